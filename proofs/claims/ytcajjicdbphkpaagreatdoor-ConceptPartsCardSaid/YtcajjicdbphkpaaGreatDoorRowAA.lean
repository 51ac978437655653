/-
  ConceptParts: the law returns true for every input, and leaves its arguments as they were. Conditions as the row has them.
-/
import Derived.Test.YtcajjicdbphkpaaGreatDoorRowP
import Derived.Test.YtcajjicdbphkpaaGreatDoorUp
import Derived.Test.YtcajjicdbphkpaaGreatDoorCards
import Derived.SizedLaws
set_option linter.unusedVariables false
set_option linter.unusedSimpArgs false
set_option maxRecDepth 100000
namespace Go.Proofs.YtcajjicdbphkpaaGreatDoor.Pg
open Go Go.RowKit Go.ChangeShapes Go.WideShapes Go.ChangeAt
theorem conceptParts_params : Tryz.f3.params = #[24, 27] := by kernel_rfl
theorem conceptParts_results : Tryz.f3.resultTypes = #[4] := by kernel_rfl
theorem conceptParts_lifted (os : Os) (started : os.Started) (H : Type) (enc : TypeId × Value → H) :
    ReturnsInHanded {} Tryz.checked os 3 .any (fun w args => (Rows.conceptPartsSpec.pre enc Tryz.prog Tryz.f3 [] false w args ∧ laidMetH Tryz.prog rowLaid w) ∧ sizedMet enc Tryz.prog Tryz.f3 (OpenSpec.ofChange Rows.conceptPartsSpec) false w args)
      (Rows.conceptPartsSpec.post enc Tryz.prog Tryz.f3 false true false false) := by
  refine returns_laid (C := Tryz.checked) (X := fun w _ => laidMetH Tryz.prog rowLaid w) (fun _ _ _ hh h => h.of_heap hh) rowOwn started (by kernel_rfl) Tryz.func3
    (ChangeSpec.witness_shaped (enc := enc) (C := Tryz.checked) (os := os) (X := fun w _ => laidMetH Tryz.prog rowLaid w) false (World.laidAll Tryz.prog os rowLaid)
      #[.agg #[.slice none 0 0, .slice none 0 0, .slice none 0 0], .agg #[.int .i64 0, .int .i64 0, .slice none 0 0]] 8 (World.laidAll_os _ _ _) (World.shaped_of_ZipB (by kernel_rfl) (by kernel_rfl)) (by kernel_rfl) (by kernel_rfl) (by kernel_rfl)
      (by rw [MakeChecks.laidMetH_plain _ _ _ (by kernel_rfl)]; exact laidMet_laidAll _ (by kernel_rfl) (by kernel_rfl))) ?_
  intro W base args ds gs before hval0 hW hz hL hS
  have hval : ∀ (j : Nat) t v, Tryz.f3.params[j]? = some t → args[j]? = some v → Value.okWide Tryz.prog W .any base t v := hval0
  have hW' := hW
  obtain ⟨p, q, hA0, hV, rfl, hfz, hnd⟩ := hW
  have hA : DataW.TrodAll enc Tryz.prog W 0 (fun _ => true) true Tryz.f3.params.toList args.toList ds p := hA0
  rw [conceptParts_params] at hA hval
  obtain ⟨v0, v1, d0, d1, p0, p1, rfl, rfl, rfl, h0, h1⟩ := trodAll_two hA
  obtain ⟨rfl, rfl⟩ := trodVars_none hV
  have hw0 : ∀ k ∈ d0.weights Tryz.prog 24, k ≤ reachBytes := fun k hk =>
    of_decide_eq_true (List.all_eq_true.1 hz k (DataW.weights_mem_each (ts := Tryz.f3.params.toList ++ Rows.conceptPartsSpec.plain.varTypes Tryz.prog) (ds := [d0, d1] ++ []) (j := 0) (by rw [conceptParts_params]; rfl) rfl k hk))
  have hw1 : ∀ k ∈ d1.weights Tryz.prog 27, k ≤ reachBytes := fun k hk =>
    of_decide_eq_true (List.all_eq_true.1 hz k (DataW.weights_mem_each (ts := Tryz.f3.params.toList ++ Rows.conceptPartsSpec.plain.varTypes Tryz.prog) (ds := [d0, d1] ++ []) (j := 1) (by rw [conceptParts_params]; rfl) rfl k hk))
  obtain ⟨n, hn, hvn⟩ := agg_V dec_nms (struct_agg s_nms (hval 0 24 v0 rfl rfl)) h0 hw0
  obtain ⟨c, hc, hvc⟩ := agg_V dec_con (struct_agg s_con (hval 1 27 v1 rfl rfl)) h1 hw1
  obtain ⟨m, hLd⟩ := laid_of hL hS
  refine (law_calls (m := m) (vs := [v0, v1]) (fun j => s_ConceptParts n hn.1 hn.2 c hc j) hLd (by simp only [Vs]; exact ⟨v0, [v1], rfl, hvn, v1, [], rfl, hvc, rfl⟩)).mono ?_
  rintro e W' ⟨rfl, hbe⟩
  have hlt : ∀ x ∈ p0 ++ p1, x.block < W.heap.size := fun x hx => hW'.lt x (List.mem_append.2 (.inl hx))
  refine ⟨_, rfl, [d0, d1], [], (p0 ++ p1) ++ [], [], (p0 ++ p1), [], hW', ?_, ?_, ?_, hbe.frame _, fun h => by cases h⟩
  · rw [conceptParts_results]; exact trodAll_mk1 shut_true
  · rw [conceptParts_params]
    exact trodAll_mk2 (Below.trod rowLaidOut (by kernel_rfl) (of_decide_eq_true (by kernel_rfl)) h0 hbe fun x hx => hlt x (List.mem_append.2 (.inl hx)))
      (Below.trod rowLaidOut (by kernel_rfl) (of_decide_eq_true (by kernel_rfl)) h1 hbe fun x hx => hlt x (List.mem_append.2 (.inr (hx))))
  · exact rfl
theorem conceptParts_holds : Rows.ConceptPartsSaid :=
  OpenClaim.holds_of_wide 3 Tryz.f3 rfl rfl rfl rfl rfl rfl rfl ⟨rfl, rfl, rfl, rfl, rfl⟩ rfl rfl rfl rfl rfl (by kernel_rfl) Tryz.func3 (by kernel_rfl)
    (of_decide_eq_true (by kernel_rfl)) (by unfold Func.isWrapper; first | (rw [if_pos (by decide +kernel)]; kernel_rfl) | (rw [if_neg (by decide +kernel)]; exact ⟨rfl, rfl⟩))
    (fun os started H enc _ => conceptParts_lifted os started H enc)
theorem conceptParts_card_holds : Rows.ConceptPartsCardSaid :=
  Claim7.holds_tied_plain_at .later [] [.data, .data] true (true, "b2a63ecf349474367597234baa38b042e139c95a546db6c3d06b862c3e41d91a") true
    conceptParts_holds (fun _ h => by cases h) (by kernel_rfl) (fun _ h => by cases h) conceptParts_row_tie rfl ⟨rfl, rfl⟩ (by kernel_rfl) rfl
    (fun f fn hf hfn => by
      obtain rfl : f = 3 := Option.some.inj ((show Tryz.prog.funcNamed "isagoge/isagogelaw01.ConceptParts" = some 3 by kernel_rfl).symm.trans hf) |>.symm
      obtain rfl : fn = Tryz.f3 := (Option.some.inj (Tryz.func3.symm.trans hfn)).symm
      exact ⟨by kernel_rfl, fun j t ht => by
        rw [conceptParts_params] at ht
        have hm : t ∈ [24, 27] := by simpa using Array.mem_of_getElem? ht
        have hall : ([24, 27].all fun u => !Tryz.prog.wantsStandIn u) = true := by kernel_rfl
        exact (show Tryz.prog.wantsStandIn t = false by simpa using List.all_eq_true.1 hall t hm)⟩)
    (by kernel_rfl)
end Go.Proofs.YtcajjicdbphkpaaGreatDoor.Pg
