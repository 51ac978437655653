/-
  InterpBoolean: the law returns true for every input, and leaves its arguments as they were. Conditions as the row has them.
-/
import Derived.Test.YtnkkeenclhncmaaDoorRowU
import Derived.Test.YtnkkeenclhncmaaDoorIs
import Derived.Test.YtnkkeenclhncmaaDoorCards
import Derived.SizedLaws
set_option linter.unusedVariables false
set_option linter.unusedSimpArgs false
set_option maxRecDepth 100000
namespace Go.Proofs.YtnkkeenclhncmaaDoor.Pg
open Go Go.RowKit Go.ChangeShapes Go.WideShapes Go.ChangeAt
theorem interpBoolean_params : Tryd.f5.params = #[24, 44, 44, 29, 3] := by kernel_rfl
theorem interpBoolean_results : Tryd.f5.resultTypes = #[4] := by kernel_rfl
theorem interpBoolean_lifted (os : Os) (started : os.Started) (H : Type) (enc : TypeId × Value → H) :
    ReturnsInHanded {} Tryd.checked os 5 .any (fun w args => (Rows.interpBooleanSpec.pre enc Tryd.prog Tryd.f5 [] false w args ∧ laidMetH Tryd.prog rowLaid2 w) ∧ sizedMet enc Tryd.prog Tryd.f5 (OpenSpec.ofChange Rows.interpBooleanSpec) false w args)
      (Rows.interpBooleanSpec.post enc Tryd.prog Tryd.f5 false true false false) := by
  refine returns_laid (C := Tryd.checked) (X := fun w _ => laidMetH Tryd.prog rowLaid2 w) (fun _ _ _ hh h => h.of_heap hh) rowOwn started (by kernel_rfl) Tryd.func5
    (ChangeSpec.witness_shaped (enc := enc) (C := Tryd.checked) (os := os) (X := fun w _ => laidMetH Tryd.prog rowLaid2 w) false (World.laidAll Tryd.prog os rowLaid2)
      #[.agg #[.slice none 0 0, .slice none 0 0, .slice none 0 0], .agg #[.int .i64 0, .int .i64 0, .slice none 0 0], .agg #[.int .i64 0, .int .i64 0, .slice none 0 0], .agg #[.int .i64 0, .slice none 0 0, .slice none 0 0, .slice none 0 0], .int .i64 0] 8 (World.laidAll_os _ _ _) (World.shaped_of_ZipB (by kernel_rfl) (by kernel_rfl)) (by kernel_rfl) (by kernel_rfl) (by kernel_rfl)
      (by rw [MakeChecks.laidMetH_plain _ _ _ (by kernel_rfl)]; exact laidMet_laidAll _ (by kernel_rfl) (by kernel_rfl))) ?_
  intro W base args ds gs before hval0 hW hz hL hS
  have hval : ∀ (j : Nat) t v, Tryd.f5.params[j]? = some t → args[j]? = some v → Value.okWide Tryd.prog W .any base t v := hval0
  have hW' := hW
  obtain ⟨p, q, hA0, hV, rfl, hfz, hnd⟩ := hW
  have hA : DataW.TrodAll enc Tryd.prog W 0 (fun _ => true) true Tryd.f5.params.toList args.toList ds p := hA0
  rw [interpBoolean_params] at hA hval
  obtain ⟨v0, v1, v2, v3, v4, d0, d1, d2, d3, d4, p0, p1, p2, p3, p4, rfl, rfl, rfl, h0, h1, h2, h3, h4⟩ := trod_five hA
  obtain ⟨rfl, rfl⟩ := trodVars_none hV
  have hw0 : ∀ k ∈ d0.weights Tryd.prog 24, k ≤ reachBytes := fun k hk =>
    of_decide_eq_true (List.all_eq_true.1 hz k (DataW.weights_mem_each (ts := Tryd.f5.params.toList ++ Rows.interpBooleanSpec.plain.varTypes Tryd.prog) (ds := [d0, d1, d2, d3, d4] ++ []) (j := 0) (by rw [interpBoolean_params]; rfl) rfl k hk))
  have hw1 : ∀ k ∈ d1.weights Tryd.prog 44, k ≤ reachBytes := fun k hk =>
    of_decide_eq_true (List.all_eq_true.1 hz k (DataW.weights_mem_each (ts := Tryd.f5.params.toList ++ Rows.interpBooleanSpec.plain.varTypes Tryd.prog) (ds := [d0, d1, d2, d3, d4] ++ []) (j := 1) (by rw [interpBoolean_params]; rfl) rfl k hk))
  have hw2 : ∀ k ∈ d2.weights Tryd.prog 44, k ≤ reachBytes := fun k hk =>
    of_decide_eq_true (List.all_eq_true.1 hz k (DataW.weights_mem_each (ts := Tryd.f5.params.toList ++ Rows.interpBooleanSpec.plain.varTypes Tryd.prog) (ds := [d0, d1, d2, d3, d4] ++ []) (j := 2) (by rw [interpBoolean_params]; rfl) rfl k hk))
  have hw3 : ∀ k ∈ d3.weights Tryd.prog 29, k ≤ reachBytes := fun k hk =>
    of_decide_eq_true (List.all_eq_true.1 hz k (DataW.weights_mem_each (ts := Tryd.f5.params.toList ++ Rows.interpBooleanSpec.plain.varTypes Tryd.prog) (ds := [d0, d1, d2, d3, d4] ++ []) (j := 3) (by rw [interpBoolean_params]; rfl) rfl k hk))
  have hw4 : ∀ k ∈ d4.weights Tryd.prog 3, k ≤ reachBytes := fun k hk =>
    of_decide_eq_true (List.all_eq_true.1 hz k (DataW.weights_mem_each (ts := Tryd.f5.params.toList ++ Rows.interpBooleanSpec.plain.varTypes Tryd.prog) (ds := [d0, d1, d2, d3, d4] ++ []) (j := 4) (by rw [interpBoolean_params]; rfl) rfl k hk))
  obtain ⟨n, hn, hvn⟩ := agg_V dec_nms (struct_agg s_nms (hval 0 24 v0 rfl rfl)) h0 hw0
  obtain ⟨c, hc, hvc⟩ := agg_V dec_con (struct_agg s_con (hval 1 44 v1 rfl rfl)) h1 hw1
  obtain ⟨d, hd, hvd⟩ := agg_V dec_con (struct_agg s_con (hval 2 44 v2 rfl rfl)) h2 hw2
  obtain ⟨i, hi, hvi⟩ := agg_V dec_itp (struct_agg s_itp (hval 3 29 v3 rfl rfl)) h3 hw3
  obtain ⟨r, hr, hvr⟩ := sca_int (hval 4 3 v4 rfl rfl)
  obtain ⟨m, hLd, hdu⟩ := laid_of2 hL hS
  refine (law_calls (m := m) (vs := [v0, v1, v2, v3, v4]) (fun j => s_InterpBoolean hdu (fun j => s_awake3 j) n hn.1 hn.2 c hc d hd i hi r hr j) hLd (by simp only [Vs]; exact ⟨v0, [v1, v2, v3, v4], rfl, hvn, v1, [v2, v3, v4], rfl, hvc, v2, [v3, v4], rfl, hvd, v3, [v4], rfl, hvi, v4, [], rfl, hvr, rfl⟩)).mono ?_
  rintro e W' ⟨rfl, hbe⟩
  have hlt : ∀ x ∈ p0 ++ (p1 ++ (p2 ++ (p3 ++ p4))), x.block < W.heap.size := fun x hx => hW'.lt x (List.mem_append.2 (.inl hx))
  refine ⟨_, rfl, [d0, d1, d2, d3, d4], [], (p0 ++ (p1 ++ (p2 ++ (p3 ++ p4)))) ++ [], [], (p0 ++ (p1 ++ (p2 ++ (p3 ++ p4)))), [], hW', ?_, ?_, ?_, hbe.frame _, fun h => by cases h⟩
  · rw [interpBoolean_results]; exact trodAll_mk1 shut_true
  · rw [interpBoolean_params]
    exact trod_mk5 (Below.trod rowLaidOut (by kernel_rfl) (of_decide_eq_true (by kernel_rfl)) h0 hbe fun x hx => hlt x (List.mem_append.2 (.inl hx)))
      (Below.trod rowLaidOut (by kernel_rfl) (of_decide_eq_true (by kernel_rfl)) h1 hbe fun x hx => hlt x (List.mem_append.2 (.inr (List.mem_append.2 (.inl hx)))))
      (Below.trod rowLaidOut (by kernel_rfl) (of_decide_eq_true (by kernel_rfl)) h2 hbe fun x hx => hlt x (List.mem_append.2 (.inr (List.mem_append.2 (.inr (List.mem_append.2 (.inl hx)))))))
      (Below.trod rowLaidOut (by kernel_rfl) (of_decide_eq_true (by kernel_rfl)) h3 hbe fun x hx => hlt x (List.mem_append.2 (.inr (List.mem_append.2 (.inr (List.mem_append.2 (.inr (List.mem_append.2 (.inl hx)))))))))
      (Below.trod rowLaidOut (by kernel_rfl) (of_decide_eq_true (by kernel_rfl)) h4 hbe fun x hx => hlt x (List.mem_append.2 (.inr (List.mem_append.2 (.inr (List.mem_append.2 (.inr (List.mem_append.2 (.inr (hx))))))))))
  · exact rfl
theorem interpBoolean_holds : Rows.InterpBooleanSaid :=
  OpenClaim.holds_of_wide 5 Tryd.f5 rfl rfl rfl rfl rfl rfl rfl ⟨rfl, rfl, rfl, rfl, rfl⟩ rfl rfl rfl rfl rfl (by kernel_rfl) Tryd.func5 (by kernel_rfl)
    (of_decide_eq_true (by kernel_rfl)) (by unfold Func.isWrapper; first | (rw [if_pos (by decide +kernel)]; kernel_rfl) | (rw [if_neg (by decide +kernel)]; exact ⟨rfl, rfl⟩))
    (fun os started H enc _ => interpBoolean_lifted os started H enc)
theorem interpBoolean_card_holds : Rows.InterpBooleanCardSaid :=
  Claim7.holds_tied_plain_at .later [] [.data, .data] true (true, "16678a13640a78f385b6de443c7ab7fa399db3dbde5b23dfcb942104c301c918") false
    interpBoolean_holds (fun _ h => by cases h) (by kernel_rfl) (fun _ h => by cases h) interpBoolean_row_tie rfl ⟨rfl, rfl⟩ (by kernel_rfl) rfl
    (fun f fn hf hfn => by
      obtain rfl : f = 5 := Option.some.inj ((show Tryd.prog.funcNamed "isagoge/isagogelaw03.InterpBoolean" = some 5 by kernel_rfl).symm.trans hf) |>.symm
      obtain rfl : fn = Tryd.f5 := (Option.some.inj (Tryd.func5.symm.trans hfn)).symm
      exact ⟨by kernel_rfl, fun j t ht => by
        rw [interpBoolean_params] at ht
        have hm : t ∈ [24, 44, 44, 29, 3] := by simpa using Array.mem_of_getElem? ht
        have hall : ([24, 44, 44, 29, 3].all fun u => !Tryd.prog.wantsStandIn u) = true := by kernel_rfl
        exact (show Tryd.prog.wantsStandIn t = false by simpa using List.all_eq_true.1 hall t hm)⟩)
    (by kernel_rfl)
end Go.Proofs.YtnkkeenclhncmaaDoor.Pg
