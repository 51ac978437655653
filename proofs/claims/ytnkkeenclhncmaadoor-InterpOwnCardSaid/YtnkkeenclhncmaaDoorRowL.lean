/-
  InterpOwn: the law returns true for every input, and leaves its arguments as they were. Conditions as the row has them.
-/
import Derived.Test.YtnkkeenclhncmaaDoorRowK
import Derived.Test.YtnkkeenclhncmaaDoorKg
import Derived.Test.YtnkkeenclhncmaaDoorCards
import Derived.SizedLaws
set_option linter.unusedVariables false
set_option linter.unusedSimpArgs false
set_option maxRecDepth 100000
namespace Go.Proofs.YtnkkeenclhncmaaDoor.Pg
open Go Go.RowKit Go.ChangeShapes Go.WideShapes Go.ChangeAt
theorem GG_none {n : Int} : ∀ g cs, GG ⟨n, fun _ => none⟩ g = some cs → AV.pures cs = true := by
  intro g cs h
  unfold GG at h
  repeat' split at h
  all_goals first | (cases h; rfl) | cases h
theorem laid_of1 {W : World} (h : laidMetH Tryd.prog rowLaid W) (hs : W.ShapedOpen Tryd.prog) : ∃ m, Laid m W ∧ ∀ g cs, GG m g = some cs → AV.pures cs = true := by
  obtain ⟨m, hm⟩ := max_cell hs
  rw [MakeChecks.laidMetH_plain _ _ _ (by kernel_rfl)] at h
  obtain ⟨ps, ⟨g0, t0, cs0, f0, p0, q0, hg0, ht0, hv0, hd0, _⟩, _⟩ := h
  exact ⟨⟨m, fun _ => none⟩, ⟨hm, of_table rfl gArgs tArgs hg0 ht0 hv0 hd0, fun g cs e => by cases e⟩, GG_none⟩
theorem interpOwn_params : Tryd.f6.params = #[66, 44, 29, 3] := by kernel_rfl
theorem interpOwn_results : Tryd.f6.resultTypes = #[4] := by kernel_rfl
theorem interpOwn_lifted (os : Os) (started : os.Started) (H : Type) (enc : TypeId × Value → H) :
    ReturnsInHanded {} Tryd.checked os 6 .any (fun w args => (Rows.interpOwnSpec.pre enc Tryd.prog Tryd.f6 [] false w args ∧ laidMetH Tryd.prog rowLaid w) ∧ sizedMet enc Tryd.prog Tryd.f6 (OpenSpec.ofChange Rows.interpOwnSpec) false w args)
      (Rows.interpOwnSpec.post enc Tryd.prog Tryd.f6 false true false false) := by
  refine returns_laid (C := Tryd.checked) (X := fun w _ => laidMetH Tryd.prog rowLaid w) (fun _ _ _ hh h => h.of_heap hh) rowOwn started (by kernel_rfl) Tryd.func6
    (ChangeSpec.witness_shaped (enc := enc) (C := Tryd.checked) (os := os) (X := fun w _ => laidMetH Tryd.prog rowLaid w) false (World.laidAll Tryd.prog os rowLaid)
      #[.agg #[.slice none 0 0, .slice none 0 0, .slice none 0 0, .slice none 0 0, .slice none 0 0, .slice none 0 0, .slice none 0 0], .agg #[.int .i64 0, .int .i64 0, .slice none 0 0], .agg #[.int .i64 0, .slice none 0 0, .slice none 0 0, .slice none 0 0], .int .i64 0] 8 (World.laidAll_os _ _ _) (World.shaped_of_ZipB (by kernel_rfl) (by kernel_rfl)) (by kernel_rfl) (by kernel_rfl) (by kernel_rfl)
      (by rw [MakeChecks.laidMetH_plain _ _ _ (by kernel_rfl)]; exact laidMet_laidAll _ (by kernel_rfl) (by kernel_rfl))) ?_
  intro W base args ds gs before hval0 hW hz hL hS
  have hval : ∀ (j : Nat) t v, Tryd.f6.params[j]? = some t → args[j]? = some v → Value.okWide Tryd.prog W .any base t v := hval0
  have hW' := hW
  obtain ⟨p, q, hA0, hV, rfl, hfz, hnd⟩ := hW
  have hA : DataW.TrodAll enc Tryd.prog W 0 (fun _ => true) true Tryd.f6.params.toList args.toList ds p := hA0
  rw [interpOwn_params] at hA hval
  obtain ⟨v0, v1, v2, v3, d0, d1, d2, d3, p0, p1, p2, p3, rfl, rfl, rfl, h0, h1, h2, h3⟩ := trodAll_four hA
  obtain ⟨rfl, rfl⟩ := trodVars_none hV
  have hw0 : ∀ k ∈ d0.weights Tryd.prog 66, k ≤ reachBytes := fun k hk =>
    of_decide_eq_true (List.all_eq_true.1 hz k (DataW.weights_mem_each (ts := Tryd.f6.params.toList ++ Rows.interpOwnSpec.plain.varTypes Tryd.prog) (ds := [d0, d1, d2, d3] ++ []) (j := 0) (by rw [interpOwn_params]; rfl) rfl k hk))
  have hw1 : ∀ k ∈ d1.weights Tryd.prog 44, k ≤ reachBytes := fun k hk =>
    of_decide_eq_true (List.all_eq_true.1 hz k (DataW.weights_mem_each (ts := Tryd.f6.params.toList ++ Rows.interpOwnSpec.plain.varTypes Tryd.prog) (ds := [d0, d1, d2, d3] ++ []) (j := 1) (by rw [interpOwn_params]; rfl) rfl k hk))
  have hw2 : ∀ k ∈ d2.weights Tryd.prog 29, k ≤ reachBytes := fun k hk =>
    of_decide_eq_true (List.all_eq_true.1 hz k (DataW.weights_mem_each (ts := Tryd.f6.params.toList ++ Rows.interpOwnSpec.plain.varTypes Tryd.prog) (ds := [d0, d1, d2, d3] ++ []) (j := 2) (by rw [interpOwn_params]; rfl) rfl k hk))
  have hw3 : ∀ k ∈ d3.weights Tryd.prog 3, k ≤ reachBytes := fun k hk =>
    of_decide_eq_true (List.all_eq_true.1 hz k (DataW.weights_mem_each (ts := Tryd.f6.params.toList ++ Rows.interpOwnSpec.plain.varTypes Tryd.prog) (ds := [d0, d1, d2, d3] ++ []) (j := 3) (by rw [interpOwn_params]; rfl) rfl k hk))
  obtain ⟨b, hb, hvb⟩ := agg_V dec_bas (struct_agg s_bas (hval 0 66 v0 rfl rfl)) h0 hw0
  obtain ⟨c, hc, hvc⟩ := agg_V dec_con (struct_agg s_con (hval 1 44 v1 rfl rfl)) h1 hw1
  obtain ⟨i, hi, hvi⟩ := agg_V dec_itp (struct_agg s_itp (hval 2 29 v2 rfl rfl)) h2 hw2
  obtain ⟨r, hr, hvr⟩ := sca_int (hval 3 3 v3 rfl rfl)
  obtain ⟨m, hLd, hG⟩ := laid_of1 hL hS
  refine (law_calls (m := m) (vs := [v0, v1, v2, v3]) (fun j => s_InterpOwn hG (fun j => s_awake3 j) b hb c hc i hi r j) hLd (by simp only [Vs]; exact ⟨v0, [v1, v2, v3], rfl, hvb, v1, [v2, v3], rfl, hvc, v2, [v3], rfl, hvi, v3, [], rfl, hvr, rfl⟩)).mono ?_
  rintro e W' ⟨rfl, hbe⟩
  have e4 : p0 ++ p1 ++ p2 ++ p3 ++ [] = (p0 ++ (p1 ++ (p2 ++ p3))) ++ [] := by simp only [List.append_assoc]
  rw [e4] at hW'
  have hlt : ∀ x ∈ p0 ++ (p1 ++ (p2 ++ p3)), x.block < W.heap.size := fun x hx => hW'.lt x (List.mem_append.2 (.inl hx))
  refine ⟨_, rfl, [d0, d1, d2, d3], [], (p0 ++ (p1 ++ (p2 ++ p3))) ++ [], [], (p0 ++ (p1 ++ (p2 ++ p3))), [], hW', ?_, ?_, ?_, hbe.frame _, fun h => by cases h⟩
  · rw [interpOwn_results]; exact trodAll_mk1 shut_true
  · rw [interpOwn_params]
    exact trodAll_mk4 (Below.trod rowLaidOut (by kernel_rfl) (of_decide_eq_true (by kernel_rfl)) h0 hbe fun x hx => hlt x (List.mem_append.2 (.inl hx)))
      (Below.trod rowLaidOut (by kernel_rfl) (of_decide_eq_true (by kernel_rfl)) h1 hbe fun x hx => hlt x (List.mem_append.2 (.inr (List.mem_append.2 (.inl hx)))))
      (Below.trod rowLaidOut (by kernel_rfl) (of_decide_eq_true (by kernel_rfl)) h2 hbe fun x hx => hlt x (List.mem_append.2 (.inr (List.mem_append.2 (.inr (List.mem_append.2 (.inl hx)))))))
      (Below.trod rowLaidOut (by kernel_rfl) (of_decide_eq_true (by kernel_rfl)) h3 hbe fun x hx => hlt x (List.mem_append.2 (.inr (List.mem_append.2 (.inr (List.mem_append.2 (.inr (hx))))))))
  · exact rfl
theorem interpOwn_holds : Rows.InterpOwnSaid :=
  OpenClaim.holds_of_wide 6 Tryd.f6 rfl rfl rfl rfl rfl rfl rfl ⟨rfl, rfl, rfl, rfl, rfl⟩ rfl rfl rfl rfl rfl (by kernel_rfl) Tryd.func6 (by kernel_rfl)
    (of_decide_eq_true (by kernel_rfl)) (by unfold Func.isWrapper; first | (rw [if_pos (by decide +kernel)]; kernel_rfl) | (rw [if_neg (by decide +kernel)]; exact ⟨rfl, rfl⟩))
    (fun os started H enc _ => interpOwn_lifted os started H enc)
theorem interpOwn_card_holds : Rows.InterpOwnCardSaid :=
  Claim7.holds_tied_plain_at .later [] [.data] true (true, "16678a13640a78f385b6de443c7ab7fa399db3dbde5b23dfcb942104c301c918") false
    interpOwn_holds (fun _ h => by cases h) (by kernel_rfl) (fun _ h => by cases h) interpOwn_row_tie rfl ⟨rfl, rfl⟩ (by kernel_rfl) rfl
    (fun f fn hf hfn => by
      obtain rfl : f = 6 := Option.some.inj ((show Tryd.prog.funcNamed "isagoge/isagogelaw03.InterpOwn" = some 6 by kernel_rfl).symm.trans hf) |>.symm
      obtain rfl : fn = Tryd.f6 := (Option.some.inj (Tryd.func6.symm.trans hfn)).symm
      exact ⟨by kernel_rfl, fun j t ht => by
        rw [interpOwn_params] at ht
        have hm : t ∈ [66, 44, 29, 3] := by simpa using Array.mem_of_getElem? ht
        have hall : ([66, 44, 29, 3].all fun u => !Tryd.prog.wantsStandIn u) = true := by kernel_rfl
        exact (show Tryd.prog.wantsStandIn t = false by simpa using List.all_eq_true.1 hall t hm)⟩)
    (by kernel_rfl)
end Go.Proofs.YtnkkeenclhncmaaDoor.Pg
