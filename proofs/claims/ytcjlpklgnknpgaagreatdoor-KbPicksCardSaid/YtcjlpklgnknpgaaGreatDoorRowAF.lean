/-
  KbPicks: the law returns true for every input, and leaves its arguments as they were. Conditions as the row has them.
-/
import Derived.Test.YtcjlpklgnknpgaaGreatDoorRowAB
import Derived.Test.YtcjlpklgnknpgaaGreatDoorXb
import Derived.Test.YtcjlpklgnknpgaaGreatDoorVe
import Derived.Test.YtcjlpklgnknpgaaGreatDoorCards
import Derived.SizedLaws
set_option linter.unusedVariables false
set_option linter.unusedSimpArgs false
set_option maxRecDepth 100000
namespace Go.Proofs.YtcjlpklgnknpgaaGreatDoor.Pg
open Go Go.RowKit Go.ChangeShapes Go.WideShapes Go.ChangeAt
theorem kbPicks_params : Tryz.f4.params = #[30, 30, 43, 3] := by kernel_rfl
theorem kbPicks_results : Tryz.f4.resultTypes = #[4] := by kernel_rfl
theorem kbPicks_lifted (os : Os) (started : os.Started) (H : Type) (enc : TypeId × Value → H) :
  ReturnsInHanded {} Tryz.checked os 4 .any (fun w args => (Rows.kbPicksSpec.pre enc Tryz.prog Tryz.f4 [] false w args ∧ laidMetH Tryz.prog rowLaid w) ∧ sizedMet enc Tryz.prog Tryz.f4 (OpenSpec.ofChange Rows.kbPicksSpec) false w args)
   (Rows.kbPicksSpec.post enc Tryz.prog Tryz.f4 false true false false) := by
 refine returns_laid (C := Tryz.checked) (X := fun w _ => laidMetH Tryz.prog rowLaid w) (fun _ _ _ hh h => h.of_heap hh) rowOwn started (by kernel_rfl) Tryz.func4
  (ChangeSpec.witness_shaped (enc := enc) (C := Tryz.checked) (os := os) (X := fun w _ => laidMetH Tryz.prog rowLaid w) false (World.laidAll Tryz.prog os rowLaid)
   #[.agg #[.slice none 0 0, .slice none 0 0, .slice none 0 0, .slice none 0 0, .slice none 0 0, .slice none 0 0, .slice none 0 0], .agg #[.slice none 0 0, .slice none 0 0, .slice none 0 0, .slice none 0 0, .slice none 0 0, .slice none 0 0, .slice none 0 0], .slice none 0 0, .int .i64 0] 8 (World.laidAll_os _ _ _) (World.shaped_of_ZipB (by kernel_rfl) (by kernel_rfl)) (by kernel_rfl) (by kernel_rfl) (by kernel_rfl)
   (by rw [MakeChecks.laidMetH_plain _ _ _ (by kernel_rfl)]; exact laidMet_laidAll _ (by kernel_rfl) (by kernel_rfl))) ?_
 intro W base args ds gs before hval0 hW hz hL hS
 have hval : ∀ (j : Nat) t v, Tryz.f4.params[j]? = some t → args[j]? = some v → Value.okWide Tryz.prog W .any base t v := hval0
 have hW' := hW
 obtain ⟨p, q, hA0, hV, rfl, hfz, hnd⟩ := hW
 have hA : DataW.TrodAll enc Tryz.prog W 0 (fun _ => true) true Tryz.f4.params.toList args.toList ds p := hA0
 rw [kbPicks_params] at hA hval
 obtain ⟨v0, v1, v2, v3, d0, d1, d2, d3, p0, p1, p2, p3, rfl, rfl, rfl, h0, h1, h2, h3⟩ := trodAll_four hA
 obtain ⟨rfl, rfl⟩ := trodVars_none hV
 have hw0 : ∀ k ∈ d0.weights Tryz.prog 30, k ≤ reachBytes := fun k hk =>
  of_decide_eq_true (List.all_eq_true.1 hz k (DataW.weights_mem_each (ts := Tryz.f4.params.toList ++ Rows.kbPicksSpec.plain.varTypes Tryz.prog) (ds := [d0, d1, d2, d3] ++ []) (j := 0) (by rw [kbPicks_params]; rfl) rfl k hk))
 have hw1 : ∀ k ∈ d1.weights Tryz.prog 30, k ≤ reachBytes := fun k hk =>
  of_decide_eq_true (List.all_eq_true.1 hz k (DataW.weights_mem_each (ts := Tryz.f4.params.toList ++ Rows.kbPicksSpec.plain.varTypes Tryz.prog) (ds := [d0, d1, d2, d3] ++ []) (j := 1) (by rw [kbPicks_params]; rfl) rfl k hk))
 have hw2 : ∀ k ∈ d2.weights Tryz.prog 43, k ≤ reachBytes := fun k hk =>
  of_decide_eq_true (List.all_eq_true.1 hz k (DataW.weights_mem_each (ts := Tryz.f4.params.toList ++ Rows.kbPicksSpec.plain.varTypes Tryz.prog) (ds := [d0, d1, d2, d3] ++ []) (j := 2) (by rw [kbPicks_params]; rfl) rfl k hk))
 have hw3 : ∀ k ∈ d3.weights Tryz.prog 3, k ≤ reachBytes := fun k hk =>
  of_decide_eq_true (List.all_eq_true.1 hz k (DataW.weights_mem_each (ts := Tryz.f4.params.toList ++ Rows.kbPicksSpec.plain.varTypes Tryz.prog) (ds := [d0, d1, d2, d3] ++ []) (j := 3) (by rw [kbPicks_params]; rfl) rfl k hk))
 obtain ⟨a, ha, hva⟩ := agg_V dec_bas (struct_agg s_bas (hval 0 30 v0 rfl rfl)) h0 hw0
 obtain ⟨b, hb, hvb⟩ := agg_V dec_bas (struct_agg s_bas (hval 1 30 v1 rfl rfl)) h1 hw1
 obtain ⟨l, hl, hvl⟩ := sca_ints (hval 2 43 v2 rfl rfl) h2 hw2
 obtain ⟨k, hk, hvk⟩ := sca_int (hval 3 3 v3 rfl rfl)
 obtain ⟨m, hLd⟩ := laid_of hL hS
 refine (law_calls (m := ⟨m, fun _ => none⟩) (vs := [v0, v1, v2, v3]) (fun j => s_KbPicks (fun j => s_awake2 m j) a ha b hb l k hl j) hLd (by simp only [Vs]; exact ⟨v0, [v1, v2, v3], rfl, hva, v1, [v2, v3], rfl, hvb, v2, [v3], rfl, hvl, v3, [], rfl, hvk, rfl⟩)).mono ?_
 rintro e W' ⟨rfl, hbe⟩
 have e4 : p0 ++ p1 ++ p2 ++ p3 ++ [] = (p0 ++ (p1 ++ (p2 ++ p3))) ++ [] := by simp only [List.append_assoc]
 rw [e4] at hW'
 have hlt : ∀ x ∈ p0 ++ (p1 ++ (p2 ++ p3)), x.block < W.heap.size := fun x hx => hW'.lt x (List.mem_append.2 (.inl hx))
 refine ⟨_, rfl, [d0, d1, d2, d3], [], (p0 ++ (p1 ++ (p2 ++ p3))) ++ [], [], (p0 ++ (p1 ++ (p2 ++ p3))), [], hW', ?_, ?_, ?_, hbe.frame _, fun h => by cases h⟩
 ·rw [kbPicks_results]; exact trodAll_mk1 shut_true
 ·rw [kbPicks_params]
  exact trodAll_mk4 (Below.trod rowLaidOut (by kernel_rfl) (of_decide_eq_true (by kernel_rfl)) h0 hbe fun x hx => hlt x (List.mem_append.2 (.inl hx)))
   (Below.trod rowLaidOut (by kernel_rfl) (of_decide_eq_true (by kernel_rfl)) h1 hbe fun x hx => hlt x (List.mem_append.2 (.inr (List.mem_append.2 (.inl hx)))))
   (Below.trod rowLaidOut (by kernel_rfl) (of_decide_eq_true (by kernel_rfl)) h2 hbe fun x hx => hlt x (List.mem_append.2 (.inr (List.mem_append.2 (.inr (List.mem_append.2 (.inl hx)))))))
   (Below.trod rowLaidOut (by kernel_rfl) (of_decide_eq_true (by kernel_rfl)) h3 hbe fun x hx => hlt x (List.mem_append.2 (.inr (List.mem_append.2 (.inr (List.mem_append.2 (.inr (hx))))))))
 ·exact rfl
theorem kbPicks_holds : Rows.KbPicksSaid :=
 OpenClaim.holds_of_wide 4 Tryz.f4 rfl rfl rfl rfl rfl rfl rfl ⟨rfl, rfl, rfl, rfl, rfl⟩ rfl rfl rfl rfl rfl (by kernel_rfl) Tryz.func4 (by kernel_rfl)
  (of_decide_eq_true (by kernel_rfl)) (by unfold Func.isWrapper; first | (rw [if_pos (by decide +kernel)]; kernel_rfl) | (rw [if_neg (by decide +kernel)]; exact ⟨rfl, rfl⟩))
  (fun os started H enc _ => kbPicks_lifted os started H enc)
theorem kbPicks_card_holds : Rows.KbPicksCardSaid :=
 Claim7.holds_tied_plain_at .later [] [.data, .data, .pinned] true (true, "7dae914f0bec6d08aab07f1d567cef77fc45235baea56c8ac534f30a2a741504") true
  kbPicks_holds (fun _ h => by cases h) (by kernel_rfl) (fun _ h => by cases h) kbPicks_row_tie rfl ⟨rfl, rfl⟩ (by kernel_rfl) rfl
  (fun f fn hf hfn => by
   obtain rfl : f = 4 := Option.some.inj ((show Tryz.prog.funcNamed "isagoge/isagogelaw02.KbPicks" = some 4 by kernel_rfl).symm.trans hf) |>.symm
   obtain rfl : fn = Tryz.f4 := (Option.some.inj (Tryz.func4.symm.trans hfn)).symm
   exact ⟨by kernel_rfl, fun j t ht => by
    rw [kbPicks_params] at ht
    have hm : t ∈ [30, 30, 43, 3] := by simpa using Array.mem_of_getElem? ht
    have hall : ([30, 30, 43, 3].all fun u => !Tryz.prog.wantsStandIn u) = true := by kernel_rfl
    exact (show Tryz.prog.wantsStandIn t = false by simpa using List.all_eq_true.1 hall t hm)⟩)
  (by kernel_rfl)
end Go.Proofs.YtcjlpklgnknpgaaGreatDoor.Pg
