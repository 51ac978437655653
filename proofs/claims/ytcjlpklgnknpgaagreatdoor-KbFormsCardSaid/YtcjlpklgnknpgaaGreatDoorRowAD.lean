/-
  KbForms: the law returns true for every input, and leaves its arguments as they were. Conditions as the row has them.
-/
import Derived.Test.YtcjlpklgnknpgaaGreatDoorRowAB
import Derived.Test.YtcjlpklgnknpgaaGreatDoorWl
import Derived.Test.YtcjlpklgnknpgaaGreatDoorVe
import Derived.Test.YtcjlpklgnknpgaaGreatDoorCards
import Derived.SizedLaws
set_option linter.unusedVariables false
set_option linter.unusedSimpArgs false
set_option maxRecDepth 100000
namespace Go.Proofs.YtcjlpklgnknpgaaGreatDoor.Pg
open Go Go.RowKit Go.ChangeShapes Go.WideShapes Go.ChangeAt
theorem kbForms_params : Tryz.f6.params = #[30] := by kernel_rfl
theorem kbForms_results : Tryz.f6.resultTypes = #[4] := by kernel_rfl
theorem kbForms_lifted (os : Os) (started : os.Started) (H : Type) (enc : TypeId × Value → H) :
    ReturnsInHanded {} Tryz.checked os 6 .any (fun w args => (Rows.kbFormsSpec.pre enc Tryz.prog Tryz.f6 [] false w args ∧ laidMetH Tryz.prog rowLaid w) ∧ sizedMet enc Tryz.prog Tryz.f6 (OpenSpec.ofChange Rows.kbFormsSpec) false w args)
      (Rows.kbFormsSpec.post enc Tryz.prog Tryz.f6 false true false false) := by
  refine returns_laid (C := Tryz.checked) (X := fun w _ => laidMetH Tryz.prog rowLaid w) (fun _ _ _ hh h => h.of_heap hh) rowOwn started (by kernel_rfl) Tryz.func6
    (ChangeSpec.witness_shaped (enc := enc) (C := Tryz.checked) (os := os) (X := fun w _ => laidMetH Tryz.prog rowLaid w) false (World.laidAll Tryz.prog os rowLaid)
      #[.agg #[.slice none 0 0, .slice none 0 0, .slice none 0 0, .slice none 0 0, .slice none 0 0, .slice none 0 0, .slice none 0 0]] 8 (World.laidAll_os _ _ _) (World.shaped_of_ZipB (by kernel_rfl) (by kernel_rfl)) (by kernel_rfl) (by kernel_rfl) (by kernel_rfl)
      (by rw [MakeChecks.laidMetH_plain _ _ _ (by kernel_rfl)]; exact laidMet_laidAll _ (by kernel_rfl) (by kernel_rfl))) ?_
  intro W base args ds gs before hval0 hW hz hL hS
  have hval : ∀ (j : Nat) t v, Tryz.f6.params[j]? = some t → args[j]? = some v → Value.okWide Tryz.prog W .any base t v := hval0
  have hW' := hW
  obtain ⟨p0, q, hA0, hV, rfl, hfz, hnd⟩ := hW
  have hA : DataW.TrodAll enc Tryz.prog W 0 (fun _ => true) true Tryz.f6.params.toList args.toList ds p0 := hA0
  rw [kbForms_params] at hA hval
  obtain ⟨v0, d0, rfl, rfl, h0⟩ := trodAll_one hA
  obtain ⟨rfl, rfl⟩ := trodVars_none hV
  have hw0 : ∀ k ∈ d0.weights Tryz.prog 30, k ≤ reachBytes := fun k hk =>
    of_decide_eq_true (List.all_eq_true.1 hz k (DataW.weights_mem_each (ts := Tryz.f6.params.toList ++ Rows.kbFormsSpec.plain.varTypes Tryz.prog) (ds := [d0] ++ []) (j := 0) (by rw [kbForms_params]; rfl) rfl k hk))
  obtain ⟨b, hb, hvb⟩ := agg_V dec_bas (struct_agg s_bas (hval 0 30 v0 rfl rfl)) h0 hw0
  obtain ⟨m, hLd⟩ := laid_of hL hS
  refine (law_calls (m := ⟨m, fun _ => none⟩) (vs := [v0]) (fun j => s_KbForms (fun j => s_awake2 m j) b hb j) hLd (by simp only [Vs]; exact ⟨v0, [], rfl, hvb, rfl⟩)).mono ?_
  rintro e W' ⟨rfl, hbe⟩
  have hlt : ∀ x ∈ p0, x.block < W.heap.size := fun x hx => hW'.lt x (List.mem_append.2 (.inl hx))
  refine ⟨_, rfl, [d0], [], p0 ++ [], [], p0, [], hW', ?_, ?_, ?_, hbe.frame _, fun h => by cases h⟩
  · rw [kbForms_results]; exact trodAll_mk1 shut_true
  · rw [kbForms_params]
    exact trodAll_mk1 (Below.trod rowLaidOut (by kernel_rfl) (of_decide_eq_true (by kernel_rfl)) h0 hbe fun x hx => hlt x (hx))
  · exact rfl
theorem kbForms_holds : Rows.KbFormsSaid :=
  OpenClaim.holds_of_wide 6 Tryz.f6 rfl rfl rfl rfl rfl rfl rfl ⟨rfl, rfl, rfl, rfl, rfl⟩ rfl rfl rfl rfl rfl (by kernel_rfl) Tryz.func6 (by kernel_rfl)
    (of_decide_eq_true (by kernel_rfl)) (by unfold Func.isWrapper; first | (rw [if_pos (by decide +kernel)]; kernel_rfl) | (rw [if_neg (by decide +kernel)]; exact ⟨rfl, rfl⟩))
    (fun os started H enc _ => kbForms_lifted os started H enc)
theorem kbForms_card_holds : Rows.KbFormsCardSaid :=
  Claim7.holds_tied_plain_at .later [] [.data, .data, .pinned] true (true, "7dae914f0bec6d08aab07f1d567cef77fc45235baea56c8ac534f30a2a741504") true
    kbForms_holds (fun _ h => by cases h) (by kernel_rfl) (fun _ h => by cases h) kbForms_row_tie rfl ⟨rfl, rfl⟩ (by kernel_rfl) rfl
    (fun f fn hf hfn => by
      obtain rfl : f = 6 := Option.some.inj ((show Tryz.prog.funcNamed "isagoge/isagogelaw02.KbForms" = some 6 by kernel_rfl).symm.trans hf) |>.symm
      obtain rfl : fn = Tryz.f6 := (Option.some.inj (Tryz.func6.symm.trans hfn)).symm
      exact ⟨by kernel_rfl, fun j t ht => by
        rw [kbForms_params] at ht
        have hm : t ∈ [30] := by simpa using Array.mem_of_getElem? ht
        have hall : ([30].all fun u => !Tryz.prog.wantsStandIn u) = true := by kernel_rfl
        exact (show Tryz.prog.wantsStandIn t = false by simpa using List.all_eq_true.1 hall t hm)⟩)
    (by kernel_rfl)
end Go.Proofs.YtcjlpklgnknpgaaGreatDoor.Pg
