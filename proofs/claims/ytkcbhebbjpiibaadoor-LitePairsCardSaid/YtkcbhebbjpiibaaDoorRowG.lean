/-
  LITEPAIRS: the law returns true for every input, and leaves its arguments as they were. Conditions as the row has them: the package's table of arities reads as listed (the card ties it to the program's text); data that lead back to themselves are left out; each string and slice takes at most what the row's reach says.
-/
import Derived.Test.YtkcbhebbjpiibaaDoorRowD
import Derived.Test.YtkcbhebbjpiibaaDoorNe
import Derived.Test.YtkcbhebbjpiibaaDoorCards
import Derived.SizedLaws
set_option linter.unusedVariables false
set_option linter.unusedSimpArgs false
set_option maxRecDepth 100000
namespace Go.Proofs.YtkcbhebbjpiibaaDoor.Pg
open Go Go.RowKit Go.ChangeShapes Go.WideShapes Go.ChangeAt
open Nat renaming reduceEqDiff → zA, reduceAdd → zB, reduceMul → zC, reduceSub → zD, reduceLT → zE, reduceLeDiff → zF
open Int renaming reduceAdd → zG, reduceSub → zH, reduceMul → zI, reduceNeg → zJ, reduceToNat → zK, reduceEq → zL, reduceLT → zM, reduceLE → zN
theorem pairsParams : Tryd.f3.params = #[30] := by kernel_rfl
theorem pairsResults : Tryd.f3.resultTypes = #[4] := by kernel_rfl
theorem pairs_lifted (os : Os) (started : os.Started) (H : Type) (enc : TypeId × Value → H) :
    ReturnsInHanded {} Tryd.checked os 3 .any (fun w args => (Rows.litePairsSpec.pre enc Tryd.prog Tryd.f3 [] false w args ∧ laidMetH Tryd.prog rowLaid w) ∧ sizedMet enc Tryd.prog Tryd.f3 (OpenSpec.ofChange Rows.litePairsSpec) false w args)
      (Rows.litePairsSpec.post enc Tryd.prog Tryd.f3 false true false false) := by
  refine returns_laid (C := Tryd.checked) (X := fun w _ => laidMetH Tryd.prog rowLaid w) (fun _ _ _ hh h => h.of_heap hh) rowOwn started (by kernel_rfl) Tryd.func3
    (ChangeSpec.witness_shaped (enc := enc) (C := Tryd.checked) (os := os) (X := fun w _ => laidMetH Tryd.prog rowLaid w) false (World.laidAll Tryd.prog os rowLaid)
      #[.agg #[.slice none 0 0, .slice none 0 0, .slice none 0 0, .slice none 0 0, .slice none 0 0, .slice none 0 0, .slice none 0 0]] 8 (World.laidAll_os _ _ _) (World.shaped_of_ZipB (by kernel_rfl) (by kernel_rfl)) (by kernel_rfl) (by kernel_rfl) (by kernel_rfl)
      (by rw [MakeChecks.laidMetH_plain _ _ _ (by kernel_rfl)]; exact laidMet_laidAll _ (by kernel_rfl) (by kernel_rfl))) ?_
  intro W base args ds gs before hval0 hW hz hL hS
  have hval : ∀ (j : Nat) t v, Tryd.f3.params[j]? = some t → args[j]? = some v → Value.okWide Tryd.prog W .any base t v := hval0
  have hW' := hW
  obtain ⟨p, q, hA0, hV, rfl, hfz, hnd⟩ := hW
  have hA : DataW.TrodAll enc Tryd.prog W 0 (fun _ => true) true Tryd.f3.params.toList args.toList ds p := hA0
  rw [pairsParams] at hA hval
  obtain ⟨v0, d0, rfl, rfl, h0⟩ := trodAll_one hA
  obtain ⟨rfl, rfl⟩ := trodVars_none hV
  have hw0 : ∀ k ∈ d0.weights Tryd.prog 30, k ≤ reachBytes := fun k hk =>
    of_decide_eq_true (List.all_eq_true.1 hz k (DataW.weights_mem_each (ts := Tryd.f3.params.toList ++ Rows.litePairsSpec.plain.varTypes Tryd.prog) (ds := [d0] ++ []) (j := 0) (by rw [pairsParams]; rfl) rfl k hk))
  obtain ⟨b, hb, hvb⟩ := agg_V dec_bas (struct_agg s_bas (hval 0 30 v0 rfl rfl)) h0 hw0
  obtain ⟨m, hLd⟩ := laid_of hL hS
  refine (law_calls (m := m) (vs := [v0]) (fun j => s_LitePairs b hb j) hLd (by simp only [Vs]; exact ⟨v0, [], rfl, hvb, rfl⟩)).mono ?_
  rintro e W' ⟨rfl, hbe⟩
  have hlt : ∀ x ∈ p, x.block < W.heap.size := fun x hx => hW'.lt x (List.mem_append.2 (.inl hx))
  refine ⟨_, rfl, [d0], [], p ++ [], [], p, [], hW', ?_, ?_, ?_, hbe.frame _, fun h => by cases h⟩
  · rw [pairsResults]; exact trodAll_mk1 shut_true
  · rw [pairsParams]
    exact trodAll_mk1 (Below.trod rowLaidOut (by kernel_rfl) (of_decide_eq_true (by kernel_rfl)) h0 hbe hlt)
  · exact rfl
theorem pairs_holds : Rows.LitePairsSaid :=
  OpenClaim.holds_of_wide 3 Tryd.f3 rfl rfl rfl rfl rfl rfl rfl ⟨rfl, rfl, rfl, rfl, rfl⟩ rfl rfl rfl rfl rfl (by kernel_rfl) Tryd.func3 (by kernel_rfl)
    (of_decide_eq_true (by kernel_rfl)) (by unfold Func.isWrapper; first | (rw [if_pos (by decide +kernel)]; kernel_rfl) | (rw [if_neg (by decide +kernel)]; exact ⟨rfl, rfl⟩))
    (fun os started H enc _ => pairs_lifted os started H enc)
theorem pairs_card_holds : Rows.LitePairsCardSaid :=
  Claim7.holds_tied_plain_at .later [] [.data] true (true, "b15a9047e1158c93fcbf2f04993f5f7c19994b461581f9aa8dafd61258248d8e") false
    pairs_holds (fun _ h => by cases h) (by kernel_rfl) (fun _ h => by cases h) litePairs_row_tie rfl ⟨rfl, rfl⟩ (by kernel_rfl) rfl
    (fun f fn hf hfn => by
      obtain rfl : f = 3 := Option.some.inj ((show Tryd.prog.funcNamed "isagoge/isagogelaw14.LitePairs" = some 3 by kernel_rfl).symm.trans hf) |>.symm
      obtain rfl : fn = Tryd.f3 := (Option.some.inj (Tryd.func3.symm.trans hfn)).symm
      exact ⟨by kernel_rfl, fun j t ht => by
        rw [pairsParams] at ht
        have hm : t ∈ [30] := by simpa using Array.mem_of_getElem? ht
        have hall : ([30].all fun u => !Tryd.prog.wantsStandIn u) = true := by kernel_rfl
        exact (show Tryd.prog.wantsStandIn t = false by simpa using List.all_eq_true.1 hall t hm)⟩)
    (by kernel_rfl)
end Go.Proofs.YtkcbhebbjpiibaaDoor.Pg
