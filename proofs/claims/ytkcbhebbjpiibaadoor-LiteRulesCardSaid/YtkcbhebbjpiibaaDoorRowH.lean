/-
  LITERULES: the law returns true for every input, and leaves its arguments as they were. Conditions as the row has them: the package's table of arities reads as listed (the card ties it to the program's text); data that lead back to themselves are left out; each string and slice takes at most what the row's reach says.
-/
import Derived.Test.YtkcbhebbjpiibaaDoorRowD
import Derived.Test.YtkcbhebbjpiibaaDoorOm
import Derived.Test.YtkcbhebbjpiibaaDoorCards
import Derived.SizedLaws
set_option linter.unusedVariables false
set_option linter.unusedSimpArgs false
set_option maxRecDepth 100000
namespace Go.Proofs.YtkcbhebbjpiibaaDoor.Pg
open Go Go.RowKit Go.ChangeShapes Go.WideShapes Go.ChangeAt
open Nat renaming reduceEqDiff → zA, reduceAdd → zB, reduceMul → zC, reduceSub → zD, reduceLT → zE, reduceLeDiff → zF
open Int renaming reduceAdd → zG, reduceSub → zH, reduceMul → zI, reduceNeg → zJ, reduceToNat → zK, reduceEq → zL, reduceLT → zM, reduceLE → zN
theorem rules_Params : Tryd.f6.params = #[30, 43, 43, 3] := by kernel_rfl
theorem rules_Results : Tryd.f6.resultTypes = #[4] := by kernel_rfl
theorem rules__lifted (os : Os) (started : os.Started) (H : Type) (enc : TypeId × Value → H) :
    ReturnsInHanded {} Tryd.checked os 6 .any (fun w args => (Rows.liteRulesSpec.pre enc Tryd.prog Tryd.f6 [] false w args ∧ laidMetH Tryd.prog rowLaid w) ∧ sizedMet enc Tryd.prog Tryd.f6 (OpenSpec.ofChange Rows.liteRulesSpec) false w args)
      (Rows.liteRulesSpec.post enc Tryd.prog Tryd.f6 false true false false) := by
  refine returns_laid (C := Tryd.checked) (X := fun w _ => laidMetH Tryd.prog rowLaid w) (fun _ _ _ hh h => h.of_heap hh) rowOwn started (by kernel_rfl) Tryd.func6
    (ChangeSpec.witness_shaped (enc := enc) (C := Tryd.checked) (os := os) (X := fun w _ => laidMetH Tryd.prog rowLaid w) false (World.laidAll Tryd.prog os rowLaid)
      #[.agg #[.slice none 0 0, .slice none 0 0, .slice none 0 0, .slice none 0 0, .slice none 0 0, .slice none 0 0, .slice none 0 0], .agg #[.int .i64 0, .int .i64 0, .slice none 0 0], .agg #[.int .i64 0, .int .i64 0, .slice none 0 0], .int .i64 0] 8 (World.laidAll_os _ _ _) (World.shaped_of_ZipB (by kernel_rfl) (by kernel_rfl)) (by kernel_rfl) (by kernel_rfl) (by kernel_rfl)
      (by rw [MakeChecks.laidMetH_plain _ _ _ (by kernel_rfl)]; exact laidMet_laidAll _ (by kernel_rfl) (by kernel_rfl))) ?_
  intro W base args ds gs before hval0 hW hz hL hS
  have hval : ∀ (j : Nat) t v, Tryd.f6.params[j]? = some t → args[j]? = some v → Value.okWide Tryd.prog W .any base t v := hval0
  have hW' := hW
  obtain ⟨p, q, hA0, hV, rfl, hfz, hnd⟩ := hW
  have hA : DataW.TrodAll enc Tryd.prog W 0 (fun _ => true) true Tryd.f6.params.toList args.toList ds p := hA0
  rw [rules_Params] at hA hval
  obtain ⟨v0, v1, v2, v3, d0, d1, d2, d3, p0, p1, p2, p3, rfl, rfl, rfl, h0, h1, h2, h3⟩ := trodAll_four hA
  obtain ⟨rfl, rfl⟩ := trodVars_none hV
  have hw0 : ∀ k ∈ d0.weights Tryd.prog 30, k ≤ reachBytes := fun k hk =>
    of_decide_eq_true (List.all_eq_true.1 hz k (DataW.weights_mem_each (ts := Tryd.f6.params.toList ++ Rows.liteRulesSpec.plain.varTypes Tryd.prog) (ds := [d0, d1, d2, d3] ++ []) (j := 0) (by rw [rules_Params]; rfl) rfl k hk))
  have hw1 : ∀ k ∈ d1.weights Tryd.prog 43, k ≤ reachBytes := fun k hk =>
    of_decide_eq_true (List.all_eq_true.1 hz k (DataW.weights_mem_each (ts := Tryd.f6.params.toList ++ Rows.liteRulesSpec.plain.varTypes Tryd.prog) (ds := [d0, d1, d2, d3] ++ []) (j := 1) (by rw [rules_Params]; rfl) rfl k hk))
  have hw2 : ∀ k ∈ d2.weights Tryd.prog 43, k ≤ reachBytes := fun k hk =>
    of_decide_eq_true (List.all_eq_true.1 hz k (DataW.weights_mem_each (ts := Tryd.f6.params.toList ++ Rows.liteRulesSpec.plain.varTypes Tryd.prog) (ds := [d0, d1, d2, d3] ++ []) (j := 2) (by rw [rules_Params]; rfl) rfl k hk))
  obtain ⟨b, hb, hvb⟩ := agg_V dec_bas (struct_agg s_bas (hval 0 30 v0 rfl rfl)) h0 hw0
  obtain ⟨c, hc, hvc⟩ := agg_V dec_con (struct_agg s_con (hval 1 43 v1 rfl rfl)) h1 hw1
  obtain ⟨d, hd, hvd⟩ := agg_V dec_con (struct_agg s_con (hval 2 43 v2 rfl rfl)) h2 hw2
  obtain ⟨role, e3, -, -, -⟩ := Go.ChangeShapes.open_int u_int (hval 3 3 v3 rfl rfl) h3
  have hvr : V (muW W) W (I64 role) v3 := by rw [e3]; simp [V, plain]
  obtain ⟨m, hLd⟩ := laid_of hL hS
  refine (law_calls (m := m) (vs := [v0, v1, v2, v3]) (fun j => s_LiteRules b c d role hb hc hd j) hLd (by simp only [Vs]; exact ⟨v0, [v1, v2, v3], rfl, hvb, v1, [v2, v3], rfl, hvc, v2, [v3], rfl, hvd, v3, [], rfl, hvr, rfl⟩)).mono ?_
  rintro e W' ⟨rfl, hbe⟩
  rw [List.append_assoc (p0 ++ p1) p2 p3, List.append_assoc p0 p1 (p2 ++ p3)] at hW'
  have hlt : ∀ x ∈ p0 ++ (p1 ++ (p2 ++ p3)), x.block < W.heap.size := fun x hx => hW'.lt x (List.mem_append.2 (.inl hx))
  refine ⟨_, rfl, [d0, d1, d2, d3], [], p0 ++ (p1 ++ (p2 ++ p3)) ++ [], [], p0 ++ (p1 ++ (p2 ++ p3)), [], hW', ?_, ?_, ?_, hbe.frame _, fun h => by cases h⟩
  · rw [rules_Results]; exact trodAll_mk1 shut_true
  · rw [rules_Params]
    exact trodAll_mk4 (Below.trod rowLaidOut (by kernel_rfl) (of_decide_eq_true (by kernel_rfl)) h0 hbe fun x hx => hlt x (List.mem_append.2 (.inl hx)))
      (Below.trod rowLaidOut (by kernel_rfl) (of_decide_eq_true (by kernel_rfl)) h1 hbe fun x hx => hlt x (List.mem_append.2 (.inr (List.mem_append.2 (.inl hx)))))
      (Below.trod rowLaidOut (by kernel_rfl) (of_decide_eq_true (by kernel_rfl)) h2 hbe fun x hx => hlt x (List.mem_append.2 (.inr (List.mem_append.2 (.inr (List.mem_append.2 (.inl hx)))))))
      (Below.trod rowLaidOut (by kernel_rfl) (of_decide_eq_true (by kernel_rfl)) h3 hbe fun x hx => hlt x (List.mem_append.2 (.inr (List.mem_append.2 (.inr (List.mem_append.2 (.inr hx)))))))
  · exact rfl
theorem rules__holds : Rows.LiteRulesSaid :=
  OpenClaim.holds_of_wide 6 Tryd.f6 rfl rfl rfl rfl rfl rfl rfl ⟨rfl, rfl, rfl, rfl, rfl⟩ rfl rfl rfl rfl rfl (by kernel_rfl) Tryd.func6 (by kernel_rfl)
    (of_decide_eq_true (by kernel_rfl)) (by unfold Func.isWrapper; first | (rw [if_pos (by decide +kernel)]; kernel_rfl) | (rw [if_neg (by decide +kernel)]; exact ⟨rfl, rfl⟩))
    (fun os started H enc _ => rules__lifted os started H enc)
theorem rules__card_holds : Rows.LiteRulesCardSaid :=
  Claim7.holds_tied_plain_at .later [] [.data] true (true, "b15a9047e1158c93fcbf2f04993f5f7c19994b461581f9aa8dafd61258248d8e") false
    rules__holds (fun _ h => by cases h) (by kernel_rfl) (fun _ h => by cases h) liteRules_row_tie rfl ⟨rfl, rfl⟩ (by kernel_rfl) rfl
    (fun f fn hf hfn => by
      obtain rfl : f = 6 := Option.some.inj ((show Tryd.prog.funcNamed "isagoge/isagogelaw14.LiteRules" = some 6 by kernel_rfl).symm.trans hf) |>.symm
      obtain rfl : fn = Tryd.f6 := (Option.some.inj (Tryd.func6.symm.trans hfn)).symm
      exact ⟨by kernel_rfl, fun j t ht => by
        rw [rules_Params] at ht
        have hm : t ∈ [30, 43, 43, 3] := by simpa using Array.mem_of_getElem? ht
        have hall : ([30, 43, 43, 3].all fun u => !Tryd.prog.wantsStandIn u) = true := by kernel_rfl
        exact (show Tryd.prog.wantsStandIn t = false by simpa using List.all_eq_true.1 hall t hm)⟩)
    (by kernel_rfl)
end Go.Proofs.YtkcbhebbjpiibaaDoor.Pg
