/-
  LITEDATA: the law returns true for every input, and leaves its arguments as they were. Conditions as the row has them: the package's table of arities reads as listed (the card ties it to the program's text); data that lead back to themselves are left out; each string and slice takes at most what the row's reach says.
-/
import Derived.Test.YtkcbhebbjpiibaaDoorRowD
import Derived.Test.YtkcbhebbjpiibaaDoorPd
import Derived.Test.YtkcbhebbjpiibaaDoorCards
import Derived.SizedLaws
set_option linter.unusedVariables false
set_option linter.unusedSimpArgs false
set_option maxRecDepth 100000
namespace Go.Proofs.YtkcbhebbjpiibaaDoor.Pg
open Go Go.RowKit Go.ChangeShapes Go.WideShapes Go.ChangeAt
variable {H : Type} {enc : TypeId × Value → H} {P : Program} {w : World} {base : Nat} {spare : Nat → Bool} {held : Bool}
theorem trod_five {t0 t1 t2 t3 t4 : TypeId} {args : Array Value} {ds : List (DataW H)} {ps : List MemPlace} (h : DataW.TrodAll enc P w base spare held [t0, t1, t2, t3, t4] args.toList ds ps) :
    ∃ v0 v1 v2 v3 v4 d0 d1 d2 d3 d4 p0 p1 p2 p3 p4, args = #[v0, v1, v2, v3, v4] ∧ ds = [d0, d1, d2, d3, d4] ∧ ps = p0 ++ (p1 ++ (p2 ++ (p3 ++ p4))) ∧ DataW.Trod enc P w base spare held t0 v0 d0 p0 ∧ DataW.Trod enc P w base spare held t1 v1 d1 p1 ∧ DataW.Trod enc P w base spare held t2 v2 d2 p2 ∧ DataW.Trod enc P w base spare held t3 v3 d3 p3 ∧ DataW.Trod enc P w base spare held t4 v4 d4 p4 := by
  obtain ⟨v0, _, d0, _, p0, _, hargs, rfl, rfl, h0, r0⟩ := trodAll_cons h
  obtain ⟨v1, _, d1, _, p1, _, rfl, rfl, rfl, h1, r1⟩ := trodAll_cons r0
  obtain ⟨v2, _, d2, _, p2, _, rfl, rfl, rfl, h2, r2⟩ := trodAll_cons r1
  obtain ⟨v3, _, d3, _, p3, _, rfl, rfl, rfl, h3, r3⟩ := trodAll_cons r2
  obtain ⟨v4, _, d4, _, p4, _, rfl, rfl, rfl, h4, r4⟩ := trodAll_cons r3
  obtain ⟨rfl, rfl, rfl⟩ := trodAll_nil r4
  exact ⟨v0, v1, v2, v3, v4, d0, d1, d2, d3, d4, p0, p1, p2, p3, p4, by cases args; simp_all, rfl, by simp, h0, h1, h2, h3, h4⟩
theorem data_Params : Tryd.f7.params = #[30, 43, 3, 3, 3] := by kernel_rfl
theorem data_Results : Tryd.f7.resultTypes = #[4] := by kernel_rfl
theorem data__lifted (os : Os) (started : os.Started) (H : Type) (enc : TypeId × Value → H) :
    ReturnsInHanded {} Tryd.checked os 7 .any (fun w args => (Rows.liteDataSpec.pre enc Tryd.prog Tryd.f7 [] false w args ∧ laidMetH Tryd.prog rowLaid w) ∧ sizedMet enc Tryd.prog Tryd.f7 (OpenSpec.ofChange Rows.liteDataSpec) false w args)
      (Rows.liteDataSpec.post enc Tryd.prog Tryd.f7 false true false false) := by
  refine returns_laid (C := Tryd.checked) (X := fun w _ => laidMetH Tryd.prog rowLaid w) (fun _ _ _ hh h => h.of_heap hh) rowOwn started (by kernel_rfl) Tryd.func7
    (ChangeSpec.witness_shaped (enc := enc) (C := Tryd.checked) (os := os) (X := fun w _ => laidMetH Tryd.prog rowLaid w) false (World.laidAll Tryd.prog os rowLaid)
      #[.agg #[.slice none 0 0, .slice none 0 0, .slice none 0 0, .slice none 0 0, .slice none 0 0, .slice none 0 0, .slice none 0 0], .agg #[.int .i64 0, .int .i64 0, .slice none 0 0], .int .i64 0, .int .i64 0, .int .i64 0] 8 (World.laidAll_os _ _ _) (World.shaped_of_ZipB (by kernel_rfl) (by kernel_rfl)) (by kernel_rfl) (by kernel_rfl) (by kernel_rfl)
      (by rw [MakeChecks.laidMetH_plain _ _ _ (by kernel_rfl)]; exact laidMet_laidAll _ (by kernel_rfl) (by kernel_rfl))) ?_
  intro W base args ds gs before hval0 hW hz hL hS
  have hval : ∀ (j : Nat) t v, Tryd.f7.params[j]? = some t → args[j]? = some v → Value.okWide Tryd.prog W .any base t v := hval0
  have hW' := hW
  obtain ⟨p, q, hA0, hV, rfl, hfz, hnd⟩ := hW
  have hA : DataW.TrodAll enc Tryd.prog W 0 (fun _ => true) true Tryd.f7.params.toList args.toList ds p := hA0
  rw [data_Params] at hA hval
  obtain ⟨v0, v1, v2, v3, v4, d0, d1, d2, d3, d4, p0, p1, p2, p3, p4, rfl, rfl, rfl, h0, h1, h2, h3, h4⟩ := trod_five hA
  obtain ⟨rfl, rfl⟩ := trodVars_none hV
  have hw0 : ∀ k ∈ d0.weights Tryd.prog 30, k ≤ reachBytes := fun k hk =>
    of_decide_eq_true (List.all_eq_true.1 hz k (DataW.weights_mem_each (ts := Tryd.f7.params.toList ++ Rows.liteDataSpec.plain.varTypes Tryd.prog) (ds := [d0, d1, d2, d3, d4] ++ []) (j := 0) (by rw [data_Params]; rfl) rfl k hk))
  have hw1 : ∀ k ∈ d1.weights Tryd.prog 43, k ≤ reachBytes := fun k hk =>
    of_decide_eq_true (List.all_eq_true.1 hz k (DataW.weights_mem_each (ts := Tryd.f7.params.toList ++ Rows.liteDataSpec.plain.varTypes Tryd.prog) (ds := [d0, d1, d2, d3, d4] ++ []) (j := 1) (by rw [data_Params]; rfl) rfl k hk))
  obtain ⟨b, hb, hvb⟩ := agg_V dec_bas (struct_agg s_bas (hval 0 30 v0 rfl rfl)) h0 hw0
  obtain ⟨c, hc, hvc⟩ := agg_V dec_con (struct_agg s_con (hval 1 43 v1 rfl rfl)) h1 hw1
  obtain ⟨role, e2, -, -, -⟩ := Go.ChangeShapes.open_int u_int (hval 2 3 v2 rfl rfl) h2
  have hvrole : V (muW W) W (I64 role) v2 := by rw [e2]; simp [V, plain]
  obtain ⟨fr, e3, -, -, -⟩ := Go.ChangeShapes.open_int u_int (hval 3 3 v3 rfl rfl) h3
  have hvfr : V (muW W) W (I64 fr) v3 := by rw [e3]; simp [V, plain]
  obtain ⟨to, e4, -, -, -⟩ := Go.ChangeShapes.open_int u_int (hval 4 3 v4 rfl rfl) h4
  have hvto : V (muW W) W (I64 to) v4 := by rw [e4]; simp [V, plain]
  obtain ⟨m, hLd⟩ := laid_of hL hS
  refine (law_calls (m := m) (vs := [v0, v1, v2, v3, v4]) (fun j => s_LiteData b c role fr to hb hc j) hLd (by simp only [Vs]; exact ⟨v0, [v1, v2, v3, v4], rfl, hvb, v1, [v2, v3, v4], rfl, hvc, v2, [v3, v4], rfl, hvrole, v3, [v4], rfl, hvfr, v4, [], rfl, hvto, rfl⟩)).mono ?_
  rintro e W' ⟨rfl, hbe⟩
  have hlt : ∀ x ∈ p0 ++ (p1 ++ (p2 ++ (p3 ++ p4))), x.block < W.heap.size := fun x hx => hW'.lt x (List.mem_append.2 (.inl hx))
  refine ⟨_, rfl, [d0, d1, d2, d3, d4], [], p0 ++ (p1 ++ (p2 ++ (p3 ++ p4))) ++ [], [], p0 ++ (p1 ++ (p2 ++ (p3 ++ p4))), [], hW', ?_, ?_, ?_, hbe.frame _, fun h => by cases h⟩
  · rw [data_Results]; exact trodAll_mk1 shut_true
  · rw [data_Params]
    exact ⟨p0, _, (Below.trod rowLaidOut (by kernel_rfl) (of_decide_eq_true (by kernel_rfl)) h0 hbe fun x hx => hlt x (List.mem_append.2 (.inl hx))),
      trodAll_mk4 (Below.trod rowLaidOut (by kernel_rfl) (of_decide_eq_true (by kernel_rfl)) h1 hbe fun x hx => hlt x (List.mem_append.2 (.inr (List.mem_append.2 (.inl hx)))))
        (Below.trod rowLaidOut (by kernel_rfl) (of_decide_eq_true (by kernel_rfl)) h2 hbe fun x hx => hlt x (List.mem_append.2 (.inr (List.mem_append.2 (.inr (List.mem_append.2 (.inl hx)))))))
        (Below.trod rowLaidOut (by kernel_rfl) (of_decide_eq_true (by kernel_rfl)) h3 hbe fun x hx => hlt x (List.mem_append.2 (.inr (List.mem_append.2 (.inr (List.mem_append.2 (.inr (List.mem_append.2 (.inl hx)))))))))
        (Below.trod rowLaidOut (by kernel_rfl) (of_decide_eq_true (by kernel_rfl)) h4 hbe fun x hx => hlt x (List.mem_append.2 (.inr (List.mem_append.2 (.inr (List.mem_append.2 (.inr (List.mem_append.2 (.inr hx))))))))), rfl⟩
  · exact rfl
theorem data__holds : Rows.LiteDataSaid :=
  OpenClaim.holds_of_wide 7 Tryd.f7 rfl rfl rfl rfl rfl rfl rfl ⟨rfl, rfl, rfl, rfl, rfl⟩ rfl rfl rfl rfl rfl (by kernel_rfl) Tryd.func7 (by kernel_rfl)
    (of_decide_eq_true (by kernel_rfl)) (by unfold Func.isWrapper; first | (rw [if_pos (by decide +kernel)]; kernel_rfl) | (rw [if_neg (by decide +kernel)]; exact ⟨rfl, rfl⟩))
    (fun os started H enc _ => data__lifted os started H enc)
theorem data__card_holds : Rows.LiteDataCardSaid :=
  Claim7.holds_tied_plain_at .later [] [.data] true (true, "b15a9047e1158c93fcbf2f04993f5f7c19994b461581f9aa8dafd61258248d8e") false
    data__holds (fun _ h => by cases h) (by kernel_rfl) (fun _ h => by cases h) liteData_row_tie rfl ⟨rfl, rfl⟩ (by kernel_rfl) rfl
    (fun f fn hf hfn => by
      obtain rfl : f = 7 := Option.some.inj ((show Tryd.prog.funcNamed "isagoge/isagogelaw14.LiteData" = some 7 by kernel_rfl).symm.trans hf) |>.symm
      obtain rfl : fn = Tryd.f7 := (Option.some.inj (Tryd.func7.symm.trans hfn)).symm
      exact ⟨by kernel_rfl, fun j t ht => by
        rw [data_Params] at ht
        have hm : t ∈ [30, 43, 3, 3, 3] := by simpa using Array.mem_of_getElem? ht
        have hall : ([30, 43, 3, 3, 3].all fun u => !Tryd.prog.wantsStandIn u) = true := by kernel_rfl
        exact (show Tryd.prog.wantsStandIn t = false by simpa using List.all_eq_true.1 hall t hm)⟩)
    (by kernel_rfl)
end Go.Proofs.YtkcbhebbjpiibaaDoor.Pg
