/-
  LiteFits: the walk.
-/
import Derived.Test.YtkcbhebbjpiibaaDoorMa
set_option linter.unusedVariables false
set_option linter.unusedSimpArgs false
set_option linter.defProp false
set_option maxRecDepth 20000
set_option maxHeartbeats 1000000
namespace Go.Proofs.YtkcbhebbjpiibaaDoor.Pg
open Go
variable {m : Int} {G : Nat → Option (List AV)}
theorem look_few {b : Bas} {l : List Con} (h : lookB b l = true) : b.few ∧ ∀ c ∈ l, c.nodes ≤ 400 := by
  unfold lookB at h
  rw [Bool.and_eq_true, List.all_eq_true] at h
  obtain ⟨h1, h2⟩ := h
  unfold fewB at h2
  simp only [Bool.and_eq_true, List.all_eq_true, decide_eq_true_eq] at h2
  refine ⟨few_of fun c hc => ?_, fun c hc => ?_⟩
  · have := h2.1.2 c hc; omega
  · have := h1 c hc; simp only [decide_eq_true_eq] at this; omega
def ir5 : IFn := ⟨83, [⟨4, none⟩], (.seq (.reg [⟨(some 2), none, none, (.box 30 (.r 0))⟩, ⟨(some 3), none, none, (.box 43 (.r 1))⟩, ⟨(some 4), none, none, (.mov (.k (.v (.bool false))))⟩]) (.seq (.seq (.reg [⟨(some 9), none, (some (.r 2)), (.load (some 7) (.r 2))⟩, ⟨(some 10), none, (some (.r 3)), (.load (some 3) (.r 3))⟩, ⟨(some 11), none, none, (.bsl 1 3 [.v (.int .i64 0), .v (.int .i64 0), .sl .nil 0 []] [(0, (3, .r 10))])⟩, ⟨(some 12), none, none, (.call 8 [.r 9, .r 11])⟩, ⟨(some 13), none, none, (.not (.r 12))⟩]) (.cond (.r 13) (.seq (.reg [⟨(some 14), none, none, (.call 11 [])⟩, ⟨(some 4), none, none, (.mov (.r 14))⟩]) .ret) .skip)) (.seq (.reg [⟨(some 16), none, (some (.r 2)), (.load (some 7) (.r 2))⟩, ⟨(some 17), none, (some (.r 16)), (.call 19 [.r 16])⟩, ⟨(some 15), none, none, (.mov (.r 17))⟩, ⟨(some 18), none, none, (.ext (.r 15) 0)⟩, ⟨(some 19), none, none, (.ext (.r 15) 1)⟩, ⟨(some 5), none, none, (.mov (.r 18))⟩, ⟨(some 6), none, none, (.mov (.r 19))⟩]) (.seq (.reg [⟨(some 21), none, none, (.fadr 0 (.r 2))⟩, ⟨(some 22), none, (some (.r 21)), (.load (some 3) (.r 21))⟩, ⟨(some 23), none, (some (.r 3)), (.load (some 3) (.r 3))⟩, ⟨(some 24), none, none, (.call 20 [.r 22, .r 23])⟩, ⟨(some 20), none, none, (.mov (.r 24))⟩, ⟨(some 25), none, none, (.ext (.r 20) 0)⟩, ⟨(some 26), none, none, (.ext (.r 20) 1)⟩, ⟨(some 7), none, none, (.mov (.r 25))⟩, ⟨(some 8), none, none, (.mov (.r 26))⟩]) (.seq (.seq (.reg [⟨(some 27), none, (some (.r 2)), (.load (some 7) (.r 2))⟩, ⟨(some 28), none, (some (.r 27)), (.call 21 [.r 27])⟩, ⟨(some 29), none, none, (.not (.r 28))⟩]) (.cond (.r 29) (.seq (.reg [⟨(some 30), none, none, (.mov (.r 6))⟩, ⟨(some 31), none, none, (.bin .neq (.r 30) (.k (.v (.int .i64 20))))⟩, ⟨(some 32), none, none, (.mov (.r 31))⟩, ⟨(some 33), (some ((32, false))), none, (.mov (.r 5))⟩, ⟨(some 34), none, none, (.pick (.r 32) (.k (.v (.bool true))) (.r 33))⟩]) (.cond (.r 34) (.seq (.reg [⟨(some 4), none, none, (.mov (.k (.v (.bool false))))⟩]) .ret) .skip)) (.seq (.reg [⟨(some 35), none, none, (.mov (.r 6))⟩, ⟨(some 36), none, none, (.bin .neq (.r 35) (.k (.v (.int .i64 0))))⟩, ⟨(some 37), none, none, (.mov (.r 36))⟩, ⟨(some 38), (some ((37, false))), none, (.mov (.r 5))⟩, ⟨(some 39), (some ((37, false))), (some (.r 2)), (.load (some 7) (.r 2))⟩, ⟨(some 40), (some ((37, false))), (some (.r 39)), (.call 22 [.r 39])⟩, ⟨(some 41), (some ((37, false))), none, (.beq true (.r 38) (.r 40))⟩, ⟨(some 42), none, none, (.pick (.r 37) (.k (.v (.bool true))) (.r 41))⟩]) (.cond (.r 42) (.seq (.reg [⟨(some 4), none, none, (.mov (.k (.v (.bool false))))⟩]) .ret) .skip)))) (.seq (.block 0 (.seq (.reg [⟨(some 44), none, none, (.fadr 0 (.r 2))⟩, ⟨(some 45), none, (some (.r 44)), (.load (some 3) (.r 44))⟩, ⟨(some 46), none, (some (.r 45)), (.call 23 [.r 45])⟩, ⟨(some 47), none, none, (.not (.r 46))⟩, ⟨(some 43), none, none, (.mov (.r 47))⟩]) (.cond (.r 43) (.seq (.reg [⟨(some 48), none, none, (.mov (.r 8))⟩, ⟨(some 49), none, none, (.bin .eql (.r 48) (.k (.v (.int .i64 20))))⟩, ⟨(some 50), none, none, (.mov (.r 49))⟩, ⟨(some 51), (some ((50, true))), none, (.mov (.r 7))⟩, ⟨(some 52), (some ((50, true))), none, (.not (.r 51))⟩, ⟨(some 53), none, none, (.pick (.r 50) (.r 52) (.k (.v (.bool false))))⟩, ⟨(some 54), none, none, (.mov (.r 53))⟩, ⟨(some 55), (some ((54, true))), none, (.call 11 [])⟩, ⟨(some 56), none, none, (.pick (.r 54) (.r 55) (.k (.v (.bool false))))⟩, ⟨(some 4), none, none, (.mov (.r 56))⟩]) .ret) (.seq (.reg [⟨(some 58), none, none, (.fadr 0 (.r 2))⟩, ⟨(some 59), none, (some (.r 58)), (.load (some 3) (.r 58))⟩, ⟨(some 60), none, (some (.r 3)), (.load (some 3) (.r 3))⟩, ⟨(some 61), none, none, (.call 16 [.r 59, .r 60])⟩, ⟨(some 62), none, none, (.not (.r 61))⟩, ⟨(some 57), none, none, (.mov (.r 62))⟩]) (.cond (.r 57) (.seq (.reg [⟨(some 63), none, none, (.mov (.r 8))⟩, ⟨(some 64), none, none, (.bin .eql (.r 63) (.k (.v (.int .i64 10))))⟩, ⟨(some 65), none, none, (.mov (.r 64))⟩, ⟨(some 66), (some ((65, true))), none, (.mov (.r 7))⟩, ⟨(some 67), (some ((65, true))), none, (.not (.r 66))⟩, ⟨(some 68), none, none, (.pick (.r 65) (.r 67) (.k (.v (.bool false))))⟩, ⟨(some 69), none, none, (.mov (.r 68))⟩, ⟨(some 70), (some ((69, true))), none, (.call 11 [])⟩, ⟨(some 71), none, none, (.pick (.r 69) (.r 70) (.k (.v (.bool false))))⟩, ⟨(some 4), none, none, (.mov (.r 71))⟩]) .ret) .skip))))) (.seq (.reg [⟨(some 72), none, none, (.mov (.r 8))⟩, ⟨(some 73), none, none, (.bin .eql (.r 72) (.k (.v (.int .i64 0))))⟩, ⟨(some 74), none, none, (.mov (.r 73))⟩, ⟨(some 75), (some ((74, true))), none, (.mov (.r 7))⟩, ⟨(some 76), (some ((74, true))), (some (.r 3)), (.load (some 3) (.r 3))⟩, ⟨(some 77), (some ((74, true))), (some (.r 76)), (.call 24 [.r 76])⟩, ⟨(some 78), (some ((74, true))), none, (.beq false (.r 75) (.r 77))⟩, ⟨(some 79), none, none, (.pick (.r 74) (.r 78) (.k (.v (.bool false))))⟩, ⟨(some 80), none, none, (.mov (.r 79))⟩, ⟨(some 81), (some ((80, true))), none, (.call 11 [])⟩, ⟨(some 82), none, none, (.pick (.r 80) (.r 81) (.k (.v (.bool false))))⟩, ⟨(some 4), none, none, (.mov (.r 82))⟩]) .ret)))))))⟩
theorem c5 : cfunc Tryd.prog 5 = some ir5 := by kernel_rfl
theorem k5 : okIR (max 2 ir5.n) ir5.ir = true := by decide +kernel
theorem s_LiteFits (b : Bas) (c : Con) (hb : b.ok) (hc : c.ok) (j : JH) : JC Tryd.prog (GG m) 5 [.agg b.enc, .agg c.enc] j (RET (BOO true) j) := by
  refine JC.run hmix c5 (by exact k5) ?_
  (try simp only [↓jr, jp, jd, jz, Nat.reduceEqDiff, Nat.reduceAdd, Nat.reduceMul, Nat.reduceSub, Nat.reduceLT, Nat.reduceLeDiff, Int.reduceAdd, Int.reduceSub, Int.reduceMul, Int.reduceNeg, Int.reduceToNat, Int.reduceEq, Int.reduceLT, Int.reduceLE, reduceIte, decide_true, decide_false, ne_eq, eq_self, ir5])
  have hlk := s_looked (G := GG m) b hb [c] (.own j.tnext 0 3) ⟨hc, trivial⟩ (by simp) (ext (j.pushTok 1) [.cells 30 b.enc, .cells 43 c.enc])
  rw [encs_cons, encs_nil, List.append_nil] at hlk
  refine JCs.ret hlk ?_
  (try simp only [↓jr, jp, jd, jz, Nat.reduceEqDiff, Nat.reduceAdd, Nat.reduceMul, Nat.reduceSub, Nat.reduceLT, Nat.reduceLeDiff, Int.reduceAdd, Int.reduceSub, Int.reduceMul, Int.reduceNeg, Int.reduceToNat, Int.reduceEq, Int.reduceLT, Int.reduceLE, reduceIte, decide_true, decide_false, ne_eq, eq_self])
  refine ww.intro (fun h0 => ?_) (fun h0 => ?_)
  · obtain ⟨hf, hn⟩ := look_few h0
    have hc4 := hn c (by simp)
    (try simp only [↓jr, jp, jd, jz, Nat.reduceEqDiff, Nat.reduceAdd, Nat.reduceMul, Nat.reduceSub, Nat.reduceLT, Nat.reduceLeDiff, Int.reduceAdd, Int.reduceSub, Int.reduceMul, Int.reduceNeg, Int.reduceToNat, Int.reduceEq, Int.reduceLT, Int.reduceLE, reduceIte, decide_true, decide_false, ne_eq, eq_self])
    refine JCs.ret (s_lFits b hb hf _) ?_
    (try simp only [↓jr, jp, jd, jz, Nat.reduceEqDiff, Nat.reduceAdd, Nat.reduceMul, Nat.reduceSub, Nat.reduceLT, Nat.reduceLeDiff, Int.reduceAdd, Int.reduceSub, Int.reduceMul, Int.reduceNeg, Int.reduceToNat, Int.reduceEq, Int.reduceLT, Int.reduceLE, reduceIte, decide_true, decide_false, ne_eq, eq_self])
    refine JCs.ret (s_lBasic b.nms hb.nms hb.short c hc (by omega) _) ?_
    (try simp only [↓jr, jp, jd, jz, Nat.reduceEqDiff, Nat.reduceAdd, Nat.reduceMul, Nat.reduceSub, Nat.reduceLT, Nat.reduceLeDiff, Int.reduceAdd, Int.reduceSub, Int.reduceMul, Int.reduceNeg, Int.reduceToNat, Int.reduceEq, Int.reduceLT, Int.reduceLE, reduceIte, decide_true, decide_false, ne_eq, eq_self])
    refine JCs.ret (s_kIs b hb _) ?_
    (try simp only [↓jr, jp, jd, jz, Nat.reduceEqDiff, Nat.reduceAdd, Nat.reduceMul, Nat.reduceSub, Nat.reduceLT, Nat.reduceLeDiff, Int.reduceAdd, Int.reduceSub, Int.reduceMul, Int.reduceNeg, Int.reduceToNat, Int.reduceEq, Int.reduceLT, Int.reduceLE, reduceIte, decide_true, decide_false, ne_eq, eq_self])
    refine ww.intro (fun g1 => ?_) (fun g1 => ?_)
    · have gV : basV b = true := by rw [← basR_eq]; exact g1
      have gn := basR_names g1
      rw [gV]
      (try simp only [↓jr, jp, jd, jz, Nat.reduceEqDiff, Nat.reduceAdd, Nat.reduceMul, Nat.reduceSub, Nat.reduceLT, Nat.reduceLeDiff, Int.reduceAdd, Int.reduceSub, Int.reduceMul, Int.reduceNeg, Int.reduceToNat, Int.reduceEq, Int.reduceLT, Int.reduceLE, reduceIte, decide_true, decide_false, ne_eq, eq_self])
      try refine wq.intro (fun _ => ?_) (fun q => absurd rfl q)
      (try simp only [↓jr, jp, jd, jz, Nat.reduceEqDiff, Nat.reduceAdd, Nat.reduceMul, Nat.reduceSub, Nat.reduceLT, Nat.reduceLeDiff, Int.reduceAdd, Int.reduceSub, Int.reduceMul, Int.reduceNeg, Int.reduceToNat, Int.reduceEq, Int.reduceLT, Int.reduceLE, reduceIte, decide_true, decide_false, ne_eq, eq_self])
      refine JCs.ret (s_RFits b hb (basR_hds g1) _) ?_
      (try simp only [↓jr, jp, jd, jz, Nat.reduceEqDiff, Nat.reduceAdd, Nat.reduceMul, Nat.reduceSub, Nat.reduceLT, Nat.reduceLeDiff, Int.reduceAdd, Int.reduceSub, Int.reduceMul, Int.reduceNeg, Int.reduceToNat, Int.reduceEq, Int.reduceLT, Int.reduceLE, reduceIte, decide_true, decide_false, ne_eq, eq_self])
      rw [beq_self_eq_true]
      (try simp only [↓jr, jp, jd, jz, Nat.reduceEqDiff, Nat.reduceAdd, Nat.reduceMul, Nat.reduceSub, Nat.reduceLT, Nat.reduceLeDiff, Int.reduceAdd, Int.reduceSub, Int.reduceMul, Int.reduceNeg, Int.reduceToNat, Int.reduceEq, Int.reduceLT, Int.reduceLE, reduceIte, decide_true, decide_false, ne_eq, eq_self])
      refine JCs.ret (s_rNames b.nms hb.nms hb.short _) ?_
      rw [gn]
      (try simp only [↓jr, jp, jd, jz, Nat.reduceEqDiff, Nat.reduceAdd, Nat.reduceMul, Nat.reduceSub, Nat.reduceLT, Nat.reduceLeDiff, Int.reduceAdd, Int.reduceSub, Int.reduceMul, Int.reduceNeg, Int.reduceToNat, Int.reduceEq, Int.reduceLT, Int.reduceLE, reduceIte, decide_true, decide_false, ne_eq, eq_self])
      refine JCs.ret (s_Is b.nms c _ hb.nms hc) ?_
      by_cases g2 : conOK b.nms c = true
      · have e1 : fineE b.nms [c] = 0 := by rw [fineE_one gn, if_pos g2]
        rw [e1, g2]
        (try simp only [↓jr, jp, jd, jz, Nat.reduceEqDiff, Nat.reduceAdd, Nat.reduceMul, Nat.reduceSub, Nat.reduceLT, Nat.reduceLeDiff, Int.reduceAdd, Int.reduceSub, Int.reduceMul, Int.reduceNeg, Int.reduceToNat, Int.reduceEq, Int.reduceLT, Int.reduceLE, reduceIte, decide_true, decide_false, ne_eq, eq_self])
        try refine wq.intro (fun _ => ?_) (fun q => absurd rfl q)
        (try simp only [↓jr, jp, jd, jz, Nat.reduceEqDiff, Nat.reduceAdd, Nat.reduceMul, Nat.reduceSub, Nat.reduceLT, Nat.reduceLeDiff, Int.reduceAdd, Int.reduceSub, Int.reduceMul, Int.reduceNeg, Int.reduceToNat, Int.reduceEq, Int.reduceLT, Int.reduceLE, reduceIte, decide_true, decide_false, ne_eq, eq_self])
        refine JCs.ret (s_RBasic c (shaped_hd (conOK_shaped g2)) _) ?_
        (try simp only [↓jr, jp, jd, jz, Nat.reduceEqDiff, Nat.reduceAdd, Nat.reduceMul, Nat.reduceSub, Nat.reduceLT, Nat.reduceLeDiff, Int.reduceAdd, Int.reduceSub, Int.reduceMul, Int.reduceNeg, Int.reduceToNat, Int.reduceEq, Int.reduceLT, Int.reduceLE, reduceIte, decide_true, decide_false, ne_eq, eq_self])
        simp only [decide_true, Bool.true_and, beq_self_eq_true]
        (try simp only [↓jr, jp, jd, jz, Nat.reduceEqDiff, Nat.reduceAdd, Nat.reduceMul, Nat.reduceSub, Nat.reduceLT, Nat.reduceLeDiff, Int.reduceAdd, Int.reduceSub, Int.reduceMul, Int.reduceNeg, Int.reduceToNat, Int.reduceEq, Int.reduceLT, Int.reduceLE, reduceIte, decide_true, decide_false, ne_eq, eq_self])
        try simp only [Bool.false_and, Bool.true_and, Bool.false_eq_true, if_false, if_true, Bool.not_false, Bool.not_true, beq_self_eq_true]
        (try simp only [↓jr, jp, jd, jz, Nat.reduceEqDiff, Nat.reduceAdd, Nat.reduceMul, Nat.reduceSub, Nat.reduceLT, Nat.reduceLeDiff, Int.reduceAdd, Int.reduceSub, Int.reduceMul, Int.reduceNeg, Int.reduceToNat, Int.reduceEq, Int.reduceLT, Int.reduceLE, reduceIte, decide_true, decide_false, ne_eq, eq_self])
        refine JCs.ret (s_awake _) ?_
        (try simp only [↓jr, jp, jd, jz, Nat.reduceEqDiff, Nat.reduceAdd, Nat.reduceMul, Nat.reduceSub, Nat.reduceLT, Nat.reduceLeDiff, Int.reduceAdd, Int.reduceSub, Int.reduceMul, Int.reduceNeg, Int.reduceToNat, Int.reduceEq, Int.reduceLT, Int.reduceLE, reduceIte, decide_true, decide_false, ne_eq, eq_self])
        refine JFIN.ret ((JDropH.back (by repeat' (first | exact TokExt.refl _ | refine TokExt.push ?_ _ | refine TokExt.setT ?_ (by first | exact Nat.le_refl _ | (simp only [pushTok_tnext, setTok_tnext, ext_tnext, set_tnext]; omega)) _))).of_ext) ?_
        exact SubB.v
      · simp only [Bool.not_eq_true] at g2
        have e1 : fineE b.nms [c] = 10 := by rw [fineE_one gn, if_neg (by rw [g2]; exact Bool.false_ne_true)]
        rw [e1, g2]
        (try simp only [↓jr, jp, jd, jz, Nat.reduceEqDiff, Nat.reduceAdd, Nat.reduceMul, Nat.reduceSub, Nat.reduceLT, Nat.reduceLeDiff, Int.reduceAdd, Int.reduceSub, Int.reduceMul, Int.reduceNeg, Int.reduceToNat, Int.reduceEq, Int.reduceLT, Int.reduceLE, reduceIte, decide_true, decide_false, ne_eq, eq_self])
        try refine wq.intro (fun _ => ?_) (fun q => absurd rfl q)
        (try simp only [↓jr, jp, jd, jz, Nat.reduceEqDiff, Nat.reduceAdd, Nat.reduceMul, Nat.reduceSub, Nat.reduceLT, Nat.reduceLeDiff, Int.reduceAdd, Int.reduceSub, Int.reduceMul, Int.reduceNeg, Int.reduceToNat, Int.reduceEq, Int.reduceLT, Int.reduceLE, reduceIte, decide_true, decide_false, ne_eq, eq_self])
        try refine wq.intro (fun q => absurd q (by decide)) (fun q => ?_)
        (try simp only [↓jr, jp, jd, jz, Nat.reduceEqDiff, Nat.reduceAdd, Nat.reduceMul, Nat.reduceSub, Nat.reduceLT, Nat.reduceLeDiff, Int.reduceAdd, Int.reduceSub, Int.reduceMul, Int.reduceNeg, Int.reduceToNat, Int.reduceEq, Int.reduceLT, Int.reduceLE, reduceIte, decide_true, decide_false, ne_eq, eq_self])
        try simp only [Bool.false_and, Bool.true_and, Bool.false_eq_true, if_false, if_true, Bool.not_false, Bool.not_true, beq_self_eq_true]
        (try simp only [↓jr, jp, jd, jz, Nat.reduceEqDiff, Nat.reduceAdd, Nat.reduceMul, Nat.reduceSub, Nat.reduceLT, Nat.reduceLeDiff, Int.reduceAdd, Int.reduceSub, Int.reduceMul, Int.reduceNeg, Int.reduceToNat, Int.reduceEq, Int.reduceLT, Int.reduceLE, reduceIte, decide_true, decide_false, ne_eq, eq_self])
        refine JCs.ret (s_awake _) ?_
        (try simp only [↓jr, jp, jd, jz, Nat.reduceEqDiff, Nat.reduceAdd, Nat.reduceMul, Nat.reduceSub, Nat.reduceLT, Nat.reduceLeDiff, Int.reduceAdd, Int.reduceSub, Int.reduceMul, Int.reduceNeg, Int.reduceToNat, Int.reduceEq, Int.reduceLT, Int.reduceLE, reduceIte, decide_true, decide_false, ne_eq, eq_self])
        refine JFIN.ret ((JDropH.back (by repeat' (first | exact TokExt.refl _ | refine TokExt.push ?_ _ | refine TokExt.setT ?_ (by first | exact Nat.le_refl _ | (simp only [pushTok_tnext, setTok_tnext, ext_tnext, set_tnext]; omega)) _))).of_ext) ?_
        exact SubB.v
    · have gV : basV b = false := by rw [← basR_eq]; exact g1
      rw [gV]
      (try simp only [↓jr, jp, jd, jz, Nat.reduceEqDiff, Nat.reduceAdd, Nat.reduceMul, Nat.reduceSub, Nat.reduceLT, Nat.reduceLeDiff, Int.reduceAdd, Int.reduceSub, Int.reduceMul, Int.reduceNeg, Int.reduceToNat, Int.reduceEq, Int.reduceLT, Int.reduceLE, reduceIte, decide_true, decide_false, ne_eq, eq_self])
      try refine wq.intro (fun _ => ?_) (fun q => absurd rfl q)
      (try simp only [↓jr, jp, jd, jz, Nat.reduceEqDiff, Nat.reduceAdd, Nat.reduceMul, Nat.reduceSub, Nat.reduceLT, Nat.reduceLeDiff, Int.reduceAdd, Int.reduceSub, Int.reduceMul, Int.reduceNeg, Int.reduceToNat, Int.reduceEq, Int.reduceLT, Int.reduceLE, reduceIte, decide_true, decide_false, ne_eq, eq_self])
      simp only [Bool.false_and]
      (try simp only [↓jr, jp, jd, jz, Nat.reduceEqDiff, Nat.reduceAdd, Nat.reduceMul, Nat.reduceSub, Nat.reduceLT, Nat.reduceLeDiff, Int.reduceAdd, Int.reduceSub, Int.reduceMul, Int.reduceNeg, Int.reduceToNat, Int.reduceEq, Int.reduceLT, Int.reduceLE, reduceIte, decide_true, decide_false, ne_eq, eq_self])
      refine JCs.ret (s_rNames b.nms hb.nms hb.short _) ?_
      by_cases gn : namesOK b.nms = true
      · rw [gn]
        (try simp only [↓jr, jp, jd, jz, Nat.reduceEqDiff, Nat.reduceAdd, Nat.reduceMul, Nat.reduceSub, Nat.reduceLT, Nat.reduceLeDiff, Int.reduceAdd, Int.reduceSub, Int.reduceMul, Int.reduceNeg, Int.reduceToNat, Int.reduceEq, Int.reduceLT, Int.reduceLE, reduceIte, decide_true, decide_false, ne_eq, eq_self])
        refine JCs.ret (s_Is b.nms c _ hb.nms hc) ?_
        by_cases g2 : conOK b.nms c = true
        · have e1 : fineE b.nms [c] = 0 := by rw [fineE_one gn, if_pos g2]
          rw [e1, g2]
          (try simp only [↓jr, jp, jd, jz, Nat.reduceEqDiff, Nat.reduceAdd, Nat.reduceMul, Nat.reduceSub, Nat.reduceLT, Nat.reduceLeDiff, Int.reduceAdd, Int.reduceSub, Int.reduceMul, Int.reduceNeg, Int.reduceToNat, Int.reduceEq, Int.reduceLT, Int.reduceLE, reduceIte, decide_true, decide_false, ne_eq, eq_self])
          try refine wq.intro (fun _ => ?_) (fun q => absurd rfl q)
          (try simp only [↓jr, jp, jd, jz, Nat.reduceEqDiff, Nat.reduceAdd, Nat.reduceMul, Nat.reduceSub, Nat.reduceLT, Nat.reduceLeDiff, Int.reduceAdd, Int.reduceSub, Int.reduceMul, Int.reduceNeg, Int.reduceToNat, Int.reduceEq, Int.reduceLT, Int.reduceLE, reduceIte, decide_true, decide_false, ne_eq, eq_self])
          refine JCs.ret (s_RBasic c (shaped_hd (conOK_shaped g2)) _) ?_
          (try simp only [↓jr, jp, jd, jz, Nat.reduceEqDiff, Nat.reduceAdd, Nat.reduceMul, Nat.reduceSub, Nat.reduceLT, Nat.reduceLeDiff, Int.reduceAdd, Int.reduceSub, Int.reduceMul, Int.reduceNeg, Int.reduceToNat, Int.reduceEq, Int.reduceLT, Int.reduceLE, reduceIte, decide_true, decide_false, ne_eq, eq_self])
          simp only [decide_true, Bool.true_and, beq_self_eq_true]
          (try simp only [↓jr, jp, jd, jz, Nat.reduceEqDiff, Nat.reduceAdd, Nat.reduceMul, Nat.reduceSub, Nat.reduceLT, Nat.reduceLeDiff, Int.reduceAdd, Int.reduceSub, Int.reduceMul, Int.reduceNeg, Int.reduceToNat, Int.reduceEq, Int.reduceLT, Int.reduceLE, reduceIte, decide_true, decide_false, ne_eq, eq_self])
          try simp only [Bool.false_and, Bool.true_and, Bool.false_eq_true, if_false, if_true, Bool.not_false, Bool.not_true, beq_self_eq_true]
          (try simp only [↓jr, jp, jd, jz, Nat.reduceEqDiff, Nat.reduceAdd, Nat.reduceMul, Nat.reduceSub, Nat.reduceLT, Nat.reduceLeDiff, Int.reduceAdd, Int.reduceSub, Int.reduceMul, Int.reduceNeg, Int.reduceToNat, Int.reduceEq, Int.reduceLT, Int.reduceLE, reduceIte, decide_true, decide_false, ne_eq, eq_self])
          refine JCs.ret (s_awake _) ?_
          (try simp only [↓jr, jp, jd, jz, Nat.reduceEqDiff, Nat.reduceAdd, Nat.reduceMul, Nat.reduceSub, Nat.reduceLT, Nat.reduceLeDiff, Int.reduceAdd, Int.reduceSub, Int.reduceMul, Int.reduceNeg, Int.reduceToNat, Int.reduceEq, Int.reduceLT, Int.reduceLE, reduceIte, decide_true, decide_false, ne_eq, eq_self])
          refine JFIN.ret ((JDropH.back (by repeat' (first | exact TokExt.refl _ | refine TokExt.push ?_ _ | refine TokExt.setT ?_ (by first | exact Nat.le_refl _ | (simp only [pushTok_tnext, setTok_tnext, ext_tnext, set_tnext]; omega)) _))).of_ext) ?_
          exact SubB.v
        · simp only [Bool.not_eq_true] at g2
          have e1 : fineE b.nms [c] = 10 := by rw [fineE_one gn, if_neg (by rw [g2]; exact Bool.false_ne_true)]
          rw [e1, g2]
          (try simp only [↓jr, jp, jd, jz, Nat.reduceEqDiff, Nat.reduceAdd, Nat.reduceMul, Nat.reduceSub, Nat.reduceLT, Nat.reduceLeDiff, Int.reduceAdd, Int.reduceSub, Int.reduceMul, Int.reduceNeg, Int.reduceToNat, Int.reduceEq, Int.reduceLT, Int.reduceLE, reduceIte, decide_true, decide_false, ne_eq, eq_self])
          try refine wq.intro (fun _ => ?_) (fun q => absurd rfl q)
          (try simp only [↓jr, jp, jd, jz, Nat.reduceEqDiff, Nat.reduceAdd, Nat.reduceMul, Nat.reduceSub, Nat.reduceLT, Nat.reduceLeDiff, Int.reduceAdd, Int.reduceSub, Int.reduceMul, Int.reduceNeg, Int.reduceToNat, Int.reduceEq, Int.reduceLT, Int.reduceLE, reduceIte, decide_true, decide_false, ne_eq, eq_self])
          try refine wq.intro (fun q => absurd q (by decide)) (fun q => ?_)
          (try simp only [↓jr, jp, jd, jz, Nat.reduceEqDiff, Nat.reduceAdd, Nat.reduceMul, Nat.reduceSub, Nat.reduceLT, Nat.reduceLeDiff, Int.reduceAdd, Int.reduceSub, Int.reduceMul, Int.reduceNeg, Int.reduceToNat, Int.reduceEq, Int.reduceLT, Int.reduceLE, reduceIte, decide_true, decide_false, ne_eq, eq_self])
          try simp only [Bool.false_and, Bool.true_and, Bool.false_eq_true, if_false, if_true, Bool.not_false, Bool.not_true, beq_self_eq_true]
          (try simp only [↓jr, jp, jd, jz, Nat.reduceEqDiff, Nat.reduceAdd, Nat.reduceMul, Nat.reduceSub, Nat.reduceLT, Nat.reduceLeDiff, Int.reduceAdd, Int.reduceSub, Int.reduceMul, Int.reduceNeg, Int.reduceToNat, Int.reduceEq, Int.reduceLT, Int.reduceLE, reduceIte, decide_true, decide_false, ne_eq, eq_self])
          refine JCs.ret (s_awake _) ?_
          (try simp only [↓jr, jp, jd, jz, Nat.reduceEqDiff, Nat.reduceAdd, Nat.reduceMul, Nat.reduceSub, Nat.reduceLT, Nat.reduceLeDiff, Int.reduceAdd, Int.reduceSub, Int.reduceMul, Int.reduceNeg, Int.reduceToNat, Int.reduceEq, Int.reduceLT, Int.reduceLE, reduceIte, decide_true, decide_false, ne_eq, eq_self])
          refine JFIN.ret ((JDropH.back (by repeat' (first | exact TokExt.refl _ | refine TokExt.push ?_ _ | refine TokExt.setT ?_ (by first | exact Nat.le_refl _ | (simp only [pushTok_tnext, setTok_tnext, ext_tnext, set_tnext]; omega)) _))).of_ext) ?_
          exact SubB.v

      · simp only [Bool.not_eq_true] at gn
        have e1 : fineE b.nms [c] = 20 := by unfold fineE; rw [gn]; rfl
        rw [e1, gn]
        (try simp only [↓jr, jp, jd, jz, Nat.reduceEqDiff, Nat.reduceAdd, Nat.reduceMul, Nat.reduceSub, Nat.reduceLT, Nat.reduceLeDiff, Int.reduceAdd, Int.reduceSub, Int.reduceMul, Int.reduceNeg, Int.reduceToNat, Int.reduceEq, Int.reduceLT, Int.reduceLE, reduceIte, decide_true, decide_false, ne_eq, eq_self])
        try refine wq.intro (fun _ => ?_) (fun q => absurd rfl q)
        (try simp only [↓jr, jp, jd, jz, Nat.reduceEqDiff, Nat.reduceAdd, Nat.reduceMul, Nat.reduceSub, Nat.reduceLT, Nat.reduceLeDiff, Int.reduceAdd, Int.reduceSub, Int.reduceMul, Int.reduceNeg, Int.reduceToNat, Int.reduceEq, Int.reduceLT, Int.reduceLE, reduceIte, decide_true, decide_false, ne_eq, eq_self])
        try refine wq.intro (fun q => absurd q (by decide)) (fun q => ?_)
        (try simp only [↓jr, jp, jd, jz, Nat.reduceEqDiff, Nat.reduceAdd, Nat.reduceMul, Nat.reduceSub, Nat.reduceLT, Nat.reduceLeDiff, Int.reduceAdd, Int.reduceSub, Int.reduceMul, Int.reduceNeg, Int.reduceToNat, Int.reduceEq, Int.reduceLT, Int.reduceLE, reduceIte, decide_true, decide_false, ne_eq, eq_self])
        try simp only [Bool.false_and, Bool.true_and, Bool.false_eq_true, if_false, if_true, Bool.not_false, Bool.not_true, beq_self_eq_true]
        (try simp only [↓jr, jp, jd, jz, Nat.reduceEqDiff, Nat.reduceAdd, Nat.reduceMul, Nat.reduceSub, Nat.reduceLT, Nat.reduceLeDiff, Int.reduceAdd, Int.reduceSub, Int.reduceMul, Int.reduceNeg, Int.reduceToNat, Int.reduceEq, Int.reduceLT, Int.reduceLE, reduceIte, decide_true, decide_false, ne_eq, eq_self])
        refine JCs.ret (s_awake _) ?_
        (try simp only [↓jr, jp, jd, jz, Nat.reduceEqDiff, Nat.reduceAdd, Nat.reduceMul, Nat.reduceSub, Nat.reduceLT, Nat.reduceLeDiff, Int.reduceAdd, Int.reduceSub, Int.reduceMul, Int.reduceNeg, Int.reduceToNat, Int.reduceEq, Int.reduceLT, Int.reduceLE, reduceIte, decide_true, decide_false, ne_eq, eq_self])
        refine JFIN.ret ((JDropH.back (by repeat' (first | exact TokExt.refl _ | refine TokExt.push ?_ _ | refine TokExt.setT ?_ (by first | exact Nat.le_refl _ | (simp only [pushTok_tnext, setTok_tnext, ext_tnext, set_tnext]; omega)) _))).of_ext) ?_
        exact SubB.v
  · (try simp only [↓jr, jp, jd, jz, Nat.reduceEqDiff, Nat.reduceAdd, Nat.reduceMul, Nat.reduceSub, Nat.reduceLT, Nat.reduceLeDiff, Int.reduceAdd, Int.reduceSub, Int.reduceMul, Int.reduceNeg, Int.reduceToNat, Int.reduceEq, Int.reduceLT, Int.reduceLE, reduceIte, decide_true, decide_false, ne_eq, eq_self])
    refine JCs.ret (s_awake _) ?_
    (try simp only [↓jr, jp, jd, jz, Nat.reduceEqDiff, Nat.reduceAdd, Nat.reduceMul, Nat.reduceSub, Nat.reduceLT, Nat.reduceLeDiff, Int.reduceAdd, Int.reduceSub, Int.reduceMul, Int.reduceNeg, Int.reduceToNat, Int.reduceEq, Int.reduceLT, Int.reduceLE, reduceIte, decide_true, decide_false, ne_eq, eq_self])
    refine JFIN.ret ((JDropH.back (by repeat' (first | exact TokExt.refl _ | refine TokExt.push ?_ _ | refine TokExt.setT ?_ (by first | exact Nat.le_refl _ | (simp only [pushTok_tnext, setTok_tnext, ext_tnext, set_tnext]; omega)) _))).of_ext) ?_
    exact SubB.v
end Go.Proofs.YtkcbhebbjpiibaaDoor.Pg
