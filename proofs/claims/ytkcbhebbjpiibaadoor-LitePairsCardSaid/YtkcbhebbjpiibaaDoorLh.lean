/-
  Validity of a concept as the program counts it; concept.Check.
-/
import Derived.Test.YtkcbhebbjpiibaaDoorLg
set_option linter.unusedVariables false
set_option linter.unusedSimpArgs false
set_option maxRecDepth 20000
set_option maxHeartbeats 8000000
namespace Go.Proofs.YtkcbhebbjpiibaaDoor.Pg
open Go
open Nat renaming reduceEqDiff → zA, reduceAdd → zB, reduceMul → zC, reduceSub → zD, reduceLT → zE, reduceLeDiff → zF
open Int renaming reduceAdd → zG, reduceSub → zH, reduceMul → zI, reduceNeg → zJ, reduceToNat → zK, reduceEq → zL, reduceLT → zM, reduceLE → zN
variable {m : Int}
instance {nc nr : Nat} {op n : Int} {k : Nat} : Decidable (SH nc nr op n k) := by unfold SH; infer_instance
mutual
def vld (nc nr : Nat) : Con → Int → Int → Bool × Int
  | .mk op n l, x, d => if 1 ≤ x ∧ d ≤ 20 ∧ SH nc nr op n l.length then vlds nc nr l (x - 1) (d + 1) else (false, x - 1)
def vlds (nc nr : Nat) : List Con → Int → Int → Bool × Int
  | [], x, d => (true, x)
  | c :: l, x, d => if (vld nc nr c x d).1 then vlds nc nr l (vld nc nr c x d).2 d else (false, (vld nc nr c x d).2)
end
mutual
theorem vld_eq (nc nr : Nat) : ∀ (c : Con) (x d : Int), (vld nc nr c x d).1 = (decide ((c.nodes : Int) ≤ x) && decide (d + c.depth ≤ 21) && shaped nc nr c) ∧ ((vld nc nr c x d).1 = true → (vld nc nr c x d).2 = x - c.nodes) ∧ (vld nc nr c x d).2 ≤ x ∧ x - c.nodes ≤ (vld nc nr c x d).2
  | .mk op n l, x, d => by
    simp only [vld]
    by_cases h : 1 ≤ x ∧ d ≤ 20 ∧ SH nc nr op n l.length
    · rw [if_pos h]
      obtain ⟨h1, h2, h3⟩ := h
      obtain ⟨i1, i2, i3, i4⟩ := vlds_eq nc nr l (x - 1) (d + 1) (by omega) (by omega)
      refine ⟨?_, fun q => ?_, by omega, by simp only [Con.nodes]; omega⟩
      · rw [i1, shaped_t h3]
        congr 1
        rw [Bool.eq_iff_iff]
        simp only [Bool.and_eq_true, decide_eq_true_eq]
        simp only [Con.nodes, Con.depth]
        omega
      · rw [i2 q]; simp only [Con.nodes]; omega
    · rw [if_neg h]
      refine ⟨?_, fun q => (by cases q), by simp only; omega, by simp only [Con.nodes]; omega⟩
      rw [eq_comm, Bool.eq_false_iff]
      intro q
      simp only [Bool.and_eq_true, decide_eq_true_eq, shaped_mk] at q
      simp only [Con.nodes, Con.depth] at q
      obtain ⟨⟨q1, q2⟩, q3, q4⟩ := q
      exact h ⟨by omega, by omega, q3⟩
theorem vlds_eq (nc nr : Nat) : ∀ (l : List Con) (x d : Int), 0 ≤ x → d ≤ 21 → (vlds nc nr l x d).1 = (decide ((Con.nodesL l : Int) ≤ x) && decide (d + Con.depthL l ≤ 21) && shapedL nc nr l) ∧ ((vlds nc nr l x d).1 = true → (vlds nc nr l x d).2 = x - Con.nodesL l) ∧ (vlds nc nr l x d).2 ≤ x ∧ x - Con.nodesL l ≤ (vlds nc nr l x d).2
  | [], x, d, hx, hd => by
    simp only [vlds, shapedL]
    rw [decide_eq_true (by simp only [Con.nodesL]; omega), decide_eq_true (by simp only [Con.depthL]; omega)]
    exact ⟨rfl, fun _ => by simp only [Con.nodesL]; omega, Int.le_refl _, by simp only [Con.nodesL]; omega⟩
  | c :: l, x, d, hx, hd => by
    obtain ⟨i1, i2, i3, i4⟩ := vld_eq nc nr c x d
    simp only [vlds, shapedL]
    by_cases h : (vld nc nr c x d).1 = true
    · rw [if_pos h]
      have e2 := i2 h
      rw [h, eq_comm] at i1
      simp only [Bool.and_eq_true, decide_eq_true_eq] at i1
      obtain ⟨⟨q1, q2⟩, q3⟩ := i1
      obtain ⟨j1, j2, j3, j4⟩ := vlds_eq nc nr l (vld nc nr c x d).2 d (by omega) hd
      refine ⟨?_, fun q => ?_, by omega, by simp only [Con.nodesL]; omega⟩
      · rw [j1, q3, Bool.true_and]
        congr 1
        rw [Bool.eq_iff_iff]
        simp only [Bool.and_eq_true, decide_eq_true_eq]
        simp only [Con.nodesL, Con.depthL]
        omega
      · rw [j2 q]; simp only [Con.nodesL]; omega
    · rw [if_neg h]
      refine ⟨?_, fun q => (by cases q), i3, by simp only [Con.nodesL]; omega⟩
      simp only [Bool.not_eq_true] at h
      rw [h, eq_comm, Bool.eq_false_iff] at i1
      rw [eq_comm, Bool.eq_false_iff]
      intro q
      apply i1
      simp only [Bool.and_eq_true, decide_eq_true_eq] at q ⊢
      simp only [Con.nodesL, Con.depthL] at q
      obtain ⟨⟨q1, q2⟩, q3, q4⟩ := q
      exact ⟨⟨by omega, by omega⟩, q3⟩
end
theorem GGa : GG m 0 = some [I64 0, I64 0, I64 0, I64 1, I64 2, I64 2, I64 1, I64 1] := rfl
theorem args_at {op : Int} (h0 : 0 ≤ op) (h1 : op ≤ 7) : icut none [I64 0, I64 0, I64 0, I64 1, I64 2, I64 2, I64 1, I64 1] op.toNat = some (I64 (arity op)) := by
  have : op = 0 ∨ op = 1 ∨ op = 2 ∨ op = 3 ∨ op = 4 ∨ op = 5 ∨ op = 6 ∨ op = 7 := by omega
  rcases this with rfl | rfl | rfl | rfl | rfl | rfl | rfl | rfl <;> rfl
theorem set_set {j : JH} {o : Nat} {x y : AObj} : (j.set o x).set o y = j.set o y := by
  unfold JH.set
  simp only [JH.mk.injEq, true_and, and_true]
  funext p; by_cases h : p = o <;> simp [h]
theorem JDropH.nextS {j : JH} {o : Nat} {a b : AObj} {l m n : List AObj} (hb : OSub (pid j.next n.length) j.tnext b b) (hl : LSub (pid j.next n.length) j.tnext l m n) : JDropH (ext (j.set o a) l) (ext (j.set o b) m) (ext (j.set o b) n) := by
  refine JDropH.next (TokExt.refl _) rfl (Nat.le_refl _) (fun p ob hp e => ?_) hl
  rw [set_get] at e ⊢
  by_cases h : p = o
  · rw [if_pos h] at e; cases e; exact .inr hb
  · rw [if_neg h] at e ⊢; exact .inl e
theorem arity_ne {op : Int} (h : op < 0 ∨ 7 < op) : arity op = -1 := by
  unfold arity
  repeat' split
  all_goals omega
def ir100 : IFn := ⟨92, [⟨8, none⟩], (.seq (.reg [⟨(some 4), none, none, (.box 24 (.r 0))⟩, ⟨(some 5), none, none, (.box 43 (.r 1))⟩, ⟨(some 8), none, none, (.mov (.k (.v (.bool false))))⟩]) (.seq (.reg [⟨(some 11), none, none, (.mov (.r 2))⟩, ⟨(some 12), none, none, (.nchk (.r 11))⟩, ⟨(some 13), none, (some (.r 12)), (.load none (.r 12))⟩, ⟨(some 14), none, none, (.bin .sub (.r 13) (.k (.v (.int .i64 1))))⟩, ⟨(some 15), none, none, (.nchk (.r 11))⟩, ⟨none, none, none, (.store 1 (.r 15) (.r 14))⟩]) (.seq (.seq (.draw [⟨(some 16), none, none, (.mov (.r 2))⟩, ⟨(some 17), none, none, (.nchk (.r 16))⟩, ⟨(some 18), none, (some (.r 17)), (.load none (.r 17))⟩, ⟨(some 19), none, none, (.bin .lss (.r 18) (.k (.v (.int .i64 0))))⟩, ⟨(some 20), none, none, (.mov (.r 19))⟩, ⟨(some 21), (some ((20, false))), none, (.mov (.r 3))⟩, ⟨(some 22), (some ((20, false))), none, (.bin .gtr (.r 21) (.k (.v (.int .i64 20))))⟩, ⟨(some 23), none, none, (.pick (.r 20) (.k (.v (.bool true))) (.r 22))⟩, ⟨(some 24), none, none, (.mov (.r 23))⟩, ⟨(some 25), (some ((24, false))), none, (.fadr 0 (.r 5))⟩, ⟨(some 26), (some ((24, false))), (some (.r 25)), (.load none (.r 25))⟩, ⟨(some 27), (some ((24, false))), none, (.bin .lss (.r 26) (.k (.v (.int .i64 0))))⟩, ⟨(some 28), none, none, (.pick (.r 24) (.k (.v (.bool true))) (.r 27))⟩, ⟨(some 29), none, none, (.mov (.r 28))⟩, ⟨(some 30), (some ((29, false))), none, (.fadr 0 (.r 5))⟩, ⟨(some 31), (some ((29, false))), (some (.r 30)), (.load none (.r 30))⟩, ⟨(some 32), (some ((29, false))), none, (.bin .gtr (.r 31) (.k (.v (.int .i64 7))))⟩, ⟨(some 33), none, none, (.pick (.r 29) (.k (.v (.bool true))) (.r 32))⟩, ⟨(some 34), none, none, (.mov (.r 33))⟩, ⟨(some 35), (some ((34, false))), none, (.fadr 2 (.r 5))⟩, ⟨(some 36), (some ((34, false))), (some (.r 35)), (.load none (.r 35))⟩, ⟨(some 37), (some ((34, false))), (some (.r 36)), (.lenl (.r 36))⟩, ⟨(some 38), (some ((34, false))), none, (.fadr 0 (.r 5))⟩, ⟨(some 39), (some ((34, false))), (some (.r 38)), (.load none (.r 38))⟩, ⟨(some 40), (some ((34, false))), none, (.iaar 8 1 (.g 0) (.r 39))⟩, ⟨(some 41), (some ((34, false))), (some (.r 40)), (.load none (.r 40))⟩, ⟨(some 42), (some ((34, false))), none, (.bin .neq (.r 37) (.r 41))⟩, ⟨(some 43), none, none, (.pick (.r 34) (.k (.v (.bool true))) (.r 42))⟩] []) (.cond (.r 43) (.seq (.reg [⟨(some 8), none, none, (.mov (.k (.v (.bool false))))⟩]) .ret) .skip)) (.seq (.seq (.reg [⟨(some 44), none, none, (.fadr 0 (.r 5))⟩, ⟨(some 45), none, (some (.r 44)), (.load none (.r 44))⟩]) (.block 0 (.seq (.reg [⟨(some 50), none, none, (.bin .eql (.r 45) (.k (.v (.int .i64 0))))⟩, ⟨(some 49), none, none, (.mov (.r 50))⟩]) (.cond (.r 49) (.seq (.reg [⟨(some 51), none, none, (.fadr 1 (.r 5))⟩, ⟨(some 52), none, (some (.r 51)), (.load none (.r 51))⟩, ⟨(some 53), none, none, (.bin .lss (.r 52) (.k (.v (.int .i64 0))))⟩, ⟨(some 54), none, none, (.mov (.r 53))⟩, ⟨(some 55), (some ((54, false))), none, (.fadr 1 (.r 5))⟩, ⟨(some 56), (some ((54, false))), (some (.r 55)), (.load none (.r 55))⟩, ⟨(some 57), (some ((54, false))), none, (.fadr 0 (.r 4))⟩, ⟨(some 58), (some ((54, false))), (some (.r 57)), (.load none (.r 57))⟩, ⟨(some 59), (some ((54, false))), (some (.r 58)), (.lenl (.r 58))⟩, ⟨(some 60), (some ((54, false))), none, (.bin .geq (.r 56) (.r 59))⟩, ⟨(some 61), none, none, (.pick (.r 54) (.k (.v (.bool true))) (.r 60))⟩]) (.cond (.r 61) (.seq (.reg [⟨(some 8), none, none, (.mov (.k (.v (.bool false))))⟩]) .ret) .skip)) (.seq (.seq (.reg [⟨(some 63), none, none, (.bin .eql (.r 45) (.k (.v (.int .i64 6))))⟩, ⟨(some 62), none, none, (.mov (.r 63))⟩]) (.cond (.r 62) .skip (.reg [⟨(some 64), none, none, (.bin .eql (.r 45) (.k (.v (.int .i64 7))))⟩, ⟨(some 62), none, none, (.mov (.r 64))⟩]))) (.cond (.r 62) (.seq (.reg [⟨(some 65), none, none, (.fadr 1 (.r 5))⟩, ⟨(some 66), none, (some (.r 65)), (.load none (.r 65))⟩, ⟨(some 67), none, none, (.bin .lss (.r 66) (.k (.v (.int .i64 0))))⟩, ⟨(some 68), none, none, (.mov (.r 67))⟩, ⟨(some 69), (some ((68, false))), none, (.fadr 1 (.r 5))⟩, ⟨(some 70), (some ((68, false))), (some (.r 69)), (.load none (.r 69))⟩, ⟨(some 71), (some ((68, false))), none, (.fadr 1 (.r 4))⟩, ⟨(some 72), (some ((68, false))), (some (.r 71)), (.load none (.r 71))⟩, ⟨(some 73), (some ((68, false))), (some (.r 72)), (.lenl (.r 72))⟩, ⟨(some 74), (some ((68, false))), none, (.bin .mul (.k (.v (.int .i64 2))) (.r 73))⟩, ⟨(some 75), (some ((68, false))), none, (.bin .geq (.r 70) (.r 74))⟩, ⟨(some 76), none, none, (.pick (.r 68) (.k (.v (.bool true))) (.r 75))⟩]) (.cond (.r 76) (.seq (.reg [⟨(some 8), none, none, (.mov (.k (.v (.bool false))))⟩]) .ret) .skip)) (.seq (.reg [⟨(some 46), none, none, (.fadr 1 (.r 5))⟩, ⟨(some 47), none, (some (.r 46)), (.load none (.r 46))⟩, ⟨(some 48), none, none, (.bin .neq (.r 47) (.k (.v (.int .i64 0))))⟩]) (.cond (.r 48) (.seq (.reg [⟨(some 8), none, none, (.mov (.k (.v (.bool false))))⟩]) .ret) .skip)))))))) (.seq (.seq (.reg [⟨(some 77), none, none, (.fadr 2 (.r 5))⟩, ⟨(some 78), none, (some (.r 77)), (.load none (.r 77))⟩, ⟨(some 79), none, (some (.r 78)), (.lenl (.r 78))⟩, ⟨(some 80), none, none, (.mov (.k (.v (.int .i64 0))))⟩]) (.block 1 (.loop (.seq (.reg [⟨(some 81), none, none, (.bin .lss (.r 80) (.r 79))⟩]) (.seq (.cond (.r 81) .skip (.exit 1)) (.seq (.block 2 (.seq (.reg [⟨(some 82), none, none, (.iasl 3 (.r 78) (.r 80))⟩, ⟨(some 83), none, (some (.r 82)), (.load (some 3) (.r 82))⟩, ⟨(some 10), none, none, (.alloc 43 [.v (.int .i64 0), .v (.int .i64 0), .sl .nil 0 []])⟩, ⟨none, none, none, (.store 3 (.r 10) (.r 83))⟩]) (.seq (.reg [⟨(some 84), none, (some (.r 4)), (.load (some 3) (.r 4))⟩, ⟨(some 85), none, (some (.r 10)), (.load (some 3) (.r 10))⟩, ⟨(some 86), none, none, (.mov (.r 2))⟩, ⟨(some 87), none, none, (.mov (.r 3))⟩, ⟨(some 88), none, none, (.bin .add (.r 87) (.k (.v (.int .i64 1))))⟩, ⟨(some 89), none, none, (.call 100 [.r 84, .r 85, .r 86, .r 88])⟩, ⟨(some 90), none, none, (.not (.r 89))⟩]) (.cond (.r 90) (.seq (.reg [⟨(some 8), none, none, (.mov (.k (.v (.bool false))))⟩]) .ret) .skip)))) (.reg [⟨(some 91), none, none, (.bin .add (.r 80) (.k (.v (.int .i64 1))))⟩, ⟨(some 80), none, none, (.mov (.r 91))⟩]))))))) (.seq (.reg [⟨(some 8), none, none, (.mov (.k (.v (.bool true))))⟩]) .ret))))))⟩
theorem c100 : cfunc Tryd.prog 100 = some ir100 := by kernel_rfl
theorem k100 : okIR (max 4 ir100.n) ir100.ir = true := by decide +kernel
theorem s_valid (n : Nms) (hn : n.ok) (e : TypeId) : ∀ (c : Con) (o : Nat) (x d : Int) (j : JH), c.ok → o < j.next → j.get o = some (.cells e [I64 x]) → -4611686018427387904 ≤ x - c.nodes → x ≤ 4611686018427387904 → 0 ≤ d → d ≤ 21 →
    JC Tryd.prog (GG m) 100 [.agg n.enc, .agg c.enc, .ptr o 0, I64 d] j (RET (BOO (vld n.cs.length n.rs.length c x d).1) (j.set o (.cells e [I64 (vld n.cs.length n.rs.length c x d).2]))) := by
  intro c
  induction c using Con.ind with
  | h op k args ih =>
  intro o x d j hc ho hg hx1 hx2 hd0 hd2
  simp only [Con.ok] at hc
  obtain ⟨hc1, hc2, hc3, hc4⟩ := hc
  obtain ⟨hn1, hn2, hn3⟩ := hn
  simp only [Con.nodes] at hx1
  refine JC.run hmix c100 (by exact k100) ?_
  (try simp only [↓jr, jp, jd, jz, zA, zB, zC, zD, zE, zF, zG, zH, zI, zJ, zK, zL, zM, zN, reduceIte, ext_get_old, ext_set_old, ho, hg, set_get, set_set, GGa, ir100])
  (try simp only [↓jr, jp, jd, jz, zA, zB, zC, zD, zE, zF, zG, zH, zI, zJ, zK, zL, zM, zN, reduceIte, ext_get_old, ext_set_old, ho, hg, set_get, set_set, GGa])
  refine wc.intro (by unfold R64; omega) ?_
  have hRUN := @ext_get_old
  have hv0 : ¬ (1 ≤ x ∧ d ≤ 20 ∧ SH n.cs.length n.rs.length op k args.length) → vld n.cs.length n.rs.length (Con.mk op k args) x d = (false, x - 1) := by
    intro h; simp only [vld]; rw [if_neg h]
  have hv1 : (1 ≤ x ∧ d ≤ 20 ∧ SH n.cs.length n.rs.length op k args.length) → vld n.cs.length n.rs.length (Con.mk op k args) x d = vlds n.cs.length n.rs.length args (x - 1) (d + 1) := by
    intro h; simp only [vld]; rw [if_pos h]
  have fls : ∀ {l : List AObj}, ¬ (1 ≤ x ∧ d ≤ 20 ∧ SH n.cs.length n.rs.length op k args.length) → @JFIN (ext j []) (ext (j.set o (.cells e [.v (.int .i64 (x - 1))])) l) (.v (.bool false)) ⟨fun y j' => RET (BOO (vld n.cs.length n.rs.length (Con.mk op k args) x d).1) (j.set o (.cells e [I64 (vld n.cs.length n.rs.length (Con.mk op k args) x d).2])) (.ret y) j'⟩ := by
    intro l h
    rw [hv0 h]
    exact JFIN.ret (JDropH.back1 (TokExt.refl _) ho (OSub.pure rfl)).of_ext SubB.v
  (try simp only [↓jr, jp, jd, jz, zA, zB, zC, zD, zE, zF, zG, zH, zI, zJ, zK, zL, zM, zN, reduceIte, ext_get_old, ext_set_old, ho, hg, set_get, set_set, GGa])
  refine wq.intro (fun q1 => ?_) (fun q1 => ?_)
  · (try simp only [↓jr, jp, jd, jz, zA, zB, zC, zD, zE, zF, zG, zH, zI, zJ, zK, zL, zM, zN, reduceIte, ext_get_old, ext_set_old, ho, hg, set_get, set_set, GGa])
    refine JDRAW.of (by (try simp only [↓jr, jp, jd, jz, zA, zB, zC, zD, zE, zF, zG, zH, zI, zJ, zK, zL, zM, zN, reduceIte, ext_get_old, ext_set_old, ho, hg, set_get, set_set, GGa, jq]) <;> (repeat' (first | exact trivial | refine And.intro ?_ ?_ | assumption | (unfold pid; omega)))) (by (try simp only [↓jr, jp, jd, jz, zA, zB, zC, zD, zE, zF, zG, zH, zI, zJ, zK, zL, zM, zN, reduceIte, ext_get_old, ext_set_old, ho, hg, set_get, set_set, GGa, jq]) <;> (repeat' (first | exact trivial | refine And.intro ?_ ?_))) ?_; (try simp only [↓jr, jp, jd, jz, zA, zB, zC, zD, zE, zF, zG, zH, zI, zJ, zK, zL, zM, zN, reduceIte, ext_get_old, ext_set_old, ho, hg, set_get, set_set, GGa])
    exact fls (by omega)
  (try simp only [↓jr, jp, jd, jz, zA, zB, zC, zD, zE, zF, zG, zH, zI, zJ, zK, zL, zM, zN, reduceIte, ext_get_old, ext_set_old, ho, hg, set_get, set_set, GGa])
  refine wq.intro (fun q2 => ?_) (fun q2 => ?_)
  · (try simp only [↓jr, jp, jd, jz, zA, zB, zC, zD, zE, zF, zG, zH, zI, zJ, zK, zL, zM, zN, reduceIte, ext_get_old, ext_set_old, ho, hg, set_get, set_set, GGa])
    refine JDRAW.of (by (try simp only [↓jr, jp, jd, jz, zA, zB, zC, zD, zE, zF, zG, zH, zI, zJ, zK, zL, zM, zN, reduceIte, ext_get_old, ext_set_old, ho, hg, set_get, set_set, GGa, jq]) <;> (repeat' (first | exact trivial | refine And.intro ?_ ?_ | assumption | (unfold pid; omega)))) (by (try simp only [↓jr, jp, jd, jz, zA, zB, zC, zD, zE, zF, zG, zH, zI, zJ, zK, zL, zM, zN, reduceIte, ext_get_old, ext_set_old, ho, hg, set_get, set_set, GGa, jq]) <;> (repeat' (first | exact trivial | refine And.intro ?_ ?_))) ?_; (try simp only [↓jr, jp, jd, jz, zA, zB, zC, zD, zE, zF, zG, zH, zI, zJ, zK, zL, zM, zN, reduceIte, ext_get_old, ext_set_old, ho, hg, set_get, set_set, GGa])
    exact fls (by omega)
  (try simp only [↓jr, jp, jd, jz, zA, zB, zC, zD, zE, zF, zG, zH, zI, zJ, zK, zL, zM, zN, reduceIte, ext_get_old, ext_set_old, ho, hg, set_get, set_set, GGa])
  refine wq.intro (fun q3 => ?_) (fun q3 => ?_)
  · (try simp only [↓jr, jp, jd, jz, zA, zB, zC, zD, zE, zF, zG, zH, zI, zJ, zK, zL, zM, zN, reduceIte, ext_get_old, ext_set_old, ho, hg, set_get, set_set, GGa])
    refine JDRAW.of (by (try simp only [↓jr, jp, jd, jz, zA, zB, zC, zD, zE, zF, zG, zH, zI, zJ, zK, zL, zM, zN, reduceIte, ext_get_old, ext_set_old, ho, hg, set_get, set_set, GGa, jq]) <;> (repeat' (first | exact trivial | refine And.intro ?_ ?_ | assumption | (unfold pid; omega)))) (by (try simp only [↓jr, jp, jd, jz, zA, zB, zC, zD, zE, zF, zG, zH, zI, zJ, zK, zL, zM, zN, reduceIte, ext_get_old, ext_set_old, ho, hg, set_get, set_set, GGa, jq]) <;> (repeat' (first | exact trivial | refine And.intro ?_ ?_))) ?_; (try simp only [↓jr, jp, jd, jz, zA, zB, zC, zD, zE, zF, zG, zH, zI, zJ, zK, zL, zM, zN, reduceIte, ext_get_old, ext_set_old, ho, hg, set_get, set_set, GGa])
    refine fls (fun h => ?_)
    have := h.2.2.1; have := arity_ne (op := op) (by omega); omega
  (try simp only [↓jr, jp, jd, jz, zA, zB, zC, zD, zE, zF, zG, zH, zI, zJ, zK, zL, zM, zN, reduceIte, ext_get_old, ext_set_old, ho, hg, set_get, set_set, GGa])
  refine wq.intro (fun q4 => ?_) (fun q4 => ?_)
  · (try simp only [↓jr, jp, jd, jz, zA, zB, zC, zD, zE, zF, zG, zH, zI, zJ, zK, zL, zM, zN, reduceIte, ext_get_old, ext_set_old, ho, hg, set_get, set_set, GGa])
    refine JDRAW.of (by (try simp only [↓jr, jp, jd, jz, zA, zB, zC, zD, zE, zF, zG, zH, zI, zJ, zK, zL, zM, zN, reduceIte, ext_get_old, ext_set_old, ho, hg, set_get, set_set, GGa, jq]) <;> (repeat' (first | exact trivial | refine And.intro ?_ ?_ | assumption | (unfold pid; omega)))) (by (try simp only [↓jr, jp, jd, jz, zA, zB, zC, zD, zE, zF, zG, zH, zI, zJ, zK, zL, zM, zN, reduceIte, ext_get_old, ext_set_old, ho, hg, set_get, set_set, GGa, jq]) <;> (repeat' (first | exact trivial | refine And.intro ?_ ?_))) ?_; (try simp only [↓jr, jp, jd, jz, zA, zB, zC, zD, zE, zF, zG, zH, zI, zJ, zK, zL, zM, zN, reduceIte, ext_get_old, ext_set_old, ho, hg, set_get, set_set, GGa])
    refine fls (fun h => ?_)
    have := h.2.2.1; have := arity_ne (op := op) (by omega); omega
  (try simp only [↓jr, jp, jd, jz, zA, zB, zC, zD, zE, zF, zG, zH, zI, zJ, zK, zL, zM, zN, reduceIte, ext_get_old, ext_set_old, ho, hg, set_get, set_set, GGa])
  refine wc.intro (by omega) ?_
  (try simp only [↓jr, jp, jd, jz, zA, zB, zC, zD, zE, zF, zG, zH, zI, zJ, zK, zL, zM, zN, reduceIte, ext_get_old, ext_set_old, ho, hg, set_get, set_set, GGa, args_at (op := op) (by omega) (by omega)])
  refine JDRAW.of (by (try simp only [↓jr, jp, jd, jz, zA, zB, zC, zD, zE, zF, zG, zH, zI, zJ, zK, zL, zM, zN, reduceIte, ext_get_old, ext_set_old, ho, hg, set_get, set_set, GGa, jq]) <;> (repeat' (first | exact trivial | refine And.intro ?_ ?_ | assumption | (unfold pid; omega)))) (by (try simp only [↓jr, jp, jd, jz, zA, zB, zC, zD, zE, zF, zG, zH, zI, zJ, zK, zL, zM, zN, reduceIte, ext_get_old, ext_set_old, ho, hg, set_get, set_set, GGa, jq]) <;> (repeat' (first | exact trivial | refine And.intro ?_ ?_))) ?_; (try simp only [↓jr, jp, jd, jz, zA, zB, zC, zD, zE, zF, zG, zH, zI, zJ, zK, zL, zM, zN, reduceIte, ext_get_old, ext_set_old, ho, hg, set_get, set_set, GGa])
  repeat' (first | (refine wq.intro (fun _ => ?_) (fun _ => ?_) <;> first | contradiction | (try simp only [↓jr, jp, jd, jz, zA, zB, zC, zD, zE, zF, zG, zH, zI, zJ, zK, zL, zM, zN, reduceIte, ext_get_old, ext_set_old, ho, hg, set_get, set_set, GGa])) | (refine ww.intro (fun _ => ?_) (fun _ => ?_) <;> first | contradiction | (try simp only [↓jr, jp, jd, jz, zA, zB, zC, zD, zE, zF, zG, zH, zI, zJ, zK, zL, zM, zN, reduceIte, ext_get_old, ext_set_old, ho, hg, set_get, set_set, GGa])) | (refine wc.intro (by first | omega | (unfold R64; omega) | trivial) ?_; (try simp only [↓jr, jp, jd, jz, zA, zB, zC, zD, zE, zF, zG, zH, zI, zJ, zK, zL, zM, zN, reduceIte, ext_get_old, ext_set_old, ho, hg, set_get, set_set, GGa])) | (refine wr.in (by unfold R64; omega) ?_; (try simp only [↓jr, jp, jd, jz, zA, zB, zC, zD, zE, zF, zG, zH, zI, zJ, zK, zL, zM, zN, reduceIte, ext_get_old, ext_set_old, ho, hg, set_get, set_set, GGa])))
  any_goals exact fls (by rintro ⟨g1, g2, h1, h2, h3, h4, h5⟩; first | omega | (simp_all [quant]; done) | (simp_all [quant]; omega))
  all_goals
    have hSH : 1 ≤ x ∧ d ≤ 20 ∧ SH n.cs.length n.rs.length op k args.length := ⟨by omega, by omega, by omega, by omega, fun _ => by first | omega | contradiction, fun _ hq => by first | omega | (simp [quant] at hq; omega), fun _ hq => by first | omega | (simp [quant] at hq; omega)⟩
    rw [hv1 hSH]
    refine JLOOP.of (σ := Nat × Int) (fun s => s.1 ≤ args.length ∧ s.2 ≤ x ∧ x - (1 + Con.nodesL args) ≤ s.2 - Con.nodesL (args.drop s.1) ∧ vlds n.cs.length n.rs.length (args.drop s.1) s.2 (d + 1) = vlds n.cs.length n.rs.length args (x - 1) (d + 1)) (fun s => args.length - s.1)
      (fun s => [(80, I64 s.1), (79, I64 args.length), (78, .sl .none args.length (encs Con.enc args)), (4, .ptr (pid j.next 0) 0), (2, .ptr o 0), (3, I64 d)]) (fun s => ext (j.set o (.cells e [I64 s.2])) [.cells 24 n.enc, .cells 43 (Con.mk op k args).enc]) (0, x - 1) ⟨by omega, by simp only; omega, by simp only [List.drop_zero]; omega, by simp only [List.drop_zero]⟩ ?_ (JDropH.refl _) ?_
    · have ho2 : o < pid j.next 2 := by unfold pid; omega
      ((try simp only [↓jr, jp, jd, jz, zA, zB, zC, zD, zE, zF, zG, zH, zI, zJ, zK, zL, zM, zN, reduceIte, ext_get_old, ext_set_old, ho, hg, set_get, set_set, GGa, DL]) <;> (repeat' (first | exact trivial | refine And.intro ?_ ?_ | exact SubB.v | exact SubB.any | ((first | refine SubB.ptr ?_ | refine SubB.arr ?_ | refine SubB.mp ?_) <;> first | assumption | (unfold pid; omega)) | ((first | refine SubB.pure ?_ | refine SubBs.pure ?_) <;> (simp only [AV.pure, AV.pures, pures_append, jpu, Bool.and_self, Bool.and_true, Bool.true_and]; done)) | refine SubB.fn ?_ ?_ | refine SubB.sl ?_ ?_ | refine SubB.agg ?_ | refine SubB.tup ?_ | rfl)))
    · rintro ⟨i, y⟩ ⟨hi, hy1, hy2, hI⟩
      simp only at hi hy1 hy2 hI
      have ho2 : o < pid j.next 2 := by unfold pid; omega
      (try simp only [↓jr, jp, jd, jz, zA, zB, zC, zD, zE, zF, zG, zH, zI, zJ, zK, zL, zM, zN, reduceIte, ext_get_old, ext_set_old, ho, hg, set_get, set_set, GGa])
      refine wq.intro (fun h1 => ?_) (fun h1 => ?_)
      · have hlt : i < (args).length := by omega
        obtain ⟨c, l, hd⟩ : ∃ c_ l_, List.drop i (args) = c_ :: l_ := ⟨_, _, List.drop_eq_getElem_cons hlt⟩
        have hd1 : List.drop (i + 1) (args) = l := by rw [← List.drop_drop, hd]; rfl
        have hmem : c ∈ args := List.mem_of_mem_drop (hd ▸ List.mem_cons_self)
        rw [hd] at hI hy2
        simp only [vlds, Con.nodesL] at hI hy2
        (try simp only [↓jr, jp, jd, jz, zA, zB, zC, zD, zE, zF, zG, zH, zI, zJ, zK, zL, zM, zN, reduceIte, ext_get_old, ext_set_old, ho, hg, set_get, set_set, GGa, hd])
        refine wc.intro (by omega) ?_
        (try simp only [↓jr, jp, jd, jz, zA, zB, zC, zD, zE, zF, zG, zH, zI, zJ, zK, zL, zM, zN, reduceIte, ext_get_old, ext_set_old, ho, hg, set_get, set_set, GGa, hd])
        refine wc.intro (by unfold R64; omega) ?_
        (try simp only [↓jr, jp, jd, jz, zA, zB, zC, zD, zE, zF, zG, zH, zI, zJ, zK, zL, zM, zN, reduceIte, ext_get_old, ext_set_old, ho, hg, set_get, set_set, GGa])
        obtain ⟨v1, v2, v3, v4⟩ := vld_eq n.cs.length n.rs.length c y (d + 1)
        refine JCs.ret (ih c hmem o y (d + 1) (ext (j.set o (.cells e [I64 y])) [.cells 24 n.enc, .cells 43 (Con.mk op k args).enc, .cells 43 c.enc]) (Con.oks_mem hc4 hmem) (by rw [ext_next, set_next]; unfold pid; omega) (by rw [ext_get_old (by rw [set_next]; exact ho), set_get, if_pos rfl]) (by omega) (by omega) (by omega) (by omega)) ?_
        (try simp only [↓jr, jp, jd, jz, zA, zB, zC, zD, zE, zF, zG, zH, zI, zJ, zK, zL, zM, zN, reduceIte, ext_get_old, ext_set_old, ho, hg, set_get, set_set, GGa])
        refine ww.intro (fun h2 => ?_) (fun h2 => ?_)
        · (try simp only [↓jr, jp, jd, jz, zA, zB, zC, zD, zE, zF, zG, zH, zI, zJ, zK, zL, zM, zN, reduceIte, ext_get_old, ext_set_old, ho, hg, set_get, set_set, GGa])
          refine wc.intro (R64_add hlt hc3) ?_
          (try simp only [↓jr, jp, jd, jz, zA, zB, zC, zD, zE, zF, zG, zH, zI, zJ, zK, zL, zM, zN, reduceIte, ext_get_old, ext_set_old, ho, hg, set_get, set_set, GGa])
          have v2' := v2 h2
          rw [h2] at hI
          refine JNEXT.of (i + 1, (vld n.cs.length n.rs.length c y (d + 1)).2) ⟨by simp only; omega, by simp only; omega, by simp only [hd1]; omega, by simp only [hd1]; exact hI⟩ (by simp only; omega) ?_ (JDropH.nextS (OSub.pure rfl) (by simp only [LSub, and_self, true_or, and_true]))
          ((try simp only [↓jr, jp, jd, jz, zA, zB, zC, zD, zE, zF, zG, zH, zI, zJ, zK, zL, zM, zN, reduceIte, ext_get_old, ext_set_old, ho, hg, set_get, set_set, GGa, DL]) <;> (repeat' (first | exact trivial | refine And.intro ?_ ?_ | exact SubB.v | exact SubB.any | ((first | refine SubB.ptr ?_ | refine SubB.arr ?_ | refine SubB.mp ?_) <;> first | assumption | (unfold pid; omega)) | ((first | refine SubB.pure ?_ | refine SubBs.pure ?_) <;> (simp only [AV.pure, AV.pures, pures_append, jpu, Bool.and_self, Bool.and_true, Bool.true_and]; done)) | refine SubB.fn ?_ ?_ | refine SubB.sl ?_ ?_ | refine SubB.agg ?_ | refine SubB.tup ?_ | rfl)))
        · (try simp only [↓jr, jp, jd, jz, zA, zB, zC, zD, zE, zF, zG, zH, zI, zJ, zK, zL, zM, zN, reduceIte, ext_get_old, ext_set_old, ho, hg, set_get, set_set, GGa])
          rw [h2] at hI
          simp only [Bool.false_eq_true, if_false] at hI
          rw [← hI]
          exact JFIN.ret (JDropH.back1 (TokExt.refl _) ho (OSub.pure rfl)).of_ext SubB.v
      · (try simp only [↓jr, jp, jd, jz, zA, zB, zC, zD, zE, zF, zG, zH, zI, zJ, zK, zL, zM, zN, reduceIte, ext_get_old, ext_set_old, ho, hg, set_get, set_set, GGa])
        rw [List.drop_eq_nil_of_le (by omega)] at hI
        simp only [vlds] at hI
        rw [← hI]
        exact JFIN.ret (JDropH.back1 (TokExt.refl _) ho (OSub.pure rfl)).of_ext SubB.v
end Go.Proofs.YtkcbhebbjpiibaaDoor.Pg
