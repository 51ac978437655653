/-
  Concepts: validity, as the reference tells it.
-/
import Derived.Test.YtkcbhebbjpiibaaDoorLa
set_option linter.unusedVariables false
set_option linter.unusedSimpArgs false
set_option maxRecDepth 20000
set_option maxHeartbeats 8000000
namespace Go.Proofs.YtkcbhebbjpiibaaDoor.Pg
open Go
open Nat renaming reduceEqDiff → zA, reduceAdd → zB, reduceMul → zC, reduceSub → zD, reduceLT → zE, reduceLeDiff → zF
open Int renaming reduceAdd → zG, reduceSub → zH, reduceMul → zI, reduceNeg → zJ, reduceToNat → zK, reduceEq → zL, reduceLT → zM, reduceLE → zN
variable {G : Nat → Option (List AV)}
def arity (op : Int) : Int := if op = 0 ∨ op = 1 ∨ op = 2 then 0 else if op = 3 ∨ op = 6 ∨ op = 7 then 1 else if op = 4 ∨ op = 5 then 2 else -1
def quant (op : Int) : Bool := decide (op = 6) || decide (op = 7)
mutual
def shaped (nc nr : Nat) : Con → Bool
  | .mk op n l => decide (arity op = l.length) && decide (0 ≤ n) && (if op = 0 then decide (n < nc) else if quant op then decide (n < 2 * nr) else decide (n = 0)) && shapedL nc nr l
def shapedL (nc nr : Nat) : List Con → Bool
  | [] => true
  | c :: l => shaped nc nr c && shapedL nc nr l
end
def conOK (m : Nms) (c : Con) : Bool := decide (c.nodes ≤ 400) && decide (c.depth ≤ 20) && shaped m.cs.length m.rs.length c
def Nms.ok (m : Nms) : Prop := m.cs.length < 4611686018427387904 ∧ m.rs.length < 4611686018427387904 ∧ m.is.length < 4611686018427387904

def SH (nc nr : Nat) (op n : Int) (k : Nat) : Prop := arity op = k ∧ 0 ≤ n ∧ (op = 0 → n < nc) ∧ (op ≠ 0 → quant op = true → n < 2 * nr) ∧ (op ≠ 0 → quant op = false → n = 0)
theorem shaped_mk {nc nr : Nat} {op n : Int} {l : List Con} : (shaped nc nr (.mk op n l) = true) = (SH nc nr op n l.length ∧ shapedL nc nr l = true) := by
  simp only [shaped, SH, Bool.and_eq_true, decide_eq_true_eq]
  by_cases h0 : op = 0
  · simp [h0]; omega
  · by_cases hq : quant op = true
    · simp [h0, hq]; omega
    · simp only [Bool.not_eq_true] at hq; simp [h0, hq]; omega
theorem shaped_f {nc nr : Nat} {op n : Int} {l : List Con} (h : ¬ SH nc nr op n l.length) : shaped nc nr (.mk op n l) = false := by
  rw [Bool.eq_false_iff, ne_eq, shaped_mk]; exact fun q => h q.1
theorem shaped_t {nc nr : Nat} {op n : Int} {l : List Con} (h : SH nc nr op n l.length) : shaped nc nr (.mk op n l) = shapedL nc nr l := by
  rw [Bool.eq_iff_iff, shaped_mk]; exact ⟨fun q => q.2, fun q => ⟨h, q⟩⟩
theorem arity0 {k : Nat} (h : arity 0 = k) : k = 0 := by simp [arity] at h; omega
def ir79 : IFn := ⟨15, [⟨2, none⟩], (.seq (.reg [⟨(some 2), none, none, (.mov (.k (.v (.int .i64 0))))⟩]) (.seq (.seq (.reg [⟨(some 3), none, none, (.mov (.r 0))⟩]) (.block 0 (.seq (.seq (.reg [⟨(some 5), none, none, (.bin .eql (.r 3) (.k (.v (.int .i64 0))))⟩, ⟨(some 4), none, none, (.mov (.r 5))⟩]) (.cond (.r 4) .skip (.seq (.reg [⟨(some 6), none, none, (.bin .eql (.r 3) (.k (.v (.int .i64 1))))⟩, ⟨(some 4), none, none, (.mov (.r 6))⟩]) (.cond (.r 4) .skip (.reg [⟨(some 7), none, none, (.bin .eql (.r 3) (.k (.v (.int .i64 2))))⟩, ⟨(some 4), none, none, (.mov (.r 7))⟩]))))) (.cond (.r 4) (.seq (.reg [⟨(some 2), none, none, (.mov (.k (.v (.int .i64 0))))⟩]) .ret) (.seq (.seq (.reg [⟨(some 9), none, none, (.bin .eql (.r 3) (.k (.v (.int .i64 3))))⟩, ⟨(some 8), none, none, (.mov (.r 9))⟩]) (.cond (.r 8) .skip (.seq (.reg [⟨(some 10), none, none, (.bin .eql (.r 3) (.k (.v (.int .i64 6))))⟩, ⟨(some 8), none, none, (.mov (.r 10))⟩]) (.cond (.r 8) .skip (.reg [⟨(some 11), none, none, (.bin .eql (.r 3) (.k (.v (.int .i64 7))))⟩, ⟨(some 8), none, none, (.mov (.r 11))⟩]))))) (.cond (.r 8) (.seq (.reg [⟨(some 2), none, none, (.mov (.k (.v (.int .i64 1))))⟩]) .ret) (.seq (.seq (.reg [⟨(some 13), none, none, (.bin .eql (.r 3) (.k (.v (.int .i64 4))))⟩, ⟨(some 12), none, none, (.mov (.r 13))⟩]) (.cond (.r 12) .skip (.reg [⟨(some 14), none, none, (.bin .eql (.r 3) (.k (.v (.int .i64 5))))⟩, ⟨(some 12), none, none, (.mov (.r 14))⟩]))) (.cond (.r 12) (.seq (.reg [⟨(some 2), none, none, (.mov (.k (.v (.int .i64 2))))⟩]) .ret) .skip)))))))) (.seq (.reg [⟨(some 2), none, none, (.mov (.k (.v (.int .i64 (-1)))))⟩]) .ret)))⟩
theorem c79 : cfunc Tryd.prog 79 = some ir79 := by kernel_rfl
theorem k79 : okIR (max 1 ir79.n) ir79.ir = true := by decide +kernel
theorem s_Arity (op : Int) (j : JH) : JC Tryd.prog G 79 [I64 op] j (RET (I64 (arity op)) j) := by
  refine JC.run hmix c79 (by exact k79) ?_
  (try simp only [↓jr, jp, jd, jz, zA, zB, zC, zD, zE, zF, zG, zH, zI, zJ, zK, zL, zM, zN, reduceIte, ir79])
  repeat' (first | (refine wq.intro (fun _ => ?_) (fun _ => ?_) <;> first | contradiction | (try simp only [↓jr, jp, jd, jz, zA, zB, zC, zD, zE, zF, zG, zH, zI, zJ, zK, zL, zM, zN, reduceIte])) | (refine ww.intro (fun _ => ?_) (fun _ => ?_) <;> first | contradiction | (try simp only [↓jr, jp, jd, jz, zA, zB, zC, zD, zE, zF, zG, zH, zI, zJ, zK, zL, zM, zN, reduceIte])) | (refine wc.intro (by first | omega | (unfold R64; omega) | trivial) ?_; (try simp only [↓jr, jp, jd, jz, zA, zB, zC, zD, zE, zF, zG, zH, zI, zJ, zK, zL, zM, zN, reduceIte])) | (refine wr.in (by unfold R64; omega) ?_; (try simp only [↓jr, jp, jd, jz, zA, zB, zC, zD, zE, zF, zG, zH, zI, zJ, zK, zL, zM, zN, reduceIte])))
  all_goals
    refine JFIN.ret ((JDropH.back (by repeat' (first | exact TokExt.refl _ | refine TokExt.push ?_ _ | refine TokExt.setT ?_ (by first | exact Nat.le_refl _ | (simp only [pushTok_tnext, setTok_tnext, ext_tnext, set_tnext]; omega)) _))).of_ext) ?_
    unfold arity
    repeat' split
    all_goals first | exact SubB.v | (exfalso; omega)
def ir80 : IFn := ⟨9, [⟨2, none⟩], (.seq (.reg [⟨(some 2), none, none, (.mov (.k (.v (.bool false))))⟩]) (.seq (.reg [⟨(some 3), none, none, (.mov (.r 0))⟩, ⟨(some 4), none, none, (.bin .eql (.r 3) (.k (.v (.int .i64 6))))⟩, ⟨(some 5), none, none, (.mov (.r 4))⟩, ⟨(some 6), (some ((5, false))), none, (.mov (.r 0))⟩, ⟨(some 7), (some ((5, false))), none, (.bin .eql (.r 6) (.k (.v (.int .i64 7))))⟩, ⟨(some 8), none, none, (.pick (.r 5) (.k (.v (.bool true))) (.r 7))⟩, ⟨(some 2), none, none, (.mov (.r 8))⟩]) .ret))⟩
theorem c80 : cfunc Tryd.prog 80 = some ir80 := by kernel_rfl
theorem k80 : okIR (max 1 ir80.n) ir80.ir = true := by decide +kernel
theorem s_Quantified (op : Int) (j : JH) : JC Tryd.prog G 80 [I64 op] j (RET (BOO (quant op)) j) := by
  refine JC.run hmix c80 (by exact k80) ?_
  (try simp only [↓jr, jp, jd, jz, zA, zB, zC, zD, zE, zF, zG, zH, zI, zJ, zK, zL, zM, zN, reduceIte, ir80])
  repeat' (first | (refine wq.intro (fun _ => ?_) (fun _ => ?_) <;> first | contradiction | (try simp only [↓jr, jp, jd, jz, zA, zB, zC, zD, zE, zF, zG, zH, zI, zJ, zK, zL, zM, zN, reduceIte])) | (refine ww.intro (fun _ => ?_) (fun _ => ?_) <;> first | contradiction | (try simp only [↓jr, jp, jd, jz, zA, zB, zC, zD, zE, zF, zG, zH, zI, zJ, zK, zL, zM, zN, reduceIte])) | (refine wc.intro (by first | omega | (unfold R64; omega) | trivial) ?_; (try simp only [↓jr, jp, jd, jz, zA, zB, zC, zD, zE, zF, zG, zH, zI, zJ, zK, zL, zM, zN, reduceIte])) | (refine wr.in (by unfold R64; omega) ?_; (try simp only [↓jr, jp, jd, jz, zA, zB, zC, zD, zE, zF, zG, zH, zI, zJ, zK, zL, zM, zN, reduceIte])))
  all_goals
    refine JFIN.ret ((JDropH.back (by repeat' (first | exact TokExt.refl _ | refine TokExt.push ?_ _ | refine TokExt.setT ?_ (by first | exact Nat.le_refl _ | (simp only [pushTok_tnext, setTok_tnext, ext_tnext, set_tnext]; omega)) _))).of_ext) ?_
    simp only [quant, *, decide_true, Bool.true_or, decide_false, Bool.false_or, Bool.or_true]
    exact SubB.v
def ir51 : IFn := ⟨56, [⟨4, none⟩], (.seq (.reg [⟨(some 2), none, none, (.box 24 (.r 0))⟩, ⟨(some 3), none, none, (.box 43 (.r 1))⟩, ⟨(some 4), none, none, (.mov (.k (.v (.bool false))))⟩]) (.seq (.seq (.draw [⟨(some 7), none, none, (.fadr 0 (.r 3))⟩, ⟨(some 8), none, (some (.r 7)), (.load none (.r 7))⟩, ⟨(some 9), none, (some (.r 8)), (.call 79 [.r 8])⟩, ⟨(some 10), none, none, (.fadr 2 (.r 3))⟩, ⟨(some 11), none, (some (.r 10)), (.load none (.r 10))⟩, ⟨(some 12), none, (some (.r 11)), (.lenl (.r 11))⟩, ⟨(some 13), none, none, (.bin .neq (.r 9) (.r 12))⟩, ⟨(some 14), none, none, (.mov (.r 13))⟩, ⟨(some 15), (some ((14, false))), none, (.fadr 1 (.r 3))⟩, ⟨(some 16), (some ((14, false))), (some (.r 15)), (.load none (.r 15))⟩, ⟨(some 17), (some ((14, false))), none, (.bin .lss (.r 16) (.k (.v (.int .i64 0))))⟩, ⟨(some 18), none, none, (.pick (.r 14) (.k (.v (.bool true))) (.r 17))⟩] [(4, 2), (5, 2)]) (.cond (.r 18) (.seq (.reg [⟨(some 4), none, none, (.mov (.k (.v (.bool false))))⟩]) .ret) .skip)) (.seq (.block 0 (.seq (.reg [⟨(some 20), none, none, (.fadr 0 (.r 3))⟩, ⟨(some 21), none, (some (.r 20)), (.load none (.r 20))⟩, ⟨(some 22), none, none, (.bin .eql (.r 21) (.k (.v (.int .i64 0))))⟩, ⟨(some 19), none, none, (.mov (.r 22))⟩]) (.cond (.r 19) (.seq (.reg [⟨(some 23), none, none, (.fadr 1 (.r 3))⟩, ⟨(some 24), none, (some (.r 23)), (.load none (.r 23))⟩, ⟨(some 25), none, none, (.fadr 0 (.r 2))⟩, ⟨(some 26), none, (some (.r 25)), (.load none (.r 25))⟩, ⟨(some 27), none, (some (.r 26)), (.lenl (.r 26))⟩, ⟨(some 28), none, none, (.bin .lss (.r 24) (.r 27))⟩, ⟨(some 4), none, none, (.mov (.r 28))⟩]) .ret) (.seq (.reg [⟨(some 30), none, none, (.fadr 0 (.r 3))⟩, ⟨(some 31), none, (some (.r 30)), (.load none (.r 30))⟩, ⟨(some 32), none, (some (.r 31)), (.call 80 [.r 31])⟩, ⟨(some 29), none, none, (.mov (.r 32))⟩]) (.cond (.r 29) (.seq (.reg [⟨(some 33), none, none, (.fadr 1 (.r 3))⟩, ⟨(some 34), none, (some (.r 33)), (.load none (.r 33))⟩, ⟨(some 35), none, none, (.fadr 1 (.r 2))⟩, ⟨(some 36), none, (some (.r 35)), (.load none (.r 35))⟩, ⟨(some 37), none, (some (.r 36)), (.lenl (.r 36))⟩, ⟨(some 38), none, none, (.bin .mul (.k (.v (.int .i64 2))) (.r 37))⟩, ⟨(some 39), none, none, (.bin .geq (.r 34) (.r 38))⟩]) (.cond (.r 39) (.seq (.reg [⟨(some 4), none, none, (.mov (.k (.v (.bool false))))⟩]) .ret) .skip)) (.seq (.reg [⟨(some 41), none, none, (.fadr 1 (.r 3))⟩, ⟨(some 42), none, (some (.r 41)), (.load none (.r 41))⟩, ⟨(some 43), none, none, (.bin .neq (.r 42) (.k (.v (.int .i64 0))))⟩, ⟨(some 40), none, none, (.mov (.r 43))⟩]) (.cond (.r 40) (.seq (.reg [⟨(some 4), none, none, (.mov (.k (.v (.bool false))))⟩]) .ret) .skip))))))) (.seq (.seq (.reg [⟨(some 44), none, none, (.fadr 2 (.r 3))⟩, ⟨(some 45), none, (some (.r 44)), (.load none (.r 44))⟩, ⟨(some 46), none, (some (.r 45)), (.lenl (.r 45))⟩, ⟨(some 47), none, none, (.mov (.k (.v (.int .i64 0))))⟩]) (.block 1 (.loop (.seq (.reg [⟨(some 48), none, none, (.bin .lss (.r 47) (.r 46))⟩]) (.seq (.cond (.r 48) .skip (.exit 1)) (.seq (.block 2 (.seq (.reg [⟨(some 49), none, none, (.iasl 3 (.r 45) (.r 47))⟩, ⟨(some 50), none, (some (.r 49)), (.load (some 3) (.r 49))⟩, ⟨(some 6), none, none, (.alloc 43 [.v (.int .i64 0), .v (.int .i64 0), .sl .nil 0 []])⟩, ⟨none, none, none, (.store 3 (.r 6) (.r 50))⟩]) (.seq (.reg [⟨(some 51), none, (some (.r 2)), (.load (some 3) (.r 2))⟩, ⟨(some 52), none, (some (.r 6)), (.load (some 3) (.r 6))⟩, ⟨(some 53), none, none, (.call 51 [.r 51, .r 52])⟩, ⟨(some 54), none, none, (.not (.r 53))⟩]) (.cond (.r 54) (.seq (.reg [⟨(some 4), none, none, (.mov (.k (.v (.bool false))))⟩]) .ret) .skip)))) (.reg [⟨(some 55), none, none, (.bin .add (.r 47) (.k (.v (.int .i64 1))))⟩, ⟨(some 47), none, none, (.mov (.r 55))⟩]))))))) (.seq (.reg [⟨(some 4), none, none, (.mov (.k (.v (.bool true))))⟩]) .ret)))))⟩
theorem c51 : cfunc Tryd.prog 51 = some ir51 := by kernel_rfl
theorem k51 : okIR (max 2 ir51.n) ir51.ir = true := by decide +kernel
theorem s_shaped (m : Nms) (hm : m.ok) : ∀ (c : Con) (j : JH), c.ok → JC Tryd.prog G 51 [.agg m.enc, .agg c.enc] j (RET (BOO (shaped m.cs.length m.rs.length c)) j) := by
  intro c
  induction c using Con.ind with
  | h op n args ih =>
  intro j hc
  simp only [Con.ok] at hc
  obtain ⟨hc1, hc2, hc3, hc4⟩ := hc
  obtain ⟨hm1, hm2, hm3⟩ := hm
  refine JC.run hmix c51 (by exact k51) ?_
  (try simp only [↓jr, jp, jd, jz, zA, zB, zC, zD, zE, zF, zG, zH, zI, zJ, zK, zL, zM, zN, reduceIte, ir51])
  refine JDC.use (s_Arity op _) ?_
  (try simp only [↓jr, jp, jd, jz, zA, zB, zC, zD, zE, zF, zG, zH, zI, zJ, zK, zL, zM, zN, reduceIte])
  have fls : ∀ {j' : JH} {l : List AObj}, TokExt j j' → ¬ SH m.cs.length m.rs.length op n args.length → @JFIN (ext j []) (ext j' l) (.v (.bool false)) ⟨fun y j' => RET (BOO (shaped m.cs.length m.rs.length (Con.mk op n args))) j (.ret y) j'⟩ := by
    intro j' l ht h
    refine JFIN.ret ((JDropH.back ht).of_ext) ?_
    rw [shaped_f h]; exact SubB.v
  repeat' (first | (refine wq.intro (fun _ => ?_) (fun _ => ?_) <;> first | contradiction | (try simp only [↓jr, jp, jd, jz, zA, zB, zC, zD, zE, zF, zG, zH, zI, zJ, zK, zL, zM, zN, reduceIte])) | (refine ww.intro (fun _ => ?_) (fun _ => ?_) <;> first | contradiction | (try simp only [↓jr, jp, jd, jz, zA, zB, zC, zD, zE, zF, zG, zH, zI, zJ, zK, zL, zM, zN, reduceIte])) | (refine wc.intro (by first | omega | (unfold R64; omega) | trivial) ?_; (try simp only [↓jr, jp, jd, jz, zA, zB, zC, zD, zE, zF, zG, zH, zI, zJ, zK, zL, zM, zN, reduceIte])) | (refine wr.in (by unfold R64; omega) ?_; (try simp only [↓jr, jp, jd, jz, zA, zB, zC, zD, zE, zF, zG, zH, zI, zJ, zK, zL, zM, zN, reduceIte])) | (refine JCs.ret (s_Quantified _ _) ?_; (try simp only [↓jr, jp, jd, jz, zA, zB, zC, zD, zE, zF, zG, zH, zI, zJ, zK, zL, zM, zN, reduceIte])) | (refine JDC.use (s_Quantified _ _) ?_; (try simp only [↓jr, jp, jd, jz, zA, zB, zC, zD, zE, zF, zG, zH, zI, zJ, zK, zL, zM, zN, reduceIte])) | (refine JDRAW.of (by (try simp only [↓jr, jp, jd, jz, zA, zB, zC, zD, zE, zF, zG, zH, zI, zJ, zK, zL, zM, zN, reduceIte, jq]) <;> (repeat' (first | exact trivial | refine And.intro ?_ ?_ | assumption | (unfold pid; omega)))) (by (try simp only [↓jr, jp, jd, jz, zA, zB, zC, zD, zE, zF, zG, zH, zI, zJ, zK, zL, zM, zN, reduceIte, jq]) <;> (repeat' (first | exact trivial | refine And.intro ?_ ?_))) ?_; (try simp only [↓jr, jp, jd, jz, zA, zB, zC, zD, zE, zF, zG, zH, zI, zJ, zK, zL, zM, zN, reduceIte])))
  any_goals exact fls (by repeat' (first | exact TokExt.refl _ | refine TokExt.push ?_ _ | refine TokExt.setT ?_ (by first | exact Nat.le_refl _ | (simp only [pushTok_tnext, setTok_tnext, ext_tnext, set_tnext]; omega)) _)) (by rintro ⟨h1, h2, h3, h4, h5⟩; first | omega | (simp_all; done) | (simp_all; omega))
  case h.refine_1.refine_2.refine_1 =>
    rename_i h1 h2 h3
    refine JFIN.ret ((JDropH.back (by repeat' (first | exact TokExt.refl _ | refine TokExt.push ?_ _ | refine TokExt.setT ?_ (by first | exact Nat.le_refl _ | (simp only [pushTok_tnext, setTok_tnext, ext_tnext, set_tnext]; omega)) _))).of_ext) ?_
    subst h3
    have hl : args = [] := List.eq_nil_of_length_eq_zero (arity0 h1)
    subst hl
    have e : shaped m.cs.length m.rs.length (Con.mk 0 n []) = decide (n < m.cs.length) := by
      rw [Bool.eq_iff_iff, shaped_mk]; simp [SH, shapedL, arity]; omega
    rw [e]; exact SubB.v
  all_goals
    have hSH : SH m.cs.length m.rs.length op n args.length := ⟨by assumption, by omega, fun _ => by contradiction, fun _ _ => by first | omega | simp_all, fun _ _ => by first | omega | simp_all⟩
    refine JLOOP.of (σ := Nat) (fun k => k ≤ args.length ∧ shapedL m.cs.length m.rs.length (args.drop k) = shapedL m.cs.length m.rs.length args) (fun k => args.length - k)
      (fun k => [(47, I64 k), (46, I64 args.length), (45, .sl .none args.length (encs Con.enc args)), (2, .ptr (pid j.next 0) 0)]) (fun k => ext j [.cells 24 m.enc, .cells 43 (Con.mk op n args).enc]) 0 ⟨by omega, by simp⟩ ?_ (JDropH.refl _) ?_
    · ((try simp only [↓jr, jp, jd, jz, zA, zB, zC, zD, zE, zF, zG, zH, zI, zJ, zK, zL, zM, zN, reduceIte, DL]) <;> (repeat' (first | exact trivial | refine And.intro ?_ ?_ | exact SubB.v | exact SubB.any | ((first | refine SubB.ptr ?_ | refine SubB.arr ?_ | refine SubB.mp ?_) <;> first | assumption | (unfold pid; omega)) | ((first | refine SubB.pure ?_ | refine SubBs.pure ?_) <;> (simp only [AV.pure, AV.pures, pures_append, jpu, Bool.and_self, Bool.and_true, Bool.true_and]; done)) | refine SubB.fn ?_ ?_ | refine SubB.sl ?_ ?_ | refine SubB.agg ?_ | refine SubB.tup ?_ | rfl)))
    · rintro k ⟨hk, hI⟩
      (try simp only [↓jr, jp, jd, jz, zA, zB, zC, zD, zE, zF, zG, zH, zI, zJ, zK, zL, zM, zN, reduceIte])
      refine wq.intro (fun h1 => ?_) (fun h1 => ?_)
      · have hlt : k < (args).length := by omega
        obtain ⟨c, l, hd⟩ : ∃ c_ l_, List.drop k (args) = c_ :: l_ := ⟨_, _, List.drop_eq_getElem_cons hlt⟩
        have hd1 : List.drop (k + 1) (args) = l := by rw [← List.drop_drop, hd]; rfl
        have hmem : c ∈ args := List.mem_of_mem_drop (hd ▸ List.mem_cons_self)
        (try simp only [↓jr, jp, jd, jz, zA, zB, zC, zD, zE, zF, zG, zH, zI, zJ, zK, zL, zM, zN, reduceIte, hd])
        rw [hd] at hI
        simp only [shapedL] at hI
        refine wc.intro (by omega) ?_
        (try simp only [↓jr, jp, jd, jz, zA, zB, zC, zD, zE, zF, zG, zH, zI, zJ, zK, zL, zM, zN, reduceIte, hd])
        refine JCs.ret (ih c hmem _ (Con.oks_mem hc4 hmem)) ?_
        (try simp only [↓jr, jp, jd, jz, zA, zB, zC, zD, zE, zF, zG, zH, zI, zJ, zK, zL, zM, zN, reduceIte])
        refine ww.intro (fun h2 => ?_) (fun h2 => ?_)
        · (try simp only [↓jr, jp, jd, jz, zA, zB, zC, zD, zE, zF, zG, zH, zI, zJ, zK, zL, zM, zN, reduceIte])
          refine wc.intro (R64_add hlt hc3) ?_
          (try simp only [↓jr, jp, jd, jz, zA, zB, zC, zD, zE, zF, zG, zH, zI, zJ, zK, zL, zM, zN, reduceIte])
          refine JNEXT.of (k + 1) ⟨by omega, by rw [hd1, ← hI, h2]; simp⟩ (by omega) ?_ ?_
          · ((try simp only [↓jr, jp, jd, jz, zA, zB, zC, zD, zE, zF, zG, zH, zI, zJ, zK, zL, zM, zN, reduceIte, DL]) <;> (repeat' (first | exact trivial | refine And.intro ?_ ?_ | exact SubB.v | exact SubB.any | ((first | refine SubB.ptr ?_ | refine SubB.arr ?_ | refine SubB.mp ?_) <;> first | assumption | (unfold pid; omega)) | ((first | refine SubB.pure ?_ | refine SubBs.pure ?_) <;> (simp only [AV.pure, AV.pures, pures_append, jpu, Bool.and_self, Bool.and_true, Bool.true_and]; done)) | refine SubB.fn ?_ ?_ | refine SubB.sl ?_ ?_ | refine SubB.agg ?_ | refine SubB.tup ?_ | rfl)))
          · exact (JDropH.next0 (by repeat' (first | exact TokExt.refl _ | refine TokExt.push ?_ _ | refine TokExt.setT ?_ (by first | exact Nat.le_refl _ | (simp only [pushTok_tnext, setTok_tnext, ext_tnext, set_tnext]; omega)) _)) (by simp only [LSub, and_self, true_or, and_true]))
        · (try simp only [↓jr, jp, jd, jz, zA, zB, zC, zD, zE, zF, zG, zH, zI, zJ, zK, zL, zM, zN, reduceIte])
          refine JFIN.ret ((JDropH.back (by repeat' (first | exact TokExt.refl _ | refine TokExt.push ?_ _ | refine TokExt.setT ?_ (by first | exact Nat.le_refl _ | (simp only [pushTok_tnext, setTok_tnext, ext_tnext, set_tnext]; omega)) _))).of_ext) ?_
          rw [shaped_t hSH, ← hI, h2]; exact SubB.v
      · (try simp only [↓jr, jp, jd, jz, zA, zB, zC, zD, zE, zF, zG, zH, zI, zJ, zK, zL, zM, zN, reduceIte])
        refine JFIN.ret ((JDropH.back (by repeat' (first | exact TokExt.refl _ | refine TokExt.push ?_ _ | refine TokExt.setT ?_ (by first | exact Nat.le_refl _ | (simp only [pushTok_tnext, setTok_tnext, ext_tnext, set_tnext]; omega)) _))).of_ext) ?_
        rw [shaped_t hSH, ← hI, List.drop_eq_nil_of_le (by omega)]; exact SubB.v
def ir50 : IFn := ⟨15, [⟨2, none⟩], (.seq (.reg [⟨(some 1), none, none, (.box 43 (.r 0))⟩, ⟨(some 2), none, none, (.mov (.k (.v (.bool false))))⟩]) (.seq (.seq (.reg [⟨(some 5), none, (some (.r 1)), (.load (some 3) (.r 1))⟩, ⟨(some 6), none, none, (.call 40 [.r 5, .k (.v (.int .i64 400))])⟩, ⟨(some 7), none, none, (.not (.r 6))⟩]) (.cond (.r 7) (.seq (.reg [⟨(some 2), none, none, (.mov (.k (.v (.bool false))))⟩]) .ret) .skip)) (.seq (.reg [⟨(some 9), none, (some (.r 1)), (.load (some 3) (.r 1))⟩, ⟨(some 10), none, (some (.r 9)), (.call 61 [.r 9])⟩, ⟨(some 8), none, none, (.mov (.r 10))⟩, ⟨(some 11), none, none, (.ext (.r 8) 0)⟩, ⟨(some 12), none, none, (.ext (.r 8) 1)⟩, ⟨(some 3), none, none, (.mov (.r 11))⟩, ⟨(some 4), none, none, (.mov (.r 12))⟩]) (.seq (.reg [⟨(some 13), none, none, (.mov (.r 4))⟩, ⟨(some 14), none, none, (.bin .leq (.r 13) (.k (.v (.int .i64 20))))⟩, ⟨(some 2), none, none, (.mov (.r 14))⟩]) .ret))))⟩
theorem c50 : cfunc Tryd.prog 50 = some ir50 := by kernel_rfl
theorem k50 : okIR (max 1 ir50.n) ir50.ir = true := by decide +kernel
theorem s_Small (c : Con) (j : JH) (hc : c.ok) : JC Tryd.prog G 50 [.agg c.enc] j (RET (BOO (decide (c.nodes ≤ 400) && decide (c.depth ≤ 20))) j) := by
  refine JC.run hmix c50 (by exact k50) ?_
  (try simp only [↓jr, jp, jd, jz, zA, zB, zC, zD, zE, zF, zG, zH, zI, zJ, zK, zL, zM, zN, reduceIte, ir50])
  refine JCs.ret (s_Fits c 400 _ hc (by omega) (by omega)) ?_
  (try simp only [↓jr, jp, jd, jz, zA, zB, zC, zD, zE, zF, zG, zH, zI, zJ, zK, zL, zM, zN, reduceIte])
  refine wq.intro (fun h => ?_) (fun h => ?_)
  · (try simp only [↓jr, jp, jd, jz, zA, zB, zC, zD, zE, zF, zG, zH, zI, zJ, zK, zL, zM, zN, reduceIte])
    refine JCs.ret (s_Size c _ hc (by omega)) ?_
    (try simp only [↓jr, jp, jd, jz, zA, zB, zC, zD, zE, zF, zG, zH, zI, zJ, zK, zL, zM, zN, reduceIte])
    refine JFIN.ret ((JDropH.back (by repeat' (first | exact TokExt.refl _ | refine TokExt.push ?_ _ | refine TokExt.setT ?_ (by first | exact Nat.le_refl _ | (simp only [pushTok_tnext, setTok_tnext, ext_tnext, set_tnext]; omega)) _))).of_ext) ?_
    have e : (decide (c.nodes ≤ 400) && decide (c.depth ≤ 20)) = decide ((c.depth : Int) ≤ 20) := by
      rw [decide_eq_true (by omega : c.nodes ≤ 400), Bool.true_and]; exact decide_eq_decide.2 (by omega)
    rw [e]; exact SubB.v
  · (try simp only [↓jr, jp, jd, jz, zA, zB, zC, zD, zE, zF, zG, zH, zI, zJ, zK, zL, zM, zN, reduceIte])
    refine JFIN.ret ((JDropH.back (by repeat' (first | exact TokExt.refl _ | refine TokExt.push ?_ _ | refine TokExt.setT ?_ (by first | exact Nat.le_refl _ | (simp only [pushTok_tnext, setTok_tnext, ext_tnext, set_tnext]; omega)) _))).of_ext) ?_
    rw [decide_eq_false (by omega : ¬ c.nodes ≤ 400), Bool.false_and]; exact SubB.v
def ir16 : IFn := ⟨12, [⟨4, none⟩], (.seq (.reg [⟨(some 2), none, none, (.box 24 (.r 0))⟩, ⟨(some 3), none, none, (.box 43 (.r 1))⟩, ⟨(some 4), none, none, (.mov (.k (.v (.bool false))))⟩]) (.seq (.reg [⟨(some 5), none, (some (.r 3)), (.load (some 3) (.r 3))⟩, ⟨(some 6), none, (some (.r 5)), (.call 50 [.r 5])⟩, ⟨(some 7), none, none, (.mov (.r 6))⟩, ⟨(some 8), (some ((7, true))), (some (.r 2)), (.load (some 3) (.r 2))⟩, ⟨(some 9), (some ((7, true))), (some (.r 3)), (.load (some 3) (.r 3))⟩, ⟨(some 10), (some ((7, true))), none, (.call 51 [.r 8, .r 9])⟩, ⟨(some 11), none, none, (.pick (.r 7) (.r 10) (.k (.v (.bool false))))⟩, ⟨(some 4), none, none, (.mov (.r 11))⟩]) .ret))⟩
theorem c16 : cfunc Tryd.prog 16 = some ir16 := by kernel_rfl
theorem k16 : okIR (max 2 ir16.n) ir16.ir = true := by decide +kernel
theorem s_Is (m : Nms) (c : Con) (j : JH) (hm : m.ok) (hc : c.ok) : JC Tryd.prog G 16 [.agg m.enc, .agg c.enc] j (RET (BOO (conOK m c)) j) := by
  refine JC.run hmix c16 (by exact k16) ?_
  (try simp only [↓jr, jp, jd, jz, zA, zB, zC, zD, zE, zF, zG, zH, zI, zJ, zK, zL, zM, zN, reduceIte, ir16])
  refine JCs.ret (s_Small c _ hc) ?_
  (try simp only [↓jr, jp, jd, jz, zA, zB, zC, zD, zE, zF, zG, zH, zI, zJ, zK, zL, zM, zN, reduceIte])
  refine ww.intro (fun h => ?_) (fun h => ?_)
  · (try simp only [↓jr, jp, jd, jz, zA, zB, zC, zD, zE, zF, zG, zH, zI, zJ, zK, zL, zM, zN, reduceIte])
    refine JCs.ret (s_shaped m hm c _ hc) ?_
    (try simp only [↓jr, jp, jd, jz, zA, zB, zC, zD, zE, zF, zG, zH, zI, zJ, zK, zL, zM, zN, reduceIte])
    refine JFIN.ret ((JDropH.back (by repeat' (first | exact TokExt.refl _ | refine TokExt.push ?_ _ | refine TokExt.setT ?_ (by first | exact Nat.le_refl _ | (simp only [pushTok_tnext, setTok_tnext, ext_tnext, set_tnext]; omega)) _))).of_ext) ?_
    unfold conOK; rw [h, Bool.true_and]; exact SubB.v
  · (try simp only [↓jr, jp, jd, jz, zA, zB, zC, zD, zE, zF, zG, zH, zI, zJ, zK, zL, zM, zN, reduceIte])
    refine JFIN.ret ((JDropH.back (by repeat' (first | exact TokExt.refl _ | refine TokExt.push ?_ _ | refine TokExt.setT ?_ (by first | exact Nat.le_refl _ | (simp only [pushTok_tnext, setTok_tnext, ext_tnext, set_tnext]; omega)) _))).of_ext) ?_
    unfold conOK; rw [h, Bool.false_and]; exact SubB.v
end Go.Proofs.YtkcbhebbjpiibaaDoor.Pg
