/-
  The fixed calls.
-/
import Derived.Test.YtkcbhebbjpiibaaDoorLx
set_option linter.unusedVariables false
set_option linter.unusedSimpArgs false
set_option linter.defProp false
set_option maxRecDepth 20000
set_option maxHeartbeats 1000000
namespace Go.Proofs.YtkcbhebbjpiibaaDoor.Pg
open Go
variable {m : Int} {G : Nat → Option (List AV)}
def pN0 : Con := .mk 0 0 []
def pN1 : Con := .mk 0 1 []
def pF0 : Con := .mk 6 0 [.mk 1 0 []]
def pF1 : Con := .mk 6 1 [.mk 1 0 []]
def pX : Con := .mk 3 0 [pN1]
def pNms : Nms := ⟨[⟨#[80, 114, 111, 102]⟩, ⟨#[67, 111, 117, 114, 115, 101]⟩], [⟨#[116, 101, 97, 99, 104, 101, 115]⟩], []⟩
def pInc : List Inc := [⟨pN0, pF0⟩, ⟨pF1, pN1⟩, ⟨pN0, pX⟩]
/-- The chapter's example. -/
def pB : Bas := ⟨pNms, pInc, [], [], []⟩
/-- The same with one role inclusion. -/
def pB2 : Bas := ⟨pNms, pInc, [⟨0, 1⟩], [], []⟩
/-- A name that is reserved. -/
def pB3 : Bas := ⟨⟨[⟨#[116, 111, 112]⟩], [], []⟩, [], [], [], []⟩
theorem q_e5 {b : Bool} {x y : JH} : okE ⟨b, none, x, y⟩ = (x.next ≤ y.next ∧ x.tnext ≤ y.tnext) := by simp [okE]
theorem q_t2 {l : L} {x : AV} : jtouch l (some (.k x)) = jtv x := by unfold jtouch jtv; cases x <;> rfl
def ir43 : IFn := ⟨18, [⟨0, (some (some 7))⟩], (.seq (.reg [⟨(some 0), none, none, (.alloc 30 [.sl .nil 0 [], .sl .nil 0 [], .sl .nil 0 [], .sl .nil 0 [], .sl .nil 0 [], .sl .nil 0 [], .sl .nil 0 []])⟩]) (.seq (.reg [⟨(some 2), none, none, (.bsl 2 1 [.v (.string ⟨#[]⟩)] [(0, (1, .k (.v (.string ⟨#[80, 114, 111, 102]⟩)))), (1, (1, .k (.v (.string ⟨#[67, 111, 117, 114, 115, 101]⟩))))])⟩, ⟨(some 3), none, none, (.bsl 1 1 [.v (.string ⟨#[]⟩)] [(0, (1, .k (.v (.string ⟨#[116, 101, 97, 99, 104, 101, 115]⟩))))])⟩, ⟨(some 4), none, none, (.build [.sl .nil 0 [], .sl .nil 0 [], .sl .nil 0 []] [(0, (1, .r 2)), (1, (1, .r 3))])⟩, ⟨(some 1), none, none, (.alloc 24 [.sl .nil 0 [], .sl .nil 0 [], .sl .nil 0 []])⟩, ⟨none, none, none, (.store 3 (.r 1) (.r 4))⟩]) (.seq (.draw [⟨(some 5), none, (some (.r 1)), (.load (some 3) (.r 1))⟩, ⟨(some 6), none, (some (.k (.v (.int .i64 0)))), (.call 44 [.k (.v (.int .i64 0))])⟩, ⟨(some 7), none, (some (.k (.v (.int .i64 0)))), (.call 76 [.k (.v (.int .i64 0))])⟩, ⟨(some 8), none, none, (.build [.v (.int .i64 0), .v (.int .i64 0), .sl .nil 0 [], .v (.int .i64 0), .v (.int .i64 0), .sl .nil 0 []] [(0, (3, .r 6)), (3, (3, .r 7))])⟩, ⟨(some 9), none, (some (.k (.v (.int .i64 1)))), (.call 76 [.k (.v (.int .i64 1))])⟩, ⟨(some 10), none, (some (.k (.v (.int .i64 1)))), (.call 44 [.k (.v (.int .i64 1))])⟩, ⟨(some 11), none, none, (.build [.v (.int .i64 0), .v (.int .i64 0), .sl .nil 0 [], .v (.int .i64 0), .v (.int .i64 0), .sl .nil 0 []] [(0, (3, .r 9)), (3, (3, .r 10))])⟩, ⟨(some 12), none, (some (.k (.v (.int .i64 0)))), (.call 44 [.k (.v (.int .i64 0))])⟩, ⟨(some 13), none, (some (.k (.v (.int .i64 1)))), (.call 44 [.k (.v (.int .i64 1))])⟩, ⟨(some 14), none, (some (.r 13)), (.call 17 [.r 13])⟩, ⟨(some 15), none, none, (.build [.v (.int .i64 0), .v (.int .i64 0), .sl .nil 0 [], .v (.int .i64 0), .v (.int .i64 0), .sl .nil 0 []] [(0, (3, .r 12)), (3, (3, .r 14))])⟩, ⟨(some 16), none, none, (.bsl 3 6 [.v (.int .i64 0), .v (.int .i64 0), .sl .nil 0 [], .v (.int .i64 0), .v (.int .i64 0), .sl .nil 0 []] [(0, (6, .r 8)), (6, (6, .r 11)), (12, (6, .r 15))])⟩, ⟨(some 17), none, none, (.build [.sl .nil 0 [], .sl .nil 0 [], .sl .nil 0 [], .sl .nil 0 [], .sl .nil 0 [], .sl .nil 0 [], .sl .nil 0 []] [(0, (3, .r 5)), (3, (1, .r 16))])⟩, ⟨none, none, none, (.store 7 (.r 0) (.r 17))⟩] [(0, 1), (0, 2), (0, 4), (0, 5), (0, 7), (0, 8), (0, 9)]) .ret)))⟩
theorem c43 : cfunc Tryd.prog 43 = some ir43 := by kernel_rfl
theorem k43 : okIR (max 0 ir43.n) ir43.ir = true := by decide +kernel
theorem s_profs (j : JH) : JC Tryd.prog G 43 [] j (RET (.agg pB.enc) j) := by
  refine JC.run hmix c43 (by exact k43) ?_
  (try simp only [↓jr, jp, jd, jz, Nat.reduceEqDiff, Nat.reduceAdd, Nat.reduceMul, Nat.reduceSub, Nat.reduceLT, Nat.reduceLeDiff, Int.reduceAdd, Int.reduceSub, Int.reduceMul, Int.reduceNeg, Int.reduceToNat, Int.reduceEq, Int.reduceLT, Int.reduceLE, reduceIte, decide_true, decide_false, ne_eq, eq_self, rb_ld, rb_len, jq2, Con.enc, Con.encs, q_e5, q_t2, ext_next, ext_tnext, Nat.le_refl, Nat.le_add_right, ir43])
  refine JDC.use (s_RName 0 _) ?_
  (try simp only [↓jr, jp, jd, jz, Nat.reduceEqDiff, Nat.reduceAdd, Nat.reduceMul, Nat.reduceSub, Nat.reduceLT, Nat.reduceLeDiff, Int.reduceAdd, Int.reduceSub, Int.reduceMul, Int.reduceNeg, Int.reduceToNat, Int.reduceEq, Int.reduceLT, Int.reduceLE, reduceIte, decide_true, decide_false, ne_eq, eq_self, rb_ld, rb_len, jq2, Con.enc, Con.encs, q_e5, q_t2, ext_next, ext_tnext, Nat.le_refl, Nat.le_add_right])
  refine JDC.use (s_RFirst 0 _) ?_
  (try simp only [↓jr, jp, jd, jz, Nat.reduceEqDiff, Nat.reduceAdd, Nat.reduceMul, Nat.reduceSub, Nat.reduceLT, Nat.reduceLeDiff, Int.reduceAdd, Int.reduceSub, Int.reduceMul, Int.reduceNeg, Int.reduceToNat, Int.reduceEq, Int.reduceLT, Int.reduceLE, reduceIte, decide_true, decide_false, ne_eq, eq_self, rb_ld, rb_len, jq2, Con.enc, Con.encs, q_e5, q_t2, ext_next, ext_tnext, Nat.le_refl, Nat.le_add_right])
  refine JDC.use (s_RFirst 1 _) ?_
  (try simp only [↓jr, jp, jd, jz, Nat.reduceEqDiff, Nat.reduceAdd, Nat.reduceMul, Nat.reduceSub, Nat.reduceLT, Nat.reduceLeDiff, Int.reduceAdd, Int.reduceSub, Int.reduceMul, Int.reduceNeg, Int.reduceToNat, Int.reduceEq, Int.reduceLT, Int.reduceLE, reduceIte, decide_true, decide_false, ne_eq, eq_self, rb_ld, rb_len, jq2, Con.enc, Con.encs, q_e5, q_t2, ext_next, ext_tnext, Nat.le_refl, Nat.le_add_right])
  refine JDC.use (s_RName 1 _) ?_
  (try simp only [↓jr, jp, jd, jz, Nat.reduceEqDiff, Nat.reduceAdd, Nat.reduceMul, Nat.reduceSub, Nat.reduceLT, Nat.reduceLeDiff, Int.reduceAdd, Int.reduceSub, Int.reduceMul, Int.reduceNeg, Int.reduceToNat, Int.reduceEq, Int.reduceLT, Int.reduceLE, reduceIte, decide_true, decide_false, ne_eq, eq_self, rb_ld, rb_len, jq2, Con.enc, Con.encs, q_e5, q_t2, ext_next, ext_tnext, Nat.le_refl, Nat.le_add_right])
  refine JDC.use (s_RName 0 _) ?_
  (try simp only [↓jr, jp, jd, jz, Nat.reduceEqDiff, Nat.reduceAdd, Nat.reduceMul, Nat.reduceSub, Nat.reduceLT, Nat.reduceLeDiff, Int.reduceAdd, Int.reduceSub, Int.reduceMul, Int.reduceNeg, Int.reduceToNat, Int.reduceEq, Int.reduceLT, Int.reduceLE, reduceIte, decide_true, decide_false, ne_eq, eq_self, rb_ld, rb_len, jq2, Con.enc, Con.encs, q_e5, q_t2, ext_next, ext_tnext, Nat.le_refl, Nat.le_add_right])
  refine JDC.use (s_RName 1 _) ?_
  (try simp only [↓jr, jp, jd, jz, Nat.reduceEqDiff, Nat.reduceAdd, Nat.reduceMul, Nat.reduceSub, Nat.reduceLT, Nat.reduceLeDiff, Int.reduceAdd, Int.reduceSub, Int.reduceMul, Int.reduceNeg, Int.reduceToNat, Int.reduceEq, Int.reduceLT, Int.reduceLE, reduceIte, decide_true, decide_false, ne_eq, eq_self, rb_ld, rb_len, jq2, Con.enc, Con.encs, q_e5, q_t2, ext_next, ext_tnext, Nat.le_refl, Nat.le_add_right])
  refine JDC.use (s_not pN1 _) ?_
  (try simp only [↓jr, jp, jd, jz, Nat.reduceEqDiff, Nat.reduceAdd, Nat.reduceMul, Nat.reduceSub, Nat.reduceLT, Nat.reduceLeDiff, Int.reduceAdd, Int.reduceSub, Int.reduceMul, Int.reduceNeg, Int.reduceToNat, Int.reduceEq, Int.reduceLT, Int.reduceLE, reduceIte, decide_true, decide_false, ne_eq, eq_self, rb_ld, rb_len, jq2, Con.enc, Con.encs, q_e5, q_t2, ext_next, ext_tnext, Nat.le_refl, Nat.le_add_right])
  refine JDRAW.of (by (try simp only [↓jr, jp, jd, jz, Nat.reduceEqDiff, Nat.reduceAdd, Nat.reduceMul, Nat.reduceSub, Nat.reduceLT, Nat.reduceLeDiff, Int.reduceAdd, Int.reduceSub, Int.reduceMul, Int.reduceNeg, Int.reduceToNat, Int.reduceEq, Int.reduceLT, Int.reduceLE, reduceIte, decide_true, decide_false, ne_eq, eq_self, rb_ld, rb_len, jq2, Con.enc, Con.encs, q_e5, q_t2, ext_next, ext_tnext, Nat.le_refl, Nat.le_add_right, jq]) <;> (repeat' (first | exact trivial | refine And.intro ?_ ?_ | assumption | (unfold pid; omega)))) (by (try simp only [↓jr, jp, jd, jz, Nat.reduceEqDiff, Nat.reduceAdd, Nat.reduceMul, Nat.reduceSub, Nat.reduceLT, Nat.reduceLeDiff, Int.reduceAdd, Int.reduceSub, Int.reduceMul, Int.reduceNeg, Int.reduceToNat, Int.reduceEq, Int.reduceLT, Int.reduceLE, reduceIte, decide_true, decide_false, ne_eq, eq_self, rb_ld, rb_len, jq2, Con.enc, Con.encs, q_e5, q_t2, ext_next, ext_tnext, Nat.le_refl, Nat.le_add_right, jq]) <;> (repeat' (first | exact trivial | refine And.intro ?_ ?_))) ?_; (try simp only [↓jr, jp, jd, jz, Nat.reduceEqDiff, Nat.reduceAdd, Nat.reduceMul, Nat.reduceSub, Nat.reduceLT, Nat.reduceLeDiff, Int.reduceAdd, Int.reduceSub, Int.reduceMul, Int.reduceNeg, Int.reduceToNat, Int.reduceEq, Int.reduceLT, Int.reduceLE, reduceIte, decide_true, decide_false, ne_eq, eq_self, rb_ld, rb_len, jq2, Con.enc, Con.encs, q_e5, q_t2, ext_next, ext_tnext, Nat.le_refl, Nat.le_add_right])
  refine JFIN.ret ((JDropH.back (by repeat' (first | exact TokExt.refl _ | refine TokExt.push ?_ _ | refine TokExt.setT ?_ (by first | exact Nat.le_refl _ | (simp only [pushTok_tnext, setTok_tnext, ext_tnext, set_tnext]; omega)) _))).of_ext) ?_
  exact SubB.agg ⟨SubB.sl rfl (SubBs.pure rfl), SubB.sl rfl (SubBs.pure rfl), SubB.sl rfl (SubBs.pure rfl), SubB.sl rfl (SubBs.pure rfl), SubB.sl rfl (SubBs.pure rfl), SubB.sl rfl (SubBs.pure rfl), SubB.sl rfl (SubBs.pure rfl), True.intro⟩
end Go.Proofs.YtkcbhebbjpiibaaDoor.Pg
