/-
  Knowledge bases: validity, as the program tells it.
-/
import Derived.Test.YtkcbhebbjpiibaaDoorLi
set_option linter.unusedVariables false
set_option linter.unusedSimpArgs false
set_option maxRecDepth 20000
set_option maxHeartbeats 8000000
namespace Go.Proofs.YtkcbhebbjpiibaaDoor.Pg
open Go
open Nat renaming reduceEqDiff → zA, reduceAdd → zB, reduceMul → zC, reduceSub → zD, reduceLT → zE, reduceLeDiff → zF
open Int renaming reduceAdd → zG, reduceSub → zH, reduceMul → zI, reduceNeg → zJ, reduceToNat → zK, reduceEq → zL, reduceLT → zM, reduceLE → zN
variable {m : Int}
structure Bas.ok (b : Bas) : Prop where
  nms : b.nms.ok
  short : b.nms.short
  li : b.incls.length < 1152921504606846976
  lr : b.roles.length < 1152921504606846976
  lf : b.facts.length < 1152921504606846976
  ll : b.links.length < 1152921504606846976
  incls : ∀ x ∈ b.incls, x.sub.ok ∧ x.sup.ok
  roles : ∀ x ∈ b.roles, R64 x.sub ∧ R64 x.sup
  facts : ∀ x ∈ b.facts, R64 x.ind ∧ x.con.ok
  links : ∀ x ∈ b.links, R64 x.role ∧ R64 x.fr ∧ R64 x.to
def Bas.few (b : Bas) : Prop := (∀ x ∈ b.incls, x.sub.nodes ≤ 4000000000 ∧ x.sup.nodes ≤ 4000000000) ∧ ∀ x ∈ b.facts, x.con.nodes ≤ 4000000000
def Bas.count (b : Bas) : Nat := b.incls.length + b.roles.length + b.facts.length + b.links.length
def rolOK (n : Nms) (r : Int) : Bool := decide (0 ≤ r) && decide (r < 2 * n.rs.length)
def indOK (n : Nms) (r : Int) : Bool := decide (0 ≤ r) && decide (r < n.is.length)
def lnkOK (n : Nms) (x : Lnk) : Bool := decide (0 ≤ x.role) && decide (x.role < n.rs.length) && indOK n x.fr && indOK n x.to
/-- Valid one after the other, with so many nodes left. -/
def conG (n : Nms) (c : Con) (y : Int) : Bool := decide ((c.nodes : Int) ≤ y) && decide (c.depth ≤ 20) && shaped n.cs.length n.rs.length c
def vI (n : Nms) : List Inc → Int → Option Int
  | [], y => some y
  | x :: l, y => if conG n x.sub y && conG n x.sup (y - x.sub.nodes) then vI n l (y - x.sub.nodes - x.sup.nodes) else none
def vF (n : Nms) : List Fac → Int → Option Int
  | [], y => some y
  | x :: l, y => if indOK n x.ind && conG n x.con y then vF n l (y - x.con.nodes) else none
def basV (b : Bas) : Bool := namesOK b.nms && decide (b.count ≤ 60) && (match vI b.nms b.incls 400 with
  | none => false
  | some y => b.roles.all (fun x => rolOK b.nms x.sub && rolOK b.nms x.sup) && (match vF b.nms b.facts y with
    | none => false
    | some _ => b.links.all (lnkOK b.nms)))
theorem vld_conG (n : Nms) (c : Con) (y : Int) : (vld n.cs.length n.rs.length c y 1).1 = conG n c y := by
  rw [(vld_eq n.cs.length n.rs.length c y 1).1]
  unfold conG
  congr 2
  exact decide_eq_decide.2 (by omega)
theorem vld_conG2 {n : Nms} {c : Con} {y : Int} (h : conG n c y = true) : (vld n.cs.length n.rs.length c y 1).2 = y - c.nodes := (vld_eq n.cs.length n.rs.length c y 1).2.1 (by rw [vld_conG]; exact h)
theorem conG_le {n : Nms} {c : Con} {y : Int} (h : conG n c y = true) : (c.nodes : Int) ≤ y := by
  unfold conG at h; simp only [Bool.and_eq_true, decide_eq_true_eq] at h; exact h.1.1
def ir91 : IFn := ⟨18, [⟨2, none⟩], (.seq (.reg [⟨(some 1), none, none, (.box 30 (.r 0))⟩, ⟨(some 2), none, none, (.mov (.k (.v (.int .i64 0))))⟩]) (.seq (.reg [⟨(some 3), none, none, (.fadr 3 (.r 1))⟩, ⟨(some 4), none, (some (.r 3)), (.load none (.r 3))⟩, ⟨(some 5), none, (some (.r 4)), (.lenl (.r 4))⟩, ⟨(some 6), none, none, (.fadr 4 (.r 1))⟩, ⟨(some 7), none, (some (.r 6)), (.load none (.r 6))⟩, ⟨(some 8), none, (some (.r 7)), (.lenl (.r 7))⟩, ⟨(some 9), none, none, (.bin .add (.r 5) (.r 8))⟩, ⟨(some 10), none, none, (.fadr 5 (.r 1))⟩, ⟨(some 11), none, (some (.r 10)), (.load none (.r 10))⟩, ⟨(some 12), none, (some (.r 11)), (.lenl (.r 11))⟩, ⟨(some 13), none, none, (.bin .add (.r 9) (.r 12))⟩, ⟨(some 14), none, none, (.fadr 6 (.r 1))⟩, ⟨(some 15), none, (some (.r 14)), (.load none (.r 14))⟩, ⟨(some 16), none, (some (.r 15)), (.lenl (.r 15))⟩, ⟨(some 17), none, none, (.bin .add (.r 13) (.r 16))⟩, ⟨(some 2), none, none, (.mov (.r 17))⟩]) .ret))⟩
theorem c91 : cfunc Tryd.prog 91 = some ir91 := by kernel_rfl
theorem k91 : okIR (max 1 ir91.n) ir91.ir = true := by decide +kernel
theorem s_Count (b : Bas) (hb : b.ok) (j : JH) : JC Tryd.prog (GG m) 91 [.agg b.enc] j (RET (I64 b.count) j) := by
  obtain ⟨h1, h2, h3, h4⟩ := (⟨hb.li, hb.lr, hb.lf, hb.ll⟩ : _ ∧ _ ∧ _ ∧ _)
  refine JC.run hmix c91 (by exact k91) ?_
  (try simp only [↓jr, jp, jd, jz, zA, zB, zC, zD, zE, zF, zG, zH, zI, zJ, zK, zL, zM, zN, reduceIte, ir91])
  repeat' (first | (refine wq.intro (fun _ => ?_) (fun _ => ?_) <;> first | contradiction | (try simp only [↓jr, jp, jd, jz, zA, zB, zC, zD, zE, zF, zG, zH, zI, zJ, zK, zL, zM, zN, reduceIte])) | (refine ww.intro (fun _ => ?_) (fun _ => ?_) <;> first | contradiction | (try simp only [↓jr, jp, jd, jz, zA, zB, zC, zD, zE, zF, zG, zH, zI, zJ, zK, zL, zM, zN, reduceIte])) | (refine wc.intro (by first | omega | (unfold R64; omega) | trivial) ?_; (try simp only [↓jr, jp, jd, jz, zA, zB, zC, zD, zE, zF, zG, zH, zI, zJ, zK, zL, zM, zN, reduceIte])) | (refine wr.in (by unfold R64; omega) ?_; (try simp only [↓jr, jp, jd, jz, zA, zB, zC, zD, zE, zF, zG, zH, zI, zJ, zK, zL, zM, zN, reduceIte])))
  refine JFIN.ret ((JDropH.back (by repeat' (first | exact TokExt.refl _ | refine TokExt.push ?_ _ | refine TokExt.setT ?_ (by first | exact Nat.le_refl _ | (simp only [pushTok_tnext, setTok_tnext, ext_tnext, set_tnext]; omega)) _))).of_ext) ?_
  simp only [Bas.count, Int.natCast_add]; exact SubB.v
theorem JC.closed {G : Nat → Option (List AV)} {f : FuncId} {args : List AV} {j : JH} {Q : AOut → JH → Prop} (h : JC Tryd.prog G f args j Q) : JC Tryd.prog G f args j Q := h
def ir93 : IFn := ⟨15, [⟨3, none⟩], (.seq (.reg [⟨(some 3), none, none, (.mov (.k (.v (.bool false))))⟩]) (.seq (.reg [⟨(some 4), none, none, (.mov (.r 0))⟩, ⟨(some 5), none, none, (.bin .geq (.r 4) (.k (.v (.int .i64 0))))⟩, ⟨(some 6), none, none, (.mov (.r 5))⟩, ⟨(some 7), (some ((6, true))), none, (.mov (.r 0))⟩, ⟨(some 8), (some ((6, true))), none, (.fadr 0 (.r 1))⟩, ⟨(some 9), (some ((6, true))), none, (.fadr 1 (.r 8))⟩, ⟨(some 10), (some ((6, true))), (some (.r 9)), (.load none (.r 9))⟩, ⟨(some 11), (some ((6, true))), (some (.r 10)), (.lenl (.r 10))⟩, ⟨(some 12), (some ((6, true))), none, (.bin .mul (.k (.v (.int .i64 2))) (.r 11))⟩, ⟨(some 13), (some ((6, true))), none, (.bin .lss (.r 7) (.r 12))⟩, ⟨(some 14), none, none, (.pick (.r 6) (.r 13) (.k (.v (.bool false))))⟩, ⟨(some 3), none, none, (.mov (.r 14))⟩]) .ret))⟩
theorem c93 : cfunc Tryd.prog 93 = some ir93 := by kernel_rfl
theorem k93 : okIR (max 2 ir93.n) ir93.ir = true := by decide +kernel
theorem s_Valid1 (b : Bas) (hb : b.ok) (r : Int) (o : Nat) (t : TypeId) (j : JH) (ho : o < j.next) (hg : j.get o = some (.cells t b.enc)) : JC Tryd.prog (GG m) 93 [I64 r, .ptr o 0] j (RET (BOO (rolOK b.nms r)) j) := by
  obtain ⟨h1, h2, h3⟩ := hb.nms
  refine JC.run hmix c93 (by exact k93) ?_
  (try simp only [↓jr, jp, jd, jz, zA, zB, zC, zD, zE, zF, zG, zH, zI, zJ, zK, zL, zM, zN, reduceIte, ext_get_old, ho, hg, ir93])
  repeat' (first | (refine wq.intro (fun _ => ?_) (fun _ => ?_) <;> first | contradiction | (try simp only [↓jr, jp, jd, jz, zA, zB, zC, zD, zE, zF, zG, zH, zI, zJ, zK, zL, zM, zN, reduceIte, ext_get_old, ho, hg])) | (refine ww.intro (fun _ => ?_) (fun _ => ?_) <;> first | contradiction | (try simp only [↓jr, jp, jd, jz, zA, zB, zC, zD, zE, zF, zG, zH, zI, zJ, zK, zL, zM, zN, reduceIte, ext_get_old, ho, hg])) | (refine wc.intro (by first | omega | (unfold R64; omega) | trivial) ?_; (try simp only [↓jr, jp, jd, jz, zA, zB, zC, zD, zE, zF, zG, zH, zI, zJ, zK, zL, zM, zN, reduceIte, ext_get_old, ho, hg])) | (refine wr.in (by unfold R64; omega) ?_; (try simp only [↓jr, jp, jd, jz, zA, zB, zC, zD, zE, zF, zG, zH, zI, zJ, zK, zL, zM, zN, reduceIte, ext_get_old, ho, hg])))
  all_goals
    refine JFIN.ret ((JDropH.back (by repeat' (first | exact TokExt.refl _ | refine TokExt.push ?_ _ | refine TokExt.setT ?_ (by first | exact Nat.le_refl _ | (simp only [pushTok_tnext, setTok_tnext, ext_tnext, set_tnext]; omega)) _))).of_ext) ?_
    unfold rolOK
    simp only [*, decide_true, Bool.true_and, decide_false, Bool.false_and]
    exact SubB.v
def ir94 : IFn := ⟨14, [⟨3, none⟩], (.seq (.reg [⟨(some 3), none, none, (.mov (.k (.v (.bool false))))⟩]) (.seq (.reg [⟨(some 4), none, none, (.mov (.r 0))⟩, ⟨(some 5), none, none, (.bin .geq (.r 4) (.k (.v (.int .i64 0))))⟩, ⟨(some 6), none, none, (.mov (.r 5))⟩, ⟨(some 7), (some ((6, true))), none, (.mov (.r 0))⟩, ⟨(some 8), (some ((6, true))), none, (.fadr 0 (.r 1))⟩, ⟨(some 9), (some ((6, true))), none, (.fadr 2 (.r 8))⟩, ⟨(some 10), (some ((6, true))), (some (.r 9)), (.load none (.r 9))⟩, ⟨(some 11), (some ((6, true))), (some (.r 10)), (.lenl (.r 10))⟩, ⟨(some 12), (some ((6, true))), none, (.bin .lss (.r 7) (.r 11))⟩, ⟨(some 13), none, none, (.pick (.r 6) (.r 12) (.k (.v (.bool false))))⟩, ⟨(some 3), none, none, (.mov (.r 13))⟩]) .ret))⟩
theorem c94 : cfunc Tryd.prog 94 = some ir94 := by kernel_rfl
theorem k94 : okIR (max 2 ir94.n) ir94.ir = true := by decide +kernel
theorem s_Valid2 (b : Bas) (hb : b.ok) (r : Int) (o : Nat) (t : TypeId) (j : JH) (ho : o < j.next) (hg : j.get o = some (.cells t b.enc)) : JC Tryd.prog (GG m) 94 [I64 r, .ptr o 0] j (RET (BOO (indOK b.nms r)) j) := by
  obtain ⟨h1, h2, h3⟩ := hb.nms
  refine JC.run hmix c94 (by exact k94) ?_
  (try simp only [↓jr, jp, jd, jz, zA, zB, zC, zD, zE, zF, zG, zH, zI, zJ, zK, zL, zM, zN, reduceIte, ext_get_old, ho, hg, ir94])
  repeat' (first | (refine wq.intro (fun _ => ?_) (fun _ => ?_) <;> first | contradiction | (try simp only [↓jr, jp, jd, jz, zA, zB, zC, zD, zE, zF, zG, zH, zI, zJ, zK, zL, zM, zN, reduceIte, ext_get_old, ho, hg])) | (refine ww.intro (fun _ => ?_) (fun _ => ?_) <;> first | contradiction | (try simp only [↓jr, jp, jd, jz, zA, zB, zC, zD, zE, zF, zG, zH, zI, zJ, zK, zL, zM, zN, reduceIte, ext_get_old, ho, hg])) | (refine wc.intro (by first | omega | (unfold R64; omega) | trivial) ?_; (try simp only [↓jr, jp, jd, jz, zA, zB, zC, zD, zE, zF, zG, zH, zI, zJ, zK, zL, zM, zN, reduceIte, ext_get_old, ho, hg])) | (refine wr.in (by unfold R64; omega) ?_; (try simp only [↓jr, jp, jd, jz, zA, zB, zC, zD, zE, zF, zG, zH, zI, zJ, zK, zL, zM, zN, reduceIte, ext_get_old, ho, hg])))
  all_goals
    refine JFIN.ret ((JDropH.back (by repeat' (first | exact TokExt.refl _ | refine TokExt.push ?_ _ | refine TokExt.setT ?_ (by first | exact Nat.le_refl _ | (simp only [pushTok_tnext, setTok_tnext, ext_tnext, set_tnext]; omega)) _))).of_ext) ?_
    unfold indOK
    simp only [*, decide_true, Bool.true_and, decide_false, Bool.false_and]
    exact SubB.v
theorem hb93 : hasBody Tryd.prog 93 = true := by decide +kernel
theorem hb94 : hasBody Tryd.prog 94 = true := by decide +kernel
def ir81 : IFn := ⟨130, [⟨2, none⟩], (.seq (.reg [⟨(some 1), none, none, (.box 30 (.r 0))⟩, ⟨(some 2), none, none, (.mov (.k (.v (.bool false))))⟩]) (.seq (.seq (.reg [⟨(some 14), none, none, (.fadr 0 (.r 1))⟩, ⟨(some 15), none, (some (.r 14)), (.load (some 3) (.r 14))⟩, ⟨(some 16), none, (some (.r 15)), (.call 90 [.r 15])⟩, ⟨(some 17), none, none, (.not (.r 16))⟩, ⟨(some 18), none, none, (.mov (.r 17))⟩, ⟨(some 19), (some ((18, false))), (some (.r 1)), (.load (some 7) (.r 1))⟩, ⟨(some 20), (some ((18, false))), (some (.r 19)), (.call 91 [.r 19])⟩, ⟨(some 21), (some ((18, false))), none, (.bin .gtr (.r 20) (.k (.v (.int .i64 60))))⟩, ⟨(some 22), none, none, (.pick (.r 18) (.k (.v (.bool true))) (.r 21))⟩]) (.cond (.r 22) (.seq (.reg [⟨(some 2), none, none, (.mov (.k (.v (.bool false))))⟩]) .ret) .skip)) (.seq (.reg [⟨(some 3), none, none, (.alloc 3 [.v (.int .i64 0)])⟩, ⟨none, none, none, (.store 1 (.r 3) (.k (.v (.int .i64 400))))⟩]) (.seq (.seq (.reg [⟨(some 23), none, none, (.fadr 3 (.r 1))⟩, ⟨(some 24), none, (some (.r 23)), (.load none (.r 23))⟩, ⟨(some 25), none, (some (.r 24)), (.lenl (.r 24))⟩, ⟨(some 26), none, none, (.mov (.k (.v (.int .i64 0))))⟩]) (.block 0 (.loop (.seq (.reg [⟨(some 27), none, none, (.bin .lss (.r 26) (.r 25))⟩]) (.seq (.cond (.r 27) .skip (.exit 0)) (.seq (.block 1 (.seq (.reg [⟨(some 28), none, none, (.iasl 6 (.r 24) (.r 26))⟩, ⟨(some 29), none, (some (.r 28)), (.load (some 6) (.r 28))⟩, ⟨(some 5), none, none, (.alloc 89 [.v (.int .i64 0), .v (.int .i64 0), .sl .nil 0 [], .v (.int .i64 0), .v (.int .i64 0), .sl .nil 0 []])⟩, ⟨none, none, none, (.store 6 (.r 5) (.r 29))⟩]) (.seq (.reg [⟨(some 30), none, none, (.fadr 0 (.r 1))⟩, ⟨(some 31), none, (some (.r 30)), (.load (some 3) (.r 30))⟩, ⟨(some 32), none, none, (.fadr 0 (.r 5))⟩, ⟨(some 33), none, (some (.r 32)), (.load (some 3) (.r 32))⟩, ⟨(some 34), none, none, (.call 92 [.r 31, .r 33, .r 3])⟩, ⟨(some 35), none, none, (.not (.r 34))⟩, ⟨(some 36), none, none, (.mov (.r 35))⟩, ⟨(some 37), (some ((36, false))), none, (.fadr 0 (.r 1))⟩, ⟨(some 38), (some ((36, false))), (some (.r 37)), (.load (some 3) (.r 37))⟩, ⟨(some 39), (some ((36, false))), none, (.fadr 3 (.r 5))⟩, ⟨(some 40), (some ((36, false))), (some (.r 39)), (.load (some 3) (.r 39))⟩, ⟨(some 41), (some ((36, false))), none, (.call 92 [.r 38, .r 40, .r 3])⟩, ⟨(some 42), (some ((36, false))), none, (.not (.r 41))⟩, ⟨(some 43), none, none, (.pick (.r 36) (.k (.v (.bool true))) (.r 42))⟩]) (.cond (.r 43) (.seq (.reg [⟨(some 2), none, none, (.mov (.k (.v (.bool false))))⟩]) .ret) .skip)))) (.reg [⟨(some 44), none, none, (.bin .add (.r 26) (.k (.v (.int .i64 1))))⟩, ⟨(some 26), none, none, (.mov (.r 44))⟩]))))))) (.seq (.reg [⟨(some 45), none, none, (.mkf (.func 93) [] [.r 1])⟩, ⟨(some 6), none, none, (.mov (.r 45))⟩]) (.seq (.reg [⟨(some 46), none, none, (.mkf (.func 94) [] [.r 1])⟩, ⟨(some 7), none, none, (.mov (.r 46))⟩]) (.seq (.seq (.reg [⟨(some 47), none, none, (.fadr 4 (.r 1))⟩, ⟨(some 48), none, (some (.r 47)), (.load none (.r 47))⟩, ⟨(some 49), none, (some (.r 48)), (.lenl (.r 48))⟩, ⟨(some 50), none, none, (.mov (.k (.v (.int .i64 0))))⟩]) (.block 2 (.loop (.seq (.reg [⟨(some 51), none, none, (.bin .lss (.r 50) (.r 49))⟩]) (.seq (.cond (.r 51) .skip (.exit 2)) (.seq (.block 3 (.seq (.reg [⟨(some 52), none, none, (.iasl 2 (.r 48) (.r 50))⟩, ⟨(some 53), none, (some (.r 52)), (.load (some 2) (.r 52))⟩, ⟨(some 9), none, none, (.alloc 82 [.v (.int .i64 0), .v (.int .i64 0)])⟩, ⟨none, none, none, (.store 2 (.r 9) (.r 53))⟩]) (.seq (.reg [⟨(some 54), none, none, (.mov (.r 6))⟩, ⟨(some 55), none, none, (.fadr 0 (.r 9))⟩, ⟨(some 56), none, (some (.r 55)), (.load none (.r 55))⟩, ⟨(some 57), none, (some (.r 56)), (.callv (.r 54) [.r 56])⟩, ⟨(some 58), none, none, (.not (.r 57))⟩, ⟨(some 59), none, none, (.mov (.r 58))⟩, ⟨(some 60), (some ((59, false))), none, (.mov (.r 6))⟩, ⟨(some 61), (some ((59, false))), none, (.fadr 1 (.r 9))⟩, ⟨(some 62), (some ((59, false))), (some (.r 61)), (.load none (.r 61))⟩, ⟨(some 63), (some ((59, false))), (some (.r 62)), (.callv (.r 60) [.r 62])⟩, ⟨(some 64), (some ((59, false))), none, (.not (.r 63))⟩, ⟨(some 65), none, none, (.pick (.r 59) (.k (.v (.bool true))) (.r 64))⟩]) (.cond (.r 65) (.seq (.reg [⟨(some 2), none, none, (.mov (.k (.v (.bool false))))⟩]) .ret) .skip)))) (.reg [⟨(some 66), none, none, (.bin .add (.r 50) (.k (.v (.int .i64 1))))⟩, ⟨(some 50), none, none, (.mov (.r 66))⟩]))))))) (.seq (.seq (.reg [⟨(some 67), none, none, (.fadr 5 (.r 1))⟩, ⟨(some 68), none, (some (.r 67)), (.load none (.r 67))⟩, ⟨(some 69), none, (some (.r 68)), (.lenl (.r 68))⟩, ⟨(some 70), none, none, (.mov (.k (.v (.int .i64 0))))⟩]) (.block 4 (.loop (.seq (.reg [⟨(some 71), none, none, (.bin .lss (.r 70) (.r 69))⟩]) (.seq (.cond (.r 71) .skip (.exit 4)) (.seq (.block 5 (.seq (.reg [⟨(some 72), none, none, (.iasl 4 (.r 68) (.r 70))⟩, ⟨(some 73), none, (some (.r 72)), (.load (some 4) (.r 72))⟩, ⟨(some 11), none, none, (.alloc 92 [.v (.int .i64 0), .v (.int .i64 0), .v (.int .i64 0), .sl .nil 0 []])⟩, ⟨none, none, none, (.store 4 (.r 11) (.r 73))⟩]) (.seq (.reg [⟨(some 74), none, none, (.mov (.r 7))⟩, ⟨(some 75), none, none, (.fadr 0 (.r 11))⟩, ⟨(some 76), none, (some (.r 75)), (.load none (.r 75))⟩, ⟨(some 77), none, (some (.r 76)), (.callv (.r 74) [.r 76])⟩, ⟨(some 78), none, none, (.not (.r 77))⟩, ⟨(some 79), none, none, (.mov (.r 78))⟩, ⟨(some 80), (some ((79, false))), none, (.fadr 0 (.r 1))⟩, ⟨(some 81), (some ((79, false))), (some (.r 80)), (.load (some 3) (.r 80))⟩, ⟨(some 82), (some ((79, false))), none, (.fadr 1 (.r 11))⟩, ⟨(some 83), (some ((79, false))), (some (.r 82)), (.load (some 3) (.r 82))⟩, ⟨(some 84), (some ((79, false))), none, (.call 92 [.r 81, .r 83, .r 3])⟩, ⟨(some 85), (some ((79, false))), none, (.not (.r 84))⟩, ⟨(some 86), none, none, (.pick (.r 79) (.k (.v (.bool true))) (.r 85))⟩]) (.cond (.r 86) (.seq (.reg [⟨(some 2), none, none, (.mov (.k (.v (.bool false))))⟩]) .ret) .skip)))) (.reg [⟨(some 87), none, none, (.bin .add (.r 70) (.k (.v (.int .i64 1))))⟩, ⟨(some 70), none, none, (.mov (.r 87))⟩]))))))) (.seq (.seq (.reg [⟨(some 88), none, none, (.fadr 6 (.r 1))⟩, ⟨(some 89), none, (some (.r 88)), (.load none (.r 88))⟩, ⟨(some 90), none, (some (.r 89)), (.lenl (.r 89))⟩, ⟨(some 91), none, none, (.mov (.k (.v (.int .i64 0))))⟩]) (.block 6 (.loop (.seq (.reg [⟨(some 92), none, none, (.bin .lss (.r 91) (.r 90))⟩]) (.seq (.cond (.r 92) .skip (.exit 6)) (.seq (.block 7 (.seq (.reg [⟨(some 93), none, none, (.iasl 3 (.r 89) (.r 91))⟩, ⟨(some 94), none, (some (.r 93)), (.load (some 3) (.r 93))⟩, ⟨(some 13), none, none, (.alloc 94 [.v (.int .i64 0), .v (.int .i64 0), .v (.int .i64 0)])⟩, ⟨none, none, none, (.store 3 (.r 13) (.r 94))⟩]) (.seq (.reg [⟨(some 95), none, none, (.fadr 0 (.r 13))⟩, ⟨(some 96), none, (some (.r 95)), (.load none (.r 95))⟩, ⟨(some 97), none, none, (.bin .lss (.r 96) (.k (.v (.int .i64 0))))⟩, ⟨(some 98), none, none, (.mov (.r 97))⟩, ⟨(some 99), (some ((98, false))), none, (.mov (.r 6))⟩, ⟨(some 100), (some ((98, false))), none, (.fadr 0 (.r 13))⟩, ⟨(some 101), (some ((98, false))), (some (.r 100)), (.load none (.r 100))⟩, ⟨(some 102), (some ((98, false))), none, (.bin .mul (.k (.v (.int .i64 2))) (.r 101))⟩, ⟨(some 103), (some ((98, false))), (some (.r 102)), (.callv (.r 99) [.r 102])⟩, ⟨(some 104), (some ((98, false))), none, (.not (.r 103))⟩, ⟨(some 105), none, none, (.pick (.r 98) (.k (.v (.bool true))) (.r 104))⟩, ⟨(some 106), none, none, (.mov (.r 105))⟩, ⟨(some 107), (some ((106, false))), none, (.fadr 0 (.r 13))⟩, ⟨(some 108), (some ((106, false))), (some (.r 107)), (.load none (.r 107))⟩, ⟨(some 109), (some ((106, false))), none, (.fadr 0 (.r 1))⟩, ⟨(some 110), (some ((106, false))), none, (.fadr 1 (.r 109))⟩, ⟨(some 111), (some ((106, false))), (some (.r 110)), (.load none (.r 110))⟩, ⟨(some 112), (some ((106, false))), (some (.r 111)), (.lenl (.r 111))⟩, ⟨(some 113), (some ((106, false))), none, (.bin .geq (.r 108) (.r 112))⟩, ⟨(some 114), none, none, (.pick (.r 106) (.k (.v (.bool true))) (.r 113))⟩, ⟨(some 115), none, none, (.mov (.r 114))⟩, ⟨(some 116), (some ((115, false))), none, (.mov (.r 7))⟩, ⟨(some 117), (some ((115, false))), none, (.fadr 1 (.r 13))⟩, ⟨(some 118), (some ((115, false))), (some (.r 117)), (.load none (.r 117))⟩, ⟨(some 119), (some ((115, false))), (some (.r 118)), (.callv (.r 116) [.r 118])⟩, ⟨(some 120), (some ((115, false))), none, (.not (.r 119))⟩, ⟨(some 121), none, none, (.pick (.r 115) (.k (.v (.bool true))) (.r 120))⟩, ⟨(some 122), none, none, (.mov (.r 121))⟩, ⟨(some 123), (some ((122, false))), none, (.mov (.r 7))⟩, ⟨(some 124), (some ((122, false))), none, (.fadr 2 (.r 13))⟩, ⟨(some 125), (some ((122, false))), (some (.r 124)), (.load none (.r 124))⟩, ⟨(some 126), (some ((122, false))), (some (.r 125)), (.callv (.r 123) [.r 125])⟩, ⟨(some 127), (some ((122, false))), none, (.not (.r 126))⟩, ⟨(some 128), none, none, (.pick (.r 122) (.k (.v (.bool true))) (.r 127))⟩]) (.cond (.r 128) (.seq (.reg [⟨(some 2), none, none, (.mov (.k (.v (.bool false))))⟩]) .ret) .skip)))) (.reg [⟨(some 129), none, none, (.bin .add (.r 91) (.k (.v (.int .i64 1))))⟩, ⟨(some 91), none, none, (.mov (.r 129))⟩]))))))) (.seq (.reg [⟨(some 2), none, none, (.mov (.k (.v (.bool true))))⟩]) .ret))))))))))⟩
theorem c81 : cfunc Tryd.prog 81 = some ir81 := by kernel_rfl
theorem k81 : okIR (max 1 ir81.n) ir81.ir = true := by decide +kernel
theorem s_kbValid (b : Bas) (hb : b.ok) (hf : b.few) (j : JH) : JC Tryd.prog (GG m) 81 [.agg b.enc] j (RET (BOO (basV b)) j) := by
  have fls : ∀ {l : List AObj}, basV b = false → @JFIN (ext j []) (ext j l) (.v (.bool false)) ⟨fun y j' => RET (BOO (basV b)) j (.ret y) j'⟩ := by
    intro l h
    refine JFIN.ret ((JDropH.back (by repeat' (first | exact TokExt.refl _ | refine TokExt.push ?_ _ | refine TokExt.setT ?_ (by first | exact Nat.le_refl _ | (simp only [pushTok_tnext, setTok_tnext, ext_tnext, set_tnext]; omega)) _))).of_ext) ?_
    rw [h]; exact SubB.v
  obtain ⟨n1, n2, n3⟩ := hb.nms
  have l1 := hb.li
  have l2 := hb.lr
  have l3 := hb.lf
  have l4 := hb.ll
  refine JC.run hmix c81 (by exact k81) ?_
  (try simp only [↓jr, jp, jd, jz, zA, zB, zC, zD, zE, zF, zG, zH, zI, zJ, zK, zL, zM, zN, reduceIte, ir81])
  refine JCs.ret (s_ValidNames b.nms hb.nms hb.short _) ?_
  (try simp only [↓jr, jp, jd, jz, zA, zB, zC, zD, zE, zF, zG, zH, zI, zJ, zK, zL, zM, zN, reduceIte])
  refine ww.intro (fun g1 => ?_) (fun g1 => by (try simp only [↓jr, jp, jd, jz, zA, zB, zC, zD, zE, zF, zG, zH, zI, zJ, zK, zL, zM, zN, reduceIte]); exact fls (by unfold basV; rw [g1]; rfl))
  (try simp only [↓jr, jp, jd, jz, zA, zB, zC, zD, zE, zF, zG, zH, zI, zJ, zK, zL, zM, zN, reduceIte])
  refine JCs.ret (s_Count b hb _) ?_
  (try simp only [↓jr, jp, jd, jz, zA, zB, zC, zD, zE, zF, zG, zH, zI, zJ, zK, zL, zM, zN, reduceIte])
  refine wq.intro (fun g2 => by (try simp only [↓jr, jp, jd, jz, zA, zB, zC, zD, zE, zF, zG, zH, zI, zJ, zK, zL, zM, zN, reduceIte]); exact fls (by unfold basV; rw [decide_eq_false (by omega), Bool.and_false, Bool.false_and])) (fun g2 => ?_)
  (try simp only [↓jr, jp, jd, jz, zA, zB, zC, zD, zE, zF, zG, zH, zI, zJ, zK, zL, zM, zN, reduceIte])
  have hB : basV b = (match vI b.nms b.incls 400 with
      | none => false
      | some y => b.roles.all (fun x => rolOK b.nms x.sub && rolOK b.nms x.sup) && (match vF b.nms b.facts y with
        | none => false
        | some _ => b.links.all (lnkOK b.nms))) := by
    unfold basV; rw [g1, decide_eq_true (by omega)]; rfl
  refine JLOOP.of (σ := Nat × Int) (fun s => s.1 ≤ (b.incls).length ∧ 0 ≤ s.2 ∧ s.2 ≤ 400 ∧ vI b.nms (b.incls.drop s.1) s.2 = vI b.nms b.incls 400) (fun s => (b.incls).length - s.1) (fun s => [(26, I64 s.1), (25, I64 b.incls.length), (24, .sl .none b.incls.length (encs Inc.enc b.incls)), (1, .ptr (pid j.next 0) 0), (3, .ptr (pid j.next 1) 0)]) (fun s => ext j [.cells 30 b.enc, .cells 3 [I64 s.2]]) (0, 400) ⟨Nat.zero_le _, ?_⟩ ?_ (JDropH.refl _) ?_
  · exact ⟨by decide, by decide, rfl⟩
  · ((try simp only [↓jr, jp, jd, jz, zA, zB, zC, zD, zE, zF, zG, zH, zI, zJ, zK, zL, zM, zN, reduceIte, DL]) <;> (repeat' (first | exact trivial | refine And.intro ?_ ?_ | exact SubB.v | exact SubB.any | ((first | refine SubB.ptr ?_ | refine SubB.arr ?_ | refine SubB.mp ?_) <;> first | assumption | (unfold pid; omega)) | ((first | refine SubB.pure ?_ | refine SubBs.pure ?_) <;> (simp only [AV.pure, AV.pures, pures_append, jpu, Bool.and_self, Bool.and_true, Bool.true_and]; done)) | refine SubB.fn ?_ ?_ | refine SubB.sl ?_ ?_ | refine SubB.agg ?_ | refine SubB.tup ?_ | rfl)))
  rintro ⟨k, y⟩ ⟨hk, hI⟩
  try simp only at hk hI
  (try simp only [↓jr, jp, jd, jz, zA, zB, zC, zD, zE, zF, zG, zH, zI, zJ, zK, zL, zM, zN, reduceIte])
  refine wq.intro (fun h1 => ?_) (fun h1 => ?_)
  · obtain ⟨hy0, hy1, hI⟩ := hI
    have hlt : k < (b.incls).length := by omega
    obtain ⟨x, r, hd⟩ : ∃ c_ l_, List.drop k (b.incls) = c_ :: l_ := ⟨_, _, List.drop_eq_getElem_cons hlt⟩
    have hd1 : List.drop (k + 1) (b.incls) = r := by rw [← List.drop_drop, hd]; rfl
    have hmem : x ∈ b.incls := List.mem_of_mem_drop (hd ▸ List.mem_cons_self)
    (try simp only [↓jr, jp, jd, jz, zA, zB, zC, zD, zE, zF, zG, zH, zI, zJ, zK, zL, zM, zN, reduceIte, hd])
    refine wc.intro (by omega) ?_
    (try simp only [↓jr, jp, jd, jz, zA, zB, zC, zD, zE, zF, zG, zH, zI, zJ, zK, zL, zM, zN, reduceIte, hd])
    rw [hd] at hI
    simp only [vI] at hI
    obtain ⟨k1, k2⟩ := hb.incls x hmem
    obtain ⟨f1, f2⟩ := hf.1 x hmem
    refine JCs.ret (s_Valid b.nms hb.nms 3 x.sub (pid j.next 1) y (ext j [.cells 30 b.enc, .cells 3 [I64 y], .cells 89 x.enc]) k1 (by rw [ext_next]; unfold pid; simp) (by (try simp only [↓jr, jp, jd, jz, zA, zB, zC, zD, zE, zF, zG, zH, zI, zJ, zK, zL, zM, zN, reduceIte])) (by omega) (by omega)) ?_
    (try simp only [↓jr, jp, jd, jz, zA, zB, zC, zD, zE, zF, zG, zH, zI, zJ, zK, zL, zM, zN, reduceIte])
    rw [vld_conG]
    refine ww.intro (fun c1 => ?_) (fun c1 => by (try simp only [↓jr, jp, jd, jz, zA, zB, zC, zD, zE, zF, zG, zH, zI, zJ, zK, zL, zM, zN, reduceIte]); exact fls (by rw [hB, ← hI, c1]; rfl))
    (try simp only [↓jr, jp, jd, jz, zA, zB, zC, zD, zE, zF, zG, zH, zI, zJ, zK, zL, zM, zN, reduceIte])
    rw [vld_conG2 c1]
    have c1' := conG_le c1
    refine JCs.ret (s_Valid b.nms hb.nms 3 x.sup (pid j.next 1) (y - x.sub.nodes) (ext j [.cells 30 b.enc, .cells 3 [I64 (y - x.sub.nodes)], .cells 89 x.enc]) k2 (by rw [ext_next]; unfold pid; simp) (by (try simp only [↓jr, jp, jd, jz, zA, zB, zC, zD, zE, zF, zG, zH, zI, zJ, zK, zL, zM, zN, reduceIte])) (by omega) (by omega)) ?_
    (try simp only [↓jr, jp, jd, jz, zA, zB, zC, zD, zE, zF, zG, zH, zI, zJ, zK, zL, zM, zN, reduceIte])
    rw [vld_conG]
    refine ww.intro (fun c2 => ?_) (fun c2 => by (try simp only [↓jr, jp, jd, jz, zA, zB, zC, zD, zE, zF, zG, zH, zI, zJ, zK, zL, zM, zN, reduceIte]); exact fls (by rw [hB, ← hI, c1, c2]; rfl))
    (try simp only [↓jr, jp, jd, jz, zA, zB, zC, zD, zE, zF, zG, zH, zI, zJ, zK, zL, zM, zN, reduceIte])
    rw [vld_conG2 c2]
    have c2' := conG_le c2
    rw [c1, c2] at hI
    refine wc.intro (R64_add hlt (by omega)) ?_; (try simp only [↓jr, jp, jd, jz, zA, zB, zC, zD, zE, zF, zG, zH, zI, zJ, zK, zL, zM, zN, reduceIte])
    refine JNEXT.of (k + 1, y - x.sub.nodes - x.sup.nodes) ⟨by simp only; omega, by simp only; omega, by simp only; omega, by simp only [hd1]; exact hI⟩ (by simp only; omega) ?_ (JDropH.next0 (TokExt.refl _) ⟨.inl ⟨rfl, rfl⟩, .inr (OSub.pure rfl), trivial⟩)
    ((try simp only [↓jr, jp, jd, jz, zA, zB, zC, zD, zE, zF, zG, zH, zI, zJ, zK, zL, zM, zN, reduceIte, DL]) <;> (repeat' (first | exact trivial | refine And.intro ?_ ?_ | exact SubB.v | exact SubB.any | ((first | refine SubB.ptr ?_ | refine SubB.arr ?_ | refine SubB.mp ?_) <;> first | assumption | (unfold pid; omega)) | ((first | refine SubB.pure ?_ | refine SubBs.pure ?_) <;> (simp only [AV.pure, AV.pures, pures_append, jpu, Bool.and_self, Bool.and_true, Bool.true_and]; done)) | refine SubB.fn ?_ ?_ | refine SubB.sl ?_ ?_ | refine SubB.agg ?_ | refine SubB.tup ?_ | rfl)))
  obtain ⟨hy0, hy1, hI⟩ := hI
  (try simp only [↓jr, jp, jd, jz, zA, zB, zC, zD, zE, zF, zG, zH, zI, zJ, zK, zL, zM, zN, reduceIte])
  rw [List.drop_eq_nil_of_le (by omega)] at hI
  simp only [vI] at hI
  rw [← hI] at hB
  simp only at hB
  clear hI h1 hk
  refine JLOOP.of (σ := Nat) (fun s => s ≤ (b.roles).length ∧ ((b.roles.drop s).all (fun x => rolOK b.nms x.sub && rolOK b.nms x.sup)) = b.roles.all (fun x => rolOK b.nms x.sub && rolOK b.nms x.sup)) (fun s => (b.roles).length - s) (fun s => [(50, I64 s), (49, I64 b.roles.length), (48, .sl .none b.roles.length (encs RIn.enc b.roles)), (1, .ptr (pid j.next 0) 0), (3, .ptr (pid j.next 1) 0), (6, .fn (.func 93) [] [.ptr (pid j.next 0) 0]), (7, .fn (.func 94) [] [.ptr (pid j.next 0) 0])]) (fun s => ext j [.cells 30 b.enc, .cells 3 [I64 y]]) 0 ⟨Nat.zero_le _, ?_⟩ ?_ (JDropH.refl _) ?_
  · rfl
  · ((try simp only [↓jr, jp, jd, jz, zA, zB, zC, zD, zE, zF, zG, zH, zI, zJ, zK, zL, zM, zN, reduceIte, DL]) <;> (repeat' (first | exact trivial | refine And.intro ?_ ?_ | exact SubB.v | exact SubB.any | ((first | refine SubB.ptr ?_ | refine SubB.arr ?_ | refine SubB.mp ?_) <;> first | assumption | (unfold pid; omega)) | ((first | refine SubB.pure ?_ | refine SubBs.pure ?_) <;> (simp only [AV.pure, AV.pures, pures_append, jpu, Bool.and_self, Bool.and_true, Bool.true_and]; done)) | refine SubB.fn ?_ ?_ | refine SubB.sl ?_ ?_ | refine SubB.agg ?_ | refine SubB.tup ?_ | rfl)))
  rintro k ⟨hk, hI⟩
  try simp only at hk hI
  (try simp only [↓jr, jp, jd, jz, zA, zB, zC, zD, zE, zF, zG, zH, zI, zJ, zK, zL, zM, zN, reduceIte])
  refine wq.intro (fun h1 => ?_) (fun h1 => ?_)
  · have hlt : k < (b.roles).length := by omega
    obtain ⟨x, r, hd⟩ : ∃ c_ l_, List.drop k (b.roles) = c_ :: l_ := ⟨_, _, List.drop_eq_getElem_cons hlt⟩
    have hd1 : List.drop (k + 1) (b.roles) = r := by rw [← List.drop_drop, hd]; rfl
    have hmem : x ∈ b.roles := List.mem_of_mem_drop (hd ▸ List.mem_cons_self)
    (try simp only [↓jr, jp, jd, jz, zA, zB, zC, zD, zE, zF, zG, zH, zI, zJ, zK, zL, zM, zN, reduceIte, hd])
    refine wc.intro (by omega) ?_
    (try simp only [↓jr, jp, jd, jz, zA, zB, zC, zD, zE, zF, zG, zH, zI, zJ, zK, zL, zM, zN, reduceIte, hd])
    rw [hd] at hI
    rw [List.all_cons] at hI
    refine wc.intro hb93 ?_
    (try simp only [↓jr, jp, jd, jz, zA, zB, zC, zD, zE, zF, zG, zH, zI, zJ, zK, zL, zM, zN, reduceIte])
    refine JCs.ret (s_Valid1 b hb x.sub (pid j.next 0) 30 (ext j [.cells 30 b.enc, .cells 3 [I64 y], .cells 82 x.enc]) (by rw [ext_next]; unfold pid; simp) (by (try simp only [↓jr, jp, jd, jz, zA, zB, zC, zD, zE, zF, zG, zH, zI, zJ, zK, zL, zM, zN, reduceIte]))) ?_
    (try simp only [↓jr, jp, jd, jz, zA, zB, zC, zD, zE, zF, zG, zH, zI, zJ, zK, zL, zM, zN, reduceIte])
    refine ww.intro (fun c1 => ?_) (fun c1 => by (try simp only [↓jr, jp, jd, jz, zA, zB, zC, zD, zE, zF, zG, zH, zI, zJ, zK, zL, zM, zN, reduceIte]); exact fls (by rw [hB, ← hI, c1]; rfl))
    (try simp only [↓jr, jp, jd, jz, zA, zB, zC, zD, zE, zF, zG, zH, zI, zJ, zK, zL, zM, zN, reduceIte])
    refine wc.intro hb93 ?_
    (try simp only [↓jr, jp, jd, jz, zA, zB, zC, zD, zE, zF, zG, zH, zI, zJ, zK, zL, zM, zN, reduceIte])
    refine JCs.ret (s_Valid1 b hb x.sup (pid j.next 0) 30 (ext j [.cells 30 b.enc, .cells 3 [I64 y], .cells 82 x.enc]) (by rw [ext_next]; unfold pid; simp) (by (try simp only [↓jr, jp, jd, jz, zA, zB, zC, zD, zE, zF, zG, zH, zI, zJ, zK, zL, zM, zN, reduceIte]))) ?_
    (try simp only [↓jr, jp, jd, jz, zA, zB, zC, zD, zE, zF, zG, zH, zI, zJ, zK, zL, zM, zN, reduceIte])
    refine ww.intro (fun c2 => ?_) (fun c2 => by (try simp only [↓jr, jp, jd, jz, zA, zB, zC, zD, zE, zF, zG, zH, zI, zJ, zK, zL, zM, zN, reduceIte]); exact fls (by rw [hB, ← hI, c1, c2]; rfl))
    (try simp only [↓jr, jp, jd, jz, zA, zB, zC, zD, zE, zF, zG, zH, zI, zJ, zK, zL, zM, zN, reduceIte])
    rw [c1, c2] at hI
    refine wc.intro (R64_add hlt (by omega)) ?_; (try simp only [↓jr, jp, jd, jz, zA, zB, zC, zD, zE, zF, zG, zH, zI, zJ, zK, zL, zM, zN, reduceIte])
    refine JNEXT.of (k + 1) ⟨by omega, by rw [hd1]; exact hI⟩ (by omega) ?_ (JDropH.next0 (by repeat' (first | exact TokExt.refl _ | refine TokExt.push ?_ _ | refine TokExt.setT ?_ (by first | exact Nat.le_refl _ | (simp only [pushTok_tnext, setTok_tnext, ext_tnext, set_tnext]; omega)) _)) (by simp only [LSub, and_self, true_or, and_true]))
    ((try simp only [↓jr, jp, jd, jz, zA, zB, zC, zD, zE, zF, zG, zH, zI, zJ, zK, zL, zM, zN, reduceIte, DL]) <;> (repeat' (first | exact trivial | refine And.intro ?_ ?_ | exact SubB.v | exact SubB.any | ((first | refine SubB.ptr ?_ | refine SubB.arr ?_ | refine SubB.mp ?_) <;> first | assumption | (unfold pid; omega)) | ((first | refine SubB.pure ?_ | refine SubBs.pure ?_) <;> (simp only [AV.pure, AV.pures, pures_append, jpu, Bool.and_self, Bool.and_true, Bool.true_and]; done)) | refine SubB.fn ?_ ?_ | refine SubB.sl ?_ ?_ | refine SubB.agg ?_ | refine SubB.tup ?_ | rfl)))
  (try simp only [↓jr, jp, jd, jz, zA, zB, zC, zD, zE, zF, zG, zH, zI, zJ, zK, zL, zM, zN, reduceIte])
  rw [List.drop_eq_nil_of_le (by omega), List.all_nil] at hI
  rw [← hI, Bool.true_and] at hB
  clear hI h1 hk
  refine JLOOP.of (σ := Nat × Int) (fun s => s.1 ≤ (b.facts).length ∧ 0 ≤ s.2 ∧ s.2 ≤ 400 ∧ vF b.nms (b.facts.drop s.1) s.2 = vF b.nms b.facts y) (fun s => (b.facts).length - s.1) (fun s => [(70, I64 s.1), (69, I64 b.facts.length), (68, .sl .none b.facts.length (encs Fac.enc b.facts)), (1, .ptr (pid j.next 0) 0), (3, .ptr (pid j.next 1) 0), (6, .fn (.func 93) [] [.ptr (pid j.next 0) 0]), (7, .fn (.func 94) [] [.ptr (pid j.next 0) 0])]) (fun s => ext j [.cells 30 b.enc, .cells 3 [I64 s.2]]) (0, y) ⟨Nat.zero_le _, ?_⟩ ?_ (JDropH.refl _) ?_
  · exact ⟨hy0, hy1, rfl⟩
  · ((try simp only [↓jr, jp, jd, jz, zA, zB, zC, zD, zE, zF, zG, zH, zI, zJ, zK, zL, zM, zN, reduceIte, DL]) <;> (repeat' (first | exact trivial | refine And.intro ?_ ?_ | exact SubB.v | exact SubB.any | ((first | refine SubB.ptr ?_ | refine SubB.arr ?_ | refine SubB.mp ?_) <;> first | assumption | (unfold pid; omega)) | ((first | refine SubB.pure ?_ | refine SubBs.pure ?_) <;> (simp only [AV.pure, AV.pures, pures_append, jpu, Bool.and_self, Bool.and_true, Bool.true_and]; done)) | refine SubB.fn ?_ ?_ | refine SubB.sl ?_ ?_ | refine SubB.agg ?_ | refine SubB.tup ?_ | rfl)))
  rintro ⟨k, z⟩ ⟨hk, hI⟩
  try simp only at hk hI
  (try simp only [↓jr, jp, jd, jz, zA, zB, zC, zD, zE, zF, zG, zH, zI, zJ, zK, zL, zM, zN, reduceIte])
  refine wq.intro (fun h1 => ?_) (fun h1 => ?_)
  · obtain ⟨hz0, hz1, hI⟩ := hI
    have hlt : k < (b.facts).length := by omega
    obtain ⟨x, r, hd⟩ : ∃ c_ l_, List.drop k (b.facts) = c_ :: l_ := ⟨_, _, List.drop_eq_getElem_cons hlt⟩
    have hd1 : List.drop (k + 1) (b.facts) = r := by rw [← List.drop_drop, hd]; rfl
    have hmem : x ∈ b.facts := List.mem_of_mem_drop (hd ▸ List.mem_cons_self)
    (try simp only [↓jr, jp, jd, jz, zA, zB, zC, zD, zE, zF, zG, zH, zI, zJ, zK, zL, zM, zN, reduceIte, hd])
    refine wc.intro (by omega) ?_
    (try simp only [↓jr, jp, jd, jz, zA, zB, zC, zD, zE, zF, zG, zH, zI, zJ, zK, zL, zM, zN, reduceIte, hd])
    rw [hd] at hI
    simp only [vF] at hI
    obtain ⟨k1, k2⟩ := hb.facts x hmem
    have f1 := hf.2 x hmem
    refine wc.intro hb94 ?_
    (try simp only [↓jr, jp, jd, jz, zA, zB, zC, zD, zE, zF, zG, zH, zI, zJ, zK, zL, zM, zN, reduceIte])
    refine JCs.ret (s_Valid2 b hb x.ind (pid j.next 0) 30 (ext j [.cells 30 b.enc, .cells 3 [I64 z], .cells 92 x.enc]) (by rw [ext_next]; unfold pid; simp) (by (try simp only [↓jr, jp, jd, jz, zA, zB, zC, zD, zE, zF, zG, zH, zI, zJ, zK, zL, zM, zN, reduceIte]))) ?_
    (try simp only [↓jr, jp, jd, jz, zA, zB, zC, zD, zE, zF, zG, zH, zI, zJ, zK, zL, zM, zN, reduceIte])
    refine ww.intro (fun c1 => ?_) (fun c1 => by (try simp only [↓jr, jp, jd, jz, zA, zB, zC, zD, zE, zF, zG, zH, zI, zJ, zK, zL, zM, zN, reduceIte]); exact fls (by rw [hB, ← hI, c1]; rfl))
    (try simp only [↓jr, jp, jd, jz, zA, zB, zC, zD, zE, zF, zG, zH, zI, zJ, zK, zL, zM, zN, reduceIte])
    refine JCs.ret (s_Valid b.nms hb.nms 3 x.con (pid j.next 1) z (ext j [.cells 30 b.enc, .cells 3 [I64 z], .cells 92 x.enc]) k2 (by rw [ext_next]; unfold pid; simp) (by (try simp only [↓jr, jp, jd, jz, zA, zB, zC, zD, zE, zF, zG, zH, zI, zJ, zK, zL, zM, zN, reduceIte])) (by omega) (by omega)) ?_
    (try simp only [↓jr, jp, jd, jz, zA, zB, zC, zD, zE, zF, zG, zH, zI, zJ, zK, zL, zM, zN, reduceIte])
    rw [vld_conG]
    refine ww.intro (fun c2 => ?_) (fun c2 => by (try simp only [↓jr, jp, jd, jz, zA, zB, zC, zD, zE, zF, zG, zH, zI, zJ, zK, zL, zM, zN, reduceIte]); exact fls (by rw [hB, ← hI, c1, c2]; rfl))
    (try simp only [↓jr, jp, jd, jz, zA, zB, zC, zD, zE, zF, zG, zH, zI, zJ, zK, zL, zM, zN, reduceIte])
    rw [vld_conG2 c2]
    have c2' := conG_le c2
    rw [c1, c2] at hI
    refine wc.intro (R64_add hlt (by omega)) ?_; (try simp only [↓jr, jp, jd, jz, zA, zB, zC, zD, zE, zF, zG, zH, zI, zJ, zK, zL, zM, zN, reduceIte])
    refine JNEXT.of (k + 1, z - x.con.nodes) ⟨by simp only; omega, by simp only; omega, by simp only; omega, by simp only [hd1]; exact hI⟩ (by simp only; omega) ?_ (JDropH.next0 (TokExt.refl _) ⟨.inl ⟨rfl, rfl⟩, .inr (OSub.pure rfl), trivial⟩)
    ((try simp only [↓jr, jp, jd, jz, zA, zB, zC, zD, zE, zF, zG, zH, zI, zJ, zK, zL, zM, zN, reduceIte, DL]) <;> (repeat' (first | exact trivial | refine And.intro ?_ ?_ | exact SubB.v | exact SubB.any | ((first | refine SubB.ptr ?_ | refine SubB.arr ?_ | refine SubB.mp ?_) <;> first | assumption | (unfold pid; omega)) | ((first | refine SubB.pure ?_ | refine SubBs.pure ?_) <;> (simp only [AV.pure, AV.pures, pures_append, jpu, Bool.and_self, Bool.and_true, Bool.true_and]; done)) | refine SubB.fn ?_ ?_ | refine SubB.sl ?_ ?_ | refine SubB.agg ?_ | refine SubB.tup ?_ | rfl)))
  obtain ⟨hz0, hz1, hI⟩ := hI
  (try simp only [↓jr, jp, jd, jz, zA, zB, zC, zD, zE, zF, zG, zH, zI, zJ, zK, zL, zM, zN, reduceIte])
  rw [List.drop_eq_nil_of_le (by omega)] at hI
  simp only [vF] at hI
  rw [← hI] at hB
  simp only at hB
  clear hI h1 hk
  refine JLOOP.of (σ := Nat) (fun s => s ≤ (b.links).length ∧ (b.links.drop s).all (lnkOK b.nms) = b.links.all (lnkOK b.nms)) (fun s => (b.links).length - s) (fun s => [(91, I64 s), (90, I64 b.links.length), (89, .sl .none b.links.length (encs Lnk.enc b.links)), (1, .ptr (pid j.next 0) 0), (3, .ptr (pid j.next 1) 0), (6, .fn (.func 93) [] [.ptr (pid j.next 0) 0]), (7, .fn (.func 94) [] [.ptr (pid j.next 0) 0])]) (fun s => ext j [.cells 30 b.enc, .cells 3 [I64 z]]) 0 ⟨Nat.zero_le _, ?_⟩ ?_ (JDropH.refl _) ?_
  · rfl
  · ((try simp only [↓jr, jp, jd, jz, zA, zB, zC, zD, zE, zF, zG, zH, zI, zJ, zK, zL, zM, zN, reduceIte, DL]) <;> (repeat' (first | exact trivial | refine And.intro ?_ ?_ | exact SubB.v | exact SubB.any | ((first | refine SubB.ptr ?_ | refine SubB.arr ?_ | refine SubB.mp ?_) <;> first | assumption | (unfold pid; omega)) | ((first | refine SubB.pure ?_ | refine SubBs.pure ?_) <;> (simp only [AV.pure, AV.pures, pures_append, jpu, Bool.and_self, Bool.and_true, Bool.true_and]; done)) | refine SubB.fn ?_ ?_ | refine SubB.sl ?_ ?_ | refine SubB.agg ?_ | refine SubB.tup ?_ | rfl)))
  rintro k ⟨hk, hI⟩
  try simp only at hk hI
  (try simp only [↓jr, jp, jd, jz, zA, zB, zC, zD, zE, zF, zG, zH, zI, zJ, zK, zL, zM, zN, reduceIte])
  refine wq.intro (fun h1 => ?_) (fun h1 => ?_)
  · have hlt : k < (b.links).length := by omega
    obtain ⟨x, r, hd⟩ : ∃ c_ l_, List.drop k (b.links) = c_ :: l_ := ⟨_, _, List.drop_eq_getElem_cons hlt⟩
    have hd1 : List.drop (k + 1) (b.links) = r := by rw [← List.drop_drop, hd]; rfl
    have hmem : x ∈ b.links := List.mem_of_mem_drop (hd ▸ List.mem_cons_self)
    (try simp only [↓jr, jp, jd, jz, zA, zB, zC, zD, zE, zF, zG, zH, zI, zJ, zK, zL, zM, zN, reduceIte, hd])
    refine wc.intro (by omega) ?_
    (try simp only [↓jr, jp, jd, jz, zA, zB, zC, zD, zE, zF, zG, zH, zI, zJ, zK, zL, zM, zN, reduceIte, hd])
    rw [hd] at hI
    rw [List.all_cons] at hI
    obtain ⟨k1, k2, k3⟩ := hb.links x hmem
    have bad : lnkOK b.nms x = false → basV b = false := fun q => by rw [hB, ← hI, q]; rfl
    have bad1 : ¬ (0 ≤ x.role ∧ x.role < b.nms.rs.length) → basV b = false := by
      intro q
      refine bad ?_
      rw [Bool.eq_false_iff]
      intro h
      unfold lnkOK at h
      simp only [Bool.and_eq_true, decide_eq_true_eq] at h
      exact q ⟨h.1.1.1, h.1.1.2⟩
    refine wq.intro (fun c0 => by (try simp only [↓jr, jp, jd, jz, zA, zB, zC, zD, zE, zF, zG, zH, zI, zJ, zK, zL, zM, zN, reduceIte]); exact fls (bad1 (by omega))) (fun c0 => ?_)
    (try simp only [↓jr, jp, jd, jz, zA, zB, zC, zD, zE, zF, zG, zH, zI, zJ, zK, zL, zM, zN, reduceIte])
    have tl : 0 ≤ x.role ∧ x.role < b.nms.rs.length → (indOK b.nms x.fr && indOK b.nms x.to) = lnkOK b.nms x := by
      intro q; unfold lnkOK; rw [decide_eq_true q.1, decide_eq_true q.2]; rfl
    by_cases hbig : x.role ≤ 4611686018427387903
    · refine wr.in (by unfold R64; omega) ?_
      (try simp only [↓jr, jp, jd, jz, zA, zB, zC, zD, zE, zF, zG, zH, zI, zJ, zK, zL, zM, zN, reduceIte])
      refine wc.intro hb93 ?_
      (try simp only [↓jr, jp, jd, jz, zA, zB, zC, zD, zE, zF, zG, zH, zI, zJ, zK, zL, zM, zN, reduceIte])
      refine JCs.ret (s_Valid1 b hb (2 * x.role) (pid j.next 0) 30 (ext j [.cells 30 b.enc, .cells 3 [I64 z], .cells 94 x.enc]) (by rw [ext_next]; unfold pid; simp) (by (try simp only [↓jr, jp, jd, jz, zA, zB, zC, zD, zE, zF, zG, zH, zI, zJ, zK, zL, zM, zN, reduceIte]))) ?_
      (try simp only [↓jr, jp, jd, jz, zA, zB, zC, zD, zE, zF, zG, zH, zI, zJ, zK, zL, zM, zN, reduceIte])
      refine ww.intro (fun c1 => ?_) (fun c1 => by (try simp only [↓jr, jp, jd, jz, zA, zB, zC, zD, zE, zF, zG, zH, zI, zJ, zK, zL, zM, zN, reduceIte]); exact fls (bad1 (by unfold rolOK at c1; rintro ⟨q1, q2⟩; rw [decide_eq_true (by omega), decide_eq_true (by omega)] at c1; cases c1)))
      (try simp only [↓jr, jp, jd, jz, zA, zB, zC, zD, zE, zF, zG, zH, zI, zJ, zK, zL, zM, zN, reduceIte])
      refine wq.intro (fun c2 => by (try simp only [↓jr, jp, jd, jz, zA, zB, zC, zD, zE, zF, zG, zH, zI, zJ, zK, zL, zM, zN, reduceIte]); exact fls (bad1 (by omega))) (fun c2 => ?_)
      (try simp only [↓jr, jp, jd, jz, zA, zB, zC, zD, zE, zF, zG, zH, zI, zJ, zK, zL, zM, zN, reduceIte])
      refine wc.intro hb94 ?_
      (try simp only [↓jr, jp, jd, jz, zA, zB, zC, zD, zE, zF, zG, zH, zI, zJ, zK, zL, zM, zN, reduceIte])
      refine JCs.ret (s_Valid2 b hb x.fr (pid j.next 0) 30 (ext j [.cells 30 b.enc, .cells 3 [I64 z], .cells 94 x.enc]) (by rw [ext_next]; unfold pid; simp) (by (try simp only [↓jr, jp, jd, jz, zA, zB, zC, zD, zE, zF, zG, zH, zI, zJ, zK, zL, zM, zN, reduceIte]))) ?_
      (try simp only [↓jr, jp, jd, jz, zA, zB, zC, zD, zE, zF, zG, zH, zI, zJ, zK, zL, zM, zN, reduceIte])
      have tl' := tl ⟨by omega, by omega⟩
      refine ww.intro (fun c3 => ?_) (fun c3 => by (try simp only [↓jr, jp, jd, jz, zA, zB, zC, zD, zE, zF, zG, zH, zI, zJ, zK, zL, zM, zN, reduceIte]); exact fls (bad (by rw [← tl', c3]; rfl)))
      (try simp only [↓jr, jp, jd, jz, zA, zB, zC, zD, zE, zF, zG, zH, zI, zJ, zK, zL, zM, zN, reduceIte])
      refine wc.intro hb94 ?_
      (try simp only [↓jr, jp, jd, jz, zA, zB, zC, zD, zE, zF, zG, zH, zI, zJ, zK, zL, zM, zN, reduceIte])
      refine JCs.ret (s_Valid2 b hb x.to (pid j.next 0) 30 (ext j [.cells 30 b.enc, .cells 3 [I64 z], .cells 94 x.enc]) (by rw [ext_next]; unfold pid; simp) (by (try simp only [↓jr, jp, jd, jz, zA, zB, zC, zD, zE, zF, zG, zH, zI, zJ, zK, zL, zM, zN, reduceIte]))) ?_
      (try simp only [↓jr, jp, jd, jz, zA, zB, zC, zD, zE, zF, zG, zH, zI, zJ, zK, zL, zM, zN, reduceIte])
      refine ww.intro (fun c4 => ?_) (fun c4 => by (try simp only [↓jr, jp, jd, jz, zA, zB, zC, zD, zE, zF, zG, zH, zI, zJ, zK, zL, zM, zN, reduceIte]); exact fls (bad (by rw [← tl', c3, c4]; rfl)))
      (try simp only [↓jr, jp, jd, jz, zA, zB, zC, zD, zE, zF, zG, zH, zI, zJ, zK, zL, zM, zN, reduceIte])
      rw [← tl', c3, c4] at hI
      refine wc.intro (R64_add hlt (by omega)) ?_; (try simp only [↓jr, jp, jd, jz, zA, zB, zC, zD, zE, zF, zG, zH, zI, zJ, zK, zL, zM, zN, reduceIte])
      refine JNEXT.of (k + 1) ⟨by omega, by rw [hd1]; exact hI⟩ (by omega) ?_ (JDropH.next0 (by repeat' (first | exact TokExt.refl _ | refine TokExt.push ?_ _ | refine TokExt.setT ?_ (by first | exact Nat.le_refl _ | (simp only [pushTok_tnext, setTok_tnext, ext_tnext, set_tnext]; omega)) _)) (by simp only [LSub, and_self, true_or, and_true]))
      ((try simp only [↓jr, jp, jd, jz, zA, zB, zC, zD, zE, zF, zG, zH, zI, zJ, zK, zL, zM, zN, reduceIte, DL]) <;> (repeat' (first | exact trivial | refine And.intro ?_ ?_ | exact SubB.v | exact SubB.any | ((first | refine SubB.ptr ?_ | refine SubB.arr ?_ | refine SubB.mp ?_) <;> first | assumption | (unfold pid; omega)) | ((first | refine SubB.pure ?_ | refine SubBs.pure ?_) <;> (simp only [AV.pure, AV.pures, pures_append, jpu, Bool.and_self, Bool.and_true, Bool.true_and]; done)) | refine SubB.fn ?_ ?_ | refine SubB.sl ?_ ?_ | refine SubB.agg ?_ | refine SubB.tup ?_ | rfl)))
    · refine wr.any ?_
      (try simp only [↓jr, jp, jd, jz, zA, zB, zC, zD, zE, zF, zG, zH, zI, zJ, zK, zL, zM, zN, reduceIte])
      refine wc.intro hb93 ?_
      (try simp only [↓jr, jp, jd, jz, zA, zB, zC, zD, zE, zF, zG, zH, zI, zJ, zK, zL, zM, zN, reduceIte])
      refine JCs.ret (s_Valid1 b hb _ (pid j.next 0) 30 (ext j [.cells 30 b.enc, .cells 3 [I64 z], .cells 94 x.enc]) (by rw [ext_next]; unfold pid; simp) (by (try simp only [↓jr, jp, jd, jz, zA, zB, zC, zD, zE, zF, zG, zH, zI, zJ, zK, zL, zM, zN, reduceIte]))) ?_
      (try simp only [↓jr, jp, jd, jz, zA, zB, zC, zD, zE, zF, zG, zH, zI, zJ, zK, zL, zM, zN, reduceIte])
      refine ww.intro (fun c1 => ?_) (fun c1 => by (try simp only [↓jr, jp, jd, jz, zA, zB, zC, zD, zE, zF, zG, zH, zI, zJ, zK, zL, zM, zN, reduceIte]); exact fls (bad1 (by omega)))
      (try simp only [↓jr, jp, jd, jz, zA, zB, zC, zD, zE, zF, zG, zH, zI, zJ, zK, zL, zM, zN, reduceIte])
      refine wq.intro (fun c2 => by (try simp only [↓jr, jp, jd, jz, zA, zB, zC, zD, zE, zF, zG, zH, zI, zJ, zK, zL, zM, zN, reduceIte]); exact fls (bad1 (by omega))) (fun c2 => ?_)
      exact absurd c2 (by omega)
  (try simp only [↓jr, jp, jd, jz, zA, zB, zC, zD, zE, zF, zG, zH, zI, zJ, zK, zL, zM, zN, reduceIte])
  rw [List.drop_eq_nil_of_le (by omega), List.all_nil] at hI
  refine JFIN.ret ((JDropH.back (by repeat' (first | exact TokExt.refl _ | refine TokExt.push ?_ _ | refine TokExt.setT ?_ (by first | exact Nat.le_refl _ | (simp only [pushTok_tnext, setTok_tnext, ext_tnext, set_tnext]; omega)) _))).of_ext) ?_
  rw [hB, ← hI]; exact SubB.v
def ir53 : IFn := ⟨6, [⟨2, none⟩], (.seq (.reg [⟨(some 1), none, none, (.box 30 (.r 0))⟩, ⟨(some 2), none, none, (.mov (.k (.v (.int .i64 0))))⟩]) (.seq (.seq (.reg [⟨(some 3), none, (some (.r 1)), (.load (some 7) (.r 1))⟩, ⟨(some 4), none, (some (.r 3)), (.call 81 [.r 3])⟩, ⟨(some 5), none, none, (.not (.r 4))⟩]) (.cond (.r 5) (.seq (.reg [⟨(some 2), none, none, (.mov (.k (.v (.int .i64 20))))⟩]) .ret) .skip)) (.seq (.reg [⟨(some 2), none, none, (.mov (.k (.v (.int .i64 0))))⟩]) .ret)))⟩
theorem c53 : cfunc Tryd.prog 53 = some ir53 := by kernel_rfl
theorem k53 : okIR (max 1 ir53.n) ir53.ir = true := by decide +kernel
theorem s_kbCheck (b : Bas) (hb : b.ok) (hf : b.few) (j : JH) : JC Tryd.prog (GG m) 53 [.agg b.enc] j (RET (I64 (if basV b then 0 else 20)) j) := by
  refine JC.run hmix c53 (by exact k53) ?_
  (try simp only [↓jr, jp, jd, jz, zA, zB, zC, zD, zE, zF, zG, zH, zI, zJ, zK, zL, zM, zN, reduceIte, ir53])
  refine JCs.ret (s_kbValid b hb hf _) ?_
  (try simp only [↓jr, jp, jd, jz, zA, zB, zC, zD, zE, zF, zG, zH, zI, zJ, zK, zL, zM, zN, reduceIte])
  refine ww.intro (fun c => ?_) (fun c => ?_)
  all_goals
    (try simp only [↓jr, jp, jd, jz, zA, zB, zC, zD, zE, zF, zG, zH, zI, zJ, zK, zL, zM, zN, reduceIte])
    refine JFIN.ret ((JDropH.back (by repeat' (first | exact TokExt.refl _ | refine TokExt.push ?_ _ | refine TokExt.setT ?_ (by first | exact Nat.le_refl _ | (simp only [pushTok_tnext, setTok_tnext, ext_tnext, set_tnext]; omega)) _))).of_ext) ?_
    rw [c]; exact SubB.v
end Go.Proofs.YtkcbhebbjpiibaaDoor.Pg
