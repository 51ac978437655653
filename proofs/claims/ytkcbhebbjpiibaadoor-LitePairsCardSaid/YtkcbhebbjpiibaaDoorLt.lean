/-
  The closure of the rules.
-/
import Derived.Test.YtkcbhebbjpiibaaDoorLr
set_option linter.unusedVariables false
set_option linter.unusedSimpArgs false
set_option maxRecDepth 20000
set_option linter.defProp false
set_option maxHeartbeats 1000000
namespace Go.Proofs.YtkcbhebbjpiibaaDoor.Pg
open Go
open Nat renaming reduceEqDiff → zA, reduceAdd → zB, reduceMul → zC, reduceSub → zD, reduceLT → zE, reduceLeDiff → zF
open Int renaming reduceAdd → zG, reduceSub → zH, reduceMul → zI, reduceNeg → zJ, reduceToNat → zK, reduceEq → zL, reduceLT → zM, reduceLE → zN
variable {m : Int} {G : Nat → Option (List AV)}
theorem s_trans28w (o off : Nat) (t : TypeId) (N : Nat) (j : JH) (ho : o < j.next) (hg : j.get o = some (.cells t (rb N))) (hoff : off + 784 ≤ 1740) : JC Tryd.prog G 83 [.arr o off 28, .fn (.func 84) [] []] j (RET (.tup []) (j.set o (.cells t (rb (trJ 28 off N 28))))) := by
  have h := s_trans28 (G := G) o off t N j ho hoff
  rwa [set_self hg] at h
theorem s_trans12w (o off : Nat) (t : TypeId) (N : Nat) (j : JH) (ho : o < j.next) (hg : j.get o = some (.cells t (rb N))) (hoff : off + 144 ≤ 1740) : JC Tryd.prog G 85 [.arr o off 12, .fn (.func 86) [] []] j (RET (.tup []) (j.set o (.cells t (rb (trJ 12 off N 12))))) := by
  have h := s_trans12 (G := G) o off t N j ho hoff
  rwa [set_self hg] at h
theorem s_void (o : Nat) (t : TypeId) (N : Nat) (j : JH) (ho : o < j.next) (hg : j.get o = some (.cells t (rb N))) : JC Tryd.prog G 87 [.ptr o 0] j (RET (.tup []) (j.set o (.cells t (rb (voidN N))))) := by
  have h := s_void' (G := G) o t N j ho
  rwa [set_self hg] at h
def dgA (k : Nat) : Nat := (List.range k).foldl (fun N i => put N (i * 28 + i)) 0
def dgB (k : Nat) : Nat := (List.range k).foldl (fun N i => put N (784 + i * 12 + i)) (dgA 28)
theorem dgA_succ (k : Nat) : dgA (k + 1) = put (dgA k) (k * 28 + k) := by unfold dgA; rw [List.range_succ, List.foldl_append]; rfl
theorem dgB_succ (k : Nat) : dgB (k + 1) = put (dgB k) (784 + k * 12 + k) := by unfold dgB; rw [List.range_succ, List.foldl_append]; rfl
def rlS (N s p : Nat) : Nat := put (put (put (put N (784 + s * 12 + p)) (784 + (s ^^^ 1) * 12 + (p ^^^ 1))) ((16 + s) * 28 + (16 + p))) ((16 + (s ^^^ 1)) * 28 + (16 + (p ^^^ 1)))
def rlR (N : Nat) (x : RIn) : Nat := rlS N x.sub.toNat x.sup.toNat
def inS (N c d : Nat) (no bot : Bool) : Nat := if bot then put N (928 + c * 28 + c) else if no then put (put N (928 + c * 28 + d)) (928 + d * 28 + c) else put N (c * 28 + d)
def inR (N : Nat) (x : Inc) : Nat := inS N (numC x.sub).toNat (rhsC x.sup).1.toNat (rhsC x.sup).2.1 (rhsC x.sup).2.2
def stR (b : Bas) : Nat := b.roles.foldl rlR (dgB 12)
def stI (b : Bas) : Nat := b.incls.foldl inR (stR b)
def rulesN (b : Bas) : Nat := voidN (trJ 12 784 (trJ 28 0 (stI b) 28) 12)
theorem xor_r {s : Nat} (h : s < 12) : IntKind.i64.wrap (BitVec.ofInt 64 (s : Int) ^^^ BitVec.ofInt 64 1).toNat = ((s ^^^ 1 : Nat) : Int) := by
  have : ∀ s : Nat, s < 12 → IntKind.i64.wrap (BitVec.ofInt 64 (s : Int) ^^^ BitVec.ofInt 64 1).toNat = ((s ^^^ 1 : Nat) : Int) := by decide +kernel
  exact this s h
theorem xor_lt {s : Nat} (h : s < 12) : s ^^^ 1 < 12 := by
  have : ∀ s : Nat, s < 12 → s ^^^ 1 < 12 := by decide
  exact this s h
theorem q_e2 {b : Bool} {j : JH} {l l' : List AObj} : okE ⟨b, none, ext j l, ext j l'⟩ = (pid j.next l.length ≤ pid j.next l'.length) := by
  unfold okE; simp [ext_next, ext_tnext]
theorem q_p3 {t : Option Nat} {ob : Nat} {j0 j j' : JH} : pair2 ⟨true, some ob, j0, j0⟩ ⟨true, t, j, j'⟩ = (j.get ob = j'.get ob) := by simp [pair2]
theorem q_p4 {t : Option Nat} {j0 j j' : JH} : pair2 ⟨true, none, j0, j0⟩ ⟨true, t, j, j'⟩ = True := by simp [pair2]
def jq2 := And.intro @q_e2 (And.intro @q_p3 @q_p4)
theorem slcp28 {o off : Nat} : islcp 28 28 none none (.ptr o off) = some (.arr o off 28) := by simp [islcp, abound]
theorem slcp12 {o off : Nat} : islcp 12 12 none none (.ptr o off) = some (.arr o off 12) := by simp [islcp, abound]
theorem JDropH.keep {j : JH} {l : List AObj} (hl : ∀ ob ∈ l, OSub (pid j.next l.length) j.tnext ob ob) : JDropH (ext j []) (ext j l) (ext j l) := by
  refine ⟨?_, Nat.le_refl _, Nat.le_refl _, Nat.le_refl _, fun o ob ho e => ?_, fun _ _ => rfl⟩
  · rw [ext_next, ext_next]; unfold pid; simp
  · by_cases h : o < j.next
    · refine .inl ⟨by rw [ext_next]; unfold pid; omega, ?_, e⟩
      rw [ext_get_old h] at e ⊢; exact e
    · refine .inr ⟨ob, e, hl ob ?_⟩
      have e1 : o = pid j.next (o - j.next) := by unfold pid; omega
      rw [e1, ext_get_new rfl] at e
      exact List.mem_of_getElem? e
theorem n16 (s : Nat) : 16 + (s : Int) = ((16 + s : Nat) : Int) := by omega
/-- What the closure needs of a knowledge base. -/
structure Bas.lite (b : Bas) : Prop where
  hds : b.hds
  rs : b.rs
  rol : ∀ x ∈ b.roles, ∃ s p : Nat, x.sub = s ∧ x.sup = p ∧ s < 12 ∧ p < 12
  inc : ∀ x ∈ b.incls, ∃ c d : Nat, numC x.sub = c ∧ (rhsC x.sup).1 = d ∧ c < 28 ∧ d < 28
def ir58 : IFn := ⟨160, [⟨2, none⟩], (.seq (.reg [⟨(some 1), none, none, (.box 30 (.r 0))⟩, ⟨(some 2), none, none, (.mov (.k (.v (.pointer none))))⟩]) (.seq (.reg [⟨(some 14), none, none, (.build (rb 0) [])⟩, ⟨(some 15), none, none, (.box 117 (.r 14))⟩, ⟨(some 3), none, none, (.mov (.r 15))⟩]) (.seq (.seq (.reg [⟨(some 16), none, none, (.mov (.k (.v (.int .i64 0))))⟩]) (.block 0 (.loop (.seq (.reg [⟨(some 17), none, none, (.bin .lss (.r 16) (.k (.v (.int .i64 28))))⟩]) (.seq (.cond (.r 17) .skip (.exit 0)) (.seq (.block 1 (.seq (.reg [⟨(some 18), none, none, (.mov (.r 16))⟩, ⟨(some 4), none, none, (.mov (.r 18))⟩]) (.reg [⟨(some 19), none, none, (.mov (.r 3))⟩, ⟨(some 20), none, none, (.mov (.r 4))⟩, ⟨(some 21), none, none, (.mov (.r 4))⟩, ⟨(some 22), none, none, (.nchk (.r 19))⟩, ⟨(some 23), none, none, (.fadr 0 (.r 22))⟩, ⟨(some 24), none, none, (.iaar 28 28 (.r 23) (.r 20))⟩, ⟨(some 25), none, none, (.iaar 28 1 (.r 24) (.r 21))⟩, ⟨none, none, none, (.store 1 (.r 25) (.k (.v (.bool true))))⟩]))) (.reg [⟨(some 26), none, none, (.bin .add (.r 16) (.k (.v (.int .i64 1))))⟩, ⟨(some 16), none, none, (.mov (.r 26))⟩]))))))) (.seq (.seq (.reg [⟨(some 27), none, none, (.mov (.k (.v (.int .i64 0))))⟩]) (.block 2 (.loop (.seq (.reg [⟨(some 28), none, none, (.bin .lss (.r 27) (.k (.v (.int .i64 12))))⟩]) (.seq (.cond (.r 28) .skip (.exit 2)) (.seq (.block 3 (.seq (.reg [⟨(some 29), none, none, (.mov (.r 27))⟩, ⟨(some 5), none, none, (.mov (.r 29))⟩]) (.reg [⟨(some 30), none, none, (.mov (.r 3))⟩, ⟨(some 31), none, none, (.mov (.r 5))⟩, ⟨(some 32), none, none, (.mov (.r 5))⟩, ⟨(some 33), none, none, (.nchk (.r 30))⟩, ⟨(some 34), none, none, (.fadr 784 (.r 33))⟩, ⟨(some 35), none, none, (.iaar 12 12 (.r 34) (.r 31))⟩, ⟨(some 36), none, none, (.iaar 12 1 (.r 35) (.r 32))⟩, ⟨none, none, none, (.store 1 (.r 36) (.k (.v (.bool true))))⟩]))) (.reg [⟨(some 37), none, none, (.bin .add (.r 27) (.k (.v (.int .i64 1))))⟩, ⟨(some 27), none, none, (.mov (.r 37))⟩]))))))) (.seq (.seq (.reg [⟨(some 38), none, none, (.fadr 4 (.r 1))⟩, ⟨(some 39), none, (some (.r 38)), (.load none (.r 38))⟩, ⟨(some 40), none, (some (.r 39)), (.lenl (.r 39))⟩, ⟨(some 41), none, none, (.mov (.k (.v (.int .i64 0))))⟩]) (.block 4 (.loop (.seq (.reg [⟨(some 42), none, none, (.bin .lss (.r 41) (.r 40))⟩]) (.seq (.cond (.r 42) .skip (.exit 4)) (.seq (.block 5 (.seq (.reg [⟨(some 43), none, none, (.iasl 2 (.r 39) (.r 41))⟩, ⟨(some 44), none, (some (.r 43)), (.load (some 2) (.r 43))⟩, ⟨(some 7), none, none, (.alloc 82 [.v (.int .i64 0), .v (.int .i64 0)])⟩, ⟨none, none, none, (.store 2 (.r 7) (.r 44))⟩]) (.seq (.draw [⟨(some 45), none, none, (.mov (.r 3))⟩, ⟨(some 46), none, none, (.fadr 0 (.r 7))⟩, ⟨(some 47), none, (some (.r 46)), (.load none (.r 46))⟩, ⟨(some 48), none, none, (.fadr 1 (.r 7))⟩, ⟨(some 49), none, (some (.r 48)), (.load none (.r 48))⟩, ⟨(some 50), none, none, (.mov (.r 3))⟩, ⟨(some 51), none, none, (.fadr 0 (.r 7))⟩, ⟨(some 52), none, (some (.r 51)), (.load none (.r 51))⟩, ⟨(some 53), none, none, (.bin .xor (.r 52) (.k (.v (.int .i64 1))))⟩, ⟨(some 54), none, none, (.fadr 1 (.r 7))⟩, ⟨(some 55), none, (some (.r 54)), (.load none (.r 54))⟩, ⟨(some 56), none, none, (.bin .xor (.r 55) (.k (.v (.int .i64 1))))⟩, ⟨(some 57), none, none, (.nchk (.r 45))⟩, ⟨(some 58), none, none, (.fadr 784 (.r 57))⟩, ⟨(some 59), none, none, (.iaar 12 12 (.r 58) (.r 47))⟩, ⟨(some 60), none, none, (.iaar 12 1 (.r 59) (.r 49))⟩, ⟨none, none, none, (.store 1 (.r 60) (.k (.v (.bool true))))⟩, ⟨(some 61), none, none, (.nchk (.r 50))⟩, ⟨(some 62), none, none, (.fadr 784 (.r 61))⟩, ⟨(some 63), none, none, (.iaar 12 12 (.r 62) (.r 53))⟩, ⟨(some 64), none, none, (.iaar 12 1 (.r 63) (.r 56))⟩, ⟨none, none, none, (.store 1 (.r 64) (.k (.v (.bool true))))⟩] [(7, 16), (10, 16)]) (.draw [⟨(some 65), none, none, (.mov (.r 3))⟩, ⟨(some 66), none, none, (.fadr 0 (.r 7))⟩, ⟨(some 67), none, (some (.r 66)), (.load none (.r 66))⟩, ⟨(some 68), none, (some (.r 67)), (.call 65 [.r 67])⟩, ⟨(some 69), none, none, (.fadr 1 (.r 7))⟩, ⟨(some 70), none, (some (.r 69)), (.load none (.r 69))⟩, ⟨(some 71), none, (some (.r 70)), (.call 65 [.r 70])⟩, ⟨(some 72), none, none, (.mov (.r 3))⟩, ⟨(some 73), none, none, (.fadr 0 (.r 7))⟩, ⟨(some 74), none, (some (.r 73)), (.load none (.r 73))⟩, ⟨(some 75), none, none, (.bin .xor (.r 74) (.k (.v (.int .i64 1))))⟩, ⟨(some 76), none, (some (.r 75)), (.call 65 [.r 75])⟩, ⟨(some 77), none, none, (.fadr 1 (.r 7))⟩, ⟨(some 78), none, (some (.r 77)), (.load none (.r 77))⟩, ⟨(some 79), none, none, (.bin .xor (.r 78) (.k (.v (.int .i64 1))))⟩, ⟨(some 80), none, (some (.r 79)), (.call 65 [.r 79])⟩, ⟨(some 81), none, none, (.nchk (.r 65))⟩, ⟨(some 82), none, none, (.fadr 0 (.r 81))⟩, ⟨(some 83), none, none, (.iaar 28 28 (.r 82) (.r 68))⟩, ⟨(some 84), none, none, (.iaar 28 1 (.r 83) (.r 71))⟩, ⟨none, none, none, (.store 1 (.r 84) (.k (.v (.bool true))))⟩, ⟨(some 85), none, none, (.nchk (.r 72))⟩, ⟨(some 86), none, none, (.fadr 0 (.r 85))⟩, ⟨(some 87), none, none, (.iaar 28 28 (.r 86) (.r 76))⟩, ⟨(some 88), none, none, (.iaar 28 1 (.r 87) (.r 80))⟩, ⟨none, none, none, (.store 1 (.r 88) (.k (.v (.bool true))))⟩] [(5, 3), (9, 3), (9, 6), (13, 3), (13, 6), (13, 11)])))) (.reg [⟨(some 89), none, none, (.bin .add (.r 41) (.k (.v (.int .i64 1))))⟩, ⟨(some 41), none, none, (.mov (.r 89))⟩]))))))) (.seq (.seq (.reg [⟨(some 90), none, none, (.fadr 3 (.r 1))⟩, ⟨(some 91), none, (some (.r 90)), (.load none (.r 90))⟩, ⟨(some 92), none, (some (.r 91)), (.lenl (.r 91))⟩, ⟨(some 93), none, none, (.mov (.k (.v (.int .i64 0))))⟩]) (.block 6 (.loop (.seq (.reg [⟨(some 94), none, none, (.bin .lss (.r 93) (.r 92))⟩]) (.seq (.cond (.r 94) .skip (.exit 6)) (.seq (.block 7 (.seq (.reg [⟨(some 95), none, none, (.iasl 6 (.r 91) (.r 93))⟩, ⟨(some 96), none, (some (.r 95)), (.load (some 6) (.r 95))⟩, ⟨(some 9), none, none, (.alloc 89 [.v (.int .i64 0), .v (.int .i64 0), .sl .nil 0 [], .v (.int .i64 0), .v (.int .i64 0), .sl .nil 0 []])⟩, ⟨none, none, none, (.store 6 (.r 9) (.r 96))⟩]) (.seq (.reg [⟨(some 98), none, none, (.fadr 0 (.r 9))⟩, ⟨(some 99), none, (some (.r 98)), (.load (some 3) (.r 98))⟩, ⟨(some 100), none, (some (.r 99)), (.call 55 [.r 99])⟩, ⟨(some 97), none, none, (.mov (.r 100))⟩, ⟨(some 101), none, none, (.ext (.r 97) 0)⟩, ⟨(some 102), none, none, (.ext (.r 97) 1)⟩, ⟨(some 10), none, none, (.mov (.r 101))⟩, ⟨(some 11), none, none, (.mov (.r 102))⟩]) (.seq (.reg [⟨(some 104), none, none, (.fadr 3 (.r 9))⟩, ⟨(some 105), none, (some (.r 104)), (.load (some 3) (.r 104))⟩, ⟨(some 106), none, (some (.r 105)), (.call 56 [.r 105])⟩, ⟨(some 103), none, none, (.mov (.r 106))⟩, ⟨(some 107), none, none, (.ext (.r 103) 0)⟩, ⟨(some 108), none, none, (.ext (.r 103) 1)⟩, ⟨(some 12), none, none, (.alloc 101 [.v (.int .i64 0), .v (.bool false), .v (.bool false)])⟩, ⟨none, none, none, (.store 3 (.r 12) (.r 107))⟩, ⟨(some 13), none, none, (.mov (.r 108))⟩]) (.block 8 (.seq (.reg [⟨(some 118), none, none, (.fadr 2 (.r 12))⟩, ⟨(some 119), none, (some (.r 118)), (.load none (.r 118))⟩, ⟨(some 117), none, none, (.mov (.r 119))⟩]) (.cond (.r 117) (.reg [⟨(some 120), none, none, (.mov (.r 3))⟩, ⟨(some 121), none, none, (.mov (.r 10))⟩, ⟨(some 122), none, none, (.mov (.r 10))⟩, ⟨(some 123), none, none, (.nchk (.r 120))⟩, ⟨(some 124), none, none, (.fadr 928 (.r 123))⟩, ⟨(some 125), none, none, (.iaar 28 28 (.r 124) (.r 121))⟩, ⟨(some 126), none, none, (.iaar 28 1 (.r 125) (.r 122))⟩, ⟨none, none, none, (.store 1 (.r 126) (.k (.v (.bool true))))⟩]) (.seq (.reg [⟨(some 128), none, none, (.fadr 1 (.r 12))⟩, ⟨(some 129), none, (some (.r 128)), (.load none (.r 128))⟩, ⟨(some 127), none, none, (.mov (.r 129))⟩]) (.cond (.r 127) (.draw [⟨(some 130), none, none, (.mov (.r 3))⟩, ⟨(some 131), none, none, (.mov (.r 10))⟩, ⟨(some 132), none, none, (.fadr 0 (.r 12))⟩, ⟨(some 133), none, (some (.r 132)), (.load none (.r 132))⟩, ⟨(some 134), none, none, (.mov (.r 3))⟩, ⟨(some 135), none, none, (.fadr 0 (.r 12))⟩, ⟨(some 136), none, (some (.r 135)), (.load none (.r 135))⟩, ⟨(some 137), none, none, (.mov (.r 10))⟩, ⟨(some 138), none, none, (.nchk (.r 130))⟩, ⟨(some 139), none, none, (.fadr 928 (.r 138))⟩, ⟨(some 140), none, none, (.iaar 28 28 (.r 139) (.r 131))⟩, ⟨(some 141), none, none, (.iaar 28 1 (.r 140) (.r 133))⟩, ⟨none, none, none, (.store 1 (.r 141) (.k (.v (.bool true))))⟩, ⟨(some 142), none, none, (.nchk (.r 134))⟩, ⟨(some 143), none, none, (.fadr 928 (.r 142))⟩, ⟨(some 144), none, none, (.iaar 28 28 (.r 143) (.r 136))⟩, ⟨(some 145), none, none, (.iaar 28 1 (.r 144) (.r 137))⟩, ⟨none, none, none, (.store 1 (.r 145) (.k (.v (.bool true))))⟩] [(6, 12)]) (.draw [⟨(some 109), none, none, (.mov (.r 3))⟩, ⟨(some 110), none, none, (.mov (.r 10))⟩, ⟨(some 111), none, none, (.fadr 0 (.r 12))⟩, ⟨(some 112), none, (some (.r 111)), (.load none (.r 111))⟩, ⟨(some 113), none, none, (.nchk (.r 109))⟩, ⟨(some 114), none, none, (.fadr 0 (.r 113))⟩, ⟨(some 115), none, none, (.iaar 28 28 (.r 114) (.r 110))⟩, ⟨(some 116), none, none, (.iaar 28 1 (.r 115) (.r 112))⟩, ⟨none, none, none, (.store 1 (.r 116) (.k (.v (.bool true))))⟩] [])))))))))) (.reg [⟨(some 146), none, none, (.bin .add (.r 93) (.k (.v (.int .i64 1))))⟩, ⟨(some 93), none, none, (.mov (.r 146))⟩]))))))) (.seq (.reg [⟨(some 147), none, none, (.mov (.r 3))⟩, ⟨(some 148), none, none, (.nchk (.r 147))⟩, ⟨(some 149), none, none, (.fadr 0 (.r 148))⟩, ⟨(some 150), none, none, (.slcp 28 28 (.r 149) none none)⟩, ⟨(some 151), none, none, (.call 83 [.r 150, .k (.fn (.func 84) [] [])])⟩]) (.seq (.reg [⟨(some 152), none, none, (.mov (.r 3))⟩, ⟨(some 153), none, none, (.nchk (.r 152))⟩, ⟨(some 154), none, none, (.fadr 784 (.r 153))⟩, ⟨(some 155), none, none, (.slcp 12 12 (.r 154) none none)⟩, ⟨(some 156), none, none, (.call 85 [.r 155, .k (.fn (.func 86) [] [])])⟩]) (.seq (.reg [⟨(some 157), none, none, (.mov (.r 3))⟩, ⟨(some 158), none, (some (.r 157)), (.call 87 [.r 157])⟩]) (.seq (.reg [⟨(some 159), none, none, (.mov (.r 3))⟩, ⟨(some 2), none, none, (.mov (.r 159))⟩]) .ret))))))))))⟩
theorem c58 : cfunc Tryd.prog 58 = some ir58 := by kernel_rfl
theorem k58 : okIR (max 1 ir58.n) ir58.ir = true := by decide +kernel
theorem s_RulesOf (b : Bas) (hb : b.ok) (hl : b.lite) (j : JH) : JC Tryd.prog G 58 [.agg b.enc] j (RET (.ptr (pid j.next 1) 0) (ext j [.cells 30 b.enc, .cells 117 (rb (rulesN b))])) := by
  have l1 := hb.li
  have l2 := hb.lr
  refine JC.run hmix c58 (by exact k58) ?_
  (try simp only [↓jr, jp, jd, jz, zA, zB, zC, zD, zE, zF, zG, zH, zI, zJ, zK, zL, zM, zN, reduceIte, rb_ld, rb_len, jq2, slcp28, slcp12, ir58])
  refine JLOOP.of (σ := Nat) (fun k => k ≤ 28) (fun k => 28 - k) (fun k => [(16, I64 k), (3, .ptr (pid j.next 1) 0), (1, .ptr (pid j.next 0) 0)]) (fun k => ext j [.cells 30 b.enc, .cells 117 (rb (dgA k))]) 0 (by omega) ?_ (JDropH.refl _) ?_
  · ((try simp only [↓jr, jp, jd, jz, zA, zB, zC, zD, zE, zF, zG, zH, zI, zJ, zK, zL, zM, zN, reduceIte, rb_ld, rb_len, jq2, slcp28, slcp12, DL]) <;> (repeat' (first | exact trivial | refine And.intro ?_ ?_ | exact SubB.v | exact SubB.any | ((first | refine SubB.ptr ?_ | refine SubB.arr ?_ | refine SubB.mp ?_) <;> first | assumption | (unfold pid; omega)) | ((first | refine SubB.pure ?_ | refine SubBs.pure ?_) <;> (simp only [AV.pure, AV.pures, pures_append, jpu, rrow_pur, rb_pur, Bool.and_self, Bool.and_true, Bool.true_and]; done)) | refine SubB.fn ?_ ?_ | refine SubB.sl ?_ ?_ | refine SubB.agg ?_ | refine SubB.tup ?_ | rfl)))
  · rintro k hk
    (try simp only [↓jr, jp, jd, jz, zA, zB, zC, zD, zE, zF, zG, zH, zI, zJ, zK, zL, zM, zN, reduceIte, rb_ld, rb_len, jq2, slcp28, slcp12])
    refine wq.intro (fun h1 => ?_) (fun h1 => ?_)
    · (try simp only [↓jr, jp, jd, jz, zA, zB, zC, zD, zE, zF, zG, zH, zI, zJ, zK, zL, zM, zN, reduceIte, rb_ld, rb_len, jq2, slcp28, slcp12])
      refine wc.intro (by omega) ?_
      (try simp only [↓jr, jp, jd, jz, zA, zB, zC, zD, zE, zF, zG, zH, zI, zJ, zK, zL, zM, zN, reduceIte, rb_ld, rb_len, jq2, slcp28, slcp12])
      refine wc.intro (by omega) ?_
      (try simp only [↓jr, jp, jd, jz, zA, zB, zC, zD, zE, zF, zG, zH, zI, zJ, zK, zL, zM, zN, reduceIte, rb_ld, rb_len, jq2, slcp28, slcp12])
      refine wc.put (by omega) (by omega) ?_
      (try simp only [↓jr, jp, jd, jz, zA, zB, zC, zD, zE, zF, zG, zH, zI, zJ, zK, zL, zM, zN, reduceIte, rb_ld, rb_len, jq2, slcp28, slcp12])
      refine wc.intro (by unfold R64; omega) ?_
      (try simp only [↓jr, jp, jd, jz, zA, zB, zC, zD, zE, zF, zG, zH, zI, zJ, zK, zL, zM, zN, reduceIte, rb_ld, rb_len, jq2, slcp28, slcp12])
      refine JNEXT.of (k + 1) (by omega) (by omega) ?_ (by simp only [dgA_succ]; exact JDropH.next0 (TokExt.refl _) ⟨.inl ⟨rfl, rfl⟩, .inr (OSub.pure (rb_pur _)), True.intro⟩)
      rw [dgA_succ]
      ((try simp only [↓jr, jp, jd, jz, zA, zB, zC, zD, zE, zF, zG, zH, zI, zJ, zK, zL, zM, zN, reduceIte, rb_ld, rb_len, jq2, slcp28, slcp12, DL]) <;> (repeat' (first | exact trivial | refine And.intro ?_ ?_ | exact SubB.v | exact SubB.any | ((first | refine SubB.ptr ?_ | refine SubB.arr ?_ | refine SubB.mp ?_) <;> first | assumption | (unfold pid; omega)) | ((first | refine SubB.pure ?_ | refine SubBs.pure ?_) <;> (simp only [AV.pure, AV.pures, pures_append, jpu, rrow_pur, rb_pur, Bool.and_self, Bool.and_true, Bool.true_and]; done)) | refine SubB.fn ?_ ?_ | refine SubB.sl ?_ ?_ | refine SubB.agg ?_ | refine SubB.tup ?_ | rfl)))
    · (try simp only [↓jr, jp, jd, jz, zA, zB, zC, zD, zE, zF, zG, zH, zI, zJ, zK, zL, zM, zN, reduceIte, rb_ld, rb_len, jq2, slcp28, slcp12])
      have e : k = 28 := by omega
      subst e
      refine JLOOP.of (σ := Nat) (fun k => k ≤ 12) (fun k => 12 - k) (fun k => [(27, I64 k), (3, .ptr (pid j.next 1) 0), (1, .ptr (pid j.next 0) 0)]) (fun k => ext j [.cells 30 b.enc, .cells 117 (rb (dgB k))]) 0 (by omega) ?_ (JDropH.refl _) ?_
      · ((try simp only [↓jr, jp, jd, jz, zA, zB, zC, zD, zE, zF, zG, zH, zI, zJ, zK, zL, zM, zN, reduceIte, rb_ld, rb_len, jq2, slcp28, slcp12, DL]) <;> (repeat' (first | exact trivial | refine And.intro ?_ ?_ | exact SubB.v | exact SubB.any | ((first | refine SubB.ptr ?_ | refine SubB.arr ?_ | refine SubB.mp ?_) <;> first | assumption | (unfold pid; omega)) | ((first | refine SubB.pure ?_ | refine SubBs.pure ?_) <;> (simp only [AV.pure, AV.pures, pures_append, jpu, rrow_pur, rb_pur, Bool.and_self, Bool.and_true, Bool.true_and]; done)) | refine SubB.fn ?_ ?_ | refine SubB.sl ?_ ?_ | refine SubB.agg ?_ | refine SubB.tup ?_ | rfl)))
      rintro k hk
      (try simp only [↓jr, jp, jd, jz, zA, zB, zC, zD, zE, zF, zG, zH, zI, zJ, zK, zL, zM, zN, reduceIte, rb_ld, rb_len, jq2, slcp28, slcp12])
      refine wq.intro (fun h2 => ?_) (fun h2 => ?_)
      · (try simp only [↓jr, jp, jd, jz, zA, zB, zC, zD, zE, zF, zG, zH, zI, zJ, zK, zL, zM, zN, reduceIte, rb_ld, rb_len, jq2, slcp28, slcp12])
        refine wc.intro (by omega) ?_
        (try simp only [↓jr, jp, jd, jz, zA, zB, zC, zD, zE, zF, zG, zH, zI, zJ, zK, zL, zM, zN, reduceIte, rb_ld, rb_len, jq2, slcp28, slcp12])
        refine wc.intro (by omega) ?_
        (try simp only [↓jr, jp, jd, jz, zA, zB, zC, zD, zE, zF, zG, zH, zI, zJ, zK, zL, zM, zN, reduceIte, rb_ld, rb_len, jq2, slcp28, slcp12])
        refine wc.put (by omega) (by omega) ?_
        (try simp only [↓jr, jp, jd, jz, zA, zB, zC, zD, zE, zF, zG, zH, zI, zJ, zK, zL, zM, zN, reduceIte, rb_ld, rb_len, jq2, slcp28, slcp12])
        refine wc.intro (by unfold R64; omega) ?_
        (try simp only [↓jr, jp, jd, jz, zA, zB, zC, zD, zE, zF, zG, zH, zI, zJ, zK, zL, zM, zN, reduceIte, rb_ld, rb_len, jq2, slcp28, slcp12])
        refine JNEXT.of (k + 1) (by omega) (by omega) ?_ (by simp only [dgB_succ]; exact JDropH.next0 (TokExt.refl _) ⟨.inl ⟨rfl, rfl⟩, .inr (OSub.pure (rb_pur _)), True.intro⟩)
        rw [dgB_succ]
        ((try simp only [↓jr, jp, jd, jz, zA, zB, zC, zD, zE, zF, zG, zH, zI, zJ, zK, zL, zM, zN, reduceIte, rb_ld, rb_len, jq2, slcp28, slcp12, DL]) <;> (repeat' (first | exact trivial | refine And.intro ?_ ?_ | exact SubB.v | exact SubB.any | ((first | refine SubB.ptr ?_ | refine SubB.arr ?_ | refine SubB.mp ?_) <;> first | assumption | (unfold pid; omega)) | ((first | refine SubB.pure ?_ | refine SubBs.pure ?_) <;> (simp only [AV.pure, AV.pures, pures_append, jpu, rrow_pur, rb_pur, Bool.and_self, Bool.and_true, Bool.true_and]; done)) | refine SubB.fn ?_ ?_ | refine SubB.sl ?_ ?_ | refine SubB.agg ?_ | refine SubB.tup ?_ | rfl)))
      · (try simp only [↓jr, jp, jd, jz, zA, zB, zC, zD, zE, zF, zG, zH, zI, zJ, zK, zL, zM, zN, reduceIte, rb_ld, rb_len, jq2, slcp28, slcp12])
        have e : k = 12 := by omega
        subst e
        refine JLOOP.of (σ := Nat × Nat) (fun s => s.1 ≤ (b.roles).length ∧ (b.roles.drop s.1).foldl rlR s.2 = stR b) (fun s => (b.roles).length - s.1) (fun s => [(41, I64 s.1), (40, I64 b.roles.length), (39, .sl .none b.roles.length (encs RIn.enc b.roles)), (3, .ptr (pid j.next 1) 0), (1, .ptr (pid j.next 0) 0)]) (fun s => ext j [.cells 30 b.enc, .cells 117 (rb s.2)]) (0, dgB 12) ⟨Nat.zero_le _, ?_⟩ ?_ (JDropH.refl _) ?_
        · rfl
        · ((try simp only [↓jr, jp, jd, jz, zA, zB, zC, zD, zE, zF, zG, zH, zI, zJ, zK, zL, zM, zN, reduceIte, rb_ld, rb_len, jq2, slcp28, slcp12, DL]) <;> (repeat' (first | exact trivial | refine And.intro ?_ ?_ | exact SubB.v | exact SubB.any | ((first | refine SubB.ptr ?_ | refine SubB.arr ?_ | refine SubB.mp ?_) <;> first | assumption | (unfold pid; omega)) | ((first | refine SubB.pure ?_ | refine SubBs.pure ?_) <;> (simp only [AV.pure, AV.pures, pures_append, jpu, rrow_pur, rb_pur, Bool.and_self, Bool.and_true, Bool.true_and]; done)) | refine SubB.fn ?_ ?_ | refine SubB.sl ?_ ?_ | refine SubB.agg ?_ | refine SubB.tup ?_ | rfl)))
        rintro ⟨k, M⟩ ⟨hk, hI⟩
        try simp only at hk hI
        (try simp only [↓jr, jp, jd, jz, zA, zB, zC, zD, zE, zF, zG, zH, zI, zJ, zK, zL, zM, zN, reduceIte, rb_ld, rb_len, jq2, slcp28, slcp12])
        refine wq.intro (fun h1 => ?_) (fun h1 => ?_)
        · have hlt : k < (b.roles).length := by omega
          obtain ⟨x, r, hd⟩ : ∃ c_ l_, List.drop k (b.roles) = c_ :: l_ := ⟨_, _, List.drop_eq_getElem_cons hlt⟩
          have hd1 : List.drop (k + 1) (b.roles) = r := by rw [← List.drop_drop, hd]; rfl
          have hmem : x ∈ b.roles := List.mem_of_mem_drop (hd ▸ List.mem_cons_self)
          (try simp only [↓jr, jp, jd, jz, zA, zB, zC, zD, zE, zF, zG, zH, zI, zJ, zK, zL, zM, zN, reduceIte, rb_ld, rb_len, jq2, slcp28, slcp12, hd])
          refine wc.intro (by omega) ?_
          (try simp only [↓jr, jp, jd, jz, zA, zB, zC, zD, zE, zF, zG, zH, zI, zJ, zK, zL, zM, zN, reduceIte, rb_ld, rb_len, jq2, slcp28, slcp12, hd])
          rw [hd] at hI
          obtain ⟨s, p, e1, e2, hs, hp⟩ := hl.rol x hmem
          have hs' := xor_lt hs
          have hp' := xor_lt hp
          have es := xor_r hs
          have ep := xor_r hp
          (try simp only [↓jr, jp, jd, jz, zA, zB, zC, zD, zE, zF, zG, zH, zI, zJ, zK, zL, zM, zN, reduceIte, rb_ld, rb_len, jq2, slcp28, slcp12, e1, e2, es, ep, n16])
          repeat' (first | (refine wc.put (by omega) (by omega) ?_; (try simp only [↓jr, jp, jd, jz, zA, zB, zC, zD, zE, zF, zG, zH, zI, zJ, zK, zL, zM, zN, reduceIte, rb_ld, rb_len, jq2, slcp28, slcp12, e1, e2, es, ep, n16])) | (refine wc.intro (by first | omega | (unfold R64; omega)) ?_; (try simp only [↓jr, jp, jd, jz, zA, zB, zC, zD, zE, zF, zG, zH, zI, zJ, zK, zL, zM, zN, reduceIte, rb_ld, rb_len, jq2, slcp28, slcp12, e1, e2, es, ep, n16])) | (refine JDC.use (s_some _ (by unfold R64; omega) _) ?_; (try simp only [↓jr, jp, jd, jz, zA, zB, zC, zD, zE, zF, zG, zH, zI, zJ, zK, zL, zM, zN, reduceIte, rb_ld, rb_len, jq2, slcp28, slcp12, e1, e2, es, ep, n16])) | (refine JDRAW.of (by (try simp only [↓jr, jp, jd, jz, zA, zB, zC, zD, zE, zF, zG, zH, zI, zJ, zK, zL, zM, zN, reduceIte, rb_ld, rb_len, jq2, slcp28, slcp12, jq]) <;> (repeat' (first | exact trivial | refine And.intro ?_ ?_ | assumption | (unfold pid; omega)))) (by (try simp only [↓jr, jp, jd, jz, zA, zB, zC, zD, zE, zF, zG, zH, zI, zJ, zK, zL, zM, zN, reduceIte, rb_ld, rb_len, jq2, slcp28, slcp12, jq]) <;> (repeat' (first | exact trivial | refine And.intro ?_ ?_))) ?_; (try simp only [↓jr, jp, jd, jz, zA, zB, zC, zD, zE, zF, zG, zH, zI, zJ, zK, zL, zM, zN, reduceIte, rb_ld, rb_len, jq2, slcp28, slcp12])))
          rw [List.foldl_cons] at hI
          have e3 : rlR M x = rlS M s p := by unfold rlR; rw [e1, e2]; rfl
          rw [e3] at hI
          refine JNEXT.of (k + 1, rlS M s p) ⟨by simp only; omega, by simp only [hd1]; exact hI⟩ (by simp only; omega) ?_ (by simp only [rlS]; exact JDropH.next0 (TokExt.refl _) ⟨.inl ⟨rfl, rfl⟩, .inr (OSub.pure (rb_pur _)), True.intro⟩)
          simp only [Int.natCast_add]
          ((try simp only [↓jr, jp, jd, jz, zA, zB, zC, zD, zE, zF, zG, zH, zI, zJ, zK, zL, zM, zN, reduceIte, rb_ld, rb_len, jq2, slcp28, slcp12, DL]) <;> (repeat' (first | exact trivial | refine And.intro ?_ ?_ | exact SubB.v | exact SubB.any | ((first | refine SubB.ptr ?_ | refine SubB.arr ?_ | refine SubB.mp ?_) <;> first | assumption | (unfold pid; omega)) | ((first | refine SubB.pure ?_ | refine SubBs.pure ?_) <;> (simp only [AV.pure, AV.pures, pures_append, jpu, rrow_pur, rb_pur, Bool.and_self, Bool.and_true, Bool.true_and]; done)) | refine SubB.fn ?_ ?_ | refine SubB.sl ?_ ?_ | refine SubB.agg ?_ | refine SubB.tup ?_ | rfl)))
        (try simp only [↓jr, jp, jd, jz, zA, zB, zC, zD, zE, zF, zG, zH, zI, zJ, zK, zL, zM, zN, reduceIte, rb_ld, rb_len, jq2, slcp28, slcp12])
        rw [List.drop_eq_nil_of_le (by omega), List.foldl_nil] at hI
        subst hI
        clear hk h1
        refine JLOOP.of (σ := Nat × Nat) (fun s => s.1 ≤ (b.incls).length ∧ (b.incls.drop s.1).foldl inR s.2 = stI b) (fun s => (b.incls).length - s.1) (fun s => [(93, I64 s.1), (92, I64 b.incls.length), (91, .sl .none b.incls.length (encs Inc.enc b.incls)), (3, .ptr (pid j.next 1) 0), (1, .ptr (pid j.next 0) 0)]) (fun s => ext j [.cells 30 b.enc, .cells 117 (rb s.2)]) (0, stR b) ⟨Nat.zero_le _, ?_⟩ ?_ (JDropH.refl _) ?_
        · rfl
        · ((try simp only [↓jr, jp, jd, jz, zA, zB, zC, zD, zE, zF, zG, zH, zI, zJ, zK, zL, zM, zN, reduceIte, rb_ld, rb_len, jq2, slcp28, slcp12, DL]) <;> (repeat' (first | exact trivial | refine And.intro ?_ ?_ | exact SubB.v | exact SubB.any | ((first | refine SubB.ptr ?_ | refine SubB.arr ?_ | refine SubB.mp ?_) <;> first | assumption | (unfold pid; omega)) | ((first | refine SubB.pure ?_ | refine SubBs.pure ?_) <;> (simp only [AV.pure, AV.pures, pures_append, jpu, rrow_pur, rb_pur, Bool.and_self, Bool.and_true, Bool.true_and]; done)) | refine SubB.fn ?_ ?_ | refine SubB.sl ?_ ?_ | refine SubB.agg ?_ | refine SubB.tup ?_ | rfl)))
        rintro ⟨k, M⟩ ⟨hk, hI⟩
        try simp only at hk hI
        (try simp only [↓jr, jp, jd, jz, zA, zB, zC, zD, zE, zF, zG, zH, zI, zJ, zK, zL, zM, zN, reduceIte, rb_ld, rb_len, jq2, slcp28, slcp12])
        refine wq.intro (fun h1 => ?_) (fun h1 => ?_)
        · have hlt : k < (b.incls).length := by omega
          obtain ⟨x, r, hd⟩ : ∃ c_ l_, List.drop k (b.incls) = c_ :: l_ := ⟨_, _, List.drop_eq_getElem_cons hlt⟩
          have hd1 : List.drop (k + 1) (b.incls) = r := by rw [← List.drop_drop, hd]; rfl
          have hmem : x ∈ b.incls := List.mem_of_mem_drop (hd ▸ List.mem_cons_self)
          (try simp only [↓jr, jp, jd, jz, zA, zB, zC, zD, zE, zF, zG, zH, zI, zJ, zK, zL, zM, zN, reduceIte, rb_ld, rb_len, jq2, slcp28, slcp12, hd])
          refine wc.intro (by omega) ?_
          (try simp only [↓jr, jp, jd, jz, zA, zB, zC, zD, zE, zF, zG, zH, zI, zJ, zK, zL, zM, zN, reduceIte, rb_ld, rb_len, jq2, slcp28, slcp12, hd])
          rw [hd] at hI
          obtain ⟨c, d, e1, e2, hc, hd2⟩ := hl.inc x hmem
          obtain ⟨no, bot, e3⟩ : ∃ no bot, rhsC x.sup = ((d : Int), no, bot) := ⟨_, _, by rw [← e2]⟩
          have hx := hl.hds x hmem
          have hy := hl.rs x hmem
          refine JCs.ret (s_of x.sub hx.1.1 hy.1.1 _) ?_
          rw [e1]
          (try simp only [↓jr, jp, jd, jz, zA, zB, zC, zD, zE, zF, zG, zH, zI, zJ, zK, zL, zM, zN, reduceIte, rb_ld, rb_len, jq2, slcp28, slcp12])
          refine JCs.ret (s_right x.sup hx.2 hy.2 _) ?_
          rw [e3]
          (try simp only [↓jr, jp, jd, jz, zA, zB, zC, zD, zE, zF, zG, zH, zI, zJ, zK, zL, zM, zN, reduceIte, rb_ld, rb_len, jq2, slcp28, slcp12])
          rw [List.foldl_cons] at hI
          have e4 : inR M x = inS M c d no bot := by unfold inR; rw [e1, e3]; rfl
          rw [e4] at hI
          have fin : ∀ {M' : Nat}, inS M c d no bot = M' → List.foldl inR M' r = stI b := fun e => by rw [← e]; exact hI
          refine ww.intro (fun q1 => ?_) (fun q1 => ?_)
          · (try simp only [↓jr, jp, jd, jz, zA, zB, zC, zD, zE, zF, zG, zH, zI, zJ, zK, zL, zM, zN, reduceIte, rb_ld, rb_len, jq2, slcp28, slcp12])
            refine wc.intro (by omega) ?_
            (try simp only [↓jr, jp, jd, jz, zA, zB, zC, zD, zE, zF, zG, zH, zI, zJ, zK, zL, zM, zN, reduceIte, rb_ld, rb_len, jq2, slcp28, slcp12])
            refine wc.intro (by omega) ?_
            (try simp only [↓jr, jp, jd, jz, zA, zB, zC, zD, zE, zF, zG, zH, zI, zJ, zK, zL, zM, zN, reduceIte, rb_ld, rb_len, jq2, slcp28, slcp12])
            refine wc.put (by omega) (by omega) ?_
            (try simp only [↓jr, jp, jd, jz, zA, zB, zC, zD, zE, zF, zG, zH, zI, zJ, zK, zL, zM, zN, reduceIte, rb_ld, rb_len, jq2, slcp28, slcp12])
            refine wc.intro (by unfold R64; omega) ?_
            (try simp only [↓jr, jp, jd, jz, zA, zB, zC, zD, zE, zF, zG, zH, zI, zJ, zK, zL, zM, zN, reduceIte, rb_ld, rb_len, jq2, slcp28, slcp12])
            refine JNEXT.of (k + 1, put M (928 + c * 28 + c)) ⟨by simp only; omega, by simp only [hd1]; exact fin (by unfold inS; rw [if_pos q1])⟩ (by simp only; omega) ?_ (JDropH.next0 (TokExt.refl _) ⟨.inl ⟨rfl, rfl⟩, .inr (OSub.pure (rb_pur _)), True.intro⟩)
            simp only [Int.natCast_add]
            ((try simp only [↓jr, jp, jd, jz, zA, zB, zC, zD, zE, zF, zG, zH, zI, zJ, zK, zL, zM, zN, reduceIte, rb_ld, rb_len, jq2, slcp28, slcp12, DL]) <;> (repeat' (first | exact trivial | refine And.intro ?_ ?_ | exact SubB.v | exact SubB.any | ((first | refine SubB.ptr ?_ | refine SubB.arr ?_ | refine SubB.mp ?_) <;> first | assumption | (unfold pid; omega)) | ((first | refine SubB.pure ?_ | refine SubBs.pure ?_) <;> (simp only [AV.pure, AV.pures, pures_append, jpu, rrow_pur, rb_pur, Bool.and_self, Bool.and_true, Bool.true_and]; done)) | refine SubB.fn ?_ ?_ | refine SubB.sl ?_ ?_ | refine SubB.agg ?_ | refine SubB.tup ?_ | rfl)))
          · (try simp only [↓jr, jp, jd, jz, zA, zB, zC, zD, zE, zF, zG, zH, zI, zJ, zK, zL, zM, zN, reduceIte, rb_ld, rb_len, jq2, slcp28, slcp12])
            refine ww.intro (fun q2 => ?_) (fun q2 => ?_)
            · (try simp only [↓jr, jp, jd, jz, zA, zB, zC, zD, zE, zF, zG, zH, zI, zJ, zK, zL, zM, zN, reduceIte, rb_ld, rb_len, jq2, slcp28, slcp12])
              repeat' (first | (refine wc.put (by omega) (by omega) ?_; (try simp only [↓jr, jp, jd, jz, zA, zB, zC, zD, zE, zF, zG, zH, zI, zJ, zK, zL, zM, zN, reduceIte, rb_ld, rb_len, jq2, slcp28, slcp12])) | (refine wc.intro (by first | omega | (unfold R64; omega)) ?_; (try simp only [↓jr, jp, jd, jz, zA, zB, zC, zD, zE, zF, zG, zH, zI, zJ, zK, zL, zM, zN, reduceIte, rb_ld, rb_len, jq2, slcp28, slcp12])) | (refine JDRAW.of (by (try simp only [↓jr, jp, jd, jz, zA, zB, zC, zD, zE, zF, zG, zH, zI, zJ, zK, zL, zM, zN, reduceIte, rb_ld, rb_len, jq2, slcp28, slcp12, jq]) <;> (repeat' (first | exact trivial | refine And.intro ?_ ?_ | assumption | (unfold pid; omega)))) (by (try simp only [↓jr, jp, jd, jz, zA, zB, zC, zD, zE, zF, zG, zH, zI, zJ, zK, zL, zM, zN, reduceIte, rb_ld, rb_len, jq2, slcp28, slcp12, jq]) <;> (repeat' (first | exact trivial | refine And.intro ?_ ?_))) ?_; (try simp only [↓jr, jp, jd, jz, zA, zB, zC, zD, zE, zF, zG, zH, zI, zJ, zK, zL, zM, zN, reduceIte, rb_ld, rb_len, jq2, slcp28, slcp12])))
              refine JNEXT.of (k + 1, put (put M (928 + c * 28 + d)) (928 + d * 28 + c)) ⟨by simp only; omega, by simp only [hd1]; exact fin (by unfold inS; rw [if_neg (by rw [q1]; exact Bool.false_ne_true), if_pos q2])⟩ (by simp only; omega) ?_ (JDropH.next0 (TokExt.refl _) ⟨.inl ⟨rfl, rfl⟩, .inr (OSub.pure (rb_pur _)), True.intro⟩)
              simp only [Int.natCast_add]
              ((try simp only [↓jr, jp, jd, jz, zA, zB, zC, zD, zE, zF, zG, zH, zI, zJ, zK, zL, zM, zN, reduceIte, rb_ld, rb_len, jq2, slcp28, slcp12, DL]) <;> (repeat' (first | exact trivial | refine And.intro ?_ ?_ | exact SubB.v | exact SubB.any | ((first | refine SubB.ptr ?_ | refine SubB.arr ?_ | refine SubB.mp ?_) <;> first | assumption | (unfold pid; omega)) | ((first | refine SubB.pure ?_ | refine SubBs.pure ?_) <;> (simp only [AV.pure, AV.pures, pures_append, jpu, rrow_pur, rb_pur, Bool.and_self, Bool.and_true, Bool.true_and]; done)) | refine SubB.fn ?_ ?_ | refine SubB.sl ?_ ?_ | refine SubB.agg ?_ | refine SubB.tup ?_ | rfl)))
            · (try simp only [↓jr, jp, jd, jz, zA, zB, zC, zD, zE, zF, zG, zH, zI, zJ, zK, zL, zM, zN, reduceIte, rb_ld, rb_len, jq2, slcp28, slcp12])
              repeat' (first | (refine wc.put (by omega) (by omega) ?_; (try simp only [↓jr, jp, jd, jz, zA, zB, zC, zD, zE, zF, zG, zH, zI, zJ, zK, zL, zM, zN, reduceIte, rb_ld, rb_len, jq2, slcp28, slcp12])) | (refine wc.intro (by first | omega | (unfold R64; omega)) ?_; (try simp only [↓jr, jp, jd, jz, zA, zB, zC, zD, zE, zF, zG, zH, zI, zJ, zK, zL, zM, zN, reduceIte, rb_ld, rb_len, jq2, slcp28, slcp12])) | (refine JDRAW.of (by (try simp only [↓jr, jp, jd, jz, zA, zB, zC, zD, zE, zF, zG, zH, zI, zJ, zK, zL, zM, zN, reduceIte, rb_ld, rb_len, jq2, slcp28, slcp12, jq]) <;> (repeat' (first | exact trivial | refine And.intro ?_ ?_ | assumption | (unfold pid; omega)))) (by (try simp only [↓jr, jp, jd, jz, zA, zB, zC, zD, zE, zF, zG, zH, zI, zJ, zK, zL, zM, zN, reduceIte, rb_ld, rb_len, jq2, slcp28, slcp12, jq]) <;> (repeat' (first | exact trivial | refine And.intro ?_ ?_))) ?_; (try simp only [↓jr, jp, jd, jz, zA, zB, zC, zD, zE, zF, zG, zH, zI, zJ, zK, zL, zM, zN, reduceIte, rb_ld, rb_len, jq2, slcp28, slcp12])))
              refine JNEXT.of (k + 1, put M (c * 28 + d)) ⟨by simp only; omega, by simp only [hd1]; exact fin (by unfold inS; rw [if_neg (by rw [q1]; exact Bool.false_ne_true), if_neg (by rw [q2]; exact Bool.false_ne_true)])⟩ (by simp only; omega) ?_ (JDropH.next0 (TokExt.refl _) ⟨.inl ⟨rfl, rfl⟩, .inr (OSub.pure (rb_pur _)), True.intro⟩)
              simp only [Int.natCast_add]
              ((try simp only [↓jr, jp, jd, jz, zA, zB, zC, zD, zE, zF, zG, zH, zI, zJ, zK, zL, zM, zN, reduceIte, rb_ld, rb_len, jq2, slcp28, slcp12, DL]) <;> (repeat' (first | exact trivial | refine And.intro ?_ ?_ | exact SubB.v | exact SubB.any | ((first | refine SubB.ptr ?_ | refine SubB.arr ?_ | refine SubB.mp ?_) <;> first | assumption | (unfold pid; omega)) | ((first | refine SubB.pure ?_ | refine SubBs.pure ?_) <;> (simp only [AV.pure, AV.pures, pures_append, jpu, rrow_pur, rb_pur, Bool.and_self, Bool.and_true, Bool.true_and]; done)) | refine SubB.fn ?_ ?_ | refine SubB.sl ?_ ?_ | refine SubB.agg ?_ | refine SubB.tup ?_ | rfl)))
        (try simp only [↓jr, jp, jd, jz, zA, zB, zC, zD, zE, zF, zG, zH, zI, zJ, zK, zL, zM, zN, reduceIte, rb_ld, rb_len, jq2, slcp28, slcp12])
        rw [List.drop_eq_nil_of_le (by omega), List.foldl_nil] at hI
        have nw : pid j.next 1 < (ext j [AObj.cells 30 b.enc, AObj.cells 117 (rb M)]).next := by rw [ext_next]; unfold pid; simp
        refine JCs.ret (s_trans28w (pid j.next 1) 0 117 M _ nw (by (try simp only [↓jr, jp, jd, jz, zA, zB, zC, zD, zE, zF, zG, zH, zI, zJ, zK, zL, zM, zN, reduceIte, rb_ld, rb_len, jq2, slcp28, slcp12])) (by omega)) ?_
        (try simp only [↓jr, jp, jd, jz, zA, zB, zC, zD, zE, zF, zG, zH, zI, zJ, zK, zL, zM, zN, reduceIte, rb_ld, rb_len, jq2, slcp28, slcp12])
        refine JCs.ret (s_trans12w (pid j.next 1) 784 117 (trJ 28 0 M 28) _ (by rw [ext_next]; unfold pid; simp) (by (try simp only [↓jr, jp, jd, jz, zA, zB, zC, zD, zE, zF, zG, zH, zI, zJ, zK, zL, zM, zN, reduceIte, rb_ld, rb_len, jq2, slcp28, slcp12])) (by omega)) ?_
        (try simp only [↓jr, jp, jd, jz, zA, zB, zC, zD, zE, zF, zG, zH, zI, zJ, zK, zL, zM, zN, reduceIte, rb_ld, rb_len, jq2, slcp28, slcp12])
        refine JCs.ret (s_void (pid j.next 1) 117 (trJ 12 784 (trJ 28 0 M 28) 12) _ (by rw [ext_next]; unfold pid; simp) (by (try simp only [↓jr, jp, jd, jz, zA, zB, zC, zD, zE, zF, zG, zH, zI, zJ, zK, zL, zM, zN, reduceIte, rb_ld, rb_len, jq2, slcp28, slcp12]))) ?_
        (try simp only [↓jr, jp, jd, jz, zA, zB, zC, zD, zE, zF, zG, zH, zI, zJ, zK, zL, zM, zN, reduceIte, rb_ld, rb_len, jq2, slcp28, slcp12])
        have e : voidN (trJ 12 784 (trJ 28 0 M 28) 12) = rulesN b := by unfold rulesN; rw [← hI]
        rw [e]
        refine JFIN.ret (JDropH.keep ?_) (SubB.ptr (by rw [ext_next]; unfold pid; simp))
        intro ob hob
        simp only [List.mem_cons, List.not_mem_nil, or_false] at hob
        rcases hob with rfl | rfl
        · exact OSub.pure (Bas.pur b)
        · exact OSub.pure (rb_pur _)
end Go.Proofs.YtkcbhebbjpiibaaDoor.Pg
