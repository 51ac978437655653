/-
  Consistency of a knowledge base without individuals.
-/
import Derived.Test.YtkcbhebbjpiibaaDoorLv
set_option linter.unusedVariables false
set_option linter.unusedSimpArgs false
set_option linter.defProp false
set_option maxRecDepth 20000
set_option maxHeartbeats 1000000
namespace Go.Proofs.YtkcbhebbjpiibaaDoor.Pg
open Go
open Nat renaming reduceEqDiff → zA, reduceAdd → zB, reduceMul → zC, reduceSub → zD, reduceLT → zE, reduceLeDiff → zF
open Int renaming reduceAdd → zG, reduceSub → zH, reduceMul → zI, reduceNeg → zJ, reduceToNat → zK, reduceEq → zL, reduceLT → zM, reduceLE → zN
variable {m : Int} {G : Nat → Option (List AV)}
theorem JMKS.same {j : JH} {e : TypeId} {es bytes n : Nat} {z : List AV} {K : AV → JH → Prop} (h : bytes * n ≤ 281474976710656) (h2 : n ≤ 9223372036854775807) (k : K (.arr j.next 0 n) (j.push (.cells e (acycle z (n * es))))) : @JMKS j e es bytes z (I64 n) (I64 n) ⟨K⟩ := by
  refine ⟨⟨by omega, by omega, ?_, by omega⟩, fun _ => by rw [Int.toNat_natCast]; exact k, fun q => absurd rfl q⟩
  have : ((bytes * n : Nat) : Int) ≤ 281474976710656 := by omega
  rw [Int.natCast_mul] at this; exact this
theorem acycle_zero {z : List AV} : acycle z 0 = [] := rfl
def Bas.bare (b : Bas) : Prop := b.nms.is = [] ∧ b.facts = [] ∧ b.links = []
def ir77 : IFn := ⟨75, [⟨2, none⟩], (.seq (.reg [⟨(some 1), none, none, (.box 30 (.r 0))⟩, ⟨(some 2), none, none, (.mov (.k (.sl .nil 0 [])))⟩]) (.seq (.reg [⟨(some 8), none, none, (.fadr 0 (.r 1))⟩, ⟨(some 9), none, none, (.fadr 2 (.r 8))⟩, ⟨(some 10), none, (some (.r 9)), (.load none (.r 9))⟩, ⟨(some 11), none, (some (.r 10)), (.lenl (.r 10))⟩, ⟨(some 12), none, none, (.mks 129 1 24 [.sl .nil 0 []] (.r 11) (.r 11))⟩, ⟨(some 3), none, none, (.mov (.r 12))⟩]) (.seq (.seq (.reg [⟨(some 13), none, none, (.fadr 5 (.r 1))⟩, ⟨(some 14), none, (some (.r 13)), (.load none (.r 13))⟩, ⟨(some 15), none, (some (.r 14)), (.lenl (.r 14))⟩, ⟨(some 16), none, none, (.mov (.k (.v (.int .i64 0))))⟩]) (.block 0 (.loop (.seq (.reg [⟨(some 17), none, none, (.bin .lss (.r 16) (.r 15))⟩]) (.seq (.cond (.r 17) .skip (.exit 0)) (.seq (.block 1 (.seq (.reg [⟨(some 18), none, none, (.iasl 4 (.r 14) (.r 16))⟩, ⟨(some 19), none, (some (.r 18)), (.load (some 4) (.r 18))⟩, ⟨(some 5), none, none, (.alloc 92 [.v (.int .i64 0), .v (.int .i64 0), .v (.int .i64 0), .sl .nil 0 []])⟩, ⟨none, none, none, (.store 4 (.r 5) (.r 19))⟩]) (.draw [⟨(some 20), none, none, (.mov (.r 3))⟩, ⟨(some 21), none, none, (.fadr 0 (.r 5))⟩, ⟨(some 22), none, (some (.r 21)), (.load none (.r 21))⟩, ⟨(some 23), none, none, (.mov (.r 3))⟩, ⟨(some 24), none, none, (.fadr 0 (.r 5))⟩, ⟨(some 25), none, (some (.r 24)), (.load none (.r 24))⟩, ⟨(some 26), none, none, (.iasl 1 (.r 23) (.r 25))⟩, ⟨(some 27), none, (some (.r 26)), (.load none (.r 26))⟩, ⟨(some 28), none, none, (.fadr 1 (.r 5))⟩, ⟨(some 29), none, none, (.fadr 1 (.r 28))⟩, ⟨(some 30), none, (some (.r 29)), (.load none (.r 29))⟩, ⟨(some 31), none, none, (.bsl 1 1 [.v (.int .i64 0)] [(0, (1, .r 30))])⟩, ⟨(some 32), none, none, (.app 1 8 (.r 27) (.r 31))⟩, ⟨(some 33), none, none, (.iasl 1 (.r 20) (.r 22))⟩, ⟨none, none, none, (.store 1 (.r 33) (.r 32))⟩] [(2, 12)]))) (.reg [⟨(some 34), none, none, (.bin .add (.r 16) (.k (.v (.int .i64 1))))⟩, ⟨(some 16), none, none, (.mov (.r 34))⟩]))))))) (.seq (.seq (.reg [⟨(some 35), none, none, (.fadr 6 (.r 1))⟩, ⟨(some 36), none, (some (.r 35)), (.load none (.r 35))⟩, ⟨(some 37), none, (some (.r 36)), (.lenl (.r 36))⟩, ⟨(some 38), none, none, (.mov (.k (.v (.int .i64 0))))⟩]) (.block 2 (.loop (.seq (.reg [⟨(some 39), none, none, (.bin .lss (.r 38) (.r 37))⟩]) (.seq (.cond (.r 39) .skip (.exit 2)) (.seq (.block 3 (.seq (.reg [⟨(some 40), none, none, (.iasl 3 (.r 36) (.r 38))⟩, ⟨(some 41), none, (some (.r 40)), (.load (some 3) (.r 40))⟩, ⟨(some 7), none, none, (.alloc 94 [.v (.int .i64 0), .v (.int .i64 0), .v (.int .i64 0)])⟩, ⟨none, none, none, (.store 3 (.r 7) (.r 41))⟩]) (.seq (.draw [⟨(some 42), none, none, (.mov (.r 3))⟩, ⟨(some 43), none, none, (.fadr 1 (.r 7))⟩, ⟨(some 44), none, (some (.r 43)), (.load none (.r 43))⟩, ⟨(some 45), none, none, (.mov (.r 3))⟩, ⟨(some 46), none, none, (.fadr 1 (.r 7))⟩, ⟨(some 47), none, (some (.r 46)), (.load none (.r 46))⟩, ⟨(some 48), none, none, (.iasl 1 (.r 45) (.r 47))⟩, ⟨(some 49), none, (some (.r 48)), (.load none (.r 48))⟩, ⟨(some 50), none, none, (.fadr 0 (.r 7))⟩, ⟨(some 51), none, (some (.r 50)), (.load none (.r 50))⟩, ⟨(some 52), none, none, (.bin .mul (.k (.v (.int .i64 2))) (.r 51))⟩, ⟨(some 53), none, (some (.r 52)), (.call 65 [.r 52])⟩, ⟨(some 54), none, none, (.bsl 1 1 [.v (.int .i64 0)] [(0, (1, .r 53))])⟩, ⟨(some 55), none, none, (.app 1 8 (.r 49) (.r 54))⟩, ⟨(some 56), none, none, (.iasl 1 (.r 42) (.r 44))⟩, ⟨none, none, none, (.store 1 (.r 56) (.r 55))⟩] [(2, 11), (2, 13), (5, 11), (7, 11)]) (.draw [⟨(some 57), none, none, (.mov (.r 3))⟩, ⟨(some 58), none, none, (.fadr 2 (.r 7))⟩, ⟨(some 59), none, (some (.r 58)), (.load none (.r 58))⟩, ⟨(some 60), none, none, (.mov (.r 3))⟩, ⟨(some 61), none, none, (.fadr 2 (.r 7))⟩, ⟨(some 62), none, (some (.r 61)), (.load none (.r 61))⟩, ⟨(some 63), none, none, (.iasl 1 (.r 60) (.r 62))⟩, ⟨(some 64), none, (some (.r 63)), (.load none (.r 63))⟩, ⟨(some 65), none, none, (.fadr 0 (.r 7))⟩, ⟨(some 66), none, (some (.r 65)), (.load none (.r 65))⟩, ⟨(some 67), none, none, (.bin .mul (.k (.v (.int .i64 2))) (.r 66))⟩, ⟨(some 68), none, none, (.bin .add (.r 67) (.k (.v (.int .i64 1))))⟩, ⟨(some 69), none, (some (.r 68)), (.call 65 [.r 68])⟩, ⟨(some 70), none, none, (.bsl 1 1 [.v (.int .i64 0)] [(0, (1, .r 69))])⟩, ⟨(some 71), none, none, (.app 1 8 (.r 64) (.r 70))⟩, ⟨(some 72), none, none, (.iasl 1 (.r 57) (.r 59))⟩, ⟨none, none, none, (.store 1 (.r 72) (.r 71))⟩] [(2, 12), (2, 14), (5, 12), (7, 12)])))) (.reg [⟨(some 73), none, none, (.bin .add (.r 38) (.k (.v (.int .i64 1))))⟩, ⟨(some 38), none, none, (.mov (.r 73))⟩]))))))) (.seq (.reg [⟨(some 74), none, none, (.mov (.r 3))⟩, ⟨(some 2), none, none, (.mov (.r 74))⟩]) .ret)))))⟩
theorem c77 : cfunc Tryd.prog 77 = some ir77 := by kernel_rfl
theorem k77 : okIR (max 1 ir77.n) ir77.ir = true := by decide +kernel
theorem s_stated0 (b : Bas) (h : b.bare) (j : JH) : JC Tryd.prog G 77 [.agg b.enc] j (RET (.arr (pid j.next 1) 0 0) (ext j [.cells 30 b.enc, .cells 129 []])) := by
  obtain ⟨h1, h2, h3⟩ := h
  have e1 : b.nms.is.length = 0 := by rw [h1]; rfl
  have e2 : b.facts.length = 0 := by rw [h2]; rfl
  have e3 : b.links.length = 0 := by rw [h3]; rfl
  refine JC.run hmix c77 (by exact k77) ?_
  (try simp only [↓jr, jp, jd, jz, zA, zB, zC, zD, zE, zF, zG, zH, zI, zJ, zK, zL, zM, zN, reduceIte, e1, e2, e3, ir77])
  refine JMKS.same (by omega) (by omega) ?_
  (try simp only [↓jr, jp, jd, jz, zA, zB, zC, zD, zE, zF, zG, zH, zI, zJ, zK, zL, zM, zN, reduceIte, e1, e2, e3, ext_push, ext_next, acycle_zero, Nat.zero_mul])
  refine JLOOP.of (σ := Unit) (fun _ => True) (fun _ => 0) (fun _ => [(16, I64 0), (15, I64 0), (1, .ptr (pid j.next 0) 0), (3, .arr (pid j.next 1) 0 0)]) (fun _ => ext j [.cells 30 b.enc, .cells 129 []]) () trivial ?_ (JDropH.refl _) ?_
  · ((try simp only [↓jr, jp, jd, jz, zA, zB, zC, zD, zE, zF, zG, zH, zI, zJ, zK, zL, zM, zN, reduceIte, e1, e2, e3, DL]) <;> (repeat' (first | exact trivial | refine And.intro ?_ ?_ | exact SubB.v | exact SubB.any | ((first | refine SubB.ptr ?_ | refine SubB.arr ?_ | refine SubB.mp ?_) <;> first | assumption | (unfold pid; omega)) | ((first | refine SubB.pure ?_ | refine SubBs.pure ?_) <;> (simp only [AV.pure, AV.pures, pures_append, jpu, rrow_pur, rb_pur, natv_pur, Bool.and_self, Bool.and_true, Bool.true_and]; done)) | refine SubB.fn ?_ ?_ | refine SubB.sl ?_ ?_ | refine SubB.agg ?_ | refine SubB.tup ?_ | rfl)))
  rintro ⟨⟩ -
  (try simp only [↓jr, jp, jd, jz, zA, zB, zC, zD, zE, zF, zG, zH, zI, zJ, zK, zL, zM, zN, reduceIte, e1, e2, e3])
  refine JLOOP.of (σ := Unit) (fun _ => True) (fun _ => 0) (fun _ => [(38, I64 0), (37, I64 0), (1, .ptr (pid j.next 0) 0), (3, .arr (pid j.next 1) 0 0)]) (fun _ => ext j [.cells 30 b.enc, .cells 129 []]) () trivial ?_ (JDropH.refl _) ?_
  · ((try simp only [↓jr, jp, jd, jz, zA, zB, zC, zD, zE, zF, zG, zH, zI, zJ, zK, zL, zM, zN, reduceIte, e1, e2, e3, DL]) <;> (repeat' (first | exact trivial | refine And.intro ?_ ?_ | exact SubB.v | exact SubB.any | ((first | refine SubB.ptr ?_ | refine SubB.arr ?_ | refine SubB.mp ?_) <;> first | assumption | (unfold pid; omega)) | ((first | refine SubB.pure ?_ | refine SubBs.pure ?_) <;> (simp only [AV.pure, AV.pures, pures_append, jpu, rrow_pur, rb_pur, natv_pur, Bool.and_self, Bool.and_true, Bool.true_and]; done)) | refine SubB.fn ?_ ?_ | refine SubB.sl ?_ ?_ | refine SubB.agg ?_ | refine SubB.tup ?_ | rfl)))
  rintro ⟨⟩ -
  (try simp only [↓jr, jp, jd, jz, zA, zB, zC, zD, zE, zF, zG, zH, zI, zJ, zK, zL, zM, zN, reduceIte, e1, e2, e3])
  refine JFIN.ret (JDropH.keep ?_) (SubB.arr (by rw [ext_next]; unfold pid; simp))
  intro ob hob
  simp only [List.mem_cons, List.not_mem_nil, or_false] at hob
  rcases hob with rfl | rfl
  · exact OSub.pure (Bas.pur b)
  · exact OSub.pure rfl
theorem sp_b1 {b : Bas} {a1 a2 a3 a4 a5 a6 a7 a8 : AV} : splice [a1, a2, a3, a4, a5, a6, a7, a8] 0 b.enc = b.enc ++ [a8] := rfl
theorem sp_b2 {b : Bas} {a x : AV} : splice (b.enc ++ [a]) 7 [x] = b.enc ++ [x] := rfl
theorem sp_b3 {b : Bas} {a : AV} : (b.enc ++ [a]).length = 8 := rfl
theorem sp_b4 {b : Bas} {a : AV} : irow 8 (b.enc ++ [a]) = some (b.enc ++ [a]) := rfl
def ir46 : IFn := ⟨9, [⟨2, (some (some 9))⟩], (.seq (.reg [⟨(some 1), none, none, (.box 30 (.r 0))⟩, ⟨(some 2), none, none, (.alloc 86 [.v (.pointer none), .sl .nil 0 [], .sl .nil 0 [], .sl .nil 0 [], .sl .nil 0 [], .sl .nil 0 [], .sl .nil 0 [], .sl .nil 0 [], .sl .nil 0 []])⟩]) (.seq (.draw [⟨(some 3), none, (some (.r 1)), (.load (some 7) (.r 1))⟩, ⟨(some 4), none, (some (.r 3)), (.call 58 [.r 3])⟩, ⟨(some 5), none, (some (.r 1)), (.load (some 7) (.r 1))⟩, ⟨(some 6), none, (some (.r 1)), (.load (some 7) (.r 1))⟩, ⟨(some 7), none, (some (.r 6)), (.call 77 [.r 6])⟩, ⟨(some 8), none, none, (.build [.v (.pointer none), .sl .nil 0 [], .sl .nil 0 [], .sl .nil 0 [], .sl .nil 0 [], .sl .nil 0 [], .sl .nil 0 [], .sl .nil 0 [], .sl .nil 0 []] [(0, (1, .r 4)), (1, (7, .r 5)), (8, (1, .r 7))])⟩, ⟨none, none, none, (.store 9 (.r 2) (.r 8))⟩] [(2, 1), (2, 4), (3, 1)]) .ret))⟩
theorem c46 : cfunc Tryd.prog 46 = some ir46 := by kernel_rfl
theorem k46 : okIR (max 1 ir46.n) ir46.ir = true := by decide +kernel
theorem s_WorldOf0 (b : Bas) (hb : b.ok) (h : basR b = true) (h0 : b.bare) (j : JH) : JC Tryd.prog G 46 [.agg b.enc] j (RET (.agg (AV.ptr (pid j.next 3) 0 :: (b.enc ++ [AV.arr (pid j.next 5) 0 0]))) (ext j [.cells 30 b.enc, .cells 86 (AV.ptr (pid j.next 3) 0 :: (b.enc ++ [AV.arr (pid j.next 5) 0 0])), .cells 30 b.enc, .cells 117 (rb (rulesN b)), .cells 30 b.enc, .cells 129 []])) := by
  refine JC.run hmix c46 (by exact k46) ?_
  (try simp only [↓jr, jp, jd, jz, zA, zB, zC, zD, zE, zF, zG, zH, zI, zJ, zK, zL, zM, zN, reduceIte, rb_ld, rb_len, jq2, ext_ext, pid_pid, sp_b1, sp_b2, sp_b3, sp_b4, ir46])
  refine JDC.use (s_RulesOf b hb (basR_lite h) _) ?_
  (try simp only [↓jr, jp, jd, jz, zA, zB, zC, zD, zE, zF, zG, zH, zI, zJ, zK, zL, zM, zN, reduceIte, rb_ld, rb_len, jq2, ext_ext, pid_pid, sp_b1, sp_b2, sp_b3, sp_b4])
  refine JDC.use (s_stated0 b h0 _) ?_
  (try simp only [↓jr, jp, jd, jz, zA, zB, zC, zD, zE, zF, zG, zH, zI, zJ, zK, zL, zM, zN, reduceIte, rb_ld, rb_len, jq2, ext_ext, pid_pid, sp_b1, sp_b2, sp_b3, sp_b4])
  refine wc.intro (by first | omega | trivial | (rw [sp_b1]; decide) | (simp only [sp_b1, sp_b3]; decide) | trace_state) ?_
  (try simp only [↓jr, jp, jd, jz, zA, zB, zC, zD, zE, zF, zG, zH, zI, zJ, zK, zL, zM, zN, reduceIte, rb_ld, rb_len, jq2, ext_ext, pid_pid, sp_b1, sp_b2, sp_b3, sp_b4])
  refine JDRAW.of (by (try simp only [↓jr, jp, jd, jz, zA, zB, zC, zD, zE, zF, zG, zH, zI, zJ, zK, zL, zM, zN, reduceIte, rb_ld, rb_len, jq2, ext_ext, pid_pid, sp_b1, sp_b2, sp_b3, sp_b4, jq]) <;> (repeat' (first | exact trivial | refine And.intro ?_ ?_ | assumption | (unfold pid; omega)))) (by (try simp only [↓jr, jp, jd, jz, zA, zB, zC, zD, zE, zF, zG, zH, zI, zJ, zK, zL, zM, zN, reduceIte, rb_ld, rb_len, jq2, ext_ext, pid_pid, sp_b1, sp_b2, sp_b3, sp_b4, jq]) <;> (repeat' (first | exact trivial | refine And.intro ?_ ?_))) ?_; (try simp only [↓jr, jp, jd, jz, zA, zB, zC, zD, zE, zF, zG, zH, zI, zJ, zK, zL, zM, zN, reduceIte, rb_ld, rb_len, jq2, ext_ext, pid_pid, sp_b1, sp_b2, sp_b3, sp_b4])
  have sb : ∀ k, 6 ≤ k → SubBs (pid j.next k) j.tnext (AV.ptr (pid j.next 3) 0 :: (b.enc ++ [AV.arr (pid j.next 5) 0 0])) (AV.ptr (pid j.next 3) 0 :: (b.enc ++ [AV.arr (pid j.next 5) 0 0])) := fun k hk =>
    ⟨SubB.ptr (by unfold pid; omega), SubBs.append (SubBs.pure (Bas.pur b)) ⟨SubB.arr (by unfold pid; omega), True.intro⟩⟩
  refine JFIN.ret (JDropH.keep ?_) (SubB.agg (sb 6 (by omega)))
  intro ob hob
  simp only [List.mem_cons, List.not_mem_nil, or_false] at hob
  rcases hob with rfl | rfl | rfl | rfl | rfl | rfl
  · exact OSub.pure (Bas.pur b)
  · exact ⟨rfl, sb 6 (by omega)⟩
  · exact OSub.pure (Bas.pur b)
  · exact OSub.pure (rb_pur _)
  · exact OSub.pure (Bas.pur b)
  · exact OSub.pure rfl
theorem sp_b5 {b : Bas} {a : AV} : icut none (b.enc ++ [a]) 7 = some a := rfl
def ir47 : IFn := ⟨46, [⟨2, none⟩], (.seq (.reg [⟨(some 1), none, none, (.box 86 (.r 0))⟩, ⟨(some 2), none, none, (.mov (.k (.v (.bool false))))⟩]) (.seq (.seq (.reg [⟨(some 9), none, none, (.fadr 8 (.r 1))⟩, ⟨(some 10), none, (some (.r 9)), (.load none (.r 9))⟩, ⟨(some 11), none, (some (.r 10)), (.lenl (.r 10))⟩, ⟨(some 12), none, none, (.mov (.k (.v (.int .i64 0))))⟩]) (.block 0 (.loop (.seq (.reg [⟨(some 13), none, none, (.bin .lss (.r 12) (.r 11))⟩]) (.seq (.cond (.r 13) .skip (.exit 0)) (.seq (.block 1 (.seq (.reg [⟨(some 14), none, none, (.iasl 1 (.r 10) (.r 12))⟩, ⟨(some 15), none, (some (.r 14)), (.load none (.r 14))⟩, ⟨(some 4), none, none, (.mov (.r 15))⟩]) (.seq (.reg [⟨(some 16), none, none, (.mov (.r 4))⟩, ⟨(some 17), none, (some (.r 16)), (.lenl (.r 16))⟩, ⟨(some 18), none, none, (.mov (.k (.v (.int .i64 0))))⟩]) (.block 2 (.loop (.seq (.reg [⟨(some 19), none, none, (.bin .lss (.r 18) (.r 17))⟩]) (.seq (.cond (.r 19) .skip (.exit 2)) (.seq (.block 3 (.seq (.reg [⟨(some 20), none, none, (.mov (.r 18))⟩, ⟨(some 21), none, none, (.iasl 1 (.r 16) (.r 18))⟩, ⟨(some 22), none, (some (.r 21)), (.load none (.r 21))⟩, ⟨(some 5), none, none, (.mov (.r 20))⟩, ⟨(some 6), none, none, (.mov (.r 22))⟩]) (.seq (.seq (.reg [⟨(some 23), none, none, (.fadr 0 (.r 1))⟩, ⟨(some 24), none, (some (.r 23)), (.load none (.r 23))⟩, ⟨(some 25), none, none, (.mov (.r 6))⟩, ⟨(some 26), none, none, (.nchk (.r 24))⟩, ⟨(some 27), none, none, (.fadr 1712 (.r 26))⟩, ⟨(some 28), none, none, (.iaar 28 1 (.r 27) (.r 25))⟩, ⟨(some 29), none, (some (.r 28)), (.load none (.r 28))⟩]) (.cond (.r 29) (.seq (.reg [⟨(some 2), none, none, (.mov (.k (.v (.bool false))))⟩]) .ret) .skip)) (.seq (.reg [⟨(some 30), none, none, (.mov (.r 4))⟩, ⟨(some 31), none, none, (.mov (.r 5))⟩, ⟨(some 32), none, none, (.slc 1 (.r 30) none (some (.r 31)))⟩, ⟨(some 33), none, (some (.r 32)), (.lenl (.r 32))⟩, ⟨(some 34), none, none, (.mov (.k (.v (.int .i64 0))))⟩]) (.block 4 (.loop (.seq (.reg [⟨(some 35), none, none, (.bin .lss (.r 34) (.r 33))⟩]) (.seq (.cond (.r 35) .skip (.exit 4)) (.seq (.block 5 (.seq (.reg [⟨(some 36), none, none, (.iasl 1 (.r 32) (.r 34))⟩, ⟨(some 37), none, (some (.r 36)), (.load none (.r 36))⟩, ⟨(some 8), none, none, (.mov (.r 37))⟩]) (.seq (.reg [⟨(some 38), none, none, (.fadr 0 (.r 1))⟩, ⟨(some 39), none, (some (.r 38)), (.load none (.r 38))⟩, ⟨(some 40), none, none, (.mov (.r 6))⟩, ⟨(some 41), none, none, (.mov (.r 8))⟩, ⟨(some 42), none, none, (.call 78 [.r 39, .r 40, .r 41])⟩]) (.cond (.r 42) (.seq (.reg [⟨(some 2), none, none, (.mov (.k (.v (.bool false))))⟩]) .ret) .skip)))) (.reg [⟨(some 43), none, none, (.bin .add (.r 34) (.k (.v (.int .i64 1))))⟩, ⟨(some 34), none, none, (.mov (.r 43))⟩])))))))))) (.reg [⟨(some 44), none, none, (.bin .add (.r 18) (.k (.v (.int .i64 1))))⟩, ⟨(some 18), none, none, (.mov (.r 44))⟩]))))))))) (.reg [⟨(some 45), none, none, (.bin .add (.r 12) (.k (.v (.int .i64 1))))⟩, ⟨(some 12), none, none, (.mov (.r 45))⟩]))))))) (.seq (.reg [⟨(some 2), none, none, (.mov (.k (.v (.bool true))))⟩]) .ret)))⟩
theorem c47 : cfunc Tryd.prog 47 = some ir47 := by kernel_rfl
theorem k47 : okIR (max 1 ir47.n) ir47.ir = true := by decide +kernel
theorem s_Sound0 (b : Bas) (o r : Nat) (j : JH) : JC Tryd.prog G 47 [.agg (AV.ptr r 0 :: (b.enc ++ [AV.arr o 0 0]))] j (RET (BOO true) j) := by
  refine JC.run hmix c47 (by exact k47) ?_
  (try simp only [↓jr, jp, jd, jz, zA, zB, zC, zD, zE, zF, zG, zH, zI, zJ, zK, zL, zM, zN, reduceIte, sp_b5, ir47])
  refine JLOOP.of (σ := Unit) (fun _ => True) (fun _ => 0) (fun _ => [(12, I64 0), (11, I64 0)]) (fun _ => ext j [.cells 86 (AV.ptr r 0 :: (b.enc ++ [AV.arr o 0 0]))]) () trivial ?_ (JDropH.refl _) ?_
  · ((try simp only [↓jr, jp, jd, jz, zA, zB, zC, zD, zE, zF, zG, zH, zI, zJ, zK, zL, zM, zN, reduceIte, sp_b5, DL]) <;> (repeat' (first | exact trivial | refine And.intro ?_ ?_ | exact SubB.v | exact SubB.any | ((first | refine SubB.ptr ?_ | refine SubB.arr ?_ | refine SubB.mp ?_) <;> first | assumption | (unfold pid; omega)) | ((first | refine SubB.pure ?_ | refine SubBs.pure ?_) <;> (simp only [AV.pure, AV.pures, pures_append, jpu, rrow_pur, rb_pur, natv_pur, Bool.and_self, Bool.and_true, Bool.true_and]; done)) | refine SubB.fn ?_ ?_ | refine SubB.sl ?_ ?_ | refine SubB.agg ?_ | refine SubB.tup ?_ | rfl)))
  rintro ⟨⟩ -
  (try simp only [↓jr, jp, jd, jz, zA, zB, zC, zD, zE, zF, zG, zH, zI, zJ, zK, zL, zM, zN, reduceIte, sp_b5])
  refine JFIN.ret ((JDropH.back (by repeat' (first | exact TokExt.refl _ | refine TokExt.push ?_ _ | refine TokExt.setT ?_ (by first | exact Nat.le_refl _ | (simp only [pushTok_tnext, setTok_tnext, ext_tnext, set_tnext]; omega)) _))).of_ext) ?_
  exact SubB.v
def ir12 : IFn := ⟨13, [⟨2, none⟩, ⟨3, none⟩], (.seq (.reg [⟨(some 1), none, none, (.box 30 (.r 0))⟩, ⟨(some 2), none, none, (.mov (.k (.v (.bool false))))⟩, ⟨(some 3), none, none, (.mov (.k (.v (.int .i64 0))))⟩]) (.seq (.seq (.reg [⟨(some 5), none, (some (.r 1)), (.load (some 7) (.r 1))⟩, ⟨(some 6), none, (some (.r 5)), (.call 45 [.r 5])⟩, ⟨(some 4), none, none, (.mov (.r 6))⟩]) (.seq (.reg [⟨(some 7), none, none, (.mov (.r 4))⟩, ⟨(some 8), none, none, (.bin .neq (.r 7) (.k (.v (.int .i64 0))))⟩]) (.cond (.r 8) (.seq (.reg [⟨(some 9), none, none, (.mov (.r 4))⟩, ⟨(some 2), none, none, (.mov (.k (.v (.bool false))))⟩, ⟨(some 3), none, none, (.mov (.r 9))⟩]) .ret) .skip))) (.seq (.reg [⟨(some 10), none, (some (.r 1)), (.load (some 7) (.r 1))⟩, ⟨(some 11), none, (some (.r 10)), (.call 46 [.r 10])⟩, ⟨(some 12), none, (some (.r 11)), (.call 47 [.r 11])⟩, ⟨(some 2), none, none, (.mov (.r 12))⟩, ⟨(some 3), none, none, (.mov (.k (.v (.int .i64 0))))⟩]) .ret)))⟩
theorem c12 : cfunc Tryd.prog 12 = some ir12 := by kernel_rfl
theorem k12 : okIR (max 1 ir12.n) ir12.ir = true := by decide +kernel
theorem s_Consistent0 (b : Bas) (hb : b.ok) (hf : b.few) (h : askE b = 0) (h0 : b.bare) (j : JH) : JC Tryd.prog (GG m) 12 [.agg b.enc] j (RET (.tup [BOO true, I64 0]) j) := by
  refine JC.run hmix c12 (by exact k12) ?_
  (try simp only [↓jr, jp, jd, jz, zA, zB, zC, zD, zE, zF, zG, zH, zI, zJ, zK, zL, zM, zN, reduceIte, ext_ext, pid_pid, ir12])
  refine JCs.ret (s_asks b hb hf _) ?_
  rw [h]
  (try simp only [↓jr, jp, jd, jz, zA, zB, zC, zD, zE, zF, zG, zH, zI, zJ, zK, zL, zM, zN, reduceIte, ext_ext, pid_pid])
  refine JCs.ret (s_WorldOf0 b hb (askE_basR h).1 h0 _) ?_
  (try simp only [↓jr, jp, jd, jz, zA, zB, zC, zD, zE, zF, zG, zH, zI, zJ, zK, zL, zM, zN, reduceIte, ext_ext, pid_pid])
  refine JCs.ret (s_Sound0 b _ _ _) ?_
  (try simp only [↓jr, jp, jd, jz, zA, zB, zC, zD, zE, zF, zG, zH, zI, zJ, zK, zL, zM, zN, reduceIte, ext_ext, pid_pid])
  refine JFIN.ret ((JDropH.back (by repeat' (first | exact TokExt.refl _ | refine TokExt.push ?_ _ | refine TokExt.setT ?_ (by first | exact Nat.le_refl _ | (simp only [pushTok_tnext, setTok_tnext, ext_tnext, set_tnext]; omega)) _))).of_ext) ?_
  (repeat' (first | exact trivial | refine And.intro ?_ ?_ | exact SubB.v | exact SubB.any | ((first | refine SubB.ptr ?_ | refine SubB.arr ?_ | refine SubB.mp ?_) <;> first | assumption | (unfold pid; omega)) | ((first | refine SubB.pure ?_ | refine SubBs.pure ?_) <;> (simp only [AV.pure, AV.pures, pures_append, jpu, rrow_pur, rb_pur, natv_pur, Bool.and_self, Bool.and_true, Bool.true_and]; done)) | refine SubB.fn ?_ ?_ | refine SubB.sl ?_ ?_ | refine SubB.agg ?_ | refine SubB.tup ?_ | rfl))
end Go.Proofs.YtkcbhebbjpiibaaDoor.Pg
