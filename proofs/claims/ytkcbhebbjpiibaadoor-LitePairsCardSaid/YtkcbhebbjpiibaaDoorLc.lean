/-
  Names: words, reserved words, valid names, as both packages tell them.
-/
import Derived.Test.YtkcbhebbjpiibaaDoorPgD
import Derived.Test.YtkcbhebbjpiibaaDoorLb
import Derived.Test.YtkcbhebbjpiibaaDoorShelf
set_option linter.unusedVariables false
set_option linter.unusedSimpArgs false
set_option maxRecDepth 20000
set_option maxHeartbeats 8000000
namespace Go.Proofs.YtkcbhebbjpiibaaDoor.Pg
open Go
open Nat renaming reduceEqDiff → zA, reduceAdd → zB, reduceMul → zC, reduceSub → zD, reduceLT → zE, reduceLeDiff → zF
open Int renaming reduceAdd → zG, reduceSub → zH, reduceMul → zI, reduceNeg → zJ, reduceToNat → zK, reduceEq → zL, reduceLT → zM, reduceLE → zN
variable {G : Nat → Option (List AV)}
def lttI (x : Int) : Bool := decide (97 ≤ x) && decide (x ≤ 122) || decide (65 ≤ x) && decide (x ≤ 90)
def digI (x : Int) : Bool := decide (48 ≤ x) && decide (x ≤ 57)
def letB (b : UInt8) : Bool := lttI b.toNat
def witB (b : UInt8) : Bool := lttI b.toNat || digI b.toNat || decide ((b.toNat : Int) = 95)
def ir96 : IFn := ⟨17, [⟨2, none⟩], (.seq (.reg [⟨(some 2), none, none, (.mov (.k (.v (.bool false))))⟩]) (.seq (.reg [⟨(some 3), none, none, (.mov (.r 0))⟩, ⟨(some 4), none, none, (.bin .geq (.r 3) (.k (.v (.int .u8 97))))⟩, ⟨(some 5), none, none, (.mov (.r 4))⟩, ⟨(some 6), (some ((5, true))), none, (.mov (.r 0))⟩, ⟨(some 7), (some ((5, true))), none, (.bin .leq (.r 6) (.k (.v (.int .u8 122))))⟩, ⟨(some 8), none, none, (.pick (.r 5) (.r 7) (.k (.v (.bool false))))⟩, ⟨(some 9), none, none, (.mov (.r 8))⟩, ⟨(some 10), (some ((9, false))), none, (.mov (.r 0))⟩, ⟨(some 11), (some ((9, false))), none, (.bin .geq (.r 10) (.k (.v (.int .u8 65))))⟩, ⟨(some 12), (some ((9, false))), none, (.mov (.r 11))⟩, ⟨(some 13), (some ((12, true))), none, (.mov (.r 0))⟩, ⟨(some 14), (some ((12, true))), none, (.bin .leq (.r 13) (.k (.v (.int .u8 90))))⟩, ⟨(some 15), (some ((9, false))), none, (.pick (.r 12) (.r 14) (.k (.v (.bool false))))⟩, ⟨(some 16), none, none, (.pick (.r 9) (.k (.v (.bool true))) (.r 15))⟩, ⟨(some 2), none, none, (.mov (.r 16))⟩]) .ret))⟩
theorem c96 : cfunc Tryd.prog 96 = some ir96 := by kernel_rfl
theorem k96 : okIR (max 1 ir96.n) ir96.ir = true := by decide +kernel
theorem s_rletter (x : Int) (j : JH) : JC Tryd.prog G 96 [U8 x] j (RET (BOO (lttI x)) j) := by
  refine JC.run hmix c96 (by exact k96) ?_
  (try simp only [↓jr, jp, jd, jz, zA, zB, zC, zD, zE, zF, zG, zH, zI, zJ, zK, zL, zM, zN, reduceIte, ir96])
  repeat' (first | (refine wq.intro (fun _ => ?_) (fun _ => ?_) <;> first | contradiction | (try simp only [↓jr, jp, jd, jz, zA, zB, zC, zD, zE, zF, zG, zH, zI, zJ, zK, zL, zM, zN, reduceIte])) | (refine ww.intro (fun _ => ?_) (fun _ => ?_) <;> first | contradiction | (try simp only [↓jr, jp, jd, jz, zA, zB, zC, zD, zE, zF, zG, zH, zI, zJ, zK, zL, zM, zN, reduceIte])) | (refine wc.intro (by first | omega | (unfold R64; omega) | trivial) ?_; (try simp only [↓jr, jp, jd, jz, zA, zB, zC, zD, zE, zF, zG, zH, zI, zJ, zK, zL, zM, zN, reduceIte])) | (refine wr.in (by unfold R64; omega) ?_; (try simp only [↓jr, jp, jd, jz, zA, zB, zC, zD, zE, zF, zG, zH, zI, zJ, zK, zL, zM, zN, reduceIte])))
  all_goals
    refine JFIN.ret ((JDropH.back (by repeat' (first | exact TokExt.refl _ | refine TokExt.push ?_ _ | refine TokExt.setT ?_ (by first | exact Nat.le_refl _ | (simp only [pushTok_tnext, setTok_tnext, ext_tnext, set_tnext]; omega)) _))).of_ext) ?_
    simp only [lttI, *, decide_true, Bool.true_and, Bool.true_or, decide_false, Bool.false_and, Bool.false_or, Bool.or_true, Bool.and_true, Bool.and_false, Bool.or_false]
    exact SubB.v
def ir103 : IFn := ⟨17, [⟨2, none⟩], (.seq (.reg [⟨(some 2), none, none, (.mov (.k (.v (.bool false))))⟩]) (.seq (.reg [⟨(some 3), none, none, (.mov (.r 0))⟩, ⟨(some 4), none, none, (.bin .geq (.r 3) (.k (.v (.int .u8 97))))⟩, ⟨(some 5), none, none, (.mov (.r 4))⟩, ⟨(some 6), (some ((5, true))), none, (.mov (.r 0))⟩, ⟨(some 7), (some ((5, true))), none, (.bin .leq (.r 6) (.k (.v (.int .u8 122))))⟩, ⟨(some 8), none, none, (.pick (.r 5) (.r 7) (.k (.v (.bool false))))⟩, ⟨(some 9), none, none, (.mov (.r 8))⟩, ⟨(some 10), (some ((9, false))), none, (.mov (.r 0))⟩, ⟨(some 11), (some ((9, false))), none, (.bin .geq (.r 10) (.k (.v (.int .u8 65))))⟩, ⟨(some 12), (some ((9, false))), none, (.mov (.r 11))⟩, ⟨(some 13), (some ((12, true))), none, (.mov (.r 0))⟩, ⟨(some 14), (some ((12, true))), none, (.bin .leq (.r 13) (.k (.v (.int .u8 90))))⟩, ⟨(some 15), (some ((9, false))), none, (.pick (.r 12) (.r 14) (.k (.v (.bool false))))⟩, ⟨(some 16), none, none, (.pick (.r 9) (.k (.v (.bool true))) (.r 15))⟩, ⟨(some 2), none, none, (.mov (.r 16))⟩]) .ret))⟩
theorem c103 : cfunc Tryd.prog 103 = some ir103 := by kernel_rfl
theorem k103 : okIR (max 1 ir103.n) ir103.ir = true := by decide +kernel
theorem s_letter (x : Int) (j : JH) : JC Tryd.prog G 103 [U8 x] j (RET (BOO (lttI x)) j) := by
  refine JC.run hmix c103 (by exact k103) ?_
  (try simp only [↓jr, jp, jd, jz, zA, zB, zC, zD, zE, zF, zG, zH, zI, zJ, zK, zL, zM, zN, reduceIte, ir103])
  repeat' (first | (refine wq.intro (fun _ => ?_) (fun _ => ?_) <;> first | contradiction | (try simp only [↓jr, jp, jd, jz, zA, zB, zC, zD, zE, zF, zG, zH, zI, zJ, zK, zL, zM, zN, reduceIte])) | (refine ww.intro (fun _ => ?_) (fun _ => ?_) <;> first | contradiction | (try simp only [↓jr, jp, jd, jz, zA, zB, zC, zD, zE, zF, zG, zH, zI, zJ, zK, zL, zM, zN, reduceIte])) | (refine wc.intro (by first | omega | (unfold R64; omega) | trivial) ?_; (try simp only [↓jr, jp, jd, jz, zA, zB, zC, zD, zE, zF, zG, zH, zI, zJ, zK, zL, zM, zN, reduceIte])) | (refine wr.in (by unfold R64; omega) ?_; (try simp only [↓jr, jp, jd, jz, zA, zB, zC, zD, zE, zF, zG, zH, zI, zJ, zK, zL, zM, zN, reduceIte])))
  all_goals
    refine JFIN.ret ((JDropH.back (by repeat' (first | exact TokExt.refl _ | refine TokExt.push ?_ _ | refine TokExt.setT ?_ (by first | exact Nat.le_refl _ | (simp only [pushTok_tnext, setTok_tnext, ext_tnext, set_tnext]; omega)) _))).of_ext) ?_
    simp only [lttI, *, decide_true, Bool.true_and, Bool.true_or, decide_false, Bool.false_and, Bool.false_or, Bool.or_true, Bool.and_true, Bool.and_false, Bool.or_false]
    exact SubB.v
def ir97 : IFn := ⟨9, [⟨2, none⟩], (.seq (.reg [⟨(some 2), none, none, (.mov (.k (.v (.bool false))))⟩]) (.seq (.reg [⟨(some 3), none, none, (.mov (.r 0))⟩, ⟨(some 4), none, none, (.bin .geq (.r 3) (.k (.v (.int .u8 48))))⟩, ⟨(some 5), none, none, (.mov (.r 4))⟩, ⟨(some 6), (some ((5, true))), none, (.mov (.r 0))⟩, ⟨(some 7), (some ((5, true))), none, (.bin .leq (.r 6) (.k (.v (.int .u8 57))))⟩, ⟨(some 8), none, none, (.pick (.r 5) (.r 7) (.k (.v (.bool false))))⟩, ⟨(some 2), none, none, (.mov (.r 8))⟩]) .ret))⟩
theorem c97 : cfunc Tryd.prog 97 = some ir97 := by kernel_rfl
theorem k97 : okIR (max 1 ir97.n) ir97.ir = true := by decide +kernel
theorem s_digit (x : Int) (j : JH) : JC Tryd.prog G 97 [U8 x] j (RET (BOO (digI x)) j) := by
  refine JC.run hmix c97 (by exact k97) ?_
  (try simp only [↓jr, jp, jd, jz, zA, zB, zC, zD, zE, zF, zG, zH, zI, zJ, zK, zL, zM, zN, reduceIte, ir97])
  repeat' (first | (refine wq.intro (fun _ => ?_) (fun _ => ?_) <;> first | contradiction | (try simp only [↓jr, jp, jd, jz, zA, zB, zC, zD, zE, zF, zG, zH, zI, zJ, zK, zL, zM, zN, reduceIte])) | (refine ww.intro (fun _ => ?_) (fun _ => ?_) <;> first | contradiction | (try simp only [↓jr, jp, jd, jz, zA, zB, zC, zD, zE, zF, zG, zH, zI, zJ, zK, zL, zM, zN, reduceIte])) | (refine wc.intro (by first | omega | (unfold R64; omega) | trivial) ?_; (try simp only [↓jr, jp, jd, jz, zA, zB, zC, zD, zE, zF, zG, zH, zI, zJ, zK, zL, zM, zN, reduceIte])) | (refine wr.in (by unfold R64; omega) ?_; (try simp only [↓jr, jp, jd, jz, zA, zB, zC, zD, zE, zF, zG, zH, zI, zJ, zK, zL, zM, zN, reduceIte])))
  all_goals
    refine JFIN.ret ((JDropH.back (by repeat' (first | exact TokExt.refl _ | refine TokExt.push ?_ _ | refine TokExt.setT ?_ (by first | exact Nat.le_refl _ | (simp only [pushTok_tnext, setTok_tnext, ext_tnext, set_tnext]; omega)) _))).of_ext) ?_
    simp only [digI, *, decide_true, Bool.true_and, decide_false, Bool.false_and]
    exact SubB.v
def ir105 : IFn := ⟨17, [⟨2, none⟩], (.seq (.reg [⟨(some 2), none, none, (.mov (.k (.v (.bool false))))⟩]) (.seq (.reg [⟨(some 3), none, none, (.mov (.r 0))⟩, ⟨(some 4), none, (some (.r 3)), (.call 103 [.r 3])⟩, ⟨(some 5), none, none, (.mov (.r 4))⟩, ⟨(some 6), (some ((5, false))), none, (.mov (.r 0))⟩, ⟨(some 7), (some ((5, false))), none, (.bin .geq (.r 6) (.k (.v (.int .u8 48))))⟩, ⟨(some 8), (some ((5, false))), none, (.mov (.r 7))⟩, ⟨(some 9), (some ((8, true))), none, (.mov (.r 0))⟩, ⟨(some 10), (some ((8, true))), none, (.bin .leq (.r 9) (.k (.v (.int .u8 57))))⟩, ⟨(some 11), (some ((5, false))), none, (.pick (.r 8) (.r 10) (.k (.v (.bool false))))⟩, ⟨(some 12), none, none, (.pick (.r 5) (.k (.v (.bool true))) (.r 11))⟩, ⟨(some 13), none, none, (.mov (.r 12))⟩, ⟨(some 14), (some ((13, false))), none, (.mov (.r 0))⟩, ⟨(some 15), (some ((13, false))), none, (.bin .eql (.r 14) (.k (.v (.int .u8 95))))⟩, ⟨(some 16), none, none, (.pick (.r 13) (.k (.v (.bool true))) (.r 15))⟩, ⟨(some 2), none, none, (.mov (.r 16))⟩]) .ret))⟩
theorem c105 : cfunc Tryd.prog 105 = some ir105 := by kernel_rfl
theorem k105 : okIR (max 1 ir105.n) ir105.ir = true := by decide +kernel
theorem s_within (x : Int) (j : JH) : JC Tryd.prog G 105 [U8 x] j (RET (BOO (lttI x || digI x || decide (x = 95))) j) := by
  refine JC.run hmix c105 (by exact k105) ?_
  (try simp only [↓jr, jp, jd, jz, zA, zB, zC, zD, zE, zF, zG, zH, zI, zJ, zK, zL, zM, zN, reduceIte, ir105])
  refine JCs.ret (s_letter _ _) ?_
  (try simp only [↓jr, jp, jd, jz, zA, zB, zC, zD, zE, zF, zG, zH, zI, zJ, zK, zL, zM, zN, reduceIte])
  repeat' (first | (refine wq.intro (fun _ => ?_) (fun _ => ?_) <;> first | contradiction | (try simp only [↓jr, jp, jd, jz, zA, zB, zC, zD, zE, zF, zG, zH, zI, zJ, zK, zL, zM, zN, reduceIte])) | (refine ww.intro (fun _ => ?_) (fun _ => ?_) <;> first | contradiction | (try simp only [↓jr, jp, jd, jz, zA, zB, zC, zD, zE, zF, zG, zH, zI, zJ, zK, zL, zM, zN, reduceIte])) | (refine wc.intro (by first | omega | (unfold R64; omega) | trivial) ?_; (try simp only [↓jr, jp, jd, jz, zA, zB, zC, zD, zE, zF, zG, zH, zI, zJ, zK, zL, zM, zN, reduceIte])) | (refine wr.in (by unfold R64; omega) ?_; (try simp only [↓jr, jp, jd, jz, zA, zB, zC, zD, zE, zF, zG, zH, zI, zJ, zK, zL, zM, zN, reduceIte])))
  all_goals
    refine JFIN.ret ((JDropH.back (by repeat' (first | exact TokExt.refl _ | refine TokExt.push ?_ _ | refine TokExt.setT ?_ (by first | exact Nat.le_refl _ | (simp only [pushTok_tnext, setTok_tnext, ext_tnext, set_tnext]; omega)) _))).of_ext) ?_
    simp only [digI, *, decide_true, Bool.true_and, Bool.true_or, decide_false, Bool.false_and, Bool.false_or, Bool.or_true, Bool.and_true, Bool.and_false, Bool.or_false]
    exact SubB.v
def wordF : Bool → List UInt8 → Bool
  | _, [] => true
  | f, b :: l => (letB b || !f && (digI b.toNat || decide ((b.toNat : Int) = 95))) && wordF false l
def word (l : List UInt8) : Bool := wordF true l && !l.isEmpty
def ir88 : IFn := ⟨34, [⟨2, none⟩], (.seq (.reg [⟨(some 2), none, none, (.mov (.k (.v (.bool false))))⟩]) (.seq (.seq (.reg [⟨(some 3), none, none, (.mov (.k (.v (.int .i64 0))))⟩]) (.block 0 (.loop (.seq (.seq (.reg [⟨(some 4), none, none, (.mov (.r 3))⟩, ⟨(some 5), none, none, (.mov (.r 0))⟩, ⟨(some 6), none, (some (.r 5)), (.lens (.r 5))⟩, ⟨(some 7), none, none, (.bin .lss (.r 4) (.r 6))⟩]) (.cond (.r 7) .skip (.exit 0))) (.seq (.block 1 (.seq (.reg [⟨(some 10), none, none, (.mov (.r 0))⟩, ⟨(some 11), none, none, (.mov (.r 3))⟩, ⟨(some 12), none, none, (.idxs (.r 10) (.r 11))⟩, ⟨(some 13), none, (some (.r 12)), (.call 96 [.r 12])⟩, ⟨(some 14), none, none, (.not (.r 13))⟩, ⟨(some 15), none, none, (.mov (.r 14))⟩, ⟨(some 16), (some ((15, true))), none, (.mov (.r 3))⟩, ⟨(some 17), (some ((15, true))), none, (.bin .eql (.r 16) (.k (.v (.int .i64 0))))⟩, ⟨(some 18), (some ((15, true))), none, (.mov (.r 17))⟩, ⟨(some 19), (some ((18, false))), none, (.mov (.r 0))⟩, ⟨(some 20), (some ((18, false))), none, (.mov (.r 3))⟩, ⟨(some 21), (some ((18, false))), none, (.idxs (.r 19) (.r 20))⟩, ⟨(some 22), (some ((18, false))), (some (.r 21)), (.call 97 [.r 21])⟩, ⟨(some 23), (some ((18, false))), none, (.not (.r 22))⟩, ⟨(some 24), (some ((18, false))), none, (.mov (.r 23))⟩, ⟨(some 25), (some ((24, true))), none, (.mov (.r 0))⟩, ⟨(some 26), (some ((24, true))), none, (.mov (.r 3))⟩, ⟨(some 27), (some ((24, true))), none, (.idxs (.r 25) (.r 26))⟩, ⟨(some 28), (some ((24, true))), none, (.bin .neq (.r 27) (.k (.v (.int .u8 95))))⟩, ⟨(some 29), (some ((18, false))), none, (.pick (.r 24) (.r 28) (.k (.v (.bool false))))⟩, ⟨(some 30), (some ((15, true))), none, (.pick (.r 18) (.k (.v (.bool true))) (.r 29))⟩, ⟨(some 31), none, none, (.pick (.r 15) (.r 30) (.k (.v (.bool false))))⟩]) (.cond (.r 31) (.seq (.reg [⟨(some 2), none, none, (.mov (.k (.v (.bool false))))⟩]) .ret) .skip))) (.reg [⟨(some 8), none, none, (.mov (.r 3))⟩, ⟨(some 9), none, none, (.bin .add (.r 8) (.k (.v (.int .i64 1))))⟩, ⟨(some 3), none, none, (.mov (.r 9))⟩])))))) (.seq (.reg [⟨(some 32), none, none, (.mov (.r 0))⟩, ⟨(some 33), none, none, (.bin .neq (.r 32) (.k (.v (.string ⟨#[]⟩))))⟩, ⟨(some 2), none, none, (.mov (.r 33))⟩]) .ret)))⟩
theorem c88 : cfunc Tryd.prog 88 = some ir88 := by kernel_rfl
theorem k88 : okIR (max 1 ir88.n) ir88.ir = true := by decide +kernel
theorem s_Word (s : ByteArray) (j : JH) (hs : s.size < 4611686018427387904) : JC Tryd.prog G 88 [STR s] j (RET (BOO (word (bs s))) j) := by
  have hlen := bs_len s
  refine JC.run hmix c88 (by exact k88) ?_
  (try simp only [↓jr, jp, jd, jz, zA, zB, zC, zD, zE, zF, zG, zH, zI, zJ, zK, zL, zM, zN, reduceIte, ir88])
  refine JLOOP.of (σ := Nat) (fun k => k ≤ s.size ∧ wordF (decide (k = 0)) ((bs s).drop k) = wordF true (bs s)) (fun k => s.size - k)
      (fun k => [(3, I64 k), (0, STR s)]) (fun k => ext j []) 0 ⟨by omega, by simp⟩ ?_ (JDropH.refl _) ?_
  · ((try simp only [↓jr, jp, jd, jz, zA, zB, zC, zD, zE, zF, zG, zH, zI, zJ, zK, zL, zM, zN, reduceIte, DL]) <;> (repeat' (first | exact trivial | refine And.intro ?_ ?_ | exact SubB.v | exact SubB.any | ((first | refine SubB.ptr ?_ | refine SubB.arr ?_ | refine SubB.mp ?_) <;> first | assumption | (unfold pid; omega)) | ((first | refine SubB.pure ?_ | refine SubBs.pure ?_) <;> (simp only [AV.pure, AV.pures, pures_append, jpu, Bool.and_self, Bool.and_true, Bool.true_and]; done)) | refine SubB.fn ?_ ?_ | refine SubB.sl ?_ ?_ | refine SubB.agg ?_ | refine SubB.tup ?_ | rfl)))
  · rintro k ⟨hk, hI⟩
    (try simp only [↓jr, jp, jd, jz, zA, zB, zC, zD, zE, zF, zG, zH, zI, zJ, zK, zL, zM, zN, reduceIte])
    refine wq.intro (fun h1 => ?_) (fun h1 => ?_)
    · have hlt : k < (bs s).length := by omega
      obtain ⟨b, l, hd⟩ : ∃ c_ l_, List.drop k (bs s) = c_ :: l_ := ⟨_, _, List.drop_eq_getElem_cons hlt⟩
      have hd1 : List.drop (k + 1) (bs s) = l := by rw [← List.drop_drop, hd]; rfl
      have hmem : b ∈ bs s := List.mem_of_mem_drop (hd ▸ List.mem_cons_self)
      have hb := byte_at hd
      (try simp only [↓jr, jp, jd, jz, zA, zB, zC, zD, zE, zF, zG, zH, zI, zJ, zK, zL, zM, zN, reduceIte, hb])
      rw [hd] at hI
      simp only [wordF] at hI
      refine wc.intro (by omega) ?_
      (try simp only [↓jr, jp, jd, jz, zA, zB, zC, zD, zE, zF, zG, zH, zI, zJ, zK, zL, zM, zN, reduceIte, hb])
      refine JCs.ret (s_rletter _ _) ?_
      (try simp only [↓jr, jp, jd, jz, zA, zB, zC, zD, zE, zF, zG, zH, zI, zJ, zK, zL, zM, zN, reduceIte, hb])
      have e0 : decide ((k : Int) = 0) = decide (k = 0) := decide_eq_decide.2 (by omega)
      have nxt : ∀ {fr : L} {n : Nat}, n = s.size - k → (letB b || !decide (k = 0) && (digI ↑b.toNat || decide ((b.toNat : Int) = 95))) = true → DL j.next j.tnext fr [(3, I64 (k + 1 : Nat)), (0, STR s)] → JNEXT
          (fun n l j_1 => ∃ s_1, (s_1 ≤ s.size ∧ wordF (decide (s_1 = 0)) (List.drop s_1 (bs s)) = wordF true (bs s)) ∧ s.size - s_1 = n ∧ l = [(3, I64 ↑s_1), (0, STR s)] ∧ j_1 = ext j []) n (ext j []) fr (ext j []) := by
        intro fr n hn hc hfr
        refine JNEXT.of (k + 1) ⟨by omega, by rw [hd1, ← hI, hc]; simp⟩ (by omega) ?_ (JDropH.refl _)
        exact hfr
      have fls : (letB b || !decide (k = 0) && (digI ↑b.toNat || decide ((b.toNat : Int) = 95))) = false → @JFIN (ext j []) (ext j []) (AV.v (Value.bool false)) ⟨fun y j' => RET (BOO (word (bs s))) j (.ret y) j'⟩ := by
        intro hc
        refine JFIN.ret ((JDropH.back (by repeat' (first | exact TokExt.refl _ | refine TokExt.push ?_ _ | refine TokExt.setT ?_ (by first | exact Nat.le_refl _ | (simp only [pushTok_tnext, setTok_tnext, ext_tnext, set_tnext]; omega)) _))).of_ext) ?_
        rw [hc, Bool.false_and] at hI
        unfold word; rw [← hI]; exact SubB.v
      repeat' (first | (refine wq.intro (fun _ => ?_) (fun _ => ?_) <;> first | contradiction | (try simp only [↓jr, jp, jd, jz, zA, zB, zC, zD, zE, zF, zG, zH, zI, zJ, zK, zL, zM, zN, reduceIte])) | (refine ww.intro (fun _ => ?_) (fun _ => ?_) <;> first | contradiction | (try simp only [↓jr, jp, jd, jz, zA, zB, zC, zD, zE, zF, zG, zH, zI, zJ, zK, zL, zM, zN, reduceIte])) | (refine wc.intro (by first | omega | (unfold R64; omega) | trivial) ?_; (try simp only [↓jr, jp, jd, jz, zA, zB, zC, zD, zE, zF, zG, zH, zI, zJ, zK, zL, zM, zN, reduceIte])) | (refine wr.in (by unfold R64; omega) ?_; (try simp only [↓jr, jp, jd, jz, zA, zB, zC, zD, zE, zF, zG, zH, zI, zJ, zK, zL, zM, zN, reduceIte])))
      · refine nxt rfl (by unfold letB; simp [*]) ?_
        ((try simp only [↓jr, jp, jd, jz, zA, zB, zC, zD, zE, zF, zG, zH, zI, zJ, zK, zL, zM, zN, reduceIte, DL]) <;> (repeat' (first | exact trivial | refine And.intro ?_ ?_ | exact SubB.v | exact SubB.any | ((first | refine SubB.ptr ?_ | refine SubB.arr ?_ | refine SubB.mp ?_) <;> first | assumption | (unfold pid; omega)) | ((first | refine SubB.pure ?_ | refine SubBs.pure ?_) <;> (simp only [AV.pure, AV.pures, pures_append, jpu, Bool.and_self, Bool.and_true, Bool.true_and]; done)) | refine SubB.fn ?_ ?_ | refine SubB.sl ?_ ?_ | refine SubB.agg ?_ | refine SubB.tup ?_ | rfl)))
      · exact fls (by unfold letB; simp [*]; omega)
      · (try simp only [↓jr, jp, jd, jz, zA, zB, zC, zD, zE, zF, zG, zH, zI, zJ, zK, zL, zM, zN, reduceIte, hb])
        refine JCs.ret (s_digit _ _) ?_
        (try simp only [↓jr, jp, jd, jz, zA, zB, zC, zD, zE, zF, zG, zH, zI, zJ, zK, zL, zM, zN, reduceIte])
        repeat' (first | (refine wq.intro (fun _ => ?_) (fun _ => ?_) <;> first | contradiction | (try simp only [↓jr, jp, jd, jz, zA, zB, zC, zD, zE, zF, zG, zH, zI, zJ, zK, zL, zM, zN, reduceIte])) | (refine ww.intro (fun _ => ?_) (fun _ => ?_) <;> first | contradiction | (try simp only [↓jr, jp, jd, jz, zA, zB, zC, zD, zE, zF, zG, zH, zI, zJ, zK, zL, zM, zN, reduceIte])) | (refine wc.intro (by first | omega | (unfold R64; omega) | trivial) ?_; (try simp only [↓jr, jp, jd, jz, zA, zB, zC, zD, zE, zF, zG, zH, zI, zJ, zK, zL, zM, zN, reduceIte])) | (refine wr.in (by unfold R64; omega) ?_; (try simp only [↓jr, jp, jd, jz, zA, zB, zC, zD, zE, zF, zG, zH, zI, zJ, zK, zL, zM, zN, reduceIte])))
        · refine nxt rfl (by unfold letB; simp [*]; omega) ?_
          ((try simp only [↓jr, jp, jd, jz, zA, zB, zC, zD, zE, zF, zG, zH, zI, zJ, zK, zL, zM, zN, reduceIte, DL]) <;> (repeat' (first | exact trivial | refine And.intro ?_ ?_ | exact SubB.v | exact SubB.any | ((first | refine SubB.ptr ?_ | refine SubB.arr ?_ | refine SubB.mp ?_) <;> first | assumption | (unfold pid; omega)) | ((first | refine SubB.pure ?_ | refine SubBs.pure ?_) <;> (simp only [AV.pure, AV.pures, pures_append, jpu, Bool.and_self, Bool.and_true, Bool.true_and]; done)) | refine SubB.fn ?_ ?_ | refine SubB.sl ?_ ?_ | refine SubB.agg ?_ | refine SubB.tup ?_ | rfl)))
        · (try simp only [↓jr, jp, jd, jz, zA, zB, zC, zD, zE, zF, zG, zH, zI, zJ, zK, zL, zM, zN, reduceIte, hb])
          repeat' (first | (refine wq.intro (fun _ => ?_) (fun _ => ?_) <;> first | contradiction | (try simp only [↓jr, jp, jd, jz, zA, zB, zC, zD, zE, zF, zG, zH, zI, zJ, zK, zL, zM, zN, reduceIte])) | (refine ww.intro (fun _ => ?_) (fun _ => ?_) <;> first | contradiction | (try simp only [↓jr, jp, jd, jz, zA, zB, zC, zD, zE, zF, zG, zH, zI, zJ, zK, zL, zM, zN, reduceIte])) | (refine wc.intro (by first | omega | (unfold R64; omega) | trivial) ?_; (try simp only [↓jr, jp, jd, jz, zA, zB, zC, zD, zE, zF, zG, zH, zI, zJ, zK, zL, zM, zN, reduceIte])) | (refine wr.in (by unfold R64; omega) ?_; (try simp only [↓jr, jp, jd, jz, zA, zB, zC, zD, zE, zF, zG, zH, zI, zJ, zK, zL, zM, zN, reduceIte])))
          · refine nxt rfl (by unfold letB; simp [*]; omega) ?_
            ((try simp only [↓jr, jp, jd, jz, zA, zB, zC, zD, zE, zF, zG, zH, zI, zJ, zK, zL, zM, zN, reduceIte, DL]) <;> (repeat' (first | exact trivial | refine And.intro ?_ ?_ | exact SubB.v | exact SubB.any | ((first | refine SubB.ptr ?_ | refine SubB.arr ?_ | refine SubB.mp ?_) <;> first | assumption | (unfold pid; omega)) | ((first | refine SubB.pure ?_ | refine SubBs.pure ?_) <;> (simp only [AV.pure, AV.pures, pures_append, jpu, Bool.and_self, Bool.and_true, Bool.true_and]; done)) | refine SubB.fn ?_ ?_ | refine SubB.sl ?_ ?_ | refine SubB.agg ?_ | refine SubB.tup ?_ | rfl)))
          · exact fls (by unfold letB; simp [*])
    · (try simp only [↓jr, jp, jd, jz, zA, zB, zC, zD, zE, zF, zG, zH, zI, zJ, zK, zL, zM, zN, reduceIte])
      rw [List.drop_eq_nil_of_le (by omega)] at hI
      simp only [wordF] at hI
      refine JFIN.ret ((JDropH.back (by repeat' (first | exact TokExt.refl _ | refine TokExt.push ?_ _ | refine TokExt.setT ?_ (by first | exact Nat.le_refl _ | (simp only [pushTok_tnext, setTok_tnext, ext_tnext, set_tnext]; omega)) _))).of_ext) ?_
      have e : word (bs s) = !decide (s = ⟨#[]⟩) := by
        unfold word
        rw [← hI, Bool.true_and]
        congr 1
        rw [Bool.eq_iff_iff]
        simp only [List.isEmpty_iff, decide_eq_true_eq]
        constructor
        · intro h
          have : s.size = 0 := by rw [← bs_len, h]; rfl
          exact ByteArray.ext (Array.eq_empty_of_size_eq_zero this)
        · rintro rfl; rfl
      rw [e]; exact SubB.v
end Go.Proofs.YtkcbhebbjpiibaaDoor.Pg
