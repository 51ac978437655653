/-
  The parts of LitePairs: the numbers of the data and the rules, some axioms of a knowledge base.
-/
import Derived.Test.YtkcbhebbjpiibaaDoorNa
import Derived.Test.YtkcbhebbjpiibaaDoorLx
set_option linter.unusedVariables false
set_option linter.unusedSimpArgs false
set_option linter.defProp false
set_option maxRecDepth 20000
set_option maxHeartbeats 1000000
namespace Go.Proofs.YtkcbhebbjpiibaaDoor.Pg
open Go
open Nat renaming reduceEqDiff → zA, reduceAdd → zB, reduceMul → zC, reduceSub → zD, reduceLT → zE, reduceLeDiff → zF
open Int renaming reduceAdd → zG, reduceSub → zH, reduceMul → zI, reduceNeg → zJ, reduceToNat → zK, reduceEq → zL, reduceLT → zM, reduceLE → zN
variable {m : Int} {G : Nat → Option (List AV)}
theorem hasN_cons {c n : Nat} {l : List Nat} : hasN (c :: l) n = (decide (c = n) || hasN l n) := rfl
theorem TokExt.low {j j1 : JH} {objs : List AObj} (h : TokExt (ext j objs) j1) : ∃ j2, TokExt j j2 ∧ ext j1 [] = ext j2 objs ∧ j2.tnext = j1.tnext ∧ j2.tok = j1.tok := by
  have hn : j1.next = j.next + objs.length := h.next
  refine ⟨{ j1 with next := j.next }, ⟨rfl, fun o ho => ?_, h.tnext, fun t ht => h.tok t ht⟩, ?_, rfl, rfl⟩
  · show j1.get o = j.get o
    rw [h.get o (by rw [ext_next]; unfold pid; omega), ext_get_old ho]
  · unfold ext
    simp only [JH.mk.injEq, and_true, List.length_nil, Nat.add_zero]
    refine ⟨hn, funext fun o => ?_⟩
    by_cases h1 : o < j.next
    · rw [if_pos (by omega), if_pos h1]
    · rw [if_neg h1]
      by_cases h2 : o < j1.next
      · rw [if_pos h2, h.get o (by rw [ext_next]; unfold pid; omega)]
        unfold ext; simp only [if_neg h1]
      · rw [if_neg h2, List.getElem?_nil, List.getElem?_eq_none (by omega)]
def ir48 : IFn := ⟨17, [⟨4, none⟩], (.seq (.reg [⟨(some 4), none, none, (.mov (.k (.v (.bool false))))⟩]) (.seq (.seq (.reg [⟨(some 7), none, none, (.mov (.r 0))⟩, ⟨(some 8), none, (some (.r 7)), (.lenl (.r 7))⟩, ⟨(some 9), none, none, (.mov (.k (.v (.int .i64 0))))⟩]) (.block 0 (.loop (.seq (.reg [⟨(some 10), none, none, (.bin .lss (.r 9) (.r 8))⟩]) (.seq (.cond (.r 10) .skip (.exit 0)) (.seq (.block 1 (.seq (.reg [⟨(some 11), none, none, (.iasl 1 (.r 7) (.r 9))⟩, ⟨(some 12), none, (some (.r 11)), (.load none (.r 11))⟩, ⟨(some 6), none, none, (.mov (.r 12))⟩]) (.seq (.reg [⟨(some 13), none, none, (.mov (.r 6))⟩, ⟨(some 14), none, none, (.mov (.r 1))⟩, ⟨(some 15), none, none, (.bin .eql (.r 13) (.r 14))⟩]) (.cond (.r 15) (.seq (.reg [⟨(some 4), none, none, (.mov (.k (.v (.bool true))))⟩]) .ret) .skip)))) (.reg [⟨(some 16), none, none, (.bin .add (.r 9) (.k (.v (.int .i64 1))))⟩, ⟨(some 9), none, none, (.mov (.r 16))⟩]))))))) (.seq (.reg [⟨(some 4), none, none, (.mov (.k (.v (.bool false))))⟩]) .ret)))⟩
theorem c48 : cfunc Tryd.prog 48 = some ir48 := by kernel_rfl
theorem k48 : okIR (max 2 ir48.n) ir48.ir = true := by decide +kernel
theorem s_Has (l : List Nat) (tok : Tok) (n : Nat) (hl : l.length < 4611686018427387904) (j : JH) : JC Tryd.prog G 48 [.sl tok l.length (natv l), I64 n] j (RET (BOO (hasN l n)) j) := by
  refine JC.run hmix c48 (by exact k48) ?_
  (try simp only [↓jr, jp, jd, jz, zA, zB, zC, zD, zE, zF, zG, zH, zI, zJ, zK, zL, zM, zN, reduceIte, natv_len, natv_drop, natv_cons, ir48])
  refine JLOOP.of (σ := Nat) (fun s => s ≤ (l).length ∧ hasN (l.drop s) n = hasN l n) (fun s => (l).length - s) (fun s => [(9, I64 s), (8, I64 l.length), (7, .sl .none l.length (natv l)), (1, I64 n)]) (fun s => ext j []) 0 ⟨Nat.zero_le _, ?_⟩ ?_ (JDropH.refl _) ?_
  · rfl
  · ((try simp only [↓jr, jp, jd, jz, zA, zB, zC, zD, zE, zF, zG, zH, zI, zJ, zK, zL, zM, zN, reduceIte, natv_len, natv_drop, natv_cons, DL]) <;> (repeat' (first | exact trivial | refine And.intro ?_ ?_ | exact SubB.v | exact SubB.any | ((first | refine SubB.ptr ?_ | refine SubB.arr ?_ | refine SubB.mp ?_) <;> first | assumption | (unfold pid; omega)) | ((first | refine SubB.pure ?_ | refine SubBs.pure ?_) <;> (simp only [AV.pure, AV.pures, pures_append, jpu, rrow_pur, rb_pur, natv_pur, Bool.and_self, Bool.and_true, Bool.true_and]; done)) | refine SubB.fn ?_ ?_ | refine SubB.sl ?_ ?_ | refine SubB.agg ?_ | refine SubB.tup ?_ | rfl)))
  rintro k ⟨hk, hI⟩
  try simp only at hk hI
  (try simp only [↓jr, jp, jd, jz, zA, zB, zC, zD, zE, zF, zG, zH, zI, zJ, zK, zL, zM, zN, reduceIte, natv_len, natv_drop, natv_cons])
  refine wq.intro (fun h1 => ?_) (fun h1 => ?_)
  · have hlt : k < (l).length := by omega
    obtain ⟨c, r, hd⟩ : ∃ c_ l_, List.drop k (l) = c_ :: l_ := ⟨_, _, List.drop_eq_getElem_cons hlt⟩
    have hd1 : List.drop (k + 1) (l) = r := by rw [← List.drop_drop, hd]; rfl
    have hmem : c ∈ l := List.mem_of_mem_drop (hd ▸ List.mem_cons_self)
    (try simp only [↓jr, jp, jd, jz, zA, zB, zC, zD, zE, zF, zG, zH, zI, zJ, zK, zL, zM, zN, reduceIte, natv_len, natv_drop, natv_cons, hd])
    refine wc.intro (by omega) ?_
    (try simp only [↓jr, jp, jd, jz, zA, zB, zC, zD, zE, zF, zG, zH, zI, zJ, zK, zL, zM, zN, reduceIte, natv_len, natv_drop, natv_cons, hd])
    rw [hd] at hI
    rw [hasN_cons] at hI
    refine wq.intro (fun c1 => ?_) (fun c1 => ?_)
    · (try simp only [↓jr, jp, jd, jz, zA, zB, zC, zD, zE, zF, zG, zH, zI, zJ, zK, zL, zM, zN, reduceIte, natv_len, natv_drop, natv_cons])
      refine JFIN.ret ((JDropH.back (by repeat' (first | exact TokExt.refl _ | refine TokExt.push ?_ _ | refine TokExt.setT ?_ (by first | exact Nat.le_refl _ | (simp only [pushTok_tnext, setTok_tnext, ext_tnext, set_tnext]; omega)) _))).of_ext) ?_
      have e : c = n := by omega
      rw [← hI, decide_eq_true e]; exact SubB.v
    · (try simp only [↓jr, jp, jd, jz, zA, zB, zC, zD, zE, zF, zG, zH, zI, zJ, zK, zL, zM, zN, reduceIte, natv_len, natv_drop, natv_cons])
      have e : ¬ c = n := by omega
      rw [decide_eq_false e, Bool.false_or] at hI
      refine wc.intro (R64_add hlt (by omega)) ?_; (try simp only [↓jr, jp, jd, jz, zA, zB, zC, zD, zE, zF, zG, zH, zI, zJ, zK, zL, zM, zN, reduceIte, natv_len, natv_drop, natv_cons])
      refine JNEXT.of (k + 1) ⟨by omega, by rw [hd1]; exact hI⟩ (by omega) ?_ (JDropH.next0 (by repeat' (first | exact TokExt.refl _ | refine TokExt.push ?_ _ | refine TokExt.setT ?_ (by first | exact Nat.le_refl _ | (simp only [pushTok_tnext, setTok_tnext, ext_tnext, set_tnext]; omega)) _)) (by simp only [LSub, and_self, true_or, and_true]))
      ((try simp only [↓jr, jp, jd, jz, zA, zB, zC, zD, zE, zF, zG, zH, zI, zJ, zK, zL, zM, zN, reduceIte, natv_len, natv_drop, natv_cons, DL]) <;> (repeat' (first | exact trivial | refine And.intro ?_ ?_ | exact SubB.v | exact SubB.any | ((first | refine SubB.ptr ?_ | refine SubB.arr ?_ | refine SubB.mp ?_) <;> first | assumption | (unfold pid; omega)) | ((first | refine SubB.pure ?_ | refine SubBs.pure ?_) <;> (simp only [AV.pure, AV.pures, pures_append, jpu, rrow_pur, rb_pur, natv_pur, Bool.and_self, Bool.and_true, Bool.true_and]; done)) | refine SubB.fn ?_ ?_ | refine SubB.sl ?_ ?_ | refine SubB.agg ?_ | refine SubB.tup ?_ | rfl)))
  (try simp only [↓jr, jp, jd, jz, zA, zB, zC, zD, zE, zF, zG, zH, zI, zJ, zK, zL, zM, zN, reduceIte, natv_len, natv_drop, natv_cons])
  rw [List.drop_eq_nil_of_le (by omega)] at hI
  refine JFIN.ret ((JDropH.back (by repeat' (first | exact TokExt.refl _ | refine TokExt.push ?_ _ | refine TokExt.setT ?_ (by first | exact Nat.le_refl _ | (simp only [pushTok_tnext, setTok_tnext, ext_tnext, set_tnext]; omega)) _))).of_ext) ?_
  rw [← hI]; exact SubB.v
def upto (r k : Nat) : List Nat := (List.range k).map fun i => r + i
theorem upto_succ (r k : Nat) : upto r (k + 1) = upto r k ++ [r + k] := by unfold upto; rw [List.range_succ, List.map_append]; rfl
theorem upto_len (r k : Nat) : (upto r k).length = k := by simp [upto]
theorem upto_zero (k : Nat) : upto 0 k = List.range k := by unfold upto; simp
abbrev Bas.ir (b : Bas) : Nat := b.incls.length + b.roles.length
abbrev Bas.nd (b : Bas) : Nat := b.facts.length + b.links.length
def ir13 : IFn := ⟨21, [⟨2, none⟩], (.seq (.reg [⟨(some 1), none, none, (.box 30 (.r 0))⟩, ⟨(some 2), none, none, (.mov (.k (.sl .nil 0 [])))⟩]) (.seq (.reg [⟨(some 3), none, none, (.mov (.k (.sl .nil 0 [])))⟩]) (.seq (.seq (.reg [⟨(some 5), none, none, (.fadr 3 (.r 1))⟩, ⟨(some 6), none, (some (.r 5)), (.load none (.r 5))⟩, ⟨(some 7), none, (some (.r 6)), (.lenl (.r 6))⟩, ⟨(some 8), none, none, (.fadr 4 (.r 1))⟩, ⟨(some 9), none, (some (.r 8)), (.load none (.r 8))⟩, ⟨(some 10), none, (some (.r 9)), (.lenl (.r 9))⟩, ⟨(some 11), none, none, (.bin .add (.r 7) (.r 10))⟩, ⟨(some 12), none, none, (.mov (.k (.v (.int .i64 0))))⟩]) (.block 0 (.loop (.seq (.reg [⟨(some 13), none, none, (.bin .lss (.r 12) (.r 11))⟩]) (.seq (.cond (.r 13) .skip (.exit 0)) (.seq (.block 1 (.seq (.reg [⟨(some 14), none, none, (.mov (.r 12))⟩, ⟨(some 4), none, none, (.mov (.r 14))⟩]) (.reg [⟨(some 15), none, none, (.mov (.r 3))⟩, ⟨(some 16), none, none, (.mov (.r 4))⟩, ⟨(some 17), none, none, (.bsl 1 1 [.v (.int .i64 0)] [(0, (1, .r 16))])⟩, ⟨(some 18), none, none, (.app 1 8 (.r 15) (.r 17))⟩, ⟨(some 3), none, none, (.mov (.r 18))⟩]))) (.reg [⟨(some 19), none, none, (.bin .add (.r 12) (.k (.v (.int .i64 1))))⟩, ⟨(some 12), none, none, (.mov (.r 19))⟩]))))))) (.seq (.reg [⟨(some 20), none, none, (.mov (.r 3))⟩, ⟨(some 2), none, none, (.mov (.r 20))⟩]) .ret))))⟩
theorem c13 : cfunc Tryd.prog 13 = some ir13 := by kernel_rfl
theorem k13 : okIR (max 1 ir13.n) ir13.ir = true := by decide +kernel
theorem s_rules (b : Bas) (hb : b.ok) (hs : b.ir ≤ 1000000) (j : JH) : JC Tryd.prog G 13 [.agg b.enc] j (fun o j' => ∃ tok j1, CanApp j j1 tok 1 b.ir ∧ TokExt j j1 ∧ o = .ret (.sl tok b.ir (natv (List.range b.ir))) ∧ j' = ext j1 []) := by
  have q1 : b.incls.length ≤ 1000000 := by unfold Bas.ir at hs; omega
  have q2 : b.roles.length ≤ 1000000 := by unfold Bas.ir at hs; omega
  refine JC.run hmix c13 (by exact k13) ?_
  (try simp only [↓jr, jp, jd, jz, zA, zB, zC, zD, zE, zF, zG, zH, zI, zJ, zK, zL, zM, zN, reduceIte, ir13])
  refine wc.intro (by unfold R64; omega) ?_
  (try simp only [↓jr, jp, jd, jz, zA, zB, zC, zD, zE, zF, zG, zH, zI, zJ, zK, zL, zM, zN, reduceIte])
  have e0 : (b.incls.length : Int) + (b.roles.length : Int) = (b.ir : Int) := by unfold Bas.ir; omega
  rw [e0]
  refine JLOOP.of (σ := Nat × Tok × JH) (fun s => s.1 ≤ b.ir ∧ TokExt j s.2.2 ∧ CanApp j s.2.2 s.2.1 1 s.1) (fun s => b.ir - s.1)
    (fun s => [(12, I64 s.1), (11, I64 b.ir), (3, .sl s.2.1 s.1 (natv (upto 0 s.1)))]) (fun s => ext s.2.2 [.cells 30 b.enc]) (0, .nil, j) ⟨Nat.zero_le _, TokExt.refl _, CanApp.nil⟩ ?_ (JDropH.refl _) ?_
  · exact ⟨SubB.v, SubB.v, SubB.pure rfl, True.intro⟩
  rintro ⟨k, tk, jx⟩ ⟨hk, ht, hc⟩
  simp only at hk ht hc
  (try simp only [↓jr, jp, jd, jz, zA, zB, zC, zD, zE, zF, zG, zH, zI, zJ, zK, zL, zM, zN, reduceIte, ht.next])
  refine wq.intro (fun h1 => ?_) (fun h1 => ?_)
  · (try simp only [↓jr, jp, jd, jz, zA, zB, zC, zD, zE, zF, zG, zH, zI, zJ, zK, zL, zM, zN, reduceIte, ht.next])
    refine JAPP.can' hc.push (ht.push 1) (by rw [natv_len, Nat.mul_one, upto_len]) rfl rfl (by omega) (by omega) ?_
    intro tok1 j1 hcan ht3 hle
    have hle' : jx.tnext ≤ j1.tnext := Nat.le_trans (Nat.le_succ _) hle
    (try simp only [↓jr, jp, jd, jz, zA, zB, zC, zD, zE, zF, zG, zH, zI, zJ, zK, zL, zM, zN, reduceIte, ht3.next])
    refine wc.intro (by unfold R64; omega) ?_
    (try simp only [↓jr, jp, jd, jz, zA, zB, zC, zD, zE, zF, zG, zH, zI, zJ, zK, zL, zM, zN, reduceIte])
    refine JNEXT.of (k + 1, tok1, j1) ⟨by simp only; omega, ht3, hcan⟩ (by simp only; omega) ?_ (JDropH.nextT ht ht3 (TokExt.refl _) hle' (by simp only [LSub, and_self, true_or, and_true]))
    have e1 : natv (upto 0 k) ++ [I64 k] = natv (upto 0 (k + 1)) := by rw [upto_succ, natv_append, Nat.zero_add]; rfl
    refine ⟨SubB.v, SubB.v, ?_, True.intro⟩
    rw [← e1]
    exact SubB.can hcan (by rw [pures_append, natv_pur]; rfl)
  · (try simp only [↓jr, jp, jd, jz, zA, zB, zC, zD, zE, zF, zG, zH, zI, zJ, zK, zL, zM, zN, reduceIte, ht.next])
    have e : k = b.ir := by omega
    subst e
    refine JFIN.of (J := ext jx []) (Y := .sl tk b.ir (natv (upto 0 b.ir))) (JDropH.nextT (TokExt.refl _) ht (TokExt.refl _) ht.tnext True.intro) (SubB.can hc (natv_pur _)) ?_
    exact ⟨tk, jx, hc, ht, by rw [upto_zero], rfl⟩
def ir10 : IFn := ⟨23, [⟨2, none⟩], (.seq (.reg [⟨(some 1), none, none, (.box 30 (.r 0))⟩, ⟨(some 2), none, none, (.mov (.k (.sl .nil 0 [])))⟩]) (.seq (.reg [⟨(some 3), none, none, (.mov (.k (.sl .nil 0 [])))⟩]) (.seq (.seq (.reg [⟨(some 5), none, none, (.fadr 3 (.r 1))⟩, ⟨(some 6), none, (some (.r 5)), (.load none (.r 5))⟩, ⟨(some 7), none, (some (.r 6)), (.lenl (.r 6))⟩, ⟨(some 8), none, none, (.fadr 4 (.r 1))⟩, ⟨(some 9), none, (some (.r 8)), (.load none (.r 8))⟩, ⟨(some 10), none, (some (.r 9)), (.lenl (.r 9))⟩, ⟨(some 11), none, none, (.bin .add (.r 7) (.r 10))⟩, ⟨(some 4), none, none, (.mov (.r 11))⟩]) (.block 0 (.loop (.seq (.seq (.reg [⟨(some 12), none, none, (.mov (.r 4))⟩, ⟨(some 13), none, (some (.r 1)), (.load (some 7) (.r 1))⟩, ⟨(some 14), none, (some (.r 13)), (.call 42 [.r 13])⟩, ⟨(some 15), none, none, (.bin .lss (.r 12) (.r 14))⟩]) (.cond (.r 15) .skip (.exit 0))) (.seq (.block 1 (.reg [⟨(some 18), none, none, (.mov (.r 3))⟩, ⟨(some 19), none, none, (.mov (.r 4))⟩, ⟨(some 20), none, none, (.bsl 1 1 [.v (.int .i64 0)] [(0, (1, .r 19))])⟩, ⟨(some 21), none, none, (.app 1 8 (.r 18) (.r 20))⟩, ⟨(some 3), none, none, (.mov (.r 21))⟩])) (.reg [⟨(some 16), none, none, (.mov (.r 4))⟩, ⟨(some 17), none, none, (.bin .add (.r 16) (.k (.v (.int .i64 1))))⟩, ⟨(some 4), none, none, (.mov (.r 17))⟩])))))) (.seq (.reg [⟨(some 22), none, none, (.mov (.r 3))⟩, ⟨(some 2), none, none, (.mov (.r 22))⟩]) .ret))))⟩
theorem c10 : cfunc Tryd.prog 10 = some ir10 := by kernel_rfl
theorem k10 : okIR (max 1 ir10.n) ir10.ir = true := by decide +kernel
theorem s_data (b : Bas) (hb : b.ok) (hs : b.ir ≤ 1000000) (hs2 : b.nd ≤ 1000000) (j : JH) : JC Tryd.prog G 10 [.agg b.enc] j (RET (.sl .none b.nd (natv (upto b.ir b.nd))) j) := by
  have q1 : b.incls.length ≤ 1000000 := by unfold Bas.ir at hs; omega
  have q2 : b.roles.length ≤ 1000000 := by unfold Bas.ir at hs; omega
  have q3 : b.count = b.ir + b.nd := by unfold Bas.ir Bas.nd Bas.count; omega
  refine JC.run hmix c10 (by exact k10) ?_
  (try simp only [↓jr, jp, jd, jz, zA, zB, zC, zD, zE, zF, zG, zH, zI, zJ, zK, zL, zM, zN, reduceIte, ir10])
  refine wc.intro (by unfold R64; omega) ?_
  (try simp only [↓jr, jp, jd, jz, zA, zB, zC, zD, zE, zF, zG, zH, zI, zJ, zK, zL, zM, zN, reduceIte])
  have e0 : (b.incls.length : Int) + (b.roles.length : Int) = (b.ir : Int) := by unfold Bas.ir; omega
  rw [e0]
  refine JLOOP.of (σ := Nat × Tok × JH) (fun s => s.1 ≤ b.nd ∧ TokExt j s.2.2 ∧ CanApp j s.2.2 s.2.1 1 s.1) (fun s => b.nd - s.1)
    (fun s => [(4, I64 ((b.ir + s.1 : Nat) : Int)), (1, .ptr (pid j.next 0) 0), (3, .sl s.2.1 s.1 (natv (upto b.ir s.1)))]) (fun s => ext s.2.2 [.cells 30 b.enc]) (0, .nil, j) ⟨Nat.zero_le _, TokExt.refl _, CanApp.nil⟩ ?_ (JDropH.refl _) ?_
  · exact ⟨SubB.v, SubB.ptr (by rw [ext_next]; unfold pid; simp), SubB.pure rfl, True.intro⟩
  rintro ⟨k, tk, jx⟩ ⟨hk, ht, hc⟩
  simp only at hk ht hc
  (try simp only [↓jr, jp, jd, jz, zA, zB, zC, zD, zE, zF, zG, zH, zI, zJ, zK, zL, zM, zN, reduceIte, ht.next])
  refine JCs.ret (s_Axioms b hb _) ?_
  (try simp only [↓jr, jp, jd, jz, zA, zB, zC, zD, zE, zF, zG, zH, zI, zJ, zK, zL, zM, zN, reduceIte, ht.next])
  refine wq.intro (fun h1 => ?_) (fun h1 => ?_)
  · (try simp only [↓jr, jp, jd, jz, zA, zB, zC, zD, zE, zF, zG, zH, zI, zJ, zK, zL, zM, zN, reduceIte, ht.next])
    refine JAPP.can' hc.push (ht.push 1) (by rw [natv_len, Nat.mul_one, upto_len]) rfl rfl (by omega) (by omega) ?_
    intro tok1 j1 hcan ht3 hle
    have hle' : jx.tnext ≤ j1.tnext := Nat.le_trans (Nat.le_succ _) hle
    (try simp only [↓jr, jp, jd, jz, zA, zB, zC, zD, zE, zF, zG, zH, zI, zJ, zK, zL, zM, zN, reduceIte, ht3.next])
    refine wc.intro (by unfold R64; omega) ?_
    (try simp only [↓jr, jp, jd, jz, zA, zB, zC, zD, zE, zF, zG, zH, zI, zJ, zK, zL, zM, zN, reduceIte])
    refine JNEXT.of (k + 1, tok1, j1) ⟨by simp only; omega, ht3, hcan⟩ (by simp only; omega) ?_ (JDropH.nextT ht ht3 (TokExt.refl _) hle' (by simp only [LSub, and_self, true_or, and_true]))
    have e1 : natv (upto b.ir k) ++ [I64 ((b.ir + k : Nat) : Int)] = natv (upto b.ir (k + 1)) := by rw [upto_succ, natv_append]; rfl
    refine ⟨?_, SubB.ptr (by rw [ext_next, ht3.next]; unfold pid; simp), ?_, True.intro⟩
    · show SubB _ _ (I64 (((b.ir + k : Nat) : Int) + 1)) _
      rw [show (((b.ir + k : Nat) : Int) + 1) = ((b.ir + (k + 1) : Nat) : Int) from by omega]
      exact SubB.v
    · rw [← e1]
      exact SubB.can hcan (by rw [pures_append, natv_pur]; rfl)
  · (try simp only [↓jr, jp, jd, jz, zA, zB, zC, zD, zE, zF, zG, zH, zI, zJ, zK, zL, zM, zN, reduceIte, ht.next])
    have e : k = b.nd := by omega
    subst e
    refine JFIN.ret ((JDropH.back ht).of_ext) ?_
    exact SubB.sl rfl (SubBs.pure (natv_pur _))
def oB (n : Nms) (a b c d : AV) : List AV := n.enc ++ [a, b, c, d]
section
variable {n : Nms} {a b c d x a1 a2 a3 a4 a5 a6 a7 : AV}
theorem oB_p0 : splice [a1, a2, a3, a4, a5, a6, a7] 0 n.enc = oB n a4 a5 a6 a7 := rfl
theorem oB_in : n.enc ++ [a, b, c, d] = oB n a b c d := rfl
theorem oB_p1 : splice [a1, a2, a3, a4, a5, a6, a7] 0 (oB n a b c d) = oB n a b c d := rfl
theorem oB_l3 : icut none (oB n a b c d) 3 = some a := rfl
theorem oB_l4 : icut none (oB n a b c d) 4 = some b := rfl
theorem oB_l5 : icut none (oB n a b c d) 5 = some c := rfl
theorem oB_l6 : icut none (oB n a b c d) 6 = some d := rfl
theorem oB_s3 : splice (oB n a b c d) 3 [x] = oB n x b c d := rfl
theorem oB_s4 : splice (oB n a b c d) 4 [x] = oB n a x c d := rfl
theorem oB_s5 : splice (oB n a b c d) 5 [x] = oB n a b x d := rfl
theorem oB_s6 : splice (oB n a b c d) 6 [x] = oB n a b c x := rfl
theorem oB_len : (oB n a b c d).length = 7 := rfl
theorem oB_row : icut (some 7) (oB n a b c d) 0 = some (.agg (oB n a b c d)) := rfl
end
theorem oB_one {n : Nms} {t1 t2 t3 t4 : Tok} {n1 n2 n3 n4 : Nat} {c1 c2 c3 c4 : List AV} : (oB n (.sl t1 n1 c1) (.sl t2 n2 c2) (.sl t3 n3 c3) (.sl t4 n4 c4)).all AV.one = true := rfl
theorem keepF_le {α : Type} {f : Nat → Bool} {l : List α} {k : Nat} : (keepF f (l.take k)).length ≤ l.length := Nat.le_trans (keepF_sub _ _).length_le (by rw [List.length_take]; omega)
abbrev SLN (α : Type) (e : α → List AV) (t : Tok) (l : List α) : AV := .sl t l.length (encs e l)
def ir14 : IFn := ⟨95, [⟨4, (some (some 7))⟩], (.seq (.reg [⟨(some 2), none, none, (.box 30 (.r 0))⟩, ⟨(some 4), none, none, (.alloc 30 [.sl .nil 0 [], .sl .nil 0 [], .sl .nil 0 [], .sl .nil 0 [], .sl .nil 0 [], .sl .nil 0 [], .sl .nil 0 []])⟩]) (.seq (.reg [⟨(some 15), none, none, (.fadr 0 (.r 2))⟩, ⟨(some 16), none, (some (.r 15)), (.load (some 3) (.r 15))⟩, ⟨(some 17), none, none, (.build [.sl .nil 0 [], .sl .nil 0 [], .sl .nil 0 [], .sl .nil 0 [], .sl .nil 0 [], .sl .nil 0 [], .sl .nil 0 []] [(0, (3, .r 16))])⟩, ⟨(some 5), none, none, (.alloc 30 [.sl .nil 0 [], .sl .nil 0 [], .sl .nil 0 [], .sl .nil 0 [], .sl .nil 0 [], .sl .nil 0 [], .sl .nil 0 []])⟩, ⟨none, none, none, (.store 7 (.r 5) (.r 17))⟩]) (.seq (.reg [⟨(some 6), none, none, (.mov (.k (.v (.int .i64 0))))⟩]) (.seq (.seq (.reg [⟨(some 18), none, none, (.fadr 3 (.r 2))⟩, ⟨(some 19), none, (some (.r 18)), (.load none (.r 18))⟩, ⟨(some 20), none, (some (.r 19)), (.lenl (.r 19))⟩, ⟨(some 21), none, none, (.mov (.k (.v (.int .i64 0))))⟩]) (.block 0 (.loop (.seq (.reg [⟨(some 22), none, none, (.bin .lss (.r 21) (.r 20))⟩]) (.seq (.cond (.r 22) .skip (.exit 0)) (.seq (.block 1 (.seq (.reg [⟨(some 23), none, none, (.iasl 6 (.r 19) (.r 21))⟩, ⟨(some 24), none, (some (.r 23)), (.load (some 6) (.r 23))⟩, ⟨(some 8), none, none, (.alloc 89 [.v (.int .i64 0), .v (.int .i64 0), .sl .nil 0 [], .v (.int .i64 0), .v (.int .i64 0), .sl .nil 0 []])⟩, ⟨none, none, none, (.store 6 (.r 8) (.r 24))⟩]) (.seq (.seq (.reg [⟨(some 25), none, none, (.mov (.r 1))⟩, ⟨(some 26), none, none, (.mov (.r 6))⟩, ⟨(some 27), none, none, (.call 48 [.r 25, .r 26])⟩]) (.cond (.r 27) (.reg [⟨(some 28), none, none, (.fadr 3 (.r 5))⟩, ⟨(some 29), none, (some (.r 28)), (.load none (.r 28))⟩, ⟨(some 30), none, (some (.r 8)), (.load (some 6) (.r 8))⟩, ⟨(some 31), none, none, (.bsl 1 6 [.v (.int .i64 0), .v (.int .i64 0), .sl .nil 0 [], .v (.int .i64 0), .v (.int .i64 0), .sl .nil 0 []] [(0, (6, .r 30))])⟩, ⟨(some 32), none, none, (.app 6 80 (.r 29) (.r 31))⟩, ⟨(some 33), none, none, (.fadr 3 (.r 5))⟩, ⟨none, none, none, (.store 1 (.r 33) (.r 32))⟩]) .skip)) (.reg [⟨(some 34), none, none, (.mov (.r 6))⟩, ⟨(some 35), none, none, (.bin .add (.r 34) (.k (.v (.int .i64 1))))⟩, ⟨(some 6), none, none, (.mov (.r 35))⟩])))) (.reg [⟨(some 36), none, none, (.bin .add (.r 21) (.k (.v (.int .i64 1))))⟩, ⟨(some 21), none, none, (.mov (.r 36))⟩]))))))) (.seq (.seq (.reg [⟨(some 37), none, none, (.fadr 4 (.r 2))⟩, ⟨(some 38), none, (some (.r 37)), (.load none (.r 37))⟩, ⟨(some 39), none, (some (.r 38)), (.lenl (.r 38))⟩, ⟨(some 40), none, none, (.mov (.k (.v (.int .i64 0))))⟩]) (.block 2 (.loop (.seq (.reg [⟨(some 41), none, none, (.bin .lss (.r 40) (.r 39))⟩]) (.seq (.cond (.r 41) .skip (.exit 2)) (.seq (.block 3 (.seq (.reg [⟨(some 42), none, none, (.iasl 2 (.r 38) (.r 40))⟩, ⟨(some 43), none, (some (.r 42)), (.load (some 2) (.r 42))⟩, ⟨(some 10), none, none, (.alloc 82 [.v (.int .i64 0), .v (.int .i64 0)])⟩, ⟨none, none, none, (.store 2 (.r 10) (.r 43))⟩]) (.seq (.seq (.reg [⟨(some 44), none, none, (.mov (.r 1))⟩, ⟨(some 45), none, none, (.mov (.r 6))⟩, ⟨(some 46), none, none, (.call 48 [.r 44, .r 45])⟩]) (.cond (.r 46) (.reg [⟨(some 47), none, none, (.fadr 4 (.r 5))⟩, ⟨(some 48), none, (some (.r 47)), (.load none (.r 47))⟩, ⟨(some 49), none, (some (.r 10)), (.load (some 2) (.r 10))⟩, ⟨(some 50), none, none, (.bsl 1 2 [.v (.int .i64 0), .v (.int .i64 0)] [(0, (2, .r 49))])⟩, ⟨(some 51), none, none, (.app 2 16 (.r 48) (.r 50))⟩, ⟨(some 52), none, none, (.fadr 4 (.r 5))⟩, ⟨none, none, none, (.store 1 (.r 52) (.r 51))⟩]) .skip)) (.reg [⟨(some 53), none, none, (.mov (.r 6))⟩, ⟨(some 54), none, none, (.bin .add (.r 53) (.k (.v (.int .i64 1))))⟩, ⟨(some 6), none, none, (.mov (.r 54))⟩])))) (.reg [⟨(some 55), none, none, (.bin .add (.r 40) (.k (.v (.int .i64 1))))⟩, ⟨(some 40), none, none, (.mov (.r 55))⟩]))))))) (.seq (.seq (.reg [⟨(some 56), none, none, (.fadr 5 (.r 2))⟩, ⟨(some 57), none, (some (.r 56)), (.load none (.r 56))⟩, ⟨(some 58), none, (some (.r 57)), (.lenl (.r 57))⟩, ⟨(some 59), none, none, (.mov (.k (.v (.int .i64 0))))⟩]) (.block 4 (.loop (.seq (.reg [⟨(some 60), none, none, (.bin .lss (.r 59) (.r 58))⟩]) (.seq (.cond (.r 60) .skip (.exit 4)) (.seq (.block 5 (.seq (.reg [⟨(some 61), none, none, (.iasl 4 (.r 57) (.r 59))⟩, ⟨(some 62), none, (some (.r 61)), (.load (some 4) (.r 61))⟩, ⟨(some 12), none, none, (.alloc 92 [.v (.int .i64 0), .v (.int .i64 0), .v (.int .i64 0), .sl .nil 0 []])⟩, ⟨none, none, none, (.store 4 (.r 12) (.r 62))⟩]) (.seq (.seq (.reg [⟨(some 63), none, none, (.mov (.r 1))⟩, ⟨(some 64), none, none, (.mov (.r 6))⟩, ⟨(some 65), none, none, (.call 48 [.r 63, .r 64])⟩]) (.cond (.r 65) (.reg [⟨(some 66), none, none, (.fadr 5 (.r 5))⟩, ⟨(some 67), none, (some (.r 66)), (.load none (.r 66))⟩, ⟨(some 68), none, (some (.r 12)), (.load (some 4) (.r 12))⟩, ⟨(some 69), none, none, (.bsl 1 4 [.v (.int .i64 0), .v (.int .i64 0), .v (.int .i64 0), .sl .nil 0 []] [(0, (4, .r 68))])⟩, ⟨(some 70), none, none, (.app 4 48 (.r 67) (.r 69))⟩, ⟨(some 71), none, none, (.fadr 5 (.r 5))⟩, ⟨none, none, none, (.store 1 (.r 71) (.r 70))⟩]) .skip)) (.reg [⟨(some 72), none, none, (.mov (.r 6))⟩, ⟨(some 73), none, none, (.bin .add (.r 72) (.k (.v (.int .i64 1))))⟩, ⟨(some 6), none, none, (.mov (.r 73))⟩])))) (.reg [⟨(some 74), none, none, (.bin .add (.r 59) (.k (.v (.int .i64 1))))⟩, ⟨(some 59), none, none, (.mov (.r 74))⟩]))))))) (.seq (.seq (.reg [⟨(some 75), none, none, (.fadr 6 (.r 2))⟩, ⟨(some 76), none, (some (.r 75)), (.load none (.r 75))⟩, ⟨(some 77), none, (some (.r 76)), (.lenl (.r 76))⟩, ⟨(some 78), none, none, (.mov (.k (.v (.int .i64 0))))⟩]) (.block 6 (.loop (.seq (.reg [⟨(some 79), none, none, (.bin .lss (.r 78) (.r 77))⟩]) (.seq (.cond (.r 79) .skip (.exit 6)) (.seq (.block 7 (.seq (.reg [⟨(some 80), none, none, (.iasl 3 (.r 76) (.r 78))⟩, ⟨(some 81), none, (some (.r 80)), (.load (some 3) (.r 80))⟩, ⟨(some 14), none, none, (.alloc 94 [.v (.int .i64 0), .v (.int .i64 0), .v (.int .i64 0)])⟩, ⟨none, none, none, (.store 3 (.r 14) (.r 81))⟩]) (.seq (.seq (.reg [⟨(some 82), none, none, (.mov (.r 1))⟩, ⟨(some 83), none, none, (.mov (.r 6))⟩, ⟨(some 84), none, none, (.call 48 [.r 82, .r 83])⟩]) (.cond (.r 84) (.reg [⟨(some 85), none, none, (.fadr 6 (.r 5))⟩, ⟨(some 86), none, (some (.r 85)), (.load none (.r 85))⟩, ⟨(some 87), none, (some (.r 14)), (.load (some 3) (.r 14))⟩, ⟨(some 88), none, none, (.bsl 1 3 [.v (.int .i64 0), .v (.int .i64 0), .v (.int .i64 0)] [(0, (3, .r 87))])⟩, ⟨(some 89), none, none, (.app 3 24 (.r 86) (.r 88))⟩, ⟨(some 90), none, none, (.fadr 6 (.r 5))⟩, ⟨none, none, none, (.store 1 (.r 90) (.r 89))⟩]) .skip)) (.reg [⟨(some 91), none, none, (.mov (.r 6))⟩, ⟨(some 92), none, none, (.bin .add (.r 91) (.k (.v (.int .i64 1))))⟩, ⟨(some 6), none, none, (.mov (.r 92))⟩])))) (.reg [⟨(some 93), none, none, (.bin .add (.r 78) (.k (.v (.int .i64 1))))⟩, ⟨(some 78), none, none, (.mov (.r 93))⟩]))))))) (.seq (.reg [⟨(some 94), none, (some (.r 5)), (.load (some 7) (.r 5))⟩, ⟨none, none, none, (.store 7 (.r 4) (.r 94))⟩]) .ret))))))))⟩
theorem c14 : cfunc Tryd.prog 14 = some ir14 := by kernel_rfl
theorem k14 : okIR (max 2 ir14.n) ir14.ir = true := by decide +kernel
theorem s_Only (b : Bas) (hb : b.ok) (l : List Nat) (tok : Tok) (hl : l.length < 4611686018427387904) (h1 : b.incls.length ≤ 1000000) (h2 : b.roles.length ≤ 1000000) (h3 : b.facts.length ≤ 1000000) (h4 : b.links.length ≤ 1000000) (j : JH) : JC Tryd.prog G 14 [.agg b.enc, .sl tok l.length (natv l)] j (RET (.agg (onl b l).enc) j) := by
  refine JC.run hmix c14 (by exact k14) ?_
  (try simp only [↓jr, jp, jd, jz, zA, zB, zC, zD, zE, zF, zG, zH, zI, zJ, zK, zL, zM, zN, reduceIte, oB_in, oB_p0, oB_p1, oB_l3, oB_l4, oB_l5, oB_l6, oB_s3, oB_s4, oB_s5, oB_s6, oB_len, oB_row, oB_one, ir14])
  refine JLOOP.of (σ := Nat × Tok × JH) (fun s => s.1 ≤ b.incls.length ∧ TokExt j s.2.2 ∧ CanApp j s.2.2 s.2.1 6 (keepF (hasN l) (b.incls.take s.1)).length) (fun s => b.incls.length - s.1)
    (fun s => [(21, I64 s.1), (20, I64 b.incls.length), (19, .sl .none b.incls.length (encs Inc.enc b.incls)), (1, .sl .none l.length (natv l)), (6, I64 ((s.1 : Nat) : Int)), (2, .ptr (pid j.next 0) 0), (4, .ptr (pid j.next 1) 0), (5, .ptr (pid j.next 2) 0)])
    (fun s => ext s.2.2 [.cells 30 b.enc, .cells 30 [.sl .nil 0 [], .sl .nil 0 [], .sl .nil 0 [], .sl .nil 0 [], .sl .nil 0 [], .sl .nil 0 [], .sl .nil 0 []], .cells 30 (oB b.nms (SLN Inc Inc.enc s.2.1 (keepF (hasN l) (b.incls.take s.1))) (.sl .nil 0 []) (.sl .nil 0 []) (.sl .nil 0 []))]) (0, .nil, j) ⟨Nat.zero_le _, TokExt.refl _, CanApp.nil⟩ ?_ (JDropH.refl _) ?_
  · skip
    (try simp only [↓jr, jp, jd, jz, zA, zB, zC, zD, zE, zF, zG, zH, zI, zJ, zK, zL, zM, zN, reduceIte, oB_in, oB_p0, oB_p1, oB_l3, oB_l4, oB_l5, oB_l6, oB_s3, oB_s4, oB_s5, oB_s6, oB_len, oB_row, oB_one, DL])
    exact ⟨SubB.v, SubB.v, SubB.sl rfl (SubBs.pure (encs_pur Inc.pur _)), SubB.sl rfl (SubBs.pure (natv_pur _)), SubB.v, SubB.ptr (by unfold pid; omega), SubB.ptr (by unfold pid; omega), SubB.ptr (by unfold pid; omega)⟩
  rintro ⟨k, tk, jx⟩ ⟨hk, ht, hc⟩
  simp only at hk ht hc
  (try simp only [↓jr, jp, jd, jz, zA, zB, zC, zD, zE, zF, zG, zH, zI, zJ, zK, zL, zM, zN, reduceIte, oB_in, oB_p0, oB_p1, oB_l3, oB_l4, oB_l5, oB_l6, oB_s3, oB_s4, oB_s5, oB_s6, oB_len, oB_row, oB_one, ht.next])
  refine wq.intro (fun g1 => ?_) (fun g1 => ?_)
  · have hlt : k < (b.incls).length := by omega
    obtain ⟨x, r, hd⟩ : ∃ c_ l_, List.drop k (b.incls) = c_ :: l_ := ⟨_, _, List.drop_eq_getElem_cons hlt⟩
    have hd1 : List.drop (k + 1) (b.incls) = r := by rw [← List.drop_drop, hd]; rfl
    have hmem : x ∈ b.incls := List.mem_of_mem_drop (hd ▸ List.mem_cons_self)
    have hkt := fun f => keepF_take f b.incls k hd
    have hkl := @keepF_le _ (hasN l) b.incls k
    (try simp only [↓jr, jp, jd, jz, zA, zB, zC, zD, zE, zF, zG, zH, zI, zJ, zK, zL, zM, zN, reduceIte, oB_in, oB_p0, oB_p1, oB_l3, oB_l4, oB_l5, oB_l6, oB_s3, oB_s4, oB_s5, oB_s6, oB_len, oB_row, oB_one, ht.next,hd])
    refine wc.intro (by omega) ?_
    (try simp only [↓jr, jp, jd, jz, zA, zB, zC, zD, zE, zF, zG, zH, zI, zJ, zK, zL, zM, zN, reduceIte, oB_in, oB_p0, oB_p1, oB_l3, oB_l4, oB_l5, oB_l6, oB_s3, oB_s4, oB_s5, oB_s6, oB_len, oB_row, oB_one, ht.next,hd,Int.natCast_add])
    refine JCs.ret (s_Has l .none _ hl _) ?_
    (try simp only [↓jr, jp, jd, jz, zA, zB, zC, zD, zE, zF, zG, zH, zI, zJ, zK, zL, zM, zN, reduceIte, oB_in, oB_p0, oB_p1, oB_l3, oB_l4, oB_l5, oB_l6, oB_s3, oB_s4, oB_s5, oB_s6, oB_len, oB_row, oB_one, ht.next])
    refine ww.intro (fun g2 => ?_) (fun g2 => ?_)
    · (try simp only [↓jr, jp, jd, jz, zA, zB, zC, zD, zE, zF, zG, zH, zI, zJ, zK, zL, zM, zN, reduceIte, oB_in, oB_p0, oB_p1, oB_l3, oB_l4, oB_l5, oB_l6, oB_s3, oB_s4, oB_s5, oB_s6, oB_len, oB_row, oB_one, ht.next])
      refine JAPP.can' hc.push (ht.push 1) (by rw [encs_length Inc.len]) (by rw [Inc.len]) d_inc9 (by omega) (by omega) ?_
      intro tok1 j1 hcan ht3 hle
      have hle' : jx.tnext ≤ j1.tnext := Nat.le_trans (Nat.le_succ _) hle
      (try simp only [↓jr, jp, jd, jz, zA, zB, zC, zD, zE, zF, zG, zH, zI, zJ, zK, zL, zM, zN, reduceIte, oB_in, oB_p0, oB_p1, oB_l3, oB_l4, oB_l5, oB_l6, oB_s3, oB_s4, oB_s5, oB_s6, oB_len, oB_row, oB_one, ht3.next])
      refine wc.intro (by unfold R64; omega) ?_
      (try simp only [↓jr, jp, jd, jz, zA, zB, zC, zD, zE, zF, zG, zH, zI, zJ, zK, zL, zM, zN, reduceIte, oB_in, oB_p0, oB_p1, oB_l3, oB_l4, oB_l5, oB_l6, oB_s3, oB_s4, oB_s5, oB_s6, oB_len, oB_row, oB_one, ht3.next])
      refine wc.intro (by unfold R64; omega) ?_
      (try simp only [↓jr, jp, jd, jz, zA, zB, zC, zD, zE, zF, zG, zH, zI, zJ, zK, zL, zM, zN, reduceIte, oB_in, oB_p0, oB_p1, oB_l3, oB_l4, oB_l5, oB_l6, oB_s3, oB_s4, oB_s5, oB_s6, oB_len, oB_row, oB_one, ht3.next])
      have e1 : keepF (hasN l) (b.incls.take (k + 1)) = keepF (hasN l) (b.incls.take k) ++ [x] := by rw [hkt, if_pos (by exact g2)]
      have e2 : (keepF (hasN l) (b.incls.take (k + 1))).length = (keepF (hasN l) (b.incls.take k)).length + 1 := by rw [e1]; simp
      have e3 : encs Inc.enc (keepF (hasN l) (b.incls.take k)) ++ x.enc = encs Inc.enc (keepF (hasN l) (b.incls.take (k + 1))) := by rw [e1, encs_append]; simp [encs]
      refine JNEXT.of (k + 1, tok1, j1) ⟨by simp only; omega, ht3, by simp only [e2]; exact hcan⟩ (by simp only; omega) ?_ (JDropH.nextT ht ht3 (TokExt.refl _) hle' ⟨.inl ⟨rfl, rfl⟩, .inl ⟨rfl, rfl⟩, .inr ⟨rfl, ?_⟩, True.intro⟩)
      · (try simp only [↓jr, jp, jd, jz, zA, zB, zC, zD, zE, zF, zG, zH, zI, zJ, zK, zL, zM, zN, reduceIte, oB_in, oB_p0, oB_p1, oB_l3, oB_l4, oB_l5, oB_l6, oB_s3, oB_s4, oB_s5, oB_s6, oB_len, oB_row, oB_one, DL])
        exact ⟨SubB.eqi (by omega), SubB.v, SubB.sl rfl (SubBs.pure (encs_pur Inc.pur _)), SubB.sl rfl (SubBs.pure (natv_pur _)), SubB.eqi (by omega), SubB.ptr (by have := ht3.next; unfold pid; omega), SubB.ptr (by have := ht3.next; unfold pid; omega), SubB.ptr (by have := ht3.next; unfold pid; omega)⟩
      · simp only [SLN, e2, ← e3]
        exact SubBs.append (SubBs.pure (Nms.pur _)) ⟨ SubB.can hcan (by rw [pures_append, encs_pur Inc.pur, Inc.pur]; rfl), SubB.pure rfl, SubB.pure rfl, SubB.pure rfl, True.intro⟩
    · (try simp only [↓jr, jp, jd, jz, zA, zB, zC, zD, zE, zF, zG, zH, zI, zJ, zK, zL, zM, zN, reduceIte, oB_in, oB_p0, oB_p1, oB_l3, oB_l4, oB_l5, oB_l6, oB_s3, oB_s4, oB_s5, oB_s6, oB_len, oB_row, oB_one, ht.next])
      refine wc.intro (by unfold R64; omega) ?_
      (try simp only [↓jr, jp, jd, jz, zA, zB, zC, zD, zE, zF, zG, zH, zI, zJ, zK, zL, zM, zN, reduceIte, oB_in, oB_p0, oB_p1, oB_l3, oB_l4, oB_l5, oB_l6, oB_s3, oB_s4, oB_s5, oB_s6, oB_len, oB_row, oB_one, ht.next])
      refine wc.intro (by unfold R64; omega) ?_
      (try simp only [↓jr, jp, jd, jz, zA, zB, zC, zD, zE, zF, zG, zH, zI, zJ, zK, zL, zM, zN, reduceIte, oB_in, oB_p0, oB_p1, oB_l3, oB_l4, oB_l5, oB_l6, oB_s3, oB_s4, oB_s5, oB_s6, oB_len, oB_row, oB_one, ht.next])
      have e1 : keepF (hasN l) (b.incls.take (k + 1)) = keepF (hasN l) (b.incls.take k) := by rw [hkt, if_neg (by rw [show _ = false from g2]; exact Bool.false_ne_true), List.append_nil]
      refine JNEXT.of (k + 1, tk, jx) ⟨by simp only; omega, ht, by simp only [e1]; exact hc⟩ (by simp only; omega) ?_ (JDropH.nextT ht ht (TokExt.refl _) (Nat.le_refl _) ⟨.inl ⟨rfl, rfl⟩, .inl ⟨rfl, rfl⟩, .inr ⟨rfl, ?_⟩, True.intro⟩)
      · (try simp only [↓jr, jp, jd, jz, zA, zB, zC, zD, zE, zF, zG, zH, zI, zJ, zK, zL, zM, zN, reduceIte, oB_in, oB_p0, oB_p1, oB_l3, oB_l4, oB_l5, oB_l6, oB_s3, oB_s4, oB_s5, oB_s6, oB_len, oB_row, oB_one, DL])
        exact ⟨SubB.eqi (by omega), SubB.v, SubB.sl rfl (SubBs.pure (encs_pur Inc.pur _)), SubB.sl rfl (SubBs.pure (natv_pur _)), SubB.eqi (by omega), SubB.ptr (by have := ht.next; unfold pid; omega), SubB.ptr (by have := ht.next; unfold pid; omega), SubB.ptr (by have := ht.next; unfold pid; omega)⟩
      · simp only [e1]
        exact SubBs.append (SubBs.pure (Nms.pur _)) ⟨ SubB.can hc (encs_pur Inc.pur _), SubB.pure rfl, SubB.pure rfl, SubB.pure rfl, True.intro⟩
  (try simp only [↓jr, jp, jd, jz, zA, zB, zC, zD, zE, zF, zG, zH, zI, zJ, zK, zL, zM, zN, reduceIte, oB_in, oB_p0, oB_p1, oB_l3, oB_l4, oB_l5, oB_l6, oB_s3, oB_s4, oB_s5, oB_s6, oB_len, oB_row, oB_one, ht.next])
  have ek : k = b.incls.length := by omega
  subst ek
  rw [List.take_length] at hc ⊢
  refine JLOOP.of (σ := Nat × Tok × JH) (fun s => s.1 ≤ b.roles.length ∧ TokExt j s.2.2 ∧ CanApp j s.2.2 s.2.1 2 (keepF (fun k => hasN l (b.incls.length + k)) (b.roles.take s.1)).length) (fun s => b.roles.length - s.1)
    (fun s => [(40, I64 s.1), (39, I64 b.roles.length), (38, .sl .none b.roles.length (encs RIn.enc b.roles)), (1, .sl .none l.length (natv l)), (6, I64 ((b.incls.length + s.1 : Nat) : Int)), (2, .ptr (pid j.next 0) 0), (4, .ptr (pid j.next 1) 0), (5, .ptr (pid j.next 2) 0)])
    (fun s => ext s.2.2 [.cells 30 b.enc, .cells 30 [.sl .nil 0 [], .sl .nil 0 [], .sl .nil 0 [], .sl .nil 0 [], .sl .nil 0 [], .sl .nil 0 [], .sl .nil 0 []], .cells 30 (oB b.nms (SLN Inc Inc.enc .none (keepF (hasN l) (b.incls))) (SLN RIn RIn.enc s.2.1 (keepF (fun k => hasN l (b.incls.length + k)) (b.roles.take s.1))) (.sl .nil 0 []) (.sl .nil 0 []))]) (0, .nil, jx) ⟨Nat.zero_le _, ht, CanApp.nil⟩ ?_ (JDropH.nextT ht ht (TokExt.refl _) (Nat.le_refl _) ⟨.inl ⟨rfl, rfl⟩, .inl ⟨rfl, rfl⟩, .inr ⟨rfl, SubBs.append (SubBs.pure (Nms.pur _)) ⟨SubB.sl rfl (SubBs.pure (encs_pur Inc.pur _)), SubB.pure rfl, SubB.pure rfl, SubB.pure rfl, True.intro⟩⟩, True.intro⟩) ?_
  · have hx := ht.next
    (try simp only [↓jr, jp, jd, jz, zA, zB, zC, zD, zE, zF, zG, zH, zI, zJ, zK, zL, zM, zN, reduceIte, oB_in, oB_p0, oB_p1, oB_l3, oB_l4, oB_l5, oB_l6, oB_s3, oB_s4, oB_s5, oB_s6, oB_len, oB_row, oB_one, DL])
    exact ⟨SubB.v, SubB.v, SubB.sl rfl (SubBs.pure (encs_pur RIn.pur _)), SubB.sl rfl (SubBs.pure (natv_pur _)), SubB.v, SubB.ptr (by unfold pid; omega), SubB.ptr (by unfold pid; omega), SubB.ptr (by unfold pid; omega)⟩
  clear ht hc hk g1
  rintro ⟨k, tk, jx⟩ ⟨hk, ht, hc⟩
  simp only at hk ht hc
  (try simp only [↓jr, jp, jd, jz, zA, zB, zC, zD, zE, zF, zG, zH, zI, zJ, zK, zL, zM, zN, reduceIte, oB_in, oB_p0, oB_p1, oB_l3, oB_l4, oB_l5, oB_l6, oB_s3, oB_s4, oB_s5, oB_s6, oB_len, oB_row, oB_one, ht.next])
  refine wq.intro (fun g1 => ?_) (fun g1 => ?_)
  · have hlt : k < (b.roles).length := by omega
    obtain ⟨x, r, hd⟩ : ∃ c_ l_, List.drop k (b.roles) = c_ :: l_ := ⟨_, _, List.drop_eq_getElem_cons hlt⟩
    have hd1 : List.drop (k + 1) (b.roles) = r := by rw [← List.drop_drop, hd]; rfl
    have hmem : x ∈ b.roles := List.mem_of_mem_drop (hd ▸ List.mem_cons_self)
    have hkt := fun f => keepF_take f b.roles k hd
    have hkl := @keepF_le _ (fun k => hasN l (b.incls.length + k)) b.roles k
    (try simp only [↓jr, jp, jd, jz, zA, zB, zC, zD, zE, zF, zG, zH, zI, zJ, zK, zL, zM, zN, reduceIte, oB_in, oB_p0, oB_p1, oB_l3, oB_l4, oB_l5, oB_l6, oB_s3, oB_s4, oB_s5, oB_s6, oB_len, oB_row, oB_one, ht.next,hd])
    refine wc.intro (by omega) ?_
    (try simp only [↓jr, jp, jd, jz, zA, zB, zC, zD, zE, zF, zG, zH, zI, zJ, zK, zL, zM, zN, reduceIte, oB_in, oB_p0, oB_p1, oB_l3, oB_l4, oB_l5, oB_l6, oB_s3, oB_s4, oB_s5, oB_s6, oB_len, oB_row, oB_one, ht.next,hd,Int.natCast_add])
    have ec : (b.incls.length : Int) + (k : Int) = ((b.incls.length + k : Nat) : Int) := by omega
    rw [ec]
    refine JCs.ret (s_Has l .none _ hl _) ?_
    (try simp only [↓jr, jp, jd, jz, zA, zB, zC, zD, zE, zF, zG, zH, zI, zJ, zK, zL, zM, zN, reduceIte, oB_in, oB_p0, oB_p1, oB_l3, oB_l4, oB_l5, oB_l6, oB_s3, oB_s4, oB_s5, oB_s6, oB_len, oB_row, oB_one, ht.next])
    refine ww.intro (fun g2 => ?_) (fun g2 => ?_)
    · (try simp only [↓jr, jp, jd, jz, zA, zB, zC, zD, zE, zF, zG, zH, zI, zJ, zK, zL, zM, zN, reduceIte, oB_in, oB_p0, oB_p1, oB_l3, oB_l4, oB_l5, oB_l6, oB_s3, oB_s4, oB_s5, oB_s6, oB_len, oB_row, oB_one, ht.next])
      refine JAPP.can' hc.push (ht.push 1) (by rw [encs_length RIn.len]) (by rw [RIn.len]) d_rin9 (by omega) (by omega) ?_
      intro tok1 j1 hcan ht3 hle
      have hle' : jx.tnext ≤ j1.tnext := Nat.le_trans (Nat.le_succ _) hle
      (try simp only [↓jr, jp, jd, jz, zA, zB, zC, zD, zE, zF, zG, zH, zI, zJ, zK, zL, zM, zN, reduceIte, oB_in, oB_p0, oB_p1, oB_l3, oB_l4, oB_l5, oB_l6, oB_s3, oB_s4, oB_s5, oB_s6, oB_len, oB_row, oB_one, ht3.next])
      refine wc.intro (by unfold R64; omega) ?_
      (try simp only [↓jr, jp, jd, jz, zA, zB, zC, zD, zE, zF, zG, zH, zI, zJ, zK, zL, zM, zN, reduceIte, oB_in, oB_p0, oB_p1, oB_l3, oB_l4, oB_l5, oB_l6, oB_s3, oB_s4, oB_s5, oB_s6, oB_len, oB_row, oB_one, ht3.next])
      refine wc.intro (by unfold R64; omega) ?_
      (try simp only [↓jr, jp, jd, jz, zA, zB, zC, zD, zE, zF, zG, zH, zI, zJ, zK, zL, zM, zN, reduceIte, oB_in, oB_p0, oB_p1, oB_l3, oB_l4, oB_l5, oB_l6, oB_s3, oB_s4, oB_s5, oB_s6, oB_len, oB_row, oB_one, ht3.next])
      have e1 : keepF (fun k => hasN l (b.incls.length + k)) (b.roles.take (k + 1)) = keepF (fun k => hasN l (b.incls.length + k)) (b.roles.take k) ++ [x] := by rw [hkt, if_pos (by exact g2)]
      have e2 : (keepF (fun k => hasN l (b.incls.length + k)) (b.roles.take (k + 1))).length = (keepF (fun k => hasN l (b.incls.length + k)) (b.roles.take k)).length + 1 := by rw [e1]; simp
      have e3 : encs RIn.enc (keepF (fun k => hasN l (b.incls.length + k)) (b.roles.take k)) ++ x.enc = encs RIn.enc (keepF (fun k => hasN l (b.incls.length + k)) (b.roles.take (k + 1))) := by rw [e1, encs_append]; simp [encs]
      refine JNEXT.of (k + 1, tok1, j1) ⟨by simp only; omega, ht3, by simp only [e2]; exact hcan⟩ (by simp only; omega) ?_ (JDropH.nextT ht ht3 (TokExt.refl _) hle' ⟨.inl ⟨rfl, rfl⟩, .inl ⟨rfl, rfl⟩, .inr ⟨rfl, ?_⟩, True.intro⟩)
      · (try simp only [↓jr, jp, jd, jz, zA, zB, zC, zD, zE, zF, zG, zH, zI, zJ, zK, zL, zM, zN, reduceIte, oB_in, oB_p0, oB_p1, oB_l3, oB_l4, oB_l5, oB_l6, oB_s3, oB_s4, oB_s5, oB_s6, oB_len, oB_row, oB_one, DL])
        exact ⟨SubB.eqi (by omega), SubB.v, SubB.sl rfl (SubBs.pure (encs_pur RIn.pur _)), SubB.sl rfl (SubBs.pure (natv_pur _)), SubB.eqi (by omega), SubB.ptr (by have := ht3.next; unfold pid; omega), SubB.ptr (by have := ht3.next; unfold pid; omega), SubB.ptr (by have := ht3.next; unfold pid; omega)⟩
      · simp only [SLN, e2, ← e3]
        exact SubBs.append (SubBs.pure (Nms.pur _)) ⟨SubB.sl rfl (SubBs.pure (encs_pur Inc.pur _)), SubB.can hcan (by rw [pures_append, encs_pur RIn.pur, RIn.pur]; rfl), SubB.pure rfl, SubB.pure rfl, True.intro⟩
    · (try simp only [↓jr, jp, jd, jz, zA, zB, zC, zD, zE, zF, zG, zH, zI, zJ, zK, zL, zM, zN, reduceIte, oB_in, oB_p0, oB_p1, oB_l3, oB_l4, oB_l5, oB_l6, oB_s3, oB_s4, oB_s5, oB_s6, oB_len, oB_row, oB_one, ht.next])
      refine wc.intro (by unfold R64; omega) ?_
      (try simp only [↓jr, jp, jd, jz, zA, zB, zC, zD, zE, zF, zG, zH, zI, zJ, zK, zL, zM, zN, reduceIte, oB_in, oB_p0, oB_p1, oB_l3, oB_l4, oB_l5, oB_l6, oB_s3, oB_s4, oB_s5, oB_s6, oB_len, oB_row, oB_one, ht.next])
      refine wc.intro (by unfold R64; omega) ?_
      (try simp only [↓jr, jp, jd, jz, zA, zB, zC, zD, zE, zF, zG, zH, zI, zJ, zK, zL, zM, zN, reduceIte, oB_in, oB_p0, oB_p1, oB_l3, oB_l4, oB_l5, oB_l6, oB_s3, oB_s4, oB_s5, oB_s6, oB_len, oB_row, oB_one, ht.next])
      have e1 : keepF (fun k => hasN l (b.incls.length + k)) (b.roles.take (k + 1)) = keepF (fun k => hasN l (b.incls.length + k)) (b.roles.take k) := by rw [hkt, if_neg (by rw [show _ = false from g2]; exact Bool.false_ne_true), List.append_nil]
      refine JNEXT.of (k + 1, tk, jx) ⟨by simp only; omega, ht, by simp only [e1]; exact hc⟩ (by simp only; omega) ?_ (JDropH.nextT ht ht (TokExt.refl _) (Nat.le_refl _) ⟨.inl ⟨rfl, rfl⟩, .inl ⟨rfl, rfl⟩, .inr ⟨rfl, ?_⟩, True.intro⟩)
      · (try simp only [↓jr, jp, jd, jz, zA, zB, zC, zD, zE, zF, zG, zH, zI, zJ, zK, zL, zM, zN, reduceIte, oB_in, oB_p0, oB_p1, oB_l3, oB_l4, oB_l5, oB_l6, oB_s3, oB_s4, oB_s5, oB_s6, oB_len, oB_row, oB_one, DL])
        exact ⟨SubB.eqi (by omega), SubB.v, SubB.sl rfl (SubBs.pure (encs_pur RIn.pur _)), SubB.sl rfl (SubBs.pure (natv_pur _)), SubB.eqi (by omega), SubB.ptr (by have := ht.next; unfold pid; omega), SubB.ptr (by have := ht.next; unfold pid; omega), SubB.ptr (by have := ht.next; unfold pid; omega)⟩
      · simp only [e1]
        exact SubBs.append (SubBs.pure (Nms.pur _)) ⟨SubB.sl rfl (SubBs.pure (encs_pur Inc.pur _)), SubB.can hc (encs_pur RIn.pur _), SubB.pure rfl, SubB.pure rfl, True.intro⟩
  (try simp only [↓jr, jp, jd, jz, zA, zB, zC, zD, zE, zF, zG, zH, zI, zJ, zK, zL, zM, zN, reduceIte, oB_in, oB_p0, oB_p1, oB_l3, oB_l4, oB_l5, oB_l6, oB_s3, oB_s4, oB_s5, oB_s6, oB_len, oB_row, oB_one, ht.next])
  have ek : k = b.roles.length := by omega
  subst ek
  rw [List.take_length] at hc ⊢
  refine JLOOP.of (σ := Nat × Tok × JH) (fun s => s.1 ≤ b.facts.length ∧ TokExt j s.2.2 ∧ CanApp j s.2.2 s.2.1 4 (keepF (fun k => hasN l (b.incls.length + b.roles.length + k)) (b.facts.take s.1)).length) (fun s => b.facts.length - s.1)
    (fun s => [(59, I64 s.1), (58, I64 b.facts.length), (57, .sl .none b.facts.length (encs Fac.enc b.facts)), (1, .sl .none l.length (natv l)), (6, I64 ((b.incls.length + b.roles.length + s.1 : Nat) : Int)), (2, .ptr (pid j.next 0) 0), (4, .ptr (pid j.next 1) 0), (5, .ptr (pid j.next 2) 0)])
    (fun s => ext s.2.2 [.cells 30 b.enc, .cells 30 [.sl .nil 0 [], .sl .nil 0 [], .sl .nil 0 [], .sl .nil 0 [], .sl .nil 0 [], .sl .nil 0 [], .sl .nil 0 []], .cells 30 (oB b.nms (SLN Inc Inc.enc .none (keepF (hasN l) (b.incls))) (SLN RIn RIn.enc .none (keepF (fun k => hasN l (b.incls.length + k)) (b.roles))) (SLN Fac Fac.enc s.2.1 (keepF (fun k => hasN l (b.incls.length + b.roles.length + k)) (b.facts.take s.1))) (.sl .nil 0 []))]) (0, .nil, jx) ⟨Nat.zero_le _, ht, CanApp.nil⟩ ?_ (JDropH.nextT ht ht (TokExt.refl _) (Nat.le_refl _) ⟨.inl ⟨rfl, rfl⟩, .inl ⟨rfl, rfl⟩, .inr ⟨rfl, SubBs.append (SubBs.pure (Nms.pur _)) ⟨SubB.sl rfl (SubBs.pure (encs_pur Inc.pur _)), SubB.sl rfl (SubBs.pure (encs_pur RIn.pur _)), SubB.pure rfl, SubB.pure rfl, True.intro⟩⟩, True.intro⟩) ?_
  · have hx := ht.next
    (try simp only [↓jr, jp, jd, jz, zA, zB, zC, zD, zE, zF, zG, zH, zI, zJ, zK, zL, zM, zN, reduceIte, oB_in, oB_p0, oB_p1, oB_l3, oB_l4, oB_l5, oB_l6, oB_s3, oB_s4, oB_s5, oB_s6, oB_len, oB_row, oB_one, DL])
    exact ⟨SubB.v, SubB.v, SubB.sl rfl (SubBs.pure (encs_pur Fac.pur _)), SubB.sl rfl (SubBs.pure (natv_pur _)), SubB.v, SubB.ptr (by unfold pid; omega), SubB.ptr (by unfold pid; omega), SubB.ptr (by unfold pid; omega)⟩
  clear ht hc hk g1
  rintro ⟨k, tk, jx⟩ ⟨hk, ht, hc⟩
  simp only at hk ht hc
  (try simp only [↓jr, jp, jd, jz, zA, zB, zC, zD, zE, zF, zG, zH, zI, zJ, zK, zL, zM, zN, reduceIte, oB_in, oB_p0, oB_p1, oB_l3, oB_l4, oB_l5, oB_l6, oB_s3, oB_s4, oB_s5, oB_s6, oB_len, oB_row, oB_one, ht.next])
  refine wq.intro (fun g1 => ?_) (fun g1 => ?_)
  · have hlt : k < (b.facts).length := by omega
    obtain ⟨x, r, hd⟩ : ∃ c_ l_, List.drop k (b.facts) = c_ :: l_ := ⟨_, _, List.drop_eq_getElem_cons hlt⟩
    have hd1 : List.drop (k + 1) (b.facts) = r := by rw [← List.drop_drop, hd]; rfl
    have hmem : x ∈ b.facts := List.mem_of_mem_drop (hd ▸ List.mem_cons_self)
    have hkt := fun f => keepF_take f b.facts k hd
    have hkl := @keepF_le _ (fun k => hasN l (b.incls.length + b.roles.length + k)) b.facts k
    (try simp only [↓jr, jp, jd, jz, zA, zB, zC, zD, zE, zF, zG, zH, zI, zJ, zK, zL, zM, zN, reduceIte, oB_in, oB_p0, oB_p1, oB_l3, oB_l4, oB_l5, oB_l6, oB_s3, oB_s4, oB_s5, oB_s6, oB_len, oB_row, oB_one, ht.next,hd])
    refine wc.intro (by omega) ?_
    (try simp only [↓jr, jp, jd, jz, zA, zB, zC, zD, zE, zF, zG, zH, zI, zJ, zK, zL, zM, zN, reduceIte, oB_in, oB_p0, oB_p1, oB_l3, oB_l4, oB_l5, oB_l6, oB_s3, oB_s4, oB_s5, oB_s6, oB_len, oB_row, oB_one, ht.next,hd,Int.natCast_add])
    have ec : (b.incls.length : Int) + (b.roles.length : Int) + (k : Int) = ((b.incls.length + b.roles.length + k : Nat) : Int) := by omega
    rw [ec]
    refine JCs.ret (s_Has l .none _ hl _) ?_
    (try simp only [↓jr, jp, jd, jz, zA, zB, zC, zD, zE, zF, zG, zH, zI, zJ, zK, zL, zM, zN, reduceIte, oB_in, oB_p0, oB_p1, oB_l3, oB_l4, oB_l5, oB_l6, oB_s3, oB_s4, oB_s5, oB_s6, oB_len, oB_row, oB_one, ht.next])
    refine ww.intro (fun g2 => ?_) (fun g2 => ?_)
    · (try simp only [↓jr, jp, jd, jz, zA, zB, zC, zD, zE, zF, zG, zH, zI, zJ, zK, zL, zM, zN, reduceIte, oB_in, oB_p0, oB_p1, oB_l3, oB_l4, oB_l5, oB_l6, oB_s3, oB_s4, oB_s5, oB_s6, oB_len, oB_row, oB_one, ht.next])
      refine JAPP.can' hc.push (ht.push 1) (by rw [encs_length Fac.len]) (by rw [Fac.len]) d_fac9 (by omega) (by omega) ?_
      intro tok1 j1 hcan ht3 hle
      have hle' : jx.tnext ≤ j1.tnext := Nat.le_trans (Nat.le_succ _) hle
      (try simp only [↓jr, jp, jd, jz, zA, zB, zC, zD, zE, zF, zG, zH, zI, zJ, zK, zL, zM, zN, reduceIte, oB_in, oB_p0, oB_p1, oB_l3, oB_l4, oB_l5, oB_l6, oB_s3, oB_s4, oB_s5, oB_s6, oB_len, oB_row, oB_one, ht3.next])
      refine wc.intro (by unfold R64; omega) ?_
      (try simp only [↓jr, jp, jd, jz, zA, zB, zC, zD, zE, zF, zG, zH, zI, zJ, zK, zL, zM, zN, reduceIte, oB_in, oB_p0, oB_p1, oB_l3, oB_l4, oB_l5, oB_l6, oB_s3, oB_s4, oB_s5, oB_s6, oB_len, oB_row, oB_one, ht3.next])
      refine wc.intro (by unfold R64; omega) ?_
      (try simp only [↓jr, jp, jd, jz, zA, zB, zC, zD, zE, zF, zG, zH, zI, zJ, zK, zL, zM, zN, reduceIte, oB_in, oB_p0, oB_p1, oB_l3, oB_l4, oB_l5, oB_l6, oB_s3, oB_s4, oB_s5, oB_s6, oB_len, oB_row, oB_one, ht3.next])
      have e1 : keepF (fun k => hasN l (b.incls.length + b.roles.length + k)) (b.facts.take (k + 1)) = keepF (fun k => hasN l (b.incls.length + b.roles.length + k)) (b.facts.take k) ++ [x] := by rw [hkt, if_pos (by exact g2)]
      have e2 : (keepF (fun k => hasN l (b.incls.length + b.roles.length + k)) (b.facts.take (k + 1))).length = (keepF (fun k => hasN l (b.incls.length + b.roles.length + k)) (b.facts.take k)).length + 1 := by rw [e1]; simp
      have e3 : encs Fac.enc (keepF (fun k => hasN l (b.incls.length + b.roles.length + k)) (b.facts.take k)) ++ x.enc = encs Fac.enc (keepF (fun k => hasN l (b.incls.length + b.roles.length + k)) (b.facts.take (k + 1))) := by rw [e1, encs_append]; simp [encs]
      refine JNEXT.of (k + 1, tok1, j1) ⟨by simp only; omega, ht3, by simp only [e2]; exact hcan⟩ (by simp only; omega) ?_ (JDropH.nextT ht ht3 (TokExt.refl _) hle' ⟨.inl ⟨rfl, rfl⟩, .inl ⟨rfl, rfl⟩, .inr ⟨rfl, ?_⟩, True.intro⟩)
      · (try simp only [↓jr, jp, jd, jz, zA, zB, zC, zD, zE, zF, zG, zH, zI, zJ, zK, zL, zM, zN, reduceIte, oB_in, oB_p0, oB_p1, oB_l3, oB_l4, oB_l5, oB_l6, oB_s3, oB_s4, oB_s5, oB_s6, oB_len, oB_row, oB_one, DL])
        exact ⟨SubB.eqi (by omega), SubB.v, SubB.sl rfl (SubBs.pure (encs_pur Fac.pur _)), SubB.sl rfl (SubBs.pure (natv_pur _)), SubB.eqi (by omega), SubB.ptr (by have := ht3.next; unfold pid; omega), SubB.ptr (by have := ht3.next; unfold pid; omega), SubB.ptr (by have := ht3.next; unfold pid; omega)⟩
      · simp only [SLN, e2, ← e3]
        exact SubBs.append (SubBs.pure (Nms.pur _)) ⟨SubB.sl rfl (SubBs.pure (encs_pur Inc.pur _)), SubB.sl rfl (SubBs.pure (encs_pur RIn.pur _)), SubB.can hcan (by rw [pures_append, encs_pur Fac.pur, Fac.pur]; rfl), SubB.pure rfl, True.intro⟩
    · (try simp only [↓jr, jp, jd, jz, zA, zB, zC, zD, zE, zF, zG, zH, zI, zJ, zK, zL, zM, zN, reduceIte, oB_in, oB_p0, oB_p1, oB_l3, oB_l4, oB_l5, oB_l6, oB_s3, oB_s4, oB_s5, oB_s6, oB_len, oB_row, oB_one, ht.next])
      refine wc.intro (by unfold R64; omega) ?_
      (try simp only [↓jr, jp, jd, jz, zA, zB, zC, zD, zE, zF, zG, zH, zI, zJ, zK, zL, zM, zN, reduceIte, oB_in, oB_p0, oB_p1, oB_l3, oB_l4, oB_l5, oB_l6, oB_s3, oB_s4, oB_s5, oB_s6, oB_len, oB_row, oB_one, ht.next])
      refine wc.intro (by unfold R64; omega) ?_
      (try simp only [↓jr, jp, jd, jz, zA, zB, zC, zD, zE, zF, zG, zH, zI, zJ, zK, zL, zM, zN, reduceIte, oB_in, oB_p0, oB_p1, oB_l3, oB_l4, oB_l5, oB_l6, oB_s3, oB_s4, oB_s5, oB_s6, oB_len, oB_row, oB_one, ht.next])
      have e1 : keepF (fun k => hasN l (b.incls.length + b.roles.length + k)) (b.facts.take (k + 1)) = keepF (fun k => hasN l (b.incls.length + b.roles.length + k)) (b.facts.take k) := by rw [hkt, if_neg (by rw [show _ = false from g2]; exact Bool.false_ne_true), List.append_nil]
      refine JNEXT.of (k + 1, tk, jx) ⟨by simp only; omega, ht, by simp only [e1]; exact hc⟩ (by simp only; omega) ?_ (JDropH.nextT ht ht (TokExt.refl _) (Nat.le_refl _) ⟨.inl ⟨rfl, rfl⟩, .inl ⟨rfl, rfl⟩, .inr ⟨rfl, ?_⟩, True.intro⟩)
      · (try simp only [↓jr, jp, jd, jz, zA, zB, zC, zD, zE, zF, zG, zH, zI, zJ, zK, zL, zM, zN, reduceIte, oB_in, oB_p0, oB_p1, oB_l3, oB_l4, oB_l5, oB_l6, oB_s3, oB_s4, oB_s5, oB_s6, oB_len, oB_row, oB_one, DL])
        exact ⟨SubB.eqi (by omega), SubB.v, SubB.sl rfl (SubBs.pure (encs_pur Fac.pur _)), SubB.sl rfl (SubBs.pure (natv_pur _)), SubB.eqi (by omega), SubB.ptr (by have := ht.next; unfold pid; omega), SubB.ptr (by have := ht.next; unfold pid; omega), SubB.ptr (by have := ht.next; unfold pid; omega)⟩
      · simp only [e1]
        exact SubBs.append (SubBs.pure (Nms.pur _)) ⟨SubB.sl rfl (SubBs.pure (encs_pur Inc.pur _)), SubB.sl rfl (SubBs.pure (encs_pur RIn.pur _)), SubB.can hc (encs_pur Fac.pur _), SubB.pure rfl, True.intro⟩
  (try simp only [↓jr, jp, jd, jz, zA, zB, zC, zD, zE, zF, zG, zH, zI, zJ, zK, zL, zM, zN, reduceIte, oB_in, oB_p0, oB_p1, oB_l3, oB_l4, oB_l5, oB_l6, oB_s3, oB_s4, oB_s5, oB_s6, oB_len, oB_row, oB_one, ht.next])
  have ek : k = b.facts.length := by omega
  subst ek
  rw [List.take_length] at hc ⊢
  refine JLOOP.of (σ := Nat × Tok × JH) (fun s => s.1 ≤ b.links.length ∧ TokExt j s.2.2 ∧ CanApp j s.2.2 s.2.1 3 (keepF (fun k => hasN l (b.incls.length + b.roles.length + b.facts.length + k)) (b.links.take s.1)).length) (fun s => b.links.length - s.1)
    (fun s => [(78, I64 s.1), (77, I64 b.links.length), (76, .sl .none b.links.length (encs Lnk.enc b.links)), (1, .sl .none l.length (natv l)), (6, I64 ((b.incls.length + b.roles.length + b.facts.length + s.1 : Nat) : Int)), (2, .ptr (pid j.next 0) 0), (4, .ptr (pid j.next 1) 0), (5, .ptr (pid j.next 2) 0)])
    (fun s => ext s.2.2 [.cells 30 b.enc, .cells 30 [.sl .nil 0 [], .sl .nil 0 [], .sl .nil 0 [], .sl .nil 0 [], .sl .nil 0 [], .sl .nil 0 [], .sl .nil 0 []], .cells 30 (oB b.nms (SLN Inc Inc.enc .none (keepF (hasN l) (b.incls))) (SLN RIn RIn.enc .none (keepF (fun k => hasN l (b.incls.length + k)) (b.roles))) (SLN Fac Fac.enc .none (keepF (fun k => hasN l (b.incls.length + b.roles.length + k)) (b.facts))) (SLN Lnk Lnk.enc s.2.1 (keepF (fun k => hasN l (b.incls.length + b.roles.length + b.facts.length + k)) (b.links.take s.1))))]) (0, .nil, jx) ⟨Nat.zero_le _, ht, CanApp.nil⟩ ?_ (JDropH.nextT ht ht (TokExt.refl _) (Nat.le_refl _) ⟨.inl ⟨rfl, rfl⟩, .inl ⟨rfl, rfl⟩, .inr ⟨rfl, SubBs.append (SubBs.pure (Nms.pur _)) ⟨SubB.sl rfl (SubBs.pure (encs_pur Inc.pur _)), SubB.sl rfl (SubBs.pure (encs_pur RIn.pur _)), SubB.sl rfl (SubBs.pure (encs_pur Fac.pur _)), SubB.pure rfl, True.intro⟩⟩, True.intro⟩) ?_
  · have hx := ht.next
    (try simp only [↓jr, jp, jd, jz, zA, zB, zC, zD, zE, zF, zG, zH, zI, zJ, zK, zL, zM, zN, reduceIte, oB_in, oB_p0, oB_p1, oB_l3, oB_l4, oB_l5, oB_l6, oB_s3, oB_s4, oB_s5, oB_s6, oB_len, oB_row, oB_one, DL])
    exact ⟨SubB.v, SubB.v, SubB.sl rfl (SubBs.pure (encs_pur Lnk.pur _)), SubB.sl rfl (SubBs.pure (natv_pur _)), SubB.v, SubB.ptr (by unfold pid; omega), SubB.ptr (by unfold pid; omega), SubB.ptr (by unfold pid; omega)⟩
  clear ht hc hk g1
  rintro ⟨k, tk, jx⟩ ⟨hk, ht, hc⟩
  simp only at hk ht hc
  (try simp only [↓jr, jp, jd, jz, zA, zB, zC, zD, zE, zF, zG, zH, zI, zJ, zK, zL, zM, zN, reduceIte, oB_in, oB_p0, oB_p1, oB_l3, oB_l4, oB_l5, oB_l6, oB_s3, oB_s4, oB_s5, oB_s6, oB_len, oB_row, oB_one, ht.next])
  refine wq.intro (fun g1 => ?_) (fun g1 => ?_)
  · have hlt : k < (b.links).length := by omega
    obtain ⟨x, r, hd⟩ : ∃ c_ l_, List.drop k (b.links) = c_ :: l_ := ⟨_, _, List.drop_eq_getElem_cons hlt⟩
    have hd1 : List.drop (k + 1) (b.links) = r := by rw [← List.drop_drop, hd]; rfl
    have hmem : x ∈ b.links := List.mem_of_mem_drop (hd ▸ List.mem_cons_self)
    have hkt := fun f => keepF_take f b.links k hd
    have hkl := @keepF_le _ (fun k => hasN l (b.incls.length + b.roles.length + b.facts.length + k)) b.links k
    (try simp only [↓jr, jp, jd, jz, zA, zB, zC, zD, zE, zF, zG, zH, zI, zJ, zK, zL, zM, zN, reduceIte, oB_in, oB_p0, oB_p1, oB_l3, oB_l4, oB_l5, oB_l6, oB_s3, oB_s4, oB_s5, oB_s6, oB_len, oB_row, oB_one, ht.next,hd])
    refine wc.intro (by omega) ?_
    (try simp only [↓jr, jp, jd, jz, zA, zB, zC, zD, zE, zF, zG, zH, zI, zJ, zK, zL, zM, zN, reduceIte, oB_in, oB_p0, oB_p1, oB_l3, oB_l4, oB_l5, oB_l6, oB_s3, oB_s4, oB_s5, oB_s6, oB_len, oB_row, oB_one, ht.next,hd,Int.natCast_add])
    have ec : (b.incls.length : Int) + (b.roles.length : Int) + (b.facts.length : Int) + (k : Int) = ((b.incls.length + b.roles.length + b.facts.length + k : Nat) : Int) := by omega
    rw [ec]
    refine JCs.ret (s_Has l .none _ hl _) ?_
    (try simp only [↓jr, jp, jd, jz, zA, zB, zC, zD, zE, zF, zG, zH, zI, zJ, zK, zL, zM, zN, reduceIte, oB_in, oB_p0, oB_p1, oB_l3, oB_l4, oB_l5, oB_l6, oB_s3, oB_s4, oB_s5, oB_s6, oB_len, oB_row, oB_one, ht.next])
    refine ww.intro (fun g2 => ?_) (fun g2 => ?_)
    · (try simp only [↓jr, jp, jd, jz, zA, zB, zC, zD, zE, zF, zG, zH, zI, zJ, zK, zL, zM, zN, reduceIte, oB_in, oB_p0, oB_p1, oB_l3, oB_l4, oB_l5, oB_l6, oB_s3, oB_s4, oB_s5, oB_s6, oB_len, oB_row, oB_one, ht.next])
      refine JAPP.can' hc.push (ht.push 1) (by rw [encs_length Lnk.len]) (by rw [Lnk.len]) d_lnk9 (by omega) (by omega) ?_
      intro tok1 j1 hcan ht3 hle
      have hle' : jx.tnext ≤ j1.tnext := Nat.le_trans (Nat.le_succ _) hle
      (try simp only [↓jr, jp, jd, jz, zA, zB, zC, zD, zE, zF, zG, zH, zI, zJ, zK, zL, zM, zN, reduceIte, oB_in, oB_p0, oB_p1, oB_l3, oB_l4, oB_l5, oB_l6, oB_s3, oB_s4, oB_s5, oB_s6, oB_len, oB_row, oB_one, ht3.next])
      refine wc.intro (by unfold R64; omega) ?_
      (try simp only [↓jr, jp, jd, jz, zA, zB, zC, zD, zE, zF, zG, zH, zI, zJ, zK, zL, zM, zN, reduceIte, oB_in, oB_p0, oB_p1, oB_l3, oB_l4, oB_l5, oB_l6, oB_s3, oB_s4, oB_s5, oB_s6, oB_len, oB_row, oB_one, ht3.next])
      refine wc.intro (by unfold R64; omega) ?_
      (try simp only [↓jr, jp, jd, jz, zA, zB, zC, zD, zE, zF, zG, zH, zI, zJ, zK, zL, zM, zN, reduceIte, oB_in, oB_p0, oB_p1, oB_l3, oB_l4, oB_l5, oB_l6, oB_s3, oB_s4, oB_s5, oB_s6, oB_len, oB_row, oB_one, ht3.next])
      have e1 : keepF (fun k => hasN l (b.incls.length + b.roles.length + b.facts.length + k)) (b.links.take (k + 1)) = keepF (fun k => hasN l (b.incls.length + b.roles.length + b.facts.length + k)) (b.links.take k) ++ [x] := by rw [hkt, if_pos (by exact g2)]
      have e2 : (keepF (fun k => hasN l (b.incls.length + b.roles.length + b.facts.length + k)) (b.links.take (k + 1))).length = (keepF (fun k => hasN l (b.incls.length + b.roles.length + b.facts.length + k)) (b.links.take k)).length + 1 := by rw [e1]; simp
      have e3 : encs Lnk.enc (keepF (fun k => hasN l (b.incls.length + b.roles.length + b.facts.length + k)) (b.links.take k)) ++ x.enc = encs Lnk.enc (keepF (fun k => hasN l (b.incls.length + b.roles.length + b.facts.length + k)) (b.links.take (k + 1))) := by rw [e1, encs_append]; simp [encs]
      refine JNEXT.of (k + 1, tok1, j1) ⟨by simp only; omega, ht3, by simp only [e2]; exact hcan⟩ (by simp only; omega) ?_ (JDropH.nextT ht ht3 (TokExt.refl _) hle' ⟨.inl ⟨rfl, rfl⟩, .inl ⟨rfl, rfl⟩, .inr ⟨rfl, ?_⟩, True.intro⟩)
      · (try simp only [↓jr, jp, jd, jz, zA, zB, zC, zD, zE, zF, zG, zH, zI, zJ, zK, zL, zM, zN, reduceIte, oB_in, oB_p0, oB_p1, oB_l3, oB_l4, oB_l5, oB_l6, oB_s3, oB_s4, oB_s5, oB_s6, oB_len, oB_row, oB_one, DL])
        exact ⟨SubB.eqi (by omega), SubB.v, SubB.sl rfl (SubBs.pure (encs_pur Lnk.pur _)), SubB.sl rfl (SubBs.pure (natv_pur _)), SubB.eqi (by omega), SubB.ptr (by have := ht3.next; unfold pid; omega), SubB.ptr (by have := ht3.next; unfold pid; omega), SubB.ptr (by have := ht3.next; unfold pid; omega)⟩
      · simp only [SLN, e2, ← e3]
        exact SubBs.append (SubBs.pure (Nms.pur _)) ⟨SubB.sl rfl (SubBs.pure (encs_pur Inc.pur _)), SubB.sl rfl (SubBs.pure (encs_pur RIn.pur _)), SubB.sl rfl (SubBs.pure (encs_pur Fac.pur _)), SubB.can hcan (by rw [pures_append, encs_pur Lnk.pur, Lnk.pur]; rfl),  True.intro⟩
    · (try simp only [↓jr, jp, jd, jz, zA, zB, zC, zD, zE, zF, zG, zH, zI, zJ, zK, zL, zM, zN, reduceIte, oB_in, oB_p0, oB_p1, oB_l3, oB_l4, oB_l5, oB_l6, oB_s3, oB_s4, oB_s5, oB_s6, oB_len, oB_row, oB_one, ht.next])
      refine wc.intro (by unfold R64; omega) ?_
      (try simp only [↓jr, jp, jd, jz, zA, zB, zC, zD, zE, zF, zG, zH, zI, zJ, zK, zL, zM, zN, reduceIte, oB_in, oB_p0, oB_p1, oB_l3, oB_l4, oB_l5, oB_l6, oB_s3, oB_s4, oB_s5, oB_s6, oB_len, oB_row, oB_one, ht.next])
      refine wc.intro (by unfold R64; omega) ?_
      (try simp only [↓jr, jp, jd, jz, zA, zB, zC, zD, zE, zF, zG, zH, zI, zJ, zK, zL, zM, zN, reduceIte, oB_in, oB_p0, oB_p1, oB_l3, oB_l4, oB_l5, oB_l6, oB_s3, oB_s4, oB_s5, oB_s6, oB_len, oB_row, oB_one, ht.next])
      have e1 : keepF (fun k => hasN l (b.incls.length + b.roles.length + b.facts.length + k)) (b.links.take (k + 1)) = keepF (fun k => hasN l (b.incls.length + b.roles.length + b.facts.length + k)) (b.links.take k) := by rw [hkt, if_neg (by rw [show _ = false from g2]; exact Bool.false_ne_true), List.append_nil]
      refine JNEXT.of (k + 1, tk, jx) ⟨by simp only; omega, ht, by simp only [e1]; exact hc⟩ (by simp only; omega) ?_ (JDropH.nextT ht ht (TokExt.refl _) (Nat.le_refl _) ⟨.inl ⟨rfl, rfl⟩, .inl ⟨rfl, rfl⟩, .inr ⟨rfl, ?_⟩, True.intro⟩)
      · (try simp only [↓jr, jp, jd, jz, zA, zB, zC, zD, zE, zF, zG, zH, zI, zJ, zK, zL, zM, zN, reduceIte, oB_in, oB_p0, oB_p1, oB_l3, oB_l4, oB_l5, oB_l6, oB_s3, oB_s4, oB_s5, oB_s6, oB_len, oB_row, oB_one, DL])
        exact ⟨SubB.eqi (by omega), SubB.v, SubB.sl rfl (SubBs.pure (encs_pur Lnk.pur _)), SubB.sl rfl (SubBs.pure (natv_pur _)), SubB.eqi (by omega), SubB.ptr (by have := ht.next; unfold pid; omega), SubB.ptr (by have := ht.next; unfold pid; omega), SubB.ptr (by have := ht.next; unfold pid; omega)⟩
      · simp only [e1]
        exact SubBs.append (SubBs.pure (Nms.pur _)) ⟨SubB.sl rfl (SubBs.pure (encs_pur Inc.pur _)), SubB.sl rfl (SubBs.pure (encs_pur RIn.pur _)), SubB.sl rfl (SubBs.pure (encs_pur Fac.pur _)), SubB.can hc (encs_pur Lnk.pur _),  True.intro⟩
  (try simp only [↓jr, jp, jd, jz, zA, zB, zC, zD, zE, zF, zG, zH, zI, zJ, zK, zL, zM, zN, reduceIte, oB_in, oB_p0, oB_p1, oB_l3, oB_l4, oB_l5, oB_l6, oB_s3, oB_s4, oB_s5, oB_s6, oB_len, oB_row, oB_one, ht.next])
  have ek : k = b.links.length := by omega
  subst ek
  rw [List.take_length] at hc ⊢
  refine JFIN.ret ((JDropH.back ht).of_ext) (SubB.agg (SubBs.append (SubBs.pure (Nms.pur _)) ⟨SubB.sl rfl (SubBs.pure (encs_pur Inc.pur _)), SubB.sl rfl (SubBs.pure (encs_pur RIn.pur _)), SubB.sl rfl (SubBs.pure (encs_pur Fac.pur _)), SubB.sl rfl (SubBs.pure (encs_pur Lnk.pur _)), True.intro⟩))
end Go.Proofs.YtkcbhebbjpiibaaDoor.Pg
