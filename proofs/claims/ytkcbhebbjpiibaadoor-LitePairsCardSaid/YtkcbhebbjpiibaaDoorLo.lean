/-
  The questions about the fragment; what a law looks at.
-/
import Derived.Test.YtkcbhebbjpiibaaDoorLm
set_option linter.unusedVariables false
set_option linter.unusedSimpArgs false
set_option maxRecDepth 20000
set_option maxHeartbeats 8000000
namespace Go.Proofs.YtkcbhebbjpiibaaDoor.Pg
open Go
open Nat renaming reduceEqDiff → zA, reduceAdd → zB, reduceMul → zC, reduceSub → zD, reduceLT → zE, reduceLeDiff → zF
open Int renaming reduceAdd → zG, reduceSub → zH, reduceMul → zI, reduceNeg → zJ, reduceToNat → zK, reduceEq → zL, reduceLT → zM, reduceLE → zN
variable {m : Int} {G : Nat → Option (List AV)}
def ir19 : IFn := ⟨9, [⟨2, none⟩, ⟨3, none⟩], (.seq (.reg [⟨(some 1), none, none, (.box 30 (.r 0))⟩, ⟨(some 2), none, none, (.mov (.k (.v (.bool false))))⟩, ⟨(some 3), none, none, (.mov (.k (.v (.int .i64 0))))⟩]) (.seq (.seq (.reg [⟨(some 4), none, (some (.r 1)), (.load (some 7) (.r 1))⟩, ⟨(some 5), none, (some (.r 4)), (.call 53 [.r 4])⟩, ⟨(some 6), none, none, (.bin .neq (.r 5) (.k (.v (.int .i64 0))))⟩]) (.cond (.r 6) (.seq (.reg [⟨(some 2), none, none, (.mov (.k (.v (.bool false))))⟩, ⟨(some 3), none, none, (.mov (.k (.v (.int .i64 20))))⟩]) .ret) .skip)) (.seq (.reg [⟨(some 7), none, (some (.r 1)), (.load (some 7) (.r 1))⟩, ⟨(some 8), none, (some (.r 7)), (.call 57 [.r 7])⟩, ⟨(some 2), none, none, (.mov (.r 8))⟩, ⟨(some 3), none, none, (.mov (.k (.v (.int .i64 0))))⟩]) .ret)))⟩
theorem c19 : cfunc Tryd.prog 19 = some ir19 := by kernel_rfl
theorem k19 : okIR (max 1 ir19.n) ir19.ir = true := by decide +kernel
theorem s_lFits (b : Bas) (hb : b.ok) (hf : b.few) (j : JH) : JC Tryd.prog (GG m) 19 [.agg b.enc] j (RET (.tup [BOO (basV b && fitR b), I64 (if basV b then 0 else 20)]) j) := by
  refine JC.run hmix c19 (by exact k19) ?_
  (try simp only [↓jr, jp, jd, jz, zA, zB, zC, zD, zE, zF, zG, zH, zI, zJ, zK, zL, zM, zN, reduceIte, ir19])
  refine JCs.ret (s_kbCheck b hb hf _) ?_
  (try simp only [↓jr, jp, jd, jz, zA, zB, zC, zD, zE, zF, zG, zH, zI, zJ, zK, zL, zM, zN, reduceIte])
  by_cases h : basV b = true
  · have h' : basR b = true := by rw [basR_eq]; exact h
    rw [if_pos h]
    (try simp only [↓jr, jp, jd, jz, zA, zB, zC, zD, zE, zF, zG, zH, zI, zJ, zK, zL, zM, zN, reduceIte])
    refine JCs.ret (s_fits b hb (basR_hds h') (basR_rs h') _) ?_
    (try simp only [↓jr, jp, jd, jz, zA, zB, zC, zD, zE, zF, zG, zH, zI, zJ, zK, zL, zM, zN, reduceIte])
    refine JFIN.ret ((JDropH.back (by repeat' (first | exact TokExt.refl _ | refine TokExt.push ?_ _ | refine TokExt.setT ?_ (by first | exact Nat.le_refl _ | (simp only [pushTok_tnext, setTok_tnext, ext_tnext, set_tnext]; omega)) _))).of_ext) ?_
    rw [h, Bool.true_and]; (repeat' (first | exact trivial | refine And.intro ?_ ?_ | exact SubB.v | exact SubB.any | ((first | refine SubB.ptr ?_ | refine SubB.arr ?_ | refine SubB.mp ?_) <;> first | assumption | (unfold pid; omega)) | ((first | refine SubB.pure ?_ | refine SubBs.pure ?_) <;> (simp only [AV.pure, AV.pures, pures_append, jpu, Bool.and_self, Bool.and_true, Bool.true_and]; done)) | refine SubB.fn ?_ ?_ | refine SubB.sl ?_ ?_ | refine SubB.agg ?_ | refine SubB.tup ?_ | rfl))
  · rw [if_neg h]
    simp only [Bool.not_eq_true] at h
    rw [h]
    (try simp only [↓jr, jp, jd, jz, zA, zB, zC, zD, zE, zF, zG, zH, zI, zJ, zK, zL, zM, zN, reduceIte])
    refine JFIN.ret ((JDropH.back (by repeat' (first | exact TokExt.refl _ | refine TokExt.push ?_ _ | refine TokExt.setT ?_ (by first | exact Nat.le_refl _ | (simp only [pushTok_tnext, setTok_tnext, ext_tnext, set_tnext]; omega)) _))).of_ext) ?_
    (repeat' (first | exact trivial | refine And.intro ?_ ?_ | exact SubB.v | exact SubB.any | ((first | refine SubB.ptr ?_ | refine SubB.arr ?_ | refine SubB.mp ?_) <;> first | assumption | (unfold pid; omega)) | ((first | refine SubB.pure ?_ | refine SubBs.pure ?_) <;> (simp only [AV.pure, AV.pures, pures_append, jpu, Bool.and_self, Bool.and_true, Bool.true_and]; done)) | refine SubB.fn ?_ ?_ | refine SubB.sl ?_ ?_ | refine SubB.agg ?_ | refine SubB.tup ?_ | rfl))
def ir20 : IFn := ⟨21, [⟨4, none⟩, ⟨5, none⟩], (.seq (.reg [⟨(some 2), none, none, (.box 24 (.r 0))⟩, ⟨(some 3), none, none, (.box 43 (.r 1))⟩, ⟨(some 4), none, none, (.mov (.k (.v (.bool false))))⟩, ⟨(some 5), none, none, (.mov (.k (.v (.int .i64 0))))⟩]) (.seq (.seq (.reg [⟨(some 9), none, (some (.r 2)), (.load (some 3) (.r 2))⟩, ⟨(some 10), none, (some (.r 3)), (.load (some 3) (.r 3))⟩, ⟨(some 11), none, none, (.call 54 [.r 9, .r 10])⟩, ⟨(some 6), none, none, (.mov (.r 11))⟩]) (.seq (.reg [⟨(some 12), none, none, (.mov (.r 6))⟩, ⟨(some 13), none, none, (.bin .neq (.r 12) (.k (.v (.int .i64 0))))⟩]) (.cond (.r 13) (.seq (.reg [⟨(some 14), none, none, (.mov (.r 6))⟩, ⟨(some 4), none, none, (.mov (.k (.v (.bool false))))⟩, ⟨(some 5), none, none, (.mov (.r 14))⟩]) .ret) .skip))) (.seq (.reg [⟨(some 16), none, (some (.r 3)), (.load (some 3) (.r 3))⟩, ⟨(some 17), none, (some (.r 16)), (.call 55 [.r 16])⟩, ⟨(some 15), none, none, (.mov (.r 17))⟩, ⟨(some 18), none, none, (.ext (.r 15) 0)⟩, ⟨(some 19), none, none, (.ext (.r 15) 1)⟩, ⟨(some 7), none, none, (.mov (.r 18))⟩, ⟨(some 8), none, none, (.mov (.r 19))⟩]) (.seq (.reg [⟨(some 20), none, none, (.mov (.r 8))⟩, ⟨(some 4), none, none, (.mov (.r 20))⟩, ⟨(some 5), none, none, (.mov (.k (.v (.int .i64 0))))⟩]) .ret))))⟩
theorem c20 : cfunc Tryd.prog 20 = some ir20 := by kernel_rfl
theorem k20 : okIR (max 2 ir20.n) ir20.ir = true := by decide +kernel
theorem s_lBasic (n : Nms) (hn : n.ok) (hs : n.short) (c : Con) (hc : c.ok) (hb : c.nodes ≤ 4000000000) (j : JH) : JC Tryd.prog (GG m) 20 [.agg n.enc, .agg c.enc] j (RET (.tup [BOO (decide (fineE n [c] = 0) && basC c), I64 (fineE n [c])]) j) := by
  refine JC.run hmix c20 (by exact k20) ?_
  (try simp only [↓jr, jp, jd, jz, zA, zB, zC, zD, zE, zF, zG, zH, zI, zJ, zK, zL, zM, zN, reduceIte, ir20])
  refine JCs.ret (s_Check n hn hs c hc hb _) ?_
  (try simp only [↓jr, jp, jd, jz, zA, zB, zC, zD, zE, zF, zG, zH, zI, zJ, zK, zL, zM, zN, reduceIte])
  refine wq.intro (fun h => ?_) (fun h => ?_)
  · (try simp only [↓jr, jp, jd, jz, zA, zB, zC, zD, zE, zF, zG, zH, zI, zJ, zK, zL, zM, zN, reduceIte])
    have h' := h
    unfold fineE at h'
    split at h'
    · omega
    · rename_i g1
      simp only [Bool.not_eq_false] at g1
      have g2 : conOK n c = true := by
        simp only [List.all_cons, List.all_nil, Bool.and_true] at h'
        split at h'
        · assumption
        · omega
      refine JCs.ret (s_of c (shaped_hd (conOK_shaped g2)) (shaped_r16 g1 (conOK_shaped g2)) _) ?_
      (try simp only [↓jr, jp, jd, jz, zA, zB, zC, zD, zE, zF, zG, zH, zI, zJ, zK, zL, zM, zN, reduceIte])
      refine JFIN.ret ((JDropH.back (by repeat' (first | exact TokExt.refl _ | refine TokExt.push ?_ _ | refine TokExt.setT ?_ (by first | exact Nat.le_refl _ | (simp only [pushTok_tnext, setTok_tnext, ext_tnext, set_tnext]; omega)) _))).of_ext) ?_
      rw [h]; (repeat' (first | exact trivial | refine And.intro ?_ ?_ | exact SubB.v | exact SubB.any | ((first | refine SubB.ptr ?_ | refine SubB.arr ?_ | refine SubB.mp ?_) <;> first | assumption | (unfold pid; omega)) | ((first | refine SubB.pure ?_ | refine SubBs.pure ?_) <;> (simp only [AV.pure, AV.pures, pures_append, jpu, Bool.and_self, Bool.and_true, Bool.true_and]; done)) | refine SubB.fn ?_ ?_ | refine SubB.sl ?_ ?_ | refine SubB.agg ?_ | refine SubB.tup ?_ | rfl))
  · (try simp only [↓jr, jp, jd, jz, zA, zB, zC, zD, zE, zF, zG, zH, zI, zJ, zK, zL, zM, zN, reduceIte])
    refine JFIN.ret ((JDropH.back (by repeat' (first | exact TokExt.refl _ | refine TokExt.push ?_ _ | refine TokExt.setT ?_ (by first | exact Nat.le_refl _ | (simp only [pushTok_tnext, setTok_tnext, ext_tnext, set_tnext]; omega)) _))).of_ext) ?_
    rw [decide_eq_false h]; (repeat' (first | exact trivial | refine And.intro ?_ ?_ | exact SubB.v | exact SubB.any | ((first | refine SubB.ptr ?_ | refine SubB.arr ?_ | refine SubB.mp ?_) <;> first | assumption | (unfold pid; omega)) | ((first | refine SubB.pure ?_ | refine SubBs.pure ?_) <;> (simp only [AV.pure, AV.pures, pures_append, jpu, Bool.and_self, Bool.and_true, Bool.true_and]; done)) | refine SubB.fn ?_ ?_ | refine SubB.sl ?_ ?_ | refine SubB.agg ?_ | refine SubB.tup ?_ | rfl))
def askE (b : Bas) : Int := if basV b = false then 20 else if fitR b then 0 else 100
def ir45 : IFn := ⟨11, [⟨2, none⟩], (.seq (.reg [⟨(some 1), none, none, (.box 30 (.r 0))⟩, ⟨(some 2), none, none, (.mov (.k (.v (.int .i64 0))))⟩]) (.seq (.block 0 (.seq (.reg [⟨(some 4), none, (some (.r 1)), (.load (some 7) (.r 1))⟩, ⟨(some 5), none, (some (.r 4)), (.call 53 [.r 4])⟩, ⟨(some 6), none, none, (.bin .neq (.r 5) (.k (.v (.int .i64 0))))⟩, ⟨(some 3), none, none, (.mov (.r 6))⟩]) (.cond (.r 3) (.seq (.reg [⟨(some 2), none, none, (.mov (.k (.v (.int .i64 20))))⟩]) .ret) (.seq (.reg [⟨(some 8), none, (some (.r 1)), (.load (some 7) (.r 1))⟩, ⟨(some 9), none, (some (.r 8)), (.call 57 [.r 8])⟩, ⟨(some 10), none, none, (.not (.r 9))⟩, ⟨(some 7), none, none, (.mov (.r 10))⟩]) (.cond (.r 7) (.seq (.reg [⟨(some 2), none, none, (.mov (.k (.v (.int .i64 100))))⟩]) .ret) .skip))))) (.seq (.reg [⟨(some 2), none, none, (.mov (.k (.v (.int .i64 0))))⟩]) .ret)))⟩
theorem c45 : cfunc Tryd.prog 45 = some ir45 := by kernel_rfl
theorem k45 : okIR (max 1 ir45.n) ir45.ir = true := by decide +kernel
theorem s_asks (b : Bas) (hb : b.ok) (hf : b.few) (j : JH) : JC Tryd.prog (GG m) 45 [.agg b.enc] j (RET (I64 (askE b)) j) := by
  refine JC.run hmix c45 (by exact k45) ?_
  (try simp only [↓jr, jp, jd, jz, zA, zB, zC, zD, zE, zF, zG, zH, zI, zJ, zK, zL, zM, zN, reduceIte, ir45])
  refine JCs.ret (s_kbCheck b hb hf _) ?_
  by_cases h : basV b = true
  · have h' : basR b = true := by rw [basR_eq]; exact h
    rw [if_pos h]
    (try simp only [↓jr, jp, jd, jz, zA, zB, zC, zD, zE, zF, zG, zH, zI, zJ, zK, zL, zM, zN, reduceIte])
    refine JCs.ret (s_fits b hb (basR_hds h') (basR_rs h') _) ?_
    (try simp only [↓jr, jp, jd, jz, zA, zB, zC, zD, zE, zF, zG, zH, zI, zJ, zK, zL, zM, zN, reduceIte])
    refine ww.intro (fun q => ?_) (fun q => ?_)
    all_goals
      (try simp only [↓jr, jp, jd, jz, zA, zB, zC, zD, zE, zF, zG, zH, zI, zJ, zK, zL, zM, zN, reduceIte])
      refine JFIN.ret ((JDropH.back (by repeat' (first | exact TokExt.refl _ | refine TokExt.push ?_ _ | refine TokExt.setT ?_ (by first | exact Nat.le_refl _ | (simp only [pushTok_tnext, setTok_tnext, ext_tnext, set_tnext]; omega)) _))).of_ext) ?_
      unfold askE; rw [h, q]; exact SubB.v
  · rw [if_neg h]
    simp only [Bool.not_eq_true] at h
    (try simp only [↓jr, jp, jd, jz, zA, zB, zC, zD, zE, zF, zG, zH, zI, zJ, zK, zL, zM, zN, reduceIte])
    refine JFIN.ret ((JDropH.back (by repeat' (first | exact TokExt.refl _ | refine TokExt.push ?_ _ | refine TokExt.setT ?_ (by first | exact Nat.le_refl _ | (simp only [pushTok_tnext, setTok_tnext, ext_tnext, set_tnext]; omega)) _))).of_ext) ?_
    unfold askE; rw [h]; exact SubB.v
/-- What a law looks at. -/
def lookB (b : Bas) (l : List Con) : Bool := l.all (fun c => decide ((c.nodes : Int) ≤ 400)) && fewB 400 b
def ir8 : IFn := ⟨19, [⟨4, none⟩], (.seq (.reg [⟨(some 2), none, none, (.box 30 (.r 0))⟩, ⟨(some 4), none, none, (.mov (.k (.v (.bool false))))⟩]) (.seq (.seq (.reg [⟨(some 7), none, none, (.mov (.r 1))⟩, ⟨(some 8), none, (some (.r 7)), (.lenl (.r 7))⟩, ⟨(some 9), none, none, (.mov (.k (.v (.int .i64 0))))⟩]) (.block 0 (.loop (.seq (.reg [⟨(some 10), none, none, (.bin .lss (.r 9) (.r 8))⟩]) (.seq (.cond (.r 10) .skip (.exit 0)) (.seq (.block 1 (.seq (.reg [⟨(some 11), none, none, (.iasl 3 (.r 7) (.r 9))⟩, ⟨(some 12), none, (some (.r 11)), (.load (some 3) (.r 11))⟩, ⟨(some 6), none, none, (.alloc 43 [.v (.int .i64 0), .v (.int .i64 0), .sl .nil 0 []])⟩, ⟨none, none, none, (.store 3 (.r 6) (.r 12))⟩]) (.seq (.reg [⟨(some 13), none, (some (.r 6)), (.load (some 3) (.r 6))⟩, ⟨(some 14), none, none, (.call 40 [.r 13, .k (.v (.int .i64 400))])⟩, ⟨(some 15), none, none, (.not (.r 14))⟩]) (.cond (.r 15) (.seq (.reg [⟨(some 4), none, none, (.mov (.k (.v (.bool false))))⟩]) .ret) .skip)))) (.reg [⟨(some 16), none, none, (.bin .add (.r 9) (.k (.v (.int .i64 1))))⟩, ⟨(some 9), none, none, (.mov (.r 16))⟩]))))))) (.seq (.reg [⟨(some 17), none, (some (.r 2)), (.load (some 7) (.r 2))⟩, ⟨(some 18), none, none, (.call 41 [.r 17, .k (.v (.int .i64 400))])⟩, ⟨(some 4), none, none, (.mov (.r 18))⟩]) .ret)))⟩
theorem c8 : cfunc Tryd.prog 8 = some ir8 := by kernel_rfl
theorem k8 : okIR (max 2 ir8.n) ir8.ir = true := by decide +kernel
theorem s_looked (b : Bas) (hb : b.ok) (l : List Con) (tok : Tok) (hl : Con.oks l) (hll : l.length < 4611686018427387904) (j : JH) : JC Tryd.prog G 8 [.agg b.enc, .sl tok l.length (encs Con.enc l)] j (RET (BOO (lookB b l)) j) := by
  refine JC.run hmix c8 (by exact k8) ?_
  (try simp only [↓jr, jp, jd, jz, zA, zB, zC, zD, zE, zF, zG, zH, zI, zJ, zK, zL, zM, zN, reduceIte, ir8])
  refine JLOOP.of (σ := Nat) (fun s => s ≤ (l).length ∧ (l.drop s).all (fun c => decide ((c.nodes : Int) ≤ 400)) = l.all (fun c => decide ((c.nodes : Int) ≤ 400))) (fun s => (l).length - s) (fun s => [(9, I64 s), (8, I64 l.length), (7, .sl .none l.length (encs Con.enc l)), (2, .ptr (pid j.next 0) 0)]) (fun s => ext j [.cells 30 b.enc]) 0 ⟨Nat.zero_le _, ?_⟩ ?_ (JDropH.refl _) ?_
  · rfl
  · ((try simp only [↓jr, jp, jd, jz, zA, zB, zC, zD, zE, zF, zG, zH, zI, zJ, zK, zL, zM, zN, reduceIte, DL]) <;> (repeat' (first | exact trivial | refine And.intro ?_ ?_ | exact SubB.v | exact SubB.any | ((first | refine SubB.ptr ?_ | refine SubB.arr ?_ | refine SubB.mp ?_) <;> first | assumption | (unfold pid; omega)) | ((first | refine SubB.pure ?_ | refine SubBs.pure ?_) <;> (simp only [AV.pure, AV.pures, pures_append, jpu, Bool.and_self, Bool.and_true, Bool.true_and]; done)) | refine SubB.fn ?_ ?_ | refine SubB.sl ?_ ?_ | refine SubB.agg ?_ | refine SubB.tup ?_ | rfl)))
  rintro k ⟨hk, hI⟩
  try simp only at hk hI
  (try simp only [↓jr, jp, jd, jz, zA, zB, zC, zD, zE, zF, zG, zH, zI, zJ, zK, zL, zM, zN, reduceIte])
  refine wq.intro (fun h1 => ?_) (fun h1 => ?_)
  · have hlt : k < (l).length := by omega
    obtain ⟨c, r, hd⟩ : ∃ c_ l_, List.drop k (l) = c_ :: l_ := ⟨_, _, List.drop_eq_getElem_cons hlt⟩
    have hd1 : List.drop (k + 1) (l) = r := by rw [← List.drop_drop, hd]; rfl
    have hmem : c ∈ l := List.mem_of_mem_drop (hd ▸ List.mem_cons_self)
    (try simp only [↓jr, jp, jd, jz, zA, zB, zC, zD, zE, zF, zG, zH, zI, zJ, zK, zL, zM, zN, reduceIte, hd])
    refine wc.intro (by omega) ?_
    (try simp only [↓jr, jp, jd, jz, zA, zB, zC, zD, zE, zF, zG, zH, zI, zJ, zK, zL, zM, zN, reduceIte, hd])
    rw [hd] at hI
    rw [List.all_cons] at hI
    refine JCs.ret (s_Fits c 400 _ (Con.oks_mem hl hmem) (by omega) (by omega)) ?_
    (try simp only [↓jr, jp, jd, jz, zA, zB, zC, zD, zE, zF, zG, zH, zI, zJ, zK, zL, zM, zN, reduceIte])
    refine wq.intro (fun c1 => ?_) (fun c1 => ?_)
    · (try simp only [↓jr, jp, jd, jz, zA, zB, zC, zD, zE, zF, zG, zH, zI, zJ, zK, zL, zM, zN, reduceIte])
      rw [decide_eq_true c1] at hI
      refine wc.intro (R64_add hlt (by omega)) ?_; (try simp only [↓jr, jp, jd, jz, zA, zB, zC, zD, zE, zF, zG, zH, zI, zJ, zK, zL, zM, zN, reduceIte])
      refine JNEXT.of (k + 1) ⟨by omega, by rw [hd1]; exact hI⟩ (by omega) ?_ (JDropH.next0 (by repeat' (first | exact TokExt.refl _ | refine TokExt.push ?_ _ | refine TokExt.setT ?_ (by first | exact Nat.le_refl _ | (simp only [pushTok_tnext, setTok_tnext, ext_tnext, set_tnext]; omega)) _)) (by simp only [LSub, and_self, true_or, and_true]))
      ((try simp only [↓jr, jp, jd, jz, zA, zB, zC, zD, zE, zF, zG, zH, zI, zJ, zK, zL, zM, zN, reduceIte, DL]) <;> (repeat' (first | exact trivial | refine And.intro ?_ ?_ | exact SubB.v | exact SubB.any | ((first | refine SubB.ptr ?_ | refine SubB.arr ?_ | refine SubB.mp ?_) <;> first | assumption | (unfold pid; omega)) | ((first | refine SubB.pure ?_ | refine SubBs.pure ?_) <;> (simp only [AV.pure, AV.pures, pures_append, jpu, Bool.and_self, Bool.and_true, Bool.true_and]; done)) | refine SubB.fn ?_ ?_ | refine SubB.sl ?_ ?_ | refine SubB.agg ?_ | refine SubB.tup ?_ | rfl)))
    · (try simp only [↓jr, jp, jd, jz, zA, zB, zC, zD, zE, zF, zG, zH, zI, zJ, zK, zL, zM, zN, reduceIte])
      refine JFIN.ret ((JDropH.back (by repeat' (first | exact TokExt.refl _ | refine TokExt.push ?_ _ | refine TokExt.setT ?_ (by first | exact Nat.le_refl _ | (simp only [pushTok_tnext, setTok_tnext, ext_tnext, set_tnext]; omega)) _))).of_ext) ?_
      unfold lookB; rw [← hI, decide_eq_false c1]; exact SubB.v
  (try simp only [↓jr, jp, jd, jz, zA, zB, zC, zD, zE, zF, zG, zH, zI, zJ, zK, zL, zM, zN, reduceIte])
  rw [List.drop_eq_nil_of_le (by omega), List.all_nil] at hI
  refine JCs.ret (s_Few b hb 400 (by omega) (by omega) _) ?_
  (try simp only [↓jr, jp, jd, jz, zA, zB, zC, zD, zE, zF, zG, zH, zI, zJ, zK, zL, zM, zN, reduceIte])
  refine JFIN.ret ((JDropH.back (by repeat' (first | exact TokExt.refl _ | refine TokExt.push ?_ _ | refine TokExt.setT ?_ (by first | exact Nat.le_refl _ | (simp only [pushTok_tnext, setTok_tnext, ext_tnext, set_tnext]; omega)) _))).of_ext) ?_
  unfold lookB; rw [← hI]; exact SubB.v
def ir52 : IFn := ⟨11, [⟨6, (some (some 3))⟩], (.seq (.reg [⟨(some 6), none, none, (.alloc 43 [.v (.int .i64 0), .v (.int .i64 0), .sl .nil 0 []])⟩]) (.seq (.reg [⟨(some 7), none, none, (.mov (.r 0))⟩, ⟨(some 8), none, none, (.mov (.r 1))⟩, ⟨(some 9), none, none, (.mov (.r 2))⟩, ⟨(some 10), none, none, (.build [.v (.int .i64 0), .v (.int .i64 0), .sl .nil 0 []] [(0, (1, .r 7)), (1, (1, .r 8)), (2, (1, .r 9))])⟩, ⟨none, none, none, (.store 3 (.r 6) (.r 10))⟩]) .ret))⟩
theorem c52 : cfunc Tryd.prog 52 = some ir52 := by kernel_rfl
theorem k52 : okIR (max 3 ir52.n) ir52.ir = true := by decide +kernel
theorem s_COf (o n : Int) (l : List Con) (tok : Tok) (j : JH) : JC Tryd.prog G 52 [I64 o, I64 n, .sl tok l.length (encs Con.enc l)] j (RET (.agg (Con.mk o n l).enc) j) := by
  refine JC.run hmix c52 (by exact k52) ?_
  (try simp only [↓jr, jp, jd, jz, zA, zB, zC, zD, zE, zF, zG, zH, zI, zJ, zK, zL, zM, zN, reduceIte, ir52])
  refine JFIN.ret ((JDropH.back (by repeat' (first | exact TokExt.refl _ | refine TokExt.push ?_ _ | refine TokExt.setT ?_ (by first | exact Nat.le_refl _ | (simp only [pushTok_tnext, setTok_tnext, ext_tnext, set_tnext]; omega)) _))).of_ext) ?_
  (repeat' (first | exact trivial | refine And.intro ?_ ?_ | exact SubB.v | exact SubB.any | ((first | refine SubB.ptr ?_ | refine SubB.arr ?_ | refine SubB.mp ?_) <;> first | assumption | (unfold pid; omega)) | ((first | refine SubB.pure ?_ | refine SubBs.pure ?_) <;> (simp only [AV.pure, AV.pures, pures_append, jpu, Bool.and_self, Bool.and_true, Bool.true_and]; done)) | refine SubB.fn ?_ ?_ | refine SubB.sl ?_ ?_ | refine SubB.agg ?_ | refine SubB.tup ?_ | rfl))
  rw [Con.encs_eq]; exact SubBs.pure (encs_pur Con.pur _)
def ir17 : IFn := ⟨6, [⟨2, (some (some 3))⟩], (.seq (.reg [⟨(some 1), none, none, (.box 43 (.r 0))⟩, ⟨(some 2), none, none, (.alloc 43 [.v (.int .i64 0), .v (.int .i64 0), .sl .nil 0 []])⟩]) (.seq (.reg [⟨(some 3), none, (some (.r 1)), (.load (some 3) (.r 1))⟩, ⟨(some 4), none, none, (.bsl 1 3 [.v (.int .i64 0), .v (.int .i64 0), .sl .nil 0 []] [(0, (3, .r 3))])⟩, ⟨(some 5), none, none, (.call 52 [.k (.v (.int .i64 3)), .k (.v (.int .i64 0)), .r 4])⟩, ⟨none, none, none, (.store 3 (.r 2) (.r 5))⟩]) .ret))⟩
theorem c17 : cfunc Tryd.prog 17 = some ir17 := by kernel_rfl
theorem k17 : okIR (max 1 ir17.n) ir17.ir = true := by decide +kernel
theorem s_not (c : Con) (j : JH) : JC Tryd.prog G 17 [.agg c.enc] j (RET (.agg (Con.mk 3 0 [c]).enc) j) := by
  refine JC.run hmix c17 (by exact k17) ?_
  (try simp only [↓jr, jp, jd, jz, zA, zB, zC, zD, zE, zF, zG, zH, zI, zJ, zK, zL, zM, zN, reduceIte, ir17])
  have h := s_COf (G := G) 3 0 [c] (.own j.tnext 0 3) (ext (j.pushTok 1) [.cells 43 c.enc, .cells 43 [I64 0, I64 0, .sl .nil 0 []]])
  rw [encs_cons, encs_nil, List.append_nil] at h
  refine JCs.ret h ?_
  (try simp only [↓jr, jp, jd, jz, zA, zB, zC, zD, zE, zF, zG, zH, zI, zJ, zK, zL, zM, zN, reduceIte])
  refine JFIN.ret ((JDropH.back (by repeat' (first | exact TokExt.refl _ | refine TokExt.push ?_ _ | refine TokExt.setT ?_ (by first | exact Nat.le_refl _ | (simp only [pushTok_tnext, setTok_tnext, ext_tnext, set_tnext]; omega)) _))).of_ext) ?_
  exact SubB.pure (Con.pur _)
end Go.Proofs.YtkcbhebbjpiibaaDoor.Pg
