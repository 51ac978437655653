/-
  concept.Valid, fine, Check.
-/
import Derived.Test.YtkcbhebbjpiibaaDoorLh
set_option linter.unusedVariables false
set_option linter.unusedSimpArgs false
set_option maxRecDepth 20000
set_option maxHeartbeats 8000000
namespace Go.Proofs.YtkcbhebbjpiibaaDoor.Pg
open Go
open Nat renaming reduceEqDiff → zA, reduceAdd → zB, reduceMul → zC, reduceSub → zD, reduceLT → zE, reduceLeDiff → zF
open Int renaming reduceAdd → zG, reduceSub → zH, reduceMul → zI, reduceNeg → zJ, reduceToNat → zK, reduceEq → zL, reduceLT → zM, reduceLE → zN
variable {m : Int}
theorem vld_conOK (n : Nms) (c : Con) : (vld n.cs.length n.rs.length c 400 1).1 = conOK n c := by
  rw [(vld_eq n.cs.length n.rs.length c 400 1).1]
  unfold conOK
  congr 2
  · exact decide_eq_decide.2 (by omega)
  · exact decide_eq_decide.2 (by omega)
def ir92 : IFn := ⟨11, [⟨6, none⟩], (.seq (.reg [⟨(some 3), none, none, (.box 24 (.r 0))⟩, ⟨(some 4), none, none, (.box 43 (.r 1))⟩, ⟨(some 6), none, none, (.mov (.k (.v (.bool false))))⟩]) (.seq (.reg [⟨(some 7), none, (some (.r 3)), (.load (some 3) (.r 3))⟩, ⟨(some 8), none, (some (.r 4)), (.load (some 3) (.r 4))⟩, ⟨(some 9), none, none, (.mov (.r 2))⟩, ⟨(some 10), none, none, (.call 100 [.r 7, .r 8, .r 9, .k (.v (.int .i64 1))])⟩, ⟨(some 6), none, none, (.mov (.r 10))⟩]) .ret))⟩
theorem c92 : cfunc Tryd.prog 92 = some ir92 := by kernel_rfl
theorem k92 : okIR (max 3 ir92.n) ir92.ir = true := by decide +kernel
theorem s_Valid (n : Nms) (hn : n.ok) (e : TypeId) (c : Con) (o : Nat) (x : Int) (j : JH) (hc : c.ok) (ho : o < j.next) (hg : j.get o = some (.cells e [I64 x])) (h1 : -4611686018427387904 ≤ x - c.nodes) (h2 : x ≤ 4611686018427387904) :
    JC Tryd.prog (GG m) 92 [.agg n.enc, .agg c.enc, .ptr o 0] j (RET (BOO (vld n.cs.length n.rs.length c x 1).1) (j.set o (.cells e [I64 (vld n.cs.length n.rs.length c x 1).2]))) := by
  refine JC.run hmix c92 (by exact k92) ?_
  (try simp only [↓jr, jp, jd, jz, zA, zB, zC, zD, zE, zF, zG, zH, zI, zJ, zK, zL, zM, zN, reduceIte, ir92])
  refine JCs.ret (s_valid n hn e c o x 1 (ext j [.cells 24 n.enc, .cells 43 c.enc]) hc (by rw [ext_next]; unfold pid; omega) (by rw [ext_get_old ho]; exact hg) h1 h2 (by omega) (by omega)) ?_
  (try simp only [↓jr, jp, jd, jz, zA, zB, zC, zD, zE, zF, zG, zH, zI, zJ, zK, zL, zM, zN, reduceIte, ext_set_old, ho])
  exact JFIN.ret (JDropH.back1 (TokExt.refl _) ho (OSub.pure rfl)).of_ext SubB.v
def fineE (n : Nms) (l : List Con) : Int := if namesOK n = false then 20 else if l.all (conOK n) then 0 else 10
theorem consOK_bound {c : Con} (h : c.nodes ≤ 4000000000) : -4611686018427387904 ≤ (400 : Int) - c.nodes := by omega
def ir82 : IFn := ⟨22, [⟨4, none⟩], (.seq (.reg [⟨(some 2), none, none, (.box 24 (.r 0))⟩, ⟨(some 4), none, none, (.mov (.k (.v (.int .i64 0))))⟩]) (.seq (.seq (.reg [⟨(some 8), none, (some (.r 2)), (.load (some 3) (.r 2))⟩, ⟨(some 9), none, (some (.r 8)), (.call 90 [.r 8])⟩, ⟨(some 10), none, none, (.not (.r 9))⟩]) (.cond (.r 10) (.seq (.reg [⟨(some 4), none, none, (.mov (.k (.v (.int .i64 20))))⟩]) .ret) .skip)) (.seq (.seq (.reg [⟨(some 11), none, none, (.mov (.r 1))⟩, ⟨(some 12), none, (some (.r 11)), (.lenl (.r 11))⟩, ⟨(some 13), none, none, (.mov (.k (.v (.int .i64 0))))⟩]) (.block 0 (.loop (.seq (.reg [⟨(some 14), none, none, (.bin .lss (.r 13) (.r 12))⟩]) (.seq (.cond (.r 14) .skip (.exit 0)) (.seq (.block 1 (.seq (.reg [⟨(some 15), none, none, (.iasl 3 (.r 11) (.r 13))⟩, ⟨(some 16), none, (some (.r 15)), (.load (some 3) (.r 15))⟩, ⟨(some 6), none, none, (.alloc 43 [.v (.int .i64 0), .v (.int .i64 0), .sl .nil 0 []])⟩, ⟨none, none, none, (.store 3 (.r 6) (.r 16))⟩]) (.seq (.reg [⟨(some 7), none, none, (.alloc 3 [.v (.int .i64 0)])⟩, ⟨none, none, none, (.store 1 (.r 7) (.k (.v (.int .i64 400))))⟩]) (.seq (.reg [⟨(some 17), none, (some (.r 2)), (.load (some 3) (.r 2))⟩, ⟨(some 18), none, (some (.r 6)), (.load (some 3) (.r 6))⟩, ⟨(some 19), none, none, (.call 92 [.r 17, .r 18, .r 7])⟩, ⟨(some 20), none, none, (.not (.r 19))⟩]) (.cond (.r 20) (.seq (.reg [⟨(some 4), none, none, (.mov (.k (.v (.int .i64 10))))⟩]) .ret) .skip))))) (.reg [⟨(some 21), none, none, (.bin .add (.r 13) (.k (.v (.int .i64 1))))⟩, ⟨(some 13), none, none, (.mov (.r 21))⟩]))))))) (.seq (.reg [⟨(some 4), none, none, (.mov (.k (.v (.int .i64 0))))⟩]) .ret))))⟩
theorem c82 : cfunc Tryd.prog 82 = some ir82 := by kernel_rfl
theorem k82 : okIR (max 2 ir82.n) ir82.ir = true := by decide +kernel
theorem s_fine (n : Nms) (hn : n.ok) (hs : n.short) (l : List Con) (tok : Tok) (hl : Con.oks l) (hll : l.length < 4611686018427387904) (hb : ∀ c ∈ l, c.nodes ≤ 4000000000) (j : JH) :
    JC Tryd.prog (GG m) 82 [.agg n.enc, .sl tok l.length (encs Con.enc l)] j (RET (I64 (fineE n l)) j) := by
  refine JC.run hmix c82 (by exact k82) ?_
  (try simp only [↓jr, jp, jd, jz, zA, zB, zC, zD, zE, zF, zG, zH, zI, zJ, zK, zL, zM, zN, reduceIte, ir82])
  refine JCs.ret (s_ValidNames n hn hs _) ?_
  (try simp only [↓jr, jp, jd, jz, zA, zB, zC, zD, zE, zF, zG, zH, zI, zJ, zK, zL, zM, zN, reduceIte])
  refine ww.intro (fun h0 => ?_) (fun h0 => ?_)
  · (try simp only [↓jr, jp, jd, jz, zA, zB, zC, zD, zE, zF, zG, zH, zI, zJ, zK, zL, zM, zN, reduceIte])
    refine JLOOP.of (σ := Nat) (fun k => k ≤ l.length ∧ (l.drop k).all (conOK n) = l.all (conOK n)) (fun k => l.length - k)
      (fun k => [(13, I64 k), (12, I64 l.length), (11, .sl .none l.length (encs Con.enc l)), (2, .ptr (pid j.next 0) 0)]) (fun k => ext j [.cells 24 n.enc]) 0 ⟨by omega, rfl⟩ ?_ (JDropH.refl _) ?_
    · (try simp only [↓jr, jp, jd, jz, zA, zB, zC, zD, zE, zF, zG, zH, zI, zJ, zK, zL, zM, zN, reduceIte, DL])
      exact ⟨SubB.v, SubB.v, SubB.sl rfl (SubBs.pure (encs_pur Con.pur _)), SubB.ptr (by unfold pid; omega)⟩
    · rintro k ⟨hk, hI⟩
      (try simp only [↓jr, jp, jd, jz, zA, zB, zC, zD, zE, zF, zG, zH, zI, zJ, zK, zL, zM, zN, reduceIte])
      refine wq.intro (fun h1 => ?_) (fun h1 => ?_)
      · have hlt : k < (l).length := by omega
        obtain ⟨c, r, hd⟩ : ∃ c_ l_, List.drop k (l) = c_ :: l_ := ⟨_, _, List.drop_eq_getElem_cons hlt⟩
        have hd1 : List.drop (k + 1) (l) = r := by rw [← List.drop_drop, hd]; rfl
        have hmem : c ∈ l := List.mem_of_mem_drop (hd ▸ List.mem_cons_self)
        rw [hd, List.all_cons] at hI
        (try simp only [↓jr, jp, jd, jz, zA, zB, zC, zD, zE, zF, zG, zH, zI, zJ, zK, zL, zM, zN, reduceIte, hd])
        refine wc.intro (by omega) ?_
        (try simp only [↓jr, jp, jd, jz, zA, zB, zC, zD, zE, zF, zG, zH, zI, zJ, zK, zL, zM, zN, reduceIte, hd])
        refine JCs.ret (s_Valid n hn 3 c (pid j.next 2) 400 (ext j [.cells 24 n.enc, .cells 43 c.enc, .cells 3 [I64 400]]) (Con.oks_mem hl hmem) (by rw [ext_next]; unfold pid; simp) (by (try simp only [↓jr, jp, jd, jz, zA, zB, zC, zD, zE, zF, zG, zH, zI, zJ, zK, zL, zM, zN, reduceIte])) (consOK_bound (hb c hmem)) (by omega)) ?_
        (try simp only [↓jr, jp, jd, jz, zA, zB, zC, zD, zE, zF, zG, zH, zI, zJ, zK, zL, zM, zN, reduceIte])
        rw [vld_conOK]
        refine ww.intro (fun h2 => ?_) (fun h2 => ?_)
        · (try simp only [↓jr, jp, jd, jz, zA, zB, zC, zD, zE, zF, zG, zH, zI, zJ, zK, zL, zM, zN, reduceIte])
          refine wc.intro (R64_add hlt hll) ?_
          (try simp only [↓jr, jp, jd, jz, zA, zB, zC, zD, zE, zF, zG, zH, zI, zJ, zK, zL, zM, zN, reduceIte])
          rw [h2, Bool.true_and] at hI
          refine JNEXT.of (k + 1) ⟨by omega, by rw [hd1, hI]⟩ (by omega) ?_ (JDropH.next0 (by repeat' (first | exact TokExt.refl _ | refine TokExt.push ?_ _ | refine TokExt.setT ?_ (by first | exact Nat.le_refl _ | (simp only [pushTok_tnext, setTok_tnext, ext_tnext, set_tnext]; omega)) _)) (by simp only [LSub, and_self, true_or, and_true]))
          ((try simp only [↓jr, jp, jd, jz, zA, zB, zC, zD, zE, zF, zG, zH, zI, zJ, zK, zL, zM, zN, reduceIte, DL]) <;> (repeat' (first | exact trivial | refine And.intro ?_ ?_ | exact SubB.v | exact SubB.any | ((first | refine SubB.ptr ?_ | refine SubB.arr ?_ | refine SubB.mp ?_) <;> first | assumption | (unfold pid; omega)) | ((first | refine SubB.pure ?_ | refine SubBs.pure ?_) <;> (simp only [AV.pure, AV.pures, pures_append, jpu, Bool.and_self, Bool.and_true, Bool.true_and]; done)) | refine SubB.fn ?_ ?_ | refine SubB.sl ?_ ?_ | refine SubB.agg ?_ | refine SubB.tup ?_ | rfl)))
        · (try simp only [↓jr, jp, jd, jz, zA, zB, zC, zD, zE, zF, zG, zH, zI, zJ, zK, zL, zM, zN, reduceIte])
          rw [h2, Bool.false_and] at hI
          refine JFIN.ret ((JDropH.back (by repeat' (first | exact TokExt.refl _ | refine TokExt.push ?_ _ | refine TokExt.setT ?_ (by first | exact Nat.le_refl _ | (simp only [pushTok_tnext, setTok_tnext, ext_tnext, set_tnext]; omega)) _))).of_ext) ?_
          unfold fineE; rw [h0, ← hI]; exact SubB.v
      · (try simp only [↓jr, jp, jd, jz, zA, zB, zC, zD, zE, zF, zG, zH, zI, zJ, zK, zL, zM, zN, reduceIte])
        rw [List.drop_eq_nil_of_le (by omega), List.all_nil] at hI
        refine JFIN.ret ((JDropH.back (by repeat' (first | exact TokExt.refl _ | refine TokExt.push ?_ _ | refine TokExt.setT ?_ (by first | exact Nat.le_refl _ | (simp only [pushTok_tnext, setTok_tnext, ext_tnext, set_tnext]; omega)) _))).of_ext) ?_
        unfold fineE; rw [h0, ← hI]; exact SubB.v
  · (try simp only [↓jr, jp, jd, jz, zA, zB, zC, zD, zE, zF, zG, zH, zI, zJ, zK, zL, zM, zN, reduceIte])
    refine JFIN.ret ((JDropH.back (by repeat' (first | exact TokExt.refl _ | refine TokExt.push ?_ _ | refine TokExt.setT ?_ (by first | exact Nat.le_refl _ | (simp only [pushTok_tnext, setTok_tnext, ext_tnext, set_tnext]; omega)) _))).of_ext) ?_
    unfold fineE; rw [h0]; exact SubB.v
def ir54 : IFn := ⟨9, [⟨4, none⟩], (.seq (.reg [⟨(some 2), none, none, (.box 24 (.r 0))⟩, ⟨(some 3), none, none, (.box 43 (.r 1))⟩, ⟨(some 4), none, none, (.mov (.k (.v (.int .i64 0))))⟩]) (.seq (.reg [⟨(some 5), none, (some (.r 2)), (.load (some 3) (.r 2))⟩, ⟨(some 6), none, (some (.r 3)), (.load (some 3) (.r 3))⟩, ⟨(some 7), none, none, (.bsl 1 3 [.v (.int .i64 0), .v (.int .i64 0), .sl .nil 0 []] [(0, (3, .r 6))])⟩, ⟨(some 8), none, none, (.call 82 [.r 5, .r 7])⟩, ⟨(some 4), none, none, (.mov (.r 8))⟩]) .ret))⟩
theorem c54 : cfunc Tryd.prog 54 = some ir54 := by kernel_rfl
theorem k54 : okIR (max 2 ir54.n) ir54.ir = true := by decide +kernel
theorem s_Check (n : Nms) (hn : n.ok) (hs : n.short) (c : Con) (hc : c.ok) (hb : c.nodes ≤ 4000000000) (j : JH) : JC Tryd.prog (GG m) 54 [.agg n.enc, .agg c.enc] j (RET (I64 (fineE n [c])) j) := by
  refine JC.run hmix c54 (by exact k54) ?_
  (try simp only [↓jr, jp, jd, jz, zA, zB, zC, zD, zE, zF, zG, zH, zI, zJ, zK, zL, zM, zN, reduceIte, ir54])
  have hf := s_fine (m := m) n hn hs [c] (.own j.tnext 0 3) ⟨hc, trivial⟩ (by simp) (by simpa using hb) (ext (j.pushTok 1) [.cells 24 n.enc, .cells 43 c.enc])
  rw [encs_cons, encs_nil, List.append_nil] at hf
  refine JCs.ret hf ?_
  (try simp only [↓jr, jp, jd, jz, zA, zB, zC, zD, zE, zF, zG, zH, zI, zJ, zK, zL, zM, zN, reduceIte])
  refine JFIN.ret ((JDropH.back (by repeat' (first | exact TokExt.refl _ | refine TokExt.push ?_ _ | refine TokExt.setT ?_ (by first | exact Nat.le_refl _ | (simp only [pushTok_tnext, setTok_tnext, ext_tnext, set_tnext]; omega)) _))).of_ext) ?_
  exact SubB.v
end Go.Proofs.YtkcbhebbjpiibaaDoor.Pg
