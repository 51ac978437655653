/-
  What the rules imply; a matrix made transitive.
-/
import Derived.Test.YtkcbhebbjpiibaaDoorLq
set_option linter.unusedVariables false
set_option linter.unusedSimpArgs false
set_option maxRecDepth 20000
set_option maxHeartbeats 1000000
namespace Go.Proofs.YtkcbhebbjpiibaaDoor.Pg
open Go
open Nat renaming reduceEqDiff → zA, reduceAdd → zB, reduceMul → zC, reduceSub → zD, reduceLT → zE, reduceLeDiff → zF
open Int renaming reduceAdd → zG, reduceSub → zH, reduceMul → zI, reduceNeg → zJ, reduceToNat → zK, reduceEq → zL, reduceLT → zM, reduceLE → zN
section
variable {m : Int} {G : Nat → Option (List AV)}
def implR (N c d : Nat) (no bot : Bool) : Bool := emp N c || (!bot && (if no then emp N d || confl N c d else rch N c d))
def ir59 : IFn := ⟨43, [⟨6, none⟩], (.seq (.reg [⟨(some 5), none, none, (.box 101 (.r 2))⟩, ⟨(some 6), none, none, (.mov (.k (.v (.bool false))))⟩]) (.seq (.block 0 (.seq (.reg [⟨(some 8), none, none, (.mov (.r 0))⟩, ⟨(some 9), none, none, (.mov (.r 1))⟩, ⟨(some 10), none, none, (.nchk (.r 8))⟩, ⟨(some 11), none, none, (.fadr 1712 (.r 10))⟩, ⟨(some 12), none, none, (.iaar 28 1 (.r 11) (.r 9))⟩, ⟨(some 13), none, (some (.r 12)), (.load none (.r 12))⟩, ⟨(some 7), none, none, (.mov (.r 13))⟩]) (.cond (.r 7) (.seq (.reg [⟨(some 6), none, none, (.mov (.k (.v (.bool true))))⟩]) .ret) (.seq (.reg [⟨(some 15), none, none, (.fadr 2 (.r 5))⟩, ⟨(some 16), none, (some (.r 15)), (.load none (.r 15))⟩, ⟨(some 14), none, none, (.mov (.r 16))⟩]) (.cond (.r 14) (.seq (.reg [⟨(some 6), none, none, (.mov (.k (.v (.bool false))))⟩]) .ret) (.seq (.reg [⟨(some 18), none, none, (.fadr 1 (.r 5))⟩, ⟨(some 19), none, (some (.r 18)), (.load none (.r 18))⟩, ⟨(some 17), none, none, (.mov (.r 19))⟩]) (.cond (.r 17) (.seq (.draw [⟨(some 20), none, none, (.mov (.r 0))⟩, ⟨(some 21), none, none, (.fadr 0 (.r 5))⟩, ⟨(some 22), none, (some (.r 21)), (.load none (.r 21))⟩, ⟨(some 23), none, none, (.nchk (.r 20))⟩, ⟨(some 24), none, none, (.fadr 1712 (.r 23))⟩, ⟨(some 25), none, none, (.iaar 28 1 (.r 24) (.r 22))⟩, ⟨(some 26), none, (some (.r 25)), (.load none (.r 25))⟩, ⟨(some 27), none, none, (.mov (.r 26))⟩, ⟨(some 28), (some ((27, false))), none, (.mov (.r 0))⟩, ⟨(some 29), (some ((27, false))), none, (.mov (.r 1))⟩, ⟨(some 30), (some ((27, false))), none, (.fadr 0 (.r 5))⟩, ⟨(some 31), (some ((27, false))), (some (.r 30)), (.load none (.r 30))⟩, ⟨(some 32), (some ((27, false))), none, (.call 78 [.r 28, .r 29, .r 31])⟩, ⟨(some 33), none, none, (.pick (.r 27) (.k (.v (.bool true))) (.r 32))⟩, ⟨(some 6), none, none, (.mov (.r 33))⟩] []) .ret) .skip))))))) (.seq (.draw [⟨(some 34), none, none, (.mov (.r 0))⟩, ⟨(some 35), none, none, (.mov (.r 1))⟩, ⟨(some 36), none, none, (.fadr 0 (.r 5))⟩, ⟨(some 37), none, (some (.r 36)), (.load none (.r 36))⟩, ⟨(some 38), none, none, (.nchk (.r 34))⟩, ⟨(some 39), none, none, (.fadr 0 (.r 38))⟩, ⟨(some 40), none, none, (.iaar 28 28 (.r 39) (.r 35))⟩, ⟨(some 41), none, none, (.iaar 28 1 (.r 40) (.r 37))⟩, ⟨(some 42), none, (some (.r 41)), (.load none (.r 41))⟩, ⟨(some 6), none, none, (.mov (.r 42))⟩] []) .ret)))⟩
theorem c59 : cfunc Tryd.prog 59 = some ir59 := by kernel_rfl
theorem k59 : okIR (max 3 ir59.n) ir59.ir = true := by decide +kernel
theorem s_implies (o : Nat) (t : TypeId) (N : Nat) (c d : Nat) (hc : c < 28) (hd : d < 28) (no bot : Bool) (j : JH) (ho : o < j.next) (hg : j.get o = some (.cells t (rb N))) : JC Tryd.prog G 59 [.ptr o 0, I64 c, SIDE (d, no, bot)] j (RET (BOO (implR N c d no bot)) j) := by
  refine JC.run hmix c59 (by exact k59) ?_
  (try simp only [↓jr, jp, jd, jz, zA, zB, zC, zD, zE, zF, zG, zH, zI, zJ, zK, zL, zM, zN, reduceIte, ext_get_old, ho, hg, rb_ld, rrow_ld, rb_len, rrow_len, ir59])
  repeat' (first | (refine wq.intro (fun _ => ?_) (fun _ => ?_) <;> first | contradiction | (try simp only [↓jr, jp, jd, jz, zA, zB, zC, zD, zE, zF, zG, zH, zI, zJ, zK, zL, zM, zN, reduceIte, ext_get_old, ho, hg, rb_ld, rrow_ld, rb_len, rrow_len])) | (refine ww.intro (fun _ => ?_) (fun _ => ?_) <;> first | contradiction | (try simp only [↓jr, jp, jd, jz, zA, zB, zC, zD, zE, zF, zG, zH, zI, zJ, zK, zL, zM, zN, reduceIte, ext_get_old, ho, hg, rb_ld, rrow_ld, rb_len, rrow_len])) | (refine wc.intro (by first | omega | (unfold R64; omega) | trivial) ?_; (try simp only [↓jr, jp, jd, jz, zA, zB, zC, zD, zE, zF, zG, zH, zI, zJ, zK, zL, zM, zN, reduceIte, ext_get_old, ho, hg, rb_ld, rrow_ld, rb_len, rrow_len])) | (refine wr.in (by unfold R64; omega) ?_; (try simp only [↓jr, jp, jd, jz, zA, zB, zC, zD, zE, zF, zG, zH, zI, zJ, zK, zL, zM, zN, reduceIte, ext_get_old, ho, hg, rb_ld, rrow_ld, rb_len, rrow_len])) | (refine JCs.ret (s_conflict o t N c d hc hd _ (old_lt ho) (old_get ho hg)) ?_; (try simp only [↓jr, jp, jd, jz, zA, zB, zC, zD, zE, zF, zG, zH, zI, zJ, zK, zL, zM, zN, reduceIte, ext_get_old, ho, hg, rb_ld, rrow_ld, rb_len, rrow_len])) | (refine JDC.use (s_conflict o t N c d hc hd _ (old_lt ho) (old_get ho hg)) ?_; (try simp only [↓jr, jp, jd, jz, zA, zB, zC, zD, zE, zF, zG, zH, zI, zJ, zK, zL, zM, zN, reduceIte, ext_get_old, ho, hg, rb_ld, rrow_ld, rb_len, rrow_len])) | (refine JDRAW.of (by (try simp only [↓jr, jp, jd, jz, zA, zB, zC, zD, zE, zF, zG, zH, zI, zJ, zK, zL, zM, zN, reduceIte, ext_get_old, ho, hg, rb_ld, rrow_ld, rb_len, rrow_len, jq]) <;> (repeat' (first | exact trivial | refine And.intro ?_ ?_ | assumption | (unfold pid; omega)))) (by (try simp only [↓jr, jp, jd, jz, zA, zB, zC, zD, zE, zF, zG, zH, zI, zJ, zK, zL, zM, zN, reduceIte, ext_get_old, ho, hg, rb_ld, rrow_ld, rb_len, rrow_len, jq]) <;> (repeat' (first | exact trivial | refine And.intro ?_ ?_))) ?_; (try simp only [↓jr, jp, jd, jz, zA, zB, zC, zD, zE, zF, zG, zH, zI, zJ, zK, zL, zM, zN, reduceIte, ext_get_old, ho, hg, rb_ld, rrow_ld, rb_len, rrow_len])))
  all_goals
    refine JFIN.ret ((JDropH.back (by repeat' (first | exact TokExt.refl _ | refine TokExt.push ?_ _ | refine TokExt.setT ?_ (by first | exact Nat.le_refl _ | (simp only [pushTok_tnext, setTok_tnext, ext_tnext, set_tnext]; omega)) _))).of_ext) ?_
    simp only [implR, emp, rch]
    simp only [*, Bool.true_or, Bool.false_or, Bool.not_true, Bool.not_false, Bool.false_and, Bool.true_and, if_true, if_false, Bool.false_eq_true]
    first | exact SubB.v | trace_state
def trS (n b : Nat) (j i N k : Nat) : Nat := if N.testBit (b + i * n + j) && N.testBit (b + j * n + k) then put N (b + i * n + k) else N
def trK (n b j i N k : Nat) : Nat := (List.range k).foldl (trS n b j i) N
def trI (n b j N i : Nat) : Nat := (List.range i).foldl (fun N i => trK n b j i N n) N
def trJ (n b N j : Nat) : Nat := (List.range j).foldl (fun N j => trI n b j N n) N
theorem trK_succ (n b j i N k : Nat) : trK n b j i N (k + 1) = trS n b j i (trK n b j i N k) k := by unfold trK; rw [List.range_succ, List.foldl_append]; rfl
theorem trI_succ (n b j N i : Nat) : trI n b j N (i + 1) = trK n b j i (trI n b j N i) n := by unfold trI; rw [List.range_succ, List.foldl_append]; rfl
theorem trJ_succ (n b N j : Nat) : trJ n b N (j + 1) = trI n b j (trJ n b N j) n := by unfold trJ; rw [List.range_succ, List.foldl_append]; rfl
theorem hb84 : hasBody Tryd.prog 84 = true := by decide +kernel
theorem hb86 : hasBody Tryd.prog 86 = true := by decide +kernel
def ir83 : IFn := ⟨47, [], (.seq (.reg [⟨(some 7), none, none, (.mov (.r 0))⟩, ⟨(some 8), none, (some (.r 7)), (.lenl (.r 7))⟩, ⟨(some 9), none, none, (.mov (.k (.v (.int .i64 0))))⟩]) (.block 0 (.loop (.seq (.reg [⟨(some 10), none, none, (.bin .lss (.r 9) (.r 8))⟩]) (.seq (.cond (.r 10) .skip (.exit 0)) (.seq (.block 1 (.seq (.reg [⟨(some 11), none, none, (.mov (.r 9))⟩, ⟨(some 4), none, none, (.mov (.r 11))⟩]) (.seq (.reg [⟨(some 12), none, none, (.mov (.r 0))⟩, ⟨(some 13), none, (some (.r 12)), (.lenl (.r 12))⟩, ⟨(some 14), none, none, (.mov (.k (.v (.int .i64 0))))⟩]) (.block 2 (.loop (.seq (.reg [⟨(some 15), none, none, (.bin .lss (.r 14) (.r 13))⟩]) (.seq (.cond (.r 15) .skip (.exit 2)) (.seq (.block 3 (.seq (.reg [⟨(some 16), none, none, (.mov (.r 14))⟩, ⟨(some 5), none, none, (.mov (.r 16))⟩]) (.seq (.reg [⟨(some 17), none, none, (.mov (.r 0))⟩, ⟨(some 18), none, (some (.r 17)), (.lenl (.r 17))⟩, ⟨(some 19), none, none, (.mov (.k (.v (.int .i64 0))))⟩]) (.block 4 (.loop (.seq (.reg [⟨(some 20), none, none, (.bin .lss (.r 19) (.r 18))⟩]) (.seq (.cond (.r 20) .skip (.exit 4)) (.seq (.block 5 (.seq (.reg [⟨(some 21), none, none, (.mov (.r 19))⟩, ⟨(some 6), none, none, (.mov (.r 21))⟩]) (.seq (.reg [⟨(some 22), none, none, (.mov (.r 1))⟩, ⟨(some 23), none, none, (.mov (.r 0))⟩, ⟨(some 24), none, none, (.mov (.r 5))⟩, ⟨(some 25), none, none, (.mov (.r 4))⟩, ⟨(some 26), none, none, (.callv (.r 22) [.r 23, .r 24, .r 25])⟩, ⟨(some 27), none, none, (.nchk (.r 26))⟩, ⟨(some 28), none, (some (.r 27)), (.load none (.r 27))⟩, ⟨(some 29), none, none, (.mov (.r 28))⟩, ⟨(some 30), (some ((29, true))), none, (.mov (.r 1))⟩, ⟨(some 31), (some ((29, true))), none, (.mov (.r 0))⟩, ⟨(some 32), (some ((29, true))), none, (.mov (.r 4))⟩, ⟨(some 33), (some ((29, true))), none, (.mov (.r 6))⟩, ⟨(some 34), (some ((29, true))), none, (.callv (.r 30) [.r 31, .r 32, .r 33])⟩, ⟨(some 35), (some ((29, true))), none, (.nchk (.r 34))⟩, ⟨(some 36), (some ((29, true))), (some (.r 35)), (.load none (.r 35))⟩, ⟨(some 37), none, none, (.pick (.r 29) (.r 36) (.k (.v (.bool false))))⟩]) (.cond (.r 37) (.reg [⟨(some 38), none, none, (.mov (.r 1))⟩, ⟨(some 39), none, none, (.mov (.r 0))⟩, ⟨(some 40), none, none, (.mov (.r 5))⟩, ⟨(some 41), none, none, (.mov (.r 6))⟩, ⟨(some 42), none, none, (.callv (.r 38) [.r 39, .r 40, .r 41])⟩, ⟨(some 43), none, none, (.nchk (.r 42))⟩, ⟨none, none, none, (.store 1 (.r 43) (.k (.v (.bool true))))⟩]) .skip)))) (.reg [⟨(some 44), none, none, (.bin .add (.r 19) (.k (.v (.int .i64 1))))⟩, ⟨(some 19), none, none, (.mov (.r 44))⟩]))))))))) (.reg [⟨(some 45), none, none, (.bin .add (.r 14) (.k (.v (.int .i64 1))))⟩, ⟨(some 14), none, none, (.mov (.r 45))⟩]))))))))) (.reg [⟨(some 46), none, none, (.bin .add (.r 9) (.k (.v (.int .i64 1))))⟩, ⟨(some 9), none, none, (.mov (.r 46))⟩])))))))⟩
theorem c83 : cfunc Tryd.prog 83 = some ir83 := by kernel_rfl
theorem k83 : okIR (max 2 ir83.n) ir83.ir = true := by decide +kernel
theorem s_trans28 (o off : Nat) (t : TypeId) (N : Nat) (j : JH) (ho : o < j.next) (hoff : off + 784 ≤ 1740) : JC Tryd.prog G 83 [.arr o off 28, .fn (.func 84) [] []] (j.set o (.cells t (rb N))) (RET (.tup []) (j.set o (.cells t (rb (trJ 28 off N 28))))) := by
  refine JC.run hmix c83 (by exact k83) ?_
  (try simp only [↓jr, jp, jd, jz, zA, zB, zC, zD, zE, zF, zG, zH, zI, zJ, zK, zL, zM, zN, reduceIte, ext_get_old, ext_set_old, ho, rb_ld, rb_len, set_get, set_set, ir83])
  refine JLOOP.of (σ := Nat) (fun x => x ≤ 28) (fun x => 28 - x) (fun x => [(9, I64 x), (8, I64 28), (0, .arr o off 28), (1, .fn (.func 84) [] [])]) (fun x => ext (j.set o (.cells t (rb (trJ 28 off N x)))) []) 0 (by omega) ?_ (JDropH.refl _) ?_
  · ((try simp only [↓jr, jp, jd, jz, zA, zB, zC, zD, zE, zF, zG, zH, zI, zJ, zK, zL, zM, zN, reduceIte, ext_get_old, ext_set_old, ho, rb_ld, rb_len, set_get, set_set, DL]) <;> (repeat' (first | exact trivial | refine And.intro ?_ ?_ | exact SubB.v | exact SubB.any | ((first | refine SubB.ptr ?_ | refine SubB.arr ?_ | refine SubB.mp ?_) <;> first | assumption | (unfold pid; omega)) | ((first | refine SubB.pure ?_ | refine SubBs.pure ?_) <;> (simp only [AV.pure, AV.pures, pures_append, jpu, rrow_pur, rb_pur, Bool.and_self, Bool.and_true, Bool.true_and]; done)) | refine SubB.fn ?_ ?_ | refine SubB.sl ?_ ?_ | refine SubB.agg ?_ | refine SubB.tup ?_ | rfl)))
  rintro x hx
  (try simp only [↓jr, jp, jd, jz, zA, zB, zC, zD, zE, zF, zG, zH, zI, zJ, zK, zL, zM, zN, reduceIte, ext_get_old, ext_set_old, ho, rb_ld, rb_len, set_get, set_set])
  refine wq.intro (fun h1 => ?_) (fun h1 => ?_)
  · (try simp only [↓jr, jp, jd, jz, zA, zB, zC, zD, zE, zF, zG, zH, zI, zJ, zK, zL, zM, zN, reduceIte, ext_get_old, ext_set_old, ho, rb_ld, rb_len, set_get, set_set])
    generalize hM : trJ 28 off N x = M
    refine JLOOP.of (σ := Nat) (fun y => y ≤ 28) (fun y => 28 - y) (fun y => [(14, I64 y), (13, I64 28), (4, I64 x), (9, I64 x), (8, I64 28), (0, .arr o off 28), (1, .fn (.func 84) [] [])]) (fun y => ext (j.set o (.cells t (rb (trI 28 off x M y)))) []) 0 (by omega) ?_ (JDropH.refl _) ?_
    · ((try simp only [↓jr, jp, jd, jz, zA, zB, zC, zD, zE, zF, zG, zH, zI, zJ, zK, zL, zM, zN, reduceIte, ext_get_old, ext_set_old, ho, rb_ld, rb_len, set_get, set_set, DL]) <;> (repeat' (first | exact trivial | refine And.intro ?_ ?_ | exact SubB.v | exact SubB.any | ((first | refine SubB.ptr ?_ | refine SubB.arr ?_ | refine SubB.mp ?_) <;> first | assumption | (unfold pid; omega)) | ((first | refine SubB.pure ?_ | refine SubBs.pure ?_) <;> (simp only [AV.pure, AV.pures, pures_append, jpu, rrow_pur, rb_pur, Bool.and_self, Bool.and_true, Bool.true_and]; done)) | refine SubB.fn ?_ ?_ | refine SubB.sl ?_ ?_ | refine SubB.agg ?_ | refine SubB.tup ?_ | rfl)))
    rintro y hy
    (try simp only [↓jr, jp, jd, jz, zA, zB, zC, zD, zE, zF, zG, zH, zI, zJ, zK, zL, zM, zN, reduceIte, ext_get_old, ext_set_old, ho, rb_ld, rb_len, set_get, set_set])
    refine wq.intro (fun h2 => ?_) (fun h2 => ?_)
    · (try simp only [↓jr, jp, jd, jz, zA, zB, zC, zD, zE, zF, zG, zH, zI, zJ, zK, zL, zM, zN, reduceIte, ext_get_old, ext_set_old, ho, rb_ld, rb_len, set_get, set_set])
      generalize hL : trI 28 off x M y = L
      refine JLOOP.of (σ := Nat) (fun z => z ≤ 28) (fun z => 28 - z) (fun z => [(19, I64 z), (18, I64 28), (5, I64 y), (14, I64 y), (13, I64 28), (4, I64 x), (9, I64 x), (8, I64 28), (0, .arr o off 28), (1, .fn (.func 84) [] [])]) (fun z => ext (j.set o (.cells t (rb (trK 28 off x y L z)))) []) 0 (by omega) ?_ (JDropH.refl _) ?_
      · ((try simp only [↓jr, jp, jd, jz, zA, zB, zC, zD, zE, zF, zG, zH, zI, zJ, zK, zL, zM, zN, reduceIte, ext_get_old, ext_set_old, ho, rb_ld, rb_len, set_get, set_set, DL]) <;> (repeat' (first | exact trivial | refine And.intro ?_ ?_ | exact SubB.v | exact SubB.any | ((first | refine SubB.ptr ?_ | refine SubB.arr ?_ | refine SubB.mp ?_) <;> first | assumption | (unfold pid; omega)) | ((first | refine SubB.pure ?_ | refine SubBs.pure ?_) <;> (simp only [AV.pure, AV.pures, pures_append, jpu, rrow_pur, rb_pur, Bool.and_self, Bool.and_true, Bool.true_and]; done)) | refine SubB.fn ?_ ?_ | refine SubB.sl ?_ ?_ | refine SubB.agg ?_ | refine SubB.tup ?_ | rfl)))
      rintro z hz
      (try simp only [↓jr, jp, jd, jz, zA, zB, zC, zD, zE, zF, zG, zH, zI, zJ, zK, zL, zM, zN, reduceIte, ext_get_old, ext_set_old, ho, rb_ld, rb_len, set_get, set_set])
      refine wq.intro (fun h3 => ?_) (fun h3 => ?_)
      · (try simp only [↓jr, jp, jd, jz, zA, zB, zC, zD, zE, zF, zG, zH, zI, zJ, zK, zL, zM, zN, reduceIte, ext_get_old, ext_set_old, ho, rb_ld, rb_len, set_get, set_set])
        generalize hP : trK 28 off x y L z = P
        refine wc.intro hb84 ?_
        (try simp only [↓jr, jp, jd, jz, zA, zB, zC, zD, zE, zF, zG, zH, zI, zJ, zK, zL, zM, zN, reduceIte, ext_get_old, ext_set_old, ho, rb_ld, rb_len, set_get, set_set])
        refine JCs.ret (s_at28 o off y x (by omega) (by omega) _ (sold_lt ho)) ?_
        (try simp only [↓jr, jp, jd, jz, zA, zB, zC, zD, zE, zF, zG, zH, zI, zJ, zK, zL, zM, zN, reduceIte, ext_get_old, ext_set_old, ho, rb_ld, rb_len, set_get, set_set])
        refine wc.intro (by omega) ?_
        (try simp only [↓jr, jp, jd, jz, zA, zB, zC, zD, zE, zF, zG, zH, zI, zJ, zK, zL, zM, zN, reduceIte, ext_get_old, ext_set_old, ho, rb_ld, rb_len, set_get, set_set])
        have nx : ∀ {q : Nat}, trS 28 off x y P z = q → trK 28 off x y L (z + 1) = q := fun e => by rw [trK_succ, hP]; exact e
        have stay : (P.testBit (off + y * 28 + x) && P.testBit (off + x * 28 + z)) = false → trK 28 off x y L (z + 1) = P := fun q => nx (by unfold trS; rw [if_neg (by rw [q]; exact Bool.false_ne_true)])
        refine ww.intro (fun q1 => ?_) (fun q1 => ?_)
        · (try simp only [↓jr, jp, jd, jz, zA, zB, zC, zD, zE, zF, zG, zH, zI, zJ, zK, zL, zM, zN, reduceIte, ext_get_old, ext_set_old, ho, rb_ld, rb_len, set_get, set_set])
          refine wc.intro hb84 ?_
          (try simp only [↓jr, jp, jd, jz, zA, zB, zC, zD, zE, zF, zG, zH, zI, zJ, zK, zL, zM, zN, reduceIte, ext_get_old, ext_set_old, ho, rb_ld, rb_len, set_get, set_set])
          refine JCs.ret (s_at28 o off x z (by omega) (by omega) _ (sold_lt ho)) ?_
          (try simp only [↓jr, jp, jd, jz, zA, zB, zC, zD, zE, zF, zG, zH, zI, zJ, zK, zL, zM, zN, reduceIte, ext_get_old, ext_set_old, ho, rb_ld, rb_len, set_get, set_set])
          refine wc.intro (by omega) ?_
          (try simp only [↓jr, jp, jd, jz, zA, zB, zC, zD, zE, zF, zG, zH, zI, zJ, zK, zL, zM, zN, reduceIte, ext_get_old, ext_set_old, ho, rb_ld, rb_len, set_get, set_set])
          refine ww.intro (fun q2 => ?_) (fun q2 => ?_)
          · (try simp only [↓jr, jp, jd, jz, zA, zB, zC, zD, zE, zF, zG, zH, zI, zJ, zK, zL, zM, zN, reduceIte, ext_get_old, ext_set_old, ho, rb_ld, rb_len, set_get, set_set])
            refine wc.intro hb84 ?_
            (try simp only [↓jr, jp, jd, jz, zA, zB, zC, zD, zE, zF, zG, zH, zI, zJ, zK, zL, zM, zN, reduceIte, ext_get_old, ext_set_old, ho, rb_ld, rb_len, set_get, set_set])
            refine JCs.ret (s_at28 o off y z (by omega) (by omega) _ (sold_lt ho)) ?_
            (try simp only [↓jr, jp, jd, jz, zA, zB, zC, zD, zE, zF, zG, zH, zI, zJ, zK, zL, zM, zN, reduceIte, ext_get_old, ext_set_old, ho, rb_ld, rb_len, set_get, set_set])
            refine wc.put (by omega) (by omega) ?_
            (try simp only [↓jr, jp, jd, jz, zA, zB, zC, zD, zE, zF, zG, zH, zI, zJ, zK, zL, zM, zN, reduceIte, ext_get_old, ext_set_old, ho, rb_ld, rb_len, set_get, set_set])
            refine wc.intro (by unfold R64; omega) ?_
            (try simp only [↓jr, jp, jd, jz, zA, zB, zC, zD, zE, zF, zG, zH, zI, zJ, zK, zL, zM, zN, reduceIte, ext_get_old, ext_set_old, ho, rb_ld, rb_len, set_get, set_set])
            have e := nx (by unfold trS; rw [if_pos (by rw [q1, q2]; rfl)])
            refine JNEXT.of (z + 1) (by omega) (by omega) ?_ (by simp only [e, hP]; exact JDropH.nextS (OSub.pure (rb_pur _)) True.intro)
            rw [e]
            ((try simp only [↓jr, jp, jd, jz, zA, zB, zC, zD, zE, zF, zG, zH, zI, zJ, zK, zL, zM, zN, reduceIte, ext_get_old, ext_set_old, ho, rb_ld, rb_len, set_get, set_set, DL]) <;> (repeat' (first | exact trivial | refine And.intro ?_ ?_ | exact SubB.v | exact SubB.any | ((first | refine SubB.ptr ?_ | refine SubB.arr ?_ | refine SubB.mp ?_) <;> first | assumption | (unfold pid; omega)) | ((first | refine SubB.pure ?_ | refine SubBs.pure ?_) <;> (simp only [AV.pure, AV.pures, pures_append, jpu, rrow_pur, rb_pur, Bool.and_self, Bool.and_true, Bool.true_and]; done)) | refine SubB.fn ?_ ?_ | refine SubB.sl ?_ ?_ | refine SubB.agg ?_ | refine SubB.tup ?_ | rfl)))
          · (try simp only [↓jr, jp, jd, jz, zA, zB, zC, zD, zE, zF, zG, zH, zI, zJ, zK, zL, zM, zN, reduceIte, ext_get_old, ext_set_old, ho, rb_ld, rb_len, set_get, set_set])
            refine wc.intro (by unfold R64; omega) ?_
            (try simp only [↓jr, jp, jd, jz, zA, zB, zC, zD, zE, zF, zG, zH, zI, zJ, zK, zL, zM, zN, reduceIte, ext_get_old, ext_set_old, ho, rb_ld, rb_len, set_get, set_set])
            have e := stay (by rw [q1, q2]; rfl)
            refine JNEXT.of (z + 1) (by omega) (by omega) ?_ (by simp only [e, hP]; exact JDropH.nextS (OSub.pure (rb_pur _)) True.intro)
            rw [e]
            ((try simp only [↓jr, jp, jd, jz, zA, zB, zC, zD, zE, zF, zG, zH, zI, zJ, zK, zL, zM, zN, reduceIte, ext_get_old, ext_set_old, ho, rb_ld, rb_len, set_get, set_set, DL]) <;> (repeat' (first | exact trivial | refine And.intro ?_ ?_ | exact SubB.v | exact SubB.any | ((first | refine SubB.ptr ?_ | refine SubB.arr ?_ | refine SubB.mp ?_) <;> first | assumption | (unfold pid; omega)) | ((first | refine SubB.pure ?_ | refine SubBs.pure ?_) <;> (simp only [AV.pure, AV.pures, pures_append, jpu, rrow_pur, rb_pur, Bool.and_self, Bool.and_true, Bool.true_and]; done)) | refine SubB.fn ?_ ?_ | refine SubB.sl ?_ ?_ | refine SubB.agg ?_ | refine SubB.tup ?_ | rfl)))
        · (try simp only [↓jr, jp, jd, jz, zA, zB, zC, zD, zE, zF, zG, zH, zI, zJ, zK, zL, zM, zN, reduceIte, ext_get_old, ext_set_old, ho, rb_ld, rb_len, set_get, set_set])
          refine wc.intro (by unfold R64; omega) ?_
          (try simp only [↓jr, jp, jd, jz, zA, zB, zC, zD, zE, zF, zG, zH, zI, zJ, zK, zL, zM, zN, reduceIte, ext_get_old, ext_set_old, ho, rb_ld, rb_len, set_get, set_set])
          have e := stay (by rw [q1]; rfl)
          refine JNEXT.of (z + 1) (by omega) (by omega) ?_ (by simp only [e, hP]; exact JDropH.nextS (OSub.pure (rb_pur _)) True.intro)
          rw [e]
          ((try simp only [↓jr, jp, jd, jz, zA, zB, zC, zD, zE, zF, zG, zH, zI, zJ, zK, zL, zM, zN, reduceIte, ext_get_old, ext_set_old, ho, rb_ld, rb_len, set_get, set_set, DL]) <;> (repeat' (first | exact trivial | refine And.intro ?_ ?_ | exact SubB.v | exact SubB.any | ((first | refine SubB.ptr ?_ | refine SubB.arr ?_ | refine SubB.mp ?_) <;> first | assumption | (unfold pid; omega)) | ((first | refine SubB.pure ?_ | refine SubBs.pure ?_) <;> (simp only [AV.pure, AV.pures, pures_append, jpu, rrow_pur, rb_pur, Bool.and_self, Bool.and_true, Bool.true_and]; done)) | refine SubB.fn ?_ ?_ | refine SubB.sl ?_ ?_ | refine SubB.agg ?_ | refine SubB.tup ?_ | rfl)))
      · (try simp only [↓jr, jp, jd, jz, zA, zB, zC, zD, zE, zF, zG, zH, zI, zJ, zK, zL, zM, zN, reduceIte, ext_get_old, ext_set_old, ho, rb_ld, rb_len, set_get, set_set])
        refine wc.intro (by unfold R64; omega) ?_
        (try simp only [↓jr, jp, jd, jz, zA, zB, zC, zD, zE, zF, zG, zH, zI, zJ, zK, zL, zM, zN, reduceIte, ext_get_old, ext_set_old, ho, rb_ld, rb_len, set_get, set_set])
        have ez : z = 28 := by omega
        subst ez
        have e : trI 28 off x M (y + 1) = trK 28 off x y L 28 := by rw [trI_succ, hL]
        refine JNEXT.of (y + 1) (by omega) (by omega) ?_ (by simp only [e, hL]; exact JDropH.nextS (OSub.pure (rb_pur _)) True.intro)
        rw [e]
        ((try simp only [↓jr, jp, jd, jz, zA, zB, zC, zD, zE, zF, zG, zH, zI, zJ, zK, zL, zM, zN, reduceIte, ext_get_old, ext_set_old, ho, rb_ld, rb_len, set_get, set_set, DL]) <;> (repeat' (first | exact trivial | refine And.intro ?_ ?_ | exact SubB.v | exact SubB.any | ((first | refine SubB.ptr ?_ | refine SubB.arr ?_ | refine SubB.mp ?_) <;> first | assumption | (unfold pid; omega)) | ((first | refine SubB.pure ?_ | refine SubBs.pure ?_) <;> (simp only [AV.pure, AV.pures, pures_append, jpu, rrow_pur, rb_pur, Bool.and_self, Bool.and_true, Bool.true_and]; done)) | refine SubB.fn ?_ ?_ | refine SubB.sl ?_ ?_ | refine SubB.agg ?_ | refine SubB.tup ?_ | rfl)))
    · (try simp only [↓jr, jp, jd, jz, zA, zB, zC, zD, zE, zF, zG, zH, zI, zJ, zK, zL, zM, zN, reduceIte, ext_get_old, ext_set_old, ho, rb_ld, rb_len, set_get, set_set])
      refine wc.intro (by unfold R64; omega) ?_
      (try simp only [↓jr, jp, jd, jz, zA, zB, zC, zD, zE, zF, zG, zH, zI, zJ, zK, zL, zM, zN, reduceIte, ext_get_old, ext_set_old, ho, rb_ld, rb_len, set_get, set_set])
      have ey : y = 28 := by omega
      subst ey
      have e : trJ 28 off N (x + 1) = trI 28 off x M 28 := by rw [trJ_succ, hM]
      refine JNEXT.of (x + 1) (by omega) (by omega) ?_ (by simp only [e, hM]; exact JDropH.nextS (OSub.pure (rb_pur _)) True.intro)
      rw [e]
      ((try simp only [↓jr, jp, jd, jz, zA, zB, zC, zD, zE, zF, zG, zH, zI, zJ, zK, zL, zM, zN, reduceIte, ext_get_old, ext_set_old, ho, rb_ld, rb_len, set_get, set_set, DL]) <;> (repeat' (first | exact trivial | refine And.intro ?_ ?_ | exact SubB.v | exact SubB.any | ((first | refine SubB.ptr ?_ | refine SubB.arr ?_ | refine SubB.mp ?_) <;> first | assumption | (unfold pid; omega)) | ((first | refine SubB.pure ?_ | refine SubBs.pure ?_) <;> (simp only [AV.pure, AV.pures, pures_append, jpu, rrow_pur, rb_pur, Bool.and_self, Bool.and_true, Bool.true_and]; done)) | refine SubB.fn ?_ ?_ | refine SubB.sl ?_ ?_ | refine SubB.agg ?_ | refine SubB.tup ?_ | rfl)))
  · (try simp only [↓jr, jp, jd, jz, zA, zB, zC, zD, zE, zF, zG, zH, zI, zJ, zK, zL, zM, zN, reduceIte, ext_get_old, ext_set_old, ho, rb_ld, rb_len, set_get, set_set])
    have ex : x = 28 := by omega
    subst ex
    exact JFIN.ret (JDropH.backS ho (OSub.pure (rb_pur _))).of_ext (SubB.tup True.intro)
end

/-! ### The matrix of roles made transitive. -/
section
variable {m : Int} {G : Nat → Option (List AV)}
def ir85 : IFn := ⟨47, [], (.seq (.reg [⟨(some 7), none, none, (.mov (.r 0))⟩, ⟨(some 8), none, (some (.r 7)), (.lenl (.r 7))⟩, ⟨(some 9), none, none, (.mov (.k (.v (.int .i64 0))))⟩]) (.block 0 (.loop (.seq (.reg [⟨(some 10), none, none, (.bin .lss (.r 9) (.r 8))⟩]) (.seq (.cond (.r 10) .skip (.exit 0)) (.seq (.block 1 (.seq (.reg [⟨(some 11), none, none, (.mov (.r 9))⟩, ⟨(some 4), none, none, (.mov (.r 11))⟩]) (.seq (.reg [⟨(some 12), none, none, (.mov (.r 0))⟩, ⟨(some 13), none, (some (.r 12)), (.lenl (.r 12))⟩, ⟨(some 14), none, none, (.mov (.k (.v (.int .i64 0))))⟩]) (.block 2 (.loop (.seq (.reg [⟨(some 15), none, none, (.bin .lss (.r 14) (.r 13))⟩]) (.seq (.cond (.r 15) .skip (.exit 2)) (.seq (.block 3 (.seq (.reg [⟨(some 16), none, none, (.mov (.r 14))⟩, ⟨(some 5), none, none, (.mov (.r 16))⟩]) (.seq (.reg [⟨(some 17), none, none, (.mov (.r 0))⟩, ⟨(some 18), none, (some (.r 17)), (.lenl (.r 17))⟩, ⟨(some 19), none, none, (.mov (.k (.v (.int .i64 0))))⟩]) (.block 4 (.loop (.seq (.reg [⟨(some 20), none, none, (.bin .lss (.r 19) (.r 18))⟩]) (.seq (.cond (.r 20) .skip (.exit 4)) (.seq (.block 5 (.seq (.reg [⟨(some 21), none, none, (.mov (.r 19))⟩, ⟨(some 6), none, none, (.mov (.r 21))⟩]) (.seq (.reg [⟨(some 22), none, none, (.mov (.r 1))⟩, ⟨(some 23), none, none, (.mov (.r 0))⟩, ⟨(some 24), none, none, (.mov (.r 5))⟩, ⟨(some 25), none, none, (.mov (.r 4))⟩, ⟨(some 26), none, none, (.callv (.r 22) [.r 23, .r 24, .r 25])⟩, ⟨(some 27), none, none, (.nchk (.r 26))⟩, ⟨(some 28), none, (some (.r 27)), (.load none (.r 27))⟩, ⟨(some 29), none, none, (.mov (.r 28))⟩, ⟨(some 30), (some ((29, true))), none, (.mov (.r 1))⟩, ⟨(some 31), (some ((29, true))), none, (.mov (.r 0))⟩, ⟨(some 32), (some ((29, true))), none, (.mov (.r 4))⟩, ⟨(some 33), (some ((29, true))), none, (.mov (.r 6))⟩, ⟨(some 34), (some ((29, true))), none, (.callv (.r 30) [.r 31, .r 32, .r 33])⟩, ⟨(some 35), (some ((29, true))), none, (.nchk (.r 34))⟩, ⟨(some 36), (some ((29, true))), (some (.r 35)), (.load none (.r 35))⟩, ⟨(some 37), none, none, (.pick (.r 29) (.r 36) (.k (.v (.bool false))))⟩]) (.cond (.r 37) (.reg [⟨(some 38), none, none, (.mov (.r 1))⟩, ⟨(some 39), none, none, (.mov (.r 0))⟩, ⟨(some 40), none, none, (.mov (.r 5))⟩, ⟨(some 41), none, none, (.mov (.r 6))⟩, ⟨(some 42), none, none, (.callv (.r 38) [.r 39, .r 40, .r 41])⟩, ⟨(some 43), none, none, (.nchk (.r 42))⟩, ⟨none, none, none, (.store 1 (.r 43) (.k (.v (.bool true))))⟩]) .skip)))) (.reg [⟨(some 44), none, none, (.bin .add (.r 19) (.k (.v (.int .i64 1))))⟩, ⟨(some 19), none, none, (.mov (.r 44))⟩]))))))))) (.reg [⟨(some 45), none, none, (.bin .add (.r 14) (.k (.v (.int .i64 1))))⟩, ⟨(some 14), none, none, (.mov (.r 45))⟩]))))))))) (.reg [⟨(some 46), none, none, (.bin .add (.r 9) (.k (.v (.int .i64 1))))⟩, ⟨(some 9), none, none, (.mov (.r 46))⟩])))))))⟩
theorem c85 : cfunc Tryd.prog 85 = some ir85 := by kernel_rfl
theorem k85 : okIR (max 2 ir85.n) ir85.ir = true := by decide +kernel
theorem s_trans12 (o off : Nat) (t : TypeId) (N : Nat) (j : JH) (ho : o < j.next) (hoff : off + 144 ≤ 1740) : JC Tryd.prog G 85 [.arr o off 12, .fn (.func 86) [] []] (j.set o (.cells t (rb N))) (RET (.tup []) (j.set o (.cells t (rb (trJ 12 off N 12))))) := by
  refine JC.run hmix c85 (by exact k85) ?_
  (try simp only [↓jr, jp, jd, jz, zA, zB, zC, zD, zE, zF, zG, zH, zI, zJ, zK, zL, zM, zN, reduceIte, ext_get_old, ext_set_old, ho, rb_ld, rb_len, set_get, set_set, ir85])
  refine JLOOP.of (σ := Nat) (fun x => x ≤ 12) (fun x => 12 - x) (fun x => [(9, I64 x), (8, I64 12), (0, .arr o off 12), (1, .fn (.func 86) [] [])]) (fun x => ext (j.set o (.cells t (rb (trJ 12 off N x)))) []) 0 (by omega) ?_ (JDropH.refl _) ?_
  · ((try simp only [↓jr, jp, jd, jz, zA, zB, zC, zD, zE, zF, zG, zH, zI, zJ, zK, zL, zM, zN, reduceIte, ext_get_old, ext_set_old, ho, rb_ld, rb_len, set_get, set_set, DL]) <;> (repeat' (first | exact trivial | refine And.intro ?_ ?_ | exact SubB.v | exact SubB.any | ((first | refine SubB.ptr ?_ | refine SubB.arr ?_ | refine SubB.mp ?_) <;> first | assumption | (unfold pid; omega)) | ((first | refine SubB.pure ?_ | refine SubBs.pure ?_) <;> (simp only [AV.pure, AV.pures, pures_append, jpu, rrow_pur, rb_pur, Bool.and_self, Bool.and_true, Bool.true_and]; done)) | refine SubB.fn ?_ ?_ | refine SubB.sl ?_ ?_ | refine SubB.agg ?_ | refine SubB.tup ?_ | rfl)))
  rintro x hx
  (try simp only [↓jr, jp, jd, jz, zA, zB, zC, zD, zE, zF, zG, zH, zI, zJ, zK, zL, zM, zN, reduceIte, ext_get_old, ext_set_old, ho, rb_ld, rb_len, set_get, set_set])
  refine wq.intro (fun h1 => ?_) (fun h1 => ?_)
  · (try simp only [↓jr, jp, jd, jz, zA, zB, zC, zD, zE, zF, zG, zH, zI, zJ, zK, zL, zM, zN, reduceIte, ext_get_old, ext_set_old, ho, rb_ld, rb_len, set_get, set_set])
    generalize hM : trJ 12 off N x = M
    refine JLOOP.of (σ := Nat) (fun y => y ≤ 12) (fun y => 12 - y) (fun y => [(14, I64 y), (13, I64 12), (4, I64 x), (9, I64 x), (8, I64 12), (0, .arr o off 12), (1, .fn (.func 86) [] [])]) (fun y => ext (j.set o (.cells t (rb (trI 12 off x M y)))) []) 0 (by omega) ?_ (JDropH.refl _) ?_
    · ((try simp only [↓jr, jp, jd, jz, zA, zB, zC, zD, zE, zF, zG, zH, zI, zJ, zK, zL, zM, zN, reduceIte, ext_get_old, ext_set_old, ho, rb_ld, rb_len, set_get, set_set, DL]) <;> (repeat' (first | exact trivial | refine And.intro ?_ ?_ | exact SubB.v | exact SubB.any | ((first | refine SubB.ptr ?_ | refine SubB.arr ?_ | refine SubB.mp ?_) <;> first | assumption | (unfold pid; omega)) | ((first | refine SubB.pure ?_ | refine SubBs.pure ?_) <;> (simp only [AV.pure, AV.pures, pures_append, jpu, rrow_pur, rb_pur, Bool.and_self, Bool.and_true, Bool.true_and]; done)) | refine SubB.fn ?_ ?_ | refine SubB.sl ?_ ?_ | refine SubB.agg ?_ | refine SubB.tup ?_ | rfl)))
    rintro y hy
    (try simp only [↓jr, jp, jd, jz, zA, zB, zC, zD, zE, zF, zG, zH, zI, zJ, zK, zL, zM, zN, reduceIte, ext_get_old, ext_set_old, ho, rb_ld, rb_len, set_get, set_set])
    refine wq.intro (fun h2 => ?_) (fun h2 => ?_)
    · (try simp only [↓jr, jp, jd, jz, zA, zB, zC, zD, zE, zF, zG, zH, zI, zJ, zK, zL, zM, zN, reduceIte, ext_get_old, ext_set_old, ho, rb_ld, rb_len, set_get, set_set])
      generalize hL : trI 12 off x M y = L
      refine JLOOP.of (σ := Nat) (fun z => z ≤ 12) (fun z => 12 - z) (fun z => [(19, I64 z), (18, I64 12), (5, I64 y), (14, I64 y), (13, I64 12), (4, I64 x), (9, I64 x), (8, I64 12), (0, .arr o off 12), (1, .fn (.func 86) [] [])]) (fun z => ext (j.set o (.cells t (rb (trK 12 off x y L z)))) []) 0 (by omega) ?_ (JDropH.refl _) ?_
      · ((try simp only [↓jr, jp, jd, jz, zA, zB, zC, zD, zE, zF, zG, zH, zI, zJ, zK, zL, zM, zN, reduceIte, ext_get_old, ext_set_old, ho, rb_ld, rb_len, set_get, set_set, DL]) <;> (repeat' (first | exact trivial | refine And.intro ?_ ?_ | exact SubB.v | exact SubB.any | ((first | refine SubB.ptr ?_ | refine SubB.arr ?_ | refine SubB.mp ?_) <;> first | assumption | (unfold pid; omega)) | ((first | refine SubB.pure ?_ | refine SubBs.pure ?_) <;> (simp only [AV.pure, AV.pures, pures_append, jpu, rrow_pur, rb_pur, Bool.and_self, Bool.and_true, Bool.true_and]; done)) | refine SubB.fn ?_ ?_ | refine SubB.sl ?_ ?_ | refine SubB.agg ?_ | refine SubB.tup ?_ | rfl)))
      rintro z hz
      (try simp only [↓jr, jp, jd, jz, zA, zB, zC, zD, zE, zF, zG, zH, zI, zJ, zK, zL, zM, zN, reduceIte, ext_get_old, ext_set_old, ho, rb_ld, rb_len, set_get, set_set])
      refine wq.intro (fun h3 => ?_) (fun h3 => ?_)
      · (try simp only [↓jr, jp, jd, jz, zA, zB, zC, zD, zE, zF, zG, zH, zI, zJ, zK, zL, zM, zN, reduceIte, ext_get_old, ext_set_old, ho, rb_ld, rb_len, set_get, set_set])
        generalize hP : trK 12 off x y L z = P
        refine wc.intro hb86 ?_
        (try simp only [↓jr, jp, jd, jz, zA, zB, zC, zD, zE, zF, zG, zH, zI, zJ, zK, zL, zM, zN, reduceIte, ext_get_old, ext_set_old, ho, rb_ld, rb_len, set_get, set_set])
        refine JCs.ret (s_at12 o off y x (by omega) (by omega) _ (sold_lt ho)) ?_
        (try simp only [↓jr, jp, jd, jz, zA, zB, zC, zD, zE, zF, zG, zH, zI, zJ, zK, zL, zM, zN, reduceIte, ext_get_old, ext_set_old, ho, rb_ld, rb_len, set_get, set_set])
        refine wc.intro (by omega) ?_
        (try simp only [↓jr, jp, jd, jz, zA, zB, zC, zD, zE, zF, zG, zH, zI, zJ, zK, zL, zM, zN, reduceIte, ext_get_old, ext_set_old, ho, rb_ld, rb_len, set_get, set_set])
        have nx : ∀ {q : Nat}, trS 12 off x y P z = q → trK 12 off x y L (z + 1) = q := fun e => by rw [trK_succ, hP]; exact e
        have stay : (P.testBit (off + y * 12 + x) && P.testBit (off + x * 12 + z)) = false → trK 12 off x y L (z + 1) = P := fun q => nx (by unfold trS; rw [if_neg (by rw [q]; exact Bool.false_ne_true)])
        refine ww.intro (fun q1 => ?_) (fun q1 => ?_)
        · (try simp only [↓jr, jp, jd, jz, zA, zB, zC, zD, zE, zF, zG, zH, zI, zJ, zK, zL, zM, zN, reduceIte, ext_get_old, ext_set_old, ho, rb_ld, rb_len, set_get, set_set])
          refine wc.intro hb86 ?_
          (try simp only [↓jr, jp, jd, jz, zA, zB, zC, zD, zE, zF, zG, zH, zI, zJ, zK, zL, zM, zN, reduceIte, ext_get_old, ext_set_old, ho, rb_ld, rb_len, set_get, set_set])
          refine JCs.ret (s_at12 o off x z (by omega) (by omega) _ (sold_lt ho)) ?_
          (try simp only [↓jr, jp, jd, jz, zA, zB, zC, zD, zE, zF, zG, zH, zI, zJ, zK, zL, zM, zN, reduceIte, ext_get_old, ext_set_old, ho, rb_ld, rb_len, set_get, set_set])
          refine wc.intro (by omega) ?_
          (try simp only [↓jr, jp, jd, jz, zA, zB, zC, zD, zE, zF, zG, zH, zI, zJ, zK, zL, zM, zN, reduceIte, ext_get_old, ext_set_old, ho, rb_ld, rb_len, set_get, set_set])
          refine ww.intro (fun q2 => ?_) (fun q2 => ?_)
          · (try simp only [↓jr, jp, jd, jz, zA, zB, zC, zD, zE, zF, zG, zH, zI, zJ, zK, zL, zM, zN, reduceIte, ext_get_old, ext_set_old, ho, rb_ld, rb_len, set_get, set_set])
            refine wc.intro hb86 ?_
            (try simp only [↓jr, jp, jd, jz, zA, zB, zC, zD, zE, zF, zG, zH, zI, zJ, zK, zL, zM, zN, reduceIte, ext_get_old, ext_set_old, ho, rb_ld, rb_len, set_get, set_set])
            refine JCs.ret (s_at12 o off y z (by omega) (by omega) _ (sold_lt ho)) ?_
            (try simp only [↓jr, jp, jd, jz, zA, zB, zC, zD, zE, zF, zG, zH, zI, zJ, zK, zL, zM, zN, reduceIte, ext_get_old, ext_set_old, ho, rb_ld, rb_len, set_get, set_set])
            refine wc.put (by omega) (by omega) ?_
            (try simp only [↓jr, jp, jd, jz, zA, zB, zC, zD, zE, zF, zG, zH, zI, zJ, zK, zL, zM, zN, reduceIte, ext_get_old, ext_set_old, ho, rb_ld, rb_len, set_get, set_set])
            refine wc.intro (by unfold R64; omega) ?_
            (try simp only [↓jr, jp, jd, jz, zA, zB, zC, zD, zE, zF, zG, zH, zI, zJ, zK, zL, zM, zN, reduceIte, ext_get_old, ext_set_old, ho, rb_ld, rb_len, set_get, set_set])
            have e := nx (by unfold trS; rw [if_pos (by rw [q1, q2]; rfl)])
            refine JNEXT.of (z + 1) (by omega) (by omega) ?_ (by simp only [e, hP]; exact JDropH.nextS (OSub.pure (rb_pur _)) True.intro)
            rw [e]
            ((try simp only [↓jr, jp, jd, jz, zA, zB, zC, zD, zE, zF, zG, zH, zI, zJ, zK, zL, zM, zN, reduceIte, ext_get_old, ext_set_old, ho, rb_ld, rb_len, set_get, set_set, DL]) <;> (repeat' (first | exact trivial | refine And.intro ?_ ?_ | exact SubB.v | exact SubB.any | ((first | refine SubB.ptr ?_ | refine SubB.arr ?_ | refine SubB.mp ?_) <;> first | assumption | (unfold pid; omega)) | ((first | refine SubB.pure ?_ | refine SubBs.pure ?_) <;> (simp only [AV.pure, AV.pures, pures_append, jpu, rrow_pur, rb_pur, Bool.and_self, Bool.and_true, Bool.true_and]; done)) | refine SubB.fn ?_ ?_ | refine SubB.sl ?_ ?_ | refine SubB.agg ?_ | refine SubB.tup ?_ | rfl)))
          · (try simp only [↓jr, jp, jd, jz, zA, zB, zC, zD, zE, zF, zG, zH, zI, zJ, zK, zL, zM, zN, reduceIte, ext_get_old, ext_set_old, ho, rb_ld, rb_len, set_get, set_set])
            refine wc.intro (by unfold R64; omega) ?_
            (try simp only [↓jr, jp, jd, jz, zA, zB, zC, zD, zE, zF, zG, zH, zI, zJ, zK, zL, zM, zN, reduceIte, ext_get_old, ext_set_old, ho, rb_ld, rb_len, set_get, set_set])
            have e := stay (by rw [q1, q2]; rfl)
            refine JNEXT.of (z + 1) (by omega) (by omega) ?_ (by simp only [e, hP]; exact JDropH.nextS (OSub.pure (rb_pur _)) True.intro)
            rw [e]
            ((try simp only [↓jr, jp, jd, jz, zA, zB, zC, zD, zE, zF, zG, zH, zI, zJ, zK, zL, zM, zN, reduceIte, ext_get_old, ext_set_old, ho, rb_ld, rb_len, set_get, set_set, DL]) <;> (repeat' (first | exact trivial | refine And.intro ?_ ?_ | exact SubB.v | exact SubB.any | ((first | refine SubB.ptr ?_ | refine SubB.arr ?_ | refine SubB.mp ?_) <;> first | assumption | (unfold pid; omega)) | ((first | refine SubB.pure ?_ | refine SubBs.pure ?_) <;> (simp only [AV.pure, AV.pures, pures_append, jpu, rrow_pur, rb_pur, Bool.and_self, Bool.and_true, Bool.true_and]; done)) | refine SubB.fn ?_ ?_ | refine SubB.sl ?_ ?_ | refine SubB.agg ?_ | refine SubB.tup ?_ | rfl)))
        · (try simp only [↓jr, jp, jd, jz, zA, zB, zC, zD, zE, zF, zG, zH, zI, zJ, zK, zL, zM, zN, reduceIte, ext_get_old, ext_set_old, ho, rb_ld, rb_len, set_get, set_set])
          refine wc.intro (by unfold R64; omega) ?_
          (try simp only [↓jr, jp, jd, jz, zA, zB, zC, zD, zE, zF, zG, zH, zI, zJ, zK, zL, zM, zN, reduceIte, ext_get_old, ext_set_old, ho, rb_ld, rb_len, set_get, set_set])
          have e := stay (by rw [q1]; rfl)
          refine JNEXT.of (z + 1) (by omega) (by omega) ?_ (by simp only [e, hP]; exact JDropH.nextS (OSub.pure (rb_pur _)) True.intro)
          rw [e]
          ((try simp only [↓jr, jp, jd, jz, zA, zB, zC, zD, zE, zF, zG, zH, zI, zJ, zK, zL, zM, zN, reduceIte, ext_get_old, ext_set_old, ho, rb_ld, rb_len, set_get, set_set, DL]) <;> (repeat' (first | exact trivial | refine And.intro ?_ ?_ | exact SubB.v | exact SubB.any | ((first | refine SubB.ptr ?_ | refine SubB.arr ?_ | refine SubB.mp ?_) <;> first | assumption | (unfold pid; omega)) | ((first | refine SubB.pure ?_ | refine SubBs.pure ?_) <;> (simp only [AV.pure, AV.pures, pures_append, jpu, rrow_pur, rb_pur, Bool.and_self, Bool.and_true, Bool.true_and]; done)) | refine SubB.fn ?_ ?_ | refine SubB.sl ?_ ?_ | refine SubB.agg ?_ | refine SubB.tup ?_ | rfl)))
      · (try simp only [↓jr, jp, jd, jz, zA, zB, zC, zD, zE, zF, zG, zH, zI, zJ, zK, zL, zM, zN, reduceIte, ext_get_old, ext_set_old, ho, rb_ld, rb_len, set_get, set_set])
        refine wc.intro (by unfold R64; omega) ?_
        (try simp only [↓jr, jp, jd, jz, zA, zB, zC, zD, zE, zF, zG, zH, zI, zJ, zK, zL, zM, zN, reduceIte, ext_get_old, ext_set_old, ho, rb_ld, rb_len, set_get, set_set])
        have ez : z = 12 := by omega
        subst ez
        have e : trI 12 off x M (y + 1) = trK 12 off x y L 12 := by rw [trI_succ, hL]
        refine JNEXT.of (y + 1) (by omega) (by omega) ?_ (by simp only [e, hL]; exact JDropH.nextS (OSub.pure (rb_pur _)) True.intro)
        rw [e]
        ((try simp only [↓jr, jp, jd, jz, zA, zB, zC, zD, zE, zF, zG, zH, zI, zJ, zK, zL, zM, zN, reduceIte, ext_get_old, ext_set_old, ho, rb_ld, rb_len, set_get, set_set, DL]) <;> (repeat' (first | exact trivial | refine And.intro ?_ ?_ | exact SubB.v | exact SubB.any | ((first | refine SubB.ptr ?_ | refine SubB.arr ?_ | refine SubB.mp ?_) <;> first | assumption | (unfold pid; omega)) | ((first | refine SubB.pure ?_ | refine SubBs.pure ?_) <;> (simp only [AV.pure, AV.pures, pures_append, jpu, rrow_pur, rb_pur, Bool.and_self, Bool.and_true, Bool.true_and]; done)) | refine SubB.fn ?_ ?_ | refine SubB.sl ?_ ?_ | refine SubB.agg ?_ | refine SubB.tup ?_ | rfl)))
    · (try simp only [↓jr, jp, jd, jz, zA, zB, zC, zD, zE, zF, zG, zH, zI, zJ, zK, zL, zM, zN, reduceIte, ext_get_old, ext_set_old, ho, rb_ld, rb_len, set_get, set_set])
      refine wc.intro (by unfold R64; omega) ?_
      (try simp only [↓jr, jp, jd, jz, zA, zB, zC, zD, zE, zF, zG, zH, zI, zJ, zK, zL, zM, zN, reduceIte, ext_get_old, ext_set_old, ho, rb_ld, rb_len, set_get, set_set])
      have ey : y = 12 := by omega
      subst ey
      have e : trJ 12 off N (x + 1) = trI 12 off x M 12 := by rw [trJ_succ, hM]
      refine JNEXT.of (x + 1) (by omega) (by omega) ?_ (by simp only [e, hM]; exact JDropH.nextS (OSub.pure (rb_pur _)) True.intro)
      rw [e]
      ((try simp only [↓jr, jp, jd, jz, zA, zB, zC, zD, zE, zF, zG, zH, zI, zJ, zK, zL, zM, zN, reduceIte, ext_get_old, ext_set_old, ho, rb_ld, rb_len, set_get, set_set, DL]) <;> (repeat' (first | exact trivial | refine And.intro ?_ ?_ | exact SubB.v | exact SubB.any | ((first | refine SubB.ptr ?_ | refine SubB.arr ?_ | refine SubB.mp ?_) <;> first | assumption | (unfold pid; omega)) | ((first | refine SubB.pure ?_ | refine SubBs.pure ?_) <;> (simp only [AV.pure, AV.pures, pures_append, jpu, rrow_pur, rb_pur, Bool.and_self, Bool.and_true, Bool.true_and]; done)) | refine SubB.fn ?_ ?_ | refine SubB.sl ?_ ?_ | refine SubB.agg ?_ | refine SubB.tup ?_ | rfl)))
  · (try simp only [↓jr, jp, jd, jz, zA, zB, zC, zD, zE, zF, zG, zH, zI, zJ, zK, zL, zM, zN, reduceIte, ext_get_old, ext_set_old, ho, rb_ld, rb_len, set_get, set_set])
    have ex : x = 12 := by omega
    subst ex
    exact JFIN.ret (JDropH.backS ho (OSub.pure (rb_pur _))).of_ext (SubB.tup True.intro)
end
end Go.Proofs.YtkcbhebbjpiibaaDoor.Pg
