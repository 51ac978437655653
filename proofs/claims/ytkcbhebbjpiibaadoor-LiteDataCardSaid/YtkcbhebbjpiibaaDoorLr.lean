/-
  What the rules imply; a matrix made transitive.
-/
import Derived.Test.YtkcbhebbjpiibaaDoorLq
set_option linter.unusedVariables false
set_option linter.unusedSimpArgs false
set_option maxRecDepth 20000
set_option maxHeartbeats 1000000
namespace Go.Proofs.YtkcbhebbjpiibaaDoor.Pg
open Go
section
theorem sbLr {A : Prop} (h : A := by repeat' (first | exact trivial | refine And.intro ?_ ?_ | exact SubB.v | exact SubB.any | ((first | refine SubB.ptr ?_ | refine SubB.arr ?_ | refine SubB.mp ?_) <;> first | assumption | (unfold pid; omega)) | ((first | refine SubB.pure ?_ | refine SubBs.pure ?_) <;> (simp only [AV.pure, AV.pures, pures_append, jpu, rrow_pur, rb_pur, Bool.and_self, Bool.and_true, Bool.true_and]; done)) | refine SubB.fn ?_ ?_ | refine SubB.sl ?_ ?_ | refine SubB.agg ?_ | refine SubB.tup ?_ | rfl)) : A := h
variable {m : Int} {G : Nat → Option (List AV)}
def implR (N c d : Nat) (no bot : Bool) : Bool := emp N c || (!bot && (if no then emp N d || confl N c d else rch N c d))
def ir59 : IFn := ⟨43, [⟨6, none⟩], (.seq (.reg [oA 5 (.box 101 (.r 2)), oA 6 (.mov (kB false))]) (.seq (.block 0 (.seq (.reg [oA 8 (kM 0), oA 9 (kM 1), oA 10 (.nchk (.r 8)), oA 11 (.fadr 1712 (.r 10)), oA 12 (.iaar 28 1 (.r 11) (.r 9)), oL 13 12 none, oA 7 (kM 13)]) (.cond (.r 7) (.seq (.reg [oA 6 (.mov (kB true))]) .ret) (.seq (.reg [oA 15 (.fadr 2 (.r 5)), oL 16 15 none, oA 14 (kM 16)]) (.cond (.r 14) (.seq (.reg [oA 6 (.mov (kB false))]) .ret) (.seq (.reg [oA 18 (.fadr 1 (.r 5)), oL 19 18 none, oA 17 (kM 19)]) (.cond (.r 17) (.seq (.draw [oA 20 (kM 0), oA 21 (.fadr 0 (.r 5)), oL 22 21 none, oA 23 (.nchk (.r 20)), oA 24 (.fadr 1712 (.r 23)), oA 25 (.iaar 28 1 (.r 24) (.r 22)), oL 26 25 none, oA 27 (kM 26), ⟨(some 28), (some ((27, false))), none, (kM 0)⟩, ⟨(some 29), (some ((27, false))), none, (kM 1)⟩, ⟨(some 30), (some ((27, false))), none, (.fadr 0 (.r 5))⟩, ⟨(some 31), (some ((27, false))), (some (.r 30)), (.load none (.r 30))⟩, ⟨(some 32), (some ((27, false))), none, (.call 78 [.r 28, .r 29, .r 31])⟩, oA 33 (.pick (.r 27) (kB true) (.r 32)), oA 6 (kM 33)] []) .ret) .skip))))))) (.seq (.draw [oA 34 (kM 0), oA 35 (kM 1), oA 36 (.fadr 0 (.r 5)), oL 37 36 none, oA 38 (.nchk (.r 34)), oA 39 (.fadr 0 (.r 38)), oA 40 (.iaar 28 28 (.r 39) (.r 35)), oA 41 (.iaar 28 1 (.r 40) (.r 37)), oL 42 41 none, oA 6 (kM 42)] []) .ret)))⟩
theorem c59 : cfunc Tryd.prog 59 = some ir59 := by kernel_rfl
theorem k59 : okIR (max 3 ir59.n) ir59.ir = true := by decide +kernel
theorem s_implies (o : Nat) (t : TypeId) (N : Nat) (c d : Nat) (hc : c < 28) (hd : d < 28) (no bot : Bool) (j : JH) (ho : o < j.next) (hg : j.get o = some (.cells t (rb N))) : JC Tryd.prog G 59 [.ptr o 0, I64 c, SIDE (d, no, bot)] j (RET (BOO (implR N c d no bot)) j) := by
  refine JC.run hmix c59 (by exact k59) ?_
  (try simp only[↓jr,jw,seval,ext_get_old,ho,hg,rb_ld,rrow_ld,rb_len,rrow_len,ir59])
  repeat' ((first | refine wq.intro (fun _ => ?_) (fun _ => ?_) | refine ww.intro (fun _ => ?_) (fun _ => ?_) | refine wc.intro (by first | omega | (unfold R64; omega) | trivial) ?_ | refine wr.in (by unfold R64; omega) ?_ | refine JCs.ret (s_conflict o t N c d hc hd _ (old_lt ho) (old_get ho hg)) ?_ | refine JDC.use (s_conflict o t N c d hc hd _ (old_lt ho) (old_get ho hg)) ?_ | (refine JDRAW.oc (by (try simp only[↓jr,jw,seval,ext_get_old,ho,hg,rb_ld,rrow_ld,rb_len,rrow_len,jq]) <;> exact orq) ?_; (try simp only[↓jr,jw,seval,ext_get_old,ho,hg,rb_ld,rrow_ld,rb_len,rrow_len]))) <;> first | contradiction | (try simp only[↓jr,jw,seval,ext_get_old,ho,hg,rb_ld,rrow_ld,rb_len,rrow_len]))
  all_goals
    refine JFIN.rb ?_
    simp only [implR, emp, rch]
    simp only [*, Bool.true_or, Bool.false_or, Bool.not_true, Bool.not_false, Bool.false_and, Bool.true_and, if_true, if_false, Bool.false_eq_true]
    first | exact SubB.v | trace_state
def trS (n b : Nat) (j i N k : Nat) : Nat := if N.testBit (b + i * n + j) && N.testBit (b + j * n + k) then put N (b + i * n + k) else N
def trK (n b j i N k : Nat) : Nat := (List.range k).foldl (trS n b j i) N
def trI (n b j N i : Nat) : Nat := (List.range i).foldl (fun N i => trK n b j i N n) N
def trJ (n b N j : Nat) : Nat := (List.range j).foldl (fun N j => trI n b j N n) N
theorem trK_succ (n b j i N k : Nat) : trK n b j i N (k + 1) = trS n b j i (trK n b j i N k) k := by unfold trK; rw [List.range_succ, List.foldl_append]; rfl
theorem trI_succ (n b j N i : Nat) : trI n b j N (i + 1) = trK n b j i (trI n b j N i) n := by unfold trI; rw [List.range_succ, List.foldl_append]; rfl
theorem trJ_succ (n b N j : Nat) : trJ n b N (j + 1) = trI n b j (trJ n b N j) n := by unfold trJ; rw [List.range_succ, List.foldl_append]; rfl
theorem hb84 : hasBody Tryd.prog 84 = true := by decide +kernel
theorem hb86 : hasBody Tryd.prog 86 = true := by decide +kernel
def ir83 : IFn := ⟨47, [], (.seq (.reg [oA 7 (kM 0), oT 8 7 (.lenl (.r 7)), oA 9 (.mov (kI 0))]) (.block 0 (.loop (.seq (.reg [oA 10 (.bin .lss (.r 9) (.r 8))]) (.seq (.cond (.r 10) .skip (.exit 0)) (.seq (.block 1 (.seq (.reg [oA 11 (kM 9), oA 4 (kM 11)]) (.seq (.reg [oA 12 (kM 0), oT 13 12 (.lenl (.r 12)), oA 14 (.mov (kI 0))]) (.block 2 (.loop (.seq (.reg [oA 15 (.bin .lss (.r 14) (.r 13))]) (.seq (.cond (.r 15) .skip (.exit 2)) (.seq (.block 3 (.seq (.reg [oA 16 (kM 14), oA 5 (kM 16)]) (.seq (.reg [oA 17 (kM 0), oT 18 17 (.lenl (.r 17)), oA 19 (.mov (kI 0))]) (.block 4 (.loop (.seq (.reg [oA 20 (.bin .lss (.r 19) (.r 18))]) (.seq (.cond (.r 20) .skip (.exit 4)) (.seq (.block 5 (.seq (.reg [oA 21 (kM 19), oA 6 (kM 21)]) (.seq (.reg [oA 22 (kM 1), oA 23 (kM 0), oA 24 (kM 5), oA 25 (kM 4), oA 26 (.callv (.r 22) [.r 23, .r 24, .r 25]), oA 27 (.nchk (.r 26)), oL 28 27 none, oA 29 (kM 28), ⟨(some 30), (some ((29, true))), none, (kM 1)⟩, ⟨(some 31), (some ((29, true))), none, (kM 0)⟩, ⟨(some 32), (some ((29, true))), none, (kM 4)⟩, ⟨(some 33), (some ((29, true))), none, (kM 6)⟩, ⟨(some 34), (some ((29, true))), none, (.callv (.r 30) [.r 31, .r 32, .r 33])⟩, ⟨(some 35), (some ((29, true))), none, (.nchk (.r 34))⟩, ⟨(some 36), (some ((29, true))), (some (.r 35)), (.load none (.r 35))⟩, oA 37 (.pick (.r 29) (.r 36) (kB false))]) (.cond (.r 37) (.reg [oA 38 (kM 1), oA 39 (kM 0), oA 40 (kM 5), oA 41 (kM 6), oA 42 (.callv (.r 38) [.r 39, .r 40, .r 41]), oA 43 (.nchk (.r 42)), oN (.store 1 (.r 43) (kB true))]) .skip)))) (.reg [oA 44 (.bin .add (.r 19) (kI 1)), oA 19 (kM 44)]))))))))) (.reg [oA 45 (.bin .add (.r 14) (kI 1)), oA 14 (kM 45)]))))))))) (.reg [oA 46 (.bin .add (.r 9) (kI 1)), oA 9 (kM 46)])))))))⟩
theorem c83 : cfunc Tryd.prog 83 = some ir83 := by kernel_rfl
theorem k83 : okIR (max 2 ir83.n) ir83.ir = true := by decide +kernel
theorem s_trans28 (o off : Nat) (t : TypeId) (N : Nat) (j : JH) (ho : o < j.next) (hoff : off + 784 ≤ 1740) : JC Tryd.prog G 83 [.arr o off 28, .fn (.func 84) [] []] (j.set o (.cells t (rb N))) (RET (.tup []) (j.set o (.cells t (rb (trJ 28 off N 28))))) := by
  refine JC.run hmix c83 (by exact k83) ?_
  (try simp only[↓jr,jw,seval,ext_get_old,ext_set_old,ho,rb_ld,rb_len,set_get,set_set,ir83])
  refine JLOOP.of (σ := Nat) (fun x => x ≤ 28) (fun x => 28 - x) (fun x => [(9, I64 x), (8, I64 28), (0, .arr o off 28), (1, .fn (.func 84) [] [])]) (fun x => ext (j.set o (.cells t (rb (trJ 28 off N x)))) []) 0 (by omega) ?_ (JDropH.refl _) ?_
  · ((try simp only[↓jr,jw,seval,ext_get_old,ext_set_old,ho,rb_ld,rb_len,set_get,set_set,DL]) <;> exact sbLr)
  rintro x hx
  (try simp only[↓jr,jw,seval,ext_get_old,ext_set_old,ho,rb_ld,rb_len,set_get,set_set])
  refine wq.intro (fun h1 => ?_) (fun h1 => ?_)
  · (try simp only[↓jr,jw,seval,ext_get_old,ext_set_old,ho,rb_ld,rb_len,set_get,set_set])
    generalize hM : trJ 28 off N x = M
    refine JLOOP.of (σ := Nat) (fun y => y ≤ 28) (fun y => 28 - y) (fun y => [(14, I64 y), (13, I64 28), (4, I64 x), (9, I64 x), (8, I64 28), (0, .arr o off 28), (1, .fn (.func 84) [] [])]) (fun y => ext (j.set o (.cells t (rb (trI 28 off x M y)))) []) 0 (by omega) ?_ (JDropH.refl _) ?_
    · ((try simp only[↓jr,jw,seval,ext_get_old,ext_set_old,ho,rb_ld,rb_len,set_get,set_set,DL]) <;> exact sbLr)
    rintro y hy
    (try simp only[↓jr,jw,seval,ext_get_old,ext_set_old,ho,rb_ld,rb_len,set_get,set_set])
    refine wq.intro (fun h2 => ?_) (fun h2 => ?_)
    · (try simp only[↓jr,jw,seval,ext_get_old,ext_set_old,ho,rb_ld,rb_len,set_get,set_set])
      generalize hL : trI 28 off x M y = L
      refine JLOOP.of (σ := Nat) (fun z => z ≤ 28) (fun z => 28 - z) (fun z => [(19, I64 z), (18, I64 28), (5, I64 y), (14, I64 y), (13, I64 28), (4, I64 x), (9, I64 x), (8, I64 28), (0, .arr o off 28), (1, .fn (.func 84) [] [])]) (fun z => ext (j.set o (.cells t (rb (trK 28 off x y L z)))) []) 0 (by omega) ?_ (JDropH.refl _) ?_
      · ((try simp only[↓jr,jw,seval,ext_get_old,ext_set_old,ho,rb_ld,rb_len,set_get,set_set,DL]) <;> exact sbLr)
      rintro z hz
      (try simp only[↓jr,jw,seval,ext_get_old,ext_set_old,ho,rb_ld,rb_len,set_get,set_set])
      refine wq.intro (fun h3 => ?_) (fun h3 => ?_)
      · (try simp only[↓jr,jw,seval,ext_get_old,ext_set_old,ho,rb_ld,rb_len,set_get,set_set])
        generalize hP : trK 28 off x y L z = P
        refine wc.intro hb84 ?_
        (try simp only[↓jr,jw,seval,ext_get_old,ext_set_old,ho,rb_ld,rb_len,set_get,set_set])
        refine JCs.ret (s_at28 o off y x (by omega) (by omega) _ (sold_lt ho)) ?_
        (try simp only[↓jr,jw,seval,ext_get_old,ext_set_old,ho,rb_ld,rb_len,set_get,set_set])
        refine wc.intro (by omega) ?_
        (try simp only[↓jr,jw,seval,ext_get_old,ext_set_old,ho,rb_ld,rb_len,set_get,set_set])
        have nx : ∀ {q : Nat}, trS 28 off x y P z = q → trK 28 off x y L (z + 1) = q := fun e => by rw [trK_succ, hP]; exact e
        have stay : (P.testBit (off + y * 28 + x) && P.testBit (off + x * 28 + z)) = false → trK 28 off x y L (z + 1) = P := fun q => nx (by unfold trS; rw [if_neg (by rw [q]; exact Bool.false_ne_true)])
        refine ww.intro (fun q1 => ?_) (fun q1 => ?_)
        · (try simp only[↓jr,jw,seval,ext_get_old,ext_set_old,ho,rb_ld,rb_len,set_get,set_set])
          refine wc.intro hb84 ?_
          (try simp only[↓jr,jw,seval,ext_get_old,ext_set_old,ho,rb_ld,rb_len,set_get,set_set])
          refine JCs.ret (s_at28 o off x z (by omega) (by omega) _ (sold_lt ho)) ?_
          (try simp only[↓jr,jw,seval,ext_get_old,ext_set_old,ho,rb_ld,rb_len,set_get,set_set])
          refine wc.intro (by omega) ?_
          (try simp only[↓jr,jw,seval,ext_get_old,ext_set_old,ho,rb_ld,rb_len,set_get,set_set])
          refine ww.intro (fun q2 => ?_) (fun q2 => ?_)
          · (try simp only[↓jr,jw,seval,ext_get_old,ext_set_old,ho,rb_ld,rb_len,set_get,set_set])
            refine wc.intro hb84 ?_
            (try simp only[↓jr,jw,seval,ext_get_old,ext_set_old,ho,rb_ld,rb_len,set_get,set_set])
            refine JCs.ret (s_at28 o off y z (by omega) (by omega) _ (sold_lt ho)) ?_
            (try simp only[↓jr,jw,seval,ext_get_old,ext_set_old,ho,rb_ld,rb_len,set_get,set_set])
            refine wc.put (by omega) (by omega) ?_
            (try simp only[↓jr,jw,seval,ext_get_old,ext_set_old,ho,rb_ld,rb_len,set_get,set_set])
            refine wc.intro (by unfold R64; omega) ?_
            (try simp only[↓jr,jw,seval,ext_get_old,ext_set_old,ho,rb_ld,rb_len,set_get,set_set])
            have e := nx (by unfold trS; rw [if_pos (by rw [q1, q2]; rfl)])
            refine JNEXT.of (z + 1) (by omega) (by omega) ?_ (by simp only [e, hP]; exact JDropH.nextS (OSub.pure (rb_pur _)) True.intro)
            rw [e]
            ((try simp only[↓jr,jw,seval,ext_get_old,ext_set_old,ho,rb_ld,rb_len,set_get,set_set,DL]) <;> exact sbLr)
          · (try simp only[↓jr,jw,seval,ext_get_old,ext_set_old,ho,rb_ld,rb_len,set_get,set_set])
            refine wc.intro (by unfold R64; omega) ?_
            (try simp only[↓jr,jw,seval,ext_get_old,ext_set_old,ho,rb_ld,rb_len,set_get,set_set])
            have e := stay (by rw [q1, q2]; rfl)
            refine JNEXT.of (z + 1) (by omega) (by omega) ?_ (by simp only [e, hP]; exact JDropH.nextS (OSub.pure (rb_pur _)) True.intro)
            rw [e]
            ((try simp only[↓jr,jw,seval,ext_get_old,ext_set_old,ho,rb_ld,rb_len,set_get,set_set,DL]) <;> exact sbLr)
        · (try simp only[↓jr,jw,seval,ext_get_old,ext_set_old,ho,rb_ld,rb_len,set_get,set_set])
          refine wc.intro (by unfold R64; omega) ?_
          (try simp only[↓jr,jw,seval,ext_get_old,ext_set_old,ho,rb_ld,rb_len,set_get,set_set])
          have e := stay (by rw [q1]; rfl)
          refine JNEXT.of (z + 1) (by omega) (by omega) ?_ (by simp only [e, hP]; exact JDropH.nextS (OSub.pure (rb_pur _)) True.intro)
          rw [e]
          ((try simp only[↓jr,jw,seval,ext_get_old,ext_set_old,ho,rb_ld,rb_len,set_get,set_set,DL]) <;> exact sbLr)
      · (try simp only[↓jr,jw,seval,ext_get_old,ext_set_old,ho,rb_ld,rb_len,set_get,set_set])
        refine wc.intro (by unfold R64; omega) ?_
        (try simp only[↓jr,jw,seval,ext_get_old,ext_set_old,ho,rb_ld,rb_len,set_get,set_set])
        have ez : z = 28 := by omega
        subst ez
        have e : trI 28 off x M (y + 1) = trK 28 off x y L 28 := by rw [trI_succ, hL]
        refine JNEXT.of (y + 1) (by omega) (by omega) ?_ (by simp only [e, hL]; exact JDropH.nextS (OSub.pure (rb_pur _)) True.intro)
        rw [e]
        ((try simp only[↓jr,jw,seval,ext_get_old,ext_set_old,ho,rb_ld,rb_len,set_get,set_set,DL]) <;> exact sbLr)
    · (try simp only[↓jr,jw,seval,ext_get_old,ext_set_old,ho,rb_ld,rb_len,set_get,set_set])
      refine wc.intro (by unfold R64; omega) ?_
      (try simp only[↓jr,jw,seval,ext_get_old,ext_set_old,ho,rb_ld,rb_len,set_get,set_set])
      have ey : y = 28 := by omega
      subst ey
      have e : trJ 28 off N (x + 1) = trI 28 off x M 28 := by rw [trJ_succ, hM]
      refine JNEXT.of (x + 1) (by omega) (by omega) ?_ (by simp only [e, hM]; exact JDropH.nextS (OSub.pure (rb_pur _)) True.intro)
      rw [e]
      ((try simp only[↓jr,jw,seval,ext_get_old,ext_set_old,ho,rb_ld,rb_len,set_get,set_set,DL]) <;> exact sbLr)
  · (try simp only[↓jr,jw,seval,ext_get_old,ext_set_old,ho,rb_ld,rb_len,set_get,set_set])
    have ex : x = 28 := by omega
    subst ex
    exact JFIN.ret (JDropH.backS ho (OSub.pure (rb_pur _))).of_ext (SubB.tup True.intro)
end

/-! ### The matrix of roles made transitive. -/
section
variable {m : Int} {G : Nat → Option (List AV)}
def ir85 : IFn := ⟨47, [], (.seq (.reg [oA 7 (kM 0), oT 8 7 (.lenl (.r 7)), oA 9 (.mov (kI 0))]) (.block 0 (.loop (.seq (.reg [oA 10 (.bin .lss (.r 9) (.r 8))]) (.seq (.cond (.r 10) .skip (.exit 0)) (.seq (.block 1 (.seq (.reg [oA 11 (kM 9), oA 4 (kM 11)]) (.seq (.reg [oA 12 (kM 0), oT 13 12 (.lenl (.r 12)), oA 14 (.mov (kI 0))]) (.block 2 (.loop (.seq (.reg [oA 15 (.bin .lss (.r 14) (.r 13))]) (.seq (.cond (.r 15) .skip (.exit 2)) (.seq (.block 3 (.seq (.reg [oA 16 (kM 14), oA 5 (kM 16)]) (.seq (.reg [oA 17 (kM 0), oT 18 17 (.lenl (.r 17)), oA 19 (.mov (kI 0))]) (.block 4 (.loop (.seq (.reg [oA 20 (.bin .lss (.r 19) (.r 18))]) (.seq (.cond (.r 20) .skip (.exit 4)) (.seq (.block 5 (.seq (.reg [oA 21 (kM 19), oA 6 (kM 21)]) (.seq (.reg [oA 22 (kM 1), oA 23 (kM 0), oA 24 (kM 5), oA 25 (kM 4), oA 26 (.callv (.r 22) [.r 23, .r 24, .r 25]), oA 27 (.nchk (.r 26)), oL 28 27 none, oA 29 (kM 28), ⟨(some 30), (some ((29, true))), none, (kM 1)⟩, ⟨(some 31), (some ((29, true))), none, (kM 0)⟩, ⟨(some 32), (some ((29, true))), none, (kM 4)⟩, ⟨(some 33), (some ((29, true))), none, (kM 6)⟩, ⟨(some 34), (some ((29, true))), none, (.callv (.r 30) [.r 31, .r 32, .r 33])⟩, ⟨(some 35), (some ((29, true))), none, (.nchk (.r 34))⟩, ⟨(some 36), (some ((29, true))), (some (.r 35)), (.load none (.r 35))⟩, oA 37 (.pick (.r 29) (.r 36) (kB false))]) (.cond (.r 37) (.reg [oA 38 (kM 1), oA 39 (kM 0), oA 40 (kM 5), oA 41 (kM 6), oA 42 (.callv (.r 38) [.r 39, .r 40, .r 41]), oA 43 (.nchk (.r 42)), oN (.store 1 (.r 43) (kB true))]) .skip)))) (.reg [oA 44 (.bin .add (.r 19) (kI 1)), oA 19 (kM 44)]))))))))) (.reg [oA 45 (.bin .add (.r 14) (kI 1)), oA 14 (kM 45)]))))))))) (.reg [oA 46 (.bin .add (.r 9) (kI 1)), oA 9 (kM 46)])))))))⟩
theorem c85 : cfunc Tryd.prog 85 = some ir85 := by kernel_rfl
theorem k85 : okIR (max 2 ir85.n) ir85.ir = true := by decide +kernel
theorem s_trans12 (o off : Nat) (t : TypeId) (N : Nat) (j : JH) (ho : o < j.next) (hoff : off + 144 ≤ 1740) : JC Tryd.prog G 85 [.arr o off 12, .fn (.func 86) [] []] (j.set o (.cells t (rb N))) (RET (.tup []) (j.set o (.cells t (rb (trJ 12 off N 12))))) := by
  refine JC.run hmix c85 (by exact k85) ?_
  (try simp only[↓jr,jw,seval,ext_get_old,ext_set_old,ho,rb_ld,rb_len,set_get,set_set,ir85])
  refine JLOOP.of (σ := Nat) (fun x => x ≤ 12) (fun x => 12 - x) (fun x => [(9, I64 x), (8, I64 12), (0, .arr o off 12), (1, .fn (.func 86) [] [])]) (fun x => ext (j.set o (.cells t (rb (trJ 12 off N x)))) []) 0 (by omega) ?_ (JDropH.refl _) ?_
  · ((try simp only[↓jr,jw,seval,ext_get_old,ext_set_old,ho,rb_ld,rb_len,set_get,set_set,DL]) <;> exact sbLr)
  rintro x hx
  (try simp only[↓jr,jw,seval,ext_get_old,ext_set_old,ho,rb_ld,rb_len,set_get,set_set])
  refine wq.intro (fun h1 => ?_) (fun h1 => ?_)
  · (try simp only[↓jr,jw,seval,ext_get_old,ext_set_old,ho,rb_ld,rb_len,set_get,set_set])
    generalize hM : trJ 12 off N x = M
    refine JLOOP.of (σ := Nat) (fun y => y ≤ 12) (fun y => 12 - y) (fun y => [(14, I64 y), (13, I64 12), (4, I64 x), (9, I64 x), (8, I64 12), (0, .arr o off 12), (1, .fn (.func 86) [] [])]) (fun y => ext (j.set o (.cells t (rb (trI 12 off x M y)))) []) 0 (by omega) ?_ (JDropH.refl _) ?_
    · ((try simp only[↓jr,jw,seval,ext_get_old,ext_set_old,ho,rb_ld,rb_len,set_get,set_set,DL]) <;> exact sbLr)
    rintro y hy
    (try simp only[↓jr,jw,seval,ext_get_old,ext_set_old,ho,rb_ld,rb_len,set_get,set_set])
    refine wq.intro (fun h2 => ?_) (fun h2 => ?_)
    · (try simp only[↓jr,jw,seval,ext_get_old,ext_set_old,ho,rb_ld,rb_len,set_get,set_set])
      generalize hL : trI 12 off x M y = L
      refine JLOOP.of (σ := Nat) (fun z => z ≤ 12) (fun z => 12 - z) (fun z => [(19, I64 z), (18, I64 12), (5, I64 y), (14, I64 y), (13, I64 12), (4, I64 x), (9, I64 x), (8, I64 12), (0, .arr o off 12), (1, .fn (.func 86) [] [])]) (fun z => ext (j.set o (.cells t (rb (trK 12 off x y L z)))) []) 0 (by omega) ?_ (JDropH.refl _) ?_
      · ((try simp only[↓jr,jw,seval,ext_get_old,ext_set_old,ho,rb_ld,rb_len,set_get,set_set,DL]) <;> exact sbLr)
      rintro z hz
      (try simp only[↓jr,jw,seval,ext_get_old,ext_set_old,ho,rb_ld,rb_len,set_get,set_set])
      refine wq.intro (fun h3 => ?_) (fun h3 => ?_)
      · (try simp only[↓jr,jw,seval,ext_get_old,ext_set_old,ho,rb_ld,rb_len,set_get,set_set])
        generalize hP : trK 12 off x y L z = P
        refine wc.intro hb86 ?_
        (try simp only[↓jr,jw,seval,ext_get_old,ext_set_old,ho,rb_ld,rb_len,set_get,set_set])
        refine JCs.ret (s_at12 o off y x (by omega) (by omega) _ (sold_lt ho)) ?_
        (try simp only[↓jr,jw,seval,ext_get_old,ext_set_old,ho,rb_ld,rb_len,set_get,set_set])
        refine wc.intro (by omega) ?_
        (try simp only[↓jr,jw,seval,ext_get_old,ext_set_old,ho,rb_ld,rb_len,set_get,set_set])
        have nx : ∀ {q : Nat}, trS 12 off x y P z = q → trK 12 off x y L (z + 1) = q := fun e => by rw [trK_succ, hP]; exact e
        have stay : (P.testBit (off + y * 12 + x) && P.testBit (off + x * 12 + z)) = false → trK 12 off x y L (z + 1) = P := fun q => nx (by unfold trS; rw [if_neg (by rw [q]; exact Bool.false_ne_true)])
        refine ww.intro (fun q1 => ?_) (fun q1 => ?_)
        · (try simp only[↓jr,jw,seval,ext_get_old,ext_set_old,ho,rb_ld,rb_len,set_get,set_set])
          refine wc.intro hb86 ?_
          (try simp only[↓jr,jw,seval,ext_get_old,ext_set_old,ho,rb_ld,rb_len,set_get,set_set])
          refine JCs.ret (s_at12 o off x z (by omega) (by omega) _ (sold_lt ho)) ?_
          (try simp only[↓jr,jw,seval,ext_get_old,ext_set_old,ho,rb_ld,rb_len,set_get,set_set])
          refine wc.intro (by omega) ?_
          (try simp only[↓jr,jw,seval,ext_get_old,ext_set_old,ho,rb_ld,rb_len,set_get,set_set])
          refine ww.intro (fun q2 => ?_) (fun q2 => ?_)
          · (try simp only[↓jr,jw,seval,ext_get_old,ext_set_old,ho,rb_ld,rb_len,set_get,set_set])
            refine wc.intro hb86 ?_
            (try simp only[↓jr,jw,seval,ext_get_old,ext_set_old,ho,rb_ld,rb_len,set_get,set_set])
            refine JCs.ret (s_at12 o off y z (by omega) (by omega) _ (sold_lt ho)) ?_
            (try simp only[↓jr,jw,seval,ext_get_old,ext_set_old,ho,rb_ld,rb_len,set_get,set_set])
            refine wc.put (by omega) (by omega) ?_
            (try simp only[↓jr,jw,seval,ext_get_old,ext_set_old,ho,rb_ld,rb_len,set_get,set_set])
            refine wc.intro (by unfold R64; omega) ?_
            (try simp only[↓jr,jw,seval,ext_get_old,ext_set_old,ho,rb_ld,rb_len,set_get,set_set])
            have e := nx (by unfold trS; rw [if_pos (by rw [q1, q2]; rfl)])
            refine JNEXT.of (z + 1) (by omega) (by omega) ?_ (by simp only [e, hP]; exact JDropH.nextS (OSub.pure (rb_pur _)) True.intro)
            rw [e]
            ((try simp only[↓jr,jw,seval,ext_get_old,ext_set_old,ho,rb_ld,rb_len,set_get,set_set,DL]) <;> exact sbLr)
          · (try simp only[↓jr,jw,seval,ext_get_old,ext_set_old,ho,rb_ld,rb_len,set_get,set_set])
            refine wc.intro (by unfold R64; omega) ?_
            (try simp only[↓jr,jw,seval,ext_get_old,ext_set_old,ho,rb_ld,rb_len,set_get,set_set])
            have e := stay (by rw [q1, q2]; rfl)
            refine JNEXT.of (z + 1) (by omega) (by omega) ?_ (by simp only [e, hP]; exact JDropH.nextS (OSub.pure (rb_pur _)) True.intro)
            rw [e]
            ((try simp only[↓jr,jw,seval,ext_get_old,ext_set_old,ho,rb_ld,rb_len,set_get,set_set,DL]) <;> exact sbLr)
        · (try simp only[↓jr,jw,seval,ext_get_old,ext_set_old,ho,rb_ld,rb_len,set_get,set_set])
          refine wc.intro (by unfold R64; omega) ?_
          (try simp only[↓jr,jw,seval,ext_get_old,ext_set_old,ho,rb_ld,rb_len,set_get,set_set])
          have e := stay (by rw [q1]; rfl)
          refine JNEXT.of (z + 1) (by omega) (by omega) ?_ (by simp only [e, hP]; exact JDropH.nextS (OSub.pure (rb_pur _)) True.intro)
          rw [e]
          ((try simp only[↓jr,jw,seval,ext_get_old,ext_set_old,ho,rb_ld,rb_len,set_get,set_set,DL]) <;> exact sbLr)
      · (try simp only[↓jr,jw,seval,ext_get_old,ext_set_old,ho,rb_ld,rb_len,set_get,set_set])
        refine wc.intro (by unfold R64; omega) ?_
        (try simp only[↓jr,jw,seval,ext_get_old,ext_set_old,ho,rb_ld,rb_len,set_get,set_set])
        have ez : z = 12 := by omega
        subst ez
        have e : trI 12 off x M (y + 1) = trK 12 off x y L 12 := by rw [trI_succ, hL]
        refine JNEXT.of (y + 1) (by omega) (by omega) ?_ (by simp only [e, hL]; exact JDropH.nextS (OSub.pure (rb_pur _)) True.intro)
        rw [e]
        ((try simp only[↓jr,jw,seval,ext_get_old,ext_set_old,ho,rb_ld,rb_len,set_get,set_set,DL]) <;> exact sbLr)
    · (try simp only[↓jr,jw,seval,ext_get_old,ext_set_old,ho,rb_ld,rb_len,set_get,set_set])
      refine wc.intro (by unfold R64; omega) ?_
      (try simp only[↓jr,jw,seval,ext_get_old,ext_set_old,ho,rb_ld,rb_len,set_get,set_set])
      have ey : y = 12 := by omega
      subst ey
      have e : trJ 12 off N (x + 1) = trI 12 off x M 12 := by rw [trJ_succ, hM]
      refine JNEXT.of (x + 1) (by omega) (by omega) ?_ (by simp only [e, hM]; exact JDropH.nextS (OSub.pure (rb_pur _)) True.intro)
      rw [e]
      ((try simp only[↓jr,jw,seval,ext_get_old,ext_set_old,ho,rb_ld,rb_len,set_get,set_set,DL]) <;> exact sbLr)
  · (try simp only[↓jr,jw,seval,ext_get_old,ext_set_old,ho,rb_ld,rb_len,set_get,set_set])
    have ex : x = 12 := by omega
    subst ex
    exact JFIN.ret (JDropH.backS ho (OSub.pure (rb_pur _))).of_ext (SubB.tup True.intro)
end
end Go.Proofs.YtkcbhebbjpiibaaDoor.Pg
