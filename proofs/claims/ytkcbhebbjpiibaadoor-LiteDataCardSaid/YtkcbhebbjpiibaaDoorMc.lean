/-
  The error that a law expects.
-/
import Derived.Test.YtkcbhebbjpiibaaDoorMa
set_option linter.unusedVariables false
set_option linter.unusedSimpArgs false
set_option maxRecDepth 20000
set_option maxHeartbeats 1000000
namespace Go.Proofs.YtkcbhebbjpiibaaDoor.Pg
open Go
theorem sbMc {A : Prop} (h : A := by repeat' (first | exact trivial | refine And.intro ?_ ?_ | exact SubB.v | exact SubB.any | ((first | refine SubB.ptr ?_ | refine SubB.arr ?_ | refine SubB.mp ?_) <;> first | assumption | (unfold pid; omega)) | ((first | refine SubB.pure ?_ | refine SubBs.pure ?_) <;> (simp only [AV.pure, AV.pures, pures_append, jpu, rrow_pur, rb_pur, natv_pur, Bool.and_self, Bool.and_true, Bool.true_and]; done)) | refine SubB.fn ?_ ?_ | refine SubB.sl ?_ ?_ | refine SubB.agg ?_ | refine SubB.tup ?_ | rfl)) : A := h
variable {m : Int} {G : Nat → Option (List AV)}
def refE (b : Bas) : Int := if basR b = false then 20 else if fitR b then 0 else 100
def ir9 : IFn := ⟨11, [⟨2, none⟩], (.seq (.reg [oA 1 (.box 30 (.r 0)), oA 2 (.mov (kI 0))]) (.seq (.block 0 (.seq (.reg [oL 4 1 (some 7), oT 5 4 (.call 21 [.r 4]), oA 6 (.not (.r 5)), oA 3 (kM 6)]) (.cond (.r 3) (.seq (.reg [oA 2 (.mov (kI 20))]) .ret) (.seq (.reg [oL 8 1 (some 7), oT 9 8 (.call 22 [.r 8]), oA 10 (.not (.r 9)), oA 7 (kM 10)]) (.cond (.r 7) (.seq (.reg [oA 2 (.mov (kI 100))]) .ret) .skip))))) (.seq (.reg [oA 2 (.mov (kI 0))]) .ret)))⟩
theorem c9 : cfunc Tryd.prog 9 = some ir9 := by kernel_rfl
theorem k9 : okIR (max 1 ir9.n) ir9.ir = true := by decide +kernel
theorem s_RFault (b : Bas) (hb : b.ok) (j : JH) : JC Tryd.prog G 9 [.agg b.enc] j (RET (I64 (refE b)) j) := by
  refine JC.run hmix c9 (by exact k9) ?_
  (try simp only[↓jr,jw,seval,ir9])
  refine JCs.ret (s_kIs b hb _) ?_
  (try simp only[↓jr,jw,seval])
  refine ww.intro (fun h => ?_) (fun h => ?_)
  · (try simp only[↓jr,jw,seval])
    refine JCs.ret (s_RFits b hb (basR_hds h) _) ?_
    (try simp only[↓jr,jw,seval])
    refine ww.intro (fun q => ?_) (fun q => ?_)
    all_goals
      (try simp only[↓jr,jw,seval])
      refine JFIN.rb ?_
      unfold refE; rw [h, q]; exact SubB.v
  · (try simp only[↓jr,jw,seval])
    refine JFIN.rb ?_
    unfold refE; rw [h]; exact SubB.v
def faultE (b : Bas) (l r : List Con) : Int := if basR b = false then 20 else if (l ++ r).all (conOK b.nms) = false then 10 else if l.all basC = false then 100 else if r.all supC = false then 100 else refE b
theorem oks_append : ∀ {l r : List Con}, Con.oks l → Con.oks r → Con.oks (l ++ r)
  | [], r, _, h => h
  | c :: l, r, h, k => by
    simp only [Con.oks] at h
    simp only [List.cons_append, Con.oks]
    exact ⟨h.1, oks_append h.2 k⟩
def ir15 : IFn := ⟨54, [⟨6, none⟩], (.seq (.reg [oA 3 (.box 30 (.r 0)), oA 6 (.mov (kI 0))]) (.seq (.seq (.reg [oL 13 3 (some 7), oT 14 13 (.call 21 [.r 13]), oA 15 (.not (.r 14))]) (.cond (.r 15) (.seq (.reg [oA 6 (.mov (kI 20))]) .ret) .skip)) (.seq (.seq (.reg [oA 16 (.bsl 0 3 [.v (.int .i64 0), .v (.int .i64 0), .sl .nil 0 []] []), oA 17 (kM 1), oA 18 (.app 3 40 (.r 16) (.r 17)), oA 19 (kM 2), oA 20 (.app 3 40 (.r 18) (.r 19)), oT 21 20 (.lenl (.r 20)), oA 22 (.mov (kI 0))]) (.block 0 (.loop (.seq (.reg [oA 23 (.bin .lss (.r 22) (.r 21))]) (.seq (.cond (.r 23) .skip (.exit 0)) (.seq (.block 1 (.seq (.reg [oA 24 (.iasl 3 (.r 20) (.r 22)), oL 25 24 (some 3), oA 8 (.alloc 43 [.v (.int .i64 0), .v (.int .i64 0), .sl .nil 0 []]), oN (.store 3 (.r 8) (.r 25))]) (.seq (.reg [oA 26 (.fadr 0 (.r 3)), oL 27 26 (some 3), oL 28 8 (some 3), oA 29 (.call 16 [.r 27, .r 28]), oA 30 (.not (.r 29))]) (.cond (.r 30) (.seq (.reg [oA 6 (.mov (kI 10))]) .ret) .skip)))) (.reg [oA 31 (.bin .add (.r 22) (kI 1)), oA 22 (kM 31)]))))))) (.seq (.seq (.reg [oA 32 (kM 1), oT 33 32 (.lenl (.r 32)), oA 34 (.mov (kI 0))]) (.block 2 (.loop (.seq (.reg [oA 35 (.bin .lss (.r 34) (.r 33))]) (.seq (.cond (.r 35) .skip (.exit 2)) (.seq (.block 3 (.seq (.reg [oA 36 (.iasl 3 (.r 32) (.r 34)), oL 37 36 (some 3), oA 10 (.alloc 43 [.v (.int .i64 0), .v (.int .i64 0), .sl .nil 0 []]), oN (.store 3 (.r 10) (.r 37))]) (.seq (.reg [oL 38 10 (some 3), oT 39 38 (.call 24 [.r 38]), oA 40 (.not (.r 39))]) (.cond (.r 40) (.seq (.reg [oA 6 (.mov (kI 100))]) .ret) .skip)))) (.reg [oA 41 (.bin .add (.r 34) (kI 1)), oA 34 (kM 41)]))))))) (.seq (.seq (.reg [oA 42 (kM 2), oT 43 42 (.lenl (.r 42)), oA 44 (.mov (kI 0))]) (.block 4 (.loop (.seq (.reg [oA 45 (.bin .lss (.r 44) (.r 43))]) (.seq (.cond (.r 45) .skip (.exit 4)) (.seq (.block 5 (.seq (.reg [oA 46 (.iasl 3 (.r 42) (.r 44)), oL 47 46 (some 3), oA 12 (.alloc 43 [.v (.int .i64 0), .v (.int .i64 0), .sl .nil 0 []]), oN (.store 3 (.r 12) (.r 47))]) (.seq (.reg [oL 48 12 (some 3), oT 49 48 (.call 49 [.r 48]), oA 50 (.not (.r 49))]) (.cond (.r 50) (.seq (.reg [oA 6 (.mov (kI 100))]) .ret) .skip)))) (.reg [oA 51 (.bin .add (.r 44) (kI 1)), oA 44 (kM 51)]))))))) (.seq (.reg [oL 52 3 (some 7), oT 53 52 (.call 9 [.r 52]), oA 6 (kM 53)]) .ret))))))⟩
theorem c15 : cfunc Tryd.prog 15 = some ir15 := by kernel_rfl
theorem k15 : okIR (max 3 ir15.n) ir15.ir = true := by decide +kernel
theorem s_fault (b : Bas) (hb : b.ok) (l r : List Con) (t1 t2 : Tok) (hl : Con.oks l) (hr : Con.oks r) (h1 : l.length < 1000000) (h2 : r.length < 1000000) (j : JH) : JC Tryd.prog G 15 [.agg b.enc, .sl t1 l.length (encs Con.enc l), .sl t2 r.length (encs Con.enc r)] j (RET (I64 (faultE b l r)) j) := by
  refine JC.run hmix c15 (by exact k15) ?_
  (try simp only[↓jr,jw,seval,ir15])
  refine JCs.ret (s_kIs b hb _) ?_
  (try simp only[↓jr,jw,seval])
  refine ww.intro (fun g0 => ?_) (fun g0 => ?_)
  · (try simp only[↓jr,jw,seval])
    have hc0 : CanApp j (j.pushTok 0) (.own j.tnext 0 3) 3 0 := .inr ⟨j.tnext, Nat.le_refl _, Nat.lt_succ_self _, rfl, by show (if j.tnext = j.tnext then some 0 else j.tok j.tnext) = some 0; rw [if_pos rfl]⟩
    refine JAPP.can' hc0 ((TokExt.refl j).push 0) rfl (by rw [d_len1]) (encs_one l) (by omega) (by omega) ?_
    intro tk1 j1 hc1 ht1 hle1
    rw [Nat.zero_add] at hc1
    (try simp only[↓jr,jw,seval,ht1.next])
    refine JAPP.can' hc1 ht1 (by rw [d_len1]) (by rw [d_len1]) (encs_one r) (by omega) (by omega) ?_
    intro tk2 j2 hc2 ht2 hle2
    rw [← encs_append, ← List.length_append]
    have hnx := ht2.next
    (try simp only[↓jr,jw,seval,ht2.next,ht2.next])
    refine JLOOP.of (σ := Nat) (fun s => s ≤ (l ++ r).length ∧ ((l ++ r).drop s).all (conOK b.nms) = (l ++ r).all (conOK b.nms)) (fun s => (l ++ r).length - s) (fun s => [(22, I64 s), (21, I64 (l ++ r).length), (20, .sl .none (l ++ r).length (encs Con.enc (l ++ r))), (3, .ptr (pid j.next 0) 0), (1, .sl .none l.length (encs Con.enc l)), (2, .sl .none r.length (encs Con.enc r))]) (fun s => ext j2 [.cells 30 b.enc]) 0 ⟨Nat.zero_le _, ?_⟩ ?_ (JDropH.refl _) ?_
    · rfl
    · (try simp only[↓jr,jw,seval,ht2.next,DL,ht2.next])
      exact ⟨SubB.v, SubB.v, SubB.sl rfl (SubBs.pure (encs_pur Con.pur _)), SubB.ptr (by unfold pid; omega), SubB.sl rfl (SubBs.pure (encs_pur Con.pur _)), SubB.sl rfl (SubBs.pure (encs_pur Con.pur _))⟩
    have hlen : (l ++ r).length = l.length + r.length := List.length_append
    rintro k ⟨hk, hI⟩
    try simp only at hk hI
    (try simp only[↓jr,jw,seval,ht2.next])
    refine wq.intro (fun h1 => ?_) (fun h1 => ?_)
    · have hlt' : k < (l ++ r).length := by omega
      have hlt : k < (l ++ r).length := by omega
      obtain ⟨c, u, hd⟩ : ∃ c_ l_, List.drop k (l ++ r) = c_ :: l_ := ⟨_, _, List.drop_eq_getElem_cons hlt⟩
      have hd1 : List.drop (k + 1) (l ++ r) = u := by rw [← List.drop_drop, hd]; rfl
      have hmem : c ∈ l ++ r := List.mem_of_mem_drop (hd ▸ List.mem_cons_self)
      (try simp only[↓jr,jw,seval,ht2.next,hd])
      refine wc.intro (by omega) ?_
      (try simp only[↓jr,jw,seval,ht2.next,hd])
      rw [hd] at hI
      rw [List.all_cons] at hI
      refine JCs.ret (s_Is b.nms c _ hb.nms (Con.oks_mem (oks_append hl hr) hmem)) ?_
      (try simp only[↓jr,jw,seval,ht2.next])
      refine ww.intro (fun c1 => ?_) (fun c1 => ?_)
      · (try simp only[↓jr,jw,seval,ht2.next])
        rw [c1, Bool.true_and] at hI
        refine wc.intro (R64_add hlt (by omega)) ?_; (try simp only[↓jr,jw,seval,ht2.next])
        refine JNEXT.of (k + 1) ⟨by omega, by rw [hd1]; exact hI⟩ (by omega) ?_ JDropH.nx
        simp only [Int.natCast_add]
        (try simp only[↓jr,jw,seval,ht2.next,DL])
        exact ⟨SubB.v, SubB.v, SubB.pure (by simp only [AV.pure]; exact encs_pur Con.pur _), SubB.ptr (by unfold pid; omega), SubB.pure (by simp only [AV.pure]; exact encs_pur Con.pur _), SubB.pure (by simp only [AV.pure]; exact encs_pur Con.pur _)⟩
      · (try simp only[↓jr,jw,seval,ht2.next])
        refine JFIN.ret ((JDropH.back ht2).of_ext) ?_
        unfold faultE; rw [g0, ← hI, c1]; exact SubB.v
    (try simp only[↓jr,jw,seval,ht2.next])
    rw [List.drop_eq_nil_of_le (by omega), List.all_nil] at hI
    have hF : faultE b l r = if l.all basC = false then 100 else if r.all supC = false then 100 else refE b := by unfold faultE; rw [g0, ← hI]; rfl
    have hok : ∀ c ∈ l ++ r, conOK b.nms c = true := fun c hc => List.all_eq_true.1 hI.symm c hc
    clear hI h1 hk
    refine JLOOP.of (σ := Nat) (fun s => s ≤ (l).length ∧ (l.drop s).all basC = l.all basC) (fun s => (l).length - s) (fun s => [(34, I64 s), (33, I64 l.length), (32, .sl .none l.length (encs Con.enc l)), (3, .ptr (pid j.next 0) 0), (2, .sl .none r.length (encs Con.enc r))]) (fun s => ext j2 [.cells 30 b.enc]) 0 ⟨Nat.zero_le _, ?_⟩ ?_ (JDropH.refl _) ?_
    · rfl
    · (try simp only[↓jr,jw,seval,ht2.next,DL])
      exact ⟨SubB.v, SubB.v, SubB.pure (by simp only [AV.pure]; exact encs_pur Con.pur _), SubB.ptr (by unfold pid; omega), SubB.pure (by simp only [AV.pure]; exact encs_pur Con.pur _)⟩
    rintro k ⟨hk, hI⟩
    try simp only at hk hI
    (try simp only[↓jr,jw,seval,ht2.next])
    refine wq.intro (fun h1 => ?_) (fun h1 => ?_)
    · have hlt : k < (l).length := by omega
      obtain ⟨c, u, hd⟩ : ∃ c_ l_, List.drop k (l) = c_ :: l_ := ⟨_, _, List.drop_eq_getElem_cons hlt⟩
      have hd1 : List.drop (k + 1) (l) = u := by rw [← List.drop_drop, hd]; rfl
      have hmem : c ∈ l := List.mem_of_mem_drop (hd ▸ List.mem_cons_self)
      (try simp only[↓jr,jw,seval,ht2.next,hd])
      refine wc.intro (by omega) ?_
      (try simp only[↓jr,jw,seval,ht2.next,hd])
      rw [hd] at hI
      rw [List.all_cons] at hI
      refine JCs.ret (s_RBasic c (shaped_hd (conOK_shaped (hok c (List.mem_append.2 (.inl hmem))))) _) ?_
      (try simp only[↓jr,jw,seval,ht2.next])
      refine ww.intro (fun c1 => ?_) (fun c1 => ?_)
      · (try simp only[↓jr,jw,seval,ht2.next])
        rw [c1, Bool.true_and] at hI
        refine wc.intro (R64_add hlt (by omega)) ?_; (try simp only[↓jr,jw,seval,ht2.next])
        refine JNEXT.of (k + 1) ⟨by omega, by rw [hd1]; exact hI⟩ (by omega) ?_ JDropH.nx
        simp only [Int.natCast_add]
        (try simp only[↓jr,jw,seval,ht2.next,DL])
        exact ⟨SubB.v, SubB.v, SubB.pure (by simp only [AV.pure]; exact encs_pur Con.pur _), SubB.ptr (by unfold pid; omega), SubB.pure (by simp only [AV.pure]; exact encs_pur Con.pur _)⟩
      · (try simp only[↓jr,jw,seval,ht2.next])
        refine JFIN.ret ((JDropH.back ht2).of_ext) ?_
        rw [hF, ← hI, c1]; exact SubB.v
    (try simp only[↓jr,jw,seval,ht2.next])
    rw [List.drop_eq_nil_of_le (by omega), List.all_nil] at hI
    have hF2 : faultE b l r = if r.all supC = false then 100 else refE b := by rw [hF, ← hI]; rfl
    clear hI h1 hk hF
    refine JLOOP.of (σ := Nat) (fun s => s ≤ (r).length ∧ (r.drop s).all supC = r.all supC) (fun s => (r).length - s) (fun s => [(44, I64 s), (43, I64 r.length), (42, .sl .none r.length (encs Con.enc r)), (3, .ptr (pid j.next 0) 0)]) (fun s => ext j2 [.cells 30 b.enc]) 0 ⟨Nat.zero_le _, ?_⟩ ?_ (JDropH.refl _) ?_
    · rfl
    · (try simp only[↓jr,jw,seval,ht2.next,DL])
      exact ⟨SubB.v, SubB.v, SubB.pure (by simp only [AV.pure]; exact encs_pur Con.pur _), SubB.ptr (by unfold pid; omega)⟩
    rintro k ⟨hk, hI⟩
    try simp only at hk hI
    (try simp only[↓jr,jw,seval,ht2.next])
    refine wq.intro (fun h1 => ?_) (fun h1 => ?_)
    · have hlt : k < (r).length := by omega
      obtain ⟨c, u, hd⟩ : ∃ c_ l_, List.drop k (r) = c_ :: l_ := ⟨_, _, List.drop_eq_getElem_cons hlt⟩
      have hd1 : List.drop (k + 1) (r) = u := by rw [← List.drop_drop, hd]; rfl
      have hmem : c ∈ r := List.mem_of_mem_drop (hd ▸ List.mem_cons_self)
      (try simp only[↓jr,jw,seval,ht2.next,hd])
      refine wc.intro (by omega) ?_
      (try simp only[↓jr,jw,seval,ht2.next,hd])
      rw [hd] at hI
      rw [List.all_cons] at hI
      refine JCs.ret (s_Super c (shaped_hd2 (conOK_shaped (hok c (List.mem_append.2 (.inr hmem))))) _) ?_
      (try simp only[↓jr,jw,seval,ht2.next])
      refine ww.intro (fun c1 => ?_) (fun c1 => ?_)
      · (try simp only[↓jr,jw,seval,ht2.next])
        rw [c1, Bool.true_and] at hI
        refine wc.intro (R64_add hlt (by omega)) ?_; (try simp only[↓jr,jw,seval,ht2.next])
        refine JNEXT.of (k + 1) ⟨by omega, by rw [hd1]; exact hI⟩ (by omega) ?_ JDropH.nx
        simp only [Int.natCast_add]
        (try simp only[↓jr,jw,seval,ht2.next,DL])
        exact ⟨SubB.v, SubB.v, SubB.pure (by simp only [AV.pure]; exact encs_pur Con.pur _), SubB.ptr (by unfold pid; omega)⟩
      · (try simp only[↓jr,jw,seval,ht2.next])
        refine JFIN.ret ((JDropH.back ht2).of_ext) ?_
        rw [hF2, ← hI, c1]; exact SubB.v
    (try simp only[↓jr,jw,seval,ht2.next])
    rw [List.drop_eq_nil_of_le (by omega), List.all_nil] at hI
    refine JCs.ret (s_RFault b hb _) ?_
    (try simp only[↓jr,jw,seval,ht2.next])
    refine JFIN.ret ((JDropH.back ht2).of_ext) ?_
    rw [hF2, ← hI]; exact SubB.v
  · (try simp only[↓jr,jw,seval])
    refine JFIN.rb ?_
    unfold faultE; rw [g0]; exact SubB.v
end Go.Proofs.YtkcbhebbjpiibaaDoor.Pg
