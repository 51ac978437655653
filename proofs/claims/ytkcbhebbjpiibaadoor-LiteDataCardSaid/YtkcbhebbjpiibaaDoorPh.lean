/-
  What the reference tells of individuals: Consistent.
-/
import Derived.Test.YtkcbhebbjpiibaaDoorPb
set_option linter.unusedVariables false
set_option linter.unusedSimpArgs false
set_option linter.defProp false
set_option maxRecDepth 20000
set_option maxHeartbeats 2000000
namespace Go.Proofs.YtkcbhebbjpiibaaDoor.Pg
open Go
theorem sbPh {A : Prop} (h : A := by repeat' (first | exact trivial | refine And.intro ?_ ?_ | exact SubB.v | exact SubB.any | ((first | refine SubB.ptr ?_ | refine SubB.arr ?_ | refine SubB.mp ?_) <;> first | assumption | (unfold pid; omega)) | ((first | refine SubB.pure ?_ | refine SubBs.pure ?_) <;> (simp only [AV.pure, AV.pures, pures_append, jpu, brow_pur, Bool.and_self, Bool.and_true, Bool.true_and]; done)) | refine SubB.fn ?_ ?_ | refine SubB.sl ?_ ?_ | refine SubB.agg ?_ | refine SubB.tup ?_ | rfl)) : A := h
variable {m : Int} {G : Nat → Option (List AV)}
def consI' (R : Ru) (L : List Nat) : Bool := !clash R (belK R L) (belK R L) && !(List.range R.sz).any fun x => belK R L x && R.E x
def consR (R : Ru) (b : Bas) : Bool := (List.range b.nms.is.length).all fun i => consI' R (refL b i)
theorem all_step {p : Nat → Bool} {k : Nat} (h : p k = true) (hI : (List.range k).all p = true) : (List.range (k + 1)).all p = true := by
  rw [List.range_succ, List.all_append, hI, List.all_cons, h]; rfl
theorem all_hit {p : Nat → Bool} {n k : Nat} (hk : k < n) (h : p k = false) : (List.range n).all p = false := by
  rw [Bool.eq_false_iff]; intro q
  have := List.all_eq_true.1 q k (List.mem_range.2 hk)
  rw [h] at this; cases this
def ir36 : IFn := ⟨43, [⟨4, none⟩], (.seq (.reg [oA 3 (.box 30 (.r 1)), oA 4 (.mov (kB false))]) (.seq (.seq (.reg [oA 9 (.fadr 0 (.r 3)), oA 10 (.fadr 2 (.r 9)), oL 11 10 none, oT 12 11 (.lenl (.r 11)), oA 13 (.mov (kI 0))]) (.block 0 (.loop (.seq (.reg [oA 14 (.bin .lss (.r 13) (.r 12))]) (.seq (.cond (.r 14) .skip (.exit 0)) (.seq (.block 1 (.seq (.reg [oA 15 (kM 13), oA 5 (kM 15)]) (.seq (.reg [oA 16 (kM 0), oL 17 3 (some 7), oA 18 (kM 5), oA 19 (.call 37 [.r 16, .r 17, .r 18]), oA 6 (kM 19)]) (.seq (.seq (.reg [oA 20 (kM 0), oA 21 (kM 6), oA 22 (kM 6), oA 23 (.call 70 [.r 20, .r 21, .r 22])]) (.cond (.r 23) (.seq (.reg [oA 4 (.mov (kB false))]) .ret) .skip)) (.seq (.reg [oA 24 (kM 6), oT 25 24 (.lenl (.r 24)), oA 26 (.mov (kI 0))]) (.block 2 (.loop (.seq (.reg [oA 27 (.bin .lss (.r 26) (.r 25))]) (.seq (.cond (.r 27) .skip (.exit 2)) (.seq (.block 3 (.seq (.reg [oA 28 (kM 26), oA 29 (.iasl 1 (.r 24) (.r 26)), oL 30 29 none, oA 7 (kM 28), oA 8 (kM 30)]) (.seq (.reg [oA 31 (kM 8), oA 32 (kM 31), ⟨(some 33), (some ((32, true))), none, (kM 0)⟩, ⟨(some 34), (some ((32, true))), none, (.nchk (.r 33))⟩, ⟨(some 35), (some ((32, true))), none, (.fadr 5 (.r 34))⟩, ⟨(some 36), (some ((32, true))), (some (.r 35)), (.load none (.r 35))⟩, ⟨(some 37), (some ((32, true))), none, (kM 7)⟩, ⟨(some 38), (some ((32, true))), none, (.iasl 1 (.r 36) (.r 37))⟩, ⟨(some 39), (some ((32, true))), (some (.r 38)), (.load none (.r 38))⟩, oA 40 (.pick (.r 32) (.r 39) (kB false))]) (.cond (.r 40) (.seq (.reg [oA 4 (.mov (kB false))]) .ret) .skip)))) (.reg [oA 41 (.bin .add (.r 26) (kI 1)), oA 26 (kM 41)]))))))))))) (.reg [oA 42 (.bin .add (.r 13) (kI 1)), oA 13 (kM 42)]))))))) (.seq (.reg [oA 4 (.mov (kB true))]) .ret)))⟩
theorem c36 : cfunc Tryd.prog 36 = some ir36 := by kernel_rfl
theorem k36 : okIR (max 2 ir36.n) ir36.ir = true := by decide +kernel
theorem s_RConsistent (o : Nat) (R : Ru) (b : Bas) (hs : b.said2) (hnc : R.nc = b.kc) (hnr : R.nr = b.kr) (j : JH) (h : RuAt j o R) :
    JC Tryd.prog G 36 [.ptr o 0, .agg b.enc] j (RET (BOO (consR R b)) j) := by
  have ho := h.lo
  have hg := h.go
  have hf := h.few
  have lE := h.lE
  have gE := h.gE
  have hz : R.sz ≤ 28 := by unfold Ru.sz; omega
  have hni := hs.said.ni
  have lo2 : ∀ {l : List AObj}, o < (ext j l).next := fun {l} => by rw [ext_next]; unfold pid; omega
  have lo3 : ∀ {k : Nat}, o < pid j.next k := fun {k} => by unfold pid; omega
  refine JC.run hmix c36 (by exact k36) ?_
  (try simp only[↓jr,jw,seval,ext_ext,pid_pid,ext_get_old,ho,hg,lE,gE,Ru.cells,arrs_len,arrs_ld,brow_ld,brow_len,lo2,lo3,ir36])
  refine JLOOP.of (σ := Nat) (fun k => k ≤ b.nms.is.length ∧ ((List.range k).all fun i => consI' R (refL b i)) = true) (fun k => b.nms.is.length - k)
    (fun k => [(13, I64 k), (12, I64 b.nms.is.length), (3, .ptr (pid j.next 0) 0), (0, .ptr o 0)])
    (fun _ => ext j [.cells 30 b.enc]) 0 ⟨Nat.zero_le _, rfl⟩ ?_ (JDropH.refl _) ?_
  · (try simp only[↓jr,jw,seval,ext_ext,pid_pid,ext_get_old,ho,hg,lE,gE,Ru.cells,arrs_len,arrs_ld,brow_ld,brow_len,lo2,lo3,DL])
    exact ⟨SubB.v, SubB.v, SubB.ptr (by unfold pid; omega), SubB.ptr (by unfold pid; omega)⟩
  rintro i ⟨hi, hI⟩
  (try simp only[↓jr,jw,seval,ext_ext,pid_pid,ext_get_old,ho,hg,lE,gE,Ru.cells,arrs_len,arrs_ld,brow_ld,brow_len,lo2,lo3])
  refine wq.intro (fun g1 => ?_) (fun g1 => ?_)
  · (try simp only[↓jr,jw,seval,ext_ext,pid_pid,ext_get_old,ho,hg,lE,gE,Ru.cells,arrs_len,arrs_ld,brow_ld,brow_len,lo2,lo3])
    refine JCs.ret (s_Belongs o i R b hs hnc hnr _ (h.ext _)) ?_
    generalize hp : belK R (refL b i) = p
    have hcI : consI' R (refL b i) = (!clash R p p && !(List.range R.sz).any fun x => p x && R.E x) := by unfold consI'; rw [hp]
    (try simp only[↓jr,jw,seval,ext_ext,pid_pid,ext_get_old,ho,hg,lE,gE,Ru.cells,arrs_len,arrs_ld,brow_ld,brow_len,lo2,lo3])
    refine JCs.ret (s_Clash o R (pid j.next 2) (pid j.next 2) p p _ (h.ext _) (by rw [ext_next]; unfold pid; simp) (by rw [ext_get_new rfl]; rfl) (by rw [ext_next]; unfold pid; simp) (by rw [ext_get_new rfl]; rfl)) ?_
    (try simp only[↓jr,jw,seval,ext_ext,pid_pid,ext_get_old,ho,hg,lE,gE,Ru.cells,arrs_len,arrs_ld,brow_ld,brow_len,lo2,lo3])
    refine ww.intro (fun q1 => ?_) (fun q1 => ?_)
    · (try simp only[↓jr,jw,seval,ext_ext,pid_pid,ext_get_old,ho,hg,lE,gE,Ru.cells,arrs_len,arrs_ld,brow_ld,brow_len,lo2,lo3])
      refine JFIN.rb ?_
      have e : consR R b = false := all_hit (k := i) (by omega) (by rw [hcI, q1]; rfl)
      rw [e]; exact SubB.v
    · (try simp only[↓jr,jw,seval,ext_ext,pid_pid,ext_get_old,ho,hg,lE,gE,Ru.cells,arrs_len,arrs_ld,brow_ld,brow_len,lo2,lo3])
      refine JLOOP.of (σ := Nat) (fun x => x ≤ R.sz ∧ ((List.range x).any fun x => p x && R.E x) = false) (fun x => R.sz - x)
        (fun x => [(26, I64 x), (25, I64 R.sz), (24, .arr (pid j.next 2) 0 R.sz), (13, I64 i), (12, I64 b.nms.is.length), (3, .ptr (pid j.next 0) 0), (0, .ptr o 0)])
        (fun _ => ext j [.cells 30 b.enc, .cells 30 b.enc, .cells 4 (brow R.sz p)]) 0 ⟨Nat.zero_le _, rfl⟩ ?_ (JDropH.refl _) ?_
      · (try simp only[↓jr,jw,seval,ext_ext,pid_pid,ext_get_old,ho,hg,lE,gE,Ru.cells,arrs_len,arrs_ld,brow_ld,brow_len,lo2,lo3,DL])
        exact ⟨SubB.v, SubB.v, SubB.arr (by unfold pid; omega), SubB.v, SubB.v, SubB.ptr (by unfold pid; omega), SubB.ptr (by unfold pid; omega)⟩
      rintro x ⟨hx, hX⟩
      (try simp only[↓jr,jw,seval,ext_ext,pid_pid,ext_get_old,ho,hg,lE,gE,Ru.cells,arrs_len,arrs_ld,brow_ld,brow_len,lo2,lo3])
      refine wq.intro (fun g2 => ?_) (fun g2 => ?_)
      · (try simp only[↓jr,jw,seval,ext_ext,pid_pid,ext_get_old,ho,hg,lE,gE,Ru.cells,arrs_len,arrs_ld,brow_ld,brow_len,lo2,lo3])
        refine wc.intro (by omega) ?_
        (try simp only[↓jr,jw,seval,ext_ext,pid_pid,ext_get_old,ho,hg,lE,gE,Ru.cells,arrs_len,arrs_ld,brow_ld,brow_len,lo2,lo3])
        refine wc.intro (by omega) ?_
        (try simp only[↓jr,jw,seval,ext_ext,pid_pid,ext_get_old,ho,hg,lE,gE,Ru.cells,arrs_len,arrs_ld,brow_ld,brow_len,lo2,lo3])
        refine ww.intro (fun q2 => ?_) (fun q2 => ?_)
        · (try simp only[↓jr,jw,seval,ext_ext,pid_pid,ext_get_old,ho,hg,lE,gE,Ru.cells,arrs_len,arrs_ld,brow_ld,brow_len,lo2,lo3])
          refine wc.intro (by omega) ?_
          (try simp only[↓jr,jw,seval,ext_ext,pid_pid,ext_get_old,ho,hg,lE,gE,Ru.cells,arrs_len,arrs_ld,brow_ld,brow_len,lo2,lo3])
          refine wc.intro (by omega) ?_
          (try simp only[↓jr,jw,seval,ext_ext,pid_pid,ext_get_old,ho,hg,lE,gE,Ru.cells,arrs_len,arrs_ld,brow_ld,brow_len,lo2,lo3])
          refine ww.intro (fun q3 => ?_) (fun q3 => ?_)
          · (try simp only[↓jr,jw,seval,ext_ext,pid_pid,ext_get_old,ho,hg,lE,gE,Ru.cells,arrs_len,arrs_ld,brow_ld,brow_len,lo2,lo3])
            refine JFIN.rb ?_
            have e : consR R b = false := all_hit (k := i) (by omega) (by rw [hcI, any_hit (p := fun x => p x && R.E x) (k := x) (by omega) (by rw [q2, q3]; rfl)]; simp)
            rw [e]; exact SubB.v
          · (try simp only[↓jr,jw,seval,ext_ext,pid_pid,ext_get_old,ho,hg,lE,gE,Ru.cells,arrs_len,arrs_ld,brow_ld,brow_len,lo2,lo3])
            refine wc.intro (by unfold R64; omega) ?_
            (try simp only[↓jr,jw,seval,ext_ext,pid_pid,ext_get_old,ho,hg,lE,gE,Ru.cells,arrs_len,arrs_ld,brow_ld,brow_len,lo2,lo3])
            refine JNEXT.of (x + 1) ⟨by omega, any_step (n := R.sz) (by omega) (by rw [q2, q3]; rfl) hX⟩ (by omega) ?_ JDropH.nx
            (try simp only[↓jr,jw,seval,ext_ext,pid_pid,ext_get_old,ho,hg,lE,gE,Ru.cells,arrs_len,arrs_ld,brow_ld,brow_len,lo2,lo3,DL])
            exact ⟨SubB.eqi (by omega), SubB.v, SubB.arr (by unfold pid; omega), SubB.v, SubB.v, SubB.ptr (by unfold pid; omega), SubB.ptr (by unfold pid; omega)⟩
        · (try simp only[↓jr,jw,seval,ext_ext,pid_pid,ext_get_old,ho,hg,lE,gE,Ru.cells,arrs_len,arrs_ld,brow_ld,brow_len,lo2,lo3])
          refine wc.intro (by unfold R64; omega) ?_
          (try simp only[↓jr,jw,seval,ext_ext,pid_pid,ext_get_old,ho,hg,lE,gE,Ru.cells,arrs_len,arrs_ld,brow_ld,brow_len,lo2,lo3])
          refine JNEXT.of (x + 1) ⟨by omega, any_step (n := R.sz) (by omega) (by rw [q2]; rfl) hX⟩ (by omega) ?_ JDropH.nx
          (try simp only[↓jr,jw,seval,ext_ext,pid_pid,ext_get_old,ho,hg,lE,gE,Ru.cells,arrs_len,arrs_ld,brow_ld,brow_len,lo2,lo3,DL])
          exact ⟨SubB.eqi (by omega), SubB.v, SubB.arr (by unfold pid; omega), SubB.v, SubB.v, SubB.ptr (by unfold pid; omega), SubB.ptr (by unfold pid; omega)⟩
      · (try simp only[↓jr,jw,seval,ext_ext,pid_pid,ext_get_old,ho,hg,lE,gE,Ru.cells,arrs_len,arrs_ld,brow_ld,brow_len,lo2,lo3])
        have ex : x = R.sz := by omega
        rw [ex] at hX
        refine wc.intro (by unfold R64; omega) ?_
        (try simp only[↓jr,jw,seval,ext_ext,pid_pid,ext_get_old,ho,hg,lE,gE,Ru.cells,arrs_len,arrs_ld,brow_ld,brow_len,lo2,lo3])
        refine JNEXT.of (i + 1) ⟨by omega, all_step (by rw [hcI, q1, hX]; rfl) hI⟩ (by omega) ?_ JDropH.nx
        (try simp only[↓jr,jw,seval,ext_ext,pid_pid,ext_get_old,ho,hg,lE,gE,Ru.cells,arrs_len,arrs_ld,brow_ld,brow_len,lo2,lo3,DL])
        exact ⟨SubB.eqi (by omega), SubB.v, SubB.ptr (by unfold pid; omega), SubB.ptr (by unfold pid; omega)⟩
  · (try simp only[↓jr,jw,seval,ext_ext,pid_pid,ext_get_old,ho,hg,lE,gE,Ru.cells,arrs_len,arrs_ld,brow_ld,brow_len,lo2,lo3])
    have ei : i = b.nms.is.length := by omega
    rw [ei] at hI
    refine JFIN.rb ?_
    have e : consR R b = true := hI
    rw [e]; exact SubB.v
end Go.Proofs.YtkcbhebbjpiibaaDoor.Pg
