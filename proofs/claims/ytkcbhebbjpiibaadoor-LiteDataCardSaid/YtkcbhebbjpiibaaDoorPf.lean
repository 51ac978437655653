/-
  What the reference tells of individuals: Linked, Consistent.
-/
import Derived.Test.YtkcbhebbjpiibaaDoorPb
set_option linter.unusedVariables false
set_option linter.unusedSimpArgs false
set_option linter.defProp false
set_option maxRecDepth 20000
set_option maxHeartbeats 2000000
namespace Go.Proofs.YtkcbhebbjpiibaaDoor.Pg
open Go
theorem sbPf {A : Prop} (h : A := by repeat' (first | exact trivial | refine And.intro ?_ ?_ | exact SubB.v | exact SubB.any | ((first | refine SubB.ptr ?_ | refine SubB.arr ?_ | refine SubB.mp ?_) <;> first | assumption | (unfold pid; omega)) | ((first | refine SubB.pure ?_ | refine SubBs.pure ?_) <;> (simp only [AV.pure, AV.pures, pures_append, jpu, brow_pur, Bool.and_self, Bool.and_true, Bool.true_and]; done)) | refine SubB.fn ?_ ?_ | refine SubB.sl ?_ ?_ | refine SubB.agg ?_ | refine SubB.tup ?_ | rfl)) : A := h
variable {m : Int} {G : Nat → Option (List AV)}
def linkF (B : Mx) (role fr to : Nat) (l : Lnk) : Bool := (decide (l.fr = fr) && decide (l.to = to) && B (2 * l.role.toNat) role) || (decide (l.fr = to) && decide (l.to = fr) && B (2 * l.role.toNat + 1) role)
def ir39 : IFn := ⟨72, [⟨10, none⟩], (.seq (.reg [oA 6 (.box 30 (.r 1)), oA 10 (.mov (kB false))]) (.seq (.seq (.reg [oA 13 (.fadr 6 (.r 6)), oL 14 13 none, oT 15 14 (.lenl (.r 14)), oA 16 (.mov (kI 0))]) (.block 0 (.loop (.seq (.reg [oA 17 (.bin .lss (.r 16) (.r 15))]) (.seq (.cond (.r 17) .skip (.exit 0)) (.seq (.block 1 (.seq (.reg [oA 18 (.iasl 3 (.r 14) (.r 16)), oL 19 18 (some 3), oA 12 (.alloc 94 [.v (.int .i64 0), .v (.int .i64 0), .v (.int .i64 0)]), oN (.store 3 (.r 12) (.r 19))]) (.seq (.draw [oA 20 (.fadr 1 (.r 12)), oL 21 20 none, oA 22 (kM 3), oA 23 (.bin .eql (.r 21) (.r 22)), oA 24 (kM 23), ⟨(some 25), (some ((24, true))), none, (.fadr 2 (.r 12))⟩, ⟨(some 26), (some ((24, true))), (some (.r 25)), (.load none (.r 25))⟩, ⟨(some 27), (some ((24, true))), none, (kM 4)⟩, ⟨(some 28), (some ((24, true))), none, (.bin .eql (.r 26) (.r 27))⟩, oA 29 (.pick (.r 24) (.r 28) (kB false)), oA 30 (kM 29), ⟨(some 31), (some ((30, true))), none, (kM 0)⟩, ⟨(some 32), (some ((30, true))), none, (.nchk (.r 31))⟩, ⟨(some 33), (some ((30, true))), none, (.fadr 2 (.r 32))⟩, ⟨(some 34), (some ((30, true))), (some (.r 33)), (.load none (.r 33))⟩, ⟨(some 35), (some ((30, true))), none, (.fadr 0 (.r 12))⟩, ⟨(some 36), (some ((30, true))), (some (.r 35)), (.load none (.r 35))⟩, ⟨(some 37), (some ((30, true))), none, (.bin .mul (kI 2) (.r 36))⟩, ⟨(some 38), (some ((30, true))), none, (.iasl 1 (.r 34) (.r 37))⟩, ⟨(some 39), (some ((30, true))), (some (.r 38)), (.load none (.r 38))⟩, ⟨(some 40), (some ((30, true))), none, (kM 2)⟩, ⟨(some 41), (some ((30, true))), none, (.iasl 1 (.r 39) (.r 40))⟩, ⟨(some 42), (some ((30, true))), (some (.r 41)), (.load none (.r 41))⟩, oA 43 (.pick (.r 30) (.r 42) (kB false)), oA 44 (kM 43), ⟨(some 45), (some ((44, false))), none, (.fadr 1 (.r 12))⟩, ⟨(some 46), (some ((44, false))), (some (.r 45)), (.load none (.r 45))⟩, ⟨(some 47), (some ((44, false))), none, (kM 4)⟩, ⟨(some 48), (some ((44, false))), none, (.bin .eql (.r 46) (.r 47))⟩, ⟨(some 49), (some ((44, false))), none, (kM 48)⟩, ⟨(some 50), (some ((49, true))), none, (.fadr 2 (.r 12))⟩, ⟨(some 51), (some ((49, true))), (some (.r 50)), (.load none (.r 50))⟩, ⟨(some 52), (some ((49, true))), none, (kM 3)⟩, ⟨(some 53), (some ((49, true))), none, (.bin .eql (.r 51) (.r 52))⟩, ⟨(some 54), (some ((44, false))), none, (.pick (.r 49) (.r 53) (kB false))⟩, ⟨(some 55), (some ((44, false))), none, (kM 54)⟩, ⟨(some 56), (some ((55, true))), none, (kM 0)⟩, ⟨(some 57), (some ((55, true))), none, (.nchk (.r 56))⟩, ⟨(some 58), (some ((55, true))), none, (.fadr 2 (.r 57))⟩, ⟨(some 59), (some ((55, true))), (some (.r 58)), (.load none (.r 58))⟩, ⟨(some 60), (some ((55, true))), none, (.fadr 0 (.r 12))⟩, ⟨(some 61), (some ((55, true))), (some (.r 60)), (.load none (.r 60))⟩, ⟨(some 62), (some ((55, true))), none, (.bin .mul (kI 2) (.r 61))⟩, ⟨(some 63), (some ((55, true))), none, (.bin .add (.r 62) (kI 1))⟩, ⟨(some 64), (some ((55, true))), none, (.iasl 1 (.r 59) (.r 63))⟩, ⟨(some 65), (some ((55, true))), (some (.r 64)), (.load none (.r 64))⟩, ⟨(some 66), (some ((55, true))), none, (kM 2)⟩, ⟨(some 67), (some ((55, true))), none, (.iasl 1 (.r 65) (.r 66))⟩, ⟨(some 68), (some ((55, true))), (some (.r 67)), (.load none (.r 67))⟩, ⟨(some 69), (some ((44, false))), none, (.pick (.r 55) (.r 68) (kB false))⟩, oA 70 (.pick (.r 44) (kB true) (.r 69))] []) (.cond (.r 70) (.seq (.reg [oA 10 (.mov (kB true))]) .ret) .skip)))) (.reg [oA 71 (.bin .add (.r 16) (kI 1)), oA 16 (kM 71)]))))))) (.seq (.reg [oA 10 (.mov (kB false))]) .ret)))⟩
theorem c39 : cfunc Tryd.prog 39 = some ir39 := by kernel_rfl
theorem k39 : okIR (max 5 ir39.n) ir39.ir = true := by decide +kernel
theorem s_RLinked (o role fr to : Nat) (R : Ru) (b : Bas) (hs : b.said2) (hnr : R.nr = b.kr) (lr : role < R.nr) (j : JH) (h : RuAt j o R) :
    JC Tryd.prog G 39 [.ptr o 0, .agg b.enc, I64 role, I64 fr, I64 to] j (RET (BOO (b.links.any (linkF R.B role fr to))) j) := by
  have ho := h.lo
  have hg := h.go
  have hf := h.few
  have hcnt := hs.said.cnt
  unfold Bas.count at hcnt
  have lo2 : ∀ {l : List AObj}, o < (ext j l).next := fun {l} => by rw [ext_next]; unfold pid; omega
  have lo3 : ∀ {k : Nat}, o < pid j.next k := fun {k} => by unfold pid; omega
  refine JC.run hmix c39 (by exact k39) ?_
  (try simp only[↓jr,jw,seval,ext_get_old,ho,hg,Ru.cells,arrs_len,arrs_ld,brow_ld,brow_len,lo2,lo3,ir39])
  refine JLOOP.of (σ := Nat) (fun k => k ≤ b.links.length ∧ (b.links.drop k).any (linkF R.B role fr to) = b.links.any (linkF R.B role fr to)) (fun k => b.links.length - k)
    (fun k => [(16, I64 k), (15, I64 b.links.length), (14, .sl .none b.links.length (encs Lnk.enc b.links)), (6, .ptr (pid j.next 0) 0), (0, .ptr o 0), (2, I64 role), (3, I64 fr), (4, I64 to)])
    (fun _ => ext j [.cells 30 b.enc]) 0 ⟨Nat.zero_le _, rfl⟩ ?_ (JDropH.refl _) ?_
  · (try simp only[↓jr,jw,seval,ext_get_old,ho,hg,Ru.cells,arrs_len,arrs_ld,brow_ld,brow_len,lo2,lo3,DL])
    exact ⟨SubB.v, SubB.v, SubB.sl rfl (SubBs.pure (encs_pur Lnk.pur _)), SubB.ptr (by unfold pid; omega), SubB.ptr (by unfold pid; omega), SubB.v, SubB.v, SubB.v⟩
  rintro k ⟨hk, hI⟩
  (try simp only[↓jr,jw,seval,ext_get_old,ho,hg,Ru.cells,arrs_len,arrs_ld,brow_ld,brow_len,lo2,lo3])
  refine wq.intro (fun g1 => ?_) (fun g1 => ?_)
  · have hlt : k < (b.links).length := by omega
    obtain ⟨l, rl, hd⟩ : ∃ c_ l_, List.drop k (b.links) = c_ :: l_ := ⟨_, _, List.drop_eq_getElem_cons hlt⟩
    have hd1 : List.drop (k + 1) (b.links) = rl := by rw [← List.drop_drop, hd]; rfl
    have hmem : l ∈ b.links := List.mem_of_mem_drop (hd ▸ List.mem_cons_self)
    rw [hd, List.any_cons] at hI
    obtain ⟨r', i, i', e0, hr', e1, e2⟩ := hs.lnk l hmem
    have t1 : (2 * (r' : Int)).toNat = 2 * r' := by omega
    have t2 : (2 * (r' : Int) + 1).toNat = 2 * r' + 1 := by omega
    have g1' := h.gB (2 * r') (by omega)
    have g2' := h.gB (2 * r' + 1) (by omega)
    have l1 : pid R.uB (2 * r') < j.next := by have := h.lB; unfold pid; omega
    have l2 : pid R.uB (2 * r' + 1) < j.next := by have := h.lB; unfold pid; omega
    have l3 : ∀ {k : Nat}, pid R.uB (2 * r') < pid j.next k := fun {k} => by unfold pid at *; omega
    have l4 : ∀ {k : Nat}, pid R.uB (2 * r' + 1) < pid j.next k := fun {k} => by unfold pid at *; omega
    have hp : linkF R.B role fr to l = ((decide ((i : Int) = fr) && decide ((i' : Int) = to) && R.B (2 * r') role) || (decide ((i : Int) = to) && decide ((i' : Int) = fr) && R.B (2 * r' + 1) role)) := by unfold linkF; rw [e0, e1, e2]; rfl
    obtain ⟨T1, hT1⟩ : ∃ T, T = (decide ((i : Int) = fr) && decide ((i' : Int) = to) && R.B (2 * r') role) := ⟨_, rfl⟩
    obtain ⟨T2, hT2⟩ : ∃ T, T = (decide ((i : Int) = to) && decide ((i' : Int) = fr) && R.B (2 * r' + 1) role) := ⟨_, rfl⟩
    rw [hp, ← hT1, ← hT2] at hI
    (try simp only[↓jr,jw,seval,ext_get_old,ho,hg,Ru.cells,arrs_len,arrs_ld,brow_ld,brow_len,lo2,lo3,hd,e0,e1,e2,t1,t2,g1',g2',l1,l2,l3,l4])
    refine wc.intro (by omega) ?_
    (try simp only[↓jr,jw,seval,ext_get_old,ho,hg,Ru.cells,arrs_len,arrs_ld,brow_ld,brow_len,lo2,lo3,hd,e0,e1,e2,t1,t2,g1',g2',l1,l2,l3,l4])
    repeat' (first | (refine wq.intro (fun _ => ?_) (fun _ => ?_) <;> (try simp only[↓jr,jw,seval,ext_get_old,ho,hg,Ru.cells,arrs_len,arrs_ld,brow_ld,brow_len,lo2,lo3,hd,e0,e1,e2,t1,t2,g1',g2',l1,l2,l3,l4])) | (refine ww.intro (fun _ => ?_) (fun _ => ?_) <;> (try simp only[↓jr,jw,seval,ext_get_old,ho,hg,Ru.cells,arrs_len,arrs_ld,brow_ld,brow_len,lo2,lo3,hd,e0,e1,e2,t1,t2,g1',g2',l1,l2,l3,l4])) | (refine wc.intro (by first | omega | (unfold R64; omega)) ?_; (try simp only[↓jr,jw,seval,ext_get_old,ho,hg,Ru.cells,arrs_len,arrs_ld,brow_ld,brow_len,lo2,lo3,hd,e0,e1,e2,t1,t2,g1',g2',l1,l2,l3,l4])) | (refine wr.in (by unfold R64; omega) ?_; (try simp only[↓jr,jw,seval,ext_get_old,ho,hg,Ru.cells,arrs_len,arrs_ld,brow_ld,brow_len,lo2,lo3,hd,e0,e1,e2,t1,t2,g1',g2',l1,l2,l3,l4])) | (refine JDRAW.oc (by (try simp only[↓jr,jw,seval,ext_get_old,ho,hg,Ru.cells,arrs_len,arrs_ld,brow_ld,brow_len,lo2,lo3,hd,e0,e1,e2,t1,t2,g1',g2',l1,l2,l3,l4,jq]) <;> exact orq) ?_; (try simp only[↓jr,jw,seval,ext_get_old,ho,hg,Ru.cells,arrs_len,arrs_ld,brow_ld,brow_len,lo2,lo3,hd,e0,e1,e2,t1,t2,g1',g2',l1,l2,l3,l4])) | fail)
    all_goals first
      | (refine JFIN.rb ?_
         have e : b.links.any (linkF R.B role fr to) = true := by first | (rw [← hI, (show T1 = true by rw [hT1, decide_eq_true (show (i : Int) = fr by assumption), decide_eq_true (show (i' : Int) = to by assumption), Bool.true_and, Bool.true_and]; assumption), Bool.true_or, Bool.true_or]) | (rw [← hI, (show T2 = true by rw [hT2, decide_eq_true (show (i : Int) = to by assumption), decide_eq_true (show (i' : Int) = fr by assumption), Bool.true_and, Bool.true_and]; assumption), Bool.or_true, Bool.true_or])
         rw [e]; exact SubB.v)
      | (refine JNEXT.of (k + 1) ⟨by omega, by rw [hd1, ← hI, (show T1 = false by rw [hT1]; first | (rw [decide_eq_false (show ¬ (i : Int) = fr by assumption)]; rfl) | (rw [decide_eq_false (show ¬ (i' : Int) = to by assumption), Bool.and_false]; rfl) | (rw [show R.B (2 * r') role = false by assumption, Bool.and_false])), (show T2 = false by rw [hT2]; first | (rw [decide_eq_false (show ¬ (i : Int) = to by assumption)]; rfl) | (rw [decide_eq_false (show ¬ (i' : Int) = fr by assumption), Bool.and_false]; rfl) | (rw [show R.B (2 * r' + 1) role = false by assumption, Bool.and_false]))]; rfl⟩ (by omega) ?_ JDropH.nx
         (try simp only[↓jr,jw,seval,ext_get_old,ho,hg,Ru.cells,arrs_len,arrs_ld,brow_ld,brow_len,lo2,lo3,hd,e0,e1,e2,t1,t2,g1',g2',l1,l2,l3,l4,DL])
         exact ⟨SubB.eqi (by omega), SubB.v, SubB.sl rfl (SubBs.pure (encs_pur Lnk.pur _)), SubB.ptr (by unfold pid; omega), SubB.ptr (by unfold pid; omega), SubB.v, SubB.v, SubB.v⟩)
      | trace_state
  · (try simp only[↓jr,jw,seval,ext_get_old,ho,hg,Ru.cells,arrs_len,arrs_ld,brow_ld,brow_len,lo2,lo3])
    rw [List.drop_eq_nil_of_le (by omega)] at hI
    refine JFIN.rb ?_
    rw [← hI]; exact SubB.v
end Go.Proofs.YtkcbhebbjpiibaaDoor.Pg
