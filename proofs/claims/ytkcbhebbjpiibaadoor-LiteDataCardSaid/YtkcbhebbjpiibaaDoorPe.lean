/-
  The pairs of a role, as the program tells them.
-/
import Derived.Test.YtkcbhebbjpiibaaDoorNd
set_option linter.unusedVariables false
set_option linter.unusedSimpArgs false
set_option linter.defProp false
set_option maxRecDepth 20000
set_option maxHeartbeats 1000000
namespace Go.Proofs.YtkcbhebbjpiibaaDoor.Pg
open Go
theorem sbPe {A : Prop} (h : A := by repeat' (first | exact trivial | refine And.intro ?_ ?_ | exact SubB.v | exact SubB.any | ((first | refine SubB.ptr ?_ | refine SubB.arr ?_ | refine SubB.mp ?_) <;> first | assumption | (unfold pid; omega)) | ((first | refine SubB.pure ?_ | refine SubBs.pure ?_) <;> (simp only [AV.pure, AV.pures, pures_append, jpu, rrow_pur, rb_pur, natv_pur, Bool.and_self, Bool.and_true, Bool.true_and]; done)) | refine SubB.fn ?_ ?_ | refine SubB.sl ?_ ?_ | refine SubB.agg ?_ | refine SubB.tup ?_ | rfl)) : A := h
variable {m : Int} {G : Nat → Option (List AV)}
def pairF (N role fr to : Nat) (l : Lnk) : Bool := (decide (l.fr = fr) && decide (l.to = to) && rol N (2 * l.role.toNat) role) || (decide (l.to = fr) && decide (l.fr = to) && rol N (2 * l.role.toNat + 1) role)
theorem sp_b8 {b : Bas} {a x : AV} : icut none (x :: (b.enc ++ [a])) 7 = some (.sl .none b.links.length (encs Lnk.enc b.links)) := rfl
def ir72 : IFn := ⟨69, [⟨8, none⟩], (.seq (.reg [oA 4 (.box 86 (.r 0)), oA 8 (.mov (kB false))]) (.seq (.seq (.reg [oA 11 (.fadr 1 (.r 4)), oA 12 (.fadr 6 (.r 11)), oL 13 12 none, oT 14 13 (.lenl (.r 13)), oA 15 (.mov (kI 0))]) (.block 0 (.loop (.seq (.reg [oA 16 (.bin .lss (.r 15) (.r 14))]) (.seq (.cond (.r 16) .skip (.exit 0)) (.seq (.block 1 (.seq (.reg [oA 17 (.iasl 3 (.r 13) (.r 15)), oL 18 17 (some 3), oA 10 (.alloc 94 [.v (.int .i64 0), .v (.int .i64 0), .v (.int .i64 0)]), oN (.store 3 (.r 10) (.r 18))]) (.seq (.draw [oA 19 (.fadr 1 (.r 10)), oL 20 19 none, oA 21 (kM 2), oA 22 (.bin .eql (.r 20) (.r 21)), oA 23 (kM 22), ⟨(some 24), (some ((23, true))), none, (.fadr 2 (.r 10))⟩, ⟨(some 25), (some ((23, true))), (some (.r 24)), (.load none (.r 24))⟩, ⟨(some 26), (some ((23, true))), none, (kM 3)⟩, ⟨(some 27), (some ((23, true))), none, (.bin .eql (.r 25) (.r 26))⟩, oA 28 (.pick (.r 23) (.r 27) (kB false)), oA 29 (kM 28), ⟨(some 30), (some ((29, true))), none, (.fadr 0 (.r 4))⟩, ⟨(some 31), (some ((29, true))), (some (.r 30)), (.load none (.r 30))⟩, ⟨(some 32), (some ((29, true))), none, (.fadr 0 (.r 10))⟩, ⟨(some 33), (some ((29, true))), (some (.r 32)), (.load none (.r 32))⟩, ⟨(some 34), (some ((29, true))), none, (.bin .mul (kI 2) (.r 33))⟩, ⟨(some 35), (some ((29, true))), none, (kM 1)⟩, ⟨(some 36), (some ((29, true))), none, (.nchk (.r 31))⟩, ⟨(some 37), (some ((29, true))), none, (.fadr 784 (.r 36))⟩, ⟨(some 38), (some ((29, true))), none, (.iaar 12 12 (.r 37) (.r 34))⟩, ⟨(some 39), (some ((29, true))), none, (.iaar 12 1 (.r 38) (.r 35))⟩, ⟨(some 40), (some ((29, true))), (some (.r 39)), (.load none (.r 39))⟩, oA 41 (.pick (.r 29) (.r 40) (kB false)), oA 42 (kM 41), ⟨(some 43), (some ((42, false))), none, (.fadr 2 (.r 10))⟩, ⟨(some 44), (some ((42, false))), (some (.r 43)), (.load none (.r 43))⟩, ⟨(some 45), (some ((42, false))), none, (kM 2)⟩, ⟨(some 46), (some ((42, false))), none, (.bin .eql (.r 44) (.r 45))⟩, ⟨(some 47), (some ((42, false))), none, (kM 46)⟩, ⟨(some 48), (some ((47, true))), none, (.fadr 1 (.r 10))⟩, ⟨(some 49), (some ((47, true))), (some (.r 48)), (.load none (.r 48))⟩, ⟨(some 50), (some ((47, true))), none, (kM 3)⟩, ⟨(some 51), (some ((47, true))), none, (.bin .eql (.r 49) (.r 50))⟩, ⟨(some 52), (some ((42, false))), none, (.pick (.r 47) (.r 51) (kB false))⟩, ⟨(some 53), (some ((42, false))), none, (kM 52)⟩, ⟨(some 54), (some ((53, true))), none, (.fadr 0 (.r 4))⟩, ⟨(some 55), (some ((53, true))), (some (.r 54)), (.load none (.r 54))⟩, ⟨(some 56), (some ((53, true))), none, (.fadr 0 (.r 10))⟩, ⟨(some 57), (some ((53, true))), (some (.r 56)), (.load none (.r 56))⟩, ⟨(some 58), (some ((53, true))), none, (.bin .mul (kI 2) (.r 57))⟩, ⟨(some 59), (some ((53, true))), none, (.bin .add (.r 58) (kI 1))⟩, ⟨(some 60), (some ((53, true))), none, (kM 1)⟩, ⟨(some 61), (some ((53, true))), none, (.nchk (.r 55))⟩, ⟨(some 62), (some ((53, true))), none, (.fadr 784 (.r 61))⟩, ⟨(some 63), (some ((53, true))), none, (.iaar 12 12 (.r 62) (.r 59))⟩, ⟨(some 64), (some ((53, true))), none, (.iaar 12 1 (.r 63) (.r 60))⟩, ⟨(some 65), (some ((53, true))), (some (.r 64)), (.load none (.r 64))⟩, ⟨(some 66), (some ((42, false))), none, (.pick (.r 53) (.r 65) (kB false))⟩, oA 67 (.pick (.r 42) (kB true) (.r 66))] []) (.cond (.r 67) (.seq (.reg [oA 8 (.mov (kB true))]) .ret) .skip)))) (.reg [oA 68 (.bin .add (.r 15) (kI 1)), oA 15 (kM 68)]))))))) (.seq (.reg [oA 8 (.mov (kB false))]) .ret)))⟩
theorem c72 : cfunc Tryd.prog 72 = some ir72 := by kernel_rfl
theorem k72 : okIR (max 4 ir72.n) ir72.ir = true := by decide +kernel
theorem s_Pair (b : Bas) (hs : b.said) (r N role fr to : Nat) (a : AV) (j : JH) (hr : r < j.next) (hgr : j.get r = some (.cells 117 (rb N))) (lr : role < 12) :
    JC Tryd.prog G 72 [.agg (AV.ptr r 0 :: (b.enc ++ [a])), I64 role, I64 fr, I64 to] j (RET (BOO (b.links.any (pairF N role fr to))) j) := by
  have hcnt := hs.cnt
  unfold Bas.count at hcnt
  have lo2 : ∀ {l : List AObj}, r < (ext j l).next := fun {l} => by rw [ext_next]; unfold pid; omega
  refine JC.run hmix c72 (by exact k72) ?_
  (try simp only[↓jr,jw,seval,sp_b7,sp_b8,ext_get_old,hr,hgr,rb_ld,rb_len,lo2,ir72])
  refine JLOOP.of (σ := Nat) (fun k => k ≤ b.links.length ∧ (b.links.drop k).any (pairF N role fr to) = b.links.any (pairF N role fr to)) (fun k => b.links.length - k)
    (fun k => [(15, I64 k), (14, I64 b.links.length), (13, .sl .none b.links.length (encs Lnk.enc b.links)), (4, .ptr (pid j.next 0) 0), (1, I64 role), (2, I64 fr), (3, I64 to)])
    (fun _ => ext j [.cells 86 (AV.ptr r 0 :: (b.enc ++ [a]))]) 0 ⟨Nat.zero_le _, rfl⟩ ?_ (JDropH.refl _) ?_
  · (try simp only[↓jr,jw,seval,sp_b7,sp_b8,ext_get_old,hr,hgr,rb_ld,rb_len,lo2,DL])
    exact ⟨SubB.v, SubB.v, SubB.sl rfl (SubBs.pure (encs_pur Lnk.pur _)), SubB.ptr (by unfold pid; omega), SubB.v, SubB.v, SubB.v⟩
  rintro k ⟨hk, hI⟩
  (try simp only[↓jr,jw,seval,sp_b7,sp_b8,ext_get_old,hr,hgr,rb_ld,rb_len,lo2])
  refine wq.intro (fun g1 => ?_) (fun g1 => ?_)
  · have hlt : k < (b.links).length := by omega
    obtain ⟨l, rl, hd⟩ : ∃ c_ l_, List.drop k (b.links) = c_ :: l_ := ⟨_, _, List.drop_eq_getElem_cons hlt⟩
    have hd1 : List.drop (k + 1) (b.links) = rl := by rw [← List.drop_drop, hd]; rfl
    have hmem : l ∈ b.links := List.mem_of_mem_drop (hd ▸ List.mem_cons_self)
    rw [hd, List.any_cons] at hI
    obtain ⟨r', i, i', e0, hr', e1, hi, e2, hi'⟩ := hs.lnk l hmem
    have t1 : (2 * (r' : Int)).toNat = 2 * r' := by omega
    have t2 : (2 * (r' : Int) + 1).toNat = 2 * r' + 1 := by omega
    have hp : pairF N role fr to l = ((decide ((i : Int) = fr) && decide ((i' : Int) = to) && rol N (2 * r') role) || (decide ((i' : Int) = fr) && decide ((i : Int) = to) && rol N (2 * r' + 1) role)) := by unfold pairF; rw [e0, e1, e2]; rfl
    obtain ⟨T1, hT1⟩ : ∃ T, T = (decide ((i : Int) = fr) && decide ((i' : Int) = to) && rol N (2 * r') role) := ⟨_, rfl⟩
    obtain ⟨T2, hT2⟩ : ∃ T, T = (decide ((i' : Int) = fr) && decide ((i : Int) = to) && rol N (2 * r' + 1) role) := ⟨_, rfl⟩
    rw [hp, ← hT1, ← hT2] at hI
    (try simp only[↓jr,jw,seval,sp_b7,sp_b8,ext_get_old,hr,hgr,rb_ld,rb_len,lo2,hd,e0,e1,e2,t1,t2])
    refine wc.intro (by omega) ?_
    (try simp only[↓jr,jw,seval,sp_b7,sp_b8,ext_get_old,hr,hgr,rb_ld,rb_len,lo2,hd,e0,e1,e2,t1,t2])
    repeat' (first | (refine wq.intro (fun _ => ?_) (fun _ => ?_) <;> (try simp only[↓jr,jw,seval,sp_b7,sp_b8,ext_get_old,hr,hgr,rb_ld,rb_len,lo2,hd,e0,e1,e2,t1,t2])) | (refine ww.intro (fun _ => ?_) (fun _ => ?_) <;> (try simp only[↓jr,jw,seval,sp_b7,sp_b8,ext_get_old,hr,hgr,rb_ld,rb_len,lo2,hd,e0,e1,e2,t1,t2])) | (refine wc.intro (by first | omega | (unfold R64; omega)) ?_; (try simp only[↓jr,jw,seval,sp_b7,sp_b8,ext_get_old,hr,hgr,rb_ld,rb_len,lo2,hd,e0,e1,e2,t1,t2])) | (refine wr.in (by unfold R64; omega) ?_; (try simp only[↓jr,jw,seval,sp_b7,sp_b8,ext_get_old,hr,hgr,rb_ld,rb_len,lo2,hd,e0,e1,e2,t1,t2])) | (refine JDRAW.oc (by (try simp only[↓jr,jw,seval,sp_b7,sp_b8,ext_get_old,hr,hgr,rb_ld,rb_len,lo2,hd,e0,e1,e2,t1,t2,jq]) <;> exact orq) ?_; (try simp only[↓jr,jw,seval,sp_b7,sp_b8,ext_get_old,hr,hgr,rb_ld,rb_len,lo2,hd,e0,e1,e2,t1,t2])) | fail)
    all_goals first
      | (refine JFIN.rb ?_
         have e : b.links.any (pairF N role fr to) = true := by first | (rw [← hI, (show T1 = true by rw [hT1, decide_eq_true (show (i : Int) = fr by assumption), decide_eq_true (show (i' : Int) = to by assumption), Bool.true_and, Bool.true_and]; assumption), Bool.true_or, Bool.true_or]) | (rw [← hI, (show T2 = true by rw [hT2, decide_eq_true (show (i' : Int) = fr by assumption), decide_eq_true (show (i : Int) = to by assumption), Bool.true_and, Bool.true_and]; assumption), Bool.or_true, Bool.true_or])
         rw [e]; exact SubB.v)
      | (refine JNEXT.of (k + 1) ⟨by omega, by rw [hd1, ← hI, (show T1 = false by rw [hT1]; first | (rw [decide_eq_false (show ¬ (i : Int) = fr by assumption)]; rfl) | (rw [decide_eq_false (show ¬ (i' : Int) = to by assumption), Bool.and_false]; rfl) | (rw [show rol N (2 * r') role = false by assumption, Bool.and_false])), (show T2 = false by rw [hT2]; first | (rw [decide_eq_false (show ¬ (i' : Int) = fr by assumption)]; rfl) | (rw [decide_eq_false (show ¬ (i : Int) = to by assumption), Bool.and_false]; rfl) | (rw [show rol N (2 * r' + 1) role = false by assumption, Bool.and_false]))]; rfl⟩ (by omega) ?_ JDropH.nx
         (try simp only[↓jr,jw,seval,sp_b7,sp_b8,ext_get_old,hr,hgr,rb_ld,rb_len,lo2,hd,e0,e1,e2,t1,t2,DL])
         exact ⟨SubB.eqi (by omega), SubB.v, SubB.sl rfl (SubBs.pure (encs_pur Lnk.pur _)), SubB.ptr (by unfold pid; omega), SubB.v, SubB.v, SubB.v⟩)
      | trace_state
  · (try simp only[↓jr,jw,seval,sp_b7,sp_b8,ext_get_old,hr,hgr,rb_ld,rb_len,lo2])
    rw [List.drop_eq_nil_of_le (by omega)] at hI
    refine JFIN.rb ?_
    rw [← hI]; exact SubB.v
end Go.Proofs.YtkcbhebbjpiibaaDoor.Pg
