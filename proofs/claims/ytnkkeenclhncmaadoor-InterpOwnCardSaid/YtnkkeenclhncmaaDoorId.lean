/-
  The elements of a concept: the whole evaluator.
-/
import Derived.Test.YtnkkeenclhncmaaDoorIc
set_option linter.unusedVariables false
set_option linter.unusedSimpArgs false
set_option maxRecDepth 100000
set_option maxHeartbeats 8000000
namespace Go.Proofs.YtnkkeenclhncmaaDoor.Pg
open Go
theorem hbE0 : hasBody Tryd.prog 93 = true := by decide +kernel
theorem hbE1 : hasBody Tryd.prog 94 = true := by decide +kernel
theorem hbE2 : hasBody Tryd.prog 95 = true := by decide +kernel
theorem hbE3 : hasBody Tryd.prog 96 = true := by decide +kernel
theorem hbE4 : hasBody Tryd.prog 97 = true := by decide +kernel
theorem hbE5 : hasBody Tryd.prog 98 = true := by decide +kernel
theorem hbE6 : hasBody Tryd.prog 99 = true := by decide +kernel
theorem hbE7 : hasBody Tryd.prog 100 = true := by decide +kernel
theorem sh_cases {nc nr : Nat} {op n : Int} {k : Nat} (h : SH nc nr op n k) : (op = 0 ∧ k = 0 ∧ 0 ≤ n ∧ n < nc) ∨ (op = 1 ∧ k = 0) ∨ (op = 2 ∧ k = 0) ∨ (op = 3 ∧ k = 1) ∨ (op = 4 ∧ k = 2) ∨ (op = 5 ∧ k = 2) ∨ (op = 6 ∧ k = 1 ∧ 0 ≤ n ∧ n < 2 * nr) ∨ (op = 7 ∧ k = 1 ∧ 0 ≤ n ∧ n < 2 * nr) := by
  obtain ⟨h1, h2, h3, h4, h5⟩ := h
  unfold arity at h1
  simp only [quant, Bool.or_eq_true, decide_eq_true_eq] at h4
  split at h1
  · rcases ‹op = 0 ∨ op = 1 ∨ op = 2› with e | e | e
    · exact .inl ⟨e, by omega, h2, h3 e⟩
    · exact .inr (.inl ⟨e, by omega⟩)
    · exact .inr (.inr (.inl ⟨e, by omega⟩))
  · split at h1
    · rcases ‹op = 3 ∨ op = 6 ∨ op = 7› with e | e | e
      · exact .inr (.inr (.inr (.inl ⟨e, by omega⟩)))
      · exact .inr (.inr (.inr (.inr (.inr (.inr (.inl ⟨e, by omega, h2, h4 (by omega) (.inl e)⟩))))))
      · exact .inr (.inr (.inr (.inr (.inr (.inr (.inr ⟨e, by omega, h2, h4 (by omega) (.inr e)⟩))))))
    · split at h1
      · rcases ‹op = 4 ∨ op = 5› with e | e
        · exact .inr (.inr (.inr (.inr (.inl ⟨e, by omega⟩))))
        · exact .inr (.inr (.inr (.inr (.inr (.inl ⟨e, by omega⟩)))))
      · omega
theorem len2 {α : Type} : ∀ {l : List α}, l.length = 2 → ∃ a b, l = [a, b]
  | [a, b], _ => ⟨a, b, rfl⟩
section
variable {m : GM} {G : Nat → Option (List AV)}
def ir70 : IFn := ⟨14, [⟨4, none⟩], (.seq (.reg [oA 2 (.box 117 (.r 0)), oA 3 (.box 44 (.r 1)), oA 4 (.mov (.k (.sl .nil 0 [])))]) (.seq (.reg [oA 6 (.build [.v .nilFunc, .v .nilFunc, .v .nilFunc, .v .nilFunc, .v .nilFunc, .v .nilFunc, .v .nilFunc, .v .nilFunc] [(0, (1, .k (.fn (.func 93) [] []))), (1, (1, .k (.fn (.func 94) [] []))), (2, (1, .k (.fn (.func 95) [] []))), (3, (1, .k (.fn (.func 96) [] []))), (4, (1, .k (.fn (.func 97) [] []))), (5, (1, .k (.fn (.func 98) [] []))), (6, (1, .k (.fn (.func 99) [] []))), (7, (1, .k (.fn (.func 100) [] [])))]), oA 5 (.alloc 138 [.v .nilFunc, .v .nilFunc, .v .nilFunc, .v .nilFunc, .v .nilFunc, .v .nilFunc, .v .nilFunc, .v .nilFunc]), oN (.store 8 (.r 5) (.r 6))]) (.seq (.draw [oA 7 (.fadr 0 (.r 3)), oL 8 7 none, oA 9 (.iaar 8 1 (.r 5) (.r 8)), oL 10 9 none, oL 11 2 (some 4), oL 12 3 (some 3), oA 13 (.callv (.r 10) [.r 11, .r 12]), oA 4 (kM 13)] []) .ret)))⟩
theorem c70 : cfunc Tryd.prog 70 = some ir70 := by kernel_rfl
theorem k70 : okIR (max 2 ir70.n) ir70.ir = true := by decide +kernel
theorem s_eof (i : Itp) (hi : i.wf) (hk : i.ok) : ∀ c : Con, shaped i.cons.length i.rols.length c = true → IHof G i c := by
  intro c
  induction c using Con.ind with
  | h op n args ih =>
    intro hs j
    rw [shaped_mk] at hs
    obtain ⟨hs1, hs2⟩ := hs
    refine JC.flat wds_pur ?_
    rcases sh_cases hs1 with ⟨rfl, h0, h1, h2⟩ | ⟨rfl, h0⟩ | ⟨rfl, h0⟩ | ⟨rfl, h0⟩ | ⟨rfl, h0⟩ | ⟨rfl, h0⟩ | ⟨rfl, h0, h1, h2⟩ | ⟨rfl, h0, h1, h2⟩
    · skip
      skip
      refine JC.run hmix c70 (by exact k70) ?_
      (try simp only[↓jr,jw,seval,ji,ext_ext,pid_pid,ir70])
      refine wc.intro hbE0 ?_
      (try simp only[↓jr,jw,seval,ji,ext_ext,pid_pid])
      refine JDC.use (s_ename i hi hk n h1 h2 args _) ?_
      (try simp only[↓jr,jw,seval,ji,ext_ext,pid_pid])
      refine JDRAW.oc (by (try simp only[↓jr,jw,seval,ji,ext_ext,pid_pid,jq,qe2,qe3,ext_next,ext_tnext,pushTok_next,List.length_cons,List.length_nil]) <;> (repeat' (first | exact trivial | refine And.intro ?_ ?_ | exact Nat.le_refl _ | (refine pr_extp ⟨_, rfl⟩ (some_lt ?_)) | (refine pr_extp ⟨_, rfl⟩ (fun _ q => by cases q)) | omega | (unfold pid; omega) | (simp only [pushTok_next, List.length_cons, List.length_nil]; unfold pid; omega)))) ?_; (try simp only[↓jr,jw,seval,ji,ext_ext,pid_pid])
      exact JFIN.flat (TokExt.refl _) (k := 3) rfl
    · skip
      obtain rfl := List.length_eq_zero_iff.1 h0
      have e : semC i (.mk 1 n []) = fun x => decide (x < sz i) := by funext x; simp [semC]
      rw [e]
      refine JC.run hmix c70 (by exact k70) ?_
      (try simp only[↓jr,jw,seval,ji,ext_ext,pid_pid,ir70])
      refine wc.intro hbE1 ?_
      (try simp only[↓jr,jw,seval,ji,ext_ext,pid_pid])
      refine JDC.use (s_etop i hi (.mk 1 n []) _) ?_
      (try simp only[↓jr,jw,seval,ji,ext_ext,pid_pid])
      refine JDRAW.oc (by (try simp only[↓jr,jw,seval,ji,ext_ext,pid_pid,jq,qe2,qe3,ext_next,ext_tnext,pushTok_next,List.length_cons,List.length_nil]) <;> (repeat' (first | exact trivial | refine And.intro ?_ ?_ | exact Nat.le_refl _ | (refine pr_extp ⟨_, rfl⟩ (some_lt ?_)) | (refine pr_extp ⟨_, rfl⟩ (fun _ q => by cases q)) | omega | (unfold pid; omega) | (simp only [pushTok_next, List.length_cons, List.length_nil]; unfold pid; omega)))) ?_; (try simp only[↓jr,jw,seval,ji,ext_ext,pid_pid])
      exact JFIN.flat (TokExt.refl _) (k := 3) rfl
    · skip
      obtain rfl := List.length_eq_zero_iff.1 h0
      have e : semC i (.mk 2 n []) = fun _ => false := by funext x; simp [semC]
      rw [e]
      refine JC.run hmix c70 (by exact k70) ?_
      (try simp only[↓jr,jw,seval,ji,ext_ext,pid_pid,ir70])
      refine wc.intro hbE2 ?_
      (try simp only[↓jr,jw,seval,ji,ext_ext,pid_pid])
      refine JDC.use (s_ebot i hi (.agg (Con.mk 2 n []).enc) (Con.mk 2 n []).enc rfl rfl _) ?_
      (try simp only[↓jr,jw,seval,ji,ext_ext,pid_pid])
      refine JDRAW.oc (by (try simp only[↓jr,jw,seval,ji,ext_ext,pid_pid,jq,qe2,qe3,ext_next,ext_tnext,pushTok_next,List.length_cons,List.length_nil]) <;> (repeat' (first | exact trivial | refine And.intro ?_ ?_ | exact Nat.le_refl _ | (refine pr_extp ⟨_, rfl⟩ (some_lt ?_)) | (refine pr_extp ⟨_, rfl⟩ (fun _ q => by cases q)) | omega | (unfold pid; omega) | (simp only [pushTok_next, List.length_cons, List.length_nil]; unfold pid; omega)))) ?_; (try simp only[↓jr,jw,seval,ji,ext_ext,pid_pid])
      exact JFIN.flat (TokExt.refl _) (k := 3) rfl
    · skip
      obtain ⟨a, rfl⟩ := List.length_eq_one_iff.1 h0
      have hc := (Bool.and_eq_true_iff.1 hs2).1
      refine JC.run hmix c70 (by exact k70) ?_
      (try simp only[↓jr,jw,seval,ji,ext_ext,pid_pid,ir70])
      refine wc.intro hbE3 ?_
      (try simp only[↓jr,jw,seval,ji,ext_ext,pid_pid])
      refine JDC.use (s_enot i hi n a (ih a (List.mem_singleton.2 rfl) hc) _) ?_
      (try simp only[↓jr,jw,seval,ji,ext_ext,pid_pid])
      refine JDRAW.oc (by (try simp only[↓jr,jw,seval,ji,ext_ext,pid_pid,jq,qe2,qe3,ext_next,ext_tnext,pushTok_next,List.length_cons,List.length_nil]) <;> (repeat' (first | exact trivial | refine And.intro ?_ ?_ | exact Nat.le_refl _ | (refine pr_extp ⟨_, rfl⟩ (some_lt ?_)) | (refine pr_extp ⟨_, rfl⟩ (fun _ q => by cases q)) | omega | (unfold pid; omega) | (simp only [pushTok_next, List.length_cons, List.length_nil]; unfold pid; omega)))) ?_; (try simp only[↓jr,jw,seval,ji,ext_ext,pid_pid])
      exact JFIN.flat (TokExt.refl _) (k := 3) rfl
    · skip
      obtain ⟨a, b, rfl⟩ := len2 h0
      have hc := Bool.and_eq_true_iff.1 hs2
      have hc2 := (Bool.and_eq_true_iff.1 hc.2).1
      refine JC.run hmix c70 (by exact k70) ?_
      (try simp only[↓jr,jw,seval,ji,ext_ext,pid_pid,ir70])
      refine wc.intro hbE4 ?_
      (try simp only[↓jr,jw,seval,ji,ext_ext,pid_pid])
      refine JDC.use (s_eand i hi n a b (ih a List.mem_cons_self hc.1) (ih b (by simp) hc2) _) ?_
      (try simp only[↓jr,jw,seval,ji,ext_ext,pid_pid])
      refine JDRAW.oc (by (try simp only[↓jr,jw,seval,ji,ext_ext,pid_pid,jq,qe2,qe3,ext_next,ext_tnext,pushTok_next,List.length_cons,List.length_nil]) <;> (repeat' (first | exact trivial | refine And.intro ?_ ?_ | exact Nat.le_refl _ | (refine pr_extp ⟨_, rfl⟩ (some_lt ?_)) | (refine pr_extp ⟨_, rfl⟩ (fun _ q => by cases q)) | omega | (unfold pid; omega) | (simp only [pushTok_next, List.length_cons, List.length_nil]; unfold pid; omega)))) ?_; (try simp only[↓jr,jw,seval,ji,ext_ext,pid_pid])
      exact JFIN.flat (TokExt.refl _) (k := 3) rfl
    · skip
      obtain ⟨a, b, rfl⟩ := len2 h0
      have hc := Bool.and_eq_true_iff.1 hs2
      have hc2 := (Bool.and_eq_true_iff.1 hc.2).1
      refine JC.run hmix c70 (by exact k70) ?_
      (try simp only[↓jr,jw,seval,ji,ext_ext,pid_pid,ir70])
      refine wc.intro hbE5 ?_
      (try simp only[↓jr,jw,seval,ji,ext_ext,pid_pid])
      refine JDC.use (s_eor i hi n a b (ih a List.mem_cons_self hc.1) (ih b (by simp) hc2) _) ?_
      (try simp only[↓jr,jw,seval,ji,ext_ext,pid_pid])
      refine JDRAW.oc (by (try simp only[↓jr,jw,seval,ji,ext_ext,pid_pid,jq,qe2,qe3,ext_next,ext_tnext,pushTok_next,List.length_cons,List.length_nil]) <;> (repeat' (first | exact trivial | refine And.intro ?_ ?_ | exact Nat.le_refl _ | (refine pr_extp ⟨_, rfl⟩ (some_lt ?_)) | (refine pr_extp ⟨_, rfl⟩ (fun _ q => by cases q)) | omega | (unfold pid; omega) | (simp only [pushTok_next, List.length_cons, List.length_nil]; unfold pid; omega)))) ?_; (try simp only[↓jr,jw,seval,ji,ext_ext,pid_pid])
      exact JFIN.flat (TokExt.refl _) (k := 3) rfl
    · skip
      obtain ⟨a, rfl⟩ := List.length_eq_one_iff.1 h0
      have hc := (Bool.and_eq_true_iff.1 hs2).1
      refine JC.run hmix c70 (by exact k70) ?_
      (try simp only[↓jr,jw,seval,ji,ext_ext,pid_pid,ir70])
      refine wc.intro hbE6 ?_
      (try simp only[↓jr,jw,seval,ji,ext_ext,pid_pid])
      refine JDC.use (s_esome i hi hk n h1 h2 a (ih a (List.mem_singleton.2 rfl) hc) _) ?_
      (try simp only[↓jr,jw,seval,ji,ext_ext,pid_pid])
      refine JDRAW.oc (by (try simp only[↓jr,jw,seval,ji,ext_ext,pid_pid,jq,qe2,qe3,ext_next,ext_tnext,pushTok_next,List.length_cons,List.length_nil]) <;> (repeat' (first | exact trivial | refine And.intro ?_ ?_ | exact Nat.le_refl _ | (refine pr_extp ⟨_, rfl⟩ (some_lt ?_)) | (refine pr_extp ⟨_, rfl⟩ (fun _ q => by cases q)) | omega | (unfold pid; omega) | (simp only [pushTok_next, List.length_cons, List.length_nil]; unfold pid; omega)))) ?_; (try simp only[↓jr,jw,seval,ji,ext_ext,pid_pid])
      exact JFIN.flat (TokExt.refl _) (k := 3) rfl
    · skip
      obtain ⟨a, rfl⟩ := List.length_eq_one_iff.1 h0
      have hc := (Bool.and_eq_true_iff.1 hs2).1
      refine JC.run hmix c70 (by exact k70) ?_
      (try simp only[↓jr,jw,seval,ji,ext_ext,pid_pid,ir70])
      refine wc.intro hbE7 ?_
      (try simp only[↓jr,jw,seval,ji,ext_ext,pid_pid])
      refine JDC.use (s_eall i hi hk n h1 h2 a (ih a (List.mem_singleton.2 rfl) hc) _) ?_
      (try simp only[↓jr,jw,seval,ji,ext_ext,pid_pid])
      refine JDRAW.oc (by (try simp only[↓jr,jw,seval,ji,ext_ext,pid_pid,jq,qe2,qe3,ext_next,ext_tnext,pushTok_next,List.length_cons,List.length_nil]) <;> (repeat' (first | exact trivial | refine And.intro ?_ ?_ | exact Nat.le_refl _ | (refine pr_extp ⟨_, rfl⟩ (some_lt ?_)) | (refine pr_extp ⟨_, rfl⟩ (fun _ q => by cases q)) | omega | (unfold pid; omega) | (simp only [pushTok_next, List.length_cons, List.length_nil]; unfold pid; omega)))) ?_; (try simp only[↓jr,jw,seval,ji,ext_ext,pid_pid])
      exact JFIN.flat (TokExt.refl _) (k := 3) rfl
def ir44 : IFn := ⟨12, [⟨4, none⟩], (.seq (.reg [oA 2 (.box 44 (.r 0)), oA 3 (.box 29 (.r 1)), oA 4 (.mov (.k (.sl .nil 0 [])))]) (.seq (.draw [oL 5 3 (some 4), oA 6 (.build [.v (.int .i64 0), .sl .nil 0 [], .sl .nil 0 [], .sl .nil 0 []] [(0, (4, .r 5))]), oL 7 2 (some 3), oA 8 (.call 70 [.r 6, .r 7]), oA 9 (.fadr 0 (.r 3)), oL 10 9 none, oA 11 (.call 71 [.r 8, .r 10]), oA 4 (kM 11)] [(5, 3)]) .ret))⟩
theorem c44 : cfunc Tryd.prog 44 = some ir44 := by kernel_rfl
theorem k44 : okIR (max 2 ir44.n) ir44.ir = true := by decide +kernel
theorem s_iOf (i : Itp) (hi : i.wf) (hk : i.ok) (c : Con) (hs : shaped i.cons.length i.rols.length c = true) (j : JH) : JC Tryd.prog G 44 [.agg c.enc, .agg i.enc] j (RET (.sl .none (bitsL (semC i c) (sz i)).length (ints (bitsL (semC i c) (sz i)))) j) := by
  obtain ⟨e1, e2, e3⟩ := sz_size hi
  obtain ⟨w1, w2⟩ := nw_le hi
  refine JC.run hmix c44 (by exact k44) ?_
  (try simp only[↓jr,jw,seval,ji,ext_ext,pid_pid,e1,ir44])
  refine JDC.use (s_eof i hi hk c hs _) ?_
  (try simp only[↓jr,jw,seval,ji,ext_ext,pid_pid,e1])
  refine JDC.use (s_List (semC i c) (nw (sz i)) _ (sz i) UE w2 (by omega) _ (by rw [ext_next, pid_lt]; simp) (ext_get_new rfl)) ?_
  (try simp only[↓jr,jw,seval,ji,ext_ext,pid_pid,e1])
  refine JDRAW.oc (by (try simp only[↓jr,jw,seval,ji,ext_ext,pid_pid,e1,jq,qe2,qe3,ext_next,ext_tnext,pushTok_next,List.length_cons,List.length_nil]) <;> (repeat' (first | exact trivial | refine And.intro ?_ ?_ | exact Nat.le_refl _ | (refine pr_extp ⟨_, rfl⟩ (some_lt ?_)) | (refine pr_extp ⟨_, rfl⟩ (fun _ q => by cases q)) | omega | (unfold pid; omega) | (simp only [pushTok_next, List.length_cons, List.length_nil]; unfold pid; omega)))) ?_; (try simp only[↓jr,jw,seval,ji,ext_ext,pid_pid,e1])
  exact JFIN.ret (JDropH.back (TokExt.refl _)).of_ext (SubB.sl rfl (SubBs.pure (ints_pur _)))
end
end Go.Proofs.YtnkkeenclhncmaaDoor.Pg
