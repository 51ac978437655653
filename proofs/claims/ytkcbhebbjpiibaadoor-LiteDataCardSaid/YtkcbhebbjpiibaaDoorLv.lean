/-
  The names and roles that are empty, as the program tells them.
-/
import Derived.Test.YtkcbhebbjpiibaaDoorLu
set_option linter.unusedVariables false
set_option linter.unusedSimpArgs false
set_option linter.defProp false
set_option maxRecDepth 20000
set_option maxHeartbeats 1000000
namespace Go.Proofs.YtkcbhebbjpiibaaDoor.Pg
open Go
variable {m : Int} {G : Nat → Option (List AV)}
def filt (p : Nat → Bool) (k : Nat) : List Nat := (List.range k).filter p
def natv (l : List Nat) : List AV := l.map fun (i : Nat) => .v (.int .i64 (i : Int))
theorem natv_nil : natv [] = [] := rfl
theorem filt_zero (p : Nat → Bool) : filt p 0 = [] := rfl
theorem filt_t {p : Nat → Bool} {k : Nat} (h : p k = true) : filt p (k + 1) = filt p k ++ [k] := by
  unfold filt; rw [List.range_succ, List.filter_append, List.filter_cons, if_pos h]; rfl
theorem filt_f {p : Nat → Bool} {k : Nat} (h : p k = false) : filt p (k + 1) = filt p k := by
  unfold filt; rw [List.range_succ, List.filter_append, List.filter_cons, if_neg (by rw [h]; exact Bool.false_ne_true)]; simp
theorem filt_len (p : Nat → Bool) (k : Nat) : (filt p k).length ≤ k := by
  have := List.length_filter_le p (List.range k); rw [List.length_range] at this; exact this
theorem natv_len {l : List Nat} : (natv l).length = l.length := by simp [natv]
theorem natv_append {l r : List Nat} : natv (l ++ r) = natv l ++ natv r := by simp [natv]
theorem natv_one {k : Nat} : natv [k] = [I64 k] := rfl
theorem natv_pur : ∀ l : List Nat, AV.pures (natv l) = true
  | [] => rfl
  | k :: l => by
    have := natv_pur l
    unfold natv at *
    rw [List.map_cons]; simp only [AV.pures, AV.pure, Bool.true_and]; exact this
theorem sbLv {A : Prop} (h : A := by repeat' (first | exact trivial | refine And.intro ?_ ?_ | exact SubB.v | exact SubB.any | ((first | refine SubB.ptr ?_ | refine SubB.arr ?_ | refine SubB.mp ?_) <;> first | assumption | (unfold pid; omega)) | ((first | refine SubB.pure ?_ | refine SubBs.pure ?_) <;> (simp only [AV.pure, AV.pures, pures_append, jpu, rrow_pur, rb_pur, natv_pur, Bool.and_self, Bool.and_true, Bool.true_and]; done)) | refine SubB.fn ?_ ?_ | refine SubB.sl ?_ ?_ | refine SubB.agg ?_ | refine SubB.tup ?_ | rfl)) : A := h
def emC (b : Bas) : List Nat := filt (fun a => emp (rulesN b) a) b.nms.cs.length
def emR (b : Bas) : List Nat := filt (fun s => emp (rulesN b) (16 + s)) (2 * b.nms.rs.length)
def emptC (b : Bas) : List Nat := if askE b = 0 then emC b else []
def emptR (b : Bas) : List Nat := if askE b = 0 then emR b else []
theorem askE_basR {b : Bas} (h : askE b = 0) : basR b = true ∧ fitR b = true := by
  rw [basR_eq]
  unfold askE at h
  split at h
  · omega
  · rename_i g
    split at h
    · rename_i q; exact ⟨by simpa using g, q⟩
    · omega
def ir26 : IFn := ⟨56, [⟨2, none⟩, ⟨3, none⟩, ⟨4, none⟩], (.seq (.reg [oA 1 (.box 30 (.r 0)), oA 2 (.mov (.k (.sl .nil 0 []))), oA 3 (.mov (.k (.sl .nil 0 []))), oA 4 (.mov (kI 0))]) (.seq (.seq (.reg [oL 9 1 (some 7), oT 10 9 (.call 45 [.r 9]), oA 5 (kM 10)]) (.seq (.reg [oA 11 (kM 5), oA 12 (.bin .neq (.r 11) (kI 0))]) (.cond (.r 12) (.seq (.reg [oA 13 (kM 5), oA 2 (.mov (.k (.sl .nil 0 []))), oA 3 (.mov (.k (.sl .nil 0 []))), oA 4 (kM 13)]) .ret) .skip))) (.seq (.reg [oL 14 1 (some 7), oT 15 14 (.call 58 [.r 14]), oA 6 (kM 15)]) (.seq (.seq (.reg [oA 16 (.fadr 0 (.r 1)), oA 17 (.fadr 0 (.r 16)), oL 18 17 none, oT 19 18 (.lenl (.r 18)), oA 20 (.mov (kI 0))]) (.block 0 (.loop (.seq (.reg [oA 21 (.bin .lss (.r 20) (.r 19))]) (.seq (.cond (.r 21) .skip (.exit 0)) (.seq (.block 1 (.seq (.reg [oA 22 (kM 20), oA 7 (kM 22)]) (.seq (.reg [oA 23 (kM 6), oA 24 (kM 7), oA 25 (.nchk (.r 23)), oA 26 (.fadr 1712 (.r 25)), oA 27 (.iaar 28 1 (.r 26) (.r 24)), oL 28 27 none]) (.cond (.r 28) (.reg [oA 29 (kM 2), oA 30 (kM 7), oA 31 (.bsl 1 1 [.v (.int .i64 0)] [(0, (1, .r 30))]), oA 32 (.app 1 8 (.r 29) (.r 31)), oA 2 (kM 32)]) .skip)))) (.reg [oA 33 (.bin .add (.r 20) (kI 1)), oA 20 (kM 33)]))))))) (.seq (.seq (.reg [oA 34 (.fadr 0 (.r 1)), oA 35 (.fadr 1 (.r 34)), oL 36 35 none, oT 37 36 (.lenl (.r 36)), oA 38 (.bin .mul (kI 2) (.r 37)), oA 39 (.mov (kI 0))]) (.block 2 (.loop (.seq (.reg [oA 40 (.bin .lss (.r 39) (.r 38))]) (.seq (.cond (.r 40) .skip (.exit 2)) (.seq (.block 3 (.seq (.reg [oA 41 (kM 39), oA 8 (kM 41)]) (.seq (.draw [oA 42 (kM 6), oA 43 (kM 8), oT 44 43 (.call 65 [.r 43]), oA 45 (.nchk (.r 42)), oA 46 (.fadr 1712 (.r 45)), oA 47 (.iaar 28 1 (.r 46) (.r 44)), oL 48 47 none] []) (.cond (.r 48) (.reg [oA 49 (kM 3), oA 50 (kM 8), oA 51 (.bsl 1 1 [.v (.int .i64 0)] [(0, (1, .r 50))]), oA 52 (.app 1 8 (.r 49) (.r 51)), oA 3 (kM 52)]) .skip)))) (.reg [oA 53 (.bin .add (.r 39) (kI 1)), oA 39 (kM 53)]))))))) (.seq (.reg [oA 54 (kM 2), oA 55 (kM 3), oA 2 (kM 54), oA 3 (kM 55), oA 4 (.mov (kI 0))]) .ret))))))⟩
theorem c26 : cfunc Tryd.prog 26 = some ir26 := by kernel_rfl
theorem k26 : okIR (max 1 ir26.n) ir26.ir = true := by decide +kernel
theorem s_Empty (b : Bas) (hb : b.ok) (hf : b.few) (j : JH) : JC Tryd.prog (GG m) 26 [.agg b.enc] j (RET (.tup [.sl .none (emptC b).length (natv (emptC b)), .sl .none (emptR b).length (natv (emptR b)), I64 (askE b)]) j) := by
  obtain ⟨n1, n2, n3⟩ := hb.nms
  refine JC.run hmix c26 (by exact k26) ?_
  (try simp only[↓jr,jw,seval,rb_ld,rb_len,jq2,ext_ext,pid_pid,ir26])
  refine JCs.ret (s_asks b hb hf _) ?_
  (try simp only[↓jr,jw,seval,rb_ld,rb_len,jq2,ext_ext,pid_pid])
  refine wq.intro (fun h => ?_) (fun h => ?_)
  · have hl := basR_lite (askE_basR h).1
    obtain ⟨f1, f2, f3⟩ := names_few (basR_names (askE_basR h).1)
    (try simp only[↓jr,jw,seval,rb_ld,rb_len,jq2,ext_ext,pid_pid])
    refine JCs.ret (s_RulesOf b hb hl _) ?_
    (try simp only[↓jr,jw,seval,rb_ld,rb_len,jq2,ext_ext,pid_pid])
    generalize hN : rulesN b = N
    refine JLOOP.of (σ := Nat × Tok × JH) (fun s => s.1 ≤ b.nms.cs.length ∧ TokExt j s.2.2 ∧ CanApp j s.2.2 s.2.1 1 (filt (fun a => emp N a) s.1).length) (fun s => b.nms.cs.length - s.1)
      (fun s => [(20, I64 s.1), (19, I64 b.nms.cs.length), (6, .ptr (pid j.next 2) 0), (3, .sl .nil 0 []), (1, .ptr (pid j.next 0) 0), (2, .sl s.2.1 (filt (fun a => emp N a) s.1).length (natv (filt (fun a => emp N a) s.1)))]) (fun s => ext s.2.2 [.cells 30 b.enc, .cells 30 b.enc, .cells 117 (rb N)]) (0, .nil, j) ⟨Nat.zero_le _, TokExt.refl _, CanApp.nil⟩ ?_ (JDropH.refl _) ?_
    · (try simp only[↓jr,jw,seval,rb_ld,rb_len,jq2,ext_ext,pid_pid,DL,filt_zero,natv_nil])
      exact sbLv
    rintro ⟨k, tk, jx⟩ ⟨hk, ht, hc⟩
    simp only at hk ht hc
    (try simp only[↓jr,jw,seval,rb_ld,rb_len,jq2,ext_ext,pid_pid,ht.next])
    refine wq.intro (fun h1 => ?_) (fun h1 => ?_)
    · (try simp only[↓jr,jw,seval,rb_ld,rb_len,jq2,ext_ext,pid_pid,ht.next])
      refine wc.intro (by omega) ?_
      (try simp only[↓jr,jw,seval,rb_ld,rb_len,jq2,ext_ext,pid_pid,ht.next])
      refine wc.intro (by omega) ?_
      (try simp only[↓jr,jw,seval,rb_ld,rb_len,jq2,ext_ext,pid_pid,ht.next])
      have hfl := filt_len (fun a => emp N a) k
      refine ww.intro (fun h2 => ?_) (fun h2 => ?_)
      · (try simp only[↓jr,jw,seval,rb_ld,rb_len,jq2,ext_ext,pid_pid,ht.next])
        refine JAPP.can' hc.push (ht.push 1) (by rw [natv_len, Nat.mul_one]) rfl rfl (by omega) (by omega) ?_
        intro tok1 j1 hcan ht3 hle
        have hle' : jx.tnext ≤ j1.tnext := Nat.le_trans (Nat.le_succ _) hle
        (try simp only[↓jr,jw,seval,rb_ld,rb_len,jq2,ext_ext,pid_pid,ht3.next])
        refine wc.intro (by unfold R64; omega) ?_
        (try simp only[↓jr,jw,seval,rb_ld,rb_len,jq2,ext_ext,pid_pid])
        have e1 := filt_t (p := fun a => emp N a) h2
        have e2 : (filt (fun a => emp N a) (k + 1)).length = (filt (fun a => emp N a) k).length + 1 := by rw [e1]; simp
        refine JNEXT.of (k + 1, tok1, j1) ⟨by simp only; omega, ht3, by simp only [e2]; exact hcan⟩ (by simp only; omega) ?_ (JDropH.nextT ht ht3 (TokExt.refl _) hle' (by simp only [LSub, and_self, true_or, and_true]))
        (try simp only[↓jr,jw,seval,rb_ld,rb_len,jq2,ext_ext,pid_pid,DL,e2,e1,natv_append,natv_one,Int.natCast_add])
        exact ⟨SubB.v, SubB.v, SubB.ptr (by have := ht3.next; unfold pid; omega), SubB.pure rfl, SubB.ptr (by have := ht3.next; unfold pid; omega), SubB.can hcan (by rw [pures_append, natv_pur]; rfl)⟩
      · (try simp only[↓jr,jw,seval,rb_ld,rb_len,jq2,ext_ext,pid_pid,ht.next])
        refine wc.intro (by unfold R64; omega) ?_
        (try simp only[↓jr,jw,seval,rb_ld,rb_len,jq2,ext_ext,pid_pid])
        have e1 := filt_f (p := fun a => emp N a) h2
        refine JNEXT.of (k + 1, tk, jx) ⟨by simp only; omega, ht, by simp only [e1]; exact hc⟩ (by simp only; omega) ?_ (JDropH.nextT ht ht (TokExt.refl _) (Nat.le_refl _) (by simp only [LSub, and_self, true_or, and_true]))
        (try simp only[↓jr,jw,seval,rb_ld,rb_len,jq2,ext_ext,pid_pid,DL,e1,Int.natCast_add])
        exact ⟨SubB.v, SubB.v, SubB.ptr (by have := ht.next; unfold pid; omega), SubB.pure rfl, SubB.ptr (by have := ht.next; unfold pid; omega), SubB.can hc (natv_pur _)⟩
    · (try simp only[↓jr,jw,seval,rb_ld,rb_len,jq2,ext_ext,pid_pid,ht.next])
      have hk' : k = b.nms.cs.length := by omega
      subst hk'
      refine wr.in (by unfold R64; omega) ?_
      (try simp only[↓jr,jw,seval,rb_ld,rb_len,jq2,ext_ext,pid_pid,ht.next])
      have hC : filt (fun a => emp N a) b.nms.cs.length = emC b := by unfold emC; rw [hN]
      rw [hC]
      rw [hC] at hc
      clear hk h1
      refine JLOOP.of (σ := Nat × Tok × JH) (fun s => s.1 ≤ 2 * b.nms.rs.length ∧ TokExt j s.2.2 ∧ CanApp j s.2.2 s.2.1 1 (filt (fun a => emp N (16 + a)) s.1).length) (fun s => 2 * b.nms.rs.length - s.1)
        (fun s => [(39, I64 s.1), (38, I64 (2 * (b.nms.rs.length : Int))), (6, .ptr (pid j.next 2) 0), (2, .sl .none (emC b).length (natv (emC b))), (3, .sl s.2.1 (filt (fun a => emp N (16 + a)) s.1).length (natv (filt (fun a => emp N (16 + a)) s.1)))]) (fun s => ext s.2.2 [.cells 30 b.enc, .cells 30 b.enc, .cells 117 (rb N)]) (0, .nil, jx) ⟨Nat.zero_le _, ht, CanApp.nil⟩ ?_ (JDropH.refl _) ?_
      · (try simp only[↓jr,jw,seval,rb_ld,rb_len,jq2,ext_ext,pid_pid,DL,filt_zero,natv_nil])
        exact ⟨SubB.v, SubB.v, SubB.ptr (by have := ht.next; unfold pid; omega), SubB.sl rfl (SubBs.pure (natv_pur _)), SubB.pure rfl⟩
      clear ht hc
      rintro ⟨k, tk, jx⟩ ⟨hk, ht, hc⟩
      simp only at hk ht hc
      (try simp only[↓jr,jw,seval,rb_ld,rb_len,jq2,ext_ext,pid_pid,ht.next])
      refine wq.intro (fun h1 => ?_) (fun h1 => ?_)
      · (try simp only[↓jr,jw,seval,rb_ld,rb_len,jq2,ext_ext,pid_pid,ht.next])
        refine JDC.use (s_some k (by unfold R64; omega) _) ?_
        (try simp only[↓jr,jw,seval,rb_ld,rb_len,jq2,ext_ext,pid_pid,ht.next,n16])
        refine wc.intro (by omega) ?_
        (try simp only[↓jr,jw,seval,rb_ld,rb_len,jq2,ext_ext,pid_pid,ht.next])
        refine wc.intro (by omega) ?_
        (try simp only[↓jr,jw,seval,rb_ld,rb_len,jq2,ext_ext,pid_pid,ht.next])
        have hx := ht.next
        refine JDRAW.oc (by (try simp only[↓jr,jw,seval,rb_ld,rb_len,jq2,ext_ext,pid_pid,jq]) <;> exact orq) ?_; (try simp only[↓jr,jw,seval,rb_ld,rb_len,jq2,ext_ext,pid_pid])
        have hfl := filt_len (fun a => emp N (16 + a)) k
        refine ww.intro (fun h2 => ?_) (fun h2 => ?_)
        · (try simp only[↓jr,jw,seval,rb_ld,rb_len,jq2,ext_ext,pid_pid,ht.next])
          refine JAPP.can' hc.push (ht.push 1) (by rw [natv_len, Nat.mul_one]) rfl rfl (by omega) (by omega) ?_
          intro tok1 j1 hcan ht3 hle
          have hle' : jx.tnext ≤ j1.tnext := Nat.le_trans (Nat.le_succ _) hle
          (try simp only[↓jr,jw,seval,rb_ld,rb_len,jq2,ext_ext,pid_pid,ht3.next])
          refine wc.intro (by unfold R64; omega) ?_
          (try simp only[↓jr,jw,seval,rb_ld,rb_len,jq2,ext_ext,pid_pid])
          have e1 := filt_t (p := fun a => emp N (16 + a)) h2
          have e2 : (filt (fun a => emp N (16 + a)) (k + 1)).length = (filt (fun a => emp N (16 + a)) k).length + 1 := by rw [e1]; simp
          refine JNEXT.of (k + 1, tok1, j1) ⟨by simp only; omega, ht3, by simp only [e2]; exact hcan⟩ (by simp only; omega) ?_ (JDropH.nextT ht ht3 (TokExt.refl _) hle' (by simp only [LSub, and_self, true_or, and_true]))
          (try simp only[↓jr,jw,seval,rb_ld,rb_len,jq2,ext_ext,pid_pid,DL,e2,e1,natv_append,natv_one,Int.natCast_add])
          exact ⟨SubB.v, SubB.v, SubB.ptr (by have := ht3.next; unfold pid; omega), SubB.pure (by simp only [AV.pure]; exact natv_pur _), SubB.can hcan (by rw [pures_append, natv_pur]; rfl)⟩
        · (try simp only[↓jr,jw,seval,rb_ld,rb_len,jq2,ext_ext,pid_pid,ht.next])
          refine wc.intro (by unfold R64; omega) ?_
          (try simp only[↓jr,jw,seval,rb_ld,rb_len,jq2,ext_ext,pid_pid])
          have e1 := filt_f (p := fun a => emp N (16 + a)) h2
          refine JNEXT.of (k + 1, tk, jx) ⟨by simp only; omega, ht, by simp only [e1]; exact hc⟩ (by simp only; omega) ?_ (JDropH.nextT ht ht (TokExt.refl _) (Nat.le_refl _) (by simp only [LSub, and_self, true_or, and_true]))
          (try simp only[↓jr,jw,seval,rb_ld,rb_len,jq2,ext_ext,pid_pid,DL,e1,Int.natCast_add])
          exact ⟨SubB.v, SubB.v, SubB.ptr (by have := ht.next; unfold pid; omega), SubB.pure (by simp only [AV.pure]; exact natv_pur _), SubB.can hc (natv_pur _)⟩
      · (try simp only[↓jr,jw,seval,rb_ld,rb_len,jq2,ext_ext,pid_pid,ht.next])
        have hk' : k = 2 * b.nms.rs.length := by omega
        subst hk'
        refine JFIN.ret ((JDropH.back ht).of_ext) ?_
        have hR : filt (fun a => emp N (16 + a)) (2 * b.nms.rs.length) = emR b := by unfold emR; rw [hN]
        rw [hR]
        unfold emptC emptR
        rw [if_pos h, if_pos h, h]
        exact SubB.tup ⟨SubB.pure (by simp only [AV.pure]; exact natv_pur _), SubB.sl rfl (SubBs.pure (natv_pur _)), SubB.v, True.intro⟩
  · (try simp only[↓jr,jw,seval,rb_ld,rb_len,jq2,ext_ext,pid_pid])
    refine JFIN.rb ?_
    unfold emptC emptR; rw [if_neg h, if_neg h, natv_nil]; exact sbLv
end Go.Proofs.YtkcbhebbjpiibaaDoor.Pg
