/-
  Copies of knowledge bases.
-/
import Derived.Test.YtnkkeenclhncmaaDoorKc
set_option linter.unusedVariables false
set_option linter.unusedSimpArgs false
set_option maxRecDepth 100000
set_option maxHeartbeats 8000000
namespace Go.Proofs.YtnkkeenclhncmaaDoor.Pg
open Go
abbrev ZB : List AV := [.sl .nil 0 [], .sl .nil 0 [], .sl .nil 0 [], .sl .nil 0 [], .sl .nil 0 [], .sl .nil 0 [], .sl .nil 0 []]
abbrev BC (n : Nms) (a b c d : AV) : List AV := [.sl .none n.cs.length (strs n.cs), .sl .none n.rs.length (strs n.rs), .sl .none n.is.length (strs n.is), a, b, c, d]
theorem one_rin (l : List RIn) : (encs RIn.enc l).all AV.one = true := by unfold encs; rw [List.all_flatMap]; exact List.all_eq_true.2 fun _ _ => rfl
theorem one_lnk (l : List Lnk) : (encs Lnk.enc l).all AV.one = true := by unfold encs; rw [List.all_flatMap]; exact List.all_eq_true.2 fun _ _ => rfl
theorem inc_pur (x : Inc) : AV.pures x.enc = true := by unfold Inc.enc; rw [pures_append, Con.pur, Con.pur]; rfl
theorem fac_pur (x : Fac) : AV.pures x.enc = true := by unfold Fac.enc; simp only [AV.pures, Con.pur]; rfl
section
variable {m : GM} {G : Nat → Option (List AV)}
def ir26 : IFn := ⟨58, [⟨2, (some (some 7))⟩], (.seq (.reg [oA 1 (.box 66 (.r 0)), oA 2 (.alloc 66 [.sl .nil 0 [], .sl .nil 0 [], .sl .nil 0 [], .sl .nil 0 [], .sl .nil 0 [], .sl .nil 0 [], .sl .nil 0 []])]) (.seq (.draw [oA 8 (.fadr 0 (.r 1)), oL 9 8 (some 3), oA 11 (.fadr 4 (.r 1)), oL 12 11 none, oA 14 (.fadr 6 (.r 1)), oL 15 14 none, oA 3 (.alloc 66 [.sl .nil 0 [], .sl .nil 0 [], .sl .nil 0 [], .sl .nil 0 [], .sl .nil 0 [], .sl .nil 0 [], .sl .nil 0 []]), oT 10 9 (.call 53 [.r 9]), oA 13 (.app 2 16 (.k (.sl .nil 0 [])) (.r 12)), oA 16 (.app 3 24 (.k (.sl .nil 0 [])) (.r 15)), oA 17 (.build [.sl .nil 0 [], .sl .nil 0 [], .sl .nil 0 [], .sl .nil 0 [], .sl .nil 0 [], .sl .nil 0 [], .sl .nil 0 []] [(0, (3, .r 10)), (4, (1, .r 13)), (6, (1, .r 16))]), oN (.store 7 (.r 3) (.r 17))] [(3, 7), (5, 7), (5, 8), (6, 7), (6, 8), (6, 9)]) (.seq (.seq (.reg [oA 18 (.fadr 3 (.r 1)), oL 19 18 none, oT 20 19 (.lenl (.r 19)), oA 21 (.mov (kI 0))]) (.block 0 (.loop (.seq (.reg [oA 22 (.bin .lss (.r 21) (.r 20))]) (.seq (.cond (.r 22) .skip (.exit 0)) (.seq (.block 1 (.seq (.reg [oA 23 (.iasl 6 (.r 19) (.r 21)), oL 24 23 (some 6), oA 5 (.alloc 92 [.v (.int .i64 0), .v (.int .i64 0), .sl .nil 0 [], .v (.int .i64 0), .v (.int .i64 0), .sl .nil 0 []]), oN (.store 6 (.r 5) (.r 24))]) (.draw [oA 25 (.fadr 3 (.r 3)), oL 26 25 none, oA 27 (.fadr 0 (.r 5)), oL 28 27 (some 3), oT 29 28 (.call 27 [.r 28]), oA 30 (.fadr 3 (.r 5)), oL 31 30 (some 3), oT 32 31 (.call 27 [.r 31]), oA 33 (.build [.v (.int .i64 0), .v (.int .i64 0), .sl .nil 0 [], .v (.int .i64 0), .v (.int .i64 0), .sl .nil 0 []] [(0, (3, .r 29)), (3, (3, .r 32))]), oA 34 (.bsl 1 6 [.v (.int .i64 0), .v (.int .i64 0), .sl .nil 0 [], .v (.int .i64 0), .v (.int .i64 0), .sl .nil 0 []] [(0, (6, .r 33))]), oA 35 (.app 6 80 (.r 26) (.r 34)), oA 36 (.fadr 3 (.r 3)), oN (.store 1 (.r 36) (.r 35))] [(1, 4), (1, 7), (6, 4)]))) (.reg [oA 37 (.bin .add (.r 21) (kI 1)), oA 21 (kM 37)]))))))) (.seq (.seq (.reg [oA 38 (.fadr 5 (.r 1)), oL 39 38 none, oT 40 39 (.lenl (.r 39)), oA 41 (.mov (kI 0))]) (.block 2 (.loop (.seq (.reg [oA 42 (.bin .lss (.r 41) (.r 40))]) (.seq (.cond (.r 42) .skip (.exit 2)) (.seq (.block 3 (.seq (.reg [oA 43 (.iasl 4 (.r 39) (.r 41)), oL 44 43 (some 4), oA 7 (.alloc 94 [.v (.int .i64 0), .v (.int .i64 0), .v (.int .i64 0), .sl .nil 0 []]), oN (.store 4 (.r 7) (.r 44))]) (.draw [oA 45 (.fadr 5 (.r 3)), oL 46 45 none, oA 47 (.fadr 0 (.r 7)), oL 48 47 none, oA 49 (.fadr 1 (.r 7)), oL 50 49 (some 3), oT 51 50 (.call 27 [.r 50]), oA 52 (.build [.v (.int .i64 0), .v (.int .i64 0), .v (.int .i64 0), .sl .nil 0 []] [(0, (1, .r 48)), (1, (3, .r 51))]), oA 53 (.bsl 1 4 [.v (.int .i64 0), .v (.int .i64 0), .v (.int .i64 0), .sl .nil 0 []] [(0, (4, .r 52))]), oA 54 (.app 4 48 (.r 46) (.r 53)), oA 55 (.fadr 5 (.r 3)), oN (.store 1 (.r 55) (.r 54))] [(1, 6), (3, 6)]))) (.reg [oA 56 (.bin .add (.r 41) (kI 1)), oA 41 (kM 56)]))))))) (.seq (.reg [oL 57 3 (some 7), oN (.store 7 (.r 2) (.r 57))]) .ret)))))⟩
theorem c26 : cfunc Tryd.prog 26 = some ir26 := by kernel_rfl
theorem k26 : okIR (max 1 ir26.n) ir26.ir = true := by decide +kernel
theorem s_bCopy (b : Bas) (hb : b.ok) (n1 : b.nms.cs.length ≤ 100000) (n2 : b.nms.rs.length ≤ 100000) (n3 : b.nms.is.length ≤ 100000) (l1 : b.incls.length ≤ 100000) (l2 : b.roles.length ≤ 100000) (l3 : b.facts.length ≤ 100000) (l4 : b.links.length ≤ 100000)
    (m1 : ∀ x ∈ b.incls, x.sub.nodes ≤ 1000000 ∧ x.sup.nodes ≤ 1000000) (m2 : ∀ x ∈ b.facts, x.con.nodes ≤ 1000000) (j : JH) : JC Tryd.prog G 26 [.agg b.enc] j (RET (.agg b.enc) j) := by
  refine JC.run hmix c26 (by exact k26) ?_
  (try simp only[↓jr,jw,seval,ji,ext_ext,pid_pid,ir26])
  refine JDC.use (s_nCopy b.nms n1 n2 n3 _) ?_
  (try simp only[↓jr,jw,seval,ji,ext_ext,pid_pid])
  refine JAPP.can' CanApp.nil (TokExt.refl j) rfl d_len3 (one_rin _) (by omega) (by omega) ?_
  intro tk1 j1 hc1 ht1 hl1
  (try simp only[↓jr,jw,seval,ji,ext_ext,pid_pid,ht1.next,Nms.enc])
  refine JAPP.can' CanApp.nil (TokExt.refl j1) rfl d_len5 (one_lnk _) (by omega) (by omega) ?_
  intro tk2 j2 hc2 ht2 hl2
  have ht12 := ht1.trans ht2
  (try simp only[↓jr,jw,seval,ji,ext_ext,pid_pid,ht12.next,Nms.enc])
  refine JDRAW.oc (by (try simp only[↓jr,jw,seval,ji,ext_ext,pid_pid,jq,qe2,qe3,ext_next,ext_tnext,pushTok_next,List.length_cons,List.length_nil,ht1.next,ht12.next]) <;> (repeat' (first | exact trivial | refine And.intro ?_ ?_ | exact Nat.le_refl _ | (refine pr_tokx ?_ rfl <;> assumption) | (refine pr_extp ⟨_, rfl⟩ (some_lt ?_)) | (refine pr_extp ⟨_, rfl⟩ (fun _ q => by cases q)) | omega | (unfold pid; omega) ))) ?_
  (try simp only[↓jr,jw,seval,ji,ext_ext,pid_pid,ht12.next,Nms.enc])
  refine JLOOP.of (σ := Nat × Tok × JH) (fun s => s.1 ≤ b.incls.length ∧ TokExt j s.2.2 ∧ CanApp j s.2.2 s.2.1 6 s.1) (fun s => b.incls.length - s.1)
    (fun s => [(21, I64 s.1), (20, I64 b.incls.length), (19, .sl .none b.incls.length (encs Inc.enc b.incls)), (1, .ptr (pid j.next 0) 0), (2, .ptr (pid j.next 1) 0), (3, .ptr (pid j.next 2) 0)])
    (fun s => ext s.2.2 [.cells 66 b.enc, .cells 66 ZB, .cells 66 (BC b.nms (.sl s.2.1 s.1 (encs Inc.enc (b.incls.take s.1))) (.sl .none b.roles.length (encs RIn.enc b.roles)) (.sl .nil 0 []) (.sl .none b.links.length (encs Lnk.enc b.links)))]) (0, .nil, j2) ⟨Nat.zero_le _, ht12, CanApp.nil⟩ ?_ (JDropH.nextT ht12 ht12 (TokExt.refl _) (Nat.le_refl _) ⟨.inl ⟨rfl, rfl⟩, .inl ⟨rfl, rfl⟩, .inr ⟨rfl, SubB.pure (strs_pur _), SubB.pure (strs_pur _), SubB.pure (strs_pur _), SubB.pure rfl, SubB.sl rfl (SubBs.pure (encs_pur (fun _ => rfl) _)), SubB.pure rfl, SubB.sl rfl (SubBs.pure (encs_pur (fun _ => rfl) _)), True.intro⟩, True.intro⟩) ?_
  · have hn0 := ht12.next
    (try simp only[↓jr,jw,seval,ji,ext_ext,pid_pid,DL,ht12.next])
    exact ⟨SubB.v, SubB.v, SubB.sl rfl (SubBs.pure (encs_pur inc_pur _)), SubB.ptr (by unfold pid; omega), SubB.ptr (by unfold pid; omega), SubB.ptr (by unfold pid; omega)⟩
  rintro ⟨k, tk, jx⟩ ⟨hkk, ht, hc⟩
  simp only at hkk ht hc
  have hnx := ht.next
  (try simp only[↓jr,jw,seval,ji,ext_ext,pid_pid,ht.next])
  refine wq.intro (fun g1 => ?_) (fun g1 => ?_)
  · have hlt : k < (b.incls).length := by omega
    obtain ⟨x, r, hd⟩ : ∃ c_ l_, List.drop k (b.incls) = c_ :: l_ := ⟨_, _, List.drop_eq_getElem_cons hlt⟩
    have hd1 : List.drop (k + 1) (b.incls) = r := by rw [← List.drop_drop, hd]; rfl
    have hmem : x ∈ b.incls := List.mem_of_mem_drop (hd ▸ List.mem_cons_self)
    obtain ⟨x1, x2⟩ := hb.incls x hmem
    obtain ⟨x3, x4⟩ := m1 x hmem
    (try simp only[↓jr,jw,seval,ji,ext_ext,pid_pid,hd,ht.next])
    refine wc.intro (by omega) ?_
    (try simp only[↓jr,jw,seval,ji,ext_ext,pid_pid,hd,ht.next])
    refine JDC.use (s_rCopy x.sub _ x1 x3) ?_
    (try simp only[↓jr,jw,seval,ji,ext_ext,pid_pid,ht.next])
    refine JDC.use (s_rCopy x.sup _ x2 x4) ?_
    (try simp only[↓jr,jw,seval,ji,ext_ext,pid_pid,ht.next])
    refine JAPP.can' hc.push (ht.push 1) (by rw [d_len2, List.length_take]; omega) (by simp [Con.len]) (by rw [List.all_append, d_con9, d_con9]; rfl) (by omega) (by omega) ?_
    intro tk2 j3 hc2 ht2 hl2
    have hl3 : jx.tnext + 1 ≤ j3.tnext := hl2
    have hn2 := ht2.next
    (try simp only[↓jr,jw,seval,ji,ext_ext,pid_pid,ht2.next])
    refine JDRAW.oc (by (try simp only[↓jr,jw,seval,ji,ext_ext,pid_pid,jq,qe2,qe3,ext_next,ext_tnext,pushTok_next,List.length_cons,List.length_nil,ht.next,ht2.next]) <;> (repeat' (first | exact trivial | refine And.intro ?_ ?_ | exact Nat.le_refl _ | (refine pr_tokx ?_ rfl <;> assumption) | (refine pr_extp ⟨_, rfl⟩ (some_lt ?_)) | (refine pr_extp ⟨_, rfl⟩ (fun _ q => by cases q)) | omega | (unfold pid; omega) ))) ?_
    (try simp only[↓jr,jw,seval,ji,ext_ext,pid_pid,ht2.next])
    refine wc.intro (by unfold R64; omega) ?_
    (try simp only[↓jr,jw,seval,ji,ext_ext,pid_pid,ht2.next])
    have ee : encs Inc.enc (b.incls.take (k + 1)) = encs Inc.enc (b.incls.take k) ++ (x.sub.enc ++ x.sup.enc) := by
      rw [take_snoc hd, encs_append]; simp [encs, Inc.enc]
    refine JNEXT.of (k + 1, tk2, j3) ⟨by simp only; omega, ht2, hc2⟩ (by simp only; omega) ?_ (JDropH.nextT ht ht2 (TokExt.refl _) (Nat.le_trans (Nat.le_succ _) hl2) ⟨.inl ⟨rfl, rfl⟩, .inl ⟨rfl, rfl⟩, .inr ⟨rfl, SubB.pure (strs_pur _), SubB.pure (strs_pur _), SubB.pure (strs_pur _), ?_, SubB.sl rfl (SubBs.pure (encs_pur (fun _ => rfl) _)), SubB.pure rfl, SubB.sl rfl (SubBs.pure (encs_pur (fun _ => rfl) _)), True.intro⟩, True.intro⟩)
    · (try simp only[↓jr,jw,seval,ji,ext_ext,pid_pid,DL,ht2.next])
      exact ⟨SubB.v, SubB.v, SubB.sl rfl (SubBs.pure (encs_pur inc_pur _)), SubB.ptr (by unfold pid; omega), SubB.ptr (by unfold pid; omega), SubB.ptr (by unfold pid; omega)⟩
    · rw [← ee]
      exact SubB.can hc2 (encs_pur inc_pur _)
  (try simp only[↓jr,jw,seval,ji,ext_ext,pid_pid,ht.next])
  have ek : k = b.incls.length := by omega
  subst ek
  rw [List.take_length]
  refine JLOOP.of (σ := Nat × Tok × JH) (fun s => s.1 ≤ b.facts.length ∧ TokExt j s.2.2 ∧ CanApp j s.2.2 s.2.1 4 s.1) (fun s => b.facts.length - s.1)
    (fun s => [(41, I64 s.1), (40, I64 b.facts.length), (39, .sl .none b.facts.length (encs Fac.enc b.facts)), (1, .ptr (pid j.next 0) 0), (2, .ptr (pid j.next 1) 0), (3, .ptr (pid j.next 2) 0)])
    (fun s => ext s.2.2 [.cells 66 b.enc, .cells 66 ZB, .cells 66 (BC b.nms (.sl .none b.incls.length (encs Inc.enc b.incls)) (.sl .none b.roles.length (encs RIn.enc b.roles)) (.sl s.2.1 s.1 (encs Fac.enc (b.facts.take s.1))) (.sl .none b.links.length (encs Lnk.enc b.links)))]) (0, .nil, jx) ⟨Nat.zero_le _, ht, CanApp.nil⟩ ?_ (JDropH.nextT ht ht (TokExt.refl _) (Nat.le_refl _) ⟨.inl ⟨rfl, rfl⟩, .inl ⟨rfl, rfl⟩, .inr ⟨rfl, SubB.pure (strs_pur _), SubB.pure (strs_pur _), SubB.pure (strs_pur _), SubB.sl rfl (SubBs.pure (encs_pur inc_pur _)), SubB.sl rfl (SubBs.pure (encs_pur (fun _ => rfl) _)), SubB.pure rfl, SubB.sl rfl (SubBs.pure (encs_pur (fun _ => rfl) _)), True.intro⟩, True.intro⟩) ?_
  · (try simp only[↓jr,jw,seval,ji,ext_ext,pid_pid,DL,ht.next])
    exact ⟨SubB.v, SubB.v, SubB.sl rfl (SubBs.pure (encs_pur fac_pur _)), SubB.ptr (by unfold pid; omega), SubB.ptr (by unfold pid; omega), SubB.ptr (by unfold pid; omega)⟩
  clear hc g1 hkk
  clear hnx ht
  clear jx tk
  rintro ⟨k, tk, jx⟩ ⟨hkk, ht, hc⟩
  simp only at hkk ht hc
  have hnx := ht.next
  (try simp only[↓jr,jw,seval,ji,ext_ext,pid_pid,ht.next])
  refine wq.intro (fun g1 => ?_) (fun g1 => ?_)
  · have hlt : k < (b.facts).length := by omega
    obtain ⟨x, r, hd⟩ : ∃ c_ l_, List.drop k (b.facts) = c_ :: l_ := ⟨_, _, List.drop_eq_getElem_cons hlt⟩
    have hd1 : List.drop (k + 1) (b.facts) = r := by rw [← List.drop_drop, hd]; rfl
    have hmem : x ∈ b.facts := List.mem_of_mem_drop (hd ▸ List.mem_cons_self)
    obtain ⟨x1, x2⟩ := hb.facts x hmem
    have x3 := m2 x hmem
    (try simp only[↓jr,jw,seval,ji,ext_ext,pid_pid,hd,ht.next])
    refine wc.intro (by omega) ?_
    (try simp only[↓jr,jw,seval,ji,ext_ext,pid_pid,hd,ht.next])
    refine JDC.use (s_rCopy x.con _ x2 x3) ?_
    (try simp only[↓jr,jw,seval,ji,ext_ext,pid_pid,ht.next])
    refine JAPP.can' hc.push (ht.push 1) (by rw [d_len4, List.length_take]; omega) (by simp [Con.len]) (by rw [List.all_cons, d_con9]; rfl) (by omega) (by omega) ?_
    intro tk2 j3 hc2 ht2 hl2
    have hl3 : jx.tnext + 1 ≤ j3.tnext := hl2
    have hn2 := ht2.next
    (try simp only[↓jr,jw,seval,ji,ext_ext,pid_pid,ht2.next])
    refine JDRAW.oc (by (try simp only[↓jr,jw,seval,ji,ext_ext,pid_pid,jq,qe2,qe3,ext_next,ext_tnext,pushTok_next,List.length_cons,List.length_nil,ht.next,ht2.next]) <;> (repeat' (first | exact trivial | refine And.intro ?_ ?_ | exact Nat.le_refl _ | (refine pr_tokx ?_ rfl <;> assumption) | (refine pr_extp ⟨_, rfl⟩ (some_lt ?_)) | (refine pr_extp ⟨_, rfl⟩ (fun _ q => by cases q)) | omega | (unfold pid; omega) ))) ?_
    (try simp only[↓jr,jw,seval,ji,ext_ext,pid_pid,ht2.next])
    refine wc.intro (by unfold R64; omega) ?_
    (try simp only[↓jr,jw,seval,ji,ext_ext,pid_pid,ht2.next])
    have ee : encs Fac.enc (b.facts.take (k + 1)) = encs Fac.enc (b.facts.take k) ++ (I64 x.ind :: x.con.enc) := by
      rw [take_snoc hd, encs_append]; simp [encs, Fac.enc]
    refine JNEXT.of (k + 1, tk2, j3) ⟨by simp only; omega, ht2, hc2⟩ (by simp only; omega) ?_ (JDropH.nextT ht ht2 (TokExt.refl _) (Nat.le_trans (Nat.le_succ _) hl2) ⟨.inl ⟨rfl, rfl⟩, .inl ⟨rfl, rfl⟩, .inr ⟨rfl, SubB.pure (strs_pur _), SubB.pure (strs_pur _), SubB.pure (strs_pur _), SubB.sl rfl (SubBs.pure (encs_pur inc_pur _)), SubB.sl rfl (SubBs.pure (encs_pur (fun _ => rfl) _)), ?_, SubB.sl rfl (SubBs.pure (encs_pur (fun _ => rfl) _)), True.intro⟩, True.intro⟩)
    · (try simp only[↓jr,jw,seval,ji,ext_ext,pid_pid,DL,ht2.next])
      exact ⟨SubB.v, SubB.v, SubB.sl rfl (SubBs.pure (encs_pur fac_pur _)), SubB.ptr (by unfold pid; omega), SubB.ptr (by unfold pid; omega), SubB.ptr (by unfold pid; omega)⟩
    · rw [← ee]
      exact SubB.can hc2 (encs_pur fac_pur _)
  (try simp only[↓jr,jw,seval,ji,ext_ext,pid_pid,ht.next])
  have ek : k = b.facts.length := by omega
  subst ek
  rw [List.take_length]
  exact JFIN.ret (JDropH.back ht).of_ext (SubB.agg ⟨SubB.pure (strs_pur _), SubB.pure (strs_pur _), SubB.pure (strs_pur _), SubB.sl rfl (SubBs.pure (encs_pur inc_pur _)), SubB.sl rfl (SubBs.pure (encs_pur (fun _ => rfl) _)), SubB.sl rfl (SubBs.pure (encs_pur fac_pur _)), SubB.sl rfl (SubBs.pure (encs_pur (fun _ => rfl) _)), True.intro⟩)
end
end Go.Proofs.YtnkkeenclhncmaaDoor.Pg
