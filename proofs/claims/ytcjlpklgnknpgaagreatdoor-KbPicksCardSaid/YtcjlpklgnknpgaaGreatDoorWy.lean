/-
  Joining knowledge bases: the reference.
-/
import Derived.Test.YtcjlpklgnknpgaaGreatDoorWx
set_option linter.unusedVariables false
set_option linter.unusedSimpArgs false
set_option maxRecDepth 100000
set_option maxHeartbeats 8000000
namespace Go.Proofs.YtcjlpklgnknpgaaGreatDoor.Pg
open Go
theorem ext_get_tokp {S : Nat → Prop} {j j0 : JH} {l : List AObj} (ht : TokP S j j0) (o : Nat) : (Pg.ext j l).get o = (Pg.ext j0 l).get o := by
 have hn := ht.next
 unfold Pg.ext
 simp only [hn]
 split
 ·exact (ht.get o ‹_›).symm
 ·rfl
theorem pr_tokp {S : Nat → Prop} {x y : Bool} {t u : Option Nat} {h h' j j0 : JH} {l : List AObj} (ht : TokP S j j0) (e : h'.tnext = h.tnext) : pair2 ⟨x, t, h, h'⟩ ⟨y, u, Pg.ext j l, Pg.ext j0 l⟩ :=
 fun _ _ => ⟨fun ob _ => ext_get_tokp ht ob, fun _ => ext_get_tokp ht _, fun q => absurd e q⟩
abbrev Low (j : JH) : Nat → Prop := fun t => t < j.tnext
section
variable {m : GM} {G : Nat → Option (List AV)}
theorem s_bCopyQ (b : Bas) (hb : b.ok) (n1 : b.nms.cs.length ≤ 100000) (n2 : b.nms.rs.length ≤ 100000) (n3 : b.nms.is.length ≤ 100000) (l1 : b.incls.length ≤ 100000) (l2 : b.roles.length ≤ 100000) (l3 : b.facts.length ≤ 100000) (l4 : b.links.length ≤ 100000)
  (m1 : ∀ x ∈ b.incls, x.sub.nodes ≤ 1000000 ∧ x.sup.nodes ≤ 1000000) (m2 : ∀ x ∈ b.facts, x.con.nodes ≤ 1000000) (j : JH) : JC Tryz.prog G 29 [.agg b.enc] j
  (fun o j' => ∃ t1 t2 t3 t4 jx, Rws (Low j) jx [(t1, 6, b.incls.length), (t2, 2, b.roles.length), (t3, 4, b.facts.length), (t4, 3, b.links.length)] ∧ TokP (Low j) j jx ∧ o = .ret (.agg (BC b.nms (.sl t1 b.incls.length (encs Inc.enc b.incls)) (.sl t2 b.roles.length (encs RIn.enc b.roles)) (.sl t3 b.facts.length (encs Fac.enc b.facts)) (.sl t4 b.links.length (encs Lnk.enc b.links)))) ∧ j' = Pg.ext jx []) := by
 have hS0 : ∀ t, Low j t → t < j.tnext := fun t h => h
 have R0 : Rws (Low j) j [(.nil, 6, 0), (.nil, 2, 0), (.nil, 4, 0), (.nil, 3, 0)] := Rws.nil (by simp)
 obtain ⟨u1, u2, u3⟩ := R0.grow hS0 (i := 1) rfl
 obtain ⟨tk1, j1, f1, f2, kk1⟩ := JAPP.ex u1 u2 b.roles.length
 rw [Nat.zero_add] at f1
 obtain ⟨R1, P1⟩ := u3 f1 f2
 obtain ⟨v1, v2, v3⟩ := R1.grow (fun t h => Nat.lt_of_lt_of_le h P1.tnext) (i := 3) rfl
 obtain ⟨tk2, j2, g1, g2, kk2⟩ := JAPP.ex v1 v2 b.links.length
 rw [Nat.zero_add] at g1
 obtain ⟨R2, P2'⟩ := v3 g1 g2
 have P2 := P1.trans P2'
 have hq1 := P1.next
 have hq2 := P2.next
 have hq3 := f2.tnext
 have hq4 := g2.tnext
 refine JC.run hmix c29 (by exact k29) ?_
 (try simp only[↓jr,jw,seval,ext_ext,pid_pid,ir29])
 refine JDC.use (s_nCopy b.nms n1 n2 n3 _) ?_
 (try simp only[↓jr,jw,seval,ext_ext,pid_pid])
 refine kk1 rfl d_len3 (one_rin _) (by omega) (by omega) ?_
 (try simp only[↓jr,jw,seval,ext_ext,pid_pid,hq1,Nms.enc])
 refine kk2 rfl d_len5 (one_lnk _) (by omega) (by omega) ?_
 (try simp only[↓jr,jw,seval,ext_ext,pid_pid,hq2,Nms.enc])
 refine JDRAW.oc (by (try simp only[↓jr,jw,seval,ext_ext,pid_pid,jq,qe2,qe3,ext_next,ext_tnext,pushTok_next,List.length_cons,List.length_nil,hq1,hq2]) <;> (repeat' (first | exact trivial | refine And.intro ?_ ?_ | exact Nat.le_refl _ | exact pr_tokp P1 rfl | exact pr_tokp P2' rfl | (refine pr_extp ⟨_, rfl⟩ (some_lt ?_)) | (refine pr_extp ⟨_, rfl⟩ (fun _ q => by cases q)) | omega | (unfold pid; omega) ))) ?_
 (try simp only[↓jr,jw,seval,ext_ext,pid_pid,hq2,Nms.enc])
 refine JLOOP.of (σ := Nat × Tok × JH) (fun s => s.1 ≤ b.incls.length ∧ TokP (Low j) j s.2.2 ∧ Rws (Low j) s.2.2 [(s.2.1, 6, s.1), (tk1, 2, b.roles.length), (.nil, 4, 0), (tk2, 3, b.links.length)]) (fun s => b.incls.length - s.1)
  (fun s => [(21, I64 s.1), (20, I64 b.incls.length), (19, .sl .none b.incls.length (encs Inc.enc b.incls)), (1, .ptr (pid j.next 0) 0), (2, .ptr (pid j.next 1) 0), (3, .ptr (pid j.next 2) 0)])
  (fun s => Pg.ext s.2.2 [.cells 30 b.enc, .cells 30 ZB, .cells 30 (BC b.nms (.sl s.2.1 s.1 (encs Inc.enc (b.incls.take s.1))) (.sl tk1 b.roles.length (encs RIn.enc b.roles)) (.sl .nil 0 []) (.sl tk2 b.links.length (encs Lnk.enc b.links)))]) (0, .nil, j2) ⟨Nat.zero_le _, P2, R2⟩ ?_ (JDropH.refl _) ?_
 ·(try simp only[↓jr,jw,seval,ext_ext,pid_pid,DL,hq2])
  exact ⟨SubB.v, SubB.v, SubB.sl rfl (SubBs.pure (encs_pur Inc.pur _)), SubB.ptr (by unfold pid; omega), SubB.ptr (by unfold pid; omega), SubB.ptr (by unfold pid; omega)⟩
 rintro ⟨k, tk0, jx0⟩ ⟨hkk, hP0, hR0⟩
 simp only at hkk hP0 hR0
 have hnx0 := hP0.next
 (try simp only[↓jr,jw,seval,ext_ext,pid_pid,hnx0])
 refine wq.intro (fun g1 => ?_) (fun g1 => ?_)
 ·have hlt : k < (b.incls).length := by omega
  obtain ⟨x, r, hd⟩ : ∃ c_ l_, List.drop k (b.incls) = c_ :: l_ := ⟨_, _, List.drop_eq_getElem_cons hlt⟩
  have hd1 : List.drop (k + 1) (b.incls) = r := by rw [← List.drop_drop, hd]; rfl
  have hmem : x ∈ b.incls := List.mem_of_mem_drop (hd ▸ List.mem_cons_self)
  obtain ⟨x1, x2⟩ := hb.incls x hmem
  obtain ⟨x3, x4⟩ := m1 x hmem
  have hS : ∀ t, Low j t → t < jx0.tnext := fun t q => Nat.lt_of_lt_of_le q hP0.tnext
  obtain ⟨a1, a2, a3⟩ := hR0.grow hS (i := 0) rfl
  obtain ⟨tok1, jn, f1, f2, kk⟩ := JAPP.ex (j := jx0.pushTok 1) a1.push (fun t q => Nat.lt_succ_of_lt (a2 t q)) 1
  have f2' : TokP _ jx0 jn := (TokP.push (TokP.refl a2) 1).trans ⟨f2.next, f2.get, f2.tnext, f2.tok, f2.lo⟩
  obtain ⟨g4, g5⟩ := a3 f1 f2'
  have g6 := hP0.trans g5
  have hn2 : jn.next = j.next := g6.next
  have hl3 : jx0.tnext + 1 ≤ jn.tnext := f2.tnext
  (try simp only[↓jr,jw,seval,ext_ext,pid_pid,hd,hnx0])
  refine wc.intro (by omega) ?_
  (try simp only[↓jr,jw,seval,ext_ext,pid_pid,hd,hnx0])
  refine JDC.use (s_rCopy x.sub _ x1 x3) ?_
  (try simp only[↓jr,jw,seval,ext_ext,pid_pid,hnx0])
  refine JDC.use (s_rCopy x.sup _ x2 x4) ?_
  (try simp only[↓jr,jw,seval,ext_ext,pid_pid,hnx0])
  refine kk (by rw [d_len2, List.length_take]; omega) (by simp [Con.len]) (by rw [List.all_append, d_con9, d_con9]; rfl) (by omega) (by omega) ?_
  (try simp only[↓jr,jw,seval,ext_ext,pid_pid,hn2])
  refine JDRAW.oc (by (try simp only[↓jr,jw,seval,ext_ext,pid_pid,jq,qe2,qe3,ext_next,ext_tnext,pushTok_next,List.length_cons,List.length_nil,hnx0,hn2]) <;> (repeat' (first | exact trivial | refine And.intro ?_ ?_ | exact Nat.le_refl _ | exact pr_tokp f2 rfl | exact pr_tokp f2' rfl | (refine pr_extp ⟨_, rfl⟩ (some_lt ?_)) | (refine pr_extp ⟨_, rfl⟩ (fun _ q => by cases q)) | omega | (unfold pid; omega) ))) ?_
  (try simp only[↓jr,jw,seval,ext_ext,pid_pid,hn2])
  refine wc.intro (by unfold R64; omega) ?_
  (try simp only[↓jr,jw,seval,ext_ext,pid_pid,hn2])
  have ee : encs Inc.enc (b.incls.take (k + 1)) = encs Inc.enc (b.incls.take k) ++ (x.sub.enc ++ x.sup.enc) := by
   rw [take_sn hd, encs_append]; simp [encs, Inc.enc]
  refine JNEXT.of (k + 1, tok1, jn) ⟨by simp only; omega, g6, by simp only; exact g4⟩ (by simp only; omega) ?_ (JDropH.next (TokExt.refl _) g5.next g5.tnext (fun o ob ho q => .inl (by rw [← g5.get o ho]; exact q)) ⟨.inl ⟨rfl, rfl⟩, .inl ⟨rfl, rfl⟩, .inr ⟨rfl, SubB.sl rfl (SubBs.pure (strs_pur _)), SubB.sl rfl (SubBs.pure (strs_pur _)), SubB.sl rfl (SubBs.pure (strs_pur _)), by (rw [← ee]; exact SubB.grown (g4.1 0 _ rfl) (Nat.le_refl _) (encs_pur Inc.pur _)), SubB.grown (g4.1 1 _ rfl) (Nat.le_refl _) (encs_pur RIn.pur _), SubB.pure rfl, SubB.grown (g4.1 3 _ rfl) (Nat.le_refl _) (encs_pur Lnk.pur _), True.intro⟩, True.intro⟩)
  ·(try simp only[↓jr,jw,seval,ext_ext,pid_pid,DL,hn2])
   exact ⟨SubB.v, SubB.v, SubB.sl rfl (SubBs.pure (encs_pur Inc.pur _)), SubB.ptr (by unfold pid; omega), SubB.ptr (by unfold pid; omega), SubB.ptr (by unfold pid; omega)⟩
 (try simp only[↓jr,jw,seval,ext_ext,pid_pid,hnx0])
 have ek : k = b.incls.length := by omega
 subst ek
 rw [List.take_length]
 clear g1 hkk
 refine JLOOP.of (σ := Nat × Tok × JH) (fun s => s.1 ≤ b.facts.length ∧ TokP (Low j) j s.2.2 ∧ Rws (Low j) s.2.2 [(tk0, 6, b.incls.length), (tk1, 2, b.roles.length), (s.2.1, 4, s.1), (tk2, 3, b.links.length)]) (fun s => b.facts.length - s.1)
  (fun s => [(41, I64 s.1), (40, I64 b.facts.length), (39, .sl .none b.facts.length (encs Fac.enc b.facts)), (1, .ptr (pid j.next 0) 0), (2, .ptr (pid j.next 1) 0), (3, .ptr (pid j.next 2) 0)])
  (fun s => Pg.ext s.2.2 [.cells 30 b.enc, .cells 30 ZB, .cells 30 (BC b.nms (.sl tk0 b.incls.length (encs Inc.enc b.incls)) (.sl tk1 b.roles.length (encs RIn.enc b.roles)) (.sl s.2.1 s.1 (encs Fac.enc (b.facts.take s.1))) (.sl tk2 b.links.length (encs Lnk.enc b.links)))]) (0, .nil, jx0) ⟨Nat.zero_le _, hP0, hR0⟩ ?_ (JDropH.refl _) ?_
 ·(try simp only[↓jr,jw,seval,ext_ext,pid_pid,DL,hnx0])
  exact ⟨SubB.v, SubB.v, SubB.sl rfl (SubBs.pure (encs_pur Fac.pur _)), SubB.ptr (by unfold pid; omega), SubB.ptr (by unfold pid; omega), SubB.ptr (by unfold pid; omega)⟩
 rintro ⟨k, tk, jx1⟩ ⟨hkk, hP1, hR1⟩
 simp only at hkk hP1 hR1
 have hnx1 := hP1.next
 (try simp only[↓jr,jw,seval,ext_ext,pid_pid,hnx1])
 refine wq.intro (fun g1 => ?_) (fun g1 => ?_)
 ·have hlt : k < (b.facts).length := by omega
  obtain ⟨x, r, hd⟩ : ∃ c_ l_, List.drop k (b.facts) = c_ :: l_ := ⟨_, _, List.drop_eq_getElem_cons hlt⟩
  have hd1 : List.drop (k + 1) (b.facts) = r := by rw [← List.drop_drop, hd]; rfl
  have hmem : x ∈ b.facts := List.mem_of_mem_drop (hd ▸ List.mem_cons_self)
  obtain ⟨x1, x2⟩ := hb.facts x hmem
  have x3 := m2 x hmem
  have hS : ∀ t, Low j t → t < jx1.tnext := fun t q => Nat.lt_of_lt_of_le q hP1.tnext
  obtain ⟨a1, a2, a3⟩ := hR1.grow hS (i := 2) rfl
  obtain ⟨tok1, jn, f1, f2, kk⟩ := JAPP.ex (j := jx1.pushTok 1) a1.push (fun t q => Nat.lt_succ_of_lt (a2 t q)) 1
  have f2' : TokP _ jx1 jn := (TokP.push (TokP.refl a2) 1).trans ⟨f2.next, f2.get, f2.tnext, f2.tok, f2.lo⟩
  obtain ⟨g4, g5⟩ := a3 f1 f2'
  have g6 := hP1.trans g5
  have hn2 : jn.next = j.next := g6.next
  have hl3 : jx1.tnext + 1 ≤ jn.tnext := f2.tnext
  (try simp only[↓jr,jw,seval,ext_ext,pid_pid,hd,hnx1])
  refine wc.intro (by omega) ?_
  (try simp only[↓jr,jw,seval,ext_ext,pid_pid,hd,hnx1])
  refine JDC.use (s_rCopy x.con _ x2 x3) ?_
  (try simp only[↓jr,jw,seval,ext_ext,pid_pid,hnx1])
  refine kk (by rw [d_len4, List.length_take]; omega) (by simp [Con.len]) (by rw [List.all_cons, d_con9]; rfl) (by omega) (by omega) ?_
  (try simp only[↓jr,jw,seval,ext_ext,pid_pid,hn2])
  refine JDRAW.oc (by (try simp only[↓jr,jw,seval,ext_ext,pid_pid,jq,qe2,qe3,ext_next,ext_tnext,pushTok_next,List.length_cons,List.length_nil,hnx1,hn2]) <;> (repeat' (first | exact trivial | refine And.intro ?_ ?_ | exact Nat.le_refl _ | exact pr_tokp f2 rfl | exact pr_tokp f2' rfl | (refine pr_extp ⟨_, rfl⟩ (some_lt ?_)) | (refine pr_extp ⟨_, rfl⟩ (fun _ q => by cases q)) | omega | (unfold pid; omega) ))) ?_
  (try simp only[↓jr,jw,seval,ext_ext,pid_pid,hn2])
  refine wc.intro (by unfold R64; omega) ?_
  (try simp only[↓jr,jw,seval,ext_ext,pid_pid,hn2])
  have ee : encs Fac.enc (b.facts.take (k + 1)) = encs Fac.enc (b.facts.take k) ++ (I64 x.ind :: x.con.enc) := by
   rw [take_sn hd, encs_append]; simp [encs, Fac.enc]
  refine JNEXT.of (k + 1, tok1, jn) ⟨by simp only; omega, g6, by simp only; exact g4⟩ (by simp only; omega) ?_ (JDropH.next (TokExt.refl _) g5.next g5.tnext (fun o ob ho q => .inl (by rw [← g5.get o ho]; exact q)) ⟨.inl ⟨rfl, rfl⟩, .inl ⟨rfl, rfl⟩, .inr ⟨rfl, SubB.sl rfl (SubBs.pure (strs_pur _)), SubB.sl rfl (SubBs.pure (strs_pur _)), SubB.sl rfl (SubBs.pure (strs_pur _)), SubB.grown (g4.1 0 _ rfl) (Nat.le_refl _) (encs_pur Inc.pur _), SubB.grown (g4.1 1 _ rfl) (Nat.le_refl _) (encs_pur RIn.pur _), by (rw [← ee]; exact SubB.grown (g4.1 2 _ rfl) (Nat.le_refl _) (encs_pur Fac.pur _)), SubB.grown (g4.1 3 _ rfl) (Nat.le_refl _) (encs_pur Lnk.pur _), True.intro⟩, True.intro⟩)
  ·(try simp only[↓jr,jw,seval,ext_ext,pid_pid,DL,hn2])
   exact ⟨SubB.v, SubB.v, SubB.sl rfl (SubBs.pure (encs_pur Fac.pur _)), SubB.ptr (by unfold pid; omega), SubB.ptr (by unfold pid; omega), SubB.ptr (by unfold pid; omega)⟩
 (try simp only[↓jr,jw,seval,ext_ext,pid_pid,hnx1])
 have ek : k = b.facts.length := by omega
 subst ek
 rw [List.take_length]
 clear g1 hkk
 exact JFIN.of (Y := .agg (BC b.nms (.sl tk0 b.incls.length (encs Inc.enc b.incls)) (.sl tk1 b.roles.length (encs RIn.enc b.roles)) (.sl tk b.facts.length (encs Fac.enc b.facts)) (.sl tk2 b.links.length (encs Lnk.enc b.links)))) (JDropH.next (l := []) (n := []) (TokExt.refl jx1) hP1.next hP1.tnext (fun o ob ho q => .inl (by rw [← hP1.get o ho]; exact q)) True.intro)
  (SubB.agg ⟨SubB.sl rfl (SubBs.pure (strs_pur _)), SubB.sl rfl (SubBs.pure (strs_pur _)), SubB.sl rfl (SubBs.pure (strs_pur _)), SubB.grown (hR1.1 0 _ rfl) (Nat.le_refl _) (encs_pur Inc.pur _), SubB.grown (hR1.1 1 _ rfl) (Nat.le_refl _) (encs_pur RIn.pur _), SubB.grown (hR1.1 2 _ rfl) (Nat.le_refl _) (encs_pur Fac.pur _), SubB.grown (hR1.1 3 _ rfl) (Nat.le_refl _) (encs_pur Lnk.pur _), True.intro⟩)
  ⟨tk0, tk1, tk, tk2, jx1, hR1, hP1, rfl, rfl⟩
theorem one_inc (l : List Inc) : (encs Inc.enc l).all AV.one = true := by unfold encs; rw [List.all_flatMap]; exact List.all_eq_true.2 fun x _ => Inc.one x
theorem one_fac (l : List Fac) : (encs Fac.enc l).all AV.one = true := by unfold encs; rw [List.all_flatMap]; exact List.all_eq_true.2 fun x _ => Fac.one x
def joinB (a b : Bas) : Bas := ⟨a.nms, a.incls ++ b.incls, a.roles ++ b.roles, a.facts ++ b.facts, a.links ++ b.links⟩
noncomputable def ir62 : IFn := ⟨33, [⟨4, (some (some 7))⟩], (.seq (.reg [oA 2 (.box 30 (.r 0)), oA 3 (.box 30 (.r 1)), oA 4 (.alloc 30 [.sl .nil 0 [], .sl .nil 0 [], .sl .nil 0 [], .sl .nil 0 [], .sl .nil 0 [], .sl .nil 0 [], .sl .nil 0 []])]) (.seq (.reg [oL 6 2 (some 7), oT 7 6 (.call 29 [.r 6]), oA 5 (.alloc 30 [.sl .nil 0 [], .sl .nil 0 [], .sl .nil 0 [], .sl .nil 0 [], .sl .nil 0 [], .sl .nil 0 [], .sl .nil 0 []]), oN (.store 7 (.r 5) (.r 7))]) (.seq (.reg [oA 8 (.fadr 3 (.r 5)), oL 9 8 none, oA 10 (.fadr 3 (.r 3)), oL 11 10 none, oA 12 (.app 6 80 (.r 9) (.r 11)), oA 13 (.fadr 3 (.r 5)), oN (.store 1 (.r 13) (.r 12))]) (.seq (.reg [oA 14 (.fadr 4 (.r 5)), oL 15 14 none, oA 16 (.fadr 4 (.r 3)), oL 17 16 none, oA 18 (.app 2 16 (.r 15) (.r 17)), oA 19 (.fadr 4 (.r 5)), oN (.store 1 (.r 19) (.r 18))]) (.seq (.reg [oA 20 (.fadr 5 (.r 5)), oL 21 20 none, oA 22 (.fadr 5 (.r 3)), oL 23 22 none, oA 24 (.app 4 48 (.r 21) (.r 23)), oA 25 (.fadr 5 (.r 5)), oN (.store 1 (.r 25) (.r 24))]) (.seq (.reg [oA 26 (.fadr 6 (.r 5)), oL 27 26 none, oA 28 (.fadr 6 (.r 3)), oL 29 28 none, oA 30 (.app 3 24 (.r 27) (.r 29)), oA 31 (.fadr 6 (.r 5)), oN (.store 1 (.r 31) (.r 30))]) (.seq (.reg [oL 32 5 (some 7), oN (.store 7 (.r 4) (.r 32))]) .ret)))))))⟩
theorem c62 : cfunc Tryz.prog 62 = some ir62 := by kernel_rfl
theorem k62 : okIR (max 2 ir62.n) ir62.ir = true := by decide +kernel
theorem s_rJoin (a b : Bas) (ha : a.ok) (n1 : a.nms.cs.length ≤ 100000) (n2 : a.nms.rs.length ≤ 100000) (n3 : a.nms.is.length ≤ 100000) (l1 : a.incls.length ≤ 100000) (l2 : a.roles.length ≤ 100000) (l3 : a.facts.length ≤ 100000) (l4 : a.links.length ≤ 100000)
  (m1 : ∀ x ∈ a.incls, x.sub.nodes ≤ 1000000 ∧ x.sup.nodes ≤ 1000000) (m2 : ∀ x ∈ a.facts, x.con.nodes ≤ 1000000)
  (b1 : b.incls.length ≤ 100000) (b2 : b.roles.length ≤ 100000) (b3 : b.facts.length ≤ 100000) (b4 : b.links.length ≤ 100000) (j : JH) :
  JC Tryz.prog G 62 [.agg a.enc, .agg b.enc] j (RET (.agg (joinB a b).enc) j) := by
 refine JC.run hmix c62 (by exact k62) ?_
 (try simp only[↓jr,jw,seval,ir62])
 refine JCs.use (s_bCopyQ a ha n1 n2 n3 l1 l2 l3 l4 m1 m2 _) ?_
 rintro o jj ⟨t1, t2, t3, t4, jx, hR, hP, rfl, rfl⟩
 obtain ⟨j2, eu, hQ, e1, e2⟩ := hP.unbox
 have hR2 := hR.eq e1 e2
 rw [eu]
 have hnx := hQ.next
 have hS : ∀ t, Low j t → t < j2.tnext := fun t q => Nat.lt_of_lt_of_le q hQ.tnext
 (try simp only[↓jr,jw,seval,hnx])
 obtain ⟨a1, a2, a3⟩ := hR2.grow hS (i := 0) rfl
 obtain ⟨w0, k0, f1, f2, kk⟩ := JAPP.ex a1 a2 b.incls.length
 obtain ⟨R0, P0⟩ := a3 f1 f2
 have Q0 := hQ.trans P0
 have hn0 := Q0.next
 have hS0 : ∀ t, Low j t → t < k0.tnext := fun t q => Nat.lt_of_lt_of_le q Q0.tnext
 refine kk d_len2 d_len2 (one_inc _) (by omega) (by omega) ?_
 clear a1 a2 a3 f1 f2 kk
 (try simp only[↓jr,jw,seval,hn0])
 obtain ⟨a1, a2, a3⟩ := R0.grow hS0 (i := 1) rfl
 obtain ⟨w1, k1, f1, f2, kk⟩ := JAPP.ex a1 a2 b.roles.length
 obtain ⟨R1, P1⟩ := a3 f1 f2
 have Q1 := Q0.trans P1
 have hn1 := Q1.next
 have hS1 : ∀ t, Low j t → t < k1.tnext := fun t q => Nat.lt_of_lt_of_le q Q1.tnext
 refine kk d_len3 d_len3 (one_rin _) (by omega) (by omega) ?_
 clear a1 a2 a3 f1 f2 kk
 (try simp only[↓jr,jw,seval,hn1])
 obtain ⟨a1, a2, a3⟩ := R1.grow hS1 (i := 2) rfl
 obtain ⟨w2, k2, f1, f2, kk⟩ := JAPP.ex a1 a2 b.facts.length
 obtain ⟨R2, P2⟩ := a3 f1 f2
 have Q2 := Q1.trans P2
 have hn2 := Q2.next
 have hS2 : ∀ t, Low j t → t < k2.tnext := fun t q => Nat.lt_of_lt_of_le q Q2.tnext
 refine kk d_len4 d_len4 (one_fac _) (by omega) (by omega) ?_
 clear a1 a2 a3 f1 f2 kk
 (try simp only[↓jr,jw,seval,hn2])
 obtain ⟨a1, a2, a3⟩ := R2.grow hS2 (i := 3) rfl
 obtain ⟨w3, k3, f1, f2, kk⟩ := JAPP.ex a1 a2 b.links.length
 obtain ⟨R3, P3⟩ := a3 f1 f2
 have Q3 := Q2.trans P3
 have hn3 := Q3.next
 have hS3 : ∀ t, Low j t → t < k3.tnext := fun t q => Nat.lt_of_lt_of_le q Q3.tnext
 refine kk d_len5 d_len5 (one_lnk _) (by omega) (by omega) ?_
 clear a1 a2 a3 f1 f2 kk
 (try simp only[↓jr,jw,seval,hn3])
 refine JFIN.rb ?_ ⟨Q3.next, Q3.get, Q3.tnext, fun t ht => Q3.tok t ht⟩
 simp only [joinB, Bas.enc, encs_app, List.length_append]
 exact SubB.agg ⟨SubB.sl rfl (SubBs.pure (strs_pur _)), SubB.sl rfl (SubBs.pure (strs_pur _)), SubB.sl rfl (SubBs.pure (strs_pur _)), SubB.sl rfl (SubBs.pure (by rw [pures_append, encs_pur Inc.pur, encs_pur Inc.pur]; rfl)), SubB.sl rfl (SubBs.pure (by rw [pures_append, encs_pur RIn.pur, encs_pur RIn.pur]; rfl)), SubB.sl rfl (SubBs.pure (by rw [pures_append, encs_pur Fac.pur, encs_pur Fac.pur]; rfl)), SubB.sl rfl (SubBs.pure (by rw [pures_append, encs_pur Lnk.pur, encs_pur Lnk.pur]; rfl)), True.intro⟩
end
end Go.Proofs.YtcjlpklgnknpgaaGreatDoor.Pg
