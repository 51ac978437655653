/-
  Knowledge bases of given axioms: Named, Of, Pick.
-/
import Derived.Test.YtcjlpklgnknpgaaGreatDoorWm
import Derived.Test.YtcjlpklgnknpgaaGreatDoorWk
set_option linter.unusedVariables false
set_option linter.unusedSimpArgs false
set_option maxRecDepth 100000
set_option maxHeartbeats 8000000
namespace Go.Proofs.YtcjlpklgnknpgaaGreatDoor.Pg
open Go
def incsOf : List Ax → List Inc
 | [] => []
 | .inc x :: l => x :: incsOf l
 | _ :: l => incsOf l
def rolsOf : List Ax → List RIn
 | [] => []
 | .rol x :: l => x :: rolsOf l
 | _ :: l => rolsOf l
def facsOf : List Ax → List Fac
 | [] => []
 | .fac x :: l => x :: facsOf l
 | _ :: l => facsOf l
def lnksOf : List Ax → List Lnk
 | [] => []
 | .lnk x :: l => x :: lnksOf l
 | _ :: l => lnksOf l
def ofB (n : Nms) (l : List Ax) : Bas := ⟨n, incsOf l, rolsOf l, facsOf l, lnksOf l⟩
theorem incsOf_app : ∀ a b : List Ax, incsOf (a ++ b) = incsOf a ++ incsOf b
 | [], b => rfl
 | x :: a, b => by cases x <;> simp [incsOf, incsOf_app a b]
theorem rolsOf_app : ∀ a b : List Ax, rolsOf (a ++ b) = rolsOf a ++ rolsOf b
 | [], b => rfl
 | x :: a, b => by cases x <;> simp [rolsOf, rolsOf_app a b]
theorem facsOf_app : ∀ a b : List Ax, facsOf (a ++ b) = facsOf a ++ facsOf b
 | [], b => rfl
 | x :: a, b => by cases x <;> simp [facsOf, facsOf_app a b]
theorem lnksOf_app : ∀ a b : List Ax, lnksOf (a ++ b) = lnksOf a ++ lnksOf b
 | [], b => rfl
 | x :: a, b => by cases x <;> simp [lnksOf, lnksOf_app a b]
theorem incsOf_len : ∀ a : List Ax, (incsOf a).length ≤ a.length
 | [] => Nat.le_refl _
 | x :: a => by have := incsOf_len a; cases x <;> simp [incsOf] <;> omega
theorem rolsOf_len : ∀ a : List Ax, (rolsOf a).length ≤ a.length
 | [] => Nat.le_refl _
 | x :: a => by have := rolsOf_len a; cases x <;> simp [rolsOf] <;> omega
theorem facsOf_len : ∀ a : List Ax, (facsOf a).length ≤ a.length
 | [] => Nat.le_refl _
 | x :: a => by have := facsOf_len a; cases x <;> simp [facsOf] <;> omega
theorem lnksOf_len : ∀ a : List Ax, (lnksOf a).length ≤ a.length
 | [] => Nat.le_refl _
 | x :: a => by have := lnksOf_len a; cases x <;> simp [lnksOf] <;> omega
def Ax.ok : Ax → Prop
 | .inc x => (x.sub.ok ∧ x.sup.ok) ∧ x.sub.nodes ≤ 1000000 ∧ x.sup.nodes ≤ 1000000
 | .fac x => x.con.ok ∧ x.con.nodes ≤ 1000000
 | _ => True
def nilB (n : Nms) : List AV := n.enc ++ [.sl .nil 0 [], .sl .nil 0 [], .sl .nil 0 [], .sl .nil 0 []]
theorem encs_len {α : Type} {e : α → List AV} {n : Nat} (he : ∀ x, (e x).length = n) : ∀ l, (encs e l).length = l.length * n
 | [] => by simp [encs]
 | x :: l => by rw [encs_cons, List.length_append, he, encs_len he l, List.length_cons, Nat.succ_mul, Nat.add_comm]
theorem encs_sing {α : Type} {e : α → List AV} {a : α} : encs e [a] = e a := by simp [encs]
theorem encs_app {α : Type} {e : α → List AV} {a b : List α} : encs e (a ++ b) = encs e a ++ encs e b := by simp [encs]
abbrev ZB : List AV := [.sl .nil 0 [], .sl .nil 0 [], .sl .nil 0 [], .sl .nil 0 [], .sl .nil 0 [], .sl .nil 0 [], .sl .nil 0 []]
noncomputable def ir58 : IFn := ⟨20, [⟨4, (some (some 7))⟩], (.seq (.reg [oA 2 (.box 24 (.r 0)), oA 4 (.alloc 30 [.sl .nil 0 [], .sl .nil 0 [], .sl .nil 0 [], .sl .nil 0 [], .sl .nil 0 [], .sl .nil 0 [], .sl .nil 0 []])]) (.seq (.reg [oL 8 2 (some 3), oT 9 8 (.call 46 [.r 8]), oA 5 (.alloc 30 [.sl .nil 0 [], .sl .nil 0 [], .sl .nil 0 [], .sl .nil 0 [], .sl .nil 0 [], .sl .nil 0 [], .sl .nil 0 []]), oN (.store 7 (.r 5) (.r 9))]) (.seq (.seq (.reg [oA 10 (kM 1), oT 11 10 (.lenl (.r 10)), oA 12 (.mov (kI 0))]) (.block 0 (.loop (.seq (.reg [oA 13 (.bin .lss (.r 12) (.r 11))]) (.seq (.cond (.r 13) .skip (.exit 0)) (.seq (.block 1 (.seq (.reg [oA 14 (.iasl 1 (.r 10) (.r 12)), oL 15 14 none, oA 7 (kM 15)]) (.reg [oA 16 (kM 7), oT 17 5 (.inv "isagoge/kb.add" (.r 16) [.r 5])]))) (.reg [oA 18 (.bin .add (.r 12) (kI 1)), oA 12 (kM 18)]))))))) (.seq (.reg [oL 19 5 (some 7), oN (.store 7 (.r 4) (.r 19))]) .ret))))⟩
theorem c58 : cfunc Tryz.prog 58 = some ir58 := by kernel_rfl
theorem k58 : okIR (max 2 ir58.n) ir58.ir = true := by decide +kernel
section
variable {G : Nat → Option (List AV)}
theorem s_kbNamed (n : Nms) (h1 : n.cs.length ≤ 1000000) (h2 : n.rs.length ≤ 1000000) (h3 : n.is.length ≤ 1000000) (j : JH) : JC Tryz.prog G 46 [.agg n.enc] j (RET (.agg (nilB n)) j) := by
 refine JC.run hmix c46 (by exact k46) ?_
 (try simp only[↓jr,jw,seval,ir46])
 refine JDC.use (s_CloneS n.cs h1 _) ?_
 (try simp only[↓jr,jw,seval])
 refine JDC.use (s_CloneS n.rs h2 _) ?_
 (try simp only[↓jr,jw,seval])
 refine JDC.use (s_CloneS n.is h3 _) ?_
 (try simp only[↓jr,jw,seval])
 refine JDRAW.oc (by (try simp only[↓jr,jw,seval,jq]) <;> (repeat' (first | exact trivial | refine And.intro ?_ ?_ | assumption | exact Nat.le_refl _ | exact uo1 | exact (fun h => absurd rfl h) | exact uo2 rfl (ext_get_new rfl) (ext_get_new rfl) | exact uo3 rfl | exact (fun _ _ => ⟨uo2 rfl (ext_get_new rfl) (ext_get_new rfl), fun h => absurd rfl h, fun h => absurd rfl h⟩) | (unfold pid; omega)))) ?_
 (try simp only[↓jr,jw,seval])
 refine JFIN.rb ?_
 exact SubB.agg ⟨SubB.pure (by simp only [AV.pure]; exact strs_pur _), SubB.pure (by simp only [AV.pure]; exact strs_pur _), SubB.pure (by simp only [AV.pure]; exact strs_pur _), SubB.pure rfl, SubB.pure rfl, SubB.pure rfl, SubB.pure rfl, True.intro⟩
abbrev OfC (n : Nms) (t1 t2 t3 t4 : Tok) (p : List Ax) : List AV :=
 [.sl .none n.cs.length (strs n.cs), .sl .none n.rs.length (strs n.rs), .sl .none n.is.length (strs n.is), .sl t1 (incsOf p).length (encs Inc.enc (incsOf p)), .sl t2 (rolsOf p).length (encs RIn.enc (rolsOf p)), .sl t3 (facsOf p).length (encs Fac.enc (facsOf p)), .sl t4 (lnksOf p).length (encs Lnk.enc (lnksOf p))]
abbrev OfR (t1 t2 t3 t4 : Tok) (p : List Ax) : List RT := [(t1, 6, (incsOf p).length), (t2, 2, (rolsOf p).length), (t3, 4, (facsOf p).length), (t4, 3, (lnksOf p).length)]
theorem s_kbOf (n : Nms) (h1 : n.cs.length ≤ 1000000) (h2 : n.rs.length ≤ 1000000) (h3 : n.is.length ≤ 1000000) (l : List Ax) (hl : l.length ≤ 1000000) (hx : ∀ x ∈ l, x.ok) (j : JH) :
  JC Tryz.prog G 58 [.agg n.enc, .sl .none l.length (axs l)] j (RET (.agg (ofB n l).enc) j) := by
 refine JC.run hmix c58 (by exact k58) ?_
 (try simp only[↓jr,jw,seval,ir58])
 refine JCs.ret (s_kbNamed n h1 h2 h3 _) ?_
 (try simp only[↓jr,jw,seval])
 refine wc.intro ⟨rfl, Nat.le_refl _, rfl⟩ ?_
 (try simp only[↓jr,jw,seval])
 have hS0 : ∀ t, (fun t => t < j.tnext) t → t < j.tnext := fun t h => h
 refine JLOOP.of (σ := Nat × Tok × Tok × Tok × Tok × JH) (fun s => s.1 ≤ l.length ∧ TokP (fun t => t < j.tnext) j s.2.2.2.2.2 ∧ Rws (fun t => t < j.tnext) s.2.2.2.2.2 (OfR s.2.1 s.2.2.1 s.2.2.2.1 s.2.2.2.2.1 (l.take s.1))) (fun s => l.length - s.1)
  (fun s => [(12, I64 s.1), (11, I64 l.length), (10, .sl .none l.length (axs l)), (5, .ptr (pid j.next 2) 0), (4, .ptr (pid j.next 1) 0)])
  (fun s => Pg.ext s.2.2.2.2.2 [.cells 24 n.enc, .cells 30 ZB, .cells 30 (OfC n s.2.1 s.2.2.1 s.2.2.2.1 s.2.2.2.2.1 (l.take s.1))]) (0, .nil, .nil, .nil, .nil, j) ⟨Nat.zero_le _, TokP.refl hS0, Rws.nil (by simp [incsOf, rolsOf, facsOf, lnksOf])⟩ ?_ (JDropH.refl _) ?_
 ·(try simp only[↓jr,jw,seval,DL])
  exact ⟨SubB.v, SubB.v, SubB.pure (by simp only [AV.pure]; exact axs_pur _), SubB.ptr (by unfold pid; omega), SubB.ptr (by unfold pid; omega)⟩
 rintro ⟨k, t1, t2, t3, t4, jx⟩ ⟨hk, hP, hR⟩
 simp only at hk hP hR
 have hnx := hP.next
 (try simp only[↓jr,jw,seval,hnx])
 refine wq.intro (fun q1 => ?_) (fun q1 => ?_)
 ·have hlt : k < (l).length := by omega
  obtain ⟨x, r, hd⟩ : ∃ c_ l_, List.drop k (l) = c_ :: l_ := ⟨_, _, List.drop_eq_getElem_cons hlt⟩
  have hd1 : List.drop (k + 1) (l) = r := by rw [← List.drop_drop, hd]; rfl
  have hmem : x ∈ l := List.mem_of_mem_drop (hd ▸ List.mem_cons_self)
  have hxx := hx x hmem
  have htk := take_sn hd
  have hS : ∀ t, (fun t => t < j.tnext) t → t < jx.tnext := fun t q => Nat.lt_of_lt_of_le q hP.tnext
  have hpl : (l.take k).length ≤ 999999 := by rw [List.length_take]; omega
  generalize l.take k = p at *
  (try simp only[↓jr,jw,seval,hd,hnx,axs_dr,axs_co,axs_len])
  refine wc.intro (by omega) ?_
  (try simp only[↓jr,jw,seval,hd,hnx,axs_dr,axs_co,axs_len])
  cases x with
  | inc x =>
   simp only [Ax.ok] at hxx
   have e : mtv Tryz.prog 139 "isagoge/kb.add" = some 132 := by kernel_rfl
   obtain ⟨g1, g2, g3⟩ := hR.grow hS (i := 0) rfl
   obtain ⟨t5, j1, f1, f2, c1⟩ := s_inclAdd (G := G) (S := SOth (fun t => t < j.tnext) (OfR t1 t2 t3 t4 p) 0) x hxx.1 hxx.2 30 (.sl .none n.cs.length (strs n.cs)) (.sl .none n.rs.length (strs n.rs)) (.sl .none n.is.length (strs n.is)) (.sl t2 (rolsOf p).length (encs RIn.enc (rolsOf p))) (.sl t3 (facsOf p).length (encs Fac.enc (facsOf p))) (.sl t4 (lnksOf p).length (encs Lnk.enc (lnksOf p))) t1 (incsOf p).length (encs Inc.enc (incsOf p)) (pid j.next 2) (Pg.ext jx [.cells 24 n.enc, .cells 30 ZB, .cells 30 (OfC n t1 t2 t3 t4 p)])
    (by rw [ext_next, hnx]; unfold pid; simp) (by rw [← hnx]; exact ext_get_new rfl) (g1.eq rfl rfl) (fun t q => g2 t q) (encs_len Inc.len _) (encs_pur Inc.pur _) (by have := incsOf_len p; omega)
    (fun nt hnt => ⟨SubB.pure (by simp only [AV.pure]; exact strs_pur _), SubB.pure (by simp only [AV.pure]; exact strs_pur _), SubB.pure (by simp only [AV.pure]; exact strs_pur _), SubB.grown (hR.1 1 _ rfl) hnt (encs_pur RIn.pur _), SubB.grown (hR.1 2 _ rfl) hnt (encs_pur Fac.pur _), SubB.grown (hR.1 3 _ rfl) hnt (encs_pur Lnk.pur _), True.intro⟩)
   obtain ⟨j2, eu, f3, e1, e2⟩ := f2.unbox
   have f4 := f1.eq e1 e2
   obtain ⟨g4, g5⟩ := g3 f4 f3
   have g6 := hP.trans g5
   have hn2 : j2.next = j.next := g6.next
   have hn1 : j1.next = pid j.next 3 := by rw [f2.next, ext_next, hnx]; rfl
   have eset : ∀ X : AObj, Pg.ext (j1.set (pid j.next 2) X) [] = Pg.ext j2 [.cells 24 n.enc, .cells 30 ZB, X] := fun X => by
    rw [← ext_set_old (by rw [hn1]; unfold pid; omega), eu, ← hn2]
    exact ext_set_new rfl (Nat.lt_succ_self 2)
   rw [eset] at c1
   simp only [Ax.enc, jinv, e, wv_some]
   refine JCs.ret c1 ?_
   (try simp only[↓jr,jw,seval,hnx,hn2])
   refine wc.intro (by unfold R64; omega) ?_
   (try simp only[↓jr,jw,seval,hnx,hn2])
   have ec : OfC n t5 t2 t3 t4 (p ++ [.inc x]) = [.sl .none n.cs.length (strs n.cs), .sl .none n.rs.length (strs n.rs), .sl .none n.is.length (strs n.is), .sl t5 ((incsOf p).length + 1) (encs Inc.enc (incsOf p) ++ x.enc), .sl t2 (rolsOf p).length (encs RIn.enc (rolsOf p)), .sl t3 (facsOf p).length (encs Fac.enc (facsOf p)), .sl t4 (lnksOf p).length (encs Lnk.enc (lnksOf p))] := by
    unfold OfC
    rw [incsOf_app, rolsOf_app, facsOf_app, lnksOf_app]
    simp only [incsOf, rolsOf, facsOf, lnksOf, List.append_nil, encs_app, encs_sing, List.length_append, List.length_cons, List.length_nil, Nat.zero_add]
   have er : OfR t5 t2 t3 t4 (p ++ [.inc x]) = (OfR t1 t2 t3 t4 p).set 0 (t5, 6, (incsOf p).length + 1) := by
    unfold OfR
    rw [incsOf_app, rolsOf_app, facsOf_app, lnksOf_app]
    simp only [incsOf, rolsOf, facsOf, lnksOf, List.append_nil, List.length_append, List.length_cons, List.length_nil, Nat.zero_add]
    rfl
   rw [← er] at g4
   rw [← ec]
   refine JNEXT.of (k + 1, t5, t2, t3, t4, j2) ⟨by simp only; omega, g6, by simp only; rw [htk]; exact g4⟩ (by simp only; omega) ?_ ?_
   ·(try simp only[↓jr,jw,seval,DL])
    exact ⟨SubB.v, SubB.v, SubB.pure (by simp only [AV.pure]; exact axs_pur _), SubB.ptr (by rw [hn2]; unfold pid; omega), SubB.ptr (by rw [hn2]; unfold pid; omega)⟩
   ·simp only [htk]
    refine JDropH.next (TokExt.refl _) g5.next g5.tnext (fun o ob ho q => .inl (by rw [← g5.get o ho]; exact q)) ⟨.inl ⟨rfl, rfl⟩, .inl ⟨rfl, rfl⟩, .inr ⟨rfl, SubB.pure (by simp only [AV.pure]; exact strs_pur _), SubB.pure (by simp only [AV.pure]; exact strs_pur _), SubB.pure (by simp only [AV.pure]; exact strs_pur _), SubB.grown (g4.1 0 _ rfl) (Nat.le_refl _) (encs_pur Inc.pur _), SubB.grown (g4.1 1 _ rfl) (Nat.le_refl _) (encs_pur RIn.pur _), SubB.grown (g4.1 2 _ rfl) (Nat.le_refl _) (encs_pur Fac.pur _), SubB.grown (g4.1 3 _ rfl) (Nat.le_refl _) (encs_pur Lnk.pur _), True.intro⟩, True.intro⟩
  | rol x =>
   simp only [Ax.ok] at hxx
   have e : mtv Tryz.prog 140 "isagoge/kb.add" = some 117 := by kernel_rfl
   obtain ⟨g1, g2, g3⟩ := hR.grow hS (i := 1) rfl
   obtain ⟨t5, j1, f1, f2, c1⟩ := s_roleAdd (G := G) (S := SOth (fun t => t < j.tnext) (OfR t1 t2 t3 t4 p) 1) x 30 (.sl .none n.cs.length (strs n.cs)) (.sl .none n.rs.length (strs n.rs)) (.sl .none n.is.length (strs n.is)) (.sl t1 (incsOf p).length (encs Inc.enc (incsOf p))) (.sl t3 (facsOf p).length (encs Fac.enc (facsOf p))) (.sl t4 (lnksOf p).length (encs Lnk.enc (lnksOf p))) t2 (rolsOf p).length (encs RIn.enc (rolsOf p)) (pid j.next 2) (Pg.ext jx [.cells 24 n.enc, .cells 30 ZB, .cells 30 (OfC n t1 t2 t3 t4 p)])
    (by rw [ext_next, hnx]; unfold pid; simp) (by rw [← hnx]; exact ext_get_new rfl) (g1.eq rfl rfl) (fun t q => g2 t q) (encs_len RIn.len _) (encs_pur RIn.pur _) (by have := rolsOf_len p; omega)
    (fun nt hnt => ⟨SubB.pure (by simp only [AV.pure]; exact strs_pur _), SubB.pure (by simp only [AV.pure]; exact strs_pur _), SubB.pure (by simp only [AV.pure]; exact strs_pur _), SubB.grown (hR.1 0 _ rfl) hnt (encs_pur Inc.pur _), SubB.grown (hR.1 2 _ rfl) hnt (encs_pur Fac.pur _), SubB.grown (hR.1 3 _ rfl) hnt (encs_pur Lnk.pur _), True.intro⟩)
   obtain ⟨j2, eu, f3, e1, e2⟩ := f2.unbox
   have f4 := f1.eq e1 e2
   obtain ⟨g4, g5⟩ := g3 f4 f3
   have g6 := hP.trans g5
   have hn2 : j2.next = j.next := g6.next
   have hn1 : j1.next = pid j.next 3 := by rw [f2.next, ext_next, hnx]; rfl
   have eset : ∀ X : AObj, Pg.ext (j1.set (pid j.next 2) X) [] = Pg.ext j2 [.cells 24 n.enc, .cells 30 ZB, X] := fun X => by
    rw [← ext_set_old (by rw [hn1]; unfold pid; omega), eu, ← hn2]
    exact ext_set_new rfl (Nat.lt_succ_self 2)
   rw [eset] at c1
   simp only [Ax.enc, jinv, e, wv_some]
   refine JCs.ret c1 ?_
   (try simp only[↓jr,jw,seval,hnx,hn2])
   refine wc.intro (by unfold R64; omega) ?_
   (try simp only[↓jr,jw,seval,hnx,hn2])
   have ec : OfC n t1 t5 t3 t4 (p ++ [.rol x]) = [.sl .none n.cs.length (strs n.cs), .sl .none n.rs.length (strs n.rs), .sl .none n.is.length (strs n.is), .sl t1 (incsOf p).length (encs Inc.enc (incsOf p)), .sl t5 ((rolsOf p).length + 1) (encs RIn.enc (rolsOf p) ++ x.enc), .sl t3 (facsOf p).length (encs Fac.enc (facsOf p)), .sl t4 (lnksOf p).length (encs Lnk.enc (lnksOf p))] := by
    unfold OfC
    rw [incsOf_app, rolsOf_app, facsOf_app, lnksOf_app]
    simp only [incsOf, rolsOf, facsOf, lnksOf, List.append_nil, encs_app, encs_sing, List.length_append, List.length_cons, List.length_nil, Nat.zero_add]
   have er : OfR t1 t5 t3 t4 (p ++ [.rol x]) = (OfR t1 t2 t3 t4 p).set 1 (t5, 2, (rolsOf p).length + 1) := by
    unfold OfR
    rw [incsOf_app, rolsOf_app, facsOf_app, lnksOf_app]
    simp only [incsOf, rolsOf, facsOf, lnksOf, List.append_nil, List.length_append, List.length_cons, List.length_nil, Nat.zero_add]
    rfl
   rw [← er] at g4
   rw [← ec]
   refine JNEXT.of (k + 1, t1, t5, t3, t4, j2) ⟨by simp only; omega, g6, by simp only; rw [htk]; exact g4⟩ (by simp only; omega) ?_ ?_
   ·(try simp only[↓jr,jw,seval,DL])
    exact ⟨SubB.v, SubB.v, SubB.pure (by simp only [AV.pure]; exact axs_pur _), SubB.ptr (by rw [hn2]; unfold pid; omega), SubB.ptr (by rw [hn2]; unfold pid; omega)⟩
   ·simp only [htk]
    refine JDropH.next (TokExt.refl _) g5.next g5.tnext (fun o ob ho q => .inl (by rw [← g5.get o ho]; exact q)) ⟨.inl ⟨rfl, rfl⟩, .inl ⟨rfl, rfl⟩, .inr ⟨rfl, SubB.pure (by simp only [AV.pure]; exact strs_pur _), SubB.pure (by simp only [AV.pure]; exact strs_pur _), SubB.pure (by simp only [AV.pure]; exact strs_pur _), SubB.grown (g4.1 0 _ rfl) (Nat.le_refl _) (encs_pur Inc.pur _), SubB.grown (g4.1 1 _ rfl) (Nat.le_refl _) (encs_pur RIn.pur _), SubB.grown (g4.1 2 _ rfl) (Nat.le_refl _) (encs_pur Fac.pur _), SubB.grown (g4.1 3 _ rfl) (Nat.le_refl _) (encs_pur Lnk.pur _), True.intro⟩, True.intro⟩
  | fac x =>
   simp only [Ax.ok] at hxx
   have e : mtv Tryz.prog 141 "isagoge/kb.add" = some 130 := by kernel_rfl
   obtain ⟨g1, g2, g3⟩ := hR.grow hS (i := 2) rfl
   obtain ⟨t5, j1, f1, f2, c1⟩ := s_factAdd (G := G) (S := SOth (fun t => t < j.tnext) (OfR t1 t2 t3 t4 p) 2) x hxx.1 hxx.2 30 (.sl .none n.cs.length (strs n.cs)) (.sl .none n.rs.length (strs n.rs)) (.sl .none n.is.length (strs n.is)) (.sl t1 (incsOf p).length (encs Inc.enc (incsOf p))) (.sl t2 (rolsOf p).length (encs RIn.enc (rolsOf p))) (.sl t4 (lnksOf p).length (encs Lnk.enc (lnksOf p))) t3 (facsOf p).length (encs Fac.enc (facsOf p)) (pid j.next 2) (Pg.ext jx [.cells 24 n.enc, .cells 30 ZB, .cells 30 (OfC n t1 t2 t3 t4 p)])
    (by rw [ext_next, hnx]; unfold pid; simp) (by rw [← hnx]; exact ext_get_new rfl) (g1.eq rfl rfl) (fun t q => g2 t q) (encs_len Fac.len _) (encs_pur Fac.pur _) (by have := facsOf_len p; omega)
    (fun nt hnt => ⟨SubB.pure (by simp only [AV.pure]; exact strs_pur _), SubB.pure (by simp only [AV.pure]; exact strs_pur _), SubB.pure (by simp only [AV.pure]; exact strs_pur _), SubB.grown (hR.1 0 _ rfl) hnt (encs_pur Inc.pur _), SubB.grown (hR.1 1 _ rfl) hnt (encs_pur RIn.pur _), SubB.grown (hR.1 3 _ rfl) hnt (encs_pur Lnk.pur _), True.intro⟩)
   obtain ⟨j2, eu, f3, e1, e2⟩ := f2.unbox
   have f4 := f1.eq e1 e2
   obtain ⟨g4, g5⟩ := g3 f4 f3
   have g6 := hP.trans g5
   have hn2 : j2.next = j.next := g6.next
   have hn1 : j1.next = pid j.next 3 := by rw [f2.next, ext_next, hnx]; rfl
   have eset : ∀ X : AObj, Pg.ext (j1.set (pid j.next 2) X) [] = Pg.ext j2 [.cells 24 n.enc, .cells 30 ZB, X] := fun X => by
    rw [← ext_set_old (by rw [hn1]; unfold pid; omega), eu, ← hn2]
    exact ext_set_new rfl (Nat.lt_succ_self 2)
   rw [eset] at c1
   simp only [Ax.enc, jinv, e, wv_some]
   refine JCs.ret c1 ?_
   (try simp only[↓jr,jw,seval,hnx,hn2])
   refine wc.intro (by unfold R64; omega) ?_
   (try simp only[↓jr,jw,seval,hnx,hn2])
   have ec : OfC n t1 t2 t5 t4 (p ++ [.fac x]) = [.sl .none n.cs.length (strs n.cs), .sl .none n.rs.length (strs n.rs), .sl .none n.is.length (strs n.is), .sl t1 (incsOf p).length (encs Inc.enc (incsOf p)), .sl t2 (rolsOf p).length (encs RIn.enc (rolsOf p)), .sl t5 ((facsOf p).length + 1) (encs Fac.enc (facsOf p) ++ x.enc), .sl t4 (lnksOf p).length (encs Lnk.enc (lnksOf p))] := by
    unfold OfC
    rw [incsOf_app, rolsOf_app, facsOf_app, lnksOf_app]
    simp only [incsOf, rolsOf, facsOf, lnksOf, List.append_nil, encs_app, encs_sing, List.length_append, List.length_cons, List.length_nil, Nat.zero_add]
   have er : OfR t1 t2 t5 t4 (p ++ [.fac x]) = (OfR t1 t2 t3 t4 p).set 2 (t5, 4, (facsOf p).length + 1) := by
    unfold OfR
    rw [incsOf_app, rolsOf_app, facsOf_app, lnksOf_app]
    simp only [incsOf, rolsOf, facsOf, lnksOf, List.append_nil, List.length_append, List.length_cons, List.length_nil, Nat.zero_add]
    rfl
   rw [← er] at g4
   rw [← ec]
   refine JNEXT.of (k + 1, t1, t2, t5, t4, j2) ⟨by simp only; omega, g6, by simp only; rw [htk]; exact g4⟩ (by simp only; omega) ?_ ?_
   ·(try simp only[↓jr,jw,seval,DL])
    exact ⟨SubB.v, SubB.v, SubB.pure (by simp only [AV.pure]; exact axs_pur _), SubB.ptr (by rw [hn2]; unfold pid; omega), SubB.ptr (by rw [hn2]; unfold pid; omega)⟩
   ·simp only [htk]
    refine JDropH.next (TokExt.refl _) g5.next g5.tnext (fun o ob ho q => .inl (by rw [← g5.get o ho]; exact q)) ⟨.inl ⟨rfl, rfl⟩, .inl ⟨rfl, rfl⟩, .inr ⟨rfl, SubB.pure (by simp only [AV.pure]; exact strs_pur _), SubB.pure (by simp only [AV.pure]; exact strs_pur _), SubB.pure (by simp only [AV.pure]; exact strs_pur _), SubB.grown (g4.1 0 _ rfl) (Nat.le_refl _) (encs_pur Inc.pur _), SubB.grown (g4.1 1 _ rfl) (Nat.le_refl _) (encs_pur RIn.pur _), SubB.grown (g4.1 2 _ rfl) (Nat.le_refl _) (encs_pur Fac.pur _), SubB.grown (g4.1 3 _ rfl) (Nat.le_refl _) (encs_pur Lnk.pur _), True.intro⟩, True.intro⟩
  | lnk x =>
   simp only [Ax.ok] at hxx
   have e : mtv Tryz.prog 142 "isagoge/kb.add" = some 125 := by kernel_rfl
   obtain ⟨g1, g2, g3⟩ := hR.grow hS (i := 3) rfl
   obtain ⟨t5, j1, f1, f2, c1⟩ := s_linkAdd (G := G) (S := SOth (fun t => t < j.tnext) (OfR t1 t2 t3 t4 p) 3) x 30 (.sl .none n.cs.length (strs n.cs)) (.sl .none n.rs.length (strs n.rs)) (.sl .none n.is.length (strs n.is)) (.sl t1 (incsOf p).length (encs Inc.enc (incsOf p))) (.sl t2 (rolsOf p).length (encs RIn.enc (rolsOf p))) (.sl t3 (facsOf p).length (encs Fac.enc (facsOf p))) t4 (lnksOf p).length (encs Lnk.enc (lnksOf p)) (pid j.next 2) (Pg.ext jx [.cells 24 n.enc, .cells 30 ZB, .cells 30 (OfC n t1 t2 t3 t4 p)])
    (by rw [ext_next, hnx]; unfold pid; simp) (by rw [← hnx]; exact ext_get_new rfl) (g1.eq rfl rfl) (fun t q => g2 t q) (encs_len Lnk.len _) (encs_pur Lnk.pur _) (by have := lnksOf_len p; omega)
    (fun nt hnt => ⟨SubB.pure (by simp only [AV.pure]; exact strs_pur _), SubB.pure (by simp only [AV.pure]; exact strs_pur _), SubB.pure (by simp only [AV.pure]; exact strs_pur _), SubB.grown (hR.1 0 _ rfl) hnt (encs_pur Inc.pur _), SubB.grown (hR.1 1 _ rfl) hnt (encs_pur RIn.pur _), SubB.grown (hR.1 2 _ rfl) hnt (encs_pur Fac.pur _), True.intro⟩)
   obtain ⟨j2, eu, f3, e1, e2⟩ := f2.unbox
   have f4 := f1.eq e1 e2
   obtain ⟨g4, g5⟩ := g3 f4 f3
   have g6 := hP.trans g5
   have hn2 : j2.next = j.next := g6.next
   have hn1 : j1.next = pid j.next 3 := by rw [f2.next, ext_next, hnx]; rfl
   have eset : ∀ X : AObj, Pg.ext (j1.set (pid j.next 2) X) [] = Pg.ext j2 [.cells 24 n.enc, .cells 30 ZB, X] := fun X => by
    rw [← ext_set_old (by rw [hn1]; unfold pid; omega), eu, ← hn2]
    exact ext_set_new rfl (Nat.lt_succ_self 2)
   rw [eset] at c1
   simp only [Ax.enc, jinv, e, wv_some]
   refine JCs.ret c1 ?_
   (try simp only[↓jr,jw,seval,hnx,hn2])
   refine wc.intro (by unfold R64; omega) ?_
   (try simp only[↓jr,jw,seval,hnx,hn2])
   have ec : OfC n t1 t2 t3 t5 (p ++ [.lnk x]) = [.sl .none n.cs.length (strs n.cs), .sl .none n.rs.length (strs n.rs), .sl .none n.is.length (strs n.is), .sl t1 (incsOf p).length (encs Inc.enc (incsOf p)), .sl t2 (rolsOf p).length (encs RIn.enc (rolsOf p)), .sl t3 (facsOf p).length (encs Fac.enc (facsOf p)), .sl t5 ((lnksOf p).length + 1) (encs Lnk.enc (lnksOf p) ++ x.enc)] := by
    unfold OfC
    rw [incsOf_app, rolsOf_app, facsOf_app, lnksOf_app]
    simp only [incsOf, rolsOf, facsOf, lnksOf, List.append_nil, encs_app, encs_sing, List.length_append, List.length_cons, List.length_nil, Nat.zero_add]
   have er : OfR t1 t2 t3 t5 (p ++ [.lnk x]) = (OfR t1 t2 t3 t4 p).set 3 (t5, 3, (lnksOf p).length + 1) := by
    unfold OfR
    rw [incsOf_app, rolsOf_app, facsOf_app, lnksOf_app]
    simp only [incsOf, rolsOf, facsOf, lnksOf, List.append_nil, List.length_append, List.length_cons, List.length_nil, Nat.zero_add]
    rfl
   rw [← er] at g4
   rw [← ec]
   refine JNEXT.of (k + 1, t1, t2, t3, t5, j2) ⟨by simp only; omega, g6, by simp only; rw [htk]; exact g4⟩ (by simp only; omega) ?_ ?_
   ·(try simp only[↓jr,jw,seval,DL])
    exact ⟨SubB.v, SubB.v, SubB.pure (by simp only [AV.pure]; exact axs_pur _), SubB.ptr (by rw [hn2]; unfold pid; omega), SubB.ptr (by rw [hn2]; unfold pid; omega)⟩
   ·simp only [htk]
    refine JDropH.next (TokExt.refl _) g5.next g5.tnext (fun o ob ho q => .inl (by rw [← g5.get o ho]; exact q)) ⟨.inl ⟨rfl, rfl⟩, .inl ⟨rfl, rfl⟩, .inr ⟨rfl, SubB.pure (by simp only [AV.pure]; exact strs_pur _), SubB.pure (by simp only [AV.pure]; exact strs_pur _), SubB.pure (by simp only [AV.pure]; exact strs_pur _), SubB.grown (g4.1 0 _ rfl) (Nat.le_refl _) (encs_pur Inc.pur _), SubB.grown (g4.1 1 _ rfl) (Nat.le_refl _) (encs_pur RIn.pur _), SubB.grown (g4.1 2 _ rfl) (Nat.le_refl _) (encs_pur Fac.pur _), SubB.grown (g4.1 3 _ rfl) (Nat.le_refl _) (encs_pur Lnk.pur _), True.intro⟩, True.intro⟩
 ·(try simp only[↓jr,jw,seval,hnx])
  have ek : k = l.length := by omega
  subst ek
  have hT : TokExt j jx := ⟨hP.next, hP.get, hP.tnext, fun t ht => hP.tok t ht⟩
  rw [List.take_length] at *
  refine JFIN.rb ?_ hT
  exact SubB.agg ⟨SubB.pure (by simp only [AV.pure]; exact strs_pur _), SubB.pure (by simp only [AV.pure]; exact strs_pur _), SubB.pure (by simp only [AV.pure]; exact strs_pur _), SubB.sl rfl (SubBs.pure (encs_pur Inc.pur _)), SubB.sl rfl (SubBs.pure (encs_pur RIn.pur _)), SubB.sl rfl (SubBs.pure (encs_pur Fac.pur _)), SubB.sl rfl (SubBs.pure (encs_pur Lnk.pur _)), True.intro⟩
end
end Go.Proofs.YtcjlpklgnknpgaaGreatDoor.Pg
