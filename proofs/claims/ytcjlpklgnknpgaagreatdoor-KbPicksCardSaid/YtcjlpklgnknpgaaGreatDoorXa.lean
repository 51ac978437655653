/-
  Joining knowledge bases: the program, and what the law asks.
-/
import Derived.Test.YtcjlpklgnknpgaaGreatDoorWy
set_option linter.unusedVariables false
set_option linter.unusedSimpArgs false
set_option maxRecDepth 100000
set_option maxHeartbeats 8000000
namespace Go.Proofs.YtcjlpklgnknpgaaGreatDoor.Pg
open Go
theorem CanApp.toP {j0 j : JH} {tok : Tok} {es n : Nat} (h : CanApp j0 j tok es n) : CanP (Low j0) j tok es n := by
 rcases h with h | ⟨t, h1, h2, h3, h4⟩
 ·exact .inl h
 ·exact .inr ⟨t, fun q => absurd q (Nat.not_lt.2 h1), h2, h3, h4⟩
theorem incsOf_axs (b : Bas) : incsOf b.axs = b.incls := by
 unfold Bas.axs
 rw [incsOf_app, incsOf_app, incsOf_app]
 have h1 : ∀ l : List Inc, incsOf (l.map Ax.inc) = l := fun l => by induction l with | nil => rfl | cons x l ih => simp only [List.map_cons, incsOf, ih]
 have h2 : ∀ l : List RIn, incsOf (l.map Ax.rol) = [] := fun l => by induction l with | nil => rfl | cons x l ih => simp only [List.map_cons, incsOf, ih]
 have h3 : ∀ l : List Fac, incsOf (l.map Ax.fac) = [] := fun l => by induction l with | nil => rfl | cons x l ih => simp only [List.map_cons, incsOf, ih]
 have h4 : ∀ l : List Lnk, incsOf (l.map Ax.lnk) = [] := fun l => by induction l with | nil => rfl | cons x l ih => simp only [List.map_cons, incsOf, ih]
 rw [h1, h2, h3, h4]; simp
theorem rolsOf_axs (b : Bas) : rolsOf b.axs = b.roles := by
 unfold Bas.axs
 rw [rolsOf_app, rolsOf_app, rolsOf_app]
 have h1 : ∀ l : List Inc, rolsOf (l.map Ax.inc) = [] := fun l => by induction l with | nil => rfl | cons x l ih => simp only [List.map_cons, rolsOf, ih]
 have h2 : ∀ l : List RIn, rolsOf (l.map Ax.rol) = l := fun l => by induction l with | nil => rfl | cons x l ih => simp only [List.map_cons, rolsOf, ih]
 have h3 : ∀ l : List Fac, rolsOf (l.map Ax.fac) = [] := fun l => by induction l with | nil => rfl | cons x l ih => simp only [List.map_cons, rolsOf, ih]
 have h4 : ∀ l : List Lnk, rolsOf (l.map Ax.lnk) = [] := fun l => by induction l with | nil => rfl | cons x l ih => simp only [List.map_cons, rolsOf, ih]
 rw [h1, h2, h3, h4]; simp
theorem facsOf_axs (b : Bas) : facsOf b.axs = b.facts := by
 unfold Bas.axs
 rw [facsOf_app, facsOf_app, facsOf_app]
 have h1 : ∀ l : List Inc, facsOf (l.map Ax.inc) = [] := fun l => by induction l with | nil => rfl | cons x l ih => simp only [List.map_cons, facsOf, ih]
 have h2 : ∀ l : List RIn, facsOf (l.map Ax.rol) = [] := fun l => by induction l with | nil => rfl | cons x l ih => simp only [List.map_cons, facsOf, ih]
 have h3 : ∀ l : List Fac, facsOf (l.map Ax.fac) = l := fun l => by induction l with | nil => rfl | cons x l ih => simp only [List.map_cons, facsOf, ih]
 have h4 : ∀ l : List Lnk, facsOf (l.map Ax.lnk) = [] := fun l => by induction l with | nil => rfl | cons x l ih => simp only [List.map_cons, facsOf, ih]
 rw [h1, h2, h3, h4]; simp
theorem lnksOf_axs (b : Bas) : lnksOf b.axs = b.links := by
 unfold Bas.axs
 rw [lnksOf_app, lnksOf_app, lnksOf_app]
 have h1 : ∀ l : List Inc, lnksOf (l.map Ax.inc) = [] := fun l => by induction l with | nil => rfl | cons x l ih => simp only [List.map_cons, lnksOf, ih]
 have h2 : ∀ l : List RIn, lnksOf (l.map Ax.rol) = [] := fun l => by induction l with | nil => rfl | cons x l ih => simp only [List.map_cons, lnksOf, ih]
 have h3 : ∀ l : List Fac, lnksOf (l.map Ax.fac) = [] := fun l => by induction l with | nil => rfl | cons x l ih => simp only [List.map_cons, lnksOf, ih]
 have h4 : ∀ l : List Lnk, lnksOf (l.map Ax.lnk) = l := fun l => by induction l with | nil => rfl | cons x l ih => simp only [List.map_cons, lnksOf, ih]
 rw [h1, h2, h3, h4]; simp
theorem ofB_join (a b : Bas) : ofB a.nms (a.axs ++ b.axs) = joinB a b := by
 unfold ofB joinB
 rw [incsOf_app, rolsOf_app, facsOf_app, lnksOf_app, incsOf_axs, incsOf_axs, rolsOf_axs, rolsOf_axs, facsOf_axs, facsOf_axs, lnksOf_axs, lnksOf_axs]
theorem joinB_ok {a b : Bas} (ha : a.ok) (hb : b.ok) (a1 : a.incls.length ≤ 100000) (a2 : a.roles.length ≤ 100000) (a3 : a.facts.length ≤ 100000) (a4 : a.links.length ≤ 100000) (b1 : b.incls.length ≤ 100000) (b2 : b.roles.length ≤ 100000) (b3 : b.facts.length ≤ 100000) (b4 : b.links.length ≤ 100000) : (joinB a b).ok :=
 ⟨ha.nms, ha.short, by simp only [joinB, List.length_append]; omega, by simp only [joinB, List.length_append]; omega, by simp only [joinB, List.length_append]; omega, by simp only [joinB, List.length_append]; omega,
  fun x hx => (List.mem_append.1 hx).elim (ha.incls x) (hb.incls x), fun x hx => (List.mem_append.1 hx).elim (ha.roles x) (hb.roles x), fun x hx => (List.mem_append.1 hx).elim (ha.facts x) (hb.facts x), fun x hx => (List.mem_append.1 hx).elim (ha.links x) (hb.links x)⟩
theorem joinB_few {a b : Bas} (ha : a.few) (hb : b.few) : (joinB a b).few :=
 ⟨fun x hx => (List.mem_append.1 hx).elim (ha.1 x) (hb.1 x), fun x hx => (List.mem_append.1 hx).elim (ha.2 x) (hb.2 x)⟩
theorem axs_one (l : List Ax) : (axs l).all AV.one = true := by unfold axs; rw [List.all_map]; exact List.all_eq_true.2 fun x _ => by cases x <;> rfl
def jnB (a b : Bas) : Bas := if basV a = true ∧ basV b = true then (if a.nms = b.nms then (if basV (joinB a b) = true then joinB a b else noB) else noB) else noB
def jnE (a b : Bas) : Int := if basV a = true ∧ basV b = true then (if a.nms = b.nms then (if basV (joinB a b) = true then 0 else 2) else 1) else 20
section
variable {m : GM} {G : Nat → Option (List AV)}
noncomputable def ir18 : IFn := ⟨36, [⟨4, (some (some 7))⟩, ⟨5, none⟩], (.seq (.reg [oA 2 (.box 30 (.r 0)), oA 3 (.box 30 (.r 1)), oA 4 (.alloc 30 [.sl .nil 0 [], .sl .nil 0 [], .sl .nil 0 [], .sl .nil 0 [], .sl .nil 0 [], .sl .nil 0 [], .sl .nil 0 []]), oA 5 (.mov (kI 0))]) (.seq (.seq (.reg [oL 7 2 (some 7), oT 8 7 (.call 35 [.r 7]), oA 9 (.not (.r 8)), oA 10 (kM 9), ⟨(some 11), (some ((10, false))), (some (.r 3)), (.load (some 7) (.r 3))⟩, ⟨(some 12), (some ((10, false))), (some (.r 11)), (.call 35 [.r 11])⟩, ⟨(some 13), (some ((10, false))), none, (.not (.r 12))⟩, oA 14 (.pick (.r 10) (kB true) (.r 13))]) (.cond (.r 14) (.seq (.reg [oA 15 (.build [.sl .nil 0 [], .sl .nil 0 [], .sl .nil 0 [], .sl .nil 0 [], .sl .nil 0 [], .sl .nil 0 [], .sl .nil 0 []] []), oN (.store 7 (.r 4) (.r 15)), oA 5 (.mov (kI 20))]) .ret) .skip)) (.seq (.seq (.reg [oA 16 (.fadr 0 (.r 2)), oL 17 16 (some 3), oA 18 (.fadr 0 (.r 3)), oL 19 18 (some 3), oA 20 (.call 57 [.r 17, .r 19]), oA 21 (.not (.r 20))]) (.cond (.r 21) (.seq (.reg [oA 22 (.build [.sl .nil 0 [], .sl .nil 0 [], .sl .nil 0 [], .sl .nil 0 [], .sl .nil 0 [], .sl .nil 0 [], .sl .nil 0 []] []), oN (.store 7 (.r 4) (.r 22)), oA 5 (.mov (kI 1))]) .ret) .skip)) (.seq (.draw [oA 23 (.fadr 0 (.r 2)), oL 24 23 (some 3), oL 25 2 (some 7), oL 27 3 (some 7), oA 6 (.alloc 30 [.sl .nil 0 [], .sl .nil 0 [], .sl .nil 0 [], .sl .nil 0 [], .sl .nil 0 [], .sl .nil 0 [], .sl .nil 0 []]), oT 26 25 (.call 37 [.r 25]), oT 28 27 (.call 37 [.r 27]), oA 29 (.app 1 16 (.r 26) (.r 28)), oA 30 (.call 58 [.r 24, .r 29]), oN (.store 7 (.r 6) (.r 30))] [(1, 5), (1, 6), (1, 7), (3, 5), (4, 5), (4, 6), (4, 7), (4, 8)]) (.seq (.seq (.reg [oL 31 6 (some 7), oT 32 31 (.call 35 [.r 31]), oA 33 (.not (.r 32))]) (.cond (.r 33) (.seq (.reg [oA 34 (.build [.sl .nil 0 [], .sl .nil 0 [], .sl .nil 0 [], .sl .nil 0 [], .sl .nil 0 [], .sl .nil 0 [], .sl .nil 0 []] []), oN (.store 7 (.r 4) (.r 34)), oA 5 (.mov (kI 2))]) .ret) .skip)) (.seq (.reg [oL 35 6 (some 7), oN (.store 7 (.r 4) (.r 35)), oA 5 (.mov (kI 0))]) .ret))))))⟩
theorem c18 : cfunc Tryz.prog 18 = some ir18 := by kernel_rfl
theorem k18 : okIR (max 2 ir18.n) ir18.ir = true := by decide +kernel
theorem s_kbJoin (a b : Bas) (ha : a.ok) (hb : b.ok) (hfa : a.few) (hfb : b.few) (n1 : a.nms.cs.length ≤ 100000) (n2 : a.nms.rs.length ≤ 100000) (n3 : a.nms.is.length ≤ 100000) (n1' : b.nms.cs.length ≤ 100000) (n2' : b.nms.rs.length ≤ 100000) (n3' : b.nms.is.length ≤ 100000) (a1 : a.incls.length ≤ 100000) (a2 : a.roles.length ≤ 100000) (a3 : a.facts.length ≤ 100000) (a4 : a.links.length ≤ 100000)
  (b1 : b.incls.length ≤ 100000) (b2 : b.roles.length ≤ 100000) (b3 : b.facts.length ≤ 100000) (b4 : b.links.length ≤ 100000) (hxa : ∀ x ∈ a.axs, x.ok) (hxb : ∀ x ∈ b.axs, x.ok) (j : JH) :
  JC Tryz.prog (GG m) 18 [.agg a.enc, .agg b.enc] j (RET (.tup [.agg (jnB a b).enc, I64 (jnE a b)]) j) := by
 obtain ⟨tok, j1, hc, ht, hAll⟩ := s_kbAllE (G := GG m) a (by omega) (by omega) (by omega) (by omega) j
 obtain ⟨tok2, j2, f1, f2, kk⟩ := JAPP.ex (j := j1) hc.toP (fun t h => Nat.lt_of_lt_of_le h ht.tnext) b.axs.length
 have hn1 := ht.next
 have hn2 : j2.next = j.next := f2.next.trans hn1
 have ht2 : TokExt j j2 := ⟨hn2, fun o ho => (f2.get o (by rw [hn1]; exact ho)).trans (ht.get o ho), Nat.le_trans ht.tnext f2.tnext, fun t q => (f2.tok t q).trans (ht.tok t q)⟩
 have lA : a.axs.length ≤ 400000 := by rw [axs_count]; unfold Bas.count; omega
 have lB : b.axs.length ≤ 400000 := by rw [axs_count]; unfold Bas.count; omega
 have hO := fun jj => s_kbOf (G := GG m) a.nms (by omega) (by omega) (by omega) (a.axs ++ b.axs) (by rw [List.length_append]; omega) (fun x hx => (List.mem_append.1 hx).elim (hxa x) (hxb x)) jj
 rw [ofB_join] at hO
 have hj := joinB_ok ha hb a1 a2 a3 a4 b1 b2 b3 b4
 refine JC.run hmix c18 (by exact k18) ?_
 (try simp only[↓jr,jw,seval,ir18])
 refine JCs.ret (s_kbValid a ha hfa _) ?_
 (try simp only[↓jr,jw,seval])
 refine ww.intro (fun hva => ?_) (fun hva => ?_)
 ·(try simp only[↓jr,jw,seval])
  refine JCs.ret (s_kbValid b hb hfb _) ?_
  (try simp only[↓jr,jw,seval])
  refine ww.intro (fun hvb => ?_) (fun hvb => ?_)
  ·(try simp only[↓jr,jw,seval])
   refine JCs.ret (s_nEqK a.nms b.nms (by omega) (by omega) (by omega) (by omega) (by omega) (by omega) _) ?_
   (try simp only[↓jr,jw,seval])
   refine wq.intro (fun hnm => ?_) (fun hnm => ?_)
   ·(try simp only[↓jr,jw,seval])
    refine JDC.use (hAll _) ?_
    (try simp only[↓jr,jw,seval,hn1])
    refine JDC.use (s_kbAll b (by omega) (by omega) (by omega) (by omega) _) ?_
    (try simp only[↓jr,jw,seval,hn1])
    refine kk (by rw [axs_len, Nat.mul_one]) (by rw [axs_len, Nat.mul_one]) (axs_one _) (by omega) (by omega) ?_
    (try simp only[↓jr,jw,seval,hn2])
    refine JDC.use (JC.sub (args' := [.agg a.nms.enc, .sl .none (a.axs ++ b.axs).length (axs (a.axs ++ b.axs))]) ⟨SubB.pure (by simp only [AV.pure]; exact Nms.pur _), by rw [List.length_append, axs_append]; exact SubB.sl rfl (SubBs.pure (by rw [pures_append, axs_pur, axs_pur]; rfl)), True.intro⟩ (hO _)) ?_
    (try simp only[↓jr,jw,seval,hn2])
    refine JDRAW.oc (by (try simp only[↓jr,jw,seval,jq,qe2,qe3,ext_next,ext_tnext,pushTok_next,List.length_cons,List.length_nil,hn1,hn2]) <;> (repeat' (first | exact trivial | refine And.intro ?_ ?_ | exact Nat.le_refl _ | exact pr_tokx ht rfl | exact pr_tokp f2 rfl | (refine pr_extp ⟨_, rfl⟩ (some_lt ?_)) | (refine pr_extp ⟨_, rfl⟩ (fun _ q => by cases q)) | exact ht.tnext | exact f2.tnext | omega | (unfold pid; omega) ))) ?_
    (try simp only[↓jr,jw,seval,hn2])
    refine JCs.ret (s_kbValid (joinB a b) hj (joinB_few hfa hfb) _) ?_
    (try simp only[↓jr,jw,seval,hn2])
    refine ww.intro (fun hvj => ?_) (fun hvj => ?_)
    ·(try simp only[↓jr,jw,seval,hn2])
     refine JFIN.rb ?_ ht2
     unfold jnB jnE
     rw [if_pos ⟨hva, hvb⟩, if_pos hnm, if_pos hvj, if_pos ⟨hva, hvb⟩, if_pos hnm, if_pos hvj]
     exact SubB.tup ⟨Bas.sub, SubB.v, True.intro⟩
    ·(try simp only[↓jr,jw,seval,hn2])
     refine JFIN.rb ?_ ht2
     unfold jnB jnE
     rw [if_pos ⟨hva, hvb⟩, if_pos hnm, if_neg (by rw [hvj]; simp), if_pos ⟨hva, hvb⟩, if_pos hnm, if_neg (by rw [hvj]; simp)]
     exact SubB.tup ⟨SubB.agg noB_sub, SubB.v, True.intro⟩
   ·(try simp only[↓jr,jw,seval])
    refine JFIN.rb ?_
    unfold jnB jnE
    rw [if_pos ⟨hva, hvb⟩, if_neg hnm, if_pos ⟨hva, hvb⟩, if_neg hnm]
    exact SubB.tup ⟨SubB.agg noB_sub, SubB.v, True.intro⟩
  ·(try simp only[↓jr,jw,seval])
   refine JFIN.rb ?_
   unfold jnB jnE
   rw [if_neg (by rw [hvb]; simp), if_neg (by rw [hvb]; simp)]
   exact SubB.tup ⟨SubB.agg noB_sub, SubB.v, True.intro⟩
 ·(try simp only[↓jr,jw,seval])
  refine JFIN.rb ?_
  unfold jnB jnE
  rw [if_neg (by rw [hva]; simp), if_neg (by rw [hva]; simp)]
  exact SubB.tup ⟨SubB.agg noB_sub, SubB.v, True.intro⟩
end
end Go.Proofs.YtcjlpklgnknpgaaGreatDoor.Pg
