/-
  Axioms are added to a knowledge base: rows that grow side by side.
-/
import Derived.Test.YtcjlpklgnknpgaaGreatDoorWd
import Derived.Test.YtcjlpklgnknpgaaGreatDoorVb
set_option linter.unusedVariables false
set_option linter.unusedSimpArgs false
set_option maxRecDepth 100000
set_option maxHeartbeats 8000000
namespace Go.Proofs.YtcjlpklgnknpgaaGreatDoor.Pg
open Go
abbrev RT := Tok × Nat × Nat
def tkId : Tok → Option Nat
 | .own t _ _ => some t
 | _ => none
def Rws (S : Nat → Prop) (j : JH) (l : List RT) : Prop :=
 (∀ (i : Nat) (r : RT), l[i]? = some r → CanP S j r.1 r.2.1 r.2.2) ∧ ∀ (i i' : Nat) (r r' : RT) (t : Nat), i ≠ i' → l[i]? = some r → l[i']? = some r' → tkId r.1 = some t → tkId r'.1 ≠ some t
def SOth (S : Nat → Prop) (l : List RT) (i : Nat) : Nat → Prop := fun t => S t ∨ ∃ (i' : Nat) (r' : RT), i' ≠ i ∧ l[i']? = some r' ∧ tkId r'.1 = some t
theorem CanP.id {S : Nat → Prop} {j : JH} {tok : Tok} {es n t : Nat} (h : CanP S j tok es n) (e : tkId tok = some t) : tok = .own t 0 es ∧ t < j.tnext ∧ ¬ S t ∧ j.tok t = some n := by
 rcases h with ⟨rfl, _⟩ | ⟨t', h1, h2, rfl, h4⟩
 ·cases e
 ·cases e; exact ⟨rfl, h2, h1, h4⟩
theorem Rws.grow {S : Nat → Prop} {j : JH} {l : List RT} (h : Rws S j l) (hS : ∀ t, S t → t < j.tnext) {i : Nat} {tok : Tok} {es n : Nat} (hi : l[i]? = some (tok, es, n)) :
  CanP (SOth S l i) j tok es n ∧ (∀ t, SOth S l i t → t < j.tnext) ∧ ∀ {tok1 : Tok} {j1 : JH} {n1 : Nat}, CanP (SOth S l i) j1 tok1 es n1 → TokP (SOth S l i) j j1 → Rws S j1 (l.set i (tok1, es, n1)) ∧ TokP S j j1 := by
 refine ⟨?_, ?_, ?_⟩
 ·rcases h.1 i _ hi with q | ⟨t, h1, h2, h3, h4⟩
  ·exact .inl q
  ·refine .inr ⟨t, fun q => ?_, h2, h3, h4⟩
   rcases q with q | ⟨i', r', q1, q2, q3⟩
   ·exact h1 q
   ·exact h.2 i i' _ _ t (fun e => q1 e.symm) hi q2 (by rw [show tok = .own t 0 es from h3]; rfl) q3
 ·rintro t (q | ⟨i', r', q1, q2, q3⟩)
  ·exact hS t q
  ·exact ((h.1 i' r' q2).id q3).2.1
 ·intro tok1 j1 n1 hc ht
  have hlt : i < l.length := (List.getElem?_eq_some_iff.1 hi).1
  have hset : ∀ (k : Nat) (r : RT), (l.set i (tok1, es, n1))[k]? = some r → (k = i ∧ r = (tok1, es, n1)) ∨ (k ≠ i ∧ l[k]? = some r) := by
   intro k r e
   rw [List.getElem?_set] at e
   by_cases q : i = k
   ·subst q
    rw [if_pos rfl, if_pos hlt] at e
    exact .inl ⟨rfl, (Option.some.inj e).symm⟩
   ·rw [if_neg q] at e
    exact .inr ⟨fun e' => q e'.symm, e⟩
  refine ⟨⟨fun k r e => ?_, fun k k' r r' t hk e e' q q' => ?_⟩, ht.sub fun t q => .inl q⟩
  ·rcases hset k r e with ⟨rfl, rfl⟩ | ⟨hk, e⟩
   ·exact hc.low fun t q => .inl q
   ·exact (h.1 k r e).stay ht fun t q => .inr ⟨k, r, hk, e, by rw [q]; rfl⟩
  ·rcases hset k r e with ⟨a1, a2⟩ | ⟨hki, e2⟩ <;> rcases hset k' r' e' with ⟨b1, b2⟩ | ⟨hki', e3⟩
   ·exact hk (a1.trans b1.symm)
   ·rw [a2] at q; exact (hc.id q).2.2.1 (.inr ⟨k', r', hki', e3, q'⟩)
   ·rw [b2] at q'; exact (hc.id q').2.2.1 (.inr ⟨k, r, hki, e2, q⟩)
   ·exact h.2 k k' r r' t hk e2 e3 q q'
theorem Rws.nil {S : Nat → Prop} {j : JH} {l : List RT} (h : ∀ r ∈ l, r.1 = .nil ∧ r.2.2 = 0) : Rws S j l := by
 refine ⟨fun i r e => .inl (h r (List.mem_of_getElem? e)), fun i i' r r' t _ e _ q _ => ?_⟩
 rw [(h r (List.mem_of_getElem? e)).1] at q; cases q
theorem Rws.eq {S : Nat → Prop} {j j1 : JH} {l : List RT} (h : Rws S j l) (e1 : j1.tnext = j.tnext) (e2 : j1.tok = j.tok) : Rws S j1 l :=
 ⟨fun i r e => (h.1 i r e).eq e1 e2, h.2⟩
theorem SubB.grown {S : Nat → Prop} {j : JH} {tok : Tok} {es n no nt : Nat} {cs : List AV} (h : CanP S j tok es n) (hle : j.tnext ≤ nt) (p : AV.pures cs = true) : SubB no nt (.sl tok n cs) (.sl tok n cs) := by
 rcases h with ⟨rfl, rfl⟩ | ⟨t, h1, h2, rfl, h4⟩
 ·exact SubB.pure (by simp only [AV.pure]; exact p)
 ·exact SubB.own (Nat.lt_of_lt_of_le h2 hle) (SubBs.pure p)
theorem JDropH.setP {S : Nat → Prop} {j j1 : JH} {l : List AObj} {o : Nat} {x : AObj} (h : TokP S j j1) (ho : o < j.next) (hx : OSub j.next j1.tnext x x) : JDropH (Pg.ext j []) (Pg.ext (j1.set o x) l) (Pg.ext (j1.set o x) []) := by
 refine JDropH.next (TokExt.refl _) h.next h.tnext (fun p ob hp q => ?_) (by cases l <;> trivial)
 by_cases e : p = o
 ·subst e
  have : ob = x := by
   have : (j1.set p x).get p = some x := by show (if p = p then some x else j1.get p) = some x; rw [if_pos rfl]
   rw [this] at q; exact (Option.some.inj q).symm
  subst this
  exact .inr hx
 ·left
  have : (j1.set o x).get p = j1.get p := by show (if p = o then some x else j1.get p) = _; rw [if_neg e]
  rw [this, h.get p hp] at q; exact q
section
variable {G : Nat → Option (List AV)}
theorem Inc.one (x : Inc) : x.enc.all AV.one = true := by unfold Inc.enc; rw [List.all_append, Con.enc_eq, Con.enc_eq]; rfl
theorem Fac.one (x : Fac) : x.enc.all AV.one = true := by unfold Fac.enc; rw [Con.enc_eq]; rfl
theorem s_roleAdd {S : Nat → Prop} (x : RIn) (T : TypeId) (a b c d e f : AV) (tok : Tok) (n : Nat) (cs : List AV) (o : Nat) (j : JH) (ho : o < j.next) (hg : j.get o = some (.cells T [a, b, c, d, .sl tok n cs, e, f])) (hc : CanP S j tok 2 n) (hS : ∀ t, S t → t < j.tnext)
  (hcs : cs.length = n * 2) (hp : AV.pures cs = true) (hn : n ≤ 1000000) (hl : ∀ nt, j.tnext ≤ nt → SubBs j.next nt [a, b, c, d, e, f] [a, b, c, d, e, f]) :
  ∃ tok1 j1, CanP S j1 tok1 2 (n + 1) ∧ TokP S j j1 ∧ JC Tryz.prog G 117 [.agg x.enc, .ptr o 0] j (RET (.tup []) (Pg.ext (j1.set o (.cells T [a, b, c, d, .sl tok1 (n + 1) (cs ++ x.enc), e, f])) [])) := by
 obtain ⟨tok1, j1, h1, h2, k1⟩ := JAPP.ex (j := j.pushTok 1) hc.push (fun t q => Nat.lt_succ_of_lt (hS t q)) 1
 have h2' : TokP S j j1 := (TokP.push (TokP.refl hS) 1).trans ⟨h2.next, h2.get, h2.tnext, h2.tok, h2.lo⟩
 refine ⟨tok1, j1, h1, h2', ?_⟩
 have n2 := h2'.next
 have t2 := h2'.tnext
 have t2' : j.tnext + 1 ≤ j1.tnext := h2.tnext
 have hgx : ∀ l : List AObj, (Pg.ext j l).get o = some (.cells T [a, b, c, d, .sl tok n cs, e, f]) := fun l => by rw [ext_get_old ho]; exact hg
 have hg1 : ∀ l : List AObj, (Pg.ext j1 l).get o = some (.cells T [a, b, c, d, .sl tok n cs, e, f]) := fun l => by rw [ext_get_old (by rw [n2]; exact ho), h2'.get o ho]; exact hg
 have hs1 : ∀ (l : List AObj) (X : AObj), (Pg.ext j1 l).set o X = Pg.ext (j1.set o X) l := fun l X => ext_set_old (by rw [n2]; exact ho)
 have hone : x.enc.all AV.one = true := rfl
 refine JC.run hmix c117 (by exact k117) ?_
 (try simp only[↓jr,jw,seval,hgx,hg1,hs1,ir117])
 refine k1 hcs rfl hone (by omega) (by omega) ?_
 (try simp only[↓jr,jw,seval,hgx,hg1,hs1])
 refine JDRAW.oc (by (try simp only[↓jr,jw,seval,hgx,hg1,hs1,jq,qe2,qe3,ext_next,ext_tnext,pushTok_next,n2,List.length_cons,List.length_nil]) <;> (repeat' (first | exact trivial | refine And.intro ?_ ?_ | exact Nat.le_refl _ | assumption | exact uo1 | exact (fun h => absurd rfl h) | (refine pr_extp ⟨_, rfl⟩ (some_lt ?_)) | (refine pr_extp ⟨_, rfl⟩ (fun _ q => by cases q)) | exact uo2 rfl (hgx _) (hgx _) | exact (fun _ _ => ⟨uo2 rfl (hgx _) (hgx _), fun h => absurd rfl h, fun h => absurd rfl h⟩) | omega | (unfold pid; omega)))) ?_
 (try simp only[↓jr,jw,seval,hgx,hg1,hs1])
 obtain ⟨l0, l1, l2, l3, l4, l5, _⟩ := hl j1.tnext t2
 exact JFIN.of (JDropH.setP h2' ho ⟨rfl, ⟨l0, l1, l2, l3, SubB.grown h1 (Nat.le_refl _) (by rw [pures_append, hp, Bool.true_and]; exact RIn.pur x), l4, l5, True.intro⟩⟩) (SubB.pure rfl) ⟨rfl, rfl⟩
theorem s_linkAdd {S : Nat → Prop} (x : Lnk) (T : TypeId) (a b c d e f : AV) (tok : Tok) (n : Nat) (cs : List AV) (o : Nat) (j : JH) (ho : o < j.next) (hg : j.get o = some (.cells T [a, b, c, d, e, f, .sl tok n cs])) (hc : CanP S j tok 3 n) (hS : ∀ t, S t → t < j.tnext)
  (hcs : cs.length = n * 3) (hp : AV.pures cs = true) (hn : n ≤ 1000000) (hl : ∀ nt, j.tnext ≤ nt → SubBs j.next nt [a, b, c, d, e, f] [a, b, c, d, e, f]) :
  ∃ tok1 j1, CanP S j1 tok1 3 (n + 1) ∧ TokP S j j1 ∧ JC Tryz.prog G 125 [.agg x.enc, .ptr o 0] j (RET (.tup []) (Pg.ext (j1.set o (.cells T [a, b, c, d, e, f, .sl tok1 (n + 1) (cs ++ x.enc)])) [])) := by
 obtain ⟨tok1, j1, h1, h2, k1⟩ := JAPP.ex (j := j.pushTok 1) hc.push (fun t q => Nat.lt_succ_of_lt (hS t q)) 1
 have h2' : TokP S j j1 := (TokP.push (TokP.refl hS) 1).trans ⟨h2.next, h2.get, h2.tnext, h2.tok, h2.lo⟩
 refine ⟨tok1, j1, h1, h2', ?_⟩
 have n2 := h2'.next
 have t2 := h2'.tnext
 have t2' : j.tnext + 1 ≤ j1.tnext := h2.tnext
 have hgx : ∀ l : List AObj, (Pg.ext j l).get o = some (.cells T [a, b, c, d, e, f, .sl tok n cs]) := fun l => by rw [ext_get_old ho]; exact hg
 have hg1 : ∀ l : List AObj, (Pg.ext j1 l).get o = some (.cells T [a, b, c, d, e, f, .sl tok n cs]) := fun l => by rw [ext_get_old (by rw [n2]; exact ho), h2'.get o ho]; exact hg
 have hs1 : ∀ (l : List AObj) (X : AObj), (Pg.ext j1 l).set o X = Pg.ext (j1.set o X) l := fun l X => ext_set_old (by rw [n2]; exact ho)
 have hone : x.enc.all AV.one = true := rfl
 refine JC.run hmix c125 (by exact k125) ?_
 (try simp only[↓jr,jw,seval,hgx,hg1,hs1,ir125])
 refine k1 hcs rfl hone (by omega) (by omega) ?_
 (try simp only[↓jr,jw,seval,hgx,hg1,hs1])
 refine JDRAW.oc (by (try simp only[↓jr,jw,seval,hgx,hg1,hs1,jq,qe2,qe3,ext_next,ext_tnext,pushTok_next,n2,List.length_cons,List.length_nil]) <;> (repeat' (first | exact trivial | refine And.intro ?_ ?_ | exact Nat.le_refl _ | assumption | exact uo1 | exact (fun h => absurd rfl h) | (refine pr_extp ⟨_, rfl⟩ (some_lt ?_)) | (refine pr_extp ⟨_, rfl⟩ (fun _ q => by cases q)) | exact uo2 rfl (hgx _) (hgx _) | exact (fun _ _ => ⟨uo2 rfl (hgx _) (hgx _), fun h => absurd rfl h, fun h => absurd rfl h⟩) | omega | (unfold pid; omega)))) ?_
 (try simp only[↓jr,jw,seval,hgx,hg1,hs1])
 obtain ⟨l0, l1, l2, l3, l4, l5, _⟩ := hl j1.tnext t2
 exact JFIN.of (JDropH.setP h2' ho ⟨rfl, ⟨l0, l1, l2, l3, l4, l5, SubB.grown h1 (Nat.le_refl _) (by rw [pures_append, hp, Bool.true_and]; exact Lnk.pur x), True.intro⟩⟩) (SubB.pure rfl) ⟨rfl, rfl⟩
theorem s_factAdd {S : Nat → Prop} (x : Fac) (hx : x.con.ok) (hz : x.con.nodes ≤ 1000000) (T : TypeId) (a b c d e f : AV) (tok : Tok) (n : Nat) (cs : List AV) (o : Nat) (j : JH) (ho : o < j.next) (hg : j.get o = some (.cells T [a, b, c, d, e, .sl tok n cs, f])) (hc : CanP S j tok 4 n) (hS : ∀ t, S t → t < j.tnext)
  (hcs : cs.length = n * 4) (hp : AV.pures cs = true) (hn : n ≤ 1000000) (hl : ∀ nt, j.tnext ≤ nt → SubBs j.next nt [a, b, c, d, e, f] [a, b, c, d, e, f]) :
  ∃ tok1 j1, CanP S j1 tok1 4 (n + 1) ∧ TokP S j j1 ∧ JC Tryz.prog G 130 [.agg x.enc, .ptr o 0] j (RET (.tup []) (Pg.ext (j1.set o (.cells T [a, b, c, d, e, .sl tok1 (n + 1) (cs ++ x.enc), f])) [])) := by
 obtain ⟨tok1, j1, h1, h2, k1⟩ := JAPP.ex (j := j.pushTok 1) hc.push (fun t q => Nat.lt_succ_of_lt (hS t q)) 1
 have h2' : TokP S j j1 := (TokP.push (TokP.refl hS) 1).trans ⟨h2.next, h2.get, h2.tnext, h2.tok, h2.lo⟩
 refine ⟨tok1, j1, h1, h2', ?_⟩
 have n2 := h2'.next
 have t2 := h2'.tnext
 have t2' : j.tnext + 1 ≤ j1.tnext := h2.tnext
 have hgx : ∀ l : List AObj, (Pg.ext j l).get o = some (.cells T [a, b, c, d, e, .sl tok n cs, f]) := fun l => by rw [ext_get_old ho]; exact hg
 have hg1 : ∀ l : List AObj, (Pg.ext j1 l).get o = some (.cells T [a, b, c, d, e, .sl tok n cs, f]) := fun l => by rw [ext_get_old (by rw [n2]; exact ho), h2'.get o ho]; exact hg
 have hs1 : ∀ (l : List AObj) (X : AObj), (Pg.ext j1 l).set o X = Pg.ext (j1.set o X) l := fun l X => ext_set_old (by rw [n2]; exact ho)
 have hone : x.enc.all AV.one = true := Fac.one x
 refine JC.run hmix c130 (by exact k130) ?_
 (try simp only[↓jr,jw,seval,hgx,hg1,hs1,ir130])
 refine JDC.use (s_Copied x.con _ hx hz) ?_
 (try simp only[↓jr,jw,seval,hgx,hg1,hs1])
 refine k1 hcs (Fac.len x) hone (by omega) (by omega) ?_
 (try simp only[↓jr,jw,seval,hgx,hg1,hs1])
 refine JDRAW.oc (by (try simp only[↓jr,jw,seval,hgx,hg1,hs1,jq,qe2,qe3,ext_next,ext_tnext,pushTok_next,n2,List.length_cons,List.length_nil]) <;> (repeat' (first | exact trivial | refine And.intro ?_ ?_ | exact Nat.le_refl _ | assumption | exact uo1 | exact (fun h => absurd rfl h) | (refine pr_extp ⟨_, rfl⟩ (some_lt ?_)) | (refine pr_extp ⟨_, rfl⟩ (fun _ q => by cases q)) | exact uo2 rfl (hgx _) (hgx _) | exact (fun _ _ => ⟨uo2 rfl (hgx _) (hgx _), fun h => absurd rfl h, fun h => absurd rfl h⟩) | omega | (unfold pid; omega)))) ?_
 (try simp only[↓jr,jw,seval,hgx,hg1,hs1])
 obtain ⟨l0, l1, l2, l3, l4, l5, _⟩ := hl j1.tnext t2
 exact JFIN.of (JDropH.setP h2' ho ⟨rfl, ⟨l0, l1, l2, l3, l4, SubB.grown h1 (Nat.le_refl _) (by rw [pures_append, hp, Bool.true_and]; exact Fac.pur x), l5, True.intro⟩⟩) (SubB.pure rfl) ⟨rfl, rfl⟩
theorem s_inclAdd {S : Nat → Prop} (x : Inc) (hx : x.sub.ok ∧ x.sup.ok) (hz : x.sub.nodes ≤ 1000000 ∧ x.sup.nodes ≤ 1000000) (T : TypeId) (a b c d e f : AV) (tok : Tok) (n : Nat) (cs : List AV) (o : Nat) (j : JH) (ho : o < j.next) (hg : j.get o = some (.cells T [a, b, c, .sl tok n cs, d, e, f])) (hc : CanP S j tok 6 n) (hS : ∀ t, S t → t < j.tnext)
  (hcs : cs.length = n * 6) (hp : AV.pures cs = true) (hn : n ≤ 1000000) (hl : ∀ nt, j.tnext ≤ nt → SubBs j.next nt [a, b, c, d, e, f] [a, b, c, d, e, f]) :
  ∃ tok1 j1, CanP S j1 tok1 6 (n + 1) ∧ TokP S j j1 ∧ JC Tryz.prog G 132 [.agg x.enc, .ptr o 0] j (RET (.tup []) (Pg.ext (j1.set o (.cells T [a, b, c, .sl tok1 (n + 1) (cs ++ x.enc), d, e, f])) [])) := by
 obtain ⟨tok1, j1, h1, h2, k1⟩ := JAPP.ex (j := j.pushTok 1) hc.push (fun t q => Nat.lt_succ_of_lt (hS t q)) 1
 have h2' : TokP S j j1 := (TokP.push (TokP.refl hS) 1).trans ⟨h2.next, h2.get, h2.tnext, h2.tok, h2.lo⟩
 refine ⟨tok1, j1, h1, h2', ?_⟩
 have n2 := h2'.next
 have t2 := h2'.tnext
 have t2' : j.tnext + 1 ≤ j1.tnext := h2.tnext
 have hgx : ∀ l : List AObj, (Pg.ext j l).get o = some (.cells T [a, b, c, .sl tok n cs, d, e, f]) := fun l => by rw [ext_get_old ho]; exact hg
 have hg1 : ∀ l : List AObj, (Pg.ext j1 l).get o = some (.cells T [a, b, c, .sl tok n cs, d, e, f]) := fun l => by rw [ext_get_old (by rw [n2]; exact ho), h2'.get o ho]; exact hg
 have hs1 : ∀ (l : List AObj) (X : AObj), (Pg.ext j1 l).set o X = Pg.ext (j1.set o X) l := fun l X => ext_set_old (by rw [n2]; exact ho)
 have hone : x.enc.all AV.one = true := Inc.one x
 refine JC.run hmix c132 (by exact k132) ?_
 (try simp only[↓jr,jw,seval,hgx,hg1,hs1,ir132])
 refine JDC.use (s_Copied x.sub _ hx.1 hz.1) ?_
 (try simp only[↓jr,jw,seval,hgx,hg1,hs1])
 refine JDC.use (s_Copied x.sup _ hx.2 hz.2) ?_
 (try simp only[↓jr,jw,seval,hgx,hg1,hs1])
 refine k1 hcs (Inc.len x) hone (by omega) (by omega) ?_
 (try simp only[↓jr,jw,seval,hgx,hg1,hs1])
 refine JDRAW.oc (by (try simp only[↓jr,jw,seval,hgx,hg1,hs1,jq,qe2,qe3,ext_next,ext_tnext,pushTok_next,n2,List.length_cons,List.length_nil]) <;> (repeat' (first | exact trivial | refine And.intro ?_ ?_ | exact Nat.le_refl _ | assumption | exact uo1 | exact (fun h => absurd rfl h) | (refine pr_extp ⟨_, rfl⟩ (some_lt ?_)) | (refine pr_extp ⟨_, rfl⟩ (fun _ q => by cases q)) | exact uo2 rfl (hgx _) (hgx _) | exact (fun _ _ => ⟨uo2 rfl (hgx _) (hgx _), fun h => absurd rfl h, fun h => absurd rfl h⟩) | omega | (unfold pid; omega)))) ?_
 (try simp only[↓jr,jw,seval,hgx,hg1,hs1])
 obtain ⟨l0, l1, l2, l3, l4, l5, _⟩ := hl j1.tnext t2
 exact JFIN.of (JDropH.setP h2' ho ⟨rfl, ⟨l0, l1, l2, SubB.grown h1 (Nat.le_refl _) (by rw [pures_append, hp, Bool.true_and]; exact Inc.pur x), l3, l4, l5, True.intro⟩⟩) (SubB.pure rfl) ⟨rfl, rfl⟩
end
end Go.Proofs.YtcjlpklgnknpgaaGreatDoor.Pg
