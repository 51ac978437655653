/-
  All axioms, as a row that may grow.
-/
import Derived.Test.YtcjlpklgnknpgaaGreatDoorWv
set_option linter.unusedVariables false
set_option linter.unusedSimpArgs false
set_option maxRecDepth 100000
set_option maxHeartbeats 8000000
namespace Go.Proofs.YtcjlpklgnknpgaaGreatDoor.Pg
open Go
section
variable {P : Program} {G : Nat → Option (List AV)}
theorem Cells.pureC {μ μ' : Mu} {w : World} (hc : ∀ b off, μ.com b off → μ'.com b off) {x : List AV} {b off : Nat} (p : AV.pures x = true) (h : Cells μ w x b off) : Cells μ' w x b off := by
 let μ0 : Mu := { obj := fun _ => none, com := μ.com, tok := fun _ => none }
 have hr : Restr 0 0 μ μ0 := ⟨fun o => by simp [μ0], fun t => by simp [μ0], fun _ _ => Iff.rfl⟩
 exact Cells.dom (μ0 := μ0) (fun o q => absurd rfl q) (fun t q => absurd rfl q) hc x b off b off (Cells.restr hr x b off p h) h
theorem own_step {B0 : Nat} {hs h' : AH} {μ μ' : Mu} {w w' : World} {t n : Nat} (r : R B0 G μ hs w) (st : Step B0 G μ hs w μ' h' w') (hob : ∀ o, o < hs.next → h'.get o = hs.get o) (htk : ∀ x, x < hs.tnext → h'.tok x = hs.tok x) (hge : hs.tnext ≤ t) (hF : h'.tok t = some n) :
  ∃ μ2 : Mu, (∀ b off, μ'.com b off → μ2.com b off) ∧ μ2.tok hs.tnext = μ'.tok t ∧ Step B0 G μ hs w μ2 (hs.pushTok n) w' := by
 let μ2 : Mu := { obj := fun o => if o < hs.next then μ'.obj o else none, com := μ'.com, tok := fun x => if x < hs.tnext then μ'.tok x else if x = hs.tnext then μ'.tok t else none }
 have ho2 : ∀ o b, μ2.obj o = some b → o < hs.next ∧ μ'.obj o = some b := fun o b e => by
  simp only [μ2] at e; split at e
  ·exact ⟨‹_›, e⟩
  ·cases e
 have ht2 : ∀ x i, μ2.tok x = some i → (x < hs.tnext ∧ μ'.tok x = some i) ∨ (x = hs.tnext ∧ μ'.tok t = some i) := fun x i e => by
  simp only [μ2] at e; split at e
  ·exact .inl ⟨‹_›, e⟩
  ·split at e
   ·exact .inr ⟨‹_›, e⟩
   ·cases e
 have hold : ∀ o, μ.obj o ≠ none → o < hs.next := fun o ho => by
  rcases Nat.lt_or_ge o hs.next with q | q
  ·exact q
  ·exact absurd (r.next o q) ho
 have holdt : ∀ o, μ.tok o ≠ none → o < hs.tnext := fun o ho => by
  rcases Nat.lt_or_ge o hs.tnext with q | q
  ·exact q
  ·exact absurd (r.tnext o q) ho
 have hobj : ∀ o, μ.obj o ≠ none → μ2.obj o = μ'.obj o := fun o ho => by simp only [μ2]; rw [if_pos (hold o ho)]
 have htok : ∀ o, μ.tok o ≠ none → μ2.tok o = μ'.tok o := fun o ho => by simp only [μ2]; rw [if_pos (holdt o ho)]
 have hex : ∀ x i, μ2.tok x = some i → ∃ x', μ'.tok x' = some i := fun x i e => by
  rcases ht2 x i e with ⟨_, e⟩ | ⟨_, e⟩
  ·exact ⟨_, e⟩
  ·exact ⟨_, e⟩
 refine ⟨μ2, fun b off q => q, by simp [μ2], ⟨⟨fun o b e => ?_, fun b off e => st.le.com b off e, fun x i e => ?_⟩, ?_, st.size, st.keep, st.com, Nat.le_refl _, by simp [AH.pushTok], fun o b e => st.newo o b (ho2 o b e).2, fun x i e => ?_, fun b off e => st.newc b off e, st.env⟩⟩
 ·rw [hobj o (by rw [e]; simp)]; exact st.le.obj o b e
 ·rw [htok x (by rw [e]; simp)]; exact st.le.tok x i e
 ·refine ⟨st.r.base, fun o b e => ?_, fun o o' b e e' => st.r.inj o o' b (ho2 o b e).2 (ho2 o' b e').2, fun b off e => ?_, fun x i e => ?_, fun x x' i i' e e' hb => ?_,
   fun x i o e e' => ?_, fun o ho => ?_, fun x hx => ?_, fun g cs e => ?_⟩
  ·obtain ⟨hlt, e1⟩ := ho2 o b e
   obtain ⟨hb, ob, hg, hor⟩ := st.r.obj o b e1
   have e0 : μ.obj o = some b := by
    rcases st.newo o b e1 with q | q
    ·exact q
    ·omega
   obtain ⟨_, ob0, hg0, hor0⟩ := r.obj o b e0
   have hg2 : hs.get o = some ob := (hob o hlt).symm.trans hg
   rw [hg2] at hg0; cases hg0
   exact ⟨hb, ob, hg2, ORel.dom hobj htok (fun _ _ q => q) hor0 hor⟩
  ·obtain ⟨h1, h2, h3⟩ := st.r.com b off e
   exact ⟨fun o q => h1 o (ho2 o b q).2, fun x i q => by obtain ⟨x', q'⟩ := hex x i q; exact h2 x' i q', h3⟩
  ·rcases ht2 x i e with ⟨hlt, e1⟩ | ⟨rfl, e1⟩
   ·obtain ⟨h1, h2, h3⟩ := st.r.tok x i e1
    refine ⟨h1, ?_, h3⟩
    have : (hs.pushTok n).tok x = hs.tok x := by
     show (hs.toks.set hs.tnext n).get x = _
     rw [T.get_set, if_neg (by omega)]; rfl
    rw [this, ← htk x hlt]; exact h2
   ·obtain ⟨h1, h2, h3⟩ := st.r.tok t i e1
    refine ⟨h1, ?_, h3⟩
    have : (hs.pushTok n).tok hs.tnext = some n := by
     show (hs.toks.set hs.tnext n).get hs.tnext = _
     rw [T.get_set, if_pos rfl]
    rw [this, ← hF]; exact h2
  ·rcases ht2 x i e with ⟨h1, e1⟩ | ⟨rfl, e1⟩ <;> rcases ht2 x' i' e' with ⟨h1', e1'⟩ | ⟨rfl, e1'⟩
   ·exact st.r.tinj x x' i i' e1 e1' hb
   ·have := st.r.tinj x t i i' e1 e1' hb; omega
   ·have := st.r.tinj t x' i i' e1 e1' hb; omega
   ·rfl
  ·obtain ⟨x', q'⟩ := hex x i e
   exact st.r.sep x' i o q' (ho2 o i.b e').2
  ·simp only [μ2]; rw [if_neg (by have : hs.next ≤ o := ho; omega)]
  ·have : hs.tnext + 1 ≤ x := hx
   simp only [μ2]; rw [if_neg (by omega), if_neg (by omega)]
  ·exact Cells.dom hobj htok (fun _ _ q => q) _ _ _ _ _ (r.glob g cs e) (st.r.glob g cs e)
 ·rcases ht2 x i e with ⟨hlt, e1⟩ | ⟨rfl, e1⟩
  ·exact st.newt x i e1
  ·rcases st.newt t i e1 with ⟨q, h1, _⟩ | ⟨_, q⟩
   ·rw [r.tnext t hge] at h1; cases h1
   ·exact .inr ⟨.inl (Nat.le_refl _), q⟩
theorem JC.own {f : FuncId} {args : List AV} {j : JH} {n es : Nat} {cs : List AV} (p : AV.pures cs = true)
  (c : JC P G f args j fun o j' => ∃ t, o = .ret (.sl (.own t 0 es) n cs) ∧ New j j' ∧ j.tnext ≤ t ∧ j'.tok t = some n) : JC P G f args j (RET (.sl (.own j.tnext 0 es) n cs) (j.pushTok n)) := by
 rintro hh rfl B0 μ w vs r hv
 refine (c hh rfl B0 μ w vs r hv).mono ?_
 rintro e w' ⟨o, h', ⟨t, rfl, hN, hge, hF⟩, μ', st, u, rfl, hu⟩
 obtain ⟨μ2, hc, ht, st2⟩ := own_step r st hN.get hN.tok hge hF
 refine ⟨.ret (.sl (.own hh.tnext 0 es) n cs), _, ⟨rfl, AH.j_pushTok _ _⟩, μ2, st2, u, rfl, ?_⟩
 simp only [V] at hu ⊢
 obtain ⟨b, off, cp, i, rfl, hn, hcs, hti, hrest⟩ := hu
 exact ⟨b, off, cp, i, rfl, hn, Cells.pureC hc p hcs, ht.trans hti, hrest⟩
end
section
variable {m : GM} {G : Nat → Option (List AV)}
theorem s_kbAllQ (b : Bas) (hi : b.incls.length ≤ 1000000) (hr : b.roles.length ≤ 1000000) (hf : b.facts.length ≤ 1000000) (hl : b.links.length ≤ 1000000) (j : JH) : JC Tryz.prog G 37 [.agg b.enc] j (fun o j' => ∃ tok j1, CanApp j j1 tok 1 b.axs.length ∧ (b.axs = [] → tok = .nil) ∧ TokExt j j1 ∧ o = .ret (.sl tok b.axs.length (axs b.axs)) ∧ j' = Pg.ext j1 []) :=
 s_kbAllG b hi hr hf hl j fun tok jx l hc hz ht => JFIN.of (JDropH.next (l := []) (n := []) (TokExt.refl jx) ht.next ht.tnext (fun o ob ho q => .inl (by rw [← ht.get o ho]; exact q)) True.intro) (SubB.can hc (axs_pur _)) ⟨tok, jx, hc, hz, ht, rfl, rfl⟩
theorem nx0 {a b : JH} (h : a.next = b.next) : b.next ≤ (Pg.ext a []).next := by
 rw [ext_next, h]; unfold pid; simp
theorem s_kbAllE (b : Bas) (hi : b.incls.length ≤ 1000000) (hr : b.roles.length ≤ 1000000) (hf : b.facts.length ≤ 1000000) (hl : b.links.length ≤ 1000000) (j : JH) :
  ∃ tok j1, CanApp j j1 tok 1 b.axs.length ∧ TokExt j j1 ∧ ∀ objs : List AObj, JC Tryz.prog G 37 [.agg b.enc] (Pg.ext j objs) (RET (.sl tok b.axs.length (axs b.axs)) (Pg.ext j1 objs)) := by
 by_cases he : b.axs = []
 ·have e0 : b.axs.length = 0 := by rw [he]; rfl
  rw [e0, he]
  refine ⟨.nil, j, CanApp.nil, TokExt.refl j, fun objs => ?_⟩
  have := JC.pureRet (P := Tryz.prog) (G := G) (f := 37) (args := [.agg b.enc]) (j := Pg.ext j objs) (x := .sl .nil 0 []) rfl (JC.mono (s_kbAllQ b hi hr hf hl (Pg.ext j objs)) (fun o j' ⟨tok, j1, hc, hz, ht, e1, e2⟩ => by
   rw [e0, he, hz he] at e1
   subst e2
   exact ⟨e1, ⟨nx0 ht.next, ht.tnext, fun o ho => by rw [ext_get_old (by rw [ht.next]; exact ho)]; exact ht.get o ho, fun t q => ht.tok t q⟩⟩))
  rw [ext_ext, List.append_nil] at this
  exact this
 ·have e0 : b.axs.length ≠ 0 := fun e => he (List.eq_nil_of_length_eq_zero e)
  refine ⟨.own j.tnext 0 1, j.pushTok b.axs.length, .inr ⟨j.tnext, Nat.le_refl _, Nat.lt_succ_self _, rfl, by show (if j.tnext = j.tnext then some b.axs.length else _) = _; rw [if_pos rfl]⟩, (TokExt.refl j).push _, fun objs => ?_⟩
  exact JC.own (P := Tryz.prog) (G := G) (f := 37) (args := [.agg b.enc]) (j := Pg.ext j objs) (n := b.axs.length) (es := 1) (cs := axs b.axs) (axs_pur _) (JC.mono (s_kbAllQ b hi hr hf hl (Pg.ext j objs)) (fun o j' ⟨tok, j1, hc, hz, ht, e1, e2⟩ => by
   rcases hc with ⟨_, q⟩ | ⟨t, h1, h2, rfl, h4⟩
   ·exact absurd q e0
   subst e2
   exact ⟨t, e1, ⟨nx0 ht.next, ht.tnext, fun o ho => by rw [ext_get_old (by rw [ht.next]; exact ho)]; exact ht.get o ho, fun t q => ht.tok t q⟩, h1, h4⟩))
end
end Go.Proofs.YtcjlpklgnknpgaaGreatDoor.Pg
