/-
  Pg, part 15: what may be said less, loops, ends of calls.
-/
import Derived.Test.YtcjlpklgnknpgaaGreatDoorPgK
set_option linter.unusedVariables false
set_option linter.unusedSimpArgs false
set_option linter.unusedSectionVars false
set_option linter.defProp false
namespace Go.Proofs.YtcjlpklgnknpgaaGreatDoor.Pg
open Go
section
mutual
def AV.pure : AV → Bool
 | .v _ | .any => true
 | .ptr _ _ | .arr _ _ _ | .mp _ | .yld _ => false
 | .cptr cs => AV.pures cs
 | .sl .nil _ cs => AV.pures cs
 | .sl .none _ cs => AV.pures cs
 | .sl (.own _ _ _) _ cs => false
 | .fn _ a b => AV.pures a && AV.pures b
 | .ifc _ x => AV.pure x
 | .agg cs => AV.pures cs
 | .tup cs => AV.pures cs
def AV.pures : List AV → Bool
 | [] => true
 | x :: xs => AV.pure x && AV.pures xs
end
theorem pures_append : ∀ (xs ys : List AV), AV.pures (xs ++ ys) = (AV.pures xs && AV.pures ys)
 | [], ys => by simp [AV.pures]
 | x :: xs, ys => by simp [AV.pures, pures_append xs ys, Bool.and_assoc]
mutual
theorem V.restr {no nt : Nat} {μ μ' : Mu} {w : World} (hr : Restr no nt μ μ') : ∀ (x : AV) (u : Value), AV.pure x = true → V μ w x u → V μ' w x u
 | .v _, _, _, h => by simp only [V] at h ⊢; exact h
 | .any, _, _, _ => by simp only [V]
 | .ptr _ _, _, p, _ => by simp [AV.pure] at p
 | .arr _ _ _, _, p, _ => by simp [AV.pure] at p
 | .mp _, _, p, _ => by simp [AV.pure] at p
 | .yld _, _, p, _ => by simp [AV.pure] at p
 | .cptr cs, _, p, h => by
  simp only [V] at h ⊢; obtain ⟨b, off, e, hc⟩ := h
  exact ⟨b, off, e, Cells.restr hr cs b off (by simpa [AV.pure] using p) hc⟩
 | .sl .nil _ cs, _, p, h => by simp only [V] at h ⊢; exact h
 | .sl .none _ cs, _, p, h => by
  simp only [V] at h ⊢
  obtain ⟨A, c, e, hn, hc⟩ := h
  exact ⟨A, c, e, hn, fun hne => by obtain ⟨b, off, eA, hcs⟩ := hc hne; exact ⟨b, off, eA, Cells.restr hr cs b off (by simpa [AV.pure] using p) hcs⟩⟩
 | .sl (.own _ _ _) _ _, _, p, _ => by simp [AV.pure] at p
 | .fn f a b, _, p, h => by
  simp only [AV.pure, Bool.and_eq_true] at p
  simp only [V] at h ⊢; obtain ⟨a', b', e, h1, h2⟩ := h; exact ⟨a', b', e, Vs.restr hr a _ p.1 h1, Vs.restr hr b _ p.2 h2⟩
 | .ifc t x, _, p, h => by simp only [AV.pure] at p; simp only [V] at h ⊢; obtain ⟨y, e, hy⟩ := h; exact ⟨y, e, V.restr hr x y p hy⟩
 | .agg cs, _, p, h => by simp only [AV.pure] at p; simp only [V] at h ⊢; obtain ⟨us, e, hy⟩ := h; exact ⟨us, e, Vs.restr hr cs _ p hy⟩
 | .tup cs, _, p, h => by simp only [AV.pure] at p; simp only [V] at h ⊢; obtain ⟨us, e, hy⟩ := h; exact ⟨us, e, Vs.restr hr cs _ p hy⟩
theorem Vs.restr {no nt : Nat} {μ μ' : Mu} {w : World} (hr : Restr no nt μ μ') : ∀ (xs : List AV) (us : List Value), AV.pures xs = true → Vs μ w xs us → Vs μ' w xs us
 | [], _, _, h => by simp only [Vs] at h ⊢; exact h
 | x :: xs, _, p, h => by
  simp only [AV.pures, Bool.and_eq_true] at p
  simp only [Vs] at h ⊢
  obtain ⟨u, us', e, h1, h2⟩ := h
  exact ⟨u, us', e, V.restr hr x u p.1 h1, Vs.restr hr xs us' p.2 h2⟩
theorem Cells.restr {no nt : Nat} {μ μ' : Mu} {w : World} (hr : Restr no nt μ μ') : ∀ (xs : List AV) (b off : Nat), AV.pures xs = true → Cells μ w xs b off → Cells μ' w xs b off
 | [], _, _, _, _ => by simp only [Cells]
 | x :: xs, b, off, p, h => by
  simp only [AV.pures, Bool.and_eq_true] at p
  simp only [Cells] at h ⊢
  obtain ⟨hc, ⟨u, hu, hx⟩, hxs⟩ := h
  exact ⟨(hr.com _ _).2 hc, ⟨u, hu, V.restr hr x u p.1 hx⟩, Cells.restr hr xs b (off + 1) p.2 hxs⟩
end
section
variable {no nt : Nat}
theorem SubB.pure {x : AV} (p : x.pure = true) : SubB no nt x x := fun _ _ _ u hr h => V.restr hr x u p h
theorem SubBs.pure : ∀ {xs : List AV}, AV.pures xs = true → SubBs no nt xs xs
 | [], _ => trivial
 | x :: xs, p => by simp only [AV.pures, Bool.and_eq_true] at p; exact ⟨SubB.pure p.1, SubBs.pure p.2⟩
theorem SubB.any {x : AV} : SubB no nt x .any := fun _ _ _ _ _ _ => by simp only [V]
theorem SubB.v {x : Value} : SubB no nt (.v x) (.v x) := SubB.pure rfl
theorem SubB.ptr {o off : Nat} (h : o < no) : SubB no nt (.ptr o off) (.ptr o off) := fun μ μ' w u hr hv => by
 simp only [V] at hv ⊢; obtain ⟨b, e, q⟩ := hv; exact ⟨b, by rw [hr.obj, if_pos h]; exact e, q⟩
theorem SubB.mp {o : Nat} (h : o < no) : SubB no nt (.mp o) (.mp o) := fun μ μ' w u hr hv => by
 simp only [V] at hv ⊢; obtain ⟨b, e, q⟩ := hv; exact ⟨b, by rw [hr.obj, if_pos h]; exact e, q⟩
theorem SubB.own {t k s n : Nat} {cs : List AV} (h : t < nt) (p : SubBs no nt cs cs) : SubB no nt (.sl (.own t k s) n cs) (.sl (.own t k s) n cs) := fun μ μ' w u hr hv => by
 simp only [V] at hv ⊢
 obtain ⟨b, off, c, i, e, hn, hc, ht, hrest⟩ := hv
 exact ⟨b, off, c, i, e, hn, p.Cells hr hc, by rw [hr.tok, if_pos h]; exact ht, hrest⟩
theorem SubB.sl {tok : Tok} {n m : Nat} {cs ds : List AV} (e : n = m) (p : SubBs no nt cs ds) : SubB no nt (.sl tok n cs) (.sl .none m ds) := fun μ μ' w u hr hv => by
 subst e
 cases tok with
 | nil =>
  simp only [V] at hv ⊢
  obtain ⟨rfl, rfl, rfl⟩ := hv
  cases ds with
  | nil => exact ⟨none, 0, rfl, Nat.le_refl _, fun h => (h rfl).elim⟩
  | cons _ _ => exact p.elim
 | none =>
  simp only [V] at hv ⊢
  obtain ⟨A, c, e, hn, hc⟩ := hv
  refine ⟨A, c, e, hn, fun hne => ?_⟩
  cases cs with
  | nil => cases ds with
   | nil => exact (hne rfl).elim
   | cons _ _ => exact p.elim
  | cons x xs =>
   obtain ⟨b, off, eA, hcs⟩ := hc (by simp)
   exact ⟨b, off, eA, p.Cells hr hcs⟩
 | own t k s =>
  simp only [V] at hv ⊢
  obtain ⟨b, off, c, i, e, hn, hc, ht, hrest⟩ := hv
  exact ⟨_, c, e, hn, fun _ => ⟨b, off, rfl, p.Cells hr hc⟩⟩
theorem SubB.agg {xs ys : List AV} (p : SubBs no nt xs ys) : SubB no nt (.agg xs) (.agg ys) := fun μ μ' w u hr hv => by
 simp only [V] at hv ⊢; obtain ⟨us, e, h⟩ := hv; exact ⟨us, e, p.Vs hr h⟩
theorem SubB.tup {xs ys : List AV} (p : SubBs no nt xs ys) : SubB no nt (.tup xs) (.tup ys) := fun μ μ' w u hr hv => by
 simp only [V] at hv ⊢; obtain ⟨us, e, h⟩ := hv; exact ⟨us, e, p.Vs hr h⟩
theorem SubB.fn {f : Fn} {a b c d : List AV} (p : SubBs no nt a c) (q : SubBs no nt b d) : SubB no nt (.fn f a b) (.fn f c d) := fun μ μ' w u hr hv => by
 simp only [V] at hv ⊢; obtain ⟨x, y, e, h1, h2⟩ := hv; exact ⟨x, y, e, p.Vs hr h1, q.Vs hr h2⟩
theorem SubBs.append : ∀ {xs ys us vs : List AV}, SubBs no nt xs us → SubBs no nt ys vs → SubBs no nt (xs ++ ys) (us ++ vs)
 | [], _, [], _, _, k => k
 | x :: xs, _, u :: us, _, h, k => ⟨h.1, SubBs.append h.2 k⟩
 | [], _, _ :: _, _, h, _ => h.elim
 | _ :: _, _, [], _, h, _ => h.elim
end
theorem JDropH.refl (j : JH) : JDropH j j j := ⟨Nat.le_refl _, Nat.le_refl _, Nat.le_refl _, Nat.le_refl _, fun o ob h e => .inl ⟨h, e, e⟩, fun _ _ => rfl⟩
structure TokExt (j j1 : JH) : Prop where
 next : j1.next = j.next
 get : ∀ o, o < j.next → j1.get o = j.get o
 tnext : j.tnext ≤ j1.tnext
 tok : ∀ t, t < j.tnext → j1.tok t = j.tok t
theorem TokExt.refl (j : JH) : TokExt j j := ⟨rfl, fun _ _ => rfl, Nat.le_refl _, fun _ _ => rfl⟩
theorem TokExt.trans {a b c : JH} (h : TokExt a b) (k : TokExt b c) : TokExt a c :=
 ⟨k.next.trans h.next, fun o ho => (k.get o (by rw [h.next]; exact ho)).trans (h.get o ho), Nat.le_trans h.tnext k.tnext, fun t ht => (k.tok t (Nat.lt_of_lt_of_le ht h.tnext)).trans (h.tok t ht)⟩
theorem TokExt.push {j j1 : JH} (h : TokExt j j1) (F : Nat) : TokExt j (j1.pushTok F) :=
 ⟨h.next, h.get, Nat.le_trans h.tnext (Nat.le_succ _), fun t ht => by
  show (if t = j1.tnext then some F else j1.tok t) = _
  rw [if_neg (by have := h.tnext; omega)]; exact h.tok t ht⟩
theorem TokExt.setT {j j1 : JH} (h : TokExt j j1) {t : Nat} (ht : j.tnext ≤ t) (F : Nat) : TokExt j (j1.setTok t F) :=
 ⟨h.next, h.get, h.tnext, fun p hp => by
  show (if p = t then some F else j1.tok p) = _
  rw [if_neg (by omega)]; exact h.tok p hp⟩
theorem JDropH.of_ext {j j' J : JH} (h : JDropH j j' J) : JDropH (ext j []) j' J :=
 ⟨h.lo, h.hi, h.tlo, h.thi, fun o ob ho e => by
  rcases h.obj o ob ho e with ⟨h1, h2, h3⟩ | h
  ·exact .inl ⟨h1, by rw [ext_get_old h1]; exact h2, h3⟩
  ·exact .inr h, h.tok⟩
theorem JDropH.back {j j1 : JH} {l : List AObj} (h : TokExt j j1) : JDropH j (ext j1 l) j := by
 refine ⟨Nat.le_refl _, ?_, Nat.le_refl _, h.tnext, fun o ob ho e => .inl ⟨ho, ?_, ?_⟩, fun t ht => (h.tok t ht).symm⟩
 ·rw [ext_next, h.next]; unfold pid; omega
 all_goals
  rw [ext_get_old (by rw [h.next]; exact ho), h.get o ho] at e; exact e
theorem OSub.pure {no nt : Nat} {t : TypeId} {cs : List AV} (p : AV.pures cs = true) : OSub no nt (.cells t cs) (.cells t cs) := ⟨rfl, SubBs.pure p⟩
theorem JDropH.back1 {j j1 : JH} {l : List AObj} {o : Nat} {x : AObj} (h : TokExt (j.set o x) j1) (ho : o < j.next) (hx : OSub j.next j.tnext x x) : JDropH j (ext j1 l) (j.set o x) := by
 refine ⟨Nat.le_refl _, ?_, Nat.le_refl _, h.tnext, fun p ob hp e => ?_, fun t ht => (h.tok t ht).symm⟩
 ·rw [ext_next, h.next]; unfold pid; simp only [set_next]; omega
 ·simp only [set_next] at hp
  rw [ext_get_old (by rw [h.next]; exact hp), h.get p hp, set_get] at e
  by_cases hpo : p = o
  ·subst hpo
   rw [if_pos rfl] at e; cases e
   exact .inr ⟨_, by rw [set_get, if_pos rfl], hx⟩
  ·rw [if_neg hpo] at e
   exact .inl ⟨hp, e, by rw [set_get, if_neg hpo]; exact e⟩
theorem pid_lt {b k n : Nat} : (pid b k < pid b n) = (k < n) := by unfold pid; simp
def LSub (no nt : Nat) : List AObj → List AObj → List AObj → Prop
 | [], _, [] => True
 | a :: l, b :: m, c :: n => ((a = b ∧ b = c) ∨ OSub no nt b c) ∧ LSub no nt l m n
 | _, _, _ => False
theorem LSub.get {no nt : Nat} : ∀ {l m n : List AObj}, LSub no nt l m n → n.length = l.length ∧ n.length ≤ m.length ∧ ∀ k b, k < n.length → m[k]? = some b → (l[k]? = some b ∧ n[k]? = some b) ∨ ∃ c, n[k]? = some c ∧ OSub no nt b c
 | [], m, [], _ => ⟨rfl, Nat.zero_le _, fun k b hk => by simp at hk⟩
 | a :: l, b :: m, c :: n, h => by
  obtain ⟨h1, h2⟩ := h
  obtain ⟨i1, i2, i3⟩ := LSub.get h2
  refine ⟨by simp [i1], by simp; exact i2, fun k x hk e => ?_⟩
  cases k with
  | zero =>
   simp at e; subst e
   rcases h1 with ⟨rfl, rfl⟩ | h1
   ·exact .inl ⟨rfl, rfl⟩
   ·exact .inr ⟨c, rfl, h1⟩
  | succ k =>
   simp at e hk ⊢
   exact i3 k x hk e
 | [], _, _ :: _, h => h.elim
 | _ :: _, [], _, h => h.elim
 | _ :: _, _ :: _, [], h => h.elim
theorem JDropH.next {j j1 j2 : JH} {l m n : List AObj} (h : TokExt j2 j1) (hn : j2.next = j.next) (ht : j.tnext ≤ j2.tnext) (hg : ∀ o ob, o < j.next → j2.get o = some ob → j.get o = some ob ∨ OSub (pid j.next n.length) j2.tnext ob ob) (hl : LSub (pid j.next n.length) j2.tnext l m n) : JDropH (ext j l) (ext j1 m) (ext j2 n) := by
 obtain ⟨i1, i2, i3⟩ := hl.get
 have e1 : j1.next = j.next := h.next.trans hn
 refine ⟨?_, ?_, ht, h.tnext, fun o ob ho e => ?_, fun t ht => (h.tok t ht).symm⟩
 ·simp only [ext_next, pid]; omega
 ·simp only [ext_next, pid]; omega
 ·simp only [ext_next, pid] at ho ⊢
  by_cases hlt : o < j.next
  ·rw [ext_get_old (by omega), h.get o (by omega)] at e
   rcases hg o ob hlt e with q | q
   ·exact .inl ⟨by omega, by rw [ext_get_old hlt]; exact q, by rw [ext_get_old (by omega)]; exact e⟩
   ·refine .inr ⟨ob, by rw [ext_get_old (by omega)]; exact e, ?_⟩
    rw [hn]; exact q
  ·have ek : o = pid j.next (o - j.next) := by unfold pid; omega
   rw [ek, ext_get_new e1] at e
   rcases i3 (o - j.next) ob (by omega) e with ⟨q1, q2⟩ | ⟨c, q1, q2⟩
   ·exact .inl ⟨by omega, by rw [ek, ext_get_new rfl]; exact q1, by rw [ek, ext_get_new hn]; exact q2⟩
   ·refine .inr ⟨c, by rw [ek, ext_get_new hn]; exact q1, ?_⟩
    rw [hn]; exact q2
theorem JDropH.next0 {j j1 : JH} {l m n : List AObj} (h : TokExt j j1) (hl : LSub (pid j.next n.length) j.tnext l m n) : JDropH (ext j l) (ext j1 m) (ext j n) :=
 JDropH.next h rfl (Nat.le_refl _) (fun _ _ _ e => .inl e) hl
def DL (no nt : Nat) (l' : L) : L → Prop
 | [] => True
 | (t, x) :: r => SubB no nt (lk l' t) x ∧ DL no nt l' r
theorem DL.drop {no nt : Nat} {l' : L} : ∀ {l : L}, DL no nt l' l → ∀ i, SubB no nt (lk l' i) (lk l i)
 | [], _, i => SubB.any
 | (t, x) :: r, h, i => by
  simp only [lk]
  by_cases e : i = t
  ·subst e; rw [if_pos rfl]; exact h.1
  ·rw [if_neg e]; exact h.2.drop i
section
variable {P : Program} {G : Nat → Option (List AV)} {l : L} {j : JH}
theorem JLOOP.of {a : IR} {Q : AX → L → JH → Prop} {σ : Type} (I : σ → Prop) (μ : σ → Nat) (F : σ → L) (H : σ → JH) (s0 : σ) (h0 : I s0) (d1 : DL (H s0).next (H s0).tnext l (F s0)) (d2 : JDropH j j (H s0))
  (step : ∀ s, I s → jwp P G a (F s) (H s) (jloopQ (fun n l j => ∃ s, I s ∧ μ s = n ∧ l = F s ∧ j = H s) Q (μ s) (H s))) : @JLOOP P G a l j ⟨Q⟩ := by
 refine ⟨fun n l j => ∃ s, I s ∧ μ s = n ∧ l = F s ∧ j = H s, ⟨μ s0, F s0, H s0, d1.drop, d2, s0, h0, rfl, rfl, rfl⟩, ?_⟩
 rintro n l1 j1 ⟨s, hs, rfl, rfl, rfl⟩
 exact step s hs
theorem JNEXT.of {σ : Type} {I : σ → Prop} {μ : σ → Nat} {F : σ → L} {H : σ → JH} {n : Nat} {j1 : JH} {l' : L} {j' : JH} (s : σ) (hs : I s) (hm : μ s < n) (d1 : DL (H s).next (H s).tnext l' (F s)) (d2 : JDropH j1 j' (H s)) :
  JNEXT (fun n l j => ∃ s, I s ∧ μ s = n ∧ l = F s ∧ j = H s) n j1 l' j' := ⟨μ s, F s, H s, hm, d1.drop, .inl d2, s, hs, rfl, rfl, rfl⟩
def RET (Y : AV) (J : JH) : AOut → JH → Prop := fun o j' => o = .ret Y ∧ j' = J
theorem JFIN.ret {j0 j' J : JH} {v Y : AV} (d : JDropH j0 j' J) (s : SubB J.next J.tnext v Y) : @JFIN j0 j' v ⟨fun y j' => RET Y J (.ret y) j'⟩ := ⟨Y, J, .inl d, s, rfl, rfl⟩
theorem JFIN.of {j0 j' J : JH} {v Y : AV} {K : AV → JH → Prop} (d : JDropH j0 j' J) (s : SubB J.next J.tnext v Y) (k : K Y J) : @JFIN j0 j' v ⟨K⟩ := ⟨Y, J, .inl d, s, k⟩
theorem JCs.ret {f : FuncId} {args : List AV} {Y : AV} {J : JH} {K : AOut → JH → Prop} (h : JC P G f args j (RET Y J)) (k : K (.ret Y) J) : @JCs P G f args j ⟨K⟩ :=
 JC.mono h fun o j' ⟨e1, e2⟩ => by subst e1; subst e2; exact k
theorem JDC.use {f : FuncId} {args : List AV} {Y : AV} {J : JH} {K : AV → JH → Prop} (h : JC P G f args j (RET Y J)) (k : K Y J) : @JDC P G f args j ⟨K⟩ := ⟨Y, J, h, k⟩
theorem R.low {B0 : Nat} {μ : Mu} {h h0 : AH} {w : World} (e1 : h0.next = h.next) (e2 : ∀ o, o < h.next → h0.get o = h.get o) (e3 : h0.tnext = h.tnext) (e4 : h0.tok = h.tok) (r : R B0 G μ h w) : R B0 G μ h0 w := by
 refine ⟨r.base, fun o b q => ?_, r.inj, r.com, fun t i q => by rw [e4]; exact r.tok t i q, r.tinj, r.sep, fun o ho => r.next o (by omega), fun t ht => r.tnext t (by omega), r.glob⟩
 have : o < h.next := by
  rcases Nat.lt_or_ge o h.next with q1 | q1
  ·exact q1
  ·rw [r.next o q1] at q; cases q
 rw [e2 o this]; exact r.obj o b q
theorem CALL.low {f : FuncId} {args : List AV} {h h0 : AH} {Q : AOut → AH → Prop} (e1 : h0.next = h.next) (e2 : ∀ o, o < h.next → h0.get o = h.get o) (e3 : h0.tnext = h.tnext) (e4 : h0.tok = h.tok) (c : CALL P G f args h0 Q) : CALL P G f args h Q :=
 fun B0 μ w vs r hv => (c B0 μ w vs (r.low e1 e2 e3 e4) hv).mono fun _ _ ⟨o, h', q, μ', st, p⟩ =>
  ⟨o, h', q, μ', ⟨st.le, st.r, st.size, st.keep, st.com, by rw [← e1]; exact st.next, by rw [← e3]; exact st.tnext, fun o b q => by rw [← e1]; exact st.newo o b q, fun t i q => by rw [← e3]; exact st.newt t i q, st.newc, st.env⟩, p⟩
theorem JC.low {f : FuncId} {args : List AV} {Q : AOut → JH → Prop} (c : JC P G f args (ext j []) Q) : JC P G f args j Q := by
 rintro h rfl
 refine CALL.low (h0 := (ext h.j []).a) rfl (fun o ho => ?_) rfl rfl (c _ rfl)
 show (ext h.j []).get o = _
 rw [ext_get_old (show o < h.j.next from ho)]; rfl
theorem JC.run (hmix : P.follows .mixedOrders = true) {f : FuncId} {k : IFn} (hf : cfunc P f = some k) {args : List AV} (hok : okIR (max args.length k.n) k.ir = true) {Q : AOut → JH → Prop}
  (hw : jwp P G k.ir (args0 0 args) (ext j []) (jend k.rs (ext j []) Q)) : JC P G f args j Q := JC.low (JC.of_ir hmix hf hok hw)
theorem tkq {a b : JH} (h : TokExt a b := by repeat' (first | exact TokExt.refl _ | refine TokExt.push ?_ _ | refine TokExt.setT ?_ (by first | exact Nat.le_refl _ | (simp only [pushTok_tnext, setTok_tnext, ext_tnext, set_tnext]; omega)) _)) : TokExt a b := h
theorem JFIN.rb {j j1 : JH} {l : List AObj} {v Y : AV} (s : SubB j.next j.tnext v Y) (h : TokExt j j1 := by repeat' (first | exact TokExt.refl _ | refine TokExt.push ?_ _ | refine TokExt.setT ?_ (by first | exact Nat.le_refl _ | (simp only [pushTok_tnext, setTok_tnext, ext_tnext, set_tnext]; omega)) _)) : @JFIN (ext j []) (ext j1 l) v ⟨fun y j' => RET Y j (.ret y) j'⟩ := JFIN.ret ((JDropH.back h).of_ext) s
theorem JDropH.nx {j j1 : JH} {l m n : List AObj} (h : TokExt j j1 := by repeat' (first | exact TokExt.refl _ | refine TokExt.push ?_ _ | refine TokExt.setT ?_ (by first | exact Nat.le_refl _ | (simp only [pushTok_tnext, setTok_tnext, ext_tnext, set_tnext]; omega)) _)) (hl : LSub (pid j.next n.length) j.tnext l m n := by simp only [LSub, and_self, true_or, and_true]) : JDropH (ext j l) (ext j1 m) (ext j n) := JDropH.next0 h hl
theorem JDRAW.oc {pairs : List (Nat × Nat)} {es : List JEnt} {A : Prop} (h : okEs es ∧ okPs es pairs) (a : A) : @JDRAW pairs es ⟨A⟩ := JDRAW.of h.1 h.2 a
theorem orq {A : Prop} (h : A := by repeat' (first | exact trivial | refine And.intro ?_ ?_ | assumption | (unfold pid; omega))) : A := h
end
end
section
section
abbrev I64 (n : Int) : AV := .v (.int .i64 n)
abbrev STR (s : ByteArray) : AV := .v (.string s)
abbrev BOO (b : Bool) : AV := .v (.bool b)
def ints (l : List Int) : List AV := l.map fun i => .v (.int .i64 i)
def strs (l : List ByteArray) : List AV := l.map fun i => .v (.string i)
def boos (l : List Bool) : List AV := l.map fun i => .v (.bool i)
inductive Con where
 | mk (op n : Int) (args : List Con)
instance : Inhabited Con := ⟨.mk 0 0 []⟩
def Con.op : Con → Int | .mk o _ _ => o
def Con.n : Con → Int | .mk _ n _ => n
def Con.args : Con → List Con | .mk _ _ l => l
mutual
def Con.enc : Con → List AV
 | .mk op n args => [.v (.int .i64 op), .v (.int .i64 n), .sl .none args.length (Con.encs args)]
def Con.encs : List Con → List AV
 | [] => []
 | c :: cs => c.enc ++ Con.encs cs
end
theorem Con.enc_eq (c : Con) : c.enc = [.v (.int .i64 c.op), .v (.int .i64 c.n), .sl .none c.args.length (Con.encs c.args)] := by
 cases c; simp [Con.enc, Con.op, Con.n, Con.args]
structure Nms where
 (cs rs is : List ByteArray)
def Nms.enc (n : Nms) : List AV := [.sl .none n.cs.length (strs n.cs), .sl .none n.rs.length (strs n.rs), .sl .none n.is.length (strs n.is)]
structure Inc where
 (sub sup : Con)
def Inc.enc (x : Inc) : List AV := x.sub.enc ++ x.sup.enc
structure RIn where
 (sub sup : Int)
def RIn.enc (x : RIn) : List AV := [.v (.int .i64 x.sub), .v (.int .i64 x.sup)]
structure Fac where
 (ind : Int) (con : Con)
def Fac.enc (x : Fac) : List AV := .v (.int .i64 x.ind) :: x.con.enc
structure Lnk where
 (role fr to : Int)
def Lnk.enc (x : Lnk) : List AV := [.v (.int .i64 x.role), .v (.int .i64 x.fr), .v (.int .i64 x.to)]
def encs {α : Type} (e : α → List AV) (l : List α) : List AV := l.flatMap e
theorem Con.encs_eq : ∀ l : List Con, Con.encs l = Pg.encs Con.enc l
 | [] => rfl
 | c :: l => by simp only [Con.encs, Pg.encs, List.flatMap_cons]; rw [Con.encs_eq l]; rfl
structure Bas where
 nms : Nms
 incls : List Inc
 roles : List RIn
 facts : List Fac
 links : List Lnk
def Bas.enc (b : Bas) : List AV := b.nms.enc ++ [.sl .none b.incls.length (encs Inc.enc b.incls), .sl .none b.roles.length (encs RIn.enc b.roles), .sl .none b.facts.length (encs Fac.enc b.facts), .sl .none b.links.length (encs Lnk.enc b.links)]
theorem Con.len (c : Con) : c.enc.length = 3 := by rw [Con.enc_eq]; rfl
theorem Nms.len (c : Nms) : c.enc.length = 3 := rfl
theorem Inc.len (c : Inc) : c.enc.length = 6 := by simp [Inc.enc, Con.len]
theorem RIn.len (c : RIn) : c.enc.length = 2 := rfl
theorem Fac.len (c : Fac) : c.enc.length = 4 := by simp [Fac.enc, Con.len]
theorem Lnk.len (c : Lnk) : c.enc.length = 3 := rfl
theorem Bas.len (c : Bas) : c.enc.length = 7 := rfl
section
variable {α : Type} {e : α → List AV} {n : Nat}
theorem encs_nil : encs e [] = [] := rfl
theorem encs_cons {x : α} {l : List α} : encs e (x :: l) = e x ++ encs e l := by simp [encs]
theorem encs_append {l m : List α} : encs e (l ++ m) = encs e l ++ encs e m := by simp [encs]
theorem encs_length (h : ∀ x, (e x).length = n) : ∀ l : List α, (encs e l).length = l.length * n
 | [] => by simp [encs]
 | x :: l => by rw [encs_cons, List.length_append, h, encs_length h l, List.length_cons, Nat.add_mul]; omega
theorem encs_drop (h : ∀ x, (e x).length = n) : ∀ (l : List α) (i : Nat), (encs e l).drop (i * n) = encs e (l.drop i)
 | l, 0 => by simp
 | [], i + 1 => by simp [encs]
 | x :: l, i + 1 => by
  rw [encs_cons, List.drop_succ_cons, ← encs_drop h l i, show (i + 1) * n = (e x).length + i * n from by rw [h, Nat.add_mul]; omega, ← List.drop_drop, List.drop_left]
end
theorem d_len1 {l : List Con} : (encs Con.enc l).length = l.length * 3 := encs_length Con.len l
theorem d_len2 {l : List Inc} : (encs Inc.enc l).length = l.length * 6 := encs_length Inc.len l
theorem d_len3 {l : List RIn} : (encs RIn.enc l).length = l.length * 2 := encs_length RIn.len l
theorem d_len4 {l : List Fac} : (encs Fac.enc l).length = l.length * 4 := encs_length Fac.len l
theorem d_len5 {l : List Lnk} : (encs Lnk.enc l).length = l.length * 3 := encs_length Lnk.len l
theorem d_len6 {l : List Int} : (ints l).length = l.length := by simp [ints]
theorem d_len7 {l : List ByteArray} : (strs l).length = l.length := by simp [strs]
theorem d_len8 {l : List Bool} : (boos l).length = l.length := by simp [boos]
theorem d_drop1 {l : List Con} {i : Nat} : (encs Con.enc l).drop (i * 3) = encs Con.enc (l.drop i) := encs_drop Con.len l i
theorem d_drop2 {l : List Inc} {i : Nat} : (encs Inc.enc l).drop (i * 6) = encs Inc.enc (l.drop i) := encs_drop Inc.len l i
theorem d_drop3 {l : List RIn} {i : Nat} : (encs RIn.enc l).drop (i * 2) = encs RIn.enc (l.drop i) := encs_drop RIn.len l i
theorem d_drop4 {l : List Fac} {i : Nat} : (encs Fac.enc l).drop (i * 4) = encs Fac.enc (l.drop i) := encs_drop Fac.len l i
theorem d_drop5 {l : List Lnk} {i : Nat} : (encs Lnk.enc l).drop (i * 3) = encs Lnk.enc (l.drop i) := encs_drop Lnk.len l i
theorem d_drop6 {l : List Int} {i : Nat} : (ints l).drop i = ints (l.drop i) := by simp [ints, List.map_drop]
theorem d_drop7 {l : List ByteArray} {i : Nat} : (strs l).drop i = strs (l.drop i) := by simp [strs, List.map_drop]
theorem d_drop8 {l : List Bool} {i : Nat} : (boos l).drop i = boos (l.drop i) := by simp [boos, List.map_drop]
theorem d_cons6 {x : Int} {l : List Int} : ints (x :: l) = .v (.int .i64 x) :: ints l := rfl
theorem d_cons7 {x : ByteArray} {l : List ByteArray} : strs (x :: l) = .v (.string x) :: strs l := rfl
theorem d_cons8 {x : Bool} {l : List Bool} : boos (x :: l) = .v (.bool x) :: boos l := rfl
theorem icut_drop {row : Option Nat} {cs : List AV} {k off : Nat} : icut row (cs.drop k) off = icut row cs (k + off) := by
 unfold icut; cases row <;> simp [List.drop_drop]
theorem icut_pre {n : Nat} {xs cs : List AV} (h : xs.length = n) : icut (some n) (xs ++ cs) 0 = some (.agg xs) := by
 unfold icut; simp [← h]
theorem icut_all {n : Nat} {xs : List AV} (h : xs.length = n) : icut (some n) xs 0 = some (.agg xs) := by
 have := icut_pre (cs := []) h; simpa using this
theorem icut_at {row : Option Nat} {xs cs : List AV} {k n : Nat} (h : xs.length = n) : icut row (xs ++ cs) (n + k) = icut row cs k := by
 unfold icut; subst h; cases row with
 | none => simp only []; rw [List.getElem?_append_right (by omega)]; congr 1; omega
 | some m => simp [List.drop_append, List.drop_eq_nil_of_le (Nat.le_add_right _ _)]
theorem icut_in {xs cs : List AV} {k : Nat} (h : k < xs.length) : icut none (xs ++ cs) k = icut none xs k := by
 unfold icut; simp [List.getElem?_append_left h]
theorem d_con1 {c : Con} {cs : List AV} : icut (some 3) (c.enc ++ cs) 0 = some (.agg c.enc) := icut_pre c.len
theorem d_con2 {c : Con} : icut (some 3) c.enc 0 = some (.agg c.enc) := icut_all c.len
theorem d_con3 {c : Con} : icut none c.enc 0 = some (.v (.int .i64 c.op)) := by rw [Con.enc_eq]; rfl
theorem d_con4 {c : Con} : icut none c.enc 1 = some (.v (.int .i64 c.n)) := by rw [Con.enc_eq]; rfl
theorem d_con5 {c : Con} : icut none c.enc 2 = some (.sl .none c.args.length (encs Con.enc c.args)) := by rw [Con.enc_eq, Con.encs_eq]; rfl
theorem d_con6 {c : Con} {cs : List AV} : icut none (c.enc ++ cs) 0 = some (.v (.int .i64 c.op)) := by rw [icut_in (by rw [c.len]; decide)]; exact d_con3
theorem d_con7 {c : Con} {cs : List AV} : icut none (c.enc ++ cs) 1 = some (.v (.int .i64 c.n)) := by rw [icut_in (by rw [c.len]; decide)]; exact d_con4
theorem d_con8 {c : Con} {cs : List AV} : icut none (c.enc ++ cs) 2 = some (.sl .none c.args.length (encs Con.enc c.args)) := by rw [icut_in (by rw [c.len]; decide)]; exact d_con5
theorem d_con9 {c : Con} : c.enc.all AV.one = true := by rw [Con.enc_eq]; rfl
theorem d_con10 {c : Con} {x : AV} {k : Nat} : splice c.enc k [x] = splice [.v (.int .i64 c.op), .v (.int .i64 c.n), .sl .none c.args.length (encs Con.enc c.args)] k [x] := by rw [Con.enc_eq, Con.encs_eq]
theorem d_con11 {c : Con} : irow 3 c.enc = some c.enc := by unfold irow; rw [← c.len, List.take_length]; simp
theorem d_con12 {o n : Int} {l : List Con} : (Con.mk o n l).args = l := rfl
theorem d_con13 {o n : Int} {l : List Con} : (Con.mk o n l).op = o := rfl
theorem d_con14 {o n : Int} {l : List Con} : (Con.mk o n l).n = n := rfl
theorem d_nms1 {c : Nms} {cs : List AV} : icut (some 3) (c.enc ++ cs) 0 = some (.agg c.enc) := icut_pre c.len
theorem d_nms2 {c : Nms} : icut (some 3) c.enc 0 = some (.agg c.enc) := icut_all c.len
theorem d_nms3 {c : Nms} : icut none c.enc 0 = some (.sl .none c.cs.length (strs c.cs)) := rfl
theorem d_nms4 {c : Nms} : icut none c.enc 1 = some (.sl .none c.rs.length (strs c.rs)) := rfl
theorem d_nms5 {c : Nms} : icut none c.enc 2 = some (.sl .none c.is.length (strs c.is)) := rfl
theorem d_nms9 {c : Nms} : c.enc.all AV.one = true := rfl
theorem d_bas1 {b : Bas} : icut (some 3) b.enc 0 = some (.agg b.nms.enc) := by
 unfold Bas.enc; exact icut_pre b.nms.len
theorem d_bas2 {b : Bas} : icut (some 7) b.enc 0 = some (.agg b.enc) := icut_all b.len
theorem d_bas3 {b : Bas} : icut none b.enc 3 = some (.sl .none b.incls.length (encs Inc.enc b.incls)) := rfl
theorem d_bas4 {b : Bas} : icut none b.enc 4 = some (.sl .none b.roles.length (encs RIn.enc b.roles)) := rfl
theorem d_bas5 {b : Bas} : icut none b.enc 5 = some (.sl .none b.facts.length (encs Fac.enc b.facts)) := rfl
theorem d_bas6 {b : Bas} : icut none b.enc 6 = some (.sl .none b.links.length (encs Lnk.enc b.links)) := rfl
theorem d_bas7 {b : Bas} : icut none b.enc 0 = some (.sl .none b.nms.cs.length (strs b.nms.cs)) := rfl
theorem d_bas8 {b : Bas} : icut none b.enc 1 = some (.sl .none b.nms.rs.length (strs b.nms.rs)) := rfl
theorem d_bas10 {b : Bas} : icut none b.enc 2 = some (.sl .none b.nms.is.length (strs b.nms.is)) := rfl
theorem d_bas9 {b : Bas} : b.enc.all AV.one = true := rfl
theorem d_inc1 {c : Inc} {cs : List AV} : icut (some 6) (c.enc ++ cs) 0 = some (.agg c.enc) := icut_pre c.len
theorem d_inc2 {c : Inc} : icut (some 6) c.enc 0 = some (.agg c.enc) := icut_all c.len
theorem d_inc3 {c : Inc} : icut (some 3) c.enc 0 = some (.agg c.sub.enc) := icut_pre c.sub.len
theorem d_inc4 {c : Inc} : icut (some 3) c.enc 3 = some (.agg c.sup.enc) := by
 have := icut_at (row := some 3) (cs := c.sup.enc) (k := 0) c.sub.len
 unfold Inc.enc; rw [show 3 = 3 + 0 from rfl, this]; exact icut_all c.sup.len
theorem d_inc5 {c : Inc} : icut none c.enc 0 = some (.v (.int .i64 c.sub.op)) := d_con6
theorem d_inc6 {c : Inc} : icut none c.enc 3 = some (.v (.int .i64 c.sup.op)) := by
 have := icut_at (row := none) (cs := c.sup.enc) (k := 0) c.sub.len
 unfold Inc.enc; rw [show 3 = 3 + 0 from rfl, this]; exact d_con3
theorem d_inc7 {c : Inc} : icut none c.enc 5 = some (.sl .none c.sup.args.length (encs Con.enc c.sup.args)) := by
 have := icut_at (row := none) (cs := c.sup.enc) (k := 2) c.sub.len
 unfold Inc.enc; rw [show 5 = 3 + 2 from rfl, this]; exact d_con5
theorem d_inc9 {c : Inc} : c.enc.all AV.one = true := by unfold Inc.enc; rw [List.all_append, d_con9, d_con9]; rfl
theorem d_inc11 {c : Inc} : irow 6 c.enc = some c.enc := by unfold irow; rw [← c.len, List.take_length]; simp
theorem d_rin1 {c : RIn} {cs : List AV} : icut (some 2) (c.enc ++ cs) 0 = some (.agg c.enc) := icut_pre c.len
theorem d_rin2 {c : RIn} : icut (some 2) c.enc 0 = some (.agg c.enc) := icut_all c.len
theorem d_rin3 {c : RIn} : icut none c.enc 0 = some (.v (.int .i64 c.sub)) := rfl
theorem d_rin4 {c : RIn} : icut none c.enc 1 = some (.v (.int .i64 c.sup)) := rfl
theorem d_rin9 {c : RIn} : c.enc.all AV.one = true := rfl
theorem d_fac1 {c : Fac} {cs : List AV} : icut (some 4) (c.enc ++ cs) 0 = some (.agg c.enc) := icut_pre c.len
theorem d_fac2 {c : Fac} : icut (some 4) c.enc 0 = some (.agg c.enc) := icut_all c.len
theorem d_fac3 {c : Fac} : icut none c.enc 0 = some (.v (.int .i64 c.ind)) := rfl
theorem d_fac4 {c : Fac} : icut (some 3) c.enc 1 = some (.agg c.con.enc) := d_con2
theorem d_fac5 {c : Fac} : icut none c.enc 1 = some (.v (.int .i64 c.con.op)) := by
 have := d_con3 (c := c.con); simpa [icut, Fac.enc] using this
theorem d_fac6 {c : Fac} : icut none c.enc 2 = some (.v (.int .i64 c.con.n)) := by
 have := d_con4 (c := c.con); simpa [icut, Fac.enc] using this
theorem d_fac9 {c : Fac} : c.enc.all AV.one = true := by unfold Fac.enc; rw [List.all_cons, d_con9]; rfl
theorem d_lnk1 {c : Lnk} {cs : List AV} : icut (some 3) (c.enc ++ cs) 0 = some (.agg c.enc) := icut_pre c.len
theorem d_lnk2 {c : Lnk} : icut (some 3) c.enc 0 = some (.agg c.enc) := icut_all c.len
theorem d_lnk3 {c : Lnk} : icut none c.enc 0 = some (.v (.int .i64 c.role)) := rfl
theorem d_lnk4 {c : Lnk} : icut none c.enc 1 = some (.v (.int .i64 c.fr)) := rfl
theorem d_lnk5 {c : Lnk} : icut none c.enc 2 = some (.v (.int .i64 c.to)) := rfl
theorem d_lnk9 {c : Lnk} : c.enc.all AV.one = true := rfl
mutual
theorem Con.pur : ∀ c : Con, AV.pures c.enc = true
 | .mk o n l => by simp [Con.enc, AV.pures, AV.pure, Con.purs l]
theorem Con.purs : ∀ l : List Con, AV.pures (Con.encs l) = true
 | [] => rfl
 | c :: l => by simp [Con.encs, pures_append, Con.pur c, Con.purs l]
end
theorem encs_pur {α : Type} {e : α → List AV} (h : ∀ x, AV.pures (e x) = true) : ∀ l : List α, AV.pures (encs e l) = true
 | [] => rfl
 | c :: l => by rw [encs_cons, pures_append, h, encs_pur h l]; rfl
theorem ints_pur : ∀ l : List Int, AV.pures (ints l) = true
 | [] => rfl
 | c :: l => by rw [d_cons6]; simp [AV.pures, AV.pure, ints_pur l]
theorem strs_pur : ∀ l : List ByteArray, AV.pures (strs l) = true
 | [] => rfl
 | c :: l => by rw [d_cons7]; simp [AV.pures, AV.pure, strs_pur l]
theorem boos_pur : ∀ l : List Bool, AV.pures (boos l) = true
 | [] => rfl
 | c :: l => by rw [d_cons8]; simp [AV.pures, AV.pure, boos_pur l]
theorem Nms.pur (n : Nms) : AV.pures n.enc = true := by simp [Nms.enc, AV.pures, AV.pure, strs_pur]
theorem Inc.pur (n : Inc) : AV.pures n.enc = true := by simp [Inc.enc, pures_append, Con.pur]
theorem RIn.pur (n : RIn) : AV.pures n.enc = true := rfl
theorem Fac.pur (n : Fac) : AV.pures n.enc = true := by simp [Fac.enc, AV.pures, AV.pure, Con.pur]
theorem Lnk.pur (n : Lnk) : AV.pures n.enc = true := rfl
theorem Bas.pur (n : Bas) : AV.pures n.enc = true := by
 simp [Bas.enc, pures_append, Nms.pur, AV.pures, AV.pure, encs_pur Inc.pur, encs_pur RIn.pur, encs_pur Fac.pur, encs_pur Lnk.pur]
def jd := And.intro @d_len1 (And.intro @d_len2 (And.intro @d_len3 (And.intro @d_len4 (And.intro @d_len5 (And.intro @d_len6 (And.intro @d_len7 (And.intro @d_len8 (And.intro @d_drop1 (And.intro @d_drop2 (And.intro @d_drop3 (And.intro @d_drop4 (And.intro @d_drop5 (And.intro @d_drop6 (And.intro @d_drop7 (And.intro @d_drop8 (And.intro @d_cons6 (And.intro @d_cons7 (And.intro @d_cons8 (And.intro @d_con1 (And.intro @d_con2 (And.intro @d_con3 (And.intro @d_con4 (And.intro @d_con5 (And.intro @d_con6 (And.intro @d_con7 (And.intro @d_con8 (And.intro @d_con9 (And.intro @d_con10 (And.intro @d_con11 (And.intro @d_con12 (And.intro @d_con13 (And.intro @d_con14 (And.intro @d_nms1 (And.intro @d_nms2 (And.intro @d_nms3 (And.intro @d_nms4 (And.intro @d_nms5 (And.intro @d_nms9 (And.intro @d_bas1 (And.intro @d_bas2 (And.intro @d_bas3 (And.intro @d_bas4 (And.intro @d_bas5 (And.intro @d_bas6 (And.intro @d_bas7 (And.intro @d_bas8 (And.intro @d_bas10 (And.intro @d_bas9 (And.intro @d_inc1 (And.intro @d_inc2 (And.intro @d_inc3 (And.intro @d_inc4 (And.intro @d_inc5 (And.intro @d_inc6 (And.intro @d_inc7 (And.intro @d_inc9 (And.intro @d_inc11 (And.intro @d_rin1 (And.intro @d_rin2 (And.intro @d_rin3 (And.intro @d_rin4 (And.intro @d_rin9 (And.intro @d_fac1 (And.intro @d_fac2 (And.intro @d_fac3 (And.intro @d_fac4 (And.intro @d_fac5 (And.intro @d_fac6 (And.intro @d_fac9 (And.intro @d_lnk1 (And.intro @d_lnk2 (And.intro @d_lnk3 (And.intro @d_lnk4 (And.intro @d_lnk5 (And.intro @d_lnk9 (And.intro @encs_nil (And.intro @encs_cons (And.intro @Con.len (And.intro @Nms.len (And.intro @Inc.len (And.intro @RIn.len (And.intro @Fac.len (And.intro @Lnk.len (And.intro @Bas.len (@icut_drop)))))))))))))))))))))))))))))))))))))))))))))))))))))))))))))))))))))))))))))))))))))
def jpu := And.intro @Con.pur (And.intro @Nms.pur (And.intro @Inc.pur (And.intro @RIn.pur (And.intro @Fac.pur (And.intro @Lnk.pur (And.intro @Bas.pur (And.intro @ints_pur (And.intro @strs_pur (And.intro @boos_pur (And.intro (encs_pur Con.pur) (And.intro (encs_pur Inc.pur) (And.intro (encs_pur RIn.pur) (And.intro (encs_pur Fac.pur) (encs_pur Lnk.pur))))))))))))))
def jz := And.intro @decide_true (And.intro @decide_false (And.intro @ne_eq.{1} (And.intro @eq_self.{1} (And.intro @Int.toNat_natCast (And.intro @Nat.mul_one (And.intro @Nat.add_zero (And.intro @Nat.zero_add (And.intro @List.nil_append.{0} (And.intro @List.cons_append.{0} (And.intro @List.append_nil.{0} (And.intro @List.length_cons.{0} (And.intro @List.length_nil.{0} (And.intro @List.drop_zero.{0} (And.intro @List.drop_succ_cons.{0} (And.intro @ext_get_new (And.intro @ext_set_new (And.intro @splice_full (And.intro @splice_z3 (And.intro @splice_a3 (And.intro @List.length_append.{0} (And.intro @List.getElem?_cons_zero.{0} (And.intro @List.getElem?_cons_succ.{0} (And.intro @List.set_cons_zero.{0} (And.intro @List.set_cons_succ.{0} (And.intro @Option.map_some.{0, 0} (And.intro @Bool.not_true (And.intro @Bool.not_false (And.intro @Bool.and_true (And.intro @Bool.true_and (And.intro @and_self (And.intro @and_true (And.intro @true_and (And.intro @not_true_eq_false (And.intro @not_false_eq_true @pid_lt))))))))))))))))))))))))))))))))))
def jw := And.intro @jp (And.intro @jd @jz)
theorem sbq {A : Prop} (h : A := by repeat' (first | exact trivial | refine And.intro ?_ ?_ | exact SubB.v | exact SubB.any | ((first | refine SubB.ptr ?_ | refine SubB.arr ?_ | refine SubB.mp ?_) <;> first | assumption | (unfold pid; omega)) | ((first | refine SubB.pure ?_ | refine SubBs.pure ?_) <;> (simp only [AV.pure, AV.pures, pures_append, jpu, Bool.and_self, Bool.and_true, Bool.true_and]; done)) | refine SubB.fn ?_ ?_ | refine SubB.sl ?_ ?_ | refine SubB.agg ?_ | refine SubB.tup ?_ | rfl)) : A := h
end
section
def CanApp (j0 j : JH) (tok : Tok) (es n : Nat) : Prop := (tok = .nil ∧ n = 0) ∨ ∃ t, j0.tnext ≤ t ∧ t < j.tnext ∧ tok = .own t 0 es ∧ j.tok t = some n
theorem CanApp.nil {j0 j : JH} {es : Nat} : CanApp j0 j .nil es 0 := .inl ⟨rfl, rfl⟩
theorem CanApp.push {j0 j : JH} {tok : Tok} {es n F : Nat} (h : CanApp j0 j tok es n) : CanApp j0 (j.pushTok F) tok es n := by
 rcases h with h | ⟨t, h1, h2, h3, h4⟩
 ·exact .inl h
 ·refine .inr ⟨t, h1, Nat.lt_succ_of_lt h2, h3, ?_⟩
  show (if t = j.tnext then some F else j.tok t) = _
  rw [if_neg (by omega)]; exact h4
theorem SubB.can {j0 j : JH} {tok : Tok} {es n no : Nat} {cs : List AV} (h : CanApp j0 j tok es n) (p : AV.pures cs = true) : SubB no j.tnext (.sl tok n cs) (.sl tok n cs) := by
 rcases h with ⟨rfl, rfl⟩ | ⟨t, h1, h2, rfl, h4⟩
 ·exact SubB.pure (by simp only [AV.pure]; exact p)
 ·exact SubB.own h2 (SubBs.pure p)
theorem JAPP.can {j0 j : JH} {objs : List AObj} {es bytes n m : Nat} {tok tok' : Tok} {cs cs' : List AV} {K : AV → JH → Prop} (h : CanApp j0 j tok es n) (ht : TokExt j0 j)
  (h1 : cs.length = n * es) (h2 : cs'.length = m * es) (h3 : cs'.all AV.one = true) (h4 : (n + m) * bytes ≤ 140737488355328) (h5 : n + m ≤ 9223372036854775807) (hm : m ≠ 0)
  (k : ∀ tok1 j1, CanApp j0 j1 tok1 es (n + m) → TokExt j0 j1 → j.tnext ≤ j1.tnext → K (.sl tok1 (n + m) (cs ++ cs')) (ext j1 objs)) : @JAPP (ext j objs) es bytes (.sl tok n cs) (.sl tok' m cs') ⟨K⟩ := by
 refine ⟨⟨h1, h2, h3, h4, h5⟩, fun e => absurd e hm, fun _ => ?_⟩
 rcases h with ⟨rfl, rfl⟩ | ⟨t, q1, q2, rfl, q4⟩
 ·have hcs : cs = [] := List.eq_nil_of_length_eq_zero (by rw [h1, Nat.zero_mul])
  subst hcs
  have := k (.own j.tnext 0 es) (j.pushTok m) (.inr ⟨j.tnext, ht.tnext, Nat.lt_succ_self _, rfl, by show (if j.tnext = j.tnext then some m else _) = _; rw [if_pos rfl, Nat.zero_add]⟩) (ht.push m) (Nat.le_succ _)
  rw [Nat.zero_add] at this; exact this
 ·refine ⟨⟨by rw [ext_tok, Nat.zero_add]; exact q4, rfl⟩, ?_⟩
  have := k (.own t 0 es) (j.setTok t (n + m)) (.inr ⟨t, q1, q2, rfl, by show (if t = t then some (n + m) else _) = _; rw [if_pos rfl]⟩) (ht.setT q1 _) (Nat.le_refl _)
  rw [Nat.zero_add]; exact this
theorem JDropH.nextT {j0 j j1 j2 : JH} {l m n : List AObj} (h0 : TokExt j0 j) (h2 : TokExt j0 j2) (h : TokExt j2 j1) (ht : j.tnext ≤ j2.tnext) (hl : LSub (pid j0.next n.length) j2.tnext l m n) : JDropH (ext j l) (ext j1 m) (ext j2 n) := by
 have e : j2.next = j.next := h2.next.trans h0.next.symm
 refine JDropH.next h e ht (fun o ob ho q => .inl ?_) (by rw [h0.next]; exact hl)
 rw [h0.next] at ho
 rw [h2.get o ho] at q; rw [h0.get o ho]; exact q
abbrev bs (s : ByteArray) : List UInt8 := s.data.toList
theorem bs_len (s : ByteArray) : (bs s).length = s.size := by simp [bs]
theorem byte_at {s : ByteArray} {k : Nat} {b : UInt8} {l : List UInt8} (h : (bs s).drop k = b :: l) : s[k]? = some b := by
 have h1 : (bs s)[k]? = some b := by
  have := congrArg (·[0]?) h
  simpa using this
 have hlt : k < s.size := by
  rw [← bs_len]
  rcases Nat.lt_or_ge k (bs s).length with q | q
  ·exact q
  ·rw [List.getElem?_eq_none q] at h1; cases h1
 rw [getElem?_pos s k hlt]
 have h2 : (bs s)[k]? = some (s.data[k]'hlt) := by simp [bs]
 rw [h2] at h1
 simpa [ByteArray.getElem_eq_getElem_data] using h1
abbrev U8 (x : Int) : AV := .v (.int .u8 x)
def SE (l : List ByteArray) : List AV := [.sl .none l.length (strs l)]
theorem d_se2 {l : List ByteArray} {cs : List AV} : SE l ++ cs = .sl .none l.length (strs l) :: cs := rfl
theorem d_sed {l : List (List ByteArray)} {k : Nat} : (encs SE l).drop k = encs SE (l.drop k) := by
 have := encs_drop (e := SE) (n := 1) (fun _ => rfl) l k; simpa using this
theorem d_sel {l : List (List ByteArray)} : (encs SE l).length = l.length := by
 have := encs_length (e := SE) (n := 1) (fun _ => rfl) l; simpa using this
theorem SE.pur (l : List (List ByteArray)) : AV.pures (encs SE l) = true := encs_pur (fun l => by simp [SE, AV.pures, AV.pure, strs_pur]) l
def je := And.intro @d_se2 (And.intro @d_sed @d_sel)
end
end
section
variable {P : Program} {G : Nat → Option (List AV)}
def jnil (ne : Bool) (x : AV) (K : AOut → JH → Prop) (j : JH) : Prop :=
 match x with
 | .sl .none _ cs => ∀ b, (b = true → cs = []) → K (.ret (BOO (if ne then !b else b))) j
 | .sl .nil 0 [] => K (.ret (BOO (!ne))) j
 | .sl (.own _ _ _) _ _ => K (.ret (BOO ne)) j
 | .arr _ _ _ => K (.ret (BOO ne)) j
 | _ => False
theorem X.of_r {y : Operand} {t : Nat} (h : X.of y = some (.r t)) : y = .tmp t := by
 cases y with
 | tmp u => simp only [X.of, Option.some.injEq, X.r.injEq] at h; rw [h]
 | const v =>
  simp only [X.of] at h
  cases h2 : ofV 64 v with
  | none => rw [h2] at h; simp at h
  | some z => rw [h2] at h; simp at h
 | global g => simp [X.of] at h
 | func f => simp [X.of] at h
theorem JGEN.nil {o : Oper} {ne : Bool} {t : Nat} {l : L} {j : JH} {K : AOut → JH → Prop} (hb : nilT P o = some (ne, .r t)) (k : jnil ne (lk l t) K j) : @JGEN P G o l j ⟨K⟩ := by
 intro fr h hf hj
 subst hj
 have hb0 := hb
 unfold nilT at hb
 split at hb
 ·rename_i op ty y yt ho
  have fin : ∀ ne' : Bool, (∃ el, P.underlying ty = some (.slice el)) → op = (if ne' then .neq else .eql) → (X.of y).map (fun x => (ne', x)) = some (ne, .r t) → istep P G fr h (.gen o) fun o h' => K o h'.j := by
   rintro ne' ⟨el, hu⟩ rfl h1
   obtain ⟨x', hx, e⟩ := Option.map_eq_some_iff.1 h1
   obtain ⟨rfl, rfl⟩ := Prod.mk.inj e
   have hy := X.of_r hx
   subst hy
   have hev : aev G fr (.tmp t) = some (lk l t) := by rw [X.of_ev hx]; exact congrArg some (hf t)
   have hin : ∀ x, inilv P (if ne' then .neq else .eql) ty (.const (.slice none 0 0)) x = none := fun x => inilv_none fun m e => by rw [hu] at e; cases e
   have hkind : kindOf o = .p := by simp [kindOf, ho]
   have hnl : aev G fr (.const (.slice none 0 0)) = some (.sl .nil 0 []) := rfl
   have good : ∀ z, pop P G fr o = some z → K (.ret z) h.j → istep P G fr h (.gen o) fun o h' => K o h'.j := fun z hz kz => .inl (by
    unfold astep; rw [hkind]; simp only [hz, Option.map_some, wv_some]; exact kz)
   have hopn : o.op.operands = #[.tmp t, .const (.slice none 0 0)] := by simp only [ho, Op.operands]
   have far : lit (lk l t) = none → anil P ty (lk l t) (.sl .nil 0 []) = some false → K (.ret (BOO ne')) h.j → istep P G fr h (.gen o) fun o h' => K o h'.j := by
    intro hlit hn kk
    have hal : alit P G fr o = none := by
     unfold alit
     rw [if_neg (by rw [hopn]; simp [hev, hlit])]
    refine good (BOO ne') ?_ kk
    simp only [pop, ho, hin, hal, hev, hnl, hn]
    cases ne' <;> rfl
   unfold jnil at k
   split at k
   ·rename_i n cs hx2
    exact .inr (.inr ⟨ne', .r t, n, cs, hb0, by show some (fr.get t) = _; rw [hf t, hx2], k⟩)
   ·rename_i hx2
    refine good (BOO (!ne')) ?_ k
    have he : pureRun P (Op.equal ty (.slice none 0 0) (.slice none 0 0)) = some true := by
     show pureRun P (Op.equalIn (9999 + 1) ty _ _) = _
     rw [Op.equalIn, pureRun_bind, pureRun_underlying hu]; rfl
    have hr : pureRun P (do eqGuard (if ne' then .neq else .eql) ty (.tmp t) (.const (.slice none 0 0)) (.slice none 0 0) (.slice none 0 0); binOp (if ne' then .neq else .eql) ty (.slice none 0 0) (.slice none 0 0)) = some (.bool (!ne')) := by
     cases ne' with
     | true =>
      show pureRun P (binOp .neq ty (.slice none 0 0) (.slice none 0 0)) = _
      simp only [binOp, pureRun_bind, he, Option.bind_some, pureRun_pure]
     | false =>
      show pureRun P (binOp .eql ty (.slice none 0 0) (.slice none 0 0)) = _
      simp only [binOp, pureRun_bind, he, Option.bind_some, pureRun_pure]; rfl
    have hal : alit P G fr o = some (BOO (!ne')) := alit_binL ho (by rw [hev, hx2]; rfl) (by rw [hnl]; rfl) hr rfl
    simp only [pop, ho, hin, hal]
   ·rename_i a b c n cs hx2; exact far (by rw [hx2]; simp [lit]) (by rw [hx2]; simp [anil, hu]) k
   ·rename_i a b c hx2; exact far (by rw [hx2]; simp [lit]) (by rw [hx2]; simp [anil, hu]) k
   ·exact k.elim
  split at hb
  ·rename_i el hu; exact fin false ⟨el, hu⟩ rfl hb
  ·rename_i el hu; exact fin true ⟨el, hu⟩ rfl hb
  ·cases hb
 ·cases hb
theorem qe2 {b : Bool} {j j' : JH} : okE ⟨b, none, j, j'⟩ = (j.next ≤ j'.next ∧ j.tnext ≤ j'.tnext) := by simp [okE]
theorem qe3 {b : Bool} {o : Nat} {j j' : JH} : okE ⟨b, some o, j, j'⟩ = (j.next ≤ j'.next ∧ j.tnext ≤ j'.tnext ∧ o < j.next) := by simp [okE]
end
end Go.Proofs.YtcjlpklgnknpgaaGreatDoor.Pg
