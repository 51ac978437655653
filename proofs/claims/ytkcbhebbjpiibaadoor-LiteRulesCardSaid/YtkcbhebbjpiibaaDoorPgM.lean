/-
  Pg, part 15: what may be said less, loops, ends of calls.
-/
import Derived.Test.YtkcbhebbjpiibaaDoorPgK
set_option linter.unusedVariables false
set_option linter.unusedSimpArgs false
set_option linter.unusedSectionVars false
set_option linter.defProp false
namespace Go.Proofs.YtkcbhebbjpiibaaDoor.Pg
open Go

/-! ### Values without objects and tokens -/
mutual
def AV.pure : AV → Bool
  | .v _ | .any => true
  | .ptr _ _ | .arr _ _ _ | .mp _ => false
  | .cptr cs => AV.pures cs
  | .sl .nil _ cs => AV.pures cs
  | .sl .none _ cs => AV.pures cs
  | .sl (.own _ _ _) _ cs => false
  | .fn _ a b => AV.pures a && AV.pures b
  | .ifc _ x => AV.pure x
  | .agg cs => AV.pures cs
  | .tup cs => AV.pures cs
def AV.pures : List AV → Bool
  | [] => true
  | x :: xs => AV.pure x && AV.pures xs
end
theorem pures_append : ∀ (xs ys : List AV), AV.pures (xs ++ ys) = (AV.pures xs && AV.pures ys)
  | [], ys => by simp [AV.pures]
  | x :: xs, ys => by simp [AV.pures, pures_append xs ys, Bool.and_assoc]
mutual
theorem V.restr {no nt : Nat} {μ μ' : Mu} {w : World} (hr : Restr no nt μ μ') : ∀ (x : AV) (u : Value), AV.pure x = true → V μ w x u → V μ' w x u
  | .v _, _, _, h => by simp only [V] at h ⊢; exact h
  | .any, _, _, _ => by simp only [V]
  | .ptr _ _, _, p, _ => by simp [AV.pure] at p
  | .arr _ _ _, _, p, _ => by simp [AV.pure] at p
  | .mp _, _, p, _ => by simp [AV.pure] at p
  | .cptr cs, _, p, h => by
    simp only [V] at h ⊢; obtain ⟨b, off, e, hc⟩ := h
    exact ⟨b, off, e, Cells.restr hr cs b off (by simpa [AV.pure] using p) hc⟩
  | .sl .nil _ cs, _, p, h => by simp only [V] at h ⊢; exact h
  | .sl .none _ cs, _, p, h => by
    simp only [V] at h ⊢
    obtain ⟨A, c, e, hn, hc⟩ := h
    exact ⟨A, c, e, hn, fun hne => by obtain ⟨b, off, eA, hcs⟩ := hc hne; exact ⟨b, off, eA, Cells.restr hr cs b off (by simpa [AV.pure] using p) hcs⟩⟩
  | .sl (.own _ _ _) _ _, _, p, _ => by simp [AV.pure] at p
  | .fn f a b, _, p, h => by
    simp only [AV.pure, Bool.and_eq_true] at p
    simp only [V] at h ⊢; obtain ⟨a', b', e, h1, h2⟩ := h; exact ⟨a', b', e, Vs.restr hr a _ p.1 h1, Vs.restr hr b _ p.2 h2⟩
  | .ifc t x, _, p, h => by simp only [AV.pure] at p; simp only [V] at h ⊢; obtain ⟨y, e, hy⟩ := h; exact ⟨y, e, V.restr hr x y p hy⟩
  | .agg cs, _, p, h => by simp only [AV.pure] at p; simp only [V] at h ⊢; obtain ⟨us, e, hy⟩ := h; exact ⟨us, e, Vs.restr hr cs _ p hy⟩
  | .tup cs, _, p, h => by simp only [AV.pure] at p; simp only [V] at h ⊢; obtain ⟨us, e, hy⟩ := h; exact ⟨us, e, Vs.restr hr cs _ p hy⟩
theorem Vs.restr {no nt : Nat} {μ μ' : Mu} {w : World} (hr : Restr no nt μ μ') : ∀ (xs : List AV) (us : List Value), AV.pures xs = true → Vs μ w xs us → Vs μ' w xs us
  | [], _, _, h => by simp only [Vs] at h ⊢; exact h
  | x :: xs, _, p, h => by
    simp only [AV.pures, Bool.and_eq_true] at p
    simp only [Vs] at h ⊢
    obtain ⟨u, us', e, h1, h2⟩ := h
    exact ⟨u, us', e, V.restr hr x u p.1 h1, Vs.restr hr xs us' p.2 h2⟩
theorem Cells.restr {no nt : Nat} {μ μ' : Mu} {w : World} (hr : Restr no nt μ μ') : ∀ (xs : List AV) (b off : Nat), AV.pures xs = true → Cells μ w xs b off → Cells μ' w xs b off
  | [], _, _, _, _ => by simp only [Cells]
  | x :: xs, b, off, p, h => by
    simp only [AV.pures, Bool.and_eq_true] at p
    simp only [Cells] at h ⊢
    obtain ⟨hc, ⟨u, hu, hx⟩, hxs⟩ := h
    exact ⟨(hr.com _ _).2 hc, ⟨u, hu, V.restr hr x u p.1 hx⟩, Cells.restr hr xs b (off + 1) p.2 hxs⟩
end
section
variable {no nt : Nat}
theorem SubB.pure {x : AV} (p : x.pure = true) : SubB no nt x x := fun _ _ _ u hr h => V.restr hr x u p h
theorem SubBs.pure : ∀ {xs : List AV}, AV.pures xs = true → SubBs no nt xs xs
  | [], _ => trivial
  | x :: xs, p => by simp only [AV.pures, Bool.and_eq_true] at p; exact ⟨SubB.pure p.1, SubBs.pure p.2⟩
theorem SubB.any {x : AV} : SubB no nt x .any := fun _ _ _ _ _ _ => by simp only [V]
theorem SubB.v {x : Value} : SubB no nt (.v x) (.v x) := SubB.pure rfl
theorem SubB.ptr {o off : Nat} (h : o < no) : SubB no nt (.ptr o off) (.ptr o off) := fun μ μ' w u hr hv => by
  simp only [V] at hv ⊢; obtain ⟨b, e, q⟩ := hv; exact ⟨b, by rw [hr.obj, if_pos h]; exact e, q⟩
theorem SubB.arr {o off n : Nat} (h : o < no) : SubB no nt (.arr o off n) (.arr o off n) := fun μ μ' w u hr hv => by
  simp only [V] at hv ⊢; obtain ⟨b, c, e, q⟩ := hv; exact ⟨b, c, by rw [hr.obj, if_pos h]; exact e, q⟩
theorem SubB.mp {o : Nat} (h : o < no) : SubB no nt (.mp o) (.mp o) := fun μ μ' w u hr hv => by
  simp only [V] at hv ⊢; obtain ⟨b, e, q⟩ := hv; exact ⟨b, by rw [hr.obj, if_pos h]; exact e, q⟩
theorem SubB.own {t k s n : Nat} {cs : List AV} (h : t < nt) (p : SubBs no nt cs cs) : SubB no nt (.sl (.own t k s) n cs) (.sl (.own t k s) n cs) := fun μ μ' w u hr hv => by
  simp only [V] at hv ⊢
  obtain ⟨b, off, c, i, e, hn, hc, ht, hrest⟩ := hv
  exact ⟨b, off, c, i, e, hn, p.Cells hr hc, by rw [hr.tok, if_pos h]; exact ht, hrest⟩
theorem SubB.sl {tok : Tok} {n m : Nat} {cs ds : List AV} (e : n = m) (p : SubBs no nt cs ds) : SubB no nt (.sl tok n cs) (.sl .none m ds) := fun μ μ' w u hr hv => by
  subst e
  cases tok with
  | nil =>
    simp only [V] at hv ⊢
    obtain ⟨rfl, rfl, rfl⟩ := hv
    cases ds with
    | nil => exact ⟨none, 0, rfl, Nat.le_refl _, fun h => (h rfl).elim⟩
    | cons _ _ => exact p.elim
  | none =>
    simp only [V] at hv ⊢
    obtain ⟨A, c, e, hn, hc⟩ := hv
    refine ⟨A, c, e, hn, fun hne => ?_⟩
    cases cs with
    | nil => cases ds with
      | nil => exact (hne rfl).elim
      | cons _ _ => exact p.elim
    | cons x xs =>
      obtain ⟨b, off, eA, hcs⟩ := hc (by simp)
      exact ⟨b, off, eA, p.Cells hr hcs⟩
  | own t k s =>
    simp only [V] at hv ⊢
    obtain ⟨b, off, c, i, e, hn, hc, ht, hrest⟩ := hv
    exact ⟨_, c, e, hn, fun _ => ⟨b, off, rfl, p.Cells hr hc⟩⟩
theorem SubB.agg {xs ys : List AV} (p : SubBs no nt xs ys) : SubB no nt (.agg xs) (.agg ys) := fun μ μ' w u hr hv => by
  simp only [V] at hv ⊢; obtain ⟨us, e, h⟩ := hv; exact ⟨us, e, p.Vs hr h⟩
theorem SubB.tup {xs ys : List AV} (p : SubBs no nt xs ys) : SubB no nt (.tup xs) (.tup ys) := fun μ μ' w u hr hv => by
  simp only [V] at hv ⊢; obtain ⟨us, e, h⟩ := hv; exact ⟨us, e, p.Vs hr h⟩
theorem SubB.ifc {t : TypeId} {x y : AV} (p : SubB no nt x y) : SubB no nt (.ifc t x) (.ifc t y) := fun μ μ' w u hr hv => by
  simp only [V] at hv ⊢; obtain ⟨us, e, h⟩ := hv; exact ⟨us, e, p _ _ _ _ hr h⟩
theorem SubB.fn {f : Fn} {a b c d : List AV} (p : SubBs no nt a c) (q : SubBs no nt b d) : SubB no nt (.fn f a b) (.fn f c d) := fun μ μ' w u hr hv => by
  simp only [V] at hv ⊢; obtain ⟨x, y, e, h1, h2⟩ := hv; exact ⟨x, y, e, p.Vs hr h1, q.Vs hr h2⟩
theorem SubB.cptr {xs ys : List AV} (p : SubBs no nt xs ys) : SubB no nt (.cptr xs) (.cptr ys) := fun μ μ' w u hr hv => by
  simp only [V] at hv ⊢; obtain ⟨b, off, e, h⟩ := hv; exact ⟨b, off, e, p.Cells hr h⟩
theorem SubBs.append : ∀ {xs ys us vs : List AV}, SubBs no nt xs us → SubBs no nt ys vs → SubBs no nt (xs ++ ys) (us ++ vs)
  | [], _, [], _, _, k => k
  | x :: xs, _, u :: us, _, h, k => ⟨h.1, SubBs.append h.2 k⟩
  | [], _, _ :: _, _, h, _ => h.elim
  | _ :: _, _, [], _, h, _ => h.elim
end

/-! ### Heaps that may be forgotten -/
theorem JDropH.refl (j : JH) : JDropH j j j := ⟨Nat.le_refl _, Nat.le_refl _, Nat.le_refl _, Nat.le_refl _, fun o ob h e => .inl ⟨h, e, e⟩, fun _ _ => rfl⟩
structure TokExt (j j1 : JH) : Prop where
  next : j1.next = j.next
  get : ∀ o, o < j.next → j1.get o = j.get o
  tnext : j.tnext ≤ j1.tnext
  tok : ∀ t, t < j.tnext → j1.tok t = j.tok t
theorem TokExt.refl (j : JH) : TokExt j j := ⟨rfl, fun _ _ => rfl, Nat.le_refl _, fun _ _ => rfl⟩
theorem TokExt.trans {a b c : JH} (h : TokExt a b) (k : TokExt b c) : TokExt a c :=
  ⟨k.next.trans h.next, fun o ho => (k.get o (by rw [h.next]; exact ho)).trans (h.get o ho), Nat.le_trans h.tnext k.tnext, fun t ht => (k.tok t (Nat.lt_of_lt_of_le ht h.tnext)).trans (h.tok t ht)⟩
theorem TokExt.push {j j1 : JH} (h : TokExt j j1) (F : Nat) : TokExt j (j1.pushTok F) :=
  ⟨h.next, h.get, Nat.le_trans h.tnext (Nat.le_succ _), fun t ht => by
    show (if t = j1.tnext then some F else j1.tok t) = _
    rw [if_neg (by have := h.tnext; omega)]; exact h.tok t ht⟩
theorem TokExt.setT {j j1 : JH} (h : TokExt j j1) {t : Nat} (ht : j.tnext ≤ t) (F : Nat) : TokExt j (j1.setTok t F) :=
  ⟨h.next, h.get, h.tnext, fun p hp => by
    show (if p = t then some F else j1.tok p) = _
    rw [if_neg (by omega)]; exact h.tok p hp⟩
theorem JDropH.of_ext {j j' J : JH} (h : JDropH j j' J) : JDropH (ext j []) j' J :=
  ⟨h.lo, h.hi, h.tlo, h.thi, fun o ob ho e => by
    rcases h.obj o ob ho e with ⟨h1, h2, h3⟩ | h
    · exact .inl ⟨h1, by rw [ext_get_old h1]; exact h2, h3⟩
    · exact .inr h, h.tok⟩
/-- All that is new is forgotten. -/
theorem JDropH.back {j j1 : JH} {l : List AObj} (h : TokExt j j1) : JDropH j (ext j1 l) j := by
  refine ⟨Nat.le_refl _, ?_, Nat.le_refl _, h.tnext, fun o ob ho e => .inl ⟨ho, ?_, ?_⟩, fun t ht => (h.tok t ht).symm⟩
  · rw [ext_next, h.next]; unfold pid; omega
  all_goals
    rw [ext_get_old (by rw [h.next]; exact ho), h.get o ho] at e; exact e
theorem OSub.pure {no nt : Nat} {t : TypeId} {cs : List AV} (p : AV.pures cs = true) : OSub no nt (.cells t cs) (.cells t cs) := ⟨rfl, SubBs.pure p⟩
/-- .. but what was written to one old object. -/
theorem JDropH.back1 {j j1 : JH} {l : List AObj} {o : Nat} {x : AObj} (h : TokExt (j.set o x) j1) (ho : o < j.next) (hx : OSub j.next j.tnext x x) : JDropH j (ext j1 l) (j.set o x) := by
  refine ⟨Nat.le_refl _, ?_, Nat.le_refl _, h.tnext, fun p ob hp e => ?_, fun t ht => (h.tok t ht).symm⟩
  · rw [ext_next, h.next]; unfold pid; simp only [set_next]; omega
  · simp only [set_next] at hp
    rw [ext_get_old (by rw [h.next]; exact hp), h.get p hp, set_get] at e
    by_cases hpo : p = o
    · subst hpo
      rw [if_pos rfl] at e; cases e
      exact .inr ⟨_, by rw [set_get, if_pos rfl], hx⟩
    · rw [if_neg hpo] at e
      exact .inl ⟨hp, e, by rw [set_get, if_neg hpo]; exact e⟩
theorem pid_lt {b k n : Nat} : (pid b k < pid b n) = (k < n) := by unfold pid; simp
theorem pid_lt' {b k n : Nat} (h : b < n) : b < pid n k := by unfold pid; omega

/-- New objects of a loop's round: kept (k), as they were at its head (a), as they are now (b), as they shall read. -/
def LSub (no nt : Nat) : List AObj → List AObj → List AObj → Prop
  | [], _, [] => True
  | a :: l, b :: m, c :: n => ((a = b ∧ b = c) ∨ OSub no nt b c) ∧ LSub no nt l m n
  | _, _, _ => False
theorem LSub.get {no nt : Nat} : ∀ {l m n : List AObj}, LSub no nt l m n → n.length = l.length ∧ n.length ≤ m.length ∧ ∀ k b, k < n.length → m[k]? = some b → (l[k]? = some b ∧ n[k]? = some b) ∨ ∃ c, n[k]? = some c ∧ OSub no nt b c
  | [], m, [], _ => ⟨rfl, Nat.zero_le _, fun k b hk => by simp at hk⟩
  | a :: l, b :: m, c :: n, h => by
    obtain ⟨h1, h2⟩ := h
    obtain ⟨i1, i2, i3⟩ := LSub.get h2
    refine ⟨by simp [i1], by simp; exact i2, fun k x hk e => ?_⟩
    cases k with
    | zero =>
      simp at e; subst e
      rcases h1 with ⟨rfl, rfl⟩ | h1
      · exact .inl ⟨rfl, rfl⟩
      · exact .inr ⟨c, rfl, h1⟩
    | succ k =>
      simp at e hk ⊢
      exact i3 k x hk e
  | [], _, _ :: _, h => h.elim
  | _ :: _, [], _, h => h.elim
  | _ :: _, _ :: _, [], h => h.elim
/-- From the heap at a loop's head over the heap behind the round to the next head's. -/
theorem JDropH.next {j j1 j2 : JH} {l m n : List AObj} (h : TokExt j2 j1) (hn : j2.next = j.next) (ht : j.tnext ≤ j2.tnext) (hg : ∀ o ob, o < j.next → j2.get o = some ob → j.get o = some ob ∨ OSub (pid j.next n.length) j2.tnext ob ob) (hl : LSub (pid j.next n.length) j2.tnext l m n) : JDropH (ext j l) (ext j1 m) (ext j2 n) := by
  obtain ⟨i1, i2, i3⟩ := hl.get
  have e1 : j1.next = j.next := h.next.trans hn
  refine ⟨?_, ?_, ht, h.tnext, fun o ob ho e => ?_, fun t ht => (h.tok t ht).symm⟩
  · simp only [ext_next, pid]; omega
  · simp only [ext_next, pid]; omega
  · simp only [ext_next, pid] at ho ⊢
    by_cases hlt : o < j.next
    · rw [ext_get_old (by omega), h.get o (by omega)] at e
      rcases hg o ob hlt e with q | q
      · exact .inl ⟨by omega, by rw [ext_get_old hlt]; exact q, by rw [ext_get_old (by omega)]; exact e⟩
      · refine .inr ⟨ob, by rw [ext_get_old (by omega)]; exact e, ?_⟩
        rw [hn]; exact q
    · have ek : o = pid j.next (o - j.next) := by unfold pid; omega
      rw [ek, ext_get_new e1] at e
      rcases i3 (o - j.next) ob (by omega) e with ⟨q1, q2⟩ | ⟨c, q1, q2⟩
      · exact .inl ⟨by omega, by rw [ek, ext_get_new rfl]; exact q1, by rw [ek, ext_get_new hn]; exact q2⟩
      · refine .inr ⟨c, by rw [ek, ext_get_new hn]; exact q1, ?_⟩
        rw [hn]; exact q2
theorem JDropH.next0 {j j1 : JH} {l m n : List AObj} (h : TokExt j j1) (hl : LSub (pid j.next n.length) j.tnext l m n) : JDropH (ext j l) (ext j1 m) (ext j n) :=
  JDropH.next h rfl (Nat.le_refl _) (fun _ _ _ e => .inl e) hl

/-! ### Frames -/
def DL (no nt : Nat) (l' : L) : L → Prop
  | [] => True
  | (t, x) :: r => SubB no nt (lk l' t) x ∧ DL no nt l' r
theorem DL.drop {no nt : Nat} {l' : L} : ∀ {l : L}, DL no nt l' l → ∀ i, SubB no nt (lk l' i) (lk l i)
  | [], _, i => SubB.any
  | (t, x) :: r, h, i => by
    simp only [lk]
    by_cases e : i = t
    · subst e; rw [if_pos rfl]; exact h.1
    · rw [if_neg e]; exact h.2.drop i

section
variable {P : Program} {G : Nat → Option (List AV)} {l : L} {j : JH}
theorem JLOOP.of {a : IR} {Q : AX → L → JH → Prop} {σ : Type} (I : σ → Prop) (μ : σ → Nat) (F : σ → L) (H : σ → JH) (s0 : σ) (h0 : I s0) (d1 : DL (H s0).next (H s0).tnext l (F s0)) (d2 : JDropH j j (H s0))
    (step : ∀ s, I s → jwp P G a (F s) (H s) (jloopQ (fun n l j => ∃ s, I s ∧ μ s = n ∧ l = F s ∧ j = H s) Q (μ s) (H s))) : @JLOOP P G a l j ⟨Q⟩ := by
  refine ⟨fun n l j => ∃ s, I s ∧ μ s = n ∧ l = F s ∧ j = H s, ⟨μ s0, F s0, H s0, d1.drop, d2, s0, h0, rfl, rfl, rfl⟩, ?_⟩
  rintro n l1 j1 ⟨s, hs, rfl, rfl, rfl⟩
  exact step s hs
theorem JNEXT.of {σ : Type} {I : σ → Prop} {μ : σ → Nat} {F : σ → L} {H : σ → JH} {n : Nat} {j1 : JH} {l' : L} {j' : JH} (s : σ) (hs : I s) (hm : μ s < n) (d1 : DL (H s).next (H s).tnext l' (F s)) (d2 : JDropH j1 j' (H s)) :
    JNEXT (fun n l j => ∃ s, I s ∧ μ s = n ∧ l = F s ∧ j = H s) n j1 l' j' := ⟨μ s, F s, H s, hm, d1.drop, d2, s, hs, rfl, rfl, rfl⟩

/-! ### Calls that hand back one thing -/
def RET (Y : AV) (J : JH) : AOut → JH → Prop := fun o j' => o = .ret Y ∧ j' = J
theorem JFIN.ret {j0 j' J : JH} {v Y : AV} (d : JDropH j0 j' J) (s : SubB J.next J.tnext v Y) : @JFIN j0 j' v ⟨fun y j' => RET Y J (.ret y) j'⟩ := ⟨Y, J, d, s, rfl, rfl⟩
theorem JFIN.of {j0 j' J : JH} {v Y : AV} {K : AV → JH → Prop} (d : JDropH j0 j' J) (s : SubB J.next J.tnext v Y) (k : K Y J) : @JFIN j0 j' v ⟨K⟩ := ⟨Y, J, d, s, k⟩
theorem JCs.ret {f : FuncId} {args : List AV} {Y : AV} {J : JH} {K : AOut → JH → Prop} (h : JC P G f args j (RET Y J)) (k : K (.ret Y) J) : @JCs P G f args j ⟨K⟩ :=
  JC.mono h fun o j' ⟨e1, e2⟩ => by subst e1; subst e2; exact k

theorem JDC.use {f : FuncId} {args : List AV} {Y : AV} {J : JH} {K : AV → JH → Prop} (h : JC P G f args j (RET Y J)) (k : K Y J) : @JDC P G f args j ⟨K⟩ := ⟨Y, J, h, k⟩

/-! ### The heap beyond its end says nothing -/
theorem R.low {B0 : Nat} {μ : Mu} {h h0 : AH} {w : World} (e1 : h0.next = h.next) (e2 : ∀ o, o < h.next → h0.get o = h.get o) (e3 : h0.tnext = h.tnext) (e4 : h0.tok = h.tok) (r : R B0 G μ h w) : R B0 G μ h0 w := by
  refine ⟨r.base, fun o b q => ?_, r.inj, r.com, fun t i q => by rw [e4]; exact r.tok t i q, r.tinj, r.sep, fun o ho => r.next o (by omega), fun t ht => r.tnext t (by omega), r.glob⟩
  have : o < h.next := by
    rcases Nat.lt_or_ge o h.next with q1 | q1
    · exact q1
    · rw [r.next o q1] at q; cases q
  rw [e2 o this]; exact r.obj o b q
theorem CALL.low {f : FuncId} {args : List AV} {h h0 : AH} {Q : AOut → AH → Prop} (e1 : h0.next = h.next) (e2 : ∀ o, o < h.next → h0.get o = h.get o) (e3 : h0.tnext = h.tnext) (e4 : h0.tok = h.tok) (c : CALL P G f args h0 Q) : CALL P G f args h Q :=
  fun B0 μ w vs r hv => (c B0 μ w vs (r.low e1 e2 e3 e4) hv).mono fun _ _ ⟨o, h', q, μ', st, p⟩ =>
    ⟨o, h', q, μ', ⟨st.le, st.r, st.size, st.keep, st.com, by rw [← e1]; exact st.next, by rw [← e3]; exact st.tnext, fun o b q => by rw [← e1]; exact st.newo o b q, fun t i q => by rw [← e3]; exact st.newt t i q, st.newc, st.env⟩, p⟩
theorem JC.low {f : FuncId} {args : List AV} {Q : AOut → JH → Prop} (c : JC P G f args (ext j []) Q) : JC P G f args j Q := by
  rintro h rfl
  refine CALL.low (h0 := (ext h.j []).a) rfl (fun o ho => ?_) rfl rfl (c _ rfl)
  show (ext h.j []).get o = _
  rw [ext_get_old (show o < h.j.next from ho)]; rfl
theorem JC.run (hmix : P.follows .mixedOrders = true) {f : FuncId} {k : IFn} (hf : cfunc P f = some k) {args : List AV} (hok : okIR (max args.length k.n) k.ir = true) {Q : AOut → JH → Prop}
    (hw : jwp P G k.ir (args0 0 args) (ext j []) (jend k.rs (ext j []) Q)) : JC P G f args j Q := JC.low (JC.of_ir hmix hf hok hw)
end
end Go.Proofs.YtkcbhebbjpiibaaDoor.Pg
