/-
  Pg, part 9: contracts as predicates: calls, statements, loops; what may be forgotten.
-/
import Derived.Test.YtkcbhebbjpiibaaDoorPgExec
set_option linter.unusedVariables false
set_option linter.unusedSimpArgs false
set_option linter.unusedSectionVars false
namespace Go.Proofs.YtkcbhebbjpiibaaDoor.Pg
open Go

section
variable {P : Program} {B0 : Nat} {G : Nat → Option (List AV)}

/-- What a call does. -/
def CALL (P : Program) (G : Nat → Option (List AV)) (f : FuncId) (args : List AV) (h : AH) (Q : AOut → AH → Prop) : Prop :=
  ∀ B0 μ w vs, R B0 G μ h w → Vs μ w args vs → Calls P f vs.toArray w fun e w' => ∃ out h', Q out h' ∧ Post B0 G μ h w out h' e w'
theorem CALL.mono {f : FuncId} {args : List AV} {h : AH} {Q Q' : AOut → AH → Prop} (c : CALL P G f args h Q) (hq : ∀ o h', Q o h' → Q' o h') : CALL P G f args h Q' :=
  fun B0 μ w vs r hv => (c B0 μ w vs r hv).mono fun _ _ ⟨o, h', q, p⟩ => ⟨o, h', hq o h' q, p⟩
theorem CALL.of_call {call : FuncId → List AV → AH → Option (AOut × AH)} (hc : ∀ B0, CallOk P B0 G call) {f : FuncId} {args : List AV} {h h' : AH} {out : AOut} (e : call f args h = some (out, h')) :
    CALL P G f args h fun o k => o = out ∧ k = h' :=
  fun B0 μ w vs r hv => (hc B0 f args h out h' e μ w vs r hv).mono fun _ _ p => ⟨out, h', ⟨rfl, rfl⟩, p⟩

/-- What a statement does. -/
def WP (P : Program) (G : Nat → Option (List AV)) (c : Code) (fr : Fr) (h : AH) (Q : AX → Fr → AH → Prop) : Prop :=
  ∀ B0 μ w a, R B0 G μ h w → FrRel μ w fr a → c.wp P (fun e a' w' => ∃ x fr' h', Q x fr' h' ∧ Fin B0 G μ h w x fr' h' e a' w') a w
def thenQ (K : Fr → AH → Prop) (Q : AX → Fr → AH → Prop) : AX → Fr → AH → Prop
  | .norm, fr, h => K fr h
  | .exit j, fr, h => Q (.exit j) fr h
  | .ret, fr, h => Q .ret fr h
  | .pan x, fr, h => Q (.pan x) fr h
def blockQ (id : Nat) (Q : AX → Fr → AH → Prop) : AX → Fr → AH → Prop
  | .exit j, fr, h => if j = id then Q .norm fr h else Q (.exit j) fr h
  | .norm, fr, h => Q .norm fr h
  | .ret, fr, h => Q .ret fr h
  | .pan x, fr, h => Q (.pan x) fr h
variable {fr : Fr} {h : AH} {Q : AX → Fr → AH → Prop} {c d : Code}
theorem WP.mono {Q' : AX → Fr → AH → Prop} (k : WP P G c fr h Q) (hq : ∀ x fr h, Q x fr h → Q' x fr h) : WP P G c fr h Q' :=
  fun B0 μ w a r f => wp_mono (k B0 μ w a r f) fun _ _ _ ⟨x, fr', h', q, z⟩ => ⟨x, fr', h', hq _ _ _ q, z⟩
theorem WP.skip (q : Q .norm fr h) : WP P G .skip fr h Q := fun _ μ _ _ r f => wp_skip ⟨.norm, fr, h, q, μ, Step.refl r, f, rfl⟩
theorem WP.label {l : Nat} (q : Q .norm fr h) : WP P G (.label l) fr h Q := fun _ μ _ _ r f => wp_label ⟨.norm, fr, h, q, μ, Step.refl r, f, rfl⟩
theorem WP.exit {id : Nat} (q : Q (.exit id) fr h) : WP P G (.exit id) fr h Q := fun _ μ _ _ r f => wp_exit ⟨.exit id, fr, h, q, μ, Step.refl r, f, rfl⟩
theorem WP.ret (q : Q .ret fr h) : WP P G .ret fr h Q := fun _ μ _ _ r f => wp_ret ⟨.ret, fr, h, q, μ, Step.refl r, f, rfl⟩
theorem WP.seq (k : WP P G c fr h (thenQ (fun fr h => WP P G d fr h Q) Q)) : WP P G (.seq c d) fr h Q := fun B0 μ w a r f => by
  refine wp_seq (wp_mono (k B0 μ w a r f) ?_)
  rintro ex a1 w1 ⟨x, fr1, h1, q, μ1, st, f1, hex⟩
  cases x with
  | norm =>
    simp only [ExRel] at hex; subst hex
    exact wp_mono (q B0 μ1 w1 a1 st.r f1) fun e' a' w' ⟨x, fr', h', q', z⟩ => ⟨x, fr', h', q', z.trans st⟩
  | exit id => simp only [ExRel] at hex; subst hex; exact ⟨_, _, _, q, μ1, st, f1, rfl⟩
  | ret => simp only [ExRel] at hex; subst hex; exact ⟨_, _, _, q, μ1, st, f1, rfl⟩
  | pan z => obtain ⟨u, rfl, hv⟩ := hex; exact ⟨_, _, _, q, μ1, st, f1, u, rfl, hv⟩
theorem WP.cond {o : Operand} {b : Bool} (e : aev G fr o = some (.v (.bool b))) (k : WP P G (if b then c else d) fr h Q) : WP P G (.cond o c d) fr h Q := fun B0 μ w a r f => by
  have hv := aev_V r.glob f e
  simp only [V] at hv
  exact wp_cond hv.2 (k B0 μ w a r f)
theorem WP.block {id : Nat} (k : WP P G c fr h (blockQ id Q)) : WP P G (.block id c) fr h Q := fun B0 μ w a r f => by
  refine wp_block (wp_mono (k B0 μ w a r f) ?_)
  rintro ex a1 w1 ⟨x, fr1, h1, q, μ1, st, f1, hex⟩
  cases x with
  | norm => simp only [ExRel] at hex; subst hex; exact ⟨_, _, _, q, μ1, st, f1, rfl⟩
  | exit j =>
    simp only [ExRel] at hex; subst hex
    simp only [Exit.inBlock]
    simp only [blockQ] at q
    by_cases hj : j = id
    · rw [if_pos hj] at q ⊢; exact ⟨_, _, _, q, μ1, st, f1, rfl⟩
    · rw [if_neg hj] at q ⊢; exact ⟨_, _, _, q, μ1, st, f1, rfl⟩
  | ret => simp only [ExRel] at hex; subst hex; exact ⟨_, _, _, q, μ1, st, f1, rfl⟩
  | pan z => obtain ⟨u, rfl, hv⟩ := hex; exact ⟨_, _, _, q, μ1, st, f1, u, rfl, hv⟩

/-! ### What may be forgotten -/
structure Restr (no nt : Nat) (μ μ' : Mu) : Prop where
  obj : ∀ o, μ'.obj o = if o < no then μ.obj o else none
  tok : ∀ t, μ'.tok t = if t < nt then μ.tok t else none
  com : ∀ b off, μ'.com b off ↔ μ.com b off
/-- All that 'x' says, 'y' may say, where objects and tokens beyond two bounds are forgotten. -/
def SubB (no nt : Nat) (x y : AV) : Prop := ∀ μ μ' w u, Restr no nt μ μ' → V μ w x u → V μ' w y u
def SubBs (no nt : Nat) : List AV → List AV → Prop
  | [], [] => True
  | x :: xs, y :: ys => SubB no nt x y ∧ SubBs no nt xs ys
  | _, _ => False
theorem SubBs.Vs {no nt : Nat} : ∀ {xs ys : List AV}, SubBs no nt xs ys → ∀ {μ μ' : Mu} {w : World} {us : List Value}, Restr no nt μ μ' → Vs μ w xs us → Vs μ' w ys us
  | [], [], _, μ, μ', w, us, _, hv => by simp only [Pg.Vs] at hv ⊢; exact hv
  | x :: xs, y :: ys, hs, μ, μ', w, us, hr, hv => by
    simp only [Pg.Vs] at hv ⊢
    obtain ⟨u, us', e, h1, h2⟩ := hv
    exact ⟨u, us', e, hs.1 μ μ' w u hr h1, hs.2.Vs hr h2⟩
  | [], _ :: _, hs, _, _, _, _, _, _ => hs.elim
  | _ :: _, [], hs, _, _, _, _, _, _ => hs.elim
theorem SubBs.Cells {no nt : Nat} : ∀ {xs ys : List AV}, SubBs no nt xs ys → ∀ {μ μ' : Mu} {w : World} {b off : Nat}, Restr no nt μ μ' → Cells μ w xs b off → Cells μ' w ys b off
  | [], [], _, μ, μ', w, b, off, _, hv => by simp only [Pg.Cells]
  | x :: xs, y :: ys, hs, μ, μ', w, b, off, hr, hv => by
    simp only [Pg.Cells] at hv ⊢
    obtain ⟨h0, ⟨u, hu, h1⟩, h2⟩ := hv
    exact ⟨(hr.com _ _).2 h0, ⟨u, hu, hs.1 μ μ' w u hr h1⟩, hs.2.Cells hr h2⟩
  | [], _ :: _, hs, _, _, _, _, _, _, _ => hs.elim
  | _ :: _, [], hs, _, _, _, _, _, _, _ => hs.elim
def OSub (no nt : Nat) : AObj → AObj → Prop
  | .cells e xs, .cells e' ys => e = e' ∧ SubBs no nt xs ys
  | .map es, .map es' => es.map (·.1) = es'.map (·.1) ∧ SubBs no nt (es.map (·.2)) (es'.map (·.2))
  | _, .dead => True
  | _, _ => False
theorem OSub.ORel {no nt : Nat} {ob ob' : AObj} (hs : OSub no nt ob ob') {μ μ' : Mu} {w : World} {b : Nat} (hr : Restr no nt μ μ') (ho : ORel μ w ob b) : ORel μ' w ob' b := by
  cases ob' with
  | dead => exact ho.lt
  | cells e' ys =>
    cases ob with
    | cells e xs =>
      obtain ⟨rfl, hs⟩ := hs
      obtain ⟨vs, hv, hc⟩ := ho
      exact ⟨vs, hv, hs.Vs hr hc⟩
    | _ => exact hs.elim
  | map es' =>
    cases ob with
    | map es =>
      obtain ⟨hk, hs⟩ := hs
      obtain ⟨ents, clock, hv, hk', hc⟩ := ho
      exact ⟨ents, clock, hv, hk'.trans hk, hs.Vs hr hc⟩
    | _ => exact hs.elim

section
variable {μ0 μ1 μ2 : Mu} (hobj : ∀ o, μ0.obj o ≠ none → μ2.obj o = μ1.obj o) (htok : ∀ t, μ0.tok t ≠ none → μ2.tok t = μ1.tok t) (hcom : ∀ b off, μ1.com b off → μ2.com b off)
include hobj htok hcom
mutual
/-- What was known before names nothing new. -/
theorem V.dom {w0 w : World} : ∀ (x : AV) (u0 u : Value), V μ0 w0 x u0 → V μ1 w x u → V μ2 w x u
  | .v _, _, _, _, hv => by simp only [V] at hv ⊢; exact hv
  | .ptr o off, _, _, h0, hv => by
    simp only [V] at h0 hv ⊢
    obtain ⟨b0, e0, _⟩ := h0
    obtain ⟨b, e, eu⟩ := hv
    exact ⟨b, (hobj o (by rw [e0]; simp)).trans e, eu⟩
  | .arr o off n, _, _, h0, hv => by
    simp only [V] at h0 hv ⊢
    obtain ⟨b0, _, e0, _⟩ := h0
    obtain ⟨b, c, e, eu⟩ := hv
    exact ⟨b, c, (hobj o (by rw [e0]; simp)).trans e, eu⟩
  | .mp o, _, _, h0, hv => by
    simp only [V] at h0 hv ⊢
    obtain ⟨b0, e0, _⟩ := h0
    obtain ⟨b, e, eu⟩ := hv
    exact ⟨b, (hobj o (by rw [e0]; simp)).trans e, eu⟩
  | .cptr cs, _, _, h0, hv => by
    simp only [V] at h0 hv ⊢
    obtain ⟨b0, off0, _, h0⟩ := h0
    obtain ⟨b, off, e, hc⟩ := hv
    exact ⟨b, off, e, Cells.dom cs b0 off0 b off h0 hc⟩
  | .sl .nil n cs, _, _, h0, hv => by simp only [V] at hv ⊢; exact hv
  | .sl .none n cs, _, _, h0, hv => by
    simp only [V] at h0 hv ⊢
    obtain ⟨A0, c0, _, _, h0⟩ := h0
    obtain ⟨A, c, e, hn, hc⟩ := hv
    refine ⟨A, c, e, hn, fun hne => ?_⟩
    obtain ⟨b0, off0, _, h0⟩ := h0 hne
    obtain ⟨b, off, eA, hc⟩ := hc hne
    exact ⟨b, off, eA, Cells.dom cs b0 off0 b off h0 hc⟩
  | .sl (.own t k s) n cs, _, _, h0, hv => by
    simp only [V] at h0 hv ⊢
    obtain ⟨b0, off0, c0, i0, _, _, h0, ht0, _⟩ := h0
    obtain ⟨b, off, c, i, e, hn, hc, ht, rest⟩ := hv
    exact ⟨b, off, c, i, e, hn, Cells.dom cs b0 off0 b off h0 hc, (htok t (by rw [ht0]; simp)).trans ht, rest⟩
  | .fn f first cap, _, _, h0, hv => by
    simp only [V] at h0 hv ⊢
    obtain ⟨a0, b0, _, h1, h2⟩ := h0
    obtain ⟨a, b, e, h3, h4⟩ := hv
    exact ⟨a, b, e, Vs.dom first _ _ h1 h3, Vs.dom cap _ _ h2 h4⟩
  | .ifc t x, _, _, h0, hv => by
    simp only [V] at h0 hv ⊢
    obtain ⟨y0, _, h0⟩ := h0
    obtain ⟨y, e, hy⟩ := hv
    exact ⟨y, e, V.dom x _ _ h0 hy⟩
  | .agg cs, _, _, h0, hv => by
    simp only [V] at h0 hv ⊢
    obtain ⟨y0, _, h0⟩ := h0
    obtain ⟨y, e, hy⟩ := hv
    exact ⟨y, e, Vs.dom cs _ _ h0 hy⟩
  | .tup cs, _, _, h0, hv => by
    simp only [V] at h0 hv ⊢
    obtain ⟨y0, _, h0⟩ := h0
    obtain ⟨y, e, hy⟩ := hv
    exact ⟨y, e, Vs.dom cs _ _ h0 hy⟩
  | .any, _, _, _, _ => by simp only [V]
theorem Vs.dom {w0 w : World} : ∀ (xs : List AV) (u0 u : List Value), Vs μ0 w0 xs u0 → Vs μ1 w xs u → Vs μ2 w xs u
  | [], _, _, _, hv => by simp only [Vs] at hv ⊢; exact hv
  | x :: xs, _, _, h0, hv => by
    simp only [Vs] at h0 hv ⊢
    obtain ⟨u0, us0, _, h1, h2⟩ := h0
    obtain ⟨u, us, e, h3, h4⟩ := hv
    exact ⟨u, us, e, V.dom x _ _ h1 h3, Vs.dom xs _ _ h2 h4⟩
theorem Cells.dom {w0 w : World} : ∀ (xs : List AV) (b0 off0 b off : Nat), Cells μ0 w0 xs b0 off0 → Cells μ1 w xs b off → Cells μ2 w xs b off
  | [], _, _, _, _, _, hv => by simp only [Cells]
  | x :: xs, _, _, _, _, h0, hv => by
    simp only [Cells] at h0 hv ⊢
    obtain ⟨_, ⟨u0, _, h1⟩, h2⟩ := h0
    obtain ⟨c, ⟨u, e, h3⟩, h4⟩ := hv
    exact ⟨hcom _ _ c, ⟨u, e, V.dom x _ _ h1 h3⟩, Cells.dom xs _ _ _ _ h2 h4⟩
end
theorem ORel.dom {w0 w : World} {ob : AObj} {b0 b : Nat} (h0 : ORel μ0 w0 ob b0) (ho : ORel μ1 w ob b) : ORel μ2 w ob b := by
  cases ob with
  | dead => exact ho
  | cells e cs =>
    obtain ⟨_, _, h0⟩ := h0
    obtain ⟨vs, hv, hc⟩ := ho
    exact ⟨vs, hv, Vs.dom hobj htok hcom _ _ _ h0 hc⟩
  | map es =>
    obtain ⟨_, _, _, _, h0⟩ := h0
    obtain ⟨ents, clock, hv, hk, hc⟩ := ho
    exact ⟨ents, clock, hv, hk, Vs.dom hobj htok hcom _ _ _ h0 hc⟩
end

/-- From a heap 'h'', reached from 'hs', to 'h''': what is new may be forgotten, and what is kept may say less. -/
structure DropH (hs h' h'' : AH) : Prop where
  lo : hs.next ≤ h''.next
  hi : h''.next ≤ h'.next
  tlo : hs.tnext ≤ h''.tnext
  thi : h''.tnext ≤ h'.tnext
  obj : ∀ o ob, o < h''.next → h'.get o = some ob → (o < hs.next ∧ hs.get o = some ob ∧ h''.get o = some ob) ∨ ∃ ob'', h''.get o = some ob'' ∧ OSub h''.next h''.tnext ob ob''
  tok : ∀ t, t < h''.tnext → h''.tok t = h'.tok t
structure Drop (hs : AH) (fr' : Fr) (h' : AH) (fr'' : Fr) (h'' : AH) : Prop where
  n : fr''.n = fr'.n
  fr : ∀ i, SubB h''.next h''.tnext (fr'.get i) (fr''.get i)
  hp : DropH hs h' h''

theorem DropH.step {hs h' h'' : AH} (k : DropH hs h' h'') {μ μ' : Mu} {w w' : World} (r : R B0 G μ hs w) (st : Step B0 G μ hs w μ' h' w') :
    ∃ μ'', Restr h''.next h''.tnext μ' μ'' ∧ Step B0 G μ hs w μ'' h'' w' := by
  let μ2 : Mu := { obj := fun o => if o < h''.next then μ'.obj o else none, com := μ'.com, tok := fun t => if t < h''.tnext then μ'.tok t else none }
  have hr : Restr h''.next h''.tnext μ' μ2 := ⟨fun _ => rfl, fun _ => rfl, fun _ _ => Iff.rfl⟩
  have ho2 : ∀ o b, μ2.obj o = some b → o < h''.next ∧ μ'.obj o = some b := fun o b e => by
    simp only [μ2] at e; split at e
    · exact ⟨‹_›, e⟩
    · cases e
  have ht2 : ∀ t i, μ2.tok t = some i → t < h''.tnext ∧ μ'.tok t = some i := fun o b e => by
    simp only [μ2] at e; split at e
    · exact ⟨‹_›, e⟩
    · cases e
  have hold : ∀ o, μ.obj o ≠ none → o < hs.next := fun o ho => by
    rcases Nat.lt_or_ge o hs.next with q | q
    · exact q
    · exact absurd (r.next o q) ho
  have holdt : ∀ o, μ.tok o ≠ none → o < hs.tnext := fun o ho => by
    rcases Nat.lt_or_ge o hs.tnext with q | q
    · exact q
    · exact absurd (r.tnext o q) ho
  have hobj : ∀ o, μ.obj o ≠ none → μ2.obj o = μ'.obj o := fun o ho => by simp only [μ2]; rw [if_pos (Nat.lt_of_lt_of_le (hold o ho) k.lo)]
  have htok : ∀ o, μ.tok o ≠ none → μ2.tok o = μ'.tok o := fun o ho => by simp only [μ2]; rw [if_pos (Nat.lt_of_lt_of_le (holdt o ho) k.tlo)]
  refine ⟨μ2, hr, ⟨⟨fun o b e => ?_, fun b off e => st.le.com b off e, fun t i e => ?_⟩, ?_, st.size, st.keep, st.com, k.lo, k.tlo, fun o b e => st.newo o b (ho2 o b e).2, fun t i e => st.newt t i (ht2 t i e).2, fun b off e => st.newc b off e, st.env⟩⟩
  · rw [hobj o (by rw [e]; simp)]; exact st.le.obj o b e
  · rw [htok t (by rw [e]; simp)]; exact st.le.tok t i e
  · refine ⟨st.r.base, fun o b e => ?_, fun o o' b e e' => st.r.inj o o' b (ho2 o b e).2 (ho2 o' b e').2, fun b off e => ?_, fun t i e => ?_, fun t t' i i' e e' hb => st.r.tinj t t' i i' (ht2 t i e).2 (ht2 t' i' e').2 hb,
      fun t i o e e' => st.r.sep t i o (ht2 t i e).2 (ho2 o i.b e').2, fun o ho => ?_, fun t ht => ?_, fun g cs e => ?_⟩
    · obtain ⟨hlt, e1⟩ := ho2 o b e
      obtain ⟨hb, ob, hg, hor⟩ := st.r.obj o b e1
      refine ⟨hb, ?_⟩
      rcases k.obj o ob hlt hg with ⟨h1, h2, h3⟩ | ⟨ob2, h1, h2⟩
      · refine ⟨ob, h3, ?_⟩
        have e0 : μ.obj o = some b := by
          rcases st.newo o b e1 with q | q
          · exact q
          · omega
        obtain ⟨_, ob0, hg0, hor0⟩ := r.obj o b e0
        rw [h2] at hg0; cases hg0
        exact ORel.dom hobj htok (fun _ _ q => q) hor0 hor
      · exact ⟨ob2, h1, h2.ORel hr hor⟩
    · obtain ⟨h1, h2, h3⟩ := st.r.com b off e
      exact ⟨fun o q => h1 o (ho2 o b q).2, fun t i q => h2 t i (ht2 t i q).2, h3⟩
    · obtain ⟨hlt, e1⟩ := ht2 t i e
      obtain ⟨h1, h2, h3⟩ := st.r.tok t i e1
      exact ⟨h1, (k.tok t hlt).trans h2, h3⟩
    · simp only [μ2]; rw [if_neg (by omega)]
    · simp only [μ2]; rw [if_neg (by omega)]
    · exact Cells.dom hobj htok (fun _ _ q => q) _ _ _ _ _ (r.glob g cs e) (st.r.glob g cs e)
theorem Drop.step {hs h' h'' : AH} {fr' fr'' : Fr} (k : Drop hs fr' h' fr'' h'') {μ μ' : Mu} {w w' : World} {a : Act} (r : R B0 G μ hs w) (st : Step B0 G μ hs w μ' h' w') (f : FrRel μ' w' fr' a) :
    ∃ μ'', Step B0 G μ hs w μ'' h'' w' ∧ FrRel μ'' w' fr'' a := by
  obtain ⟨μ'', hr, st'⟩ := k.hp.step r st
  exact ⟨μ'', st', f.defers, f.size.trans k.n.symm, fun i => k.fr i μ' μ'' w' _ hr (f.val i)⟩

def loopQ (I : Nat → Fr → AH → Prop) (Q : AX → Fr → AH → Prop) (n : Nat) (h1 : AH) : AX → Fr → AH → Prop
  | .norm, fr', h' => ∃ m fr2 h2, m < n ∧ Drop h1 fr' h' fr2 h2 ∧ I m fr2 h2
  | .exit j, fr, h => Q (.exit j) fr h
  | .ret, fr, h => Q .ret fr h
  | .pan x, fr, h => Q (.pan x) fr h
theorem WP.loop (I : Nat → Fr → AH → Prop) (h0 : ∃ n fr0 h0, Drop h fr h fr0 h0 ∧ I n fr0 h0) (hs : ∀ n fr1 h1, I n fr1 h1 → WP P G c fr1 h1 (loopQ I Q n h1)) : WP P G (.loop c) fr h Q := fun B0 μ w a r f => by
  obtain ⟨n0, fr0, h0, hd, hi⟩ := h0
  obtain ⟨μ0, st0, f0⟩ := hd.step r (Step.refl r) f
  refine wp_loop_ghost (fun n a1 w1 => ∃ fr1 h1 μ1, I n fr1 h1 ∧ Step B0 G μ h w μ1 h1 w1 ∧ FrRel μ1 w1 fr1 a1) n0 ⟨fr0, h0, μ0, hi, st0, f0⟩ ?_
  rintro n a1 w1 ⟨fr1, h1, μ1, hi, st, f1⟩
  refine wp_mono (hs n fr1 h1 hi B0 μ1 w1 a1 st.r f1) ?_
  rintro ex a2 w2 ⟨x, fr2, h2, q, μ2, st2, f2, hex⟩
  cases x with
  | norm =>
    simp only [ExRel] at hex; subst hex
    obtain ⟨m, fr3, h3, hm, hd, hi3⟩ := q
    obtain ⟨μ3, st3, f3⟩ := hd.step st.r st2 f2
    exact ⟨m, hm, fr3, h3, μ3, hi3, st.trans st3, f3⟩
  | exit j => simp only [ExRel] at hex; subst hex; exact ⟨_, _, _, q, μ2, st.trans st2, f2, rfl⟩
  | ret => simp only [ExRel] at hex; subst hex; exact ⟨_, _, _, q, μ2, st.trans st2, f2, rfl⟩
  | pan z => obtain ⟨u, rfl, hv⟩ := hex; exact ⟨_, _, _, q, μ2, st.trans st2, f2, u, rfl, hv⟩

/-- The end of a function. -/
def endQ (P : Program) (rs : List ResultVar) (h : AH) (Q : AOut → AH → Prop) : AX → Fr → AH → Prop
  | .norm, fr', h' | .ret, fr', h' => ∃ xs, aresults P h' fr' rs = some xs ∧ ∃ y h'', DropH h h' h'' ∧ SubB h''.next h''.tnext (aret xs) y ∧ Q (.ret y) h''
  | .pan v, _, h' => ∃ y h'', DropH h h' h'' ∧ SubB h''.next h''.tnext v y ∧ Q (.pan y) h''
  | .exit _, _, _ => False
theorem CALL.of_wp {f : FuncId} {fn : Func} {c : Code} (hfn : P.funcs[f]? = some fn) (hb : fn.body = some c) {args : List AV} {h : AH} {Q : AOut → AH → Prop}
    (k : WP P G c (Fr.ofArgs fn.ntmps args) h (endQ P fn.results.toList h Q)) : CALL P G f args h Q := fun B0 μ w vs r hv => by
  refine calls_of_wp hfn hb ?_
  have f0 := ofArgs_rel (n := fn.ntmps) hv
  refine wp_mono (k B0 μ w _ r f0) ?_
  rintro ex a1 w1 ⟨x, fr1, h1, q, μ1, st, f1, hex⟩
  have fin : ∀ xs, aresults P h1 fr1 fn.results.toList = some xs → (∃ y h'', DropH h h1 h'' ∧ SubB h''.next h''.tnext (aret xs) y ∧ Q (.ret y) h'') →
      ∃ u, (results fn a1.tmps).run P w1 = .ok u w1 ∧ ∃ out h', Q out h' ∧ Post B0 G μ h w out h' (.returned u) w1 := by
    rintro xs hres ⟨y, h2, hd, hs, hq⟩
    obtain ⟨u, hu, hvu⟩ := aret_run (P := P) st.r f1 hres
    obtain ⟨μ2, hr, st2⟩ := hd.step r st
    exact ⟨u, hu, .ret y, h2, hq, μ2, st2, u, rfl, hs _ _ _ _ hr hvu⟩
  cases x with
  | norm =>
    simp only [ExRel] at hex; subst hex
    obtain ⟨xs, h2, h3⟩ := q
    obtain ⟨u, hu, hp⟩ := fin xs h2 h3
    exact ⟨f1.defers, u, hu, hp⟩
  | ret =>
    simp only [ExRel] at hex; subst hex
    obtain ⟨xs, h2, h3⟩ := q
    obtain ⟨u, hu, hp⟩ := fin xs h2 h3
    exact ⟨f1.defers, u, hu, hp⟩
  | exit j => exact q.elim
  | pan v =>
    obtain ⟨u, rfl, hvu⟩ := hex
    obtain ⟨y, h2, hd, hs, hq⟩ := q
    obtain ⟨μ2, hr, st2⟩ := hd.step r st
    exact ⟨f1.defers, .pan y, h2, hq, μ2, st2, u, rfl, hs _ _ _ _ hr hvu⟩
end
end Go.Proofs.YtkcbhebbjpiibaaDoor.Pg
