/-
  Pg, part 18: a call's new rows take new names.
-/
import Derived.Test.YtcjlpklgnknpgaaGreatDoorPgM
set_option linter.unusedVariables false
set_option linter.unusedSimpArgs false
set_option linter.unusedSectionVars false
namespace Go.Proofs.YtcjlpklgnknpgaaGreatDoor.Pg
open Go
section
structure Moved (no nt k : Nat) (ρ : Nat → Nat) (μ μ' : Mu) : Prop where
  obj : ∀ o, μ'.obj o = if o < no then μ.obj o else if o < no + k then μ.obj (ρ (o - no)) else none
  tok : ∀ t, μ'.tok t = if t < nt then μ.tok t else none
  com : ∀ b off, μ'.com b off ↔ μ.com b off
theorem V.pureC {μ μ' : Mu} {w : World} (hc : ∀ b off, μ.com b off → μ'.com b off) {x : AV} {u : Value} (p : x.pure = true) (h : V μ w x u) : V μ' w x u := by
  let μ0 : Mu := { obj := fun _ => none, com := μ.com, tok := fun _ => none }
  have hr : Restr 0 0 μ μ0 := ⟨fun o => by simp [μ0], fun t => by simp [μ0], fun _ _ => Iff.rfl⟩
  exact V.dom (μ0 := μ0) (fun o q => absurd rfl q) (fun t q => absurd rfl q) hc x u u (V.restr hr x u p h) h
theorem Vs.pureC {μ μ' : Mu} {w : World} (hc : ∀ b off, μ.com b off → μ'.com b off) {x : List AV} {u : List Value} (p : AV.pures x = true) (h : Vs μ w x u) : Vs μ' w x u := by
  let μ0 : Mu := { obj := fun _ => none, com := μ.com, tok := fun _ => none }
  have hr : Restr 0 0 μ μ0 := ⟨fun o => by simp [μ0], fun t => by simp [μ0], fun _ _ => Iff.rfl⟩
  exact Vs.dom (μ0 := μ0) (fun o q => absurd rfl q) (fun t q => absurd rfl q) hc x u u (Vs.restr hr x u p h) h
structure MoveH (hs h' h'' : AH) (k : Nat) (ρ : Nat → Nat) : Prop where
  next : h''.next = hs.next + k
  tnext : h''.tnext = hs.tnext
  tle : hs.tnext ≤ h'.tnext
  low : ∀ o, o < hs.next → h'.get o = hs.get o ∧ h''.get o = hs.get o
  tok : ∀ t, t < hs.tnext → h''.tok t = h'.tok t
  new : ∀ i, i < k → hs.next ≤ ρ i ∧ ∃ e cs, h'.get (ρ i) = some (.cells e cs) ∧ AV.pures cs = true ∧ h''.get (hs.next + i) = some (.cells e cs)
  inj : ∀ i i', i < k → i' < k → ρ i = ρ i' → i = i'
variable {B0 : Nat} {G : Nat → Option (List AV)} {P : Program}
theorem MoveH.step {hs h' h'' : AH} {k : Nat} {ρ : Nat → Nat} (m : MoveH hs h' h'' k ρ) {μ μ' : Mu} {w w' : World} (r : R B0 G μ hs w) (st : Step B0 G μ hs w μ' h' w') :
    ∃ μ'', Moved hs.next hs.tnext k ρ μ' μ'' ∧ Step B0 G μ hs w μ'' h'' w' := by
  let μ2 : Mu := { obj := fun o => if o < hs.next then μ'.obj o else if o < hs.next + k then μ'.obj (ρ (o - hs.next)) else none, com := μ'.com, tok := fun t => if t < hs.tnext then μ'.tok t else none }
  have hr : Moved hs.next hs.tnext k ρ μ' μ2 := ⟨fun _ => rfl, fun _ => rfl, fun _ _ => Iff.rfl⟩
  have ho2 : ∀ o b, μ2.obj o = some b → (o < hs.next ∧ μ'.obj o = some b) ∨ ∃ i, i < k ∧ o = hs.next + i ∧ μ'.obj (ρ i) = some b := fun o b e => by
    simp only [μ2] at e; split at e
    · exact .inl ⟨‹_›, e⟩
    · split at e
      · exact .inr ⟨o - hs.next, by omega, by omega, e⟩
      · cases e
  have ht2 : ∀ t i, μ2.tok t = some i → t < hs.tnext ∧ μ'.tok t = some i := fun o b e => by
    simp only [μ2] at e; split at e
    · exact ⟨‹_›, e⟩
    · cases e
  have hold : ∀ o, μ.obj o ≠ none → o < hs.next := fun o ho => by
    rcases Nat.lt_or_ge o hs.next with q | q
    · exact q
    · exact absurd (r.next o q) ho
  have holdt : ∀ o, μ.tok o ≠ none → o < hs.tnext := fun o ho => by
    rcases Nat.lt_or_ge o hs.tnext with q | q
    · exact q
    · exact absurd (r.tnext o q) ho
  have hobj : ∀ o, μ.obj o ≠ none → μ2.obj o = μ'.obj o := fun o ho => by simp only [μ2]; rw [if_pos (hold o ho)]
  have htok : ∀ o, μ.tok o ≠ none → μ2.tok o = μ'.tok o := fun o ho => by simp only [μ2]; rw [if_pos (holdt o ho)]
  have hex : ∀ o b, μ2.obj o = some b → ∃ o', μ'.obj o' = some b := fun o b e => by
    rcases ho2 o b e with ⟨_, e⟩ | ⟨i, _, _, e⟩
    · exact ⟨_, e⟩
    · exact ⟨_, e⟩
  refine ⟨μ2, hr, ⟨⟨fun o b e => ?_, fun b off e => st.le.com b off e, fun t i e => ?_⟩, ?_, st.size, st.keep, st.com, by rw [m.next]; omega, by rw [m.tnext]; exact Nat.le_refl _, fun o b e => ?_, fun t i e => st.newt t i (ht2 t i e).2, fun b off e => st.newc b off e, st.env⟩⟩
  · rw [hobj o (by rw [e]; simp)]; exact st.le.obj o b e
  · rw [htok t (by rw [e]; simp)]; exact st.le.tok t i e
  · refine ⟨st.r.base, fun o b e => ?_, fun o o' b e e' => ?_, fun b off e => ?_, fun t i e => ?_, fun t t' i i' e e' hb => st.r.tinj t t' i i' (ht2 t i e).2 (ht2 t' i' e').2 hb,
      fun t i o e e' => ?_, fun o ho => ?_, fun t ht => ?_, fun g cs e => ?_⟩
    · rcases ho2 o b e with ⟨hlt, e1⟩ | ⟨i, hi, rfl, e1⟩
      · obtain ⟨hb, ob, hg, hor⟩ := st.r.obj o b e1
        obtain ⟨h1, h2⟩ := m.low o hlt
        refine ⟨hb, ob, by rw [h2, ← h1]; exact hg, ?_⟩
        have e0 : μ.obj o = some b := by
          rcases st.newo o b e1 with q | q
          · exact q
          · omega
        obtain ⟨_, ob0, hg0, hor0⟩ := r.obj o b e0
        rw [← h1, hg] at hg0; cases hg0
        exact ORel.dom hobj htok (fun _ _ q => q) hor0 hor
      · obtain ⟨hb, ob, hg, hor⟩ := st.r.obj (ρ i) b e1
        obtain ⟨_, e2, cs, h1, h2, h3⟩ := m.new i hi
        rw [hg] at h1; cases h1
        obtain ⟨vs, hv, hV⟩ := hor
        exact ⟨hb, _, h3, vs, hv, Vs.pureC (μ := μ') (μ' := μ2) (fun b off (q : μ'.com b off) => q) h2 hV⟩
    · rcases ho2 o b e with ⟨hlt, e1⟩ | ⟨i, hi, rfl, e1⟩
      · rcases ho2 o' b e' with ⟨hlt', e1'⟩ | ⟨i', hi', rfl, e1'⟩
        · exact st.r.inj o o' b e1 e1'
        · have := st.r.inj _ _ b e1 e1'
          have := (m.new i' hi').1
          omega
      · rcases ho2 o' b e' with ⟨hlt', e1'⟩ | ⟨i', hi', rfl, e1'⟩
        · have := st.r.inj _ _ b e1 e1'
          have := (m.new i hi).1
          omega
        · rw [m.inj i i' hi hi' (st.r.inj _ _ b e1 e1')]
    · obtain ⟨h1, h2, h3⟩ := st.r.com b off e
      exact ⟨fun o q => by obtain ⟨o', q'⟩ := hex o b q; exact h1 o' q', fun t i q => h2 t i (ht2 t i q).2, h3⟩
    · obtain ⟨hlt, e1⟩ := ht2 t i e
      obtain ⟨h1, h2, h3⟩ := st.r.tok t i e1
      exact ⟨h1, (m.tok t hlt).trans h2, h3⟩
    · obtain ⟨o', q'⟩ := hex o i.b e'
      exact st.r.sep t i o' (ht2 t i e).2 q'
    · simp only [μ2]; rw [if_neg (by have := m.next; omega), if_neg (by have := m.next; omega)]
    · simp only [μ2]; rw [if_neg (by have := m.tnext; omega)]
    · exact Cells.dom hobj htok (fun _ _ q => q) _ _ _ _ _ (r.glob g cs e) (st.r.glob g cs e)
  · rcases ho2 o b e with ⟨hlt, e1⟩ | ⟨i, hi, rfl, e1⟩
    · exact st.newo o b e1
    · rcases st.newo _ b e1 with q | ⟨q1, q2⟩
      · have := hold (ρ i) (by rw [q]; simp)
        have := (m.new i hi).1
        omega
      · exact .inr ⟨by omega, q2⟩
structure MoveJ (j j' j'' : JH) (k : Nat) (ρ : Nat → Nat) : Prop where
  next : j''.next = j.next + k
  tnext : j''.tnext = j.tnext
  tle : j.tnext ≤ j'.tnext
  low : ∀ o, o < j.next → j'.get o = j.get o ∧ j''.get o = j.get o
  tok : ∀ t, t < j.tnext → j''.tok t = j'.tok t
  new : ∀ i, i < k → j.next ≤ ρ i ∧ ∃ e cs, j'.get (ρ i) = some (.cells e cs) ∧ AV.pures cs = true ∧ j''.get (j.next + i) = some (.cells e cs)
  inj : ∀ i i', i < k → i' < k → ρ i = ρ i' → i = i'
def VM (no nt k : Nat) (ρ : Nat → Nat) (x y : AV) : Prop := ∀ μ μ' w u, Moved no nt k ρ μ μ' → V μ w x u → V μ' w y u
theorem VM.pure {no nt k : Nat} {ρ : Nat → Nat} {x : AV} (p : x.pure = true) : VM no nt k ρ x x := fun μ μ' w u m h => V.pureC (fun b off q => (m.com b off).2 q) p h
theorem VM.arr {no nt k i n : Nat} {ρ : Nat → Nat} (hi : i < k) : VM no nt k ρ (.arr (ρ i) 0 n) (.arr (no + i) 0 n) := fun μ μ' w u m h => by
  simp only [V] at h ⊢
  obtain ⟨b, c, e, q⟩ := h
  exact ⟨b, c, by rw [m.obj, if_neg (by omega), if_pos (by omega), Nat.add_sub_cancel_left]; exact e, q⟩
theorem JC.reloc {f : FuncId} {args : List AV} {j : JH} {Q Q' : AOut → JH → Prop} (c : JC P G f args j Q')
    (h : ∀ o j', Q' o j' → ∃ x y k ρ j'', o = .ret x ∧ MoveJ j j' j'' k ρ ∧ VM j.next j.tnext k ρ x y ∧ Q (.ret y) j'') : JC P G f args j Q := by
  rintro hh rfl B0 μ w vs r hv
  refine (c hh rfl B0 μ w vs r hv).mono ?_
  rintro e w' ⟨o, h', q, μ', st, p⟩
  obtain ⟨x, y, k, ρ, j'', rfl, m, vm, q2⟩ := h o _ q
  obtain ⟨μ'', hm, st'⟩ := MoveH.step (h'' := j''.a) (ρ := ρ) (k := k) ⟨m.next, m.tnext, m.tle, m.low, m.tok, m.new, m.inj⟩ r st
  obtain ⟨u, rfl, hu⟩ := p
  exact ⟨.ret y, j''.a, q2, μ'', st', u, rfl, vm _ _ _ _ hm hu⟩
/-- All that was there is as it was. -/
structure New (j j' : JH) : Prop where
  next : j.next ≤ j'.next
  tnext : j.tnext ≤ j'.tnext
  get : ∀ o, o < j.next → j'.get o = j.get o
  tok : ∀ t, t < j.tnext → j'.tok t = j.tok t
theorem New.refl {j : JH} : New j j := ⟨Nat.le_refl _, Nat.le_refl _, fun _ _ => rfl, fun _ _ => rfl⟩
theorem New.trans {a b c : JH} (h : New a b) (k : New b c) : New a c :=
  ⟨Nat.le_trans h.next k.next, Nat.le_trans h.tnext k.tnext, fun o ho => (k.get o (Nat.lt_of_lt_of_le ho h.next)).trans (h.get o ho), fun t ht => (k.tok t (Nat.lt_of_lt_of_le ht h.tnext)).trans (h.tok t ht)⟩
theorem New.ext {j : JH} {l : List AObj} : New j (Pg.ext j l) := ⟨by rw [ext_next]; unfold pid; omega, Nat.le_refl _, fun o ho => ext_get_old ho, fun _ _ => rfl⟩
theorem New.tok' {j j1 : JH} (h : TokExt j j1) {l : List AObj} : New j (Pg.ext j1 l) := ⟨by rw [ext_next, h.next]; unfold pid; omega, h.tnext, fun o ho => by rw [ext_get_old (by rw [h.next]; exact ho)]; exact h.get o ho, h.tok⟩
theorem New.set {j j1 : JH} (h : New j j1) {o : Nat} {x : AObj} (ho : j.next ≤ o) : New j (j1.set o x) := ⟨h.next, h.tnext, fun p hp => by rw [set_get, if_neg (by omega)]; exact h.get p hp, h.tok⟩
/-- A call that hands back one new row, by whatever name. -/
theorem JC.flat {f : FuncId} {args : List AV} {j : JH} {n : Nat} {e : TypeId} {cs : List AV} (p : AV.pures cs = true)
    (c : JC P G f args j fun o j' => ∃ ob, o = .ret (.arr ob 0 n) ∧ New j j' ∧ j.next ≤ ob ∧ j'.get ob = some (.cells e cs)) : JC P G f args j (RET (.arr (pid j.next 0) 0 n) (ext j [.cells e cs])) := by
  refine JC.reloc c ?_
  rintro o j' ⟨ob, rfl, hN, hob, hg⟩
  refine ⟨_, .arr (pid j.next 0) 0 n, 1, fun _ => ob, ext j [.cells e cs], rfl, ⟨rfl, rfl, hN.tnext, fun o ho => ⟨hN.get o ho, ext_get_old ho⟩, fun t ht => (hN.tok t ht).symm, fun i hi => ?_, fun i i' h1 h2 _ => by omega⟩, ?_, rfl, rfl⟩
  · obtain rfl : i = 0 := by omega
    exact ⟨hob, e, cs, hg, p, ext_get_new (k := 0) rfl⟩
  · exact VM.arr (i := 0) (ρ := fun _ => ob) (by omega)
/-- A call that hands back what has no names. -/
theorem ext_ext {j : JH} {a b : List AObj} : Pg.ext (Pg.ext j a) b = Pg.ext j (a ++ b) := by
  unfold Pg.ext
  simp only [JH.mk.injEq, true_and, and_true, List.length_append]
  refine ⟨by omega, funext fun o => ?_⟩
  by_cases h : o < j.next
  · rw [if_pos (by omega), if_pos h, if_pos h]
  · by_cases h2 : o < j.next + a.length
    · rw [if_pos h2, if_neg h, if_neg h, List.getElem?_append_left (by omega)]
    · rw [if_neg h2, if_neg h, List.getElem?_append_right (by omega)]
      congr 1; omega
theorem pid_pid {n a b : Nat} : pid (pid n a) b = pid n (a + b) := by unfold pid; omega
theorem JFIN.flat {j j1 : JH} {l : List AObj} {k n : Nat} {e : TypeId} {cs : List AV} (ht : TokExt j j1) (hk : l[k]? = some (.cells e cs)) : @JFIN (Pg.ext j []) (Pg.ext j1 l) (.arr (pid j.next k) 0 n) ⟨fun y j' => (fun o j' => ∃ ob, o = AOut.ret (.arr ob 0 n) ∧ New j j' ∧ j.next ≤ ob ∧ j'.get ob = some (.cells e cs)) (.ret y) j'⟩ := by
  refine JFIN.same (SubB.arr ?_) ⟨_, rfl, New.tok' ht, by unfold pid; omega, by rw [ext_get_new ht.next]; exact hk⟩
  rw [ext_next, ht.next]
  have : k < l.length := by
    rcases Nat.lt_or_ge k l.length with q | q
    · exact q
    · rw [List.getElem?_eq_none q] at hk; cases hk
  unfold pid; omega
end
end Go.Proofs.YtcjlpklgnknpgaaGreatDoor.Pg
