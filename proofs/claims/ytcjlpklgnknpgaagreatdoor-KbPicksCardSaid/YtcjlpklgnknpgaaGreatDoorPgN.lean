/-
  Pg, part 18: a call's new rows take new names.
-/
import Derived.Test.YtcjlpklgnknpgaaGreatDoorPgM
set_option linter.unusedVariables false
set_option linter.unusedSimpArgs false
set_option linter.unusedSectionVars false
namespace Go.Proofs.YtcjlpklgnknpgaaGreatDoor.Pg
open Go
section
structure Moved (no nt k : Nat) (ρ : Nat → Nat) (μ μ' : Mu) : Prop where
 obj : ∀ o, μ'.obj o = if o < no then μ.obj o else if o < no + k then μ.obj (ρ (o - no)) else none
 tok : ∀ t, μ'.tok t = if t < nt then μ.tok t else none
 com : ∀ b off, μ'.com b off ↔ μ.com b off
theorem V.pureC {μ μ' : Mu} {w : World} (hc : ∀ b off, μ.com b off → μ'.com b off) {x : AV} {u : Value} (p : x.pure = true) (h : V μ w x u) : V μ' w x u := by
 let μ0 : Mu := { obj := fun _ => none, com := μ.com, tok := fun _ => none }
 have hr : Restr 0 0 μ μ0 := ⟨fun o => by simp [μ0], fun t => by simp [μ0], fun _ _ => Iff.rfl⟩
 exact V.dom (μ0 := μ0) (fun o q => absurd rfl q) (fun t q => absurd rfl q) hc x u u (V.restr hr x u p h) h
theorem Vs.pureC {μ μ' : Mu} {w : World} (hc : ∀ b off, μ.com b off → μ'.com b off) {x : List AV} {u : List Value} (p : AV.pures x = true) (h : Vs μ w x u) : Vs μ' w x u := by
 let μ0 : Mu := { obj := fun _ => none, com := μ.com, tok := fun _ => none }
 have hr : Restr 0 0 μ μ0 := ⟨fun o => by simp [μ0], fun t => by simp [μ0], fun _ _ => Iff.rfl⟩
 exact Vs.dom (μ0 := μ0) (fun o q => absurd rfl q) (fun t q => absurd rfl q) hc x u u (Vs.restr hr x u p h) h
structure MoveH (hs h' h'' : AH) (k : Nat) (ρ : Nat → Nat) : Prop where
 next : h''.next = hs.next + k
 tnext : h''.tnext = hs.tnext
 tle : hs.tnext ≤ h'.tnext
 low : ∀ o, o < hs.next → h'.get o = hs.get o ∧ h''.get o = hs.get o
 tok : ∀ t, t < hs.tnext → h''.tok t = h'.tok t
 new : ∀ i, i < k → hs.next ≤ ρ i ∧ ∃ e cs, h'.get (ρ i) = some (.cells e cs) ∧ AV.pures cs = true ∧ h''.get (hs.next + i) = some (.cells e cs)
 inj : ∀ i i', i < k → i' < k → ρ i = ρ i' → i = i'
variable {B0 : Nat} {G : Nat → Option (List AV)} {P : Program}
theorem MoveH.step {hs h' h'' : AH} {k : Nat} {ρ : Nat → Nat} (m : MoveH hs h' h'' k ρ) {μ μ' : Mu} {w w' : World} (r : R B0 G μ hs w) (st : Step B0 G μ hs w μ' h' w') :
  ∃ μ'', Moved hs.next hs.tnext k ρ μ' μ'' ∧ Step B0 G μ hs w μ'' h'' w' := by
 let μ2 : Mu := { obj := fun o => if o < hs.next then μ'.obj o else if o < hs.next + k then μ'.obj (ρ (o - hs.next)) else none, com := μ'.com, tok := fun t => if t < hs.tnext then μ'.tok t else none }
 have hr : Moved hs.next hs.tnext k ρ μ' μ2 := ⟨fun _ => rfl, fun _ => rfl, fun _ _ => Iff.rfl⟩
 have ho2 : ∀ o b, μ2.obj o = some b → (o < hs.next ∧ μ'.obj o = some b) ∨ ∃ i, i < k ∧ o = hs.next + i ∧ μ'.obj (ρ i) = some b := fun o b e => by
  simp only [μ2] at e; split at e
  ·exact .inl ⟨‹_›, e⟩
  ·split at e
   ·exact .inr ⟨o - hs.next, by omega, by omega, e⟩
   ·cases e
 have ht2 : ∀ t i, μ2.tok t = some i → t < hs.tnext ∧ μ'.tok t = some i := fun o b e => by
  simp only [μ2] at e; split at e
  ·exact ⟨‹_›, e⟩
  ·cases e
 have hold : ∀ o, μ.obj o ≠ none → o < hs.next := fun o ho => by
  rcases Nat.lt_or_ge o hs.next with q | q
  ·exact q
  ·exact absurd (r.next o q) ho
 have holdt : ∀ o, μ.tok o ≠ none → o < hs.tnext := fun o ho => by
  rcases Nat.lt_or_ge o hs.tnext with q | q
  ·exact q
  ·exact absurd (r.tnext o q) ho
 have hobj : ∀ o, μ.obj o ≠ none → μ2.obj o = μ'.obj o := fun o ho => by simp only [μ2]; rw [if_pos (hold o ho)]
 have htok : ∀ o, μ.tok o ≠ none → μ2.tok o = μ'.tok o := fun o ho => by simp only [μ2]; rw [if_pos (holdt o ho)]
 have hex : ∀ o b, μ2.obj o = some b → ∃ o', μ'.obj o' = some b := fun o b e => by
  rcases ho2 o b e with ⟨_, e⟩ | ⟨i, _, _, e⟩
  ·exact ⟨_, e⟩
  ·exact ⟨_, e⟩
 refine ⟨μ2, hr, ⟨⟨fun o b e => ?_, fun b off e => st.le.com b off e, fun t i e => ?_⟩, ?_, st.size, st.keep, st.com, by rw [m.next]; omega, by rw [m.tnext]; exact Nat.le_refl _, fun o b e => ?_, fun t i e => st.newt t i (ht2 t i e).2, fun b off e => st.newc b off e, st.env⟩⟩
 ·rw [hobj o (by rw [e]; simp)]; exact st.le.obj o b e
 ·rw [htok t (by rw [e]; simp)]; exact st.le.tok t i e
 ·refine ⟨st.r.base, fun o b e => ?_, fun o o' b e e' => ?_, fun b off e => ?_, fun t i e => ?_, fun t t' i i' e e' hb => st.r.tinj t t' i i' (ht2 t i e).2 (ht2 t' i' e').2 hb,
   fun t i o e e' => ?_, fun o ho => ?_, fun t ht => ?_, fun g cs e => ?_⟩
  ·rcases ho2 o b e with ⟨hlt, e1⟩ | ⟨i, hi, rfl, e1⟩
   ·obtain ⟨hb, ob, hg, hor⟩ := st.r.obj o b e1
    obtain ⟨h1, h2⟩ := m.low o hlt
    refine ⟨hb, ob, by rw [h2, ← h1]; exact hg, ?_⟩
    have e0 : μ.obj o = some b := by
     rcases st.newo o b e1 with q | q
     ·exact q
     ·omega
    obtain ⟨_, ob0, hg0, hor0⟩ := r.obj o b e0
    rw [← h1, hg] at hg0; cases hg0
    exact ORel.dom hobj htok (fun _ _ q => q) hor0 hor
   ·obtain ⟨hb, ob, hg, hor⟩ := st.r.obj (ρ i) b e1
    obtain ⟨_, e2, cs, h1, h2, h3⟩ := m.new i hi
    rw [hg] at h1; cases h1
    obtain ⟨vs, hv, hV⟩ := hor
    exact ⟨hb, _, h3, vs, hv, Vs.pureC (μ := μ') (μ' := μ2) (fun b off (q : μ'.com b off) => q) h2 hV⟩
  ·rcases ho2 o b e with ⟨hlt, e1⟩ | ⟨i, hi, rfl, e1⟩
   ·rcases ho2 o' b e' with ⟨hlt', e1'⟩ | ⟨i', hi', rfl, e1'⟩
    ·exact st.r.inj o o' b e1 e1'
    ·have := st.r.inj _ _ b e1 e1'
     have := (m.new i' hi').1
     omega
   ·rcases ho2 o' b e' with ⟨hlt', e1'⟩ | ⟨i', hi', rfl, e1'⟩
    ·have := st.r.inj _ _ b e1 e1'
     have := (m.new i hi).1
     omega
    ·rw [m.inj i i' hi hi' (st.r.inj _ _ b e1 e1')]
  ·obtain ⟨h1, h2, h3⟩ := st.r.com b off e
   exact ⟨fun o q => by obtain ⟨o', q'⟩ := hex o b q; exact h1 o' q', fun t i q => h2 t i (ht2 t i q).2, h3⟩
  ·obtain ⟨hlt, e1⟩ := ht2 t i e
   obtain ⟨h1, h2, h3⟩ := st.r.tok t i e1
   exact ⟨h1, (m.tok t hlt).trans h2, h3⟩
  ·obtain ⟨o', q'⟩ := hex o i.b e'
   exact st.r.sep t i o' (ht2 t i e).2 q'
  ·simp only [μ2]; rw [if_neg (by have := m.next; omega), if_neg (by have := m.next; omega)]
  ·simp only [μ2]; rw [if_neg (by have := m.tnext; omega)]
  ·exact Cells.dom hobj htok (fun _ _ q => q) _ _ _ _ _ (r.glob g cs e) (st.r.glob g cs e)
 ·rcases ho2 o b e with ⟨hlt, e1⟩ | ⟨i, hi, rfl, e1⟩
  ·exact st.newo o b e1
  ·rcases st.newo _ b e1 with q | ⟨q1, q2⟩
   ·have := hold (ρ i) (by rw [q]; simp)
    have := (m.new i hi).1
    omega
   ·exact .inr ⟨by omega, q2⟩
structure MoveJ (j j' j'' : JH) (k : Nat) (ρ : Nat → Nat) : Prop where
 next : j''.next = j.next + k
 tnext : j''.tnext = j.tnext
 tle : j.tnext ≤ j'.tnext
 low : ∀ o, o < j.next → j'.get o = j.get o ∧ j''.get o = j.get o
 tok : ∀ t, t < j.tnext → j''.tok t = j'.tok t
 new : ∀ i, i < k → j.next ≤ ρ i ∧ ∃ e cs, j'.get (ρ i) = some (.cells e cs) ∧ AV.pures cs = true ∧ j''.get (j.next + i) = some (.cells e cs)
 inj : ∀ i i', i < k → i' < k → ρ i = ρ i' → i = i'
def VM (no nt k : Nat) (ρ : Nat → Nat) (x y : AV) : Prop := ∀ μ μ' w u, Moved no nt k ρ μ μ' → V μ w x u → V μ' w y u
theorem VM.pure {no nt k : Nat} {ρ : Nat → Nat} {x : AV} (p : x.pure = true) : VM no nt k ρ x x := fun μ μ' w u m h => V.pureC (fun b off q => (m.com b off).2 q) p h
theorem JC.reloc {f : FuncId} {args : List AV} {j : JH} {Q Q' : AOut → JH → Prop} (c : JC P G f args j Q')
  (h : ∀ o j', Q' o j' → ∃ x y k ρ j'', o = .ret x ∧ MoveJ j j' j'' k ρ ∧ VM j.next j.tnext k ρ x y ∧ Q (.ret y) j'') : JC P G f args j Q := by
 rintro hh rfl B0 μ w vs r hv
 refine (c hh rfl B0 μ w vs r hv).mono ?_
 rintro e w' ⟨o, h', q, μ', st, p⟩
 obtain ⟨x, y, k, ρ, j'', rfl, m, vm, q2⟩ := h o _ q
 obtain ⟨μ'', hm, st'⟩ := MoveH.step (h'' := j''.a) (ρ := ρ) (k := k) ⟨m.next, m.tnext, m.tle, m.low, m.tok, m.new, m.inj⟩ r st
 obtain ⟨u, rfl, hu⟩ := p
 exact ⟨.ret y, j''.a, q2, μ'', st', u, rfl, vm _ _ _ _ hm hu⟩
structure New (j j' : JH) : Prop where
 next : j.next ≤ j'.next
 tnext : j.tnext ≤ j'.tnext
 get : ∀ o, o < j.next → j'.get o = j.get o
 tok : ∀ t, t < j.tnext → j'.tok t = j.tok t
theorem JC.pureRet {f : FuncId} {args : List AV} {j : JH} {x : AV} (p : x.pure = true)
  (c : JC P G f args j fun o j' => o = .ret x ∧ New j j') : JC P G f args j (RET x (ext j [])) := by
 refine JC.reloc c ?_
 rintro o j' ⟨rfl, hN⟩
 exact ⟨x, x, 0, fun _ => 0, ext j [], rfl, ⟨rfl, rfl, hN.tnext, fun o ho => ⟨hN.get o ho, ext_get_old ho⟩, fun t ht => (hN.tok t ht).symm, fun i hi => by omega, fun i i' h1 h2 _ => by omega⟩, VM.pure p, rfl, rfl⟩
theorem ext_ext {j : JH} {a b : List AObj} : Pg.ext (Pg.ext j a) b = Pg.ext j (a ++ b) := by
 unfold Pg.ext
 simp only [JH.mk.injEq, true_and, and_true, List.length_append]
 refine ⟨by omega, funext fun o => ?_⟩
 by_cases h : o < j.next
 ·rw [if_pos (by omega), if_pos h, if_pos h]
 ·by_cases h2 : o < j.next + a.length
  ·rw [if_pos h2, if_neg h, if_neg h, List.getElem?_append_left (by omega)]
  ·rw [if_neg h2, if_neg h, List.getElem?_append_right (by omega)]
   congr 1; omega
theorem pid_pid {n a b : Nat} : pid (pid n a) b = pid n (a + b) := by unfold pid; omega
end
end Go.Proofs.YtcjlpklgnknpgaaGreatDoor.Pg
