/-
  concept.Sorted as a contract over abstract heaps.
-/
import Derived.Test.YtcjlpklgnknpgaaGreatDoorUb
set_option linter.unusedVariables false
set_option linter.unusedSimpArgs false
set_option maxRecDepth 100000
set_option maxHeartbeats 8000000
namespace Go.Proofs.YtcjlpklgnknpgaaGreatDoor.Pg
open Go Go.Proofs Go.Shelf Go.RowKit Go.Lib Go.Sort Go.Maps Go.WideElems
namespace Sd
section
variable {B0 : Nat} {G : Nat → Option (List AV)} {μ : Mu} {h : AH} {w w' : World}
theorem step_more (r : R B0 G μ h w) (hb : ∀ b, b < w.heap.size → w'.heap[b]? = w.heap[b]?) (hs : w.heap.size ≤ w'.heap.size) (env : Env w w') : Step B0 G μ h w μ h w' := by
  have hk : ComKeep μ w w' := fun b off hc => cell_of_heap (hb b (r.com b off hc).2.2) off
  refine ⟨Le.refl _, ?_, hs, fun b hlt _ _ => hb b hlt, hk, Nat.le_refl _, Nat.le_refl _, fun _ _ e => .inl e, fun _ i e => .inl ⟨i, e, rfl⟩, fun _ _ e => .inl e, env⟩
  refine ⟨Nat.le_trans r.base hs, fun o b e => ?_, r.inj, fun b off hc => ?_, fun t i e => ?_, r.tinj, r.sep, r.next, r.tnext, fun g cs hg => Cells.mono (Le.refl _) hk _ _ _ (r.glob g cs hg)⟩
  · obtain ⟨h0, ob, h1, h2⟩ := r.obj o b e
    exact ⟨h0, ob, h1, ORel.mono (Le.refl _) hk hs (hb b h2.lt) h2⟩
  · obtain ⟨h0, h1, h2⟩ := r.com b off hc
    exact ⟨h0, h1, Nat.lt_of_lt_of_le h2 hs⟩
  · obtain ⟨h0, h1, vs, ty, h2, h3⟩ := r.tok t i e
    exact ⟨h0, h1, vs, ty, (hb _ (Array.getElem?_eq_some_iff.1 h2).1).trans h2, h3⟩
end
section
variable {B0 : Nat} {G : Nat → Option (List AV)}
theorem step_com {μ μ1 : Mu} {h h1 : AH} {w w1 : World} (st : Step B0 G μ h w μ1 h1 w1) {b : Nat} (hb : w.heap.size ≤ b) (hlt : b < w1.heap.size) (ho : ∀ o, μ1.obj o ≠ some b) (ht : ∀ t i, μ1.tok t = some i → i.b ≠ b) :
    Step B0 G μ h w { μ1 with com := fun x off => μ1.com x off ∨ x = b } h1 w1 := by
  have hl : Le μ1 { μ1 with com := fun x off => μ1.com x off ∨ x = b } := ⟨fun _ _ e => e, fun _ _ e => .inl e, fun _ i e => ⟨i, e, rfl, Nat.le_refl _, fun _ => rfl⟩⟩
  have hk : ComKeep μ1 w1 w1 := fun _ _ _ => rfl
  refine ⟨st.le.trans hl, ?_, st.size, st.keep, st.com, st.next, st.tnext, st.newo, st.newt, fun x off e => ?_, st.env⟩
  · refine ⟨st.r.base, fun o x e => ?_, st.r.inj, fun x off e => ?_, st.r.tok, st.r.tinj, st.r.sep, st.r.next, st.r.tnext, fun g cs e => Cells.mono hl hk _ _ _ (st.r.glob g cs e)⟩
    · obtain ⟨h0, ob, h1, h2⟩ := st.r.obj o x e
      exact ⟨h0, ob, h1, ORel.mono hl hk (Nat.le_refl _) rfl h2⟩
    · rcases e with e | rfl
      · exact st.r.com x off e
      · exact ⟨ho, fun t i e q => absurd q (ht t i e), hlt⟩
  · rcases e with e | rfl
    · exact st.newc x off e
    · exact .inr (.inl hb)
theorem cells_of {μ : Mu} {w : World} {b : Nat} (hc : ∀ off, μ.com b off) : ∀ (cs : List AV) (us : List Value) (off : Nat), Vs μ w cs us → (∀ i u, us[i]? = some u → w.cell? ⟨b, off + i, none⟩ = some u) → Cells μ w cs b off
  | [], _, _, _, _ => trivial
  | x :: cs, us, off, hv, hw => by
    simp only [Vs] at hv
    obtain ⟨u, us', rfl, h1, h2⟩ := hv
    refine ⟨hc off, ⟨u, by have := hw 0 u rfl; simpa using this, h1⟩, cells_of hc cs us' (off + 1) h2 fun i v hi => ?_⟩
    have := hw (i + 1) v (by simpa using hi)
    rw [show off + 1 + i = off + (i + 1) by omega]; exact this
end
end Sd
/-- A map of integers to true. -/
def mpS (ks : List Int) : List (Value × AV) := ks.map fun k => (Value.int .i64 k, AV.v (.bool true))
theorem mapAs {μ : Mu} {w : World} {b : Nat} {ks : List Int} (h : ORel μ w (.map (mpS ks)) b) (hnd : ks.Nodup) (hw : ∀ k ∈ ks, (Lit.int .i64 k).wf = true) (hl : ks.length ≤ 1000000) :
    ∃ D : DataW Unit, w.ownsMap Tryz.prog 3 (plainElem Tryz.prog 4) b ks.length D ∧ Maps.size D = ks.length ∧ ∀ x, has D (.int .i64 x) = true ↔ x ∈ ks := by
  obtain ⟨ents, clock, hb, hB, hk, hv⟩ := h
  have hk' : ents.toList.map (·.key) = ks.map (Value.int .i64) := by rw [hk]; simp [mpS]
  have hsz : ents.size = ks.length := by have := congrArg List.length hk'; simpa using this
  have hval : ∀ x ∈ ents.toList, x.val = .bool true := by
    have key : ∀ (l : List AV) (vs : List Value), (∀ a ∈ l, a = .v (.bool true)) → Vs μ w l vs → ∀ v ∈ vs, v = .bool true := by
      intro l
      induction l with
      | nil => intro vs _ h v hv'; cases (show vs = [] from h); cases hv'
      | cons a l ih =>
        intro vs ha h v hv'
        obtain ⟨u, us, rfl, h1, h2⟩ := h
        rcases List.mem_cons.1 hv' with rfl | hv'
        · have := ha a (List.mem_cons_self ..); subst this; exact h1.2
        · exact ih us (fun a h => ha a (List.mem_cons_of_mem _ h)) h2 v hv'
    intro x hx
    exact key _ _ (fun a ha => by simp [mpS] at ha; exact ha.2.symm) hv _ (List.mem_map_of_mem (f := (·.val)) hx)
  have hkey : ∀ x ∈ ents.toList, ∃ k ∈ ks, x.key = .int .i64 k := by
    intro x hx
    have : x.key ∈ ks.map (Value.int .i64) := by rw [← hk']; exact List.mem_map_of_mem (f := (·.key)) hx
    obtain ⟨k, h1, h2⟩ := List.mem_map.1 this
    exact ⟨k, h1, h2.symm⟩
  have hrd : ∀ x ∈ ents.toList, ∀ k ∈ ks, x.key = .int .i64 k → rd (H := Unit) Tryz.prog 3 (plainElem Tryz.prog 4) x = some (.int .i64 k, .lit (.bool true)) := by
    intro x hx k hk1 hk2
    have e : x = ⟨.int .i64 k, .bool true, x.born⟩ := by
      have := hval x hx
      cases x; simp only at this hk2; subst this; subst hk2; rfl
    rw [e]
    exact rd_mk (keyOf_int_mk Tryz.underlying3 (hw k hk1)) (plainElem_bool Tryz.underlying4 true)
  have hF : Fit (H := Unit) Tryz.prog 3 (plainElem Tryz.prog 4) ents clock := by
    refine ⟨by unfold maxLen; omega, ⟨hB.1, hB.2, ?_⟩, fun x hx => ?_⟩
    · rw [hk']; exact List.Pairwise.map _ (fun a b hab e => hab (by cases e; rfl)) hnd
    · obtain ⟨k, h1, h2⟩ := hkey x hx
      exact ⟨_, hrd x hx k h1 h2⟩
  refine ⟨_, ⟨ents, clock, hb, hF, by omega, rfl⟩, ?_, ?_⟩
  · rw [Maps.size_eq, length_sorted]; simp [hsz]
  · intro x
    rw [has_eq, List.any_eq_true]
    constructor
    · rintro ⟨p, hp, hs⟩
      rw [mem_sorted] at hp
      obtain ⟨e, he, rfl⟩ := List.mem_map.1 hp
      obtain ⟨k, h1, h2⟩ := hkey e he
      rw [rg_of (hrd e he k h1 h2)] at hs
      simp [Lit.sameKey] at hs
      subst hs; exact h1
    · intro hx
      have : Value.int .i64 x ∈ ents.toList.map (·.key) := by rw [hk']; exact List.mem_map_of_mem hx
      obtain ⟨e, he, h2⟩ := List.mem_map.1 this
      refine ⟨_, mem_sorted.2 (List.mem_map_of_mem he), ?_⟩
      rw [rg_of (hrd e he x hx h2)]
      simp [Lit.sameKey]
/-- In increasing order. -/
def srt (ks : List Int) : List Int := ks.mergeSort (fun x y => decide (x ≤ y))
abbrev iv (k : Int) : AV := .v (.int .i64 k)
theorem vs_iv {μ : Mu} {w : World} (ex : List AV) (us : List Value) (h : Vs μ w ex us) : ∀ ks : List Int, Vs μ w (ks.map iv ++ ex) (ks.map (Value.int .i64) ++ us)
  | [] => h
  | k :: ks => ⟨_, _, rfl, ⟨rfl, rfl⟩, vs_iv ex us h ks⟩
theorem s_Sorted {G : Nat → Option (List AV)} (j : JH) (o : Nat) (ks : List Int) (ho : j.get o = some (.map (mpS ks))) (hnd : ks.Nodup) (hw : ∀ k ∈ ks, (Lit.int .i64 k).wf = true) (hl : ks.length ≤ 1000000) :
    JC Tryz.prog G 64 [.mp o] j (RET (.sl .none ks.length (ints (srt ks))) j) := by
  intro h hj B0 μ w vs r hv
  simp only [Vs, V] at hv
  obtain ⟨u1, us1, rfl, ⟨b, hb, rfl⟩, rfl⟩ := hv
  obtain ⟨h0, ob, h1, h2⟩ := r.obj o b hb
  have hob : ob = .map (mpS ks) := by
    have : h.j.get o = some ob := h1
    rw [hj, ho] at this
    exact (Option.some.inj this).symm
  subst hob
  obtain ⟨D, hown, hsz, hhas⟩ := mapAs h2 hnd hw hl
  refine (sorted_any b _ D w hown (by omega)).mono ?_
  rintro e w' ⟨v, ss, rfl, hss, hmem, hrow, hbe⟩
  have hperm : ss.Perm ks := (List.perm_ext_iff_of_nodup hss hnd).2 fun x => by rw [hmem, hhas]
  have hsrt : ss.mergeSort (fun x y => decide (x ≤ y)) = srt ks := by
    unfold srt
    refine List.Perm.eq_of_pairwise (le := fun x y => x ≤ y) (fun a b _ _ h1 h2 => Int.le_antisymm h1 h2) ?_ ?_ ?_
    · have := List.pairwise_mergeSort (le := fun x y : Int => decide (x ≤ y)) (fun a b c h1 h2 => by simp at *; omega) (fun a b => by simp; omega) ss
      exact this.imp (by simp)
    · have := List.pairwise_mergeSort (le := fun x y : Int => decide (x ≤ y)) (fun a b c h1 h2 => by simp at *; omega) (fun a b => by simp; omega) ks
      exact this.imp (by simp)
    · exact ((List.mergeSort_perm _ _).trans hperm).trans (List.mergeSort_perm _ _).symm
  have hlen : ss.length = ks.length := hperm.length_eq
  rw [hsrt, hlen] at hrow
  have hsl : (srt ks).length = ks.length := (List.mergeSort_perm _ _).length_eq
  have st0 := Sd.step_more r hbe.block hbe.size ⟨hbe.os, hbe.tape, hbe.output⟩
  rcases hrow.2 with ⟨rfl, hz⟩ | ⟨g, cap, cur, rfl, hg, hgw, hcap, _, hcs, htk⟩
  · have hks : ks = [] := List.length_eq_zero_iff.1 hz
    subst hks
    have e0 : srt [] = [] := by unfold srt; rw [List.mergeSort_nil]
    rw [e0]
    refine ⟨.ret (.sl .none 0 []), h, ⟨rfl, hj⟩, μ, st0, _, rfl, ?_⟩
    exact ⟨none, 0, rfl, Nat.le_refl _, fun q => absurd rfl q⟩
  · have hlt := (Array.getElem?_eq_some_iff.1 hgw).1
    have st := Sd.step_com st0 hg hlt (fun o e => by have := r.obj_lt e; omega) (fun t i e q => by have := r.tok_lt e; omega)
    refine ⟨.ret (.sl .none ks.length (ints (srt ks))), h, ⟨rfl, hj⟩, _, st, _, rfl, ?_⟩
    refine ⟨some ⟨g, 0, none⟩, cap, rfl, hcap, fun _ => ⟨g, 0, rfl, Sd.cells_of (μ := { μ with com := fun x off => μ.com x off ∨ x = g }) (fun off => Or.inr rfl) _ ((srt ks).map (Value.int .i64)) 0 ?_ ?_⟩⟩
    · have := vs_iv (μ := { μ with com := fun x off => μ.com x off ∨ x = g }) (w := w') [] [] rfl (srt ks)
      simpa [ints] using this
    · intro i u hi
      rw [← htk] at hi
      have hl : i < ks.length * 1 := by
        by_cases q : i < ks.length * 1
        · exact q
        · rw [List.getElem?_eq_none (by simp; omega)] at hi; cases hi
      rw [List.getElem?_take_of_lt hl, Array.getElem?_toList] at hi
      simp only [World.cell?, hgw, Nat.zero_add]
      exact hi
end Go.Proofs.YtcjlpklgnknpgaaGreatDoor.Pg
