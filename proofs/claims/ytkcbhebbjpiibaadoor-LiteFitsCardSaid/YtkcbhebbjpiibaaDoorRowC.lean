/-
  From the walk to the call: a law that returns true in memory that holds what is listed.
-/
import Derived.Test.YtkcbhebbjpiibaaDoorRowB
import Derived.Test.YtkcbhebbjpiibaaDoorLe
import Derived.Below
import Derived.Carry
set_option linter.unusedVariables false
set_option linter.unusedSimpArgs false
set_option maxRecDepth 20000
namespace Go.Proofs.YtkcbhebbjpiibaaDoor.Pg
open Go Go.RowKit
section
variable {m : Int} {W : World}
/-- The listed table and the library's variable. -/
structure Laid (m : Int) (W : World) : Prop where
  max : W.cell? ⟨1, 0, none⟩ = some (.int .i64 m)
  args : ∀ (i : Nat) (x : Int), [(0 : Int), 0, 0, 1, 2, 2, 1, 1][i]? = some x → W.cell? ⟨0, i, none⟩ = some (.int .i64 x)
theorem Laid.glob (h : Laid m W) : ∀ g cs, GG m g = some cs → Cells (muW W) W cs g 0 := by
  intro g cs e
  have hint : ∀ {b : Nat} {l : List Int}, (∀ (i : Nat) (x : Int), l[i]? = some x → W.cell? ⟨b, i, none⟩ = some (.int .i64 x)) → Cells (muW W) W (ints l) b 0 := fun {b l} q =>
    Cells.mk fun i x hx => by
      unfold ints at hx
      rw [List.getElem?_map, Option.map_eq_some_iff] at hx
      obtain ⟨y, hy, rfl⟩ := hx
      have := q i y hy
      rw [Nat.zero_add]
      exact ⟨World.block_lt_of_cell? W ⟨b, i, none⟩ this, _, this, by simp [V, plain]⟩
  unfold GG at e
  split at e
  · rename_i hg; subst hg; cases e
    refine hint (l := [m]) fun i x hx => ?_
    cases i with
    | zero => simp at hx; subst hx; exact h.max
    | succ i => simp at hx
  · split at e
    · rename_i hg; subst hg; cases e
      exact hint (l := [0, 0, 0, 1, 2, 2, 1, 1]) h.args
    · cases e
theorem rel_start (h : Laid m W) : R W.heap.size (GG m) (muW W) AH.empty W where
  base := Nat.le_refl _
  obj := fun o b e => by cases e
  inj := fun o o' b e => by cases e
  com := fun b off e => ⟨(fun o q => by cases q), (fun t i q => by cases q), e⟩
  tok := fun t i e => by cases e
  tinj := fun t t' i i' e => by cases e
  sep := fun t i o e => by cases e
  next := fun o _ => rfl
  tnext := fun o _ => rfl
  glob := h.glob
theorem law_calls {f : FuncId} {avs : List AV} {vs : List Value} (hJ : ∀ j, JC Tryd.prog (GG m) f avs j (RET (BOO true) j)) (h : Laid m W) (hv : Vs (muW W) W avs vs) :
    Calls Tryd.prog f vs.toArray W fun e W' => e = .returned (.bool true) ∧ Below W.heap.size W W' := by
  refine (hJ _ AH.empty rfl W.heap.size (muW W) W vs (rel_start h) hv).mono ?_
  rintro e W' ⟨out, h', ⟨rfl, _⟩, μ', st, u, rfl, hu⟩
  simp only [V] at hu
  refine ⟨by rw [hu.2], st.env.1, st.env.2.1, st.env.2.2, st.size, fun k hk => st.keep k hk (fun o q => by cases q) (fun t i q => by cases q)⟩
end
end Go.Proofs.YtkcbhebbjpiibaaDoor.Pg
