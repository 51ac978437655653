/-
  interp.Check, the reference's roles and pairs.
-/
import Derived.Test.YtnkkeenclhncmaaDoorIj
import Derived.Test.YtnkkeenclhncmaaDoorLk
set_option linter.unusedVariables false
set_option linter.unusedSimpArgs false
set_option maxRecDepth 100000
set_option maxHeartbeats 8000000
namespace Go.Proofs.YtnkkeenclhncmaaDoor.Pg
open Go
/-- The pairs of the inverse of a role, element by element. -/
def invI (ps : List (Int × Int)) (n : Nat) : List (Int × Int) := (List.range n).flatMap fun (x : Nat) => (ps.filter fun p => decide (p.2 = (x : Int))).map fun p => (p.2, p.1)
theorem invI_succ {ps : List (Int × Int)} {n : Nat} : invI ps (n + 1) = invI ps n ++ (ps.filter fun p => decide (p.2 = (n : Int))).map fun p => (p.2, p.1) := by
  unfold invI
  rw [List.range_succ, List.flatMap_append]
  simp
theorem invI_mem {ps : List (Int × Int)} {n : Nat} (hp : ∀ p ∈ ps, 0 ≤ p.2 ∧ p.2 < n) {q : Int × Int} : q ∈ invI ps n ↔ ∃ p ∈ ps, q = (p.2, p.1) := by
  unfold invI
  simp only [List.mem_flatMap, List.mem_range, List.mem_map, List.mem_filter, decide_eq_true_eq]
  constructor
  · rintro ⟨x, _, p, ⟨h1, _⟩, rfl⟩; exact ⟨p, h1, rfl⟩
  · rintro ⟨p, h1, rfl⟩
    have := hp p h1
    exact ⟨p.2.toNat, by omega, p, ⟨h1, by omega⟩, rfl⟩
theorem invI_len {ps : List (Int × Int)} : ∀ {n : Nat}, (invI ps n).length ≤ n * ps.length
  | 0 => by simp [invI]
  | n + 1 => by
    rw [invI_succ, List.length_append, List.length_map, Nat.add_mul]
    have := List.length_filter_le (fun p : Int × Int => decide (p.2 = (n : Int))) ps
    have := @invI_len ps n
    omega
/-- The pairs of a role. -/
def relL (i : Itp) (r : Int) : List (Int × Int) := if r.tmod 2 = 0 then rolI i r else invI (rolI i r) (sz i)
def roleOK (n : Nms) (r : Int) : Bool := decide (0 ≤ r) && decide (r < 2 * (n.rs.length : Int))
theorem roleOK_iff {n : Nms} {r : Int} : roleOK n r = true ↔ 0 ≤ r ∧ r < 2 * (n.rs.length : Int) := by
  unfold roleOK; rw [Bool.and_eq_true, decide_eq_true_eq, decide_eq_true_eq]
section
variable {m : GM} {G : Nat → Option (List AV)}
end
end Go.Proofs.YtnkkeenclhncmaaDoor.Pg
