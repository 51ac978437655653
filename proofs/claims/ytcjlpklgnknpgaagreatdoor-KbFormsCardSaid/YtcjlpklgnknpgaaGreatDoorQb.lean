/-
  Concepts: sizes, likeness, copies.
-/
import Derived.Test.YtcjlpklgnknpgaaGreatDoorQaa
set_option linter.unusedVariables false
set_option linter.unusedSimpArgs false
set_option maxRecDepth 100000
set_option maxHeartbeats 8000000
namespace Go.Proofs.YtcjlpklgnknpgaaGreatDoor.Pg
open Go
section
variable {m : GM} {G : Nat → Option (List AV)}
mutual
def ceq : Con → Con → Bool
  | .mk o n l, .mk o' n' l' => decide (o = o') && decide (n = n') && ceqL l l'
def ceqL : List Con → List Con → Bool
  | [], [] => true
  | c :: l, d :: l' => ceq c d && ceqL l l'
  | _, _ => false
end
mutual
theorem ceq_refl : ∀ c : Con, ceq c c = true
  | .mk o n l => by simp only [ceq, decide_true, Bool.true_and]; exact ceqL_refl l
theorem ceqL_refl : ∀ l : List Con, ceqL l l = true
  | [] => rfl
  | c :: l => by simp only [ceqL, ceq_refl c, ceqL_refl l, Bool.and_self]
end
theorem Con.nodesL_len : ∀ l : List Con, l.length ≤ Con.nodesL l
  | [] => by simp
  | .mk o n k :: l => by simp only [List.length_cons, Con.nodesL, Con.nodes]; have := Con.nodesL_len l; omega
theorem take_one {l : List Con} {k : Nat} {c : Con} {r : List Con} (h : l.drop k = c :: r) : l.take (k + 1) = l.take k ++ [c] := by
  have : l[k]? = some c := by rw [← List.head?_drop, h]; rfl
  rw [List.take_add_one, this]; rfl
end
end Go.Proofs.YtcjlpklgnknpgaaGreatDoor.Pg
