/-
  Normal forms.
-/
import Derived.Test.YtcjlpklgnknpgaaGreatDoorQb
set_option linter.unusedVariables false
set_option linter.unusedSimpArgs false
set_option maxRecDepth 100000
set_option maxHeartbeats 8000000
namespace Go.Proofs.YtcjlpklgnknpgaaGreatDoor.Pg
open Go
section
open Go
theorem shapedL_mem {nc nr : Nat} : ∀ {l : List Con}, shapedL nc nr l = true → ∀ {c : Con}, c ∈ l → shaped nc nr c = true
 | d :: l, h, c, m => by
  simp only [shapedL, Bool.and_eq_true] at h
  rcases List.mem_cons.1 m with rfl | m
  ·exact h.1
  ·exact shapedL_mem h.2 m
theorem arity_in {o : Int} {k : Nat} (h : arity o = k) : 0 ≤ o ∧ o ≤ 7 := by
 by_cases q : o < 0 ∨ 7 < o
 ·rw [arity_ne q] at h; omega
 ·omega
section
variable {m : Int} {G : Nat → Option (List AV)}
end
end
section
open Go
section
variable {m : Int} {G : Nat → Option (List AV)}
end
end
end Go.Proofs.YtcjlpklgnknpgaaGreatDoor.Pg
