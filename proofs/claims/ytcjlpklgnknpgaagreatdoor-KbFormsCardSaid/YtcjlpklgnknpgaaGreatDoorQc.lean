/-
  Normal forms.
-/
import Derived.Test.YtcjlpklgnknpgaaGreatDoorQb
set_option linter.unusedVariables false
set_option linter.unusedSimpArgs false
set_option maxRecDepth 100000
set_option maxHeartbeats 8000000
namespace Go.Proofs.YtcjlpklgnknpgaaGreatDoor.Pg
open Go
def dualI (o : Int) : Int := if o = 1 then 2 else if o = 2 then 1 else if o = 4 then 5 else if o = 5 then 4 else if o = 6 then 7 else if o = 7 then 6 else 0
mutual
def nnf : Con → Bool → Con
  | .mk o n l, no => if o = 0 then (if no then .mk 3 0 [.mk 0 n []] else .mk 0 n []) else if o = 3 then nnfH l (!no) else .mk (if no then dualI o else o) n (nnfs l no)
def nnfH : List Con → Bool → Con
  | [], _ => .mk 0 0 []
  | c :: _, no => nnf c no
def nnfs : List Con → Bool → List Con
  | [], _ => []
  | c :: l, no => nnf c no :: nnfs l no
end
theorem shapedL_mem {nc nr : Nat} : ∀ {l : List Con}, shapedL nc nr l = true → ∀ {c : Con}, c ∈ l → shaped nc nr c = true
  | d :: l, h, c, m => by
    simp only [shapedL, Bool.and_eq_true] at h
    rcases List.mem_cons.1 m with rfl | m
    · exact h.1
    · exact shapedL_mem h.2 m
theorem arity_in {o : Int} {k : Nat} (h : arity o = k) : 0 ≤ o ∧ o ≤ 7 := by
  by_cases q : o < 0 ∨ 7 < o
  · rw [arity_ne q] at h; omega
  · omega
section
variable {m : Int} {G : Nat → Option (List AV)}
end
end Go.Proofs.YtcjlpklgnknpgaaGreatDoor.Pg
