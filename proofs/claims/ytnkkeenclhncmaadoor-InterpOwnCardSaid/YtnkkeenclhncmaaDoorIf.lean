/-
  The reference's valid interpretations.
-/
import Derived.Test.YtnkkeenclhncmaaDoorIe
set_option linter.unusedVariables false
set_option linter.unusedSimpArgs false
set_option maxRecDepth 100000
set_option maxHeartbeats 8000000
namespace Go.Proofs.YtnkkeenclhncmaaDoor.Pg
open Go
def lessP (p q : Int × Int) : Bool := decide (p.1 < q.1) || (decide (p.1 = q.1) && decide (p.2 < q.2))
def rolR (s : Int) : Int × Int → List (Int × Int) → Bool
  | _, [] => true
  | q, p :: l => prIn s p && lessP q p && rolR s p l
theorem prIn_iff {s : Int} {p : Int × Int} : prIn s p = true ↔ 0 ≤ p.1 ∧ p.1 < s ∧ 0 ≤ p.2 ∧ p.2 < s := by
  unfold prIn inR; simp only [Bool.and_eq_true, decide_eq_true_eq]; omega
theorem lex_lt {s a1 a2 b1 b2 : Int} (ha : 0 ≤ a2) (ha2 : a2 < s) (hb : 0 ≤ b2) (hb2 : b2 < s) : a1 * s + a2 < b1 * s + b2 ↔ a1 < b1 ∨ (a1 = b1 ∧ a2 < b2) := by
  rcases Int.lt_trichotomy a1 b1 with h | h | h
  · have := Int.mul_le_mul_of_nonneg_right (show a1 + 1 ≤ b1 by omega) (show 0 ≤ s by omega)
    rw [Int.add_mul] at this
    constructor <;> intro q
    · exact .inl h
    · omega
  · subst h; constructor <;> intro q
    · exact .inr ⟨rfl, by omega⟩
    · omega
  · have := Int.mul_le_mul_of_nonneg_right (show b1 + 1 ≤ a1 by omega) (show 0 ≤ s by omega)
    rw [Int.add_mul] at this
    constructor <;> intro q <;> omega
theorem rolR_eq {s : Int} : ∀ (l : List (Int × Int)) (q : Int × Int), 0 ≤ q.2 → q.2 < s → rolR s q l = (l.all (prIn s) && risF (s * s) (q.1 * s + q.2) (flat s l))
  | [], _, _, _ => rfl
  | p :: l, q, h1, h2 => by
    simp only [rolR, flat, List.map_cons, risF, List.all_cons]
    cases hp : prIn s p
    · rfl
    obtain ⟨p1, p2, p3, p4⟩ := prIn_iff.1 hp
    rw [rolR_eq l p p3 p4]
    have e1 : lessP q p = decide (q.1 * s + q.2 < p.1 * s + p.2) := by
      unfold lessP; rw [Bool.eq_iff_iff]
      simp only [Bool.or_eq_true, Bool.and_eq_true, decide_eq_true_eq]
      exact (lex_lt h1 h2 p3 p4).symm
    have e2 : decide (p.1 * s + p.2 < s * s) = true := by
      have := Int.mul_le_mul_of_nonneg_right (show p.1 + 1 ≤ s by omega) (show 0 ≤ s by omega)
      rw [Int.add_mul] at this
      exact decide_eq_true (by omega)
    rw [e1, e2]
    simp only [flat, Bool.true_and, Bool.and_true]
    cases l.all (prIn s) <;> simp
theorem rolR_start {s : Int} {l : List (Int × Int)} : rolR s (-1, -1) l = rolOKp s l := by
  unfold rolOKp
  cases l with
  | nil => rfl
  | cons p l =>
    simp only [rolR, flat, rising, List.map_cons, risF, List.all_cons]
    cases hp : prIn s p
    · rfl
    obtain ⟨p1, p2, p3, p4⟩ := prIn_iff.1 hp
    rw [rolR_eq l p p3 p4]
    have h0 : 0 ≤ p.1 * s := Int.mul_nonneg p1 (by omega)
    have e1 : lessP (-1, -1) p = true := by unfold lessP; rw [decide_eq_true (by simp only; omega)]; rfl
    have e2 : decide (p.1 * s + p.2 < s * s) = true := by
      have := Int.mul_le_mul_of_nonneg_right (show p.1 + 1 ≤ s by omega) (show 0 ≤ s by omega)
      rw [Int.add_mul] at this
      exact decide_eq_true (by omega)
    rw [e1, e2, decide_eq_true (by omega)]
    simp [flat]
section
variable {m : GM} {G : Nat → Option (List AV)}
end
end Go.Proofs.YtnkkeenclhncmaaDoor.Pg
