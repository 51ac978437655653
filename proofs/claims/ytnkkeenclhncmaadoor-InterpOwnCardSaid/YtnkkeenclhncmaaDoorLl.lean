/-
  Knowledge bases: validity, as the reference tells it; it is the program's.
-/
import Derived.Test.YtnkkeenclhncmaaDoorLk
set_option linter.unusedVariables false
set_option linter.unusedSimpArgs false
set_option maxRecDepth 20000
set_option maxHeartbeats 8000000
namespace Go.Proofs.YtnkkeenclhncmaaDoor.Pg
open Go
variable {m : GM}
def basR (b : Bas) : Bool := namesOK b.nms && decide (b.count ≤ 60) && (b.cons.all (conOK b.nms) && (b.roles.all (fun x => rolOK b.nms x.sub && rolOK b.nms x.sup) && (b.facts.all (fun x => indOK b.nms x.ind) && (b.links.all (lnkOK b.nms) && decide (sumN b.cons ≤ 400)))))
/-! ### The two are one -/
def cgo (n : Nms) (c : Con) : Bool := decide (c.depth ≤ 20) && shaped n.cs.length n.rs.length c
theorem conG_cgo (n : Nms) (c : Con) (y : Int) : conG n c y = (decide ((c.nodes : Int) ≤ y) && cgo n c) := by unfold conG cgo; rw [Bool.and_assoc]
theorem conOK_cgo (n : Nms) (c : Con) : conOK n c = (decide (c.nodes ≤ 400) && cgo n c) := by unfold conOK cgo; rw [Bool.and_assoc]
theorem vI_eq (n : Nms) : ∀ (l : List Inc) (y : Int), 0 ≤ y → vI n l y = if (consI l).all (cgo n) = true ∧ (sumN (consI l) : Int) ≤ y then some (y - sumN (consI l)) else none
  | [], y, h => by simp [vI, consI, sumN, h]
  | x :: l, y, h => by
    simp only [vI, consI, sumN, List.all_cons, conG_cgo, Bool.and_eq_true, decide_eq_true_eq]
    by_cases h1 : ((x.sub.nodes : Int) ≤ y ∧ cgo n x.sub = true) ∧ (x.sup.nodes : Int) ≤ y - x.sub.nodes ∧ cgo n x.sup = true
    · rw [if_pos h1, vI_eq n l _ (by omega)]
      obtain ⟨⟨a1, a2⟩, a3, a4⟩ := h1
      by_cases h2 : (consI l).all (cgo n) = true ∧ (sumN (consI l) : Int) ≤ y - x.sub.nodes - x.sup.nodes
      · rw [if_pos h2, if_pos ⟨⟨a2, a4, h2.1⟩, by omega⟩]; congr 1; omega
      · rw [if_neg h2, if_neg (fun q => h2 ⟨q.1.2.2, by omega⟩)]
    · rw [if_neg h1, if_neg (fun q => h1 ⟨⟨by omega, q.1.1⟩, by omega, q.1.2.1⟩)]
theorem vF_eq (n : Nms) : ∀ (l : List Fac) (y : Int), 0 ≤ y → vF n l y = if (l.all (fun x => indOK n x.ind) = true ∧ (consF l).all (cgo n) = true) ∧ (sumN (consF l) : Int) ≤ y then some (y - sumN (consF l)) else none
  | [], y, h => by simp [vF, consF, sumN, h]
  | x :: l, y, h => by
    simp only [vF, consF, sumN, List.all_cons, conG_cgo, Bool.and_eq_true, decide_eq_true_eq]
    by_cases h1 : indOK n x.ind = true ∧ (x.con.nodes : Int) ≤ y ∧ cgo n x.con = true
    · rw [if_pos h1, vF_eq n l _ (by omega)]
      obtain ⟨a1, a2, a3⟩ := h1
      by_cases h2 : (l.all (fun x => indOK n x.ind) = true ∧ (consF l).all (cgo n) = true) ∧ (sumN (consF l) : Int) ≤ y - x.con.nodes
      · rw [if_pos h2, if_pos ⟨⟨⟨a1, h2.1.1⟩, a3, h2.1.2⟩, by omega⟩]; congr 1; omega
      · rw [if_neg h2, if_neg (fun q => h2 ⟨⟨q.1.1.2, q.1.2.2⟩, by omega⟩)]
    · rw [if_neg h1, if_neg (fun q => h1 ⟨q.1.1.1, by omega, q.1.2.1⟩)]
theorem all_conOK (n : Nms) (l : List Con) (h : sumN l ≤ 400) : l.all (conOK n) = l.all (cgo n) := by
  rw [Bool.eq_iff_iff, List.all_eq_true, List.all_eq_true]
  constructor
  · intro q c hc; have := q c hc; rw [conOK_cgo, Bool.and_eq_true] at this; exact this.2
  · intro q c hc; have := sumN_mem hc; rw [conOK_cgo, q c hc, decide_eq_true (by omega)]; rfl
theorem basR_eq (b : Bas) : basR b = basV b := by
  unfold basR basV
  congr 1
  rw [vI_eq b.nms b.incls 400 (by omega)]
  have hs : sumN b.cons = sumN (consI b.incls) + sumN (consF b.facts) := by unfold Bas.cons; rw [sumN_append]
  by_cases h1 : (consI b.incls).all (cgo b.nms) = true ∧ (sumN (consI b.incls) : Int) ≤ 400
  · rw [if_pos h1]
    simp only
    rw [vF_eq b.nms b.facts _ (by omega)]
    by_cases h2 : (b.facts.all (fun x => indOK b.nms x.ind) = true ∧ (consF b.facts).all (cgo b.nms) = true) ∧ (sumN (consF b.facts) : Int) ≤ 400 - sumN (consI b.incls)
    · rw [if_pos h2]
      simp only
      have h3 : sumN b.cons ≤ 400 := by omega
      rw [all_conOK _ _ h3, decide_eq_true h3, h2.1.1]
      have : b.cons.all (cgo b.nms) = true := by unfold Bas.cons; rw [List.all_append, h1.1, h2.1.2]; rfl
      rw [this]; simp
    · rw [if_neg h2]
      simp only [Bool.and_false]
      rw [Bool.eq_false_iff]
      intro q
      simp only [Bool.and_eq_true, decide_eq_true_eq] at q
      obtain ⟨q1, q2, q3, q4, q5⟩ := q
      rw [all_conOK _ _ q5] at q1
      unfold Bas.cons at q1
      rw [List.all_append, Bool.and_eq_true] at q1
      exact h2 ⟨⟨q3, q1.2⟩, by omega⟩
  · rw [if_neg h1]
    simp only
    rw [Bool.eq_false_iff]
    intro q
    simp only [Bool.and_eq_true, decide_eq_true_eq] at q
    obtain ⟨q1, q2, q3, q4, q5⟩ := q
    rw [all_conOK _ _ q5] at q1
    unfold Bas.cons at q1
    rw [List.all_append, Bool.and_eq_true] at q1
    exact h1 ⟨q1.1, by omega⟩
end Go.Proofs.YtnkkeenclhncmaaDoor.Pg
