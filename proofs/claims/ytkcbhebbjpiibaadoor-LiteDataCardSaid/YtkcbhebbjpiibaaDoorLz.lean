/-
  What the fixed calls answer, reckoned.
-/
import Derived.Test.YtkcbhebbjpiibaaDoorLx
set_option linter.unusedVariables false
set_option maxRecDepth 100000
set_option maxHeartbeats 1000000
namespace Go.Proofs.YtkcbhebbjpiibaaDoor.Pg
open Go
theorem ev_pB : askE pB = 0 := by decide +kernel
theorem ev_pB2 : askE pB2 = 0 := by decide +kernel
theorem ev_pB3 : basV pB3 = false := by decide +kernel
theorem ev_imp : impE pB pN1 (.mk 3 0 [pN0]) = 0 := by decide +kernel
theorem ev_v1 : (impV pB pN1 (.mk 3 0 [pN0]) && decide (emC pB = [])) = true := by decide +kernel
theorem ev_v2 : (decide (emC pB2 = [0]) && decide (emR pB2 = [])) = true := by decide +kernel
theorem ev_impB : impB pB pN1 (.mk 3 0 [pN0]) = true := by
  have h := ev_v1
  rw [Bool.and_eq_true] at h
  unfold impB; rw [ev_imp, h.1]; rfl
theorem ev_C1 : emptC pB = [] := by
  have h := ev_v1
  rw [Bool.and_eq_true, decide_eq_true_eq] at h
  unfold emptC; rw [if_pos ev_pB]; exact h.2
theorem ev_C2 : emptC pB2 = [0] ∧ emptR pB2 = [] := by
  have h := ev_v2
  rw [Bool.and_eq_true, decide_eq_true_eq, decide_eq_true_eq] at h
  unfold emptC emptR; rw [if_pos ev_pB2, if_pos ev_pB2]; exact h
end Go.Proofs.YtkcbhebbjpiibaaDoor.Pg
