/-
  The fixed calls of the statements about knowledge bases: they answer true.
-/
import Derived.Test.YtcjlpklgnknpgaaGreatDoorVd
import Derived.KernelRfl
set_option linter.unusedVariables false
set_option linter.unusedSimpArgs false
set_option linter.defProp false
set_option maxRecDepth 100000
set_option maxHeartbeats 4000000
namespace Go.Proofs.YtcjlpklgnknpgaaGreatDoor.Pg
open Go
theorem ev_awake2 (k : Int) : outV (xcall Tryz.prog (GG (GM2 k)) T2 R2 S2 400 60 9 [] AH.empty) (.bool true) = true := by kernel_rfl
theorem s_awake2 (k : Int) (j : JH) : JC Tryz.prog (GG (GM2 k)) 9 [] j (RET (BOO true) j) := JC.closed hmix GG2_pure T2_ok R2_ok S2_ok S2_k (ev_awake2 k) j
end Go.Proofs.YtcjlpklgnknpgaaGreatDoor.Pg
