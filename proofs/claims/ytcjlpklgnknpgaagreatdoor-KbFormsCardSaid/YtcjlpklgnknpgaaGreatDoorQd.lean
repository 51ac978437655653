/-
  The statements about forms and normal forms.
-/
import Derived.Test.YtcjlpklgnknpgaaGreatDoorQc
set_option linter.unusedVariables false
set_option linter.unusedSimpArgs false
set_option maxRecDepth 100000
set_option maxHeartbeats 8000000
namespace Go.Proofs.YtcjlpklgnknpgaaGreatDoor.Pg
open Go
section
variable {m : Int} {G : Nat → Option (List AV)}
end
end Go.Proofs.YtcjlpklgnknpgaaGreatDoor.Pg
