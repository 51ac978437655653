/-
  Ranging over a function: a round from its body.
-/
import Derived.Test.YtcjlpklgnknpgaaGreatDoorPgN
set_option linter.unusedVariables false
set_option linter.unusedSimpArgs false
set_option maxRecDepth 100000
namespace Go.Proofs.YtcjlpklgnknpgaaGreatDoor.Pg
open Go
section
variable {P : Program} {G : Nat → Option (List AV)}
end
end Go.Proofs.YtcjlpklgnknpgaaGreatDoor.Pg
