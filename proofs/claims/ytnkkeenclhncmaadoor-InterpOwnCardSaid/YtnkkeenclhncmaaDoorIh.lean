/-
  The reference's sets of elements.
-/
import Derived.Test.YtnkkeenclhncmaaDoorIg
set_option linter.unusedVariables false
set_option linter.unusedSimpArgs false
set_option maxRecDepth 100000
set_option maxHeartbeats 8000000
namespace Go.Proofs.YtnkkeenclhncmaaDoor.Pg
open Go
section
variable {m : GM} {G : Nat → Option (List AV)}
end
end Go.Proofs.YtnkkeenclhncmaaDoor.Pg
