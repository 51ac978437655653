/-
  DERIVED. GIVEN WITH THE SEED: THE CARDS: each row of YtcajjicdbphkpaaGreatDoorRows.lean that lists a variable, with what it lists TIED to the program's text (the seventh form; the later family's looks); each row that meets fmt, with fmt's text TOLD by the authors' own Lean function (tested against real Go, not proved from fmt's source: count such statements apart). THE CARD IS WHAT COUNTS. Prove the row's statement (the work); the ties are given (YtcajjicdbphkpaaGreatDoorTie.lean); close each card by the builder's one call (the guide's Derived/Test/ToyasCard.lean, 'card_holds'). Laid BY PROGRAM, IN A SANDBOX (cutbox-door.mjs). By AI agents, Wed Nov 11 2026. No macro, syntax, notation, axiom, sorry.
-/
import Derived.Test.YtcajjicdbphkpaaGreatDoorRows
import GoSem.ClaimSeven
namespace Go.Proofs.YtcajjicdbphkpaaGreatDoor
namespace Rows

/-- THE TIED CARD OF 'isagogelaw01.ConceptParts'. -/
def conceptPartsCard : Claim7 := { stood := { row := conceptPartsRow, standIns := [], harness := (true, "b2a63ecf349474367597234baa38b042e139c95a546db6c3d06b862c3e41d91a"), looks := true }, kinds := [], alts := [], laidByText := true, laidKinds := [.data, .data], laidTests := true, laidLooks := .later }
def ConceptPartsCardSaid : Prop := Claim7.holds Tryz.pinned (.plain (OpenSpec.ofChange conceptPartsSpec)) conceptPartsCard

/-- THE SECOND FORM's CARD OF 'isagogelaw01.ConceptParts'. -/
def conceptPartsUptoCard : Claim7 := { stood := { row := conceptPartsUptoRow, standIns := [], harness := (true, "b2a63ecf349474367597234baa38b042e139c95a546db6c3d06b862c3e41d91a"), looks := true }, kinds := [], alts := [], laidByText := true, laidKinds := [.data, .data], laidTests := true, laidLooks := .later }
def ConceptPartsUptoCardSaid : Prop := Claim7.holds Tryz.pinned (.plain (OpenSpec.upto conceptPartsSpec)) conceptPartsUptoCard
end Rows
end Go.Proofs.YtcajjicdbphkpaaGreatDoor
