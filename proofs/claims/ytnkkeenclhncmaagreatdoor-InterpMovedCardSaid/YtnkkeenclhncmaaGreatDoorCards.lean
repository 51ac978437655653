/-
  DERIVED. GIVEN WITH THE SEED: THE CARDS: each row of YtnkkeenclhncmaaGreatDoorRows.lean that lists a variable, with what it lists TIED to the program's text (the seventh form; the later family's looks); each row that meets fmt, with fmt's text TOLD by the authors' own Lean function (tested against real Go, not proved from fmt's source: count such statements apart). THE CARD IS WHAT COUNTS. Prove the row's statement (the work); the ties are given (YtnkkeenclhncmaaGreatDoorTie.lean); close each card by the builder's one call (the guide's Derived/Test/ToyasCard.lean, 'card_holds'). Laid BY PROGRAM, IN A SANDBOX (cutbox-door.mjs). By AI agents, Wed Nov 11 2026. No macro, syntax, notation, axiom, sorry.
-/
import Derived.Test.YtnkkeenclhncmaaGreatDoorRows
import GoSem.ClaimSeven
namespace Go.Proofs.YtnkkeenclhncmaaGreatDoor
namespace Rows

/-- THE TIED CARD OF 'isagogelaw03.InterpMoved'. -/
def interpMovedCard : Claim7 := { stood := { row := interpMovedRow, standIns := [], harness := (true, "6f363275cca837a7bc823519caba51fb5e5136efb23d56efb326350a0e19ede0"), looks := false }, kinds := [], alts := [], laidByText := true, laidKinds := [.data], laidTests := true, laidLooks := .later }
def InterpMovedCardSaid : Prop := Claim7.holds Tryz.pinned (.plain (OpenSpec.ofChange interpMovedSpec)) interpMovedCard

/-- THE TIED CARD OF 'isagogelaw03.InterpTrue'. -/
def interpTrueCard : Claim7 := { stood := { row := interpTrueRow, standIns := [], harness := (true, "6f363275cca837a7bc823519caba51fb5e5136efb23d56efb326350a0e19ede0"), looks := false }, kinds := [], alts := [], laidByText := true, laidKinds := [.data], laidTests := true, laidLooks := .later }
def InterpTrueCardSaid : Prop := Claim7.holds Tryz.pinned (.plain (OpenSpec.ofChange interpTrueSpec)) interpTrueCard

/-- THE SECOND FORM's CARD OF 'isagogelaw03.InterpMoved'. -/
def interpMovedUptoCard : Claim7 := { stood := { row := interpMovedUptoRow, standIns := [], harness := (true, "6f363275cca837a7bc823519caba51fb5e5136efb23d56efb326350a0e19ede0"), looks := false }, kinds := [], alts := [], laidByText := true, laidKinds := [.data], laidTests := true, laidLooks := .later }
def InterpMovedUptoCardSaid : Prop := Claim7.holds Tryz.pinned (.plain (OpenSpec.upto interpMovedSpec)) interpMovedUptoCard

/-- THE SECOND FORM's CARD OF 'isagogelaw03.InterpTrue'. -/
def interpTrueUptoCard : Claim7 := { stood := { row := interpTrueUptoRow, standIns := [], harness := (true, "6f363275cca837a7bc823519caba51fb5e5136efb23d56efb326350a0e19ede0"), looks := false }, kinds := [], alts := [], laidByText := true, laidKinds := [.data], laidTests := true, laidLooks := .later }
def InterpTrueUptoCardSaid : Prop := Claim7.holds Tryz.pinned (.plain (OpenSpec.upto interpTrueSpec)) interpTrueUptoCard
end Rows
end Go.Proofs.YtnkkeenclhncmaaGreatDoor
