/-
  DERIVED. GIVEN WITH THE SEED: THE CARDS: each row of YtnkkeenclhncmaaDoorRows.lean that lists a variable, with what it lists TIED to the program's text (the seventh form; the later family's looks); each row that meets fmt, with fmt's text TOLD by the authors' own Lean function (tested against real Go, not proved from fmt's source: count such statements apart). THE CARD IS WHAT COUNTS. Prove the row's statement (the work); the ties are given (YtnkkeenclhncmaaDoorTie.lean); close each card by the builder's one call (the guide's Derived/Test/ToyasCard.lean, 'card_holds'). Laid BY PROGRAM, IN A SANDBOX (cutbox-door.mjs). By AI agents, Wed Nov 11 2026. No macro, syntax, notation, axiom, sorry.
-/
import Derived.Test.YtnkkeenclhncmaaDoorRows
import GoSem.ClaimSeven
namespace Go.Proofs.YtnkkeenclhncmaaDoor
namespace Rows

/-- THE TIED CARD OF 'isagogelaw03.InterpForms'. -/
def interpFormsCard : Claim7 := { stood := { row := interpFormsRow, standIns := [], harness := (true, "16678a13640a78f385b6de443c7ab7fa399db3dbde5b23dfcb942104c301c918"), looks := false }, kinds := [], alts := [], laidByText := true, laidKinds := [.data], laidTests := true, laidLooks := .later }
def InterpFormsCardSaid : Prop := Claim7.holds Tryd.pinned (.plain (OpenSpec.ofChange interpFormsSpec)) interpFormsCard

/-- THE TIED CARD OF 'isagogelaw03.InterpElements'. -/
def interpElementsCard : Claim7 := { stood := { row := interpElementsRow, standIns := [], harness := (true, "16678a13640a78f385b6de443c7ab7fa399db3dbde5b23dfcb942104c301c918"), looks := false }, kinds := [], alts := [], laidByText := true, laidKinds := [.data], laidTests := true, laidLooks := .later }
def InterpElementsCardSaid : Prop := Claim7.holds Tryd.pinned (.plain (OpenSpec.ofChange interpElementsSpec)) interpElementsCard

/-- THE TIED CARD OF 'isagogelaw03.InterpBoolean'. -/
def interpBooleanCard : Claim7 := { stood := { row := interpBooleanRow, standIns := [], harness := (true, "16678a13640a78f385b6de443c7ab7fa399db3dbde5b23dfcb942104c301c918"), looks := false }, kinds := [], alts := [], laidByText := true, laidKinds := [.data, .data], laidTests := true, laidLooks := .later }
def InterpBooleanCardSaid : Prop := Claim7.holds Tryd.pinned (.plain (OpenSpec.ofChange interpBooleanSpec)) interpBooleanCard

/-- THE TIED CARD OF 'isagogelaw03.InterpOwn'. -/
def interpOwnCard : Claim7 := { stood := { row := interpOwnRow, standIns := [], harness := (true, "16678a13640a78f385b6de443c7ab7fa399db3dbde5b23dfcb942104c301c918"), looks := false }, kinds := [], alts := [], laidByText := true, laidKinds := [.data], laidTests := true, laidLooks := .later }
def InterpOwnCardSaid : Prop := Claim7.holds Tryd.pinned (.plain (OpenSpec.ofChange interpOwnSpec)) interpOwnCard

/-- THE SECOND FORM's CARD OF 'isagogelaw03.InterpForms'. -/
def interpFormsUptoCard : Claim7 := { stood := { row := interpFormsUptoRow, standIns := [], harness := (true, "16678a13640a78f385b6de443c7ab7fa399db3dbde5b23dfcb942104c301c918"), looks := false }, kinds := [], alts := [], laidByText := true, laidKinds := [.data], laidTests := true, laidLooks := .later }
def InterpFormsUptoCardSaid : Prop := Claim7.holds Tryd.pinned (.plain (OpenSpec.upto interpFormsSpec)) interpFormsUptoCard

/-- THE SECOND FORM's CARD OF 'isagogelaw03.InterpElements'. -/
def interpElementsUptoCard : Claim7 := { stood := { row := interpElementsUptoRow, standIns := [], harness := (true, "16678a13640a78f385b6de443c7ab7fa399db3dbde5b23dfcb942104c301c918"), looks := false }, kinds := [], alts := [], laidByText := true, laidKinds := [.data], laidTests := true, laidLooks := .later }
def InterpElementsUptoCardSaid : Prop := Claim7.holds Tryd.pinned (.plain (OpenSpec.upto interpElementsSpec)) interpElementsUptoCard

/-- THE SECOND FORM's CARD OF 'isagogelaw03.InterpBoolean'. -/
def interpBooleanUptoCard : Claim7 := { stood := { row := interpBooleanUptoRow, standIns := [], harness := (true, "16678a13640a78f385b6de443c7ab7fa399db3dbde5b23dfcb942104c301c918"), looks := false }, kinds := [], alts := [], laidByText := true, laidKinds := [.data, .data], laidTests := true, laidLooks := .later }
def InterpBooleanUptoCardSaid : Prop := Claim7.holds Tryd.pinned (.plain (OpenSpec.upto interpBooleanSpec)) interpBooleanUptoCard

/-- THE SECOND FORM's CARD OF 'isagogelaw03.InterpOwn'. -/
def interpOwnUptoCard : Claim7 := { stood := { row := interpOwnUptoRow, standIns := [], harness := (true, "16678a13640a78f385b6de443c7ab7fa399db3dbde5b23dfcb942104c301c918"), looks := false }, kinds := [], alts := [], laidByText := true, laidKinds := [.data], laidTests := true, laidLooks := .later }
def InterpOwnUptoCardSaid : Prop := Claim7.holds Tryd.pinned (.plain (OpenSpec.upto interpOwnSpec)) interpOwnUptoCard
end Rows
end Go.Proofs.YtnkkeenclhncmaaDoor
