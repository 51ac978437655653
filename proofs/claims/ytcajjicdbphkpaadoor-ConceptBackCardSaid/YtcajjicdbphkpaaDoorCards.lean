/-
  DERIVED. GIVEN WITH THE SEED: THE CARDS: each row of YtcajjicdbphkpaaDoorRows.lean that lists a variable, with what it lists TIED to the program's text (the seventh form; the later family's looks); each row that meets fmt, with fmt's text TOLD by the authors' own Lean function (tested against real Go, not proved from fmt's source: count such statements apart). THE CARD IS WHAT COUNTS. Prove the row's statement (the work); the ties are given (YtcajjicdbphkpaaDoorTie.lean); close each card by the builder's one call (the guide's Derived/Test/ToyasCard.lean, 'card_holds'). Laid BY PROGRAM, IN A SANDBOX (cutbox-door.mjs). By AI agents, Wed Nov 11 2026. No macro, syntax, notation, axiom, sorry.
-/
import Derived.Test.YtcajjicdbphkpaaDoorRows
import GoSem.ClaimSeven
namespace Go.Proofs.YtcajjicdbphkpaaDoor
namespace Rows

/-- THE TIED CARD OF 'isagogelaw01.ConceptTexts'. -/
def conceptTextsCard : Claim7 := { stood := { row := conceptTextsRow, standIns := [], harness := (true, "9b47f4166029998a1bd01a1138a2669ea3493abdcbf3d79f24e501eb57d3a2fd"), looks := true }, kinds := [], alts := [], laidByText := true, laidKinds := [.data, .data], laidTests := true, laidLooks := .later }
def ConceptTextsCardSaid : Prop := Claim7.holds Tryd.pinned (.plain (OpenSpec.ofChange conceptTextsSpec)) conceptTextsCard

/-- THE TIED CARD OF 'isagogelaw01.ConceptNormal'. -/
def conceptNormalCard : Claim7 := { stood := { row := conceptNormalRow, standIns := [], harness := (true, "9b47f4166029998a1bd01a1138a2669ea3493abdcbf3d79f24e501eb57d3a2fd"), looks := true }, kinds := [], alts := [], laidByText := true, laidKinds := [.data, .data], laidTests := true, laidLooks := .later }
def ConceptNormalCardSaid : Prop := Claim7.holds Tryd.pinned (.plain (OpenSpec.ofChange conceptNormalSpec)) conceptNormalCard

/-- THE TIED CARD OF 'isagogelaw01.ConceptBack'. -/
def conceptBackCard : Claim7 := { stood := { row := conceptBackRow, standIns := [], harness := (true, "9b47f4166029998a1bd01a1138a2669ea3493abdcbf3d79f24e501eb57d3a2fd"), looks := true }, kinds := [], alts := [], laidByText := true, laidKinds := [.data, .data], laidTests := true, laidLooks := .later }
def ConceptBackCardSaid : Prop := Claim7.holds Tryd.pinned (.plain (OpenSpec.ofChange conceptBackSpec)) conceptBackCard

/-- THE TIED CARD OF 'isagogelaw01.ConceptForms'. -/
def conceptFormsCard : Claim7 := { stood := { row := conceptFormsRow, standIns := [], harness := (true, "9b47f4166029998a1bd01a1138a2669ea3493abdcbf3d79f24e501eb57d3a2fd"), looks := true }, kinds := [], alts := [], laidByText := true, laidKinds := [.data, .data], laidTests := true, laidLooks := .later }
def ConceptFormsCardSaid : Prop := Claim7.holds Tryd.pinned (.plain (OpenSpec.ofChange conceptFormsSpec)) conceptFormsCard

/-- THE TIED CARD OF 'isagogelaw01.ConceptOwn'. -/
def conceptOwnCard : Claim7 := { stood := { row := conceptOwnRow, standIns := [], harness := (true, "9b47f4166029998a1bd01a1138a2669ea3493abdcbf3d79f24e501eb57d3a2fd"), looks := true }, kinds := [], alts := [], laidByText := true, laidKinds := [.data, .data], laidTests := true, laidLooks := .later }
def ConceptOwnCardSaid : Prop := Claim7.holds Tryd.pinned (.plain (OpenSpec.ofChange conceptOwnSpec)) conceptOwnCard

/-- THE SECOND FORM's CARD OF 'isagogelaw01.ConceptTexts'. -/
def conceptTextsUptoCard : Claim7 := { stood := { row := conceptTextsUptoRow, standIns := [], harness := (true, "9b47f4166029998a1bd01a1138a2669ea3493abdcbf3d79f24e501eb57d3a2fd"), looks := true }, kinds := [], alts := [], laidByText := true, laidKinds := [.data, .data], laidTests := true, laidLooks := .later }
def ConceptTextsUptoCardSaid : Prop := Claim7.holds Tryd.pinned (.plain (OpenSpec.upto conceptTextsSpec)) conceptTextsUptoCard

/-- THE SECOND FORM's CARD OF 'isagogelaw01.ConceptNormal'. -/
def conceptNormalUptoCard : Claim7 := { stood := { row := conceptNormalUptoRow, standIns := [], harness := (true, "9b47f4166029998a1bd01a1138a2669ea3493abdcbf3d79f24e501eb57d3a2fd"), looks := true }, kinds := [], alts := [], laidByText := true, laidKinds := [.data, .data], laidTests := true, laidLooks := .later }
def ConceptNormalUptoCardSaid : Prop := Claim7.holds Tryd.pinned (.plain (OpenSpec.upto conceptNormalSpec)) conceptNormalUptoCard

/-- THE SECOND FORM's CARD OF 'isagogelaw01.ConceptBack'. -/
def conceptBackUptoCard : Claim7 := { stood := { row := conceptBackUptoRow, standIns := [], harness := (true, "9b47f4166029998a1bd01a1138a2669ea3493abdcbf3d79f24e501eb57d3a2fd"), looks := true }, kinds := [], alts := [], laidByText := true, laidKinds := [.data, .data], laidTests := true, laidLooks := .later }
def ConceptBackUptoCardSaid : Prop := Claim7.holds Tryd.pinned (.plain (OpenSpec.upto conceptBackSpec)) conceptBackUptoCard

/-- THE SECOND FORM's CARD OF 'isagogelaw01.ConceptForms'. -/
def conceptFormsUptoCard : Claim7 := { stood := { row := conceptFormsUptoRow, standIns := [], harness := (true, "9b47f4166029998a1bd01a1138a2669ea3493abdcbf3d79f24e501eb57d3a2fd"), looks := true }, kinds := [], alts := [], laidByText := true, laidKinds := [.data, .data], laidTests := true, laidLooks := .later }
def ConceptFormsUptoCardSaid : Prop := Claim7.holds Tryd.pinned (.plain (OpenSpec.upto conceptFormsSpec)) conceptFormsUptoCard

/-- THE SECOND FORM's CARD OF 'isagogelaw01.ConceptOwn'. -/
def conceptOwnUptoCard : Claim7 := { stood := { row := conceptOwnUptoRow, standIns := [], harness := (true, "9b47f4166029998a1bd01a1138a2669ea3493abdcbf3d79f24e501eb57d3a2fd"), looks := true }, kinds := [], alts := [], laidByText := true, laidKinds := [.data, .data], laidTests := true, laidLooks := .later }
def ConceptOwnUptoCardSaid : Prop := Claim7.holds Tryd.pinned (.plain (OpenSpec.upto conceptOwnSpec)) conceptOwnUptoCard
end Rows
end Go.Proofs.YtcajjicdbphkpaaDoor
