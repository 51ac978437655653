/-
  DERIVED. GIVEN WITH THE SEED: THE CARDS: each row of YtcjlpklgnknpgaaGreatDoorRows.lean that lists a variable, with what it lists TIED to the program's text (the seventh form; the later family's looks); each row that meets fmt, with fmt's text TOLD by the authors' own Lean function (tested against real Go, not proved from fmt's source: count such statements apart). THE CARD IS WHAT COUNTS. Prove the row's statement (the work); the ties are given (YtcjlpklgnknpgaaGreatDoorTie.lean); close each card by the builder's one call (the guide's Derived/Test/ToyasCard.lean, 'card_holds'). Laid BY PROGRAM, IN A SANDBOX (cutbox-door.mjs). By AI agents, Wed Nov 11 2026. No macro, syntax, notation, axiom, sorry.
-/
import Derived.Test.YtcjlpklgnknpgaaGreatDoorRows
import GoSem.ClaimSeven
namespace Go.Proofs.YtcjlpklgnknpgaaGreatDoor
namespace Rows

/-- THE TIED CARD OF 'isagogelaw02.KbTexts'. -/
def kbTextsCard : Claim7 := { stood := { row := kbTextsRow, standIns := [], harness := (true, "7dae914f0bec6d08aab07f1d567cef77fc45235baea56c8ac534f30a2a741504"), looks := true }, kinds := [], alts := [], laidByText := true, laidKinds := [.data, .data, .pinned], laidTests := true, laidLooks := .later }
def KbTextsCardSaid : Prop := Claim7.holds Tryz.pinned (.plain (OpenSpec.ofChange kbTextsSpec)) kbTextsCard

/-- THE TIED CARD OF 'isagogelaw02.KbPicks'. -/
def kbPicksCard : Claim7 := { stood := { row := kbPicksRow, standIns := [], harness := (true, "7dae914f0bec6d08aab07f1d567cef77fc45235baea56c8ac534f30a2a741504"), looks := true }, kinds := [], alts := [], laidByText := true, laidKinds := [.data, .data, .pinned], laidTests := true, laidLooks := .later }
def KbPicksCardSaid : Prop := Claim7.holds Tryz.pinned (.plain (OpenSpec.ofChange kbPicksSpec)) kbPicksCard

/-- THE TIED CARD OF 'isagogelaw02.KbBack'. -/
def kbBackCard : Claim7 := { stood := { row := kbBackRow, standIns := [], harness := (true, "7dae914f0bec6d08aab07f1d567cef77fc45235baea56c8ac534f30a2a741504"), looks := true }, kinds := [], alts := [], laidByText := true, laidKinds := [.data, .data, .pinned], laidTests := true, laidLooks := .later }
def KbBackCardSaid : Prop := Claim7.holds Tryz.pinned (.plain (OpenSpec.ofChange kbBackSpec)) kbBackCard

/-- THE TIED CARD OF 'isagogelaw02.KbForms'. -/
def kbFormsCard : Claim7 := { stood := { row := kbFormsRow, standIns := [], harness := (true, "7dae914f0bec6d08aab07f1d567cef77fc45235baea56c8ac534f30a2a741504"), looks := true }, kinds := [], alts := [], laidByText := true, laidKinds := [.data, .data, .pinned], laidTests := true, laidLooks := .later }
def KbFormsCardSaid : Prop := Claim7.holds Tryz.pinned (.plain (OpenSpec.ofChange kbFormsSpec)) kbFormsCard

/-- THE TIED CARD OF 'isagogelaw02.KbOwn'. -/
def kbOwnCard : Claim7 := { stood := { row := kbOwnRow, standIns := [], harness := (true, "7dae914f0bec6d08aab07f1d567cef77fc45235baea56c8ac534f30a2a741504"), looks := true }, kinds := [], alts := [], laidByText := true, laidKinds := [.data, .data, .pinned], laidTests := true, laidLooks := .later }
def KbOwnCardSaid : Prop := Claim7.holds Tryz.pinned (.plain (OpenSpec.ofChange kbOwnSpec)) kbOwnCard

/-- THE SECOND FORM's CARD OF 'isagogelaw02.KbTexts'. -/
def kbTextsUptoCard : Claim7 := { stood := { row := kbTextsUptoRow, standIns := [], harness := (true, "7dae914f0bec6d08aab07f1d567cef77fc45235baea56c8ac534f30a2a741504"), looks := true }, kinds := [], alts := [], laidByText := true, laidKinds := [.data, .data, .pinned], laidTests := true, laidLooks := .later }
def KbTextsUptoCardSaid : Prop := Claim7.holds Tryz.pinned (.plain (OpenSpec.upto kbTextsSpec)) kbTextsUptoCard

/-- THE SECOND FORM's CARD OF 'isagogelaw02.KbPicks'. -/
def kbPicksUptoCard : Claim7 := { stood := { row := kbPicksUptoRow, standIns := [], harness := (true, "7dae914f0bec6d08aab07f1d567cef77fc45235baea56c8ac534f30a2a741504"), looks := true }, kinds := [], alts := [], laidByText := true, laidKinds := [.data, .data, .pinned], laidTests := true, laidLooks := .later }
def KbPicksUptoCardSaid : Prop := Claim7.holds Tryz.pinned (.plain (OpenSpec.upto kbPicksSpec)) kbPicksUptoCard

/-- THE SECOND FORM's CARD OF 'isagogelaw02.KbBack'. -/
def kbBackUptoCard : Claim7 := { stood := { row := kbBackUptoRow, standIns := [], harness := (true, "7dae914f0bec6d08aab07f1d567cef77fc45235baea56c8ac534f30a2a741504"), looks := true }, kinds := [], alts := [], laidByText := true, laidKinds := [.data, .data, .pinned], laidTests := true, laidLooks := .later }
def KbBackUptoCardSaid : Prop := Claim7.holds Tryz.pinned (.plain (OpenSpec.upto kbBackSpec)) kbBackUptoCard

/-- THE SECOND FORM's CARD OF 'isagogelaw02.KbForms'. -/
def kbFormsUptoCard : Claim7 := { stood := { row := kbFormsUptoRow, standIns := [], harness := (true, "7dae914f0bec6d08aab07f1d567cef77fc45235baea56c8ac534f30a2a741504"), looks := true }, kinds := [], alts := [], laidByText := true, laidKinds := [.data, .data, .pinned], laidTests := true, laidLooks := .later }
def KbFormsUptoCardSaid : Prop := Claim7.holds Tryz.pinned (.plain (OpenSpec.upto kbFormsSpec)) kbFormsUptoCard

/-- THE SECOND FORM's CARD OF 'isagogelaw02.KbOwn'. -/
def kbOwnUptoCard : Claim7 := { stood := { row := kbOwnUptoRow, standIns := [], harness := (true, "7dae914f0bec6d08aab07f1d567cef77fc45235baea56c8ac534f30a2a741504"), looks := true }, kinds := [], alts := [], laidByText := true, laidKinds := [.data, .data, .pinned], laidTests := true, laidLooks := .later }
def KbOwnUptoCardSaid : Prop := Claim7.holds Tryz.pinned (.plain (OpenSpec.upto kbOwnSpec)) kbOwnUptoCard
end Rows
end Go.Proofs.YtcjlpklgnknpgaaGreatDoor
