/-
  DERIVED. GIVEN WITH THE SEED: THE CARDS: each row of YtkcbhebbjpiibaaDoorRows.lean that lists a variable, with what it lists TIED to the program's text (the seventh form; the later family's looks); each row that meets fmt, with fmt's text TOLD by the authors' own Lean function (tested against real Go, not proved from fmt's source: count such statements apart). THE CARD IS WHAT COUNTS. Prove the row's statement (the work); the ties are given (YtkcbhebbjpiibaaDoorTie.lean); close each card by the builder's one call (the guide's Derived/Test/ToyasCard.lean, 'card_holds'). Laid BY PROGRAM, IN A SANDBOX (cutbox-door.mjs). By AI agents, Wed Nov 11 2026. No macro, syntax, notation, axiom, sorry.
-/
import Derived.Test.YtkcbhebbjpiibaaDoorRows
import GoSem.ClaimSeven
namespace Go.Proofs.YtkcbhebbjpiibaaDoor
namespace Rows

/-- THE TIED CARD OF 'isagogelaw14.LitePairs'. -/
def litePairsCard : Claim7 := { stood := { row := litePairsRow, standIns := [], harness := (true, "b15a9047e1158c93fcbf2f04993f5f7c19994b461581f9aa8dafd61258248d8e"), looks := false }, kinds := [], alts := [], laidByText := true, laidKinds := [.data], laidTests := true, laidLooks := .later }
def LitePairsCardSaid : Prop := Claim7.holds Tryd.pinned (.plain (OpenSpec.ofChange litePairsSpec)) litePairsCard

/-- THE TIED CARD OF 'isagogelaw14.LiteDual'. -/
def liteDualCard : Claim7 := { stood := { row := liteDualRow, standIns := [], harness := (true, "b15a9047e1158c93fcbf2f04993f5f7c19994b461581f9aa8dafd61258248d8e"), looks := false }, kinds := [], alts := [], laidByText := true, laidKinds := [.data], laidTests := true, laidLooks := .later }
def LiteDualCardSaid : Prop := Claim7.holds Tryd.pinned (.plain (OpenSpec.ofChange liteDualSpec)) liteDualCard

/-- THE TIED CARD OF 'isagogelaw14.LiteFits'. -/
def liteFitsCard : Claim7 := { stood := { row := liteFitsRow, standIns := [], harness := (true, "b15a9047e1158c93fcbf2f04993f5f7c19994b461581f9aa8dafd61258248d8e"), looks := false }, kinds := [], alts := [], laidByText := true, laidKinds := [.data], laidTests := true, laidLooks := .later }
def LiteFitsCardSaid : Prop := Claim7.holds Tryd.pinned (.plain (OpenSpec.ofChange liteFitsSpec)) liteFitsCard

/-- THE TIED CARD OF 'isagogelaw14.LiteRules'. -/
def liteRulesCard : Claim7 := { stood := { row := liteRulesRow, standIns := [], harness := (true, "b15a9047e1158c93fcbf2f04993f5f7c19994b461581f9aa8dafd61258248d8e"), looks := false }, kinds := [], alts := [], laidByText := true, laidKinds := [.data], laidTests := true, laidLooks := .later }
def LiteRulesCardSaid : Prop := Claim7.holds Tryd.pinned (.plain (OpenSpec.ofChange liteRulesSpec)) liteRulesCard

/-- THE TIED CARD OF 'isagogelaw14.LiteData'. -/
def liteDataCard : Claim7 := { stood := { row := liteDataRow, standIns := [], harness := (true, "b15a9047e1158c93fcbf2f04993f5f7c19994b461581f9aa8dafd61258248d8e"), looks := false }, kinds := [], alts := [], laidByText := true, laidKinds := [.data], laidTests := true, laidLooks := .later }
def LiteDataCardSaid : Prop := Claim7.holds Tryd.pinned (.plain (OpenSpec.ofChange liteDataSpec)) liteDataCard

/-- THE SECOND FORM's CARD OF 'isagogelaw14.LitePairs'. -/
def litePairsUptoCard : Claim7 := { stood := { row := litePairsUptoRow, standIns := [], harness := (true, "b15a9047e1158c93fcbf2f04993f5f7c19994b461581f9aa8dafd61258248d8e"), looks := false }, kinds := [], alts := [], laidByText := true, laidKinds := [.data], laidTests := true, laidLooks := .later }
def LitePairsUptoCardSaid : Prop := Claim7.holds Tryd.pinned (.plain (OpenSpec.upto litePairsSpec)) litePairsUptoCard

/-- THE SECOND FORM's CARD OF 'isagogelaw14.LiteDual'. -/
def liteDualUptoCard : Claim7 := { stood := { row := liteDualUptoRow, standIns := [], harness := (true, "b15a9047e1158c93fcbf2f04993f5f7c19994b461581f9aa8dafd61258248d8e"), looks := false }, kinds := [], alts := [], laidByText := true, laidKinds := [.data], laidTests := true, laidLooks := .later }
def LiteDualUptoCardSaid : Prop := Claim7.holds Tryd.pinned (.plain (OpenSpec.upto liteDualSpec)) liteDualUptoCard

/-- THE SECOND FORM's CARD OF 'isagogelaw14.LiteFits'. -/
def liteFitsUptoCard : Claim7 := { stood := { row := liteFitsUptoRow, standIns := [], harness := (true, "b15a9047e1158c93fcbf2f04993f5f7c19994b461581f9aa8dafd61258248d8e"), looks := false }, kinds := [], alts := [], laidByText := true, laidKinds := [.data], laidTests := true, laidLooks := .later }
def LiteFitsUptoCardSaid : Prop := Claim7.holds Tryd.pinned (.plain (OpenSpec.upto liteFitsSpec)) liteFitsUptoCard

/-- THE SECOND FORM's CARD OF 'isagogelaw14.LiteRules'. -/
def liteRulesUptoCard : Claim7 := { stood := { row := liteRulesUptoRow, standIns := [], harness := (true, "b15a9047e1158c93fcbf2f04993f5f7c19994b461581f9aa8dafd61258248d8e"), looks := false }, kinds := [], alts := [], laidByText := true, laidKinds := [.data], laidTests := true, laidLooks := .later }
def LiteRulesUptoCardSaid : Prop := Claim7.holds Tryd.pinned (.plain (OpenSpec.upto liteRulesSpec)) liteRulesUptoCard

/-- THE SECOND FORM's CARD OF 'isagogelaw14.LiteData'. -/
def liteDataUptoCard : Claim7 := { stood := { row := liteDataUptoRow, standIns := [], harness := (true, "b15a9047e1158c93fcbf2f04993f5f7c19994b461581f9aa8dafd61258248d8e"), looks := false }, kinds := [], alts := [], laidByText := true, laidKinds := [.data], laidTests := true, laidLooks := .later }
def LiteDataUptoCardSaid : Prop := Claim7.holds Tryd.pinned (.plain (OpenSpec.upto liteDataSpec)) liteDataUptoCard
end Rows
end Go.Proofs.YtkcbhebbjpiibaaDoor
