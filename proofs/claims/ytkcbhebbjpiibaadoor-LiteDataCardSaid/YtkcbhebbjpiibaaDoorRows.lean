/-
  NARROWER THAN 'FOR EVERY INPUT', by the rows' own cells (each row's printed sentence says how): LitePairs: loops, laid · LiteDual: loops, laid · LiteFits: loops, laid · LiteRules: loops, laid · LiteData: loops, laid.
  DERIVED. THE GIVEN ROWS OF THIS SEAT. 5 by the template 'for every input the law returns true; each argument reads behind the call as it read before'; 0 by the template 'total and deterministic' (their statements: YtkcbhebbjpiibaaDoorTotals.lean).
  GIVEN WITH THE SEED: the statements are not yours to turn. If you find one false, say at which input.
  Laid BY PROGRAM, IN A SANDBOX (cutbox-rows.mjs): the forced cells as the released guide's own fill.sh prints them over the translation 14ed285cf841e8ec… (all of the seat's roots in one cut). By AI agents, Wed Nov 11 2026. No macro, syntax, notation, axiom, sorry.
-/
import Derived.Test.YtkcbhebbjpiibaaDoorChecked
import GoSem.Claim
import GoSem.ClaimJoined
import GoSem.ClaimMapViews
import Derived.JoinedTies
import Derived.KernelRfl
namespace Go.Proofs.YtkcbhebbjpiibaaDoor
/- THE CELL 'sum', in the pinned program and in every row, IS THE sha256 OF THE DUMP (.gsa) THAT YtkcbhebbjpiibaaDoorProg.lean LOADS. Nothing in Lean hashes anything: it is a label: what it is worth is what the hold of that sum in a sandbox is worth. -/
noncomputable def Tryd.pinned : Pinned := { name := "ytkcbhebbjpiibaadoor", sum := "14ed285cf841e8ecc60517dc10462e4b2645f1478117acf19d6a7cd3307e7ca4", checked := Tryd.checked }
namespace Rows
def none {H : Type} : Left H := { results := [], args := [] }

/- WHAT THE LISTED PACKAGE-LEVEL VARIABLES READ AS WHEN THE CALL BEGINS. Each datum BY PROGRAM (the guide's laid-datum.mjs) off the statement by which the dump's own 'gosem.cut.vars' lays the variable. In a bare row this is a premise. The card (YtkcbhebbjpiibaaDoorCards.lean) ties it to the program's text. -/
def laid_isagoge_concept_args {H : Type} : DataW H := .agg [.lit (.int .i64 0), .lit (.int .i64 0), .lit (.int .i64 0), .lit (.int .i64 1), .lit (.int .i64 2), .lit (.int .i64 2), .lit (.int .i64 1), .lit (.int .i64 1)]

/-- 'isagogelaw14.LitePairs': WHATEVER THE INPUT: true; the input reads as it did. -/
def litePairsSpec : ChangeSpec := { name := "litePairs", fn := fun _ => fun
  | [d] => { results := [.lit (.bool true)], args := [d] }
  | _ => none }
def litePairsRow : OpenClaim := { program := "ytkcbhebbjpiibaadoor", sum := "14ed285cf841e8ecc60517dc10462e4b2645f1478117acf19d6a7cd3307e7ca4", func := "isagoge/isagogelaw14.LitePairs", spec := "litePairs", inPlace := ["internal/bytealg.IndexByteString", "internal/bytealg.IndexString"], unfollowed := true, recurses := true, named := ["internal/bytealg.MaxLen", "isagoge/concept.args"], loops := true, apart := false, laid := [("isagoge/concept.args", laid_isagoge_concept_args)] }
def LitePairsSaid : Prop := litePairsRow.holds Tryd.pinned (OpenSpec.ofChange litePairsSpec)

/-- ITS FALSE NEIGHBOUR: 'it returns false'. Refute it at one input. -/
def litePairsWrong : ChangeSpec := { name := "litePairs", fn := fun _ => fun
  | [d] => { results := [.lit (.bool false)], args := [d] }
  | _ => none }
def LitePairsWrongFalsely : Prop := litePairsRow.holds Tryd.pinned (OpenSpec.ofChange litePairsWrong)

/-- 'isagogelaw14.LiteDual': WHATEVER THE INPUT: true; the input reads as it did. -/
def liteDualSpec : ChangeSpec := { name := "liteDual", fn := fun _ => fun
  | [d1, d2, d3] => { results := [.lit (.bool true)], args := [d1, d2, d3] }
  | _ => none }
def liteDualRow : OpenClaim := { program := "ytkcbhebbjpiibaadoor", sum := "14ed285cf841e8ecc60517dc10462e4b2645f1478117acf19d6a7cd3307e7ca4", func := "isagoge/isagogelaw14.LiteDual", spec := "liteDual", inPlace := ["internal/bytealg.IndexByteString", "internal/bytealg.IndexString"], unfollowed := true, recurses := true, named := ["internal/bytealg.MaxLen", "isagoge/concept.args"], loops := true, apart := false, laid := [("isagoge/concept.args", laid_isagoge_concept_args)] }
def LiteDualSaid : Prop := liteDualRow.holds Tryd.pinned (OpenSpec.ofChange liteDualSpec)

/-- ITS FALSE NEIGHBOUR: 'it returns false'. Refute it at one input. -/
def liteDualWrong : ChangeSpec := { name := "liteDual", fn := fun _ => fun
  | [d1, d2, d3] => { results := [.lit (.bool false)], args := [d1, d2, d3] }
  | _ => none }
def LiteDualWrongFalsely : Prop := liteDualRow.holds Tryd.pinned (OpenSpec.ofChange liteDualWrong)

/-- 'isagogelaw14.LiteFits': WHATEVER THE INPUT: true; the input reads as it did. -/
def liteFitsSpec : ChangeSpec := { name := "liteFits", fn := fun _ => fun
  | [d1, d2] => { results := [.lit (.bool true)], args := [d1, d2] }
  | _ => none }
def liteFitsRow : OpenClaim := { program := "ytkcbhebbjpiibaadoor", sum := "14ed285cf841e8ecc60517dc10462e4b2645f1478117acf19d6a7cd3307e7ca4", func := "isagoge/isagogelaw14.LiteFits", spec := "liteFits", inPlace := ["internal/bytealg.IndexByteString", "internal/bytealg.IndexString"], unfollowed := true, recurses := true, named := ["internal/bytealg.MaxLen", "isagoge/concept.args"], loops := true, apart := false, laid := [("isagoge/concept.args", laid_isagoge_concept_args)] }
def LiteFitsSaid : Prop := liteFitsRow.holds Tryd.pinned (OpenSpec.ofChange liteFitsSpec)

/-- ITS FALSE NEIGHBOUR: 'it returns false'. Refute it at one input. -/
def liteFitsWrong : ChangeSpec := { name := "liteFits", fn := fun _ => fun
  | [d1, d2] => { results := [.lit (.bool false)], args := [d1, d2] }
  | _ => none }
def LiteFitsWrongFalsely : Prop := liteFitsRow.holds Tryd.pinned (OpenSpec.ofChange liteFitsWrong)

/-- 'isagogelaw14.LiteRules': WHATEVER THE INPUT: true; the input reads as it did. -/
def liteRulesSpec : ChangeSpec := { name := "liteRules", fn := fun _ => fun
  | [d1, d2, d3, d4] => { results := [.lit (.bool true)], args := [d1, d2, d3, d4] }
  | _ => none }
def liteRulesRow : OpenClaim := { program := "ytkcbhebbjpiibaadoor", sum := "14ed285cf841e8ecc60517dc10462e4b2645f1478117acf19d6a7cd3307e7ca4", func := "isagoge/isagogelaw14.LiteRules", spec := "liteRules", inPlace := ["internal/bytealg.IndexByteString", "internal/bytealg.IndexString"], unfollowed := true, recurses := true, named := ["internal/bytealg.MaxLen", "isagoge/concept.args"], loops := true, apart := false, laid := [("isagoge/concept.args", laid_isagoge_concept_args)] }
def LiteRulesSaid : Prop := liteRulesRow.holds Tryd.pinned (OpenSpec.ofChange liteRulesSpec)

/-- ITS FALSE NEIGHBOUR: 'it returns false'. Refute it at one input. -/
def liteRulesWrong : ChangeSpec := { name := "liteRules", fn := fun _ => fun
  | [d1, d2, d3, d4] => { results := [.lit (.bool false)], args := [d1, d2, d3, d4] }
  | _ => none }
def LiteRulesWrongFalsely : Prop := liteRulesRow.holds Tryd.pinned (OpenSpec.ofChange liteRulesWrong)

/-- 'isagogelaw14.LiteData': WHATEVER THE INPUT: true; the input reads as it did. -/
def liteDataSpec : ChangeSpec := { name := "liteData", fn := fun _ => fun
  | [d1, d2, d3, d4, d5] => { results := [.lit (.bool true)], args := [d1, d2, d3, d4, d5] }
  | _ => none }
def liteDataRow : OpenClaim := { program := "ytkcbhebbjpiibaadoor", sum := "14ed285cf841e8ecc60517dc10462e4b2645f1478117acf19d6a7cd3307e7ca4", func := "isagoge/isagogelaw14.LiteData", spec := "liteData", inPlace := ["internal/bytealg.IndexByteString", "internal/bytealg.IndexString"], unfollowed := true, recurses := true, named := ["internal/bytealg.MaxLen", "isagoge/concept.args"], loops := true, apart := false, laid := [("isagoge/concept.args", laid_isagoge_concept_args)] }
def LiteDataSaid : Prop := liteDataRow.holds Tryd.pinned (OpenSpec.ofChange liteDataSpec)

/-- ITS FALSE NEIGHBOUR: 'it returns false'. Refute it at one input. -/
def liteDataWrong : ChangeSpec := { name := "liteData", fn := fun _ => fun
  | [d1, d2, d3, d4, d5] => { results := [.lit (.bool false)], args := [d1, d2, d3, d4, d5] }
  | _ => none }
def LiteDataWrongFalsely : Prop := liteDataRow.holds Tryd.pinned (OpenSpec.ofChange liteDataWrong)

/- THE SECOND FORM. 'bulk': how many values and letters a reading holds, each counted each time it is reached (what is shared counts as often as it is met; a slice's spare places count too). A statement '..UptoSaid' is the law's where the arguments, and the package variables that the reading takes, are together of bulk at most 1048576: NARROWER than '..Said'. Prove '..Said' where nothing that the law and all that it calls make is longer than what came in: it says more and counts as full. Else prove '..UptoSaid'. A law counts once. -/
mutual
def uptoBulk {H : Type} : DataW H → Nat
  | .lit (.string bytes) => bytes.length + 1
  | .lit _ => 1
  | .nil => 1
  | .ptr d => uptoBulk d + 1
  | .slice elems spare => uptoBulkAll elems + uptoBulkAll spare + 1
  | .agg parts => uptoBulkAll parts + 1
  | .iface _ d => uptoBulk d + 1
  | .map entries => uptoBulkEntries entries + 1
  | .held _ => 1
def uptoBulkAll {H : Type} : List (DataW H) → Nat
  | [] => 0
  | d :: r => uptoBulk d + uptoBulkAll r
def uptoBulkEntries {H : Type} : List (Lit × DataW H) → Nat
  | [] => 0
  | x :: r => uptoBulkEntry x + uptoBulkEntries r
def uptoBulkEntry {H : Type} : Lit × DataW H → Nat
  | (.string bytes, d) => bytes.length + uptoBulk d + 1
  | (_, d) => uptoBulk d + 1
 end
def uptoSmall : (H : Type) → List (DataW H) → Bool := fun _ ds => decide (uptoBulkAll ds ≤ 1048576)
def OpenSpec.upto (s : _root_.Go.ChangeSpec) : _root_.Go.OpenSpec := { _root_.Go.OpenSpec.ofChange s with cond := some uptoSmall }

/-- 'isagogelaw14.LitePairs', WHERE WHAT IT READS IS OF BULK AT MOST 1048576: true; the input reads as it did. -/
def litePairsUptoRow : OpenClaim := { program := "ytkcbhebbjpiibaadoor", sum := "14ed285cf841e8ecc60517dc10462e4b2645f1478117acf19d6a7cd3307e7ca4", func := "isagoge/isagogelaw14.LitePairs", spec := "litePairs", inPlace := ["internal/bytealg.IndexByteString", "internal/bytealg.IndexString"], unfollowed := true, recurses := true, named := ["internal/bytealg.MaxLen", "isagoge/concept.args"], loops := true, apart := false, laid := [("isagoge/concept.args", laid_isagoge_concept_args)], narrowed := true }
def LitePairsUptoSaid : Prop := litePairsUptoRow.holds Tryd.pinned (OpenSpec.upto litePairsSpec)

/-- 'isagogelaw14.LiteDual', WHERE WHAT IT READS IS OF BULK AT MOST 1048576: true; the input reads as it did. -/
def liteDualUptoRow : OpenClaim := { program := "ytkcbhebbjpiibaadoor", sum := "14ed285cf841e8ecc60517dc10462e4b2645f1478117acf19d6a7cd3307e7ca4", func := "isagoge/isagogelaw14.LiteDual", spec := "liteDual", inPlace := ["internal/bytealg.IndexByteString", "internal/bytealg.IndexString"], unfollowed := true, recurses := true, named := ["internal/bytealg.MaxLen", "isagoge/concept.args"], loops := true, apart := false, laid := [("isagoge/concept.args", laid_isagoge_concept_args)], narrowed := true }
def LiteDualUptoSaid : Prop := liteDualUptoRow.holds Tryd.pinned (OpenSpec.upto liteDualSpec)

/-- 'isagogelaw14.LiteFits', WHERE WHAT IT READS IS OF BULK AT MOST 1048576: true; the input reads as it did. -/
def liteFitsUptoRow : OpenClaim := { program := "ytkcbhebbjpiibaadoor", sum := "14ed285cf841e8ecc60517dc10462e4b2645f1478117acf19d6a7cd3307e7ca4", func := "isagoge/isagogelaw14.LiteFits", spec := "liteFits", inPlace := ["internal/bytealg.IndexByteString", "internal/bytealg.IndexString"], unfollowed := true, recurses := true, named := ["internal/bytealg.MaxLen", "isagoge/concept.args"], loops := true, apart := false, laid := [("isagoge/concept.args", laid_isagoge_concept_args)], narrowed := true }
def LiteFitsUptoSaid : Prop := liteFitsUptoRow.holds Tryd.pinned (OpenSpec.upto liteFitsSpec)

/-- 'isagogelaw14.LiteRules', WHERE WHAT IT READS IS OF BULK AT MOST 1048576: true; the input reads as it did. -/
def liteRulesUptoRow : OpenClaim := { program := "ytkcbhebbjpiibaadoor", sum := "14ed285cf841e8ecc60517dc10462e4b2645f1478117acf19d6a7cd3307e7ca4", func := "isagoge/isagogelaw14.LiteRules", spec := "liteRules", inPlace := ["internal/bytealg.IndexByteString", "internal/bytealg.IndexString"], unfollowed := true, recurses := true, named := ["internal/bytealg.MaxLen", "isagoge/concept.args"], loops := true, apart := false, laid := [("isagoge/concept.args", laid_isagoge_concept_args)], narrowed := true }
def LiteRulesUptoSaid : Prop := liteRulesUptoRow.holds Tryd.pinned (OpenSpec.upto liteRulesSpec)

/-- 'isagogelaw14.LiteData', WHERE WHAT IT READS IS OF BULK AT MOST 1048576: true; the input reads as it did. -/
def liteDataUptoRow : OpenClaim := { program := "ytkcbhebbjpiibaadoor", sum := "14ed285cf841e8ecc60517dc10462e4b2645f1478117acf19d6a7cd3307e7ca4", func := "isagoge/isagogelaw14.LiteData", spec := "liteData", inPlace := ["internal/bytealg.IndexByteString", "internal/bytealg.IndexString"], unfollowed := true, recurses := true, named := ["internal/bytealg.MaxLen", "isagoge/concept.args"], loops := true, apart := false, laid := [("isagoge/concept.args", laid_isagoge_concept_args)], narrowed := true }
def LiteDataUptoSaid : Prop := liteDataUptoRow.holds Tryd.pinned (OpenSpec.upto liteDataSpec)

end Rows
end Go.Proofs.YtkcbhebbjpiibaaDoor
