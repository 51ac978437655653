/-
  NARROWER THAN 'FOR EVERY INPUT', by the rows' own cells (each row's printed sentence says how): ConceptTexts: loops, laid · ConceptNormal: loops, laid · ConceptBack: loops, laid · ConceptForms: loops, laid · ConceptOwn: loops, laid.
  DERIVED. THE GIVEN ROWS OF THIS SEAT. 5 by the template 'for every input the law returns true; each argument reads behind the call as it read before'; 0 by the template 'total and deterministic' (their statements: YtcajjicdbphkpaaDoorTotals.lean).
  GIVEN WITH THE SEED: the statements are not yours to turn. If you find one false, say at which input.
  Laid BY PROGRAM, IN A SANDBOX (cutbox-rows.mjs): the forced cells as the released guide's own fill.sh prints them over the translation 97004ee150064377… (all of the seat's roots in one cut). By AI agents, Wed Nov 11 2026. No macro, syntax, notation, axiom, sorry.
-/
import Derived.Test.YtcajjicdbphkpaaDoorChecked
import GoSem.Claim
import GoSem.ClaimJoined
import GoSem.ClaimMapViews
import Derived.JoinedTies
import Derived.KernelRfl
namespace Go.Proofs.YtcajjicdbphkpaaDoor
/- THE CELL 'sum', in the pinned program and in every row, IS THE sha256 OF THE DUMP (.gsa) THAT YtcajjicdbphkpaaDoorProg.lean LOADS. Nothing in Lean hashes anything: it is a label: what it is worth is what the hold of that sum in a sandbox is worth. -/
noncomputable def Tryd.pinned : Pinned := { name := "ytcajjicdbphkpaadoor", sum := "97004ee1500643778bc3d86cd55c8451da5ff7b4a5811f3062870c3017504e5b", checked := Tryd.checked }
namespace Rows
def none {H : Type} : Left H := { results := [], args := [] }

/- WHAT THE LISTED PACKAGE-LEVEL VARIABLES READ AS WHEN THE CALL BEGINS. Each datum BY PROGRAM (the guide's laid-datum.mjs) off the statement by which the dump's own 'gosem.cut.vars' lays the variable. In a bare row this is a premise. The card (YtcajjicdbphkpaaDoorCards.lean) ties it to the program's text. -/
def laid_isagoge_concept_args {H : Type} : DataW H := .agg [.lit (.int .i64 0), .lit (.int .i64 0), .lit (.int .i64 0), .lit (.int .i64 1), .lit (.int .i64 2), .lit (.int .i64 2), .lit (.int .i64 1), .lit (.int .i64 1)]
def laid_isagoge_concept_duals {H : Type} : DataW H := .agg [.lit (.int .i64 0), .lit (.int .i64 2), .lit (.int .i64 1), .lit (.int .i64 0), .lit (.int .i64 5), .lit (.int .i64 4), .lit (.int .i64 7), .lit (.int .i64 6)]

/-- 'isagogelaw01.ConceptTexts': WHATEVER THE INPUT: true; the input reads as it did. -/
def conceptTextsSpec : ChangeSpec := { name := "conceptTexts", fn := fun _ => fun
  | [d1, d2, d3, d4] => { results := [.lit (.bool true)], args := [d1, d2, d3, d4] }
  | _ => none }
def conceptTextsRow : OpenClaim := { program := "ytcajjicdbphkpaadoor", sum := "97004ee1500643778bc3d86cd55c8451da5ff7b4a5811f3062870c3017504e5b", func := "isagoge/isagogelaw01.ConceptTexts", spec := "conceptTexts", inPlace := ["internal/bytealg.IndexByteString", "internal/bytealg.IndexString"], unfollowed := true, recurses := true, named := ["internal/bytealg.MaxLen", "isagoge/concept.args", "isagoge/concept.duals"], loops := true, apart := false, laid := [("isagoge/concept.args", laid_isagoge_concept_args), ("isagoge/concept.duals", laid_isagoge_concept_duals)] }
def ConceptTextsSaid : Prop := conceptTextsRow.holds Tryd.pinned (OpenSpec.ofChange conceptTextsSpec)

/-- ITS FALSE NEIGHBOUR: 'it returns false'. Refute it at one input. -/
def conceptTextsWrong : ChangeSpec := { name := "conceptTexts", fn := fun _ => fun
  | [d1, d2, d3, d4] => { results := [.lit (.bool false)], args := [d1, d2, d3, d4] }
  | _ => none }
def ConceptTextsWrongFalsely : Prop := conceptTextsRow.holds Tryd.pinned (OpenSpec.ofChange conceptTextsWrong)

/-- 'isagogelaw01.ConceptNormal': WHATEVER THE INPUT: true; the input reads as it did. -/
def conceptNormalSpec : ChangeSpec := { name := "conceptNormal", fn := fun _ => fun
  | [d1, d2] => { results := [.lit (.bool true)], args := [d1, d2] }
  | _ => none }
def conceptNormalRow : OpenClaim := { program := "ytcajjicdbphkpaadoor", sum := "97004ee1500643778bc3d86cd55c8451da5ff7b4a5811f3062870c3017504e5b", func := "isagoge/isagogelaw01.ConceptNormal", spec := "conceptNormal", inPlace := ["internal/bytealg.IndexByteString", "internal/bytealg.IndexString"], unfollowed := true, recurses := true, named := ["internal/bytealg.MaxLen", "isagoge/concept.args", "isagoge/concept.duals"], loops := true, apart := false, laid := [("isagoge/concept.args", laid_isagoge_concept_args), ("isagoge/concept.duals", laid_isagoge_concept_duals)] }
def ConceptNormalSaid : Prop := conceptNormalRow.holds Tryd.pinned (OpenSpec.ofChange conceptNormalSpec)

/-- ITS FALSE NEIGHBOUR: 'it returns false'. Refute it at one input. -/
def conceptNormalWrong : ChangeSpec := { name := "conceptNormal", fn := fun _ => fun
  | [d1, d2] => { results := [.lit (.bool false)], args := [d1, d2] }
  | _ => none }
def ConceptNormalWrongFalsely : Prop := conceptNormalRow.holds Tryd.pinned (OpenSpec.ofChange conceptNormalWrong)

/-- 'isagogelaw01.ConceptBack': WHATEVER THE INPUT: true; the input reads as it did. -/
def conceptBackSpec : ChangeSpec := { name := "conceptBack", fn := fun _ => fun
  | [d1, d2] => { results := [.lit (.bool true)], args := [d1, d2] }
  | _ => none }
def conceptBackRow : OpenClaim := { program := "ytcajjicdbphkpaadoor", sum := "97004ee1500643778bc3d86cd55c8451da5ff7b4a5811f3062870c3017504e5b", func := "isagoge/isagogelaw01.ConceptBack", spec := "conceptBack", inPlace := ["internal/bytealg.IndexByteString", "internal/bytealg.IndexString"], unfollowed := true, recurses := true, named := ["internal/bytealg.MaxLen", "isagoge/concept.args", "isagoge/concept.duals"], loops := true, apart := false, laid := [("isagoge/concept.args", laid_isagoge_concept_args), ("isagoge/concept.duals", laid_isagoge_concept_duals)] }
def ConceptBackSaid : Prop := conceptBackRow.holds Tryd.pinned (OpenSpec.ofChange conceptBackSpec)

/-- ITS FALSE NEIGHBOUR: 'it returns false'. Refute it at one input. -/
def conceptBackWrong : ChangeSpec := { name := "conceptBack", fn := fun _ => fun
  | [d1, d2] => { results := [.lit (.bool false)], args := [d1, d2] }
  | _ => none }
def ConceptBackWrongFalsely : Prop := conceptBackRow.holds Tryd.pinned (OpenSpec.ofChange conceptBackWrong)

/-- 'isagogelaw01.ConceptForms': WHATEVER THE INPUT: true; the input reads as it did. -/
def conceptFormsSpec : ChangeSpec := { name := "conceptForms", fn := fun _ => fun
  | [d1, d2, d3] => { results := [.lit (.bool true)], args := [d1, d2, d3] }
  | _ => none }
def conceptFormsRow : OpenClaim := { program := "ytcajjicdbphkpaadoor", sum := "97004ee1500643778bc3d86cd55c8451da5ff7b4a5811f3062870c3017504e5b", func := "isagoge/isagogelaw01.ConceptForms", spec := "conceptForms", inPlace := ["internal/bytealg.IndexByteString", "internal/bytealg.IndexString"], unfollowed := true, recurses := true, named := ["internal/bytealg.MaxLen", "isagoge/concept.args", "isagoge/concept.duals"], loops := true, apart := false, laid := [("isagoge/concept.args", laid_isagoge_concept_args), ("isagoge/concept.duals", laid_isagoge_concept_duals)] }
def ConceptFormsSaid : Prop := conceptFormsRow.holds Tryd.pinned (OpenSpec.ofChange conceptFormsSpec)

/-- ITS FALSE NEIGHBOUR: 'it returns false'. Refute it at one input. -/
def conceptFormsWrong : ChangeSpec := { name := "conceptForms", fn := fun _ => fun
  | [d1, d2, d3] => { results := [.lit (.bool false)], args := [d1, d2, d3] }
  | _ => none }
def ConceptFormsWrongFalsely : Prop := conceptFormsRow.holds Tryd.pinned (OpenSpec.ofChange conceptFormsWrong)

/-- 'isagogelaw01.ConceptOwn': WHATEVER THE INPUT: true; the input reads as it did. -/
def conceptOwnSpec : ChangeSpec := { name := "conceptOwn", fn := fun _ => fun
  | [d1, d2] => { results := [.lit (.bool true)], args := [d1, d2] }
  | _ => none }
def conceptOwnRow : OpenClaim := { program := "ytcajjicdbphkpaadoor", sum := "97004ee1500643778bc3d86cd55c8451da5ff7b4a5811f3062870c3017504e5b", func := "isagoge/isagogelaw01.ConceptOwn", spec := "conceptOwn", inPlace := ["internal/bytealg.IndexByteString", "internal/bytealg.IndexString"], unfollowed := true, recurses := true, named := ["internal/bytealg.MaxLen", "isagoge/concept.args", "isagoge/concept.duals"], loops := true, apart := false, laid := [("isagoge/concept.args", laid_isagoge_concept_args), ("isagoge/concept.duals", laid_isagoge_concept_duals)] }
def ConceptOwnSaid : Prop := conceptOwnRow.holds Tryd.pinned (OpenSpec.ofChange conceptOwnSpec)

/-- ITS FALSE NEIGHBOUR: 'it returns false'. Refute it at one input. -/
def conceptOwnWrong : ChangeSpec := { name := "conceptOwn", fn := fun _ => fun
  | [d1, d2] => { results := [.lit (.bool false)], args := [d1, d2] }
  | _ => none }
def ConceptOwnWrongFalsely : Prop := conceptOwnRow.holds Tryd.pinned (OpenSpec.ofChange conceptOwnWrong)

/- THE SECOND FORM. 'bulk': how many values and letters a reading holds, each counted each time it is reached (what is shared counts as often as it is met; a slice's spare places count too). A statement '..UptoSaid' is the law's where the arguments, and the package variables that the reading takes, are together of bulk at most 1048576: NARROWER than '..Said'. Prove '..Said' where nothing that the law and all that it calls make is longer than what came in: it says more and counts as full. Else prove '..UptoSaid'. A law counts once. -/
mutual
def uptoBulk {H : Type} : DataW H → Nat
  | .lit (.string bytes) => bytes.length + 1
  | .lit _ => 1
  | .nil => 1
  | .ptr d => uptoBulk d + 1
  | .slice elems spare => uptoBulkAll elems + uptoBulkAll spare + 1
  | .agg parts => uptoBulkAll parts + 1
  | .iface _ d => uptoBulk d + 1
  | .map entries => uptoBulkEntries entries + 1
  | .held _ => 1
def uptoBulkAll {H : Type} : List (DataW H) → Nat
  | [] => 0
  | d :: r => uptoBulk d + uptoBulkAll r
def uptoBulkEntries {H : Type} : List (Lit × DataW H) → Nat
  | [] => 0
  | x :: r => uptoBulkEntry x + uptoBulkEntries r
def uptoBulkEntry {H : Type} : Lit × DataW H → Nat
  | (.string bytes, d) => bytes.length + uptoBulk d + 1
  | (_, d) => uptoBulk d + 1
 end
def uptoSmall : (H : Type) → List (DataW H) → Bool := fun _ ds => decide (uptoBulkAll ds ≤ 1048576)
def OpenSpec.upto (s : _root_.Go.ChangeSpec) : _root_.Go.OpenSpec := { _root_.Go.OpenSpec.ofChange s with cond := some uptoSmall }

/-- 'isagogelaw01.ConceptTexts', WHERE WHAT IT READS IS OF BULK AT MOST 1048576: true; the input reads as it did. -/
def conceptTextsUptoRow : OpenClaim := { program := "ytcajjicdbphkpaadoor", sum := "97004ee1500643778bc3d86cd55c8451da5ff7b4a5811f3062870c3017504e5b", func := "isagoge/isagogelaw01.ConceptTexts", spec := "conceptTexts", inPlace := ["internal/bytealg.IndexByteString", "internal/bytealg.IndexString"], unfollowed := true, recurses := true, named := ["internal/bytealg.MaxLen", "isagoge/concept.args", "isagoge/concept.duals"], loops := true, apart := false, laid := [("isagoge/concept.args", laid_isagoge_concept_args), ("isagoge/concept.duals", laid_isagoge_concept_duals)], narrowed := true }
def ConceptTextsUptoSaid : Prop := conceptTextsUptoRow.holds Tryd.pinned (OpenSpec.upto conceptTextsSpec)

/-- 'isagogelaw01.ConceptNormal', WHERE WHAT IT READS IS OF BULK AT MOST 1048576: true; the input reads as it did. -/
def conceptNormalUptoRow : OpenClaim := { program := "ytcajjicdbphkpaadoor", sum := "97004ee1500643778bc3d86cd55c8451da5ff7b4a5811f3062870c3017504e5b", func := "isagoge/isagogelaw01.ConceptNormal", spec := "conceptNormal", inPlace := ["internal/bytealg.IndexByteString", "internal/bytealg.IndexString"], unfollowed := true, recurses := true, named := ["internal/bytealg.MaxLen", "isagoge/concept.args", "isagoge/concept.duals"], loops := true, apart := false, laid := [("isagoge/concept.args", laid_isagoge_concept_args), ("isagoge/concept.duals", laid_isagoge_concept_duals)], narrowed := true }
def ConceptNormalUptoSaid : Prop := conceptNormalUptoRow.holds Tryd.pinned (OpenSpec.upto conceptNormalSpec)

/-- 'isagogelaw01.ConceptBack', WHERE WHAT IT READS IS OF BULK AT MOST 1048576: true; the input reads as it did. -/
def conceptBackUptoRow : OpenClaim := { program := "ytcajjicdbphkpaadoor", sum := "97004ee1500643778bc3d86cd55c8451da5ff7b4a5811f3062870c3017504e5b", func := "isagoge/isagogelaw01.ConceptBack", spec := "conceptBack", inPlace := ["internal/bytealg.IndexByteString", "internal/bytealg.IndexString"], unfollowed := true, recurses := true, named := ["internal/bytealg.MaxLen", "isagoge/concept.args", "isagoge/concept.duals"], loops := true, apart := false, laid := [("isagoge/concept.args", laid_isagoge_concept_args), ("isagoge/concept.duals", laid_isagoge_concept_duals)], narrowed := true }
def ConceptBackUptoSaid : Prop := conceptBackUptoRow.holds Tryd.pinned (OpenSpec.upto conceptBackSpec)

/-- 'isagogelaw01.ConceptForms', WHERE WHAT IT READS IS OF BULK AT MOST 1048576: true; the input reads as it did. -/
def conceptFormsUptoRow : OpenClaim := { program := "ytcajjicdbphkpaadoor", sum := "97004ee1500643778bc3d86cd55c8451da5ff7b4a5811f3062870c3017504e5b", func := "isagoge/isagogelaw01.ConceptForms", spec := "conceptForms", inPlace := ["internal/bytealg.IndexByteString", "internal/bytealg.IndexString"], unfollowed := true, recurses := true, named := ["internal/bytealg.MaxLen", "isagoge/concept.args", "isagoge/concept.duals"], loops := true, apart := false, laid := [("isagoge/concept.args", laid_isagoge_concept_args), ("isagoge/concept.duals", laid_isagoge_concept_duals)], narrowed := true }
def ConceptFormsUptoSaid : Prop := conceptFormsUptoRow.holds Tryd.pinned (OpenSpec.upto conceptFormsSpec)

/-- 'isagogelaw01.ConceptOwn', WHERE WHAT IT READS IS OF BULK AT MOST 1048576: true; the input reads as it did. -/
def conceptOwnUptoRow : OpenClaim := { program := "ytcajjicdbphkpaadoor", sum := "97004ee1500643778bc3d86cd55c8451da5ff7b4a5811f3062870c3017504e5b", func := "isagoge/isagogelaw01.ConceptOwn", spec := "conceptOwn", inPlace := ["internal/bytealg.IndexByteString", "internal/bytealg.IndexString"], unfollowed := true, recurses := true, named := ["internal/bytealg.MaxLen", "isagoge/concept.args", "isagoge/concept.duals"], loops := true, apart := false, laid := [("isagoge/concept.args", laid_isagoge_concept_args), ("isagoge/concept.duals", laid_isagoge_concept_duals)], narrowed := true }
def ConceptOwnUptoSaid : Prop := conceptOwnUptoRow.holds Tryd.pinned (OpenSpec.upto conceptOwnSpec)

end Rows
end Go.Proofs.YtcajjicdbphkpaaDoor
