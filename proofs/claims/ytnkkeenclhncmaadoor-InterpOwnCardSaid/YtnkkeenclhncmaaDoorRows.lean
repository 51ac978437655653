/-
  NARROWER THAN 'FOR EVERY INPUT', by the rows' own cells (each row's printed sentence says how): InterpForms: laid · InterpElements: loops, laid · InterpBoolean: loops, laid · InterpOwn: loops, laid.
  DERIVED. THE GIVEN ROWS OF THIS SEAT. 4 by the template 'for every input the law returns true; each argument reads behind the call as it read before'; 0 by the template 'total and deterministic' (their statements: YtnkkeenclhncmaaDoorTotals.lean).
  GIVEN WITH THE SEED: the statements are not yours to turn. If you find one false, say at which input.
  Laid BY PROGRAM, IN A SANDBOX (cutbox-rows.mjs): the forced cells as the released guide's own fill.sh prints them over the translation bc43054df1b33c64… (all of the seat's roots in one cut). By AI agents, Wed Nov 11 2026. No macro, syntax, notation, axiom, sorry.
-/
import Derived.Test.YtnkkeenclhncmaaDoorChecked
import GoSem.Claim
import GoSem.ClaimJoined
import GoSem.ClaimMapViews
import Derived.JoinedTies
import Derived.KernelRfl
namespace Go.Proofs.YtnkkeenclhncmaaDoor
/- THE CELL 'sum', in the pinned program and in every row, IS THE sha256 OF THE DUMP (.gsa) THAT YtnkkeenclhncmaaDoorProg.lean LOADS. Nothing in Lean hashes anything: it is a label: what it is worth is what the hold of that sum in a sandbox is worth. -/
noncomputable def Tryd.pinned : Pinned := { name := "ytnkkeenclhncmaadoor", sum := "bc43054df1b33c64c571ac12f8ccf00e37bfd5b45021058a7c853d1384550af0", checked := Tryd.checked }
namespace Rows
def none {H : Type} : Left H := { results := [], args := [] }

/- WHAT THE LISTED PACKAGE-LEVEL VARIABLES READ AS WHEN THE CALL BEGINS. Each datum BY PROGRAM (the guide's laid-datum.mjs) off the statement by which the dump's own 'gosem.cut.vars' lays the variable. In a bare row this is a premise. The card (YtnkkeenclhncmaaDoorCards.lean) ties it to the program's text. -/
def laid_isagoge_concept_args {H : Type} : DataW H := .agg [.lit (.int .i64 0), .lit (.int .i64 0), .lit (.int .i64 0), .lit (.int .i64 1), .lit (.int .i64 2), .lit (.int .i64 2), .lit (.int .i64 1), .lit (.int .i64 1)]
def laid_isagoge_concept_duals {H : Type} : DataW H := .agg [.lit (.int .i64 0), .lit (.int .i64 2), .lit (.int .i64 1), .lit (.int .i64 0), .lit (.int .i64 5), .lit (.int .i64 4), .lit (.int .i64 7), .lit (.int .i64 6)]

/-- 'isagogelaw03.InterpForms': WHATEVER THE INPUT: true; the input reads as it did. -/
def interpFormsSpec : ChangeSpec := { name := "interpForms", fn := fun _ => fun
  | [d1, d2, d3] => { results := [.lit (.bool true)], args := [d1, d2, d3] }
  | _ => none }
def interpFormsRow : OpenClaim := { program := "ytnkkeenclhncmaadoor", sum := "bc43054df1b33c64c571ac12f8ccf00e37bfd5b45021058a7c853d1384550af0", func := "isagoge/isagogelaw03.InterpForms", spec := "interpForms", inPlace := ["internal/bytealg.IndexByteString", "internal/bytealg.IndexString"], unfollowed := true, recurses := true, named := ["internal/bytealg.MaxLen", "isagoge/concept.args"], plainKeys := false, apart := false, laid := [("isagoge/concept.args", laid_isagoge_concept_args)] }
def InterpFormsSaid : Prop := interpFormsRow.holds Tryd.pinned (OpenSpec.ofChange interpFormsSpec)

/-- ITS FALSE NEIGHBOUR: 'it returns false'. Refute it at one input. -/
def interpFormsWrong : ChangeSpec := { name := "interpForms", fn := fun _ => fun
  | [d1, d2, d3] => { results := [.lit (.bool false)], args := [d1, d2, d3] }
  | _ => none }
def InterpFormsWrongFalsely : Prop := interpFormsRow.holds Tryd.pinned (OpenSpec.ofChange interpFormsWrong)

/-- 'isagogelaw03.InterpElements': WHATEVER THE INPUT: true; the input reads as it did. -/
def interpElementsSpec : ChangeSpec := { name := "interpElements", fn := fun _ => fun
  | [d1, d2, d3, d4] => { results := [.lit (.bool true)], args := [d1, d2, d3, d4] }
  | _ => none }
def interpElementsRow : OpenClaim := { program := "ytnkkeenclhncmaadoor", sum := "bc43054df1b33c64c571ac12f8ccf00e37bfd5b45021058a7c853d1384550af0", func := "isagoge/isagogelaw03.InterpElements", spec := "interpElements", inPlace := ["internal/bytealg.IndexByteString", "internal/bytealg.IndexString"], unfollowed := true, recurses := true, named := ["internal/bytealg.MaxLen", "isagoge/concept.args"], loops := true, plainKeys := false, apart := false, laid := [("isagoge/concept.args", laid_isagoge_concept_args)] }
def InterpElementsSaid : Prop := interpElementsRow.holds Tryd.pinned (OpenSpec.ofChange interpElementsSpec)

/-- ITS FALSE NEIGHBOUR: 'it returns false'. Refute it at one input. -/
def interpElementsWrong : ChangeSpec := { name := "interpElements", fn := fun _ => fun
  | [d1, d2, d3, d4] => { results := [.lit (.bool false)], args := [d1, d2, d3, d4] }
  | _ => none }
def InterpElementsWrongFalsely : Prop := interpElementsRow.holds Tryd.pinned (OpenSpec.ofChange interpElementsWrong)

/-- 'isagogelaw03.InterpBoolean': WHATEVER THE INPUT: true; the input reads as it did. -/
def interpBooleanSpec : ChangeSpec := { name := "interpBoolean", fn := fun _ => fun
  | [d1, d2, d3, d4, d5] => { results := [.lit (.bool true)], args := [d1, d2, d3, d4, d5] }
  | _ => none }
def interpBooleanRow : OpenClaim := { program := "ytnkkeenclhncmaadoor", sum := "bc43054df1b33c64c571ac12f8ccf00e37bfd5b45021058a7c853d1384550af0", func := "isagoge/isagogelaw03.InterpBoolean", spec := "interpBoolean", inPlace := ["internal/bytealg.IndexByteString", "internal/bytealg.IndexString"], unfollowed := true, recurses := true, named := ["internal/bytealg.MaxLen", "isagoge/concept.args", "isagoge/concept.duals"], loops := true, plainKeys := false, apart := false, laid := [("isagoge/concept.args", laid_isagoge_concept_args), ("isagoge/concept.duals", laid_isagoge_concept_duals)] }
def InterpBooleanSaid : Prop := interpBooleanRow.holds Tryd.pinned (OpenSpec.ofChange interpBooleanSpec)

/-- ITS FALSE NEIGHBOUR: 'it returns false'. Refute it at one input. -/
def interpBooleanWrong : ChangeSpec := { name := "interpBoolean", fn := fun _ => fun
  | [d1, d2, d3, d4, d5] => { results := [.lit (.bool false)], args := [d1, d2, d3, d4, d5] }
  | _ => none }
def InterpBooleanWrongFalsely : Prop := interpBooleanRow.holds Tryd.pinned (OpenSpec.ofChange interpBooleanWrong)

/-- 'isagogelaw03.InterpOwn': WHATEVER THE INPUT: true; the input reads as it did. -/
def interpOwnSpec : ChangeSpec := { name := "interpOwn", fn := fun _ => fun
  | [d1, d2, d3, d4] => { results := [.lit (.bool true)], args := [d1, d2, d3, d4] }
  | _ => none }
def interpOwnRow : OpenClaim := { program := "ytnkkeenclhncmaadoor", sum := "bc43054df1b33c64c571ac12f8ccf00e37bfd5b45021058a7c853d1384550af0", func := "isagoge/isagogelaw03.InterpOwn", spec := "interpOwn", inPlace := ["internal/bytealg.IndexByteString", "internal/bytealg.IndexString"], unfollowed := true, recurses := true, named := ["internal/bytealg.MaxLen", "isagoge/concept.args"], loops := true, plainKeys := false, apart := false, laid := [("isagoge/concept.args", laid_isagoge_concept_args)] }
def InterpOwnSaid : Prop := interpOwnRow.holds Tryd.pinned (OpenSpec.ofChange interpOwnSpec)

/-- ITS FALSE NEIGHBOUR: 'it returns false'. Refute it at one input. -/
def interpOwnWrong : ChangeSpec := { name := "interpOwn", fn := fun _ => fun
  | [d1, d2, d3, d4] => { results := [.lit (.bool false)], args := [d1, d2, d3, d4] }
  | _ => none }
def InterpOwnWrongFalsely : Prop := interpOwnRow.holds Tryd.pinned (OpenSpec.ofChange interpOwnWrong)

/- THE SECOND FORM. 'bulk': how many values and letters a reading holds, each counted each time it is reached (what is shared counts as often as it is met; a slice's spare places count too). A statement '..UptoSaid' is the law's where the arguments, and the package variables that the reading takes, are together of bulk at most 1048576: NARROWER than '..Said'. Prove '..Said' where nothing that the law and all that it calls make is longer than what came in: it says more and counts as full. Else prove '..UptoSaid'. A law counts once. -/
mutual
def uptoBulk {H : Type} : DataW H → Nat
  | .lit (.string bytes) => bytes.length + 1
  | .lit _ => 1
  | .nil => 1
  | .ptr d => uptoBulk d + 1
  | .slice elems spare => uptoBulkAll elems + uptoBulkAll spare + 1
  | .agg parts => uptoBulkAll parts + 1
  | .iface _ d => uptoBulk d + 1
  | .map entries => uptoBulkEntries entries + 1
  | .held _ => 1
def uptoBulkAll {H : Type} : List (DataW H) → Nat
  | [] => 0
  | d :: r => uptoBulk d + uptoBulkAll r
def uptoBulkEntries {H : Type} : List (Lit × DataW H) → Nat
  | [] => 0
  | x :: r => uptoBulkEntry x + uptoBulkEntries r
def uptoBulkEntry {H : Type} : Lit × DataW H → Nat
  | (.string bytes, d) => bytes.length + uptoBulk d + 1
  | (_, d) => uptoBulk d + 1
 end
def uptoSmall : (H : Type) → List (DataW H) → Bool := fun _ ds => decide (uptoBulkAll ds ≤ 1048576)
def OpenSpec.upto (s : _root_.Go.ChangeSpec) : _root_.Go.OpenSpec := { _root_.Go.OpenSpec.ofChange s with cond := some uptoSmall }

/-- 'isagogelaw03.InterpForms', WHERE WHAT IT READS IS OF BULK AT MOST 1048576: true; the input reads as it did. -/
def interpFormsUptoRow : OpenClaim := { program := "ytnkkeenclhncmaadoor", sum := "bc43054df1b33c64c571ac12f8ccf00e37bfd5b45021058a7c853d1384550af0", func := "isagoge/isagogelaw03.InterpForms", spec := "interpForms", inPlace := ["internal/bytealg.IndexByteString", "internal/bytealg.IndexString"], unfollowed := true, recurses := true, named := ["internal/bytealg.MaxLen", "isagoge/concept.args"], plainKeys := false, apart := false, laid := [("isagoge/concept.args", laid_isagoge_concept_args)], narrowed := true }
def InterpFormsUptoSaid : Prop := interpFormsUptoRow.holds Tryd.pinned (OpenSpec.upto interpFormsSpec)

/-- 'isagogelaw03.InterpElements', WHERE WHAT IT READS IS OF BULK AT MOST 1048576: true; the input reads as it did. -/
def interpElementsUptoRow : OpenClaim := { program := "ytnkkeenclhncmaadoor", sum := "bc43054df1b33c64c571ac12f8ccf00e37bfd5b45021058a7c853d1384550af0", func := "isagoge/isagogelaw03.InterpElements", spec := "interpElements", inPlace := ["internal/bytealg.IndexByteString", "internal/bytealg.IndexString"], unfollowed := true, recurses := true, named := ["internal/bytealg.MaxLen", "isagoge/concept.args"], loops := true, plainKeys := false, apart := false, laid := [("isagoge/concept.args", laid_isagoge_concept_args)], narrowed := true }
def InterpElementsUptoSaid : Prop := interpElementsUptoRow.holds Tryd.pinned (OpenSpec.upto interpElementsSpec)

/-- 'isagogelaw03.InterpBoolean', WHERE WHAT IT READS IS OF BULK AT MOST 1048576: true; the input reads as it did. -/
def interpBooleanUptoRow : OpenClaim := { program := "ytnkkeenclhncmaadoor", sum := "bc43054df1b33c64c571ac12f8ccf00e37bfd5b45021058a7c853d1384550af0", func := "isagoge/isagogelaw03.InterpBoolean", spec := "interpBoolean", inPlace := ["internal/bytealg.IndexByteString", "internal/bytealg.IndexString"], unfollowed := true, recurses := true, named := ["internal/bytealg.MaxLen", "isagoge/concept.args", "isagoge/concept.duals"], loops := true, plainKeys := false, apart := false, laid := [("isagoge/concept.args", laid_isagoge_concept_args), ("isagoge/concept.duals", laid_isagoge_concept_duals)], narrowed := true }
def InterpBooleanUptoSaid : Prop := interpBooleanUptoRow.holds Tryd.pinned (OpenSpec.upto interpBooleanSpec)

/-- 'isagogelaw03.InterpOwn', WHERE WHAT IT READS IS OF BULK AT MOST 1048576: true; the input reads as it did. -/
def interpOwnUptoRow : OpenClaim := { program := "ytnkkeenclhncmaadoor", sum := "bc43054df1b33c64c571ac12f8ccf00e37bfd5b45021058a7c853d1384550af0", func := "isagoge/isagogelaw03.InterpOwn", spec := "interpOwn", inPlace := ["internal/bytealg.IndexByteString", "internal/bytealg.IndexString"], unfollowed := true, recurses := true, named := ["internal/bytealg.MaxLen", "isagoge/concept.args"], loops := true, plainKeys := false, apart := false, laid := [("isagoge/concept.args", laid_isagoge_concept_args)], narrowed := true }
def InterpOwnUptoSaid : Prop := interpOwnUptoRow.holds Tryd.pinned (OpenSpec.upto interpOwnSpec)

end Rows
end Go.Proofs.YtnkkeenclhncmaaDoor
