/-
  NARROWER THAN 'FOR EVERY INPUT', by the rows' own cells (each row's printed sentence says how): InterpMoved: loops, laid · InterpTrue: loops, laid.
  DERIVED. THE GIVEN ROWS OF THIS SEAT. 2 by the template 'for every input the law returns true; each argument reads behind the call as it read before'; 0 by the template 'total and deterministic' (their statements: YtnkkeenclhncmaaGreatDoorTotals.lean).
  GIVEN WITH THE SEED: the statements are not yours to turn. If you find one false, say at which input.
  Laid BY PROGRAM, IN A SANDBOX (cutbox-rows.mjs): the forced cells as the released guide's own fill.sh prints them over the translation b086d3736209607c… (all of the seat's roots in one cut). By AI agents, Wed Nov 11 2026. No macro, syntax, notation, axiom, sorry.
-/
import Derived.Test.YtnkkeenclhncmaaGreatDoorChecked
import GoSem.Claim
import GoSem.ClaimJoined
import GoSem.ClaimMapViews
import Derived.JoinedTies
import Derived.KernelRfl
namespace Go.Proofs.YtnkkeenclhncmaaGreatDoor
/- THE CELL 'sum', in the pinned program and in every row, IS THE sha256 OF THE DUMP (.gsa) THAT YtnkkeenclhncmaaGreatDoorProg.lean LOADS. Nothing in Lean hashes anything: it is a label: what it is worth is what the hold of that sum in a sandbox is worth. -/
noncomputable def Tryz.pinned : Pinned := { name := "ytnkkeenclhncmaagreatdoor", sum := "b086d3736209607cac5f533e1039e13b9f51ecf50c1f5ae387d55ac1cc336578", checked := Tryz.checked }
namespace Rows
def none {H : Type} : Left H := { results := [], args := [] }

/- WHAT THE LISTED PACKAGE-LEVEL VARIABLES READ AS WHEN THE CALL BEGINS. Each datum BY PROGRAM (the guide's laid-datum.mjs) off the statement by which the dump's own 'gosem.cut.vars' lays the variable. In a bare row this is a premise. The card (YtnkkeenclhncmaaGreatDoorCards.lean) ties it to the program's text. -/
def laid_isagoge_concept_args {H : Type} : DataW H := .agg [.lit (.int .i64 0), .lit (.int .i64 0), .lit (.int .i64 0), .lit (.int .i64 1), .lit (.int .i64 2), .lit (.int .i64 2), .lit (.int .i64 1), .lit (.int .i64 1)]

/-- 'isagogelaw03.InterpMoved': WHATEVER THE INPUT: true; the input reads as it did. -/
def interpMovedSpec : ChangeSpec := { name := "interpMoved", fn := fun _ => fun
  | [d1, d2, d3, d4] => { results := [.lit (.bool true)], args := [d1, d2, d3, d4] }
  | _ => none }
def interpMovedRow : OpenClaim := { program := "ytnkkeenclhncmaagreatdoor", sum := "b086d3736209607cac5f533e1039e13b9f51ecf50c1f5ae387d55ac1cc336578", func := "isagoge/isagogelaw03.InterpMoved", spec := "interpMoved", inPlace := ["internal/bytealg.IndexByteString", "internal/bytealg.IndexString"], unfollowed := true, recurses := true, named := ["internal/bytealg.MaxLen", "isagoge/concept.args"], loops := true, plainKeys := false, apart := false, laid := [("isagoge/concept.args", laid_isagoge_concept_args)] }
def InterpMovedSaid : Prop := interpMovedRow.holds Tryz.pinned (OpenSpec.ofChange interpMovedSpec)

/-- ITS FALSE NEIGHBOUR: 'it returns false'. Refute it at one input. -/
def interpMovedWrong : ChangeSpec := { name := "interpMoved", fn := fun _ => fun
  | [d1, d2, d3, d4] => { results := [.lit (.bool false)], args := [d1, d2, d3, d4] }
  | _ => none }
def InterpMovedWrongFalsely : Prop := interpMovedRow.holds Tryz.pinned (OpenSpec.ofChange interpMovedWrong)

/-- 'isagogelaw03.InterpTrue': WHATEVER THE INPUT: true; the input reads as it did. -/
def interpTrueSpec : ChangeSpec := { name := "interpTrue", fn := fun _ => fun
  | [d1, d2, d3] => { results := [.lit (.bool true)], args := [d1, d2, d3] }
  | _ => none }
def interpTrueRow : OpenClaim := { program := "ytnkkeenclhncmaagreatdoor", sum := "b086d3736209607cac5f533e1039e13b9f51ecf50c1f5ae387d55ac1cc336578", func := "isagoge/isagogelaw03.InterpTrue", spec := "interpTrue", inPlace := ["internal/bytealg.IndexByteString", "internal/bytealg.IndexString"], unfollowed := true, recurses := true, named := ["internal/bytealg.MaxLen", "isagoge/concept.args"], loops := true, plainKeys := false, apart := false, laid := [("isagoge/concept.args", laid_isagoge_concept_args)] }
def InterpTrueSaid : Prop := interpTrueRow.holds Tryz.pinned (OpenSpec.ofChange interpTrueSpec)

/-- ITS FALSE NEIGHBOUR: 'it returns false'. Refute it at one input. -/
def interpTrueWrong : ChangeSpec := { name := "interpTrue", fn := fun _ => fun
  | [d1, d2, d3] => { results := [.lit (.bool false)], args := [d1, d2, d3] }
  | _ => none }
def InterpTrueWrongFalsely : Prop := interpTrueRow.holds Tryz.pinned (OpenSpec.ofChange interpTrueWrong)

/- THE SECOND FORM. 'bulk': how many values and letters a reading holds, each counted each time it is reached (what is shared counts as often as it is met; a slice's spare places count too). A statement '..UptoSaid' is the law's where the arguments, and the package variables that the reading takes, are together of bulk at most 1048576: NARROWER than '..Said'. Prove '..Said' where nothing that the law and all that it calls make is longer than what came in: it says more and counts as full. Else prove '..UptoSaid'. A law counts once. -/
mutual
def uptoBulk {H : Type} : DataW H → Nat
  | .lit (.string bytes) => bytes.length + 1
  | .lit _ => 1
  | .nil => 1
  | .ptr d => uptoBulk d + 1
  | .slice elems spare => uptoBulkAll elems + uptoBulkAll spare + 1
  | .agg parts => uptoBulkAll parts + 1
  | .iface _ d => uptoBulk d + 1
  | .map entries => uptoBulkEntries entries + 1
  | .held _ => 1
def uptoBulkAll {H : Type} : List (DataW H) → Nat
  | [] => 0
  | d :: r => uptoBulk d + uptoBulkAll r
def uptoBulkEntries {H : Type} : List (Lit × DataW H) → Nat
  | [] => 0
  | x :: r => uptoBulkEntry x + uptoBulkEntries r
def uptoBulkEntry {H : Type} : Lit × DataW H → Nat
  | (.string bytes, d) => bytes.length + uptoBulk d + 1
  | (_, d) => uptoBulk d + 1
 end
def uptoSmall : (H : Type) → List (DataW H) → Bool := fun _ ds => decide (uptoBulkAll ds ≤ 1048576)
def OpenSpec.upto (s : _root_.Go.ChangeSpec) : _root_.Go.OpenSpec := { _root_.Go.OpenSpec.ofChange s with cond := some uptoSmall }

/-- 'isagogelaw03.InterpMoved', WHERE WHAT IT READS IS OF BULK AT MOST 1048576: true; the input reads as it did. -/
def interpMovedUptoRow : OpenClaim := { program := "ytnkkeenclhncmaagreatdoor", sum := "b086d3736209607cac5f533e1039e13b9f51ecf50c1f5ae387d55ac1cc336578", func := "isagoge/isagogelaw03.InterpMoved", spec := "interpMoved", inPlace := ["internal/bytealg.IndexByteString", "internal/bytealg.IndexString"], unfollowed := true, recurses := true, named := ["internal/bytealg.MaxLen", "isagoge/concept.args"], loops := true, plainKeys := false, apart := false, laid := [("isagoge/concept.args", laid_isagoge_concept_args)], narrowed := true }
def InterpMovedUptoSaid : Prop := interpMovedUptoRow.holds Tryz.pinned (OpenSpec.upto interpMovedSpec)

/-- 'isagogelaw03.InterpTrue', WHERE WHAT IT READS IS OF BULK AT MOST 1048576: true; the input reads as it did. -/
def interpTrueUptoRow : OpenClaim := { program := "ytnkkeenclhncmaagreatdoor", sum := "b086d3736209607cac5f533e1039e13b9f51ecf50c1f5ae387d55ac1cc336578", func := "isagoge/isagogelaw03.InterpTrue", spec := "interpTrue", inPlace := ["internal/bytealg.IndexByteString", "internal/bytealg.IndexString"], unfollowed := true, recurses := true, named := ["internal/bytealg.MaxLen", "isagoge/concept.args"], loops := true, plainKeys := false, apart := false, laid := [("isagoge/concept.args", laid_isagoge_concept_args)], narrowed := true }
def InterpTrueUptoSaid : Prop := interpTrueUptoRow.holds Tryz.pinned (OpenSpec.upto interpTrueSpec)

end Rows
end Go.Proofs.YtnkkeenclhncmaaGreatDoor
