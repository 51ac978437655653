/-
  NARROWER THAN 'FOR EVERY INPUT', by the rows' own cells (each row's printed sentence says how): KbTexts: loops, laid · KbPicks: loops, laid · KbBack: loops, laid · KbForms: loops, laid · KbOwn: loops, laid.
  DERIVED. THE GIVEN ROWS OF THIS SEAT. 5 by the template 'for every input the law returns true; each argument reads behind the call as it read before'; 0 by the template 'total and deterministic' (their statements: YtcjlpklgnknpgaaGreatDoorTotals.lean).
  GIVEN WITH THE SEED: the statements are not yours to turn. If you find one false, say at which input.
  Laid BY PROGRAM, IN A SANDBOX (cutbox-rows.mjs): the forced cells as the released guide's own fill.sh prints them over the translation cf2d762ff52255ba… (all of the seat's roots in one cut). By AI agents, Wed Nov 11 2026. No macro, syntax, notation, axiom, sorry.
-/
import Derived.Test.YtcjlpklgnknpgaaGreatDoorChecked
import GoSem.PinnedTables
import GoSem.Claim
import GoSem.ClaimJoined
import GoSem.ClaimMapViews
import Derived.JoinedTies
import Derived.KernelRfl
namespace Go.Proofs.YtcjlpklgnknpgaaGreatDoor
/- THE CELL 'sum', in the pinned program and in every row, IS THE sha256 OF THE DUMP (.gsa) THAT YtcjlpklgnknpgaaGreatDoorProg.lean LOADS. Nothing in Lean hashes anything: it is a label: what it is worth is what the hold of that sum in a sandbox is worth. -/
noncomputable def Tryz.pinned : Pinned := { name := "ytcjlpklgnknpgaagreatdoor", sum := "cf2d762ff52255ba46d7d4d31ffeb011ee0d2213cfb6aa161ee2c6bd03fd56dd", checked := Tryz.checked }
namespace Rows
def none {H : Type} : Left H := { results := [], args := [] }

/- WHAT THE LISTED PACKAGE-LEVEL VARIABLES READ AS WHEN THE CALL BEGINS. Each datum BY PROGRAM (the guide's laid-datum.mjs) off the statement by which the dump's own 'gosem.cut.vars' lays the variable. In a bare row this is a premise. The card (YtcjlpklgnknpgaaGreatDoorCards.lean) ties it to the program's text. -/
def laid_unicode_utf8_acceptRanges {H : Type} : DataW H := .agg [.agg [.lit (.int .u8 128), .lit (.int .u8 191)], .agg [.lit (.int .u8 160), .lit (.int .u8 191)], .agg [.lit (.int .u8 128), .lit (.int .u8 159)], .agg [.lit (.int .u8 144), .lit (.int .u8 191)], .agg [.lit (.int .u8 128), .lit (.int .u8 143)], .agg [.lit (.int .u8 0), .lit (.int .u8 0)], .agg [.lit (.int .u8 0), .lit (.int .u8 0)], .agg [.lit (.int .u8 0), .lit (.int .u8 0)], .agg [.lit (.int .u8 0), .lit (.int .u8 0)], .agg [.lit (.int .u8 0), .lit (.int .u8 0)], .agg [.lit (.int .u8 0), .lit (.int .u8 0)], .agg [.lit (.int .u8 0), .lit (.int .u8 0)], .agg [.lit (.int .u8 0), .lit (.int .u8 0)], .agg [.lit (.int .u8 0), .lit (.int .u8 0)], .agg [.lit (.int .u8 0), .lit (.int .u8 0)], .agg [.lit (.int .u8 0), .lit (.int .u8 0)]]
def laid_isagoge_concept_args {H : Type} : DataW H := .agg [.lit (.int .i64 0), .lit (.int .i64 0), .lit (.int .i64 0), .lit (.int .i64 1), .lit (.int .i64 2), .lit (.int .i64 2), .lit (.int .i64 1), .lit (.int .i64 1)]
/-- One of Go's own tables, pinned by name: the form's constant. -/
def laid_unicode_utf8_first : DataW Unit := Go.Pinned.utf8First

/-- 'isagogelaw02.KbTexts': WHATEVER THE INPUT: true; the input reads as it did. -/
def kbTextsSpec : ChangeSpec := { name := "kbTexts", fn := fun _ => fun
  | [d1, d2, d3] => { results := [.lit (.bool true)], args := [d1, d2, d3] }
  | _ => none }
def kbTextsRow : OpenClaim := { program := "ytcjlpklgnknpgaagreatdoor", sum := "cf2d762ff52255ba46d7d4d31ffeb011ee0d2213cfb6aa161ee2c6bd03fd56dd", func := "isagoge/isagogelaw02.KbTexts", spec := "kbTexts", inPlace := ["internal/bytealg.CountString", "internal/bytealg.IndexByteString", "internal/bytealg.IndexString", "internal/abi.NoEscape"], unfollowed := true, recurses := true, named := ["unicode/utf8.first", "unicode/utf8.acceptRanges", "internal/bytealg.MaxLen", "isagoge/concept.args"], loops := true, apart := false, laid := [("unicode/utf8.acceptRanges", laid_unicode_utf8_acceptRanges), ("isagoge/concept.args", laid_isagoge_concept_args), ("unicode/utf8.first", laid_unicode_utf8_first)] }
def KbTextsSaid : Prop := kbTextsRow.holds Tryz.pinned (OpenSpec.ofChange kbTextsSpec)

/-- ITS FALSE NEIGHBOUR: 'it returns false'. Refute it at one input. -/
def kbTextsWrong : ChangeSpec := { name := "kbTexts", fn := fun _ => fun
  | [d1, d2, d3] => { results := [.lit (.bool false)], args := [d1, d2, d3] }
  | _ => none }
def KbTextsWrongFalsely : Prop := kbTextsRow.holds Tryz.pinned (OpenSpec.ofChange kbTextsWrong)

/-- 'isagogelaw02.KbPicks': WHATEVER THE INPUT: true; the input reads as it did. -/
def kbPicksSpec : ChangeSpec := { name := "kbPicks", fn := fun _ => fun
  | [d1, d2, d3, d4] => { results := [.lit (.bool true)], args := [d1, d2, d3, d4] }
  | _ => none }
def kbPicksRow : OpenClaim := { program := "ytcjlpklgnknpgaagreatdoor", sum := "cf2d762ff52255ba46d7d4d31ffeb011ee0d2213cfb6aa161ee2c6bd03fd56dd", func := "isagoge/isagogelaw02.KbPicks", spec := "kbPicks", inPlace := ["internal/bytealg.CountString", "internal/bytealg.IndexByteString", "internal/bytealg.IndexString", "internal/abi.NoEscape"], unfollowed := true, recurses := true, named := ["unicode/utf8.first", "unicode/utf8.acceptRanges", "internal/bytealg.MaxLen", "isagoge/concept.args"], loops := true, apart := false, laid := [("unicode/utf8.acceptRanges", laid_unicode_utf8_acceptRanges), ("isagoge/concept.args", laid_isagoge_concept_args), ("unicode/utf8.first", laid_unicode_utf8_first)] }
def KbPicksSaid : Prop := kbPicksRow.holds Tryz.pinned (OpenSpec.ofChange kbPicksSpec)

/-- ITS FALSE NEIGHBOUR: 'it returns false'. Refute it at one input. -/
def kbPicksWrong : ChangeSpec := { name := "kbPicks", fn := fun _ => fun
  | [d1, d2, d3, d4] => { results := [.lit (.bool false)], args := [d1, d2, d3, d4] }
  | _ => none }
def KbPicksWrongFalsely : Prop := kbPicksRow.holds Tryz.pinned (OpenSpec.ofChange kbPicksWrong)

/-- 'isagogelaw02.KbBack': WHATEVER THE INPUT: true; the input reads as it did. -/
def kbBackSpec : ChangeSpec := { name := "kbBack", fn := fun _ => fun
  | [d1, d2] => { results := [.lit (.bool true)], args := [d1, d2] }
  | _ => none }
def kbBackRow : OpenClaim := { program := "ytcjlpklgnknpgaagreatdoor", sum := "cf2d762ff52255ba46d7d4d31ffeb011ee0d2213cfb6aa161ee2c6bd03fd56dd", func := "isagoge/isagogelaw02.KbBack", spec := "kbBack", inPlace := ["internal/bytealg.CountString", "internal/bytealg.IndexByteString", "internal/bytealg.IndexString", "internal/abi.NoEscape"], unfollowed := true, recurses := true, named := ["unicode/utf8.first", "unicode/utf8.acceptRanges", "internal/bytealg.MaxLen", "isagoge/concept.args"], loops := true, apart := false, laid := [("unicode/utf8.acceptRanges", laid_unicode_utf8_acceptRanges), ("isagoge/concept.args", laid_isagoge_concept_args), ("unicode/utf8.first", laid_unicode_utf8_first)] }
def KbBackSaid : Prop := kbBackRow.holds Tryz.pinned (OpenSpec.ofChange kbBackSpec)

/-- ITS FALSE NEIGHBOUR: 'it returns false'. Refute it at one input. -/
def kbBackWrong : ChangeSpec := { name := "kbBack", fn := fun _ => fun
  | [d1, d2] => { results := [.lit (.bool false)], args := [d1, d2] }
  | _ => none }
def KbBackWrongFalsely : Prop := kbBackRow.holds Tryz.pinned (OpenSpec.ofChange kbBackWrong)

/-- 'isagogelaw02.KbForms': WHATEVER THE INPUT: true; the input reads as it did. -/
def kbFormsSpec : ChangeSpec := { name := "kbForms", fn := fun _ => fun
  | [d] => { results := [.lit (.bool true)], args := [d] }
  | _ => none }
def kbFormsRow : OpenClaim := { program := "ytcjlpklgnknpgaagreatdoor", sum := "cf2d762ff52255ba46d7d4d31ffeb011ee0d2213cfb6aa161ee2c6bd03fd56dd", func := "isagoge/isagogelaw02.KbForms", spec := "kbForms", inPlace := ["internal/bytealg.CountString", "internal/bytealg.IndexByteString", "internal/bytealg.IndexString", "internal/abi.NoEscape"], unfollowed := true, recurses := true, named := ["unicode/utf8.first", "unicode/utf8.acceptRanges", "internal/bytealg.MaxLen", "isagoge/concept.args"], loops := true, apart := false, laid := [("unicode/utf8.acceptRanges", laid_unicode_utf8_acceptRanges), ("isagoge/concept.args", laid_isagoge_concept_args), ("unicode/utf8.first", laid_unicode_utf8_first)] }
def KbFormsSaid : Prop := kbFormsRow.holds Tryz.pinned (OpenSpec.ofChange kbFormsSpec)

/-- ITS FALSE NEIGHBOUR: 'it returns false'. Refute it at one input. -/
def kbFormsWrong : ChangeSpec := { name := "kbForms", fn := fun _ => fun
  | [d] => { results := [.lit (.bool false)], args := [d] }
  | _ => none }
def KbFormsWrongFalsely : Prop := kbFormsRow.holds Tryz.pinned (OpenSpec.ofChange kbFormsWrong)

/-- 'isagogelaw02.KbOwn': WHATEVER THE INPUT: true; the input reads as it did. -/
def kbOwnSpec : ChangeSpec := { name := "kbOwn", fn := fun _ => fun
  | [d1, d2] => { results := [.lit (.bool true)], args := [d1, d2] }
  | _ => none }
def kbOwnRow : OpenClaim := { program := "ytcjlpklgnknpgaagreatdoor", sum := "cf2d762ff52255ba46d7d4d31ffeb011ee0d2213cfb6aa161ee2c6bd03fd56dd", func := "isagoge/isagogelaw02.KbOwn", spec := "kbOwn", inPlace := ["internal/bytealg.CountString", "internal/bytealg.IndexByteString", "internal/bytealg.IndexString", "internal/abi.NoEscape"], unfollowed := true, recurses := true, named := ["unicode/utf8.first", "unicode/utf8.acceptRanges", "internal/bytealg.MaxLen", "isagoge/concept.args"], loops := true, apart := false, laid := [("unicode/utf8.acceptRanges", laid_unicode_utf8_acceptRanges), ("isagoge/concept.args", laid_isagoge_concept_args), ("unicode/utf8.first", laid_unicode_utf8_first)] }
def KbOwnSaid : Prop := kbOwnRow.holds Tryz.pinned (OpenSpec.ofChange kbOwnSpec)

/-- ITS FALSE NEIGHBOUR: 'it returns false'. Refute it at one input. -/
def kbOwnWrong : ChangeSpec := { name := "kbOwn", fn := fun _ => fun
  | [d1, d2] => { results := [.lit (.bool false)], args := [d1, d2] }
  | _ => none }
def KbOwnWrongFalsely : Prop := kbOwnRow.holds Tryz.pinned (OpenSpec.ofChange kbOwnWrong)

/- THE SECOND FORM. 'bulk': how many values and letters a reading holds, each counted each time it is reached (what is shared counts as often as it is met; a slice's spare places count too). A statement '..UptoSaid' is the law's where the arguments, and the package variables that the reading takes, are together of bulk at most 1048576: NARROWER than '..Said'. Prove '..Said' where nothing that the law and all that it calls make is longer than what came in: it says more and counts as full. Else prove '..UptoSaid'. A law counts once. -/
mutual
def uptoBulk {H : Type} : DataW H → Nat
  | .lit (.string bytes) => bytes.length + 1
  | .lit _ => 1
  | .nil => 1
  | .ptr d => uptoBulk d + 1
  | .slice elems spare => uptoBulkAll elems + uptoBulkAll spare + 1
  | .agg parts => uptoBulkAll parts + 1
  | .iface _ d => uptoBulk d + 1
  | .map entries => uptoBulkEntries entries + 1
  | .held _ => 1
def uptoBulkAll {H : Type} : List (DataW H) → Nat
  | [] => 0
  | d :: r => uptoBulk d + uptoBulkAll r
def uptoBulkEntries {H : Type} : List (Lit × DataW H) → Nat
  | [] => 0
  | x :: r => uptoBulkEntry x + uptoBulkEntries r
def uptoBulkEntry {H : Type} : Lit × DataW H → Nat
  | (.string bytes, d) => bytes.length + uptoBulk d + 1
  | (_, d) => uptoBulk d + 1
 end
def uptoSmall : (H : Type) → List (DataW H) → Bool := fun _ ds => decide (uptoBulkAll ds ≤ 1048576)
def OpenSpec.upto (s : _root_.Go.ChangeSpec) : _root_.Go.OpenSpec := { _root_.Go.OpenSpec.ofChange s with cond := some uptoSmall }

/-- 'isagogelaw02.KbTexts', WHERE WHAT IT READS IS OF BULK AT MOST 1048576: true; the input reads as it did. -/
def kbTextsUptoRow : OpenClaim := { program := "ytcjlpklgnknpgaagreatdoor", sum := "cf2d762ff52255ba46d7d4d31ffeb011ee0d2213cfb6aa161ee2c6bd03fd56dd", func := "isagoge/isagogelaw02.KbTexts", spec := "kbTexts", inPlace := ["internal/bytealg.CountString", "internal/bytealg.IndexByteString", "internal/bytealg.IndexString", "internal/abi.NoEscape"], unfollowed := true, recurses := true, named := ["unicode/utf8.first", "unicode/utf8.acceptRanges", "internal/bytealg.MaxLen", "isagoge/concept.args"], loops := true, apart := false, laid := [("unicode/utf8.acceptRanges", laid_unicode_utf8_acceptRanges), ("isagoge/concept.args", laid_isagoge_concept_args), ("unicode/utf8.first", laid_unicode_utf8_first)], narrowed := true }
def KbTextsUptoSaid : Prop := kbTextsUptoRow.holds Tryz.pinned (OpenSpec.upto kbTextsSpec)

/-- 'isagogelaw02.KbPicks', WHERE WHAT IT READS IS OF BULK AT MOST 1048576: true; the input reads as it did. -/
def kbPicksUptoRow : OpenClaim := { program := "ytcjlpklgnknpgaagreatdoor", sum := "cf2d762ff52255ba46d7d4d31ffeb011ee0d2213cfb6aa161ee2c6bd03fd56dd", func := "isagoge/isagogelaw02.KbPicks", spec := "kbPicks", inPlace := ["internal/bytealg.CountString", "internal/bytealg.IndexByteString", "internal/bytealg.IndexString", "internal/abi.NoEscape"], unfollowed := true, recurses := true, named := ["unicode/utf8.first", "unicode/utf8.acceptRanges", "internal/bytealg.MaxLen", "isagoge/concept.args"], loops := true, apart := false, laid := [("unicode/utf8.acceptRanges", laid_unicode_utf8_acceptRanges), ("isagoge/concept.args", laid_isagoge_concept_args), ("unicode/utf8.first", laid_unicode_utf8_first)], narrowed := true }
def KbPicksUptoSaid : Prop := kbPicksUptoRow.holds Tryz.pinned (OpenSpec.upto kbPicksSpec)

/-- 'isagogelaw02.KbBack', WHERE WHAT IT READS IS OF BULK AT MOST 1048576: true; the input reads as it did. -/
def kbBackUptoRow : OpenClaim := { program := "ytcjlpklgnknpgaagreatdoor", sum := "cf2d762ff52255ba46d7d4d31ffeb011ee0d2213cfb6aa161ee2c6bd03fd56dd", func := "isagoge/isagogelaw02.KbBack", spec := "kbBack", inPlace := ["internal/bytealg.CountString", "internal/bytealg.IndexByteString", "internal/bytealg.IndexString", "internal/abi.NoEscape"], unfollowed := true, recurses := true, named := ["unicode/utf8.first", "unicode/utf8.acceptRanges", "internal/bytealg.MaxLen", "isagoge/concept.args"], loops := true, apart := false, laid := [("unicode/utf8.acceptRanges", laid_unicode_utf8_acceptRanges), ("isagoge/concept.args", laid_isagoge_concept_args), ("unicode/utf8.first", laid_unicode_utf8_first)], narrowed := true }
def KbBackUptoSaid : Prop := kbBackUptoRow.holds Tryz.pinned (OpenSpec.upto kbBackSpec)

/-- 'isagogelaw02.KbForms', WHERE WHAT IT READS IS OF BULK AT MOST 1048576: true; the input reads as it did. -/
def kbFormsUptoRow : OpenClaim := { program := "ytcjlpklgnknpgaagreatdoor", sum := "cf2d762ff52255ba46d7d4d31ffeb011ee0d2213cfb6aa161ee2c6bd03fd56dd", func := "isagoge/isagogelaw02.KbForms", spec := "kbForms", inPlace := ["internal/bytealg.CountString", "internal/bytealg.IndexByteString", "internal/bytealg.IndexString", "internal/abi.NoEscape"], unfollowed := true, recurses := true, named := ["unicode/utf8.first", "unicode/utf8.acceptRanges", "internal/bytealg.MaxLen", "isagoge/concept.args"], loops := true, apart := false, laid := [("unicode/utf8.acceptRanges", laid_unicode_utf8_acceptRanges), ("isagoge/concept.args", laid_isagoge_concept_args), ("unicode/utf8.first", laid_unicode_utf8_first)], narrowed := true }
def KbFormsUptoSaid : Prop := kbFormsUptoRow.holds Tryz.pinned (OpenSpec.upto kbFormsSpec)

/-- 'isagogelaw02.KbOwn', WHERE WHAT IT READS IS OF BULK AT MOST 1048576: true; the input reads as it did. -/
def kbOwnUptoRow : OpenClaim := { program := "ytcjlpklgnknpgaagreatdoor", sum := "cf2d762ff52255ba46d7d4d31ffeb011ee0d2213cfb6aa161ee2c6bd03fd56dd", func := "isagoge/isagogelaw02.KbOwn", spec := "kbOwn", inPlace := ["internal/bytealg.CountString", "internal/bytealg.IndexByteString", "internal/bytealg.IndexString", "internal/abi.NoEscape"], unfollowed := true, recurses := true, named := ["unicode/utf8.first", "unicode/utf8.acceptRanges", "internal/bytealg.MaxLen", "isagoge/concept.args"], loops := true, apart := false, laid := [("unicode/utf8.acceptRanges", laid_unicode_utf8_acceptRanges), ("isagoge/concept.args", laid_isagoge_concept_args), ("unicode/utf8.first", laid_unicode_utf8_first)], narrowed := true }
def KbOwnUptoSaid : Prop := kbOwnUptoRow.holds Tryz.pinned (OpenSpec.upto kbOwnSpec)

end Rows
end Go.Proofs.YtcjlpklgnknpgaaGreatDoor
