/-
  NARROWER THAN 'FOR EVERY INPUT', by the rows' own cells (each row's printed sentence says how): FnTreeChanged: laid · FnTreePut: laid · FnTreePutBack: laid · FnTreePutWhen: laid · FnTreeChangedOne: laid · FnApplyTwice: laid · FnApplyBreak: laid · FnUndo: laid · FnApply: laid · FnLogApply: laid · FnLogFitsBegin: laid · FnLogBreak: laid.
  DERIVED. THE GIVEN ROWS OF THIS SEAT. 12 by the template 'for every input the law returns true; each argument reads behind the call as it read before'; 0 by the template 'total and deterministic' (their statements: YtdjmckbhgihdlaaDoorTotals.lean).
  GIVEN WITH THE SEED: the statements are not yours to turn. If you find one false, say at which input.
  Laid BY PROGRAM, IN A SANDBOX (cutbox-rows.mjs): the forced cells as the released guide's own fill.sh prints them over the translation d3aa3abdf143adc3… (all of the seat's roots in one cut). By AI agents, Wed Nov 11 2026. No macro, syntax, notation, axiom, sorry.
-/
import Derived.Test.YtdjmckbhgihdlaaDoorChecked
import GoSem.PinnedTables
import GoSem.Claim
import GoSem.ClaimJoined
import GoSem.ClaimMapViews
import Derived.JoinedTies
import Derived.KernelRfl
namespace Go.Proofs.YtdjmckbhgihdlaaDoor
/- THE CELL 'sum', in the pinned program and in every row, IS THE sha256 OF THE DUMP (.gsa) THAT YtdjmckbhgihdlaaDoorProg.lean LOADS. Nothing in Lean hashes anything: it is a label: what it is worth is what the hold of that sum in a sandbox is worth. -/
noncomputable def Tryd.pinned : Pinned := { name := "ytdjmckbhgihdlaadoor", sum := "d3aa3abdf143adc3d55dca5f7e1d92dec57072599d264fe27d418d4ed2d7e858", checked := Tryd.checked }
namespace Rows
def none {H : Type} : Left H := { results := [], args := [] }

/- WHAT THE LISTED PACKAGE-LEVEL VARIABLES READ AS WHEN THE CALL BEGINS. Each datum BY PROGRAM (the guide's laid-datum.mjs) off the statement by which the dump's own 'gosem.cut.vars' lays the variable. In a bare row this is a premise. The card (YtdjmckbhgihdlaaDoorCards.lean) ties it to the program's text. -/
def laid_unicode_utf8_acceptRanges {H : Type} : DataW H := .agg [.agg [.lit (.int .u8 128), .lit (.int .u8 191)], .agg [.lit (.int .u8 160), .lit (.int .u8 191)], .agg [.lit (.int .u8 128), .lit (.int .u8 159)], .agg [.lit (.int .u8 144), .lit (.int .u8 191)], .agg [.lit (.int .u8 128), .lit (.int .u8 143)], .agg [.lit (.int .u8 0), .lit (.int .u8 0)], .agg [.lit (.int .u8 0), .lit (.int .u8 0)], .agg [.lit (.int .u8 0), .lit (.int .u8 0)], .agg [.lit (.int .u8 0), .lit (.int .u8 0)], .agg [.lit (.int .u8 0), .lit (.int .u8 0)], .agg [.lit (.int .u8 0), .lit (.int .u8 0)], .agg [.lit (.int .u8 0), .lit (.int .u8 0)], .agg [.lit (.int .u8 0), .lit (.int .u8 0)], .agg [.lit (.int .u8 0), .lit (.int .u8 0)], .agg [.lit (.int .u8 0), .lit (.int .u8 0)], .agg [.lit (.int .u8 0), .lit (.int .u8 0)]]
/-- One of Go's own tables, pinned by name: the form's constant. -/
def laid_unicode_utf8_first : DataW Unit := Go.Pinned.utf8First

/-- 'laws.FnTreeChanged': WHATEVER THE INPUT: true; the input reads as it did. -/
def fnTreeChangedSpec : ChangeSpec := { name := "fnTreeChanged", fn := fun _ => fun
  | [d] => { results := [.lit (.bool true)], args := [d] }
  | _ => none }
def fnTreeChangedRow : OpenClaim := { program := "ytdjmckbhgihdlaadoor", sum := "d3aa3abdf143adc3d55dca5f7e1d92dec57072599d264fe27d418d4ed2d7e858", func := "loop.example/filereconciler/laws.FnTreeChanged", spec := "fnTreeChanged", inPlace := ["internal/bytealg.CountString", "internal/bytealg.IndexByteString", "internal/bytealg.IndexString"], unfollowed := true, recurses := true, named := ["unicode/utf8.first", "unicode/utf8.acceptRanges", "internal/bytealg.MaxLen"], apart := false, laid := [("unicode/utf8.acceptRanges", laid_unicode_utf8_acceptRanges), ("unicode/utf8.first", laid_unicode_utf8_first)] }
def FnTreeChangedSaid : Prop := fnTreeChangedRow.holds Tryd.pinned (OpenSpec.ofChange fnTreeChangedSpec)

/-- ITS FALSE NEIGHBOUR: 'it returns false'. Refute it at one input. -/
def fnTreeChangedWrong : ChangeSpec := { name := "fnTreeChanged", fn := fun _ => fun
  | [d] => { results := [.lit (.bool false)], args := [d] }
  | _ => none }
def FnTreeChangedWrongFalsely : Prop := fnTreeChangedRow.holds Tryd.pinned (OpenSpec.ofChange fnTreeChangedWrong)

/-- 'laws.FnTreePut': WHATEVER THE INPUT: true; the input reads as it did. -/
def fnTreePutSpec : ChangeSpec := { name := "fnTreePut", fn := fun _ => fun
  | [d] => { results := [.lit (.bool true)], args := [d] }
  | _ => none }
def fnTreePutRow : OpenClaim := { program := "ytdjmckbhgihdlaadoor", sum := "d3aa3abdf143adc3d55dca5f7e1d92dec57072599d264fe27d418d4ed2d7e858", func := "loop.example/filereconciler/laws.FnTreePut", spec := "fnTreePut", inPlace := ["internal/bytealg.CountString", "internal/bytealg.IndexByteString", "internal/bytealg.IndexString", "slices.overlaps[loop.example/filereconciler/impl.Node]"], unfollowed := true, recurses := true, named := ["unicode/utf8.first", "unicode/utf8.acceptRanges", "internal/bytealg.MaxLen"], apart := false, laid := [("unicode/utf8.acceptRanges", laid_unicode_utf8_acceptRanges), ("unicode/utf8.first", laid_unicode_utf8_first)] }
def FnTreePutSaid : Prop := fnTreePutRow.holds Tryd.pinned (OpenSpec.ofChange fnTreePutSpec)

/-- ITS FALSE NEIGHBOUR: 'it returns false'. Refute it at one input. -/
def fnTreePutWrong : ChangeSpec := { name := "fnTreePut", fn := fun _ => fun
  | [d] => { results := [.lit (.bool false)], args := [d] }
  | _ => none }
def FnTreePutWrongFalsely : Prop := fnTreePutRow.holds Tryd.pinned (OpenSpec.ofChange fnTreePutWrong)

/-- 'laws.FnTreePutBack': WHATEVER THE INPUT: true; the input reads as it did. -/
def fnTreePutBackSpec : ChangeSpec := { name := "fnTreePutBack", fn := fun _ => fun
  | [d] => { results := [.lit (.bool true)], args := [d] }
  | _ => none }
def fnTreePutBackRow : OpenClaim := { program := "ytdjmckbhgihdlaadoor", sum := "d3aa3abdf143adc3d55dca5f7e1d92dec57072599d264fe27d418d4ed2d7e858", func := "loop.example/filereconciler/laws.FnTreePutBack", spec := "fnTreePutBack", inPlace := ["internal/bytealg.CountString", "internal/bytealg.IndexByteString", "internal/bytealg.IndexString", "slices.overlaps[loop.example/filereconciler/impl.Node]"], unfollowed := true, recurses := true, named := ["unicode/utf8.first", "unicode/utf8.acceptRanges", "internal/bytealg.MaxLen"], apart := false, laid := [("unicode/utf8.acceptRanges", laid_unicode_utf8_acceptRanges), ("unicode/utf8.first", laid_unicode_utf8_first)] }
def FnTreePutBackSaid : Prop := fnTreePutBackRow.holds Tryd.pinned (OpenSpec.ofChange fnTreePutBackSpec)

/-- ITS FALSE NEIGHBOUR: 'it returns false'. Refute it at one input. -/
def fnTreePutBackWrong : ChangeSpec := { name := "fnTreePutBack", fn := fun _ => fun
  | [d] => { results := [.lit (.bool false)], args := [d] }
  | _ => none }
def FnTreePutBackWrongFalsely : Prop := fnTreePutBackRow.holds Tryd.pinned (OpenSpec.ofChange fnTreePutBackWrong)

/-- 'laws.FnTreePutWhen': WHATEVER THE INPUT: true; the input reads as it did. -/
def fnTreePutWhenSpec : ChangeSpec := { name := "fnTreePutWhen", fn := fun _ => fun
  | [d] => { results := [.lit (.bool true)], args := [d] }
  | _ => none }
def fnTreePutWhenRow : OpenClaim := { program := "ytdjmckbhgihdlaadoor", sum := "d3aa3abdf143adc3d55dca5f7e1d92dec57072599d264fe27d418d4ed2d7e858", func := "loop.example/filereconciler/laws.FnTreePutWhen", spec := "fnTreePutWhen", inPlace := ["internal/bytealg.CountString", "internal/bytealg.IndexByteString", "internal/bytealg.IndexString", "slices.overlaps[loop.example/filereconciler/impl.Node]"], unfollowed := true, recurses := true, named := ["unicode/utf8.first", "unicode/utf8.acceptRanges", "internal/bytealg.MaxLen"], apart := false, laid := [("unicode/utf8.acceptRanges", laid_unicode_utf8_acceptRanges), ("unicode/utf8.first", laid_unicode_utf8_first)] }
def FnTreePutWhenSaid : Prop := fnTreePutWhenRow.holds Tryd.pinned (OpenSpec.ofChange fnTreePutWhenSpec)

/-- ITS FALSE NEIGHBOUR: 'it returns false'. Refute it at one input. -/
def fnTreePutWhenWrong : ChangeSpec := { name := "fnTreePutWhen", fn := fun _ => fun
  | [d] => { results := [.lit (.bool false)], args := [d] }
  | _ => none }
def FnTreePutWhenWrongFalsely : Prop := fnTreePutWhenRow.holds Tryd.pinned (OpenSpec.ofChange fnTreePutWhenWrong)

/-- 'laws.FnTreeChangedOne': WHATEVER THE INPUT: true; the input reads as it did. -/
def fnTreeChangedOneSpec : ChangeSpec := { name := "fnTreeChangedOne", fn := fun _ => fun
  | [d] => { results := [.lit (.bool true)], args := [d] }
  | _ => none }
def fnTreeChangedOneRow : OpenClaim := { program := "ytdjmckbhgihdlaadoor", sum := "d3aa3abdf143adc3d55dca5f7e1d92dec57072599d264fe27d418d4ed2d7e858", func := "loop.example/filereconciler/laws.FnTreeChangedOne", spec := "fnTreeChangedOne", inPlace := ["internal/bytealg.CountString", "internal/bytealg.IndexByteString", "internal/bytealg.IndexString", "slices.overlaps[loop.example/filereconciler/impl.Node]"], unfollowed := true, recurses := true, named := ["unicode/utf8.first", "unicode/utf8.acceptRanges", "internal/bytealg.MaxLen"], apart := false, laid := [("unicode/utf8.acceptRanges", laid_unicode_utf8_acceptRanges), ("unicode/utf8.first", laid_unicode_utf8_first)] }
def FnTreeChangedOneSaid : Prop := fnTreeChangedOneRow.holds Tryd.pinned (OpenSpec.ofChange fnTreeChangedOneSpec)

/-- ITS FALSE NEIGHBOUR: 'it returns false'. Refute it at one input. -/
def fnTreeChangedOneWrong : ChangeSpec := { name := "fnTreeChangedOne", fn := fun _ => fun
  | [d] => { results := [.lit (.bool false)], args := [d] }
  | _ => none }
def FnTreeChangedOneWrongFalsely : Prop := fnTreeChangedOneRow.holds Tryd.pinned (OpenSpec.ofChange fnTreeChangedOneWrong)

/-- 'laws.FnApplyTwice': WHATEVER THE INPUT: true; the input reads as it did. -/
def fnApplyTwiceSpec : ChangeSpec := { name := "fnApplyTwice", fn := fun _ => fun
  | [d] => { results := [.lit (.bool true)], args := [d] }
  | _ => none }
def fnApplyTwiceRow : OpenClaim := { program := "ytdjmckbhgihdlaadoor", sum := "d3aa3abdf143adc3d55dca5f7e1d92dec57072599d264fe27d418d4ed2d7e858", func := "loop.example/filereconciler/laws.FnApplyTwice", spec := "fnApplyTwice", inPlace := ["internal/bytealg.CountString", "internal/bytealg.IndexByteString", "internal/bytealg.IndexString", "slices.overlaps[loop.example/filereconciler/impl.Node]"], unfollowed := true, recurses := true, named := ["unicode/utf8.first", "unicode/utf8.acceptRanges", "internal/bytealg.MaxLen"], apart := false, laid := [("unicode/utf8.acceptRanges", laid_unicode_utf8_acceptRanges), ("unicode/utf8.first", laid_unicode_utf8_first)] }
def FnApplyTwiceSaid : Prop := fnApplyTwiceRow.holds Tryd.pinned (OpenSpec.ofChange fnApplyTwiceSpec)

/-- ITS FALSE NEIGHBOUR: 'it returns false'. Refute it at one input. -/
def fnApplyTwiceWrong : ChangeSpec := { name := "fnApplyTwice", fn := fun _ => fun
  | [d] => { results := [.lit (.bool false)], args := [d] }
  | _ => none }
def FnApplyTwiceWrongFalsely : Prop := fnApplyTwiceRow.holds Tryd.pinned (OpenSpec.ofChange fnApplyTwiceWrong)

/-- 'laws.FnApplyBreak': WHATEVER THE INPUT: true; the input reads as it did. -/
def fnApplyBreakSpec : ChangeSpec := { name := "fnApplyBreak", fn := fun _ => fun
  | [d] => { results := [.lit (.bool true)], args := [d] }
  | _ => none }
def fnApplyBreakRow : OpenClaim := { program := "ytdjmckbhgihdlaadoor", sum := "d3aa3abdf143adc3d55dca5f7e1d92dec57072599d264fe27d418d4ed2d7e858", func := "loop.example/filereconciler/laws.FnApplyBreak", spec := "fnApplyBreak", inPlace := ["internal/bytealg.CountString", "internal/bytealg.IndexByteString", "internal/bytealg.IndexString", "slices.overlaps[loop.example/filereconciler/impl.Node]"], unfollowed := true, recurses := true, named := ["unicode/utf8.first", "unicode/utf8.acceptRanges", "internal/bytealg.MaxLen"], apart := false, laid := [("unicode/utf8.acceptRanges", laid_unicode_utf8_acceptRanges), ("unicode/utf8.first", laid_unicode_utf8_first)] }
def FnApplyBreakSaid : Prop := fnApplyBreakRow.holds Tryd.pinned (OpenSpec.ofChange fnApplyBreakSpec)

/-- ITS FALSE NEIGHBOUR: 'it returns false'. Refute it at one input. -/
def fnApplyBreakWrong : ChangeSpec := { name := "fnApplyBreak", fn := fun _ => fun
  | [d] => { results := [.lit (.bool false)], args := [d] }
  | _ => none }
def FnApplyBreakWrongFalsely : Prop := fnApplyBreakRow.holds Tryd.pinned (OpenSpec.ofChange fnApplyBreakWrong)

/-- 'laws.FnUndo': WHATEVER THE INPUT: true; the input reads as it did. -/
def fnUndoSpec : ChangeSpec := { name := "fnUndo", fn := fun _ => fun
  | [d] => { results := [.lit (.bool true)], args := [d] }
  | _ => none }
def fnUndoRow : OpenClaim := { program := "ytdjmckbhgihdlaadoor", sum := "d3aa3abdf143adc3d55dca5f7e1d92dec57072599d264fe27d418d4ed2d7e858", func := "loop.example/filereconciler/laws.FnUndo", spec := "fnUndo", inPlace := ["internal/bytealg.CountString", "internal/bytealg.IndexByteString", "internal/bytealg.IndexString", "slices.overlaps[loop.example/filereconciler/impl.Node]"], unfollowed := true, recurses := true, named := ["unicode/utf8.first", "unicode/utf8.acceptRanges", "internal/bytealg.MaxLen"], apart := false, laid := [("unicode/utf8.acceptRanges", laid_unicode_utf8_acceptRanges), ("unicode/utf8.first", laid_unicode_utf8_first)] }
def FnUndoSaid : Prop := fnUndoRow.holds Tryd.pinned (OpenSpec.ofChange fnUndoSpec)

/-- ITS FALSE NEIGHBOUR: 'it returns false'. Refute it at one input. -/
def fnUndoWrong : ChangeSpec := { name := "fnUndo", fn := fun _ => fun
  | [d] => { results := [.lit (.bool false)], args := [d] }
  | _ => none }
def FnUndoWrongFalsely : Prop := fnUndoRow.holds Tryd.pinned (OpenSpec.ofChange fnUndoWrong)

/-- 'laws.FnApply': WHATEVER THE INPUT: true; the input reads as it did. -/
def fnApplySpec : ChangeSpec := { name := "fnApply", fn := fun _ => fun
  | [d] => { results := [.lit (.bool true)], args := [d] }
  | _ => none }
def fnApplyRow : OpenClaim := { program := "ytdjmckbhgihdlaadoor", sum := "d3aa3abdf143adc3d55dca5f7e1d92dec57072599d264fe27d418d4ed2d7e858", func := "loop.example/filereconciler/laws.FnApply", spec := "fnApply", inPlace := ["internal/bytealg.CountString", "internal/bytealg.IndexByteString", "internal/bytealg.IndexString", "slices.overlaps[loop.example/filereconciler/impl.Node]"], unfollowed := true, recurses := true, named := ["unicode/utf8.first", "unicode/utf8.acceptRanges", "internal/bytealg.MaxLen"], apart := false, laid := [("unicode/utf8.acceptRanges", laid_unicode_utf8_acceptRanges), ("unicode/utf8.first", laid_unicode_utf8_first)] }
def FnApplySaid : Prop := fnApplyRow.holds Tryd.pinned (OpenSpec.ofChange fnApplySpec)

/-- ITS FALSE NEIGHBOUR: 'it returns false'. Refute it at one input. -/
def fnApplyWrong : ChangeSpec := { name := "fnApply", fn := fun _ => fun
  | [d] => { results := [.lit (.bool false)], args := [d] }
  | _ => none }
def FnApplyWrongFalsely : Prop := fnApplyRow.holds Tryd.pinned (OpenSpec.ofChange fnApplyWrong)

/-- 'laws.FnLogApply': WHATEVER THE INPUT: true; the input reads as it did. -/
def fnLogApplySpec : ChangeSpec := { name := "fnLogApply", fn := fun _ => fun
  | [d1, d2] => { results := [.lit (.bool true)], args := [d1, d2] }
  | _ => none }
def fnLogApplyRow : OpenClaim := { program := "ytdjmckbhgihdlaadoor", sum := "d3aa3abdf143adc3d55dca5f7e1d92dec57072599d264fe27d418d4ed2d7e858", func := "loop.example/filereconciler/laws.FnLogApply", spec := "fnLogApply", inPlace := ["internal/bytealg.CountString", "internal/bytealg.IndexByteString", "internal/bytealg.IndexString", "slices.overlaps[loop.example/filereconciler/impl.Node]"], unfollowed := true, recurses := true, named := ["unicode/utf8.first", "unicode/utf8.acceptRanges", "internal/bytealg.MaxLen"], apart := false, laid := [("unicode/utf8.acceptRanges", laid_unicode_utf8_acceptRanges), ("unicode/utf8.first", laid_unicode_utf8_first)] }
def FnLogApplySaid : Prop := fnLogApplyRow.holds Tryd.pinned (OpenSpec.ofChange fnLogApplySpec)

/-- ITS FALSE NEIGHBOUR: 'it returns false'. Refute it at one input. -/
def fnLogApplyWrong : ChangeSpec := { name := "fnLogApply", fn := fun _ => fun
  | [d1, d2] => { results := [.lit (.bool false)], args := [d1, d2] }
  | _ => none }
def FnLogApplyWrongFalsely : Prop := fnLogApplyRow.holds Tryd.pinned (OpenSpec.ofChange fnLogApplyWrong)

/-- 'laws.FnLogFitsBegin': WHATEVER THE INPUT: true; the input reads as it did. -/
def fnLogFitsBeginSpec : ChangeSpec := { name := "fnLogFitsBegin", fn := fun _ => fun
  | [d1, d2] => { results := [.lit (.bool true)], args := [d1, d2] }
  | _ => none }
def fnLogFitsBeginRow : OpenClaim := { program := "ytdjmckbhgihdlaadoor", sum := "d3aa3abdf143adc3d55dca5f7e1d92dec57072599d264fe27d418d4ed2d7e858", func := "loop.example/filereconciler/laws.FnLogFitsBegin", spec := "fnLogFitsBegin", inPlace := ["internal/bytealg.CountString", "internal/bytealg.IndexByteString", "internal/bytealg.IndexString", "slices.overlaps[loop.example/filereconciler/impl.Node]"], unfollowed := true, recurses := true, named := ["unicode/utf8.first", "unicode/utf8.acceptRanges", "internal/bytealg.MaxLen"], apart := false, laid := [("unicode/utf8.acceptRanges", laid_unicode_utf8_acceptRanges), ("unicode/utf8.first", laid_unicode_utf8_first)] }
def FnLogFitsBeginSaid : Prop := fnLogFitsBeginRow.holds Tryd.pinned (OpenSpec.ofChange fnLogFitsBeginSpec)

/-- ITS FALSE NEIGHBOUR: 'it returns false'. Refute it at one input. -/
def fnLogFitsBeginWrong : ChangeSpec := { name := "fnLogFitsBegin", fn := fun _ => fun
  | [d1, d2] => { results := [.lit (.bool false)], args := [d1, d2] }
  | _ => none }
def FnLogFitsBeginWrongFalsely : Prop := fnLogFitsBeginRow.holds Tryd.pinned (OpenSpec.ofChange fnLogFitsBeginWrong)

/-- 'laws.FnLogBreak': WHATEVER THE INPUT: true; the input reads as it did. -/
def fnLogBreakSpec : ChangeSpec := { name := "fnLogBreak", fn := fun _ => fun
  | [d] => { results := [.lit (.bool true)], args := [d] }
  | _ => none }
def fnLogBreakRow : OpenClaim := { program := "ytdjmckbhgihdlaadoor", sum := "d3aa3abdf143adc3d55dca5f7e1d92dec57072599d264fe27d418d4ed2d7e858", func := "loop.example/filereconciler/laws.FnLogBreak", spec := "fnLogBreak", inPlace := ["internal/bytealg.CountString", "internal/bytealg.IndexByteString", "internal/bytealg.IndexString", "slices.overlaps[loop.example/filereconciler/impl.Node]"], unfollowed := true, recurses := true, named := ["unicode/utf8.first", "unicode/utf8.acceptRanges", "internal/bytealg.MaxLen"], apart := false, laid := [("unicode/utf8.acceptRanges", laid_unicode_utf8_acceptRanges), ("unicode/utf8.first", laid_unicode_utf8_first)] }
def FnLogBreakSaid : Prop := fnLogBreakRow.holds Tryd.pinned (OpenSpec.ofChange fnLogBreakSpec)

/-- ITS FALSE NEIGHBOUR: 'it returns false'. Refute it at one input. -/
def fnLogBreakWrong : ChangeSpec := { name := "fnLogBreak", fn := fun _ => fun
  | [d] => { results := [.lit (.bool false)], args := [d] }
  | _ => none }
def FnLogBreakWrongFalsely : Prop := fnLogBreakRow.holds Tryd.pinned (OpenSpec.ofChange fnLogBreakWrong)

/- THE SECOND FORM. 'bulk': how many values and letters a reading holds, each counted each time it is reached (what is shared counts as often as it is met; a slice's spare places count too). A statement '..UptoSaid' is the law's where the arguments, and the package variables that the reading takes, are together of bulk at most 1048576: NARROWER than '..Said'. Prove '..Said' where nothing that the law and all that it calls make is longer than what came in: it says more and counts as full. Else prove '..UptoSaid'. A law counts once. -/
mutual
def uptoBulk {H : Type} : DataW H → Nat
  | .lit (.string bytes) => bytes.length + 1
  | .lit _ => 1
  | .nil => 1
  | .ptr d => uptoBulk d + 1
  | .slice elems spare => uptoBulkAll elems + uptoBulkAll spare + 1
  | .agg parts => uptoBulkAll parts + 1
  | .iface _ d => uptoBulk d + 1
  | .map entries => uptoBulkEntries entries + 1
  | .held _ => 1
def uptoBulkAll {H : Type} : List (DataW H) → Nat
  | [] => 0
  | d :: r => uptoBulk d + uptoBulkAll r
def uptoBulkEntries {H : Type} : List (Lit × DataW H) → Nat
  | [] => 0
  | x :: r => uptoBulkEntry x + uptoBulkEntries r
def uptoBulkEntry {H : Type} : Lit × DataW H → Nat
  | (.string bytes, d) => bytes.length + uptoBulk d + 1
  | (_, d) => uptoBulk d + 1
 end
def uptoSmall : (H : Type) → List (DataW H) → Bool := fun _ ds => decide (uptoBulkAll ds ≤ 1048576)
def OpenSpec.upto (s : _root_.Go.ChangeSpec) : _root_.Go.OpenSpec := { _root_.Go.OpenSpec.ofChange s with cond := some uptoSmall }

/-- 'laws.FnTreeChanged', WHERE WHAT IT READS IS OF BULK AT MOST 1048576: true; the input reads as it did. -/
def fnTreeChangedUptoRow : OpenClaim := { program := "ytdjmckbhgihdlaadoor", sum := "d3aa3abdf143adc3d55dca5f7e1d92dec57072599d264fe27d418d4ed2d7e858", func := "loop.example/filereconciler/laws.FnTreeChanged", spec := "fnTreeChanged", inPlace := ["internal/bytealg.CountString", "internal/bytealg.IndexByteString", "internal/bytealg.IndexString"], unfollowed := true, recurses := true, named := ["unicode/utf8.first", "unicode/utf8.acceptRanges", "internal/bytealg.MaxLen"], apart := false, laid := [("unicode/utf8.acceptRanges", laid_unicode_utf8_acceptRanges), ("unicode/utf8.first", laid_unicode_utf8_first)], narrowed := true }
def FnTreeChangedUptoSaid : Prop := fnTreeChangedUptoRow.holds Tryd.pinned (OpenSpec.upto fnTreeChangedSpec)

/-- 'laws.FnTreePut', WHERE WHAT IT READS IS OF BULK AT MOST 1048576: true; the input reads as it did. -/
def fnTreePutUptoRow : OpenClaim := { program := "ytdjmckbhgihdlaadoor", sum := "d3aa3abdf143adc3d55dca5f7e1d92dec57072599d264fe27d418d4ed2d7e858", func := "loop.example/filereconciler/laws.FnTreePut", spec := "fnTreePut", inPlace := ["internal/bytealg.CountString", "internal/bytealg.IndexByteString", "internal/bytealg.IndexString", "slices.overlaps[loop.example/filereconciler/impl.Node]"], unfollowed := true, recurses := true, named := ["unicode/utf8.first", "unicode/utf8.acceptRanges", "internal/bytealg.MaxLen"], apart := false, laid := [("unicode/utf8.acceptRanges", laid_unicode_utf8_acceptRanges), ("unicode/utf8.first", laid_unicode_utf8_first)], narrowed := true }
def FnTreePutUptoSaid : Prop := fnTreePutUptoRow.holds Tryd.pinned (OpenSpec.upto fnTreePutSpec)

/-- 'laws.FnTreePutBack', WHERE WHAT IT READS IS OF BULK AT MOST 1048576: true; the input reads as it did. -/
def fnTreePutBackUptoRow : OpenClaim := { program := "ytdjmckbhgihdlaadoor", sum := "d3aa3abdf143adc3d55dca5f7e1d92dec57072599d264fe27d418d4ed2d7e858", func := "loop.example/filereconciler/laws.FnTreePutBack", spec := "fnTreePutBack", inPlace := ["internal/bytealg.CountString", "internal/bytealg.IndexByteString", "internal/bytealg.IndexString", "slices.overlaps[loop.example/filereconciler/impl.Node]"], unfollowed := true, recurses := true, named := ["unicode/utf8.first", "unicode/utf8.acceptRanges", "internal/bytealg.MaxLen"], apart := false, laid := [("unicode/utf8.acceptRanges", laid_unicode_utf8_acceptRanges), ("unicode/utf8.first", laid_unicode_utf8_first)], narrowed := true }
def FnTreePutBackUptoSaid : Prop := fnTreePutBackUptoRow.holds Tryd.pinned (OpenSpec.upto fnTreePutBackSpec)

/-- 'laws.FnTreePutWhen', WHERE WHAT IT READS IS OF BULK AT MOST 1048576: true; the input reads as it did. -/
def fnTreePutWhenUptoRow : OpenClaim := { program := "ytdjmckbhgihdlaadoor", sum := "d3aa3abdf143adc3d55dca5f7e1d92dec57072599d264fe27d418d4ed2d7e858", func := "loop.example/filereconciler/laws.FnTreePutWhen", spec := "fnTreePutWhen", inPlace := ["internal/bytealg.CountString", "internal/bytealg.IndexByteString", "internal/bytealg.IndexString", "slices.overlaps[loop.example/filereconciler/impl.Node]"], unfollowed := true, recurses := true, named := ["unicode/utf8.first", "unicode/utf8.acceptRanges", "internal/bytealg.MaxLen"], apart := false, laid := [("unicode/utf8.acceptRanges", laid_unicode_utf8_acceptRanges), ("unicode/utf8.first", laid_unicode_utf8_first)], narrowed := true }
def FnTreePutWhenUptoSaid : Prop := fnTreePutWhenUptoRow.holds Tryd.pinned (OpenSpec.upto fnTreePutWhenSpec)

/-- 'laws.FnTreeChangedOne', WHERE WHAT IT READS IS OF BULK AT MOST 1048576: true; the input reads as it did. -/
def fnTreeChangedOneUptoRow : OpenClaim := { program := "ytdjmckbhgihdlaadoor", sum := "d3aa3abdf143adc3d55dca5f7e1d92dec57072599d264fe27d418d4ed2d7e858", func := "loop.example/filereconciler/laws.FnTreeChangedOne", spec := "fnTreeChangedOne", inPlace := ["internal/bytealg.CountString", "internal/bytealg.IndexByteString", "internal/bytealg.IndexString", "slices.overlaps[loop.example/filereconciler/impl.Node]"], unfollowed := true, recurses := true, named := ["unicode/utf8.first", "unicode/utf8.acceptRanges", "internal/bytealg.MaxLen"], apart := false, laid := [("unicode/utf8.acceptRanges", laid_unicode_utf8_acceptRanges), ("unicode/utf8.first", laid_unicode_utf8_first)], narrowed := true }
def FnTreeChangedOneUptoSaid : Prop := fnTreeChangedOneUptoRow.holds Tryd.pinned (OpenSpec.upto fnTreeChangedOneSpec)

/-- 'laws.FnApplyTwice', WHERE WHAT IT READS IS OF BULK AT MOST 1048576: true; the input reads as it did. -/
def fnApplyTwiceUptoRow : OpenClaim := { program := "ytdjmckbhgihdlaadoor", sum := "d3aa3abdf143adc3d55dca5f7e1d92dec57072599d264fe27d418d4ed2d7e858", func := "loop.example/filereconciler/laws.FnApplyTwice", spec := "fnApplyTwice", inPlace := ["internal/bytealg.CountString", "internal/bytealg.IndexByteString", "internal/bytealg.IndexString", "slices.overlaps[loop.example/filereconciler/impl.Node]"], unfollowed := true, recurses := true, named := ["unicode/utf8.first", "unicode/utf8.acceptRanges", "internal/bytealg.MaxLen"], apart := false, laid := [("unicode/utf8.acceptRanges", laid_unicode_utf8_acceptRanges), ("unicode/utf8.first", laid_unicode_utf8_first)], narrowed := true }
def FnApplyTwiceUptoSaid : Prop := fnApplyTwiceUptoRow.holds Tryd.pinned (OpenSpec.upto fnApplyTwiceSpec)

/-- 'laws.FnApplyBreak', WHERE WHAT IT READS IS OF BULK AT MOST 1048576: true; the input reads as it did. -/
def fnApplyBreakUptoRow : OpenClaim := { program := "ytdjmckbhgihdlaadoor", sum := "d3aa3abdf143adc3d55dca5f7e1d92dec57072599d264fe27d418d4ed2d7e858", func := "loop.example/filereconciler/laws.FnApplyBreak", spec := "fnApplyBreak", inPlace := ["internal/bytealg.CountString", "internal/bytealg.IndexByteString", "internal/bytealg.IndexString", "slices.overlaps[loop.example/filereconciler/impl.Node]"], unfollowed := true, recurses := true, named := ["unicode/utf8.first", "unicode/utf8.acceptRanges", "internal/bytealg.MaxLen"], apart := false, laid := [("unicode/utf8.acceptRanges", laid_unicode_utf8_acceptRanges), ("unicode/utf8.first", laid_unicode_utf8_first)], narrowed := true }
def FnApplyBreakUptoSaid : Prop := fnApplyBreakUptoRow.holds Tryd.pinned (OpenSpec.upto fnApplyBreakSpec)

/-- 'laws.FnUndo', WHERE WHAT IT READS IS OF BULK AT MOST 1048576: true; the input reads as it did. -/
def fnUndoUptoRow : OpenClaim := { program := "ytdjmckbhgihdlaadoor", sum := "d3aa3abdf143adc3d55dca5f7e1d92dec57072599d264fe27d418d4ed2d7e858", func := "loop.example/filereconciler/laws.FnUndo", spec := "fnUndo", inPlace := ["internal/bytealg.CountString", "internal/bytealg.IndexByteString", "internal/bytealg.IndexString", "slices.overlaps[loop.example/filereconciler/impl.Node]"], unfollowed := true, recurses := true, named := ["unicode/utf8.first", "unicode/utf8.acceptRanges", "internal/bytealg.MaxLen"], apart := false, laid := [("unicode/utf8.acceptRanges", laid_unicode_utf8_acceptRanges), ("unicode/utf8.first", laid_unicode_utf8_first)], narrowed := true }
def FnUndoUptoSaid : Prop := fnUndoUptoRow.holds Tryd.pinned (OpenSpec.upto fnUndoSpec)

/-- 'laws.FnApply', WHERE WHAT IT READS IS OF BULK AT MOST 1048576: true; the input reads as it did. -/
def fnApplyUptoRow : OpenClaim := { program := "ytdjmckbhgihdlaadoor", sum := "d3aa3abdf143adc3d55dca5f7e1d92dec57072599d264fe27d418d4ed2d7e858", func := "loop.example/filereconciler/laws.FnApply", spec := "fnApply", inPlace := ["internal/bytealg.CountString", "internal/bytealg.IndexByteString", "internal/bytealg.IndexString", "slices.overlaps[loop.example/filereconciler/impl.Node]"], unfollowed := true, recurses := true, named := ["unicode/utf8.first", "unicode/utf8.acceptRanges", "internal/bytealg.MaxLen"], apart := false, laid := [("unicode/utf8.acceptRanges", laid_unicode_utf8_acceptRanges), ("unicode/utf8.first", laid_unicode_utf8_first)], narrowed := true }
def FnApplyUptoSaid : Prop := fnApplyUptoRow.holds Tryd.pinned (OpenSpec.upto fnApplySpec)

/-- 'laws.FnLogApply', WHERE WHAT IT READS IS OF BULK AT MOST 1048576: true; the input reads as it did. -/
def fnLogApplyUptoRow : OpenClaim := { program := "ytdjmckbhgihdlaadoor", sum := "d3aa3abdf143adc3d55dca5f7e1d92dec57072599d264fe27d418d4ed2d7e858", func := "loop.example/filereconciler/laws.FnLogApply", spec := "fnLogApply", inPlace := ["internal/bytealg.CountString", "internal/bytealg.IndexByteString", "internal/bytealg.IndexString", "slices.overlaps[loop.example/filereconciler/impl.Node]"], unfollowed := true, recurses := true, named := ["unicode/utf8.first", "unicode/utf8.acceptRanges", "internal/bytealg.MaxLen"], apart := false, laid := [("unicode/utf8.acceptRanges", laid_unicode_utf8_acceptRanges), ("unicode/utf8.first", laid_unicode_utf8_first)], narrowed := true }
def FnLogApplyUptoSaid : Prop := fnLogApplyUptoRow.holds Tryd.pinned (OpenSpec.upto fnLogApplySpec)

/-- 'laws.FnLogFitsBegin', WHERE WHAT IT READS IS OF BULK AT MOST 1048576: true; the input reads as it did. -/
def fnLogFitsBeginUptoRow : OpenClaim := { program := "ytdjmckbhgihdlaadoor", sum := "d3aa3abdf143adc3d55dca5f7e1d92dec57072599d264fe27d418d4ed2d7e858", func := "loop.example/filereconciler/laws.FnLogFitsBegin", spec := "fnLogFitsBegin", inPlace := ["internal/bytealg.CountString", "internal/bytealg.IndexByteString", "internal/bytealg.IndexString", "slices.overlaps[loop.example/filereconciler/impl.Node]"], unfollowed := true, recurses := true, named := ["unicode/utf8.first", "unicode/utf8.acceptRanges", "internal/bytealg.MaxLen"], apart := false, laid := [("unicode/utf8.acceptRanges", laid_unicode_utf8_acceptRanges), ("unicode/utf8.first", laid_unicode_utf8_first)], narrowed := true }
def FnLogFitsBeginUptoSaid : Prop := fnLogFitsBeginUptoRow.holds Tryd.pinned (OpenSpec.upto fnLogFitsBeginSpec)

/-- 'laws.FnLogBreak', WHERE WHAT IT READS IS OF BULK AT MOST 1048576: true; the input reads as it did. -/
def fnLogBreakUptoRow : OpenClaim := { program := "ytdjmckbhgihdlaadoor", sum := "d3aa3abdf143adc3d55dca5f7e1d92dec57072599d264fe27d418d4ed2d7e858", func := "loop.example/filereconciler/laws.FnLogBreak", spec := "fnLogBreak", inPlace := ["internal/bytealg.CountString", "internal/bytealg.IndexByteString", "internal/bytealg.IndexString", "slices.overlaps[loop.example/filereconciler/impl.Node]"], unfollowed := true, recurses := true, named := ["unicode/utf8.first", "unicode/utf8.acceptRanges", "internal/bytealg.MaxLen"], apart := false, laid := [("unicode/utf8.acceptRanges", laid_unicode_utf8_acceptRanges), ("unicode/utf8.first", laid_unicode_utf8_first)], narrowed := true }
def FnLogBreakUptoSaid : Prop := fnLogBreakUptoRow.holds Tryd.pinned (OpenSpec.upto fnLogBreakSpec)

end Rows
end Go.Proofs.YtdjmckbhgihdlaaDoor
