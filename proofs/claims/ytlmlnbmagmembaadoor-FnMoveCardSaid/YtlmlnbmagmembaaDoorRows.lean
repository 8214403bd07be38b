/-
  NARROWER THAN 'FOR EVERY INPUT', by the rows' own cells (each row's printed sentence says how): FnTreeSums: laid · FnLogUndoTwice: laid · FnRemoveCount: laid · FnTreeChangedNone: laid · FnOrdersCount: laid · FnTreeSumFile: laid · FnTreeSum: laid · FnRemove: laid · FnCopySum: laid · FnLogUndo: laid · FnMoveBack: laid · FnMove: laid.
  DERIVED. THE GIVEN ROWS OF THIS SEAT. 12 by the template 'for every input the law returns true; each argument reads behind the call as it read before'; 0 by the template 'total and deterministic' (their statements: YtlmlnbmagmembaaDoorTotals.lean).
  GIVEN WITH THE SEED: the statements are not yours to turn. If you find one false, say at which input.
  Laid BY PROGRAM, IN A SANDBOX (cutbox-rows.mjs): the forced cells as the released guide's own fill.sh prints them over the translation 3932625a260e1ad0… (all of the seat's roots in one cut). By AI agents, Wed Nov 11 2026. No macro, syntax, notation, axiom, sorry.
-/
import Derived.Test.YtlmlnbmagmembaaDoorChecked
import GoSem.PinnedTables
import GoSem.Claim
import GoSem.ClaimJoined
import GoSem.ClaimMapViews
import Derived.JoinedTies
import Derived.KernelRfl
namespace Go.Proofs.YtlmlnbmagmembaaDoor
/- THE CELL 'sum', in the pinned program and in every row, IS THE sha256 OF THE DUMP (.gsa) THAT YtlmlnbmagmembaaDoorProg.lean LOADS. Nothing in Lean hashes anything: it is a label: what it is worth is what the hold of that sum in a sandbox is worth. -/
noncomputable def Tryd.pinned : Pinned := { name := "ytlmlnbmagmembaadoor", sum := "3932625a260e1ad033ae450c8d8a398b84ded1985d8351cca5d40c040687e86b", checked := Tryd.checked }
namespace Rows
def none {H : Type} : Left H := { results := [], args := [] }

/- WHAT THE LISTED PACKAGE-LEVEL VARIABLES READ AS WHEN THE CALL BEGINS. Each datum BY PROGRAM (the guide's laid-datum.mjs) off the statement by which the dump's own 'gosem.cut.vars' lays the variable. In a bare row this is a premise. The card (YtlmlnbmagmembaaDoorCards.lean) ties it to the program's text. -/
def laid_unicode_utf8_acceptRanges {H : Type} : DataW H := .agg [.agg [.lit (.int .u8 128), .lit (.int .u8 191)], .agg [.lit (.int .u8 160), .lit (.int .u8 191)], .agg [.lit (.int .u8 128), .lit (.int .u8 159)], .agg [.lit (.int .u8 144), .lit (.int .u8 191)], .agg [.lit (.int .u8 128), .lit (.int .u8 143)], .agg [.lit (.int .u8 0), .lit (.int .u8 0)], .agg [.lit (.int .u8 0), .lit (.int .u8 0)], .agg [.lit (.int .u8 0), .lit (.int .u8 0)], .agg [.lit (.int .u8 0), .lit (.int .u8 0)], .agg [.lit (.int .u8 0), .lit (.int .u8 0)], .agg [.lit (.int .u8 0), .lit (.int .u8 0)], .agg [.lit (.int .u8 0), .lit (.int .u8 0)], .agg [.lit (.int .u8 0), .lit (.int .u8 0)], .agg [.lit (.int .u8 0), .lit (.int .u8 0)], .agg [.lit (.int .u8 0), .lit (.int .u8 0)], .agg [.lit (.int .u8 0), .lit (.int .u8 0)]]
/-- One of Go's own tables, pinned by name: the form's constant. -/
def laid_unicode_utf8_first : DataW Unit := Go.Pinned.utf8First

/-- 'laws.FnTreeSums': WHATEVER THE INPUT: true; the input reads as it did. -/
def fnTreeSumsSpec : ChangeSpec := { name := "fnTreeSums", fn := fun _ => fun
  | [d] => { results := [.lit (.bool true)], args := [d] }
  | _ => none }
def fnTreeSumsRow : OpenClaim := { program := "ytlmlnbmagmembaadoor", sum := "3932625a260e1ad033ae450c8d8a398b84ded1985d8351cca5d40c040687e86b", func := "loop.example/filereconciler/laws.FnTreeSums", spec := "fnTreeSums", inPlace := ["internal/bytealg.CountString", "internal/bytealg.IndexByteString", "internal/bytealg.IndexString"], unfollowed := true, recurses := true, named := ["unicode/utf8.first", "unicode/utf8.acceptRanges", "internal/bytealg.MaxLen"], apart := false, laid := [("unicode/utf8.acceptRanges", laid_unicode_utf8_acceptRanges), ("unicode/utf8.first", laid_unicode_utf8_first)] }
def FnTreeSumsSaid : Prop := fnTreeSumsRow.holds Tryd.pinned (OpenSpec.ofChange fnTreeSumsSpec)

/-- ITS FALSE NEIGHBOUR: 'it returns false'. Refute it at one input. -/
def fnTreeSumsWrong : ChangeSpec := { name := "fnTreeSums", fn := fun _ => fun
  | [d] => { results := [.lit (.bool false)], args := [d] }
  | _ => none }
def FnTreeSumsWrongFalsely : Prop := fnTreeSumsRow.holds Tryd.pinned (OpenSpec.ofChange fnTreeSumsWrong)

/-- 'laws.FnLogUndoTwice': WHATEVER THE INPUT: true; the input reads as it did. -/
def fnLogUndoTwiceSpec : ChangeSpec := { name := "fnLogUndoTwice", fn := fun _ => fun
  | [d] => { results := [.lit (.bool true)], args := [d] }
  | _ => none }
def fnLogUndoTwiceRow : OpenClaim := { program := "ytlmlnbmagmembaadoor", sum := "3932625a260e1ad033ae450c8d8a398b84ded1985d8351cca5d40c040687e86b", func := "loop.example/filereconciler/laws.FnLogUndoTwice", spec := "fnLogUndoTwice", inPlace := ["internal/bytealg.CountString", "internal/bytealg.IndexByteString", "internal/bytealg.IndexString"], unfollowed := true, recurses := true, named := ["unicode/utf8.first", "unicode/utf8.acceptRanges", "internal/bytealg.MaxLen"], apart := false, laid := [("unicode/utf8.acceptRanges", laid_unicode_utf8_acceptRanges), ("unicode/utf8.first", laid_unicode_utf8_first)] }
def FnLogUndoTwiceSaid : Prop := fnLogUndoTwiceRow.holds Tryd.pinned (OpenSpec.ofChange fnLogUndoTwiceSpec)

/-- ITS FALSE NEIGHBOUR: 'it returns false'. Refute it at one input. -/
def fnLogUndoTwiceWrong : ChangeSpec := { name := "fnLogUndoTwice", fn := fun _ => fun
  | [d] => { results := [.lit (.bool false)], args := [d] }
  | _ => none }
def FnLogUndoTwiceWrongFalsely : Prop := fnLogUndoTwiceRow.holds Tryd.pinned (OpenSpec.ofChange fnLogUndoTwiceWrong)

/-- 'laws.FnRemoveCount': WHATEVER THE INPUT: true; the input reads as it did. -/
def fnRemoveCountSpec : ChangeSpec := { name := "fnRemoveCount", fn := fun _ => fun
  | [d] => { results := [.lit (.bool true)], args := [d] }
  | _ => none }
def fnRemoveCountRow : OpenClaim := { program := "ytlmlnbmagmembaadoor", sum := "3932625a260e1ad033ae450c8d8a398b84ded1985d8351cca5d40c040687e86b", func := "loop.example/filereconciler/laws.FnRemoveCount", spec := "fnRemoveCount", inPlace := ["internal/bytealg.CountString", "internal/bytealg.IndexByteString", "internal/bytealg.IndexString"], unfollowed := true, recurses := true, named := ["unicode/utf8.first", "unicode/utf8.acceptRanges", "internal/bytealg.MaxLen"], apart := false, laid := [("unicode/utf8.acceptRanges", laid_unicode_utf8_acceptRanges), ("unicode/utf8.first", laid_unicode_utf8_first)] }
def FnRemoveCountSaid : Prop := fnRemoveCountRow.holds Tryd.pinned (OpenSpec.ofChange fnRemoveCountSpec)

/-- ITS FALSE NEIGHBOUR: 'it returns false'. Refute it at one input. -/
def fnRemoveCountWrong : ChangeSpec := { name := "fnRemoveCount", fn := fun _ => fun
  | [d] => { results := [.lit (.bool false)], args := [d] }
  | _ => none }
def FnRemoveCountWrongFalsely : Prop := fnRemoveCountRow.holds Tryd.pinned (OpenSpec.ofChange fnRemoveCountWrong)

/-- 'laws.FnTreeChangedNone': WHATEVER THE INPUT: true; the input reads as it did. -/
def fnTreeChangedNoneSpec : ChangeSpec := { name := "fnTreeChangedNone", fn := fun _ => fun
  | [d] => { results := [.lit (.bool true)], args := [d] }
  | _ => none }
def fnTreeChangedNoneRow : OpenClaim := { program := "ytlmlnbmagmembaadoor", sum := "3932625a260e1ad033ae450c8d8a398b84ded1985d8351cca5d40c040687e86b", func := "loop.example/filereconciler/laws.FnTreeChangedNone", spec := "fnTreeChangedNone", inPlace := ["internal/bytealg.CountString", "internal/bytealg.IndexByteString", "internal/bytealg.IndexString"], unfollowed := true, recurses := true, named := ["unicode/utf8.first", "unicode/utf8.acceptRanges", "internal/bytealg.MaxLen"], apart := false, laid := [("unicode/utf8.acceptRanges", laid_unicode_utf8_acceptRanges), ("unicode/utf8.first", laid_unicode_utf8_first)] }
def FnTreeChangedNoneSaid : Prop := fnTreeChangedNoneRow.holds Tryd.pinned (OpenSpec.ofChange fnTreeChangedNoneSpec)

/-- ITS FALSE NEIGHBOUR: 'it returns false'. Refute it at one input. -/
def fnTreeChangedNoneWrong : ChangeSpec := { name := "fnTreeChangedNone", fn := fun _ => fun
  | [d] => { results := [.lit (.bool false)], args := [d] }
  | _ => none }
def FnTreeChangedNoneWrongFalsely : Prop := fnTreeChangedNoneRow.holds Tryd.pinned (OpenSpec.ofChange fnTreeChangedNoneWrong)

/-- 'laws.FnOrdersCount': WHATEVER THE INPUT: true; the input reads as it did. -/
def fnOrdersCountSpec : ChangeSpec := { name := "fnOrdersCount", fn := fun _ => fun
  | [d] => { results := [.lit (.bool true)], args := [d] }
  | _ => none }
def fnOrdersCountRow : OpenClaim := { program := "ytlmlnbmagmembaadoor", sum := "3932625a260e1ad033ae450c8d8a398b84ded1985d8351cca5d40c040687e86b", func := "loop.example/filereconciler/laws.FnOrdersCount", spec := "fnOrdersCount", inPlace := ["internal/bytealg.CountString", "internal/bytealg.IndexByteString", "internal/bytealg.IndexString"], unfollowed := true, recurses := true, named := ["unicode/utf8.first", "unicode/utf8.acceptRanges", "internal/bytealg.MaxLen"], apart := false, laid := [("unicode/utf8.acceptRanges", laid_unicode_utf8_acceptRanges), ("unicode/utf8.first", laid_unicode_utf8_first)] }
def FnOrdersCountSaid : Prop := fnOrdersCountRow.holds Tryd.pinned (OpenSpec.ofChange fnOrdersCountSpec)

/-- ITS FALSE NEIGHBOUR: 'it returns false'. Refute it at one input. -/
def fnOrdersCountWrong : ChangeSpec := { name := "fnOrdersCount", fn := fun _ => fun
  | [d] => { results := [.lit (.bool false)], args := [d] }
  | _ => none }
def FnOrdersCountWrongFalsely : Prop := fnOrdersCountRow.holds Tryd.pinned (OpenSpec.ofChange fnOrdersCountWrong)

/-- 'laws.FnTreeSumFile': WHATEVER THE INPUT: true; the input reads as it did. -/
def fnTreeSumFileSpec : ChangeSpec := { name := "fnTreeSumFile", fn := fun _ => fun
  | [d] => { results := [.lit (.bool true)], args := [d] }
  | _ => none }
def fnTreeSumFileRow : OpenClaim := { program := "ytlmlnbmagmembaadoor", sum := "3932625a260e1ad033ae450c8d8a398b84ded1985d8351cca5d40c040687e86b", func := "loop.example/filereconciler/laws.FnTreeSumFile", spec := "fnTreeSumFile", inPlace := ["internal/bytealg.CountString", "internal/bytealg.IndexByteString", "internal/bytealg.IndexString", "slices.overlaps[loop.example/filereconciler/impl.Node]"], unfollowed := true, recurses := true, named := ["unicode/utf8.first", "unicode/utf8.acceptRanges", "internal/bytealg.MaxLen"], apart := false, laid := [("unicode/utf8.acceptRanges", laid_unicode_utf8_acceptRanges), ("unicode/utf8.first", laid_unicode_utf8_first)] }
def FnTreeSumFileSaid : Prop := fnTreeSumFileRow.holds Tryd.pinned (OpenSpec.ofChange fnTreeSumFileSpec)

/-- ITS FALSE NEIGHBOUR: 'it returns false'. Refute it at one input. -/
def fnTreeSumFileWrong : ChangeSpec := { name := "fnTreeSumFile", fn := fun _ => fun
  | [d] => { results := [.lit (.bool false)], args := [d] }
  | _ => none }
def FnTreeSumFileWrongFalsely : Prop := fnTreeSumFileRow.holds Tryd.pinned (OpenSpec.ofChange fnTreeSumFileWrong)

/-- 'laws.FnTreeSum': WHATEVER THE INPUT: true; the input reads as it did. -/
def fnTreeSumSpec : ChangeSpec := { name := "fnTreeSum", fn := fun _ => fun
  | [d1, d2] => { results := [.lit (.bool true)], args := [d1, d2] }
  | _ => none }
def fnTreeSumRow : OpenClaim := { program := "ytlmlnbmagmembaadoor", sum := "3932625a260e1ad033ae450c8d8a398b84ded1985d8351cca5d40c040687e86b", func := "loop.example/filereconciler/laws.FnTreeSum", spec := "fnTreeSum", inPlace := ["internal/bytealg.CountString", "internal/bytealg.IndexByteString", "internal/bytealg.IndexString", "slices.overlaps[loop.example/filereconciler/impl.Node]"], unfollowed := true, recurses := true, named := ["unicode/utf8.first", "unicode/utf8.acceptRanges", "internal/bytealg.MaxLen"], apart := false, laid := [("unicode/utf8.acceptRanges", laid_unicode_utf8_acceptRanges), ("unicode/utf8.first", laid_unicode_utf8_first)] }
def FnTreeSumSaid : Prop := fnTreeSumRow.holds Tryd.pinned (OpenSpec.ofChange fnTreeSumSpec)

/-- ITS FALSE NEIGHBOUR: 'it returns false'. Refute it at one input. -/
def fnTreeSumWrong : ChangeSpec := { name := "fnTreeSum", fn := fun _ => fun
  | [d1, d2] => { results := [.lit (.bool false)], args := [d1, d2] }
  | _ => none }
def FnTreeSumWrongFalsely : Prop := fnTreeSumRow.holds Tryd.pinned (OpenSpec.ofChange fnTreeSumWrong)

/-- 'laws.FnRemove': WHATEVER THE INPUT: true; the input reads as it did. -/
def fnRemoveSpec : ChangeSpec := { name := "fnRemove", fn := fun _ => fun
  | [d] => { results := [.lit (.bool true)], args := [d] }
  | _ => none }
def fnRemoveRow : OpenClaim := { program := "ytlmlnbmagmembaadoor", sum := "3932625a260e1ad033ae450c8d8a398b84ded1985d8351cca5d40c040687e86b", func := "loop.example/filereconciler/laws.FnRemove", spec := "fnRemove", inPlace := ["internal/bytealg.CountString", "internal/bytealg.IndexByteString", "internal/bytealg.IndexString", "slices.overlaps[loop.example/filereconciler/impl.Node]"], unfollowed := true, recurses := true, named := ["unicode/utf8.first", "unicode/utf8.acceptRanges", "internal/bytealg.MaxLen"], apart := false, laid := [("unicode/utf8.acceptRanges", laid_unicode_utf8_acceptRanges), ("unicode/utf8.first", laid_unicode_utf8_first)] }
def FnRemoveSaid : Prop := fnRemoveRow.holds Tryd.pinned (OpenSpec.ofChange fnRemoveSpec)

/-- ITS FALSE NEIGHBOUR: 'it returns false'. Refute it at one input. -/
def fnRemoveWrong : ChangeSpec := { name := "fnRemove", fn := fun _ => fun
  | [d] => { results := [.lit (.bool false)], args := [d] }
  | _ => none }
def FnRemoveWrongFalsely : Prop := fnRemoveRow.holds Tryd.pinned (OpenSpec.ofChange fnRemoveWrong)

/-- 'laws.FnCopySum': WHATEVER THE INPUT: true; the input reads as it did. -/
def fnCopySumSpec : ChangeSpec := { name := "fnCopySum", fn := fun _ => fun
  | [d] => { results := [.lit (.bool true)], args := [d] }
  | _ => none }
def fnCopySumRow : OpenClaim := { program := "ytlmlnbmagmembaadoor", sum := "3932625a260e1ad033ae450c8d8a398b84ded1985d8351cca5d40c040687e86b", func := "loop.example/filereconciler/laws.FnCopySum", spec := "fnCopySum", inPlace := ["internal/bytealg.CountString", "internal/bytealg.IndexByteString", "internal/bytealg.IndexString", "slices.overlaps[loop.example/filereconciler/impl.Node]"], unfollowed := true, recurses := true, named := ["unicode/utf8.first", "unicode/utf8.acceptRanges", "internal/bytealg.MaxLen"], apart := false, laid := [("unicode/utf8.acceptRanges", laid_unicode_utf8_acceptRanges), ("unicode/utf8.first", laid_unicode_utf8_first)] }
def FnCopySumSaid : Prop := fnCopySumRow.holds Tryd.pinned (OpenSpec.ofChange fnCopySumSpec)

/-- ITS FALSE NEIGHBOUR: 'it returns false'. Refute it at one input. -/
def fnCopySumWrong : ChangeSpec := { name := "fnCopySum", fn := fun _ => fun
  | [d] => { results := [.lit (.bool false)], args := [d] }
  | _ => none }
def FnCopySumWrongFalsely : Prop := fnCopySumRow.holds Tryd.pinned (OpenSpec.ofChange fnCopySumWrong)

/-- 'laws.FnLogUndo': WHATEVER THE INPUT: true; the input reads as it did. -/
def fnLogUndoSpec : ChangeSpec := { name := "fnLogUndo", fn := fun _ => fun
  | [d] => { results := [.lit (.bool true)], args := [d] }
  | _ => none }
def fnLogUndoRow : OpenClaim := { program := "ytlmlnbmagmembaadoor", sum := "3932625a260e1ad033ae450c8d8a398b84ded1985d8351cca5d40c040687e86b", func := "loop.example/filereconciler/laws.FnLogUndo", spec := "fnLogUndo", inPlace := ["internal/bytealg.CountString", "internal/bytealg.IndexByteString", "internal/bytealg.IndexString", "slices.overlaps[loop.example/filereconciler/impl.Node]"], unfollowed := true, recurses := true, named := ["unicode/utf8.first", "unicode/utf8.acceptRanges", "internal/bytealg.MaxLen"], apart := false, laid := [("unicode/utf8.acceptRanges", laid_unicode_utf8_acceptRanges), ("unicode/utf8.first", laid_unicode_utf8_first)] }
def FnLogUndoSaid : Prop := fnLogUndoRow.holds Tryd.pinned (OpenSpec.ofChange fnLogUndoSpec)

/-- ITS FALSE NEIGHBOUR: 'it returns false'. Refute it at one input. -/
def fnLogUndoWrong : ChangeSpec := { name := "fnLogUndo", fn := fun _ => fun
  | [d] => { results := [.lit (.bool false)], args := [d] }
  | _ => none }
def FnLogUndoWrongFalsely : Prop := fnLogUndoRow.holds Tryd.pinned (OpenSpec.ofChange fnLogUndoWrong)

/-- 'laws.FnMoveBack': WHATEVER THE INPUT: true; the input reads as it did. -/
def fnMoveBackSpec : ChangeSpec := { name := "fnMoveBack", fn := fun _ => fun
  | [d] => { results := [.lit (.bool true)], args := [d] }
  | _ => none }
def fnMoveBackRow : OpenClaim := { program := "ytlmlnbmagmembaadoor", sum := "3932625a260e1ad033ae450c8d8a398b84ded1985d8351cca5d40c040687e86b", func := "loop.example/filereconciler/laws.FnMoveBack", spec := "fnMoveBack", inPlace := ["internal/bytealg.CountString", "internal/bytealg.IndexByteString", "internal/bytealg.IndexString", "slices.overlaps[loop.example/filereconciler/impl.Node]"], unfollowed := true, recurses := true, named := ["unicode/utf8.first", "unicode/utf8.acceptRanges", "internal/bytealg.MaxLen"], apart := false, laid := [("unicode/utf8.acceptRanges", laid_unicode_utf8_acceptRanges), ("unicode/utf8.first", laid_unicode_utf8_first)] }
def FnMoveBackSaid : Prop := fnMoveBackRow.holds Tryd.pinned (OpenSpec.ofChange fnMoveBackSpec)

/-- ITS FALSE NEIGHBOUR: 'it returns false'. Refute it at one input. -/
def fnMoveBackWrong : ChangeSpec := { name := "fnMoveBack", fn := fun _ => fun
  | [d] => { results := [.lit (.bool false)], args := [d] }
  | _ => none }
def FnMoveBackWrongFalsely : Prop := fnMoveBackRow.holds Tryd.pinned (OpenSpec.ofChange fnMoveBackWrong)

/-- 'laws.FnMove': WHATEVER THE INPUT: true; the input reads as it did. -/
def fnMoveSpec : ChangeSpec := { name := "fnMove", fn := fun _ => fun
  | [d] => { results := [.lit (.bool true)], args := [d] }
  | _ => none }
def fnMoveRow : OpenClaim := { program := "ytlmlnbmagmembaadoor", sum := "3932625a260e1ad033ae450c8d8a398b84ded1985d8351cca5d40c040687e86b", func := "loop.example/filereconciler/laws.FnMove", spec := "fnMove", inPlace := ["internal/bytealg.CountString", "internal/bytealg.IndexByteString", "internal/bytealg.IndexString", "slices.overlaps[loop.example/filereconciler/impl.Node]"], unfollowed := true, recurses := true, named := ["unicode/utf8.first", "unicode/utf8.acceptRanges", "internal/bytealg.MaxLen"], apart := false, laid := [("unicode/utf8.acceptRanges", laid_unicode_utf8_acceptRanges), ("unicode/utf8.first", laid_unicode_utf8_first)] }
def FnMoveSaid : Prop := fnMoveRow.holds Tryd.pinned (OpenSpec.ofChange fnMoveSpec)

/-- ITS FALSE NEIGHBOUR: 'it returns false'. Refute it at one input. -/
def fnMoveWrong : ChangeSpec := { name := "fnMove", fn := fun _ => fun
  | [d] => { results := [.lit (.bool false)], args := [d] }
  | _ => none }
def FnMoveWrongFalsely : Prop := fnMoveRow.holds Tryd.pinned (OpenSpec.ofChange fnMoveWrong)

/- THE SECOND FORM. 'bulk': how many values and letters a reading holds, each counted each time it is reached (what is shared counts as often as it is met; a slice's spare places count too). A statement '..UptoSaid' is the law's where the arguments, and the package variables that the reading takes, are together of bulk at most 1048576: NARROWER than '..Said'. Prove '..Said' where nothing that the law and all that it calls make is longer than what came in: it says more and counts as full. Else prove '..UptoSaid'. A law counts once. -/
mutual
def uptoBulk {H : Type} : DataW H → Nat
  | .lit (.string bytes) => bytes.length + 1
  | .lit _ => 1
  | .nil => 1
  | .ptr d => uptoBulk d + 1
  | .slice elems spare => uptoBulkAll elems + uptoBulkAll spare + 1
  | .agg parts => uptoBulkAll parts + 1
  | .iface _ d => uptoBulk d + 1
  | .map entries => uptoBulkEntries entries + 1
  | .held _ => 1
def uptoBulkAll {H : Type} : List (DataW H) → Nat
  | [] => 0
  | d :: r => uptoBulk d + uptoBulkAll r
def uptoBulkEntries {H : Type} : List (Lit × DataW H) → Nat
  | [] => 0
  | x :: r => uptoBulkEntry x + uptoBulkEntries r
def uptoBulkEntry {H : Type} : Lit × DataW H → Nat
  | (.string bytes, d) => bytes.length + uptoBulk d + 1
  | (_, d) => uptoBulk d + 1
 end
def uptoSmall : (H : Type) → List (DataW H) → Bool := fun _ ds => decide (uptoBulkAll ds ≤ 1048576)
def OpenSpec.upto (s : _root_.Go.ChangeSpec) : _root_.Go.OpenSpec := { _root_.Go.OpenSpec.ofChange s with cond := some uptoSmall }

/-- 'laws.FnTreeSums', WHERE WHAT IT READS IS OF BULK AT MOST 1048576: true; the input reads as it did. -/
def fnTreeSumsUptoRow : OpenClaim := { program := "ytlmlnbmagmembaadoor", sum := "3932625a260e1ad033ae450c8d8a398b84ded1985d8351cca5d40c040687e86b", func := "loop.example/filereconciler/laws.FnTreeSums", spec := "fnTreeSums", inPlace := ["internal/bytealg.CountString", "internal/bytealg.IndexByteString", "internal/bytealg.IndexString"], unfollowed := true, recurses := true, named := ["unicode/utf8.first", "unicode/utf8.acceptRanges", "internal/bytealg.MaxLen"], apart := false, laid := [("unicode/utf8.acceptRanges", laid_unicode_utf8_acceptRanges), ("unicode/utf8.first", laid_unicode_utf8_first)], narrowed := true }
def FnTreeSumsUptoSaid : Prop := fnTreeSumsUptoRow.holds Tryd.pinned (OpenSpec.upto fnTreeSumsSpec)

/-- 'laws.FnLogUndoTwice', WHERE WHAT IT READS IS OF BULK AT MOST 1048576: true; the input reads as it did. -/
def fnLogUndoTwiceUptoRow : OpenClaim := { program := "ytlmlnbmagmembaadoor", sum := "3932625a260e1ad033ae450c8d8a398b84ded1985d8351cca5d40c040687e86b", func := "loop.example/filereconciler/laws.FnLogUndoTwice", spec := "fnLogUndoTwice", inPlace := ["internal/bytealg.CountString", "internal/bytealg.IndexByteString", "internal/bytealg.IndexString"], unfollowed := true, recurses := true, named := ["unicode/utf8.first", "unicode/utf8.acceptRanges", "internal/bytealg.MaxLen"], apart := false, laid := [("unicode/utf8.acceptRanges", laid_unicode_utf8_acceptRanges), ("unicode/utf8.first", laid_unicode_utf8_first)], narrowed := true }
def FnLogUndoTwiceUptoSaid : Prop := fnLogUndoTwiceUptoRow.holds Tryd.pinned (OpenSpec.upto fnLogUndoTwiceSpec)

/-- 'laws.FnRemoveCount', WHERE WHAT IT READS IS OF BULK AT MOST 1048576: true; the input reads as it did. -/
def fnRemoveCountUptoRow : OpenClaim := { program := "ytlmlnbmagmembaadoor", sum := "3932625a260e1ad033ae450c8d8a398b84ded1985d8351cca5d40c040687e86b", func := "loop.example/filereconciler/laws.FnRemoveCount", spec := "fnRemoveCount", inPlace := ["internal/bytealg.CountString", "internal/bytealg.IndexByteString", "internal/bytealg.IndexString"], unfollowed := true, recurses := true, named := ["unicode/utf8.first", "unicode/utf8.acceptRanges", "internal/bytealg.MaxLen"], apart := false, laid := [("unicode/utf8.acceptRanges", laid_unicode_utf8_acceptRanges), ("unicode/utf8.first", laid_unicode_utf8_first)], narrowed := true }
def FnRemoveCountUptoSaid : Prop := fnRemoveCountUptoRow.holds Tryd.pinned (OpenSpec.upto fnRemoveCountSpec)

/-- 'laws.FnTreeChangedNone', WHERE WHAT IT READS IS OF BULK AT MOST 1048576: true; the input reads as it did. -/
def fnTreeChangedNoneUptoRow : OpenClaim := { program := "ytlmlnbmagmembaadoor", sum := "3932625a260e1ad033ae450c8d8a398b84ded1985d8351cca5d40c040687e86b", func := "loop.example/filereconciler/laws.FnTreeChangedNone", spec := "fnTreeChangedNone", inPlace := ["internal/bytealg.CountString", "internal/bytealg.IndexByteString", "internal/bytealg.IndexString"], unfollowed := true, recurses := true, named := ["unicode/utf8.first", "unicode/utf8.acceptRanges", "internal/bytealg.MaxLen"], apart := false, laid := [("unicode/utf8.acceptRanges", laid_unicode_utf8_acceptRanges), ("unicode/utf8.first", laid_unicode_utf8_first)], narrowed := true }
def FnTreeChangedNoneUptoSaid : Prop := fnTreeChangedNoneUptoRow.holds Tryd.pinned (OpenSpec.upto fnTreeChangedNoneSpec)

/-- 'laws.FnOrdersCount', WHERE WHAT IT READS IS OF BULK AT MOST 1048576: true; the input reads as it did. -/
def fnOrdersCountUptoRow : OpenClaim := { program := "ytlmlnbmagmembaadoor", sum := "3932625a260e1ad033ae450c8d8a398b84ded1985d8351cca5d40c040687e86b", func := "loop.example/filereconciler/laws.FnOrdersCount", spec := "fnOrdersCount", inPlace := ["internal/bytealg.CountString", "internal/bytealg.IndexByteString", "internal/bytealg.IndexString"], unfollowed := true, recurses := true, named := ["unicode/utf8.first", "unicode/utf8.acceptRanges", "internal/bytealg.MaxLen"], apart := false, laid := [("unicode/utf8.acceptRanges", laid_unicode_utf8_acceptRanges), ("unicode/utf8.first", laid_unicode_utf8_first)], narrowed := true }
def FnOrdersCountUptoSaid : Prop := fnOrdersCountUptoRow.holds Tryd.pinned (OpenSpec.upto fnOrdersCountSpec)

/-- 'laws.FnTreeSumFile', WHERE WHAT IT READS IS OF BULK AT MOST 1048576: true; the input reads as it did. -/
def fnTreeSumFileUptoRow : OpenClaim := { program := "ytlmlnbmagmembaadoor", sum := "3932625a260e1ad033ae450c8d8a398b84ded1985d8351cca5d40c040687e86b", func := "loop.example/filereconciler/laws.FnTreeSumFile", spec := "fnTreeSumFile", inPlace := ["internal/bytealg.CountString", "internal/bytealg.IndexByteString", "internal/bytealg.IndexString", "slices.overlaps[loop.example/filereconciler/impl.Node]"], unfollowed := true, recurses := true, named := ["unicode/utf8.first", "unicode/utf8.acceptRanges", "internal/bytealg.MaxLen"], apart := false, laid := [("unicode/utf8.acceptRanges", laid_unicode_utf8_acceptRanges), ("unicode/utf8.first", laid_unicode_utf8_first)], narrowed := true }
def FnTreeSumFileUptoSaid : Prop := fnTreeSumFileUptoRow.holds Tryd.pinned (OpenSpec.upto fnTreeSumFileSpec)

/-- 'laws.FnTreeSum', WHERE WHAT IT READS IS OF BULK AT MOST 1048576: true; the input reads as it did. -/
def fnTreeSumUptoRow : OpenClaim := { program := "ytlmlnbmagmembaadoor", sum := "3932625a260e1ad033ae450c8d8a398b84ded1985d8351cca5d40c040687e86b", func := "loop.example/filereconciler/laws.FnTreeSum", spec := "fnTreeSum", inPlace := ["internal/bytealg.CountString", "internal/bytealg.IndexByteString", "internal/bytealg.IndexString", "slices.overlaps[loop.example/filereconciler/impl.Node]"], unfollowed := true, recurses := true, named := ["unicode/utf8.first", "unicode/utf8.acceptRanges", "internal/bytealg.MaxLen"], apart := false, laid := [("unicode/utf8.acceptRanges", laid_unicode_utf8_acceptRanges), ("unicode/utf8.first", laid_unicode_utf8_first)], narrowed := true }
def FnTreeSumUptoSaid : Prop := fnTreeSumUptoRow.holds Tryd.pinned (OpenSpec.upto fnTreeSumSpec)

/-- 'laws.FnRemove', WHERE WHAT IT READS IS OF BULK AT MOST 1048576: true; the input reads as it did. -/
def fnRemoveUptoRow : OpenClaim := { program := "ytlmlnbmagmembaadoor", sum := "3932625a260e1ad033ae450c8d8a398b84ded1985d8351cca5d40c040687e86b", func := "loop.example/filereconciler/laws.FnRemove", spec := "fnRemove", inPlace := ["internal/bytealg.CountString", "internal/bytealg.IndexByteString", "internal/bytealg.IndexString", "slices.overlaps[loop.example/filereconciler/impl.Node]"], unfollowed := true, recurses := true, named := ["unicode/utf8.first", "unicode/utf8.acceptRanges", "internal/bytealg.MaxLen"], apart := false, laid := [("unicode/utf8.acceptRanges", laid_unicode_utf8_acceptRanges), ("unicode/utf8.first", laid_unicode_utf8_first)], narrowed := true }
def FnRemoveUptoSaid : Prop := fnRemoveUptoRow.holds Tryd.pinned (OpenSpec.upto fnRemoveSpec)

/-- 'laws.FnCopySum', WHERE WHAT IT READS IS OF BULK AT MOST 1048576: true; the input reads as it did. -/
def fnCopySumUptoRow : OpenClaim := { program := "ytlmlnbmagmembaadoor", sum := "3932625a260e1ad033ae450c8d8a398b84ded1985d8351cca5d40c040687e86b", func := "loop.example/filereconciler/laws.FnCopySum", spec := "fnCopySum", inPlace := ["internal/bytealg.CountString", "internal/bytealg.IndexByteString", "internal/bytealg.IndexString", "slices.overlaps[loop.example/filereconciler/impl.Node]"], unfollowed := true, recurses := true, named := ["unicode/utf8.first", "unicode/utf8.acceptRanges", "internal/bytealg.MaxLen"], apart := false, laid := [("unicode/utf8.acceptRanges", laid_unicode_utf8_acceptRanges), ("unicode/utf8.first", laid_unicode_utf8_first)], narrowed := true }
def FnCopySumUptoSaid : Prop := fnCopySumUptoRow.holds Tryd.pinned (OpenSpec.upto fnCopySumSpec)

/-- 'laws.FnLogUndo', WHERE WHAT IT READS IS OF BULK AT MOST 1048576: true; the input reads as it did. -/
def fnLogUndoUptoRow : OpenClaim := { program := "ytlmlnbmagmembaadoor", sum := "3932625a260e1ad033ae450c8d8a398b84ded1985d8351cca5d40c040687e86b", func := "loop.example/filereconciler/laws.FnLogUndo", spec := "fnLogUndo", inPlace := ["internal/bytealg.CountString", "internal/bytealg.IndexByteString", "internal/bytealg.IndexString", "slices.overlaps[loop.example/filereconciler/impl.Node]"], unfollowed := true, recurses := true, named := ["unicode/utf8.first", "unicode/utf8.acceptRanges", "internal/bytealg.MaxLen"], apart := false, laid := [("unicode/utf8.acceptRanges", laid_unicode_utf8_acceptRanges), ("unicode/utf8.first", laid_unicode_utf8_first)], narrowed := true }
def FnLogUndoUptoSaid : Prop := fnLogUndoUptoRow.holds Tryd.pinned (OpenSpec.upto fnLogUndoSpec)

/-- 'laws.FnMoveBack', WHERE WHAT IT READS IS OF BULK AT MOST 1048576: true; the input reads as it did. -/
def fnMoveBackUptoRow : OpenClaim := { program := "ytlmlnbmagmembaadoor", sum := "3932625a260e1ad033ae450c8d8a398b84ded1985d8351cca5d40c040687e86b", func := "loop.example/filereconciler/laws.FnMoveBack", spec := "fnMoveBack", inPlace := ["internal/bytealg.CountString", "internal/bytealg.IndexByteString", "internal/bytealg.IndexString", "slices.overlaps[loop.example/filereconciler/impl.Node]"], unfollowed := true, recurses := true, named := ["unicode/utf8.first", "unicode/utf8.acceptRanges", "internal/bytealg.MaxLen"], apart := false, laid := [("unicode/utf8.acceptRanges", laid_unicode_utf8_acceptRanges), ("unicode/utf8.first", laid_unicode_utf8_first)], narrowed := true }
def FnMoveBackUptoSaid : Prop := fnMoveBackUptoRow.holds Tryd.pinned (OpenSpec.upto fnMoveBackSpec)

/-- 'laws.FnMove', WHERE WHAT IT READS IS OF BULK AT MOST 1048576: true; the input reads as it did. -/
def fnMoveUptoRow : OpenClaim := { program := "ytlmlnbmagmembaadoor", sum := "3932625a260e1ad033ae450c8d8a398b84ded1985d8351cca5d40c040687e86b", func := "loop.example/filereconciler/laws.FnMove", spec := "fnMove", inPlace := ["internal/bytealg.CountString", "internal/bytealg.IndexByteString", "internal/bytealg.IndexString", "slices.overlaps[loop.example/filereconciler/impl.Node]"], unfollowed := true, recurses := true, named := ["unicode/utf8.first", "unicode/utf8.acceptRanges", "internal/bytealg.MaxLen"], apart := false, laid := [("unicode/utf8.acceptRanges", laid_unicode_utf8_acceptRanges), ("unicode/utf8.first", laid_unicode_utf8_first)], narrowed := true }
def FnMoveUptoSaid : Prop := fnMoveUptoRow.holds Tryd.pinned (OpenSpec.upto fnMoveSpec)

end Rows
end Go.Proofs.YtlmlnbmagmembaaDoor
