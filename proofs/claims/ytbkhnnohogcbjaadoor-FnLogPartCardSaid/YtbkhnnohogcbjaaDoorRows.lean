/-
  NARROWER THAN 'FOR EVERY INPUT', by the rows' own cells (each row's printed sentence says how): FnTreeTwice: laid · FnTreeGet: laid · FnTreeParent: laid · FnMust: laid · FnMustWhen: laid · FnLogPart: laid · FnMustUndo: laid · FnTreeSums: laid · FnTreeUnder: laid · FnTreeUnderFile: laid · FnLogUndoTwice: laid · FnRemoveCount: laid.
  DERIVED. THE GIVEN ROWS OF THIS SEAT. 12 by the template 'for every input the law returns true; each argument reads behind the call as it read before'; 0 by the template 'total and deterministic' (their statements: YtbkhnnohogcbjaaDoorTotals.lean).
  GIVEN WITH THE SEED: the statements are not yours to turn. If you find one false, say at which input.
  Laid BY PROGRAM, IN A SANDBOX (cutbox-rows.mjs): the forced cells as the released guide's own fill.sh prints them over the translation 482e2dfc475bf8a2… (all of the seat's roots in one cut). By AI agents, Wed Nov 11 2026. No macro, syntax, notation, axiom, sorry.
-/
import Derived.Test.YtbkhnnohogcbjaaDoorChecked
import GoSem.PinnedTables
import GoSem.Claim
import GoSem.ClaimJoined
import GoSem.ClaimMapViews
import Derived.JoinedTies
import Derived.KernelRfl
namespace Go.Proofs.YtbkhnnohogcbjaaDoor
/- THE CELL 'sum', in the pinned program and in every row, IS THE sha256 OF THE DUMP (.gsa) THAT YtbkhnnohogcbjaaDoorProg.lean LOADS. Nothing in Lean hashes anything: it is a label: what it is worth is what the hold of that sum in a sandbox is worth. -/
noncomputable def Tryd.pinned : Pinned := { name := "ytbkhnnohogcbjaadoor", sum := "482e2dfc475bf8a2fc1e7be95fe9d1c19d4dd7087becf8c33973afd468c62cee", checked := Tryd.checked }
namespace Rows
def none {H : Type} : Left H := { results := [], args := [] }

/- WHAT THE LISTED PACKAGE-LEVEL VARIABLES READ AS WHEN THE CALL BEGINS. Each datum BY PROGRAM (the guide's laid-datum.mjs) off the statement by which the dump's own 'gosem.cut.vars' lays the variable. In a bare row this is a premise. The card (YtbkhnnohogcbjaaDoorCards.lean) ties it to the program's text. -/
def laid_unicode_utf8_acceptRanges {H : Type} : DataW H := .agg [.agg [.lit (.int .u8 128), .lit (.int .u8 191)], .agg [.lit (.int .u8 160), .lit (.int .u8 191)], .agg [.lit (.int .u8 128), .lit (.int .u8 159)], .agg [.lit (.int .u8 144), .lit (.int .u8 191)], .agg [.lit (.int .u8 128), .lit (.int .u8 143)], .agg [.lit (.int .u8 0), .lit (.int .u8 0)], .agg [.lit (.int .u8 0), .lit (.int .u8 0)], .agg [.lit (.int .u8 0), .lit (.int .u8 0)], .agg [.lit (.int .u8 0), .lit (.int .u8 0)], .agg [.lit (.int .u8 0), .lit (.int .u8 0)], .agg [.lit (.int .u8 0), .lit (.int .u8 0)], .agg [.lit (.int .u8 0), .lit (.int .u8 0)], .agg [.lit (.int .u8 0), .lit (.int .u8 0)], .agg [.lit (.int .u8 0), .lit (.int .u8 0)], .agg [.lit (.int .u8 0), .lit (.int .u8 0)], .agg [.lit (.int .u8 0), .lit (.int .u8 0)]]
/-- One of Go's own tables, pinned by name: the form's constant. -/
def laid_unicode_utf8_first : DataW Unit := Go.Pinned.utf8First

/-- 'laws.FnTreeTwice': WHATEVER THE INPUT: true; the input reads as it did. -/
def fnTreeTwiceSpec : ChangeSpec := { name := "fnTreeTwice", fn := fun _ => fun
  | [d1, d2] => { results := [.lit (.bool true)], args := [d1, d2] }
  | _ => none }
def fnTreeTwiceRow : OpenClaim := { program := "ytbkhnnohogcbjaadoor", sum := "482e2dfc475bf8a2fc1e7be95fe9d1c19d4dd7087becf8c33973afd468c62cee", func := "loop.example/filereconciler/laws.FnTreeTwice", spec := "fnTreeTwice", inPlace := ["internal/bytealg.CountString", "internal/bytealg.IndexByteString", "internal/bytealg.IndexString"], unfollowed := true, recurses := true, named := ["unicode/utf8.first", "unicode/utf8.acceptRanges", "internal/bytealg.MaxLen"], apart := false, laid := [("unicode/utf8.acceptRanges", laid_unicode_utf8_acceptRanges), ("unicode/utf8.first", laid_unicode_utf8_first)] }
def FnTreeTwiceSaid : Prop := fnTreeTwiceRow.holds Tryd.pinned (OpenSpec.ofChange fnTreeTwiceSpec)

/-- ITS FALSE NEIGHBOUR: 'it returns false'. Refute it at one input. -/
def fnTreeTwiceWrong : ChangeSpec := { name := "fnTreeTwice", fn := fun _ => fun
  | [d1, d2] => { results := [.lit (.bool false)], args := [d1, d2] }
  | _ => none }
def FnTreeTwiceWrongFalsely : Prop := fnTreeTwiceRow.holds Tryd.pinned (OpenSpec.ofChange fnTreeTwiceWrong)

/-- 'laws.FnTreeGet': WHATEVER THE INPUT: true; the input reads as it did. -/
def fnTreeGetSpec : ChangeSpec := { name := "fnTreeGet", fn := fun _ => fun
  | [d] => { results := [.lit (.bool true)], args := [d] }
  | _ => none }
def fnTreeGetRow : OpenClaim := { program := "ytbkhnnohogcbjaadoor", sum := "482e2dfc475bf8a2fc1e7be95fe9d1c19d4dd7087becf8c33973afd468c62cee", func := "loop.example/filereconciler/laws.FnTreeGet", spec := "fnTreeGet", inPlace := ["internal/bytealg.CountString", "internal/bytealg.IndexByteString", "internal/bytealg.IndexString"], unfollowed := true, recurses := true, named := ["unicode/utf8.first", "unicode/utf8.acceptRanges", "internal/bytealg.MaxLen"], apart := false, laid := [("unicode/utf8.acceptRanges", laid_unicode_utf8_acceptRanges), ("unicode/utf8.first", laid_unicode_utf8_first)] }
def FnTreeGetSaid : Prop := fnTreeGetRow.holds Tryd.pinned (OpenSpec.ofChange fnTreeGetSpec)

/-- ITS FALSE NEIGHBOUR: 'it returns false'. Refute it at one input. -/
def fnTreeGetWrong : ChangeSpec := { name := "fnTreeGet", fn := fun _ => fun
  | [d] => { results := [.lit (.bool false)], args := [d] }
  | _ => none }
def FnTreeGetWrongFalsely : Prop := fnTreeGetRow.holds Tryd.pinned (OpenSpec.ofChange fnTreeGetWrong)

/-- 'laws.FnTreeParent': WHATEVER THE INPUT: true; the input reads as it did. -/
def fnTreeParentSpec : ChangeSpec := { name := "fnTreeParent", fn := fun _ => fun
  | [d] => { results := [.lit (.bool true)], args := [d] }
  | _ => none }
def fnTreeParentRow : OpenClaim := { program := "ytbkhnnohogcbjaadoor", sum := "482e2dfc475bf8a2fc1e7be95fe9d1c19d4dd7087becf8c33973afd468c62cee", func := "loop.example/filereconciler/laws.FnTreeParent", spec := "fnTreeParent", inPlace := ["internal/bytealg.CountString", "internal/bytealg.IndexByteString", "internal/bytealg.IndexString"], unfollowed := true, recurses := true, named := ["unicode/utf8.first", "unicode/utf8.acceptRanges", "internal/bytealg.MaxLen"], apart := false, laid := [("unicode/utf8.acceptRanges", laid_unicode_utf8_acceptRanges), ("unicode/utf8.first", laid_unicode_utf8_first)] }
def FnTreeParentSaid : Prop := fnTreeParentRow.holds Tryd.pinned (OpenSpec.ofChange fnTreeParentSpec)

/-- ITS FALSE NEIGHBOUR: 'it returns false'. Refute it at one input. -/
def fnTreeParentWrong : ChangeSpec := { name := "fnTreeParent", fn := fun _ => fun
  | [d] => { results := [.lit (.bool false)], args := [d] }
  | _ => none }
def FnTreeParentWrongFalsely : Prop := fnTreeParentRow.holds Tryd.pinned (OpenSpec.ofChange fnTreeParentWrong)

/-- 'laws.FnMust': WHATEVER THE INPUT: true; the input reads as it did. -/
def fnMustSpec : ChangeSpec := { name := "fnMust", fn := fun _ => fun
  | [d] => { results := [.lit (.bool true)], args := [d] }
  | _ => none }
def fnMustRow : OpenClaim := { program := "ytbkhnnohogcbjaadoor", sum := "482e2dfc475bf8a2fc1e7be95fe9d1c19d4dd7087becf8c33973afd468c62cee", func := "loop.example/filereconciler/laws.FnMust", spec := "fnMust", inPlace := ["internal/bytealg.CountString", "internal/bytealg.IndexByteString", "internal/bytealg.IndexString"], named := ["unicode/utf8.first", "unicode/utf8.acceptRanges", "internal/bytealg.MaxLen"], apart := false, laid := [("unicode/utf8.acceptRanges", laid_unicode_utf8_acceptRanges), ("unicode/utf8.first", laid_unicode_utf8_first)] }
def FnMustSaid : Prop := fnMustRow.holds Tryd.pinned (OpenSpec.ofChange fnMustSpec)

/-- ITS FALSE NEIGHBOUR: 'it returns false'. Refute it at one input. -/
def fnMustWrong : ChangeSpec := { name := "fnMust", fn := fun _ => fun
  | [d] => { results := [.lit (.bool false)], args := [d] }
  | _ => none }
def FnMustWrongFalsely : Prop := fnMustRow.holds Tryd.pinned (OpenSpec.ofChange fnMustWrong)

/-- 'laws.FnMustWhen': WHATEVER THE INPUT: true; the input reads as it did. -/
def fnMustWhenSpec : ChangeSpec := { name := "fnMustWhen", fn := fun _ => fun
  | [d] => { results := [.lit (.bool true)], args := [d] }
  | _ => none }
def fnMustWhenRow : OpenClaim := { program := "ytbkhnnohogcbjaadoor", sum := "482e2dfc475bf8a2fc1e7be95fe9d1c19d4dd7087becf8c33973afd468c62cee", func := "loop.example/filereconciler/laws.FnMustWhen", spec := "fnMustWhen", inPlace := ["internal/bytealg.CountString", "internal/bytealg.IndexByteString", "internal/bytealg.IndexString"], named := ["unicode/utf8.first", "unicode/utf8.acceptRanges", "internal/bytealg.MaxLen"], apart := false, laid := [("unicode/utf8.acceptRanges", laid_unicode_utf8_acceptRanges), ("unicode/utf8.first", laid_unicode_utf8_first)] }
def FnMustWhenSaid : Prop := fnMustWhenRow.holds Tryd.pinned (OpenSpec.ofChange fnMustWhenSpec)

/-- ITS FALSE NEIGHBOUR: 'it returns false'. Refute it at one input. -/
def fnMustWhenWrong : ChangeSpec := { name := "fnMustWhen", fn := fun _ => fun
  | [d] => { results := [.lit (.bool false)], args := [d] }
  | _ => none }
def FnMustWhenWrongFalsely : Prop := fnMustWhenRow.holds Tryd.pinned (OpenSpec.ofChange fnMustWhenWrong)

/-- 'laws.FnLogPart': WHATEVER THE INPUT: true; the input reads as it did. -/
def fnLogPartSpec : ChangeSpec := { name := "fnLogPart", fn := fun _ => fun
  | [d1, d2] => { results := [.lit (.bool true)], args := [d1, d2] }
  | _ => none }
def fnLogPartRow : OpenClaim := { program := "ytbkhnnohogcbjaadoor", sum := "482e2dfc475bf8a2fc1e7be95fe9d1c19d4dd7087becf8c33973afd468c62cee", func := "loop.example/filereconciler/laws.FnLogPart", spec := "fnLogPart", inPlace := ["internal/bytealg.CountString", "internal/bytealg.IndexByteString", "internal/bytealg.IndexString"], unfollowed := true, recurses := true, named := ["unicode/utf8.first", "unicode/utf8.acceptRanges", "internal/bytealg.MaxLen"], apart := false, laid := [("unicode/utf8.acceptRanges", laid_unicode_utf8_acceptRanges), ("unicode/utf8.first", laid_unicode_utf8_first)] }
def FnLogPartSaid : Prop := fnLogPartRow.holds Tryd.pinned (OpenSpec.ofChange fnLogPartSpec)

/-- ITS FALSE NEIGHBOUR: 'it returns false'. Refute it at one input. -/
def fnLogPartWrong : ChangeSpec := { name := "fnLogPart", fn := fun _ => fun
  | [d1, d2] => { results := [.lit (.bool false)], args := [d1, d2] }
  | _ => none }
def FnLogPartWrongFalsely : Prop := fnLogPartRow.holds Tryd.pinned (OpenSpec.ofChange fnLogPartWrong)

/-- 'laws.FnMustUndo': WHATEVER THE INPUT: true; the input reads as it did. -/
def fnMustUndoSpec : ChangeSpec := { name := "fnMustUndo", fn := fun _ => fun
  | [d] => { results := [.lit (.bool true)], args := [d] }
  | _ => none }
def fnMustUndoRow : OpenClaim := { program := "ytbkhnnohogcbjaadoor", sum := "482e2dfc475bf8a2fc1e7be95fe9d1c19d4dd7087becf8c33973afd468c62cee", func := "loop.example/filereconciler/laws.FnMustUndo", spec := "fnMustUndo", inPlace := ["internal/bytealg.CountString", "internal/bytealg.IndexByteString", "internal/bytealg.IndexString"], named := ["unicode/utf8.first", "unicode/utf8.acceptRanges", "internal/bytealg.MaxLen"], apart := false, laid := [("unicode/utf8.acceptRanges", laid_unicode_utf8_acceptRanges), ("unicode/utf8.first", laid_unicode_utf8_first)] }
def FnMustUndoSaid : Prop := fnMustUndoRow.holds Tryd.pinned (OpenSpec.ofChange fnMustUndoSpec)

/-- ITS FALSE NEIGHBOUR: 'it returns false'. Refute it at one input. -/
def fnMustUndoWrong : ChangeSpec := { name := "fnMustUndo", fn := fun _ => fun
  | [d] => { results := [.lit (.bool false)], args := [d] }
  | _ => none }
def FnMustUndoWrongFalsely : Prop := fnMustUndoRow.holds Tryd.pinned (OpenSpec.ofChange fnMustUndoWrong)

/-- 'laws.FnTreeSums': WHATEVER THE INPUT: true; the input reads as it did. -/
def fnTreeSumsSpec : ChangeSpec := { name := "fnTreeSums", fn := fun _ => fun
  | [d] => { results := [.lit (.bool true)], args := [d] }
  | _ => none }
def fnTreeSumsRow : OpenClaim := { program := "ytbkhnnohogcbjaadoor", sum := "482e2dfc475bf8a2fc1e7be95fe9d1c19d4dd7087becf8c33973afd468c62cee", func := "loop.example/filereconciler/laws.FnTreeSums", spec := "fnTreeSums", inPlace := ["internal/bytealg.CountString", "internal/bytealg.IndexByteString", "internal/bytealg.IndexString"], unfollowed := true, recurses := true, named := ["unicode/utf8.first", "unicode/utf8.acceptRanges", "internal/bytealg.MaxLen"], apart := false, laid := [("unicode/utf8.acceptRanges", laid_unicode_utf8_acceptRanges), ("unicode/utf8.first", laid_unicode_utf8_first)] }
def FnTreeSumsSaid : Prop := fnTreeSumsRow.holds Tryd.pinned (OpenSpec.ofChange fnTreeSumsSpec)

/-- ITS FALSE NEIGHBOUR: 'it returns false'. Refute it at one input. -/
def fnTreeSumsWrong : ChangeSpec := { name := "fnTreeSums", fn := fun _ => fun
  | [d] => { results := [.lit (.bool false)], args := [d] }
  | _ => none }
def FnTreeSumsWrongFalsely : Prop := fnTreeSumsRow.holds Tryd.pinned (OpenSpec.ofChange fnTreeSumsWrong)

/-- 'laws.FnTreeUnder': WHATEVER THE INPUT: true; the input reads as it did. -/
def fnTreeUnderSpec : ChangeSpec := { name := "fnTreeUnder", fn := fun _ => fun
  | [d] => { results := [.lit (.bool true)], args := [d] }
  | _ => none }
def fnTreeUnderRow : OpenClaim := { program := "ytbkhnnohogcbjaadoor", sum := "482e2dfc475bf8a2fc1e7be95fe9d1c19d4dd7087becf8c33973afd468c62cee", func := "loop.example/filereconciler/laws.FnTreeUnder", spec := "fnTreeUnder", inPlace := ["internal/bytealg.CountString", "internal/bytealg.IndexByteString", "internal/bytealg.IndexString"], unfollowed := true, recurses := true, named := ["unicode/utf8.first", "unicode/utf8.acceptRanges", "internal/bytealg.MaxLen"], apart := false, laid := [("unicode/utf8.acceptRanges", laid_unicode_utf8_acceptRanges), ("unicode/utf8.first", laid_unicode_utf8_first)] }
def FnTreeUnderSaid : Prop := fnTreeUnderRow.holds Tryd.pinned (OpenSpec.ofChange fnTreeUnderSpec)

/-- ITS FALSE NEIGHBOUR: 'it returns false'. Refute it at one input. -/
def fnTreeUnderWrong : ChangeSpec := { name := "fnTreeUnder", fn := fun _ => fun
  | [d] => { results := [.lit (.bool false)], args := [d] }
  | _ => none }
def FnTreeUnderWrongFalsely : Prop := fnTreeUnderRow.holds Tryd.pinned (OpenSpec.ofChange fnTreeUnderWrong)

/-- 'laws.FnTreeUnderFile': WHATEVER THE INPUT: true; the input reads as it did. -/
def fnTreeUnderFileSpec : ChangeSpec := { name := "fnTreeUnderFile", fn := fun _ => fun
  | [d] => { results := [.lit (.bool true)], args := [d] }
  | _ => none }
def fnTreeUnderFileRow : OpenClaim := { program := "ytbkhnnohogcbjaadoor", sum := "482e2dfc475bf8a2fc1e7be95fe9d1c19d4dd7087becf8c33973afd468c62cee", func := "loop.example/filereconciler/laws.FnTreeUnderFile", spec := "fnTreeUnderFile", inPlace := ["internal/bytealg.CountString", "internal/bytealg.IndexByteString", "internal/bytealg.IndexString"], unfollowed := true, recurses := true, named := ["unicode/utf8.first", "unicode/utf8.acceptRanges", "internal/bytealg.MaxLen"], apart := false, laid := [("unicode/utf8.acceptRanges", laid_unicode_utf8_acceptRanges), ("unicode/utf8.first", laid_unicode_utf8_first)] }
def FnTreeUnderFileSaid : Prop := fnTreeUnderFileRow.holds Tryd.pinned (OpenSpec.ofChange fnTreeUnderFileSpec)

/-- ITS FALSE NEIGHBOUR: 'it returns false'. Refute it at one input. -/
def fnTreeUnderFileWrong : ChangeSpec := { name := "fnTreeUnderFile", fn := fun _ => fun
  | [d] => { results := [.lit (.bool false)], args := [d] }
  | _ => none }
def FnTreeUnderFileWrongFalsely : Prop := fnTreeUnderFileRow.holds Tryd.pinned (OpenSpec.ofChange fnTreeUnderFileWrong)

/-- 'laws.FnLogUndoTwice': WHATEVER THE INPUT: true; the input reads as it did. -/
def fnLogUndoTwiceSpec : ChangeSpec := { name := "fnLogUndoTwice", fn := fun _ => fun
  | [d] => { results := [.lit (.bool true)], args := [d] }
  | _ => none }
def fnLogUndoTwiceRow : OpenClaim := { program := "ytbkhnnohogcbjaadoor", sum := "482e2dfc475bf8a2fc1e7be95fe9d1c19d4dd7087becf8c33973afd468c62cee", func := "loop.example/filereconciler/laws.FnLogUndoTwice", spec := "fnLogUndoTwice", inPlace := ["internal/bytealg.CountString", "internal/bytealg.IndexByteString", "internal/bytealg.IndexString"], unfollowed := true, recurses := true, named := ["unicode/utf8.first", "unicode/utf8.acceptRanges", "internal/bytealg.MaxLen"], apart := false, laid := [("unicode/utf8.acceptRanges", laid_unicode_utf8_acceptRanges), ("unicode/utf8.first", laid_unicode_utf8_first)] }
def FnLogUndoTwiceSaid : Prop := fnLogUndoTwiceRow.holds Tryd.pinned (OpenSpec.ofChange fnLogUndoTwiceSpec)

/-- ITS FALSE NEIGHBOUR: 'it returns false'. Refute it at one input. -/
def fnLogUndoTwiceWrong : ChangeSpec := { name := "fnLogUndoTwice", fn := fun _ => fun
  | [d] => { results := [.lit (.bool false)], args := [d] }
  | _ => none }
def FnLogUndoTwiceWrongFalsely : Prop := fnLogUndoTwiceRow.holds Tryd.pinned (OpenSpec.ofChange fnLogUndoTwiceWrong)

/-- 'laws.FnRemoveCount': WHATEVER THE INPUT: true; the input reads as it did. -/
def fnRemoveCountSpec : ChangeSpec := { name := "fnRemoveCount", fn := fun _ => fun
  | [d] => { results := [.lit (.bool true)], args := [d] }
  | _ => none }
def fnRemoveCountRow : OpenClaim := { program := "ytbkhnnohogcbjaadoor", sum := "482e2dfc475bf8a2fc1e7be95fe9d1c19d4dd7087becf8c33973afd468c62cee", func := "loop.example/filereconciler/laws.FnRemoveCount", spec := "fnRemoveCount", inPlace := ["internal/bytealg.CountString", "internal/bytealg.IndexByteString", "internal/bytealg.IndexString"], unfollowed := true, recurses := true, named := ["unicode/utf8.first", "unicode/utf8.acceptRanges", "internal/bytealg.MaxLen"], apart := false, laid := [("unicode/utf8.acceptRanges", laid_unicode_utf8_acceptRanges), ("unicode/utf8.first", laid_unicode_utf8_first)] }
def FnRemoveCountSaid : Prop := fnRemoveCountRow.holds Tryd.pinned (OpenSpec.ofChange fnRemoveCountSpec)

/-- ITS FALSE NEIGHBOUR: 'it returns false'. Refute it at one input. -/
def fnRemoveCountWrong : ChangeSpec := { name := "fnRemoveCount", fn := fun _ => fun
  | [d] => { results := [.lit (.bool false)], args := [d] }
  | _ => none }
def FnRemoveCountWrongFalsely : Prop := fnRemoveCountRow.holds Tryd.pinned (OpenSpec.ofChange fnRemoveCountWrong)

/- THE SECOND FORM. 'bulk': how many values and letters a reading holds, each counted each time it is reached (what is shared counts as often as it is met; a slice's spare places count too). A statement '..UptoSaid' is the law's where the arguments, and the package variables that the reading takes, are together of bulk at most 1048576: NARROWER than '..Said'. Prove '..Said' where nothing that the law and all that it calls make is longer than what came in: it says more and counts as full. Else prove '..UptoSaid'. A law counts once. -/
mutual
def uptoBulk {H : Type} : DataW H → Nat
  | .lit (.string bytes) => bytes.length + 1
  | .lit _ => 1
  | .nil => 1
  | .ptr d => uptoBulk d + 1
  | .slice elems spare => uptoBulkAll elems + uptoBulkAll spare + 1
  | .agg parts => uptoBulkAll parts + 1
  | .iface _ d => uptoBulk d + 1
  | .map entries => uptoBulkEntries entries + 1
  | .held _ => 1
def uptoBulkAll {H : Type} : List (DataW H) → Nat
  | [] => 0
  | d :: r => uptoBulk d + uptoBulkAll r
def uptoBulkEntries {H : Type} : List (Lit × DataW H) → Nat
  | [] => 0
  | x :: r => uptoBulkEntry x + uptoBulkEntries r
def uptoBulkEntry {H : Type} : Lit × DataW H → Nat
  | (.string bytes, d) => bytes.length + uptoBulk d + 1
  | (_, d) => uptoBulk d + 1
 end
def uptoSmall : (H : Type) → List (DataW H) → Bool := fun _ ds => decide (uptoBulkAll ds ≤ 1048576)
def OpenSpec.upto (s : _root_.Go.ChangeSpec) : _root_.Go.OpenSpec := { _root_.Go.OpenSpec.ofChange s with cond := some uptoSmall }

/-- 'laws.FnTreeTwice', WHERE WHAT IT READS IS OF BULK AT MOST 1048576: true; the input reads as it did. -/
def fnTreeTwiceUptoRow : OpenClaim := { program := "ytbkhnnohogcbjaadoor", sum := "482e2dfc475bf8a2fc1e7be95fe9d1c19d4dd7087becf8c33973afd468c62cee", func := "loop.example/filereconciler/laws.FnTreeTwice", spec := "fnTreeTwice", inPlace := ["internal/bytealg.CountString", "internal/bytealg.IndexByteString", "internal/bytealg.IndexString"], unfollowed := true, recurses := true, named := ["unicode/utf8.first", "unicode/utf8.acceptRanges", "internal/bytealg.MaxLen"], apart := false, laid := [("unicode/utf8.acceptRanges", laid_unicode_utf8_acceptRanges), ("unicode/utf8.first", laid_unicode_utf8_first)], narrowed := true }
def FnTreeTwiceUptoSaid : Prop := fnTreeTwiceUptoRow.holds Tryd.pinned (OpenSpec.upto fnTreeTwiceSpec)

/-- 'laws.FnTreeGet', WHERE WHAT IT READS IS OF BULK AT MOST 1048576: true; the input reads as it did. -/
def fnTreeGetUptoRow : OpenClaim := { program := "ytbkhnnohogcbjaadoor", sum := "482e2dfc475bf8a2fc1e7be95fe9d1c19d4dd7087becf8c33973afd468c62cee", func := "loop.example/filereconciler/laws.FnTreeGet", spec := "fnTreeGet", inPlace := ["internal/bytealg.CountString", "internal/bytealg.IndexByteString", "internal/bytealg.IndexString"], unfollowed := true, recurses := true, named := ["unicode/utf8.first", "unicode/utf8.acceptRanges", "internal/bytealg.MaxLen"], apart := false, laid := [("unicode/utf8.acceptRanges", laid_unicode_utf8_acceptRanges), ("unicode/utf8.first", laid_unicode_utf8_first)], narrowed := true }
def FnTreeGetUptoSaid : Prop := fnTreeGetUptoRow.holds Tryd.pinned (OpenSpec.upto fnTreeGetSpec)

/-- 'laws.FnTreeParent', WHERE WHAT IT READS IS OF BULK AT MOST 1048576: true; the input reads as it did. -/
def fnTreeParentUptoRow : OpenClaim := { program := "ytbkhnnohogcbjaadoor", sum := "482e2dfc475bf8a2fc1e7be95fe9d1c19d4dd7087becf8c33973afd468c62cee", func := "loop.example/filereconciler/laws.FnTreeParent", spec := "fnTreeParent", inPlace := ["internal/bytealg.CountString", "internal/bytealg.IndexByteString", "internal/bytealg.IndexString"], unfollowed := true, recurses := true, named := ["unicode/utf8.first", "unicode/utf8.acceptRanges", "internal/bytealg.MaxLen"], apart := false, laid := [("unicode/utf8.acceptRanges", laid_unicode_utf8_acceptRanges), ("unicode/utf8.first", laid_unicode_utf8_first)], narrowed := true }
def FnTreeParentUptoSaid : Prop := fnTreeParentUptoRow.holds Tryd.pinned (OpenSpec.upto fnTreeParentSpec)

/-- 'laws.FnMust', WHERE WHAT IT READS IS OF BULK AT MOST 1048576: true; the input reads as it did. -/
def fnMustUptoRow : OpenClaim := { program := "ytbkhnnohogcbjaadoor", sum := "482e2dfc475bf8a2fc1e7be95fe9d1c19d4dd7087becf8c33973afd468c62cee", func := "loop.example/filereconciler/laws.FnMust", spec := "fnMust", inPlace := ["internal/bytealg.CountString", "internal/bytealg.IndexByteString", "internal/bytealg.IndexString"], named := ["unicode/utf8.first", "unicode/utf8.acceptRanges", "internal/bytealg.MaxLen"], apart := false, laid := [("unicode/utf8.acceptRanges", laid_unicode_utf8_acceptRanges), ("unicode/utf8.first", laid_unicode_utf8_first)], narrowed := true }
def FnMustUptoSaid : Prop := fnMustUptoRow.holds Tryd.pinned (OpenSpec.upto fnMustSpec)

/-- 'laws.FnMustWhen', WHERE WHAT IT READS IS OF BULK AT MOST 1048576: true; the input reads as it did. -/
def fnMustWhenUptoRow : OpenClaim := { program := "ytbkhnnohogcbjaadoor", sum := "482e2dfc475bf8a2fc1e7be95fe9d1c19d4dd7087becf8c33973afd468c62cee", func := "loop.example/filereconciler/laws.FnMustWhen", spec := "fnMustWhen", inPlace := ["internal/bytealg.CountString", "internal/bytealg.IndexByteString", "internal/bytealg.IndexString"], named := ["unicode/utf8.first", "unicode/utf8.acceptRanges", "internal/bytealg.MaxLen"], apart := false, laid := [("unicode/utf8.acceptRanges", laid_unicode_utf8_acceptRanges), ("unicode/utf8.first", laid_unicode_utf8_first)], narrowed := true }
def FnMustWhenUptoSaid : Prop := fnMustWhenUptoRow.holds Tryd.pinned (OpenSpec.upto fnMustWhenSpec)

/-- 'laws.FnLogPart', WHERE WHAT IT READS IS OF BULK AT MOST 1048576: true; the input reads as it did. -/
def fnLogPartUptoRow : OpenClaim := { program := "ytbkhnnohogcbjaadoor", sum := "482e2dfc475bf8a2fc1e7be95fe9d1c19d4dd7087becf8c33973afd468c62cee", func := "loop.example/filereconciler/laws.FnLogPart", spec := "fnLogPart", inPlace := ["internal/bytealg.CountString", "internal/bytealg.IndexByteString", "internal/bytealg.IndexString"], unfollowed := true, recurses := true, named := ["unicode/utf8.first", "unicode/utf8.acceptRanges", "internal/bytealg.MaxLen"], apart := false, laid := [("unicode/utf8.acceptRanges", laid_unicode_utf8_acceptRanges), ("unicode/utf8.first", laid_unicode_utf8_first)], narrowed := true }
def FnLogPartUptoSaid : Prop := fnLogPartUptoRow.holds Tryd.pinned (OpenSpec.upto fnLogPartSpec)

/-- 'laws.FnMustUndo', WHERE WHAT IT READS IS OF BULK AT MOST 1048576: true; the input reads as it did. -/
def fnMustUndoUptoRow : OpenClaim := { program := "ytbkhnnohogcbjaadoor", sum := "482e2dfc475bf8a2fc1e7be95fe9d1c19d4dd7087becf8c33973afd468c62cee", func := "loop.example/filereconciler/laws.FnMustUndo", spec := "fnMustUndo", inPlace := ["internal/bytealg.CountString", "internal/bytealg.IndexByteString", "internal/bytealg.IndexString"], named := ["unicode/utf8.first", "unicode/utf8.acceptRanges", "internal/bytealg.MaxLen"], apart := false, laid := [("unicode/utf8.acceptRanges", laid_unicode_utf8_acceptRanges), ("unicode/utf8.first", laid_unicode_utf8_first)], narrowed := true }
def FnMustUndoUptoSaid : Prop := fnMustUndoUptoRow.holds Tryd.pinned (OpenSpec.upto fnMustUndoSpec)

/-- 'laws.FnTreeSums', WHERE WHAT IT READS IS OF BULK AT MOST 1048576: true; the input reads as it did. -/
def fnTreeSumsUptoRow : OpenClaim := { program := "ytbkhnnohogcbjaadoor", sum := "482e2dfc475bf8a2fc1e7be95fe9d1c19d4dd7087becf8c33973afd468c62cee", func := "loop.example/filereconciler/laws.FnTreeSums", spec := "fnTreeSums", inPlace := ["internal/bytealg.CountString", "internal/bytealg.IndexByteString", "internal/bytealg.IndexString"], unfollowed := true, recurses := true, named := ["unicode/utf8.first", "unicode/utf8.acceptRanges", "internal/bytealg.MaxLen"], apart := false, laid := [("unicode/utf8.acceptRanges", laid_unicode_utf8_acceptRanges), ("unicode/utf8.first", laid_unicode_utf8_first)], narrowed := true }
def FnTreeSumsUptoSaid : Prop := fnTreeSumsUptoRow.holds Tryd.pinned (OpenSpec.upto fnTreeSumsSpec)

/-- 'laws.FnTreeUnder', WHERE WHAT IT READS IS OF BULK AT MOST 1048576: true; the input reads as it did. -/
def fnTreeUnderUptoRow : OpenClaim := { program := "ytbkhnnohogcbjaadoor", sum := "482e2dfc475bf8a2fc1e7be95fe9d1c19d4dd7087becf8c33973afd468c62cee", func := "loop.example/filereconciler/laws.FnTreeUnder", spec := "fnTreeUnder", inPlace := ["internal/bytealg.CountString", "internal/bytealg.IndexByteString", "internal/bytealg.IndexString"], unfollowed := true, recurses := true, named := ["unicode/utf8.first", "unicode/utf8.acceptRanges", "internal/bytealg.MaxLen"], apart := false, laid := [("unicode/utf8.acceptRanges", laid_unicode_utf8_acceptRanges), ("unicode/utf8.first", laid_unicode_utf8_first)], narrowed := true }
def FnTreeUnderUptoSaid : Prop := fnTreeUnderUptoRow.holds Tryd.pinned (OpenSpec.upto fnTreeUnderSpec)

/-- 'laws.FnTreeUnderFile', WHERE WHAT IT READS IS OF BULK AT MOST 1048576: true; the input reads as it did. -/
def fnTreeUnderFileUptoRow : OpenClaim := { program := "ytbkhnnohogcbjaadoor", sum := "482e2dfc475bf8a2fc1e7be95fe9d1c19d4dd7087becf8c33973afd468c62cee", func := "loop.example/filereconciler/laws.FnTreeUnderFile", spec := "fnTreeUnderFile", inPlace := ["internal/bytealg.CountString", "internal/bytealg.IndexByteString", "internal/bytealg.IndexString"], unfollowed := true, recurses := true, named := ["unicode/utf8.first", "unicode/utf8.acceptRanges", "internal/bytealg.MaxLen"], apart := false, laid := [("unicode/utf8.acceptRanges", laid_unicode_utf8_acceptRanges), ("unicode/utf8.first", laid_unicode_utf8_first)], narrowed := true }
def FnTreeUnderFileUptoSaid : Prop := fnTreeUnderFileUptoRow.holds Tryd.pinned (OpenSpec.upto fnTreeUnderFileSpec)

/-- 'laws.FnLogUndoTwice', WHERE WHAT IT READS IS OF BULK AT MOST 1048576: true; the input reads as it did. -/
def fnLogUndoTwiceUptoRow : OpenClaim := { program := "ytbkhnnohogcbjaadoor", sum := "482e2dfc475bf8a2fc1e7be95fe9d1c19d4dd7087becf8c33973afd468c62cee", func := "loop.example/filereconciler/laws.FnLogUndoTwice", spec := "fnLogUndoTwice", inPlace := ["internal/bytealg.CountString", "internal/bytealg.IndexByteString", "internal/bytealg.IndexString"], unfollowed := true, recurses := true, named := ["unicode/utf8.first", "unicode/utf8.acceptRanges", "internal/bytealg.MaxLen"], apart := false, laid := [("unicode/utf8.acceptRanges", laid_unicode_utf8_acceptRanges), ("unicode/utf8.first", laid_unicode_utf8_first)], narrowed := true }
def FnLogUndoTwiceUptoSaid : Prop := fnLogUndoTwiceUptoRow.holds Tryd.pinned (OpenSpec.upto fnLogUndoTwiceSpec)

/-- 'laws.FnRemoveCount', WHERE WHAT IT READS IS OF BULK AT MOST 1048576: true; the input reads as it did. -/
def fnRemoveCountUptoRow : OpenClaim := { program := "ytbkhnnohogcbjaadoor", sum := "482e2dfc475bf8a2fc1e7be95fe9d1c19d4dd7087becf8c33973afd468c62cee", func := "loop.example/filereconciler/laws.FnRemoveCount", spec := "fnRemoveCount", inPlace := ["internal/bytealg.CountString", "internal/bytealg.IndexByteString", "internal/bytealg.IndexString"], unfollowed := true, recurses := true, named := ["unicode/utf8.first", "unicode/utf8.acceptRanges", "internal/bytealg.MaxLen"], apart := false, laid := [("unicode/utf8.acceptRanges", laid_unicode_utf8_acceptRanges), ("unicode/utf8.first", laid_unicode_utf8_first)], narrowed := true }
def FnRemoveCountUptoSaid : Prop := fnRemoveCountUptoRow.holds Tryd.pinned (OpenSpec.upto fnRemoveCountSpec)

end Rows
end Go.Proofs.YtbkhnnohogcbjaaDoor
