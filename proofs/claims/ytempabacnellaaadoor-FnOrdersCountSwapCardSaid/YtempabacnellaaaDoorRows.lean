/-
  NARROWER THAN 'FOR EVERY INPUT', by the rows' own cells (each row's printed sentence says how): FnCanonPart: laid · FnCanonPaths: laid · FnOrdersCountSwap: laid · FnSwap: laid · FnSwapWhen: laid · FnClashesTurned: laid · FnClashes: laid · FnLeft: laid · FnSafeNone: laid · FnAgreed: laid · FnSafe: laid · FnParts: laid.
  DERIVED. THE GIVEN ROWS OF THIS SEAT. 12 by the template 'for every input the law returns true; each argument reads behind the call as it read before'; 0 by the template 'total and deterministic' (their statements: YtempabacnellaaaDoorTotals.lean).
  GIVEN WITH THE SEED: the statements are not yours to turn. If you find one false, say at which input.
  Laid BY PROGRAM, IN A SANDBOX (cutbox-rows.mjs): the forced cells as the released guide's own fill.sh prints them over the translation 5ecc76f8a497b6ce… (all of the seat's roots in one cut). By AI agents, Wed Nov 11 2026. No macro, syntax, notation, axiom, sorry.
-/
import Derived.Test.YtempabacnellaaaDoorChecked
import GoSem.PinnedTables
import GoSem.Claim
import GoSem.ClaimJoined
import GoSem.ClaimMapViews
import Derived.JoinedTies
import Derived.KernelRfl
namespace Go.Proofs.YtempabacnellaaaDoor
/- THE CELL 'sum', in the pinned program and in every row, IS THE sha256 OF THE DUMP (.gsa) THAT YtempabacnellaaaDoorProg.lean LOADS. Nothing in Lean hashes anything: it is a label: what it is worth is what the hold of that sum in a sandbox is worth. -/
noncomputable def Tryd.pinned : Pinned := { name := "ytempabacnellaaadoor", sum := "5ecc76f8a497b6ce4b71904effa0c36de4f218a6e589e0ef74744376f1c0fd78", checked := Tryd.checked }
namespace Rows
def none {H : Type} : Left H := { results := [], args := [] }

/- WHAT THE LISTED PACKAGE-LEVEL VARIABLES READ AS WHEN THE CALL BEGINS. Each datum BY PROGRAM (the guide's laid-datum.mjs) off the statement by which the dump's own 'gosem.cut.vars' lays the variable. In a bare row this is a premise. The card (YtempabacnellaaaDoorCards.lean) ties it to the program's text. -/
def laid_unicode_utf8_acceptRanges {H : Type} : DataW H := .agg [.agg [.lit (.int .u8 128), .lit (.int .u8 191)], .agg [.lit (.int .u8 160), .lit (.int .u8 191)], .agg [.lit (.int .u8 128), .lit (.int .u8 159)], .agg [.lit (.int .u8 144), .lit (.int .u8 191)], .agg [.lit (.int .u8 128), .lit (.int .u8 143)], .agg [.lit (.int .u8 0), .lit (.int .u8 0)], .agg [.lit (.int .u8 0), .lit (.int .u8 0)], .agg [.lit (.int .u8 0), .lit (.int .u8 0)], .agg [.lit (.int .u8 0), .lit (.int .u8 0)], .agg [.lit (.int .u8 0), .lit (.int .u8 0)], .agg [.lit (.int .u8 0), .lit (.int .u8 0)], .agg [.lit (.int .u8 0), .lit (.int .u8 0)], .agg [.lit (.int .u8 0), .lit (.int .u8 0)], .agg [.lit (.int .u8 0), .lit (.int .u8 0)], .agg [.lit (.int .u8 0), .lit (.int .u8 0)], .agg [.lit (.int .u8 0), .lit (.int .u8 0)]]
/-- One of Go's own tables, pinned by name: the form's constant. -/
def laid_unicode_utf8_first : DataW Unit := Go.Pinned.utf8First

/-- 'laws.FnCanonPart': WHATEVER THE INPUT: true; the input reads as it did. -/
def fnCanonPartSpec : ChangeSpec := { name := "fnCanonPart", fn := fun _ => fun
  | [d1, d2] => { results := [.lit (.bool true)], args := [d1, d2] }
  | _ => none }
def fnCanonPartRow : OpenClaim := { program := "ytempabacnellaaadoor", sum := "5ecc76f8a497b6ce4b71904effa0c36de4f218a6e589e0ef74744376f1c0fd78", func := "loop.example/filereconciler/laws.FnCanonPart", spec := "fnCanonPart", inPlace := ["internal/bytealg.CountString", "internal/bytealg.IndexByteString", "internal/bytealg.IndexString"], unfollowed := true, recurses := true, named := ["unicode/utf8.first", "unicode/utf8.acceptRanges", "internal/bytealg.MaxLen"], apart := false, laid := [("unicode/utf8.acceptRanges", laid_unicode_utf8_acceptRanges), ("unicode/utf8.first", laid_unicode_utf8_first)] }
def FnCanonPartSaid : Prop := fnCanonPartRow.holds Tryd.pinned (OpenSpec.ofChange fnCanonPartSpec)

/-- ITS FALSE NEIGHBOUR: 'it returns false'. Refute it at one input. -/
def fnCanonPartWrong : ChangeSpec := { name := "fnCanonPart", fn := fun _ => fun
  | [d1, d2] => { results := [.lit (.bool false)], args := [d1, d2] }
  | _ => none }
def FnCanonPartWrongFalsely : Prop := fnCanonPartRow.holds Tryd.pinned (OpenSpec.ofChange fnCanonPartWrong)

/-- 'laws.FnCanonPaths': WHATEVER THE INPUT: true; the input reads as it did. -/
def fnCanonPathsSpec : ChangeSpec := { name := "fnCanonPaths", fn := fun _ => fun
  | [d] => { results := [.lit (.bool true)], args := [d] }
  | _ => none }
def fnCanonPathsRow : OpenClaim := { program := "ytempabacnellaaadoor", sum := "5ecc76f8a497b6ce4b71904effa0c36de4f218a6e589e0ef74744376f1c0fd78", func := "loop.example/filereconciler/laws.FnCanonPaths", spec := "fnCanonPaths", inPlace := ["internal/bytealg.CountString", "internal/bytealg.IndexByteString", "internal/bytealg.IndexString"], unfollowed := true, recurses := true, named := ["unicode/utf8.first", "unicode/utf8.acceptRanges", "internal/bytealg.MaxLen"], apart := false, laid := [("unicode/utf8.acceptRanges", laid_unicode_utf8_acceptRanges), ("unicode/utf8.first", laid_unicode_utf8_first)] }
def FnCanonPathsSaid : Prop := fnCanonPathsRow.holds Tryd.pinned (OpenSpec.ofChange fnCanonPathsSpec)

/-- ITS FALSE NEIGHBOUR: 'it returns false'. Refute it at one input. -/
def fnCanonPathsWrong : ChangeSpec := { name := "fnCanonPaths", fn := fun _ => fun
  | [d] => { results := [.lit (.bool false)], args := [d] }
  | _ => none }
def FnCanonPathsWrongFalsely : Prop := fnCanonPathsRow.holds Tryd.pinned (OpenSpec.ofChange fnCanonPathsWrong)

/-- 'laws.FnOrdersCountSwap': WHATEVER THE INPUT: true; the input reads as it did. -/
def fnOrdersCountSwapSpec : ChangeSpec := { name := "fnOrdersCountSwap", fn := fun _ => fun
  | [d] => { results := [.lit (.bool true)], args := [d] }
  | _ => none }
def fnOrdersCountSwapRow : OpenClaim := { program := "ytempabacnellaaadoor", sum := "5ecc76f8a497b6ce4b71904effa0c36de4f218a6e589e0ef74744376f1c0fd78", func := "loop.example/filereconciler/laws.FnOrdersCountSwap", spec := "fnOrdersCountSwap", inPlace := ["internal/bytealg.CountString", "internal/bytealg.IndexByteString", "internal/bytealg.IndexString"], unfollowed := true, recurses := true, named := ["unicode/utf8.first", "unicode/utf8.acceptRanges", "internal/bytealg.MaxLen"], apart := false, laid := [("unicode/utf8.acceptRanges", laid_unicode_utf8_acceptRanges), ("unicode/utf8.first", laid_unicode_utf8_first)] }
def FnOrdersCountSwapSaid : Prop := fnOrdersCountSwapRow.holds Tryd.pinned (OpenSpec.ofChange fnOrdersCountSwapSpec)

/-- ITS FALSE NEIGHBOUR: 'it returns false'. Refute it at one input. -/
def fnOrdersCountSwapWrong : ChangeSpec := { name := "fnOrdersCountSwap", fn := fun _ => fun
  | [d] => { results := [.lit (.bool false)], args := [d] }
  | _ => none }
def FnOrdersCountSwapWrongFalsely : Prop := fnOrdersCountSwapRow.holds Tryd.pinned (OpenSpec.ofChange fnOrdersCountSwapWrong)

/-- 'laws.FnSwap': WHATEVER THE INPUT: true; the input reads as it did. -/
def fnSwapSpec : ChangeSpec := { name := "fnSwap", fn := fun _ => fun
  | [d] => { results := [.lit (.bool true)], args := [d] }
  | _ => none }
def fnSwapRow : OpenClaim := { program := "ytempabacnellaaadoor", sum := "5ecc76f8a497b6ce4b71904effa0c36de4f218a6e589e0ef74744376f1c0fd78", func := "loop.example/filereconciler/laws.FnSwap", spec := "fnSwap", inPlace := ["internal/bytealg.CountString", "internal/bytealg.IndexByteString", "internal/bytealg.IndexString"], unfollowed := true, recurses := true, named := ["unicode/utf8.first", "unicode/utf8.acceptRanges", "internal/bytealg.MaxLen"], apart := false, laid := [("unicode/utf8.acceptRanges", laid_unicode_utf8_acceptRanges), ("unicode/utf8.first", laid_unicode_utf8_first)] }
def FnSwapSaid : Prop := fnSwapRow.holds Tryd.pinned (OpenSpec.ofChange fnSwapSpec)

/-- ITS FALSE NEIGHBOUR: 'it returns false'. Refute it at one input. -/
def fnSwapWrong : ChangeSpec := { name := "fnSwap", fn := fun _ => fun
  | [d] => { results := [.lit (.bool false)], args := [d] }
  | _ => none }
def FnSwapWrongFalsely : Prop := fnSwapRow.holds Tryd.pinned (OpenSpec.ofChange fnSwapWrong)

/-- 'laws.FnSwapWhen': WHATEVER THE INPUT: true; the input reads as it did. -/
def fnSwapWhenSpec : ChangeSpec := { name := "fnSwapWhen", fn := fun _ => fun
  | [d] => { results := [.lit (.bool true)], args := [d] }
  | _ => none }
def fnSwapWhenRow : OpenClaim := { program := "ytempabacnellaaadoor", sum := "5ecc76f8a497b6ce4b71904effa0c36de4f218a6e589e0ef74744376f1c0fd78", func := "loop.example/filereconciler/laws.FnSwapWhen", spec := "fnSwapWhen", inPlace := ["internal/bytealg.CountString", "internal/bytealg.IndexByteString", "internal/bytealg.IndexString"], unfollowed := true, recurses := true, named := ["unicode/utf8.first", "unicode/utf8.acceptRanges", "internal/bytealg.MaxLen"], apart := false, laid := [("unicode/utf8.acceptRanges", laid_unicode_utf8_acceptRanges), ("unicode/utf8.first", laid_unicode_utf8_first)] }
def FnSwapWhenSaid : Prop := fnSwapWhenRow.holds Tryd.pinned (OpenSpec.ofChange fnSwapWhenSpec)

/-- ITS FALSE NEIGHBOUR: 'it returns false'. Refute it at one input. -/
def fnSwapWhenWrong : ChangeSpec := { name := "fnSwapWhen", fn := fun _ => fun
  | [d] => { results := [.lit (.bool false)], args := [d] }
  | _ => none }
def FnSwapWhenWrongFalsely : Prop := fnSwapWhenRow.holds Tryd.pinned (OpenSpec.ofChange fnSwapWhenWrong)

/-- 'laws.FnClashesTurned': WHATEVER THE INPUT: true; the input reads as it did. -/
def fnClashesTurnedSpec : ChangeSpec := { name := "fnClashesTurned", fn := fun _ => fun
  | [d] => { results := [.lit (.bool true)], args := [d] }
  | _ => none }
def fnClashesTurnedRow : OpenClaim := { program := "ytempabacnellaaadoor", sum := "5ecc76f8a497b6ce4b71904effa0c36de4f218a6e589e0ef74744376f1c0fd78", func := "loop.example/filereconciler/laws.FnClashesTurned", spec := "fnClashesTurned", inPlace := ["internal/bytealg.CountString", "internal/bytealg.IndexByteString", "internal/bytealg.IndexString"], unfollowed := true, recurses := true, named := ["unicode/utf8.first", "unicode/utf8.acceptRanges", "internal/bytealg.MaxLen"], apart := false, laid := [("unicode/utf8.acceptRanges", laid_unicode_utf8_acceptRanges), ("unicode/utf8.first", laid_unicode_utf8_first)] }
def FnClashesTurnedSaid : Prop := fnClashesTurnedRow.holds Tryd.pinned (OpenSpec.ofChange fnClashesTurnedSpec)

/-- ITS FALSE NEIGHBOUR: 'it returns false'. Refute it at one input. -/
def fnClashesTurnedWrong : ChangeSpec := { name := "fnClashesTurned", fn := fun _ => fun
  | [d] => { results := [.lit (.bool false)], args := [d] }
  | _ => none }
def FnClashesTurnedWrongFalsely : Prop := fnClashesTurnedRow.holds Tryd.pinned (OpenSpec.ofChange fnClashesTurnedWrong)

/-- 'laws.FnClashes': WHATEVER THE INPUT: true; the input reads as it did. -/
def fnClashesSpec : ChangeSpec := { name := "fnClashes", fn := fun _ => fun
  | [d] => { results := [.lit (.bool true)], args := [d] }
  | _ => none }
def fnClashesRow : OpenClaim := { program := "ytempabacnellaaadoor", sum := "5ecc76f8a497b6ce4b71904effa0c36de4f218a6e589e0ef74744376f1c0fd78", func := "loop.example/filereconciler/laws.FnClashes", spec := "fnClashes", inPlace := ["internal/bytealg.CountString", "internal/bytealg.IndexByteString", "internal/bytealg.IndexString"], unfollowed := true, recurses := true, named := ["unicode/utf8.first", "unicode/utf8.acceptRanges", "internal/bytealg.MaxLen"], apart := false, laid := [("unicode/utf8.acceptRanges", laid_unicode_utf8_acceptRanges), ("unicode/utf8.first", laid_unicode_utf8_first)] }
def FnClashesSaid : Prop := fnClashesRow.holds Tryd.pinned (OpenSpec.ofChange fnClashesSpec)

/-- ITS FALSE NEIGHBOUR: 'it returns false'. Refute it at one input. -/
def fnClashesWrong : ChangeSpec := { name := "fnClashes", fn := fun _ => fun
  | [d] => { results := [.lit (.bool false)], args := [d] }
  | _ => none }
def FnClashesWrongFalsely : Prop := fnClashesRow.holds Tryd.pinned (OpenSpec.ofChange fnClashesWrong)

/-- 'laws.FnLeft': WHATEVER THE INPUT: true; the input reads as it did. -/
def fnLeftSpec : ChangeSpec := { name := "fnLeft", fn := fun _ => fun
  | [d] => { results := [.lit (.bool true)], args := [d] }
  | _ => none }
def fnLeftRow : OpenClaim := { program := "ytempabacnellaaadoor", sum := "5ecc76f8a497b6ce4b71904effa0c36de4f218a6e589e0ef74744376f1c0fd78", func := "loop.example/filereconciler/laws.FnLeft", spec := "fnLeft", inPlace := ["internal/bytealg.CountString", "internal/bytealg.IndexByteString", "internal/bytealg.IndexString"], unfollowed := true, recurses := true, named := ["unicode/utf8.first", "unicode/utf8.acceptRanges", "internal/bytealg.MaxLen"], apart := false, laid := [("unicode/utf8.acceptRanges", laid_unicode_utf8_acceptRanges), ("unicode/utf8.first", laid_unicode_utf8_first)] }
def FnLeftSaid : Prop := fnLeftRow.holds Tryd.pinned (OpenSpec.ofChange fnLeftSpec)

/-- ITS FALSE NEIGHBOUR: 'it returns false'. Refute it at one input. -/
def fnLeftWrong : ChangeSpec := { name := "fnLeft", fn := fun _ => fun
  | [d] => { results := [.lit (.bool false)], args := [d] }
  | _ => none }
def FnLeftWrongFalsely : Prop := fnLeftRow.holds Tryd.pinned (OpenSpec.ofChange fnLeftWrong)

/-- 'laws.FnSafeNone': WHATEVER THE INPUT: true; the input reads as it did. -/
def fnSafeNoneSpec : ChangeSpec := { name := "fnSafeNone", fn := fun _ => fun
  | [d] => { results := [.lit (.bool true)], args := [d] }
  | _ => none }
def fnSafeNoneRow : OpenClaim := { program := "ytempabacnellaaadoor", sum := "5ecc76f8a497b6ce4b71904effa0c36de4f218a6e589e0ef74744376f1c0fd78", func := "loop.example/filereconciler/laws.FnSafeNone", spec := "fnSafeNone", inPlace := ["internal/bytealg.CountString", "internal/bytealg.IndexByteString", "internal/bytealg.IndexString"], unfollowed := true, recurses := true, named := ["unicode/utf8.first", "unicode/utf8.acceptRanges", "internal/bytealg.MaxLen"], apart := false, laid := [("unicode/utf8.acceptRanges", laid_unicode_utf8_acceptRanges), ("unicode/utf8.first", laid_unicode_utf8_first)] }
def FnSafeNoneSaid : Prop := fnSafeNoneRow.holds Tryd.pinned (OpenSpec.ofChange fnSafeNoneSpec)

/-- ITS FALSE NEIGHBOUR: 'it returns false'. Refute it at one input. -/
def fnSafeNoneWrong : ChangeSpec := { name := "fnSafeNone", fn := fun _ => fun
  | [d] => { results := [.lit (.bool false)], args := [d] }
  | _ => none }
def FnSafeNoneWrongFalsely : Prop := fnSafeNoneRow.holds Tryd.pinned (OpenSpec.ofChange fnSafeNoneWrong)

/-- 'laws.FnAgreed': WHATEVER THE INPUT: true; the input reads as it did. -/
def fnAgreedSpec : ChangeSpec := { name := "fnAgreed", fn := fun _ => fun
  | [d] => { results := [.lit (.bool true)], args := [d] }
  | _ => none }
def fnAgreedRow : OpenClaim := { program := "ytempabacnellaaadoor", sum := "5ecc76f8a497b6ce4b71904effa0c36de4f218a6e589e0ef74744376f1c0fd78", func := "loop.example/filereconciler/laws.FnAgreed", spec := "fnAgreed", inPlace := ["internal/bytealg.CountString", "internal/bytealg.IndexByteString", "internal/bytealg.IndexString"], unfollowed := true, recurses := true, named := ["unicode/utf8.first", "unicode/utf8.acceptRanges", "internal/bytealg.MaxLen"], apart := false, laid := [("unicode/utf8.acceptRanges", laid_unicode_utf8_acceptRanges), ("unicode/utf8.first", laid_unicode_utf8_first)] }
def FnAgreedSaid : Prop := fnAgreedRow.holds Tryd.pinned (OpenSpec.ofChange fnAgreedSpec)

/-- ITS FALSE NEIGHBOUR: 'it returns false'. Refute it at one input. -/
def fnAgreedWrong : ChangeSpec := { name := "fnAgreed", fn := fun _ => fun
  | [d] => { results := [.lit (.bool false)], args := [d] }
  | _ => none }
def FnAgreedWrongFalsely : Prop := fnAgreedRow.holds Tryd.pinned (OpenSpec.ofChange fnAgreedWrong)

/-- 'laws.FnSafe': WHATEVER THE INPUT: true; the input reads as it did. -/
def fnSafeSpec : ChangeSpec := { name := "fnSafe", fn := fun _ => fun
  | [d] => { results := [.lit (.bool true)], args := [d] }
  | _ => none }
def fnSafeRow : OpenClaim := { program := "ytempabacnellaaadoor", sum := "5ecc76f8a497b6ce4b71904effa0c36de4f218a6e589e0ef74744376f1c0fd78", func := "loop.example/filereconciler/laws.FnSafe", spec := "fnSafe", inPlace := ["internal/bytealg.CountString", "internal/bytealg.IndexByteString", "internal/bytealg.IndexString"], unfollowed := true, recurses := true, named := ["unicode/utf8.first", "unicode/utf8.acceptRanges", "internal/bytealg.MaxLen"], apart := false, laid := [("unicode/utf8.acceptRanges", laid_unicode_utf8_acceptRanges), ("unicode/utf8.first", laid_unicode_utf8_first)] }
def FnSafeSaid : Prop := fnSafeRow.holds Tryd.pinned (OpenSpec.ofChange fnSafeSpec)

/-- ITS FALSE NEIGHBOUR: 'it returns false'. Refute it at one input. -/
def fnSafeWrong : ChangeSpec := { name := "fnSafe", fn := fun _ => fun
  | [d] => { results := [.lit (.bool false)], args := [d] }
  | _ => none }
def FnSafeWrongFalsely : Prop := fnSafeRow.holds Tryd.pinned (OpenSpec.ofChange fnSafeWrong)

/-- 'laws.FnParts': WHATEVER THE INPUT: true; the input reads as it did. -/
def fnPartsSpec : ChangeSpec := { name := "fnParts", fn := fun _ => fun
  | [d] => { results := [.lit (.bool true)], args := [d] }
  | _ => none }
def fnPartsRow : OpenClaim := { program := "ytempabacnellaaadoor", sum := "5ecc76f8a497b6ce4b71904effa0c36de4f218a6e589e0ef74744376f1c0fd78", func := "loop.example/filereconciler/laws.FnParts", spec := "fnParts", inPlace := ["internal/bytealg.CountString", "internal/bytealg.IndexByteString", "internal/bytealg.IndexString"], unfollowed := true, recurses := true, named := ["unicode/utf8.first", "unicode/utf8.acceptRanges", "internal/bytealg.MaxLen"], apart := false, laid := [("unicode/utf8.acceptRanges", laid_unicode_utf8_acceptRanges), ("unicode/utf8.first", laid_unicode_utf8_first)] }
def FnPartsSaid : Prop := fnPartsRow.holds Tryd.pinned (OpenSpec.ofChange fnPartsSpec)

/-- ITS FALSE NEIGHBOUR: 'it returns false'. Refute it at one input. -/
def fnPartsWrong : ChangeSpec := { name := "fnParts", fn := fun _ => fun
  | [d] => { results := [.lit (.bool false)], args := [d] }
  | _ => none }
def FnPartsWrongFalsely : Prop := fnPartsRow.holds Tryd.pinned (OpenSpec.ofChange fnPartsWrong)

/- THE SECOND FORM. 'bulk': how many values and letters a reading holds, each counted each time it is reached (what is shared counts as often as it is met; a slice's spare places count too). A statement '..UptoSaid' is the law's where the arguments, and the package variables that the reading takes, are together of bulk at most 1048576: NARROWER than '..Said'. Prove '..Said' where nothing that the law and all that it calls make is longer than what came in: it says more and counts as full. Else prove '..UptoSaid'. A law counts once. -/
mutual
def uptoBulk {H : Type} : DataW H → Nat
  | .lit (.string bytes) => bytes.length + 1
  | .lit _ => 1
  | .nil => 1
  | .ptr d => uptoBulk d + 1
  | .slice elems spare => uptoBulkAll elems + uptoBulkAll spare + 1
  | .agg parts => uptoBulkAll parts + 1
  | .iface _ d => uptoBulk d + 1
  | .map entries => uptoBulkEntries entries + 1
  | .held _ => 1
def uptoBulkAll {H : Type} : List (DataW H) → Nat
  | [] => 0
  | d :: r => uptoBulk d + uptoBulkAll r
def uptoBulkEntries {H : Type} : List (Lit × DataW H) → Nat
  | [] => 0
  | x :: r => uptoBulkEntry x + uptoBulkEntries r
def uptoBulkEntry {H : Type} : Lit × DataW H → Nat
  | (.string bytes, d) => bytes.length + uptoBulk d + 1
  | (_, d) => uptoBulk d + 1
 end
def uptoSmall : (H : Type) → List (DataW H) → Bool := fun _ ds => decide (uptoBulkAll ds ≤ 1048576)
def OpenSpec.upto (s : _root_.Go.ChangeSpec) : _root_.Go.OpenSpec := { _root_.Go.OpenSpec.ofChange s with cond := some uptoSmall }

/-- 'laws.FnCanonPart', WHERE WHAT IT READS IS OF BULK AT MOST 1048576: true; the input reads as it did. -/
def fnCanonPartUptoRow : OpenClaim := { program := "ytempabacnellaaadoor", sum := "5ecc76f8a497b6ce4b71904effa0c36de4f218a6e589e0ef74744376f1c0fd78", func := "loop.example/filereconciler/laws.FnCanonPart", spec := "fnCanonPart", inPlace := ["internal/bytealg.CountString", "internal/bytealg.IndexByteString", "internal/bytealg.IndexString"], unfollowed := true, recurses := true, named := ["unicode/utf8.first", "unicode/utf8.acceptRanges", "internal/bytealg.MaxLen"], apart := false, laid := [("unicode/utf8.acceptRanges", laid_unicode_utf8_acceptRanges), ("unicode/utf8.first", laid_unicode_utf8_first)], narrowed := true }
def FnCanonPartUptoSaid : Prop := fnCanonPartUptoRow.holds Tryd.pinned (OpenSpec.upto fnCanonPartSpec)

/-- 'laws.FnCanonPaths', WHERE WHAT IT READS IS OF BULK AT MOST 1048576: true; the input reads as it did. -/
def fnCanonPathsUptoRow : OpenClaim := { program := "ytempabacnellaaadoor", sum := "5ecc76f8a497b6ce4b71904effa0c36de4f218a6e589e0ef74744376f1c0fd78", func := "loop.example/filereconciler/laws.FnCanonPaths", spec := "fnCanonPaths", inPlace := ["internal/bytealg.CountString", "internal/bytealg.IndexByteString", "internal/bytealg.IndexString"], unfollowed := true, recurses := true, named := ["unicode/utf8.first", "unicode/utf8.acceptRanges", "internal/bytealg.MaxLen"], apart := false, laid := [("unicode/utf8.acceptRanges", laid_unicode_utf8_acceptRanges), ("unicode/utf8.first", laid_unicode_utf8_first)], narrowed := true }
def FnCanonPathsUptoSaid : Prop := fnCanonPathsUptoRow.holds Tryd.pinned (OpenSpec.upto fnCanonPathsSpec)

/-- 'laws.FnOrdersCountSwap', WHERE WHAT IT READS IS OF BULK AT MOST 1048576: true; the input reads as it did. -/
def fnOrdersCountSwapUptoRow : OpenClaim := { program := "ytempabacnellaaadoor", sum := "5ecc76f8a497b6ce4b71904effa0c36de4f218a6e589e0ef74744376f1c0fd78", func := "loop.example/filereconciler/laws.FnOrdersCountSwap", spec := "fnOrdersCountSwap", inPlace := ["internal/bytealg.CountString", "internal/bytealg.IndexByteString", "internal/bytealg.IndexString"], unfollowed := true, recurses := true, named := ["unicode/utf8.first", "unicode/utf8.acceptRanges", "internal/bytealg.MaxLen"], apart := false, laid := [("unicode/utf8.acceptRanges", laid_unicode_utf8_acceptRanges), ("unicode/utf8.first", laid_unicode_utf8_first)], narrowed := true }
def FnOrdersCountSwapUptoSaid : Prop := fnOrdersCountSwapUptoRow.holds Tryd.pinned (OpenSpec.upto fnOrdersCountSwapSpec)

/-- 'laws.FnSwap', WHERE WHAT IT READS IS OF BULK AT MOST 1048576: true; the input reads as it did. -/
def fnSwapUptoRow : OpenClaim := { program := "ytempabacnellaaadoor", sum := "5ecc76f8a497b6ce4b71904effa0c36de4f218a6e589e0ef74744376f1c0fd78", func := "loop.example/filereconciler/laws.FnSwap", spec := "fnSwap", inPlace := ["internal/bytealg.CountString", "internal/bytealg.IndexByteString", "internal/bytealg.IndexString"], unfollowed := true, recurses := true, named := ["unicode/utf8.first", "unicode/utf8.acceptRanges", "internal/bytealg.MaxLen"], apart := false, laid := [("unicode/utf8.acceptRanges", laid_unicode_utf8_acceptRanges), ("unicode/utf8.first", laid_unicode_utf8_first)], narrowed := true }
def FnSwapUptoSaid : Prop := fnSwapUptoRow.holds Tryd.pinned (OpenSpec.upto fnSwapSpec)

/-- 'laws.FnSwapWhen', WHERE WHAT IT READS IS OF BULK AT MOST 1048576: true; the input reads as it did. -/
def fnSwapWhenUptoRow : OpenClaim := { program := "ytempabacnellaaadoor", sum := "5ecc76f8a497b6ce4b71904effa0c36de4f218a6e589e0ef74744376f1c0fd78", func := "loop.example/filereconciler/laws.FnSwapWhen", spec := "fnSwapWhen", inPlace := ["internal/bytealg.CountString", "internal/bytealg.IndexByteString", "internal/bytealg.IndexString"], unfollowed := true, recurses := true, named := ["unicode/utf8.first", "unicode/utf8.acceptRanges", "internal/bytealg.MaxLen"], apart := false, laid := [("unicode/utf8.acceptRanges", laid_unicode_utf8_acceptRanges), ("unicode/utf8.first", laid_unicode_utf8_first)], narrowed := true }
def FnSwapWhenUptoSaid : Prop := fnSwapWhenUptoRow.holds Tryd.pinned (OpenSpec.upto fnSwapWhenSpec)

/-- 'laws.FnClashesTurned', WHERE WHAT IT READS IS OF BULK AT MOST 1048576: true; the input reads as it did. -/
def fnClashesTurnedUptoRow : OpenClaim := { program := "ytempabacnellaaadoor", sum := "5ecc76f8a497b6ce4b71904effa0c36de4f218a6e589e0ef74744376f1c0fd78", func := "loop.example/filereconciler/laws.FnClashesTurned", spec := "fnClashesTurned", inPlace := ["internal/bytealg.CountString", "internal/bytealg.IndexByteString", "internal/bytealg.IndexString"], unfollowed := true, recurses := true, named := ["unicode/utf8.first", "unicode/utf8.acceptRanges", "internal/bytealg.MaxLen"], apart := false, laid := [("unicode/utf8.acceptRanges", laid_unicode_utf8_acceptRanges), ("unicode/utf8.first", laid_unicode_utf8_first)], narrowed := true }
def FnClashesTurnedUptoSaid : Prop := fnClashesTurnedUptoRow.holds Tryd.pinned (OpenSpec.upto fnClashesTurnedSpec)

/-- 'laws.FnClashes', WHERE WHAT IT READS IS OF BULK AT MOST 1048576: true; the input reads as it did. -/
def fnClashesUptoRow : OpenClaim := { program := "ytempabacnellaaadoor", sum := "5ecc76f8a497b6ce4b71904effa0c36de4f218a6e589e0ef74744376f1c0fd78", func := "loop.example/filereconciler/laws.FnClashes", spec := "fnClashes", inPlace := ["internal/bytealg.CountString", "internal/bytealg.IndexByteString", "internal/bytealg.IndexString"], unfollowed := true, recurses := true, named := ["unicode/utf8.first", "unicode/utf8.acceptRanges", "internal/bytealg.MaxLen"], apart := false, laid := [("unicode/utf8.acceptRanges", laid_unicode_utf8_acceptRanges), ("unicode/utf8.first", laid_unicode_utf8_first)], narrowed := true }
def FnClashesUptoSaid : Prop := fnClashesUptoRow.holds Tryd.pinned (OpenSpec.upto fnClashesSpec)

/-- 'laws.FnLeft', WHERE WHAT IT READS IS OF BULK AT MOST 1048576: true; the input reads as it did. -/
def fnLeftUptoRow : OpenClaim := { program := "ytempabacnellaaadoor", sum := "5ecc76f8a497b6ce4b71904effa0c36de4f218a6e589e0ef74744376f1c0fd78", func := "loop.example/filereconciler/laws.FnLeft", spec := "fnLeft", inPlace := ["internal/bytealg.CountString", "internal/bytealg.IndexByteString", "internal/bytealg.IndexString"], unfollowed := true, recurses := true, named := ["unicode/utf8.first", "unicode/utf8.acceptRanges", "internal/bytealg.MaxLen"], apart := false, laid := [("unicode/utf8.acceptRanges", laid_unicode_utf8_acceptRanges), ("unicode/utf8.first", laid_unicode_utf8_first)], narrowed := true }
def FnLeftUptoSaid : Prop := fnLeftUptoRow.holds Tryd.pinned (OpenSpec.upto fnLeftSpec)

/-- 'laws.FnSafeNone', WHERE WHAT IT READS IS OF BULK AT MOST 1048576: true; the input reads as it did. -/
def fnSafeNoneUptoRow : OpenClaim := { program := "ytempabacnellaaadoor", sum := "5ecc76f8a497b6ce4b71904effa0c36de4f218a6e589e0ef74744376f1c0fd78", func := "loop.example/filereconciler/laws.FnSafeNone", spec := "fnSafeNone", inPlace := ["internal/bytealg.CountString", "internal/bytealg.IndexByteString", "internal/bytealg.IndexString"], unfollowed := true, recurses := true, named := ["unicode/utf8.first", "unicode/utf8.acceptRanges", "internal/bytealg.MaxLen"], apart := false, laid := [("unicode/utf8.acceptRanges", laid_unicode_utf8_acceptRanges), ("unicode/utf8.first", laid_unicode_utf8_first)], narrowed := true }
def FnSafeNoneUptoSaid : Prop := fnSafeNoneUptoRow.holds Tryd.pinned (OpenSpec.upto fnSafeNoneSpec)

/-- 'laws.FnAgreed', WHERE WHAT IT READS IS OF BULK AT MOST 1048576: true; the input reads as it did. -/
def fnAgreedUptoRow : OpenClaim := { program := "ytempabacnellaaadoor", sum := "5ecc76f8a497b6ce4b71904effa0c36de4f218a6e589e0ef74744376f1c0fd78", func := "loop.example/filereconciler/laws.FnAgreed", spec := "fnAgreed", inPlace := ["internal/bytealg.CountString", "internal/bytealg.IndexByteString", "internal/bytealg.IndexString"], unfollowed := true, recurses := true, named := ["unicode/utf8.first", "unicode/utf8.acceptRanges", "internal/bytealg.MaxLen"], apart := false, laid := [("unicode/utf8.acceptRanges", laid_unicode_utf8_acceptRanges), ("unicode/utf8.first", laid_unicode_utf8_first)], narrowed := true }
def FnAgreedUptoSaid : Prop := fnAgreedUptoRow.holds Tryd.pinned (OpenSpec.upto fnAgreedSpec)

/-- 'laws.FnSafe', WHERE WHAT IT READS IS OF BULK AT MOST 1048576: true; the input reads as it did. -/
def fnSafeUptoRow : OpenClaim := { program := "ytempabacnellaaadoor", sum := "5ecc76f8a497b6ce4b71904effa0c36de4f218a6e589e0ef74744376f1c0fd78", func := "loop.example/filereconciler/laws.FnSafe", spec := "fnSafe", inPlace := ["internal/bytealg.CountString", "internal/bytealg.IndexByteString", "internal/bytealg.IndexString"], unfollowed := true, recurses := true, named := ["unicode/utf8.first", "unicode/utf8.acceptRanges", "internal/bytealg.MaxLen"], apart := false, laid := [("unicode/utf8.acceptRanges", laid_unicode_utf8_acceptRanges), ("unicode/utf8.first", laid_unicode_utf8_first)], narrowed := true }
def FnSafeUptoSaid : Prop := fnSafeUptoRow.holds Tryd.pinned (OpenSpec.upto fnSafeSpec)

/-- 'laws.FnParts', WHERE WHAT IT READS IS OF BULK AT MOST 1048576: true; the input reads as it did. -/
def fnPartsUptoRow : OpenClaim := { program := "ytempabacnellaaadoor", sum := "5ecc76f8a497b6ce4b71904effa0c36de4f218a6e589e0ef74744376f1c0fd78", func := "loop.example/filereconciler/laws.FnParts", spec := "fnParts", inPlace := ["internal/bytealg.CountString", "internal/bytealg.IndexByteString", "internal/bytealg.IndexString"], unfollowed := true, recurses := true, named := ["unicode/utf8.first", "unicode/utf8.acceptRanges", "internal/bytealg.MaxLen"], apart := false, laid := [("unicode/utf8.acceptRanges", laid_unicode_utf8_acceptRanges), ("unicode/utf8.first", laid_unicode_utf8_first)], narrowed := true }
def FnPartsUptoSaid : Prop := fnPartsUptoRow.holds Tryd.pinned (OpenSpec.upto fnPartsSpec)

end Rows
end Go.Proofs.YtempabacnellaaaDoor
