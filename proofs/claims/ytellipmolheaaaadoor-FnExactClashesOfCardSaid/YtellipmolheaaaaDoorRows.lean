/-
  NARROWER THAN 'FOR EVERY INPUT', by the rows' own cells (each row's printed sentence says how): FnCanonOnce: laid · FnCanonJoin: laid · FnExactLeftOf: laid · FnExactClashesOf: laid · FnExactAgreedOf: laid · FnExactSafeOf: laid · FnCommandText: laid · FnCommandParse: laid · FnCanonDiffTurned: laid.
  DERIVED. THE GIVEN ROWS OF THIS SEAT. 9 by the template 'for every input the law returns true; each argument reads behind the call as it read before'; 0 by the template 'total and deterministic' (their statements: YtellipmolheaaaaDoorTotals.lean).
  GIVEN WITH THE SEED: the statements are not yours to turn. If you find one false, say at which input.
  Laid BY PROGRAM, IN A SANDBOX (cutbox-rows.mjs): the forced cells as the released guide's own fill.sh prints them over the translation 3546ac64361386d9… (all of the seat's roots in one cut). By AI agents, Wed Nov 11 2026. No macro, syntax, notation, axiom, sorry.
-/
import Derived.Test.YtellipmolheaaaaDoorChecked
import GoSem.PinnedTables
import GoSem.Claim
import GoSem.ClaimJoined
import GoSem.ClaimMapViews
import Derived.JoinedTies
import Derived.KernelRfl
namespace Go.Proofs.YtellipmolheaaaaDoor
/- THE CELL 'sum', in the pinned program and in every row, IS THE sha256 OF THE DUMP (.gsa) THAT YtellipmolheaaaaDoorProg.lean LOADS. Nothing in Lean hashes anything: it is a label: what it is worth is what the hold of that sum in a sandbox is worth. -/
noncomputable def Tryd.pinned : Pinned := { name := "ytellipmolheaaaadoor", sum := "3546ac64361386d92a61b6754eb9871932b6f5d172ca16770e371983a24bfadd", checked := Tryd.checked }
namespace Rows
def none {H : Type} : Left H := { results := [], args := [] }

/- WHAT THE LISTED PACKAGE-LEVEL VARIABLES READ AS WHEN THE CALL BEGINS. Each datum BY PROGRAM (the guide's laid-datum.mjs) off the statement by which the dump's own 'gosem.cut.vars' lays the variable. In a bare row this is a premise. The card (YtellipmolheaaaaDoorCards.lean) ties it to the program's text. -/
def laid_unicode_utf8_acceptRanges {H : Type} : DataW H := .agg [.agg [.lit (.int .u8 128), .lit (.int .u8 191)], .agg [.lit (.int .u8 160), .lit (.int .u8 191)], .agg [.lit (.int .u8 128), .lit (.int .u8 159)], .agg [.lit (.int .u8 144), .lit (.int .u8 191)], .agg [.lit (.int .u8 128), .lit (.int .u8 143)], .agg [.lit (.int .u8 0), .lit (.int .u8 0)], .agg [.lit (.int .u8 0), .lit (.int .u8 0)], .agg [.lit (.int .u8 0), .lit (.int .u8 0)], .agg [.lit (.int .u8 0), .lit (.int .u8 0)], .agg [.lit (.int .u8 0), .lit (.int .u8 0)], .agg [.lit (.int .u8 0), .lit (.int .u8 0)], .agg [.lit (.int .u8 0), .lit (.int .u8 0)], .agg [.lit (.int .u8 0), .lit (.int .u8 0)], .agg [.lit (.int .u8 0), .lit (.int .u8 0)], .agg [.lit (.int .u8 0), .lit (.int .u8 0)], .agg [.lit (.int .u8 0), .lit (.int .u8 0)]]
/-- One of Go's own tables, pinned by name: the form's constant. -/
def laid_unicode_utf8_first : DataW Unit := Go.Pinned.utf8First
def laid_math_bits_deBruijn32tab {H : Type} : DataW H := .agg [.lit (.int .u8 0), .lit (.int .u8 1), .lit (.int .u8 28), .lit (.int .u8 2), .lit (.int .u8 29), .lit (.int .u8 14), .lit (.int .u8 24), .lit (.int .u8 3), .lit (.int .u8 30), .lit (.int .u8 22), .lit (.int .u8 20), .lit (.int .u8 15), .lit (.int .u8 25), .lit (.int .u8 17), .lit (.int .u8 4), .lit (.int .u8 8), .lit (.int .u8 31), .lit (.int .u8 27), .lit (.int .u8 13), .lit (.int .u8 23), .lit (.int .u8 21), .lit (.int .u8 19), .lit (.int .u8 16), .lit (.int .u8 7), .lit (.int .u8 26), .lit (.int .u8 12), .lit (.int .u8 18), .lit (.int .u8 6), .lit (.int .u8 11), .lit (.int .u8 5), .lit (.int .u8 10), .lit (.int .u8 9)]
def laid_math_bits_deBruijn64tab {H : Type} : DataW H := .agg [.lit (.int .u8 0), .lit (.int .u8 1), .lit (.int .u8 56), .lit (.int .u8 2), .lit (.int .u8 57), .lit (.int .u8 49), .lit (.int .u8 28), .lit (.int .u8 3), .lit (.int .u8 61), .lit (.int .u8 58), .lit (.int .u8 42), .lit (.int .u8 50), .lit (.int .u8 38), .lit (.int .u8 29), .lit (.int .u8 17), .lit (.int .u8 4), .lit (.int .u8 62), .lit (.int .u8 47), .lit (.int .u8 59), .lit (.int .u8 36), .lit (.int .u8 45), .lit (.int .u8 43), .lit (.int .u8 51), .lit (.int .u8 22), .lit (.int .u8 53), .lit (.int .u8 39), .lit (.int .u8 33), .lit (.int .u8 30), .lit (.int .u8 24), .lit (.int .u8 18), .lit (.int .u8 12), .lit (.int .u8 5), .lit (.int .u8 63), .lit (.int .u8 55), .lit (.int .u8 48), .lit (.int .u8 27), .lit (.int .u8 60), .lit (.int .u8 41), .lit (.int .u8 37), .lit (.int .u8 16), .lit (.int .u8 46), .lit (.int .u8 35), .lit (.int .u8 44), .lit (.int .u8 21), .lit (.int .u8 52), .lit (.int .u8 32), .lit (.int .u8 23), .lit (.int .u8 11), .lit (.int .u8 54), .lit (.int .u8 26), .lit (.int .u8 40), .lit (.int .u8 15), .lit (.int .u8 34), .lit (.int .u8 20), .lit (.int .u8 31), .lit (.int .u8 10), .lit (.int .u8 25), .lit (.int .u8 14), .lit (.int .u8 19), .lit (.int .u8 9), .lit (.int .u8 13), .lit (.int .u8 8), .lit (.int .u8 7), .lit (.int .u8 6)]
def laid_internal_strconv_uint64pow10 {H : Type} : DataW H := .agg [.lit (.int .u64 1), .lit (.int .u64 10), .lit (.int .u64 100), .lit (.int .u64 1000), .lit (.int .u64 10000), .lit (.int .u64 100000), .lit (.int .u64 1000000), .lit (.int .u64 10000000), .lit (.int .u64 100000000), .lit (.int .u64 1000000000), .lit (.int .u64 10000000000), .lit (.int .u64 100000000000), .lit (.int .u64 1000000000000), .lit (.int .u64 10000000000000), .lit (.int .u64 100000000000000), .lit (.int .u64 1000000000000000), .lit (.int .u64 10000000000000000), .lit (.int .u64 100000000000000000), .lit (.int .u64 1000000000000000000), .lit (.int .u64 10000000000000000000)]

/-- 'laws.FnCanonOnce': WHATEVER THE INPUT: true; the input reads as it did. -/
def fnCanonOnceSpec : ChangeSpec := { name := "fnCanonOnce", fn := fun _ => fun
  | [d] => { results := [.lit (.bool true)], args := [d] }
  | _ => none }
def fnCanonOnceRow : OpenClaim := { program := "ytellipmolheaaaadoor", sum := "3546ac64361386d92a61b6754eb9871932b6f5d172ca16770e371983a24bfadd", func := "loop.example/filereconciler/laws.FnCanonOnce", spec := "fnCanonOnce", inPlace := ["internal/bytealg.CountString", "internal/bytealg.IndexByteString", "internal/bytealg.IndexString"], unfollowed := true, recurses := true, named := ["unicode/utf8.first", "unicode/utf8.acceptRanges", "internal/bytealg.MaxLen"], apart := false, laid := [("unicode/utf8.acceptRanges", laid_unicode_utf8_acceptRanges), ("unicode/utf8.first", laid_unicode_utf8_first)] }
def FnCanonOnceSaid : Prop := fnCanonOnceRow.holds Tryd.pinned (OpenSpec.ofChange fnCanonOnceSpec)

/-- ITS FALSE NEIGHBOUR: 'it returns false'. Refute it at one input. -/
def fnCanonOnceWrong : ChangeSpec := { name := "fnCanonOnce", fn := fun _ => fun
  | [d] => { results := [.lit (.bool false)], args := [d] }
  | _ => none }
def FnCanonOnceWrongFalsely : Prop := fnCanonOnceRow.holds Tryd.pinned (OpenSpec.ofChange fnCanonOnceWrong)

/-- 'laws.FnCanonJoin': WHATEVER THE INPUT: true; the input reads as it did. -/
def fnCanonJoinSpec : ChangeSpec := { name := "fnCanonJoin", fn := fun _ => fun
  | [d] => { results := [.lit (.bool true)], args := [d] }
  | _ => none }
def fnCanonJoinRow : OpenClaim := { program := "ytellipmolheaaaadoor", sum := "3546ac64361386d92a61b6754eb9871932b6f5d172ca16770e371983a24bfadd", func := "loop.example/filereconciler/laws.FnCanonJoin", spec := "fnCanonJoin", inPlace := ["internal/bytealg.CountString", "internal/bytealg.IndexByteString", "internal/bytealg.IndexString"], unfollowed := true, recurses := true, named := ["unicode/utf8.first", "unicode/utf8.acceptRanges", "internal/bytealg.MaxLen"], apart := false, laid := [("unicode/utf8.acceptRanges", laid_unicode_utf8_acceptRanges), ("unicode/utf8.first", laid_unicode_utf8_first)] }
def FnCanonJoinSaid : Prop := fnCanonJoinRow.holds Tryd.pinned (OpenSpec.ofChange fnCanonJoinSpec)

/-- ITS FALSE NEIGHBOUR: 'it returns false'. Refute it at one input. -/
def fnCanonJoinWrong : ChangeSpec := { name := "fnCanonJoin", fn := fun _ => fun
  | [d] => { results := [.lit (.bool false)], args := [d] }
  | _ => none }
def FnCanonJoinWrongFalsely : Prop := fnCanonJoinRow.holds Tryd.pinned (OpenSpec.ofChange fnCanonJoinWrong)

/-- 'laws.FnExactLeftOf': WHATEVER THE INPUT: true; the input reads as it did. -/
def fnExactLeftOfSpec : ChangeSpec := { name := "fnExactLeftOf", fn := fun _ => fun
  | [d1, d2] => { results := [.lit (.bool true)], args := [d1, d2] }
  | _ => none }
def fnExactLeftOfRow : OpenClaim := { program := "ytellipmolheaaaadoor", sum := "3546ac64361386d92a61b6754eb9871932b6f5d172ca16770e371983a24bfadd", func := "loop.example/filereconciler/laws.FnExactLeftOf", spec := "fnExactLeftOf", inPlace := ["internal/bytealg.CountString", "internal/bytealg.IndexByteString", "internal/bytealg.IndexString"], unfollowed := true, recurses := true, named := ["unicode/utf8.first", "unicode/utf8.acceptRanges", "internal/bytealg.MaxLen"], apart := false, laid := [("unicode/utf8.acceptRanges", laid_unicode_utf8_acceptRanges), ("unicode/utf8.first", laid_unicode_utf8_first)] }
def FnExactLeftOfSaid : Prop := fnExactLeftOfRow.holds Tryd.pinned (OpenSpec.ofChange fnExactLeftOfSpec)

/-- ITS FALSE NEIGHBOUR: 'it returns false'. Refute it at one input. -/
def fnExactLeftOfWrong : ChangeSpec := { name := "fnExactLeftOf", fn := fun _ => fun
  | [d1, d2] => { results := [.lit (.bool false)], args := [d1, d2] }
  | _ => none }
def FnExactLeftOfWrongFalsely : Prop := fnExactLeftOfRow.holds Tryd.pinned (OpenSpec.ofChange fnExactLeftOfWrong)

/-- 'laws.FnExactClashesOf': WHATEVER THE INPUT: true; the input reads as it did. -/
def fnExactClashesOfSpec : ChangeSpec := { name := "fnExactClashesOf", fn := fun _ => fun
  | [d1, d2] => { results := [.lit (.bool true)], args := [d1, d2] }
  | _ => none }
def fnExactClashesOfRow : OpenClaim := { program := "ytellipmolheaaaadoor", sum := "3546ac64361386d92a61b6754eb9871932b6f5d172ca16770e371983a24bfadd", func := "loop.example/filereconciler/laws.FnExactClashesOf", spec := "fnExactClashesOf", inPlace := ["internal/bytealg.CountString", "internal/bytealg.IndexByteString", "internal/bytealg.IndexString"], unfollowed := true, recurses := true, named := ["unicode/utf8.first", "unicode/utf8.acceptRanges", "internal/bytealg.MaxLen"], apart := false, laid := [("unicode/utf8.acceptRanges", laid_unicode_utf8_acceptRanges), ("unicode/utf8.first", laid_unicode_utf8_first)] }
def FnExactClashesOfSaid : Prop := fnExactClashesOfRow.holds Tryd.pinned (OpenSpec.ofChange fnExactClashesOfSpec)

/-- ITS FALSE NEIGHBOUR: 'it returns false'. Refute it at one input. -/
def fnExactClashesOfWrong : ChangeSpec := { name := "fnExactClashesOf", fn := fun _ => fun
  | [d1, d2] => { results := [.lit (.bool false)], args := [d1, d2] }
  | _ => none }
def FnExactClashesOfWrongFalsely : Prop := fnExactClashesOfRow.holds Tryd.pinned (OpenSpec.ofChange fnExactClashesOfWrong)

/-- 'laws.FnExactAgreedOf': WHATEVER THE INPUT: true; the input reads as it did. -/
def fnExactAgreedOfSpec : ChangeSpec := { name := "fnExactAgreedOf", fn := fun _ => fun
  | [d1, d2] => { results := [.lit (.bool true)], args := [d1, d2] }
  | _ => none }
def fnExactAgreedOfRow : OpenClaim := { program := "ytellipmolheaaaadoor", sum := "3546ac64361386d92a61b6754eb9871932b6f5d172ca16770e371983a24bfadd", func := "loop.example/filereconciler/laws.FnExactAgreedOf", spec := "fnExactAgreedOf", inPlace := ["internal/bytealg.CountString", "internal/bytealg.IndexByteString", "internal/bytealg.IndexString"], unfollowed := true, recurses := true, named := ["unicode/utf8.first", "unicode/utf8.acceptRanges", "internal/bytealg.MaxLen"], apart := false, laid := [("unicode/utf8.acceptRanges", laid_unicode_utf8_acceptRanges), ("unicode/utf8.first", laid_unicode_utf8_first)] }
def FnExactAgreedOfSaid : Prop := fnExactAgreedOfRow.holds Tryd.pinned (OpenSpec.ofChange fnExactAgreedOfSpec)

/-- ITS FALSE NEIGHBOUR: 'it returns false'. Refute it at one input. -/
def fnExactAgreedOfWrong : ChangeSpec := { name := "fnExactAgreedOf", fn := fun _ => fun
  | [d1, d2] => { results := [.lit (.bool false)], args := [d1, d2] }
  | _ => none }
def FnExactAgreedOfWrongFalsely : Prop := fnExactAgreedOfRow.holds Tryd.pinned (OpenSpec.ofChange fnExactAgreedOfWrong)

/-- 'laws.FnExactSafeOf': WHATEVER THE INPUT: true; the input reads as it did. -/
def fnExactSafeOfSpec : ChangeSpec := { name := "fnExactSafeOf", fn := fun _ => fun
  | [d1, d2] => { results := [.lit (.bool true)], args := [d1, d2] }
  | _ => none }
def fnExactSafeOfRow : OpenClaim := { program := "ytellipmolheaaaadoor", sum := "3546ac64361386d92a61b6754eb9871932b6f5d172ca16770e371983a24bfadd", func := "loop.example/filereconciler/laws.FnExactSafeOf", spec := "fnExactSafeOf", inPlace := ["internal/bytealg.CountString", "internal/bytealg.IndexByteString", "internal/bytealg.IndexString"], unfollowed := true, recurses := true, named := ["unicode/utf8.first", "unicode/utf8.acceptRanges", "internal/bytealg.MaxLen"], apart := false, laid := [("unicode/utf8.acceptRanges", laid_unicode_utf8_acceptRanges), ("unicode/utf8.first", laid_unicode_utf8_first)] }
def FnExactSafeOfSaid : Prop := fnExactSafeOfRow.holds Tryd.pinned (OpenSpec.ofChange fnExactSafeOfSpec)

/-- ITS FALSE NEIGHBOUR: 'it returns false'. Refute it at one input. -/
def fnExactSafeOfWrong : ChangeSpec := { name := "fnExactSafeOf", fn := fun _ => fun
  | [d1, d2] => { results := [.lit (.bool false)], args := [d1, d2] }
  | _ => none }
def FnExactSafeOfWrongFalsely : Prop := fnExactSafeOfRow.holds Tryd.pinned (OpenSpec.ofChange fnExactSafeOfWrong)

/-- 'laws.FnCommandText': WHATEVER THE INPUT: true; the input reads as it did. -/
def fnCommandTextSpec : ChangeSpec := { name := "fnCommandText", fn := fun _ => fun
  | [d] => { results := [.lit (.bool true)], args := [d] }
  | _ => none }
def fnCommandTextRow : OpenClaim := { program := "ytellipmolheaaaadoor", sum := "3546ac64361386d92a61b6754eb9871932b6f5d172ca16770e371983a24bfadd", func := "loop.example/filereconciler/laws.FnCommandText", spec := "fnCommandText", inPlace := ["internal/bytealg.CountString", "internal/bytealg.IndexByteString", "internal/bytealg.IndexString"], recurses := true, named := ["unicode/utf8.first", "unicode/utf8.acceptRanges", "internal/bytealg.MaxLen", "internal/strconv.uint64pow10", "math/bits.deBruijn32tab", "math/bits.deBruijn64tab"], apart := false, laid := [("math/bits.deBruijn32tab", laid_math_bits_deBruijn32tab), ("math/bits.deBruijn64tab", laid_math_bits_deBruijn64tab), ("internal/strconv.uint64pow10", laid_internal_strconv_uint64pow10), ("unicode/utf8.acceptRanges", laid_unicode_utf8_acceptRanges), ("unicode/utf8.first", laid_unicode_utf8_first)] }
def FnCommandTextSaid : Prop := fnCommandTextRow.holds Tryd.pinned (OpenSpec.ofChange fnCommandTextSpec)

/-- ITS FALSE NEIGHBOUR: 'it returns false'. Refute it at one input. -/
def fnCommandTextWrong : ChangeSpec := { name := "fnCommandText", fn := fun _ => fun
  | [d] => { results := [.lit (.bool false)], args := [d] }
  | _ => none }
def FnCommandTextWrongFalsely : Prop := fnCommandTextRow.holds Tryd.pinned (OpenSpec.ofChange fnCommandTextWrong)

/-- 'laws.FnCommandParse': WHATEVER THE INPUT: true; the input reads as it did. -/
def fnCommandParseSpec : ChangeSpec := { name := "fnCommandParse", fn := fun _ => fun
  | [d] => { results := [.lit (.bool true)], args := [d] }
  | _ => none }
def fnCommandParseRow : OpenClaim := { program := "ytellipmolheaaaadoor", sum := "3546ac64361386d92a61b6754eb9871932b6f5d172ca16770e371983a24bfadd", func := "loop.example/filereconciler/laws.FnCommandParse", spec := "fnCommandParse", inPlace := ["internal/bytealg.CountString", "internal/bytealg.IndexByteString", "internal/bytealg.IndexString"], recurses := true, named := ["unicode/utf8.first", "unicode/utf8.acceptRanges", "internal/bytealg.MaxLen", "internal/strconv.uint64pow10", "math/bits.deBruijn32tab", "math/bits.deBruijn64tab"], apart := false, laid := [("math/bits.deBruijn32tab", laid_math_bits_deBruijn32tab), ("math/bits.deBruijn64tab", laid_math_bits_deBruijn64tab), ("internal/strconv.uint64pow10", laid_internal_strconv_uint64pow10), ("unicode/utf8.acceptRanges", laid_unicode_utf8_acceptRanges), ("unicode/utf8.first", laid_unicode_utf8_first)] }
def FnCommandParseSaid : Prop := fnCommandParseRow.holds Tryd.pinned (OpenSpec.ofChange fnCommandParseSpec)

/-- ITS FALSE NEIGHBOUR: 'it returns false'. Refute it at one input. -/
def fnCommandParseWrong : ChangeSpec := { name := "fnCommandParse", fn := fun _ => fun
  | [d] => { results := [.lit (.bool false)], args := [d] }
  | _ => none }
def FnCommandParseWrongFalsely : Prop := fnCommandParseRow.holds Tryd.pinned (OpenSpec.ofChange fnCommandParseWrong)

/-- 'laws.FnCanonDiffTurned': WHATEVER THE INPUT: true; the input reads as it did. -/
def fnCanonDiffTurnedSpec : ChangeSpec := { name := "fnCanonDiffTurned", fn := fun _ => fun
  | [d] => { results := [.lit (.bool true)], args := [d] }
  | _ => none }
def fnCanonDiffTurnedRow : OpenClaim := { program := "ytellipmolheaaaadoor", sum := "3546ac64361386d92a61b6754eb9871932b6f5d172ca16770e371983a24bfadd", func := "loop.example/filereconciler/laws.FnCanonDiffTurned", spec := "fnCanonDiffTurned", inPlace := ["internal/bytealg.CountString", "internal/bytealg.IndexByteString", "internal/bytealg.IndexString"], unfollowed := true, recurses := true, named := ["unicode/utf8.first", "unicode/utf8.acceptRanges", "internal/bytealg.MaxLen"], apart := false, laid := [("unicode/utf8.acceptRanges", laid_unicode_utf8_acceptRanges), ("unicode/utf8.first", laid_unicode_utf8_first)] }
def FnCanonDiffTurnedSaid : Prop := fnCanonDiffTurnedRow.holds Tryd.pinned (OpenSpec.ofChange fnCanonDiffTurnedSpec)

/-- ITS FALSE NEIGHBOUR: 'it returns false'. Refute it at one input. -/
def fnCanonDiffTurnedWrong : ChangeSpec := { name := "fnCanonDiffTurned", fn := fun _ => fun
  | [d] => { results := [.lit (.bool false)], args := [d] }
  | _ => none }
def FnCanonDiffTurnedWrongFalsely : Prop := fnCanonDiffTurnedRow.holds Tryd.pinned (OpenSpec.ofChange fnCanonDiffTurnedWrong)

/- THE SECOND FORM. 'bulk': how many values and letters a reading holds, each counted each time it is reached (what is shared counts as often as it is met; a slice's spare places count too). A statement '..UptoSaid' is the law's where the arguments, and the package variables that the reading takes, are together of bulk at most 1048576: NARROWER than '..Said'. Prove '..Said' where nothing that the law and all that it calls make is longer than what came in: it says more and counts as full. Else prove '..UptoSaid'. A law counts once. -/
mutual
def uptoBulk {H : Type} : DataW H → Nat
  | .lit (.string bytes) => bytes.length + 1
  | .lit _ => 1
  | .nil => 1
  | .ptr d => uptoBulk d + 1
  | .slice elems spare => uptoBulkAll elems + uptoBulkAll spare + 1
  | .agg parts => uptoBulkAll parts + 1
  | .iface _ d => uptoBulk d + 1
  | .map entries => uptoBulkEntries entries + 1
  | .held _ => 1
def uptoBulkAll {H : Type} : List (DataW H) → Nat
  | [] => 0
  | d :: r => uptoBulk d + uptoBulkAll r
def uptoBulkEntries {H : Type} : List (Lit × DataW H) → Nat
  | [] => 0
  | x :: r => uptoBulkEntry x + uptoBulkEntries r
def uptoBulkEntry {H : Type} : Lit × DataW H → Nat
  | (.string bytes, d) => bytes.length + uptoBulk d + 1
  | (_, d) => uptoBulk d + 1
 end
def uptoSmall : (H : Type) → List (DataW H) → Bool := fun _ ds => decide (uptoBulkAll ds ≤ 1048576)
def OpenSpec.upto (s : _root_.Go.ChangeSpec) : _root_.Go.OpenSpec := { _root_.Go.OpenSpec.ofChange s with cond := some uptoSmall }

/-- 'laws.FnCanonOnce', WHERE WHAT IT READS IS OF BULK AT MOST 1048576: true; the input reads as it did. -/
def fnCanonOnceUptoRow : OpenClaim := { program := "ytellipmolheaaaadoor", sum := "3546ac64361386d92a61b6754eb9871932b6f5d172ca16770e371983a24bfadd", func := "loop.example/filereconciler/laws.FnCanonOnce", spec := "fnCanonOnce", inPlace := ["internal/bytealg.CountString", "internal/bytealg.IndexByteString", "internal/bytealg.IndexString"], unfollowed := true, recurses := true, named := ["unicode/utf8.first", "unicode/utf8.acceptRanges", "internal/bytealg.MaxLen"], apart := false, laid := [("unicode/utf8.acceptRanges", laid_unicode_utf8_acceptRanges), ("unicode/utf8.first", laid_unicode_utf8_first)], narrowed := true }
def FnCanonOnceUptoSaid : Prop := fnCanonOnceUptoRow.holds Tryd.pinned (OpenSpec.upto fnCanonOnceSpec)

/-- 'laws.FnCanonJoin', WHERE WHAT IT READS IS OF BULK AT MOST 1048576: true; the input reads as it did. -/
def fnCanonJoinUptoRow : OpenClaim := { program := "ytellipmolheaaaadoor", sum := "3546ac64361386d92a61b6754eb9871932b6f5d172ca16770e371983a24bfadd", func := "loop.example/filereconciler/laws.FnCanonJoin", spec := "fnCanonJoin", inPlace := ["internal/bytealg.CountString", "internal/bytealg.IndexByteString", "internal/bytealg.IndexString"], unfollowed := true, recurses := true, named := ["unicode/utf8.first", "unicode/utf8.acceptRanges", "internal/bytealg.MaxLen"], apart := false, laid := [("unicode/utf8.acceptRanges", laid_unicode_utf8_acceptRanges), ("unicode/utf8.first", laid_unicode_utf8_first)], narrowed := true }
def FnCanonJoinUptoSaid : Prop := fnCanonJoinUptoRow.holds Tryd.pinned (OpenSpec.upto fnCanonJoinSpec)

/-- 'laws.FnExactLeftOf', WHERE WHAT IT READS IS OF BULK AT MOST 1048576: true; the input reads as it did. -/
def fnExactLeftOfUptoRow : OpenClaim := { program := "ytellipmolheaaaadoor", sum := "3546ac64361386d92a61b6754eb9871932b6f5d172ca16770e371983a24bfadd", func := "loop.example/filereconciler/laws.FnExactLeftOf", spec := "fnExactLeftOf", inPlace := ["internal/bytealg.CountString", "internal/bytealg.IndexByteString", "internal/bytealg.IndexString"], unfollowed := true, recurses := true, named := ["unicode/utf8.first", "unicode/utf8.acceptRanges", "internal/bytealg.MaxLen"], apart := false, laid := [("unicode/utf8.acceptRanges", laid_unicode_utf8_acceptRanges), ("unicode/utf8.first", laid_unicode_utf8_first)], narrowed := true }
def FnExactLeftOfUptoSaid : Prop := fnExactLeftOfUptoRow.holds Tryd.pinned (OpenSpec.upto fnExactLeftOfSpec)

/-- 'laws.FnExactClashesOf', WHERE WHAT IT READS IS OF BULK AT MOST 1048576: true; the input reads as it did. -/
def fnExactClashesOfUptoRow : OpenClaim := { program := "ytellipmolheaaaadoor", sum := "3546ac64361386d92a61b6754eb9871932b6f5d172ca16770e371983a24bfadd", func := "loop.example/filereconciler/laws.FnExactClashesOf", spec := "fnExactClashesOf", inPlace := ["internal/bytealg.CountString", "internal/bytealg.IndexByteString", "internal/bytealg.IndexString"], unfollowed := true, recurses := true, named := ["unicode/utf8.first", "unicode/utf8.acceptRanges", "internal/bytealg.MaxLen"], apart := false, laid := [("unicode/utf8.acceptRanges", laid_unicode_utf8_acceptRanges), ("unicode/utf8.first", laid_unicode_utf8_first)], narrowed := true }
def FnExactClashesOfUptoSaid : Prop := fnExactClashesOfUptoRow.holds Tryd.pinned (OpenSpec.upto fnExactClashesOfSpec)

/-- 'laws.FnExactAgreedOf', WHERE WHAT IT READS IS OF BULK AT MOST 1048576: true; the input reads as it did. -/
def fnExactAgreedOfUptoRow : OpenClaim := { program := "ytellipmolheaaaadoor", sum := "3546ac64361386d92a61b6754eb9871932b6f5d172ca16770e371983a24bfadd", func := "loop.example/filereconciler/laws.FnExactAgreedOf", spec := "fnExactAgreedOf", inPlace := ["internal/bytealg.CountString", "internal/bytealg.IndexByteString", "internal/bytealg.IndexString"], unfollowed := true, recurses := true, named := ["unicode/utf8.first", "unicode/utf8.acceptRanges", "internal/bytealg.MaxLen"], apart := false, laid := [("unicode/utf8.acceptRanges", laid_unicode_utf8_acceptRanges), ("unicode/utf8.first", laid_unicode_utf8_first)], narrowed := true }
def FnExactAgreedOfUptoSaid : Prop := fnExactAgreedOfUptoRow.holds Tryd.pinned (OpenSpec.upto fnExactAgreedOfSpec)

/-- 'laws.FnExactSafeOf', WHERE WHAT IT READS IS OF BULK AT MOST 1048576: true; the input reads as it did. -/
def fnExactSafeOfUptoRow : OpenClaim := { program := "ytellipmolheaaaadoor", sum := "3546ac64361386d92a61b6754eb9871932b6f5d172ca16770e371983a24bfadd", func := "loop.example/filereconciler/laws.FnExactSafeOf", spec := "fnExactSafeOf", inPlace := ["internal/bytealg.CountString", "internal/bytealg.IndexByteString", "internal/bytealg.IndexString"], unfollowed := true, recurses := true, named := ["unicode/utf8.first", "unicode/utf8.acceptRanges", "internal/bytealg.MaxLen"], apart := false, laid := [("unicode/utf8.acceptRanges", laid_unicode_utf8_acceptRanges), ("unicode/utf8.first", laid_unicode_utf8_first)], narrowed := true }
def FnExactSafeOfUptoSaid : Prop := fnExactSafeOfUptoRow.holds Tryd.pinned (OpenSpec.upto fnExactSafeOfSpec)

/-- 'laws.FnCommandText', WHERE WHAT IT READS IS OF BULK AT MOST 1048576: true; the input reads as it did. -/
def fnCommandTextUptoRow : OpenClaim := { program := "ytellipmolheaaaadoor", sum := "3546ac64361386d92a61b6754eb9871932b6f5d172ca16770e371983a24bfadd", func := "loop.example/filereconciler/laws.FnCommandText", spec := "fnCommandText", inPlace := ["internal/bytealg.CountString", "internal/bytealg.IndexByteString", "internal/bytealg.IndexString"], recurses := true, named := ["unicode/utf8.first", "unicode/utf8.acceptRanges", "internal/bytealg.MaxLen", "internal/strconv.uint64pow10", "math/bits.deBruijn32tab", "math/bits.deBruijn64tab"], apart := false, laid := [("math/bits.deBruijn32tab", laid_math_bits_deBruijn32tab), ("math/bits.deBruijn64tab", laid_math_bits_deBruijn64tab), ("internal/strconv.uint64pow10", laid_internal_strconv_uint64pow10), ("unicode/utf8.acceptRanges", laid_unicode_utf8_acceptRanges), ("unicode/utf8.first", laid_unicode_utf8_first)], narrowed := true }
def FnCommandTextUptoSaid : Prop := fnCommandTextUptoRow.holds Tryd.pinned (OpenSpec.upto fnCommandTextSpec)

/-- 'laws.FnCommandParse', WHERE WHAT IT READS IS OF BULK AT MOST 1048576: true; the input reads as it did. -/
def fnCommandParseUptoRow : OpenClaim := { program := "ytellipmolheaaaadoor", sum := "3546ac64361386d92a61b6754eb9871932b6f5d172ca16770e371983a24bfadd", func := "loop.example/filereconciler/laws.FnCommandParse", spec := "fnCommandParse", inPlace := ["internal/bytealg.CountString", "internal/bytealg.IndexByteString", "internal/bytealg.IndexString"], recurses := true, named := ["unicode/utf8.first", "unicode/utf8.acceptRanges", "internal/bytealg.MaxLen", "internal/strconv.uint64pow10", "math/bits.deBruijn32tab", "math/bits.deBruijn64tab"], apart := false, laid := [("math/bits.deBruijn32tab", laid_math_bits_deBruijn32tab), ("math/bits.deBruijn64tab", laid_math_bits_deBruijn64tab), ("internal/strconv.uint64pow10", laid_internal_strconv_uint64pow10), ("unicode/utf8.acceptRanges", laid_unicode_utf8_acceptRanges), ("unicode/utf8.first", laid_unicode_utf8_first)], narrowed := true }
def FnCommandParseUptoSaid : Prop := fnCommandParseUptoRow.holds Tryd.pinned (OpenSpec.upto fnCommandParseSpec)

/-- 'laws.FnCanonDiffTurned', WHERE WHAT IT READS IS OF BULK AT MOST 1048576: true; the input reads as it did. -/
def fnCanonDiffTurnedUptoRow : OpenClaim := { program := "ytellipmolheaaaadoor", sum := "3546ac64361386d92a61b6754eb9871932b6f5d172ca16770e371983a24bfadd", func := "loop.example/filereconciler/laws.FnCanonDiffTurned", spec := "fnCanonDiffTurned", inPlace := ["internal/bytealg.CountString", "internal/bytealg.IndexByteString", "internal/bytealg.IndexString"], unfollowed := true, recurses := true, named := ["unicode/utf8.first", "unicode/utf8.acceptRanges", "internal/bytealg.MaxLen"], apart := false, laid := [("unicode/utf8.acceptRanges", laid_unicode_utf8_acceptRanges), ("unicode/utf8.first", laid_unicode_utf8_first)], narrowed := true }
def FnCanonDiffTurnedUptoSaid : Prop := fnCanonDiffTurnedUptoRow.holds Tryd.pinned (OpenSpec.upto fnCanonDiffTurnedSpec)

end Rows
end Go.Proofs.YtellipmolheaaaaDoor
