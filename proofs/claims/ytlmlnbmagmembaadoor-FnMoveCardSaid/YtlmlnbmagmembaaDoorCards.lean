/-
  DERIVED. GIVEN WITH THE SEED: THE CARDS: each row of YtlmlnbmagmembaaDoorRows.lean that lists a variable, with what it lists TIED to the program's text (the seventh form; the later family's looks); each row that meets fmt, with fmt's text TOLD by the authors' own Lean function (tested against real Go, not proved from fmt's source: count such statements apart). THE CARD IS WHAT COUNTS. Prove the row's statement (the work); the ties are given (YtlmlnbmagmembaaDoorTie.lean); close each card by the builder's one call (the guide's Derived/Test/ToyasCard.lean, 'card_holds'). Laid BY PROGRAM, IN A SANDBOX (cutbox-door.mjs). By AI agents, Wed Nov 11 2026. No macro, syntax, notation, axiom, sorry.
-/
import Derived.Test.YtlmlnbmagmembaaDoorRows
import GoSem.ClaimSeven
namespace Go.Proofs.YtlmlnbmagmembaaDoor
namespace Rows

/-- THE TIED CARD OF 'laws.FnTreeSums'. -/
def fnTreeSumsCard : Claim7 := { stood := { row := fnTreeSumsRow, standIns := [], harness := (true, "fbf7eb9ae48bcf86f7af51954e70aae9c7818370746b87df3294604587e7007f"), looks := false }, kinds := [], alts := [], laidByText := true, laidKinds := [.data, .pinned], laidTests := true, laidLooks := .later }
def FnTreeSumsCardSaid : Prop := Claim7.holds Tryd.pinned (.plain (OpenSpec.ofChange fnTreeSumsSpec)) fnTreeSumsCard

/-- THE TIED CARD OF 'laws.FnLogUndoTwice'. -/
def fnLogUndoTwiceCard : Claim7 := { stood := { row := fnLogUndoTwiceRow, standIns := [], harness := (true, "fbf7eb9ae48bcf86f7af51954e70aae9c7818370746b87df3294604587e7007f"), looks := false }, kinds := [], alts := [], laidByText := true, laidKinds := [.data, .pinned], laidTests := true, laidLooks := .later }
def FnLogUndoTwiceCardSaid : Prop := Claim7.holds Tryd.pinned (.plain (OpenSpec.ofChange fnLogUndoTwiceSpec)) fnLogUndoTwiceCard

/-- THE TIED CARD OF 'laws.FnRemoveCount'. -/
def fnRemoveCountCard : Claim7 := { stood := { row := fnRemoveCountRow, standIns := [], harness := (true, "fbf7eb9ae48bcf86f7af51954e70aae9c7818370746b87df3294604587e7007f"), looks := false }, kinds := [], alts := [], laidByText := true, laidKinds := [.data, .pinned], laidTests := true, laidLooks := .later }
def FnRemoveCountCardSaid : Prop := Claim7.holds Tryd.pinned (.plain (OpenSpec.ofChange fnRemoveCountSpec)) fnRemoveCountCard

/-- THE TIED CARD OF 'laws.FnTreeChangedNone'. -/
def fnTreeChangedNoneCard : Claim7 := { stood := { row := fnTreeChangedNoneRow, standIns := [], harness := (true, "fbf7eb9ae48bcf86f7af51954e70aae9c7818370746b87df3294604587e7007f"), looks := false }, kinds := [], alts := [], laidByText := true, laidKinds := [.data, .pinned], laidTests := true, laidLooks := .later }
def FnTreeChangedNoneCardSaid : Prop := Claim7.holds Tryd.pinned (.plain (OpenSpec.ofChange fnTreeChangedNoneSpec)) fnTreeChangedNoneCard

/-- THE TIED CARD OF 'laws.FnOrdersCount'. -/
def fnOrdersCountCard : Claim7 := { stood := { row := fnOrdersCountRow, standIns := [], harness := (true, "fbf7eb9ae48bcf86f7af51954e70aae9c7818370746b87df3294604587e7007f"), looks := false }, kinds := [], alts := [], laidByText := true, laidKinds := [.data, .pinned], laidTests := true, laidLooks := .later }
def FnOrdersCountCardSaid : Prop := Claim7.holds Tryd.pinned (.plain (OpenSpec.ofChange fnOrdersCountSpec)) fnOrdersCountCard

/-- THE TIED CARD OF 'laws.FnTreeSumFile'. -/
def fnTreeSumFileCard : Claim7 := { stood := { row := fnTreeSumFileRow, standIns := [], harness := (true, "fbf7eb9ae48bcf86f7af51954e70aae9c7818370746b87df3294604587e7007f"), looks := false }, kinds := [], alts := [], laidByText := true, laidKinds := [.data, .pinned], laidTests := true, laidLooks := .later }
def FnTreeSumFileCardSaid : Prop := Claim7.holds Tryd.pinned (.plain (OpenSpec.ofChange fnTreeSumFileSpec)) fnTreeSumFileCard

/-- THE TIED CARD OF 'laws.FnTreeSum'. -/
def fnTreeSumCard : Claim7 := { stood := { row := fnTreeSumRow, standIns := [], harness := (true, "fbf7eb9ae48bcf86f7af51954e70aae9c7818370746b87df3294604587e7007f"), looks := false }, kinds := [], alts := [], laidByText := true, laidKinds := [.data, .pinned], laidTests := true, laidLooks := .later }
def FnTreeSumCardSaid : Prop := Claim7.holds Tryd.pinned (.plain (OpenSpec.ofChange fnTreeSumSpec)) fnTreeSumCard

/-- THE TIED CARD OF 'laws.FnRemove'. -/
def fnRemoveCard : Claim7 := { stood := { row := fnRemoveRow, standIns := [], harness := (true, "fbf7eb9ae48bcf86f7af51954e70aae9c7818370746b87df3294604587e7007f"), looks := false }, kinds := [], alts := [], laidByText := true, laidKinds := [.data, .pinned], laidTests := true, laidLooks := .later }
def FnRemoveCardSaid : Prop := Claim7.holds Tryd.pinned (.plain (OpenSpec.ofChange fnRemoveSpec)) fnRemoveCard

/-- THE TIED CARD OF 'laws.FnCopySum'. -/
def fnCopySumCard : Claim7 := { stood := { row := fnCopySumRow, standIns := [], harness := (true, "fbf7eb9ae48bcf86f7af51954e70aae9c7818370746b87df3294604587e7007f"), looks := false }, kinds := [], alts := [], laidByText := true, laidKinds := [.data, .pinned], laidTests := true, laidLooks := .later }
def FnCopySumCardSaid : Prop := Claim7.holds Tryd.pinned (.plain (OpenSpec.ofChange fnCopySumSpec)) fnCopySumCard

/-- THE TIED CARD OF 'laws.FnLogUndo'. -/
def fnLogUndoCard : Claim7 := { stood := { row := fnLogUndoRow, standIns := [], harness := (true, "fbf7eb9ae48bcf86f7af51954e70aae9c7818370746b87df3294604587e7007f"), looks := false }, kinds := [], alts := [], laidByText := true, laidKinds := [.data, .pinned], laidTests := true, laidLooks := .later }
def FnLogUndoCardSaid : Prop := Claim7.holds Tryd.pinned (.plain (OpenSpec.ofChange fnLogUndoSpec)) fnLogUndoCard

/-- THE TIED CARD OF 'laws.FnMoveBack'. -/
def fnMoveBackCard : Claim7 := { stood := { row := fnMoveBackRow, standIns := [], harness := (true, "fbf7eb9ae48bcf86f7af51954e70aae9c7818370746b87df3294604587e7007f"), looks := false }, kinds := [], alts := [], laidByText := true, laidKinds := [.data, .pinned], laidTests := true, laidLooks := .later }
def FnMoveBackCardSaid : Prop := Claim7.holds Tryd.pinned (.plain (OpenSpec.ofChange fnMoveBackSpec)) fnMoveBackCard

/-- THE TIED CARD OF 'laws.FnMove'. -/
def fnMoveCard : Claim7 := { stood := { row := fnMoveRow, standIns := [], harness := (true, "fbf7eb9ae48bcf86f7af51954e70aae9c7818370746b87df3294604587e7007f"), looks := false }, kinds := [], alts := [], laidByText := true, laidKinds := [.data, .pinned], laidTests := true, laidLooks := .later }
def FnMoveCardSaid : Prop := Claim7.holds Tryd.pinned (.plain (OpenSpec.ofChange fnMoveSpec)) fnMoveCard

/-- THE SECOND FORM's CARD OF 'laws.FnTreeSums'. -/
def fnTreeSumsUptoCard : Claim7 := { stood := { row := fnTreeSumsUptoRow, standIns := [], harness := (true, "fbf7eb9ae48bcf86f7af51954e70aae9c7818370746b87df3294604587e7007f"), looks := false }, kinds := [], alts := [], laidByText := true, laidKinds := [.data, .pinned], laidTests := true, laidLooks := .later }
def FnTreeSumsUptoCardSaid : Prop := Claim7.holds Tryd.pinned (.plain (OpenSpec.upto fnTreeSumsSpec)) fnTreeSumsUptoCard

/-- THE SECOND FORM's CARD OF 'laws.FnLogUndoTwice'. -/
def fnLogUndoTwiceUptoCard : Claim7 := { stood := { row := fnLogUndoTwiceUptoRow, standIns := [], harness := (true, "fbf7eb9ae48bcf86f7af51954e70aae9c7818370746b87df3294604587e7007f"), looks := false }, kinds := [], alts := [], laidByText := true, laidKinds := [.data, .pinned], laidTests := true, laidLooks := .later }
def FnLogUndoTwiceUptoCardSaid : Prop := Claim7.holds Tryd.pinned (.plain (OpenSpec.upto fnLogUndoTwiceSpec)) fnLogUndoTwiceUptoCard

/-- THE SECOND FORM's CARD OF 'laws.FnRemoveCount'. -/
def fnRemoveCountUptoCard : Claim7 := { stood := { row := fnRemoveCountUptoRow, standIns := [], harness := (true, "fbf7eb9ae48bcf86f7af51954e70aae9c7818370746b87df3294604587e7007f"), looks := false }, kinds := [], alts := [], laidByText := true, laidKinds := [.data, .pinned], laidTests := true, laidLooks := .later }
def FnRemoveCountUptoCardSaid : Prop := Claim7.holds Tryd.pinned (.plain (OpenSpec.upto fnRemoveCountSpec)) fnRemoveCountUptoCard

/-- THE SECOND FORM's CARD OF 'laws.FnTreeChangedNone'. -/
def fnTreeChangedNoneUptoCard : Claim7 := { stood := { row := fnTreeChangedNoneUptoRow, standIns := [], harness := (true, "fbf7eb9ae48bcf86f7af51954e70aae9c7818370746b87df3294604587e7007f"), looks := false }, kinds := [], alts := [], laidByText := true, laidKinds := [.data, .pinned], laidTests := true, laidLooks := .later }
def FnTreeChangedNoneUptoCardSaid : Prop := Claim7.holds Tryd.pinned (.plain (OpenSpec.upto fnTreeChangedNoneSpec)) fnTreeChangedNoneUptoCard

/-- THE SECOND FORM's CARD OF 'laws.FnOrdersCount'. -/
def fnOrdersCountUptoCard : Claim7 := { stood := { row := fnOrdersCountUptoRow, standIns := [], harness := (true, "fbf7eb9ae48bcf86f7af51954e70aae9c7818370746b87df3294604587e7007f"), looks := false }, kinds := [], alts := [], laidByText := true, laidKinds := [.data, .pinned], laidTests := true, laidLooks := .later }
def FnOrdersCountUptoCardSaid : Prop := Claim7.holds Tryd.pinned (.plain (OpenSpec.upto fnOrdersCountSpec)) fnOrdersCountUptoCard

/-- THE SECOND FORM's CARD OF 'laws.FnTreeSumFile'. -/
def fnTreeSumFileUptoCard : Claim7 := { stood := { row := fnTreeSumFileUptoRow, standIns := [], harness := (true, "fbf7eb9ae48bcf86f7af51954e70aae9c7818370746b87df3294604587e7007f"), looks := false }, kinds := [], alts := [], laidByText := true, laidKinds := [.data, .pinned], laidTests := true, laidLooks := .later }
def FnTreeSumFileUptoCardSaid : Prop := Claim7.holds Tryd.pinned (.plain (OpenSpec.upto fnTreeSumFileSpec)) fnTreeSumFileUptoCard

/-- THE SECOND FORM's CARD OF 'laws.FnTreeSum'. -/
def fnTreeSumUptoCard : Claim7 := { stood := { row := fnTreeSumUptoRow, standIns := [], harness := (true, "fbf7eb9ae48bcf86f7af51954e70aae9c7818370746b87df3294604587e7007f"), looks := false }, kinds := [], alts := [], laidByText := true, laidKinds := [.data, .pinned], laidTests := true, laidLooks := .later }
def FnTreeSumUptoCardSaid : Prop := Claim7.holds Tryd.pinned (.plain (OpenSpec.upto fnTreeSumSpec)) fnTreeSumUptoCard

/-- THE SECOND FORM's CARD OF 'laws.FnRemove'. -/
def fnRemoveUptoCard : Claim7 := { stood := { row := fnRemoveUptoRow, standIns := [], harness := (true, "fbf7eb9ae48bcf86f7af51954e70aae9c7818370746b87df3294604587e7007f"), looks := false }, kinds := [], alts := [], laidByText := true, laidKinds := [.data, .pinned], laidTests := true, laidLooks := .later }
def FnRemoveUptoCardSaid : Prop := Claim7.holds Tryd.pinned (.plain (OpenSpec.upto fnRemoveSpec)) fnRemoveUptoCard

/-- THE SECOND FORM's CARD OF 'laws.FnCopySum'. -/
def fnCopySumUptoCard : Claim7 := { stood := { row := fnCopySumUptoRow, standIns := [], harness := (true, "fbf7eb9ae48bcf86f7af51954e70aae9c7818370746b87df3294604587e7007f"), looks := false }, kinds := [], alts := [], laidByText := true, laidKinds := [.data, .pinned], laidTests := true, laidLooks := .later }
def FnCopySumUptoCardSaid : Prop := Claim7.holds Tryd.pinned (.plain (OpenSpec.upto fnCopySumSpec)) fnCopySumUptoCard

/-- THE SECOND FORM's CARD OF 'laws.FnLogUndo'. -/
def fnLogUndoUptoCard : Claim7 := { stood := { row := fnLogUndoUptoRow, standIns := [], harness := (true, "fbf7eb9ae48bcf86f7af51954e70aae9c7818370746b87df3294604587e7007f"), looks := false }, kinds := [], alts := [], laidByText := true, laidKinds := [.data, .pinned], laidTests := true, laidLooks := .later }
def FnLogUndoUptoCardSaid : Prop := Claim7.holds Tryd.pinned (.plain (OpenSpec.upto fnLogUndoSpec)) fnLogUndoUptoCard

/-- THE SECOND FORM's CARD OF 'laws.FnMoveBack'. -/
def fnMoveBackUptoCard : Claim7 := { stood := { row := fnMoveBackUptoRow, standIns := [], harness := (true, "fbf7eb9ae48bcf86f7af51954e70aae9c7818370746b87df3294604587e7007f"), looks := false }, kinds := [], alts := [], laidByText := true, laidKinds := [.data, .pinned], laidTests := true, laidLooks := .later }
def FnMoveBackUptoCardSaid : Prop := Claim7.holds Tryd.pinned (.plain (OpenSpec.upto fnMoveBackSpec)) fnMoveBackUptoCard

/-- THE SECOND FORM's CARD OF 'laws.FnMove'. -/
def fnMoveUptoCard : Claim7 := { stood := { row := fnMoveUptoRow, standIns := [], harness := (true, "fbf7eb9ae48bcf86f7af51954e70aae9c7818370746b87df3294604587e7007f"), looks := false }, kinds := [], alts := [], laidByText := true, laidKinds := [.data, .pinned], laidTests := true, laidLooks := .later }
def FnMoveUptoCardSaid : Prop := Claim7.holds Tryd.pinned (.plain (OpenSpec.upto fnMoveSpec)) fnMoveUptoCard
end Rows
end Go.Proofs.YtlmlnbmagmembaaDoor
