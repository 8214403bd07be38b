/-
  DERIVED. GIVEN WITH THE SEED: THE CARDS: each row of YtbkhnnohogcbjaaDoorRows.lean that lists a variable, with what it lists TIED to the program's text (the seventh form; the later family's looks); each row that meets fmt, with fmt's text TOLD by the authors' own Lean function (tested against real Go, not proved from fmt's source: count such statements apart). THE CARD IS WHAT COUNTS. Prove the row's statement (the work); the ties are given (YtbkhnnohogcbjaaDoorTie.lean); close each card by the builder's one call (the guide's Derived/Test/ToyasCard.lean, 'card_holds'). Laid BY PROGRAM, IN A SANDBOX (cutbox-door.mjs). By AI agents, Wed Nov 11 2026. No macro, syntax, notation, axiom, sorry.
-/
import Derived.Test.YtbkhnnohogcbjaaDoorRows
import GoSem.ClaimSeven
namespace Go.Proofs.YtbkhnnohogcbjaaDoor
namespace Rows

/-- THE TIED CARD OF 'laws.FnTreeTwice'. -/
def fnTreeTwiceCard : Claim7 := { stood := { row := fnTreeTwiceRow, standIns := [], harness := (true, "f7e503abdc057c906c18c1e95c9c3e8d2e05d5aacbe941e706001b8287aff66b"), looks := false }, kinds := [], alts := [], laidByText := true, laidKinds := [.data, .pinned], laidTests := true, laidLooks := .later }
def FnTreeTwiceCardSaid : Prop := Claim7.holds Tryd.pinned (.plain (OpenSpec.ofChange fnTreeTwiceSpec)) fnTreeTwiceCard

/-- THE TIED CARD OF 'laws.FnTreeGet'. -/
def fnTreeGetCard : Claim7 := { stood := { row := fnTreeGetRow, standIns := [], harness := (true, "f7e503abdc057c906c18c1e95c9c3e8d2e05d5aacbe941e706001b8287aff66b"), looks := false }, kinds := [], alts := [], laidByText := true, laidKinds := [.data, .pinned], laidTests := true, laidLooks := .later }
def FnTreeGetCardSaid : Prop := Claim7.holds Tryd.pinned (.plain (OpenSpec.ofChange fnTreeGetSpec)) fnTreeGetCard

/-- THE TIED CARD OF 'laws.FnTreeParent'. -/
def fnTreeParentCard : Claim7 := { stood := { row := fnTreeParentRow, standIns := [], harness := (true, "f7e503abdc057c906c18c1e95c9c3e8d2e05d5aacbe941e706001b8287aff66b"), looks := false }, kinds := [], alts := [], laidByText := true, laidKinds := [.data, .pinned], laidTests := true, laidLooks := .later }
def FnTreeParentCardSaid : Prop := Claim7.holds Tryd.pinned (.plain (OpenSpec.ofChange fnTreeParentSpec)) fnTreeParentCard

/-- THE TIED CARD OF 'laws.FnMust'. -/
def fnMustCard : Claim7 := { stood := { row := fnMustRow, standIns := [], harness := (true, "f7e503abdc057c906c18c1e95c9c3e8d2e05d5aacbe941e706001b8287aff66b"), looks := false }, kinds := [], alts := [], laidByText := true, laidKinds := [.data, .pinned], laidTests := true, laidLooks := .later }
def FnMustCardSaid : Prop := Claim7.holds Tryd.pinned (.plain (OpenSpec.ofChange fnMustSpec)) fnMustCard

/-- THE TIED CARD OF 'laws.FnMustWhen'. -/
def fnMustWhenCard : Claim7 := { stood := { row := fnMustWhenRow, standIns := [], harness := (true, "f7e503abdc057c906c18c1e95c9c3e8d2e05d5aacbe941e706001b8287aff66b"), looks := false }, kinds := [], alts := [], laidByText := true, laidKinds := [.data, .pinned], laidTests := true, laidLooks := .later }
def FnMustWhenCardSaid : Prop := Claim7.holds Tryd.pinned (.plain (OpenSpec.ofChange fnMustWhenSpec)) fnMustWhenCard

/-- THE TIED CARD OF 'laws.FnLogPart'. -/
def fnLogPartCard : Claim7 := { stood := { row := fnLogPartRow, standIns := [], harness := (true, "f7e503abdc057c906c18c1e95c9c3e8d2e05d5aacbe941e706001b8287aff66b"), looks := false }, kinds := [], alts := [], laidByText := true, laidKinds := [.data, .pinned], laidTests := true, laidLooks := .later }
def FnLogPartCardSaid : Prop := Claim7.holds Tryd.pinned (.plain (OpenSpec.ofChange fnLogPartSpec)) fnLogPartCard

/-- THE TIED CARD OF 'laws.FnMustUndo'. -/
def fnMustUndoCard : Claim7 := { stood := { row := fnMustUndoRow, standIns := [], harness := (true, "f7e503abdc057c906c18c1e95c9c3e8d2e05d5aacbe941e706001b8287aff66b"), looks := false }, kinds := [], alts := [], laidByText := true, laidKinds := [.data, .pinned], laidTests := true, laidLooks := .later }
def FnMustUndoCardSaid : Prop := Claim7.holds Tryd.pinned (.plain (OpenSpec.ofChange fnMustUndoSpec)) fnMustUndoCard

/-- THE TIED CARD OF 'laws.FnTreeSums'. -/
def fnTreeSumsCard : Claim7 := { stood := { row := fnTreeSumsRow, standIns := [], harness := (true, "f7e503abdc057c906c18c1e95c9c3e8d2e05d5aacbe941e706001b8287aff66b"), looks := false }, kinds := [], alts := [], laidByText := true, laidKinds := [.data, .pinned], laidTests := true, laidLooks := .later }
def FnTreeSumsCardSaid : Prop := Claim7.holds Tryd.pinned (.plain (OpenSpec.ofChange fnTreeSumsSpec)) fnTreeSumsCard

/-- THE TIED CARD OF 'laws.FnTreeUnder'. -/
def fnTreeUnderCard : Claim7 := { stood := { row := fnTreeUnderRow, standIns := [], harness := (true, "f7e503abdc057c906c18c1e95c9c3e8d2e05d5aacbe941e706001b8287aff66b"), looks := false }, kinds := [], alts := [], laidByText := true, laidKinds := [.data, .pinned], laidTests := true, laidLooks := .later }
def FnTreeUnderCardSaid : Prop := Claim7.holds Tryd.pinned (.plain (OpenSpec.ofChange fnTreeUnderSpec)) fnTreeUnderCard

/-- THE TIED CARD OF 'laws.FnTreeUnderFile'. -/
def fnTreeUnderFileCard : Claim7 := { stood := { row := fnTreeUnderFileRow, standIns := [], harness := (true, "f7e503abdc057c906c18c1e95c9c3e8d2e05d5aacbe941e706001b8287aff66b"), looks := false }, kinds := [], alts := [], laidByText := true, laidKinds := [.data, .pinned], laidTests := true, laidLooks := .later }
def FnTreeUnderFileCardSaid : Prop := Claim7.holds Tryd.pinned (.plain (OpenSpec.ofChange fnTreeUnderFileSpec)) fnTreeUnderFileCard

/-- THE TIED CARD OF 'laws.FnLogUndoTwice'. -/
def fnLogUndoTwiceCard : Claim7 := { stood := { row := fnLogUndoTwiceRow, standIns := [], harness := (true, "f7e503abdc057c906c18c1e95c9c3e8d2e05d5aacbe941e706001b8287aff66b"), looks := false }, kinds := [], alts := [], laidByText := true, laidKinds := [.data, .pinned], laidTests := true, laidLooks := .later }
def FnLogUndoTwiceCardSaid : Prop := Claim7.holds Tryd.pinned (.plain (OpenSpec.ofChange fnLogUndoTwiceSpec)) fnLogUndoTwiceCard

/-- THE TIED CARD OF 'laws.FnRemoveCount'. -/
def fnRemoveCountCard : Claim7 := { stood := { row := fnRemoveCountRow, standIns := [], harness := (true, "f7e503abdc057c906c18c1e95c9c3e8d2e05d5aacbe941e706001b8287aff66b"), looks := false }, kinds := [], alts := [], laidByText := true, laidKinds := [.data, .pinned], laidTests := true, laidLooks := .later }
def FnRemoveCountCardSaid : Prop := Claim7.holds Tryd.pinned (.plain (OpenSpec.ofChange fnRemoveCountSpec)) fnRemoveCountCard

/-- THE SECOND FORM's CARD OF 'laws.FnTreeTwice'. -/
def fnTreeTwiceUptoCard : Claim7 := { stood := { row := fnTreeTwiceUptoRow, standIns := [], harness := (true, "f7e503abdc057c906c18c1e95c9c3e8d2e05d5aacbe941e706001b8287aff66b"), looks := false }, kinds := [], alts := [], laidByText := true, laidKinds := [.data, .pinned], laidTests := true, laidLooks := .later }
def FnTreeTwiceUptoCardSaid : Prop := Claim7.holds Tryd.pinned (.plain (OpenSpec.upto fnTreeTwiceSpec)) fnTreeTwiceUptoCard

/-- THE SECOND FORM's CARD OF 'laws.FnTreeGet'. -/
def fnTreeGetUptoCard : Claim7 := { stood := { row := fnTreeGetUptoRow, standIns := [], harness := (true, "f7e503abdc057c906c18c1e95c9c3e8d2e05d5aacbe941e706001b8287aff66b"), looks := false }, kinds := [], alts := [], laidByText := true, laidKinds := [.data, .pinned], laidTests := true, laidLooks := .later }
def FnTreeGetUptoCardSaid : Prop := Claim7.holds Tryd.pinned (.plain (OpenSpec.upto fnTreeGetSpec)) fnTreeGetUptoCard

/-- THE SECOND FORM's CARD OF 'laws.FnTreeParent'. -/
def fnTreeParentUptoCard : Claim7 := { stood := { row := fnTreeParentUptoRow, standIns := [], harness := (true, "f7e503abdc057c906c18c1e95c9c3e8d2e05d5aacbe941e706001b8287aff66b"), looks := false }, kinds := [], alts := [], laidByText := true, laidKinds := [.data, .pinned], laidTests := true, laidLooks := .later }
def FnTreeParentUptoCardSaid : Prop := Claim7.holds Tryd.pinned (.plain (OpenSpec.upto fnTreeParentSpec)) fnTreeParentUptoCard

/-- THE SECOND FORM's CARD OF 'laws.FnMust'. -/
def fnMustUptoCard : Claim7 := { stood := { row := fnMustUptoRow, standIns := [], harness := (true, "f7e503abdc057c906c18c1e95c9c3e8d2e05d5aacbe941e706001b8287aff66b"), looks := false }, kinds := [], alts := [], laidByText := true, laidKinds := [.data, .pinned], laidTests := true, laidLooks := .later }
def FnMustUptoCardSaid : Prop := Claim7.holds Tryd.pinned (.plain (OpenSpec.upto fnMustSpec)) fnMustUptoCard

/-- THE SECOND FORM's CARD OF 'laws.FnMustWhen'. -/
def fnMustWhenUptoCard : Claim7 := { stood := { row := fnMustWhenUptoRow, standIns := [], harness := (true, "f7e503abdc057c906c18c1e95c9c3e8d2e05d5aacbe941e706001b8287aff66b"), looks := false }, kinds := [], alts := [], laidByText := true, laidKinds := [.data, .pinned], laidTests := true, laidLooks := .later }
def FnMustWhenUptoCardSaid : Prop := Claim7.holds Tryd.pinned (.plain (OpenSpec.upto fnMustWhenSpec)) fnMustWhenUptoCard

/-- THE SECOND FORM's CARD OF 'laws.FnLogPart'. -/
def fnLogPartUptoCard : Claim7 := { stood := { row := fnLogPartUptoRow, standIns := [], harness := (true, "f7e503abdc057c906c18c1e95c9c3e8d2e05d5aacbe941e706001b8287aff66b"), looks := false }, kinds := [], alts := [], laidByText := true, laidKinds := [.data, .pinned], laidTests := true, laidLooks := .later }
def FnLogPartUptoCardSaid : Prop := Claim7.holds Tryd.pinned (.plain (OpenSpec.upto fnLogPartSpec)) fnLogPartUptoCard

/-- THE SECOND FORM's CARD OF 'laws.FnMustUndo'. -/
def fnMustUndoUptoCard : Claim7 := { stood := { row := fnMustUndoUptoRow, standIns := [], harness := (true, "f7e503abdc057c906c18c1e95c9c3e8d2e05d5aacbe941e706001b8287aff66b"), looks := false }, kinds := [], alts := [], laidByText := true, laidKinds := [.data, .pinned], laidTests := true, laidLooks := .later }
def FnMustUndoUptoCardSaid : Prop := Claim7.holds Tryd.pinned (.plain (OpenSpec.upto fnMustUndoSpec)) fnMustUndoUptoCard

/-- THE SECOND FORM's CARD OF 'laws.FnTreeSums'. -/
def fnTreeSumsUptoCard : Claim7 := { stood := { row := fnTreeSumsUptoRow, standIns := [], harness := (true, "f7e503abdc057c906c18c1e95c9c3e8d2e05d5aacbe941e706001b8287aff66b"), looks := false }, kinds := [], alts := [], laidByText := true, laidKinds := [.data, .pinned], laidTests := true, laidLooks := .later }
def FnTreeSumsUptoCardSaid : Prop := Claim7.holds Tryd.pinned (.plain (OpenSpec.upto fnTreeSumsSpec)) fnTreeSumsUptoCard

/-- THE SECOND FORM's CARD OF 'laws.FnTreeUnder'. -/
def fnTreeUnderUptoCard : Claim7 := { stood := { row := fnTreeUnderUptoRow, standIns := [], harness := (true, "f7e503abdc057c906c18c1e95c9c3e8d2e05d5aacbe941e706001b8287aff66b"), looks := false }, kinds := [], alts := [], laidByText := true, laidKinds := [.data, .pinned], laidTests := true, laidLooks := .later }
def FnTreeUnderUptoCardSaid : Prop := Claim7.holds Tryd.pinned (.plain (OpenSpec.upto fnTreeUnderSpec)) fnTreeUnderUptoCard

/-- THE SECOND FORM's CARD OF 'laws.FnTreeUnderFile'. -/
def fnTreeUnderFileUptoCard : Claim7 := { stood := { row := fnTreeUnderFileUptoRow, standIns := [], harness := (true, "f7e503abdc057c906c18c1e95c9c3e8d2e05d5aacbe941e706001b8287aff66b"), looks := false }, kinds := [], alts := [], laidByText := true, laidKinds := [.data, .pinned], laidTests := true, laidLooks := .later }
def FnTreeUnderFileUptoCardSaid : Prop := Claim7.holds Tryd.pinned (.plain (OpenSpec.upto fnTreeUnderFileSpec)) fnTreeUnderFileUptoCard

/-- THE SECOND FORM's CARD OF 'laws.FnLogUndoTwice'. -/
def fnLogUndoTwiceUptoCard : Claim7 := { stood := { row := fnLogUndoTwiceUptoRow, standIns := [], harness := (true, "f7e503abdc057c906c18c1e95c9c3e8d2e05d5aacbe941e706001b8287aff66b"), looks := false }, kinds := [], alts := [], laidByText := true, laidKinds := [.data, .pinned], laidTests := true, laidLooks := .later }
def FnLogUndoTwiceUptoCardSaid : Prop := Claim7.holds Tryd.pinned (.plain (OpenSpec.upto fnLogUndoTwiceSpec)) fnLogUndoTwiceUptoCard

/-- THE SECOND FORM's CARD OF 'laws.FnRemoveCount'. -/
def fnRemoveCountUptoCard : Claim7 := { stood := { row := fnRemoveCountUptoRow, standIns := [], harness := (true, "f7e503abdc057c906c18c1e95c9c3e8d2e05d5aacbe941e706001b8287aff66b"), looks := false }, kinds := [], alts := [], laidByText := true, laidKinds := [.data, .pinned], laidTests := true, laidLooks := .later }
def FnRemoveCountUptoCardSaid : Prop := Claim7.holds Tryd.pinned (.plain (OpenSpec.upto fnRemoveCountSpec)) fnRemoveCountUptoCard
end Rows
end Go.Proofs.YtbkhnnohogcbjaaDoor
