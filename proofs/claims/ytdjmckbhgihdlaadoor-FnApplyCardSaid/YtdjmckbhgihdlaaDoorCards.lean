/-
  DERIVED. GIVEN WITH THE SEED: THE CARDS: each row of YtdjmckbhgihdlaaDoorRows.lean that lists a variable, with what it lists TIED to the program's text (the seventh form; the later family's looks); each row that meets fmt, with fmt's text TOLD by the authors' own Lean function (tested against real Go, not proved from fmt's source: count such statements apart). THE CARD IS WHAT COUNTS. Prove the row's statement (the work); the ties are given (YtdjmckbhgihdlaaDoorTie.lean); close each card by the builder's one call (the guide's Derived/Test/ToyasCard.lean, 'card_holds'). Laid BY PROGRAM, IN A SANDBOX (cutbox-door.mjs). By AI agents, Wed Nov 11 2026. No macro, syntax, notation, axiom, sorry.
-/
import Derived.Test.YtdjmckbhgihdlaaDoorRows
import GoSem.ClaimSeven
namespace Go.Proofs.YtdjmckbhgihdlaaDoor
namespace Rows

/-- THE TIED CARD OF 'laws.FnTreeChanged'. -/
def fnTreeChangedCard : Claim7 := { stood := { row := fnTreeChangedRow, standIns := [], harness := (true, "4fd472a486c6487cdb1f4755dd9125fe59fdaa87d1a97daf39c88ecca3fda156"), looks := false }, kinds := [], alts := [], laidByText := true, laidKinds := [.data, .pinned], laidTests := true, laidLooks := .later }
def FnTreeChangedCardSaid : Prop := Claim7.holds Tryd.pinned (.plain (OpenSpec.ofChange fnTreeChangedSpec)) fnTreeChangedCard

/-- THE TIED CARD OF 'laws.FnTreePut'. -/
def fnTreePutCard : Claim7 := { stood := { row := fnTreePutRow, standIns := [], harness := (true, "4fd472a486c6487cdb1f4755dd9125fe59fdaa87d1a97daf39c88ecca3fda156"), looks := false }, kinds := [], alts := [], laidByText := true, laidKinds := [.data, .pinned], laidTests := true, laidLooks := .later }
def FnTreePutCardSaid : Prop := Claim7.holds Tryd.pinned (.plain (OpenSpec.ofChange fnTreePutSpec)) fnTreePutCard

/-- THE TIED CARD OF 'laws.FnTreePutBack'. -/
def fnTreePutBackCard : Claim7 := { stood := { row := fnTreePutBackRow, standIns := [], harness := (true, "4fd472a486c6487cdb1f4755dd9125fe59fdaa87d1a97daf39c88ecca3fda156"), looks := false }, kinds := [], alts := [], laidByText := true, laidKinds := [.data, .pinned], laidTests := true, laidLooks := .later }
def FnTreePutBackCardSaid : Prop := Claim7.holds Tryd.pinned (.plain (OpenSpec.ofChange fnTreePutBackSpec)) fnTreePutBackCard

/-- THE TIED CARD OF 'laws.FnTreePutWhen'. -/
def fnTreePutWhenCard : Claim7 := { stood := { row := fnTreePutWhenRow, standIns := [], harness := (true, "4fd472a486c6487cdb1f4755dd9125fe59fdaa87d1a97daf39c88ecca3fda156"), looks := false }, kinds := [], alts := [], laidByText := true, laidKinds := [.data, .pinned], laidTests := true, laidLooks := .later }
def FnTreePutWhenCardSaid : Prop := Claim7.holds Tryd.pinned (.plain (OpenSpec.ofChange fnTreePutWhenSpec)) fnTreePutWhenCard

/-- THE TIED CARD OF 'laws.FnTreeChangedOne'. -/
def fnTreeChangedOneCard : Claim7 := { stood := { row := fnTreeChangedOneRow, standIns := [], harness := (true, "4fd472a486c6487cdb1f4755dd9125fe59fdaa87d1a97daf39c88ecca3fda156"), looks := false }, kinds := [], alts := [], laidByText := true, laidKinds := [.data, .pinned], laidTests := true, laidLooks := .later }
def FnTreeChangedOneCardSaid : Prop := Claim7.holds Tryd.pinned (.plain (OpenSpec.ofChange fnTreeChangedOneSpec)) fnTreeChangedOneCard

/-- THE TIED CARD OF 'laws.FnApplyTwice'. -/
def fnApplyTwiceCard : Claim7 := { stood := { row := fnApplyTwiceRow, standIns := [], harness := (true, "4fd472a486c6487cdb1f4755dd9125fe59fdaa87d1a97daf39c88ecca3fda156"), looks := false }, kinds := [], alts := [], laidByText := true, laidKinds := [.data, .pinned], laidTests := true, laidLooks := .later }
def FnApplyTwiceCardSaid : Prop := Claim7.holds Tryd.pinned (.plain (OpenSpec.ofChange fnApplyTwiceSpec)) fnApplyTwiceCard

/-- THE TIED CARD OF 'laws.FnApplyBreak'. -/
def fnApplyBreakCard : Claim7 := { stood := { row := fnApplyBreakRow, standIns := [], harness := (true, "4fd472a486c6487cdb1f4755dd9125fe59fdaa87d1a97daf39c88ecca3fda156"), looks := false }, kinds := [], alts := [], laidByText := true, laidKinds := [.data, .pinned], laidTests := true, laidLooks := .later }
def FnApplyBreakCardSaid : Prop := Claim7.holds Tryd.pinned (.plain (OpenSpec.ofChange fnApplyBreakSpec)) fnApplyBreakCard

/-- THE TIED CARD OF 'laws.FnUndo'. -/
def fnUndoCard : Claim7 := { stood := { row := fnUndoRow, standIns := [], harness := (true, "4fd472a486c6487cdb1f4755dd9125fe59fdaa87d1a97daf39c88ecca3fda156"), looks := false }, kinds := [], alts := [], laidByText := true, laidKinds := [.data, .pinned], laidTests := true, laidLooks := .later }
def FnUndoCardSaid : Prop := Claim7.holds Tryd.pinned (.plain (OpenSpec.ofChange fnUndoSpec)) fnUndoCard

/-- THE TIED CARD OF 'laws.FnApply'. -/
def fnApplyCard : Claim7 := { stood := { row := fnApplyRow, standIns := [], harness := (true, "4fd472a486c6487cdb1f4755dd9125fe59fdaa87d1a97daf39c88ecca3fda156"), looks := false }, kinds := [], alts := [], laidByText := true, laidKinds := [.data, .pinned], laidTests := true, laidLooks := .later }
def FnApplyCardSaid : Prop := Claim7.holds Tryd.pinned (.plain (OpenSpec.ofChange fnApplySpec)) fnApplyCard

/-- THE TIED CARD OF 'laws.FnLogApply'. -/
def fnLogApplyCard : Claim7 := { stood := { row := fnLogApplyRow, standIns := [], harness := (true, "4fd472a486c6487cdb1f4755dd9125fe59fdaa87d1a97daf39c88ecca3fda156"), looks := false }, kinds := [], alts := [], laidByText := true, laidKinds := [.data, .pinned], laidTests := true, laidLooks := .later }
def FnLogApplyCardSaid : Prop := Claim7.holds Tryd.pinned (.plain (OpenSpec.ofChange fnLogApplySpec)) fnLogApplyCard

/-- THE TIED CARD OF 'laws.FnLogFitsBegin'. -/
def fnLogFitsBeginCard : Claim7 := { stood := { row := fnLogFitsBeginRow, standIns := [], harness := (true, "4fd472a486c6487cdb1f4755dd9125fe59fdaa87d1a97daf39c88ecca3fda156"), looks := false }, kinds := [], alts := [], laidByText := true, laidKinds := [.data, .pinned], laidTests := true, laidLooks := .later }
def FnLogFitsBeginCardSaid : Prop := Claim7.holds Tryd.pinned (.plain (OpenSpec.ofChange fnLogFitsBeginSpec)) fnLogFitsBeginCard

/-- THE TIED CARD OF 'laws.FnLogBreak'. -/
def fnLogBreakCard : Claim7 := { stood := { row := fnLogBreakRow, standIns := [], harness := (true, "4fd472a486c6487cdb1f4755dd9125fe59fdaa87d1a97daf39c88ecca3fda156"), looks := false }, kinds := [], alts := [], laidByText := true, laidKinds := [.data, .pinned], laidTests := true, laidLooks := .later }
def FnLogBreakCardSaid : Prop := Claim7.holds Tryd.pinned (.plain (OpenSpec.ofChange fnLogBreakSpec)) fnLogBreakCard

/-- THE SECOND FORM's CARD OF 'laws.FnTreeChanged'. -/
def fnTreeChangedUptoCard : Claim7 := { stood := { row := fnTreeChangedUptoRow, standIns := [], harness := (true, "4fd472a486c6487cdb1f4755dd9125fe59fdaa87d1a97daf39c88ecca3fda156"), looks := false }, kinds := [], alts := [], laidByText := true, laidKinds := [.data, .pinned], laidTests := true, laidLooks := .later }
def FnTreeChangedUptoCardSaid : Prop := Claim7.holds Tryd.pinned (.plain (OpenSpec.upto fnTreeChangedSpec)) fnTreeChangedUptoCard

/-- THE SECOND FORM's CARD OF 'laws.FnTreePut'. -/
def fnTreePutUptoCard : Claim7 := { stood := { row := fnTreePutUptoRow, standIns := [], harness := (true, "4fd472a486c6487cdb1f4755dd9125fe59fdaa87d1a97daf39c88ecca3fda156"), looks := false }, kinds := [], alts := [], laidByText := true, laidKinds := [.data, .pinned], laidTests := true, laidLooks := .later }
def FnTreePutUptoCardSaid : Prop := Claim7.holds Tryd.pinned (.plain (OpenSpec.upto fnTreePutSpec)) fnTreePutUptoCard

/-- THE SECOND FORM's CARD OF 'laws.FnTreePutBack'. -/
def fnTreePutBackUptoCard : Claim7 := { stood := { row := fnTreePutBackUptoRow, standIns := [], harness := (true, "4fd472a486c6487cdb1f4755dd9125fe59fdaa87d1a97daf39c88ecca3fda156"), looks := false }, kinds := [], alts := [], laidByText := true, laidKinds := [.data, .pinned], laidTests := true, laidLooks := .later }
def FnTreePutBackUptoCardSaid : Prop := Claim7.holds Tryd.pinned (.plain (OpenSpec.upto fnTreePutBackSpec)) fnTreePutBackUptoCard

/-- THE SECOND FORM's CARD OF 'laws.FnTreePutWhen'. -/
def fnTreePutWhenUptoCard : Claim7 := { stood := { row := fnTreePutWhenUptoRow, standIns := [], harness := (true, "4fd472a486c6487cdb1f4755dd9125fe59fdaa87d1a97daf39c88ecca3fda156"), looks := false }, kinds := [], alts := [], laidByText := true, laidKinds := [.data, .pinned], laidTests := true, laidLooks := .later }
def FnTreePutWhenUptoCardSaid : Prop := Claim7.holds Tryd.pinned (.plain (OpenSpec.upto fnTreePutWhenSpec)) fnTreePutWhenUptoCard

/-- THE SECOND FORM's CARD OF 'laws.FnTreeChangedOne'. -/
def fnTreeChangedOneUptoCard : Claim7 := { stood := { row := fnTreeChangedOneUptoRow, standIns := [], harness := (true, "4fd472a486c6487cdb1f4755dd9125fe59fdaa87d1a97daf39c88ecca3fda156"), looks := false }, kinds := [], alts := [], laidByText := true, laidKinds := [.data, .pinned], laidTests := true, laidLooks := .later }
def FnTreeChangedOneUptoCardSaid : Prop := Claim7.holds Tryd.pinned (.plain (OpenSpec.upto fnTreeChangedOneSpec)) fnTreeChangedOneUptoCard

/-- THE SECOND FORM's CARD OF 'laws.FnApplyTwice'. -/
def fnApplyTwiceUptoCard : Claim7 := { stood := { row := fnApplyTwiceUptoRow, standIns := [], harness := (true, "4fd472a486c6487cdb1f4755dd9125fe59fdaa87d1a97daf39c88ecca3fda156"), looks := false }, kinds := [], alts := [], laidByText := true, laidKinds := [.data, .pinned], laidTests := true, laidLooks := .later }
def FnApplyTwiceUptoCardSaid : Prop := Claim7.holds Tryd.pinned (.plain (OpenSpec.upto fnApplyTwiceSpec)) fnApplyTwiceUptoCard

/-- THE SECOND FORM's CARD OF 'laws.FnApplyBreak'. -/
def fnApplyBreakUptoCard : Claim7 := { stood := { row := fnApplyBreakUptoRow, standIns := [], harness := (true, "4fd472a486c6487cdb1f4755dd9125fe59fdaa87d1a97daf39c88ecca3fda156"), looks := false }, kinds := [], alts := [], laidByText := true, laidKinds := [.data, .pinned], laidTests := true, laidLooks := .later }
def FnApplyBreakUptoCardSaid : Prop := Claim7.holds Tryd.pinned (.plain (OpenSpec.upto fnApplyBreakSpec)) fnApplyBreakUptoCard

/-- THE SECOND FORM's CARD OF 'laws.FnUndo'. -/
def fnUndoUptoCard : Claim7 := { stood := { row := fnUndoUptoRow, standIns := [], harness := (true, "4fd472a486c6487cdb1f4755dd9125fe59fdaa87d1a97daf39c88ecca3fda156"), looks := false }, kinds := [], alts := [], laidByText := true, laidKinds := [.data, .pinned], laidTests := true, laidLooks := .later }
def FnUndoUptoCardSaid : Prop := Claim7.holds Tryd.pinned (.plain (OpenSpec.upto fnUndoSpec)) fnUndoUptoCard

/-- THE SECOND FORM's CARD OF 'laws.FnApply'. -/
def fnApplyUptoCard : Claim7 := { stood := { row := fnApplyUptoRow, standIns := [], harness := (true, "4fd472a486c6487cdb1f4755dd9125fe59fdaa87d1a97daf39c88ecca3fda156"), looks := false }, kinds := [], alts := [], laidByText := true, laidKinds := [.data, .pinned], laidTests := true, laidLooks := .later }
def FnApplyUptoCardSaid : Prop := Claim7.holds Tryd.pinned (.plain (OpenSpec.upto fnApplySpec)) fnApplyUptoCard

/-- THE SECOND FORM's CARD OF 'laws.FnLogApply'. -/
def fnLogApplyUptoCard : Claim7 := { stood := { row := fnLogApplyUptoRow, standIns := [], harness := (true, "4fd472a486c6487cdb1f4755dd9125fe59fdaa87d1a97daf39c88ecca3fda156"), looks := false }, kinds := [], alts := [], laidByText := true, laidKinds := [.data, .pinned], laidTests := true, laidLooks := .later }
def FnLogApplyUptoCardSaid : Prop := Claim7.holds Tryd.pinned (.plain (OpenSpec.upto fnLogApplySpec)) fnLogApplyUptoCard

/-- THE SECOND FORM's CARD OF 'laws.FnLogFitsBegin'. -/
def fnLogFitsBeginUptoCard : Claim7 := { stood := { row := fnLogFitsBeginUptoRow, standIns := [], harness := (true, "4fd472a486c6487cdb1f4755dd9125fe59fdaa87d1a97daf39c88ecca3fda156"), looks := false }, kinds := [], alts := [], laidByText := true, laidKinds := [.data, .pinned], laidTests := true, laidLooks := .later }
def FnLogFitsBeginUptoCardSaid : Prop := Claim7.holds Tryd.pinned (.plain (OpenSpec.upto fnLogFitsBeginSpec)) fnLogFitsBeginUptoCard

/-- THE SECOND FORM's CARD OF 'laws.FnLogBreak'. -/
def fnLogBreakUptoCard : Claim7 := { stood := { row := fnLogBreakUptoRow, standIns := [], harness := (true, "4fd472a486c6487cdb1f4755dd9125fe59fdaa87d1a97daf39c88ecca3fda156"), looks := false }, kinds := [], alts := [], laidByText := true, laidKinds := [.data, .pinned], laidTests := true, laidLooks := .later }
def FnLogBreakUptoCardSaid : Prop := Claim7.holds Tryd.pinned (.plain (OpenSpec.upto fnLogBreakSpec)) fnLogBreakUptoCard
end Rows
end Go.Proofs.YtdjmckbhgihdlaaDoor
