/-
  DERIVED. GIVEN WITH THE SEED: THE CARDS: each row of YtpgikcjcoaaamaaDoorRows.lean that lists a variable, with what it lists TIED to the program's text (the seventh form; the later family's looks); each row that meets fmt, with fmt's text TOLD by the authors' own Lean function (tested against real Go, not proved from fmt's source: count such statements apart). THE CARD IS WHAT COUNTS. Prove the row's statement (the work); the ties are given (YtpgikcjcoaaamaaDoorTie.lean); close each card by the builder's one call (the guide's Derived/Test/ToyasCard.lean, 'card_holds'). Laid BY PROGRAM, IN A SANDBOX (cutbox-door.mjs). By AI agents, Wed Nov 11 2026. No macro, syntax, notation, axiom, sorry.
-/
import Derived.Test.YtpgikcjcoaaamaaDoorRows
import GoSem.ClaimSeven
namespace Go.Proofs.YtpgikcjcoaaamaaDoor
namespace Rows

/-- THE TIED CARD OF 'laws.FnUndoTwice'. -/
def fnUndoTwiceCard : Claim7 := { stood := { row := fnUndoTwiceRow, standIns := [], harness := (true, "7e684c6501904551aadfcc66d00f7a9633b6a8cfb3f03c5cba2321e54b7db7ab"), looks := false }, kinds := [], alts := [], laidByText := true, laidKinds := [.data, .pinned], laidTests := true, laidLooks := .later }
def FnUndoTwiceCardSaid : Prop := Claim7.holds Tryd.pinned (.plain (OpenSpec.ofChange fnUndoTwiceSpec)) fnUndoTwiceCard

/-- THE TIED CARD OF 'laws.FnTreePart'. -/
def fnTreePartCard : Claim7 := { stood := { row := fnTreePartRow, standIns := [], harness := (true, "7e684c6501904551aadfcc66d00f7a9633b6a8cfb3f03c5cba2321e54b7db7ab"), looks := false }, kinds := [], alts := [], laidByText := true, laidKinds := [.data, .pinned], laidTests := true, laidLooks := .later }
def FnTreePartCardSaid : Prop := Claim7.holds Tryd.pinned (.plain (OpenSpec.ofChange fnTreePartSpec)) fnTreePartCard

/-- THE SECOND FORM's CARD OF 'laws.FnUndoTwice'. -/
def fnUndoTwiceUptoCard : Claim7 := { stood := { row := fnUndoTwiceUptoRow, standIns := [], harness := (true, "7e684c6501904551aadfcc66d00f7a9633b6a8cfb3f03c5cba2321e54b7db7ab"), looks := false }, kinds := [], alts := [], laidByText := true, laidKinds := [.data, .pinned], laidTests := true, laidLooks := .later }
def FnUndoTwiceUptoCardSaid : Prop := Claim7.holds Tryd.pinned (.plain (OpenSpec.upto fnUndoTwiceSpec)) fnUndoTwiceUptoCard

/-- THE SECOND FORM's CARD OF 'laws.FnTreePart'. -/
def fnTreePartUptoCard : Claim7 := { stood := { row := fnTreePartUptoRow, standIns := [], harness := (true, "7e684c6501904551aadfcc66d00f7a9633b6a8cfb3f03c5cba2321e54b7db7ab"), looks := false }, kinds := [], alts := [], laidByText := true, laidKinds := [.data, .pinned], laidTests := true, laidLooks := .later }
def FnTreePartUptoCardSaid : Prop := Claim7.holds Tryd.pinned (.plain (OpenSpec.upto fnTreePartSpec)) fnTreePartUptoCard
end Rows
end Go.Proofs.YtpgikcjcoaaamaaDoor
