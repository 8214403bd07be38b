/-
  DERIVED. GIVEN WITH THE SEED: THE CARDS: each row of YtjafeamjgmacnaaDoorRows.lean that lists a variable, with what it lists TIED to the program's text (the seventh form; the later family's looks); each row that meets fmt, with fmt's text TOLD by the authors' own Lean function (tested against real Go, not proved from fmt's source: count such statements apart). THE CARD IS WHAT COUNTS. Prove the row's statement (the work); the ties are given (YtjafeamjgmacnaaDoorTie.lean); close each card by the builder's one call (the guide's Derived/Test/ToyasCard.lean, 'card_holds'). Laid BY PROGRAM, IN A SANDBOX (cutbox-door.mjs). By AI agents, Wed Nov 11 2026. No macro, syntax, notation, axiom, sorry.
-/
import Derived.Test.YtjafeamjgmacnaaDoorRows
import GoSem.ClaimSeven
namespace Go.Proofs.YtjafeamjgmacnaaDoor
namespace Rows

/-- THE TIED CARD OF 'laws.FnLogTree'. -/
def fnLogTreeCard : Claim7 := { stood := { row := fnLogTreeRow, standIns := [], harness := (true, "13a31b2607c2163ac300b7f21d42ba19ca40f0fb65742b9e5006856f3d37e0a6"), looks := false }, kinds := [], alts := [], laidByText := true, laidKinds := [.data, .pinned], laidTests := true, laidLooks := .later }
def FnLogTreeCardSaid : Prop := Claim7.holds Tryd.pinned (.plain (OpenSpec.ofChange fnLogTreeSpec)) fnLogTreeCard

/-- THE TIED CARD OF 'laws.FnOrderNot'. -/
def fnOrderNotCard : Claim7 := { stood := { row := fnOrderNotRow, standIns := [], harness := (true, "13a31b2607c2163ac300b7f21d42ba19ca40f0fb65742b9e5006856f3d37e0a6"), looks := false }, kinds := [], alts := [], laidByText := true, laidKinds := [.data, .pinned], laidTests := true, laidLooks := .later }
def FnOrderNotCardSaid : Prop := Claim7.holds Tryd.pinned (.plain (OpenSpec.ofChange fnOrderNotSpec)) fnOrderNotCard

/-- THE TIED CARD OF 'laws.FnClashTree'. -/
def fnClashTreeCard : Claim7 := { stood := { row := fnClashTreeRow, standIns := [], harness := (true, "13a31b2607c2163ac300b7f21d42ba19ca40f0fb65742b9e5006856f3d37e0a6"), looks := false }, kinds := [], alts := [], laidByText := true, laidKinds := [.data, .pinned], laidTests := true, laidLooks := .later }
def FnClashTreeCardSaid : Prop := Claim7.holds Tryd.pinned (.plain (OpenSpec.ofChange fnClashTreeSpec)) fnClashTreeCard

/-- THE TIED CARD OF 'laws.FnCopy'. -/
def fnCopyCard : Claim7 := { stood := { row := fnCopyRow, standIns := [], harness := (true, "13a31b2607c2163ac300b7f21d42ba19ca40f0fb65742b9e5006856f3d37e0a6"), looks := false }, kinds := [], alts := [], laidByText := true, laidKinds := [.data, .pinned], laidTests := true, laidLooks := .later }
def FnCopyCardSaid : Prop := Claim7.holds Tryd.pinned (.plain (OpenSpec.ofChange fnCopySpec)) fnCopyCard

/-- THE SECOND FORM's CARD OF 'laws.FnLogTree'. -/
def fnLogTreeUptoCard : Claim7 := { stood := { row := fnLogTreeUptoRow, standIns := [], harness := (true, "13a31b2607c2163ac300b7f21d42ba19ca40f0fb65742b9e5006856f3d37e0a6"), looks := false }, kinds := [], alts := [], laidByText := true, laidKinds := [.data, .pinned], laidTests := true, laidLooks := .later }
def FnLogTreeUptoCardSaid : Prop := Claim7.holds Tryd.pinned (.plain (OpenSpec.upto fnLogTreeSpec)) fnLogTreeUptoCard

/-- THE SECOND FORM's CARD OF 'laws.FnOrderNot'. -/
def fnOrderNotUptoCard : Claim7 := { stood := { row := fnOrderNotUptoRow, standIns := [], harness := (true, "13a31b2607c2163ac300b7f21d42ba19ca40f0fb65742b9e5006856f3d37e0a6"), looks := false }, kinds := [], alts := [], laidByText := true, laidKinds := [.data, .pinned], laidTests := true, laidLooks := .later }
def FnOrderNotUptoCardSaid : Prop := Claim7.holds Tryd.pinned (.plain (OpenSpec.upto fnOrderNotSpec)) fnOrderNotUptoCard

/-- THE SECOND FORM's CARD OF 'laws.FnClashTree'. -/
def fnClashTreeUptoCard : Claim7 := { stood := { row := fnClashTreeUptoRow, standIns := [], harness := (true, "13a31b2607c2163ac300b7f21d42ba19ca40f0fb65742b9e5006856f3d37e0a6"), looks := false }, kinds := [], alts := [], laidByText := true, laidKinds := [.data, .pinned], laidTests := true, laidLooks := .later }
def FnClashTreeUptoCardSaid : Prop := Claim7.holds Tryd.pinned (.plain (OpenSpec.upto fnClashTreeSpec)) fnClashTreeUptoCard

/-- THE SECOND FORM's CARD OF 'laws.FnCopy'. -/
def fnCopyUptoCard : Claim7 := { stood := { row := fnCopyUptoRow, standIns := [], harness := (true, "13a31b2607c2163ac300b7f21d42ba19ca40f0fb65742b9e5006856f3d37e0a6"), looks := false }, kinds := [], alts := [], laidByText := true, laidKinds := [.data, .pinned], laidTests := true, laidLooks := .later }
def FnCopyUptoCardSaid : Prop := Claim7.holds Tryd.pinned (.plain (OpenSpec.upto fnCopySpec)) fnCopyUptoCard
end Rows
end Go.Proofs.YtjafeamjgmacnaaDoor
