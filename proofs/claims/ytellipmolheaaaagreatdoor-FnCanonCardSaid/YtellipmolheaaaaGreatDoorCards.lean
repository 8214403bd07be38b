/-
  DERIVED. GIVEN WITH THE SEED: THE CARDS: each row of YtellipmolheaaaaGreatDoorRows.lean that lists a variable, with what it lists TIED to the program's text (the seventh form; the later family's looks); each row that meets fmt, with fmt's text TOLD by the authors' own Lean function (tested against real Go, not proved from fmt's source: count such statements apart). THE CARD IS WHAT COUNTS. Prove the row's statement (the work); the ties are given (YtellipmolheaaaaGreatDoorTie.lean); close each card by the builder's one call (the guide's Derived/Test/ToyasCard.lean, 'card_holds'). Laid BY PROGRAM, IN A SANDBOX (cutbox-door.mjs). By AI agents, Wed Nov 11 2026. No macro, syntax, notation, axiom, sorry.
-/
import Derived.Test.YtellipmolheaaaaGreatDoorRows
import GoSem.ClaimSeven
namespace Go.Proofs.YtellipmolheaaaaGreatDoor
namespace Rows

/-- THE TIED CARD OF 'laws.FnCanon'. -/
def fnCanonCard : Claim7 := { stood := { row := fnCanonRow, standIns := [], harness := (true, "183f396a1f2d1c0edce1e3a1ca374d37594389296a121dbdfc3587492d5c14c4"), looks := false }, kinds := [], alts := [], laidByText := true, laidKinds := [.data, .pinned], laidTests := true, laidLooks := .later }
def FnCanonCardSaid : Prop := Claim7.holds Tryz.pinned (.plain (OpenSpec.ofChange fnCanonSpec)) fnCanonCard

/-- THE SECOND FORM's CARD OF 'laws.FnCanon'. -/
def fnCanonUptoCard : Claim7 := { stood := { row := fnCanonUptoRow, standIns := [], harness := (true, "183f396a1f2d1c0edce1e3a1ca374d37594389296a121dbdfc3587492d5c14c4"), looks := false }, kinds := [], alts := [], laidByText := true, laidKinds := [.data, .pinned], laidTests := true, laidLooks := .later }
def FnCanonUptoCardSaid : Prop := Claim7.holds Tryz.pinned (.plain (OpenSpec.upto fnCanonSpec)) fnCanonUptoCard
end Rows
end Go.Proofs.YtellipmolheaaaaGreatDoor
