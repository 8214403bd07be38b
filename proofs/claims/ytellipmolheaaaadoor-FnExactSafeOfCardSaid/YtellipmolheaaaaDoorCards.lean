/-
  DERIVED. GIVEN WITH THE SEED: THE CARDS: each row of YtellipmolheaaaaDoorRows.lean that lists a variable, with what it lists TIED to the program's text (the seventh form; the later family's looks); each row that meets fmt, with fmt's text TOLD by the authors' own Lean function (tested against real Go, not proved from fmt's source: count such statements apart). THE CARD IS WHAT COUNTS. Prove the row's statement (the work); the ties are given (YtellipmolheaaaaDoorTie.lean); close each card by the builder's one call (the guide's Derived/Test/ToyasCard.lean, 'card_holds'). Laid BY PROGRAM, IN A SANDBOX (cutbox-door.mjs). By AI agents, Wed Nov 11 2026. No macro, syntax, notation, axiom, sorry.
-/
import Derived.Test.YtellipmolheaaaaDoorRows
import GoSem.ClaimSeven
namespace Go.Proofs.YtellipmolheaaaaDoor
namespace Rows

/-- THE TIED CARD OF 'laws.FnCanonOnce'. -/
def fnCanonOnceCard : Claim7 := { stood := { row := fnCanonOnceRow, standIns := [], harness := (true, "2e73d2cc14837ec5b10c9bb96187b25a59974d6234cf156b1024d8902560c4b4"), looks := false }, kinds := [], alts := [], laidByText := true, laidKinds := [.data, .pinned], laidTests := true, laidLooks := .later }
def FnCanonOnceCardSaid : Prop := Claim7.holds Tryd.pinned (.plain (OpenSpec.ofChange fnCanonOnceSpec)) fnCanonOnceCard

/-- THE TIED CARD OF 'laws.FnCanonJoin'. -/
def fnCanonJoinCard : Claim7 := { stood := { row := fnCanonJoinRow, standIns := [], harness := (true, "2e73d2cc14837ec5b10c9bb96187b25a59974d6234cf156b1024d8902560c4b4"), looks := false }, kinds := [], alts := [], laidByText := true, laidKinds := [.data, .pinned], laidTests := true, laidLooks := .later }
def FnCanonJoinCardSaid : Prop := Claim7.holds Tryd.pinned (.plain (OpenSpec.ofChange fnCanonJoinSpec)) fnCanonJoinCard

/-- THE TIED CARD OF 'laws.FnExactLeftOf'. -/
def fnExactLeftOfCard : Claim7 := { stood := { row := fnExactLeftOfRow, standIns := [], harness := (true, "2e73d2cc14837ec5b10c9bb96187b25a59974d6234cf156b1024d8902560c4b4"), looks := false }, kinds := [], alts := [], laidByText := true, laidKinds := [.data, .pinned], laidTests := true, laidLooks := .later }
def FnExactLeftOfCardSaid : Prop := Claim7.holds Tryd.pinned (.plain (OpenSpec.ofChange fnExactLeftOfSpec)) fnExactLeftOfCard

/-- THE TIED CARD OF 'laws.FnExactClashesOf'. -/
def fnExactClashesOfCard : Claim7 := { stood := { row := fnExactClashesOfRow, standIns := [], harness := (true, "2e73d2cc14837ec5b10c9bb96187b25a59974d6234cf156b1024d8902560c4b4"), looks := false }, kinds := [], alts := [], laidByText := true, laidKinds := [.data, .pinned], laidTests := true, laidLooks := .later }
def FnExactClashesOfCardSaid : Prop := Claim7.holds Tryd.pinned (.plain (OpenSpec.ofChange fnExactClashesOfSpec)) fnExactClashesOfCard

/-- THE TIED CARD OF 'laws.FnExactAgreedOf'. -/
def fnExactAgreedOfCard : Claim7 := { stood := { row := fnExactAgreedOfRow, standIns := [], harness := (true, "2e73d2cc14837ec5b10c9bb96187b25a59974d6234cf156b1024d8902560c4b4"), looks := false }, kinds := [], alts := [], laidByText := true, laidKinds := [.data, .pinned], laidTests := true, laidLooks := .later }
def FnExactAgreedOfCardSaid : Prop := Claim7.holds Tryd.pinned (.plain (OpenSpec.ofChange fnExactAgreedOfSpec)) fnExactAgreedOfCard

/-- THE TIED CARD OF 'laws.FnExactSafeOf'. -/
def fnExactSafeOfCard : Claim7 := { stood := { row := fnExactSafeOfRow, standIns := [], harness := (true, "2e73d2cc14837ec5b10c9bb96187b25a59974d6234cf156b1024d8902560c4b4"), looks := false }, kinds := [], alts := [], laidByText := true, laidKinds := [.data, .pinned], laidTests := true, laidLooks := .later }
def FnExactSafeOfCardSaid : Prop := Claim7.holds Tryd.pinned (.plain (OpenSpec.ofChange fnExactSafeOfSpec)) fnExactSafeOfCard

/-- THE TIED CARD OF 'laws.FnCommandText'. -/
def fnCommandTextCard : Claim7 := { stood := { row := fnCommandTextRow, standIns := [], harness := (true, "2e73d2cc14837ec5b10c9bb96187b25a59974d6234cf156b1024d8902560c4b4"), looks := false }, kinds := [], alts := [], laidByText := true, laidKinds := [.data, .data, .data, .data, .pinned], laidTests := true, laidLooks := .later }
def FnCommandTextCardSaid : Prop := Claim7.holds Tryd.pinned (.plain (OpenSpec.ofChange fnCommandTextSpec)) fnCommandTextCard

/-- THE TIED CARD OF 'laws.FnCommandParse'. -/
def fnCommandParseCard : Claim7 := { stood := { row := fnCommandParseRow, standIns := [], harness := (true, "2e73d2cc14837ec5b10c9bb96187b25a59974d6234cf156b1024d8902560c4b4"), looks := false }, kinds := [], alts := [], laidByText := true, laidKinds := [.data, .data, .data, .data, .pinned], laidTests := true, laidLooks := .later }
def FnCommandParseCardSaid : Prop := Claim7.holds Tryd.pinned (.plain (OpenSpec.ofChange fnCommandParseSpec)) fnCommandParseCard

/-- THE TIED CARD OF 'laws.FnCanonDiffTurned'. -/
def fnCanonDiffTurnedCard : Claim7 := { stood := { row := fnCanonDiffTurnedRow, standIns := [], harness := (true, "2e73d2cc14837ec5b10c9bb96187b25a59974d6234cf156b1024d8902560c4b4"), looks := false }, kinds := [], alts := [], laidByText := true, laidKinds := [.data, .pinned], laidTests := true, laidLooks := .later }
def FnCanonDiffTurnedCardSaid : Prop := Claim7.holds Tryd.pinned (.plain (OpenSpec.ofChange fnCanonDiffTurnedSpec)) fnCanonDiffTurnedCard

/-- THE SECOND FORM's CARD OF 'laws.FnCanonOnce'. -/
def fnCanonOnceUptoCard : Claim7 := { stood := { row := fnCanonOnceUptoRow, standIns := [], harness := (true, "2e73d2cc14837ec5b10c9bb96187b25a59974d6234cf156b1024d8902560c4b4"), looks := false }, kinds := [], alts := [], laidByText := true, laidKinds := [.data, .pinned], laidTests := true, laidLooks := .later }
def FnCanonOnceUptoCardSaid : Prop := Claim7.holds Tryd.pinned (.plain (OpenSpec.upto fnCanonOnceSpec)) fnCanonOnceUptoCard

/-- THE SECOND FORM's CARD OF 'laws.FnCanonJoin'. -/
def fnCanonJoinUptoCard : Claim7 := { stood := { row := fnCanonJoinUptoRow, standIns := [], harness := (true, "2e73d2cc14837ec5b10c9bb96187b25a59974d6234cf156b1024d8902560c4b4"), looks := false }, kinds := [], alts := [], laidByText := true, laidKinds := [.data, .pinned], laidTests := true, laidLooks := .later }
def FnCanonJoinUptoCardSaid : Prop := Claim7.holds Tryd.pinned (.plain (OpenSpec.upto fnCanonJoinSpec)) fnCanonJoinUptoCard

/-- THE SECOND FORM's CARD OF 'laws.FnExactLeftOf'. -/
def fnExactLeftOfUptoCard : Claim7 := { stood := { row := fnExactLeftOfUptoRow, standIns := [], harness := (true, "2e73d2cc14837ec5b10c9bb96187b25a59974d6234cf156b1024d8902560c4b4"), looks := false }, kinds := [], alts := [], laidByText := true, laidKinds := [.data, .pinned], laidTests := true, laidLooks := .later }
def FnExactLeftOfUptoCardSaid : Prop := Claim7.holds Tryd.pinned (.plain (OpenSpec.upto fnExactLeftOfSpec)) fnExactLeftOfUptoCard

/-- THE SECOND FORM's CARD OF 'laws.FnExactClashesOf'. -/
def fnExactClashesOfUptoCard : Claim7 := { stood := { row := fnExactClashesOfUptoRow, standIns := [], harness := (true, "2e73d2cc14837ec5b10c9bb96187b25a59974d6234cf156b1024d8902560c4b4"), looks := false }, kinds := [], alts := [], laidByText := true, laidKinds := [.data, .pinned], laidTests := true, laidLooks := .later }
def FnExactClashesOfUptoCardSaid : Prop := Claim7.holds Tryd.pinned (.plain (OpenSpec.upto fnExactClashesOfSpec)) fnExactClashesOfUptoCard

/-- THE SECOND FORM's CARD OF 'laws.FnExactAgreedOf'. -/
def fnExactAgreedOfUptoCard : Claim7 := { stood := { row := fnExactAgreedOfUptoRow, standIns := [], harness := (true, "2e73d2cc14837ec5b10c9bb96187b25a59974d6234cf156b1024d8902560c4b4"), looks := false }, kinds := [], alts := [], laidByText := true, laidKinds := [.data, .pinned], laidTests := true, laidLooks := .later }
def FnExactAgreedOfUptoCardSaid : Prop := Claim7.holds Tryd.pinned (.plain (OpenSpec.upto fnExactAgreedOfSpec)) fnExactAgreedOfUptoCard

/-- THE SECOND FORM's CARD OF 'laws.FnExactSafeOf'. -/
def fnExactSafeOfUptoCard : Claim7 := { stood := { row := fnExactSafeOfUptoRow, standIns := [], harness := (true, "2e73d2cc14837ec5b10c9bb96187b25a59974d6234cf156b1024d8902560c4b4"), looks := false }, kinds := [], alts := [], laidByText := true, laidKinds := [.data, .pinned], laidTests := true, laidLooks := .later }
def FnExactSafeOfUptoCardSaid : Prop := Claim7.holds Tryd.pinned (.plain (OpenSpec.upto fnExactSafeOfSpec)) fnExactSafeOfUptoCard

/-- THE SECOND FORM's CARD OF 'laws.FnCommandText'. -/
def fnCommandTextUptoCard : Claim7 := { stood := { row := fnCommandTextUptoRow, standIns := [], harness := (true, "2e73d2cc14837ec5b10c9bb96187b25a59974d6234cf156b1024d8902560c4b4"), looks := false }, kinds := [], alts := [], laidByText := true, laidKinds := [.data, .data, .data, .data, .pinned], laidTests := true, laidLooks := .later }
def FnCommandTextUptoCardSaid : Prop := Claim7.holds Tryd.pinned (.plain (OpenSpec.upto fnCommandTextSpec)) fnCommandTextUptoCard

/-- THE SECOND FORM's CARD OF 'laws.FnCommandParse'. -/
def fnCommandParseUptoCard : Claim7 := { stood := { row := fnCommandParseUptoRow, standIns := [], harness := (true, "2e73d2cc14837ec5b10c9bb96187b25a59974d6234cf156b1024d8902560c4b4"), looks := false }, kinds := [], alts := [], laidByText := true, laidKinds := [.data, .data, .data, .data, .pinned], laidTests := true, laidLooks := .later }
def FnCommandParseUptoCardSaid : Prop := Claim7.holds Tryd.pinned (.plain (OpenSpec.upto fnCommandParseSpec)) fnCommandParseUptoCard

/-- THE SECOND FORM's CARD OF 'laws.FnCanonDiffTurned'. -/
def fnCanonDiffTurnedUptoCard : Claim7 := { stood := { row := fnCanonDiffTurnedUptoRow, standIns := [], harness := (true, "2e73d2cc14837ec5b10c9bb96187b25a59974d6234cf156b1024d8902560c4b4"), looks := false }, kinds := [], alts := [], laidByText := true, laidKinds := [.data, .pinned], laidTests := true, laidLooks := .later }
def FnCanonDiffTurnedUptoCardSaid : Prop := Claim7.holds Tryd.pinned (.plain (OpenSpec.upto fnCanonDiffTurnedSpec)) fnCanonDiffTurnedUptoCard
end Rows
end Go.Proofs.YtellipmolheaaaaDoor
