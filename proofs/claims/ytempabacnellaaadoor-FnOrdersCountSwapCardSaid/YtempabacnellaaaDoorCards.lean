/-
  DERIVED. GIVEN WITH THE SEED: THE CARDS: each row of YtempabacnellaaaDoorRows.lean that lists a variable, with what it lists TIED to the program's text (the seventh form; the later family's looks); each row that meets fmt, with fmt's text TOLD by the authors' own Lean function (tested against real Go, not proved from fmt's source: count such statements apart). THE CARD IS WHAT COUNTS. Prove the row's statement (the work); the ties are given (YtempabacnellaaaDoorTie.lean); close each card by the builder's one call (the guide's Derived/Test/ToyasCard.lean, 'card_holds'). Laid BY PROGRAM, IN A SANDBOX (cutbox-door.mjs). By AI agents, Wed Nov 11 2026. No macro, syntax, notation, axiom, sorry.
-/
import Derived.Test.YtempabacnellaaaDoorRows
import GoSem.ClaimSeven
namespace Go.Proofs.YtempabacnellaaaDoor
namespace Rows

/-- THE TIED CARD OF 'laws.FnCanonPart'. -/
def fnCanonPartCard : Claim7 := { stood := { row := fnCanonPartRow, standIns := [], harness := (true, "e74881acdd76285d26aa41532a361dcdace84846d8909ec3c15ce3cb0f522179"), looks := false }, kinds := [], alts := [], laidByText := true, laidKinds := [.data, .pinned], laidTests := true, laidLooks := .later }
def FnCanonPartCardSaid : Prop := Claim7.holds Tryd.pinned (.plain (OpenSpec.ofChange fnCanonPartSpec)) fnCanonPartCard

/-- THE TIED CARD OF 'laws.FnCanonPaths'. -/
def fnCanonPathsCard : Claim7 := { stood := { row := fnCanonPathsRow, standIns := [], harness := (true, "e74881acdd76285d26aa41532a361dcdace84846d8909ec3c15ce3cb0f522179"), looks := false }, kinds := [], alts := [], laidByText := true, laidKinds := [.data, .pinned], laidTests := true, laidLooks := .later }
def FnCanonPathsCardSaid : Prop := Claim7.holds Tryd.pinned (.plain (OpenSpec.ofChange fnCanonPathsSpec)) fnCanonPathsCard

/-- THE TIED CARD OF 'laws.FnOrdersCountSwap'. -/
def fnOrdersCountSwapCard : Claim7 := { stood := { row := fnOrdersCountSwapRow, standIns := [], harness := (true, "e74881acdd76285d26aa41532a361dcdace84846d8909ec3c15ce3cb0f522179"), looks := false }, kinds := [], alts := [], laidByText := true, laidKinds := [.data, .pinned], laidTests := true, laidLooks := .later }
def FnOrdersCountSwapCardSaid : Prop := Claim7.holds Tryd.pinned (.plain (OpenSpec.ofChange fnOrdersCountSwapSpec)) fnOrdersCountSwapCard

/-- THE TIED CARD OF 'laws.FnSwap'. -/
def fnSwapCard : Claim7 := { stood := { row := fnSwapRow, standIns := [], harness := (true, "e74881acdd76285d26aa41532a361dcdace84846d8909ec3c15ce3cb0f522179"), looks := false }, kinds := [], alts := [], laidByText := true, laidKinds := [.data, .pinned], laidTests := true, laidLooks := .later }
def FnSwapCardSaid : Prop := Claim7.holds Tryd.pinned (.plain (OpenSpec.ofChange fnSwapSpec)) fnSwapCard

/-- THE TIED CARD OF 'laws.FnSwapWhen'. -/
def fnSwapWhenCard : Claim7 := { stood := { row := fnSwapWhenRow, standIns := [], harness := (true, "e74881acdd76285d26aa41532a361dcdace84846d8909ec3c15ce3cb0f522179"), looks := false }, kinds := [], alts := [], laidByText := true, laidKinds := [.data, .pinned], laidTests := true, laidLooks := .later }
def FnSwapWhenCardSaid : Prop := Claim7.holds Tryd.pinned (.plain (OpenSpec.ofChange fnSwapWhenSpec)) fnSwapWhenCard

/-- THE TIED CARD OF 'laws.FnClashesTurned'. -/
def fnClashesTurnedCard : Claim7 := { stood := { row := fnClashesTurnedRow, standIns := [], harness := (true, "e74881acdd76285d26aa41532a361dcdace84846d8909ec3c15ce3cb0f522179"), looks := false }, kinds := [], alts := [], laidByText := true, laidKinds := [.data, .pinned], laidTests := true, laidLooks := .later }
def FnClashesTurnedCardSaid : Prop := Claim7.holds Tryd.pinned (.plain (OpenSpec.ofChange fnClashesTurnedSpec)) fnClashesTurnedCard

/-- THE TIED CARD OF 'laws.FnClashes'. -/
def fnClashesCard : Claim7 := { stood := { row := fnClashesRow, standIns := [], harness := (true, "e74881acdd76285d26aa41532a361dcdace84846d8909ec3c15ce3cb0f522179"), looks := false }, kinds := [], alts := [], laidByText := true, laidKinds := [.data, .pinned], laidTests := true, laidLooks := .later }
def FnClashesCardSaid : Prop := Claim7.holds Tryd.pinned (.plain (OpenSpec.ofChange fnClashesSpec)) fnClashesCard

/-- THE TIED CARD OF 'laws.FnLeft'. -/
def fnLeftCard : Claim7 := { stood := { row := fnLeftRow, standIns := [], harness := (true, "e74881acdd76285d26aa41532a361dcdace84846d8909ec3c15ce3cb0f522179"), looks := false }, kinds := [], alts := [], laidByText := true, laidKinds := [.data, .pinned], laidTests := true, laidLooks := .later }
def FnLeftCardSaid : Prop := Claim7.holds Tryd.pinned (.plain (OpenSpec.ofChange fnLeftSpec)) fnLeftCard

/-- THE TIED CARD OF 'laws.FnSafeNone'. -/
def fnSafeNoneCard : Claim7 := { stood := { row := fnSafeNoneRow, standIns := [], harness := (true, "e74881acdd76285d26aa41532a361dcdace84846d8909ec3c15ce3cb0f522179"), looks := false }, kinds := [], alts := [], laidByText := true, laidKinds := [.data, .pinned], laidTests := true, laidLooks := .later }
def FnSafeNoneCardSaid : Prop := Claim7.holds Tryd.pinned (.plain (OpenSpec.ofChange fnSafeNoneSpec)) fnSafeNoneCard

/-- THE TIED CARD OF 'laws.FnAgreed'. -/
def fnAgreedCard : Claim7 := { stood := { row := fnAgreedRow, standIns := [], harness := (true, "e74881acdd76285d26aa41532a361dcdace84846d8909ec3c15ce3cb0f522179"), looks := false }, kinds := [], alts := [], laidByText := true, laidKinds := [.data, .pinned], laidTests := true, laidLooks := .later }
def FnAgreedCardSaid : Prop := Claim7.holds Tryd.pinned (.plain (OpenSpec.ofChange fnAgreedSpec)) fnAgreedCard

/-- THE TIED CARD OF 'laws.FnSafe'. -/
def fnSafeCard : Claim7 := { stood := { row := fnSafeRow, standIns := [], harness := (true, "e74881acdd76285d26aa41532a361dcdace84846d8909ec3c15ce3cb0f522179"), looks := false }, kinds := [], alts := [], laidByText := true, laidKinds := [.data, .pinned], laidTests := true, laidLooks := .later }
def FnSafeCardSaid : Prop := Claim7.holds Tryd.pinned (.plain (OpenSpec.ofChange fnSafeSpec)) fnSafeCard

/-- THE TIED CARD OF 'laws.FnParts'. -/
def fnPartsCard : Claim7 := { stood := { row := fnPartsRow, standIns := [], harness := (true, "e74881acdd76285d26aa41532a361dcdace84846d8909ec3c15ce3cb0f522179"), looks := false }, kinds := [], alts := [], laidByText := true, laidKinds := [.data, .pinned], laidTests := true, laidLooks := .later }
def FnPartsCardSaid : Prop := Claim7.holds Tryd.pinned (.plain (OpenSpec.ofChange fnPartsSpec)) fnPartsCard

/-- THE SECOND FORM's CARD OF 'laws.FnCanonPart'. -/
def fnCanonPartUptoCard : Claim7 := { stood := { row := fnCanonPartUptoRow, standIns := [], harness := (true, "e74881acdd76285d26aa41532a361dcdace84846d8909ec3c15ce3cb0f522179"), looks := false }, kinds := [], alts := [], laidByText := true, laidKinds := [.data, .pinned], laidTests := true, laidLooks := .later }
def FnCanonPartUptoCardSaid : Prop := Claim7.holds Tryd.pinned (.plain (OpenSpec.upto fnCanonPartSpec)) fnCanonPartUptoCard

/-- THE SECOND FORM's CARD OF 'laws.FnCanonPaths'. -/
def fnCanonPathsUptoCard : Claim7 := { stood := { row := fnCanonPathsUptoRow, standIns := [], harness := (true, "e74881acdd76285d26aa41532a361dcdace84846d8909ec3c15ce3cb0f522179"), looks := false }, kinds := [], alts := [], laidByText := true, laidKinds := [.data, .pinned], laidTests := true, laidLooks := .later }
def FnCanonPathsUptoCardSaid : Prop := Claim7.holds Tryd.pinned (.plain (OpenSpec.upto fnCanonPathsSpec)) fnCanonPathsUptoCard

/-- THE SECOND FORM's CARD OF 'laws.FnOrdersCountSwap'. -/
def fnOrdersCountSwapUptoCard : Claim7 := { stood := { row := fnOrdersCountSwapUptoRow, standIns := [], harness := (true, "e74881acdd76285d26aa41532a361dcdace84846d8909ec3c15ce3cb0f522179"), looks := false }, kinds := [], alts := [], laidByText := true, laidKinds := [.data, .pinned], laidTests := true, laidLooks := .later }
def FnOrdersCountSwapUptoCardSaid : Prop := Claim7.holds Tryd.pinned (.plain (OpenSpec.upto fnOrdersCountSwapSpec)) fnOrdersCountSwapUptoCard

/-- THE SECOND FORM's CARD OF 'laws.FnSwap'. -/
def fnSwapUptoCard : Claim7 := { stood := { row := fnSwapUptoRow, standIns := [], harness := (true, "e74881acdd76285d26aa41532a361dcdace84846d8909ec3c15ce3cb0f522179"), looks := false }, kinds := [], alts := [], laidByText := true, laidKinds := [.data, .pinned], laidTests := true, laidLooks := .later }
def FnSwapUptoCardSaid : Prop := Claim7.holds Tryd.pinned (.plain (OpenSpec.upto fnSwapSpec)) fnSwapUptoCard

/-- THE SECOND FORM's CARD OF 'laws.FnSwapWhen'. -/
def fnSwapWhenUptoCard : Claim7 := { stood := { row := fnSwapWhenUptoRow, standIns := [], harness := (true, "e74881acdd76285d26aa41532a361dcdace84846d8909ec3c15ce3cb0f522179"), looks := false }, kinds := [], alts := [], laidByText := true, laidKinds := [.data, .pinned], laidTests := true, laidLooks := .later }
def FnSwapWhenUptoCardSaid : Prop := Claim7.holds Tryd.pinned (.plain (OpenSpec.upto fnSwapWhenSpec)) fnSwapWhenUptoCard

/-- THE SECOND FORM's CARD OF 'laws.FnClashesTurned'. -/
def fnClashesTurnedUptoCard : Claim7 := { stood := { row := fnClashesTurnedUptoRow, standIns := [], harness := (true, "e74881acdd76285d26aa41532a361dcdace84846d8909ec3c15ce3cb0f522179"), looks := false }, kinds := [], alts := [], laidByText := true, laidKinds := [.data, .pinned], laidTests := true, laidLooks := .later }
def FnClashesTurnedUptoCardSaid : Prop := Claim7.holds Tryd.pinned (.plain (OpenSpec.upto fnClashesTurnedSpec)) fnClashesTurnedUptoCard

/-- THE SECOND FORM's CARD OF 'laws.FnClashes'. -/
def fnClashesUptoCard : Claim7 := { stood := { row := fnClashesUptoRow, standIns := [], harness := (true, "e74881acdd76285d26aa41532a361dcdace84846d8909ec3c15ce3cb0f522179"), looks := false }, kinds := [], alts := [], laidByText := true, laidKinds := [.data, .pinned], laidTests := true, laidLooks := .later }
def FnClashesUptoCardSaid : Prop := Claim7.holds Tryd.pinned (.plain (OpenSpec.upto fnClashesSpec)) fnClashesUptoCard

/-- THE SECOND FORM's CARD OF 'laws.FnLeft'. -/
def fnLeftUptoCard : Claim7 := { stood := { row := fnLeftUptoRow, standIns := [], harness := (true, "e74881acdd76285d26aa41532a361dcdace84846d8909ec3c15ce3cb0f522179"), looks := false }, kinds := [], alts := [], laidByText := true, laidKinds := [.data, .pinned], laidTests := true, laidLooks := .later }
def FnLeftUptoCardSaid : Prop := Claim7.holds Tryd.pinned (.plain (OpenSpec.upto fnLeftSpec)) fnLeftUptoCard

/-- THE SECOND FORM's CARD OF 'laws.FnSafeNone'. -/
def fnSafeNoneUptoCard : Claim7 := { stood := { row := fnSafeNoneUptoRow, standIns := [], harness := (true, "e74881acdd76285d26aa41532a361dcdace84846d8909ec3c15ce3cb0f522179"), looks := false }, kinds := [], alts := [], laidByText := true, laidKinds := [.data, .pinned], laidTests := true, laidLooks := .later }
def FnSafeNoneUptoCardSaid : Prop := Claim7.holds Tryd.pinned (.plain (OpenSpec.upto fnSafeNoneSpec)) fnSafeNoneUptoCard

/-- THE SECOND FORM's CARD OF 'laws.FnAgreed'. -/
def fnAgreedUptoCard : Claim7 := { stood := { row := fnAgreedUptoRow, standIns := [], harness := (true, "e74881acdd76285d26aa41532a361dcdace84846d8909ec3c15ce3cb0f522179"), looks := false }, kinds := [], alts := [], laidByText := true, laidKinds := [.data, .pinned], laidTests := true, laidLooks := .later }
def FnAgreedUptoCardSaid : Prop := Claim7.holds Tryd.pinned (.plain (OpenSpec.upto fnAgreedSpec)) fnAgreedUptoCard

/-- THE SECOND FORM's CARD OF 'laws.FnSafe'. -/
def fnSafeUptoCard : Claim7 := { stood := { row := fnSafeUptoRow, standIns := [], harness := (true, "e74881acdd76285d26aa41532a361dcdace84846d8909ec3c15ce3cb0f522179"), looks := false }, kinds := [], alts := [], laidByText := true, laidKinds := [.data, .pinned], laidTests := true, laidLooks := .later }
def FnSafeUptoCardSaid : Prop := Claim7.holds Tryd.pinned (.plain (OpenSpec.upto fnSafeSpec)) fnSafeUptoCard

/-- THE SECOND FORM's CARD OF 'laws.FnParts'. -/
def fnPartsUptoCard : Claim7 := { stood := { row := fnPartsUptoRow, standIns := [], harness := (true, "e74881acdd76285d26aa41532a361dcdace84846d8909ec3c15ce3cb0f522179"), looks := false }, kinds := [], alts := [], laidByText := true, laidKinds := [.data, .pinned], laidTests := true, laidLooks := .later }
def FnPartsUptoCardSaid : Prop := Claim7.holds Tryd.pinned (.plain (OpenSpec.upto fnPartsSpec)) fnPartsUptoCard
end Rows
end Go.Proofs.YtempabacnellaaaDoor
