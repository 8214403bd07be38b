import Derived.Test.YtellipmolheaaaaGreatDoorCanM
set_option linter.unusedSimpArgs false
set_option maxRecDepth 10000
namespace Go.Proofs.YtellipmolheaaaaGreatDoor
open Go Go.RowKit

/-! ### the reference's canonical log -/

end Go.Proofs.YtellipmolheaaaaGreatDoor
