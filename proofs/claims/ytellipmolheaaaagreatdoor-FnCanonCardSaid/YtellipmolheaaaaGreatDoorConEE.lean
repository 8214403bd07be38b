import Derived.Test.YtellipmolheaaaaGreatDoorConCC
set_option linter.unusedSimpArgs false
set_option maxRecDepth 10000
namespace Go.Proofs.YtellipmolheaaaaGreatDoor
open Go Go.RowKit

/-! ### changed paths -/

end Go.Proofs.YtellipmolheaaaaGreatDoor

set_option linter.unusedSimpArgs false
set_option maxRecDepth 10000
namespace Go.Proofs.YtellipmolheaaaaGreatDoor
open Go Go.RowKit

/-! ### draws of two trees; a text in a list -/

end Go.Proofs.YtellipmolheaaaaGreatDoor
