import Derived.Test.YtellipmolheaaaaGreatDoorConU
set_option linter.unusedSimpArgs false
set_option maxRecDepth 10000
namespace Go.Proofs.YtellipmolheaaaaGreatDoor
open Go Go.RowKit

end Go.Proofs.YtellipmolheaaaaGreatDoor
