import Derived.Test.YtellipmolheaaaaGreatDoorPath
import Derived.Test.YtellipmolheaaaaGreatDoorConJ
set_option linter.unusedSimpArgs false
set_option maxRecDepth 10000
namespace Go.Proofs.YtellipmolheaaaaGreatDoor
open Go Go.RowKit

end Go.Proofs.YtellipmolheaaaaGreatDoor
