import Derived.Test.YtellipmolheaaaaGreatDoorConL
import Derived.Test.YtellipmolheaaaaGreatDoorUnder
set_option linter.unusedSimpArgs false
set_option maxRecDepth 10000
namespace Go.Proofs.YtellipmolheaaaaGreatDoor
open Go Go.RowKit

/-! ### what is under a path -/

def underL (t : List Nod) (p : List UInt8) : List (List UInt8) := (t.filter fun n => underI p n.p).map (·.p)
def treeUnderF (t : List Nod) (p : List UInt8) : List (List UInt8) := if (treeOk t && pathOk p) = true then underL t p else []

end Go.Proofs.YtellipmolheaaaaGreatDoor
