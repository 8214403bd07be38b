import Derived.Test.YtempabacnellaaaDoorPath
import Derived.Test.YtempabacnellaaaDoorConJ
set_option linter.unusedSimpArgs false
set_option maxRecDepth 10000
namespace Go.Proofs.YtempabacnellaaaDoor
open Go Go.RowKit

/-- what a tree holds at a path -/
def treeGetF (t : List Nod) (p : List UInt8) : Con := if (!treeOk t || !pathOk p) = true then ⟨0, 0⟩ else getT t p
/-- the parent of a path, or no text -/
def pathParentF (p : List UInt8) : List UInt8 := if (!pathOk p || decide (p = [47])) = true then [] else parentF p

end Go.Proofs.YtempabacnellaaaDoor
