import Derived.Test.YtellipmolheaaaaDoorPath
set_option linter.unusedSimpArgs false
set_option maxRecDepth 10000
namespace Go.Proofs.YtellipmolheaaaaDoor
open Go Go.RowKit

/-! ### under a path -/

def underS (a b : List UInt8) : Bool := (decide (a = [47]) && !decide (b = [47])) || (decide (a.length < b.length) && decide (b.take a.length = a))
def underI (a b : List UInt8) : Bool := if a = [47] then !decide (b = [47]) else decide (a.length + 1 ≤ b.length) && decide (b.take (a.length + 1) = a ++ [47])

end Go.Proofs.YtellipmolheaaaaDoor
