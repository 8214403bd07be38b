import Derived.Test.YtellipmolheaaaaDoorConL
import Derived.Test.YtellipmolheaaaaDoorUnder
set_option linter.unusedSimpArgs false
set_option maxRecDepth 10000
namespace Go.Proofs.YtellipmolheaaaaDoor
open Go Go.RowKit

/-! ### what is under a path -/

end Go.Proofs.YtellipmolheaaaaDoor
