import Derived.Test.YtellipmolheaaaaDoorConK
set_option linter.unusedSimpArgs false
set_option maxRecDepth 10000
namespace Go.Proofs.YtellipmolheaaaaDoor
open Go Go.RowKit

/-! ### the plain laws of trees -/

end Go.Proofs.YtellipmolheaaaaDoor
