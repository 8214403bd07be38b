import Derived.Test.YtellipmolheaaaaDoorLawN
import Derived.Test.YtellipmolheaaaaDoorConM
import Derived.Test.YtellipmolheaaaaDoorUnder
set_option linter.unusedSimpArgs false
set_option maxRecDepth 10000
namespace Go.Proofs.YtellipmolheaaaaDoor
open Go Go.RowKit

/-! ### when a put can be -/

end Go.Proofs.YtellipmolheaaaaDoor
