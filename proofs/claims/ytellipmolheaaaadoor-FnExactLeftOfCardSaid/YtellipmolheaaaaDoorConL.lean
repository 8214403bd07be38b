import Derived.Test.YtellipmolheaaaaDoorPath
import Derived.Test.YtellipmolheaaaaDoorConJ
set_option linter.unusedSimpArgs false
set_option maxRecDepth 10000
namespace Go.Proofs.YtellipmolheaaaaDoor
open Go Go.RowKit

end Go.Proofs.YtellipmolheaaaaDoor
