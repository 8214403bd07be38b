import Derived.Test.YtlmlnbmagmembaaDoorConP
set_option linter.unusedSimpArgs false
set_option maxRecDepth 10000
namespace Go.Proofs.YtlmlnbmagmembaaDoor
open Go Go.RowKit

/-! ### logs taken back: the specification's side and the draws -/

def undoL (cs : List Cmd) : List Cmd := if logOk cs = true then cs.reverse.map undoF else []

end Go.Proofs.YtlmlnbmagmembaaDoor
