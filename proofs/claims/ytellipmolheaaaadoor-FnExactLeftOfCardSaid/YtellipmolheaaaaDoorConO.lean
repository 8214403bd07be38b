import Derived.Test.YtellipmolheaaaaDoorConN
set_option linter.unusedSimpArgs false
set_option maxRecDepth 10000
namespace Go.Proofs.YtellipmolheaaaaDoor
open Go Go.RowKit

/-! ### logs drawn -/

/-- the cells of a command -/
def cmdC (c : Cmd) : List A0 := [.v (.string ⟨⟨c.p⟩⟩), .v (.int .i64 c.f.k), .v (.int .i64 c.f.v), .v (.int .i64 c.t.k), .v (.int .i64 c.t.v)]

attribute [push_cast] cmdC

end Go.Proofs.YtellipmolheaaaaDoor
