import Derived.Test.YtellipmolheaaaaDoorConQ
import Derived.Test.YtellipmolheaaaaDoorCoreC
set_option linter.unusedSimpArgs false
set_option maxRecDepth 10000
namespace Go.Proofs.YtellipmolheaaaaDoor
open Go Go.RowKit

/-! ### conflicts -/

def sameT (c d : Cmd) : Bool := decide (c.t.k = d.t.k) && decide (c.t.v = d.t.v)
def stopsS (c d : Cmd) : Bool := underS c.p d.p && !decide (c.t.k = 1) && !decide (d.t.k = 0)
def clashS (c d : Cmd) : Bool := (decide (c.p = d.p) && !sameT c d) || stopsS c d || stopsS d c
def stopsI (c d : Cmd) : Bool := underI c.p d.p && !decide (c.t.k = 1) && !decide (d.t.k = 0)
def clashI (c d : Cmd) : Bool := (decide (c.p = d.p) && !sameT c d) || stopsI c d || stopsI d c
def clashF (c d : Cmd) : Bool := cmdOk c && cmdOk d && clashI c d

end Go.Proofs.YtellipmolheaaaaDoor
