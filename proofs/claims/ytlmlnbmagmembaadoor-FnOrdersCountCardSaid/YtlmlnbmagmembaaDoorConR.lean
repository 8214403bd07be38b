import Derived.Test.YtlmlnbmagmembaaDoorConQ
import Derived.Test.YtlmlnbmagmembaaDoorCoreC
set_option linter.unusedSimpArgs false
set_option maxRecDepth 10000
namespace Go.Proofs.YtlmlnbmagmembaaDoor
open Go Go.RowKit

/-! ### conflicts -/

def sameT (c d : Cmd) : Bool := decide (c.t.k = d.t.k) && decide (c.t.v = d.t.v)
def stopsS (c d : Cmd) : Bool := underS c.p d.p && !decide (c.t.k = 1) && !decide (d.t.k = 0)
def clashS (c d : Cmd) : Bool := (decide (c.p = d.p) && !sameT c d) || stopsS c d || stopsS d c
def stopsI (c d : Cmd) : Bool := underI c.p d.p && !decide (c.t.k = 1) && !decide (d.t.k = 0)
def clashI (c d : Cmd) : Bool := (decide (c.p = d.p) && !sameT c d) || stopsI c d || stopsI d c
def clashF (c d : Cmd) : Bool := cmdOk c && cmdOk d && clashI c d

theorem clash_eq {c d : Cmd} (hc : cmdOk c = true) (hd : cmdOk d = true) : clashS c d = clashI c d := by
  obtain ⟨c1, _⟩ := cmdOk_path hc
  obtain ⟨d1, _⟩ := cmdOk_path hd
  unfold clashS clashI stopsS stopsI
  rw [under_eq d1 c1, under_eq c1 d1]

end Go.Proofs.YtlmlnbmagmembaaDoor
