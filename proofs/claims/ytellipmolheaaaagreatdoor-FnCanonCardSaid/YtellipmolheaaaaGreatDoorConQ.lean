import Derived.Test.YtellipmolheaaaaGreatDoorConP
set_option linter.unusedSimpArgs false
set_option maxRecDepth 10000
namespace Go.Proofs.YtellipmolheaaaaGreatDoor
open Go Go.RowKit

/-! ### canonical order (the reference's); logs drawn canonical: what is asked of them is their size alone -/

def endsF (c : Cmd) : Bool := decide (c.t.k = 0) || decide (c.f.k = 1)

def beforeF (c d : Cmd) : Bool := if (endsF c && endsF d) = true then Op.bytesLess d.p c.p else if (!endsF c && !endsF d) = true then Op.bytesLess c.p d.p else endsF c

end Go.Proofs.YtellipmolheaaaaGreatDoor
