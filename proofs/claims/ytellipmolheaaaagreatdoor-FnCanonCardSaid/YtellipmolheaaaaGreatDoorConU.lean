import Derived.Test.YtellipmolheaaaaGreatDoorConQ
import Derived.Test.YtellipmolheaaaaGreatDoorCoreC
set_option linter.unusedSimpArgs false
set_option maxRecDepth 10000
namespace Go.Proofs.YtellipmolheaaaaGreatDoor
open Go Go.RowKit

/-! ### conflicts -/

end Go.Proofs.YtellipmolheaaaaGreatDoor

set_option linter.unusedSimpArgs false
set_option maxRecDepth 10000
namespace Go.Proofs.YtellipmolheaaaaGreatDoor
open Go Go.RowKit

/-! ### canonical logs -/

def cmpF (a b : List UInt8) : Int := if Op.bytesLess a b = true then -1 else if Op.bytesLess b a = true then 1 else 0

def ordF (c d : Cmd) : Int := if (endsF c && endsF d) = true then cmpF d.p c.p else if endsF c = true then -1 else if endsF d = true then 1 else cmpF c.p d.p

theorem nodup_next {cs : List Cmd} (h : (cs.map (·.p)).Nodup) {i j : Nat} {x y : Cmd} (hij : i < j) (hx : cs[i]? = some x) (hy : cs[j]? = some y) : x.p ≠ y.p := by
  obtain ⟨h1, e1⟩ := List.getElem?_eq_some_iff.1 hx
  obtain ⟨h2, e2⟩ := List.getElem?_eq_some_iff.1 hy
  have := List.pairwise_iff_getElem.1 h i j (by simpa using h1) (by simpa using h2) hij
  simpa [e1, e2] using this

end Go.Proofs.YtellipmolheaaaaGreatDoor
