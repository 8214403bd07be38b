import Derived.Test.YtellipmolheaaaaDoorConA
set_option linter.unusedSimpArgs false
set_option maxRecDepth 10000
namespace Go.Proofs.YtellipmolheaaaaDoor
open Go Go.RowKit

/-! ### trees -/

def getF : List Nod → List UInt8 → Con
  | [], _ => ⟨0, 0⟩
  | n :: r, p => if n.p = p then n.c else getF r p
def getT (t : List Nod) (p : List UInt8) : Con := if p = [47] then ⟨1, 0⟩ else getF t p

theorem at_some {α : Type} {l : List α} {i : Nat} (h : i < l.length) : ∃ x, l[i]? = some x := ⟨_, List.getElem?_eq_getElem h⟩

/-! ### putting -/

end Go.Proofs.YtellipmolheaaaaDoor
