import Derived.Test.YtempabacnellaaaDoorConH
set_option linter.unusedSimpArgs false
set_option maxRecDepth 10000
namespace Go.Proofs.YtempabacnellaaaDoor
open Go Go.RowKit

theorem set_con (t : List Nod) (i : Nat) (n : Nod) : (t.set i n).map nodV = (t.map nodV).set i (nodV n) := by
  rw [List.map_set]

theorem set_p {t : List Nod} {i : Nat} {x : Nod} {c : Con} {L : Nat} (hx : t[i]? = some x) (h : ∀ y ∈ t, y.p.length ≤ L) : ∀ y ∈ t.set i ⟨x.p, c⟩, y.p.length ≤ L := fun y hy => by
  rcases List.mem_or_eq_of_mem_set hy with hy | rfl
  · exact h y hy
  · exact h x (List.mem_of_getElem? hx)

end Go.Proofs.YtempabacnellaaaDoor
