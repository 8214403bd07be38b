import Derived.Test.YtellipmolheaaaaGreatDoorConCC
set_option linter.unusedSimpArgs false
set_option maxRecDepth 10000
namespace Go.Proofs.YtellipmolheaaaaGreatDoor
open Go Go.RowKit

theorem nod_path {t : List Nod} (h : treeOk t = true) {x : Nod} (hx : x ∈ t) : pathOk x.p = true ∧ x.p ≠ [47] := depth_path (((treeOk_iff t).1 h).1 x hx).1

theorem nod_nz {t : List Nod} (h : treeOk t = true) : ∀ x ∈ t, x.c.k ≠ 0 := fun x hx => (((treeOk_iff t).1 h).1 x hx).2.2.1

theorem con_eta {a b : Con} (h1 : a.k = b.k) (h2 : a.v = b.v) : a = b := by
  cases a; cases b; simp_all

theorem getF_ok {t : List Nod} (h : treeOk t = true) (q : List UInt8) : conOk (getF t q) = true := by
  by_cases hk : (getF t q).k = 0
  · by_cases ha : ∀ x ∈ t, x.p ≠ q
    · rw [getF_none ha]; rfl
    · exfalso
      apply ha
      intro x hx e
      subst e
      rw [getF_of_mem ((treeOk_iff t).1 h).2.1 hx] at hk
      exact nod_nz h x hx hk
  · obtain ⟨x, hx, _, e⟩ := getF_mem hk
    rw [e]
    exact (((treeOk_iff t).1 h).1 x hx).2.1

/-! ### commands -/

end Go.Proofs.YtellipmolheaaaaGreatDoor
