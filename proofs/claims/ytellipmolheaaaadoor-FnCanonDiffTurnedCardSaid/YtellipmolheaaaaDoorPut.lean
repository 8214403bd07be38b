import Derived.Test.YtellipmolheaaaaDoorTree
set_option linter.unusedSimpArgs false
set_option maxRecDepth 10000
namespace Go.Proofs.YtellipmolheaaaaDoor
open Go Go.RowKit

/-! ### the plain law of putting -/

theorem less_asymm {a b : List UInt8} (h : Op.bytesLess a b = true) : Op.bytesLess b a = false := by
  cases h2 : Op.bytesLess b a with
  | false => rfl
  | true => have := less_trans h h2; rw [less_irrefl] at this; cases this

theorem less_tri {a b : List UInt8} (h : a ≠ b) (h2 : Op.bytesLess a b = false) : Op.bytesLess b a = true := by
  have := less_total a b
  rw [h2, decide_eq_false h] at this
  simpa using this

theorem getF_cons (n : Nod) (r : List Nod) (q : List UInt8) : getF (n :: r) q = if n.p = q then n.c else getF r q := rfl

theorem getF_none {t : List Nod} {q : List UInt8} (h : ∀ x ∈ t, x.p ≠ q) : getF t q = ⟨0, 0⟩ := by
  induction t with
  | nil => rfl
  | cons n r ih => rw [getF_cons, if_neg (h n List.mem_cons_self), ih fun x hx => h x (List.mem_cons_of_mem _ hx)]

theorem getF_of_mem {t : List Nod} (h : srt t) {x : Nod} (hx : x ∈ t) : getF t x.p = x.c := by
  induction t with
  | nil => cases hx
  | cons n r ih =>
    rw [getF_cons]
    rcases List.mem_cons.1 hx with rfl | hx
    · rw [if_pos rfl]
    · rw [if_neg (less_ne ((List.pairwise_cons.1 h).1 x hx)), ih (List.pairwise_cons.1 h).2 hx]

end Go.Proofs.YtellipmolheaaaaDoor
