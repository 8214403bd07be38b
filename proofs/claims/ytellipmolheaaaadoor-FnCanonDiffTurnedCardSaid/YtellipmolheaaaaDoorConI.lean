import Derived.Test.YtellipmolheaaaaDoorConN
import Derived.Test.YtellipmolheaaaaDoorCoreD
set_option linter.unusedSimpArgs false
set_option maxRecDepth 10000
namespace Go.Proofs.YtellipmolheaaaaDoor
open Go Go.RowKit

/-! ### a node is taken out, a node is put in -/

theorem first_p {α : Type} (p : α → Bool) : ∀ t : List α, (∀ x ∈ t, p x = false) ∨ ∃ i x, t[i]? = some x ∧ p x = true ∧ ∀ (j : Nat) y, j < i → t[j]? = some y → p y = false
  | [] => .inl fun x hx => by cases hx
  | a :: r => by
    cases ha : p a with
    | true => exact .inr ⟨0, a, rfl, ha, fun j y hj => absurd hj (Nat.not_lt_zero _)⟩
    | false =>
      rcases first_p p r with h | ⟨i, x, h1, h2, h3⟩
      · exact .inl fun x hx => (List.mem_cons.1 hx).elim (fun e => e ▸ ha) (h x)
      · refine .inr ⟨i + 1, x, by simpa using h1, h2, fun j y hj hy => ?_⟩
        cases j with
        | zero => simp at hy; exact hy ▸ ha
        | succ j => exact h3 j y (by omega) (by simpa using hy)

theorem not_step {α : Type} {p : α → Bool} {l : List α} {k : Nat} {y : α} (h : l[k]? = some y) : (l.take (k + 1)).filter (fun x => !p x) = (l.take k).filter (fun x => !p x) ++ if p y = true then [] else [y] := by
  rw [List.take_add_one, h, List.filter_append]
  congr 1
  cases hp : p y <;> simp [hp]

end Go.Proofs.YtellipmolheaaaaDoor
