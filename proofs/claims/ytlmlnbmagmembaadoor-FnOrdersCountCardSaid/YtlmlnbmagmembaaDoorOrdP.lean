import Derived.Test.YtlmlnbmagmembaaDoorConHH
set_option linter.unusedSimpArgs false
set_option maxRecDepth 10000
namespace Go.Proofs.YtlmlnbmagmembaaDoor
open Go Go.RowKit

/-- a possible order is counted -/
theorem ordS_pos : ∀ cs : List Cmd, possP cs → 1 ≤ ordS cs.length cs
  | [], _ => Nat.le_refl _
  | x :: r, h => by
    obtain ⟨h1, h2⟩ := List.pairwise_cons.1 h
    have ih := ordS_pos r h2
    rw [List.length_cons, ordS, sels, List.map_cons, List.sum_cons]
    have hall : r.all (fun y => !mustI y x) = true := List.all_eq_true.2 fun y hy => by rw [h1 y hy]; rfl
    simp only [hall, if_true]
    omega

theorem ordS_le (cs : List Cmd) : ordS cs.length cs ≤ fac cs.length := by
  rw [← ordI_ordS _ [] cs rfl List.Pairwise.nil (fun _ h => by cases h)]
  exact ordI_le _ [] cs rfl

end Go.Proofs.YtlmlnbmagmembaaDoor
