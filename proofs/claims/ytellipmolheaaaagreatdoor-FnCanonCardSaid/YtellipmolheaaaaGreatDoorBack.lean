import Derived.Test.YtellipmolheaaaaGreatDoorFits
import Derived.Test.YtellipmolheaaaaGreatDoorLawQ
set_option linter.unusedSimpArgs false
set_option maxRecDepth 10000
namespace Go.Proofs.YtellipmolheaaaaGreatDoor
open Go Go.RowKit

/-! ### what is copied -/

end Go.Proofs.YtellipmolheaaaaGreatDoor

set_option linter.unusedSimpArgs false
set_option maxRecDepth 10000
namespace Go.Proofs.YtellipmolheaaaaGreatDoor
open Go Go.RowKit

/-! ### a log taken back -/

/-! ### what is removed -/

theorem under_less {a b : List UInt8} (ha : a ≠ [47]) (h : underI a b = true) : Op.bytesLess a b = true := by
  unfold underI at h
  rw [if_neg ha, Bool.and_eq_true, decide_eq_true_eq, decide_eq_true_eq] at h
  have h2 : b.take a.length = a := by
    have := congrArg (List.take a.length) h.2
    rwa [List.take_take, Nat.min_eq_left (by omega), List.take_left] at this
  have := less_take a.length b (by omega)
  rwa [h2] at this

end Go.Proofs.YtellipmolheaaaaGreatDoor
