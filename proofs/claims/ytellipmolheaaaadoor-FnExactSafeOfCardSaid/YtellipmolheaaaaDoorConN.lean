import Derived.Test.YtellipmolheaaaaDoorConM
import Derived.Test.YtellipmolheaaaaDoorCoreC
set_option linter.unusedSimpArgs false
set_option maxRecDepth 10000
namespace Go.Proofs.YtellipmolheaaaaDoor
open Go Go.RowKit

/-! ### commands: what must precede, what is done -/

theorem cmdOk_path {c : Cmd} (h : cmdOk c = true) : pathOk c.p = true ∧ c.p ≠ [47] := by
  simp only [cmdOk, Bool.and_eq_true, decide_eq_true_eq] at h
  exact depth_path h.1.1.1

end Go.Proofs.YtellipmolheaaaaDoor
