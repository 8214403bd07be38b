import Derived.Test.YtellipmolheaaaaDoorLawN
import Derived.Test.YtellipmolheaaaaDoorConM
import Derived.Test.YtellipmolheaaaaDoorUnder
set_option linter.unusedSimpArgs false
set_option maxRecDepth 10000
namespace Go.Proofs.YtellipmolheaaaaDoor
open Go Go.RowKit

end Go.Proofs.YtellipmolheaaaaDoor

set_option linter.unusedSimpArgs false
set_option maxRecDepth 10000
namespace Go.Proofs.YtellipmolheaaaaDoor
open Go Go.RowKit

/-! ### logs that fit a tree -/

theorem con_zero {c : Con} (h : conOk c = true) (hk : c.k = 0) : c = ⟨0, 0⟩ := by
  refine con_eta hk ?_
  simp only [conOk, hk] at h
  simpa using h

theorem cmdOk_con {c : Cmd} (h : cmdOk c = true) : conOk c.f = true ∧ conOk c.t = true := by
  simp only [cmdOk, Bool.and_eq_true] at h
  exact ⟨h.1.1.2, h.1.2⟩

end Go.Proofs.YtellipmolheaaaaDoor
