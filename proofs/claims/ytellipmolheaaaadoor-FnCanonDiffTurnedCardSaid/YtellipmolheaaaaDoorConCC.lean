import Derived.Test.YtellipmolheaaaaDoorConZ
import Derived.Test.YtellipmolheaaaaDoorPut
import Derived.Test.YtellipmolheaaaaDoorConP
import Derived.Test.YtellipmolheaaaaDoorPath
import Derived.Test.YtellipmolheaaaaDoorConL
set_option linter.unusedSimpArgs false
set_option maxRecDepth 10000
namespace Go.Proofs.YtellipmolheaaaaDoor
open Go Go.RowKit

/-! ### a content is put into a tree -/

end Go.Proofs.YtellipmolheaaaaDoor

set_option linter.unusedSimpArgs false
set_option maxRecDepth 10000
namespace Go.Proofs.YtellipmolheaaaaDoor
open Go Go.RowKit

/-! ### trees put, commands and logs applied -/

theorem treePutF_ok {t : List Nod} {p : List UInt8} {c : Con} (h : (treePutF t p c).2 = true) : treeOk t = true ∧ 0 < depthF p ∧ conOk c = true ∧ (treePutF t p c).1 = putF t p c ∧ treeOk (putF t p c) = true := by
  unfold treePutF at h ⊢
  split at h
  · cases h
  · rename_i h1
    rw [if_neg h1]
    split at h
    · rename_i h2
      rw [if_pos h2]
      simp only [Bool.not_eq_true, Bool.or_eq_false_iff, Bool.not_eq_false', decide_eq_false_iff_not] at h1
      exact ⟨h1.1.1, by omega, h1.2, rfl, h2⟩
    · cases h

theorem logOk_mem0 {cs : List Cmd} (h : logOk cs = true) {c : Cmd} (hc : c ∈ cs) : cmdOk c = true := by
  simp only [logOk, Bool.and_eq_true, List.all_eq_true] at h
  exact h.2 c hc

end Go.Proofs.YtellipmolheaaaaDoor

set_option linter.unusedSimpArgs false
set_option maxRecDepth 10000
namespace Go.Proofs.YtellipmolheaaaaDoor
open Go Go.RowKit

/-! ### draws of trees, commands and logs; logs that fit -/

end Go.Proofs.YtellipmolheaaaaDoor
