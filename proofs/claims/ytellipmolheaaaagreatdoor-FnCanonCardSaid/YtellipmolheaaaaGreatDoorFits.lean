import Derived.Test.YtellipmolheaaaaGreatDoorLawN
import Derived.Test.YtellipmolheaaaaGreatDoorConM
import Derived.Test.YtellipmolheaaaaGreatDoorUnder
set_option linter.unusedSimpArgs false
set_option maxRecDepth 10000
namespace Go.Proofs.YtellipmolheaaaaGreatDoor
open Go Go.RowKit

theorem logApF_no {t : List Nod} {cs : List Cmd} (h : (!treeOk t || !logOk cs) = true) : logApF t cs = ([], -1) := by rw [logApF, if_pos h]
theorem logApF_yes {t : List Nod} {cs : List Cmd} (h : (!treeOk t || !logOk cs) = false) : logApF t cs = ((allF t cs).1, ((allF t cs).2 : Int)) := by rw [logApF, h]; rfl

theorem allF_ok : ∀ (cs : List Cmd) {t : List Nod}, treeOk t = true → treeOk (allF t cs).1 = true
  | [], _, h => h
  | c :: r, t, h => by
    unfold allF
    split
    · exact allF_ok r (apF_ok h)
    · exact h

theorem allF_append : ∀ (a b : List Cmd) (t : List Nod), allF t (a ++ b) = if (allF t a).2 = a.length then ((allF (allF t a).1 b).1, a.length + (allF (allF t a).1 b).2) else allF t a
  | [], b, t => by simp [allF]
  | c :: a, b, t => by
    have ih := allF_append a b (apF t c).1
    rw [List.cons_append, allF, allF]
    split
    · rw [ih]
      simp only [List.length_cons, Nat.add_right_cancel_iff]
      split
      · simp only [Prod.mk.injEq, true_and]; omega
      · rfl
    · rw [if_neg (by simp)]

end Go.Proofs.YtellipmolheaaaaGreatDoor

set_option linter.unusedSimpArgs false
set_option maxRecDepth 10000
namespace Go.Proofs.YtellipmolheaaaaGreatDoor
open Go Go.RowKit

/-! ### logs that fit a tree -/

theorem apF_yes {t : List Nod} {c : Cmd} (h : (apF t c).2 = true) : getT t c.p = c.f ∧ (treePutF t c.p c.t).2 = true ∧ (apF t c).1 = putF t c.p c.t := by
  unfold apF at h ⊢
  split at h
  · rename_i h1
    rw [if_pos h1]
    exact ⟨h1.1, h1.2, (treePutF_ok h1.2).2.2.2.1⟩
  · cases h

theorem apF_other {t : List Nod} {c : Cmd} (ht : treeOk t = true) (h : (apF t c).2 = true) {q : List UInt8} (hq : q ≠ c.p) : getT (apF t c).1 q = getT t q := by
  obtain ⟨h1, h2, h3⟩ := apF_yes h
  rw [h3, getT, getT, getF_put ((treeOk_iff t).1 ht).2.1 (treePutF_ok h2).2.2.1, if_neg hq]

theorem con_zero {c : Con} (h : conOk c = true) (hk : c.k = 0) : c = ⟨0, 0⟩ := by
  refine con_eta hk ?_
  simp only [conOk, hk] at h
  simpa using h

theorem cmdOk_con {c : Cmd} (h : cmdOk c = true) : conOk c.f = true ∧ conOk c.t = true := by
  simp only [cmdOk, Bool.and_eq_true] at h
  exact ⟨h.1.1.2, h.1.2⟩

theorem allF_le : ∀ (cs : List Cmd) (t : List Nod), (allF t cs).2 ≤ cs.length
  | [], t => Nat.le_refl _
  | c :: r, t => by
    unfold allF
    split
    · have := allF_le r (apF t c).1
      simp only [List.length_cons]
      omega
    · simp

theorem all_at {t : List Nod} {a b : List Cmd} {x : Cmd} (h : (allF t (a ++ x :: b)).2 = (a ++ x :: b).length) : (allF t a).2 = a.length ∧ (apF (allF t a).1 x).2 = true := by
  rw [allF_append] at h
  by_cases h1 : (allF t a).2 = a.length
  · rw [if_pos h1] at h
    refine ⟨h1, ?_⟩
    cases h2 : (apF (allF t a).1 x).2 with
    | true => rfl
    | false =>
      exfalso
      rw [allF, h2] at h
      simp at h
  · exfalso
    rw [if_neg h1] at h
    simp only [List.length_append, List.length_cons] at h
    have := h1
    have hle : (allF t a).2 ≤ a.length := allF_le a t
    omega

end Go.Proofs.YtellipmolheaaaaGreatDoor
