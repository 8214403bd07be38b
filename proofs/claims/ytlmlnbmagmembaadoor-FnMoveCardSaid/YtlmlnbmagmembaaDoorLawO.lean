import Derived.Test.YtlmlnbmagmembaaDoorLawN
set_option linter.unusedSimpArgs false
set_option maxRecDepth 10000
namespace Go.Proofs.YtlmlnbmagmembaaDoor
open Go Go.RowKit

theorem logApF_no {t : List Nod} {cs : List Cmd} (h : (!treeOk t || !logOk cs) = true) : logApF t cs = ([], -1) := by rw [logApF, if_pos h]
theorem logApF_yes {t : List Nod} {cs : List Cmd} (h : (!treeOk t || !logOk cs) = false) : logApF t cs = ((allF t cs).1, ((allF t cs).2 : Int)) := by rw [logApF, h]; rfl

theorem allF_ok : ∀ (cs : List Cmd) {t : List Nod}, treeOk t = true → treeOk (allF t cs).1 = true
  | [], _, h => h
  | c :: r, t, h => by
    unfold allF
    split
    · exact allF_ok r (apF_ok h)
    · exact h

theorem allF_append : ∀ (a b : List Cmd) (t : List Nod), allF t (a ++ b) = if (allF t a).2 = a.length then ((allF (allF t a).1 b).1, a.length + (allF (allF t a).1 b).2) else allF t a
  | [], b, t => by simp [allF]
  | c :: a, b, t => by
    have ih := allF_append a b (apF t c).1
    rw [List.cons_append, allF, allF]
    split
    · rw [ih]
      simp only [List.length_cons, Nat.add_right_cancel_iff]
      split
      · simp only [Prod.mk.injEq, true_and]; omega
      · rfl
    · rw [if_neg (by simp)]

theorem allF_break : ∀ (cs : List Cmd) (t : List Nod), (allF t cs).2 < cs.length → ∃ c, cs[(allF t cs).2]? = some c ∧ (apF (allF t cs).1 c).2 = false
  | [], t, h => by simp at h
  | c :: r, t, h => by
    unfold allF at h ⊢
    split
    · rename_i h1
      rw [if_pos h1] at h
      obtain ⟨d, hd, hd2⟩ := allF_break r (apF t c).1 (by simpa using h)
      exact ⟨d, by simpa using hd, hd2⟩
    · rename_i h1
      exact ⟨c, rfl, by simpa using h1⟩

theorem logOk_sub {a b : List Cmd} (h : a.Sublist b) (hb : logOk b = true) : logOk a = true := by
  simp only [logOk, Bool.and_eq_true, decide_eq_true_eq, List.all_eq_true] at hb ⊢
  exact ⟨Nat.le_trans h.length_le hb.1, fun x hx => hb.2 x (h.subset hx)⟩

end Go.Proofs.YtlmlnbmagmembaaDoor
