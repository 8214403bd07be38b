import Derived.Test.YtellipmolheaaaaDoorConT
set_option linter.unusedSimpArgs false
set_option maxRecDepth 10000
namespace Go.Proofs.YtellipmolheaaaaDoor
open Go Go.RowKit

/-- where the first one is, or -1 -/
def idxF {α : Type} (p : α → Bool) (t : List α) : Int := match t.findIdx? p with
  | some i => i
  | none => -1

theorem idxF_at {α : Type} {p : α → Bool} {t : List α} {i : Nat} {x : α} (hx : t[i]? = some x) (hp : p x = true) (h : ∀ (j : Nat) y, j < i → t[j]? = some y → p y = false) : idxF p t = i := by
  have : t.findIdx? p = some i := by
    rw [List.findIdx?_eq_some_iff_getElem]
    obtain ⟨hlt, rfl⟩ := List.getElem?_eq_some_iff.1 hx
    exact ⟨hlt, hp, fun j hj => by rw [h j _ hj (List.getElem?_eq_getElem (by omega))]; simp⟩
  simp [idxF, this]

theorem idxF_no {α : Type} {p : α → Bool} {t : List α} (h : ∀ (j : Nat) y, t[j]? = some y → p y = false) : idxF p t = -1 := by
  have : t.findIdx? p = none := by
    rw [List.findIdx?_eq_none_iff]
    intro x hx
    obtain ⟨j, hj⟩ := List.mem_iff_getElem?.1 hx
    exact h j x hj
  simp [idxF, this]

theorem idxF_any {α : Type} (p : α → Bool) (t : List α) : decide (0 ≤ idxF p t) = t.any p := by
  unfold idxF
  cases h : t.findIdx? p with
  | none =>
    rw [List.findIdx?_eq_none_iff] at h
    have : t.any p = false := by rw [List.any_eq_false]; intro x hx; simp [h x hx]
    rw [this]; rfl
  | some i =>
    rw [List.findIdx?_eq_some_iff_getElem] at h
    obtain ⟨h1, h2, _⟩ := h
    have : t.any p = true := List.any_eq_true.2 ⟨_, List.getElem_mem h1, h2⟩
    rw [this]; simp

theorem less_total : ∀ a b : List UInt8, (Op.bytesLess a b || decide (a = b)) = !Op.bytesLess b a
  | [], [] => rfl
  | [], _ :: _ => by simp [Op.bytesLess]
  | _ :: _, [] => by simp [Op.bytesLess]
  | a :: x, b :: y => by
    have ih := less_total x y
    simp only [Op.bytesLess]
    have h3 : a < b ∨ a = b ∨ b < a := by
      rcases Nat.lt_trichotomy a.toNat b.toNat with h | h | h
      · exact .inl (UInt8.lt_iff_toNat_lt.2 h)
      · exact .inr (.inl (UInt8.toNat_inj.1 h))
      · exact .inr (.inr (UInt8.lt_iff_toNat_lt.2 h))
    rcases h3 with h | h | h
    · have h1 : ¬ b < a := UInt8.lt_asymm h
      have h2 : ¬ b = a := fun e => by subst e; exact UInt8.lt_irrefl _ h
      simp [h, h1, h2]
    · subst h
      have h1 : ¬ a < a := UInt8.lt_irrefl _
      simp only [h1, decide_false, beq_self_eq_true, Bool.true_and, Bool.false_or, List.cons.injEq, true_and, ih]
    · have h1 : ¬ a < b := UInt8.lt_asymm h
      have h2 : ¬ a = b := fun e => by subst e; exact UInt8.lt_irrefl _ h
      simp [h, h1, h2]

end Go.Proofs.YtellipmolheaaaaDoor
