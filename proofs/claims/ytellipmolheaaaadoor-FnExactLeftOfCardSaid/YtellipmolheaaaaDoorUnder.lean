import Derived.Test.YtellipmolheaaaaDoorPath
set_option linter.unusedSimpArgs false
set_option maxRecDepth 10000
namespace Go.Proofs.YtellipmolheaaaaDoor
open Go Go.RowKit

/-! ### under a path -/

def underS (a b : List UInt8) : Bool := (decide (a = [47]) && !decide (b = [47])) || (decide (a.length < b.length) && decide (b.take a.length = a))
def underI (a b : List UInt8) : Bool := if a = [47] then !decide (b = [47]) else decide (a.length + 1 ≤ b.length) && decide (b.take (a.length + 1) = a ++ [47])

theorem pth_drop : ∀ (k : Nat) (cs : List UInt8), (pth cs).drop (2 * k) = pth (cs.drop k)
  | 0, _ => rfl
  | k + 1, [] => rfl
  | k + 1, c :: cs => by
    have ih := pth_drop k cs
    have e : pth (c :: cs) = 47 :: c :: pth cs := rfl
    rw [e, show 2 * (k + 1) = 2 * k + 1 + 1 by omega]
    simp only [List.drop_succ_cons, ih]

theorem pth_at {k : Nat} {cs : List UInt8} (h : k < cs.length) : (pth cs)[2 * k]? = some 47 := by
  have h1 : (pth cs)[2 * k]? = ((pth cs).drop (2 * k))[0]? := by rw [List.getElem?_drop]; simp
  rw [h1, pth_drop]
  cases hd : cs.drop k with
  | nil => have := congrArg List.length hd; simp at this; omega
  | cons c l => rfl

theorem pth_ne {cs : List UInt8} : pth cs ≠ [47] := fun e => by
  have := congrArg List.length e
  rw [pth_len] at this
  simp at this
  omega

/-- both ways to say it are one on paths -/
theorem under_eq {a b : List UInt8} (ha : pathOk a = true) (hb : pathOk b = true) : underS a b = underI a b := by
  unfold underS underI
  rcases pathOk_form ha with rfl | ⟨us, a0, a1, a2, rfl⟩
  · rw [if_pos rfl]
    by_cases hb : b = [47]
    · subst hb; rfl
    · simp [hb]
  · rw [if_neg pth_ne]
    simp only [pth_ne, decide_false, Bool.false_and, Bool.false_or]
    rcases pathOk_form hb with rfl | ⟨bs, b0, b1, b2, rfl⟩
    · have h1 : ¬ (pth us).length < [(47 : UInt8)].length := by
        rw [pth_len]
        cases us with
        | nil => exact absurd rfl a0
        | cons _ _ => simp
      have h2 : ¬ (pth us).length + 1 ≤ [(47 : UInt8)].length := by omega
      simp only [h1, h2, decide_false, Bool.false_and]
    · by_cases hl : (pth us).length < (pth bs).length
      · have h2 : (pth us).length + 1 ≤ (pth bs).length := by omega
        simp only [hl, h2, decide_true, Bool.true_and]
        rw [decide_eq_decide]
        have h3 : us.length < bs.length := by rw [pth_len, pth_len] at hl; omega
        have h4 : (pth bs).take ((pth us).length + 1) = (pth bs).take (pth us).length ++ [47] := by
          rw [List.take_add_one, pth_len us, pth_at h3]; rfl
        rw [h4]
        constructor
        · intro h; rw [h]
        · intro h; exact List.append_cancel_right h
      · have h2 : ¬ (pth us).length + 1 ≤ (pth bs).length := by omega
        simp only [hl, h2, decide_false, Bool.false_and]

end Go.Proofs.YtellipmolheaaaaDoor
