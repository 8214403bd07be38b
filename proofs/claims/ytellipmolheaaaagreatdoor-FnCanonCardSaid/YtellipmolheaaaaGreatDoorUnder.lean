import Derived.Test.YtellipmolheaaaaGreatDoorPath
set_option linter.unusedSimpArgs false
set_option maxRecDepth 10000
namespace Go.Proofs.YtellipmolheaaaaGreatDoor
open Go Go.RowKit

/-! ### under a path -/

def underS (a b : List UInt8) : Bool := (decide (a = [47]) && !decide (b = [47])) || (decide (a.length < b.length) && decide (b.take a.length = a))
def underI (a b : List UInt8) : Bool := if a = [47] then !decide (b = [47]) else decide (a.length + 1 ≤ b.length) && decide (b.take (a.length + 1) = a ++ [47])

theorem pth_drop : ∀ (k : Nat) (cs : List UInt8), (pth cs).drop (2 * k) = pth (cs.drop k)
  | 0, _ => rfl
  | k + 1, [] => rfl
  | k + 1, c :: cs => by
    have ih := pth_drop k cs
    have e : pth (c :: cs) = 47 :: c :: pth cs := rfl
    rw [e, show 2 * (k + 1) = 2 * k + 1 + 1 by omega]
    simp only [List.drop_succ_cons, ih]

theorem pth_at {k : Nat} {cs : List UInt8} (h : k < cs.length) : (pth cs)[2 * k]? = some 47 := by
  have h1 : (pth cs)[2 * k]? = ((pth cs).drop (2 * k))[0]? := by rw [List.getElem?_drop]; simp
  rw [h1, pth_drop]
  cases hd : cs.drop k with
  | nil => have := congrArg List.length hd; simp at this; omega
  | cons c l => rfl

theorem pth_inj : ∀ (a b : List UInt8), pth a = pth b → a = b
  | [], [], _ => rfl
  | [], _ :: _, h => by cases h
  | _ :: _, [], h => by cases h
  | a :: x, b :: y, h => by
    have e : ∀ c (l : List UInt8), pth (c :: l) = 47 :: c :: pth l := fun _ _ => rfl
    rw [e, e] at h
    simp only [List.cons.injEq, true_and] at h
    rw [h.1, pth_inj x y h.2]

theorem pth_ne {cs : List UInt8} : pth cs ≠ [47] := fun e => by
  have := congrArg List.length e
  rw [pth_len] at this
  simp at this
  omega

/-- both ways to say it are one on paths -/
theorem under_eq {a b : List UInt8} (ha : pathOk a = true) (hb : pathOk b = true) : underS a b = underI a b := by
  unfold underS underI
  rcases pathOk_form ha with rfl | ⟨us, a0, a1, a2, rfl⟩
  · rw [if_pos rfl]
    by_cases hb : b = [47]
    · subst hb; rfl
    · simp [hb]
  · rw [if_neg pth_ne]
    simp only [pth_ne, decide_false, Bool.false_and, Bool.false_or]
    rcases pathOk_form hb with rfl | ⟨bs, b0, b1, b2, rfl⟩
    · have h1 : ¬ (pth us).length < [(47 : UInt8)].length := by
        rw [pth_len]
        cases us with
        | nil => exact absurd rfl a0
        | cons _ _ => simp
      have h2 : ¬ (pth us).length + 1 ≤ [(47 : UInt8)].length := by omega
      simp only [h1, h2, decide_false, Bool.false_and]
    · by_cases hl : (pth us).length < (pth bs).length
      · have h2 : (pth us).length + 1 ≤ (pth bs).length := by omega
        simp only [hl, h2, decide_true, Bool.true_and]
        rw [decide_eq_decide]
        have h3 : us.length < bs.length := by rw [pth_len, pth_len] at hl; omega
        have h4 : (pth bs).take ((pth us).length + 1) = (pth bs).take (pth us).length ++ [47] := by
          rw [List.take_add_one, pth_len us, pth_at h3]; rfl
        rw [h4]
        constructor
        · intro h; rw [h]
        · intro h; exact List.append_cancel_right h
      · have h2 : ¬ (pth us).length + 1 ≤ (pth bs).length := by omega
        simp only [hl, h2, decide_false, Bool.false_and]

/-- the form of what is under -/
theorem under_form {a b : List UInt8} (ha : pathOk a = true) (hb : pathOk b = true) (h : underI a b = true) : ∃ us bs : List UInt8, (a = [47] ∧ us = [] ∨ a = pth us ∧ us ≠ []) ∧ b = pth (us ++ bs) ∧ bs ≠ [] ∧ (us ++ bs).length ≤ 4 ∧ ∀ x ∈ us ++ bs, nm x = true := by
  have hS := under_eq ha hb
  rw [h] at hS
  unfold underS at hS
  rcases pathOk_form ha with rfl | ⟨us, a0, a1, a2, rfl⟩
  · rcases pathOk_form hb with rfl | ⟨bs, b0, b1, b2, rfl⟩
    · cases h
    · exact ⟨[], bs, .inl ⟨rfl, rfl⟩, rfl, b0, b1, b2⟩
  · simp only [pth_ne, decide_false, Bool.false_and, Bool.false_or, Bool.and_eq_true, decide_eq_true_eq] at hS
    obtain ⟨h1, h2⟩ := hS
    rcases pathOk_form hb with rfl | ⟨bs, b0, b1, b2, rfl⟩
    · rw [pth_len] at h1
      have : 1 ≤ us.length := by cases us with | nil => exact absurd rfl a0 | cons _ _ => simp
      simp at h1
      omega
    · rw [pth_len, pth_len] at h1
      rw [pth_len, pth_take] at h2
      have h3 := pth_inj _ _ h2
      refine ⟨us, bs.drop us.length, .inr ⟨rfl, a0⟩, ?_, ?_, ?_, ?_⟩
      · conv => rhs; rw [← h3]
        rw [h3, ← h3, List.length_take, Nat.min_eq_left (by omega), List.take_append_drop]
      · intro e
        have := congrArg List.length e
        simp at this
        omega
      · rw [← h3, List.length_take, Nat.min_eq_left (by omega), List.take_append_drop]; exact b1
      · rw [← h3, List.length_take, Nat.min_eq_left (by omega), List.take_append_drop]; exact b2

theorem under_of {us bs : List UInt8} {a : List UInt8} (ha : a = [47] ∧ us = [] ∨ a = pth us ∧ us ≠ []) (hb : bs ≠ []) : underI a (pth (us ++ bs)) = true := by
  rcases ha with ⟨rfl, rfl⟩ | ⟨rfl, h0⟩
  · unfold underI
    rw [if_pos rfl, List.nil_append, decide_eq_false pth_ne]
    rfl
  · have hl : 1 ≤ bs.length := by cases bs with | nil => exact absurd rfl hb | cons _ _ => simp
    unfold underI
    rw [if_neg pth_ne, Bool.and_eq_true, decide_eq_true_eq, decide_eq_true_eq]
    refine ⟨by rw [pth_len, pth_len, List.length_append]; omega, ?_⟩
    rw [List.take_add_one, pth_len us, pth_take, List.take_left, pth_at (by rw [List.length_append]; omega)]
    rfl

/-- a parent is what is above, or under it -/
theorem under_parent {a b : List UInt8} (ha : pathOk a = true) (hb : pathOk b = true) (h : underI a b = true) : parentF b = a ∨ underI a (parentF b) = true := by
  obtain ⟨us, bs, h1, rfl, h3, h4, h5⟩ := under_form ha hb h
  have hne : us ++ bs ≠ [] := fun e => h3 (List.append_eq_nil_iff.1 e).2
  rw [parent_form hne]
  have hbl : 1 ≤ bs.length := by cases bs with | nil => exact absurd rfl h3 | cons _ _ => simp
  by_cases hb1 : bs.length = 1
  · left
    rcases h1 with ⟨rfl, rfl⟩ | ⟨rfl, h0⟩
    · rw [if_pos (by simpa using hb1)]
    · have : 1 ≤ us.length := by cases us with | nil => exact absurd rfl h0 | cons _ _ => simp
      rw [if_neg (by simp; omega), List.length_append, show us.length + bs.length - 1 = us.length by omega, List.take_left]
  · right
    rw [if_neg (by simp; omega), List.length_append, show us.length + bs.length - 1 = us.length + (bs.length - 1) by omega, List.take_length_add_append]
    exact under_of h1 fun e => by have := congrArg List.length e; simp at this; omega

/-- what has something under it is a directory -/
theorem under_dir {t : List Nod} (ht : treeOk t = true) {p : List UInt8} (hp : pathOk p = true) : ∀ (n : Nat) (x : Nod), x.p.length ≤ n → x ∈ t → underI p x.p = true → (getT t p).k = 1
  | 0, x, hn, hx, _ => by
    have := pos_len (((treeOk_iff t).1 ht).1 x hx).1
    omega
  | n + 1, x, hn, hx, hu => by
    obtain ⟨h1, h2, h3, h4⟩ := ((treeOk_iff t).1 ht).1 x hx
    obtain ⟨o1, o2⟩ := depth_path h1
    rcases under_parent hp o1 hu with e | hu'
    · rw [← e]; exact h4
    · have hl := pos_len h1
      have hpl : (parentF x.p).length < x.p.length := by
        unfold parentF
        split
        · rename_i h
          have : underI p [47] = false := by
            unfold underI
            split
            · rfl
            · rename_i hne
              have : 1 ≤ p.length := by cases p with | nil => cases hp | cons _ _ => simp
              have h0 : ¬ p.length + 1 ≤ [(47 : UInt8)].length := by
                simp only [List.length_cons, List.length_nil]
                omega
              simp only [h0, decide_false, Bool.false_and]
          rw [parentF, if_pos h, this] at hu'
          cases hu'
        · rw [List.length_take]; omega
      have hnr : parentF x.p ≠ [47] := by
        intro e
        rw [e] at hu'
        unfold underI at hu'
        split at hu'
        · cases hu'
        · have : 1 ≤ p.length := by cases p with | nil => cases hp | cons _ _ => simp
          simp only [Bool.and_eq_true, decide_eq_true_eq, List.length_cons, List.length_nil] at hu'
          omega
      have hk : (getF t (parentF x.p)).k ≠ 0 := by
        unfold getT at h4
        rw [if_neg hnr] at h4
        omega
      obtain ⟨y, hy, e, _⟩ := getF_mem hk
      exact under_dir ht hp n y (by rw [e]; omega) hy (by rw [e]; exact hu')

end Go.Proofs.YtellipmolheaaaaGreatDoor
