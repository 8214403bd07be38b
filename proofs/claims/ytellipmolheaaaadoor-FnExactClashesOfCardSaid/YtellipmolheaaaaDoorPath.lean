import Derived.Test.YtellipmolheaaaaDoorTree
set_option linter.unusedSimpArgs false
set_option maxRecDepth 10000
namespace Go.Proofs.YtellipmolheaaaaDoor
open Go Go.RowKit

/-! ### the form of a path -/

def nm (c : UInt8) : Bool := decide (97 ≤ c.toNat) && decide (c.toNat ≤ 100)
/-- the path of some names -/
def pth (cs : List UInt8) : List UInt8 := cs.flatMap fun c => [47, c]

def joinS : List (List UInt8) → List UInt8
  | [] => []
  | [x] => x
  | x :: y :: l => x ++ 47 :: joinS (y :: l)

theorem join_spl : ∀ r : List UInt8, joinS (spl r) = r
  | [] => rfl
  | c :: r => by
    have ih := join_spl r
    simp only [spl]
    split
    · rename_i h
      subst h
      cases hs : spl r with
      | nil => exact absurd hs (spl_ne r)
      | cons y l => rw [hs] at ih; simp [joinS, ih]
    · cases hs : spl r with
      | nil => exact absurd hs (spl_ne r)
      | cons y l =>
        rw [hs] at ih
        simp only
        cases l with
        | nil => simp [joinS] at ih ⊢; exact ih
        | cons z l => simp [joinS] at ih ⊢; exact ih

theorem single_of : ∀ l : List (List UInt8), l.all isName = true → ∃ cs : List UInt8, l = cs.map (fun x => [x]) ∧ ∀ x ∈ cs, nm x = true
  | [], _ => ⟨[], rfl, fun _ h => by cases h⟩
  | x :: l, h => by
    simp only [List.all_cons, Bool.and_eq_true] at h
    obtain ⟨cs, rfl, h2⟩ := single_of l h.2
    match x, h.1 with
    | [c], h1 => exact ⟨c :: cs, rfl, fun y hy => (List.mem_cons.1 hy).elim (fun e => e ▸ h1) (h2 y)⟩

theorem join_single : ∀ (c : UInt8) (cs : List UInt8), 47 :: joinS ((c :: cs).map fun x => [x]) = pth (c :: cs)
  | c, [] => rfl
  | c, d :: cs => by
    have ih := join_single d cs
    have e : pth (c :: d :: cs) = 47 :: c :: pth (d :: cs) := rfl
    rw [e, ← ih]
    rfl

theorem pathOk_form {p : List UInt8} (h : pathOk p = true) : p = [47] ∨ ∃ cs : List UInt8, cs ≠ [] ∧ cs.length ≤ 4 ∧ (∀ x ∈ cs, nm x = true) ∧ p = pth cs := by
  simp only [pathOk, Bool.or_eq_true, decide_eq_true_eq] at h
  rcases h with h | h
  · exact .inl h
  · right
    match p, h with
    | c :: r, h =>
      simp only [Bool.and_eq_true, decide_eq_true_eq] at h
      obtain ⟨rfl, h1, h2⟩ := h
      obtain ⟨cs, hs, hn⟩ := single_of _ h1
      have hj := join_spl r
      rw [hs] at hj h2
      cases cs with
      | nil => exact absurd hs (spl_ne r)
      | cons c cs =>
        refine ⟨c :: cs, by simp, by simpa using h2, hn, ?_⟩
        rw [← join_single, hj]

theorem pth_len : ∀ cs : List UInt8, (pth cs).length = 2 * cs.length
  | [] => rfl
  | c :: cs => by
    have ih := pth_len cs
    have e : pth (c :: cs) = 47 :: c :: pth cs := rfl
    rw [e]
    simp only [List.length_cons, ih]
    omega

theorem depth_path {p : List UInt8} (h : 0 < depthF p) : pathOk p = true ∧ p ≠ [47] := by
  have := pathOk_depth p
  rw [decide_eq_true h, Bool.and_eq_true, Bool.not_eq_true', decide_eq_false_iff_not] at this
  exact this

/-! ### what is in a tree -/

end Go.Proofs.YtellipmolheaaaaDoor
