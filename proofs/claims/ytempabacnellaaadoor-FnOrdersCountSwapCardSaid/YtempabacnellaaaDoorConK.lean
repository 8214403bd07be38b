import Derived.Test.YtempabacnellaaaDoorConT
set_option linter.unusedSimpArgs false
set_option maxRecDepth 10000
namespace Go.Proofs.YtempabacnellaaaDoor
open Go Go.RowKit

/-- where the first one is, or -1 -/
def idxF {α : Type} (p : α → Bool) (t : List α) : Int := match t.findIdx? p with
  | some i => i
  | none => -1

theorem idxF_at {α : Type} {p : α → Bool} {t : List α} {i : Nat} {x : α} (hx : t[i]? = some x) (hp : p x = true) (h : ∀ (j : Nat) y, j < i → t[j]? = some y → p y = false) : idxF p t = i := by
  have : t.findIdx? p = some i := by
    rw [List.findIdx?_eq_some_iff_getElem]
    obtain ⟨hlt, rfl⟩ := List.getElem?_eq_some_iff.1 hx
    exact ⟨hlt, hp, fun j hj => by rw [h j _ hj (List.getElem?_eq_getElem (by omega))]; simp⟩
  simp [idxF, this]

theorem idxF_no {α : Type} {p : α → Bool} {t : List α} (h : ∀ (j : Nat) y, t[j]? = some y → p y = false) : idxF p t = -1 := by
  have : t.findIdx? p = none := by
    rw [List.findIdx?_eq_none_iff]
    intro x hx
    obtain ⟨j, hj⟩ := List.mem_iff_getElem?.1 hx
    exact h j x hj
  simp [idxF, this]

theorem idxF_any {α : Type} (p : α → Bool) (t : List α) : decide (0 ≤ idxF p t) = t.any p := by
  unfold idxF
  cases h : t.findIdx? p with
  | none =>
    rw [List.findIdx?_eq_none_iff] at h
    have : t.any p = false := by rw [List.any_eq_false]; intro x hx; simp [h x hx]
    rw [this]; rfl
  | some i =>
    rw [List.findIdx?_eq_some_iff_getElem] at h
    obtain ⟨h1, h2, _⟩ := h
    have : t.any p = true := List.any_eq_true.2 ⟨_, List.getElem_mem h1, h2⟩
    rw [this]; simp

theorem getF_idx (t : List Nod) (p : List UInt8) : (idxF (fun n : Nod => decide (n.p = p)) t = -1 ∧ getF t p = ⟨0, 0⟩) ∨ ∃ (i : Nat) (x : Nod), idxF (fun n : Nod => decide (n.p = p)) t = i ∧ t[i]? = some x ∧ getF t p = x.c := by
  induction t with
  | nil => exact .inl ⟨rfl, rfl⟩
  | cons n r ih =>
    by_cases h : n.p = p
    · exact .inr ⟨0, n, idxF_at rfl (by simp [h]) (fun j y hj => by omega), rfl, by simp [getF, h]⟩
    · unfold idxF at ih ⊢
      rw [List.findIdx?_cons]
      simp only [h, decide_false, Bool.false_eq_true, if_false, getF]
      rcases ih with ⟨h1, h2⟩ | ⟨i, x, h1, h2, h3⟩
      · left
        cases hf : r.findIdx? (fun n => decide (n.p = p)) with
        | none => exact ⟨rfl, h2⟩
        | some j => rw [hf] at h1; simp at h1 <;> omega
      · right
        cases hf : r.findIdx? (fun n => decide (n.p = p)) with
        | none => rw [hf] at h1; simp at h1 <;> omega
        | some j =>
          rw [hf] at h1
          obtain rfl : j = i := by simp at h1; omega
          exact ⟨j + 1, x, by simp, by simpa using h2, h3⟩

/-- what impl checks node by node -/
def baseOk (i : Nat) (x y : Nod) : Bool :=
  !(!pathOk x.p || decide (x.p = [47]) || (decide ((0 : Int) < i) && !Op.bytesLess y.p x.p) || !conOk x.c || decide (x.c.k = 0))
def baseAt (t : List Nod) (i : Nat) : Bool := match t[i]?, t[((i : Int) - 1).toNat]? with
  | some x, some y => baseOk i x y
  | _, _ => true

theorem less_total : ∀ a b : List UInt8, (Op.bytesLess a b || decide (a = b)) = !Op.bytesLess b a
  | [], [] => rfl
  | [], _ :: _ => by simp [Op.bytesLess]
  | _ :: _, [] => by simp [Op.bytesLess]
  | a :: x, b :: y => by
    have ih := less_total x y
    simp only [Op.bytesLess]
    have h3 : a < b ∨ a = b ∨ b < a := by
      rcases Nat.lt_trichotomy a.toNat b.toNat with h | h | h
      · exact .inl (UInt8.lt_iff_toNat_lt.2 h)
      · exact .inr (.inl (UInt8.toNat_inj.1 h))
      · exact .inr (.inr (UInt8.lt_iff_toNat_lt.2 h))
    rcases h3 with h | h | h
    · have h1 : ¬ b < a := UInt8.lt_asymm h
      have h2 : ¬ b = a := fun e => by subst e; exact UInt8.lt_irrefl _ h
      simp [h, h1, h2]
    · subst h
      have h1 : ¬ a < a := UInt8.lt_irrefl _
      simp only [h1, decide_false, beq_self_eq_true, Bool.true_and, Bool.false_or, List.cons.injEq, true_and, ih]
    · have h1 : ¬ a < b := UInt8.lt_asymm h
      have h2 : ¬ a = b := fun e => by subst e; exact UInt8.lt_irrefl _ h
      simp [h, h1, h2]

theorem nodeOk_base (t : List Nod) (i : Nat) (x y : Nod) : nodeOk t i x y = (baseOk i x y && decide ((getT t (parentF x.p)).k = 1)) := by
  have h := pathOk_depth x.p
  have hd : decide (depthF x.p < 1) = !decide (0 < depthF x.p) := by
    by_cases h : 0 < depthF x.p
    · have : ¬ depthF x.p < 1 := by omega
      simp [h, this]
    · have : depthF x.p < 1 := by omega
      simp [h, this]
  unfold nodeOk baseOk
  rw [hd, ← h]
  cases pathOk x.p <;> cases decide (x.p = [47]) <;> cases conOk x.c <;> cases decide (x.c.k = 0) <;> cases decide ((0 : Int) < i) <;> cases Op.bytesLess y.p x.p <;> simp

theorem base_len {i : Nat} {x y : Nod} (h : baseOk i x y = true) : 2 ≤ x.p.length := by
  simp only [baseOk, Bool.not_eq_true', Bool.or_eq_false_iff, Bool.not_eq_false', decide_eq_false_iff_not] at h
  obtain ⟨⟨⟨⟨h1, h2⟩, _⟩, _⟩, _⟩ := h
  match hp : x.p, h1, h2 with
  | [], h1, _ => cases h1
  | [a], h1, h2 =>
    by_cases ha : a = 47
    · subst ha; exact absurd rfl h2
    · simp [pathOk, ha] at h1
  | _ :: _ :: _, _, _ => simp

theorem baseAt_len {t : List Nod} {i : Nat} {x : Nod} (hx : t[i]? = some x) (h : baseAt t i = true) : 2 ≤ x.p.length := by
  have hi := (List.getElem?_eq_some_iff.1 hx).1
  obtain ⟨y, hy⟩ := at_some (l := t) (i := ((i : Int) - 1).toNat) (by omega)
  simp only [baseAt, hx, hy] at h
  exact base_len h

theorem nodeAt_base {t : List Nod} {i : Nat} {x : Nod} (hx : t[i]? = some x) : nodeAt t i = (baseAt t i && decide ((getT t (parentF x.p)).k = 1)) := by
  have hi := (List.getElem?_eq_some_iff.1 hx).1
  obtain ⟨y, hy⟩ := at_some (l := t) (i := ((i : Int) - 1).toNat) (by omega)
  simp only [nodeAt, baseAt, hx, hy, nodeOk_base]

theorem treeOk_base {t : List Nod} (h : ∀ i, i < t.length → baseAt t i = true) : treeOk t = (decide ((t.length : Int) ≤ 10) && !t.any fun n => !decide ((getT t (parentF n.p)).k = 1)) := by
  have h1 : decide (t.length ≤ 10) = decide ((t.length : Int) ≤ 10) := by rw [decide_eq_decide]; omega
  have h2 : (List.range t.length).all (nodeAt t) = !t.any fun n => !decide ((getT t (parentF n.p)).k = 1) := by
    rw [Bool.eq_iff_iff, List.all_eq_true, Bool.not_eq_true', List.any_eq_false]
    constructor
    · intro hA x hx
      obtain ⟨i, hi⟩ := List.mem_iff_getElem?.1 hx
      have := hA i (List.mem_range.2 (List.getElem?_eq_some_iff.1 hi).1)
      rw [nodeAt_base hi, Bool.and_eq_true] at this
      simp [this.2]
    · intro hA i hi
      have hi := List.mem_range.1 hi
      obtain ⟨x, hx⟩ := at_some hi
      have := hA x (List.mem_of_getElem? hx)
      rw [nodeAt_base hx, h i hi]
      simpa using this
  rw [treeOk, h1, h2, Bool.and_comm]

end Go.Proofs.YtempabacnellaaaDoor
