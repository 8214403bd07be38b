import Derived.Test.YtellipmolheaaaaGreatDoorConK
set_option linter.unusedSimpArgs false
set_option maxRecDepth 10000
namespace Go.Proofs.YtellipmolheaaaaGreatDoor
open Go Go.RowKit

/-! ### the plain laws of trees -/

theorem less_irrefl (a : List UInt8) : Op.bytesLess a a = false := by
  have := less_total a a
  simp at this
  exact this

theorem less_trans : ∀ {a b c : List UInt8}, Op.bytesLess a b = true → Op.bytesLess b c = true → Op.bytesLess a c = true
  | _, [], _, h, _ => by cases ‹List UInt8› <;> simp [Op.bytesLess] at h
  | _, _ :: _, [], _, h => by simp [Op.bytesLess] at h
  | [], _ :: _, _ :: _, _, _ => rfl
  | a :: x, b :: y, c :: z, h, h' => by
    simp only [Op.bytesLess, Bool.or_eq_true, decide_eq_true_eq, Bool.and_eq_true, beq_iff_eq] at h h' ⊢
    rcases h with h | ⟨h, h1⟩ <;> rcases h' with h' | ⟨h', h2⟩
    · exact .inl (UInt8.lt_trans h h')
    · subst h'; exact .inl h
    · subst h; exact .inl h'
    · subst h; subst h'; exact .inr ⟨rfl, less_trans h1 h2⟩

theorem less_ne {a b : List UInt8} (h : Op.bytesLess a b = true) : a ≠ b := fun e => by subst e; rw [less_irrefl] at h; cases h

theorem less_take : ∀ (k : Nat) (s : List UInt8), k < s.length → Op.bytesLess (s.take k) s = true
  | 0, _ :: _, _ => rfl
  | k + 1, a :: s, h => by
    simp only [List.take_succ_cons, Op.bytesLess, less_take k s (by simpa using h)]
    simp
  | _, [], h => by simp at h

theorem nod_elt (t : List Nod) : ∀ y ∈ t.map nodV, EltOk 3 y := fun y hy => by
  obtain ⟨n, _, rfl⟩ := List.mem_map.1 hy
  refine ⟨rfl, fun c hc => ?_⟩
  simp [nodV, Value.cells] at hc
  rcases hc with rfl | rfl | rfl <;> rfl

def srt (t : List Nod) : Prop := t.Pairwise fun a b => Op.bytesLess a.p b.p = true

/-- what a node has to be in a tree -/
def nodP (t : List Nod) (x : Nod) : Prop := 0 < depthF x.p ∧ conOk x.c = true ∧ x.c.k ≠ 0 ∧ (getT t (parentF x.p)).k = 1

theorem srt_of {t : List Nod} (h : ∀ (i : Nat) x y, t[i]? = some x → t[i + 1]? = some y → Op.bytesLess x.p y.p = true) : srt t := by
  have key : ∀ (d i : Nat) x y, t[i]? = some x → t[i + 1 + d]? = some y → Op.bytesLess x.p y.p = true := by
    intro d
    induction d with
    | zero => exact h
    | succ d ih =>
      intro i x y hx hy
      have hlt := (List.getElem?_eq_some_iff.1 hy).1
      obtain ⟨z, hz⟩ := at_some (l := t) (i := i + 1 + d) (by omega)
      exact less_trans (ih i x z hx hz) (h _ z y hz hy)
  rw [srt, List.pairwise_iff_getElem]
  intro i j hi hj hij
  exact key (j - i - 1) i _ _ (List.getElem?_eq_getElem hi) (by rw [show i + 1 + (j - i - 1) = j by omega]; exact List.getElem?_eq_getElem hj)

theorem depth_pos (p : List UInt8) : decide (depthF p < 1) = !decide (0 < depthF p) := by
  by_cases h : 0 < depthF p
  · have : ¬ depthF p < 1 := by omega
    simp [h, this]
  · have : depthF p < 1 := by omega
    simp [h, this]

theorem nodeOk_iff (t : List Nod) (i : Nat) (x y : Nod) : nodeOk t i x y = true ↔ nodP t x ∧ (0 < i → Op.bytesLess y.p x.p = true) := by
  unfold nodeOk nodP
  rw [depth_pos]
  simp only [Bool.and_eq_true, Bool.not_eq_true', Bool.or_eq_false_iff, Bool.not_eq_false', decide_eq_true_eq, decide_eq_false_iff_not, Bool.and_eq_false_iff]
  constructor
  · rintro ⟨⟨⟨⟨h1, h2⟩, h3⟩, h4⟩, h5⟩
    exact ⟨⟨h1, h2, h3, h5⟩, fun h => h4.resolve_left (by omega)⟩
  · rintro ⟨⟨h1, h2, h3, h5⟩, h4⟩
    refine ⟨⟨⟨⟨h1, h2⟩, h3⟩, ?_⟩, h5⟩
    by_cases h : 0 < i
    · exact .inr (h4 h)
    · exact .inl (by omega)

theorem treeOk_iff (t : List Nod) : treeOk t = true ↔ (∀ x ∈ t, nodP t x) ∧ srt t ∧ t.length ≤ 10 := by
  have hat : ∀ (i : Nat) x y, t[i]? = some x → t[((i : Int) - 1).toNat]? = some y → nodeAt t i = nodeOk t i x y := fun i x y hx hy => by simp only [nodeAt, hx, hy]
  simp only [treeOk, Bool.and_eq_true, List.all_eq_true, List.mem_range, decide_eq_true_eq]
  constructor
  · rintro ⟨h, hl⟩
    have h' : ∀ (i : Nat) x y, t[i]? = some x → t[((i : Int) - 1).toNat]? = some y → nodP t x ∧ (0 < i → Op.bytesLess y.p x.p = true) := fun i x y hx hy => by
      rw [← nodeOk_iff, ← hat i x y hx hy]
      exact h i (List.getElem?_eq_some_iff.1 hx).1
    refine ⟨fun x hx => ?_, srt_of fun i x y hx hy => ?_, hl⟩
    · obtain ⟨i, hi⟩ := List.mem_iff_getElem?.1 hx
      obtain ⟨y, hy⟩ := at_some (l := t) (i := ((i : Int) - 1).toNat) (by have := (List.getElem?_eq_some_iff.1 hi).1; omega)
      exact (h' i x y hi hy).1
    · exact (h' (i + 1) y x hy (by rw [show (((i + 1 : Nat) : Int) - 1).toNat = i by omega]; exact hx)).2 (by omega)
  · rintro ⟨h1, h2, hl⟩
    refine ⟨fun i hi => ?_, hl⟩
    obtain ⟨x, hx⟩ := at_some hi
    obtain ⟨y, hy⟩ := at_some (l := t) (i := ((i : Int) - 1).toNat) (by omega)
    rw [hat i x y hx hy, nodeOk_iff]
    refine ⟨h1 x (List.mem_of_getElem? hx), fun h0 => ?_⟩
    rw [srt, List.pairwise_iff_getElem] at h2
    obtain ⟨hy1, rfl⟩ := List.getElem?_eq_some_iff.1 hy
    obtain ⟨hx1, rfl⟩ := List.getElem?_eq_some_iff.1 hx
    exact h2 _ _ hy1 hx1 (by omega)

theorem pos_len {p : List UInt8} (h : 0 < depthF p) : 2 ≤ p.length := by
  unfold depthF at h
  split at h <;> omega

end Go.Proofs.YtellipmolheaaaaGreatDoor
