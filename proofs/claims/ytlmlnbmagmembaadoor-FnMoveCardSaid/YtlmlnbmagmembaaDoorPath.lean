import Derived.Test.YtlmlnbmagmembaaDoorTree
set_option linter.unusedSimpArgs false
set_option maxRecDepth 10000
namespace Go.Proofs.YtlmlnbmagmembaaDoor
open Go Go.RowKit

/-! ### the form of a path -/

def nm (c : UInt8) : Bool := decide (97 ≤ c.toNat) && decide (c.toNat ≤ 100)
/-- the path of some names -/
def pth (cs : List UInt8) : List UInt8 := cs.flatMap fun c => [47, c]

def joinS : List (List UInt8) → List UInt8
  | [] => []
  | [x] => x
  | x :: y :: l => x ++ 47 :: joinS (y :: l)

theorem join_spl : ∀ r : List UInt8, joinS (spl r) = r
  | [] => rfl
  | c :: r => by
    have ih := join_spl r
    simp only [spl]
    split
    · rename_i h
      subst h
      cases hs : spl r with
      | nil => exact absurd hs (spl_ne r)
      | cons y l => rw [hs] at ih; simp [joinS, ih]
    · cases hs : spl r with
      | nil => exact absurd hs (spl_ne r)
      | cons y l =>
        rw [hs] at ih
        simp only
        cases l with
        | nil => simp [joinS] at ih ⊢; exact ih
        | cons z l => simp [joinS] at ih ⊢; exact ih

theorem nm_ne {c : UInt8} (h : nm c = true) : c ≠ 47 := by
  rintro rfl
  simp [nm] at h

theorem spl_pth : ∀ (c : UInt8) (cs : List UInt8), (∀ x ∈ c :: cs, nm x = true) → spl (c :: pth cs) = (c :: cs).map fun x => [x]
  | c, [], h => by
    have := nm_ne (h c (by simp))
    simp [pth, spl, this]
  | c, d :: cs, h => by
    have h1 := nm_ne (h c (by simp))
    have ih := spl_pth d cs fun x hx => h x (List.mem_cons_of_mem _ hx)
    have e : pth (d :: cs) = 47 :: d :: pth cs := rfl
    rw [e, spl, if_neg h1, spl, if_pos rfl, ih]
    simp

theorem single_of : ∀ l : List (List UInt8), l.all isName = true → ∃ cs : List UInt8, l = cs.map (fun x => [x]) ∧ ∀ x ∈ cs, nm x = true
  | [], _ => ⟨[], rfl, fun _ h => by cases h⟩
  | x :: l, h => by
    simp only [List.all_cons, Bool.and_eq_true] at h
    obtain ⟨cs, rfl, h2⟩ := single_of l h.2
    match x, h.1 with
    | [c], h1 => exact ⟨c :: cs, rfl, fun y hy => (List.mem_cons.1 hy).elim (fun e => e ▸ h1) (h2 y)⟩

theorem join_single : ∀ (c : UInt8) (cs : List UInt8), 47 :: joinS ((c :: cs).map fun x => [x]) = pth (c :: cs)
  | c, [] => rfl
  | c, d :: cs => by
    have ih := join_single d cs
    have e : pth (c :: d :: cs) = 47 :: c :: pth (d :: cs) := rfl
    rw [e, ← ih]
    rfl

theorem pathOk_form {p : List UInt8} (h : pathOk p = true) : p = [47] ∨ ∃ cs : List UInt8, cs ≠ [] ∧ cs.length ≤ 4 ∧ (∀ x ∈ cs, nm x = true) ∧ p = pth cs := by
  simp only [pathOk, Bool.or_eq_true, decide_eq_true_eq] at h
  rcases h with h | h
  · exact .inl h
  · right
    match p, h with
    | c :: r, h =>
      simp only [Bool.and_eq_true, decide_eq_true_eq] at h
      obtain ⟨rfl, h1, h2⟩ := h
      obtain ⟨cs, hs, hn⟩ := single_of _ h1
      have hj := join_spl r
      rw [hs] at hj h2
      cases cs with
      | nil => exact absurd hs (spl_ne r)
      | cons c cs =>
        refine ⟨c :: cs, by simp, by simpa using h2, hn, ?_⟩
        rw [← join_single, hj]

theorem pathOk_pth {cs : List UInt8} (h0 : cs ≠ []) (h1 : cs.length ≤ 4) (h2 : ∀ x ∈ cs, nm x = true) : pathOk (pth cs) = true := by
  cases cs with
  | nil => exact absurd rfl h0
  | cons c cs =>
    have e : pth (c :: cs) = 47 :: c :: pth cs := rfl
    rw [e]
    simp only [pathOk, Bool.or_eq_true, Bool.and_eq_true, decide_eq_true_eq]
    right
    rw [spl_pth c cs h2]
    refine ⟨by trivial, ?_, by simpa using h1⟩
    rw [List.all_eq_true]
    intro x hx
    obtain ⟨y, hy, rfl⟩ := List.mem_map.1 hx
    exact h2 y hy

theorem pth_len : ∀ cs : List UInt8, (pth cs).length = 2 * cs.length
  | [] => rfl
  | c :: cs => by
    have ih := pth_len cs
    have e : pth (c :: cs) = 47 :: c :: pth cs := rfl
    rw [e]
    simp only [List.length_cons, ih]
    omega

theorem pth_take : ∀ (k : Nat) (cs : List UInt8), (pth cs).take (2 * k) = pth (cs.take k)
  | 0, _ => rfl
  | k + 1, [] => rfl
  | k + 1, c :: cs => by
    have ih := pth_take k cs
    have e : pth (c :: cs) = 47 :: c :: pth cs := rfl
    rw [e, show 2 * (k + 1) = 2 * k + 1 + 1 by omega]
    simp only [List.take_succ_cons, ih]
    rfl

theorem parent_form {cs : List UInt8} (h : cs ≠ []) : parentF (pth cs) = if cs.length = 1 then [47] else pth (cs.take (cs.length - 1)) := by
  have h1 : 1 ≤ cs.length := by cases cs with | nil => exact absurd rfl h | cons _ _ => simp
  unfold parentF
  rw [pth_len]
  by_cases hc : cs.length = 1
  · rw [if_pos (by omega), if_pos hc]
  · rw [if_neg (by omega), if_neg hc, show 2 * cs.length - 2 = 2 * (cs.length - 1) by omega, pth_take]

/-- the parent of a path is one -/
theorem parent_ok {p : List UInt8} (h : pathOk p = true) (hr : p ≠ [47]) : pathOk (parentF p) = true := by
  obtain ⟨cs, h0, h1, h2, rfl⟩ := (pathOk_form h).resolve_left hr
  rw [parent_form h0]
  split
  · rfl
  · have h1' : 1 ≤ cs.length := by cases cs with | nil => exact absurd rfl h0 | cons _ _ => simp
    refine pathOk_pth (fun e => ?_) (by rw [List.length_take]; omega) (fun x hx => h2 x (List.mem_of_mem_take hx))
    have := congrArg List.length e
    simp at this
    omega

theorem depth_path {p : List UInt8} (h : 0 < depthF p) : pathOk p = true ∧ p ≠ [47] := by
  have := pathOk_depth p
  rw [decide_eq_true h, Bool.and_eq_true, Bool.not_eq_true', decide_eq_false_iff_not] at this
  exact this

theorem depth_of {p : List UInt8} (h : pathOk p = true) (hr : p ≠ [47]) : 0 < depthF p := by
  have := pathOk_depth p
  rw [h, decide_eq_false hr] at this
  simpa using this.symm

/-! ### what is in a tree -/

theorem getF_mem {t : List Nod} {p : List UInt8} (h : (getF t p).k ≠ 0) : ∃ x ∈ t, x.p = p ∧ getF t p = x.c := by
  induction t with
  | nil => exact absurd rfl h
  | cons x r ih =>
    by_cases hx : x.p = p
    · exact ⟨x, List.mem_cons_self, hx, by simp [getF, hx]⟩
    · simp only [getF, if_neg hx] at h ⊢
      obtain ⟨y, h1, h2, h3⟩ := ih h
      exact ⟨y, List.mem_cons_of_mem _ h1, h2, h3⟩

theorem srt_inj {t : List Nod} (h : srt t) {i j : Nat} {x y : Nod} (hx : t[i]? = some x) (hy : t[j]? = some y) (e : x.p = y.p) : i = j := by
  rw [srt, List.pairwise_iff_getElem] at h
  obtain ⟨hi, rfl⟩ := List.getElem?_eq_some_iff.1 hx
  obtain ⟨hj, rfl⟩ := List.getElem?_eq_some_iff.1 hy
  rcases Nat.lt_trichotomy i j with hl | hl | hl
  · exact absurd e (less_ne (h i j hi hj hl))
  · exact hl
  · exact absurd e.symm (less_ne (h j i hj hi hl))

/-- a node that stands twice -/
theorem treeOk_twice {t : List Nod} {k : Nat} (hk : k < t.length) : treeOk (t.take (k + 1) ++ t.drop k) = false := by
  rw [Bool.eq_false_iff, ne_eq, treeOk_iff]
  rintro ⟨_, h, _⟩
  rw [srt, List.pairwise_append] at h
  have h1 : t[k] ∈ t.take (k + 1) := by rw [List.mem_take_iff_getElem]; exact ⟨k, by omega, rfl⟩
  have h2 : t[k] ∈ t.drop k := by rw [List.mem_drop_iff_getElem]; exact ⟨0, by omega, by simp⟩
  exact absurd rfl (less_ne (h.2.2 _ h1 _ h2))

theorem getT_step {t : List Nod} (h : treeOk t = true) {i : Nat} {x : Nod} (hx : t[i]? = some x) (p : List UInt8) : getT (t.take (i + 1)) p = if x.p = p then x.c else getT (t.take i) p := by
  rw [treeOk_iff] at h
  obtain ⟨h1, h2, _⟩ := h
  have hi := (List.getElem?_eq_some_iff.1 hx).1
  have e : t.take (i + 1) = t.take i ++ [x] := by
    rw [List.take_add_one, hx]; rfl
  have hd := (depth_path (h1 x (List.mem_of_getElem? hx)).1).2
  split
  · rename_i hp
    subst hp
    unfold getT
    rw [if_neg hd, e]
    have : ∀ (u : List Nod), (∀ y ∈ u, y.p ≠ x.p) → getF (u ++ [x]) x.p = x.c := by
      intro u hu
      induction u with
      | nil => simp [getF]
      | cons y r ih => simp only [List.cons_append, getF, if_neg (hu y List.mem_cons_self)]; exact ih fun z hz => hu z (List.mem_cons_of_mem _ hz)
    refine this _ fun y hy e => ?_
    rw [List.mem_take_iff_getElem] at hy
    obtain ⟨j, hj, rfl⟩ := hy
    have := srt_inj h2 (List.getElem?_eq_getElem (by omega)) hx e
    omega
  · rename_i hp
    unfold getT
    split
    · rfl
    · rw [e, getF_append]
      intro y hy
      simp at hy
      rw [hy]
      exact hp

/-- what is in a tree is in a directory -/
theorem get_parent {t : List Nod} (h : treeOk t = true) {p : List UInt8} (hp : p ≠ [47]) (hk : (getT t p).k ≠ 0) : (getT t (parentF p)).k = 1 := by
  unfold getT at hk
  rw [if_neg hp] at hk
  obtain ⟨x, hx, rfl, _⟩ := getF_mem hk
  exact (((treeOk_iff t).1 h).1 x hx).2.2.2

end Go.Proofs.YtlmlnbmagmembaaDoor
