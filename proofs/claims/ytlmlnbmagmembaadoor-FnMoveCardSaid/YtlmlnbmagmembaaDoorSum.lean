import Derived.Test.YtlmlnbmagmembaaDoorMove
set_option linter.unusedSimpArgs false
set_option maxRecDepth 10000
namespace Go.Proofs.YtlmlnbmagmembaaDoor
open Go Go.RowKit

/-! ### sums of trees -/

def kid (p : List UInt8) (i : Nat) : List UInt8 := (if p = [47] then [] else p) ++ [47, UInt8.ofNat (97 + i)]
def baseS (c : Con) : Int := 1 + 200 * c.k + c.v
def stepS (f : List UInt8 → Int) (t : List Nod) (p : List UInt8) (s : Int) (i : Nat) : Int := if (getT t (kid p i)).k = 0 then s else (31 * s + 7 * i + 100 * f (kid p i) + 3) % 9973
def sumF : Nat → List Nod → List UInt8 → Int
  | 0, t, p => baseS (getT t p)
  | n + 1, t, p => if (getT t p).k = 1 then (List.range 4).foldl (stepS (sumF n t) t p) (baseS (getT t p)) else baseS (getT t p)

theorem base_b {c : Con} (h : conOk c = true) : 1 ≤ baseS c ∧ baseS c ≤ 500 := by
  unfold conOk at h
  simp only [Bool.or_eq_true, Bool.and_eq_true, decide_eq_true_eq] at h
  unfold baseS
  omega

theorem step_b {f : List UInt8 → Int} {t : List Nod} {p : List UInt8} {s : Int} {i : Nat} (h : 0 ≤ s ∧ s < 9973) : 0 ≤ stepS f t p s i ∧ stepS f t p s i < 9973 := by
  unfold stepS
  split
  · exact h
  · exact ⟨Int.emod_nonneg _ (by decide), Int.emod_lt_of_pos _ (by decide)⟩

theorem fold_b {f : Int → Nat → Int} (hf : ∀ s i, (0 ≤ s ∧ s < 9973) → 0 ≤ f s i ∧ f s i < 9973) : ∀ (l : List Nat) (s : Int), (0 ≤ s ∧ s < 9973) → 0 ≤ l.foldl f s ∧ l.foldl f s < 9973
  | [], _, h => h
  | i :: l, s, h => fold_b hf l _ (hf s i h)

theorem getT_ok {t : List Nod} (ht : treeOk t = true) (p : List UInt8) : conOk (getT t p) = true := by
  rw [getT]
  split
  · rfl
  · exact getF_ok ht p

theorem sum_b {t : List Nod} (ht : treeOk t = true) (n : Nat) (p : List UInt8) : 0 ≤ sumF n t p ∧ sumF n t p < 9973 := by
  have hb := base_b (getT_ok ht p)
  cases n with
  | zero => unfold sumF; omega
  | succ n =>
    unfold sumF
    split
    · exact fold_b (fun s i h => step_b h) _ _ (by omega)
    · omega

theorem kid_ne (p : List UInt8) (i : Nat) : kid p i ≠ [47] := fun e => by
  have := congrArg List.length e
  simp [kid] at this

theorem kid_of {p : List UInt8} (h : p ≠ [47]) (i : Nat) : kid p i = p ++ pth [UInt8.ofNat (97 + i)] := by
  rw [kid, if_neg h]
  rfl

theorem sum_congr {t u : List Nod} : ∀ (n : Nat) (p q : List UInt8), p ≠ [47] → q ≠ [47] → (∀ cs, getT t (p ++ pth cs) = getT u (q ++ pth cs)) → sumF n t p = sumF n u q
  | 0, p, q, _, _, h => by
    have h0 := h []
    simp only [pth, List.flatMap_nil, List.append_nil] at h0
    unfold sumF
    rw [h0]
  | n + 1, p, q, hp, hq, h => by
    have h0 := h []
    simp only [pth, List.flatMap_nil, List.append_nil] at h0
    unfold sumF
    rw [h0]
    have e : stepS (sumF n t) t p = stepS (sumF n u) u q := by
      funext s i
      have h1 : getT t (kid p i) = getT u (kid q i) := by rw [kid_of hp, kid_of hq]; exact h _
      have h2 : sumF n t (kid p i) = sumF n u (kid q i) := sum_congr n _ _ (kid_ne p i) (kid_ne q i) fun cs => by
        rw [kid_of hp, kid_of hq, List.append_assoc, List.append_assoc]
        exact h (UInt8.ofNat (97 + i) :: cs)
      unfold stepS
      rw [h1, h2]
    rw [e]

theorem pth_tail (cs : List UInt8) : pth cs = [] ∨ ∃ r, pth cs = 47 :: r := by
  cases cs with
  | nil => exact .inl rfl
  | cons c r => exact .inr ⟨_, rfl⟩

theorem app_ne {a : List UInt8} (pa : pathOk a = true) (na : a ≠ [47]) (s : List UInt8) : a ++ s ≠ [47] := fun e => by
  have h1 := pos_len (depth_of pa na)
  have := congrArg List.length e
  simp at this
  omega

/-- what is put elsewhere turns no sum -/
theorem sum_put {t : List Nod} (ht : treeOk t = true) {p o : List UInt8} {c : Con} (hp : pathOk p = true) (np : p ≠ [47]) (hc : conOk c = true) (h : inC p ⟨o, c⟩ = false) (n : Nat) : sumF n (putF t o c) p = sumF n t p := by
  refine sum_congr n p p np np fun cs => ?_
  have hq := app_ne hp np (pth cs)
  rw [getT, getT, if_neg hq, if_neg hq, getF_put ((treeOk_iff t).1 ht).2.1 hc]
  rw [if_neg]
  intro e
  have := inC_app (c := c) np (pth_tail cs)
  rw [e, h] at this
  cases this

section
variable {t : List Nod} {a b : List UInt8}

theorem CopyOk.sumA (h : CopyOk t a b) (n : Nat) : sumF n (allF t (copL t a b)).1 a = sumF n t a :=
  sum_congr n a a h.na h.na fun cs => get_eq h.uok h.ht (app_ne h.pa h.na _) (app_ne h.pa h.na _) fun c => by
    rw [h.mem]
    constructor
    · rintro (hy | ⟨m, h1, h2, e⟩)
      · exact hy
      · have hb := h.newB h2
        rw [← e] at hb
        exact (h.apart (inC_app h.na (pth_tail cs)) hb).elim
    · exact .inl

theorem CopyOk.getB (h : CopyOk t a b) (cs : List UInt8) (c : Con) : (⟨b ++ pth cs, c⟩ : Nod) ∈ (allF t (copL t a b)).1 ↔ (⟨a ++ pth cs, c⟩ : Nod) ∈ t := by
  rw [h.mem]
  constructor
  · rintro (hy | ⟨m, h1, h2, e⟩)
    · have := h.noB _ hy
      rw [inC_app h.nb (pth_tail cs)] at this
      cases this
    · simp only [Nod.mk.injEq] at e
      have e1 := List.append_cancel_left e.1
      have e2 := inC_take h.na h2
      rw [← e1] at e2
      rw [← e2, e.2]
      exact h1
  · intro hy
    exact .inr ⟨_, hy, inC_app h.na (pth_tail cs), by simp⟩

theorem CopyOk.sumB (h : CopyOk t a b) (n : Nat) : sumF n (allF t (copL t a b)).1 b = sumF n t a :=
  sum_congr n b a h.nb h.na fun cs => get_eq h.uok h.ht (app_ne h.pb h.nb _) (app_ne h.pa h.na _) fun c => h.getB cs c

theorem CopyOk.sumM (h : CopyOk t a b) (n : Nat) : sumF n (movT t a b) b = sumF n t a :=
  sum_congr n b a h.nb h.na fun cs => get_eq h.mok h.ht (app_ne h.pb h.nb _) (app_ne h.pa h.na _) fun c => by
    rw [← h.getB cs c, movT, List.mem_filter]
    refine ⟨fun h => h.1, fun hy => ⟨hy, ?_⟩⟩
    cases hi : inC a ⟨b ++ pth cs, c⟩ with
    | false => rfl
    | true => exact (h.apart hi (inC_app h.nb (pth_tail cs))).elim

end

/-! ### sums in rounds -/

theorem fold_snoc (f : Int → Nat → Int) (s : Int) (i : Nat) : (List.range (i + 1)).foldl f s = f ((List.range i).foldl f s) i := by
  rw [List.range_succ, List.foldl_append]
  rfl

/-- found just where there is something -/
theorem any_k {t : List Nod} (ht : treeOk t = true) {p : List UInt8} (hp : p ≠ [47]) : decide (0 ≤ idxF (fun n : Nod => decide (n.p = p)) t) = !decide ((getT t p).k = 0) := by
  rw [idxF_any, getT, if_neg hp]
  by_cases hk : (getF t p).k = 0
  · rw [decide_eq_true hk, Bool.not_true, List.any_eq_false]
    intro x hx
    simp only [decide_eq_true_eq]
    intro e
    have := getF_of_mem ((treeOk_iff t).1 ht).2.1 hx
    rw [e] at this
    exact nod_nz ht x hx (by rw [← this]; exact hk)
  · rw [decide_eq_false hk, Bool.not_false, List.any_eq_true]
    obtain ⟨x, hx, e, _⟩ := getF_mem hk
    exact ⟨x, hx, by simpa using e⟩

/-- a deep path holds nothing -/
theorem deep_none {t : List Nod} (ht : treeOk t = true) {p : List UInt8} (h : 9 ≤ p.length) : (getT t p).k = 0 := by
  rw [getT, if_neg (fun e => by rw [e] at h; simp at h), getF_none]
  intro x hx e
  have := pathOk_len (nod_path ht hx).1
  rw [e] at this
  omega

theorem kid_len (p : List UInt8) (i : Nat) : (kid p i).length = (if p = [47] then 0 else p.length) + 2 := by
  rw [kid]
  split <;> simp

end Go.Proofs.YtlmlnbmagmembaaDoor
