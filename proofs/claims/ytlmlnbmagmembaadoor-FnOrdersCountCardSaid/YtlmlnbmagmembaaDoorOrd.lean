import Derived.Test.YtlmlnbmagmembaaDoorConY
set_option linter.unusedSimpArgs false
set_option maxRecDepth 10000
namespace Go.Proofs.YtlmlnbmagmembaaDoor
open Go Go.RowKit

/-! ### counting orders -/

/-- each element, and what is left without it -/
def sels {α : Type} : List α → List (α × List α)
  | [] => []
  | x :: r => (x, r) :: (sels r).map fun p => (p.1, x :: p.2)

noncomputable def ordI : Nat → List Cmd → List Cmd → Nat
  | 0, _, _ => 1
  | n + 1, head, rest => ((sels rest).map fun p => if bP (possP (head ++ [p.1])) = true then ordI n (head ++ [p.1]) p.2 else 0).sum

def ordS : Nat → List Cmd → Nat
  | 0, _ => 1
  | n + 1, rest => ((sels rest).map fun p => if p.2.all (fun r => !mustI r p.1) = true then ordS n p.2 else 0).sum

theorem sels_len {α : Type} : ∀ (l : List α), (sels l).length = l.length
  | [] => rfl
  | x :: r => by rw [sels, List.length_cons, List.length_map, sels_len r, List.length_cons]

theorem sels_perm {α : Type} : ∀ (l : List α) (p : α × List α), p ∈ sels l → l.Perm (p.1 :: p.2)
  | [], p, h => by cases h
  | x :: r, p, h => by
    rw [sels] at h
    rcases List.mem_cons.1 h with rfl | h
    · exact List.Perm.refl _
    · obtain ⟨q, hq, rfl⟩ := List.mem_map.1 h
      exact (List.Perm.cons x (sels_perm r q hq)).trans (List.Perm.swap _ _ _)

theorem sels_at {α : Type} : ∀ (l : List α) (i : Nat) (x : α), l[i]? = some x → (sels l)[i]? = some (x, l.take i ++ l.drop (i + 1))
  | [], i, x, h => by simp at h
  | y :: r, 0, x, h => by
    simp at h
    subst h
    simp [sels]
  | y :: r, i + 1, x, h => by
    have := sels_at r i x (by simpa using h)
    simp [sels, this]

theorem sum_map_congr {α : Type} {f g : α → Nat} : ∀ (l : List α), (∀ x ∈ l, f x = g x) → (l.map f).sum = (l.map g).sum
  | [], _ => rfl
  | x :: r, h => by
    rw [List.map_cons, List.map_cons, List.sum_cons, List.sum_cons, h x List.mem_cons_self, sum_map_congr r fun y hy => h y (List.mem_cons_of_mem _ hy)]

theorem sum_zero {α : Type} {f : α → Nat} (l : List α) (h : ∀ x ∈ l, f x = 0) : (l.map f).sum = 0 := by
  rw [sum_map_congr (g := fun _ => 0) l h]
  induction l with
  | nil => rfl
  | cons x r ih => rw [List.map_cons, List.sum_cons, ih fun y hy => h y (List.mem_cons_of_mem _ hy)]

/-- the order of a list has no influence on a sum over its elements -/
theorem sels_sum {α : Type} {l l' : List α} (h : l.Perm l') : ∀ (f : α × List α → Nat), (∀ x s s', s.Perm s' → f (x, s) = f (x, s')) → ((sels l).map f).sum = ((sels l').map f).sum := by
  induction h with
  | nil => intro f _; rfl
  | cons x h ih =>
    intro f hf
    rw [sels, sels, List.map_cons, List.map_cons, List.sum_cons, List.sum_cons, List.map_map, List.map_map, hf x _ _ h]
    congr 1
    exact ih (f ∘ fun p => (p.1, x :: p.2)) fun y s s' hs => hf y _ _ (List.Perm.cons x hs)
  | swap x y l =>
    intro f hf
    simp only [sels, List.map_cons, List.map_map, List.sum_cons]
    have : ((sels l).map (f ∘ (fun p => (p.1, y :: p.2)) ∘ fun p => (p.1, x :: p.2))).sum = ((sels l).map (f ∘ (fun p => (p.1, x :: p.2)) ∘ fun p => (p.1, y :: p.2))).sum :=
      sum_map_congr _ fun p _ => hf p.1 _ _ (List.Perm.swap _ _ _)
    rw [this]
    omega
  | trans _ _ ih1 ih2 => exact fun f hf => (ih1 f hf).trans (ih2 f hf)

theorem ordI_perm : ∀ (n : Nat) (head : List Cmd) {l l' : List Cmd}, l.Perm l' → ordI n head l = ordI n head l'
  | 0, _, _, _, _ => rfl
  | n + 1, head, l, l', h => by
    rw [ordI, ordI]
    refine sels_sum h _ fun x s s' hs => ?_
    simp only
    rw [ordI_perm n (head ++ [x]) hs]

theorem poss_snoc {head : List Cmd} {c : Cmd} : possP (head ++ [c]) ↔ possP head ∧ ∀ h ∈ head, mustI c h = false := by
  rw [possP, List.pairwise_append]
  constructor
  · rintro ⟨h1, _, h3⟩
    exact ⟨h1, fun h hh => h3 h hh c List.mem_cons_self⟩
  · rintro ⟨h1, h2⟩
    exact ⟨h1, List.pairwise_singleton _ _, fun a ha b hb => by simp at hb; subst hb; exact h2 a ha⟩

theorem ordI_zero : ∀ (n : Nat) (head rest : List Cmd), rest.length = n → (∃ h ∈ head, ∃ r ∈ rest, mustI r h = true) → ordI n head rest = 0
  | 0, head, rest, hl, ⟨h, _, r, hr, _⟩ => by
    rw [List.length_eq_zero_iff.1 hl] at hr
    cases hr
  | n + 1, head, rest, hl, ⟨h, hh, r, hr, hm⟩ => by
    rw [ordI]
    refine sum_zero _ fun p hp => ?_
    split
    · rename_i hb
      have hposs := (poss_snoc.1 (bP_iff.1 hb)).2 h hh
      have hperm := sels_perm rest p hp
      have hr2 : r ∈ p.2 := by
        rcases List.mem_cons.1 (hperm.mem_iff.1 hr) with e | h'
        · rw [e, hposs] at hm; cases hm
        · exact h'
      exact ordI_zero n (head ++ [p.1]) p.2 (by have := hperm.length_eq; rw [List.length_cons] at this; omega) ⟨h, List.mem_append_left _ hh, r, hr2, hm⟩
    · rfl

theorem ordI_ordS : ∀ (n : Nat) (head rest : List Cmd), rest.length = n → possP head → (∀ h ∈ head, ∀ r ∈ rest, mustI r h = false) → ordI n head rest = ordS n rest
  | 0, _, _, _, _, _ => rfl
  | n + 1, head, rest, hl, hp, ho => by
    rw [ordI, ordS]
    refine sum_map_congr _ fun p hm => ?_
    have hperm := sels_perm rest p hm
    have hin : p.1 ∈ rest := hperm.mem_iff.2 List.mem_cons_self
    have hsub : ∀ r ∈ p.2, r ∈ rest := fun r hr => hperm.mem_iff.2 (List.mem_cons_of_mem _ hr)
    have hnl : p.2.length = n := by have := hperm.length_eq; rw [List.length_cons] at this; omega
    have hposs : possP (head ++ [p.1]) := poss_snoc.2 ⟨hp, fun h hh => ho h hh p.1 hin⟩
    rw [if_pos (bP_true hposs)]
    by_cases hall : p.2.all (fun r => !mustI r p.1) = true
    · rw [if_pos hall]
      refine ordI_ordS n _ _ hnl hposs fun h hh r hr => ?_
      rcases List.mem_append.1 hh with hh | hh
      · exact ho h hh r (hsub r hr)
      · simp at hh
        subst hh
        have := List.all_eq_true.1 hall r hr
        simpa using this
    · rw [if_neg hall]
      refine ordI_zero n _ _ hnl ?_
      have hall' : p.2.all (fun r => !mustI r p.1) = false := by simpa using hall
      obtain ⟨r, hr, hne⟩ := List.all_eq_false.1 hall'
      exact ⟨p.1, List.mem_append_right _ List.mem_cons_self, r, hr, by simpa using hne⟩

/-- no more than the factorial -/
def fac : Nat → Nat
  | 0 => 1
  | n + 1 => (n + 1) * fac n

theorem sum_le {α : Type} {f : α → Nat} {b : Nat} : ∀ (l : List α), (∀ x ∈ l, f x ≤ b) → (l.map f).sum ≤ l.length * b
  | [], _ => by simp
  | x :: r, h => by
    have h1 := h x List.mem_cons_self
    have h2 := sum_le r fun y hy => h y (List.mem_cons_of_mem _ hy)
    rw [List.map_cons, List.sum_cons, List.length_cons, Nat.succ_mul]
    omega

theorem ordI_le : ∀ (n : Nat) (head rest : List Cmd), rest.length = n → ordI n head rest ≤ fac n
  | 0, _, _, _ => Nat.le_refl _
  | n + 1, head, rest, hl => by
    rw [ordI, fac, ← hl, ← sels_len rest]
    refine sum_le _ fun p hp => ?_
    split
    · have := (sels_perm rest p hp).length_eq
      rw [List.length_cons] at this
      exact ordI_le n _ _ (by omega)
    · exact Nat.zero_le _

end Go.Proofs.YtlmlnbmagmembaaDoor
