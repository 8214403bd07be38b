import Derived.Test.YtellipmolheaaaaGreatDoorLawN
import Derived.Test.YtellipmolheaaaaGreatDoorConM
import Derived.Test.YtellipmolheaaaaGreatDoorUnder
set_option linter.unusedSimpArgs false
set_option maxRecDepth 10000
namespace Go.Proofs.YtellipmolheaaaaGreatDoor
open Go Go.RowKit

/-! ### when a put can be -/

theorem mem_put {t : List Nod} (h : srt t) {p : List UInt8} {c : Con} {y : Nod} : y ∈ putF t p c ↔ (y ∈ t ∧ y.p ≠ p) ∨ (c.k ≠ 0 ∧ y = ⟨p, c⟩) := by
  rw [← putI_eq h, putI]
  have hd : y ∈ delI t p ↔ y ∈ t ∧ y.p ≠ p := by rw [delI, List.mem_filter]; simp
  split
  · rename_i hk
    rw [hd]
    simp [hk]
  · rename_i hk
    rw [List.mem_append, List.mem_cons]
    have e : (y ∈ (delI t p).take (cutI (delI t p) p) ∨ y ∈ (delI t p).drop (cutI (delI t p) p)) ↔ y ∈ delI t p := by rw [← List.mem_append, List.take_append_drop]
    rw [hd] at e
    rw [← e]
    constructor
    · rintro (h | rfl | h)
      · exact .inl (.inl h)
      · exact .inr ⟨hk, rfl⟩
      · exact .inl (.inr h)
    · rintro ((h | h) | ⟨_, rfl⟩)
      · exact .inl h
      · exact .inr (.inr h)
      · exact .inr (.inl rfl)

theorem del_len {p : List UInt8} : ∀ {t : List Nod}, srt t → ∀ x ∈ t, x.p = p → (delI t p).length + 1 = t.length
  | [], _, x, hx, _ => by cases hx
  | n :: r, h, x, hx, e => by
    obtain ⟨h1, h2⟩ := List.pairwise_cons.1 h
    by_cases en : n.p = p
    · have hdel : delI (n :: r) p = delI r p := by rw [delI, List.filter_cons, if_neg (by simp [en])]; rfl
      rw [hdel, delI_none fun z hz => by have := less_ne (h1 z hz); rw [en] at this; exact this.symm, List.length_cons]
    · have hdel : delI (n :: r) p = n :: delI r p := by rw [delI, List.filter_cons, if_pos (by simp [en])]; rfl
      have hx' : x ∈ r := (List.mem_cons.1 hx).resolve_left fun e' => en (e' ▸ e)
      rw [hdel, List.length_cons, List.length_cons, del_len h2 x hx' e]

theorem put_len {t : List Nod} (ht : treeOk t = true) (p : List UInt8) (c : Con) (hk : c.k ≠ 0) : (putF t p c).length = if (getF t p).k = 0 then t.length + 1 else t.length := by
  have s := ((treeOk_iff t).1 ht).2.1
  have hl : (putF t p c).length = (delI t p).length + 1 := by
    rw [← putI_eq s, putI, if_neg hk, List.length_append, List.length_cons, ← Nat.add_assoc, ← List.length_append, List.take_append_drop]
  rw [hl]
  split
  · rename_i h0
    rw [delI_none fun x hx e => ?_]
    subst e
    rw [getF_of_mem s hx] at h0
    exact nod_nz ht x hx h0
  · rename_i h0
    obtain ⟨x, hx, e, _⟩ := getF_mem h0
    exact del_len s x hx e

theorem put_len0 {t : List Nod} (ht : treeOk t = true) (p : List UInt8) (c : Con) (hk : c.k = 0) : (putF t p c).length ≤ t.length := by
  rw [← putI_eq ((treeOk_iff t).1 ht).2.1, putI, if_pos hk]
  exact List.length_filter_le _ _

theorem parent_ne {p : List UInt8} (h : 0 < depthF p) : parentF p ≠ p := fun e => by
  have hl := pos_len h
  have h2 := (depth_path h).2
  unfold parentF at e
  split at e
  · exact h2 e.symm
  · have := congrArg List.length e
    rw [List.length_take] at this
    omega

theorem under_self {b : List UInt8} (hb : pathOk b = true) (hr : b ≠ [47]) : underI (parentF b) b = true := by
  rcases pathOk_form hb with e | ⟨cs, h0, h1, h2, rfl⟩
  · exact absurd e hr
  · have hl : 1 ≤ cs.length := by cases cs with | nil => exact absurd rfl h0 | cons _ _ => simp
    rw [parent_form h0]
    split
    · exact under_of (us := []) (bs := cs) (.inl ⟨rfl, rfl⟩) h0
    · rename_i hn
      have := under_of (us := cs.take (cs.length - 1)) (bs := cs.drop (cs.length - 1)) (.inr ⟨rfl, fun e => by have := congrArg List.length e; simp at this; omega⟩) (fun e => by have := congrArg List.length e; simp at this; omega)
      rwa [List.take_append_drop] at this

/-- what has something under it has a child -/
theorem child_of {t : List Nod} (ht : treeOk t = true) {p : List UInt8} (hp : pathOk p = true) : ∀ (n : Nat) (x : Nod), x.p.length ≤ n → x ∈ t → underI p x.p = true → ∃ y ∈ t, parentF y.p = p
  | 0, x, hn, hx, _ => by
    have := pos_len (((treeOk_iff t).1 ht).1 x hx).1
    omega
  | n + 1, x, hn, hx, hu => by
    obtain ⟨h1, h2, h3, h4⟩ := ((treeOk_iff t).1 ht).1 x hx
    obtain ⟨o1, o2⟩ := depth_path h1
    have hpl1 : 1 ≤ p.length := by cases p with | nil => cases hp | cons _ _ => simp
    rcases under_parent hp o1 hu with e | hu'
    · exact ⟨x, hx, e⟩
    · have hl := pos_len h1
      have hu47 : underI p [47] = false := by
        unfold underI
        split
        · rfl
        · have h0 : ¬ p.length + 1 ≤ [(47 : UInt8)].length := by
            simp only [List.length_cons, List.length_nil]
            omega
          simp only [h0, decide_false, Bool.false_and]
      have hnr : parentF x.p ≠ [47] := fun e => by
        rw [e, hu47] at hu'
        cases hu'
      have hpl : (parentF x.p).length < x.p.length := by
        unfold parentF at hnr ⊢
        split
        · rename_i h
          rw [if_pos h] at hnr
          exact absurd rfl hnr
        · rw [List.length_take]; omega
      have hk : (getF t (parentF x.p)).k ≠ 0 := by
        unfold getT at h4
        rw [if_neg hnr] at h4
        omega
      obtain ⟨y, hy, e, _⟩ := getF_mem hk
      exact child_of ht hp n y (by rw [e]; omega) hy (by rw [e]; exact hu')

theorem put_when {t : List Nod} {p : List UInt8} {c : Con} (ht : treeOk t = true) (hd : 0 < depthF p) (hc : conOk c = true) :
    treeOk (putF t p c) = true ↔ ((getT t (parentF p)).k = 1 ∨ c.k = 0) ∧ (underL t p = [] ∨ c.k = 1) ∧ (if (getF t p).k = 0 ∧ c.k ≠ 0 then t.length + 1 else t.length) ≤ 10 := by
  obtain ⟨t1, s, t3⟩ := (treeOk_iff t).1 ht
  obtain ⟨q1, q2⟩ := depth_path hd
  have hget : ∀ q, q ≠ p → getT (putF t p c) q = getT t q := fun q hq => by
    rw [getT, getT, getF_put s hc, if_neg hq]
  have hgp : getT (putF t p c) p = c := by rw [getT, if_neg q2, getF_put s hc, if_pos rfl]
  have hlen : (putF t p c).length ≤ 10 ↔ (if (getF t p).k = 0 ∧ c.k ≠ 0 then t.length + 1 else t.length) ≤ 10 := by
    by_cases hk : c.k = 0
    · have := put_len0 ht p c hk
      rw [if_neg fun h => h.2 hk]
      omega
    · rw [put_len ht p c hk]
      by_cases h0 : (getF t p).k = 0
      · rw [if_pos h0, if_pos ⟨h0, hk⟩]
      · rw [if_neg h0, if_neg fun h => h0 h.1]
  rw [treeOk_iff, hlen]
  have hun : ∀ y ∈ t, underI p y.p = true → underL t p ≠ [] := fun y hy hu e => by
    have : y.p ∈ underL t p := List.mem_map.2 ⟨y, List.mem_filter.2 ⟨hy, hu⟩, rfl⟩
    rw [e] at this
    cases this
  constructor
  · rintro ⟨h1, _, h3⟩
    refine ⟨?_, ?_, h3⟩
    · by_cases hk : c.k = 0
      · exact .inr hk
      · have := (h1 ⟨p, c⟩ ((mem_put s).2 (.inr ⟨hk, rfl⟩))).2.2.2
        rw [hget _ (parent_ne hd)] at this
        exact .inl this
    · by_cases hk : c.k = 1
      · exact .inr hk
      · left
        cases hu : underL t p with
        | nil => rfl
        | cons z r =>
          exfalso
          have hz : z ∈ underL t p := by rw [hu]; exact List.mem_cons_self
          obtain ⟨x, hx, rfl⟩ := List.mem_map.1 hz
          obtain ⟨hx1, hx2⟩ := List.mem_filter.1 hx
          obtain ⟨y, hy, e⟩ := child_of ht q1 x.p.length x (Nat.le_refl _) hx1 hx2
          have hne : y.p ≠ p := fun e' => parent_ne (t1 y hy).1 (e.trans e'.symm)
          have := (h1 y ((mem_put s).2 (.inl ⟨hy, hne⟩))).2.2.2
          rw [e, hgp] at this
          exact hk this
  · rintro ⟨h1, h2, h3⟩
    refine ⟨fun y hy => ?_, srt_put s p c, h3⟩
    rcases (mem_put s).1 hy with ⟨hy, hne⟩ | ⟨hk, rfl⟩
    · obtain ⟨n1, n2, n3, n4⟩ := t1 y hy
      refine ⟨n1, n2, n3, ?_⟩
      by_cases e : parentF y.p = p
      · obtain ⟨o1, o2⟩ := depth_path n1
        have hu := under_self o1 o2
        rw [e] at hu ⊢
        rw [hgp]
        exact h2.resolve_left (hun y hy hu)
      · rw [hget _ e]; exact n4
    · exact ⟨hd, hc, hk, by rw [hget _ (parent_ne hd)]; exact h1.resolve_right hk⟩

end Go.Proofs.YtellipmolheaaaaGreatDoor
