import Derived.Test.YtellipmolheaaaaGreatDoorTree
set_option linter.unusedSimpArgs false
set_option maxRecDepth 10000
namespace Go.Proofs.YtellipmolheaaaaGreatDoor
open Go Go.RowKit

/-! ### the plain law of putting -/

def delI (t : List Nod) (p : List UInt8) : List Nod := t.filter fun n => !decide (n.p = p)
def cutI (t : List Nod) (p : List UInt8) : Nat := (t.takeWhile fun n => Op.bytesLess n.p p).length
def putI (t : List Nod) (p : List UInt8) (c : Con) : List Nod := if c.k = 0 then delI t p else (delI t p).take (cutI (delI t p) p) ++ ⟨p, c⟩ :: (delI t p).drop (cutI (delI t p) p)

theorem cut_at {t : List Nod} {p : List UInt8} {i : Nat} (hi : i ≤ t.length) (h : ∀ (j : Nat) y, j < i → t[j]? = some y → Op.bytesLess y.p p = true) (hx : ∀ x, t[i]? = some x → Op.bytesLess x.p p = false) : cutI t p = i := by
  unfold cutI
  induction t generalizing i with
  | nil => simp at hi; simp [hi]
  | cons a r ih =>
    cases i with
    | zero => simp [hx a rfl]
    | succ i =>
      have ha := h 0 a (by omega) rfl
      simp only [List.takeWhile_cons, ha, if_true, List.length_cons]
      rw [ih (i := i) (by simpa using hi) (fun j y hj hy => h (j + 1) y (by omega) (by simpa using hy)) (fun x hx' => hx x (by simpa using hx'))]

theorem putGo_done (p : List UInt8) (c : Con) : ∀ t : List Nod, putGo p c t true = delI t p
  | [] => rfl
  | n :: r => by
    have ih := putGo_done p c r
    simp only [putGo, delI, List.filter_cons] at ih ⊢
    by_cases h : n.p = p <;> simp [h, ih]

theorem cut_cons_lt {n : Nod} {u : List Nod} {p : List UInt8} (h : Op.bytesLess n.p p = true) : cutI (n :: u) p = cutI u p + 1 := by
  simp only [cutI, List.takeWhile_cons, h, if_true, List.length_cons]

theorem cut_cons_ge {n : Nod} {u : List Nod} {p : List UInt8} (h : Op.bytesLess n.p p = false) : cutI (n :: u) p = 0 := by
  simp [cutI, List.takeWhile_cons, h]

theorem less_asymm {a b : List UInt8} (h : Op.bytesLess a b = true) : Op.bytesLess b a = false := by
  cases h2 : Op.bytesLess b a with
  | false => rfl
  | true => have := less_trans h h2; rw [less_irrefl] at this; cases this

theorem less_tri {a b : List UInt8} (h : a ≠ b) (h2 : Op.bytesLess a b = false) : Op.bytesLess b a = true := by
  have := less_total a b
  rw [h2, decide_eq_false h] at this
  simpa using this

theorem delI_none {t : List Nod} {p : List UInt8} (h : ∀ x ∈ t, x.p ≠ p) : delI t p = t := by
  rw [delI, List.filter_eq_self]
  intro x hx
  simp [h x hx]

theorem putGo_new (p : List UInt8) (c : Con) : ∀ t : List Nod, srt t → putGo p c t false = (delI t p).take (cutI (delI t p) p) ++ ⟨p, c⟩ :: (delI t p).drop (cutI (delI t p) p)
  | [], _ => rfl
  | n :: r, h => by
    have ih := putGo_new p c r (List.pairwise_cons.1 h).2
    have hr := (List.pairwise_cons.1 h).1
    simp only [putGo]
    by_cases e : n.p = p
    · have hpre : Op.bytesLess p n.p = false := by rw [e]; exact less_irrefl p
      have hd : delI r p = r := delI_none fun x hx => by
        have := less_ne (hr x hx)
        rw [e] at this
        exact this.symm
      have hdel : delI (n :: r) p = r := by
        rw [delI, List.filter_cons, if_neg (by simp [e])]
        exact hd
      rw [hdel, hpre]
      have hc0 : cutI r p = 0 := by
        cases r with
        | nil => rfl
        | cons x r =>
          refine cut_cons_ge (less_asymm ?_)
          have := hr x List.mem_cons_self
          rwa [e] at this
      rw [hc0, putGo_done, hd]
      simp [e]
    · have hdel : delI (n :: r) p = n :: delI r p := by
        rw [delI, List.filter_cons, if_pos (by simp [e])]
        rfl
      rw [hdel]
      cases hpre : Op.bytesLess p n.p with
      | true =>
        rw [cut_cons_ge (less_asymm hpre)]
        simp [e, putGo_done]
      | false =>
        rw [cut_cons_lt (less_tri (fun h => e h.symm) hpre)]
        simp [e, ih]

theorem putI_eq {t : List Nod} (h : srt t) (p : List UInt8) (c : Con) : putI t p c = putF t p c := by
  rw [putI, putF]
  split
  · rename_i hk
    rw [decide_eq_true hk, putGo_done]
  · rename_i hk
    rw [decide_eq_false hk, putGo_new p c t h]

theorem getF_cons (n : Nod) (r : List Nod) (q : List UInt8) : getF (n :: r) q = if n.p = q then n.c else getF r q := rfl

theorem getF_none {t : List Nod} {q : List UInt8} (h : ∀ x ∈ t, x.p ≠ q) : getF t q = ⟨0, 0⟩ := by
  induction t with
  | nil => rfl
  | cons n r ih => rw [getF_cons, if_neg (h n List.mem_cons_self), ih fun x hx => h x (List.mem_cons_of_mem _ hx)]

theorem getF_del_other {p q : List UInt8} (hq : q ≠ p) : ∀ t : List Nod, getF (delI t p) q = getF t q
  | [] => rfl
  | n :: r => by
    have ih := getF_del_other hq r
    by_cases e : n.p = p
    · rw [show delI (n :: r) p = delI r p by rw [delI, List.filter_cons, if_neg (by simp [e])]; rfl, ih, getF_cons, if_neg (fun h => hq (h.symm.trans e))]
    · rw [show delI (n :: r) p = n :: delI r p by rw [delI, List.filter_cons, if_pos (by simp [e])]; rfl, getF_cons, getF_cons, ih]

theorem del_ne {t : List Nod} {p : List UInt8} : ∀ x ∈ delI t p, x.p ≠ p := fun x hx => by
  have := (List.mem_filter.1 hx).2
  simpa using this

theorem getF_ins {p q : List UInt8} {c : Con} : ∀ (a b : List Nod), getF (a ++ ⟨p, c⟩ :: b) q = if q = p then (if (∀ x ∈ a, x.p ≠ p) then c else getF a q) else getF (a ++ b) q
  | [], b => by
    rw [List.nil_append, getF_cons, List.nil_append]
    by_cases h : q = p
    · rw [if_pos h.symm, if_pos h, if_pos (fun x hx => by cases hx)]
    · rw [if_neg (fun e => h e.symm), if_neg h]
  | n :: a, b => by
    have ih := getF_ins (p := p) (q := q) (c := c) a b
    rw [List.cons_append, getF_cons, ih, List.cons_append, getF_cons]
    by_cases h : q = p
    · subst h
      rw [if_pos rfl, if_pos rfl]
      by_cases hn : n.p = q
      · rw [if_pos hn, if_neg (fun h => h n List.mem_cons_self hn), if_pos hn]
      · rw [if_neg hn]
        by_cases ha : ∀ x ∈ a, x.p ≠ q
        · rw [if_pos ha, if_pos (fun x hx => (List.mem_cons.1 hx).elim (fun e => e ▸ hn) (ha x))]
        · rw [if_neg ha, if_neg (fun h => ha fun x hx => h x (List.mem_cons_of_mem _ hx)), if_neg hn]
    · rw [if_neg h, if_neg h]
      rfl

theorem getF_put {t : List Nod} (h : srt t) {c : Con} (hc : conOk c = true) (p q : List UInt8) : getF (putF t p c) q = if q = p then c else getF t q := by
  rw [← putI_eq h, putI]
  split
  · rename_i hk
    by_cases e : q = p
    · subst e
      rw [if_pos rfl, getF_none del_ne]
      have hv : c.v = 0 := by
        simp only [conOk, hk] at hc
        simpa using hc
      cases c
      simp_all
    · rw [if_neg e, getF_del_other e]
  · rw [getF_ins, List.take_append_drop]
    by_cases e : q = p
    · subst e
      rw [if_pos rfl, if_pos rfl, if_pos fun x hx => del_ne x (List.mem_of_mem_take hx)]
    · rw [if_neg e, if_neg e, getF_del_other e]

theorem srt_sub {a b : List Nod} (h : a.Sublist b) (hb : srt b) : srt a := List.Pairwise.sublist h hb

theorem cut_spec (u : List Nod) (p : List UInt8) : (∀ x ∈ u.take (cutI u p), Op.bytesLess x.p p = true) ∧ ∀ x r, u.drop (cutI u p) = x :: r → Op.bytesLess x.p p = false := by
  induction u with
  | nil => exact ⟨fun x hx => by simp at hx, fun x r h => by simp at h⟩
  | cons n u ih =>
    cases h : Op.bytesLess n.p p with
    | true =>
      rw [cut_cons_lt h]
      refine ⟨fun x hx => ?_, fun x r hr => ih.2 x r (by simpa using hr)⟩
      rw [List.take_succ_cons] at hx
      rcases List.mem_cons.1 hx with rfl | hx
      · exact h
      · exact ih.1 x hx
    | false =>
      rw [cut_cons_ge h]
      refine ⟨fun x hx => by simp at hx, fun x r hr => ?_⟩
      simp only [List.drop_zero, List.cons.injEq] at hr
      rw [← hr.1]; exact h

theorem srt_put {t : List Nod} (h : srt t) (p : List UInt8) (c : Con) : srt (putF t p c) := by
  rw [← putI_eq h, putI]
  have hd : srt (delI t p) := srt_sub List.filter_sublist h
  split
  · exact hd
  · obtain ⟨c1, c2⟩ := cut_spec (delI t p) p
    have hne : ∀ x ∈ delI t p, x.p ≠ p := del_ne
    rw [← List.take_append_drop (cutI (delI t p) p) (delI t p)] at hd hne
    generalize (delI t p).take (cutI (delI t p) p) = a at *
    generalize (delI t p).drop (cutI (delI t p) p) = b at *
    have hb : ∀ x ∈ b, Op.bytesLess p x.p = true := fun x hx => by
      cases b with
      | nil => cases hx
      | cons y b =>
        have hy := c2 y b rfl
        have hy2 : Op.bytesLess p y.p = true := less_tri (hne y (by simp)) hy
        rcases List.mem_cons.1 hx with rfl | hx
        · exact hy2
        · exact less_trans hy2 ((List.pairwise_cons.1 (List.pairwise_append.1 hd).2.1).1 x hx)
    obtain ⟨p1, p2, p3⟩ := List.pairwise_append.1 hd
    refine List.pairwise_append.2 ⟨p1, List.pairwise_cons.2 ⟨hb, p2⟩, fun x hx y hy => ?_⟩
    rcases List.mem_cons.1 hy with rfl | hy
    · exact c1 x hx
    · exact p3 x hx y hy

theorem getF_of_mem {t : List Nod} (h : srt t) {x : Nod} (hx : x ∈ t) : getF t x.p = x.c := by
  induction t with
  | nil => cases hx
  | cons n r ih =>
    rw [getF_cons]
    rcases List.mem_cons.1 hx with rfl | hx
    · rw [if_pos rfl]
    · rw [if_neg (less_ne ((List.pairwise_cons.1 h).1 x hx)), ih (List.pairwise_cons.1 h).2 hx]

end Go.Proofs.YtellipmolheaaaaGreatDoor
