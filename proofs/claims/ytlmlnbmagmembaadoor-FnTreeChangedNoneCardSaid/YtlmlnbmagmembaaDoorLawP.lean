import Derived.Test.YtlmlnbmagmembaaDoorConEE
import Derived.Test.YtlmlnbmagmembaaDoorConM
import Derived.Test.YtlmlnbmagmembaaDoorLawN
set_option linter.unusedSimpArgs false
set_option maxRecDepth 10000
namespace Go.Proofs.YtlmlnbmagmembaaDoor
open Go Go.RowKit

theorem less_eq {a b : List UInt8} (h : Op.bytesLess a b = false) (h2 : Op.bytesLess b a = false) : a = b := by
  by_cases e : a = b
  · exact e
  · have := less_tri e h
    rw [h2] at this
    cases this

theorem mem_merge : ∀ (a b : List Nod) (q : List UInt8), q ∈ mergeP a b ↔ (∃ x ∈ a, x.p = q) ∨ ∃ y ∈ b, y.p = q
  | [], b, q => by rw [mergeP]; simp
  | x :: a, [], q => by
    rw [mergeP]
    simp only [List.map_cons, List.mem_cons, List.mem_map, exists_eq_or_imp, List.not_mem_nil, false_and, exists_false, or_false]
    rw [eq_comm (a := q)]
  | x :: a, y :: b, q => by
    have h1 := mem_merge a (y :: b) q
    have h2 := mem_merge (x :: a) b q
    have h3 := mem_merge a b q
    rw [mergeP]
    split
    · rw [List.mem_cons, h1]
      constructor
      · rintro (rfl | ⟨z, hz, e⟩ | h)
        · exact .inl ⟨x, List.mem_cons_self, rfl⟩
        · exact .inl ⟨z, List.mem_cons_of_mem _ hz, e⟩
        · exact .inr h
      · rintro (⟨z, hz, e⟩ | h)
        · rcases List.mem_cons.1 hz with rfl | hz
          · exact .inl e.symm
          · exact .inr (.inl ⟨z, hz, e⟩)
        · exact .inr (.inr h)
    · rename_i n1
      split
      · simp only [List.mem_cons, h2, exists_eq_or_imp]
        constructor
        · rintro (rfl | (h | h) | h)
          · exact .inr (.inl rfl)
          · exact .inl (.inl h)
          · exact .inl (.inr h)
          · exact .inr (.inr h)
        · rintro ((h | h) | (h | h))
          · exact .inr (.inl (.inl h))
          · exact .inr (.inl (.inr h))
          · exact .inl h.symm
          · exact .inr (.inr h)
      · rename_i n2
        have e : x.p = y.p := less_eq (by simpa using n1) (by simpa using n2)
        simp only [List.mem_cons, h3, exists_eq_or_imp, ← e]
        constructor
        · rintro (rfl | h | h)
          · exact .inl (.inl rfl)
          · exact .inl (.inr h)
          · exact .inr (.inr h)
        · rintro ((h | h) | (h | h))
          · exact .inl h.symm
          · exact .inr (.inl h)
          · exact .inl h.symm
          · exact .inr (.inr h)
termination_by a b => a.length + b.length

def srtP (l : List (List UInt8)) : Prop := l.Pairwise fun p q => Op.bytesLess p q = true

theorem srt_map {t : List Nod} (h : srt t) : srtP (t.map (·.p)) := List.pairwise_map.2 h

theorem srt_merge : ∀ (a b : List Nod), srt a → srt b → srtP (mergeP a b)
  | [], b, _, h => by rw [mergeP]; exact srt_map h
  | x :: a, [], h, _ => by rw [mergeP]; exact srt_map h
  | x :: a, y :: b, ha, hb => by
    obtain ⟨xa, sa⟩ := List.pairwise_cons.1 ha
    obtain ⟨yb, sb⟩ := List.pairwise_cons.1 hb
    have h1 := srt_merge a (y :: b) sa hb
    have h2 := srt_merge (x :: a) b ha sb
    have h3 := srt_merge a b sa sb
    rw [mergeP]
    split
    · rename_i hl
      refine List.pairwise_cons.2 ⟨fun q hq => ?_, h1⟩
      rcases (mem_merge _ _ _).1 hq with ⟨z, hz, rfl⟩ | ⟨z, hz, rfl⟩
      · exact xa z hz
      · rcases List.mem_cons.1 hz with rfl | hz
        · exact hl
        · exact less_trans hl (yb z hz)
    · rename_i n1
      split
      · rename_i hl
        refine List.pairwise_cons.2 ⟨fun q hq => ?_, h2⟩
        rcases (mem_merge _ _ _).1 hq with ⟨z, hz, rfl⟩ | ⟨z, hz, rfl⟩
        · rcases List.mem_cons.1 hz with rfl | hz
          · exact hl
          · exact less_trans hl (xa z hz)
        · exact yb z hz
      · rename_i n2
        have e : x.p = y.p := less_eq (by simpa using n1) (by simpa using n2)
        refine List.pairwise_cons.2 ⟨fun q hq => ?_, h3⟩
        rcases (mem_merge _ _ _).1 hq with ⟨z, hz, rfl⟩ | ⟨z, hz, rfl⟩
        · exact xa z hz
        · rw [e]; exact yb z hz
termination_by a b => a.length + b.length

theorem chg_ok {a b : List Nod} (h1 : treeOk a = true) (h2 : treeOk b = true) : changedF a b = (mergeP a b).filter (difB a b) := by
  rw [changedF, h1, h2]; rfl

theorem chg_srt {a b : List Nod} (h1 : treeOk a = true) (h2 : treeOk b = true) : srtP (changedF a b) := by
  rw [chg_ok h1 h2]
  exact List.Pairwise.sublist List.filter_sublist (srt_merge a b ((treeOk_iff a).1 h1).2.1 ((treeOk_iff b).1 h2).2.1)

theorem merge_path {a b : List Nod} (h1 : treeOk a = true) (h2 : treeOk b = true) {q : List UInt8} (h : q ∈ mergeP a b) : pathOk q = true ∧ q ≠ [47] := by
  rcases (mem_merge _ _ _).1 h with ⟨z, hz, rfl⟩ | ⟨z, hz, rfl⟩
  · exact nod_path h1 hz
  · exact nod_path h2 hz

theorem chg_mem {a b : List Nod} (h1 : treeOk a = true) (h2 : treeOk b = true) {q : List UInt8} (h : q ∈ mergeP a b) :
    (changedF a b).any (fun x => decide (x = q)) = !(decide ((treeGetF a q).k = (treeGetF b q).k) && decide ((treeGetF a q).v = (treeGetF b q).v)) := by
  obtain ⟨q1, q2⟩ := merge_path h1 h2 h
  have e : difB a b q = !(decide ((treeGetF a q).k = (treeGetF b q).k) && decide ((treeGetF a q).v = (treeGetF b q).v)) := by
    rw [difB, treeGetF_ok h1 q1 q2, treeGetF_ok h2 q1 q2, getT, getT, if_neg q2, if_neg q2]
  rw [← e, chg_ok h1 h2]
  cases hd : difB a b q with
  | true => exact List.any_eq_true.2 ⟨q, List.mem_filter.2 ⟨h, hd⟩, by simp⟩
  | false =>
    rw [List.any_eq_false]
    intro x hx
    have := (List.mem_filter.1 hx).2
    simp only [decide_eq_true_eq]
    rintro rfl
    rw [hd] at this; cases this

theorem chg_len (a b : List Nod) : (changedF a b).length ≤ a.length + b.length := by
  unfold changedF
  split
  · simp
  · exact Nat.le_trans (List.length_filter_le _ _) (merge_len a b)

theorem filter_one {l : List (List UInt8)} {p : List UInt8} {f : List UInt8 → Bool} (hs : srtP l) (hp : p ∈ l) (hf : ∀ q ∈ l, f q = decide (q = p)) : l.filter f = [p] := by
  induction l with
  | nil => cases hp
  | cons x r ih =>
    obtain ⟨h1, h2⟩ := List.pairwise_cons.1 hs
    by_cases e : x = p
    · subst e
      rw [List.filter_cons, if_pos (by rw [hf x List.mem_cons_self]; simp)]
      congr 1
      rw [List.filter_eq_nil_iff]
      intro q hq
      rw [hf q (List.mem_cons_of_mem _ hq), decide_eq_true_eq]
      exact (less_ne (h1 q hq)).symm
    · rw [List.filter_cons, if_neg (by rw [hf x List.mem_cons_self]; simpa using e)]
      exact ih h2 ((List.mem_cons.1 hp).resolve_left fun h => e h.symm) fun q hq => hf q (List.mem_cons_of_mem _ hq)

theorem con_dec (a b : Con) : (decide (a.k = b.k) && decide (a.v = b.v)) = decide (a = b) := by
  rw [Bool.eq_iff_iff]
  simp only [Bool.and_eq_true, decide_eq_true_eq]
  exact ⟨fun h => con_eta h.1 h.2, fun h => by rw [h]; exact ⟨rfl, rfl⟩⟩

/-- what one put changes -/
theorem chg_put {t : List Nod} {p : List UInt8} {c : Con} (h : (treePutF t p c).2 = true) : changedF t (putF t p c) = if treeGetF t p = c then [] else [p] := by
  obtain ⟨h1, h2, h3, h4, h5⟩ := treePutF_ok h
  obtain ⟨q1, q2⟩ := depth_path h2
  have s := ((treeOk_iff t).1 h1).2.1
  have sT := srt_put s p c
  rw [treeGetF_ok h1 q1 q2, chg_ok h1 h5]
  have hd : ∀ q, q ∈ mergeP t (putF t p c) → difB t (putF t p c) q = (decide (q = p) && !decide (getF t p = c)) := fun q hq => by
    have hq2 := (merge_path h1 h5 hq).2
    rw [difB, con_dec, getT, getT, if_neg hq2, if_neg hq2, getF_put s h3]
    by_cases e : q = p
    · subst e
      simp
    · simp [e]
  split
  · rename_i e
    rw [List.filter_eq_nil_iff]
    intro q hq
    rw [hd q hq]
    simp [e]
  · rename_i e
    refine filter_one (srt_merge _ _ s sT) ?_ fun q hq => by rw [hd q hq]; simp [e]
    rw [mem_merge]
    by_cases hk : (getF t p).k = 0
    · by_cases hc : c.k = 0
      · exfalso
        apply e
        have o1 := getF_ok h1 p
        refine con_eta (hk.trans hc.symm) ?_
        have z1 : (getF t p).v = 0 := by
          simp only [conOk, hk] at o1
          simpa using o1
        have z2 : c.v = 0 := by
          simp only [conOk, hc] at h3
          simpa using h3
        rw [z1, z2]
      · right
        have := getF_put s h3 p p
        rw [if_pos rfl] at this
        obtain ⟨x, hx, e1, _⟩ := getF_mem (t := putF t p c) (p := p) (by rw [this]; exact hc)
        exact ⟨x, hx, e1⟩
    · left
      obtain ⟨x, hx, e1, _⟩ := getF_mem hk
      exact ⟨x, hx, e1⟩

end Go.Proofs.YtlmlnbmagmembaaDoor
