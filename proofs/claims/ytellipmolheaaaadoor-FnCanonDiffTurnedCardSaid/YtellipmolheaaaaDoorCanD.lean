import Derived.Test.YtellipmolheaaaaDoorConEE
import Derived.Test.YtellipmolheaaaaDoorConM
import Derived.Test.YtellipmolheaaaaDoorLawN
import Derived.Test.YtellipmolheaaaaDoorFits
import Derived.Test.YtellipmolheaaaaDoorLawQ
import Derived.Test.YtellipmolheaaaaDoorCanS
set_option linter.unusedSimpArgs false
set_option maxRecDepth 10000
namespace Go.Proofs.YtellipmolheaaaaDoor
open Go Go.RowKit

theorem less_eq {a b : List UInt8} (h : Op.bytesLess a b = false) (h2 : Op.bytesLess b a = false) : a = b := by
  by_cases e : a = b
  · exact e
  · have := less_tri e h
    rw [h2] at this
    cases this

theorem mem_merge : ∀ (a b : List Nod) (q : List UInt8), q ∈ mergeP a b ↔ (∃ x ∈ a, x.p = q) ∨ ∃ y ∈ b, y.p = q
  | [], b, q => by rw [mergeP]; simp
  | x :: a, [], q => by
    rw [mergeP]
    simp only [List.map_cons, List.mem_cons, List.mem_map, exists_eq_or_imp, List.not_mem_nil, false_and, exists_false, or_false]
    rw [eq_comm (a := q)]
  | x :: a, y :: b, q => by
    have h1 := mem_merge a (y :: b) q
    have h2 := mem_merge (x :: a) b q
    have h3 := mem_merge a b q
    rw [mergeP]
    split
    · rw [List.mem_cons, h1]
      constructor
      · rintro (rfl | ⟨z, hz, e⟩ | h)
        · exact .inl ⟨x, List.mem_cons_self, rfl⟩
        · exact .inl ⟨z, List.mem_cons_of_mem _ hz, e⟩
        · exact .inr h
      · rintro (⟨z, hz, e⟩ | h)
        · rcases List.mem_cons.1 hz with rfl | hz
          · exact .inl e.symm
          · exact .inr (.inl ⟨z, hz, e⟩)
        · exact .inr (.inr h)
    · rename_i n1
      split
      · simp only [List.mem_cons, h2, exists_eq_or_imp]
        constructor
        · rintro (rfl | (h | h) | h)
          · exact .inr (.inl rfl)
          · exact .inl (.inl h)
          · exact .inl (.inr h)
          · exact .inr (.inr h)
        · rintro ((h | h) | (h | h))
          · exact .inr (.inl (.inl h))
          · exact .inr (.inl (.inr h))
          · exact .inl h.symm
          · exact .inr (.inr h)
      · rename_i n2
        have e : x.p = y.p := less_eq (by simpa using n1) (by simpa using n2)
        simp only [List.mem_cons, h3, exists_eq_or_imp, ← e]
        constructor
        · rintro (rfl | h | h)
          · exact .inl (.inl rfl)
          · exact .inl (.inr h)
          · exact .inr (.inr h)
        · rintro ((h | h) | (h | h))
          · exact .inl h.symm
          · exact .inr (.inl h)
          · exact .inl h.symm
          · exact .inr (.inr h)
termination_by a b => a.length + b.length

def srtP (l : List (List UInt8)) : Prop := l.Pairwise fun p q => Op.bytesLess p q = true

theorem srt_map {t : List Nod} (h : srt t) : srtP (t.map (·.p)) := List.pairwise_map.2 h

theorem srt_merge : ∀ (a b : List Nod), srt a → srt b → srtP (mergeP a b)
  | [], b, _, h => by rw [mergeP]; exact srt_map h
  | x :: a, [], h, _ => by rw [mergeP]; exact srt_map h
  | x :: a, y :: b, ha, hb => by
    obtain ⟨xa, sa⟩ := List.pairwise_cons.1 ha
    obtain ⟨yb, sb⟩ := List.pairwise_cons.1 hb
    have h1 := srt_merge a (y :: b) sa hb
    have h2 := srt_merge (x :: a) b ha sb
    have h3 := srt_merge a b sa sb
    rw [mergeP]
    split
    · rename_i hl
      refine List.pairwise_cons.2 ⟨fun q hq => ?_, h1⟩
      rcases (mem_merge _ _ _).1 hq with ⟨z, hz, rfl⟩ | ⟨z, hz, rfl⟩
      · exact xa z hz
      · rcases List.mem_cons.1 hz with rfl | hz
        · exact hl
        · exact less_trans hl (yb z hz)
    · rename_i n1
      split
      · rename_i hl
        refine List.pairwise_cons.2 ⟨fun q hq => ?_, h2⟩
        rcases (mem_merge _ _ _).1 hq with ⟨z, hz, rfl⟩ | ⟨z, hz, rfl⟩
        · rcases List.mem_cons.1 hz with rfl | hz
          · exact hl
          · exact less_trans hl (xa z hz)
        · exact yb z hz
      · rename_i n2
        have e : x.p = y.p := less_eq (by simpa using n1) (by simpa using n2)
        refine List.pairwise_cons.2 ⟨fun q hq => ?_, h3⟩
        rcases (mem_merge _ _ _).1 hq with ⟨z, hz, rfl⟩ | ⟨z, hz, rfl⟩
        · exact xa z hz
        · rw [e]; exact yb z hz
termination_by a b => a.length + b.length

theorem chg_ok {a b : List Nod} (h1 : treeOk a = true) (h2 : treeOk b = true) : changedF a b = (mergeP a b).filter (difB a b) := by
  rw [changedF, h1, h2]; rfl

theorem chg_srt {a b : List Nod} (h1 : treeOk a = true) (h2 : treeOk b = true) : srtP (changedF a b) := by
  rw [chg_ok h1 h2]
  exact List.Pairwise.sublist List.filter_sublist (srt_merge a b ((treeOk_iff a).1 h1).2.1 ((treeOk_iff b).1 h2).2.1)

theorem merge_path {a b : List Nod} (h1 : treeOk a = true) (h2 : treeOk b = true) {q : List UInt8} (h : q ∈ mergeP a b) : pathOk q = true ∧ q ≠ [47] := by
  rcases (mem_merge _ _ _).1 h with ⟨z, hz, rfl⟩ | ⟨z, hz, rfl⟩
  · exact nod_path h1 hz
  · exact nod_path h2 hz

theorem chg_len (a b : List Nod) : (changedF a b).length ≤ a.length + b.length := by
  unfold changedF
  split
  · simp
  · exact Nat.le_trans (List.length_filter_le _ _) (merge_len a b)

end Go.Proofs.YtellipmolheaaaaDoor

set_option linter.unusedSimpArgs false
set_option maxRecDepth 10000
namespace Go.Proofs.YtellipmolheaaaaDoor
open Go Go.RowKit

/-! ### what is copied -/

end Go.Proofs.YtellipmolheaaaaDoor

set_option linter.unusedSimpArgs false
set_option maxRecDepth 10000
namespace Go.Proofs.YtellipmolheaaaaDoor
open Go Go.RowKit

/-! ### a log taken back -/

theorem undoF_ok {c : Cmd} (h : cmdOk c = true) : undoF c = ⟨c.p, c.t, c.f⟩ := if_pos h

/-! ### what is removed -/

end Go.Proofs.YtellipmolheaaaaDoor

set_option linter.unusedSimpArgs false
set_option maxRecDepth 10000
namespace Go.Proofs.YtellipmolheaaaaDoor
open Go Go.RowKit

/-! ### the canonical log from one tree to another -/

def rawD (t u : List Nod) : List Cmd := (changedF t u).map fun p => ⟨p, getT t p, getT u p⟩

def difF (t u : List Nod) : List Cmd × Bool := if (!treeOk t || !treeOk u) = true then ([], false) else (sort14F (rawD t u), true)

theorem rawD_p (t u : List Nod) : (rawD t u).map (·.p) = changedF t u := by
  rw [rawD, List.map_map]
  exact List.map_id _

theorem rawD_nod {t u : List Nod} (h1 : treeOk t = true) (h2 : treeOk u = true) : ((rawD t u).map (·.p)).Nodup := by
  rw [rawD_p]
  exact (chg_srt h1 h2).imp fun h => less_ne h

theorem mem_changed {t u : List Nod} (h1 : treeOk t = true) (h2 : treeOk u = true) (p : List UInt8) : p ∈ changedF t u ↔ getT t p ≠ getT u p := by
  rw [chg_ok h1 h2, List.mem_filter]
  have hd : difB t u p = true ↔ getT t p ≠ getT u p := by
    constructor
    · intro h e
      rw [difB, e] at h
      simp at h
    · intro h
      rw [difB, con_decB h]
      rfl
  rw [hd]
  constructor
  · exact fun h => h.2
  · intro h
    refine ⟨(mem_merge _ _ _).2 ?_, h⟩
    have np : p ≠ [47] := fun e => h (by rw [e, getT, getT, if_pos rfl, if_pos rfl])
    have h0 := h
    rw [getT, getT, if_neg np, if_neg np] at h0
    by_cases hk : (getF t p).k = 0
    · by_cases hk2 : (getF u p).k = 0
      · exact absurd ((con_zero (getF_ok h1 p) hk).trans (con_zero (getF_ok h2 p) hk2).symm) h0
      · obtain ⟨y, hy, e, _⟩ := getF_mem hk2
        exact .inr ⟨y, hy, e⟩
    · obtain ⟨y, hy, e, _⟩ := getF_mem hk
      exact .inl ⟨y, hy, e⟩

theorem mem_rawD {t u : List Nod} (h1 : treeOk t = true) (h2 : treeOk u = true) (c : Cmd) : c ∈ rawD t u ↔ c.f = getT t c.p ∧ c.t = getT u c.p ∧ c.f ≠ c.t := by
  rw [rawD, List.mem_map]
  constructor
  · rintro ⟨p, hp, rfl⟩
    exact ⟨rfl, rfl, (mem_changed h1 h2 p).1 hp⟩
  · rintro ⟨e1, e2, e3⟩
    refine ⟨c.p, (mem_changed h1 h2 c.p).2 (by rw [← e1, ← e2]; exact e3), ?_⟩
    rw [← e1, ← e2]

theorem difF_no {t u : List Nod} (h : (!treeOk t || !treeOk u) = true) : difF t u = ([], false) := by rw [difF, if_pos h]
theorem difF_yes {t u : List Nod} (h1 : treeOk t = true) (h2 : treeOk u = true) : difF t u = (sort14F (rawD t u), true) := by
  rw [difF, h1, h2]
  rfl

theorem dif_mem {t u : List Nod} (h1 : treeOk t = true) (h2 : treeOk u = true) (c : Cmd) : c ∈ (difF t u).1 ↔ c.f = getT t c.p ∧ c.t = getT u c.p ∧ c.f ≠ c.t := by
  rw [difF_yes h1 h2, (sort14_ok (rawD_nod h1 h2)).1.mem_iff, mem_rawD h1 h2]

theorem dif_len {t u : List Nod} (h1 : treeOk t = true) (h2 : treeOk u = true) : (difF t u).1.length = (changedF t u).length := by
  rw [difF_yes h1 h2, (sort14_ok (rawD_nod h1 h2)).1.length_eq, rawD, List.length_map]

theorem dif_cmd {t u : List Nod} (h1 : treeOk t = true) (h2 : treeOk u = true) {c : Cmd} (hc : c ∈ (difF t u).1) : cmdOk c = true := by
  obtain ⟨e1, e2, e3⟩ := (dif_mem h1 h2 c).1 hc
  have hm : c.p ∈ changedF t u := (mem_changed h1 h2 c.p).2 (by rw [← e1, ← e2]; exact e3)
  rw [chg_ok h1 h2] at hm
  obtain ⟨hm, _⟩ := List.mem_filter.1 hm
  obtain ⟨q1, q2⟩ := merge_path h1 h2 hm
  have hd := depth_of q1 q2
  have ok1 : conOk c.f = true := by
    rw [e1, getT, if_neg q2]
    exact getF_ok h1 _
  have ok2 : conOk c.t = true := by
    rw [e2, getT, if_neg q2]
    exact getF_ok h2 _
  rw [cmdOk, decide_eq_true hd, ok1, ok2, con_decB e3]
  rfl

theorem dif_turn {t u : List Nod} (h1 : treeOk t = true) (h2 : treeOk u = true) {c : Cmd} (hc : c ∈ (difF t u).1) : undoF c ∈ (difF u t).1 := by
  rw [undoF_ok (dif_cmd h1 h2 hc)]
  obtain ⟨e1, e2, e3⟩ := (dif_mem h1 h2 c).1 hc
  exact (dif_mem h2 h1 _).2 ⟨e2, e1, fun e => e3 e.symm⟩

theorem dif_lens {t u : List Nod} (h1 : treeOk t = true) (h2 : treeOk u = true) : (difF u t).1.length = (difF t u).1.length := by
  rw [dif_len h1 h2, dif_len h2 h1]
  have key : ∀ {a b : List Nod}, treeOk a = true → treeOk b = true → (changedF a b).length ≤ (changedF b a).length := fun {a b} ha hb =>
    nodup_len ((chg_srt ha hb).imp fun h => less_ne h) fun p hp => (mem_changed hb ha p).2 fun e => (mem_changed ha hb p).1 hp e.symm
  exact Nat.le_antisymm (key h2 h1) (key h1 h2)

end Go.Proofs.YtellipmolheaaaaDoor
