import Derived.Test.YtellipmolheaaaaGreatDoorPut
import Derived.Test.YtellipmolheaaaaGreatDoorConQ
import Derived.Test.YtellipmolheaaaaGreatDoorLawQ
import Derived.Test.YtellipmolheaaaaGreatDoorFits
set_option linter.unusedSimpArgs false
set_option maxRecDepth 10000
namespace Go.Proofs.YtellipmolheaaaaGreatDoor
open Go Go.RowKit

/-! ### sorted lists by what is in them -/

theorem sorted_ext {α : Type} {lt : α → α → Bool} (irr : ∀ x, lt x x = false) (asy : ∀ x y, lt x y = true → lt y x = false) : ∀ {a b : List α}, (a.Pairwise fun x y => lt x y = true) → (b.Pairwise fun x y => lt x y = true) → (∀ x, x ∈ a ↔ x ∈ b) → a = b
  | [], [], _, _, _ => rfl
  | [], y :: b, _, _, h => absurd ((h y).2 List.mem_cons_self) (by simp)
  | x :: a, [], _, _, h => absurd ((h x).1 List.mem_cons_self) (by simp)
  | x :: a, y :: b, ha, hb, h => by
    have no : ∀ {z : α} {c : List α}, (∀ w ∈ c, lt z w = true) → z ∉ c := fun h hx => by
      have := h _ hx
      rw [irr] at this
      cases this
    have hxy : x = y := by
      rcases List.mem_cons.1 ((h x).1 List.mem_cons_self) with e | e
      · exact e
      · rcases List.mem_cons.1 ((h y).2 List.mem_cons_self) with e2 | e2
        · exact e2.symm
        · have l1 := (List.pairwise_cons.1 hb).1 x e
          have l2 := (List.pairwise_cons.1 ha).1 y e2
          rw [asy _ _ l1] at l2
          cases l2
    subst hxy
    congr 1
    refine sorted_ext irr asy (List.pairwise_cons.1 ha).2 (List.pairwise_cons.1 hb).2 fun z => ⟨fun hz => ?_, fun hz => ?_⟩
    · rcases List.mem_cons.1 ((h z).1 (List.mem_cons_of_mem _ hz)) with e | e
      · exact absurd hz (by rw [e]; exact no (List.pairwise_cons.1 ha).1)
      · exact e
    · rcases List.mem_cons.1 ((h z).2 (List.mem_cons_of_mem _ hz)) with e | e
      · exact absurd hz (by rw [e]; exact no (List.pairwise_cons.1 hb).1)
      · exact e

theorem srt_mem {a b : List Nod} (ha : srt a) (hb : srt b) (h : ∀ x, x ∈ a ↔ x ∈ b) : a = b :=
  sorted_ext (lt := fun x y : Nod => Op.bytesLess x.p y.p) (fun _ => less_irrefl _) (fun _ _ h => less_asymm h) ha hb h

end Go.Proofs.YtellipmolheaaaaGreatDoor

set_option linter.unusedSimpArgs false
set_option maxRecDepth 10000
namespace Go.Proofs.YtellipmolheaaaaGreatDoor
open Go Go.RowKit

/-! ### logs by their paths -/

/-- what a log does to a path, in its order -/
def thr (cs : List Cmd) (p : List UInt8) : List (Con × Con) := (cs.filter fun c => decide (c.p = p)).map fun c => (c.f, c.t)

/-- each begins with what the one before leaves -/
def chain : Con → List (Con × Con) → Con → Prop
  | s, [], e => s = e
  | s, x :: l, e => x.1 = s ∧ chain x.2 l e

theorem thr_append (a b : List Cmd) (p : List UInt8) : thr (a ++ b) p = thr a p ++ thr b p := by simp [thr]

theorem thr_cons (c : Cmd) (r : List Cmd) (p : List UInt8) : thr (c :: r) p = if c.p = p then (c.f, c.t) :: thr r p else thr r p := by
  rw [thr, List.filter_cons]
  by_cases h : c.p = p <;> simp [h, thr]

theorem chain_append : ∀ {a b : List (Con × Con)} {s e : Con}, chain s (a ++ b) e ↔ ∃ m, chain s a m ∧ chain m b e
  | [], b, s, e => ⟨fun h => ⟨s, rfl, h⟩, fun ⟨m, h1, h2⟩ => by
      have h1 : s = m := h1
      rw [h1]
      exact h2⟩
  | x :: a, b, s, e => by
    constructor
    · rintro ⟨h1, h2⟩
      obtain ⟨m, h3, h4⟩ := chain_append.1 h2
      exact ⟨m, ⟨h1, h3⟩, h4⟩
    · rintro ⟨m, ⟨h1, h3⟩, h4⟩
      exact ⟨h1, chain_append.2 ⟨m, h3, h4⟩⟩

theorem chain_end : ∀ {l : List (Con × Con)} {s e e' : Con}, chain s l e → chain s l e' → e = e'
  | [], _, _, _, h, h' => by
    have h : _ = _ := h
    have h' : _ = _ := h'
    rw [← h, ← h']
  | _ :: _, _, _, _, h, h' => chain_end h.2 h'.2

theorem chain_two {l : List (Con × Con)} {s e s' e' : Con} (hl : l ≠ []) (h : chain s l e) (h' : chain s' l e') : s = s' ∧ e = e' := by
  cases l with
  | nil => exact absurd rfl hl
  | cons x l =>
    have hs : s = s' := h.1.symm.trans h'.1
    subst hs
    exact ⟨rfl, chain_end h h'⟩

theorem chain_ends : ∀ {l : List (Con × Con)} {s e : Con}, l ≠ [] → chain s l e → (∃ x ∈ l, x.1 = s) ∧ ∃ x ∈ l, x.2 = e
  | [x], s, e, _, h => ⟨⟨x, by simp, h.1⟩, ⟨x, by simp, h.2⟩⟩
  | x :: y :: l, s, e, _, h => by
    obtain ⟨_, z, hz, e2⟩ := chain_ends (by simp) h.2
    exact ⟨⟨x, by simp, h.1⟩, ⟨z, List.mem_cons_of_mem _ hz, e2⟩⟩

/-- each path's commands join -/
def joinsP (cs : List Cmd) : Prop := ∀ p, ∃ s e, chain s (thr cs p) e

theorem thr_mem {cs : List Cmd} {p : List UInt8} {x : Con × Con} (h : x ∈ thr cs p) : ∃ d ∈ cs, d.p = p ∧ x = (d.f, d.t) := by
  obtain ⟨d, hd, e⟩ := List.mem_map.1 h
  obtain ⟨h1, h2⟩ := List.mem_filter.1 hd
  exact ⟨d, h1, by simpa using h2, e.symm⟩

theorem thr_ne {cs : List Cmd} {p : List UInt8} : thr cs p ≠ [] ↔ ∃ d ∈ cs, d.p = p := by
  constructor
  · intro h
    obtain ⟨x, hx⟩ := List.exists_mem_of_ne_nil _ h
    obtain ⟨d, h1, h2, _⟩ := thr_mem hx
    exact ⟨d, h1, h2⟩
  · rintro ⟨d, h1, h2⟩ h
    have : (d.f, d.t) ∈ thr cs p := List.mem_map.2 ⟨d, List.mem_filter.2 ⟨h1, by simpa using h2⟩, rfl⟩
    rw [h] at this
    cases this

theorem thr_one {cs : List Cmd} (hn : (cs.map (·.p)).Nodup) {c : Cmd} (hc : c ∈ cs) : thr cs c.p = [(c.f, c.t)] := by
  induction cs with
  | nil => cases hc
  | cons d r ih =>
    rw [List.map_cons, List.nodup_cons] at hn
    rw [thr_cons]
    rcases List.mem_cons.1 hc with rfl | h
    · rw [if_pos rfl]
      congr 1
      exact Classical.byContradiction fun h => by
        obtain ⟨e, he, ep⟩ := thr_ne.1 h
        exact hn.1 (List.mem_map.2 ⟨e, he, ep⟩)
    · rw [if_neg fun e => hn.1 (List.mem_map.2 ⟨c, h, e.symm⟩)]
      exact ih hn.2 h

/-! ### the canonical log of a log -/

theorem before_irrefl (c : Cmd) : beforeF c c = false := by
  rw [beforeF]
  cases endsF c <;> simp [less_irrefl]

theorem before_asymm {a b : Cmd} (h : beforeF a b = true) : beforeF b a = false := by
  unfold beforeF at *
  cases ha : endsF a <;> cases hb : endsF b <;> simp only [ha, hb, Bool.and_true, Bool.and_false, Bool.true_and, Bool.false_and, Bool.not_true, Bool.not_false, if_true, if_false, Bool.false_eq_true, reduceIte] at h ⊢
  · exact less_asymm h
  · exact less_asymm h

structure CanR (cs out : List Cmd) : Prop where
  srt : out.Pairwise fun x y => beforeF x y = true
  nod : (out.map (·.p)).Nodup
  mem : ∀ c, c ∈ out ↔ thr cs c.p ≠ [] ∧ chain c.f (thr cs c.p) c.t ∧ c.f ≠ c.t

theorem cmd_ext {c d : Cmd} (h1 : c.p = d.p) (h2 : c.f = d.f) (h3 : c.t = d.t) : c = d := by
  cases c; cases d; simp_all

theorem CanR.once {cs out : List Cmd} (h : CanR cs out) : CanR out out ∧ joinsP out := by
  refine ⟨⟨h.srt, h.nod, fun c => ⟨fun hc => ?_, fun ⟨h1, h2, h3⟩ => ?_⟩⟩, fun p => ?_⟩
  · rw [thr_one h.nod hc]
    exact ⟨by simp, ⟨rfl, rfl⟩, ((h.mem c).1 hc).2.2⟩
  · obtain ⟨d, hd, ep⟩ := thr_ne.1 h1
    rw [← ep, thr_one h.nod hd] at h2
    have e1 : d.f = c.f := h2.1
    have e2 : d.t = c.t := h2.2
    rw [← cmd_ext ep e1 e2]
    exact hd
  · by_cases hp : thr out p = []
    · exact ⟨⟨0, 0⟩, ⟨0, 0⟩, by rw [hp]; rfl⟩
    · obtain ⟨d, hd, rfl⟩ := thr_ne.1 hp
      exact ⟨d.f, d.t, by rw [thr_one h.nod hd]; exact ⟨rfl, rfl⟩⟩

/-- a chain goes through what is left of it -/
theorem CanR.net {cs out : List Cmd} (h : CanR cs out) {p : List UInt8} {s e : Con} (hc : chain s (thr cs p) e) : chain s (thr out p) e := by
  by_cases hp : thr out p = []
  · rw [hp]
    show s = e
    by_cases hl : thr cs p = []
    · rw [hl] at hc
      exact hc
    · exact Classical.byContradiction fun hne => by
        have : (⟨p, s, e⟩ : Cmd) ∈ out := (h.mem ⟨p, s, e⟩).2 ⟨hl, hc, hne⟩
        exact (thr_ne.2 ⟨_, this, rfl⟩) hp
  · obtain ⟨d, hd, rfl⟩ := thr_ne.1 hp
    obtain ⟨k1, k2, k3⟩ := (h.mem d).1 hd
    obtain ⟨e1, e2⟩ := chain_two k1 hc k2
    rw [thr_one h.nod hd, e1, e2]
    exact ⟨rfl, rfl⟩

theorem CanR.join {a b x y out : List Cmd} (ha : CanR a x) (hb : CanR b y) (ho : CanR (a ++ b) out) (hj : joinsP (a ++ b)) : CanR (x ++ y) out ∧ joinsP (x ++ y) := by
  have key : ∀ {p s e}, chain s (thr (a ++ b) p) e → chain s (thr (x ++ y) p) e := fun {p s e} h => by
    rw [thr_append] at h ⊢
    obtain ⟨m, h1, h2⟩ := chain_append.1 h
    exact chain_append.2 ⟨m, ha.net h1, hb.net h2⟩
  refine ⟨⟨ho.srt, ho.nod, fun c => (ho.mem c).trans ⟨fun ⟨h1, h2, h3⟩ => ⟨fun h => ?_, key h2, h3⟩, fun ⟨h1, h2, h3⟩ => ?_⟩⟩, fun p => ?_⟩
  · have := key h2
    rw [h] at this
    exact h3 this
  · obtain ⟨s, e, hse⟩ := hj c.p
    obtain ⟨e1, e2⟩ := chain_two h1 (key hse) h2
    subst e1
    subst e2
    refine ⟨fun h => ?_, hse, h3⟩
    rw [h] at hse
    exact h3 hse
  · obtain ⟨s, e, hse⟩ := hj p
    exact ⟨s, e, key hse⟩

theorem nodup_len {α : Type} [DecidableEq α] : ∀ {l m : List α}, l.Nodup → (∀ x ∈ l, x ∈ m) → l.length ≤ m.length
  | [], _, _, _ => Nat.zero_le _
  | x :: l, m, hn, hs => by
    rw [List.nodup_cons] at hn
    have hx := hs x List.mem_cons_self
    have h1 := nodup_len (m := m.erase x) hn.2 fun y hy => (List.mem_erase_of_ne (fun e => hn.1 (by rw [← e]; exact hy))).2 (hs y (List.mem_cons_of_mem _ hy))
    have h2 := List.length_erase_of_mem hx
    have h3 := List.length_pos_of_mem hx
    rw [List.length_cons]
    omega

theorem CanR.len {cs out : List Cmd} (h : CanR cs out) : out.length ≤ cs.length := by
  have := nodup_len h.nod (m := cs.map (·.p)) fun p hp => by
    obtain ⟨c, hc, rfl⟩ := List.mem_map.1 hp
    obtain ⟨d, hd, e⟩ := thr_ne.1 ((h.mem c).1 hc).1
    exact List.mem_map.2 ⟨d, hd, e⟩
  simpa using this

theorem con_decB {a b : Con} (h : a ≠ b) : (decide (a.k = b.k) && decide (a.v = b.v)) = false := by
  rw [Bool.and_eq_false_iff, decide_eq_false_iff_not, decide_eq_false_iff_not]
  by_cases e : a.k = b.k
  · exact .inr fun e2 => h (con_eta e e2)
  · exact .inl e

theorem CanR.ok {cs out : List Cmd} (h : CanR cs out) (hl : logOk cs = true) : logOk out = true := by
  have h0 := hl
  simp only [logOk, Bool.and_eq_true, decide_eq_true_eq] at h0
  have := h.len
  rw [logOk, decide_eq_true (show out.length ≤ 20 by omega), Bool.true_and, List.all_eq_true]
  intro c hc
  obtain ⟨k1, k2, k3⟩ := (h.mem c).1 hc
  obtain ⟨⟨x, hx, ex⟩, ⟨y, hy, ey⟩⟩ := chain_ends k1 k2
  obtain ⟨d1, i1, p1, rfl⟩ := thr_mem hx
  obtain ⟨d2, i2, p2, rfl⟩ := thr_mem hy
  have o1 := logOk_mem0 hl i1
  have c1 := (cmdOk_con o1).1
  have c2 := (cmdOk_con (logOk_mem0 hl i2)).2
  have hd : 0 < depthF d1.p := by
    simp only [cmdOk, Bool.and_eq_true, decide_eq_true_eq] at o1
    exact o1.1.1.1
  simp only at ex ey
  rw [ex] at c1
  rw [ey] at c2
  rw [p1] at hd
  rw [cmdOk, decide_eq_true hd, c1, c2, con_decB k3]
  rfl

end Go.Proofs.YtellipmolheaaaaGreatDoor
