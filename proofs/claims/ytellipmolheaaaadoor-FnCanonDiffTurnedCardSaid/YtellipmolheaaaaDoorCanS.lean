import Derived.Test.YtellipmolheaaaaDoorCanM
set_option linter.unusedSimpArgs false
set_option maxRecDepth 10000
namespace Go.Proofs.YtellipmolheaaaaDoor
open Go Go.RowKit

/-! ### the reference's canonical log -/

theorem put14_nil (c : Cmd) : put14F [] c = [c] := rfl

theorem put14_cons (d : Cmd) (r : List Cmd) (c : Cmd) : put14F (d :: r) c = if beforeF c d = true then c :: d :: r else d :: put14F r c := by
  cases h : beforeF c d <;> simp [put14F, List.takeWhile_cons, List.dropWhile_cons, h]

def runS (c : Cmd) : List Cmd → Option Cmd
  | [] => some c
  | d :: r => if d.p = c.p then (if d.f = c.t then runS ⟨c.p, c.f, d.t⟩ r else none) else runS c r

theorem runS_ok : ∀ (r : List Cmd) (c c' : Cmd), runS c r = some c' → c'.p = c.p ∧ c'.f = c.f ∧ chain c.t (thr r c.p) c'.t
  | [], c, c', h => by
    obtain rfl : c = c' := by simpa [runS] using h
    exact ⟨rfl, rfl, rfl⟩
  | d :: r, c, c', h => by
    rw [runS] at h
    rw [thr_cons]
    by_cases h1 : d.p = c.p
    · rw [if_pos h1] at h ⊢
      by_cases h2 : d.f = c.t
      · rw [if_pos h2] at h
        obtain ⟨a1, a2, a3⟩ := runS_ok r _ c' h
        exact ⟨a1, a2, h2, a3⟩
      · rw [if_neg h2] at h
        cases h
    · rw [if_neg h1] at h ⊢
      exact runS_ok r c c' h

theorem runS_no : ∀ (r : List Cmd) (c : Cmd), runS c r = none → ∀ e, ¬ chain c.t (thr r c.p) e
  | [], c, h, e, _ => by simp [runS] at h
  | d :: r, c, h, e, hc => by
    rw [runS] at h
    rw [thr_cons] at hc
    by_cases h1 : d.p = c.p
    · rw [if_pos h1] at h hc
      by_cases h2 : d.f = c.t
      · rw [if_pos h2] at h
        exact runS_no r _ h e hc.2
      · exact h2 hc.1
    · rw [if_neg h1] at h hc
      exact runS_no r c h e hc

structure SpR (cs : List Cmd) (i : Nat) (out : List Cmd) : Prop where
  nod : (out.map (·.p)).Nodup
  mem : ∀ c, c ∈ out ↔ (∃ d ∈ cs.take i, d.p = c.p) ∧ chain c.f (thr cs c.p) c.t ∧ c.f ≠ c.t
  join : ∀ d ∈ cs.take i, ∃ s e, chain s (thr cs d.p) e

theorem spR_nil (cs : List Cmd) : SpR cs 0 [] := ⟨List.nodup_nil, fun c => ⟨fun h => (by cases h), fun ⟨⟨d, hd, _⟩, _⟩ => (by simp at hd)⟩, fun d hd => by simp at hd⟩

theorem spR_old {cs out : List Cmd} {i : Nat} {x : Cmd} (h : SpR cs i out) (hx : cs[i]? = some x) (hf : ((cs.take i).all fun c => decide (c.p ≠ x.p)) = false) : SpR cs (i + 1) out := by
  rw [List.all_eq_false] at hf
  obtain ⟨z, hz, he⟩ := hf
  have he : z.p = x.p := by simpa using he
  refine ⟨h.nod, fun c => (h.mem c).trans ⟨fun ⟨⟨d, h1, h2⟩, k⟩ => ⟨⟨d, by rw [take_snoc hx]; exact List.mem_append_left _ h1, h2⟩, k⟩, fun ⟨⟨d, h1, h2⟩, k⟩ => ⟨?_, k⟩⟩, fun d hd => ?_⟩
  · rw [take_snoc hx, List.mem_append, List.mem_singleton] at h1
    rcases h1 with h1 | rfl
    · exact ⟨d, h1, h2⟩
    · exact ⟨z, hz, he.trans h2⟩
  · rw [take_snoc hx, List.mem_append, List.mem_singleton] at hd
    rcases hd with h1 | rfl
    · exact h.join d h1
    · rw [← he]
      exact h.join z hz

theorem thr_first {cs : List Cmd} {i : Nat} {x : Cmd} (hx : cs[i]? = some x) (hf : ((cs.take i).all fun c => decide (c.p ≠ x.p)) = true) : thr cs x.p = (x.f, x.t) :: thr (cs.drop (i + 1)) x.p := by
  have e : cs = cs.take i ++ x :: cs.drop (i + 1) := by
    conv => lhs; rw [← List.take_append_drop i cs, drop_cons hx]
  have h0 : thr (cs.take i) x.p = [] := Classical.byContradiction fun hne => by
    obtain ⟨d, hd, ep⟩ := thr_ne.1 hne
    have := List.all_eq_true.1 hf d hd
    simp [ep] at this
  conv => lhs; rw [e]
  rw [thr_append, h0, List.nil_append, thr_cons, if_pos rfl]

theorem spR_new {cs out : List Cmd} {i : Nat} {x c' : Cmd} (h : SpR cs i out) (hx : cs[i]? = some x) (hf : ((cs.take i).all fun c => decide (c.p ≠ x.p)) = true) (hr : runS x (cs.drop (i + 1)) = some c') :
    (c'.f ≠ c'.t → SpR cs (i + 1) (out ++ [c'])) ∧ (c'.f = c'.t → SpR cs (i + 1) out) := by
  obtain ⟨e1, e2, e3⟩ := runS_ok _ _ _ hr
  have hth := thr_first hx hf
  have hch : chain c'.f (thr cs c'.p) c'.t := by
    rw [e1, e2, hth]
    exact ⟨rfl, e3⟩
  have hno : ∀ d ∈ out, d.p ≠ x.p := fun d hd ep => by
    obtain ⟨⟨z, hz, ez⟩, _⟩ := (h.mem d).1 hd
    have := List.all_eq_true.1 hf z hz
    simp [ez, ep] at this
  have hne : thr cs x.p ≠ [] := by rw [hth]; simp
  have hjoin : ∀ d ∈ cs.take (i + 1), ∃ s e, chain s (thr cs d.p) e := fun d hd => by
    rw [take_snoc hx, List.mem_append, List.mem_singleton] at hd
    rcases hd with h1 | rfl
    · exact h.join d h1
    · exact ⟨_, _, by rw [e1] at hch; exact hch⟩
  constructor
  · intro hft
    refine ⟨?_, fun c => ?_, hjoin⟩
    · rw [List.map_append, List.nodup_append]
      refine ⟨h.nod, by simp, fun a ha b hb => ?_⟩
      obtain ⟨d, hd, rfl⟩ := List.mem_map.1 ha
      simp only [List.map_cons, List.map_nil, List.mem_singleton] at hb
      rw [hb, e1]
      exact hno d hd
    · rw [List.mem_append, List.mem_singleton, h.mem, take_snoc hx]
      constructor
      · rintro (⟨⟨d, h1, h2⟩, k⟩ | rfl)
        · exact ⟨⟨d, List.mem_append_left _ h1, h2⟩, k⟩
        · exact ⟨⟨x, by simp, e1.symm⟩, hch, hft⟩
      · rintro ⟨⟨d, h1, h2⟩, k1, k2⟩
        rw [List.mem_append, List.mem_singleton] at h1
        rcases h1 with h1 | rfl
        · exact .inl ⟨⟨d, h1, h2⟩, k1, k2⟩
        · refine .inr (cmd_ext (h2.symm.trans e1.symm) ?_ ?_)
          · rw [← h2] at k1
            rw [e1] at hch
            exact (chain_two hne k1 hch).1
          · rw [← h2] at k1
            rw [e1] at hch
            exact (chain_two hne k1 hch).2
  · intro hft
    refine ⟨h.nod, fun c => ?_, hjoin⟩
    rw [h.mem, take_snoc hx]
    constructor
    · rintro ⟨⟨d, h1, h2⟩, k⟩
      exact ⟨⟨d, List.mem_append_left _ h1, h2⟩, k⟩
    · rintro ⟨⟨d, h1, h2⟩, k1, k2⟩
      rw [List.mem_append, List.mem_singleton] at h1
      rcases h1 with h1 | rfl
      · exact ⟨⟨d, h1, h2⟩, k1, k2⟩
      · exfalso
        rw [← h2] at k1
        rw [e1] at hch
        obtain ⟨a1, a2⟩ := chain_two hne k1 hch
        exact k2 (a1.trans (hft.trans a2.symm))

theorem spR_fail {cs : List Cmd} {i : Nat} {x : Cmd} (hx : cs[i]? = some x) (hf : ((cs.take i).all fun c => decide (c.p ≠ x.p)) = true) (hr : runS x (cs.drop (i + 1)) = none) : ¬ joinsP cs := fun hj => by
  obtain ⟨s, e, hse⟩ := hj x.p
  rw [thr_first hx hf] at hse
  exact runS_no _ _ hr e hse.2

theorem spR_end {cs out : List Cmd} (h : SpR cs cs.length out) (hl : logOk cs = true) : canonF cs = (sort14F out, true) := by
  obtain ⟨p1, p2⟩ := sort14_ok h.nod
  have htake : cs.take cs.length = cs := List.take_length
  refine canonF_of hl (fun p => ?_) ⟨p2, ((p1.map _).nodup_iff).2 h.nod, fun c => ?_⟩
  · by_cases hp : thr cs p = []
    · exact ⟨⟨0, 0⟩, ⟨0, 0⟩, by rw [hp]; rfl⟩
    · obtain ⟨d, hd, rfl⟩ := thr_ne.1 hp
      exact h.join d (by rw [htake]; exact hd)
  · rw [p1.mem_iff, h.mem, htake, ← thr_ne]

theorem runS_step {c d : Cmd} {r : List Cmd} : runS c (d :: r) = if d.p = c.p then (if d.f = c.t then runS ⟨c.p, c.f, d.t⟩ r else none) else runS c r := rfl

end Go.Proofs.YtellipmolheaaaaDoor
