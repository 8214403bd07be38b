import Derived.Test.YtlmlnbmagmembaaDoorConCC
set_option linter.unusedSimpArgs false
set_option maxRecDepth 10000
namespace Go.Proofs.YtlmlnbmagmembaaDoor
open Go Go.RowKit

theorem treePutF_no {t : List Nod} {p : List UInt8} {c : Con} (h : (treePutF t p c).2 = false) : (treePutF t p c).1 = [] := by
  unfold treePutF at h ⊢
  split
  · rfl
  · rename_i h1
    rw [if_neg h1] at h
    split
    · rename_i h2
      rw [if_pos h2] at h
      cases h
    · rfl

theorem nod_path {t : List Nod} (h : treeOk t = true) {x : Nod} (hx : x ∈ t) : pathOk x.p = true ∧ x.p ≠ [47] := depth_path (((treeOk_iff t).1 h).1 x hx).1

theorem nod_nz {t : List Nod} (h : treeOk t = true) : ∀ x ∈ t, x.c.k ≠ 0 := fun x hx => (((treeOk_iff t).1 h).1 x hx).2.2.1

theorem treeGetF_ok {t : List Nod} (h : treeOk t = true) {q : List UInt8} (hq : pathOk q = true) (hn : q ≠ [47]) : treeGetF t q = getF t q := by
  rw [treeGetF, h, hq, getT, if_neg hn]; rfl

theorem get_mem {t : List Nod} (h : treeOk t = true) {x : Nod} (hx : x ∈ t) : treeGetF t x.p = x.c := by
  obtain ⟨x1, x2⟩ := nod_path h hx
  rw [treeGetF_ok h x1 x2, getF_of_mem ((treeOk_iff t).1 h).2.1 hx]

theorem con_eta {a b : Con} (h1 : a.k = b.k) (h2 : a.v = b.v) : a = b := by
  cases a; cases b; simp_all

theorem getF_ok {t : List Nod} (h : treeOk t = true) (q : List UInt8) : conOk (getF t q) = true := by
  by_cases hk : (getF t q).k = 0
  · by_cases ha : ∀ x ∈ t, x.p ≠ q
    · rw [getF_none ha]; rfl
    · exfalso
      apply ha
      intro x hx e
      subst e
      rw [getF_of_mem ((treeOk_iff t).1 h).2.1 hx] at hk
      exact nod_nz h x hx hk
  · obtain ⟨x, hx, _, e⟩ := getF_mem hk
    rw [e]
    exact (((treeOk_iff t).1 h).1 x hx).2.1

/-- what was there is put back -/
theorem put_back {t : List Nod} {p : List UInt8} {c : Con} (h : (treePutF t p c).2 = true) : treePutF (putF t p c) p (getF t p) = (t, true) := by
  obtain ⟨h1, h2, h3, h4, h5⟩ := treePutF_ok h
  have s := ((treeOk_iff t).1 h1).2.1
  have sT := srt_put s p c
  have e : putF (putF t p c) p (getF t p) = t := by
    refine srt_ext (srt_put sT p _) s (put_k sT (put_k s (nod_nz h1))) (nod_nz h1) fun q => ?_
    rw [getF_put sT (getF_ok h1 p), getF_put s h3]
    by_cases hq : q = p
    · rw [if_pos hq, hq]
    · rw [if_neg hq, if_neg hq]
  rw [treePutF, h5, getF_ok h1, decide_eq_false (show ¬ depthF p < 1 by omega), e, h1]
  rfl

/-! ### commands -/

theorem cmdOk_ne {c : Cmd} (h : cmdOk c = true) : c.f ≠ c.t := fun e => by
  rw [cmdOk, e] at h
  simp at h

theorem ap_facts {t : List Nod} {c : Cmd} (h : (applyF t c).2 = true) : treeOk t = true ∧ cmdOk c = true ∧ getT t c.p = c.f ∧ (treePutF t c.p c.t).2 = true ∧ (applyF t c).1 = putF t c.p c.t ∧ treeOk (putF t c.p c.t) = true := by
  unfold applyF at h ⊢
  split at h
  · cases h
  · rename_i h1
    rw [if_neg h1]
    split at h
    · rename_i h2
      rw [if_pos h2]
      obtain ⟨k1, _, _, k4, k5⟩ := treePutF_ok h2.2
      refine ⟨k1, ?_, h2.1, h2.2, k4, k5⟩
      rw [k1] at h1
      simpa using h1
    · cases h

/-- a tree after a command has what the command says -/
theorem ap_get {t : List Nod} {c : Cmd} (h : (applyF t c).2 = true) : getT (putF t c.p c.t) c.p = c.t := by
  obtain ⟨k1, k2, k3, k4, k5, k6⟩ := ap_facts h
  obtain ⟨_, h2, h3, _, _⟩ := treePutF_ok k4
  rw [getT, if_neg (depth_path h2).2, getF_put ((treeOk_iff t).1 k1).2.1 h3, if_pos rfl]

theorem ap_twice {t : List Nod} {c : Cmd} (h : (applyF t c).2 = true) : applyF (putF t c.p c.t) c = (putF t c.p c.t, false) := by
  obtain ⟨k1, k2, k3, k4, k5, k6⟩ := ap_facts h
  rw [applyF_ap k6 k2, apF, if_neg]
  rintro ⟨e, _⟩
  rw [ap_get h] at e
  exact cmdOk_ne k2 e.symm

theorem ap_undo {t : List Nod} {c : Cmd} (h : (applyF t c).2 = true) : applyF (putF t c.p c.t) (undoF c) = (t, true) := by
  obtain ⟨k1, k2, k3, k4, k5, k6⟩ := ap_facts h
  obtain ⟨_, h2, h3, _, _⟩ := treePutF_ok k4
  have hu : undoF c = ⟨c.p, c.t, c.f⟩ := if_pos k2
  have hf : getF t c.p = c.f := by rw [← k3, getT, if_neg (depth_path h2).2]
  have hb := put_back k4
  rw [hf] at hb
  rw [hu, applyF_ap k6 (cmdOk_turn k2), apF, if_pos ⟨ap_get h, by rw [hb]⟩, hb]

theorem apply_size (t : List Nod) (c : Cmd) (hl : t.length ≤ 100) (hs : ∀ n ∈ t, n.p.length ≤ 1000000) (hp : c.p.length ≤ 1000000) : (applyF t c).1.length ≤ 100 ∧ ∀ n ∈ (applyF t c).1, n.p.length ≤ 1000000 := by
  obtain ⟨z1, z2⟩ := apF_size (t := t) (c := c) hs hp
  unfold applyF
  split
  · exact ⟨by simp, fun n hn => by cases hn⟩
  · split
    · rename_i h
      have := treePutF_len h.2
      exact ⟨by simp only; omega, treePutF_p hs hp⟩
    · exact ⟨hl, hs⟩

end Go.Proofs.YtlmlnbmagmembaaDoor
