import Derived.Test.YtlmlnbmagmembaaDoorMove
set_option linter.unusedSimpArgs false
set_option maxRecDepth 10000
namespace Go.Proofs.YtlmlnbmagmembaaDoor
open Go Go.RowKit

/-! ### what is left behind a removal -/

section
variable {t : List Nod} {p : List UInt8}

def lefT (t : List Nod) (p : List UInt8) : List Nod := t.filter fun n => !inC p n

theorem lef_all (ht : treeOk t = true) (hp : p ≠ [47]) : allF t (remL t p) = (lefT t p, (remL t p).length) := by
  rw [rem_all hp (t.filter (inC p)).length t rfl ht]
  simp [remL, lefT]

theorem lef_ok (ht : treeOk t = true) (hp : p ≠ [47]) : treeOk (lefT t p) = true := by
  have h := allF_ok (remL t p) ht
  rwa [lef_all ht hp] at h

theorem lef_get (ht : treeOk t = true) (hp : p ≠ [47]) {n : Nod} (hn : n ∈ t) (hi : inC p n = false) : treeGetF (lefT t p) n.p = n.c :=
  get_mem (lef_ok ht hp) (List.mem_filter.2 ⟨hn, by rw [hi]; rfl⟩)

theorem lef_gone (ht : treeOk t = true) (hp : p ≠ [47]) : treeGetF (lefT t p) p = ⟨0, 0⟩ := by
  rw [treeGetF]
  split
  · rfl
  · rw [getT, if_neg hp]
    refine getF_none fun x hx e => ?_
    have := (List.mem_filter.1 hx).2
    rw [inC, e] at this
    simp at this

theorem lef_under (t : List Nod) (p : List UInt8) : treeUnderF (lefT t p) p = [] := by
  rw [treeUnderF]
  split
  · rw [underL, List.map_eq_nil_iff, List.filter_eq_nil_iff]
    intro x hx hu
    have := (List.mem_filter.1 hx).2
    rw [inC, hu] at this
    simp at this
  · rfl

theorem lef_len (t : List Nod) (p : List UInt8) : (lefT t p).length + (remL t p).length = t.length := by
  have h := filter_or (p := inC p) (q := fun n => !inC p n) t (fun x _ h => by rw [h]; rfl)
  have e : (t.filter fun x => inC p x || !inC p x) = t := List.filter_eq_self.2 fun x _ => by cases inC p x <;> rfl
  rw [e] at h
  rw [lefT, remL, List.length_map, List.length_reverse]
  omega

theorem rem_len (ht : treeOk t = true) (hp : pathOk p = true) (h47 : p ≠ [47]) (hg : (getT t p).k ≠ 0) : (remL t p).length = (treeUnderF t p).length + 1 := by
  rw [getT, if_neg h47] at hg
  obtain ⟨y, hy, ey, _⟩ := getF_mem hg
  rw [show treeUnderF t p = underL t p by rw [treeUnderF, ht, hp]; rfl, ← cop_len ht (b := p) hy ey, remL, copL]
  simp

theorem remL_in {c : Cmd} (hc : c ∈ remL t p) : c.t = ⟨0, 0⟩ ∧ inC p ⟨c.p, c.f⟩ = true ∧ (⟨c.p, c.f⟩ : Nod) ∈ t := by
  obtain ⟨n, hn, rfl⟩ := List.mem_map.1 hc
  obtain ⟨h1, h2⟩ := List.mem_filter.1 (List.mem_reverse.1 hn)
  exact ⟨rfl, h2, h1⟩

end

end Go.Proofs.YtlmlnbmagmembaaDoor
