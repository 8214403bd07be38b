import Derived.Test.YtellipmolheaaaaDoorRowKit
import Derived.Test.YtellipmolheaaaaDoorConP
import Derived.Deep.Slices
set_option maxRecDepth 10000
namespace Go.Proofs.YtellipmolheaaaaDoor
open Go.ChangeShapes Go.WideShapes Go.ChangeAt Go.RowKit

def fieldsOf (P : Program) (t : TypeId) : Array Field := match P.underlying t with
  | some (.struct fs) => fs
  | _ => #[]

theorem field_at {H : Type} {enc : TypeId × Value → H} {P : Program} {w : World} {base : Nat} {spare : Nat → Bool} {held : Bool} {n : Nat} {cs : List Value} {fs : Array Field} {xs : List (DataW H × List MemPlace)} (hlen : xs.length = fs.size)
    (hf : ∀ (i : Nat) (f : Field), fs[i]? = some f → DataW.trod enc P w base spare held n f.type ((cs.drop f.offset).take (P.cellsOf f.type)) = xs[i]?) {i : Nat} {t : TypeId} {o k : Nat}
    (h : fs[i]?.map (fun f => (f.type, f.offset)) = some (t, o)) (hk : P.cellsOf t = k) : ∃ y, DataW.trod enc P w base spare held n t ((cs.drop o).take k) = some y := by
  obtain ⟨f, h1, h2⟩ := Option.map_eq_some_iff.1 h
  simp only [Prod.mk.injEq] at h2
  obtain ⟨rfl, rfl⟩ := h2
  subst hk
  have hi := (Array.getElem?_eq_some_iff.1 h1).1
  exact ⟨xs[i]'(by omega), by rw [hf i f h1, List.getElem?_eq_getElem (by omega)]⟩

theorem flat_cell {k : Nat} (hk : 0 < k) (vs : List Value) (h : ∀ y ∈ vs, EltOk k y) {j : Nat} {c : Value} (hj : (flat vs)[j]? = some c) : ∃ x, vs[j / k]? = some x ∧ x.cells[j % k]? = some c := by
  have hlt := (List.getElem?_eq_some_iff.1 hj).1
  rw [flat_length vs h] at hlt
  have hq : j / k < vs.length := (Nat.div_lt_iff_lt_mul hk).2 hlt
  have hx : vs[j / k]? = some vs[j / k] := List.getElem?_eq_getElem hq
  have hs := (h _ (List.getElem_mem hq)).1
  have hr : j % k < vs[j / k].cells.size := by rw [hs]; exact Nat.mod_lt _ hk
  have hc : vs[j / k].cells[j % k]? = some vs[j / k].cells[j % k] := Array.getElem?_eq_getElem hr
  have := flat_get vs h _ _ hx _ _ hc
  rw [Nat.mul_comm, Nat.div_add_mod] at this
  rw [this] at hj
  exact ⟨_, hx, hc.trans hj⟩

theorem int_cell {H : Type} {enc : TypeId × Value → H} {w : World} {base : Nat} {spare : Nat → Bool} {held : Bool} {n : Nat} {v : Value} {y : DataW H × List MemPlace} (h : DataW.trod enc Tryd.prog w base spare held n 3 [v] = some y) : ∃ k : Int, v = .int .i64 k := by
  obtain ⟨k, h1, _⟩ := DataW.trod_int (k := .i64) (by kernel_rfl) h
  simp at h1
  exact ⟨k, h1⟩

theorem con_cells {H : Type} {enc : TypeId × Value → H} {w : World} {base : Nat} {spare : Nat → Bool} {held : Bool} {n : Nat} {u v : Value} {y : DataW H × List MemPlace} (h : DataW.trod enc Tryd.prog w base spare held n 73 [u, v] = some y) :
    ∃ c : Con, u = .int .i64 c.k ∧ v = .int .i64 c.v := by
  have he : Tryd.prog.underlying 73 = some (.struct (fieldsOf Tryd.prog 73)) := by kernel_rfl
  obtain ⟨xs, m, _, _, _, hxl, hf⟩ := DataW.trod_struct he h
  obtain ⟨y0, g0⟩ := field_at hxl hf (i := 0) (t := 3) (o := 0) (k := 1) (by kernel_rfl) (by kernel_rfl)
  obtain ⟨y1, g1⟩ := field_at hxl hf (i := 1) (t := 3) (o := 1) (k := 1) (by kernel_rfl) (by kernel_rfl)
  obtain ⟨k0, e0⟩ := int_cell g0
  obtain ⟨k1, e1⟩ := int_cell g1
  exact ⟨⟨k0, k1⟩, e0, e1⟩

theorem openedC {H : Type} {enc : TypeId × Value → H} {W : World} {a0 : Option Addr} {len cap : Nat} {d0 : DataW H} {p : List MemPlace}
    (h0 : DataW.Trod enc Tryd.prog W 0 (fun _ => true) true 33 (.slice a0 len cap) d0 p) : ∃ cs : List Cmd, cs.length ≤ 9223372036854775807 ∧ (∀ c ∈ cs, c.p.length ≤ 9223372036854775807) ∧ Sl (fun _ => False) W (.slice a0 len cap) 5 (cs.map cmdV) := by
  obtain ⟨fuel, hf⟩ := h0
  have he : Tryd.prog.underlying 75 = some (.struct (fieldsOf Tryd.prog 75)) := by kernel_rfl
  rcases Go.Deep.open_slice (e := 75) (by kernel_rfl) hf with ⟨hcs, hx⟩ | ⟨a, len', cap', m, n, D, Pl, hcs, _, hl, hm, hmm, _, hx⟩
  · simp [Value.cells] at hcs
    obtain ⟨rfl, rfl, rfl⟩ := hcs
    exact ⟨[], by simp, fun c hc => (by cases hc), none, 0, rfl, Nat.le_refl _, Nat.zero_le _, fun y hy => (by cases hy), .inl rfl⟩
  · simp [Value.cells] at hcs
    obtain ⟨rfl, rfl, rfl⟩ := hcs
    simp only [if_true] at hmm
    have each : ∀ i, i < len → ∃ c : Cmd, c.p.length ≤ 9223372036854775807 ∧ ∀ j v, (cmdV c).cells[j]? = some v → W.cell? (a.add (i * 5 + j)) = some v := fun i hi => by
      obtain ⟨cs', h1, h2⟩ := hx i (by omega)
      rw [show Tryd.prog.cellsOf 75 = 5 by kernel_rfl] at h1
      obtain ⟨_, hlen, hcell⟩ := World.cells?_some h1
      obtain ⟨xs, k, _, _, _, hxl, hf⟩ := DataW.trod_struct he h2
      match cs', hlen with
      | [v0, v1, v2, v3, v4], _ =>
        obtain ⟨y0, g0⟩ := field_at hxl hf (i := 0) (t := 9) (o := 0) (k := 1) (by kernel_rfl) (by kernel_rfl)
        obtain ⟨y1, g1⟩ := field_at hxl hf (i := 1) (t := 73) (o := 1) (k := 2) (by kernel_rfl) (by kernel_rfl)
        obtain ⟨y2, g2⟩ := field_at hxl hf (i := 2) (t := 73) (o := 3) (k := 2) (by kernel_rfl) (by kernel_rfl)
        obtain ⟨s, e0, _, hs⟩ := DataW.trod_string (by kernel_rfl) g0
        obtain ⟨c1, e1, e2⟩ := con_cells g1
        obtain ⟨c2, e3, e4⟩ := con_cells g2
        simp at e0
        subst e0 e1 e2 e3 e4
        refine ⟨⟨s.data.toList, c1, c2⟩, hs, fun j v hv => ?_⟩
        have hj : j < 5 := (Array.getElem?_eq_some_iff.1 hv).1
        have := hcell j hj
        rw [Go.Deep.add_add] at this
        rw [this, ← hv]
        match j, hj with
        | 0, _ => rfl
        | 1, _ => rfl
        | 2, _ => rfl
        | 3, _ => rfl
        | 4, _ => rfl
    let C : Nat → Cmd := fun i => if h : i < len then Classical.choose (each i h) else ⟨[], ⟨0, 0⟩, ⟨0, 0⟩⟩
    have hC : ∀ i, i < len → (C i).p.length ≤ 9223372036854775807 ∧ ∀ j v, (cmdV (C i)).cells[j]? = some v → W.cell? (a.add (i * 5 + j)) = some v := fun i hi => by
      have := Classical.choose_spec (each i hi)
      simpa only [C, dif_pos hi] using this
    have hL : ((List.range len).map C).length = len := by simp
    have hm' : cap ≤ 9223372036854775807 := hm
    refine ⟨(List.range len).map C, by rw [hL]; omega, fun c hc => ?_, some a, cap, by simp, by simpa using hl, hm, cmd_elt _, ?_⟩
    · obtain ⟨i, hi, rfl⟩ := List.mem_map.1 hc
      exact (hC i (List.mem_range.1 hi)).1
    · rcases Nat.eq_zero_or_pos len with h0 | h0
      · left; subst h0; rfl
      · right
        have hc0 := (hC 0 h0).2 0 (.string ⟨⟨(C 0).p⟩⟩) rfl
        have hadd : a.add (0 * 5 + 0) = a := by simp [Addr.add]
        obtain ⟨b, off, spot⟩ := a
        have hspot : spot = none := by
          rw [hadd] at hc0
          unfold World.cell? at hc0
          split at hc0
          · split at hc0
            · cases hc0
            · cases spot <;> simp_all
          · cases hc0
        subst hspot
        refine ⟨b, off, rfl, fun h => h, by have := World.block_lt_of_cell? _ _ hc0; simpa [Addr.add] using this, fun j c hj => ?_⟩
        obtain ⟨x, h1, h2⟩ := flat_cell (k := 5) (by decide) _ (cmd_elt _) hj
        rw [List.getElem?_map, List.getElem?_map] at h1
        have hq : j / 5 < len := by
          rcases Nat.lt_or_ge (j / 5) len with h | h
          · exact h
          · rw [List.getElem?_eq_none (by simpa using h)] at h1
            cases h1
        rw [List.getElem?_range hq] at h1
        simp only [Option.map_some, Option.some.injEq] at h1
        subst h1
        have := (hC _ hq).2 _ _ h2
        have e2 : j / 5 * 5 + j % 5 = j := by omega
        rw [e2] at this
        have e1 : (⟨b, off, none⟩ : Addr).add j = ⟨b, off + j, none⟩ := by
          unfold Addr.add
          split
          · rename_i h; subst h; rfl
          · rfl
        rw [e1] at this
        exact this

end Go.Proofs.YtellipmolheaaaaDoor
