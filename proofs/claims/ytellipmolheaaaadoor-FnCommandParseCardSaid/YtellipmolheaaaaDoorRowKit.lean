import Derived.Test.YtellipmolheaaaaDoorConA
import Derived.ProofKit
import Derived.OpenShut
namespace Go.Proofs.YtellipmolheaaaaDoor
open Go.ChangeShapes Go.WideShapes Go.ChangeAt Go.RowKit

theorem own : ownKnob Tryd.prog.godebug = none := by kernel_rfl
theorem laidOut : laidOutB Tryd.prog = true := by kernel_rfl

theorem opened {H : Type} {enc : TypeId × Value → H} {W : World} {a0 : Option Addr} {len cap : Nat} {d0 : DataW H} {p : List MemPlace}
    (h0 : DataW.Trod enc Tryd.prog W 0 (fun _ => true) true 22 (.slice a0 len cap) d0 p) : ∃ bs : List UInt8, Sl (fun _ => False) W (.slice a0 len cap) 1 (bytesV bs) := by
  obtain ⟨fuel, hf⟩ := h0
  rcases open_ints Tryd.underlying22 Tryd.underlying5 (by kernel_rfl) hf with ⟨hcs, hx⟩ | ⟨a, len', cap', zs, hcs, _, hl, hm, hz, hx, hcell, hwz⟩
  · simp [Value.cells] at hcs
    obtain ⟨rfl, rfl, rfl⟩ := hcs
    exact ⟨[], none, 0, rfl, Nat.le_refl _, Nat.zero_le _, fun y hy => (by cases hy), .inl rfl⟩
  · simp [Value.cells] at hcs
    obtain ⟨rfl, rfl, rfl⟩ := hcs
    simp only [if_true] at hz
    have hb : ∀ z ∈ zs, 0 ≤ z ∧ z < 256 := fun z hz => by
      have h := hwz z hz
      have h1 : IntKind.u8.min = 0 := rfl
      have h2 : IntKind.u8.max = 255 := rfl
      simp only [Lit.wf, Bool.and_eq_true, decide_eq_true_eq] at h
      omega
    have hlen : (bytesV ((zs.take len).map fun z => UInt8.ofNat z.toNat)).length = len := by simp [bytesV]; omega
    refine ⟨(zs.take len).map fun z => UInt8.ofNat z.toNat, some a, cap, by rw [hlen], by rw [hlen]; exact hl, hm, fun y hy => ?_, ?_⟩
    · obtain ⟨b, _, rfl⟩ := List.mem_map.1 hy
      exact ⟨rfl, fun c hc => by simp [Value.cells] at hc; subst hc; rfl⟩
    · rcases Nat.eq_zero_or_pos len with h0 | h0
      · left; subst h0; rfl
      · right
        have hc0 := hcell 0 (by omega)
        have hadd : a.add 0 = a := by simp [Addr.add]
        obtain ⟨b, off, spot⟩ := a
        have hspot : spot = none := by
          rw [hadd] at hc0
          unfold World.cell? at hc0
          split at hc0
          · split at hc0
            · cases hc0
            · cases spot <;> simp_all
          · cases hc0
        subst hspot
        refine ⟨b, off, rfl, fun h => h, by have := World.block_lt_of_cell? _ _ hc0; simpa [Addr.add] using this, fun j c hj => ?_⟩
        have hfl : flat (bytesV ((zs.take len).map fun z => UInt8.ofNat z.toNat)) = bytesV ((zs.take len).map fun z => UInt8.ofNat z.toNat) := by
          simp only [flat, bytesV, List.flatMap_map]
          induction zs.take len with
          | nil => rfl
          | cons x l ih => simp only [List.map_cons, List.flatMap_cons, ih]; rfl
        rw [hfl] at hj
        have hjl : j < len := by rw [← hlen]; exact (List.getElem?_eq_some_iff.1 hj).1
        have hcj := hcell j (by omega)
        have e1 : (⟨b, off, none⟩ : Addr).add j = ⟨b, off + j, none⟩ := by
          unfold Addr.add
          split
          · rename_i h; subst h; rfl
          · rfl
        rw [e1] at hcj
        rw [hcj, ← hj]
        simp only [bytesV, List.getElem?_map, List.getElem?_take, hjl, if_true]
        rw [List.getElem?_eq_getElem (by omega), List.getD_eq_getElem?_getD, List.getElem?_eq_getElem (by omega)]
        have := hb (zs[j]'(by omega)) (List.getElem_mem _)
        simp only [Option.map_some, Option.getD_some]
        congr 2
        rw [UInt8.toNat_ofNat']
        omega

end Go.Proofs.YtellipmolheaaaaDoor
