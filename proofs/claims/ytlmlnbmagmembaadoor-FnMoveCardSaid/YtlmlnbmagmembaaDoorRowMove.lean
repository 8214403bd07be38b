/-
  It is proved that the law FnMove returns true for every slice of bytes and leaves its argument as it was. Conditions: the two tables of Go's library that the row lists hold what the program's text lays in them (the card ties them).
-/
import Derived.Test.YtlmlnbmagmembaaDoorConA
import Derived.ProofKit
import Derived.OpenShut
import Derived.Test.YtlmlnbmagmembaaDoorLawMv
import Derived.Test.YtlmlnbmagmembaaDoorRows
import Derived.Test.YtlmlnbmagmembaaDoorCards
import Derived.Test.YtlmlnbmagmembaaDoorTie
import Derived.LaidMore
import Derived.Lay
import Derived.SevenTiedAt
import Derived.Stop.Joined
namespace Go.Proofs.YtlmlnbmagmembaaDoor
open Go.ChangeShapes Go.WideShapes Go.ChangeAt Go.RowKit

theorem own : ownKnob Tryd.prog.godebug = none := by kernel_rfl
theorem laidOut : laidOutB Tryd.prog = true := by kernel_rfl

theorem opened {H : Type} {enc : TypeId × Value → H} {W : World} {a0 : Option Addr} {len cap : Nat} {d0 : DataW H} {p : List MemPlace}
    (h0 : DataW.Trod enc Tryd.prog W 0 (fun _ => true) true 22 (.slice a0 len cap) d0 p) : ∃ bs : List UInt8, Sl (fun _ => False) W (.slice a0 len cap) 1 (bytesV bs) := by
  obtain ⟨fuel, hf⟩ := h0
  rcases open_ints Tryd.underlying22 Tryd.underlying5 (by kernel_rfl) hf with ⟨hcs, hx⟩ | ⟨a, len', cap', zs, hcs, _, hl, hm, hz, hx, hcell, hwz⟩
  · simp [Value.cells] at hcs
    obtain ⟨rfl, rfl, rfl⟩ := hcs
    exact ⟨[], none, 0, rfl, Nat.le_refl _, Nat.zero_le _, fun y hy => (by cases hy), .inl rfl⟩
  · simp [Value.cells] at hcs
    obtain ⟨rfl, rfl, rfl⟩ := hcs
    simp only [if_true] at hz
    have hb : ∀ z ∈ zs, 0 ≤ z ∧ z < 256 := fun z hz => by
      have h := hwz z hz
      have h1 : IntKind.u8.min = 0 := rfl
      have h2 : IntKind.u8.max = 255 := rfl
      simp only [Lit.wf, Bool.and_eq_true, decide_eq_true_eq] at h
      omega
    have hlen : (bytesV ((zs.take len).map fun z => UInt8.ofNat z.toNat)).length = len := by simp [bytesV]; omega
    refine ⟨(zs.take len).map fun z => UInt8.ofNat z.toNat, some a, cap, by rw [hlen], by rw [hlen]; exact hl, hm, fun y hy => ?_, ?_⟩
    · obtain ⟨b, _, rfl⟩ := List.mem_map.1 hy
      exact ⟨rfl, fun c hc => by simp [Value.cells] at hc; subst hc; rfl⟩
    · rcases Nat.eq_zero_or_pos len with h0 | h0
      · left; subst h0; rfl
      · right
        have hc0 := hcell 0 (by omega)
        have hadd : a.add 0 = a := by simp [Addr.add]
        obtain ⟨b, off, spot⟩ := a
        have hspot : spot = none := by
          rw [hadd] at hc0
          unfold World.cell? at hc0
          split at hc0
          · split at hc0
            · cases hc0
            · cases spot <;> simp_all
          · cases hc0
        subst hspot
        refine ⟨b, off, rfl, fun h => h, by have := World.block_lt_of_cell? _ _ hc0; simpa [Addr.add] using this, fun j c hj => ?_⟩
        have hfl : flat (bytesV ((zs.take len).map fun z => UInt8.ofNat z.toNat)) = bytesV ((zs.take len).map fun z => UInt8.ofNat z.toNat) := by
          simp only [flat, bytesV, List.flatMap_map]
          induction zs.take len with
          | nil => rfl
          | cons x l ih => simp only [List.map_cons, List.flatMap_cons, ih]; rfl
        rw [hfl] at hj
        have hjl : j < len := by rw [← hlen]; exact (List.getElem?_eq_some_iff.1 hj).1
        have hcj := hcell j (by omega)
        have e1 : (⟨b, off, none⟩ : Addr).add j = ⟨b, off + j, none⟩ := by
          unfold Addr.add
          split
          · rename_i h; subst h; rfl
          · rfl
        rw [e1] at hcj
        rw [hcj, ← hj]
        simp only [bytesV, List.getElem?_map, List.getElem?_take, hjl, if_true]
        rw [List.getElem?_eq_getElem (by omega), List.getD_eq_getElem?_getD, List.getElem?_eq_getElem (by omega)]
        have := hb (zs[j]'(by omega)) (List.getElem_mem _)
        simp only [Option.map_some, Option.getD_some]
        congr 2
        rw [UInt8.toNat_ofNat']
        omega

end Go.Proofs.YtlmlnbmagmembaaDoor

namespace Go.Proofs.YtlmlnbmagmembaaDoor.fnMove
open Go.ChangeShapes Go.WideShapes Go.ChangeAt Go.RowKit

set_option maxRecDepth 100000 in
theorem lifted (os : Os) (started : os.Started) (H : Type) (enc : TypeId × Value → H) :
    ReturnsInHanded {} Tryd.checked os 14 .any (fun w args => (Rows.fnMoveSpec.pre enc Tryd.prog Tryd.f14 Rows.fnMoveRow.domain false w args ∧ laidMetH Tryd.prog Rows.fnMoveRow.laid w) ∧ sizedMet enc Tryd.prog Tryd.f14 (OpenSpec.ofChange Rows.fnMoveSpec) false w args)
      (Rows.fnMoveSpec.post enc Tryd.prog Tryd.f14 false true false false) := by
  refine returnsInHanded_of_change_and (C := Tryd.checked) (X := fun w _ => laidMetH Tryd.prog Rows.fnMoveRow.laid w) (fun _ _ _ hh h => h.of_heap hh) own started (by kernel_rfl) Tryd.func14
    (ChangeSpec.witness_shaped (enc := enc) (C := Tryd.checked) (os := os) (X := fun w _ => laidMetH Tryd.prog Rows.fnMoveRow.laid w) false (World.laidAll Tryd.prog os Rows.fnMoveRow.laid) #[.slice none 0 0] 8 (World.laidAll_os _ _ _)
      (World.shaped_of_ZipB (by kernel_rfl) (by kernel_rfl)) (by kernel_rfl) (by kernel_rfl) (by kernel_rfl)
      (by rw [MakeChecks.laidMetH_plain _ _ _ (by kernel_rfl)]; exact laidMet_laidAll _ (by kernel_rfl) (by kernel_rfl))) ?_
  intro W base args ds gs before hval0 hW hc _ hL _
  have hval : ∀ (j : Nat) t v, Tryd.f14.params[j]? = some t → args[j]? = some v → Value.okWide Tryd.prog W .any base t v := hval0
  have hW' := hW
  obtain ⟨p, q, hA0, hV, rfl, _, _⟩ := hW
  have hA : DataW.TrodAll enc Tryd.prog W 0 (fun _ => true) true Tryd.f14.params.toList args.toList ds p := hA0
  rw [Tryd.params14] at hA hval
  obtain ⟨v0, d0, rfl, rfl, h0⟩ := trodAll_one hA
  obtain ⟨rfl, rfl⟩ := trodVars_none hV
  obtain ⟨a0, len, cap, rfl⟩ := okWide_slice Tryd.underlying22 (hval 0 22 v0 rfl rfl)
  obtain ⟨bs, hsl⟩ := opened h0
  have hlt : ∀ x ∈ p, x.block < W.heap.size := fun x hx => by simpa using hW'.lt x (by simpa using hx)
  clear hA0 hval0
  simp only [List.append_nil] at hW'
  have hcall := (lawMove_c bs).2 W (fun _ => False) none undef [] 0 #[.slice a0 len cap] (fun _ h => h.elim) (fun _ h => by cases h) (fun _ h => by cases h) (by decide)
    ⟨rfl, fun j av hj => by
      match j, hj with
      | 0, hj => simp at hj; subst hj; exact ⟨_, rfl, hsl⟩⟩
  refine hcall.mono fun e W' ⟨rv, r, he, hr, hres, hst, _⟩ => ?_
  subst hr
  simp only [ResR] at hres
  subst hres
  subst he
  have hB : Below W.heap.size W W' := ⟨hst.os, hst.tape, hst.output, hst.size, fun k hk => hst.block k hk (fun h => by cases h)⟩
  exact ⟨_, rfl, _, _, _, [], p, [], hW', trodAll_mk1 (shut_bool Tryd.underlying4 _), trodAll_mk1 (Below.trod laidOut (by kernel_rfl) (of_decide_eq_true (by kernel_rfl)) h0 hB hlt), rfl, hB.frame _, fun h => by cases h⟩

/-- the row -/
theorem holds : Rows.FnMoveSaid :=
  OpenClaim.holds_of_wide 14 Tryd.f14 rfl rfl rfl rfl rfl rfl rfl ⟨rfl, rfl, rfl, rfl, rfl⟩ rfl rfl rfl rfl rfl (by kernel_rfl) Tryd.func14 (by kernel_rfl)
    (of_decide_eq_true (by kernel_rfl)) (by unfold Func.isWrapper; first | (rw [if_pos (by decide +kernel)]; kernel_rfl) | (rw [if_neg (by decide +kernel)]; exact ⟨rfl, rfl⟩))
    (fun os started H enc _ => lifted os started H enc)

/-- THE TIED CARD -/
theorem card_holds : Rows.FnMoveCardSaid :=
  Claim7.holds_tied_plain_at .later [] [.data, .pinned] true (true, "fbf7eb9ae48bcf86f7af51954e70aae9c7818370746b87df3294604587e7007f") false
    holds (fun _ h => by cases h) (by kernel_rfl) (fun _ h => by cases h) fnMove_row_tie rfl ⟨rfl, rfl⟩ (by kernel_rfl) rfl
    (fun f fn hf hfn => by
      obtain rfl : f = 14 := Option.some.inj ((show Tryd.prog.funcNamed "loop.example/filereconciler/laws.FnMove" = some 14 by kernel_rfl).symm.trans hf) |>.symm
      obtain rfl : fn = Tryd.f14 := (Option.some.inj (Tryd.func14.symm.trans hfn)).symm
      exact ⟨by kernel_rfl, fun j t ht => by
        rw [Tryd.params14] at ht
        have hm : t ∈ [22] := by simpa using Array.mem_of_getElem? ht
        have hall : ([22].all fun u => !Tryd.prog.wantsStandIn u) = true := by kernel_rfl
        exact (show Tryd.prog.wantsStandIn t = false by simpa using List.all_eq_true.1 hall t hm)⟩)
    (by kernel_rfl)

end Go.Proofs.YtlmlnbmagmembaaDoor.fnMove
