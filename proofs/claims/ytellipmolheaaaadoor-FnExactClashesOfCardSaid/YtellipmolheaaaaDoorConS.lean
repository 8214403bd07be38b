import Derived.Test.YtellipmolheaaaaDoorShelf
import Derived.Test.YtellipmolheaaaaDoorConD
set_option linter.unusedSimpArgs false
set_option maxRecDepth 10000
namespace Go.Proofs
open Go.Shelf Go.RowKit Go.Lib

theorem YtellipmolheaaaaDoor.index_byte (c : UInt8) : ∀ l : List UInt8, Lib.index l [c] = Lib.indexByte l c
  | [] => rfl
  | b :: l => by
    rw [Lib.index, Lib.indexByte, YtellipmolheaaaaDoor.index_byte c l]
    by_cases h : b = c
    · subst h; simp [List.isPrefixOf]
    · simp [List.isPrefixOf, h, Ne.symm h]

theorem YtellipmolheaaaaDoor.flat_str : ∀ l : List (List UInt8), YtellipmolheaaaaDoor.flat (l.map YtellipmolheaaaaDoor.strV) = l.map YtellipmolheaaaaDoor.strV
  | [] => rfl
  | x :: l => by
    have := YtellipmolheaaaaDoor.flat_str l
    simp only [YtellipmolheaaaaDoor.flat, List.map_cons, List.flatMap_cons] at this ⊢
    rw [this]
    rfl

set_option maxHeartbeats 2000000 in
/-- strings.Split at a separator of one byte -/
theorem YtellipmolheaaaaDoor.split_any {P : Program} {ρ : Ren} (L : Lays.n146 P ρ) (hi9 : (P.info? (ρ.t 9)).map (fun i => (i.zero, i.size, i.bytes)) = some (some (.string ByteArray.empty), 1, 16)) (s : ByteArray) (c : UInt8) (w : World) (hs : s.size < 4294967281) :
    Calls P (ρ.f 146) #[.string s, .string ⟨#[c]⟩] w fun e w' =>
      e = .returned (.slice (some ⟨w.heap.size, 0, none⟩) (Lib.countB s ⟨#[c]⟩ + 1) (Lib.countB s ⟨#[c]⟩ + 1)) ∧ w' = w.alloc (.cells ((Lib.splitB ⟨#[c]⟩ 0 (Lib.countB s ⟨#[c]⟩) s).map Value.string).toArray (ρ.t 9)) := by
  have h1 : 1 ≤ (⟨#[c]⟩ : ByteArray).size := by simp [ByteArray.size]
  have hle := Lib.countB_le ⟨#[c]⟩ h1 s.size s (Nat.le_refl _)
  have hlen := Lib.splitB_all ⟨#[c]⟩ h1 0 _ s rfl
  have hI : ∀ (x : ByteArray) (cs : Array Value), x.size ≤ s.size → Calls P (ρ.f 143) #[.string x, .string ⟨#[c]⟩] (w.alloc (.cells cs (ρ.t 9))) fun e w' => e = .returned (.int .i64 (Lib.indexB x ⟨#[c]⟩)) ∧ w' = w.alloc (.cells cs (ρ.t 9)) := by
    intro x cs _
    refine (Any.strings_Index_one { L with } x c _).mono fun e w' ⟨he, hw⟩ => ⟨?_, hw⟩
    rw [he]
    show _ = Ending.returned (Value.int .i64 (Lib.index x.data.toList [c]))
    rw [YtellipmolheaaaaDoor.index_byte]
  have hC : Calls P (ρ.f 138) #[.string s, .string ⟨#[c]⟩] w fun e w' => e = .returned (.int .i64 (Lib.countB s ⟨#[c]⟩)) ∧ w' = w := by
    refine (Any.strings_Count_one { L with } s c w).mono fun e w' ⟨he, hw⟩ => ⟨?_, hw⟩
    rw [he]
    show _ = Ending.returned (Value.int .i64 ((Lib.count s.data.toList [c] : Nat) : Int))
    rw [Lib.count_one]
    rfl
  have cc := Any.strings_genSplit_core { L with } hi9 s ⟨#[c]⟩ 0 (-1) (Lib.countB s ⟨#[c]⟩ + 1) w hs h1 (Nat.zero_le _) hI hC (by decide) (by decide) (by rw [if_pos (by decide)]; omega)
  rw [Nat.add_sub_cancel, hlen] at cc
  have e2 : Lib.cellsOf (Lib.splitB ⟨#[c]⟩ 0 (Lib.countB s ⟨#[c]⟩) s) (Lib.countB s ⟨#[c]⟩ + 1) = ((Lib.splitB ⟨#[c]⟩ 0 (Lib.countB s ⟨#[c]⟩) s).map Value.string).toArray := by rw [← hlen]; exact Lib.cellsOf_full _
  rw [e2] at cc
  have t3 := L.t3; have t9 := L.t9; have t31 := L.t31
  have a3 := L.a3; have a9 := L.a9; have a31 := L.a31
  have z3 := L.z3; have v3 := L.v3; have z9 := L.z9; have v9 := L.v9; have z31 := L.z31; have v31 := L.v31
  have e221 : ∀ args w, (callFunc (ρ.f 221) args).run P w = .ok (.enter (ρ.f 221) args) w := enters_of L.f221 (by kernel_rfl) rfl
  go_enter L.f146, Body.n146_ntmps ρ
  go_wp2_with (go_at_fn (ρ.f 221); refine cc.mono ?_; rintro e w' ⟨rfl, hw⟩; rw [hw])
  go_ret
  exact ⟨rfl, rfl⟩

namespace YtellipmolheaaaaDoor
open Go Go.RowKit

theorem splitK_spl : ∀ l : List UInt8, Lib.splitK [47] 0 (Lib.count l [47]) l = spl l
  | [] => by rw [Lib.count_miss (by simp [Lib.index])]; rfl
  | c :: l => by
    have ih := splitK_spl l
    by_cases h : c = 47
    · subst h
      have hix : Lib.index (47 :: l) [47] = ((0 : Nat) : Int) := by rw [Lib.index]; simp [List.isPrefixOf]
      rw [Lib.count_cons_eq, Nat.add_comm, Lib.splitK, hix]
      simp [spl, ih]
    · have hp : ([47] : List UInt8).isPrefixOf (c :: l) = false := by simp [List.isPrefixOf, Ne.symm h]
      have hix : Lib.index (c :: l) [47] = if Lib.index l [47] == -1 then -1 else Lib.index l [47] + 1 := by rw [Lib.index, hp]; simp
      rw [Lib.count_cons_ne c 47 l h]
      simp only [spl, if_neg h]
      by_cases hm : Lib.index l [47] = -1
      · rw [Lib.count_miss hm] at ih ⊢
        rw [← ih]
        rfl
      · have hge := Lib.index_ge l [47]
        obtain ⟨j, hj⟩ : ∃ j : Nat, Lib.index l [47] = j := ⟨(Lib.index l [47]).toNat, by omega⟩
        rw [Lib.count_hit (by simp) hj] at ih ⊢
        rw [Nat.add_comm] at ih ⊢
        rw [Lib.splitK, hj, if_neg (by simp)] at ih
        rw [Lib.splitK, hix, hj, if_neg (by first | (simp; done) | (simp; omega)), if_neg (by first | (simp; done) | (simp; omega)), ← ih]
        simp

/-- strings.Split at '/' -/
theorem split_s (s : List UInt8) (h : s.length ≤ 2000000) : ACalls Tryd.prog 87 [.v (strV s), .v (.string ⟨#[47]⟩)] 0 (fun r => r = .sl 1 ((spl s).map strV)) := by
  refine ⟨⟨_, Tryd.func87, by kernel_rfl, rfl⟩, fun w F rho rs bs m vals h1 h2 h3 h4 h5 => ?_⟩
  obtain ⟨x0, hx0, rfl⟩ := h5.2 0 _ rfl
  obtain ⟨x1, hx1, rfl⟩ := h5.2 1 _ rfl
  have hv : vals = #[strV s, .string ⟨#[47]⟩] := by
    have hs := h5.1
    simp only [List.length_cons, List.length_nil] at hs
    apply Array.ext (by simpa using hs)
    intro i hi hi'
    match i with
    | 0 => simpa using (Array.getElem?_eq_some_iff.1 hx0).2
    | 1 => simpa using (Array.getElem?_eq_some_iff.1 hx1).2
    | _ + 2 => simp at hi'; omega
  subst hv
  have hsz : (⟨⟨s⟩⟩ : ByteArray).size = s.length := rfl
  have c := split_any Tryd.lays146 (by kernel_rfl) ⟨⟨s⟩⟩ 47 w (by omega)
  refine Calls.mono c fun e w' ⟨he, hw⟩ => ?_
  subst hw
  have hst : Step (fun b => rho = some b) w (w.alloc (.cells ((Lib.splitB ⟨#[47]⟩ 0 (Lib.countB ⟨⟨s⟩⟩ ⟨#[47]⟩) ⟨⟨s⟩⟩).map Value.string).toArray (Tryd.lays146_ren.t 9))) := ⟨rfl, rfl, rfl, by simp, fun b hb _ => Below.heap_alloc w _ b hb⟩
  have hlen := Lib.splitB_all ⟨#[47]⟩ (by decide) 0 _ (⟨⟨s⟩⟩ : ByteArray) rfl
  have hl : (Lib.splitB ⟨#[47]⟩ 0 (Lib.countB ⟨⟨s⟩⟩ ⟨#[47]⟩) ⟨⟨s⟩⟩).map Value.string = (spl s).map strV := by
    have h6 := Lib.splitB_data ⟨#[47]⟩ 0 (Lib.countB ⟨⟨s⟩⟩ ⟨#[47]⟩) ⟨⟨s⟩⟩
    have h7 : (Lib.splitB ⟨#[47]⟩ 0 (Lib.countB ⟨⟨s⟩⟩ ⟨#[47]⟩) ⟨⟨s⟩⟩).map (·.data.toList) = spl s := h6.trans (splitK_spl s)
    rw [← h7, List.map_map]
    rfl
  have hl2 : Lib.countB ⟨⟨s⟩⟩ ⟨#[47]⟩ + 1 = ((spl s).map strV).length := by rw [← hl, List.length_map, hlen]
  refine ⟨_, _, he, rfl, ?_, hst, fun β hβ => ?_⟩
  · rw [hl, hl2]
    refine ⟨_, _, rfl, Nat.le_refl _, ?_, ?_, .inr ⟨_, 0, rfl, fun hf => absurd (h1 _ hf) (by omega), by simp, ?_⟩⟩
    · have := spl_len s
      rw [List.length_map]
      unfold maxLen
      omega
    · intro y hy
      obtain ⟨z, _, rfl⟩ := List.mem_map.1 hy
      exact ⟨rfl, fun c hc => by simp [strV, Value.cells] at hc; subst hc; rfl⟩
    · intro j c hj
      rw [flat_str] at hj
      simp only [World.cell?, Go.heap_alloc_new, Nat.zero_add]
      simpa using hj
  · obtain ⟨⟨p, ty, q1, q2, q3⟩, q4, q5⟩ := h3 β hβ
    exact ⟨⟨p, ty, (Below.heap_alloc w _ β (Array.getElem?_eq_some_iff.1 q1).1).trans q1, q2, by omega⟩, q4.step hst (fun _ _ hf => hf) (fun b _ e => h2 b e), q5⟩

end YtellipmolheaaaaDoor
end Go.Proofs
