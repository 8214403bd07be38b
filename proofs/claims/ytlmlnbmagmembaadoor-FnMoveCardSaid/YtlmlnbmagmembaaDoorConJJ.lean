import Derived.Test.YtlmlnbmagmembaaDoorConIJ
import Derived.RangeFuncNested
import Derived.RangeFuncBound
import Derived.RangeFuncCalls
import Derived.RangeFuncLeaves
import Derived.RangeFuncBox
import Derived.Shelf.Abstract
import Derived.Shelf.RegionOpen
import Derived.WalkKit
import Derived.OwnWalkIn
import Derived.TacticsInMore
import Derived.LoopNIn
import Derived.LoopIn
import Derived.Maps.AppendAt
set_option linter.unusedVariables false
set_option linter.unusedSimpArgs false
set_option maxRecDepth 10000
namespace Go.Proofs.YtlmlnbmagmembaaDoor
open Go Go.RowKit Go.Shelf

attribute [local go_sem] Oper.semAt_some

/-! ### slices.Backward over commands, over nodes -/

/-- what a round keeps: the list's block, and the iterator's own box -/
def BackK (b Bs : Nat) (W W' : World) : Prop := W'.heap[b]? = W.heap[b]? ∧ W'.heap[Bs]? = W.heap[Bs]?
theorem BackK.refl (b Bs : Nat) (W : World) : BackK b Bs W W := ⟨rfl, rfl⟩
theorem BackK.trans {b Bs : Nat} {A B C : World} (h : BackK b Bs A B) (k : BackK b Bs B C) : BackK b Bs A C := ⟨k.1.trans h.1, k.2.trans h.2⟩
theorem BackK.box {b Bs : Nat} {A B : World} (h : BackK b Bs A B) : B.cell? ⟨Bs, 0, none⟩ = A.cell? ⟨Bs, 0, none⟩ := World.cell?_of_block (w := A) h.2

/-- the part impl.Commands that have come when k rounds are over -/
def c_down {α : Type} (vs : List α) (k : Nat) : List (Fin vs.length) := (List.finRange vs.length).reverse.take k

theorem c_down_len {α : Type} (vs : List α) {k : Nat} (hk : k ≤ vs.length) : (c_down vs k).length = k := by simp [c_down, hk]

theorem c_down_succ {α : Type} (vs : List α) {k j : Nat} (hj : j + k + 1 = vs.length) : c_down vs (k + 1) = c_down vs k ++ [⟨j, by omega⟩] := by
  have hx : (List.finRange vs.length).reverse[k]? = some ⟨j, by omega⟩ := by
    rw [List.getElem?_reverse (by simp; omega), List.getElem?_eq_getElem (by simp; omega)]
    simp
    omega
  rw [c_down, c_down, List.take_add_one, hx]
  rfl

set_option maxRecDepth 100000 in
set_option maxHeartbeats 2000000 in
theorem c_back1_in (F : Fence) (n : Nat) (hF : F.fn 107) (hro : F.round = none) (hn : 1 ≤ n) (l Bs b off cap : Nat) (vs : List Value) (hel : ∀ y ∈ vs, EltOk 5 y ∧ ∃ cs : List Value, y = .agg cs.toArray) (hlen : vs.length ≤ 1000000) (J Jx : List (Fin vs.length) → World → Prop)
    (hY : ∀ pre x W, J pre W → pre.length < vs.length → YieldAt F (n - 1) Tryd.prog l #[.int .i64 (x.1 : Int), vs[x]] W fun e W' =>
      (e = .returned (.bool true) ∧ J (pre ++ [x]) W' ∧ BackK b Bs W W') ∨ (e = .returned (.bool false) ∧ Jx (pre ++ [x]) W'))
    (W : World) (hBs : W.cell? ⟨Bs, 0, none⟩ = some (.slice (some ⟨b, off, none⟩) vs.length cap)) (hcap : vs.length ≤ cap) (hc : CellsAt W b off vs) (h0 : J [] W) :
    CallsIn F n Tryd.prog 107 #[.func (.yield l) #[] #[], .pointer (some ⟨Bs, 0, none⟩)] W fun e W' => (∃ v, e = .returned v) ∧
      ((∃ ys, ys = c_down vs vs.length ∧ J ys W') ∨ (∃ pre, True ∧ Jx pre W')) := by
  refine callsIn_of_wp Tryd.func107 rfl hF ?_ hro
  simp only [Tryd.ntmps107, List.size_toArray, List.length_cons, List.length_nil, Nat.reduceAdd, Nat.reduceSub, Array.replicate_succ, Array.replicate_zero, List.push_toArray, List.append_toArray, List.nil_append, List.cons_append]
  gi_wp2
  gi_loopw [3] (fun i wr => ∃ k : Nat, k ≤ vs.length ∧ i = .int .i64 ((vs.length : Int) - 1 - k) ∧ J (c_down vs k) wr ∧ BackK b Bs W wr)
    (fun i _ => (intOf i + 1).toNat)
  case atStart => exact ⟨0, Nat.zero_le _, by simp, by rw [c_down]; exact h0, BackK.refl _ _ _⟩
  case round =>
    obtain ⟨k, hk, rfl, hJs, hnx⟩ := hrel
    have hBs' := hnx.box.trans hBs
    by_cases hlt : k < vs.length
    · obtain ⟨j, hj⟩ : ∃ j, j + k + 1 = vs.length := ⟨vs.length - 1 - k, by omega⟩
      have hij : (vs.length : Int) - 1 - k = (j : Int) := by omega
      rw [hij]
      obtain ⟨fn, tmps, assign, body, hy, hR⟩ := hY _ ⟨j, by omega⟩ wr hJs (by rw [c_down_len vs hk]; exact hlt)
      dsimp only at hy
      have hjl : j < vs.length := by omega
      obtain ⟨hel1, cs, hcs⟩ := hel vs[j] (List.getElem_mem hjl)
      obtain ⟨c0, c1, c2, c3, c4, rfl⟩ : ∃ c0 c1 c2 c3 c4, cs = [c0, c1, c2, c3, c4] := by
        have h5 : cs.length = 5 := by
          rw [hcs] at hel1
          have : cs.toArray.size = 5 := hel1.1
          simpa using this
        match cs, h5 with | [c0, c1, c2, c3, c4], _ => exact ⟨c0, c1, c2, c3, c4, rfl⟩
      have hcl : ∀ (i : Nat) v, [c0, c1, c2, c3, c4][i]? = some v → wr.cell? ⟨b, off + j * 5 + i, none⟩ = some v := fun i v hv => by
        refine (World.cell?_of_block (w := W) (a := ⟨b, off + j * 5 + i, none⟩) hnx.1).trans ?_
        rw [Nat.add_assoc]
        refine hc _ _ (flat_get vs (fun y hy => (hel y hy).1) j _ (List.getElem?_eq_getElem hjl) i _ ?_)
        rw [hcs]
        show [c0, c1, c2, c3, c4].toArray[i]? = some v
        simpa using hv
      have d0 : wr.cell? ⟨b, off + j * 5, none⟩ = some c0 := hcl 0 _ rfl
      have d1 : wr.cell? ⟨b, off + j * 5 + 1, none⟩ = some c1 := hcl 1 _ rfl
      have d2 : wr.cell? ⟨b, off + j * 5 + 2, none⟩ = some c2 := hcl 2 _ rfl
      have d3 : wr.cell? ⟨b, off + j * 5 + 3, none⟩ = some c3 := hcl 3 _ rfl
      have d4 : wr.cell? ⟨b, off + j * 5 + 4, none⟩ = some c4 := hcl 4 _ rfl
      simp only [Fin.getElem_fin] at hy
      rw [hcs] at hy
      clear hcs hel1 hcl
      gi_wp2
      refine hR.mono ?_
      rintro e W3 (⟨rfl, hJ3, hk3⟩ | ⟨rfl, hJx3⟩)
      · gi_wp2
        go_roundw
        case rel => exact ⟨k + 1, by omega, by congr 1; omega, by rw [c_down_succ vs hj]; exact hJ3, hnx.trans hk3⟩
        case measure => simp [intOf]
      · gi_wp2
        refine bodyPost_ret (results_none rfl _ _ _) rfl ?_
        exact ⟨⟨_, rfl⟩, .inr ⟨_, trivial, hJx3⟩⟩
    · obtain rfl : k = vs.length := by omega
      gi_wp2
      go_end0
      exact ⟨⟨_, rfl⟩, .inl ⟨_, rfl, hJs⟩⟩

set_option maxRecDepth 100000 in
set_option maxHeartbeats 2000000 in
theorem c_back1_no (F : Fence) (n : Nat) (hF : F.fn 107) (hro : F.round = none) (l Bs cap : Nat) (a : Option Addr) (vs : List Value) (h0v : vs = []) (J : List (Fin vs.length) → World → Prop)
    (W : World) (hBs : W.cell? ⟨Bs, 0, none⟩ = some (.slice a 0 cap)) (h0 : J [] W) :
    CallsIn F n Tryd.prog 107 #[.func (.yield l) #[] #[], .pointer (some ⟨Bs, 0, none⟩)] W fun e W' => (∃ v, e = .returned v) ∧ J [] W' := by
  refine callsIn_of_wp Tryd.func107 rfl hF ?_ hro
  simp only [Tryd.ntmps107, List.size_toArray, List.length_cons, List.length_nil, Nat.reduceAdd, Nat.reduceSub, Array.replicate_succ, Array.replicate_zero, List.push_toArray, List.append_toArray, List.nil_append, List.cons_append]
  gi_wp2
  gi_loopw [3] (fun i wr => i = .int .i64 (-1) ∧ J [] wr) (fun _ _ => 0)
  case atStart => exact ⟨by simp, h0⟩
  case round =>
    obtain ⟨rfl, hJs⟩ := hrel
    gi_wp2
    go_end0
    exact ⟨⟨_, rfl⟩, hJs⟩

set_option maxHeartbeats 1000000 in
theorem c_back_in (F : Fence) (n : Nat) (hF : F.fn 66) (hro : F.round = none) (a : Option Addr) (len cap : Nat) (w : World) :
    CallsIn F n Tryd.prog 66 #[.slice a len cap] w fun e w' => e = .returned (.func (.func 107) #[] #[.pointer (some ⟨w.heap.size, 0, none⟩)]) ∧ w' = w.alloc (.cells #[.slice a len cap] 35) := by
  refine callsIn_of_wp Tryd.func66 rfl hF ?_ hro
  simp only [Tryd.ntmps66, List.size_toArray, List.length_cons, List.length_nil, Nat.reduceAdd, Nat.reduceSub, Array.replicate_succ, Array.replicate_zero, List.push_toArray, List.append_toArray, List.nil_append, List.cons_append]
  gi_wp2
  go_ret
  exact ⟨rfl, rfl⟩

/-- what slices.Backward hands back -/
theorem c_back_stops (F : Fence) (n : Nat) (hF : F.fn 107) (hro : F.round = none) (hn : 1 ≤ n) (Bs b cap : Nat) (a : Option Addr) (vs : List Value) (hel : ∀ y ∈ vs, EltOk 5 y ∧ ∃ cs : List Value, y = .agg cs.toArray) (hlen : vs.length ≤ 1000000) (hcap : vs.length ≤ cap) (w : World) (hBs : Bs < w.heap.size) (hb : b < w.heap.size)
    (hc : w.cell? ⟨Bs, 0, none⟩ = some (.slice a vs.length cap)) (hI : vs = [] ∨ ∃ off, a = some ⟨b, off, none⟩ ∧ CellsAt w b off vs) :
    SeqStopsK F n Tryd.prog 107 #[.pointer (some ⟨Bs, 0, none⟩)] (fun x : Fin vs.length => #[Value.int .i64 (x.1 : Int), vs[x]]) (BackK b Bs) (fun ys => ys = c_down vs vs.length) (fun _ => True) vs.length w := fun l J Jx W hW _ _ hY h0 => by
  have hc' := (hW.cell (p := ⟨Bs, 0, none⟩) hBs).trans hc
  rcases hI with h0v | ⟨off, rfl, hcs⟩
  · have hc2 : W.cell? ⟨Bs, 0, none⟩ = some (.slice a 0 cap) := by rw [hc', h0v]; rfl
    refine (c_back1_no F n hF hro l Bs cap a vs h0v J W hc2 h0).mono fun e W' ⟨he, hj⟩ => ⟨he, .inl ⟨_, rfl, ?_⟩⟩
    subst h0v
    exact hj
  · exact c_back1_in F n hF hro hn l Bs b off cap vs hel hlen J Jx hY W hc' hcap (fun j c hj => (hW.cell (p := ⟨b, off + j, none⟩) hb).trans (hcs j c hj)) h0

theorem c_down_all {α β : Type} (vs : List α) (f : α → β) : (c_down vs vs.length).map (fun x => f vs[x]) = (vs.map f).reverse := by
  rw [c_down, List.take_of_length_le (by simp), List.map_reverse]
  congr 1
  apply List.ext_getElem
  · simp
  · intro i h1 h2
    simp

/-- the part impl.Nodes that have come when k rounds are over -/
def n_down {α : Type} (vs : List α) (k : Nat) : List (Fin vs.length) := (List.finRange vs.length).reverse.take k

theorem n_down_len {α : Type} (vs : List α) {k : Nat} (hk : k ≤ vs.length) : (n_down vs k).length = k := by simp [n_down, hk]

theorem n_down_succ {α : Type} (vs : List α) {k j : Nat} (hj : j + k + 1 = vs.length) : n_down vs (k + 1) = n_down vs k ++ [⟨j, by omega⟩] := by
  have hx : (List.finRange vs.length).reverse[k]? = some ⟨j, by omega⟩ := by
    rw [List.getElem?_reverse (by simp; omega), List.getElem?_eq_getElem (by simp; omega)]
    simp
    omega
  rw [n_down, n_down, List.take_add_one, hx]
  rfl

set_option maxRecDepth 100000 in
set_option maxHeartbeats 2000000 in
theorem n_back1_in (F : Fence) (n : Nat) (hF : F.fn 114) (hro : F.round = none) (hn : 1 ≤ n) (l Bs b off cap : Nat) (vs : List Value) (hel : ∀ y ∈ vs, EltOk 3 y ∧ ∃ cs : List Value, y = .agg cs.toArray) (hlen : vs.length ≤ 1000000) (J Jx : List (Fin vs.length) → World → Prop)
    (hY : ∀ pre x W, J pre W → pre.length < vs.length → YieldAt F (n - 1) Tryd.prog l #[.int .i64 (x.1 : Int), vs[x]] W fun e W' =>
      (e = .returned (.bool true) ∧ J (pre ++ [x]) W' ∧ BackK b Bs W W') ∨ (e = .returned (.bool false) ∧ Jx (pre ++ [x]) W'))
    (W : World) (hBs : W.cell? ⟨Bs, 0, none⟩ = some (.slice (some ⟨b, off, none⟩) vs.length cap)) (hcap : vs.length ≤ cap) (hc : CellsAt W b off vs) (h0 : J [] W) :
    CallsIn F n Tryd.prog 114 #[.func (.yield l) #[] #[], .pointer (some ⟨Bs, 0, none⟩)] W fun e W' => (∃ v, e = .returned v) ∧
      ((∃ ys, ys = n_down vs vs.length ∧ J ys W') ∨ (∃ pre, True ∧ Jx pre W')) := by
  refine callsIn_of_wp Tryd.func114 rfl hF ?_ hro
  simp only [Tryd.ntmps114, List.size_toArray, List.length_cons, List.length_nil, Nat.reduceAdd, Nat.reduceSub, Array.replicate_succ, Array.replicate_zero, List.push_toArray, List.append_toArray, List.nil_append, List.cons_append]
  gi_wp2
  gi_loopw [3] (fun i wr => ∃ k : Nat, k ≤ vs.length ∧ i = .int .i64 ((vs.length : Int) - 1 - k) ∧ J (n_down vs k) wr ∧ BackK b Bs W wr)
    (fun i _ => (intOf i + 1).toNat)
  case atStart => exact ⟨0, Nat.zero_le _, by simp, by rw [n_down]; exact h0, BackK.refl _ _ _⟩
  case round =>
    obtain ⟨k, hk, rfl, hJs, hnx⟩ := hrel
    have hBs' := hnx.box.trans hBs
    by_cases hlt : k < vs.length
    · obtain ⟨j, hj⟩ : ∃ j, j + k + 1 = vs.length := ⟨vs.length - 1 - k, by omega⟩
      have hij : (vs.length : Int) - 1 - k = (j : Int) := by omega
      rw [hij]
      obtain ⟨fn, tmps, assign, body, hy, hR⟩ := hY _ ⟨j, by omega⟩ wr hJs (by rw [n_down_len vs hk]; exact hlt)
      dsimp only at hy
      have hjl : j < vs.length := by omega
      obtain ⟨hel1, cs, hcs⟩ := hel vs[j] (List.getElem_mem hjl)
      obtain ⟨c0, c1, c2, rfl⟩ : ∃ c0 c1 c2, cs = [c0, c1, c2] := by
        have h5 : cs.length = 3 := by
          rw [hcs] at hel1
          have : cs.toArray.size = 3 := hel1.1
          simpa using this
        match cs, h5 with | [c0, c1, c2], _ => exact ⟨c0, c1, c2, rfl⟩
      have hcl : ∀ (i : Nat) v, [c0, c1, c2][i]? = some v → wr.cell? ⟨b, off + j * 3 + i, none⟩ = some v := fun i v hv => by
        refine (World.cell?_of_block (w := W) (a := ⟨b, off + j * 3 + i, none⟩) hnx.1).trans ?_
        rw [Nat.add_assoc]
        refine hc _ _ (flat_get vs (fun y hy => (hel y hy).1) j _ (List.getElem?_eq_getElem hjl) i _ ?_)
        rw [hcs]
        show [c0, c1, c2].toArray[i]? = some v
        simpa using hv
      have d0 : wr.cell? ⟨b, off + j * 3, none⟩ = some c0 := hcl 0 _ rfl
      have d1 : wr.cell? ⟨b, off + j * 3 + 1, none⟩ = some c1 := hcl 1 _ rfl
      have d2 : wr.cell? ⟨b, off + j * 3 + 2, none⟩ = some c2 := hcl 2 _ rfl
      simp only [Fin.getElem_fin] at hy
      rw [hcs] at hy
      clear hcs hel1 hcl
      gi_wp2
      refine hR.mono ?_
      rintro e W3 (⟨rfl, hJ3, hk3⟩ | ⟨rfl, hJx3⟩)
      · gi_wp2
        go_roundw
        case rel => exact ⟨k + 1, by omega, by congr 1; omega, by rw [n_down_succ vs hj]; exact hJ3, hnx.trans hk3⟩
        case measure => simp [intOf]
      · gi_wp2
        refine bodyPost_ret (results_none rfl _ _ _) rfl ?_
        exact ⟨⟨_, rfl⟩, .inr ⟨_, trivial, hJx3⟩⟩
    · obtain rfl : k = vs.length := by omega
      gi_wp2
      go_end0
      exact ⟨⟨_, rfl⟩, .inl ⟨_, rfl, hJs⟩⟩

set_option maxRecDepth 100000 in
set_option maxHeartbeats 2000000 in
theorem n_back1_no (F : Fence) (n : Nat) (hF : F.fn 114) (hro : F.round = none) (l Bs cap : Nat) (a : Option Addr) (vs : List Value) (h0v : vs = []) (J : List (Fin vs.length) → World → Prop)
    (W : World) (hBs : W.cell? ⟨Bs, 0, none⟩ = some (.slice a 0 cap)) (h0 : J [] W) :
    CallsIn F n Tryd.prog 114 #[.func (.yield l) #[] #[], .pointer (some ⟨Bs, 0, none⟩)] W fun e W' => (∃ v, e = .returned v) ∧ J [] W' := by
  refine callsIn_of_wp Tryd.func114 rfl hF ?_ hro
  simp only [Tryd.ntmps114, List.size_toArray, List.length_cons, List.length_nil, Nat.reduceAdd, Nat.reduceSub, Array.replicate_succ, Array.replicate_zero, List.push_toArray, List.append_toArray, List.nil_append, List.cons_append]
  gi_wp2
  gi_loopw [3] (fun i wr => i = .int .i64 (-1) ∧ J [] wr) (fun _ _ => 0)
  case atStart => exact ⟨by simp, h0⟩
  case round =>
    obtain ⟨rfl, hJs⟩ := hrel
    gi_wp2
    go_end0
    exact ⟨⟨_, rfl⟩, hJs⟩

set_option maxHeartbeats 1000000 in
theorem n_back_in (F : Fence) (n : Nat) (hF : F.fn 73) (hro : F.round = none) (a : Option Addr) (len cap : Nat) (w : World) :
    CallsIn F n Tryd.prog 73 #[.slice a len cap] w fun e w' => e = .returned (.func (.func 114) #[] #[.pointer (some ⟨w.heap.size, 0, none⟩)]) ∧ w' = w.alloc (.cells #[.slice a len cap] 23) := by
  refine callsIn_of_wp Tryd.func73 rfl hF ?_ hro
  simp only [Tryd.ntmps73, List.size_toArray, List.length_cons, List.length_nil, Nat.reduceAdd, Nat.reduceSub, Array.replicate_succ, Array.replicate_zero, List.push_toArray, List.append_toArray, List.nil_append, List.cons_append]
  gi_wp2
  go_ret
  exact ⟨rfl, rfl⟩

/-- what slices.Backward hands back -/
theorem n_back_stops (F : Fence) (n : Nat) (hF : F.fn 114) (hro : F.round = none) (hn : 1 ≤ n) (Bs b cap : Nat) (a : Option Addr) (vs : List Value) (hel : ∀ y ∈ vs, EltOk 3 y ∧ ∃ cs : List Value, y = .agg cs.toArray) (hlen : vs.length ≤ 1000000) (hcap : vs.length ≤ cap) (w : World) (hBs : Bs < w.heap.size) (hb : b < w.heap.size)
    (hc : w.cell? ⟨Bs, 0, none⟩ = some (.slice a vs.length cap)) (hI : vs = [] ∨ ∃ off, a = some ⟨b, off, none⟩ ∧ CellsAt w b off vs) :
    SeqStopsK F n Tryd.prog 114 #[.pointer (some ⟨Bs, 0, none⟩)] (fun x : Fin vs.length => #[Value.int .i64 (x.1 : Int), vs[x]]) (BackK b Bs) (fun ys => ys = n_down vs vs.length) (fun _ => True) vs.length w := fun l J Jx W hW _ _ hY h0 => by
  have hc' := (hW.cell (p := ⟨Bs, 0, none⟩) hBs).trans hc
  rcases hI with h0v | ⟨off, rfl, hcs⟩
  · have hc2 : W.cell? ⟨Bs, 0, none⟩ = some (.slice a 0 cap) := by rw [hc', h0v]; rfl
    refine (n_back1_no F n hF hro l Bs cap a vs h0v J W hc2 h0).mono fun e W' ⟨he, hj⟩ => ⟨he, .inl ⟨_, rfl, ?_⟩⟩
    subst h0v
    exact hj
  · exact n_back1_in F n hF hro hn l Bs b off cap vs hel hlen J Jx hY W hc' hcap (fun j c hj => (hW.cell (p := ⟨b, off + j, none⟩) hb).trans (hcs j c hj)) h0

theorem n_down_all {α β : Type} (vs : List α) (f : α → β) : (n_down vs vs.length).map (fun x => f vs[x]) = (vs.map f).reverse := by
  rw [n_down, List.take_of_length_le (by simp), List.map_reverse]
  congr 1
  apply List.ext_getElem
  · simp
  · intro i h1 h2
    simp

/-! ### the callers -/

theorem cmd_agg (cs : List Cmd) : ∀ y ∈ cs.map cmdV, EltOk 5 y ∧ ∃ xs : List Value, y = .agg xs.toArray := fun y hy => by
  refine ⟨cmd_elt cs y hy, ?_⟩
  obtain ⟨c, _, rfl⟩ := List.mem_map.1 hy
  exact ⟨_, rfl⟩

theorem nod_agg (cs : List Nod) : ∀ y ∈ cs.map nodV, EltOk 3 y ∧ ∃ xs : List Value, y = .agg xs.toArray := fun y hy => by
  refine ⟨nod_elt cs y hy, ?_⟩
  obtain ⟨c, _, rfl⟩ := List.mem_map.1 hy
  exact ⟨_, rfl⟩

theorem one_arg {P : Program} {F : Nat → Prop} {rho : Option Nat} {w : World} {vals : Array Value} {a : AV} (h : ArgsR P F rho w vals [a]) : ∃ y, vals = #[y] ∧ RepV P F (fun _ => none) rho w y a := by
  obtain ⟨y0, hy0, hsl⟩ := h.2 0 _ rfl
  refine ⟨y0, ?_, hsl⟩
  have hs := h.1
  simp only [List.length_cons, List.length_nil] at hs
  apply Array.ext (by simpa using hs)
  intro j hj hj'
  match j with
  | 0 => simpa using (Array.getElem?_eq_some_iff.1 hy0).2
  | _ + 1 => simp at hj'

theorem calls_v {P : Program} {f : FuncId} {x : Value} {R : AV → Prop} (h : ACalls P f [.v x] 0 R) (W : World) :
    Calls P f #[x] W fun e w' => ∃ rv r, e = .returned rv ∧ R r ∧ ResR P (fun _ => False) W w' rv r ∧ Step (fun _ => False) W w' := by
  refine (h.2 W (fun _ => False) none undef [] 0 #[x] (fun b hb => hb.elim) (fun b hb => (by cases hb)) (fun b hb => (by cases hb)) (by unfold LIM; omega) ⟨rfl, fun j av hj => ?_⟩).mono fun e w' ⟨rv, r, he, hr, h6, h7, _⟩ => ⟨rv, r, he, hr, h6, h7.mono fun b _ hb => by cases hb⟩
  match j with
  | 0 =>
    obtain rfl : AV.v x = av := by simpa using hj
    exact ⟨x, rfl, rfl⟩
  | _ + 1 => simp at hj

theorem wpOpIn_append_run {F : Fence} {n : Nat} {P : Program} {ops : Array Oper} {Q : Exit → Act → World → Prop} {K : Act → World → Prop} {a : Act} {w w' : World} {o : Oper} {v' : Value} (s x : Operand) (t : TypeId)
    (hg : o.guard = none) (hop : o.op = Op.call { callee := Callee.builtin Builtin.append, args := #[s, x], argTypes := #[t, t] })
    (hrun : (Builtin.append_ #[t, t] o.type #[a.eval s, a.eval x]).run P w = .ok v' w') (hK : K (a.put o.dst v') w') :
    if Region.wanted o (yielded ops a.tmps) = true then Oper.wpIn F n P o a w K Q else (∀ f, o.about P w a.eval = some f → F.fn f) ∧ K (a.put o.dst undef) w := by
  rw [if_pos (wanted_none hg)]
  unfold Oper.wpIn
  refine ⟨?_, ?_⟩
  · simp [Oper.about, hop, resolve, Target.leads, Sem.run_pure]
  · rw [Oper.semAt_plain F _ _ (by rw [hop]; intro c hc'; cases hc')]
    simp [execOp, hop, resolve, invoke, builtin, hrun, Result.andThen]
    exact hK

/-- an element more in the box's own row -/
theorem push_own {P : Program} {t e k by' : Nat} (hT : elemT P t = some (e, k, by')) (hby : by' ≤ 1000) (hte : t ≠ e) {W w' : World} {n₀ B : Nat} {v x : Value} {vs : List Value} (hx : EltOk k x)
    (hv : Boxed W B t v) (hrow : W.ownsRow n₀ e k v vs.length (flat vs)) (hB : n₀ ≤ B) (hn₀ : n₀ ≤ W.heap.size) (hst : Step (fun _ => False) W.drew w') (hlen : vs.length ≤ 1000000) :
    ∃ g cap w2, (Builtin.append_ #[t, t] t #[v, .slice (some ⟨w'.heap.size, 0, none⟩) 1 1]).run P (w'.alloc (.cells x.cells e)) = .ok (.slice (some ⟨g, 0, none⟩) (vs.length + 1) cap) w2 ∧
      w'.cell? ⟨B, 0, none⟩ = some v ∧ (∀ o : Obj, (w'.alloc o).cell? ⟨B, 0, none⟩ = some v) ∧ w2.cell? ⟨B, 0, none⟩ = some v ∧ w2.frozen? ⟨B, 0, none⟩ = false ∧
      Boxed (w2.setCell ⟨B, 0, none⟩ (.slice (some ⟨g, 0, none⟩) (vs.length + 1) cap)) B t (.slice (some ⟨g, 0, none⟩) (vs.length + 1) cap) ∧
      (w2.setCell ⟨B, 0, none⟩ (.slice (some ⟨g, 0, none⟩) (vs.length + 1) cap)).ownsRow n₀ e k (.slice (some ⟨g, 0, none⟩) (vs.length + 1) cap) (vs ++ [x]).length (flat (vs ++ [x])) ∧
      KeepsOthers W (w2.setCell ⟨B, 0, none⟩ (.slice (some ⟨g, 0, none⟩) (vs.length + 1) cap)) ∧ Below n₀ W (w2.setCell ⟨B, 0, none⟩ (.slice (some ⟨g, 0, none⟩) (vs.length + 1) cap)) ∧
      ∀ b arr t' z, W.heap[b]? = some (.cells arr t' z) → t' ≠ e → b ≠ B → (w2.setCell ⟨B, 0, none⟩ (.slice (some ⟨g, 0, none⟩) (vs.length + 1) cap)).heap[b]? = W.heap[b]? := by
  obtain ⟨i, z, hu, hi, hz, hs, hb, hzs, hpos, hcel, _⟩ := elemT_spec hT
  have hg0 : W.grownBy w' none := ⟨hst.os, hst.tape, hst.output, hst.size, fun j hj _ => hst.block j hj id⟩
  have hv1 : Boxed w' B t v := hv.kept hg0 (by simp)
  have hrow1 : w'.ownsRow n₀ e k v vs.length (flat vs) := hrow.kept hg0 (by cases v.ownBlock <;> simp)
  have hsz : W.heap.size ≤ w'.heap.size := hst.size
  have hnew : (w'.alloc (.cells x.cells e)).heap[w'.heap.size]? = some (.cells x.cells e (0, 0)) := World.alloc_heap_new _ _
  obtain ⟨v', w2, hrun, hown', hgrow, _⟩ := run_append_own (P := P) (w'.alloc (.cells x.cells e)) n₀ t t e i z k by' hu hi hz hs hb hzs hpos v vs.length (flat vs) (hrow1.alloc _) ⟨w'.heap.size, 0, none⟩ 1 1 x.cells.toList
    (by rw [Array.length_toList, hx.1]; omega) (fun j u hj => by rw [Addr.add_mk]; simp only [World.cell?, hnew, Nat.zero_add]; simpa using hj) hx.2 (by unfold maxLen; omega)
    (by have := Nat.mul_le_mul (show vs.length + 1 ≤ 1000001 by omega) hby; omega) (by simp; omega)
  obtain ⟨g, cap, rfl⟩ := ownsRow_succ hown'
  obtain ⟨a1, a2, a3, a4, a5⟩ := hv1.appended hte hrow1 (Nat.le_trans hn₀ hsz) hB hown' hgrow
  have hko : KeepsOthers W w' := ⟨hst.size, fun j o hj ho => (hst.block j (Array.getElem?_eq_some_iff.1 hj).1 id).trans hj⟩
  refine ⟨g, cap, w2, hrun, hv1.cell, fun o => (hv1.alloc o).cell, a1.cell, a1.frozen, a2, ?_, hko.trans a4, ?_, fun b arr t' zz hb hte' hne => ?_⟩
  · rw [flat_append, List.length_append]
    simpa [flat] using a3
  · exact (show Below n₀ W w' from ⟨hst.os, hst.tape, hst.output, hst.size, fun j hj => hst.block j (Nat.lt_of_lt_of_le hj hn₀) id⟩).trans a5
  · have hbl : b < W.heap.size := (Array.getElem?_eq_some_iff.1 hb).1
    have e0 : w'.heap[b]? = W.heap[b]? := hst.block b hbl id
    have e1 : (w'.alloc (.cells x.cells e)).heap[b]? = w'.heap[b]? := Below.heap_alloc _ _ _ (by omega)
    have e2 : w2.heap[b]? = (w'.alloc (.cells x.cells e)).heap[b]? := hgrow.block b (by simp; omega) fun eb => by
      rcases hrow1.2 with ⟨rfl, _⟩ | ⟨g', cap', cur, rfl, _, hgb, _⟩
      · simp [Value.ownBlock] at eb
      · obtain rfl : b = g' := by simpa [Value.ownBlock] using eb
        rw [e0, hb] at hgb
        simp at hgb
        exact hte' hgb.2.1
    rw [Below.heap_setCell _ _ _ _ hne, e2, e1, e0]

def cmd0 : Cmd := ⟨[], ⟨0, 0⟩, ⟨0, 0⟩⟩
/-- what has been collected -/
def unds (cs : List Cmd) (pre : List (Fin (cs.map cmdV).length)) : List Value := pre.map fun x => cmdV (undoF (cs.getD x.1 cmd0))

theorem unds_all (cs : List Cmd) : unds cs (c_down (cs.map cmdV) (cs.map cmdV).length) = (cs.reverse.map undoF).map cmdV := by
  rw [unds, c_down, List.take_of_length_le (by simp), List.map_reverse, List.map_reverse, List.map_reverse]
  congr 1
  apply List.ext_getElem
  · simp
  · intro i h1 h2
    have : i < cs.length := by simpa using h1
    simp [List.getD, this]

theorem own_res {P : Program} {F : Nat → Prop} {w W : World} {n₀ e k : Nat} {v : Value} {vs : List Value} (hk : P.cellsOf e = k) (hel : ∀ y ∈ vs, EltOk k y) (hn : w.heap.size ≤ n₀) (h : W.ownsRow n₀ e k v vs.length (flat vs)) : ResR P F w W v (.own 0 e vs) := by
  subst hk
  refine ⟨hel, ?_⟩
  rcases h.2 with ⟨rfl, h0⟩ | ⟨g, cap, cur, rfl, hg, rest⟩
  · exact .inl ⟨rfl, List.length_eq_zero_iff.1 h0⟩
  · exact .inr ⟨g, Nat.le_trans hn hg, rfl, h.1, .inr ⟨g, cap, cur, rfl, Nat.le_refl _, rest⟩⟩

theorem RdOk.stay {F : Nat → Prop} {w W : World} {rho : Option Nat} {s : Value} {bs : List UInt8} {m : Nat} (h : RdOk F w rho s bs m) (st : Step (fun _ => False) w W) : RdOk F W rho s bs m := fun β hβ => by
  obtain ⟨⟨p, ty, q1, q2, q3⟩, q4, q5⟩ := h β hβ
  exact ⟨⟨p, ty, (st.block β (Array.getElem?_eq_some_iff.1 q1).1 id).trans q1, q2, q3⟩, q4.step st (fun _ _ h => h) (fun _ _ h => h.elim), q5⟩

end Go.Proofs.YtlmlnbmagmembaaDoor
