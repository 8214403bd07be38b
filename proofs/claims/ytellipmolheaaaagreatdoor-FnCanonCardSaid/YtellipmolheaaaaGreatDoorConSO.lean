import Derived.Test.YtellipmolheaaaaGreatDoorCoreI
import Derived.Test.YtellipmolheaaaaGreatDoorConU
import Derived.Test.YtellipmolheaaaaGreatDoorCanM
import Derived.Test.YtellipmolheaaaaGreatDoorSortLay
import Derived.Shelf.SlSortCmp.NoneTotal
set_option linter.unusedVariables false
set_option linter.unusedSimpArgs false
set_option maxRecDepth 10000
namespace Go.Proofs.YtellipmolheaaaaGreatDoor
open Go Go.RowKit

/-! ### commands sorted in canonical order -/

instance : Inhabited Cmd := ⟨⟨[], ⟨0, 0⟩, ⟨0, 0⟩⟩⟩

def encC (c : Cmd) : List Value := [.string ⟨⟨c.p⟩⟩, .int .i64 c.f.k, .int .i64 c.f.v, .int .i64 c.t.k, .int .i64 c.t.v]

theorem cmp_neg (a b : List UInt8) : decide (cmpF a b < 0) = Op.bytesLess a b := by
  unfold cmpF
  cases h : Op.bytesLess a b with
  | true => simp
  | false =>
    rw [if_neg (by simp)]
    apply decide_eq_false
    split <;> omega

theorem lt_before (x y : Cmd) : ltOf ordF x y = beforeF x y := by
  unfold ltOf ordF beforeF
  cases hx : endsF x <;> cases hy : endsF y <;> simp [cmp_neg]

theorem less_ntrans {a b c : List UInt8} (h1 : Op.bytesLess a b = false) (h2 : Op.bytesLess b c = false) : Op.bytesLess a c = false := by
  cases h : Op.bytesLess a c with
  | false => rfl
  | true =>
    by_cases e : a = b
    · rw [e, h2] at h
      cases h
    · have h3 := less_tri e h1
      rw [less_trans h3 h] at h2
      cases h2

theorem before_ntrans {x y z : Cmd} (h1 : beforeF x y = false) (h2 : beforeF y z = false) : beforeF x z = false := by
  unfold beforeF at *
  cases hx : endsF x <;> cases hy : endsF y <;> cases hz : endsF z <;> simp only [hx, hy, hz, Bool.and_true, Bool.and_false, Bool.true_and, Bool.false_and, Bool.not_true, Bool.not_false, if_true, if_false, Bool.false_eq_true, reduceIte, Bool.true_eq_false] at h1 h2 ⊢
  · exact less_ntrans h1 h2
  · exact less_ntrans h2 h1

theorem before_swo : Sort.SWO (ltOf ordF) where
  irrefl x := by rw [lt_before]; exact before_irrefl x
  trans x y z h1 h2 := by rw [lt_before] at *; exact before_trans' h1 h2
  ntrans x y z h1 h2 := by rw [lt_before] at *; exact before_ntrans h1 h2

/-- what is sorted and has each path once is the sorted list -/
theorem sort14_of {cs out : List Cmd} (hn : (cs.map (·.p)).Nodup) (hp : out.Perm cs) (hs : ∀ (i j : Nat) x y, i < j → out[i]? = some x → out[j]? = some y → beforeF y x = false) : out = sort14F cs := by
  obtain ⟨q1, q2⟩ := sort14_ok hn
  have hno : (out.map (·.p)).Nodup := ((hp.map _).nodup_iff).2 hn
  refine sorted_ext (lt := beforeF) before_irrefl (fun _ _ h => before_asymm h) ?_ q2 fun c => by rw [hp.mem_iff, q1.mem_iff]
  refine List.pairwise_iff_getElem.2 fun i j hi hj hij => ?_
  have h1 := hs i j _ _ hij (List.getElem?_eq_getElem hi) (List.getElem?_eq_getElem hj)
  exact before_tri (nodup_next hno hij (List.getElem?_eq_getElem hi) (List.getElem?_eq_getElem hj)).symm h1

/-! ### the cells -/

theorem flatK_flat {α : Type} [Inhabited α] (enc : α → List Value) (k : Nat) (V : α → Value) (hV : ∀ x, (V x).cells.toList = enc x) (hE : ∀ x, EltOk k (V x)) (d : Array α) : (Sort.flatK enc k d).toList = flat (d.toList.map V) := by
  have hk : ∀ x, (enc x).length = k := fun x => by rw [← hV, Array.length_toList]; exact (hE x).1
  have hE' : ∀ y ∈ d.toList.map V, EltOk k y := fun y hy => by
    obtain ⟨x, _, rfl⟩ := List.mem_map.1 hy
    exact hE x
  have hlen : (flat (d.toList.map V)).length = d.size * k := by rw [flat_length _ hE']; simp
  apply List.ext_getElem?
  intro t
  by_cases ht : t < d.size * k
  · have k0 : 0 < k := by
      rcases Nat.eq_zero_or_pos k with h | h
      · subst h; simp at ht
      · exact h
    have hdiv : t / k < d.size := Nat.div_lt_of_lt_mul (by rwa [Nat.mul_comm] at ht)
    have hm := Nat.mod_lt t k0
    have e : t / k * k + t % k = t := Nat.div_add_mod' t k
    have h1 := Sort.get_flatK enc k d t ht
    have hsz : t < (Sort.flatK enc k d).size := by rw [Sort.size_flatK]; exact ht
    have l1 : (Sort.flatK enc k d).toList[t]? = some ((enc d[t / k]!)[t % k]!) := by
      rw [← h1, getElem!_pos _ t hsz]
      simp [hsz]
    have hx : (d.toList.map V)[t / k]? = some (V d[t / k]!) := by
      rw [List.getElem?_map, getElem!_pos d (t / k) hdiv]
      simp [hdiv]
    have hc : (V d[t / k]!).cells[t % k]? = some ((enc d[t / k]!)[t % k]!) := by
      have hl : t % k < (enc d[t / k]!).length := by rw [hk]; exact hm
      have h2 : (V d[t / k]!).cells.toList[t % k]? = (enc d[t / k]!)[t % k]? := by rw [hV]
      rw [Array.getElem?_toList] at h2
      rw [h2, List.getElem?_eq_getElem hl, getElem!_pos _ (t % k) hl]
    have h3 := flat_get _ hE' (t / k) _ hx (t % k) _ hc
    rw [e] at h3
    rw [l1, h3]
  · rw [List.getElem?_eq_none (by rw [Array.length_toList, Sort.size_flatK]; omega), List.getElem?_eq_none (by omega)]

theorem put_heap (w : World) (m blk : Nat) (F : Array Value) (os : Array Obj) {c : Array Value} {e : TypeId} (hb : w.heap[blk]? = some (.cells c e (0, 0))) :
    (Sort.grow (Sort.putRow id (Sort.ahead w m) blk 0 F) os).heap[blk]? = some (.cells (Sort.putCells id 0 F c) e (0, 0)) ∧ Step (fun b => b = blk) w (Sort.grow (Sort.putRow id (Sort.ahead w m) blk 0 F) os) := by
  have hlt : blk < w.heap.size := (Array.getElem?_eq_some_iff.1 hb).1
  have hsz : (Sort.putRow id (Sort.ahead w m) blk 0 F).heap.size = w.heap.size := by rw [Sort.size_putRow]; rfl
  have hold : ∀ b, b < w.heap.size → (Sort.grow (Sort.putRow id (Sort.ahead w m) blk 0 F) os).heap[b]? = (w.heap.modify blk (Sort.onCells (Sort.putCells id 0 F)))[b]? := fun b hlt => by
    rw [Sort.heap_grow_old _ _ (by rw [hsz]; exact hlt)]
    rfl
  refine ⟨?_, rfl, rfl, rfl, ?_, fun b hlt hne => ?_⟩
  · rw [hold blk hlt, Array.getElem?_modify, if_pos rfl, hb]
    rfl
  · rw [Sort.size_grow, hsz]
    omega
  · rw [hold b hlt, Array.getElem?_modify, if_neg (fun e => hne e.symm)]

theorem putCells_take (F c : Array Value) (h : F.size ≤ c.size) : (Sort.putCells id 0 F c).size = c.size ∧ (Sort.putCells id 0 F c).toList.take F.size = F.toList := by
  have hs : (Sort.putCells id 0 F c).size = c.size := by simp [Sort.putCells]
  refine ⟨hs, ?_⟩
  apply List.ext_getElem?
  intro t
  rw [List.getElem?_take]
  by_cases ht : t < F.size
  · rw [if_pos ht]
    have hc : t < c.size := by omega
    simp [Sort.putCells, ht, hc]
  · rw [if_neg ht, List.getElem?_eq_none (by simpa using ht)]

/-! ### the order, in whatever world: nothing is turned, only blocks are laid -/

def endsB (fk tk : Int) : Bool := decide (tk = 0) || decide (fk = 1)
theorem ends_g (p : ByteArray) (fk fv tk tv : Int) (W : World) : Calls Tryz.prog 39 #[.agg #[.string p, .int .i64 fk, .int .i64 fv, .int .i64 tk, .int .i64 tv]] W fun e w' => e = .returned (.bool (endsB fk tk)) ∧ ∃ os', w' = Sort.grow W os' := by
  go_enter Tryz.func39, Tryz.ntmps39
  go_wp2
  all_goals
    go_ret
    rw [Sort.alloc_eq_grow]
    refine ⟨?_, _, rfl⟩
    unfold endsB
    by_cases h2 : fk = 1 <;> simp_all

theorem isNaN_g (s : ByteArray) (W : World) : Calls Tryz.prog 71 #[.string s] W fun e w' => e = .returned (.bool false) ∧ w' = W := by
  go_enter Tryz.func71, Tryz.ntmps71
  go_wp2
  go_ret
  exact ⟨by simp, rfl⟩

theorem compare_g (a b : List UInt8) (W : World) : Calls Tryz.prog 40 #[.string ⟨⟨a⟩⟩, .string ⟨⟨b⟩⟩] W fun e w' => e = .returned (.int .i64 (cmpF a b)) ∧ w' = W := by
  have h1 := isNaN_g ⟨⟨a⟩⟩
  have h2 := isNaN_g ⟨⟨b⟩⟩
  go_enter Tryz.func40, Tryz.ntmps40
  go_wp2_with (first | (go_at_call 71; refine (h1 _).mono ?_; rintro e w' ⟨rfl, rfl⟩) | (go_at_call 71; refine (h2 _).mono ?_; rintro e w' ⟨rfl, rfl⟩))
  all_goals
    clear h1 h2
    go_ret
    refine ⟨?_, rfl⟩
    have ht := less_total a b
    unfold cmpF
    cases hl : Op.bytesLess a b <;> cases hr : Op.bytesLess b a <;> simp_all

theorem two_boxes (W : World) (a b : Array Value) (e : TypeId) (os : Array Obj) : (∀ (j : Nat) v, a[j]? = some v → (Sort.grow ((W.alloc (.cells a e)).alloc (.cells b e)) os).cell? ⟨W.heap.size, j, none⟩ = some v) ∧
    (∀ (j : Nat) v, b[j]? = some v → (Sort.grow ((W.alloc (.cells a e)).alloc (.cells b e)) os).cell? ⟨W.heap.size + 1, j, none⟩ = some v) := by
  have e1 : W.heap.size + 1 = (W.alloc (.cells a e)).heap.size := by simp
  have n1 : ((W.alloc (.cells a e)).alloc (.cells b e)).heap[W.heap.size]? = some (.cells a e (0, 0)) := by
    rw [Below.heap_alloc _ _ _ (by simp)]
    exact Go.heap_alloc_new W _
  have n2 : ((W.alloc (.cells a e)).alloc (.cells b e)).heap[W.heap.size + 1]? = some (.cells b e (0, 0)) := by
    rw [e1]
    exact Go.heap_alloc_new _ _
  constructor
  · intro j v h
    rw [Sort.cell?_grow _ _ _ (by simp; omega)]
    simp only [World.cell?, n1]
    simpa using h
  · intro j v h
    rw [Sort.cell?_grow _ _ _ (by simp)]
    simp only [World.cell?, n2]
    simpa using h

set_option maxHeartbeats 1000000 in
theorem order_g (p q : List UInt8) (a1 a2 a3 a4 b1 b2 b3 b4 : Int) (W : World) : Calls Tryz.prog 21 #[.agg #[.string ⟨⟨p⟩⟩, .int .i64 a1, .int .i64 a2, .int .i64 a3, .int .i64 a4], .agg #[.string ⟨⟨q⟩⟩, .int .i64 b1, .int .i64 b2, .int .i64 b3, .int .i64 b4]] W
    fun e w' => e = .returned (.int .i64 (if (endsB a1 a3 && endsB b1 b3) = true then cmpF q p else if endsB a1 a3 = true then -1 else if endsB b1 b3 = true then 1 else cmpF p q)) ∧ ∃ os', w' = Sort.grow W os' := by
  have hR : ∃ R, R = if (endsB a1 a3 && endsB b1 b3) = true then cmpF q p else if endsB a1 a3 = true then -1 else if endsB b1 b3 = true then 1 else cmpF p q := ⟨_, rfl⟩
  obtain ⟨R, hR⟩ := hR
  rw [← hR]
  have hB := two_boxes W #[.string ⟨⟨p⟩⟩, .int .i64 a1, .int .i64 a2, .int .i64 a3, .int .i64 a4] #[.string ⟨⟨q⟩⟩, .int .i64 b1, .int .i64 b2, .int .i64 b3, .int .i64 b4] 40
  have p0 := fun os => (hB os).1 0 _ rfl
  have p1 := fun os => (hB os).1 1 _ rfl
  have p2 := fun os => (hB os).1 2 _ rfl
  have p3 := fun os => (hB os).1 3 _ rfl
  have p4 := fun os => (hB os).1 4 _ rfl
  have q0 := fun os => (hB os).2 0 _ rfl
  have q1 := fun os => (hB os).2 1 _ rfl
  have q2 := fun os => (hB os).2 2 _ rfl
  have q3 := fun os => (hB os).2 3 _ rfl
  have q4 := fun os => (hB os).2 4 _ rfl
  clear hB
  cases hA : endsB a1 a3 <;> cases hC : endsB b1 b3
  all_goals
    rw [hA, hC] at hR
    have A := Exists.intro (p := fun _ : Unit => _) () hR
    clear hR
    go_enter Tryz.func21, Tryz.ntmps21
    go_wp2_with (first | (go_at_call 39; refine (ends_g _ _ _ _ _ _).mono ?_; rintro e w' ⟨rfl, os, rfl⟩; try rw [Sort.grow_grow]) | (go_at_call 40; refine (compare_g _ _ _).mono ?_; rintro e w' ⟨rfl, rfl⟩))
    clear p0 p1 p2 p3 p4 q0 q1 q2 q3 q4
    go_ret
    refine ⟨?_, _, by rw [Sort.alloc_eq_grow, Sort.alloc_eq_grow, Sort.grow_grow, Sort.grow_grow]⟩
    obtain ⟨_, A⟩ := A
    rw [A]
    simp

theorem order_lays (blk off size : Nat) (w : World) : CmpLays Tryz.prog 21 #[] encC 5 ordF blk off size w := fun m os dk _ x y =>
  (order_g x.p y.p x.f.k x.f.v x.t.k x.t.v y.f.k y.f.v y.t.k y.t.v _).mono fun e w' ⟨h1, os', h2⟩ => ⟨h1, 0, os', h2⟩

/-- slices.SortFunc over commands whose paths differ -/
theorem sort_c (cs : List Cmd) (hl : cs.length ≤ 2000000) (hn : (cs.map (·.p)).Nodup) :
    SCalls Tryz.prog 20 40 (cs.map cmdV) [.clo 21 [] []] (fun vs' rv => vs' = (sort14F cs).map cmdV ∧ rv = .tuple #[]) := by
  refine ⟨⟨_, Tryz.func20, by kernel_rfl, rfl⟩, fun w F o xv vals h1 h2 h3 h4 h5 => ?_⟩
  obtain ⟨y0, hy0, fs, qs, rfl, s1, s2, _, _⟩ := h5.2 0 _ rfl
  have e1 : fs = #[] := by apply Array.eq_empty_of_size_eq_zero; simpa using s1
  have e2 : qs = #[] := by apply Array.eq_empty_of_size_eq_zero; simpa using s2
  subst e1; subst e2
  have hv : vals = #[.func (.func 21) #[] #[]] := by
    have hs := h5.1
    simp only [List.length_cons, List.length_nil] at hs
    apply Array.ext (by simpa using hs)
    intro j hj hj'
    match j with
    | 0 => simpa using (Array.getElem?_eq_some_iff.1 hy0).2
    | _ + 1 => simp at hj'
  subst hv
  clear h5 hy0
  have hcel : Tryz.prog.cellsOf 40 = 5 := by kernel_rfl
  have hel : ∀ (l : List Cmd), ∀ y ∈ l.map cmdV, EltOk (Tryz.prog.cellsOf 40) y := fun l => by rw [hcel]; exact cmd_elt l
  have nil_case : ∀ (p : Option Addr) (cap : Nat), xv = .slice p 0 cap → cs = [] → Calls Tryz.prog 20 (#[xv] ++ #[.func (.func 21) #[] #[]]) w fun en w' => en = .returned (.tuple #[]) ∧ w' = w := fun p cap e _ => by
    subst e
    exact AnyF.slices_SortFunc_none Tryz.sortC p cap _ w
  obtain ⟨_, hr⟩ := h4
  rcases hr with ⟨hx, h0⟩ | ⟨g, hg, hob, hrow⟩
  · have hcs : cs = [] := by simpa using h0
    subst hcs
    refine (nil_case none 0 hx rfl).mono fun en w' ⟨q1, q2⟩ => ⟨[], .tuple #[], q1, ⟨rfl, rfl⟩, rfl, hel [], .inl ⟨rfl, ?_⟩⟩
    rw [q2]
    exact Step.refl _ _
  · rcases hrow.2 with ⟨hx, _⟩ | ⟨g', cap, cur, hx, _, hh, hc1, hc2, hc3, hc4⟩
    · rw [hx] at hob
      simp [Value.ownBlock] at hob
    rw [hx] at hob
    have hgg : g' = g := by simpa [Value.ownBlock] using hob
    subst hgg
    rw [hcel] at hc3 hc4
    simp only [List.length_map] at hc1 hc4 hx
    subst hx
    rcases Nat.eq_zero_or_pos cs.length with hz | hpos
    · have hcs : cs = [] := List.length_eq_zero_iff.1 hz
      subst hcs
      refine (nil_case _ cap rfl rfl).mono fun en w' ⟨q1, q2⟩ => ⟨[], .tuple #[], q1, ⟨rfl, rfl⟩, rfl, hel [], .inl ⟨rfl, ?_⟩⟩
      rw [q2]
      exact Step.refl _ _
    · have hfl := flatK_flat encC 5 cmdV (fun _ => rfl) (fun x => cmd_elt [x] _ (by simp)) cs.toArray
      have hfs : (Sort.flatK encC 5 cs.toArray).size = cs.length * 5 := by simp
      have hH : Sort.HoldsK encC 5 w g' 0 cs.toArray := fun j hj => by
        have hj' : j < cs.length * 5 := by rw [hfs] at hj; exact hj
        refine ⟨?_, by simp [World.frozen?, hh]⟩
        have hlt : j < cur.size := by rw [hc3]; have := Nat.mul_le_mul_right 5 hc1; omega
        have e0 : cur.toList[j]? = (Sort.flatK encC 5 cs.toArray).toList[j]? := by
          rw [hfl]
          simp only [] at hc4 ⊢
          rw [← hc4, List.getElem?_take, if_pos hj']
        simp only [World.cell?, Nat.zero_add, hh, id]
        rw [Array.getElem?_toList, Array.getElem?_toList] at e0
        simp only [Option.isSome_none, Bool.false_eq_true, if_false]
        rw [e0, Array.getElem?_eq_getElem hj, getElem!_pos _ j hj]
      have hcall := AnyQ.slices_SortFunc Tryz.sortC 5 (fun w => (tk_agg (P := Tryz.prog) (t := 40) (n := 5) (by kernel_rfl) w).1) (fun w => (tk_agg (P := Tryz.prog) (t := 40) (n := 5) (by kernel_rfl) w).2) encC (fun _ => rfl)
        (fun x v hv => (cmd_elt [x] (cmdV x) (by simp)).2 v hv) ordF before_swo 21 #[] g' 0 cap cs.toArray w (enters_of Tryz.func21 (by kernel_rfl) rfl) (order_lays g' 0 _ w) hH (Array.getElem?_eq_some_iff.1 hh).1 (by simp; omega)
      refine (show Calls Tryz.prog 20 (#[.slice (some ⟨g', 0, none⟩) cs.length cap] ++ #[.func (.func 21) #[] #[]]) w _ from hcall).mono fun en w' ⟨q1, d', m, os, hp, hs, hw⟩ => ?_
      have hd1 : d'.size = cs.length := by have := hp.1; simpa using this
      have hperm : d'.toList.Perm cs := by
        have h := hp.2.2
        simp only [List.size_toArray] at h
        rw [← hd1] at h
        have e1 : d'.extract 0 d'.size = d' := by simp
        have e2 : cs.toArray.extract 0 d'.size = cs.toArray := by rw [hd1]; simp
        rw [e1, e2] at h
        simpa using h
      have hout : d'.toList = sort14F cs := by
        refine sort14_of hn hperm fun i j x y hij hx hy => ?_
        obtain ⟨hi, ex⟩ := List.getElem?_eq_some_iff.1 hx
        obtain ⟨hj, ey⟩ := List.getElem?_eq_some_iff.1 hy
        simp only [Array.length_toList] at hi hj
        have h := hs i j (Nat.zero_le _) hij (by simp; omega)
        rw [lt_before, getElem!_pos d' j hj, getElem!_pos d' i hi] at h
        rw [← ex, ← ey]
        simpa using h
      have hfl2 := flatK_flat encC 5 cmdV (fun _ => rfl) (fun x => cmd_elt [x] _ (by simp)) d'
      have hfs2 : (Sort.flatK encC 5 d').size = cs.length * 5 := by simp [hd1]
      obtain ⟨p1, p2⟩ := put_heap w m g' (Sort.flatK encC 5 d') os hh
      obtain ⟨t1, t2⟩ := putCells_take (Sort.flatK encC 5 d') cur (by rw [hfs2, hc3]; exact Nat.mul_le_mul_right 5 hc1)
      refine ⟨(sort14F cs).map cmdV, .tuple #[], q1, ⟨rfl, rfl⟩, ?_, hel _, .inr ⟨g', cur, Sort.putCells id 0 (Sort.flatK encC 5 d') cur, hg, hh, ?_, t1, ?_, ?_⟩⟩
      · rw [List.length_map, List.length_map, ← hout, Array.length_toList, hd1]
      · rw [hw]; exact p1
      · rw [List.length_map, hcel, ← hfs2, t2, hfl2, hout]
      · rw [hw]; exact p2

end Go.Proofs.YtellipmolheaaaaGreatDoor
