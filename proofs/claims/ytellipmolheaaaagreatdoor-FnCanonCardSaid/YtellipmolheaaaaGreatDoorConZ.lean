import Derived.Test.YtellipmolheaaaaGreatDoorConI
import Derived.Shelf.RegionOpenPlain
import Derived.Shelf.Spec.SlicesInsert
import Derived.Lib.Overlaps
import Derived.Lib.AppendZerosOnto
import Derived.Laws.Externs
import Derived.Laws.IdiomCopy
import Derived.Lib.SliceRun
import Derived.Lib.JoinLaws
import Derived.Lib.AppendZeros
set_option linter.unusedVariables false
set_option linter.unusedSimpArgs false
set_option maxRecDepth 10000
namespace Go.Proofs.YtellipmolheaaaaGreatDoor
open Go Go.RowKit Go.Lib

/-! ### slices.Insert over nodes -/

theorem run_copy_rowK {P : Program} (w : World) (dT sT ty elem k : TypeId) (g o dLen dCap : Nat) (a : Addr) (sLen sCap m : Nat) (cur : Array Value) (t : TypeId) (cs : List Value)
    (hu : P.underlying dT = some (.slice elem)) (hs : (P.info? elem).map (·.size) = some k)
    (hg : w.heap[g]? = some (.cells cur t (0, 0))) (hm : m = Nat.min sLen dLen) (hn : cs.length = m * k)
    (hsrc : ∀ (j : Nat) v, cs[j]? = some v → w.cell? (a.add j) = some v) (hfit : o + cs.length ≤ cur.size) (h1 : ∀ v ∈ cs, v.oneCell' = true) :
    (Builtin.copy_ #[dT, sT] ty #[.slice (some ⟨g, o, none⟩) dLen dCap, .slice (some a) sLen sCap]).run P w =
      .ok (goInt m) (w.setRow g (cur.toList.take o ++ cs ++ cur.toList.drop (o + cs.length)).toArray) := by
  have hl := run_loadCells_list (P := P) w a cs hsrc
  have hst := run_storeCells_at P g o t cs 0 cur w hg (by simpa using hfit) h1
  cases hq : P.info? elem with
  | none => simp [hq] at hs
  | some i =>
    have hi : i.size = k := by simpa [hq] using hs
    simp [Builtin.copy_, run_underlying hu, Builtin.lenOf, Builtin.firstCells, sizeOf, typeInfo, hq, hi, ← hm, ← hn, hl, hst]

/-- slices.overlaps at two blocks, the second of which is plain memory -/
theorem run_overlaps2 {P : Program} (w : World) (tS tR e : TypeId) (ht : P.underlying tS = some (.slice e)) (size : Nat) (hz : ∀ w, (Go.sizeOf e).run P w = .ok size w)
    (a b : Addr) (la ca lb cb : Nat) (hne : a.block ≠ b.block) (tA tB : TypeId) (kA kB : Nat)
    (hsa : w.shape? a.block = some (tA, kA)) (hsb : w.shape? b.block = some (tB, kB)) (hkB : kB ≠ 0) (hkA : kA ≠ 0)
    (hfb : w.frozen? b = false) (hfe : w.frozen? { block := b.block, off := kB } = false) :
    (Extern.SlicesOverlaps.overlaps #[tS, tS] #[tR] #[.slice (some a) la ca, .slice (some b) lb cb]).run P w = .ok (.bool false) w := by
  have hnb : (a.block != b.block) = true := by simpa using hne
  have hnb' : (a.block == b.block) = false := by simpa using hne
  have hu : (underlying tS).run P w = .ok (.slice e) w := run_underlying ht w
  obtain ⟨kA, rfl⟩ : ∃ k, kA = k + 1 := ⟨kA - 1, by omega⟩
  cases kB with
  | zero => exact absurd rfl hkB
  | succ kB =>
    delta Extern.SlicesOverlaps.overlaps
    conv =>
      lhs
      arg 2
      whnf
    have hb : ∀ (x : Program → Sem TypeDesc) (k : TypeDesc → Sem Value), (Sem.program fun p => (x p).bind k) = (Sem.program x) >>= k := fun x k => rfl
    rw [hb]
    rw [Sem.run_bind]
    show ((underlying tS).run P w).andThen _ = _
    rw [hu, Result.andThen_ok]
    by_cases h0 : la = 0 ∨ lb = 0 ∨ size = 0
    · simp [hz, h0]
    · cases hfa : w.frozen? a <;> cases hfa2 : w.frozen? { block := a.block, off := kA + 1 } <;>
        simp [hz, h0, hnb, hnb', frozen, noView, viewAt, mayBeOne, stringish, shape, Sem.run, hsa, hsb, hfa, hfa2, hfb, hfe]

/-- there is room: in place -/
theorem insert_shift (g n cap i vb voff vc : Nat) (cur : Array Value) (cs xs : List Value) (w : World) (hi : i < n) (hroom : n + 1 ≤ cap) (hc63 : cap ≤ 9223372036854775807) (hvb : vb ≠ g)
    (hg : w.heap[g]? = some (.cells cur 48 (0, 0))) (hsz : cur.size = cap * 3) (hcs : cs = cur.toList.take (n * 3)) (hxl : xs.length = 3)
    (hvs : ∀ (j : Nat) v, xs[j]? = some v → w.cell? ⟨vb, voff + j, none⟩ = some v) (h1c : ∀ v ∈ cs, v.oneCell' = true) (h1v : ∀ v ∈ xs, v.oneCell' = true)
    (tA : TypeId) (kA : Nat) (hsa : w.shape? vb = some (tA, kA)) (hkA : kA ≠ 0) :
    Calls Tryz.prog 93 #[.slice (some ⟨g, 0, none⟩) n cap, .int .i64 i, .slice (some ⟨vb, voff, none⟩) 1 vc] w fun e w' =>
      e = .returned (.slice (some ⟨g, 0, none⟩) (n + 1) cap) ∧ ∃ cur2 : Array Value, w'.heap[g]? = some (.cells cur2 48 (0, 0)) ∧ cur2.size = cur.size ∧ cur2.toList.take ((n + 1) * 3) = cs.take (i * 3) ++ xs ++ cs.drop (i * 3) ∧ Step (fun b => b = g) w w' := by
  have hz2 : ¬ ((i : Int) = (n : Int)) := by omega
  have hw1 : IntKind.i64.wrap ((i : Int) + 1) = (i : Int) + 1 := by rw [IntKind.wrap_i64]; omega
  have hb1 : (0 : Int) ≤ (i : Int) + 1 := by omega
  have hin : i ≤ n := by omega
  have htn : ((i : Int) + 1).toNat = i + 1 := by omega
  have hb2 : ¬ (cap = i + 1) := by omega
  have hb3 : (i : Int) ≤ (n : Int) + 1 := by omega
  have hb4 : ¬ (cap = i) := by omega
  have hov : ∀ lb cb, (callFunc 99 #[.slice (some ⟨vb, voff, none⟩) 1 vc, .slice (some ⟨g, (i + 1) * 3, none⟩) lb cb]).run Tryz.prog w = .ok (.value (.bool false)) w := fun lb cb => by
    rw [run_callFunc_extern Tryz.func99 (by kernel_rfl) (by kernel_rfl) (by kernel_rfl) (e := Extern.SlicesOverlaps.overlaps #[23, 23] #[4]) (by kernel_rfl),
      run_overlaps2 w 23 4 48 (by kernel_rfl) 3 (fun w => by simp) ⟨vb, voff, none⟩ ⟨g, (i + 1) * 3, none⟩ 1 vc lb cb hvb tA 48 kA cur.size hsa (by simp [World.shape?, hg]) (by omega) hkA (by simp [World.frozen?, hg]) (by simp [World.frozen?, hg])]
    rfl
  have mixed : Tryz.prog.follows .mixedOrders = true := by kernel_rfl
  have hinf : (Tryz.prog.info? 48).map (·.size) = some 3 := by kernel_rfl
  have hu : Tryz.prog.underlying 23 = some (.slice 48) := by kernel_rfl
  have hcl : cs.length = n * 3 := by rw [hcs]; simp; omega
  have hdl : (cs.drop (i * 3)).length = (n - i) * 3 := by rw [List.length_drop, hcl]; omega
  have hcell : ∀ (o : Nat) v, cur.toList[o]? = some v → w.drew.cell? ⟨g, o, none⟩ = some v := fun o v ho => by
    have : w.drew.heap[g]? = some (.cells cur 48 (0, 0)) := hg
    simp only [World.cell?, this]
    simpa using ho
  obtain ⟨cur1, hcur1⟩ : ∃ cur1 : Array Value, cur1 = (cur.toList.take ((i + 1) * 3) ++ cs.drop (i * 3) ++ cur.toList.drop ((i + 1) * 3 + (cs.drop (i * 3)).length)).toArray := ⟨_, rfl⟩
  have hcp1 : ∀ ty dc sc, (Builtin.copy_ #[23, 23] ty #[.slice (some ⟨g, (i + 1) * 3, none⟩) (n - i) dc, .slice (some ⟨g, i * 3, none⟩) (n + 1 - i) sc]).run Tryz.prog w.drew = .ok (goInt ((n - i : Nat))) (w.drew.setRow g cur1) := fun ty dc sc => by
    rw [hcur1]
    exact run_copy_rowK w.drew _ _ ty 48 3 g ((i + 1) * 3) (n - i) dc ⟨g, i * 3, none⟩ (n + 1 - i) sc (n - i) cur 48 (cs.drop (i * 3)) hu hinf hg (by simp only [Nat.min_def]; split <;> omega) hdl
      (fun j v hj => by
        rw [Addr.add_mk]
        refine hcell _ v ?_
        rw [List.getElem?_drop, hcs, List.getElem?_take] at hj
        split at hj
        · exact hj
        · cases hj) (by omega) (fun v hv => h1c v (List.mem_of_mem_drop hv))
  have hg1 : (w.drew.setRow g cur1).heap[g]? = some (.cells cur1 48 (0, 0)) := setRow_heap w.drew g cur cur1 48 (0, 0) hg
  have hs1 : cur1.size = cur.size := by rw [hcur1]; simp; omega
  obtain ⟨cur2, hcur2⟩ : ∃ cur2 : Array Value, cur2 = (cur1.toList.take (i * 3) ++ xs ++ cur1.toList.drop (i * 3 + xs.length)).toArray := ⟨_, rfl⟩
  have hcp2 : ∀ ty dc, (Builtin.copy_ #[23, 23] ty #[.slice (some ⟨g, i * 3, none⟩) (n + 1 - i) dc, .slice (some ⟨vb, voff, none⟩) 1 vc]).run Tryz.prog (w.drew.setRow g cur1) = .ok (goInt 1) ((w.drew.setRow g cur1).setRow g cur2) := fun ty dc => by
    rw [hcur2]
    exact run_copy_rowK _ _ _ ty 48 3 g (i * 3) (n + 1 - i) dc ⟨vb, voff, none⟩ 1 vc 1 cur1 48 xs hu hinf hg1 (by simp only [Nat.min_def]; split <;> omega) (by omega)
      (fun j v hj => by
        rw [Addr.add_mk]
        have h := hvs j v hj
        simp only [World.cell?] at h ⊢
        rw [setRow_other w.drew g vb _ hvb]
        exact h) (by rw [hs1]; omega) h1v
  have hg2 : ((w.drew.setRow g cur1).setRow g cur2).heap[g]? = some (.cells cur2 48 (0, 0)) := setRow_heap _ g cur1 cur2 48 (0, 0) hg1
  obtain ⟨W1, hW1⟩ : ∃ W1, W1 = w.drew.setRow g cur1 := ⟨_, rfl⟩
  obtain ⟨W2, hW2⟩ : ∃ W2, W2 = W1.setRow g cur2 := ⟨_, rfl⟩
  have hst : Step (fun b => b = g) w W2 := by
    rw [hW2, hW1]
    have hsz0 : w.drew.heap.size = w.heap.size := rfl
    exact ⟨rfl, rfl, rfl, by simp only [World.setRow, Array.size_modify]; rw [hsz0]; exact Nat.le_refl _, fun y hy hne => by rw [setRow_other _ g y _ hne, setRow_other _ g y _ hne]; rfl⟩
  rw [← hW1] at hcp1 hcp2 hg2
  rw [← hW2] at hcp2 hg2
  have hs2 : cur2.size = cur.size := by rw [hcur2, ← hs1]; simp; omega
  have hfin : cur2.toList.take ((n + 1) * 3) = cs.take (i * 3) ++ xs ++ cs.drop (i * 3) := by
    have e0 : cur1.toList.take (i * 3) = cs.take (i * 3) := by
      rw [hcur1, hcs]
      simp only [List.append_assoc]
      rw [List.take_append_of_le_length (by simp; omega), List.take_take, List.take_take, Nat.min_eq_left (by omega), Nat.min_eq_left (by omega)]
    have e1 : cur1.toList.drop (i * 3 + 3) = cs.drop (i * 3) ++ cur.toList.drop ((i + 1) * 3 + (cs.drop (i * 3)).length) := by
      rw [hcur1]
      simp only [List.append_assoc]
      rw [List.drop_append_of_le_length (by simp; omega), List.drop_of_length_le (by simp; omega), List.nil_append]
    rw [hcur2, e0, hxl, e1]
    simp only [← List.append_assoc]
    apply List.take_left'
    simp only [List.length_append, List.length_take, hxl, hdl, hcl]
    omega
  clear hcur1 hcur2 hW1 hW2 hcs hcell hg1 hs1 hdl hcl
  go_enter Tryz.func93, Tryz.ntmps93
  go_wp2_with (simp only [hov])
  go_region_law_o (refine step_copy_runI rfl _ _ 23 23 rfl _ _ (by simp [Act.eval, Act.put]) (by simp [Act.eval, Act.put]) (hcp1 _ _ _) ?_)
  go_wp2_with (at_builtin; refine wpList_copy_runI _ rfl _ _ 23 23 rfl _ _ rfl rfl (hcp2 _ _) ?_)
  go_ret
  exact ⟨rfl, cur2, hg2, hs2, hfin, hst⟩

/-- there is no room: a new row -/
theorem insert_grow (g n cap i vb voff vc : Nat) (cur : Array Value) (cs xs : List Value) (w : World) (hi : i < n) (hnc : n ≤ cap) (hroom : cap < n + 1) (hbig : n ≤ 2000000)
    (hg : w.heap[g]? = some (.cells cur 48 (0, 0))) (hsz : cur.size = cap * 3) (hcs : cs = cur.toList.take (n * 3)) (hxl : xs.length = 3)
    (hvs : ∀ (j : Nat) v, xs[j]? = some v → w.cell? ⟨vb, voff + j, none⟩ = some v) (h1c : ∀ v ∈ cs, v.oneCell' = true) (h1v : ∀ v ∈ xs, v.oneCell' = true) :
    Calls Tryz.prog 93 #[.slice (some ⟨g, 0, none⟩) n cap, .int .i64 i, .slice (some ⟨vb, voff, none⟩) 1 vc] w fun e w' =>
      ∃ (G : Nat) (cur2 : Array Value), e = .returned (.slice (some ⟨w.heap.size, 0, none⟩) (n + 1) G) ∧ w'.heap[w.heap.size]? = some (.cells cur2 48 (0, 0)) ∧ n + 1 ≤ G ∧ G ≤ maxLen ∧ cur2.size = G * 3 ∧
        cur2.toList.take ((n + 1) * 3) = cs.take (i * 3) ++ xs ++ cs.drop (i * 3) ∧ Step (fun _ => False) w w' := by
  obtain ⟨inf, z, hu, hi0, hz0, hzs, hzb, hzz, _, _, hz1⟩ := elemT_spec (P := Tryz.prog) (t := 23) (e := 48) (k := 3) (by' := 32) (by kernel_rfl)
  have hui : Tryz.prog.underlying 3 = some (.int .i64) := by kernel_rfl
  have mixed : Tryz.prog.follows .mixedOrders = true := by kernel_rfl
  have hinf : (Tryz.prog.info? 48).map (·.size) = some 3 := by rw [hi0]; simp [hzs]
  have hcl : cs.length = n * 3 := by rw [hcs]; simp; omega
  have hdl : (cs.drop (i * 3)).length = (n - i) * 3 := by rw [List.length_drop, hcl]; omega
  have htl : (cs.take (i * 3)).length = i * 3 := by rw [List.length_take, hcl]; omega
  have hgl : g < w.heap.size := (Array.getElem?_eq_some_iff.1 hg).1
  have hvl : vb < w.heap.size := block_lt_of_cell (hvs 0 xs[0] (by simp [hxl]))
  have hcell : ∀ (o : Nat) v, cur.toList[o]? = some v → w.cell? ⟨g, o, none⟩ = some v := fun o v ho => by
    simp only [World.cell?, hg]
    simpa using ho
  have hcsc : ∀ (o : Nat) v, cs[o]? = some v → w.cell? ⟨g, o, none⟩ = some v := fun o v ho => by
    rw [hcs, List.getElem?_take] at ho
    split at ho
    · exact hcell o v ho
    · cases ho
  have hkk : (n : Int) + 1 - (i : Int) = ((n + 1 - i : Nat) : Int) := by omega
  have hik : i + (n + 1 - i) = n + 1 := by omega
  have hold : (Builtin.firstCells inf.size i (.slice (some ⟨g, 0, none⟩) i cap)).run Tryz.prog w.drew = .ok (cs.take (i * 3)).toArray w.drew := by
    rw [hzs]
    exact run_firstCells_some w.drew 3 i ⟨g, 0, none⟩ i cap (cs.take (i * 3)) htl (fun j v hj => by
      rw [Addr.add_mk, Nat.zero_add]
      rw [List.getElem?_take] at hj
      split at hj
      · exact hcsc j v hj
      · cases hj)
  have hrz : ∀ ty, (Builtin.append_ #[23, 3] ty #[.slice (some ⟨g, 0, none⟩) i cap, .int .i64 ((n : Int) + 1 - (i : Int))]).run Tryz.prog w =
      .ok (.slice (some ⟨w.heap.size, 0, none⟩) (n + 1) (grownCap w (n + 1) cap 48)) (w.drew.alloc (.cells ((cs.take (i * 3)).toArray ++ Builtin.zeroCells z.cells (n + 1 - i) ++ Builtin.zeroCells z.cells (grownCap w (n + 1) cap 48 - (n + 1))) 48)) := fun ty => by
    have h := Lib.run_append_grow_zeros w 23 3 ty 48 inf z .i64 .i64 hu hui hi0 hz0 (some ⟨g, 0, none⟩) i cap (cs.take (i * 3)) hold (n + 1 - i) (by omega) (by omega) (by omega) (by omega) (by rw [hzb]; omega) (by rw [hzb, hik]; exact growslice_fits hroom (by omega))
    rw [hik] at h
    rw [hkk]
    exact h
  have hGn : n + 1 ≤ grownCap w (n + 1) cap 48 := grownCap_ge w _ _ _
  have hGm : grownCap w (n + 1) cap 48 ≤ maxLen := grownCap_le_maxLen w (n + 1) cap 48 (by unfold maxLen; omega)
  generalize grownCap w (n + 1) cap 48 = G at hrz hGn hGm
  obtain ⟨ROW, hROW⟩ : ∃ ROW : Array Value, ROW = (cs.take (i * 3)).toArray ++ Builtin.zeroCells z.cells (n + 1 - i) ++ Builtin.zeroCells z.cells (G - (n + 1)) := ⟨_, rfl⟩
  rw [← hROW] at hrz
  have hRl : ROW.size = G * 3 := by
    rw [hROW]
    simp [Builtin.zeroCells, hzz, htl]
    omega
  have hRt : ROW.toList.take (i * 3) = cs.take (i * 3) := by
    rw [hROW]
    simp only [Array.toList_append, List.append_assoc]
    apply List.take_left'
    simp only [List.length_take, hcl]
    omega
  obtain ⟨W1, hW1⟩ : ∃ W1, W1 = w.drew.alloc (.cells ROW 48) := ⟨_, rfl⟩
  rw [← hW1] at hrz
  have hN1 : W1.heap[w.heap.size]? = some (.cells ROW 48 (0, 0)) := by rw [hW1]; exact Go.heap_alloc_new w.drew _
  have hold1 : ∀ b, b < w.heap.size → W1.heap[b]? = w.heap[b]? := fun b hb => by rw [hW1]; exact Below.heap_alloc w.drew _ b hb
  obtain ⟨cur1, hcur1⟩ : ∃ cur1 : Array Value, cur1 = (ROW.toList.take (i * 3) ++ xs ++ ROW.toList.drop (i * 3 + xs.length)).toArray := ⟨_, rfl⟩
  obtain ⟨W2, hW2⟩ : ∃ W2, W2 = W1.setRow w.heap.size cur1 := ⟨_, rfl⟩
  have hcpA : ∀ ty dc, (Builtin.copy_ #[23, 23] ty #[.slice (some ⟨w.heap.size, i * 3, none⟩) (n + 1 - i) dc, .slice (some ⟨vb, voff, none⟩) 1 vc]).run Tryz.prog W1 = .ok (goInt 1) W2 := fun ty dc => by
    rw [hW2, hcur1]
    exact run_copy_rowK _ _ _ ty 48 3 w.heap.size (i * 3) (n + 1 - i) dc ⟨vb, voff, none⟩ 1 vc 1 ROW 48 xs hu hinf hN1 (by simp only [Nat.min_def]; split <;> omega) (by omega)
      (fun j v hj => by
        rw [Addr.add_mk]
        have h := hvs j v hj
        simp only [World.cell?] at h ⊢
        rw [hold1 vb hvl]
        exact h) (by omega) h1v
  have hN2 : W2.heap[w.heap.size]? = some (.cells cur1 48 (0, 0)) := by rw [hW2]; exact setRow_heap W1 w.heap.size ROW cur1 48 (0, 0) hN1
  have hs1 : cur1.size = ROW.size := by rw [hcur1]; simp; omega
  have hold2 : ∀ b, b < w.heap.size → W2.heap[b]? = w.heap[b]? := fun b hb => by rw [hW2, setRow_other W1 w.heap.size b _ (by omega)]; exact hold1 b hb
  obtain ⟨cur2, hcur2⟩ : ∃ cur2 : Array Value, cur2 = (cur1.toList.take ((i + 1) * 3) ++ cs.drop (i * 3) ++ cur1.toList.drop ((i + 1) * 3 + (cs.drop (i * 3)).length)).toArray := ⟨_, rfl⟩
  obtain ⟨W3, hW3⟩ : ∃ W3, W3 = W2.drew.setRow w.heap.size cur2 := ⟨_, rfl⟩
  have hcpB : ∀ ty dc sc, (Builtin.copy_ #[23, 23] ty #[.slice (some ⟨w.heap.size, (i + 1) * 3, none⟩) (n - i) dc, .slice (some ⟨g, i * 3, none⟩) (n - i) sc]).run Tryz.prog W2.drew = .ok (goInt ((n - i : Nat))) W3 := fun ty dc sc => by
    rw [hW3, hcur2]
    exact run_copy_rowK W2.drew _ _ ty 48 3 w.heap.size ((i + 1) * 3) (n - i) dc ⟨g, i * 3, none⟩ (n - i) sc (n - i) cur1 48 (cs.drop (i * 3)) hu hinf hN2 (by simp only [Nat.min_def]; split <;> omega) hdl
      (fun j v hj => by
        rw [Addr.add_mk]
        rw [List.getElem?_drop] at hj
        have h := hcsc _ v hj
        have h2 : W2.drew.heap[g]? = w.heap[g]? := hold2 g hgl
        simp only [World.cell?] at h ⊢
        rw [h2]
        exact h) (by omega) (fun v hv => h1c v (List.mem_of_mem_drop hv))
  have hN3 : W3.heap[w.heap.size]? = some (.cells cur2 48 (0, 0)) := by rw [hW3]; exact setRow_heap W2.drew w.heap.size cur1 cur2 48 (0, 0) hN2
  have hs2 : cur2.size = G * 3 := by rw [hcur2, ← hRl, ← hs1]; simp; omega
  have hst : Step (fun _ => False) w W3 := by
    have e1 : W1.heap.size = w.heap.size + 1 := by rw [hW1]; simp
    have e2 : W3.heap.size = W1.heap.size := by
      rw [hW3]
      simp only [World.setRow, Array.size_modify]
      show W2.heap.size = _
      rw [hW2]
      simp only [World.setRow, Array.size_modify]
    refine ⟨by rw [hW3, hW2, hW1]; rfl, by rw [hW3, hW2, hW1]; rfl, by rw [hW3, hW2, hW1]; rfl, by omega, fun y hy _ => ?_⟩
    rw [hW3, setRow_other _ w.heap.size y _ (by omega)]
    exact hold2 y hy
  have hfin : cur2.toList.take ((n + 1) * 3) = cs.take (i * 3) ++ xs ++ cs.drop (i * 3) := by
    have e0 : cur1.toList.take ((i + 1) * 3) = cs.take (i * 3) ++ xs := by
      rw [hcur1, hRt]
      apply List.take_left'
      simp only [List.length_append, htl, hxl]
      omega
    rw [hcur2, e0]
    apply List.take_left'
    simp only [List.length_append, htl, hxl, hdl]
    omega
  have hw1 : IntKind.i64.wrap ((i : Int) + 1) = (i : Int) + 1 := by rw [IntKind.wrap_i64]; omega
  have hb1 : (0 : Int) ≤ (i : Int) + 1 := by omega
  have hin : i ≤ n := by omega
  have htn : ((i : Int) + 1).toNat = i + 1 := by omega
  have hG63 : G ≤ 9223372036854775807 := by unfold maxLen at hGm; omega
  have hz2 : ¬ ((i : Int) = (n : Int)) := by omega
  have hz3 : (cap : Int) < (n : Int) + 1 := by omega
  have hGi : ¬ (G = i) := by omega
  have hGim : ¬ (G = i + 1) := by omega
  have hci : ¬ (cap = i) := by omega
  have hb3 : (i : Int) ≤ (n : Int) := by omega
  clear hcur1 hcur2 hW1 hW2 hW3 hcs hcell hcsc hs1 hdl hcl htl hold hold1 hold2 hN1 hN2 hRl hRt hROW hkk hik
  go_enter Tryz.func93, Tryz.ntmps93
  go_wp2_with (first
    | (at_builtin; refine Lib.wpList_append_run _ rfl _ _ _ _ rfl _ _ rfl rfl _ _ (hrz _) ?_)
    | (at_builtin; refine wpList_copy_runI _ rfl _ _ 23 23 rfl _ _ rfl rfl (hcpA _ _) ?_))
  go_region_law_o (refine step_copy_runI rfl _ _ 23 23 rfl _ _ (by simp [Act.eval, Act.put]) (by simp [Act.eval, Act.put]) (hcpB _ _ _) ?_)
  go_wp2
  go_ret
  exact ⟨G, cur2, rfl, hN3, hGn, hGm, hs2, hfin, hst⟩

/-- at the end -/
theorem insert_end (n : Nat) (xv : Value) (vb voff vc : Nat) (w : World) (vs ys : List Value) (o : Option Nat) (F : Nat → Prop) (hn : vs.length = n) (hbig : n ≤ 2000000) (hy : ys.length = 1)
    (hx : OwnR Tryz.prog (fun _ => o) w 0 48 xv vs) (hyv : Sl F w (.slice (some ⟨vb, voff, none⟩) 1 vc) 3 ys) (Q : Value → World → Prop)
    (hQ : ∀ v' w', Step (fun b => o = some b) w w' → (∀ y ∈ vs ++ ys, EltOk 3 y) →
      ((v' = .slice none 0 0 ∧ vs ++ ys = []) ∨ ∃ g', v'.ownBlock = some g' ∧ (o = some g' ∨ w.heap.size ≤ g') ∧ g' < w'.heap.size ∧ w'.ownsRow g' 48 3 v' (vs ++ ys).length (flat (vs ++ ys))) → Q v' w') :
    Calls Tryz.prog 93 #[xv, .int .i64 n, .slice (some ⟨vb, voff, none⟩) 1 vc] w fun e w' => ∃ v' : Value, e = .returned v' ∧ Q v' w' := by
  have hT : elemT Tryz.prog 23 = some (48, 3, 32) := by kernel_rfl
  obtain ⟨v', w', hrun, h1, h2, h3⟩ := append_run (ty := 23) hT hx hyv (by omega) (by omega)
  have hq := hQ v' w' h1 h2 h3
  have mixed : Tryz.prog.follows .mixedOrders = true := by kernel_rfl
  clear hQ h1 h2 h3 hyv
  obtain ⟨_, hr⟩ := hx
  rcases hr with ⟨rfl, rfl⟩ | ⟨g, _, hob, hrow⟩
  · simp only [List.length_nil] at hn
    subst hn
    go_enter Tryz.func93, Tryz.ntmps93
    go_wp2_with (at_builtin; refine Lib.wpList_append_run _ rfl _ _ _ _ rfl _ _ rfl rfl _ _ hrun ?_)
    go_ret
    exact ⟨v', rfl, hq⟩
  · rcases hrow.2 with ⟨rfl, _⟩ | ⟨g', cap, cur, hxe, _, hg2, hc1, hc2, _⟩
    · simp [Value.ownBlock] at hob
    rw [hn] at hc1 hxe
    subst hxe
    have hc63 : cap ≤ 9223372036854775807 := by unfold maxLen at hc2; omega
    clear hrow hob
    go_enter Tryz.func93, Tryz.ntmps93
    go_wp2_with (at_builtin; refine Lib.wpList_append_run _ rfl _ _ _ _ rfl _ _ rfl rfl _ _ hrun ?_)
    all_goals
      go_ret
      exact ⟨v', rfl, hq⟩

theorem flat_cut {k : Nat} {vs : List Value} (h : ∀ y ∈ vs, EltOk k y) {i : Nat} (hi : i ≤ vs.length) : flat (vs.take i) = (flat vs).take (i * k) ∧ flat (vs.drop i) = (flat vs).drop (i * k) := by
  have e : flat vs = flat (vs.take i) ++ flat (vs.drop i) := by rw [← flat_append, List.take_append_drop]
  have hl : (flat (vs.take i)).length = i * k := by rw [flat_length _ fun y hy => h y (List.mem_of_mem_take hy), List.length_take, Nat.min_eq_left hi]
  rw [e]
  exact ⟨by rw [← hl, List.take_left], by rw [← hl, List.drop_left]⟩

/-- slices.Insert of one node -/
theorem insNod_c (t : List Nod) (x : Nod) (i : Nat) (hi : i ≤ t.length) (hl : t.length ≤ 2000000) :
    HCalls Tryz.prog 93 48 (t.map nodV) [.v (.int .i64 (i : Nat)), .sl 3 [nodV x]] (fun vs' => vs' = (t.take i ++ x :: t.drop i).map nodV) := by
  refine ⟨⟨_, Tryz.func93, by kernel_rfl, rfl⟩, fun w F o xv vals h1 h2 h3 h4 => ?_⟩
  obtain ⟨y0, hy0, rfl⟩ := h4.2 0 _ rfl
  obtain ⟨y1, hy1, hsl⟩ := h4.2 1 _ rfl
  have hv : vals = #[.int .i64 (i : Nat), y1] := by
    have hs := h4.1
    simp only [List.length_cons, List.length_nil] at hs
    apply Array.ext (by simpa using hs)
    intro j hj hj'
    match j with
    | 0 => simpa using (Array.getElem?_eq_some_iff.1 hy0).2
    | 1 => simpa using (Array.getElem?_eq_some_iff.1 hy1).2
    | _ + 2 => simp at hj'; omega
  subst hv
  clear h4 hy0 hy1
  have hsl0 := hsl
  obtain ⟨ya, vc, rfl, q1, q2, q3, q4⟩ := hsl
  rcases q4 with q4 | ⟨vb, voff, rfl, q5, q6, q7⟩
  · cases q4
  simp only [List.length_singleton] at q1 hsl0 ⊢
  have hcel : Tryz.prog.cellsOf 48 = 3 := by kernel_rfl
  have hxo : EltOk 3 (nodV x) := q3 _ List.mem_cons_self
  have hres : ∀ y ∈ (t.take i ++ x :: t.drop i).map nodV, EltOk (Tryz.prog.cellsOf 48) y := by rw [hcel]; exact nod_elt _
  have hmap : (t.take i ++ x :: t.drop i).map nodV = (t.map nodV).take i ++ nodV x :: (t.map nodV).drop i := by simp
  rcases Nat.lt_or_ge i t.length with hlt | hge
  · -- ahead of the end
    obtain ⟨hel, hr⟩ := h3
    rcases hr with ⟨_, h0⟩ | ⟨g, hg, hob, hrow⟩
    · rw [List.map_eq_nil_iff] at h0
      subst h0
      simp at hlt
    rcases hrow.2 with ⟨rfl, _⟩ | ⟨g', cap, cur, rfl, _, hg2, hc1, hc2, hc3, hc4⟩
    · simp [Value.ownBlock] at hob
    have hgg : g' = g := by simpa [Value.ownBlock] using hob
    subst hgg
    rw [hcel] at hc3 hc4
    have hel3 : ∀ y ∈ t.map nodV, EltOk 3 y := nod_elt t
    have hlen : (t.map nodV).length = t.length := List.length_map _
    obtain ⟨f1, f2⟩ := flat_cut hel3 (i := i) (by rw [hlen]; omega)
    have hfx : flat [nodV x] = (nodV x).cells.toList := by simp [flat]
    have hxl : (nodV x).cells.toList.length = 3 := by rw [Array.length_toList]; exact hxo.1
    have hvs : ∀ (j : Nat) v, (nodV x).cells.toList[j]? = some v → w.cell? ⟨vb, voff + j, none⟩ = some v := fun j v hj => q7 j v (by rw [hfx]; exact hj)
    have hne : vb ≠ g' := fun e => q5 (.inr (by rw [e]; exact hg))
    have h1c : ∀ v ∈ flat (t.map nodV), v.oneCell' = true := flat_one hel3
    have hflat : flat ((t.take i ++ x :: t.drop i).map nodV) = (flat (t.map nodV)).take (i * 3) ++ (nodV x).cells.toList ++ (flat (t.map nodV)).drop (i * 3) := by
      rw [hmap, flat_append, f1, show nodV x :: (t.map nodV).drop i = [nodV x] ++ (t.map nodV).drop i from rfl, flat_append, f2, hfx, List.append_assoc]
    have hrl : ((t.take i ++ x :: t.drop i).map nodV).length = t.length + 1 := by simp; omega
    have hfl : (flat ((t.take i ++ x :: t.drop i).map nodV)).length = (t.length + 1) * 3 := by rw [flat_length _ (nod_elt _), hrl]
    rw [hlen] at hc1 hc4 ⊢
    rcases Nat.lt_or_ge cap (t.length + 1) with hno | hroom
    · refine (insert_grow g' t.length cap i vb voff vc cur (flat (t.map nodV)) (nodV x).cells.toList w hlt hc1 hno hl hg2 hc3 hc4.symm hxl hvs h1c hxo.2).mono fun e w' ⟨G, cur2, k1, k2, k3, k4, k5, k6, k7⟩ => ?_
      refine ⟨_, _, k1, rfl, hres, .inr ⟨w.heap.size, .inr (Nat.le_refl _), rfl, ?_⟩, k7.mono fun _ _ hc => hc.elim⟩
      rw [hrl, hcel]
      exact ⟨hfl, .inr ⟨w.heap.size, G, cur2, rfl, Nat.le_refl _, k2, k3, k4, k5, by rw [k6, hflat]⟩⟩
    · obtain ⟨c0, hc0⟩ : ∃ c0, (nodV x).cells.toList[0]? = some c0 := ⟨_, List.getElem?_eq_getElem (by omega)⟩
      have hcell0 := hvs 0 c0 hc0
      obtain ⟨tA, kA, hsh, hkA⟩ : ∃ tA kA, w.shape? vb = some (tA, kA) ∧ kA ≠ 0 := by
        unfold World.cell? at hcell0
        unfold World.shape?
        simp only at hcell0 ⊢
        split at hcell0
        · rename_i c ty fz hh
          refine ⟨ty, c.size, rfl, fun h0 => ?_⟩
          simp [h0] at hcell0
        · cases hcell0
      refine (insert_shift g' t.length cap i vb voff vc cur (flat (t.map nodV)) (nodV x).cells.toList w hlt hroom (by unfold maxLen at hc2; omega) hne hg2 hc3 hc4.symm hxl hvs h1c hxo.2 tA kA hsh hkA).mono fun e w' ⟨k1, cur2, k2, k3, k4, k5⟩ => ?_
      refine ⟨_, _, k1, rfl, hres, .inr ⟨g', .inl hg, rfl, ?_⟩, k5.mono fun b _ hb => by rw [hb]; exact hg⟩
      rw [hrl, hcel]
      exact ⟨hfl, .inr ⟨g', cap, cur2, rfl, Nat.le_refl _, k2, by omega, hc2, by rw [k3, hc3], by rw [k4, hflat]⟩⟩
  · -- at the end
    have hin : i = t.length := by omega
    subst hin
    refine (insert_end t.length xv vb voff vc w (t.map nodV) [nodV x] o _ (by simp) hl rfl h3 hsl0 (fun v' w' => (∃ vs' : List Value, vs' = (t.take t.length ++ x :: t.drop t.length).map nodV ∧ (∀ y ∈ vs', EltOk (Tryz.prog.cellsOf 48) y) ∧
      ((v' = .slice none 0 0 ∧ vs' = []) ∨ ∃ g, (o = some g ∨ w.heap.size ≤ g) ∧ v'.ownBlock = some g ∧ w'.ownsRow g 48 (Tryz.prog.cellsOf 48) v' vs'.length (flat vs')) ∧ Step (fun b => o = some b) w w')) fun v' w' k1 k2 k3 => ?_).mono fun e w' ⟨v', he, vs', k⟩ => ⟨v', vs', he, k⟩
    have e1 : (t.take t.length ++ x :: t.drop t.length).map nodV = t.map nodV ++ [nodV x] := by simp
    refine ⟨_, rfl, hres, ?_, k1⟩
    rw [e1, hcel]
    exact k3.imp id fun ⟨g, r1, r2, r3, r4⟩ => ⟨g, r2, r1, r4⟩

end Go.Proofs.YtellipmolheaaaaGreatDoor
