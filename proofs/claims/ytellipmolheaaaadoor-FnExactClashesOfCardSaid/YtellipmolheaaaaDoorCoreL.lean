import Derived.Test.YtellipmolheaaaaDoorCoreD
import Derived.Laws.MakeOwn
import Derived.Laws.OwnMore
set_option linter.unusedSimpArgs false
namespace Go.Proofs.YtellipmolheaaaaDoor
open Go Go.RowKit

/-! ## a row of one value made -/

section
variable {X : Ctx} {g : Gh} {σ : AState} {a : Act} {w : World}

def makeZ (P : Program) (σ : AState) (o : Oper) (K : AState → Prop) : Prop :=
  ∃ (t : TypeId) (x : Operand) (d : Nat) (e : TypeId) (k by' n : Nat) (z : Value), o.op = .makeSlice t x x ∧ o.dst = some d ∧ o.guard = none ∧ elemT P t = some (e, k, by') ∧ (P.info? e).bind (·.zero) = some z ∧
    0 < k ∧ z.cells.size = k ∧ EltOk k z ∧ k ≤ 1000 ∧
    σ.val x = .v (.int .i64 (n : Nat)) ∧ σ.va x = true ∧ n ≤ 2000000 ∧ by' ≤ 1000 ∧ K ((σ.map (AV.kill2 none d)).put (some d) (.own d e (List.replicate n z)))

theorem made_at (z : Value) (hz : 0 < z.cells.size) : ∀ (n i : Nat), i < n * z.cells.size → (flat (List.replicate n z))[i]? = some (z.cells[i % z.cells.size]!)
  | 0, i, h => by simp at h
  | n + 1, i, h => by
    have e : flat (List.replicate (n + 1) z) = z.cells.toList ++ flat (List.replicate n z) := by
      rw [List.replicate_succ, flat, List.flatMap_cons]
      rfl
    rw [e]
    by_cases hi : i < z.cells.size
    · rw [List.getElem?_append_left (by simpa using hi), Nat.mod_eq_of_lt hi]
      simp [hi]
    · rw [List.getElem?_append_right (by simpa using hi), Nat.mod_eq_sub_mod (by omega)]
      have := made_at z hz n (i - z.cells.size) (by rw [Nat.add_mul, Nat.one_mul] at h; omega)
      simpa using this

theorem made_flat (z : Value) (hz : 0 < z.cells.size) (n : Nat) : (madeCells z.cells (n * z.cells.size)).toList = flat (List.replicate n z) := by
  apply List.ext_getElem?
  intro i
  by_cases hi : i < n * z.cells.size
  · rw [made_at z hz n i hi]
    simp [madeCells, hi]
  · have hl : (flat (List.replicate n z)).length = n * z.cells.size := by
      simp [flat]
    rw [List.getElem?_eq_none (by simp [madeCells]; omega), List.getElem?_eq_none (by rw [hl]; omega)]

theorem makeZ_sound {ops : Array Oper} {o : Oper} {K : AState → Prop} {K' : Act → World → Prop} {Q : Exit → Act → World → Prop} (h : Rep X g σ a w) (hd : dstOk X.N o.dst = true) (hs : makeZ X.P σ o K)
    (hK : ∀ σ' g' a' w', K σ' → Rep X g' σ' a' w' → K' a' w') :
    if Region.wanted o (yielded ops a.tmps) = true then o.wp X.P a w K' Q else K' (a.put o.dst undef) w := by
  obtain ⟨t, x, d, e, k, by', n, z0, ho, hdst, hg, hT, hz0, hk0, hzk, hzE, hk1, hx, hva, hn, hby0, hk⟩ := hs
  rw [if_pos (wanted_none hg)]
  obtain ⟨i, z, ht, hi, hz, hsz, hby, hzs, hkp, hcell, _⟩ := elemT_spec hT
  have hzz : z = z0 := by
    rw [hi] at hz0
    simp only [Option.bind_some] at hz0
    rw [hz] at hz0
    exact Option.some.inj hz0
  subst hzz
  have hv := h.val hva
  rw [hx] at hv
  simp only [RepV] at hv
  have hbytes : (i.bytes : Int) * (n : Int) ≤ 281474976710656 := by
    have : i.bytes * n ≤ 1000 * 2000000 := Nat.mul_le_mul (by omega) hn
    have h2 : ((i.bytes * n : Nat) : Int) ≤ 281474976710656 := by omega
    rwa [Int.natCast_mul] at h2
  have hrun : (execOp a.eval o).run X.P w = .ok (.value (.slice (some ⟨w.heap.size, 0, none⟩) n n)) (w.alloc (.cells (madeCells z.cells (n * k)) e)) := by
    obtain ⟨dst, op, type, pos, after, guard⟩ := o
    simp only at ho; subst ho
    refine run_v' (s := Instr.makeSlice t (a.eval x) (a.eval x)) ?_
    rw [hv]
    have := run_make (P := X.P) w t e i z ht hi hz .i64 .i64 n n (by omega) (Int.le_refl _) hbytes (by omega)
    rw [hsz] at this
    simpa using this
  unfold Oper.wp
  rw [hrun, Oper.upon_value, hdst]
  have hd' : slotOk X.N d = true := by rw [hdst] at hd; simpa [dstOk] using hd
  have hst : Step (fun _ => False) w (w.alloc (.cells (madeCells z.cells (n * k)) e)) := ⟨rfl, rfl, rfl, by simp, fun b hb _ => Below.heap_alloc w _ b hb⟩
  obtain ⟨g', hrep⟩ := h.row (i := none) (d := d) (e := e) (m := σ.rd) hd' (v := .slice (some ⟨w.heap.size, 0, none⟩) n n) (vs := List.replicate n z) hst (fun _ hc => hc.elim)
    (fun β hβ => by
      obtain ⟨⟨p, ty, h6, h7⟩, h8, h9⟩ := h.rd β hβ
      exact ⟨⟨p, ty, (hst.block β (Array.getElem?_eq_some_iff.1 h6).1 fun hc => hc).trans h6, h7⟩, h8.step hst (fun _ _ hf => hf) (fun _ _ hc => hc.elim), h9⟩)
    (fun y hy => by
      obtain ⟨_, rfl⟩ := List.mem_replicate.1 hy
      rw [hcell]
      exact hzE)
    (.inr ⟨w.heap.size, rfl, .inr (Nat.le_refl _), by simp, by
      have hs2 : (madeCells z.cells (n * k)).size = n * k := size_madeCells _ _
      rw [hcell, List.length_replicate, ← made_flat z (by omega) n, hzk]
      exact World.ownsRow_lit w _ n (Nat.le_refl _) (by unfold maxLen; omega) hs2⟩)
  exact hK _ _ _ _ hk hrep

theorem aXs_makeZ_sound {ops : Array Oper} {o : Oper} {post : List Oper} {K : AState → Prop} {Q' : Exit → Act → World → Prop} (hd0 : dstOk X.N o.dst = true) (hd2 : ∀ o ∈ post, dstOk X.N o.dst = true)
    (hK : ∀ σ' g' a' w', K σ' → Rep X g' σ' a' w' → Q' .normal a' w') : ∀ (pre : List Oper), (∀ o ∈ pre, dstOk X.N o.dst = true) →
    ∀ (g : Gh) (σ : AState) (a : Act) (w : World), Rep X g σ a w → aXs X.P ops (fun σ1 => makeZ X.P σ1 o (aXs X.P ops K post)) pre σ → wpList X.P ops Q' (pre ++ o :: post) a w
  | [], _, g, σ, a, w, h, hs => by
    have := makeZ_sound (ops := ops) (Q := Q') h hd0 hs (K' := wpList X.P ops Q' post) fun σ' g' a' w' hk hr => aXs_sound hK post hd2 g' σ' a' w' hr hk
    unfold wpList
    simp only [List.nil_append]
    by_cases hw : Region.wanted o (yielded ops a.tmps) = true
    · rw [if_pos hw] at this ⊢; exact .inl this
    · rw [if_neg hw] at this ⊢; exact this
  | p :: rest, hd, g, σ, a, w, h, hs => by
    have ih := aXs_makeZ_sound (ops := ops) hd0 hd2 hK rest fun o ho => hd o (List.mem_cons_of_mem _ ho)
    have := aX_sound (Q := Q') h (hd p List.mem_cons_self) hs (K' := wpList X.P ops Q' (rest ++ o :: post)) fun σ' g' a' w' hk hr => ih g' σ' a' w' hr hk
    rw [List.cons_append]
    unfold wpList
    by_cases hw : Region.wanted p (yielded ops a.tmps) = true
    · rw [if_pos hw] at this ⊢; exact .inl this
    · rw [if_neg hw] at this ⊢; exact this
end

/-- a region in which a row of zero values is made by its operation `n` -/
theorem awp_makeZ {X : Ctx} {Q : Exit → AState → Prop} {σ : AState} {P : Program} {N : Nat} {id : Nat} {l : List Oper} {o : Oper} (hP : X.P = P) (hN : X.N = N) (n : Nat) (ho : l[n]? = some o) (hd : dstsOk N l = true)
    (h : aXs P l.toArray (fun σ1 => makeZ P σ1 o (aXs P l.toArray (Q .normal) (l.drop (n + 1)))) (l.take n) σ) : AWp X (.region id l.toArray false) Q σ := fun g a w hr => by
  subst hP; subst hN
  have hl : l.take n ++ o :: l.drop (n + 1) = l := by
    obtain ⟨hlt, he⟩ := List.getElem?_eq_some_iff.1 ho
    rw [← he, List.getElem_cons_drop hlt, List.take_append_drop]
  have := aXs_makeZ_sound (ops := l.toArray) (o := o) (post := l.drop (n + 1)) (K := Q .normal) (Q' := Lift X Q) (dstsOk_spec hd o (List.mem_of_getElem? ho)) (fun o ho => dstsOk_spec hd o (List.mem_of_mem_drop ho))
    (fun σ' g' _ _ hk hr => ⟨σ', g', hk, hr⟩) (l.take n) (fun o ho => dstsOk_spec hd o (List.mem_of_mem_take ho)) g σ a w hr h
  rw [hl] at this
  exact wp_region_lit this

end Go.Proofs.YtellipmolheaaaaDoor
