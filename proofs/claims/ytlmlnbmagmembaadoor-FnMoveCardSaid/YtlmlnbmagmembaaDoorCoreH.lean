import Derived.Test.YtlmlnbmagmembaaDoorCoreD
import Derived.Laws.BytesString
set_option linter.unusedSimpArgs false
namespace Go.Proofs.YtlmlnbmagmembaaDoor
open Go Go.RowKit

/-! ## a text of one byte -/

section
variable {X : Ctx} {g : Gh} {σ : AState} {a : Act} {w : World}

def strX (P : Program) (σ : AState) (o : Oper) (K : AState → Prop) : Prop :=
  ∃ (src dst : TypeId) (x : Operand) (d d' e : Nat) (n : Int), o.op = .convert src dst x ∧ o.dst = some d ∧ o.guard = none ∧ P.underlying src = some (.slice e) ∧ P.underlying e = some (.int .u8) ∧ P.underlying dst = some .string ∧ P.cellsOf e = 1 ∧
    σ.val x = .own d' e [.int .u8 n] ∧ σ.va x = true ∧ K (σ.put (some d) (.v (.string ⟨⟨[UInt8.ofNat n.toNat]⟩⟩)))

theorem strX_sound {ops : Array Oper} {o : Oper} {K : AState → Prop} {K' : Act → World → Prop} {Q : Exit → Act → World → Prop} (h : Rep X g σ a w) (hd : dstOk X.N o.dst = true) (hs : strX X.P σ o K)
    (hK : ∀ σ' g' a' w', K σ' → Rep X g' σ' a' w' → K' a' w') :
    if Region.wanted o (yielded ops a.tmps) = true then o.wp X.P a w K' Q else K' (a.put o.dst undef) w := by
  obtain ⟨src, dst, x, d, d', e, n, ho, hdst, hg, hs1, he, hd1, hce, hx, hva, hk⟩ := hs
  rw [if_pos (wanted_none hg)]
  have hv := h.val hva
  rw [hx] at hv
  have hsl := OwnR.sl0 (F := fun _ => False) hv (fun _ _ => id)
  obtain ⟨ad, cap, e1, _, _, _, q⟩ := hsl
  rcases q with q | ⟨b, off, rfl, _, _, hc⟩
  · cases q
  have hload : (loadCells ⟨b, off, none⟩ 1).run X.P w = .ok ([n].map (Value.int .u8)).toArray w := by
    refine run_loadCells_list w ⟨b, off, none⟩ ([n].map (Value.int .u8)) fun j v hj => ?_
    rw [Addr.add_mk]
    exact hc j v hj
  have hrun : (execOp a.eval o).run X.P w = .ok (.value (.string ⟨⟨[UInt8.ofNat n.toNat]⟩⟩)) w := by
    obtain ⟨dst', op, type, pos, after, guard⟩ := o
    simp only at ho; subst ho
    refine run_v' (s := convert src dst (a.eval x)) ?_
    rw [e1, run_convert_bytes_string w src dst e _ _ _ hs1 he hd1]
    exact run_bytesToString w ⟨b, off, none⟩ 1 cap [n] hload
  unfold Oper.wp
  rw [hrun, Oper.upon_value, hdst]
  rw [hdst] at hd
  exact hK _ _ _ _ hk (h.put hd rfl)

theorem aXs_str_sound {ops : Array Oper} {o : Oper} {post : List Oper} {K : AState → Prop} {Q' : Exit → Act → World → Prop} (hd0 : dstOk X.N o.dst = true) (hd2 : ∀ o ∈ post, dstOk X.N o.dst = true)
    (hK : ∀ σ' g' a' w', K σ' → Rep X g' σ' a' w' → Q' .normal a' w') : ∀ (pre : List Oper), (∀ o ∈ pre, dstOk X.N o.dst = true) →
    ∀ (g : Gh) (σ : AState) (a : Act) (w : World), Rep X g σ a w → aXs X.P ops (fun σ1 => strX X.P σ1 o (aXs X.P ops K post)) pre σ → wpList X.P ops Q' (pre ++ o :: post) a w
  | [], _, g, σ, a, w, h, hs => by
    have := strX_sound (ops := ops) (Q := Q') h hd0 hs (K' := wpList X.P ops Q' post) fun σ' g' a' w' hk hr => aXs_sound hK post hd2 g' σ' a' w' hr hk
    unfold wpList
    simp only [List.nil_append]
    by_cases hw : Region.wanted o (yielded ops a.tmps) = true
    · rw [if_pos hw] at this ⊢; exact .inl this
    · rw [if_neg hw] at this ⊢; exact this
  | p :: rest, hd, g, σ, a, w, h, hs => by
    have ih := aXs_str_sound (ops := ops) hd0 hd2 hK rest fun o ho => hd o (List.mem_cons_of_mem _ ho)
    have := aX_sound (Q := Q') h (hd p List.mem_cons_self) hs (K' := wpList X.P ops Q' (rest ++ o :: post)) fun σ' g' a' w' hk hr => ih g' σ' a' w' hr hk
    rw [List.cons_append]
    unfold wpList
    by_cases hw : Region.wanted p (yielded ops a.tmps) = true
    · rw [if_pos hw] at this ⊢; exact .inl this
    · rw [if_neg hw] at this ⊢; exact this
end

/-- a region in which a row of one byte is made a text by its operation `n` -/
theorem awp_str {X : Ctx} {Q : Exit → AState → Prop} {σ : AState} {P : Program} {N : Nat} {id : Nat} {l : List Oper} {o : Oper} (hP : X.P = P) (hN : X.N = N) (n : Nat) (ho : l[n]? = some o) (hd : dstsOk N l = true)
    (h : aXs P l.toArray (fun σ1 => strX P σ1 o (aXs P l.toArray (Q .normal) (l.drop (n + 1)))) (l.take n) σ) : AWp X (.region id l.toArray false) Q σ := fun g a w hr => by
  subst hP; subst hN
  have hl : l.take n ++ o :: l.drop (n + 1) = l := by
    obtain ⟨hlt, he⟩ := List.getElem?_eq_some_iff.1 ho
    rw [← he, List.getElem_cons_drop hlt, List.take_append_drop]
  have := aXs_str_sound (ops := l.toArray) (o := o) (post := l.drop (n + 1)) (K := Q .normal) (Q' := Lift X Q) (dstsOk_spec hd o (List.mem_of_getElem? ho)) (fun o ho => dstsOk_spec hd o (List.mem_of_mem_drop ho))
    (fun σ' g' _ _ hk hr => ⟨σ', g', hk, hr⟩) (l.take n) (fun o ho => dstsOk_spec hd o (List.mem_of_mem_take ho)) g σ a w hr h
  rw [hl] at this
  exact wp_region_lit this

end Go.Proofs.YtlmlnbmagmembaaDoor
