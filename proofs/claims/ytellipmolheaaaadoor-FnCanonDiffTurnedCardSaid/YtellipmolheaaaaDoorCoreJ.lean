import Derived.Test.YtellipmolheaaaaDoorCoreD
set_option linter.unusedSimpArgs false
set_option linter.unusedVariables false
namespace Go.Proofs.YtellipmolheaaaaDoor
open Go Go.RowKit

/-! ## what is known of the world in which a call began -/

section
variable {X : Ctx} {g : Gh} {σ : AState} {a : Act} {w : World}

/-- a slice value that showed something when the call began shows it still -/
theorem les_know (hH : ∀ b, ¬ X.H0 b) {t : Nat} {x : Value} {k : Nat} {us : List Value} (ht : σ.get t = .v x) (hx : Sl X.F0 X.w0 x k us) : LeS X σ (σ.put (some t) (.sl k us)) := fun g a w h => by
  refine ⟨g, { h with rd := h.rd, rep := fun t' => ?_ }⟩
  rw [get_put]
  split
  · rename_i e
    subst e
    have hv := h.rep t'
    rw [ht] at hv
    rw [show a.tmps.getD t' undef = x from hv]
    refine Sl.step hx h.frame (fun b hb hf => ?_) (fun b hb hc => ?_)
    · rcases hf with hf | ⟨d, hd⟩ | hf
      · exact hf
      · rcases (h.new d b hd).1 with h1 | h1
        · omega
        · exact absurd h1 (hH b)
      · rcases h.rho with e | ⟨_, e⟩
        · exact h.rhoF b (e ▸ hf)
        · rcases e b hf with h1 | h1
          · omega
          · exact absurd h1 (hH b)
    · rcases hc with hc | hc
      · exact h.rhoF b hc
      · exact absurd hc (hH b)
  · exact h.rep t'

theorem awp_know (hH : ∀ b, ¬ X.H0 b) (t : Nat) {x : Value} {k : Nat} {us : List Value} {c : Code} {Q : Exit → AState → Prop} (ht : σ.get t = .v x) (hx : Sl X.F0 X.w0 x k us) (h : AWp X c Q (σ.put (some t) (.sl k us))) : AWp X c Q σ :=
  awp_le (les_know hH ht hx) h

/-- a call whose contract leans on the world in which this call began; its result is a row of its own -/
def nowX (X : Ctx) (P : Program) (σ : AState) (o : Oper) (K : AState → Prop) : Prop :=
  ∃ (c : Call) (d : Nat) (f : FuncId) (args : List AV) (e : TypeId) (R : List Value → Prop),
    o.op = .call c ∧ o.dst = some d ∧ o.guard = none ∧ callOf P σ.val c = some (f, args) ∧ vaAll σ.va c.operands.toList ∧ args.all AV.noRd = true ∧ goFn P f ∧
    (∀ (w : World) (vals : Array Value), Step (fun b => X.rho0 = some b ∨ X.H0 b) X.w0 w → ArgsR P (fun _ => False) none w vals args →
      Calls P f vals w fun en w' => ∃ (rv : Value) (vs' : List Value), en = .returned rv ∧ R vs' ∧ ResR P (fun _ => False) w w' rv (.own 0 e vs') ∧ Step (fun _ => False) w w') ∧
    ∀ vs', R vs' → K ((⟨(σ.map (AV.kill2 none d)).s, σ.rd⟩ : AState).put (some d) (.own d e vs'))

theorem nowX_sound {ops : Array Oper} {o : Oper} {K : AState → Prop} {K' : Act → World → Prop} {Q : Exit → Act → World → Prop} (h : Rep X g σ a w) (hd : dstOk X.N o.dst = true) (hs : nowX X X.P σ o K)
    (hK : ∀ σ' g' a' w', K σ' → Rep X g' σ' a' w' → K' a' w') :
    if Region.wanted o (yielded ops a.tmps) = true then o.wp X.P a w K' Q else K' (a.put o.dst undef) w := by
  obtain ⟨c, d, f, args, e, R, ho, hdst, hg, hc, hva, hno, ⟨fn, hf, hn, hb⟩, hA, hk⟩ := hs
  rw [if_pos (wanted_none hg)]
  have hd' : slotOk X.N d = true := by rw [hdst] at hd; simpa [dstOk] using hd
  obtain ⟨vals, he, har⟩ := h.args (fun _ => False) (fun _ hb => hb.elim) c f args hc hva (fun _ _ _ _ _ _ hb => hb)
  have har' : ArgsR X.P (fun _ => False) none w vals args := ⟨har.1, fun j av hj => let ⟨y, hy, hr⟩ := har.2 j av hj; ⟨y, hy, hr.noRd (List.all_eq_true.1 hno av (List.mem_of_getElem? hj))⟩⟩
  have hexec : (execOp a.eval o).run X.P w = .ok (.enter f vals) w := by
    have h1 := (he o.type).trans (run_callFunc hf hn hb)
    obtain ⟨dst, op, type, pos, after, guard⟩ := o
    simp only at ho
    subst ho
    exact h1
  unfold Oper.wp
  rw [hexec, Oper.upon_enter]
  refine (hA w vals h.frame har').mono fun en w' ⟨rv, vs', hev, hR, hres, hst⟩ => ?_
  subst hev
  rw [hdst]
  obtain ⟨hel, hrow⟩ := hres
  obtain ⟨g', hrep⟩ := h.row (i := none) (d := d) (e := e) (m := σ.rd) hd' (v := rv) (vs := vs') hst (fun b hb => hb.elim)
    (fun β hβ => by
      obtain ⟨⟨p, ty, h6, h7⟩, h8, h9⟩ := h.rd β hβ
      exact ⟨⟨p, ty, (hst.block β (Array.getElem?_eq_some_iff.1 h6).1 id).trans h6, h7⟩, h8.step hst (fun _ _ hf => hf) (fun _ _ hc => hc.elim), h9⟩) hel
    (by rcases hrow with hr | ⟨b, r1, r2, r3⟩
        · exact .inl hr
        · refine .inr ⟨b, r2, .inr r1, ?_, r3⟩
          rcases r3.2 with ⟨e0, _⟩ | ⟨b', _, _, e0, _, hh, _⟩
          · rw [e0] at r2; simp [Value.ownBlock] at r2
          · rw [e0] at r2
            have : b' = b := by simpa [Value.ownBlock] using r2
            subst this
            exact (Array.getElem?_eq_some_iff.1 hh).1)
  exact hK _ g' _ _ (hk vs' hR) hrep

theorem aXs_now_sound {ops : Array Oper} {o : Oper} {post : List Oper} {K : AState → Prop} {Q' : Exit → Act → World → Prop} (hd0 : dstOk X.N o.dst = true) (hd2 : ∀ o ∈ post, dstOk X.N o.dst = true)
    (hK : ∀ σ' g' a' w', K σ' → Rep X g' σ' a' w' → Q' .normal a' w') : ∀ (pre : List Oper), (∀ o ∈ pre, dstOk X.N o.dst = true) →
    ∀ (g : Gh) (σ : AState) (a : Act) (w : World), Rep X g σ a w → aXs X.P ops (fun σ1 => nowX X X.P σ1 o (aXs X.P ops K post)) pre σ → wpList X.P ops Q' (pre ++ o :: post) a w
  | [], _, g, σ, a, w, h, hs => by
    have := nowX_sound (ops := ops) (Q := Q') h hd0 hs (K' := wpList X.P ops Q' post) fun σ' g' a' w' hk hr => aXs_sound hK post hd2 g' σ' a' w' hr hk
    unfold wpList
    simp only [List.nil_append]
    by_cases hw : Region.wanted o (yielded ops a.tmps) = true
    · rw [if_pos hw] at this ⊢; exact .inl this
    · rw [if_neg hw] at this ⊢; exact this
  | p :: rest, hd, g, σ, a, w, h, hs => by
    have ih := aXs_now_sound (ops := ops) hd0 hd2 hK rest fun o ho => hd o (List.mem_cons_of_mem _ ho)
    have := aX_sound (Q := Q') h (hd p List.mem_cons_self) hs (K' := wpList X.P ops Q' (rest ++ o :: post)) fun σ' g' a' w' hk hr => ih g' σ' a' w' hr hk
    rw [List.cons_append]
    unfold wpList
    by_cases hw : Region.wanted p (yielded ops a.tmps) = true
    · rw [if_pos hw] at this ⊢; exact .inl this
    · rw [if_neg hw] at this ⊢; exact this
end

/-- a region whose operation `n` is such a call -/
theorem awp_now {X : Ctx} {Q : Exit → AState → Prop} {σ : AState} {P : Program} {N : Nat} {id : Nat} {l : List Oper} {o : Oper} (hP : X.P = P) (hN : X.N = N) (n : Nat) (ho : l[n]? = some o) (hd : dstsOk N l = true)
    (h : aXs P l.toArray (fun σ1 => nowX X P σ1 o (aXs P l.toArray (Q .normal) (l.drop (n + 1)))) (l.take n) σ) : AWp X (.region id l.toArray false) Q σ := fun g a w hr => by
  subst hP; subst hN
  have hl : l.take n ++ o :: l.drop (n + 1) = l := by
    obtain ⟨hlt, he⟩ := List.getElem?_eq_some_iff.1 ho
    rw [← he, List.getElem_cons_drop hlt, List.take_append_drop]
  have := aXs_now_sound (ops := l.toArray) (o := o) (post := l.drop (n + 1)) (K := Q .normal) (Q' := Lift X Q) (dstsOk_spec hd o (List.mem_of_getElem? ho)) (fun o ho => dstsOk_spec hd o (List.mem_of_mem_drop ho))
    (fun σ' g' _ _ hk hr => ⟨σ', g', hk, hr⟩) (l.take n) (fun o ho => dstsOk_spec hd o (List.mem_of_mem_take ho)) g σ a w hr h
  rw [hl] at this
  exact wp_region_lit this

end Go.Proofs.YtellipmolheaaaaDoor
