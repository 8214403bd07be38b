import Derived.Test.YtellipmolheaaaaGreatDoorCoreD
set_option linter.unusedSimpArgs false
set_option linter.unusedVariables false
namespace Go.Proofs.YtellipmolheaaaaGreatDoor
open Go Go.RowKit

/-! ## rows whose elements are moved in place -/

/-- THE CONTRACT of a function that turns the elements of a row of the caller's own, its first argument, in place, and hands back a value -/
def SCalls (P : Program) (f : FuncId) (e : TypeId) (vs : List Value) (args : List AV) (R : List Value → Value → Prop) : Prop :=
  goFn P f ∧ ∀ (w : World) (F : Nat → Prop) (o : Option Nat) (x : Value) (vals : Array Value), (∀ b, F b → b < w.heap.size) → (∀ b, o = some b → b < w.heap.size ∧ ¬ F b) → x.ownBlock = o →
    OwnR P (fun _ => o) w 0 e x vs → ArgsR P (fun b => F b ∨ o = some b) none w vals args →
    Calls P f (#[x] ++ vals) w fun en w' => ∃ (vs' : List Value) (rv : Value), en = .returned rv ∧ R vs' rv ∧ vs'.length = vs.length ∧ (∀ y ∈ vs', EltOk (P.cellsOf e) y) ∧
      ((vs = [] ∧ Step (fun _ => False) w w') ∨ (∃ (g : Nat) (cur cur2 : Array Value), o = some g ∧ w.heap[g]? = some (.cells cur e (0, 0)) ∧ w'.heap[g]? = some (.cells cur2 e (0, 0)) ∧ cur2.size = cur.size ∧
        cur2.toList.take (vs.length * P.cellsOf e) = flat vs' ∧ Step (fun b => b = g) w w'))

section
variable {X : Ctx} {g : Gh} {σ : AState} {a : Act} {w : World}

theorem Rep.updNil (h : Rep X g σ a w) (i : Nat) : Rep X g (σ.map (AV.updR i 0 [])) a w := by
  refine h.remap (C := fun _ => False) (Step.refl _ _) rfl rfl rfl (fun _ hb => hb.elim) (fun _ _ hf => hf) h.inj (fun d b hd => h.new d b hd) rfl (fun x av hx => ?_)
  cases av
  case own d' e' vs' =>
    simp only [AV.updR]
    split
    · split
      · rename_i h1 h2
        subst h1
        rw [List.length_eq_zero_iff] at h2
        subst h2
        exact hx
      · trivial
    · exact hx
  all_goals
    simp only [AV.updR, AV.kill]
    split
    · trivial
    · exact hx

theorem Rep.stay (h : Rep X g σ a w) {w' : World} (hs : Step (fun _ => False) w w') : Rep X g σ a w' := by
  refine h.step (m := σ.rd) (hs.mono fun _ _ hc => hc.elim) fun β hβ => ?_
  obtain ⟨⟨p, ty, q1, q2, q3⟩, q4, q5⟩ := h.rd β hβ
  exact ⟨⟨p, ty, (hs.block β (Array.getElem?_eq_some_iff.1 q1).1 id).trans q1, q2, q3⟩, q4.step hs (fun _ _ h => h) (fun _ _ h => h.elim), q5⟩

/-- the cells of a row are other ones -/
theorem Rep.rowUp0 (h : Rep X g σ a w) {d e b : Nat} {vs vs2 : List Value} {cur cur2 : Array Value} {W : World} (hg : g.own d = some b) (hh : w.heap[b]? = some (.cells cur e (0, 0)))
    (hlen : vs2.length = vs.length) (hnew : ∀ z ∈ vs2, EltOk (X.P.cellsOf e) z) (hst : Step (fun z => z = b) w W) (hWb : W.heap[b]? = some (.cells cur2 e (0, 0))) (hsize : cur2.size = cur.size)
    (hcells : cur2.toList.take (vs.length * X.P.cellsOf e) = flat vs2) : Rep X g (σ.map (AV.updR d vs.length vs2)) a W := by
  have hCF : ∀ z, z < w.heap.size → z = b → Fb X g z := fun z _ e => .inr (.inl ⟨d, e ▸ hg⟩)
  refine h.remap hst rfl rfl rfl (fun z e => ⟨d, e ▸ hg⟩) (fun _ _ hf => hf) h.inj (fun d' z hd' => ?_) rfl (fun y av hy => ?_)
  · obtain ⟨h2, h3, h4⟩ := h.new d' z hd'
    exact ⟨h2, Nat.lt_of_lt_of_le h3 hst.size, h4⟩
  · have other : av.has d = false → RepV X.P (Fb X g) g.own g.rho W y av := fun hh =>
      hy.step hst (fun _ _ hf => hf) hCF (fun d' hd' => ⟨rfl, fun z hz e => by
        subst e
        have := h.inj d' d z hz hg
        subst this
        rw [hh] at hd'
        cases hd'⟩) rfl
    cases av
    case own d' e' vs' =>
      simp only [AV.updR]
      split
      · rename_i hd
        subst hd
        split
        · rename_i hlen'
          obtain ⟨hel', hr'⟩ := hy
          rcases hr' with ⟨rfl, rfl⟩ | ⟨b2, hg2, hob2, hrow2⟩
          · have : vs2 = [] := by
              rw [← List.length_eq_zero_iff, hlen, ← hlen']
              rfl
            subst this
            exact ⟨fun z hz => (by cases hz), .inl ⟨rfl, rfl⟩⟩
          · rw [hg] at hg2
            have : b = b2 := by simpa using hg2
            subst this
            rcases hrow2.2 with ⟨rfl, h0⟩ | ⟨b3, cap2, cur3, rfl, _, hh2, hd1, hd2, hd3, hd4⟩
            · simp [Value.ownBlock] at hob2
            · have : b3 = b := by simpa [Value.ownBlock] using hob2
              subst this
              rw [hh] at hh2
              simp only [Option.some.injEq, Obj.cells.injEq] at hh2
              obtain ⟨rfl, rfl, _⟩ := hh2
              refine ⟨hnew, .inr ⟨b3, hg, rfl, by simp [flat_length _ hnew], .inr ⟨b3, cap2, cur2, by simp [hlen', hlen], Nat.le_refl _, hWb, by omega, hd2, by rw [hsize, hd3], ?_⟩⟩⟩
              rw [hlen]; exact hcells
        · trivial
      · rename_i hne
        exact other (by simpa [AV.has] using hne)
    all_goals
      simp only [AV.updR, AV.kill]
      split
      · trivial
      · rename_i hh; exact other (by simpa using hh)

theorem ArgsR.less {P : Program} {F F' : Nat → Prop} {w : World} {vals : Array Value} {args : List AV} (h : ArgsR P F none w vals args) (hF : ∀ b, F' b → F b) : ArgsR P F' none w vals args :=
  ⟨h.1, fun j av hj => let ⟨y, hy, hr⟩ := h.2 j av hj; ⟨y, hy, hr.step (Step.refl (fun _ => False) w) (fun b _ hb => hF b hb) (fun _ _ hc => hc.elim) (fun d _ => ⟨rfl, fun _ e => (by cases e)⟩) rfl⟩⟩

/-- a call by which a row is turned in place -/
def sortX (P : Program) (σ : AState) (o : Oper) (K : AState → Prop) : Prop :=
  ∃ (c : Call) (fo : Operand) (f : FuncId) (e : TypeId) (vs : List Value) (i : Nat) (x0 : Operand) (xs : List Operand) (R : List Value → Value → Prop),
    o.op = .call c ∧ o.guard = none ∧ c.callee = .value fo ∧ σ.val fo = .clo f [] [] ∧ c.args.toList = x0 :: xs ∧ σ.val x0 = .own i e vs ∧ vaAll σ.va c.operands.toList ∧
    xs.all (fun x => !(σ.val x).has i && ((σ.val x).toArg P).noRd) = true ∧ SCalls P f e vs (xs.map fun x => (σ.val x).toArg P) R ∧
    ∀ vs' rv, R vs' rv → vs'.length = vs.length → K ((σ.put o.dst (.v rv)).map (AV.updR i vs.length vs'))

theorem sortX_sound {ops : Array Oper} {o : Oper} {K : AState → Prop} {K' : Act → World → Prop} {Q : Exit → Act → World → Prop} (h : Rep X g σ a w) (hd : dstOk X.N o.dst = true) (hs : sortX X.P σ o K)
    (hK : ∀ σ' g' a' w', K σ' → Rep X g' σ' a' w' → K' a' w') :
    if Region.wanted o (yielded ops a.tmps) = true then o.wp X.P a w K' Q else K' (a.put o.dst undef) w := by
  obtain ⟨c, fo, f, e, vs, i, x0, xs, R, ho, hg, hcal, hfo, hargs, h0, hva, hno, ⟨⟨fn, hf, hn, hb⟩, hA⟩, hk⟩ := hs
  rw [if_pos (wanted_none hg)]
  have hfv : σ.va fo = true := vaAll_spec _ hva fo (by simp [Call.operands, hcal])
  have hxv : ∀ x ∈ c.args.toList, σ.va x = true := fun x hx => vaAll_spec _ hva x (by simp [Call.operands]; exact .inr (by simpa using hx))
  have hrep := h.val hfv
  rw [hfo] at hrep
  obtain ⟨fs, cs, he, s1, s2, _, _⟩ := hrep
  have e1 : fs = #[] := by apply Array.eq_empty_of_size_eq_zero; simpa using s1
  have e2 : cs = #[] := by apply Array.eq_empty_of_size_eq_zero; simpa using s2
  subst e1; subst e2
  have har := h.hargs i xs (fun x hx => hxv x (by rw [hargs]; exact List.mem_cons_of_mem _ hx)) hno
  have hown := h.val (x := x0) (hxv x0 (by rw [hargs]; exact List.mem_cons_self))
  rw [h0] at hown
  have hargs' : c.args = (x0 :: xs).toArray := by apply Array.ext'; simp [hargs]
  have hexec : (execOp a.eval o).run X.P w = .ok (.enter f (#[a.eval x0] ++ (xs.map a.eval).toArray)) w := by
    have h1 : ∀ ty, (do let d ← resolve a.eval c ty; invoke d.target d.args : Sem Next).run X.P w = (callFunc f (#[a.eval x0] ++ (xs.map a.eval).toArray)).run X.P w := fun ty => by
      simp only [resolve, hcal, he, Deferred.ofValue, Sem.run_bind, Sem.run_pure, Result.andThen_ok, invoke, hargs']
      congr 2
      simp
    have h2 := (h1 o.type).trans (run_callFunc hf hn hb)
    obtain ⟨dst, op, type, pos, after, guard⟩ := o
    simp only at ho
    subst ho
    exact h2
  unfold Oper.wp
  rw [hexec, Oper.upon_enter]
  have hput : ∀ rv, Rep X g (σ.put o.dst (.v rv)) (a.put o.dst rv) w := fun rv => h.put hd rfl
  have hnil : a.eval x0 = .slice none 0 0 → vs = [] → Calls X.P f (#[a.eval x0] ++ (xs.map a.eval).toArray) w fun
      | .returned v, w'' => K' (a.put o.dst v) w''
      | .panicked chain, w'' => Q (.panic chain) a w''
      | .outgrown, _ => LetsOut Q := fun hx hvs => by
    subst hvs
    have hcall := hA w (fun b => Fb X g b ∧ ∀ d, g.own d ≠ some b) none (a.eval x0) (xs.map a.eval).toArray (fun b hb => h.Flt hb.1) (fun b hb => (by cases hb)) (by rw [hx]; rfl) ⟨hown.1, .inl ⟨hx, rfl⟩⟩
      (har.less fun b hb => hb.elim .inl fun e => (by cases e))
    refine hcall.mono fun en w' ⟨vs', rv, hev, hR, hlen, hel, hrow⟩ => ?_
    subst hev
    rcases hrow with ⟨_, hst⟩ | ⟨b, _, _, r1, _⟩
    · have hz : vs' = [] := List.length_eq_zero_iff.1 hlen
      subst hz
      exact hK _ g _ _ (hk [] rv hR hlen) (((hput rv).stay hst).updNil i)
    · cases r1
  rcases hown.2 with ⟨hx, hvs⟩ | ⟨b0, hb0, hob, _⟩
  · exact hnil hx hvs
  have hcall := hA w (fun b => Fb X g b ∧ ∀ d, g.own d ≠ some b) (g.own i) (a.eval x0) (xs.map a.eval).toArray (fun b hb => h.Flt hb.1) (fun b hb => ⟨(h.new i b hb).2.1, fun hf => hf.2 i hb⟩) (by rw [hob, hb0]) hown har
  refine hcall.mono fun en w' ⟨vs', rv, hev, hR, hlen, hel, hrow⟩ => ?_
  subst hev
  rcases hrow with ⟨hvs, hst⟩ | ⟨b, cur, cur2, r1, r2, r3, r4, r5, hst⟩
  · subst hvs
    have hz : vs' = [] := List.length_eq_zero_iff.1 hlen
    subst hz
    exact hK _ g _ _ (hk [] rv hR hlen) (((hput rv).stay hst).updNil i)
  · exact hK _ g _ _ (hk vs' rv hR hlen) ((hput rv).rowUp0 r1 r2 hlen hel hst r3 r4 r5)

theorem aXs_sort_sound {ops : Array Oper} {o : Oper} {post : List Oper} {K : AState → Prop} {Q' : Exit → Act → World → Prop} (hd0 : dstOk X.N o.dst = true) (hd2 : ∀ o ∈ post, dstOk X.N o.dst = true)
    (hK : ∀ σ' g' a' w', K σ' → Rep X g' σ' a' w' → Q' .normal a' w') : ∀ (pre : List Oper), (∀ o ∈ pre, dstOk X.N o.dst = true) →
    ∀ (g : Gh) (σ : AState) (a : Act) (w : World), Rep X g σ a w → aXs X.P ops (fun σ1 => sortX X.P σ1 o (aXs X.P ops K post)) pre σ → wpList X.P ops Q' (pre ++ o :: post) a w
  | [], _, g, σ, a, w, h, hs => by
    have := sortX_sound (ops := ops) (Q := Q') h hd0 hs (K' := wpList X.P ops Q' post) fun σ' g' a' w' hk hr => aXs_sound hK post hd2 g' σ' a' w' hr hk
    unfold wpList
    simp only [List.nil_append]
    by_cases hw : Region.wanted o (yielded ops a.tmps) = true
    · rw [if_pos hw] at this ⊢; exact .inl this
    · rw [if_neg hw] at this ⊢; exact this
  | p :: rest, hd, g, σ, a, w, h, hs => by
    have ih := aXs_sort_sound (ops := ops) hd0 hd2 hK rest fun o ho => hd o (List.mem_cons_of_mem _ ho)
    have := aX_sound (Q := Q') h (hd p List.mem_cons_self) hs (K' := wpList X.P ops Q' (rest ++ o :: post)) fun σ' g' a' w' hk hr => ih g' σ' a' w' hr hk
    rw [List.cons_append]
    unfold wpList
    by_cases hw : Region.wanted p (yielded ops a.tmps) = true
    · rw [if_pos hw] at this ⊢; exact .inl this
    · rw [if_neg hw] at this ⊢; exact this
end

/-- a region in which operation `n` turns a row in place -/
theorem awp_sort {X : Ctx} {Q : Exit → AState → Prop} {σ : AState} {P : Program} {N : Nat} {id : Nat} {l : List Oper} {o : Oper} (hP : X.P = P) (hN : X.N = N) (n : Nat) (ho : l[n]? = some o) (hd : dstsOk N l = true)
    (h : aXs P l.toArray (fun σ1 => sortX P σ1 o (aXs P l.toArray (Q .normal) (l.drop (n + 1)))) (l.take n) σ) : AWp X (.region id l.toArray false) Q σ := fun g a w hr => by
  subst hP; subst hN
  have hl : l.take n ++ o :: l.drop (n + 1) = l := by
    obtain ⟨hlt, he⟩ := List.getElem?_eq_some_iff.1 ho
    rw [← he, List.getElem_cons_drop hlt, List.take_append_drop]
  have := aXs_sort_sound (ops := l.toArray) (o := o) (post := l.drop (n + 1)) (K := Q .normal) (Q' := Lift X Q) (dstsOk_spec hd o (List.mem_of_getElem? ho)) (fun o ho => dstsOk_spec hd o (List.mem_of_mem_drop ho))
    (fun σ' g' _ _ hk hr => ⟨σ', g', hk, hr⟩) (l.take n) (fun o ho => dstsOk_spec hd o (List.mem_of_mem_take ho)) g σ a w hr h
  rw [hl] at this
  exact wp_region_lit this

/-! ### the function itself -/

end Go.Proofs.YtellipmolheaaaaGreatDoor
