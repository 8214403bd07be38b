import Derived.Test.YtellipmolheaaaaDoorCoreD
set_option linter.unusedSimpArgs false
set_option linter.unusedVariables false
namespace Go.Proofs.YtellipmolheaaaaDoor
open Go Go.RowKit

/-! ## rows whose elements are moved in place -/

/-- THE CONTRACT of a function that turns the elements of a row of the caller's own, its first argument, in place, and hands back a value -/
def SCalls (P : Program) (f : FuncId) (e : TypeId) (vs : List Value) (args : List AV) (R : List Value → Value → Prop) : Prop :=
  goFn P f ∧ ∀ (w : World) (F : Nat → Prop) (o : Option Nat) (x : Value) (vals : Array Value), (∀ b, F b → b < w.heap.size) → (∀ b, o = some b → b < w.heap.size ∧ ¬ F b) → x.ownBlock = o →
    OwnR P (fun _ => o) w 0 e x vs → ArgsR P (fun b => F b ∨ o = some b) none w vals args →
    Calls P f (#[x] ++ vals) w fun en w' => ∃ (vs' : List Value) (rv : Value), en = .returned rv ∧ R vs' rv ∧ vs'.length = vs.length ∧ (∀ y ∈ vs', EltOk (P.cellsOf e) y) ∧
      ((vs = [] ∧ Step (fun _ => False) w w') ∨ (∃ (g : Nat) (cur cur2 : Array Value), o = some g ∧ w.heap[g]? = some (.cells cur e (0, 0)) ∧ w'.heap[g]? = some (.cells cur2 e (0, 0)) ∧ cur2.size = cur.size ∧
        cur2.toList.take (vs.length * P.cellsOf e) = flat vs' ∧ Step (fun b => b = g) w w'))

section
variable {X : Ctx} {g : Gh} {σ : AState} {a : Act} {w : World}

theorem Rep.updNil (h : Rep X g σ a w) (i : Nat) : Rep X g (σ.map (AV.updR i 0 [])) a w := by
  refine h.remap (C := fun _ => False) (Step.refl _ _) rfl rfl rfl (fun _ hb => hb.elim) (fun _ _ hf => hf) h.inj (fun d b hd => h.new d b hd) rfl (fun x av hx => ?_)
  cases av
  case own d' e' vs' =>
    simp only [AV.updR]
    split
    · split
      · rename_i h1 h2
        subst h1
        rw [List.length_eq_zero_iff] at h2
        subst h2
        exact hx
      · trivial
    · exact hx
  all_goals
    simp only [AV.updR, AV.kill]
    split
    · trivial
    · exact hx

theorem Rep.stay (h : Rep X g σ a w) {w' : World} (hs : Step (fun _ => False) w w') : Rep X g σ a w' := by
  refine h.step (m := σ.rd) (hs.mono fun _ _ hc => hc.elim) fun β hβ => ?_
  obtain ⟨⟨p, ty, q1, q2, q3⟩, q4, q5⟩ := h.rd β hβ
  exact ⟨⟨p, ty, (hs.block β (Array.getElem?_eq_some_iff.1 q1).1 id).trans q1, q2, q3⟩, q4.step hs (fun _ _ h => h) (fun _ _ h => h.elim), q5⟩

/-- the cells of a row are other ones -/
theorem Rep.rowUp0 (h : Rep X g σ a w) {d e b : Nat} {vs vs2 : List Value} {cur cur2 : Array Value} {W : World} (hg : g.own d = some b) (hh : w.heap[b]? = some (.cells cur e (0, 0)))
    (hlen : vs2.length = vs.length) (hnew : ∀ z ∈ vs2, EltOk (X.P.cellsOf e) z) (hst : Step (fun z => z = b) w W) (hWb : W.heap[b]? = some (.cells cur2 e (0, 0))) (hsize : cur2.size = cur.size)
    (hcells : cur2.toList.take (vs.length * X.P.cellsOf e) = flat vs2) : Rep X g (σ.map (AV.updR d vs.length vs2)) a W := by
  have hCF : ∀ z, z < w.heap.size → z = b → Fb X g z := fun z _ e => .inr (.inl ⟨d, e ▸ hg⟩)
  refine h.remap hst rfl rfl rfl (fun z e => ⟨d, e ▸ hg⟩) (fun _ _ hf => hf) h.inj (fun d' z hd' => ?_) rfl (fun y av hy => ?_)
  · obtain ⟨h2, h3, h4⟩ := h.new d' z hd'
    exact ⟨h2, Nat.lt_of_lt_of_le h3 hst.size, h4⟩
  · have other : av.has d = false → RepV X.P (Fb X g) g.own g.rho W y av := fun hh =>
      hy.step hst (fun _ _ hf => hf) hCF (fun d' hd' => ⟨rfl, fun z hz e => by
        subst e
        have := h.inj d' d z hz hg
        subst this
        rw [hh] at hd'
        cases hd'⟩) rfl
    cases av
    case own d' e' vs' =>
      simp only [AV.updR]
      split
      · rename_i hd
        subst hd
        split
        · rename_i hlen'
          obtain ⟨hel', hr'⟩ := hy
          rcases hr' with ⟨rfl, rfl⟩ | ⟨b2, hg2, hob2, hrow2⟩
          · have : vs2 = [] := by
              rw [← List.length_eq_zero_iff, hlen, ← hlen']
              rfl
            subst this
            exact ⟨fun z hz => (by cases hz), .inl ⟨rfl, rfl⟩⟩
          · rw [hg] at hg2
            have : b = b2 := by simpa using hg2
            subst this
            rcases hrow2.2 with ⟨rfl, h0⟩ | ⟨b3, cap2, cur3, rfl, _, hh2, hd1, hd2, hd3, hd4⟩
            · simp [Value.ownBlock] at hob2
            · have : b3 = b := by simpa [Value.ownBlock] using hob2
              subst this
              rw [hh] at hh2
              simp only [Option.some.injEq, Obj.cells.injEq] at hh2
              obtain ⟨rfl, rfl, _⟩ := hh2
              refine ⟨hnew, .inr ⟨b3, hg, rfl, by simp [flat_length _ hnew], .inr ⟨b3, cap2, cur2, by simp [hlen', hlen], Nat.le_refl _, hWb, by omega, hd2, by rw [hsize, hd3], ?_⟩⟩⟩
              rw [hlen]; exact hcells
        · trivial
      · rename_i hne
        exact other (by simpa [AV.has] using hne)
    all_goals
      simp only [AV.updR, AV.kill]
      split
      · trivial
      · rename_i hh; exact other (by simpa using hh)

theorem ArgsR.less {P : Program} {F F' : Nat → Prop} {w : World} {vals : Array Value} {args : List AV} (h : ArgsR P F none w vals args) (hF : ∀ b, F' b → F b) : ArgsR P F' none w vals args :=
  ⟨h.1, fun j av hj => let ⟨y, hy, hr⟩ := h.2 j av hj; ⟨y, hy, hr.step (Step.refl (fun _ => False) w) (fun b _ hb => hF b hb) (fun _ _ hc => hc.elim) (fun d _ => ⟨rfl, fun _ e => (by cases e)⟩) rfl⟩⟩

/-- a call by which a row is turned in place -/
def sortX (P : Program) (σ : AState) (o : Oper) (K : AState → Prop) : Prop :=
  ∃ (c : Call) (fo : Operand) (f : FuncId) (e : TypeId) (vs : List Value) (i : Nat) (x0 : Operand) (xs : List Operand) (R : List Value → Value → Prop),
    o.op = .call c ∧ o.guard = none ∧ c.callee = .value fo ∧ σ.val fo = .clo f [] [] ∧ c.args.toList = x0 :: xs ∧ σ.val x0 = .own i e vs ∧ vaAll σ.va c.operands.toList ∧
    xs.all (fun x => !(σ.val x).has i && ((σ.val x).toArg P).noRd) = true ∧ SCalls P f e vs (xs.map fun x => (σ.val x).toArg P) R ∧
    ∀ vs' rv, R vs' rv → vs'.length = vs.length → K ((σ.put o.dst (.v rv)).map (AV.updR i vs.length vs'))

theorem sortX_sound {ops : Array Oper} {o : Oper} {K : AState → Prop} {K' : Act → World → Prop} {Q : Exit → Act → World → Prop} (h : Rep X g σ a w) (hd : dstOk X.N o.dst = true) (hs : sortX X.P σ o K)
    (hK : ∀ σ' g' a' w', K σ' → Rep X g' σ' a' w' → K' a' w') :
    if Region.wanted o (yielded ops a.tmps) = true then o.wp X.P a w K' Q else K' (a.put o.dst undef) w := by
  obtain ⟨c, fo, f, e, vs, i, x0, xs, R, ho, hg, hcal, hfo, hargs, h0, hva, hno, ⟨⟨fn, hf, hn, hb⟩, hA⟩, hk⟩ := hs
  rw [if_pos (wanted_none hg)]
  have hfv : σ.va fo = true := vaAll_spec _ hva fo (by simp [Call.operands, hcal])
  have hxv : ∀ x ∈ c.args.toList, σ.va x = true := fun x hx => vaAll_spec _ hva x (by simp [Call.operands]; exact .inr (by simpa using hx))
  have hrep := h.val hfv
  rw [hfo] at hrep
  obtain ⟨fs, cs, he, s1, s2, _, _⟩ := hrep
  have e1 : fs = #[] := by apply Array.eq_empty_of_size_eq_zero; simpa using s1
  have e2 : cs = #[] := by apply Array.eq_empty_of_size_eq_zero; simpa using s2
  subst e1; subst e2
  have har := h.hargs i xs (fun x hx => hxv x (by rw [hargs]; exact List.mem_cons_of_mem _ hx)) hno
  have hown := h.val (x := x0) (hxv x0 (by rw [hargs]; exact List.mem_cons_self))
  rw [h0] at hown
  have hargs' : c.args = (x0 :: xs).toArray := by apply Array.ext'; simp [hargs]
  have hexec : (execOp a.eval o).run X.P w = .ok (.enter f (#[a.eval x0] ++ (xs.map a.eval).toArray)) w := by
    have h1 : ∀ ty, (do let d ← resolve a.eval c ty; invoke d.target d.args : Sem Next).run X.P w = (callFunc f (#[a.eval x0] ++ (xs.map a.eval).toArray)).run X.P w := fun ty => by
      simp only [resolve, hcal, he, Deferred.ofValue, Sem.run_bind, Sem.run_pure, Result.andThen_ok, invoke, hargs']
      congr 2
      simp
    have h2 := (h1 o.type).trans (run_callFunc hf hn hb)
    obtain ⟨dst, op, type, pos, after, guard⟩ := o
    simp only at ho
    subst ho
    exact h2
  unfold Oper.wp
  rw [hexec, Oper.upon_enter]
  have hput : ∀ rv, Rep X g (σ.put o.dst (.v rv)) (a.put o.dst rv) w := fun rv => h.put hd rfl
  have hnil : a.eval x0 = .slice none 0 0 → vs = [] → Calls X.P f (#[a.eval x0] ++ (xs.map a.eval).toArray) w fun
      | .returned v, w'' => K' (a.put o.dst v) w''
      | .panicked chain, w'' => Q (.panic chain) a w''
      | .outgrown, _ => LetsOut Q := fun hx hvs => by
    subst hvs
    have hcall := hA w (fun b => Fb X g b ∧ ∀ d, g.own d ≠ some b) none (a.eval x0) (xs.map a.eval).toArray (fun b hb => h.Flt hb.1) (fun b hb => (by cases hb)) (by rw [hx]; rfl) ⟨hown.1, .inl ⟨hx, rfl⟩⟩
      (har.less fun b hb => hb.elim .inl fun e => (by cases e))
    refine hcall.mono fun en w' ⟨vs', rv, hev, hR, hlen, hel, hrow⟩ => ?_
    subst hev
    rcases hrow with ⟨_, hst⟩ | ⟨b, _, _, r1, _⟩
    · have hz : vs' = [] := List.length_eq_zero_iff.1 hlen
      subst hz
      exact hK _ g _ _ (hk [] rv hR hlen) (((hput rv).stay hst).updNil i)
    · cases r1
  rcases hown.2 with ⟨hx, hvs⟩ | ⟨b0, hb0, hob, _⟩
  · exact hnil hx hvs
  have hcall := hA w (fun b => Fb X g b ∧ ∀ d, g.own d ≠ some b) (g.own i) (a.eval x0) (xs.map a.eval).toArray (fun b hb => h.Flt hb.1) (fun b hb => ⟨(h.new i b hb).2.1, fun hf => hf.2 i hb⟩) (by rw [hob, hb0]) hown har
  refine hcall.mono fun en w' ⟨vs', rv, hev, hR, hlen, hel, hrow⟩ => ?_
  subst hev
  rcases hrow with ⟨hvs, hst⟩ | ⟨b, cur, cur2, r1, r2, r3, r4, r5, hst⟩
  · subst hvs
    have hz : vs' = [] := List.length_eq_zero_iff.1 hlen
    subst hz
    exact hK _ g _ _ (hk [] rv hR hlen) (((hput rv).stay hst).updNil i)
  · exact hK _ g _ _ (hk vs' rv hR hlen) ((hput rv).rowUp0 r1 r2 hlen hel hst r3 r4 r5)

theorem aXs_sort_sound {ops : Array Oper} {o : Oper} {post : List Oper} {K : AState → Prop} {Q' : Exit → Act → World → Prop} (hd0 : dstOk X.N o.dst = true) (hd2 : ∀ o ∈ post, dstOk X.N o.dst = true)
    (hK : ∀ σ' g' a' w', K σ' → Rep X g' σ' a' w' → Q' .normal a' w') : ∀ (pre : List Oper), (∀ o ∈ pre, dstOk X.N o.dst = true) →
    ∀ (g : Gh) (σ : AState) (a : Act) (w : World), Rep X g σ a w → aXs X.P ops (fun σ1 => sortX X.P σ1 o (aXs X.P ops K post)) pre σ → wpList X.P ops Q' (pre ++ o :: post) a w
  | [], _, g, σ, a, w, h, hs => by
    have := sortX_sound (ops := ops) (Q := Q') h hd0 hs (K' := wpList X.P ops Q' post) fun σ' g' a' w' hk hr => aXs_sound hK post hd2 g' σ' a' w' hr hk
    unfold wpList
    simp only [List.nil_append]
    by_cases hw : Region.wanted o (yielded ops a.tmps) = true
    · rw [if_pos hw] at this ⊢; exact .inl this
    · rw [if_neg hw] at this ⊢; exact this
  | p :: rest, hd, g, σ, a, w, h, hs => by
    have ih := aXs_sort_sound (ops := ops) hd0 hd2 hK rest fun o ho => hd o (List.mem_cons_of_mem _ ho)
    have := aX_sound (Q := Q') h (hd p List.mem_cons_self) hs (K' := wpList X.P ops Q' (rest ++ o :: post)) fun σ' g' a' w' hk hr => ih g' σ' a' w' hr hk
    rw [List.cons_append]
    unfold wpList
    by_cases hw : Region.wanted p (yielded ops a.tmps) = true
    · rw [if_pos hw] at this ⊢; exact .inl this
    · rw [if_neg hw] at this ⊢; exact this
end

/-- a region in which operation `n` turns a row in place -/
theorem awp_sort {X : Ctx} {Q : Exit → AState → Prop} {σ : AState} {P : Program} {N : Nat} {id : Nat} {l : List Oper} {o : Oper} (hP : X.P = P) (hN : X.N = N) (n : Nat) (ho : l[n]? = some o) (hd : dstsOk N l = true)
    (h : aXs P l.toArray (fun σ1 => sortX P σ1 o (aXs P l.toArray (Q .normal) (l.drop (n + 1)))) (l.take n) σ) : AWp X (.region id l.toArray false) Q σ := fun g a w hr => by
  subst hP; subst hN
  have hl : l.take n ++ o :: l.drop (n + 1) = l := by
    obtain ⟨hlt, he⟩ := List.getElem?_eq_some_iff.1 ho
    rw [← he, List.getElem_cons_drop hlt, List.take_append_drop]
  have := aXs_sort_sound (ops := l.toArray) (o := o) (post := l.drop (n + 1)) (K := Q .normal) (Q' := Lift X Q) (dstsOk_spec hd o (List.mem_of_getElem? ho)) (fun o ho => dstsOk_spec hd o (List.mem_of_mem_drop ho))
    (fun σ' g' _ _ hk hr => ⟨σ', g', hk, hr⟩) (l.take n) (fun o ho => dstsOk_spec hd o (List.mem_of_mem_take ho)) g σ a w hr h
  rw [hl] at this
  exact wp_region_lit this

/-! ### the function itself -/

def sEnd (P : Program) (fn : Func) (e : TypeId) (R : List Value → Value → Prop) : Exit → AState → Prop
  | .normal, σ | .ret, σ => match σ.get 0 with
    | .own _ e' vs' => e' = e ∧ (match resOf P σ fn.results.toList with
      | some (.v rv) => R vs' rv
      | _ => False)
    | _ => False
  | _, _ => False

theorem scalls_of {P : Program} {f : FuncId} {fn : Func} {c : Code} {e : TypeId} {vs : List Value} {args : List AV} {N : Nat} {R : List Value → Value → Prop} (hf : P.funcs[f]? = some fn) (hNn : fn.ntmps = N)
    (hn : (fn.name == "runtime.NumGoroutine") = false) (hb : fn.body = some c) (hl0 : (Nat.ble (args.length + 1) N && Nat.ble N 1048575) = true) (hp : args.all AV.plain = true) (rv : ResultVar) (hres : fn.results.toList = [rv])
    (h0 : ∀ (X : Ctx), X.P = P → X.N = N + 1048576 → ∀ m, m = 0 → AWp X c (sEnd P fn e R) (startSt (.own 0 e vs :: args) m)) : SCalls P f e vs args R := by
  refine ⟨⟨fn, hf, hn, by rw [hb]; rfl⟩, fun w F o x vals h1 h2 hxo h3 h4 => ?_⟩
  refine calls_of_wp hf hb ?_
  obtain ⟨X, hX⟩ : ∃ X : Ctx, X = ⟨P, w, F, none, fn.ntmps + 1048576, undef, [], fun b => o = some b, x⟩ := ⟨_, rfl⟩
  obtain ⟨g0, hg0⟩ : ∃ g : Gh, g = ⟨fun d => if d = 0 then o else none, none, undef, []⟩ := ⟨_, rfl⟩
  have hFb' : Fb X g0 = fun b => F b ∨ o = some b := funext fun b => propext ⟨fun hb => (by
      subst hX; subst hg0
      rcases hb with hb | ⟨d, hd⟩ | hb
      · exact .inl hb
      · simp only at hd
        split at hd
        · exact .inr hd
        · cases hd
      · cases hb), fun hb => (by
      subst hX; subst hg0
      exact hb.elim .inl fun hb => .inr (.inl ⟨0, by simpa using hb⟩))⟩
  have hl1 := (ble2 hl0).1
  have hl2 := (ble2 hl0).2
  have hslot0 : ((#[x] ++ vals) ++ Array.replicate (fn.ntmps - (#[x] ++ vals).size) undef).getD 0 undef = x := by simp [Array.getD_eq_getD_getElem?, Array.getElem?_append]
  have hrep : Rep X g0 (startSt (.own 0 e vs :: args) 0) { tmps := (#[x] ++ vals) ++ Array.replicate (fn.ntmps - (#[x] ++ vals).size) undef, defers := [] } w := by
    have hsz := h4.1
    have hsize : ((#[x] ++ vals) ++ Array.replicate (fn.ntmps - (#[x] ++ vals).size) undef).size = (fn.ntmps + 1048576) % 1048576 := by rw [Nat.add_mod_right, Nat.mod_eq_of_lt (by omega)]; simp; omega
    refine { size := (by rw [hX]; exact hsize), defers := rfl, frame := (by rw [hX]; exact Step.refl _ _), low := (by rw [hX]; exact h1), inj := ?_, new := ?_, rhoF := (by rw [hX]; exact fun _ e => (by cases e)), rho := (by rw [hX, hg0]; exact .inl rfl), keep := (by rw [hX, hg0]; exact fun h => absurd rfl h), rd := (by rw [hg0]; exact fun _ e => (by cases e)), rep := ?_, hH := (by rw [hX]; exact fun b hb => ⟨(h2 b hb).2, fun e => by cases e⟩), pin := (by rw [hX]; exact fun _ => hslot0) }
    · rw [hg0]
      intro d d' b hd hd'
      simp only at hd hd'
      split at hd
      · split at hd'
        · omega
        · cases hd'
      · cases hd
    · rw [hg0, hX]
      intro d b hd
      simp only at hd
      split at hd
      · exact ⟨.inr hd, (h2 b hd).1, fun e => by cases e⟩
      · cases hd
    · intro t
      rw [hFb', startSt_args]
      cases t with
      | zero =>
        simp only [List.getElem?_cons_zero, Option.getD_some]
        rw [hslot0, hg0, hX]
        exact h3
      | succ t =>
        simp only [List.getElem?_cons_succ]
        cases ht : args[t]? with
        | none => simp only [Option.getD_none]; trivial
        | some av =>
          obtain ⟨y, hy, hr⟩ := h4.2 t av ht
          have hlt : t < vals.size := (Array.getElem?_eq_some_iff.1 hy).1
          have : ((#[x] ++ vals) ++ Array.replicate (fn.ntmps - (#[x] ++ vals).size) undef).getD (t + 1) undef = y := by
            rw [Array.getD_eq_getD_getElem?, Array.getElem?_append_left (by simp; omega), Array.getElem?_append_right (by simp)]
            simp [hy]
          simp only [Option.getD_some]
          rw [this]
          have hst : ∀ av' : AV, RepV P (fun b => F b ∨ o = some b) (fun _ => none) none w y av' → (∀ d, av'.has d = true → False) → RepV X.P (fun b => F b ∨ o = some b) g0.own g0.rho w y av' := fun av' hr hh => by
            rw [hX, hg0]
            exact hr.step (Step.refl (fun _ => False) w) (fun _ _ hb => hb) (fun _ _ hc => hc.elim) (fun d hd => (hh d hd).elim) rfl
          have hpl := List.all_eq_true.1 hp av (List.mem_of_getElem? ht)
          cases av <;> simp only [AV.plain, Bool.false_eq_true] at hpl
          all_goals exact hst _ hr (by simp [AV.has])
  have hw := h0 X (by rw [hX]) (by rw [hX, hNn]) 0 rfl
  have hXP : X.P = P := by rw [hX]
  have hw2 := hw g0 _ w hrep
  rw [hXP] at hw2
  refine wp_mono hw2 fun e' a' w' ⟨σ, g, hQ, hr⟩ => ?_
  have hpin : a'.tmps.getD 0 undef = x := by
    have := hr.pin (by rw [hX]; simp only; omega)
    rw [this, hX]
  have key : (match σ.get 0 with | .own _ e' vs' => e' = e ∧ (match resOf P σ fn.results.toList with | some (.v rv) => R vs' rv | _ => False) | _ => False) → a'.defers = [] ∧ ∃ v, (results fn a'.tmps).run P w' = .ok v w' ∧
      ∃ (vs' : List Value) (rv : Value), Ending.returned v = .returned rv ∧ R vs' rv ∧ vs'.length = vs.length ∧ (∀ y ∈ vs', EltOk (P.cellsOf e) y) ∧
      ((vs = [] ∧ Step (fun _ => False) w w') ∨ (∃ (g : Nat) (cur cur2 : Array Value), o = some g ∧ w.heap[g]? = some (.cells cur e (0, 0)) ∧ w'.heap[g]? = some (.cells cur2 e (0, 0)) ∧ cur2.size = cur.size ∧
        cur2.toList.take (vs.length * P.cellsOf e) = flat vs' ∧ Step (fun b => b = g) w w')) := by
    intro hk
    have hfr := hr.frame
    rw [hX] at hfr
    have h00 := hr.rep 0
    rw [hpin] at h00
    cases hs0 : σ.get 0 <;> rw [hs0] at hk h00 <;> simp only at hk <;> try exact hk.elim
    rename_i d e0 vs'
    obtain ⟨rfl, hk⟩ := hk
    rw [hres] at hk
    simp only [resOf] at hk
    cases hr1 : res1 P σ rv with
    | none => rw [hr1] at hk; exact hk.elim
    | some r =>
      rw [hr1] at hk
      cases r <;> simp only at hk <;> try exact hk.elim
      rename_i rv0
      obtain ⟨v, e1, r1⟩ := res1_sound hr (by rw [hXP]; exact hr1)
      have r1 : v = rv0 := r1
      subst r1
      have e1' : (rsem a'.tmps rv).run P w' = .ok v w' := by rw [← hXP]; exact e1
      have hrun : (results fn a'.tmps).run P w' = .ok v w' := by
        rw [results_run, hres]
        simp only [List.mapM_cons, List.mapM_nil, Sem.run_bind, e1', Result.andThen_ok, Sem.run_pure]
      have hel : ∀ y ∈ vs', EltOk (P.cellsOf e0) y := by
        have := h00.1
        rwa [hXP] at this
      rcases h00.2 with ⟨hx, hv'⟩ | ⟨b, k1, k2, k3⟩
      · subst hx
        have ho : o = none := hxo.symm
        have hvs : vs = [] := by
          rcases h3.2 with ⟨_, hv⟩ | ⟨b, hb, hob, _⟩
          · exact hv
          · simp [Value.ownBlock] at hob
        exact ⟨hr.defers, v, hrun, vs', v, rfl, hk, by rw [hv', hvs], hel, .inl ⟨hvs, hfr.mono fun b _ hb => by
          rcases hb with hb | hb
          · cases hb
          · rw [ho] at hb; cases hb⟩⟩
      · rcases h3.2 with ⟨hx, _⟩ | ⟨b0, q1, q2, q3⟩
        · subst hx
          simp [Value.ownBlock] at k2
        rw [hXP] at k3
        rcases k3.2 with ⟨hx, _⟩ | ⟨b1, cap1, cur2, hx1, _, hh1, hc1, hc2, hc3, hc4⟩
        · subst hx
          simp [Value.ownBlock] at k2
        rcases q3.2 with ⟨hx, _⟩ | ⟨b2, cap2, cur, hx2, _, hh2, hd1, hd2, hd3, hd4⟩
        · subst hx
          simp [Value.ownBlock] at k2
        rw [hx1] at hx2
        simp only [Value.slice.injEq, Option.some.injEq, Addr.mk.injEq, and_true] at hx2
        obtain ⟨hbb, hnn, hcc⟩ := hx2
        have ho : o = some b1 := by
          rw [← hxo, hx1]
          rfl
        have hbb : b1 = b2 := by simpa using hbb
        subst hbb
        subst hcc
        refine ⟨hr.defers, v, hrun, vs', v, rfl, hk, hnn, hel, .inr ⟨b1, cur, cur2, ho, hh2, hh1, by rw [hc3, hd3], by rw [← hnn]; exact hc4, hfr.mono fun z _ hz => ?_⟩⟩
        rcases hz with hz | hz
        · cases hz
        · rw [ho] at hz
          simpa using hz.symm
  cases e' with
  | normal => exact key hQ
  | ret => exact key hQ
  | _ => exact hQ.elim

end Go.Proofs.YtellipmolheaaaaDoor
