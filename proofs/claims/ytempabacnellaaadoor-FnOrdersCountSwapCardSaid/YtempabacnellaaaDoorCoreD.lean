import Derived.Test.YtempabacnellaaaDoorCoreB
import Derived.Laws.CopyRow
set_option linter.unusedSimpArgs false
set_option linter.unusedVariables false
namespace Go.Proofs.YtempabacnellaaaDoor
open Go Go.RowKit

/-! ## rows that are handed over -/

/-- THE CONTRACT of a function to which a row of the caller's own is handed over as its first argument: its result is a row that is the caller's own -/
def HCalls (P : Program) (f : FuncId) (e : TypeId) (vs : List Value) (args : List AV) (R : List Value → Prop) : Prop :=
  goFn P f ∧ ∀ (w : World) (F : Nat → Prop) (o : Option Nat) (x : Value) (vals : Array Value), (∀ b, F b → b < w.heap.size) → (∀ b, o = some b → b < w.heap.size ∧ ¬ F b) →
    OwnR P (fun _ => o) w 0 e x vs → ArgsR P (fun b => F b ∨ o = some b) none w vals args →
    Calls P f (#[x] ++ vals) w fun en w' => ∃ (rv : Value) (vs' : List Value), en = .returned rv ∧ R vs' ∧ (∀ y ∈ vs', EltOk (P.cellsOf e) y) ∧
      ((rv = .slice none 0 0 ∧ vs' = []) ∨ ∃ g, (o = some g ∨ w.heap.size ≤ g) ∧ rv.ownBlock = some g ∧ w'.ownsRow g e (P.cellsOf e) rv vs'.length (flat vs')) ∧ Step (fun b => o = some b) w w'

section
variable {X : Ctx} {g : Gh} {σ : AState} {a : Act} {w : World}

theorem Rep.hargs (h : Rep X g σ a w) (i : Nat) (xs : List Operand) (hva : ∀ x ∈ xs, σ.va x = true) (hno : xs.all (fun x => !(σ.val x).has i && ((σ.val x).toArg X.P).noRd) = true) :
    ArgsR X.P (fun b => (Fb X g b ∧ ∀ d, g.own d ≠ some b) ∨ g.own i = some b) none w (xs.map a.eval).toArray (xs.map fun x => (σ.val x).toArg X.P) := by
  refine ⟨by simp, fun j av hj => ?_⟩
  simp only [List.getElem?_map, Option.map_eq_some_iff] at hj
  obtain ⟨x, hx, rfl⟩ := hj
  refine ⟨a.eval x, by simp [hx], ?_⟩
  have hxr := h.val (x := x) (hva x (List.mem_of_getElem? hx))
  have hn := List.all_eq_true.1 hno x (List.mem_of_getElem? hx)
  rw [Bool.and_eq_true, Bool.not_eq_true'] at hn
  have hless : ∀ b, (Fb X g b ∧ ∀ d, g.own d ≠ some b) ∨ g.own i = some b → Fb X g b := fun b hb => hb.elim (·.1) (fun hb => .inr (.inl ⟨i, hb⟩))
  generalize hav : σ.val x = av at hxr hn
  have hstep := fun (ho : ∀ d, av.has d = true → False) => hxr.step (F' := fun b => (Fb X g b ∧ ∀ d, g.own d ≠ some b) ∨ g.own i = some b) (own' := fun _ => none) (rho' := g.rho) (Step.refl (fun _ => False) w) (fun b _ hb => hless b hb) (fun _ _ hb => hb.elim) (fun d hd => (ho d hd).elim) rfl
  have hother : ∀ d, (d == i) = false → ∀ b, g.own d = some b → ¬ ((Fb X g b ∧ ∀ d, g.own d ≠ some b) ∨ g.own i = some b) := fun d hdi b hb hf => by
    rcases hf with hf | hf
    · exact hf.2 d hb
    · have := h.inj d i b hb hf
      subst this
      simp at hdi
  cases av
  case own d e vs => exact OwnR.sl hxr (hother d hn.1)
  case vw d k vs => exact Sl.less hxr (fun b hb => ⟨hless b hb, fun e => hother d hn.1 b e hb⟩)
  case bx d cells off => trivial
  case ep d e vs i off => trivial
  case cnd c' x' => trivial
  case tupo d e vs rest => trivial
  case free => trivial
  case mp d t ks => trivial
  case rd => simp [AV.toArg, AV.noRd] at hn
  all_goals exact RepV.noRd (hstep (by simp [AV.has])) rfl

/-- a call to which a row is handed over -/
def handX (P : Program) (σ : AState) (o : Oper) (K : AState → Prop) : Prop :=
  ∃ (c : Call) (d : Nat) (fo : Operand) (f : FuncId) (e : TypeId) (vs : List Value) (i : Nat) (x0 : Operand) (xs : List Operand) (R : List Value → Prop),
    o.op = .call c ∧ o.dst = some d ∧ o.guard = none ∧ c.callee = .value fo ∧ σ.val fo = .clo f [] [] ∧ c.args.toList = x0 :: xs ∧ σ.val x0 = .own i e vs ∧ vaAll σ.va c.operands.toList ∧
    xs.all (fun x => !(σ.val x).has i && ((σ.val x).toArg P).noRd) = true ∧ HCalls P f e vs (xs.map fun x => (σ.val x).toArg P) R ∧
    ∀ vs', R vs' → K ((σ.map (AV.kill2 (some i) d)).put (some d) (.own d e vs'))

theorem handX_sound {ops : Array Oper} {o : Oper} {K : AState → Prop} {K' : Act → World → Prop} {Q : Exit → Act → World → Prop} (h : Rep X g σ a w) (hd : dstOk X.N o.dst = true) (hs : handX X.P σ o K)
    (hK : ∀ σ' g' a' w', K σ' → Rep X g' σ' a' w' → K' a' w') :
    if Region.wanted o (yielded ops a.tmps) = true then o.wp X.P a w K' Q else K' (a.put o.dst undef) w := by
  obtain ⟨c, d, fo, f, e, vs, i, x0, xs, R, ho, hdst, hg, hcal, hfo, hargs, h0, hva, hno, ⟨⟨fn, hf, hn, hb⟩, hA⟩, hk⟩ := hs
  rw [if_pos (wanted_none hg)]
  have hd' : d < X.N := by rw [hdst] at hd; simpa [dstOk] using hd
  have hfv : σ.va fo = true := vaAll_spec _ hva fo (by simp [Call.operands, hcal])
  have hxv : ∀ x ∈ c.args.toList, σ.va x = true := fun x hx => vaAll_spec _ hva x (by simp [Call.operands]; exact .inr (by simpa using hx))
  have hrep := h.val hfv
  rw [hfo] at hrep
  obtain ⟨fs, cs, he, s1, s2, _, _⟩ := hrep
  have e1 : fs = #[] := by apply Array.eq_empty_of_size_eq_zero; simpa using s1
  have e2 : cs = #[] := by apply Array.eq_empty_of_size_eq_zero; simpa using s2
  subst e1; subst e2
  have har := h.hargs i xs (fun x hx => hxv x (by rw [hargs]; exact List.mem_cons_of_mem _ hx)) hno
  have hown := h.val (x := x0) (hxv x0 (by rw [hargs]; exact List.mem_cons_self))
  rw [h0] at hown
  have hargs' : c.args = (x0 :: xs).toArray := by apply Array.ext'; simp [hargs]
  have hexec : (execOp a.eval o).run X.P w = .ok (.enter f (#[a.eval x0] ++ (xs.map a.eval).toArray)) w := by
    have h1 : ∀ ty, (do let d ← resolve a.eval c ty; invoke d.target d.args : Sem Next).run X.P w = (callFunc f (#[a.eval x0] ++ (xs.map a.eval).toArray)).run X.P w := fun ty => by
      simp only [resolve, hcal, he, Deferred.ofValue, Sem.run_bind, Sem.run_pure, Result.andThen_ok, invoke, hargs']
      congr 2
      simp
    have h2 := (h1 o.type).trans (run_callFunc hf hn hb)
    obtain ⟨dst, op, type, pos, after, guard⟩ := o
    simp only at ho
    subst ho
    exact h2
  have hcall := hA w (fun b => Fb X g b ∧ ∀ d, g.own d ≠ some b) (g.own i) (a.eval x0) (xs.map a.eval).toArray (fun b hb => h.Flt hb.1) (fun b hb => ⟨(h.new i b hb).2.1, fun hf => hf.2 i hb⟩) hown har
  unfold Oper.wp
  rw [hexec, Oper.upon_enter]
  refine hcall.mono fun en w' ⟨rv, vs', hev, hR, hel, hrow, hst⟩ => ?_
  subst hev
  rw [hdst]
  obtain ⟨g', hrep⟩ := h.row (i := some i) (d := d) (e := e) (m := σ.rd) hd' (v := rv) (vs := vs') hst (fun b hb => .inl ⟨i, rfl, hb⟩)
    (fun β hβ => by
      obtain ⟨⟨p, ty, h6, h7⟩, h8, h9⟩ := h.rd β hβ
      exact ⟨⟨p, ty, (hst.block β (Array.getElem?_eq_some_iff.1 h6).1 fun hc => (h.new i β hc).2.2 hβ).trans h6, h7⟩, h8.step hst (fun _ _ hf => hf) (fun b _ hc => .inr (.inl ⟨i, hc⟩)), h9⟩) hel
    (by rcases hrow with hr | ⟨b, r1, r2, r3⟩
        · exact .inl hr
        · refine .inr ⟨b, r2, r1.imp (fun hb => ⟨i, rfl, hb⟩) id, ?_, r3⟩
          rcases r3.2 with ⟨e0, _⟩ | ⟨b', _, _, e0, _, hh, _⟩
          · rw [e0] at r2; simp [Value.ownBlock] at r2
          · rw [e0] at r2
            have : b' = b := by simpa [Value.ownBlock] using r2
            subst this
            exact (Array.getElem?_eq_some_iff.1 hh).1)
  exact hK _ g' _ _ (hk vs' hR) hrep

/-- operations, then one to which a row is handed over, then operations -/
theorem aXs_hand_sound {ops : Array Oper} {o : Oper} {post : List Oper} {K : AState → Prop} {Q' : Exit → Act → World → Prop} (hd0 : dstOk X.N o.dst = true) (hd2 : ∀ o ∈ post, dstOk X.N o.dst = true)
    (hK : ∀ σ' g' a' w', K σ' → Rep X g' σ' a' w' → Q' .normal a' w') : ∀ (pre : List Oper), (∀ o ∈ pre, dstOk X.N o.dst = true) →
    ∀ (g : Gh) (σ : AState) (a : Act) (w : World), Rep X g σ a w → aXs X.P ops (fun σ1 => handX X.P σ1 o (aXs X.P ops K post)) pre σ → wpList X.P ops Q' (pre ++ o :: post) a w
  | [], _, g, σ, a, w, h, hs => by
    have := handX_sound (ops := ops) (Q := Q') h hd0 hs (K' := wpList X.P ops Q' post) fun σ' g' a' w' hk hr => aXs_sound hK post hd2 g' σ' a' w' hr hk
    unfold wpList
    simp only [List.nil_append]
    by_cases hw : Region.wanted o (yielded ops a.tmps) = true
    · rw [if_pos hw] at this ⊢; exact .inl this
    · rw [if_neg hw] at this ⊢; exact this
  | p :: rest, hd, g, σ, a, w, h, hs => by
    have ih := aXs_hand_sound (ops := ops) hd0 hd2 hK rest fun o ho => hd o (List.mem_cons_of_mem _ ho)
    have := aX_sound (Q := Q') h (hd p List.mem_cons_self) hs (K' := wpList X.P ops Q' (rest ++ o :: post)) fun σ' g' a' w' hk hr => ih g' σ' a' w' hr hk
    rw [List.cons_append]
    unfold wpList
    by_cases hw : Region.wanted p (yielded ops a.tmps) = true
    · rw [if_pos hw] at this ⊢; exact .inl this
    · rw [if_neg hw] at this ⊢; exact this
end

theorem awp_hand {X : Ctx} {Q : Exit → AState → Prop} {σ : AState} {P : Program} {N : Nat} {id : Nat} {l : List Oper} {o : Oper} (hP : X.P = P) (hN : X.N = N) (n : Nat) (ho : l[n]? = some o) (hd : dstsOk N l = true)
    (h : aXs P l.toArray (fun σ1 => handX P σ1 o (aXs P l.toArray (Q .normal) (l.drop (n + 1)))) (l.take n) σ) : AWp X (.region id l.toArray false) Q σ := fun g a w hr => by
  subst hP; subst hN
  have hl : l.take n ++ o :: l.drop (n + 1) = l := by
    obtain ⟨hlt, he⟩ := List.getElem?_eq_some_iff.1 ho
    rw [← he, List.getElem_cons_drop hlt, List.take_append_drop]
  have := aXs_hand_sound (ops := l.toArray) (o := o) (post := l.drop (n + 1)) (K := Q .normal) (Q' := Lift X Q) (dstsOk_spec hd o (List.mem_of_getElem? ho)) (fun o ho => dstsOk_spec hd o (List.mem_of_mem_drop ho))
    (fun σ' g' _ _ hk hr => ⟨σ', g', hk, hr⟩) (l.take n) (fun o ho => dstsOk_spec hd o (List.mem_of_mem_take ho)) g σ a w hr h
  rw [hl] at this
  exact wp_region_lit this

/-! ### a function to which a row is handed over -/

def AV.plain : AV → Bool
  | .any | .v _ | .sl _ _ | .ptr _ _ | .clo _ _ _ => true
  | _ => false

theorem hcalls_of {P : Program} {f : FuncId} {fn : Func} {c : Code} {e : TypeId} {vs : List Value} {args : List AV} {N : Nat} {R : List Value → Prop} (hf : P.funcs[f]? = some fn) (hNn : fn.ntmps = N)
    (hn : (fn.name == "runtime.NumGoroutine") = false) (hb : fn.body = some c) (hl0 : Nat.ble (args.length + 1) N = true) (hp : args.all AV.plain = true) (rv : ResultVar) (hres : fn.results.toList = [rv])
    (h0 : ∀ (X : Ctx), X.P = P → X.N = N → ∀ m, m = 0 → AWp X c (aEnd P fn LIM (fun r => ∃ d vs', r = .own d e vs' ∧ R vs')) (startSt (.own 0 e vs :: args) m)) : HCalls P f e vs args R := by
  refine ⟨⟨fn, hf, hn, by rw [hb]; rfl⟩, fun w F o x vals h1 h2 h3 h4 => ?_⟩
  refine calls_of_wp hf hb ?_
  obtain ⟨X, hX⟩ : ∃ X : Ctx, X = ⟨P, w, F, none, fn.ntmps, undef, [], fun b => o = some b⟩ := ⟨_, rfl⟩
  obtain ⟨g0, hg0⟩ : ∃ g : Gh, g = ⟨fun d => if d = 0 then o else none, none, undef, []⟩ := ⟨_, rfl⟩
  have hFb' : Fb X g0 = fun b => F b ∨ o = some b := funext fun b => propext ⟨fun hb => (by
      subst hX; subst hg0
      rcases hb with hb | ⟨d, hd⟩ | hb
      · exact .inl hb
      · simp only at hd
        split at hd
        · exact .inr hd
        · cases hd
      · cases hb), fun hb => (by
      subst hX; subst hg0
      exact hb.elim .inl fun hb => .inr (.inl ⟨0, by simpa using hb⟩))⟩
  have hrep : Rep X g0 (startSt (.own 0 e vs :: args) 0) { tmps := (#[x] ++ vals) ++ Array.replicate (fn.ntmps - (#[x] ++ vals).size) undef, defers := [] } w := by
    have hsz := h4.1
    have hl1 := Nat.le_of_ble_eq_true hl0
    have hsize : ((#[x] ++ vals) ++ Array.replicate (fn.ntmps - (#[x] ++ vals).size) undef).size = fn.ntmps := by simp; omega
    refine { size := (by rw [hX]; exact hsize), defers := rfl, frame := (by rw [hX]; exact Step.refl _ _), low := (by rw [hX]; exact h1), inj := ?_, new := ?_, rhoF := (by rw [hX]; exact fun _ e => (by cases e)), rho := (by rw [hX, hg0]; exact .inl rfl), keep := (by rw [hX, hg0]; exact fun h => absurd rfl h), rd := (by rw [hg0]; exact fun _ e => (by cases e)), rep := ?_, hH := (by rw [hX]; exact fun b hb => ⟨(h2 b hb).2, fun e => by cases e⟩) }
    · rw [hg0]
      intro d d' b hd hd'
      simp only at hd hd'
      split at hd
      · split at hd'
        · omega
        · cases hd'
      · cases hd
    · rw [hg0, hX]
      intro d b hd
      simp only at hd
      split at hd
      · exact ⟨.inr hd, (h2 b hd).1, fun e => by cases e⟩
      · cases hd
    · intro t
      rw [hFb', startSt_args]
      cases t with
      | zero =>
        simp only [List.getElem?_cons_zero, Option.getD_some]
        have : ((#[x] ++ vals) ++ Array.replicate (fn.ntmps - (#[x] ++ vals).size) undef).getD 0 undef = x := by simp [Array.getD_eq_getD_getElem?, Array.getElem?_append]
        rw [this, hg0, hX]
        exact h3
      | succ t =>
        simp only [List.getElem?_cons_succ]
        cases ht : args[t]? with
        | none => simp only [Option.getD_none]; trivial
        | some av =>
          obtain ⟨y, hy, hr⟩ := h4.2 t av ht
          have hlt : t < vals.size := (Array.getElem?_eq_some_iff.1 hy).1
          have : ((#[x] ++ vals) ++ Array.replicate (fn.ntmps - (#[x] ++ vals).size) undef).getD (t + 1) undef = y := by
            rw [Array.getD_eq_getD_getElem?, Array.getElem?_append_left (by simp; omega), Array.getElem?_append_right (by simp)]
            simp [hy]
          simp only [Option.getD_some]
          rw [this]
          have hst : ∀ av' : AV, RepV P (fun b => F b ∨ o = some b) (fun _ => none) none w y av' → (∀ d, av'.has d = true → False) → RepV X.P (fun b => F b ∨ o = some b) g0.own g0.rho w y av' := fun av' hr hh => by
            rw [hX, hg0]
            exact hr.step (Step.refl (fun _ => False) w) (fun _ _ hb => hb) (fun _ _ hc => hc.elim) (fun d hd => (hh d hd).elim) rfl
          have hpl := List.all_eq_true.1 hp av (List.mem_of_getElem? ht)
          cases av <;> simp only [AV.plain, Bool.false_eq_true] at hpl
          all_goals exact hst _ hr (by simp [AV.has])
  have hw := h0 X (by rw [hX]) (by rw [hX]; exact hNn) 0 rfl
  have hXP : X.P = P := by rw [hX]
  have hw2 := hw g0 _ w hrep
  rw [hXP] at hw2
  refine wp_mono hw2 fun e' a' w' ⟨σ, g, hQ, hr⟩ => ?_
  have key : (σ.rd ≤ LIM ∧ match resOf P σ fn.results.toList with | some r => (∃ d vs', r = .own d e vs' ∧ R vs') | none => False) → a'.defers = [] ∧ ∃ v, (results fn a'.tmps).run P w' = .ok v w' ∧
      ∃ (rv : Value) (vs' : List Value), Ending.returned v = .returned rv ∧ R vs' ∧ (∀ y ∈ vs', EltOk (P.cellsOf e) y) ∧
        ((rv = .slice none 0 0 ∧ vs' = []) ∨ ∃ g, (o = some g ∨ w.heap.size ≤ g) ∧ rv.ownBlock = some g ∧ w'.ownsRow g e (P.cellsOf e) rv vs'.length (flat vs')) ∧ Step (fun b => o = some b) w w' := by
    rintro ⟨_, hk⟩
    rw [hres] at hk
    simp only [resOf] at hk
    cases hr1 : res1 P σ rv with
    | none => rw [hr1] at hk; exact hk.elim
    | some r =>
      rw [hr1] at hk
      have hk' : ∃ d vs', r = .own d e vs' ∧ R vs' := by
        cases r <;> simp only at hk <;> try exact hk.elim
        all_goals exact hk
      obtain ⟨d, vs', rfl, hR⟩ := hk'
      obtain ⟨v, e1, r1⟩ := res1_sound hr (by rw [hXP]; exact hr1)
      refine ⟨hr.defers, v, ?_, v, vs', rfl, hR, ?_, ?_, ?_⟩
      · rw [results_run, hres]
        have e1' : (rsem a'.tmps rv).run P w' = .ok v w' := by rw [← hXP]; exact e1
        simp only [List.mapM_cons, List.mapM_nil, Sem.run_bind, e1', Result.andThen_ok, Sem.run_pure]
      · have := r1.1
        rwa [hXP] at this
      · rcases r1.2 with h | ⟨b, h6, h7, h8⟩
        · exact .inl h
        · refine .inr ⟨b, ?_, h7, by rw [← hXP]; exact h8⟩
          have := (hr.new d b h6).1
          rw [hX] at this
          exact this.symm
      · have := hr.frame
        rw [hX] at this
        exact this.mono fun b _ hb => hb.resolve_left (fun e => by cases e)
  cases e' with
  | normal => exact key hQ
  | ret => exact key hQ
  | _ => exact hQ.elim

end Go.Proofs.YtempabacnellaaaDoor
