import Derived.Test.YtellipmolheaaaaGreatDoorCoreB
import Derived.Laws.CopyRow
set_option linter.unusedSimpArgs false
set_option linter.unusedVariables false
namespace Go.Proofs.YtellipmolheaaaaGreatDoor
open Go Go.RowKit

/-! ## rows that are handed over -/

/-- THE CONTRACT of a function to which a row of the caller's own is handed over as its first argument: its result is a row that is the caller's own -/
def HCalls (P : Program) (f : FuncId) (e : TypeId) (vs : List Value) (args : List AV) (R : List Value → Prop) : Prop :=
  goFn P f ∧ ∀ (w : World) (F : Nat → Prop) (o : Option Nat) (x : Value) (vals : Array Value), (∀ b, F b → b < w.heap.size) → (∀ b, o = some b → b < w.heap.size ∧ ¬ F b) →
    OwnR P (fun _ => o) w 0 e x vs → ArgsR P (fun b => F b ∨ o = some b) none w vals args →
    Calls P f (#[x] ++ vals) w fun en w' => ∃ (rv : Value) (vs' : List Value), en = .returned rv ∧ R vs' ∧ (∀ y ∈ vs', EltOk (P.cellsOf e) y) ∧
      ((rv = .slice none 0 0 ∧ vs' = []) ∨ ∃ g, (o = some g ∨ w.heap.size ≤ g) ∧ rv.ownBlock = some g ∧ w'.ownsRow g e (P.cellsOf e) rv vs'.length (flat vs')) ∧ Step (fun b => o = some b) w w'

section
variable {X : Ctx} {g : Gh} {σ : AState} {a : Act} {w : World}

theorem Rep.hargs (h : Rep X g σ a w) (i : Nat) (xs : List Operand) (hva : ∀ x ∈ xs, σ.va x = true) (hno : xs.all (fun x => !(σ.val x).has i && ((σ.val x).toArg X.P).noRd) = true) :
    ArgsR X.P (fun b => (Fb X g b ∧ ∀ d, g.own d ≠ some b) ∨ g.own i = some b) none w (xs.map a.eval).toArray (xs.map fun x => (σ.val x).toArg X.P) := by
  refine ⟨by simp, fun j av hj => ?_⟩
  simp only [List.getElem?_map, Option.map_eq_some_iff] at hj
  obtain ⟨x, hx, rfl⟩ := hj
  refine ⟨a.eval x, by simp [hx], ?_⟩
  have hxr := h.val (x := x) (hva x (List.mem_of_getElem? hx))
  have hn := List.all_eq_true.1 hno x (List.mem_of_getElem? hx)
  rw [Bool.and_eq_true, Bool.not_eq_true'] at hn
  have hless : ∀ b, (Fb X g b ∧ ∀ d, g.own d ≠ some b) ∨ g.own i = some b → Fb X g b := fun b hb => hb.elim (·.1) (fun hb => .inr (.inl ⟨i, hb⟩))
  generalize hav : σ.val x = av at hxr hn
  have hstep := fun (ho : ∀ d, av.has d = true → False) => hxr.step (F' := fun b => (Fb X g b ∧ ∀ d, g.own d ≠ some b) ∨ g.own i = some b) (own' := fun _ => none) (rho' := g.rho) (Step.refl (fun _ => False) w) (fun b _ hb => hless b hb) (fun _ _ hb => hb.elim) (fun d hd => (ho d hd).elim) rfl
  have hother : ∀ d, (d == i) = false → ∀ b, g.own d = some b → ¬ ((Fb X g b ∧ ∀ d, g.own d ≠ some b) ∨ g.own i = some b) := fun d hdi b hb hf => by
    rcases hf with hf | hf
    · exact hf.2 d hb
    · have := h.inj d i b hb hf
      subst this
      simp at hdi
  cases av
  case own d e vs => exact OwnR.sl hxr (hother d hn.1)
  case vw d k vs => exact Sl.less hxr (fun b hb => ⟨hless b hb, fun e => hother d hn.1 b e hb⟩)
  case bx d cells off => trivial
  case ep d e vs i off => trivial
  case cnd c' x' => trivial
  case tupo d e vs rest => trivial
  case free => trivial
  case mp d t ks => trivial
  case rd => simp [AV.toArg, AV.noRd] at hn
  all_goals exact RepV.noRd (hstep (by simp [AV.has])) rfl

/-- a call to which a row is handed over -/
def handX (P : Program) (σ : AState) (o : Oper) (K : AState → Prop) : Prop :=
  ∃ (c : Call) (d : Nat) (fo : Operand) (f : FuncId) (e : TypeId) (vs : List Value) (i : Nat) (x0 : Operand) (xs : List Operand) (R : List Value → Prop),
    o.op = .call c ∧ o.dst = some d ∧ o.guard = none ∧ c.callee = .value fo ∧ σ.val fo = .clo f [] [] ∧ c.args.toList = x0 :: xs ∧ σ.val x0 = .own i e vs ∧ vaAll σ.va c.operands.toList ∧
    xs.all (fun x => !(σ.val x).has i && ((σ.val x).toArg P).noRd) = true ∧ HCalls P f e vs (xs.map fun x => (σ.val x).toArg P) R ∧
    ∀ vs', R vs' → K ((σ.map (AV.kill2 (some i) d)).put (some d) (.own d e vs'))

theorem handX_sound {ops : Array Oper} {o : Oper} {K : AState → Prop} {K' : Act → World → Prop} {Q : Exit → Act → World → Prop} (h : Rep X g σ a w) (hd : dstOk X.N o.dst = true) (hs : handX X.P σ o K)
    (hK : ∀ σ' g' a' w', K σ' → Rep X g' σ' a' w' → K' a' w') :
    if Region.wanted o (yielded ops a.tmps) = true then o.wp X.P a w K' Q else K' (a.put o.dst undef) w := by
  obtain ⟨c, d, fo, f, e, vs, i, x0, xs, R, ho, hdst, hg, hcal, hfo, hargs, h0, hva, hno, ⟨⟨fn, hf, hn, hb⟩, hA⟩, hk⟩ := hs
  rw [if_pos (wanted_none hg)]
  have hd' : slotOk X.N d = true := by rw [hdst] at hd; simpa [dstOk] using hd
  have hfv : σ.va fo = true := vaAll_spec _ hva fo (by simp [Call.operands, hcal])
  have hxv : ∀ x ∈ c.args.toList, σ.va x = true := fun x hx => vaAll_spec _ hva x (by simp [Call.operands]; exact .inr (by simpa using hx))
  have hrep := h.val hfv
  rw [hfo] at hrep
  obtain ⟨fs, cs, he, s1, s2, _, _⟩ := hrep
  have e1 : fs = #[] := by apply Array.eq_empty_of_size_eq_zero; simpa using s1
  have e2 : cs = #[] := by apply Array.eq_empty_of_size_eq_zero; simpa using s2
  subst e1; subst e2
  have har := h.hargs i xs (fun x hx => hxv x (by rw [hargs]; exact List.mem_cons_of_mem _ hx)) hno
  have hown := h.val (x := x0) (hxv x0 (by rw [hargs]; exact List.mem_cons_self))
  rw [h0] at hown
  have hargs' : c.args = (x0 :: xs).toArray := by apply Array.ext'; simp [hargs]
  have hexec : (execOp a.eval o).run X.P w = .ok (.enter f (#[a.eval x0] ++ (xs.map a.eval).toArray)) w := by
    have h1 : ∀ ty, (do let d ← resolve a.eval c ty; invoke d.target d.args : Sem Next).run X.P w = (callFunc f (#[a.eval x0] ++ (xs.map a.eval).toArray)).run X.P w := fun ty => by
      simp only [resolve, hcal, he, Deferred.ofValue, Sem.run_bind, Sem.run_pure, Result.andThen_ok, invoke, hargs']
      congr 2
      simp
    have h2 := (h1 o.type).trans (run_callFunc hf hn hb)
    obtain ⟨dst, op, type, pos, after, guard⟩ := o
    simp only at ho
    subst ho
    exact h2
  have hcall := hA w (fun b => Fb X g b ∧ ∀ d, g.own d ≠ some b) (g.own i) (a.eval x0) (xs.map a.eval).toArray (fun b hb => h.Flt hb.1) (fun b hb => ⟨(h.new i b hb).2.1, fun hf => hf.2 i hb⟩) hown har
  unfold Oper.wp
  rw [hexec, Oper.upon_enter]
  refine hcall.mono fun en w' ⟨rv, vs', hev, hR, hel, hrow, hst⟩ => ?_
  subst hev
  rw [hdst]
  obtain ⟨g', hrep⟩ := h.row (i := some i) (d := d) (e := e) (m := σ.rd) hd' (v := rv) (vs := vs') hst (fun b hb => .inl ⟨i, rfl, hb⟩)
    (fun β hβ => by
      obtain ⟨⟨p, ty, h6, h7⟩, h8, h9⟩ := h.rd β hβ
      exact ⟨⟨p, ty, (hst.block β (Array.getElem?_eq_some_iff.1 h6).1 fun hc => (h.new i β hc).2.2 hβ).trans h6, h7⟩, h8.step hst (fun _ _ hf => hf) (fun b _ hc => .inr (.inl ⟨i, hc⟩)), h9⟩) hel
    (by rcases hrow with hr | ⟨b, r1, r2, r3⟩
        · exact .inl hr
        · refine .inr ⟨b, r2, r1.imp (fun hb => ⟨i, rfl, hb⟩) id, ?_, r3⟩
          rcases r3.2 with ⟨e0, _⟩ | ⟨b', _, _, e0, _, hh, _⟩
          · rw [e0] at r2; simp [Value.ownBlock] at r2
          · rw [e0] at r2
            have : b' = b := by simpa [Value.ownBlock] using r2
            subst this
            exact (Array.getElem?_eq_some_iff.1 hh).1)
  exact hK _ g' _ _ (hk vs' hR) hrep

/-- operations, then one to which a row is handed over, then operations -/
theorem aXs_hand_sound {ops : Array Oper} {o : Oper} {post : List Oper} {K : AState → Prop} {Q' : Exit → Act → World → Prop} (hd0 : dstOk X.N o.dst = true) (hd2 : ∀ o ∈ post, dstOk X.N o.dst = true)
    (hK : ∀ σ' g' a' w', K σ' → Rep X g' σ' a' w' → Q' .normal a' w') : ∀ (pre : List Oper), (∀ o ∈ pre, dstOk X.N o.dst = true) →
    ∀ (g : Gh) (σ : AState) (a : Act) (w : World), Rep X g σ a w → aXs X.P ops (fun σ1 => handX X.P σ1 o (aXs X.P ops K post)) pre σ → wpList X.P ops Q' (pre ++ o :: post) a w
  | [], _, g, σ, a, w, h, hs => by
    have := handX_sound (ops := ops) (Q := Q') h hd0 hs (K' := wpList X.P ops Q' post) fun σ' g' a' w' hk hr => aXs_sound hK post hd2 g' σ' a' w' hr hk
    unfold wpList
    simp only [List.nil_append]
    by_cases hw : Region.wanted o (yielded ops a.tmps) = true
    · rw [if_pos hw] at this ⊢; exact .inl this
    · rw [if_neg hw] at this ⊢; exact this
  | p :: rest, hd, g, σ, a, w, h, hs => by
    have ih := aXs_hand_sound (ops := ops) hd0 hd2 hK rest fun o ho => hd o (List.mem_cons_of_mem _ ho)
    have := aX_sound (Q := Q') h (hd p List.mem_cons_self) hs (K' := wpList X.P ops Q' (rest ++ o :: post)) fun σ' g' a' w' hk hr => ih g' σ' a' w' hr hk
    rw [List.cons_append]
    unfold wpList
    by_cases hw : Region.wanted p (yielded ops a.tmps) = true
    · rw [if_pos hw] at this ⊢; exact .inl this
    · rw [if_neg hw] at this ⊢; exact this
end

theorem awp_hand {X : Ctx} {Q : Exit → AState → Prop} {σ : AState} {P : Program} {N : Nat} {id : Nat} {l : List Oper} {o : Oper} (hP : X.P = P) (hN : X.N = N) (n : Nat) (ho : l[n]? = some o) (hd : dstsOk N l = true)
    (h : aXs P l.toArray (fun σ1 => handX P σ1 o (aXs P l.toArray (Q .normal) (l.drop (n + 1)))) (l.take n) σ) : AWp X (.region id l.toArray false) Q σ := fun g a w hr => by
  subst hP; subst hN
  have hl : l.take n ++ o :: l.drop (n + 1) = l := by
    obtain ⟨hlt, he⟩ := List.getElem?_eq_some_iff.1 ho
    rw [← he, List.getElem_cons_drop hlt, List.take_append_drop]
  have := aXs_hand_sound (ops := l.toArray) (o := o) (post := l.drop (n + 1)) (K := Q .normal) (Q' := Lift X Q) (dstsOk_spec hd o (List.mem_of_getElem? ho)) (fun o ho => dstsOk_spec hd o (List.mem_of_mem_drop ho))
    (fun σ' g' _ _ hk hr => ⟨σ', g', hk, hr⟩) (l.take n) (fun o ho => dstsOk_spec hd o (List.mem_of_mem_take ho)) g σ a w hr h
  rw [hl] at this
  exact wp_region_lit this

/-! ### a function to which a row is handed over -/

def AV.plain : AV → Bool
  | .any | .v _ | .sl _ _ | .ptr _ _ | .clo _ _ _ => true
  | _ => false

theorem hcalls_of {P : Program} {f : FuncId} {fn : Func} {c : Code} {e : TypeId} {vs : List Value} {args : List AV} {N : Nat} {R : List Value → Prop} (hf : P.funcs[f]? = some fn) (hNn : fn.ntmps = N)
    (hn : (fn.name == "runtime.NumGoroutine") = false) (hb : fn.body = some c) (hl0 : (Nat.ble (args.length + 1) N && Nat.ble N 1048575) = true) (hp : args.all AV.plain = true) (rv : ResultVar) (hres : fn.results.toList = [rv])
    (h0 : ∀ (X : Ctx), X.P = P → X.N = N → ∀ m, m = 0 → AWp X c (aEnd P fn LIM (fun r => ∃ d vs', r = .own d e vs' ∧ R vs')) (startSt (.own 0 e vs :: args) m)) : HCalls P f e vs args R := by
  refine ⟨⟨fn, hf, hn, by rw [hb]; rfl⟩, fun w F o x vals h1 h2 h3 h4 => ?_⟩
  refine calls_of_wp hf hb ?_
  obtain ⟨X, hX⟩ : ∃ X : Ctx, X = ⟨P, w, F, none, fn.ntmps, undef, [], fun b => o = some b, undef⟩ := ⟨_, rfl⟩
  obtain ⟨g0, hg0⟩ : ∃ g : Gh, g = ⟨fun d => if d = 0 then o else none, none, undef, []⟩ := ⟨_, rfl⟩
  have hFb' : Fb X g0 = fun b => F b ∨ o = some b := funext fun b => propext ⟨fun hb => (by
      subst hX; subst hg0
      rcases hb with hb | ⟨d, hd⟩ | hb
      · exact .inl hb
      · simp only at hd
        split at hd
        · exact .inr hd
        · cases hd
      · cases hb), fun hb => (by
      subst hX; subst hg0
      exact hb.elim .inl fun hb => .inr (.inl ⟨0, by simpa using hb⟩))⟩
  have hrep : Rep X g0 (startSt (.own 0 e vs :: args) 0) { tmps := (#[x] ++ vals) ++ Array.replicate (fn.ntmps - (#[x] ++ vals).size) undef, defers := [] } w := by
    have hsz := h4.1
    have hl1 := (ble2 hl0).1
    have hl2 := (ble2 hl0).2
    have hsize : ((#[x] ++ vals) ++ Array.replicate (fn.ntmps - (#[x] ++ vals).size) undef).size = fn.ntmps % 1048576 := by rw [Nat.mod_eq_of_lt (by omega)]; simp; omega
    refine { size := (by rw [hX]; exact hsize), defers := rfl, frame := (by rw [hX]; exact Step.refl _ _), low := (by rw [hX]; exact h1), inj := ?_, new := ?_, rhoF := (by rw [hX]; exact fun _ e => (by cases e)), rho := (by rw [hX, hg0]; exact .inl rfl), keep := (by rw [hX, hg0]; exact fun h => absurd rfl h), rd := (by rw [hg0]; exact fun _ e => (by cases e)), rep := ?_, hH := (by rw [hX]; exact fun b hb => ⟨(h2 b hb).2, fun e => by cases e⟩), pin := (by rw [hX]; exact fun h => absurd h (by simp only; omega)) }
    · rw [hg0]
      intro d d' b hd hd'
      simp only at hd hd'
      split at hd
      · split at hd'
        · omega
        · cases hd'
      · cases hd
    · rw [hg0, hX]
      intro d b hd
      simp only at hd
      split at hd
      · exact ⟨.inr hd, (h2 b hd).1, fun e => by cases e⟩
      · cases hd
    · intro t
      rw [hFb', startSt_args]
      cases t with
      | zero =>
        simp only [List.getElem?_cons_zero, Option.getD_some]
        have : ((#[x] ++ vals) ++ Array.replicate (fn.ntmps - (#[x] ++ vals).size) undef).getD 0 undef = x := by simp [Array.getD_eq_getD_getElem?, Array.getElem?_append]
        rw [this, hg0, hX]
        exact h3
      | succ t =>
        simp only [List.getElem?_cons_succ]
        cases ht : args[t]? with
        | none => simp only [Option.getD_none]; trivial
        | some av =>
          obtain ⟨y, hy, hr⟩ := h4.2 t av ht
          have hlt : t < vals.size := (Array.getElem?_eq_some_iff.1 hy).1
          have : ((#[x] ++ vals) ++ Array.replicate (fn.ntmps - (#[x] ++ vals).size) undef).getD (t + 1) undef = y := by
            rw [Array.getD_eq_getD_getElem?, Array.getElem?_append_left (by simp; omega), Array.getElem?_append_right (by simp)]
            simp [hy]
          simp only [Option.getD_some]
          rw [this]
          have hst : ∀ av' : AV, RepV P (fun b => F b ∨ o = some b) (fun _ => none) none w y av' → (∀ d, av'.has d = true → False) → RepV X.P (fun b => F b ∨ o = some b) g0.own g0.rho w y av' := fun av' hr hh => by
            rw [hX, hg0]
            exact hr.step (Step.refl (fun _ => False) w) (fun _ _ hb => hb) (fun _ _ hc => hc.elim) (fun d hd => (hh d hd).elim) rfl
          have hpl := List.all_eq_true.1 hp av (List.mem_of_getElem? ht)
          cases av <;> simp only [AV.plain, Bool.false_eq_true] at hpl
          all_goals exact hst _ hr (by simp [AV.has])
  have hw := h0 X (by rw [hX]) (by rw [hX]; exact hNn) 0 rfl
  have hXP : X.P = P := by rw [hX]
  have hw2 := hw g0 _ w hrep
  rw [hXP] at hw2
  refine wp_mono hw2 fun e' a' w' ⟨σ, g, hQ, hr⟩ => ?_
  have key : (σ.rd ≤ LIM ∧ match resOf P σ fn.results.toList with | some r => (∃ d vs', r = .own d e vs' ∧ R vs') | none => False) → a'.defers = [] ∧ ∃ v, (results fn a'.tmps).run P w' = .ok v w' ∧
      ∃ (rv : Value) (vs' : List Value), Ending.returned v = .returned rv ∧ R vs' ∧ (∀ y ∈ vs', EltOk (P.cellsOf e) y) ∧
        ((rv = .slice none 0 0 ∧ vs' = []) ∨ ∃ g, (o = some g ∨ w.heap.size ≤ g) ∧ rv.ownBlock = some g ∧ w'.ownsRow g e (P.cellsOf e) rv vs'.length (flat vs')) ∧ Step (fun b => o = some b) w w' := by
    rintro ⟨_, hk⟩
    rw [hres] at hk
    simp only [resOf] at hk
    cases hr1 : res1 P σ rv with
    | none => rw [hr1] at hk; exact hk.elim
    | some r =>
      rw [hr1] at hk
      have hk' : ∃ d vs', r = .own d e vs' ∧ R vs' := by
        cases r <;> simp only at hk <;> try exact hk.elim
        all_goals exact hk
      obtain ⟨d, vs', rfl, hR⟩ := hk'
      obtain ⟨v, e1, r1⟩ := res1_sound hr (by rw [hXP]; exact hr1)
      refine ⟨hr.defers, v, ?_, v, vs', rfl, hR, ?_, ?_, ?_⟩
      · rw [results_run, hres]
        have e1' : (rsem a'.tmps rv).run P w' = .ok v w' := by rw [← hXP]; exact e1
        simp only [List.mapM_cons, List.mapM_nil, Sem.run_bind, e1', Result.andThen_ok, Sem.run_pure]
      · have := r1.1
        rwa [hXP] at this
      · rcases r1.2 with h | ⟨b, h6, h7, h8⟩
        · exact .inl h
        · refine .inr ⟨b, ?_, h7, by rw [← hXP]; exact h8⟩
          have := (hr.new d b h6).1
          rw [hX] at this
          exact this.symm
      · have := hr.frame
        rw [hX] at this
        exact this.mono fun b _ hb => hb.resolve_left (fun e => by cases e)
  cases e' with
  | normal => exact key hQ
  | ret => exact key hQ
  | _ => exact hQ.elim

/-! ### operations, then a tail that is walked by itself -/

section
variable {X : Ctx} {g : Gh} {σ : AState} {a : Act} {w : World}

theorem aXs_tail_sound {ops : Array Oper} {tail : List Oper} {K1 : AState → Prop} {Q' : Exit → Act → World → Prop}
    (hK1 : ∀ g1 σ1 a1 w1, K1 σ1 → Rep X g1 σ1 a1 w1 → wpList X.P ops Q' tail a1 w1) : ∀ (pre : List Oper), (∀ o ∈ pre, dstOk X.N o.dst = true) →
    ∀ (g : Gh) (σ : AState) (a : Act) (w : World), Rep X g σ a w → aXs X.P ops K1 pre σ → wpList X.P ops Q' (pre ++ tail) a w
  | [], _, g, σ, a, w, h, hs => hK1 g σ a w hs h
  | p :: rest, hd, g, σ, a, w, h, hs => by
    have ih := aXs_tail_sound (ops := ops) hK1 rest fun o ho => hd o (List.mem_cons_of_mem _ ho)
    have := aX_sound (Q := Q') h (hd p List.mem_cons_self) hs (K' := wpList X.P ops Q' (rest ++ tail)) fun σ' g' a' w' hk hr => ih g' σ' a' w' hr hk
    rw [List.cons_append]
    unfold wpList
    by_cases hw : Region.wanted p (yielded ops a.tmps) = true
    · rw [if_pos hw] at this ⊢; exact .inl this
    · rw [if_neg hw] at this ⊢; exact this

/-- the cells of a row are other ones -/
theorem Rep.rowUp (h : Rep X g σ a w) {d e b : Nat} {vs vs2 : List Value} {cur cur2 : Array Value} {W : World} (hg : g.own d = some b) (hh : w.heap[b]? = some (.cells cur e (0, 0)))
    (hpos : 0 < vs.length) (hlen : vs2.length = vs.length) (hnew : ∀ z ∈ vs2, EltOk (X.P.cellsOf e) z) (hst : Step (fun z => z = b) w W) (hWb : W.heap[b]? = some (.cells cur2 e (0, 0))) (hsize : cur2.size = cur.size)
    (hcells : cur2.toList.take (vs.length * X.P.cellsOf e) = flat vs2) : Rep X g (σ.map (AV.updR d vs.length vs2)) a W := by
  have hCF : ∀ z, z < w.heap.size → z = b → Fb X g z := fun z _ e => .inr (.inl ⟨d, e ▸ hg⟩)
  refine h.remap hst rfl rfl rfl (fun z e => ⟨d, e ▸ hg⟩) (fun _ _ hf => hf) h.inj (fun d' z hd' => ?_) rfl (fun y av hy => ?_)
  · obtain ⟨h2, h3, h4⟩ := h.new d' z hd'
    exact ⟨h2, Nat.lt_of_lt_of_le h3 hst.size, h4⟩
  · have other : av.has d = false → RepV X.P (Fb X g) g.own g.rho W y av := fun hh =>
      hy.step hst (fun _ _ hf => hf) hCF (fun d' hd' => ⟨rfl, fun z hz e => by
        subst e
        have := h.inj d' d z hz hg
        subst this
        rw [hh] at hd'
        cases hd'⟩) rfl
    cases av
    case own d' e' vs' =>
      simp only [AV.updR]
      split
      · rename_i hd
        subst hd
        split
        · rename_i hlen'
          obtain ⟨hel', hr'⟩ := hy
          rcases hr' with ⟨rfl, rfl⟩ | ⟨b2, hg2, hob2, hrow2⟩
          · simp at hlen'; omega
          · rw [hg] at hg2
            have : b = b2 := by simpa using hg2
            subst this
            rcases hrow2.2 with ⟨_, h0⟩ | ⟨b3, cap2, cur3, rfl, _, hh2, hd1, hd2, hd3, hd4⟩
            · omega
            · have : b3 = b := by simpa [Value.ownBlock] using hob2
              subst this
              rw [hh] at hh2
              simp only [Option.some.injEq, Obj.cells.injEq] at hh2
              obtain ⟨rfl, rfl, _⟩ := hh2
              refine ⟨hnew, .inr ⟨b3, hg, rfl, by simp [flat_length _ hnew], .inr ⟨b3, cap2, cur2, by simp [hlen', hlen], Nat.le_refl _, hWb, by omega, hd2, by rw [hsize, hd3], ?_⟩⟩⟩
              rw [hlen]; exact hcells
        · trivial
      · rename_i hne
        exact other (by simpa [AV.has] using hne)
    all_goals
      simp only [AV.updR, AV.kill]
      split
      · trivial
      · rename_i hh; exact other (by simpa using hh)

theorem zeroCells_flat {z : Value} (k : Nat) (hk : 0 < k) (hz : z.cells.size = k) (m : Nat) : (Builtin.zeroCells z.cells m).toList = flat (List.replicate m z) := by
  have hlen : (flat (List.replicate m z)).length = m * k := by
    simp [flat, hz]
  apply List.ext_getElem?
  intro q
  by_cases hq : q < m * k
  · have e1 : (Builtin.zeroCells z.cells m).toList[q]? = some (z.cells[q % k]'(by rw [hz]; exact Nat.mod_lt _ hk)) := by
      have hm := Nat.mod_lt q hk
      simp [Builtin.zeroCells, hz, hq, hm]
    have e2 : (flat (List.replicate m z))[q]? = some (z.cells[q % k]'(by rw [hz]; exact Nat.mod_lt _ hk)) := by
      clear e1 hlen
      induction m generalizing q with
      | zero => omega
      | succ m ih =>
        simp only [List.replicate_succ, flat, List.flatMap_cons]
        by_cases h : q < k
        · rw [List.getElem?_append_left (by simpa [hz] using h)]
          simp [Nat.mod_eq_of_lt h, hz, h]
        · rw [List.getElem?_append_right (by simp [hz]; omega)]
          have hq' : q - k < m * k := by rw [Nat.add_mul, Nat.one_mul] at hq; omega
          have := ih (q - k) hq'
          simp only [flat] at this
          simp only [Array.length_toList, hz]
          rw [this]
          congr 2
          exact (Nat.mod_eq_sub_mod (by omega)).symm
    rw [e1, e2]
  · rw [List.getElem?_eq_none (by simp [Builtin.zeroCells, hz]; omega), List.getElem?_eq_none (by omega)]

/-- 'clear(s[i:])' at a row of one's own -/
theorem clear_wp (h : Rep X g σ a w) {ops : Array Oper} {os oc : Oper} {Q' : Exit → Act → World → Prop} {t d1 d e k by' i : Nat} {s ix : Operand} {vs : List Value}
    (ho1 : os.op = .slice t s (some ix) none none) (hd1 : os.dst = some d1) (hg1 : os.guard = none)
    (ho2 : oc.op = .call { callee := .builtin .clear, args := #[.tmp d1], argTypes := #[t] }) (hd2 : oc.dst = none) (hg2 : oc.guard = none) (hN1 : slotOk X.N d1 = true) (hse : selt X.P t = some k)
    (hT : elemT X.P t = some (e, k, by')) (hs : σ.val s = .own d e vs) (hi : σ.val ix = .v (.int .i64 (i : Nat))) (hvs : σ.va s = true) (hvi : σ.va ix = true) (hlt : i < vs.length)
    (hK : ∀ (zs : List Value), zs.length = vs.length - i → ∀ a' W, Rep X g ((σ.put (some d1) .any).map (AV.updR d vs.length (vs.take i ++ zs))) a' W → Q' .normal a' W) :
    wpList X.P ops Q' [os, oc] a w := by
  obtain ⟨inf, z, ht, hinf, hz, hsz, hby, hzs, hkp, hcell, hzo⟩ := elemT_spec hT
  have hxs := h.val hvs
  rw [hs] at hxs
  have hxi := h.val hvi
  rw [hi] at hxi
  simp only [RepV] at hxi
  have hne : X.P.underlying e ≠ none := by
    intro hn
    rw [selt, ht] at hse
    simp [hn] at hse
  obtain ⟨hel, hrow⟩ := hxs
  rcases hrow with ⟨_, rfl⟩ | ⟨b, hg, hob, hrow⟩
  · simp at hlt
  rcases hrow.2 with ⟨_, h0⟩ | ⟨b', cap, cur, hse, _, hh, hc1, hc2, hc3, hc4⟩
  · omega
  rw [hse] at hob
  have hbb : b' = b := by simpa [Value.ownBlock] using hob
  subst hbb
  have hlim := maxLen
  have hcapi : ¬ cap = i := by omega
  have hrun1 : (execOp a.eval os).run X.P w = .ok (.value (.slice (some ⟨b', i * X.P.cellsOf e, none⟩) (vs.length - i) (cap - i))) w := by
    have hb := run_sliceBounds_ok (P := X.P) w true vs.length cap (some (.int .i64 (i : Nat))) none (some (i : Int)) none (by simp) (by simp) (by simp) (by simp; omega) (by simp) hc1
    obtain ⟨dst, op, type, pos, after, guard⟩ := os
    simp only at ho1
    subst ho1
    have hsl : (Instr.sliceAt t (a.eval s) (some (a.eval ix)) none none).run X.P w = .ok (.slice (some ⟨b', i * X.P.cellsOf e, none⟩) (vs.length - i) (cap - i)) w := by
      rw [hse, hxi]
      simp only [Instr.sliceAt, Sem.run_bind, run_underlying_some ht, Result.andThen_ok, Instr.slice, hb, run_sizeOf hne, Sem.run_pure]
      simp [hcapi, Addr.add_mk]
    exact run_v (by simpa using hsl)
  obtain ⟨v1, hv1⟩ : ∃ v1 : Value, v1 = .slice (some ⟨b', i * X.P.cellsOf e, none⟩) (vs.length - i) (cap - i) := ⟨_, rfl⟩
  rw [← hv1] at hrun1
  have h1 : Rep X g (σ.put (some d1) .any) (a.put (some d1) v1) w := h.put (by simpa [dstOk] using hN1) trivial
  have hzk := zeroCells_flat k hkp hzs (vs.length - i)
  obtain ⟨zl, hzl⟩ : ∃ zl, zl = flat (List.replicate (vs.length - i) z) := ⟨_, rfl⟩
  have hzel : ∀ y ∈ List.replicate (vs.length - i) z, EltOk k y := fun y hy => by
    rw [List.eq_of_mem_replicate hy]
    exact ⟨hzs, fun c hc => List.all_eq_true.1 hzo c hc⟩
  have hzlen : zl.length = (vs.length - i) * k := by rw [hzl, flat_length _ hzel, List.length_replicate]
  have hik : i * k + (vs.length - i) * k = vs.length * k := by rw [← Nat.add_mul]; congr 1; omega
  have hcapk : vs.length * k ≤ cap * k := Nat.mul_le_mul_right _ hc1
  rw [hcell] at hc3 hc4
  have hst0 := run_storeCells_at X.P b' (i * k) e zl 0 cur w hh (by omega) (fun c hc => flat_one hzel c (by rw [← hzl]; exact hc))
  simp only [Nat.add_zero] at hst0
  obtain ⟨W, hW⟩ : ∃ W, W = w.setRow b' (cur.toList.take (i * k) ++ zl ++ cur.toList.drop (i * k + zl.length)).toArray := ⟨_, rfl⟩
  rw [← hW] at hst0
  have hzero : (zeroValue e).run X.P w = .ok z w := by simp [zeroValue, typeInfo, hinf, hz]
  have hclr : ∀ ty, (Builtin.clear_ #[t] ty #[v1]).run X.P w = .ok (.tuple #[]) W := fun ty => by
    rw [hv1]
    rw [← hzl] at hzk
    rw [hcell]
    obtain ⟨m, hm⟩ : ∃ m, vs.length - i = m + 1 := ⟨vs.length - i - 1, by omega⟩
    rw [hm] at hzk ⊢
    simp [Builtin.clear_, run_underlying_some ht, hzero, hzk, hst0]
  have hrun2 : (execOp (a.put (some d1) v1).eval oc).run X.P w = .ok (.value (.tuple #[])) W := by
    obtain ⟨dst, op, type, pos, after, guard⟩ := oc
    simp only at ho2
    subst ho2
    have he : (a.put (some d1) v1).eval (.tmp d1) = v1 := by
      simp only [Act.put, Act.eval]
      rw [getD_set _ _ _ _ (by rw [h.size]; exact slotOk_lt hN1), if_pos rfl]
    simp only [execOp, resolve, Sem.run_bind, Sem.run_pure, Result.andThen_ok, invoke, builtin, List.map_toArray, List.map_cons, List.map_nil, he, hclr]
  have hstp : Step (fun y => y = b') w W := by
    rw [hW]
    exact ⟨rfl, rfl, rfl, by simp [World.setRow], fun y hy hne => setRow_other w b' y _ hne⟩
  have hWb := setRow_heap w b' cur (cur.toList.take (i * k) ++ zl ++ cur.toList.drop (i * k + zl.length)).toArray e (0, 0) hh
  rw [← hW] at hWb
  have hft : (flat (vs.take i)).length = i * k := by rw [flat_length (k := k) _ fun y hy => (by have := hel y (List.mem_of_mem_take hy); rwa [hcell] at this), List.length_take]; congr 1; omega
  have hr := h1.rowUp (vs := vs) (vs2 := vs.take i ++ List.replicate (vs.length - i) z) hg hh (by omega) (by simp; omega)
    (fun y hy => by
      rcases List.mem_append.1 hy with hy | hy
      · exact hel y (List.mem_of_mem_take hy)
      · rw [hcell]; exact hzel y hy) hstp hWb (by simp; omega)
    (by
      rw [hcell, flat_append, ← hzl]
      have e1 : flat (vs.take i) = cur.toList.take (i * k) := by
        have e2 : flat vs = flat (vs.take i) ++ flat (vs.drop i) := by rw [← flat_append, List.take_append_drop]
        have e3 : (flat vs).take (i * k) = flat (vs.take i) := by rw [e2, ← hft, List.take_left]
        rw [← e3, ← hc4, List.take_take, Nat.min_eq_left (by omega)]
      rw [e1]
      apply List.take_left'
      rw [List.length_append, hzlen, List.length_take, Array.length_toList]
      omega)
  unfold wpList
  rw [if_pos (wanted_none hg1)]
  left
  unfold Oper.wp
  rw [hrun1, Oper.upon_value, hd1]
  unfold wpList
  rw [if_pos (wanted_none hg2)]
  left
  unfold Oper.wp
  rw [hrun2, Oper.upon_value, hd2]
  unfold wpList
  exact hK _ (by simp) _ _ hr
end

theorem awp_clear {X : Ctx} {Q : Exit → AState → Prop} {σ : AState} {P : Program} {N : Nat} {id : Nat} {l : List Oper} {os oc : Oper} {t d1 e k by' : Nat} {s ix : Operand} (hP : X.P = P) (hN : X.N = N) (n : Nat) (hl : l.drop n = [os, oc])
    (ho1 : os.op = .slice t s (some ix) none none) (hd1 : os.dst = some d1) (hg1 : os.guard = none) (ho2 : oc.op = .call { callee := .builtin .clear, args := #[.tmp d1], argTypes := #[t] }) (hd2 : oc.dst = none) (hg2 : oc.guard = none)
    (hse : selt P t = some k) (hT : elemT P t = some (e, k, by')) (hd : dstsOk N l = true)
    (h : aXs P l.toArray (fun σ1 => ∃ (d : Nat) (vs : List Value) (i : Nat), σ1.val s = .own d e vs ∧ σ1.val ix = .v (.int .i64 (i : Nat)) ∧ σ1.va s = true ∧ σ1.va ix = true ∧ i < vs.length ∧
      ∀ zs : List Value, zs.length = vs.length - i → Q .normal ((σ1.put (some d1) .any).map (AV.updR d vs.length (vs.take i ++ zs)))) (l.take n) σ) : AWp X (.region id l.toArray false) Q σ := fun g a w hr => by
  subst hP; subst hN
  have hN1 : slotOk X.N d1 = true := by
    have := dstsOk_spec hd os (List.mem_of_mem_drop (i := n) (by rw [hl]; exact List.mem_cons_self))
    rw [hd1] at this
    simpa [dstOk] using this
  have := aXs_tail_sound (ops := l.toArray) (tail := [os, oc]) (Q' := Lift X Q) (fun g1 σ1 a1 w1 ⟨d, vs, i, h1, h2, h3, h4, h5, h6⟩ hr1 =>
    clear_wp hr1 ho1 hd1 hg1 ho2 hd2 hg2 hN1 hse hT h1 h2 h3 h4 h5 fun zs hz a' W hr' => ⟨_, g1, h6 zs hz, hr'⟩) (l.take n) (fun o ho => dstsOk_spec hd o (List.mem_of_mem_take ho)) g σ a w hr h
  rw [← hl, List.take_append_drop] at this
  exact wp_region_lit this

end Go.Proofs.YtellipmolheaaaaGreatDoor
