import Derived.Test.YtellipmolheaaaaDoorCoreB
set_option linter.unusedSimpArgs false
set_option linter.unusedVariables false
namespace Go.Proofs.YtellipmolheaaaaDoor
open Go Go.RowKit

/-! ## regions that draw their order and make memory: what hangs on no memory comes first -/

/-- operations whose result hangs on no memory -/
def memB (op : Op) : Bool := match op with
  | .move _ | .assign _ | .binOp _ _ _ _ _ | .unOp _ _ _ | .slice _ _ _ _ none => true
  | .call c => match c.callee with
    | .builtin .len => true
    | _ => false
  | _ => false

section
variable {X : Ctx} {g : Gh} {σ : AState} {a : Act} {w : World}

theorem slice_free {P : Program} {F : Nat → Prop} {own : Nat → Option Nat} {rho : Option Nat} {w w' : World} {a : Act} {ρ : Operand → AV} {t : TypeId} {x v : Value} {av r : AV} {lo hi : Option Operand} {sc : Prop}
    (hx : RepV P F own rho w x av) (hlo : ∀ y ∈ lo, RepV P F own rho w (a.eval y) (ρ y)) (hhi : ∀ y ∈ hi, RepV P F own rho w (a.eval y) (ρ y))
    (h : sslice P t av (lo.map ρ) (hi.map ρ) = some (sc, r)) (hsc : sc) (hv : (Instr.sliceAt t x (lo.map a.eval) (hi.map a.eval) none).run P w = .ok v w) :
    (Instr.sliceAt t x (lo.map a.eval) (hi.map a.eval) none).run P w' = .ok v w' := by
  unfold sslice at h
  split at h
  · rename_i l u hl hu
    have hl' := optI_sound hl hlo
    have hu' := optI_sound hu hhi
    have go : ∀ (b : Option Addr) (n cap : Nat) (k : Nat), x = .slice b n cap → selt P t = some k → 0 ≤ l.getD 0 → l.getD 0 ≤ u.getD n → u.getD n ≤ n → n ≤ cap →
        (Instr.sliceAt t x (lo.map a.eval) (hi.map a.eval) none).run P w' = .ok v w' := by
      intro b n cap k hxe hs h1 h2 h3 h4
      have hb := fun w => run_sliceBounds_ok (P := P) w true n cap (lo.map a.eval) (hi.map a.eval) l u hl' hu' h1 h2 h3 h4
      unfold selt at hs
      split at hs
      · rename_i e hu2
        split at hs
        · cases hs
        · rename_i hne
          rw [hxe] at hv ⊢
          simp only [Instr.sliceAt, Sem.run_bind, run_underlying_some hu2, Result.andThen_ok, Instr.slice, hb, run_sizeOf hne, Sem.run_pure, Result.ok.injEq] at hv ⊢
          exact ⟨hv.1, trivial⟩
      · cases hs
    split at h
    · rename_i s
      split at h
      · rename_i hs
        simp only [Option.some.injEq, Prod.mk.injEq] at h
        obtain ⟨rfl, rfl⟩ := h
        simp only [RepV] at hx
        subst hx
        have hsl : sslice P t (.v (.string s)) (lo.map ρ) (hi.map ρ) = some (0 ≤ l.getD 0 ∧ l.getD 0 ≤ u.getD s.data.toList.length ∧ u.getD s.data.toList.length ≤ s.data.toList.length, .v (.string (subS s (l.getD 0).toNat (u.getD s.data.toList.length).toNat))) := by
          unfold sslice; rw [hl, hu]; simp only [hs, if_true]
        obtain ⟨v', h1, h2⟩ := sslice_sound (P := P) (F := F) (own := own) (rho := none) (w := w') (a := a) (ρ := ρ) (t := t) (x := .string s) (av := .v (.string s)) (lo := lo) (hi := hi) rfl
          (fun y hy => by
            rcases hl' with ⟨_, e⟩ | ⟨k, m, _, e⟩
            · subst hy; simp at e
            · subst hy
              simp only [Option.map_some, Option.some.injEq] at e
              have h3 : optI ((some y).map ρ) = some l := hl
              simp only [Option.map_some] at h3
              unfold optI at h3
              split at h3
              · rename_i heq; cases heq
              · rename_i k' m' heq
                simp only [Option.some.injEq] at heq
                have h4 := hlo y rfl
                rw [heq] at h4 ⊢
                exact h4
              · cases h3)
          (fun y hy => by
            subst hy
            have h3 : optI ((some y).map ρ) = some u := hu
            simp only [Option.map_some] at h3
            unfold optI at h3
            split at h3
            · rename_i heq; cases heq
            · rename_i k' m' heq
              simp only [Option.some.injEq] at heq
              have h4 := hhi y rfl
              rw [heq] at h4 ⊢
              exact h4
            · cases h3)
          hsl hsc
        obtain ⟨v'', h5, h6⟩ := sslice_sound (P := P) (F := F) (own := own) (rho := rho) (w := w) (a := a) (ρ := ρ) (t := t) (x := .string s) (av := .v (.string s)) (lo := lo) (hi := hi) rfl hlo hhi
          hsl hsc
        rw [h5] at hv
        simp only [Result.ok.injEq, and_true] at hv
        simp only [RepV] at h2 h6
        rw [h1, h2, ← hv, h6]
      · cases h
    · rename_i k vs
      split at h
      · rename_i hs
        simp only [Option.some.injEq, Prod.mk.injEq] at h
        obtain ⟨rfl, rfl⟩ := h
        obtain ⟨b, cap, hxe, hc, _⟩ := hx
        exact go b _ cap k hxe hs hsc.1 hsc.2.1 hsc.2.2 hc
      · cases h
    · rename_i d e vs
      split at h
      · rename_i hs
        simp only [Option.some.injEq, Prod.mk.injEq] at h
        obtain ⟨rfl, rfl⟩ := h
        obtain ⟨b, cap, hxe, hc, _⟩ := OwnR.sl0 (F := fun _ => False) hx (fun _ _ hf => hf)
        exact go b _ cap _ hxe hs hsc.1 hsc.2.1 hsc.2.2 hc
      · cases h
    · cases h
  · cases h

theorem sop'_free {o : Oper} {sc : Prop} {r : AV} (h : Rep X g σ a w) (hs : sop' X.P σ.val σ.va o.op = some (sc, r)) (hsc : sc) (hm : memB o.op = true) :
    ∃ v, (∀ w', (execOp a.eval o).run X.P w' = .ok (.value v) w') ∧ RepV X.P (Fb X g) g.own g.rho w v r := by
  obtain ⟨v, hrun, hrep⟩ := sop'_sound h hs hsc
  refine ⟨v, fun w' => ?_, hrep⟩
  have hnp : ∀ c x y, o.op ≠ .pick c x y := fun c x y e => by rw [e] at hm; cases hm
  obtain ⟨sc0, hs0, hva, hsc0⟩ : ∃ sc0, sop X.P σ.val o.op = some (sc0, r) ∧ vaAll σ.va o.op.operands.toList ∧ sc0 := by
    unfold sop' at hs
    split at hs
    · rename_i c x y hop
      exact absurd hop (hnp c x y)
    · split at hs
      · rename_i sc' r' hs'
        simp only [Option.some.injEq, Prod.mk.injEq] at hs
        obtain ⟨rfl, rfl⟩ := hs
        exact ⟨sc', hs', hsc.1, hsc.2⟩
      · cases hs
  have hv : ∀ y ∈ o.op.operands.toList, RepV X.P (Fb X g) g.own g.rho w (a.eval y) (σ.val y) := fun y hy => h.val (vaAll_spec _ hva y hy)
  have key : (∀ y ∈ o.op.operands.toList, ∃ u, σ.val y = .v u) → (∃ rv, r = .v rv) → (execOp a.eval o).run X.P w' = .ok (.value v) w' := by
    rintro hall ⟨rv, rfl⟩
    obtain ⟨v', h1, h2⟩ := sop_sound (P := X.P) (F := fun _ => False) (own := fun _ => none) (rho := none) (w := w') (a := a) (ρ := σ.val) (o := o) (fun y hy => by
      obtain ⟨u, hu⟩ := hall y hy
      have := hv y hy
      rw [hu] at this ⊢
      exact this) hs0 hsc0
    simp only [RepV] at h2 hrep
    rw [h1, h2, hrep]
  obtain ⟨dst, op, type, pos, after, guard⟩ := o
  simp only at hs0 hm hrun hv key hnp ⊢
  cases op <;> simp only [memB, Bool.false_eq_true] at hm
  case move x => exact (by simpa [execOp] using hrun)
  case assign x => exact (by simpa [execOp] using hrun)
  case binOp op t x y yt =>
    simp only [sop] at hs0
    split at hs0
    · rename_i p q hp hq
      split at hs0
      · simp only [Option.some.injEq, Prod.mk.injEq] at hs0
        refine key (fun z hz => ?_) ⟨_, hs0.2.symm⟩
        simp only [Op.operands, List.mem_cons, List.not_mem_nil, or_false] at hz
        rcases hz with rfl | rfl
        · exact ⟨_, hp⟩
        · exact ⟨_, hq⟩
      · cases hs0
    · cases hs0
  case unOp op t x =>
    have hx : ∃ u, σ.val x = .v u := by
      cases op <;> simp only [sop] at hs0 <;> (try split at hs0) <;> first | exact ⟨_, by assumption⟩ | cases hs0
    refine key (fun z hz => ?_) ?_
    · simp only [Op.operands, List.mem_cons, List.not_mem_nil, or_false] at hz
      subst hz
      exact hx
    · cases op <;> simp only [sop] at hs0 <;> (try split at hs0) <;> (try cases hs0) <;> exact ⟨_, rfl⟩
  case slice t x lo hi mx =>
    cases mx with
    | some _ => cases hm
    | none =>
      have hmem : ∀ (o : Option Operand) y, y ∈ o → y ∈ o.toArray.toList := fun o y hy => by cases o <;> simp_all
      have hrun' : (Instr.sliceAt t (a.eval x) (lo.map a.eval) (hi.map a.eval) none).run X.P w = .ok v w := by
        simp only [execOp, Option.map_none, Sem.run_bind] at hrun
        cases hq : (Instr.sliceAt t (a.eval x) (lo.map a.eval) (hi.map a.eval) none).run X.P w with
        | halt y w2 => rw [hq] at hrun; cases hrun
        | ok y w2 =>
          rw [hq] at hrun
          simp only [Result.andThen_ok, Sem.run_pure, Result.ok.injEq, Next.value.injEq] at hrun
          rw [hrun.1, hrun.2]
      have := slice_free (w' := w') (a := a) (hv x (by simp [Op.operands])) (fun y hy => hv y (by simp [Op.operands] at hy ⊢; simp [hy])) (fun y hy => hv y (by simp [Op.operands] at hy ⊢; simp [hy])) hs0 hsc0 hrun'
      exact run_v this
  case call c =>
    cases hcal : c.callee with
    | value f => rw [hcal] at hm; cases hm
    | invoke q m => rw [hcal] at hm; cases hm
    | builtin b =>
      rw [hcal] at hm
      cases b <;> simp only [Bool.false_eq_true] at hm
      simp only [sop, hcal] at hs0
      unfold slen at hs0
      split at hs0
      · rename_i x t hargs htypes
        have hx := hv x (by simp only [Op.operands, Call.operands, hcal]; simp [hargs])
        split at hs0
        · rename_i n hn
          split at hs0
          · rename_i ht
            simp only [Option.some.injEq, Prod.mk.injEq] at hs0
            obtain ⟨-, rfl⟩ := hs0
            have ha : c.args.map a.eval = #[a.eval x] := by apply Array.ext'; simp [hargs]
            have hb : c.argTypes[0]? = some t := by rw [← Array.getElem?_toList, htypes]; rfl
            have hexec : ∀ v, (Builtin.len_ c.argTypes type (c.args.map a.eval)).run X.P w' = .ok v w' → (execOp a.eval ⟨dst, .call c, type, pos, after, guard⟩).run X.P w' = .ok (.value v) w' := by
              intro v hv
              simp only [execOp, resolve, hcal, Sem.run_bind, Sem.run_pure, Result.andThen_ok, invoke, builtin, hv]
            simp only [RepV] at hrep
            rw [hrep]
            refine hexec _ ?_
            rw [ha]
            rcases lenA_sound hx hn ht with ⟨b, cp, he, hsl⟩ | ⟨s, he, hsz, hst⟩
            · rw [he]
              unfold selt at hsl
              split at hsl
              · rename_i e hu
                simp only [Builtin.len_, hb, List.getElem?_toArray, List.getElem?_cons_zero, Sem.run_bind, run_underlying_some hu, Result.andThen_ok, Sem.run_pure, goInt]
              · simp at hsl
            · rw [he]
              have hu2 : X.P.underlying t = some .string := by
                unfold isStr at hst
                split at hst
                · assumption
                · cases hst
              simp only [Builtin.len_, hb, List.getElem?_toArray, List.getElem?_cons_zero, Sem.run_bind, run_underlying_some hu2, Result.andThen_ok, Sem.run_pure, goInt, hsz]
          · cases hs0
        · cases hs0
      · cases hs0

/-- which comes next: one, or one of two -/
inductive Tr where
  | done
  | one (i : Nat) (t : Tr)
  | two (i : Nat) (t : Tr) (j : Nat) (u : Tr)

def trC (md : Region.Mode) (ops : Array Oper) : Tr → Nat → Array Bool → Bool
  | .done, _, listed => (Region.ready md ops listed).isEmpty
  | .one i t, f + 1, listed => (Region.ready md ops listed == [i]) && trC md ops t f (listed.setIfInBounds i true)
  | .two i t j u, f + 1, listed => (Region.ready md ops listed == [i, j]) && (trC md ops t f (listed.setIfInBounds i true) && trC md ops u f (listed.setIfInBounds j true))
  | _, 0, _ => false

def mixC (md : Region.Mode) (ops : Array Oper) (tr : Tr) : List Nat → Nat → Array Bool → Bool
  | [], f, listed => trC md ops tr f listed
  | i :: r, f + 1, listed => (Region.ready md ops listed).contains i && Region.free md ops listed i && mixC md ops tr r f (listed.setIfInBounds i true)
  | _ :: _, 0, _ => false

def aTr (P : Program) (ops : Array Oper) (K : AState → Prop) : Tr → AState → Prop
  | .done, σ => K σ
  | .one i t, σ => match ops[i]? with
    | some o => aX P ops o (aTr P ops K t) σ
    | none => False
  | .two i t j u, σ => match ops[i]?, ops[j]? with
    | some o, some o' => aX P ops o (aTr P ops K t) σ ∧ aX P ops o' (aTr P ops K u) σ
    | _, _ => False

def aMs (P : Program) (ops : Array Oper) (K : AState → Prop) : List Nat → AState → Prop
  | [], σ => K σ
  | i :: r, σ => match ops[i]? with
    | some o => memB o.op = true ∧ match sop' P σ.val σ.va o.op with
      | some (sc, x) => vprop (guardOf ops σ.get o) sc ∧ aMs P ops K r (σ.put o.dst (mkg (guardOf ops σ.get o) x))
      | none => False
    | none => False

theorem wpAny_of_tr {ops : Array Oper} {K : AState → Prop} {Q : Exit → Act → World → Prop} (hd : ∀ (i : Nat) (o : Oper), ops[i]? = some o → dstOk X.N o.dst = true)
    (hK : ∀ σ g a w, K σ → Rep X g σ a w → Q .normal a w) : ∀ (t : Tr) (f : Nat) (listed : Array Bool) (g : Gh) (σ : AState) (a : Act) (w : World), Rep X g σ a w → trC .any ops t f listed = true →
    aTr X.P ops K t σ → wpAny X.P .any ops Q f listed a w
  | .done, f, listed, g, σ, a, w, h, hB, hs => by
    simp only [trC, List.isEmpty_iff] at hB
    exact wpAny_done hB (hK σ g a w hs h) f
  | .one i t, 0, listed, g, σ, a, w, h, hB, hs => by cases hB
  | .two i t j u, 0, listed, g, σ, a, w, h, hB, hs => by cases hB
  | .one i t, f + 1, listed, g, σ, a, w, h, hB, hs => by
    simp only [trC, Bool.and_eq_true, beq_iff_eq] at hB
    refine wpAny_all hB.1 (by simp) fun k hk => ?_
    obtain rfl : k = i := by simpa using hk
    simp only [aTr] at hs
    unfold wpOp
    cases ho : ops[k]? with
    | none => rw [ho] at hs; exact hs.elim
    | some o =>
      rw [ho] at hs
      simp only
      have := aX_sound (Q := Q) h (hd k o ho) hs fun σ' g' a' w' hk hr => wpAny_of_tr hd hK t f _ g' σ' a' w' hr hB.2 hk
      by_cases hw : Region.wanted o (yielded ops a.tmps) = true
      · rw [if_pos hw] at this ⊢; exact .inl this
      · rw [if_neg hw] at this ⊢; exact this
  | .two i t j u, f + 1, listed, g, σ, a, w, h, hB, hs => by
    simp only [trC, Bool.and_eq_true, beq_iff_eq] at hB
    obtain ⟨hB0, hB1, hB2⟩ := hB
    refine wpAny_all hB0 (by simp) fun k hk => ?_
    simp only [aTr] at hs
    cases ho : ops[i]? with
    | none => rw [ho] at hs; exact hs.elim
    | some o =>
      cases ho' : ops[j]? with
      | none => rw [ho, ho'] at hs; exact hs.elim
      | some o' =>
        rw [ho, ho'] at hs
        simp only at hs
        have hk' : k = i ∨ k = j := by simpa using hk
        rcases hk' with rfl | rfl
        · unfold wpOp
          rw [ho]
          simp only
          have := aX_sound (Q := Q) h (hd k o ho) hs.1 fun σ' g' a' w' hk hr => wpAny_of_tr hd hK t f _ g' σ' a' w' hr hB1 hk
          by_cases hw : Region.wanted o (yielded ops a.tmps) = true
          · rw [if_pos hw] at this ⊢; exact .inl this
          · rw [if_neg hw] at this ⊢; exact this
        · unfold wpOp
          rw [ho']
          simp only
          have := aX_sound (Q := Q) h (hd k o' ho') hs.2 fun σ' g' a' w' hk hr => wpAny_of_tr hd hK u f _ g' σ' a' w' hr hB2 hk
          by_cases hw : Region.wanted o' (yielded ops a.tmps) = true
          · rw [if_pos hw] at this ⊢; exact .inl this
          · rw [if_neg hw] at this ⊢; exact this

theorem wpAny_of_mix {ops : Array Oper} {K : AState → Prop} {Q : Exit → Act → World → Prop} {tr : Tr} (hsel : Region.noSelect ops = true) (hd : ∀ (i : Nat) (o : Oper), ops[i]? = some o → dstOk X.N o.dst = true)
    (hQ : ∀ c a w, ¬ Q (.panic c) a w) (hK : ∀ σ g a w, K σ → Rep X g σ a w → Q .normal a w) : ∀ (M : List Nat) (f : Nat) (listed : Array Bool) (g : Gh) (σ : AState) (a : Act) (w : World), Rep X g σ a w →
    mixC .any ops tr M f listed = true → aMs X.P ops (aTr X.P ops K tr) M σ → wpAny X.P .any ops Q f listed a w
  | [], f, listed, g, σ, a, w, h, hB, hs => wpAny_of_tr hd hK tr f listed g σ a w h hB hs
  | _ :: _, 0, listed, g, σ, a, w, h, hB, hs => by cases hB
  | i :: r, f + 1, listed, g, σ, a, w, h, hB, hs => by
    simp only [mixC, Bool.and_eq_true] at hB
    obtain ⟨⟨hB1, hB2⟩, hB3⟩ := hB
    simp only [aMs] at hs
    cases ho : ops[i]? with
    | none => rw [ho] at hs; exact hs.elim
    | some o =>
      rw [ho] at hs
      simp only at hs
      obtain ⟨hm, hs⟩ := hs
      split at hs
      · rename_i sc x hsop
        obtain ⟨hsc, hs⟩ := hs
        obtain ⟨hun, hon⟩ := guardOf_wanted (ops := ops) (o := o) h
        have fin : ∀ v, Yields X.P ops o v a → RepV X.P (Fb X g) g.own g.rho w v (mkg (guardOf ops σ.get o) x) → wpAny X.P .any ops Q (f + 1) listed a w := fun v hy hv =>
          wpAny_take ho hsel hB2 hB1 (fun c a w hq => absurd hq (hQ c _ w)) hy (wpAny_of_mix hsel hd hQ hK r f _ g _ _ w (h.put (hd i o ho) hv) hB3 hs)
        cases hg : guardOf ops σ.get o with
        | bad => rw [hg] at hsc; exact hsc.elim
        | un =>
          rw [hg] at hsc fin
          obtain ⟨v, hrun, hv⟩ := sop'_free h hsop hsc hm
          exact fin v (.inl ⟨hun hg, hrun⟩) hv
        | on b =>
          rw [hg] at hsc fin
          cases b with
          | true =>
            obtain ⟨v, hrun, hv⟩ := sop'_free h hsop (hsc rfl) hm
            exact fin v (.inl ⟨hon true hg, hrun⟩) hv.on
          | false => exact fin undef (.inr ⟨hon false hg, rfl⟩) (RepV.skip x)
      · exact hs.elim
end

/-- A REGION THAT DRAWS ITS ORDER AND MAKES MEMORY: first what hangs on no memory (`M`), then the others as `tr` says -/
theorem awp_mix {X : Ctx} {Q : Exit → AState → Prop} {σ : AState} {P : Program} {N : Nat} {id : Nat} {l : List Oper} (hP : X.P = P) (hN : X.N = N) (M : List Nat) (tr : Tr) (hm : P.follows .mixedOrders = true)
    (hB : (Region.noSelect l.toArray && mixC .any l.toArray tr M l.length (Array.replicate l.length false)) = true) (hd : dstsOk N l = true)
    (h : aMs P l.toArray (aTr P l.toArray (Q .normal) tr) M σ) : AWp X (.region id l.toArray true) Q σ := fun g a w hr => by
  subst hP; subst hN
  simp only [Bool.and_eq_true] at hB
  have hd' : ∀ (i : Nat) (o : Oper), l.toArray[i]? = some o → dstOk X.N o.dst = true := fun i o ho => dstsOk_spec hd o (List.mem_of_getElem? (by simpa using ho))
  refine wp_mono (Q := fun e a w => e = .normal ∧ Lift X Q .normal a w) ?_ fun e a w ⟨he, hq⟩ => by subst he; exact hq
  refine wp_region_any hm ?_
  have := wpAny_of_mix (X := X) (Q := fun e a w => e = .normal ∧ Lift X Q .normal a w) (K := Q .normal) hB.1 hd' (fun c a w hq => by cases hq.1) (fun σ g a w hk hr => ⟨rfl, σ, g, hk, hr⟩) M l.length
    (Array.replicate l.length false) g σ a { w with drawn := w.drawn + 1 } hr.drew hB.2 h
  simpa using this

attribute [push_cast] aTr aMs memB

end Go.Proofs.YtellipmolheaaaaDoor
