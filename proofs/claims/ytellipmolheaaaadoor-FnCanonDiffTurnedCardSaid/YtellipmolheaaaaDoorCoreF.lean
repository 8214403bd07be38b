import Derived.Test.YtellipmolheaaaaDoorCoreC
set_option linter.unusedSimpArgs false
namespace Go.Proofs.YtellipmolheaaaaDoor
open Go Go.RowKit

/-! ## regions that draw their order: calls first, then what makes memory, under guards that are known -/

section
variable {X : Ctx} {g : Gh} {ops : Array Oper} {md : Region.Mode}

/-- an operation under a guard that is known -/
def aXG (P : Program) (ops : Array Oper) (o : Oper) (K : AState → Prop) (σ : AState) : Prop := match guardOf ops σ.get o with
  | .on true => aX P ops { o with guard := none } K σ
  | .on false => K (σ.put o.dst (.cnd false .any))
  | .un => aX P ops o K σ
  | .bad => False

theorem aXG_sound {o : Oper} {K : AState → Prop} {K' : Act → World → Prop} {Q : Exit → Act → World → Prop} {σ : AState} {a : Act} {w : World} (h : Rep X g σ a w) (hd : dstOk X.N o.dst = true) (hs : aXG X.P ops o K σ)
    (hK : ∀ σ' g' a' w', K σ' → Rep X g' σ' a' w' → K' a' w') :
    if Region.wanted o (yielded ops a.tmps) = true then o.wp X.P a w K' Q else K' (a.put o.dst undef) w := by
  obtain ⟨hun, hon⟩ := guardOf_wanted (ops := ops) (o := o) h
  unfold aXG at hs
  cases hg : guardOf ops σ.get o with
  | bad => rw [hg] at hs; exact hs.elim
  | un =>
    rw [hg] at hs
    exact aX_sound h hd hs hK
  | on b =>
    rw [hg] at hs
    rw [hon b hg]
    cases b with
    | true =>
      rw [if_pos rfl]
      have := aX_sound (ops := ops) (o := { o with guard := none }) (Q := Q) h hd hs hK
      rw [if_pos (wanted_none rfl)] at this
      exact this
    | false =>
      rw [if_neg (by simp)]
      exact hK _ g _ _ hs (h.put hd (RepV.skip .any))

/-- which comes next: one, one of two, or one that hangs on no memory -/
inductive TrG where
  | done
  | one (i : Nat) (t : TrG)
  | two (i : Nat) (t : TrG) (j : Nat) (u : TrG)
  | free (i : Nat) (t : TrG)

def trGC (md : Region.Mode) (ops : Array Oper) : TrG → Nat → Array Bool → Bool
  | .done, _, listed => (Region.ready md ops listed).isEmpty
  | .one i t, f + 1, listed => (Region.ready md ops listed == [i]) && trGC md ops t f (listed.setIfInBounds i true)
  | .two i t j u, f + 1, listed => (Region.ready md ops listed == [i, j]) && (trGC md ops t f (listed.setIfInBounds i true) && trGC md ops u f (listed.setIfInBounds j true))
  | .free i t, f + 1, listed => (Region.ready md ops listed).contains i && Region.free md ops listed i && trGC md ops t f (listed.setIfInBounds i true)
  | _, 0, _ => false

def aTrG (P : Program) (ops : Array Oper) (K : AState → Prop) : TrG → AState → Prop
  | .done, σ => K σ
  | .one i t, σ => match ops[i]? with
    | some o => aXG P ops o (aTrG P ops K t) σ
    | none => False
  | .two i t j u, σ => match ops[i]?, ops[j]? with
    | some o, some o' => aXG P ops o (aTrG P ops K t) σ ∧ aXG P ops o' (aTrG P ops K u) σ
    | _, _ => False
  | .free i t, σ => match ops[i]? with
    | some o => memB o.op = true ∧ match sop' P σ.val σ.va o.op with
      | some (sc, x) => vprop (guardOf ops σ.get o) sc ∧ aTrG P ops K t (σ.put o.dst (mkg (guardOf ops σ.get o) x))
      | none => False
    | none => False

theorem wpAny_of_trG {K : AState → Prop} {Q : Exit → Act → World → Prop} (hsel : Region.noSelect ops = true) (hd : ∀ (i : Nat) (o : Oper), ops[i]? = some o → dstOk X.N o.dst = true)
    (hQ : ∀ c a w, ¬ Q (.panic c) a w) (hK : ∀ σ g a w, K σ → Rep X g σ a w → Q .normal a w) : ∀ (t : TrG) (f : Nat) (listed : Array Bool) (g : Gh) (σ : AState) (a : Act) (w : World), Rep X g σ a w → trGC .any ops t f listed = true →
    aTrG X.P ops K t σ → wpAny X.P .any ops Q f listed a w
  | .done, f, listed, g, σ, a, w, h, hB, hs => by
    simp only [trGC, List.isEmpty_iff] at hB
    exact wpAny_done hB (hK σ g a w hs h) f
  | .one i t, 0, listed, g, σ, a, w, h, hB, hs => by cases hB
  | .two i t j u, 0, listed, g, σ, a, w, h, hB, hs => by cases hB
  | .free i t, 0, listed, g, σ, a, w, h, hB, hs => by cases hB
  | .one i t, f + 1, listed, g, σ, a, w, h, hB, hs => by
    simp only [trGC, Bool.and_eq_true, beq_iff_eq] at hB
    refine wpAny_all hB.1 (by simp) fun k hk => ?_
    obtain rfl : k = i := by simpa using hk
    simp only [aTrG] at hs
    unfold wpOp
    cases ho : ops[k]? with
    | none => rw [ho] at hs; exact hs.elim
    | some o =>
      rw [ho] at hs
      simp only
      have := aXG_sound (Q := Q) h (hd k o ho) hs fun σ' g' a' w' hk hr => wpAny_of_trG hsel hd hQ hK t f _ g' σ' a' w' hr hB.2 hk
      by_cases hw : Region.wanted o (yielded ops a.tmps) = true
      · rw [if_pos hw] at this ⊢; exact .inl this
      · rw [if_neg hw] at this ⊢; exact this
  | .two i t j u, f + 1, listed, g, σ, a, w, h, hB, hs => by
    simp only [trGC, Bool.and_eq_true, beq_iff_eq] at hB
    obtain ⟨hB0, hB1, hB2⟩ := hB
    refine wpAny_all hB0 (by simp) fun k hk => ?_
    simp only [aTrG] at hs
    cases ho : ops[i]? with
    | none => rw [ho] at hs; exact hs.elim
    | some o =>
      cases ho' : ops[j]? with
      | none => rw [ho, ho'] at hs; exact hs.elim
      | some o' =>
        rw [ho, ho'] at hs
        simp only at hs
        have hk' : k = i ∨ k = j := by simpa using hk
        rcases hk' with rfl | rfl
        · unfold wpOp
          rw [ho]
          simp only
          have := aXG_sound (Q := Q) h (hd k o ho) hs.1 fun σ' g' a' w' hk hr => wpAny_of_trG hsel hd hQ hK t f _ g' σ' a' w' hr hB1 hk
          by_cases hw : Region.wanted o (yielded ops a.tmps) = true
          · rw [if_pos hw] at this ⊢; exact .inl this
          · rw [if_neg hw] at this ⊢; exact this
        · unfold wpOp
          rw [ho']
          simp only
          have := aXG_sound (Q := Q) h (hd k o' ho') hs.2 fun σ' g' a' w' hk hr => wpAny_of_trG hsel hd hQ hK u f _ g' σ' a' w' hr hB2 hk
          by_cases hw : Region.wanted o' (yielded ops a.tmps) = true
          · rw [if_pos hw] at this ⊢; exact .inl this
          · rw [if_neg hw] at this ⊢; exact this
  | .free i r, f + 1, listed, g, σ, a, w, h, hB, hs => by
    simp only [trGC, Bool.and_eq_true] at hB
    obtain ⟨⟨hB1, hB2⟩, hB3⟩ := hB
    simp only [aTrG] at hs
    cases ho : ops[i]? with
    | none => rw [ho] at hs; exact hs.elim
    | some o =>
      rw [ho] at hs
      simp only at hs
      obtain ⟨hm, hs⟩ := hs
      split at hs
      · rename_i sc x hsop
        obtain ⟨hsc, hs⟩ := hs
        obtain ⟨hun, hon⟩ := guardOf_wanted (ops := ops) (o := o) h
        have fin : ∀ v, Yields X.P ops o v a → RepV X.P (Fb X g) g.own g.rho w v (mkg (guardOf ops σ.get o) x) → wpAny X.P .any ops Q (f + 1) listed a w := fun v hy hv =>
          wpAny_take ho hsel hB2 hB1 (fun c a w hq => absurd hq (hQ c _ w)) hy (wpAny_of_trG hsel hd hQ hK r f _ g _ _ w (h.put (hd i o ho) hv) hB3 hs)
        cases hg : guardOf ops σ.get o with
        | bad => rw [hg] at hsc; exact hsc.elim
        | un =>
          rw [hg] at hsc fin
          obtain ⟨v, hrun, hv⟩ := sop'_free h hsop hsc hm
          exact fin v (.inl ⟨hun hg, hrun⟩) hv
        | on b =>
          rw [hg] at hsc fin
          cases b with
          | true =>
            obtain ⟨v, hrun, hv⟩ := sop'_free h hsop (hsc rfl) hm
            exact fin v (.inl ⟨hon true hg, hrun⟩) hv.on
          | false => exact fin undef (.inr ⟨hon false hg, rfl⟩) (RepV.skip x)
      · exact hs.elim

def lexHeadT (md : Region.Mode) (ops : Array Oper) (CL : Array Bool → Bool) : Nat → Nat → Array Bool → Bool
  | 0, _, listed => CL listed
  | f + 1, k, listed => (Region.ready md ops listed).contains k && freeC md ops listed k && lexHeadT md ops CL f (k + 1) (listed.setIfInBounds k true)

end

attribute [push_cast] aTrG aXG

end Go.Proofs.YtellipmolheaaaaDoor

set_option linter.unusedSimpArgs false
namespace Go.Proofs.YtellipmolheaaaaDoor
open Go Go.RowKit

/-! ## regions that draw their order: some that hang on no memory first -/

section
variable {X : Ctx} {g : Gh} {ops : Array Oper} {md : Region.Mode}

theorem aAnyL_firstP {P : Program} {n i : Nat} {oi : Oper} {L : Array Bool → AState → Prop} (hLi : ∀ l, InvK (L l)) (hi : ops[i]? = some oi)
    (hw : ∀ (listed : Array Bool), HeadInv md ops n listed → listed.getD i true = false → ∀ t, n ≤ t → t ∉ Region.ready md ops listed) (hin : i < n)
    (hdone : ∀ listed σ, L listed σ → ∀ j ∈ Region.ready md ops listed, n ≤ j) :
    ∀ (f : Nat) (listed : Array Bool) (σ : AState), HeadInv md ops n listed →
      (∀ j oj, ops[j]? = some oj → j ≠ i → listed.getD j true = false → ¬ Desc md ops i j → oi.apart ops oj = true ∧ (detB oi = true ∨ detB oj = true)) →
      i ∈ Region.ready md ops listed →
      astep P ops oi (aAnyL P md ops n L f (listed.setIfInBounds i true)) σ → aAnyL P md ops n L (f + 1) listed σ := by
  intro f
  induction f with
  | zero =>
    intro listed σ inv _ hr H
    have hun := (mem_ready.1 hr).1
    refine ⟨fun h => (by rw [h] at hr; cases hr), fun j hj => ?_⟩
    have hjn : j < n := by
      rcases Nat.lt_or_ge j n with h | h
      · exact h
      · exact absurd hj (hw listed inv hun j h)
    refine ⟨hjn, ?_⟩
    by_cases hji : j = i
    · subst hji; unfold aOp; rw [hi]; exact H
    · obtain ⟨σ', hσ⟩ := astep_some H
      have := hdone _ _ hσ j (ready_mono hj hji)
      omega
  | succ f ih =>
    intro listed σ inv hfree hr H
    have hun := (mem_ready.1 hr).1
    refine ⟨fun h => (by rw [h] at hr; cases hr), fun j hj => ?_⟩
    have hjn : j < n := by
      rcases Nat.lt_or_ge j n with h | h
      · exact h
      · exact absurd hj (hw listed inv hun j h)
    refine ⟨hjn, ?_⟩
    by_cases hji : j = i
    · subst hji; unfold aOp; rw [hi]; exact H
    · obtain ⟨hjun, oj, hoj, hall⟩ := mem_ready.1 hj
      have hnot : ¬ Desc md ops i j := fun h => h.waits inv hun hj
      have h1 : astep P ops oi (astep P ops oj (aAnyL P md ops n L f ((listed.setIfInBounds i true).setIfInBounds j true))) σ := astep_mono (fun σ' h' => by
        have := (h'.2 j (ready_mono hj hji)).2
        unfold aOp at this
        rw [hoj] at this
        exact this) H
      obtain ⟨hap, hdet⟩ := hfree j oj hoj hji hjun hnot
      have h2 := astep_comm (aAnyL_inv hLi f _) hap hdet h1
      have hfree' : ∀ k ok, ops[k]? = some ok → k ≠ i → (listed.setIfInBounds j true).getD k true = false →
          ¬ Desc md ops i k → oi.apart ops ok = true ∧ (detB oi = true ∨ detB ok = true) := fun k ok hk hki hun hno => by
        refine hfree k ok hk hki ?_ hno
        by_cases hjk : j = k
        · subst hjk; exact hjun
        · rw [getD_set_ne true hjk] at hun; exact hun
      unfold aOp
      rw [hoj]
      refine astep_mono (fun σ' h3 => ih (listed.setIfInBounds j true) σ' (inv.set hj hjn) hfree' (ready_mono hr (Ne.symm hji)) ?_) h2
      rw [Array.setIfInBounds_comm _ _ hji]
      exact h3

theorem aAnyL_lexP {P : Program} {m n : Nat} {Lq : AState → Prop} {CL : Array Bool → Bool} (hLq : InvK Lq)
    (hw : ∀ i, m ≤ i → i < n → ∀ (listed : Array Bool), HeadInv md ops n listed → listed.getD i true = false → ∀ t, n ≤ t → t ∉ Region.ready md ops listed) (hCL : ∀ listed, CL listed = true → ∀ j ∈ Region.ready md ops listed, n ≤ j) :
    ∀ (l : List Oper) (i : Nat) (listed : Array Bool) (σ : AState), m ≤ i → (∀ j, j < l.length → l[j]? = ops[i + j]?) → i + l.length = n → HeadInv md ops n listed →
      lexHeadT md ops CL l.length i listed = true → aList P ops Lq l σ →
      aAnyL P md ops n (fun listed' σ' => CL listed' = true ∧ Lq σ') l.length listed σ
  | [], i, listed, σ, _, _, hk, _, hB, h => ⟨by simpa [lexHeadT] using hB, h⟩
  | o :: l, i, listed, σ, hmi, hl, hk, inv, hB, h => by
    have h0 : ops[i]? = some o := by simpa using (hl 0 (by simp)).symm
    simp only [List.length_cons, lexHeadT, Bool.and_eq_true] at hB
    obtain ⟨⟨hr, hf⟩, hB'⟩ := hB
    have hkn : i < n := by simp only [List.length_cons] at hk; omega
    have hr' : i ∈ Region.ready md ops listed := by simpa using hr
    refine aAnyL_firstP (fun l => fun σ σ' he h => ⟨h.1, hLq _ _ he h.2⟩) h0 (hw i hmi hkn) hkn (fun listed' σ' hL => hCL listed' hL.1) l.length listed σ inv (freeC_spec h0 hf) hr' ?_
    exact astep_mono (fun σ' h' => aAnyL_lexP hLq hw hCL l (i + 1) _ σ' (by omega) (fun j hj => by have := hl (j + 1) (by simp; omega); simpa [Nat.add_assoc, Nat.add_comm 1 j] using this) (by simp only [List.length_cons] at hk; omega)
      (inv.set hr' hkn) hB' h') h

def aFr (P : Program) (ops : Array Oper) (K : AState → Prop) : List Oper → AState → Prop
  | [], σ => K σ
  | o :: r, σ => memB o.op = true ∧ match sop' P σ.val σ.va o.op with
    | some (sc, x) => vprop (guardOf ops σ.get o) sc ∧ aFr P ops K r (σ.put o.dst (mkg (guardOf ops σ.get o) x))
    | none => False

def frC (md : Region.Mode) (ops : Array Oper) (CL : Array Bool → Bool) : Nat → Nat → Array Bool → Bool
  | 0, _, listed => CL listed
  | f + 1, k, listed => (Region.ready md ops listed).contains k && Region.free md ops listed k && frC md ops CL f (k + 1) (listed.setIfInBounds k true)

theorem wpAny_of_fr {K : AState → Prop} {Q : Exit → Act → World → Prop} {F n : Nat} {CL : Array Bool → Bool} (hsel : Region.noSelect ops = true) (hd : ∀ (i : Nat) (o : Oper), ops[i]? = some o → dstOk X.N o.dst = true)
    (hQ : ∀ c a w, ¬ Q (.panic c) a w) (hK : ∀ listed σ g a w, CL listed = true → HeadInv .any ops n listed → K σ → Rep X g σ a w → wpAny X.P .any ops Q F listed a w) :
    ∀ (l : List Oper) (i : Nat) (listed : Array Bool) (g : Gh) (σ : AState) (a : Act) (w : World), (∀ j, j < l.length → l[j]? = ops[i + j]?) → i + l.length ≤ n → HeadInv .any ops n listed → Rep X g σ a w →
      frC .any ops CL l.length i listed = true → aFr X.P ops K l σ → wpAny X.P .any ops Q (l.length + F) listed a w
  | [], i, listed, g, σ, a, w, _, _, inv, h, hB, hs => by
    rw [List.length_nil, Nat.zero_add]
    exact hK listed σ g a w hB inv hs h
  | o :: l, i, listed, g, σ, a, w, hl, hn, inv, h, hB, hs => by
    have ho : ops[i]? = some o := by simpa using (hl 0 (by simp)).symm
    simp only [List.length_cons, frC, Bool.and_eq_true] at hB
    obtain ⟨⟨hB1, hB2⟩, hB3⟩ := hB
    simp only [aFr] at hs
    obtain ⟨hm, hs⟩ := hs
    have hin : i < n := by simp only [List.length_cons] at hn; omega
    split at hs
    · rename_i sc x hsop
      obtain ⟨hsc, hs⟩ := hs
      obtain ⟨hun, hon⟩ := guardOf_wanted (ops := ops) (o := o) h
      rw [show (o :: l).length + F = (l.length + F) + 1 by simp only [List.length_cons]; omega]
      have fin : ∀ v, Yields X.P ops o v a → RepV X.P (Fb X g) g.own g.rho w v (mkg (guardOf ops σ.get o) x) → wpAny X.P .any ops Q ((l.length + F) + 1) listed a w := fun v hy hv =>
        wpAny_take ho hsel hB2 hB1 (fun c a w hq => absurd hq (hQ c _ w)) hy (wpAny_of_fr hsel hd hQ hK l (i + 1) _ g _ _ w (fun j hj => by have := hl (j + 1) (by simp; omega); simpa [Nat.add_assoc, Nat.add_comm 1 j] using this)
          (by simp only [List.length_cons] at hn; omega) (inv.set (by simpa using hB1) hin) (h.put (hd i o ho) hv) hB3 hs)
      cases hg : guardOf ops σ.get o with
      | bad => rw [hg] at hsc; exact hsc.elim
      | un =>
        rw [hg] at hsc fin
        obtain ⟨v, hrun, hv⟩ := sop'_free h hsop hsc hm
        exact fin v (.inl ⟨hun hg, hrun⟩) hv
      | on b =>
        rw [hg] at hsc fin
        cases b with
        | true =>
          obtain ⟨v, hrun, hv⟩ := sop'_free h hsop (hsc rfl) hm
          exact fin v (.inl ⟨hon true hg, hrun⟩) hv.on
        | false => exact fin undef (.inr ⟨hon false hg, rfl⟩) (RepV.skip x)
    · exact hs.elim

/-- the first `m` operations hang on no memory and come first, those up to `n` in any order, the others behind these, as `tr` says -/
def drawPC (ops : Array Oper) (m n : Nat) (tr : TrG) : Bool :=
  Region.noSelect ops && decide (m ≤ n) && decide (n ≤ ops.size) && ((List.range n).all fun i => decide (i < m) || (List.range ops.size).all fun t => decide (t < n) || (descL .any ops i).contains t) &&
    frC .any ops (lexHeadT .any ops (fun listed => trGC .any ops tr (ops.size - n) listed && (Region.ready .any ops listed).all fun j => decide (n ≤ j)) (n - m) m) m 0 (Array.replicate ops.size false)

theorem awp_drawP {Q : Exit → AState → Prop} {σ : AState} {P : Program} {N : Nat} {id : Nat} {l : List Oper} (hP : X.P = P) (hN : X.N = N) (m n : Nat) (tr : TrG) (hm : P.follows .mixedOrders = true)
    (hB : drawPC l.toArray m n tr = true) (hd : dstsOk N l = true)
    (h : aFr P l.toArray (aList P l.toArray (aTrG P l.toArray (Q .normal) tr) ((l.take n).drop m)) (l.take m) σ) : AWp X (.region id l.toArray true) Q σ := fun g a w hr => by
  subst hP; subst hN
  simp only [drawPC, Bool.and_eq_true, decide_eq_true_eq, List.size_toArray] at hB
  obtain ⟨⟨⟨⟨hsel, hmn⟩, hn⟩, hwt⟩, hlex⟩ := hB
  have hw : ∀ i, m ≤ i → i < n → ∀ (listed : Array Bool), HeadInv .any l.toArray n listed → listed.getD i true = false → ∀ t, n ≤ t → t ∉ Region.ready .any l.toArray listed := by
    intro i hmi hin listed inv hun t ht hrd
    obtain ⟨_, o, ho, _⟩ := mem_ready.1 hrd
    have hts := (Array.getElem?_eq_some_iff.1 ho).1
    rw [List.all_eq_true] at hwt
    have h1 := hwt i (List.mem_range.2 hin)
    rw [decide_eq_false (show ¬ i < m by omega), Bool.false_or, List.all_eq_true] at h1
    have h2 := h1 t (List.mem_range.2 (by simpa using hts))
    simp only [Bool.or_eq_true, decide_eq_true_eq] at h2
    rcases h2 with h2 | h2
    · omega
    · exact (descL_spec i t (by simpa using h2)).waits inv hun hrd
  have hd' : ∀ (i : Nat) (o : Oper), l.toArray[i]? = some o → dstOk X.N o.dst = true := fun i o ho => dstsOk_spec hd o (List.mem_of_getElem? (by simpa using ho))
  have htm : (l.take m).length = m := by simp; omega
  have htl : ((l.take n).drop m).length = n - m := by simp; omega
  have inv0 : HeadInv .any l.toArray n (Array.replicate l.length false) :=
    ⟨by simp, fun j oj _ hl => (by rw [getD_replicate_false] at hl; cases hl), fun t _ ht => getD_in (by simpa using ht) (getD_replicate_false _ _)⟩
  let T := aTrG X.P l.toArray (Q .normal) tr
  let Lq : AState → Prop := fun σ => ∃ σ0, T σ0 ∧ Eqv σ0 σ
  have hLq : InvK Lq := fun σ σ' he ⟨σ0, h1, h2⟩ => ⟨σ0, h1, h2.trans he⟩
  have mono : ∀ (l' : List Oper) (σ : AState), aList X.P l.toArray T l' σ → aList X.P l.toArray Lq l' σ := by
    intro l'
    induction l' with
    | nil => exact fun σ h => ⟨σ, h, Eqv.refl σ⟩
    | cons o r ih => exact fun σ h => astep_mono ih h
  refine wp_mono (Q := fun e a w => e = .normal ∧ Lift X Q .normal a w) ?_ fun e a w ⟨he, hq⟩ => by subst he; exact hq
  refine wp_region_any hm ?_
  have := wpAny_of_fr (X := X) (ops := l.toArray) (K := aList X.P l.toArray T ((l.take n).drop m)) (Q := fun e a w => e = .normal ∧ Lift X Q .normal a w) (F := (n - m) + (l.length - n)) (n := n) hsel hd' (fun c a w hq => by cases hq.1)
    (fun listed σ1 g1 a1 w1 hc inv hk hr1 => by
      have H := aAnyL_lexP (P := X.P) (md := .any) (m := m) (CL := fun listed => trGC .any l.toArray tr (l.length - n) listed && (Region.ready .any l.toArray listed).all fun j => decide (n ≤ j)) hLq hw (fun listed hc => by
        simp only [Bool.and_eq_true, List.all_eq_true, decide_eq_true_eq] at hc
        exact hc.2) ((l.take n).drop m) m listed σ1 (Nat.le_refl _) (fun j hj => by
        have hj' : j < n - m := by rw [htl] at hj; exact hj
        rw [List.getElem?_drop, List.getElem?_take_of_lt (by omega)]
        simp) (by rw [htl]; omega) inv (by rw [htl]; exact hc) (mono _ _ hk)
      have := wpAny_of_aHead (X := X) (g := g1) (Q := fun e a w => e = .normal ∧ Lift X Q .normal a w) (k := l.length - n) hd' (fun listed σ' a' w' hL hr => by
        obtain ⟨hL1, σ0, hL2, hL3⟩ := hL
        have hL4 := (Bool.and_eq_true_iff.1 hL1).1
        exact wpAny_of_trG (X := X) (Q := fun e a w => e = .normal ∧ Lift X Q .normal a w) (K := Q .normal) hsel hd' (fun c a w hq => by cases hq.1) (fun σ g a w hk hr => ⟨rfl, σ, g, hk, hr⟩) tr _ listed g1 σ0 a' w' (hr.eqv hL3.symm) hL4 hL2) _ _ _ _ _ hr1 H
      rw [htl] at this
      exact this) (l.take m) 0 _ g σ a { w with drawn := w.drawn + 1 } (fun j hj => by
        have hj' : j < m := by rw [htm] at hj; exact hj
        simp [hj']) (by rw [htm]; omega) inv0 hr.drew (by rw [htm]; exact hlex) h
  rw [htm, show m + ((n - m) + (l.length - n)) = l.length by omega] at this
  simpa using this
end

attribute [push_cast] aFr

end Go.Proofs.YtellipmolheaaaaDoor
