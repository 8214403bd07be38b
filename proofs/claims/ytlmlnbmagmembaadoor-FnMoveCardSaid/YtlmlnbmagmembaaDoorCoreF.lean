import Derived.Test.YtlmlnbmagmembaaDoorCoreE
set_option linter.unusedSimpArgs false
namespace Go.Proofs.YtlmlnbmagmembaaDoor
open Go Go.RowKit

/-! ## regions that draw their order: some that hang on no memory first -/

section
variable {X : Ctx} {g : Gh} {ops : Array Oper} {md : Region.Mode}

theorem aAnyL_firstP {P : Program} {n i : Nat} {oi : Oper} {L : Array Bool → AState → Prop} (hLi : ∀ l, InvK (L l)) (hi : ops[i]? = some oi)
    (hw : ∀ (listed : Array Bool), HeadInv md ops n listed → listed.getD i true = false → ∀ t, n ≤ t → t ∉ Region.ready md ops listed) (hin : i < n)
    (hdone : ∀ listed σ, L listed σ → ∀ j ∈ Region.ready md ops listed, n ≤ j) :
    ∀ (f : Nat) (listed : Array Bool) (σ : AState), HeadInv md ops n listed →
      (∀ j oj, ops[j]? = some oj → j ≠ i → listed.getD j true = false → ¬ Desc md ops i j → oi.apart ops oj = true ∧ (detB oi = true ∨ detB oj = true)) →
      i ∈ Region.ready md ops listed →
      astep P ops oi (aAnyL P md ops n L f (listed.setIfInBounds i true)) σ → aAnyL P md ops n L (f + 1) listed σ := by
  intro f
  induction f with
  | zero =>
    intro listed σ inv _ hr H
    have hun := (mem_ready.1 hr).1
    refine ⟨fun h => (by rw [h] at hr; cases hr), fun j hj => ?_⟩
    have hjn : j < n := by
      rcases Nat.lt_or_ge j n with h | h
      · exact h
      · exact absurd hj (hw listed inv hun j h)
    refine ⟨hjn, ?_⟩
    by_cases hji : j = i
    · subst hji; unfold aOp; rw [hi]; exact H
    · obtain ⟨σ', hσ⟩ := astep_some H
      have := hdone _ _ hσ j (ready_mono hj hji)
      omega
  | succ f ih =>
    intro listed σ inv hfree hr H
    have hun := (mem_ready.1 hr).1
    refine ⟨fun h => (by rw [h] at hr; cases hr), fun j hj => ?_⟩
    have hjn : j < n := by
      rcases Nat.lt_or_ge j n with h | h
      · exact h
      · exact absurd hj (hw listed inv hun j h)
    refine ⟨hjn, ?_⟩
    by_cases hji : j = i
    · subst hji; unfold aOp; rw [hi]; exact H
    · obtain ⟨hjun, oj, hoj, hall⟩ := mem_ready.1 hj
      have hnot : ¬ Desc md ops i j := fun h => h.waits inv hun hj
      have h1 : astep P ops oi (astep P ops oj (aAnyL P md ops n L f ((listed.setIfInBounds i true).setIfInBounds j true))) σ := astep_mono (fun σ' h' => by
        have := (h'.2 j (ready_mono hj hji)).2
        unfold aOp at this
        rw [hoj] at this
        exact this) H
      obtain ⟨hap, hdet⟩ := hfree j oj hoj hji hjun hnot
      have h2 := astep_comm (aAnyL_inv hLi f _) hap hdet h1
      have hfree' : ∀ k ok, ops[k]? = some ok → k ≠ i → (listed.setIfInBounds j true).getD k true = false →
          ¬ Desc md ops i k → oi.apart ops ok = true ∧ (detB oi = true ∨ detB ok = true) := fun k ok hk hki hun hno => by
        refine hfree k ok hk hki ?_ hno
        by_cases hjk : j = k
        · subst hjk; exact hjun
        · rw [getD_set_ne true hjk] at hun; exact hun
      unfold aOp
      rw [hoj]
      refine astep_mono (fun σ' h3 => ih (listed.setIfInBounds j true) σ' (inv.set hj hjn) hfree' (ready_mono hr (Ne.symm hji)) ?_) h2
      rw [Array.setIfInBounds_comm _ _ hji]
      exact h3

theorem aAnyL_lexP {P : Program} {m n : Nat} {Lq : AState → Prop} {CL : Array Bool → Bool} (hLq : InvK Lq)
    (hw : ∀ i, m ≤ i → i < n → ∀ (listed : Array Bool), HeadInv md ops n listed → listed.getD i true = false → ∀ t, n ≤ t → t ∉ Region.ready md ops listed) (hCL : ∀ listed, CL listed = true → ∀ j ∈ Region.ready md ops listed, n ≤ j) :
    ∀ (l : List Oper) (i : Nat) (listed : Array Bool) (σ : AState), m ≤ i → (∀ j, j < l.length → l[j]? = ops[i + j]?) → i + l.length = n → HeadInv md ops n listed →
      lexHeadT md ops CL l.length i listed = true → aList P ops Lq l σ →
      aAnyL P md ops n (fun listed' σ' => CL listed' = true ∧ Lq σ') l.length listed σ
  | [], i, listed, σ, _, _, hk, _, hB, h => ⟨by simpa [lexHeadT] using hB, h⟩
  | o :: l, i, listed, σ, hmi, hl, hk, inv, hB, h => by
    have h0 : ops[i]? = some o := by simpa using (hl 0 (by simp)).symm
    simp only [List.length_cons, lexHeadT, Bool.and_eq_true] at hB
    obtain ⟨⟨hr, hf⟩, hB'⟩ := hB
    have hkn : i < n := by simp only [List.length_cons] at hk; omega
    have hr' : i ∈ Region.ready md ops listed := by simpa using hr
    refine aAnyL_firstP (fun l => fun σ σ' he h => ⟨h.1, hLq _ _ he h.2⟩) h0 (hw i hmi hkn) hkn (fun listed' σ' hL => hCL listed' hL.1) l.length listed σ inv (freeC_spec h0 hf) hr' ?_
    exact astep_mono (fun σ' h' => aAnyL_lexP hLq hw hCL l (i + 1) _ σ' (by omega) (fun j hj => by have := hl (j + 1) (by simp; omega); simpa [Nat.add_assoc, Nat.add_comm 1 j] using this) (by simp only [List.length_cons] at hk; omega)
      (inv.set hr' hkn) hB' h') h

def aFr (P : Program) (ops : Array Oper) (K : AState → Prop) : List Oper → AState → Prop
  | [], σ => K σ
  | o :: r, σ => memB o.op = true ∧ match sop' P σ.val σ.va o.op with
    | some (sc, x) => vprop (guardOf ops σ.get o) sc ∧ aFr P ops K r (σ.put o.dst (mkg (guardOf ops σ.get o) x))
    | none => False

def frC (md : Region.Mode) (ops : Array Oper) (CL : Array Bool → Bool) : Nat → Nat → Array Bool → Bool
  | 0, _, listed => CL listed
  | f + 1, k, listed => (Region.ready md ops listed).contains k && Region.free md ops listed k && frC md ops CL f (k + 1) (listed.setIfInBounds k true)

theorem wpAny_of_fr {K : AState → Prop} {Q : Exit → Act → World → Prop} {F n : Nat} {CL : Array Bool → Bool} (hsel : Region.noSelect ops = true) (hd : ∀ (i : Nat) (o : Oper), ops[i]? = some o → dstOk X.N o.dst = true)
    (hQ : ∀ c a w, ¬ Q (.panic c) a w) (hK : ∀ listed σ g a w, CL listed = true → HeadInv .any ops n listed → K σ → Rep X g σ a w → wpAny X.P .any ops Q F listed a w) :
    ∀ (l : List Oper) (i : Nat) (listed : Array Bool) (g : Gh) (σ : AState) (a : Act) (w : World), (∀ j, j < l.length → l[j]? = ops[i + j]?) → i + l.length ≤ n → HeadInv .any ops n listed → Rep X g σ a w →
      frC .any ops CL l.length i listed = true → aFr X.P ops K l σ → wpAny X.P .any ops Q (l.length + F) listed a w
  | [], i, listed, g, σ, a, w, _, _, inv, h, hB, hs => by
    rw [List.length_nil, Nat.zero_add]
    exact hK listed σ g a w hB inv hs h
  | o :: l, i, listed, g, σ, a, w, hl, hn, inv, h, hB, hs => by
    have ho : ops[i]? = some o := by simpa using (hl 0 (by simp)).symm
    simp only [List.length_cons, frC, Bool.and_eq_true] at hB
    obtain ⟨⟨hB1, hB2⟩, hB3⟩ := hB
    simp only [aFr] at hs
    obtain ⟨hm, hs⟩ := hs
    have hin : i < n := by simp only [List.length_cons] at hn; omega
    split at hs
    · rename_i sc x hsop
      obtain ⟨hsc, hs⟩ := hs
      obtain ⟨hun, hon⟩ := guardOf_wanted (ops := ops) (o := o) h
      rw [show (o :: l).length + F = (l.length + F) + 1 by simp only [List.length_cons]; omega]
      have fin : ∀ v, Yields X.P ops o v a → RepV X.P (Fb X g) g.own g.rho w v (mkg (guardOf ops σ.get o) x) → wpAny X.P .any ops Q ((l.length + F) + 1) listed a w := fun v hy hv =>
        wpAny_take ho hsel hB2 hB1 (fun c a w hq => absurd hq (hQ c _ w)) hy (wpAny_of_fr hsel hd hQ hK l (i + 1) _ g _ _ w (fun j hj => by have := hl (j + 1) (by simp; omega); simpa [Nat.add_assoc, Nat.add_comm 1 j] using this)
          (by simp only [List.length_cons] at hn; omega) (inv.set (by simpa using hB1) hin) (h.put (hd i o ho) hv) hB3 hs)
      cases hg : guardOf ops σ.get o with
      | bad => rw [hg] at hsc; exact hsc.elim
      | un =>
        rw [hg] at hsc fin
        obtain ⟨v, hrun, hv⟩ := sop'_free h hsop hsc hm
        exact fin v (.inl ⟨hun hg, hrun⟩) hv
      | on b =>
        rw [hg] at hsc fin
        cases b with
        | true =>
          obtain ⟨v, hrun, hv⟩ := sop'_free h hsop (hsc rfl) hm
          exact fin v (.inl ⟨hon true hg, hrun⟩) hv.on
        | false => exact fin undef (.inr ⟨hon false hg, rfl⟩) (RepV.skip x)
    · exact hs.elim

/-- the first `m` operations hang on no memory and come first, those up to `n` in any order, the others behind these, as `tr` says -/
def drawPC (ops : Array Oper) (m n : Nat) (tr : TrG) : Bool :=
  Region.noSelect ops && decide (m ≤ n) && decide (n ≤ ops.size) && ((List.range n).all fun i => decide (i < m) || (List.range ops.size).all fun t => decide (t < n) || (descL .any ops i).contains t) &&
    frC .any ops (lexHeadT .any ops (fun listed => trGC .any ops tr (ops.size - n) listed && (Region.ready .any ops listed).all fun j => decide (n ≤ j)) (n - m) m) m 0 (Array.replicate ops.size false)

theorem awp_drawP {Q : Exit → AState → Prop} {σ : AState} {P : Program} {N : Nat} {id : Nat} {l : List Oper} (hP : X.P = P) (hN : X.N = N) (m n : Nat) (tr : TrG) (hm : P.follows .mixedOrders = true)
    (hB : drawPC l.toArray m n tr = true) (hd : dstsOk N l = true)
    (h : aFr P l.toArray (aList P l.toArray (aTrG P l.toArray (Q .normal) tr) ((l.take n).drop m)) (l.take m) σ) : AWp X (.region id l.toArray true) Q σ := fun g a w hr => by
  subst hP; subst hN
  simp only [drawPC, Bool.and_eq_true, decide_eq_true_eq, List.size_toArray] at hB
  obtain ⟨⟨⟨⟨hsel, hmn⟩, hn⟩, hwt⟩, hlex⟩ := hB
  have hw : ∀ i, m ≤ i → i < n → ∀ (listed : Array Bool), HeadInv .any l.toArray n listed → listed.getD i true = false → ∀ t, n ≤ t → t ∉ Region.ready .any l.toArray listed := by
    intro i hmi hin listed inv hun t ht hrd
    obtain ⟨_, o, ho, _⟩ := mem_ready.1 hrd
    have hts := (Array.getElem?_eq_some_iff.1 ho).1
    rw [List.all_eq_true] at hwt
    have h1 := hwt i (List.mem_range.2 hin)
    rw [decide_eq_false (show ¬ i < m by omega), Bool.false_or, List.all_eq_true] at h1
    have h2 := h1 t (List.mem_range.2 (by simpa using hts))
    simp only [Bool.or_eq_true, decide_eq_true_eq] at h2
    rcases h2 with h2 | h2
    · omega
    · exact (descL_spec i t (by simpa using h2)).waits inv hun hrd
  have hd' : ∀ (i : Nat) (o : Oper), l.toArray[i]? = some o → dstOk X.N o.dst = true := fun i o ho => dstsOk_spec hd o (List.mem_of_getElem? (by simpa using ho))
  have htm : (l.take m).length = m := by simp; omega
  have htl : ((l.take n).drop m).length = n - m := by simp; omega
  have inv0 : HeadInv .any l.toArray n (Array.replicate l.length false) :=
    ⟨by simp, fun j oj _ hl => (by rw [getD_replicate_false] at hl; cases hl), fun t _ ht => getD_in (by simpa using ht) (getD_replicate_false _ _)⟩
  let T := aTrG X.P l.toArray (Q .normal) tr
  let Lq : AState → Prop := fun σ => ∃ σ0, T σ0 ∧ Eqv σ0 σ
  have hLq : InvK Lq := fun σ σ' he ⟨σ0, h1, h2⟩ => ⟨σ0, h1, h2.trans he⟩
  have mono : ∀ (l' : List Oper) (σ : AState), aList X.P l.toArray T l' σ → aList X.P l.toArray Lq l' σ := by
    intro l'
    induction l' with
    | nil => exact fun σ h => ⟨σ, h, Eqv.refl σ⟩
    | cons o r ih => exact fun σ h => astep_mono ih h
  refine wp_mono (Q := fun e a w => e = .normal ∧ Lift X Q .normal a w) ?_ fun e a w ⟨he, hq⟩ => by subst he; exact hq
  refine wp_region_any hm ?_
  have := wpAny_of_fr (X := X) (ops := l.toArray) (K := aList X.P l.toArray T ((l.take n).drop m)) (Q := fun e a w => e = .normal ∧ Lift X Q .normal a w) (F := (n - m) + (l.length - n)) (n := n) hsel hd' (fun c a w hq => by cases hq.1)
    (fun listed σ1 g1 a1 w1 hc inv hk hr1 => by
      have H := aAnyL_lexP (P := X.P) (md := .any) (m := m) (CL := fun listed => trGC .any l.toArray tr (l.length - n) listed && (Region.ready .any l.toArray listed).all fun j => decide (n ≤ j)) hLq hw (fun listed hc => by
        simp only [Bool.and_eq_true, List.all_eq_true, decide_eq_true_eq] at hc
        exact hc.2) ((l.take n).drop m) m listed σ1 (Nat.le_refl _) (fun j hj => by
        have hj' : j < n - m := by rw [htl] at hj; exact hj
        rw [List.getElem?_drop, List.getElem?_take_of_lt (by omega)]
        simp) (by rw [htl]; omega) inv (by rw [htl]; exact hc) (mono _ _ hk)
      have := wpAny_of_aHead (X := X) (g := g1) (Q := fun e a w => e = .normal ∧ Lift X Q .normal a w) (k := l.length - n) hd' (fun listed σ' a' w' hL hr => by
        obtain ⟨hL1, σ0, hL2, hL3⟩ := hL
        have hL4 := (Bool.and_eq_true_iff.1 hL1).1
        exact wpAny_of_trG (X := X) (Q := fun e a w => e = .normal ∧ Lift X Q .normal a w) (K := Q .normal) hsel hd' (fun c a w hq => by cases hq.1) (fun σ g a w hk hr => ⟨rfl, σ, g, hk, hr⟩) tr _ listed g1 σ0 a' w' (hr.eqv hL3.symm) hL4 hL2) _ _ _ _ _ hr1 H
      rw [htl] at this
      exact this) (l.take m) 0 _ g σ a { w with drawn := w.drawn + 1 } (fun j hj => by
        have hj' : j < m := by rw [htm] at hj; exact hj
        simp [hj']) (by rw [htm]; omega) inv0 hr.drew (by rw [htm]; exact hlex) h
  rw [htm, show m + ((n - m) + (l.length - n)) = l.length by omega] at this
  simpa using this
end

attribute [push_cast] aFr

end Go.Proofs.YtlmlnbmagmembaaDoor
