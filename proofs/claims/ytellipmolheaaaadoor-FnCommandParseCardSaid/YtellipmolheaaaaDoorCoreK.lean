import Derived.Test.YtellipmolheaaaaDoorCoreC
set_option linter.unusedSimpArgs false
namespace Go.Proofs.YtellipmolheaaaaDoor
open Go Go.RowKit

/-! ### a region that draws its order: any number may be ready at once -/

section
variable {X : Ctx} {ops : Array Oper}

/-- what comes next: one of several -/
inductive TrN where
  | done
  | stop
  | alt (i : Nat) (t : TrN) (r : TrN)

def headsN : TrN → List Nat
  | .alt i _ r => i :: headsN r
  | _ => []

def trNC (md : Region.Mode) (ops : Array Oper) : TrN → Nat → Array Bool → Bool
  | .done, _, _ => true
  | .stop, _, _ => true
  | .alt i t r, f + 1, listed => (Region.ready md ops (listed.setIfInBounds i true) == headsN t) && (match t with | .stop => false | _ => true) && trNC md ops t f (listed.setIfInBounds i true) && trNC md ops r (f + 1) listed
  | .alt _ _ _, 0, _ => false

def aTrN (P : Program) (ops : Array Oper) (K : AState → Prop) : TrN → AState → Prop
  | .done, σ => K σ
  | .stop, _ => True
  | .alt i t r, σ => (match ops[i]? with
    | some o => aX P ops o (aTrN P ops K t) σ
    | none => False) ∧ aTrN P ops K r σ

theorem wpAny_of_trN {K : AState → Prop} {Q : Exit → Act → World → Prop} (hd : ∀ (i : Nat) (o : Oper), ops[i]? = some o → dstOk X.N o.dst = true)
    (hK : ∀ σ g a w, K σ → Rep X g σ a w → Q .normal a w) : ∀ (t : TrN) (f : Nat) (listed : Array Bool) (g : Gh) (σ : AState) (a : Act) (w : World), Rep X g σ a w → trNC .any ops t f listed = true →
    aTrN X.P ops K t σ →
    (Region.ready .any ops listed = headsN t → (match t with | .stop => false | _ => true) = true → wpAny X.P .any ops Q f listed a w) ∧
      (∀ f', f = f' + 1 → ∀ k ∈ headsN t, wpOp X.P ops Q k (fun a w => wpAny X.P .any ops Q f' (listed.setIfInBounds k true) a w) a w)
  | .done, f, listed, g, σ, a, w, h, hB, hs => ⟨fun hr _ => wpAny_done hr (hK σ g a w hs h) f, fun _ _ k hk => by cases hk⟩
  | .stop, f, listed, g, σ, a, w, h, hB, hs => ⟨fun _ hn => (by cases hn), fun _ _ k hk => (by cases hk)⟩
  | .alt i t r, 0, listed, g, σ, a, w, h, hB, hs => by cases hB
  | .alt i t r, f + 1, listed, g, σ, a, w, h, hB, hs => by
    simp only [trNC, Bool.and_eq_true, beq_iff_eq] at hB
    obtain ⟨⟨⟨hB0, hB1⟩, hB2⟩, hB3⟩ := hB
    simp only [aTrN] at hs
    obtain ⟨hs, hsr⟩ := hs
    have all : ∀ k ∈ headsN (.alt i t r), wpOp X.P ops Q k (fun a w => wpAny X.P .any ops Q f (listed.setIfInBounds k true) a w) a w := fun k hk => by
      rcases List.mem_cons.1 hk with rfl | hk
      · unfold wpOp
        cases ho : ops[k]? with
        | none => rw [ho] at hs; exact hs.elim
        | some o =>
          rw [ho] at hs
          simp only
          have := aX_sound (Q := Q) h (hd k o ho) hs fun σ' g' a' w' hk hr => (wpAny_of_trN hd hK t f _ g' σ' a' w' hr hB2 hk).1 hB0 hB1
          by_cases hw : Region.wanted o (yielded ops a.tmps) = true
          · rw [if_pos hw] at this ⊢; exact .inl this
          · rw [if_neg hw] at this ⊢; exact this
      · exact (wpAny_of_trN hd hK r (f + 1) listed g σ a w h hB3 hsr).2 f rfl k hk
    exact ⟨fun hr _ => wpAny_all hr (by simp [headsN]) all, fun f' e => by
      obtain rfl : f = f' := by omega
      exact all⟩

/-- A REGION THAT DRAWS ITS ORDER: every order, one by one -/
theorem awp_orders {Q : Exit → AState → Prop} {σ : AState} {P : Program} {N : Nat} {id : Nat} {l : List Oper} (hP : X.P = P) (hN : X.N = N) (tr : TrN) (hm : P.follows .mixedOrders = true)
    (hB : ((Region.ready .any l.toArray (Array.replicate l.length false) == headsN tr) && (match tr with | .stop => false | _ => true) && trNC .any l.toArray tr l.length (Array.replicate l.length false)) = true) (hd : dstsOk N l = true)
    (h : aTrN P l.toArray (Q .normal) tr σ) : AWp X (.region id l.toArray true) Q σ := fun g a w hr => by
  subst hP; subst hN
  simp only [Bool.and_eq_true, beq_iff_eq] at hB
  have hd' : ∀ (i : Nat) (o : Oper), l.toArray[i]? = some o → dstOk X.N o.dst = true := fun i o ho => dstsOk_spec hd o (List.mem_of_getElem? (by simpa using ho))
  refine wp_mono (Q := fun e a w => e = .normal ∧ Lift X Q .normal a w) ?_ fun e a w ⟨he, hq⟩ => by subst he; exact hq
  refine wp_region_any hm ?_
  have := (wpAny_of_trN (X := X) (Q := fun e a w => e = .normal ∧ Lift X Q .normal a w) (K := Q .normal) hd' (fun σ g a w hk hr => ⟨rfl, σ, g, hk, hr⟩) tr l.length
    (Array.replicate l.length false) g σ a { w with drawn := w.drawn + 1 } hr.drew hB.2 h).1 hB.1.1 hB.1.2
  simpa using this

attribute [push_cast] aTrN

end

end Go.Proofs.YtellipmolheaaaaDoor
