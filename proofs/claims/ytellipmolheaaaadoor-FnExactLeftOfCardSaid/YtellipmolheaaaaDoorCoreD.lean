import Derived.Test.YtellipmolheaaaaDoorCoreB
import Derived.Laws.CopyRow
set_option linter.unusedSimpArgs false
set_option linter.unusedVariables false
namespace Go.Proofs.YtellipmolheaaaaDoor
open Go Go.RowKit

/-! ## rows that are handed over -/

section
variable {X : Ctx} {g : Gh} {σ : AState} {a : Act} {w : World}

theorem Rep.hargs (h : Rep X g σ a w) (i : Nat) (xs : List Operand) (hva : ∀ x ∈ xs, σ.va x = true) (hno : xs.all (fun x => !(σ.val x).has i && ((σ.val x).toArg X.P).noRd) = true) :
    ArgsR X.P (fun b => (Fb X g b ∧ ∀ d, g.own d ≠ some b) ∨ g.own i = some b) none w (xs.map a.eval).toArray (xs.map fun x => (σ.val x).toArg X.P) := by
  refine ⟨by simp, fun j av hj => ?_⟩
  simp only [List.getElem?_map, Option.map_eq_some_iff] at hj
  obtain ⟨x, hx, rfl⟩ := hj
  refine ⟨a.eval x, by simp [hx], ?_⟩
  have hxr := h.val (x := x) (hva x (List.mem_of_getElem? hx))
  have hn := List.all_eq_true.1 hno x (List.mem_of_getElem? hx)
  rw [Bool.and_eq_true, Bool.not_eq_true'] at hn
  have hless : ∀ b, (Fb X g b ∧ ∀ d, g.own d ≠ some b) ∨ g.own i = some b → Fb X g b := fun b hb => hb.elim (·.1) (fun hb => .inr (.inl ⟨i, hb⟩))
  generalize hav : σ.val x = av at hxr hn
  have hstep := fun (ho : ∀ d, av.has d = true → False) => hxr.step (F' := fun b => (Fb X g b ∧ ∀ d, g.own d ≠ some b) ∨ g.own i = some b) (own' := fun _ => none) (rho' := g.rho) (Step.refl (fun _ => False) w) (fun b _ hb => hless b hb) (fun _ _ hb => hb.elim) (fun d hd => (ho d hd).elim) rfl
  have hother : ∀ d, (d == i) = false → ∀ b, g.own d = some b → ¬ ((Fb X g b ∧ ∀ d, g.own d ≠ some b) ∨ g.own i = some b) := fun d hdi b hb hf => by
    rcases hf with hf | hf
    · exact hf.2 d hb
    · have := h.inj d i b hb hf
      subst this
      simp at hdi
  cases av
  case own d e vs => exact OwnR.sl hxr (hother d hn.1)
  case vw d k vs => exact Sl.less hxr (fun b hb => ⟨hless b hb, fun e => hother d hn.1 b e hb⟩)
  case bx d cells off => trivial
  case ep d e vs i off => trivial
  case cnd c' x' => trivial
  case tupo d e vs rest => trivial
  case free => trivial
  case mp d t ks => trivial
  case rd => simp [AV.toArg, AV.noRd] at hn
  all_goals exact RepV.noRd (hstep (by simp [AV.has])) rfl

end

/-! ### a function to which a row is handed over -/

def AV.plain : AV → Bool
  | .any | .v _ | .sl _ _ | .ptr _ _ | .clo _ _ _ => true
  | _ => false

/-! ### operations, then a tail that is walked by itself -/

section
variable {X : Ctx} {g : Gh} {σ : AState} {a : Act} {w : World}

end

end Go.Proofs.YtellipmolheaaaaDoor
