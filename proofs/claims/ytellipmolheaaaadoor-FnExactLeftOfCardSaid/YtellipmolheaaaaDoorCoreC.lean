import Derived.Test.YtellipmolheaaaaDoorCoreB
set_option linter.unusedSimpArgs false
set_option linter.unusedVariables false
namespace Go.Proofs.YtellipmolheaaaaDoor
open Go Go.RowKit

/-! ## regions that draw their order and make memory: what hangs on no memory comes first -/

/-- operations whose result hangs on no memory -/
def memB (op : Op) : Bool := match op with
  | .move _ | .assign _ | .binOp _ _ _ _ _ | .unOp _ _ _ | .slice _ _ _ _ none => true
  | .call c => match c.callee with
    | .builtin .len => true
    | _ => false
  | _ => false

section
variable {X : Ctx} {g : Gh} {σ : AState} {a : Act} {w : World}

/-- which comes next: one, or one of two -/
inductive Tr where
  | done
  | one (i : Nat) (t : Tr)
  | two (i : Nat) (t : Tr) (j : Nat) (u : Tr)

def aTr (P : Program) (ops : Array Oper) (K : AState → Prop) : Tr → AState → Prop
  | .done, σ => K σ
  | .one i t, σ => match ops[i]? with
    | some o => aX P ops o (aTr P ops K t) σ
    | none => False
  | .two i t j u, σ => match ops[i]?, ops[j]? with
    | some o, some o' => aX P ops o (aTr P ops K t) σ ∧ aX P ops o' (aTr P ops K u) σ
    | _, _ => False

def aMs (P : Program) (ops : Array Oper) (K : AState → Prop) : List Nat → AState → Prop
  | [], σ => K σ
  | i :: r, σ => match ops[i]? with
    | some o => memB o.op = true ∧ match sop' P σ.val σ.va o.op with
      | some (sc, x) => vprop (guardOf ops σ.get o) sc ∧ aMs P ops K r (σ.put o.dst (mkg (guardOf ops σ.get o) x))
      | none => False
    | none => False

end

attribute [push_cast] aTr aMs memB

end Go.Proofs.YtellipmolheaaaaDoor
