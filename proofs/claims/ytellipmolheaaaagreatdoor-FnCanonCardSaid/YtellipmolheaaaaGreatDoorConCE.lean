import Derived.Test.YtellipmolheaaaaGreatDoorCoreC
import Derived.Test.YtellipmolheaaaaGreatDoorConEE
import Derived.Test.YtellipmolheaaaaGreatDoorConM
import Derived.Test.YtellipmolheaaaaGreatDoorLawN
import Derived.Test.YtellipmolheaaaaGreatDoorCanS
import Derived.Test.YtellipmolheaaaaGreatDoorBack
import Derived.Test.YtellipmolheaaaaGreatDoorConCI
set_option linter.unusedSimpArgs false
namespace Go.Proofs.YtellipmolheaaaaGreatDoor
open Go Go.RowKit

/-! ## regions that draw their order: calls first, then what makes memory, under guards that are known -/

section
variable {X : Ctx} {g : Gh} {ops : Array Oper} {md : Region.Mode}

/-- an operation under a guard that is known -/
def aXG (P : Program) (ops : Array Oper) (o : Oper) (K : AState → Prop) (σ : AState) : Prop := match guardOf ops σ.get o with
  | .on true => aX P ops { o with guard := none } K σ
  | .on false => K (σ.put o.dst (.cnd false .any))
  | .un => aX P ops o K σ
  | .bad => False

/-- which comes next: one, one of two, or one that hangs on no memory -/
inductive TrG where
  | done
  | one (i : Nat) (t : TrG)
  | two (i : Nat) (t : TrG) (j : Nat) (u : TrG)
  | free (i : Nat) (t : TrG)

def aTrG (P : Program) (ops : Array Oper) (K : AState → Prop) : TrG → AState → Prop
  | .done, σ => K σ
  | .one i t, σ => match ops[i]? with
    | some o => aXG P ops o (aTrG P ops K t) σ
    | none => False
  | .two i t j u, σ => match ops[i]?, ops[j]? with
    | some o, some o' => aXG P ops o (aTrG P ops K t) σ ∧ aXG P ops o' (aTrG P ops K u) σ
    | _, _ => False
  | .free i t, σ => match ops[i]? with
    | some o => memB o.op = true ∧ match sop' P σ.val σ.va o.op with
      | some (sc, x) => vprop (guardOf ops σ.get o) sc ∧ aTrG P ops K t (σ.put o.dst (mkg (guardOf ops σ.get o) x))
      | none => False
    | none => False

end

attribute [push_cast] aTrG aXG

end Go.Proofs.YtellipmolheaaaaGreatDoor

set_option linter.unusedSimpArgs false
namespace Go.Proofs.YtellipmolheaaaaGreatDoor
open Go Go.RowKit

/-! ## regions that draw their order: some that hang on no memory first -/

section
variable {X : Ctx} {g : Gh} {ops : Array Oper} {md : Region.Mode}

def aFr (P : Program) (ops : Array Oper) (K : AState → Prop) : List Oper → AState → Prop
  | [], σ => K σ
  | o :: r, σ => memB o.op = true ∧ match sop' P σ.val σ.va o.op with
    | some (sc, x) => vprop (guardOf ops σ.get o) sc ∧ aFr P ops K r (σ.put o.dst (mkg (guardOf ops σ.get o) x))
    | none => False

end

attribute [push_cast] aFr

end Go.Proofs.YtellipmolheaaaaGreatDoor

set_option linter.unusedSimpArgs false
set_option maxRecDepth 10000
namespace Go.Proofs.YtellipmolheaaaaGreatDoor
open Go Go.RowKit

end Go.Proofs.YtellipmolheaaaaGreatDoor

set_option linter.unusedSimpArgs false
set_option maxRecDepth 10000
namespace Go.Proofs.YtellipmolheaaaaGreatDoor
open Go Go.RowKit

/-! ### the canonical log from one tree to another -/

end Go.Proofs.YtellipmolheaaaaGreatDoor

set_option linter.unusedSimpArgs false
set_option maxRecDepth 10000
namespace Go.Proofs.YtellipmolheaaaaGreatDoor
open Go Go.RowKit

/-! ### the canonical log from one tree to another: its code -/

end Go.Proofs.YtellipmolheaaaaGreatDoor
