import Derived.Test.YtellipmolheaaaaGreatDoorCoreD
import Derived.Test.YtellipmolheaaaaGreatDoorConCI
import Derived.Test.YtellipmolheaaaaGreatDoorConZ
import Derived.Lib.AppendZeros
set_option linter.unusedSimpArgs false
set_option linter.unusedVariables false
namespace Go.Proofs.YtellipmolheaaaaGreatDoor
open Go Go.RowKit

/-! ## what is known of the world in which a call began -/

section
variable {X : Ctx} {g : Gh} {σ : AState} {a : Act} {w : World}

end

end Go.Proofs.YtellipmolheaaaaGreatDoor

set_option linter.unusedVariables false
set_option linter.unusedSimpArgs false
set_option maxRecDepth 10000
namespace Go.Proofs.YtellipmolheaaaaGreatDoor
open Go Go.RowKit

/-! ### logs joined: slices.Concat -/

end Go.Proofs.YtellipmolheaaaaGreatDoor
