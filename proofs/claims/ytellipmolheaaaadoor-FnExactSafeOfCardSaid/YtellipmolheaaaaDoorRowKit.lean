import Derived.Test.YtellipmolheaaaaDoorConA
import Derived.ProofKit
import Derived.OpenShut
namespace Go.Proofs.YtellipmolheaaaaDoor
open Go.ChangeShapes Go.WideShapes Go.ChangeAt Go.RowKit

theorem own : ownKnob Tryd.prog.godebug = none := by kernel_rfl
theorem laidOut : laidOutB Tryd.prog = true := by kernel_rfl

end Go.Proofs.YtellipmolheaaaaDoor
