import Derived.Test.YtellipmolheaaaaDoorConB
set_option linter.unusedSimpArgs false
set_option maxRecDepth 10000
namespace Go.Proofs.YtellipmolheaaaaDoor
open Go Go.RowKit

def depthF (s : List UInt8) : Int := if pathOk s = true then (s.length : Int) / 2 else -1
def parentF (s : List UInt8) : List UInt8 := if s.length ≤ 2 then [47] else s.take (s.length - 2)
def nodeOk (t : List Nod) (i : Nat) (x y : Nod) : Bool :=
  !(decide (depthF x.p < 1) || !conOk x.c || decide (x.c.k = 0) || (decide ((0 : Int) < i) && !Op.bytesLess y.p x.p)) && decide ((getT t (parentF x.p)).k = 1)
def nodeAt (t : List Nod) (i : Nat) : Bool := match t[i]?, t[((i : Int) - 1).toNat]? with
  | some x, some y => nodeOk t i x y
  | _, _ => true
def treeOk (t : List Nod) : Bool := (List.range t.length).all (nodeAt t) && decide (t.length ≤ 10)

theorem pathDepth_d (s : List UInt8) (h2 : s.length ≤ 2000000) : ACalls Tryd.prog 122 [.v (strV s)] 0 (fun r => r = .v (.int .i64 (depthF s))) := pathDepth_c s h2
theorem parent_d (s : List UInt8) (h2 : s.length ≤ 2000000) : ACalls Tryd.prog 135 [.v (strV s)] 0 (fun r => r = .v (strV (parentF s))) := parent_s s h2

end Go.Proofs.YtellipmolheaaaaDoor
