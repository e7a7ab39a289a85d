/- Lemmas and contracts of functions. No condition. -/
import Derived.Test.YtdohbogbnheakaaGreatDoorJPfBoth4821
namespace Go.Proofs.YtdohbogbnheakaaGreatDoor
open _root_.Go.Proofs.Tryz
set_option maxRecDepth 100000
set_option maxHeartbeats 20000000
set_option linter.all false
section
open Go.RowKit
def dlT(ttl q:Nat):Nat:=if ttl=0 then V1 else xe q ttl
def j5(t:Bst)(key:ByteArray)(n ttl:Nat):Bool:=decide (t.births<16)&&decide (vZ key t=0)&&(decide (ttl=0)||decide (vr t key.size n=0))&&decide (key.size≤1000)&&decide (n≤100000)&&decide (ttl≤V1)&&decide (t.now≤V1)
end
end Go.Proofs.YtdohbogbnheakaaGreatDoor
