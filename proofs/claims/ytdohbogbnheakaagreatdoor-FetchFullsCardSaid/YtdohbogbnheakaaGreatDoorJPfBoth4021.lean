/- Lemmas and contracts of functions. No condition. -/
import Derived.Test.YtdohbogbnheakaaGreatDoorJPfBoth4020
namespace Go.Proofs.YtdohbogbnheakaaGreatDoor
open _root_.Go.Proofs.Tryz
set_option maxRecDepth 100000
set_option maxHeartbeats 20000000
set_option linter.all false
section
open Go.RowKit
def dlT(ttl q:Nat):Nat:=if ttl=0 then Vc else kC q ttl
def U8(t:Bst)(key:ByteArray)(n ttl:Nat):Bool:=decide (t.births<16)&&decide (uT key t=0)&&(decide (ttl=0)||decide (ji t key.size n=0))&&decide (key.size≤1000)&&decide (n≤100000)&&decide (ttl≤Vc)&&decide (t.now≤Vc)
end
end Go.Proofs.YtdohbogbnheakaaGreatDoor
