/- Lemmas and contracts of functions. No condition. -/
import Derived.Test.YtifbnponicgplaaGreatDoorJPfBoth4221
namespace Go.Proofs.YtifbnponicgplaaGreatDoor
open _root_.Go.Proofs.Tryz
set_option maxRecDepth 100000
set_option maxHeartbeats 20000000
set_option linter.all false
section
open Go
theorem zkq:Rows.tierLongRow.wfByText (OpenSpec.ofChange Rows.tierLongSpec)=true:=by kernel_rfl
theorem zgE:Tryz.pinned.checked.prog.mainIs=some (Rows.tierLongCard.stood.harness.1,Rows.tierLongCard.stood.harness.2.toList):=by kernel_rfl
theorem zhk:Tryz.pinned.checked.prog.funcNamed Rows.tierLongRow.func=some 3:=by kernel_rfl
theorem zfd:([3].all fun u => !prog.wantsStandIn u)=true:=by kernel_rfl
theorem zhb:false=Rows.tierLongRow.goesBy Tryz.pinned.checked.prog:=by
 have hs:Rows.tierLongRow.start=.entering:=rfl;unfold OpenClaim.goesBy Program.goesAt Program.goesFrom;rw[hs]
 cases Tryz.pinned.checked.prog.funcNamed Rows.tierLongRow.func with
 | none=>rfl
 | some f=>simp only[Option.any_some,zdX Q9 f];rfl
theorem ziK:false=Tryz.pinned.checked.prog.looks []:=by kernel_rfl
end
end Go.Proofs.YtifbnponicgplaaGreatDoor
