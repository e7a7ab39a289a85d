/- Lemmas and contracts of functions. No condition. -/
import Derived.Test.YtifbnponicgplaaGreatDoorJPfBoth4221
namespace Go.Proofs.YtifbnponicgplaaGreatDoor
open _root_.Go.Proofs.Tryz
set_option maxRecDepth 100000
set_option maxHeartbeats 20000000
set_option linter.all false
section
open Go
theorem zhZ:Rows.tierNoneRow.wfByText (OpenSpec.ofChange Rows.tierNoneSpec)=true:=by kernel_rfl
theorem zik:Tryz.pinned.checked.prog.mainIs=some (Rows.tierNoneCard.stood.harness.1,Rows.tierNoneCard.stood.harness.2.toList):=by kernel_rfl
theorem zkg:Tryz.pinned.checked.prog.funcNamed Rows.tierNoneRow.func=some 4:=by kernel_rfl
theorem zfH:([40].all fun u => !prog.wantsStandIn u)=true:=by kernel_rfl
theorem zk7:false=Rows.tierNoneRow.goesBy Tryz.pinned.checked.prog:=by
 have hs:Rows.tierNoneRow.start=.entering:=rfl;unfold OpenClaim.goesBy Program.goesAt Program.goesFrom;rw[hs]
 cases Tryz.pinned.checked.prog.funcNamed Rows.tierNoneRow.func with
 | none=>rfl
 | some f=>simp only[Option.any_some,zdX Q9 f];rfl
theorem zk2:false=Tryz.pinned.checked.prog.looks []:=by kernel_rfl
end
end Go.Proofs.YtifbnponicgplaaGreatDoor
