/- Lemmas and contracts of functions. No condition. -/
import Derived.Test.YtpadepliilhmhaaGreatDoorJPfBoth2522
namespace Go.Proofs.YtpadepliilhmhaaGreatDoor
open _root_.Go.Proofs.Tryz
set_option maxRecDepth 100000
set_option maxHeartbeats 20000000
set_option linter.all false
section
open Go
theorem zhQ:Rows.cursorNoneRow.wfByText (OpenSpec.ofChange Rows.cursorNoneSpec)=true:=by kernel_rfl
theorem zdC:Tryz.pinned.checked.prog.mainIs=some (Rows.cursorNoneCard.stood.harness.1,Rows.cursorNoneCard.stood.harness.2.toList):=by kernel_rfl
theorem zft:Tryz.pinned.checked.prog.funcNamed Rows.cursorNoneRow.func=some 4:=by kernel_rfl
theorem zj7:([37,3,27].all fun u => !prog.wantsStandIn u)=true:=by kernel_rfl
theorem zdW:false=Rows.cursorNoneRow.goesBy Tryz.pinned.checked.prog:=by
 have hs:Rows.cursorNoneRow.start=.entering:=rfl;unfold OpenClaim.goesBy Program.goesAt Program.goesFrom;rw[hs]
 cases Tryz.pinned.checked.prog.funcNamed Rows.cursorNoneRow.func with
 | none=>rfl
 | some f=>simp only[Option.any_some,zkn zd0 f];rfl
theorem zfm:false=Tryz.pinned.checked.prog.looks []:=by kernel_rfl
end
end Go.Proofs.YtpadepliilhmhaaGreatDoor
