/- Lemmas and contracts of functions. No condition. -/
import Derived.Test.YtpadepliilhmhaaGreatDoorJPfBoth2522
namespace Go.Proofs.YtpadepliilhmhaaGreatDoor
open _root_.Go.Proofs.Tryz
set_option maxRecDepth 100000
set_option maxHeartbeats 20000000
set_option linter.all false
section
open Go
theorem zlI:Rows.cursorFullRow.wfByText (OpenSpec.ofChange Rows.cursorFullSpec)=true:=by kernel_rfl
theorem zlz:Tryz.pinned.checked.prog.mainIs=some (Rows.cursorFullCard.stood.harness.1,Rows.cursorFullCard.stood.harness.2.toList):=by kernel_rfl
theorem zlF:Tryz.pinned.checked.prog.funcNamed Rows.cursorFullRow.func=some 3:=by kernel_rfl
theorem zlA:([5,5].all fun u => !prog.wantsStandIn u)=true:=by kernel_rfl
theorem zlH:false=Rows.cursorFullRow.goesBy Tryz.pinned.checked.prog:=by
 have hs:Rows.cursorFullRow.start=.entering:=rfl;unfold OpenClaim.goesBy Program.goesAt Program.goesFrom;rw[hs]
 cases Tryz.pinned.checked.prog.funcNamed Rows.cursorFullRow.func with
 | none=>rfl
 | some f=>simp only[Option.any_some,zkn zd0 f];rfl
theorem zlG:false=Tryz.pinned.checked.prog.looks []:=by kernel_rfl
end
end Go.Proofs.YtpadepliilhmhaaGreatDoor
