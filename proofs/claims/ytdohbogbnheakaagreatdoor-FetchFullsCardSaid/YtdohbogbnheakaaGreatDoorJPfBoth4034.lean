/- Lemmas and contracts of functions. No condition. -/
import Derived.Test.YtdohbogbnheakaaGreatDoorJPfBoth407
namespace Go.Proofs.YtdohbogbnheakaaGreatDoor
open _root_.Go.Proofs.Tryz
set_option maxRecDepth 100000
set_option maxHeartbeats 20000000
set_option linter.all false
section
open Go
theorem zmp:Rows.fetchFullsRow.wfByText (OpenSpec.ofChange Rows.fetchFullsSpec)=true:=by kernel_rfl
theorem zmk:Tryz.pinned.checked.prog.mainIs=some (Rows.fetchFullsCard.stood.harness.1,Rows.fetchFullsCard.stood.harness.2.toList):=by kernel_rfl
theorem zmb:Tryz.pinned.checked.prog.funcNamed Rows.fetchFullsRow.func=some 3:=by kernel_rfl
theorem zmn:([3,3].all fun u => !prog.wantsStandIn u)=true:=by kernel_rfl
theorem zl4:false=Rows.fetchFullsRow.goesBy Tryz.pinned.checked.prog:=by
 have hs:Rows.fetchFullsRow.start=.entering:=rfl;unfold OpenClaim.goesBy Program.goesAt Program.goesFrom;rw[hs]
 cases Tryz.pinned.checked.prog.funcNamed Rows.fetchFullsRow.func with
 | none=>rfl
 | some f=>simp only[Option.any_some,zfY zfU f];rfl
theorem zmd:true=Tryz.pinned.checked.prog.looks []:=by kernel_rfl
end
end Go.Proofs.YtdohbogbnheakaaGreatDoor
