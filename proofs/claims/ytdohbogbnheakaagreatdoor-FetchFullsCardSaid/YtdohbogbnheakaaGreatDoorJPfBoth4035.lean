/- Lemmas and contracts of functions. No condition. -/
import Derived.Test.YtdohbogbnheakaaGreatDoorJPfBoth4032
import Derived.Test.YtdohbogbnheakaaGreatDoorJPfBoth4033
namespace Go.Proofs.YtdohbogbnheakaaGreatDoor
open _root_.Go.Proofs.Tryz
set_option maxRecDepth 100000
set_option maxHeartbeats 20000000
set_option linter.all false
section
open Go.ChangeShapes Go.WideShapes Go.ChangeAt Go.RowKit
theorem FetchFulls_said:Rows.FetchFullsSaid :=
 OpenClaim.holds_of_wide 3 f3 rfl rfl rfl rfl rfl rfl rfl ⟨rfl,rfl,rfl,rfl,rfl⟩ rfl rfl rfl rfl rfl (by kernel_rfl) func3 zl3
  (of_decide_eq_true (by kernel_rfl)) (by unfold Func.isWrapper;first | (rw[zk (by decide +kernel)];kernel_rfl) | (rw[zh (by decide +kernel)];exact⟨rfl,rfl⟩))
  (fun os started H enc _=>zmi os started H enc)
end
end Go.Proofs.YtdohbogbnheakaaGreatDoor
