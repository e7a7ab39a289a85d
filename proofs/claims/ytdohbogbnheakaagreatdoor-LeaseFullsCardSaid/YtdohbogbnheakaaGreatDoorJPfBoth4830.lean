/- Lemmas and contracts of functions. No condition. -/
import Derived.Test.YtdohbogbnheakaaGreatDoorJPfBoth4828
namespace Go.Proofs.YtdohbogbnheakaaGreatDoor
open _root_.Go.Proofs.Tryz
set_option maxRecDepth 100000
set_option maxHeartbeats 20000000
set_option linter.all false
section
open Go.ChangeShapes Go.WideShapes Go.ChangeAt Go.RowKit
theorem LeaseFulls_holds:Rows.LeaseFullsCardSaid :=
 Claim7.holds_tied_plain_at .later [] [.data] true Rows.leaseFullsCard.stood.harness true
  LeaseFulls_said (fun _ h=>by cases h) zdP (fun _ h=>by cases h) leaseFulls_row_tie rfl ⟨rfl,rfl⟩ zhS rfl
  (fun f fn hf hfn=>by
   obtain rfl:f=5:=uD (hf.symm.trans zij);obtain rfl:fn=f5:=(uD (func5.symm.trans hfn)).symm;exact⟨ziH,fun j t ht=>by
    rw[params5]at ht;have hm:t ∈ [3,3,4]:=by simpa using Array.mem_of_getElem? ht
    exact(show prog.wantsStandIn t=false by simpa using List.all_eq_true.1 zgj t hm)⟩)
  zj2
end
end Go.Proofs.YtdohbogbnheakaaGreatDoor
