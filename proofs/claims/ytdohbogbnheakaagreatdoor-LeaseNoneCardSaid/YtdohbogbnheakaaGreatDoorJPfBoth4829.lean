/- Lemmas and contracts of functions. No condition. -/
import Derived.Test.YtdohbogbnheakaaGreatDoorJPfBoth4827
namespace Go.Proofs.YtdohbogbnheakaaGreatDoor
open _root_.Go.Proofs.Tryz
set_option maxRecDepth 100000
set_option maxHeartbeats 20000000
set_option linter.all false
section
open Go.ChangeShapes Go.WideShapes Go.ChangeAt Go.RowKit
theorem LeaseNone_holds:Rows.LeaseNoneCardSaid :=
 Claim7.holds_tied_plain_at .later [] [.data] true Rows.leaseNoneCard.stood.harness true
  LeaseNone_said (fun _ h=>by cases h) zdy (fun _ h=>by cases h) leaseNone_row_tie rfl ⟨rfl,rfl⟩ zgt rfl
  (fun f fn hf hfn=>by
   obtain rfl:f=6:=uD (hf.symm.trans zjY);obtain rfl:fn=f6:=(uD (func6.symm.trans hfn)).symm;exact⟨zfT,fun j t ht=>by
    rw[params6]at ht;have hm:t ∈ [70]:=by simpa using Array.mem_of_getElem? ht
    exact(show prog.wantsStandIn t=false by simpa using List.all_eq_true.1 zdx t hm)⟩)
  ziG
end
end Go.Proofs.YtdohbogbnheakaaGreatDoor
