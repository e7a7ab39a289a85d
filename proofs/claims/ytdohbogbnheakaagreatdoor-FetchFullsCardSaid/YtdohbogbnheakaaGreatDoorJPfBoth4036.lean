/- Lemmas and contracts of functions. No condition. -/
import Derived.Test.YtdohbogbnheakaaGreatDoorJPfBoth4035
import Derived.Test.YtdohbogbnheakaaGreatDoorJPfBoth4034
namespace Go.Proofs.YtdohbogbnheakaaGreatDoor
open _root_.Go.Proofs.Tryz
set_option maxRecDepth 100000
set_option maxHeartbeats 20000000
set_option linter.all false
section
open Go.ChangeShapes Go.WideShapes Go.ChangeAt Go.RowKit
theorem FetchFulls_holds:Rows.FetchFullsCardSaid :=
 Claim7.holds_tied_plain_at .later [] [.data] true Rows.fetchFullsCard.stood.harness true
  FetchFulls_said (fun _ h=>by cases h) zmp (fun _ h=>by cases h) fetchFulls_row_tie rfl ⟨rfl,rfl⟩ zmk rfl
  (fun f fn hf hfn=>by
   obtain rfl:f=3:=kL (hf.symm.trans zmb);obtain rfl:fn=f3:=(kL (func3.symm.trans hfn)).symm;exact⟨zmd,fun j t ht=>by
    rw[params3]at ht;have hm:t ∈ [3,3]:=by simpa using Array.mem_of_getElem? ht
    exact(show prog.wantsStandIn t=false by simpa using List.all_eq_true.1 zmn t hm)⟩)
  zl4
end
end Go.Proofs.YtdohbogbnheakaaGreatDoor
