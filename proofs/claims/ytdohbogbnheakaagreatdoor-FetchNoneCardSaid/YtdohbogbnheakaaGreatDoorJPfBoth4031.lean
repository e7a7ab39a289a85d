/- Lemmas and contracts of functions. No condition. -/
import Derived.Test.YtdohbogbnheakaaGreatDoorJPfBoth4030
namespace Go.Proofs.YtdohbogbnheakaaGreatDoor
open _root_.Go.Proofs.Tryz
set_option maxRecDepth 100000
set_option maxHeartbeats 20000000
set_option linter.all false
section
open Go.ChangeShapes Go.WideShapes Go.ChangeAt Go.RowKit
theorem FetchNone_holds:Rows.FetchNoneCardSaid :=
 Claim7.holds_tied_plain_at .later [] [.data] true Rows.fetchNoneCard.stood.harness true
  FetchNone_said (fun _ h=>by cases h) zeI (fun _ h=>by cases h) fetchNone_row_tie rfl ⟨rfl,rfl⟩ zfa rfl
  (fun f fn hf hfn=>by
   obtain rfl:f=4:=kL (hf.symm.trans zk0);obtain rfl:fn=f4:=(kL (func4.symm.trans hfn)).symm;exact⟨ziP,fun j t ht=>by
    rw[params4]at ht;have hm:t ∈ [45]:=by simpa using Array.mem_of_getElem? ht
    exact(show prog.wantsStandIn t=false by simpa using List.all_eq_true.1 zfH t hm)⟩)
  zhz
end
end Go.Proofs.YtdohbogbnheakaaGreatDoor
