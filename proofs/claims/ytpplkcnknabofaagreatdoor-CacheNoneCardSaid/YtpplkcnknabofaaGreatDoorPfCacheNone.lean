/- law24.CacheNone for every call. -/
import Derived.Test.YtpplkcnknabofaaGreatDoorCards
import Derived.Test.YtpplkcnknabofaaGreatDoorTie
import Derived.Test.YtpplkcnknabofaaGreatDoorJPfCacheNone34
import Derived.Test.YtpplkcnknabofaaGreatDoorJPfCacheNone3
import Derived.Test.YtpplkcnknabofaaGreatDoorJPfCacheNone50
import Derived.Test.YtpplkcnknabofaaGreatDoorJPfCacheNone2
import Derived.SevenTiedAt
namespace Go.Proofs.YtpplkcnknabofaaGreatDoor
set_option linter.all false
open Go.ChangeShapes Go.WideShapes Go.ChangeAt Go.RowKit

set_option maxHeartbeats 0

theorem CacheNone_holds:Rows.CacheNoneCardSaid :=
 Claim7.holds_tied_plain_at .later [] [.data] true Rows.cacheNoneCard.stood.harness false
  CacheNone_said (fun _ h=>by cases h) zfb (fun _ h=>by cases h) cacheNone_row_tie rfl ⟨rfl,rfl⟩ zfy rfl
  (fun f fn hf hfn=>by
   obtain rfl:f=6:=Option.some.inj (hf.symm.trans zlP)
   obtain rfl:fn=Tryz.f6:=(Option.some.inj (Tryz.func6.symm.trans hfn)).symm
   exact⟨zfq,fun j t ht=>by
    rw[Tryz.params6]at ht
    have hm:t ∈ [36]:=by simpa using Array.mem_of_getElem? ht
    exact(show Tryz.prog.wantsStandIn t=false by simpa using List.all_eq_true.1 zkL t hm)⟩)
  zgP
end Go.Proofs.YtpplkcnknabofaaGreatDoor
