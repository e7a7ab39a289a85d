/- Lemmas and contracts of functions. No condition. -/
import Derived.Test.YtpplkcnknabofaaGreatDoorRows
import Derived.JoinedOf
import Derived.KernelRfl
import Derived.Test.YtpplkcnknabofaaGreatDoorJPfCacheNone1
namespace Go.Proofs.YtpplkcnknabofaaGreatDoor
open _root_.Go.Proofs.Tryz
set_option maxRecDepth 100000
set_option maxHeartbeats 20000000
set_option linter.all false
section
open Go
theorem zhb{a b:Bool}(ha:a=true)(hb:b=true):(a&&b)=true:=by rw[ha,hb];rfl
set_option maxRecDepth 100000 in
theorem zkx:joinedFacts Tryz.pinned.checked.prog 6 f6 Rows.cacheNoneSpec Rows.cacheNoneRow=true:=by
 unfold joinedFacts
 repeat'(with_reducible refine zhb ?_ ?_)
 all_goals as_aux_lemma=>kernel_rfl
end
end Go.Proofs.YtpplkcnknabofaaGreatDoor
