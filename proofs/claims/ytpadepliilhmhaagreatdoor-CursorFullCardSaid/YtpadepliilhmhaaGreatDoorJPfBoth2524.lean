/- Lemmas and contracts of functions. No condition. -/
import Derived.Test.YtpadepliilhmhaaGreatDoorRows
import Derived.JoinedOf
import Derived.KernelRfl
import Derived.Test.YtpadepliilhmhaaGreatDoorJPfBoth251
namespace Go.Proofs.YtpadepliilhmhaaGreatDoor
open _root_.Go.Proofs.Tryz
set_option maxRecDepth 100000
set_option maxHeartbeats 20000000
set_option linter.all false
section
open Go
theorem zik{a b:Bool}(ha:a=true)(hb:b=true):(a&&b)=true:=by rw[ha,hb];rfl
set_option maxRecDepth 100000 in
theorem zis:joinedFacts Tryz.pinned.checked.prog 4 f4 Rows.cursorNoneSpec Rows.cursorNoneRow=true:=by
 unfold joinedFacts
 repeat'(with_reducible refine zik ?_ ?_)
 all_goals as_aux_lemma=>kernel_rfl
end
end Go.Proofs.YtpadepliilhmhaaGreatDoor
