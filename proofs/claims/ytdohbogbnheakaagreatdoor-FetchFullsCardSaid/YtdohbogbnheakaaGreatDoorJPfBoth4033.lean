/- Lemmas and contracts of functions. No condition. -/
import Derived.Test.YtdohbogbnheakaaGreatDoorRows
import Derived.JoinedOf
import Derived.KernelRfl
import Derived.Test.YtdohbogbnheakaaGreatDoorJPfBoth401
namespace Go.Proofs.YtdohbogbnheakaaGreatDoor
open _root_.Go.Proofs.Tryz
set_option maxRecDepth 100000
set_option maxHeartbeats 20000000
set_option linter.all false
section
open Go
theorem zl9{a b:Bool}(ha:a=true)(hb:b=true):(a&&b)=true:=by rw[ha,hb];rfl
set_option maxRecDepth 100000 in
theorem zl3:joinedFacts Tryz.pinned.checked.prog 3 f3 Rows.fetchFullsSpec Rows.fetchFullsRow=true:=by
 unfold joinedFacts
 repeat'(with_reducible refine zl9 ?_ ?_)
 all_goals as_aux_lemma=>kernel_rfl
end
end Go.Proofs.YtdohbogbnheakaaGreatDoor
