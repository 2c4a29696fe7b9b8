/- Contracts over this program. Their conditions: the slices read as the lists that are named, and lie within the sizes that are named. -/
import Derived.Test.YtbecggfbblnglaaGreatDoorRows
import Derived.JoinedOf
set_option linter.unusedSimpArgs false
set_option linter.unusedVariables false
set_option linter.deprecated false
set_option linter.unnecessarySimpa false
namespace Go.Proofs.YtbecggfbblnglaaGreatDoor
open Go
theorem band {a b:Bool}(h1:a=true) (h2:b=true):(a && b)=true:=by rw [h1,h2];rfl
set_option maxHeartbeats 4000000 in
theorem row_facts:joinedFacts Tryz.prog 3 Tryz.f3 Rows.blockWritesSpec Rows.blockWritesRow=true:=by
 unfold joinedFacts
 repeat' with_reducible apply band
 all_goals (as_aux_lemma=>kernel_rfl)
end Go.Proofs.YtbecggfbblnglaaGreatDoor
