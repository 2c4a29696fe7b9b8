/- Contracts over this program. Their conditions: the slices read as the lists that are named, and lie within the sizes that are named. -/
import Derived.Test.YtbecggfbblnglaaGreatDoorRows
import Derived.SevenTiedAt
set_option linter.unusedSimpArgs false
set_option linter.unusedVariables false
set_option linter.deprecated false
set_option linter.unnecessarySimpa false
namespace Go.Proofs.YtbecggfbblnglaaGreatDoor
open Go
theorem row_goes:false=Rows.blockWritesRow.goesBy Tryz.pinned.checked.prog:=by kernel_rfl
end Go.Proofs.YtbecggfbblnglaaGreatDoor
