/- The closed call known of this law, on one of the four ways that two maps of two entries may be walked. No conditions. -/
import Derived.Test.YthoboahfogpnfaaGreatDoorKm
import Derived.KernelRfl
set_option linter.unusedSimpArgs false
set_option linter.unusedVariables false
set_option linter.deprecated false
set_option linter.unnecessarySimpa false
namespace Go.Eng.KE
open Go Go.Eng
set_option maxRecDepth 1000000
theorem known11 : runP env O27 40000 10 (enterF P 10 ([] : List Value).toArray .normal) [] (S0 8) [(1, 2), (1, 2)] (isVP (.bool true)) = true := by kernel_rfl
end Go.Eng.KE
