/- Closed calls of this program, answered by the closed run. Conditions: what the listed variables hold. -/
import Derived.Test.YtbecggfbblnglaaGreatDoorK38
set_option linter.unusedSimpArgs false
set_option linter.unusedVariables false
set_option linter.deprecated false
set_option linter.unnecessarySimpa false
namespace Go.Eng.KX
open Go Go.Eng Go.RowKit Go.Ix
set_option maxRecDepth 1000000
noncomputable def resL:Value:=(.bool true)
theorem runL:runP env (O48) 4442 11 (enterF P 11 ([]:List Value).toArray .normal) [] (S0 11) [] (isVP resL)=true:=by kernel_rfl
theorem known_calls (w:World) (hw:P.globals.size+5≤w.heap.size) (hgd:goodK w.heap.size w):Calls P 11 #[] w fun e w'=>e=.returned resL∧Below w.heap.size w w':=calls_of_runP env (O48) mixed gsize5 4442 11 [] (by kernel_rfl) runL w hw hgd
end Go.Eng.KX
