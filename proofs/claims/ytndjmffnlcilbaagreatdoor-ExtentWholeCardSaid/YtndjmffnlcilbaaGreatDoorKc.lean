/- The closed call known of this law returns true, whatever the world. No conditions of ours. -/
import Derived.Test.YtndjmffnlcilbaaGreatDoorKb
import Derived.Test.YtndjmffnlcilbaaGreatDoorEng4
set_option linter.unusedSimpArgs false
set_option linter.unusedVariables false
set_option linter.deprecated false
set_option linter.unnecessarySimpa false
namespace Go.Eng.KX
open Go Go.Eng Go.RowKit Go.Ix
set_option maxRecDepth 1000000
theorem runLa:runO env (O46) 5546 4 (enterF P 4 ([]:List Value).toArray .normal) [] (S0 9) [(0,2),(0,2)] (isVP (.bool true))=true:=by kernel_rfl
end Go.Eng.KX
namespace Go.Eng.KX
open Go Go.Eng Go.RowKit Go.Ix
set_option maxRecDepth 1000000
theorem runLb:runO env (O46) 5546 4 (enterF P 4 ([]:List Value).toArray .normal) [] (S0 9) [(0,2),(1,2)] (isVP (.bool true))=true:=by kernel_rfl
end Go.Eng.KX
namespace Go.Eng.KX
open Go Go.Eng Go.RowKit Go.Ix
set_option maxRecDepth 1000000
theorem runLc:runO env (O46) 5546 4 (enterF P 4 ([]:List Value).toArray .normal) [] (S0 9) [(1,2)] (isVP (.bool true))=true:=by kernel_rfl
end Go.Eng.KX
namespace Go.Eng.KX
open Go Go.Eng Go.RowKit Go.Ix
set_option maxRecDepth 1000000
noncomputable def resL:Value:=(.bool true)
theorem runL:runO env (O46) 5546 4 (enterF P 4 ([]:List Value).toArray .normal) [] (S0 9) [] (isVP resL)=true :=
 runO_two (p:=[]) env O46 (runO_two (p:=[(0,2)]) env O46 runLa runLb) runLc
theorem known_calls (w:World) (hw:P.globals.size+5≤w.heap.size):Calls P 4 #[] w fun e w'=>e=.returned resL∧Below w.heap.size w w':=calls_of_runO env (O46) mixed gsize5 5546 4 [] (by kernel_rfl) runL w hw
end Go.Eng.KX
