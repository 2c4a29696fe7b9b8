/- A closed call of this program, answered by the closed run. No conditions. -/
import Derived.Test.YthoboahfogpnfaaGreatDoorKk
import Derived.KernelRfl
set_option linter.unusedSimpArgs false
set_option linter.unusedVariables false
set_option linter.deprecated false
set_option linter.unnecessarySimpa false
namespace Go.Eng.KE
open Go Go.Eng
set_option maxRecDepth 1000000
noncomputable def args23 : List Value := [(.agg #[(.int .u8 (3)), (.string ⟨#[97]⟩), (.string ⟨#[46, 42]⟩)])]
noncomputable def res23 : Value := (.int .u16 (0))
theorem run23 : runF env (O22) 23172 78 (enterF P 78 args23.toArray .normal) [] (S0 8) (isV res23) = true := by kernel_rfl
noncomputable def O23 : Orc P := ⟨(78, args23, res23) :: (O22).tab, Orc.more_ok (O22) (by kernel_rfl) (calls_of_runZ env (O22) mixed gsize5 23172 78 args23 (by kernel_rfl) run23)⟩
end Go.Eng.KE
