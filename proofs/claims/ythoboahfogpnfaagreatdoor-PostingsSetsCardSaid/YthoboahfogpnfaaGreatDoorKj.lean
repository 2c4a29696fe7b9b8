/- A closed call of this program, answered by the closed run. No conditions. -/
import Derived.Test.YthoboahfogpnfaaGreatDoorKi
import Derived.KernelRfl
set_option linter.unusedSimpArgs false
set_option linter.unusedVariables false
set_option linter.deprecated false
set_option linter.unnecessarySimpa false
namespace Go.Eng.KE
open Go Go.Eng
set_option maxRecDepth 1000000
noncomputable def args21 : List Value := [(.agg #[(.int .u8 (3)), (.string ⟨#[97]⟩), (.string ⟨#[46, 42]⟩)]), (.string ⟨#[49]⟩)]
noncomputable def res21 : Value := (.bool true)
theorem run21 : runF env (O20) 20392 114 (enterF P 114 args21.toArray .normal) [] (S0 8) (isV res21) = true := by kernel_rfl
noncomputable def O21 : Orc P := ⟨(114, args21, res21) :: (O20).tab, Orc.more_ok (O20) (by kernel_rfl) (calls_of_runZ env (O20) mixed gsize5 20392 114 args21 (by kernel_rfl) run21)⟩
end Go.Eng.KE
