/- A closed call of this program, answered by the closed run. No conditions. -/
import Derived.Test.YthoboahfogpnfaaGreatDoorKj
import Derived.KernelRfl
set_option linter.unusedSimpArgs false
set_option linter.unusedVariables false
set_option linter.deprecated false
set_option linter.unnecessarySimpa false
namespace Go.Eng.KE
open Go Go.Eng
set_option maxRecDepth 1000000
noncomputable def args22 : List Value := [(.agg #[(.int .u8 (3)), (.string ⟨#[97]⟩), (.string ⟨#[46, 42]⟩)]), (.string ⟨#[50]⟩)]
noncomputable def res22 : Value := (.bool true)
theorem run22 : runF env (O21) 20392 114 (enterF P 114 args22.toArray .normal) [] (S0 8) (isV res22) = true := by kernel_rfl
noncomputable def O22 : Orc P := ⟨(114, args22, res22) :: (O21).tab, Orc.more_ok (O21) (by kernel_rfl) (calls_of_runZ env (O21) mixed gsize5 20392 114 args22 (by kernel_rfl) run22)⟩
end Go.Eng.KE
