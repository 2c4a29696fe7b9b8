/- A closed call of this program, answered by the closed run. No conditions. -/
import Derived.Test.YthoboahfogpnfaaGreatDoorKa
import Derived.KernelRfl
set_option linter.unusedSimpArgs false
set_option linter.unusedVariables false
set_option linter.deprecated false
set_option linter.unnecessarySimpa false
namespace Go.Eng.KE
open Go Go.Eng
set_option maxRecDepth 1000000
noncomputable def args20 : List Value := [(.agg #[(.int .u8 (3)), (.string ⟨#[97]⟩), (.string ⟨#[46, 42]⟩)]), (.string ⟨#[]⟩)]
noncomputable def res20 : Value := (.bool true)
theorem run20 : runF env (O19) 19044 114 (enterF P 114 args20.toArray .normal) [] (S0 8) (isV res20) = true := by kernel_rfl
noncomputable def O20 : Orc P := ⟨(114, args20, res20) :: (O19).tab, Orc.more_ok (O19) (by kernel_rfl) (calls_of_runZ env (O19) mixed gsize5 19044 114 args20 (by kernel_rfl) run20)⟩
end Go.Eng.KE
