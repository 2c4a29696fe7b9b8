/- Closed calls of this program, answered by the closed run: those that match patterns. No conditions. -/
import Derived.Test.YthoboahfogpnfaaGreatDoorKl
import Derived.KernelRfl
set_option linter.unusedSimpArgs false
set_option linter.unusedVariables false
set_option linter.deprecated false
set_option linter.unnecessarySimpa false
namespace Go.Eng.KE
open Go Go.Eng
set_option maxRecDepth 1000000
noncomputable def args24 : List Value := [(.agg #[(.int .u8 (3)), (.string ⟨#[97]⟩), (.string ⟨#[46, 42]⟩)]), (.string ⟨#[]⟩)]
noncomputable def res24 : Value := (.bool true)
theorem run24 : runF env (O23) 40326 81 (enterF P 81 args24.toArray .normal) [] (S0 8) (isV res24) = true := by kernel_rfl
noncomputable def O24 : Orc P := ⟨(81, args24, res24) :: (O23).tab, Orc.more_ok (O23) (by kernel_rfl) (calls_of_runZ env (O23) mixed gsize5 40326 81 args24 (by kernel_rfl) run24)⟩
end Go.Eng.KE
namespace Go.Eng.KE
open Go Go.Eng
set_option maxRecDepth 1000000
noncomputable def args25 : List Value := [(.agg #[(.int .u8 (3)), (.string ⟨#[97]⟩), (.string ⟨#[46, 42]⟩)])]
noncomputable def res25 : Value := (.bool true)
theorem run25 : runF env (O24) 40352 82 (enterF P 82 args25.toArray .normal) [] (S0 8) (isV res25) = true := by kernel_rfl
noncomputable def O25 : Orc P := ⟨(82, args25, res25) :: (O24).tab, Orc.more_ok (O24) (by kernel_rfl) (calls_of_runZ env (O24) mixed gsize5 40352 82 args25 (by kernel_rfl) run25)⟩
end Go.Eng.KE
namespace Go.Eng.KE
open Go Go.Eng
set_option maxRecDepth 1000000
noncomputable def args26 : List Value := [(.agg #[(.int .u8 (3)), (.string ⟨#[97]⟩), (.string ⟨#[46, 42]⟩)]), (.string ⟨#[49]⟩)]
noncomputable def res26 : Value := (.bool true)
theorem run26 : runF env (O25) 41674 81 (enterF P 81 args26.toArray .normal) [] (S0 8) (isV res26) = true := by kernel_rfl
noncomputable def O26 : Orc P := ⟨(81, args26, res26) :: (O25).tab, Orc.more_ok (O25) (by kernel_rfl) (calls_of_runZ env (O25) mixed gsize5 41674 81 args26 (by kernel_rfl) run26)⟩
end Go.Eng.KE
namespace Go.Eng.KE
open Go Go.Eng
set_option maxRecDepth 1000000
noncomputable def args27 : List Value := [(.agg #[(.int .u8 (3)), (.string ⟨#[97]⟩), (.string ⟨#[46, 42]⟩)]), (.string ⟨#[50]⟩)]
noncomputable def res27 : Value := (.bool true)
theorem run27 : runF env (O26) 41674 81 (enterF P 81 args27.toArray .normal) [] (S0 8) (isV res27) = true := by kernel_rfl
noncomputable def O27 : Orc P := ⟨(81, args27, res27) :: (O26).tab, Orc.more_ok (O26) (by kernel_rfl) (calls_of_runZ env (O26) mixed gsize5 41674 81 args27 (by kernel_rfl) run27)⟩
end Go.Eng.KE
