/- Closed calls of this program, answered by the closed run: small ones. No conditions. -/
import Derived.Test.YthoboahfogpnfaaGreatDoorEng3
import Derived.Test.YthoboahfogpnfaaGreatDoorProg
import Derived.KernelRfl
set_option linter.unusedSimpArgs false
set_option linter.unusedVariables false
set_option linter.deprecated false
set_option linter.unnecessarySimpa false
namespace Go.Eng.KE
open Go Go.Eng
noncomputable abbrev P := Go.Proofs.Tryz.prog
set_option maxRecDepth 100000
theorem zT : zeroT P.types.toList = true := by kernel_rfl
def nameT (l : List Func) : Bool := l.all fun f => !(f.name == "runtime.NumGoroutine")
theorem nT : nameT P.funcs.toList = true := by kernel_rfl
theorem gsize5 : P.globals.size + 5 = 8 := by kernel_rfl
theorem mixed : P.follows .mixedOrders = true := by kernel_rfl
theorem zeroOk : ZeroOk P := zeroOk_of zT
theorem notNG : ∀ (f : Nat) (fn : Func), P.funcs[f]? = some fn → (fn.name == "runtime.NumGoroutine") = false := by
  intro f fn hf
  have h := nT
  unfold nameT at h
  rw [List.all_eq_true] at h
  have := h fn (List.mem_of_getElem? (i := f) (by simpa using hf))
  simpa using this
def extB (o : Option Func) : Bool := match o with
  | some fn => fn.body.isNone && (Extern.findNext fn).isNone
  | none => false
noncomputable def fn183 : Func := (P.funcs[183]?).getD default
theorem f183 : P.funcs[183]? = some fn183 := by kernel_rfl
theorem f183n : fn183.body = none := by kernel_rfl
theorem f183x : Extern.findNext fn183 = none := by kernel_rfl
theorem f183e : Extern.find fn183 = some Extern.BytealgIndexByte.indexByte := by kernel_rfl
noncomputable def env : Env P where
  zero := zeroOk
  notNG := notNG
  ext := fun f => match Nat.beq f 183 with
    | true => some indexByteA
    | false => none
  extOk := by
    intro f e h
    split at h
    · rename_i hf
      have hf := Nat.eq_of_beq_eq_true hf
      subst hf
      cases h
      exact ⟨fn183, _, f183, f183n, f183x, f183e, fun B w0 q ρ n x x' _ hx => sim_indexByte hx⟩
    · cases h
end Go.Eng.KE
namespace Go.Eng.KE
open Go Go.Eng
set_option maxRecDepth 1000000
noncomputable def args0 : List Value := [(.int .i64 (0))]
noncomputable def res0 : Value := (.bool false)
theorem run0 : runF env (noOrc P) 2026 87 (enterF P 87 args0.toArray .normal) [] (S0 8) (isV res0) = true := by kernel_rfl
noncomputable def O0 : Orc P := ⟨(87, args0, res0) :: (noOrc P).tab, Orc.more_ok (noOrc P) (by kernel_rfl) (calls_of_runZ env (noOrc P) mixed gsize5 2026 87 args0 (by kernel_rfl) run0)⟩
noncomputable def args1 : List Value := [(.int .i64 (1))]
noncomputable def res1 : Value := (.bool false)
theorem run1 : runF env (O0) 2026 87 (enterF P 87 args1.toArray .normal) [] (S0 8) (isV res1) = true := by kernel_rfl
noncomputable def O1 : Orc P := ⟨(87, args1, res1) :: (O0).tab, Orc.more_ok (O0) (by kernel_rfl) (calls_of_runZ env (O0) mixed gsize5 2026 87 args1 (by kernel_rfl) run1)⟩
noncomputable def args2 : List Value := [(.int .i64 (3))]
noncomputable def res2 : Value := (.bool false)
theorem run2 : runF env (O1) 2026 87 (enterF P 87 args2.toArray .normal) [] (S0 8) (isV res2) = true := by kernel_rfl
noncomputable def O2 : Orc P := ⟨(87, args2, res2) :: (O1).tab, Orc.more_ok (O1) (by kernel_rfl) (calls_of_runZ env (O1) mixed gsize5 2026 87 args2 (by kernel_rfl) run2)⟩
noncomputable def args3 : List Value := [(.int .i64 (0)), (.int .i64 (0))]
noncomputable def res3 : Value := (.bool false)
theorem run3 : runF env (O2) 2070 72 (enterF P 72 args3.toArray .normal) [] (S0 8) (isV res3) = true := by kernel_rfl
noncomputable def O3 : Orc P := ⟨(72, args3, res3) :: (O2).tab, Orc.more_ok (O2) (by kernel_rfl) (calls_of_runZ env (O2) mixed gsize5 2070 72 args3 (by kernel_rfl) run3)⟩
noncomputable def args4 : List Value := [(.int .i64 (0)), (.int .i64 (1))]
noncomputable def res4 : Value := (.bool true)
theorem run4 : runF env (O3) 2070 72 (enterF P 72 args4.toArray .normal) [] (S0 8) (isV res4) = true := by kernel_rfl
noncomputable def O4 : Orc P := ⟨(72, args4, res4) :: (O3).tab, Orc.more_ok (O3) (by kernel_rfl) (calls_of_runZ env (O3) mixed gsize5 2070 72 args4 (by kernel_rfl) run4)⟩
noncomputable def args5 : List Value := [(.int .i64 (1)), (.int .i64 (0))]
noncomputable def res5 : Value := (.bool false)
theorem run5 : runF env (O4) 2070 72 (enterF P 72 args5.toArray .normal) [] (S0 8) (isV res5) = true := by kernel_rfl
noncomputable def O5 : Orc P := ⟨(72, args5, res5) :: (O4).tab, Orc.more_ok (O4) (by kernel_rfl) (calls_of_runZ env (O4) mixed gsize5 2070 72 args5 (by kernel_rfl) run5)⟩
noncomputable def args6 : List Value := [(.int .i64 (1)), (.int .i64 (1))]
noncomputable def res6 : Value := (.bool false)
theorem run6 : runF env (O5) 2070 72 (enterF P 72 args6.toArray .normal) [] (S0 8) (isV res6) = true := by kernel_rfl
noncomputable def O6 : Orc P := ⟨(72, args6, res6) :: (O5).tab, Orc.more_ok (O5) (by kernel_rfl) (calls_of_runZ env (O5) mixed gsize5 2070 72 args6 (by kernel_rfl) run6)⟩
noncomputable def args7 : List Value := [(.int .i64 (3)), (.int .i64 (1))]
noncomputable def res7 : Value := (.bool false)
theorem run7 : runF env (O6) 2070 72 (enterF P 72 args7.toArray .normal) [] (S0 8) (isV res7) = true := by kernel_rfl
noncomputable def O7 : Orc P := ⟨(72, args7, res7) :: (O6).tab, Orc.more_ok (O6) (by kernel_rfl) (calls_of_runZ env (O6) mixed gsize5 2070 72 args7 (by kernel_rfl) run7)⟩
noncomputable def args8 : List Value := [(.int .i64 (3)), (.int .i64 (2))]
noncomputable def res8 : Value := (.bool false)
theorem run8 : runF env (O7) 2070 72 (enterF P 72 args8.toArray .normal) [] (S0 8) (isV res8) = true := by kernel_rfl
noncomputable def O8 : Orc P := ⟨(72, args8, res8) :: (O7).tab, Orc.more_ok (O7) (by kernel_rfl) (calls_of_runZ env (O7) mixed gsize5 2070 72 args8 (by kernel_rfl) run8)⟩
noncomputable def args9 : List Value := [(.string ⟨#[50]⟩), (.string ⟨#[49]⟩)]
noncomputable def res9 : Value := (.bool false)
theorem run9 : runF env (O8) 2070 165 (enterF P 165 args9.toArray .normal) [] (S0 8) (isV res9) = true := by kernel_rfl
noncomputable def O9 : Orc P := ⟨(165, args9, res9) :: (O8).tab, Orc.more_ok (O8) (by kernel_rfl) (calls_of_runZ env (O8) mixed gsize5 2070 165 args9 (by kernel_rfl) run9)⟩
noncomputable def args10 : List Value := [(.int .u64 (1))]
noncomputable def res10 : Value := (.int .i64 (1))
theorem run10 : runF env (O9) 2110 86 (enterF P 86 args10.toArray .normal) [] (S0 8) (isV res10) = true := by kernel_rfl
noncomputable def O10 : Orc P := ⟨(86, args10, res10) :: (O9).tab, Orc.more_ok (O9) (by kernel_rfl) (calls_of_runZ env (O9) mixed gsize5 2110 86 args10 (by kernel_rfl) run10)⟩
noncomputable def args11 : List Value := [(.int .u64 (2))]
noncomputable def res11 : Value := (.int .i64 (2))
theorem run11 : runF env (O10) 2110 86 (enterF P 86 args11.toArray .normal) [] (S0 8) (isV res11) = true := by kernel_rfl
noncomputable def O11 : Orc P := ⟨(86, args11, res11) :: (O10).tab, Orc.more_ok (O10) (by kernel_rfl) (calls_of_runZ env (O10) mixed gsize5 2110 86 args11 (by kernel_rfl) run11)⟩
noncomputable def args12 : List Value := [(.string ⟨#[98]⟩), (.string ⟨#[97]⟩)]
noncomputable def res12 : Value := (.int .i64 (1))
theorem run12 : runF env (O11) 2158 131 (enterF P 131 args12.toArray .normal) [] (S0 8) (isV res12) = true := by kernel_rfl
noncomputable def O12 : Orc P := ⟨(131, args12, res12) :: (O11).tab, Orc.more_ok (O11) (by kernel_rfl) (calls_of_runZ env (O11) mixed gsize5 2158 131 args12 (by kernel_rfl) run12)⟩
end Go.Eng.KE
namespace Go.Eng.KE
open Go Go.Eng
set_option maxRecDepth 1000000
noncomputable def args13 : List Value := [(.string ⟨#[97, 98, 99, 100, 101, 102, 103, 104, 105, 106, 107, 108, 109, 110, 111, 112, 113, 114, 115, 116, 117, 118, 119, 120, 121, 122, 65, 66, 67, 68, 69, 70, 71, 72, 73, 74, 75, 76, 77, 78, 79, 80, 81, 82, 83, 84, 85, 86, 87, 88, 89, 90, 95, 48, 49, 50, 51, 52, 53, 54, 55, 56, 57]⟩)]
noncomputable def res13 : Value := (.tuple #[(.agg #[(.bool false), (.bool false), (.bool false), (.bool false), (.bool false), (.bool false), (.bool false), (.bool false), (.bool false), (.bool false), (.bool false), (.bool false), (.bool false), (.bool false), (.bool false), (.bool false), (.bool false), (.bool false), (.bool false), (.bool false), (.bool false), (.bool false), (.bool false), (.bool false), (.bool false), (.bool false), (.bool false), (.bool false), (.bool false), (.bool false), (.bool false), (.bool false), (.bool false), (.bool false), (.bool false), (.bool false), (.bool false), (.bool false), (.bool false), (.bool false), (.bool false), (.bool false), (.bool false), (.bool false), (.bool false), (.bool false), (.bool false), (.bool false), (.bool true), (.bool true), (.bool true), (.bool true), (.bool true), (.bool true), (.bool true), (.bool true), (.bool true), (.bool true), (.bool false), (.bool false), (.bool false), (.bool false), (.bool false), (.bool false), (.bool false), (.bool true), (.bool true), (.bool true), (.bool true), (.bool true), (.bool true), (.bool true), (.bool true), (.bool true), (.bool true), (.bool true), (.bool true), (.bool true), (.bool true), (.bool true), (.bool true), (.bool true), (.bool true), (.bool true), (.bool true), (.bool true), (.bool true), (.bool true), (.bool true), (.bool true), (.bool true), (.bool false), (.bool false), (.bool false), (.bool false), (.bool true), (.bool false), (.bool true), (.bool true), (.bool true), (.bool true), (.bool true), (.bool true), (.bool true), (.bool true), (.bool true), (.bool true), (.bool true), (.bool true), (.bool true), (.bool true), (.bool true), (.bool true), (.bool true), (.bool true), (.bool true), (.bool true), (.bool true), (.bool true), (.bool true), (.bool true), (.bool true), (.bool true), (.bool false), (.bool false), (.bool false), (.bool false), (.bool false), (.bool false), (.bool false), (.bool false), (.bool false), (.bool false), (.bool false), (.bool false), (.bool false), (.bool false), (.bool false), (.bool false), (.bool false), (.bool false), (.bool false), (.bool false), (.bool false), (.bool false), (.bool false), (.bool false), (.bool false), (.bool false), (.bool false), (.bool false), (.bool false), (.bool false), (.bool false), (.bool false), (.bool false), (.bool false), (.bool false), (.bool false), (.bool false), (.bool false), (.bool false), (.bool false), (.bool false), (.bool false), (.bool false), (.bool false), (.bool false), (.bool false), (.bool false), (.bool false), (.bool false), (.bool false), (.bool false), (.bool false), (.bool false), (.bool false), (.bool false), (.bool false), (.bool false), (.bool false), (.bool false), (.bool false), (.bool false), (.bool false), (.bool false), (.bool false), (.bool false), (.bool false), (.bool false), (.bool false), (.bool false), (.bool false), (.bool false), (.bool false), (.bool false), (.bool false), (.bool false), (.bool false), (.bool false), (.bool false), (.bool false), (.bool false), (.bool false), (.bool false), (.bool false), (.bool false), (.bool false), (.bool false), (.bool false), (.bool false), (.bool false), (.bool false), (.bool false), (.bool false), (.bool false), (.bool false), (.bool false), (.bool false), (.bool false), (.bool false), (.bool false), (.bool false), (.bool false), (.bool false), (.bool false), (.bool false), (.bool false), (.bool false), (.bool false), (.bool false), (.bool false), (.bool false), (.bool false), (.bool false), (.bool false), (.bool false), (.bool false), (.bool false), (.bool false), (.bool false), (.bool false), (.bool false), (.bool false), (.bool false), (.bool false), (.bool false), (.bool false), (.bool false), (.bool false), (.bool false), (.bool false), (.bool false), (.bool false), (.bool false), (.bool false)]), (.bool true)])
theorem run13 : runF env (O12) 6974 137 (enterF P 137 args13.toArray .normal) [] (S0 8) (isV res13) = true := by kernel_rfl
noncomputable def O13 : Orc P := ⟨(137, args13, res13) :: (O12).tab, Orc.more_ok (O12) (by kernel_rfl) (calls_of_runZ env (O12) mixed gsize5 6974 137 args13 (by kernel_rfl) run13)⟩
end Go.Eng.KE
namespace Go.Eng.KE
open Go Go.Eng
set_option maxRecDepth 1000000
noncomputable def args14 : List Value := [(.string ⟨#[97]⟩)]
noncomputable def res14 : Value := (.bool true)
theorem run14 : runF env (O13) 7502 91 (enterF P 91 args14.toArray .normal) [] (S0 8) (isV res14) = true := by kernel_rfl
noncomputable def O14 : Orc P := ⟨(91, args14, res14) :: (O13).tab, Orc.more_ok (O13) (by kernel_rfl) (calls_of_runZ env (O13) mixed gsize5 7502 91 args14 (by kernel_rfl) run14)⟩
end Go.Eng.KE
namespace Go.Eng.KE
open Go Go.Eng
set_option maxRecDepth 1000000
noncomputable def args15 : List Value := [(.string ⟨#[98]⟩)]
noncomputable def res15 : Value := (.bool true)
theorem run15 : runF env (O14) 7502 91 (enterF P 91 args15.toArray .normal) [] (S0 8) (isV res15) = true := by kernel_rfl
noncomputable def O15 : Orc P := ⟨(91, args15, res15) :: (O14).tab, Orc.more_ok (O14) (by kernel_rfl) (calls_of_runZ env (O14) mixed gsize5 7502 91 args15 (by kernel_rfl) run15)⟩
end Go.Eng.KE
namespace Go.Eng.KE
open Go Go.Eng
set_option maxRecDepth 1000000
noncomputable def args16 : List Value := [(.agg #[(.int .u8 (2)), (.string ⟨#[98]⟩), (.string ⟨#[120]⟩)])]
noncomputable def res16 : Value := (.int .u16 (0))
theorem run16 : runF env (O15) 7688 78 (enterF P 78 args16.toArray .normal) [] (S0 8) (isV res16) = true := by kernel_rfl
noncomputable def O16 : Orc P := ⟨(78, args16, res16) :: (O15).tab, Orc.more_ok (O15) (by kernel_rfl) (calls_of_runZ env (O15) mixed gsize5 7688 78 args16 (by kernel_rfl) run16)⟩
end Go.Eng.KE
namespace Go.Eng.KE
open Go Go.Eng
set_option maxRecDepth 1000000
noncomputable def args17 : List Value := [(.agg #[(.int .u8 (2)), (.string ⟨#[98]⟩), (.string ⟨#[120]⟩)]), (.string ⟨#[120]⟩)]
noncomputable def res17 : Value := (.bool false)
theorem run17 : runF env (O16) 7860 81 (enterF P 81 args17.toArray .normal) [] (S0 8) (isV res17) = true := by kernel_rfl
noncomputable def O17 : Orc P := ⟨(81, args17, res17) :: (O16).tab, Orc.more_ok (O16) (by kernel_rfl) (calls_of_runZ env (O16) mixed gsize5 7860 81 args17 (by kernel_rfl) run17)⟩
end Go.Eng.KE
namespace Go.Eng.KE
open Go Go.Eng
set_option maxRecDepth 1000000
noncomputable def args18 : List Value := [(.agg #[(.int .u8 (2)), (.string ⟨#[98]⟩), (.string ⟨#[120]⟩)]), (.string ⟨#[]⟩)]
noncomputable def res18 : Value := (.bool true)
theorem run18 : runF env (O17) 7860 81 (enterF P 81 args18.toArray .normal) [] (S0 8) (isV res18) = true := by kernel_rfl
noncomputable def O18 : Orc P := ⟨(81, args18, res18) :: (O17).tab, Orc.more_ok (O17) (by kernel_rfl) (calls_of_runZ env (O17) mixed gsize5 7860 81 args18 (by kernel_rfl) run18)⟩
end Go.Eng.KE
namespace Go.Eng.KE
open Go Go.Eng
set_option maxRecDepth 1000000
noncomputable def args19 : List Value := [(.agg #[(.int .u8 (2)), (.string ⟨#[98]⟩), (.string ⟨#[120]⟩)])]
noncomputable def res19 : Value := (.bool true)
theorem run19 : runF env (O18) 7886 82 (enterF P 82 args19.toArray .normal) [] (S0 8) (isV res19) = true := by kernel_rfl
noncomputable def O19 : Orc P := ⟨(82, args19, res19) :: (O18).tab, Orc.more_ok (O18) (by kernel_rfl) (calls_of_runZ env (O18) mixed gsize5 7886 82 args19 (by kernel_rfl) run19)⟩
end Go.Eng.KE
