/- Closed calls of this program, answered by the closed run. No conditions. -/
import Derived.Test.YtaoggppfimfhbaaGreatDoorEng3
import Derived.Test.YtaoggppfimfhbaaGreatDoorProg
import Derived.KernelRfl
set_option linter.unusedSimpArgs false
set_option linter.unusedVariables false
set_option linter.deprecated false
set_option linter.unnecessarySimpa false
namespace Go.Eng.KE
open Go Go.Eng
noncomputable abbrev P := Go.Proofs.Tryz.prog
set_option maxRecDepth 100000
theorem zT : zeroT P.types.toList = true := by kernel_rfl
def nameT (l : List Func) : Bool := l.all fun f => !(f.name == "runtime.NumGoroutine")
theorem nT : nameT P.funcs.toList = true := by kernel_rfl
theorem gsize5 : P.globals.size + 5 = 8 := by kernel_rfl
theorem mixed : P.follows .mixedOrders = true := by kernel_rfl
theorem zeroOk : ZeroOk P := zeroOk_of zT
theorem notNG : ∀ (f : Nat) (fn : Func), P.funcs[f]? = some fn → (fn.name == "runtime.NumGoroutine") = false := by
  intro f fn hf
  have h := nT
  unfold nameT at h
  rw [List.all_eq_true] at h
  have := h fn (List.mem_of_getElem? (i := f) (by simpa using hf))
  simpa using this
def extB (o : Option Func) : Bool := match o with
  | some fn => fn.body.isNone && (Extern.findNext fn).isNone
  | none => false
noncomputable def fn216 : Func := (P.funcs[216]?).getD default
theorem f216 : P.funcs[216]? = some fn216 := by kernel_rfl
theorem f216n : fn216.body = none := by kernel_rfl
theorem f216x : Extern.findNext fn216 = none := by kernel_rfl
theorem f216e : Extern.find fn216 = some Extern.BytealgIndexByte.indexByte := by kernel_rfl
noncomputable def env : Env P where
  zero := zeroOk
  notNG := notNG
  ext := fun f => match Nat.beq f 216 with
    | true => some indexByteA
    | false => none
  extOk := by
    intro f e h
    split at h
    · rename_i hf
      have hf := Nat.eq_of_beq_eq_true hf
      subst hf
      cases h
      exact ⟨fn216, _, f216, f216n, f216x, f216e, fun B w0 q ρ n x x' _ hx => sim_indexByte hx⟩
    · cases h
end Go.Eng.KE
namespace Go.Eng.KE
open Go Go.Eng Go.RowKit
set_option maxRecDepth 1000000
noncomputable def halfV : Value := .agg #[.int .u32 0, .int .u32 274646895, .int .u32 549293790, .int .u32 820201905, .int .u32 1098587580, .int .u32 1361435347, .int .u32 1640403810, .int .u32 1905808397, .int .u32 2197175160, .int .u32 2460548119, .int .u32 2722870694, .int .u32 2987750089, .int .u32 3280807620, .int .u32 3553878443, .int .u32 3811616794, .int .u32 4084100981]
theorem half_run : runF env (noOrc P) 8000 120 (enterF P 120 ([] : List Value).toArray .normal) [] (S0 8) (isV halfV) = true := by kernel_rfl
theorem half_calls (w : World) (hw : 8 ≤ w.heap.size) : Calls P 120 #[] w fun e w' => e = .returned halfV ∧ Below w.heap.size w w' := calls_of_runZ env (noOrc P) mixed gsize5 8000 120 [] rfl half_run w (by rw [gsize5]; exact hw)
end Go.Eng.KE
