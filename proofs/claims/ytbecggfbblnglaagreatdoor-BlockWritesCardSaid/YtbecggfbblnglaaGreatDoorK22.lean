/- Closed calls of this program, answered by the closed run. Conditions: what the listed variables hold. -/
import Derived.Test.YtbecggfbblnglaaGreatDoorEng8
import Derived.Test.YtbecggfbblnglaaGreatDoorProg
import Derived.KernelRfl
set_option linter.unusedSimpArgs false
set_option linter.unusedVariables false
set_option linter.deprecated false
set_option linter.unnecessarySimpa false
namespace Go.Eng.KX
open Go Go.Eng Go.RowKit
noncomputable abbrev P:=Go.Proofs.Tryz.prog
set_option maxRecDepth 100000
theorem zT:zeroT P.types.toList=true:=by kernel_rfl
def nameT (l:List Func):Bool:=l.all fun f=>!(f.name == "runtime.NumGoroutine")
theorem nT:nameT P.funcs.toList=true:=by kernel_rfl
theorem gsize5:P.globals.size+5=11:=by kernel_rfl
theorem mixed:P.follows .mixedOrders=true:=by kernel_rfl
theorem zeroOk:ZeroOk P:=zeroOk_of zT
theorem notNG:∀(f:Nat) (fn:Func),P.funcs[f]?=some fn→(fn.name == "runtime.NumGoroutine")=false:=by
 intro f fn hf
 have h:=nT
 unfold nameT at h
 rw [List.all_eq_true] at h
 have:=h fn (List.mem_of_getElem? (i:=f) (by simpa using hf))
 simpa using this
noncomputable def env:Env P where
 zero:=zeroOk
 notNG:=notNG
 ext:=fun _=>none
 extOk:=by
  intro f e h
  cases h
set_option maxRecDepth 1000000
noncomputable def halfV:Value:=.agg #[.int .u32 0,.int .u32 274646895,.int .u32 549293790,.int .u32 820201905,.int .u32 1098587580,.int .u32 1361435347,.int .u32 1640403810,.int .u32 1905808397,.int .u32 2197175160,.int .u32 2460548119,.int .u32 2722870694,.int .u32 2987750089,.int .u32 3280807620,.int .u32 3553878443,.int .u32 3811616794,.int .u32 4084100981]
theorem half_run:runF env (noOrc P) 8000 156 (enterF P 156 ([]:List Value).toArray .normal) [] (S0 11) (isV halfV)=true:=by kernel_rfl
theorem half_calls (w:World) (hw:11≤w.heap.size):Calls P 156 #[] w fun e w'=>e=.returned halfV∧Below w.heap.size w w':=calls_of_runZ env (noOrc P) mixed gsize5 8000 156 [] rfl half_run w (by rw [gsize5];exact hw)
end Go.Eng.KX
namespace Go.Eng.KX
open Go Go.Eng Go.RowKit
set_option maxRecDepth 1000000
theorem own33_run:runF env (noOrc P) 2000 33 (enterF P 33 [.slice none 0 0].toArray .normal) [] (S0 11) (isV (.bool true))=true:=by kernel_rfl
theorem own33 (w:World) (hw:11≤w.heap.size):Calls P 33 #[.slice none 0 0] w fun e w'=>e=.returned (.bool true)∧Below w.heap.size w w':=calls_of_runZ env (noOrc P) mixed gsize5 2000 33 [.slice none 0 0] rfl own33_run w (by rw [gsize5];exact hw)
theorem own34_run:runF env (noOrc P) 2000 34 (enterF P 34 [.slice none 0 0].toArray .normal) [] (S0 11) (isV (.bool true))=true:=by kernel_rfl
theorem own34 (w:World) (hw:11≤w.heap.size):Calls P 34 #[.slice none 0 0] w fun e w'=>e=.returned (.bool true)∧Below w.heap.size w w':=calls_of_runZ env (noOrc P) mixed gsize5 2000 34 [.slice none 0 0] rfl own34_run w (by rw [gsize5];exact hw)
theorem own35_run:runF env (noOrc P) 2000 35 (enterF P 35 [.slice none 0 0].toArray .normal) [] (S0 11) (isV (.bool true))=true:=by kernel_rfl
theorem own35 (w:World) (hw:11≤w.heap.size):Calls P 35 #[.slice none 0 0] w fun e w'=>e=.returned (.bool true)∧Below w.heap.size w w':=calls_of_runZ env (noOrc P) mixed gsize5 2000 35 [.slice none 0 0] rfl own35_run w (by rw [gsize5];exact hw)
theorem own36_run:runF env (noOrc P) 2000 36 (enterF P 36 [.slice none 0 0].toArray .normal) [] (S0 11) (isV (.bool true))=true:=by kernel_rfl
theorem own36 (w:World) (hw:11≤w.heap.size):Calls P 36 #[.slice none 0 0] w fun e w'=>e=.returned (.bool true)∧Below w.heap.size w w':=calls_of_runZ env (noOrc P) mixed gsize5 2000 36 [.slice none 0 0] rfl own36_run w (by rw [gsize5];exact hw)
theorem own37_run:runF env (noOrc P) 2000 37 (enterF P 37 [.slice none 0 0].toArray .normal) [] (S0 11) (isV (.bool true))=true:=by kernel_rfl
theorem own37 (w:World) (hw:11≤w.heap.size):Calls P 37 #[.slice none 0 0] w fun e w'=>e=.returned (.bool true)∧Below w.heap.size w w':=calls_of_runZ env (noOrc P) mixed gsize5 2000 37 [.slice none 0 0] rfl own37_run w (by rw [gsize5];exact hw)
theorem own38_run:runF env (noOrc P) 2000 38 (enterF P 38 [.slice none 0 0].toArray .normal) [] (S0 11) (isV (.bool true))=true:=by kernel_rfl
theorem own38 (w:World) (hw:11≤w.heap.size):Calls P 38 #[.slice none 0 0] w fun e w'=>e=.returned (.bool true)∧Below w.heap.size w w':=calls_of_runZ env (noOrc P) mixed gsize5 2000 38 [.slice none 0 0] rfl own38_run w (by rw [gsize5];exact hw)
theorem own39_run:runF env (noOrc P) 2000 39 (enterF P 39 [.slice none 0 0].toArray .normal) [] (S0 11) (isV (.bool true))=true:=by kernel_rfl
theorem own39 (w:World) (hw:11≤w.heap.size):Calls P 39 #[.slice none 0 0] w fun e w'=>e=.returned (.bool true)∧Below w.heap.size w w':=calls_of_runZ env (noOrc P) mixed gsize5 2000 39 [.slice none 0 0] rfl own39_run w (by rw [gsize5];exact hw)
theorem own40_run:runF env (noOrc P) 2000 40 (enterF P 40 [.slice none 0 0].toArray .normal) [] (S0 11) (isV (.bool true))=true:=by kernel_rfl
theorem own40 (w:World) (hw:11≤w.heap.size):Calls P 40 #[.slice none 0 0] w fun e w'=>e=.returned (.bool true)∧Below w.heap.size w w':=calls_of_runZ env (noOrc P) mixed gsize5 2000 40 [.slice none 0 0] rfl own40_run w (by rw [gsize5];exact hw)
theorem own41_run:runF env (noOrc P) 2000 41 (enterF P 41 [.slice none 0 0].toArray .normal) [] (S0 11) (isV (.bool true))=true:=by kernel_rfl
theorem own41 (w:World) (hw:11≤w.heap.size):Calls P 41 #[.slice none 0 0] w fun e w'=>e=.returned (.bool true)∧Below w.heap.size w w':=calls_of_runZ env (noOrc P) mixed gsize5 2000 41 [.slice none 0 0] rfl own41_run w (by rw [gsize5];exact hw)
theorem own42_run:runF env (noOrc P) 2000 42 (enterF P 42 [.slice none 0 0].toArray .normal) [] (S0 11) (isV (.bool true))=true:=by kernel_rfl
theorem own42 (w:World) (hw:11≤w.heap.size):Calls P 42 #[.slice none 0 0] w fun e w'=>e=.returned (.bool true)∧Below w.heap.size w w':=calls_of_runZ env (noOrc P) mixed gsize5 2000 42 [.slice none 0 0] rfl own42_run w (by rw [gsize5];exact hw)
theorem own43_run:runF env (noOrc P) 2000 43 (enterF P 43 [.slice none 0 0].toArray .normal) [] (S0 11) (isV (.bool true))=true:=by kernel_rfl
theorem own43 (w:World) (hw:11≤w.heap.size):Calls P 43 #[.slice none 0 0] w fun e w'=>e=.returned (.bool true)∧Below w.heap.size w w':=calls_of_runZ env (noOrc P) mixed gsize5 2000 43 [.slice none 0 0] rfl own43_run w (by rw [gsize5];exact hw)
theorem own44_run:runF env (noOrc P) 2000 44 (enterF P 44 [.slice none 0 0].toArray .normal) [] (S0 11) (isV (.bool true))=true:=by kernel_rfl
theorem own44 (w:World) (hw:11≤w.heap.size):Calls P 44 #[.slice none 0 0] w fun e w'=>e=.returned (.bool true)∧Below w.heap.size w w':=calls_of_runZ env (noOrc P) mixed gsize5 2000 44 [.slice none 0 0] rfl own44_run w (by rw [gsize5];exact hw)
theorem own45_run:runF env (noOrc P) 2000 45 (enterF P 45 [.slice none 0 0].toArray .normal) [] (S0 11) (isV (.bool true))=true:=by kernel_rfl
theorem own45 (w:World) (hw:11≤w.heap.size):Calls P 45 #[.slice none 0 0] w fun e w'=>e=.returned (.bool true)∧Below w.heap.size w w':=calls_of_runZ env (noOrc P) mixed gsize5 2000 45 [.slice none 0 0] rfl own45_run w (by rw [gsize5];exact hw)
theorem own46_run:runF env (noOrc P) 2000 46 (enterF P 46 [.slice none 0 0].toArray .normal) [] (S0 11) (isV (.bool true))=true:=by kernel_rfl
theorem own46 (w:World) (hw:11≤w.heap.size):Calls P 46 #[.slice none 0 0] w fun e w'=>e=.returned (.bool true)∧Below w.heap.size w w':=calls_of_runZ env (noOrc P) mixed gsize5 2000 46 [.slice none 0 0] rfl own46_run w (by rw [gsize5];exact hw)
theorem own47_run:runF env (noOrc P) 2000 47 (enterF P 47 [.slice none 0 0].toArray .normal) [] (S0 11) (isV (.bool true))=true:=by kernel_rfl
theorem own47 (w:World) (hw:11≤w.heap.size):Calls P 47 #[.slice none 0 0] w fun e w'=>e=.returned (.bool true)∧Below w.heap.size w w':=calls_of_runZ env (noOrc P) mixed gsize5 2000 47 [.slice none 0 0] rfl own47_run w (by rw [gsize5];exact hw)
theorem own48_run:runF env (noOrc P) 2000 48 (enterF P 48 [.slice none 0 0].toArray .normal) [] (S0 11) (isV (.bool true))=true:=by kernel_rfl
theorem own48 (w:World) (hw:11≤w.heap.size):Calls P 48 #[.slice none 0 0] w fun e w'=>e=.returned (.bool true)∧Below w.heap.size w w':=calls_of_runZ env (noOrc P) mixed gsize5 2000 48 [.slice none 0 0] rfl own48_run w (by rw [gsize5];exact hw)
theorem own49_run:runF env (noOrc P) 2000 49 (enterF P 49 [.slice none 0 0].toArray .normal) [] (S0 11) (isV (.bool true))=true:=by kernel_rfl
theorem own49 (w:World) (hw:11≤w.heap.size):Calls P 49 #[.slice none 0 0] w fun e w'=>e=.returned (.bool true)∧Below w.heap.size w w':=calls_of_runZ env (noOrc P) mixed gsize5 2000 49 [.slice none 0 0] rfl own49_run w (by rw [gsize5];exact hw)
theorem own50_run:runF env (noOrc P) 2000 50 (enterF P 50 [.slice none 0 0].toArray .normal) [] (S0 11) (isV (.bool true))=true:=by kernel_rfl
theorem own50 (w:World) (hw:11≤w.heap.size):Calls P 50 #[.slice none 0 0] w fun e w'=>e=.returned (.bool true)∧Below w.heap.size w w':=calls_of_runZ env (noOrc P) mixed gsize5 2000 50 [.slice none 0 0] rfl own50_run w (by rw [gsize5];exact hw)
theorem own51_run:runF env (noOrc P) 2000 51 (enterF P 51 [.slice none 0 0].toArray .normal) [] (S0 11) (isV (.bool true))=true:=by kernel_rfl
theorem own51 (w:World) (hw:11≤w.heap.size):Calls P 51 #[.slice none 0 0] w fun e w'=>e=.returned (.bool true)∧Below w.heap.size w w':=calls_of_runZ env (noOrc P) mixed gsize5 2000 51 [.slice none 0 0] rfl own51_run w (by rw [gsize5];exact hw)
theorem own52_run:runF env (noOrc P) 2000 52 (enterF P 52 [.slice none 0 0].toArray .normal) [] (S0 11) (isV (.bool true))=true:=by kernel_rfl
theorem own52 (w:World) (hw:11≤w.heap.size):Calls P 52 #[.slice none 0 0] w fun e w'=>e=.returned (.bool true)∧Below w.heap.size w w':=calls_of_runZ env (noOrc P) mixed gsize5 2000 52 [.slice none 0 0] rfl own52_run w (by rw [gsize5];exact hw)
theorem own53_run:runF env (noOrc P) 2000 53 (enterF P 53 [.slice none 0 0].toArray .normal) [] (S0 11) (isV (.bool true))=true:=by kernel_rfl
theorem own53 (w:World) (hw:11≤w.heap.size):Calls P 53 #[.slice none 0 0] w fun e w'=>e=.returned (.bool true)∧Below w.heap.size w w':=calls_of_runZ env (noOrc P) mixed gsize5 2000 53 [.slice none 0 0] rfl own53_run w (by rw [gsize5];exact hw)
theorem own54_run:runF env (noOrc P) 2000 54 (enterF P 54 [.slice none 0 0].toArray .normal) [] (S0 11) (isV (.bool true))=true:=by kernel_rfl
theorem own54 (w:World) (hw:11≤w.heap.size):Calls P 54 #[.slice none 0 0] w fun e w'=>e=.returned (.bool true)∧Below w.heap.size w w':=calls_of_runZ env (noOrc P) mixed gsize5 2000 54 [.slice none 0 0] rfl own54_run w (by rw [gsize5];exact hw)
theorem own55_run:runF env (noOrc P) 2000 55 (enterF P 55 [.slice none 0 0].toArray .normal) [] (S0 11) (isV (.bool true))=true:=by kernel_rfl
theorem own55 (w:World) (hw:11≤w.heap.size):Calls P 55 #[.slice none 0 0] w fun e w'=>e=.returned (.bool true)∧Below w.heap.size w w':=calls_of_runZ env (noOrc P) mixed gsize5 2000 55 [.slice none 0 0] rfl own55_run w (by rw [gsize5];exact hw)
theorem own56_run:runF env (noOrc P) 2000 56 (enterF P 56 [.slice none 0 0].toArray .normal) [] (S0 11) (isV (.bool true))=true:=by kernel_rfl
theorem own56 (w:World) (hw:11≤w.heap.size):Calls P 56 #[.slice none 0 0] w fun e w'=>e=.returned (.bool true)∧Below w.heap.size w w':=calls_of_runZ env (noOrc P) mixed gsize5 2000 56 [.slice none 0 0] rfl own56_run w (by rw [gsize5];exact hw)
theorem own57_run:runF env (noOrc P) 2000 57 (enterF P 57 [.slice none 0 0].toArray .normal) [] (S0 11) (isV (.bool true))=true:=by kernel_rfl
theorem own57 (w:World) (hw:11≤w.heap.size):Calls P 57 #[.slice none 0 0] w fun e w'=>e=.returned (.bool true)∧Below w.heap.size w w':=calls_of_runZ env (noOrc P) mixed gsize5 2000 57 [.slice none 0 0] rfl own57_run w (by rw [gsize5];exact hw)
theorem own58_run:runF env (noOrc P) 2000 58 (enterF P 58 [.slice none 0 0].toArray .normal) [] (S0 11) (isV (.bool true))=true:=by kernel_rfl
theorem own58 (w:World) (hw:11≤w.heap.size):Calls P 58 #[.slice none 0 0] w fun e w'=>e=.returned (.bool true)∧Below w.heap.size w w':=calls_of_runZ env (noOrc P) mixed gsize5 2000 58 [.slice none 0 0] rfl own58_run w (by rw [gsize5];exact hw)
theorem own59_run:runF env (noOrc P) 2000 59 (enterF P 59 [.slice none 0 0].toArray .normal) [] (S0 11) (isV (.bool true))=true:=by kernel_rfl
theorem own59 (w:World) (hw:11≤w.heap.size):Calls P 59 #[.slice none 0 0] w fun e w'=>e=.returned (.bool true)∧Below w.heap.size w w':=calls_of_runZ env (noOrc P) mixed gsize5 2000 59 [.slice none 0 0] rfl own59_run w (by rw [gsize5];exact hw)
theorem own60_run:runF env (noOrc P) 2000 60 (enterF P 60 [.slice none 0 0].toArray .normal) [] (S0 11) (isV (.bool true))=true:=by kernel_rfl
theorem own60 (w:World) (hw:11≤w.heap.size):Calls P 60 #[.slice none 0 0] w fun e w'=>e=.returned (.bool true)∧Below w.heap.size w w':=calls_of_runZ env (noOrc P) mixed gsize5 2000 60 [.slice none 0 0] rfl own60_run w (by rw [gsize5];exact hw)
theorem own61_run:runF env (noOrc P) 2000 61 (enterF P 61 [.slice none 0 0].toArray .normal) [] (S0 11) (isV (.bool true))=true:=by kernel_rfl
theorem own61 (w:World) (hw:11≤w.heap.size):Calls P 61 #[.slice none 0 0] w fun e w'=>e=.returned (.bool true)∧Below w.heap.size w w':=calls_of_runZ env (noOrc P) mixed gsize5 2000 61 [.slice none 0 0] rfl own61_run w (by rw [gsize5];exact hw)
theorem own62_run:runF env (noOrc P) 2000 62 (enterF P 62 [.slice none 0 0].toArray .normal) [] (S0 11) (isV (.bool true))=true:=by kernel_rfl
theorem own62 (w:World) (hw:11≤w.heap.size):Calls P 62 #[.slice none 0 0] w fun e w'=>e=.returned (.bool true)∧Below w.heap.size w w':=calls_of_runZ env (noOrc P) mixed gsize5 2000 62 [.slice none 0 0] rfl own62_run w (by rw [gsize5];exact hw)
theorem own63_run:runF env (noOrc P) 2000 63 (enterF P 63 [.slice none 0 0].toArray .normal) [] (S0 11) (isV (.bool true))=true:=by kernel_rfl
theorem own63 (w:World) (hw:11≤w.heap.size):Calls P 63 #[.slice none 0 0] w fun e w'=>e=.returned (.bool true)∧Below w.heap.size w w':=calls_of_runZ env (noOrc P) mixed gsize5 2000 63 [.slice none 0 0] rfl own63_run w (by rw [gsize5];exact hw)
end Go.Eng.KX
