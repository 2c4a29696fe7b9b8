/- Closed calls of this program, answered by the closed run. No conditions. -/
import Derived.Test.YtndjmffnlcilbaaGreatDoorEng4
import Derived.Test.YtndjmffnlcilbaaGreatDoorProg
import Derived.KernelRfl
import Derived.Test.YtndjmffnlcilbaaGreatDoorYi
import Derived.Test.YtndjmffnlcilbaaGreatDoorYb
set_option linter.unusedSimpArgs false
set_option linter.unusedVariables false
set_option linter.deprecated false
set_option linter.unnecessarySimpa false
namespace Go.Eng.KX
open Go Go.Eng Go.RowKit
noncomputable abbrev P:=Go.Proofs.Tryz.prog
set_option maxRecDepth 100000
theorem zT:zeroT P.types.toList=true:=by kernel_rfl
def nameT (l:List Func):Bool:=l.all fun f=>!(f.name == "runtime.NumGoroutine")
theorem nT:nameT P.funcs.toList=true:=by kernel_rfl
theorem gsize5:P.globals.size+5=9:=by kernel_rfl
theorem mixed:P.follows .mixedOrders=true:=by kernel_rfl
theorem zeroOk:ZeroOk P:=zeroOk_of zT
theorem notNG:∀(f:Nat) (fn:Func),P.funcs[f]?=some fn→(fn.name == "runtime.NumGoroutine")=false:=by
 intro f fn hf
 have h:=nT
 unfold nameT at h
 rw [List.all_eq_true] at h
 have:=h fn (List.mem_of_getElem? (i:=f) (by simpa using hf))
 simpa using this
noncomputable def env:Env P where
 zero:=zeroOk
 notNG:=notNG
 ext:=fun _=>none
 extOk:=by
  intro f e h
  cases h
set_option maxRecDepth 1000000
noncomputable def halfV:Value:=.agg #[.int .u32 0,.int .u32 274646895,.int .u32 549293790,.int .u32 820201905,.int .u32 1098587580,.int .u32 1361435347,.int .u32 1640403810,.int .u32 1905808397,.int .u32 2197175160,.int .u32 2460548119,.int .u32 2722870694,.int .u32 2987750089,.int .u32 3280807620,.int .u32 3553878443,.int .u32 3811616794,.int .u32 4084100981]
theorem half_run:runF env (noOrc P) 8000 90 (enterF P 90 ([]:List Value).toArray .normal) [] (S0 9) (isV halfV)=true:=by kernel_rfl
theorem half_calls (w:World) (hw:9≤w.heap.size):Calls P 90 #[] w fun e w'=>e=.returned halfV∧Below w.heap.size w w':=calls_of_runZ env (noOrc P) mixed gsize5 8000 90 [] rfl half_run w (by rw [gsize5];exact hw)
end Go.Eng.KX
namespace Go.Eng.KX
open Go Go.Eng Go.RowKit Go.Ix Go.Proofs.YtndjmffnlcilbaaGreatDoor
theorem halfOk:HalfOk:=fun W hW=>by
 have h:=half_calls W hW
 have e:halfV=.agg half:=by kernel_rfl
 rw [e] at h
 exact h
theorem clone_exact (b:Nat) (es:Array MapEntry) (clock:Nat) (w:World) (hb:w.heap[b]?=some (.map es clock)):Calls P 47 #[.map (some b)] w fun e w'=>e=.returned (.map (some w.heap.size))∧w'=w.alloc (.map es clock) :=
 Go.Proofs.AnyW.maps_Clone Go.Proofs.Tryz.clone47 b es clock w hb
theorem sum_read {bs:List Nat}{n:Nat}(hn:bs.length=n) (hpos:0<n) (hm:n≤100000) (h8:bs.all (fun x=>decide (x<256))=true) {z:Int}(hz:((crc bs:Nat):Int)=z) (w:World) (b off c:Nat) (hw:P.globals.size+5≤w.heap.size) (hcl:∀(j:Nat) (x:Nat),bs[j]?=some x→w.cell? ⟨b,off+j,none⟩=some (.int .u8 x)) :
  Calls P 42 #[.slice (some ⟨b,off,none⟩) n c] w fun e w'=>e=.returned (.int .u32 z)∧Below w.heap.size w w':=by
 have hb:BytesAt w (.slice (some ⟨b,off,none⟩) n c) bs:=by
  unfold BytesAt
  rw [hn]
  refine⟨_,_,rfl,(fun e=>by cases e),fun _=>⟨b,off,rfl,fun j v hj=>?_⟩⟩
  unfold octs at hj
  rw [List.getElem?_map,Option.map_eq_some_iff] at hj
  obtain⟨x,hx,rfl⟩:=hj
  exact hcl j x hx
 rw [gsize5] at hw
 rw [← hz]
 exact sum_any halfOk hw hb (by omega) (fun x hx=>by
  have:=List.all_eq_true.1 h8 x hx
  simpa using this)
end Go.Eng.KX
