/- Closed calls of this program, answered by the closed run. Conditions: what the listed variables hold. -/
import Derived.Test.YtejeflddeanccaaGreatDoorEng4
import Derived.Test.YtejeflddeanccaaGreatDoorProg
import Derived.KernelRfl
import Derived.Test.YtejeflddeanccaaGreatDoorT10
import Derived.Test.YtejeflddeanccaaGreatDoorT7
set_option linter.unusedSimpArgs false
set_option linter.unusedVariables false
set_option linter.deprecated false
set_option linter.unnecessarySimpa false
namespace Go.Eng.KX
open Go Go.Eng Go.RowKit
noncomputable abbrev P:=Go.Proofs.Tryz.prog
set_option maxRecDepth 100000
theorem zT:zeroT P.types.toList=true:=by kernel_rfl
def nameT (l:List Func):Bool:=l.all fun f=>!(f.name == "runtime.NumGoroutine")
theorem nT:nameT P.funcs.toList=true:=by kernel_rfl
theorem gsize5:P.globals.size+5=10:=by kernel_rfl
theorem mixed:P.follows .mixedOrders=true:=by kernel_rfl
theorem zeroOk:ZeroOk P:=zeroOk_of zT
theorem notNG:∀(f:Nat) (fn:Func),P.funcs[f]?=some fn→(fn.name == "runtime.NumGoroutine")=false:=by
 intro f fn hf
 have h:=nT
 unfold nameT at h
 rw [List.all_eq_true] at h
 have:=h fn (List.mem_of_getElem? (i:=f) (by simpa using hf))
 simpa using this
noncomputable def env:Env P where
 zero:=zeroOk
 notNG:=notNG
 ext:=fun _=>none
 extOk:=by
  intro f e h
  cases h
set_option maxRecDepth 1000000
noncomputable def halfV:Value:=.agg #[.int .u32 0,.int .u32 274646895,.int .u32 549293790,.int .u32 820201905,.int .u32 1098587580,.int .u32 1361435347,.int .u32 1640403810,.int .u32 1905808397,.int .u32 2197175160,.int .u32 2460548119,.int .u32 2722870694,.int .u32 2987750089,.int .u32 3280807620,.int .u32 3553878443,.int .u32 3811616794,.int .u32 4084100981]
theorem half_run:runF env (noOrc P) 8000 67 (enterF P 67 ([]:List Value).toArray .normal) [] (S0 10) (isV halfV)=true:=by kernel_rfl
theorem half_calls (w:World) (hw:10≤w.heap.size):Calls P 67 #[] w fun e w'=>e=.returned halfV∧Below w.heap.size w w':=calls_of_runZ env (noOrc P) mixed gsize5 8000 67 [] rfl half_run w (by rw [gsize5];exact hw)
end Go.Eng.KX
namespace Go.Proofs.YtejeflddeanccaaGreatDoor
open Go Go.RowKit Go.Ix
def tab64:List Nat:=[0,1,56,2,57,49,28,3,61,58,42,50,38,29,17,4,62,47,59,36,45,43,51,22,53,39,33,30,24,18,12,5,63,55,48,27,60,41,37,16,46,35,44,21,52,32,23,11,54,26,40,15,34,20,31,10,25,14,19,9,13,8,7,6]
def TabG (w:World):Prop:=∀(i x:Nat),tab64[i]?=some x→w.cell? ⟨2,i,none⟩=some (.int .u8 (x:Int))
theorem tz3 (w:World) (h:TabG w):Calls Tryz.prog 165 #[.int .u64 3] w fun e w'=>e=.returned (.int .i64 0)∧w'=w:=by
 have h0:w.cell? ⟨2,0,none⟩=some (.int .u8 0):=h 0 0 rfl
 have e0:IntKind.u64.wrap (-3)=18446744073709551613:=by decide +kernel
 have e1:bits .and .u64 3 18446744073709551613=1:=by decide +kernel
 have e2:IntKind.u64.wrap 285870213051353865=285870213051353865:=by decide +kernel
 go_enter Tryz.func165,Tryz.ntmps165
 go_wp2_with fail
 go_ret
 exact⟨rfl,rfl⟩
theorem written_nil (w:World):Calls Tryz.prog 48 #[.int .u32 1,.int .i64 1,.slice none 0 0] w fun e w'=>e=.returned (.tuple #[.slice none 0 0,.iface 84 (.pointer (some ⟨w.heap.size,0,none⟩))])∧∃s:ByteArray,w'=w.alloc (.cells #[.string s,.iface 27 (.int .u16 1)] 89):=by
 go_enter Tryz.func48,Tryz.ntmps48
 go_wp2_with (go_at_call 20;refine (bcheck_any _ _ _ (by decide)).mono ?_;rintro e w3 ⟨rfl,hw3⟩)
 go_ret2
 exact⟨rfl,_,rfl⟩
theorem write_nil (w:World) (hg:ErrG w) (h0:0<w.heap.size):Calls Tryz.prog 32 #[.int .u32 1,.int .i64 1,.slice none 0 0] w fun e w'=>e=.returned (.tuple #[.slice none 0 0,.int .u16 150])∧Below w.heap.size w w':=by
 go_enter Tryz.func32,Tryz.ntmps32
 go_wp2_with (first
  | (go_at_call 48;refine (written_nil _).mono ?_;rintro e w3 ⟨rfl,s,hw3⟩;have hh3:=heap_alloc_new w (.cells #[.string s,.iface 27 (.int .u16 1)] 89);rw [← hw3] at hh3;have B3:Hid (Below w.heap.size w w3):=Lib.hid (by rw [hw3];exact (Below.refl _ _).alloc (Nat.le_refl _) _);have hs3:=B3.out.size;have HT:=Lib.hid (told_any w.heap.size 1 _ w3 (by decide) ((Olds.of_below B3.out).cell hg) hh3 rfl);clear hw3 hh3)
  | (go_at_call 19;refine HT.out.mono ?_;clear HT;rintro e w4 ⟨rfl,hb4⟩;have B4:Hid (Below w.heap.size w w4):=Lib.hid (B3.out.trans (hb4.mono hs3));clear hb4))
 go_ret2
 exact⟨rfl,B4.out⟩
end Go.Proofs.YtejeflddeanccaaGreatDoor
namespace Go.Eng.KX
open Go Go.Eng Go.RowKit Go.Ix Go.Proofs.YtejeflddeanccaaGreatDoor
def goodK (B:Nat) (w0:World):Prop:=ErrG w0∧TabG w0∧10≤B
theorem good_at {B:Nat}{w0 w:World}(h:goodK B w0) (hb:Below B w0 w):ErrG w∧TabG w:=by
 obtain⟨h1,h2,h3⟩:=h
 refine⟨?_,fun i x hx=>?_⟩
 ·unfold ErrG
  rw [hb.cell (show (0:Nat)<B by omega)]
  exact h1
 ·rw [hb.cell (show (2:Nat)<B by omega)]
  exact h2 i x hx
theorem good_keep {B:Nat}{w0 w:World}(h:goodK B w0) (hb:Below B w0 w) (hB:B≤w.heap.size):goodK w.heap.size w:=⟨(good_at h hb).1,(good_at h hb).2,Nat.le_trans h.2.2 hB⟩
theorem halfOk:HalfOk:=fun W hW=>by
 have h:=half_calls W hW
 have e:halfV=.agg half:=by kernel_rfl
 rw [e] at h
 exact h
theorem sum_read {bs:List Nat}{n:Nat}(hn:bs.length=n) (hpos:0<n) (hm:n≤100000) (h8:bs.all (fun x=>decide (x<256))=true) {z:Int}(hz:((crc bs:Nat):Int)=z) (w:World) (b off c:Nat) (hw:P.globals.size+5≤w.heap.size) (hcl:∀(j:Nat) (x:Nat),bs[j]?=some x→w.cell? ⟨b,off+j,none⟩=some (.int .u8 x)) :
  Calls P 21 #[.slice (some ⟨b,off,none⟩) n c] w fun e w'=>e=.returned (.int .u32 z)∧Below w.heap.size w w':=by
 have hb:BytesAt w (.slice (some ⟨b,off,none⟩) n c) bs:=by
  unfold BytesAt
  rw [hn]
  refine⟨_,_,rfl,(fun e=>by cases e),fun _=>⟨b,off,rfl,fun j v hj=>?_⟩⟩
  unfold octs at hj
  rw [List.getElem?_map,Option.map_eq_some_iff] at hj
  obtain⟨x,hx,rfl⟩:=hj
  exact hcl j x hx
 rw [gsize5] at hw
 rw [← hz]
 exact sum_any halfOk hw hb (by omega) (fun x hx=>by
  have:=List.all_eq_true.1 h8 x hx
  simpa using this)
theorem x_tz3 (B:Nat) (w0 w:World) (hg:goodK B w0) (hb:Below B w0 w) (_:B≤w.heap.size) (_:P.globals.size+5≤w.heap.size):Calls P 165 #[.int .u64 3] w fun e w'=>e=.returned (.int .i64 0)∧Below w.heap.size w w' :=
 (tz3 w (good_at hg hb).2).mono fun e w' ⟨h1,h2⟩=>⟨h1,by rw [h2];exact Below.refl _ _⟩
theorem x_write (B:Nat) (w0 w:World) (hg:goodK B w0) (hb:Below B w0 w) (_:B≤w.heap.size) (hN:P.globals.size+5≤w.heap.size):Calls P 32 #[.int .u32 1,.int .i64 1,.slice none 0 0] w fun e w'=>e=.returned (.tuple #[.slice none 0 0,.int .u16 150])∧Below w.heap.size w w' :=
 write_nil w (good_at hg hb).1 (by rw [gsize5] at hN;omega)
theorem x_name (B:Nat) (w0 w:World) (_:goodK B w0) (_:Below B w0 w) (_:B≤w.heap.size) (_:P.globals.size+5≤w.heap.size):Calls P 56 #[.string ⟨#[97]⟩] w fun e w'=>e=.returned (.bool true)∧Below w.heap.size w w':=by
 refine (pname_any [97] w (by decide)).mono ?_
 rintro e w' ⟨hs,hb⟩
 refine⟨?_,hb⟩
 rcases hs with ⟨h,_⟩|⟨_,h⟩
 ·exact h
 ·exact absurd ⟨by decide,by decide,fun i c hc=>by
   match i,hc with
   | 0,hc=>cases hc;decide +kernel
   | i+1,hc=>simp at hc⟩ h
end Go.Eng.KX
