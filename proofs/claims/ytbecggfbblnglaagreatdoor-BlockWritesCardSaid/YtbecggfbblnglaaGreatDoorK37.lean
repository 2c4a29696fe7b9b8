/- Closed calls of this program, answered by the closed run. Conditions: what the listed variables hold. -/
import Derived.Test.YtbecggfbblnglaaGreatDoorK22
import Derived.Test.YtbecggfbblnglaaGreatDoorT31
import Derived.Test.YtbecggfbblnglaaGreatDoorT18
set_option linter.unusedSimpArgs false
set_option linter.unusedVariables false
set_option linter.deprecated false
set_option linter.unnecessarySimpa false
namespace Go.Proofs.YtbecggfbblnglaaGreatDoor
open Go Go.RowKit Go.Ix Go.Gor
theorem tz3 (w:World) (h:TabG w):Calls Tryz.prog 186 #[.int .u64 3] w fun e w'=>e=.returned (.int .i64 0)∧w'=w :=
 (trail_any 3 w h (by decide) (by decide)).mono fun e w' h9=>⟨h9.1,h9.2.symm⟩
theorem written_nil (w:World):Calls Tryz.prog 17 #[.int .u32 1,.int .i64 1,.slice none 0 0] w fun e w'=>e=.returned (.tuple #[.slice none 0 0,.iface 151 (.pointer (some ⟨w.heap.size,0,none⟩))])∧∃s:ByteArray,w'=w.alloc (.cells #[.string s,.iface 28 (.int .u16 1)] 223):=by
 go_enter Tryz.func17,Tryz.ntmps17
 go_wp2_with (go_at_call 64;refine (bcheck_any _ _ _ (by decide)).mono ?_;rintro e w3 ⟨rfl,hw3⟩)
 go_ret2
 exact⟨rfl,_,rfl⟩
theorem write_nil (w:World) (hg:ErrG w) (h0:0<w.heap.size):Calls Tryz.prog 6 #[.int .u32 1,.int .i64 1,.slice none 0 0] w fun e w'=>e=.returned (.tuple #[.slice none 0 0,.int .u16 150])∧Below w.heap.size w w':=by
 go_enter Tryz.func6,Tryz.ntmps6
 go_wp2_with (first
  | (go_at_call 17;refine (written_nil _).mono ?_;rintro e w3 ⟨rfl,s,hw3⟩;have hh3:=heap_alloc_new w (.cells #[.string s,.iface 28 (.int .u16 1)] 223);rw [← hw3] at hh3;have B3:Hid (Below w.heap.size w w3):=Lib.hid (by rw [hw3];exact (Below.refl _ _).alloc (Nat.le_refl _) _);have hs3:=B3.out.size;have HT:=Lib.hid (told_any w.heap.size 1 _ w3 (by decide) ((Olds.of_below B3.out).cell hg) hh3 rfl);clear hw3 hh3)
  | (go_at_call 18;refine HT.out.mono ?_;clear HT;rintro e w4 ⟨rfl,hb4⟩;have B4:Hid (Below w.heap.size w w4):=Lib.hid (B3.out.trans (hb4.mono hs3));clear hb4))
 go_ret2
 exact⟨rfl,B4.out⟩
end Go.Proofs.YtbecggfbblnglaaGreatDoor
namespace Go.Eng.KX
open Go Go.Eng Go.RowKit Go.Ix Go.Proofs.YtbecggfbblnglaaGreatDoor Go.Gor
def goodK (B:Nat) (w0:World):Prop:=ErrG w0∧TabG w0∧11≤B
theorem good_at {B:Nat}{w0 w:World}(h:goodK B w0) (hb:Below B w0 w):ErrG w∧TabG w:=by
 obtain⟨h1,h2,h3⟩:=h
 refine⟨?_,fun i x hx=>?_⟩
 ·unfold ErrG
  rw [hb.cell (show (0:Nat)<B by omega)]
  exact h1
 ·rw [hb.cell (show (2:Nat)<B by omega)]
  exact h2 i x hx
theorem good_keep {B:Nat}{w0 w:World}(h:goodK B w0) (hb:Below B w0 w) (hB:B≤w.heap.size):goodK w.heap.size w:=⟨(good_at h hb).1,(good_at h hb).2,Nat.le_trans h.2.2 hB⟩
theorem halfOk:HalfOk:=fun W hW=>by
 have h:=half_calls W hW
 have e:halfV=.agg half:=by kernel_rfl
 rw [e] at h
 exact h
theorem sum_read {bs:List Nat}{n:Nat}(hn:bs.length=n) (hpos:0<n) (hm:n≤100000) (h8:bs.all (fun x=>decide (x<256))=true) {z:Int}(hz:((crc bs:Nat):Int)=z) (w:World) (b off c:Nat) (hw:P.globals.size+5≤w.heap.size) (hcl:∀(j:Nat) (x:Nat),bs[j]?=some x→w.cell? ⟨b,off+j,none⟩=some (.int .u8 x)) :
  Calls P 68 #[.slice (some ⟨b,off,none⟩) n c] w fun e w'=>e=.returned (.int .u32 z)∧Below w.heap.size w w':=by
 have hb:BytesAt w (.slice (some ⟨b,off,none⟩) n c) bs:=by
  unfold BytesAt
  rw [hn]
  refine⟨_,_,rfl,(fun e=>by cases e),fun _=>⟨b,off,rfl,fun j v hj=>?_⟩⟩
  unfold octs at hj
  rw [List.getElem?_map,Option.map_eq_some_iff] at hj
  obtain⟨x,hx,rfl⟩:=hj
  exact hcl j x hx
 rw [gsize5] at hw
 rw [← hz]
 exact sum_any halfOk hw hb (by omega) (fun x hx=>by
  have:=List.all_eq_true.1 h8 x hx
  simpa using this)
theorem x_tz3 (B:Nat) (w0 w:World) (hg:goodK B w0) (hb:Below B w0 w) (_:B≤w.heap.size) (_:P.globals.size+5≤w.heap.size):Calls P 186 #[.int .u64 3] w fun e w'=>e=.returned (.int .i64 0)∧Below w.heap.size w w' :=
 (tz3 w (good_at hg hb).2).mono fun e w' ⟨h1,h2⟩=>⟨h1,by rw [h2];exact Below.refl _ _⟩
theorem x_write (B:Nat) (w0 w:World) (hg:goodK B w0) (hb:Below B w0 w) (_:B≤w.heap.size) (hN:P.globals.size+5≤w.heap.size):Calls P 6 #[.int .u32 1,.int .i64 1,.slice none 0 0] w fun e w'=>e=.returned (.tuple #[.slice none 0 0,.int .u16 150])∧Below w.heap.size w w' :=
 write_nil w (good_at hg hb).1 (by rw [gsize5] at hN;omega)
theorem x_name (B:Nat) (w0 w:World) (_:goodK B w0) (_:Below B w0 w) (_:B≤w.heap.size) (_:P.globals.size+5≤w.heap.size):Calls P 124 #[.string ⟨#[97]⟩] w fun e w'=>e=.returned (.bool true)∧Below w.heap.size w w':=by
 refine (pname_any [97] w (by decide)).mono ?_
 rintro e w' ⟨hs,hb⟩
 refine⟨?_,hb⟩
 rcases hs with ⟨h,_⟩|⟨_,h⟩
 ·exact h
 ·exact absurd ⟨by decide,by decide,fun i c hc=>by
   match i,hc with
   | 0,hc=>cases hc;decide +kernel
   | i+1,hc=>simp at hc⟩ h
end Go.Eng.KX
