/- Contracts over this program. Their conditions: the slices read as the lists that are named, and lie within the sizes that are named. -/
import Derived.Test.YtbecggfbblnglaaGreatDoorS9
import Derived.Test.YtbecggfbblnglaaGreatDoorT10
import Derived.Test.YtbecggfbblnglaaGreatDoorP1
import Derived.Test.YtbecggfbblnglaaGreatDoorT25
import Derived.Deep.RegionWith
import Derived.StillTailTactics
import Derived.Deep.CutRange
set_option linter.unusedSimpArgs false
set_option linter.unusedVariables false
set_option linter.deprecated false
set_option linter.unnecessarySimpa false
namespace Go.Proofs.YtbecggfbblnglaaGreatDoor
open Go Go.RowKit Go.Ix Go.Gor
def TabG (w:World):Prop:=∀(i x:Nat),tab64[i]?=some x→w.cell? ⟨2,i,none⟩=some (.int .u8 (x:Int))
theorem TabG.olds {w W:World}(h:TabG w) (hb:Olds w W):TabG W:=fun i x hx=>hb.cell (h i x hx)
theorem idx_ltG (p:Nat):p * 285870213051353865 % 18446744073709551616 / 288230376151711744<64:=Nat.div_lt_of_lt_mul (Nat.lt_of_lt_of_le (Nat.mod_lt _ (by decide)) (by decide))
theorem idx_cast (p:Nat):((p * 285870213051353865 % 18446744073709551616 / 288230376151711744:Nat):Int)=((p:Nat):Int) * 285870213051353865 % 18446744073709551616 / 288230376151711744:=by
 rw [Int.natCast_ediv,Int.natCast_emod,Int.natCast_mul]
 rfl
theorem trail_place {x:Nat}(h0:0<x) (h:x<18446744073709551616):∃i t:Nat,t=trail x∧i<64∧t<64∧tab64[i]?=some t∧IntKind.u64.wrap (bits .and .u64 (x:Int) (IntKind.u64.wrap (-(x:Int))) * 285870213051353865) / 288230376151711744=(i:Int):=by
 have h1:IntKind.u64.wrap (-(x:Int))=((2 ^ 64-x:Nat):Int):=by rw [wrap_u64];omega
 have h2:IntKind.u64.wrap (bits .and .u64 (x:Int) (IntKind.u64.wrap (-(x:Int))) * 285870213051353865)=(((2 ^ trail x:Nat):Int) * 285870213051353865) % 18446744073709551616:=by
  rw [h1,and_u64 _ _ h (by omega),(and_neg 64 x h0 h).1,wrap_u64]
  rfl
 have h3:=tab_at (trail_lt h0 h)
 have h4:=trail_lt h0 h
 rw [h2]
 generalize trail x=t at *
 generalize 2 ^ t=p at *
 exact⟨_,t,rfl,idx_ltG p,h4,h3,(idx_cast p).symm⟩
theorem la1 (x:Nat) (w:World) (h:x<18446744073709551616):Calls Tryz.prog 185 #[.int .u64 (x:Int)] w fun e w'=>e=.returned (.int .i64 (64-(Lib.bitLen (x:Int).toNat:Int)))∧w'=w:=Tryz.bits_LeadingZeros64 (x:Int) w (Int.natCast_nonneg _) (by omega)
theorem la2 (x:Nat) (w:World) (y z:Int) (hy:y=z) (h1:Calls Tryz.prog 185 #[.int .u64 (x:Int)] w fun e w'=>e=.returned (.int .i64 y)∧w'=w):Calls Tryz.prog 185 #[.int .u64 (x:Int)] w fun e w'=>e=.returned (.int .i64 z)∧w=w':=by
 subst hy
 exact h1.mono fun e w' h=>⟨h.1,h.2.symm⟩
theorem lead_any (x:Nat) (w:World) (h0:0<x) (h:x<18446744073709551616):Calls Tryz.prog 185 #[.int .u64 (x:Nat)] w fun e w'=>e=.returned (.int .i64 ((63-x.log2:Nat):Int))∧w=w':=la2 x w _ _ (len4 h0 (len0 h) (log_lt h0 h)) (la1 x w h)
set_option maxRecDepth 20000 in
set_option maxHeartbeats 1000000 in
theorem trail_any (x:Nat) (w:World) (hT:TabG w) (h0:0<x) (h:x<18446744073709551616):Calls Tryz.prog 186 #[.int .u64 (x:Nat)] w fun e w'=>e=.returned (.int .i64 (trail x:Nat))∧w=w':=by
 obtain⟨i,t,e,hi,ht,hx,hix⟩:=trail_place h0 h
 have hc:=hT _ _ hx
 have hx0:¬ (x:Int)=0:=by omega
 rw [← e]
 clear e hx hT
 go_enter Tryz.func186,Tryz.ntmps186
 go_wp2_with fail
 go_ret
 exact⟨rfl,rfl⟩
end Go.Proofs.YtbecggfbblnglaaGreatDoor
namespace Go.Proofs.YtbecggfbblnglaaGreatDoor
open Go Go.RowKit Go.Ix Go.Gor
theorem run_load_part {P:Program}(w:World) (g off:Nat) (ty:TypeId) (cs:List Value) (d:TypeDesc) (hc:CellsAt w g off cs)
  (hu:P.underlying ty=some d) (hd:(match d with | .struct _ | .array _ _=>true | _=>false)=true) (hi:(P.info? ty).map (·.size)=some cs.length) :
  (loadVar ty ⟨g,off,none⟩).run P w=.ok (.agg cs.toArray) w:=by
 have hl:(loadCells ⟨g,off,none⟩ cs.length).run P w=.ok cs.toArray w :=
  run_loadCells_list (P:=P) w ⟨g,off,none⟩ cs (fun j v hv=>by
   rw [show (⟨g,off,none⟩:Addr).add j=⟨g,off+j,none⟩ by simp [Addr.add]]
   exact hc j v hv)
 cases hq:P.info? ty with
 | none=>simp [hq] at hi
 | some i =>
  have hs:i.size=cs.length:=by simpa [hq] using hi
  have hagg:(isAgg ty).run P w=.ok true w:=by
   unfold isAgg
   rw [Sem.run_bind,run_underlying hu w]
   cases d<;>simp_all
  simp [loadVar,Sem.run_bind,hagg,sizeOf,typeInfo,hq,hs,hl]
theorem results_cell0 {P:Program}{fn:Func}{p:Tmp}{ty:TypeId}(h:fn.results=#[.cell p ty]) (tmps:Array Value) (w:World) (a:Addr) (v:Value)
  (hp:tmps.getD p undef=.pointer (some a)) (hl:(loadVar ty a).run P w=.ok v w):(results fn tmps).run P w=.ok v w:=by
 have hp':tmps[p]?.getD undef=.pointer (some a):=by simpa using hp
 simp [results,h,hp',asAddr,hl]
set_option maxHeartbeats 400000 in
theorem within_any (t:Int) (w:World):Calls Tryz.prog 92 #[.int .i64 t] w fun e w'=>e=.returned (.bool (decide (-9007199254740992≤t∧t≤9007199254740992)))∧w=w':=by
 go_enter Tryz.func92,Tryz.ntmps92
 by_cases h1:-9007199254740992≤t
 ·go_wp2_with fail
  go_ret
  exact⟨by simp [h1],rfl⟩
 ·go_wp2_with fail
  go_ret
  exact⟨by simp;omega,rfl⟩
set_option maxHeartbeats 400000 in
theorem many_any (l r:Nat) (b:Bool) (w:World) (h:l+r≤64):Calls Tryz.prog 187 #[.agg #[.int .i64 (l:Nat),.int .i64 (r:Nat),.bool b]] w fun e w'=>e=.returned (.int .i64 ((64-l-r:Nat):Int))∧∃O,w'=w.alloc O:=by
 go_enter Tryz.func187,Tryz.ntmps187
 go_wp2_with fail
 go_ret
 refine⟨?_,_,rfl⟩
 show Ending.returned (.int .i64 (64-(l:Int)-(r:Int)))=_
 rw [show (64-(l:Int)-(r:Int))=((64-l-r:Nat):Int) by omega]
def bks:List Value:=[.int .u64 2,.int .i64 2,.int .i64 (-63),.int .i64 64,.int .i64 7,.int .u64 6,.int .i64 3,.int .i64 (-255),.int .i64 256,.int .i64 9,.int .u64 14,.int .i64 4,.int .i64 (-2047),.int .i64 2048,.int .i64 12]
set_option maxHeartbeats 400000 in
theorem buckets_any (w:World):Calls Tryz.prog 184 #[] w fun e w'=>e=.returned (.agg bks.toArray)∧Below w.heap.size w w':=by
 go_enter Tryz.func184,Tryz.ntmps184
 go_wp2_with fail
 refine bodyPost_ret (results_cell0 (p:=0) (ty:=382) (by kernel_rfl) _ _ ⟨w.heap.size,0,none⟩ _ rfl (run_load_part _ w.heap.size 0 382 bks _ (fun j v hv=>by
  rw [cell_of_heap (heap_alloc_new w _),Nat.zero_add]
  simpa [bks] using hv) Tryz.underlying382 rfl (by kernel_rfl))) rfl ⟨rfl,(Below.refl _ _).alloc (Nat.le_refl _) _⟩
end Go.Proofs.YtbecggfbblnglaaGreatDoor
namespace Go.Proofs.YtbecggfbblnglaaGreatDoor
open Go Go.RowKit Go.Ix Go.Gor
def winL (win:Option (Nat×Nat)):Nat:=(win.map (·.1)).getD 0
def winR (win:Option (Nat×Nat)):Nat:=(win.map (·.2)).getD 0
def apCells (wb:Nat) (first:Int) (last:Smp) (step n:Nat) (win:Option (Nat×Nat)):Array Value :=
 #[.pointer (some ⟨wb,0,none⟩),.int .i64 first,.int .i64 last.1,.int .u64 (last.2:Nat),.int .u64 (step:Nat),.int .i64 (n:Nat),.int .i64 (winL win:Nat),.int .i64 (winR win:Nat),.bool win.isSome]
structure ApAt (w:World) (ab wb:Nat) (v:Value) (first:Int) (last:Smp) (n:Nat) (s:St):Prop where
 heap:w.heap[ab]?=some (.cells (apCells wb first last s.step n s.win) 231 (0,0))
 wr:WrAt w wb v s.bits
 ne:wb≠ab
 own:v.ownBlock≠some ab
theorem ApAt.lt {w:World}{ab wb:Nat}{v:Value}{first:Int}{last:Smp}{n:Nat}{s:St}(h:ApAt w ab wb v first last n s):ab<w.heap.size:=(Array.getElem?_eq_some_iff.1 h.heap).1
theorem ApAt.wrote {w w2:World}{ab wb:Nat}{v v2:Value}{first:Int}{last:Smp}{n:Nat}{s:St}{b2:List Bool}(h:ApAt w ab wb v first last n s) (hw:WrAt w2 wb v2 b2) (ht:Wrote (fun b=>b=wb) v v2 w w2):ApAt w2 ab wb v2 first last n ⟨b2,s.step,s.win⟩:=by
 refine⟨?_,hw,h.ne,fun e=>?_⟩
 ·rw [ht.block ab h.lt (fun e=>h.ne e.symm) h.own]
  exact h.heap
 ·rcases ht.place with e2|⟨g,e2,hg⟩
  ·exact h.own (e2 ▸ e)
  ·rw [e] at e2
   cases e2
   have:=h.lt
   omega
theorem ApAt.alloc {w:World}{ab wb:Nat}{v:Value}{first:Int}{last:Smp}{n:Nat}{s:St}(h:ApAt w ab wb v first last n s) {W:World}(ho:Olds w W):ApAt W ab wb v first last n s :=
 ⟨(ho.2 _ h.lt).trans h.heap,⟨(ho.2 _ h.wr.lt).trans h.wr.1,ownsRow_olds h.wr.2 ho⟩,h.ne,h.own⟩
theorem Wrote.olds {X:Nat→Prop}{v v1:Value}{w w1 W:World}(h:Wrote X v v1 w w1) (hb:Below w1.heap.size w1 W):Wrote X v v1 w W :=
 h.trans ⟨hb.os,hb.tape,hb.output,hb.size,fun b hlt _ _=>hb.block b hlt,.inl rfl⟩
theorem Wrote.both {v v1:Value}{w w1:World}{wb ab:Nat}(h:Wrote (fun b=>b=wb) v v1 w w1):Wrote (fun b=>b=wb∨b=ab) v v1 w w1:=h.mono fun _ e=>.inl e
theorem dif_wrap {a b:Nat}(ha:a<18446744073709551616) (hb:b<18446744073709551616):IntKind.i64.wrap (IntKind.u64.wrap ((a:Int)-(b:Int)))=dif a b:=by
 rw [wrap_u64,IntKind.wrap_i64]
 unfold dif sgn
 split<;>omega
theorem dif_range (a b:Nat):-9223372036854775808≤dif a b∧dif a b≤9223372036854775807:=by
 unfold dif sgn
 split<;>omega
theorem cell_new {w:World}{cs:Array Value}{t:TypeId}{i:Nat}:(w.alloc (.cells cs t)).cell? ⟨w.heap.size,i,none⟩=cs[i]?:=cell_of_heap (heap_alloc_new w _)
theorem Wrote.cell {v v1:Value}{w w1:World}{wb b i:Nat}{u:Value}(h:Wrote (fun b=>b=wb) v v1 w w1) (hb:b<w.heap.size) (h1:b≠wb) (h2:v.ownBlock≠some b) (hc:w.cell? ⟨b,i,none⟩=some u):w1.cell? ⟨b,i,none⟩=some u:=by
 rw [← hc]
 exact World.cell?_of_block (h.block b hb h1 h2)
theorem ix0 (W:World):(Instr.index 382 (.agg #[.int .u64 2,.int .i64 2,.int .i64 (-63),.int .i64 64,.int .i64 7,.int .u64 6,.int .i64 3,.int .i64 (-255),.int .i64 256,.int .i64 9,.int .u64 14,.int .i64 4,.int .i64 (-2047),.int .i64 2048,.int .i64 12]) (.int .i64 0)).run Tryz.prog W=.ok (.agg #[.int .u64 2,.int .i64 2,.int .i64 (-63),.int .i64 64,.int .i64 7]) W:=by kernel_rfl
theorem ix1 (W:World):(Instr.index 382 (.agg #[.int .u64 2,.int .i64 2,.int .i64 (-63),.int .i64 64,.int .i64 7,.int .u64 6,.int .i64 3,.int .i64 (-255),.int .i64 256,.int .i64 9,.int .u64 14,.int .i64 4,.int .i64 (-2047),.int .i64 2048,.int .i64 12]) (.int .i64 1)).run Tryz.prog W=.ok (.agg #[.int .u64 6,.int .i64 3,.int .i64 (-255),.int .i64 256,.int .i64 9]) W:=by kernel_rfl
theorem ix2 (W:World):(Instr.index 382 (.agg #[.int .u64 2,.int .i64 2,.int .i64 (-63),.int .i64 64,.int .i64 7,.int .u64 6,.int .i64 3,.int .i64 (-255),.int .i64 256,.int .i64 9,.int .u64 14,.int .i64 4,.int .i64 (-2047),.int .i64 2048,.int .i64 12]) (.int .i64 2)).run Tryz.prog W=.ok (.agg #[.int .u64 14,.int .i64 4,.int .i64 (-2047),.int .i64 2048,.int .i64 12]) W:=by kernel_rfl
set_option maxRecDepth 20000 in
set_option maxHeartbeats 4000000 in
theorem time_any (ab wb:Nat) (v:Value) (first:Int) (last:Smp) (n step:Nat) (s:St) (w:World) (h:ApAt w ab wb v first last n s) (hl:s.bits.length≤900000) (hst:step<18446744073709551616) (hsp:s.step<18446744073709551616) :
  Calls Tryz.prog 149 #[.pointer (some ⟨ab,0,none⟩),.int .u64 (step:Nat)] w fun e w'=>e=.returned (.tuple #[])∧∃v',ApAt w' ab wb v' first last n ⟨s.bits++timeB s n step,step,s.win⟩∧Wrote (fun b=>b=wb∨b=ab) v v' w w':=by
 have hd:=dif_wrap hst hsp
 have hdr:=dif_range step s.step
 have hc0:w.cell? ⟨ab,0,none⟩=some (.pointer (some ⟨wb,0,none⟩)):=cell_of_heap h.heap
 have hc4:w.cell? ⟨ab,4,none⟩=some (.int .u64 (s.step:Nat)):=cell_of_heap h.heap
 have hc5:w.cell? ⟨ab,5,none⟩=some (.int .i64 (n:Nat)):=cell_of_heap h.heap
 have hf4:w.frozen? ⟨ab,4,none⟩=false:=by simp [World.frozen?,h.heap]
 obtain⟨w1,hw1⟩:∃w1,w1=w.setCell ⟨ab,4,none⟩ (.int .u64 (step:Nat)):=⟨_,rfl⟩
 have h1:ApAt w1 ab wb v first last n ⟨s.bits,step,s.win⟩:=by
  rw [hw1]
  refine⟨?_,⟨?_,?_⟩,h.ne,h.own⟩
  ·simp [World.setCell,Array.getElem?_modify,h.heap,apCells]
  ·have:=h.wr.1
   simp only [World.setCell,Array.getElem?_modify]
   rw [if_neg (fun e=>h.ne e.symm)]
   exact this
  ·exact Row8.other h.wr.2 h.own _
 have t1:Wrote (fun b=>b=wb∨b=ab) v v w w1:=by rw [hw1];exact (Wrote.refl _ _ _).setCell (.inl (.inr rfl)) _
 have hk0:w1.cell? ⟨ab,0,none⟩=some (.pointer (some ⟨wb,0,none⟩)):=cell_of_heap h1.heap
 have hk5:w1.cell? ⟨ab,5,none⟩=some (.int .i64 (n:Nat)):=cell_of_heap h1.heap
 have H1:=Lib.hid h1
 have T1:=Lib.hid t1
 have Hl:=Lib.hid hl
 have Hdef:Hid (∀d,d=dif step s.step→timeB s n step=if n=1 then vbits step else changeB d):=Lib.hid (fun d e=>by rw [e];rfl)
 generalize hdd:dif step s.step=d at *
 have Hd:=Lib.hid (Hdef.out d rfl)
 generalize timeB s n step=tb at *
 clear h h1 t1 hl Hdef hdd
 by_cases hn:n=1
 ·subst hn
  rw [if_pos rfl] at Hd
  have HV:=Lib.hid (varint_any (X:=fun b=>b=wb) wb v s.bits step w1 H1.out.wr Hl.out hst rfl)
  go_enter Tryz.func149,Tryz.ntmps149
  go_wp2_with (go_at_call 182;rw [← hw1];refine HV.out.mono ?_;clear HV;rintro e w2 ⟨rfl,v2,hw2,ht2⟩;have Ha2:=Lib.hid (H1.out.wrote hw2 ht2);have Ht2:=Lib.hid (T1.out.trans ht2.both);clear hw2 ht2)
  refine bodyPost_ret (results_none rfl _ _ _) rfl ?_
  exact⟨rfl,v2,by rw [Hd.out];exact Ha2.out,Ht2.out⟩
 ·rw [if_neg hn] at Hd
  by_cases hd0:d=0
  ·subst hd0
   have HV:=Lib.hid (bit_any (X:=fun b=>b=wb) wb v s.bits false w1 H1.out.wr (Nat.le_trans Hl.out (by decide)) rfl)
   have hb:tb=[false]:=by rw [Hd.out];rfl
   subst hb
   go_enter Tryz.func149,Tryz.ntmps149
   go_wp2_with (go_at_call 183;rw [← hw1];refine HV.out.mono ?_;clear HV;rintro e w2 ⟨rfl,v2,hw2,ht2⟩;have Ha2:=Lib.hid (H1.out.wrote hw2 ht2);have Ht2:=Lib.hid (T1.out.trans ht2.both);clear hw2 ht2)
   refine bodyPost_ret (results_none rfl _ _ _) rfl ?_
   exact⟨rfl,v2,Ha2.out,Ht2.out⟩
  ·have HBk:=Lib.hid (buckets_any w1)
   have hb9:bks.toArray=#[.int .u64 2,.int .i64 2,.int .i64 (-63),.int .i64 64,.int .i64 7,.int .u64 6,.int .i64 3,.int .i64 (-255),.int .i64 256,.int .i64 9,.int .u64 14,.int .i64 4,.int .i64 (-2047),.int .i64 2048,.int .i64 12]:=rfl
   rw [hb9] at HBk
   clear hb9
   go_enter Tryz.func149,Tryz.ntmps149
   go_wp2_with (go_at_call 184;rw [← hw1];refine HBk.out.mono ?_;clear HBk;rintro e w2 ⟨rfl,hb2⟩;have Ha2:=Lib.hid (H1.out.alloc (Olds.of_below hb2));have T2:=Lib.hid (T1.out.olds hb2);have hs2:=hb2.size;clear hb2)
   clear hc0 hc4 hc5 hf4 hk0 hk5 hw1
   go_loopw [6,39] (fun _ iv wr=>∃k:Nat,k≤3∧iv=.int .i64 k∧Below w2.heap.size w2 wr∧(1≤k→¬ (-63≤d∧d≤64))∧(2≤k→¬ (-255≤d∧d≤256))∧(3≤k→¬ (-2047≤d∧d≤2048))) (fun _ iv _=>3-(intOf iv).toNat)
   case atStart=>exact⟨0,by omega,rfl,Below.refl _ _,fun h=>by omega,fun h=>by omega,fun h=>by omega⟩
   case round =>
    obtain⟨k,hk,rfl,hb,hk1,hk2,hk3⟩:=hrel
    have Ha3:Hid (∀W,Olds wr W→ApAt W ab wb v first last n ⟨s.bits,step,s.win⟩):=Lib.hid (fun W hW=>(Ha2.out.alloc (Olds.of_below hb)).alloc hW)
    have T3:Hid (∀W,Below wr.heap.size wr W→Wrote (fun b=>b=wb∨b=ab) v v w W):=Lib.hid (fun W hW=>(T2.out.olds hb).olds hW)
    have Hb:=Lib.hid hb
    have hs3:=hb.size
    have hk0:wr.cell? ⟨ab,0,none⟩=some (.pointer (some ⟨wb,0,none⟩)):=cell_of_heap (Ha3.out wr (Olds.refl _)).heap
    clear hb
    have hcase:k=0∨k=1∨k=2∨k=3:=by omega
    rcases hcase with rfl | rfl | rfl | rfl
    ·have hix:∀W:World,(Instr.index 382 (.agg #[.int .u64 2,.int .i64 2,.int .i64 (-63),.int .i64 64,.int .i64 7,.int .u64 6,.int .i64 3,.int .i64 (-255),.int .i64 256,.int .i64 9,.int .u64 14,.int .i64 4,.int .i64 (-2047),.int .i64 2048,.int .i64 12]) (.int .i64 0)).run Tryz.prog W=.ok (.agg #[.int .u64 2,.int .i64 2,.int .i64 (-63),.int .i64 64,.int .i64 7]) W:=ix0
     by_cases hin:-63≤d∧d≤64
     ·obtain⟨hi1,hi2⟩:=hin
      obtain⟨y,hy⟩:∃y:Nat,(y:Int)=d-(-63):=⟨(d-(-63)).toNat,by omega⟩
      have hb:tb=bitsOf 2 2++bitsOf y 7:=by
       rw [Hd.out]
       unfold changeB
       rw [if_neg hd0,if_pos ⟨hi1,hi2⟩]
       congr 2
       omega
      have hy2:d+63=(y:Int):=by omega
      have hyu:IntKind.u64.wrap (y:Int)=(y:Int):=by rw [wrap_u64];omega
      have hyi:IntKind.i64.wrap (d-(-63))=(y:Int):=by rw [IntKind.wrap_i64];omega
      have hyl:y<1000000:=by omega
      clear hy
      obtain⟨W0,hW0⟩:∃W0,W0=wr.alloc (.cells #[.int .u64 2,.int .i64 2,.int .i64 (-63),.int .i64 64,.int .i64 7] 381):=⟨_,rfl⟩
      obtain⟨X1,hX1⟩:∃X1,X1=W0.drew:=⟨_,rfl⟩
      have q0:X1.cell? ⟨wr.heap.size,0,none⟩=some (.int .u64 2):=by rw [hX1,hW0];exact cell_new
      have q1:X1.cell? ⟨wr.heap.size,1,none⟩=some (.int .i64 2):=by rw [hX1,hW0];exact cell_new
      have q2:X1.cell? ⟨wr.heap.size,2,none⟩=some (.int .i64 (-63)):=by rw [hX1,hW0];exact cell_new
      have q4:X1.cell? ⟨wr.heap.size,4,none⟩=some (.int .i64 7):=by rw [hX1,hW0];exact cell_new
      have a0:ApAt X1 ab wb v first last n ⟨s.bits,step,s.win⟩:=Ha3.out _ (by rw [hX1,hW0];exact (Olds.alloc _ _).trans (Olds.drewN _ 1))
      have t0:Wrote (fun b=>b=wb∨b=ab) v v w X1:=T3.out _ (by rw [hX1,hW0];exact ((Below.refl _ _).alloc (Nat.le_refl _) _).trans ⟨rfl,rfl,rfl,Nat.le_refl _,fun _ _=>rfl⟩)
      have hw0:wr.heap.size<X1.heap.size:=by rw [hX1,hW0];exact Nat.lt_of_lt_of_le (Nat.lt_succ_self _) (Nat.le_of_eq (World.size_alloc _ _).symm)
      have own0:v.ownBlock≠some wr.heap.size:=fun e=>by have:=(Ha3.out wr (Olds.refl _)).wr.own _ e;omega
      have ne0:wr.heap.size≠wb:=fun e=>by have:=(Ha3.out wr (Olds.refl _)).wr.lt;omega
      have z0:X1.cell? ⟨ab,0,none⟩=some (.pointer (some ⟨wb,0,none⟩)):=cell_of_heap a0.heap
      have HB:=Lib.hid (bits_any (X:=fun b=>b=wb) wb v s.bits 2 2 X1 a0.wr (by have:=Hl.out;omega) (by decide) (by decide) rfl)
      have A0:=Lib.hid a0
      have T0:=Lib.hid t0
      have Q:=Lib.hid (And.intro hw0 (And.intro own0 ne0))
      clear a0 t0 own0 ne0
      go_wp2_with fail
      rw [← hW0]
      refine wp_region_still_tail 8 (by kernel_rfl) (by kernel_rfl) ?_
      simp only [List.take_succ_cons,List.take_zero,List.drop_succ_cons,List.drop_zero]
      change wpStill _ _ (World.drew _) (fun a'=>wpList _ _ _ _ a' (World.drew _)) _ _
      simp only [← hX1]
      clear hX1 hW0
      repeat still_step
      try refine wpStill_nil ?_
      go_wp2_with (go_at_call 148;refine HB.out.mono ?_;clear HB;rintro e w5 ⟨rfl,v5,hw5,ht5⟩;have A5:=Lib.hid (A0.out.wrote hw5 ht5);have T5:=Lib.hid (T0.out.trans ht5.both);have p2:=ht5.cell (b:=wr.heap.size) Q.out.1 Q.out.2.2 Q.out.2.1 q2;have p4:=ht5.cell (b:=wr.heap.size) Q.out.1 Q.out.2.2 Q.out.2.1 q4;clear hw5 ht5)
      obtain⟨X2,hX2⟩:∃X2,X2=w5.drew:=⟨_,rfl⟩
      have A6:Hid (ApAt X2 ab wb v5 first last n ⟨s.bits++bitsOf 2 2,step,s.win⟩):=Lib.hid (A5.out.alloc (by rw [hX2];exact Olds.drewN w5 1))
      have T6:Hid (Wrote (fun b=>b=wb∨b=ab) v v5 w X2):=Lib.hid (by rw [hX2];exact T5.out.drewN 1)
      have r2:X2.cell? ⟨wr.heap.size,2,none⟩=some (.int .i64 (-63)):=by rw [hX2];exact p2
      have r4:X2.cell? ⟨wr.heap.size,4,none⟩=some (.int .i64 7):=by rw [hX2];exact p4
      have z6:X2.cell? ⟨ab,0,none⟩=some (.pointer (some ⟨wb,0,none⟩)):=cell_of_heap A6.out.heap
      have HB2:=Lib.hid (bits_any (X:=fun b=>b=wb) wb v5 (s.bits++bitsOf 2 2) y 7 X2 A6.out.wr (by rw [List.length_append,bits_len];have:=Hl.out;omega) (by decide) (by omega) rfl)
      refine wp_region_still_tail 11 (by kernel_rfl) (by kernel_rfl) ?_
      simp only [List.take_succ_cons,List.take_zero,List.drop_succ_cons,List.drop_zero]
      change wpStill _ _ (World.drew _) (fun a'=>wpList _ _ _ _ a' (World.drew _)) _ _
      simp only [← hX2]
      clear hX2
      repeat still_step
      try refine wpStill_nil ?_
      go_wp2_with (go_at_call 148;refine HB2.out.mono ?_;clear HB2;rintro e w7 ⟨rfl,v7,hw7,ht7⟩;have A7:=Lib.hid (A6.out.wrote hw7 ht7);have T7:=Lib.hid (T6.out.trans ht7.both);clear hw7 ht7)
      refine bodyPost_ret (results_none rfl _ _ _) rfl ?_
      refine⟨rfl,v7,?_,T7.out⟩
      have h9:=A7.out
      rw [List.append_assoc,← hb] at h9
      exact h9
     ·have Hin:=Lib.hid hin
      have hcase:¬ -63≤d∨(-63≤d∧¬ d≤64):=by omega
      have hB4:Hid (Below w2.heap.size w2 (wr.alloc (.cells #[.int .u64 2,.int .i64 2,.int .i64 (-63),.int .i64 64,.int .i64 7] 381))):=Lib.hid (Hb.out.alloc hs3 _)
      clear hin
      rcases hcase with h|⟨h,h'⟩
      all_goals
       go_wp2_with fail
       go_roundw
       case rel=>exact⟨1,by omega,by go_num,hB4.out,fun _=>Hin.out,fun h=>by omega,fun h=>by omega⟩
       case measure=>simp [intOf]
    ·have hix:∀W:World,(Instr.index 382 (.agg #[.int .u64 2,.int .i64 2,.int .i64 (-63),.int .i64 64,.int .i64 7,.int .u64 6,.int .i64 3,.int .i64 (-255),.int .i64 256,.int .i64 9,.int .u64 14,.int .i64 4,.int .i64 (-2047),.int .i64 2048,.int .i64 12]) (.int .i64 1)).run Tryz.prog W=.ok (.agg #[.int .u64 6,.int .i64 3,.int .i64 (-255),.int .i64 256,.int .i64 9]) W:=ix1
     by_cases hin:-255≤d∧d≤256
     ·obtain⟨hi1,hi2⟩:=hin
      obtain⟨y,hy⟩:∃y:Nat,(y:Int)=d-(-255):=⟨(d-(-255)).toNat,by omega⟩
      have hb:tb=bitsOf 6 3++bitsOf y 9:=by
       rw [Hd.out]
       unfold changeB
       rw [if_neg hd0,if_neg (hk1 (by omega)),if_pos ⟨hi1,hi2⟩]
       congr 2
       omega
      have hy2:d+255=(y:Int):=by omega
      have hyu:IntKind.u64.wrap (y:Int)=(y:Int):=by rw [wrap_u64];omega
      have hyi:IntKind.i64.wrap (d-(-255))=(y:Int):=by rw [IntKind.wrap_i64];omega
      have hyl:y<1000000:=by omega
      clear hy
      obtain⟨W0,hW0⟩:∃W0,W0=wr.alloc (.cells #[.int .u64 6,.int .i64 3,.int .i64 (-255),.int .i64 256,.int .i64 9] 381):=⟨_,rfl⟩
      obtain⟨X1,hX1⟩:∃X1,X1=W0.drew:=⟨_,rfl⟩
      have q0:X1.cell? ⟨wr.heap.size,0,none⟩=some (.int .u64 6):=by rw [hX1,hW0];exact cell_new
      have q1:X1.cell? ⟨wr.heap.size,1,none⟩=some (.int .i64 3):=by rw [hX1,hW0];exact cell_new
      have q2:X1.cell? ⟨wr.heap.size,2,none⟩=some (.int .i64 (-255)):=by rw [hX1,hW0];exact cell_new
      have q4:X1.cell? ⟨wr.heap.size,4,none⟩=some (.int .i64 9):=by rw [hX1,hW0];exact cell_new
      have a0:ApAt X1 ab wb v first last n ⟨s.bits,step,s.win⟩:=Ha3.out _ (by rw [hX1,hW0];exact (Olds.alloc _ _).trans (Olds.drewN _ 1))
      have t0:Wrote (fun b=>b=wb∨b=ab) v v w X1:=T3.out _ (by rw [hX1,hW0];exact ((Below.refl _ _).alloc (Nat.le_refl _) _).trans ⟨rfl,rfl,rfl,Nat.le_refl _,fun _ _=>rfl⟩)
      have hw0:wr.heap.size<X1.heap.size:=by rw [hX1,hW0];exact Nat.lt_of_lt_of_le (Nat.lt_succ_self _) (Nat.le_of_eq (World.size_alloc _ _).symm)
      have own0:v.ownBlock≠some wr.heap.size:=fun e=>by have:=(Ha3.out wr (Olds.refl _)).wr.own _ e;omega
      have ne0:wr.heap.size≠wb:=fun e=>by have:=(Ha3.out wr (Olds.refl _)).wr.lt;omega
      have z0:X1.cell? ⟨ab,0,none⟩=some (.pointer (some ⟨wb,0,none⟩)):=cell_of_heap a0.heap
      have HB:=Lib.hid (bits_any (X:=fun b=>b=wb) wb v s.bits 6 3 X1 a0.wr (by have:=Hl.out;omega) (by decide) (by decide) rfl)
      have A0:=Lib.hid a0
      have T0:=Lib.hid t0
      have Q:=Lib.hid (And.intro hw0 (And.intro own0 ne0))
      clear a0 t0 own0 ne0
      go_wp2_with fail
      rw [← hW0]
      refine wp_region_still_tail 8 (by kernel_rfl) (by kernel_rfl) ?_
      simp only [List.take_succ_cons,List.take_zero,List.drop_succ_cons,List.drop_zero]
      change wpStill _ _ (World.drew _) (fun a'=>wpList _ _ _ _ a' (World.drew _)) _ _
      simp only [← hX1]
      clear hX1 hW0
      repeat still_step
      try refine wpStill_nil ?_
      go_wp2_with (go_at_call 148;refine HB.out.mono ?_;clear HB;rintro e w5 ⟨rfl,v5,hw5,ht5⟩;have A5:=Lib.hid (A0.out.wrote hw5 ht5);have T5:=Lib.hid (T0.out.trans ht5.both);have p2:=ht5.cell (b:=wr.heap.size) Q.out.1 Q.out.2.2 Q.out.2.1 q2;have p4:=ht5.cell (b:=wr.heap.size) Q.out.1 Q.out.2.2 Q.out.2.1 q4;clear hw5 ht5)
      obtain⟨X2,hX2⟩:∃X2,X2=w5.drew:=⟨_,rfl⟩
      have A6:Hid (ApAt X2 ab wb v5 first last n ⟨s.bits++bitsOf 6 3,step,s.win⟩):=Lib.hid (A5.out.alloc (by rw [hX2];exact Olds.drewN w5 1))
      have T6:Hid (Wrote (fun b=>b=wb∨b=ab) v v5 w X2):=Lib.hid (by rw [hX2];exact T5.out.drewN 1)
      have r2:X2.cell? ⟨wr.heap.size,2,none⟩=some (.int .i64 (-255)):=by rw [hX2];exact p2
      have r4:X2.cell? ⟨wr.heap.size,4,none⟩=some (.int .i64 9):=by rw [hX2];exact p4
      have z6:X2.cell? ⟨ab,0,none⟩=some (.pointer (some ⟨wb,0,none⟩)):=cell_of_heap A6.out.heap
      have HB2:=Lib.hid (bits_any (X:=fun b=>b=wb) wb v5 (s.bits++bitsOf 6 3) y 9 X2 A6.out.wr (by rw [List.length_append,bits_len];have:=Hl.out;omega) (by decide) (by omega) rfl)
      refine wp_region_still_tail 11 (by kernel_rfl) (by kernel_rfl) ?_
      simp only [List.take_succ_cons,List.take_zero,List.drop_succ_cons,List.drop_zero]
      change wpStill _ _ (World.drew _) (fun a'=>wpList _ _ _ _ a' (World.drew _)) _ _
      simp only [← hX2]
      clear hX2
      repeat still_step
      try refine wpStill_nil ?_
      go_wp2_with (go_at_call 148;refine HB2.out.mono ?_;clear HB2;rintro e w7 ⟨rfl,v7,hw7,ht7⟩;have A7:=Lib.hid (A6.out.wrote hw7 ht7);have T7:=Lib.hid (T6.out.trans ht7.both);clear hw7 ht7)
      refine bodyPost_ret (results_none rfl _ _ _) rfl ?_
      refine⟨rfl,v7,?_,T7.out⟩
      have h9:=A7.out
      rw [List.append_assoc,← hb] at h9
      exact h9
     ·have Hin:=Lib.hid hin
      have hcase:¬ -255≤d∨(-255≤d∧¬ d≤256):=by omega
      have hB4:Hid (Below w2.heap.size w2 (wr.alloc (.cells #[.int .u64 6,.int .i64 3,.int .i64 (-255),.int .i64 256,.int .i64 9] 381))):=Lib.hid (Hb.out.alloc hs3 _)
      clear hin
      rcases hcase with h|⟨h,h'⟩
      all_goals
       go_wp2_with fail
       go_roundw
       case rel=>exact⟨2,by omega,by go_num,hB4.out,fun _=>hk1 (by omega),fun _=>Hin.out,fun h=>by omega⟩
       case measure=>simp [intOf]
    ·have hix:∀W:World,(Instr.index 382 (.agg #[.int .u64 2,.int .i64 2,.int .i64 (-63),.int .i64 64,.int .i64 7,.int .u64 6,.int .i64 3,.int .i64 (-255),.int .i64 256,.int .i64 9,.int .u64 14,.int .i64 4,.int .i64 (-2047),.int .i64 2048,.int .i64 12]) (.int .i64 2)).run Tryz.prog W=.ok (.agg #[.int .u64 14,.int .i64 4,.int .i64 (-2047),.int .i64 2048,.int .i64 12]) W:=ix2
     by_cases hin:-2047≤d∧d≤2048
     ·obtain⟨hi1,hi2⟩:=hin
      obtain⟨y,hy⟩:∃y:Nat,(y:Int)=d-(-2047):=⟨(d-(-2047)).toNat,by omega⟩
      have hb:tb=bitsOf 14 4++bitsOf y 12:=by
       rw [Hd.out]
       unfold changeB
       rw [if_neg hd0,if_neg (hk1 (by omega)),if_neg (hk2 (by omega)),if_pos ⟨hi1,hi2⟩]
       congr 2
       omega
      have hy2:d+2047=(y:Int):=by omega
      have hyu:IntKind.u64.wrap (y:Int)=(y:Int):=by rw [wrap_u64];omega
      have hyi:IntKind.i64.wrap (d-(-2047))=(y:Int):=by rw [IntKind.wrap_i64];omega
      have hyl:y<1000000:=by omega
      clear hy
      obtain⟨W0,hW0⟩:∃W0,W0=wr.alloc (.cells #[.int .u64 14,.int .i64 4,.int .i64 (-2047),.int .i64 2048,.int .i64 12] 381):=⟨_,rfl⟩
      obtain⟨X1,hX1⟩:∃X1,X1=W0.drew:=⟨_,rfl⟩
      have q0:X1.cell? ⟨wr.heap.size,0,none⟩=some (.int .u64 14):=by rw [hX1,hW0];exact cell_new
      have q1:X1.cell? ⟨wr.heap.size,1,none⟩=some (.int .i64 4):=by rw [hX1,hW0];exact cell_new
      have q2:X1.cell? ⟨wr.heap.size,2,none⟩=some (.int .i64 (-2047)):=by rw [hX1,hW0];exact cell_new
      have q4:X1.cell? ⟨wr.heap.size,4,none⟩=some (.int .i64 12):=by rw [hX1,hW0];exact cell_new
      have a0:ApAt X1 ab wb v first last n ⟨s.bits,step,s.win⟩:=Ha3.out _ (by rw [hX1,hW0];exact (Olds.alloc _ _).trans (Olds.drewN _ 1))
      have t0:Wrote (fun b=>b=wb∨b=ab) v v w X1:=T3.out _ (by rw [hX1,hW0];exact ((Below.refl _ _).alloc (Nat.le_refl _) _).trans ⟨rfl,rfl,rfl,Nat.le_refl _,fun _ _=>rfl⟩)
      have hw0:wr.heap.size<X1.heap.size:=by rw [hX1,hW0];exact Nat.lt_of_lt_of_le (Nat.lt_succ_self _) (Nat.le_of_eq (World.size_alloc _ _).symm)
      have own0:v.ownBlock≠some wr.heap.size:=fun e=>by have:=(Ha3.out wr (Olds.refl _)).wr.own _ e;omega
      have ne0:wr.heap.size≠wb:=fun e=>by have:=(Ha3.out wr (Olds.refl _)).wr.lt;omega
      have z0:X1.cell? ⟨ab,0,none⟩=some (.pointer (some ⟨wb,0,none⟩)):=cell_of_heap a0.heap
      have HB:=Lib.hid (bits_any (X:=fun b=>b=wb) wb v s.bits 14 4 X1 a0.wr (by have:=Hl.out;omega) (by decide) (by decide) rfl)
      have A0:=Lib.hid a0
      have T0:=Lib.hid t0
      have Q:=Lib.hid (And.intro hw0 (And.intro own0 ne0))
      clear a0 t0 own0 ne0
      go_wp2_with fail
      rw [← hW0]
      refine wp_region_still_tail 8 (by kernel_rfl) (by kernel_rfl) ?_
      simp only [List.take_succ_cons,List.take_zero,List.drop_succ_cons,List.drop_zero]
      change wpStill _ _ (World.drew _) (fun a'=>wpList _ _ _ _ a' (World.drew _)) _ _
      simp only [← hX1]
      clear hX1 hW0
      repeat still_step
      try refine wpStill_nil ?_
      go_wp2_with (go_at_call 148;refine HB.out.mono ?_;clear HB;rintro e w5 ⟨rfl,v5,hw5,ht5⟩;have A5:=Lib.hid (A0.out.wrote hw5 ht5);have T5:=Lib.hid (T0.out.trans ht5.both);have p2:=ht5.cell (b:=wr.heap.size) Q.out.1 Q.out.2.2 Q.out.2.1 q2;have p4:=ht5.cell (b:=wr.heap.size) Q.out.1 Q.out.2.2 Q.out.2.1 q4;clear hw5 ht5)
      obtain⟨X2,hX2⟩:∃X2,X2=w5.drew:=⟨_,rfl⟩
      have A6:Hid (ApAt X2 ab wb v5 first last n ⟨s.bits++bitsOf 14 4,step,s.win⟩):=Lib.hid (A5.out.alloc (by rw [hX2];exact Olds.drewN w5 1))
      have T6:Hid (Wrote (fun b=>b=wb∨b=ab) v v5 w X2):=Lib.hid (by rw [hX2];exact T5.out.drewN 1)
      have r2:X2.cell? ⟨wr.heap.size,2,none⟩=some (.int .i64 (-2047)):=by rw [hX2];exact p2
      have r4:X2.cell? ⟨wr.heap.size,4,none⟩=some (.int .i64 12):=by rw [hX2];exact p4
      have z6:X2.cell? ⟨ab,0,none⟩=some (.pointer (some ⟨wb,0,none⟩)):=cell_of_heap A6.out.heap
      have HB2:=Lib.hid (bits_any (X:=fun b=>b=wb) wb v5 (s.bits++bitsOf 14 4) y 12 X2 A6.out.wr (by rw [List.length_append,bits_len];have:=Hl.out;omega) (by decide) (by omega) rfl)
      refine wp_region_still_tail 11 (by kernel_rfl) (by kernel_rfl) ?_
      simp only [List.take_succ_cons,List.take_zero,List.drop_succ_cons,List.drop_zero]
      change wpStill _ _ (World.drew _) (fun a'=>wpList _ _ _ _ a' (World.drew _)) _ _
      simp only [← hX2]
      clear hX2
      repeat still_step
      try refine wpStill_nil ?_
      go_wp2_with (go_at_call 148;refine HB2.out.mono ?_;clear HB2;rintro e w7 ⟨rfl,v7,hw7,ht7⟩;have A7:=Lib.hid (A6.out.wrote hw7 ht7);have T7:=Lib.hid (T6.out.trans ht7.both);clear hw7 ht7)
      refine bodyPost_ret (results_none rfl _ _ _) rfl ?_
      refine⟨rfl,v7,?_,T7.out⟩
      have h9:=A7.out
      rw [List.append_assoc,← hb] at h9
      exact h9
     ·have Hin:=Lib.hid hin
      have hcase:¬ -2047≤d∨(-2047≤d∧¬ d≤2048):=by omega
      have hB4:Hid (Below w2.heap.size w2 (wr.alloc (.cells #[.int .u64 14,.int .i64 4,.int .i64 (-2047),.int .i64 2048,.int .i64 12] 381))):=Lib.hid (Hb.out.alloc hs3 _)
      clear hin
      rcases hcase with h|⟨h,h'⟩
      all_goals
       go_wp2_with fail
       go_roundw
       case rel=>exact⟨3,by omega,by go_num,hB4.out,fun _=>hk1 (by omega),fun _=>hk2 (by omega),fun _=>Hin.out⟩
       case measure=>simp [intOf]
    ·obtain⟨y,hy⟩:∃y:Nat,(y:Int)=d % 18446744073709551616:=⟨(d % 18446744073709551616).toNat,by omega⟩
     have hb:tb=bitsOf 15 4++bitsOf y 64:=by
      rw [Hd.out]
      unfold changeB
      rw [if_neg hd0,if_neg (hk1 (by omega)),if_neg (hk2 (by omega)),if_neg (hk3 (by omega))]
      congr 2
      omega
     have hyu:IntKind.u64.wrap d=(y:Int):=by rw [wrap_u64];omega
     have hyl:y<18446744073709551616:=by omega
     clear hy
     have a0:=Ha3.out wr (Olds.refl _)
     have t0:=T3.out wr (Below.refl _ _)
     have HB:=Lib.hid (bits_any (X:=fun b=>b=wb) wb v s.bits 15 4 wr a0.wr (by have:=Hl.out;omega) (by decide) (by decide) rfl)
     have A0:=Lib.hid a0
     have T0:=Lib.hid t0
     clear a0 t0
     go_wp2_with (first
      | (go_at_call 148;refine HB.out.mono ?_;clear HB;rintro e w5 ⟨rfl,v5,hw5,ht5⟩;have A5:=Lib.hid (A0.out.wrote hw5 ht5);have T5:=Lib.hid (T0.out.trans ht5.both);have z5:w5.cell? ⟨ab,0,none⟩=some (.pointer (some ⟨wb,0,none⟩)):=(cell_of_heap A5.out.heap);have HB2:=Lib.hid (bits_any (X:=fun b=>b=wb) wb v5 (s.bits++bitsOf 15 4) y 64 w5 hw5 (by rw [List.length_append,bits_len];have:=Hl.out;omega) (by decide) (by omega) rfl);clear hw5 ht5)
      | (go_at_call 148;refine HB2.out.mono ?_;clear HB2;rintro e w7 ⟨rfl,v7,hw7,ht7⟩;have A7:=Lib.hid (A5.out.wrote hw7 ht7);have T7:=Lib.hid (T5.out.trans ht7.both);clear hw7 ht7))
     go_end0
     refine⟨rfl,v7,?_,T7.out⟩
     have h9:=A7.out
     rw [List.append_assoc,← hb] at h9
     exact h9
end Go.Proofs.YtbecggfbblnglaaGreatDoor
