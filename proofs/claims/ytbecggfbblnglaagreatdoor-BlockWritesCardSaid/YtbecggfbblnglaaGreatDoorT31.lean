/- Contracts over this program. Their conditions: the slices read as the lists that are named, and lie within the sizes that are named. -/
import Derived.Test.YtbecggfbblnglaaGreatDoorT30
import Derived.Test.YtbecggfbblnglaaGreatDoorT28
import Derived.Test.YtbecggfbblnglaaGreatDoorT27
import Derived.Test.YtbecggfbblnglaaGreatDoorP1
import Derived.Test.YtbecggfbblnglaaGreatDoorT25
import Derived.Deep.RegionHeldLaw
set_option linter.unusedSimpArgs false
set_option linter.unusedVariables false
set_option linter.deprecated false
set_option linter.unnecessarySimpa false
namespace Go.Proofs.YtbecggfbblnglaaGreatDoor
open Go Go.RowKit Go.Ix Go.Gor
def BlkEnd (id:Nat) (level:Int) (l:List Ser) (w:World) (e:Ending) (w':World):Prop :=
 ((¬ BlkOk level l∧e=.returned (.tuple #[.slice none 0 0,.int .u16 150]))∨(BlkOk level l∧∃v,e=.returned (.tuple #[v,.int .u16 0])∧Row8 w' w.heap.size v (blkB crc id level.toNat l)))∧Below w.heap.size w w'
set_option maxRecDepth 20000 in
set_option maxHeartbeats 2000000 in
theorem bwrite_any (hH:HalfOk) (o:Option Addr) (n c id:Nat) (level:Int) (l:List Ser) (w:World) (hl:l.length=n) (hn:n≤60) (hid:id<4294967296) (hlev:-9223372036854775808≤level∧level≤9223372036854775807) (hS:SizeS l) (h:RowsR w o l) (hT:TabG w) (hE:ErrG w) (hw:11≤w.heap.size) :
  Calls Tryz.prog 6 #[.int .u32 (id:Nat),.int .i64 level,.slice o n c] w (BlkEnd id level l w):=by
 have hW:=written_any hH o n c id level l w hl hn hid hlev hS h hT hw
 unfold WritEnd at hW
 unfold BlkEnd
 have HE:=Lib.hid hE
 clear hE h hT hS hH hl
 by_cases hok:BlkOk level l
 ·have HW:Hid (Calls Tryz.prog 17 #[.int .u32 (id:Nat),.int .i64 level,.slice o n c] w fun e w'=>(∃v,e=.returned (.tuple #[v,.nilIface])∧Row8 w' w.heap.size v (blkB crc id level.toNat l))∧Below w.heap.size w w'):=Lib.hid (hW.mono fun e w' h9=>⟨by
   rcases h9.1 with ⟨h8,_⟩|⟨_,h8⟩
   ·exact absurd hok h8
   ·exact h8,h9.2⟩)
  have Hok:=Lib.hid hok
  clear hW hok
  go_enter Tryz.func6,Tryz.ntmps6
  go_wp2_with (go_at_call 17;refine HW.out.mono ?_;clear HW;rintro e w2 ⟨⟨v,rfl,hv⟩,hb2⟩;have Hv:=Lib.hid hv;have B2:=Lib.hid hb2;clear hv hb2)
  go_ret2
  exact⟨.inr ⟨Hok.out,v,rfl,Hv.out⟩,B2.out⟩
 ·have HW:Hid (Calls Tryz.prog 17 #[.int .u32 (id:Nat),.int .i64 level,.slice o n c] w fun e w'=>(∃f,e=.returned (.tuple #[.slice none 0 0,f])∧FaultAt w' f)∧Below w.heap.size w w'):=Lib.hid (hW.mono fun e w' h9=>⟨by
   rcases h9.1 with ⟨_,h8⟩|⟨h8,_⟩
   ·exact h8
   ·exact absurd h8 hok,h9.2⟩)
  have Hok:=Lib.hid hok
  clear hW hok
  go_enter Tryz.func6,Tryz.ntmps6
  go_wp2_with (first
   | (go_at_call 17;refine HW.out.mono ?_;clear HW;rintro e w2 ⟨⟨f,rfl,pb,k,s,rfl,hk,hf⟩,hb2⟩;have HTl:=Lib.hid (told_any pb k _ w2 hk ((Olds.of_below hb2).cell HE.out) hf rfl);have B2:=Lib.hid hb2;have hs2:=hb2.size;clear hf hb2)
   | (go_at_call 18;refine HTl.out.mono ?_;clear HTl;rintro e w3 ⟨rfl,hb3⟩;have B3:=Lib.hid hb3;clear hb3))
  go_ret2
  exact⟨.inl ⟨Hok.out,rfl⟩,B2.out.trans (B3.out.mono hs2)⟩
end Go.Proofs.YtbecggfbblnglaaGreatDoor
namespace Go.Proofs.YtbecggfbblnglaaGreatDoor
open Go Go.RowKit Go.Ix Go.Gor
def BkRow (w:World) (d o2:Nat) (x:Bk):Prop :=
 w.cell? ⟨d,o2,none⟩=some (.int .i64 (x.1:Nat))∧w.cell? ⟨d,o2+1,none⟩=some (.int .i64 (x.2.1:Nat))∧w.cell? ⟨d,o2+2,none⟩=some (.int .i64 x.2.2.1)∧w.cell? ⟨d,o2+3,none⟩=some (.int .i64 x.2.2.2.1)∧w.cell? ⟨d,o2+4,none⟩=some (.int .i64 (x.2.2.2.2:Nat))
theorem cell_below {B b i:Nat}{w W:World}{u:Value}(hb:Below B w W) (hlt:b<B) (h:w.cell? ⟨b,i,none⟩=some u):W.cell? ⟨b,i,none⟩=some u:=by
 rw [← h]
 exact World.cell?_of_block (hb.block b hlt)
theorem BkRow.below {B d o2:Nat}{w W:World}{x:Bk}(h:BkRow w d o2 x) (hb:Below B w W) (hlt:d<B):BkRow W d o2 x :=
 ⟨cell_below hb hlt h.1,cell_below hb hlt h.2.1,cell_below hb hlt h.2.2.1,cell_below hb hlt h.2.2.2.1,cell_below hb hlt h.2.2.2.2⟩
def BkG (w:World) (B:Nat):Prop:=∃b off c,1<B∧b<B∧w.cell? ⟨1,0,none⟩=some (.slice (some ⟨b,off,none⟩) 3 c)∧∀(k:Nat) (x:Bk),rowsB[k]?=some x→∃d o2 e,d<B∧w.cell? ⟨b,off+k,none⟩=some (.slice (some ⟨d,o2,none⟩) 5 e)∧BkRow w d o2 x
theorem BkG.below {B:Nat}{w W:World}(h:BkG w B) (hb:Below B w W):BkG W B:=by
 obtain⟨b,off,c,h0,hb0,h1,h2⟩:=h
 refine⟨b,off,c,h0,hb0,cell_below hb h0 h1,fun k x hx=>?_⟩
 obtain⟨d,o2,e,hd,k1,k2⟩:=h2 k x hx
 exact⟨d,o2,e,hd,cell_below hb hb0 k1,k2.below hb hd⟩
theorem Wrote.low {v v':Value}{w w':World}{rb B:Nat}{l:List Bool}(h:Wrote (fun b=>b=rb) v v' w w') (hr:RbAt w rb v l) (hB:B≤rb):Below B w w' :=
 h.below (fun b hb=>by omega) (fun g hg=>by have:=(hr.own g hg).1;omega) (by have:=hr.lt;omega)
def stepB (l:List Smp) (i:Nat):List Bool :=
 if i=1 then vbits (sub64 (l.getD 1 (0,0)).1 (l.getD 0 (0,0)).1) else changeB (dif (sub64 (l.getD i (0,0)).1 (l.getD (i-1) (0,0)).1) (sub64 (l.getD (i-1) (0,0)).1 (l.getD (i-2) (0,0)).1))
set_option maxRecDepth 20000 in
set_option maxHeartbeats 4000000 in
theorem rtime_any (rb B:Nat) (v:Value) (bits:List Bool) (o:Option Addr) (n c i:Nat) (l:List Smp) (w:World) (h:RbAt w rb v bits) (hB:B≤rb) (HG:BkG w B) (hR:RowsM w o l) (hl:l.length=n) (hn:n≤1000000) (hbl:bits.length≤900000) (hi1:1≤i) (hi:i<n) :
  Calls Tryz.prog 113 #[.pointer (some ⟨rb,0,none⟩),.slice o n c,.int .i64 (i:Nat)] w fun e w'=>e=.returned (.tuple #[])∧∃v',RbAt w' rb v' (bits++stepB l i)∧Wrote (fun b=>b=rb) v v' w w':=by
 obtain⟨k,rfl⟩:∃k,i=k+1:=⟨i-1,by omega⟩
 obtain⟨b,off,x1,x2,rfl,hx,ax1,ax2⟩:=hR.at (k:=k) (by omega)
 obtain⟨y1,y2,hy,ay1,ay2⟩:=hR.next (k:=k+1) (by omega)
 obtain⟨i,hik⟩:∃i,i=k+1:=⟨_,rfl⟩
 rw [← hik] at hy ay1 ay2 hi ⊢
 have hii:(i:Int)-1=(k:Int):=by omega
 obtain⟨a,ha⟩:∃a:Nat,(a:Int)=y1 % 18446744073709551616:=⟨(y1 % 18446744073709551616).toNat,by omega⟩
 obtain⟨e,he⟩:∃e:Nat,(e:Int)=x1 % 18446744073709551616:=⟨(x1 % 18446744073709551616).toNat,by omega⟩
 have hst:=sub64_lt y1 x1
 have hu1:IntKind.u64.wrap y1=(a:Int):=by rw [wrap_u64];omega
 have hu2:IntKind.u64.wrap x1=(e:Int):=by rw [wrap_u64];omega
 have hu3:IntKind.u64.wrap ((a:Int)-(e:Int))=((sub64 y1 x1:Nat):Int):=by rw [wrap_u64];unfold sub64;omega
 have ey:=getD_at hy
 have ex:=getD_at hx
 have Hx:=Lib.hid hx
 have H:=Lib.hid h
 by_cases hk0:k=0
 ·subst hk0
  obtain rfl:i=1:=by omega
  have hS:Hid (stepB l 1=vbits (sub64 y1 x1)):=Lib.hid (by unfold stepB;rw [if_pos rfl,ey,ex])
  have HV:=Lib.hid (rvarint_any (X:=fun b=>b=rb) rb v bits (sub64 y1 x1) w.drew (h.olds (Olds.drewN w 1)) hbl hst rfl)
  generalize sub64 y1 x1=st at *
  have ax:w.cell? ⟨b,off,none⟩=some (.int .i64 x1):=by simpa using ax1
  have ay:w.cell? ⟨b,off+2,none⟩=some (.int .i64 y1):=by simpa using ay1
  have h1n:(1:Int)<(n:Int):=by omega
  have h0n:(0:Int)<(n:Int):=by omega
  clear h hR HG ha he ey ex hx hy hik ax1 ay1 ax2 ay2
  go_enter Tryz.func113,Tryz.ntmps113
  go_wp2_with fail
  go_region
  go_wp2_with (go_at_call 159;refine HV.out.mono ?_;clear HV;rintro e w2 ⟨rfl,v2,hw2,ht2⟩;have Hw2:=Lib.hid hw2;have Ht2:=Lib.hid (((Wrote.refl (fun b=>b=rb) v w).drewN 1).trans ht2);clear hw2 ht2)
  refine bodyPost_ret (results_none rfl _ _ _) rfl ?_
  exact⟨rfl,v2,by rw [hS.out];exact Hw2.out,Ht2.out⟩
 ·obtain⟨j,hjk⟩:∃j,k=j+1:=⟨k-1,by omega⟩
  obtain⟨z1,z2,hz,az1,az2⟩:=hR.next (k:=j) (by omega)
  have hij:(i:Int)-2=(j:Int):=by omega
  have ez:=getD_at hz
  obtain⟨f,hf⟩:∃f:Nat,(f:Int)=z1 % 18446744073709551616:=⟨(z1 % 18446744073709551616).toNat,by omega⟩
  have hu4:IntKind.u64.wrap z1=(f:Int):=by rw [wrap_u64];omega
  have hu5:IntKind.u64.wrap ((e:Int)-(f:Int))=((sub64 x1 z1:Nat):Int):=by rw [wrap_u64];unfold sub64;omega
  have hpv:=sub64_lt x1 z1
  have hS:Hid (stepB l i=changeB (dif (sub64 y1 x1) (sub64 x1 z1))):=Lib.hid (by
   unfold stepB
   rw [if_neg (by omega),show i-1=k by omega,show i-2=j by omega,ey,ex,ez])
  generalize sub64 y1 x1=st at *
  generalize sub64 x1 z1=pv at *
  obtain⟨g,hg⟩:∃g:Nat,(g:Int)=((st:Int)-(pv:Int)) % 18446744073709551616:=⟨(((st:Int)-(pv:Int)) % 18446744073709551616).toNat,by omega⟩
  have hu6:IntKind.u64.wrap ((st:Int)-(pv:Int))=(g:Int):=by rw [wrap_u64];omega
  have hd:=dif_wrap hst hpv
  rw [hu6] at hd
  have hdr:=dif_range st pv
  generalize dif st pv=d at *
  have hi1:¬ i=1:=by omega
  have hki:k<n:=by omega
  have hji:j<n:=by omega
  clear hR ha he hf hg ey ex ez hx hy hz hik hjk
  by_cases hd0:d=0
  ·subst hd0
   have HV:=Lib.hid (rbit_any (X:=fun b=>b=rb) rb v bits false w.drew.drew (h.olds ((Olds.drewN w 1).trans (Olds.drewN _ 1))) (by omega) rfl)
   have hb:Hid (stepB l i=[false]):=Lib.hid (by rw [hS.out];rfl)
   clear h HG
   go_enter Tryz.func113,Tryz.ntmps113
   go_wp2_with fail
   go_region
   go_wp2_with fail
   go_region
   go_wp2_with (go_at_call 114;refine HV.out.mono ?_;clear HV;rintro e w2 ⟨rfl,v2,hw2,ht2⟩;have Hw2:=Lib.hid hw2;have Ht2:=Lib.hid ((((Wrote.refl (fun b=>b=rb) v w).drewN 1).drewN 1).trans ht2);clear hw2 ht2)
   refine bodyPost_ret (results_none rfl _ _ _) rfl ?_
   exact⟨rfl,v2,by rw [hb.out];exact Hw2.out,Ht2.out⟩
  ·have HS2:Hid (stepB l i=chFrom d rowsB):=Lib.hid (by rw [hS.out,change_from hd0])
   obtain⟨W0,hW0⟩:∃W0,W0=w.drew.drew:=⟨_,rfl⟩
   have H0:Hid (RbAt W0 rb v bits):=Lib.hid (by rw [hW0];exact h.olds ((Olds.drewN w 1).trans (Olds.drewN _ 1)))
   have T0:Hid (Wrote (fun b=>b=rb) v v w W0):=Lib.hid (by rw [hW0];exact ((Wrote.refl _ _ _).drewN 1).drewN 1)
   have HG0:Hid (BkG W0 B):=Lib.hid (HG.below (T0.out.low h hB))
   have HW0:=Lib.hid hW0
   clear h HG hW0
   go_enter Tryz.func113,Tryz.ntmps113
   go_wp2_with fail
   go_region
   go_wp2_with fail
   go_region
   go_wp2_with fail
   rw [← HW0.out]
   clear ax1 ax2 ay1 ay2 az1 az2 hu1 hu2 hu3 hu4 hu5 hu6 hd hii hij
   go_loopw [8] (fun iv wr=>∃q:Nat,q≤3∧iv=.int .i64 (q:Nat)∧chFrom d (rowsB.drop q)=stepB l i∧wr=W0) (fun iv _=>3-(intOf iv).toNat)
   case atStart=>exact⟨0,by omega,rfl,HS2.out.symm,rfl⟩
   case round =>
    obtain⟨q,hq,rfl,hch,rfl⟩:=hrel
    obtain⟨gb,goff,gc,hB1,hgb,g1,grow⟩:=HG0.out
    have Hch:=Lib.hid hch
    clear hch
    by_cases hq3:q<3
    ·obtain⟨⟨bg,lg,le,mo,mn⟩,hr⟩:=rows_three hq3
     obtain⟨dd,o2,e2,hdd,r0,rw0⟩:=grow q _ hr
     obtain⟨b1,b2,b3,b4,b5⟩:=rows_ok hr
     simp only at b1 b2 b3 b4 b5
     have Hch2:Hid ((if le≤d∧d≤mo then bitsOf bg lg++bitsOf (d-le).toNat mn else chFrom d (rowsB.drop (q+1)))=stepB l i):=Lib.hid (by
      have h9:=Hch.out
      rw [rows_at hr] at h9
      exact h9)
     have Hrow:=Lib.hid rw0
     obtain⟨r1,r2,r3,r4,r5⟩:=rw0
     simp only at r1 r2 r3 r4 r5
     clear grow hr
     by_cases hin:le≤d∧d≤mo
     ·rw [if_pos hin] at Hch2
      obtain⟨hi1',hi2'⟩:=hin
      obtain⟨y,hy⟩:∃y:Nat,(y:Int)=d-le:=⟨(d-le).toNat,by omega⟩
      have hyt:(d-le).toNat=y:=by omega
      rw [hyt] at Hch2
      have hyi:IntKind.i64.wrap (d-le)=(y:Int):=by rw [IntKind.wrap_i64];omega
      have hyd:d-le=(y:Int):=hy.symm
      have hyu:IntKind.u64.wrap (y:Int)=(y:Int):=by rw [wrap_u64];omega
      have hyl:y<18446744073709551616:=by omega
      have hbu:IntKind.u64.wrap (bg:Int)=(bg:Int):=by rw [wrap_u64];omega
      clear hy hyt
      obtain⟨X1,hX1⟩:∃X1,X1=wr.drew:=⟨_,rfl⟩
      have bX1:Below B wr X1:=by rw [hX1];exact below_drewN (Below.refl _ _) 1
      obtain⟨q1,q2,q3,q4,q5⟩:=Hrow.out.below bX1 hdd
      simp only at q1 q2 q3 q4 q5
      have h1:RbAt X1 rb v bits:=H0.out.olds (by rw [hX1];exact Olds.drewN _ 1)
      have HB:=Lib.hid (rbits_any (X:=fun b=>b=rb) rb v bits bg lg X1 h1 (by omega) b2 (by omega) rfl)
      have T1:Hid (Wrote (fun b=>b=rb) v v w X1):=Lib.hid (by rw [hX1];exact T0.out.drewN 1)
      have H1:=Lib.hid h1
      have BX1:=Lib.hid bX1
      clear h1 bX1
      go_wp2_with fail
      refine wp_region_still_tail 8 (by kernel_rfl) (by kernel_rfl) ?_
      simp only [List.take_succ_cons,List.take_zero,List.drop_succ_cons,List.drop_zero]
      change wpStill _ _ (World.drew _) (fun a'=>wpList _ _ _ _ a' (World.drew _)) _ _
      simp only [← hX1]
      clear hX1 g1 r0 r1 r2 r3 r4 r5
      repeat still_step
      try refine wpStill_nil ?_
      go_wp2_with (go_at_call 112;refine HB.out.mono ?_;clear HB;rintro e w5 ⟨rfl,v5,hw5,ht5⟩;have H5:=Lib.hid hw5;have T5:=Lib.hid (T1.out.trans ht5);have B5:=Lib.hid (BX1.out.trans (ht5.low H1.out hB));clear hw5 ht5 q1 q2 q3 q4 q5)
      obtain⟨X2,hX2⟩:∃X2,X2=w5.drew:=⟨_,rfl⟩
      have bX2:Below B wr X2:=by rw [hX2];exact below_drewN B5.out 1
      obtain⟨q1,q2,q3,q4,q5⟩:=Hrow.out.below bX2 hdd
      simp only at q1 q2 q3 q4 q5
      have h2:RbAt X2 rb v5 (bits++bitsOf bg lg):=H5.out.olds (by rw [hX2];exact Olds.drewN _ 1)
      have HB2:=Lib.hid (rbits_any (X:=fun b=>b=rb) rb v5 (bits++bitsOf bg lg) y mn X2 h2 (by rw [List.length_append,bits_len];omega) b5 hyl rfl)
      have T2:Hid (Wrote (fun b=>b=rb) v v5 w X2):=Lib.hid (by rw [hX2];exact T5.out.drewN 1)
      clear h2 bX2
      refine wp_region_still_tail 10 (by kernel_rfl) (by kernel_rfl) ?_
      simp only [List.take_succ_cons,List.take_zero,List.drop_succ_cons,List.drop_zero]
      change wpStill _ _ (World.drew _) (fun a'=>wpList _ _ _ _ a' (World.drew _)) _ _
      simp only [← hX2]
      clear hX2
      repeat still_step
      try refine wpStill_nil ?_
      go_wp2_with (go_at_call 112;refine HB2.out.mono ?_;clear HB2;rintro e w7 ⟨rfl,v7,hw7,ht7⟩;have H7:=Lib.hid hw7;have T7:=Lib.hid (T2.out.trans ht7);clear hw7 ht7)
      refine bodyPost_ret (results_none rfl _ _ _) rfl ?_
      refine⟨rfl,v7,?_,T7.out⟩
      have h9:=H7.out
      rw [List.append_assoc,Hch2.out] at h9
      exact h9
     ·rw [if_neg hin] at Hch2
      have hcase:¬ le≤d∨(le≤d∧¬ d≤mo):=by omega
      clear hin
      rcases hcase with h|⟨h,h'⟩
      all_goals
       go_wp2_with fail
       go_roundw
       case rel=>exact⟨q+1,by omega,by go_num,Hch2.out,trivial⟩
       case measure=>simp [intOf];omega
    ·obtain rfl:q=3:=by omega
     obtain⟨y,hy⟩:∃y:Nat,(y:Int)=d % 18446744073709551616:=⟨(d % 18446744073709551616).toNat,by omega⟩
     have Hb:Hid (bitsOf 15 4++bitsOf y 64=stepB l i):=Lib.hid (by
      have h9:=Hch.out
      rw [show rowsB.drop 3=[] from rfl] at h9
      rw [← h9,chFrom,show (d % 18446744073709551616).toNat=y by omega])
     have hyu:IntKind.u64.wrap d=(y:Int):=by rw [wrap_u64];omega
     have hyl:y<18446744073709551616:=by omega
     have HB:=Lib.hid (rbits_any (X:=fun b=>b=rb) rb v bits 15 4 wr H0.out (by omega) (by decide) (by decide) rfl)
     clear hy grow
     go_wp2_with (first
      | (go_at_call 112;refine HB.out.mono ?_;clear HB;rintro e w5 ⟨rfl,v5,hw5,ht5⟩;have T5:=Lib.hid (T0.out.trans ht5);have HB2:=Lib.hid (rbits_any (X:=fun b=>b=rb) rb v5 (bits++bitsOf 15 4) y 64 w5 hw5 (by rw [List.length_append,bits_len];omega) (by decide) (by omega) rfl);clear hw5 ht5)
      | (go_at_call 112;refine HB2.out.mono ?_;clear HB2;rintro e w7 ⟨rfl,v7,hw7,ht7⟩;have H7:=Lib.hid hw7;have T7:=Lib.hid (T5.out.trans ht7);clear hw7 ht7))
     go_end0
     refine⟨rfl,v7,?_,T7.out⟩
     have h9:=H7.out
     rw [List.append_assoc,Hb.out] at h9
     exact h9
end Go.Proofs.YtbecggfbblnglaaGreatDoor
namespace Go.Proofs.YtbecggfbblnglaaGreatDoor
open Go Go.RowKit Go.Ix Go.Gor
theorem step_time {l:List Smp}{i:Nat}(h1:1≤i) (h2:i<l.length):stepB l i=timeB (stAt l i) i (sub64 (l.getD i (0,0)).1 (l.getD (i-1) (0,0)).1):=by
 unfold stepB timeB
 by_cases h:i=1
 ·rw [if_pos h,if_pos h,h]
 ·rw [if_neg h,if_neg h]
  obtain⟨k,rfl⟩:∃k,i=k+2:=⟨i-2,by omega⟩
  have ha:l[k]?=some l[k]:=List.getElem?_eq_getElem (by omega)
  have hb:l[k+1]?=some l[k+1]:=List.getElem?_eq_getElem (by omega)
  rw [st_next ha hb,show k+2-1=k+1 by omega,show k+2-2=k by omega,getD_at ha,getD_at hb]
  rfl
theorem num_cases {x:Nat}{win:Option (Nat×Nat)}(h:x≠0) :
  (∃l r,win=some (l,r)∧l≤lead x∧r≤trail x∧numB x win=(true :: false :: bitsOf (x / 2 ^ r) (64-l-r),some (l,r)))∨
  ((win=none∨∃l r,win=some (l,r)∧(¬ l≤lead x∨(l≤lead x∧¬ r≤trail x)))∧numB x win=(fresh x,some (lead x,trail x))):=by
 cases win with
 | none=>exact .inr ⟨.inl rfl,by unfold numB;rw [if_neg h]⟩
 | some p =>
  obtain⟨l,r⟩:=p
  by_cases h1:l≤lead x
  ·by_cases h2:r≤trail x
   ·exact .inl ⟨l,r,rfl,h1,h2,by unfold numB;rw [if_neg h];exact if_pos ⟨h1,h2⟩⟩
   ·exact .inr ⟨.inr ⟨l,r,rfl,.inr ⟨h1,h2⟩⟩,by unfold numB;rw [if_neg h];exact if_neg (fun e=>h2 e.2)⟩
  ·exact .inr ⟨.inr ⟨l,r,rfl,.inl h1⟩,by unfold numB;rw [if_neg h];exact if_neg (fun e=>h1 e.1)⟩
def wLeft (win:Option (Nat×Nat)):Int:=match win with | none=>-1 | some p=>p.1
def wRight (win:Option (Nat×Nat)):Int:=match win with | none=>-1 | some p=>p.2
set_option maxRecDepth 20000 in
set_option maxHeartbeats 8000000 in
theorem rchunk_any (o:Option Addr) (n c:Nat) (l:List Smp) (w:World) (hl:l.length=n) (hn:n≤120) (hn0:0<n) (h:RowsM w o l) (h64:∀x∈l,Smp64 x) (HG:BkG w w.heap.size) :
  Calls Tryz.prog 75 #[.slice o n c] w fun e w'=>∃u,e=.returned (.agg #[.int .i64 (l.getD 0 (0,0)).1,.int .i64 (l.getD (n-1) (0,0)).1,.int .i64 (n:Nat),u])∧Row8 w' w.heap.size u (chunkB l)∧Below w.heap.size w w':=by
 obtain⟨b,off,x1,x2,rfl,hx,ax1,ax2⟩:=h.at (k:=0) (by omega)
 have hx64:=h64 _ (List.mem_of_getElem? hx)
 obtain⟨W1,hW1⟩:∃W1,W1=(w.alloc (.cells #[.int .i64 0,.int .i64 0,.int .i64 0,.slice none 0 0] 98)).alloc (.cells #[.slice none 0 0,.int .i64 0] 262):=⟨_,rfl⟩
 have hs1:W1.heap.size=w.heap.size+2:=by rw [hW1];simp
 have B1:Hid (Below w.heap.size w W1):=Lib.hid (by rw [hW1];exact ((Below.refl _ _).alloc (Nat.le_refl _) _).alloc (by simp) _)
 have K1:Hid (W1.heap[w.heap.size]?=some (.cells #[.int .i64 0,.int .i64 0,.int .i64 0,.slice none 0 0] 98 (0,0))):=Lib.hid (by
  rw [hW1]
  exact ((Olds.alloc _ _).2 _ (by simp)).trans (heap_alloc_new w _))
 have R1:Hid (RbAt W1 (w.heap.size+1) (.slice none 0 0) []):=Lib.hid ⟨by
  have h9:=heap_alloc_new (w.alloc (.cells #[.int .i64 0,.int .i64 0,.int .i64 0,.slice none 0 0] 98)) (.cells #[.slice none 0 0,.int .i64 0] 262)
  rw [World.size_alloc,← hW1] at h9
  exact h9,row8_nil _ _⟩
 have HB1:=Lib.hid (rsigned_any (X:=fun b=>b=w.heap.size+1) (w.heap.size+1) (.slice none 0 0) [] x1 W1 R1.out (by decide) hx64.1 rfl)
 have hzl:=v_len80 (zz_lt hx64.1)
 have hx2:=hx64.2
 have c1:W1.cell? ⟨b,off,none⟩=some (.int .i64 x1):=by have:=(Olds.of_below B1.out).cell ax1;simpa using this
 rw [hW1] at c1
 have H:=Lib.hid h
 have H64:=Lib.hid h64
 have Hl:=Lib.hid hl
 have HGh:=Lib.hid HG
 have Hx:=Lib.hid hx
 have Hz:Hid ((vbits (zz x1)).length≤80):=Lib.hid hzl
 clear h h64 HG hl hx hx64 ax1 ax2 hzl
 have HW1:=Lib.hid hW1
 have hc2:∀W v2 bs,Wrote (fun b=>b=w.heap.size+1) (.slice none 0 0) v2 W1 W→RbAt W (w.heap.size+1) v2 bs→W.cell? ⟨b,off+1,none⟩=some (.int .u64 (x2:Nat)):=fun W v2 bs hW hr=>by
  have hB:=B1.out.trans (hW.low R1.out (by omega))
  obtain⟨y1,y2,hy,_,a2⟩:=(H.out.olds (Olds.of_below hB)).next (k:=0) (by rw [Hl.out];exact hn0)
  rw [Hx.out] at hy
  cases hy
  simpa using a2
 have HC2:=Lib.hid hc2
 clear hc2 hW1
 go_enter Tryz.func75,Tryz.ntmps75
 go_wp2_with (first
  | (go_at_call 111;rw [← HW1.out];refine HB1.out.mono ?_;clear HB1;rintro e w2 ⟨rfl,v2,hr2,ht2⟩;have R2:=Lib.hid hr2;have T2:=Lib.hid ht2;have c2:=HC2.out w2 v2 _ ht2 hr2;have HB2:=Lib.hid (rbits_any (X:=fun b=>b=w.heap.size+1) (w.heap.size+1) v2 ([]++vbits (zz x1)) x2 64 w2 hr2 (by rw [List.nil_append];have:=Hz.out;omega) (by decide) hx2 rfl);clear hr2 ht2)
  | (go_at_call 112;refine HB2.out.mono ?_;clear HB2;rintro e w3 ⟨rfl,v3,hr3,ht3⟩;have R3:=Lib.hid hr3;have T3:=Lib.hid (T2.out.trans ht3);clear hr3 ht3))
 clear c1 c2 HC2
 have HW9:Hid (∀W v2 bs,Wrote (fun b=>b=w.heap.size+1) (.slice none 0 0) v2 W1 W→RbAt W (w.heap.size+1) v2 bs→Below w.heap.size w W):=Lib.hid (fun W v2 bs hW hr=>B1.out.trans (hW.low R1.out (by omega)))
 go_loopw [4,5,6] (fun lv rv iv wr=>∃(i:Nat) (v:Value) (s:St) (L R:Int),1≤i∧i≤n∧iv=.int .i64 (i:Nat)∧s=stAt l i∧lv=.int .i64 L∧rv=.int .i64 R∧L=wLeft s.win∧R=wRight s.win∧RbAt wr (w.heap.size+1) v s.bits∧Wrote (fun b=>b=w.heap.size+1) (.slice none 0 0) v W1 wr) (fun _ _ iv _=>n-(intOf iv).toNat)
 case atStart=>exact⟨1,v3,stAt l 1,-1,-1,Nat.le_refl _,hn0,rfl,rfl,rfl,rfl,by rw [st_one Hx.out];rfl,by rw [st_one Hx.out];rfl,by rw [st_one Hx.out];exact R3.out,T3.out⟩
 case round =>
  obtain⟨i,v,s,L,R,hi1,hi,rfl,hs,rfl,rfl,hL,hR,hr,ht⟩:=hrel
  have hB:=HW9.out _ _ _ ht hr
  have hRow:=H.out.olds (Olds.of_below hB)
  obtain⟨hst1,hst2,hst3⟩:=st_ok H64.out i (by rw [Hl.out];exact hi)
  rw [← hs] at hst1 hst2 hst3
  have Hs:=Lib.hid hs
  have Hr:=Lib.hid hr
  have Ht:=Lib.hid ht
  have HLR:=Lib.hid (And.intro hL hR)
  clear hs hr ht hL hR
  by_cases hlt:i<n
  ·obtain⟨k,hik⟩:∃k,i=k+1:=⟨i-1,by omega⟩
   obtain⟨y1,y2,hy,ay1,ay2⟩:=hRow.next (k:=i) (by rw [Hl.out];exact hlt)
   obtain⟨z1,z2,hz,az1,az2⟩:=hRow.next (k:=k) (by rw [Hl.out];omega)
   have hy64:=H64.out _ (List.mem_of_getElem? hy)
   have hz64:=H64.out _ (List.mem_of_getElem? hz)
   have hxx:=xor64 hz64.2 hy64.2
   have hxo:bits .xor .u64 (y2:Int) (z2:Int)=((z2 ^^^ y2:Nat):Int):=by rw [xor_u64 _ _ hy64.2 hz64.2,Nat.xor_comm]
   have HN:Hid (∃st',stAt l (i+1)=⟨(s.bits++stepB l i)++(numB (z2 ^^^ y2) s.win).1,st',(numB (z2 ^^^ y2) s.win).2⟩):=Lib.hid (by
    refine⟨sub64 y1 z1,?_⟩
    rw [step_time hi1 (by rw [Hl.out];exact hlt),getD_at hy,show i-1=k by omega,getD_at hz,← Hs.out]
    subst hik
    rw [st_next hz hy,← Hs.out]
    rfl)
   have HT:=Lib.hid (rtime_any (w.heap.size+1) w.heap.size v s.bits (some ⟨b,off,none⟩) n c i l wr Hr.out (by omega) (HGh.out.below hB) hRow Hl.out (by omega) (by omega) hi1 hlt)
   have HRw:=Lib.hid hRow
   have hki:(i:Int)-1=(k:Int):=by omega
   have hki2:IntKind.i64.wrap (k:Int)=(k:Int):=by rw [IntKind.wrap_i64];omega
   have hkn:k<n:=by omega
   have Hcells:Hid (∀W,Below w.heap.size w W→W.cell? ⟨b,off+i * 2+1,none⟩=some (.int .u64 (y2:Nat))∧W.cell? ⟨b,off+k * 2+1,none⟩=some (.int .u64 (z2:Nat))):=Lib.hid (fun W hW=>by
    have h9:=H.out.olds (Olds.of_below hW)
    obtain⟨p1,p2,e1,_,q2⟩:=h9.next (k:=i) (by rw [Hl.out];exact hlt)
    obtain⟨p3,p4,e3,_,q4⟩:=h9.next (k:=k) (by rw [Hl.out];omega)
    rw [hy] at e1
    rw [hz] at e3
    cases e1
    cases e3
    exact⟨q2,q4⟩)
   have htl:(stepB l i).length≤80:=by
    rw [step_time hi1 (by rw [Hl.out];exact hlt)]
    exact time_len _ _ _ (sub64_lt _ _)
   clear hik hy hz ay1 ay2 az1 az2 hRow hB
   generalize stepB l i=tb at *
   generalize z2 ^^^ y2=xx at *
   by_cases hx0:xx=0
   ·subst hx0
    go_wp2_with (go_at_call 113;refine HT.out.mono ?_;clear HT;rintro e w5 ⟨rfl,v5,hr5,ht5⟩;obtain⟨d1,d2⟩:=Hcells.out w5 (HW9.out _ _ _ (Ht.out.trans ht5) hr5);have T5:=Lib.hid (Ht.out.trans ht5);have HB6:=Lib.hid (rbit_any (X:=fun b=>b=w.heap.size+1) (w.heap.size+1) v5 (s.bits++tb) false w5.drew (hr5.olds (Olds.drewN w5 1)) (by rw [List.length_append];omega) rfl);clear hr5 ht5)
    go_region
    go_wp2_with (go_at_call 114;refine HB6.out.mono ?_;clear HB6;rintro e w6 ⟨rfl,v6,hr6,ht6⟩;have R6:=Lib.hid hr6;have T6:=Lib.hid ((T5.out.drewN 1).trans ht6);clear hr6 ht6)
    go_roundw
    case rel =>
     obtain⟨st',e9⟩:=HN.out
     have e8:numB 0 s.win=([false],s.win):=by unfold numB;rw [if_pos rfl]
     rw [e8] at e9
     exact⟨i+1,v6,stAt l (i+1),L,R,by omega,by omega,by go_num,rfl,rfl,rfl,by rw [e9];exact HLR.out.1,by rw [e9];exact HLR.out.2,by rw [e9];exact R6.out,T6.out⟩
    case measure=>simp [intOf];omega
   ·have hxp:0<xx:=by omega
    have HE:=Lib.hid (fun W=>ends_any xx W hxp hxx)
    have hle31:=lead_le xx
    have htr64:=trail_lt hxp hxx
    have hlt63:=lead_trail hxp hxx
    have hxz:¬ (xx:Int)=0:=by omega
    have hxzb:((xx:Int) == 0)=false:=by simpa using hxz
    have hnum:=num_cases (win:=s.win) hx0
    have hfr:Hid (Gor.fresh xx=true :: true :: (bitsOf (lead xx) 5++bitsOf (63-lead xx-trail xx) 6++bitsOf (xx / 2 ^ trail xx) (64-lead xx-trail xx))):=Lib.hid rfl
    generalize lead xx=le at *
    generalize trail xx=tr at *
    rcases hnum with ⟨p,q,hwin,hp,hq,hnb⟩|⟨hno,hnb⟩
    ·obtain⟨hL,hR⟩:=HLR.out
     rw [hwin] at hL hR
     have hL':L=(p:Int):=hL
     have hR':R=(q:Int):=hR
     subst hL' hR'
     have hpq:=hst3 p q hwin
     obtain⟨y,hy⟩:∃y,y=xx / 2 ^ q:=⟨_,rfl⟩
     have hyi:(xx:Int) / 2 ^ q=(y:Int):=by rw [hy];norm_cast
     have hyl:y<18446744073709551616:=by rw [hy];exact Nat.lt_of_le_of_lt (Nat.div_le_self _ _) hxx
     have hqu:IntKind.u64.wrap (q:Int)=(q:Int):=by rw [wrap_u64];omega
     obtain⟨m,hm⟩:∃m,m=64-p-q:=⟨_,rfl⟩
     have hmi:64-(p:Int)-(q:Int)=(m:Int):=by omega
     have hm64:m≤64:=by omega
     rw [← hy,← hm] at hnb
     have Hnb:=Lib.hid hnb
     have Hwin:=Lib.hid hwin
     have hp2:(p:Int)≤(le:Int):=by omega
     have hq2:(q:Int)≤(tr:Int):=by omega
     clear hnb hwin hy hm hL hR
     go_wp2_with (go_at_call 113;refine HT.out.mono ?_;clear HT;rintro e w5 ⟨rfl,v5,hr5,ht5⟩;obtain⟨d1,d2⟩:=Hcells.out w5 (HW9.out _ _ _ (Ht.out.trans ht5) hr5);have T5:=Lib.hid (Ht.out.trans ht5);have HB6:=Lib.hid (rbit_any (X:=fun b=>b=w.heap.size+1) (w.heap.size+1) v5 (s.bits++tb) true w5.drew (hr5.olds (Olds.drewN w5 1)) (by rw [List.length_append];omega) rfl);clear hr5 ht5)
     go_region
     go_wp2_with (first
      | (go_at_call 114;refine HB6.out.mono ?_;clear HB6;rintro e w6 ⟨rfl,v6,hr6,ht6⟩;have T6:=Lib.hid ((T5.out.drewN 1).trans ht6);have HB7:=Lib.hid (rbit_any (X:=fun b=>b=w.heap.size+1) (w.heap.size+1) v6 (s.bits++tb++[true]) false w6 hr6 (by rw [List.length_append,List.length_append];simp;omega) rfl);clear hr6 ht6)
      | (go_at_call 115;refine (HE.out _).mono ?_;rintro e w7 ⟨rfl,rfl⟩)
      | (go_at_call 114;refine HB7.out.mono ?_;clear HB7;rintro e w7 ⟨rfl,v7,hr7,ht7⟩;have T7:=Lib.hid (T6.out.trans ht7);have HB8:=Lib.hid (rbits_any (X:=fun b=>b=w.heap.size+1) (w.heap.size+1) v7 (s.bits++tb++[true]++[false]) y m w7 hr7 (by rw [List.length_append,List.length_append,List.length_append];simp;omega) hm64 hyl rfl);clear hr7 ht7)
      | (go_at_call 112;refine HB8.out.mono ?_;clear HB8;rintro e w8 ⟨rfl,v8,hr8,ht8⟩;have R8:=Lib.hid hr8;have T8:=Lib.hid (T7.out.trans ht8);clear hr8 ht8))
     go_roundw
     case rel =>
      obtain⟨st',e9⟩:=HN.out
      rw [Hnb.out] at e9
      exact⟨i+1,v8,stAt l (i+1),p,q,by omega,by omega,by go_num,rfl,rfl,rfl,by rw [e9];rfl,by rw [e9];rfl,by
       rw [e9]
       have h9:=R8.out
       rw [show s.bits++tb++[true]++[false]++bitsOf y m=s.bits++tb++(true :: false :: bitsOf y m) by simp] at h9
       exact h9,T8.out⟩
     case measure=>simp [intOf];omega
    ·obtain⟨y,hy⟩:∃y,y=xx / 2 ^ tr:=⟨_,rfl⟩
     have hyi:(xx:Int) / 2 ^ tr=(y:Int):=by rw [hy];norm_cast
     have hyl:y<18446744073709551616:=by rw [hy];exact Nat.lt_of_le_of_lt (Nat.div_le_self _ _) hxx
     have htu:IntKind.u64.wrap (tr:Int)=(tr:Int):=by rw [wrap_u64];omega
     have hlu:IntKind.u64.wrap (le:Int)=(le:Int):=by rw [wrap_u64];omega
     have hlel:le<18446744073709551616:=by omega
     obtain⟨m,hm⟩:∃m,m=64-le-tr:=⟨_,rfl⟩
     obtain⟨m1,hm1⟩:∃m1,m1=63-le-tr:=⟨_,rfl⟩
     have hmi:64-(le:Int)-(tr:Int)=(m:Int):=by omega
     have hm1i:63-(le:Int)-(tr:Int)=(m1:Int):=by omega
     have hm1u:IntKind.u64.wrap (m1:Int)=(m1:Int):=by rw [wrap_u64];omega
     have hm1l:m1<18446744073709551616:=by omega
     have hm64:m≤64:=by omega
     rw [hfr.out,← hy,← hm,← hm1] at hnb
     have Hnb:=Lib.hid hnb
     have hcase:L = -1∨(∃p q:Nat,L=(p:Int)∧R=(q:Int)∧(¬ p≤le∨(p≤le∧¬ q≤tr))):=by
      rcases hno with hno|⟨p,q,hno,hc⟩
      ·left
       rw [HLR.out.1,hno]
       rfl
      ·right
       refine⟨p,q,?_,?_,hc⟩
       ·rw [HLR.out.1,hno];rfl
       ·rw [HLR.out.2,hno];rfl
     clear hnb hno hy hm hm1 HLR hfr
     rcases hcase with rfl|⟨p,q,rfl,rfl,hc|⟨hc1,hc⟩⟩
     all_goals
      try have hc2:¬ (p:Int)≤(le:Int):=by omega
      try have hc3:(p:Int)≤(le:Int):=by omega
      try have hc4:¬ (q:Int)≤(tr:Int):=by omega
      go_wp2_with (go_at_call 113;refine HT.out.mono ?_;clear HT;rintro e w5 ⟨rfl,v5,hr5,ht5⟩;obtain⟨d1,d2⟩:=Hcells.out w5 (HW9.out _ _ _ (Ht.out.trans ht5) hr5);have T5:=Lib.hid (Ht.out.trans ht5);have HB6:=Lib.hid (rbit_any (X:=fun b=>b=w.heap.size+1) (w.heap.size+1) v5 (s.bits++tb) true w5.drew (hr5.olds (Olds.drewN w5 1)) (by rw [List.length_append];omega) rfl);clear hr5 ht5)
      go_region
      go_wp2_with (first
       | (go_at_call 114;refine HB6.out.mono ?_;clear HB6;rintro e w6 ⟨rfl,v6,hr6,ht6⟩;have T6:=Lib.hid ((T5.out.drewN 1).trans ht6);have HB7:=Lib.hid (rbit_any (X:=fun b=>b=w.heap.size+1) (w.heap.size+1) v6 (s.bits++tb++[true]) true w6 hr6 (by rw [List.length_append,List.length_append];simp;omega) rfl);clear hr6 ht6)
       | (go_at_call 115;refine (HE.out _).mono ?_;rintro e w7 ⟨rfl,rfl⟩)
       | (go_at_call 114;refine HB7.out.mono ?_;clear HB7;rintro e w7 ⟨rfl,v7,hr7,ht7⟩;have T7:=Lib.hid (T6.out.trans ht7);have HB8:=Lib.hid (rbits_any (X:=fun b=>b=w.heap.size+1) (w.heap.size+1) v7 (s.bits++tb++[true]++[true]) le 5 w7 hr7 (by rw [List.length_append,List.length_append,List.length_append];simp;omega) (by decide) hlel rfl);clear hr7 ht7)
       | (go_at_call 112;refine HB8.out.mono ?_;clear HB8;rintro e w8 ⟨rfl,v8,hr8,ht8⟩;have T8:=Lib.hid (T7.out.trans ht8);have HB9:=Lib.hid (rbits_any (X:=fun b=>b=w.heap.size+1) (w.heap.size+1) v8 (s.bits++tb++[true]++[true]++bitsOf le 5) m1 6 w8 hr8 (by rw [List.length_append,List.length_append,List.length_append,List.length_append,bits_len];simp;omega) (by decide) hm1l rfl);clear hr8 ht8)
       | (go_at_call 112;refine HB9.out.mono ?_;clear HB9;rintro e w9 ⟨rfl,v9,hr9,ht9⟩;have T9:=Lib.hid (T8.out.trans ht9);have HB10:=Lib.hid (rbits_any (X:=fun b=>b=w.heap.size+1) (w.heap.size+1) v9 (s.bits++tb++[true]++[true]++bitsOf le 5++bitsOf m1 6) y m w9 hr9 (by rw [List.length_append,List.length_append,List.length_append,List.length_append,List.length_append,bits_len,bits_len];simp;omega) hm64 hyl rfl);clear hr9 ht9)
       | (go_at_call 112;refine HB10.out.mono ?_;clear HB10;rintro e w10 ⟨rfl,v10,hr10,ht10⟩;have R10:=Lib.hid hr10;have T10:=Lib.hid (T9.out.trans ht10);clear hr10 ht10))
      go_roundw
      case rel =>
       obtain⟨st',e9⟩:=HN.out
       rw [Hnb.out] at e9
       exact⟨i+1,v10,stAt l (i+1),le,tr,by omega,by omega,by go_num,rfl,rfl,rfl,by rw [e9];rfl,by rw [e9];rfl,by
        rw [e9]
        have h9:=R10.out
        rw [show s.bits++tb++[true]++[true]++bitsOf le 5++bitsOf m1 6++bitsOf y m=s.bits++tb++(true :: true :: (bitsOf le 5++bitsOf m1 6++bitsOf y m)) by simp] at h9
        exact h9,T10.out⟩
      case measure=>simp [intOf];omega
  ·obtain rfl:i=n:=by omega
   obtain⟨j,hj⟩:∃j,i=j+1:=⟨i-1,by omega⟩
   obtain⟨u1,u2,hu,au1,_⟩:=hRow.next (k:=j) (by rw [Hl.out];omega)
   have hji:(i:Int)-1=(j:Int):=by omega
   have hjn:j<i:=by omega
   have hju:IntKind.i64.wrap (j:Int)=(j:Int):=by rw [IntKind.wrap_i64];omega
   have hn0i:(0:Int)<(i:Int):=by omega
   have Hfirst:Hid ((l.getD 0 (0,0)).1=x1):=Lib.hid (by rw [getD_at Hx.out])
   have Hlast:Hid ((l.getD (i-1) (0,0)).1=u1):=Lib.hid (by rw [show i-1=j by omega,getD_at hu])
   have Hbits:Hid (pack s.bits=chunkB l):=Lib.hid (by unfold chunkB;rw [Hs.out,Hl.out])
   have HBr:=Lib.hid hB
   have Hkw:Hid (wr.drew.heap[w.heap.size]?=some (.cells #[.int .i64 0,.int .i64 0,.int .i64 0,.slice none 0 0] 98 (0,0))):=Lib.hid ((Ht.out.block w.heap.size (by omega) (by omega) (fun e=>by cases e)).trans K1.out)
   have HB:=Lib.hid (rbytes_any (w.heap.size+1) v s.bits wr.drew (Hr.out.olds (Olds.drewN wr 1)) (by omega))
   have HS:Hid (∀W,Below w.heap.size w W→W.cell? ⟨b,off,none⟩=some (.int .i64 x1)∧W.cell? ⟨b,off+j * 2,none⟩=some (.int .i64 u1)):=Lib.hid (fun W hW=>by
    have h9:=H.out.olds (Olds.of_below hW)
    obtain⟨p1,p2,e1,q1,_⟩:=h9.next (k:=0) (by rw [Hl.out];omega)
    obtain⟨p3,p4,e3,q3,_⟩:=h9.next (k:=j) (by rw [Hl.out];omega)
    rw [Hx.out] at e1
    rw [hu] at e3
    cases e1
    cases e3
    exact⟨by simpa using q1,q3⟩)
   have Hb1:Hid (Below w.heap.size w wr.drew):=Lib.hid (below_drewN hB 1)
   have hs1':w.heap.size<wr.drew.heap.size:=by
    have:=Ht.out.size
    show w.heap.size<wr.heap.size
    omega
   clear hu au1 hRow hB hj
   go_wp2_with fail
   go_region_held_law (fun W=>W.cell? ⟨b,off,none⟩=some (.int .i64 x1)∧W.cell? ⟨b,off+j * 2,none⟩=some (.int .i64 u1))
    (first | exact HS.out _ Hb1.out | exact HS.out _ HB2.out | exact HS.out _ ((((HB2.out.setCell (Nat.le_refl _) _).setCell (Nat.le_refl _) _).setCell (Nat.le_refl _) _).setCell (Nat.le_refl _) _))
    (first
     | (go_at_call 116;refine HB.out.mono ?_;rintro e w2 ⟨u,rfl,h2,hb2⟩;obtain⟨o2,c2,rfl,_⟩:=h2.shape;have H2:=Lib.hid h2;have HB2:=Lib.hid (Hb1.out.trans (hb2.mono (Nat.le_of_lt hs1')));have k0:w2.heap[w.heap.size]?=some (.cells #[.int .i64 0,.int .i64 0,.int .i64 0,.slice none 0 0] 98 (0,0)):=((hb2.block _ hs1').trans Hkw.out);have K0:=Lib.hid k0;obtain⟨k1,k2,k3,k4,f1,f2,f3,f4⟩:w2.cell? ⟨w.heap.size,0,none⟩=some (.int .i64 0)∧w2.cell? ⟨w.heap.size,1,none⟩=some (.int .i64 0)∧w2.cell? ⟨w.heap.size,2,none⟩=some (.int .i64 0)∧w2.cell? ⟨w.heap.size,3,none⟩=some (.slice none 0 0)∧w2.frozen? ⟨w.heap.size,0,none⟩=false∧w2.frozen? ⟨w.heap.size,1,none⟩=false∧w2.frozen? ⟨w.heap.size,2,none⟩=false∧w2.frozen? ⟨w.heap.size,3,none⟩=false:=⟨cell_of_heap k0,cell_of_heap k0,cell_of_heap k0,cell_of_heap k0,by simp [World.frozen?,k0],by simp [World.frozen?,k0],by simp [World.frozen?,k0],by simp [World.frozen?,k0]⟩;clear k0;clear h2 hb2))
   go_wp2_with fail
   have k9:((((w2.setCell ⟨w.heap.size,0,none⟩ (.int .i64 x1)).setCell ⟨w.heap.size,1,none⟩ (.int .i64 u1)).setCell ⟨w.heap.size,2,none⟩ (.int .i64 (i:Nat))).setCell ⟨w.heap.size,3,none⟩ (.slice o2 (pack s.bits).length c2)).heap[w.heap.size]?=some (.cells #[.int .i64 x1,.int .i64 u1,.int .i64 (i:Nat),.slice o2 (pack s.bits).length c2] 98 (0,0)):=by
    simp [World.setCell,Array.getElem?_modify,K0.out]
   have B9:Below w.heap.size w ((((w2.setCell ⟨w.heap.size,0,none⟩ (.int .i64 x1)).setCell ⟨w.heap.size,1,none⟩ (.int .i64 u1)).setCell ⟨w.heap.size,2,none⟩ (.int .i64 (i:Nat))).setCell ⟨w.heap.size,3,none⟩ (.slice o2 (pack s.bits).length c2)):=(((HB2.out.setCell (Nat.le_refl _) _).setCell (Nat.le_refl _) _).setCell (Nat.le_refl _) _).setCell (Nat.le_refl _) _
   have R9:Row8 ((((w2.setCell ⟨w.heap.size,0,none⟩ (.int .i64 x1)).setCell ⟨w.heap.size,1,none⟩ (.int .i64 u1)).setCell ⟨w.heap.size,2,none⟩ (.int .i64 (i:Nat))).setCell ⟨w.heap.size,3,none⟩ (.slice o2 (pack s.bits).length c2)) w.heap.size (.slice o2 (pack s.bits).length c2) (chunkB l):=by
    have hne:(Value.slice o2 (pack s.bits).length c2).ownBlock≠some w.heap.size:=fun e=>by have:=(ownsRow_block H2.out e).1;omega
    rw [← Hbits.out]
    refine Row8.other (Row8.other (Row8.other (Row8.other ?_ hne _) hne _) hne _) hne _
    exact Row8.from H2.out (Nat.le_of_lt hs1')
   rw [Hfirst.out,Hlast.out]
   refine bodyPost_ret (results_cell0 (p:=2) (ty:=98) (by kernel_rfl) _ _ ⟨w.heap.size,0,none⟩ _ rfl (run_load_part _ w.heap.size 0 98 [.int .i64 x1,.int .i64 u1,.int .i64 (i:Nat),.slice o2 (pack s.bits).length c2] _ (fun j v hv=>by
    rw [cell_of_heap k9,Nat.zero_add]
    simpa using hv) Tryz.underlying98 rfl (by kernel_rfl))) rfl ⟨_,rfl,R9,B9⟩
end Go.Proofs.YtbecggfbblnglaaGreatDoor
namespace Go.Proofs.YtbecggfbblnglaaGreatDoor
open Go Go.RowKit Go.Ix Go.Gor
theorem RowsM.part {w:World}{b off:Nat}{l:List Smp}(h:RowsM w (some ⟨b,off,none⟩) l) (i m:Nat):RowsM w (some ⟨b,off+i * 2,none⟩) ((l.drop i).take m):=fun hne=>by
 obtain⟨b',off',e,hc⟩:=h (fun e=>hne (by rw [e];simp))
 cases e
 refine⟨b,off+i * 2,rfl,fun j v hv=>?_⟩
 have hlen:∀x:Smp,(smpCells x).length=2:=fun _=>rfl
 have hjl:=(List.getElem?_eq_some_iff.1 hv).1
 rw [flat_len (k:=2) hlen] at hjl
 have hq:j / 2<((l.drop i).take m).length:=by omega
 have hx:((l.drop i).take m)[j / 2]?=some (((l.drop i).take m)[j / 2]):=List.getElem?_eq_getElem hq
 have hx2:l[i+j / 2]?=some (((l.drop i).take m)[j / 2]):=by
  rw [← hx,List.getElem?_take,List.getElem?_drop]
  rw [if_pos (by rw [List.length_take] at hq;omega)]
 have hr:(smpCells (((l.drop i).take m)[j / 2]))[j % 2]?=some v:=by
  have hr2:j % 2<2:=Nat.mod_lt _ (by decide)
  have h9:(smpCells (((l.drop i).take m)[j / 2]))[j % 2]?=some ((smpCells (((l.drop i).take m)[j / 2]))[j % 2]'hr2):=List.getElem?_eq_getElem _
  have h1:=flat_at hlen ((l.drop i).take m) (j / 2) (j % 2) _ _ hx h9
  rw [show j / 2 * 2+j % 2=j by omega,hv] at h1
  rw [h9,← h1]
 have:=hc.elem (k:=2) (i:=j % 2) hlen hx2 hr
 rw [show off+i * 2+j=off+(i+j / 2) * 2+j % 2 by omega]
 exact this
set_option maxRecDepth 20000 in
set_option maxHeartbeats 4000000 in
theorem rgencode_any (o:Option Addr) (n c:Nat) (l:List Smp) (w:World) (hl:l.length=n) (hn:n≤20000) (hc:n≤c) (h:RowsM w o l) (h64:∀x∈l,x.2<18446744073709551616) (HG:BkG w w.heap.size):Calls Tryz.prog 24 #[.slice o n c] w (ChkEnd l w):=by
 obtain⟨i0,hi0,hz0,hz1,hz2⟩:=info_parts Tryz.info98
 have HF:=Lib.hid (rfits_any o n c l w hl (by omega) h)
 have H:=Lib.hid h
 have Hl:=Lib.hid hl
 have H64:=Lib.hid h64
 have HGh:=Lib.hid HG
 clear h hl h64 HG
 unfold ChkEnd
 by_cases hf:fitsE l=0
 ·rw [hf] at HF
  have Hf:=Lib.hid hf
  clear hf
  go_enter Tryz.func24,Tryz.ntmps24
  go_wp2_with (go_at_call 74;refine HF.out.mono ?_;clear HF;rintro e w2 ⟨rfl,q,rfl⟩)
  have B0:Hid (Below w.heap.size w (w.drewN q)):=Lib.hid (below_drewN (Below.refl _ _) q)
  go_loopw [5,6] (fun ov iv wr=>∃(q i:Nat) (ps:List (List Smp×Value)) (oo:Option Addr) (oc np:Nat),i=120 * q∧i≤n+119∧iv=.int .i64 (i:Nat)∧ov=.slice oo np oc∧np=ps.length∧np=q∧ps.map (·.1)=(groups l).take q∧ChksP wr w.heap.size ov ps∧Below w.heap.size w wr) (fun _ iv _=>n+120-(intOf iv).toNat)
  case atStart=>exact⟨0,0,[],none,0,0,rfl,by omega,rfl,rfl,rfl,rfl,rfl,ChksP.nil _ _,B0.out⟩
  case round =>
   obtain⟨q2,i,ps,oo,oc,np,hi,hin,rfl,rfl,hnp,hnq,hps,hck,hb⟩:=hrel
   have Hi:=Lib.hid hi
   have Hnp:=Lib.hid hnp
   have Hnq:=Lib.hid hnq
   have Hps:=Lib.hid hps
   have Hck:=Lib.hid hck
   have Hb:=Lib.hid hb
   have hsz:=hb.size
   have hown:=Lib.hid (fun b hb=>hck.own b hb)
   have hrow:Hid (wr.ownsRow w.heap.size 98 4 (.slice oo np oc) np (ps.flatMap chkCells)):=Lib.hid (by have:=hck.1;rw [← hnp] at this;exact this)
   have hnpl:np≤20000:=by omega
   have HR:=Lib.hid (H.out.olds (Olds.of_below hb))
   have hG2:=Lib.hid (HGh.out.below hb)
   clear hnp hnq hps hck hb
   by_cases hlt:i<n
   ·obtain⟨b,off,_,_,rfl,_⟩:=HR.out.at (k:=i) (by rw [Hl.out];exact hlt)
    obtain⟨e,he⟩:∃e,e=min n (i+120):=⟨_,rfl⟩
    have hei:min (n:Int) ((i:Int)+120)=(e:Int):=by omega
    obtain⟨m,hm⟩:∃m,e-i=m:=⟨_,rfl⟩
    have hec:e≤c:=by omega
    have hie:i≤e:=by omega
    have hm0:0<m:=by omega
    have hm120:m≤120:=by omega
    obtain⟨g,hg⟩:∃g,g=(l.drop i).take 120:=⟨_,rfl⟩
    have hgl:g.length=m:=by rw [hg,List.length_take,List.length_drop,Hl.out];omega
    have hgm:∀x∈g,Smp64 x:=fun x hx=>fits_smp Hf.out H64.out x (by rw [hg] at hx;exact List.mem_of_mem_drop (List.mem_of_mem_take hx))
    have HC:=Lib.hid (rchunk_any (some ⟨b,off+i * 2,none⟩) m (c-i) g wr hgl hm120 hm0 (by rw [hg];exact HR.out.part i 120) hgm (by
     obtain⟨gb,go,gc,k1,k2,k3,k4⟩:=hG2.out
     refine⟨gb,go,gc,by omega,by omega,k3,fun k x hx=>?_⟩
     obtain⟨d,o2,e,k5,k6⟩:=k4 k x hx
     exact⟨d,o2,e,by omega,k6⟩))
    have Hgs:Hid ((groups l)[q2]?=some g):=Lib.hid (by rw [groups_at q2 l (by rw [← hi,Hl.out];exact hlt),← hi,← hg])
    have Hgl:=Lib.hid hgl
    obtain⟨f0,hf0⟩:∃f0,f0=(g.getD 0 (0,0)).1:=⟨_,rfl⟩
    obtain⟨f1,hf1⟩:∃f1,f1=(g.getD (m-1) (0,0)).1:=⟨_,rfl⟩
    rw [← hf0,← hf1] at HC
    have Hcell:Hid (∀u,chkCells (g,u)=[.int .i64 f0,.int .i64 f1,.int .i64 (m:Nat),u]):=Lib.hid (fun u=>by
     show [Value.int .i64 (g.getD 0 (0,0)).1,.int .i64 (g.getD (g.length-1) (0,0)).1,.int .i64 (g.length:Nat),_]=_
     rw [Hgl.out,← hf0,← hf1])
    have HC2:Hid (Calls Tryz.prog 75 #[.slice (some ⟨b,off+i * 2,none⟩) (e-i) (c-i)] wr fun e w'=>∃u,e=.returned (.agg #[.int .i64 f0,.int .i64 f1,.int .i64 (m:Nat),u])∧Row8 w' wr.heap.size u (chunkB g)∧Below wr.heap.size wr w'):=Lib.hid (by rw [hm];exact HC.out)
    clear hi hg hgl hgm hf0 hf1 hm HC he
    go_wp2_with (first
     | (go_at_call 75;refine HC2.out.mono ?_;clear HC2;rintro e w3 ⟨u,rfl,hu3,hb3⟩;obtain⟨uo,uc,rfl,_⟩:=hu3.shape;have B3:=Lib.hid hb3;have hs3:=hb3.size;obtain⟨ul,hul⟩:∃ul,ul=(chunkB g).length:=⟨_,rfl⟩;have U3:Hid (Row8 w3 wr.heap.size (.slice uo ul uc) (chunkB g)):=(Lib.hid (by rw [hul];exact hu3));rw [← hul];clear hul hu3 hb3)
     | (at_builtin;go_loud (refine wpList_append_lies _ rfl _ _ _ rfl w.heap.size 98 i0 _ 4 48 Tryz.underlying94 hi0 hz0 hz1 hz2 rfl (by decide) (.slice oo np oc) np (ps.flatMap chkCells) rfl (ownsRow_olds hrow.out ((Olds.of_below B3.out).trans ((Olds.alloc _ _).trans (Olds.alloc _ _)))) ⟨w3.heap.size+1,0,none⟩ 1 1 [.int .i64 f0,.int .i64 f1,.int .i64 (m:Nat),.slice uo ul uc] rfl rfl (World.news_of_block (cs:=#[.int .i64 f0,.int .i64 f1,.int .i64 (m:Nat),.slice uo ul uc]) (t:=98) (fr:=(0,0)) (by have h9:=heap_alloc_new (w3.alloc (.cells #[.int .i64 f0,.int .i64 f1,.int .i64 (m:Nat),.slice uo ul uc] 98)) (.cells #[.int .i64 f0,.int .i64 f1,.int .i64 (m:Nat),.slice uo ul uc] 98);rw [World.size_alloc] at h9;exact h9)) (by simp [Value.oneCell']) Nat.one_pos (by unfold maxLen;omega) (by omega) (by simp;omega) (w3.heap.size+1+1) (by simp) ?_;intro gg cap2 w4 hown4 hgrow4 hat4 hlt4;have B4:Hid (Below w.heap.size w w4):=(Lib.hid ((((Hb.out.trans (B3.out.mono hsz)).alloc (by omega) _).alloc (by simp;omega) _).grown hgrow4 (by simp;omega) (fun b hb=>(hown.out b hb).1)));have K4:Hid (ChksP w4 w.heap.size (.slice (some ⟨gg,0,none⟩) (np+1) cap2) (ps++[(g,.slice uo ul uc)])):=(Lib.hid (ChksP.more (w1:=(w3.alloc (.cells #[.int .i64 f0,.int .i64 f1,.int .i64 (m:Nat),.slice uo ul uc] 98)).alloc (.cells #[.int .i64 f0,.int .i64 f1,.int .i64 (m:Nat),.slice uo ul uc] 98)) Hck.out ((Olds.of_below B3.out).trans ((Olds.alloc _ _).trans (Olds.alloc _ _))) (Row8.from (show Row8 ((w3.alloc (.cells #[.int .i64 f0,.int .i64 f1,.int .i64 (m:Nat),.slice uo ul uc] 98)).alloc (.cells #[.int .i64 f0,.int .i64 f1,.int .i64 (m:Nat),.slice uo ul uc] 98)) wr.heap.size (.slice uo ul uc) (chunkB g) from ownsRow_olds U3.out ((Olds.alloc _ _).trans (Olds.alloc _ _))) (by omega)) hgrow4 (by rw [← Hnp.out,Hcell.out];exact hown4)));clear hown4 hgrow4 hat4 hlt4)))
    go_roundw
    case rel =>
     refine⟨q2+1,i+120,ps++[(g,.slice uo ul uc)],some ⟨gg,0,none⟩,cap2,np+1,by have:=Hi.out;omega,by omega,by go_num,rfl,by rw [List.length_append,Hnp.out];rfl,by rw [Hnq.out],?_,K4.out,B4.out⟩
     rw [List.map_append,Hps.out,List.take_add_one,Hgs.out]
     rfl
    case measure=>simp [intOf];omega
   ·have Hlen:Hid ((groups l).length≤q2):=Lib.hid (by rw [groups_len,Hl.out];omega)
    clear hi
    go_wp2_with fail
    go_ret2
    exact⟨.inr ⟨Hf.out,.slice oo np oc,rfl,ps,by rw [Hps.out,List.take_of_length_le Hlen.out],Hck.out⟩,Hb.out⟩
 ·have Hf:=Lib.hid hf
  generalize fitsE l=fe at *
  have hfe:¬ (fe:Int)=0:=by omega
  clear hf
  go_enter Tryz.func24,Tryz.ntmps24
  go_wp2_with (go_at_call 74;refine HF.out.mono ?_;clear HF;rintro e w2 ⟨rfl,q,rfl⟩)
  go_ret2
  exact⟨.inl ⟨Hf.out,rfl⟩,below_drewN (Below.refl _ _) q⟩
end Go.Proofs.YtbecggfbblnglaaGreatDoor
