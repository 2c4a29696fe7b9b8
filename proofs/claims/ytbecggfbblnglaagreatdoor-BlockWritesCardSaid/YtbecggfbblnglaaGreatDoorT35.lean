/- Contracts over this program. Their conditions: the slices read as the lists that are named, and lie within the sizes that are named. -/
import Derived.Test.YtbecggfbblnglaaGreatDoorT25
import Derived.Test.YtbecggfbblnglaaGreatDoorT31
import Derived.Test.YtbecggfbblnglaaGreatDoorT33
import Derived.Test.YtbecggfbblnglaaGreatDoorT34
set_option linter.unusedSimpArgs false
set_option linter.unusedVariables false
set_option linter.deprecated false
set_option linter.unnecessarySimpa false
namespace Go.Proofs.YtbecggfbblnglaaGreatDoor
open Go Go.RowKit Go.Ix Go.Gor
open Classical in
noncomputable def zsOf (id:Nat) (level:Int) (l:List Ser):List Int:=if BlkOk level l then (blkB crc id level.toNat l).map fun (n:Nat)=>(n:Int) else []
open Classical in
noncomputable def ecOf (level:Int) (l:List Ser):Int:=if BlkOk level l then 0 else 150
def EncOut (X:List Int) (ec:Int) (W:World) (e:Ending) (w':World):Prop :=
 ∃xo xc,e=.returned (.tuple #[.slice xo X.length xc,.int .u16 ec])∧OwnsU w' W.heap.size (.slice xo X.length xc) X∧Below W.heap.size W w'
theorem enc_out {id:Nat}{level:Int}{l:List Ser}{W w':World}{e:Ending}(h:BlkEnd id level l W e w'):EncOut (zsOf id level l) (ecOf level l) W e w':=by
 obtain⟨h,hb⟩:=h
 rcases h with ⟨hm,rfl⟩|⟨hm,v,rfl,hr⟩
 ·have e1:zsOf id level l=[]:=if_neg hm
  have e2:ecOf level l=150:=if_neg hm
  rw [e1,e2]
  exact⟨none,0,rfl,⟨rfl,.inl ⟨rfl,rfl⟩⟩,hb⟩
 ·have e1:zsOf id level l=(blkB crc id level.toNat l).map fun (n:Nat)=>(n:Int):=if_pos hm
  have e2:ecOf level l=0:=if_pos hm
  rw [e1,e2]
  obtain⟨o,c,rfl,_⟩:=hr.shape
  unfold EncOut OwnsU
  rw [List.length_map,List.map_map]
  exact⟨o,c,rfl,hr,hb⟩
theorem zs_len {id:Nat}{level:Int}{l:List Ser}(hS:SizeS l) (h60:l.length≤60):(zsOf id level l).length≤30000000000:=by
 by_cases hm:BlkOk level l
 ·have e1:zsOf id level l=(blkB crc id level.toNat l).map fun (n:Nat)=>(n:Int):=if_pos hm
  rw [e1,List.length_map]
  obtain⟨_,_,_,hg,hmay⟩:=hm
  obtain⟨_,hch⟩:=ents_small hS h60
  have h1:=encd_len hmay (by rw [entsS_len];exact h60) hch
  have h2:=data_bound hS (k:=l.length) (fun s hs=>hg s (List.mem_of_mem_take hs))
  rw [List.take_length] at h2
  have h3:=low_len 4 (crc (blkBody crc id level.toNat l))
  have h4:=low_len 4 id
  have h5:=low_len 2 level.toNat
  have h6:=low_len 4 (encd crc (entsS 0 l)).length
  unfold blkB
  rw [List.length_append,h3]
  unfold blkBody blkHead
  simp only [List.length_append,h4,h5,h6,List.length_cons,List.length_nil]
  omega
 ·have e1:zsOf id level l=[]:=if_neg hm
  rw [e1]
  simp
theorem BkG.mono {w:World}{B B':Nat}(h:BkG w B) (hB:B≤B'):BkG w B':=by
 obtain⟨b,off,c,h0,hb0,h1,h2⟩:=h
 refine⟨b,off,c,by omega,by omega,h1,fun k x hx=>?_⟩
 obtain⟨d,o2,e,hd,k1,k2⟩:=h2 k x hx
 exact⟨d,o2,e,by omega,k1,k2⟩
theorem owns_within {W W':World}{B S T:Nat}{v:Value}{zs:List Int}(h:OwnsU W T v zs) (hw:Within B S W W') (hT:S≤T):OwnsU W' T v zs :=
 ownsRow_blocks h fun g hg=>hw.block g (.inr (Nat.le_trans hT (ownsRow_block h hg).1))
theorem Within.below {B S:Nat}{w w':World}(h:Within B S w w'):Below B w w':=⟨h.os,h.tape,h.output,by rw [h.size];exact Nat.le_refl _,fun k hk=>h.block k (.inl hk)⟩
set_option maxRecDepth 20000 in
set_option maxHeartbeats 4000000 in
theorem writes_any (o:Option Addr) (n c id:Nat) (level:Int) (l:List Ser) (w:World) (h8:11≤w.heap.size) (hid:id<4294967296) (hlev:-9223372036854775808≤level∧level≤9223372036854775807) (hl:l.length=n) (hv:VastS l) (h64:∀s∈l,∀x∈s.2,x.2<18446744073709551616) (hc:RowsR w o l) (hT:TabG w) (hE:ErrG w) (hG:BkG w w.heap.size) (hH:HalfOk)
  (hk:∀W:World,ErrG W→TabG W→11≤W.heap.size→Calls Tryz.prog 11 #[] W fun e W'=>e=.returned (.bool true)∧Below W.heap.size W W') :
  Calls Tryz.prog 3 #[.int .u32 (id:Nat),.int .i64 level,.slice o n c] w fun e w'=>e=.returned (.bool true)∧Below w.heap.size w w':=by
 have HM:=Lib.hid (much_any o n c l w hl hv hc)
 have Hc:=Lib.hid hc
 have Hl:=Lib.hid hl
 have Hev:Hid (∀W:World,Below w.heap.size w W→ErrG W∧TabG W∧11≤W.heap.size):=Lib.hid (fun W hb=>⟨(Olds.of_below hb).cell hE,hT.olds (Olds.of_below hb),Nat.le_trans h8 hb.size⟩)
 have HGb:Hid (∀W:World,Below w.heap.size w W→BkG W W.heap.size):=Lib.hid (fun W hb=>(hG.below hb).mono hb.size)
 have Hk:Hid (∀W:World,Below w.heap.size w W→Calls Tryz.prog 11 #[] W fun e W'=>e=.returned (.bool true)∧Below W.heap.size W W'):=Lib.hid (fun W hb=>hk W (Hev.out W hb).1 (Hev.out W hb).2.1 (Hev.out W hb).2.2)
 have HH:=Lib.hid hH
 have Hid':=Lib.hid hid
 have Hlev:=Lib.hid hlev
 have H64:=Lib.hid h64
 clear hv hc hk hH hl hT hE hG hid hlev h64
 go_enter Tryz.func3,Tryz.ntmps3
 go_wp2_with fail
 refine HM.out.mono ?_
 clear HM
 rintro e w1 ⟨hsays,q,rfl⟩
 have Hc1:Hid (RowsR (w.drewN q) o l):=Lib.hid (Hc.out.olds (Olds.drewN _ _))
 have B1:Hid (Below w.heap.size w (w.drewN q)):=Lib.hid ⟨rfl,rfl,rfl,Nat.le_refl _,fun _ _=>rfl⟩
 have S1:(w.drewN q).heap.size=w.heap.size:=rfl
 generalize w.drewN q=w1 at *
 rcases hsays with rfl|⟨rfl,hsmall,h60⟩
 ·go_wp2_with fail
  go_ret
  exact⟨rfl,B1.out⟩
 have HS:Hid (SizeS l):=Lib.hid (sizeS_of (by rw [Hl.out];exact hsmall) H64.out)
 have HX6:Hid ((zsOf id level l).length≤30000000000):=Lib.hid (zs_len HS.out (by rw [Hl.out];exact h60))
 have Hes:Hid (∀e∈l,e.1.length≤20000∧e.2.length≤20000):=Lib.hid (fun e he=>⟨(HS.out.1 e he).1,(HS.out.1 e he).2.1⟩)
 have HE:Hid (∀(W:World) (o:Option Addr) (c:Nat),Below w.heap.size w W→RowsR W o l→Calls Tryz.prog 6 #[.int .u32 (id:Nat),.int .i64 level,.slice o n c] W (EncOut (zsOf id level l) (ecOf level l) W)):=Lib.hid (fun W o c hb hr=>by
  obtain⟨e1,e2,e3⟩:=Hev.out W hb
  exact (bwrite_any HH.out o n c id level l W Hl.out h60 Hid'.out Hlev.out HS.out hr e2 e1 e3).mono fun e w' h=>enc_out h)
 have HR:Hid (∀(W:World) (o:Option Addr) (c:Nat),Below w.heap.size w W→RowsR W o l→Calls Tryz.prog 9 #[.int .u32 (id:Nat),.int .i64 level,.slice o n c] W (EncOut (zsOf id level l) (ecOf level l) W)):=Lib.hid (fun W o c hb hr=>by
  obtain⟨e1,e2,e3⟩:=Hev.out W hb
  exact (rwrite_any o n c id level l W Hl.out h60 Hid'.out Hlev.out HS.out hr (HGb.out W hb) e3).mono fun e w' h=>enc_out h)
 clear Hev HGb H64 hsmall
 generalize zsOf id level l=X at *
 generalize ecOf level l=ec at *
 go_wp2_with fail
 refine (lent_series o n c l w1 Hl.out h60 Hes.out Hc1.out).mono ?_
 rintro e w2 ⟨u,rfl,hlent,hb2⟩
 have Hlent:=Lib.hid hlent
 obtain⟨gl,cl,rfl,hrow⟩:=hlent.rows
 rw [Hl.out] at Hlent ⊢
 have S2:w1.heap.size≤w2.heap.size:=hb2.size
 have B2:Hid (Below w.heap.size w w2):=Lib.hid (B1.out.trans (hb2.mono (by omega)))
 have Hrow:=Lib.hid hrow
 clear hlent hrow hb2
 go_wp2_with fail
 refine (HE.out w2 (some ⟨gl,0,none⟩) cl B2.out Hrow.out).mono ?_
 rintro e w3 ⟨xo,xc,rfl,hx,hb3⟩
 have S3:w2.heap.size≤w3.heap.size:=hb3.size
 have O23:Hid (Olds w2 w3):=Lib.hid (Olds.of_below hb3)
 have B3:Hid (Below w.heap.size w w3):=Lib.hid (B2.out.trans (hb3.mono (by omega)))
 have Hx3:=Lib.hid hx
 clear hx hb3
 go_wp2_with fail
 refine (HE.out w3 (some ⟨gl,0,none⟩) cl B3.out (Hrow.out.olds O23.out)).mono ?_
 rintro e w4 ⟨yo,yc,rfl,hy,hb4⟩
 have S4:w3.heap.size≤w4.heap.size:=hb4.size
 have O34:Hid (Olds w3 w4):=Lib.hid (Olds.of_below hb4)
 have O24:Hid (Olds w2 w4):=Lib.hid (O23.out.trans O34.out)
 have B4:Hid (Below w.heap.size w w4):=Lib.hid (B3.out.trans (hb4.mono (by omega)))
 have Hx4:Hid (OwnsU w4 w2.heap.size (.slice xo X.length xc) X):=Lib.hid (ownsRow_olds Hx3.out O34.out)
 have Hy4:=Lib.hid hy
 clear hy hb4
 have LX:Hid (∀k,(Value.slice xo X.length xc).ownBlock=some k→w2.heap.size≤k∧k<w3.heap.size):=Lib.hid (fun k hk=>ownsRow_block Hx3.out hk)
 have LY:Hid (∀k,(Value.slice yo X.length yc).ownBlock=some k→w3.heap.size≤k∧k<w4.heap.size):=Lib.hid (fun k hk=>ownsRow_block Hy4.out hk)
 go_wp2_with fail
 refine (whole_series o n c l w4 Hl.out h60 Hes.out (Hlent.out.olds O24.out) (Hc.out.olds (Olds.of_below B4.out))).mono ?_
 rintro e w5 ⟨rfl,q5,rfl⟩
 have B5:Hid (Below w.heap.size w (w4.drewN q5)):=Lib.hid (B4.out.trans ⟨rfl,rfl,rfl,Nat.le_refl _,fun _ _=>rfl⟩)
 have O45:Hid (Olds w4 (w4.drewN q5)):=Lib.hid (Olds.drewN _ _)
 have S5:(w4.drewN q5).heap.size=w4.heap.size:=rfl
 generalize w4.drewN q5=w5 at *
 go_wp2_with fail
 refine (spoil_series w2 w5 Hlent.out (O24.out.trans O45.out)).mono ?_
 rintro e w6 ⟨rfl,hw6⟩
 have Hx6:Hid (OwnsU w6 w2.heap.size (.slice xo X.length xc) X):=Lib.hid (owns_within (ownsRow_olds Hx4.out O45.out) hw6 (Nat.le_refl _))
 have Hy6:Hid (OwnsU w6 w3.heap.size (.slice yo X.length yc) X):=Lib.hid (owns_within (ownsRow_olds Hy4.out O45.out) hw6 S3)
 have B6:Hid (Below w.heap.size w w6):=Lib.hid (B5.out.trans (hw6.below.mono (by omega)))
 have S6:w6.heap.size=w5.heap.size:=hw6.size
 clear hw6
 go_wp2_with fail
 refine (HR.out w6 o c B6.out (Hc.out.olds (Olds.of_below B6.out))).mono ?_
 rintro e w7 ⟨zo,zc,rfl,hz,hb7⟩
 have S7:w6.heap.size≤w7.heap.size:=hb7.size
 have O67:Hid (Olds w6 w7):=Lib.hid (Olds.of_below hb7)
 have B7:Hid (Below w.heap.size w w7):=Lib.hid (B6.out.trans (hb7.mono (by omega)))
 have Hx7:Hid (OwnsU w7 w2.heap.size (.slice xo X.length xc) X):=Lib.hid (ownsRow_olds Hx6.out O67.out)
 have Hy7:Hid (OwnsU w7 w3.heap.size (.slice yo X.length yc) X):=Lib.hid (ownsRow_olds Hy6.out O67.out)
 have Hz7o:Hid (OwnsU w7 w6.heap.size (.slice zo X.length zc) X):=Lib.hid hz
 clear hz hb7
 go_wp2_with fail
 have HB0:Hid (BookAt (w7.alloc (.cells #[.slice none 0 0,.slice none 0 0,.slice none 0 0,.slice none 0 0,.slice none 0 0,.slice none 0 0,.slice none 0 0,.slice none 0 0,.slice none 0 0,.slice none 0 0,.slice none 0 0,.slice none 0 0,.slice none 0 0,.slice none 0 0,.slice none 0 0,.slice none 0 0,.slice none 0 0,.slice none 0 0,.slice none 0 0,.slice none 0 0,.slice none 0 0,.slice none 0 0,.slice none 0 0,.slice none 0 0,.slice none 0 0,.slice none 0 0,.slice none 0 0,.slice none 0 0,.slice none 0 0,.slice none 0 0,.slice none 0 0,.slice none 0 0] 67)) w7.heap.size []):=Lib.hid ⟨.slice none 0 0,heap_alloc_new w7 _,⟨rfl,.inl ⟨rfl,rfl⟩⟩⟩
 have B8:Hid (Below w.heap.size w (w7.alloc (.cells #[.slice none 0 0,.slice none 0 0,.slice none 0 0,.slice none 0 0,.slice none 0 0,.slice none 0 0,.slice none 0 0,.slice none 0 0,.slice none 0 0,.slice none 0 0,.slice none 0 0,.slice none 0 0,.slice none 0 0,.slice none 0 0,.slice none 0 0,.slice none 0 0,.slice none 0 0,.slice none 0 0,.slice none 0 0,.slice none 0 0,.slice none 0 0,.slice none 0 0,.slice none 0 0,.slice none 0 0,.slice none 0 0,.slice none 0 0,.slice none 0 0,.slice none 0 0,.slice none 0 0,.slice none 0 0,.slice none 0 0,.slice none 0 0] 67))):=Lib.hid (B7.out.alloc (by omega) _)
 have O78:Hid (Olds w7 (w7.alloc (.cells #[.slice none 0 0,.slice none 0 0,.slice none 0 0,.slice none 0 0,.slice none 0 0,.slice none 0 0,.slice none 0 0,.slice none 0 0,.slice none 0 0,.slice none 0 0,.slice none 0 0,.slice none 0 0,.slice none 0 0,.slice none 0 0,.slice none 0 0,.slice none 0 0,.slice none 0 0,.slice none 0 0,.slice none 0 0,.slice none 0 0,.slice none 0 0,.slice none 0 0,.slice none 0 0,.slice none 0 0,.slice none 0 0,.slice none 0 0,.slice none 0 0,.slice none 0 0,.slice none 0 0,.slice none 0 0,.slice none 0 0,.slice none 0 0] 67))):=Lib.hid (Olds.alloc _ _)
 have S8:(w7.alloc (.cells #[.slice none 0 0,.slice none 0 0,.slice none 0 0,.slice none 0 0,.slice none 0 0,.slice none 0 0,.slice none 0 0,.slice none 0 0,.slice none 0 0,.slice none 0 0,.slice none 0 0,.slice none 0 0,.slice none 0 0,.slice none 0 0,.slice none 0 0,.slice none 0 0,.slice none 0 0,.slice none 0 0,.slice none 0 0,.slice none 0 0,.slice none 0 0,.slice none 0 0,.slice none 0 0,.slice none 0 0,.slice none 0 0,.slice none 0 0,.slice none 0 0,.slice none 0 0,.slice none 0 0,.slice none 0 0,.slice none 0 0,.slice none 0 0] 67)).heap.size=w7.heap.size+1:=by simp
 generalize w7.alloc (.cells #[.slice none 0 0,.slice none 0 0,.slice none 0 0,.slice none 0 0,.slice none 0 0,.slice none 0 0,.slice none 0 0,.slice none 0 0,.slice none 0 0,.slice none 0 0,.slice none 0 0,.slice none 0 0,.slice none 0 0,.slice none 0 0,.slice none 0 0,.slice none 0 0,.slice none 0 0,.slice none 0 0,.slice none 0 0,.slice none 0 0,.slice none 0 0,.slice none 0 0,.slice none 0 0,.slice none 0 0,.slice none 0 0,.slice none 0 0,.slice none 0 0,.slice none 0 0,.slice none 0 0,.slice none 0 0,.slice none 0 0,.slice none 0 0] 67)=w8 at *
 refine (book_bytes w8 HB0.out (by simp)).mono ?_
 rintro e w9 ⟨rfl,hbook,hbb⟩
 have HB1:Hid (BookAt w9 w7.heap.size [.slice xo X.length xc]):=Lib.hid hbook
 have BB1:Hid (Below w7.heap.size w8 w9):=Lib.hid hbb
 clear hbook hbb
 go_wp2_with fail
 refine (book_bytes w9 HB1.out (by simp)).mono ?_
 rintro e w10 ⟨rfl,hbook,hbb⟩
 have HB2:Hid (BookAt w10 w7.heap.size [.slice xo X.length xc,.slice yo X.length yc]):=Lib.hid hbook
 have BB:Hid (Below w7.heap.size w8 w10):=Lib.hid (BB1.out.trans hbb)
 clear hbook hbb
 go_wp2_with fail
 have B10:Hid (Below w.heap.size w w10):=Lib.hid (B8.out.trans (BB.out.mono (by omega)))
 have S10:w8.heap.size≤w10.heap.size:=BB.out.size
 have keep:∀{T:Nat}{v:Value}{zs:List Int},OwnsU w7 T v zs→(∀k,v.ownBlock=some k→k<w7.heap.size)→OwnsU w10 T v zs:=fun h hk=>ownsRow_blocks (ownsRow_olds h O78.out) fun g hg=>BB.out.block g (hk g hg)
 have Hx10:Hid (OwnsU w10 w2.heap.size (.slice xo X.length xc) X):=Lib.hid (keep Hx7.out fun k hk=>by have:=LX.out k hk;omega)
 have Hy10:Hid (OwnsU w10 w3.heap.size (.slice yo X.length yc) X):=Lib.hid (keep Hy7.out fun k hk=>by have:=LY.out k hk;omega)
 have Hz10:Hid (UAt w10 (.slice zo X.length zc) X):=Lib.hid ((keep Hz7o.out fun k hk=>(ownsRow_block Hz7o.out hk).2).ints)
 clear HB0 HB1 BB1 keep
 have HK:=Lib.hid (Hk.out w10 B10.out)
 clear Hk
 go_wp2_with (first
  | (go_at_call 11;refine HK.out.mono ?_;clear HK;rintro e w11 ⟨rfl,hb⟩;have O1:Hid (Olds w10 w11):=(Lib.hid (Olds.of_below hb));have B11:Hid (Below w.heap.size w w11):=(Lib.hid (B10.out.trans (hb.mono (by omega))));have HQ1:=Lib.hid (same_bytes xo zo X.length xc zc X w11 rfl (by have:=HX6.out;omega) (Hx10.out.ints.olds O1.out) (Hz10.out.olds O1.out));clear hb)
  | (go_at_call 12;refine HQ1.out.mono ?_;clear HQ1;rintro e w12 ⟨rfl,q12,hw12⟩;have O2:Hid (Olds w10 w12):=(Lib.hid (by rw [hw12];exact O1.out.trans (Olds.drewN _ _)));have B12:Hid (Below w.heap.size w w12):=(Lib.hid (by rw [hw12];exact B11.out.trans ⟨rfl,rfl,rfl,Nat.le_refl _,fun _ _=>rfl⟩));have HQ2:=Lib.hid (same_bytes yo zo X.length yc zc X w12 rfl (by have:=HX6.out;omega) (Hy10.out.ints.olds O2.out) (Hz10.out.olds O2.out));clear hw12)
  | (go_at_call 12;refine HQ2.out.mono ?_;clear HQ2;rintro e w13 ⟨rfl,q13,hw13⟩;have O3:Hid (Olds w10 w13):=(Lib.hid (by rw [hw13];exact O2.out.trans (Olds.drewN _ _)));have B13:Hid (Below w.heap.size w w13):=(Lib.hid (by rw [hw13];exact B12.out.trans ⟨rfl,rfl,rfl,Nat.le_refl _,fun _ _=>rfl⟩));have HO:=Lib.hid (own_two (B:=w.heap.size) (s1:=w2.heap.size) (s2:=w3.heap.size) (s3:=w4.heap.size) (HB2.out.olds O3.out) (Hx10.out.olds O3.out) (Hy10.out.olds O3.out) LX.out LY.out (by omega) (by omega) S3 S4 HX6.out HX6.out (by have:=O3.out.1;omega) B13.out.size);clear hw13)
  | (go_at_call 13;refine HO.out.mono ?_;clear HO;rintro e w14 ⟨rfl,hb⟩;have B14:Hid (Below w.heap.size w w14):=(Lib.hid (B13.out.trans hb));clear hb))
 go_ret
 exact⟨rfl,B14.out⟩
end Go.Proofs.YtbecggfbblnglaaGreatDoor
