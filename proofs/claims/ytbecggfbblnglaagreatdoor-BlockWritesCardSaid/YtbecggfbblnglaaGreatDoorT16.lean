/- Contracts over this program. Their conditions: the slices read as the lists that are named, and lie within the sizes that are named. -/
import Derived.Test.YtbecggfbblnglaaGreatDoorT11
import Derived.StillTailTactics
import Derived.Test.YtbecggfbblnglaaGreatDoorP0
set_option linter.unusedSimpArgs false
set_option linter.unusedVariables false
set_option linter.deprecated false
set_option linter.unnecessarySimpa false
namespace Go.Proofs.YtbecggfbblnglaaGreatDoor
open Go Go.RowKit Go.Ix
set_option maxRecDepth 20000 in
set_option maxHeartbeats 1000000 in
theorem entry_any {w0 w:World}{B blk mb:Nat}{K:Nat→Prop}{sy:Value}{bs:List Nat}{ss:List Txt}{e1:List Lbl}{e2:List Plc}(o1 o2:Option Addr) (n1 c1 n2 c2:Nat)
  (hB:w0.heap.size=B) (hb:Below B w0 w) (hK0:∀b,b<B→K b) (hK:∀b,K b→b<w.heap.size) (hmb:K mb)
  (hbuf:Buf w B blk K sy (.map (some mb)) bs) (hnum:NumAt w mb ss) (hr1:Rows2 w0 o1 e1) (hr2:Rows5 w0 o2 e2) (hl1:e1.length=n1) (hl2:e2.length=n2)
  (hn1:n1≤64) (hn2:n2≤4000) (hmem:∀y∈e1,(y.1∈ss∧y.2∈ss)∧y.1.length≤1000000000∧y.2.length≤1000000000) (hss:ss.length≤8000) (hpl:PlcsOk e2) (hbl:bs.length≤100000000) :
  Calls Tryz.prog 99 #[.pointer (some ⟨blk,0,none⟩),.agg #[.slice o1 n1 c1,.slice o2 n2 c2]] w fun e w'=>e=.returned (.tuple #[])∧Buf w' B blk K sy (.map (some mb)) (bs++entPart ss (e1,e2))∧Kept K w w':=by
 have hBw:B≤w.heap.size:=by have:=hb.size;omega
 obtain⟨A,hA⟩:∃A:World,A=w.alloc (.cells #[.slice o1 n1 c1,.slice o2 n2 c2] 93):=⟨_,rfl⟩
 have hAs:A.heap.size=w.heap.size+1:=by rw [hA];simp
 have hAb:A.heap[w.heap.size]?=some (.cells #[.slice o1 n1 c1,.slice o2 n2 c2] 93 (0,0)):=by rw [hA];exact heap_alloc_new _ _
 have hA0:A.cell? ⟨w.heap.size,0,none⟩=some (.slice o1 n1 c1):=by simp [World.cell?,hAb]
 have hA1:A.cell? ⟨w.heap.size,1,none⟩=some (.slice o2 n2 c2):=by simp [World.cell?,hAb]
 have HoA:Hid (Olds w A):=Lib.hid (by rw [hA];exact Olds.alloc _ _)
 obtain⟨K1,hK1⟩:∃K1:Nat→Prop,K1=fun b=>K b∨b=w.heap.size:=⟨_,rfl⟩
 have HK1:Hid (∀b,K1 b→b<A.heap.size):=Lib.hid (fun b hb=>by
  rw [hK1] at hb
  rcases hb with hb | rfl
  ·have:=hK b hb
   omega
  ·omega)
 have HKK:Hid (∀b,K b→K1 b):=Lib.hid (fun b hb=>by rw [hK1];exact .inl hb)
 have HKe:Hid (K1 w.heap.size):=Lib.hid (by rw [hK1];exact .inr rfl)
 have Hbuf:Hid (Buf A B blk K1 sy (.map (some mb)) bs):=Lib.hid (by rw [hK1];exact (hbuf.more (Nat.le_refl _)).olds HoA.out)
 have Hnum:Hid (NumAt A mb ss):=Lib.hid (hnum.olds HoA.out)
 have HkA:Hid (Kept K w A):=Lib.hid (by rw [hA];exact (Kept.refl _ _).alloc hK _)
 have HO:Hid (∀W,Kept K1 A W→Olds w0 W):=Lib.hid (fun W hW=>Olds.of_below (by
  have h1:Below B A W:=hW.below fun b hb=>HKK.out b (hK0 b hb)
  have h2:Below B w0 A:=hb.trans (HkA.out.below hK0)
  have:=h2.trans h1
  rwa [← hB] at this))
 have HAe:=Lib.hid hA
 have Hr1:=Lib.hid hr1
 have Hr2:=Lib.hid hr2
 have Hl1:=Lib.hid hl1
 have Hl2:=Lib.hid hl2
 have Hmem:=Lib.hid hmem
 have Hpl:=Lib.hid hpl
 have Hmb:=Lib.hid (HKK.out mb hmb)
 clear hA hAb hK1 hr1 hr2 hl1 hl2 hmem hpl hbuf hnum hK0 hK hmb hb
 have hdr0:∀X,X=A.drew→X.cell? ⟨w.heap.size,0,none⟩=some (.slice o1 n1 c1)∧Hid (Kept K1 A X)∧Hid (Buf X B blk K1 sy (.map (some mb)) bs)∧X.heap.size=A.heap.size:=fun X hX=>by
  subst hX
  exact⟨hA0,Lib.hid ((Kept.refl _ _).drewN 1),Lib.hid (Hbuf.out.olds (Olds.drewN A 1)),rfl⟩
 go_enter Tryz.func99,Tryz.ntmps99
 go_wp2_with fail
 rw [← HAe.out]
 have hw1:IntKind.u64.wrap (n1:Int)=(n1:Int):=by rw [IntKind.wrap_u64];omega
 have hw2:IntKind.u64.wrap (n2:Int)=(n2:Int):=by rw [IntKind.wrap_u64];omega
 refine wp_region_still_tail 7 (by kernel_rfl) (by kernel_rfl) ?_
 simp only [List.take_succ_cons,List.take_zero,List.drop_succ_cons,List.drop_zero]
 change wpStill _ _ (World.drew _) (fun a'=>wpList _ _ _ _ a' (World.drew _)) _ _
 generalize hX:World.drew _=X
 obtain⟨hx0,HkX,HbX,hXs⟩:=hdr0 X hX.symm
 clear hX hdr0
 repeat still_step
 try refine wpStill_nil ?_
 have HL0:=Lib.hid (low_any (K:=K1) n1 1 HbX.out (fun b hb=>by have:=HK1.out b hb;omega) (by omega) (by omega) (by decide) (by omega))
 go_wp2_with (go_at_call 101;refine HL0.out.mono ?_;clear HL0;rintro e w4 ⟨rfl,hb4,hk4⟩;have Hb4:=Lib.hid hb4;have Hk4:=Lib.hid (HkX.out.trans hk4);have hc40:=(HkX.out.trans hk4).cell (p:=⟨w.heap.size,0,none⟩) HKe.out;rw [hA0] at hc40;clear hb4 hk4)
 go_loopw [5,19] (fun _ jv wr=>∃j:Nat,j≤n1∧jv=.int .i64 j∧Buf wr B blk K1 sy (.map (some mb)) (bs++low 1 n1++(e1.take j).flatMap (lblPart ss))∧Kept K1 A wr) (fun _ jv _=>n1-(intOf jv).toNat)
 case atStart=>exact⟨0,Nat.zero_le _,rfl,by rw [List.take_zero,List.flatMap_nil,List.append_nil];exact Hb4.out,Hk4.out⟩
 case round =>
  obtain⟨j,hj,rfl,hbr,hkr⟩:=hrel
  have Hbr:=Lib.hid hbr
  have Hkr:=Lib.hid hkr
  have hszr:=hkr.size
  have hlq:(bs++low 1 n1++(e1.take j).flatMap (lblPart ss)).length≤200000000:=by
   rw [List.length_append,List.length_append,low_len,flat_const_len (lblPart_len ss),List.length_take]
   omega
  clear hbr hkr
  by_cases hjn:j<n1
  ·obtain⟨b2,off2,y1,y2,rfl,hy,hy1,hy2⟩:=Hr1.out.at (k:=j) (by rw [Hl1.out];exact hjn)
   obtain⟨⟨hm1,hm2⟩,hly1,hly2⟩:=Hmem.out _ (List.mem_of_getElem? hy)
   simp only at hm1 hm2 hly1 hly2
   have hyr1:=(HO.out wr Hkr.out).cell hy1
   have hyr2:=(HO.out wr Hkr.out).cell hy2
   have Hy:=Lib.hid hy
   have hi1:=idx_lt hm1
   have hi2:=idx_lt hm2
   obtain⟨Y,hY⟩:∃Y:World,Y=wr.alloc (.cells #[encStr y1,encStr y2] 80):=⟨_,rfl⟩
   obtain⟨K2,hK2⟩:∃K2:Nat→Prop,K2=fun b=>K1 b∨b=wr.heap.size:=⟨_,rfl⟩
   have hYs:Y.heap.size=wr.heap.size+1:=by rw [hY];simp
   have hYb:Y.heap[wr.heap.size]?=some (.cells #[encStr y1,encStr y2] 80 (0,0)):=by rw [hY];exact heap_alloc_new _ _
   have HoY:Hid (Olds wr Y):=Lib.hid (by rw [hY];exact Olds.alloc _ _)
   have HbY:Hid (Buf Y B blk K2 sy (.map (some mb)) (bs++low 1 n1++(e1.take j).flatMap (lblPart ss))):=Lib.hid (by rw [hK2];exact (Hbr.out.more (Nat.le_refl _)).olds HoY.out)
   have HkY:Hid (Kept K1 A Y):=Lib.hid (by rw [hY];exact Hkr.out.alloc HK1.out _)
   have HnY:Hid (NumAt Y mb ss):=Lib.hid (Hnum.out.kept HkY.out Hmb.out)
   have HK2:Hid (∀b,K2 b→b<Y.heap.size):=Lib.hid (fun b hb=>by
    rw [hK2] at hb
    rcases hb with hb | rfl
    ·have:=HK1.out b hb
     omega
    ·omega)
   have HK21:Hid (∀b,K1 b→K2 b):=Lib.hid (fun b hb=>by rw [hK2];exact .inl hb)
   have HK2e:Hid (K2 wr.heap.size):=Lib.hid (by rw [hK2];exact .inr rfl)
   have hY0:Y.cell? ⟨wr.heap.size,0,none⟩=some (encStr y1):=by simp [World.cell?,hYb]
   have HY1:Hid (Y.cell? ⟨wr.heap.size,1,none⟩=some (encStr y2)):=Lib.hid (by simp [World.cell?,hYb])
   have Htk:Hid (bs++low 1 n1++(e1.take (j+1)).flatMap (lblPart ss)=(bs++low 1 n1++(e1.take j).flatMap (lblPart ss))++low 4 (idx ss y1)++low 4 (idx ss y2)):=Lib.hid (by
    rw [take_snoc hy,List.flatMap_append]
    simp [lblPart,List.append_assoc])
   have HYe:=Lib.hid hY
   have hdr1:∀X,X=Y.drew→X.cell? ⟨wr.heap.size,0,none⟩=some (encStr y1)∧X.cell? ⟨blk,2,none⟩=some (.map (some mb))∧(Instr.lookup 237 (.map (some mb)) (encStr y1) false).run Tryz.prog X=.ok (.int .i64 (idx ss y1:Nat)) X∧Hid (Kept K2 Y X)∧Hid (Buf X B blk K2 sy (.map (some mb)) (bs++low 1 n1++(e1.take j).flatMap (lblPart ss)))∧X.heap.size=Y.heap.size:=fun X hX=>by
    subst hX
    have hb9:=HbY.out.olds (Olds.drewN Y 1)
    exact⟨hY0,hb9.cells.choose_spec.2.2,(HnY.out.olds (Olds.drewN Y 1)).look hm1 hly1,Lib.hid ((Kept.refl _ _).drewN 1),Lib.hid hb9,rfl⟩
   have hdr2g:∀W,Kept K2 Y W→Buf W B blk K2 sy (.map (some mb)) (bs++low 1 n1++(e1.take j).flatMap (lblPart ss)++low 4 (idx ss y1))→∀X,X=W.drew→X.cell? ⟨wr.heap.size,1,none⟩=some (encStr y2)∧X.cell? ⟨blk,2,none⟩=some (.map (some mb))∧(Instr.lookup 237 (.map (some mb)) (encStr y2) false).run Tryz.prog X=.ok (.int .i64 (idx ss y2:Nat)) X∧Hid (Kept K2 Y X)∧Hid (Buf X B blk K2 sy (.map (some mb)) (bs++low 1 n1++(e1.take j).flatMap (lblPart ss)++low 4 (idx ss y1)))∧X.heap.size=W.heap.size:=fun W hkW hbW X hX=>by
    subst hX
    have hb9:=hbW.olds (Olds.drewN W 1)
    exact⟨(hkW.cell (p:=⟨wr.heap.size,1,none⟩) HK2e.out).trans HY1.out,hb9.cells.choose_spec.2.2,((HnY.out.kept hkW (HK21.out _ Hmb.out)).olds (Olds.drewN W 1)).look hm2 hly2,Lib.hid (hkW.drewN 1),Lib.hid hb9,rfl⟩
   have Hdr2:=Lib.hid hdr2g
   clear hy hy1 hy2 hY hYb hK2 hdr2g
   generalize hBS:bs++low 1 n1++(e1.take j).flatMap (lblPart ss)=BS at *
   have HBS:=Lib.hid hBS
   clear hBS
   generalize idx ss y1=i1 at *
   generalize idx ss y2=i2 at *
   go_wp2_with fail
   rw [← HYe.out]
   refine wp_region_still_tail 8 (by kernel_rfl) (by kernel_rfl) ?_
   simp only [List.take_succ_cons,List.take_zero,List.drop_succ_cons,List.drop_zero]
   change wpStill _ _ (World.drew _) (fun a'=>wpList _ _ _ _ a' (World.drew _)) _ _
   generalize hX:World.drew _=X1
   obtain⟨hx10,hx12,hlk1,HkX1,HbX1,hXs1⟩:=hdr1 X1 hX.symm
   clear hX hdr1
   repeat still_step
   try refine wpStill_nil ?_
   have HL1:=Lib.hid (count_any (K:=K2) i1 HbX1.out (fun b hb=>by have:=HK2.out b hb;omega) (by omega) (by omega) (by omega))
   go_wp2_with (go_at_call 98;refine HL1.out.mono ?_;clear HL1;rintro e w5 ⟨rfl,hb5,hk5⟩;have hs5:=hk5.size;have hdr2:=Hdr2.out w5 (HkX1.out.trans hk5) hb5;clear hb5 hk5 Hdr2)
   refine wp_region_still_tail 8 (by kernel_rfl) (by kernel_rfl) ?_
   simp only [List.take_succ_cons,List.take_zero,List.drop_succ_cons,List.drop_zero]
   change wpStill _ _ (World.drew _) (fun a'=>wpList _ _ _ _ a' (World.drew _)) _ _
   generalize hX:World.drew _=X2
   obtain⟨hx20,hx22,hlk2,HkX2,HbX2,hXs2⟩:=hdr2 X2 hX.symm
   clear hX hdr2
   repeat still_step
   try refine wpStill_nil ?_
   have HL2:=Lib.hid (count_any (K:=K2) i2 HbX2.out (fun b hb=>by have:=HK2.out b hb;omega) (by omega) (by omega) (by rw [List.length_append,low_len];omega))
   go_wp2_with (go_at_call 98;refine HL2.out.mono ?_;clear HL2;rintro e w6 ⟨rfl,hb6,hk6⟩;have Hb6:=Lib.hid hb6;have Hk6:=Lib.hid (HkY.out.trans ((HkX2.out.trans hk6).mono HK21.out));clear hb6 hk6)
   go_roundw
   case rel=>exact⟨j+1,by omega,by go_num,by rw [Htk.out];exact Hb6.out.less HK21.out,Hk6.out⟩
   case measure=>simp [intOf];omega
  ·have Hall:Hid (bs++low 1 n1++(e1.take j).flatMap (lblPart ss)=bs++low 1 n1++e1.flatMap (lblPart ss)):=Lib.hid (by rw [List.take_of_length_le (l:=e1) (by rw [Hl1.out];omega)])
   have hcr1:=(Hkr.out.cell (p:=⟨w.heap.size,1,none⟩) HKe.out).trans hA1
   have HL1:=Lib.hid (count_any (K:=K1) n2 Hbr.out (fun b hb=>by have:=HK1.out b hb;omega) (by omega) (by omega) (by omega))
   have HL1b:Hid (∀w5,Kept K1 wr w5→w5.cell? ⟨w.heap.size,1,none⟩=some (.slice o2 n2 c2)):=Lib.hid (fun w5 h5=>(h5.cell (p:=⟨w.heap.size,1,none⟩) HKe.out).trans hcr1)
   go_wp2_with (go_at_call 98;refine HL1.out.mono ?_;clear HL1;rintro e w5 ⟨rfl,hb5,hk5⟩;have hc51:=HL1b.out w5 hk5;have Hb5:=Lib.hid hb5;have Hk5:=Lib.hid (Hkr.out.trans hk5);clear hb5 hk5)
   go_loopw [7,50] (fun _ jv wr=>∃q:Nat,q≤n2∧jv=.int .i64 q∧Buf wr B blk K1 sy (.map (some mb)) (bs++low 1 n1++e1.flatMap (lblPart ss)++low 4 n2++(e2.take q).flatMap plcPart)∧Kept K1 A wr) (fun _ jv _=>n2-(intOf jv).toNat)
   case atStart=>exact⟨0,Nat.zero_le _,rfl,by rw [List.take_zero,List.flatMap_nil,List.append_nil,← Hall.out];exact Hb5.out,Hk5.out⟩
   case round =>
    obtain⟨q,hq,rfl,hbr,hkr⟩:=hrel
    have Hbq:=Lib.hid hbr
    have Hkq:=Lib.hid hkr
    have hszq:=hkr.size
    have hlz:(bs++low 1 n1++e1.flatMap (lblPart ss)++low 4 n2++(e2.take q).flatMap plcPart).length≤300000000:=by
     rw [List.length_append,List.length_append,List.length_append,List.length_append,low_len,low_len,flat_const_len (lblPart_len ss),flat_const_len plcPart_len,List.length_take,Hl1.out]
     omega
    clear hbr hkr
    generalize hS:bs++low 1 n1++e1.flatMap (lblPart ss)++low 4 n2=S at *
    have HS:=Lib.hid hS
    clear hS
    generalize hZ:S++(e2.take q).flatMap plcPart=Z at *
    have HZ:=Lib.hid hZ
    clear hZ
    by_cases hqn:q<n2
    ·obtain⟨b5,off5,p,rfl,hp,hp0,hp1,hp2,hp3,hp4⟩:=Hr2.out.at (k:=q) (by rw [Hl2.out];exact hqn)
     obtain⟨h01,h02,h03,h04,h05,h06,h07,h08,h09⟩:=Hpl.out.plc (List.mem_of_getElem? hp)
     unfold far at h02 h03
     have hq0:=(HO.out wr Hkq.out).cell hp0
     have hq1:=(HO.out wr Hkq.out).cell hp1
     have hq2:=(HO.out wr Hkq.out).cell hp2
     have hq3:=(HO.out wr Hkq.out).cell hp3
     have hq4:=(HO.out wr Hkq.out).cell hp4
     have Htk:Hid (S++(e2.take (q+1)).flatMap plcPart=Z++low 8 (Go.Ix.u64 p.fr)++low 8 (Go.Ix.u64 p.til)++low 2 (Go.Ix.u64 p.num)++low 4 (Go.Ix.u64 p.pos)++low 4 (Go.Ix.u64 p.siz)):=Lib.hid (by
      rw [take_snoc hp,List.flatMap_append,← List.append_assoc,HZ.out]
      simp [plcPart,List.append_assoc])
     clear hp hp0 hp1 hp2 hp3 hp4
     obtain⟨p0,p1,p2,p3,p4⟩:=p
     simp only at hq0 hq1 hq2 hq3 hq4 h01 h02 h03 h04 h05 h06 h07 h08 h09
     obtain⟨k2,rfl⟩:=Int.eq_ofNat_of_zero_le (show 0≤p2 by omega)
     obtain⟨k3,rfl⟩:=Int.eq_ofNat_of_zero_le (show 0≤p3 by omega)
     obtain⟨k4,rfl⟩:=Int.eq_ofNat_of_zero_le (show 0≤p4 by omega)
     rw [u64_nat (n:=k2) (by omega),u64_nat (n:=k3) (by omega),u64_nat (n:=k4) (by omega)] at Htk
     have hwk2:IntKind.u64.wrap (k2:Int)=(k2:Int):=by rw [IntKind.wrap_u64];omega
     have hw0:IntKind.u64.wrap p0=((Go.Ix.u64 p0:Nat):Int):=wrap_u64k p0
     have hw1':IntKind.u64.wrap p1=((Go.Ix.u64 p1:Nat):Int):=wrap_u64k p1
     have hu0:=u64_below p0
     have hu1:=u64_below p1
     generalize Go.Ix.u64 p0=k0 at *
     generalize Go.Ix.u64 p1=k1 at *
     obtain⟨Y,hY⟩:∃Y:World,Y=wr.alloc (.cells #[.int .i64 p0,.int .i64 p1,.int .i64 (k2:Int),.int .i64 (k3:Int),.int .i64 (k4:Int)] 100):=⟨_,rfl⟩
     obtain⟨K2,hK2⟩:∃K2:Nat→Prop,K2=fun b=>K1 b∨b=wr.heap.size:=⟨_,rfl⟩
     have hYs:Y.heap.size=wr.heap.size+1:=by rw [hY];simp
     have hYb:Y.heap[wr.heap.size]?=some (.cells #[.int .i64 p0,.int .i64 p1,.int .i64 (k2:Int),.int .i64 (k3:Int),.int .i64 (k4:Int)] 100 (0,0)):=by rw [hY];exact heap_alloc_new _ _
     have HoY:Hid (Olds wr Y):=Lib.hid (by rw [hY];exact Olds.alloc _ _)
     have HbY:Hid (Buf Y B blk K2 sy (.map (some mb)) Z):=Lib.hid (by rw [hK2];exact (Hbq.out.more (Nat.le_refl _)).olds HoY.out)
     have HkY:Hid (Kept K1 A Y):=Lib.hid (by rw [hY];exact Hkq.out.alloc HK1.out _)
     have HK2:Hid (∀b,K2 b→b<Y.heap.size):=Lib.hid (fun b hb=>by
      rw [hK2] at hb
      rcases hb with hb | rfl
      ·have:=HK1.out b hb
       omega
      ·omega)
     have HK21:Hid (∀b,K1 b→K2 b):=Lib.hid (fun b hb=>by rw [hK2];exact .inl hb)
     have HK2e:Hid (K2 wr.heap.size):=Lib.hid (by rw [hK2];exact .inr rfl)
     have HY5:Hid (Y.cell? ⟨wr.heap.size,0,none⟩=some (.int .i64 p0)∧Y.cell? ⟨wr.heap.size,1,none⟩=some (.int .i64 p1)∧Y.cell? ⟨wr.heap.size,2,none⟩=some (.int .i64 (k2:Int))∧Y.cell? ⟨wr.heap.size,3,none⟩=some (.int .i64 (k3:Int))∧Y.cell? ⟨wr.heap.size,4,none⟩=some (.int .i64 (k4:Int))):=Lib.hid (by simp [World.cell?,hYb])
     have HCK:Hid (∀W,Kept K2 Y W→W.cell? ⟨wr.heap.size,0,none⟩=some (.int .i64 p0)∧W.cell? ⟨wr.heap.size,1,none⟩=some (.int .i64 p1)∧W.cell? ⟨wr.heap.size,2,none⟩=some (.int .i64 (k2:Int))∧W.cell? ⟨wr.heap.size,3,none⟩=some (.int .i64 (k3:Int))∧W.cell? ⟨wr.heap.size,4,none⟩=some (.int .i64 (k4:Int))):=Lib.hid (fun W hW=>⟨(hW.cell (p:=⟨wr.heap.size,0,none⟩) HK2e.out).trans HY5.out.1,(hW.cell (p:=⟨wr.heap.size,1,none⟩) HK2e.out).trans HY5.out.2.1,(hW.cell (p:=⟨wr.heap.size,2,none⟩) HK2e.out).trans HY5.out.2.2.1,(hW.cell (p:=⟨wr.heap.size,3,none⟩) HK2e.out).trans HY5.out.2.2.2.1,(hW.cell (p:=⟨wr.heap.size,4,none⟩) HK2e.out).trans HY5.out.2.2.2.2⟩)
     have HYe:=Lib.hid hY
     have hdrg:∀(W:World) (bs':List Nat),Kept K2 Y W→Buf W B blk K2 sy (.map (some mb)) bs'→∀X,X=W.drew→(X.cell? ⟨wr.heap.size,0,none⟩=some (.int .i64 p0)∧X.cell? ⟨wr.heap.size,1,none⟩=some (.int .i64 p1)∧X.cell? ⟨wr.heap.size,2,none⟩=some (.int .i64 (k2:Int))∧X.cell? ⟨wr.heap.size,3,none⟩=some (.int .i64 (k3:Int))∧X.cell? ⟨wr.heap.size,4,none⟩=some (.int .i64 (k4:Int)))∧Hid (Kept K2 Y X)∧Hid (Buf X B blk K2 sy (.map (some mb)) bs')∧X.heap.size=W.heap.size:=fun W bs' hkW hbW X hX=>by
      subst hX
      exact⟨HCK.out _ (hkW.drewN 1),Lib.hid (hkW.drewN 1),Lib.hid (hbW.olds (Olds.drewN W 1)),rfl⟩
     have Hdr:=Lib.hid hdrg
     have hdr1:=hdrg Y Z (Kept.refl _ _) HbY.out
     clear hY hYb hK2 hdrg
     go_wp2_with fail
     rw [← HYe.out]
     refine wp_region_still_tail 6 (by kernel_rfl) (by kernel_rfl) ?_
     simp only [List.take_succ_cons,List.take_zero,List.drop_succ_cons,List.drop_zero]
     change wpStill _ _ (World.drew _) (fun a'=>wpList _ _ _ _ a' (World.drew _)) _ _
     generalize hX:World.drew _=X1
     obtain⟨⟨hx0,hx1,hx2,hx3,hx4⟩,HkX1,HbX1,hXs1⟩:=hdr1 X1 hX.symm
     clear hX hdr1
     repeat still_step
     try refine wpStill_nil ?_
     have HL1:=Lib.hid (low_any (K:=K2) k0 8 HbX1.out (fun b hb=>by have:=HK2.out b hb;omega) (by omega) hu0 (by decide) (by omega))
     clear hx0 hx1 hx2 hx3 hx4
     go_wp2_with (go_at_call 101;refine HL1.out.mono ?_;clear HL1;rintro e w6 ⟨rfl,hb6,hk6⟩;have hs6:=hk6.size;have hdr2:=Hdr.out w6 _ (HkX1.out.trans hk6) hb6;clear hb6 hk6)
     refine wp_region_still_tail 6 (by kernel_rfl) (by kernel_rfl) ?_
     simp only [List.take_succ_cons,List.take_zero,List.drop_succ_cons,List.drop_zero]
     change wpStill _ _ (World.drew _) (fun a'=>wpList _ _ _ _ a' (World.drew _)) _ _
     generalize hX:World.drew _=X2
     obtain⟨⟨hx0,hx1,hx2,hx3,hx4⟩,HkX2,HbX2,hXs2⟩:=hdr2 X2 hX.symm
     clear hX hdr2
     repeat still_step
     try refine wpStill_nil ?_
     have HL2:=Lib.hid (low_any (K:=K2) k1 8 HbX2.out (fun b hb=>by have:=HK2.out b hb;omega) (by omega) hu1 (by decide) (by rw [List.length_append,low_len];omega))
     clear hx0 hx1 hx2 hx3 hx4
     go_wp2_with (go_at_call 101;refine HL2.out.mono ?_;clear HL2;rintro e w7 ⟨rfl,hb7,hk7⟩;have hs7:=hk7.size;have hdr3:=Hdr.out w7 _ (HkX2.out.trans hk7) hb7;clear hb7 hk7)
     refine wp_region_still_tail 6 (by kernel_rfl) (by kernel_rfl) ?_
     simp only [List.take_succ_cons,List.take_zero,List.drop_succ_cons,List.drop_zero]
     change wpStill _ _ (World.drew _) (fun a'=>wpList _ _ _ _ a' (World.drew _)) _ _
     generalize hX:World.drew _=X3
     obtain⟨⟨hx0,hx1,hx2,hx3,hx4⟩,HkX3,HbX3,hXs3⟩:=hdr3 X3 hX.symm
     clear hX hdr3
     repeat still_step
     try refine wpStill_nil ?_
     have HL3:=Lib.hid (low_any (K:=K2) k2 2 HbX3.out (fun b hb=>by have:=HK2.out b hb;omega) (by omega) (by omega) (by decide) (by rw [List.length_append,List.length_append,low_len,low_len];omega))
     clear hx0 hx1 hx2 hx3 hx4
     go_wp2_with (first
      | (go_at_call 101;refine HL3.out.mono ?_;clear HL3;rintro e w8 ⟨rfl,hb8,hk8⟩;have hs8:=hk8.size;have hk8':=HkX3.out.trans hk8;obtain⟨hx0,hx1,hx2,hx3,hx4⟩:=HCK.out w8 hk8';have Hk8:=Lib.hid hk8';have HL4:=Lib.hid (count_any (K:=K2) k3 hb8 (fun b hb=>by have:=HK2.out b hb;omega) (by omega) (by omega) (by rw [List.length_append,List.length_append,List.length_append,low_len,low_len,low_len];omega));clear hb8 hk8 hk8')
      | (go_at_call 98;refine HL4.out.mono ?_;clear HL4;rintro e w9 ⟨rfl,hb9,hk9⟩;have hs9:=hk9.size;have hk9':=Hk8.out.trans hk9;clear hx0 hx1 hx2 hx3 hx4;obtain⟨hx0,hx1,hx2,hx3,hx4⟩:=HCK.out w9 hk9';have Hk9:=Lib.hid hk9';have HL5:=Lib.hid (count_any (K:=K2) k4 hb9 (fun b hb=>by have:=HK2.out b hb;omega) (by omega) (by omega) (by rw [List.length_append,List.length_append,List.length_append,List.length_append,low_len,low_len,low_len,low_len];omega));clear hb9 hk9 hk9')
      | (go_at_call 98;refine HL5.out.mono ?_;clear HL5;rintro e wa ⟨rfl,hba,hka⟩;have Hba:=Lib.hid hba;have Hka:=Lib.hid (HkY.out.trans ((Hk9.out.trans hka).mono HK21.out));clear hba hka))
     go_roundw
     case rel=>exact⟨q+1,by omega,by go_num,by rw [Htk.out];exact Hba.out.less HK21.out,Hka.out⟩
     case measure=>simp [intOf];omega
    ·have Hend:Hid (bs++entPart ss (e1,e2)=Z):=Lib.hid (by
      unfold entPart
      simp only
      rw [Hl1.out,Hl2.out,← HZ.out,← HS.out,List.take_of_length_le (l:=e2) (by rw [Hl2.out];omega)]
      simp [List.append_assoc])
     go_wp2_with fail
     go_end0
     exact⟨rfl,by rw [Hend.out];exact Hbq.out.less HKK.out,HkA.out.trans (Hkq.out.mono HKK.out)⟩
end Go.Proofs.YtbecggfbblnglaaGreatDoor
