/- Contracts over this program. Their conditions: the slices read as the lists that are named, and lie within the sizes that are named. -/
import Derived.Test.YtbecggfbblnglaaGreatDoorT14
import Derived.Test.YtbecggfbblnglaaGreatDoorT11
import Derived.Deep.RegionHeld
import Derived.Deep.CutRange
set_option linter.unusedSimpArgs false
set_option linter.unusedVariables false
set_option linter.deprecated false
set_option linter.unnecessarySimpa false
namespace Go.Proofs.YtbecggfbblnglaaGreatDoor
open Go Go.RowKit Go.Ix Go.Maps
theorem Small2.app {q r:List ((Nat×Nat)×Nat)}(h:Small2 q) (k:Small2 r):Small2 (q++r):=fun x hx=>by
 rcases List.mem_append.1 hx with hx | hx
 ·exact h x hx
 ·exact k x hx
theorem small_seqsL {ss:List Txt}{i:Nat}{l:List Lbl}(h:∀y∈l,y.1∈ss∧y.2∈ss) (hl:ss.length≤1000000000):Small2 (seqsL ss i l):=fun x hx=>by
 obtain⟨y,hy,rfl⟩:=List.mem_map.1 hx
 obtain⟨h1,h2⟩:=h y hy
 have:=idx_lt h1
 have:=idx_lt h2
 exact⟨by show idx ss y.1≤_;omega,by show idx ss y.2≤_;omega⟩
theorem small_seqsFrom {ss:List Txt}{i:Nat}{l:List Ent}(h:∀e∈l,∀y∈e.1,y.1∈ss∧y.2∈ss) (hl:ss.length≤1000000000):Small2 (seqsFrom ss i l):=by
 induction l generalizing i with
 | nil=>intro x hx;simp [seqsFrom] at hx
 | cons e l ih=>exact (small_seqsL (h e (by simp)) hl).app (ih fun x hx=>h x (by simp [hx]))
theorem seqsL_len (ss:List Txt) (i:Nat) (l:List Lbl):(seqsL ss i l).length=l.length:=by simp [seqsL]
theorem seqsL_snoc (ss:List Txt) (i:Nat) (l:List Lbl) (y:Lbl):seqsL ss i (l++[y])=seqsL ss i l++[((idx ss y.1,idx ss y.2),i)]:=by simp [seqsL]
theorem seqsFrom_len (ss:List Txt) (i:Nat) (l:List Ent):(seqsFrom ss i l).length=lblsOf l:=by
 induction l generalizing i with
 | nil=>rfl
 | cons e l ih =>
  show (seqsL ss i e.1++seqsFrom ss (i+1) l).length=_
  rw [List.length_append,seqsL_len,ih]
  rfl
theorem seqs_len (ss:List Txt) (l:List Ent):(seqs ss l).length=lblsOf l:=seqsFrom_len ss 0 l
theorem Buf.range {w:World}{B blk:Nat}{K:Nat→Prop}{sy nm:Value}{bs:List Nat}(h:Buf w B blk K sy nm bs) (X:Nat):Buf w B blk (fun b=>K b∨(w.heap.size≤b∧b<X)) sy nm bs:=by
 have hlt:=h.lt
 refine h.also (fun h=>by omega) fun v g hv hg h2=>?_
 obtain⟨_,_,v',h3,h4,_⟩:=h
 have hc:w.cell? ⟨blk,0,none⟩=some v':=by simp [World.cell?,h3]
 rw [hc] at hv
 cases hv
 have:=(ownsRow_block h4 hg).2
 omega
theorem GrpAt.kept {w W:World}{base mb n:Nat}{q:List ((Nat×Nat)×Nat)}{V:Nat×Nat→Value}{K:Nat→Prop}(h:GrpAt w base mb n q V) (hk:Kept K w W) (hK:∀b,mb≤b→b<w.heap.size→K b):GrpAt W base mb n q V :=
 h.keep (hk.block mb (hK mb (Nat.le_refl _) h.lt)) fun p g hp hg=>hk.block g (by
  obtain⟨h1,h2⟩:=h.block hp hg
  obtain⟨D,_,a3,_⟩:=h
  exact hK g (by omega) h2)
set_option maxRecDepth 20000 in
set_option maxHeartbeats 1000000 in
theorem postings_any {w:World}{B blk nb:Nat}{K:Nat→Prop}{sy:Value}{bs:List Nat}{ss:List Txt}(o:Option Addr) (n c:Nat) (l:List Ent) (hn:l.length=n) (hs:Small l) (hL:lblsOf l≤4000) (hc:RowsE w o l)
  (hss:ss=symbols l) (hsl:ss.length≤8000) (hB:B≤w.heap.size) (hK:∀b,K b→b<w.heap.size) (hnb:K nb) (hbuf:Buf w B blk K sy (.map (some nb)) bs) (hnum:NumAt w nb ss) (hbl:bs.length≤10000000000) (h60:n≤60)
  (hg60:∀p,∀z∈grp (seqs ss l) p,z<n) :
  Calls Tryz.prog 100 #[.pointer (some ⟨blk,0,none⟩),.slice o n c] w fun e w'=>e=.returned (.tuple #[])∧Buf w' B blk K sy (.map (some nb)) (bs++postPart ss.length (grp (seqs ss l)))∧Kept K w w':=by
 have Hc:=Lib.hid hc
 have Hs:=Lib.hid hs
 have Hn:=Lib.hid hn
 have HL:=Lib.hid hL
 have HK:=Lib.hid hK
 have Hbuf:=Lib.hid hbuf
 have Hnum:=Lib.hid hnum
 have Hss:=Lib.hid hss
 have Hg60:=Lib.hid hg60
 have hmm:=@run_makeMap Tryz.prog
 have hm:=hs.1
 have hblk:=hbuf.lt
 have hnblt:=hK nb hnb
 have Hmem:Hid (∀e∈l,∀y∈e.1,y.1∈ss∧y.2∈ss):=Lib.hid (fun e he y hy=>by rw [hss];exact texts_mem he hy)
 rw [hn] at hm
 clear hc hs hn hL hK hbuf hnum hss hg60
 go_enter Tryz.func100,Tryz.ntmps100
 go_wp2_with fail
 go_loopw [5,6,8,9,18] (fun _ _ _ _ iv wr=>∃(k q:Nat) (V:Nat×Nat→Value),k≤n∧iv=.int .i64 k∧Below w.heap.size w wr∧q≤(seqs ss (l.take k)).length∧GrpAt wr (w.heap.size+1) w.heap.size q (seqs ss (l.take k)) V) (fun _ _ _ _ iv _=>n-(intOf iv).toNat)
 case atStart=>exact⟨0,0,fun _=>undef,Nat.zero_le _,rfl,(Below.refl _ w).alloc (Nat.le_refl _) _,Nat.zero_le _,by rw [List.take_zero];exact GrpAt.made w _⟩
 case round =>
  obtain⟨k,q,V,hk,rfl,hb,hq,hgrp⟩:=hrel
  have Hb:=Lib.hid hb
  have hsz:=hb.size
  have Hgrp:=Lib.hid hgrp
  have Hq:=Lib.hid hq
  have hlt0:=hgrp.lt
  clear hb hgrp hq
  by_cases hlt:k<n
  ·obtain⟨b,off,e1,e2,o1,n1,c1,o2,n2,c2,rfl,hx,hc1,hc2,hl1,hl2,hr1,hr2,_⟩:=Hc.out.at (k:=k) (by rw [Hn.out];exact hlt)
   obtain⟨hs1,hs2,hs3⟩:=Hs.out.ent hx
   have hcr1:=(Olds.of_below Hb.out).cell hc1
   have hcr2:=(Olds.of_below Hb.out).cell hc2
   have hn1:n1≤1000000000:=by omega
   have Hx:=Lib.hid hx
   have Hr1:=Lib.hid hr1
   have Hl1:=Lib.hid hl1
   have HS3:=Lib.hid hs3
   have hcap:(seqs ss (l.take k)).length+n1≤4000:=by
    have h1:=lblsOf_at hx
    have h2:=HL.out
    rw [seqs_len]
    simp only at h1
    omega
   have HM1:Hid (∀y∈e1,y.1∈ss∧y.2∈ss):=Lib.hid (Hmem.out _ (List.mem_of_getElem? hx))
   have HQ1:Hid (Small2 (seqs ss (l.take k))):=Lib.hid (small_seqsFrom (fun e he=>Hmem.out e (List.mem_of_mem_take he)) (by omega))
   clear hx hr1 hr2 hl1 hl2 hs3 hc1 hc2
   go_wp2_with fail
   go_loopw [8,9,26] (fun _ _ jv wq=>∃(j q:Nat) (V:Nat×Nat→Value),j≤n1∧jv=.int .i64 j∧Below w.heap.size w wq∧q≤(seqs ss (l.take k)++seqsL ss k (e1.take j)).length∧GrpAt wq (w.heap.size+1) w.heap.size q (seqs ss (l.take k)++seqsL ss k (e1.take j)) V) (fun _ _ jv _=>n1-(intOf jv).toNat)
   case atStart=>exact⟨0,q,V,Nat.zero_le _,rfl,Hb.out.alloc hsz _,by rw [List.take_zero];show _≤(_++[]).length;rw [List.append_nil];exact Hq.out,by rw [List.take_zero];show GrpAt _ _ _ _ (_++[]) _;rw [List.append_nil];exact Hgrp.out.olds (Olds.alloc _ _)⟩
   case round =>
    obtain⟨j,q2,V2,hj,rfl,hbq,hq2,hgrp2⟩:=hrel
    have Hbq:=Lib.hid hbq
    have hszq:=hbq.size
    have Hgrp2:=Lib.hid hgrp2
    have hlt2:=hgrp2.lt
    have Hq2:=Lib.hid hq2
    have hq2b:q2≤4000:=by
     rw [List.length_append,seqsL_len,List.length_take] at hq2
     have h1:=Hl1.out
     omega
    clear hbq hgrp2 hq2
    by_cases hjn:j<n1
    ·obtain⟨b2,off2,y1,y2,rfl,hy,hy1,hy2⟩:=Hr1.out.at (k:=j) (by rw [Hl1.out];exact hjn)
     obtain⟨hly1,hly2⟩:=HS3.out _ (List.mem_of_getElem? hy)
     obtain⟨hm1,hm2⟩:=HM1.out _ (List.mem_of_getElem? hy)
     simp only at hly1 hly2 hm1 hm2
     have hyq1:=(Olds.of_below Hbq.out).cell hy1
     have hyq2:=(Olds.of_below Hbq.out).cell hy2
     have Hy:=Lib.hid hy
     have hi1:=idx_lt hm1
     have hi2:=idx_lt hm2
     obtain⟨Y,hY⟩:∃Y:World,Y=wr.alloc (.cells #[encStr y1,encStr y2] 80):=⟨_,rfl⟩
     have hYb:Y.heap[wr.heap.size]?=some (.cells #[encStr y1,encStr y2] 80 (0,0)):=by rw [hY];exact heap_alloc_new _ _
     have HbY:Hid (Below w.heap.size w Y):=Lib.hid (by rw [hY];exact Hbq.out.alloc hszq _)
     have HgY:Hid (GrpAt Y (w.heap.size+1) w.heap.size q2 (seqs ss (l.take k)++seqsL ss k (e1.take j)) V2):=Lib.hid (by rw [hY];exact Hgrp2.out.olds (Olds.alloc _ _))
     have hYs:Y.heap.size=wr.heap.size+1:=by rw [hY];simp
     have hw0:Olds w Y:=Olds.of_below HbY.out
     have hnY:=Hnum.out.olds hw0
     have hbY:=Hbuf.out.olds hw0
     obtain⟨_,_,_,z2,_⟩:=hbY.there
     have z0:Y.cell? ⟨wr.heap.size,0,none⟩=some (encStr y1):=by simp only [World.cell?,hYb];rfl
     have z1:Y.cell? ⟨wr.heap.size,1,none⟩=some (encStr y2):=by simp only [World.cell?,hYb];rfl
     have HS:Hid (∀W,Olds Y W→W.cell? ⟨wr.heap.size,0,none⟩=some (encStr y1)∧W.cell? ⟨wr.heap.size,1,none⟩=some (encStr y2)∧W.cell? ⟨blk,2,none⟩=some (.map (some nb))∧(Instr.lookup 237 (.map (some nb)) (encStr y1) false).run Tryz.prog W=.ok (.int .i64 (idx ss y1:Nat)) W∧(Instr.lookup 237 (.map (some nb)) (encStr y2) false).run Tryz.prog W=.ok (.int .i64 (idx ss y2:Nat)) W):=Lib.hid (fun W hW=>⟨hW.cell z0,hW.cell z1,hW.cell z2,(hnY.olds hW).look hm1 hly1,(hnY.olds hW).look hm2 hly2⟩)
     have HYe:=Lib.hid hY
     obtain⟨s0,s1,s2,s3,s4⟩:=HS.out Y.drew (Olds.drewN Y 1)
     clear hy hy1 hy2 hY hYb z0 z1 z2 hnY hbY hw0
     generalize hI1:idx ss y1=i1 at *
     generalize hI2:idx ss y2=i2 at *
     have Hi1:=Lib.hid hI1
     have Hi2:=Lib.hid hI2
     clear hI1 hI2
     go_upto_region 7 with fail
     rw [← HYe.out]
     go_cut [9] from 30 to 44 (fun t9 wx=>t9=.pointer (some ⟨wr.heap.size+1,0,none⟩)∧Below Y.heap.size Y wx∧wx.heap[wr.heap.size+1]?=some (.cells #[.int .i64 (i1:Int),.int .i64 (i2:Int)] 314 (0,0)))
     case first =>
      go_region_held (fun W=>W.cell? ⟨wr.heap.size,0,none⟩=some (encStr y1)∧W.cell? ⟨wr.heap.size,1,none⟩=some (encStr y2)∧W.cell? ⟨blk,2,none⟩=some (.map (some nb))∧(Instr.lookup 237 (.map (some nb)) (encStr y1) false).run Tryz.prog W=.ok (.int .i64 (i1:Nat)) W∧(Instr.lookup 237 (.map (some nb)) (encStr y2) false).run Tryz.prog W=.ok (.int .i64 (i2:Nat)) W) (first | exact HS.out _ (Olds.drewN Y 1) | exact HS.out _ ((Olds.drewN Y 1).trans (Olds.alloc _ _))) (fail)
      all_goals (go_wp2_with fail;go_meet;case rel=>exact⟨rfl,below_drewN ((Below.refl _ Y).alloc (Nat.le_refl _) _) 1,by have h9:=heap_alloc_new Y (.cells #[.int .i64 (i1:Int),.int .i64 (i2:Int)] 314);rw [hYs] at h9;exact h9⟩)
     case rest =>
     obtain⟨rfl,hbx,hwx⟩:=hcut
     generalize wc=wx at *
     have h10:wx.cell? ⟨wr.heap.size+1,0,none⟩=some (.int .i64 (i1:Int)):=by simp only [World.cell?,hwx];rfl
     have h11:wx.cell? ⟨wr.heap.size+1,1,none⟩=some (.int .i64 (i2:Int)):=by simp only [World.cell?,hwx];rfl
     have Hgx:Hid (∀W,Olds wx W→GrpAt W (w.heap.size+1) w.heap.size q2 (seqs ss (l.take k)++seqsL ss k (e1.take j)) V2):=Lib.hid (fun W hW=>(HgY.out.olds (Olds.of_below hbx)).olds hW)
     have hszx:=hbx.size
     have Hbx:Hid (Below w.heap.size w wx):=Lib.hid (HbY.out.trans (hbx.mono (by omega)))
     have Htk:Hid (seqs ss (l.take k)++seqsL ss k (e1.take (j+1))=seqs ss (l.take k)++seqsL ss k (e1.take j)++[((i1,i2),k)]):=Lib.hid (by
      rw [take_snoc Hy.out,seqsL_snoc,Hi1.out,Hi2.out,List.append_assoc])
     have HQ0:Hid (Small2 (seqs ss (l.take k)++seqsL ss k (e1.take j))):=Lib.hid (HQ1.out.app (small_seqsL (fun y hy=>HM1.out y (List.mem_of_mem_take hy)) (by omega)))
     have Hq2':=Lib.hid Hq2.out
     have hlq:(seqs ss (l.take k)++seqsL ss k (e1.take j)).length≤4000:=by
      rw [List.length_append,seqsL_len,List.length_take]
      have h1:=Hl1.out
      omega
     have hkn:k≤60:=by omega
     clear s0 s1 s2 s3 s4 hbx hwx HgY Hq2
     generalize hQ0:seqs ss (l.take k)++seqsL ss k (e1.take j)=Q0 at *
     have HQe:=Lib.hid hQ0
     have hgl:(grp Q0 (i1,i2)).length≤4000:=Nat.le_trans (grp_len Q0 _) hlq
     clear hQ0
     generalize hL0:(grp Q0 (i1,i2)).length=L0 at *
     have HL0:=Lib.hid hL0
     clear hL0
     obtain⟨t0,hi3,hz30,hz31,hz32⟩:=info_parts Tryz.info3
     have Hinfo:=Lib.hid (And.intro hi3 (And.intro hz30 (And.intro hz31 hz32)))
     clear hi3 hz30 hz31 hz32
     go_wp2_with (first
      | (refine wpList_grp_entry rfl _ _ rfl (w.heap.size+1) w.heap.size q2 Q0 V2 (i1,i2) rfl rfl (Hgx.out _ (Olds.alloc _ _)) HQ0.out (by simp only;omega) (by simp only;omega) (by omega) ?_;intro v0 st w1 hg1 hs1 hrow0 hst;unfold RowI at hrow0;rw [HL0.out] at hrow0;obtain⟨o0,c0,hv0,_⟩:=ownsRow_shape hrow0;subst hv0;have Hg1:=Lib.hid hg1;have Hrow0:=Lib.hid hrow0;have Hst:=Lib.hid hst;have hs1':w1.heap.size=wx.heap.size+1:=(by rw [hs1];simp);have Hfl:Hid (FlatAt w1 (.slice (some ⟨wx.heap.size,0,none⟩) 1 1) 1 [.int .i64 (k:Int)]):=Lib.hid ⟨_,_,rfl,(fun h=>by cases h),fun _=>⟨wx.heap.size,0,rfl,fun t u hu=>(by have hb9:(wx.alloc (.cells #[.int .i64 (k:Int)] 3)).heap[wx.heap.size]?=some (.cells #[.int .i64 (k:Int)] 3 (0,0)):=heap_alloc_new _ _;have hb8:w1.heap[wx.heap.size]?=some (.cells #[.int .i64 (k:Int)] 3 (0,0)):=(hg1.block wx.heap.size (by simp) (fun e=>by have:=Option.some.inj e;omega)).trans hb9;have ht0:t=0:=(by have:=(List.getElem?_eq_some_iff.1 hu).1;simp at this;omega);subst ht0;simp only [World.cell?,hb8];exact hu)⟩⟩;clear hg1 hs1 hrow0 hst Hgx)
      | (at_builtin;refine wpList_append_flat rfl _ _ rfl Tryz.underlying181 size3 Hinfo.out.1 Hinfo.out.2.1 Hinfo.out.2.2.1 Hinfo.out.2.2.2 rfl (by decide) (by decide) (w.heap.size+1) L0 1 (.slice o0 L0 c0) (.slice (some ⟨wx.heap.size,0,none⟩) 1 1) (nats (grp Q0 (i1,i2))) [.int .i64 (k:Int)] rfl rfl Hrow0.out (by omega) Hfl.out rfl (by simp [Value.oneCell']) (by omega) ?_;intro v2 w2 hown2 hg2 hat2;have Hown2:=Lib.hid hown2;have Hg2:=Lib.hid hg2;have Hat2:=Lib.hid hat2;clear hown2 hg2 hat2)
      | (refine wpList_grp_store rfl _ _ _ rfl (w.heap.size+1) w.heap.size q2 Q0 V2 (i1,i2) (.slice o0 L0 c0) st w1 Hst.out v2 k rfl rfl rfl Hg2.out (by unfold RowI nats;rw [List.map_append,List.length_append,HL0.out];exact Hown2.out) (Hat2.out.imp id (fun h=>⟨_,h,Nat.le_refl _⟩)) ?_;intro w3 hgrp3 hg3;have Hgrp3:=Lib.hid hgrp3;have Hg3:=Lib.hid hg3;clear hgrp3 hg3))
     have HbW:Hid (Below w.heap.size w w3):=Lib.hid (by
      have b1:Below w.heap.size w (wx.alloc (.cells #[.int .i64 (k:Int)] 3)):=Hbx.out.alloc Hbx.out.size _
      have b2:Below w.heap.size w w1:=b1.grown Hg1.out b1.size (fun g e=>by cases e;exact Nat.le_refl _)
      have b3:Below w.heap.size w w2:=b2.grown Hg2.out b2.size (fun g e=>by have:=(ownsRow_block Hrow0.out e).1;omega)
      exact b3.grown Hg3.out b3.size (fun g e=>by cases e;exact Nat.le_refl _))
     have HqN:Hid (q2+1≤(seqs ss (l.take k)++seqsL ss k (e1.take (j+1))).length):=Lib.hid (by
      rw [Htk.out,List.length_append]
      have:=Hq2'.out
      simp only [List.length_cons,List.length_nil]
      omega)
     go_roundw
     case rel=>exact⟨j+1,q2+1,_,by omega,by go_num,HbW.out,HqN.out,by rw [Htk.out];exact Hgrp3.out⟩
     case measure=>simp [intOf];omega
    ·go_wp2_with fail
     go_roundw
     case rel=>exact⟨k+1,q2,V2,by omega,by go_num,Hbq.out,by
      have h9:=Hq2.out
      rw [List.take_of_length_le (l:=e1) (by rw [Hl1.out];omega)] at h9
      rw [take_snoc Hx.out,seqs_snoc,List.length_take,Hn.out,Nat.min_eq_left (by omega)]
      exact h9,by
      have h9:=Hgrp2.out
      rw [List.take_of_length_le (l:=e1) (by rw [Hl1.out];omega)] at h9
      rw [take_snoc Hx.out,seqs_snoc,List.length_take,Hn.out,Nat.min_eq_left (by omega)]
      exact h9⟩
     case measure=>simp [intOf];omega
  ·have Hgrp9:Hid (GrpAt wr (w.heap.size+1) w.heap.size q (seqs ss l) V):=Lib.hid (by
    have h9:=Hgrp.out
    rwa [List.take_of_length_le (l:=l) (by rw [Hn.out];omega)] at h9)
   have hq4:q≤4000:=by
    have h9:=Hq.out
    rw [List.take_of_length_le (l:=l) (by rw [Hn.out];omega),seqs_len] at h9
    have h1:=HL.out
    omega
   have HQs:Hid (Small2 (seqs ss l)):=Lib.hid (small_seqsFrom Hmem.out (by omega))
   have Hlq:Hid ((seqs ss l).length≤4000):=Lib.hid (by rw [seqs_len];exact HL.out)
   have Hpairs:Hid (∀ks:List (Nat×Nat),Rising ks→(∀p,p∈ks↔grp (seqs ss l) p≠[])→ks=pairs ss.length (grp (seqs ss l))):=Lib.hid (fun ks h1 h2=>by
    have h3:=Hss.out
    subst h3
    exact keys_pairs h1 h2)
   have Hb1:Hid (Buf wr B blk (fun b=>K b∨(w.heap.size≤b∧b<wr.heap.size)) sy (.map (some nb)) bs):=Lib.hid ((Hbuf.out.range wr.heap.size).olds (Olds.of_below Hb.out))
   obtain⟨K1,hK1⟩:∃K1:Nat→Prop,K1=fun b=>K b∨(w.heap.size≤b∧b<wr.heap.size):=⟨_,rfl⟩
   rw [← hK1] at Hb1
   have HK1b:Hid (∀b,K1 b→b<wr.heap.size):=Lib.hid (fun b hb=>by
    rw [hK1] at hb
    rcases hb with h | h
    ·have:=HK.out b h
     omega
    ·exact h.2)
   have HK1g:Hid (∀b,w.heap.size≤b→b<wr.heap.size→K1 b):=Lib.hid (fun b h1 h2=>by rw [hK1];exact .inr ⟨h1,h2⟩)
   have HK1K:Hid (∀b,K b→K1 b):=Lib.hid (fun b h=>by rw [hK1];exact .inl h)
   have Hkr:Hid (Kept K w wr):=Lib.hid (Kept.of_below Hb.out HK.out)
   obtain⟨D,hownD,hsizeD⟩:=Hgrp9.out.sized
   have Hsz:Hid (Maps.size D=(pairs ss.length (grp (seqs ss l))).length):=Lib.hid (hsizeD _ (rising_nodup (pairs_rising _ _)) (fun p=>by
    have h3:=Hss.out
    subst h3
    rw [mem_pairs]
    refine⟨fun h=>h.2,fun h=>⟨?_,h⟩⟩
    obtain⟨i,hi⟩:=grp_ne.1 h
    exact seqs_lt hi))
   have HownD:=Lib.hid hownD
   have Hplen:Hid ((pairs ss.length (grp (seqs ss l))).length≤4000):=Lib.hid (by
    have h1:=grp_len_le (q:=seqs ss l) (ss:=pairs ss.length (grp (seqs ss l))) (rising_nodup (pairs_rising _ _)) (fun p=>by
     have h3:=Hss.out
     subst h3
     rw [mem_pairs]
     refine⟨fun h=>h.2,fun h=>⟨?_,h⟩⟩
     obtain⟨i,hi⟩:=grp_ne.1 h
     exact seqs_lt hi)
    have:=Hlq.out
    omega)
   have Hpost:Hid (postPart ss.length (grp (seqs ss l))=low 4 (pairs ss.length (grp (seqs ss l))).length++(pairs ss.length (grp (seqs ss l))).flatMap (pairPart (grp (seqs ss l)))):=Lib.hid rfl
   have HGl:Hid (∀p,(grp (seqs ss l) p).length≤4000):=Lib.hid (fun p=>Nat.le_trans (grp_len _ p) Hlq.out)
   have HkeysLen:Hid (∀ks:List (Nat×Nat),ks.Nodup→(∀p,p∈ks↔grp (seqs ss l) p≠[])→ks.length≤1000000):=Lib.hid (fun ks h1 h2=>by
    have:=grp_len_le h1 h2
    have:=Hlq.out
    omega)
   clear Hgrp Hq hK1 hownD hsizeD
   generalize hPS:pairs ss.length (grp (seqs ss l))=PS at *
   have HPS:=Lib.hid hPS
   clear hPS
   generalize hnk:PS.length=nk at *
   have Hnk:=Lib.hid hnk
   clear hnk
   have hnk4:=Hplen.out
   have HC:=Lib.hid (count_any (K:=K1) nk Hb1.out (fun b hb=>HK1b.out b hb) (by omega) (by omega) (by omega))
   go_wp2_with (first
    | (at_len;refine wpList_len_own _ rfl _ 312 rfl 314 181 Tryz.underlying312 RV w.heap.size q D rfl HownD.out ?_;rw [Hsz.out])
    | (go_at_call 98;refine HC.out.mono ?_;clear HC;rintro e wc ⟨rfl,hbc,hkc⟩;have Hbc:=Lib.hid hbc;have Hkc:=Lib.hid hkc;have Hgc:=Lib.hid (Hgrp9.out.kept hkc HK1g.out);have hszc:=hkc.size;clear hbc hkc)
    | (go_at_call 155;refine (keysP90_any _ _).mono ?_;rintro e wd0 ⟨rfl,rfl⟩)
    | (go_at_call 154;refine (sortedfunc_any HQs.out Hgc.out (by omega) HkeysLen.out).mono ?_;rintro e wd ⟨o5,c5,ks,rfl,hpairs,hblk5,hris5,hks5,hbd⟩;have hke:=Hpairs.out ks hris5 hks5;rw [hke] at hpairs;rw [hke,Hnk.out];have Hps:=Lib.hid hpairs;have Hblk5:=Lib.hid hblk5;have Hbd:=Lib.hid hbd;clear hpairs hblk5 hris5 hks5 hbd hke))
   have Hod:Hid (Olds wc wd):=Lib.hid (Olds.of_below (((Below.refl _ wc).alloc (Nat.le_refl _) _).trans (Hbd.out.mono (by omega))))
   have hszd:=Hod.out.1
   have Hgd:Hid (GrpAt wd (w.heap.size+1) w.heap.size q (seqs ss l) V):=Lib.hid (Hgc.out.olds Hod.out)
   have Hb2:Hid (Buf wd B blk (fun b=>K1 b∨(wc.heap.size≤b∧b<wd.heap.size)) sy (.map (some nb)) (bs++low 4 nk)):=Lib.hid ((Hbc.out.range wd.heap.size).olds Hod.out)
   obtain⟨K2,hK2⟩:∃K2:Nat→Prop,K2=fun b=>K1 b∨(wc.heap.size≤b∧b<wd.heap.size):=⟨_,rfl⟩
   rw [← hK2] at Hb2
   have HK2b:Hid (∀b,K2 b→b<wd.heap.size):=Lib.hid (fun b hb=>by
    rw [hK2] at hb
    rcases hb with h | h
    ·have:=HK1b.out b h
     omega
    ·exact h.2)
   have HK2K:Hid (∀b,K b→K2 b):=Lib.hid (fun b h=>by rw [hK2];exact .inl (HK1K.out b h))
   have HK2g:Hid (∀b,w.heap.size≤b→b<wd.heap.size→K1 b∨(wc.heap.size≤b∧b<wd.heap.size)→K2 b):=Lib.hid (fun b _ _ h=>by rw [hK2];exact h)
   have HK2r:Hid (∀b,w.heap.size≤b→b<wr.heap.size→K2 b):=Lib.hid (fun b h1 h2=>by rw [hK2];exact .inl (HK1g.out b h1 h2))
   have HK2p:Hid (∀b off,o5=some ⟨b,off,none⟩→K2 b):=Lib.hid (fun b off h=>by
    obtain⟨h1,h2⟩:=Hblk5.out b off h
    rw [hK2]
    exact .inr ⟨by omega,h2⟩)
   have Hkd:Hid (Kept K w wd):=Lib.hid ((Hkr.out.trans (Hkc.out.mono HK1K.out)).trans (by
    have h1:Below wc.heap.size wc wd:=((Below.refl _ wc).alloc (Nat.le_refl _) _).trans (Hbd.out.mono (by omega))
    exact Kept.of_below h1 fun b hb=>by have:=HK.out b hb;omega))
   have Hgw:Hid (∀W,Kept K2 wd W→GrpAt W (w.heap.size+1) w.heap.size q (seqs ss l) V):=Lib.hid (fun W hW=>Hgd.out.keep (hW.block _ (HK2r.out _ (Nat.le_refl _) hlt0)) fun p g hp hg=>hW.block g (by
    obtain⟨h1,h2⟩:=Hgrp9.out.block hp hg
    exact HK2r.out g (by omega) h2))
   clear hK2 HownD
   generalize hG:grp (seqs ss l)=G at *
   have HGe:=Lib.hid hG
   clear hG
   have hK2d:=HK2b.out
   have HK2d:=Lib.hid hK2d
   clear hK2d
   have Hlen:Hid (∀k,(bs++low 4 nk++(PS.take k).flatMap (pairPart G)).length≤20000000000):=Lib.hid (fun k=>by
    have key:∀t:List (Nat×Nat),(t.flatMap (pairPart G)).length≤t.length * 16012:=by
     intro t
     induction t with
     | nil=>simp
     | cons p t ih =>
      rw [List.flatMap_cons,List.length_append,List.length_cons,Nat.add_mul,pairPart_len]
      have:=HGl.out p
      omega
    have h1:=key (PS.take k)
    have h2:(PS.take k).length≤nk:=by rw [List.length_take,Hnk.out];omega
    rw [List.length_append,List.length_append,low_len]
    have h3:(PS.take k).length * 16012≤4000 * 16012:=Nat.mul_le_mul_right _ (by omega)
    omega)
   go_loopw [12,14,64] (fun _ _ iv wx=>∃k:Nat,k≤nk∧iv=.int .i64 k∧Buf wx B blk K2 sy (.map (some nb)) (bs++low 4 nk++(PS.take k).flatMap (pairPart G))∧Kept K2 wd wx) (fun _ _ iv _=>nk-(intOf iv).toNat)
   case atStart=>exact⟨0,Nat.zero_le _,rfl,by rw [List.take_zero];show Buf _ _ _ _ _ _ (_++[]);rw [List.append_nil];exact Hb2.out,Kept.refl _ _⟩
   case round =>
    obtain⟨k2,hk2,rfl,hbx,hkx⟩:=hrel
    have Hbx:=Lib.hid hbx
    have Hkx:=Lib.hid hkx
    have hszx:=hkx.size
    clear hbx hkx
    by_cases hlt2:k2<nk
    ·obtain⟨p,hp⟩:∃p,PS[k2]?=some p:=⟨_,List.getElem?_eq_getElem (by rw [Hnk.out];exact hlt2)⟩
     obtain⟨g5,rfl,hcells⟩:=Hps.out (fun e=>by have:=Hnk.out;rw [e] at this;simp at this;omega)
     have hgk:K2 g5:=HK2p.out g5 0 rfl
     have hpin:grp (seqs ss l) p≠[]:=by
      rw [HGe.out]
      have h1:p∈PS:=List.mem_of_getElem? hp
      rw [← HPS.out] at h1
      exact (mem_pairs.1 h1).2
     obtain⟨q1,q2⟩:p.1≤1000000000∧p.2≤1000000000:=by
      obtain⟨i,hi⟩:=grp_ne.1 hpin
      exact HQs.out _ hi
     have hc0:wr.cell? ⟨g5,k2 * 2,none⟩=some (.int .i64 (p.1:Int)):=(Hkx.out.cell (p:=⟨g5,k2 * 2,none⟩) hgk).trans (by
      have:=CellsAt.elem (enc:=pcell) hcells pcell_len hp (i:=0) rfl
      simpa using this)
     have hc1:wr.cell? ⟨g5,k2 * 2+1,none⟩=some (.int .i64 (p.2:Int)):=(Hkx.out.cell (p:=⟨g5,k2 * 2+1,none⟩) hgk).trans (by
      have:=CellsAt.elem (enc:=pcell) hcells pcell_len hp (i:=1) rfl
      simpa using this)
     have Hpin:=Lib.hid hpin
     have Htk:Hid (bs++low 4 nk++(PS.take (k2+1)).flatMap (pairPart G)=(bs++low 4 nk++(PS.take k2).flatMap (pairPart G))++low 4 p.1++low 4 p.2++low 4 (G p).length++(G p).flatMap (fun i=>low 4 i)):=Lib.hid (by
      rw [take_snoc hp,List.flatMap_append]
      simp [pairPart,List.append_assoc])
     have hZl:=Hlen.out k2
     obtain⟨Y,hY⟩:∃Y:World,Y=wr.alloc (.cells #[.int .i64 (p.1:Int),.int .i64 (p.2:Int)] 314):=⟨_,rfl⟩
     obtain⟨K3,hK3⟩:∃K3:Nat→Prop,K3=fun b=>K2 b∨b=wr.heap.size:=⟨_,rfl⟩
     have hYs:Y.heap.size=wr.heap.size+1:=by rw [hY];simp
     have hYb:Y.heap[wr.heap.size]?=some (.cells #[.int .i64 (p.1:Int),.int .i64 (p.2:Int)] 314 (0,0)):=by rw [hY];exact heap_alloc_new _ _
     have HkY:Hid (Kept K2 wd Y):=Lib.hid (by rw [hY];exact Hkx.out.alloc HK2d.out _)
     have HbY:Hid (Buf Y B blk K3 sy (.map (some nb)) (bs++low 4 nk++(PS.take k2).flatMap (pairPart G))):=Lib.hid (by rw [hK3,hY];exact (Hbx.out.more (Nat.le_refl _)).olds (Olds.alloc _ _))
     have HK3b:Hid (∀b,K3 b→b<Y.heap.size):=Lib.hid (fun b hb=>by
      rw [hK3] at hb
      rcases hb with h | h
      ·have:=HK2d.out b h
       omega
      ·omega)
     have HK32:Hid (∀b,K2 b→K3 b):=Lib.hid (fun b h=>by rw [hK3];exact .inl h)
     have HK3w:Hid (K3 wr.heap.size):=Lib.hid (by rw [hK3];exact .inr rfl)
     have hy0:Y.cell? ⟨wr.heap.size,0,none⟩=some (.int .i64 (p.1:Int)):=by simp only [World.cell?,hYb];rfl
     have hy1:Y.cell? ⟨wr.heap.size,1,none⟩=some (.int .i64 (p.2:Int)):=by simp only [World.cell?,hYb];rfl
     obtain⟨hlkY,hrowY⟩:=(Hgw.out Y HkY.out).look HQs.out hpin
     obtain⟨o7,c7,hV7,_⟩:=ownsRow_shape hrowY
     rw [hV7] at hrowY hlkY
     have HW:Hid (∀W,Kept K3 Y W→W.cell? ⟨wr.heap.size,0,none⟩=some (.int .i64 (p.1:Int))∧W.cell? ⟨wr.heap.size,1,none⟩=some (.int .i64 (p.2:Int))∧(Instr.lookup 312 (.map (some w.heap.size)) (pv p) false).run Tryz.prog W=.ok (.slice o7 (grp (seqs ss l) p).length c7) W∧RowI W (w.heap.size+1) (.slice o7 (grp (seqs ss l) p).length c7) (grp (seqs ss l) p)):=Lib.hid (fun W hW=>by
      obtain⟨h1,h2⟩:=(Hgw.out W (HkY.out.trans (hW.mono HK32.out))).look HQs.out Hpin.out
      rw [hV7] at h1 h2
      exact⟨(hW.cell (p:=⟨wr.heap.size,0,none⟩) HK3w.out).trans hy0,(hW.cell (p:=⟨wr.heap.size,1,none⟩) HK3w.out).trans hy1,h1,h2⟩)
     have Hpv:Hid (pv p=.agg #[.int .i64 (p.1:Int),.int .i64 (p.2:Int)]):=Lib.hid rfl
     rw [Hpv.out,HGe.out] at HW
     have HGn:Hid (∀z∈G p,z<n):=Lib.hid (fun z hz=>by have:=Hg60.out p z (by simpa using hz);exact this)
     have hgl:=HGl.out p
     have HYe:=Lib.hid hY
     obtain⟨p1,p2⟩:=p
     simp only at hc0 hc1 hy0 hy1 q1 q2 HW Htk
     clear hp hcells hY hYb hK3 hlkY hrowY hpin
     generalize hGp:G (p1,p2)=zs at *
     have HGp:=Lib.hid hGp
     clear hGp
     generalize hZ:bs++low 4 nk++(PS.take k2).flatMap (pairPart G)=Z at *
     have HZ:=Lib.hid hZ
     clear hZ
     generalize hzn:zs.length=zn at *
     have Hzn:=Lib.hid hzn
     clear hzn
     have HCt:Hid (∀(W:World) (bs':List Nat) (num:Nat),Buf W B blk K3 sy (.map (some nb)) bs'→Kept K3 Y W→num<9223372036854775808→bs'.length≤100000000000→Calls Tryz.prog 98 #[.pointer (some ⟨blk,0,none⟩),.int .i64 num] W fun e w'=>e=.returned (.tuple #[])∧Buf w' B blk K3 sy (.map (some nb)) (bs'++low 4 num)∧Kept K3 Y w'):=Lib.hid (fun W bs' num h1 h2 h3 h4=>by
      have h5:=h2.size
      exact (count_any num h1 (fun b hb=>by have:=HK3b.out b hb;omega) (by omega) h3 h4).mono fun e w' ⟨g1,g2,g3⟩=>⟨g1,g2,h2.trans g3⟩)
     have HC1:=Lib.hid (HCt.out Y Z p1 HbY.out (Kept.refl _ _) (by omega) (by omega))
     have HC2:Hid (∀W,Buf W B blk K3 sy (.map (some nb)) (Z++low 4 p1)→Kept K3 Y W→_):=Lib.hid (fun W h1 h2=>HCt.out W (Z++low 4 p1) p2 h1 h2 (by omega) (by rw [List.length_append,low_len];omega))
     have HC3:Hid (∀W,Buf W B blk K3 sy (.map (some nb)) (Z++low 4 p1++low 4 p2)→Kept K3 Y W→_):=Lib.hid (fun W h1 h2=>HCt.out W (Z++low 4 p1++low 4 p2) zn h1 h2 (by omega) (by rw [List.length_append,List.length_append,low_len,low_len];omega))
     go_upto_region 16 with fail
     rw [← HYe.out]
     go_wp2_with (first
      | (go_at_call 98;refine HC1.out.mono ?_;clear HC1;rintro e w4 ⟨rfl,hb4,hk4⟩;obtain⟨m40,m41,m42,_⟩:=HW.out w4 hk4;have HC2':=Lib.hid (HC2.out w4 hb4 hk4);clear hb4 hk4 HC2)
      | (go_at_call 98;refine HC2'.out.mono ?_;clear HC2';rintro e w5 ⟨rfl,hb5,hk5⟩;obtain⟨m50,m51,m52,_⟩:=HW.out w5 hk5;have HC3':=Lib.hid (HC3.out w5 hb5 hk5);clear hb5 hk5 HC3)
      | (go_at_call 98;refine HC3'.out.mono ?_;clear HC3';rintro e w6 ⟨rfl,hb6,hk6⟩;obtain⟨m60,m61,m62,m63⟩:=HW.out w6 hk6;have Hb6:=Lib.hid hb6;have Hk6:=Lib.hid hk6;clear hb6 hk6))
     have Hrow6:=Lib.hid m63
     have Hf4:Hid (∀j,(Z++low 4 p1++low 4 p2++low 4 zn++(zs.take j).flatMap (fun i=>low 4 i)).length≤30000000000):=Lib.hid (fun j=>by
      rw [List.length_append,List.length_append,List.length_append,List.length_append,low_len,low_len,low_len,flat_low_len,List.length_take,Hzn.out]
      omega)
     go_loopw [14,86] (fun _ jv wz=>∃j:Nat,j≤zn∧jv=.int .i64 j∧Buf wz B blk K3 sy (.map (some nb)) (Z++low 4 p1++low 4 p2++low 4 zn++(zs.take j).flatMap (fun i=>low 4 i))∧Kept K3 Y wz) (fun _ jv _=>zn-(intOf jv).toNat)
     case atStart=>exact⟨0,Nat.zero_le _,rfl,by rw [List.take_zero];show Buf _ _ _ _ _ _ (_++[]);rw [List.append_nil];exact Hb6.out,Hk6.out⟩
     case round =>
      obtain⟨j,hj,rfl,hbz,hkz⟩:=hrel
      have Hbz:=Lib.hid hbz
      have Hkz:=Lib.hid hkz
      clear hbz hkz
      by_cases hjn:j<zn
      ·obtain⟨z,hz⟩:∃z,zs[j]?=some z:=⟨_,List.getElem?_eq_getElem (by rw [Hzn.out];exact hjn)⟩
       have hzn':z<n:=HGn.out z (List.mem_of_getElem? hz)
       obtain⟨_,_,_,hrz⟩:=HW.out _ Hkz.out
       have hg7:∃g7,o7=some ⟨g7,0,none⟩:=by
        rcases hrz.2 with ⟨e,h0⟩|⟨g,cap,cur,e,_⟩
        ·have:=Hzn.out
         omega
        ·simp only [Value.slice.injEq] at e
         exact⟨g,e.1⟩
       obtain⟨g7,rfl⟩:=hg7
       have hzc:wr.cell? ⟨g7,j,none⟩=some (.int .i64 (z:Int)):=by
        unfold RowI at hrz
        rw [Hzn.out] at hrz
        have:=ownsRow_cell hrz j _ (show (nats zs)[j]?=some (.int .i64 (z:Int)) by unfold nats;rw [List.getElem?_map,hz];rfl)
        simpa using this
       have Htj:Hid (Z++low 4 p1++low 4 p2++low 4 zn++(zs.take (j+1)).flatMap (fun i=>low 4 i)=Z++low 4 p1++low 4 p2++low 4 zn++(zs.take j).flatMap (fun i=>low 4 i)++low 4 z):=Lib.hid (by
        rw [take_snoc hz,List.flatMap_append]
        simp [List.append_assoc])
       have HC9:=Lib.hid (HCt.out _ _ z Hbz.out Hkz.out (by omega) (Nat.le_trans (Hf4.out j) (by omega)))
       clear hz hrz
       go_wp2_with (go_at_call 98;refine HC9.out.mono ?_;clear HC9;rintro e w9 ⟨rfl,hb9,hk9⟩;have Hb9:=Lib.hid hb9;have Hk9:=Lib.hid hk9;clear hb9 hk9)
       go_roundw
       case rel=>exact⟨j+1,by omega,by go_num,by rw [Htj.out];exact Hb9.out,Hk9.out⟩
       case measure=>simp [intOf];omega
      ·have e9:zs.take j=zs:=List.take_of_length_le (by rw [Hzn.out];omega)
       have Hb9:Hid (Buf wr B blk K2 sy (.map (some nb)) (bs++low 4 nk++(PS.take (k2+1)).flatMap (pairPart G))):=Lib.hid (by
        have h9:=Hbz.out.less HK32.out
        rw [e9] at h9
        rw [Htk.out]
        exact h9)
       have Hk9:Hid (Kept K2 wd wr):=Lib.hid (HkY.out.trans (Hkz.out.mono HK32.out))
       go_wp2_with fail
       go_roundw
       case rel=>exact⟨k2+1,by omega,by go_num,Hb9.out,Hk9.out⟩
       case measure=>simp [intOf];omega
    ·have e9:PS.take k2=PS:=List.take_of_length_le (by rw [Hnk.out];omega)
     have Hb9:Hid (Buf wr B blk K sy (.map (some nb)) (bs++postPart ss.length (grp (seqs ss l)))):=Lib.hid (by
      have h9:=Hbx.out.less HK2K.out
      rw [e9,List.append_assoc] at h9
      have h8:=Hpost.out
      rw [HGe.out,h8]
      exact h9)
     have Hk9:Hid (Kept K w wr):=Lib.hid (Hkd.out.trans (Hkx.out.mono HK2K.out))
     go_wp2_with fail
     go_end0
     exact⟨rfl,Hb9.out,Hk9.out⟩
end Go.Proofs.YtbecggfbblnglaaGreatDoor
