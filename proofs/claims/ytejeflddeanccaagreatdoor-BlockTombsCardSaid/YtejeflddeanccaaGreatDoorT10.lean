/- Contracts over this program. Their conditions: the slices read as the lists that are named, and lie within the sizes that are named. -/
import Derived.Test.YtejeflddeanccaaGreatDoorT9
import Derived.Test.YtejeflddeanccaaGreatDoorT5
import Derived.Test.YtejeflddeanccaaGreatDoorP1
import Derived.Deep.RegionHeldLaw
import Derived.Test.YtejeflddeanccaaGreatDoorP3
import Derived.Test.YtejeflddeanccaaGreatDoorT8
import Derived.Deep.AppendLies
import Derived.Deep.CutRange
set_option linter.unusedSimpArgs false
set_option linter.unusedVariables false
set_option linter.deprecated false
set_option linter.unnecessarySimpa false
namespace Go.Proofs.YtejeflddeanccaaGreatDoor
open Go Go.RowKit Go.Ix Go.Tm
theorem bcheck_any (s:ByteArray) (k:Int) (w:World) (hk:k≠0):Calls Tryz.prog 20 #[.string s,.int .u16 k] w fun e w'=>e=.returned (.iface 84 (.pointer (some ⟨w.heap.size,0,none⟩)))∧w'=w.alloc (.cells #[.string s,.iface 27 (.int .u16 k)] 89):=by
 have hkb:((k:Int) == 0)=false:=by simpa using hk
 go_enter Tryz.func20,Tryz.ntmps20
 go_wp2_with fail
 go_ret
 exact⟨rfl,rfl⟩
theorem tombB_len {t:Tomb}(h:check t.1=0):(tombB t).length≤131400:=by
 obtain⟨h1,h2,_⟩:=of_check h
 have h3:=flatL_len (l:=t.1) fun y hy=>⟨(h2 y hy).1.2.1,(h2 y hy).2.2⟩
 unfold tombB labsB
 rw [List.length_append,List.length_append,low_len,low_len,List.length_cons]
 omega
def partB (l:List Tomb) (k:Nat):List Nat:=low 2 l.length++(l.take k).flatMap tombB
theorem partB_len {l:List Tomb}{k:Nat}(hl:l.length≤65535) (h:∀t∈l.take k,check t.1=0):(partB l k).length≤10000000000:=by
 have h1:∀(m:List Tomb),(∀t∈m,check t.1=0)→(m.flatMap tombB).length≤131400 * m.length:=fun m=>by
  induction m with
  | nil=>simp
  | cons t m ih =>
   intro h
   have h2:=tombB_len (h t (by simp))
   have h3:=ih fun x hx=>h x (by simp [hx])
   rw [List.flatMap_cons,List.length_append,List.length_cons]
   omega
 have h2:=h1 _ h
 rw [List.length_take] at h2
 unfold partB
 rw [List.length_append,low_len]
 have:min k l.length≤65535:=by omega
 omega
theorem partB_step {l:List Tomb}{k:Nat}{t:Tomb}(h:l[k]?=some t):partB l (k+1)=((partB l k++labsB t.1)++low 8 (Go.Ix.u64 t.2.1))++low 8 (Go.Ix.u64 t.2.2):=by
 unfold partB
 rw [take_snoc h,List.flatMap_append]
 simp [tombB]
theorem labsB_pos (l:List Lbl):0<(labsB l).length:=by unfold labsB;simp
def TombsEnd (w:World) (l:List Tomb) (e:Ending) (w':World):Prop :=
 Below w.heap.size w w'∧((¬ MayT l∧e=.returned (.tuple #[.slice none 0 0,.int .u16 150]))∨(MayT l∧∃v,e=.returned (.tuple #[v,.int .u16 0])∧Row8 w' w.heap.size v (doneB l)))
theorem row8_flat {w:World}{B:Nat}{v:Value}{bs:List Nat}(h:Row8 w B v bs):BytesAt w v bs:=by
 obtain⟨o,c,rfl,_⟩:=ownsRow_shape h
 exact owns_flat h
theorem labsB_bytes {l:List Lbl}(h:check l=0):∀x∈labsB l,x<256:=by
 have h1:=(of_check h).1
 intro x hx
 unfold labsB at hx
 rcases List.mem_cons.1 hx with rfl | hx
 ·omega
 ·obtain⟨y,_,hx⟩:=List.mem_flatMap.1 hx
  unfold lblB two at hx
  have hn:∀s:Txt,∀x∈nums s,x<256:=fun s x hx=>by
   obtain⟨c,_,rfl⟩:=List.mem_map.1 hx
   exact c.toNat_lt
  rcases List.mem_append.1 hx with hx | hx<;>rcases List.mem_append.1 hx with hx | hx
  ·exact low_lt _ _ _ hx
  ·exact hn _ _ hx
  ·exact low_lt _ _ _ hx
  ·exact hn _ _ hx
theorem bodyB_bytes {l:List Tomb}(h:MayT l):∀x∈bodyB l,x<256:=by
 intro x hx
 unfold bodyB at hx
 rcases List.mem_append.1 hx with hx | hx
 ·exact low_lt _ _ _ hx
 ·obtain⟨t,ht,hx⟩:=List.mem_flatMap.1 hx
  unfold tombB at hx
  rcases List.mem_append.1 hx with hx | hx
  ·rcases List.mem_append.1 hx with hx | hx
   ·exact labsB_bytes (h.2 t ht) x hx
   ·exact low_lt _ _ _ hx
  ·exact low_lt _ _ _ hx
theorem crc_lt {bs:List Nat}(h:∀x∈bs,x<256):crc bs<4294967296:=by
 unfold crc
 exact Nat.xor_lt_two_pow (n:=32) (by decide) (feed_lt bs (by decide) h)
set_option maxRecDepth 20000 in
set_option maxHeartbeats 1000000 in
theorem btombs_rows (hH:HalfOk) (o:Option Addr) (c n:Nat) (l:List Tomb) (w:World) (hn:l.length=n) (hl:n≤65535) (hs:SmallT l) (hc:RowsT w o l) (hg:ErrG w) (hw8:10≤w.heap.size):Calls Tryz.prog 6 #[.slice o n c] w (TombsEnd w l):=by
 obtain⟨i0,hi0,hz0,hz1,hz2⟩:=info_parts Tryz.info5
 have Hc:=Lib.hid hc
 have Hn:=Lib.hid hn
 have Hs:=Lib.hid hs
 have Hg:=Lib.hid hg
 have HL:=Lib.hid (blow8 (w:=w) (B:=w.heap.size) (v:=.slice none 0 0) (bs:=[]) n 2 (World.ownsRow_nil _ _ _ _) (Nat.le_refl _) (by omega) (by decide) (by simp))
 clear hc hn hs hg
 go_enter Tryz.func6,Tryz.ntmps6
 go_wp2_with (go_at_call 17;refine HL.out.mono ?_;clear HL;rintro e w1 ⟨v1,rfl,hr1,hb1⟩;have Hr1:=Lib.hid hr1;have B1:=Lib.hid hb1;clear hr1 hb1)
 go_loopw [4,6,7,8,18] (fun bv _ _ _ iv wr=>∃k:Nat,k≤n∧iv=.int .i64 (k:Nat)∧Below w.heap.size w wr∧Row8 wr w.heap.size bv (partB l k)∧∀t∈l.take k,check t.1=0) (fun _ _ _ _ iv _=>n-(intOf iv).toNat)
 case atStart =>
  refine⟨0,Nat.zero_le _,rfl,B1.out,?_,by simp⟩
  unfold partB
  rw [Hn.out,List.take_zero,List.flatMap_nil,List.append_nil]
  exact Hr1.out
 case round =>
  obtain⟨k,hk,rfl,hb,hrow,hck⟩:=hrel
  have Hrow:=Lib.hid hrow
  have Hb:=Lib.hid hb
  have hsz:=hb.size
  have Hck:=Lib.hid hck
  have Hcr:=Lib.hid (Hc.out.olds (Olds.of_below hb))
  clear hrow hb hck
  by_cases hlt:k<n
  ·obtain⟨b,off,t1,t2,t3,o1,n1,c1,rfl,hx,hx1,hx2,hx3,hl1,hr1,hz1'⟩:=Hcr.out.at (k:=k) (by rw [Hn.out];exact hlt)
   obtain⟨hsl,hsy⟩:=Hs.out _ (List.mem_of_getElem? hx)
   simp only at hsl hsy
   have Hx:=Lib.hid hx
   have Hr2:=Lib.hid hr1
   have Hl1:=Lib.hid hl1
   have Hsy:Hid (∀y∈t1,y.1.length≤1000000000∧y.2.length≤1000000000):=Lib.hid (fun y hy=>by have:=hsy y hy;omega)
   have hn1:n1≤1000000000:=by omega
   clear hx hr1 hl1 hsl hsy
   go_upto_region 7 with fail
   obtain⟨X,hX⟩:∃X:World,X=wr.alloc (.cells #[.slice o1 n1 c1,.int .i64 t2,.int .i64 t3] 43):=⟨_,rfl⟩
   rw [← hX]
   have hXh:X.heap[wr.heap.size]?=some (.cells #[.slice o1 n1 c1,.int .i64 t2,.int .i64 t3] 43 (0,0)):=by rw [hX];exact heap_alloc_new _ _
   have hO:Olds wr X:=by rw [hX];exact Olds.alloc _ _
   have hXs:X.heap.size=wr.heap.size+1:=by rw [hX];simp
   have hXB:Below w.heap.size w X:=by rw [hX];exact Hb.out.alloc hsz _
   have HP:=Lib.hid (penc_rows o1 c1 n1 t1 X Hl1.out hn1 Hsy.out (Hr2.out.olds hO))
   have q0:X.cell? ⟨wr.heap.size,0,none⟩=some (.slice o1 n1 c1):=by rw [cell_of_heap hXh];rfl
   by_cases hk0:check t1=0
   ·rw [hk0] at HP
    have HXh:=Lib.hid hXh
    have HXB:=Lib.hid hXB
    have HXs:=Lib.hid hXs
    have HrX:Hid (Row8 X w.heap.size u4 (partB l k)):=Lib.hid (ownsRow_olds Hrow.out hO)
    have Hgt:Hid (∀g,u4.ownBlock=some g→w.heap.size≤g∧g<wr.heap.size):=Lib.hid (fun g hg=>ownsRow_block Hrow.out hg)
    have Hck1:Hid (∀t∈l.take (k+1),check t.1=0):=Lib.hid (fun t ht=>by
     rw [take_snoc Hx.out] at ht
     rcases List.mem_append.1 ht with h | h
     ·exact Hck.out t h
     ·rw [List.mem_singleton.1 h]
      exact hk0)
    have Hp1:=Lib.hid (partB_len (l:=l) (k:=k+1) (by rw [Hn.out];omega) Hck1.out)
    have Hst:=Lib.hid (partB_step Hx.out)
    have hL0:=labsB_pos t1
    have hp4:(partB l k).length+(labsB t1).length+16≤10000000000:=by
     have h1:=Hp1.out
     rw [Hst.out,List.length_append,List.length_append,List.length_append,low_len,low_len] at h1
     simpa using h1
    clear hX hXh hO hXB hXs hk0
    go_upto_region 10 with (go_at_call 18;refine HP.out.mono ?_;clear HP;rintro e w2 ⟨hb2,⟨h0,_⟩|⟨_,v7,rfl,hr7⟩⟩;exact absurd rfl h0)
    obtain⟨g7,c7,hv7,_⟩:=own_some hr7 hL0
    subst hv7
    have hcel7:=ownsRow_cell hr7
    obtain⟨K,hK⟩:∃K:Nat→Prop,∀b,K b↔(b<w.heap.size∨b=wr.heap.size):=⟨_,fun _=>Iff.rfl⟩
    have hX2:Olds X w2:=Olds.of_below hb2
    have hw2s:wr.heap.size+1≤w2.heap.size:=by have:=hb2.size;have:=HXs.out;omega
    have h2h:w2.heap[wr.heap.size]?=some (.cells #[.slice o1 n1 c1,.int .i64 t2,.int .i64 t3] 43 (0,0)):=(hX2.2 _ (by have:=HXs.out;omega)).trans HXh.out
    have HS:Hid (∀W,Kept K w2 W→W.cell? ⟨wr.heap.size,1,none⟩=some (.int .i64 t2)∧W.cell? ⟨wr.heap.size,2,none⟩=some (.int .i64 t3)):=Lib.hid (fun W hW=>⟨by rw [hW.cell ((hK _).2 (.inr rfl)),cell_of_heap h2h];rfl,by rw [hW.cell ((hK _).2 (.inr rfl)),cell_of_heap h2h];rfl⟩)
    have HF0:Hid (Free K u4):=Lib.hid (fun g hg hk=>by
     have:=Hgt.out g hg
     rcases (hK _).1 hk with h | h<;>omega)
    have hK2:∀b,K b→b<w2.heap.size:=fun b hb=>by rcases (hK _).1 hb with h | h<;>omega
    have HK2:=Lib.hid hK2
    have HKw:Hid (∀b,b<w.heap.size→K b):=Lib.hid (fun b hb=>(hK b).2 (.inl hb))
    have Hr0:Hid (Row8 w2.drew w.heap.size u4 (partB l k)):=Lib.hid (ownsRow_olds HrX.out (hX2.trans (Olds.drewN w2 1)))
    have HKd:Hid (Kept K w2 w2.drew):=Lib.hid ((Kept.refl K w2).drewN 1)
    have H7:Hid (∀j u,(octs (labsB t1))[j]?=some u→w2.drew.cell? ((⟨g7,0,none⟩:Addr).add j)=some u):=Lib.hid (fun j u hu=>by
     rw [show (⟨g7,0,none⟩:Addr).add j=⟨g7,j,none⟩ by by_cases h:j=0<;>simp [Addr.add,h]]
     have:=hcel7 j u hu
     rw [Nat.zero_add] at this
     exact this)
    have HB2:Hid (Below w.heap.size w w2):=Lib.hid (HXB.out.trans (hb2.mono (by have:=HXs.out;omega)))
    have HC1:Hid (∀(W:World) (v:Value),Row8 W w.heap.size v (partB l k++labsB t1)→Free K v→w2.heap.size≤W.heap.size→Calls Tryz.prog 17 #[v,.int .u64 (Go.Ix.u64 t2:Nat),.int .i64 8] W fun e w'=>∃v',e=.returned v'∧Row8 w' w.heap.size v' ((partB l k++labsB t1)++low 8 (Go.Ix.u64 t2))∧Free K v'∧Kept K W w'):=Lib.hid (fun W v hr hf hB=>blow_any (Go.Ix.u64 t2) 8 hr hf (fun b hb=>Nat.lt_of_lt_of_le (hK2 b hb) hB) (by omega) (u64_below _) (by decide) (by rw [List.length_append];omega))
    have HC2:Hid (∀(W:World) (v:Value),Row8 W w.heap.size v ((partB l k++labsB t1)++low 8 (Go.Ix.u64 t2))→Free K v→w2.heap.size≤W.heap.size→Calls Tryz.prog 17 #[v,.int .u64 (Go.Ix.u64 t3:Nat),.int .i64 8] W fun e w'=>∃v',e=.returned v'∧Row8 w' w.heap.size v' (partB l (k+1))∧Free K v'∧Kept K W w'):=Lib.hid (fun W v hr hf hB=>by
     rw [Hst.out]
     exact blow_any (Go.Ix.u64 t3) 8 hr hf (fun b hb=>Nat.lt_of_lt_of_le (hK2 b hb) hB) (by omega) (u64_below _) (by decide) (by rw [List.length_append,List.length_append,low_len];omega))
    have hw1:IntKind.u64.wrap t2=((Go.Ix.u64 t2:Nat):Int):=wrap_u64k t2
    have hw2:IntKind.u64.wrap t3=((Go.Ix.u64 t3:Nat):Int):=wrap_u64k t3
    have HL7:Hid ((octs (labsB t1)).length=(labsB t1).length * 1):=Lib.hid (by rw [octs_len,Nat.mul_one])
    clear hb2 hr7 hcel7 hK hX2 h2h hK2
    generalize hZ0:partB l k=Z0 at *
    generalize hZ2:partB l (k+1)=Z2 at *
    generalize hm:(labsB t1).length=m at *
    generalize hN:Z0.length=N at *
    have HN:=Lib.hid hN
    have HZ2:=Lib.hid hZ2
    have Hm:=Lib.hid hm
    clear hZ0 hZ2 hm hN
    have HR0:Hid (w2.drew.ownsRow w.heap.size 5 1 u4 N (octs Z0)):=Lib.hid (by have:=Hr0.out;unfold Row8 at this;rwa [HN.out] at this)
    go_region_held_law (fun W=>W.cell? ⟨wr.heap.size,1,none⟩=some (.int .i64 t2)∧W.cell? ⟨wr.heap.size,2,none⟩=some (.int .i64 t3))
     (first | exact HS.out _ HKd.out | exact HS.out _ K5.out | exact HS.out _ K4.out | exact HS.out _ K3.out)
     (first
      | (go_at_call 17;refine (HC2.out _ _ Hr4.out Hf4.out hs4).mono ?_;rintro e w5 ⟨v5,rfl,hr5,_,hk5⟩;have Hr5:=Lib.hid hr5;have K5:Hid (Kept K w2 w5):=Lib.hid (K4.out.trans hk5);clear hr5 hk5)
      | (go_at_call 17;refine (HC1.out _ _ Hr3.out Hf3.out hs3).mono ?_;rintro e w4 ⟨v4,rfl,hr4,hf4,hk4⟩;have Hr4:=Lib.hid hr4;have Hf4:=Lib.hid hf4;have K4:Hid (Kept K w2 w4):=Lib.hid (K3.out.trans hk4);have hs4:w2.heap.size≤w4.heap.size:=K4.out.size;clear hr4 hf4 hk4)
      | (refine step_append_lies _ rfl _ _ _ rfl w.heap.size 5 i0 _ 1 1 Tryz.underlying23 hi0 hz0 hz1 hz2 rfl Nat.one_pos u4 N (octs Z0) rfl HR0.out ⟨g7,0,none⟩ m c7 (octs (labsB t1)) rfl HL7.out H7.out (fun x hx=>one_octs x hx) hL0 (by unfold maxLen;omega) (by omega) (by have:w2.drew.heap.size=w2.heap.size:=rfl;omega) w2.heap.size rfl ?_;intro g3 cap3 w3 hown3 hgrow3 hat3 hlt3;have Hr3:Hid (Row8 w3 w.heap.size (.slice (some ⟨g3,0,none⟩) (N+m) cap3) (Z0++labsB t1)):=Lib.hid (by unfold Row8;rw [List.length_append,HN.out,Hm.out,octs_append];exact hown3);have K3:Hid (Kept K w2 w3):=Lib.hid (HKd.out.grown hgrow3 HK2.out HF0.out);have Hf3:Hid (Free K (.slice (some ⟨g3,0,none⟩) (N+m) cap3)):=Lib.hid (fun g hg hk=>by cases hg;rcases hat3 with e | e;exact HF0.out _ e hk;have h9:g3<w2.heap.size:=HK2.out _ hk;omega);have hs3:w2.heap.size≤w3.heap.size:=K3.out.size;clear hown3 hgrow3 hat3))
    go_wp2_with fail
    go_roundw
    case rel=>exact⟨k+1,by omega,by go_num,HB2.out.trans (K5.out.below HKw.out),by rw [HZ2.out];exact Hr5.out,Hck1.out⟩
    case measure=>simp [intOf];omega
   ·have hno:Hid (¬ MayT l):=Lib.hid (fun h=>hk0 (h.2 _ (List.mem_of_getElem? Hx.out)))
    have hgX:Hid (∀W,Below w.heap.size w W→ErrG W):=Lib.hid (fun W hW=>(Olds.of_below hW).cell Hg.out)
    have Hk0:=Lib.hid hk0
    have HXB:=Lib.hid hXB
    generalize hkk:check t1=k0 at *
    have hkb:((k0:Int) != 0)=true:=by simpa using hk0
    have hkb2:((k0:Int) == 0)=false:=by simpa using hk0
    clear hX hXh hO hk0 hkk hXB
    go_wp2_with (first
     | (go_at_call 18;refine HP.out.mono ?_;clear HP;rintro e w2 ⟨hb2,⟨_,rfl⟩|⟨h0,_⟩⟩;rotate_left;exact absurd h0 Hk0.out;have B2:Hid (Below w.heap.size w w2):=Lib.hid (HXB.out.trans (hb2.mono (by omega)));have hs2:=B2.out.size;clear hb2)
     | (go_at_call 20;refine (bcheck_any _ _ _ Hk0.out).mono ?_;rintro e w3 ⟨rfl,hw3⟩;have hh3:=heap_alloc_new w2 (.cells #[.string ⟨#[116,111,109,98]⟩,.iface 27 (.int .u16 k0)] 89);rw [← hw3] at hh3;have B3:Hid (Below w.heap.size w w3):=Lib.hid (by rw [hw3];exact B2.out.alloc hs2 _);have hs3:=B3.out.size;have HT:=Lib.hid (told_any w2.heap.size k0 _ w3 Hk0.out (hgX.out _ B3.out) hh3 rfl);clear hw3 hh3)
     | (go_at_call 19;refine HT.out.mono ?_;clear HT;rintro e w4 ⟨rfl,hb4⟩;have B4:Hid (Below w.heap.size w w4):=Lib.hid (B3.out.trans (hb4.mono hs3));clear hb4))
    go_ret2
    exact⟨B4.out,.inl ⟨hno.out,rfl⟩⟩
  ·obtain rfl:k=n:=by omega
   have hmay:MayT l:=⟨by rw [Hn.out];exact hl,fun t ht=>Hck.out t (by rw [List.take_of_length_le (by rw [Hn.out];exact Nat.le_refl _)];exact ht)⟩
   have hbody:partB l k=bodyB l:=by
    unfold partB bodyB
    rw [List.take_of_length_le (by rw [Hn.out];exact Nat.le_refl _)]
   have hbl:=partB_len (l:=l) (k:=k) (by rw [Hn.out];exact hl) Hck.out
   have hr:=Hrow.out
   rw [hbody] at hr hbl
   have hcl:=crc_lt (bodyB_bytes hmay)
   have HS:=Lib.hid (sum_any hH (Nat.le_trans hw8 hsz) (row8_flat hr) (by omega) (bodyB_bytes hmay))
   have HB:Hid (∀W,Below wr.heap.size wr W→Calls Tryz.prog 17 #[u4,.int .u64 (crc (bodyB l):Nat),.int .i64 4] W fun e w'=>∃v',e=.returned v'∧Row8 w' w.heap.size v' (bodyB l++low 4 (crc (bodyB l)))∧Below w.heap.size W w'):=Lib.hid (fun W hW=>blow8 (crc (bodyB l)) 4 (ownsRow_olds hr (Olds.of_below hW)) (Nat.le_trans hsz hW.size) (by omega) (by decide) (by omega))
   have Hmay:=Lib.hid hmay
   clear hmay hbody hbl hr
   generalize hcr:crc (bodyB l)=cr at *
   have Hcrc:=Lib.hid hcr
   clear hcr
   go_wp2_with (first
    | (go_at_call 21;refine HS.out.mono ?_;clear HS;rintro e w2 ⟨rfl,hb2⟩;have B2:=Lib.hid hb2;clear hb2)
    | (go_at_call 17;refine (HB.out _ B2.out).mono ?_;clear HB;rintro e w3 ⟨v3,rfl,hr3,hb3⟩;have Hr3:=Lib.hid hr3;have B3:Hid (Below w.heap.size w w3):=Lib.hid ((Hb.out.trans (B2.out.mono hsz)).trans hb3);clear hr3 hb3))
   go_ret2
   refine⟨B3.out,.inr ⟨Hmay.out,_,rfl,?_⟩⟩
   unfold doneB
   rw [Hcrc.out]
   exact Hr3.out
end Go.Proofs.YtejeflddeanccaaGreatDoor
namespace Go.Proofs.YtejeflddeanccaaGreatDoor
open Go Go.RowKit Go.Ix Go.Tm
set_option maxRecDepth 20000 in
set_option maxHeartbeats 1000000 in
theorem rtombs_rows (o:Option Addr) (c n:Nat) (l:List Tomb) (w:World) (hn:l.length=n) (hl:n≤65535) (hs:SmallT l) (hc:RowsT w o l):Calls Tryz.prog 9 #[.slice o n c] w (TombsEnd w l):=by
 obtain⟨i0,hi0,hz0,hz1,hz2⟩:=info_parts Tryz.info5
 have Hc:=Lib.hid hc
 have Hn:=Lib.hid hn
 have Hs:=Lib.hid hs
 have HL:=Lib.hid (put8 (w:=w) (B:=w.heap.size) (v:=.slice none 0 0) (bs:=[]) n 2 (World.ownsRow_nil _ _ _ _) (Nat.le_refl _) (by omega) (by decide) (by simp))
 clear hc hn hs
 go_enter Tryz.func9,Tryz.ntmps9
 go_wp2_with (go_at_call 24;refine HL.out.mono ?_;clear HL;rintro e w1 ⟨v1,rfl,hr1,hb1⟩;have Hr1:=Lib.hid hr1;have B1:=Lib.hid hb1;clear hr1 hb1)
 go_loopw [4,5] (fun bv iv wr=>∃k:Nat,k≤n∧iv=.int .i64 (k:Nat)∧Below w.heap.size w wr∧Row8 wr w.heap.size bv (partB l k)∧∀t∈l.take k,check t.1=0) (fun _ iv _=>n-(intOf iv).toNat)
 case atStart =>
  refine⟨0,Nat.zero_le _,rfl,B1.out,?_,by simp⟩
  unfold partB
  rw [Hn.out,List.take_zero,List.flatMap_nil,List.append_nil]
  exact Hr1.out
 case round =>
  obtain⟨k,hk,rfl,hb,hrow,hck⟩:=hrel
  have Hrow:=Lib.hid hrow
  have Hb:=Lib.hid hb
  have hsz:=hb.size
  have Hck:=Lib.hid hck
  clear hrow hb hck
  by_cases hlt:k<n
  ·obtain⟨b,off,t1,t2,t3,o1,n1,c1,rfl,hx,hx1,hx2,hx3,hl1,hr1,hz1'⟩:=Hc.out.at (k:=k) (by rw [Hn.out];exact hlt)
   obtain⟨hsl,hsy⟩:=Hs.out _ (List.mem_of_getElem? hx)
   simp only at hsl hsy
   have hwr:=Olds.of_below Hb.out
   have HP:=Lib.hid (renc_rows o1 c1 n1 t1 wr hl1 (by omega) (fun y hy=>by have:=hsy y hy;omega) (hr1.olds hwr))
   have q0:=hwr.cell hx1
   have HQ:Hid (∀W,Below w.heap.size w W→W.cell? ⟨b,off+k * 3+1,none⟩=some (.int .i64 t2)∧W.cell? ⟨b,off+k * 3+2,none⟩=some (.int .i64 t3)):=Lib.hid (fun W hW=>⟨(Olds.of_below hW).cell hx2,(Olds.of_below hW).cell hx3⟩)
   have Hx:=Lib.hid hx
   clear hx hx1 hx2 hx3 hr1 hsl hsy hwr
   by_cases hk0:check t1=0
   ·rw [hk0] at HP
    have Hck1:Hid (∀t∈l.take (k+1),check t.1=0):=Lib.hid (fun t ht=>by
     rw [take_snoc Hx.out] at ht
     rcases List.mem_append.1 ht with h | h
     ·exact Hck.out t h
     ·rw [List.mem_singleton.1 h]
      exact hk0)
    have Hp1:=Lib.hid (partB_len (l:=l) (k:=k+1) (by rw [Hn.out];omega) Hck1.out)
    have Hst:=Lib.hid (partB_step Hx.out)
    have hL0:=labsB_pos t1
    have hp4:(partB l k).length+(labsB t1).length+16≤10000000000:=by
     have h1:=Hp1.out
     rw [Hst.out,List.length_append,List.length_append,List.length_append,low_len,low_len] at h1
     simpa using h1
    have HC1:Hid (∀(W:World) (v:Value),Row8 W w.heap.size v (partB l k++labsB t1)→w.heap.size≤W.heap.size→Calls Tryz.prog 24 #[v,.int .u64 (Go.Ix.u64 t2:Nat),.int .i64 8] W fun e w'=>∃v',e=.returned v'∧Row8 w' w.heap.size v' ((partB l k++labsB t1)++low 8 (Go.Ix.u64 t2))∧Below w.heap.size W w'):=Lib.hid (fun W v hr hB=>put8 (Go.Ix.u64 t2) 8 hr hB (u64_below _) (by decide) (by rw [List.length_append];omega))
    have HC2:Hid (∀(W:World) (v:Value),Row8 W w.heap.size v ((partB l k++labsB t1)++low 8 (Go.Ix.u64 t2))→w.heap.size≤W.heap.size→Calls Tryz.prog 24 #[v,.int .u64 (Go.Ix.u64 t3:Nat),.int .i64 8] W fun e w'=>∃v',e=.returned v'∧Row8 w' w.heap.size v' (partB l (k+1))∧Below w.heap.size W w'):=Lib.hid (fun W v hr hB=>by
     rw [Hst.out]
     exact put8 (Go.Ix.u64 t3) 8 hr hB (u64_below _) (by decide) (by rw [List.length_append,List.length_append,low_len];have e9:(labsB (t1,t2,t3).1).length=(labsB t1).length:=rfl;omega))
    have hw1:IntKind.u64.wrap t2=((Go.Ix.u64 t2:Nat):Int):=wrap_u64k t2
    have hw2:IntKind.u64.wrap t3=((Go.Ix.u64 t3:Nat):Int):=wrap_u64k t3
    have HL7:Hid ((octs (labsB t1)).length=(labsB t1).length * 1):=Lib.hid (by rw [octs_len,Nat.mul_one])
    clear hk0
    generalize hZ0:partB l k=Z0 at *
    generalize hZ2:partB l (k+1)=Z2 at *
    generalize hm:(labsB t1).length=m at *
    generalize hN:Z0.length=N at *
    have HN:=Lib.hid hN
    have HZ2:=Lib.hid hZ2
    have Hm:=Lib.hid hm
    clear hZ0 hZ2 hm hN
    have HR0:Hid (wr.ownsRow w.heap.size 5 1 u4 N (octs Z0)):=Lib.hid (by have:=Hrow.out;unfold Row8 at this;rwa [HN.out] at this)
    go_wp2_with (first
     | (go_at_call 25;refine HP.out.mono ?_;clear HP;rintro e w2 ⟨hb2,⟨h0,_⟩|⟨_,v7,rfl,hr7⟩⟩;exact absurd rfl h0;have B2:Hid (Below w.heap.size w w2):=Lib.hid (Hb.out.trans (hb2.mono hsz));have hs2:=B2.out.size;have Hr7:=Lib.hid hr7;have HR2:Hid (w2.ownsRow w.heap.size 5 1 u4 N (octs Z0)):=Lib.hid (ownsRow_olds HR0.out (Olds.of_below hb2));clear hb2 hr7)
     | (at_builtin;refine wpList_append_flat rfl _ _ rfl Tryz.underlying23 size5 hi0 hz0 hz1 hz2 rfl Nat.one_pos (by decide) w.heap.size N m u4 v7 (octs Z0) (octs (labsB t1)) rfl rfl HR2.out hs2 (by have:=row8_flat Hr7.out;unfold BytesAt at this;rwa [Hm.out] at this) HL7.out one_octs (by omega) ?_;intro v3 w3 hown3 hgrow3 hat3;have B3:Hid (Below w.heap.size w w3):=Lib.hid (B2.out.grown hgrow3 hs2 (fun g hg=>(ownsRow_block HR2.out hg).1));have hs3:=B3.out.size;have Hr3:Hid (Row8 w3 w.heap.size v3 (Z0++labsB t1)):=Lib.hid (by unfold Row8;rw [List.length_append,HN.out,Hm.out,octs_append];exact hown3);obtain⟨q31,q32⟩:=HQ.out w3 B3.out;clear hown3 hgrow3 hat3)
     | (go_at_call 24;refine (HC2.out _ _ Hr4.out hs4).mono ?_;rintro e w5 ⟨v5,rfl,hr5,hb5⟩;have Hr5:=Lib.hid hr5;have B5:Hid (Below w.heap.size w w5):=Lib.hid (B4.out.trans hb5);clear hr5 hb5)
     | (go_at_call 24;refine (HC1.out _ _ Hr3.out hs3).mono ?_;rintro e w4 ⟨v4,rfl,hr4,hb4⟩;have Hr4:=Lib.hid hr4;have B4:Hid (Below w.heap.size w w4):=Lib.hid (B3.out.trans hb4);have hs4:=B4.out.size;obtain⟨q41,q42⟩:=HQ.out w4 B4.out;clear hr4 hb4))
    go_roundw
    case rel=>exact⟨k+1,by omega,by go_num,B5.out,by rw [HZ2.out];exact Hr5.out,Hck1.out⟩
    case measure=>simp [intOf];omega
   ·have hno:Hid (¬ MayT l):=Lib.hid (fun h=>hk0 (h.2 _ (List.mem_of_getElem? Hx.out)))
    have Hk0:=Lib.hid hk0
    generalize hkk:check t1=k0 at *
    have hkb:((k0:Int) != 0)=true:=by simpa using hk0
    clear hk0 hkk
    go_wp2_with (go_at_call 25;refine HP.out.mono ?_;clear HP;rintro e w2 ⟨hb2,⟨_,rfl⟩|⟨h0,_⟩⟩;rotate_left;exact absurd h0 Hk0.out;have B2:Hid (Below w.heap.size w w2):=Lib.hid (Hb.out.trans (hb2.mono hsz));clear hb2)
    go_ret2
    exact⟨B2.out,.inl ⟨hno.out,rfl⟩⟩
  ·obtain rfl:k=n:=by omega
   have hmay:MayT l:=⟨by rw [Hn.out];exact hl,fun t ht=>Hck.out t (by rw [List.take_of_length_le (by rw [Hn.out];exact Nat.le_refl _)];exact ht)⟩
   have hbody:partB l k=bodyB l:=by
    unfold partB bodyB
    rw [List.take_of_length_le (by rw [Hn.out];exact Nat.le_refl _)]
   have hbl:=partB_len (l:=l) (k:=k) (by rw [Hn.out];exact hl) Hck.out
   have hr:=Hrow.out
   rw [hbody] at hr hbl
   have hcl:=crc_lt (bodyB_bytes hmay)
   have HS:=Lib.hid (rsum_any (row8_flat hr) (by omega) (bodyB_bytes hmay))
   have HB:=Lib.hid (put8 (crc (bodyB l)) 4 hr hsz (by omega) (by decide) (by omega))
   have Hmay:=Lib.hid hmay
   clear hmay hbody hbl hr
   generalize hcr:crc (bodyB l)=cr at *
   have Hcrc:=Lib.hid hcr
   clear hcr
   go_wp2_with (first
    | (go_at_call 26;refine HS.out.mono ?_;clear HS;rintro e w2 ⟨rfl,hw2⟩;rw [← hw2];clear hw2 w2)
    | (go_at_call 24;refine HB.out.mono ?_;clear HB;rintro e w3 ⟨v3,rfl,hr3,hb3⟩;have Hr3:=Lib.hid hr3;have B3:Hid (Below w.heap.size w w3):=Lib.hid (Hb.out.trans hb3);clear hr3 hb3))
   go_ret2
   refine⟨B3.out,.inr ⟨Hmay.out,_,rfl,?_⟩⟩
   unfold doneB
   rw [Hcrc.out]
   exact Hr3.out
end Go.Proofs.YtejeflddeanccaaGreatDoor
namespace Go.Proofs.YtejeflddeanccaaGreatDoor
open Go Go.RowKit Go.Ix Go.Tm
def TmO (W:World) (B:Nat) (us:List (Value×Int×Int)) (l:List Tomb):Prop :=
 ∀(i:Nat) (u:Value×Int×Int) (t:Tomb),us[i]?=some u→l[i]?=some t→u.2=t.2∧OwnL W B u.1 t.1
def OwnsT (W:World) (B:Nat) (v:Value) (l:List Tomb):Prop :=
 ∃us:List (Value×Int×Int),us.length=l.length∧W.ownsRow B 43 3 v l.length (us.flatMap tmCells)∧TmO W B us l
theorem own_kind {W:World}{B e k:Nat}{v:Value}{n:Nat}{xs:List Value}(h:W.ownsRow B e k v n xs) {g:Nat}(hg:v.ownBlock=some g):∃cur,W.heap[g]?=some (.cells cur e (0,0)):=by
 rcases h.2 with ⟨rfl,_⟩|⟨g',cap,cur,rfl,_,hh,_⟩
 ·cases hg
 ·cases hg
  exact⟨cur,hh⟩
theorem OwnL.olds {W W':World}{B:Nat}{v:Value}{l:List Lbl}(h:OwnL W B v l) (ho:Olds W W'):OwnL W' B v l:=ownsRow_olds h ho
theorem TmO.olds {W W':World}{B:Nat}{us:List (Value×Int×Int)}{l:List Tomb}(h:TmO W B us l) (ho:Olds W W'):TmO W' B us l:=fun i u t hu ht=>⟨(h i u t hu ht).1,(h i u t hu ht).2.olds ho⟩
theorem OwnsT.olds {W W':World}{B:Nat}{v:Value}{l:List Tomb}(h:OwnsT W B v l) (ho:Olds W W'):OwnsT W' B v l:=by
 obtain⟨us,h1,h2,h3⟩:=h
 exact⟨us,h1,ownsRow_olds h2 ho,h3.olds ho⟩
theorem OwnL.grown {W W':World}{B:Nat}{v:Value}{l:List Lbl}(h:OwnL W B v l) {r:Option Nat}(hg:W.grownBy W' r) (hr:∀g,r=some g→∃cur,W.heap[g]?=some (.cells cur 43 (0,0))):OwnL W' B v l :=
 ownsRow_blocks h fun b hb=>hg.block b (ownsRow_block h hb).2 (fun e=>by
  obtain⟨cur,h1⟩:=own_kind h hb
  obtain⟨cur2,h2⟩:=hr b e.symm
  rw [h1] at h2
  cases h2)
theorem OwnL.mono {W:World}{B B':Nat}{v:Value}{l:List Lbl}(h:OwnL W B v l) (hB:B'≤B):OwnL W B' v l:=ownsRow_mono h hB
theorem OwnsT.rows {W:World}{B:Nat}{v:Value}{l:List Tomb}(h:OwnsT W B v l):∃o c,v=.slice o l.length c∧(o=none→c=0)∧RowsT W o l:=by
 obtain⟨us,h1,h2,h3⟩:=h
 obtain⟨o,c,rfl,h0⟩:=ownsRow_shape h2
 refine⟨o,c,rfl,fun e=>(h0 e).2,?_⟩
 rcases h2.2 with ⟨e,hx⟩|⟨g,cap,cur,e,_⟩
 ·exact fun hne=>absurd (List.eq_nil_of_length_eq_zero hx) hne
 ·simp only [Value.slice.injEq] at e
  obtain⟨rfl,_,rfl⟩:=e
  refine rowsT_of h1 (ownsRow_cell h2) fun i u t hu ht=>?_
  obtain⟨e2,hL⟩:=h3 i u t hu ht
  obtain⟨o1,c1,e1,z1,r1⟩:=hL.rows
  exact⟨e2,o1,c1,e1,z1,r1⟩
theorem tm_step {W3 W4:World}{B:Nat}{us:List (Value×Int×Int)}{l:List Tomb}{u:Value}{t1:List Lbl}{t2 t3:Int}{r:Option Nat}(hl:us.length=l.length) (h:TmO W3 B us l) (hu:OwnL W3 B u t1) (hg:W3.grownBy W4 r) (hr:∀g,r=some g→∃cur,W3.heap[g]?=some (.cells cur 43 (0,0))) :
  TmO W4 B (us++[(u,t2,t3)]) (l++[(t1,t2,t3)]):=fun i x t hx ht=>by
 by_cases hi:i<us.length
 ·rw [List.getElem?_append_left hi] at hx
  rw [List.getElem?_append_left (by omega)] at ht
  exact⟨(h i x t hx ht).1,(h i x t hx ht).2.grown hg hr⟩
 ·rw [List.getElem?_append_right (by omega)] at hx
  rw [List.getElem?_append_right (by omega)] at ht
  have h0:i-us.length=0:=by
   have:=(List.getElem?_eq_some_iff.1 hx).1
   simp at this
   omega
  rw [h0] at hx
  rw [show i-l.length=0 by omega] at ht
  cases hx
  cases ht
  exact⟨rfl,hu.grown hg hr⟩
theorem Tryz.info43:(Tryz.prog.info? 43).map (fun i=>(i.zero,i.size,i.bytes))=some (some (.agg #[.slice none 0 0,.int .i64 0,.int .i64 0]),3,40):=by kernel_rfl
theorem wrap_s64 {n:Nat}(h:n<18446744073709551616):IntKind.i64.wrap (n:Int)=s64 n:=by
 rw [IntKind.wrap_i64]
 unfold s64
 split<;>omega
theorem row8_by {w:World}{B:Nat}{v:Value}{bs:List Nat}(h:Row8 w B v bs) (hp:0<bs.length):BySl w v bs:=by
 rcases h.2 with ⟨_,hx⟩|⟨g,cap,cur,rfl,_,_,h3,h4,_⟩
 ·omega
 ·exact⟨g,0,cap,rfl,h3,h4,ownsRow_cell h⟩
theorem bytesEqual_any {w:World}{v u:Value}{a b:List Nat}(ha:BySl w v a) (hb:BySl w u b) (h8a:∀x∈a,x<256) (h8b:∀x∈b,x<256):Calls Tryz.prog 29 #[v,u] w fun e w'=>e=.returned (.bool (decide (a=b)))∧w'=w:=by
 have h1:=conv_by ha h8a
 have h2:=conv_by hb h8b
 have hi:=txt_inj h8a h8b
 have hd:(txtOf a == txtOf b)=decide (a=b):=by
  by_cases h:a=b
  ·subst h
   simp
  ·rw [decide_eq_false h,beq_eq_false_iff_ne]
   exact fun e=>h (hi.1 e)
 clear ha hb h8a h8b hi
 generalize txtOf a=A at *
 generalize txtOf b=B at *
 go_enter Tryz.func29,Tryz.ntmps29
 go_wp2_with fail
 go_ret
 exact⟨by rw [← hd];rfl,rfl⟩
theorem cut_toZ (b off n c j:Nat) (z:Int) (hz:z=(j:Int)) (h2:j≤c):∀W:World,(Instr.slice 23 (.slice (some ⟨b,off,none⟩) n c) none (some (.int .i64 z)) none).run Tryz.prog W=.ok (.slice (some ⟨b,off,none⟩) j c) W:=by
 intro W
 subst hz
 have e2:((j:Nat):Int)≤(c:Int):=by omega
 go_simp
end Go.Proofs.YtejeflddeanccaaGreatDoor
namespace Go.Proofs.YtejeflddeanccaaGreatDoor
open Go Go.RowKit Go.Ix Go.Tm
def TmL (W:World) (B:Nat) (sb:Option Nat) (u:Value×Int×Int) (t:Tomb):Prop :=
 LentR W B 64 2 t.1.length u.1 (t.1.flatMap lblCells) marksL∧u.1.ownBlock≠sb∧u.2=t.2
def TmsL (W:World) (B:Nat) (sb:Option Nat) (us:List (Value×Int×Int)) (l:List Tomb):Prop :=
 ∀(i:Nat) (u:Value×Int×Int) (t:Tomb),us[i]?=some u→l[i]?=some t→TmL W B sb u t
theorem TmL.same {W W':World}{B:Nat}{sb:Option Nat}{u:Value×Int×Int}{t:Tomb}(h:TmL W B sb u t) (hb:∀b,B≤b→b<W.heap.size→some b≠sb→W'.heap[b]?=W.heap[b]?):TmL W' B sb u t:=by
 obtain⟨h1,h3,h4⟩:=h
 obtain⟨b1,e1,q1,q2⟩:=h1.at_
 refine⟨h1.same fun b hb'=>?_,h3,h4⟩
 rw [e1] at hb'
 cases hb'
 exact hb _ q1 q2 (by rw [← e1];exact h3)
theorem TmL.move {W:World}{B:Nat}{sb sb':Option Nat}{u:Value×Int×Int}{t:Tomb}(h:TmL W B sb u t) (hs:sb'=sb∨∃g,sb'=some g∧W.heap.size≤g):TmL W B sb' u t:=by
 obtain⟨h1,h3,h4⟩:=h
 obtain⟨b1,e1,q1,q2⟩:=h1.at_
 rcases hs with rfl|⟨g,rfl,hg⟩
 ·exact⟨h1,h3,h4⟩
 ·refine⟨h1,?_,h4⟩
  rw [e1]
  intro e
  cases e
  omega
def lastT:List Value:=[.slice none 0 0,.int .i64 (-77),.int .i64 0]
def LentT (W:World) (B:Nat) (v:Value) (l:List Tomb):Prop :=
 ∃g cap us,v=.slice (some ⟨g,0,none⟩) l.length cap∧us.length=l.length∧W.ownsRow B 43 3 (.slice (some ⟨g,0,none⟩) (l.length+1) cap) (l.length+1) (us.flatMap tmCells++lastT)∧TmsL W B (some g) us l
theorem tms_old {wr w3 w4:World}{B:Nat}{sv:Value}{us:List (Value×Int×Int)}{l:List Tomb}{O:Obj}{gg:Nat}(hx:TmsL wr B sv.ownBlock us l) (ho:Olds wr w3)
  (grow:(w3.alloc O).grownBy w4 sv.ownBlock) (hat:sv.ownBlock=some gg∨gg=w3.heap.size+1):TmsL w4 B (some gg) us l:=by
 have hmove:(some gg:Option Nat)=sv.ownBlock∨∃g,(some gg:Option Nat)=some g∧w3.heap.size≤g:=by
  rcases hat with h | h
  ·exact .inl h.symm
  ·exact .inr ⟨gg,rfl,by omega⟩
 have hsame:∀b,b<w3.heap.size→some b≠sv.ownBlock→w4.heap[b]?=w3.heap[b]?:=fun b hb hne=>(grow.block b (by simp;omega) hne).trans (Below.heap_alloc _ _ b hb)
 intro i u' t' hu' ht'
 have h2:TmL w3 B sv.ownBlock u' t':=(hx i u' t' hu' ht').same fun b _ hb _=>ho.2 b hb
 obtain⟨a1,a3,a4⟩:=h2
 obtain⟨b1,e1,q1,q2⟩:=a1.at_
 obtain⟨a1',a3',a4'⟩:=TmL.move ⟨a1,a3,a4⟩ hmove
 refine⟨a1'.same fun b hb=>?_,a3',a4'⟩
 rw [e1] at hb
 cases hb
 exact hsame _ q2 (by rw [← e1];exact a3)
theorem tms_step {wr w3 w4:World}{B:Nat}{sv:Value}{us:List (Value×Int×Int)}{l:List Tomb}{u:Value×Int×Int}{t:Tomb}{O:Obj}{gg:Nat}(hx:TmsL wr B sv.ownBlock us l) (hsv:∀b,sv.ownBlock=some b→b<wr.heap.size) (ho:Olds wr w3) (hB:B≤wr.heap.size)
  (hu:LentR w3 wr.heap.size 64 2 t.1.length u.1 (t.1.flatMap lblCells) marksL) (hu2:u.2=t.2) (he:l[us.length]?=some t)
  (grow:(w3.alloc O).grownBy w4 sv.ownBlock) (hat:sv.ownBlock=some gg∨gg=w3.heap.size+1):TmsL w4 B (some gg) (us++[u]) l:=by
 have hsame:∀b,b<w3.heap.size→some b≠sv.ownBlock→w4.heap[b]?=w3.heap[b]?:=fun b hb hne=>(grow.block b (by simp;omega) hne).trans (Below.heap_alloc _ _ b hb)
 intro i u' t' hu' ht'
 by_cases hi:i<us.length
 ·rw [List.getElem?_append_left hi] at hu'
  exact tms_old hx ho grow hat i u' t' hu' ht'
 ·rw [List.getElem?_append_right (by omega)] at hu'
  have hi0:i-us.length=0:=by
   have:=(List.getElem?_eq_some_iff.1 hu').1
   simp at this
   omega
  rw [hi0] at hu'
  cases hu'
  have:i=us.length:=by omega
  subst this
  rw [he] at ht'
  cases ht'
  obtain⟨b1,e1,q1,q2⟩:=hu.at_
  have hn:∀b,wr.heap.size≤b→some b≠sv.ownBlock:=fun b hb h=>by have:=hsv b h.symm;omega
  refine⟨(hu.mono hB).same fun b hb=>?_,?_,hu2⟩
  ·rw [e1] at hb
   cases hb
   exact hsame _ q2 (hn _ q1)
  ·rw [e1]
   intro h
   cases h
   rcases hat with h | h
   ·have:=hsv _ h
    omega
   ·omega
set_option maxRecDepth 20000 in
set_option maxHeartbeats 1000000 in
theorem lent_tombs (o:Option Addr) (n c:Nat) (l:List Tomb) (w:World) (hl:l.length=n) (hn:n≤200) (hs:SmallT l) (hc:RowsT w o l):Calls Tryz.prog 5 #[.slice o n c] w fun e w'=>∃u,e=.returned u∧LentT w' w.heap.size u l∧Below w.heap.size w w':=by
 obtain⟨i0,hi0,hz0,hz1,hz2⟩:=info_parts Tryz.info43
 have Hc:=Lib.hid hc
 have Hs:=Lib.hid hs
 have Hl:=Lib.hid hl
 have Hi:=Lib.hid (And.intro hi0 (And.intro hz0 (And.intro hz1 hz2)))
 clear hc hs hl
 go_enter Tryz.func5,Tryz.ntmps5
 go_wp2_with (at_make;refine wpList_make_own _ rfl _ _ 22 rfl w.heap.size 43 i0 (.agg #[.slice none 0 0,.int .i64 0,.int .i64 0]) 3 Tryz.underlying22 hi0 hz0 hz1 .i64 .i64 _ (n+1) rfl rfl (by omega) (by rw [hz2];omega) (by unfold maxLen;omega) (Nat.le_refl _) ?_;intro w0 hown0 hgrow0;have Hown0:=Lib.hid hown0;have B0:Hid (Below w.heap.size w w0):=Lib.hid ((Below.refl _ w).grown hgrow0 (Nat.le_refl _) (fun k hk=>by cases hk));clear hown0 hgrow0)
 go_loopw [3,4] (fun sv i wr=>∃(k:Nat) (us:List (Value×Int×Int)) (so:Option Addr) (sc:Nat),i=.int .i64 k∧sv=.slice so k sc∧k≤n∧us.length=k∧wr.ownsRow w.heap.size 43 3 (.slice so k sc) k (us.flatMap tmCells)∧TmsL wr w.heap.size (Value.slice so k sc).ownBlock us l∧Below w.heap.size w wr) (fun _ i _=>n-(intOf i).toNat)
 case atStart=>exact⟨0,[],_,_,rfl,rfl,Nat.zero_le _,rfl,Hown0.out,fun i u e hu=>by simp at hu,B0.out⟩
 case round =>
  obtain⟨k,us,so,sc,rfl,rfl,hk,hul,hown,hents,hb⟩:=hrel
  have Hown:=Lib.hid hown
  have Hents:=Lib.hid hents
  have Hb:=Lib.hid hb
  have Hul:=Lib.hid hul
  have hbs:=hb.size
  have Hsv:Hid (∀b,(Value.slice so k sc).ownBlock=some b→w.heap.size≤b∧b<wr.heap.size):=Lib.hid (fun b hb=>ownsRow_block hown hb)
  clear hown hents hb hul
  by_cases hlt:k<n
  ·obtain⟨b,off,t1,t2,t3,o1,n1,c1,rfl,hx,hc1,hc2,hc3,hl1,hr1,hz1'⟩:=Hc.out.at (k:=k) (by rw [Hl.out];exact hlt)
   obtain⟨hs1,_⟩:=Hs.out _ (List.mem_of_getElem? hx)
   simp only at hs1
   have how:Olds w wr:=Olds.of_below Hb.out
   have HS:Hid (∀W,Olds w W→W.cell? ⟨b,off+k * 3,none⟩=some (.slice o1 n1 c1)∧W.cell? ⟨b,off+k * 3+1,none⟩=some (.int .i64 t2)∧W.cell? ⟨b,off+k * 3+2,none⟩=some (.int .i64 t3)):=Lib.hid (fun W hW=>⟨hW.cell hc1,hW.cell hc2,hW.cell hc3⟩)
   have Hhow:=Lib.hid how
   have HL1:Hid (∀W,Olds wr W→Calls Tryz.prog 16 #[.slice o1 n1 c1] W fun e w'=>∃u,e=.returned u∧LentR w' W.heap.size 64 2 n1 u (t1.flatMap lblCells) marksL∧Below W.heap.size W w'):=Lib.hid (fun W hW=>lent_labels o1 n1 c1 t1 W hl1 (by omega) hz1' (hr1.olds (how.trans hW)))
   have Hx:=Lib.hid hx
   have Hl12:=Lib.hid hl1
   obtain⟨s0,s1,s2⟩:=HS.out wr.drew (how.trans (Olds.drewN wr 1))
   have O1:Hid (Olds wr wr.drew):=Lib.hid (Olds.drewN wr 1)
   have hds:wr.drew.heap.size=wr.heap.size:=rfl
   clear hx hc1 hc2 hc3 hl1 hr1 hz1' how
   go_upto_region 5 with fail
   go_region_held_law (fun W=>W.cell? ⟨b,off+k * 3,none⟩=some (.slice o1 n1 c1)∧W.cell? ⟨b,off+k * 3+1,none⟩=some (.int .i64 t2)∧W.cell? ⟨b,off+k * 3+2,none⟩=some (.int .i64 t3))
    (first | exact HS.out _ (Hhow.out.trans O1.out) | exact HS.out _ (Hhow.out.trans O2.out) | exact HS.out _ (Hhow.out.trans (O2.out.trans (Olds.alloc _ _))) | exact HS.out _ (Olds.of_below Hb4.out))
    (first
     | (go_at_call 16;refine (HL1.out _ O1.out).mono ?_;rintro e w2 ⟨x1v,rfl,hl1,hb1⟩;obtain⟨g1,cp1,_,rfl,_⟩:=hl1.cells;have Hl1:=Lib.hid hl1;have O2:Hid (Olds wr w2):=Lib.hid (O1.out.trans (Olds.of_below hb1));have Hb1:=Lib.hid hb1;have hs2:=hb1.size;clear hl1 hb1)
     | (refine step_append_lies _ rfl _ _ _ rfl w.heap.size 43 i0 _ 3 40 Tryz.underlying22 hi0 hz0 hz1 hz2 rfl (by decide) (.slice so k sc) k (us.flatMap tmCells) rfl (ownsRow_olds Hown.out (O2.out.trans (Olds.alloc _ _))) ⟨w2.heap.size,0,none⟩ 1 1 [.slice (some ⟨g1,0,none⟩) n1 cp1,.int .i64 t2,.int .i64 t3] rfl rfl (World.news_of_block (cs:=#[.slice (some ⟨g1,0,none⟩) n1 cp1,.int .i64 t2,.int .i64 t3]) (t:=43) (fr:=(0,0)) (heap_alloc_new w2 _)) (by simp [Value.oneCell']) Nat.one_pos (by unfold maxLen;omega) (by omega) (by simp;omega) (w2.heap.size+1) (by simp) ?_;intro gg cap2 w4 hown4 hgrow4 hat4 hlt4;have Hown4:=Lib.hid hown4;have Hgrow4:=Lib.hid hgrow4;have Hat4:=Lib.hid hat4;have Hb4:Hid (Below w.heap.size w w4):=Lib.hid ((((below_drewN Hb.out 1).trans (Hb1.out.mono (by omega))).alloc (by omega) _).grown hgrow4 (by simp;omega) (fun b hb=>(Hsv.out b hb).1));clear hown4 hgrow4 hat4))
   have Hst:Hid (TmsL w4 w.heap.size (some gg) (us++[(.slice (some ⟨g1,0,none⟩) n1 cp1,t2,t3)]) l):=Lib.hid (by
    have e9:=Hx.out
    rw [← Hul.out] at e9
    refine tms_step (sv:=Value.slice so k sc) Hents.out (fun b hb=>(Hsv.out b hb).2) O2.out hbs ?_ rfl e9 Hgrow4.out Hat4.out
    rw [Hl12.out]
    exact Hl1.out.mono (by omega))
   have Hown9:Hid (w4.ownsRow w.heap.size 43 3 (.slice (some ⟨gg,0,none⟩) (k+1) cap2) (k+1) ((us++[(Value.slice (some ⟨g1,0,none⟩) n1 cp1,t2,t3)]).flatMap tmCells)):=Lib.hid (by
    rw [List.flatMap_append]
    exact Hown4.out)
   go_wp2_with fail
   go_roundw
   case rel=>exact⟨k+1,_,_,_,by go_num,rfl,by omega,by rw [List.length_append,Hul.out];rfl,Hown9.out,Hst.out,Hb4.out⟩
   case measure=>simp [intOf];omega
  ·obtain rfl:k=n:=by omega
   go_wp2_with (at_builtin;refine wpList_append_lies _ rfl _ _ _ rfl w.heap.size 43 i0 _ 3 40 Tryz.underlying22 hi0 hz0 hz1 hz2 rfl (by decide) (.slice so k sc) k (us.flatMap tmCells) rfl (ownsRow_olds Hown.out (Olds.alloc _ _)) ⟨wr.heap.size,0,none⟩ 1 1 lastT rfl rfl (World.news_of_block (cs:=#[.slice none 0 0,.int .i64 (-77),.int .i64 0]) (t:=43) (fr:=(0,0)) (heap_alloc_new wr _)) (by simp [lastT,Value.oneCell']) Nat.one_pos (by unfold maxLen;omega) (by omega) (by simp;omega) (wr.heap.size+1) (by simp) ?_;intro gg cap2 w4 hown4 hgrow4 hat4 hlt4;have hcap1:=(own_some hown4 (by omega));have Hown4:=Lib.hid hown4;have Hgrow4:=Lib.hid hgrow4;have Hat4:=Lib.hid hat4;have hcap0:k≤cap2:=(by obtain⟨_,_,e,h⟩:=hcap1;simp only [Value.slice.injEq,true_and] at e;omega);clear hown4 hgrow4 hat4 hcap1)
   have Hst:Hid (TmsL w4 w.heap.size (some gg) us l):=Lib.hid (tms_old (sv:=Value.slice so k sc) (w3:=wr) Hents.out (Olds.refl _) Hgrow4.out Hat4.out)
   have Hb4:Hid (Below w.heap.size w w4):=Lib.hid ((Hb.out.alloc hbs _).grown Hgrow4.out (by simp;omega) (fun b hb=>(Hsv.out b hb).1))
   have Hle:Hid (LentT w4 w.heap.size (.slice (some ⟨gg,0,none⟩) k cap2) l):=Lib.hid ⟨gg,cap2,us,by rw [Hl.out],by rw [Hl.out];exact Hul.out,by rw [Hl.out];exact Hown4.out,Hst.out⟩
   go_ret
   exact⟨_,rfl,Hle.out,Hb4.out⟩
end Go.Proofs.YtejeflddeanccaaGreatDoor
