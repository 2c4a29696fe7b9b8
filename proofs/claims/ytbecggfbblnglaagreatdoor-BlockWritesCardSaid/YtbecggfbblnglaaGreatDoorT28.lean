/- Contracts over this program. Their conditions: the slices read as the lists that are named, and lie within the sizes that are named. -/
import Derived.Test.YtbecggfbblnglaaGreatDoorT25
import Derived.Test.YtbecggfbblnglaaGreatDoorP1
import Derived.Test.YtbecggfbblnglaaGreatDoorP24
import Derived.Test.YtbecggfbblnglaaGreatDoorT27
set_option linter.unusedSimpArgs false
set_option linter.unusedVariables false
set_option linter.deprecated false
set_option linter.unnecessarySimpa false
namespace Go.Proofs.YtbecggfbblnglaaGreatDoor
open Go Go.RowKit Go.Ix Go.Gor
def RbAt (w:World) (rb:Nat) (v:Value) (l:List Bool):Prop :=
 w.heap[rb]?=some (.cells #[v,.int .i64 0] 262 (0,0))∧Row8 w (rb+1) v (one8 l)
theorem RbAt.lt {w:World}{rb:Nat}{v:Value}{l:List Bool}(h:RbAt w rb v l):rb<w.heap.size:=(Array.getElem?_eq_some_iff.1 h.1).1
theorem RbAt.own {w:World}{rb:Nat}{v:Value}{l:List Bool}(h:RbAt w rb v l):∀g,v.ownBlock=some g→rb+1≤g∧g<w.heap.size:=fun _ hg=>ownsRow_block h.2 hg
theorem RbAt.olds {w:World}{rb:Nat}{v:Value}{l:List Bool}(h:RbAt w rb v l) {W:World}(ho:Olds w W):RbAt W rb v l:=⟨(ho.2 _ h.lt).trans h.1,ownsRow_olds h.2 ho⟩
set_option maxRecDepth 20000 in
set_option maxHeartbeats 2000000 in
theorem rbit_any {X:Nat→Prop}(rb:Nat) (v:Value) (l:List Bool) (x:Bool) (w:World) (h:RbAt w rb v l) (hl:l.length≤1000000) (hX:X rb) :
  Calls Tryz.prog 114 #[.pointer (some ⟨rb,0,none⟩),.bool x] w fun e w'=>e=.returned (.tuple #[])∧∃v',RbAt w' rb v' (l++[x])∧Wrote X v v' w w':=by
 obtain⟨i0,hi0,hz0,hz1,hz2⟩:=info_parts Tryz.info5
 have hown:=h.own
 have hlt:=h.lt
 obtain⟨hh,hr⟩:=h
 obtain⟨o,c,rfl,h0⟩:=hr.shape
 rw [one8_len] at *
 have hc0:w.cell? ⟨rb,0,none⟩=some (.slice o l.length c):=cell_of_heap hh
 have hf0:w.frozen? ⟨rb,0,none⟩=false:=by simp [World.frozen?,hh]
 have Hh:=Lib.hid hh
 have hr':w.ownsRow (rb+1) 5 1 (.slice o l.length c) l.length (octs (one8 l)):=by have:=hr;unfold Row8 at this;rwa [one8_len] at this
 have Hr:=Lib.hid hr'
 have Hown:=Lib.hid hown
 have HP:=Lib.hid (one8_len l)
 have Hs:=Lib.hid (one8_snoc l x)
 clear hh hr hr' hown
 generalize hN:l.length=P at *
 clear hN
 obtain⟨b,hb⟩:∃b:Nat,b=x.toNat:=⟨_,rfl⟩
 rw [← hb] at Hs
 have Hb:=Lib.hid hb
 obtain⟨O1,hO1⟩:∃O1:Obj,O1=.cells #[.int .u8 (b:Nat)] 5:=⟨_,rfl⟩
 have hap:∀(w4:World) (gg cap2:Nat),w4.ownsRow (rb+1) 5 1 (.slice (some ⟨gg,0,none⟩) (P+1) cap2) (P+1) (octs (one8 l)++[.int .u8 (b:Nat)])→(w.alloc O1).grownBy w4 (Value.slice o P c).ownBlock →
   w4.cell? ⟨rb,0,none⟩=some (.slice o P c)∧w4.frozen? ⟨rb,0,none⟩=false∧w4.heap[rb]?=some (.cells #[.slice o P c,.int .i64 0] 262 (0,0))∧¬ gg=rb:=fun w4 gg cap2 h1 h2=>by
  have e1:w4.heap[rb]?=some (.cells #[.slice o P c,.int .i64 0] 262 (0,0)):=by
   rw [h2.block rb (by simp;omega) (fun e=>by have:=(Hown.out rb e.symm).1;omega),(Olds.alloc w O1).2 rb hlt]
   exact Hh.out
  have hgg:=(ownsRow_block h1 (g:=gg) rfl).1
  exact⟨cell_of_heap e1,by simp [World.frozen?,e1],e1,by omega⟩
 have Hap:=Lib.hid hap
 have HX:Hid (∀w4 gg,(w.alloc O1).grownBy w4 (Value.slice o P c).ownBlock→((Value.slice o P c).ownBlock=some gg∨gg=w.heap.size+1)→∀cap2,Wrote X (.slice o P c) (.slice (some ⟨gg,0,none⟩) (P+1) cap2) w w4):=Lib.hid (fun w4 gg h1 h2 cap2=>by
  refine ((Wrote.refl X (.slice o P c) w).alloc O1).grown h1 ?_
  rcases h2 with h2 | h2
  ·exact .inl h2.symm
  ·exact .inr ⟨gg,rfl,by simp;omega⟩)
 clear hap
 subst hO1
 have hfin:Hid (∀(w4:World) (gg cap2:Nat),w4.ownsRow (rb+1) 5 1 (.slice (some ⟨gg,0,none⟩) (P+1) cap2) (P+1) (octs (one8 l)++[.int .u8 (b:Nat)])→w4.heap[rb]?=some (.cells #[.slice o P c,.int .i64 0] 262 (0,0))→¬ gg=rb→RbAt (w4.setCell ⟨rb,0,none⟩ (.slice (some ⟨gg,0,none⟩) (P+1) cap2)) rb (.slice (some ⟨gg,0,none⟩) (P+1) cap2) (l++[x])):=Lib.hid (fun (w4:World) (gg cap2:Nat) h1 h2 h3=>by
  refine⟨by simp [World.setCell,Array.getElem?_modify,h2],Row8.other ?_ (fun e=>h3 (by cases e;rfl)) _⟩
  rw [Hs.out]
  unfold Row8
  rw [octs_append,List.length_append,HP.out]
  exact h1)
 cases x with
 | false =>
  obtain rfl:b=0:=hb
  go_enter Tryz.func114,Tryz.ntmps114
  go_wp2_with (at_builtin;refine wpList_append_lies _ rfl _ _ _ rfl (rb+1) 5 i0 _ 1 1 Tryz.underlying26 hi0 hz0 hz1 hz2 rfl Nat.one_pos (.slice o P c) P (octs (one8 l)) rfl (ownsRow_olds Hr.out (Olds.alloc _ _)) ⟨w.heap.size,0,none⟩ 1 1 [.int .u8 ((0:Nat):Int)] rfl rfl (World.news_of_block (cs:=#[.int .u8 ((0:Nat):Int)]) (t:=5) (fr:=(0,0)) (heap_alloc_new w _)) (by simp [Value.oneCell']) Nat.one_pos (by unfold maxLen;omega) (by omega) (by simp;omega) (w.heap.size+1) (by simp) ?_;intro gg cap2 w4 hown4 hgrow hat hlt4;obtain⟨k1,k3,k5,k6⟩:=Hap.out w4 gg cap2 hown4 hgrow;have Hown4:=Lib.hid hown4;have Hgrow:=Lib.hid hgrow;have Hat:=Lib.hid hat;have K5:=Lib.hid k5;clear hown4 hgrow hat k5 Hap)
  go_end0
  exact⟨rfl,_,hfin.out w4 gg cap2 Hown4.out K5.out k6,(HX.out w4 gg Hgrow.out Hat.out cap2).setCell (.inl hX) _⟩
 | true =>
  obtain rfl:b=1:=hb
  go_enter Tryz.func114,Tryz.ntmps114
  go_wp2_with (at_builtin;refine wpList_append_lies _ rfl _ _ _ rfl (rb+1) 5 i0 _ 1 1 Tryz.underlying26 hi0 hz0 hz1 hz2 rfl Nat.one_pos (.slice o P c) P (octs (one8 l)) rfl (ownsRow_olds Hr.out (Olds.alloc _ _)) ⟨w.heap.size,0,none⟩ 1 1 [.int .u8 ((1:Nat):Int)] rfl rfl (World.news_of_block (cs:=#[.int .u8 ((1:Nat):Int)]) (t:=5) (fr:=(0,0)) (heap_alloc_new w _)) (by simp [Value.oneCell']) Nat.one_pos (by unfold maxLen;omega) (by omega) (by simp;omega) (w.heap.size+1) (by simp) ?_;intro gg cap2 w4 hown4 hgrow hat hlt4;obtain⟨k1,k3,k5,k6⟩:=Hap.out w4 gg cap2 hown4 hgrow;have Hown4:=Lib.hid hown4;have Hgrow:=Lib.hid hgrow;have Hat:=Lib.hid hat;have K5:=Lib.hid k5;clear hown4 hgrow hat k5 Hap)
  go_end0
  exact⟨rfl,_,hfin.out w4 gg cap2 Hown4.out K5.out k6,(HX.out w4 gg Hgrow.out Hat.out cap2).setCell (.inl hX) _⟩
theorem test_one {x j:Nat}(hx:x<18446744073709551616):(bits .and .u64 ((x:Int) / 2 ^ j) 1 == 1)=x.testBit j:=by
 have h1:((x:Int) / 2 ^ j)=((x / 2 ^ j:Nat):Int):=by norm_cast
 have h2:x / 2 ^ j<18446744073709551616:=Nat.lt_of_le_of_lt (Nat.div_le_self _ _) hx
 rw [h1]
 have h3:=and_u64 (x / 2 ^ j) 1 h2 (by decide)
 rw [show ((1:Nat):Int)=1 from rfl] at h3
 rw [h3,and1G,test_div]
 rcases Nat.mod_two_eq_zero_or_one (x / 2 ^ j) with h | h<;>rw [h]<;>rfl
set_option maxRecDepth 20000 in
set_option maxHeartbeats 2000000 in
theorem rbits_any {X:Nat→Prop}(rb:Nat) (v:Value) (l:List Bool) (x n:Nat) (w:World) (h:RbAt w rb v l) (hl:l.length+n≤1000000) (hn:n≤64) (hx:x<18446744073709551616) (hX:X rb) :
  Calls Tryz.prog 112 #[.pointer (some ⟨rb,0,none⟩),.int .u64 (x:Nat),.int .i64 (n:Nat)] w fun e w'=>e=.returned (.int .u16 0)∧∃v',RbAt w' rb v' (l++bitsOf x n)∧Wrote X v v' w w':=by
 have H0:=Lib.hid h
 clear h
 go_enter Tryz.func112,Tryz.ntmps112
 go_wp2_with fail
 go_loopw [7] (fun iv wr=>∃(k:Nat) (l':List Bool) (v':Value),k≤n∧iv=.int .i64 ((k:Int)-1)∧RbAt wr rb v' l'∧Wrote X v v' w wr∧l'++bitsOf x k=l++bitsOf x n) (fun iv _=>((intOf iv)+1).toNat)
 case atStart=>exact⟨n,l,v,Nat.le_refl _,rfl,H0.out,Wrote.refl _ _ _,rfl⟩
 case round =>
  obtain⟨k,l',v',hk,rfl,hwr,hwt,he⟩:=hrel
  have hlen:l'.length+k=l.length+n:=by
   have:=congrArg List.length he
   rwa [List.length_append,List.length_append,bits_len,bits_len] at this
  have He:=Lib.hid he
  have Hwt:=Lib.hid hwt
  clear he hwt
  cases k with
  | zero =>
   have Hwr:=Lib.hid hwr
   clear hwr
   go_wp2_with fail
   go_ret
   exact⟨rfl,v',by
    have h:=He.out
    rw [show bitsOf x 0=[] from rfl,List.append_nil] at h
    rw [← h]
    exact Hwr.out,Hwt.out⟩
  | succ j =>
   have HB:=Lib.hid (rbit_any (X:=X) rb v' l' (x.testBit j) wr hwr (by omega) hX)
   have Hj:Hid ((l'++[x.testBit j])++bitsOf x j=l++bitsOf x n):=Lib.hid (by
    rw [← He.out,List.append_assoc]
    rfl)
   have ht:=test_one (x:=x) (j:=j) hx
   have hju:IntKind.u64.wrap (j:Int)=(j:Int):=by rw [wrap_u64];omega
   generalize x.testBit j=t at *
   clear hwr
   go_wp2_with (go_at_call 114;refine HB.out.mono ?_;clear HB;rintro e w2 ⟨rfl,v2,hw2,ht2⟩;have Hw2:=Lib.hid hw2;have Ht2:=Lib.hid (Hwt.out.trans ht2);clear hw2 ht2)
   go_roundw
   case rel=>exact⟨j,_,v2,by omega,by go_num,Hw2.out,Ht2.out,Hj.out⟩
   case measure=>simp [intOf]
set_option maxRecDepth 20000 in
set_option maxHeartbeats 2000000 in
theorem rvarint_any {X:Nat→Prop}(rb:Nat) (v:Value) (l:List Bool) (x:Nat) (w:World) (h:RbAt w rb v l) (hl:l.length≤900000) (hx:x<18446744073709551616) (hX:X rb) :
  Calls Tryz.prog 159 #[.pointer (some ⟨rb,0,none⟩),.int .u64 (x:Nat)] w fun e w'=>e=.returned (.tuple #[])∧∃v',RbAt w' rb v' (l++vbits x)∧Wrote X v v' w w':=by
 have H0:=Lib.hid h
 have hxl:=v_len64 hx
 clear h
 go_enter Tryz.func159,Tryz.ntmps159
 go_wp2_with fail
 go_loopw [1] (fun iv wr=>∃(z:Nat) (l':List Bool) (v':Value),z<18446744073709551616∧iv=.int .u64 (z:Nat)∧RbAt wr rb v' l'∧Wrote X v v' w wr∧l'++vbits z=l++vbits x) (fun iv _=>(intOf iv).toNat)
 case atStart=>exact⟨x,l,v,hx,rfl,H0.out,Wrote.refl _ _ _,rfl⟩
 case round =>
  obtain⟨z,l',v',hz,rfl,hwr,hwt,he⟩:=hrel
  have hlen:l'.length≤900080:=by
   have:=congrArg List.length he
   rw [List.length_append,List.length_append] at this
   omega
  have He:=Lib.hid he
  have Hwt:=Lib.hid hwt
  clear he hwt
  by_cases hs:z<128
  ·have HB:=Lib.hid (rbits_any (X:=X) rb v' l' z 8 wr hwr (by omega) (by decide) hz hX)
   have Hv:Hid (l'++bitsOf z 8=l++vbits x):=Lib.hid (by rw [← He.out,v_small hs])
   have hs1:¬ (127:Int)<(z:Int):=by omega
   clear hwr
   go_wp2_with (go_at_call 112;refine HB.out.mono ?_;clear HB;rintro e w2 ⟨rfl,v2,hw2,ht2⟩;have Hw2:=Lib.hid hw2;have Ht2:=Lib.hid (Hwt.out.trans ht2);clear hw2 ht2)
   go_end0
   exact⟨rfl,v2,by rw [← Hv.out];exact Hw2.out,Ht2.out⟩
  ·obtain⟨y,hy⟩:∃y,y=128+z % 128:=⟨_,rfl⟩
   have Hv:Hid ((l'++bitsOf y 8)++vbits (z / 128)=l++vbits x):=Lib.hid (by rw [hy,← He.out,v_big hs,List.append_assoc])
   have HB:=Lib.hid (rbits_any (X:=X) rb v' l' y 8 wr hwr (by omega) (by decide) (by omega) hX)
   have hlo:128+(z:Int) % 128=(y:Int):=by omega
   have hyw:IntKind.u64.wrap (y:Int)=(y:Int):=by rw [wrap_u64];omega
   have hs1:(127:Int)<(z:Int):=by omega
   obtain⟨z2,hz2⟩:∃z2,z2=z / 128:=⟨_,rfl⟩
   have hd:(z:Int) / 128=(z2:Int):=by omega
   have hz3:z2<z:=by omega
   rw [← hz2] at Hv
   clear hwr hy hz2
   go_wp2_with (go_at_call 112;refine HB.out.mono ?_;clear HB;rintro e w2 ⟨rfl,v2,hw2,ht2⟩;have Hw2:=Lib.hid hw2;have Ht2:=Lib.hid (Hwt.out.trans ht2);clear hw2 ht2)
   go_roundw
   case rel=>exact⟨z2,_,v2,by omega,by go_num,Hw2.out,Ht2.out,Hv.out⟩
   case measure=>simp [intOf];omega
set_option maxRecDepth 20000 in
set_option maxHeartbeats 2000000 in
theorem rsigned_any {X:Nat→Prop}(rb:Nat) (v:Value) (l:List Bool) (t:Int) (w:World) (h:RbAt w rb v l) (hl:l.length≤900000) (ht:-9007199254740992≤t∧t≤9007199254740992) (hX:X rb) :
  Calls Tryz.prog 111 #[.pointer (some ⟨rb,0,none⟩),.int .i64 t] w fun e w'=>e=.returned (.tuple #[])∧∃v',RbAt w' rb v' (l++vbits (zz t))∧Wrote X v v' w w':=by
 have hz:=zz_lt ht
 have HV:=Lib.hid (rvarint_any (X:=X) rb v l (zz t) w h hl hz hX)
 by_cases h0:0≤t
 ·obtain⟨a,ha⟩:∃a:Nat,(a:Int)=t:=⟨t.toNat,by omega⟩
  have h1:IntKind.u64.wrap t=(a:Int):=by rw [wrap_u64];omega
  have h2:(a:Int) * 2=((zz t:Nat):Int):=by unfold zz;rw [if_pos h0];omega
  have h3:IntKind.u64.wrap ((zz t:Nat):Int)=((zz t:Nat):Int):=by rw [wrap_u64];omega
  have hz2:(zz t:Int)<18446744073709551616:=by omega
  generalize zz t=z at *
  clear h ha
  go_enter Tryz.func111,Tryz.ntmps111
  go_wp2_with (go_at_call 159;refine HV.out.mono ?_;clear HV;rintro e w2 ⟨rfl,h2⟩;have H2:=Lib.hid h2;clear h2)
  refine bodyPost_ret (results_none rfl _ _ _) rfl ?_
  exact⟨rfl,H2.out⟩
 ·obtain⟨a,ha⟩:∃a:Nat,(a:Int) = -(t+1):=⟨(-(t+1)).toNat,by omega⟩
  have h1:-(t+1)=(a:Int):=ha.symm
  have h2:IntKind.u64.wrap (a:Int)=(a:Int):=by rw [wrap_u64];omega
  obtain⟨b,hb⟩:∃b:Nat,b=2 * a:=⟨_,rfl⟩
  have h3:(a:Int) * 2=(b:Int):=by omega
  have h4:IntKind.u64.wrap (b:Int)=(b:Int):=by rw [wrap_u64];omega
  have h5:(b:Int)+1=((zz t:Nat):Int):=by unfold zz;rw [if_neg h0];omega
  have h6:IntKind.u64.wrap ((zz t:Nat):Int)=((zz t:Nat):Int):=by rw [wrap_u64];omega
  generalize zz t=z at *
  clear h ha hb
  go_enter Tryz.func111,Tryz.ntmps111
  go_wp2_with (go_at_call 159;refine HV.out.mono ?_;clear HV;rintro e w2 ⟨rfl,h2⟩;have H2:=Lib.hid h2;clear h2)
  go_end0
  exact⟨rfl,H2.out⟩
theorem RbAt.cell {w:World}{rb g c:Nat}{l:List Bool}(h:RbAt w rb (.slice (some ⟨g,0,none⟩) l.length c) l) {j:Nat}(hj:j<l.length):w.cell? ⟨g,j,none⟩=some (.int .u8 ((l[j]).toNat:Nat)):=by
 have hr:=h.2
 unfold Row8 at hr
 rw [one8_len] at hr
 have:=ownsRow_cell hr j (.int .u8 ((l[j]).toNat:Nat)) (by
  unfold octs
  rw [List.getElem?_map,one8_at hj]
  rfl)
 rwa [Nat.zero_add] at this
theorem row8_nil (w:World) (B:Nat):Row8 w B (.slice none 0 0) []:=⟨rfl,.inl ⟨rfl,rfl⟩⟩
set_option maxRecDepth 20000 in
set_option maxHeartbeats 4000000 in
theorem rbytes_any (rb:Nat) (v:Value) (l:List Bool) (w:World) (h:RbAt w rb v l) (hl:l.length≤1000000) :
  Calls Tryz.prog 116 #[.pointer (some ⟨rb,0,none⟩)] w fun e w'=>∃u,e=.returned u∧Row8 w' w.heap.size u (pack l)∧Below w.heap.size w w':=by
 obtain⟨i0,hi0,hz0,hz1,hz2⟩:=info_parts Tryz.info5
 obtain⟨o,c,rfl,h0⟩:=h.2.shape
 rw [one8_len] at *
 have hPl:=pack_len l
 have H:=Lib.hid h
 have HC:Hid (∀W,Below w.heap.size w W→W.cell? ⟨rb,0,none⟩=some (.slice o l.length c)∧∀g,o=some ⟨g,0,none⟩→∀j (hj:j<l.length),W.cell? ⟨g,j,none⟩=some (.int .u8 ((l[j]).toNat:Nat))):=Lib.hid (fun W hW=>by
  have h':=H.out.olds (Olds.of_below hW)
  refine⟨cell_of_heap h'.1,fun g hg j hj=>?_⟩
  subst hg
  exact h'.cell hj)
 have Hne:Hid (0<l.length→∃g,o=some ⟨g,0,none⟩):=Lib.hid (fun hp=>by
  have hr:=H.out.2
  unfold Row8 at hr
  rw [one8_len] at hr
  rcases hr.2 with ⟨e,_⟩|⟨g,cap,cur,e,_⟩
  ·simp only [Value.slice.injEq] at e
   omega
  ·simp only [Value.slice.injEq] at e
   exact⟨g,e.1⟩)
 clear h h0
 go_enter Tryz.func116,Tryz.ntmps116
 go_wp2_with fail
 go_loopw [3,4] (fun ov iv wr=>∃k K8:Nat,K8=8 * k∧8 * k≤l.length+7∧iv=.int .i64 (K8:Nat)∧Row8 wr w.heap.size ov ((pack l).take k)∧Below w.heap.size w wr) (fun _ iv _=>l.length+8-(intOf iv).toNat)
 case atStart=>exact⟨0,0,rfl,by omega,rfl,row8_nil _ _,Below.refl _ _⟩
 case round =>
  obtain⟨k,K8,hK8,hk,rfl,hrow,hb⟩:=hrel
  obtain⟨c1,c2⟩:=HC.out wr hb
  have Hb:=Lib.hid hb
  have hs1:=hb.size
  obtain⟨o3,c3,rfl,_⟩:=hrow.shape
  have Hrow:=Lib.hid hrow
  clear hb hrow
  have HK8:=Lib.hid hK8
  by_cases hlt:K8<l.length
  ·obtain⟨g,rfl⟩:=Hne.out (by omega)
   have C3:=Lib.hid (c2 g rfl)
   clear c2
   have hkt:((pack l).take k).length=k:=by rw [List.length_take];omega
   have hdl:decide ((K8:Int)<(l.length:Int))=true:=by simp;omega
   have Hrow8:Hid (wr.ownsRow w.heap.size 5 1 (.slice o3 k c3) k (octs ((pack l).take k))):=Lib.hid (by have:=Hrow.out;unfold Row8 at this;rwa [hkt] at this)
   rw [hkt] at *
   have Hkt:Hid (((pack l).take k).length=k):=Lib.hid (by rw [List.length_take];have:=HK8.out;omega)
   clear hK8
   go_wp2_with fail
   go_loopw [5,6] (fun nv kv wz=>∃q:Nat,q≤8∧kv=.int .i64 (q:Nat)∧nv=.int .i64 (padV (eight l k) q:Nat)∧wz=wr) (fun _ kv _=>8-(intOf kv).toNat)
   case atStart=>exact⟨0,by omega,rfl,by rw [pad_zero];rfl,rfl⟩
   case round =>
    obtain⟨q,hq,rfl,rfl,rfl⟩:=hrel
    have hK8:=HK8.out
    have hp:=pad_lt (eight l k) q
    have hp8:2 ^ q≤256:=Nat.pow_le_pow_right (by decide:0<2) hq
    by_cases hq8:q<8
    ·obtain⟨J,hJ⟩:∃J:Nat,J=K8+q:=⟨_,rfl⟩
     have hJi:(K8:Int)+(q:Int)=(J:Int):=by omega
     obtain⟨p,hpe⟩:∃p,p=padV (eight l k) q:=⟨_,rfl⟩
     rw [← hpe] at hp ⊢
     obtain⟨p1,hp1⟩:∃p1:Nat,p1=2 * p:=⟨_,rfl⟩
     have hp1i:2 * (p:Int)=(p1:Int):=by omega
     have hp1l:p1<100000:=by omega
     by_cases hjl:J<l.length
     ·have cc:=C3.out J hjl
      have hn:=pad_next (l:=l) (i:=k) hq8 (by omega)
      obtain⟨bn,hbn⟩:∃bn:Nat,bn=(l[J]).toNat:=⟨_,rfl⟩
      have hbl:bn≤1:=by rw [hbn];cases l[J]<;>simp
      have Hn:Hid (padV (eight l k) (q+1)=p1+bn):=Lib.hid (by
       rw [hn,← hpe,hp1,hbn]
       congr 2
       congr 1
       omega)
      rw [← hbn] at cc
      have hbw:IntKind.i64.wrap (bn:Int)=(bn:Int):=by rw [IntKind.wrap_i64];omega
      obtain⟨p3,hp3⟩:∃p3:Nat,p3=p1+bn:=⟨_,rfl⟩
      have hp3i:(p1:Int)+(bn:Int)=(p3:Int):=by omega
      have Hp3:=Lib.hid hp3
      clear hn hbn hpe hJ hp1 hp3 hK8
      go_wp2_with fail
      go_roundw
      case rel=>exact⟨q+1,by omega,by go_num,by rw [Hn.out,← Hp3.out],trivial⟩
      case measure=>simp [intOf];omega
     ·have Hn:Hid (padV (eight l k) (q+1)=p1):=Lib.hid (by rw [pad_void (by omega),← hpe,hp1])
      clear hpe hJ hp1 hK8
      go_wp2_with fail
      go_roundw
      case rel=>exact⟨q+1,by omega,by go_num,by rw [Hn.out],trivial⟩
      case measure=>simp [intOf];omega
    ·obtain rfl:q=8:=by omega
     have Hst:Hid ((pack l).take (k+1)=(pack l).take k++[padV (eight l k) 8]):=Lib.hid (pack_step (by omega))
     obtain⟨p,hpe⟩:∃p,p=padV (eight l k) 8:=⟨_,rfl⟩
     rw [← hpe] at hp Hst ⊢
     have hpw:IntKind.u8.wrap (p:Int)=(p:Int):=by simp [IntKind.wrap,IntKind.bits,IntKind.signed];omega
     clear hpe hK8
     go_wp2_with (at_builtin;refine wpList_append_lies _ rfl _ _ _ rfl w.heap.size 5 i0 _ 1 1 Tryz.underlying26 hi0 hz0 hz1 hz2 rfl Nat.one_pos (.slice o3 k c3) k (octs ((pack l).take k)) rfl (ownsRow_olds (Hrow8.out) (Olds.alloc _ _)) ⟨wr.heap.size,0,none⟩ 1 1 [.int .u8 (p:Nat)] rfl rfl (World.news_of_block (cs:=#[.int .u8 (p:Nat)]) (t:=5) (fr:=(0,0)) (heap_alloc_new wr _)) (by simp [Value.oneCell']) Nat.one_pos (by unfold maxLen;omega) (by omega) (by simp;omega) (wr.heap.size+1) (by simp) ?_;intro gg cap2 w4 hown4 hgrow hat hlt4;have Hnew:Hid (Row8 w4 w.heap.size (.slice (some ⟨gg,0,none⟩) (k+1) cap2) ((pack l).take (k+1))):=(Lib.hid (by unfold Row8;rw [Hst.out,octs_append,List.length_append,Hkt.out];exact hown4));have B4:Hid (Below w.heap.size w w4):=Lib.hid ((Hb.out.alloc hs1 _).grown hgrow (by simp;omega) (fun g hg=>(ownsRow_block Hrow8.out hg).1));clear hown4 hgrow hat hlt4)
     go_roundw
     case rel=>exact⟨k+1,K8+8,by have:=HK8.out;omega,by have:=HK8.out;omega,by go_num,Hnew.out,B4.out⟩
     case measure=>simp [intOf];omega
  ·have hfull:(pack l).take k=pack l:=List.take_of_length_le (by omega)
   clear hK8
   have Hfull:=Lib.hid hfull
   clear hfull
   go_wp2_with fail
   go_ret
   refine⟨_,rfl,?_,Hb.out⟩
   have h9:=Hrow.out
   show Row8 wr _ (.slice o3 ((pack l).take k).length c3) (pack l)
   rw [Hfull.out] at h9 ⊢
   exact h9
end Go.Proofs.YtbecggfbblnglaaGreatDoor
namespace Go.Proofs.YtbecggfbblnglaaGreatDoor
open Go Go.RowKit Go.Ix Go.Gor
theorem test_none {x j:Nat}(hx:x<18446744073709551616):(bits .and .u64 ((x:Int) / 2 ^ j) 1 == 0)=!x.testBit j:=by
 have h1:((x:Int) / 2 ^ j)=((x / 2 ^ j:Nat):Int):=by norm_cast
 have h2:x / 2 ^ j<18446744073709551616:=Nat.lt_of_le_of_lt (Nat.div_le_self _ _) hx
 rw [h1]
 have h3:=and_u64 (x / 2 ^ j) 1 h2 (by decide)
 rw [show ((1:Nat):Int)=1 from rfl] at h3
 rw [h3,and1G,test_div]
 rcases Nat.mod_two_eq_zero_or_one (x / 2 ^ j) with h | h<;>rw [h]<;>rfl
set_option maxRecDepth 20000 in
set_option maxHeartbeats 2000000 in
theorem ends_any (x:Nat) (w:World) (h0:0<x) (hx:x<18446744073709551616) :
  Calls Tryz.prog 115 #[.int .u64 (x:Nat)] w fun e w'=>e=.returned (.tuple #[.int .i64 (lead x:Nat),.int .i64 (trail x:Nat)])∧w=w':=by
 have HL:=Lib.hid (lead_bit h0 hx)
 have HT:=Lib.hid (trail_bit 64 x h0 hx)
 have hl31:=lead_le x
 have ht64:=trail_lt h0 hx
 have HT2:Hid ((∀i,i<trail x→x.testBit i=false)∧x.testBit (trail x)=true):=HT
 clear HT
 have hbit:Hid (∀j,(bits .and .u64 ((x:Int) / 2 ^ j) 1 == 0)=!x.testBit j):=Lib.hid (fun j=>test_none hx)
 generalize hle:lead x=le at *
 generalize htr:trail x=tr at *
 clear hle htr
 go_enter Tryz.func115,Tryz.ntmps115
 go_wp2_with fail
 go_loopw [4] (fun lv wr=>∃l:Nat,l≤le∧lv=.int .i64 (l:Nat)∧wr=w) (fun lv _=>32-(intOf lv).toNat)
 case atStart=>exact⟨0,Nat.zero_le _,rfl,rfl⟩
 case round =>
  obtain⟨l,hl,rfl,rfl⟩:=hrel
  obtain⟨j,hj⟩:∃j:Nat,j=63-l:=⟨_,rfl⟩
  have hji:63-(l:Int)=(j:Int):=by omega
  have hju:IntKind.u64.wrap (j:Int)=(j:Int):=by rw [wrap_u64];omega
  have hb:=hbit.out j
  by_cases hlt:l<le
  ·rw [show x.testBit j=false from by rw [hj];exact HL.out.1 l hlt] at hb
   have hl2:l<31:=by omega
   clear hj
   go_wp2_with fail
   go_roundw
   case rel=>exact⟨l+1,by omega,by go_num,trivial⟩
   case measure=>simp [intOf];omega
  ·obtain rfl:l=le:=by omega
   have hend:¬ l<31∨(l<31∧(bits .and .u64 ((x:Int) / 2 ^ j) 1 == 0)=false):=by
    by_cases h31:l<31
    ·refine .inr ⟨h31,?_⟩
     rw [hb,hj,HL.out.2 h31]
     rfl
    ·exact .inl h31
   clear hb hj
   rcases hend with hend|⟨hend,hb⟩
   all_goals
    go_wp2_with fail
    clear hji hju
    try clear hb
    go_loopw [5] (fun lv wz=>∃e:Nat,e≤tr∧lv=.int .i64 (e:Nat)∧wz=wr) (fun lv _=>64-(intOf lv).toNat)
    case atStart=>exact⟨0,Nat.zero_le _,rfl,rfl⟩
    case round =>
     obtain⟨e,he,rfl,rfl⟩:=hrel
     have heu:IntKind.u64.wrap (e:Int)=(e:Int):=by rw [wrap_u64];omega
     have hb:=hbit.out e
     by_cases hlt2:e<tr
     ·rw [HT2.out.1 e hlt2] at hb
      go_wp2_with fail
      go_roundw
      case rel=>exact⟨e+1,by omega,by go_num,trivial⟩
      case measure=>simp [intOf];omega
     ·obtain rfl:e=tr:=by omega
      rw [HT2.out.2] at hb
      go_wp2_with fail
      go_ret2
      exact⟨rfl,rfl⟩
theorem getD_at {l:List Smp}{k:Nat}{x:Smp}(h:l[k]?=some x):l.getD k (0,0)=x:=by
 rw [List.getD_eq_getElem?_getD,h]
 rfl
theorem fits_far {l:List Smp}{k:Nat}{x:Smp}(h:l[k]?=some x) (hf:x.1 < -9007199254740992∨9007199254740992<x.1):fitsE l=2:=by
 unfold fitsE
 rw [far_of (List.getElem?_eq_some_iff.1 h).1 (by rw [getD_at h];exact decide_eq_true hf)]
 rfl
theorem far_next {l:List Smp}{k:Nat}{x:Smp}(h:l[k]?=some x) (hk:farTo l k=false) (hf:-9007199254740992≤x.1∧x.1≤9007199254740992):farTo l (k+1)=false:=by
 rw [far_succ,hk,getD_at h,Bool.false_or]
 exact decide_eq_false (by omega)
theorem fall_next {l:List Smp}{k:Nat}{x y:Smp}(h:l[k+1]?=some x) (h2:l[k]?=some y) (hk:fallTo l (k+1)=false) (hf:y.1<x.1):fallTo l (k+1+1)=false:=by
 rw [fall_succ,hk,Bool.false_or]
 unfold fallB
 rw [show k+1-1=k by omega,getD_at h,getD_at h2,decide_eq_false (show ¬ x.1≤y.1 by omega),Bool.and_false]
theorem fits_fall {l:List Smp}{k:Nat}{x y:Smp}(h:l[k+1]?=some x) (h2:l[k]?=some y) (hk:farTo l l.length=false) (hf:x.1≤y.1):fitsE l=100:=by
 unfold fitsE
 rw [hk,fall_of (i:=k+1) (List.getElem?_eq_some_iff.1 h).1 (by
  unfold fallB
  rw [show k+1-1=k by omega,getD_at h,getD_at h2,decide_eq_true hf,decide_eq_true (show 0<k+1 by omega)]
  rfl)]
 rfl
theorem fits_ok {l:List Smp}{k:Nat}(h:l.length≤k) (h1:farTo l l.length=false) (h2:fallTo l k=false):fitsE l=0:=by
 have h3:fallTo l l.length=false:=by
  cases h4:fallTo l l.length with
  | false=>rfl
  | true =>
   obtain⟨i,hi,hb⟩:=List.any_eq_true.1 h4
   rw [fall_of (Nat.lt_of_lt_of_le (List.mem_range.1 hi) h) hb] at h2
   cases h2
 unfold fitsE
 rw [h1,h3]
 rfl
set_option maxRecDepth 20000 in
set_option maxHeartbeats 2000000 in
theorem rfits_any (o:Option Addr) (n c:Nat) (l:List Smp) (w:World) (hl:l.length=n) (hn:n≤1000000) (h:RowsM w o l) :
  Calls Tryz.prog 74 #[.slice o n c] w fun e w'=>e=.returned (.int .u16 (fitsE l:Nat))∧∃q,w'=w.drewN q:=by
 have H:=Lib.hid h
 have Hl:=Lib.hid hl
 clear h hl
 go_enter Tryz.func74,Tryz.ntmps74
 go_wp2_with fail
 go_loopw [3] (fun iv wr=>∃k:Nat,k≤n∧iv=.int .i64 (k:Nat)∧farTo l k=false∧wr=w) (fun iv _=>n-(intOf iv).toNat)
 case atStart=>exact⟨0,Nat.zero_le _,rfl,far_zero l,rfl⟩
 case round =>
  obtain⟨k,hk,rfl,hfar,rfl⟩:=hrel
  by_cases hlt:k<n
  ·obtain⟨b,off,y1,y2,rfl,hx,a1,a2⟩:=H.out.at (k:=k) (by rw [Hl.out];exact hlt)
   have Hx:=Lib.hid hx
   have Hfar:=Lib.hid hfar
   clear hx hfar
   by_cases h1:y1 < -9007199254740992
   ·go_wp2_with fail
    go_ret
    exact⟨by rw [fits_far Hx.out (.inl h1)];rfl,0,rfl⟩
   ·by_cases h2:9007199254740992<y1
    ·go_wp2_with fail
     go_ret
     exact⟨by rw [fits_far Hx.out (.inr h2)];rfl,0,rfl⟩
    ·go_wp2_with fail
     go_roundw
     case rel=>exact⟨k+1,by omega,by go_num,far_next Hx.out Hfar.out (by constructor<;>simp<;>omega),trivial⟩
     case measure=>simp [intOf];omega
  ·have Hfar:Hid (farTo l l.length=false):=Lib.hid (by rw [Hl.out,show n=k by omega];exact hfar)
   clear hfar
   go_wp2_with fail
   go_loopw [4] (fun iv wz=>∃k q:Nat,(k≤n∨k=0)∧iv=.int .i64 ((k:Int)+1)∧fallTo l (k+1)=false∧wz=wr.drewN q) (fun iv _=>n+1-(intOf iv).toNat)
   case atStart=>exact⟨0,0,.inr rfl,rfl,by rw [fall_succ,fall_zero];rfl,rfl⟩
   case round =>
    obtain⟨k,q,hk,rfl,hfall,rfl⟩:=hrel
    have Hfall:=Lib.hid hfall
    clear hfall
    by_cases hlt:k+1<n
    ·obtain⟨b,off,y1,y2,rfl,hx,a1,a2⟩:=H.out.at (k:=k) (by rw [Hl.out];omega)
     obtain⟨z1,z2,hz,e1,e2⟩:=H.out.next (k:=k+1) (by rw [Hl.out];exact hlt)
     have Hx:=Lib.hid hx
     have Hz:=Lib.hid hz
     obtain⟨k2,hk2⟩:∃k2:Nat,k2=k+1:=⟨_,rfl⟩
     rw [← hk2] at e1 e2
     have hk2i:(k:Int)+1=(k2:Int):=by omega
     have hk2m:(k2:Int)-1=(k:Int):=by omega
     have hk2l:k2<n:=by omega
     have Hk2:=Lib.hid hk2
     clear hx hz hk2 hlt
     by_cases h1:z1≤y1
     ·go_wp2_with fail
      go_region
      go_wp2_with fail
      go_ret
      exact⟨by rw [fits_fall Hz.out Hx.out Hfar.out h1];rfl,_,rfl⟩
     ·go_wp2_with fail
      go_region
      go_wp2_with fail
      go_roundw
      case rel=>exact⟨k2,q+1,by omega,by go_num,by rw [Hk2.out];exact fall_next Hz.out Hx.out Hfall.out (by simp;omega),rfl⟩
      case measure=>simp [intOf];have:=Hk2.out;omega
    ·go_wp2_with fail
     go_ret
     exact⟨by rw [fits_ok (k:=k+1) (by rw [Hl.out];omega) Hfar.out Hfall.out];rfl,q,rfl⟩
end Go.Proofs.YtbecggfbblnglaaGreatDoor
namespace Go.Proofs.YtbecggfbblnglaaGreatDoor
open Go Go.RowKit Go.Ix Go.Gor
def ChkEnd (l:List Smp) (w:World) (e:Ending) (w':World):Prop :=
 ((fitsE l≠0∧e=.returned (.tuple #[.slice none 0 0,.int .u16 (fitsE l:Nat)]))∨(fitsE l=0∧∃v,e=.returned (.tuple #[v,.int .u16 0])∧ChksAt w' w.heap.size v (groups l)))∧Below w.heap.size w w'
theorem fallB_zero (l:List Smp):fallB l 0=false:=rfl
theorem fallB_succ {l:List Smp}{k:Nat}{x y:Smp}(h:l[k+1]?=some x) (h2:l[k]?=some y):fallB l (k+1)=decide (x.1≤y.1):=by
 unfold fallB
 rw [show k+1-1=k by omega,getD_at h,getD_at h2,decide_eq_true (show 0<k+1 by omega)]
 rfl
def errO (b:Bool):Nat:=if b then 100 else 0
theorem push_zero (s:St) (a b x:Smp):pushS s 0 a x=pushS s 0 b x:=by
 unfold pushS
 rw [if_pos rfl,if_pos rfl]
theorem last_at {l F cur:List Smp}{q:Nat}(h:l.take q=F++cur) (hq:q≤l.length) (hc:0<cur.length):l[q-1]?=some (cur.getD (cur.length-1) (0,0)):=by
 have hl:=congrArg List.length h
 rw [List.length_take,List.length_append,Nat.min_eq_left hq] at hl
 have h1:(l.take q)[q-1]?=l[q-1]?:=by rw [List.getElem?_take,if_pos (by omega)]
 rw [← h1,h,List.getElem?_append_right (by omega),show q-1-F.length=cur.length-1 by omega,List.getD_eq_getElem?_getD,List.getElem?_eq_getElem (show cur.length-1<cur.length by omega)]
 rfl
theorem cur_first {cur:List Smp}{first:Int}(x:Smp) (h:cur≠[]→first=(cur.getD 0 (0,0)).1):(if cur.length=0 then x.1 else first)=((cur++[x]).getD 0 (0,0)).1:=by
 cases cur with
 | nil=>rfl
 | cons a cur =>
  rw [if_neg (by simp),h (by simp)]
  rfl
theorem cur_last (cur:List Smp) (x:Smp):(cur++[x]).getD ((cur++[x]).length-1) (0,0)=x:=by
 rw [List.getD_eq_getElem?_getD,List.length_append,List.length_singleton,Nat.add_sub_cancel,List.getElem?_append_right (Nat.le_refl _),Nat.sub_self]
 rfl
theorem take_next {l F cur:List Smp}{q:Nat}{x:Smp}(h:l.take q=F++cur) (hx:l[q]?=some x):l.take (q+1)=F++(cur++[x]):=by
 rw [List.take_add_one,h,hx,List.append_assoc]
 rfl
set_option maxRecDepth 20000 in
set_option maxHeartbeats 8000000 in
theorem gencode_any (o:Option Addr) (n c:Nat) (l:List Smp) (w:World) (hl:l.length=n) (hn:n≤20000) (h:RowsM w o l) (h64:∀x∈l,x.2<18446744073709551616) (hT:TabG w) (hw:5≤w.heap.size):Calls Tryz.prog 65 #[.slice o n c] w (ChkEnd l w):=by
 obtain⟨i0,hi0,hz0,hz1,hz2⟩:=info_parts Tryz.info98
 have H:=Lib.hid h
 have Hl:=Lib.hid hl
 have H64:=Lib.hid h64
 have HT:=Lib.hid hT
 clear h hl h64 hT
 unfold ChkEnd
 go_enter Tryz.func65,Tryz.ntmps65
 go_wp2_with fail
 go_loopw [4,13] (fun ov iv wr=>∃k:Nat,k≤n∧iv=.int .i64 (k:Nat)∧ov=.int .u16 (errO (fallTo l k):Nat)∧farTo l k=false∧Below w.heap.size w wr) (fun _ iv _=>n-(intOf iv).toNat)
 case atStart=>exact⟨0,Nat.zero_le _,rfl,rfl,far_zero l,Below.refl _ _⟩
 case round =>
  obtain⟨k,hk,rfl,rfl,hfar,hb⟩:=hrel
  have Hb:=Lib.hid hb
  have hs1:=hb.size
  have Hfar:=Lib.hid hfar
  have HR:Hid (RowsM wr o l):=Lib.hid (H.out.olds (Olds.of_below hb))
  clear hfar hb
  by_cases hlt:k<n
  ·obtain⟨b,off,y1,y2,rfl,hx,a1,a2⟩:=HR.out.at (k:=k) (by rw [Hl.out];exact hlt)
   have Hx:=Lib.hid hx
   obtain⟨A,hA⟩:∃A:World,A=wr.alloc (.cells #[.int .i64 y1,.int .u64 (y2:Nat)] 107):=⟨_,rfl⟩
   have HW:=Lib.hid (fun W=>within_any y1 W)
   clear hx
   by_cases hin:-9007199254740992≤y1∧y1≤9007199254740992
   ·rw [show decide (-9007199254740992≤y1∧y1≤9007199254740992)=true from decide_eq_true hin] at HW
    have Hfar2:Hid (farTo l (k+1)=false):=Lib.hid (far_next Hx.out Hfar.out hin)
    go_wp2_with (go_at_call 92;refine (HW.out _).mono ?_;rintro e w2 ⟨rfl,rfl⟩)
    have Hb2:Hid (Below w.heap.size w (wr.alloc (.cells #[.int .i64 y1,.int .u64 (y2:Nat)] 107)).drew):=Lib.hid (below_drewN (Hb.out.alloc hs1 _) 1)
    clear hA
    rcases Nat.eq_zero_or_pos k with hk0 | hk0
    ·subst hk0
     have Hf:Hid (fallTo l (0+1)=fallTo l 0):=Lib.hid (by rw [fall_succ,fallB_zero,Bool.or_false])
     go_region
     go_wp2_with fail
     go_roundw
     case rel=>exact⟨0+1,by omega,by go_num,by rw [Hf.out],Hfar2.out,Hb2.out⟩
     case measure=>simp [intOf];omega
    ·obtain⟨j,hj⟩:∃j,k=j+1:=⟨k-1,by omega⟩
     obtain⟨z1,z2,hz,e1,e2⟩:=HR.out.next (k:=j) (by rw [Hl.out];omega)
     have e3:(wr.alloc (.cells #[.int .i64 y1,.int .u64 (y2:Nat)] 107)).cell? ⟨b,off+j * 2,none⟩=some (.int .i64 z1):=(Olds.alloc _ _).cell e1
     have e4:(wr.alloc (.cells #[.int .i64 y1,.int .u64 (y2:Nat)] 107)).drew.cell? ⟨b,off+j * 2,none⟩=some (.int .i64 z1):=e3
     have hju:IntKind.i64.wrap (j:Int)=(j:Int):=by rw [IntKind.wrap_i64];omega
     have hkj:(k:Int)-1=(j:Int):=by omega
     have hkp:(0:Int)<(k:Int):=by omega
     have hjn:j<n:=by omega
     have Hf:Hid (fallTo l (k+1)=(fallTo l k || decide (y1≤z1))):=Lib.hid (by
      rw [fall_succ,hj,fallB_succ (by rw [← hj];exact Hx.out) hz])
     clear hz hj
     by_cases hle:y1≤z1
     ·rw [decide_eq_true hle,Bool.or_true] at Hf
      go_region
      go_wp2_with fail
      go_roundw
      case rel=>exact⟨k+1,by omega,by go_num,by rw [Hf.out];rfl,Hfar2.out,Hb2.out⟩
      case measure=>simp [intOf];omega
     ·rw [decide_eq_false hle,Bool.or_false] at Hf
      go_region
      go_wp2_with fail
      go_roundw
      case rel=>exact⟨k+1,by omega,by go_num,by rw [Hf.out],Hfar2.out,Hb2.out⟩
      case measure=>simp [intOf];omega
   ·rw [show decide (-9007199254740992≤y1∧y1≤9007199254740992)=false from decide_eq_false hin] at HW
    have Hf:=Lib.hid (fits_far Hx.out (by simp;omega))
    go_wp2_with (go_at_call 92;refine (HW.out _).mono ?_;rintro e w2 ⟨rfl,rfl⟩)
    go_ret2
    exact⟨.inl ⟨by rw [Hf.out];decide,by rw [Hf.out];rfl⟩,Hb.out.alloc hs1 _⟩
  ·obtain rfl:k=n:=by omega
   have Hfar2:Hid (farTo l l.length=false):=Lib.hid (by rw [Hl.out];exact Hfar.out)
   cases hfall:fallTo l k with
   | true =>
    have Hf:Hid (fitsE l=100):=Lib.hid (by unfold fitsE;rw [Hfar2.out,Hl.out,hfall];rfl)
    have he:errO true=100:=rfl
    clear hfall
    go_wp2_with fail
    go_ret2
    exact⟨.inl ⟨by rw [Hf.out];decide,by rw [Hf.out];rfl⟩,Hb.out⟩
   | false =>
    have Hf:Hid (fitsE l=0):=Lib.hid (by unfold fitsE;rw [Hfar2.out,Hl.out,hfall];rfl)
    have he:errO false=0:=rfl
    clear hfall
    have HN:=Lib.hid (gnew_any wr)
    go_wp2_with (go_at_call 93;refine HN.out.mono ?_;clear HN;rintro e w2 ⟨rfl,ha2,hb2⟩;have A2:=Lib.hid ha2;have B2:=Lib.hid (Hb.out.trans (hb2.mono hs1));have hs2:=hb2.size;clear ha2 hb2)
    clear he
    have H64l:Hid (∀x∈l,Smp64 x):=Lib.hid (fits_smp Hf.out H64.out)
    go_loopw [7,8,42] (fun ov av iv wz=>∃(q:Nat) (ps:List (List Smp×Value)) (cur:List Smp) (wb:Nat) (v:Value) (first l1:Int) (l2:Nat) (oo:Option Addr) (oc np:Nat),q≤k∧ov=.slice oo np oc∧np=ps.length∧iv=.int .i64 (q:Nat)∧l.take q=(ps.map (·.1)).flatten++cur∧(∀g∈ps.map (·.1),g.length=120)∧cur.length≤120∧(cur=[]→q=0)∧av=.pointer (some ⟨wb+1,0,none⟩)∧ApAt wz (wb+1) wb v first (l1,l2) cur.length (stAt cur cur.length)∧(cur≠[]→first=(cur.getD 0 (0,0)).1∧(l1,l2)=cur.getD (cur.length-1) (0,0))∧w.heap.size≤wb∧(∀W,Below wb wz W→ChksP W w.heap.size ov ps)∧Below w.heap.size w wz) (fun _ _ iv _=>k-(intOf iv).toNat)
    case atStart=>exact⟨0,[],[],wr.heap.size,.slice none 0 0,0,0,0,none,0,0,Nat.zero_le _,rfl,rfl,rfl,rfl,fun g hg=>by (cases hg),Nat.zero_le _,fun _=>rfl,rfl,A2.out,fun h=>absurd rfl h,hs1,fun W _=>ChksP.nil W _,B2.out⟩
    case round =>
     obtain⟨q,ps,cur,wb,v,first,l1,l2,oo,oc,np,hq,rfl,hnp,rfl,htake,hdone,hcur,hc0,rfl,hap,hfl,hwb,hchk,hbz⟩:=hrel
     have hq0:q=ps.length * 120+cur.length:=by
      have h1:=congrArg List.length htake
      have h2:∀gs:List (List Smp),(∀g∈gs,g.length=120)→gs.flatten.length=gs.length * 120:=fun gs=>by
       induction gs with
       | nil=>intro _;rfl
       | cons g gs ih =>
        intro hg
        rw [List.flatten_cons,List.length_append,hg g (by simp),ih (fun x hx=>hg x (by simp [hx])),List.length_cons]
        omega
      rw [List.length_take,List.length_append,h2 _ hdone,List.length_map,Hl.out] at h1
      omega
     have hcm:∀x∈cur,Smp64 x:=fun x hx=>H64l.out x (List.mem_of_mem_take (by rw [htake];exact List.mem_append_right _ hx))
     obtain⟨hst1,hst2,hst3⟩:=st_ok hcm cur.length (Nat.le_refl _)
     have hown:=fun b hb=>((hchk wr (Below.refl _ _)).own b hb)
     have habl:=hap.lt
     have Hap:=Lib.hid hap
     have Hchk:=Lib.hid hchk
     have Hbz:=Lib.hid hbz
     have Htake:=Lib.hid htake
     have Hdone:=Lib.hid hdone
     have Hfl:=Lib.hid hfl
     have Hc0:=Lib.hid hc0
     have Hown:=Lib.hid hown
     have Hq0:=Lib.hid hq0
     have Hcm:=Lib.hid hcm
     have hsz:=hbz.size
     have p5:wr.cell? ⟨wb+1,5,none⟩=some (.int .i64 (cur.length:Nat)):=cell_of_heap hap.heap
     obtain⟨m,hm⟩:∃m,m=cur.length:=⟨_,rfl⟩
     obtain⟨S,hS⟩:∃S,S=stAt cur cur.length:=⟨_,rfl⟩
     have HS:=Lib.hid hS
     have HapS:Hid (ApAt wr (wb+1) wb v first (l1,l2) m S):=Lib.hid (by rw [hm,hS];exact Hap.out)
     rw [← hS] at hst1 hst2 hst3
     have hnpl:np≤20000:=by omega
     rw [← hm] at hcur p5 hst1
     have Hm:=Lib.hid hm
     have Hnp:=Lib.hid hnp
     have hrow:Hid (∀W,Below wb wr W→W.ownsRow w.heap.size 98 4 (.slice oo np oc) np (ps.flatMap chkCells)):=Lib.hid (fun W hW=>by have:=(Hchk.out W hW).1;rw [← Hnp.out] at this;exact this)
     clear hap hchk hbz htake hdone hfl hc0 hown hq0 hcm hm hnp hS Hap
     by_cases hlt:q<k
     ·obtain⟨b,off,y1,y2,rfl,hx,a1,a2⟩:=(H.out.olds (Olds.of_below Hbz.out)).at (k:=q) (by rw [Hl.out];exact hlt)
      have Hx:=Lib.hid hx
      obtain⟨A,hA⟩:∃A:World,A=wr.alloc (.cells #[.int .i64 y1,.int .u64 (y2:Nat)] 107):=⟨_,rfl⟩
      have oA:Hid (Olds wr A):=Lib.hid (by rw [hA];exact Olds.alloc _ _)
      have bA:Hid (Below wr.heap.size wr A):=Lib.hid (by rw [hA];exact (Below.refl _ _).alloc (Nat.le_refl _) _)
      have hAs:A.heap.size=wr.heap.size+1:=by rw [hA];simp
      have PA:Hid (A.heap[wr.heap.size]?=some (.cells #[.int .i64 y1,.int .u64 (y2:Nat)] 107 (0,0))):=Lib.hid (by rw [hA];exact heap_alloc_new _ _)
      have pA5:A.cell? ⟨wb+1,5,none⟩=some (.int .i64 (m:Nat)):=oA.out.cell p5
      have hx64:Smp64 (y1,y2):=H64l.out _ (List.mem_of_getElem? hx)
      obtain⟨hxr,hxu⟩:=hx64
      have HTw:Hid (∀W,Below w.heap.size w W→TabG W):=Lib.hid (fun W hW=>HT.out.olds (Olds.of_below hW))
      clear hx
      have hwA:Hid (Below wb wr A):=Lib.hid (bA.out.mono (by omega))
      have Ha:=Lib.hid hA
      by_cases hm120:m=120
      ·subst hm120
       have HC:=Lib.hid (chunk_any (wb+1) wb v first l1 l2 120 S A (HapS.out.alloc oA.out) (by omega) (by omega))
       have hrA:Hid (A.ownsRow w.heap.size 98 4 (.slice oo np oc) np (ps.flatMap chkCells)):=Lib.hid (hrow.out A hwA.out)
       have HSb:Hid (pack S.bits=chunkB cur):=Lib.hid (by rw [HS.out];rfl)
       have Hcell:Hid (∀uo ul uc,chkCells (cur,.slice uo ul uc)=[.int .i64 first,.int .i64 l1,.int .i64 120,.slice uo ul uc]):=Lib.hid (fun uo ul uc=>by
        obtain⟨f1,f2⟩:=Hfl.out (List.length_pos_iff.1 (by have:=Hm.out;omega))
        show [Value.int .i64 (cur.getD 0 (0,0)).1,.int .i64 (cur.getD (cur.length-1) (0,0)).1,.int .i64 (cur.length:Nat),_]=_
        rw [← f1,← f2,← Hm.out]
        rfl)
       clear hA hst1 hst2 hst3
       go_wp2_with (first
        | (go_at_call 94;rw [← Ha.out];refine HC.out.mono ?_;clear HC;rintro e w3 ⟨u,rfl,hu3,hb3⟩;obtain⟨uo,uc,rfl,_⟩:=hu3.shape;have B3:=Lib.hid hb3;have hs3:=hb3.size;obtain⟨ul,hul⟩:∃ul,ul=(pack S.bits).length:=⟨_,rfl⟩;have U3:Hid (Row8 w3 A.heap.size (.slice uo ul uc) (chunkB cur)):=(Lib.hid (by rw [← HSb.out,hul];exact hu3));rw [← hul];clear hul hu3 hb3)
        | (at_builtin;(refine wpList_append_lies _ rfl _ _ _ rfl w.heap.size 98 i0 _ 4 48 Tryz.underlying94 hi0 hz0 hz1 hz2 rfl (by decide) (.slice oo np oc) np (ps.flatMap chkCells) rfl (ownsRow_olds hrA.out ((Olds.of_below B3.out).trans (Olds.alloc _ _))) ⟨w3.heap.size,0,none⟩ 1 1 [.int .i64 first,.int .i64 l1,.int .i64 120,.slice uo ul uc] rfl rfl (World.news_of_block (cs:=#[.int .i64 first,.int .i64 l1,.int .i64 120,.slice uo ul uc]) (t:=98) (fr:=(0,0)) (heap_alloc_new w3 _)) (by simp [Value.oneCell']) Nat.one_pos (by unfold maxLen;omega) (by omega) (by simp;omega) (w3.heap.size+1) (by simp) ?_;intro gg cap2 w4 hown4 hgrow4 hat4 hlt4;have Hown4:=Lib.hid hown4;have Hgrow4:=Lib.hid hgrow4;have hs4:w3.heap.size+1≤w4.heap.size:=(by have h9:=hgrow4.size;rw [World.size_alloc] at h9;exact h9);have P4:Hid (w4.heap[wr.heap.size]?=some (.cells #[.int .i64 y1,.int .u64 (y2:Nat)] 107 (0,0))):=(Lib.hid (((hgrow4.block _ (by simp;omega) (fun e=>by have:=(Hown.out _ e.symm).2;omega)).trans (Below.heap_alloc _ _ _ (by omega))).trans ((B3.out.block _ (by omega)).trans PA.out)));have HN:=Lib.hid (gnew_any w4);have B4:Hid (Below w.heap.size w w4):=(Lib.hid ((((Hbz.out.trans (bA.out.mono hsz)).trans (B3.out.mono (by omega))).alloc (by omega) _).grown hgrow4 (by simp;omega) (fun b hb=>(Hown.out b hb).1)));have K4:Hid (∀W,Below w4.heap.size w4 W→ChksP W w.heap.size (.slice (some ⟨gg,0,none⟩) (np+1) cap2) (ps++[(cur,.slice uo ul uc)])):=(Lib.hid (fun W hW=>(ChksP.more (w1:=w3.alloc (.cells #[.int .i64 first,.int .i64 l1,.int .i64 120,.slice uo ul uc] 98)) (Hchk.out A hwA.out) ((Olds.of_below B3.out).trans (Olds.alloc _ _)) (Row8.from (show Row8 (w3.alloc (.cells #[.int .i64 first,.int .i64 l1,.int .i64 120,.slice uo ul uc] 98)) A.heap.size (.slice uo ul uc) (chunkB cur) from ownsRow_olds U3.out (Olds.alloc _ _)) (by omega)) hgrow4 (by rw [← Hnp.out,Hcell.out uo ul uc];exact hown4)).olds (Olds.of_below hW)));clear hown4 hgrow4 hat4 hlt4))
        | (go_at_call 93;(refine HN.out.mono ?_;clear HN;rintro e w5 ⟨rfl,ha5,hb5⟩;have hs5:=hb5.size;have P5:Hid (w5.heap[wr.heap.size]?=some (.cells #[.int .i64 y1,.int .u64 (y2:Nat)] 107 (0,0))):=(Lib.hid ((hb5.block _ (by omega)).trans P4.out));have b0:w5.cell? ⟨wr.heap.size,0,none⟩=some (.int .i64 y1):=(cell_of_heap P5.out);have b1:w5.cell? ⟨wr.heap.size,1,none⟩=some (.int .u64 (y2:Nat)):=(cell_of_heap P5.out);have B5:=Lib.hid hb5;have A5:=Lib.hid ha5;have HAp:=Lib.hid (append_any (w4.heap.size+1) w4.heap.size (.slice none 0 0) 0 0 0 0 ⟨[],0,none⟩ y1 y2 w5 ha5 (HTw.out w5 (B4.out.trans (hb5.mono (by omega)))) (by omega) (by omega) (Nat.zero_le _) (by decide:(0:Nat)<18446744073709551616) (fun _ _ e=>by cases e) hxr hxu (fun h=>absurd h (by decide)) (by decide));clear ha5 hb5))
        | (go_at_call 95;refine HAp.out.mono ?_;clear HAp;rintro e w6 ⟨rfl,v6,ha6,ht6⟩;have A6:Hid (ApAt w6 (w4.heap.size+1) w4.heap.size v6 y1 (y1,y2) 1 (stAt [(y1,y2)] 1)):=(Lib.hid (by rw [st_one (x:=(y1,y2)) rfl];exact ha6));have T6:Hid (Below w4.heap.size w4 w6):=(Lib.hid (B5.out.trans (ht6.below (fun b hb=>by omega) (fun g hg=>by cases hg) hs5)));have B6:Hid (Below w.heap.size w w6):=(Lib.hid (B4.out.trans (T6.out.mono (by omega))));clear ha6 ht6))
       go_roundw
       case rel =>
        refine⟨q+1,ps++[(cur,.slice uo ul uc)],[(y1,y2)],w4.heap.size,v6,_,y1,y2,some ⟨gg,0,none⟩,cap2,np+1,by omega,rfl,by rw [List.length_append,Hnp.out];rfl,by go_num,?_,?_,by simp,(fun e=>by cases e),rfl,A6.out,fun _=>⟨rfl,rfl⟩,by omega,fun W hW=>?_,B6.out⟩
        ·rw [List.map_append,List.flatten_append,take_next Htake.out Hx.out,← List.append_assoc]
         simp
        ·intro g hg
         rw [List.map_append] at hg
         rcases List.mem_append.1 hg with hg | hg
         ·exact Hdone.out g hg
         ·simp at hg
          rw [hg,← Hm.out]
        ·exact K4.out W (T6.out.trans hW)
       case measure=>simp [intOf];omega
      ·have HAp:=Lib.hid (append_any (wb+1) wb v first l1 l2 m S y1 y2 A (HapS.out.alloc oA.out) (HTw.out A (Hbz.out.trans (bA.out.mono hsz))) (by omega) (by omega) (by omega) hst2 hst3 hxr hxu (fun hm0=>by
        have h0:0<cur.length:=by have:=Hm.out;omega
        have e1:=last_at Htake.out (by rw [Hl.out];exact hq) h0
        have e2:=(Hfl.out (List.length_pos_iff.1 h0)).2
        rw [← e2] at e1
        have hq1:q-1+1=q:=by have:=Hq0.out;omega
        have h64:=H64l.out _ (List.mem_of_getElem? e1)
        exact⟨h64.1,h64.2,fits_rise Hf.out e1 (by rw [hq1];exact Hx.out)⟩) (by omega))
       have b0:A.cell? ⟨wr.heap.size,0,none⟩=some (.int .i64 y1):=cell_of_heap PA.out
       have b1:A.cell? ⟨wr.heap.size,1,none⟩=some (.int .u64 (y2:Nat)):=cell_of_heap PA.out
       clear hst2 hst3 hst1 hA
       go_wp2_with (go_at_call 95;rw [← Ha.out];refine HAp.out.mono ?_;clear HAp;rintro e w3 ⟨rfl,v3,ha3,ht3⟩;have A3:=Lib.hid ha3;have T3:Hid (Below wb A w3):=Lib.hid (ht3.below (fun b hb=>by omega) (fun g hg=>by have:=((HapS.out.alloc oA.out).wr.own g hg).1;omega) (by omega));clear ha3 ht3)
       go_roundw
       case rel =>
        refine⟨q+1,ps,cur++[(y1,y2)],wb,v3,_,y1,y2,oo,oc,np,by omega,rfl,Hnp.out,by go_num,take_next Htake.out Hx.out,Hdone.out,by rw [List.length_append,← Hm.out];simp;omega,fun e=>by simp at e,rfl,?_,fun _=>⟨cur_first (y1,y2) (fun h=>(Hfl.out h).1),(cur_last cur (y1,y2)).symm⟩,hwb,fun W hW=>Hchk.out W ((hwA.out.trans T3.out).trans hW),Hbz.out.trans ((hwA.out.trans T3.out).mono hwb)⟩
        have h9:=A3.out
        rw [List.length_append,List.length_singleton,st_snoc,← HS.out,← Hm.out]
        have e9:pushS S m (l1,l2) (y1,y2)=pushS S m (cur.getD (m-1) (0,0)) (y1,y2):=by
         by_cases h0:m=0
         ·rw [h0];exact push_zero _ _ _ _
         ·rw [(Hfl.out (List.length_pos_iff.1 (by have:=Hm.out;omega))).2,← Hm.out]
        rw [← e9]
        exact h9
       case measure=>simp [intOf];omega
     ·obtain rfl:q=k:=by omega
      have htk:l=(ps.map (·.1)).flatten++cur:=by
       have h1:=Htake.out
       rwa [List.take_of_length_le (by rw [Hl.out];exact Nat.le_refl _)] at h1
      have Hgr:Hid (groups l=ps.map (·.1)++(if cur=[] then [] else [cur])):=Lib.hid (by
       rw [htk]
       exact groups_all _ _ Hdone.out (by have:=Hm.out;omega))
      clear htk
      by_cases hm0:m=0
      ·have hc:cur=[]:=List.eq_nil_of_length_eq_zero (by have:=Hm.out;omega)
       rw [if_pos hc,List.append_nil] at Hgr
       have Hend:Hid (ChksAt wr w.heap.size (.slice oo np oc) (groups l)):=Lib.hid ⟨ps,Hgr.out.symm,Hchk.out wr (Below.refl _ _)⟩
       clear hc
       go_wp2_with fail
       go_ret2
       exact⟨.inr ⟨Hf.out,_,rfl,Hend.out⟩,Hbz.out⟩
      ·rw [if_neg (fun e=>hm0 (by rw [Hm.out,e];rfl))] at Hgr
       have HC:=Lib.hid (chunk_any (wb+1) wb v first l1 l2 m S wr HapS.out (by omega) (by omega))
       have hrA:Hid (wr.ownsRow w.heap.size 98 4 (.slice oo np oc) np (ps.flatMap chkCells)):=Lib.hid (hrow.out wr (Below.refl _ _))
       have HSb:Hid (pack S.bits=chunkB cur):=Lib.hid (by rw [HS.out];rfl)
       have Hcell:Hid (∀uo ul uc,chkCells (cur,.slice uo ul uc)=[.int .i64 first,.int .i64 l1,.int .i64 (m:Nat),.slice uo ul uc]):=Lib.hid (fun uo ul uc=>by
        obtain⟨f1,f2⟩:=Hfl.out (List.length_pos_iff.1 (by have:=Hm.out;omega))
        show [Value.int .i64 (cur.getD 0 (0,0)).1,.int .i64 (cur.getD (cur.length-1) (0,0)).1,.int .i64 (cur.length:Nat),_]=_
        rw [← f1,← f2,← Hm.out])
       have hmp:(0:Int)<(m:Int):=by omega
       clear hst1 hst2 hst3
       go_wp2_with (first
        | (go_at_call 94;refine HC.out.mono ?_;clear HC;rintro e w3 ⟨u,rfl,hu3,hb3⟩;obtain⟨uo,uc,rfl,_⟩:=hu3.shape;have B3:=Lib.hid hb3;have hs3:=hb3.size;obtain⟨ul,hul⟩:∃ul,ul=(pack S.bits).length:=⟨_,rfl⟩;have U3:Hid (Row8 w3 wr.heap.size (.slice uo ul uc) (chunkB cur)):=(Lib.hid (by rw [← HSb.out,hul];exact hu3));rw [← hul];clear hul hu3 hb3)
        | (at_builtin;(refine wpList_append_lies _ rfl _ _ _ rfl w.heap.size 98 i0 _ 4 48 Tryz.underlying94 hi0 hz0 hz1 hz2 rfl (by decide) (.slice oo np oc) np (ps.flatMap chkCells) rfl (ownsRow_olds hrA.out ((Olds.of_below B3.out).trans (Olds.alloc _ _))) ⟨w3.heap.size,0,none⟩ 1 1 [.int .i64 first,.int .i64 l1,.int .i64 (m:Nat),.slice uo ul uc] rfl rfl (World.news_of_block (cs:=#[.int .i64 first,.int .i64 l1,.int .i64 (m:Nat),.slice uo ul uc]) (t:=98) (fr:=(0,0)) (heap_alloc_new w3 _)) (by simp [Value.oneCell']) Nat.one_pos (by unfold maxLen;omega) (by omega) (by simp;omega) (w3.heap.size+1) (by simp) ?_;intro gg cap2 w4 hown4 hgrow4 hat4 hlt4;have B4:Hid (Below w.heap.size w w4):=(Lib.hid (((Hbz.out.trans (B3.out.mono hsz)).alloc (by omega) _).grown hgrow4 (by simp;omega) (fun b hb=>(Hown.out b hb).1)));have K4:Hid (ChksP w4 w.heap.size (.slice (some ⟨gg,0,none⟩) (np+1) cap2) (ps++[(cur,.slice uo ul uc)])):=(Lib.hid (ChksP.more (w1:=w3.alloc (.cells #[.int .i64 first,.int .i64 l1,.int .i64 (m:Nat),.slice uo ul uc] 98)) (Hchk.out wr (Below.refl _ _)) ((Olds.of_below B3.out).trans (Olds.alloc _ _)) (Row8.from (show Row8 (w3.alloc (.cells #[.int .i64 first,.int .i64 l1,.int .i64 (m:Nat),.slice uo ul uc] 98)) wr.heap.size (.slice uo ul uc) (chunkB cur) from ownsRow_olds U3.out (Olds.alloc _ _)) (by omega)) hgrow4 (by rw [← Hnp.out,Hcell.out uo ul uc];exact hown4)));clear hown4 hgrow4 hat4 hlt4)))
       go_ret2
       exact⟨.inr ⟨Hf.out,.slice (some ⟨gg,0,none⟩) (np+1) cap2,rfl,ps++[(cur,.slice uo ul uc)],by rw [List.map_append,Hgr.out];rfl,K4.out⟩,B4.out⟩
end Go.Proofs.YtbecggfbblnglaaGreatDoor
