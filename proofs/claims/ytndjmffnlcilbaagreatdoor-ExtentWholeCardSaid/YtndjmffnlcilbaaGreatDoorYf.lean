/- Contracts over this program. Their conditions: the slices read as the lists that are named, and lie within the sizes that are named. -/
import Derived.Test.YtndjmffnlcilbaaGreatDoorYe
set_option linter.unusedSimpArgs false
set_option linter.unusedVariables false
set_option linter.deprecated false
set_option linter.unnecessarySimpa false
namespace Go.Proofs.YtndjmffnlcilbaaGreatDoor
open Go Go.RowKit Go.Ix Go.Ext Go.Maps
structure On (tb:Nat) (w w':World):Prop where
 os:w'.os=w.os
 tape:w'.tape=w.tape
 output:w'.output=w.output
 size:w'.heap.size=w.heap.size
 block:∀b,b≠tb→w'.heap[b]?=w.heap[b]?
theorem On.refl (tb:Nat) (w:World):On tb w w:=⟨rfl,rfl,rfl,rfl,fun _ _=>rfl⟩
theorem On.trans {tb:Nat}{a b c:World}(h:On tb a b) (k:On tb b c):On tb a c:=⟨k.os.trans h.os,k.tape.trans h.tape,k.output.trans h.output,k.size.trans h.size,fun x hx=>(k.block x hx).trans (h.block x hx)⟩
theorem On.cell (w:World) (tb i:Nat) (v:Value):On tb w (w.setCell ⟨tb,i,none⟩ v):=⟨rfl,rfl,rfl,by simp [World.setCell],fun _ hx=>Below.heap_setCell _ _ _ _ hx⟩
theorem On.below {tb B:Nat}{w w':World}(h:On tb w w') (hB:B≤tb):Below B w w':=⟨h.os,h.tape,h.output,Nat.le_of_eq h.size.symm,fun b hb=>h.block b (by omega)⟩
theorem On.fr {tb B:Nat}{w w':World}(h:On tb w w') (hB:B≤tb) (T:List Nat):Fr B T [tb] w w':=⟨h.below hB,fun b o hb hm _=>(h.block b (fun e=>hm (by simp [e]))).trans hb⟩
theorem On.row {tb:Nat}{w w':World}(h:On tb w w') {B e k n:Nat}{v:Value}{xs:List Value}(hr:w.ownsRow B e k v n xs) (hv:v.ownBlock≠some tb):w'.ownsRow B e k v n xs:=ownsRow_blocks hr fun g hg=>h.block g fun e=>hv (by rw [hg,e])
def tv (T:Nat→Int) (n:Nat):List Value:=(List.range n).map fun a=>.int .i64 (T a)
theorem tv_len (T:Nat→Int) (n:Nat):(tv T n).length=n:=by simp [tv]
theorem tv_at {T:Nat→Int}{n a:Nat}(h:a<n):(tv T n)[a]?=some (.int .i64 (T a)):=by simp [tv,h]
theorem tv_set {T:Nat→Int}{n a:Nat}(x:Int):(tv T n).set a (.int .i64 x)=tv (fun b=>if b=a then x else T b) n:=by
 apply List.ext_getElem?
 intro i
 rw [List.getElem?_set]
 by_cases hi:i<n
 ·rw [tv_at hi,tv_len]
  by_cases ha:a=i
  ·subst ha
   simp [hi,tv_at hi]
  ·simp [ha,tv_at hi,Ne.symm ha]
 ·have h1:(tv T n)[i]?=none:=List.getElem?_eq_none (by rw [tv_len];omega)
  have h2:(tv (fun b=>if b=a then x else T b) n)[i]?=none:=List.getElem?_eq_none (by rw [tv_len];omega)
  rw [h1,h2,tv_len]
  by_cases ha:a=i
  ·subst ha
   simp [hi]
  ·simp [ha]
def Taken (w:World) (B tb n tc:Nat) (T:Nat→Int):Prop:=w.ownsRow B 3 1 (.slice (some ⟨tb,0,none⟩) n tc) n (tv T n)
set_option maxRecDepth 20000 in
set_option maxHeartbeats 1000000 in
theorem hold_any {w:World}{B B' sb tb n tc m:Nat}{cs:Array Value}{v:Value}{T:Nat→Int}(l:List Nat) (d:Int) (hd:d=1∨d = -1) (hsb:w.heap[sb]?=some (.cells cs 69 (0,0))) (h8:cs[8]?=some (.slice (some ⟨tb,0,none⟩) n tc)) (hT:Taken w B tb n tc T) (hTb:∀a,-1000000000≤T a∧T a≤1000000000)
  (hr:w.ownsRow B' 3 1 v m (nats l)) (hv:v.ownBlock≠some tb) (hl:∀a∈l,a<n) (hm:l.length=m) (hm2:m≤1000000) (hn:n≤1000000) :
  Calls Tryz.prog 44 #[.pointer (some ⟨sb,0,none⟩),v,.int .i64 d] w fun e w'=>e=.returned (.tuple #[])∧Taken w' B tb n tc (fun a=>T a+d * ((l.count a:Nat):Int))∧On tb w w':=by
 obtain⟨o,c,rfl,_⟩:=ownsRow_shape hr
 have hne:sb≠tb:=fun e=>by
  obtain⟨cur,hc⟩:=own_kind hT (g:=tb) rfl
  rw [← e,hsb] at hc
  simp at hc
 have Hsb:=Lib.hid hsb
 have H8:=Lib.hid h8
 have HT:=Lib.hid hT
 have HTb:=Lib.hid hTb
 have Hr:=Lib.hid hr
 have Hv:=Lib.hid hv
 have Hl:=Lib.hid hl
 have Hm:=Lib.hid hm
 clear hsb h8 hT hTb hr hv hl hm
 go_enter Tryz.func44,Tryz.ntmps44
 go_wp2_with fail
 go_loopw [7,10] (fun _ iv wr=>∃k:Nat,k≤m∧iv=.int .i64 k∧Taken wr B tb n tc (fun a=>T a+d * (((l.take k).count a:Nat):Int))∧On tb w wr) (fun _ iv _=>m-(intOf iv).toNat)
 case atStart=>exact⟨0,Nat.zero_le _,rfl,by simpa using HT.out,On.refl _ _⟩
 case round =>
  obtain⟨k,hk,rfl,hT,hon⟩:=hrel
  have HTr:=Lib.hid hT
  have Hon:=Lib.hid hon
  clear hT hon
  by_cases hlt:k<m
  ·obtain⟨a,ha⟩:∃a,l[k]?=some a:=⟨_,List.getElem?_eq_getElem (by rw [Hm.out];exact hlt)⟩
   have han:=Hl.out a (List.mem_of_getElem? ha)
   obtain⟨lb,rfl⟩:∃lb,o=some ⟨lb,0,none⟩:=by
    rcases Hr.out.2 with ⟨_,h0⟩|⟨g,cap,cur,e,_⟩
    ·omega
    ·simp only [Value.slice.injEq] at e
     exact⟨g,e.1⟩
   have hca:wr.cell? ⟨lb,k,none⟩=some (.int .i64 (a:Nat)):=by
    have h1:=ownsRow_cell (Hon.out.row Hr.out Hv.out) k (.int .i64 (a:Nat)) (by simp [nats,ha])
    simpa using h1
   have hc8:wr.cell? ⟨sb,8,none⟩=some (.slice (some ⟨tb,0,none⟩) n tc):=by
    rw [cell_of_heap ((Hon.out.block sb hne).trans Hsb.out)]
    exact H8.out
   obtain⟨x,hx⟩:∃x,x=T a+d * (((l.take k).count a:Nat):Int):=⟨_,rfl⟩
   have hct:wr.cell? ⟨tb,a,none⟩=some (.int .i64 x):=by
    have h1:=ownsRow_cell HTr.out a _ (tv_at han)
    rw [hx]
    simpa using h1
   have hft:wr.frozen? ⟨tb,a,none⟩=false:=HTr.out.frozenAt a
   have hcnt:(l.take k).count a≤1000000:=Nat.le_trans List.count_le_length (by rw [List.length_take];omega)
   have hxb:-2000000000≤x∧x≤2000000000:=by
    have h1:=HTb.out a
    rw [hx]
    rcases hd with rfl | rfl<;>omega
   have hwx:IntKind.i64.wrap (x+d)=x+d:=by rw [IntKind.wrap_i64];rcases hd with rfl | rfl<;>omega
   have HN:Hid (Taken (wr.setCell ⟨tb,a,none⟩ (.int .i64 (x+d))) B tb n tc (fun b=>T b+d * (((l.take (k+1)).count b:Nat):Int))):=Lib.hid (by
    have h1:=(HTr.out.stored a (.int .i64 (x+d))).1
    rw [tv_set] at h1
    unfold Taken
    have e:(fun b=>if b=a then x+d else T b+d * (((l.take k).count b:Nat):Int))=fun b=>T b+d * (((l.take (k+1)).count b:Nat):Int):=by
     funext b
     rw [List.take_add_one,ha,List.count_append]
     by_cases hb:b=a
     ·subst hb
      simp [hx]
      rcases hd with rfl | rfl<;>omega
     ·have h0:List.count b (Option.some a).toList=0:=List.count_eq_zero_of_not_mem (by simp [hb])
      rw [if_neg hb,h0,Nat.add_zero]
    rw [e] at h1
    exact h1)
   have HO:Hid (On tb w (wr.setCell ⟨tb,a,none⟩ (.int .i64 (x+d)))):=Lib.hid (Hon.out.trans (On.cell _ _ _ _))
   clear hx ha hcnt
   go_wp2_with fail
   go_roundw
   case rel=>exact⟨k+1,by omega,by go_num,HN.out,HO.out⟩
   case measure=>simp [intOf];omega
  ·go_wp2_with fail
   go_end0
   obtain rfl:k=m:=by omega
   refine⟨rfl,?_,Hon.out⟩
   have h9:=HTr.out
   rw [List.take_of_length_le (by rw [Hm.out];exact Nat.le_refl _)] at h9
   exact h9
end Go.Proofs.YtndjmffnlcilbaaGreatDoor
namespace Go.Proofs.YtndjmffnlcilbaaGreatDoor
open Go Go.RowKit Go.Ix Go.Ext Go.Maps
def TakeEnd (w:World) (T:Nat→Int) (n want:Nat) (e:Ending) (w':World):Prop :=
 Below w.heap.size w w'∧(e=.returned (.tuple #[.slice none 0 0,.int .u16 5])∨∃o c l k,e=.returned (.tuple #[.slice o want c,.int .u16 0])∧w'.ownsRow w.heap.size 3 1 (.slice o want c) want (nats l)∧l.length=want∧l=zeros T k∧k≤n∧(runsOf l).length≤48)
set_option maxRecDepth 20000 in
set_option maxHeartbeats 2000000 in
theorem take_any {w:World}{B sb tb n tc:Nat}{cs:Array Value}{T:Nat→Int}(want:Nat) (hsb:w.heap[sb]?=some (.cells cs 69 (0,0))) (h8:cs[8]?=some (.slice (some ⟨tb,0,none⟩) n tc)) (hT:Taken w B tb n tc T) (hn:n≤10000) (hn2:2≤n) (hw:want≤1000000) :
  Calls Tryz.prog 39 #[.pointer (some ⟨sb,0,none⟩),.int .i64 want] w (TakeEnd w T n want):=by
 obtain⟨i0,hi0,hz0,hz1,hz2⟩:=info_parts Tryz.info3
 have Hsb:=Lib.hid hsb
 have H8:=Lib.hid h8
 have HT:=Lib.hid hT
 clear hsb h8 hT
 go_enter Tryz.func39,Tryz.ntmps39
 go_wp2_with fail
 go_loopw [6,7] (fun sv iv wr=>∃k:Nat,2≤k∧k≤n∧iv=.int .i64 k∧wr.ownsRow w.heap.size 3 1 sv (zeros T k).length (nats (zeros T k))∧(zeros T k).length≤want∧Below w.heap.size w wr) (fun _ iv _=>n-(intOf iv).toNat)
 case atStart=>exact⟨2,Nat.le_refl _,hn2,rfl,World.ownsRow_nil _ _ _ _,Nat.zero_le _,Below.refl _ _⟩
 case round =>
  obtain⟨k,h2,hk,rfl,hrow,hlw,hb⟩:=hrel
  have Hb:=Lib.hid hb
  have hsz:=hb.size
  obtain⟨o,c,rfl,hso⟩:=ownsRow_shape hrow
  have Hrow:=Lib.hid hrow
  have hzl:=zeros_len T k
  have Hst:Hid (zeros T (k+1)=zeros T k++if 2≤k∧T k=0 then [k] else []):=Lib.hid rfl
  have Hmem:Hid (∀a∈zeros T k,a≤1000000):=Lib.hid (fun a ha=>by have:=(mem_zeros.1 ha).1.2;omega)
  have hsbr:wr.cell? ⟨sb,8,none⟩=some (.slice (some ⟨tb,0,none⟩) n tc):=by
   rw [cell_of_heap ((hb.block sb (heap_lt Hsb.out)).trans Hsb.out)]
   exact H8.out
  clear hb hrow
  generalize hZ:zeros T k=Z at *
  have HZ:=Lib.hid hZ
  clear hZ
  generalize hL:Z.length=L at *
  have HL:=Lib.hid hL
  clear hL
  by_cases hlt:k<n
  ·by_cases hlw2:L<want
   ·have hct:wr.cell? ⟨tb,k,none⟩=some (.int .i64 (T k)):=by
     have h0:w.cell? ⟨tb,k,none⟩=some (.int .i64 (T k)):=by
      have h1:=ownsRow_cell HT.out k _ (tv_at hlt)
      simpa using h1
     exact (Hb.out.cell (cell_lt h0)).trans h0
    generalize hx:T k=x at *
    by_cases h0:x=0
    ·subst h0
     go_wp2_with (at_builtin;refine wpList_append_lies _ rfl _ _ _ rfl w.heap.size 3 i0 _ 1 8 Tryz.underlying66 hi0 hz0 hz1 hz2 rfl Nat.one_pos (.slice o L c) L (nats Z) rfl (ownsRow_olds Hrow.out (Olds.alloc _ _)) ⟨wr.heap.size,0,none⟩ 1 1 [.int .i64 (k:Nat)] rfl rfl (World.news_of_block (cs:=#[.int .i64 (k:Nat)]) (t:=3) (fr:=(0,0)) (heap_alloc_new wr _)) (by simp [Value.oneCell']) Nat.one_pos (by unfold maxLen;omega) (by omega) (by simp;omega) (wr.heap.size+1) (by simp) ?_;intro gg cap2 w4 hown4 hgrow hat hlt4)
     have HR:Hid (w4.ownsRow w.heap.size 3 1 (.slice (some ⟨gg,0,none⟩) (L+1) cap2) (zeros T (k+1)).length (nats (zeros T (k+1)))):=Lib.hid (by
      rw [Hst.out,if_pos ⟨h2,rfl⟩,List.length_append,HL.out,nats_append]
      exact hown4)
     have HB4:Hid (Below w.heap.size w w4):=Lib.hid ((Hb.out.alloc (by omega) _).grown hgrow (by simp;omega) (fun g hg=>(ownsRow_block Hrow.out hg).1))
     have hl4:(zeros T (k+1)).length≤want:=by
      rw [Hst.out,if_pos ⟨h2,rfl⟩,List.length_append,HL.out]
      simp
      omega
     clear hown4 hgrow hat
     go_roundw
     case rel=>exact⟨k+1,by omega,by omega,by go_num,HR.out,hl4,HB4.out⟩
     case measure=>simp [intOf];omega
    ·have HR:Hid (wr.ownsRow w.heap.size 3 1 (.slice o L c) (zeros T (k+1)).length (nats (zeros T (k+1)))):=Lib.hid (by
      rw [Hst.out,if_neg (fun h=>h0 h.2),List.append_nil,HL.out]
      exact Hrow.out)
     have hl4:(zeros T (k+1)).length≤want:=by
      rw [Hst.out,if_neg (fun h=>h0 h.2),List.append_nil,HL.out]
      exact hlw
     go_wp2_with fail
     go_roundw
     case rel=>exact⟨k+1,by omega,by omega,by go_num,HR.out,hl4,Hb.out⟩
     case measure=>simp [intOf];omega
   ·have HRU:=Lib.hid (runs_any (w:=wr) o c L Z HL.out (by omega) Hmem.out (owns_flat Hrow.out))
    obtain⟨q,hq⟩:∃q,q=(runsOf Z).length:=⟨_,rfl⟩
    rw [← hq] at HRU
    have Hq:=Lib.hid hq
    have hqb:q≤L:=by
     have h9:=(runs_take_bound Hmem.out Z.length (Nat.le_refl _)).1
     rw [List.take_of_length_le (Nat.le_refl _),← hq,HL.out] at h9
     exact h9
    clear hq
    obtain rfl:L=want:=by omega
    by_cases h48:q≤48
    ·go_wp2_with (go_at_call 53;refine HRU.out.mono ?_;clear HRU;rintro e w5 ⟨rv,rfl,hrr,hb5⟩;obtain⟨ro,rc,rfl,_⟩:=ownsRow_shape hrr;have Hb5:=Lib.hid hb5;clear hrr hb5)
     go_ret2
     exact⟨Hb.out.trans (Hb5.out.mono hsz),.inr ⟨o,c,Z,k,rfl,ownsRow_olds Hrow.out (Olds.of_below Hb5.out),HL.out,HZ.out.symm,hk,by rw [← Hq.out];exact h48⟩⟩
    ·go_wp2_with (go_at_call 53;refine HRU.out.mono ?_;clear HRU;rintro e w5 ⟨rv,rfl,hrr,hb5⟩;obtain⟨ro,rc,rfl,_⟩:=ownsRow_shape hrr;have Hb5:=Lib.hid hb5;clear hrr hb5)
     go_ret2
     exact⟨Hb.out.trans (Hb5.out.mono hsz),.inl rfl⟩
  ·by_cases hlw2:L<want
   ·go_wp2_with fail
    go_ret2
    exact⟨Hb.out,.inl rfl⟩
   ·have HRU:=Lib.hid (runs_any (w:=wr) o c L Z HL.out (by omega) Hmem.out (owns_flat Hrow.out))
    obtain⟨q,hq⟩:∃q,q=(runsOf Z).length:=⟨_,rfl⟩
    rw [← hq] at HRU
    have Hq:=Lib.hid hq
    have hqb:q≤L:=by
     have h9:=(runs_take_bound Hmem.out Z.length (Nat.le_refl _)).1
     rw [List.take_of_length_le (Nat.le_refl _),← hq,HL.out] at h9
     exact h9
    clear hq
    obtain rfl:L=want:=by omega
    by_cases h48:q≤48
    ·go_wp2_with (go_at_call 53;refine HRU.out.mono ?_;clear HRU;rintro e w5 ⟨rv,rfl,hrr,hb5⟩;obtain⟨ro,rc,rfl,_⟩:=ownsRow_shape hrr;have Hb5:=Lib.hid hb5;clear hrr hb5)
     go_ret2
     exact⟨Hb.out.trans (Hb5.out.mono hsz),.inr ⟨o,c,Z,k,rfl,ownsRow_olds Hrow.out (Olds.of_below Hb5.out),HL.out,HZ.out.symm,hk,by rw [← Hq.out];exact h48⟩⟩
    ·go_wp2_with (go_at_call 53;refine HRU.out.mono ?_;clear HRU;rintro e w5 ⟨rv,rfl,hrr,hb5⟩;obtain⟨ro,rc,rfl,_⟩:=ownsRow_shape hrr;have Hb5:=Lib.hid hb5;clear hrr hb5)
     go_ret2
     exact⟨Hb.out.trans (Hb5.out.mono hsz),.inl rfl⟩
end Go.Proofs.YtndjmffnlcilbaaGreatDoor
namespace Go.Proofs.YtndjmffnlcilbaaGreatDoor
open Go Go.RowKit Go.Ix Go.Ext Go.Maps
theorem DK.power {w W:World}{B db sm n:Nat}{K:Dk}{d:Bool}{t:Int}(h:DK w B db sm n K) (ht:-1≤t∧t<9223372036854775808) (ho:∀x,x≠db→W.heap[x]?=w.heap[x]?)
  (hb:∀(lv cv:Value) (q1 q2 q3:Int),w.heap[db]?=some (.cells #[lv,cv,.map (some sm),.bool K.dark,.int .i64 K.trip,.int .i64 q1,.int .i64 q2,.int .i64 q3] 61 (0,0))→W.heap[db]?=some (.cells #[lv,cv,.map (some sm),.bool d,.int .i64 t,.int .i64 q1,.int .i64 q2,.int .i64 q3] 61 (0,0))):DK W B db sm n { K with dark:=d,trip:=t }:=by
 obtain⟨h1,h2,⟨lv,cv,q1,q2,q3,k,ys,hk1,hk2,h3,h4,h5⟩,h8,hok⟩:=h
 obtain⟨es,cm,hkm⟩:=h8.kind
 refine⟨h1,h2,⟨lv,cv,q1,q2,q3,k,ys,hk1,hk2,hb _ _ _ _ _ h3,?_,?_⟩,?_,⟨hok.len,hok.las,hok.cac,ht⟩⟩
 ·exact ownsRow_blocks h4 fun g hg=>ho g fun e=>by obtain⟨cur,hc⟩:=own_kind h4 hg;rw [e,h3] at hc;simp at hc
 ·exact ownsRow_blocks h5 fun g hg=>ho g fun e=>by obtain⟨cur,hc⟩:=own_kind h5 hg;rw [e,h3] at hc;simp at hc
 ·exact h8.block (ho sm fun e=>by rw [e,h3] at hkm;cases hkm)
set_option maxRecDepth 20000 in
set_option maxHeartbeats 1000000 in
theorem cut_any {w:World}{B db sm n m c:Nat}{K:Dk}{o:Option Addr}{ks:List Bool}(h:DK w B db sm n K) (hk:Bools w B o m ks) (hn:n≤1000000) (ht:K.cac.length≤1000000) (hB:B≤w.heap.size) :
  Calls Tryz.prog 9 #[.pointer (some ⟨db,0,none⟩),.slice o m c] w fun e w'=>e=.returned (.tuple #[])∧DK w' B db sm n (K.cut (keepOf ks))∧Fr B TD [sm] w w':=by
 obtain⟨X,hX⟩:∃X:World,X=w.alloc (.cells #[.slice o m c] 35):=⟨_,rfl⟩
 have hoX:Olds w X:=by rw [hX];exact Olds.alloc _ _
 have hfX:Fr B TD [sm] w X:=by rw [hX];exact (Fr.refl _ _ _ _).alloc hB _
 have g1:X.heap[w.heap.size]?=some (.cells #[.slice o m c] 35 (0,0)):=by rw [hX];exact heap_alloc_new _ _
 have hsm:w.heap.size≠sm:=fun e=>by have:=h.seen.lt;omega
 have HS:=Lib.hid (settle_cut (kb:=w.heap.size) (keep:=keepOf ks) (h.olds hoX) hn ht (by have:=hoX.1;omega) fun j W _ hW=>cut1_any j (hk.below (hfX.below.trans hW.below)) (by
  have:=hW.keep g1 (by simpa using hsm) (by decide)
  rw [cell_of_heap this];rfl))
 have HfX:=Lib.hid hfX
 have HX:=Lib.hid hX
 clear hoX hfX g1 hX h hk
 go_enter Tryz.func9,Tryz.ntmps9
 go_upto_region 1 with fail
 rw [← HX.out]
 go_upto_region 2 with (go_at_call 32;refine HS.out.mono ?_;clear HS;rintro e w2 ⟨rfl,h1,h2⟩;have H1:=Lib.hid h1;have H2:=Lib.hid h2;clear h1 h2)
 obtain⟨lv,cv,q1,q2,q3,k,ys,_,_,h3,_⟩:=H1.out.cell
 have H3:=Lib.hid h3
 have f3:w2.frozen? ⟨db,3,none⟩=false:=by simp [World.frozen?,h3]
 have f4:w2.frozen? ⟨db,4,none⟩=false:=by simp [World.frozen?,h3]
 have d3:w2.cell? ⟨db,3,none⟩=some (.bool (K.settle (keepOf ks)).dark):=by rw [cell_of_heap h3];rfl
 have d4:w2.cell? ⟨db,4,none⟩=some (.int .i64 (K.settle (keepOf ks)).trip):=by rw [cell_of_heap h3];rfl
 have HE:Hid (DK ((w2.setCell ⟨db,3,none⟩ (.bool false)).setCell ⟨db,4,none⟩ (.int .i64 (-1))) B db sm n (K.cut (keepOf ks))∧Fr B TD [sm] w ((w2.setCell ⟨db,3,none⟩ (.bool false)).setCell ⟨db,4,none⟩ (.int .i64 (-1)))):=Lib.hid ⟨H1.out.power (d:=false) (t:=-1) (by decide) (set_twice w2 db _ _ _ _) (fun lv cv r1 r2 r3 hh=>by simp [World.setCell,Array.getElem?_modify,hh]),
  (HfX.out.trans H2.out).trans (((Fr.refl B TD [sm] w2).cell (p:=⟨db,3,none⟩) H3.out H1.out.bdb (.inr (by simp)) _).cell (p:=⟨db,4,none⟩) (cs:=#[lv,cv,.map (some sm),.bool false,.int .i64 (K.settle (keepOf ks)).trip,.int .i64 q1,.int .i64 q2,.int .i64 q3]) (ty:=61) (fr:=(0,0)) (by simp [World.setCell,Array.getElem?_modify,H3.out]) H1.out.bdb (.inr (by simp)) _)⟩
 clear h3
 go_wp2_with fail
 go_end0
 exact⟨rfl,HE.out⟩
set_option maxRecDepth 20000 in
set_option maxHeartbeats 1000000 in
theorem trip_any {w:World}{B db sm n:Nat}{K:Dk}(h:DK w B db sm n K) (m:Int) (hm:m<9223372036854775808) :
  Calls Tryz.prog 8 #[.pointer (some ⟨db,0,none⟩),.int .i64 m] w fun e w'=>(∃v,e=.returned v)∧DK w' B db sm n (K.set m)∧Fr B TD [sm] w w':=by
 obtain⟨lv,cv,q1,q2,q3,k,ys,_,_,h3,_⟩:=h.cell
 have c3:w.cell? ⟨db,3,none⟩=some (.bool K.dark):=by rw [cell_of_heap h3];rfl
 have c4:w.cell? ⟨db,4,none⟩=some (.int .i64 K.trip):=by rw [cell_of_heap h3];rfl
 have f4:w.frozen? ⟨db,4,none⟩=false:=by simp [World.frozen?,h3]
 have H:=Lib.hid h
 have H3:=Lib.hid h3
 by_cases h0:m<0
 ·have hs:K.set m=K:=by unfold Dk.set;rw [if_pos h0]
  have e0:decide (m<0)=true:=by simpa using h0
  rw [hs]
  clear h h3
  go_enter Tryz.func8,Tryz.ntmps8
  go_wp2_with fail
  go_ret
  exact⟨⟨_,rfl⟩,H.out,Fr.refl _ _ _ _⟩
 ·have e0:decide (m<0)=false:=by simpa using h0
  cases hd:K.dark with
  | true =>
   have hs:K.set m=K:=by unfold Dk.set;rw [if_neg h0,if_pos hd]
   rw [hs]
   rw [hd] at c3
   clear h h3 hd
   go_enter Tryz.func8,Tryz.ntmps8
   go_wp2_with fail
   go_ret
   exact⟨⟨_,rfl⟩,H.out,Fr.refl _ _ _ _⟩
  | false =>
   have hs:K.set m={ K with dark:=K.dark,trip:=m }:=by unfold Dk.set;rw [if_neg h0,if_neg (by rw [hd];decide)]
   have HE:Hid (DK (w.setCell ⟨db,4,none⟩ (.int .i64 m)) B db sm n (K.set m)∧Fr B TD [sm] w (w.setCell ⟨db,4,none⟩ (.int .i64 m))):=Lib.hid (by
    rw [hs]
    exact⟨h.power (by omega) (fun x hx=>Below.heap_setCell _ _ _ _ hx) (fun lv cv r1 r2 r3 hh=>by simp [World.setCell,Array.getElem?_modify,hh]),(Fr.refl B TD [sm] w).cell (p:=⟨db,4,none⟩) h3 h.bdb (.inr (by simp)) _⟩)
   rw [hd] at c3
   clear h h3 hd hs
   go_enter Tryz.func8,Tryz.ntmps8
   go_wp2_with fail
   go_ret
   exact⟨⟨_,rfl⟩,HE.out⟩
set_option maxHeartbeats 400000 in
theorem dark_any {w:World}{B db sm n:Nat}{K:Dk}(h:DK w B db sm n K):Calls Tryz.prog 18 #[.pointer (some ⟨db,0,none⟩)] w fun e w'=>e=.returned (.bool K.dark)∧w'=w:=by
 obtain⟨lv,cv,q1,q2,q3,k,ys,_,_,h3,_⟩:=h.cell
 have c3:w.cell? ⟨db,3,none⟩=some (.bool K.dark):=by rw [cell_of_heap h3];rfl
 clear h h3
 go_enter Tryz.func18,Tryz.ntmps18
 go_wp2_with fail
 go_ret
 exact⟨rfl,rfl⟩
end Go.Proofs.YtndjmffnlcilbaaGreatDoor
