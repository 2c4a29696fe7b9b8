/- Contracts over this program. Their conditions: the slices read as the lists that are named, and lie within the sizes that are named. -/
import Derived.Test.YtndjmffnlcilbaaGreatDoorYo
set_option linter.unusedSimpArgs false
set_option linter.unusedVariables false
set_option linter.deprecated false
set_option linter.unnecessarySimpa false
namespace Go.Proofs.YtndjmffnlcilbaaGreatDoor
open Go Go.RowKit Go.Ix Go.Ext Go.Maps
def come (l:Fs) (left:Lit→Bool):Fs:=l.filter fun p=>!left (.string p.1)
theorem come_other {left:Lit→Bool}{x:Txt}:∀{l:Fs},x∉keys l→come l (fun z=>left z && !z.sameKey (.string x))=come l left
 | [],_=>rfl
 | p :: l,h=>by
  simp only [keys,List.map_cons,List.mem_cons,not_or] at h
  have ih:=come_other (left:=left) (l:=l) h.2
  unfold come at ih ⊢
  rw [List.filter_cons,List.filter_cons,ih]
  have:(Lit.string p.1).sameKey (.string x)=false:=by simpa [Lit.sameKey] using Ne.symm h.1
  simp [this]
theorem come_step {left:Lit→Bool}{x:Txt}{f:Fi}(hx:left (.string x)=true) (a:Nat):∀{l:Fs},(keys l).Nodup→Ext.look l x=some f→cntF (come l (fun z=>left z && !z.sameKey (.string x))) a=cntF (come l left) a+f.secs.count a
 | [],_,h=>by cases h
 | p :: l,hn,h=>by
  have hn':=hn
  simp only [keys,List.map_cons,List.nodup_cons] at hn
  by_cases hp:p.1=x
  ·have hf:p.2=f:=by
    unfold Ext.look at h
    rw [if_pos hp] at h
    exact Option.some.inj h
   have ho:=come_other (left:=left) (l:=l) (x:=x) (by rw [← hp];exact hn.1)
   unfold come at ho ⊢
   have h1:(Lit.string p.1).sameKey (.string x)=true:=by simp [Lit.sameKey,hp]
   have h2:left (.string p.1)=true:=by rw [hp];exact hx
   rw [List.filter_cons,List.filter_cons,ho]
   simp only [h1,h2,Bool.not_true,Bool.and_false,Bool.not_false,if_true,Bool.false_eq_true,if_false]
   rw [cntF_cons,hf]
   omega
  ·have hl:Ext.look l x=some f:=by
    unfold Ext.look at h
    rwa [if_neg hp] at h
   have ih:=come_step hx a (l:=l) hn.2 hl
   have h1:(Lit.string p.1).sameKey (.string x)=false:=by simpa [Lit.sameKey] using hp
   unfold come at ih ⊢
   rw [List.filter_cons,List.filter_cons]
   simp only [h1,Bool.not_false,Bool.and_true]
   split
   ·rw [cntF_cons,cntF_cons,ih]
    omega
   ·exact ih
theorem come_le (l:Fs) (left:Lit→Bool) (a:Nat):cntF (come l left) a≤cntF l a:=by
 have:=cntF_split (fun p=>!left (.string p.1)) a l
 unfold come
 omega
theorem come_all {l:Fs}{left:Lit→Bool}(h:∀z,left z=false):come l left=l:=by
 unfold come
 rw [List.filter_eq_self]
 intro p _
 simp [h]
theorem come_none {l:Fs}{left:Lit→Bool}(h:∀p∈l,left (.string p.1)=true):come l left=[]:=by
 unfold come
 rw [List.filter_eq_nil_iff]
 intro p hp
 simp [h p hp]
theorem SMap.retb {w:World}{B tb tb' mb nm:Nat}{l:Fs}(h:SMap w B tb mb nm l) (ht:w.heap.size≤tb'):SMap w B tb' mb nm l:=by
 obtain⟨D,h1,h2,h3⟩:=h
 refine⟨D,h1,h2,fun s=>⟨(h3 s).1,fun f hf=>?_⟩⟩
 obtain⟨v,a1,a2,a3⟩:=(h3 s).2 f hf
 exact⟨v,a1,fun e=>by have:=(ownsRow_block a1 e).2;omega,a3⟩
theorem clone_new {w:World}{B tb mb nm:Nat}{l:Fs}(h:SMap w B tb mb nm l) :
  Calls Tryz.prog 47 #[.map (some mb)] w fun e w'=>e=.returned (.map (some w.heap.size))∧(∀tb',w.heap.size≤tb'→SMap w' B tb' w.heap.size nm l)∧Below w.heap.size w w':=by
 obtain⟨D,hown,hnd,hD⟩:=h
 have hcon:=AnyW.maps_Clone_owns Tryz.clone47 9 RV mb nm D w hown
 change Calls Tryz.prog 47 _ _ _ at hcon
 refine hcon.mono fun e w' ⟨h1,h2,_,h4⟩=>⟨h1,fun tb' ht=>⟨D,h2,hnd,fun s=>⟨(hD s).1,fun f hf=>?_⟩⟩,h4⟩
 obtain⟨v,a1,a2,a3⟩:=(hD s).2 f hf
 exact⟨v,ownsRow_olds a1 (Olds.of_below h4),fun e=>by have:=(ownsRow_block a1 e).2;omega,a3⟩
def MadeRel (w A:World) (B tb nb nm n:Nat) (D:DataW Value) (l:Fs) (dir:List Nat) (cnt:Nat) (wr:World):Prop :=
 ∃left,wr.ranges Tryz.prog 9 RV nb A.heap.size nm D left cnt∧Taken wr B tb n n (fun a=>((dir.count a:Nat):Int)+((cntF (come l left) a:Nat):Int))∧Same tb A.heap.size A wr∧Below w.heap.size w wr
theorem MadeRel.left {w A:World}{B tb nb nm n:Nat}{D:DataW Value}{l:Fs}{dir:List Nat}{cnt:Nat}{wr:World}(h:MadeRel w A B tb nb nm n D l dir cnt wr):wr.rangeLeft nb A.heap.size=cnt:=by
 obtain⟨left,h,_⟩:=h
 exact h.left_eq
def MadeEnd (w:World) (B db nb nm n which gen:Nat) (dv:Value) (l:Fs) (dir:List Nat) (e:Ending) (w':World):Prop :=
 Below w.heap.size w w'∧∃sb tb xb:Nat,e=.returned (.pointer (some ⟨sb,0,none⟩))∧w.heap.size≤sb∧w.heap.size≤tb∧w.heap.size≤xb∧SCell w' sb db tb n nb xb n which gen (.slice none 0 0) dv∧∀sb',SR w' B sb' tb n nb xb nm (.slice none 0 0) dv { n:=n,dir:=dir,now:=l,next:=l,T:=fun a=>((dir.count a:Nat):Int)+((cntF l a:Nat):Int),undo:=[] }
set_option maxRecDepth 20000 in
set_option maxHeartbeats 4000000 in
theorem made_any {w:World}{B db sm tb nb nm n which gen:Nat}{t:Dk}{dv:Value}{l:Fs}{dir:List Nat}(hdi:DK w B db sm n t) (hB:B≤w.heap.size) (hn:n≤62) (hm:SMap w B tb nb nm l) (hnm:nm≤1000000) (hbnb:B≤nb) (hd:w.ownsRow B 3 1 dv dir.length (nats dir)) (hda:∀a∈dir,a<n) (hdl:dir.length≤1000)
  (hlf:∀p∈l,(∀a∈p.2.secs,a<n)∧p.2.secs.length≤1000) (hfok:∀p∈l,FileOk p) (hcnt:∀a,dir.count a+cntF l a≤1000) :
  Calls Tryz.prog 23 #[.pointer (some ⟨db,0,none⟩),.int .i64 (which:Nat),.int .u64 (gen:Nat),.map (some nb),dv] w (MadeEnd w B db nb nm n which gen dv l dir):=by
 obtain⟨do',dc,rfl,_⟩:=ownsRow_shape hd
 obtain⟨i0,hi0,hz0,hy0,hx0⟩:=info_parts Tryz.info3
 have hm0:=hm
 obtain⟨D,hown,hnd,hD⟩:=hm
 have Hm:=Lib.hid hm0
 have Hdi:=Lib.hid hdi
 have Hd:=Lib.hid hd
 have Hda:=Lib.hid hda
 have Hlf:=Lib.hid hlf
 have Hfok:=Lib.hid hfok
 have Hcnt:=Lib.hid hcnt
 have HD:=Lib.hid hD
 have Hown:=Lib.hid hown
 have HC:=Lib.hid (clone_new hm0)
 have hnbw:=hm0.lt
 obtain⟨dn,hdn⟩:∃dn,dn=dir.length:=⟨_,rfl⟩
 have Hdn:=Lib.hid hdn
 clear hdi hd hda hlf hfok hcnt hm0 hD hown
 rw [← hdn] at hdl ⊢
 clear hdn
 go_enter Tryz.func23,Tryz.ntmps23
 go_upto_region 2 with (first
  | (go_at_call 47;refine HC.out.mono ?_;clear HC;rintro e w1 ⟨rfl,hm1,hb1⟩;have Hm1:=Lib.hid hm1;have Hb1:=Lib.hid hb1;have HSec:=Lib.hid (sectors_any (Hdi.out.olds (Olds.of_below hb1)));clear hm1 hb1)
  | (go_at_call 22;refine HSec.out.mono ?_;clear HSec;rintro e w1' ⟨rfl,rfl⟩)
  | (at_make;refine wpList_make_full _ rfl _ _ 66 rfl B 3 i0 (.int .i64 0) 1 Tryz.underlying66 hi0 hz0 hy0 .i64 .i64 n n n rfl rfl rfl rfl (by rw [hx0];omega) (by unfold maxLen;omega) (by have:=Hb1.out.size;omega) ?_;intro w2 hown2 hgrow2;have Hown2:=Lib.hid hown2;have Hg2:=Lib.hid hgrow2;clear hown2 hgrow2))
 obtain⟨tn,htn⟩:∃tn,tn=w1'.heap.size:=⟨_,rfl⟩
 obtain⟨sn,hsn⟩:∃sn,sn=w2.heap.size:=⟨_,rfl⟩
 obtain⟨X,hX⟩:∃X:World,X=w2.alloc (.cells #[.pointer (some ⟨db,0,none⟩),.int .i64 (which:Nat),.int .u64 (gen:Nat),.map (some nb),.map (some w.heap.size),.slice none 0 0,.slice do' dn dc,.bool false,.slice (some ⟨w1'.heap.size,0,none⟩) n n] 69):=⟨_,rfl⟩
 rw [← hX,← hsn,← htn]
 have hs1:=Hb1.out.size
 have h12:Olds w1' w2:=⟨Hg2.out.size,fun b hb=>Hg2.out.block b hb (by simp)⟩
 have ht2:tn<w2.heap.size:=by rw [htn];exact (ownsRow_block Hown2.out (g:=w1'.heap.size) rfl).2
 have hXo:Olds w2 X:=by rw [hX];exact Olds.alloc _ _
 have hXs:X.heap.size=sn+1:=by rw [hX,hsn];simp
 have hXb:Below w.heap.size w X:=by
  rw [hX]
  exact Hb1.out.trans (((Below.refl _ _).grown Hg2.out hs1 (by simp)).alloc (by have:=h12.1;omega) _)
 have hXc:X.heap[sn]?=some (.cells #[.pointer (some ⟨db,0,none⟩),.int .i64 (which:Nat),.int .u64 (gen:Nat),.map (some nb),.map (some w.heap.size),.slice none 0 0,.slice do' dn dc,.bool false,.slice (some ⟨tn,0,none⟩) n n] 69 (0,0)):=by
  rw [hX,hsn,htn]
  exact heap_alloc_new _ _
 have hz:(madeCells (Value.int .i64 0).cells (n * 1)).toList=tv (fun _=>0) n:=by
  show (madeCells #[Value.int .i64 0] (n * 1)).toList=_
  rw [Nat.mul_one,toList_madeCells_one]
  unfold tv
  apply List.ext_getElem<;>simp
 have hXT:Taken X B tn n n (fun _=>0):=by
  have h:=Hown2.out
  rw [hz,← htn] at h
  exact ownsRow_olds h hXo
 have hXm:SMap X B tn w.heap.size nm l:=(((Hm1.out tn (by omega)).olds h12).olds hXo)
 have hXd:X.ownsRow B 3 1 (.slice do' dn dc) dn (nats dir):=by rw [Hdn.out];exact ownsRow_olds Hd.out (Olds.of_below hXb)
 have hdt:(Value.slice do' dn dc).ownBlock≠some tn:=fun e=>by
  have:=(ownsRow_block Hd.out (g:=tn) (by rw [← Hdn.out];exact e)).2
  omega
 have HH:=Lib.hid (hold_any (w:=X) (B:=B) (B':=B) dir 1 (.inl rfl) hXc rfl hXT (fun a=>by omega) hXd hdt Hda.out Hdn.out.symm (by omega) (by omega))
 have htw:w.heap.size<tn:=by have:=(Hm1.out tn (by omega)).lt;omega
 have HXs:=Lib.hid hXs
 have hsw:tn<sn:=by omega
 have Htn:=Lib.hid htn
 have Hsn:=Lib.hid hsn
 clear htn hsn hXs
 have HX:=Lib.hid hX
 have HXo:=Lib.hid hXo
 have HXb:=Lib.hid hXb
 have HXc:=Lib.hid hXc
 have HXm:=Lib.hid hXm
 have HXd:=Lib.hid hXd
 clear hX hXo hXb hXc hXT hXm hXd hz h12
 go_upto_region 3 with (go_at_call 44;refine HH.out.mono ?_;clear HH;rintro e A ⟨rfl,hTA,hoA⟩;have HTA:=Lib.hid hTA;have HoA:=Lib.hid hoA;clear hTA hoA)
 have hnt:nb≠tn:=by omega
 have hAs:sn<A.heap.size:=by have h1:=HoA.out.size;have h2:=HXs.out;omega
 have hAX:∀b,b≠tn→A.heap[b]?=X.heap[b]?:=HoA.out.block
 have hAw:∀b,b<w.heap.size→A.heap[b]?=w.heap[b]?:=fun b hb=>(hAX b (by omega)).trans (HXb.out.block b hb)
 have hownA:A.ownsMap Tryz.prog 9 RV nb nm D:=by
  obtain⟨es,ck,h1,h2⟩:=Hown.out
  exact⟨es,ck,(hAw nb hnbw).trans h1,h2⟩
 have HAb:Hid (Below w.heap.size w A):=Lib.hid (HXb.out.trans (HoA.out.fr (B:=w.heap.size) (by omega) []).below)
 have hAc:=(hAX sn (by omega)).trans HXc.out
 have HAc:=Lib.hid hAc
 have HAm:Hid (SMap A B tn w.heap.size nm l):=Lib.hid (HXm.out.keep (hAX _ (by omega)) (fun b cs fr hb hc=>(hAX b hb).trans hc))
 have HAX:=Lib.hid hAX
 have HAw:=Lib.hid hAw
 clear hAX hAw hAc
 go_wp2_with (at_range;refine wpList_range_own _ rfl _ 65 rfl 9 91 Tryz.lawT Tryz.underlying65 RV nb nm D rfl hownA ?_;intro w0 hrg0 hg0 hs0)
 go_frame
 have HS0:Hid (Same tn A.heap.size A w0):=Lib.hid ⟨hg0.size,fun b _ hb=>hg0.block b hb (by simp)⟩
 have HB0:Hid (Below w.heap.size w w0):=Lib.hid (HAb.out.grown hg0 (by omega) (by simp))
 have HT0:Hid (Taken w0 B tn n n (fun a=>((dir.count a:Nat):Int)+((cntF (come l (Maps.has D)) a:Nat):Int))):=Lib.hid (by
  have h1:come l (Maps.has D)=[]:=come_none fun p hp=>by
   obtain⟨v,_,_,hat⟩:=(HD.out p.1).2 p.2 (mem_look hnd (show (p.1,p.2)∈l from hp))
   exact has_true_of_atKey hat
  have h2:(fun a=>((dir.count a:Nat):Int)+((cntF (come l (Maps.has D)) a:Nat):Int))=fun a=>(0:Int)+1 * ((dir.count a:Nat):Int):=by
   funext a
   rw [h1]
   simp [cntF]
  rw [h2]
  exact ownsRow_olds HTA.out ⟨hg0.size,fun b hb=>hg0.block b hb (by simp)⟩)
 have Hrg0:=Lib.hid hrg0
 clear hrg0 hg0
 go_loopw [13] (fun _ wr=>∃cnt,MadeRel w A B tn nb nm n D l dir cnt wr) (fun _ wr=>wr.rangeLeft nb A.heap.size)
 case atStart=>exact⟨_,_,Hrg0.out,HT0.out,HS0.out,HB0.out⟩
 case round =>
  obtain⟨cnt,hrel⟩:=hrel
  have Hrel:=Lib.hid hrel
  obtain⟨left,hrg,hT,hS,hb⟩:=hrel
  have HT:=Lib.hid hT
  have HS:=Lib.hid hS
  have Hb:=Lib.hid hb
  have hsz:=hb.size
  have hsz2:=hS.1
  have Hrg:=Lib.hid hrg
  clear hT hS hb
  go_wp2_with (at_next;refine wpList_next_ranges _ rfl _ rfl 9 Tryz.lawT RV encStr id (fun key kl h=>(key_inv h).imp fun x hx=>hx.1) (fun v y _=>⟨v,rfl⟩) nb A.heap.size nm D left cnt rfl hrg ?_ ?_)
  case refine_1 =>
   intro _ hl0
   have Hl0:=Lib.hid hl0
   clear hl0
   go_wp2_with fail
   go_ret
   have hT:Taken wr B tn n n (fun a=>((dir.count a:Nat):Int)+((cntF l a:Nat):Int)):=by
    have h:=HT.out
    rw [come_all Hl0.out] at h
    exact h
   have hbk:∀b,b≠tn→b<A.heap.size→wr.heap[b]?=A.heap[b]?:=HS.out.2
   refine⟨Hb.out,sn,tn,w.heap.size,rfl,by omega,by omega,Nat.le_refl _,(hbk sn (by omega) (by omega)).trans HAc.out,fun sb'=>?_⟩
   have hnow:SMap wr B tn nb nm l:=(Hm.out.retb (tb':=tn) (by omega)).keep (Hb.out.block nb hnbw) (fun b cs fr _ hc=>(Hb.out.block b (heap_lt hc)).trans hc)
   have hnext:SMap wr B tn w.heap.size nm l:=HAm.out.keep (hbk _ (by omega) (by omega)) (fun b cs fr hb hc=>(hbk b hb (heap_lt hc)).trans hc)
   refine⟨hbnb,hB,by omega,hnow,hnext,hT,?_,hdt,⟨[],World.ownsRow_nil _ _ _ _,rfl,fun i p hp=>by simp at hp⟩,Hfok.out,Hfok.out⟩
   have h:=ownsRow_olds Hd.out (Olds.of_below Hb.out)
   rw [← Hdn.out] at h
   show wr.ownsRow B 3 1 (.slice do' dn dc) dir.length (nats dir)
   rw [← Hdn.out]
   exact h
  case refine_2 =>
   intro x c kl y1 y2 w' cnt' hkey hlk hRV hat hrg1 hlt hg1 hs1 hen
   obtain⟨x',hxx,rfl⟩:=key_inv hkey
   obtain rfl:x=x':=by simpa [encStr] using hxx
   have hhas:=has_true_of_atKey hat
   obtain⟨g,hg⟩:∃g,Ext.look l x=some g:=by
    cases hl:Ext.look l x with
    | none =>
     rw [(HD.out x).1 hl] at hhas
     cases hhas
    | some g=>exact⟨g,rfl⟩
   obtain⟨r,hrr,hne,hat2⟩:=(HD.out x).2 g hg
   obtain rfl:c=fval g r:=by
    simp only [RV,Option.some.injEq,Prod.mk.injEq] at hRV
    have h1:=hat (.held c)
    rw [hat2,← hRV.1] at h1
    simpa using h1.symm
   obtain⟨ro,rc,rfl,_⟩:=ownsRow_shape hrr
   have hrgn:A.heap.size≤wr.heap.size:=hsz2
   have HB1:Hid (Below w.heap.size w w'):=Lib.hid (Hb.out.grown hg1 hsz (by intro b hb;cases hb;omega))
   have HS1:Hid (Same tn A.heap.size A w'):=Lib.hid (HS.out.grown (Nat.le_refl _) hg1 (fun r e=>by cases e;exact Nat.le_refl _))
   have HT1:Hid (Taken w' B tn n n (fun a=>((dir.count a:Nat):Int)+((cntF (come l left) a:Nat):Int))):=Lib.hid (ownsRow_blocks HT.out fun k hk=>hg1.block k (ownsRow_block HT.out hk).2 (fun e=>by
    have h1:some tn=some A.heap.size:=(show some tn=some k from hk).trans e
    have h2:=Option.some.inj h1
    omega))
   have Hrr:=Lib.hid hrr
   have Hrg1:=Lib.hid hrg1
   have hxl:=come_step (l:=l) (left:=left) (x:=x) (f:=g) hlk
   have Hxl:Hid (∀a,cntF (come l (fun z=>left z && !z.sameKey (.string x))) a=cntF (come l left) a+g.secs.count a):=Lib.hid (fun a=>hxl a hnd hg)
   have HG:Hid ((x,g)∈l):=Lib.hid (look_mem hg)
   clear hkey hRV hat hat2 hrr hrg1 hhas hxx hxl
   unfold fval at hen
   unfold fval
   obtain⟨X2,hX2⟩:∃X2:World,X2=w'.alloc (.cells #[.bool g.log,.int .i64 (g.size:Nat),.int .u32 g.sum,.slice ro g.secs.length rc] 91):=⟨_,rfl⟩
   have hXo:Olds w' X2:=by rw [hX2];exact Olds.alloc _ _
   have hXs:X2.heap[w'.heap.size]?=some (.cells #[.bool g.log,.int .i64 (g.size:Nat),.int .u32 g.sum,.slice ro g.secs.length rc] 91 (0,0)):=by rw [hX2];exact heap_alloc_new _ _
   have hX3:X2.cell? ⟨w'.heap.size,3,none⟩=some (.slice ro g.secs.length rc):=by rw [cell_of_heap hXs];rfl
   have hw1:=HB1.out.size
   have hXb2:Below w.heap.size w X2:=by rw [hX2];exact HB1.out.trans ((Below.refl _ w').alloc (by omega) _)
   have hXS:Same tn A.heap.size A X2:=⟨by have:=HS1.out.1;have:=hXo.1;omega,fun b hb hbA=>(hXo.2 b (by omega)).trans (HS1.out.2 b hb hbA)⟩
   have hXT2:=ownsRow_olds HT1.out hXo
   have hrX:X2.ownsRow B 3 1 (.slice ro g.secs.length rc) g.secs.length (nats g.secs):=ownsRow_olds Hrr.out (Olds.of_below hXb2)
   have hrt:(Value.slice ro g.secs.length rc).ownBlock≠some tn:=fun e=>by
    have:=(ownsRow_block Hrr.out e).2
    omega
   have hXsn:X2.heap[sn]?=_:=(hXS.2 sn (by omega) (by omega)).trans HAc.out
   have HH2:=Lib.hid (hold_any (w:=X2) (B:=B) (B':=B) g.secs 1 (.inl rfl) hXsn rfl hXT2 (fun a=>by
    have h1:=Hcnt.out a
    have h2:=come_le l left a
    omega) hrX hrt (Hlf.out _ HG.out).1 rfl (by have:=(Hlf.out _ HG.out).2;simp only at this;omega) (by omega))
   have HrgX:Hid (X2.ranges Tryz.prog 9 RV nb A.heap.size nm D (fun z=>left z && !z.sameKey (.string x)) cnt'):=Lib.hid (by rw [hX2];exact Hrg1.out.alloc _)
   rw [hs1] at hX3
   have HX2:=Lib.hid hX2
   have HXb2:=Lib.hid hXb2
   have HXS2:=Lib.hid hXS
   obtain⟨cst,hcst⟩:=own_kind hXT2 (g:=tn) rfl
   have Hcst:=Lib.hid hcst
   clear hX2 hXs hXo hXb2 hXS hXT2 hrX hXsn hcst
   go_upto_region 6 with fail
   rw [← HX2.out]
   go_wp2_with (go_at_call 44;refine HH2.out.mono ?_;clear HH2;rintro e A2 ⟨rfl,hT2,ho2⟩;have HT2:=Lib.hid hT2;have Ho2:=Lib.hid ho2;clear hT2 ho2)
   have HR:Hid (MadeRel w A B tn nb nm n D l dir cnt' A2):=Lib.hid ⟨_,HrgX.out.of_walks (Ho2.out.keepsOthers Hcst.out).walks,by
    have e:(fun a=>((dir.count a:Nat):Int)+((cntF (come l (fun z=>left z && !z.sameKey (.string x))) a:Nat):Int))=fun a=>((dir.count a:Nat):Int)+((cntF (come l left) a:Nat):Int)+1 * ((g.secs.count a:Nat):Int):=by
     funext a
     rw [Hxl.out a]
     push_cast
     omega
    rw [e]
    exact HT2.out,HXS2.out.trans (Same.of_on Ho2.out),HXb2.out.trans (Ho2.out.fr (by omega) []).below⟩
   go_roundw
   case rel=>exact⟨cnt',HR.out⟩
   case measure =>
    have h1:=HR.out.left
    have h2:=Hrel.out.left
    rw [h1,h2]
    exact hlt
end Go.Proofs.YtndjmffnlcilbaaGreatDoor
namespace Go.Proofs.YtndjmffnlcilbaaGreatDoor
open Go Go.RowKit Go.Ix Go.Ext Go.Maps
def OpEnd (w:World) (B db sm n c:Nat) (t:Dk) (e:Ending) (w':World):Prop:=e=.returned (.int .u16 (c:Nat))∧DK w' B db sm n t∧Fr B TD [sm] w w'
theorem _root_.Go.Ext.Dk.calm.write {K:Dk}(h:K.calm) (a:Nat) (b:Sec):(K.write a b).calm∧K.write a b={ K with cac:=K.cac++[(a,b)] }:=by
 have e:K.write a b={ K with cac:=K.cac++[(a,b)] }:=by
  unfold Dk.write
  rw [if_pos h.ok,h.tick]
 exact⟨by rw [e];exact h,e⟩
theorem _root_.Go.Ext.Dk.calm.writes:∀(l:List (Nat×Sec)) {K:Dk},K.calm→(K.writes l).1=true∧(K.writes l).2.calm
 | [],_,h=>⟨rfl,h⟩
 | p :: l,K,h=>by
  have e:K.writes (p :: l)=(K.write p.1 p.2).writes l:=by
   show (if K.ok then _ else _)=_
   rw [if_pos h.ok]
  rw [e]
  exact Go.Ext.Dk.calm.writes l (h.write _ _).1
theorem _root_.Go.Ext.Dk.calm.flush {K:Dk}(h:K.calm):K.flush.calm∧K.flush={ K with las:=K.view,cac:=[] }:=by
 have e:K.flush={ K with las:=K.view,cac:=[] }:=by
  unfold Dk.flush
  rw [if_pos h.ok,h.tick]
 exact⟨by rw [e];exact h,e⟩
theorem Fr.from_drew {B:Nat}{T M:List Nat}{w w':World}(h:Fr B T M w.drew w'):Fr B T M w w':=(Fr.refl B T M w).drew.trans h
set_option maxRecDepth 20000 in
set_option maxHeartbeats 1000000 in
theorem format1_any {w:World}{B B' db sm sb n m lc dn dc b4 b5:Nat}{t:Dk}{ds:List Nat}{lo da:Option Addr}{c1 c2 c3 c4 c5 c8:Value}(l:List Nat) (h:DK w B db sm n t) (hsb:w.heap[sb]?=some (.cells #[.pointer (some ⟨db,0,none⟩),c1,c2,c3,c4,c5,.slice lo m lc,.bool false,c8] 69 (0,0)))
  (hb4:w.heap[b4]?=some (.cells #[.pointer (some ⟨sb,0,none⟩)] 30 (0,0))) (hb5:w.heap[b5]?=some (.cells #[.slice da dn dc] 34 (0,0)))
  (hr:w.ownsRow B' 3 1 (.slice lo m lc) m (nats l)) (hlm:l.length=m) (hl:∀a∈l,a<n) (hd:DataB w B ds da dn dc) (hB:B≤w.heap.size) (hn:n≤1000000) (ht:t.cac.length+m≤1000000) (hdn:dn≤1000000) (hsbm:sb≠sm) (hBs:B≤sb) (hcalm:t.calm) :
  Calls Tryz.prog 25 #[.pointer (some ⟨b4,0,none⟩),.pointer (some ⟨b5,0,none⟩)] w (OpEnd w B db sm n 0 (t.writes (pieces l ds)).2):=by
 have HW:=Lib.hid (write_any (w:=w.drew) l (h.olds (Olds.drewN w 1)) hsb (ownsRow_olds hr (Olds.drewN w 1)) hlm hl (hd.olds (Olds.drewN w 1)) hB hn ht hdn hsbm hBs)
 unfold WriteEnd at HW
 obtain⟨hc1,hc2⟩:=Dk.calm.writes (pieces l ds) hcalm
 rw [hc1] at HW
 have hcd:((codeOf true:Nat):Int)=0:=rfl
 rw [hcd] at HW
 have q1:w.drew.cell? ⟨b4,0,none⟩=some (.pointer (some ⟨sb,0,none⟩)):=by rw [cell_of_heap (show w.drew.heap[b4]?=_ from hb4)];rfl
 have q2:w.drew.cell? ⟨b5,0,none⟩=some (.slice da dn dc):=by rw [cell_of_heap (show w.drew.heap[b5]?=_ from hb5)];rfl
 have q3:w.drew.cell? ⟨sb,6,none⟩=some (.slice lo m lc):=by rw [cell_of_heap (show w.drew.heap[sb]?=_ from hsb)];rfl
 clear h hsb hb4 hb5 hr hl hd
 go_enter Tryz.func25,Tryz.ntmps25
 go_upto_region 1 with fail
 go_region_with (go_at_call 26;refine HW.out.mono ?_;clear HW;rintro e w' ⟨rfl,h1,h2,_⟩;have H1:=Lib.hid h1;have H2:=Lib.hid (h2 rfl);clear h1 h2)
 all_goals go_wp2_with fail
 all_goals go_ret
 all_goals exact⟨rfl,H1.out,H2.out.from_drew⟩
set_option maxRecDepth 20000 in
set_option maxHeartbeats 1000000 in
theorem commit1_any {w:World}{B B' db sm sb n m lc dn dc b1 b4 b5:Nat}{t:Dk}{ds:List Nat}{lo da:Option Addr}{c1 c2 c3 c4 c5 c6 c8:Value}(l:List Nat) (h:DK w B db sm n t) (hsb:w.heap[sb]?=some (.cells #[.pointer (some ⟨db,0,none⟩),c1,c2,c3,c4,c5,c6,.bool false,c8] 69 (0,0)))
  (hb1:w.heap[b1]?=some (.cells #[.pointer (some ⟨sb,0,none⟩)] 30 (0,0))) (hb4:w.heap[b4]?=some (.cells #[.slice lo m lc] 66 (0,0))) (hb5:w.heap[b5]?=some (.cells #[.slice da dn dc] 34 (0,0)))
  (hr:w.ownsRow B' 3 1 (.slice lo m lc) m (nats l)) (hlm:l.length=m) (hl:∀a∈l,a<n) (hd:DataB w B ds da dn dc) (hB:B≤w.heap.size) (hn:n≤1000000) (ht:t.cac.length+m≤1000000) (hdn:dn≤1000000) (hsbm:sb≠sm) (hBs:B≤sb) :
  Calls Tryz.prog 48 #[.pointer (some ⟨b1,0,none⟩),.pointer (some ⟨b4,0,none⟩),.pointer (some ⟨b5,0,none⟩)] w (WriteEnd w B db sm n sb t (pieces l ds) c1 c2 c3 c4 c5 c6 c8):=by
 have HW:=Lib.hid (write_any (w:=w) l h hsb hr hlm hl hd hB hn ht hdn hsbm hBs)
 unfold WriteEnd at HW ⊢
 generalize (codeOf (t.writes (pieces l ds)).1:Nat)=cd at *
 have q1:w.cell? ⟨b1,0,none⟩=some (.pointer (some ⟨sb,0,none⟩)):=by rw [cell_of_heap hb1];rfl
 have q2:w.cell? ⟨b5,0,none⟩=some (.slice da dn dc):=by rw [cell_of_heap hb5];rfl
 have q3:w.cell? ⟨b4,0,none⟩=some (.slice lo m lc):=by rw [cell_of_heap hb4];rfl
 clear h hsb hb1 hb4 hb5 hr hl hd
 go_enter Tryz.func48,Tryz.ntmps48
 go_wp2_with (go_at_call 26;refine HW.out.mono ?_;clear HW;rintro e w' ⟨rfl,h1⟩;have H1:=Lib.hid h1;clear h1)
 go_ret
 exact⟨rfl,H1.out⟩
theorem slot_write (hH:HalfOk) {w:World}{B B' db sm n gen m lc dn dc:Nat}{t:Dk}{ds:List Nat}{lo da:Option Addr}(l:List Nat) (at':Nat) (h:DK w B db sm n t) (hat:at'<n) (hr:w.ownsRow B' 3 1 (.slice lo m lc) m (nats l)) (hlm:l.length=m) (hl:∀a∈l,a<n) (hd:DataB w B ds da dn dc) (hG:9≤w.heap.size) (hB:B≤w.heap.size) (hn:n≤1000) (hm:m≤1000) (ht:t.cac.length≤1000000) (hdn:dn≤1000000) (hg:gen<18446744073709551616) (hq:(runsOf l).length≤48) :
  Calls Tryz.prog 30 #[.int .u64 (gen:Nat),.slice da dn dc,.slice lo m lc] w fun e w1=>∃v,e=.returned v∧Below w.heap.size w w1∧Calls Tryz.prog 29 #[.pointer (some ⟨db,0,none⟩),.int .i64 at',v] w1 (OpEnd w B db sm n (codeOf t.ok) (t.write at' (slotB gen ds l))):=by
 have hd':BytesAt w (.slice da dn dc) ds∧(∀x∈ds,x<256)∧ds.length=dn:=⟨hd.1,hd.2.1,hd.2.2.1⟩
 have hf:FlatAt w (.slice lo m lc) m (nats l):=owns_flat hr
 refine (slot_any hH (w:=w) gen (.slice da dn dc) dn dc da lo lc m l hG hg rfl hd' hdn hlm (by omega) (fun a ha=>by have:=hl a ha;omega) hf hq).mono ?_
 rintro e w1 ⟨v,rfl,hrow,hb⟩
 refine⟨v,rfl,hb,?_⟩
 refine (dwrite_any at' (h.olds (Olds.of_below hb)) hat (by omega) ht (by have:=hb.size;omega) hrow).mono ?_
 rintro e w2 ⟨rfl,h1,h2⟩
 exact⟨rfl,h1,(Fr.of_below hb hB _ _).trans h2⟩
set_option maxRecDepth 20000 in
set_option maxHeartbeats 1000000 in
theorem format2_any (hH:HalfOk) {w:World}{B B' db sm sb n m lc dn dc b1 b4 b5:Nat}{t:Dk}{ds:List Nat}{lo da:Option Addr}{c1 c2 c3 c4 c5 c7 c8:Value}(l:List Nat) (h:DK w B db sm n t) (hsb:w.heap[sb]?=some (.cells #[.pointer (some ⟨db,0,none⟩),c1,c2,c3,c4,c5,.slice lo m lc,c7,c8] 69 (0,0)))
  (hb1:w.heap[b1]?=some (.cells #[.pointer (some ⟨db,0,none⟩)] 25 (0,0))) (hb4:w.heap[b4]?=some (.cells #[.pointer (some ⟨sb,0,none⟩)] 30 (0,0))) (hb5:w.heap[b5]?=some (.cells #[.slice da dn dc] 34 (0,0)))
  (hr:w.ownsRow B' 3 1 (.slice lo m lc) m (nats l)) (hlm:l.length=m) (hl:∀a∈l,a<n) (hd:DataB w B ds da dn dc) (hG:9≤w.heap.size) (hB:B≤w.heap.size) (h0:0<n) (hn:n≤1000) (hm:m≤1000) (ht:t.cac.length≤1000000) (hdn:dn≤1000000) (hq:(runsOf l).length≤48) :
  Calls Tryz.prog 28 #[.pointer (some ⟨b1,0,none⟩),.pointer (some ⟨b5,0,none⟩),.pointer (some ⟨b4,0,none⟩)] w (OpEnd w B db sm n (codeOf t.ok) (t.write 0 (slotB 1 ds l))):=by
 have HW:=Lib.hid (slot_write hH (w:=w.drew) (gen:=1) l 0 (h.olds (Olds.drewN w 1)) h0 (ownsRow_olds hr (Olds.drewN w 1)) hlm hl (hd.olds (Olds.drewN w 1)) hG hB hn hm ht hdn (by decide) hq)
 obtain⟨es,cm,hkm⟩:=h.seen.kind
 generalize codeOf t.ok=cd at *
 generalize t.write 0 (slotB 1 ds l)=tt at *
 have hne:∀{b:Nat}{cs:Array Value}{ty:TypeId}{fr:Nat×Nat},w.heap[b]?=some (.cells cs ty fr)→b∉[sm]:=fun {b cs ty fr} hb hm=>by
  simp only [List.mem_singleton] at hm
  rw [hm,hkm] at hb
  cases hb
 have HSf:Hid (∀W':World,Fr B TD [sm] w.drew W'→W'.cell? ⟨b1,0,none⟩=some (.pointer (some ⟨db,0,none⟩))∧W'.cell? ⟨b5,0,none⟩=some (.slice da dn dc)∧W'.cell? ⟨b4,0,none⟩=some (.pointer (some ⟨sb,0,none⟩))∧W'.cell? ⟨sb,6,none⟩=some (.slice lo m lc)):=Lib.hid (fun W' hf=>by
  have a1:=hf.keep (show w.drew.heap[b1]?=_ from hb1) (hne hb1) (by decide)
  have a4:=hf.keep (show w.drew.heap[b4]?=_ from hb4) (hne hb4) (by decide)
  have a5:=hf.keep (show w.drew.heap[b5]?=_ from hb5) (hne hb5) (by decide)
  have a6:=hf.keep (show w.drew.heap[sb]?=_ from hsb) (hne hsb) (by decide)
  refine⟨?_,?_,?_,?_⟩
  ·rw [cell_of_heap a1];rfl
  ·rw [cell_of_heap a5];rfl
  ·rw [cell_of_heap a4];rfl
  ·rw [cell_of_heap a6];rfl)
 obtain⟨q1,q2,q3,q4⟩:=HSf.out w.drew (Fr.refl _ _ _ _)
 clear h hsb hb1 hb4 hb5 hr hl hd hne hkm
 go_enter Tryz.func28,Tryz.ntmps28
 go_upto_region 1 with fail
 rw [show ((1:Nat):Int)=1 from rfl,show ((0:Nat):Int)=0 from rfl] at HW
 go_region_held_law (fun W'=>W'.cell? ⟨b1,0,none⟩=some (.pointer (some ⟨db,0,none⟩))∧W'.cell? ⟨b5,0,none⟩=some (.slice da dn dc)∧W'.cell? ⟨b4,0,none⟩=some (.pointer (some ⟨sb,0,none⟩))∧W'.cell? ⟨sb,6,none⟩=some (.slice lo m lc))
  (first | exact⟨q1,q2,q3,q4⟩ | exact HS1.out | exact HS2.out)
  (first
   | (go_at_call 30;refine HW.out.mono ?_;clear HW;rintro e w1 ⟨v,rfl,hb,hc⟩;have HS1:=Lib.hid (HSf.out w1 (Fr.of_below hb hB _ _));have HC:=Lib.hid hc;clear hb hc)
   | (go_at_call 29;refine HC.out.mono ?_;clear HC;rintro e w2 ⟨rfl,h1,h2⟩;have H1:=Lib.hid h1;have H2:=Lib.hid h2;have HS2:=Lib.hid (HSf.out w2 h2);clear h1 h2))
 all_goals go_wp2_with fail
 all_goals go_ret
 all_goals exact⟨rfl,H1.out,H2.out.from_drew⟩
set_option maxRecDepth 20000 in
set_option maxHeartbeats 2000000 in
theorem commit2_any (hH:HalfOk) {w:World}{B B' db sm sb n m lc dn dc b1 b4 b5 slot gen:Nat}{t:Dk}{ds:List Nat}{lo da:Option Addr}{c3 c4 c5 c6 c7 c8:Value}(l:List Nat) (h:DK w B db sm n t) (hsb:w.heap[sb]?=some (.cells #[.pointer (some ⟨db,0,none⟩),.int .i64 (slot:Nat),.int .u64 (gen:Nat),c3,c4,c5,c6,c7,c8] 69 (0,0)))
  (hb1:w.heap[b1]?=some (.cells #[.pointer (some ⟨sb,0,none⟩)] 30 (0,0))) (hb4:w.heap[b4]?=some (.cells #[.slice lo m lc] 66 (0,0))) (hb5:w.heap[b5]?=some (.cells #[.slice da dn dc] 34 (0,0)))
  (hr:w.ownsRow B' 3 1 (.slice lo m lc) m (nats l)) (hlm:l.length=m) (hl:∀a∈l,a<n) (hd:DataB w B ds da dn dc) (hG:9≤w.heap.size) (hB:B≤w.heap.size) (h2:2≤n) (hn:n≤1000) (hm:m≤1000) (ht:t.cac.length≤1000000) (hdn:dn≤1000000) (hq:(runsOf l).length≤48) (hs:slot≤1) (hg:gen≤1000000) :
  Calls Tryz.prog 49 #[.pointer (some ⟨b1,0,none⟩),.pointer (some ⟨b5,0,none⟩),.pointer (some ⟨b4,0,none⟩)] w (OpEnd w B db sm n (codeOf t.ok) (t.write (1-slot) (slotB (gen+1) ds l))):=by
 have HW:=Lib.hid (slot_write hH (w:=w.drew) (gen:=gen+1) l (1-slot) (h.olds (Olds.drewN w 1)) (by omega) (ownsRow_olds hr (Olds.drewN w 1)) hlm hl (hd.olds (Olds.drewN w 1)) hG hB hn hm ht hdn (by omega) hq)
 obtain⟨es,cm,hkm⟩:=h.seen.kind
 generalize codeOf t.ok=cd at *
 generalize t.write (1-slot) (slotB (gen+1) ds l)=tt at *
 have hne:∀{b:Nat}{cs:Array Value}{ty:TypeId}{fr:Nat×Nat},w.heap[b]?=some (.cells cs ty fr)→b∉[sm]:=fun {b cs ty fr} hb hm=>by
  simp only [List.mem_singleton] at hm
  rw [hm,hkm] at hb
  cases hb
 have HSf:Hid (∀W':World,Fr B TD [sm] w.drew W'→W'.cell? ⟨b1,0,none⟩=some (.pointer (some ⟨sb,0,none⟩))∧W'.cell? ⟨b5,0,none⟩=some (.slice da dn dc)∧W'.cell? ⟨b4,0,none⟩=some (.slice lo m lc)∧W'.cell? ⟨sb,0,none⟩=some (.pointer (some ⟨db,0,none⟩))∧W'.cell? ⟨sb,1,none⟩=some (.int .i64 (slot:Nat))∧W'.cell? ⟨sb,2,none⟩=some (.int .u64 (gen:Nat))):=Lib.hid (fun W' hf=>by
  have a1:=hf.keep (show w.drew.heap[b1]?=_ from hb1) (hne hb1) (by decide)
  have a4:=hf.keep (show w.drew.heap[b4]?=_ from hb4) (hne hb4) (by decide)
  have a5:=hf.keep (show w.drew.heap[b5]?=_ from hb5) (hne hb5) (by decide)
  have a6:=hf.keep (show w.drew.heap[sb]?=_ from hsb) (hne hsb) (by decide)
  refine⟨?_,?_,?_,?_,?_,?_⟩
  ·rw [cell_of_heap a1];rfl
  ·rw [cell_of_heap a5];rfl
  ·rw [cell_of_heap a4];rfl
  all_goals (rw [cell_of_heap a6];rfl))
 obtain⟨q1,q2,q3,q4,q5,q6⟩:=HSf.out w.drew (Fr.refl _ _ _ _)
 have hw1:IntKind.i64.wrap ((1:Int)-(slot:Int))=((1-slot:Nat):Int):=by rw [IntKind.wrap_i64];omega
 have hw2:IntKind.u64.wrap ((gen:Int)+1)=((gen+1:Nat):Int):=by
  have:=wrap_u64 (gen+1) (by omega)
  rw [← this]
  rfl
 clear h hsb hb1 hb4 hb5 hr hl hd hne hkm
 go_enter Tryz.func49,Tryz.ntmps49
 go_upto_region 1 with fail
 go_region_held_law (fun W'=>W'.cell? ⟨b1,0,none⟩=some (.pointer (some ⟨sb,0,none⟩))∧W'.cell? ⟨b5,0,none⟩=some (.slice da dn dc)∧W'.cell? ⟨b4,0,none⟩=some (.slice lo m lc)∧W'.cell? ⟨sb,0,none⟩=some (.pointer (some ⟨db,0,none⟩))∧W'.cell? ⟨sb,1,none⟩=some (.int .i64 (slot:Nat))∧W'.cell? ⟨sb,2,none⟩=some (.int .u64 (gen:Nat)))
  (first | exact⟨q1,q2,q3,q4,q5,q6⟩ | exact HS1.out | exact HS2.out)
  (first
   | (go_at_call 30;refine HW.out.mono ?_;clear HW;rintro e w1 ⟨v,rfl,hb,hc⟩;have HS1:=Lib.hid (HSf.out w1 (Fr.of_below hb hB _ _));have HC:=Lib.hid hc;clear hb hc)
   | (go_at_call 29;refine HC.out.mono ?_;clear HC;rintro e w2 ⟨rfl,h1,h2⟩;have H1:=Lib.hid h1;have H2:=Lib.hid h2;have HS2:=Lib.hid (HSf.out w2 h2);clear h1 h2))
 all_goals go_wp2_with fail
 all_goals go_ret
 all_goals exact⟨rfl,H1.out,H2.out.from_drew⟩
end Go.Proofs.YtndjmffnlcilbaaGreatDoor
