/- Contracts over this program. Their conditions: the slices read as the lists that are named, and lie within the sizes that are named. -/
import Derived.Test.YtbecggfbblnglaaGreatDoorT12
import Derived.DeepKeys5
import Derived.WideKeyEntry
import Derived.Shelf.SlIter.Collect
import Derived.RangeFuncGives
set_option linter.unusedSimpArgs false
set_option linter.unusedVariables false
set_option linter.deprecated false
set_option linter.unnecessarySimpa false
namespace Go.Proofs.YtbecggfbblnglaaGreatDoor
open Go Go.RowKit Go.Ix Go.Maps
theorem Tryz.wideP:(match Tryz.prog.underlying 314 with | some (.array _ _) | some (.struct _)=>true | _=>false)=true:=by rw [Tryz.underlying314]
theorem Tryz.keyTypeP:Tryz.prog.keyTypeAt 2 314=true:=by kernel_rfl
theorem Tryz.tiledP:Tryz.prog.tiled 2 314=true:=by kernel_rfl
set_option maxRecDepth 20000 in
theorem Tryz.keylawP:WideMaps.KeyLaw Tryz.prog 314:=deep_law (m:=2) (by omega) Tryz.keyTypeP Tryz.tiledP Tryz.wideP
theorem Tryz.lawP:Keyed Tryz.prog 314:=Keyed.of_law Tryz.keylawP
def pv (p:Nat×Nat):Value:=.agg #[.int .i64 (p.1:Int),.int .i64 (p.2:Int)]
def kp (p:Nat×Nat):Lit:=.string (keyBytes [.int .i64 (p.1:Int),.int .i64 (p.2:Int)])
theorem keyLits2 {P:Program}{k e:TypeId}{f1 f2:_}(hu:P.underlying k=some (.struct #[f1,f2])) (hf1:f1.type=e) (hf2:f2.type=e) (ho1:f1.offset=0) (ho2:f2.offset=1) (hn1:(f1.name != "_")=true) (hn2:(f2.name != "_")=true) (he:P.underlying e=some (.int .i64)) (hc:P.cellsOf k=2) (hc1:P.cellsOf e=1) {a b:Int}
  (wa:(Lit.int .i64 a).wf=true) (wb:(Lit.int .i64 b).wf=true) (m:Nat):P.keyLits (m+1+1) k [.int .i64 a,.int .i64 b]=some [.int .i64 a,.int .i64 b]:=by
 unfold Program.keyLits
 simp only [hu]
 rw [if_pos ⟨by rw [hc];rfl,by simp [hn1,hn2]⟩]
 have h1:P.keyLits (m+1) e [.int .i64 a]=some [.int .i64 a]:=by
  unfold Program.keyLits
  simp [he,wa]
 have h2:P.keyLits (m+1) e [.int .i64 b]=some [.int .i64 b]:=by
  unfold Program.keyLits
  simp [he,wb]
 simp [hf1,hf2,ho1,ho2,hc1,h1,h2]
theorem keyP {p:Nat×Nat}(h1:p.1≤1000000000) (h2:p.2≤1000000000):keyOf Tryz.prog 314 (pv p)=some (kp p):=by
 have hT:Tryz.prog.keyType 314=true:=by kernel_rfl
 have hC:Tryz.prog.cellsOf 314=2:=by kernel_rfl
 have hC3:Tryz.prog.cellsOf 3=1:=by kernel_rfl
 have w1:(Lit.int .i64 (p.1:Int)).wf=true:=WalkArith.wf_i64 (by omega)
 have w2:(Lit.int .i64 (p.2:Int)).wf=true:=WalkArith.wf_i64 (by omega)
 have hF:(pv p).formed Tryz.prog 314=true:=by simp [pv,Value.formed,Tryz.underlying314,hC]
 have hrow:(314:TypeId)<Tryz.prog.types.size:=of_decide_eq_true (by kernel_rfl)
 have gen:∀S:Nat,314<S→∃m,S=m+1:=fun S h=>⟨S-1,by omega⟩
 obtain⟨m,hm⟩:=gen _ hrow
 unfold keyOf
 simp only [Tryz.underlying314]
 rw [if_pos (by rw [hT,hF];rfl),hm]
 show Option.map _ (Tryz.prog.keyLits (m+1+1) 314 [.int .i64 (p.1:Int),.int .i64 (p.2:Int)])=_
 rw [keyLits2 Tryz.underlying314 rfl rfl rfl rfl (by decide) (by decide) Tryz.underlying3 hC hC3 w1 w2 m]
 rfl
theorem kp_inj {p r:Nat×Nat}(h1:p.1≤1000000000) (h2:p.2≤1000000000) (h3:r.1≤1000000000) (h4:r.2≤1000000000) (h:kp p=kp r):p=r:=by
 have a:=keyP h1 h2
 rw [h] at a
 have:=Tryz.lawP.inj a (keyP h3 h4)
 unfold pv at this
 simp only [Value.agg.injEq,Array.mk.injEq,List.cons.injEq,Value.int.injEq,true_and,and_true] at this
 exact Prod.ext (by omega) (by omega)
theorem zeroI (w:World):(zeroValue 181).run Tryz.prog w=.ok (.slice none 0 0) w:=by kernel_rfl
def RV (v:Value):Option (DataW Value×List MemPlace):=some (.held v,[])
def Small2 (q:List ((Nat×Nat)×Nat)):Prop:=∀x∈q,x.1.1≤1000000000∧x.1.2≤1000000000
def GrpAt (w:World) (base mb n:Nat) (q:List ((Nat×Nat)×Nat)) (V:Nat×Nat→Value):Prop :=
 ∃D:DataW Value,w.ownsMap Tryz.prog 314 RV mb n D∧mb<base∧(∀kl,has D kl=true→∃p,kl=kp p∧grp q p≠[])∧
  (∀p,grp q p≠[]→has D (kp p)=true∧(∀z,D.atKey (kp p) z=.held (V p))∧RowI w base (V p) (grp q p))∧
  ∀p r,p≠r→grp q p≠[]→grp q r≠[]→∀g,(V p).ownBlock=some g→(V r).ownBlock≠some g
theorem GrpAt.made (w:World) (V:Nat×Nat→Value):GrpAt (w.alloc (.map #[] 0)) (w.heap.size+1) w.heap.size 0 [] V :=
 ⟨.map [],World.ownsMap_made w _ _ _,by omega,fun kl h=>by simp [has] at h,fun p h=>absurd rfl h,fun p r _ h=>absurd rfl h⟩
theorem GrpAt.lt {w:World}{base mb n:Nat}{q:List ((Nat×Nat)×Nat)}{V:Nat×Nat→Value}(h:GrpAt w base mb n q V):mb<w.heap.size:=by
 obtain⟨D,h,_⟩:=h
 exact h.lt
theorem GrpAt.keep {w W:World}{base mb n:Nat}{q:List ((Nat×Nat)×Nat)}{V:Nat×Nat→Value}(h:GrpAt w base mb n q V) (h1:W.heap[mb]?=w.heap[mb]?) (h2:∀p g,grp q p≠[]→(V p).ownBlock=some g→W.heap[g]?=w.heap[g]?):GrpAt W base mb n q V:=by
 obtain⟨D,⟨es,clock,a1,a2⟩,a3,a4,a5,a6⟩:=h
 exact⟨D,⟨es,clock,h1.trans a1,a2⟩,a3,a4,fun p hp=>⟨(a5 p hp).1,(a5 p hp).2.1,ownsRow_blocks (a5 p hp).2.2 fun g hg=>h2 p g hp hg⟩,a6⟩
theorem GrpAt.olds {w W:World}{base mb n:Nat}{q:List ((Nat×Nat)×Nat)}{V:Nat×Nat→Value}(h:GrpAt w base mb n q V) (hb:Olds w W):GrpAt W base mb n q V:=by
 have h0:=h
 obtain⟨D,a1,a3,a4,a5,a6⟩:=h0
 exact h.keep (hb.2 mb a1.lt) fun p g hp hg=>hb.2 g (ownsRow_block (a5 p hp).2.2 hg).2
theorem GrpAt.block {w:World}{base mb n:Nat}{q:List ((Nat×Nat)×Nat)}{V:Nat×Nat→Value}(h:GrpAt w base mb n q V) {p:Nat×Nat}{g:Nat}(hp:grp q p≠[]) (hg:(V p).ownBlock=some g):base≤g∧g<w.heap.size:=by
 obtain⟨D,a1,a3,a4,a5,a6⟩:=h
 exact ownsRow_block (a5 p hp).2.2 hg
theorem one_of_key {es:List MapEntry}(h:es.Pairwise (fun x y=>x.key≠y.key)) {x y:MapEntry}(hx:x∈es) (hy:y∈es) (he:x.key=y.key):x=y:=by
 induction es with
 | nil=>simp at hx
 | cons z es ih =>
  obtain⟨h1,h2⟩:=List.pairwise_cons.1 h
  rcases List.mem_cons.1 hx with rfl | hx
  ·rcases List.mem_cons.1 hy with rfl | hy
   ·rfl
   ·exact absurd he (h1 y hy)
  ·rcases List.mem_cons.1 hy with e | hy
   ·rw [e] at he
    exact absurd he.symm (h1 x hx)
   ·exact ih h2 hx hy
theorem GrpAt.entry {w:World}{base mb n:Nat}{q:List ((Nat×Nat)×Nat)}{V:Nat×Nat→Value}(h:GrpAt w base mb n q V) (hq:Small2 q) {p:Nat×Nat}(hp1:p.1≤1000000000) (hp2:p.2≤1000000000) (hn:n<1000000000) :
  ∃v0 st w1,(Instr.mapEntry 312 (.map (some mb)) (pv p)).run Tryz.prog w=.ok (.tuple #[v0,goInt (st:Nat)]) w1∧w.grownBy w1 (some mb)∧w1.heap.size=w.heap.size∧RowI w1 base v0 (grp q p)∧(∀r g,r≠p→grp q r≠[]→(V r).ownBlock=some g→v0.ownBlock≠some g)∧
   ∀(w2:World) (v':Value) (i:Nat),w1.grownBy w2 v0.ownBlock→RowI w2 base v' (grp q p++[i])→(v'.ownBlock=v0.ownBlock∨∃g,v'.ownBlock=some g∧w1.heap.size≤g) →
    ∃w3,(Instr.entryStore 312 (.map (some mb)) (goInt (st:Nat)) v').run Tryz.prog w2=.ok () w3∧GrpAt w3 base mb (n+1) (q++[(p,i)]) (fun r=>if r=p then v' else V r)∧w2.grownBy w3 (some mb):=by
 have hlt:=h.lt
 have h0:=h
 obtain⟨D,hown,a3,a4,a5,a6⟩:=h
 have hown0:=hown
 obtain⟨es,clock,hb,F,hsz,rfl⟩:=hown
 obtain⟨v0,st,es1,clock1,e1,e2,e3⟩:=WideElems.entry_then_store Tryz.keylawP Tryz.underlying312 zeroI hb F (keyP hp1 hp2)
 have hset:∀(W:World) (o:Obj),W.grownBy (ChangeMaps.setBlock W mb o) (some mb):=fun W o=>⟨rfl,rfl,rfl,by simp [ChangeMaps.setBlock],fun j _ hj=>by
  have hne:mb≠j:=fun e=>hj (by rw [e])
  simp [ChangeMaps.setBlock,Array.getElem?_setIfInBounds_ne hne]⟩
 have hbr:∀r,grp q r≠[]→r.1≤1000000000∧r.2≤1000000000:=fun r hr=>by
  obtain⟨i,hi⟩:=grp_ne.1 hr
  exact hq _ hi
 have hv0:(grp q p=[]→v0=.slice none 0 0)∧(grp q p≠[]→v0=V p):=by
  rcases Maps.fit_look false Tryz.lawP Tryz.underlying312 (zeroI w) hb F (keyP hp1 hp2) with ⟨_,hno,hat⟩|⟨e0,y,he0,hk0,_,hRv,hat,_⟩
  ·refine⟨fun _=>?_,fun hg=>?_⟩
   ·rcases e2 with ⟨x,hx,hk,_⟩|⟨_,h⟩
    ·exact absurd hk (hno x hx)
    ·exact h
   ·have:=(a5 p hg).2.1 .nil
    rw [hat] at this
    cases this
  ·have hy:y=(.held e0.val,[]):=by
    simp only [RV,Option.some.injEq] at hRv
    exact hRv.symm
   have hg:grp q p≠[]:=by
    obtain⟨r,hr,hgr⟩:=a4 _ (has_true_of_atKey hat)
    obtain⟨b1,b2⟩:=hbr r hgr
    rw [kp_inj hp1 hp2 b1 b2 hr]
    exact hgr
   refine⟨fun h=>absurd h hg,fun _=>?_⟩
   have hVp:V p=e0.val:=by
    have h1:=(a5 p hg).2.1 .nil
    rw [hat,hy] at h1
    simp only [DataW.held.injEq] at h1
    exact h1.symm
   rcases e2 with ⟨x,hx,hk,hv⟩|⟨hno,_⟩
   ·rw [hv,hVp,one_of_key (((MapKept.stamped_iff es clock).1 F.stamped).2.2) hx he0 (hk.trans hk0.symm)]
   ·exact absurd hk0 (hno e0 he0)
 have hoth:∀r g,r≠p→grp q r≠[]→(V r).ownBlock=some g→v0.ownBlock≠some g:=fun r g hr hgr hg=>by
  by_cases h:grp q p=[]
  ·rw [hv0.1 h]
   simp [Value.ownBlock]
  ·rw [hv0.2 h]
   exact a6 r p hr hgr h g hg
 have hrow0:RowI w base v0 (grp q p):=by
  by_cases h:grp q p=[]
  ·rw [hv0.1 h,h]
   exact World.ownsRow_nil _ _ _ _
  ·rw [hv0.2 h]
   exact (a5 p h).2.2
 have hg1:=hset w (.map es1 clock1)
 have hv0b:some mb≠v0.ownBlock:=fun e=>by
  have:=(ownsRow_block hrow0 e.symm).1
  omega
 have hkeep:∀{W W':World}{v:Value}{zs:List Nat},RowI W base v zs→W.grownBy W' (some mb)→RowI W' base v zs:=fun {W W' v zs} h hg=>ownsRow_blocks h fun g hgv=>hg.block g (ownsRow_block h hgv).2 fun e=>by
  have:=(ownsRow_block h hgv).1
  cases e
  omega
 refine⟨v0,st,_,e1,hg1,by simp [ChangeMaps.setBlock],hkeep hrow0 hg1,hoth,fun w2 v' i hg2 hrow' hloc=>?_⟩
 have hsz1:(ChangeMaps.setBlock w mb (.map es1 clock1)).heap.size=w.heap.size:=by simp [ChangeMaps.setBlock]
 have hmb2:w2.heap[mb]?=some (.map es1 clock1):=(hg2.block mb (by rw [hsz1];exact hlt) hv0b).trans (ChangeMaps.heap_setBlock_same hb _)
 obtain⟨es',clock',hstore,hupd⟩:=e3 w2 v' hmb2
 obtain⟨es2,clock2,hrun,F2,hput,_⟩:=Maps.fit_store (R':=RV) (val:=v') Tryz.lawP Tryz.underlying312 hb F (by unfold maxLen;omega) (fun _ _ _ _ hz=>hz) (keyP hp1 hp2) (yv:=(.held v',[])) rfl
 have heq:es'=es2∧clock'=clock2:=by
  rw [hrun] at hupd
  simp only [Result.ok.injEq,true_and] at hupd
  have h1:=congrArg (fun W:World=>W.heap[mb]?) hupd
  simp only [ChangeMaps.heap_setBlock_same hb,Option.some.injEq,Obj.map.injEq] at h1
  exact⟨h1.1.symm,h1.2.symm⟩
 obtain⟨rfl,rfl⟩:=heq
 have hg3:=hset w2 (.map es' clock')
 refine⟨_,hstore,?_,hg3⟩
 have hsz2:es'.size≤n+1:=by
  have e1:es'.size=((es'.toList.map (WideElems.rg Tryz.prog 314 RV)).foldr DataW.insert []).length:=by rw [length_sorted];simp
  rw [e1,hput]
  unfold ChangeMaps.putKey
  rw [length_insert]
  have e2:=List.length_filter_le (ChangeMaps.notKey (kp p)) ((es.toList.map (WideElems.rg Tryz.prog 314 RV)).foldr DataW.insert [])
  rw [length_sorted] at e2
  simp at e2
  omega
 have hD:(DataW.map ((es.toList.map (WideElems.rg Tryz.prog 314 RV)).foldr DataW.insert []):DataW Value).put (kp p) (.held v')=.map ((es'.toList.map (WideElems.rg Tryz.prog 314 RV)).foldr DataW.insert []):=by
  rw [DataW.put_eq,hput]
 generalize (DataW.map ((es.toList.map (WideElems.rg Tryz.prog 314 RV)).foldr DataW.insert []):DataW Value)=D at *
 have hkey:WideAt.IsKeyLit (kp p):=trivial
 have hisM:=hown0.isMap
 have hsame:grp (q++[(p,i)]) p=grp q p++[i]:=grp_snoc_same q p i
 have hother:∀r,r≠p→grp (q++[(p,i)]) r=grp q r:=fun r hr=>grp_snoc_other q (fun e=>hr e.symm) i
 have hkne:∀r,r≠p→grp q r≠[]→kp r≠kp p:=fun r hr hg e=>hr (kp_inj (hbr r hg).1 (hbr r hg).2 hp1 hp2 e)
 refine⟨_,⟨es',clock',ChangeMaps.heap_setBlock_same hmb2 _,F2,hsz2,rfl⟩,a3,?_,?_,?_⟩
 ·rw [← hD]
  intro kl hkl
  by_cases hk:kl=kp p
  ·exact⟨p,hk,by rw [hsame];simp⟩
  ·rw [has_put_other hk] at hkl
   obtain⟨r,hr,hgr⟩:=a4 kl hkl
   have hrp:r≠p:=fun e=>hk (by rw [hr,e])
   exact⟨r,hr,by rw [hother r hrp];exact hgr⟩
 ·rw [← hD]
  intro r hr
  simp only
  by_cases hrp:r=p
  ·subst hrp
   rw [if_pos rfl,hsame]
   exact⟨has_put_same hisM hkey _,fun z=>atKey_put_same hisM hkey _ _,hkeep hrow' hg3⟩
  ·rw [if_neg hrp,hother r hrp]
   rw [hother r hrp] at hr
   have hne:=hkne r hrp hr
   refine⟨by rw [has_put_other hne];exact (a5 r hr).1,fun z=>by rw [atKey_put_other hne];exact (a5 r hr).2.1 z,?_⟩
   refine hkeep ?_ hg3
   refine ownsRow_blocks (hkeep (a5 r hr).2.2 hg1) fun g hg=>hg2.block g ?_ ?_
   ·rw [hsz1]
    exact (ownsRow_block (a5 r hr).2.2 hg).2
   ·exact fun e=>hoth r g hrp hr hg e.symm
 ·simp only
  have hnew:∀r,r≠p→grp q r≠[]→∀g,(V r).ownBlock=some g→v'.ownBlock≠some g:=fun r hrp hr g hg e=>by
   rcases hloc with h|⟨g',h1,h2⟩
   ·exact hoth r g hrp hr hg (h ▸ e)
   ·have h3:=(ownsRow_block (a5 r hr).2.2 hg).2
    rw [e] at h1
    cases h1
    omega
  intro r s hrs hr hs g hg
  by_cases hrp:r=p
  ·subst hrp
   have hsp:s≠r:=fun e=>hrs e.symm
   rw [if_pos rfl] at hg
   rw [if_neg hsp]
   rw [hother s hsp] at hs
   exact fun e=>hnew s hsp hs g e hg
  ·rw [if_neg hrp] at hg
   rw [hother r hrp] at hr
   by_cases hsp:s=p
   ·subst hsp
    rw [if_pos rfl]
    exact hnew r hrp hr g hg
   ·rw [if_neg hsp]
    rw [hother s hsp] at hs
    exact a6 r s hrs hr hs g hg
end Go.Proofs.YtbecggfbblnglaaGreatDoor
namespace Go.Proofs.YtbecggfbblnglaaGreatDoor
open Go Go.RowKit Go.Ix Go.Maps Go.Shelf
def CollP (q:List ((Nat×Nat)×Nat)) (left:Lit→Bool) (ss:List (Nat×Nat)):Prop:=ss.Nodup∧∀p,p∈ss↔(grp q p≠[]∧left (kp p)=false)
theorem CollP.step {q:List ((Nat×Nat)×Nat)}{left:Lit→Bool}{ss:List (Nat×Nat)}(h:CollP q left ss) (hq:Small2 q) {x:Nat×Nat}(hx:grp q x≠[]) (hl:left (kp x)=true):CollP q (fun z=>left z && !z.sameKey (kp x)) (ss++[x]):=by
 have hbr:∀r,grp q r≠[]→r.1≤1000000000∧r.2≤1000000000:=fun r hr=>by
  obtain⟨i,hi⟩:=grp_ne.1 hr
  exact hq _ hi
 have hnew:x∉ss:=fun hm=>by
  have:=((h.2 x).1 hm).2
  rw [hl] at this
  cases this
 refine⟨List.nodup_append.2 ⟨h.1,by simp,fun a ha b hb=>by simp at hb;subst hb;exact fun e=>hnew (e ▸ ha)⟩,fun p=>?_⟩
 by_cases hp:grp q p≠[]
 ·by_cases hpx:p=x
  ·subst hpx
   simp [hp,kp,Lit.sameKey]
  ·have hk:kp p≠kp x:=fun e=>hpx (kp_inj (hbr p hp).1 (hbr p hp).2 (hbr x hx).1 (hbr x hx).2 e)
   have hs:(kp p).sameKey (kp x)=false:=by
    unfold kp at hk ⊢
    simp [Lit.sameKey]
    exact fun e=>hk (by rw [e])
   rw [List.mem_append,h.2 p]
   simp [hp,hpx,hs]
 ·rw [List.mem_append,h.2 p]
  have:p≠x:=fun e=>hp (e ▸ hx)
  simp [hp,this]
set_option maxRecDepth 100000 in
set_option maxHeartbeats 1000000 in
theorem keys1_pairs {base n:Nat}{q:List ((Nat×Nat)×Nat)}{V:Nat×Nat→Value}(hq:Small2 q) (m:Nat) (hm1:1≤m) (l Bm b N:Nat) (J:List (Nat×Nat)→World→Prop)
  (hY:∀pre x W,J pre W→pre.length<N→YieldAt Fence.wide (m-1) Tryz.prog l #[pv x] W fun e W'=>e=.returned (.bool true)∧J (pre++[x]) W'∧KeepsWalks W W')
  (W:World) (hJ:AbidesFrom W.heap.size J) (hm:W.cell? ⟨Bm,0,none⟩=some (.map (some b))) (hgrp:GrpAt W base b n q V) (hN:∀D:DataW Value,W.ownsMap Tryz.prog 314 RV b n D→Maps.size D≤N) (h0:J [] W) :
  CallsIn Fence.wide m Tryz.prog 193 #[.func (.yield l) #[] #[],.pointer (some ⟨Bm,0,none⟩)] W fun e W'=>(∃v,e=.returned v)∧∃ss:List (Nat×Nat),(ss.Nodup∧∀p,p∈ss↔grp q p≠[])∧J ss W':=by
 obtain⟨D0,hown,hb0,a4,a5,a6⟩:=hgrp
 have hszN:=hN D0 hown
 have Hown:=hown
 have hbr:∀r,grp q r≠[]→r.1≤1000000000∧r.2≤1000000000:=fun r hr=>by
  obtain⟨i,hi⟩:=grp_ne.1 hr
  exact hq _ hi
 have HA4:=Lib.hid a4
 have HA5:=Lib.hid (fun p hp=>(a5 p hp).1)
 clear a4 a5 a6 hN
 refine callsIn_of_wp Tryz.func193 rfl trivial ?_ rfl
 simp only [Tryz.ntmps193,List.size_toArray,List.length_cons,List.length_nil,Nat.reduceAdd,Nat.reduceSub,Array.replicate_succ,Array.replicate_zero,List.push_toArray,List.append_toArray,List.nil_append,List.cons_append]
 gi_wp2_with (first
  | (gi_at_range;refine wpListIn_range_own _ rfl _ 312 rfl 314 181 Tryz.lawP Tryz.underlying312 RV b n _ rfl hown ?_;intro w0 hrg0 hg0 hs0)
  | gi_in)
 go_frame
 gi_loopw [3] (fun _ wr=>∃(left:Lit→Bool) (cnt:Nat) (ss:List (Nat×Nat)),wr.ranges Tryz.prog 314 RV b W.heap.size n D0 left cnt∧ss.length+cnt≤N∧CollP q left ss∧J ss wr)
  (fun _ wr=>wr.rangeLeft b W.heap.size)
 case atStart =>
  exact⟨_,_,[],hrg0,by simpa using hszN,⟨List.nodup_nil,fun p=>by
   constructor
   ·intro h
    simp at h
   ·rintro⟨h1,h2⟩
    have:=HA5.out p h1
    rw [this] at h2
    cases h2⟩,hJ [] W w0 none h0 hg0 (fun r e=>by cases e)⟩
 case round =>
  obtain⟨left,cnt,ss,hrg,hcs,hC,hJs⟩:=hrel
  gi_wp2_with (first
   | (gi_at_next;refine wpListIn_next_ranges _ rfl _ rfl 314 Tryz.lawP RV (fun v=>v) id (fun key kl hk=>⟨key,rfl⟩) (fun v _ _=>⟨v,rfl⟩) b W.heap.size n _ _ _ rfl hrg ?_ ?_)
   | gi_in)
  ·intro hc0 hl0
   gi_wp2
   go_end0
   exact⟨⟨_,rfl⟩,ss,⟨hC.1,fun p=>by rw [hC.2 p,hl0];simp⟩,hJs⟩
  ·intro x c kl yd yp w2 cnt2 hkey hlk hv hat hrg2 hlt hg2 hs2 hen
   obtain⟨p,rfl,hp⟩:=HA4.out kl (has_true_of_atKey hat)
   have hx:x=pv p:=Tryz.lawP.inj hkey (keyP (hbr p hp).1 (hbr p hp).2)
   subst hx
   have hJ2:J ss w2:=hJ ss wr w2 (some W.heap.size) hJs hg2 (fun r e=>by cases e;exact⟨Nat.le_refl _,hrg.iter_walk⟩)
   have hJ3:J ss (w2.alloc (.cells #[.int .i64 (p.1:Int),.int .i64 (p.2:Int)] 314)):=hJ ss w2 _ none hJ2 (World.grownBy_alloc _ _ _) (fun r e=>by cases e)
   obtain⟨fn,tmps,assign,body,hy,hR⟩:=hY ss p _ hJ3 (by omega)
   clear hs2
   unfold pv at hen hy
   gi_wp2
   refine hR.mono ?_
   rintro e W3 ⟨rfl,hJ4,hk4⟩
   gi_wp2
   have hrg3:=(hrg2.alloc (.cells #[.int .i64 (p.1:Int),.int .i64 (p.2:Int)] 314)).of_walks hk4
   go_roundw
   case rel=>exact⟨_,cnt2,ss++[p],hrg3,by simp;omega,hC.step hq hp hlk,hJ4⟩
   case measure=>rw [hrg3.left_eq,hrg.left_eq];exact hlt
theorem keys_gives {base n:Nat}{q:List ((Nat×Nat)×Nat)}{V:Nat×Nat→Value}(hq:Small2 q) (m:Nat) (hm1:1≤m) (Bm b N:Nat) (w:World) (hBm:Bm<w.heap.size)
  (hm:w.cell? ⟨Bm,0,none⟩=some (.map (some b))) (hgrp:GrpAt w base b n q V) (hN:n≤N) :
  SeqGives Fence.wide m Tryz.prog 193 #[.pointer (some ⟨Bm,0,none⟩)] pv (fun ss=>ss.Nodup∧∀p,p∈ss↔grp q p≠[]) N w:=fun l J W hW hJ hY h0 =>
 keys1_pairs hq m hm1 l Bm b N J hY W hJ ((hW.cell (p:=⟨Bm,0,none⟩) hBm).trans hm) (hgrp.olds (Olds.of_below hW)) (fun _ hD=>Nat.le_trans hD.size_le hN) h0
set_option maxHeartbeats 1000000 in
theorem keysP90 (mb:Option Nat) (w:World):CallsIn Fence.wide 5 Tryz.prog 155 #[.map mb] w fun e w'=>e=.returned (.func (.func 193) #[] #[.pointer (some ⟨w.heap.size,0,none⟩)])∧w'=w.alloc (.cells #[.map mb] 312):=by
 refine callsIn_of_wp Tryz.func155 rfl trivial ?_ rfl
 simp only [Tryz.ntmps155,List.size_toArray,List.length_cons,List.length_nil,Nat.reduceAdd,Nat.reduceSub,Array.replicate_succ,Array.replicate_zero,List.push_toArray,List.append_toArray,List.nil_append,List.cons_append]
 gi_wp2
 go_ret
 exact⟨rfl,rfl⟩
def pcell (p:Nat×Nat):List Value:=[.int .i64 (p.1:Int),.int .i64 (p.2:Int)]
def flatP (ss:List (Nat×Nat)):List Value:=ss.flatMap pcell
theorem flatP_snoc (ss:List (Nat×Nat)) (x:Nat×Nat):flatP (ss++[x])=flatP ss++pcell x:=by simp [flatP]
def RowP (w:World) (B:Nat) (v:Value) (ss:List (Nat×Nat)):Prop:=w.ownsRow B 314 2 v ss.length (flatP ss)
theorem Tryz.info314:(Tryz.prog.info? 314).map (fun i=>(i.zero,i.size,i.bytes))=some (some (.agg #[.int .i64 0,.int .i64 0]),2,16):=by kernel_rfl
noncomputable def apCodes:Code×Code:=match Tryz.f219.body with
 | some (.seq _ (.seq (.seq _ (.block _ (.rangeFunc _ _ a b))) _))=>(a,b)
 | _=>(.skip,.skip)
noncomputable def apRec (fn:FuncId) (sv:Value) (Bs D:Nat) (st:LoopState) (pend:Option Code):Loop :=
 { state:=st,pending:=pend,fn,tmps:=#[.slice none 0 0,sv,.pointer (some ⟨Bs,0,none⟩),undef,.slice none 0 0,undef,sv,undef,undef,undef,undef,undef,undef],params:=#[7],assign:=apCodes.1,body:=apCodes.2,defers:=D }
structure KpAt (w0:World) (fn:FuncId) (sv:Value) (Bs l D:Nat) (ss:List (Nat×Nat)) (W:World):Prop where
 box:∃v,W.heap[Bs]?=some (.cells #[v] 316 (0,0))∧RowP W w0.heap.size v ss
 L:W.heap[l]?=some (.loop (apRec fn sv Bs D .ready none))
 K:W.heap[D]?=some (.deferred (some []))
 below:RowKit.Below w0.heap.size w0 W
theorem ap_abides (w0:World) (fn:FuncId) (sv:Value) (Bs l D B:Nat) (hB:w0.heap.size≤B):AbidesFrom B (KpAt w0 fn sv Bs l D):=fun s W W' row h hg hrow=>by
 have hrow':∀r,row=some r→∃o:Obj,W.heap[r]?=some o∧o.isWalk=true:=fun r e=>(hrow r e).2
 obtain⟨v,hv,hr⟩:=h.box
 exact⟨⟨v,(grownBy_keeps hg hrow' hv rfl).trans hv,ownsRow_abides_a hr hg hrow'⟩,(grownBy_keeps hg hrow' h.L rfl).trans h.L,(grownBy_keeps hg hrow' h.K rfl).trans h.K,
  h.below.grown hg h.below.size (fun k e=>Nat.le_trans hB (hrow k e).1)⟩
theorem cell_two_new (w:World) (x:Nat×Nat):∀j u,(pcell x)[j]?=some u→(w.alloc (.cells #[.int .i64 (x.1:Int),.int .i64 (x.2:Int)] 314)).cell? ((⟨w.heap.size,0,none⟩:Addr).add j)=some u:=by
 intro j u h
 have h9:=heap_alloc_new w (.cells #[.int .i64 (x.1:Int),.int .i64 (x.2:Int)] 314)
 match j with
 | 0 =>
  simp only [pcell] at h
  cases h
  rw [show (⟨w.heap.size,0,none⟩:Addr).add 0=⟨w.heap.size,0,none⟩ by simp [Addr.add]]
  simp only [World.cell?,h9]
  rfl
 | 1 =>
  simp only [pcell] at h
  cases h
  rw [show (⟨w.heap.size,0,none⟩:Addr).add 1=⟨w.heap.size,1,none⟩ by simp [Addr.add]]
  simp only [World.cell?,h9]
  rfl
 | j+2=>simp [pcell] at h
set_option maxRecDepth 100000 in
set_option maxHeartbeats 2000000 in
theorem apYield (m:Nat) (w0:World) (fn:FuncId) (sv:Value) (Bs l D:Nat) (hBl:Bs≠l) (hDl:D≠l) (hDB:D≠Bs) (h0B:w0.heap.size≤Bs) (h0l:w0.heap.size≤l)
  (N:Nat) (hN:N≤1000000) (ss:List (Nat×Nat)) (x:Nat×Nat) (W:World) (h:KpAt w0 fn sv Bs l D ss W) (hlen:ss.length<N) :
  YieldAt Fence.wide m Tryz.prog l #[pv x] W fun e W'=>e=.returned (.bool true)∧KpAt w0 fn sv Bs l D (ss++[x]) W'∧KeepsWalks W W':=by
 obtain⟨i0,hi,hz0,hz1,hz2⟩:=info_parts Tryz.info314
 obtain⟨v,hv,hrow⟩:=h.box
 unfold RowP at hrow
 refine⟨fn,#[.slice none 0 0,sv,.pointer (some ⟨Bs,0,none⟩),undef,.slice none 0 0,undef,sv,pv x,undef,undef,undef,undef,undef],apCodes.1,apCodes.2,by simpa [apRec] using run_yield (P:=Tryz.prog) (args:=#[pv x]) h.L rfl,roundIn_of_wpIn trivial ?_⟩
 have hl:l<W.heap.size:=(Array.getElem?_eq_some_iff.1 h.L).1
 have hD:D<W.heap.size:=(Array.getElem?_eq_some_iff.1 h.K).1
 have hB:Bs<W.heap.size:=(Array.getElem?_eq_some_iff.1 hv).1
 have hwW:∀Wa,Wa=W.alloc (.cells #[.int .i64 (x.1:Int),.int .i64 (x.2:Int)] 314)→Wa.heap[l]?=W.heap[l]?∧Wa.heap[D]?=W.heap[D]?∧Wa.heap[Bs]?=W.heap[Bs]?∧Wa.heap.size=W.heap.size+1∧Wa.heap[W.heap.size]?=some (.cells #[.int .i64 (x.1:Int),.int .i64 (x.2:Int)] 314 (0,0)):=fun Wa e=>by
  subst e
  exact⟨Below.heap_alloc _ _ l hl,Below.heap_alloc _ _ D hD,Below.heap_alloc _ _ Bs hB,by simp,heap_alloc_new _ _⟩
 obtain⟨Wa,hWa⟩:∃Wa,Wa=W.alloc (.cells #[.int .i64 (x.1:Int),.int .i64 (x.2:Int)] 314):=⟨_,rfl⟩
 obtain⟨ql,qd,qb,qs,qn⟩:=hwW Wa hWa
 have hWl:Wa.heap[l]?=some (.loop (apRec fn sv Bs D .ready none)):=ql.trans h.L
 have hbr:=run_beginRound (P:=Tryz.prog) hWl rfl
 obtain⟨W2,hW2⟩:∃W2,Wa.putObj l (.loop { apRec fn sv Bs D .ready none with state:=.busy })=W2:=⟨_,rfl⟩
 rw [hW2] at hbr
 have hla:l<Wa.heap.size:=by omega
 have hga:W.grownBy Wa none:=by rw [hWa];exact World.grownBy_alloc _ _ _
 have hg2:Wa.grownBy W2 (some l):=by rw [← hW2];exact grownBy_putObj_a _ _ _
 have hk2:KeepsWalks W W2:=by
  have h1:KeepsWalks W Wa:=by rw [hWa];exact KeepsWalks.alloc _ _
  refine h1.trans ?_
  rw [← hW2]
  exact KeepsWalks.putObj _ hWl rfl
 have hv2:W2.heap[Bs]?=some (.cells #[v] 316 (0,0)):=by rw [← hW2];exact (World.putObj_heap_other hBl).trans (qb.trans hv)
 have hK2:W2.heap[D]?=some (.deferred (some [])):=by rw [← hW2];exact (World.putObj_heap_other hDl).trans (qd.trans h.K)
 have hL2:W2.heap[l]?=some (.loop { apRec fn sv Bs D .ready none with state:=.busy }):=by rw [← hW2];exact World.putObj_heap_same hla
 have hn2:W2.heap[W.heap.size]?=some (.cells #[.int .i64 (x.1:Int),.int .i64 (x.2:Int)] 314 (0,0)):=by rw [← hW2];exact (World.putObj_heap_other (by omega)).trans qn
 have hx0:W2.cell? ⟨W.heap.size,0,none⟩=some (.int .i64 (x.1:Int)):=by simp only [World.cell?,hn2];rfl
 have hx1:W2.cell? ⟨W.heap.size,1,none⟩=some (.int .i64 (x.2:Int)):=by simp only [World.cell?,hn2];rfl
 have hrowa:Wa.ownsRow w0.heap.size 314 2 v ss.length (flatP ss):=hrow.kept hga (by rcases hrow.2 with ⟨rfl,_⟩|⟨g,cap,cur,rfl,_⟩<;>simp [Value.ownBlock])
 have hrow2:W2.ownsRow w0.heap.size 314 2 v ss.length (flatP ss):=hrowa.kept hg2 (ownsRow_ne_a hrowa hWl (fun cur e=>by cases e))
 have hba:Below w0.heap.size w0 Wa:=by rw [hWa];exact h.below.alloc h.below.size _
 have hb2:Below w0.heap.size w0 W2:=hba.grown hg2 hba.size (fun k e=>by cases e;exact h0l)
 obtain⟨hc2,hf2⟩:=cell_of_box_a hv2
 have hBlt:Bs<W2.heap.size:=(Array.getElem?_eq_some_iff.1 hv2).1
 have hl2:l<W2.heap.size:=(Array.getElem?_eq_some_iff.1 hL2).1
 have hDlt:D<W2.heap.size:=(Array.getElem?_eq_some_iff.1 hK2).1
 have ne_of:∀{j:Nat}{o:Obj},W2.heap[j]?=some o→(∀cur,o≠.cells cur 314 (0,0))→some j≠v.ownBlock:=fun hj hno=>by
  rcases ownsRow_ne_a hrow2 hj hno with e | e
  ·rw [e];simp
  ·exact fun e'=>e e'.symm
 clear hW2 hwW
 unfold pv
 simp only [apCodes,Tryz.f219]
 gi_wp2_with gi_round_op_a
 rw [← hWa]
 refine⟨W2,hbr,?_⟩
 gi_wp2_with (first
  | (gi_at_builtin;refine wpListIn_append_own _ rfl _ _ 316 rfl w0.heap.size 314 i0 (.agg #[.int .i64 0,.int .i64 0]) 2 16 Tryz.underlying316 hi hz0 hz1 hz2 rfl (by decide) _ _ _ rfl (hrow2.alloc _) ⟨W2.heap.size,0,none⟩ 1 1 (pcell x) rfl rfl (cell_two_new W2 x) (by simp [pcell,Value.oneCell']) (by unfold maxLen;omega) (by omega) (by have:=hb2.size;simp;omega) ?_;intro v' w3 hown' hg3 hnil3
     have hv3:w3.heap[Bs]?=some (.cells #[v] 316 (0,0)):=(hg3.block Bs (by simp;omega) (ne_of hv2 (fun cur e=>by cases e))).trans ((Below.heap_alloc _ _ Bs hBlt).trans hv2)
     obtain⟨hc3,hf3⟩:=cell_of_box_a hv3
     obtain⟨g',cap',cur',rfl,hbase',hgb',hr1,hr2,hr3,hr4⟩:∃g' cap' cur',v'=.slice (some ⟨g',0,none⟩) (ss.length+1) cap'∧w0.heap.size≤g'∧w3.heap[g']?=some (.cells cur' 314 (0,0))∧ss.length+1≤cap'∧cap'≤maxLen∧cur'.size=cap' * 2∧cur'.toList.take ((ss.length+1) * 2)=flatP ss++pcell x:=by
      rcases hown'.2 with ⟨_,h0⟩ | h'
      ·exact absurd h0 (by omega)
      ·exact h'
     go_frame)
  | gi_round_op_a)
 have hg3':(W2.alloc (.cells #[.int .i64 (x.1:Int),.int .i64 (x.2:Int)] 314)).grownBy w3 v.ownBlock:=hg3
 have hL3:w3.heap[l]?=some (.loop { apRec fn sv Bs D .ready none with state:=.busy }):=(hg3'.block l (by simp;omega) (ne_of hL2 (fun cur e=>by cases e))).trans ((Below.heap_alloc _ _ l hl2).trans hL2)
 have hK3:w3.heap[D]?=some (.deferred (some [])):=(hg3'.block D (by simp;omega) (ne_of hK2 (fun cur e=>by cases e))).trans ((Below.heap_alloc _ _ D hDlt).trans hK2)
 obtain⟨w4,hw4⟩:∃w4,w3.setCell ⟨Bs,0,none⟩ (.slice (some ⟨g',0,none⟩) (ss.length+1) cap')=w4:=⟨_,rfl⟩
 rw [hw4]
 have hg4:w3.grownBy w4 (some Bs):=by rw [← hw4];exact grownBy_setCell0_a _ _ _
 have hv4:w4.heap[Bs]?=some (.cells #[.slice (some ⟨g',0,none⟩) (ss.length+1) cap'] 316 (0,0)):=by rw [← hw4];exact heap_setCell_box_a _ hv3
 have hL4:w4.heap[l]?=some (.loop { apRec fn sv Bs D .ready none with state:=.busy }):=(hg4.block l (Array.getElem?_eq_some_iff.1 hL3).1 (fun e=>hBl (by cases e;rfl))).trans hL3
 have hK4:w4.heap[D]?=some (.deferred (some [])):=(hg4.block D (Array.getElem?_eq_some_iff.1 hK3).1 (fun e=>hDB (by cases e;rfl))).trans hK3
 have hrow4:=hown'.kept hg4 (ownsRow_ne_a hown' hv3 (fun cur e=>by cases e))
 have hl4:l<w4.heap.size:=(Array.getElem?_eq_some_iff.1 hL4).1
 have hb3:Below w0.heap.size w0 w3:=(hb2.alloc hb2.size _).grown hg3' (by have:=hb2.size;simp;omega) (fun k e=>(hrow2.lt k e).1)
 have hb4:Below w0.heap.size w0 w4:=hb3.grown hg4 hb3.size (fun k e=>by cases e;exact h0B)
 have hk4:KeepsWalks W w4:=((hk2.trans (KeepsWalks.alloc _ _)).trans (KeepsWalks.of_grownBy hg3' (ownsRow_not_walk_a (hrow2.alloc _)))).trans (by rw [← hw4];exact KeepsWalks.setCell _ _ _)
 clear hw4
 refine⟨_,_,run_endRound none hL4,rfl,⟨⟨_,(World.putObj_heap_other hBl).trans hv4,?_⟩,World.putObj_heap_same hl4,(World.putObj_heap_other hDl).trans hK4,hb4.grown (grownBy_putObj_a _ _ _) hb4.size (fun k e=>by cases e;exact h0l)⟩,hk4.trans (KeepsWalks.putObj _ hL4 rfl)⟩
 have:=hrow4.kept (grownBy_putObj_a w4 l (.loop { { apRec fn sv Bs D .ready none with state:=.busy } with state:=if (none:Option Code).isNone then .ready else .done,pending:=none })) (ownsRow_ne_a hrow4 hL4 (fun cur e=>by cases e))
 unfold RowP
 rw [flatP_snoc]
 simpa using this
set_option maxRecDepth 100000 in
set_option maxHeartbeats 2000000 in
theorem append_seq (m:Nat) (hm:2≤m) (lb:Array Value) (S:List (Nat×Nat)→Prop) (N:Nat) (hN:N≤1000000) (w:World) (hseq:SeqGives Fence.wide (m-1) Tryz.prog 193 lb pv S N w) :
  CallsIn Fence.wide m Tryz.prog 219 #[.slice none 0 0,.func (.func 193) #[] lb] w fun e w'=>∃(v:Value) (ss:List (Nat×Nat)),e=.returned v∧S ss∧RowP w' w.heap.size v ss∧Below w.heap.size w w':=by
 have h1:1≤m:=by omega
 have eg:∀args w,(callFunc 193 args).run Tryz.prog w=.ok (.enter 193 args) w:=enters_of Tryz.func193 (by kernel_rfl) rfl
 refine callsIn_of_wp_marks Tryz.func219 rfl trivial ?_ rfl
 simp only [Tryz.ntmps219,List.size_toArray,List.length_cons,List.length_nil,Nat.reduceAdd,Nat.reduceSub,Array.replicate_succ,Array.replicate_zero,List.push_toArray,List.append_toArray,List.nil_append,List.cons_append]
 gi_wp2
 refine wpIn_rangeFunc ?_
 intro fn hfn
 obtain⟨W0,hW0⟩:∃W0,w.alloc (.cells #[.slice none 0 0] 316)=W0:=⟨_,rfl⟩
 have hs0:W0.heap.size=w.heap.size+1:=by rw [← hW0];simp
 have hv0:W0.heap[w.heap.size]?=some (.cells #[.slice none 0 0] 316 (0,0)):=by rw [← hW0];exact World.alloc_heap_new w _
 have hb0:Below w.heap.size w W0:=by rw [← hW0];exact (Below.refl _ w).alloc (Nat.le_refl _) _
 rw [hW0]
 obtain⟨W1,hW1⟩:∃W1,(W0.alloc (.deferred (some []))).alloc (.loop (apRec fn (.func (.func 193) #[] lb) w.heap.size W0.heap.size .ready none))=W1:=⟨_,rfl⟩
 have hold:∀k,k<W0.heap.size→W1.heap[k]?=W0.heap[k]?:=fun k hk=>by
  rw [← hW1];exact (Below.heap_alloc _ _ k (by simp;omega)).trans (Below.heap_alloc _ _ k hk)
 have hb1:Below w.heap.size w W1:=by rw [← hW1];exact (hb0.alloc hb0.size _).alloc (by have:=hb0.size;simp;omega) _
 have hs1:W1.heap.size=W0.heap.size+2:=by rw [← hW1];simp
 have hM:KpAt w fn (.func (.func 193) #[] lb) w.heap.size (W0.heap.size+1) W0.heap.size [] W1 :=
  ⟨⟨_,(hold w.heap.size (by omega)).trans hv0,⟨rfl,.inl ⟨rfl,rfl⟩⟩⟩,
   by rw [← hW1];have:=World.alloc_heap_new (W0.alloc (.deferred (some []))) (.loop (apRec fn (.func (.func 193) #[] lb) w.heap.size W0.heap.size .ready none));rwa [World.size_alloc] at this,
   by rw [← hW1];exact (Below.heap_alloc _ _ _ (by simp)).trans (World.alloc_heap_new W0 _),hb1⟩
 refine⟨W0.heap.size+1,[{ target:=.collected W0.heap.size,args:=#[] }],W1,{ target:=.fn (.func 193) lb,args:=#[.func (.yield (W0.heap.size+1)) #[] #[]] },W1,193,
  #[.func (.yield (W0.heap.size+1)) #[] #[]]++lb,W1,?_,?_,?_,?_,fun _=>h1,?_⟩
 ·rw [← hW1];exact run_enterLoop_outer _ _ _ _ _
 ·simp [resolve,go_sem]
 ·intro f' hf';trivial
 ·simp [invoke,go_sem,eg]
 ·refine (hseq (W0.heap.size+1) (KpAt w fn (.func (.func 193) #[] lb) w.heap.size (W0.heap.size+1) W0.heap.size) W1 hb1 (ap_abides _ _ _ _ _ _ _ hb1.size)
   (fun pre x W hJ hl=>apYield (m-1-1) w fn _ w.heap.size (W0.heap.size+1) W0.heap.size (by omega) (by omega) (by omega) (Nat.le_refl _) (by omega) N hN pre x W hJ hl) hM).mono ?_
  rintro e W2 ⟨⟨v0,rfl⟩,ss,hS,h2⟩
  obtain⟨v,hv,hrow⟩:=h2.box
  have hend:=run_endLoop (P:=Tryz.prog) h2.L (by simp [apRec])
  obtain⟨W3,hW3⟩:∃W3,W2.putObj (W0.heap.size+1) (.loop { apRec fn (.func (.func 193) #[] lb) w.heap.size W0.heap.size .ready none with state:=.exhausted })=W3:=⟨_,rfl⟩
  rw [hW3] at hend
  have hg3:W2.grownBy W3 (some (W0.heap.size+1)):=by rw [← hW3];exact grownBy_putObj_a _ _ _
  have hv3:W3.heap[w.heap.size]?=some (.cells #[v] 316 (0,0)):=by rw [← hW3];exact (World.putObj_heap_other (by omega)).trans hv
  have hK3:W3.heap[W0.heap.size]?=some (.deferred (some [])):=by rw [← hW3];exact (World.putObj_heap_other (by omega)).trans h2.K
  have hrow3:=hrow.kept hg3 (ownsRow_ne_a hrow h2.L (fun cur e=>by cases e))
  have hb3:Below w.heap.size w W3:=h2.below.grown hg3 h2.below.size (fun k e=>by cases e;omega)
  obtain⟨hc3,hf3⟩:=cell_of_box_a hv3
  clear hW3
  refine⟨none,W3,hend,?_⟩
  gi_wp2
  rw [← hs0]
  refine⟨by simp,.inl ⟨_,_,rfl,run_takeDeferred hK3,?_⟩⟩
  exact⟨_,results_tmp rfl _ _ _,v,ss,rfl,hS,hrow3.kept (grownBy_putObj_a _ _ _) (ownsRow_ne_a hrow3 hK3 (fun cur e=>by cases e)),hb3.grown (grownBy_putObj_a _ _ _) hb3.size (fun k e=>by cases e;omega)⟩
set_option maxHeartbeats 1000000 in
theorem collect_pairs (m:Nat) (hm:3≤m) (lb:Array Value) (S:List (Nat×Nat)→Prop) (N:Nat) (hN:N≤1000000) (w:World) (hseq:SeqGives Fence.wide (m-1-1) Tryz.prog 193 lb pv S N w) :
  CallsIn Fence.wide m Tryz.prog 191 #[.func (.func 193) #[] lb] w fun e w'=>∃(v:Value) (ss:List (Nat×Nat)),e=.returned v∧S ss∧RowP w' w.heap.size v ss∧Below w.heap.size w w':=by
 have h1:1≤m:=by omega
 have hf139:Fence.wide.fn 219:=trivial
 refine callsIn_of_wp Tryz.func191 rfl trivial ?_ rfl
 simp only [Tryz.ntmps191,List.size_toArray,List.length_cons,List.length_nil,Nat.reduceAdd,Nat.reduceSub,Array.replicate_succ,Array.replicate_zero,List.push_toArray,List.append_toArray,List.nil_append,List.cons_append]
 gi_wp2_with (gi_at_call 219;refine (append_seq (m-1) (by omega) lb S N hN _ hseq).mono ?_;rintro e w' ⟨v,ss,rfl,hS,hrow,hb⟩)
 go_ret
 exact⟨v,ss,rfl,hS,hrow,hb⟩
theorem collect_any {w:World}{base mb n:Nat}{q:List ((Nat×Nat)×Nat)}{V:Nat×Nat→Value}(hq:Small2 q) (hgrp:GrpAt w base mb n q V) (hn:n≤1000000) :
  Calls Tryz.prog 191 #[.func (.func 193) #[] #[.pointer (some ⟨w.heap.size,0,none⟩)]] (w.alloc (.cells #[.map (some mb)] 312)) fun e w'=>∃(v:Value) (ss:List (Nat×Nat)),e=.returned v∧(ss.Nodup∧∀p,p∈ss↔grp q p≠[])∧RowP w' (w.heap.size+1) v ss∧Below (w.heap.size+1) (w.alloc (.cells #[.map (some mb)] 312)) w':=by
 have h:=collect_pairs 5 (by omega) #[.pointer (some ⟨w.heap.size,0,none⟩)] _ n hn (w.alloc (.cells #[.map (some mb)] 312)) (keys_gives hq (5-1-1) (by omega) w.heap.size mb n (w.alloc (.cells #[.map (some mb)] 312)) (by simp) (by simp) (hgrp.olds (Olds.alloc _ _)) (Nat.le_refl _))
 have hsz:(w.alloc (.cells #[.map (some mb)] 312)).heap.size=w.heap.size+1:=by simp
 rw [hsz] at h
 exact callsIn_wide.1 h
theorem keysP90_any (mb:Option Nat) (W:World):Calls Tryz.prog 155 #[.map mb] W fun e w'=>e=.returned (.func (.func 193) #[] #[.pointer (some ⟨W.heap.size,0,none⟩)])∧w'=W.alloc (.cells #[.map mb] 312):=callsIn_wide.1 (keysP90 mb W)
end Go.Proofs.YtbecggfbblnglaaGreatDoor
