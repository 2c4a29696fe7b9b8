/- Contracts over this program. Their conditions: the slices read as the lists that are named, and lie within the sizes that are named. -/
import Derived.Test.YtndjmffnlcilbaaGreatDoorProg
import Derived.WalkKit
import Derived.WalkSpells
import Derived.WalkLawsBesides
import Derived.Deep.QuietTactic
import Derived.BigQuiet
import Derived.Deep.LoopGhost
import Derived.Lib.Hide
import Derived.Lib.OwnBridge
import Derived.Sort.EncStr
import Derived.Deep.AppendLies
import Derived.OwnWalk
import Derived.Test.YtndjmffnlcilbaaGreatDoorIx
set_option linter.unusedSimpArgs false
set_option linter.unusedVariables false
set_option linter.deprecated false
set_option linter.unnecessarySimpa false
namespace Go.Proofs.YtndjmffnlcilbaaGreatDoor
open Go Go.RowKit Go.Ix Go.Ext
def CellsAt (w:World) (b off:Nat) (vs:List Value):Prop:=∀j v,vs[j]?=some v→w.cell? ⟨b,off+j,none⟩=some v
def FlatAt (w:World) (v:Value) (n:Nat) (vs:List Value):Prop :=
 ∃o c,v=.slice o n c∧(o=none→c=0)∧(vs≠[]→∃b off,o=some ⟨b,off,none⟩∧CellsAt w b off vs)
theorem cell_lt {w:World}{a:Addr}{v:Value}(h:w.cell? a=some v):a.block<w.heap.size:=by
 by_cases hlt:a.block<w.heap.size
 ·exact hlt
 ·have:w.heap[a.block]?=Option.none:=by simp;omega
  simp [World.cell?,this] at h
theorem CellsAt.keep {w w':World}{b off:Nat}{vs:List Value}(h:CellsAt w b off vs) (hb:Below w.heap.size w w'):CellsAt w' b off vs:=fun j v hv=>by
 have:=h j v hv
 rw [hb.cell (cell_lt this)]
 exact this
theorem FlatAt.keep {w w':World}{v:Value}{n:Nat}{vs:List Value}(h:FlatAt w v n vs) (hb:Below w.heap.size w w'):FlatAt w' v n vs:=by
 obtain⟨o,c,h1,h2,h3⟩:=h
 exact⟨o,c,h1,h2,fun hne=>by obtain⟨b,off,e,hc⟩:=h3 hne;exact⟨b,off,e,hc.keep hb⟩⟩
theorem flat_at {α:Type}{enc:α→List Value}{k:Nat}(hk:∀x,(enc x).length=k):∀(xs:List α) (j i:Nat) (x:α) (v:Value),xs[j]?=some x→(enc x)[i]?=some v→(xs.flatMap enc)[j * k+i]?=some v
 | [],j,i,x,v,h,_=>by simp at h
 | y :: xs,0,i,x,v,h,hv=>by
  simp at h
  subst h
  have hi:i<(enc y).length:=(List.getElem?_eq_some_iff.1 hv).1
  rw [List.flatMap_cons,Nat.zero_mul,Nat.zero_add,List.getElem?_append_left hi]
  exact hv
 | y :: xs,j+1,i,x,v,h,hv=>by
  have:=flat_at hk xs j i x v (by simpa using h) hv
  rw [List.flatMap_cons,List.getElem?_append_right (by rw [hk,Nat.add_mul];omega),hk,show (j+1) * k+i-k=j * k+i by rw [Nat.add_mul];omega]
  exact this
theorem flat_len {α:Type}{enc:α→List Value}{k:Nat}(hk:∀x,(enc x).length=k) (xs:List α):(xs.flatMap enc).length=xs.length * k:=by
 induction xs with
 | nil=>simp
 | cons x xs ih=>rw [List.flatMap_cons,List.length_append,hk,ih,List.length_cons,Nat.add_mul];omega
theorem CellsAt.elem {α:Type}{enc:α→List Value}{k:Nat}{w:World}{b off:Nat}{xs:List α}(h:CellsAt w b off (xs.flatMap enc)) (hk:∀x,(enc x).length=k) {j i:Nat}{x:α}{v:Value}(hj:xs[j]?=some x) (hv:(enc x)[i]?=some v):w.cell? ⟨b,off+j * k+i,none⟩=some v:=by
 have:=h _ _ (flat_at hk xs j i x v hj hv)
 rwa [← Nat.add_assoc] at this
theorem FlatAt.cases {w:World}{v:Value}{n:Nat}{vs:List Value}(h:FlatAt w v n vs) :
  (∃o c,v=.slice o n c∧vs=[]∧(o=none→c=0))∨(∃b off c,v=.slice (some ⟨b,off,none⟩) n c∧vs≠[]∧CellsAt w b off vs):=by
 obtain⟨o,c,h1,h2,h3⟩:=h
 by_cases hv:vs=[]
 ·exact .inl ⟨o,c,h1,hv,h2⟩
 ·obtain⟨b,off,rfl,hc⟩:=h3 hv
  exact .inr ⟨b,off,c,h1,hv,hc⟩
theorem ret_bool {a b:Bool}(h:a=b):Ending.returned (.bool a)=.returned (.bool b):=by rw [h]
theorem ret_int {a b:Int}{k:IntKind}(h:a=b):Ending.returned (.int k a)=.returned (.int k b):=by rw [h]
variable {a w w' W:World}
def Olds (w W:World):Prop:=w.heap.size≤W.heap.size∧∀k,k<w.heap.size→W.heap[k]?=w.heap[k]?
theorem Olds.refl (w:World):Olds w w:=⟨Nat.le_refl _,fun _ _=>rfl⟩
theorem Olds.of_below (h:Below w.heap.size w W):Olds w W:=⟨h.size,h.block⟩
theorem Olds.trans {a b c:World}(h:Olds a b) (k:Olds b c):Olds a c:=⟨Nat.le_trans h.1 k.1,fun i hi=>(k.2 i (Nat.lt_of_lt_of_le hi h.1)).trans (h.2 i hi)⟩
theorem Olds.alloc (w:World) (o:Obj):Olds w (w.alloc o):=Olds.of_below ((Below.refl _ _).alloc (Nat.le_refl _) _)
theorem Olds.drewN (w:World) (q:Nat):Olds w (w.drewN q):=⟨Nat.le_refl _,fun _ _=>rfl⟩
theorem Olds.cell (h:Olds w W) {a:Addr}{v:Value}(hc:w.cell? a=some v):W.cell? a=some v:=by
 rw [World.cell?_of_block (w:=w) (w':=W) (h.2 _ (cell_lt hc))]
 exact hc
theorem CellsAt.olds {b off:Nat}{vs:List Value}(h:CellsAt w b off vs) (hb:Olds w W):CellsAt W b off vs:=fun j v hv=>hb.cell (h j v hv)
theorem FlatAt.olds {v:Value}{n:Nat}{vs:List Value}(h:FlatAt w v n vs) (hb:Olds w W):FlatAt W v n vs:=by
 obtain⟨o,c,h1,h2,h3⟩:=h
 exact⟨o,c,h1,h2,fun hne=>by obtain⟨b,off,e,hc⟩:=h3 hne;exact⟨b,off,e,hc.olds hb⟩⟩
theorem ownsRow_blocks {B e k:Nat}{v:Value}{n:Nat}{xs:List Value}(h:w.ownsRow B e k v n xs) (hb:∀g,v.ownBlock=some g→W.heap[g]?=w.heap[g]?):W.ownsRow B e k v n xs:=by
 obtain⟨h1,h2⟩:=h
 refine⟨h1,?_⟩
 rcases h2 with h2|⟨g,cap,cur,rfl,hb',hg,h3⟩
 ·exact .inl h2
 ·exact .inr ⟨g,cap,cur,rfl,hb',by rw [hb g rfl];exact hg,h3⟩
theorem ownsRow_block {B e k:Nat}{v:Value}{n:Nat}{xs:List Value}(h:w.ownsRow B e k v n xs) {g:Nat}(hg:v.ownBlock=some g):B≤g∧g<w.heap.size:=by
 rcases h.2 with ⟨rfl,_⟩|⟨g',cap,cur,rfl,hb,hh,_⟩
 ·cases hg
 ·cases hg
  refine⟨hb,?_⟩
  rcases Nat.lt_or_ge g' w.heap.size with h | h
  ·exact h
  ·rw [Array.getElem?_eq_none h] at hh;cases hh
theorem ownsRow_olds {B e k:Nat}{v:Value}{n:Nat}{xs:List Value}(h:w.ownsRow B e k v n xs) (hb:Olds w W):W.ownsRow B e k v n xs :=
 ownsRow_blocks h fun _ hg=>hb.2 _ (ownsRow_block h hg).2
theorem ownsRow_mono {B B' e k:Nat}{v:Value}{n:Nat}{xs:List Value}(h:w.ownsRow B e k v n xs) (hB:B'≤B):w.ownsRow B' e k v n xs:=by
 obtain⟨h1,h2⟩:=h
 refine⟨h1,?_⟩
 rcases h2 with h2|⟨g,cap,cur,e,hb',hg⟩
 ·exact .inl h2
 ·exact .inr ⟨g,cap,cur,e,by omega,hg⟩
theorem ownsRow_shape {B e k:Nat}{v:Value}{n:Nat}{xs:List Value}(h:w.ownsRow B e k v n xs):∃o c,v=.slice o n c∧(o=none→n=0∧c=0):=by
 rcases h.2 with ⟨e,h0⟩|⟨g,cap,cur,e,_⟩
 ·exact⟨none,0,by rw [e,h0],fun _=>⟨h0,rfl⟩⟩
 ·exact⟨_,_,e,fun e=>by cases e⟩
theorem ownsRow_cell {B e k g n c:Nat}{xs:List Value}(h:w.ownsRow B e k (.slice (some ⟨g,0,none⟩) n c) n xs):CellsAt w g 0 xs:=by
 intro j v hv
 rcases h.2 with ⟨e,_⟩|⟨g',cap,cur,e,_,hh,_,_,hs,ht⟩
 ·cases e
 ·simp only [Value.slice.injEq,Option.some.injEq,Addr.mk.injEq,and_true,true_and] at e
  obtain⟨rfl,rfl⟩:=e
  rw [← ht] at hv
  have hj:j<n * k:=by
   have:=(List.getElem?_eq_some_iff.1 hv).1
   rw [List.length_take] at this
   omega
  rw [List.getElem?_take_of_lt hj] at hv
  rw [Nat.zero_add]
  simp only [World.cell?,hh]
  simpa using hv
def octs (bs:List Nat):List Value:=bs.map fun (n:Nat)=>Value.int .u8 (n:Int)
theorem octs_append (a b:List Nat):octs (a++b)=octs a++octs b:=by simp [octs]
theorem octs_len (a:List Nat):(octs a).length=a.length:=by simp [octs]
def Row8 (w:World) (B:Nat) (v:Value) (bs:List Nat):Prop:=w.ownsRow B 5 1 v bs.length (octs bs)
theorem own_kind {W:World}{B e k:Nat}{v:Value}{n:Nat}{xs:List Value}(h:W.ownsRow B e k v n xs) {g:Nat}(hg:v.ownBlock=some g):∃cur,W.heap[g]?=some (.cells cur e (0,0)):=by
 rcases h.2 with ⟨e1,_⟩|⟨g',cap,cur,e1,_,h2,_⟩
 ·rw [e1] at hg;cases hg
 ·rw [e1] at hg
  cases hg
  exact⟨cur,h2⟩
def BytesAt (w:World) (v:Value) (bs:List Nat):Prop:=FlatAt w v bs.length (octs bs)
def nats (zs:List Nat):List Value:=zs.map fun (i:Nat)=>Value.int .i64 (i:Int)
theorem nats_len (zs:List Nat):(nats zs).length=zs.length:=by simp [nats]
theorem nats_append (a b:List Nat):nats (a++b)=nats a++nats b:=by simp [nats]
theorem Tryz.info3:(Tryz.prog.info? 3).map (fun i=>(i.zero,i.size,i.bytes))=some (some (.int .i64 0),1,8):=by kernel_rfl
theorem Tryz.info5:(Tryz.prog.info? 5).map (fun i=>(i.zero,i.size,i.bytes))=some (some (.int .u8 0),1,1):=by kernel_rfl
def Sp (T M:List Nat) (w w':World):Prop:=∀(b:Nat) (o:Obj),w.heap[b]?=some o→b∉M→(∀cs ty fr,o=.cells cs ty fr→ty∉T)→w'.heap[b]?=some o
structure Fr (B:Nat) (T M:List Nat) (w w':World):Prop where
 below:Below B w w'
 sp:Sp T M w w'
section
variable {B B':Nat}{T T' M M':List Nat}
theorem Fr.size (h:Fr B T M w w'):w.heap.size≤w'.heap.size:=h.below.size
theorem Fr.refl (B:Nat) (T M:List Nat) (w:World):Fr B T M w w:=⟨Below.refl _ _,fun _ _ h _ _=>h⟩
theorem Fr.trans {c:World}(h:Fr B T M a w) (k:Fr B T M w c):Fr B T M a c:=⟨h.below.trans k.below,fun b o hb hm ht=>k.sp b o (h.sp b o hb hm ht) hm ht⟩
theorem Fr.mono (h:Fr B T M w w') (hB:B'≤B) (hT:∀t∈T,t∈T') (hM:∀t∈M,t∈M'):Fr B' T' M' w w':=⟨h.below.mono hB,fun b o hb hm ht=>h.sp b o hb (fun k=>hm (hM _ k)) (fun cs ty fr e k=>ht cs ty fr e (hT _ k))⟩
theorem Fr.of_below (h:Below w.heap.size w w') (hB:B≤w.heap.size) (T M:List Nat):Fr B T M w w':=⟨h.mono hB,fun b o hb _ _=>(h.block b (Array.getElem?_eq_some_iff.1 hb).1).trans hb⟩
theorem Fr.alloc (h:Fr B T M w W) (hB:B≤W.heap.size) (o:Obj):Fr B T M w (W.alloc o):=h.trans (Fr.of_below ((Below.refl _ _).alloc (Nat.le_refl _) _) hB T M)
theorem Fr.drew (h:Fr B T M w W):Fr B T M w W.drew:=⟨h.below.drew,h.sp⟩
theorem Fr.cell (h:Fr B T M w W) {p:Addr}{cs:Array Value}{ty:TypeId}{fr:Nat×Nat}(hp:W.heap[p.block]?=some (.cells cs ty fr)) (hB:B≤p.block) (hm:p.block∈M∨ty∈T) (v:Value):Fr B T M w (W.setCell p v):=h.trans ⟨(Below.refl _ _).setCell hB _,fun b o hb hbm ht=>by
 refine (Below.heap_setCell _ _ _ _ fun e=>?_).trans hb
 rcases hm with hm | hm
 ·exact hbm (e ▸ hm)
 ·rw [e,hp] at hb
  exact ht cs ty fr (Option.some.inj hb).symm hm⟩
theorem Fr.row (h:Fr B T M w W) (hB:B≤W.heap.size) {e k n:Nat}{v:Value}{xs:List Value}(hr:W.ownsRow B e k v n xs) (he:e∈T) (hg:W.grownBy w' v.ownBlock):Fr B T M w w':=h.trans ⟨(Below.refl _ _).grown hg hB fun b hb=>(ownsRow_block hr hb).1,fun b o hb hbm ht=>by
 refine (hg.block b (Array.getElem?_eq_some_iff.1 hb).1 fun q=>?_).trans hb
 obtain⟨cur,h1⟩:=own_kind hr q.symm
 rw [h1] at hb
 exact ht _ _ _ (Option.some.inj hb).symm he⟩
theorem Fr.map (h:Fr B T M w W) (hB:B≤W.heap.size) {m:Nat}(hg:W.grownBy w' (some m)) (hm:m∈M) (hbm:B≤m):Fr B T M w w':=h.trans ⟨(Below.refl _ _).grown hg hB fun b hb=>by cases hb;exact hbm,fun b o hb hb2 _=>(hg.block b (Array.getElem?_eq_some_iff.1 hb).1 fun q=>hb2 (by cases q;exact hm)).trans hb⟩
theorem Fr.keep (h:Fr B T M w w') {b:Nat}{cs:Array Value}{ty:TypeId}{fr:Nat×Nat}(hb:w.heap[b]?=some (.cells cs ty fr)) (hm:b∉M) (ht:ty∉T):w'.heap[b]?=some (.cells cs ty fr):=h.sp b _ hb hm fun _ _ _ e=>by cases e;exact ht
theorem Fr.keepMap (h:Fr B T M w w') {b:Nat}{es:Array MapEntry}{c:Nat}(hb:w.heap[b]?=some (.map es c)) (hm:b∉M):w'.heap[b]?=some (.map es c):=h.sp b _ hb hm fun _ _ _ e=>by cases e
theorem Fr.keepRow (h:Fr B T M w w') {B' e k n:Nat}{v:Value}{xs:List Value}(hr:w.ownsRow B' e k v n xs) (ht:e∉T) (hm:∀g,v.ownBlock=some g→g∉M):w'.ownsRow B' e k v n xs:=ownsRow_blocks hr fun g hg=>by
 obtain⟨cur,h1⟩:=own_kind hr hg
 rw [h1]
 exact h.keep h1 (hm g hg) ht
end
theorem cell_of_heap {b i:Nat}{cs:Array Value}{ty:TypeId}{fr:Nat×Nat}(h:w.heap[b]?=some (.cells cs ty fr)):w.cell? ⟨b,i,none⟩=cs[i]?:=by simp [World.cell?,h]
theorem heap_lt {b:Nat}{o:Obj}(h:w.heap[b]?=some o):b<w.heap.size:=(Array.getElem?_eq_some_iff.1 h).1
end Go.Proofs.YtndjmffnlcilbaaGreatDoor
namespace Go.Ext
open Go.Ix
abbrev Sec:=List Nat
structure Dk where
 las:List Sec
 cac:List (Nat×Sec)
 dark:Bool
 trip:Int
def Dk.ok (K:Dk):Bool:=!K.dark && !decide (K.trip=0)
def Dk.tick (K:Dk):Dk:=if K.dark then K else if K.trip=0 then { K with dark:=true,trip:=-1 } else if 0<K.trip then { K with trip:=K.trip-1 } else K
def laid (L:List Sec) (l:List (Nat×Sec)):List Sec:=l.foldl (fun L p=>L.set p.1 p.2) L
def Dk.view (K:Dk):List Sec:=laid K.las K.cac
def Dk.write (K:Dk) (a:Nat) (b:Sec):Dk:=if K.ok then { K.tick with cac:=K.cac++[(a,b)] } else K.tick
def Dk.flush (K:Dk):Dk:=if K.ok then { K.tick with las:=K.view,cac:=[] } else K.tick
def codeOf (b:Bool):Nat:=if b then 0 else 4
def kept (keep:Nat→Bool) (l:List (Nat×Sec)):List (Nat×Sec):=(l.zipIdx.filter fun p=>keep p.2).map (·.1)
def Dk.cut (K:Dk) (keep:Nat→Bool):Dk:={ las:=laid K.las (kept keep K.cac),cac:=[],dark:=false,trip:=-1 }
def Dk.set (K:Dk) (n:Int):Dk:=if n<0 then K else if K.dark then K else { K with trip:=n }
structure Dk.Ok (K:Dk) (n:Nat):Prop where
 len:K.las.length=n
 las:∀b∈K.las,b.length=256∧∀x∈b,x<256
 cac:∀p∈K.cac,p.1<n∧p.2.length=256∧∀x∈p.2,x<256
 trip:-1≤K.trip∧K.trip<9223372036854775808
theorem tick_las (K:Dk):K.tick.las=K.las:=by unfold Dk.tick;split;rfl;split;rfl;split<;>rfl
theorem tick_cac (K:Dk):K.tick.cac=K.cac:=by unfold Dk.tick;split;rfl;split;rfl;split<;>rfl
theorem tick_dark (K:Dk):K.tick.dark=!K.ok:=by
 unfold Dk.tick Dk.ok
 by_cases h:K.dark=true
 ·simp [h]
 ·simp only [Bool.not_eq_true] at h
  by_cases h0:K.trip=0
  ·simp [h,h0]
  ·by_cases h1:0<K.trip<;>simp [h,h0,h1]
theorem tick_view (K:Dk):K.tick.view=K.view:=by unfold Dk.view;rw [tick_las,tick_cac]
theorem laid_len (l:List (Nat×Sec)):∀L,(laid L l).length=L.length:=by
 induction l with
 | nil=>intro L;rfl
 | cons p l ih=>intro L;show (laid (L.set p.1 p.2) l).length=_;rw [ih];simp
theorem laid_append (l k:List (Nat×Sec)) (L:List Sec):laid L (l++k)=laid (laid L l) k:=by unfold laid;rw [List.foldl_append]
theorem laid_snoc (l:List (Nat×Sec)) (p:Nat×Sec) (L:List Sec):laid L (l++[p])=(laid L l).set p.1 p.2:=by rw [laid_append];rfl
theorem laid_other (a:Nat):∀(l:List (Nat×Sec)) (L:List Sec),(∀p∈l,p.1≠a)→(laid L l)[a]?=L[a]?
 | [],L,_=>rfl
 | p :: l,L,h=>by
  show (laid (L.set p.1 p.2) l)[a]?=_
  rw [laid_other a l _ fun q hq=>h q (List.mem_cons_of_mem _ hq),List.getElem?_set_ne (h p List.mem_cons_self)]
theorem laid_mem {P:Sec→Prop}:∀(l:List (Nat×Sec)) (L:List Sec),(∀b∈L,P b)→(∀p∈l,P p.2)→∀b∈laid L l,P b
 | [],_,h,_=>h
 | p :: l,L,h,k=>laid_mem l (L.set p.1 p.2) (fun b hb=>by
   rcases List.mem_or_eq_of_mem_set hb with hb | rfl
   ·exact h b hb
   ·exact k p List.mem_cons_self) fun q hq=>k q (List.mem_cons_of_mem _ hq)
theorem kept_mem {keep:Nat→Bool}{l:List (Nat×Sec)}{p:Nat×Sec}(h:p∈kept keep l):p∈l:=by
 unfold kept at h
 obtain⟨q,hq,rfl⟩:=List.mem_map.1 h
 exact (List.mem_zipIdx' (List.mem_filter.1 hq).1).2 ▸ List.getElem_mem _
section
variable {K:Dk}{n:Nat}
theorem Dk.Ok.tick (h:K.Ok n):K.tick.Ok n:=⟨by rw [tick_las];exact h.len,by rw [tick_las];exact h.las,by rw [tick_cac];exact h.cac,by
 have h1:=h.trip
 unfold Dk.tick
 split
 ·exact h1
 ·split
  ·exact (by decide:(-1:Int)≤ -1∧(-1:Int)<9223372036854775808)
  ·split
   ·show -1≤K.trip-1∧K.trip-1<9223372036854775808
    omega
   ·exact h1⟩
theorem Dk.Ok.view (h:K.Ok n):K.view.length=n∧∀b∈K.view,b.length=256∧∀x∈b,x<256 :=
 ⟨by unfold Dk.view;rw [laid_len];exact h.len,laid_mem _ _ h.las fun p hp=>(h.cac p hp).2⟩
theorem Dk.Ok.write (h:K.Ok n) {a:Nat}{b:Sec}(ha:a<n) (hb:b.length=256∧∀x∈b,x<256):(K.write a b).Ok n:=by
 have ht:=h.tick
 unfold Dk.write
 split
 ·exact⟨ht.len,ht.las,fun p hp=>by
   rcases List.mem_append.1 hp with hp | hp
   ·exact h.cac p hp
   ·obtain rfl:=List.mem_singleton.1 hp
    exact⟨ha,hb⟩,ht.trip⟩
 ·exact ht
theorem Dk.Ok.flush (h:K.Ok n):K.flush.Ok n:=by
 have ht:=h.tick
 unfold Dk.flush
 split
 ·exact⟨h.view.1,h.view.2,fun p hp=>(by cases hp),ht.trip⟩
 ·exact ht
theorem Dk.Ok.cut (h:K.Ok n) (keep:Nat→Bool):(K.cut keep).Ok n :=
 ⟨by show (laid _ _).length=n;rw [laid_len];exact h.len,laid_mem _ _ h.las fun p hp=>(h.cac p (kept_mem hp)).2,fun p hp=>(by cases hp),(by decide:(-1:Int)≤ -1∧(-1:Int)<9223372036854775808)⟩
theorem Dk.Ok.set (h:K.Ok n) (m:Int) (hm:m<9223372036854775808):(K.set m).Ok n:=by
 unfold Dk.set
 split
 ·exact h
 ·split
  ·exact h
  ·exact⟨h.len,h.las,h.cac,(by omega:-1≤m∧m<9223372036854775808)⟩
theorem write_las (a:Nat) (b:Sec):(K.write a b).las=K.las:=by
 unfold Dk.write
 split
 ·exact tick_las K
 ·exact tick_las K
theorem write_dark (a:Nat) (b:Sec):(K.write a b).dark=!K.ok:=by
 unfold Dk.write
 split
 ·exact tick_dark K
 ·exact tick_dark K
theorem flush_dark:K.flush.dark=!K.ok:=by
 unfold Dk.flush
 split
 ·exact tick_dark K
 ·exact tick_dark K
theorem write_view (a:Nat) (b:Sec):(K.write a b).view=if K.ok then K.view.set a b else K.view:=by
 unfold Dk.write
 split
 ·show laid K.tick.las (K.cac++[(a,b)])=_
  rw [laid_snoc,tick_las]
  rfl
 ·exact tick_view K
theorem flush_view:K.flush.view=K.view:=by
 unfold Dk.flush
 split
 ·rfl
 ·exact tick_view K
end
def Dk.calm (K:Dk):Prop:=K.dark=false∧K.trip = -1
theorem Dk.calm.ok {K:Dk}(h:K.calm):K.ok=true:=by unfold Dk.ok;rw [h.1,h.2];decide
theorem Dk.calm.tick {K:Dk}(h:K.calm):K.tick=K:=by
 unfold Dk.tick
 rw [h.1,h.2]
 simp
def Dk.writes (K:Dk):List (Nat×Sec)→Bool×Dk
 | []=>(true,K)
 | p :: l=>if K.ok then (K.write p.1 p.2).writes l else (false,K.write p.1 p.2)
def piece (d:List Nat) (i:Nat):Sec:=(d.drop (i * 256)).take 256++List.replicate (256-((d.drop (i * 256)).take 256).length) 0
def pieces (secs:List Nat) (d:List Nat):List (Nat×Sec):=secs.zipIdx.map fun p=>(p.1,piece d p.2)
theorem piece_len (d:List Nat) (i:Nat):(piece d i).length=256:=by
 unfold piece
 rw [List.length_append,List.length_replicate,List.length_take]
 omega
theorem piece_byte {d:List Nat}(h:∀x∈d,x<256) (i:Nat):∀x∈piece d i,x<256:=by
 intro x hx
 unfold piece at hx
 rcases List.mem_append.1 hx with hx | hx
 ·exact h x (List.mem_of_mem_drop (List.mem_of_mem_take hx))
 ·have:=(List.mem_replicate.1 hx).2
  omega
end Go.Ext
namespace Go.Ext
open Go.Ix
def octets (s:Txt):List Nat:=s.map UInt8.toNat
def runB (r:Nat×Nat):List Nat:=low 2 r.1++low 2 r.2
def runsB (l:List Nat):List Nat:=low 2 (runsOf l).length++(runsOf l).flatMap runB
def kindB (f:Fi):Nat:=if f.log then 1 else 0
def fileB (s:Txt) (f:Fi):List Nat:=(s.length % 256) :: (octets s++kindB f :: (low 4 f.size++(low 4 f.sum.toNat++runsB f.secs)))
def entryB (l:Fs) (s:Txt):List Nat:=match look l s with
 | some f=>fileB s f
 | none=>[]
def dirB (l:Fs):List Nat:=low 2 l.length++(rise (keys l)).flatMap (entryB l)
def magicB:List Nat:=[66,71,88,49]
def headB (gen:Nat) (dir secs:List Nat):List Nat:=magicB++(low 8 gen++(low 4 dir.length++(low 4 (crc dir)++runsB secs)))
def bodyB (gen:Nat) (dir secs:List Nat):List Nat:=headB gen dir secs++List.replicate (252-(headB gen dir secs).length) 0
def slotB (gen:Nat) (dir secs:List Nat):List Nat:=bodyB gen dir secs++low 4 (crc (bodyB gen dir secs))
def tx (k:Nat) (b:List Nat):Option (List Nat×List Nat):=if k≤b.length then some (b.take k,b.drop k) else none
def num (k:Nat) (b:List Nat):Option (Nat×List Nat):=if k≤b.length then some (back (b.take k),b.drop k) else none
def mark:Nat→Nat→List Bool→Option (List Bool)
 | 0,_,T=>some T
 | k+1,a,T=>if T[a]?=some false then mark k (a+1) (T.set a true) else none
def rsLoop (want:Nat):Nat→List Nat→List Bool→List Nat→Option (List Nat×List Nat×List Bool)
 | 0,b,T,l=>some (l,b,T)
 | c+1,b,T,l=>(num 2 b).bind fun p=>(num 2 p.2).bind fun q =>
   if 1≤q.1∧2≤p.1∧p.1+q.1≤T.length∧l.length+q.1≤want then (mark q.1 p.1 T).bind fun T'=>rsLoop want c q.2 T' (l++List.range' p.1 q.1) else none
def rsecs (want:Nat) (b:List Nat) (T:List Bool):Option (List Nat×List Nat×List Bool) :=
 (num 2 b).bind fun p=>if p.1≤48 then (rsLoop want p.1 p.2 T []).bind fun r=>if r.1.length=want then some r else none else none
def toTxt (b:List Nat):Txt:=b.map UInt8.ofNat
def wantOf (kind size:Nat):Nat:=if kind=1 then size else need size
def pfile (isN:Txt→Bool) (last:Txt) (b:List Nat) (T:List Bool):Option ((Txt×Fi)×List Nat×List Bool) :=
 (num 1 b).bind fun p=>(tx p.1 p.2).bind fun s=>if isN (toTxt s.1)=true∧last<toTxt s.1 then
  (num 1 s.2).bind fun k=>(num 4 k.2).bind fun z=>(num 4 z.2).bind fun u =>
   if (k.1=1→1≤z.1∧z.1≤16384∧u.1=0)∧k.1≤1 then (rsecs (wantOf k.1 z.1) u.2 T).bind fun r=>some ((toTxt s.1,⟨decide (k.1=1),z.1,(u.1:Nat),r.1⟩),r.2) else none
 else none
def pfiles (isN:Txt→Bool):Nat→Txt→List Nat→List Bool→Fs→Option (Fs×List Nat)
 | 0,_,b,_,l=>some (l,b)
 | c+1,last,b,T,l=>(pfile isN last b T).bind fun p=>pfiles isN c p.1.1 p.2.1 p.2.2 (p.1 :: l)
def pdir (isN:Txt→Bool) (b:List Nat) (T:List Bool):Option Fs :=
 (num 2 b).bind fun p=>if p.1≤256 then (pfiles isN p.1 [] p.2 T []).bind fun r=>if r.2=[] then some r.1 else none else none
def zerosB (b:List Nat):Bool:=b.all (· == 0)
def content (L:List Sec) (secs:List Nat):List Nat:=secs.flatMap fun a=>L.getD a []
structure Got where
 gen:Nat
 secs:List Nat
 files:Fs
 dir:List Nat
def pslot (n:Nat) (b:Sec):Option (Nat×Nat×Nat×List Nat×List Bool) :=
 if back (b.drop 252)=crc (b.take 252) then
  (num 4 ((b.take 252).drop 4)).bind fun g0=>(num 4 g0.2).bind fun g1=>(num 4 g1.2).bind fun z=>(num 4 z.2).bind fun u =>
   (rsecs (need z.1) u.2 (List.replicate n false)).bind fun r=>if r.1≠[]∧zerosB r.2.1=true then some (g0.1+4294967296 * g1.1,z.1,u.1,r.1,r.2.2) else none
 else none
def good (isN:Txt→Bool) (n:Nat) (L:List Sec) (b:Sec):Option Got :=
 (pslot n b).bind fun s=>if zerosB ((content L s.2.2.2.1).drop s.2.1)=true∧crc ((content L s.2.2.2.1).take s.2.1)=s.2.2.1 then
  (pdir isN ((content L s.2.2.2.1).take s.2.1) s.2.2.2.2).bind fun F =>
   if dirB F=(content L s.2.2.2.1).take s.2.1∧slotB s.1 ((content L s.2.2.2.1).take s.2.1) s.2.2.2.1=b then some ⟨s.1,s.2.2.2.1,F,(content L s.2.2.2.1).take s.2.1⟩ else none
 else none
theorem num_app {k n:Nat}{b:List Nat}(h:n<256 ^ k):num k (low k n++b)=some (n,b):=by
 unfold num
 have hl:=low_len k n
 rw [if_pos (by rw [List.length_append];omega),List.take_left' hl,List.drop_left' hl,back_low,Nat.mod_eq_of_lt h]
theorem num_one {n:Nat}{b:List Nat}:num 1 (n :: b)=some (n,b):=by simp [num,back]
theorem tx_app {s b:List Nat}:tx s.length (s++b)=some (s,b):=by
 unfold tx
 rw [if_pos (by simp),List.take_left' rfl,List.drop_left' rfl]
theorem toTxt_octets (s:Txt):toTxt (octets s)=s:=by
 unfold toTxt octets
 rw [List.map_map]
 induction s with
 | nil=>rfl
 | cons x s ih=>rw [List.map_cons,ih];simp
def expand (l:List (Nat×Nat)):List Nat:=l.flatMap fun r=>List.range' r.1 r.2
theorem expand_append (l k:List (Nat×Nat)):expand (l++k)=expand l++expand k:=by simp [expand]
theorem expand_step (acc:List (Nat×Nat)) (s:Nat):expand (runStep acc s)=expand acc++[s]:=by
 unfold runStep
 split
 ·rename_i p hp
  split
  ·rename_i he
   have hne:acc≠[]:=fun e=>by rw [e] at hp;cases hp
   have hl:acc=acc.dropLast++[p]:=by
    have h1:=(List.dropLast_concat_getLast hne).symm
    rw [List.getLast?_eq_getLast hne] at hp
    cases hp
    exact h1
   rw [expand_append]
   conv=>rhs;rw [hl,expand_append]
   simp only [expand,List.flatMap_cons,List.flatMap_nil,List.append_nil,List.append_assoc]
   rw [List.range'_concat,Nat.one_mul,he]
  ·rw [expand_append];simp [expand]
 ·rw [expand_append];simp [expand]
theorem expand_fold (l:List Nat):∀acc,expand (l.foldl runStep acc)=expand acc++l:=by
 induction l with
 | nil=>intro acc;simp
 | cons s l ih=>intro acc;rw [List.foldl_cons,ih,expand_step,List.append_assoc];rfl
theorem expand_runs (l:List Nat):expand (runsOf l)=l:=by
 unfold runsOf
 rw [expand_fold]
 rfl
theorem step_pos {acc:List (Nat×Nat)}{s:Nat}(h:∀r∈acc,1≤r.2):∀r∈runStep acc s,1≤r.2:=by
 intro r hr
 unfold runStep at hr
 split at hr
 ·rename_i p hp
  split at hr
  ·rcases List.mem_append.1 hr with hr | hr
   ·exact h r (List.dropLast_subset _ hr)
   ·obtain rfl:=List.mem_singleton.1 hr
    show 1≤p.2+1
    omega
  ·rcases List.mem_append.1 hr with hr | hr
   ·exact h r hr
   ·obtain rfl:=List.mem_singleton.1 hr
    exact Nat.le_refl _
 ·rcases List.mem_append.1 hr with hr | hr
  ·exact h r hr
  ·obtain rfl:=List.mem_singleton.1 hr
   exact Nat.le_refl _
theorem runs_pos (l:List Nat):∀r∈runsOf l,1≤r.2:=by
 have:∀(l:List Nat) (acc:List (Nat×Nat)),(∀r∈acc,1≤r.2)→∀r∈l.foldl runStep acc,1≤r.2:=by
  intro l
  induction l with
  | nil=>intro acc h;exact h
  | cons s l ih=>intro acc h;exact ih _ (step_pos h)
 exact this l [] (fun r hr=>by cases hr)
def setAll (T:List Bool) (l:List Nat):List Bool:=l.foldl (fun T a=>T.set a true) T
theorem setAll_len (l:List Nat):∀T,(setAll T l).length=T.length:=by
 induction l with
 | nil=>intro T;rfl
 | cons a l ih=>intro T;show (setAll (T.set a true) l).length=_;rw [ih];simp
theorem setAll_append (T:List Bool) (l k:List Nat):setAll T (l++k)=setAll (setAll T l) k:=by unfold setAll;rw [List.foldl_append]
theorem setAll_other {b:Nat}:∀(l:List Nat) (T:List Bool),b∉l→(setAll T l)[b]?=T[b]?
 | [],_,_=>rfl
 | a :: l,T,h=>by
  show (setAll (T.set a true) l)[b]?=_
  rw [setAll_other l _ fun hb=>h (List.mem_cons_of_mem _ hb),List.getElem?_set_ne (fun e=>h (by rw [e];exact List.mem_cons_self))]
theorem mark_ok:∀(k a:Nat) (T:List Bool),(∀i,i<k→T[a+i]?=some false)→mark k a T=some (setAll T (List.range' a k))
 | 0,_,_,_=>rfl
 | k+1,a,T,h=>by
  have h0:=h 0 (by omega)
  rw [Nat.add_zero] at h0
  unfold mark
  rw [if_pos h0,mark_ok k (a+1) (T.set a true) fun i hi=>?_]
  ·rw [List.range'_succ];rfl
  ·rw [List.getElem?_set_ne (by omega)]
   have:=h (i+1) (by omega)
   rw [show a+1+i=a+(i+1) by omega]
   exact this
theorem rsLoop_ok {want:Nat}:∀(rs:List (Nat×Nat)) (b:List Nat) (T:List Bool) (l:List Nat),(∀r∈rs,1≤r.2∧r.1+r.2<65536)→(∀a∈expand rs,2≤a∧T[a]?=some false)→(expand rs).Nodup→l.length+(expand rs).length≤want →
  rsLoop want rs.length (rs.flatMap runB++b) T l=some (l++expand rs,b,setAll T (expand rs))
 | [],b,T,l,_,_,_,_=>by simp [rsLoop,expand,setAll]
 | r :: rs,b,T,l,h1,h2,h3,h4=>by
  have hr:=h1 r List.mem_cons_self
  have he:expand (r :: rs)=List.range' r.1 r.2++expand rs:=by simp [expand]
  rw [he] at h2 h3 h4
  have hin:∀i,i<r.2→r.1+i∈List.range' r.1 r.2:=fun i hi=>List.mem_range'_1.2 (by omega)
  have hm:=mark_ok r.2 r.1 T fun i hi=>(h2 _ (List.mem_append_left _ (hin i hi))).2
  have hlast:=(h2 _ (List.mem_append_left _ (hin (r.2-1) (by omega)))).2
  have hlt:=(List.getElem?_eq_some_iff.1 hlast).1
  have h20:=(h2 _ (List.mem_append_left _ (hin 0 (by omega)))).1
  rw [List.length_append,List.length_range'] at h4
  rw [List.nodup_append] at h3
  have ih:=rsLoop_ok (want:=want) rs b (setAll T (List.range' r.1 r.2)) (l++List.range' r.1 r.2) (fun q hq=>h1 q (List.mem_cons_of_mem _ hq)) (fun a ha=>⟨(h2 a (List.mem_append_right _ ha)).1,by
   rw [setAll_other _ _ fun hx=>h3.2.2 a hx a ha rfl]
   exact (h2 a (List.mem_append_right _ ha)).2⟩) h3.2.1 (by rw [List.length_append,List.length_range'];omega)
  rw [List.length_cons,List.flatMap_cons,List.append_assoc]
  unfold rsLoop
  unfold runB
  rw [List.append_assoc,num_app (by omega)]
  simp only [Option.bind_some]
  rw [num_app (by omega)]
  simp only [Option.bind_some]
  rw [if_pos ⟨hr.1,by omega,by omega,by omega⟩,hm]
  simp only [Option.bind_some]
  unfold runB at ih
  rw [ih,he,setAll_append,List.append_assoc]
theorem rsecs_ok {l b:List Nat}{T:List Bool}(h48:(runsOf l).length≤48) (hl:∀a∈l,2≤a∧T[a]?=some false) (hn:l.Nodup) (hT:T.length≤60000):rsecs l.length (runsB l++b) T=some (l,b,setAll T l):=by
 unfold rsecs runsB
 rw [List.append_assoc,num_app (by omega)]
 simp only [Option.bind_some]
 have he:=expand_runs l
 have h:=rsLoop_ok (want:=l.length) (runsOf l) b T [] (fun r hr=>⟨runs_pos l r hr,by
  have h1:=runs_pos l r hr
  have h2:r.1+(r.2-1)∈l:=by
   rw [← he]
   exact List.mem_flatMap.2 ⟨r,hr,List.mem_range'_1.2 (by omega)⟩
  have h3:=(List.getElem?_eq_some_iff.1 (hl _ h2).2).1
  omega⟩) (by rw [he];exact hl) (by rw [he];exact hn) (by rw [he];simp)
 rw [if_pos h48,h,he]
 simp
end Go.Ext
namespace Go.Ext
open Go.Ix Line
structure Fine (isN:Txt→Bool) (p:Txt×Fi):Prop where
 name:isN p.1=true
 len:p.1.length<256
 size:p.2.size<4294967296
 sum:0≤p.2.sum∧p.2.sum<4294967296
 log:p.2.log=true→1≤p.2.size∧p.2.size≤16384∧p.2.sum=0
 secs:p.2.secs.length=wantOf (kindB p.2) p.2.size
 runs:(runsOf p.2.secs).length≤48
 nodup:p.2.secs.Nodup
 two:∀a∈p.2.secs,2≤a
theorem kind_le (f:Fi):kindB f≤1:=by unfold kindB;split<;>omega
theorem kind_one {f:Fi}:kindB f=1↔f.log=true:=by unfold kindB;split<;>simp_all
theorem pfile_ok {isN:Txt→Bool}{p:Txt×Fi}{last:Txt}{b:List Nat}{T:List Bool}(h:Fine isN p) (hl:last<p.1) (ht:∀a∈p.2.secs,T[a]?=some false) (hT:T.length≤60000) :
  pfile isN last (fileB p.1 p.2++b) T=some (p,b,setAll T p.2.secs):=by
 obtain⟨s,f⟩:=p
 have h1:=h.len
 have h2:=h.size
 have h3:0≤f.sum∧f.sum<4294967296:=h.sum
 have h4:=kind_le f
 have hlen:s.length % 256=(octets s).length:=by unfold octets;rw [List.length_map];exact Nat.mod_eq_of_lt h1
 unfold pfile fileB
 simp only [List.cons_append,List.append_assoc]
 rw [num_one]
 simp only [Option.bind_some]
 rw [hlen,tx_app]
 simp only [Option.bind_some,toTxt_octets]
 rw [if_pos ⟨h.name,hl⟩,num_one]
 simp only [Option.bind_some]
 rw [num_app (by simpa using h2)]
 simp only [Option.bind_some]
 rw [num_app (by simp;omega)]
 simp only [Option.bind_some]
 have hlog:kindB f=1→1≤f.size∧f.size≤16384∧f.sum.toNat=0:=fun hk=>by
  obtain⟨a1,a2,a3⟩:=h.log (kind_one.1 hk)
  refine⟨a1,a2,?_⟩
  have a4:f.sum=0:=a3
  rw [a4]
  rfl
 rw [if_pos ⟨hlog,h4⟩]
 ·have hs:=h.secs
  simp only at hs
  rw [← hs,rsecs_ok h.runs (fun a ha=>⟨h.two a ha,ht a ha⟩) h.nodup hT]
  simp only [Option.bind_some,Option.some.injEq,Prod.mk.injEq,and_true,true_and]
  obtain⟨lg,z,u,secs⟩:=f
  simp only [Fi.mk.injEq,true_and,and_true]
  refine⟨?_,?_⟩
  ·cases lg<;>simp [kindB]
  ·have h9:0≤u:=h3.1
   omega
theorem pfiles_ok {isN:Txt→Bool}:∀(es:Fs) (last:Txt) (b:List Nat) (T:List Bool) (acc:Fs),(∀p∈es,Fine isN p∧last<p.1)→(es.map (·.1)).Pairwise (· < ·)→(es.flatMap (·.2.secs)).Nodup→(∀p∈es,∀a∈p.2.secs,T[a]?=some false)→T.length≤60000 →
  pfiles isN es.length last (es.flatMap (fun p=>fileB p.1 p.2)++b) T acc=some (es.reverse++acc,b)
 | [],_,_,_,_,_,_,_,_,_=>rfl
 | p :: es,last,b,T,acc,h1,h2,h3,h4,hT=>by
  have hp:=h1 p List.mem_cons_self
  rw [List.flatMap_cons,List.nodup_append] at h3
  rw [List.map_cons,List.pairwise_cons] at h2
  have ih:=pfiles_ok es p.1 b (setAll T p.2.secs) (p :: acc) (fun q hq=>⟨(h1 q (List.mem_cons_of_mem _ hq)).1,h2.1 _ (List.mem_map.2 ⟨q,hq,rfl⟩)⟩) h2.2 h3.2.1 (fun q hq a ha=>by
   rw [setAll_other _ _ fun hx=>h3.2.2 a hx a (List.mem_flatMap.2 ⟨q,hq,ha⟩) rfl]
   exact h4 q (List.mem_cons_of_mem _ hq) a ha) (by rw [setAll_len];exact hT)
  rw [List.length_cons,List.flatMap_cons,List.append_assoc]
  unfold pfiles
  rw [pfile_ok hp.1 hp.2 (h4 p List.mem_cons_self) hT]
  simp only [Option.bind_some]
  rw [ih]
  simp
def sorted (l:Fs):Fs:=(rise (keys l)).filterMap fun s=>(look l s).map fun f=>(s,f)
theorem entries_sorted (l:Fs):(rise (keys l)).flatMap (entryB l)=(sorted l).flatMap fun p=>fileB p.1 p.2:=by
 unfold sorted
 induction rise (keys l) with
 | nil=>rfl
 | cons s ks ih =>
  rw [List.flatMap_cons,ih]
  cases hs:look l s with
  | none=>simp [entryB,hs]
  | some f=>simp [entryB,hs]
theorem mem_sorted {l:Fs}{p:Txt×Fi}(hn:(keys l).Nodup):p∈sorted l↔p∈l:=by
 unfold sorted
 rw [List.mem_filterMap]
 constructor
 ·rintro⟨s,_,h⟩
  cases hs:look l s with
  | none=>rw [hs] at h;cases h
  | some f =>
   rw [hs] at h
   simp only [Option.map_some,Option.some.injEq] at h
   subst h
   exact look_mem hs
 ·intro h
  refine⟨p.1,mem_rise.2 (mem_keys (f:=p.2) h),?_⟩
  rw [mem_look (f:=p.2) hn h]
  rfl
theorem map_sorted {l:Fs}:(sorted l).map (·.1)=rise (keys l):=by
 unfold sorted
 have:∀ks:List Txt,(∀s∈ks,s∈keys l)→(ks.filterMap fun s=>(look l s).map fun f=>(s,f)).map (·.1)=ks:=by
  intro ks
  induction ks with
  | nil=>intro _;rfl
  | cons s ks ih =>
   intro h
   cases hs:look l s with
   | none=>exact absurd (h s List.mem_cons_self) (look_none.1 hs)
   | some f =>
    simp only [List.filterMap_cons,hs,Option.map_some,List.map_cons]
    rw [ih fun x hx=>h x (List.mem_cons_of_mem _ hx)]
 exact this _ fun s hs=>mem_rise.1 hs
theorem sorted_nodup (l:Fs):(keys (sorted l)).Nodup:=by
 show ((sorted l).map (·.1)).Nodup
 rw [map_sorted]
 exact rising_nodup (rise_rising _)
theorem sorted_perm {l:Fs}(hn:(keys l).Nodup):(sorted l).Perm l :=
 (List.perm_ext_iff_of_nodup (nodup_of_keys (sorted_nodup l)) (nodup_of_keys hn)).2 fun _=>mem_sorted hn
theorem look_perm {l k:Fs}(hn:(keys l).Nodup) (hp:l.Perm k) (s:Txt):look l s=look k s:=by
 have hk:(keys k).Nodup:=(hp.map _).nodup_iff.1 hn
 cases h:look l s with
 | none =>
  symm
  rw [look_none] at h ⊢
  exact fun hs=>h ((hp.map _).mem_iff.2 hs)
 | some f=>exact (mem_look hk (hp.mem_iff.1 (look_mem h))).symm
theorem rise_mem {a b:List Txt}(h:∀x,x∈a↔x∈b):rise a=rise b :=
 rising_eq (rise_rising a) (rise_rising b) fun x=>by rw [mem_rise,mem_rise];exact h x
theorem dirB_perm {l k:Fs}(hn:(keys l).Nodup) (hp:l.Perm k):dirB l=dirB k:=by
 unfold dirB
 rw [hp.length_eq,rise_mem (a:=keys l) (b:=keys k) fun x=>(hp.map _).mem_iff]
 congr 1
 congr 1
 funext s
 unfold entryB
 rw [look_perm hn hp]
theorem pdir_ok {isN:Txt→Bool}{l:Fs}{T:List Bool}(hn:(keys l).Nodup) (h:∀p∈l,Fine isN p∧p.1≠[]) (hs:(l.flatMap (·.2.secs)).Nodup) (ht:∀p∈l,∀a∈p.2.secs,T[a]?=some false) (hT:T.length≤60000) (h256:l.length≤256) :
  pdir isN (dirB l) T=some (sorted l).reverse:=by
 have hp:=sorted_perm hn
 have hr:((sorted l).map (·.1)).Pairwise (· < ·):=by
  rw [map_sorted]
  exact rise_rising _
 have:=pfiles_ok (isN:=isN) (sorted l) [] [] T [] (fun p hm=>⟨(h p ((mem_sorted hn).1 hm)).1,by
  have h0:=(h p ((mem_sorted hn).1 hm)).2
  cases hq:p.1 with
  | nil=>exact absurd hq h0
  | cons x y=>exact List.nil_lt_cons x y⟩) hr ((hp.flatMap_right _).nodup_iff.2 hs) (fun p hm=>ht p ((mem_sorted hn).1 hm)) hT
 unfold pdir dirB
 rw [num_app (by omega)]
 simp only [Option.bind_some]
 rw [if_pos h256,entries_sorted,← hp.length_eq]
 rw [List.append_nil,List.append_nil] at this
 rw [this]
 rfl
theorem headB_len {gen:Nat}{dir secs:List Nat}(h:(runsOf secs).length≤48):(headB gen dir secs).length≤252:=by
 unfold headB runsB magicB
 have:((runsOf secs).flatMap runB).length=(runsOf secs).length * 4:=by
  induction runsOf secs with
  | nil=>rfl
  | cons r rs ih=>rw [List.flatMap_cons,List.length_append,ih,List.length_cons];simp [runB,low_len];omega
 simp only [List.length_append,low_len,this,List.length_cons,List.length_nil]
 omega
theorem bodyB_len {gen:Nat}{dir secs:List Nat}(h:(runsOf secs).length≤48):(bodyB gen dir secs).length=252:=by
 have:=headB_len (gen:=gen) (dir:=dir) h
 unfold bodyB
 rw [List.length_append,List.length_replicate]
 omega
theorem slotB_len {gen:Nat}{dir secs:List Nat}(h:(runsOf secs).length≤48):(slotB gen dir secs).length=256:=by
 unfold slotB
 rw [List.length_append,bodyB_len h,low_len]
theorem crc_small {l:List Nat}(h:∀x∈l,x<256):crc l<4294967296:=by
 unfold crc
 have h1:=feed_lt (d:=4294967295) l (by decide) h
 exact Nat.xor_lt_two_pow (n:=32) (by decide) h1
theorem runB_byte (r:Nat×Nat):∀x∈runB r,x<256:=by
 intro x hx
 unfold runB at hx
 rcases List.mem_append.1 hx with hx | hx<;>exact low_lt _ _ _ hx
theorem runsB_byte (l:List Nat):∀x∈runsB l,x<256:=by
 intro x hx
 unfold runsB at hx
 rcases List.mem_append.1 hx with hx | hx
 ·exact low_lt _ _ _ hx
 ·obtain⟨r,_,hx⟩:=List.mem_flatMap.1 hx
  exact runB_byte r x hx
theorem bodyB_byte (gen:Nat) (dir secs:List Nat):∀x∈bodyB gen dir secs,x<256:=by
 intro x hx
 unfold bodyB headB at hx
 simp only [List.mem_append] at hx
 rcases hx with (hx | hx | hx | hx | hx) | hx
 ·unfold magicB at hx
  have:∀y∈[66,71,88,49],y<256:=by decide
  exact this x hx
 ·exact low_lt _ _ _ hx
 ·exact low_lt _ _ _ hx
 ·exact low_lt _ _ _ hx
 ·exact runsB_byte _ x hx
 ·have:=(List.mem_replicate.1 hx).2
  omega
theorem slotB_byte (gen:Nat) (dir secs:List Nat):∀x∈slotB gen dir secs,x<256:=by
 intro x hx
 unfold slotB at hx
 rcases List.mem_append.1 hx with hx | hx
 ·exact bodyB_byte _ _ _ x hx
 ·exact low_lt _ _ _ hx
theorem zeros_rep (k:Nat):zerosB (List.replicate k 0)=true:=by
 unfold zerosB
 rw [List.all_eq_true]
 intro x hx
 rw [(List.mem_replicate.1 hx).2]
 rfl
theorem low_split (n:Nat):low 8 n=low 4 (n % 4294967296)++low 4 (n / 4294967296):=by
 simp only [low,List.cons_append,List.nil_append,List.cons.injEq,and_true]
 omega
theorem pslot_ok {n gen:Nat}{dir secs:List Nat}(hg:gen<18446744073709551616) (hd:dir.length<4294967296) (hd8:∀x∈dir,x<256) (h48:(runsOf secs).length≤48) (hs:∀a∈secs,2≤a∧a<n) (hn:secs.Nodup) (hl:secs.length=need dir.length) (hne:secs≠[]) (hn6:n≤60000) :
  pslot n (slotB gen dir secs)=some (gen,dir.length,crc dir,secs,setAll (List.replicate n false) secs):=by
 have hb:=bodyB_len (gen:=gen) (dir:=dir) h48
 have hc:=crc_small (bodyB_byte gen dir secs)
 unfold pslot slotB
 rw [List.drop_left' hb,List.take_left' hb,back_low,Nat.mod_eq_of_lt (by simpa using hc),if_pos rfl]
 have hbody:(bodyB gen dir secs).drop 4=low 4 (gen % 4294967296)++(low 4 (gen / 4294967296)++(low 4 dir.length++(low 4 (crc dir)++(runsB secs++List.replicate (252-(headB gen dir secs).length) 0)))):=by
  unfold bodyB
  generalize 252-(headB gen dir secs).length=z
  unfold headB
  rw [List.append_assoc,List.drop_left' (show magicB.length=4 from rfl),low_split]
  simp only [List.append_assoc]
 rw [hbody,num_app (by omega)]
 simp only [Option.bind_some]
 rw [num_app (by omega)]
 simp only [Option.bind_some]
 rw [num_app (by simpa using hd)]
 simp only [Option.bind_some]
 rw [num_app (by simpa using crc_small hd8)]
 simp only [Option.bind_some]
 rw [← hl,rsecs_ok h48 (fun a ha=>⟨(hs a ha).1,by rw [List.getElem?_replicate,if_pos (hs a ha).2]⟩) hn (by simpa using hn6)]
 simp only [Option.bind_some]
 rw [if_pos ⟨hne,zeros_rep _⟩]
 congr 2
 omega
theorem good_ok {isN:Txt→Bool}{n gen:Nat}{L:List Sec}{l:Fs}{secs:List Nat}(hg:gen<18446744073709551616) (hn6:n≤60000) (h48:(runsOf secs).length≤48) (hs:∀a∈secs,2≤a∧a<n) (hnd:secs.Nodup) (hl:secs.length=need (dirB l).length) (hd:(dirB l).length<4294967296) (hd8:∀x∈dirB l,x<256)
  (hc:content L secs=dirB l++List.replicate (secs.length * 256-(dirB l).length) 0)
  (hn:(keys l).Nodup) (h:∀p∈l,Fine isN p∧p.1≠[]) (hfs:(l.flatMap (·.2.secs)).Nodup) (hap:∀p∈l,∀a∈p.2.secs,a<n∧a∉secs) (h256:l.length≤256) :
  good isN n L (slotB gen (dirB l) secs)=some ⟨gen,secs,(sorted l).reverse,dirB l⟩:=by
 have hne:secs≠[]:=fun e=>by
  have h2:2≤(dirB l).length:=by
   unfold dirB
   rw [List.length_append,low_len]
   omega
  rw [e] at hl
  simp [need] at hl
  omega
 unfold good
 rw [pslot_ok hg hd hd8 h48 hs hnd hl hne hn6]
 simp only [Option.bind_some]
 rw [hc,List.drop_left' rfl,List.take_left' rfl,if_pos ⟨zeros_rep _,rfl⟩,pdir_ok hn h hfs (fun p hp a ha=>by
  rw [setAll_other _ _ (hap p hp a ha).2,List.getElem?_replicate,if_pos (hap p hp a ha).1]) (by rw [setAll_len];simpa using hn6) h256]
 simp only [Option.bind_some]
 have hr:dirB (sorted l).reverse=dirB l:=dirB_perm (by
  show ((sorted l).reverse.map (·.1)).Nodup
  rw [List.map_reverse]
  exact (List.reverse_perm _).nodup_iff.2 (sorted_nodup l)) ((List.reverse_perm _).trans (sorted_perm hn))
 rw [if_pos ⟨hr,trivial⟩]
def genOf (b:Sec):Nat:=back ((b.drop 4).take 4)+4294967296 * back ((b.drop 8).take 4)
end Go.Ext
namespace Go.Proofs.YtndjmffnlcilbaaGreatDoor
open Go Go.RowKit Go.Ix Go.Ext
def ByteRow (w:World) (B:Nat) (v:Value) (m:Nat):Prop:=∃bs,Row8 w B v bs∧(∀x∈bs,x<256)∧bs.length=m
theorem ByteRow.keep {w W:World}{B B' m:Nat}{T M:List Nat}{v:Value}(h:ByteRow w B v m) (hf:Fr B' T M w W) (ht:5∉T) (hm:∀g,v.ownBlock=some g→g∉M):ByteRow W B v m:=by
 obtain⟨bs,h1,h2,h3⟩:=h
 exact⟨bs,hf.keepRow h1 ht hm,h2,h3⟩
theorem ByteRow.olds {w W:World}{B m:Nat}{v:Value}(h:ByteRow w B v m) (hb:Olds w W):ByteRow W B v m:=by
 obtain⟨bs,h1,h2,h3⟩:=h
 exact⟨bs,ownsRow_olds h1 hb,h2,h3⟩
theorem ByteRow.nil (w:World) (B:Nat):ByteRow w B (.slice none 0 0) 0:=⟨[],World.ownsRow_nil _ _ _ _,(fun _ h=>by cases h),rfl⟩
theorem ByteRow.shape {w:World}{B m:Nat}{v:Value}(h:ByteRow w B v m):∃o c,v=.slice o m c:=by
 obtain⟨bs,h1,_,h3⟩:=h
 obtain⟨o,c,e,_⟩:=ownsRow_shape h1
 exact⟨o,c,h3 ▸ e⟩
set_option maxHeartbeats 400000 in
theorem need_any (n:Nat) (hn:n≤1000000000) (w:World):Calls Tryz.prog 40 #[.int .i64 n] w fun e w'=>e=.returned (.int .i64 (need n:Nat))∧w'=w:=by
 go_enter Tryz.func40,Tryz.ntmps40
 go_wp2_with fail
 go_ret
 refine⟨ret_int ?_,rfl⟩
 unfold need
 omega
def RowB (w:World) (B:Nat) (v:Value) (bs:List Nat) (m:Nat):Prop:=Row8 w B v bs∧(∀x∈bs,x<256)∧bs.length=m
theorem RowB.any {w:World}{B m:Nat}{v:Value}{bs:List Nat}(h:RowB w B v bs m):ByteRow w B v m:=⟨bs,h⟩
theorem RowB.keep {w W:World}{B B' m:Nat}{T M:List Nat}{v:Value}{bs:List Nat}(h:RowB w B v bs m) (hf:Fr B' T M w W) (ht:5∉T) (hm:∀g,v.ownBlock=some g→g∉M):RowB W B v bs m:=⟨hf.keepRow h.1 ht hm,h.2⟩
theorem RowB.olds {w W:World}{B m:Nat}{v:Value}{bs:List Nat}(h:RowB w B v bs m) (hb:Olds w W):RowB W B v bs m:=⟨ownsRow_olds h.1 hb,h.2⟩
theorem RowB.nil (w:World) (B:Nat):RowB w B (.slice none 0 0) [] 0:=⟨World.ownsRow_nil _ _ _ _,(fun _ h=>by cases h),rfl⟩
theorem RowB.shape {w:World}{B m:Nat}{v:Value}{bs:List Nat}(h:RowB w B v bs m):∃o c,v=.slice o m c:=h.any.shape
theorem low_snoc:∀(k n:Nat),low (k+1) n=low k n++[n / 256 ^ k % 256]
 | 0,n=>by simp [low]
 | k+1,n=>by
  rw [low,low_snoc k (n / 256),low,List.cons_append,Nat.div_div_eq_div_mul,Nat.pow_succ',Nat.mul_comm]
set_option maxRecDepth 20000 in
set_option maxHeartbeats 1000000 in
theorem low_any {w:World}{B m:Nat}{v:Value}(n many:Nat) {ds:List Nat}(h:RowB w B v ds m) (hB:B≤w.heap.size) (hn:n<18446744073709551616) (hm:many≤8) (hl:m≤100000000000) :
  Calls Tryz.prog 54 #[v,.int .u64 n,.int .i64 many] w fun e w'=>∃v',e=.returned v'∧RowB w' B v' (ds++low many n) (m+many)∧Fr B [5] [] w w':=by
 obtain⟨i0,hi0,hz0,hz1,hz2⟩:=info_parts Tryz.info5
 have H:=Lib.hid h
 obtain⟨o,c,rfl⟩:=h.shape
 clear h
 go_enter Tryz.func54,Tryz.ntmps54
 go_wp2_with fail
 go_loopw [0,1,8] (fun sv nv iv wr=>∃(k q:Nat),k≤many∧iv=.int .i64 k∧nv=.int .u64 q∧q=n / 256 ^ k∧q<18446744073709551616∧RowB wr B sv (ds++low k n) (m+k)∧Fr B [5] [] w wr) (fun _ _ iv _=>many-(intOf iv).toNat)
 case atStart=>exact⟨0,n,Nat.zero_le _,rfl,rfl,by simp,hn,by rw [show ds++low 0 n=ds by simp [low]];exact H.out,Fr.refl _ _ _ _⟩
 case round =>
  obtain⟨k,q,hk,rfl,rfl,hqn,hq,hrow,hfr⟩:=hrel
  have Hqn:=Lib.hid hqn
  clear hqn
  have Hrow8:=Lib.hid hrow
  have Hfr:=Lib.hid hfr
  have hsz:=hfr.size
  obtain⟨bs,hbs⟩:∃bs,bs=ds++low k n:=⟨_,rfl⟩
  rw [← hbs] at hrow
  have Hbs:=Lib.hid hbs
  clear hbs
  obtain⟨hr,h8,hlen⟩:=hrow
  unfold Row8 at hr
  obtain⟨o,c,rfl,_⟩:=ownsRow_shape hr
  have Hrow:=Lib.hid hr
  have H8:=Lib.hid h8
  clear hfr hr h8
  generalize hN:bs.length=N at *
  have HN:=Lib.hid hN
  clear hN
  subst hlen
  by_cases hlt:k<many
  ·go_wp2_with (at_builtin;refine wpList_append_lies _ rfl _ _ _ rfl B 5 i0 _ 1 1 Tryz.underlying34 hi0 hz0 hz1 hz2 rfl Nat.one_pos (.slice o (m+k) c) (m+k) (octs bs) rfl (ownsRow_olds Hrow.out (Olds.alloc _ _)) ⟨wr.heap.size,0,none⟩ 1 1 [.int .u8 ((q:Int) % 256)] rfl rfl (World.news_of_block (cs:=#[.int .u8 ((q:Int) % 256)]) (t:=5) (fr:=(0,0)) (heap_alloc_new wr _)) (by simp [Value.oneCell']) Nat.one_pos (by unfold maxLen;omega) (by omega) (by simp;omega) (wr.heap.size+1) (by simp) ?_;intro gg cap2 w4 hown4 hgrow hat hlt4)
   have Hnew:Hid (RowB w4 B (.slice (some ⟨gg,0,none⟩) (m+k+1) cap2) (ds++low (k+1) n) (m+(k+1))):=Lib.hid (by
    rw [low_snoc,← List.append_assoc,← Hbs.out,← Hqn.out]
    exact⟨by
    unfold Row8
    rw [octs_append,List.length_append,HN.out]
    exact hown4,fun x hx=>by
    rw [List.mem_append] at hx
    rcases hx with hx | hx
    ·exact H8.out x hx
    ·have:x=q % 256:=by simpa using hx
     omega,by rw [List.length_append,HN.out];rfl⟩)
   have Hk4:Hid (Fr B [5] [] w w4):=Lib.hid ((Hfr.out.alloc (by omega) _).row (by simp;omega) (ownsRow_olds Hrow.out (Olds.alloc _ _)) (by simp) hgrow)
   go_roundw
   case rel=>exact⟨k+1,q / 256,by omega,by go_num,by congr 1,by rw [Hqn.out,Nat.div_div_eq_div_mul,Nat.pow_succ],by omega,Hnew.out,Hk4.out⟩
   case measure=>simp [intOf];omega
  ·go_wp2_with fail
   go_ret
   obtain rfl:k=many:=by omega
   exact⟨_,rfl,Hrow8.out,Hfr.out⟩
end Go.Proofs.YtndjmffnlcilbaaGreatDoor
