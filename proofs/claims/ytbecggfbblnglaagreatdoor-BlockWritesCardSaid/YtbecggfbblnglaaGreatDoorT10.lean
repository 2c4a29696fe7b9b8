/- Contracts over this program. Their conditions: the slices read as the lists that are named, and lie within the sizes that are named. -/
import Derived.Test.YtbecggfbblnglaaGreatDoorP0
import Derived.Deep.AppendLies
import Derived.OwnWalk
import Derived.Maps.AppendAt
import Derived.Maps.OwnSet
import Derived.Maps.OwnOps
import Derived.StringKeys
import Derived.Sort.Walk0
set_option linter.unusedSimpArgs false
set_option linter.unusedVariables false
set_option linter.deprecated false
set_option linter.unnecessarySimpa false
namespace Go.Proofs.YtbecggfbblnglaaGreatDoor
open Go Go.RowKit Go.Ix
structure Kept (K:Nat→Prop) (w w':World):Prop where
 os:w'.os=w.os
 tape:w'.tape=w.tape
 output:w'.output=w.output
 size:w.heap.size≤w'.heap.size
 block:∀k,K k→w'.heap[k]?=w.heap[k]?
variable {K K':Nat→Prop}{a w w' W:World}
theorem Kept.refl (K:Nat→Prop) (w:World):Kept K w w:=⟨rfl,rfl,rfl,Nat.le_refl _,fun _ _=>rfl⟩
theorem Kept.trans {b c:World}(h:Kept K a b) (k:Kept K b c):Kept K a c :=
 ⟨k.os.trans h.os,k.tape.trans h.tape,k.output.trans h.output,Nat.le_trans h.size k.size,fun i hi=>(k.block i hi).trans (h.block i hi)⟩
theorem Kept.mono (h:Kept K w w') (hK:∀k,K' k→K k):Kept K' w w':=⟨h.os,h.tape,h.output,h.size,fun k hk=>h.block k (hK k hk)⟩
theorem Kept.below (h:Kept K w w') {B:Nat}(hK:∀k,k<B→K k):Below B w w':=⟨h.os,h.tape,h.output,h.size,fun k hk=>h.block k (hK k hk)⟩
theorem Kept.of_below {B:Nat}(h:Below B w w') (hK:∀k,K k→k<B):Kept K w w':=⟨h.os,h.tape,h.output,h.size,fun k hk=>h.block k (hK k hk)⟩
theorem Kept.alloc (h:Kept K a w) (hK:∀k,K k→k<a.heap.size) (o:Obj):Kept K a (w.alloc o) :=
 h.trans ⟨rfl,rfl,rfl,by simp,fun k hk=>Below.heap_alloc _ _ _ (Nat.lt_of_lt_of_le (hK k hk) h.size)⟩
theorem Kept.drewN (h:Kept K a w) (q:Nat):Kept K a (w.drewN q):=h.trans ⟨rfl,rfl,rfl,Nat.le_refl _,fun _ _=>rfl⟩
theorem Kept.setCell (h:Kept K a w) {p:Addr}(hp:¬ K p.block) (u:Value):Kept K a (w.setCell p u) :=
 h.trans ⟨rfl,rfl,rfl,by simp [World.setCell],fun k hk=>Below.heap_setCell _ _ _ _ (fun e=>hp (e ▸ hk))⟩
theorem Kept.grown (h:Kept K a w) {row:Option Nat}(hg:w.grownBy w' row) (hK:∀k,K k→k<a.heap.size) (hr:∀k,row=some k→¬ K k):Kept K a w' :=
 h.trans ⟨hg.os,hg.tape,hg.output,hg.size,fun k hk=>hg.block k (Nat.lt_of_lt_of_le (hK k hk) h.size) (fun e=>hr k e.symm hk)⟩
theorem Kept.cell (h:Kept K w w') {p:Addr}(hp:K p.block):w'.cell? p=w.cell? p:=World.cell?_of_block (w:=w) (h.block p.block hp)
def Olds (w W:World):Prop:=w.heap.size≤W.heap.size∧∀k,k<w.heap.size→W.heap[k]?=w.heap[k]?
theorem Olds.refl (w:World):Olds w w:=⟨Nat.le_refl _,fun _ _=>rfl⟩
theorem Olds.of_below (h:Below w.heap.size w W):Olds w W:=⟨h.size,h.block⟩
theorem Olds.trans {a b c:World}(h:Olds a b) (k:Olds b c):Olds a c:=⟨Nat.le_trans h.1 k.1,fun i hi=>(k.2 i (Nat.lt_of_lt_of_le hi h.1)).trans (h.2 i hi)⟩
theorem Olds.alloc (w:World) (o:Obj):Olds w (w.alloc o):=Olds.of_below ((Below.refl _ _).alloc (Nat.le_refl _) _)
theorem Olds.drewN (w:World) (q:Nat):Olds w (w.drewN q):=⟨Nat.le_refl _,fun _ _=>rfl⟩
theorem Olds.cell (h:Olds w W) {a:Addr}{v:Value}(hc:w.cell? a=some v):W.cell? a=some v:=by
 rw [World.cell?_of_block (w:=w) (w':=W) (h.2 _ (cell_lt hc))]
 exact hc
theorem CellsAt.olds {b off:Nat}{vs:List Value}(h:CellsAt w b off vs) (hb:Olds w W):CellsAt W b off vs:=fun j v hv=>hb.cell (h j v hv)
theorem FlatAt.olds {v:Value}{n:Nat}{vs:List Value}(h:FlatAt w v n vs) (hb:Olds w W):FlatAt W v n vs:=by
 obtain⟨o,c,h1,h2,h3⟩:=h
 exact⟨o,c,h1,h2,fun hne=>by obtain⟨b,off,e,hc⟩:=h3 hne;exact⟨b,off,e,hc.olds hb⟩⟩
theorem EntAt.olds {u:Value×Value}{e:Ent}(h:EntAt w u e) (hb:Olds w W):EntAt W u e:=⟨FlatAt.olds h.1 hb,FlatAt.olds h.2 hb⟩
theorem EntsAt.olds {v:Value}{l:List Ent}(h:EntsAt w v l) (hb:Olds w W):EntsAt W v l:=by
 obtain⟨vs,h1,h2,h3⟩:=h
 exact⟨vs,h1,h2.olds hb,fun i u e hu he=>(h3 i u e hu he).olds hb⟩
theorem ownsRow_blocks {B e k:Nat}{v:Value}{n:Nat}{xs:List Value}(h:w.ownsRow B e k v n xs) (hb:∀g,v.ownBlock=some g→W.heap[g]?=w.heap[g]?):W.ownsRow B e k v n xs:=by
 obtain⟨h1,h2⟩:=h
 refine⟨h1,?_⟩
 rcases h2 with h2|⟨g,cap,cur,rfl,hb',hg,h3⟩
 ·exact .inl h2
 ·exact .inr ⟨g,cap,cur,rfl,hb',by rw [hb g rfl];exact hg,h3⟩
theorem ownsRow_block {B e k:Nat}{v:Value}{n:Nat}{xs:List Value}(h:w.ownsRow B e k v n xs) {g:Nat}(hg:v.ownBlock=some g):B≤g∧g<w.heap.size:=by
 rcases h.2 with ⟨rfl,_⟩|⟨g',cap,cur,rfl,hb,hh,_⟩
 ·cases hg
 ·cases hg
  refine⟨hb,?_⟩
  rcases Nat.lt_or_ge g' w.heap.size with h | h
  ·exact h
  ·rw [Array.getElem?_eq_none h] at hh;cases hh
theorem ownsRow_olds {B e k:Nat}{v:Value}{n:Nat}{xs:List Value}(h:w.ownsRow B e k v n xs) (hb:Olds w W):W.ownsRow B e k v n xs :=
 ownsRow_blocks h fun _ hg=>hb.2 _ (ownsRow_block h hg).2
theorem ownsRow_kept {B e k:Nat}{v:Value}{n:Nat}{xs:List Value}(h:w.ownsRow B e k v n xs) (hb:Kept K w W) (hv:∀g,v.ownBlock=some g→K g):W.ownsRow B e k v n xs :=
 ownsRow_blocks h fun g hg=>hb.block g (hv g hg)
theorem ownsRow_mono {B B' e k:Nat}{v:Value}{n:Nat}{xs:List Value}(h:w.ownsRow B e k v n xs) (hB:B'≤B):w.ownsRow B' e k v n xs:=by
 obtain⟨h1,h2⟩:=h
 refine⟨h1,?_⟩
 rcases h2 with h2|⟨g,cap,cur,e,hb',hg⟩
 ·exact .inl h2
 ·exact .inr ⟨g,cap,cur,e,by omega,hg⟩
theorem ownsRow_shape {B e k:Nat}{v:Value}{n:Nat}{xs:List Value}(h:w.ownsRow B e k v n xs):∃o c,v=.slice o n c∧(o=none→n=0∧c=0):=by
 rcases h.2 with ⟨e,h0⟩|⟨g,cap,cur,e,_⟩
 ·exact⟨none,0,by rw [e,h0],fun _=>⟨h0,rfl⟩⟩
 ·exact⟨_,_,e,fun e=>by cases e⟩
theorem ownsRow_cell {B e k g n c:Nat}{xs:List Value}(h:w.ownsRow B e k (.slice (some ⟨g,0,none⟩) n c) n xs):CellsAt w g 0 xs:=by
 intro j v hv
 rcases h.2 with ⟨e,_⟩|⟨g',cap,cur,e,_,hh,_,_,hs,ht⟩
 ·cases e
 ·simp only [Value.slice.injEq,Option.some.injEq,Addr.mk.injEq,and_true,true_and] at e
  obtain⟨rfl,rfl⟩:=e
  rw [← ht] at hv
  have hj:j<n * k:=by
   have:=(List.getElem?_eq_some_iff.1 hv).1
   rw [List.length_take] at this
   omega
  rw [List.getElem?_take_of_lt hj] at hv
  rw [Nat.zero_add]
  simp only [World.cell?,hh]
  simpa using hv
def octs (bs:List Nat):List Value:=bs.map fun (n:Nat)=>Value.int .u8 (n:Int)
theorem octs_append (a b:List Nat):octs (a++b)=octs a++octs b:=by simp [octs]
theorem octs_len (a:List Nat):(octs a).length=a.length:=by simp [octs]
def Row8 (w:World) (B:Nat) (v:Value) (bs:List Nat):Prop:=w.ownsRow B 5 1 v bs.length (octs bs)
def Free (K:Nat→Prop) (v:Value):Prop:=∀g,v.ownBlock=some g→¬ K g
theorem Tryz.info5:(Tryz.prog.info? 5).map (fun i=>(i.zero,i.size,i.bytes))=some (some (.int .u8 0),1,1):=by kernel_rfl
theorem cell_of_heap {w:World}{b i:Nat}{cs:Array Value}{ty:TypeId}{fr:Nat×Nat}(h:w.heap[b]?=some (.cells cs ty fr)):w.cell? ⟨b,i,none⟩=cs[i]?:=by simp [World.cell?,h]
end Go.Proofs.YtbecggfbblnglaaGreatDoor
namespace Go.Proofs.YtbecggfbblnglaaGreatDoor
open Go Go.RowKit Go.Ix
theorem low_step (k n:Nat):low (k+1) n=n % 256 :: low k (n / 256):=rfl
set_option maxRecDepth 20000 in
set_option maxHeartbeats 1000000 in
theorem put_any {w:World}{B:Nat}{K:Nat→Prop}{v:Value}{bs:List Nat}(n many:Nat) (h:Row8 w B v bs) (hfr:Free K v) (hK:∀k,K k→k<w.heap.size) (hB:B≤w.heap.size) (hn:n<18446744073709551616) (hm:many≤8) (hl:bs.length≤100000000000) :
  Calls Tryz.prog 26 #[v,.int .u64 n,.int .i64 many] w fun e w'=>∃v',e=.returned v'∧Row8 w' B v' (bs++low many n)∧Free K v'∧Kept K w w':=by
 obtain⟨i0,hi0,hz0,hz1,hz2⟩:=info_parts Tryz.info5
 have HK:=Lib.hid hK
 have H:=Lib.hid h
 have HF:=Lib.hid hfr
 obtain⟨o,c,rfl,_⟩:=ownsRow_shape h
 clear hK h hfr
 generalize hN0:bs.length=N0 at *
 have HN0:=Lib.hid hN0
 clear hN0
 go_enter Tryz.func26,Tryz.ntmps26
 go_wp2_with fail
 go_loopw [0,1,7] (fun sv nv iv wr=>∃(k m:Nat) (ds:List Nat),k≤many∧iv=.int .i64 k∧nv=.int .u64 m∧m<18446744073709551616∧ds.length=k∧low many n=ds++low (many-k) m∧Row8 wr B sv (bs++ds)∧Free K sv∧Kept K w wr) (fun _ _ iv _=>many-(intOf iv).toNat)
 case atStart=>exact⟨0,n,[],Nat.zero_le _,rfl,rfl,hn,rfl,rfl,by rw [List.append_nil];exact H.out,HF.out,Kept.refl _ _⟩
 case round =>
  obtain⟨k,m,ds,hk,rfl,rfl,hm64,hdl,hlow,hrow,hfree,hkept⟩:=hrel
  have Hlow:=Lib.hid hlow
  have Hkept:=Lib.hid hkept
  have Hrow8:=Lib.hid hrow
  have hsz:=hkept.size
  unfold Row8 at hrow
  obtain⟨o,c,rfl,_⟩:=ownsRow_shape hrow
  have Hrow:=Lib.hid hrow
  have Hfree:=Lib.hid hfree
  have hbl:(bs++ds).length=N0+k:=by rw [List.length_append,hdl,HN0.out]
  clear hlow hkept hrow hfree
  generalize hN:(bs++ds).length=N at *
  have HN:=Lib.hid hN
  have hNb:N≤100000000008:=by omega
  clear hN hbl
  by_cases hlt:k<many
  ·go_wp2_with (at_builtin;refine wpList_append_lies _ rfl _ _ _ rfl B 5 i0 _ 1 1 Tryz.underlying26 hi0 hz0 hz1 hz2 rfl Nat.one_pos (.slice o N c) N (octs (bs++ds)) rfl (ownsRow_olds Hrow.out (Olds.alloc _ _)) ⟨wr.heap.size,0,none⟩ 1 1 [.int .u8 ((m:Int) % 256)] rfl rfl (World.news_of_block (cs:=#[.int .u8 ((m:Int) % 256)]) (t:=5) (fr:=(0,0)) (heap_alloc_new wr _)) (by simp [Value.oneCell']) Nat.one_pos (by unfold maxLen;omega) (by omega) (by simp;omega) (wr.heap.size+1) (by simp) ?_;intro gg cap2 w4 hown4 hgrow hat hlt4)
   have Hg:Hid (Free K (.slice (some ⟨gg,0,none⟩) (N+1) cap2)):=Lib.hid (by
    intro g hg
    cases hg
    rcases hat with e | e
    ·exact Hfree.out gg e
    ·exact fun h=>by have:=HK.out gg h;omega)
   have Hnew:Hid (Row8 w4 B (.slice (some ⟨gg,0,none⟩) (N+1) cap2) (bs++(ds++[m % 256]))):=Lib.hid (by
    unfold Row8
    rw [← List.append_assoc,octs_append,List.length_append,HN.out]
    exact hown4)
   have Hk4:Hid (Kept K w w4):=Lib.hid ((Hkept.out.alloc HK.out _).grown hgrow HK.out Hfree.out)
   go_roundw
   case rel=>exact⟨k+1,m / 256,ds++[m % 256],by omega,by go_num,by congr 1,by omega,by rw [List.length_append,hdl];rfl,by
    rw [Hlow.out,show many-k=(many-(k+1))+1 by omega,low_step,List.append_assoc]
    rfl,Hnew.out,Hg.out,Hk4.out⟩
   case measure=>simp [intOf];omega
  ·go_wp2_with fail
   go_ret
   obtain rfl:k=many:=by omega
   have he:bs++low k n=bs++ds:=by
    have:=Hlow.out
    rw [Nat.sub_self] at this
    rw [this]
    show bs++(ds++[])=_
    rw [List.append_nil]
   rw [he]
   exact⟨_,rfl,Hrow8.out,Hfree.out,Hkept.out⟩
set_option maxRecDepth 20000 in
set_option maxHeartbeats 1000000 in
theorem blow_any {w:World}{B:Nat}{K:Nat→Prop}{v:Value}{bs:List Nat}(n many:Nat) (h:Row8 w B v bs) (hfr:Free K v) (hK:∀k,K k→k<w.heap.size) (hB:B≤w.heap.size) (hn:n<18446744073709551616) (hm:many≤8) (hl:bs.length≤100000000000) :
  Calls Tryz.prog 67 #[v,.int .u64 n,.int .i64 many] w fun e w'=>∃v',e=.returned v'∧Row8 w' B v' (bs++low many n)∧Free K v'∧Kept K w w':=by
 obtain⟨i0,hi0,hz0,hz1,hz2⟩:=info_parts Tryz.info5
 have HK:=Lib.hid hK
 have H:=Lib.hid h
 have HF:=Lib.hid hfr
 obtain⟨o,c,rfl,_⟩:=ownsRow_shape h
 clear hK h hfr
 generalize hN0:bs.length=N0 at *
 have HN0:=Lib.hid hN0
 clear hN0
 go_enter Tryz.func67,Tryz.ntmps67
 go_wp2_with fail
 go_loopw [0,1,8] (fun sv nv iv wr=>∃(k m:Nat) (ds:List Nat),k≤many∧iv=.int .i64 k∧nv=.int .u64 m∧m<18446744073709551616∧ds.length=k∧low many n=ds++low (many-k) m∧Row8 wr B sv (bs++ds)∧Free K sv∧Kept K w wr) (fun _ _ iv _=>many-(intOf iv).toNat)
 case atStart=>exact⟨0,n,[],Nat.zero_le _,rfl,rfl,hn,rfl,rfl,by rw [List.append_nil];exact H.out,HF.out,Kept.refl _ _⟩
 case round =>
  obtain⟨k,m,ds,hk,rfl,rfl,hm64,hdl,hlow,hrow,hfree,hkept⟩:=hrel
  have Hlow:=Lib.hid hlow
  have Hkept:=Lib.hid hkept
  have Hrow8:=Lib.hid hrow
  have hsz:=hkept.size
  unfold Row8 at hrow
  obtain⟨o,c,rfl,_⟩:=ownsRow_shape hrow
  have Hrow:=Lib.hid hrow
  have Hfree:=Lib.hid hfree
  have hbl:(bs++ds).length=N0+k:=by rw [List.length_append,hdl,HN0.out]
  clear hlow hkept hrow hfree
  generalize hN:(bs++ds).length=N at *
  have HN:=Lib.hid hN
  have hNb:N≤100000000008:=by omega
  clear hN hbl
  by_cases hlt:k<many
  ·go_wp2_with (at_builtin;refine wpList_append_lies _ rfl _ _ _ rfl B 5 i0 _ 1 1 Tryz.underlying26 hi0 hz0 hz1 hz2 rfl Nat.one_pos (.slice o N c) N (octs (bs++ds)) rfl (ownsRow_olds Hrow.out (Olds.alloc _ _)) ⟨wr.heap.size,0,none⟩ 1 1 [.int .u8 ((m:Int) % 256)] rfl rfl (World.news_of_block (cs:=#[.int .u8 ((m:Int) % 256)]) (t:=5) (fr:=(0,0)) (heap_alloc_new wr _)) (by simp [Value.oneCell']) Nat.one_pos (by unfold maxLen;omega) (by omega) (by simp;omega) (wr.heap.size+1) (by simp) ?_;intro gg cap2 w4 hown4 hgrow hat hlt4)
   have Hg:Hid (Free K (.slice (some ⟨gg,0,none⟩) (N+1) cap2)):=Lib.hid (by
    intro g hg
    cases hg
    rcases hat with e | e
    ·exact Hfree.out gg e
    ·exact fun h=>by have:=HK.out gg h;omega)
   have Hnew:Hid (Row8 w4 B (.slice (some ⟨gg,0,none⟩) (N+1) cap2) (bs++(ds++[m % 256]))):=Lib.hid (by
    unfold Row8
    rw [← List.append_assoc,octs_append,List.length_append,HN.out]
    exact hown4)
   have Hk4:Hid (Kept K w w4):=Lib.hid ((Hkept.out.alloc HK.out _).grown hgrow HK.out Hfree.out)
   go_roundw
   case rel=>exact⟨k+1,m / 256,ds++[m % 256],by omega,by go_num,by congr 1,by omega,by rw [List.length_append,hdl];rfl,by
    rw [Hlow.out,show many-k=(many-(k+1))+1 by omega,low_step,List.append_assoc]
    rfl,Hnew.out,Hg.out,Hk4.out⟩
   case measure=>simp [intOf];omega
  ·go_wp2_with fail
   go_ret
   obtain rfl:k=many:=by omega
   have he:bs++low k n=bs++ds:=by
    have:=Hlow.out
    rw [Nat.sub_self] at this
    rw [this]
    show bs++(ds++[])=_
    rw [List.append_nil]
   rw [he]
   exact⟨_,rfl,Hrow8.out,Hfree.out,Hkept.out⟩
theorem put8 {w:World}{B:Nat}{v:Value}{bs:List Nat}(n many:Nat) (h:Row8 w B v bs) (hB:B≤w.heap.size) (hn:n<18446744073709551616) (hm:many≤8) (hl:bs.length≤100000000000) :
  Calls Tryz.prog 26 #[v,.int .u64 n,.int .i64 many] w fun e w'=>∃v',e=.returned v'∧Row8 w' B v' (bs++low many n)∧Below B w w' :=
 (put_any (K:=fun k=>k<B) n many h (fun g hg=>by have:=(ownsRow_block h hg).1;omega) (fun k hk=>by omega) hB hn hm hl).mono fun e w' ⟨v',h1,h2,_,h4⟩=>⟨v',h1,h2,h4.below fun k hk=>hk⟩
theorem blow8 {w:World}{B:Nat}{v:Value}{bs:List Nat}(n many:Nat) (h:Row8 w B v bs) (hB:B≤w.heap.size) (hn:n<18446744073709551616) (hm:many≤8) (hl:bs.length≤100000000000) :
  Calls Tryz.prog 67 #[v,.int .u64 n,.int .i64 many] w fun e w'=>∃v',e=.returned v'∧Row8 w' B v' (bs++low many n)∧Below B w w' :=
 (blow_any (K:=fun k=>k<B) n many h (fun g hg=>by have:=(ownsRow_block h hg).1;omega) (fun k hk=>by omega) hB hn hm hl).mono fun e w' ⟨v',h1,h2,_,h4⟩=>⟨v',h1,h2,h4.below fun k hk=>hk⟩
end Go.Proofs.YtbecggfbblnglaaGreatDoor
namespace Go.Proofs.YtbecggfbblnglaaGreatDoor
open Go Go.RowKit Go.Ix
structure Buf (w:World) (B blk:Nat) (K:Nat→Prop) (sy nm:Value) (bs:List Nat):Prop where
 lo:B≤blk
 out:¬ K blk
 row:∃v,w.heap[blk]?=some (.cells #[v,sy,nm] 239 (0,0))∧Row8 w B v bs∧Free K v∧v.ownBlock≠some blk
theorem buf_store {w:World}{B blk:Nat}{K:Nat→Prop}{sy nm v:Value}{bs:List Nat}{gg M cap:Nat}(hlo:B≤blk) (hout:¬ K blk) (hb:w.heap[blk]?=some (.cells #[v,sy,nm] 239 (0,0)))
  (hown:w.ownsRow B 5 1 (.slice (some ⟨gg,0,none⟩) M cap) M (octs bs)) (hM:bs.length=M) (hg:¬ K gg) (hgb:gg≠blk):Buf (w.setCell ⟨blk,0,none⟩ (.slice (some ⟨gg,0,none⟩) M cap)) B blk K sy nm bs:=by
 refine⟨hlo,hout,.slice (some ⟨gg,0,none⟩) M cap,?_,?_,?_,?_⟩
 ·simp [World.setCell,Array.getElem?_modify,hb]
 ·unfold Row8
  rw [hM]
  refine ownsRow_blocks hown fun g hg=>?_
  cases hg
  exact Below.heap_setCell _ _ _ _ hgb
 ·intro g hg'
  cases hg'
  exact hg
 ·intro e
  cases e
  exact hgb rfl
set_option maxRecDepth 20000 in
set_option maxHeartbeats 1000000 in
theorem low_any {w:World}{B blk:Nat}{K:Nat→Prop}{sy nm:Value}{bs:List Nat}(n many:Nat) (h:Buf w B blk K sy nm bs) (hK:∀k,K k→k<w.heap.size) (hB:B≤w.heap.size) (hn:n<18446744073709551616) (hm:many≤8) (hl:bs.length≤100000000000) :
  Calls Tryz.prog 101 #[.pointer (some ⟨blk,0,none⟩),.int .u64 n,.int .i64 many] w fun e w'=>e=.returned (.tuple #[])∧Buf w' B blk K sy nm (bs++low many n)∧Kept K w w':=by
 obtain⟨i0,hi0,hz0,hz1,hz2⟩:=info_parts Tryz.info5
 have HK:=Lib.hid hK
 have H:=Lib.hid h
 clear hK h
 go_enter Tryz.func101,Tryz.ntmps101
 go_wp2_with fail
 go_loopw [1,7] (fun nv iv wr=>∃(k m:Nat) (ds:List Nat),k≤many∧iv=.int .i64 k∧nv=.int .u64 m∧m<18446744073709551616∧ds.length=k∧low many n=ds++low (many-k) m∧Buf wr B blk K sy nm (bs++ds)∧Kept K w wr) (fun _ iv _=>many-(intOf iv).toNat)
 case atStart=>exact⟨0,n,[],Nat.zero_le _,rfl,rfl,hn,rfl,rfl,by rw [List.append_nil];exact H.out,Kept.refl _ _⟩
 case round =>
  obtain⟨k,m,ds,hk,rfl,rfl,hm64,hdl,hlow,hbuf,hkept⟩:=hrel
  have Hlow:=Lib.hid hlow
  have Hkept:=Lib.hid hkept
  have Hbuf:=Lib.hid hbuf
  obtain⟨hlo,hout,v,hh,hrow,hfree,hne⟩:=hbuf
  have hlt':blk<wr.heap.size:=by
   rcases Nat.lt_or_ge blk wr.heap.size with h | h
   ·exact h
   ·rw [Array.getElem?_eq_none h] at hh;cases hh
  have hsz:=hkept.size
  have hc:wr.cell? ⟨blk,0,none⟩=some v:=by simp [World.cell?,hh]
  have hf:wr.frozen? ⟨blk,0,none⟩=false:=by simp [World.frozen?,hh]
  unfold Row8 at hrow
  obtain⟨o,c,rfl,_⟩:=ownsRow_shape hrow
  have Hrow:=Lib.hid hrow
  have Hh:=Lib.hid hh
  have Hfree:=Lib.hid hfree
  have Hne:=Lib.hid hne
  have hbl:(bs++ds).length=bs.length+k:=by rw [List.length_append,hdl]
  clear hlow hkept hrow hh hfree hne
  generalize hN:(bs++ds).length=N at *
  have HN:=Lib.hid hN
  have hNb:N≤100000000008:=by omega
  clear hN hbl
  by_cases hlt:k<many
  ·go_wp2_with (at_builtin;refine wpList_append_lies _ rfl _ _ _ rfl B 5 i0 _ 1 1 Tryz.underlying26 hi0 hz0 hz1 hz2 rfl Nat.one_pos (.slice o N c) N (octs (bs++ds)) rfl (ownsRow_olds Hrow.out (Olds.alloc _ _)) ⟨wr.heap.size,0,none⟩ 1 1 [.int .u8 ((m:Int) % 256)] rfl rfl (World.news_of_block (cs:=#[.int .u8 ((m:Int) % 256)]) (t:=5) (fr:=(0,0)) (heap_alloc_new wr _)) (by simp [Value.oneCell']) Nat.one_pos (by unfold maxLen;omega) (by omega) (by simp;omega) (wr.heap.size+1) (by simp) ?_;intro gg cap2 w4 hown4 hgrow hat hlt4;have hb4:w4.heap[blk]?=some (.cells #[.slice o N c,sy,nm] 239 (0,0)):=((hgrow.block blk (by simp;omega) (fun e=>Hne.out e.symm)).trans ((Olds.alloc wr _).2 blk hlt')).trans Hh.out;have hc4:w4.cell? ⟨blk,0,none⟩=some (.slice o N c):=(by simp [World.cell?,hb4]);have hf4:w4.frozen? ⟨blk,0,none⟩=false:=(by simp [World.frozen?,hb4]))
   have Hg:Hid (¬ K gg∧gg≠blk):=Lib.hid (by
    rcases hat with e | e
    ·exact⟨Hfree.out gg e,fun h=>Hne.out (h ▸ e)⟩
    ·exact⟨fun h=>by have:=HK.out gg h;omega,by omega⟩)
   have Hnew:Hid (Buf (w4.setCell ⟨blk,0,none⟩ (.slice (some ⟨gg,0,none⟩) (N+1) cap2)) B blk K sy nm (bs++(ds++[m % 256]))):=Lib.hid (buf_store hlo hout hb4 (by
    rw [← List.append_assoc,octs_append]
    exact hown4) (by rw [← List.append_assoc,List.length_append,HN.out];rfl) Hg.out.1 Hg.out.2)
   have Hk4:Hid (Kept K w (w4.setCell ⟨blk,0,none⟩ (.slice (some ⟨gg,0,none⟩) (N+1) cap2))):=Lib.hid
    (((Hkept.out.alloc HK.out _).grown hgrow HK.out Hfree.out).setCell hout _)
   go_roundw
   case rel=>exact⟨k+1,m / 256,ds++[m % 256],by omega,by go_num,by congr 1,by omega,by rw [List.length_append,hdl];rfl,by
    rw [Hlow.out,show many-k=(many-(k+1))+1 by omega,low_step,List.append_assoc]
    rfl,Hnew.out,Hk4.out⟩
   case measure=>simp [intOf];omega
  ·go_wp2_with fail
   go_end0
   obtain rfl:k=many:=by omega
   refine⟨rfl,?_,Hkept.out⟩
   have:=Hlow.out
   rw [Nat.sub_self] at this
   rw [this]
   show Buf wr B blk K sy nm (bs++(ds++[]))
   rw [List.append_nil]
   exact Hbuf.out
set_option maxHeartbeats 400000 in
theorem count_any {w:World}{B blk:Nat}{K:Nat→Prop}{sy nm:Value}{bs:List Nat}(n:Nat) (h:Buf w B blk K sy nm bs) (hK:∀k,K k→k<w.heap.size) (hB:B≤w.heap.size) (hn:n<9223372036854775808) (hl:bs.length≤100000000000) :
  Calls Tryz.prog 98 #[.pointer (some ⟨blk,0,none⟩),.int .i64 n] w fun e w'=>e=.returned (.tuple #[])∧Buf w' B blk K sy nm (bs++low 4 n)∧Kept K w w':=by
 have H:=Lib.hid (low_any n 4 h hK hB (by omega) (by decide) hl)
 clear h hK
 go_enter Tryz.func98,Tryz.ntmps98
 go_wp2_with (go_at_call 101;refine H.out.mono ?_;rintro e w' ⟨rfl,h1,h2⟩;have H1:=Lib.hid h1;have H2:=Lib.hid h2;clear h1 h2)
 go_end0
 exact⟨rfl,H1.out,H2.out⟩
end Go.Proofs.YtbecggfbblnglaaGreatDoor
namespace Go.Proofs.YtbecggfbblnglaaGreatDoor
open Go Go.RowKit Go.Ix
section
variable {T e:TypeId}{z:Value}{size bytes:Nat}
theorem run_append_nilG (hT:Tryz.prog.underlying T=some (.slice e)) (hs:∀W:World,(sizeOf e).run Tryz.prog W=.ok size W) (base:Option Addr) (l c:Nat) (h:l≤c) (ty:TypeId) (W:World) :
  (Builtin.append_ #[T,T] ty #[.slice base l c,.slice none 0 0]).run Tryz.prog W=.ok (.slice base l c) W:=by
 have hu:(underlying T).run Tryz.prog W=.ok (.slice e) W:=run_underlying hT W
 have hs:=hs W
 cases base with
 | none=>simp [Builtin.append_,bind,pure,Sem.run_bind',hu,hs,Sem.run,Builtin.lenOf,Builtin.firstCells,h,Sem.bind]
 | some a=>simp [Builtin.append_,bind,pure,Sem.run_bind',hu,hs,Sem.run,Builtin.lenOf,Builtin.firstCells,h,storeCells,Sem.bind]
theorem run_append_flat (hT:Tryz.prog.underlying T=some (.slice e)) (hs:∀W:World,(sizeOf e).run Tryz.prog W=.ok size W) {i:TypeInfo}(hi:Tryz.prog.info? e=some i) (hz:i.zero=some z) (hsize:i.size=size) (hby:i.bytes=bytes) (hzs:z.cells.size=size) (hsz:0<size) (hb1:1≤bytes)
  {W:World}{B n m:Nat}{v u:Value}{xs ys:List Value}(hown:W.ownsRow B e size v n xs) (hB:B≤W.heap.size) (hu:FlatAt W u m ys) (hm:ys.length=m * size) (h1:∀x∈ys,x.oneCell'=true) (hbytes:(n+m) * bytes≤140737488355328) (ty:TypeId) :
  ∃v' w',(Builtin.append_ #[T,T] ty #[v,u]).run Tryz.prog W=.ok v' w'∧w'.ownsRow B e size v' (n+m) (xs++ys)∧W.grownBy w' v.ownBlock∧(v'.ownBlock=v.ownBlock∨v'.ownBlock=some W.heap.size):=by
 have hmax:n+m≤maxLen:=by
  have:n+m≤(n+m) * bytes:=Nat.le_mul_of_pos_right _ hb1
  unfold maxLen
  omega
 rcases hu.cases with ⟨o,c,rfl,rfl,h0⟩|⟨b,off,c,rfl,hne,hc⟩
 ·have hm0:m=0:=by
   rcases Nat.eq_zero_or_pos m with h | h
   ·exact h
   ·have:=Nat.mul_pos h hsz
    simp at hm
    omega
  subst hm0
  cases o with
  | none =>
   obtain rfl:=h0 rfl
   obtain⟨o,c,rfl,_⟩:=ownsRow_shape hown
   have hlc:n≤c:=by
    rcases hown.2 with ⟨e,h⟩|⟨g,cap,cur,e,_,_,h,_⟩
    ·omega
    ·simp only [Value.slice.injEq] at e
     omega
   exact⟨_,W,run_append_nilG hT hs o n c hlc ty W,by rw [List.append_nil];exact hown,⟨rfl,rfl,rfl,Nat.le_refl _,fun _ _ _=>rfl⟩,.inl rfl⟩
  | some a =>
   obtain⟨v',w',h1,h2,h3,_,h5⟩:=run_append_own_at (P:=Tryz.prog) W B T ty e i z size bytes hT hi hz hsize hby hzs hsz v n xs hown a 0 c [] (by simp) (fun j u h=>by simp at h) (fun u h=>by simp at h) hmax hbytes hB
   exact⟨v',w',h1,h2,h3,h5⟩
 ·obtain⟨v',w',h1,h2,h3,_,h5⟩:=run_append_own_at (P:=Tryz.prog) W B T ty e i z size bytes hT hi hz hsize hby hzs hsz v n xs hown ⟨b,off,none⟩ m c ys hm (fun j x hx=>by
   have:=hc j x hx
   rw [show (⟨b,off,none⟩:Addr).add j=⟨b,off+j,none⟩ by simp [Addr.add]]
   exact this) h1 hmax hbytes hB
  exact⟨v',w',h1,h2,h3,h5⟩
theorem wpList_append_flat {ops:Array Oper}{rest:List Oper}{o:Oper}{a:Act}{Q:Exit→Act→World→Prop}{W:World}(hgd:o.guard=none) (s x:Operand)
  (ho:o.op=.call { callee:=.builtin .append,args:=#[s,x],argTypes:=#[T,T] })
  (hT:Tryz.prog.underlying T=some (.slice e)) (hs:∀W:World,(sizeOf e).run Tryz.prog W=.ok size W) {i:TypeInfo}(hi:Tryz.prog.info? e=some i) (hz:i.zero=some z) (hsize:i.size=size) (hby:i.bytes=bytes) (hzs:z.cells.size=size) (hsz:0<size) (hb1:1≤bytes)
  (B n m:Nat) (v u:Value) (xs ys:List Value) (hsv:a.eval s=v) (hxv:a.eval x=u) (hown:W.ownsRow B e size v n xs) (hB:B≤W.heap.size) (hu:FlatAt W u m ys) (hm:ys.length=m * size) (h1:∀x∈ys,x.oneCell'=true)
  (hbytes:(n+m) * bytes≤140737488355328)
  (h:∀v' w',w'.ownsRow B e size v' (n+m) (xs++ys)→W.grownBy w' v.ownBlock→(v'.ownBlock=v.ownBlock∨v'.ownBlock=some W.heap.size)→wpList Tryz.prog ops Q rest (a.put o.dst v') w'):wpList Tryz.prog ops Q (o :: rest) a W :=
 wpList_plain hgd fun K hK=>by
  obtain⟨v',w',hr,h2,h3,h4⟩:=run_append_flat hT hs hi hz hsize hby hzs hsz hb1 hown hB hu hm h1 hbytes o.type
  unfold Oper.wp execOp
  simp only [ho,resolve,invoke,builtin,Sem.run_bind,Sem.run_pure,Result.andThen_ok,List.map_toArray,List.map_cons,List.map_nil,hsv,hxv,hr]
  exact hK _ _ (h v' w' h2 h3 h4)
end
def RowT (w:World) (B:Nat) (v:Value) (l:List Txt):Prop:=w.ownsRow B 9 1 v l.length (l.map encStr)
theorem Tryz.info9:(Tryz.prog.info? 9).map (fun i=>(i.zero,i.size,i.bytes))=some (some (encStr []),1,16):=by kernel_rfl
theorem size9 (W:World):(sizeOf 9).run Tryz.prog W=.ok 1 W:=by kernel_rfl
theorem size5 (W:World):(sizeOf 5).run Tryz.prog W=.ok 1 W:=by kernel_rfl
theorem size3 (W:World):(sizeOf 3).run Tryz.prog W=.ok 1 W:=by kernel_rfl
theorem size84 (W:World):(sizeOf 80).run Tryz.prog W=.ok 2 W:=by kernel_rfl
theorem one_txt {l:List Txt}:∀x∈l.map encStr,x.oneCell'=true:=by
 intro x hx
 obtain⟨y,_,rfl⟩:=List.mem_map.1 hx
 simp [Value.oneCell']
theorem one_octs {l:List Nat}:∀x∈octs l,x.oneCell'=true:=by
 intro x hx
 unfold octs at hx
 obtain⟨y,_,rfl⟩:=List.mem_map.1 hx
 simp [Value.oneCell']
theorem owns_take {w:World}{B e n c j:Nat}{o:Option Addr}{xs:List Value}(h:w.ownsRow B e 1 (.slice o n c) n xs) (hj:j≤n):FlatAt w (.slice o j c) j (xs.take j):=by
 rcases h.2 with ⟨e,h0⟩|⟨g,cap,cur,e,_⟩
 ·simp only [Value.slice.injEq] at e
  obtain⟨rfl,_,rfl⟩:=e
  subst h0
  obtain rfl:j=0:=by omega
  exact⟨none,0,rfl,fun _=>rfl,fun h=>absurd (List.take_zero) h⟩
 ·simp only [Value.slice.injEq] at e
  obtain⟨rfl,_,rfl⟩:=e
  refine⟨_,_,rfl,(fun h=>by cases h),fun _=>⟨g,0,rfl,fun i v hv=>?_⟩⟩
  have hij:=(List.getElem?_eq_some_iff.1 hv).1
  rw [List.length_take] at hij
  rw [List.getElem?_take_of_lt (by omega)] at hv
  exact ownsRow_cell h i v hv
theorem owns_drop {w:World}{B e n c j g:Nat}{xs:List Value}(h:w.ownsRow B e 1 (.slice (some ⟨g,0,none⟩) n c) n xs) (_hj:j≤n):FlatAt w (.slice (some ⟨g,j,none⟩) (n-j) (c-j)) (n-j) (xs.drop j):=by
 refine⟨_,_,rfl,(fun h=>by cases h),fun _=>⟨g,j,rfl,fun i v hv=>?_⟩⟩
 rw [List.getElem?_drop] at hv
 have:=ownsRow_cell h _ v hv
 rwa [Nat.zero_add] at this
theorem owns_flat {w:World}{B e n c:Nat}{o:Option Addr}{xs:List Value}(h:w.ownsRow B e 1 (.slice o n c) n xs):FlatAt w (.slice o n c) n xs:=by
 have:=owns_take h (Nat.le_refl n)
 rwa [List.take_of_length_le (by rw [h.1];omega)] at this
end Go.Proofs.YtbecggfbblnglaaGreatDoor
namespace Go.Proofs.YtbecggfbblnglaaGreatDoor
open Go Go.RowKit Go.Ix Go.Maps
theorem Tryz.lawT:Keyed Tryz.prog 9:=string_keyed Tryz.underlying9
theorem zero4 (w:World):(zeroValue 4).run Tryz.prog w=.ok (.bool false) w:=by kernel_rfl
theorem zero3 (w:World):(zeroValue 3).run Tryz.prog w=.ok (.int .i64 0) w:=by kernel_rfl
theorem keyT (s:Txt) (h:s.length≤1000000000):keyOf Tryz.prog 9 (encStr s)=some (.string s):=by
 have:=WideMaps.keyOf_string_mk (P:=Tryz.prog) (k:=9) Tryz.underlying9 (s:=⟨s.toArray⟩) (by show s.toArray.size≤maxLen;unfold maxLen;simp;omega)
 simpa using this
def SetAt (w:World) (b n:Nat) (S:List Txt):Prop :=
 ∃D:DataW Unit,w.ownsMap Tryz.prog 9 (plainElem Tryz.prog 4) b n D∧∀s:Txt,D.atKey (.string s) (.lit (.bool false))=.lit (.bool (decide (s∈S)))∧Maps.has D (.string s)=decide (s∈S)
theorem SetAt.made (w:World):SetAt (w.alloc (.map #[] 0)) w.heap.size 0 [] :=
 ⟨.map [],World.ownsMap_made w _ _ _,fun s=>⟨by simp [DataW.atKey],by simp [Maps.has]⟩⟩
theorem SetAt.lt {w:World}{b n:Nat}{S:List Txt}(h:SetAt w b n S):b<w.heap.size:=by
 obtain⟨D,h,_⟩:=h
 exact h.lt
theorem SetAt.block {w W:World}{b n:Nat}{S:List Txt}(h:SetAt w b n S) (hb:W.heap[b]?=w.heap[b]?):SetAt W b n S:=by
 obtain⟨D,⟨es,clock,h1,h2⟩,h3⟩:=h
 exact⟨D,⟨es,clock,hb.trans h1,h2⟩,h3⟩
theorem SetAt.olds {w W:World}{b n:Nat}{S:List Txt}(h:SetAt w b n S) (hb:Olds w W):SetAt W b n S:=h.block (hb.2 b h.lt)
theorem run_set_look {w:World}{b n:Nat}{S:List Txt}(h:SetAt w b n S) (s:Txt) (hs:s.length≤1000000000):(Instr.lookup 307 (.map (some b)) (encStr s) false).run Tryz.prog w=.ok (.bool (decide (s∈S))) w:=by
 obtain⟨D,h,hD⟩:=h
 obtain⟨v,ps,hr,hv⟩:=h.lookup (t:=307) (e:=4) Tryz.lawT Tryz.underlying307 (zero4 w) (plainElem_bool Tryz.underlying4 false) (keyT s hs)
 rw [(hD s).1] at hv
 rw [hr]
 cases v<;>simp [plainElem,Tryz.underlying4] at hv
 rw [hv.1]
theorem wpList_set_look {ops:Array Oper}{rest:List Oper}{o:Oper}{a:Act}{Q:Exit→Act→World→Prop}{W:World}(hg:o.guard=none) (m x:Operand) (hop:o.op=Op.lookup 307 m x false) (b n:Nat) (S:List Txt) (s:Txt)
  (hm:a.eval m=.map (some b)) (hx:a.eval x=encStr s) (h:SetAt W b n S) (hs:s.length≤1000000000)
  (hK:wpList Tryz.prog ops Q rest (a.put o.dst (.bool (decide (s∈S)))) W):wpList Tryz.prog ops Q (o :: rest) a W :=
 wpList_plain hg fun K hKK=>by
  have hrun:=run_set_look h s hs
  unfold Oper.wp
  simp only [execOp,hop,hm,hx]
  simp [hrun,Result.andThen]
  exact hKK _ _ (by simpa using hK)
theorem wpList_set_store {ops:Array Oper}{rest:List Oper}{o:Oper}{a:Act}{Q:Exit→Act→World→Prop}{W:World}(hg:o.guard=none) (m x v:Operand) (hop:o.op=Op.mapUpdate 307 m x v) (b n:Nat) (S:List Txt) (s:Txt)
  (hm:a.eval m=.map (some b)) (hx:a.eval x=encStr s) (hv:a.eval v=.bool true) (h:SetAt W b n S) (hs:s.length≤1000000000) (hn:n<1000000000)
  (hK:∀w',SetAt w' b (n+1) (S++[s])→W.grownBy w' (some b)→wpList Tryz.prog ops Q rest (a.put o.dst undef) w'):wpList Tryz.prog ops Q (o :: rest) a W:=by
 obtain⟨D,h,hD⟩:=h
 refine wpList_mapUpdate_own W hg m x v 307 hop 9 4 Tryz.lawT Tryz.underlying307 (plainElem Tryz.prog 4) b n D hm h (by unfold maxLen;omega) _ _ (.string s) hx hv (keyT s hs) (.lit (.bool true)) [] (plainElem_bool Tryz.underlying4 true) fun w' h1 h2=>hK w' ⟨_,h1,fun t=>?_⟩ h2
 by_cases ht:t=s
 ·subst ht
  refine⟨?_,?_⟩
  ·rw [atKey_put_same h.isMap (k:=.string t) trivial]
   simp
  ·rw [has_put_same h.isMap (k:=.string t) trivial]
   simp
 ·have hne:(Lit.string t)≠Lit.string s:=fun e=>ht (by cases e;rfl)
  refine⟨?_,?_⟩
  ·rw [atKey_put_other hne,(hD t).1]
   simp [ht]
  ·rw [has_put_other hne,(hD t).2]
   simp [ht]
end Go.Proofs.YtbecggfbblnglaaGreatDoor
namespace Go.Proofs.YtbecggfbblnglaaGreatDoor
open Go Go.RowKit Go.Ix
theorem less_yes' {a b:Txt}(h:a<b):Op.bytesLess a b=true:=by rw [bytesLess_eq];exact decide_eq_true h
theorem less_no' {a b:Txt}(h:¬ a<b):Op.bytesLess a b=false:=by rw [bytesLess_eq];exact decide_eq_false h
set_option maxRecDepth 20000 in
set_option maxHeartbeats 2000000 in
theorem text_nil (w:World) (B:Nat) (s:Txt) (hB:B≤w.heap.size):Calls Tryz.prog 117 #[.slice none 0 0,encStr s] w fun e w'=>∃v',e=.returned v'∧RowT w' B v' [s]∧Below w.heap.size w w':=by
 obtain⟨i0,hi0,hz0,hz1,hz2⟩:=info_parts Tryz.info9
 go_enter Tryz.func117,Tryz.ntmps117
 go_wp2_with fail
 go_loop [5] (fun jv=>jv=.int .i64 0) (fun _=>0)
 case atStart=>rfl
 case round =>
  obtain rfl:=hrel
  go_wp2_with (first
   | (at_builtin;refine wpList_append_lies _ rfl _ _ _ rfl w.heap.size 9 i0 _ 1 16 Tryz.underlying160 hi0 hz0 hz1 hz2 rfl Nat.one_pos (.slice none 0 0) 0 [] rfl (World.ownsRow_nil _ _ _ _) ⟨w.heap.size,0,none⟩ 1 1 [encStr s] rfl rfl (World.news_of_block (cs:=#[encStr s]) (t:=9) (fr:=(0,0)) (heap_alloc_new w _)) (by simp [Value.oneCell']) Nat.one_pos (by unfold maxLen;omega) (by omega) (by simp) (w.heap.size+1) (by simp) ?_;intro gg cap2 w4 hown4 hgrow hat hlt4;have hcap:1≤cap2:=(by rcases hown4.2 with ⟨e,_⟩|⟨_,_,_,e,_,_,h,_⟩;cases e;simp only [Value.slice.injEq,true_and] at e;omega);have Hown4:=Lib.hid hown4;have B4:=Lib.hid (((Below.refl w.heap.size w).alloc (Nat.le_refl _) _).grown hgrow (by simp) (fun k hk=>by cases hk));clear hown4 hgrow hat))
  go_ret
  exact⟨_,rfl,ownsRow_mono Hown4.out hB,B4.out⟩
theorem owned_at {w:World}{B g n c:Nat}{l:List Txt}(h:w.ownsRow B 9 1 (.slice (some ⟨g,0,none⟩) n c) n (l.map encStr)) {j:Nat}{y:Txt}(hy:l[j]?=some y):w.cell? ⟨g,j,none⟩=some (encStr y):=by
 have:=ownsRow_cell h j (encStr y) (by rw [List.getElem?_map,hy];rfl)
 rwa [Nat.zero_add] at this
set_option maxRecDepth 20000 in
set_option maxHeartbeats 4000000 in
theorem text_some {w:World}{B g n c:Nat}{l:List Txt}(s:Txt) (h:w.ownsRow B 9 1 (.slice (some ⟨g,0,none⟩) n c) n (l.map encStr)) (hln:l.length=n) (hB:B≤w.heap.size) (hr:Rising l) (hl:n≤1000000) :
  Calls Tryz.prog 117 #[.slice (some ⟨g,0,none⟩) n c,encStr s] w fun e w'=>∃v',e=.returned v'∧RowT w' B v' (put l s)∧Below w.heap.size w w':=by
 obtain⟨i0,hi0,hz0,hz1,hz2⟩:=info_parts Tryz.info9
 have hcap:n≤c:=by
  rcases h.2 with ⟨e,_⟩|⟨_,_,_,e,_,_,h,_⟩
  ·cases e
  ·simp only [Value.slice.injEq] at e
   omega
 have H:=Lib.hid h
 have Hr:=Lib.hid hr
 have Hn:=Lib.hid hln
 clear h hr hln
 go_enter Tryz.func117,Tryz.ntmps117
 go_wp2_with fail
 go_loop [5] (fun jv=>∃j:Nat,j≤n∧jv=.int .i64 j∧∀z∈l.take j,z<s) (fun jv=>n-(intOf jv).toNat)
 case atStart=>exact⟨0,Nat.zero_le _,rfl,by simp⟩
 case round =>
  obtain⟨j,hj,rfl,hlow⟩:=hrel
  have Hlow:=Lib.hid hlow
  clear hlow
  have etk:(l.take j).length=j:=by rw [List.length_take,Hn.out];omega
  have Htk:=Lib.hid etk
  clear etk
  by_cases hjn:j<n
  ·obtain⟨y,hy⟩:∃y,l[j]?=some y:=⟨_,List.getElem?_eq_getElem (by rw [Hn.out];exact hjn)⟩
   have hcy:=owned_at H.out hy
   have Hy:=Lib.hid hy
   clear hy
   by_cases hlt:y<s
   ·have hb:=less_yes' hlt
    have Hlt:=Lib.hid hlt
    clear hlt
    go_wp2_with fail
    go_round
    case rel=>exact⟨j+1,by omega,by go_num,take_step Hlow.out Hy.out Hlt.out⟩
    case measure=>simp [intOf];omega
   ·have hb:=less_no' hlt
    by_cases he:y=s
    ·have hbe:(y == s)=true:=by simpa using he
     have Hput:Hid (put l s=l):=Lib.hid (put_in (he ▸ List.mem_of_getElem? Hy.out))
     clear hlt he
     go_wp2_with fail
     go_ret
     refine⟨_,rfl,?_,Below.refl _ _⟩
     rw [Hput.out]
     unfold RowT
     rw [Hn.out]
     exact H.out
    ·have hbe:(y == s)=false:=by simpa using he
     have Hput:Hid (put l s=(l.take j++[s])++l.drop j):=Lib.hid (put_new Hr.out Hlow.out (fun z hz=>by
      rw [Hy.out] at hz
      cases hz
      rcases Line.tri (α:=Txt) y s with h | h | h
      ·exact absurd h hlt
      ·exact absurd h he
      ·exact h))
     clear hlt he
     have hjc:¬ c=j:=by omega
     have hjc2:j≤c:=by omega
     go_wp2_with (first
      | (at_builtin;refine wpList_append_flat rfl _ _ rfl Tryz.underlying160 size9 hi0 hz0 hz1 hz2 rfl Nat.one_pos (by decide) w.heap.size 0 j (.slice none 0 0) (.slice (some ⟨g,0,none⟩) j c) [] ((l.map encStr).take j) rfl rfl (World.ownsRow_nil _ _ _ _) (Nat.le_refl _) (owns_take H.out hj) (by rw [List.length_take,List.length_map,Hn.out];omega) (fun x hx=>one_txt x (List.mem_of_mem_take hx)) (by omega) ?_;intro v1 w1 hown1 hgrow1 hat1;rw [Nat.zero_add,List.nil_append] at hown1;obtain⟨o1,c1,rfl,_⟩:=ownsRow_shape hown1;have Hown1:=Lib.hid hown1;have B1:Hid (Below w.heap.size w w1):=Lib.hid ((Below.refl _ w).grown hgrow1 (Nat.le_refl _) (fun k hk=>by cases hk));have Hat1:Hid (∀b,(Value.slice o1 j c1).ownBlock=some b→w.heap.size≤b):=Lib.hid (fun b hb=>(ownsRow_block Hown1.out hb).1);have hs1:w.heap.size≤w1.heap.size:=B1.out.size;clear hown1 hgrow1 hat1)
      | (at_builtin;refine wpList_append_lies _ rfl _ _ _ rfl w.heap.size 9 i0 _ 1 16 Tryz.underlying160 hi0 hz0 hz1 hz2 rfl Nat.one_pos (.slice o1 j c1) j ((l.map encStr).take j) rfl (ownsRow_olds Hown1.out (Olds.alloc _ _)) ⟨w1.heap.size,0,none⟩ 1 1 [encStr s] rfl rfl (World.news_of_block (cs:=#[encStr s]) (t:=9) (fr:=(0,0)) (heap_alloc_new w1 _)) (by simp [Value.oneCell']) Nat.one_pos (by unfold maxLen;omega) (by omega) (by simp;omega) (w1.heap.size+1) (by simp) ?_;intro gg cap2 w2 hown2 hgrow2 hat2 hlt2;have Hown2:=Lib.hid hown2;have B2:Hid (Below w.heap.size w w2):=Lib.hid ((B1.out.alloc hs1 _).grown hgrow2 (by simp;omega) (fun b hb=>Hat1.out b hb));have hs2:w.heap.size≤w2.heap.size:=B2.out.size;have hgg:w.heap.size≤gg:=(ownsRow_block Hown2.out (g:=gg) rfl).1;clear hown2 hgrow2 hat2)
      | (at_builtin;refine wpList_append_flat rfl _ _ rfl Tryz.underlying160 size9 hi0 hz0 hz1 hz2 rfl Nat.one_pos (by decide) w.heap.size (j+1) (n-j) (.slice (some ⟨gg,0,none⟩) (j+1) cap2) (.slice (some ⟨g,j,none⟩) (n-j) (c-j)) ((l.map encStr).take j++[encStr s]) ((l.map encStr).drop j) rfl rfl Hown2.out hs2 ((owns_drop H.out hj).olds (Olds.of_below B2.out)) (by rw [List.length_drop,List.length_map,Hn.out];omega) (fun x hx=>one_txt x (List.mem_of_mem_drop hx)) (by omega) ?_;intro v3 w3 hown3 hgrow3 hat3;have Hown3:=Lib.hid hown3;have B3:Hid (Below w.heap.size w w3):=Lib.hid (B2.out.grown hgrow3 hs2 (fun b hb=>by cases hb;exact hgg));clear hown3 hgrow3 hat3))
     go_ret
     refine⟨_,rfl,?_,B3.out⟩
     rw [Hput.out]
     unfold RowT
     have h9:=Hown3.out
     rw [← List.map_take,← List.map_drop] at h9
     rw [List.length_append,List.length_append,Htk.out,List.length_drop,Hn.out,List.map_append,List.map_append]
     exact ownsRow_mono h9 hB
  ·obtain rfl:j=n:=by omega
   have Hput:Hid (put l s=l++[s]):=Lib.hid (by
    have:=put_new (k:=l.length) Hr.out (by rw [Hn.out];exact Hlow.out) (fun z hz=>by rw [List.getElem?_eq_none (Nat.le_refl _)] at hz;cases hz)
    rwa [List.take_length,List.drop_length,List.append_nil] at this)
   by_cases hcj:c=j
   ·subst hcj
    go_wp2_with (first
     | (at_builtin;refine wpList_append_flat rfl _ _ rfl Tryz.underlying160 size9 hi0 hz0 hz1 hz2 rfl Nat.one_pos (by decide) w.heap.size 0 c (.slice none 0 0) (.slice (some ⟨g,0,none⟩) c c) [] ((l.map encStr).take c) rfl rfl (World.ownsRow_nil _ _ _ _) (Nat.le_refl _) (owns_take H.out hj) (by rw [List.length_take,List.length_map,Hn.out];omega) (fun x hx=>one_txt x (List.mem_of_mem_take hx)) (by omega) ?_;intro v1 w1 hown1 hgrow1 hat1;rw [Nat.zero_add,List.nil_append] at hown1;obtain⟨o1,c1,rfl,_⟩:=ownsRow_shape hown1;have Hown1:=Lib.hid hown1;have B1:Hid (Below w.heap.size w w1):=Lib.hid ((Below.refl _ w).grown hgrow1 (Nat.le_refl _) (fun k hk=>by cases hk));have Hat1:Hid (∀b,(Value.slice o1 c c1).ownBlock=some b→w.heap.size≤b):=Lib.hid (fun b hb=>(ownsRow_block Hown1.out hb).1);have hs1:w.heap.size≤w1.heap.size:=B1.out.size;clear hown1 hgrow1 hat1)
     | (at_builtin;refine wpList_append_lies _ rfl _ _ _ rfl w.heap.size 9 i0 _ 1 16 Tryz.underlying160 hi0 hz0 hz1 hz2 rfl Nat.one_pos (.slice o1 c c1) c ((l.map encStr).take c) rfl (ownsRow_olds Hown1.out (Olds.alloc _ _)) ⟨w1.heap.size,0,none⟩ 1 1 [encStr s] rfl rfl (World.news_of_block (cs:=#[encStr s]) (t:=9) (fr:=(0,0)) (heap_alloc_new w1 _)) (by simp [Value.oneCell']) Nat.one_pos (by unfold maxLen;omega) (by omega) (by simp;omega) (w1.heap.size+1) (by simp) ?_;intro gg cap2 w2 hown2 hgrow2 hat2 hlt2;have Hown2:=Lib.hid hown2;have B2:Hid (Below w.heap.size w w2):=Lib.hid ((B1.out.alloc hs1 _).grown hgrow2 (by simp;omega) (fun b hb=>Hat1.out b hb));have hs2:w.heap.size≤w2.heap.size:=B2.out.size;have hgg:w.heap.size≤gg:=(ownsRow_block Hown2.out (g:=gg) rfl).1;clear hown2 hgrow2 hat2)
     | (at_builtin;refine wpList_append_flat rfl _ _ rfl Tryz.underlying160 size9 hi0 hz0 hz1 hz2 rfl Nat.one_pos (by decide) w.heap.size (c+1) 0 (.slice (some ⟨gg,0,none⟩) (c+1) cap2) _ ((l.map encStr).take c++[encStr s]) [] rfl rfl Hown2.out hs2 ⟨_,_,rfl,(fun h=>by cases h),fun h=>absurd rfl h⟩ rfl (by simp) (by omega) ?_;intro v3 w3 hown3 hgrow3 hat3;have Hown3:=Lib.hid hown3;have B3:Hid (Below w.heap.size w w3):=Lib.hid (B2.out.grown hgrow3 hs2 (fun b hb=>by cases hb;exact hgg));clear hown3 hgrow3 hat3))
    go_ret
    refine⟨_,rfl,?_,B3.out⟩
    rw [Hput.out]
    unfold RowT
    have h9:=Hown3.out
    rw [List.take_of_length_le (by rw [List.length_map,Hn.out];exact Nat.le_refl _),List.append_nil] at h9
    rw [List.length_append,Hn.out,List.map_append]
    exact ownsRow_mono h9 hB
   ·have hjc:¬ c=j:=hcj
    have hjc2:j≤c:=by omega
    go_wp2_with (first
     | (at_builtin;refine wpList_append_flat rfl _ _ rfl Tryz.underlying160 size9 hi0 hz0 hz1 hz2 rfl Nat.one_pos (by decide) w.heap.size 0 j (.slice none 0 0) (.slice (some ⟨g,0,none⟩) j c) [] ((l.map encStr).take j) rfl rfl (World.ownsRow_nil _ _ _ _) (Nat.le_refl _) (owns_take H.out hj) (by rw [List.length_take,List.length_map,Hn.out];omega) (fun x hx=>one_txt x (List.mem_of_mem_take hx)) (by omega) ?_;intro v1 w1 hown1 hgrow1 hat1;rw [Nat.zero_add,List.nil_append] at hown1;obtain⟨o1,c1,rfl,_⟩:=ownsRow_shape hown1;have Hown1:=Lib.hid hown1;have B1:Hid (Below w.heap.size w w1):=Lib.hid ((Below.refl _ w).grown hgrow1 (Nat.le_refl _) (fun k hk=>by cases hk));have Hat1:Hid (∀b,(Value.slice o1 j c1).ownBlock=some b→w.heap.size≤b):=Lib.hid (fun b hb=>(ownsRow_block Hown1.out hb).1);have hs1:w.heap.size≤w1.heap.size:=B1.out.size;clear hown1 hgrow1 hat1)
     | (at_builtin;refine wpList_append_lies _ rfl _ _ _ rfl w.heap.size 9 i0 _ 1 16 Tryz.underlying160 hi0 hz0 hz1 hz2 rfl Nat.one_pos (.slice o1 j c1) j ((l.map encStr).take j) rfl (ownsRow_olds Hown1.out (Olds.alloc _ _)) ⟨w1.heap.size,0,none⟩ 1 1 [encStr s] rfl rfl (World.news_of_block (cs:=#[encStr s]) (t:=9) (fr:=(0,0)) (heap_alloc_new w1 _)) (by simp [Value.oneCell']) Nat.one_pos (by unfold maxLen;omega) (by omega) (by simp;omega) (w1.heap.size+1) (by simp) ?_;intro gg cap2 w2 hown2 hgrow2 hat2 hlt2;have Hown2:=Lib.hid hown2;have B2:Hid (Below w.heap.size w w2):=Lib.hid ((B1.out.alloc hs1 _).grown hgrow2 (by simp;omega) (fun b hb=>Hat1.out b hb));have hs2:w.heap.size≤w2.heap.size:=B2.out.size;have hgg:w.heap.size≤gg:=(ownsRow_block Hown2.out (g:=gg) rfl).1;clear hown2 hgrow2 hat2)
     | (at_builtin;refine wpList_append_flat rfl _ _ rfl Tryz.underlying160 size9 hi0 hz0 hz1 hz2 rfl Nat.one_pos (by decide) w.heap.size (j+1) 0 (.slice (some ⟨gg,0,none⟩) (j+1) cap2) _ ((l.map encStr).take j++[encStr s]) [] rfl rfl Hown2.out hs2 ⟨_,_,rfl,(fun h=>by cases h),fun h=>absurd rfl h⟩ rfl (by simp) (by omega) ?_;intro v3 w3 hown3 hgrow3 hat3;have Hown3:=Lib.hid hown3;have B3:Hid (Below w.heap.size w w3):=Lib.hid (B2.out.grown hgrow3 hs2 (fun b hb=>by cases hb;exact hgg));clear hown3 hgrow3 hat3))
    go_ret
    refine⟨_,rfl,?_,B3.out⟩
    rw [Hput.out]
    unfold RowT
    have h9:=Hown3.out
    rw [List.take_of_length_le (by rw [List.length_map,Hn.out];exact Nat.le_refl _),List.append_nil] at h9
    rw [List.length_append,Hn.out,List.map_append]
    exact ownsRow_mono h9 hB
end Go.Proofs.YtbecggfbblnglaaGreatDoor
namespace Go.Proofs.YtbecggfbblnglaaGreatDoor
open Go Go.RowKit Go.Ix
def Says (p:Prop) (e:Ending):Prop:=(e=.returned (.bool true)∧p)∨(e=.returned (.bool false)∧¬ p)
theorem name_no {s:Txt}{k:Nat}{c:UInt8}(hc:s[k]?=some c) (h:okAt k c=false):¬ NameOk s:=fun hn=>by
 have:=hn.2.2 k c hc
 rw [h] at this
 cases this
theorem name_step {s:Txt}{k:Nat}{c:UInt8}(hc:s[k]?=some c) (h:okAt k c=true) (hok:∀i c,i<k→s[i]?=some c→okAt i c=true):∀i c,i<k+1→s[i]?=some c→okAt i c=true:=fun i d hi hd=>by
 by_cases hik:i<k
 ·exact hok i d hik hd
 ·obtain rfl:i=k:=by omega
  rw [hc] at hd
  cases hd
  exact h
set_option maxRecDepth 20000 in
set_option maxHeartbeats 2000000 in
theorem rname_any (s:Txt) (w:World) (hm:s.length≤1000000000):Calls Tryz.prog 109 #[encStr s] w fun e w'=>Says (NameOk s) e∧w=w':=by
 by_cases h1:1≤s.length
 ·by_cases h2:s.length≤1024
  ·go_enter Tryz.func109,Tryz.ntmps109
   go_wp2_with fail
   go_loop [3] (fun iv=>∃k:Nat,k≤s.length∧iv=.int .i64 k∧∀i c,i<k→s[i]?=some c→okAt i c=true) (fun iv=>s.length-(intOf iv).toNat)
   case atStart=>exact⟨0,Nat.zero_le _,rfl,fun i c h=>by omega⟩
   case round =>
    obtain⟨k,hk,rfl,hok⟩:=hrel
    have Hok:=Lib.hid hok
    clear hok
    by_cases hlt:k<s.length
    ·obtain⟨c,hc⟩:∃c,s[k]?=some c:=⟨_,List.getElem?_eq_getElem hlt⟩
     have hget:∀h,(⟨s.toArray⟩:ByteArray)[k]'h=c:=fun h=>(List.getElem?_eq_some_iff.1 hc).2
     have Hc:=Lib.hid hc
     clear hc
     by_cases h0:k=0
     ·subst h0
      go_wp2_with fail
      all_goals (try (rename_i hx;simp at hx))
      all_goals first
       | (exfalso;omega)
       | (go_round
          case rel=>exact⟨0+1,by omega,by go_num,name_step Hc.out (by simp [okAt,letter,digit];omega) Hok.out⟩
          case measure=>simp [intOf];omega)
       | (go_ret;exact⟨.inr ⟨rfl,name_no Hc.out (by simp [okAt,letter,digit];omega)⟩,rfl⟩)
       | (go_ret
          refine⟨.inr ⟨rfl,name_no Hc.out ?_⟩,rfl⟩
          rename_i hy _ _ _
          simp at hy
          simp [okAt,letter,digit]
          omega)
     ·go_wp2_with fail
      all_goals (try (rename_i hx;simp at hx))
      all_goals first
       | (exfalso;omega)
       | (go_round
          case rel=>exact⟨k+1,by omega,by go_num,name_step Hc.out (by simp [okAt,letter,digit];omega) Hok.out⟩
          case measure=>simp [intOf];omega)
       | (go_ret;exact⟨.inr ⟨rfl,name_no Hc.out (by simp [okAt,letter,digit];omega)⟩,rfl⟩)
       | (go_ret
          refine⟨.inr ⟨rfl,name_no Hc.out ?_⟩,rfl⟩
          rename_i hy _ _ _
          simp at hy
          simp [okAt,letter,digit]
          omega)
    ·go_wp2_with fail
     go_ret
     exact⟨.inl ⟨rfl,h1,h2,fun i c hc=>Hok.out i c (by have:=(List.getElem?_eq_some_iff.1 hc).1;omega) hc⟩,rfl⟩
  ·go_enter Tryz.func109,Tryz.ntmps109
   go_wp2_with fail
   go_ret
   exact⟨.inr ⟨rfl,fun h=>h2 h.2.1⟩,rfl⟩
 ·go_enter Tryz.func109,Tryz.ntmps109
  go_wp2_with fail
  go_ret
  exact⟨.inr ⟨rfl,fun h=>h1 h.1⟩,rfl⟩
end Go.Proofs.YtbecggfbblnglaaGreatDoor
