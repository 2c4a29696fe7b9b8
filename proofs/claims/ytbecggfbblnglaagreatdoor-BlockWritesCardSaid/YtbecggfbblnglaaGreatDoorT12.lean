/- Contracts over this program. Their conditions: the slices read as the lists that are named, and lie within the sizes that are named. -/
import Derived.Test.YtbecggfbblnglaaGreatDoorT10
import Derived.Test.YtbecggfbblnglaaGreatDoorT11
import Derived.Deep.RegionHeld
set_option linter.unusedSimpArgs false
set_option linter.unusedVariables false
set_option linter.deprecated false
set_option linter.unnecessarySimpa false
namespace Go.Proofs.YtbecggfbblnglaaGreatDoor
open Go Go.RowKit Go.Ix
structure OddBuf (w:World) (B blk:Nat) (K:Nat→Prop) (sy nm:Value) (bs:List Nat):Prop where
 lo:B≤blk
 out:¬ K blk
 row:∃g,w.heap[blk]?=some (.cells #[.slice (some ⟨g,0,none⟩) bs.length bs.length,sy,nm] 239 (0,0))∧w.heap[g]?=some (.cells (octs bs).toArray 5 (bs.length,bs.length+1))∧g≠blk∧¬ K g
theorem OddBuf.lt {w:World}{B blk:Nat}{K:Nat→Prop}{sy nm:Value}{bs:List Nat}(h:OddBuf w B blk K sy nm bs):blk<w.heap.size:=by
 obtain⟨_,_,g,h1,_⟩:=h
 exact (Array.getElem?_eq_some_iff.1 h1).1
theorem OddBuf.olds {w W:World}{B blk:Nat}{K:Nat→Prop}{sy nm:Value}{bs:List Nat}(h:OddBuf w B blk K sy nm bs) (hb:Olds w W):OddBuf W B blk K sy nm bs:=by
 have hlt:=h.lt
 obtain⟨h1,h2,g,h3,h4,h5,h6⟩:=h
 exact⟨h1,h2,g,(hb.2 _ hlt).trans h3,(hb.2 _ (Array.getElem?_eq_some_iff.1 h4).1).trans h4,h5,h6⟩
theorem OddBuf.sym {w:World}{B blk:Nat}{K:Nat→Prop}{sy nm:Value}{bs:List Nat}(h:OddBuf w B blk K sy nm bs) (sv:Value):OddBuf (w.setCell ⟨blk,1,none⟩ sv) B blk K sv nm bs:=by
 obtain⟨h1,h2,g,h3,h4,h5,h6⟩:=h
 exact⟨h1,h2,g,by simp [World.setCell,Array.getElem?_modify,h3],(Below.heap_setCell _ _ _ _ h5).trans h4,h5,h6⟩
theorem OddBuf.nums {w:World}{B blk:Nat}{K:Nat→Prop}{sy nm:Value}{bs:List Nat}(h:OddBuf w B blk K sy nm bs) (nv:Value):OddBuf (w.setCell ⟨blk,2,none⟩ nv) B blk K sy nv bs:=by
 obtain⟨h1,h2,g,h3,h4,h5,h6⟩:=h
 exact⟨h1,h2,g,by simp [World.setCell,Array.getElem?_modify,h3],(Below.heap_setCell _ _ _ _ h5).trans h4,h5,h6⟩
theorem OddBuf.there {w:World}{B blk:Nat}{K:Nat→Prop}{sy nm:Value}{bs:List Nat}(h:OddBuf w B blk K sy nm bs):∃v,w.cell? ⟨blk,0,none⟩=some v∧w.cell? ⟨blk,1,none⟩=some sy∧w.cell? ⟨blk,2,none⟩=some nm∧w.frozen? ⟨blk,0,none⟩=false∧w.frozen? ⟨blk,1,none⟩=false∧w.frozen? ⟨blk,2,none⟩=false:=by
 obtain⟨_,_,g,h3,_⟩:=h
 exact⟨.slice (some ⟨g,0,none⟩) bs.length bs.length,by simp [World.cell?,h3],by simp [World.cell?,h3],by simp [World.cell?,h3],by simp [World.frozen?,h3],by simp [World.frozen?,h3],by simp [World.frozen?,h3]⟩
theorem OddBuf.more {w:World}{B blk:Nat}{K:Nat→Prop}{sy nm:Value}{bs:List Nat}(h:OddBuf w B blk K sy nm bs) {K':Nat→Prop}(hg:∀b,K' b→w.heap.size≤b):OddBuf w B blk (fun b=>K b∨K' b) sy nm bs:=by
 have hlt:=h.lt
 obtain⟨h1,h2,g,h3,h4,h5,h6⟩:=h
 have hgl:=(Array.getElem?_eq_some_iff.1 h4).1
 exact⟨h1,fun hk=>hk.elim h2 fun h=>by have:=hg _ h;omega,g,h3,h4,h5,fun hk=>hk.elim h6 fun h=>by have:=hg _ h;omega⟩
theorem OddBuf.less {w:World}{B blk:Nat}{K K':Nat→Prop}{sy nm:Value}{bs:List Nat}(h:OddBuf w B blk K' sy nm bs) (hK:∀b,K b→K' b):OddBuf w B blk K sy nm bs:=by
 obtain⟨h1,h2,g,h3,h4,h5,h6⟩:=h
 exact⟨h1,fun hk=>h2 (hK _ hk),g,h3,h4,h5,fun hk=>h6 (hK _ hk)⟩
theorem run_append_full {W:World}{B g n:Nat}{xs:List Value}(hB:B≤W.heap.size) (hl:xs.length=n) (hc:∀j u,xs[j]?=some u→W.cell? ⟨g,j,none⟩=some u) (x:Value) (a c:Nat) (hx:W.cell? ⟨a,0,none⟩=some x) (hn:n≤100000000008) :
  ∃cap w',(∀ty,(Builtin.append_ #[26,26] ty #[.slice (some ⟨g,0,none⟩) n n,.slice (some ⟨a,0,none⟩) 1 c]).run Tryz.prog W=.ok (.slice (some ⟨W.heap.size,0,none⟩) (n+1) cap) w')∧w'.ownsRow B 5 1 (.slice (some ⟨W.heap.size,0,none⟩) (n+1) cap) (n+1) (xs++[x])∧W.grownBy w' none:=by
 obtain⟨i0,hi0,hz0,hz1,hz2⟩:=info_parts Tryz.info5
 have hr:=fun ty=>run_append_grow (P:=Tryz.prog) W 26 ty 5 i0 (.int .u8 0) Tryz.underlying26 hi0 hz0 ⟨g,0,none⟩ n n xs (by rw [hz1];omega) (fun j u hu=>by
  have:=hc j u hu
  rw [show (⟨g,0,none⟩:Addr).add j=⟨g,j,none⟩ by simp [Addr.add];omega]
  exact this) ⟨a,0,none⟩ 1 c [x] (by rw [hz1];rfl) (fun j u hu=>by
   have hj:j=0:=by
    have:=(List.getElem?_eq_some_iff.1 hu).1
    simp at this
    omega
   subst hj
   simp at hu
   subst hu
   rw [show (⟨a,0,none⟩:Addr).add 0=⟨a,0,none⟩ by simp [Addr.add]]
   exact hx) (by omega) (by omega) (by rw [hz2];exact growslice_fits (by omega) (by omega))
 refine⟨_,_,hr,⟨by simp [hl],.inr ⟨W.heap.size,_,_,rfl,hB,heap_alloc_new W.drew _,?_,?_,?_,?_⟩⟩,⟨rfl,rfl,rfl,by simp,fun k hk _=>Below.heap_alloc W.drew _ k hk⟩⟩
 ·exact grownCap_ge W (n+1) n 5
 ·exact grownCap_le_maxLen W (n+1) n 5 (by unfold maxLen;omega)
 ·have:=grownCap_ge W (n+1) n 5
  simp only [Array.size_append,List.size_toArray,size_zeroCells,hl,List.length_cons,List.length_nil]
  simp [Value.cells]
  omega
 ·simp only [Array.toList_append,List.append_assoc]
  rw [← List.append_assoc]
  have:(xs++[x]).length=(n+1) * 1:=by simp [hl]
  rw [← this]
  exact List.take_left
theorem wpList_append_run {ops:Array Oper}{rest:List Oper}{o:Oper}{a:Act}{Q:Exit→Act→World→Prop}{W:World}(hgd:o.guard=none) (s x:Operand)
  (ho:o.op=.call { callee:=.builtin .append,args:=#[s,x],argTypes:=#[26,26] }) (v u v':Value) (w':World) (hsv:a.eval s=v) (hxv:a.eval x=u)
  (hrun:∀ty,(Builtin.append_ #[26,26] ty #[v,u]).run Tryz.prog W=.ok v' w') (h:wpList Tryz.prog ops Q rest (a.put o.dst v') w'):wpList Tryz.prog ops Q (o :: rest) a W :=
 wpList_plain hgd fun K hK=>by
  unfold Oper.wp execOp
  simp only [ho,resolve,invoke,builtin,Sem.run_bind,Sem.run_pure,Result.andThen_ok,List.map_toArray,List.map_cons,List.map_nil,hsv,hxv,hrun o.type]
  exact hK _ _ h
set_option maxRecDepth 20000 in
set_option maxHeartbeats 1000000 in
theorem low_odd {w:World}{B blk:Nat}{K:Nat→Prop}{sy nm:Value}{bs:List Nat}(n many:Nat) (h:OddBuf w B blk K sy nm bs) (hK:∀k,K k→k<w.heap.size) (hB:B≤w.heap.size) (hn:n<18446744073709551616) (hm:many≤8) (hm1:1≤many) (hl:bs.length≤100000000000) :
  Calls Tryz.prog 101 #[.pointer (some ⟨blk,0,none⟩),.int .u64 n,.int .i64 many] w fun e w'=>e=.returned (.tuple #[])∧Buf w' B blk K sy nm (bs++low many n)∧Kept K w w':=by
 obtain⟨i0,hi0,hz0,hz1,hz2⟩:=info_parts Tryz.info5
 have HK:=Lib.hid hK
 have H:=Lib.hid h
 clear hK h
 go_enter Tryz.func101,Tryz.ntmps101
 go_wp2_with fail
 go_loopw [1,7] (fun nv iv wr=>∃(k m:Nat) (ds:List Nat),k≤many∧iv=.int .i64 k∧nv=.int .u64 m∧m<18446744073709551616∧ds.length=k∧low many n=ds++low (many-k) m∧(Buf wr B blk K sy nm (bs++ds)∨(k=0∧OddBuf wr B blk K sy nm (bs++ds)))∧Kept K w wr) (fun _ iv _=>many-(intOf iv).toNat)
 case atStart=>exact⟨0,n,[],Nat.zero_le _,rfl,rfl,hn,rfl,rfl,by rw [List.append_nil];exact .inr ⟨rfl,H.out⟩,Kept.refl _ _⟩
 case round =>
  obtain⟨k,m,ds,hk,rfl,rfl,hm64,hdl,hlow,hbuf,hkept⟩:=hrel
  have Hlow:=Lib.hid hlow
  have Hkept:=Lib.hid hkept
  rcases hbuf with hbuf|⟨rfl,hodd⟩
  rotate_left
  ·have Hodd:=Lib.hid hodd
   obtain⟨hlo,hout,g0,hh,hg,hgne,hgK⟩:=hodd
   obtain rfl:ds=[]:=List.eq_nil_of_length_eq_zero hdl
   rw [List.append_nil] at Hodd hh hg
   have hlt':blk<wr.heap.size:=(Array.getElem?_eq_some_iff.1 hh).1
   have hsz:=hkept.size
   have hc:wr.cell? ⟨blk,0,none⟩=some (.slice (some ⟨g0,0,none⟩) bs.length bs.length):=by simp [World.cell?,hh]
   have hf:wr.frozen? ⟨blk,0,none⟩=false:=by simp [World.frozen?,hh]
   have Hh:=Lib.hid hh
   have Hg:=Lib.hid hg
   have hgl:=(Array.getElem?_eq_some_iff.1 hg).1
   clear hlow hkept hh hg
   have hbl':(octs bs).length=bs.length:=octs_len bs
   obtain⟨N,hN⟩:∃N,N=bs.length:=⟨_,rfl⟩
   rw [← hN] at hc hbl' hl
   have HN:=Lib.hid hN
   rw [← hN] at Hh Hg
   clear hN
   obtain⟨cap2,w4,hrun,hown4,hgrow⟩:=run_append_full (W:=wr.alloc (.cells #[.int .u8 ((m:Int) % 256)] 5)) (B:=B) (g:=g0) (n:=N) (xs:=octs bs) (by simp;omega) hbl' (fun j u hu=>by
    have h9:(wr.alloc (.cells #[.int .u8 ((m:Int) % 256)] 5)).heap[g0]?=some (.cells (octs bs).toArray 5 (N,N+1)):=(Below.heap_alloc _ _ g0 hgl).trans Hg.out
    simp only [World.cell?,h9]
    simpa using hu) (.int .u8 ((m:Int) % 256)) wr.heap.size 1 (by
    have h9:=heap_alloc_new wr (.cells #[.int .u8 ((m:Int) % 256)] 5)
    simp only [World.cell?,h9]
    rfl) (by omega)
   have hsa:(wr.alloc (.cells #[.int .u8 ((m:Int) % 256)] 5)).heap.size=wr.heap.size+1:=by simp
   rw [hsa] at hrun hown4
   have hb4:w4.heap[blk]?=some (.cells #[.slice (some ⟨g0,0,none⟩) N N,sy,nm] 239 (0,0)):=((hgrow.block blk (by omega) (by simp)).trans (Below.heap_alloc _ _ blk hlt')).trans Hh.out
   have hc4:w4.cell? ⟨blk,0,none⟩=some (.slice (some ⟨g0,0,none⟩) N N):=by simp [World.cell?,hb4]
   have hf4:w4.frozen? ⟨blk,0,none⟩=false:=by simp [World.frozen?,hb4]
   have Hown4:=Lib.hid hown4
   have Hb4:=Lib.hid hb4
   have Hgrow:=Lib.hid hgrow
   have Hrun:=Lib.hid hrun
   clear hown4 hb4 hgrow hrun
   go_wp2_with (at_builtin;refine wpList_append_run rfl _ _ rfl _ _ _ w4 rfl rfl Hrun.out ?_)
   have Hnew:Hid (Buf (w4.setCell ⟨blk,0,none⟩ (.slice (some ⟨wr.heap.size+1,0,none⟩) (N+1) cap2)) B blk K sy nm (bs++([]++[m % 256]))):=Lib.hid (buf_store hlo hout Hb4.out (by
    rw [List.nil_append,octs_append]
    exact Hown4.out) (by rw [List.nil_append,List.length_append,← HN.out];rfl) (fun h=>by have:=HK.out _ h;omega) (by omega))
   have Hk4:Hid (Kept K w (w4.setCell ⟨blk,0,none⟩ (.slice (some ⟨wr.heap.size+1,0,none⟩) (N+1) cap2))):=Lib.hid
    (((Hkept.out.alloc HK.out _).grown Hgrow.out HK.out (fun k hk=>by cases hk)).setCell hout _)
   go_roundw
   case rel=>exact⟨1,m / 256,[m % 256],by omega,by go_num,by congr 1,by omega,rfl,by
    rw [Hlow.out,show many-0=(many-1)+1 by omega,low_step]
    rfl,.inl Hnew.out,Hk4.out⟩
   case measure=>simp [intOf];omega
  have Hbuf:=Lib.hid hbuf
  obtain⟨hlo,hout,v,hh,hrow,hfree,hne⟩:=hbuf
  have hlt':blk<wr.heap.size:=by
   rcases Nat.lt_or_ge blk wr.heap.size with h | h
   ·exact h
   ·rw [Array.getElem?_eq_none h] at hh;cases hh
  have hsz:=hkept.size
  have hc:wr.cell? ⟨blk,0,none⟩=some v:=by simp [World.cell?,hh]
  have hf:wr.frozen? ⟨blk,0,none⟩=false:=by simp [World.frozen?,hh]
  unfold Row8 at hrow
  obtain⟨o,c,rfl,_⟩:=ownsRow_shape hrow
  have Hrow:=Lib.hid hrow
  have Hh:=Lib.hid hh
  have Hfree:=Lib.hid hfree
  have Hne:=Lib.hid hne
  have hbl:(bs++ds).length=bs.length+k:=by rw [List.length_append,hdl]
  clear hlow hkept hrow hh hfree hne
  generalize hN:(bs++ds).length=N at *
  have HN:=Lib.hid hN
  have hNb:N≤100000000008:=by omega
  clear hN hbl
  by_cases hlt:k<many
  ·go_wp2_with (at_builtin;refine wpList_append_lies _ rfl _ _ _ rfl B 5 i0 _ 1 1 Tryz.underlying26 hi0 hz0 hz1 hz2 rfl Nat.one_pos (.slice o N c) N (octs (bs++ds)) rfl (ownsRow_olds Hrow.out (Olds.alloc _ _)) ⟨wr.heap.size,0,none⟩ 1 1 [.int .u8 ((m:Int) % 256)] rfl rfl (World.news_of_block (cs:=#[.int .u8 ((m:Int) % 256)]) (t:=5) (fr:=(0,0)) (heap_alloc_new wr _)) (by simp [Value.oneCell']) Nat.one_pos (by unfold maxLen;omega) (by omega) (by simp;omega) (wr.heap.size+1) (by simp) ?_;intro gg cap2 w4 hown4 hgrow hat hlt4;have hb4:w4.heap[blk]?=some (.cells #[.slice o N c,sy,nm] 239 (0,0)):=((hgrow.block blk (by simp;omega) (fun e=>Hne.out e.symm)).trans ((Olds.alloc wr _).2 blk hlt')).trans Hh.out;have hc4:w4.cell? ⟨blk,0,none⟩=some (.slice o N c):=(by simp [World.cell?,hb4]);have hf4:w4.frozen? ⟨blk,0,none⟩=false:=(by simp [World.frozen?,hb4]))
   have Hg:Hid (¬ K gg∧gg≠blk):=Lib.hid (by
    rcases hat with e | e
    ·exact⟨Hfree.out gg e,fun h=>Hne.out (h ▸ e)⟩
    ·exact⟨fun h=>by have:=HK.out gg h;omega,by omega⟩)
   have Hnew:Hid (Buf (w4.setCell ⟨blk,0,none⟩ (.slice (some ⟨gg,0,none⟩) (N+1) cap2)) B blk K sy nm (bs++(ds++[m % 256]))):=Lib.hid (buf_store hlo hout hb4 (by
    rw [← List.append_assoc,octs_append]
    exact hown4) (by rw [← List.append_assoc,List.length_append,HN.out];rfl) Hg.out.1 Hg.out.2)
   have Hk4:Hid (Kept K w (w4.setCell ⟨blk,0,none⟩ (.slice (some ⟨gg,0,none⟩) (N+1) cap2))):=Lib.hid
    (((Hkept.out.alloc HK.out _).grown hgrow HK.out Hfree.out).setCell hout _)
   go_roundw
   case rel=>exact⟨k+1,m / 256,ds++[m % 256],by omega,by go_num,by congr 1,by omega,by rw [List.length_append,hdl];rfl,by
    rw [Hlow.out,show many-k=(many-(k+1))+1 by omega,low_step,List.append_assoc]
    rfl,.inl Hnew.out,Hk4.out⟩
   case measure=>simp [intOf];omega
  ·go_wp2_with fail
   go_end0
   obtain rfl:k=many:=by omega
   refine⟨rfl,?_,Hkept.out⟩
   have:=Hlow.out
   rw [Nat.sub_self] at this
   rw [this]
   show Buf wr B blk K sy nm (bs++(ds++[]))
   rw [List.append_nil]
   exact Hbuf.out
set_option maxHeartbeats 400000 in
theorem count_odd {w:World}{B blk:Nat}{K:Nat→Prop}{sy nm:Value}{bs:List Nat}(n:Nat) (h:OddBuf w B blk K sy nm bs) (hK:∀k,K k→k<w.heap.size) (hB:B≤w.heap.size) (hn:n<9223372036854775808) (hl:bs.length≤100000000000) :
  Calls Tryz.prog 98 #[.pointer (some ⟨blk,0,none⟩),.int .i64 n] w fun e w'=>e=.returned (.tuple #[])∧Buf w' B blk K sy nm (bs++low 4 n)∧Kept K w w':=by
 have H:=Lib.hid (low_odd n 4 h hK hB (by omega) (by decide) (by decide) hl)
 clear h hK
 go_enter Tryz.func98,Tryz.ntmps98
 go_wp2_with (go_at_call 101;refine H.out.mono ?_;rintro e w' ⟨rfl,h1,h2⟩;have H1:=Lib.hid h1;have H2:=Lib.hid h2;clear h1 h2)
 go_end0
 exact⟨rfl,H1.out,H2.out⟩
end Go.Proofs.YtbecggfbblnglaaGreatDoor
namespace Go.Proofs.YtbecggfbblnglaaGreatDoor
open Go Go.RowKit Go.Ix Go.Maps
theorem SetAt.store {w:World}{b n:Nat}{S:List Txt}(h:SetAt w b n S) (s:Txt) (hs:s.length≤1000000000) (hn:n<1000000000) :
  ∃w',(Instr.mapUpdate 307 (.map (some b)) (encStr s) (.bool true)).run Tryz.prog w=.ok () w'∧SetAt w' b (n+1) (S++[s])∧w.grownBy w' (some b):=by
 obtain⟨D,h,hD⟩:=h
 obtain⟨w',h1,h2,h3⟩:=h.update (t:=307) (e:=4) Tryz.lawT Tryz.underlying307 (by unfold maxLen;omega) (keyT s hs) (plainElem_bool Tryz.underlying4 true)
 refine⟨w',h1,⟨_,h2,fun t=>?_⟩,h3⟩
 by_cases ht:t=s
 ·subst ht
  refine⟨?_,?_⟩
  ·rw [atKey_put_same h.isMap (k:=.string t) trivial]
   simp
  ·rw [has_put_same h.isMap (k:=.string t) trivial]
   simp
 ·have hne:(Lit.string t)≠Lit.string s:=fun e=>ht (by cases e;rfl)
  refine⟨?_,?_⟩
  ·rw [atKey_put_other hne,(hD t).1]
   simp [ht]
  ·rw [has_put_other hne,(hD t).2]
   simp [ht]
def NumK (w:World) (mb n:Nat) (ss:List Txt):Prop :=
 ∃D:DataW Unit,w.ownsMap Tryz.prog 9 (plainElem Tryz.prog 3) mb n D∧∀(i:Nat) (s:Txt),ss[i]?=some s→D.atKey (.string s) (.lit (.int .i64 0))=.lit (.int .i64 (i:Int))
theorem NumK.num {w:World}{mb n:Nat}{ss:List Txt}(h:NumK w mb n ss):NumAt w mb ss:=⟨n,h⟩
theorem NumK.made (w:World):NumK (w.alloc (.map #[] 0)) w.heap.size 0 []:=⟨.map [],World.ownsMap_made w _ _ _,fun i s h=>by simp at h⟩
theorem NumK.block {w W:World}{mb n:Nat}{ss:List Txt}(h:NumK w mb n ss) (hb:W.heap[mb]?=w.heap[mb]?):NumK W mb n ss:=by
 obtain⟨D,⟨es,clock,h1,h2⟩,h3⟩:=h
 exact⟨D,⟨es,clock,hb.trans h1,h2⟩,h3⟩
theorem NumK.lt {w:World}{mb n:Nat}{ss:List Txt}(h:NumK w mb n ss):mb<w.heap.size:=by
 obtain⟨D,h,_⟩:=h
 exact h.lt
theorem wpList_num_store {ops:Array Oper}{rest:List Oper}{o:Oper}{a:Act}{Q:Exit→Act→World→Prop}{W:World}(hg:o.guard=none) (m x v:Operand) (hop:o.op=Op.mapUpdate 237 m x v) (b n:Nat) (ss:List Txt) (s:Txt)
  (hm:a.eval m=.map (some b)) (hx:a.eval x=encStr s) (hv:a.eval v=.int .i64 (ss.length:Nat)) (h:NumK W b n ss) (hs:s.length≤1000000000) (hn:n<1000000000) (hl:ss.length≤1000000000) (hno:s∉ss)
  (hK:∀w',NumK w' b (n+1) (ss++[s])→W.grownBy w' (some b)→wpList Tryz.prog ops Q rest (a.put o.dst undef) w'):wpList Tryz.prog ops Q (o :: rest) a W:=by
 obtain⟨D,h,hD⟩:=h
 refine wpList_mapUpdate_own W hg m x v 237 hop 9 3 Tryz.lawT Tryz.underlying237 (plainElem Tryz.prog 3) b n D hm h (by unfold maxLen;omega) _ _ (.string s) hx hv (keyT s hs) (.lit (.int .i64 (ss.length:Nat))) [] (plainElem_int Tryz.underlying3 (WalkArith.wf_i64 (by omega))) fun w' h1 h2=>hK w' ⟨_,h1,fun i t ht=>?_⟩ h2
 rcases Nat.lt_or_ge i ss.length with hi | hi
 ·rw [List.getElem?_append_left hi] at ht
  have hne:(Lit.string t)≠Lit.string s:=fun e=>hno (by cases e;exact List.mem_of_getElem? ht)
  rw [atKey_put_other hne]
  exact hD i t ht
 ·rw [List.getElem?_append_right hi] at ht
  have hi0:i-ss.length=0:=by
   have:=(List.getElem?_eq_some_iff.1 ht).1
   simp at this
   omega
  rw [hi0] at ht
  simp at ht
  subst ht
  rw [atKey_put_same h.isMap (k:=.string s) trivial]
  have:i=ss.length:=by omega
  rw [this]
theorem buf_put {w:World}{B blk:Nat}{K:Nat→Prop}{sy nm v v':Value}{bs:List Nat}(hlo:B≤blk) (hout:¬ K blk) (hb:w.heap[blk]?=some (.cells #[v,sy,nm] 239 (0,0)))
  (hown:w.ownsRow B 5 1 v' bs.length (octs bs)) (hf:Free K v') (hgb:v'.ownBlock≠some blk):Buf (w.setCell ⟨blk,0,none⟩ v') B blk K sy nm bs:=by
 refine⟨hlo,hout,v',?_,?_,hf,hgb⟩
 ·simp [World.setCell,Array.getElem?_modify,hb]
 ·exact ownsRow_blocks hown fun g hg=>Below.heap_setCell _ _ _ _ (fun e=>hgb ((show g=blk from e) ▸ hg))
theorem Buf.sym {w:World}{B blk:Nat}{K:Nat→Prop}{sy nm:Value}{bs:List Nat}(h:Buf w B blk K sy nm bs) (sv:Value):Buf (w.setCell ⟨blk,1,none⟩ sv) B blk K sv nm bs:=by
 obtain⟨h1,h2,v,h3,h4,h5,h6⟩:=h
 refine⟨h1,h2,v,?_,?_,h5,h6⟩
 ·simp [World.setCell,Array.getElem?_modify,h3]
 ·exact ownsRow_blocks h4 fun g hg=>Below.heap_setCell _ _ _ _ (fun e=>h6 ((show g=blk from e) ▸ hg))
theorem Buf.nums {w:World}{B blk:Nat}{K:Nat→Prop}{sy nm:Value}{bs:List Nat}(h:Buf w B blk K sy nm bs) (nv:Value):Buf (w.setCell ⟨blk,2,none⟩ nv) B blk K sy nv bs:=by
 obtain⟨h1,h2,v,h3,h4,h5,h6⟩:=h
 refine⟨h1,h2,v,?_,?_,h5,h6⟩
 ·simp [World.setCell,Array.getElem?_modify,h3]
 ·exact ownsRow_blocks h4 fun g hg=>Below.heap_setCell _ _ _ _ (fun e=>h6 ((show g=blk from e) ▸ hg))
theorem Buf.there {w:World}{B blk:Nat}{K:Nat→Prop}{sy nm:Value}{bs:List Nat}(h:Buf w B blk K sy nm bs):∃v,w.cell? ⟨blk,0,none⟩=some v∧w.cell? ⟨blk,1,none⟩=some sy∧w.cell? ⟨blk,2,none⟩=some nm∧w.frozen? ⟨blk,0,none⟩=false∧w.frozen? ⟨blk,1,none⟩=false∧w.frozen? ⟨blk,2,none⟩=false:=by
 obtain⟨_,_,v,h3,_⟩:=h
 exact⟨v,by simp [World.cell?,h3],by simp [World.cell?,h3],by simp [World.cell?,h3],by simp [World.frozen?,h3],by simp [World.frozen?,h3],by simp [World.frozen?,h3]⟩
theorem Buf.also {w:World}{B blk:Nat}{K K':Nat→Prop}{sy nm:Value}{bs:List Nat}(h:Buf w B blk K sy nm bs) (ho:¬ K' blk) (hr:∀v g,w.cell? ⟨blk,0,none⟩=some v→v.ownBlock=some g→¬ K' g):Buf w B blk (fun b=>K b∨K' b) sy nm bs:=by
 obtain⟨h1,h2,v,h3,h4,h5,h6⟩:=h
 have hc:w.cell? ⟨blk,0,none⟩=some v:=by simp [World.cell?,h3]
 exact⟨h1,fun hk=>hk.elim h2 ho,v,h3,h4,fun q hq hk=>hk.elim (h5 q hq) (hr v q hc hq),h6⟩
def TabBuf (w:World) (B blk:Nat) (K:Nat→Prop) (sy nm:Value) (bs:List Nat):Prop:=OddBuf w B blk K sy nm bs∨Buf w B blk K sy nm bs
section
variable {w W:World}{B blk:Nat}{K K':Nat→Prop}{sy nm:Value}{bs:List Nat}
theorem TabBuf.out (h:TabBuf w B blk K sy nm bs):¬ K blk:=h.elim OddBuf.out Buf.out
theorem TabBuf.lo (h:TabBuf w B blk K sy nm bs):B≤blk:=h.elim OddBuf.lo Buf.lo
theorem TabBuf.lt (h:TabBuf w B blk K sy nm bs):blk<w.heap.size:=h.elim OddBuf.lt Buf.lt
theorem TabBuf.olds (h:TabBuf w B blk K sy nm bs) (hb:Olds w W):TabBuf W B blk K sy nm bs:=h.imp (fun h=>h.olds hb) (fun h=>h.olds hb)
theorem TabBuf.sym (h:TabBuf w B blk K sy nm bs) (sv:Value):TabBuf (w.setCell ⟨blk,1,none⟩ sv) B blk K sv nm bs:=h.imp (fun h=>h.sym sv) (fun h=>h.sym sv)
theorem TabBuf.nums (h:TabBuf w B blk K sy nm bs) (nv:Value):TabBuf (w.setCell ⟨blk,2,none⟩ nv) B blk K sy nv bs:=h.imp (fun h=>h.nums nv) (fun h=>h.nums nv)
theorem TabBuf.there (h:TabBuf w B blk K sy nm bs):∃v,w.cell? ⟨blk,0,none⟩=some v∧w.cell? ⟨blk,1,none⟩=some sy∧w.cell? ⟨blk,2,none⟩=some nm∧w.frozen? ⟨blk,0,none⟩=false∧w.frozen? ⟨blk,1,none⟩=false∧w.frozen? ⟨blk,2,none⟩=false:=h.elim OddBuf.there Buf.there
theorem TabBuf.more (h:TabBuf w B blk K sy nm bs) {K':Nat→Prop}(hg:∀b,K' b→w.heap.size≤b):TabBuf w B blk (fun b=>K b∨K' b) sy nm bs:=h.imp (fun h=>h.more hg) (fun h=>by
 have hlt:=h.lt
 refine h.also (fun hk=>by have:=hg _ hk;omega) fun v g hv hgv hk=>?_
 obtain⟨_,_,v',h3,h4,_⟩:=h
 have e:v'=v:=by
  have:w.cell? ⟨blk,0,none⟩=some v':=by simp [World.cell?,h3]
  rw [this] at hv
  exact Option.some.inj hv
 rw [← e] at hgv
 have:=(ownsRow_block h4 hgv).2
 have:=hg _ hk
 omega)
theorem TabBuf.less (h:TabBuf w B blk K' sy nm bs) (hK:∀b,K b→K' b):TabBuf w B blk K sy nm bs:=h.imp (fun h=>h.less hK) (fun h=>h.less hK)
theorem count_tab (n:Nat) (h:TabBuf w B blk K sy nm bs) (hK:∀k,K k→k<w.heap.size) (hB:B≤w.heap.size) (hn:n<9223372036854775808) (hl:bs.length≤100000000000) :
  Calls Tryz.prog 98 #[.pointer (some ⟨blk,0,none⟩),.int .i64 n] w fun e w'=>e=.returned (.tuple #[])∧Buf w' B blk K sy nm (bs++low 4 n)∧Kept K w w':=h.elim (fun h=>count_odd n h hK hB hn hl) (fun h=>count_any n h hK hB hn hl)
end
theorem Buf.grown {w w':World}{B blk m:Nat}{K:Nat→Prop}{sy nm:Value}{bs:List Nat}(h:Buf w B blk K sy nm bs) (hg:w.grownBy w' (some m)) (hm:K m):Buf w' B blk K sy nm bs:=by
 have hlt:=h.lt
 obtain⟨h1,h2,v,h3,h4,h5,h6⟩:=h
 refine⟨h1,h2,v,(hg.block blk hlt fun e=>h2 ((Option.some.inj e) ▸ hm)).trans h3,?_,h5,h6⟩
 exact ownsRow_blocks h4 fun g hgv=>hg.block g (ownsRow_block h4 hgv).2 fun e=>h5 g hgv ((Option.some.inj e) ▸ hm)
set_option maxRecDepth 20000 in
set_option maxHeartbeats 1000000 in
theorem table_anyS {w:World}{B blk:Nat}{K:Nat→Prop}{sy nm:Value}{bs:List Nat}(o:Option Addr) (n c:Nat) (l:List Ent) (hn:l.length=n) (hs:Small l) (hL:lblsOf l≤4000) (hc:RowsE w o l) (h1024:∀s∈symbols l,s.length≤1024)
  (hB:B≤w.heap.size) (hK:∀b,K b→b<w.heap.size) (hbuf:TabBuf w B blk K sy nm bs) (hbl:bs.length≤100000000) :
  Calls Tryz.prog 97 #[.pointer (some ⟨blk,0,none⟩),.slice o n c] w fun e w'=>e=.returned (.tuple #[])∧∃sv mb,Buf w' B blk (fun b=>(K b∨sv.ownBlock=some b)∨b=mb) sv (.map (some mb)) (bs++low 4 (symbols l).length++symPart (symbols l))∧Kept K w w'∧NumAt w' mb (symbols l)∧(∀b,((K b∨sv.ownBlock=some b)∨b=mb)→b<w'.heap.size)∧∃so sn sc,sv=.slice so sn sc:=by
 have Hc:=Lib.hid hc
 have Hs:=Lib.hid hs
 have Hn:=Lib.hid hn
 have HL:=Lib.hid hL
 have H24:=Lib.hid h1024
 have HK:=Lib.hid hK
 have Hbuf:=Lib.hid hbuf
 have hmm:=@run_makeMap Tryz.prog
 have hm:=hs.1
 have hblk:=hbuf.lt
 rw [hn] at hm
 clear hc hs hn hL h1024 hK hbuf
 go_enter Tryz.func97,Tryz.ntmps97
 go_wp2_with fail
 go_loopw [6,8,14] (fun _ _ iv wr=>∃(k q:Nat),k≤n∧iv=.int .i64 k∧Below w.heap.size w wr∧q≤(texts (l.take k)).length∧SetAt wr w.heap.size q (texts (l.take k))) (fun _ _ iv _=>n-(intOf iv).toNat)
 case atStart=>exact⟨0,0,Nat.zero_le _,rfl,(Below.refl _ w).alloc (Nat.le_refl _) _,Nat.zero_le _,by rw [List.take_zero];exact SetAt.made w⟩
 case round =>
  obtain⟨k,q,hk,rfl,hb,hq,hset⟩:=hrel
  have Hb:=Lib.hid hb
  have hsz:=hb.size
  have Hset:=Lib.hid hset
  have Hq:=Lib.hid hq
  have hset_lt:=hset.lt
  clear hb hset hq
  by_cases hlt:k<n
  ·obtain⟨b,off,e1,e2,o1,n1,c1,o2,n2,c2,rfl,hx,hc1,hc2,hl1,hl2,hr1,hr2,_⟩:=Hc.out.at (k:=k) (by rw [Hn.out];exact hlt)
   obtain⟨hs1,hs2,hs3⟩:=Hs.out.ent hx
   have hcr1:=(Olds.of_below Hb.out).cell hc1
   have hcr2:=(Olds.of_below Hb.out).cell hc2
   have hn1:n1≤1000000000:=by omega
   have Hx:=Lib.hid hx
   have Hr1:=Lib.hid hr1
   have Hl1:=Lib.hid hl1
   have HS3:=Lib.hid hs3
   have hcap:(texts (l.take k)).length+2 * n1≤8000:=by
    have h1:=lblsOf_at hx
    have h2:=HL.out
    rw [texts_len]
    simp only at h1
    omega
   clear hx hr1 hr2 hl1 hl2 hs3 hc1 hc2
   go_wp2_with fail
   go_loopw [8,21] (fun _ jv wq=>∃j q:Nat,j≤n1∧jv=.int .i64 j∧Below w.heap.size w wq∧q≤(texts (l.take k)++textsL (e1.take j)).length∧SetAt wq w.heap.size q (texts (l.take k)++textsL (e1.take j))) (fun _ jv _=>n1-(intOf jv).toNat)
   case atStart=>exact⟨0,q,Nat.zero_le _,rfl,Hb.out.alloc hsz _,by rw [List.take_zero];show _≤(_++[]).length;rw [List.append_nil];exact Hq.out,by rw [List.take_zero];show SetAt _ _ _ (_++[]);rw [List.append_nil];exact Hset.out.olds (Olds.alloc _ _)⟩
   case round =>
    obtain⟨j,q2,hj,rfl,hbq,hq2,hset2⟩:=hrel
    have Hbq:=Lib.hid hbq
    have hszq:=hbq.size
    have Hset2:=Lib.hid hset2
    have hlt2:=hset2.lt
    have Hq2:=Lib.hid hq2
    have hq2b:q2≤8000:=by
     rw [List.length_append,textsL_len,List.length_take] at hq2
     have h1:=Hl1.out
     omega
    clear hbq hset2 hq2
    by_cases hjn:j<n1
    ·obtain⟨b2,off2,y1,y2,rfl,hy,hy1,hy2⟩:=Hr1.out.at (k:=j) (by rw [Hl1.out];exact hjn)
     obtain⟨hly1,hly2⟩:=HS3.out _ (List.mem_of_getElem? hy)
     simp only at hly1 hly2
     have hyq1:=(Olds.of_below Hbq.out).cell hy1
     have hyq2:=(Olds.of_below Hbq.out).cell hy2
     have Hy:=Lib.hid hy
     obtain⟨Y,hY⟩:∃Y:World,Y=wr.alloc (.cells #[encStr y1,encStr y2] 80):=⟨_,rfl⟩
     have hYb:Y.heap[wr.heap.size]?=some (.cells #[encStr y1,encStr y2] 80 (0,0)):=by rw [hY];exact heap_alloc_new _ _
     have HbY:Hid (Below w.heap.size w Y):=Lib.hid (by rw [hY];exact Hbq.out.alloc hszq _)
     have hsetY:SetAt Y w.heap.size q2 (texts (l.take k)++textsL (e1.take j)):=by rw [hY];exact Hset2.out.olds (Olds.alloc _ _)
     obtain⟨W1,hm1,hset1,hg1⟩:=SetAt.store (w:=Y.drew) (hsetY.olds (Olds.drewN Y 1)) y1 hly1 (by omega)
     obtain⟨W2,hm2,hset3,hg2⟩:=hset1.store y2 hly2 (by omega)
     have hne:wr.heap.size≠w.heap.size:=by omega
     have hYs:wr.heap.size<Y.drew.heap.size:=by rw [hY];simp
     have hd0:Y.drew.cell? ⟨wr.heap.size,0,none⟩=some (encStr y1):=(show Y.cell? ⟨wr.heap.size,0,none⟩=_ by simp [World.cell?,hYb])
     have hd1:Y.drew.cell? ⟨wr.heap.size,1,none⟩=some (encStr y2):=(show Y.cell? ⟨wr.heap.size,1,none⟩=_ by simp [World.cell?,hYb])
     have hb1:W1.heap[wr.heap.size]?=some (.cells #[encStr y1,encStr y2] 80 (0,0)):=(hg1.block _ hYs (fun e=>hne (Option.some.inj e))).trans hYb
     have hb2:W2.heap[wr.heap.size]?=some (.cells #[encStr y1,encStr y2] 80 (0,0)):=(hg2.block _ (Nat.lt_of_lt_of_le hYs hg1.size) (fun e=>hne (Option.some.inj e))).trans hb1
     have hw10:W1.cell? ⟨wr.heap.size,0,none⟩=some (encStr y1):=by simp [World.cell?,hb1]
     have hw11:W1.cell? ⟨wr.heap.size,1,none⟩=some (encStr y2):=by simp [World.cell?,hb1]
     have hw20:W2.cell? ⟨wr.heap.size,0,none⟩=some (encStr y1):=by simp [World.cell?,hb2]
     have hw21:W2.cell? ⟨wr.heap.size,1,none⟩=some (encStr y2):=by simp [World.cell?,hb2]
     have HB2:Hid (Below w.heap.size w W2):=Lib.hid (by
      have h1:Below w.heap.size w Y.drew:=below_drewN HbY.out 1
      exact (h1.grown hg1 h1.size (fun b e=>by cases e;exact Nat.le_refl _)).grown hg2 (Nat.le_trans h1.size hg1.size) (fun b e=>by cases e;exact Nat.le_refl _))
     have Hset3:Hid (SetAt W2 w.heap.size (q2+2) (texts (l.take k)++textsL (e1.take (j+1)))):=Lib.hid (by
      rw [take_snoc Hy.out,textsL_snoc]
      have:=hset3
      simp only [List.append_assoc,List.cons_append,List.nil_append] at this ⊢
      exact this)
     have HqN:Hid (q2+2≤(texts (l.take k)++textsL (e1.take (j+1))).length):=Lib.hid (by
      rw [take_snoc Hy.out,textsL_snoc]
      have:=Hq2.out
      simp only [List.length_append,List.length_cons,List.length_nil] at this ⊢
      omega)
     have HYe:=Lib.hid hY
     clear hy hy1 hy2 hY hYb hsetY hset1 hset3 hg1 hg2 hb1 hb2 hYs
     go_upto_region 7 with fail
     rw [← HYe.out]
     go_region_held (fun w'=>w'.cell? ⟨wr.heap.size,0,none⟩=some (encStr y1)∧w'.cell? ⟨wr.heap.size,1,none⟩=some (encStr y2)) (exact⟨by assumption,by assumption⟩) (fail)
     go_wp2_with fail
     go_roundw
     case rel=>exact⟨j+1,q2+2,by omega,by go_num,HB2.out,HqN.out,Hset3.out⟩
     case measure=>simp [intOf];omega
    ·go_wp2_with fail
     go_roundw
     case rel=>exact⟨k+1,q2,by omega,by go_num,Hbq.out,by
      have h9:=Hq2.out
      rw [List.take_of_length_le (l:=e1) (by rw [Hl1.out];omega)] at h9
      rw [take_snoc Hx.out,texts_snoc]
      exact h9,by
      have h9:=Hset2.out
      rw [List.take_of_length_le (l:=e1) (by rw [Hl1.out];omega)] at h9
      rw [take_snoc Hx.out,texts_snoc]
      exact h9⟩
     case measure=>simp [intOf];omega
  ·have Hset2:Hid (SetAt wr w.heap.size q (texts l)):=Lib.hid (by
    have h9:=Hset.out
    rwa [List.take_of_length_le (l:=l) (by rw [Hn.out];omega)] at h9)
   have hq8:q≤8000:=by
    have h9:=Hq.out
    rw [List.take_of_length_le (l:=l) (by rw [Hn.out];omega),texts_len] at h9
    have h1:=HL.out
    omega
   have HR:Hid (Rising (symbols l)):=Lib.hid (rise_rising _)
   have hsl:(symbols l).length≤8000:=by
    have h1:=rise_len (texts l)
    have h2:=texts_len l
    have h3:=HL.out
    unfold symbols
    omega
   have Hsort:=Lib.hid (sorted_any Hset2.out (by omega))
   rw [show rise (texts l)=symbols l from rfl] at Hsort
   have Hkeys:=Lib.hid (keys_any (some w.heap.size) wr)
   have Hbr:Hid (TabBuf wr B blk K sy nm bs):=Lib.hid (Hbuf.out.olds (Olds.of_below Hb.out))
   obtain⟨ss0,hss0⟩:∃ss0,ss0=symbols l:=⟨_,rfl⟩
   have Hss0:=Lib.hid hss0
   rw [← hss0] at HR hsl Hsort H24
   clear hss0
   generalize ss0=ss at *
   generalize hns:ss.length=ns at *
   have Hns:=Lib.hid hns
   clear hns
   go_upto_region 12 with (first
    | (go_at_call 152;refine Hkeys.out.mono ?_;clear Hkeys;rintro e wa ⟨rfl,rfl⟩)
    | (go_at_call 151;refine Hsort.out.mono ?_;clear Hsort;rintro e wb ⟨sv,rfl,hrow,hbb⟩;obtain⟨os,cs,hsv,_⟩:=ownsRow_shape hrow;rw [Hns.out] at hsv;subst hsv;have Hrow:=Lib.hid hrow;have Bb:Hid (Below wr.heap.size wr wb):=Lib.hid (((Below.refl _ wr).alloc (Nat.le_refl _) _).trans (hbb.mono (by simp)));have Hbb:=Lib.hid (Hbr.out.olds (Olds.of_below Bb.out));obtain⟨v0,q0,q1,q2,r0,r1,r2⟩:=Hbb.out.there;obtain⟨v0',q0',q1',q2',r0',r1',r2'⟩:=((Hbb.out.sym (.slice os ns cs)).olds (Olds.alloc _ (.map #[] 0))).there;clear hrow hbb))
   obtain⟨wd,hwd⟩:∃wd:World,wd=(((wb.setCell ⟨blk,1,none⟩ (.slice os ns cs)).alloc (.map #[] 0)).setCell ⟨blk,2,none⟩ (.map (some wb.heap.size))):=⟨_,rfl⟩
   rw [← hwd]
   clear q0 q1 q2 r0 r1 r2 q0' q1' q2' r0' r1' r2'
   have hszb:=Bb.out.size
   have hwds:wd.heap.size=wb.heap.size+1:=by rw [hwd];simp [World.setCell]
   have hbeq:∀g,g≠blk→g<wb.heap.size→wd.heap[g]?=wb.heap[g]?:=fun g hg hgs=>by
    rw [hwd]
    refine (Below.heap_setCell _ _ _ _ hg).trans ?_
    refine (Below.heap_alloc _ _ _ ?_).trans (Below.heap_setCell _ _ _ _ hg)
    simpa [World.setCell] using hgs
   have hown9:=Hrow.out
   unfold RowT at hown9
   rw [Hns.out] at hown9
   obtain⟨K1,hK1⟩:∃K1:Nat→Prop,∀b,K1 b↔(K b∨(Value.slice os ns cs).ownBlock=some b):=⟨_,fun _=>Iff.rfl⟩
   have hsvb:∀g,(Value.slice os ns cs).ownBlock=some g→wr.heap.size+1≤g∧g<wb.heap.size:=fun g hg=>ownsRow_block hown9 hg
   have hK1b:∀b,K1 b→b<wb.heap.size:=fun b hb=>by
    rcases (hK1 b).1 hb with h | h
    ·have:=HK.out b h
     omega
    ·exact (hsvb b h).2
   have hBK1:TabBuf wb B blk K1 sy nm bs :=
    ((Hbr.out.more (K':=fun b=>(Value.slice os ns cs).ownBlock=some b) (fun b hb=>by have:=(hsvb b hb).1;omega)).olds (Olds.of_below Bb.out)).less fun b hb=>(hK1 b).1 hb
   have Hbd:Hid (TabBuf wd B blk (fun b=>K1 b∨b=wb.heap.size) (.slice os ns cs) (.map (some wb.heap.size)) bs):=Lib.hid (by
    rw [hwd]
    exact (((hBK1.sym (.slice os ns cs)).more (K':=fun b=>b=wb.heap.size) (fun b hb=>by rw [hb];simp [World.setCell])).olds (Olds.alloc _ (.map #[] 0))).nums _)
   have Hnum0:Hid (NumK wd wb.heap.size 0 []):=Lib.hid (by
    have h1:=NumK.made (wb.setCell ⟨blk,1,none⟩ (.slice os ns cs))
    have h2:(wb.setCell ⟨blk,1,none⟩ (.slice os ns cs)).heap.size=wb.heap.size:=by simp [World.setCell]
    rw [h2] at h1
    refine h1.block ?_
    rw [hwd]
    exact Below.heap_setCell _ _ _ _ (by show wb.heap.size≠blk;omega))
   have Hts:Hid (TextsAt wd os ss):=Lib.hid (by
    obtain⟨o9,c9,e9,ht⟩:=Hrow.out.shape
    simp only [Value.slice.injEq] at e9
    obtain⟨rfl,_⟩:=e9
    intro hne
    obtain⟨b,off,rfl,hc⟩:=ht hne
    refine⟨b,off,rfl,fun k s hk=>?_⟩
    obtain⟨h1,h2⟩:=hsvb b rfl
    rw [World.cell?_of_block (w:=wb) (w':=wd) (hbeq b (by omega) h2)]
    exact hc k s hk)
   have HK2:Hid (∀b,(K1 b∨b=wb.heap.size)→b<wd.heap.size):=Lib.hid (fun b hb=>by
    rcases hb with h | rfl
    ·have:=hK1b b h
     omega
    ·omega)
   have HKs:Hid (∀b off,os=some ⟨b,off,none⟩→K1 b):=Lib.hid (fun b off h=>(hK1 b).2 (.inr (by rw [h];rfl)))
   have Hm1:Hid (¬ K1 wb.heap.size):=Lib.hid (fun h=>by have:=hK1b _ h;omega)
   have Hkd:Hid (Kept K w wd):=Lib.hid (by
    have h1:Kept K w wr:=Kept.of_below Hb.out HK.out
    have h2:Kept K w wb:=h1.trans (Kept.of_below Bb.out fun b hb=>by have:=HK.out b hb;omega)
    have hnb:¬ K blk:=Hbuf.out.out
    rw [hwd]
    exact ((h2.setCell (p:=⟨blk,1,none⟩) hnb _).alloc HK.out _).setCell (p:=⟨blk,2,none⟩) hnb _)
   have HK1':=Lib.hid hK1
   have hdlt:blk<wd.heap.size:=by omega
   clear hwd hbeq hown9 hK1 hsvb hK1b hBK1
   generalize wb.heap.size=m1 at *
   have hBd:B≤wd.heap.size:=by omega
   obtain⟨_,_,d1,_⟩:=Hbd.out.there
   have HC:=Lib.hid (count_tab (K:=fun b=>K1 b∨b=m1) ns Hbd.out HK2.out hBd (by omega) (by omega))
   go_wp2_with (go_at_call 98;refine HC.out.mono ?_;clear HC;rintro e we ⟨rfl,hbe,hke⟩;have Hbe:=Lib.hid hbe;have Hke:=Lib.hid hke;obtain⟨_,_,e1,_⟩:=hbe.there;clear hbe hke)
   have H26:Hid ((symPart ss).length≤1026 * ns):=Lib.hid (by have:=symPart_len H24.out;rwa [Hns.out] at this)
   have hlen:∀k,(bs++low 4 ns++symPart (ss.take k)).length≤200000000:=fun k=>by
    rw [List.length_append,List.length_append,low_len]
    have h1:=symPart_len (ss:=ss.take k) fun s hs=>H24.out s (List.mem_of_mem_take hs)
    have h2:(ss.take k).length≤ns:=by rw [List.length_take,Hns.out];omega
    omega
   have Hlen:=Lib.hid hlen
   clear hlen
   go_loopw [9,10,55] (fun _ _ iv wx=>∃k:Nat,k≤ns∧iv=.int .i64 k∧Buf wx B blk (fun b=>K1 b∨b=m1) (.slice os ns cs) (.map (some m1)) (bs++low 4 ns++symPart (ss.take k))∧Kept K1 wd wx∧NumK wx m1 k (ss.take k)) (fun _ _ iv _=>ns-(intOf iv).toNat)
   case atStart=>exact⟨0,Nat.zero_le _,rfl,by rw [List.take_zero];show Buf _ _ _ _ _ _ (_++[]);rw [List.append_nil];exact Hbe.out,Hke.out.mono fun b hb=>.inl hb,by rw [List.take_zero];exact Hnum0.out.block (Hke.out.block m1 (.inr rfl))⟩
   case round =>
    obtain⟨k2,hk2,rfl,hbx,hkx,hnx⟩:=hrel
    have Hbx:=Lib.hid hbx
    have Hkx:=Lib.hid hkx
    have Hnx:=Lib.hid hnx
    have hszx:=hkx.size
    clear hbx hkx hnx
    by_cases hlt2:k2<ns
    ·obtain⟨bt,offt,s,rfl,hsx,hsc⟩:=Hts.out.at (k:=k2) (by rw [Hns.out];exact hlt2)
     have hscx:=(Hkx.out.cell (p:=⟨bt,offt+k2,none⟩) (HKs.out bt offt rfl)).trans hsc
     have Hsx:=Lib.hid hsx
     have hs24:=H24.out s (List.mem_of_getElem? hsx)
     have htl:(ss.take k2).length=k2:=by rw [List.length_take,Hns.out];omega
     have hno:s∉ss.take k2:=fun h=>by
      obtain⟨i,hi⟩:=List.getElem?_of_mem h
      have hik:=(List.getElem?_eq_some_iff.1 hi).1
      rw [htl] at hik
      rw [List.getElem?_take_of_lt hik] at hi
      have:=rising_inj HR.out hi hsx
      omega
     have Hlk:=Lib.hid (Hlen.out k2)
     have Htk:Hid (bs++low 4 ns++symPart (ss.take (k2+1))=bs++low 4 ns++symPart (ss.take k2)++low 2 s.length++nums s):=Lib.hid (by
      rw [take_snoc hsx,symPart_snoc]
      simp [List.append_assoc])
     have Htn:Hid (ss.take (k2+1)=ss.take k2++[s]):=Lib.hid (take_snoc hsx)
     obtain⟨_,_,_,x2,_⟩:=Hbx.out.there
     clear hsc hsx
     generalize hT:ss.take k2=T at *
     have HT:=Lib.hid hT
     clear hT
     generalize hZ:bs++low 4 ns++symPart T=Z at *
     have HZ:=Lib.hid hZ
     clear hZ
     have HK2':=Lib.hid (show ∀b,(K1 b∨b=m1)→b<wd.heap.size from HK2.out)
     have HL26:Hid (∀W,Buf W B blk (fun b=>K1 b∨b=m1) (.slice (some ⟨bt,offt,none⟩) ns cs) (.map (some m1)) Z→wd.heap.size≤W.heap.size→Calls Tryz.prog 101 #[.pointer (some ⟨blk,0,none⟩),.int .u64 (s.length:Nat),.int .i64 (2:Nat)] W fun e w'=>e=.returned (.tuple #[])∧Buf w' B blk (fun b=>K1 b∨b=m1) (.slice (some ⟨bt,offt,none⟩) ns cs) (.map (some m1)) (Z++low 2 s.length)∧Kept (fun b=>K1 b∨b=m1) W w'):=Lib.hid (fun W hW hWs=>low_any s.length 2 hW (fun b hb=>by have:=HK2.out b hb;omega) (by omega) (by omega) (by decide) (by have:=Hlk.out;omega))
     have hw2:IntKind.u64.wrap (s.length:Int)=(s.length:Int):=by rw [IntKind.wrap_u64];omega
     go_wp2_with (first
      | (at_mapUpdate;refine wpList_num_store rfl _ _ _ rfl m1 k2 T s rfl rfl (by rw [htl];rfl) Hnx.out (by omega) (by omega) (by omega) hno ?_;intro w5 hnum5 hgrow5;have Hnum5:=Lib.hid hnum5;have Hgrow5:=Lib.hid hgrow5;have hs5:=hgrow5.size;have Hb5:=Lib.hid (Hbx.out.grown hgrow5 (.inr rfl));obtain⟨_,x50,x51,x52,_⟩:=Hb5.out.there;clear hnum5 hgrow5)
      | (go_at_call 101;refine (HL26.out _ Hb5.out (by omega)).mono ?_;rintro e w6 ⟨rfl,hb6,hk6⟩;have Hb6:=Lib.hid hb6;have Hk6:=Lib.hid hk6;have hs6:=hk6.size;obtain⟨v6,hh6,hrow6,hfree6,hne6⟩:=hb6.row;have y0:w6.cell? ⟨blk,0,none⟩=some v6:=(by simp [World.cell?,hh6]);unfold Row8 at hrow6;obtain⟨o6,c6,hv6,_⟩:=ownsRow_shape hrow6;generalize hN6:(Z++low 2 s.length).length=N6 at *;subst hv6;have HN6:=Lib.hid hN6;have Hrow6:=Lib.hid hrow6;have Hh6:=Lib.hid hh6;have Hfree6:=Lib.hid hfree6;have Hne6:=Lib.hid hne6;clear hb6 hk6 hrow6 hh6 hfree6 hne6 hN6)
      | (at_builtin;refine wpList_append_txt rfl _ _ rfl B N6 (.slice o6 N6 c6) s (octs (Z++low 2 s.length)) rfl rfl Hrow6.out (by omega) (by have h1:=HN6.out;have h2:=Hlk.out;rw [List.length_append,low_len] at h1;omega) ?_;intro v7 w7 hown7 hgrow7 hat7;obtain⟨o7,c7,hv7,_⟩:=ownsRow_shape hown7;subst hv7;have hblk6:blk<w6.heap.size:=(by omega);have hh7:w7.heap[blk]?=some (.cells #[.slice o6 N6 c6,.slice (some ⟨bt,offt,none⟩) ns cs,.map (some m1)] 239 (0,0)):=(hgrow7.block blk hblk6 (fun e=>Hne6.out e.symm)).trans Hh6.out;have z0:w7.cell? ⟨blk,0,none⟩=some (.slice o6 N6 c6):=(by simp [World.cell?,hh7]);have f0:w7.frozen? ⟨blk,0,none⟩=false:=(by simp [World.frozen?,hh7]);have Hh7:=Lib.hid hh7;have Hown7:=Lib.hid hown7;have Hgrow7:=Lib.hid hgrow7;have Hat7:=Lib.hid hat7;clear hh7 hown7 hgrow7 hat7))
     have hsl7:(nums s).length=s.length:=nums_len s
     have Hfree7:Hid (Free (fun b=>K1 b∨b=m1) (.slice o7 (N6+s.length) c7)):=Lib.hid (free_grown Hfree6.out (fun b hb=>by have:=HK2.out b hb;omega) Hat7.out)
     have Hne7:Hid ((Value.slice o7 (N6+s.length) c7).ownBlock≠some blk):=Lib.hid (fun e=>by
      rcases Hat7.out with h | h
      ·exact Hne6.out (h ▸ e)
      ·rw [h] at e
       have:=Option.some.inj e
       omega)
     have Hbz:Hid (Buf (w7.setCell ⟨blk,0,none⟩ (.slice o7 (N6+s.length) c7)) B blk (fun b=>K1 b∨b=m1) (.slice (some ⟨bt,offt,none⟩) ns cs) (.map (some m1)) (Z++low 2 s.length++nums s)):=Lib.hid (buf_put Hbx.out.lo Hbx.out.out Hh7.out (by
      have h9:=Hown7.out
      rw [← octs_append] at h9
      rwa [show (Z++low 2 s.length++nums s).length=N6+s.length by rw [List.length_append,HN6.out,hsl7]]) Hfree7.out Hne7.out)
     have Hk57:Hid (Kept (fun b=>K1 b∨b=m1) w5 (w7.setCell ⟨blk,0,none⟩ (.slice o7 (N6+s.length) c7))):=Lib.hid ((Hk6.out.grown Hgrow7.out (fun b hb=>by have:=HK2.out b hb;omega) (fun k hk=>Hfree6.out k hk)).setCell Hbx.out.out _)
     have Hkz:Hid (Kept K1 wd (w7.setCell ⟨blk,0,none⟩ (.slice o7 (N6+s.length) c7))):=Lib.hid ((Hkx.out.grown Hgrow5.out (fun b hb=>HK2.out b (.inl hb)) (fun k hk h=>by cases hk;exact Hm1.out h)).trans (Hk57.out.mono fun b hb=>.inl hb))
     have Hnz:Hid (NumK (w7.setCell ⟨blk,0,none⟩ (.slice o7 (N6+s.length) c7)) m1 (k2+1) (T++[s])):=Lib.hid (Hnum5.out.block (Hk57.out.block m1 (.inr rfl)))
     go_roundw
     case rel=>exact⟨k2+1,by omega,by go_num,by rw [Htk.out];exact Hbz.out,Hkz.out,by rw [Htn.out];exact Hnz.out⟩
     case measure=>simp [intOf];omega
    ·go_wp2_with fail
     go_end0
     have e9:ss.take k2=ss:=List.take_of_length_le (by rw [Hns.out];omega)
     have hb9:=Hbx.out
     have hn9:=Hnx.out
     rw [e9] at hb9 hn9
     rw [← Hss0.out]
     refine⟨rfl,.slice os ns cs,m1,?_,Hkd.out.trans (Hkx.out.mono fun b hb=>(HK1'.out b).2 (.inl hb)),hn9.num,fun b hb=>?_,os,ns,cs,rfl⟩
     ·rw [Hns.out]
      exact hb9.less fun b hb=>hb.imp (HK1'.out b).2 id
     ·have:=HK2.out b (hb.imp (HK1'.out b).2 id)
      omega
theorem table_any {w:World}{B blk:Nat}{K:Nat→Prop}{sy nm:Value}{bs:List Nat}(o:Option Addr) (n c:Nat) (l:List Ent) (hn:l.length=n) (hs:Small l) (hL:lblsOf l≤4000) (hc:RowsE w o l) (h1024:∀s∈symbols l,s.length≤1024)
  (hB:B≤w.heap.size) (hK:∀b,K b→b<w.heap.size) (hbuf:TabBuf w B blk K sy nm bs) (hbl:bs.length≤100000000) :
  Calls Tryz.prog 97 #[.pointer (some ⟨blk,0,none⟩),.slice o n c] w fun e w'=>e=.returned (.tuple #[])∧∃sv mb,Buf w' B blk (fun b=>(K b∨sv.ownBlock=some b)∨b=mb) sv (.map (some mb)) (bs++low 4 (symbols l).length++symPart (symbols l))∧Kept K w w'∧NumAt w' mb (symbols l)∧(∀b,((K b∨sv.ownBlock=some b)∨b=mb)→b<w'.heap.size) :=
 (table_anyS o n c l hn hs hL hc h1024 hB hK hbuf hbl).mono fun e w' h=>by
  obtain⟨h0,sv,mb,h1,h2,h3,h4,_⟩:=h
  exact⟨h0,sv,mb,h1,h2,h3,h4⟩
end Go.Proofs.YtbecggfbblnglaaGreatDoor
