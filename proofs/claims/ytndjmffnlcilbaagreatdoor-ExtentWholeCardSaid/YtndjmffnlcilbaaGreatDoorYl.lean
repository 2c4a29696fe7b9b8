/- Contracts over this program. Their conditions: the slices read as the lists that are named, and lie within the sizes that are named. -/
import Derived.Test.YtndjmffnlcilbaaGreatDoorYk
import Derived.Test.YtndjmffnlcilbaaGreatDoorYg
import Derived.Test.YtndjmffnlcilbaaGreatDoorSh
set_option linter.unusedSimpArgs false
set_option linter.unusedVariables false
set_option linter.deprecated false
set_option linter.unnecessarySimpa false
namespace Go.Proofs.YtndjmffnlcilbaaGreatDoor
open Go Go.RowKit Go.Ix Go.Ext Go.Maps
theorem BytesAt.cell {w:World}{o:Option Addr}{n c k:Nat}{bs:List Nat}(h:BytesAt w (.slice o n c) bs) (hk:k<bs.length):∃b off x,o=some ⟨b,off,none⟩∧bs[k]?=some x∧w.cell? ⟨b,off+k,none⟩=some (.int .u8 (x:Nat)):=by
 obtain⟨o',c',e,_,hne⟩:=h
 simp only [Value.slice.injEq] at e
 obtain⟨rfl,_,_⟩:=e
 obtain⟨b,off,rfl,hc⟩:=hne (fun e=>by have:=congrArg List.length e;rw [octs_len,List.length_nil] at this;omega)
 obtain⟨x,hx⟩:∃x,bs[k]?=some x:=⟨_,List.getElem?_eq_getElem hk⟩
 exact⟨b,off,x,rfl,hx,hc k _ (by unfold octs;rw [List.getElem?_map,hx];rfl)⟩
set_option maxRecDepth 20000 in
set_option maxHeartbeats 1000000 in
theorem same_any (o1 o2:Option Addr) (n1 n2 c1 c2:Nat) (xs ys:List Nat) (w:World) (h1:BytesAt w (.slice o1 n1 c1) xs) (h2:BytesAt w (.slice o2 n2 c2) ys) (l1:xs.length=n1) (l2:ys.length=n2) (x8:∀x∈xs,x<256) (y8:∀x∈ys,x<256) (hn:n1≤100000000) :
  Calls Tryz.prog 37 #[.slice o1 n1 c1,.slice o2 n2 c2] w fun e w'=>e=.returned (.bool (decide (xs=ys)))∧∃q,w'=w.drewN q:=by
 have H1:=Lib.hid h1
 have H2:=Lib.hid h2
 have L1:=Lib.hid l1
 have L2:=Lib.hid l2
 have X8:=Lib.hid x8
 have Y8:=Lib.hid y8
 clear h1 h2 l1 l2 x8 y8
 by_cases hne:n1=n2
 ·subst hne
  go_enter Tryz.func37,Tryz.ntmps37
  go_wp2_with fail
  go_loopw [5] (fun iv wr=>∃k q:Nat,k≤n1∧iv=.int .i64 k∧xs.take k=ys.take k∧wr=w.drewN q) (fun iv _=>n1-(intOf iv).toNat)
  case atStart=>exact⟨0,0,Nat.zero_le _,rfl,rfl,rfl⟩
  case round =>
   obtain⟨k,q,hk,rfl,ht,rfl⟩:=hrel
   have Ht:=Lib.hid ht
   clear ht
   by_cases hlt:k<n1
   ·obtain⟨b1,off1,x,rfl,hx,ha⟩:=H1.out.cell (k:=k) (by rw [L1.out];exact hlt)
    obtain⟨b2,off2,y,rfl,hy,hb⟩:=H2.out.cell (k:=k) (by rw [L2.out];exact hlt)
    have hx8:=X8.out x (List.mem_of_getElem? hx)
    have hy8:=Y8.out y (List.mem_of_getElem? hy)
    have Hx:=Lib.hid hx
    have Hy:=Lib.hid hy
    clear hx hy
    by_cases hxy:x=y
    ·subst hxy
     go_wp2_with fail
     go_region
     go_wp2_with fail
     go_roundw
     case rel=>exact⟨k+1,q+1,by omega,by go_num,by rw [List.take_add_one,List.take_add_one,Ht.out,Hx.out,Hy.out],rfl⟩
     case measure=>simp [intOf];omega
    ·have hd:(((x:Nat):Int) == ((y:Nat):Int))=false:=by simp;omega
     have hf:decide (xs=ys)=false:=by
      rw [decide_eq_false_iff_not]
      intro e
      rw [e] at Hx
      have:=Hx.out.symm.trans Hy.out
      exact hxy (Option.some.inj this)
     have Hf:=Lib.hid hf
     clear hf
     go_wp2_with fail
     go_region
     go_wp2_with fail
     go_ret
     exact⟨by rw [Hf.out];rfl,q+1,rfl⟩
   ·obtain rfl:k=n1:=by omega
    have hf:decide (xs=ys)=true:=by
     rw [decide_eq_true_eq]
     have h9:=Ht.out
     rwa [List.take_of_length_le (by rw [L1.out];exact Nat.le_refl _),List.take_of_length_le (by rw [L2.out];exact Nat.le_refl _)] at h9
    have Hf:=Lib.hid hf
    clear hf
    go_wp2_with fail
    go_ret
    exact⟨by rw [Hf.out];rfl,q,rfl⟩
 ·have hf:decide (xs=ys)=false:=by
   rw [decide_eq_false_iff_not]
   intro e
   have h1:=L1.out
   rw [e,L2.out] at h1
   exact hne h1.symm
  have hd:(((n1:Nat):Int) == ((n2:Nat):Int))=false:=by simp;omega
  rw [hf]
  go_enter Tryz.func37,Tryz.ntmps37
  go_wp2_with fail
  go_ret
  exact⟨rfl,0,rfl⟩
end Go.Proofs.YtndjmffnlcilbaaGreatDoor
namespace Go.Proofs.YtndjmffnlcilbaaGreatDoor
open Go Go.RowKit Go.Ix Go.Ext Go.Maps
structure LE where
 name:Txt
 a:Option Addr
 n:Nat
 c:Nat
 ds:List Nat
def leCells (e:LE):List Value:=[encStr e.name,.slice e.a e.n e.c]
theorem leCells_len (e:LE):(leCells e).length=2:=rfl
def RowL (w:World) (B:Nat) (v:Value) (l:List LE):Prop:=w.ownsRow B 44 2 v l.length (l.flatMap leCells)
theorem Tryz.info44:(Tryz.prog.info? 44).map (fun i=>(i.zero,i.size,i.bytes))=some (some (.agg #[encStr [],.slice none 0 0]),2,40):=by kernel_rfl
theorem RowL.nil (w:World) (B:Nat):RowL w B (.slice none 0 0) []:=World.ownsRow_nil _ _ _ _
theorem RowL.olds {w W:World}{B:Nat}{v:Value}{l:List LE}(h:RowL w B v l) (ho:Olds w W):RowL W B v l:=ownsRow_olds h ho
theorem RowL.mono {w:World}{B B':Nat}{v:Value}{l:List LE}(h:RowL w B v l) (hB:B'≤B):RowL w B' v l:=ownsRow_mono h hB
def wo (l:List LE) (s:Txt):List LE:=l.filter fun e=>decide (e.name≠s)
theorem wo_take {l:List LE}{s:Txt}{k:Nat}{e:LE}(h:l[k]?=some e):wo (l.take (k+1)) s=wo (l.take k) s++if e.name=s then [] else [e]:=by
 unfold wo
 rw [List.take_add_one,h,List.filter_append]
 by_cases hs:e.name=s<;>simp [hs]
theorem RowL.at {w:World}{B:Nat}{o:Option Addr}{c k:Nat}{l:List LE}{e:LE}(h:RowL w B (.slice o l.length c) l) (hk:l[k]?=some e):∃b,o=some ⟨b,0,none⟩∧w.cell? ⟨b,k * 2,none⟩=some (encStr e.name)∧w.cell? ⟨b,k * 2+1,none⟩=some (.slice e.a e.n e.c):=by
 have hlt:=(List.getElem?_eq_some_iff.1 hk).1
 obtain⟨b,rfl⟩:∃b,o=some ⟨b,0,none⟩:=by
  rcases h.2 with ⟨_,h0⟩|⟨g,cap,cur,e,_⟩
  ·omega
  ·simp only [Value.slice.injEq] at e
   exact⟨g,e.1⟩
 have hc:=ownsRow_cell h
 refine⟨b,rfl,?_,?_⟩
 ·have:=hc.elem leCells_len hk (i:=0) rfl
  simpa using this
 ·have:=hc.elem leCells_len hk (i:=1) rfl
  simpa using this
set_option maxRecDepth 20000 in
set_option maxHeartbeats 2000000 in
theorem without_any {w:World}{B m:Nat}{v:Value}{l:List LE}(s:Txt) (h:RowL w B v l) (hl:l.length=m) (hm:m≤100000) :
  Calls Tryz.prog 15 #[v,encStr s] w fun e w'=>∃v',e=.returned v'∧RowL w' w.heap.size v' (wo l s)∧Below w.heap.size w w':=by
 obtain⟨i0,hi0,hz0,hz1,hz2⟩:=info_parts Tryz.info44
 have H0:=h
 unfold RowL at h
 rw [hl] at h
 obtain⟨o,c,rfl,_⟩:=ownsRow_shape h
 have H:Hid (RowL w B (.slice o l.length c) l):=Lib.hid (by rw [hl];exact H0)
 have Hl:=Lib.hid hl
 clear h H0 hl
 go_enter Tryz.func15,Tryz.ntmps15
 go_wp2_with fail
 go_loopw [5,6] (fun sv iv wr=>∃(k:Nat),k≤m∧iv=.int .i64 k∧RowL wr w.heap.size sv (wo (l.take k) s)∧Below w.heap.size w wr) (fun _ iv _=>m-(intOf iv).toNat)
 case atStart=>exact⟨0,Nat.zero_le _,rfl,RowL.nil _ _,Below.refl _ _⟩
 case round =>
  obtain⟨k,hk,rfl,hrow,hb⟩:=hrel
  have Hb:=Lib.hid hb
  have hsz:=hb.size
  have Hrow:=Lib.hid hrow
  have hql:(wo (l.take k) s).length≤k:=by
   have h1:(wo (l.take k) s).length≤(l.take k).length:=List.length_filter_le _ _
   rw [List.length_take] at h1
   omega
  obtain⟨qo,qc,rfl,_⟩:=ownsRow_shape hrow
  clear hrow hb
  by_cases hlt:k<m
  ·obtain⟨e,he⟩:∃e,l[k]?=some e:=⟨_,List.getElem?_eq_getElem (by rw [Hl.out];exact hlt)⟩
   obtain⟨b,rfl,a0,a1⟩:=(H.out.olds (Olds.of_below Hb.out)).at he
   have Hst:=Lib.hid (wo_take (s:=s) he)
   clear he
   obtain⟨nm,ea,en,ec,eds⟩:=e
   simp only at a0 a1
   by_cases hs:nm=s
   ·have Hst2:Hid (wo (l.take (k+1)) s=wo (l.take k) s):=Lib.hid (by rw [Hst.out,if_pos hs,List.append_nil])
    subst hs
    clear Hst
    generalize hqq:wo (l.take k) nm=q at *
    have Hqq:=Lib.hid hqq
    clear hqq
    generalize hqn:q.length=qn at *
    clear hqn
    go_wp2_with fail
    go_roundw
    case rel=>exact⟨k+1,by omega,by go_num,by rw [Hst2.out];exact Hrow.out,Hb.out⟩
    case measure=>simp [intOf];omega
   ·have Hst2:Hid (wo (l.take (k+1)) s=wo (l.take k) s++[⟨nm,ea,en,ec,eds⟩]):=Lib.hid (by rw [Hst.out,if_neg hs])
    clear Hst
    unfold RowL at Hrow
    have Hstep:Hid (∀(gg cap:Nat) (w4:World),w4.ownsRow w.heap.size 44 2 (.slice (some ⟨gg,0,none⟩) ((wo (l.take k) s).length+1) cap) ((wo (l.take k) s).length+1) ((wo (l.take k) s).flatMap leCells++[encStr nm,.slice ea en ec])→RowL w4 w.heap.size (.slice (some ⟨gg,0,none⟩) ((wo (l.take k) s).length+1) cap) (wo (l.take (k+1)) s)):=Lib.hid (fun gg cap w4 h=>by
     unfold RowL
     rw [Hst2.out,List.length_append,List.flatMap_append]
     exact h)
    clear Hst2
    generalize hqq:wo (l.take k) s=q at *
    clear hqq
    generalize hqf:q.flatMap leCells=qf at *
    clear hqf
    generalize hqn:q.length=qn at *
    clear hqn
    have hd:(nm == s)=false:=by simpa using hs
    have hA:∀o:Obj,(wr.alloc o).heap[wr.heap.size]?=some o:=fun o=>heap_alloc_new wr o
    go_wp2_with (at_builtin;refine wpList_append_lies _ rfl _ _ _ rfl w.heap.size 44 i0 _ 2 40 Tryz.underlying33 hi0 hz0 hz1 hz2 rfl (by decide) (.slice qo qn qc) qn qf rfl (ownsRow_olds Hrow.out (Olds.alloc _ _)) ⟨wr.heap.size,0,none⟩ 1 1 [encStr nm,.slice ea en ec] rfl rfl (World.news_of_block (cs:=#[encStr nm,.slice ea en ec]) (t:=44) (fr:=(0,0)) (hA _)) (by simp [Value.oneCell']) Nat.one_pos (by unfold maxLen;omega) (by omega) (by simp;omega) (wr.heap.size+1) (by simp) ?_;intro gg cap2 w4 hown4 hgrow hat hlt4;have Hown4:=Lib.hid hown4;have Hg4:=Lib.hid hgrow;clear hown4 hgrow hat)
    go_roundw
    case rel=>exact⟨k+1,by omega,by go_num,Hstep.out _ _ _ Hown4.out,Hb.out.trans (((Below.refl _ _).alloc hsz _).trans ((Below.refl _ _).grown Hg4.out (by simp;omega) (fun b hb=>(ownsRow_block (ownsRow_olds Hrow.out (Olds.alloc wr (.cells #[encStr nm,.slice ea en ec] 44))) hb).1)))⟩
    case measure=>simp [intOf];omega
  ·obtain rfl:k=m:=by omega
   have hqe:wo (l.take k) s=wo l s:=by rw [List.take_of_length_le (by rw [Hl.out];exact Nat.le_refl _)]
   unfold RowL at Hrow
   generalize wo (l.take k) s=q at *
   have Hqe:=Lib.hid hqe
   clear hqe
   have HE:Hid (∀v,wr.ownsRow w.heap.size 44 2 v q.length (q.flatMap leCells)→RowL wr w.heap.size v (wo l s)):=Lib.hid (fun v h=>by
    rw [← Hqe.out]
    exact h)
   generalize q.flatMap leCells=qf at *
   generalize q.length=qn at *
   go_wp2_with fail
   go_ret
   exact⟨_,rfl,HE.out _ Hrow.out,Hb.out⟩
def wi (l:List LE) (e:LE):List LE:=wo l e.name++[e]
set_option maxRecDepth 20000 in
set_option maxHeartbeats 2000000 in
theorem with_any {w:World}{B m:Nat}{v:Value}{l:List LE}(e:LE) (h:RowL w B v l) (hl:l.length=m) (hm:m≤100000) :
  Calls Tryz.prog 13 #[v,.agg #[encStr e.name,.slice e.a e.n e.c]] w fun en w'=>∃v',en=.returned v'∧RowL w' w.heap.size v' (wi l e)∧Below w.heap.size w w':=by
 obtain⟨i0,hi0,hz0,hz1,hz2⟩:=info_parts Tryz.info44
 obtain⟨nm,ea,en,ec,eds⟩:=e
 obtain⟨X,hX⟩:∃X:World,X=w.alloc (.cells #[encStr nm,.slice ea en ec] 44):=⟨_,rfl⟩
 have hXo:Olds w X:=by rw [hX];exact Olds.alloc _ _
 have hXb:Below w.heap.size w X:=by rw [hX];exact (Below.refl _ _).alloc (Nat.le_refl _) _
 have hXs:X.heap.size=w.heap.size+1:=by rw [hX];simp
 have hXc:X.heap[w.heap.size]?=some (.cells #[encStr nm,.slice ea en ec] 44 (0,0)):=by rw [hX];exact heap_alloc_new _ _
 have hx0:X.cell? ⟨w.heap.size,0,none⟩=some (encStr nm):=by rw [cell_of_heap hXc];rfl
 have HW:=Lib.hid (without_any nm (h.olds hXo) hl hm)
 have hwl:(wo l nm).length≤m:=by
  have h1:(wo l nm).length≤l.length:=List.length_filter_le _ _
  omega
 have hsl:=h
 unfold RowL at hsl
 obtain⟨o,c,rfl,_⟩:=ownsRow_shape hsl
 have HX:=Lib.hid hX
 have HXb:=Lib.hid hXb
 have HXc:=Lib.hid hXc
 rw [hl] at HW ⊢
 have HE:Hid (∀(W:World) (v:Value),W.ownsRow w.heap.size 44 2 v ((wo l nm).length+1) ((wo l nm).flatMap leCells++[encStr nm,.slice ea en ec])→RowL W w.heap.size v (wi l ⟨nm,ea,en,ec,eds⟩)):=Lib.hid (fun W v h=>by
  unfold RowL wi
  rw [List.length_append,List.flatMap_append]
  exact h)
 clear hX hXo hXb hXc h hsl hl
 generalize wi l ⟨nm,ea,en,ec,eds⟩=wl at *
 go_enter Tryz.func13,Tryz.ntmps13
 go_upto_region 1 with fail
 rw [← HX.out]
 go_upto_region 2 with (go_at_call 15;refine HW.out.mono ?_;clear HW;rintro e w1 ⟨v1,rfl,hr1,hb1⟩;unfold RowL at hr1;obtain⟨o1,c1,rfl,_⟩:=ownsRow_shape hr1;have Hr1:=Lib.hid hr1;have Hb1:=Lib.hid hb1;have hc1:w1.heap[w.heap.size]?=some (.cells #[encStr nm,.slice ea en ec] 44 (0,0)):=(hb1.block _ (by omega)).trans HXc.out;have k0:w1.cell? ⟨w.heap.size,0,none⟩=some (encStr nm):=(by rw [cell_of_heap hc1];rfl);have k1:w1.cell? ⟨w.heap.size,1,none⟩=some (.slice ea en ec):=(by rw [cell_of_heap hc1];rfl);have hs1:=hb1.size;clear hr1 hb1 hc1)
 generalize (wo l nm).flatMap leCells=qf at *
 generalize (wo l nm).length=qn at *
 have hA:∀o:Obj,(w1.alloc o).heap[w1.heap.size]?=some o:=fun o=>heap_alloc_new w1 o
 go_wp2_with (at_builtin;refine wpList_append_lies _ rfl _ _ _ rfl w.heap.size 44 i0 _ 2 40 Tryz.underlying33 hi0 hz0 hz1 hz2 rfl (by decide) (.slice o1 qn c1) qn qf rfl (ownsRow_mono (ownsRow_olds Hr1.out (Olds.alloc _ _)) (by omega)) ⟨w1.heap.size,0,none⟩ 1 1 [encStr nm,.slice ea en ec] rfl rfl (World.news_of_block (cs:=#[encStr nm,.slice ea en ec]) (t:=44) (fr:=(0,0)) (hA _)) (by simp [Value.oneCell']) Nat.one_pos (by unfold maxLen;omega) (by omega) (by simp;omega) (w1.heap.size+1) (by simp) ?_;intro gg cap2 w4 hown4 hgrow hat hlt4;have Hown4:=Lib.hid hown4;have Hg4:=Lib.hid hgrow;clear hown4 hgrow hat)
 go_ret
 refine⟨_,rfl,HE.out _ _ Hown4.out,(HXb.out.trans (Hb1.out.mono (by omega))).trans (((Below.refl _ _).alloc (by omega) _).trans ((Below.refl _ _).grown Hg4.out (by simp;omega) (fun b hb=>by
  have:=(ownsRow_block (ownsRow_olds Hr1.out (Olds.alloc w1 (.cells #[encStr nm,.slice ea en ec] 44))) hb).1
  omega)))⟩
end Go.Proofs.YtndjmffnlcilbaaGreatDoor
namespace Go.Proofs.YtndjmffnlcilbaaGreatDoor
open Go Go.RowKit Go.Ix Go.Ext Go.Maps
def BufAt (w:World) (B b:Nat) (bs:List Nat):Prop:=Lib.IsBuffer 131 5 B b (octs bs) w
theorem bwrite_any {w:World}{B b n c:Nat}{a:Addr}{bs cs:List Nat}(h:BufAt w B b bs) (hB:B≤w.heap.size) (hs:BytesAt w (.slice (some a) n c) cs) (hl:cs.length=n) (hab:a.block≠b) (hlim:bs.length+n≤1000000000) (hn:0<n) :
  Calls Tryz.prog 69 #[.pointer (some ⟨b,0,none⟩),.slice (some a) n c] w fun e w'=>(∃v,e=.returned v)∧BufAt w' B b (bs++cs)∧Fr B [5] [b] w w':=by
 obtain⟨o,c',e,_,hne⟩:=hs
 simp only [Value.slice.injEq] at e
 obtain⟨rfl,_,_⟩:=e
 obtain⟨b2,off,e2,hc⟩:=hne (fun e=>by have:=congrArg List.length e;rw [octs_len,List.length_nil] at this;omega)
 have e3:a=⟨b2,off,none⟩:=Option.some.inj e2
 have hcon:=Any.Buffer_Write_any Tryz.lays180 B b (octs bs) (octs cs) a n c w h hB one_octs (by rw [octs_len,hl]) hab (fun j v hv=>by
  rw [e3,show (⟨b2,off,none⟩:Addr).add j=⟨b2,off+j,none⟩ by simp [Addr.add]]
  exact hc j v hv) one_octs (by rw [octs_len];omega)
 change Calls Tryz.prog 69 _ _ _ at hcon
 refine hcon.mono fun e w' ⟨h1,h2,h3,h4⟩=>⟨⟨_,h1⟩,?_,h3,fun k o hk hm ht=>h4 k o hk (fun e=>hm (by cases e;simp)) (fun c fz e=>ht _ _ _ e (by simp;rfl))⟩
 unfold BufAt
 rw [octs_append]
 exact h2
theorem bbytes_any {w:World}{B b:Nat}{bs:List Nat}(h:BufAt w B b bs) :
  Calls Tryz.prog 70 #[.pointer (some ⟨b,0,none⟩)] w fun e w'=>∃v,e=.returned v∧Row8 w' B v bs∧∃q,w'=w.drewN q:=by
 have hcon:=Any.Buffer_Bytes Tryz.lays183 B b (octs bs) w h
 change Calls Tryz.prog 70 _ _ _ at hcon
 refine hcon.mono fun e w' ⟨v,h1,h2,h3⟩=>⟨v,h1,?_,h3⟩
 unfold Row8
 rw [octs_len] at h2
 exact h2
theorem bnew (w:World):BufAt (w.alloc (.cells #[.slice none 0 0,.int .i64 0,.int .i8 0] 131)) w.heap.size w.heap.size []:=Lib.fresh_isBuffer _ _ w
theorem BufAt.fr {w W:World}{B b:Nat}{bs:List Nat}{T M:List Nat}{B':Nat}(h:BufAt w B b bs) (hf:Fr B' T M w W) (hT:131∉T∧5∉T) (hM:b∉M) (hM2:∀k∈M,∀cs fr,w.heap[k]?≠some (.cells cs 5 fr)):BufAt W B b bs:=by
 obtain⟨h1,v,lr,h2,h3,h4⟩:=h
 exact⟨h1,v,lr,hf.keep h2 hM hT.1,hf.keepRow h3 hT.2 (fun g hg hm=>by
  obtain⟨cur,hc⟩:=own_kind h3 hg
  exact hM2 g hm _ _ hc),h4⟩
end Go.Proofs.YtndjmffnlcilbaaGreatDoor
