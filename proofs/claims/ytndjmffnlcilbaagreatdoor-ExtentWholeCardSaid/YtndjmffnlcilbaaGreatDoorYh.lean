/- Contracts over this program. Their conditions: the slices read as the lists that are named, and lie within the sizes that are named. -/
import Derived.Test.YtndjmffnlcilbaaGreatDoorYf
import Derived.Test.YtndjmffnlcilbaaGreatDoorYg
import Derived.Laws.CopyOwn
set_option linter.unusedSimpArgs false
set_option linter.unusedVariables false
set_option linter.deprecated false
set_option linter.unnecessarySimpa false
namespace Go.Proofs.YtndjmffnlcilbaaGreatDoor
open Go Go.RowKit Go.Ix Go.Ext Go.Maps
def DataB (w:World) (B:Nat) (bs:List Nat) (da:Option Addr) (dn dc:Nat):Prop:=BytesAt w (.slice da dn dc) bs∧(∀x∈bs,x<256)∧bs.length=dn∧dn≤dc∧∀a,da=some a→0<dn→a.block<B∨∃cs fr,w.heap[a.block]?=some (.cells cs 5 fr)
theorem DataB.blocks {w W:World}{B:Nat}{da:Option Addr}{dn dc:Nat}{bs:List Nat}(h:DataB w B bs da dn dc) (hb:∀b o,w.heap[b]?=some o→(b<B∨∃cs fr,o=.cells cs 5 fr)→W.heap[b]?=some o):DataB W B bs da dn dc:=by
 obtain⟨⟨o,c,e,hz,hne⟩,h2,h3,h4,h5⟩:=h
 simp only [Value.slice.injEq] at e
 obtain⟨rfl,e2,rfl⟩:=e
 have hkeep:∀a,da=some a→0<dn→∃o,w.heap[a.block]?=some o∧W.heap[a.block]?=some o:=fun a ha hp=>by
  obtain⟨b,off,e1,hc⟩:=hne (fun e=>by have:=congrArg List.length e;rw [octs_len,h3] at this;simp at this;omega)
  rw [ha] at e1
  cases e1
  obtain⟨v,hv⟩:∃v,(octs bs)[0]?=some v:=⟨_,List.getElem?_eq_getElem (by rw [octs_len,h3];exact hp)⟩
  have hlt:=cell_lt (hc 0 v hv)
  refine⟨w.heap[b],by simp,hb b _ (by simp) ?_⟩
  rcases h5 _ ha hp with h|⟨cs,fr,h⟩
  ·exact .inl h
  ·refine .inr ⟨cs,fr,?_⟩
   rw [Array.getElem?_eq_getElem hlt] at h
   exact Option.some.inj h
 refine⟨⟨da,dc,by rw [← e2],hz,fun hn=>?_⟩,h2,h3,h4,fun a ha hp=>?_⟩
 ·obtain⟨b,off,e1,hc⟩:=hne hn
  refine⟨b,off,e1,fun j v hv=>?_⟩
  have hp:0<dn:=by
   have:=(List.getElem?_eq_some_iff.1 hv).1
   rw [octs_len,h3] at this
   omega
  obtain⟨ob,h6,h7⟩:=hkeep _ e1 hp
  rw [World.cell?_of_block (w:=w) (a:=⟨b,off+j,none⟩) (h7.trans h6.symm)]
  exact hc j v hv
 ·rcases h5 a ha hp with h|⟨cs,fr,h⟩
  ·exact .inl h
  ·obtain⟨ob,h6,h7⟩:=hkeep a ha hp
   exact .inr ⟨cs,fr,h7.trans (h6.symm.trans h)⟩
theorem DataB.olds {w W:World}{B:Nat}{da:Option Addr}{dn dc:Nat}{bs:List Nat}(h:DataB w B bs da dn dc) (hb:Olds w W):DataB W B bs da dn dc:=h.blocks fun b _ ho _=>(hb.2 b (heap_lt ho)).trans ho
theorem DataB.fr {w W:World}{B:Nat}{T M:List Nat}{da:Option Addr}{dn dc:Nat}{bs:List Nat}(h:DataB w B bs da dn dc) (hf:Fr B T M w W) (ht:5∉T) (hM:∀b∈M,∀cs fr,w.heap[b]?≠some (.cells cs 5 fr)):DataB W B bs da dn dc:=h.blocks fun b o ho hc=>by
 rcases hc with hc|⟨cs,fr,rfl⟩
 ·exact (hf.below.block b hc).trans ho
 ·exact hf.keep ho (fun hm=>hM b hm cs fr ho) ht
set_option maxHeartbeats 400000 in
theorem did_any {w:World}{sb:Nat}{c0 c1 c2 c3 c4 c5 c6 c8:Value}(hsb:w.heap[sb]?=some (.cells #[c0,c1,c2,c3,c4,c5,c6,.bool false,c8] 69 (0,0))) :
  Calls Tryz.prog 50 #[.pointer (some ⟨sb,0,none⟩),.int .u16 0] w fun e w'=>e=.returned (.int .u16 0)∧Olds w w'∧(∀B,Below B w w'):=by
 have h7:w.cell? ⟨sb,7,none⟩=some (.bool false):=by rw [cell_of_heap hsb];rfl
 have f7:w.frozen? ⟨sb,7,none⟩=false:=by simp [World.frozen?,hsb]
 have HE:Hid (Olds w (w.setCell ⟨sb,7,none⟩ (.bool false))∧∀B,Below B w (w.setCell ⟨sb,7,none⟩ (.bool false))):=Lib.hid (by
  have hb:∀b,(w.setCell ⟨sb,7,none⟩ (.bool false)).heap[b]?=w.heap[b]?:=fun b=>by
   by_cases hb:b=sb
   ·rw [hb,heap_setCell_same w sb 7 _ _ _ hsb,hsb]
    rfl
   ·exact Below.heap_setCell _ _ _ _ hb
  exact⟨⟨by simp [World.setCell],fun b _=>hb b⟩,fun B=>⟨rfl,rfl,rfl,by simp [World.setCell],fun b _=>hb b⟩⟩)
 clear hsb
 go_enter Tryz.func50,Tryz.ntmps50
 go_wp2_with fail
 go_ret
 exact⟨rfl,HE.out.1,HE.out.2⟩
set_option maxHeartbeats 400000 in
theorem did_dark {w:World}{sb:Nat}{c0 c1 c2 c3 c4 c5 c6 c8:Value}(hsb:w.heap[sb]?=some (.cells #[c0,c1,c2,c3,c4,c5,c6,.bool false,c8] 69 (0,0))) :
  Calls Tryz.prog 50 #[.pointer (some ⟨sb,0,none⟩),.int .u16 4] w fun e w'=>e=.returned (.int .u16 4)∧w'.heap[sb]?=some (.cells #[c0,c1,c2,c3,c4,c5,c6,.bool true,c8] 69 (0,0))∧(∀b,b≠sb→w'.heap[b]?=w.heap[b]?)∧∀B,B≤sb→Below B w w':=by
 have h7:w.cell? ⟨sb,7,none⟩=some (.bool false):=by rw [cell_of_heap hsb];rfl
 have f7:w.frozen? ⟨sb,7,none⟩=false:=by simp [World.frozen?,hsb]
 have HE:Hid ((w.setCell ⟨sb,7,none⟩ (.bool true)).heap[sb]?=some (.cells #[c0,c1,c2,c3,c4,c5,c6,.bool true,c8] 69 (0,0))∧(∀b,b≠sb→(w.setCell ⟨sb,7,none⟩ (.bool true)).heap[b]?=w.heap[b]?)∧∀B,B≤sb→Below B w (w.setCell ⟨sb,7,none⟩ (.bool true))):=Lib.hid
  ⟨by simp [World.setCell,Array.getElem?_modify,hsb],fun b hb=>Below.heap_setCell _ _ _ _ hb,fun B hB=>(Below.refl _ _).setCell (p:=⟨sb,7,none⟩) hB _⟩
 clear hsb
 go_enter Tryz.func50,Tryz.ntmps50
 go_wp2_with fail
 go_ret
 exact⟨rfl,HE.out⟩
theorem new_bytes {w:World}{B g:Nat}{xs:List Value}(h:w.ownsRow B 5 1 (.slice (some ⟨g,0,none⟩) 256 256) 256 xs):w.heap[g]?=some (.cells xs.toArray 5 (0,0)):=by
 rcases h.2 with ⟨e,_⟩|⟨g',cap,cur,e,_,hh,_,_,hs,ht⟩
 ·cases e
 ·simp only [Value.slice.injEq,Option.some.injEq,Addr.mk.injEq,and_true,true_and] at e
  obtain⟨rfl,rfl⟩:=e
  rw [hh,← ht,List.take_of_length_le (by simp [hs])]
theorem old_bytes {w:World}{B g:Nat}{xs:List Value}(hB:B≤g) (hl:xs.length=256) (h:w.heap[g]?=some (.cells xs.toArray 5 (0,0))):w.ownsRow B 5 1 (.slice (some ⟨g,0,none⟩) 256 256) 256 xs :=
 ⟨by simpa using hl,.inr ⟨g,256,xs.toArray,rfl,hB,h,Nat.le_refl _,by unfold maxLen;omega,by simpa using hl,by simp [hl,List.take_of_length_le (Nat.le_of_eq hl)]⟩⟩
theorem octs_splice (zs ds:List Nat):splice (octs zs) 0 (octs ds)=octs (splice zs 0 ds):=by
 simp [splice,octs,List.map_drop]
def WriteEnd (w:World) (B db sm n sb:Nat) (K:Dk) (ps:List (Nat×Sec)) (c1 c2 c3 c4 c5 c6 c8:Value) (e:Ending) (w':World):Prop :=
 e=.returned (.int .u16 (codeOf (K.writes ps).1:Nat))∧DK w' B db sm n (K.writes ps).2∧((K.writes ps).1=true→Fr B TD [sm] w w')∧
  ((K.writes ps).1=false→Fr B TD [sm,sb] w w'∧w'.heap[sb]?=some (.cells #[.pointer (some ⟨db,0,none⟩),c1,c2,c3,c4,c5,c6,.bool true,c8] 69 (0,0)))
theorem piece_splice {bs ds:List Nat}{dn p k:Nat}(hbl:bs.length=dn) (hp:p=min dn (k * 256)) (hds:ds=(bs.drop p).take 256):splice (List.replicate 256 0) 0 ds=piece bs k:=by
 have h1:bs.drop p=bs.drop (k * 256):=by
  by_cases h:k * 256≤dn
  ·rw [hp,Nat.min_eq_right h]
  ·rw [hp,Nat.min_eq_left (by omega),List.drop_of_length_le (by omega),List.drop_of_length_le (by omega)]
 unfold piece splice
 rw [hds,h1,List.take_zero,List.nil_append,Nat.zero_add,List.drop_replicate]
theorem pieces_at {l bs:List Nat}{k a:Nat}(h:l[k]?=some a):(pieces l bs).drop k=(a,piece bs k) :: (pieces l bs).drop (k+1):=by
 unfold pieces
 have hk:=(List.getElem?_eq_some_iff.1 h).1
 rw [List.drop_eq_getElem_cons (by simpa using hk)]
 congr 1
 have h2:=(List.getElem?_eq_some_iff.1 h).2
 simp [h2]
theorem write_len (K:Dk) (a:Nat) (b:Sec):(K.write a b).cac.length≤K.cac.length+1:=by
 unfold Dk.write
 split
 ·simp
 ·rw [tick_cac]
  omega
theorem write_failed {w w2 w3 w4:World}{B db sm n sb:Nat}{K K2:Dk}{ps:List (Nat×Sec)}{c1 c2 c3 c4 c5 c6 c8:Value}(h:K.writes ps=(false,K2)) (hBs:B≤sb) (hsbm:sb≠sm)
  (hs2:w2.heap[sb]?=some (.cells #[.pointer (some ⟨db,0,none⟩),c1,c2,c3,c4,c5,c6,.bool false,c8] 69 (0,0))) (hf2:Fr B TD [sm] w w2) (hd3:DK w3 B db sm n K2) (hf3:Fr B TD [sm] w2 w3)
  (hq4:w4.heap[sb]?=some (.cells #[.pointer (some ⟨db,0,none⟩),c1,c2,c3,c4,c5,c6,.bool true,c8] 69 (0,0))) (ho4:∀b,b≠sb→w4.heap[b]?=w3.heap[b]?) (hb4:Below B w3 w4):WriteEnd w B db sm n sb K ps c1 c2 c3 c4 c5 c6 c8 (.returned (.int .u16 4)) w4:=by
 have hs3:=hf3.keep hs2 (by simpa using hsbm) (by decide)
 have hf4:Fr B [] [sb] w3 w4:=⟨hb4,fun b o hb hm _=>(ho4 b (fun e=>hm (by simp [e]))).trans hb⟩
 unfold WriteEnd
 rw [h]
 refine⟨rfl,hd3.keep hf4 (by simp) ⟨?_,?_⟩ (fun g cs fr hg hm=>?_) (fun g cs fr hg hm=>?_),(fun e=>by cases e),fun _=>⟨((hf2.trans hf3).mono (Nat.le_refl _) (fun _ h=>h) (by simp)).trans (hf4.mono (Nat.le_refl _) (by simp) (by simp)),hq4⟩⟩
 ·obtain⟨lv,cv,q1,q2,q3,k,ys,_,_,h3,_⟩:=hd3.cell
  simp only [List.mem_singleton]
  intro e
  rw [e,hs3] at h3
  simp at h3
 ·simp only [List.mem_singleton]
  exact fun e=>hsbm e.symm
 ·have e:g=sb:=by simpa using hm
  rw [e,hs3] at hg
  simp at hg
 ·have e:g=sb:=by simpa using hm
  rw [e,hs3] at hg
  simp at hg
set_option maxRecDepth 20000 in
set_option maxHeartbeats 8000000 in
theorem write_any {w:World}{B B' db sm n sb m dn dc:Nat}{K:Dk}{da:Option Addr}{c1 c2 c3 c4 c5 c6 c8 v:Value}{bs:List Nat}(l:List Nat) (h:DK w B db sm n K) (hsb:w.heap[sb]?=some (.cells #[.pointer (some ⟨db,0,none⟩),c1,c2,c3,c4,c5,c6,.bool false,c8] 69 (0,0)))
  (hr:w.ownsRow B' 3 1 v m (nats l)) (hlm:l.length=m) (hl:∀a∈l,a<n) (hd:DataB w B bs da dn dc) (hB:B≤w.heap.size) (hn:n≤1000000) (ht:K.cac.length+m≤1000000) (hdn:dn≤1000000) (hsbm:sb≠sm) (hBs:B≤sb) :
  Calls Tryz.prog 26 #[.pointer (some ⟨sb,0,none⟩),v,.slice da dn dc] w (WriteEnd w B db sm n sb K (pieces l bs) c1 c2 c3 c4 c5 c6 c8):=by
 obtain⟨i5,hi5,hz5,hy5,hx5⟩:=info_parts Tryz.info5
 obtain⟨o,c,rfl,_⟩:=ownsRow_shape hr
 have H:=Lib.hid h
 have Hsb:=Lib.hid hsb
 have Hr:=Lib.hid hr
 have Hl:=Lib.hid hl
 have Hlm:=Lib.hid hlm
 have Hd:=Lib.hid hd
 obtain⟨_,_,_,hcap,_⟩:=hd
 have h0:da=none→dn=0∧dc=0:=fun e=>by
  obtain⟨⟨o',c',e1,hz,hne⟩,_,hl,hc,_⟩:=Hd.out
  subst e
  simp only [Value.slice.injEq] at e1
  obtain⟨rfl,_,rfl⟩:=e1
  have:=hz rfl
  omega
 clear h hsb hr hl hlm
 go_enter Tryz.func26,Tryz.ntmps26
 go_wp2_with fail
 go_loopw [7,8,9,10,13] (fun _ _ _ _ iv wr=>∃k:Nat,k≤m∧iv=.int .i64 k∧∃Kk:Dk,K.writes (pieces l bs)=Kk.writes ((pieces l bs).drop k)∧Kk.cac.length≤K.cac.length+k∧DK wr B db sm n Kk∧Fr B TD [sm] w wr) (fun _ _ _ _ iv _=>m-(intOf iv).toNat)
 case atStart=>exact⟨0,Nat.zero_le _,rfl,K,rfl,Nat.le_refl _,H.out,Fr.refl _ _ _ _⟩
 case round =>
  obtain⟨k,hk,rfl,Kk,hKk,hKl,hdi,hfr⟩:=hrel
  have HKk:=Lib.hid hKk
  clear hKk
  have Hdi:=Lib.hid hdi
  have Hfr:=Lib.hid hfr
  have hsz:=hfr.size
  clear hdi hfr
  by_cases hlt:k<m
  ·obtain⟨a,ha⟩:∃a,l[k]?=some a:=⟨_,List.getElem?_eq_getElem (by rw [Hlm.out];exact hlt)⟩
   have han:=Hl.out a (List.mem_of_getElem? ha)
   have Hpa:=Lib.hid (pieces_at (bs:=bs) ha)
   obtain⟨lb,rfl⟩:∃lb,o=some ⟨lb,0,none⟩:=by
    rcases Hr.out.2 with ⟨_,h0⟩|⟨g,cap,cur,e,_⟩
    ·omega
    ·simp only [Value.slice.injEq] at e
     exact⟨g,e.1⟩
   have hrr:=Hfr.out.keepRow Hr.out (by decide) (fun g hg hm=>by
    obtain⟨cur,hc⟩:=own_kind Hr.out hg
    obtain⟨es,cm,hkm⟩:=H.out.seen.kind
    have:g=sm:=by simpa using hm
    rw [this,hkm] at hc
    cases hc)
   have hca:wr.cell? ⟨lb,k,none⟩=some (.int .i64 (a:Nat)):=by
    have h1:=ownsRow_cell hrr k (.int .i64 (a:Nat)) (by simp [nats,ha])
    simpa using h1
   have hsbr:=Hfr.out.keep Hsb.out (by simpa using hsbm) (by decide)
   go_upto_region 5 with (at_make;refine wpList_make_full _ rfl _ _ 34 rfl wr.heap.size 5 i5 (.int .u8 0) 1 Tryz.underlying34 hi5 hz5 hy5 .i64 .i64 256 256 256 rfl rfl rfl rfl (by rw [hx5];decide) (by unfold maxLen;omega) (Nat.le_refl _) ?_;intro w1 hown1 hgrow1;have Hown1:=Lib.hid hown1;have Hg1:=Lib.hid hgrow1;clear hown1 hgrow1)
   have hw1o:Olds wr w1:=⟨Hg1.out.size,fun b hb=>Hg1.out.block b hb (by simp)⟩
   have hs1:=Hg1.out.size
   obtain⟨hby,h8b,hbl,_⟩:=(Hd.out.fr Hfr.out (by decide) (fun b hb cs fr hc=>by
    obtain⟨es,cm,hkm⟩:=H.out.seen.kind
    have:b=sm:=by simpa using hb
    rw [this,hkm] at hc
    cases hc)).olds hw1o
   have hz:(madeCells (Value.int .u8 0).cells (256 * 1)).toList=octs (List.replicate 256 0):=by
    show (madeCells #[Value.int .u8 0] 256).toList=_
    rw [toList_madeCells_one]
    simp [octs]
   rw [hz] at Hown1
   have hnb:=new_bytes Hown1.out
   obtain⟨p,hp⟩:∃p,p=min dn (k * 256):=⟨_,rfl⟩
   obtain⟨ds,hds⟩:∃ds,ds=(bs.drop p).take 256:=⟨_,rfl⟩
   have hdl:(octs ds).length=Nat.min (dn-p) 256:=by
    rw [octs_len,hds,List.length_take,List.length_drop,hbl,Nat.min_comm]
   have hd256:ds.length≤256:=by rw [hds,List.length_take];omega
   have hone:=@one_octs ds
   have HB1:Hid (Below wr.heap.size wr w1):=Lib.hid ⟨Hg1.out.os,Hg1.out.tape,Hg1.out.output,Hg1.out.size,fun b hb=>Hg1.out.block b hb (by simp)⟩
   have hmin:min (dn:Int) ((k:Int) * 256)=(p:Int):=by rw [hp];omega
   have Hhds:=Lib.hid hds
   have hsz5:(Tryz.prog.info? 5).map (·.size)=some 1:=by rw [hi5];simp [hy5]
   have hfit:0+(octs ds).length≤(octs (List.replicate 256 0)).length:=by simp [octs_len];omega
   have HRow:Hid (∀w2:World,w2.heap[wr.heap.size]?=some (.cells (splice (octs (List.replicate 256 0)) 0 (octs ds)).toArray 5 (0,0))→RowB w2 wr.heap.size (.slice (some ⟨wr.heap.size,0,none⟩) 256 256) (piece bs k) 256):=Lib.hid (fun w2 hh=>by
    rw [octs_splice] at hh
    have hsl:(splice (List.replicate 256 0) 0 ds).length=256:=by rw [length_splice _ _ _ (by simp;omega)];simp
    rw [← piece_splice hbl hp Hhds.out]
    refine⟨?_,fun x hx=>?_,hsl⟩
    ·unfold Row8
     rw [hsl]
     exact old_bytes (Nat.le_refl _) (by rw [octs_len,hsl]) hh
    ·unfold splice at hx
     simp only [List.take_zero,List.nil_append,List.mem_append] at hx
     rcases hx with hx | hx
     ·rw [Hhds.out] at hx
      exact h8b x (List.mem_of_mem_drop (List.mem_of_mem_take hx))
     ·have:=List.mem_of_mem_drop hx
      simp at this
      omega)
   by_cases hd0:dn=0
   ·subst hd0
    have hds0:ds=[]:=by rw [hds,List.eq_nil_of_length_eq_zero hbl];simp
    rw [show Nat.min (0-p) 256=Nat.min 0 256 by rw [Nat.zero_sub]] at hdl
    clear hmin hp
    rcases da with _|⟨b,off,spot⟩
    ·obtain⟨_,rfl⟩:=h0 rfl
     have hvac:0<(octs ds).length→(some (⟨wr.heap.size,0,none⟩:Addr))=some ⟨wr.heap.size,0,none⟩∧∃ad,(none:Option Addr)=some ad∧∀j v,(octs ds)[j]?=some v→w1.cell? (ad.add j)=some v:=fun h=>by rw [hds0] at h;simp [octs] at h
     go_upto_region 6 with ((refine wpList_copy_splice rfl _ _ 34 34 rfl 5 Tryz.underlying34 hsz5 (some ⟨wr.heap.size,0,none⟩) none 256 256 0 0 rfl rfl wr.heap.size 0 (octs (List.replicate 256 0)) 5 hnb (octs ds) hdl hvac hfit hone wr.heap.size wr HB1.out (Nat.le_refl _) ?_;intro w2 hh2 hb2))
     have Hb2:=Lib.hid hb2
     clear hb2
     have hrow2:RowB w2 wr.heap.size (.slice (some ⟨wr.heap.size,0,none⟩) 256 256) (piece bs k) 256:=HRow.out w2 hh2.out
     have HDW:=Lib.hid (dwrite_any (w:=w2) (B:=B) (B':=wr.heap.size) a (Hdi.out.olds (Olds.of_below Hb2.out)) han hn (by omega) (by have:=Hb2.out.size;omega) hrow2)
     have hs2:w2.heap[sb]?=_:=(Hb2.out.block sb (heap_lt hsbr)).trans hsbr
     have Hs2:=Lib.hid hs2
     have h20:w2.cell? ⟨sb,0,none⟩=some (.pointer (some ⟨db,0,none⟩)):=by rw [cell_of_heap hs2];rfl
     have hz2:=Hb2.out.size
     have hwl:=write_len Kk a (piece bs k)
     clear hs2 hrow2 hh2
     cases hok:Kk.ok with
     | true =>
      have hcd:((codeOf Kk.ok:Nat):Int)=0:=by rw [hok];rfl
      have hnx:Kk.writes ((pieces l bs).drop k)=(Kk.write a (piece bs k)).writes ((pieces l bs).drop (k+1)):=by
       rw [Hpa.out]
       show (if Kk.ok then _ else _)=_
       rw [if_pos hok]
      have Hnx:=Lib.hid hnx
      rw [hcd] at HDW
      clear hcd hnx
      go_wp2_with (first
       | (go_at_call 29;refine HDW.out.mono ?_;clear HDW;rintro e w3 ⟨rfl,hdi3,hfr3⟩;have Hdi3:=Lib.hid hdi3;have Hfr3:=Lib.hid hfr3;have HDD:=Lib.hid (did_any (hfr3.keep Hs2.out (by simpa using hsbm) (by decide)));clear hdi3 hfr3)
       | (go_at_call 50;refine HDD.out.mono ?_;clear HDD;rintro e w4 ⟨rfl,ho4,hb4⟩;have Ho4:=Lib.hid ho4;have Hb4:=Lib.hid hb4;clear ho4 hb4))
      go_roundw
      case rel=>exact⟨k+1,by omega,by go_num,Kk.write a (piece bs k),HKk.out.trans Hnx.out,by omega,Hdi3.out.olds Ho4.out,((Hfr.out.trans (Fr.of_below Hb2.out (by omega) _ _)).trans Hfr3.out).trans ⟨Hb4.out B,fun b o hb _ _=>(Ho4.out.2 b (heap_lt hb)).trans hb⟩⟩
      case measure=>simp [intOf];omega
     | false =>
      have hcd:((codeOf Kk.ok:Nat):Int)=4:=by rw [hok];rfl
      have hnx:Kk.writes ((pieces l bs).drop k)=(false,Kk.write a (piece bs k)):=by
       rw [Hpa.out]
       show (if Kk.ok then _ else _)=_
       rw [if_neg (by rw [hok];decide)]
      have Hnx:=Lib.hid (HKk.out.trans hnx)
      rw [hcd] at HDW
      clear hcd hnx
      go_wp2_with (first
       | (go_at_call 29;refine HDW.out.mono ?_;clear HDW;rintro e w3 ⟨rfl,hdi3,hfr3⟩;have Hdi3:=Lib.hid hdi3;have Hfr3:=Lib.hid hfr3;have HDD:=Lib.hid (did_dark (hfr3.keep Hs2.out (by simpa using hsbm) (by decide)));clear hdi3 hfr3)
       | (go_at_call 50;refine HDD.out.mono ?_;clear HDD;rintro e w4 ⟨rfl,hq4,ho4,hb4⟩;have Hq4:=Lib.hid hq4;have Ho4:=Lib.hid ho4;have Hb4:=Lib.hid hb4;clear hq4 ho4 hb4))
      all_goals go_ret
      all_goals exact write_failed Hnx.out hBs hsbm Hs2.out ((Hfr.out.trans (Fr.of_below Hb2.out (by omega) _ _))) Hdi3.out Hfr3.out Hq4.out Ho4.out (Hb4.out B hBs)
    ·have hvac:0<(octs ds).length→(some (⟨wr.heap.size,0,none⟩:Addr))=some ⟨wr.heap.size,0,none⟩∧∃ad,some (⟨b,off,spot⟩:Addr)=some ad∧∀j v,(octs ds)[j]?=some v→w1.cell? (ad.add j)=some v:=fun h=>by rw [hds0] at h;simp [octs] at h
     go_upto_region 6 with ((refine wpList_copy_splice rfl _ _ 34 34 rfl 5 Tryz.underlying34 hsz5 (some ⟨wr.heap.size,0,none⟩) (some ⟨b,off,spot⟩) 256 256 0 dc rfl rfl wr.heap.size 0 (octs (List.replicate 256 0)) 5 hnb (octs ds) hdl hvac hfit hone wr.heap.size wr HB1.out (Nat.le_refl _) ?_;intro w2 hh2 hb2))
     have Hb2:=Lib.hid hb2
     clear hb2
     have hrow2:RowB w2 wr.heap.size (.slice (some ⟨wr.heap.size,0,none⟩) 256 256) (piece bs k) 256:=HRow.out w2 hh2.out
     have HDW:=Lib.hid (dwrite_any (w:=w2) (B:=B) (B':=wr.heap.size) a (Hdi.out.olds (Olds.of_below Hb2.out)) han hn (by omega) (by have:=Hb2.out.size;omega) hrow2)
     have hs2:w2.heap[sb]?=_:=(Hb2.out.block sb (heap_lt hsbr)).trans hsbr
     have Hs2:=Lib.hid hs2
     have h20:w2.cell? ⟨sb,0,none⟩=some (.pointer (some ⟨db,0,none⟩)):=by rw [cell_of_heap hs2];rfl
     have hz2:=Hb2.out.size
     have hwl:=write_len Kk a (piece bs k)
     clear hs2 hrow2 hh2
     cases hok:Kk.ok with
     | true =>
      have hcd:((codeOf Kk.ok:Nat):Int)=0:=by rw [hok];rfl
      have hnx:Kk.writes ((pieces l bs).drop k)=(Kk.write a (piece bs k)).writes ((pieces l bs).drop (k+1)):=by
       rw [Hpa.out]
       show (if Kk.ok then _ else _)=_
       rw [if_pos hok]
      have Hnx:=Lib.hid hnx
      rw [hcd] at HDW
      clear hcd hnx
      go_wp2_with (first
       | (go_at_call 29;refine HDW.out.mono ?_;clear HDW;rintro e w3 ⟨rfl,hdi3,hfr3⟩;have Hdi3:=Lib.hid hdi3;have Hfr3:=Lib.hid hfr3;have HDD:=Lib.hid (did_any (hfr3.keep Hs2.out (by simpa using hsbm) (by decide)));clear hdi3 hfr3)
       | (go_at_call 50;refine HDD.out.mono ?_;clear HDD;rintro e w4 ⟨rfl,ho4,hb4⟩;have Ho4:=Lib.hid ho4;have Hb4:=Lib.hid hb4;clear ho4 hb4))
      go_roundw
      case rel=>exact⟨k+1,by omega,by go_num,Kk.write a (piece bs k),HKk.out.trans Hnx.out,by omega,Hdi3.out.olds Ho4.out,((Hfr.out.trans (Fr.of_below Hb2.out (by omega) _ _)).trans Hfr3.out).trans ⟨Hb4.out B,fun b o hb _ _=>(Ho4.out.2 b (heap_lt hb)).trans hb⟩⟩
      case measure=>simp [intOf];omega
     | false =>
      have hcd:((codeOf Kk.ok:Nat):Int)=4:=by rw [hok];rfl
      have hnx:Kk.writes ((pieces l bs).drop k)=(false,Kk.write a (piece bs k)):=by
       rw [Hpa.out]
       show (if Kk.ok then _ else _)=_
       rw [if_neg (by rw [hok];decide)]
      have Hnx:=Lib.hid (HKk.out.trans hnx)
      rw [hcd] at HDW
      clear hcd hnx
      go_wp2_with (first
       | (go_at_call 29;refine HDW.out.mono ?_;clear HDW;rintro e w3 ⟨rfl,hdi3,hfr3⟩;have Hdi3:=Lib.hid hdi3;have Hfr3:=Lib.hid hfr3;have HDD:=Lib.hid (did_dark (hfr3.keep Hs2.out (by simpa using hsbm) (by decide)));clear hdi3 hfr3)
       | (go_at_call 50;refine HDD.out.mono ?_;clear HDD;rintro e w4 ⟨rfl,hq4,ho4,hb4⟩;have Hq4:=Lib.hid hq4;have Ho4:=Lib.hid ho4;have Hb4:=Lib.hid hb4;clear hq4 ho4 hb4))
      all_goals go_ret
      all_goals exact write_failed Hnx.out hBs hsbm Hs2.out ((Hfr.out.trans (Fr.of_below Hb2.out (by omega) _ _))) Hdi3.out Hfr3.out Hq4.out Ho4.out (Hb4.out B hBs)
   ·obtain⟨b,off,rfl,hcb⟩:∃b off,da=some ⟨b,off,none⟩∧CellsAt w1 b off (octs bs):=by
     obtain⟨o',c',e1,_,hne⟩:=hby
     simp only [Value.slice.injEq] at e1
     obtain⟨rfl,_,_⟩:=e1
     exact hne (fun e=>by have:=congrArg List.length e;rw [octs_len,hbl] at this;simp at this;omega)
    have hsrc:∀j v,(octs ds)[j]?=some v→w1.cell? ((⟨b,off+p,none⟩:Addr).add j)=some v:=fun j v hv=>by
     rw [show (⟨b,off+p,none⟩:Addr).add j=⟨b,off+p+j,none⟩ by simp [Addr.add],Nat.add_assoc]
     refine hcb (p+j) v ?_
     rw [Hhds.out] at hv
     have hj:j<256:=by
      have:=(List.getElem?_eq_some_iff.1 hv).1
      rw [octs_len,List.length_take] at this
      omega
     unfold octs at hv ⊢
     rw [List.map_take,List.map_drop,List.getElem?_take_of_lt hj,List.getElem?_drop] at hv
     exact hv
    by_cases hpk:k * 256<dn
    ·obtain rfl:p=k * 256:=by omega
     clear hmin hp
     go_upto_region 6 with ((refine wpList_copy_splice rfl _ _ 34 34 rfl 5 Tryz.underlying34 hsz5 (some ⟨wr.heap.size,0,none⟩) (some ⟨b,off+k * 256,none⟩) 256 256 (dn-k * 256) (dc-k * 256) rfl rfl wr.heap.size 0 (octs (List.replicate 256 0)) 5 hnb (octs ds) hdl (fun _=>⟨rfl,_,rfl,hsrc⟩) hfit hone wr.heap.size wr HB1.out (Nat.le_refl _) ?_;intro w2 hh2 hb2))
     have Hb2:=Lib.hid hb2
     clear hb2
     have hrow2:RowB w2 wr.heap.size (.slice (some ⟨wr.heap.size,0,none⟩) 256 256) (piece bs k) 256:=HRow.out w2 hh2.out
     have HDW:=Lib.hid (dwrite_any (w:=w2) (B:=B) (B':=wr.heap.size) a (Hdi.out.olds (Olds.of_below Hb2.out)) han hn (by omega) (by have:=Hb2.out.size;omega) hrow2)
     have hs2:w2.heap[sb]?=_:=(Hb2.out.block sb (heap_lt hsbr)).trans hsbr
     have Hs2:=Lib.hid hs2
     have h20:w2.cell? ⟨sb,0,none⟩=some (.pointer (some ⟨db,0,none⟩)):=by rw [cell_of_heap hs2];rfl
     have hz2:=Hb2.out.size
     have hwl:=write_len Kk a (piece bs k)
     clear hs2 hrow2 hh2
     cases hok:Kk.ok with
     | true =>
      have hcd:((codeOf Kk.ok:Nat):Int)=0:=by rw [hok];rfl
      have hnx:Kk.writes ((pieces l bs).drop k)=(Kk.write a (piece bs k)).writes ((pieces l bs).drop (k+1)):=by
       rw [Hpa.out]
       show (if Kk.ok then _ else _)=_
       rw [if_pos hok]
      have Hnx:=Lib.hid hnx
      rw [hcd] at HDW
      clear hcd hnx
      go_wp2_with (first
       | (go_at_call 29;refine HDW.out.mono ?_;clear HDW;rintro e w3 ⟨rfl,hdi3,hfr3⟩;have Hdi3:=Lib.hid hdi3;have Hfr3:=Lib.hid hfr3;have HDD:=Lib.hid (did_any (hfr3.keep Hs2.out (by simpa using hsbm) (by decide)));clear hdi3 hfr3)
       | (go_at_call 50;refine HDD.out.mono ?_;clear HDD;rintro e w4 ⟨rfl,ho4,hb4⟩;have Ho4:=Lib.hid ho4;have Hb4:=Lib.hid hb4;clear ho4 hb4))
      go_roundw
      case rel=>exact⟨k+1,by omega,by go_num,Kk.write a (piece bs k),HKk.out.trans Hnx.out,by omega,Hdi3.out.olds Ho4.out,((Hfr.out.trans (Fr.of_below Hb2.out (by omega) _ _)).trans Hfr3.out).trans ⟨Hb4.out B,fun b o hb _ _=>(Ho4.out.2 b (heap_lt hb)).trans hb⟩⟩
      case measure=>simp [intOf];omega
     | false =>
      have hcd:((codeOf Kk.ok:Nat):Int)=4:=by rw [hok];rfl
      have hnx:Kk.writes ((pieces l bs).drop k)=(false,Kk.write a (piece bs k)):=by
       rw [Hpa.out]
       show (if Kk.ok then _ else _)=_
       rw [if_neg (by rw [hok];decide)]
      have Hnx:=Lib.hid (HKk.out.trans hnx)
      rw [hcd] at HDW
      clear hcd hnx
      go_wp2_with (first
       | (go_at_call 29;refine HDW.out.mono ?_;clear HDW;rintro e w3 ⟨rfl,hdi3,hfr3⟩;have Hdi3:=Lib.hid hdi3;have Hfr3:=Lib.hid hfr3;have HDD:=Lib.hid (did_dark (hfr3.keep Hs2.out (by simpa using hsbm) (by decide)));clear hdi3 hfr3)
       | (go_at_call 50;refine HDD.out.mono ?_;clear HDD;rintro e w4 ⟨rfl,hq4,ho4,hb4⟩;have Hq4:=Lib.hid hq4;have Ho4:=Lib.hid ho4;have Hb4:=Lib.hid hb4;clear hq4 ho4 hb4))
      all_goals go_ret
      all_goals exact write_failed Hnx.out hBs hsbm Hs2.out ((Hfr.out.trans (Fr.of_below Hb2.out (by omega) _ _))) Hdi3.out Hfr3.out Hq4.out Ho4.out (Hb4.out B hBs)
    ·obtain rfl:p=dn:=by omega
     have hds0:ds=[]:=by rw [hds,List.drop_of_length_le (by omega)];rfl
     rw [Nat.sub_self] at hdl
     have hvac:0<(octs ds).length→(some (⟨wr.heap.size,0,none⟩:Addr))=some ⟨wr.heap.size,0,none⟩∧∃ad,(if dc=p then some (⟨b,off,none⟩:Addr) else some ⟨b,off+p,none⟩)=some ad∧∀j v,(octs ds)[j]?=some v→w1.cell? (ad.add j)=some v:=fun h=>by rw [hds0] at h;simp [octs] at h
     clear hmin hp
     go_upto_region 6 with ((refine wpList_copy_splice rfl _ _ 34 34 rfl 5 Tryz.underlying34 hsz5 (some ⟨wr.heap.size,0,none⟩) (if dc=p then some ⟨b,off,none⟩ else some ⟨b,off+p,none⟩) 256 256 0 (dc-p) rfl rfl wr.heap.size 0 (octs (List.replicate 256 0)) 5 hnb (octs ds) hdl hvac hfit hone wr.heap.size wr HB1.out (Nat.le_refl _) ?_;intro w2 hh2 hb2))
     have Hb2:=Lib.hid hb2
     clear hb2
     have hrow2:RowB w2 wr.heap.size (.slice (some ⟨wr.heap.size,0,none⟩) 256 256) (piece bs k) 256:=HRow.out w2 hh2.out
     have HDW:=Lib.hid (dwrite_any (w:=w2) (B:=B) (B':=wr.heap.size) a (Hdi.out.olds (Olds.of_below Hb2.out)) han hn (by omega) (by have:=Hb2.out.size;omega) hrow2)
     have hs2:w2.heap[sb]?=_:=(Hb2.out.block sb (heap_lt hsbr)).trans hsbr
     have Hs2:=Lib.hid hs2
     have h20:w2.cell? ⟨sb,0,none⟩=some (.pointer (some ⟨db,0,none⟩)):=by rw [cell_of_heap hs2];rfl
     have hz2:=Hb2.out.size
     have hwl:=write_len Kk a (piece bs k)
     clear hs2 hrow2 hh2
     cases hok:Kk.ok with
     | true =>
      have hcd:((codeOf Kk.ok:Nat):Int)=0:=by rw [hok];rfl
      have hnx:Kk.writes ((pieces l bs).drop k)=(Kk.write a (piece bs k)).writes ((pieces l bs).drop (k+1)):=by
       rw [Hpa.out]
       show (if Kk.ok then _ else _)=_
       rw [if_pos hok]
      have Hnx:=Lib.hid hnx
      rw [hcd] at HDW
      clear hcd hnx
      go_wp2_with (first
       | (go_at_call 29;refine HDW.out.mono ?_;clear HDW;rintro e w3 ⟨rfl,hdi3,hfr3⟩;have Hdi3:=Lib.hid hdi3;have Hfr3:=Lib.hid hfr3;have HDD:=Lib.hid (did_any (hfr3.keep Hs2.out (by simpa using hsbm) (by decide)));clear hdi3 hfr3)
       | (go_at_call 50;refine HDD.out.mono ?_;clear HDD;rintro e w4 ⟨rfl,ho4,hb4⟩;have Ho4:=Lib.hid ho4;have Hb4:=Lib.hid hb4;clear ho4 hb4))
      go_roundw
      case rel=>exact⟨k+1,by omega,by go_num,Kk.write a (piece bs k),HKk.out.trans Hnx.out,by omega,Hdi3.out.olds Ho4.out,((Hfr.out.trans (Fr.of_below Hb2.out (by omega) _ _)).trans Hfr3.out).trans ⟨Hb4.out B,fun b o hb _ _=>(Ho4.out.2 b (heap_lt hb)).trans hb⟩⟩
      case measure=>simp [intOf];omega
     | false =>
      have hcd:((codeOf Kk.ok:Nat):Int)=4:=by rw [hok];rfl
      have hnx:Kk.writes ((pieces l bs).drop k)=(false,Kk.write a (piece bs k)):=by
       rw [Hpa.out]
       show (if Kk.ok then _ else _)=_
       rw [if_neg (by rw [hok];decide)]
      have Hnx:=Lib.hid (HKk.out.trans hnx)
      rw [hcd] at HDW
      clear hcd hnx
      go_wp2_with (first
       | (go_at_call 29;refine HDW.out.mono ?_;clear HDW;rintro e w3 ⟨rfl,hdi3,hfr3⟩;have Hdi3:=Lib.hid hdi3;have Hfr3:=Lib.hid hfr3;have HDD:=Lib.hid (did_dark (hfr3.keep Hs2.out (by simpa using hsbm) (by decide)));clear hdi3 hfr3)
       | (go_at_call 50;refine HDD.out.mono ?_;clear HDD;rintro e w4 ⟨rfl,hq4,ho4,hb4⟩;have Hq4:=Lib.hid hq4;have Ho4:=Lib.hid ho4;have Hb4:=Lib.hid hb4;clear hq4 ho4 hb4))
      all_goals go_ret
      all_goals exact write_failed Hnx.out hBs hsbm Hs2.out ((Hfr.out.trans (Fr.of_below Hb2.out (by omega) _ _))) Hdi3.out Hfr3.out Hq4.out Ho4.out (Hb4.out B hBs)
  ·go_wp2_with fail
   go_ret
   obtain rfl:k=m:=by omega
   have hfin:K.writes (pieces l bs)=(true,Kk):=by
    rw [HKk.out,List.drop_of_length_le (by unfold pieces;simp [Hlm.out])]
    rfl
   unfold WriteEnd
   rw [hfin]
   exact⟨rfl,Hdi.out,fun _=>Hfr.out,fun e=>by cases e⟩
end Go.Proofs.YtndjmffnlcilbaaGreatDoor
