/- Contracts over this program. Their conditions: the slices read as the lists that are named, and lie within the sizes that are named. -/
import Derived.Test.YtndjmffnlcilbaaGreatDoorYm
import Derived.Test.YtndjmffnlcilbaaGreatDoorYk
set_option linter.unusedSimpArgs false
set_option linter.unusedVariables false
set_option linter.deprecated false
set_option linter.unnecessarySimpa false
namespace Go.Proofs.YtndjmffnlcilbaaGreatDoor
open Go Go.RowKit Go.Ix Go.Ext Go.Maps
theorem dirLen_drop (l:Fs) (s:Txt):dirLen (Ext.drop l s)≤dirLen l:=by
 have h:∀l:Fs,((Ext.drop l s).map fileLen).sum≤(l.map fileLen).sum:=by
  intro l
  induction l with
  | nil=>exact Nat.le_refl _
  | cons p l ih =>
   unfold Ext.drop at ih ⊢
   rw [List.filter_cons]
   split
   ·simp only [List.map_cons,List.sum_cons]
    omega
   ·simp only [List.map_cons,List.sum_cons]
    omega
 unfold dirLen
 have:=h l
 omega
theorem tot_le {f:Nat→Nat}(h:∀a,f a≤1):∀k,tot f k≤k
 | 0=>Nat.le_refl _
 | k+1=>by
  unfold tot
  have:=tot_le h k
  have:=h k
  split<;>omega
theorem _root_.Go.Ext.Inv.short {g:G}(h:Inv g) {s:Txt}{f:Fi}(hs:Ext.look g.next s=some f):f.secs.length≤62:=by
 have hm:=look_mem hs
 rw [← tot_count (h.X _ hm).1]
 refine Nat.le_trans (tot_le (fun a=>?_) _) h.hi
 have h1:=h.next_le a
 have h2:=h.B a
 have h3:cntF g.next a=f.secs.count a+_:=cntF_drop h.kx hm a
 show f.secs.count a≤1
 omega
def RemEnd (w:World) (B db sm sb k D:Nat) (s:Txt) (slot gen:Nat) (t:Dk) (g:G) (ln lx:LF) (e:Ending) (w':World):Prop :=
 Kp B w w'∧∃c:Nat,e=.returned (.int .u16 c)∧((c=0∧∃g',SL w' B db sm sb (k+1) D t slot gen g' ln (withoutF lx s)∧g'.n=g.n)∨(c≠0∧c≠4∧SL w' B db sm sb (k+1) D t slot gen g ln lx))
set_option maxRecDepth 20000 in
set_option maxHeartbeats 4000000 in
theorem remove_any {w:World}{B db sm sb k D tb tc nb xb slot gen:Nat}{t:Dk}{uv dv:Value}{g:G}{s:Txt}{ln lx:LF}(h:SIx w B db sm sb k D t tb tc nb xb slot gen uv dv g) (hL:Live isNm t g slot gen ln lx) (hk:k≤1000) (hs:s.length≤1000000) :
  Calls Tryz.prog 14 #[.pointer (some ⟨sb,0,none⟩),encStr s] w (RemEnd w B db sm sb k D s slot gen t g ln lx):=by
 have HL:=Lib.hid hL
 clear hL
 have hB:=h.hB
 obtain⟨X1,hX1⟩:∃X1:World,X1=w.alloc (.cells #[.pointer (some ⟨sb,0,none⟩)] 30):=⟨_,rfl⟩
 have hX1o:Olds w X1:=by rw [hX1];exact Olds.alloc _ _
 obtain⟨v,_,hlk,hno,hval⟩:=(h.rest.next.olds hX1o).look s (by omega)
 obtain⟨lg,z,u,fo,fn,fc,rfl⟩:∃lg z u fo fn fc,v=.agg #[.bool lg,.int .i64 z,.int .u32 u,.slice fo fn fc]:=by
  cases hl:Ext.look g.next s with
  | none=>exact⟨_,_,_,_,_,_,hno hl⟩
  | some f =>
   obtain⟨r,e,hr,_⟩:=hval f hl
   obtain⟨o,c,rfl,_⟩:=ownsRow_shape hr
   exact⟨_,_,_,_,_,_,e⟩
 obtain⟨X,hX⟩:∃X:World,X=X1.alloc (.cells #[.bool lg,.int .i64 z,.int .u32 u,.slice fo fn fc] 91):=⟨_,rfl⟩
 have hX1s:X1.heap.size=w.heap.size+1:=by rw [hX1];simp
 have hXs:X.heap.size=w.heap.size+2:=by rw [hX];simp [hX1s]
 have hXo:Olds w X:=by rw [hX];exact hX1o.trans (Olds.alloc _ _)
 have hXb:Below w.heap.size w X:=by rw [hX,hX1];exact ((Below.refl _ _).alloc (Nat.le_refl _) _).alloc (by simp) _
 have hb1:X.heap[w.heap.size]?=some (.cells #[.pointer (some ⟨sb,0,none⟩)] 30 (0,0)):=by
  rw [hX,hX1]
  exact (Below.heap_alloc _ _ _ (by simp)).trans (heap_alloc_new _ _)
 have hb2:X.heap[w.heap.size+1]?=some (.cells #[.bool lg,.int .i64 z,.int .u32 u,.slice fo fn fc] 91 (0,0)):=by
  have:=heap_alloc_new X1 (.cells #[.bool lg,.int .i64 z,.int .u32 u,.slice fo fn fc] 91)
  rw [hX1s,← hX] at this
  exact this
 have hXc:=(hXo.2 _ (heap_lt h.cell)).trans h.cell
 have hX1c:=(hX1o.2 _ (heap_lt h.cell)).trans h.cell
 have hx14:X1.cell? ⟨sb,4,none⟩=some (.map (some xb)):=by rw [cell_of_heap hX1c];rfl
 have h7:X.cell? ⟨sb,7,none⟩=some (.bool false):=by rw [cell_of_heap hXc];rfl
 have h4:X.cell? ⟨sb,4,none⟩=some (.map (some xb)):=by rw [cell_of_heap hXc];rfl
 have hp1:X1.cell? ⟨w.heap.size,0,none⟩=some (.pointer (some ⟨sb,0,none⟩)):=by
  rw [hX1,cell_of_heap (heap_alloc_new _ _)];rfl
 have hp:X.cell? ⟨w.heap.size,0,none⟩=some (.pointer (some ⟨sb,0,none⟩)):=by rw [cell_of_heap hb1];rfl
 have HSX:=Lib.hid (h.rest.olds hXo)
 have HIX:=Lib.hid (h.olds hXo)
 have HX:=Lib.hid hX
 have HX1:=Lib.hid hX1
 have HXb:=Lib.hid hXb
 have HXc:=Lib.hid hXc
 have Hb1:=Lib.hid hb1
 have Hb2:=Lib.hid hb2
 have H:=Lib.hid h
 have Hval:=Lib.hid (show ∀f,Ext.look g.next s=some f→∃r,(.agg #[.bool lg,.int .i64 z,.int .u32 u,.slice fo fn fc]:Value)=fval f r∧X1.ownsRow B 3 1 r f.secs.length (nats f.secs)∧r.ownBlock≠some tb from hval)
 have hfind:(∃f,Ext.look g.next s=some f)∨(Ext.look g.next s).isSome=false:=by cases Ext.look g.next s<;>simp
 have Hfind:=Lib.hid hfind
 obtain⟨is,his⟩:∃is,is=(Ext.look g.next s).isSome:=⟨_,rfl⟩
 have His:=Lib.hid his
 rw [← his] at hlk
 clear hX hX1 hXo hX1o hXb hXc hX1c hb1 hb2 h hval hno hfind his
 go_enter Tryz.func14,Tryz.ntmps14
 go_upto_region 1 with fail
 rw [← HX1.out]
 go_upto_region 2 with fail
 rw [← HX.out]
 cases is with
 | false =>
  go_wp2_with fail
  go_ret
  exact⟨Kp.of_below HXb.out hB,63,rfl,.inr ⟨by decide,by decide,⟨_,_,_,_,_,_,HIX.out.mono (Nat.le_succ _) (Nat.le_refl _)⟩,HL.out⟩⟩
 | true =>
  obtain⟨f,hf⟩:∃f,Ext.look g.next s=some f:=by
   rcases Hfind.out with h | h
   ·exact h
   ·rw [← His.out] at h
    cases h
  obtain⟨r,hfv,hr1,hv⟩:=Hval.out f hf
  unfold fval at hfv
  simp only [Value.agg.injEq,Array.mk.injEq,List.cons.injEq,Value.bool.injEq,Value.int.injEq,and_true,true_and] at hfv
  obtain⟨rfl,rfl,rfl,rfl⟩:=hfv
  obtain⟨o',c',hsh,_⟩:=ownsRow_shape hr1
  simp only [Value.slice.injEq] at hsh
  obtain⟨rfl,rfl,rfl⟩:=hsh
  have Hlook:=Lib.hid hf
  have hfok:=Lib.hid (H.out.rest.fokx _ (look_mem hf))
  have hxok:=Lib.hid (H.out.inv.X _ (look_mem hf))
  have HrX:Hid (X.ownsRow B 3 1 (.slice fo f.secs.length fc) f.secs.length (nats f.secs)):=Lib.hid (by rw [HX.out];exact ownsRow_olds hr1 (Olds.alloc _ _))
  have hl2:f.secs.length≤1000:=Nat.le_trans (H.out.inv.short hf) (by decide)
  clear hf hr1 hlk
  go_upto_region 7 with (at_delete;go_loud (refine wpList_sdel rfl _ _ rfl rfl rfl HSX.out.next (by omega) ?_);intro w2 hm2 hg2)
  have Hm2:=Lib.hid hm2
  have Hg2:=Lib.hid hg2
  clear hm2 hg2
  have hXsz:=Hg2.out.size
  have hW2:Hid (∀(b:Nat) (cs:Array Value) (ty:TypeId) (fr:Nat×Nat),X.heap[b]?=some (.cells cs ty fr)→w2.heap[b]?=some (.cells cs ty fr)):=Lib.hid (fun b cs ty fr hb=>by
   obtain⟨es,cm,hkm⟩:=HSX.out.next.kind
   exact (Hg2.out.block b (heap_lt hb) (fun e=>by cases e;rw [hkm] at hb;cases hb)).trans hb)
  have HS2:=Lib.hid (HSX.out.put Hg2.out Hm2.out (Nat.le_refl _) (fun p hp=>H.out.rest.fokx p (List.mem_filter.1 hp).1))
  have hc2:=hW2.out _ _ _ _ HXc.out
  have hb12:=hW2.out _ _ _ _ Hb1.out
  have hb22:=hW2.out _ _ _ _ Hb2.out
  have hr2:w2.ownsRow B 3 1 (.slice fo f.secs.length fc) f.secs.length (nats f.secs):=row_kept (ts:=[3]) HrX.out (by simp) hv (fun b cs ty fr _ _ hb=>hW2.out _ _ _ _ hb)
  have HN:Hid (Calls Tryz.prog 43 #[.pointer (some ⟨sb,0,none⟩),fval f (.slice fo f.secs.length fc)] w2 fun e w'=>e=.returned (.bool (Ext.isNew g.now f))∧Below w2.heap.size w2 w'):=Lib.hid (isNew_any f hc2 HS2.out.now (by omega) hr2)
  have hp2:w2.cell? ⟨w.heap.size,0,none⟩=some (.pointer (some ⟨sb,0,none⟩)):=by rw [cell_of_heap hb12];rfl
  have ha0:w2.cell? ⟨w.heap.size+1,0,none⟩=some (.bool f.log):=by rw [cell_of_heap hb22];rfl
  have ha1:w2.cell? ⟨w.heap.size+1,1,none⟩=some (.int .i64 (f.size:Nat)):=by rw [cell_of_heap hb22];rfl
  have ha2:w2.cell? ⟨w.heap.size+1,2,none⟩=some (.int .u32 f.sum):=by rw [cell_of_heap hb22];rfl
  have ha3:w2.cell? ⟨w.heap.size+1,3,none⟩=some (.slice fo f.secs.length fc):=by rw [cell_of_heap hb22];rfl
  have Hc2:=Lib.hid hc2
  have Hb12:=Lib.hid hb12
  have Hb22:=Lib.hid hb22
  have Hr2:=Lib.hid hr2
  clear hc2 hb12 hb22 hr2
  unfold fval at HN
  obtain⟨nw,hnw⟩:∃nw,nw=Ext.isNew g.now f:=⟨_,rfl⟩
  have Hnw:=Lib.hid hnw
  rw [← hnw] at HN
  clear hnw
  go_upto_if 31 with (go_at_call 43;refine HN.out.mono ?_;clear HN;rintro e wn ⟨rfl,hbn⟩;have Hbn:=Lib.hid hbn;clear hbn)
  have Hon:=Lib.hid (Olds.of_below Hbn.out)
  have HSn:=Lib.hid (HS2.out.olds Hon.out)
  have Hcn:=Lib.hid ((Hon.out.2 _ (heap_lt Hc2.out)).trans Hc2.out)
  have Hb1n:=Lib.hid ((Hon.out.2 _ (heap_lt Hb12.out)).trans Hb12.out)
  have Hb2n:=Lib.hid ((Hon.out.2 _ (heap_lt Hb22.out)).trans Hb22.out)
  have hszn:=Hbn.out.size
  cases nw with
  | false =>
   have HK:Hid (Fr B [] [xb] w wn):=Lib.hid (((Fr.of_below HXb.out hB _ _).map (by omega) Hg2.out (by simp) H.out.rest.bxb).trans (Fr.of_below Hbn.out (by omega) _ _))
   go_wp2_with fail
   go_ret
   have hmk:=fun (bad:List Nat) (hb:3∉bad)=>(H.out.rest.marks hb).sub (M':=[xb]) (by simp)
   refine⟨Kp.fr HK.out (by decide) (hmk _ (by decide)),0,rfl,.inl ⟨rfl,{ g with next:=Ext.drop g.next s },⟨⟨_,_,_,_,_,_,⟨H.out.bsb,Hcn.out,HSn.out.mono (Nat.le_succ k),H.out.di.fr HK.out (by decide) ?_ (hmk _ (by decide)),by have:=H.out.ht;omega,H.out.hslot,by have:=H.out.hgen;omega,by have:=H.out.hu;show g.undo.length≤k+1;omega,H.out.hd,Nat.le_trans (dirLen_drop _ _) H.out.hdx,H.out.smn,H.out.smx,H.out.inv.hidden Hlook.out Hnw.out.symm⟩⟩,HL.out.hidden Hlook.out Hnw.out.symm⟩,rfl⟩⟩
   simp only [List.mem_singleton]
   exact H.out.smx
  | true =>
   have Hnew:Hid (Ext.isNew g.now f=true):=Lib.hid Hnw.out.symm
   have HTb:Hid (∀a,0≤g.T a∧g.T a≤1):=Lib.hid (fun a=>⟨H.out.inv.nonneg a,H.out.inv.B a⟩)
   have Hrn:=Lib.hid (ownsRow_olds Hr2.out Hon.out)
   have HH:Hid (Calls Tryz.prog 44 #[.pointer (some ⟨sb,0,none⟩),.slice fo f.secs.length fc,.int .i64 (-1)] wn fun e w'=>e=.returned (.tuple #[])∧Taken w' B tb g.n tc (fun a=>g.T a+(-1) * ((f.secs.count a:Nat):Int))∧On tb wn w'):=Lib.hid (hold_any (w:=wn) (B:=B) (B':=B) f.secs (-1) (.inr rfl) Hcn.out rfl HSn.out.taken (fun a=>by have h9:0≤g.T a∧g.T a≤1:=HTb.out a;show -1000000000≤g.T a∧g.T a≤1000000000;omega) Hrn.out hv (fun a ha=>(hxok.out.1 a ha).2) rfl (by omega) (by have:=H.out.inv.hi;omega))
   have q1:wn.cell? ⟨w.heap.size,0,none⟩=some (.pointer (some ⟨sb,0,none⟩)):=by rw [cell_of_heap Hb1n.out];rfl
   have q3:wn.cell? ⟨w.heap.size+1,3,none⟩=some (.slice fo f.secs.length fc):=by rw [cell_of_heap Hb2n.out];rfl
   clear hp2 ha0 ha1 ha2 ha3
   go_upto_region 9 with (go_at_call 44;refine HH.out.mono ?_;clear HH;rintro e w3 ⟨rfl,hT3,ho3⟩;have HT3:=Lib.hid hT3;have Ho3:=Lib.hid ho3;clear hT3 ho3)
   have HS3:=Lib.hid (HSn.out.on Ho3.out HT3.out)
   have hne3:∀{b:Nat}{cs:Array Value}{ty:TypeId}{fr:Nat×Nat},wn.heap[b]?=some (.cells cs ty fr)→ty≠3→w3.heap[b]?=some (.cells cs ty fr):=fun {b cs ty fr} hb hne=>(Ho3.out.block b (ne_taken HSn.out.taken hb hne)).trans hb
   have Hc3:=Lib.hid (hne3 Hcn.out (by decide))
   have Hb13:=Lib.hid (hne3 Hb1n.out (by decide))
   have Hb23:=Lib.hid (hne3 Hb2n.out (by decide))
   have Hr3:=Lib.hid (Ho3.out.row Hrn.out hv)
   clear hne3 q1 q3
   obtain⟨us,hu⟩:=HS3.out.undo
   obtain⟨uo,uc,rfl,_⟩:=ownsRow_shape hu.1
   have Hu:=Lib.hid hu
   clear hu
   have Huk:=Lib.hid H.out.hu
   obtain⟨un,hun⟩:∃un,un=g.undo.length:=⟨_,rfl⟩
   have Hun:=Lib.hid hun
   have hunk:un≤1000:=by have:=Huk.out;omega
   rw [← hun] at Hc3
   obtain⟨V,hV⟩:∃V:World,V=(w3.alloc (.cells #[(Value.func (.func 45) #[] #[.pointer (some ⟨w.heap.size,0,none⟩),.pointer (some ⟨w.heap.size+1,0,none⟩)])] 1)).drew:=⟨_,rfl⟩
   have hVo:Olds w3 V:=by rw [hV];exact (Olds.alloc w3 _).trans (Olds.drewN _ 1)
   have HVo:=Lib.hid hVo
   have HUV:Hid (V.ownsRow B 1 1 (.slice uo un uc) un us):=Lib.hid (by have h9:=ownsRow_olds Hu.out.1 hVo;rw [← hun] at h9;exact h9)
   have HSV:=Lib.hid (HS3.out.olds hVo)
   have HbV:Hid (V.heap[w.heap.size]?=_∧V.heap[w.heap.size+1]?=_∧V.heap[sb]?=_):=Lib.hid ⟨(hVo.2 _ (heap_lt Hb13.out)).trans Hb13.out,(hVo.2 _ (heap_lt Hb23.out)).trans Hb23.out,(hVo.2 _ (heap_lt Hc3.out)).trans Hc3.out⟩
   have hVs:V.heap.size=w3.heap.size+1:=by rw [hV];exact World.size_alloc _ _
   have HKV:Hid (∀w5:World,V.grownBy w5 (Value.slice uo un uc).ownBlock→w5.heap[w.heap.size]?=V.heap[w.heap.size]?∧w5.heap[w.heap.size+1]?=V.heap[w.heap.size+1]?∧w5.heap[sb]?=V.heap[sb]?):=Lib.hid (fun w5 hg5=>by
    have hk:∀{b:Nat}{cs:Array Value}{ty:TypeId}{fr:Nat×Nat},V.heap[b]?=some (.cells cs ty fr)→ty≠1→w5.heap[b]?=V.heap[b]?:=fun {b cs ty fr} hb hne=>hg5.block b (heap_lt hb) (fun e=>by
     obtain⟨cur,hc⟩:=own_kind HUV.out e.symm
     rw [hc] at hb
     simp only [Option.some.injEq,Obj.cells.injEq] at hb
     exact hne hb.2.1.symm)
    exact⟨hk HbV.out.1 (by decide),hk HbV.out.2.1 (by decide),hk HbV.out.2.2 (by decide)⟩)
   have hs3:w3.cell? ⟨w.heap.size,0,none⟩=some (.pointer (some ⟨sb,0,none⟩)):=by rw [cell_of_heap Hb13.out];rfl
   have hc35:w3.drew.cell? ⟨sb,5,none⟩=some (.slice uo un uc):=by rw [cell_of_heap (show w3.drew.heap[sb]?=_ from Hc3.out)];rfl
   have hcV5:V.cell? ⟨sb,5,none⟩=some (.slice uo un uc):=by rw [cell_of_heap HbV.out.2.2];rfl
   have hsV:V.cell? ⟨w.heap.size,0,none⟩=some (.pointer (some ⟨sb,0,none⟩)):=by rw [cell_of_heap HbV.out.1];rfl
   have HV:=Lib.hid hV
   obtain⟨i1,hi1,hz1,hy1,hx1⟩:=info_parts Tryz.info1
   have hbV:V.heap[w3.heap.size]?=some (.cells #[(Value.func (.func 45) #[] #[.pointer (some ⟨w.heap.size,0,none⟩),.pointer (some ⟨w.heap.size+1,0,none⟩)])] 1 (0,0)):=by
    rw [hV]
    have:=heap_alloc_new w3 (.cells #[(Value.func (.func 45) #[] #[.pointer (some ⟨w.heap.size,0,none⟩),.pointer (some ⟨w.heap.size+1,0,none⟩)])] 1)
    exact this
   have HbVn:=Lib.hid hbV
   have hfv1:∀u∈[(Value.func (.func 45) #[] #[.pointer (some ⟨w.heap.size,0,none⟩),.pointer (some ⟨w.heap.size+1,0,none⟩)])],u.oneCell'=true:=by
    intro u hu
    have:u=(Value.func (.func 45) #[] #[.pointer (some ⟨w.heap.size,0,none⟩),.pointer (some ⟨w.heap.size+1,0,none⟩)]):=by simpa using hu
    rw [this]
    rfl
   have hB3:B≤w3.heap.size:=by have:=Ho3.out.size;have:=Hg2.out.size;have:=Hbn.out.size;omega
   have hBV:B≤V.heap.size:=by have:=Ho3.out.size;have:=Hg2.out.size;have:=Hbn.out.size;omega
   have Hne:Hid (w.heap.size≠sb):=Lib.hid (fun e=>by have:=heap_lt H.out.cell;omega)
   have HF:Hid (Fr B [1,69] [xb,tb] w V):=Lib.hid (by
    rw [HV.out]
    exact ((((((Fr.of_below HXb.out hB _ _).map (by omega) Hg2.out (by simp) H.out.rest.bxb).trans (Fr.of_below Hbn.out (by omega) _ _)).trans ((Ho3.out.fr H.out.rest.btb []).mono (Nat.le_refl _) (by simp) (by simp))).alloc (by omega) _).drew))
   clear hV hVo hbV hun
   refine wp_region_held_drew (S:=(fun W'=>W'.cell? ⟨w.heap.size,0,none⟩=some (.pointer (some ⟨sb,0,none⟩)))) (by kernel_rfl) (show w3.drew.cell? ⟨w.heap.size,0,none⟩=_ from hs3) (fun hHeld=>?_)
   refine wpAnyH_take (i:=0) (v:=?v0b) rfl (by kernel_rfl) (by kernel_rfl) (by kernel_rfl) (fun _ _ _ h=>h) (Or.inl ⟨by rfl,?h0b⟩) hHeld ?r0b
   case h0b =>
    rintro W s1
    go_simp
    all_goals with_reducible rfl
   try simp only [Act.put,List.setIfInBounds_toArray,List.set_cons_zero,List.set_cons_succ]
   refine wpAnyH_take (i:=1) (v:=?v1b) rfl (by kernel_rfl) (by kernel_rfl) (by kernel_rfl) (fun _ _ _ h=>h) (Or.inl ⟨by rfl,?h1b⟩) hHeld ?r1b
   case h1b =>
    rintro W s1
    go_simp
    all_goals with_reducible rfl
   try simp only [Act.put,List.setIfInBounds_toArray,List.set_cons_zero,List.set_cons_succ]
   refine wpAnyH_take (i:=2) (v:=?v2b) rfl (by kernel_rfl) (by kernel_rfl) (by kernel_rfl) (fun _ _ _ h=>h) (Or.inl ⟨by rfl,?h2b⟩) hHeld ?r2b
   case h2b =>
    rintro W s1
    go_simp
    all_goals with_reducible rfl
   try simp only [Act.put,List.setIfInBounds_toArray,List.set_cons_zero,List.set_cons_succ]
   refine wpAnyH_take (i:=3) (v:=?v3b) rfl (by kernel_rfl) (by kernel_rfl) (by kernel_rfl) (fun _ _ _ h=>h) (Or.inl ⟨by rfl,?h3b⟩) hHeld ?r3b
   case h3b =>
    rintro W s1
    go_simp
    all_goals with_reducible rfl
   try simp only [Act.put,List.setIfInBounds_toArray,List.set_cons_zero,List.set_cons_succ]
   refine wpAnyH_take (i:=5) (v:=?v5b) rfl (by kernel_rfl) (by kernel_rfl) (by kernel_rfl) (fun _ _ _ h=>h) (Or.inl ⟨by rfl,?h5b⟩) hHeld ?r5b
   case h5b =>
    rintro W s1
    go_simp
    all_goals with_reducible rfl
   try simp only [Act.put,List.setIfInBounds_toArray,List.set_cons_zero,List.set_cons_succ]
   refine wpAnyH_ready (rs:=[4,6]) (by kernel_rfl) (by simp) (AllReadyH.cons rfl (fun K hK=>?_) (AllReadyH.cons rfl (fun K hK=>?_) AllReadyH.nil))
   ·go_simp
    refine hK.out _ _ hHeld (fun hHeld2=>?_)
    clear hK K
    try simp only [Act.put,List.setIfInBounds_toArray,List.set_cons_zero,List.set_cons_succ]
    refine wpAnyH_ready (rs:=[6]) (by kernel_rfl) (by simp) (AllReadyH.cons rfl (fun K hK=>?_) AllReadyH.nil)
    go_simp
    rw [← HV.out]
    refine hK.out _ _ hsV (fun hHeld2=>?_)
    clear hK K
    try simp only [Act.put,List.setIfInBounds_toArray,List.set_cons_zero,List.set_cons_succ]
    refine wpAnyH_ready (rs:=[7]) (by kernel_rfl) (by simp) (AllReadyH.cons rfl (fun K hK=>?_) AllReadyH.nil)
    refine step_append_lies _ (by rfl) _ _ _ (by rfl) B 1 i1 _ 1 8 Tryz.underlying67 hi1 hz1 hy1 hx1 rfl (by decide) (.slice uo un uc) un us (by go_simp) HUV.out ⟨w3.heap.size,0,none⟩ 1 1 [(Value.func (.func 45) #[] #[.pointer (some ⟨w.heap.size,0,none⟩),.pointer (some ⟨w.heap.size+1,0,none⟩)])] (by go_simp) rfl (World.news_of_block (cs:=#[(Value.func (.func 45) #[] #[.pointer (some ⟨w.heap.size,0,none⟩),.pointer (some ⟨w.heap.size+1,0,none⟩)])]) (t:=1) (fr:=(0,0)) HbVn.out) hfv1 Nat.one_pos (by unfold maxLen;omega) (by omega) hBV (w3.heap.size+1) hVs ?_
    intro gg cap2 w5 hown5 hgrow5 hat5 hlt5
    obtain⟨p1,p2,p3⟩:=HKV.out w5 hgrow5
    have h55:w5.heap[sb]?=_:=p3.trans HbV.out.2.2
    have hs5:w5.cell? ⟨w.heap.size,0,none⟩=some (.pointer (some ⟨sb,0,none⟩)):=by rw [cell_of_heap (p1.trans HbV.out.1)];rfl
    have hf5:w5.frozen? ⟨sb,5,none⟩=false:=by simp [World.frozen?,h55]
    have Hown5:=Lib.hid hown5
    have Hgrow5:=Lib.hid hgrow5
    have H55:=Lib.hid h55
    clear hown5 hgrow5
    have hc55:w5.cell? ⟨sb,5,none⟩=some (.slice uo un uc):=by rw [cell_of_heap h55];rfl
    refine hK.out _ _ hs5 (fun hHeld2=>?_)
    clear hK K
    try simp only [Act.put,List.setIfInBounds_toArray,List.set_cons_zero,List.set_cons_succ]
    refine wpAnyH_take (i:=8) (v:=?v8c4) rfl (by kernel_rfl) (by kernel_rfl) (by kernel_rfl) (fun _ _ _ h=>h) (Or.inl ⟨by rfl,?h8c4⟩) hs5 ?r8c4
    case h8c4 =>
     rintro W s1
     go_simp
     all_goals with_reducible rfl
    try simp only [Act.put,List.setIfInBounds_toArray,List.set_cons_zero,List.set_cons_succ]
    refine wpAnyH_take (i:=9) (v:=?v9c4) rfl (by kernel_rfl) (by kernel_rfl) (by kernel_rfl) (fun _ _ _ h=>h) (Or.inl ⟨by rfl,?h9c4⟩) hs5 ?r9c4
    case h9c4 =>
     rintro W s1
     go_simp
     all_goals with_reducible rfl
    try simp only [Act.put,List.setIfInBounds_toArray,List.set_cons_zero,List.set_cons_succ]
    refine wpAnyH_ready (rs:=[10]) (by kernel_rfl) (by simp) (AllReadyH.cons rfl (fun K hK=>?_) AllReadyH.nil)
    go_simp
    refine hK.out _ _ ?_ (fun hHeld2=>?_)
    ·rw [World.cell?_of_block (w:=w5) (Below.heap_setCell _ _ _ _ Hne.out)];exact hs5
    clear hK K
    refine wpAnyH_done (by kernel_rfl) ?_ _
    try simp only [Act.put,List.setIfInBounds_toArray,List.set_cons_zero,List.set_cons_succ]
    go_wp2_with fail
    go_ret
    have hZ:Fr B [1,69] [xb,tb] w (w5.setCell ⟨sb,5,none⟩ (.slice (some ⟨gg,0,none⟩) (un+1) cap2)):=(HF.out.row hBV HUV.out (by simp) Hgrow5.out).cell (p:=⟨sb,5,none⟩) H55.out H.out.bsb (.inr (by simp)) _
    have hUV:=UndoRow.olds HS3.out.taken Hu.out HVo.out
    have hg5:=Hgrow5.out
    rw [Hun.out] at hg5
    have hcg:=cells_grown hUV hg5
    have hclo:Clo w5 B sb tb g.n (Value.func (.func 45) #[] #[.pointer (some ⟨w.heap.size,0,none⟩),.pointer (some ⟨w.heap.size+1,0,none⟩)]) (f.secs,1):=⟨fun a ha=>(hxok.out.1 a ha).2,hl2,w.heap.size,w.heap.size+1,f.log,f.size,f.sum,_,.inr ⟨rfl,rfl⟩,p1.trans HbV.out.1,p2.trans HbV.out.2.1,row_kept (ownsRow_olds Hr3.out HVo.out) (by simp) hv hcg,hv⟩
    have hund:UndoAt w5 B sb tb g.n (.slice (some ⟨gg,0,none⟩) (un+1) cap2) (g.undo++[(f.secs,1)]):=UndoRow.push HSV.out.taken hUV hcg (by have h9:=Hown5.out;rw [Hun.out] at h9;rw [Hun.out];exact h9) hclo
    have hR5:=(HSV.out.push (W:=w5) hg5 hund).but H55.out (by decide) (fun b hb=>Below.heap_setCell w5 ⟨sb,5,none⟩ (.slice (some ⟨gg,0,none⟩) (un+1) cap2) b hb)
    have hcell:SCell (w5.setCell ⟨sb,5,none⟩ (.slice (some ⟨gg,0,none⟩) (un+1) cap2)) sb db tb tc nb xb g.n slot gen (.slice (some ⟨gg,0,none⟩) (un+1) cap2) dv:=heap_setCell_same w5 sb 5 _ _ _ H55.out
    have hmk:=fun (bad:List Nat) (hb:3∉bad)=>(H.out.rest.marks hb).sub (M':=[xb,tb]) (by simp)
    refine⟨Kp.fr hZ (by decide) (hmk _ (by decide)),0,rfl,.inl ⟨rfl,{ g with next:=Ext.drop g.next s,T:=fun a=>g.T a+(-1) * ((f.secs.count a:Nat):Int),undo:=g.undo++[(f.secs,1)] },⟨⟨_,_,_,_,_,_,⟨H.out.bsb,hcell,hR5.mono (Nat.le_succ k),H.out.di.fr hZ (by decide) ?_ (hmk _ (by decide)),by have:=H.out.ht;omega,H.out.hslot,by have:=H.out.hgen;omega,?_,H.out.hd,Nat.le_trans (dirLen_drop _ _) H.out.hdx,H.out.smn,H.out.smx,H.out.inv.gone Hlook.out Hnew.out⟩⟩,HL.out.gone Hlook.out Hnew.out⟩,rfl⟩⟩
    ·simp only [List.mem_cons,List.not_mem_nil,or_false,not_or]
     exact⟨H.out.smx,H.out.smtb⟩
    ·have:=H.out.hu
     simp
     omega
   ·go_simp
    rw [← HV.out]
    refine hK.out _ _ hsV (fun hHeld2=>?_)
    clear hK K
    try simp only [Act.put,List.setIfInBounds_toArray,List.set_cons_zero,List.set_cons_succ]
    refine wpAnyH_ready (rs:=[4]) (by kernel_rfl) (by simp) (AllReadyH.cons rfl (fun K hK=>?_) AllReadyH.nil)
    go_simp
    refine hK.out _ _ hsV (fun hHeld2=>?_)
    clear hK K
    try simp only [Act.put,List.setIfInBounds_toArray,List.set_cons_zero,List.set_cons_succ]
    refine wpAnyH_ready (rs:=[7]) (by kernel_rfl) (by simp) (AllReadyH.cons rfl (fun K hK=>?_) AllReadyH.nil)
    refine step_append_lies _ (by rfl) _ _ _ (by rfl) B 1 i1 _ 1 8 Tryz.underlying67 hi1 hz1 hy1 hx1 rfl (by decide) (.slice uo un uc) un us (by go_simp) HUV.out ⟨w3.heap.size,0,none⟩ 1 1 [(Value.func (.func 45) #[] #[.pointer (some ⟨w.heap.size,0,none⟩),.pointer (some ⟨w.heap.size+1,0,none⟩)])] (by go_simp) rfl (World.news_of_block (cs:=#[(Value.func (.func 45) #[] #[.pointer (some ⟨w.heap.size,0,none⟩),.pointer (some ⟨w.heap.size+1,0,none⟩)])]) (t:=1) (fr:=(0,0)) HbVn.out) hfv1 Nat.one_pos (by unfold maxLen;omega) (by omega) hBV (w3.heap.size+1) hVs ?_
    intro gg cap2 w5 hown5 hgrow5 hat5 hlt5
    obtain⟨p1,p2,p3⟩:=HKV.out w5 hgrow5
    have h55:w5.heap[sb]?=_:=p3.trans HbV.out.2.2
    have hs5:w5.cell? ⟨w.heap.size,0,none⟩=some (.pointer (some ⟨sb,0,none⟩)):=by rw [cell_of_heap (p1.trans HbV.out.1)];rfl
    have hf5:w5.frozen? ⟨sb,5,none⟩=false:=by simp [World.frozen?,h55]
    have Hown5:=Lib.hid hown5
    have Hgrow5:=Lib.hid hgrow5
    have H55:=Lib.hid h55
    clear hown5 hgrow5
    have hc55:w5.cell? ⟨sb,5,none⟩=some (.slice uo un uc):=by rw [cell_of_heap h55];rfl
    refine hK.out _ _ hs5 (fun hHeld2=>?_)
    clear hK K
    try simp only [Act.put,List.setIfInBounds_toArray,List.set_cons_zero,List.set_cons_succ]
    refine wpAnyH_take (i:=8) (v:=?v8c6) rfl (by kernel_rfl) (by kernel_rfl) (by kernel_rfl) (fun _ _ _ h=>h) (Or.inl ⟨by rfl,?h8c6⟩) hs5 ?r8c6
    case h8c6 =>
     rintro W s1
     go_simp
     all_goals with_reducible rfl
    try simp only [Act.put,List.setIfInBounds_toArray,List.set_cons_zero,List.set_cons_succ]
    refine wpAnyH_take (i:=9) (v:=?v9c6) rfl (by kernel_rfl) (by kernel_rfl) (by kernel_rfl) (fun _ _ _ h=>h) (Or.inl ⟨by rfl,?h9c6⟩) hs5 ?r9c6
    case h9c6 =>
     rintro W s1
     go_simp
     all_goals with_reducible rfl
    try simp only [Act.put,List.setIfInBounds_toArray,List.set_cons_zero,List.set_cons_succ]
    refine wpAnyH_ready (rs:=[10]) (by kernel_rfl) (by simp) (AllReadyH.cons rfl (fun K hK=>?_) AllReadyH.nil)
    go_simp
    refine hK.out _ _ ?_ (fun hHeld2=>?_)
    ·rw [World.cell?_of_block (w:=w5) (Below.heap_setCell _ _ _ _ Hne.out)];exact hs5
    clear hK K
    refine wpAnyH_done (by kernel_rfl) ?_ _
    try simp only [Act.put,List.setIfInBounds_toArray,List.set_cons_zero,List.set_cons_succ]
    go_wp2_with fail
    go_ret
    have hZ:Fr B [1,69] [xb,tb] w (w5.setCell ⟨sb,5,none⟩ (.slice (some ⟨gg,0,none⟩) (un+1) cap2)):=(HF.out.row hBV HUV.out (by simp) Hgrow5.out).cell (p:=⟨sb,5,none⟩) H55.out H.out.bsb (.inr (by simp)) _
    have hUV:=UndoRow.olds HS3.out.taken Hu.out HVo.out
    have hg5:=Hgrow5.out
    rw [Hun.out] at hg5
    have hcg:=cells_grown hUV hg5
    have hclo:Clo w5 B sb tb g.n (Value.func (.func 45) #[] #[.pointer (some ⟨w.heap.size,0,none⟩),.pointer (some ⟨w.heap.size+1,0,none⟩)]) (f.secs,1):=⟨fun a ha=>(hxok.out.1 a ha).2,hl2,w.heap.size,w.heap.size+1,f.log,f.size,f.sum,_,.inr ⟨rfl,rfl⟩,p1.trans HbV.out.1,p2.trans HbV.out.2.1,row_kept (ownsRow_olds Hr3.out HVo.out) (by simp) hv hcg,hv⟩
    have hund:UndoAt w5 B sb tb g.n (.slice (some ⟨gg,0,none⟩) (un+1) cap2) (g.undo++[(f.secs,1)]):=UndoRow.push HSV.out.taken hUV hcg (by have h9:=Hown5.out;rw [Hun.out] at h9;rw [Hun.out];exact h9) hclo
    have hR5:=(HSV.out.push (W:=w5) hg5 hund).but H55.out (by decide) (fun b hb=>Below.heap_setCell w5 ⟨sb,5,none⟩ (.slice (some ⟨gg,0,none⟩) (un+1) cap2) b hb)
    have hcell:SCell (w5.setCell ⟨sb,5,none⟩ (.slice (some ⟨gg,0,none⟩) (un+1) cap2)) sb db tb tc nb xb g.n slot gen (.slice (some ⟨gg,0,none⟩) (un+1) cap2) dv:=heap_setCell_same w5 sb 5 _ _ _ H55.out
    have hmk:=fun (bad:List Nat) (hb:3∉bad)=>(H.out.rest.marks hb).sub (M':=[xb,tb]) (by simp)
    refine⟨Kp.fr hZ (by decide) (hmk _ (by decide)),0,rfl,.inl ⟨rfl,{ g with next:=Ext.drop g.next s,T:=fun a=>g.T a+(-1) * ((f.secs.count a:Nat):Int),undo:=g.undo++[(f.secs,1)] },⟨⟨_,_,_,_,_,_,⟨H.out.bsb,hcell,hR5.mono (Nat.le_succ k),H.out.di.fr hZ (by decide) ?_ (hmk _ (by decide)),by have:=H.out.ht;omega,H.out.hslot,by have:=H.out.hgen;omega,?_,H.out.hd,Nat.le_trans (dirLen_drop _ _) H.out.hdx,H.out.smn,H.out.smx,H.out.inv.gone Hlook.out Hnew.out⟩⟩,HL.out.gone Hlook.out Hnew.out⟩,rfl⟩⟩
    ·simp only [List.mem_cons,List.not_mem_nil,or_false,not_or]
     exact⟨H.out.smx,H.out.smtb⟩
    ·have:=H.out.hu
     simp
     omega
end Go.Proofs.YtndjmffnlcilbaaGreatDoor
