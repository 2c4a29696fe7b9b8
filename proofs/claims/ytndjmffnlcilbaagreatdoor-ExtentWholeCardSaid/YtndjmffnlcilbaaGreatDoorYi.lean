/- Contracts over this program. Their conditions: the slices read as the lists that are named, and lie within the sizes that are named. -/
import Derived.Test.YtndjmffnlcilbaaGreatDoorYh
import Derived.Test.YtndjmffnlcilbaaGreatDoorSh
import Derived.Maps.OwnSet
import Derived.StringKeys
import Derived.Test.YtndjmffnlcilbaaGreatDoorIt
set_option linter.unusedSimpArgs false
set_option linter.unusedVariables false
set_option linter.deprecated false
set_option linter.unnecessarySimpa false
namespace Go.Proofs.YtndjmffnlcilbaaGreatDoor
open Go Go.RowKit Go.Ix Go.Ext Go.Maps
def cutset:ByteArray:=⟨#[97,98,99,100,101,102,103,104,105,106,107,108,109,110,111,112,113,114,115,116,117,118,119,120,121,122,48,49,50,51,52,53,54,55,56,57,46,45]⟩
theorem cutset_ascii:∀(j:Nat) (b:UInt8),cutset.data.toList[j]?=some b→b.toNat<128:=by
 have h:∀b∈cutset.data.toList,b.toNat<128:=by decide +kernel
 exact fun j b hb=>h b (List.mem_of_getElem? hb)
theorem trim_set (s:Txt) (w:World) (hs:s.length≤1000000) :
  Calls Tryz.prog 89 #[encStr s,.string cutset] w fun e w'=>e=.returned (encStr (Lib.trimS s cutset.data.toList))∧Below w.heap.size w w':=by
 have hsz:(⟨s.toArray⟩:ByteArray).size=s.length:=by show s.toArray.size=s.length;simp
 have h:=Any.strings_Trim_laid Tryz.lays160 (by kernel_rfl) ⟨s.toArray⟩ cutset w (by rw [hsz];omega) (by decide +kernel) cutset_ascii
 exact h.mono fun e w' ⟨h1,h2⟩=>⟨by simpa using h1,h2⟩
def isNm (s:Txt):Bool:=decide (1≤s.length) && decide (s.length≤32) && decide (Lib.trimS s cutset.data.toList=[])
set_option maxRecDepth 20000 in
set_option maxHeartbeats 1000000 in
theorem isName_any (s:Txt) (w:World) (hs:s.length≤1000000) :
  Calls Tryz.prog 71 #[encStr s] w fun e w'=>e=.returned (.bool (isNm s))∧Below w.heap.size w w':=by
 have HT:=Lib.hid (trim_set s w hs)
 have hI:Hid (isNm s=(decide (1≤s.length) && decide (s.length≤32) && decide (Lib.trimS s cutset.data.toList=[]))):=Lib.hid rfl
 generalize Lib.trimS s cutset.data.toList=s' at *
 unfold cutset at HT
 generalize isNm s=z at *
 by_cases h1:1≤s.length
 ·by_cases h2:s.length≤32
  ·go_enter Tryz.func71,Tryz.ntmps71
   go_wp2_with (go_at_call 89;refine HT.out.mono ?_;clear HT;rintro e w1 ⟨rfl,hb⟩;have Hb:=Lib.hid hb;clear hb)
   go_ret
   refine⟨ret_bool ?_,Hb.out⟩
   rw [hI.out]
   cases s'<;>simp [h1,h2]
  ·go_enter Tryz.func71,Tryz.ntmps71
   go_wp2_with fail
   go_ret
   refine⟨ret_bool ?_,Below.refl _ _⟩
   rw [hI.out]
   simp [h1,h2]
 ·go_enter Tryz.func71,Tryz.ntmps71
  go_wp2_with fail
  go_ret
  refine⟨ret_bool ?_,Below.refl _ _⟩
  rw [hI.out]
  simp [h1]
theorem isNm_len {s:Txt}(h:isNm s=true):s.length<256∧s≠[]:=by
 unfold isNm at h
 simp only [Bool.and_eq_true,decide_eq_true_eq] at h
 refine⟨by omega,fun e=>?_⟩
 rw [e] at h
 simp at h
end Go.Proofs.YtndjmffnlcilbaaGreatDoor
namespace Go.Proofs.YtndjmffnlcilbaaGreatDoor
open Go Go.RowKit Go.Ix Go.Ext Go.Maps
theorem Tryz.lawT:Keyed Tryz.prog 9:=string_keyed Tryz.underlying9
theorem keyT (s:Txt) (h:s.length≤1000000000):keyOf Tryz.prog 9 (encStr s)=some (.string s):=by
 have:=WideMaps.keyOf_string_mk (P:=Tryz.prog) (k:=9) Tryz.underlying9 (s:=⟨s.toArray⟩) (by show s.toArray.size≤maxLen;unfold maxLen;simp;omega)
 simpa using this
def fval (f:Fi) (v:Value):Value:=.agg #[.bool f.log,.int .i64 (f.size:Nat),.int .u32 f.sum,v]
def fzero:Value:=.agg #[.bool false,.int .i64 0,.int .u32 0,.slice none 0 0]
theorem zeroF (w:World):(zeroValue 91).run Tryz.prog w=.ok fzero w:=by kernel_rfl
def SMap (w:World) (B tb mb nm:Nat) (l:Fs):Prop :=
 ∃D:DataW Value,w.ownsMap Tryz.prog 9 RV mb nm D∧(keys l).Nodup∧∀s,(Ext.look l s=none→has D (.string s)=false)∧∀f,Ext.look l s=some f→∃v,w.ownsRow B 3 1 v f.secs.length (nats f.secs)∧v.ownBlock≠some tb∧∀z,D.atKey (.string s) z=.held (fval f v)
section
variable {w W:World}{B tb mb nm:Nat}{l:Fs}
theorem SMap.lt (h:SMap w B tb mb nm l):mb<w.heap.size:=by
 obtain⟨D,h,_⟩:=h
 exact h.lt
theorem SMap.kind (h:SMap w B tb mb nm l):∃es c,w.heap[mb]?=some (.map es c):=by
 obtain⟨D,⟨es,clock,h1,_⟩,_⟩:=h
 exact⟨es,clock,h1⟩
theorem SMap.nodup (h:SMap w B tb mb nm l):(keys l).Nodup:=by
 obtain⟨D,_,h,_⟩:=h
 exact h
theorem SMap.keep (h:SMap w B tb mb nm l) (hm:W.heap[mb]?=w.heap[mb]?) (hr:∀b cs fr,b≠tb→w.heap[b]?=some (.cells cs 3 fr)→W.heap[b]?=some (.cells cs 3 fr)):SMap W B tb mb nm l:=by
 obtain⟨D,⟨es,clock,h1,h2⟩,h3,h4⟩:=h
 refine⟨D,⟨es,clock,hm.trans h1,h2⟩,h3,fun s=>⟨(h4 s).1,fun f hf=>?_⟩⟩
 obtain⟨v,h5,h6,h7⟩:=(h4 s).2 f hf
 refine⟨v,ownsRow_blocks h5 fun g hg=>?_,h6,h7⟩
 obtain⟨cur,hc⟩:=own_kind h5 hg
 rw [hc]
 exact hr g _ _ (fun e=>h6 (by rw [hg,e])) hc
theorem SMap.fr (h:SMap w B tb mb nm l) {B':Nat}{T M:List Nat}(hf:Fr B' T M w W) (ht:3∉T) (hm:mb∉M) (hM:∀b∈M,b≠tb→∀cs fr,w.heap[b]?≠some (.cells cs 3 fr)):SMap W B tb mb nm l:=by
 obtain⟨es,c,hk⟩:=h.kind
 exact h.keep ((hf.keepMap hk hm).trans hk.symm) fun b cs fr hb hc=>hf.keep hc (fun hbm=>hM b hbm hb cs fr hc) ht
theorem SMap.olds (h:SMap w B tb mb nm l) (hb:Olds w W):SMap W B tb mb nm l:=h.keep (hb.2 _ h.lt) fun b cs fr _ hc=>(hb.2 b (heap_lt hc)).trans hc
theorem SMap.mono (h:SMap w B tb mb nm l) {nm':Nat}(hn:nm≤nm'):SMap w B tb mb nm' l:=by
 obtain⟨D,h1,h2⟩:=h
 exact⟨D,h1.mono hn,h2⟩
theorem SMap.made (w:World) (B tb:Nat):SMap (w.alloc (.map #[] 0)) B tb w.heap.size 0 [] :=
 ⟨.map [],World.ownsMap_made w _ _ _,List.nodup_nil,fun s=>⟨fun _=>by simp [has],fun f hf=>by cases hf⟩⟩
theorem SMap.look (h:SMap w B tb mb nm l) (s:Txt) (hs:s.length≤1000000000) :
  ∃v,(Instr.lookup 65 (.map (some mb)) (encStr s) false).run Tryz.prog w=.ok v w∧(Instr.lookup 65 (.map (some mb)) (encStr s) true).run Tryz.prog w=.ok (.tuple #[v,.bool (Ext.look l s).isSome]) w∧
   (Ext.look l s=none→v=fzero)∧∀f,Ext.look l s=some f→∃r,v=fval f r∧w.ownsRow B 3 1 r f.secs.length (nats f.secs)∧r.ownBlock≠some tb:=by
 obtain⟨D,hown,_,hD⟩:=h
 obtain⟨v,ps,hr,hv⟩:=hown.lookup (t:=65) (e:=91) Tryz.lawT Tryz.underlying65 (zeroF w) (zd:=.held fzero) (zp:=[]) rfl (keyT s hs)
 obtain⟨v',ps',hr',hv'⟩:=hown.look_ok (t:=65) (e:=91) Tryz.lawT Tryz.underlying65 (zeroF w) (zd:=.held fzero) (zp:=[]) rfl (keyT s hs)
 obtain⟨h1,h2⟩:=hD s
 cases hF:Ext.look l s with
 | none =>
  have hno:=h1 hF
  rw [atKey_of_not_has hno] at hv hv'
  simp only [RV,Option.some.injEq,Prod.mk.injEq,DataW.held.injEq] at hv hv'
  rw [hno] at hr'
  exact⟨v,hr,by rw [hr',hv'.1,hv.1];rfl,fun _=>hv.1,fun f hf=>by cases hf⟩
 | some f =>
  obtain⟨r,hrow,hne,hat⟩:=h2 f hF
  rw [hat] at hv hv'
  simp only [RV,Option.some.injEq,Prod.mk.injEq,DataW.held.injEq] at hv hv'
  rw [has_true_of_atKey hat] at hr'
  exact⟨v,hr,by rw [hr',hv'.1,hv.1];rfl,(fun h=>by cases h),fun f' hf=>by cases hf;exact⟨r,hv.1,hrow,hne⟩⟩
theorem SMap.store (h:SMap w B tb mb nm l) {s:Txt}{f:Fi}{v:Value}(hs:s.length≤1000000000) (hn:nm<1000000000) (hno:s∉keys l) (hr:w.ownsRow B 3 1 v f.secs.length (nats f.secs)) (hv:v.ownBlock≠some tb) :
  ∃w',(Instr.mapUpdate 65 (.map (some mb)) (encStr s) (fval f v)).run Tryz.prog w=.ok () w'∧SMap w' B tb mb (nm+1) ((s,f) :: l)∧w.grownBy w' (some mb):=by
 obtain⟨es,c,hk⟩:=h.kind
 obtain⟨D,hown,hnd,hD⟩:=h
 obtain⟨w',h1,h2,h3⟩:=hown.update (t:=65) (e:=91) Tryz.lawT Tryz.underlying65 (by unfold maxLen;omega) (keyT s hs) (val:=fval f v) (d:=.held (fval f v)) (ps:=[]) rfl
 have hrow:∀{v:Value}{n:Nat}{xs:List Value},w.ownsRow B 3 1 v n xs→w'.ownsRow B 3 1 v n xs:=fun {v n xs} h=>ownsRow_blocks h fun g hg=>by
  obtain⟨cur,hc⟩:=own_kind h hg
  exact h3.block g (heap_lt hc) (fun e=>by cases e;rw [hk] at hc;cases hc)
 refine⟨w',h1,⟨_,h2,by simp only [keys,List.map_cons,List.nodup_cons];exact⟨hno,hnd⟩,fun x=>?_⟩,h3⟩
 by_cases hx:s=x
 ·subst hx
  refine⟨fun h=>by simp [Ext.look] at h,fun g hg=>?_⟩
  simp only [Ext.look,if_true,Option.some.injEq] at hg
  subst hg
  exact⟨v,hrow hr,hv,fun z=>atKey_put_same hown.isMap (k:=.string s) trivial _ _⟩
 ·have hne:(Lit.string x)≠Lit.string s:=fun e=>hx (by cases e;rfl)
  refine⟨fun h=>?_,fun g hg=>?_⟩
  ·simp only [Ext.look,hx,if_false] at h
   rw [has_put_other hne]
   exact (hD x).1 h
  ·simp only [Ext.look,hx,if_false] at hg
   obtain⟨r,a1,a2,a3⟩:=(hD x).2 g hg
   exact⟨r,hrow a1,a2,fun z=>by rw [atKey_put_other hne];exact a3 z⟩
end
theorem wpList_sdel {w:World}{B tb mb nm:Nat}{l:Fs}{s:Txt}{ops:Array Oper}{rest:List Oper}{o:Oper}{a:Act}{Q:Exit→Act→World→Prop}(hg:o.guard=none) (m x:Operand) (hop:o.op=Op.call { callee:=Callee.builtin Builtin.delete,args:=#[m,x],argTypes:=#[65,9] })
  (hm:a.eval m=.map (some mb)) (hx:a.eval x=encStr s) (h:SMap w B tb mb nm l) (hs:s.length≤1000000000)
  (hK:∀w',SMap w' B tb mb nm (Ext.drop l s)→w.grownBy w' (some mb)→wpList Tryz.prog ops Q rest (a.put o.dst (.tuple #[])) w'):wpList Tryz.prog ops Q (o :: rest) a w:=by
 obtain⟨es,c,hk⟩:=h.kind
 obtain⟨D,hown,hnd,hD⟩:=h
 refine wpList_delete_own w hg m x 65 9 hop 91 Tryz.lawT Tryz.underlying65 RV mb nm D hm hown _ _ hx (keyT s hs) fun w' h2 h3=>?_
 have h3:=h3.grown
 refine hK w' ⟨_,h2,keys_drop hnd,fun x=>?_⟩ h3
 have hrow:∀{v:Value}{n:Nat}{xs:List Value},w.ownsRow B 3 1 v n xs→w'.ownsRow B 3 1 v n xs:=fun {v n xs} h=>ownsRow_blocks h fun g hg=>by
  obtain⟨cur,hc⟩:=own_kind h hg
  exact h3.block g (heap_lt hc) (fun e=>by cases e;rw [hk] at hc;cases hc)
 by_cases hx:x=s
 ·subst hx
  refine⟨fun _=>has_del_same,fun g hg=>?_⟩
  rw [look_drop,if_pos rfl] at hg
  cases hg
 ·have hne:(Lit.string x)≠Lit.string s:=fun e=>hx (by cases e;rfl)
  rw [look_drop,if_neg hx]
  refine⟨fun h=>?_,fun g hg=>?_⟩
  ·rw [has_del_other hne]
   exact (hD x).1 h
  ·obtain⟨r,a1,a2,a3⟩:=(hD x).2 g hg
   exact⟨r,hrow a1,a2,fun z=>by rw [atKey_del_other hne];exact a3 z⟩
end Go.Proofs.YtndjmffnlcilbaaGreatDoor
namespace Go.Proofs.YtndjmffnlcilbaaGreatDoor
open Go Go.RowKit Go.Ix Go.Ext Go.Maps Go.Sort
theorem clone_any {w:World}{B tb mb nm:Nat}{l:Fs}(h:SMap w B tb mb nm l) :
  Calls Tryz.prog 47 #[.map (some mb)] w fun e w'=>e=.returned (.map (some w.heap.size))∧SMap w' B tb w.heap.size nm l∧Below w.heap.size w w':=by
 obtain⟨D,hown,hnd,hD⟩:=h
 have hcon:=AnyW.maps_Clone_owns Tryz.clone47 9 RV mb nm D w hown
 change Calls Tryz.prog 47 _ _ _ at hcon
 refine hcon.mono fun e w' ⟨h1,h2,_,h4⟩=>⟨h1,⟨D,h2,hnd,fun s=>⟨(hD s).1,fun f hf=>?_⟩⟩,h4⟩
 obtain⟨v,a1,a2,a3⟩:=(hD s).2 f hf
 exact⟨v,ownsRow_olds a1 (Olds.of_below h4),a2,a3⟩
theorem mkeys_any (mb:Option Nat) (W:World):Calls Tryz.prog 52 #[.map mb] W fun e w'=>e=.returned (.func (.func 78) #[] #[.pointer (some ⟨W.heap.size,0,none⟩)])∧w'=W.alloc (.cells #[.map mb] 65) :=
 callsIn_wide.1 (Tryz.maps_Keys_52 mb W)
theorem smap_perm {w:World}{B tb mb nm:Nat}{l:Fs}{D:DataW Value}(hown:w.ownsMap Tryz.prog 9 RV mb nm D) (hnd:(keys l).Nodup) (hD:∀s,(Ext.look l s=none→has D (.string s)=false)∧∀f,Ext.look l s=some f→∃v,w.ownsRow B 3 1 v f.secs.length (nats f.secs)∧v.ownBlock≠some tb∧∀z,D.atKey (.string s) z=.held (fval f v)):(keys l).Perm (strKeys D) :=
 Collected.perm (left:=fun _=>false) ⟨hnd,fun x=>by
  have hx:has D (.string x)=decide (x∈keys l):=by
   by_cases hm:x∈keys l
   ·cases hl:Ext.look l x with
    | none=>exact absurd hm (look_none.1 hl)
    | some f =>
     obtain⟨v,_,_,hat⟩:=(hD x).2 f hl
     rw [has_true_of_atKey hat]
     simp [hm]
   ·rw [(hD x).1 (look_none.2 hm)]
    simp [hm]
  rw [hx]
  simp⟩ hown Tryz.lawT Tryz.underlying9 (fun _=>rfl)
theorem smap_size {w:World}{B tb mb nm:Nat}{l:Fs}{D:DataW Value}(hown:w.ownsMap Tryz.prog 9 RV mb nm D) (hnd:(keys l).Nodup) (hD:∀s,(Ext.look l s=none→has D (.string s)=false)∧∀f,Ext.look l s=some f→∃v,w.ownsRow B 3 1 v f.secs.length (nats f.secs)∧v.ownBlock≠some tb∧∀z,D.atKey (.string s) z=.held (fval f v)):Maps.size D=l.length:=by
 have h:=(smap_perm hown hnd hD).length_eq
 obtain⟨es,rfl,_⟩:=hown.keysOf
 rw [keys,List.length_map] at h
 rw [h]
 simp [strKeys,Maps.size]
theorem sorted_any {w:World}{B tb mb nm:Nat}{l:Fs}(h:SMap w B tb mb nm l) (hn:nm≤1000000) :
  Calls Tryz.prog 51 #[.func (.func 78) #[] #[.pointer (some ⟨w.heap.size,0,none⟩)]] (w.alloc (.cells #[.map (some mb)] 65)) fun e w'=>∃(v:Value) (ks:List Txt),e=.returned v∧w'.ownsRow (w.heap.size+1) 9 1 v ks.length (ks.map encStr)∧ks=rise (keys l)∧Below (w.heap.size+1) (w.alloc (.cells #[.map (some mb)] 65)) w':=by
 obtain⟨D,hown,hnd,hD⟩:=h
 have hsz:Maps.size D≤nm:=hown.size_le
 refine (callsIn_wide.1 (Tryz.slices_Sorted_keys_51_52 mb nm D RV w hown (by unfold maxLen;omega) (by omega))).mono fun e w' ⟨v,ss,h1,h2,h3,_,h5⟩=>⟨v,ss.mergeSort (fun x y=>decide (x≤y)),h1,?_,?_,?_⟩
 ·rw [List.length_mergeSort]
  simpa using h3
 ·have hp:=smap_perm hown hnd hD
  have h9:=h2.trans hp.symm
  exact sorted_rise (h9.nodup_iff.2 hnd) fun x=>h9.mem_iff
 ·simpa using h5
end Go.Proofs.YtndjmffnlcilbaaGreatDoor
namespace Go.Proofs.YtndjmffnlcilbaaGreatDoor
open Go Go.RowKit Go.Ix Go.Ext Go.Maps
def MayEnd (w:World) (l:Fs) (s:Txt) (e:Ending) (w':World):Prop :=
 Below w.heap.size w w'∧((e=.returned (.int .u16 0)∧s∉keys l∧isNm s=true∧l.length<256)∨∃c:Nat,0<c∧c≠4∧e=.returned (.int .u16 c))
set_option maxRecDepth 20000 in
set_option maxHeartbeats 2000000 in
theorem may_any {w:World}{B tb xb nm sb:Nat}{l:Fs}{c0 c1 c2 c3 c5 c6 c8:Value}(s:Txt) (hsb:w.heap[sb]?=some (.cells #[c0,c1,c2,c3,.map (some xb),c5,c6,.bool false,c8] 69 (0,0))) (h:SMap w B tb xb nm l) (hs:s.length≤1000000) (hnm:nm≤1000000) :
  Calls Tryz.prog 38 #[.pointer (some ⟨sb,0,none⟩),encStr s,.int .i64 1] w (MayEnd w l s):=by
 obtain⟨v,_,hlk,hno,hval⟩:=h.look s (by omega)
 have h4:w.cell? ⟨sb,4,none⟩=some (.map (some xb)):=by rw [cell_of_heap hsb];rfl
 obtain⟨lg,z,u,fo,fn,fc,rfl⟩:∃lg z u fo fn fc,v=.agg #[.bool lg,.int .i64 z,.int .u32 u,.slice fo fn fc]:=by
  cases hl:Ext.look l s with
  | none=>exact⟨_,_,_,_,_,_,hno hl⟩
  | some f =>
   obtain⟨r,e,hr,_⟩:=hval f hl
   obtain⟨o,c,rfl,_⟩:=ownsRow_shape hr
   exact⟨_,_,_,_,_,_,e⟩
 have Hkey:Hid ((Ext.look l s).isSome=false→s∉keys l):=Lib.hid (fun hn=>look_none.1 (by simpa using hn))
 have H:=Lib.hid h
 have Hsb:=Lib.hid hsb
 generalize (Ext.look l s).isSome=is at *
 clear h hsb hno hval
 go_enter Tryz.func38,Tryz.ntmps38
 go_upto_region 2 with fail
 obtain⟨A,hA⟩:∃A:World,A=w.alloc (.cells #[.bool lg,.int .i64 z,.int .u32 u,.slice fo fn fc] 91):=⟨_,rfl⟩
 rw [← hA]
 have HoA:Hid (Below w.heap.size w A):=Lib.hid (by rw [hA];exact (Below.refl _ _).alloc (Nat.le_refl _) _)
 have hAsb:=(HoA.out.block sb (heap_lt Hsb.out)).trans Hsb.out
 have h7:A.cell? ⟨sb,7,none⟩=some (.bool false):=by rw [cell_of_heap hAsb];rfl
 have HN:=Lib.hid (isName_any s A hs)
 have HmA:=Lib.hid (H.out.olds (Olds.of_below HoA.out))
 have HAsb:=Lib.hid hAsb
 clear hA hAsb
 go_upto_if 23 with (go_at_call 71;refine HN.out.mono ?_;clear HN;rintro e w1 ⟨rfl,hb1⟩;have Hb1:=Lib.hid (HoA.out.trans (hb1.mono HoA.out.size));have h41:w1.cell? ⟨sb,4,none⟩=some (.map (some xb)):=(by rw [cell_of_heap ((hb1.block sb (heap_lt HAsb.out)).trans HAsb.out)];rfl);have Hm1:=Lib.hid (HmA.out.olds (Olds.of_below hb1));clear hb1)
 have Hnm:=Lib.hid (rfl:isNm s=isNm s)
 revert Hnm
 generalize hbb:isNm s=b at *
 intro Hnm
 have Hbb:=Lib.hid hbb
 clear hbb Hnm
 cases b with
 | false =>
  go_wp2_with fail
  go_ret
  exact⟨Hb1.out,.inr ⟨62,by decide,by decide,rfl⟩⟩
 | true =>
  cases is with
  | true =>
   go_wp2_with fail
   go_ret
   exact⟨Hb1.out,.inr ⟨64,by decide,by decide,rfl⟩⟩
  | false =>
   obtain⟨D,hown,hnd,hD⟩:=Hm1.out
   have Hsz:=Lib.hid (smap_size hown hnd hD)
   clear hD hnd
   by_cases h256:Maps.size D<256
   ·go_wp2_with (at_len;refine wpList_len_own _ rfl _ 65 rfl 9 91 Tryz.underlying65 RV xb nm D rfl hown ?_)
    go_ret
    exact⟨Hb1.out,.inl ⟨rfl,Hkey.out (by simp),Hbb.out,by rw [← Hsz.out];exact h256⟩⟩
   ·go_wp2_with (at_len;refine wpList_len_own _ rfl _ 65 rfl 9 91 Tryz.underlying65 RV xb nm D rfl hown ?_)
    go_ret
    exact⟨Hb1.out,.inr ⟨66,by decide,by decide,rfl⟩⟩
end Go.Proofs.YtndjmffnlcilbaaGreatDoor
