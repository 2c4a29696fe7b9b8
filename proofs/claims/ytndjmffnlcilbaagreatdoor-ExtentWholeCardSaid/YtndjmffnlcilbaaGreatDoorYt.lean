/- Contracts over this program. Their conditions: the slices read as the lists that are named, and lie within the sizes that are named. -/
import Derived.Test.YtndjmffnlcilbaaGreatDoorYc
import Derived.Test.YtndjmffnlcilbaaGreatDoorYh
import Derived.Lib.ConvBytes
set_option linter.unusedSimpArgs false
set_option linter.unusedVariables false
set_option linter.deprecated false
set_option linter.unnecessarySimpa false
namespace Go.Ext
open Go.Ix Line
theorem mark_some:∀(k a:Nat) (T T':List Bool),mark k a T=some T'→T'=setAll T (List.range' a k)∧∀i,i<k→T[a+i]?=some false
 | 0,_,T,T',h=>⟨(Option.some.inj h).symm,fun i hi=>by omega⟩
 | k+1,a,T,T',h=>by
  unfold mark at h
  split at h
  ·rename_i h0
   obtain⟨h1,h2⟩:=mark_some k (a+1) _ _ h
   refine⟨by rw [h1,List.range'_succ];rfl,fun i hi=>?_⟩
   cases i with
   | zero=>exact h0
   | succ i =>
    have h3:=h2 i (by omega)
    rw [List.getElem?_set_ne (by omega)] at h3
    rw [show a+(i+1)=a+1+i by omega]
    exact h3
  ·cases h
theorem setAll_mem {a:Nat}:∀(l:List Nat) (T:List Bool),a∈l→a<T.length→(setAll T l)[a]?=some true
 | [],_,h,_=>by cases h
 | b :: l,T,h,ht=>by
  show (setAll (T.set b true) l)[a]?=_
  by_cases hm:a∈l
  ·exact setAll_mem l _ hm (by rw [List.length_set];exact ht)
  ·rcases List.mem_cons.1 h with rfl | h
   ·rw [setAll_other l _ hm,List.getElem?_set_self ht]
   ·exact absurd h hm
structure Secs (T:List Bool) (l:List Nat):Prop where
 nod:l.Nodup
 two:∀a∈l,2≤a∧T[a]?=some false
theorem Secs.lt {T:List Bool}{l:List Nat}(h:Secs T l) {a:Nat}(ha:a∈l):a<T.length:=(List.getElem?_eq_some_iff.1 (h.two a ha).2).1
theorem Secs.len {T:List Bool}{l:List Nat}(h:Secs T l):l.length≤T.length:=by
 have h6:=sub_len h.nod (k:=List.range T.length) fun a ha=>List.mem_range.2 (h.lt ha)
 rwa [List.length_range] at h6
theorem Secs.append {T:List Bool}{l k:List Nat}(h:Secs T l) (hk:Secs (setAll T l) k):Secs T (l++k):=by
 have hd:∀a∈k,a∉l:=fun a ha hm=>by
  have h5:=(hk.two a ha).2
  rw [setAll_mem l T hm (h.lt hm)] at h5
  cases h5
 refine⟨List.nodup_append.2 ⟨h.nod,hk.nod,fun x hx y hy e=>hd y hy (e ▸ hx)⟩,fun a ha=>?_⟩
 rcases List.mem_append.1 ha with ha | ha
 ·exact h.two a ha
 ·refine⟨(hk.two a ha).1,?_⟩
  rw [← (hk.two a ha).2,setAll_other l T (hd a ha)]
theorem rsLoop_some {want:Nat}:∀(c:Nat) (b:List Nat) (T:List Bool) (l:List Nat) (r:List Nat×List Nat×List Bool),rsLoop want c b T l=some r →
  ∃rs:List (Nat×Nat),rs.length=c∧r.1=l++expand rs∧r.2.2=setAll T (expand rs)∧Secs T (expand rs)∧∃m,r.2.1=b.drop m
 | 0,b,T,l,r,h=>by
  unfold rsLoop at h
  cases h
  exact⟨[],rfl,by simp [expand],rfl,⟨by simp [expand],by simp [expand]⟩,0,rfl⟩
 | c+1,b,T,l,r,h=>by
  unfold rsLoop at h
  obtain⟨p,h0,h⟩:=Option.bind_eq_some_iff.1 h
  obtain⟨q,h1,h⟩:=Option.bind_eq_some_iff.1 h
  split at h
  ·rename_i hc
   obtain⟨T',h2,h⟩:=Option.bind_eq_some_iff.1 h
   obtain⟨h3,h4⟩:=mark_some _ _ _ _ h2
   obtain⟨rs,a1,a2,a3,a4,m,a5⟩:=rsLoop_some c q.2 T' (l++List.range' p.1 q.1) r h
   obtain⟨e0,_⟩:=num_some h0
   obtain⟨e1,_⟩:=num_some h1
   have he:expand ((p.1,q.1) :: rs)=List.range' p.1 q.1++expand rs:=by simp [expand]
   have hr:Secs T (List.range' p.1 q.1):=⟨List.nodup_range',fun a ha=>by
    have:=List.mem_range'_1.1 ha
    have h5:=h4 (a-p.1) (by omega)
    rw [show p.1+(a-p.1)=a by omega] at h5
    exact⟨by omega,h5⟩⟩
   refine⟨(p.1,q.1) :: rs,by rw [List.length_cons,a1],by rw [a2,he,List.append_assoc],by rw [a3,he,setAll_append,h3],by rw [he];exact hr.append (h3 ▸ a4),2+2+m,?_⟩
   rw [a5,e1,e0,List.drop_drop,List.drop_drop]
   congr 1
   omega
  ·cases h
theorem step_last (acc:List (Nat×Nat)) (s:Nat):∃p,(runStep acc s).getLast?=some p∧p.1+p.2=s+1:=by
 unfold runStep
 split
 ·rename_i p _
  split
  ·exact⟨(p.1,p.2+1),by simp,by show p.1+(p.2+1)=s+1;omega⟩
  ·exact⟨(s,1),by simp,rfl⟩
 ·exact⟨(s,1),by simp,rfl⟩
theorem step_len_le (acc:List (Nat×Nat)) (s:Nat):(runStep acc s).length≤acc.length+1:=by
 unfold runStep
 split
 ·split
  ·simp
  ·simp
 ·simp
theorem step_len_same {acc:List (Nat×Nat)}{p:Nat×Nat}{s:Nat}(h:acc.getLast?=some p) (hs:p.1+p.2=s):(runStep acc s).length=acc.length:=by
 unfold runStep
 rw [h]
 simp only
 rw [if_pos hs]
 have hne:acc≠[]:=fun e=>by rw [e] at h;cases h
 have:=List.length_pos_iff.2 hne
 simp
 omega
theorem fold_range:∀(k a:Nat) (acc:List (Nat×Nat)) (p:Nat×Nat),acc.getLast?=some p→p.1+p.2=a→((List.range' a k).foldl runStep acc).length=acc.length
 | 0,_,_,_,_,_=>rfl
 | k+1,a,acc,p,h,hs=>by
  obtain⟨q,h1,h2⟩:=step_last acc a
  rw [List.range'_succ,List.foldl_cons,fold_range k (a+1) _ q h1 h2,step_len_same h hs]
theorem fold_expand:∀(rs:List (Nat×Nat)) (acc:List (Nat×Nat)),((expand rs).foldl runStep acc).length≤acc.length+rs.length
 | [],_=>Nat.le_refl _
 | r :: rs,acc=>by
  have he:expand (r :: rs)=List.range' r.1 r.2++expand rs:=by simp [expand]
  rw [he,List.foldl_append,List.length_cons]
  have ih:=fold_expand rs ((List.range' r.1 r.2).foldl runStep acc)
  have h1:((List.range' r.1 r.2).foldl runStep acc).length≤acc.length+1:=by
   cases r.2 with
   | zero=>simp
   | succ k =>
    obtain⟨q,h1,h2⟩:=step_last acc r.1
    rw [List.range'_succ,List.foldl_cons,fold_range k (r.1+1) _ q h1 h2]
    exact step_len_le _ _
  omega
theorem rsecs_some {want:Nat}{b:List Nat}{T:List Bool}{r:List Nat×List Nat×List Bool}(h:rsecs want b T=some r) :
  Secs T r.1∧r.2.2=setAll T r.1∧r.1.length=want∧(runsOf r.1).length≤48∧∃m,r.2.1=b.drop m:=by
 unfold rsecs at h
 obtain⟨p,h0,h⟩:=Option.bind_eq_some_iff.1 h
 obtain⟨e0,_⟩:=num_some h0
 split at h
 ·rename_i h48
  obtain⟨r',h1,h⟩:=Option.bind_eq_some_iff.1 h
  split at h
  ·rename_i hw
   cases h
   obtain⟨rs,a1,a2,a3,a4,m,a5⟩:=rsLoop_some _ _ _ _ _ h1
   rw [List.nil_append] at a2
   refine⟨a2 ▸ a4,by rw [a3,a2],hw,?_,2+m,by rw [a5,e0,List.drop_drop]⟩
   rw [a2]
   have:=fold_expand rs []
   unfold runsOf
   simp at this
   omega
  ·cases h
 ·cases h
theorem num_lt {k:Nat}{b:List Nat}{r:Nat×List Nat}(h:num k b=some r) (hb:∀x∈b,x<256):r.1<256 ^ k∧r.2=b.drop k∧k≤b.length:=by
 obtain⟨e,hk⟩:=num_some h
 rw [e]
 have h1:=back_lt (b.take k) fun x hx=>hb x (List.mem_of_mem_take hx)
 rw [List.length_take,Nat.min_eq_left hk] at h1
 exact⟨h1,rfl,hk⟩
theorem tx_some {k:Nat}{b:List Nat}{r:List Nat×List Nat}(h:tx k b=some r):r=(b.take k,b.drop k)∧k≤b.length:=by
 unfold tx at h
 split at h
 ·rename_i hk
  exact⟨(Option.some.inj h).symm,hk⟩
 ·cases h
structure POk (isN:Txt→Bool) (p:Txt×Fi):Prop where
 name:isN p.1=true
 len:p.1.length<256
 sum:0≤p.2.sum∧p.2.sum<4294967296
 log:p.2.log=true→p.2.size≤16384
 secs:p.2.secs.length=wantOf (kindB p.2) p.2.size
 runs:(runsOf p.2.secs).length≤48
theorem pfile_some {isN:Txt→Bool}{last:Txt}{b:List Nat}{T:List Bool}{r:(Txt×Fi)×List Nat×List Bool}(h:pfile isN last b T=some r) (hb:∀x∈b,x<256) :
  POk isN r.1∧last<r.1.1∧Secs T r.1.2.secs∧r.2.2=setAll T r.1.2.secs∧∃m,r.2.1=b.drop m:=by
 unfold pfile at h
 obtain⟨p,h0,h⟩:=Option.bind_eq_some_iff.1 h
 obtain⟨s,h1,h⟩:=Option.bind_eq_some_iff.1 h
 obtain⟨l0,e0,_⟩:=num_lt h0 hb
 obtain⟨e1,k1⟩:=tx_some h1
 have es:s.2=b.drop (1+p.1):=by rw [e1,e0,List.drop_drop]
 have el:s.1.length=p.1:=by rw [e1];show (p.2.take p.1).length=_;rw [List.length_take];omega
 split at h
 ·rename_i hn
  obtain⟨k,h2,h⟩:=Option.bind_eq_some_iff.1 h
  obtain⟨z,h3,h⟩:=Option.bind_eq_some_iff.1 h
  obtain⟨u,h4,h⟩:=Option.bind_eq_some_iff.1 h
  have hbs:∀(m:Nat) (l:List Nat),l=b.drop m→∀x∈l,x<256:=fun m l e x hx=>hb x (List.mem_of_mem_drop (e ▸ hx))
  obtain⟨_,e2,_⟩:=num_lt h2 (hbs _ _ es)
  have ek:k.2=b.drop (1+p.1+1):=by rw [e2,es,List.drop_drop]
  obtain⟨_,e3,_⟩:=num_lt h3 (hbs _ _ ek)
  have ez:z.2=b.drop (1+p.1+1+4):=by rw [e3,ek,List.drop_drop]
  obtain⟨l4,e4,_⟩:=num_lt h4 (hbs _ _ ez)
  split at h
  ·rename_i hk
   obtain⟨q,h5,h⟩:=Option.bind_eq_some_iff.1 h
   cases h
   obtain⟨q1,q2,q3,q4,m,q5⟩:=rsecs_some h5
   have hkb:kindB (⟨decide (k.1=1),z.1,(u.1:Nat),q.1⟩:Fi)=k.1:=by
    have:=hk.2
    unfold kindB
    by_cases h1:k.1=1
    ·simp [h1]
    ·simp [h1]
     omega
   refine⟨⟨hn.1,?_,⟨by show (0:Int)≤(u.1:Nat);omega,by show ((u.1:Nat):Int)<_;omega⟩,fun hl=>?_,?_,q4⟩,hn.2,q1,q2,1+p.1+1+4+4+m,?_⟩
   ·show (toTxt s.1).length<256
    unfold toTxt
    rw [List.length_map,el]
    simpa using l0
   ·have hl':k.1=1:=by simpa using hl
    exact (hk.1 hl').2.1
   ·rw [hkb]
    exact q3
   ·show q.2.1=_
    rw [q5,e4,ez,List.drop_drop,List.drop_drop]
    congr 1
    omega
  ·cases h
 ·cases h
structure Parsed (isN:Txt→Bool) (T:List Bool) (F:Fs):Prop where
 kn:(keys F).Nodup
 secs:Secs T (F.flatMap (·.2.secs))
 ok:∀p∈F,POk isN p
theorem Parsed.nil (isN:Txt→Bool) (T:List Bool):Parsed isN T []:=⟨List.nodup_nil,⟨List.nodup_nil,fun a ha=>by cases ha⟩,fun p hp=>by cases hp⟩
theorem Parsed.cons {isN:Txt→Bool}{T:List Bool}{F:Fs}{p:Txt×Fi}{last:Txt}(h:Parsed isN T F) (hp:POk isN p) (hl:last<p.1) (hF:∀q∈F,q.1=last∨q.1<last) (hs:Secs (setAll T (F.flatMap (·.2.secs))) p.2.secs) :
  Parsed isN T (p :: F)∧p.1∉keys F∧(∀q∈p :: F,q.1=p.1∨q.1<p.1)∧setAll T ((p :: F).flatMap (·.2.secs))=setAll (setAll T (F.flatMap (·.2.secs))) p.2.secs:=by
 have hlt:∀q∈F,q.1<p.1:=fun q hq=>by
  rcases hF q hq with e | e
  ·rw [e];exact hl
  ·exact Line.trans (α:=Txt) _ _ _ e hl
 have hno:p.1∉keys F:=fun hm=>by
  unfold keys at hm
  obtain⟨q,hq,e⟩:=List.mem_map.1 hm
  have:=hlt q hq
  rw [e] at this
  exact Line.irrefl (α:=Txt) _ this
 refine⟨⟨?_,?_,fun q hq=>?_⟩,hno,fun q hq=>?_,?_⟩
 ·unfold keys at hno ⊢
  rw [List.map_cons]
  exact List.nodup_cons.2 ⟨hno,h.kn⟩
 ·have h1:=h.secs.append hs
  rw [List.flatMap_cons]
  refine⟨(List.perm_append_comm.nodup_iff).1 h1.nod,fun a ha=>h1.two a ?_⟩
  rcases List.mem_append.1 ha with ha | ha
  ·exact List.mem_append_right _ ha
  ·exact List.mem_append_left _ ha
 ·rcases List.mem_cons.1 hq with rfl | hq
  ·exact hp
  ·exact h.ok q hq
 ·rcases List.mem_cons.1 hq with rfl | hq
  ·exact .inl rfl
  ·exact .inr (hlt q hq)
 ·rw [List.flatMap_cons]
  apply List.ext_getElem?
  intro a
  rw [← setAll_append]
  by_cases ha:a∈F.flatMap (·.2.secs)++p.2.secs
  ·by_cases hT:a<T.length
   ·rw [setAll_mem _ _ ha hT,setAll_mem _ _ (List.perm_append_comm.mem_iff.1 ha) hT]
   ·rw [List.getElem?_eq_none (by rw [setAll_len];omega),List.getElem?_eq_none (by rw [setAll_len];omega)]
  ·rw [setAll_other _ _ ha,setAll_other _ _ (fun h=>ha (List.perm_append_comm.mem_iff.1 h))]
theorem pfiles_some {isN:Txt→Bool}{T0:List Bool}:∀(c:Nat) (last:Txt) (b:List Nat) (T:List Bool) (F:Fs) (r:Fs×List Nat),pfiles isN c last b T F=some r→(∀x∈b,x<256)→Parsed isN T0 F→T=setAll T0 (F.flatMap (·.2.secs))→(∀q∈F,q.1=last∨q.1<last)→Parsed isN T0 r.1∧r.1.length=F.length+c
 | 0,last,b,T,F,r,h,_,hF,_,_=>by
  unfold pfiles at h
  cases h
  exact⟨hF,rfl⟩
 | c+1,last,b,T,F,r,h,hb,hF,hT,hl=>by
  unfold pfiles at h
  obtain⟨p,h0,h⟩:=Option.bind_eq_some_iff.1 h
  obtain⟨a1,a2,a3,a4,m,a5⟩:=pfile_some h0 hb
  obtain⟨b1,_,b3,b4⟩:=hF.cons a1 a2 hl (hT ▸ a3)
  obtain⟨c1,c2⟩:=pfiles_some c p.1.1 p.2.1 p.2.2 (p.1 :: F) r h (fun x hx=>hb x (List.mem_of_mem_drop (a5 ▸ hx))) b1 (by rw [a4,b4,hT]) b3
  exact⟨c1,by rw [c2,List.length_cons];omega⟩
theorem pdir_some {isN:Txt→Bool}{b:List Nat}{T:List Bool}{F:Fs}(h:pdir isN b T=some F) (hb:∀x∈b,x<256):Parsed isN T F∧F.length≤256:=by
 unfold pdir at h
 obtain⟨p,h0,h⟩:=Option.bind_eq_some_iff.1 h
 split at h
 ·rename_i h256
  obtain⟨r,h1,h⟩:=Option.bind_eq_some_iff.1 h
  split at h
  ·cases h
   obtain⟨_,e0,_⟩:=num_lt h0 hb
   obtain⟨c1,c2⟩:=pfiles_some _ _ _ _ _ _ h1 (fun x hx=>hb x (List.mem_of_mem_drop (e0 ▸ hx))) (Parsed.nil isN T) rfl (fun q hq=>by cases hq)
   exact⟨c1,by rw [c2];simpa using h256⟩
  ·cases h
 ·cases h
theorem Parsed.size {isN:Txt→Bool}{T:List Bool}{F:Fs}(h:Parsed isN T F) {p:Txt×Fi}(hp:p∈F):p.2.secs.length≤T.length∧p.2.size≤T.length * 256+16384:=by
 have h1:Secs T p.2.secs:=by
  have hsub:∀a∈p.2.secs,a∈F.flatMap (·.2.secs):=fun a ha=>List.mem_flatMap.2 ⟨p,hp,ha⟩
  refine⟨?_,fun a ha=>h.secs.two a (hsub a ha)⟩
  have h2:p.2.secs.Sublist (F.flatMap (·.2.secs)):=by
   clear h hsub
   induction F with
   | nil=>cases hp
   | cons q F ih =>
    rw [List.flatMap_cons]
    rcases List.mem_cons.1 hp with rfl | hp
    ·exact List.sublist_append_left _ _
    ·exact (ih hp).trans (List.sublist_append_right _ _)
  exact h.secs.nod.sublist h2
 have h2:=h1.len
 refine⟨h2,?_⟩
 have h3:=(h.ok p hp).secs
 have h4:=(h.ok p hp).log
 unfold wantOf kindB at h3
 by_cases hl:p.2.log=true
 ·have:=h4 hl
  omega
 ·simp only [hl,Bool.false_eq_true,if_false] at h3
  unfold need at h3
  simp at h3
  omega
end Go.Ext
namespace Go.Proofs.YtndjmffnlcilbaaGreatDoor
open Go Go.RowKit Go.Ix Go.Ext Go.Maps
def Wrong (e:Ending):Prop:=e=.panicked [{ v:=.iface 118 (.agg #[]),recovered:=false }]
set_option maxRecDepth 20000 in
theorem need2_ok {b:Bool}(w:World) (hb:b=true):Calls Tryz.prog 63 #[.bool b] w fun e w'=>e=.returned (.tuple #[])∧w=w':=by
 subst hb
 go_enter Tryz.func63,Tryz.ntmps63
 go_wp2_with fail
 go_end0
 exact⟨rfl,rfl⟩
set_option maxRecDepth 20000 in
theorem need2_no {b:Bool}(w:World) (hb:b=false):Calls Tryz.prog 63 #[.bool b] w fun e w'=>Wrong e∧w=w':=by
 subst hb
 unfold Wrong
 go_enter Tryz.func63,Tryz.ntmps63
 go_wp2_with fail
 exact⟨rfl,rfl,rfl⟩
def RdAt (W:World) (rb g:Nat) (rest:List Nat) (tv:Value):Prop :=
 ∃off cap,W.heap[rb]?=some (.cells #[.slice (some ⟨g,off,none⟩) rest.length cap,tv] 122 (0,0))∧rest.length≤cap∧cap≤maxLen∧CellsAt W g off (octs rest)∧g≠rb∧∀x∈rest,x<256
theorem rd_store {W:World}{rb g off cap:Nat}{v tv:Value}{rest:List Nat}{m:Nat}(hh:W.heap[rb]?=some (.cells #[v,tv] 122 (0,0))) (hc:CellsAt W g off (octs rest)) (hne:g≠rb) (hm:rest.length=m) (h1:m≤cap) (h2:cap≤maxLen) (h8:∀x∈rest,x<256) :
  RdAt (W.setCell ⟨rb,0,none⟩ (.slice (some ⟨g,off,none⟩) m cap)) rb g rest tv:=by
 refine⟨off,cap,?_,by omega,h2,fun j u hu=>?_,hne,h8⟩
 ·rw [hm]
  simp [World.setCell,Array.getElem?_modify,hh]
 ·rw [← hc j u hu]
  exact World.cell?_of_block (Below.heap_setCell _ _ _ _ hne)
theorem RdAt.keep {W W':World}{rb g:Nat}{rest:List Nat}{tv:Value}(h:RdAt W rb g rest tv) (h1:W'.heap[rb]?=W.heap[rb]?) (h2:W'.heap[g]?=W.heap[g]?):RdAt W' rb g rest tv:=by
 obtain⟨off,cap,q1,q2,q3,q4,q5,q6⟩:=h
 exact⟨off,cap,h1.trans q1,q2,q3,fun j u hu=>(World.cell?_of_block h2).trans (q4 j u hu),q5,q6⟩
theorem RdAt.lt {W:World}{rb g:Nat}{rest:List Nat}{tv:Value}(h:RdAt W rb g rest tv):rb<W.heap.size:=by
 obtain⟨off,cap,q1,_⟩:=h
 exact heap_lt q1
theorem RdAt.olds {W W':World}{rb g:Nat}{rest:List Nat}{tv:Value}(h:RdAt W rb g rest tv) (hg:g<W.heap.size) (ho:Olds W W'):RdAt W' rb g rest tv:=h.keep (ho.2 _ h.lt) (ho.2 _ hg)
theorem RdAt.byte {W:World}{rb g:Nat}{rest:List Nat}{tv:Value}(h:RdAt W rb g rest tv):∀x∈rest,x<256:=by
 obtain⟨off,cap,_,_,_,_,_,q6⟩:=h
 exact q6
set_option maxRecDepth 20000 in
set_option maxHeartbeats 1000000 in
theorem rd_text {W:World}{rb g:Nat}{tv:Value}(k:Nat) (rest:List Nat) (h:RdAt W rb g rest tv) (hk:k≤rest.length) (hl:rest.length≤1000000) :
  Calls Tryz.prog 79 #[.pointer (some ⟨rb,0,none⟩),.int .i64 (k:Nat)] W fun e w'=>e=.returned (encStr (toTxt (rest.take k)))∧RdAt w' rb g (rest.drop k) tv∧On rb W w':=by
 obtain⟨off,cap,hh,hcap,hmax,hc,hne,h8⟩:=h
 have hc0:W.cell? ⟨rb,0,none⟩=some (.slice (some ⟨g,off,none⟩) rest.length cap):=by simp [World.cell?,hh]
 have hf0:W.frozen? ⟨rb,0,none⟩=false:=by simp [World.frozen?,hh]
 unfold maxLen at hmax
 have hsl:(toTxt (rest.take k)).length=k:=by unfold toTxt;rw [List.length_map,List.length_take];omega
 have hcv:(convert 34 9 (.slice (some ⟨g,off,none⟩) k cap)).run Tryz.prog W=.ok (encStr (toTxt (rest.take k))) W:=by
  have:=run_convert_bytes_back (P:=Tryz.prog) W 34 9 5 ⟨g,off,none⟩ cap (toTxt (rest.take k)) Tryz.underlying34 Tryz.underlying5 Tryz.underlying9 fun j hj=>by
   rw [hsl] at hj
   have hjr:j<rest.length:=by omega
   have h9:=hc j (.int .u8 (rest[j]:Nat)) (by unfold octs;simp [hjr])
   rw [WideShapes.add_plain]
   have h10:=h8 _ (List.getElem_mem hjr)
   have h11:(((toTxt (rest.take k))[j]'(by rw [hsl];exact hj)).toNat:Int)=(rest[j]:Nat):=by
    simp only [toTxt,List.getElem_map,List.getElem_take,UInt8.toNat_ofNat']
    rw [Nat.mod_eq_of_lt h10]
   rw [h11]
   exact h9
  rw [hsl] at this
  exact this
 have Hd:Hid ((rest.drop k).length=rest.length-k∧(∀x∈rest.drop k,x<256)∧CellsAt W g (off+k) (octs (rest.drop k))):=Lib.hid ⟨by rw [List.length_drop],fun x hx=>h8 x (List.mem_of_mem_drop hx),fun j u hu=>by
  unfold octs at hu
  rw [List.map_drop,List.getElem?_drop] at hu
  rw [Nat.add_assoc]
  exact hc _ _ hu⟩
 have Hh:=Lib.hid hh
 have Hne:=Lib.hid hne
 clear hh hc hne h8 hsl
 generalize toTxt (rest.take k)=s at *
 generalize rest.drop k=dr at *
 generalize rest.length=n at *
 go_enter Tryz.func79,Tryz.ntmps79
 go_wp2_with (go_at_call 63;refine (need2_ok _ (by first | rfl | simpa using hk)).mono ?_;rintro e w1 ⟨rfl,rfl⟩)
 all_goals go_ret
 all_goals refine⟨rfl,?_,On.cell _ _ _ _⟩
 ·have hz:n-k=0:=by omega
  have h9:=Hd.out.1
  have hr:dr=[]:=List.eq_nil_of_length_eq_zero (by omega)
  exact rd_store Hh.out (fun j u hu=>by rw [hr] at hu;simp [octs] at hu) Hne.out (by omega) (by omega) (by unfold maxLen;omega) Hd.out.2.1
 ·exact rd_store Hh.out Hd.out.2.2 Hne.out Hd.out.1 (by omega) (by unfold maxLen;omega) Hd.out.2.1
set_option maxRecDepth 20000 in
set_option maxHeartbeats 1000000 in
theorem rd_text_no {W:World}{rb g:Nat}{tv:Value}(k:Nat) (rest:List Nat) (h:RdAt W rb g rest tv) (hk:rest.length<k) :
  Calls Tryz.prog 79 #[.pointer (some ⟨rb,0,none⟩),.int .i64 (k:Nat)] W fun e w'=>Wrong e∧W=w':=by
 obtain⟨off,cap,hh,hcap,hmax,hc,hne,h8⟩:=h
 have hc0:W.cell? ⟨rb,0,none⟩=some (.slice (some ⟨g,off,none⟩) rest.length cap):=by simp [World.cell?,hh]
 clear hh hc hne h8
 generalize rest.length=n at *
 go_enter Tryz.func79,Tryz.ntmps79
 go_wp2_with (go_at_call 63;refine (need2_no _ (by first | rfl | simpa using hk)).mono ?_;rintro e w1 ⟨hw,rfl⟩;unfold Wrong at hw;subst hw)
 exact⟨rfl,rfl,rfl⟩
end Go.Proofs.YtndjmffnlcilbaaGreatDoor
namespace Go.Proofs.YtndjmffnlcilbaaGreatDoor
open Go Go.RowKit Go.Ix Go.Ext Go.Maps
theorem On.fr0 {tb:Nat}{w w':World}(h:On tb w w'):Fr 0 [] [tb] w w':=h.fr (Nat.zero_le _) []
theorem Fr.of_below0 {w w':World}{M:List Nat}(h:Below w.heap.size w w'):Fr 0 [] M w w':=Fr.of_below h (Nat.zero_le _) [] M
theorem conv_facts {bs:List Nat}{many:Nat}(hl:bs.length=many) (h8:∀x∈bs,x<256) (w1:World) (h:(convert 9 34 (Value.string ⟨(toTxt bs).toArray⟩)).run Tryz.prog w1=.ok (.slice (some ⟨w1.heap.size,0,none⟩) (ByteArray.size ⟨(toTxt bs).toArray⟩) (grownCap w1 (ByteArray.size ⟨(toTxt bs).toArray⟩) 0 5)) (Lib.bytesWorld w1 5 ⟨(toTxt bs).toArray⟩)) :
  ∃(w2:World) (cc:Nat),(convert 9 34 (encStr (toTxt bs))).run Tryz.prog w1=.ok (.slice (some ⟨w1.heap.size,0,none⟩) many cc) w2∧(∀j,j<many→w2.cell? ⟨w1.heap.size,j,none⟩=some (.int .u8 ((bs.getD j 0:Nat):Int)))∧Below w1.heap.size w1 w2:=by
 have hsz:ByteArray.size ⟨(toTxt bs).toArray⟩=many:=by rw [← hl];simp [ByteArray.size,toTxt]
 refine⟨Lib.bytesWorld w1 5 ⟨(toTxt bs).toArray⟩,_,by rw [hsz] at h;exact h,fun j hj=>?_,?_⟩
 ·rw [Lib.bytesWorld_cell w1 5 ⟨(toTxt bs).toArray⟩ j (by rw [hsz];exact hj)]
  have hj':j<bs.length:=by omega
  have h9:=h8 _ (List.getElem_mem hj')
  simp only [toTxt,List.getD,hj',List.getElem?_eq_getElem,Option.getD_some]
  simp only [List.getElem?_map,Option.some.injEq,Value.int.injEq,true_and]
  rw [List.getElem?_eq_getElem hj']
  simp [Nat.mod_eq_of_lt h9]
 ·refine⟨rfl,rfl,rfl,by rw [Lib.bytesWorld_size];omega,fun k hk=>Lib.bytesWorld_at_old w1 5 _ k hk⟩
theorem back_snoc (l:List Nat) (x:Nat):back (l++[x])=back l+256 ^ l.length * x:=by
 induction l with
 | nil=>simp [back]
 | cons y l ih =>
  show y+256 * back (l++[x])=(y+256 * back l)+_
  rw [ih,List.length_cons,Nat.pow_succ,Nat.mul_add]
  have:256 * (256 ^ l.length * x)=256 ^ l.length * 256 * x:=by rw [← Nat.mul_assoc,Nat.mul_comm 256]
  omega
theorem back_take {bs:List Nat}(h8:∀x∈bs,x<256) (k:Nat):back (bs.take k)<256 ^ k:=by
 have h1:=back_lt (bs.take k) fun x hx=>h8 x (List.mem_of_mem_take hx)
 refine Nat.lt_of_lt_of_le h1 (Nat.pow_le_pow_right (by decide) ?_)
 rw [List.length_take]
 omega
theorem back_step {bs:List Nat}(h8:∀x∈bs,x<256) {k:Nat}(hk:k<bs.length):∃x,bs.getD k 0=x∧x<256∧back (bs.take (k+1))=back (bs.take k)+256 ^ k * x:=by
 refine⟨bs[k],by simp [List.getD,hk],h8 _ (List.getElem_mem hk),?_⟩
 rw [List.take_succ_eq_append_getElem hk,back_snoc,List.length_take,Nat.min_eq_left (by omega)]
theorem wraps_i64 (n:Int) (h₀:0≤n) (h₁:n<2 ^ 63):IntKind.i64.wrap n=n:=by rw [IntKind.wrap_i64];omega
theorem or_step64 (acc x k:Nat) (hk:k<4) (h1:acc<256 ^ k) (h2:x<256):bits .or .i64 (acc:Int) (IntKind.i64.wrap ((x:Int) * 2 ^ (8 * k)))=((acc+256 ^ k * x:Nat):Int):=by
 have e:(256:Nat) ^ k=2 ^ (8 * k):=by rw [Nat.pow_mul]
 have hp:(2:Nat) ^ (8 * k) * 256≤2 ^ 63:=by
  rw [show (256:Nat)=2 ^ 8 from rfl,← Nat.pow_add]
  exact Nat.pow_le_pow_right (by decide) (by omega)
 have hx:2 ^ (8 * k) * x<2 ^ 63:=Nat.lt_of_lt_of_le (Nat.mul_lt_mul_of_pos_left h2 (Nat.pow_pos (by decide))) hp
 have hw:IntKind.i64.wrap ((x:Int) * 2 ^ (8 * k))=((2 ^ (8 * k) * x:Nat):Int):=by
  rw [show ((x:Int) * 2 ^ (8 * k))=((2 ^ (8 * k) * x:Nat):Int) by push_cast;rw [Int.mul_comm],IntKind.wrap_i64]
  omega
 have ha:acc<2 ^ 63:=by
  have:(256:Nat) ^ k≤2 ^ 63:=by rw [e];exact Nat.pow_le_pow_right (by decide) (by omega)
  omega
 rw [hw,(bits_nat .i64 63 (by decide) wraps_i64 acc (2 ^ (8 * k) * x) ha hx).2]
 have h3:=Nat.two_pow_add_eq_or_of_lt (i:=8 * k) (b:=acc) (by rw [← e];exact h1) x
 rw [Nat.or_comm,← h3,e,Nat.add_comm]
set_option maxRecDepth 20000 in
set_option maxHeartbeats 1000000 in
theorem rd_number {W:World}{rb g:Nat}{tv:Value}{many v:Nat}{rest r':List Nat}(h:RdAt W rb g rest tv) (hp:num many rest=some (v,r')) (hm:many≤4) (hl:rest.length≤1000000) :
  Calls Tryz.prog 64 #[.pointer (some ⟨rb,0,none⟩),.int .i64 (many:Nat)] W fun e w'=>e=.returned (.int .i64 (v:Nat))∧RdAt w' rb g r' tv∧Fr 0 [] [rb] W w':=by
 obtain⟨hv,hk⟩:=num_some hp
 simp only [Prod.mk.injEq] at hv
 obtain⟨rfl,rfl⟩:=hv
 have HT:=Lib.hid (rd_text many rest h hk hl)
 have h8:∀x∈rest.take many,x<256:=fun x hx=>h.byte x (List.mem_of_mem_take hx)
 have hlen:(rest.take many).length=many:=by rw [List.length_take];omega
 have H8:=Lib.hid h8
 have Hlen:=Lib.hid hlen
 clear h hp h8 hlen hl
 generalize rest.take many=bs at *
 go_enter Tryz.func64,Tryz.ntmps64
 go_wp2_with (go_at_call 79;refine HT.out.mono ?_;rintro e w1 ⟨rfl,hr1,hk1⟩;have hcv0:=Lib.run_convert_string_bytes (P:=Tryz.prog) w1 9 34 5 ⟨(toTxt bs).toArray⟩ Tryz.underlying9 Tryz.underlying34 Tryz.underlying5;obtain⟨w2,cc,hcv,hcell,hkeep⟩:∃(w2:World) (cc:Nat),(convert 9 34 (encStr (toTxt bs))).run Tryz.prog w1=.ok (.slice (some ⟨w1.heap.size,0,none⟩) many cc) w2∧(∀j,j<many→w2.cell? ⟨w1.heap.size,j,none⟩=some (.int .u8 ((bs.getD j 0:Nat):Int)))∧Below w1.heap.size w1 w2:=(conv_facts Hlen.out H8.out w1 hcv0);have Hr1:=Lib.hid hr1;have Hk1:=Lib.hid hk1;have Hcell:=Lib.hid hcell;have Hkeep:=Lib.hid hkeep;clear hr1 hk1 HT hcv0 hcell hkeep)
 go_loopw [5,13] (fun nv iv wr=>∃k:Nat,k≤many∧iv=.int .i64 k∧nv=.int .i64 (back (bs.take k):Nat)∧wr=w2) (fun _ iv _=>many-(intOf iv).toNat)
 case atStart=>exact⟨0,Nat.zero_le _,rfl,rfl,rfl⟩
 case round =>
  obtain⟨k,hk,rfl,rfl,rfl⟩:=hrel
  have hbk:back (bs.take k)<256 ^ k:=back_take H8.out _
  have hbk8:(256:Nat) ^ k≤256 ^ 4:=Nat.pow_le_pow_right (by decide) (by omega)
  by_cases hlt:k<many
  ·obtain⟨x,hx,hxb,hstep⟩:=back_step H8.out (k:=k) (by rw [Hlen.out];exact hlt)
   have hc:=Hcell.out k hlt
   rw [hx] at hc
   have Hstep:=Lib.hid hstep
   clear hx hstep
   generalize back (bs.take k)=acc at *
   have hor:Hid (bits .or .i64 (acc:Int) (IntKind.i64.wrap ((x:Int) * 2 ^ (8 * k)))=((acc+256 ^ k * x:Nat):Int)):=Lib.hid (or_step64 acc x k (by omega) hbk hxb)
   go_wp2_with fail
   go_roundw
   case rel=>exact⟨k+1,by omega,by go_num,by rw [Hstep.out,← hor.out,← (show wrap64 ((x:Int) * 2 ^ (8 * k))=IntKind.i64.wrap ((x:Int) * 2 ^ (8 * k)) from by rw [IntKind.wrap_i64,wrap64])],trivial⟩
   case measure=>simp [intOf];omega
  ·obtain rfl:k=many:=by omega
   have hfin:bs.take k=bs:=List.take_of_length_le (by rw [Hlen.out];exact Nat.le_refl _)
   rw [hfin]
   go_wp2_with fail
   go_ret
   refine⟨rfl,?_,Hk1.out.fr0.trans (Fr.of_below0 Hkeep.out)⟩
   obtain⟨off,cap,q1,q2,q3,q4,q5,q6⟩:=Hr1.out
   exact⟨off,cap,(Hkeep.out.block _ (heap_lt q1)).trans q1,q2,q3,q4.olds (Olds.of_below Hkeep.out),q5,q6⟩
set_option maxRecDepth 20000 in
set_option maxHeartbeats 1000000 in
theorem rd_number_no {W:World}{rb g:Nat}{tv:Value}{many:Nat}{rest:List Nat}(h:RdAt W rb g rest tv) (hp:num many rest=none) :
  Calls Tryz.prog 64 #[.pointer (some ⟨rb,0,none⟩),.int .i64 (many:Nat)] W fun e w'=>Wrong e∧Fr 0 [] [rb] W w':=by
 have hk:rest.length<many:=by
  unfold num at hp
  split at hp
  ·cases hp
  ·omega
 have HT:=Lib.hid (rd_text_no many rest h hk)
 clear h hp hk
 go_enter Tryz.func64,Tryz.ntmps64
 go_wp2_with (go_at_call 79;refine HT.out.mono ?_;rintro e w1 ⟨hw,rfl⟩;unfold Wrong at hw;subst hw)
 exact⟨rfl,rfl,Fr.refl _ _ _ _⟩
end Go.Proofs.YtndjmffnlcilbaaGreatDoor
