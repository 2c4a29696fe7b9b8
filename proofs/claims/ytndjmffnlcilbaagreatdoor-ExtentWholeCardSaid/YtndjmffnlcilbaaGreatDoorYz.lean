/- Contracts over this program. Their conditions: the slices read as the lists that are named, and lie within the sizes that are named. -/
import Derived.Test.YtndjmffnlcilbaaGreatDoorYc
import Derived.Deep.RegionHeld
set_option linter.unusedSimpArgs false
set_option linter.unusedVariables false
set_option linter.deprecated false
set_option linter.unnecessarySimpa false
namespace Go.Ext
open Go.Ix Line
def cm1 (K:Dk) (l ds:List Nat):Dk:=(K.writes (pieces l ds)).2
def cm2 (K:Dk) (l ds:List Nat):Dk:=(cm1 K l ds).flush
def cm3 (K:Dk) (l ds:List Nat) (cur gen:Nat):Dk:=(cm2 K l ds).write (1-cur) (slotB (gen+1) ds l)
def cm4 (K:Dk) (l ds:List Nat) (cur gen:Nat):Dk:=(cm3 K l ds cur gen).flush
def CmOk (K:Dk) (l ds:List Nat) (cur gen:Nat):Nat→Prop
 | 0=>True
 | 1=>(K.writes (pieces l ds)).1=true
 | 2=>(K.writes (pieces l ds)).1=true∧(cm1 K l ds).ok=true
 | 3=>((K.writes (pieces l ds)).1=true∧(cm1 K l ds).ok=true)∧(cm2 K l ds).ok=true
 | _=>(((K.writes (pieces l ds)).1=true∧(cm1 K l ds).ok=true)∧(cm2 K l ds).ok=true)∧(cm3 K l ds cur gen).ok=true
theorem commit_steps {isN:Txt→Bool}{K:Dk}{g:G}{cur gen m:Nat}{ln lx:LF}{l:List Nat}(h:Live isN K g cur gen ln lx) (hr:Room g l) (hl:l.length=need (dirB g.next).length) (h48:(runsOf l).length≤48) (hg:gen<4611686018427387904) (hm:gen+1≤m) :
  ((K.writes (pieces l (dirB g.next))).1=false→∀lu,Dead isN g.n m (cm1 K l (dirB g.next)) ln lu)∧
  (CmOk K l (dirB g.next) cur gen 1→(cm1 K l (dirB g.next)).ok=false→∀lu,Dead isN g.n m (cm2 K l (dirB g.next)) ln lu)∧
  (CmOk K l (dirB g.next) cur gen 2→(cm2 K l (dirB g.next)).ok=false→∀lu,Dead isN g.n m (cm3 K l (dirB g.next) cur gen) ln lu)∧
  (CmOk K l (dirB g.next) cur gen 3→(cm3 K l (dirB g.next) cur gen).ok=false→Dead isN g.n m (cm4 K l (dirB g.next) cur gen) ln lx)∧
  (CmOk K l (dirB g.next) cur gen 4→Live isN (cm4 K l (dirB g.next) cur gen) (committed g l) (1-cur) (gen+1) lx lx):=by
 have hd:=dir_byte g.next
 obtain⟨w1,w2⟩:=h.writes (m:=m) (by omega) hr hd
 have hone:=h.base.one
 have hlo:=h.inv.lo
 have hfl:CmOk K l (dirB g.next) cur gen 2→Live isN (cm2 K l (dirB g.next)) g cur gen ln lx∧(cm2 K l (dirB g.next)).cac=[]∧content (cm2 K l (dirB g.next)).las l=dirB g.next++List.replicate (l.length * 256-(dirB g.next).length) 0:=fun⟨h1,h2⟩=>by
  obtain⟨hv,hvw⟩:=w1 h1
  obtain⟨a1,a2,a3⟩:=hv.flush h2
  refine⟨a1,a2,?_⟩
  show content (K.writes (pieces l (dirB g.next))).2.flush.las l=_
  rw [a3,hvw]
  exact content_pieces hr.1 (fun a ha=>by rw [h.kok.view.1];exact (hr.2 a ha).1.2) hl
 have hsl:(slotB (gen+1) (dirB g.next) l).length=256∧∀x∈slotB (gen+1) (dirB g.next) l,x<256:=⟨slotB_len h48,slotB_byte _ _ _⟩
 have h3:∀hok:CmOk K l (dirB g.next) cur gen 3,cm3 K l (dirB g.next) cur gen={ (cm2 K l (dirB g.next)).tick with cac:=[(1-cur,slotB (gen+1) (dirB g.next) l)] }:=fun⟨h12,h3⟩=>by
  show Dk.write _ _ _=_
  unfold Dk.write
  rw [if_pos h3,(hfl h12).2.1]
  rfl
 refine⟨w2,fun h1 h2 lu=>(w1 h1).1.flush_dies (by omega) h2 lu,fun h12 h3 lu=>?_,fun h123 h4=>?_,fun⟨h123,h4⟩=>?_⟩
 ·have e:cm3 K l (dirB g.next) cur gen=(cm2 K l (dirB g.next)).tick:=by
   show Dk.write _ _ _=_
   unfold Dk.write
   rw [if_neg (by rw [h3];decide)]
  rw [e]
  exact (hfl h12).1.tick_dies (by omega) h3 lu
 ·obtain⟨a1,a2,a3⟩:=hfl h123.1
  have e3:=h3 h123
  have e4:cm4 K l (dirB g.next) cur gen=(cm3 K l (dirB g.next) cur gen).tick:=by
   show Dk.flush _=_
   unfold Dk.flush
   rw [if_neg (by rw [h4];decide)]
  refine a1.commit_dies a2 hr hl h48 hg a3 ?_ ?_ ?_ ?_ hm
  ·exact ((a1.kok.write (a:=1-cur) (by omega) hsl).flush)
  ·rw [e4,tick_dark,h4]
   rfl
  ·rw [e4,tick_las,e3]
   exact tick_las _
  ·rw [e4,tick_cac,e3]
 ·obtain⟨a1,a2,a3⟩:=hfl h123.1
  have e3:=h3 h123
  have e4:cm4 K l (dirB g.next) cur gen={ (cm3 K l (dirB g.next) cur gen).tick with las:=(cm3 K l (dirB g.next) cur gen).view,cac:=[] }:=by
   show Dk.flush _=_
   unfold Dk.flush
   rw [if_pos h4]
  refine a1.commit a2 hr hl h48 hg a3 ?_ ?_ ?_ ?_
  ·exact ((a1.kok.write (a:=1-cur) (by omega) hsl).flush)
  ·rw [e4]
   show (Dk.tick _).dark=false
   rw [tick_dark,h4]
   rfl
  ·rw [e4]
   show laid (cm3 K l (dirB g.next) cur gen).las (cm3 K l (dirB g.next) cur gen).cac=_
   rw [e3]
   show ((cm2 K l (dirB g.next)).tick.las).set _ _=_
   rw [tick_las]
  ·rw [e4]
end Go.Ext
namespace Go
section
variable {P:Program}{ops:Array Oper}{Q:Exit→Act→World→Prop}{md:Region.Mode}{S:World→Prop}{z:Nat}
def wpAnyZ (P:Program) (md:Region.Mode) (ops:Array Oper) (Q:Exit→Act→World→Prop) (S:World→Prop) (z:Nat):Nat→Array Bool→Act→World→Prop
 | 0,listed,a,w=>Region.ready md ops listed=[]∧Q .normal a w
 | fuel+1,listed,a,w =>
  (Region.ready md ops listed=[]→Q .normal a w)∧
  ∀i∈Region.ready md ops listed,wpOp P ops Q i (fun a' w'=>(i≠z→S w')∧wpAnyZ P md ops Q S z fuel (listed.setIfInBounds i true) a' w') a w
theorem wpAny_of_last:∀(fuel:Nat) (listed:Array Bool) (a:Act) (w:World),wpAnyZ P md ops Q S z fuel listed a w→wpAny P md ops Q fuel listed a w
 | 0,_,_,_,h=>h
 | fuel+1,_,_,_,h=>⟨h.1,fun i hi=>wpOp_mono (fun a' w' h'=>wpAny_of_last fuel _ a' w' h'.2) (h.2 i hi)⟩
theorem wpAnyZ_first {i:Nat}{oi oz:Oper}{v:Value}(hi:ops[i]?=some oi) (hoz:ops[z]?=some oz) (hzi:∃e∈oz.after,Region.binds md e=true∧e.on=i) (hiz:i≠z) (hsel:∀(j:Nat) (o:Oper) cs b,ops[j]?=some o→o.op≠.select cs b)
  (hQ:∀c a w,Q (.panic c) (a.put oi.dst v) w→Q (.panic c) a w) :
  ∀(fuel:Nat) (listed:Array Bool) (a:Act) (w:World),
   (∀j oj,ops[j]?=some oj→j≠i→listed.getD j true=false→(∀e∈oj.after,Region.binds md e=true→e.on≠i)→oi.apart ops oj=true) →
   i∈Region.ready md ops listed→YieldsIf P ops S oi v a→S w →
   wpAnyZ P md ops Q S z fuel (listed.setIfInBounds i true) (a.put oi.dst v) w→wpAnyZ P md ops Q S z (fuel+1) listed a w:=by
 intro fuel
 induction fuel with
 | zero =>
  intro listed a w _ hr hy hS H
  refine⟨fun h=>(by rw [h] at hr;cases hr),fun j hj=>?_⟩
  by_cases hji:j=i
  ·subst hji;exact hy.wpOp hi hS ⟨fun _=>hS,H⟩
  ·have:=ready_mono hj hji
   rw [H.1] at this
   cases this
 | succ fuel ih =>
  intro listed a w hfree hr hy hS H
  refine⟨fun h=>(by rw [h] at hr;cases hr),fun j hj=>?_⟩
  by_cases hji:j=i
  ·subst hji;exact hy.wpOp hi hS ⟨fun _=>hS,H⟩
  ·have h1:=H.2 j (ready_mono hj hji)
   obtain⟨hjun,oj,hoj,hall⟩:=mem_ready.1 hj
   have hnot:∀e∈oj.after,Region.binds md e=true→e.on≠i:=fun e he hb heq=>by
    have h1:=hall e he hb
    have h0:=(mem_ready.1 hr).1
    rw [heq] at h1
    rcases Nat.lt_or_ge i listed.size with h' | h'
    ·simp [h'] at h0 h1;rw [h0] at h1;cases h1
    ·simp [Array.getElem?_eq_none h'] at h1
   have hjz:j≠z:=fun e=>by
    subst e
    rw [hoz] at hoj
    cases hoj
    obtain⟨e,he,hb,ho⟩:=hzi
    exact hnot e he hb ho
   have h2:=wpOp_putIf hoj (hfree j oj hoj hji hjun hnot) (fun cs b=>hsel i oi cs b hi) (fun cs b=>hsel j oj cs b hoj) hQ hy h1
   have hfree':∀k ok,ops[k]?=some ok→k≠i→(listed.setIfInBounds j true).getD k true=false →
     (∀e∈ok.after,Region.binds md e=true→e.on≠i)→oi.apart ops ok=true:=fun k ok hk hki hun hno=>by
    refine hfree k ok hk hki ?_ hno
    by_cases hjk:j=k
    ·subst hjk;exact hjun
    ·rw [getD_set_ne true hjk] at hun;exact hun
   refine wpOp_mono (fun a' w' h3=>⟨fun _=>h3.2.1 hjz,ih (listed.setIfInBounds j true) a' w' hfree' (ready_mono hr (Ne.symm hji)) h3.1 (h3.2.1 hjz) ?_⟩) h2
   rw [Array.setIfInBounds_comm _ _ hji]
   exact h3.2.2
def Region.waited (md:Region.Mode) (ops:Array Oper) (z i:Nat):Bool:=i != z && match ops[z]? with
 | some oz=>oz.after.toList.any fun e=>Region.binds md e && e.on == i
 | none=>false
theorem Region.waited_spec {i:Nat}(h:Region.waited md ops z i=true):i≠z∧∃oz,ops[z]?=some oz∧∃e∈oz.after,Region.binds md e=true∧e.on=i:=by
 unfold Region.waited at h
 rw [Bool.and_eq_true] at h
 refine⟨by simpa using h.1,?_⟩
 have h2:=h.2
 split at h2
 ·rename_i oz ho
  obtain⟨e,he,hb⟩:=List.any_eq_true.1 h2
  simp only [Bool.and_eq_true,beq_iff_eq] at hb
  exact⟨oz,ho,e,Array.mem_toList_iff.1 he,hb.1,hb.2⟩
 ·cases h2
theorem wpAnyZ_take {i:Nat}{oi:Oper}{v:Value}{fuel:Nat}{listed:Array Bool}{a:Act}{w:World}(hi:ops[i]?=some oi) (hwt:Region.waited md ops z i=true)
  (hs:Region.noSelect ops=true) (hf:Region.free md ops listed i=true) (hr:(Region.ready md ops listed).contains i=true)
  (hQ:∀c a w,Q (.panic c) (a.put oi.dst v) w→Q (.panic c) a w) (hy:YieldsIf P ops S oi v a) (hS:S w)
  (h:wpAnyZ P md ops Q S z fuel (listed.setIfInBounds i true) (a.put oi.dst v) w):wpAnyZ P md ops Q S z (fuel+1) listed a w:=by
 obtain⟨h1,oz,h2,h3⟩:=Region.waited_spec hwt
 exact wpAnyZ_first hi h2 h3 h1 (Region.noSelect_spec hs) hQ fuel listed a w (Region.free_spec hi hf) (by simpa using hr) hy hS h
theorem wpAnyZ_one {i:Nat}{o:Oper}{fuel:Nat}{listed:Array Bool}{a:Act}{w:World}(hr:Region.ready md ops listed=[i]) (ho:ops[i]?=some o)
  (h:∀K':Act→World→Prop,Shut (∀a w,(i≠z→S w)→wpAnyZ P md ops Q S z fuel (listed.setIfInBounds i true) a w→K' a w)→if Region.wanted o (yielded ops a.tmps)=true then Oper.wp P o a w K' Q else K' (a.put o.dst undef) w):wpAnyZ P md ops Q S z (fuel+1) listed a w :=
 ⟨fun h0=>(by rw [hr] at h0;cases h0),fun j hj=>by
  rw [hr,List.mem_singleton] at hj
  subst hj
  exact wpOp_step ho (fun K' hK=>h K' (fun a w hS hW=>hK a w ⟨hS,hW⟩))⟩
theorem wpAnyZ_done {listed:Array Bool}{a:Act}{w:World}(hr:Region.ready md ops listed=[]) (h:Q .normal a w) :
  ∀fuel,wpAnyZ P md ops Q S z fuel listed a w
 | 0=>⟨hr,h⟩
 | _+1=>⟨fun _=>h,by rw [hr];simp⟩
theorem wp_region_last_drew {id:Nat}{a:Act}{w:World}(S:World→Prop) (z:Nat) (hm:P.follows .mixedOrders=true) (hS:S w.drew)
  (h:S w.drew→wpAnyZ P .any ops Q S z ops.size (Array.replicate ops.size false) a w.drew):(Code.region id ops true).wp P Q a w :=
 wp_region_any hm (wpAny_of_last _ _ _ _ (h hS))
end
end Go
