/- The closed run of a Go program whose memory is known only up to a renaming of blocks: what it computes is true of every world and tape. No conditions. -/
import Derived.Test.YtejeflddeanccaaGreatDoorEng1
set_option linter.unusedSimpArgs false
set_option linter.unusedVariables false
set_option linter.deprecated false
set_option linter.unnecessarySimpa false
namespace Go.Eng
open Go Go.RowKit
section
variable {P:Program}{B:Nat}{w0:World}
def Gives (P:Program) (B:Nat) (w0:World) (ρ:Ren) (S:AState) (k:Value→AState→Bool):Ending→World→Prop:=fun e w' =>
 ∃v v' S' ρ',e=.returned v'∧k v S'=true∧VR ρ' S'.next v v'∧WR P B w0 ρ' S' w'∧Ext S.next ρ ρ'∧S.next≤S'.next∧S'.prot=S.prot
def RegQ (P:Program) (B:Nat) (w0:World) (ρ0:Ren) (S0:AState) (dfs:List Deferred) (k:Act→AState→Bool):Exit→Act→World→Prop:=fun e a2 w2 =>
 e=.normal∧∃A S ρ,k A S=true∧ArrR ρ S.next A.tmps a2.tmps∧a2.defers=dfs∧WR P B w0 ρ S w2∧Base P ρ S.next∧Ext S0.next ρ0 ρ∧S0.next≤S.next∧S.prot=S0.prot
structure Inv (P:Program) (B:Nat) (w0:World) (ops:Array Oper) (ρ0:Ren) (S0:AState) (dfs:List Deferred) (X L:List Nat) (A:Act) (S:AState) (ρ:Ren) (listed:Array Bool) (a':Act) (w:World):Prop where
 base:Base P ρ S.next
 wr:WR P B w0 ρ S w
 ext:Ext S0.next ρ0 ρ
 next:S0.next≤S.next
 prot:S.prot=S0.prot
 sz:listed.size=ops.size
 inL:∀i,listed.getD i false=true→i∈L
 eff:∀i∈X,listed.getD i false=true
 down:∀(i:Nat) (o:Oper),ops[i]?=some o→listed.getD i false=true→∀j∈deps o,listed.getD j false=true
 tsz:a'.tmps.size=A.tmps.size
 dfs:a'.defers=dfs
 view:∀t,(∀j,j∈L→dstOf ops j=some t→listed.getD j false=true)→VR ρ S.next (A.tmps.getD t undef) (a'.tmps.getD t undef)
theorem dep_iff {o:Oper}{j:Nat}:j∈deps o↔∃e∈o.after,Region.binds .any e=true∧e.on=j:=by
 unfold deps
 rw [List.mem_filterMap]
 constructor
 ·rintro⟨e,he,h⟩
  refine⟨e,by simpa using he,?_⟩
  split at h
  ·rename_i hb;exact⟨hb,Option.some.inj h⟩
  ·cases h
 ·rintro⟨e,he,hb,rfl⟩
  exact⟨e,by simpa using he,by rw [hb]⟩
theorem getD_false {listed:Array Bool}{i:Nat}(hi:i<listed.size):listed.getD i true=listed.getD i false:=by
 simp [Array.getD,hi]
theorem readyIn_iff {L:List Nat}{o:Oper}:readyIn L o=true↔∀j∈deps o,j∈L:=by
 unfold readyIn
 rw [List.all_eq_true]
 exact⟨fun h j hj=>memN_iff.1 (h j hj),fun h j hj=>memN_iff.2 (h j hj)⟩
theorem memN_false {i:Nat}{l:List Nat}:memN i l=false↔i∉l:=by
 rw [← memN_iff];simp
theorem nexts_spec {L:List Nat}:∀(l:List Oper) (i:Nat) (p:Nat×Oper),p∈nexts L l i→∃j,p.1=i+j∧l[j]?=some p.2∧memN p.1 L=false:=by
 intro l
 induction l with
 | nil=>intro i p h;cases h
 | cons a l ih =>
  intro i p h
  have lift:p∈nexts L l (i+1)→∃j,p.1=i+j∧(a :: l)[j]?=some p.2∧memN p.1 L=false:=fun h=>by
   obtain⟨j,h1,h2,h3⟩:=ih (i+1) p h
   exact⟨j+1,by omega,by simpa using h2,h3⟩
  unfold nexts at h
  split at h
  ·exact lift h
  ·rename_i hm
   split at h
   ·rcases List.mem_cons.1 h with rfl | h
    ·exact⟨0,rfl,by simp,hm⟩
    ·exact lift h
   ·exact lift h
theorem tree_sound (E:Env P) {ops:Array Oper}(wf:Wf ops) {call:FuncId→Array Value→AState→(Value→AState→Bool)→Bool}{k:Act→AState→Bool}{ρ0:Ren}{S0:AState}{dfs:List Deferred}
  (hcall:∀f args args' ρ S w k',Base P ρ S.next→WR P B w0 ρ S w→ArrR ρ S.next args args'→call f args S k'=true→Calls P f args' w (Gives P B w0 ρ S k')) :
  ∀(m n:Nat) (X L:List Nat) (A:Act) (S:AState) (ρ:Ren) (listed:Array Bool) (a':Act) (w:World),
   nodeOk E ops X L A S ops.toList 0=true →
   (match nexts L ops.toList 0 with
    | []=>k A S
    | l=>l.all fun p=>match stepOpA E A p.2 S with
     | some (.value v,S')=>treeR E call ops k n (p.1 :: X) (p.1 :: L) (A.put p.2.dst v) S'
     | some (.skip,S')=>treeR E call ops k n (p.1 :: X) (p.1 :: L) (A.put p.2.dst undef) S'
     | some (.enter f args,S')=>call f args S' fun v S''=>treeR E call ops k n (p.1 :: X) (p.1 :: L) (A.put p.2.dst v) S''
     | _=>false)=true →
   unl ops.size listed≤m →
   Inv P B w0 ops ρ0 S0 dfs X L A S ρ listed a' w →
   wpAny P .any ops (RegQ P B w0 ρ0 S0 dfs k) m listed a' w:=by
 have fin:∀(n:Nat) (X L:List Nat) (A:Act) (S:AState) (ρ:Ren) (listed:Array Bool) (a':Act) (w:World),nodeOk E ops X L A S ops.toList 0=true →
   (match nexts L ops.toList 0 with
    | []=>k A S
    | l=>l.all fun p=>match stepOpA E A p.2 S with
     | some (.value v,S')=>treeR E call ops k n (p.1 :: X) (p.1 :: L) (A.put p.2.dst v) S'
     | some (.skip,S')=>treeR E call ops k n (p.1 :: X) (p.1 :: L) (A.put p.2.dst undef) S'
     | some (.enter f args,S')=>call f args S' fun v S''=>treeR E call ops k n (p.1 :: X) (p.1 :: L) (A.put p.2.dst v) S''
     | _=>false)=true →
   Inv P B w0 ops ρ0 S0 dfs X L A S ρ listed a' w→(∀i,i<ops.size→listed.getD i false=true)→RegQ P B w0 ρ0 S0 dfs k .normal a' w:=by
  intro n X L A S ρ listed a' w _ hk inv hall
  have hnil:nexts L ops.toList 0=[]:=by
   apply List.eq_nil_iff_forall_not_mem.2
   intro p hp
   obtain⟨j,h1,h2,h3⟩:=nexts_spec _ _ p hp
   have hj:j<ops.size:=by
    rcases Nat.lt_or_ge j ops.size with h | h
    ·exact h
    ·rw [List.getElem?_eq_none (by simpa using h)] at h2;cases h2
   have:=inv.inL p.1 (hall p.1 (by omega))
   rw [memN_iff.2 this] at h3
   cases h3
  rw [hnil] at hk
  refine⟨rfl,A,S,ρ,hk,⟨inv.tsz.symm,fun i v v' h1 h2=>?_⟩,inv.dfs,inv.wr,inv.base,inv.ext,inv.next,inv.prot⟩
  have:=inv.view i fun j _ hj=>hall j (by
   unfold dstOf at hj
   rcases Nat.lt_or_ge j ops.size with h | h
   ·exact h
   ·rw [Array.getElem?_eq_none h] at hj;cases hj)
  simpa [Array.getD_eq_getD_getElem?,h1,h2] using this
 have done:∀{listed:Array Bool},listed.size=ops.size→Region.ready .any ops listed=[]→∀i,i<ops.size→listed.getD i false=true:=by
  intro listed hsz hr i
  induction i using Nat.strongRecOn with
  | ind i ih =>
   intro hi
   cases hc:listed.getD i false with
   | true=>rfl
   | false =>
    have:i∈Region.ready .any ops listed:=by
     refine mem_ready.2 ⟨by rw [getD_false (by omega)];exact hc,ops[i],Array.getElem?_eq_getElem hi,fun e he hb=>?_⟩
     have hlt:=wf.lower i _ (Array.getElem?_eq_getElem hi) e.on (dep_iff.2 ⟨e,he,hb,rfl⟩)
     exact ih e.on hlt (by omega)
    rw [hr] at this
    cases this
 intro m
 induction m with
 | zero =>
  intro n X L A S ρ listed a' w hok hk hm inv
  have hall:∀i,i<ops.size→listed.getD i false=true:=by
   intro i hi
   cases hc:listed.getD i false with
   | true=>rfl
   | false =>
    have:=unl_set inv.sz hi hc
    omega
  refine⟨?_,fin n X L A S ρ listed a' w hok hk inv hall⟩
  apply List.eq_nil_iff_forall_not_mem.2
  intro i hi
  obtain⟨h0,o,ho,_⟩:=mem_ready.1 hi
  have hlt:i<ops.size:=(Array.getElem?_eq_some_iff.1 ho).1
  rw [getD_false (by rw [inv.sz];exact hlt),hall i hlt] at h0
  cases h0
 | succ m ih =>
  intro n X L A S ρ listed a' w hok hk hm inv
  refine⟨fun hr=>fin n X L A S ρ listed a' w hok hk inv (done inv.sz hr),fun i hi=>?_⟩
  obtain⟨h0,o,ho,hdeps⟩:=mem_ready.1 hi
  have hlt:i<ops.size:=(Array.getElem?_eq_some_iff.1 ho).1
  rw [getD_false (by rw [inv.sz];exact hlt)] at h0
  have hd:∀j∈deps o,listed.getD j false=true:=fun j hj=>by
   obtain⟨e,he,hb,rfl⟩:=dep_iff.1 hj
   exact hdeps e he hb
  have hu:=unl_set inv.sz hlt h0
  have hm':unl ops.size (listed.setIfInBounds i true)≤m:=by omega
  have hdst:dstOf ops i=o.dst:=by simp [dstOf,ho]
  have hset:∀j,(listed.setIfInBounds i true).getD j false=true↔j=i∨listed.getD j false=true:=by
   intro j
   by_cases hji:j=i
   ·subst hji;simp [inv.sz,hlt]
   ·rw [getD_set_ne false (Ne.symm hji)];simp [hji]
  have hsel:∀cs b,o.op≠.select cs b:=fun cs b=>wf.nosel i o cs b ho
  have hview:∀t∈opTmps o,VR ρ S.next (A.tmps.getD t undef) (a'.tmps.getD t undef):=fun t ht=>inv.view t fun j hjL hj=>by
   rcases wf.look i o ho t ht j hj with h|⟨oj,hoj,hasg,hij⟩
   ·exact hd j h
   ·have hatj:=nodeOk_at E ops.toList 0 hok j oj (by simpa using hoj)
    rw [Nat.zero_add,memN_iff.2 hjL] at hatj
    dsimp only at hatj
    rw [hasg,Bool.and_eq_true,Bool.not_true,Bool.false_and,Bool.or_false] at hatj
    exact inv.eff j (memN_iff.1 hatj.2)
  have hwant:Region.wanted o (yielded ops a'.tmps)=wantedIn ops o A:=by
   unfold wantedIn Region.wanted
   cases hg:o.guard with
   | none=>rfl
   | some gb =>
    obtain⟨g,b⟩:=gb
    dsimp only
    rw [yielded_view inv.tsz fun t ht=>inv.view t fun j _ hj=>hd j (by rw [wf.dst j g t hj ht];exact wf.guard i o g b ho hg)]
  have hdown':∀(j:Nat) (oj:Oper),ops[j]?=some oj→(listed.setIfInBounds i true).getD j false=true→∀l∈deps oj,(listed.setIfInBounds i true).getD l false=true:=by
   intro j oj hj hl l hdl
   rw [hset]
   rcases (hset j).1 hl with rfl | h
   ·rw [ho] at hj;cases hj;exact .inr (hd l hdl)
   ·exact .inr (inv.down j oj hj h l hdl)
  have hat:=nodeOk_at E ops.toList 0 hok i o (by simpa using ho)
  rw [Nat.zero_add] at hat
  have hrdy:readyIn L o=true:=readyIn_iff.2 fun j hj=>inv.inL j (hd j hj)
  unfold wpOp
  simp only [ho]
  rw [hwant]
  cases hiL:memN i L with
  | true =>
   rw [hiL] at hat
   dsimp only at hat
   rw [Bool.and_eq_true] at hat
   have hat:=hat.2
   have hnX:memN i X=false:=by
    rw [memN_false]
    intro hx
    rw [inv.eff i hx] at h0
    cases h0
   rw [hnX,Bool.false_or,Bool.and_eq_true] at hat
   have hat:=hat.2
   have stay:∀v',(∀t,o.dst=some t→VR ρ S.next (A.tmps.getD t undef) v')→wpAny P .any ops (RegQ P B w0 ρ0 S0 dfs k) m (listed.setIfInBounds i true) (a'.put o.dst v') w:=by
    intro v' hv'
    refine ih n X L A S ρ _ _ w hok hk hm' ⟨inv.base,inv.wr,inv.ext,inv.next,inv.prot,by simpa using inv.sz,fun j hj=>?_,fun j hj=>(hset j).2 (.inr (inv.eff j hj)),hdown',(put_size ..).trans inv.tsz,(put_defers ..).trans inv.dfs,fun t ht=>?_⟩
    ·rcases (hset j).1 hj with rfl | h
     ·exact memN_iff.1 hiL
     ·exact inv.inL j h
    ·by_cases hdt:o.dst=some t
     ·rw [hdt,put_at]
      split
      ·exact hv' t hdt
      ·rename_i hge
       have:A.tmps.getD t undef=undef:=by
        rw [Array.getD_eq_getD_getElem?,Array.getElem?_eq_none (by rw [← inv.tsz];exact Nat.le_of_not_lt hge)];rfl
       rw [this];exact undef_R
     ·rw [put_ne _ _ hdt]
      refine inv.view t fun j hjL hj=>((hset j).1 (ht j hjL hj)).resolve_left fun e=>hdt (by rw [← hdst,← e];exact hj)
   cases hwt:wantedIn ops o A with
   | false =>
    rw [hwt] at hat
    simp only [Bool.false_eq_true,if_false]
    refine stay undef fun t ht=>?_
    rw [ht] at hat
    exact valIs_R hat undef_R
   | true =>
    rw [hwt] at hat
    simp only [if_true]
    dsimp only at hat
    rw [Bool.and_eq_true] at hat
    obtain⟨hrd,hat⟩:=hat
    have hblk:blocked ops X i=false:=by
     unfold blocked
     rw [List.any_eq_false]
     intro e he hc
     split at hc
     ·rename_i oe hoe
      rw [inv.down e oe hoe (inv.eff e he) i (memN_iff.1 hc)] at h0
      cases h0
     ·cases hc
    rw [hblk,Bool.false_or] at hat
    split at hat
    case h_2=>cases hat
    rename_i v S1 hrun
    obtain⟨nx',g1,g2⟩:=read_view E inv.wr inv.base inv.tsz hsel hview (readOp_quiet hrd) hrun
    cases g2 with
    | @value _ v' hv =>
     refine .inl ?_
     unfold Oper.wp
     rw [g1,Oper.upon_value]
     refine stay v' fun t ht=>?_
     rw [ht] at hat
     exact valIs_R hat hv
  | false =>
   rw [hiL] at hat
   simp only [hrdy,Bool.not_true,Bool.false_or] at hat
   rw [hat]
   simp only [if_true]
   refine .inl ?_
   have hmem:=nexts_mem (L:=L) ops.toList 0 i o (by simpa using ho) (by rw [Nat.zero_add];exact hiL) hrdy
   rw [Nat.zero_add] at hmem
   have hthis:(match stepOpA E A o S with
     | some (.value v,S')=>treeR E call ops k n (i :: X) (i :: L) (A.put o.dst v) S'
     | some (.skip,S')=>treeR E call ops k n (i :: X) (i :: L) (A.put o.dst undef) S'
     | some (.enter f args,S')=>call f args S' fun v S''=>treeR E call ops k n (i :: X) (i :: L) (A.put o.dst v) S''
     | _=>false)=true:=by
    split at hk
    ·rename_i hnil;rw [hnil] at hmem;cases hmem
    ·rw [List.all_eq_true] at hk
     exact hk (i,o) hmem
   have child:∀(v v':Value) (S':AState) (ρ':Ren) (w':World),treeR E call ops k n (i :: X) (i :: L) (A.put o.dst v) S'=true→VR ρ' S'.next v v'→WR P B w0 ρ' S' w'→Ext S.next ρ ρ'→S.next≤S'.next→S'.prot=S.prot →
     wpAny P .any ops (RegQ P B w0 ρ0 S0 dfs k) m (listed.setIfInBounds i true) (a'.put o.dst v') w':=by
    intro v v' S' ρ' w' ht hv hw' he hn hp
    cases n with
    | zero=>cases ht
    | succ n =>
     unfold treeR at ht
     split at ht
     ·cases ht
     ·rename_i L2 A2 hcl
      rw [Bool.and_eq_true] at ht
      obtain⟨c1,c2,c3,c4⟩:=closeR_kept E ops.toList 0 _ _ _ _ (fun j=>by simp) hcl
      refine ih n (i :: X) L2 A2 S' ρ' _ _ w' ht.1 ht.2 hm' ⟨inv.base.mono he hn,hw',inv.ext.trans he inv.next,Nat.le_trans inv.next hn,hp.trans inv.prot,by simpa using inv.sz,fun j hj=>?_,fun j hj=>?_,hdown',?_,(put_defers ..).trans inv.dfs,fun t ht=>?_⟩
      ·rcases (hset j).1 hj with rfl | h
       ·exact c1 _ (by simp)
       ·exact c1 j (List.mem_cons_of_mem _ (inv.inL j h))
      ·rcases List.mem_cons.1 hj with rfl | h
       ·exact (hset _).2 (.inl rfl)
       ·exact (hset j).2 (.inr (inv.eff j h))
      ·rw [c2,put_size,put_size];exact inv.tsz
      ·have hL:∀j,j∈L2→dstOf ops j=some t→j∈i :: L:=fun j hjL hj=>by
        rcases (hset j).1 (ht j hjL hj) with rfl | h
        ·simp
        ·exact List.mem_cons_of_mem _ (inv.inL j h)
       rw [c4 t hL]
       by_cases hdt:o.dst=some t
       ·rw [hdt,put_at,put_at,inv.tsz]
        split
        ·exact hv
        ·exact undef_R
       ·rw [put_ne _ _ hdt,put_ne _ _ hdt]
        exact (inv.view t fun j hjL hj=>((hset j).1 (ht j (c1 j (List.mem_cons_of_mem _ hjL)) hj)).resolve_left fun e=>hdt (by rw [← hdst,← e];exact hj)).mono he hn
   unfold Oper.wp
   split at hthis
   ·rename_i v S' hst
    obtain⟨nx',w',ρ',g1,g2,g3,g4,g5,g6⟩:=step_view E inv.wr inv.base inv.tsz hsel hview hst
    cases g6 with
    | value hv=>rw [g1,Oper.upon_value];exact child _ _ _ _ _ hthis hv g5 g2 g3 g4
   ·rename_i S' hst
    obtain⟨nx',w',ρ',g1,g2,g3,g4,g5,g6⟩:=step_view E inv.wr inv.base inv.tsz hsel hview hst
    cases g6 with
    | skip=>rw [g1,Oper.upon_skip];exact child _ _ _ _ _ hthis undef_R g5 g2 g3 g4
   ·rename_i f args S' hst
    obtain⟨nx',w',ρ',g1,g2,g3,g4,g5,g6⟩:=step_view E inv.wr inv.base inv.tsz hsel hview hst
    cases g6 with
    | @enter _ _ args' hargs =>
     rw [g1,Oper.upon_enter]
     refine Calls.mono (hcall f args args' ρ' S' w' _ (inv.base.mono g2 g3) g5 hargs hthis) fun e w2 he=>?_
     obtain⟨v,v',S2,ρ2,rfl,k1,k2,k3,k4,k5,k6⟩:=he
     exact child _ _ _ _ _ k1 k2 k3 (g2.trans k4 g3) (Nat.le_trans g3 k5) (k6.trans g4)
   ·cases hthis
end
end Go.Eng
namespace Go.Eng
open Go Go.RowKit
def candL (es:List MapEntry) (since:Nat) (seen:List Nat):List (Option MapEntry) :=
 let left:=es.filter fun e=>!memN e.born seen
 let old:=left.filter fun e=>decide (e.born<since)
 let new:=left.filter fun e=>decide (e.born≥since)
 (match old with
  | []=>[none]
  | _=>[])++(old++new).map some
def stale (es:List MapEntry) (seen:List Nat) (last:Nat):Bool:=!seen.isEmpty && !es.isEmpty && es.all fun e=>decide (e.born≥last)
noncomputable def nextMA (it:Value) (c:Nat):Sem (Nat×Value):=match it with
 | .pointer (some ⟨r,0,none⟩)=>(getObj r).bind fun o=>match o with
  | .mapIter none _ _ _=>Sem.pure (1,.tuple #[.bool false])
  | .mapIter (some m) since seen last=>(getObj m).bind fun o=>match o with
   | .map es clock=>match stale es.toList seen.toList last with
    | true=>stuck ""
    | false=>match (candL es.toList since seen.toList)[c]? with
     | some (some e)=>(setObj r (.mapIter (some m) since (seen.push e.born) clock)).bind fun _=>Sem.pure ((candL es.toList since seen.toList).length,.tuple #[.bool true,e.key,e.val])
     | some none=>Sem.pure ((candL es.toList since seen.toList).length,.tuple #[.bool false])
     | none=>stuck ""
   | _=>stuck ""
  | _=>stuck ""
 | _=>stuck ""
def pickC (r m since:Nat) (seen:Array Nat) (clock:Nat) (e:Option (Option MapEntry)):Sem Value:=match e with
 | some (some e)=>(setObj r (.mapIter (some m) since (seen.push e.born) clock)).bind fun _=>Sem.pure (.tuple #[.bool true,e.key,e.val])
 | some none=>Sem.pure (.tuple #[.bool false])
 | none=>stuck "Next: no such candidate"
def nextT (it:Value) (c:Nat):Sem Value:=match it with
 | .pointer (some ⟨r,0,_⟩)=>(getObj r).bind fun o=>match o with
  | .mapIter none _ _ _=>Sem.pure (.tuple #[.bool false])
  | .mapIter (some m) since seen last=>(getObj m).bind fun o=>match o with
   | .map es clock=>match stale es.toList seen.toList last with
    | true=>stuck ""
    | false=>pickC r m since seen clock (candL es.toList since seen.toList)[c]?
   | _=>stuck ""
  | _=>stuck ""
 | _=>stuck ""
theorem memN_contains (i:Nat) (l:List Nat):memN i l=l.contains i:=by
 rw [Bool.eq_iff_iff,memN_iff];simp
theorem cand_eq (es:Array MapEntry) (since:Nat) (seen:Array Nat) :
  ((if ((es.filter fun (e:MapEntry)=>!seen.contains e.born).filter fun (e:MapEntry)=>decide (e.born<since)).isEmpty=true then #[none] else #[]) ++
    (((es.filter fun (e:MapEntry)=>!seen.contains e.born).filter fun (e:MapEntry)=>decide (e.born<since))++((es.filter fun (e:MapEntry)=>!seen.contains e.born).filter fun (e:MapEntry)=>decide (e.born≥since))).map some).toList =
  candL es.toList since seen.toList:=by
 obtain⟨es⟩:=es
 obtain⟨seen⟩:=seen
 unfold candL
 simp only [memN_contains]
 simp only [List.filter_toArray,List.contains_toArray,List.isEmpty_toArray,List.append_toArray,List.map_toArray,Array.toList_append]
 congr 1
 generalize (List.filter (fun (e:MapEntry)=>decide (e.born<since)) (List.filter (fun (e:MapEntry)=>!seen.contains e.born) es))=l
 cases l with
 | nil=>rfl
 | cons a l=>rfl
theorem stale_eq (es:Array MapEntry) (seen:Array Nat) (last:Nat):(!seen.isEmpty && !es.isEmpty && es.all fun x=>decide (x.born≥last))=stale es.toList seen.toList last:=by
 obtain⟨es⟩:=es
 obtain⟨seen⟩:=seen
 simp [stale]
section
variable {P:Program}{B:Nat}{w0:World}{q:Bool}{ρ:Ren}{n:Nat}
theorem LR.filter {α β:Type}{R:α→β→Prop}{p:α→Bool}{p':β→Bool}(hp:∀a b,R a b→p a=p' b) {l:List α}{m:List β}(h:LR R l m):LR R (l.filter p) (m.filter p'):=by
 induction h with
 | nil=>exact .nil
 | cons h _ ih =>
  rw [List.filter_cons,List.filter_cons,← hp _ _ h]
  split
  ·exact .cons h ih
  ·exact ih
theorem LR.append' {α β:Type}{R:α→β→Prop}{l l2:List α}{m m2:List β}(h:LR R l m) (h2:LR R l2 m2):LR R (l++l2) (m++m2):=by
 induction h with
 | nil=>exact h2
 | cons h _ ih=>exact .cons h ih
theorem LR.map' {α β γ δ:Type}{R:α→β→Prop}{R':γ→δ→Prop}{f:α→γ}{g:β→δ}(hf:∀a b,R a b→R' (f a) (g b)) {l:List α}{m:List β}(h:LR R l m):LR R' (l.map f) (m.map g):=by
 induction h with
 | nil=>exact .nil
 | cons h _ ih=>exact .cons (hf _ _ h) ih
theorem LR.len' {α β:Type}{R:α→β→Prop}{l:List α}{m:List β}(h:LR R l m):l.length=m.length:=by
 induction h with
 | nil=>rfl
 | cons h _ ih=>simp [ih]
theorem LR.get' {α β:Type}{R:α→β→Prop}{l:List α}{m:List β}(h:LR R l m):∀i:Nat,(l[i]?=none∧m[i]?=none)∨∃a b,l[i]?=some a∧m[i]?=some b∧R a b:=by
 induction h with
 | nil=>intro i;exact .inl ⟨by simp,by simp⟩
 | @cons a b l m h _ ih =>
  intro i
  cases i with
  | zero=>exact .inr ⟨a,b,by simp,by simp,h⟩
  | succ i=>simpa using ih i
theorem cand_R {x y:List MapEntry}(h:LR (EntR ρ n) x y) (since:Nat) (seen:List Nat):LR (OR2 ρ n) (candL x since seen) (candL y since seen):=by
 have h1:=h.filter (p:=fun e=>!memN e.born seen) (p':=fun e=>!memN e.born seen) fun a b hab=>by rw [hab.born]
 have h2:=h1.filter (p:=fun e=>decide (e.born<since)) (p':=fun e=>decide (e.born<since)) fun a b hab=>by rw [hab.born]
 have h3:=h1.filter (p:=fun e=>decide (e.born≥since)) (p':=fun e=>decide (e.born≥since)) fun a b hab=>by rw [hab.born]
 unfold candL
 dsimp only
 refine LR.append' ?_ ((h2.append' h3).map' fun _ _ h=>.some h)
 revert h2
 generalize (x.filter fun e=>!memN e.born seen).filter (fun e=>decide (e.born<since))=u
 generalize (y.filter fun e=>!memN e.born seen).filter (fun e=>decide (e.born<since))=v
 intro h2
 cases h2 with
 | nil=>exact .cons .none .nil
 | cons _ _=>exact .nil
theorem stale_R {x y:List MapEntry}(h:LR (EntR ρ n) x y) (seen:List Nat) (last:Nat):stale x seen last=stale y seen last:=by
 unfold stale
 have h1:x.isEmpty=y.isEmpty:=by cases h<;>rfl
 have h2:(x.all fun e=>decide (e.born≥last))=y.all fun e=>decide (e.born≥last):=by
  induction h with
  | nil=>rfl
  | cons h _ ih =>
   rw [List.all_cons,List.all_cons,h.born]
   rw [ih (by rename_i t;cases t<;>rfl)]
 rw [h1,h2]
theorem sim_nextT {x x':Value}(hx:VR ρ n x x') (c:Nat):Sim P B w0 false (fun ρ n a b=>VR ρ n a.2 b) ρ n (nextMA x c) (nextT x' c):=by
 have mono:Mono (fun (ρ:Ren) (n:Nat) (a:Nat×Value) (b:Value)=>VR ρ n a.2 b):=fun _ _ _ _ _ _ h he hn=>VR.mono h he hn
 have over:∀{ρ n},VR ρ n (.tuple #[.bool false]) (.tuple #[.bool false]):=fun {ρ n}=>by
  have:=(ArrR.nil (ρ:=ρ) (n:=n)).push (.bool false)
  exact .tuple this.size this.at_
 unfold nextMA nextT
 cases hx with
 | ptr a ha hs =>
  obtain⟨r,o,sp⟩:=a
  dsimp only at hs ha
  subst hs
  cases o with
  | succ o=>exact Sim.halt
  | zero =>
   dsimp only [Ren.addr]
   refine Sim.getObj ha fun ρ1 n1 dd o o' h1 h2 hob=>?_
   rw [← (h1 r ha).1]
   cases hob with
   | mapIter since seen last h =>
    cases h with
    | none=>exact Sim.pure mono over
    | some m hm =>
     dsimp only
     refine Sim.getObj hm fun ρ2 n2 dd o o' h3 h4 hob=>?_
     rw [← (h3 r (by omega)).1,← (h3 m hm).1]
     cases hob with
     | @map es es' clock _ he =>
      dsimp only
      rw [stale_R he.list seen.toList last]
      cases stale es'.toList seen.toList last with
      | true=>exact Sim.halt
      | false =>
       dsimp only
       rcases (cand_R he.list since seen.toList).get' c with ⟨g1,g2⟩|⟨a,b,g1,g2,g3⟩
       ·rw [g1];exact Sim.halt
       ·rw [g1,g2]
        unfold pickC
        cases g3 with
        | none=>exact Sim.pure mono over
        | some hab =>
         dsimp only
         rw [hab.born]
         refine Sim.setObj (by omega) (fun d=>.mapIter _ _ _ (.some m (by omega))) (Sim.pure mono ?_)
         have:=(((ArrR.nil (ρ:=ρ2) (n:=n2)).push (.bool true)).push hab.key).push hab.val
         exact .tuple this.size this.at_
     | _=>exact Sim.halt
   | _=>exact Sim.halt
 | _=>exact Sim.halt
theorem next_drawn {S:AState}{w:World}(hw:WR P B w0 ρ S w) {x x':Value}(hx:VR ρ S.next x x') (t:TypeId) {N:Nat}{u:Value}{S1:AState}(h:runA P (nextMA x 0) S=some ((N,u),S1)) :
  ∃c w1,c<N∧(w1=w∨w1={ w with drawn:=w.drawn+1 })∧(Instr.next x' false t).run P w=(nextT x' c).run P w1:=by
 unfold nextMA at h
 split at h
 case h_2=>simp [stuck,runA] at h
 rename_i r
 cases hx with
 | ptr _ ha hs =>
 rw [runA_bind] at h
 simp only [Go.getObj,runA] at h
 split at h
 case h_2=>cases h
 rename_i o S2 hg
 split at hg
 case h_2=>cases hg
 case h_3=>cases hg
 ·rename_i ob hget
  simp only [Option.some.injEq,Prod.mk.injEq] at hg
  obtain⟨rfl,rfl⟩:=hg
  obtain⟨hlt,o',ho',hob⟩:=hw.obj _ _ hget
  cases ob with
  | mapIter m since seen last =>
   cases hob with
   | mapIter _ _ _ hm =>
    cases hm with
    | none =>
     dsimp only at h
     simp only [runA,Option.some.injEq,Prod.mk.injEq] at h
     obtain⟨⟨rfl,_⟩,_⟩:=h
     refine⟨0,w,by omega,.inl rfl,?_⟩
     simp [Instr.next,nextT,Ren.addr,Go.getObj,bind_eq,Sem.bind,Sem.run,ho',pure_eq]
    | some m hm =>
     dsimp only at h
     rw [runA_bind] at h
     simp only [runA] at h
     split at h
     case h_2=>cases h
     rename_i o2 S3 hg2
     split at hg2
     case h_2=>cases hg2
     case h_3=>cases hg2
     ·rename_i ob2 hget2
      simp only [Option.some.injEq,Prod.mk.injEq] at hg2
      obtain⟨rfl,rfl⟩:=hg2
      obtain⟨hlt2,o2',ho2',hob2⟩:=hw.obj _ _ hget2
      cases ob2 with
      | map es clock =>
       cases hob2 with
       | @map _ es' _ _ he =>
        dsimp only at h
        split at h
        ·simp [stuck,runA] at h
        ·rename_i hst
         have hst':stale es'.toList seen.toList last=false:=by rw [← stale_R he.list];exact hst
         have hlen:=(cand_R he.list since seen.toList).len'
         have hN:N=(candL es.toList since seen.toList).length∧0<N:=by
          split at h
          ·rename_i e hc
           rw [runA_bind] at h
           split at h
           ·simp only [runA,Option.some.injEq,Prod.mk.injEq] at h
            have:=(List.getElem?_eq_some_iff.1 hc).1
            exact⟨h.1.1.symm,by omega⟩
           ·cases h
          ·rename_i hc
           simp only [runA,Option.some.injEq,Prod.mk.injEq] at h
           have:=(List.getElem?_eq_some_iff.1 hc).1
           exact⟨h.1.1.symm,by omega⟩
          ·simp [stuck,runA] at h
         have run1:∀(k:Obj→Sem Value) (w1:World),w1.heap=w.heap→((Go.getObj (ρ.f r)).bind k).run P w1=(k (.mapIter (some (ρ.f m)) since seen last)).run P w1:=by
          intro k w1 h1
          simp only [Go.getObj,Sem.bind,Sem.run,h1]
          rw [show w.heap[ρ.f r]?=_ from ho']
         have run2:∀(k:Obj→Sem Value) (w1:World),w1.heap=w.heap→((Go.getObj (ρ.f m)).bind k).run P w1=(k (.map es' clock)).run P w1:=by
          intro k w1 h1
          simp only [Go.getObj,Sem.bind,Sem.run,h1]
          rw [show w.heap[ρ.f m]?=_ from ho2']
         have eT:∀c w1,w1.heap=w.heap→(nextT (.pointer (some ⟨ρ.f r,0,none⟩)) c).run P w1=(pickC (ρ.f r) (ρ.f m) since seen clock (candL es'.toList since seen.toList)[c]?).run P w1:=by
          intro c w1 h1
          refine (run1 _ w1 h1).trans ?_
          refine (run2 _ w1 h1).trans ?_
          dsimp only
          rw [hst']
         have hcand:=cand_eq es' since seen
         have eN:(Instr.next (.pointer (some ⟨ρ.f r,0,none⟩)) false t).run P w=((choose (.mapNext N)).bind fun c=>pickC (ρ.f r) (ρ.f m) since seen clock (candL es'.toList since seen.toList)[c]?).run P w:=by
          refine (run1 _ w rfl).trans ?_
          refine (run2 _ w rfl).trans ?_
          dsimp only
          rw [if_neg (by rw [stale_eq,hst'];exact Bool.false_ne_true)]
          rw [hN.1,hlen,← hcand]
          simp only [Array.length_toList,Array.getElem?_toList]
          rfl
         have e0:(Value.pointer (some (ρ.addr ⟨r,0,none⟩)))=.pointer (some ⟨ρ.f r,0,none⟩):=rfl
         rw [e0,eN]
         by_cases hf:(Question.mapNext N).forced=true
         ·refine⟨0,w,hN.2,.inl rfl,?_⟩
          rw [eT 0 w rfl]
          simp only [Go.choose,Sem.bind,Sem.run,hf,if_true]
         ·refine⟨(w.tape w.drawn (.mapNext N)) % N,{ w with drawn:=w.drawn+1 },Nat.mod_lt _ hN.2,.inr rfl,?_⟩
          rw [eT _ { w with drawn:=w.drawn+1 } rfl]
          simp only [Go.choose,Sem.bind,Sem.run,hf,Question.cut]
          rfl
      | _=>simp [stuck,runA] at h
  | _=>simp [stuck,runA] at h
end
end Go.Eng
namespace Go.Eng
open Go Go.RowKit
section
variable {P:Program}{B:Nat}{w0:World}{ρ:Ren}
def EndsC (P:Program) (B:Nat) (w0:World) (ρ:Ren) (S:AState) (f0:FuncId) (fr':Frame) (cs' bs:List Frame) (w:World) (k:Value→AState→Bool):Prop :=
 ∃w' ρ' v v' S' frE,k v S'=true∧Steps P (lone fr' (cs'++bs) w) (lone frE bs w')∧frE.leaving P w' (.returned v')∧frE.fn=f0∧Ext S.next ρ ρ'∧S.next≤S'.next∧S'.prot=S.prot∧WR P B w0 ρ' S' w'∧VR ρ' S'.next v v'
theorem EndsC.of_goes {S S2:AState}{f0:FuncId}{fr':Frame}{cs' bs:List Frame}{w:World}{fr2:Frame}{cs2:List Frame}{k:Value→AState→Bool}(h:Goes P B w0 ρ S fr' cs' bs w fr2 cs2 S2)
  (g:∀ρ' fr2' cs2' w',MR P B w0 ρ' S2 fr2 cs2 fr2' cs2' w'→EndsC P B w0 ρ' S2 f0 fr2' cs2' bs w' k):EndsC P B w0 ρ S f0 fr' cs' bs w k:=by
 obtain⟨fr2',cs2',w',ρ',h1,h2,h3,hp,h4⟩:=h
 obtain⟨w'',ρ'',v,v',S',frE,g0,g1,g2,g3,g4,g5,gp,g6,g7⟩:=g ρ' fr2' cs2' w' h4
 exact⟨w'',ρ'',v,v',S',frE,g0,.head h1 g1,g2,g3,h2.trans g4 h3,by omega,gp.trans hp,g6,g7⟩
theorem next_goes {S:AState}{fr fr':Frame}{cs cs' bs:List Frame}{w:World}(hm:MR P B w0 ρ S fr cs fr' cs' w) (hmode:fr.mode=.run) {ops:Array Oper}{i:Nat}{is:List Nat}{rest:List Item}
  (htodo:fr.todo=.inRegion ops (i :: is) :: rest) {dst:Option Tmp}{x:Operand}{ty:TypeId}{pos:String}{after:Array Edge}{guard:Option (Nat×Bool)}
  (ho:ops[i]?=some ⟨dst,.next x false,ty,pos,after,guard⟩) (hwant:Region.wanted ⟨dst,.next x false,ty,pos,after,guard⟩ (yielded ops fr.tmps)=true)
  {m:Nat}{u0:Value}{S1:AState}(h0:runA P ((getV (actOf fr) x).bind fun v=>nextMA v 0) S=some ((m,u0),S1)) :
  ∃c,c<m∧∀m' u S',runA P ((getV (actOf fr) x).bind fun v=>nextMA v c) S=some ((m',u),S')→Goes P B w0 ρ S fr' cs' bs w (fr.finish u) cs S':=by
 obtain⟨v,hv⟩:∃v S2,runA P (getV (actOf fr) x) S=some (v,S2)∧S2=S:=by
  rw [runA_bind] at h0
  split at h0
  ·rename_i v S2 hv
   refine⟨v,S2,hv,?_⟩
   cases x with
   | tmp t=>simp only [getV,runA,Option.some.injEq,Prod.mk.injEq] at hv;exact hv.2.symm
   | const c =>
    simp only [getV] at hv
    split at hv
    ·simp only [runA,Option.some.injEq,Prod.mk.injEq] at hv;exact hv.2.symm
    ·simp [stuck,runA] at hv
   | global g =>
    simp only [getV,Go.program,Sem.bind,runA] at hv
    split at hv
    ·simp only [runA,Option.some.injEq,Prod.mk.injEq] at hv;exact hv.2.symm
    ·simp [stuck,runA] at hv
   | func f=>simp only [getV,runA,Option.some.injEq,Prod.mk.injEq] at hv;exact hv.2.symm
  ·cases h0
 obtain⟨S2,hv,rfl⟩:=hv
 rw [runA_bind,hv] at h0
 dsimp only at h0
 have hR:=getV_run hm.wr hm.base (a:=actOf fr) (a':=actOf fr') hm.fr.tmps x hv
 obtain⟨c,w1,hc,hw1,hrun⟩:=next_drawn hm.wr hR ty h0
 refine⟨c,hc,fun m' u S' h=>?_⟩
 rw [runA_bind,hv] at h
 dsimp only at h
 have hwr1:WR P B w0 ρ S2 w1:=by
  rcases hw1 with rfl | rfl
  ·exact hm.wr
  ·exact hm.wr.drew
 obtain⟨u',w',ρ',g1,g2,g3,gp,g4,g5,_⟩:=sim_nextT (P:=P) (B:=B) (w0:=w0) hR c ρ S2 w1 (Ext.refl _ _) (Nat.le_refl _) hwr1 _ _ h
 have hall:=hm
 obtain⟨hbase,hwr,hfr,hcs⟩:=hm
 obtain⟨xf,xt,xd,xr,xm,xk,xo⟩:=fr
 obtain⟨yf,yt,yd,yr,ym,yk,yo⟩:=fr'
 obtain⟨h1,h2,h3,h4,h5,h6,h7⟩:=hfr
 dsimp only at hmode htodo h1 h2 h3 h4 h5 h6 h7
 subst hmode htodo h1
 cases h5
 cases h3 with
 | @cons _ itm _ k' hi ht =>
 cases hi
 have hy:=yielded_R ops h2
 dsimp only at hwant
 have hk:nextA (⟨xf,xt,.inRegion ops (i :: is) :: rest,xr,.run,xk,xo⟩:Frame) cs P (.value u)=some ((⟨xf,xt,.inRegion ops (i :: is) :: rest,xr,.run,xk,xo⟩:Frame).finish u,cs):=rfl
 obtain⟨f2',c2',k1,k2,k3⟩:=next_sound (P:=P) (hall.fr.mono g2 g3) (hcs.imp fun _ _ h=>h.mono g2 g3) (.value g5) hk
 have g1':(execOp (actOf ⟨xf,yt,.inRegion ops (i :: is) :: k',yr,.run,yk,yo⟩).eval ⟨dst,.next x false,ty,pos,after,guard⟩).run P w=.ok (.value u') w':=by
  have e:execOp (actOf ⟨xf,yt,.inRegion ops (i :: is) :: k',yr,.run,yk,yo⟩).eval ⟨dst,.next x false,ty,pos,after,guard⟩ =
    (Instr.next ((actOf ⟨xf,yt,.inRegion ops (i :: is) :: k',yr,.run,yk,yo⟩).eval x) false ty).bind fun v=>Sem.pure (.value v):=rfl
  rw [e,Sem.run_bind',hrun,g1]
  rfl
 refine⟨f2',c2',w',ρ',step_lone_go ?_,g2,g3,gp,⟨hbase.mono g2 g3,g4,k2,k3⟩⟩
 have hap:=apply_step (P:=P) (bs:=bs) g1' k1 (fun _ _ _ _ h=>by cases h) h6.self (mode_cs hcs)
 rw [← hap]
 have hex:stepG P true { frame:=⟨xf,yt,.inRegion ops (i :: is) :: k',yr,.run,yk,yo⟩,callers:=cs'++bs,status:=.running,dying:=none } w =
   stepG.oper P true ⟨xf,yt,.inRegion ops (i :: is) :: k',yr,.run,yk,yo⟩ (cs'++bs) none w:=by
  simp [stepG,stepG.exec,ho,← hy,hwant]
 rw [hex]
 unfold stepG.oper
 simp only [Frame.oper?,ho]
 rw [eval_act]
def isV (v:Value):Value→AState→Bool:=fun u _=>closedV 64 u && eqV 64 u v
end
end Go.Eng
namespace Go.Eng
open Go Go.RowKit
section
variable {P:Program}{B:Nat}{w0:World}{q:Bool}{ρ:Ren}{n:Nat}
end
end Go.Eng
namespace Go.Eng
open Go Go.RowKit
noncomputable def storeB {β:Type}(a:Addr) (v:Value) (ih:AState→Option β) (S:AState):Option β:=match oneCell v with
  | true=>match Nat.ble S.prot a.block with
   | true=>match S.heap.get a.block with
    | some (.cells c n e lo hi g) =>
     match a.spot.isNone && Nat.ble (a.off+1) n && Nat.ble lo hi && !(Nat.ble lo a.off && Nat.ble (a.off+1) hi) with
     | true=>ih (S.set a.block (.cells (c.set a.off (some v)) n e lo hi g))
     | false=>none
    | _=>none
   | false=>none
  | false=>none
noncomputable def newB {β:Type}(o:Obj) (ih:Nat→AState→Option β) (S:AState):Option β:=match okNew o with
  | true=>ih S.next (S.push (.of o))
  | false=>none
noncomputable def shapeB {β:Type}(r:Nat) (ih:Option (TypeId×Nat)→AState→Option β) (S:AState):Option β:=match S.heap.get r with
  | some (.cells _ n e _ _ false)=>ih (some (e,n)) S
  | some (.cells _ _ _ _ _ true)=>none
  | some _=>ih none S
  | none=>none
noncomputable def getObjB {β:Type}(r:Nat) (ih:Obj→AState→Option β) (S:AState):Option β:=match S.heap.get r with
  | some (.rest o)=>ih o S
  | some (.cells ..)=>none
  | none=>none
noncomputable def setObjB {β:Type}(r:Nat) (o:Obj) (ih:AState→Option β) (S:AState):Option β:=match Nat.ble S.prot r with
  | true=>match S.heap.get r with
   | some (.cells ..)=>none
   | some (.rest _)=>match o with
    | .cells _ _ _=>none
    | o=>match okNew o with
     | true=>ih (S.set r (.rest o))
     | false=>none
   | none=>none
  | false=>none
noncomputable def loadB {β:Type}(a:Addr) (ih:Value→AState→Option β) (S:AState):Option β:=match cellA S a with
  | some v=>ih v S
  | none=>none
noncomputable def chooseB {β:Type}(q:Question) (ih:Nat→AState→Option β) (S:AState):Option β:=match q.forced with
  | true=>ih 0 S
  | false=>none
noncomputable def runB {α:Type}(P:Program) (t:Sem α):AState→Option (α×AState) :=
 Sem.rec (motive:=fun _=>AState→Option (α×AState)) (fun a S=>some (a,S)) (fun _ a _ ih=>loadB a ih) (fun _ a v _ ih=>storeB a v ih) (fun o _ ih=>newB o ih) (fun r _ ih=>shapeB r ih)
  (fun _ _ _ _ _=>none) (fun _ _ _ _=>none) (fun r _ ih=>getObjB r ih) (fun r o _ ih=>setObjB r o ih) (fun q _ ih=>chooseB q ih) (fun _ _ _ _=>none) (fun _ ih=>ih P) (fun _ _ ih=>ih) (fun _ _=>none) t
theorem runB_eq {α:Type}(P:Program) (t:Sem α):∀S,runB P t S=runA P t S:=by
 induction t with
 | pure a=>intro S;rfl
 | load m a k ih =>
  intro S
  show loadB a (fun v=>runB P (k v)) S=_
  unfold loadB
  simp only [ih,runA]
  rfl
 | store m a v k ih =>
  intro S
  show storeB a v (runB P k) S=_
  unfold storeB
  simp only [ih,runA]
  rfl
 | new o k ih =>
  intro S
  show newB o (fun v=>runB P (k v)) S=_
  unfold newB
  simp only [ih,runA]
  rfl
 | shape r k ih =>
  intro S
  show shapeB r (fun v=>runB P (k v)) S=_
  unfold shapeB
  simp only [ih,runA]
  rfl
 | freeze a n k ih=>intro S;rfl
 | frozen a k ih=>intro S;rfl
 | getObj r k ih =>
  intro S
  show getObjB r (fun v=>runB P (k v)) S=_
  unfold getObjB
  simp only [ih,runA]
  rfl
 | setObj r o k ih =>
  intro S
  show setObjB r o (runB P k) S=_
  unfold setObjB
  simp only [ih,runA]
  rfl
 | choose q k ih =>
  intro S
  show chooseB q (fun v=>runB P (k v)) S=_
  unfold chooseB
  simp only [ih,runA]
  rfl
 | sys c k ih=>intro S;rfl
 | program k ih=>intro S;exact ih P S
 | mark m k ih=>intro S;exact ih S
 | halt h=>intro S;rfl
noncomputable def cycQ (full:List Value) (n:Nat):List Value→List Value:=Nat.rec (motive:=fun _=>List Value→List Value) (fun _=>[]) (fun _ ih cur=>match cur with
 | []=>match full with
  | []=>default :: ih []
  | x :: r=>x :: ih r
 | x :: r=>x :: ih r) n
noncomputable def rowQ (n:Nat) (z:Array Value):Array Value:=⟨cycQ z.toList n z.toList⟩
theorem cycQ_nil (z:Array Value) (h0:z.size=0):∀n i,cycQ [] n []=(List.range' i n).map fun i=>z[i % z.size]!:=by
 intro n
 induction n with
 | zero=>intro i;rfl
 | succ n ih =>
  intro i
  rw [List.range'_succ,List.map_cons,← ih (i+1)]
  have h1:z[i % z.size]! = default:=by
   rw [getElem!_neg]
   rw [h0]
   omega
  rw [h1]
  rfl
theorem cycQ_eq (z:Array Value) (h0:0<z.size):∀n i j,j≤z.size→j % z.size=i % z.size→cycQ z.toList n (z.toList.drop j)=(List.range' i n).map fun i=>z[i % z.size]!:=by
 intro n
 induction n with
 | zero=>intro i j _ _;rfl
 | succ n ih =>
  intro i j hj hm
  rw [List.range'_succ,List.map_cons]
  have hlt:i % z.size<z.size:=Nat.mod_lt _ h0
  have hl:z.toList.length=z.size:=by simp
  have hstep:z.toList[i % z.size]'(by rw [hl];exact hlt) :: cycQ z.toList n (z.toList.drop (i % z.size+1))=z[i % z.size]! :: (List.range' (i+1) n).map fun i=>z[i % z.size]!:=by
   rw [ih (i+1) (i % z.size+1) (by omega) (by rw [Nat.add_mod,Nat.mod_mod,← Nat.add_mod])]
   rw [getElem!_pos z (i % z.size) hlt]
   rfl
  have hd:z.toList.drop (i % z.size)=z.toList[i % z.size]'(by rw [hl];exact hlt) :: z.toList.drop (i % z.size+1):=List.drop_eq_getElem_cons (by rw [hl];exact hlt)
  rw [← hstep]
  rcases Nat.lt_or_ge j z.size with hjl | hjl
  ·rw [Nat.mod_eq_of_lt hjl] at hm
   rw [hm,hd]
   rfl
  ·have hje:j=z.size:=by omega
   have h00:i % z.size=0:=by rw [← hm,hje,Nat.mod_self]
   rw [List.drop_of_length_le (by rw [hl];omega)]
   generalize i % z.size=k at *
   subst h00
   rw [List.drop_zero] at hd
   generalize List.drop (0+1) z.toList=t at *
   generalize z.toList[0]'(by rw [hl];exact hlt)=y at *
   show (match z.toList with
    | []=>default :: cycQ z.toList n []
    | x :: r=>x :: cycQ z.toList n r)=_
   rw [hd]
theorem rowQ_eq (n:Nat) (z:Array Value):((Array.range n).map fun x=>z[x % z.size]!)=rowQ n z:=by
 apply Array.ext'
 rw [Array.toList_map,Array.toList_range]
 show _=cycQ z.toList n z.toList
 rcases Nat.eq_zero_or_pos z.size with h0 | h0
 ·have hl:z.toList=[]:=List.eq_nil_of_length_eq_zero (by simpa using h0)
  rw [hl,cycQ_nil z h0 n 0,List.range_eq_range']
 ·rw [List.range_eq_range',← cycQ_eq z h0 n 0 0 (Nat.zero_le _) rfl]
  rfl
noncomputable def makeQ (t:TypeId) (v u:Value):{s:Sem Value // Instr.makeSlice t v u=s}:=by
 refine⟨?s,?h⟩
 case h =>
  unfold Instr.makeSlice
  simp only [rowQ_eq]
  exact rfl
theorem makeQ_val (t:TypeId) (v u:Value):(makeQ t v u).1=Instr.makeSlice t v u:=(makeQ t v u).2.symm
noncomputable def opG (o:Op):Act→(Call→Sem Next)→Sem Next :=
 match o with
 | .move x=>fun a _=>(getV a x).bind fun v=>Sem.pure (.value v)
 | .assign x=>fun a _=>(getV a x).bind fun v=>Sem.pure (.value v)
 | .pick c x y=>fun a _=>(getV a c).bind fun c=>(asBool c).bind fun t=>match t with
  | true=>(getV a x).bind fun v=>Sem.pure (.value v)
  | false=>(getV a y).bind fun v=>Sem.pure (.value v)
 | .alloc e=>fun _ _=>val (Instr.alloc e true (.tuple #[]))
 | .box e x=>fun a _=>(getV a x).bind fun v=>val (Instr.box e v)
 | .build t ps=>fun a _=>(getPs a ps.toList).bind fun l=>val (buildF t l)
 | .buildSlice t len ps=>fun a _=>(getPs a ps.toList).bind fun l=>val (buildSliceF t len l)
 | .load t x=>fun a _=>(getV a x).bind fun v=>val (loadAtA t v)
 | .store t x y=>fun a _=>(getV a x).bind fun v=>(getV a y).bind fun u=>(Instr.storeAt t v u).bind fun _=>Sem.pure .skip
 | .nilCheck x=>fun a _=>(getV a x).bind fun v=>nilA v
 | .binOp op t x y _=>fun a _=>(getV a x).bind fun v=>(getV a y).bind fun u=>val (binA op t x y v u)
 | .unOp op _ x=>fun a _=>(getV a x).bind fun v=>val (unA op v)
 | .convert s d x=>fun a _=>(getV a x).bind fun v=>val (convertA s d v)
 | .makeInterface t x=>fun a _=>(getV a x).bind fun v=>val (Instr.makeInterface t v)
 | .makeFunc fn first captured=>fun a _=>match okFn fn with
  | true=>(getVs a first.toList).bind fun x=>(getVs a captured.toList).bind fun y=>val (Instr.makeFunc fn x.toArray y.toArray)
  | false=>stuck ""
 | .makeSlice t l c=>fun a _=>(getV a l).bind fun v=>(getV a c).bind fun u=>val (makeQ t v u).1
 | .slice t x lo hi mx=>fun a _=>(getV a x).bind fun v=>(getO a lo).bind fun l=>(getO a hi).bind fun h=>(getO a mx).bind fun m=>val (sliceA t v l h m)
 | .fieldAddr s x f=>fun a _=>(getV a x).bind fun v=>val (fieldAtA s v f)
 | .field t x f=>fun a _=>(getV a x).bind fun v=>val (fieldF t v f)
 | .indexAddr t x i=>fun a _=>(getV a x).bind fun v=>(getV a i).bind fun u=>val (Instr.indexAt t v u)
 | .sliceToArrayPointer t x=>fun a _=>(getV a x).bind fun v=>val (arrayAtA t v)
 | .index t x i=>fun a _=>(getV a x).bind fun v=>(getV a i).bind fun u=>val (indexF t v u)
 | .typeAssert x t u ok=>fun a _=>(getV a x).bind fun v=>val (Instr.typeAssert v t u ok)
 | .extract x i=>fun a _=>(getV a x).bind fun v=>val (Instr.extract v i)
 | .call c=>fun _ h=>h c
 | .defer c=>fun a _=>deferA a c
 | .makeMap t r=>fun a _=>(getO a r).bind fun h=>val (Instr.makeMap t h)
 | .lookup t x i ok=>fun a _=>(getV a x).bind fun v=>(getV a i).bind fun u=>val (lookupA t v u ok)
 | .mapUpdate t m k x=>fun a _=>(getV a m).bind fun v=>(getV a k).bind fun u=>(getV a x).bind fun y=>(mapUpdateA t v u y).bind fun _=>Sem.pure .skip
 | .insert t m k x=>fun a _=>(getV a m).bind fun v=>(getV a k).bind fun u=>(getV a x).bind fun y=>(mapUpdateA t v u y).bind fun _=>Sem.pure .skip
 | .mapEntry t m k=>fun a _=>(getV a m).bind fun v=>(getV a k).bind fun u=>val (mapEntryA t v u)
 | .entryStore _ m s x=>fun a _=>(getV a m).bind fun v=>(getV a s).bind fun u=>(getV a x).bind fun y=>(entryStoreA v u y).bind fun _=>Sem.pure .skip
 | .range t x=>fun a _=>(getV a x).bind fun v=>val (rangeA t v)
 | .next x true=>fun a _=>(getV a x).bind fun v=>val (nextTextA v)
 | .entry x=>fun a _=>(getV a x).bind fun v=>val (entryA v)
 | _=>fun _ _=>stuck ""
noncomputable def opB {P:Program}(E:Env P) (a:Act) (o:Oper):Sem Next:=opG o.op a (callA E a)
theorem opB_eq {P:Program}(E:Env P) (a:Act) (o:Oper):opB E a o=opA E a o:=by
 obtain⟨dst,op,ty,pos,after,guard⟩:=o
 cases op
 case makeSlice t l c =>
  show ((getV a l).bind fun v=>(getV a c).bind fun u=>val (makeQ t v u).1)=_
  simp only [makeQ_val]
  rfl
 all_goals first | rfl | (rename_i x b;cases b<;>rfl)
end Go.Eng
