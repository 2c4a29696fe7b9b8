/- The closed run of a Go program whose memory is known only up to a renaming of blocks: what it computes is true of every world and tape. No conditions. -/
import Derived.Test.YtejeflddeanccaaGreatDoorEng0
import Derived.Laws.Append
import Derived.Laws.AppendOwn
import Derived.WalkKit
import Derived.Deep.Quiet
import Derived.Orders
set_option linter.unusedSimpArgs false
set_option linter.unusedVariables false
set_option linter.deprecated false
set_option linter.unnecessarySimpa false
namespace Go.Eng
open Go Go.RowKit
def plainKey:TypeDesc→Bool
 | .int _ | .string | .bool=>true
 | _=>false
def structKey:TypeDesc→Bool
 | .struct _=>true
 | _=>false
noncomputable def keyA (t:TypeId) (k:Value):Sem TypeDesc:=(underlying t).bind fun d=>match plainKey d with
 | true=>Sem.pure d
 | false=>match structKey d && closedV 64 k with
  | true=>(Instr.checkKey false 10000 t k).bind fun _=>(Instr.checkKey true 10000 t k).bind fun _=>Sem.pure d
  | false=>stuck ""
noncomputable def findSA (t:TypeId) (k:Value):List MapEntry→Nat→Sem (Option (Nat×Value))
 | [],_=>Sem.pure none
 | e :: es,i=>match closedV 64 e.key with
  | true=>(Op.equal t k e.key).bind fun b=>match b with
   | true=>match Instr.sameBits 10000 e.key k with
    | true=>Sem.pure (some (i,e.val))
    | false=>stuck ""
   | false=>findSA t k es (i+1)
  | false=>stuck ""
noncomputable def findA (t:TypeId) (kd:TypeDesc) (k:Value) (es:List MapEntry):Sem (Option (Nat×Value)):=match plainKey kd with
 | true=>match Instr.findNow kd k es 0 with
  | some r=>Sem.pure r
  | none=>stuck ""
 | false=>findSA t k es 0
noncomputable def lookupA (xt:TypeId) (x i:Value) (ok:Bool):Sem Value:=(underlying xt).bind fun d=>match d with
 | .map key elem=>(keyA key i).bind fun kd=>match x with
  | .map none=>(zeroValue elem).bind fun z=>Sem.pure (if ok=true then .tuple #[z,.bool false] else z)
  | .map (some r)=>(getObj r).bind fun o=>match o with
   | .map es _=>(findA key kd i es.toList).bind fun f=>match f with
    | some (_,v)=>Sem.pure (if ok=true then .tuple #[v,.bool true] else v)
    | none=>(zeroValue elem).bind fun z=>Sem.pure (if ok=true then .tuple #[z,.bool false] else z)
   | _=>stuck ""
  | _=>stuck ""
 | _=>stuck ""
noncomputable def mapUpdateA (xt:TypeId) (x i v:Value):Sem Unit:=(underlying xt).bind fun d=>match d with
 | .map key _=>(keyA key i).bind fun kd=>match x with
  | .map (some r)=>(getObj r).bind fun o=>match o with
   | .map es clock=>(findA key kd i es.toList).bind fun f=>match f with
    | some (j,_)=>(setObj r (.map (es.modify j fun e=>{ key:=i,val:=v,born:=e.born }) clock)).bind fun _=>Sem.pure ()
    | none=>(setObj r (.map (es.push { key:=i,val:=v,born:=clock }) (clock+1))).bind fun _=>Sem.pure ()
   | _=>stuck ""
  | _=>stuck ""
 | _=>stuck ""
noncomputable def mapEntryA (xt:TypeId) (x i:Value):Sem Value:=(underlying xt).bind fun d=>match d with
 | .map key elem=>(keyA key i).bind fun kd=>match x with
  | .map (some r)=>(getObj r).bind fun o=>match o with
   | .map es clock=>(findA key kd i es.toList).bind fun f=>match f with
    | some (j,v)=>(setObj r (.map (es.modify j fun e=>{ key:=i,val:=e.val,born:=e.born }) clock)).bind fun _=>Sem.pure (.tuple #[v,goInt (((es[j]?).map (·.born)).getD 0)])
    | none=>(zeroValue elem).bind fun z=>(setObj r (.map (es.push { key:=i,val:=z,born:=clock }) (clock+1))).bind fun _=>Sem.pure (.tuple #[z,goInt clock])
   | _=>stuck ""
  | _=>stuck ""
 | _=>stuck ""
noncomputable def entryStoreA (x stamp v:Value):Sem Unit:=match x with
 | .map (some r)=>(getObj r).bind fun o=>match o with
  | .map es clock=>(asInt stamp).bind fun born=>match es.toList.findIdx? (fun e=>(e.born:Int) == born) with
   | some j=>(setObj r (.map (es.modify j fun e=>{ key:=e.key,val:=v,born:=e.born }) clock)).bind fun _=>Sem.pure ()
   | none=>stuck ""
  | _=>stuck ""
 | _=>stuck ""
noncomputable def deleteA (ts:Array TypeId) (x:Array Value):Sem Value:=match ts[0]?,x[0]?,x[1]? with
 | some t,some m,some i=>(underlying t).bind fun d=>match d with
  | .map key _=>(keyA key i).bind fun kd=>match m with
   | .map none=>Sem.pure (.tuple #[])
   | .map (some r)=>(getObj r).bind fun o=>match o with
    | .map es clock=>(findA key kd i es.toList).bind fun f=>match f with
     | some (j,_)=>(setObj r (.map (es.eraseIdxIfInBounds j) clock)).bind fun _=>Sem.pure (.tuple #[])
     | none=>(setObj r (.map es clock)).bind fun _=>Sem.pure (.tuple #[])
    | _=>stuck ""
   | _=>stuck ""
  | _=>stuck ""
 | _,_,_=>stuck ""
noncomputable def rangeA (xt:TypeId) (x:Value):Sem Value:=(underlying xt).bind fun d=>match d,x with
 | .string,.string s=>(newObj (.stringIter s 0)).bind fun r=>Sem.pure (.pointer (some ⟨r,0,none⟩))
 | .map _ _,.map none=>(newObj (.mapIter none 0 #[] 0)).bind fun r=>Sem.pure (.pointer (some ⟨r,0,none⟩))
 | .map _ _,.map (some m)=>(getObj m).bind fun o=>match o with
  | .map _ clock=>(newObj (.mapIter (some m) clock #[] clock)).bind fun r=>Sem.pure (.pointer (some ⟨r,0,none⟩))
  | _=>stuck ""
 | _,_=>stuck ""
noncomputable def nextTextA (it:Value):Sem Value:=match it with
 | .pointer (some ⟨r,0,none⟩)=>(getObj r).bind fun o=>match o with
  | .stringIter s pos=>match Nat.ble (pos+1) s.size with
   | true=>(setObj r (.stringIter s (pos+(Utf8.decode s pos).2))).bind fun _=>Sem.pure (.tuple #[.bool true,goInt pos,.int .i32 (Utf8.decode s pos).1])
   | false=>Sem.pure (.tuple #[.bool false])
  | _=>stuck ""
 | _=>stuck ""
noncomputable def entryA (it:Value):Sem Value:=match it with
 | .pointer (some ⟨r,0,none⟩)=>(getObj r).bind fun o=>match o with
  | .mapIter (some m) _ seen stepped=>match seen.back? with
   | some stamp=>(getObj m).bind fun o=>match o with
    | .map es clock=>match clock == stepped with
     | true=>match es.toList.find? (·.born == stamp) with
      | some e=>Sem.pure (.tuple #[e.key,e.val])
      | none=>stuck ""
     | false=>stuck ""
    | _=>stuck ""
   | none=>stuck ""
  | _=>stuck ""
 | _=>stuck ""
section
variable {P:Program}{B:Nat}{w0:World}{q:Bool}{ρ:Ren}{n:Nat}
theorem Sim.setObj {α β:Type}{R:Ren→Nat→α→β→Prop}{r:Nat}{o o':Obj}{k:Sem α}{k':Sem β}(hr:r<n) (ho:∀d,ObjR P ρ n d (.rest o) o')
  (h:Sim P B w0 false R ρ n k k'):Sim P B w0 false R ρ n ((Go.setObj r o).bind fun _=>k) ((Go.setObj (ρ.f r) o').bind fun _=>k'):=by
 intro ρ1 S w he hn hw a S' hrun
 simp only [Go.setObj,Sem.bind,runA] at hrun
 split at hrun
 case h_2=>cases hrun
 rename_i hp
 split at hrun
 ·cases hrun
 ·rename_i x hget
  split at hrun
  ·cases hrun
  ·rename_i hoc
   split at hrun
   case h_2=>cases hrun
   obtain⟨hlt,ox,hox,hob⟩:=hw.obj _ _ hget
   have e:ρ.f r=ρ1.f r:=(he r hr).1.symm
   have hnc':∀c e fz,ox≠.cells c e fz:=by
    intro c e fz h
    subst h
    generalize ρ1.d r=d at hob
    cases hob
   have hwset:=hw.set (o2:=.rest o) (o2':=o') (w':={ w with heap:=w.heap.setIfInBounds (ρ1.f r) o' }) hget (Nat.le_of_ble_eq_true hp) ((ho (ρ1.d r)).mono he hn) rfl rfl rfl (by simp)
    (by
     have:=hw.rng r hlt
     simp [this]) (fun j hj=>by
     simp only
     rw [Array.getElem?_setIfInBounds_ne (by omega)])
   obtain⟨b,w',ρ2,g1,g2,g3,gp,g4,g5,_⟩:=h ρ1 _ _ he (by simpa [AState.set_eq] using hn) hwset a S' hrun
   refine⟨b,w',ρ2,?_,g2,g3,gp,g4,g5,fun h=>by cases h⟩
   simp only [Go.setObj,Sem.bind,Sem.run,e,hox]
   cases ox with
   | cells c e fz=>exact (hnc' c e fz rfl).elim
   | _=>exact g1
 ·cases hrun
theorem Sim.setObjU {r:Nat}{o o':Obj}(hr:r<n) (ho:∀d,ObjR P ρ n d (.rest o) o'):Sim P B w0 false EqR ρ n ((Go.setObj r o).bind fun _=>Sem.pure ()) (Go.setObj (ρ.f r) o'):=by
 have h:=Sim.setObj (B:=B) (w0:=w0) hr ho (Sim.pure (P:=P) (B:=B) (w0:=w0) (q:=false) (ρ:=ρ) (n:=n) (R:=EqR) mono_E (show EqR ρ n () () from rfl))
 exact h
theorem HF.checkKey (e:Bool):∀(n:Nat) (t:TypeId) (v:Value),HF P (Instr.checkKey e n t v)
 | 0,_,_=>HF.halt _
 | n+1,t,v=>by
  unfold Instr.checkKey
  simp only [bind_eq,pure_eq]
  refine HF.bind (HF.underlying t) fun d=>?_
  split
  ·refine HF.bind (HF.typeInfo _) fun info=>?_
   split
   ·split
    ·exact HF.bind (HF.rpanic _) fun _=>HF.bind (HF.typeStr _) fun _=>HF.bind (HF.rpanic _) fun _=>HF.checkKey e n _ _
    ·exact HF.bind (HF.typeStr _) fun _=>HF.bind (HF.rpanic _) fun _=>HF.checkKey e n _ _
   ·exact HF.checkKey e n _ _
  ·exact HF.bind (HF.forInR _ _ _ fun a s=>HF.bind (HF.sizeOf _) fun _=>HF.bind (HF.part _ _ _) fun c=>HF.bind (HF.checkKey e n _ _) fun _=>HF.pure _) fun _=>HF.pure _
  ·refine HF.bind (HF.forInA _ _ _ fun a s=>?_) fun _=>HF.pure _
   split
   ·exact HF.bind (HF.part _ _ _) fun c=>HF.bind (HF.checkKey e n _ _) fun _=>HF.pure _
   ·exact HF.pure _
  ·exact HF.pure _
  ·exact HF.halt _
  ·exact HF.halt _
  ·exact HF.halt _
  ·exact HF.pure _
def KeyOk (P:Program) (t:TypeId) (d:TypeDesc) (k:Value):Prop :=
 plainKey d=true∨(plainKey d=false∧structKey d=true∧closedV 64 k=true∧∀e w,(Instr.checkKey e 10000 t k).run P w=.ok () w)
theorem Sim.lhf {α α' β:Type}{R:Ren→Nat→α→β→Prop}{s:Sem α'}{k:α'→Sem α}{t':Sem β}(hf:HF P s)
  (h:∀a,(∀w,s.run P w=.ok a w)→Sim P B w0 q R ρ n (k a) t'):Sim P B w0 q R ρ n (s.bind k) t':=by
 intro ρ1 S w he hn hw a S' hr
 rw [runA_bind] at hr
 split at hr
 ·rename_i b S1 h1
  obtain⟨rfl,h2⟩:=hf _ _ _ h1
  exact h b h2 ρ1 S1 w he hn hw a S' hr
 ·cases hr
theorem Sim.rrun {α β β':Type}{R:Ren→Nat→α→β→Prop}{s:Sem β'}{k:β'→Sem β}{t:Sem α}{b:β'}(hf:∀w,s.run P w=.ok b w)
  (h:Sim P B w0 q R ρ n t (k b)):Sim P B w0 q R ρ n t (s.bind k):=by
 intro ρ1 S w he hn hw a S' hr
 obtain⟨b,w',ρ2,g1,g2⟩:=h ρ1 S w he hn hw a S' hr
 exact⟨b,w',ρ2,by rw [Sem.run_bind',hf];exact g1,g2⟩
theorem Sim.keyA {α β:Type}{R:Ren→Nat→α→β→Prop}{t:TypeId}{key:Value}{k:TypeDesc→Sem α}{t':Sem β}
  (h:∀d,P.underlying t=some d→KeyOk P t d key→Sim P B w0 q R ρ n (k d) t'):Sim P B w0 q R ρ n ((Go.Eng.keyA t key).bind k) t':=by
 unfold Go.Eng.keyA
 rw [Sem.bind_assoc']
 cases hu:P.underlying t with
 | none=>exact Sim.un hu
 | some d =>
  refine Sim.ul hu ?_
  cases hp:plainKey d with
  | true=>exact h d hu (.inl hp)
  | false =>
   dsimp only
   split
   ·rename_i hc
    rw [Bool.and_eq_true] at hc
    rw [Sem.bind_assoc']
    refine Sim.lhf (HF.checkKey _ _ _ _) fun _ h1=>?_
    rw [Sem.bind_assoc']
    refine Sim.lhf (HF.checkKey _ _ _ _) fun _ h2=>?_
    exact h d hu (.inr ⟨hp,hc.1,hc.2,fun e w=>by cases e;exact h1 w;exact h2 w⟩)
   ·exact Sim.haltBind
theorem Sim.checkKey {α β:Type}{R:Ren→Nat→α→β→Prop}{t:TypeId}{d:TypeDesc}{key:Value}(hu:P.underlying t=some d) (hp:KeyOk P t d key) {e:Bool}{v:Value}(hv:VR ρ n key v) {k:Unit→Sem β}{t':Sem α}
  (h:Sim P B w0 q R ρ n t' (k ())):Sim P B w0 q R ρ n t' ((Instr.checkKey e 10000 t v).bind k):=by
 rcases hp with hp|⟨_,_,hc,hr⟩
 ·rw [show (10000:Nat)=9999+1 from rfl]
  unfold Instr.checkKey
  simp only [bind_eq,pure_eq]
  rw [Sem.bind_assoc']
  refine Sim.ur hu ?_
  cases d<;>first | (cases hp;done) | exact h
 ·rw [hv.closed hc]
  exact Sim.rrun (hr e) h
theorem LR.of_at {α β:Type}{R:α→β→Prop}:∀{l:List α}{l':List β},l.length=l'.length→(∀(i:Nat) (v:α) (v':β),l[i]?=some v→l'[i]?=some v'→R v v')→LR R l l'
 | [],[],_,_=>.nil
 | [],_ :: _,h,_=>by simp at h
 | _ :: _,[],h,_=>by simp at h
 | a :: l,b :: l',h,hh=>.cons (hh 0 a b (by simp) (by simp)) (LR.of_at (by simpa using h) fun i v v' h1 h2=>hh (i+1) v v' (by simpa using h1) (by simpa using h2))
theorem EntsR.list {x y:Array MapEntry}(h:EntsR ρ n x y):LR (EntR ρ n) x.toList y.toList :=
 LR.of_at (by simpa using h.size) fun i v v' h1 h2=>h.at_ i v v' (by simpa using h1) (by simpa using h2)
theorem sameNow_rel {d:TypeDesc}{k k' x x':Value}(hk:VR ρ n k k') (hx:VR ρ n x x') {b:Bool}(h:Instr.sameNow d k x=some b) :
  Instr.sameNow d k' x'=some b∧(b=true→k=x∧k=k'∧x=x'∧Instr.keyThatStays k k=Sem.pure k):=by
 have stays:∀v,Instr.sameBits 10000 v v=true→Instr.keyThatStays v v=Sem.pure v:=by
  intro v hv
  unfold Instr.keyThatStays
  rw [if_pos hv]
  rfl
 have bb:∀s t:ByteArray,(s == t)=true→s=t:=fun s t h=>by
  obtain⟨a⟩:=s
  obtain⟨c⟩:=t
  have:(a == c)=true:=h
  rw [eq_of_beq this]
 have br:∀s:ByteArray,(s == s)=true:=fun s=>by
  obtain⟨a⟩:=s
  exact (show (a == a)=true from beq_self_eq_true a)
 cases hk<;>cases hx<;>cases d<;>simp only [Instr.sameNow] at h ⊢<;>first
  | (cases h;done)
  | (refine⟨h,fun hb=>?_⟩
     subst hb
     first
      | (have e:=bb _ _ (Option.some.inj h);subst e;refine⟨rfl,?_,?_,?_⟩<;>first | trivial | exact stays _ (br _))
      | (have e:=eq_of_beq (Option.some.inj h);subst e;refine⟨rfl,?_,?_,?_⟩<;>first | trivial | exact stays _ (beq_self_eq_true _))
      | (split at h
         ·rename_i hkk
          subst hkk
          have e:=eq_of_beq (Option.some.inj h)
          subst e
          refine⟨rfl,?_,?_,?_⟩<;>first | trivial | exact stays _ (by simp [Instr.sameBits])
         ·cases h))
theorem findNow_rel {d:TypeDesc}{k k':Value}(hk:VR ρ n k k') {l l':List MapEntry}(hl:LR (EntR ρ n) l l'):∀(i:Nat) {r:Option (Nat×Value)},Instr.findNow d k l i=some r →
  match r with
  | none=>Instr.findNow d k' l' i=some none
  | some (j,v)=>∃v',Instr.findNow d k' l' i=some (some (j,v'))∧VR ρ n v v'∧i≤j∧(∃e,l[j-i]?=some e∧e.key=k)∧(∃e,l'[j-i]?=some e∧e.key=k')∧Instr.keyThatStays k' k'=Sem.pure k':=by
 induction hl with
 | nil=>intro i r h;simp only [Instr.findNow,Option.some.injEq] at h;subst h;rfl
 | @cons a b l m hab ht ih =>
  intro i r h
  unfold Instr.findNow at h
  split at h
  ·rename_i hs
   obtain⟨h1,h2⟩:=sameNow_rel hk hab.key hs
   obtain⟨e1,e2,e3,e4⟩:=h2 rfl
   cases h
   refine⟨b.val,?_,hab.val,Nat.le_refl _,⟨a,by simp,e1.symm⟩,⟨b,by simp,by rw [← e3,← e1,e2]⟩,by rw [← e2];exact e4⟩
   unfold Instr.findNow
   rw [h1]
  ·rename_i hs
   obtain⟨h1,_⟩:=sameNow_rel hk hab.key hs
   have:=ih (i+1) h
   cases r with
   | none =>
    dsimp only at this ⊢
    unfold Instr.findNow
    rw [h1]
    exact this
   | some jv =>
    obtain⟨j,v⟩:=jv
    dsimp only at this ⊢
    obtain⟨v',g1,g2,g3,⟨e,g4,g5⟩,⟨e',g6,g7⟩,g8⟩:=this
    refine⟨v',?_,g2,by omega,⟨e,?_,g5⟩,⟨e',?_,g7⟩,g8⟩
    ·unfold Instr.findNow
     rw [h1]
     exact g1
    ·rw [show j-i=(j-(i+1))+1 by omega];simpa using g4
    ·rw [show j-i=(j-(i+1))+1 by omega];simpa using g6
  ·cases h
theorem Sim.findS {α β:Type}{R:Ren→Nat→α→β→Prop}{t:TypeId}{k:Value}(hc:closedV 64 k=true)
  {f:Option (Nat×Value)→Sem α}{f':Option (Nat×Value)→Sem β}(h0:Sim P B w0 q R ρ n (f none) (f' none)) {l l':List MapEntry}(hl:LR (EntR ρ n) l l'):∀(i:Nat)
  (_h1:∀j v v' e e',VR ρ n v v'→i≤j→l[j-i]?=some e→l'[j-i]?=some e'→Instr.keyThatStays e'.key k=Sem.pure k→Sim P B w0 q R ρ n (f (some (j,v))) (f' (some (j,v')))),
  Sim P B w0 q R ρ n ((findSA t k l i).bind f) ((Instr.findAsking t k l' i).bind f'):=by
 induction hl with
 | nil=>intro i _;exact h0
 | @cons a b l m hab ht ih =>
  intro i h1
  unfold findSA Instr.findAsking
  simp only [bind_eq,pure_eq]
  split
  ·rename_i hk
   have hbk:b.key=a.key:=hab.key.closed hk
   rw [Sem.bind_assoc',Sem.bind_assoc']
   refine Sim.lhf (HF.equal t k a.key hc hk) fun x hx=>?_
   rw [hbk]
   refine Sim.rrun hx ?_
   cases x with
   | true =>
    dsimp only
    split
    ·rename_i hs
     exact h1 i a.val b.val a b hab.val (Nat.le_refl _) (by simp) (by simp) (by rw [hbk];unfold Instr.keyThatStays;rw [if_pos hs];rfl)
    ·exact Sim.haltBind
   | false =>
    simp only [Bool.false_eq_true,if_false]
    refine ih (i+1) fun j v v' e e' hv hj g1 g2 g3=>?_
    refine h1 j v v' e e' hv (by omega) ?_ ?_ g3
    ·rw [show j-i=(j-(i+1))+1 by omega];simpa using g1
    ·rw [show j-i=(j-(i+1))+1 by omega];simpa using g2
  ·exact Sim.haltBind
theorem Sim.find {α β:Type}{R:Ren→Nat→α→β→Prop}{t:TypeId}{d:TypeDesc}(hu:P.underlying t=some d) {k k':Value}(hp:KeyOk P t d k) (hk:VR ρ n k k') {x y:Array MapEntry}(hl:EntsR ρ n x y)
  {f:Option (Nat×Value)→Sem α}{f':Option (Nat×Value)→Sem β}
  (h0:Sim P B w0 q R ρ n (f none) (f' none))
  (h1:∀j v v' e e',VR ρ n v v'→x[j]?=some e→y[j]?=some e'→Instr.keyThatStays e'.key k'=Sem.pure k'→Sim P B w0 q R ρ n (f (some (j,v))) (f' (some (j,v')))) :
  Sim P B w0 q R ρ n ((findA t d k x.toList).bind f) ((Instr.findKey t k' y.toList).bind f'):=by
 unfold findA Instr.findKey
 simp only [bind_eq,pure_eq]
 rw [Sem.bind_assoc']
 refine Sim.ur hu ?_
 rcases hp with hp|⟨hp,hs,hc,_⟩
 ·rw [hp]
  dsimp only
  cases hf:Instr.findNow d k x.toList 0 with
  | none=>exact Sim.haltBind
  | some r =>
   have:=findNow_rel (d:=d) hk hl.list 0 hf
   cases r with
   | none =>
    dsimp only at this
    rw [this]
    exact h0
   | some jv =>
    obtain⟨j,v⟩:=jv
    dsimp only at this
    obtain⟨v',g1,g2,g3,⟨e,g4,g5⟩,⟨e',g6,g7⟩,g8⟩:=this
    rw [g1]
    exact h1 j v v' e e' g2 (by simpa using g4) (by simpa using g6) (by rw [g7];exact g8)
 ·rw [hp]
  dsimp only
  have hkk:=hk.closed hc
  subst hkk
  have hll:=hl.list
  have main:=Sim.findS (t:=t) hc h0 hll 0 fun j v v' e e' hv _ g1 g2 g3=>h1 j v v' e e' hv (by simpa using g1) (by simpa using g2) g3
  generalize hy:y.toList=l' at *
  generalize x.toList=l at *
  cases hll with
  | nil =>
   simp only [Instr.findNow]
   exact h0
  | @cons a b l m hab ht =>
   have e0:Instr.findNow d k' (b :: m) 0=none:=by
    unfold Instr.findNow
    cases d<;>first | (cases hs;done) | (simp [Instr.sameNow])
   rw [e0]
   exact main
theorem sim_lookup (hz:ZeroOk P) (xt:TypeId) {x x' i i':Value}(ok:Bool) (hx:VR ρ n x x') (hi:VR ρ n i i'):Sim P B w0 q VRel ρ n (lookupA xt x i ok) (Instr.lookup xt x' i' ok):=by
 have fin:∀{ρ n}(elem:TypeId),Sim P B w0 q VRel ρ n ((zeroValue elem).bind fun z=>Sem.pure (if ok=true then .tuple #[z,.bool false] else z))
   ((zeroValue elem).bind fun z=>(Sem.pure (z,false)).bind fun x=>Sem.pure (if ok=true then Value.tuple #[x.1,Value.bool x.2] else x.1)):=by
  intro ρ n elem
  refine Sim.bind (sim_zeroValue hz elem) fun ρ1 n1 z z' _ _ hzz=>Sim.pure mono_V ?_
  dsimp only
  split
  ·have:=((ArrR.nil (ρ:=ρ1) (n:=n1)).push hzz).push (.bool false)
   exact .tuple this.size this.at_
  ·exact hzz
 have hit:∀{ρ n}{v v':Value},VR ρ n v v'→Sim P B w0 q VRel ρ n (Sem.pure (if ok=true then .tuple #[v,.bool true] else v))
   ((Sem.pure (v',true)).bind fun x=>Sem.pure (if ok=true then Value.tuple #[x.1,Value.bool x.2] else x.1)):=by
  intro ρ n v v' hv
  refine Sim.pure mono_V ?_
  dsimp only
  split
  ·have:=((ArrR.nil (ρ:=ρ) (n:=n)).push hv).push (.bool true)
   exact .tuple this.size this.at_
  ·exact hv
 unfold lookupA Instr.lookup
 simp only [bind_eq,pure_eq]
 cases hu:P.underlying xt with
 | none=>exact Sim.un hu
 | some d =>
 refine Sim.ul hu (Sim.ur hu ?_)
 cases d with
 | map key elem =>
  refine Sim.keyA fun kd hkd hp=>?_
  cases hx with
  | mapNil =>
   refine Sim.checkKey hkd hp hi ?_
   unfold Instr.findKey
   simp only [bind_eq,pure_eq]
   rw [Sem.bind_assoc']
   exact Sim.ur hkd (fin elem)
  | map r hr =>
   refine Sim.getObj hr fun ρ1 n1 dd o o' h1 h2 hob=>?_
   cases hob with
   | map he =>
    refine Sim.checkKey hkd hp (hi.mono h1 h2) ?_
    exact Sim.find hkd hp (hi.mono h1 h2) he (fin elem) fun j v v' e e' hv _ _ _=>hit hv
   | _=>exact Sim.halt
  | _=>exact Sim.halt
 | _=>exact Sim.halt
theorem EntsR.push {x y:Array MapEntry}(h:EntsR ρ n x y) {u v:MapEntry}(he:EntR ρ n u v):EntsR ρ n (x.push u) (y.push v):=by
 have hs:=h.size
 refine⟨by simpa using hs,fun i a b h1 h2=>?_⟩
 rw [Array.getElem?_push] at h1 h2
 by_cases hi:i=x.size
 ·rw [if_pos hi] at h1
  rw [if_pos (by omega)] at h2
  cases h1;cases h2;exact he
 ·rw [if_neg hi] at h1
  rw [if_neg (by omega)] at h2
  exact h.at_ i a b h1 h2
theorem EntsR.modify {x y:Array MapEntry}(h:EntsR ρ n x y) (j:Nat) {f f':MapEntry→MapEntry}(hf:∀u v,x[j]?=some u→y[j]?=some v→EntR ρ n u v→EntR ρ n (f u) (f' v)):EntsR ρ n (x.modify j f) (y.modify j f'):=by
 have hs:=h.size
 refine⟨by simpa using hs,fun i a b h1 h2=>?_⟩
 rw [Array.getElem?_modify] at h1 h2
 by_cases hi:j=i
 ·subst hi
  rw [if_pos rfl,Option.map_eq_some_iff] at h1 h2
  obtain⟨u,hu,rfl⟩:=h1
  obtain⟨v,hv,rfl⟩:=h2
  exact hf u v hu hv (h.at_ _ u v hu hv)
 ·rw [if_neg hi] at h1 h2
  exact h.at_ i a b h1 h2
inductive OR2 (ρ:Ren) (n:Nat):Option MapEntry→Option MapEntry→Prop
 | none:OR2 ρ n none none
 | some {a b:MapEntry}(h:EntR ρ n a b):OR2 ρ n (some a) (some b)
theorem sim_makeMap (t:TypeId) {r r':Option Value}(h:OR ρ n r r'):Sim P B w0 false VRel ρ n (Instr.makeMap t r) (Instr.makeMap t r'):=by
 have fin:∀{ρ n},Sim P B w0 false VRel ρ n ((newObj (.map #[] 0)).bind fun r=>Sem.pure (.map (some r))) ((newObj (.map #[] 0)).bind fun r=>Sem.pure (.map (some r))):=by
  intro ρ n
  exact Sim.new (.map ⟨rfl,fun i u v h1 _=>by simp at h1⟩) fun ρ1 n1 r _ _ hr _=>Sim.pure mono_V (.map r hr)
 unfold Instr.makeMap
 simp only [bind_eq,pure_eq]
 cases h with
 | none=>exact fin
 | some hv =>
  dsimp only
  refine Sim.bindE (sim_underlying t) fun ρ1 n1 d h1 h2=>?_
  cases d<;>first | exact Sim.halt | exact Sim.bindE (sim_asInt (hv.mono h1 h2)) fun _ _ _ _ _=>fin
theorem sim_mapUpdate (xt:TypeId) {x x' i i' v v':Value}(hx:VR ρ n x x') (hi:VR ρ n i i') (hv:VR ρ n v v'):Sim P B w0 false EqR ρ n (mapUpdateA xt x i v) (Instr.mapUpdate xt x' i' v'):=by
 unfold mapUpdateA Instr.mapUpdate
 simp only [bind_eq]
 cases hu:P.underlying xt with
 | none=>exact Sim.un hu
 | some d =>
 refine Sim.ul hu (Sim.ur hu ?_)
 cases d with
 | map key elem =>
  refine Sim.keyA fun kd hkd hp=>?_
  cases hx with
  | mapNil=>exact Sim.halt
  | map r hr =>
   refine Sim.getObj hr fun ρ1 n1 dd o o' h1 h2 hob=>?_
   rw [← (h1 r hr).1]
   have hi:=hi.mono h1 h2
   have hv:=hv.mono h1 h2
   cases hob with
   | map he =>
    refine Sim.checkKey hkd hp hi ?_
    refine Sim.find hkd hp hi he ?_ ?_
    ·dsimp only
     refine Sim.setObjU (by omega) (fun d=>.map (he.push ⟨hi,hv,rfl⟩))
    ·intro j u u' e e' hu g1 g3 g5
     dsimp only
     rw [g3,Option.map_some,Option.getD_some,g5]
     simp only [Sem.bind]
     exact Sim.setObjU (by omega) (fun d=>.map (he.modify j fun a b _ _ hab=>⟨hi,hv,hab.born⟩))
   | _=>exact Sim.halt
  | _=>exact Sim.halt
 | _=>exact Sim.halt
theorem sim_mapEntry (hz:ZeroOk P) (xt:TypeId) {x x' i i':Value}(hx:VR ρ n x x') (hi:VR ρ n i i'):Sim P B w0 false VRel ρ n (mapEntryA xt x i) (Instr.mapEntry xt x' i'):=by
 have two:∀{ρ n}{a a':Value}(m:Int),VR ρ n a a'→VR ρ n (.tuple #[a,goInt m]) (.tuple #[a',goInt m]):=by
  intro ρ n a a' m h
  have:=((ArrR.nil (ρ:=ρ) (n:=n)).push h).push (.int .i64 m)
  exact .tuple this.size this.at_
 unfold mapEntryA Instr.mapEntry
 simp only [bind_eq,pure_eq]
 cases hu:P.underlying xt with
 | none=>exact Sim.un hu
 | some d =>
 refine Sim.ul hu (Sim.ur hu ?_)
 cases d with
 | map key elem =>
  refine Sim.keyA fun kd hkd hp=>?_
  cases hx with
  | mapNil=>exact Sim.halt
  | map r hr =>
   refine Sim.getObj hr fun ρ1 n1 dd o o' h1 h2 hob=>?_
   rw [← (h1 r hr).1]
   have hi:=hi.mono h1 h2
   cases hob with
   | @map es es' clock _ he =>
    refine Sim.checkKey hkd hp hi ?_
    refine Sim.find hkd hp hi he ?_ ?_
    ·dsimp only
     refine Sim.bind (sim_zeroValue hz elem) fun ρ2 n2 z z' h3 h4 hzz=>?_
     rw [← (h3 r (by omega)).1]
     exact Sim.setObj (by omega) (fun d=>.map ((he.mono h3 h4).push ⟨hi.mono h3 h4,hzz,rfl⟩)) (Sim.pure mono_V (two _ hzz))
    ·intro j u u' e e' hu g1 g3 g5
     dsimp only
     rw [g1,g3]
     simp only [Option.map_some,Option.getD_some]
     rw [g5]
     simp only [Sem.bind]
     rw [show e.born=e'.born from (he.at_ j e e' g1 g3).born]
     exact Sim.setObj (by omega) (fun d=>.map (he.modify j fun a b _ _ hab=>⟨hi,hab.val,hab.born⟩)) (Sim.pure mono_V (two _ hu))
   | _=>exact Sim.halt
  | _=>exact Sim.halt
 | _=>exact Sim.halt
theorem sim_entryStore (xt:TypeId) {x x' i i' v v':Value}(hx:VR ρ n x x') (hi:VR ρ n i i') (hv:VR ρ n v v'):Sim P B w0 false EqR ρ n (entryStoreA x i v) (Instr.entryStore xt x' i' v'):=by
 unfold entryStoreA Instr.entryStore
 simp only [bind_eq]
 cases hx with
 | map r hr =>
  refine Sim.getObj hr fun ρ1 n1 dd o o' h1 h2 hob=>?_
  rw [← (h1 r hr).1]
  have hi:=hi.mono h1 h2
  have hv:=hv.mono h1 h2
  cases hob with
  | @map es es' clock _ he =>
   refine Sim.bindE (sim_asInt hi) fun ρ2 n2 born h3 h4=>?_
   have e:es'.findIdx? (fun e=>(e.born:Int) == born)=es.toList.findIdx? (fun e=>(e.born:Int) == born):=by
    have e0:es'.findIdx? (fun e=>(e.born:Int) == born)=es'.toList.findIdx? (fun e=>(e.born:Int) == born):=by
     obtain⟨l⟩:=es'
     simp
    rw [e0]
    have:=he.list
    generalize es.toList=l at this
    generalize es'.toList=l' at this
    induction this with
    | nil=>rfl
    | cons h _ ih=>rw [List.findIdx?_cons,List.findIdx?_cons,h.born,ih]
   rw [e]
   rw [← (h3 r (by omega)).1]
   generalize es.toList.findIdx? (fun e=>(e.born:Int) == born)=f
   cases f with
   | some j =>
    dsimp only
    refine Sim.setObjU (by omega) ?_
    intro d
    refine .map ((he.mono h3 h4).modify _ ?_)
    intro a b _ _ hab
    exact⟨hab.key,hv.mono h3 h4,hab.born⟩
   | none=>exact Sim.halt
  | _=>exact Sim.halt
 | _=>exact Sim.halt
theorem EntsR.erase {x y:Array MapEntry}(h:EntsR ρ n x y) (j:Nat):EntsR ρ n (x.eraseIdxIfInBounds j) (y.eraseIdxIfInBounds j):=by
 have hs:=h.size
 by_cases hj:j<x.size
 ·have hj':j<y.size:=by omega
  refine⟨by simp [Array.eraseIdxIfInBounds,hj',hs],fun i a b h1 h2=>?_⟩
  simp only [Array.eraseIdxIfInBounds,hj,hj',dif_pos] at h1 h2
  rw [Array.getElem?_eraseIdx] at h1 h2
  by_cases hi:i<j
  ·rw [if_pos hi] at h1 h2;exact h.at_ i a b h1 h2
  ·rw [if_neg hi] at h1 h2;exact h.at_ _ a b h1 h2
 ·have hj':¬ j<y.size:=by omega
  simp only [Array.eraseIdxIfInBounds,hj,hj',dif_neg,not_false_eq_true]
  exact h
theorem sim_delete (ts:Array TypeId) (ty:TypeId) {x x':Array Value}(hx:ArrR ρ n x x'):Sim P B w0 false VRel ρ n (deleteA ts x) (Builtin.delete_ ts ty x'):=by
 have emp:∀{ρ n},VR ρ n (.tuple #[]) (.tuple #[]):=fun {ρ n}=>undef_R (ρ:=ρ) (n:=n)
 unfold deleteA Builtin.delete_
 simp only [bind_eq,pure_eq]
 have hg:=hx.get 0
 have hg1:=hx.get 1
 revert hg hg1
 generalize x[0]?=u
 generalize x'[0]?=u'
 generalize x[1]?=v
 generalize x'[1]?=v'
 intro hg hg1
 cases ts[0]? with
 | none=>exact Sim.halt
 | some t =>
  cases hg with
  | none=>exact Sim.halt
  | some hm =>
   cases hg1 with
   | none=>exact Sim.halt
   | some hk =>
    dsimp only
    cases hu:P.underlying t with
    | none=>exact Sim.un hu
    | some d =>
    refine Sim.ul hu (Sim.ur hu ?_)
    cases d with
    | map key elem =>
     refine Sim.keyA fun kd hkd hp=>?_
     cases hm with
     | mapNil=>exact Sim.checkKey hkd hp hk (Sim.pure mono_V emp)
     | map r hr =>
      refine Sim.getObj hr fun ρ1 n1 dd o o' h1 h2 hob=>?_
      rw [← (h1 r hr).1]
      cases hob with
      | map he =>
       refine Sim.checkKey hkd hp (hk.mono h1 h2) ?_
       refine Sim.find hkd hp (hk.mono h1 h2) he ?_ ?_
       ·exact Sim.setObj (by omega) (fun d=>.map he) (Sim.pure mono_V emp)
       ·intro j u u' e e' hu g1 g3 g5
        exact Sim.setObj (by omega) (fun d=>.map (he.erase j)) (Sim.pure mono_V emp)
      | _=>exact Sim.halt
     | _=>exact Sim.halt
    | _=>exact Sim.halt
theorem ptr0 {r:Nat}(hr:r<n):VR ρ n (.pointer (some ⟨r,0,none⟩)) (.pointer (some ⟨ρ.f r,0,none⟩)):=.ptr ⟨r,0,none⟩ hr rfl
theorem sim_range (xt:TypeId) {x x':Value}(hx:VR ρ n x x'):Sim P B w0 false VRel ρ n (rangeA xt x) (Instr.range xt x'):=by
 unfold rangeA Instr.range
 simp only [bind_eq,pure_eq]
 cases hu:P.underlying xt with
 | none=>exact Sim.un hu
 | some d =>
 refine Sim.ul hu (Sim.ur hu ?_)
 cases d with
 | string =>
  cases hx with
  | string s=>exact Sim.new (.stringIter s 0) fun ρ1 n1 r _ _ hr _=>Sim.pure mono_V (ptr0 hr)
  | _=>exact Sim.halt
 | map k e =>
  cases hx with
  | mapNil=>exact Sim.new (.mapIter 0 #[] 0 .none) fun ρ1 n1 r _ _ hr _=>Sim.pure mono_V (ptr0 hr)
  | map m hm =>
   refine Sim.getObj hm fun ρ1 n1 dd o o' h1 h2 hob=>?_
   rw [← (h1 m hm).1]
   cases hob with
   | @map es es' clock _ he=>exact Sim.new (.mapIter clock #[] clock (.some m (by omega))) fun ρ2 n2 r _ _ hr _=>Sim.pure mono_V (ptr0 hr)
   | _=>exact Sim.halt
  | _=>exact Sim.halt
 | _=>cases hx<;>exact Sim.halt
theorem sim_nextText (ty:TypeId) {x x':Value}(hx:VR ρ n x x'):Sim P B w0 false VRel ρ n (nextTextA x) (Instr.next x' true ty):=by
 unfold nextTextA Instr.next
 simp only [bind_eq]
 cases hx with
 | ptr a ha hs =>
  obtain⟨r,o,sp⟩:=a
  dsimp only at hs ha
  subst hs
  cases o with
  | succ o=>exact Sim.halt
  | zero =>
   dsimp only [Ren.addr]
   refine Sim.getObj ha fun ρ1 n1 dd o o' h1 h2 hob=>?_
   rw [← (h1 r ha).1]
   cases hob with
   | stringIter s p =>
    dsimp only
    split
    ·rename_i hb
     rw [if_pos (show p<s.size from Nat.le_of_ble_eq_true hb)]
     refine Sim.setObj (by omega) (fun d=>.stringIter _ _) (Sim.pure mono_V ?_)
     have:=(((ArrR.nil (ρ:=ρ1) (n:=n1)).push (.bool true)).push (.int .i64 p)).push (.int .i32 (Utf8.decode s p).1)
     exact .tuple this.size this.at_
    ·rename_i hb
     rw [if_neg (show ¬ p<s.size from fun h=>by rw [Nat.ble_eq_true_of_le (show p+1≤s.size from h)] at hb;cases hb)]
     refine Sim.pure mono_V ?_
     have:=(ArrR.nil (ρ:=ρ1) (n:=n1)).push (.bool false)
     exact .tuple this.size this.at_
   | mapIter a b c h=>exact Sim.halt
   | _=>exact Sim.halt
 | _=>exact Sim.halt
theorem sim_entry {x x':Value}(hx:VR ρ n x x'):Sim P B w0 q VRel ρ n (Go.Eng.entryA x) (Instr.entry x'):=by
 unfold Go.Eng.entryA Instr.entry
 simp only [bind_eq,pure_eq]
 cases hx with
 | ptr a ha hs =>
  obtain⟨r,o,sp⟩:=a
  dsimp only at hs ha
  subst hs
  cases o with
  | succ o=>exact Sim.halt
  | zero =>
   dsimp only [Ren.addr]
   refine Sim.getObj ha fun ρ1 n1 dd o o' h1 h2 hob=>?_
   cases hob with
   | mapIter a seen c h =>
    cases h with
    | none=>exact Sim.halt
    | some m hm =>
     dsimp only
     cases seen.back? with
     | none=>exact Sim.halt
     | some stamp =>
      dsimp only
      refine Sim.getObj hm fun ρ2 n2 dd o o' h3 h4 hob=>?_
      cases hob with
      | @map es es' clock _ he =>
       dsimp only
       cases hc:clock == c with
       | false=>exact Sim.halt
       | true =>
        have hne:(clock != c)=false:=by rw [bne,hc];rfl
        simp only [hne,Bool.false_eq_true,if_false]
        have e:OR2 ρ2 n2 (es.toList.find? (·.born == stamp)) (es'.find? (·.born == stamp)):=by
         rw [← Array.find?_toList]
         have:=he.list
         generalize es.toList=l at this
         generalize es'.toList=l' at this
         induction this with
         | nil=>exact .none
         | cons h _ ih =>
          rw [List.find?_cons,List.find?_cons,← h.born]
          split
          ·exact .some h
          ·exact ih
        revert e
        generalize es.toList.find? (·.born == stamp)=u
        generalize es'.find? (·.born == stamp)=u'
        intro e
        cases e with
        | none=>exact Sim.halt
        | some h =>
         refine Sim.pure mono_V ?_
         have:=((ArrR.nil (ρ:=ρ2) (n:=n2)).push h.key).push h.val
         exact .tuple this.size this.at_
      | _=>exact Sim.halt
   | _=>exact Sim.halt
 | _=>exact Sim.halt
noncomputable def clearA {P:Program}(_:ZeroOk P) (ts:Array TypeId) (x:Array Value):Sem Value:=match ts[0]?,x[0]? with
 | some t,some v=>(underlying t).bind fun d=>match v with
  | .map none=>Sem.pure (.tuple #[])
  | .slice none _ _=>Sem.pure (.tuple #[])
  | .slice (some _) 0 _=>Sem.pure (.tuple #[])
  | .map (some r)=>(getObj r).bind fun o=>match o with
   | .map _ clock=>(setObj r (.map #[] clock)).bind fun _=>Sem.pure (.tuple #[])
   | _=>stuck ""
  | .slice (some a) (n+1) _=>match d,a.spot with
   | .slice elem,none=>(zeroValue elem).bind fun z=>(storeCells a (Builtin.zeroCells z.cells (n+1)).toList).bind fun _=>Sem.pure (.tuple #[])
   | _,_=>stuck ""
  | _=>stuck ""
 | _,_=>stuck ""
theorem sim_clear (hz:ZeroOk P) (ts:Array TypeId) (ty:TypeId) {x x':Array Value}(hx:ArrR ρ n x x'):Sim P B w0 false VRel ρ n (clearA hz ts x) (Builtin.clear_ ts ty x'):=by
 have emp:∀{ρ n},VR ρ n (.tuple #[]) (.tuple #[]):=fun {ρ n}=>undef_R (ρ:=ρ) (n:=n)
 unfold clearA Builtin.clear_
 simp only [bind_eq,pure_eq]
 have hg:=hx.get 0
 revert hg
 generalize x[0]?=u
 generalize x'[0]?=u'
 intro hg
 cases ts[0]? with
 | none=>exact Sim.halt
 | some t =>
  cases hg with
  | none=>exact Sim.halt
  | some hm =>
   dsimp only
   cases hu:P.underlying t with
   | none=>exact Sim.un hu
   | some d =>
   refine Sim.ul hu (Sim.ur hu ?_)
   cases hm with
   | mapNil=>cases d<;>exact Sim.pure mono_V emp
   | sliceNil l c=>cases d<;>exact Sim.pure mono_V emp
   | tail b o k hb=>cases d<;>exact Sim.pure mono_V emp
   | map r hr =>
    have go:∀{k':Obj→Sem Value},(∀es clock,k' (.map es clock)=(Go.setObj (ρ.f r) (.map #[] clock)).bind fun _=>Sem.pure (.tuple #[])) →
      Sim P B w0 false VRel ρ n ((Go.getObj r).bind fun o=>match o with
       | .map _ clock=>(Go.setObj r (.map #[] clock)).bind fun _=>Sem.pure (.tuple #[])
       | _=>stuck "") ((Go.getObj (ρ.f r)).bind k'):=by
     intro k' hk
     refine Sim.getObj hr fun ρ1 n1 dd o o' h1 h2 hob=>?_
     cases hob with
     | map he =>
      rw [hk,← (h1 r hr).1]
      exact Sim.setObj (by omega) (fun d=>.map ⟨rfl,fun i u v h1 _=>by simp at h1⟩) (Sim.pure mono_V emp)
     | _=>exact Sim.halt
    cases d<;>exact go fun _ _=>rfl
   | slice a l c ha hs =>
    cases l with
    | zero=>cases d<;>exact Sim.pure mono_V emp
    | succ l =>
     cases d with
     | slice elem =>
      simp only [hs]
      refine Sim.bind (sim_zeroValue hz elem) fun ρ1 n1 z z' h1 h2 hzz=>?_
      rw [h1.addr ha]
      refine Sim.bindE (sim_storeCells _ _ 0 (by omega) (ArrR.list ?_)) fun _ _ _ _ _=>Sim.pure mono_V emp
      unfold Builtin.zeroCells
      rw [show (l+1) * z'.cells.size=(l+1) * z.cells.size by rw [hzz.cells.size]]
      exact hzz.cells.cycle _
     | _=>exact Sim.halt
   | _=>cases d<;>exact Sim.halt
end
end Go.Eng
namespace Go.Eng
open Go Go.RowKit
def val (t:Sem Value):Sem Next:=t.bind fun v=>Sem.pure (.value v)
def okFn:Fn→Bool
 | .yield _=>false
 | _=>true
noncomputable def callA {P:Program}(E:Env P) (a:Act) (c:Call):Sem Next :=
 match c.callee with
 | .builtin .append=>stuck ""
 | .builtin .delete=>(getVs a c.args.toList).bind fun vs=>val (deleteA c.argTypes vs.toArray)
 | .builtin .clear=>(getVs a c.args.toList).bind fun vs=>val (clearA E.zero c.argTypes vs.toArray)
 | .builtin b=>(getVs a c.args.toList).bind fun vs=>builtinA b c.argTypes vs.toArray
 | .invoke r name=>(getV a r).bind fun v=>(getVs a c.args.toList).bind fun vs=>invokeA E (.fn (.method name) #[]) (#[v]++vs.toArray)
 | .value f=>(getV a f).bind fun v=>(getVs a c.args.toList).bind fun vs=>(ofValueA v vs.toArray).bind fun d=>invokeA E d.target d.args
noncomputable def deferA (a:Act) (c:Call):Sem Next :=
 match c.callee with
 | .value f=>(getV a f).bind fun v=>(getVs a c.args.toList).bind fun vs=>(ofValueA v vs.toArray).bind fun d=>Sem.pure (.defer d)
 | _=>stuck ""
noncomputable def arrayAtA (t:TypeId) (v:Value):Sem Value:=(underlying t).bind fun d=>match d with
 | .array m _=>match v with
  | .slice (some a) l _=>match a.spot with
   | none=>match Nat.ble m l with
    | true=>Sem.pure (.pointer (some a))
    | false=>stuck ""
   | some _=>stuck ""
  | _=>stuck ""
 | _=>stuck ""
noncomputable def opA {P:Program}(E:Env P) (a:Act) (o:Oper):Sem Next :=
 match o.op with
 | .move x=>(getV a x).bind fun v=>Sem.pure (.value v)
 | .assign x=>(getV a x).bind fun v=>Sem.pure (.value v)
 | .pick c x y=>(getV a c).bind fun c=>(asBool c).bind fun t=>match t with
  | true=>(getV a x).bind fun v=>Sem.pure (.value v)
  | false=>(getV a y).bind fun v=>Sem.pure (.value v)
 | .alloc e=>val (Instr.alloc e true (.tuple #[]))
 | .box e x=>(getV a x).bind fun v=>val (Instr.box e v)
 | .build t ps=>(getPs a ps.toList).bind fun l=>val (buildF t l)
 | .buildSlice t len ps=>(getPs a ps.toList).bind fun l=>val (buildSliceF t len l)
 | .load t x=>(getV a x).bind fun v=>val (loadAtA t v)
 | .store t x y=>(getV a x).bind fun v=>(getV a y).bind fun u=>(Instr.storeAt t v u).bind fun _=>Sem.pure .skip
 | .nilCheck x=>(getV a x).bind fun v=>nilA v
 | .binOp op t x y _=>(getV a x).bind fun v=>(getV a y).bind fun u=>val (binA op t x y v u)
 | .unOp op _ x=>(getV a x).bind fun v=>val (unA op v)
 | .convert s d x=>(getV a x).bind fun v=>val (convertA s d v)
 | .makeInterface t x=>(getV a x).bind fun v=>val (Instr.makeInterface t v)
 | .makeFunc fn first captured=>match okFn fn with
  | true=>(getVs a first.toList).bind fun x=>(getVs a captured.toList).bind fun y=>val (Instr.makeFunc fn x.toArray y.toArray)
  | false=>stuck ""
 | .makeSlice t l c=>(getV a l).bind fun v=>(getV a c).bind fun u=>val (Instr.makeSlice t v u)
 | .slice t x lo hi mx=>(getV a x).bind fun v=>(getO a lo).bind fun l=>(getO a hi).bind fun h=>(getO a mx).bind fun m=>val (sliceA t v l h m)
 | .fieldAddr s x f=>(getV a x).bind fun v=>val (fieldAtA s v f)
 | .field t x f=>(getV a x).bind fun v=>val (fieldF t v f)
 | .indexAddr t x i=>(getV a x).bind fun v=>(getV a i).bind fun u=>val (Instr.indexAt t v u)
 | .sliceToArrayPointer t x=>(getV a x).bind fun v=>val (arrayAtA t v)
 | .index t x i=>(getV a x).bind fun v=>(getV a i).bind fun u=>val (indexF t v u)
 | .typeAssert x t u ok=>(getV a x).bind fun v=>val (Instr.typeAssert v t u ok)
 | .extract x i=>(getV a x).bind fun v=>val (Instr.extract v i)
 | .call c=>callA E a c
 | .defer c=>deferA a c
 | .makeMap t r=>(getO a r).bind fun h=>val (Instr.makeMap t h)
 | .lookup t x i ok=>(getV a x).bind fun v=>(getV a i).bind fun u=>val (lookupA t v u ok)
 | .mapUpdate t m k x=>(getV a m).bind fun v=>(getV a k).bind fun u=>(getV a x).bind fun y=>(mapUpdateA t v u y).bind fun _=>Sem.pure .skip
 | .insert t m k x=>(getV a m).bind fun v=>(getV a k).bind fun u=>(getV a x).bind fun y=>(mapUpdateA t v u y).bind fun _=>Sem.pure .skip
 | .mapEntry t m k=>(getV a m).bind fun v=>(getV a k).bind fun u=>val (mapEntryA t v u)
 | .entryStore _ m s x=>(getV a m).bind fun v=>(getV a s).bind fun u=>(getV a x).bind fun y=>(entryStoreA v u y).bind fun _=>Sem.pure .skip
 | .range t x=>(getV a x).bind fun v=>val (rangeA t v)
 | .next x true=>(getV a x).bind fun v=>val (nextTextA v)
 | .entry x=>(getV a x).bind fun v=>val (entryA v)
 | _=>stuck ""
def quietOp:Op→Bool
 | .move _ | .assign _ | .pick _ _ _ | .build _ _ | .load _ _ | .nilCheck _ | .binOp _ _ _ _ _ | .unOp _ _ _ | .convert _ _ _ | .makeInterface _ _ | .makeFunc _ _ _
 | .slice _ _ _ _ _ | .lookup _ _ _ _ | .entry _ | .fieldAddr _ _ _ | .field _ _ _ | .indexAddr _ _ _ | .index _ _ _ | .typeAssert _ _ _ _ | .extract _ _ | .sliceToArrayPointer _ _=>true
 | .call { callee:=.builtin .len,.. } | .call { callee:=.builtin .min,.. } | .call { callee:=.builtin .max,.. } | .call { callee:=.builtin .cap,.. }=>true
 | .call { callee:=.builtin _,.. }=>false
 | .call _=>true
 | _=>false
section
variable {P:Program}{B:Nat}{w0:World}{q:Bool}{ρ:Ren}{n:Nat}
theorem sim_val {t t':Sem Value}(h:Sim P B w0 q VRel ρ n t t'):Sim P B w0 q NRel ρ n (val t) (t'.bind fun v=>Sem.pure (.value v)) :=
 Sim.bind h fun _ _ _ _ _ _ hab=>Sim.pure mono_N (.value hab)
theorem arr_of {x:Array Operand}{f:Operand→Value}{vs:List Value}(h:LR (VR ρ n) vs (x.toList.map f)):ArrR ρ n vs.toArray (x.map f) :=
 ArrR.of_LR (by simpa using h)
theorem FnR.const {fn:Fn}(h:okFn fn=true):FnR ρ n fn fn:=by
 cases fn<;>first | constructor | cases h
theorem sim_arrayAt {P:Program}{B:Nat}{w0:World}{q:Bool}{ρ:Ren}{n:Nat}(t:TypeId) {v v':Value}(h:VR ρ n v v'):Sim P B w0 q VRel ρ n (arrayAtA t v) (Instr.arrayAt t v'):=by
 unfold arrayAtA Instr.arrayAt
 simp only [bind_eq,pure_eq]
 refine Sim.bindE (sim_underlying t) fun ρ1 n1 d h1 h2=>?_
 have h':=h.mono h1 h2
 cases d with
 | array m e =>
  cases h' with
  | slice a l c ha hs =>
   dsimp only
   rw [hs]
   dsimp only
   cases hb:Nat.ble m l with
   | true =>
    have hle:=Nat.le_of_ble_eq_true hb
    rw [if_neg (by omega)]
    exact Sim.pure mono_V (.ptr a ha hs)
   | false=>exact Sim.halt
  | _=>exact Sim.halt
 | _=>exact Sim.halt
theorem sim_op (E:Env P) {a a':Act}(hb:Base P ρ n) (ha:ArrR ρ n a.tmps a'.tmps) (o:Oper) (hq:q=true→quietOp o.op=true):Sim P B w0 q NRel ρ n (opA E a o) (execOp a'.eval o):=by
 obtain⟨dst,op,type,pos,after,guard⟩:=o
 cases op with
 | move x=>exact Sim.get hb ha x fun v hv=>Sim.pure mono_N (.value hv)
 | assign x=>exact Sim.get hb ha x fun v hv=>Sim.pure mono_N (.value hv)
 | pick c x y =>
  refine Sim.get hb ha c fun v hv=>?_
  refine Sim.bindE (sim_asBool hv) fun ρ1 n1 t h1 h2=>?_
  cases t with
  | true=>exact Sim.get (hb.mono h1 h2) (ha.mono h1 h2) x fun v hv=>Sim.pure mono_N (.value hv)
  | false=>exact Sim.get (hb.mono h1 h2) (ha.mono h1 h2) y fun v hv=>Sim.pure mono_N (.value hv)
 | alloc e =>
  cases q with
  | true=>cases hq rfl
  | false=>exact sim_val (sim_alloc E.zero e)
 | box e x =>
  cases q with
  | true=>cases hq rfl
  | false=>exact Sim.get hb ha x fun v hv=>sim_val (sim_box e hv)
 | build t ps=>exact Sim.getps hb ha ps.toList fun vs hvs=>sim_val (by rw [buildF_eq];exact sim_build E.zero t (by simpa using hvs))
 | buildSlice t len ps =>
  cases q with
  | true=>cases hq rfl
  | false=>exact Sim.getps hb ha ps.toList fun vs hvs=>sim_val (by rw [buildSliceF_eq];exact sim_buildSlice E.zero t len (by simpa using hvs))
 | load t x=>exact Sim.get hb ha x fun v hv=>sim_val (sim_loadAt t hv)
 | store t x y =>
  cases q with
  | true=>cases hq rfl
  | false=>exact Sim.get hb ha x fun v hv=>Sim.get hb ha y fun u hu=>Sim.bindE (sim_storeAt t hv hu) fun _ _ _ _ _=>Sim.pure mono_N .skip
 | nilCheck x=>exact Sim.get hb ha x fun v hv=>sim_nil hv
 | binOp op t x y yt=>exact Sim.get hb ha x fun v hv=>Sim.get hb ha y fun u hu=>sim_val (sim_binA op t x y hv hu)
 | unOp op t x=>exact Sim.get hb ha x fun v hv=>sim_val (sim_un op hv)
 | convert s d x=>exact Sim.get hb ha x fun v hv=>sim_val (sim_convert s d hv)
 | makeInterface t x=>exact Sim.get hb ha x fun v hv=>sim_val (sim_makeInterface t hv)
 | makeFunc fn first captured =>
  unfold opA
  dsimp only
  split
  ·rename_i hf
   exact Sim.gets hb ha _ fun x hx=>Sim.gets hb ha _ fun y hy=>sim_val (sim_makeFunc (FnR.const hf) (arr_of hx) (arr_of hy))
  ·exact Sim.halt
 | makeSlice t l c =>
  cases q with
  | true=>cases hq rfl
  | false=>exact Sim.get hb ha l fun v hv=>Sim.get hb ha c fun u hu=>sim_val (sim_makeSlice E.zero t hv hu)
 | slice t x lo hi mx =>
  exact Sim.get hb ha x fun v hv=>Sim.geto hb ha lo fun l hl=>Sim.geto hb ha hi fun h hh=>Sim.geto hb ha mx fun m hm=>sim_val (sim_slice t hv hl hh hm)
 | fieldAddr s x f=>exact Sim.get hb ha x fun v hv=>sim_val (sim_fieldAt s f hv)
 | field t x f=>exact Sim.get hb ha x fun v hv=>sim_val (by rw [fieldF_eq];exact sim_field t f hv)
 | indexAddr t x i=>exact Sim.get hb ha x fun v hv=>Sim.get hb ha i fun u hu=>sim_val (sim_indexAt t hv hu)
 | index t x i=>exact Sim.get hb ha x fun v hv=>Sim.get hb ha i fun u hu=>sim_val (by rw [indexF_eq];exact sim_index t hv hu)
 | typeAssert x t u ok=>exact Sim.get hb ha x fun v hv=>sim_val (sim_typeAssert E.zero t u ok hv)
 | extract x i=>exact Sim.get hb ha x fun v hv=>sim_val (sim_extract i hv)
 | sliceToArrayPointer t x=>exact Sim.get hb ha x fun v hv=>sim_val (sim_arrayAt t hv)
 | call c =>
  obtain⟨callee,args,ats⟩:=c
  cases callee with
  | value f =>
   refine Sim.get hb ha f fun v hv=>Sim.gets hb ha _ fun vs hvs=>?_
   refine Sim.bind (sim_ofValue hv (arr_of hvs)) fun ρ1 n1 d d' h1 h2 hd=>?_
   exact sim_invoke E (hb.mono h1 h2) hd.target hd.args
  | invoke r name =>
   refine Sim.get hb ha r fun v hv=>Sim.gets hb ha _ fun vs hvs=>?_
   refine sim_invoke (x':=#[a'.eval r]++args.map a'.eval) E hb (.fn (.method name) ArrR.nil) (ArrR.append ?_ (arr_of hvs))
   simpa using (ArrR.nil (ρ:=ρ) (n:=n)).push hv
  | builtin b =>
   have v:∀{t t':Sem Value},Sim P B w0 q VRel ρ n t t'→Sim P B w0 q NRel ρ n (t.bind fun v=>Sem.pure (.value v)) (t'.bind fun v=>Sem.pure (.value v)) :=
    fun h=>Sim.bind h fun _ _ _ _ _ _ hab=>Sim.pure mono_N (.value hab)
   by_cases hdc:b=.delete∨b=.clear
   ·rcases hdc with rfl | rfl
    ·cases q with
     | true=>cases hq rfl
     | false=>exact Sim.gets hb ha _ fun vs hvs=>sim_val (sim_delete _ type (arr_of hvs))
    ·cases q with
     | true=>cases hq rfl
     | false=>exact Sim.gets hb ha _ fun vs hvs=>sim_val (sim_clear E.zero _ type (arr_of hvs))
   cases q with
   | false =>
    obtain⟨cs,e⟩:∃cs,execOp a'.eval { dst:=dst,op:=.call { callee:=.builtin b,args:=args,argTypes:=ats },type:=type,pos:=pos,after:=after,guard:=guard } =
      builtin b ats type cs (args.map a'.eval):=⟨_,rfl⟩
    rw [e]
    clear e
    cases b<;>first
     | exact Sim.halt
     | (exact absurd (Or.inl rfl) hdc)
     | (exact absurd (Or.inr rfl) hdc)
     | exact Sim.gets hb ha _ fun vs hvs=>sim_builtin _ _ type cs (arr_of hvs)
   | true =>
    cases b<;>first
     | exact Sim.halt
     | (exact absurd (Or.inl rfl) hdc)
     | (exact absurd (Or.inr rfl) hdc)
     | (cases hq rfl;done)
     | exact Sim.gets hb ha _ fun vs hvs=>v (sim_len _ _ (arr_of hvs))
     | exact Sim.gets hb ha _ fun vs hvs=>v (sim_cap _ _ (arr_of hvs))
     | exact Sim.gets hb ha _ fun vs hvs=>v (sim_onClosed (arr_of hvs) (HF.min _ _))
     | exact Sim.gets hb ha _ fun vs hvs=>v (sim_onClosed (arr_of hvs) (HF.max _ _))
 | defer c =>
  obtain⟨callee,args,ats⟩:=c
  cases callee with
  | value f =>
   refine Sim.get hb ha f fun v hv=>Sim.gets hb ha _ fun vs hvs=>?_
   exact Sim.bind (sim_ofValue hv (arr_of hvs)) fun ρ1 n1 d d' h1 h2 hd=>Sim.pure mono_N (.defer hd)
  | _=>exact Sim.halt
 | makeMap t r =>
  cases q with
  | true=>cases hq rfl
  | false=>exact Sim.geto hb ha r fun v hv=>sim_val (sim_makeMap t hv)
 | lookup t x i ok=>exact Sim.get hb ha x fun v hv=>Sim.get hb ha i fun u hu=>sim_val (sim_lookup E.zero t ok hv hu)
 | mapUpdate t m k x =>
  cases q with
  | true=>cases hq rfl
  | false=>exact Sim.get hb ha m fun v hv=>Sim.get hb ha k fun u hu=>Sim.get hb ha x fun y hy=>Sim.bindE (sim_mapUpdate t hv hu hy) fun _ _ _ _ _=>Sim.pure mono_N .skip
 | insert t m k x =>
  cases q with
  | true=>cases hq rfl
  | false=>exact Sim.get hb ha m fun v hv=>Sim.get hb ha k fun u hu=>Sim.get hb ha x fun y hy=>Sim.bindE (sim_mapUpdate t hv hu hy) fun _ _ _ _ _=>Sim.pure mono_N .skip
 | mapEntry t m k =>
  cases q with
  | true=>cases hq rfl
  | false=>exact Sim.get hb ha m fun v hv=>Sim.get hb ha k fun u hu=>sim_val (sim_mapEntry E.zero t hv hu)
 | entryStore t m s x =>
  cases q with
  | true=>cases hq rfl
  | false=>exact Sim.get hb ha m fun v hv=>Sim.get hb ha s fun u hu=>Sim.get hb ha x fun y hy=>Sim.bindE (sim_entryStore t hv hu hy) fun _ _ _ _ _=>Sim.pure mono_N .skip
 | range t x =>
  cases q with
  | true=>cases hq rfl
  | false=>exact Sim.get hb ha x fun v hv=>sim_val (sim_range t hv)
 | next x s =>
  cases q with
  | true=>cases hq rfl
  | false =>
   cases s with
   | true=>exact Sim.get hb ha x fun v hv=>sim_val (sim_nextText type hv)
   | false=>exact Sim.halt
 | entry x=>exact Sim.get hb ha x fun v hv=>sim_val (sim_entry hv)
 | _=>exact Sim.halt
end
end Go.Eng
namespace Go.Eng
open Go Go.RowKit
section
variable {P:Program}{B:Nat}{w0:World}{ρ:Ren}{n:Nat}
def notInt (P:Program) (ts:Array TypeId):Bool:=match ts[1]? with
 | none=>true
 | some t=>match P.underlying t with
  | some (.int _)=>false
  | some _=>true
  | none=>false
theorem notInt_ne {d:TypeDesc}(h:(match some d with | some (.int _)=>false | some _=>true | none=>false)=true):∀k,d≠.int k:=by
 intro k hk
 subst hk
 cases h
theorem run_append_fits {ts:Array TypeId}{ty:TypeId}{args:Array Value}{st elem:TypeId}{ti:TypeInfo}{base:Option Addr}{l c m:Nat}{x:Value}
  (h0:ts[0]?=some st) (hu:P.underlying st=some (.slice elem)) (hi:P.info? elem=some ti) (hn:notInt P ts=true)
  (ha:args[0]?=some (.slice base l c)) (hx:args[1]?=some x) (w:World) (hm:(Builtin.lenOf x).run P w=.ok m w) (hfit:l+m≤c) :
  (Builtin.append_ ts ty args).run P w=((Builtin.firstCells ti.size m x).bind fun new=>(match base with | some a=>storeCells (a.add (l * ti.size)) new.toList | none=>Sem.pure ()).bind fun _ =>
   Sem.pure (.slice base (l+m) c)).run P w:=by
 unfold Builtin.append_
 rw [h0,ha,hx]
 unfold notInt at hn
 cases h1:ts[1]? with
 | none =>
  cases base<;>simp [run_underlying_some hu,Go.sizeOf,Go.typeInfo,hi,hm,hfit,Sem.run_bind',bind_eq,pure_eq,Sem.bind]
 | some xt =>
  rw [h1] at hn
  dsimp only at hn
  cases hux:P.underlying xt with
  | none=>rw [hux] at hn;cases hn
  | some dx =>
   rw [hux] at hn
   have hne:=notInt_ne hn
   clear hn
   cases base
   all_goals
    cases dx<;>first
     | (exact absurd rfl (hne _))
     | simp only [bind_eq,pure_eq,Sem.run_bind',run_underlying_some hu,run_underlying_some hux,Result.andThen,Go.sizeOf,Go.typeInfo,Go.program,Sem.bind,Sem.run,hi,Bool.false_eq_true,if_false,Bool.not_false,if_true,hm,
       if_pos hfit]
theorem run_askRoom (k:Nat) (w:World):(askRoom k).run P w=.ok () w:=by
 unfold askRoom
 split<;>rfl
theorem run_zeroValue {elem:TypeId}{ti:TypeInfo}{z:Value}(hi:P.info? elem=some ti) (hz:ti.zero=some z) (w:World):(zeroValue elem).run P w=.ok z w:=by
 simp [zeroValue,typeInfo,Go.program,bind_eq,pure_eq,Sem.bind,Sem.run,hi,hz]
theorem run_append_grows {ts:Array TypeId}{ty:TypeId}{args:Array Value}{st elem:TypeId}{ti:TypeInfo}{z:Value}{base:Option Addr}{l c m:Nat}{x:Value}
  (h0:ts[0]?=some st) (hu:P.underlying st=some (.slice elem)) (hi:P.info? elem=some ti) (hz:ti.zero=some z) (hn:notInt P ts=true)
  (ha:args[0]?=some (.slice base l c)) (hx:args[1]?=some x) (w:World) (hm:(Builtin.lenOf x).run P w=.ok m w) (hfit:¬ l+m≤c)
  (h63:¬ ((l+m:Nat):Int) > IntKind.i64.max) (h48:¬ Builtin.nextslicecap (l+m) c * ti.bytes > 2 ^ 48) :
  (Builtin.append_ ts ty args).run P w=((Builtin.firstCells ti.size l (.slice base l c)).bind fun old=>(Builtin.firstCells ti.size m x).bind fun new =>
   (newRow elem (old++new++Builtin.zeroCells z.cells (grownCap w (l+m) c elem-(l+m)))).bind fun a=>Sem.pure (Value.slice (some a) (l+m) (grownCap w (l+m) c elem))).run P { w with drawn:=w.drawn+1 }:=by
 have h63':∀q:Prop,¬ (((l+m:Nat):Int) > IntKind.i64.max∧q):=fun q h=>h63 h.1
 unfold Builtin.append_
 rw [h0,ha,hx]
 have tail:∀W:World,(Sem.bind (Builtin.firstCells ti.size l (.slice base l c)) fun old=>(Builtin.firstCells ti.size m x).bind fun new =>
    (zeroValue elem).bind fun zz=>(newRow elem (old++new++Builtin.zeroCells zz.cells (grownCap w (l+m) c elem-(l+m)))).bind fun a=>Sem.pure (Value.slice (some a) (l+m) (grownCap w (l+m) c elem))).run P W =
   ((Builtin.firstCells ti.size l (.slice base l c)).bind fun old=>(Builtin.firstCells ti.size m x).bind fun new =>
     (newRow elem (old++new++Builtin.zeroCells z.cells (grownCap w (l+m) c elem-(l+m)))).bind fun a=>Sem.pure (Value.slice (some a) (l+m) (grownCap w (l+m) c elem))).run P W:=by
  intro W
  simp only [Sem.run_bind',run_zeroValue hi hz,Result.andThen]
 have ask:∀{β:Type}(k:Nat→Sem β),((Go.choose (.appendCap (l+m) c elem)).bind k).run P w=(k (grownCap w (l+m) c elem)).run P { w with drawn:=w.drawn+1 }:=by
  intro β k
  simp [Go.choose,Sem.bind,Sem.run,Question.forced,grownCap]
 unfold notInt at hn
 cases h1:ts[1]? with
 | none =>
  simp only [bind_eq,pure_eq,Sem.run_bind' P (Go.underlying _),Sem.run_bind' P (Builtin.lenOf _),run_underlying_some hu,Result.andThen,Go.sizeOf,Go.typeInfo,Go.program,Sem.bind,Sem.run,hi,Bool.false_eq_true,if_false,Bool.not_false,if_true,hm,
       if_neg hfit,if_neg (h63' _),if_neg h48,false_or,ask]
  simp only [Sem.run_bind' P (askRoom _),run_askRoom,Result.andThen]
  exact tail _
 | some xt =>
  rw [h1] at hn
  dsimp only at hn
  cases hux:P.underlying xt with
  | none=>rw [hux] at hn;cases hn
  | some dx =>
   rw [hux] at hn
   have hne:=notInt_ne hn
   clear hn
   cases dx<;>first
    | (exact absurd rfl (hne _))
    | (simp only [bind_eq,pure_eq,Sem.run_bind' P (Go.underlying _),Sem.run_bind' P (Builtin.lenOf _),run_underlying_some hu,run_underlying_some hux,Result.andThen,Go.sizeOf,Go.typeInfo,Go.program,Sem.bind,Sem.run,hi,Bool.false_eq_true,if_false,Bool.not_false,if_true,hm,
       if_neg hfit,if_neg (h63' _),if_neg h48,false_or,ask]
       simp only [Sem.run_bind' P (askRoom _),run_askRoom,Result.andThen]
       exact tail _)
end
end Go.Eng
namespace Go.Eng
open Go Go.RowKit
def Ren.upd (ρ:Ren) (k b d:Nat):Ren:=⟨fun j=>if j=k then b else ρ.f j,fun j=>if j=k then d else ρ.d j⟩
theorem Ren.upd_ext (ρ:Ren) (k b d:Nat):Ext k ρ (ρ.upd k b d):=fun i hi=>⟨by simp only [Ren.upd];rw [if_neg (by omega)],by simp only [Ren.upd];rw [if_neg (by omega)]⟩
noncomputable def AState.kill (S:AState) (i:Nat):AState:=AState.rec (motive:=fun _=>AState) (fun h n p=>⟨h.set i none,n,p⟩) S
theorem AState.kill_eq (S:AState) (i:Nat):S.kill i={ S with heap:=S.heap.set i none }:=by cases S;rfl
section
variable {P:Program}{B:Nat}{w0:World}{ρ:Ren}{n:Nat}
theorem WR.drew {S:AState}{w:World}(hw:WR P B w0 ρ S w):WR P B w0 ρ S { w with drawn:=w.drawn+1 } :=
 ⟨hw.below.drew,hw.hB,hw.rng,hw.own,hw.inj,hw.obj⟩
theorem WR.kill {S:AState}{w:World}(hw:WR P B w0 ρ S w) (i:Nat):WR P B w0 ρ (S.kill i) w:=by
 have key:∀(j:Nat) (x:AObj),(S.kill i).heap.get j=some x→j≠i∧S.heap.get j=some x:=by
  intro j x h
  simp only [AState.kill_eq,Tr.get_set] at h
  split at h
  ·cases h
  ·rename_i hne;exact⟨hne,h⟩
 exact⟨hw.below,hw.hB,hw.rng,hw.own,fun a b x y hx hy hf=>hw.inj a b x y (key a x hx).2 (key b y hy).2 hf,fun j x hx=>hw.obj j x (key j x hx).2⟩
theorem WR.push {S:AState}{w w':World}(hw:WR P B w0 ρ S w) (o:AObj) (o':Obj) (d:Nat) (hos:w'.os=w.os) (htp:w'.tape=w.tape) (hou:w'.output=w.output)
  (hh:w'.heap=w.heap.push o') (hob:ObjR P (ρ.upd S.next w.heap.size d) (S.next+1) d o o'):WR P B w0 (ρ.upd S.next w.heap.size d) (S.push o) w':=by
 have hext:=Ren.upd_ext ρ S.next w.heap.size d
 have hB:=hw.hB
 have hsz:w'.heap.size=w.heap.size+1:=by rw [hh];simp
 refine⟨hw.below.trans ⟨hos,htp,hou,by omega,fun k hk=>?_⟩,by omega,?_,?_,?_,?_⟩
 ·rw [hh,Array.getElem?_push,if_neg (by omega)]
 ·intro i hi
  simp only [AState.push_eq] at hi
  rw [hsz]
  by_cases h:i=S.next
  ·simp [Ren.upd,h]
  ·have:=hw.rng i (by omega)
   simp [Ren.upd,h];omega
 ·intro i hp hi
  simp only [AState.push_eq] at hi hp
  by_cases h:i=S.next
  ·simp only [Ren.upd,h,if_true];exact hB
  ·simp only [Ren.upd,h,if_false];exact hw.own i hp (by omega)
 ·intro i j x y hx hy hf
  simp only [AState.push_eq,Tr.get_set] at hx hy
  by_cases h1:i=S.next<;>by_cases h2:j=S.next
  ·omega
  ·rw [if_neg h2] at hy
   have:=hw.rng j (hw.obj j y hy).1
   simp [Ren.upd,h1,h2] at hf;omega
  ·rw [if_neg h1] at hx
   have:=hw.rng i (hw.obj i x hx).1
   simp [Ren.upd,h1,h2] at hf;omega
  ·rw [if_neg h2] at hy
   rw [if_neg h1] at hx
   simp [Ren.upd,h1,h2] at hf
   exact hw.inj i j x y hx hy hf
 ·intro i x hx
  simp only [AState.push_eq,Tr.get_set] at hx
  by_cases h1:i=S.next
  ·rw [if_pos h1] at hx
   cases hx
   refine⟨by simp only [AState.push_eq];omega,o',?_,?_⟩
   ·rw [hh];simp [Ren.upd,h1]
   ·simpa [AState.push_eq,Ren.upd,h1] using hob
  ·rw [if_neg h1] at hx
   obtain⟨h2,ob,h3,h4⟩:=hw.obj i x hx
   refine⟨by simp only [AState.push_eq];omega,ob,?_,?_⟩
   ·have:=hw.rng i h2
    simp only [Ren.upd,h1,if_false]
    rw [hh,Array.getElem?_push,if_neg (by omega)]
    exact h3
   ·have:=h4.mono hext (show S.next≤S.next+1 by omega)
    simpa [AState.push_eq,Ren.upd,h1] using this
theorem WR.adopt {S:AState}{w w':World}(hw:WR P B w0 ρ S w) (o:AObj) (o':Obj) (b d:Nat) (hb:b<w.heap.size) (hbB:B≤b) (hfree:∀(j:Nat) (x:AObj),S.heap.get j=some x→ρ.f j≠b)
  (hos:w'.os=w.os) (htp:w'.tape=w.tape) (hou:w'.output=w.output) (hsz:w'.heap.size=w.heap.size) (hat:w'.heap[b]?=some o') (hne:∀k,k≠b→w'.heap[k]?=w.heap[k]?)
  (hob:ObjR P (ρ.upd S.next b d) (S.next+1) d o o'):WR P B w0 (ρ.upd S.next b d) (S.push o) w':=by
 have hext:=Ren.upd_ext ρ S.next b d
 have hB:=hw.hB
 refine⟨hw.below.trans ⟨hos,htp,hou,by omega,fun k hk=>hne k (by omega)⟩,by omega,?_,?_,?_,?_⟩
 ·intro i hi
  simp only [AState.push_eq] at hi
  rw [hsz]
  by_cases h:i=S.next
  ·simp only [Ren.upd,h,if_true];exact hb
  ·have:=hw.rng i (by omega)
   simp [Ren.upd,h];omega
 ·intro i hp hi
  simp only [AState.push_eq] at hi hp
  by_cases h:i=S.next
  ·simp only [Ren.upd,h,if_true];exact hbB
  ·simp only [Ren.upd,h,if_false];exact hw.own i hp (by omega)
 ·intro i j x y hx hy hf
  simp only [AState.push_eq,Tr.get_set] at hx hy
  by_cases h1:i=S.next<;>by_cases h2:j=S.next
  ·omega
  ·rw [if_neg h2] at hy
   have:=hfree j y hy
   simp [Ren.upd,h1,h2] at hf;exact absurd hf.symm this
  ·rw [if_neg h1] at hx
   have:=hfree i x hx
   simp [Ren.upd,h1,h2] at hf;exact absurd hf this
  ·rw [if_neg h2] at hy
   rw [if_neg h1] at hx
   simp [Ren.upd,h1,h2] at hf
   exact hw.inj i j x y hx hy hf
 ·intro i x hx
  simp only [AState.push_eq,Tr.get_set] at hx
  by_cases h1:i=S.next
  ·rw [if_pos h1] at hx
   cases hx
   refine⟨by simp only [AState.push_eq];omega,o',?_,?_⟩
   ·simp only [Ren.upd,h1,if_true];exact hat
   ·simpa [AState.push_eq,Ren.upd,h1] using hob
  ·rw [if_neg h1] at hx
   obtain⟨h2,ob,h3,h4⟩:=hw.obj i x hx
   refine⟨by simp only [AState.push_eq];omega,ob,?_,?_⟩
   ·simp only [Ren.upd,h1,if_false]
    rw [hne _ (hfree i x hx)]
    exact h3
   ·have:=h4.mono hext (show S.next≤S.next+1 by omega)
    simpa [AState.push_eq,Ren.upd,h1] using this
noncomputable def storeInA (base:Option Addr) (off:Nat) (l:List Value):Sem Unit :=
 match base with
 | some a=>match a.spot with
  | none=>storeCells (a.add off) l
  | some _=>stuck ""
 | none=>Sem.pure ()
def growsOk (l m:Nat) (ti:TypeInfo) (z:Value) (cells:Array Value):Bool :=
 decide (z.cells.size=ti.size) && Nat.ble (l+m) 1099511627776 && Nat.ble ((l+m) * ti.bytes) 140737488355328 && decide (cells.size=(l+m) * ti.size) && cells.toList.all oneCell
noncomputable def catA (x y:Array Value):Array Value:=⟨lapp x.toList y.toList⟩
theorem catA_eq (x y:Array Value):catA x y=x++y:=by
 unfold catA
 rw [lapp_eq]
 apply Array.ext'
 simp
noncomputable def appendA (P:Program) (ts:Array TypeId) (args:Array Value) (S:AState):Option (Value×AState) :=
 match (ts[0]?:Option TypeId),(args[0]?:Option Value),(args[1]?:Option Value) with
 | some st,some (Value.slice base l c),some x=>match P.underlying st with
  | some (.slice elem)=>match P.info? elem with
   | some ti=>match notInt P ts with
    | true=>match runA P (Builtin.lenOf x) S with
     | some (m,_)=>match Nat.ble (l+m) c with
      | true=>runA P ((firstCellsA ti.size m x).bind fun new=>(storeInA base (l * ti.size) new.toList).bind fun _=>Sem.pure (.slice base (l+m) c)) S
      | false=>match ti.zero with
       | some z=>match runA P ((firstCellsA ti.size l (.slice base l c)).bind fun old=>(firstCellsA ti.size m x).bind fun new=>Sem.pure (catA old new)) S with
        | some (cells,_)=>match growsOk l m ti z cells with
         | true=>match base with
          | none=>some (.slice (some ⟨S.next,0,none⟩) (l+m) (l+m),S.push (.row cells elem 0 0 true))
          | some a=>match a.spot with
           | none=>match S.heap.get a.block with
            | some (.cells _ _ _ _ _ false)=>some (.slice (some ⟨S.next,0,none⟩) (l+m) (l+m),S.push (.row cells elem 0 0 true))
            | some (.cells _ osz e lo hi true)=>match decide (a.off=0) && Nat.ble S.prot a.block && decide (e=elem) && decide (osz=c * ti.size) && Nat.ble hi (l * ti.size) && Nat.ble lo hi with
             | true=>some (.slice (some ⟨S.next,0,none⟩) (l+m) (l+m),(S.kill a.block).push (.row cells elem lo hi true))
             | false=>none
            | _=>none
           | some _=>none
         | false=>none
        | none=>none
       | none=>none
     | none=>none
    | false=>none
   | none=>none
  | _=>none
 | _,_,_=>none
theorem oneCell_R {v v':Value}(h:VR ρ n v v'):oneCell v'=oneCell v:=by cases h<;>rfl
theorem HF.lenOf (x:Value):HF P (Builtin.lenOf x):=by
 unfold Builtin.lenOf
 split<;>first | exact HF.pure _ | exact HF.halt _
theorem sim_storeIn {base:Option Addr}{l c:Nat}{b':Option Addr}{c':Nat}(off:Nat) {x x':List Value}:VR ρ n (.slice base l c) (.slice b' l c')→LR (VR ρ n) x x' →
  Sim P B w0 false EqR ρ n (storeInA base off x) (match b' with | some a=>storeCells (a.add off) x' | none=>Sem.pure ()):=by
 intro h hx
 cases h with
 | sliceNil=>exact Sim.pure mono_E rfl
 | slice a _ _ ha hs =>
  unfold storeInA
  simp only [hs]
  rw [Ren.addr_add]
  exact sim_storeCells _ _ 0 (by rw [Addr.add_block];exact ha) hx
 | tail b o k hb=>exact Sim.halt
theorem run_storeCells_in {b:Nat}{e:TypeId}{lo hi off:Nat}:∀(l:List Value) (j:Nat) (cur:Array Value) (w:World),w.heap[b]?=some (.cells cur e (lo,hi))→(∀v∈l,oneCell v=true) →
  off+j+l.length≤cur.size→(∀o,off+j≤o→o<off+j+l.length→¬ (lo≤o∧o<hi)) →
  ∃cur' w',(storeCells ((⟨b,off,none⟩:Addr)) l j).run P w=.ok () w'∧w'.os=w.os∧w'.tape=w.tape∧w'.output=w.output∧w'.heap.size=w.heap.size∧
   w'.heap[b]?=some (.cells cur' e (lo,hi))∧cur'.size=cur.size∧(∀k,k≠b→w'.heap[k]?=w.heap[k]?)∧
   (∀i,i<off+j→cur'[i]?=cur[i]?)∧(∀i,i<l.length→cur'[off+j+i]?=l[i]?):=by
 intro l
 induction l with
 | nil =>
  intro j cur w hw _ _ _
  exact⟨cur,w,rfl,rfl,rfl,rfl,rfl,hw,rfl,fun _ _=>rfl,fun _ _=>rfl,fun i h=>by simp at h⟩
 | cons v l ih =>
  intro j cur w hw h1 hfit hfz
  simp only [List.length_cons] at hfit hfz
  have hadd:(⟨b,off,none⟩:Addr).add j=⟨b,off+j,none⟩:=by unfold Addr.add;split<;>simp_all
  obtain⟨u,hu⟩:∃u,cur[off+j]?=some u:=⟨_,Array.getElem?_eq_getElem (by omega)⟩
  have hcell:w.cell? ⟨b,off+j,none⟩=some u:=by simp [World.cell?,hw,hu]
  have hfrz:w.frozen? ⟨b,off+j,none⟩=false:=by
   have:=hfz (off+j) (by omega) (by omega)
   simp only [World.frozen?,hw]
   rw [Bool.and_eq_false_iff]
   by_cases h:lo≤off+j
   ·right;exact decide_eq_false (fun h'=>this ⟨h,h'⟩)
   ·left;exact decide_eq_false h
  have hset:(w.setCell ⟨b,off+j,none⟩ v).heap[b]?=some (.cells (cur.setIfInBounds (off+j) v) e (lo,hi)):=by
   simp [World.setCell,Array.getElem?_modify,hw]
  have hoth:∀k,k≠b→(w.setCell ⟨b,off+j,none⟩ v).heap[k]?=w.heap[k]?:=by
   intro k hk
   simp only [World.setCell,Array.getElem?_modify]
   rw [if_neg (by intro h;exact hk h.symm)]
  obtain⟨cur',w',g1,g2,g3,g4,g5,g6,g7,g8,g9,g10⟩:=ih (j+1) (cur.setIfInBounds (off+j) v) _ hset (fun x hx=>h1 x (by simp [hx])) (by simp;omega) (fun o ho1 ho2=>hfz o (by omega) (by omega))
  refine⟨cur',w',?_,g2,g3,g4,by rw [g5];simp [World.setCell],g6,by rw [g7];simp,fun k hk=>(g8 k hk).trans (hoth k hk),fun i hi=>?_,fun i hi=>?_⟩
  ·unfold storeCells
   rw [bind_eq,Sem.run_bind',hadd]
   have hone:=h1 v (by simp)
   have hst:(store ⟨b,off+j,none⟩ v).run P w=.ok () (w.setCell ⟨b,off+j,none⟩ v):=by
    cases v<;>first | (cases hone;done) | simp [store,Sem.run,hcell,hfrz]
   rw [hst]
   exact g1
  ·rw [g9 i (by omega),Array.getElem?_setIfInBounds_ne (by omega)]
  ·cases i with
   | zero =>
    rw [Nat.add_zero,g9 (off+j) (by omega),Array.getElem?_setIfInBounds_self_of_lt (by omega)]
    rfl
   | succ i =>
    have:=g10 i (by simpa using hi)
    rw [show off+j+(i+1)=off+(j+1)+i by omega,this]
    rfl
theorem append_sound (_E:Env P) {S:AState}{w:World}(hw:WR P B w0 ρ S w) (ts:Array TypeId) (ty:TypeId) {x x':Array Value}(hx:ArrR ρ S.next x x') {v:Value}{S':AState}
  (h:appendA P ts x S=some (v,S')) :
  ∃v' w' ρ',(Builtin.append_ ts ty x').run P w=.ok v' w'∧Ext S.next ρ ρ'∧S.next≤S'.next∧S'.prot=S.prot∧WR P B w0 ρ' S' w'∧VR ρ' S'.next v v':=by
 unfold appendA at h
 split at h
 case h_2=>cases h
 rename_i st base l c y e0 e1 e2
 split at h
 case h_2=>cases h
 rename_i elem hu
 split at h
 case h_2=>cases h
 rename_i ti hi
 split at h
 case h_2=>cases h
 rename_i hn
 split at h
 case h_2=>cases h
 rename_i m S1 hm
 obtain⟨_,hmrun⟩:=HF.lenOf y _ _ _ hm
 have ha0:∃u',x'[0]?=some u'∧VR ρ S.next (.slice base l c) u':=by
  rcases hx.get? 0 with ⟨h1,_⟩|⟨a,a',h1,h2,h3⟩
  ·rw [h1] at e1;cases e1
  ·rw [h1] at e1;cases e1;exact⟨a',h2,h3⟩
 have ha1:∃y',x'[1]?=some y'∧VR ρ S.next y y':=by
  rcases hx.get? 1 with ⟨h1,_⟩|⟨a,a',h1,h2,h3⟩
  ·rw [h1] at e2;cases e2
  ·rw [h1] at e2;cases e2;exact⟨a',h2,h3⟩
 obtain⟨u',hu',hV0⟩:=ha0
 obtain⟨y',hy',hV1⟩:=ha1
 have hlen':∀W,(Builtin.lenOf y').run P W=.ok m W:=by
  intro W
  have:Builtin.lenOf y'=Builtin.lenOf y:=by cases hV1<;>rfl
  rw [this];exact hmrun W
 have hform:∃b' c',u'=.slice b' l c'∧c≤c':=by
  cases hV0 with
  | sliceNil=>exact⟨_,_,rfl,Nat.le_refl _⟩
  | slice a _ _ _ _=>exact⟨_,_,rfl,by omega⟩
  | tail b o k hb=>exact⟨_,_,rfl,by omega⟩
 obtain⟨b',c',rfl,hcc⟩:=hform
 split at h
 ·
  rename_i hfit
  have hfit':l+m≤c:=Nat.le_of_ble_eq_true hfit
  have hsim:Sim P B w0 false VRel ρ S.next ((firstCellsA ti.size m y).bind fun new=>(storeInA base (l * ti.size) new.toList).bind fun _=>Sem.pure (.slice base (l+m) c))
    ((Builtin.firstCells ti.size m y').bind fun new=>(match b' with | some a=>storeCells (a.add (l * ti.size)) new.toList | none=>Sem.pure ()).bind fun _=>Sem.pure (.slice b' (l+m) c')):=by
   refine Sim.bind (sim_firstCells _ _ hV1) fun ρ1 n1 a a' h1 h2 haa=>?_
   have hV:=hV0.mono h1 h2
   refine Sim.bindE (sim_storeIn _ hV haa.list) fun ρ2 n2 _ h3 h4=>Sim.pure mono_V ?_
   have hV:=hV.mono h3 h4
   cases hV with
   | sliceNil=>exact .sliceNil _ _
   | slice a _ _ ha hs=>exact .slice a _ _ ha hs
   | tail b o k hb =>
    have:m=0:=by omega
    subst this
    exact .tail b o k hb
  obtain⟨v',w',ρ',g1,g2,g3,gp,g4,g5,_⟩:=hsim ρ S w (Ext.refl _ _) (Nat.le_refl _) hw v S' h
  exact⟨v',w',ρ',by rw [run_append_fits e0 hu hi hn hu' hy' w (hlen' w) (by omega)];exact g1,g2,g3,gp,g4,g5⟩
 ·
  rename_i hfit
  have hfit':¬ l+m≤c:=by
   intro hle
   have:Nat.ble (l+m) c=true:=by rw [Nat.ble_eq];exact hle
   rw [this] at hfit;cases hfit
  split at h
  case h_2=>cases h
  rename_i z hz
  split at h
  case h_2=>cases h
  rename_i cells S1 hcells
  split at h
  case h_2=>cases h
  rename_i hok
  unfold growsOk at hok
  simp only [Bool.and_eq_true,decide_eq_true_eq,Nat.ble_eq] at hok
  obtain⟨⟨⟨⟨hzs,h63⟩,h47⟩,hcs⟩,hall⟩:=hok
  have hload:∀(b'':Option Addr) (c'':Nat),VR ρ S.next (.slice base l c) (.slice b'' l c'')→∀W,WR P B w0 ρ S W →
    ∃o nw:Array Value,(Builtin.firstCells ti.size l (.slice b'' l c'')).run P W=.ok o W∧(Builtin.firstCells ti.size m y').run P W=.ok nw W∧ArrR ρ S.next cells (o++nw):=by
   intro b'' c'' hV W hW
   rw [runA_bind] at hcells
   split at hcells
   case h_2=>cases hcells
   rename_i oa Sa hoa
   obtain⟨o,W1,ρ1,k1,k2,k3,kp,k4,k5,k6⟩:=sim_firstCells (q:=true) ti.size l hV ρ S W (Ext.refl _ _) (Nat.le_refl _) hW oa Sa hoa
   obtain⟨rfl,rfl,rfl⟩:=k6 rfl
   rw [runA_bind] at hcells
   split at hcells
   case h_2=>cases hcells
   rename_i na Sb hna
   obtain⟨nw,W1,ρ1,j1,j2,j3,jp,j4,j5,j6⟩:=sim_firstCells (q:=true) ti.size m hV1 _ _ _ (Ext.refl _ _) (Nat.le_refl _) k4 na Sb hna
   obtain⟨rfl,rfl,rfl⟩:=j6 rfl
   simp only [runA,Option.some.injEq,Prod.mk.injEq] at hcells
   obtain⟨rfl,rfl⟩:=hcells
   exact⟨o,nw,k1,j1,by rw [catA_eq];exact k5.append j5⟩
  have hnew:∀(T:AState) (fz:Nat×Nat),T.next=S.next→T.prot=S.prot→(∀W,WR P B w0 ρ S W→WR P B w0 ρ T W)→¬ l+m≤c' →
    ∃v' w' ρ',(Builtin.append_ ts ty x').run P w=.ok v' w'∧Ext S.next ρ ρ'∧WR P B w0 ρ' (T.push (.row cells elem fz.1 fz.2 true)) w'∧VR ρ' (S.next+1) (.slice (some ⟨S.next,0,none⟩) (l+m) (l+m)) v':=by
   intro T fz hT hTp hWT hbig
   obtain⟨o,nw,k1,k2,k3⟩:=hload _ _ hV0 _ hw.drew
   have hb48:¬ Builtin.nextslicecap (l+m) c' * ti.bytes > 2 ^ 48:=by
    have:=growslice_fits (need:=l+m) (old:=c') (bytes:=ti.bytes) (by omega) h47
    omega
   have hrun:=run_append_grows (ty:=ty) e0 hu hi hz hn hu' hy' w (hlen' w) hbig (by rw [show IntKind.i64.max=9223372036854775807 from by decide];omega) hb48
   have hge:=grownCap_ge w (l+m) c' elem
   rw [Sem.run_bind',k1] at hrun
   simp only [Result.andThen] at hrun
   rw [Sem.run_bind',k2] at hrun
   simp only [Result.andThen,newRow,newObj,Sem.bind,bind_eq,pure_eq,Sem.run] at hrun
   have hsz:szOf P elem=ti.size:=by simp [szOf,hi]
   have hpush:=(hWT _ hw.drew).push (o:=(.row cells elem fz.1 fz.2 true)) (o':=.cells (o++nw++Builtin.zeroCells z.cells (grownCap w (l+m) c' elem-(l+m))) elem)
    (d:=grownCap w (l+m) c' elem-(l+m)) (w':={ w with drawn:=w.drawn+1,heap:=w.heap.push (.cells (o++nw++Builtin.zeroCells z.cells (grownCap w (l+m) c' elem-(l+m))) elem) }) rfl rfl rfl rfl (by
     have hk:=k3.mono (ρ.upd_ext S.next w.heap.size (grownCap w (l+m) c' elem-(l+m))) (show S.next≤S.next+1 by omega)
     rw [hT]
     refine .cells ?_ (fun h=>by cases h) (fun i u _ hu=>?_) (fun _ _ h1 h2=>by omega) (Nat.le_refl _)
     ·rw [Array.size_append,← k3.size,size_zeroCells,hzs,hsz]
     ·rw [Tr.get_ofL _ _ _ (by simp),Array.getElem?_toList] at hu
      rcases hk.get? i with ⟨q1,_⟩|⟨a,a',q1,q2,q3⟩
      ·rw [q1] at hu;cases hu
      ·rw [q1] at hu
       cases hu
       refine⟨a',?_,q3⟩
       have hlt:i<(o++nw).size:=by
        rcases Nat.lt_or_ge i (o++nw).size with h | h
        ·exact h
        ·rw [Array.getElem?_eq_none h] at q2;cases q2
       rw [Array.getElem?_append,if_pos hlt]
       exact q2)
   rw [hT] at hpush
   refine⟨_,_,_,hrun,ρ.upd_ext _ _ _,hpush,?_⟩
   have:=VR.slice (ρ:=ρ.upd S.next w.heap.size (grownCap w (l+m) c' elem-(l+m))) (n:=S.next+1) ⟨S.next,0,none⟩ (l+m) (l+m) (by simp) rfl
   simp only [Ren.upd,Ren.addr,if_true] at this
   rw [show l+m+(grownCap w (l+m) c' elem-(l+m))=grownCap w (l+m) c' elem by omega] at this
   exact this
  split at h
  ·
   cases hV0
   simp only [Option.some.injEq,Prod.mk.injEq] at h
   obtain⟨rfl,rfl⟩:=h
   obtain⟨v',w',ρ',q1,q2,q3,q4⟩:=hnew S (0,0) rfl rfl (fun _ h=>h) hfit'
   exact⟨v',w',ρ',q1,q2,by simp [AState.push_eq],rfl,q3,q4⟩
  ·rename_i a
   split at h
   case h_2=>cases h
   rename_i hs
   have hblk:a.block<S.next∧c'=c+ρ.d a.block∧b'=some (ρ.addr a):=by
    cases hV0 with
    | slice _ _ _ ha _=>exact⟨ha,rfl,rfl⟩
    | tail b o k hb=>cases hs
   obtain⟨hlt,hc',rfl⟩:=hblk
   split at h
   ·
    rename_i cc ee ff hget
    obtain⟨_,o',_,hob⟩:=hw.obj _ _ hget
    have hd:ρ.d a.block=0:=by
     revert hob
     generalize ρ.d a.block=d
     intro hob
     cases hob with
     | cells _ hg _ _ _=>exact hg rfl
    simp only [Option.some.injEq,Prod.mk.injEq] at h
    obtain⟨rfl,rfl⟩:=h
    obtain⟨v',w',ρ',q1,q2,q3,q4⟩:=hnew S (0,0) rfl rfl (fun _ h=>h) (by omega)
    exact⟨v',w',ρ',q1,q2,by simp [AState.push_eq],rfl,q3,q4⟩
   ·rename_i old e lo hi' hget
    split at h
    case h_2=>cases h
    rename_i hcond
    simp only [Bool.and_eq_true,decide_eq_true_eq,Nat.ble_eq] at hcond
    obtain⟨⟨⟨⟨⟨hoff,hprot⟩,rfl⟩,hold⟩,hfz⟩,hlh⟩:=hcond
    simp only [Option.some.injEq,Prod.mk.injEq] at h
    obtain⟨rfl,rfl⟩:=h
    by_cases hbig:l+m≤c'
    ·
     obtain⟨o,nw,k1,k2,k3⟩:=hload _ _ hV0 _ hw
     have hrun:=run_append_fits (ty:=ty) e0 hu hi hn hu' hy' w (hlen' w) hbig
     rw [Sem.run_bind',k2] at hrun
     simp only [Result.andThen] at hrun
     have hown:=hw.own _ hprot hlt
     obtain⟨_,o',ho',hob⟩:=hw.obj _ _ hget
     have hsz:szOf P e=ti.size:=by simp [szOf,hi]
     generalize hdd:ρ.d a.block=d at hob hc'
     cases hob with
     | @cells _ _ cur _ _ _ lo' hi2 _ _ hs1 hg1 hc1 hf1 hl1 =>
     have ea:ρ.addr a=⟨ρ.f a.block,0,none⟩:=by simp [Ren.addr,hs,hoff]
     have hcsz:cur.size=c' * ti.size:=by rw [hs1,hold,hsz,hc',Nat.add_mul]
     have hle:(l+m) * ti.size≤cur.size:=by rw [hcsz];exact Nat.mul_le_mul_right _ hbig
     rw [Nat.add_mul] at hle
     have ho:o=(cur.toList.take (l * ti.size)).toArray:=by
      have hrl:=k1
      unfold Builtin.firstCells at hrl
      have h2:=run_loadCells_list (P:=P) w (ρ.addr a) (cur.toList.take (l * ti.size)) (fun j v hv=>by
       have hj:j<l * ti.size:=by
        rcases Nat.lt_or_ge j (l * ti.size) with h | h
        ·exact h
        ·rw [List.getElem?_eq_none (by rw [List.length_take];omega)] at hv;cases hv
       rw [List.getElem?_take_of_lt hj] at hv
       have hadd:(ρ.addr a).add j=⟨ρ.f a.block,j,none⟩:=by
        rw [ea];unfold Addr.add;split<;>simp_all
       rw [hadd]
       simp only [World.cell?,ho']
       simpa using hv)
      rw [List.length_take,Array.length_toList,Nat.min_eq_left (by omega)] at h2
      rw [h2] at hrl
      cases hrl
      rfl
     have hosz:o.size=l * ti.size:=by rw [ho];simp;omega
     have hnsz:nw.size=m * ti.size:=by
      have hsum:(o++nw).size=(l+m) * ti.size:=by rw [← k3.size];exact hcs
      rw [Array.size_append,Nat.add_mul,hosz] at hsum
      omega
     have hone:∀v∈nw.toList,oneCell v=true:=by
      intro v hv
      obtain⟨i,hi,rfl⟩:=List.getElem_of_mem hv
      have hi':i<nw.size:=by simpa using hi
      have h1:(o++nw)[o.size+i]?=some nw[i]:=by rw [Array.getElem?_append,if_neg (by omega),show o.size+i-o.size=i by omega,Array.getElem?_eq_getElem hi']
      rcases k3.get? (o.size+i) with ⟨_,q2⟩|⟨u,u',q1,q2,q3⟩
      ·rw [h1] at q2;cases q2
      ·rw [h1] at q2
       cases q2
       rw [List.all_eq_true] at hall
       have:=hall u (List.mem_of_getElem? (i:=o.size+i) (by simpa using q1))
       rw [Array.getElem_toList,oneCell_R q3]
       exact this
     obtain⟨cur',w',g1,g2,g3,g4,g5,g6,g7,g8,g9,g10⟩:=run_storeCells_in (P:=P) (off:=l * ti.size) nw.toList 0 cur w ho' hone (by rw [Array.length_toList,hnsz];omega) (fun x h1 h2 h3=>by
      rw [Array.length_toList,hnsz] at h2
      have:=hf1 x (by omega) h3.1 h3.2
      omega)
     have eadd:(ρ.addr a).add (l * ti.size)=⟨ρ.f a.block,l * ti.size,none⟩:=by
      rw [ea];unfold Addr.add;split<;>simp_all
     simp only [eadd] at hrun
     rw [Sem.run_bind',g1] at hrun
     simp only [Result.andThen,Sem.run] at hrun
     have hW:=(hw.kill a.block).adopt (o:=(.row cells e lo hi' true)) (o':=.cells cur' e (lo',hi2)) (b:=ρ.f a.block) (d:=c'-(l+m)) (w':=w') (hw.rng _ hlt) hown (fun j x hx hf=>by
       simp only [AState.kill_eq,Tr.get_set] at hx
       split at hx
       ·cases hx
       ·rename_i hne;exact hne (hw.inj j a.block x _ hx hget hf)) g2 g3 g4 g5 g6 g8 (by
       have hk:=k3.mono (ρ.upd_ext S.next (ρ.f a.block) (c'-(l+m))) (show S.next≤S.next+1 by omega)
       refine .cells ?_ (fun h=>by cases h) (fun i u _ hu=>?_) (fun x hx h1 h2=>hf1 x (by omega) h1 h2) hl1
       ·rw [g7,hcsz,hcs,hsz,← Nat.add_mul];congr 1;omega
       ·rw [Tr.get_ofL _ _ _ (by simp),Array.getElem?_toList] at hu
        rcases hk.get? i with ⟨q1,_⟩|⟨b1,b2,q1,q2,q3⟩
        ·rw [q1] at hu;cases hu
        ·rw [q1] at hu
         cases hu
         refine⟨b2,?_,q3⟩
         rw [Array.getElem?_append] at q2
         split at q2
         ·rename_i hlt2
          rw [g9 i (by omega)]
          rw [ho,List.getElem?_toArray,List.getElem?_take_of_lt (by omega)] at q2
          simpa using q2
         ·rename_i hge
          have hi3:i-o.size<nw.size:=by
           rcases Nat.lt_or_ge (i-o.size) nw.size with h | h
           ·exact h
           ·rw [Array.getElem?_eq_none h] at q2;cases q2
          have:=g10 (i-o.size) (by simpa using hi3)
          rw [show l * ti.size+0+(i-o.size)=i by omega] at this
          rw [this]
          simpa using q2)
     refine⟨_,w',_,hrun,ρ.upd_ext S.next (ρ.f a.block) (c'-(l+m)),by simp [AState.push_eq,AState.kill_eq],rfl,hW,?_⟩
     have:=VR.slice (ρ:=ρ.upd S.next (ρ.f a.block) (c'-(l+m))) (n:=S.next+1) ⟨S.next,0,none⟩ (l+m) (l+m) (by simp) rfl
     simp only [Ren.upd,Ren.addr,if_true] at this
     rw [show l+m+(c'-(l+m))=c' by omega] at this
     rw [ea]
     exact this
    ·obtain⟨v',w',ρ',q1,q2,q3,q4⟩:=hnew (S.kill a.block) (lo,hi') rfl rfl (fun _ h=>h.kill _) hbig
     exact⟨v',w',ρ',q1,q2,by simp [AState.push_eq,AState.kill_eq],rfl,q3,q4⟩
   ·cases h
end
end Go.Eng
namespace Go.Eng
open Go Go.RowKit
def byteInfo (ti:TypeInfo):Bool:=Nat.beq ti.size 1 && Nat.beq ti.bytes 1 && match ti.zero with
 | some (.int .u8 z)=>decide (z=0)
 | _=>false
noncomputable def noughtA (P:Program) (ts:List TypeId) (args:List Value):Option (Array TypeId×Array Value) :=
 match ts,args with
 | [st,it],[.slice base l c,.int .i64 (.ofNat k)]=>match P.underlying st,P.underlying it with
  | some (.slice elem),some (.int _)=>match P.info? elem with
   | some ti=>match byteInfo ti && Nat.ble 1 k && Nat.ble k 1000000 && Nat.ble l 1000000 with
    | true=>some (#[st],#[.slice base l c,.string ⟨Array.replicate k 0⟩])
    | false=>none
   | none=>none
  | _,_=>none
 | _,_=>none
theorem run_noughts {P:Program}{W:World}{st it elem:TypeId}{q:IntKind}{ti:TypeInfo}(hu:P.underlying st=some (.slice elem)) (hq:P.underlying it=some (.int q)) (hi:P.info? elem=some ti) (hz0:ti.zero=some (.int .u8 0)) (hz1:ti.size=1) (hz2:ti.bytes=1)
  (o:Option Addr) (m c k:Nat) (hk0:0<k) (hk:k≤1000000) (hm:m≤1000000) (ty:TypeId) :
  (Builtin.append_ #[st,it] ty #[.slice o m c,.int .i64 k]).run P W=(Builtin.append_ #[st] ty #[.slice o m c,.string ⟨Array.replicate k 0⟩]).run P W:=by
 have hw:IntKind.i64.wrap (k:Int)=(k:Int):=by rw [IntKind.wrap_i64];omega
 have hneg:¬ (k:Int)<0:=by omega
 have hsz:(⟨Array.replicate k (0:UInt8)⟩:ByteArray).size=k:=by show (Array.replicate k (0:UInt8)).size=k;simp
 have hbig:¬ (281474976710656:Int)<(k:Int):=by omega
 have hmax:¬ (9223372036854775807:Int)<(m:Int)+(k:Int):=by omega
 have hcz:Builtin.zeroCells (Value.int IntKind.u8 0).cells k=Array.replicate k (.int .u8 0):=by
  apply Array.ext
  ·simp [Builtin.zeroCells,Value.cells]
  ·intro j h1 h2
   have h3:j % 1=0:=Nat.mod_one j
   simp [Builtin.zeroCells,Value.cells,h3]
 have hzv:∀w,(zeroValue elem).run P w=.ok (.int .u8 0) w:=fun w=>by simp [zeroValue,typeInfo,hi,hz0]
 have hk0':¬ k=0:=by omega
 by_cases hroom:m+k≤c
 ·simp [Builtin.append_,run_underlying hu,run_underlying hq,sizeOf,typeInfo,hi,hz0,Builtin.lenOf,hsz,asInt,asIntOf,hw,hneg,hz1,hz2,hroom,Builtin.firstCells,hbig,hmax,hk0',hcz,hzv]
  done
 ·have hfit:¬ 281474976710656<Builtin.nextslicecap (m+k) c:=by
   have:=growslice_fits (need:=m+k) (old:=c) (bytes:=1) (by omega) (by omega)
   omega
  simp [Builtin.append_,run_underlying hu,run_underlying hq,sizeOf,typeInfo,hi,hz0,Builtin.lenOf,hsz,asInt,asIntOf,hw,hneg,hz1,hz2,hroom,Builtin.firstCells,hbig,hmax,hk0',hcz,hzv,hfit]
  done
noncomputable def appendN (P:Program) (ts:Array TypeId) (args:Array Value) (S:AState):Option (Value×AState):=match noughtA P ts.toList args.toList with
 | some p=>appendA P p.1 p.2 S
 | none=>appendA P ts args S
theorem noughtA_spec {P:Program}{ts:List TypeId}{args:List Value}{p:Array TypeId×Array Value}(h:noughtA P ts args=some p) :
  ∃st it elem q ti base l c k,ts=[st,it]∧args=[.slice base l c,.int .i64 (k:Nat)]∧P.underlying st=some (.slice elem)∧P.underlying it=some (.int q)∧P.info? elem=some ti∧ti.zero=some (.int .u8 0)∧ti.size=1∧ti.bytes=1∧0<k∧k≤1000000∧l≤1000000∧p=(#[st],#[.slice base l c,.string ⟨Array.replicate k 0⟩]):=by
 unfold noughtA at h
 split at h
 case h_2=>cases h
 rename_i st it base l c k
 split at h
 case h_2=>cases h
 rename_i elem q hu hq
 split at h
 case h_2=>cases h
 rename_i ti hi
 split at h
 case h_2=>cases h
 rename_i hb
 simp only [Bool.and_eq_true,Nat.ble_eq] at hb
 obtain⟨⟨⟨h1,h2⟩,h3⟩,h4⟩:=hb
 unfold byteInfo at h1
 simp only [Bool.and_eq_true,Nat.beq_eq] at h1
 obtain⟨⟨h5,h6⟩,h7⟩:=h1
 split at h7
 case h_2=>cases h7
 rename_i z hz
 have hz0:z=0:=by simpa using h7
 subst hz0
 cases h
 exact⟨st,it,elem,q,ti,base,l,c,k,rfl,rfl,hu,hq,hi,hz,h5,h6,h2,h3,h4,rfl⟩
section
variable {P:Program}{B:Nat}{w0:World}{ρ:Ren}{n:Nat}
theorem appendN_sound (E:Env P) {S:AState}{w:World}(hw:WR P B w0 ρ S w) (ts:Array TypeId) (ty:TypeId) {x x':Array Value}(hx:ArrR ρ S.next x x') {v:Value}{S':AState}
  (h:appendN P ts x S=some (v,S')) :
  ∃v' w' ρ',(Builtin.append_ ts ty x').run P w=.ok v' w'∧Ext S.next ρ ρ'∧S.next≤S'.next∧S'.prot=S.prot∧WR P B w0 ρ' S' w'∧VR ρ' S'.next v v':=by
 unfold appendN at h
 split at h
 case h_2=>exact append_sound E hw ts ty hx h
 rename_i p hp
 obtain⟨st,it,elem,q,ti,base,l,c,k,e1,e2,hu,hq,hi,hz0,hz1,hz2,hk0,hk,hl,rfl⟩:=noughtA_spec hp
 obtain⟨tl⟩:=ts
 obtain⟨xl⟩:=x
 obtain⟨xl'⟩:=x'
 simp only at e1 e2
 subst e1
 subst e2
 have hxl:LR (VR ρ S.next) [.slice base l c,.int .i64 (k:Nat)] xl':=hx.list
 cases hxl with
 | cons h1 h2 =>
  rename_i u' r'
  cases h2 with
  | cons h3 h4 =>
   rename_i y' r''
   cases h4
   have hy:y'=.int .i64 (k:Nat):=by cases h3;rfl
   subst hy
   have hx2:ArrR ρ S.next (#[.slice base l c,.string ⟨Array.replicate k 0⟩]:Array Value) #[u',.string ⟨Array.replicate k 0⟩]:=ArrR.of_LR (.cons h1 (.cons (.string _) .nil))
   obtain⟨o',c',rfl⟩:∃o' c',u'=.slice o' l c':=by
    cases h1 with
    | sliceNil=>exact⟨_,_,rfl⟩
    | slice=>exact⟨_,_,rfl⟩
    | tail=>exact⟨_,_,rfl⟩
   have hrun:=run_noughts (W:=w) hu hq hi hz0 hz1 hz2 o' l c' k hk0 hk hl ty
   rw [show (⟨[st,it]⟩:Array TypeId)=#[st,it] from rfl,show (⟨[.slice o' l c',.int .i64 (k:Nat)]⟩:Array Value)=#[.slice o' l c',.int .i64 (k:Nat)] from rfl,hrun]
   exact append_sound E hw #[st] ty hx2 h
end
end Go.Eng
namespace Go.Eng
open Go Go.RowKit
def byteCells (s:ByteArray):Array Value:=s.data.map fun b=>.int .u8 b.toNat
noncomputable def toBytesA (P:Program) (src dst:TypeId) (v:Value) (S:AState):Option (Value×AState) :=
 match P.underlying src,P.underlying dst,v with
 | some .string,some (.slice e),.string s=>match P.underlying e,P.info? e with
  | some (.int .u8),some ti=>match decide (ti.size=1) with
   | true=>some (.slice (some ⟨S.next,0,none⟩) s.size s.size,S.push (.row (byteCells s) e 0 0 true))
   | false=>none
  | _,_=>none
 | some (.slice _),some (.slice e),.slice (some a) l c=>match Nat.beq src dst,P.underlying e with
  | true,some (.int .u8)=>match a.spot with
   | none=>match S.heap.get a.block with
    | some (.cells t m e' lo hi g)=>match Nat.ble S.prot a.block && Nat.beq lo hi with
     | true=>some (.slice (some a) l c,S.set a.block (.cells t m e' lo hi g))
     | false=>none
    | _=>none
   | some _=>none
  | _,_=>none
 | _,_,_=>none
def isToBytes (P:Program) (src dst:TypeId):Bool:=match P.underlying src,P.underlying dst with
 | some .string,some (.slice _)=>true
 | some (.slice _),some (.slice e)=>match Nat.beq src dst,P.underlying e with
  | true,some (.int .u8)=>true
  | _,_=>false
 | _,_=>false
noncomputable def stepOpA {P:Program}(E:Env P) (a:Act) (o:Oper) (S:AState):Option (Next×AState) :=
 match o.op with
 | .call { callee:=.builtin .append,args:=args,argTypes:=ts }=>match runA P (getVs a args.toList) S with
  | some (vs,_)=>match appendN P ts vs.toArray S with
   | some (v,S')=>some (.value v,S')
   | none=>none
  | none=>none
 | .convert src dst x=>match isToBytes P src dst with
  | true=>match runA P (getV a x) S with
   | some (v,_)=>match toBytesA P src dst v S with
    | some (v,S')=>some (.value v,S')
    | none=>none
   | none=>none
  | false=>runA P (opA E a o) S
 | _=>runA P (opA E a o) S
section
variable {P:Program}{B:Nat}{w0:World}{ρ:Ren}{n:Nat}
theorem getV_run {a a':Act}{S:AState}{w:World}(hw:WR P B w0 ρ S w) (hb:Base P ρ S.next) (ha:ArrR ρ S.next a.tmps a'.tmps) (x:Operand) {v:Value}{S1:AState}
  (h:runA P (getV a x) S=some (v,S1)):VR ρ S.next v (a'.eval x):=by
 have hs:Sim P B w0 true VRel ρ S.next ((getV a x).bind fun v=>Sem.pure v) (Sem.pure (a'.eval x)):=Sim.get hb ha x fun v hv=>Sim.pure mono_V hv
 obtain⟨b,w',ρ2,g1,g2,g3,gp,g4,g5,g6⟩:=hs ρ S w (Ext.refl _ _) (Nat.le_refl _) hw v S1 (by rw [runA_bind,h];rfl)
 obtain⟨rfl,rfl,rfl⟩:=g6 rfl
 simp only [Sem.run,Result.ok.injEq] at g1
 rw [g1.1]
 exact g5
theorem getVs_run {a a':Act}{S:AState}{w:World}(hw:WR P B w0 ρ S w) (hb:Base P ρ S.next) (ha:ArrR ρ S.next a.tmps a'.tmps) (l:List Operand) {vs:List Value}{S1:AState}
  (h:runA P (getVs a l) S=some (vs,S1)):LR (VR ρ S.next) vs (l.map a'.eval):=by
 have mono:Mono (fun ρ n x y=>LR (VR ρ n) x y):=fun _ _ _ _ _ _ h he hn=>h.imp fun _ _ h=>h.mono he hn
 have hs:Sim P B w0 true (fun ρ n x y=>LR (VR ρ n) x y) ρ S.next ((getVs a l).bind fun v=>Sem.pure v) (Sem.pure (l.map a'.eval)):=Sim.gets hb ha l fun v hv=>Sim.pure mono hv
 obtain⟨b,w',ρ2,g1,g2,g3,gp,g4,g5,g6⟩:=hs ρ S w (Ext.refl _ _) (Nat.le_refl _) hw vs S1 (by rw [runA_bind,h];rfl)
 obtain⟨rfl,rfl,rfl⟩:=g6 rfl
 simp only [Sem.run,Result.ok.injEq] at g1
 rw [g1.1]
 exact g5
theorem toBytes_sound {S:AState}{w:World}(hw:WR P B w0 ρ S w) (src dst:TypeId) {v u:Value}(hv:VR ρ S.next v u) {r:Value}{S':AState}(h:toBytesA P src dst v S=some (r,S')) :
  ∃r' w' ρ',(Go.convert src dst u).run P w=.ok r' w'∧Ext S.next ρ ρ'∧S.next≤S'.next∧S'.prot=S.prot∧WR P B w0 ρ' S' w'∧VR ρ' S'.next r r':=by
 unfold toBytesA at h
 split at h
 case h_3=>cases h
 case h_2 =>
  rename_i e0 e a l c hs hd
  split at h
  case h_2=>cases h
  rename_i he hu
  have he:src=dst:=Nat.eq_of_beq_eq_true he
  split at h
  case h_2=>cases h
  rename_i hspot
  split at h
  case h_2=>cases h
  rename_i t m e' lo hi g hget
  split at h
  case h_2=>cases h
  rename_i hcond
  simp only [Bool.and_eq_true,Nat.ble_eq,Nat.beq_eq] at hcond
  obtain⟨hprot,rfl⟩:=hcond
  simp only [Option.some.injEq,Prod.mk.injEq] at h
  obtain⟨rfl,rfl⟩:=h
  subst he
  have hee:e0=e:=by rw [hs] at hd;cases hd;rfl
  subst hee
  obtain⟨hlt,o',ho',hob⟩:=hw.obj _ _ hget
  have hblk:u=.slice (some (ρ.addr a)) l (c+ρ.d a.block):=by
   cases hv with
   | slice _ _ _ ha _=>rfl
   | tail b o k hb=>cases hspot
  subst hblk
  cases hob with
  | @cells _ _ c' _ _ _ lo' hi' _ _ hs1 hg1 hc1 hf1 hl1 =>
  let fz:Nat×Nat:=if lo' == hi' then (c'.size,c'.size+1) else (min lo' c'.size,max hi' (c'.size+1))
  let w':World:=w.freeze ⟨ρ.f a.block,c'.size,none⟩ 1
  have hrun:(Go.convert src src (.slice (some (ρ.addr a)) l (c+ρ.d a.block))).run P w=.ok (.slice (some (ρ.addr a)) l (c+ρ.d a.block)) w':=by
   unfold Go.convert
   simp only [bind_eq,Sem.run_bind',run_underlying_some hs,run_underlying_some hd,run_underlying_some hu,Result.andThen,beq_self_eq_true,markStringish,shape,freeze,pure_eq,Sem.bind,Sem.run]
   have h1:World.shape? w (ρ.addr a).block=some (e',c'.size):=by simp [World.shape?,Ren.addr,ho']
   rw [h1]
   simp only [Sem.bind,Sem.run]
   rfl
  have hat:w'.heap[ρ.f a.block]?=some (.cells c' e' fz):=by
   simp only [w',World.freeze,Nat.one_ne_zero,if_false,Array.getElem?_modify,if_true,ho',Option.map_some]
   rfl
  have hset:=hw.set (w':=w') (o2:=.cells t m e' lo lo g) (o2':=.cells c' e' fz) hget hprot (by
   have hfz:fz=(fz.1,fz.2):=rfl
   rw [hfz]
   refine .cells hs1 hg1 hc1 (fun o h1 h2 h3=>?_) ?_
   ·have hno:¬ (lo'≤o∧o<hi'):=fun⟨x,y⟩=>by have:=hf1 o h1 x y;omega
    simp only [fz] at h2 h3
    split at h2
    ·rename_i hq;simp only [hq,if_true] at h2 h3;omega
    ·rename_i hq
     simp only [hq,if_false] at h2 h3
     have hq:lo'≠hi':=by simpa using hq
     have hno2:=fun x y=>hf1 lo' x (Nat.le_refl _) y
     rcases Nat.lt_or_ge lo' c'.size with h4 | h4
     ·have:=hno2 h4 (by omega);omega
     ·omega
   ·simp only [fz];split<;>simp only<;>omega) (by simp [w',World.freeze]) (by simp [w',World.freeze]) (by simp [w',World.freeze]) (by simp [w',World.freeze]) hat (by
    intro k hk
    simp only [w',World.freeze,Nat.one_ne_zero,if_false,Array.getElem?_modify]
    rw [if_neg (fun h=>hk h.symm)])
  exact⟨_,w',ρ,hrun,Ext.refl _ _,by simp [AState.set_eq],by simp [AState.set_eq],hset,by simpa [AState.set_eq] using hv⟩
 rename_i e s hs hd
 split at h
 case h_2=>cases h
 rename_i ti he hi
 split at h
 case h_2=>cases h
 rename_i hsz
 have hsz:ti.size=1:=by simpa using hsz
 simp only [Option.some.injEq,Prod.mk.injEq] at h
 obtain⟨rfl,rfl⟩:=h
 cases hv
 have hge:=grownCap_ge w s.size 0 e
 have hcl:∀ρ' n',ArrR ρ' n' (byteCells s) (byteCells s):=by
  intro ρ' n'
  refine⟨rfl,fun i a b h1 h2=>?_⟩
  rw [h1] at h2
  cases h2
  unfold byteCells at h1
  rw [Array.getElem?_map,Option.map_eq_some_iff] at h1
  obtain⟨b,_,rfl⟩:=h1
  exact .int _ _
 have hbs:(byteCells s).size=s.size:=by unfold byteCells;rw [Array.size_map];rfl
 let cells:Array Value:=byteCells s++Array.replicate (grownCap w s.size 0 e-s.size) (.int .u8 0)
 have hcs:cells.size=grownCap w s.size 0 e:=by
  show (byteCells s++Array.replicate _ _).size=_
  rw [Array.size_append,Array.size_replicate,hbs];omega
 have hrun:(Go.convert src dst (.string s)).run P w=.ok (.slice (some ⟨w.heap.size,0,none⟩) s.size (grownCap w s.size 0 e))
   { w with drawn:=w.drawn+1,heap:=w.heap.push (.cells cells e (grownCap w s.size 0 e,grownCap w s.size 0 e+1)) }:=by
  unfold Go.convert
  simp only [bind_eq,Sem.run_bind',run_underlying_some hs,run_underlying_some hd,run_underlying_some he,Result.andThen]
  unfold Conv.stringToBytes
  simp only [bind_eq,pure_eq,Go.choose,Sem.bind,Sem.run,Question.forced,Bool.false_eq_true,if_false,newRow,newObj,markStringish,shape,freeze]
  have h1:(World.shape? { w with drawn:=w.drawn+1,heap:=w.heap.push (.cells cells e (0,0)) } w.heap.size)=some (e,grownCap w s.size 0 e):=by
   simp [World.shape?,hcs]
  show _=_
  have e1:(Question.appendCap s.size 0 e).cut (w.tape w.drawn (Question.appendCap s.size 0 e))=grownCap w s.size 0 e:=rfl
  rw [e1]
  have e2:(Array.map (fun b:UInt8=>Value.int IntKind.u8 (b.toNat:Int)) s.data++Array.replicate (grownCap w s.size 0 e-s.size) (Value.int IntKind.u8 0))=cells:=rfl
  rw [e2,h1]
  simp only [Sem.bind,Sem.run,World.freeze,Nat.one_ne_zero,if_false]
  congr 1
  congr 1
  apply Array.ext
  ·simp
  ·intro i h1 h2
   simp only [Array.getElem_modify,Array.getElem_push]
   split
   ·rename_i hi'
    subst hi'
    simp
   ·rename_i hi'
    split
    ·rfl
    ·rename_i h3
     simp at h1
     omega
 have hszOf:szOf P e=1:=by simp [szOf,hi,hsz]
 have hpush:=(hw.drew).push (o:=(.row (byteCells s) e 0 0 true)) (o':=.cells cells e (grownCap w s.size 0 e,grownCap w s.size 0 e+1)) (d:=grownCap w s.size 0 e-s.size)
  (w':={ w with drawn:=w.drawn+1,heap:=w.heap.push (.cells cells e (grownCap w s.size 0 e,grownCap w s.size 0 e+1)) }) rfl rfl rfl rfl (by
   refine .cells ?_ (fun h=>by cases h) (fun i u _ hu=>?_) (fun x h1 h2 _=>by omega) (Nat.le_succ _)
   ·rw [hcs,hbs,hszOf];omega
   ·rw [Tr.get_ofL _ _ _ (by simp),Array.getElem?_toList] at hu
    refine⟨u,?_,(hcl _ _).at_ i u u hu hu⟩
    have hlt:i<(byteCells s).size:=by
     rcases Nat.lt_or_ge i (byteCells s).size with h | h
     ·exact h
     ·rw [Array.getElem?_eq_none h] at hu;cases hu
    show (byteCells s++Array.replicate _ _)[i]?=_
    rw [Array.getElem?_append,if_pos hlt]
    exact hu)
 refine⟨_,_,_,hrun,ρ.upd_ext S.next w.heap.size (grownCap w s.size 0 e-s.size),by simp [AState.push_eq],rfl,hpush,?_⟩
 have:=VR.slice (ρ:=ρ.upd S.next w.heap.size (grownCap w s.size 0 e-s.size)) (n:=S.next+1) ⟨S.next,0,none⟩ s.size s.size (by simp) rfl
 simp only [Ren.upd,Ren.addr,if_true] at this
 rw [show s.size+(grownCap w s.size 0 e-s.size)=grownCap w s.size 0 e by omega] at this
 exact this
theorem stepOp_sound (E:Env P) {a a':Act}{S:AState}{w:World}(hw:WR P B w0 ρ S w) (hb:Base P ρ S.next) (ha:ArrR ρ S.next a.tmps a'.tmps) (o:Oper) {nx:Next}{S':AState}
  (h:stepOpA E a o S=some (nx,S')) :
  ∃nx' w' ρ',(execOp a'.eval o).run P w=.ok nx' w'∧Ext S.next ρ ρ'∧S.next≤S'.next∧S'.prot=S.prot∧WR P B w0 ρ' S' w'∧NextR ρ' S'.next nx nx':=by
 have gen:runA P (opA E a o) S=some (nx,S') →
   ∃nx' w' ρ',(execOp a'.eval o).run P w=.ok nx' w'∧Ext S.next ρ ρ'∧S.next≤S'.next∧S'.prot=S.prot∧WR P B w0 ρ' S' w'∧NextR ρ' S'.next nx nx':=by
  intro hr
  obtain⟨b,w',ρ2,g1,g2,g3,gp,g4,g5,_⟩:=sim_op (q:=false) E hb ha o (fun h=>by cases h) ρ S w (Ext.refl _ _) (Nat.le_refl _) hw nx S' hr
  exact⟨b,w',ρ2,g1,g2,g3,gp,g4,g5⟩
 obtain⟨dst,op,type,pos,after,guard⟩:=o
 unfold stepOpA at h
 dsimp only at h
 split at h
 ·rename_i args ts
  split at h
  case h_2=>cases h
  rename_i vs S1 hvs
  split at h
  case h_2=>cases h
  rename_i v S2 happ
  simp only [Option.some.injEq,Prod.mk.injEq] at h
  obtain⟨rfl,rfl⟩:=h
  have hx:ArrR ρ S.next vs.toArray (args.map a'.eval):=ArrR.of_LR (by simpa using getVs_run hw hb ha _ hvs)
  obtain⟨v',w',ρ',g1,g2,g3,g4,g5,g6⟩:=appendN_sound E hw ts type hx happ
  refine⟨.value v',w',ρ',?_,g2,g3,g4,g5,.value g6⟩
  have e:(execOp a'.eval { dst:=dst,op:=.call { callee:=.builtin .append,args:=args,argTypes:=ts },type:=type,pos:=pos,after:=after,guard:=guard }) =
    (Builtin.append_ ts type (args.map a'.eval)).bind fun v=>Sem.pure (.value v):=rfl
  rw [e,Sem.run_bind',g1]
  rfl
 ·rename_i src cdst x
  split at h
  ·split at h
   case h_2=>cases h
   rename_i v S1 hv
   split at h
   case h_2=>cases h
   rename_i v2 S2 ht
   simp only [Option.some.injEq,Prod.mk.injEq] at h
   obtain⟨rfl,rfl⟩:=h
   obtain⟨v',w',ρ',g1,g2,g3,g4,g5,g6⟩:=toBytes_sound hw src cdst (getV_run hw hb ha x hv) ht
   refine⟨.value v',w',ρ',?_,g2,g3,g4,g5,.value g6⟩
   have e:(execOp a'.eval { dst:=dst,op:=.convert src cdst x,type:=type,pos:=pos,after:=after,guard:=guard }) =
     (Go.convert src cdst (a'.eval x)).bind fun v=>Sem.pure (.value v):=rfl
   rw [e,Sem.run_bind',g1]
   rfl
  ·exact gen h
 ·exact gen h
end
end Go.Eng
namespace Go.Eng
open Go Go.RowKit
inductive ItemR (ρ:Ren) (n:Nat):Item→Item→Prop
 | code (c:Code):ItemR ρ n (.code c) (.code c)
 | inBlock (id:Nat):ItemR ρ n (.inBlock id) (.inBlock id)
 | inLoop (c:Code):ItemR ρ n (.inLoop c) (.inLoop c)
 | inScope (c:Code):ItemR ρ n (.inScope c) (.inScope c)
 | inRegion (ops:Array Oper) (l:List Nat):ItemR ρ n (.inRegion ops l) (.inRegion ops l)
 | inRangeFunc (l:Nat) (h:l<n):ItemR ρ n (.inRangeFunc l) (.inRangeFunc (ρ.f l))
 | endRangeFunc (l:Nat) (h:l<n):ItemR ρ n (.endRangeFunc l) (.endRangeFunc (ρ.f l))
 | beginRound:ItemR ρ n .beginRound .beginRound
inductive ModeR:FrameMode→FrameMode→Prop
 | run:ModeR .run .run
 | returning:ModeR .returning .returning
inductive KindR:CallKind→CallKind→Prop
 | normal:KindR .normal .normal
 | deferred:KindR .deferred .deferred
structure FR (ρ:Ren) (n:Nat) (x y:Frame):Prop where
 fn:x.fn=y.fn
 tmps:ArrR ρ n x.tmps y.tmps
 todo:LR (ItemR ρ n) x.todo y.todo
 defers:LR (DefR ρ n) x.defers y.defers
 mode:ModeR x.mode y.mode
 kind:KindR x.kind y.kind
 roundOf:OptR ρ n x.roundOf y.roundOf
theorem ItemR.mono {ρ ρ':Ren}{n n':Nat}{a b:Item}(h:ItemR ρ n a b) (he:Ext n ρ ρ') (hn:n≤n'):ItemR ρ' n' a b:=by
 cases h with
 | inRangeFunc l h=>rw [← (he l h).1];exact .inRangeFunc l (by omega)
 | endRangeFunc l h=>rw [← (he l h).1];exact .endRangeFunc l (by omega)
 | _=>constructor
theorem FR.mono {ρ ρ':Ren}{n n':Nat}{x y:Frame}(h:FR ρ n x y) (he:Ext n ρ ρ') (hn:n≤n'):FR ρ' n' x y :=
 ⟨h.fn,h.tmps.mono he hn,h.todo.imp fun _ _ h=>h.mono he hn,h.defers.imp fun _ _ h=>h.mono he hn,h.mode,h.kind,h.roundOf.mono he hn⟩
def actOf (fr:Frame):Act:=⟨fr.tmps,fr.defers⟩
theorem eval_act (fr:Frame):fr.eval=(actOf fr).eval:=by funext x;cases x<;>rfl
noncomputable def nextA (fr:Frame) (cs:List Frame) (P:Program) (nx:Next):Option (Frame×List Frame) :=
 match nx with
 | .value v=>some (fr.finish v,cs)
 | .skip=>some (fr.finish undef,cs)
 | .enter f args=>some (Frame.enter P f args .normal,fr :: cs)
 | .round l f tmps as body=>some (Frame.round l f tmps as body .normal,fr :: cs)
 | .defer d=>some ({ fr with defers:=d :: fr.defers }.finish undef,cs)
 | .recover=>match fr.roundOf with
  | none=>match fr.kind,cs with
   | .deferred,[]=>none
   | _,_=>some (fr.finish .nilIface,cs)
  | some _=>none
 | _=>none
def isDefer:Op→Bool
 | .defer _=>true
 | _=>false
noncomputable def returnA (fr:Frame) (cs:List Frame) (v:Value):Option (Frame×List Frame) :=
 match cs with
 | caller :: rest=>match fr.kind with
  | .normal=>some (caller.finish v,rest)
  | .deferred=>some (caller,rest)
  | _=>none
 | []=>none
noncomputable def leaveA (P:Program) (fr:Frame) (cs:List Frame) (S:AState) (jump:Option Code):Option (Frame×List Frame×AState) :=
 match fr.roundOf with
 | none=>none
 | some l=>match runA P (Instr.endRound l jump) S with
  | some (v,S')=>match returnA fr cs v with
   | some (f,c)=>some (f,c,S')
   | none=>none
  | none=>none
noncomputable def enterLoopA (fr:Frame) (params:Array Tmp) (assign body:Code) (S:AState):Option (Nat×List Deferred×AState) :=
 match fr.roundOf with
 | none=>some (S.next+1,[{ target:=.collected S.next,args:=#[] }],
   (S.push (.rest (.deferred (some [])))).push (.rest (.loop { state:=.ready,pending:=none,fn:=fr.fn,tmps:=fr.tmps,params,assign,body,defers:=S.next })))
 | some _=>none
noncomputable def runStepA {P:Program}(E:Env P) (fr:Frame) (cs:List Frame) (S:AState):Option (Frame×List Frame×AState) :=
 match fr.todo with
 | []=>match fr.roundOf with
  | none=>some ({ fr with mode:=.returning },cs,S)
  | some _=>leaveA P fr cs S none
 | .code .ret :: _=>match fr.roundOf with
  | none=>some ({ fr with mode:=.returning },cs,S)
  | some _=>leaveA P fr cs S (some .ret)
 | .code .skip :: k=>some ({ fr with todo:=k },cs,S)
 | .code (.label _) :: k=>some ({ fr with todo:=k },cs,S)
 | .inBlock _ :: k=>some ({ fr with todo:=k },cs,S)
 | .inScope _ :: k=>some ({ fr with todo:=k },cs,S)
 | .code (.seq a b) :: k=>some ({ fr with todo:=.code a :: .code b :: k },cs,S)
 | .code (.cond (.tmp t) thn els) :: k=>match fr.tmps.getD t undef with
  | .bool true=>some ({ fr with todo:=.code thn :: k },cs,S)
  | .bool false=>some ({ fr with todo:=.code els :: k },cs,S)
  | _=>none
 | .code (.cond (.const (.bool true)) thn _) :: k=>some ({ fr with todo:=.code thn :: k },cs,S)
 | .code (.cond (.const (.bool false)) _ els) :: k=>some ({ fr with todo:=.code els :: k },cs,S)
 | .code (.block id body) :: k=>some ({ fr with todo:=.code body :: .inBlock id :: k },cs,S)
 | .code (.loop body) :: k=>some ({ fr with todo:=.code body :: .inLoop body :: k },cs,S)
 | .inLoop body :: k=>some ({ fr with todo:=.code body :: .inLoop body :: k },cs,S)
 | .code (.scope body) :: k=>some ({ fr with todo:=.code body :: .inScope body :: k },cs,S)
 | .code (.exit id) :: k=>match exitTo id k with
  | some k'=>some ({ fr with todo:=k' },cs,S)
  | none=>leaveA P fr cs S (some (.exit id))
 | .code (.region _ ops false) :: k=>some ({ fr with todo:=.inRegion ops (List.range ops.size) :: k },cs,S)
 | .inRegion _ [] :: k=>some ({ fr with todo:=k },cs,S)
 | .inRegion ops (i :: _) :: _=>match ops[i]? with
  | none=>some (fr.finish undef,cs,S)
  | some o=>match Region.wanted o (yielded ops fr.tmps) with
   | false=>some (fr.finish undef,cs,S)
   | true=>match fr.roundOf.isSome && isDefer o.op with
    | true=>none
    | false=>match stepOpA E (actOf fr) o S with
     | some (nx,S')=>match nextA fr cs P nx with
      | some (f,c)=>some (f,c,S')
      | none=>none
     | none=>none
 | .code (.rangeFunc f params assign body) :: k=>match enterLoopA fr params assign body S with
  | some (l,mark,S1)=>match runA P ((getV (actOf fr) f).bind fun v=>(ofValueA v #[.func (.yield l) #[] #[]]).bind fun d=>invokeA E d.target d.args) S1 with
   | some (nx,S2)=>match nextA { fr with todo:=.inRangeFunc l :: k,defers:=mark++fr.defers } cs P nx with
    | some (f,c)=>some (f,c,S2)
    | none=>none
   | none=>none
  | none=>none
 | .endRangeFunc l :: k=>match runA P (Instr.endLoop l) S with
  | some (jump,S')=>some ({ fr with todo:=(jump.map Item.code).toList++k },cs,S')
  | none=>none
 | .beginRound :: k=>match fr.roundOf with
  | some l=>match runA P (Instr.beginRound l) S with
   | some (_,S')=>some ({ fr with todo:=k },cs,S')
   | none=>none
  | none=>none
 | _=>none
noncomputable def resultsA (fn:Func) (tmps:Array Value):Sem Value:=do
 let vs ← fn.results.mapM fun
  | .tmp t=>pure (tmps.getD t undef)
  | .cell a t=>do loadVarA t (← asAddr (tmps.getD a undef))
 pure (if h:vs.size=1 then vs[0] else .tuple vs)
noncomputable def leaveStepA {P:Program}(E:Env P) (fr:Frame) (cs:List Frame) (S:AState):Option (Frame×List Frame×AState) :=
 match fr.defers with
 | { target:=.collected block,args:=_ } :: ds=>match runA P (Instr.takeDeferred block) S with
  | some (calls,S')=>some ({ fr with defers:=calls++ds },cs,S')
  | none=>none
 | d :: ds=>match runA P (invokeA E d.target d.args) S with
  | some (.enter f args,S')=>some (Frame.enter P f args .deferred,{ fr with defers:=ds } :: cs,S')
  | _=>none
 | []=>match cs with
  | []=>none
  | _=>match P.funcs[fr.fn]? with
   | some fn=>match runA P (resultsA fn fr.tmps) S with
    | some (v,S')=>match returnA fr cs v with
     | some (f,c)=>some (f,c,S')
     | none=>none
    | none=>none
   | none=>none
section
variable {P:Program}{B:Nat}{w0:World}{q:Bool}{ρ:Ren}{n:Nat}
theorem sim_getLoop {l:Nat}(hl:l<n) {α β:Type}{R:Ren→Nat→α→β→Prop}{k:Loop→Sem α}{k':Loop→Sem β}
  (h:∀ρ' n' r r',Ext n ρ ρ'→n≤n'→(∀d,ObjR P ρ' n' d (.rest (.loop r)) (.loop r'))→Sim P B w0 q R ρ' n' (k r) (k' r')) :
  Sim P B w0 q R ρ n ((Instr.getLoop l).bind k) ((Instr.getLoop (ρ.f l)).bind k'):=by
 unfold Instr.getLoop
 simp only [bind_eq]
 rw [Sem.bind_assoc',Sem.bind_assoc']
 refine Sim.getObj hl fun ρ1 n1 d o o' h1 h2 hob=>?_
 cases hob with
 | loop a b c e f g h' i j=>exact h ρ1 n1 _ _ h1 h2 fun _=>.loop a b c e f g h' i j
 | _=>exact Sim.haltBind
theorem sim_endRound {l:Nat}(hl:l<n) (j:Option Code):Sim P B w0 false VRel ρ n (Instr.endRound l j) (Instr.endRound (ρ.f l) j):=by
 unfold Instr.endRound
 refine sim_getLoop hl fun ρ1 n1 r r' h1 h2 hr=>?_
 rw [← (h1 l hl).1]
 refine Sim.setObj (by omega) (fun d=>?_) (Sim.pure mono_V (.bool _))
 cases hr d with
 | loop hst hpe hfn ht hpa has hbo hd hd'=>exact .loop rfl rfl hfn ht hpa has hbo hd hd'
theorem sim_beginRound {l:Nat}(hl:l<n):Sim P B w0 false EqR ρ n (Instr.beginRound l) (Instr.beginRound (ρ.f l)):=by
 unfold Instr.beginRound
 refine sim_getLoop hl fun ρ1 n1 r r' h1 h2 hr=>?_
 rw [← (h1 l hl).1]
 have hst:r'.state=r.state:=by
  cases hr 0 with
  | loop hst _ _ _ _ _ _ _ _=>exact hst
 refine Sim.setObj (by omega) (fun d=>?_) ?_
 ·cases hr d with
  | loop hst hpe hfn ht hpa has hbo hd hd'=>exact .loop rfl hpe hfn ht hpa has hbo hd hd'
 ·rw [hst]
  cases r.state<;>first | exact Sim.pure mono_E rfl | exact Sim.rpanic
theorem sim_endLoop {l:Nat}(hl:l<n):Sim P B w0 false EqR ρ n (Instr.endLoop l) (Instr.endLoop (ρ.f l)):=by
 unfold Instr.endLoop
 refine sim_getLoop hl fun ρ1 n1 r r' h1 h2 hr=>?_
 rw [← (h1 l hl).1]
 have hst:r'.state=r.state∧r'.pending=r.pending:=by
  cases hr 0 with
  | loop hst hpe _ _ _ _ _ _ _=>exact⟨hst,hpe⟩
 rw [hst.1,hst.2]
 dsimp only
 split
 ·exact Sim.never fun S S' a hr=>by
   rw [bind_eq,runA_bind] at hr
   split at hr
   ·rename_i hh;exact runA_runtimePanic _ _ _ _ hh
   ·cases hr
 ·refine Sim.setObj (by omega) (fun d=>?_) (Sim.pure mono_E rfl)
  cases hr d with
  | loop hst hpe hfn ht hpa has hbo hd hd'=>exact .loop rfl rfl hfn ht hpa has hbo hd hd'
abbrev DsRel:Ren→Nat→List Deferred→List Deferred→Prop:=fun ρ n a b=>LR (DefR ρ n) a b
theorem mono_Ds:Mono DsRel:=fun _ _ _ _ _ _ h he hn=>h.imp fun _ _ h=>h.mono he hn
theorem sim_takeDeferred {b:Nat}(hb:b<n):Sim P B w0 false DsRel ρ n (Instr.takeDeferred b) (Instr.takeDeferred (ρ.f b)):=by
 unfold Instr.takeDeferred
 simp only [bind_eq,pure_eq]
 refine Sim.getObj hb fun ρ1 n1 d o o' h1 h2 hob=>?_
 rw [← (h1 b hb).1]
 cases hob with
 | deferred h=>exact Sim.setObj (by omega) (fun _=>.deferredNone) (Sim.pure mono_Ds h)
 | _=>exact Sim.halt
theorem sim_results (fn:Func) {x x':Array Value}(hx:ArrR ρ n x x'):Sim P B w0 q VRel ρ n (resultsA fn x) (results fn x'):=by
 unfold resultsA results
 refine Sim.bind (sim_mapM (R:=VRel) mono_V _ _ fn.results fun g _=>?_) fun ρ1 n1 a b h1 h2 hab=>Sim.pure mono_V ?_
 ·cases g with
  | tmp t=>exact Sim.pure mono_V (hx.getD t undef_R)
  | cell a t =>
   refine Sim.bind (sim_asAddr (hx.getD a undef_R)) fun ρ1 n1 a b h1 h2 hab=>?_
   rw [hab.2.2]
   exact sim_loadVar t hab.1
 ·have hA:ArrR ρ1 n1 a b:=⟨hab.1,hab.2⟩
  by_cases hs:a.size=1
  ·have hs':b.size=1:=by rw [← hA.size];exact hs
   rw [dif_pos hs,dif_pos hs']
   exact hA.at_ 0 _ _ (Array.getElem?_eq_getElem (by omega)) (Array.getElem?_eq_getElem (by omega))
  ·have hs':¬ b.size=1:=by rw [← hA.size];exact hs
   rw [dif_neg hs,dif_neg hs']
   exact .tuple hA.size hA.at_
end
end Go.Eng
namespace Go.Eng
open Go Go.RowKit
structure MR (P:Program) (B:Nat) (w0:World) (ρ:Ren) (S:AState) (fr:Frame) (cs:List Frame) (fr':Frame) (cs':List Frame) (w:World):Prop where
 base:Base P ρ S.next
 wr:WR P B w0 ρ S w
 fr:FR ρ S.next fr fr'
 cs:LR (FR ρ S.next) cs cs'
def Goes (P:Program) (B:Nat) (w0:World) (ρ:Ren) (S:AState) (fr':Frame) (cs' bs:List Frame) (w:World) (fr2:Frame) (cs2:List Frame) (S2:AState):Prop :=
 ∃fr2' cs2' w' ρ',step P (lone fr' (cs'++bs) w)=.next (lone fr2' (cs2'++bs) w')∧Ext S.next ρ ρ'∧S.next≤S2.next∧S2.prot=S.prot∧MR P B w0 ρ' S2 fr2 cs2 fr2' cs2' w'
section
variable {P:Program}{B:Nat}{w0:World}{ρ:Ren}{n:Nat}
theorem FR.finish {x y:Frame}{v v':Value}(h:FR ρ n x y) (hv:VR ρ n v v'):FR ρ n (x.finish v) (y.finish v'):=by
 obtain⟨xf,xt,xd,xr,xm,xk,xo⟩:=x
 obtain⟨yf,yt,yd,yr,ym,yk,yo⟩:=y
 obtain⟨h1,h2,h3,h4,h5,h6,h7⟩:=h
 dsimp only at h1 h2 h3 h4 h5 h6 h7
 unfold Frame.finish
 dsimp only
 cases h3 with
 | nil=>exact⟨h1,h2,.nil,h4,h5,h6,h7⟩
 | cons hi ht =>
  cases hi with
  | code c=>exact⟨h1,h2,.cons (.code c) ht,h4,h5,h6,h7⟩
  | inBlock c=>exact⟨h1,h2,.cons (.inBlock c) ht,h4,h5,h6,h7⟩
  | inLoop c=>exact⟨h1,h2,.cons (.inLoop c) ht,h4,h5,h6,h7⟩
  | inScope c=>exact⟨h1,h2,.cons (.inScope c) ht,h4,h5,h6,h7⟩
  | inRegion ops l =>
   cases l with
   | nil=>exact⟨h1,h2,.cons (.inRegion ops []) ht,h4,h5,h6,h7⟩
   | cons i r =>
    dsimp only
    cases (ops[i]?).bind (·.dst) with
    | none=>exact⟨h1,h2,.cons (.inRegion ops r) ht,h4,h5,h6,h7⟩
    | some d=>exact⟨h1,h2.set d hv,.cons (.inRegion ops r) ht,h4,h5,h6,h7⟩
  | inRangeFunc l hl=>exact⟨h1,h2,.cons (.endRangeFunc l hl) ht,h4,h5,h6,h7⟩
  | endRangeFunc l hl=>exact⟨h1,h2,.cons (.endRangeFunc l hl) ht,h4,h5,h6,h7⟩
  | beginRound=>exact⟨h1,h2,ht,h4,h5,h6,h7⟩
theorem arr_replicate (k:Nat):ArrR ρ n (Array.replicate k undef) (Array.replicate k undef):=by
 refine⟨rfl,fun i a b h1 h2=>?_⟩
 rw [h1] at h2
 cases h2
 rw [Array.getElem?_replicate] at h1
 split at h1
 ·cases h1;exact undef_R
 ·cases h1
theorem FR.enter (f:FuncId) {x x':Array Value}(h:ArrR ρ n x x') {k:CallKind}(hk:KindR k k):FR ρ n (Frame.enter P f x k) (Frame.enter P f x' k):=by
 unfold Frame.enter
 rw [← h.size]
 exact⟨rfl,h.append (arr_replicate _),.cons (.code _) .nil,.nil,.run,hk,.none⟩
theorem FR.round (l:Nat) (f:FuncId) {x x':Array Value}(as body:Code) (hl:l<n) (h:ArrR ρ n x x'):FR ρ n (Frame.round l f x as body .normal) (Frame.round (ρ.f l) f x' as body .normal) :=
 ⟨rfl,h,.cons (.code _) (.cons .beginRound (.cons (.code _) .nil)),.nil,.run,.normal,.some l hl⟩
theorem yielded_R (ops:Array Oper) {x x':Array Value}(h:ArrR ρ n x x'):yielded ops x=yielded ops x':=by
 funext j
 unfold yielded
 cases (ops[j]?).bind (·.dst) with
 | none=>rfl
 | some d =>
  simp only [Option.bind_some]
  rcases h.get? d with ⟨h1,h2⟩|⟨u,u',h1,h2,h3⟩
  ·rw [h1,h2]
  ·rw [h1,h2]
   cases h3<;>rfl
theorem exitTo_R (id:Nat) {k k':List Item}(h:LR (ItemR ρ n) k k'):(exitTo id k=none∧exitTo id k'=none)∨∃a b,exitTo id k=some a∧exitTo id k'=some b∧LR (ItemR ρ n) a b:=by
 induction h with
 | nil=>exact .inl ⟨rfl,rfl⟩
 | cons hi ht ih =>
  cases hi with
  | inBlock id' =>
   unfold exitTo
   split
   ·exact .inr ⟨_,_,rfl,rfl,ht⟩
   ·exact ih
  | _=>exact ih
theorem next_sound {fr fr':Frame}{cs cs':List Frame}{nx nx':Next}(hfr:FR ρ n fr fr') (hcs:LR (FR ρ n) cs cs') (hn:NextR ρ n nx nx') {f2:Frame}{c2:List Frame}
  (h:nextA fr cs P nx=some (f2,c2)):∃f2' c2',nextA fr' cs' P nx'=some (f2',c2')∧FR ρ n f2 f2'∧LR (FR ρ n) c2 c2':=by
 cases hn with
 | value hv=>cases h;exact⟨_,_,rfl,hfr.finish hv,hcs⟩
 | skip=>cases h;exact⟨_,_,rfl,hfr.finish undef_R,hcs⟩
 | enter f hx=>cases h;exact⟨_,_,rfl,.enter f hx .normal,.cons hfr hcs⟩
 | round l f as body hl hx=>cases h;exact⟨_,_,rfl,.round l f as body hl hx,.cons hfr hcs⟩
 | defer hd =>
  cases h
  refine⟨_,_,rfl,FR.finish ?_ undef_R,hcs⟩
  exact⟨hfr.fn,hfr.tmps,hfr.todo,.cons hd hfr.defers,hfr.mode,hfr.kind,hfr.roundOf⟩
 | recover =>
  unfold nextA at h ⊢
  have hr:=hfr.roundOf
  have hk:=hfr.kind
  have hfin:=hfr.finish (.nilIface)
  revert h hr hk hfin
  generalize fr.roundOf=a
  generalize fr'.roundOf=b
  generalize fr.kind=k
  generalize fr'.kind=k'
  generalize fr.finish .nilIface=x
  generalize fr'.finish .nilIface=y
  intro h hr hk hfin
  cases hr with
  | none =>
   cases hk with
   | normal=>cases hcs<;>(cases h;exact⟨_,_,rfl,hfin,by first | exact .nil | exact .cons (by assumption) (by assumption)⟩)
   | deferred =>
    cases hcs with
    | nil=>cases h
    | cons hc ht=>cases h;exact⟨_,_,rfl,hfin,.cons hc ht⟩
  | some r hl=>cases h
theorem apply_step {fr':Frame}{cs' bs:List Frame}{s:Sem Next}{nx':Next}{w w':World}{f2:Frame}{c2:List Frame}(hrun:s.run P w=.ok nx' w') (hn:nextA fr' cs' P nx'=some (f2,c2))
  (htodo:∀d r sv k,fr'.todo≠.call d true r sv :: k) (hk:KindR fr'.kind fr'.kind) (hcm:∀c∈cs',∀chain,c.mode≠.panicking chain) :
  (stepG.apply P true fr' (cs'++bs) none s w).bare=.go { frame:=f2,callers:=c2++bs,status:=.running,dying:=none } w':=by
 unfold stepG.apply
 simp only [Sem.runT_eq,if_true,hrun,GStep.bare_after]
 cases nx' with
 | value v=>cases hn;rfl
 | skip=>cases hn;rfl
 | enter f args =>
  cases hn
  rfl
 | round l f tmps as body=>cases hn;rfl
 | defer d=>cases hn;rfl
 | recover =>
  unfold nextA at hn
  cases hro:fr'.roundOf with
  | some l=>rw [hro] at hn;cases hn
  | none =>
   rw [hro] at hn
   have:tryRecover fr' (cs'++bs)=none∧f2=fr'.finish .nilIface∧c2=cs':=by
    unfold tryRecover
    cases hk':fr'.kind with
    | normal=>rw [hk'] at hn;cases hn;exact⟨rfl,rfl,rfl⟩
    | deferred =>
     rw [hk'] at hn
     cases cs' with
     | nil=>cases hn
     | cons c rest =>
      cases hn
      refine⟨?_,rfl,rfl⟩
      dsimp only [List.cons_append]
      cases hm:c.mode with
      | panicking chain=>exact absurd hm (hcm c (by simp) chain)
      | _=>rfl
    | _=>rw [hk'] at hk;cases hk
   obtain⟨h1,rfl,rfl⟩:=this
   simp only [h1]
   rfl
 | _=>cases hn
theorem ModeR.np {a b:FrameMode}(h:ModeR a b) (chain:List PanicEntry):b≠.panicking chain:=by
 cases h<;>(intro e;cases e)
theorem mode_cs {cs cs':List Frame}(h:LR (FR ρ n) cs cs'):∀c∈cs',∀chain,c.mode≠.panicking chain:=by
 induction h with
 | nil=>intro c hc;simp at hc
 | cons hf ht ih =>
  intro c hc chain
  rcases List.mem_cons.1 hc with rfl | hc
  ·exact hf.mode.np chain
  ·exact ih c hc chain
theorem KindR.self {a b:CallKind}(h:KindR a b):KindR b b:=by cases h<;>constructor
theorem goes_still {S:AState}{fr fr':Frame}{cs cs' bs:List Frame}{w:World}(hm:MR P B w0 ρ S fr cs fr' cs' w) {fr2 fr2':Frame}
  (hs:step P (lone fr' (cs'++bs) w)=.next (lone fr2' (cs'++bs) w)) (hf:FR ρ S.next fr2 fr2'):Goes P B w0 ρ S fr' cs' bs w fr2 cs S :=
 ⟨fr2',cs',w,ρ,hs,Ext.refl _ _,Nat.le_refl _,rfl,⟨hm.base,hm.wr,hf,hm.cs⟩⟩
theorem return_sound {fr fr':Frame}{cs cs' bs:List Frame}{v v':Value}{w:World}(hfr:FR ρ n fr fr') (hcs:LR (FR ρ n) cs cs') (hv:VR ρ n v v') {f2:Frame}{c2:List Frame}
  (h:returnA fr cs v=some (f2,c2)) :
  ∃f2' c2',doReturn P true fr' (cs'++bs) none v' w=.go { frame:=f2',callers:=c2'++bs,status:=.running,dying:=none } w∧FR ρ n f2 f2'∧LR (FR ρ n) c2 c2':=by
 cases hcs with
 | nil=>cases h
 | @cons c c' l l' hc ht =>
  unfold returnA at h
  have hk:=hfr.kind
  revert h hk
  unfold doReturn
  generalize fr.kind=k
  generalize fr'.kind=k'
  intro h hk
  cases hk with
  | normal =>
   cases h
   exact⟨_,_,rfl,hc.finish hv,ht⟩
  | deferred =>
   cases h
   refine⟨c',l',?_,hc,ht⟩
   have hm:∀chain,c'.mode≠.panicking chain:=mode_cs (.cons hc ht) c' (by simp)
   dsimp only [List.cons_append]
   cases hmm:c'.mode with
   | panicking chain=>exact absurd hmm (hm chain)
   | _=>rfl
end
end Go.Eng
namespace Go.Eng
open Go Go.RowKit
section
variable {P:Program}{B:Nat}{w0:World}{ρ:Ren}{n:Nat}
theorem getD_bool {x x':Array Value}(h:ArrR ρ n x x') (t:Nat) {b:Bool}(hb:x.getD t undef=.bool b):x'.getD t undef=.bool b:=by
 have:=h.getD t (d:=undef) undef_R
 rw [hb] at this
 generalize x'.getD t undef=y at this
 cases this
 rfl
theorem leave_sound {S:AState}{fr fr':Frame}{cs cs' bs:List Frame}{w:World}(hm:MR P B w0 ρ S fr cs fr' cs' w) (hmode:fr'.mode=.run) (jump:Option Code) {f2:Frame}{c2:List Frame}{S2:AState}
  (h:leaveA P fr cs S jump=some (f2,c2,S2))
  (hexec:∀l,fr'.roundOf=some l→stepG.exec P true true fr' (cs'++bs) none w=(let (r,es):=(Instr.endRound l jump).runT P w #[];GStep.after (seen P fr'.fn es) <| match r with
    | .ok v w=>doReturn P true fr' (cs'++bs) none v w
    | .halt _ w=>.ended (.stuck "range over a function: no such loop" (fr'.pos P)) w)):Goes P B w0 ρ S fr' cs' bs w f2 c2 S2:=by
 unfold leaveA at h
 cases hr:fr.roundOf with
 | none=>rw [hr] at h;cases h
 | some l =>
  rw [hr] at h
  dsimp only at h
  have hro:=hm.fr.roundOf
  rw [hr] at hro
  have hro':l<S.next∧fr'.roundOf=some (ρ.f l):=by
   revert hro
   generalize fr'.roundOf=b
   intro hro
   cases hro with
   | some _ hl=>exact⟨hl,rfl⟩
  obtain⟨hl,hr'⟩:=hro'
  split at h
  case h_2=>cases h
  rename_i v S1 hrun
  split at h
  case h_2=>cases h
  rename_i f c hret
  simp only [Option.some.injEq,Prod.mk.injEq] at h
  obtain⟨rfl,rfl,rfl⟩:=h
  obtain⟨b,w',ρ',g1,g2,g3,gp,g4,g5,_⟩:=sim_endRound (P:=P) (B:=B) (w0:=w0) hl jump ρ S w (Ext.refl _ _) (Nat.le_refl _) hm.wr v S1 hrun
  obtain⟨f2',c2',k1,k2,k3⟩:=return_sound (P:=P) (bs:=bs) (w:=w') (hm.fr.mono g2 g3) (hm.cs.imp fun _ _ h=>h.mono g2 g3) g5 hret
  refine⟨f2',c2',w',ρ',step_lone_go ?_,g2,g3,gp,⟨hm.base.mono g2 g3,g4,k2,k3⟩⟩
  have e:stepG P true { frame:=fr',callers:=cs'++bs,status:=.running,dying:=none } w=stepG.exec P true true fr' (cs'++bs) none w:=by
   unfold stepG
   simp [hmode]
  rw [e,hexec _ hr']
  simp only [Sem.runT_eq,g1,GStep.bare_after,k1]
  rfl
theorem runStep_sound (E:Env P) {S:AState}{fr fr':Frame}{cs cs' bs:List Frame}{w:World}(hm:MR P B w0 ρ S fr cs fr' cs' w) (hmode:fr.mode=.run) {f2:Frame}{c2:List Frame}{S2:AState}
  (h:runStepA E fr cs S=some (f2,c2,S2)):Goes P B w0 ρ S fr' cs' bs w f2 c2 S2:=by
 have hmode':fr'.mode=.run:=by
  have:=hm.fr.mode
  rw [hmode] at this
  revert this
  generalize fr'.mode=m
  intro h
  cases h
  rfl
 have hall:=hm
 obtain⟨xf,xt,xd,xr,xm,xk,xo⟩:=fr
 obtain⟨yf,yt,yd,yr,ym,yk,yo⟩:=fr'
 dsimp only at hmode hmode'
 subst hmode hmode'
 obtain⟨hbase,hwr,⟨h1,h2,h3,h4,h5,h6,h7⟩,hcs⟩:=hm
 dsimp only at h1 h2 h3 h4 h5 h6 h7
 subst h1
 have same:∀{d d':List Item},LR (ItemR ρ S.next) d d'→FR ρ S.next ⟨xf,xt,d,xr,.run,xk,xo⟩ ⟨xf,yt,d',yr,.run,yk,yo⟩:=fun hd=>⟨rfl,h2,hd,h4,.run,h6,h7⟩
 have ret:FR ρ S.next ⟨xf,xt,xd,xr,.returning,xk,xo⟩ ⟨xf,yt,yd,yr,.returning,yk,yo⟩:=⟨rfl,h2,h3,h4,.returning,h6,h7⟩
 unfold runStepA at h
 cases h3 with
 | nil =>
  dsimp only at h
  cases h7 with
  | none=>cases h;exact goes_still hall (step_lone_go (by simp [stepG,stepG.exec])) ret
  | some r hr =>
   refine leave_sound hall rfl none h (fun l hl=>?_)
   cases hl
   simp [stepG.exec]
   rfl
 | @cons i i' k k' hi ht =>
  cases hi with
  | inBlock id=>cases h;exact goes_still hall (step_lone_go (by simp [stepG,stepG.exec])) (same ht)
  | inScope c=>cases h;exact goes_still hall (step_lone_go (by simp [stepG,stepG.exec])) (same ht)
  | inLoop c=>cases h;exact goes_still hall (step_lone_go (by simp [stepG,stepG.exec])) (same (.cons (.code c) (.cons (.inLoop c) ht)))
  | inRangeFunc l hl=>cases h
  | beginRound =>
   dsimp only at h
   cases h7 with
   | none=>cases h
   | some l hl =>
    dsimp only at h
    split at h
    case h_2=>cases h
    rename_i u S1 hrun
    cases h
    obtain⟨b,w',ρ',g1,g2,g3,gp,g4,g5,_⟩:=sim_beginRound (P:=P) (B:=B) (w0:=w0) hl ρ S w (Ext.refl _ _) (Nat.le_refl _) hwr u _ hrun
    have hf2:=(same (d:=k) (d':=k') ht).mono g2 g3
    refine⟨⟨xf,yt,k',yr,.run,yk,some (ρ.f l)⟩,cs',w',ρ',step_lone_go ?_,g2,g3,gp,⟨hbase.mono g2 g3,g4,hf2,hcs.imp fun _ _ h=>h.mono g2 g3⟩⟩
    have hsem:(Functor.map (fun (_:Unit)=>Next.skip) (Instr.beginRound (ρ.f l))).run P w=.ok .skip w':=by rw [map_eq_pure_bind,bind_eq,Sem.run_bind',g1];rfl
    have:=apply_step (P:=P) (fr':=⟨xf,yt,.beginRound :: k',yr,.run,yk,some (ρ.f l)⟩) (cs':=cs') (bs:=bs) hsem (f2:=⟨xf,yt,k',yr,.run,yk,some (ρ.f l)⟩) (c2:=cs') rfl (fun _ _ _ _ h=>by cases h) h6.self (mode_cs hcs)
    simpa [stepG,stepG.exec] using this
  | endRangeFunc l hl =>
   dsimp only at h
   split at h
   case h_2=>cases h
   rename_i j S1 hrun
   cases h
   obtain⟨b,w',ρ',g1,g2,g3,gp,g4,g5,_⟩:=sim_endLoop (P:=P) (B:=B) (w0:=w0) hl ρ S w (Ext.refl _ _) (Nat.le_refl _) hwr j _ hrun
   cases g5
   have hj:LR (ItemR ρ S.next) ((j.map Item.code).toList++k) ((j.map Item.code).toList++k'):=by
    cases j with
    | none=>exact ht
    | some c=>exact .cons (.code c) ht
   refine⟨⟨xf,yt,(j.map Item.code).toList++k',yr,.run,yk,yo⟩,cs',w',ρ',step_lone_go ?_,g2,g3,gp,⟨hbase.mono g2 g3,g4,(same hj).mono g2 g3,hcs.imp fun _ _ h=>h.mono g2 g3⟩⟩
   simp [stepG,stepG.exec,Sem.runT_eq,g1]
  | inRegion ops l =>
   cases l with
   | nil=>cases h;exact goes_still hall (step_lone_go (by simp [stepG,stepG.exec])) (same ht)
   | cons i r =>
    dsimp only at h
    have hy:=yielded_R ops h2
    cases ho:ops[i]? with
    | none =>
     rw [ho] at h
     cases h
     refine goes_still hall (step_lone_go ?_) (hall.fr.finish undef_R)
     simp [stepG,stepG.exec,ho]
    | some o =>
     rw [ho] at h
     dsimp only at h
     cases hwant:Region.wanted o (yielded ops xt) with
     | false =>
      rw [hwant] at h
      cases h
      refine goes_still hall (step_lone_go ?_) (hall.fr.finish undef_R)
      simp [stepG,stepG.exec,ho,← hy,hwant]
     | true =>
      rw [hwant] at h
      dsimp only at h
      split at h
      ·cases h
      ·rename_i hnd
       split at h
       case h_2=>cases h
       rename_i nx S1 hop
       split at h
       case h_2=>cases h
       rename_i f c hnx
       cases h
       obtain⟨nx',w',ρ',g1,g2,g3,gp,g4,g5⟩:=stepOp_sound E (a:=actOf ⟨xf,xt,.inRegion ops (i :: r) :: k,xr,.run,xk,xo⟩) (a':=actOf ⟨xf,yt,.inRegion ops (i :: r) :: k',yr,.run,yk,yo⟩) hwr hbase h2 o hop
       obtain⟨f2',c2',k1,k2,k3⟩:=next_sound (P:=P) (hall.fr.mono g2 g3) (hcs.imp fun _ _ h=>h.mono g2 g3) g5 hnx
       refine⟨f2',c2',w',ρ',step_lone_go ?_,g2,g3,gp,⟨hbase.mono g2 g3,g4,k2,k3⟩⟩
       have hap:=apply_step (P:=P) (bs:=bs) g1 k1 (fun _ _ _ _ h=>by cases h) h6.self (mode_cs hcs)
       rw [← hap]
       have hex:stepG P true { frame:=⟨xf,yt,.inRegion ops (i :: r) :: k',yr,.run,yk,yo⟩,callers:=cs'++bs,status:=.running,dying:=none } w =
         stepG.oper P true ⟨xf,yt,.inRegion ops (i :: r) :: k',yr,.run,yk,yo⟩ (cs'++bs) none w:=by
        simp [stepG,stepG.exec,ho,← hy,hwant]
       rw [hex]
       unfold stepG.oper
       simp only [Frame.oper?,ho]
       have hre:∀l c,¬ (yo=some l∧o.op=.defer c):=by
        intro l c ⟨e1,e2⟩
        rw [e2] at hnd
        cases h7 with
        | none=>cases e1
        | some r hr=>simp [isDefer] at hnd
       rw [eval_act]
       cases hyo:yo with
       | none=>rfl
       | some l =>
        cases hop':o.op with
        | defer c=>exact absurd ⟨hyo,hop'⟩ (hre l c)
        | _=>rfl
  | code c =>
   cases c with
   | skip=>cases h;exact goes_still hall (step_lone_go (by simp [stepG,stepG.exec])) (same ht)
   | label l=>cases h;exact goes_still hall (step_lone_go (by simp [stepG,stepG.exec])) (same ht)
   | seq a b=>cases h;exact goes_still hall (step_lone_go (by simp [stepG,stepG.exec])) (same (.cons (.code a) (.cons (.code b) ht)))
   | block id b=>cases h;exact goes_still hall (step_lone_go (by simp [stepG,stepG.exec])) (same (.cons (.code b) (.cons (.inBlock id) ht)))
   | loop b=>cases h;exact goes_still hall (step_lone_go (by simp [stepG,stepG.exec])) (same (.cons (.code b) (.cons (.inLoop b) ht)))
   | scope b=>cases h;exact goes_still hall (step_lone_go (by simp [stepG,stepG.exec])) (same (.cons (.code b) (.cons (.inScope b) ht)))
   | ret =>
    dsimp only at h
    cases h7 with
    | none=>cases h;exact goes_still hall (step_lone_go (by simp [stepG,stepG.exec])) ret
    | some r hr =>
     refine leave_sound hall rfl (some .ret) h (fun l hl=>?_)
     cases hl
     simp [stepG.exec]
     rfl
   | exit id =>
    dsimp only at h
    rcases exitTo_R id ht with ⟨e1,e2⟩|⟨a,b,e1,e2,e3⟩
    ·rw [e1] at h
     refine leave_sound hall rfl (some (.exit id)) h (fun l hl=>?_)
     cases hl
     simp [stepG.exec,e2]
     rfl
    ·rw [e1] at h
     cases h
     exact goes_still hall (step_lone_go (by simp [stepG,stepG.exec,e2])) (same e3)
   | cond c thn els =>
    cases c with
    | tmp t =>
     dsimp only at h
     split at h
     ·rename_i hb
      cases h
      have:=getD_bool h2 t hb
      exact goes_still hall (step_lone_go (by simp [stepG,stepG.exec,Frame.eval,this] )) (same (.cons (.code thn) ht))
     ·rename_i hb
      cases h
      have:=getD_bool h2 t hb
      exact goes_still hall (step_lone_go (by simp [stepG,stepG.exec,Frame.eval,this] )) (same (.cons (.code els) ht))
     ·cases h
    | const v =>
     cases v with
     | bool b =>
      cases b with
      | true=>cases h;exact goes_still hall (step_lone_go (by simp [stepG,stepG.exec,Frame.eval])) (same (.cons (.code thn) ht))
      | false=>cases h;exact goes_still hall (step_lone_go (by simp [stepG,stepG.exec,Frame.eval])) (same (.cons (.code els) ht))
     | _=>cases h
    | _=>cases h
   | region id ops draw =>
    cases draw with
    | true=>cases h
    | false=>cases h;exact goes_still hall (step_lone_go (by simp [stepG,stepG.exec])) (same (.cons (.inRegion ops _) ht))
   | rangeFunc f params assign body =>
    dsimp only at h
    unfold enterLoopA at h
    cases h7 with
    | some r hr=>cases h
    | none =>
     dsimp only at h
     split at h
     case h_2=>cases h
     rename_i nx S3 hop
     split at h
     case h_2=>cases h
     rename_i f3 c3 hnx
     cases h
     have hw1:=hwr.push (o:=(.rest (.deferred (some [])))) (o':=.deferred (some [])) (d:=0) (w':={ w with heap:=w.heap.push (.deferred (some [])) }) rfl rfl rfl rfl (.deferred .nil)
     have he1:=ρ.upd_ext S.next w.heap.size 0
     have hw2:=hw1.push (o:=.rest (.loop { state:=.ready,pending:=none,fn:=xf,tmps:=xt,params,assign,body,defers:=S.next }))
      (o':=.loop { state:=.ready,pending:=none,fn:=xf,tmps:=yt,params,assign,body,defers:=w.heap.size }) (d:=0)
      (w':={ w with heap:=(w.heap.push (.deferred (some []))).push (.loop { state:=.ready,pending:=none,fn:=xf,tmps:=yt,params,assign,body,defers:=w.heap.size }) }) rfl rfl rfl rfl (by
       refine .loop rfl rfl rfl ?_ rfl rfl rfl ?_ ?_
       ·exact (h2.mono he1 (show S.next≤S.next+1 by omega)).mono (Ren.upd_ext _ _ _ _) (by simp [AState.push_eq])
       ·show S.next<S.next+1+1;omega
       ·simp [AState.push_eq,Ren.upd])
     have he2:=(ρ.upd S.next w.heap.size 0).upd_ext (S.next+1) (w.heap.size+1) 0
     have hsz:(w.heap.push (.deferred (some []))).size=w.heap.size+1:=by simp
     have hnx1:(S.push (.rest (.deferred (some [])))).next=S.next+1:=rfl
     simp only [hnx1,hsz] at hw2
     have he:Ext S.next ρ ((ρ.upd S.next w.heap.size 0).upd (S.next+1) (w.heap.size+1) 0):=he1.trans he2 (by omega)
     have hbase2:=hbase.mono he (show S.next≤S.next+2 by omega)
     have hf2:FR ((ρ.upd S.next w.heap.size 0).upd (S.next+1) (w.heap.size+1) 0) (S.next+2)
       ⟨xf,xt,.inRangeFunc (S.next+1) :: k,[{ target:=.collected S.next,args:=#[] }]++xr,.run,xk,none⟩
       ⟨xf,yt,.inRangeFunc (w.heap.size+1) :: k',[{ target:=.collected w.heap.size,args:=#[] }]++yr,.run,yk,none⟩:=by
      have hle:S.next≤S.next+2:=by omega
      refine⟨rfl,h2.mono he hle,.cons ?_ (ht.imp fun _ _ h=>h.mono he hle),.cons ⟨?_,ArrR.nil⟩ (h4.imp fun _ _ h=>h.mono he hle),.run,h6,.none⟩
      ·have:=ItemR.inRangeFunc (ρ:=(ρ.upd S.next w.heap.size 0).upd (S.next+1) (w.heap.size+1) 0) (n:=S.next+2) (S.next+1) (by omega)
       simpa [Ren.upd] using this
      ·have:=TargetR.collected (ρ:=(ρ.upd S.next w.heap.size 0).upd (S.next+1) (w.heap.size+1) 0) (n:=S.next+2) S.next (by omega)
       simpa [Ren.upd] using this
     have hyv:ArrR ((ρ.upd S.next w.heap.size 0).upd (S.next+1) (w.heap.size+1) 0) (S.next+2) #[.func (.yield (S.next+1)) #[] #[]] #[.func (.yield (w.heap.size+1)) #[] #[]]:=by
      have:=VR.func (ρ:=(ρ.upd S.next w.heap.size 0).upd (S.next+1) (w.heap.size+1) 0) (n:=S.next+2) (.yield (S.next+1) (by omega)) (rfl:(#[]:Array Value).size=0) (fun i v v' h _=>by simp at h) (rfl:(#[]:Array Value).size=0) (fun i v v' h _=>by simp at h) (x':=#[]) (y':=#[])
      have e:((ρ.upd S.next w.heap.size 0).upd (S.next+1) (w.heap.size+1) 0).f (S.next+1)=w.heap.size+1:=by simp [Ren.upd]
      rw [e] at this
      simpa using (ArrR.nil (ρ:=(ρ.upd S.next w.heap.size 0).upd (S.next+1) (w.heap.size+1) 0) (n:=S.next+2)).push this
     have hsim:Sim P B w0 false NRel ((ρ.upd S.next w.heap.size 0).upd (S.next+1) (w.heap.size+1) 0) (S.next+2)
       ((getV (actOf ⟨xf,xt,.code (.rangeFunc f params assign body) :: k,xr,.run,xk,none⟩) f).bind fun v=>(ofValueA v #[.func (.yield (S.next+1)) #[] #[]]).bind fun d=>invokeA E d.target d.args)
       ((Deferred.ofValue ((actOf ⟨xf,yt,.code (.rangeFunc f params assign body) :: k',yr,.run,yk,none⟩).eval f) #[.func (.yield (w.heap.size+1)) #[] #[]]).bind fun d=>invoke d.target d.args):=by
      refine Sim.get (a':=actOf ⟨xf,yt,.code (.rangeFunc f params assign body) :: k',yr,.run,yk,none⟩) hbase2 (h2.mono he (show S.next≤S.next+2 by omega)) f fun v hv=>?_
      refine Sim.bind (sim_ofValue hv hyv) fun ρ1 n1 d d' e1 e2 hd=>?_
      exact sim_invoke E (hbase2.mono e1 e2) hd.target hd.args
     obtain⟨nx',w',ρ',g1,g2,g3,gp,g4,g5,_⟩:=hsim _ _ _ (Ext.refl _ _) (by simp [AState.push_eq]) hw2 nx _ hop
     have g2':Ext (S.next+2) ((ρ.upd S.next w.heap.size 0).upd (S.next+1) (w.heap.size+1) 0) ρ':=g2
     have g3':S.next+2≤S2.next:=g3
     obtain⟨f2',c2',k1,k2,k3⟩:=next_sound (P:=P) (hf2.mono g2' g3') (hcs.imp fun _ _ h=>(h.mono he (show S.next≤S.next+2 by omega)).mono g2' g3') g5 hnx
     refine⟨f2',c2',w',ρ',step_lone_go ?_,he.trans g2' (by omega),by omega,gp,⟨hbase2.mono g2' g3',g4,k2,k3⟩⟩
     have hap:=apply_step (P:=P) (bs:=bs) g1 k1 (fun _ _ _ _ h=>by cases h) h6.self (mode_cs hcs)
     rw [← hap]
     have hen:(Instr.enterLoop xf yt params assign body none).run P w=.ok (w.heap.size+1,[{ target:=.collected w.heap.size,args:=#[] }])
       { w with heap:=(w.heap.push (.deferred (some []))).push (.loop { state:=.ready,pending:=none,fn:=xf,tmps:=yt,params,assign,body,defers:=w.heap.size }) }:=by
      simp [Instr.enterLoop,newObj,bind_eq,pure_eq,Sem.bind,Sem.run]
     have hex:stepG P true { frame:=⟨xf,yt,.code (.rangeFunc f params assign body) :: k',yr,.run,yk,none⟩,callers:=cs'++bs,status:=.running,dying:=none } w =
       stepG.exec P true true ⟨xf,yt,.code (.rangeFunc f params assign body) :: k',yr,.run,yk,none⟩ (cs'++bs) none w:=by
      unfold stepG
      rfl
     rw [hex]
     simp only [stepG.exec,Sem.runT_eq,hen,GStep.bare_after]
     have hres:∀(v:Value) (t:List Item) (d:List Deferred),resolve (Frame.eval ⟨xf,yt,t,d,.run,yk,none⟩) { callee:=.value f,args:=#[.const v],argTypes:=#[] } 0 =
       Deferred.ofValue ((actOf ⟨xf,yt,.code (.rangeFunc f params assign body) :: k',yr,.run,yk,none⟩).eval f) #[v]:=by
      intro v t d
      unfold resolve
      have e:Array.map (Frame.eval ⟨xf,yt,t,d,.run,yk,none⟩) #[.const v]=#[v]:=by simp [Frame.eval]
      dsimp only
      rw [e]
      cases f<;>rfl
     rw [hres]
     rfl
   | _=>cases h
end
end Go.Eng
namespace Go.Eng
open Go Go.RowKit
section
variable {P:Program}{B:Nat}{w0:World}{ρ:Ren}{n:Nat}
theorem leaveStep_sound (E:Env P) {S:AState}{fr fr':Frame}{cs cs' bs:List Frame}{w:World}(hm:MR P B w0 ρ S fr cs fr' cs' w) (hmode:fr.mode=.returning) {f2:Frame}{c2:List Frame}{S2:AState}
  (h:leaveStepA E fr cs S=some (f2,c2,S2)):Goes P B w0 ρ S fr' cs' bs w f2 c2 S2:=by
 have hmode':fr'.mode=.returning:=by
  have:=hm.fr.mode
  rw [hmode] at this
  revert this
  generalize fr'.mode=m
  intro h
  cases h
  rfl
 obtain⟨xf,xt,xd,xr,xm,xk,xo⟩:=fr
 obtain⟨yf,yt,yd,yr,ym,yk,yo⟩:=fr'
 dsimp only at hmode hmode'
 subst hmode hmode'
 have hall:=hm
 obtain⟨hbase,hwr,⟨h1,h2,h3,h4,h5,h6,h7⟩,hcs⟩:=hm
 dsimp only at h1 h2 h3 h4 h5 h6 h7
 subst h1
 unfold leaveStepA at h
 have top:∀(yr:List Deferred),stepG P true { frame:=⟨xf,yt,yd,yr,.returning,yk,yo⟩,callers:=cs'++bs,status:=.running,dying:=none } w =
   unwind P true ⟨xf,yt,yd,yr,.returning,yk,yo⟩ (cs'++bs) none w:=fun _=>rfl
 cases h4 with
 | nil =>
  dsimp only at h
  cases cs with
  | nil=>cases h
  | cons c cs =>
   dsimp only at h
   split at h
   case h_2=>cases h
   rename_i fn hfn
   split at h
   case h_2=>cases h
   rename_i v S1 hrun
   split at h
   case h_2=>cases h
   rename_i f3 c3 hret
   cases h
   obtain⟨b,w',ρ',g1,g2,g3,gp,g4,g5,_⟩:=sim_results (P:=P) (B:=B) (w0:=w0) (q:=false) fn h2 ρ S w (Ext.refl _ _) (Nat.le_refl _) hwr v _ hrun
   obtain⟨f2',c2',k1,k2,k3⟩:=return_sound (P:=P) (bs:=bs) (w:=w') (hall.fr.mono g2 g3) (hcs.imp fun _ _ h=>h.mono g2 g3) g5 hret
   refine⟨f2',c2',w',ρ',step_lone_go ?_,g2,g3,gp,⟨hbase.mono g2 g3,g4,k2,k3⟩⟩
   rw [top]
   simp only [unwind,hfn,Sem.runT_eq,g1,GStep.bare_after,k1]
   rfl
 | @cons d d' ds ds' hd ht =>
  obtain⟨dt,da⟩:=d
  obtain⟨dt',da'⟩:=d'
  obtain⟨hdt,hda⟩:=hd
  dsimp only at hdt hda
  cases hdt with
  | collected r hr =>
   dsimp only at h
   split at h
   case h_2=>cases h
   rename_i calls S1 hrun
   cases h
   obtain⟨b,w',ρ',g1,g2,g3,gp,g4,g5,_⟩:=sim_takeDeferred (P:=P) (B:=B) (w0:=w0) hr ρ S w (Ext.refl _ _) (Nat.le_refl _) hwr calls _ hrun
   have happ:∀{a b:List Deferred},LR (DefR ρ' S2.next) a b→LR (DefR ρ' S2.next) (a++ds) (b++ds'):=by
    intro a b h
    induction h with
    | nil=>exact ht.imp fun _ _ h=>h.mono g2 g3
    | cons h _ ih=>exact .cons h ih
   refine⟨⟨xf,yt,yd,b++ds',.returning,yk,yo⟩,cs',w',ρ',step_lone_go ?_,g2,g3,gp,
    ⟨hbase.mono g2 g3,g4,⟨rfl,h2.mono g2 g3,h3.imp fun _ _ h=>h.mono g2 g3,happ g5,.returning,h6,h7.mono g2 g3⟩,hcs.imp fun _ _ h=>h.mono g2 g3⟩⟩
   rw [top]
   simp only [unwind,Sem.runT_eq,g1,GStep.bare_after]
   rfl
  | fn hf hx =>
   dsimp only at h
   split at h
   case h_2=>cases h
   rename_i f args S1 hrun
   cases h
   obtain⟨b,w',ρ',g1,g2,g3,gp,g4,g5,_⟩:=sim_invoke (P:=P) (B:=B) (w0:=w0) (q:=false) E hbase (.fn hf hx) hda ρ S w (Ext.refl _ _) (Nat.le_refl _) hwr _ _ hrun
   cases g5 with
   | enter _ hargs =>
    rename_i args'
    have hfr2:FR ρ' S2.next ⟨xf,xt,xd,ds,.returning,xk,xo⟩ ⟨xf,yt,yd,ds',.returning,yk,yo⟩ :=
     ⟨rfl,h2.mono g2 g3,h3.imp fun _ _ h=>h.mono g2 g3,ht.imp fun _ _ h=>h.mono g2 g3,.returning,h6,h7.mono g2 g3⟩
    refine⟨Frame.enter P f args' .deferred,⟨xf,yt,yd,ds',.returning,yk,yo⟩ :: cs',w',ρ',step_lone_go ?_,g2,g3,gp,
     ⟨hbase.mono g2 g3,g4,.enter f hargs .deferred,.cons hfr2 (hcs.imp fun _ _ h=>h.mono g2 g3)⟩⟩
    rw [top]
    simp only [unwind,callDeferred,Sem.runT_eq,g1]
    simp
theorem put_defers (a:Act) (d:Option Tmp) (v:Value):(a.put d v).defers=a.defers:=by cases d<;>rfl
end
end Go.Eng
namespace Go.Eng
open Go Go.RowKit
theorem getVs_congr {a a':Act}:∀{l:List Operand},(∀x∈l,getV a x=getV a' x)→getVs a l=getVs a' l
 | [],_=>rfl
 | x :: l,h=>by
  unfold getVs
  rw [h x (by simp),getVs_congr (l:=l) fun y hy=>h y (by simp [hy])]
theorem getPs_congr {a a':Act}:∀{l:List (Nat×Operand)},(∀x∈l,getV a x.2=getV a' x.2)→getPs a l=getPs a' l
 | [],_=>rfl
 | x :: l,h=>by
  unfold getPs
  rw [h x (by simp),getPs_congr (l:=l) fun y hy=>h y (by simp [hy])]
theorem getO_congr {a a':Act}{x:Option Operand}(h:∀y,x=some y→getV a y=getV a' y):getO a x=getO a' x:=by
 cases x with
 | none=>rfl
 | some y=>unfold getO;dsimp only;rw [h y rfl]
theorem callA_congr {P:Program}(E:Env P) {a a':Act}(c:Call) (h:∀x∈c.operands,getV a x=getV a' x):callA E a c=callA E a' c:=by
 have hargs:getVs a c.args.toList=getVs a' c.args.toList:=getVs_congr fun x hx=>h x (by simp at hx;simp [Call.operands,hx])
 unfold callA
 cases hc:c.callee with
 | value f=>simp only [hargs,h f (by simp [Call.operands,hc])]
 | invoke r m=>simp only [hargs,h r (by simp [Call.operands,hc])]
 | builtin b=>cases b<;>simp only [hargs]
theorem deferA_congr {a a':Act}(c:Call) (h:∀x∈c.operands,getV a x=getV a' x):deferA a c=deferA a' c:=by
 have hargs:getVs a c.args.toList=getVs a' c.args.toList:=getVs_congr fun x hx=>h x (by simp at hx;simp [Call.operands,hx])
 unfold deferA
 cases hc:c.callee with
 | value f=>simp only [hargs,h f (by simp [Call.operands,hc])]
 | _=>rfl
theorem opA_congr {P:Program}(E:Env P) {a a':Act}(o:Oper) (h:∀x∈o.op.operands,getV a x=getV a' x):opA E a o=opA E a' o:=by
 obtain⟨dst,op,type,pos,after,guard⟩:=o
 dsimp only at h
 cases op with
 | build t ps=>simp only [opA];rw [getPs_congr (a:=a) (a':=a') fun x hx=>h x.2 (by simp [Op.operands];exact⟨x.1,by simpa using hx⟩)]
 | buildSlice t n ps=>simp only [opA];rw [getPs_congr (a:=a) (a':=a') fun x hx=>h x.2 (by simp [Op.operands];exact⟨x.1,by simpa using hx⟩)]
 | makeFunc fn first captured =>
  simp only [opA]
  rw [getVs_congr (a:=a) (a':=a') (l:=first.toList) fun x hx=>h x (by simp at hx;simp [Op.operands,hx]),
   getVs_congr (a:=a) (a':=a') (l:=captured.toList) fun x hx=>h x (by simp at hx;simp [Op.operands,hx])]
 | call c=>simp only [opA];exact callA_congr E c h
 | defer c=>simp only [opA];exact deferA_congr c h
 | makeMap t r=>simp only [opA];rw [getO_congr (a:=a) (a':=a') fun y hy=>h y (by subst hy;simp [Op.operands])]
 | slice t x lo hi mx =>
  simp only [opA]
  rw [h x (by simp [Op.operands]),getO_congr (a:=a) (a':=a') (x:=lo) fun y hy=>h y (by subst hy;simp [Op.operands]),
   getO_congr (a:=a) (a':=a') (x:=hi) fun y hy=>h y (by subst hy;simp [Op.operands]),getO_congr (a:=a) (a':=a') (x:=mx) fun y hy=>h y (by subst hy;simp [Op.operands])]
 | next x s=>cases s<;>simp only [opA]<;>first | rfl | rw [h x (by simp [Op.operands])]
 | _=>simp only [opA]<;>simp only [Op.operands] at h<;>first | rfl | (simp_all;done)
theorem stepOpA_congr {P:Program}(E:Env P) {a a':Act}(o:Oper) (S:AState) (h:∀x∈o.op.operands,getV a x=getV a' x):stepOpA E a o S=stepOpA E a' o S:=by
 have ho:=opA_congr E o h
 obtain⟨dst,op,type,pos,after,guard⟩:=o
 dsimp only at h
 unfold stepOpA
 rw [ho]
 split
 ·rename_i x args ts heq
  dsimp only at heq
  subst heq
  rw [getVs_congr (a:=a) (a':=a') (l:=args.toList) fun x hx=>h x (by simp at hx;simp [Op.operands,Call.operands,hx])]
 ·rename_i y s d x heq
  dsimp only at heq
  subst heq
  rw [h x (by simp [Op.operands])]
 ·rfl
def opTmps (o:Oper):List Tmp:=o.op.operands.toList.filterMap fun | .tmp t=>some t | _=>none
def only (T:List Tmp) (x:Array Value):Array Value:=(Array.range x.size).map fun t=>if T.contains t=true then x.getD t undef else undef
theorem getD_only {T:List Tmp}{x:Array Value}{t:Tmp}(h:t∈T):(only T x).getD t undef=x.getD t undef:=by
 unfold only
 by_cases ht:t<x.size
 ·simp [Array.getD,ht,h]
 ·simp [Array.getD,ht]
theorem only_R {ρ:Ren}{n:Nat}{T:List Tmp}{x x':Array Value}(hs:x.size=x'.size) (h:∀t∈T,VR ρ n (x.getD t undef) (x'.getD t undef)):ArrR ρ n (only T x) (only T x'):=by
 refine⟨by simp [only,hs],fun i u v h1 h2=>?_⟩
 simp only [only,Array.getElem?_map,Option.map_eq_some_iff] at h1 h2
 obtain⟨a,ha,rfl⟩:=h1
 obtain⟨b,hb,rfl⟩:=h2
 rw [← hs,ha] at hb
 cases hb
 split
 ·rename_i hc;exact h a (by simpa using hc)
 ·exact undef_R
theorem getV_only {a:Act}{o:Oper}{x:Operand}(hx:x∈o.op.operands):getV ⟨only (opTmps o) a.tmps,a.defers⟩ x=getV a x:=by
 cases x with
 | tmp t =>
  simp only [getV]
  rw [rd_eq,rd_eq,getD_only]
  exact List.mem_filterMap.2 ⟨.tmp t,by simpa using hx,rfl⟩
 | _=>rfl
theorem eval_only {a:Act}{o:Oper}{x:Operand}(hx:x∈o.op.operands):(⟨only (opTmps o) a.tmps,a.defers⟩:Act).eval x=a.eval x:=by
 cases x with
 | tmp t =>
  have:=getD_only (x:=a.tmps) (T:=opTmps o) (t:=t) (List.mem_filterMap.2 ⟨.tmp t,by simpa using hx,rfl⟩)
  simpa [Act.eval,Array.getD_eq_getD_getElem?] using this
 | _=>rfl
def deps (o:Oper):List Nat:=o.after.toList.filterMap fun e=>match Region.binds .any e with
 | true=>some e.on
 | false=>none
def dstOf (ops:Array Oper) (i:Nat):Option Tmp:=(ops[i]?).bind (·.dst)
def memN (i:Nat):List Nat→Bool
 | []=>false
 | j :: l=>Nat.beq i j || memN i l
theorem memN_iff {i:Nat}{l:List Nat}:memN i l=true↔i∈l:=by
 induction l with
 | nil=>simp [memN]
 | cons a l ih=>simp [memN,ih]
def noSel:Op→Bool
 | .select _ _=>false
 | _=>true
def isAsg:Op→Bool
 | .assign _=>true
 | _=>false
def lookOk (ops:Array Oper) (i:Nat) (o:Oper):Bool :=
 (opTmps o).all fun t=>(List.range ops.size).all fun j=>match ops[j]? with
  | some oj=>match oj.dst with
   | some d=>!(Nat.beq d t) || memN j (deps o) || isAsg oj.op && memN i (deps oj)
   | none=>true
  | none=>true
def wfOp (ops:Array Oper) (i:Nat) (o:Oper):Bool :=
 (deps o).all (fun j=>Nat.ble (j+1) i) && lookOk ops i o && noSel o.op &&
 (match o.guard with
  | some (g,_)=>memN g (deps o)
  | none=>true) &&
 (match o.dst with
  | some d=>(List.range ops.size).all fun j=>Nat.beq i j || match dstOf ops j with
   | some t=>!(Nat.beq d t)
   | none=>true
  | none=>true)
def wfFrom (ops:Array Oper):Nat→List Oper→Bool
 | _,[]=>true
 | i,o :: l=>wfOp ops i o && wfFrom ops (i+1) l
def readOp (op:Op):Bool:=match op with
 | .call { callee:=.builtin .len,.. } | .call { callee:=.builtin .min,.. } | .call { callee:=.builtin .max,.. } | .call { callee:=.builtin .cap,.. }=>true
 | .call _=>false
 | .assign _=>false
 | op=>quietOp op
theorem readOp_quiet {op:Op}(h:readOp op=true):quietOp op=true:=by
 unfold readOp at h
 split at h<;>first | rfl | exact h | cases h
def eqV:Nat→Value→Value→Bool
 | 0,_,_=>false
 | m+1,v,u=>match v,u with
  | .bool a,.bool b=>a == b
  | .int j a,.int k b=>decide (j=k) && decide (a=b)
  | .float j a,.float k b=>decide (j=k) && Nat.beq a b
  | .string a,.string b=>decide (a.data.toList=b.data.toList)
  | .pointer none,.pointer none=>true
  | .pointer (some a),.pointer (some b)=>decide (a=b)
  | .slice none l c,.slice none l' c'=>Nat.beq l l' && Nat.beq c c'
  | .slice (some a) l c,.slice (some b) l' c'=>decide (a=b) && Nat.beq l l' && Nat.beq c c'
  | .map none,.map none=>true
  | .map (some a),.map (some b)=>Nat.beq a b
  | .nilFunc,.nilFunc=>true
  | .nilIface,.nilIface=>true
  | .iface t v,.iface u w=>Nat.beq t u && eqV m v w
  | .agg x,.agg y=>Nat.beq x.size y.size && (x.toList.zip y.toList).all fun p=>eqV m p.1 p.2
  | .tuple x,.tuple y=>Nat.beq x.size y.size && (x.toList.zip y.toList).all fun p=>eqV m p.1 p.2
  | .func (.func f) x y,.func (.func g) x' y'=>Nat.beq f g && Nat.beq x.size x'.size && (x.toList.zip x'.toList).all (fun p=>eqV m p.1 p.2) && Nat.beq y.size y'.size && (y.toList.zip y'.toList).all fun p=>eqV m p.1 p.2
  | _,_=>false
theorem eqV_eq:∀(m:Nat) (v u:Value),eqV m v u=true→v=u:=by
 intro m
 induction m with
 | zero=>intro v u h;cases h
 | succ m ih =>
  have arr:∀x y:Array Value,Nat.beq x.size y.size=true→((x.toList.zip y.toList).all fun p=>eqV m p.1 p.2)=true→x=y:=by
   intro x y hs h
   have hs:=Nat.eq_of_beq_eq_true hs
   apply Array.ext hs
   intro i h1 h2
   apply ih
   rw [List.all_eq_true] at h
   refine h (x[i],y[i]) ?_
   refine List.mem_of_getElem? (i:=i) ?_
   simp [List.getElem?_zip_eq_some,h1,h2]
  intro v u h
  unfold eqV at h
  split at h
  case h_17=>cases h
  all_goals try simp only [Bool.and_eq_true,decide_eq_true_eq,beq_iff_eq] at h
  ·subst h;rfl
  ·obtain⟨rfl,rfl⟩:=h;rfl
  ·obtain⟨rfl,h⟩:=h;rw [Nat.eq_of_beq_eq_true h]
  ·rename_i a b
   obtain⟨a⟩:=a
   obtain⟨b⟩:=b
   have h:a=b:=Array.toList_inj.1 h
   rw [h]
  ·rfl
  ·rw [h]
  ·rw [Nat.eq_of_beq_eq_true h.1,Nat.eq_of_beq_eq_true h.2]
  ·rw [h.1.1,Nat.eq_of_beq_eq_true h.1.2,Nat.eq_of_beq_eq_true h.2]
  ·rfl
  ·rw [Nat.eq_of_beq_eq_true h]
  ·rfl
  ·rfl
  ·rw [Nat.eq_of_beq_eq_true h.1,ih _ _ h.2]
  ·rw [arr _ _ h.1 h.2]
  ·rw [arr _ _ h.1 h.2]
  ·rw [Nat.eq_of_beq_eq_true h.1.1.1.1,arr _ _ h.1.1.1.2 h.1.1.2,arr _ _ h.1.2 h.2]
end Go.Eng
namespace Go.Eng
open Go Go.RowKit
def wantedIn (ops:Array Oper) (o:Oper) (A:Act):Bool:=Region.wanted o (yielded ops A.tmps)
def readyIn (L:List Nat) (o:Oper):Bool:=(deps o).all fun j=>memN j L
noncomputable def closeR {P:Program}(E:Env P) (ops:Array Oper) (S:AState):List Oper→Nat→List Nat→Act→Option (List Nat×Act)
 | [],_,L,A=>some (L,A)
 | o :: l,i,L,A=>match memN i L with
  | true=>closeR E ops S l (i+1) L A
  | false=>match readyIn L o with
   | false=>closeR E ops S l (i+1) L A
   | true=>match wantedIn ops o A || isAsg o.op with
    | false=>closeR E ops S l (i+1) (i :: L) (A.put o.dst undef)
    | true=>match readOp o.op with
     | false=>closeR E ops S l (i+1) L A
     | true=>match runA P (opA E A o) S with
      | some (.value v,_)=>closeR E ops S l (i+1) (i :: L) (A.put o.dst v)
      | _=>none
def blocked (ops:Array Oper) (X:List Nat) (i:Nat):Bool:=X.any fun e=>match ops[e]? with
 | some oe=>memN i (deps oe)
 | none=>false
def valIs (A:Act) (d:Option Tmp) (v:Value):Bool:=match d with
 | some t=>eqV 64 (A.tmps.getD t undef) v
 | none=>true
noncomputable def nodeOk {P:Program}(E:Env P) (ops:Array Oper) (X L:List Nat) (A:Act) (S:AState):List Oper→Nat→Bool
 | [],_=>true
 | o :: l,i=>(match memN i L with
  | true=>readyIn L o && (memN i X || !(isAsg o.op) && match wantedIn ops o A with
   | false=>valIs A o.dst undef
   | true=>readOp o.op && (blocked ops X i || match runA P (opA E A o) S with
    | some (.value v,_)=>valIs A o.dst v
    | _=>false))
  | false=>!(readyIn L o) || wantedIn ops o A) && nodeOk E ops X L A S l (i+1)
noncomputable def nexts (L:List Nat):List Oper→Nat→List (Nat×Oper)
 | [],_=>[]
 | o :: l,i=>match memN i L with
  | true=>nexts L l (i+1)
  | false=>match readyIn L o with
   | true=>(i,o) :: nexts L l (i+1)
   | false=>nexts L l (i+1)
noncomputable def treeR {P:Program}(E:Env P) (call:FuncId→Array Value→AState→(Value→AState→Bool)→Bool) (ops:Array Oper) (k:Act→AState→Bool):Nat→List Nat→List Nat→Act→AState→Bool
 | 0,_,_,_,_=>false
 | n+1,X,L0,A0,S=>match closeR E ops S ops.toList 0 L0 A0 with
  | none=>false
  | some (L,A)=>nodeOk E ops X L A S ops.toList 0 && match nexts L ops.toList 0 with
   | []=>k A S
   | l=>l.all fun p=>match stepOpA E A p.2 S with
    | some (.value v,S')=>treeR E call ops k n (p.1 :: X) (p.1 :: L) (A.put p.2.dst v) S'
    | some (.skip,S')=>treeR E call ops k n (p.1 :: X) (p.1 :: L) (A.put p.2.dst undef) S'
    | some (.enter f args,S')=>call f args S' fun v S''=>treeR E call ops k n (p.1 :: X) (p.1 :: L) (A.put p.2.dst v) S''
    | _=>false
section
variable {P:Program}{B:Nat}{w0:World}
structure Wf (ops:Array Oper):Prop where
 lower:∀(i:Nat) (o:Oper),ops[i]?=some o→∀j∈deps o,j<i
 look:∀(i:Nat) (o:Oper),ops[i]?=some o→∀t∈opTmps o,∀j,dstOf ops j=some t→j∈deps o∨∃oj,ops[j]?=some oj∧isAsg oj.op=true∧i∈deps oj
 nosel:∀(i:Nat) (o:Oper) cs b,ops[i]?=some o→o.op≠.select cs b
 guard:∀(i:Nat) (o:Oper) (g:Nat) (b:Bool),ops[i]?=some o→o.guard=some (g,b)→g∈deps o
 dst:∀(i j:Nat) (t:Tmp),dstOf ops i=some t→dstOf ops j=some t→i=j
theorem wf_of {ops:Array Oper}(h:wfFrom ops 0 ops.toList=true):Wf ops:=by
 have all:∀(l:List Oper) (k:Nat),wfFrom ops k l=true→∀i o,l[i]?=some o→wfOp ops (k+i) o=true:=by
  intro l
  induction l with
  | nil=>intro k _ i o h;simp at h
  | cons a l ih =>
   intro k h i o hi
   simp only [wfFrom,Bool.and_eq_true] at h
   cases i with
   | zero=>simp at hi;subst hi;exact h.1
   | succ i =>
    have:=ih (k+1) h.2 i o (by simpa using hi)
    rwa [show k+1+i=k+(i+1) by omega] at this
 have each:∀i o,ops[i]?=some o→wfOp ops i o=true:=fun i o hi=>by
  have:=all ops.toList 0 h i o (by simpa using hi)
  simpa using this
 have rng:∀j t,dstOf ops j=some t→j<ops.size:=fun j t hj=>by
  unfold dstOf at hj
  rcases Nat.lt_or_ge j ops.size with h | h
  ·exact h
  ·rw [Array.getElem?_eq_none h] at hj;cases hj
 refine⟨fun i o hi j hj=>?_,fun i o hi t ht j hj=>?_,fun i o cs b hi heq=>?_,fun i o g b hi hg=>?_,fun i j t hi hj=>?_⟩
 ·have:=each i o hi
  simp only [wfOp,Bool.and_eq_true,List.all_eq_true] at this
  exact Nat.le_of_ble_eq_true (this.1.1.1.1 j hj)
 ·have:=each i o hi
  simp only [wfOp,lookOk,Bool.and_eq_true,List.all_eq_true,List.mem_range] at this
  have:=this.1.1.1.2 t ht j (rng j t hj)
  obtain⟨oj,hoj,hdj⟩:=Option.bind_eq_some_iff.1 hj
  rw [hoj] at this
  dsimp only at this
  rw [hdj] at this
  have ht:Nat.beq t t=true:=Nat.beq_refl t
  simp only [ht,Bool.not_true,Bool.false_or,Bool.or_eq_true,Bool.and_eq_true] at this
  rcases this with h | h
  ·exact .inl (memN_iff.1 h)
  ·exact .inr ⟨oj,hoj,h.1,memN_iff.1 h.2⟩
 ·have:=each i o hi
  simp only [wfOp,Bool.and_eq_true] at this
  have:=this.1.1.2
  rw [heq] at this
  cases this
 ·have:=each i o hi
  simp only [wfOp,Bool.and_eq_true,hg] at this
  exact memN_iff.1 this.1.2
 ·obtain⟨o,ho,hd⟩:=Option.bind_eq_some_iff.1 hi
  have:=each i o ho
  simp only [wfOp,Bool.and_eq_true,hd,List.all_eq_true,List.mem_range] at this
  have:=this.2 j (rng j t hj)
  rw [hj] at this
  have ht:Nat.beq t t=true:=Nat.beq_refl t
  simp only [ht,Bool.not_true,Bool.or_false] at this
  exact Nat.eq_of_beq_eq_true this
theorem put_size (a:Act) (d:Option Tmp) (v:Value):(a.put d v).tmps.size=a.tmps.size:=by
 cases d<;>simp [Act.put]
theorem put_ne (a:Act) {d:Option Tmp}(v:Value) {t:Tmp}(h:d≠some t):(a.put d v).tmps.getD t undef=a.tmps.getD t undef:=by
 cases d with
 | none=>rfl
 | some d=>simp only [Act.put,Array.getD_eq_getD_getElem?];rw [Array.getElem?_setIfInBounds_ne (fun e=>h (by rw [e]))]
theorem put_at (a:Act) (t:Tmp) (v:Value):(a.put (some t) v).tmps.getD t undef=if t<a.tmps.size then v else undef:=by
 simp only [Act.put,Array.getD_eq_getD_getElem?]
 by_cases h:t<a.tmps.size
 ·rw [Array.getElem?_setIfInBounds_self_of_lt h,if_pos h];rfl
 ·rw [if_neg h,Array.getElem?_eq_none (by rw [Array.size_setIfInBounds];exact Nat.le_of_not_lt h)];rfl
theorem closeR_kept (E:Env P) {ops:Array Oper}{S:AState}:∀(l:List Oper) (i:Nat) (L:List Nat) (A:Act) (L':List Nat) (A':Act),(∀j,l[j]?=ops[i+j]?)→closeR E ops S l i L A=some (L',A') →
  (∀j,j∈L→j∈L')∧A'.tmps.size=A.tmps.size∧A'.defers=A.defers∧∀t,(∀j,j∈L'→dstOf ops j=some t→j∈L)→A'.tmps.getD t undef=A.tmps.getD t undef:=by
 intro l
 induction l with
 | nil =>
  intro i L A L' A' _ h
  cases h
  exact⟨fun _ h=>h,rfl,rfl,fun _ _=>rfl⟩
 | cons o l ih =>
  intro i L A L' A' hl h
  have hl':∀j,l[j]?=ops[i+1+j]?:=fun j=>by
   have:=hl (j+1)
   simpa [Nat.add_assoc,Nat.add_comm 1 j] using this
  have ho:ops[i]?=some o:=by simpa using (hl 0).symm
  have hdst:dstOf ops i=o.dst:=by simp [dstOf,ho]
  have put:∀v,memN i L=false→closeR E ops S l (i+1) (i :: L) (A.put o.dst v)=some (L',A') →
    (∀j,j∈L→j∈L')∧A'.tmps.size=A.tmps.size∧A'.defers=A.defers∧∀t,(∀j,j∈L'→dstOf ops j=some t→j∈L)→A'.tmps.getD t undef=A.tmps.getD t undef:=by
   intro v hn h
   obtain⟨h1,h2,h3,h4⟩:=ih (i+1) (i :: L) _ L' A' hl' h
   refine⟨fun j hj=>h1 j (List.mem_cons_of_mem _ hj),h2.trans (put_size ..),h3.trans (put_defers ..),fun t ht=>?_⟩
   rw [h4 t fun j hj' hj=>List.mem_cons_of_mem _ (ht j hj' hj),put_ne]
   intro e
   have:=memN_iff.2 (ht i (h1 i (by simp)) (by rw [hdst,e]))
   rw [this] at hn
   cases hn
  unfold closeR at h
  split at h
  ·exact ih (i+1) L A L' A' hl' h
  ·rename_i hn
   split at h
   ·exact ih (i+1) L A L' A' hl' h
   ·split at h
    ·exact put _ hn h
    ·split at h
     ·exact ih (i+1) L A L' A' hl' h
     ·split at h
      ·exact put _ hn h
      ·cases h
theorem nodeOk_at (E:Env P) {ops:Array Oper}{X L:List Nat}{A:Act}{S:AState}:∀(l:List Oper) (i:Nat),nodeOk E ops X L A S l i=true→∀j o,l[j]?=some o →
  (match memN (i+j) L with
  | true=>readyIn L o && (memN (i+j) X || !(isAsg o.op) && match wantedIn ops o A with
   | false=>valIs A o.dst undef
   | true=>readOp o.op && (blocked ops X (i+j) || match runA P (opA E A o) S with
    | some (.value v,_)=>valIs A o.dst v
    | _=>false))
  | false=>!(readyIn L o) || wantedIn ops o A)=true:=by
 intro l
 induction l with
 | nil=>intro i _ j o h;simp at h
 | cons a l ih =>
  intro i h j o hj
  simp only [nodeOk,Bool.and_eq_true] at h
  cases j with
  | zero=>simp at hj;subst hj;exact h.1
  | succ j =>
   have:=ih (i+1) h.2 j o (by simpa using hj)
   rwa [show i+1+j=i+(j+1) by omega] at this
theorem nexts_mem {L:List Nat}:∀(l:List Oper) (i:Nat) (j:Nat) (o:Oper),l[j]?=some o→memN (i+j) L=false→readyIn L o=true→(i+j,o)∈nexts L l i:=by
 intro l
 induction l with
 | nil=>intro i j o h;simp at h
 | cons a l ih =>
  intro i j o hj hm hr
  unfold nexts
  cases j with
  | zero =>
   simp at hj
   subst hj
   rw [Nat.add_zero] at hm
   rw [hm,hr]
   simp
  | succ j =>
   have:=ih (i+1) j o (by simpa using hj) (by rwa [show i+1+j=i+(j+1) by omega]) hr
   rw [show i+1+j=i+(j+1) by omega] at this
   split
   ·exact this
   ·split
    ·exact List.mem_cons_of_mem _ this
    ·exact this
theorem valIs_R {ρ:Ren}{n:Nat}{A:Act}{t:Tmp}{v v':Value}(h:valIs A (some t) v=true) (hv:VR ρ n v v'):VR ρ n (A.tmps.getD t undef) v':=by
 have:=eqV_eq _ _ _ h
 rw [this];exact hv
def unl (n:Nat) (listed:Array Bool):Nat:=(List.range n).countP fun i=>!listed.getD i false
theorem countP_less {p p':Nat→Bool}{i:Nat}(hp:p i=true) (hp':p' i=false) (himp:∀j,p' j=true→p j=true):∀l:List Nat,i∈l→l.countP p'+1≤l.countP p:=by
 have mono:∀l:List Nat,l.countP p'≤l.countP p:=fun l=>List.countP_mono_left fun j _=>himp j
 intro l
 induction l with
 | nil=>intro h;cases h
 | cons a l ih =>
  intro h
  rw [List.countP_cons,List.countP_cons]
  rcases List.mem_cons.1 h with rfl | h
  ·rw [if_pos hp,if_neg (by rw [hp'];exact Bool.false_ne_true)]
   have:=mono l
   omega
  ·have:=ih h
   by_cases ha:p' a=true
   ·rw [if_pos ha,if_pos (himp a ha)];omega
   ·rw [if_neg ha]
    split<;>omega
theorem unl_set {n i:Nat}{listed:Array Bool}(hs:listed.size=n) (hi:i<n) (h:listed.getD i false=false):unl n (listed.setIfInBounds i true)+1≤unl n listed:=by
 refine countP_less (i:=i) (by simp [h]) ?_ (fun j hj=>?_) _ (List.mem_range.2 hi)
 ·simp [hs,hi]
 ·by_cases hji:j=i
  ·subst hji;simp [h]
  ·rw [getD_set_ne false (Ne.symm hji)] at hj;exact hj
theorem yielded_view {ρ:Ren}{n:Nat}{ops:Array Oper}{x x':Array Value}(hs:x'.size=x.size) {g:Nat}(h:∀t,dstOf ops g=some t→VR ρ n (x.getD t undef) (x'.getD t undef)):yielded ops x' g=yielded ops x g:=by
 unfold yielded
 unfold dstOf at h
 cases hd:(ops[g]?).bind (·.dst) with
 | none=>rfl
 | some d =>
  have:=h d hd
  simp only [Option.bind_some]
  by_cases hlt:d<x.size
  ·have hlt':d<x'.size:=by rw [hs];exact hlt
   simp only [Array.getD_eq_getD_getElem?,Array.getElem?_eq_getElem hlt,Array.getElem?_eq_getElem hlt',Option.getD_some] at this ⊢
   revert this
   generalize x[d]=u
   generalize x'[d]=u'
   intro h3
   cases h3<;>rfl
  ·rw [Array.getElem?_eq_none (Nat.le_of_not_lt hlt),Array.getElem?_eq_none (by rw [hs];exact Nat.le_of_not_lt hlt)]
theorem step_view {ρ:Ren}(E:Env P) {S:AState}{w:World}(hw:WR P B w0 ρ S w) (hb:Base P ρ S.next) {A a':Act}{o:Oper}(hs:a'.tmps.size=A.tmps.size) (hsel:∀cs b,o.op≠.select cs b)
  (hv:∀t∈opTmps o,VR ρ S.next (A.tmps.getD t undef) (a'.tmps.getD t undef)) {nx:Next}{S':AState}(h:stepOpA E A o S=some (nx,S')) :
  ∃nx' w' ρ',(execOp a'.eval o).run P w=.ok nx' w'∧Ext S.next ρ ρ'∧S.next≤S'.next∧S'.prot=S.prot∧WR P B w0 ρ' S' w'∧NextR ρ' S'.next nx nx':=by
 rw [stepOpA_congr (a':=⟨only (opTmps o) A.tmps,A.defers⟩) E o S fun x hx=>(getV_only hx).symm] at h
 have e:execOp a'.eval o=execOp (⟨only (opTmps o) a'.tmps,a'.defers⟩:Act).eval o:=execOp_congr o hsel fun x hx=>(eval_only hx).symm
 rw [e]
 exact stepOp_sound E hw hb (only_R hs.symm hv) o h
theorem read_view {ρ:Ren}(E:Env P) {S:AState}{w:World}(hw:WR P B w0 ρ S w) (hb:Base P ρ S.next) {A a':Act}{o:Oper}(hs:a'.tmps.size=A.tmps.size) (hsel:∀cs b,o.op≠.select cs b)
  (hv:∀t∈opTmps o,VR ρ S.next (A.tmps.getD t undef) (a'.tmps.getD t undef)) (hq:quietOp o.op=true) {nx:Next}{S':AState}(h:runA P (opA E A o) S=some (nx,S')) :
  ∃nx',(execOp a'.eval o).run P w=.ok nx' w∧NextR ρ S.next nx nx':=by
 rw [opA_congr (a':=⟨only (opTmps o) A.tmps,A.defers⟩) E o fun x hx=>(getV_only hx).symm] at h
 have e:execOp a'.eval o=execOp (⟨only (opTmps o) a'.tmps,a'.defers⟩:Act).eval o:=execOp_congr o hsel fun x hx=>(eval_only hx).symm
 rw [e]
 obtain⟨b,w',ρ2,g1,g2,g3,gp,g4,g5,g6⟩:=sim_op (q:=true) (B:=B) (w0:=w0) (a:=⟨only (opTmps o) A.tmps,A.defers⟩) (a':=⟨only (opTmps o) a'.tmps,a'.defers⟩) E hb (only_R hs.symm hv) o (fun _=>hq) ρ S w (Ext.refl _ _) (Nat.le_refl _) hw nx S' h
 obtain⟨rfl,rfl,rfl⟩:=g6 rfl
 exact⟨b,g1,g5⟩
end
end Go.Eng
