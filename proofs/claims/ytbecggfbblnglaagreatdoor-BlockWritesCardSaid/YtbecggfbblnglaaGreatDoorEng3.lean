/- The closed run of a Go program whose memory is known only up to a renaming of blocks: what it computes is true of every world and tape. No conditions. -/
import Derived.Test.YtbecggfbblnglaaGreatDoorEng2
import Derived.Laws.Append
import Derived.Laws.AppendOwn
import Derived.WalkKit
set_option linter.unusedSimpArgs false
set_option linter.unusedVariables false
set_option linter.deprecated false
set_option linter.unnecessarySimpa false
namespace Go.Eng
open Go Go.RowKit
inductive NextR (ρ:Ren) (n:Nat):Next→Next→Prop
 | value {v v':Value}(h:VR ρ n v v'):NextR ρ n (.value v) (.value v')
 | skip:NextR ρ n .skip .skip
 | enter (f:FuncId) {x x':Array Value}(h:ArrR ρ n x x'):NextR ρ n (.enter f x) (.enter f x')
 | round (l:Nat) (f:FuncId) {x x':Array Value}(as body:Code) (hl:l<n) (h:ArrR ρ n x x'):NextR ρ n (.round l f x as body) (.round (ρ.f l) f x' as body)
 | defer {d d':Deferred}(h:DefR ρ n d d'):NextR ρ n (.defer d) (.defer d')
 | recover:NextR ρ n .recover .recover
abbrev NRel:Ren→Nat→Next→Next→Prop:=fun ρ n a b=>NextR ρ n a b
abbrev DRel:Ren→Nat→Deferred→Deferred→Prop:=fun ρ n a b=>DefR ρ n a b
theorem mono_N:Mono NRel:=by
 intro ρ ρ' n n' a b h he hn
 cases h with
 | value h=>exact .value (h.mono he hn)
 | skip=>exact .skip
 | enter f h=>exact .enter f (h.mono he hn)
 | round l f as body hl h=>rw [← (he _ hl).1];exact .round l f as body (by omega) (h.mono he hn)
 | defer h=>exact .defer (h.mono he hn)
 | recover=>exact .recover
theorem mono_D:Mono DRel:=fun _ _ _ _ _ _ h he hn=>DefR.mono h he hn
noncomputable def getV (a:Act):Operand→Sem Value
 | .tmp t=>Sem.pure (rd a.tmps t)
 | .const v=>match closedV 64 v with
  | true=>Sem.pure v
  | false=>stuck ""
 | .global g=>Go.program.bind fun p=>match Nat.ble (g+1) p.globals.size with
  | true=>Sem.pure (.pointer (some ⟨g,0,none⟩))
  | false=>stuck ""
 | .func f=>Sem.pure (.func (.func f) #[] #[])
noncomputable def getVs (a:Act):List Operand→Sem (List Value)
 | []=>Sem.pure []
 | x :: l=>(getV a x).bind fun v=>(getVs a l).bind fun vs=>Sem.pure (v :: vs)
noncomputable def getPs (a:Act):List (Nat×Operand)→Sem (List (Nat×Value))
 | []=>Sem.pure []
 | p :: l=>(getV a p.2).bind fun v=>(getPs a l).bind fun vs=>Sem.pure ((p.1,v) :: vs)
noncomputable def getO (a:Act):Option Operand→Sem (Option Value)
 | none=>Sem.pure none
 | some x=>(getV a x).bind fun v=>Sem.pure (some v)
theorem undef_R {ρ:Ren}{n:Nat}:VR ρ n undef undef:=.tuple rfl fun i v v' h _=>by simp at h
section
variable {P:Program}{B:Nat}{w0:World}{q:Bool}{ρ:Ren}{n:Nat}
theorem Sim.get {α β:Type}{R:Ren→Nat→α→β→Prop}{a a':Act}(hb:Base P ρ n) (ha:ArrR ρ n a.tmps a'.tmps) (x:Operand) {k:Value→Sem α}{t':Sem β}
  (h:∀v,VR ρ n v (a'.eval x)→Sim P B w0 q R ρ n (k v) t'):Sim P B w0 q R ρ n ((getV a x).bind k) t':=by
 cases x with
 | tmp t=>exact h _ (by rw [rd_eq];exact ha.getD t undef_R)
 | const v =>
  simp only [getV]
  cases hc:closedV 64 v with
  | true=>exact h _ (closed_VR 64 v hc)
  | false=>exact Sim.haltBind
 | global g =>
  simp only [getV]
  intro ρ1 S w he hn hw b S' hr
  simp only [Go.program,Sem.bind,runA] at hr
  split at hr
  ·rename_i hg
   have hg':g<P.globals.size:=Nat.le_of_ble_eq_true hg
   simp only [Sem.bind] at hr
   exact h (.pointer (some ⟨g,0,none⟩)) (hb.addr (g:=g) (o:=0) (by omega)).ptr ρ1 S w he hn hw b S' hr
  ·simp [stuck,Sem.bind,runA] at hr
 | func f=>exact h _ (.func (.func f) rfl (fun i v v' h _=>by simp at h) rfl (fun i v v' h _=>by simp at h))
theorem Sim.gets {α β:Type}{R:Ren→Nat→α→β→Prop}{a a':Act}(hb:Base P ρ n) (ha:ArrR ρ n a.tmps a'.tmps):∀(l:List Operand) {k:List Value→Sem α}{t':Sem β},
  (∀vs,LR (VR ρ n) vs (l.map a'.eval)→Sim P B w0 q R ρ n (k vs) t')→Sim P B w0 q R ρ n ((getVs a l).bind k) t'
 | [],k,t',h=>h [] .nil
 | x :: l,k,t',h=>by
  unfold getVs
  rw [Sem.bind_assoc']
  refine Sim.get hb ha x fun v hv=>?_
  rw [Sem.bind_assoc']
  exact Sim.gets hb ha l fun vs hvs=>h (v :: vs) (.cons hv hvs)
theorem Sim.getps {α β:Type}{R:Ren→Nat→α→β→Prop}{a a':Act}(hb:Base P ρ n) (ha:ArrR ρ n a.tmps a'.tmps):∀(l:List (Nat×Operand)) {k:List (Nat×Value)→Sem α}{t':Sem β},
  (∀vs,LR (fun a b=>a.1=b.1∧VR ρ n a.2 b.2) vs (l.map fun p=>(p.1,a'.eval p.2))→Sim P B w0 q R ρ n (k vs) t')→Sim P B w0 q R ρ n ((getPs a l).bind k) t'
 | [],k,t',h=>h [] .nil
 | p :: l,k,t',h=>by
  unfold getPs
  rw [Sem.bind_assoc']
  refine Sim.get hb ha p.2 fun v hv=>?_
  rw [Sem.bind_assoc']
  exact Sim.getps hb ha l fun vs hvs=>h ((p.1,v) :: vs) (.cons ⟨rfl,hv⟩ hvs)
theorem Sim.geto {α β:Type}{R:Ren→Nat→α→β→Prop}{a a':Act}(hb:Base P ρ n) (ha:ArrR ρ n a.tmps a'.tmps) (x:Option Operand) {k:Option Value→Sem α}{t':Sem β}
  (h:∀v,OR ρ n v (x.map a'.eval)→Sim P B w0 q R ρ n (k v) t'):Sim P B w0 q R ρ n ((getO a x).bind k) t':=by
 cases x with
 | none=>exact h none .none
 | some x =>
  unfold getO
  rw [Sem.bind_assoc']
  exact Sim.get hb ha x fun v hv=>h (some v) (.some hv)
noncomputable def nilA (x:Value):Sem Next :=
 match x with
 | .pointer (some a)=>Sem.pure (.value (.pointer (some a)))
 | .iface t v=>Sem.pure (.value (.iface t v))
 | .func (.func f) x y=>Sem.pure (.value (.func (.func f) x y))
 | .map (some r)=>Sem.pure (.value (.map (some r)))
 | .func (.via t p f b) x y=>Sem.pure (.value (.func (.via t p f b) x y))
 | .func (.yield l) x y=>Sem.pure (.value (.func (.yield l) x y))
 | _=>stuck ""
def nilT (x:Value):Sem Next :=
 match x with
 | .pointer none | .nilIface | .nilFunc=>runtimePanic .nilDeref
 | .func (.method name) first captured =>
  match (first[0]?:Option Value) with
  | some .nilIface=>runtimePanic .nilDeref
  | some (.iface t w)=>do
   if (← nilAhead ((← program).types.size+Made.depth) t w name) != some false then
    unsupported (.noEntry "op/nilCheck.the method's receiver behind this interface value is a nil pointer, or cannot be seen to be none, and the arguments act or may panic (ledger 612)")
   pure (.value (.func (.method name) first captured))
  | _=>pure (.value (.func (.method name) first captured))
 | x=>pure (.value x)
theorem sim_nil {x x':Value}(h:VR ρ n x x'):Sim P B w0 q NRel ρ n (nilA x) (nilT x'):=by
 cases h with
 | ptr a ha hs=>exact Sim.pure mono_N (.value (.ptr a ha hs))
 | iface t hv=>exact Sim.pure mono_N (.value (.iface t hv))
 | map r hr=>exact Sim.pure mono_N (.value (.map r hr))
 | func hf hx hX hy hY =>
  cases hf with
  | func f=>exact Sim.pure mono_N (.value (.func (.func f) hx hX hy hY))
  | via t p f b=>exact Sim.pure mono_N (.value (.func (.via t p f b) hx hX hy hY))
  | yield l hl=>exact Sim.pure mono_N (.value (.func (.yield l hl) hx hX hy hY))
  | _=>exact Sim.halt
 | _=>exact Sim.halt
noncomputable def unA (op:UnOp) (x:Value):Sem Value :=
 match plainV x with
 | true=>checked (Op.unary op x)
 | false=>stuck ""
theorem sim_un (op:UnOp) {x x':Value}(h:VR ρ n x x'):Sim P B w0 q VRel ρ n (unA op x) (Op.unary op x'):=by
 unfold unA
 split
 ·rename_i hp;rw [h.plain hp];exact sim_checked (HF.unary op x)
 ·exact Sim.halt
noncomputable def bytesA:List Value→ByteArray→Sem ByteArray
 | [],s=>Sem.pure s
 | .int .u8 b :: l,s=>bytesA l (s.push (UInt8.ofNat b.toNat))
 | _ :: _,_=>stuck ""
theorem LR.plainInts {l l':List Value}(h:LR (VR ρ n) l l'):∀(s:ByteArray),
  Sim P B w0 q EqR ρ n (bytesA l s) (forIn (m:=Sem) l' s fun c s=>match c with | .int .u8 k=>Sem.pure (ForInStep.yield (s.push (UInt8.ofNat k.toNat))) | _=>stuck "bytesToString: byte expected"):=by
 induction h with
 | nil=>intro s;rw [List.forIn_nil];exact Sim.pure mono_E rfl
 | @cons a b l m hab ht ih =>
  intro s
  rw [List.forIn_cons]
  cases hab with
  | int k i =>
   cases k<;>first | exact ih _ | exact Sim.halt
  | _=>exact Sim.halt
noncomputable def bytesToStringA (x:Value):Sem Value :=
 match x with
 | .slice none _ _=>Sem.pure (.string .empty)
 | .slice (some a) len _=>match a.spot with
  | none=>(loadCellsA a len).bind fun cs=>(bytesA cs.toList .empty).bind fun s=>Sem.pure (.string s)
  | some _=>match len with
   | 0=>Sem.pure (.string .empty)
   | _=>stuck ""
 | _=>stuck ""
theorem sim_bytesToString {x x':Value}(h:VR ρ n x x'):Sim P B w0 q VRel ρ n (bytesToStringA x) (Conv.bytesToString x'):=by
 unfold bytesToStringA Conv.bytesToString
 cases h with
 | sliceNil l c=>exact Sim.pure mono_V (.string _)
 | slice a l c ha hs =>
  simp only [hs]
  refine Sim.bind (sim_loadCells ha l) fun ρ1 n1 x y h1 h2 hxy=>?_
  rw [← Array.forIn_toList]
  refine Sim.bind (R:=EqR) ?_ fun ρ2 n2 s s' h3 h4 hss=>Sim.pure mono_V (by cases hss;exact .string _)
  refine cast ?_ (LR.plainInts (P:=P) (B:=B) (w0:=w0) (q:=q) hxy.list ByteArray.empty)
  congr 1
 | tail b o k hb=>exact Sim.pure mono_V (.string _)
 | _=>exact Sim.halt
noncomputable def convertA (src dst:TypeId) (x:Value):Sem Value :=
 (underlying src).bind fun us=>(underlying dst).bind fun ud=>match okConv ud x with
 | true=>checked (Go.convert src dst x)
 | false=>match us,ud with
  | .slice e,.string=>(underlying e).bind fun ue=>match ue with
   | .int .u8=>bytesToStringA x
   | _=>stuck ""
  | _,_=>stuck ""
theorem sim_convert (src dst:TypeId) {x x':Value}(h:VR ρ n x x'):Sim P B w0 q VRel ρ n (convertA src dst x) (Go.convert src dst x'):=by
 unfold convertA
 cases hs:P.underlying src with
 | none=>exact Sim.un hs
 | some us =>
 refine Sim.ul hs ?_
 cases hd:P.underlying dst with
 | none=>exact Sim.un hd
 | some ud =>
 refine Sim.ul hd ?_
 split
 ·rename_i hok
  have:plainV x=true:=by
   cases ud<;>first | (cases hok;done) | skip
   all_goals (cases x<;>first | rfl | cases hok)
  rw [h.plain this]
  exact sim_checked (HF.convert src dst x ud hd hok)
 ·cases us with
  | slice e =>
   cases ud with
   | string =>
    dsimp only
    cases he:P.underlying e with
    | none=>exact Sim.un he
    | some ue =>
    refine Sim.ul he ?_
    split
    ·unfold Go.convert
     refine Sim.ur hs (Sim.ur hd ?_)
     have:∀y:Value,VR ρ n x y→Sim P B w0 q VRel ρ n (bytesToStringA x) ((underlying e).bind fun u=>match u with
       | .int .u8=>Conv.bytesToString y
       | .int .i32=>Conv.runesToString y
       | _=>stuck "Convert: a slice of what to string?"):=fun y hy=>Sim.ur he (sim_bytesToString hy)
     cases h<;>first
      | exact Sim.halt
      | exact this _ (.sliceNil _ _)
      | exact this _ (.slice _ _ _ (by assumption) (by assumption))
      | exact this _ (.tail _ _ _ (by assumption))
    ·exact Sim.halt
   | _=>exact Sim.halt
  | _=>exact Sim.halt
end
end Go.Eng
namespace Go.Eng
open Go Go.RowKit
structure Env (P:Program) where
 zero:ZeroOk P
 notNG:∀(f:Nat) (fn:Func),P.funcs[f]?=some fn→(fn.name == "runtime.NumGoroutine")=false
 ext:Nat→Option (Array Value→Sem Value)
 extOk:∀(f:Nat) (e:Array Value→Sem Value),ext f=some e→∃(fn:Func) (e':Array Value→Sem Value),P.funcs[f]?=some fn∧fn.body=none∧Extern.findNext fn=none∧Extern.find fn=some e'∧
  ∀(B:Nat) (w0:World) (q:Bool) (ρ:Ren) (n:Nat) (x x':Array Value),Base P ρ n→ArrR ρ n x x'→Sim P B w0 q VRel ρ n (e x) (e' x')
noncomputable def callFuncA {P:Program}(E:Env P) (f:FuncId) (args:Array Value):Sem Next :=
 Go.program.bind fun p=>match p.funcs[f]? with
 | none=>stuck ""
 | some fn=>match fn.body with
  | some _=>Sem.pure (.enter f args)
  | none=>match E.ext f with
   | some e=>(e args).bind fun v=>Sem.pure (.value v)
   | none=>stuck ""
noncomputable def methodA (t:TypeId) (v:Value) (name:String):Sem (FuncId×Value) :=
 (typeInfo t).bind fun i=>match i.methods.find? (·.name == name) with
 | none=>stuck ""
 | some m=>match m.path.toList with
  | []=>match m.func with
   | some (f,pr)=>(underlying t).bind fun d=>match d,pr with
    | .pointer _,true=>Sem.pure (f,v)
    | .pointer elem,false=>match v with
     | .pointer (some a)=>match a.spot with
      | none=>(loadVarA elem a).bind fun r=>Sem.pure (f,r)
      | some _=>stuck ""
     | _=>stuck ""
    | _,false=>Sem.pure (f,v)
    | _,true=>stuck ""
   | none=>stuck ""
  | _=>stuck ""
noncomputable def callMethodA {P:Program}(E:Env P) (recv:Value) (name:String) (args:Array Value):Sem Next :=
 match recv with
 | .iface t v=>(methodA t v name).bind fun (f,r)=>callFuncA E f (#[r]++args)
 | _=>stuck ""
noncomputable def invokeA {P:Program}(E:Env P) (t:Target) (args:Array Value):Sem Next :=
 match t with
 | .fn (.func f) captured=>callFuncA E f (args++captured)
 | .fn (.method name) _=>match args[0]? with
  | some recv=>callMethodA E recv name (args.extract 1 args.size)
  | none=>stuck ""
 | .fn (.yield l) _=>(getObj l).bind fun o=>match o with
  | .loop r=>match decide (args.size=r.params.size) with
   | true=>Sem.pure (.round l r.fn ((r.params.zip args).foldl (fun tmps (t,a)=>tmps.setIfInBounds t a) r.tmps) r.assign r.body)
   | false=>stuck ""
  | _=>stuck ""
 | _=>stuck ""
noncomputable def ofValueA (f:Value) (args:Array Value):Sem Deferred :=
 match f with
 | .func fn first captured=>Sem.pure { target:=.fn fn captured,args:=first++args }
 | _=>stuck ""
section
variable {P:Program}{B:Nat}{w0:World}{q:Bool}{ρ:Ren}{n:Nat}
theorem Sim.getObj {α β:Type}{R:Ren→Nat→α→β→Prop}{r:Nat}{k:Obj→Sem α}{k':Obj→Sem β}(hr:r<n)
  (h:∀ρ' n' d o o',Ext n ρ ρ'→n≤n'→ObjR P ρ' n' d (.rest o) o'→Sim P B w0 q R ρ' n' (k o) (k' o')):Sim P B w0 q R ρ n ((Go.getObj r).bind k) ((Go.getObj (ρ.f r)).bind k'):=by
 intro ρ1 S w he hn hw a S' hrun
 simp only [Go.getObj,Sem.bind,runA] at hrun
 split at hrun
 ·rename_i o hget
  obtain⟨hlt,o',ho',hob⟩:=hw.obj _ _ hget
  obtain⟨b,w',ρ2,g1,g2⟩:=h ρ1 S.next _ _ _ he hn hob ρ1 S w (Ext.refl _ _) (Nat.le_refl _) hw a S' hrun
  refine⟨b,w',ρ2,?_,g2⟩
  have e:ρ.f r=ρ1.f r:=(he r hr).1.symm
  have hnc':∀c e fz,o'≠.cells c e fz:=by
   intro c e fz h
   subst h
   generalize ρ1.d r=d at hob
   cases hob
  simp only [Go.getObj,Sem.bind,Sem.run,e,ho']
  cases o' with
  | cells c e fz=>exact (hnc' c e fz rfl).elim
  | _=>exact g1
 ·cases hrun
 ·cases hrun
theorem Sim.ofProg {α β:Type}{R:Ren→Nat→α→β→Prop}{k:Program→Sem β}{t:Sem α}(h:Sim P B w0 q R ρ n t (k P)):Sim P B w0 q R ρ n t (Go.program.bind k):=by
 intro ρ1 S w he hn hw a S' hr
 obtain⟨b,w',ρ2,g1,g2⟩:=h ρ1 S w he hn hw a S' hr
 exact⟨b,w',ρ2,by simp only [Go.program,Sem.bind,Sem.run];exact g1,g2⟩
theorem Sim.markR {α β:Type}{R:Ren→Nat→α→β→Prop}{m:Mark}{t:Sem α}{t':Sem β}(h:Sim P B w0 q R ρ n t t'):Sim P B w0 q R ρ n t (Sem.mark m t'):=by
 intro ρ1 S w he hn hw a S' hr
 exact h ρ1 S w he hn hw a S' hr
theorem sim_callFunc (E:Env P) (hb:Base P ρ n) (f:FuncId) {x x':Array Value}(h:ArrR ρ n x x'):Sim P B w0 q NRel ρ n (callFuncA E f x) (callFunc f x'):=by
 unfold callFuncA callFunc
 refine Sim.prog ?_
 cases hf:P.funcs[f]? with
 | none=>exact Sim.halt
 | some fn =>
  dsimp only
  rw [E.notNG f fn hf]
  cases hbody:fn.body with
  | some c=>exact Sim.pure mono_N (.enter f h)
  | none =>
   simp only [Option.isNone_none,if_true,Bool.false_eq_true,if_false]
   cases he:E.ext f with
   | none=>exact Sim.halt
   | some e =>
    obtain⟨fn',e',h1,h2,h3,h4,h5⟩:=E.extOk f e he
    rw [hf] at h1
    cases h1
    simp only [h3,h4]
    refine Sim.markR (t':=(e' x').bind fun v=>Sem.pure (Next.value v)) ?_
    exact Sim.bind (h5 B w0 q ρ n x x' hb h) fun ρ1 n1 a b h1 h2 hab=>Sim.pure mono_N (.value hab)
theorem sim_method (t:TypeId) (name:String) {v v':Value}(h:VR ρ n v v') (fuel:Nat) :
  Sim P B w0 q (fun ρ n a b=>a.1=b.1∧VR ρ n a.2 b.2) ρ n (methodA t v name) (Go.method (fuel+1) t v' name):=by
 unfold methodA Go.method
 have mono:Mono (fun (ρ:Ren) (n:Nat) (a b:FuncId×Value)=>a.1=b.1∧VR ρ n a.2 b.2):=fun _ _ _ _ _ _ h he hn=>⟨h.1,h.2.mono he hn⟩
 refine Sim.bindE (sim_typeInfo t) fun ρ1 n1 i h1 h2=>?_
 have h':=h.mono h1 h2
 dsimp only
 cases i.methods.find? (·.name == name) with
 | none=>exact Sim.halt
 | some m =>
  dsimp only
  cases hp:m.path.toList with
  | cons a l=>exact Sim.halt
  | nil =>
   dsimp only
   cases hf:m.func with
   | none=>exact Sim.halt
   | some fp =>
    obtain⟨f,pr⟩:=fp
    simp only [follow,bind_eq,pure_eq,Sem.bind,receiverAt]
    cases hu:P.underlying t with
    | none=>exact Sim.un hu
    | some d =>
    rw [Sem.bind_assoc']
    refine Sim.ul hu (Sim.ur hu ?_)
    cases d<;>cases pr<;>first
     | exact Sim.halt
     | exact Sim.pure mono ⟨rfl,h'⟩
     | skip
    rename_i elem
    cases h' with
    | ptr a ha hs =>
     simp only [hs]
     have he:m.path.isEmpty=true:=by
      rw [Array.isEmpty_iff,← Array.toList_eq_nil_iff]
      exact hp
     simp only [he,if_true]
     have hw:∀(ts:Array TypeId) (xt:TypeId) (a:Addr) (s n:String),Builtin.ssaWrapNilChk_ ts xt #[.pointer (some a),strVal s,strVal n]=Sem.pure (.pointer (some a)):=fun _ _ _ _ _=>rfl
     simp only [pure_eq,Place.get,Sem.bind,hw,asAddr]
     exact Sim.bind (sim_loadVar elem ha) fun ρ2 n2 a b h1 h2 hab=>Sim.pure mono ⟨rfl,hab⟩
    | _=>exact Sim.halt
theorem sim_callMethod (E:Env P) (hb:Base P ρ n) (name:String) {v v':Value}{x x':Array Value}(h:VR ρ n v v') (hx:ArrR ρ n x x') :
  Sim P B w0 q NRel ρ n (callMethodA E v name x) (callMethod v' name x'):=by
 unfold callMethodA callMethod
 cases h with
 | iface t hv =>
  dsimp only
  refine Sim.ofProg ?_
  refine Sim.bind (sim_method t name hv (P.types.size+99)) fun ρ1 n1 a b h1 h2 hab=>?_
  obtain⟨f,r⟩:=a
  obtain⟨f',r'⟩:=b
  obtain⟨e,hr⟩:=hab
  dsimp only at e hr
  subst e
  dsimp only
  refine sim_callFunc E (hb.mono h1 h2) f (ArrR.append ?_ (hx.mono h1 h2))
  simpa using (ArrR.nil (ρ:=ρ1) (n:=n1)).push hr
 | _=>exact Sim.halt
theorem ArrR.get {x x':Array Value}(h:ArrR ρ n x x') (i:Nat):OR ρ n x[i]? x'[i]?:=by
 rcases h.get? i with ⟨h1,h2⟩|⟨u,u',h1,h2,h3⟩
 ·rw [h1,h2];exact .none
 ·rw [h1,h2];exact .some h3
theorem zip_rel (p:List Tmp):∀{l l':List Value}{y y':Array Value},LR (VR ρ n) l l'→ArrR ρ n y y' →
  ArrR ρ n ((p.zip l).foldl (fun tmps (t,a)=>tmps.setIfInBounds t a) y) ((p.zip l').foldl (fun tmps (t,a)=>tmps.setIfInBounds t a) y'):=by
 induction p with
 | nil=>intro l l' y y' _ hy;exact hy
 | cons t p ih =>
  intro l l' y y' h hy
  cases h with
  | nil=>exact hy
  | cons hv ht=>exact ih ht (hy.set t hv)
theorem sim_invoke (E:Env P) (hb:Base P ρ n) {t t':Target}(ht:TargetR ρ n t t') {x x':Array Value}(hx:ArrR ρ n x x') :
  Sim P B w0 q NRel ρ n (invokeA E t x) (invoke t' x'):=by
 cases ht with
 | collected r h=>exact Sim.halt
 | fn hf hc =>
  cases hf with
  | func f=>exact sim_callFunc E hb f (hx.append hc)
  | method s =>
   unfold invokeA invoke
   dsimp only
   have hg:=hx.get 0
   revert hg
   generalize x[0]?=u
   generalize x'[0]?=u'
   intro hg
   cases hg with
   | none=>exact Sim.halt
   | some hv =>
    dsimp only
    rw [← hx.size]
    exact sim_callMethod E hb s hv (hx.extract 1 _)
  | yield l hl =>
   unfold invokeA invoke Instr.yield Instr.getLoop
   simp only [bind_eq,pure_eq]
   rw [Sem.bind_assoc']
   refine Sim.getObj hl fun ρ1 n1 d o o' h1 h2 hob=>?_
   have hx1:=hx.mono h1 h2
   cases hob with
   | @loop r r' _ hst hpe hfn htm hpa has hbo hd hd' =>
    simp only [Sem.bind]
    by_cases hs:x.size=r.params.size
    ·rw [decide_eq_true hs]
     rw [if_neg (by rw [← hx1.size,hpa];simpa using hs)]
     rw [hfn,has,hbo,hpa,← (h1 l hl).1]
     refine Sim.pure mono_N (.round l _ _ _ (by omega) ?_)
     rw [← Array.foldl_toList,← Array.foldl_toList,Array.toList_zip,Array.toList_zip]
     exact zip_rel _ hx1.list htm
    ·rw [decide_eq_false hs]
     exact Sim.halt
   | _=>exact Sim.halt
  | _=>exact Sim.halt
theorem sim_ofValue {f f':Value}(h:VR ρ n f f') {x x':Array Value}(hx:ArrR ρ n x x'):Sim P B w0 q DRel ρ n (ofValueA f x) (Deferred.ofValue f' x'):=by
 cases h with
 | func hf ha hA hb hB=>exact Sim.pure mono_D ⟨.fn hf ⟨hb,hB⟩,(ArrR.mk ha hA).append hx⟩
 | _=>exact Sim.halt
theorem sim_len (ts:Array TypeId) (ty:TypeId) {x x':Array Value}(hx:ArrR ρ n x x'):Sim P B w0 q VRel ρ n (Builtin.len_ ts ty x) (Builtin.len_ ts ty x'):=by
 unfold Builtin.len_
 have hg:=hx.get 0
 revert hg
 generalize x[0]?=u
 generalize x'[0]?=u'
 intro hg
 cases ts[0]? with
 | none=>exact Sim.halt
 | some t =>
  cases hg with
  | none=>exact Sim.halt
  | some hv =>
   dsimp only
   refine Sim.bindE (sim_underlying t) fun ρ1 n1 d h1 h2=>?_
   have hv:=hv.mono h1 h2
   cases d with
   | string=>cases hv<;>first | exact Sim.pure mono_V (.int _ _) | exact Sim.halt
   | array m e=>exact Sim.pure mono_V (.int _ _)
   | pointer arr =>
    dsimp only
    refine Sim.bindE (sim_underlying arr) fun ρ2 n2 d h3 h4=>?_
    cases d<;>first | exact Sim.pure mono_V (.int _ _) | exact Sim.halt
   | slice e=>cases hv<;>first | exact Sim.pure mono_V (.int _ _) | exact Sim.halt
   | map k e =>
    cases hv with
    | mapNil=>exact Sim.pure mono_V (.int _ _)
    | map r hr =>
     dsimp only
     refine Sim.getObj hr fun ρ2 n2 dd o o' h3 h4 hob=>?_
     cases hob with
     | map he=>dsimp only;rw [he.size];exact Sim.pure mono_V (.int _ _)
     | _=>exact Sim.halt
    | _=>exact Sim.halt
   | _=>cases hv<;>first | exact Sim.halt | exact Sim.pure mono_V (.int _ _)
noncomputable def capA (ts:Array TypeId) (x:Array Value):Sem Value :=
 match ts[0]?,x[0]? with
 | some t,some v=>(underlying t).bind fun d=>match d,v with
  | .slice _,.slice none _ m=>Sem.pure (goInt m)
  | .slice _,.slice (some a) _ m=>match a.spot with
   | none=>(exactA a.block).bind fun _=>Sem.pure (goInt m)
   | some _=>stuck ""
  | _,_=>stuck ""
 | _,_=>stuck ""
theorem sim_cap (ts:Array TypeId) (ty:TypeId) {x x':Array Value}(hx:ArrR ρ n x x'):Sim P B w0 q VRel ρ n (capA ts x) (Builtin.cap_ ts ty x'):=by
 unfold capA Builtin.cap_
 have hg:=hx.get 0
 revert hg
 generalize x[0]?=u
 generalize x'[0]?=u'
 intro hg
 cases ts[0]? with
 | none=>exact Sim.halt
 | some t =>
  cases hg with
  | none=>exact Sim.halt
  | some hv =>
   dsimp only
   cases hu:P.underlying t with
   | none=>exact Sim.un hu
   | some d =>
   refine Sim.ul hu (Sim.ur hu ?_)
   cases d with
   | slice e =>
    cases hv with
    | sliceNil l c=>exact Sim.pure mono_V (.int _ _)
    | slice a l c ha hs =>
     simp only [hs]
     refine Sim.exactA ha fun hd=>?_
     rw [hd]
     exact Sim.pure mono_V (.int _ _)
    | _=>exact Sim.halt
   | _=>exact Sim.halt
noncomputable def firstCellsA (size k:Nat) (v:Value):Sem (Array Value) :=
 match v with
 | .slice (some a) _ _=>match a.spot with
  | none=>loadCellsA a (k * size)
  | some _=>match k * size with
   | 0=>Sem.pure #[]
   | _=>stuck ""
 | .slice none _ _=>Sem.pure #[]
 | .string s=>Sem.pure ((s.extract 0 k).data.map fun b=>.int .u8 b.toNat)
 | _=>stuck ""
theorem sim_firstCells (size k:Nat) {v v':Value}(h:VR ρ n v v'):Sim P B w0 q ARel ρ n (firstCellsA size k v) (Builtin.firstCells size k v'):=by
 cases h with
 | sliceNil l c=>exact Sim.pure mono_A ArrR.nil
 | slice a l c ha hs =>
  unfold firstCellsA Builtin.firstCells
  simp only [hs]
  exact sim_loadCells ha _
 | tail b o kk hb =>
  unfold firstCellsA Builtin.firstCells
  dsimp only
  generalize k * size=m
  cases m with
  | zero=>exact Sim.pure mono_A ArrR.nil
  | succ m=>exact Sim.halt
 | string s =>
  refine Sim.pure mono_A ⟨rfl,fun i u u' h1 h2=>?_⟩
  rw [h1] at h2
  cases h2
  rw [Array.getElem?_map,Option.map_eq_some_iff] at h1
  obtain⟨b,_,rfl⟩:=h1
  exact .int _ _
 | _=>exact Sim.halt
theorem sim_lenOf {v v':Value}(h:VR ρ n v v'):Sim P B w0 q EqR ρ n (Builtin.lenOf v) (Builtin.lenOf v'):=by
 cases h<;>first | exact Sim.pure mono_E rfl | exact Sim.halt
noncomputable def copyA (ts:Array TypeId) (x:Array Value):Sem Value :=
 match ts[0]?,x[0]?,x[1]? with
 | some dt,some dst,some src=>(underlying dt).bind fun d=>match d with
  | .slice elem=>match dst with
   | .slice none dLen _=>(Builtin.lenOf src).bind fun l=>(Go.sizeOf elem).bind fun s=>(firstCellsA s (Nat.min l dLen) src).bind fun _=>Sem.pure (goInt (Nat.min l dLen))
   | .slice (some a) dLen _=>match a.spot with
    | none=>(Builtin.lenOf src).bind fun l=>(Go.sizeOf elem).bind fun s=>(firstCellsA s (Nat.min l dLen) src).bind fun cs=>(storeCells a cs.toList).bind fun _=>Sem.pure (goInt (Nat.min l dLen))
    | some _=>stuck ""
   | _=>stuck ""
  | _=>stuck ""
 | _,_,_=>stuck ""
theorem sim_copy (ts:Array TypeId) (ty:TypeId) {x x':Array Value}(hx:ArrR ρ n x x'):Sim P B w0 false VRel ρ n (copyA ts x) (Builtin.copy_ ts ty x'):=by
 unfold copyA Builtin.copy_
 have hg:=hx.get 0
 have hg1:=hx.get 1
 revert hg hg1
 generalize x[0]?=u
 generalize x'[0]?=u'
 generalize x[1]?=v
 generalize x'[1]?=v'
 intro hg hg1
 cases ts[0]? with
 | none=>exact Sim.halt
 | some t =>
  cases hg with
  | none=>exact Sim.halt
  | some hd =>
   cases hg1 with
   | none=>exact Sim.halt
   | some hs =>
    dsimp only
    refine Sim.bindE (sim_underlying t) fun ρ1 n1 d h1 h2=>?_
    have hd:=hd.mono h1 h2
    have hs:=hs.mono h1 h2
    cases d with
    | slice elem =>
     cases hd with
     | sliceNil l c =>
      dsimp only
      refine Sim.bindE (sim_lenOf hs) fun ρ2 n2 m h3 h4=>Sim.bindE (sim_sizeOf elem) fun ρ3 n3 s h5 h6=>?_
      exact Sim.bind (sim_firstCells s _ ((hs.mono h3 h4).mono h5 h6)) fun ρ4 n4 a b h7 h8 hab=>Sim.pure mono_V (.int _ _)
     | slice a l c ha hsp =>
      simp only [hsp]
      refine Sim.bindE (sim_lenOf hs) fun ρ2 n2 m h3 h4=>Sim.bindE (sim_sizeOf elem) fun ρ3 n3 s h5 h6=>?_
      refine Sim.bind (sim_firstCells s _ ((hs.mono h3 h4).mono h5 h6)) fun ρ4 n4 y y' h7 h8 hab=>?_
      rw [((h3.trans h5 h4).trans h7 (by omega)).addr ha]
      exact Sim.bindE (sim_storeCells _ _ 0 (by omega) hab.list) fun _ _ _ _ _=>Sim.pure mono_V (.int _ _)
     | _=>exact Sim.halt
    | _=>exact Sim.halt
theorem HF.min2 (x y:Value):HF P (Builtin.min2 x y):=by
 unfold Builtin.min2
 split
 all_goals first
  | exact HF.pure _
  | exact HF.halt _
  | (split<;>first | exact HF.pure _ | exact HF.bind (HF.choose _) fun _=>HF.pure _)
  | (refine HF.bind (HF.stringOp _ _ _) fun v=>HF.bind ?_ fun _=>HF.pure _
     cases v<;>first | exact HF.pure _ | exact HF.halt _)
theorem HF.max2 (x y:Value):HF P (Builtin.max2 x y):=by
 unfold Builtin.max2
 split
 all_goals first
  | exact HF.pure _
  | exact HF.halt _
  | (split<;>first | exact HF.pure _ | exact HF.bind (HF.choose _) fun _=>HF.pure _)
  | (refine HF.bind (HF.stringOp _ _ _) fun v=>HF.bind ?_ fun _=>HF.pure _
     cases v<;>first | exact HF.pure _ | exact HF.halt _)
theorem HF.foldlM {α β:Type}(f:β→α→Sem β) (h:∀b a,HF P (f b a)):∀(l:List α) (b:β),HF P (l.foldlM f b)
 | [],b=>by rw [List.foldlM_nil];exact HF.pure _
 | a :: l,b=>by rw [List.foldlM_cons];exact HF.bind (h b a) fun c=>HF.foldlM f h l c
theorem HF.min (ts:Array TypeId) (ty:TypeId) (x:Array Value):HF P (Builtin.min_ ts ty x):=by
 unfold Builtin.min_
 split
 ·exact HF.halt _
 ·exact HF.foldlM _ HF.min2 _ _
theorem HF.max (ts:Array TypeId) (ty:TypeId) (x:Array Value):HF P (Builtin.max_ ts ty x):=by
 unfold Builtin.max_
 split
 ·exact HF.halt _
 ·exact HF.foldlM _ HF.max2 _ _
noncomputable def onClosed (x:Array Value) (t:Sem Value):Sem Value:=match x.toList.all (closedV 64) with
 | true=>checked t
 | false=>stuck ""
theorem sim_onClosed {x x':Array Value}(hx:ArrR ρ n x x') {f:Array Value→Sem Value}(h:∀y,HF P (f y)):Sim P B w0 q VRel ρ n (onClosed x (f x)) (f x'):=by
 unfold onClosed
 split
 ·rename_i hc
  rw [hx.closed hc]
  exact sim_checked (h x)
 ·exact Sim.halt
noncomputable def builtinA (b:Builtin) (ts:Array TypeId) (x:Array Value):Sem Next :=
 match b with
 | .len=>(Builtin.len_ ts 0 x).bind fun v=>Sem.pure (.value v)
 | .cap=>(capA ts x).bind fun v=>Sem.pure (.value v)
 | .copy=>(copyA ts x).bind fun v=>Sem.pure (.value v)
 | .min=>(onClosed x (Builtin.min_ ts 0 x)).bind fun v=>Sem.pure (.value v)
 | .max=>(onClosed x (Builtin.max_ ts 0 x)).bind fun v=>Sem.pure (.value v)
 | .recover=>Sem.pure .recover
 | _=>stuck ""
theorem sim_builtin (b:Builtin) (ts:Array TypeId) (ty:TypeId) (cs:Array Bool) {x x':Array Value}(hx:ArrR ρ n x x') :
  Sim P B w0 false NRel ρ n (builtinA b ts x) (builtin b ts ty cs x'):=by
 have v:∀{t t':Sem Value},Sim P B w0 false VRel ρ n t t'→Sim P B w0 false NRel ρ n (t.bind fun v=>Sem.pure (.value v)) (t'.bind fun v=>Sem.pure (.value v)) :=
  fun h=>Sim.bind h fun _ _ _ _ _ _ hab=>Sim.pure mono_N (.value hab)
 cases b with
 | len=>exact v (sim_len ts 0 hx)
 | cap=>exact v (sim_cap ts ty hx)
 | copy=>exact v (sim_copy ts ty hx)
 | min=>exact v (sim_onClosed hx (HF.min ts 0))
 | max=>exact v (sim_onClosed hx (HF.max ts 0))
 | recover=>exact Sim.pure mono_N .recover
 | _=>exact Sim.halt
end
end Go.Eng
namespace Go.Eng
open Go Go.RowKit
def plainKey:TypeDesc→Bool
 | .int _ | .string | .bool=>true
 | _=>false
def structKey:TypeDesc→Bool
 | .struct _=>true
 | _=>false
noncomputable def keyA (t:TypeId) (k:Value):Sem TypeDesc:=(underlying t).bind fun d=>match plainKey d with
 | true=>Sem.pure d
 | false=>match structKey d && closedV 64 k with
  | true=>(Instr.checkKey false 10000 t k).bind fun _=>(Instr.checkKey true 10000 t k).bind fun _=>Sem.pure d
  | false=>stuck ""
noncomputable def findSA (t:TypeId) (k:Value):List MapEntry→Nat→Sem (Option (Nat×Value))
 | [],_=>Sem.pure none
 | e :: es,i=>match closedV 64 e.key with
  | true=>(Op.equal t k e.key).bind fun b=>match b with
   | true=>match Instr.sameBits 10000 e.key k with
    | true=>Sem.pure (some (i,e.val))
    | false=>stuck ""
   | false=>findSA t k es (i+1)
  | false=>stuck ""
noncomputable def findA (t:TypeId) (kd:TypeDesc) (k:Value) (es:List MapEntry):Sem (Option (Nat×Value)):=match plainKey kd with
 | true=>match Instr.findNow kd k es 0 with
  | some r=>Sem.pure r
  | none=>stuck ""
 | false=>findSA t k es 0
noncomputable def lookupA (xt:TypeId) (x i:Value) (ok:Bool):Sem Value:=(underlying xt).bind fun d=>match d with
 | .map key elem=>(keyA key i).bind fun kd=>match x with
  | .map none=>(zeroValue elem).bind fun z=>Sem.pure (if ok=true then .tuple #[z,.bool false] else z)
  | .map (some r)=>(getObj r).bind fun o=>match o with
   | .map es _=>(findA key kd i es.toList).bind fun f=>match f with
    | some (_,v)=>Sem.pure (if ok=true then .tuple #[v,.bool true] else v)
    | none=>(zeroValue elem).bind fun z=>Sem.pure (if ok=true then .tuple #[z,.bool false] else z)
   | _=>stuck ""
  | _=>stuck ""
 | _=>stuck ""
noncomputable def mapUpdateA (xt:TypeId) (x i v:Value):Sem Unit:=(underlying xt).bind fun d=>match d with
 | .map key _=>(keyA key i).bind fun kd=>match x with
  | .map (some r)=>(getObj r).bind fun o=>match o with
   | .map es clock=>(findA key kd i es.toList).bind fun f=>match f with
    | some (j,_)=>(setObj r (.map (es.modify j fun e=>{ key:=i,val:=v,born:=e.born }) clock)).bind fun _=>Sem.pure ()
    | none=>(setObj r (.map (es.push { key:=i,val:=v,born:=clock }) (clock+1))).bind fun _=>Sem.pure ()
   | _=>stuck ""
  | _=>stuck ""
 | _=>stuck ""
noncomputable def mapEntryA (xt:TypeId) (x i:Value):Sem Value:=(underlying xt).bind fun d=>match d with
 | .map key elem=>(keyA key i).bind fun kd=>match x with
  | .map (some r)=>(getObj r).bind fun o=>match o with
   | .map es clock=>(findA key kd i es.toList).bind fun f=>match f with
    | some (j,v)=>(setObj r (.map (es.modify j fun e=>{ key:=i,val:=e.val,born:=e.born }) clock)).bind fun _=>Sem.pure (.tuple #[v,goInt (((es[j]?).map (·.born)).getD 0)])
    | none=>(zeroValue elem).bind fun z=>(setObj r (.map (es.push { key:=i,val:=z,born:=clock }) (clock+1))).bind fun _=>Sem.pure (.tuple #[z,goInt clock])
   | _=>stuck ""
  | _=>stuck ""
 | _=>stuck ""
noncomputable def entryStoreA (x stamp v:Value):Sem Unit:=match x with
 | .map (some r)=>(getObj r).bind fun o=>match o with
  | .map es clock=>(asInt stamp).bind fun born=>match es.toList.findIdx? (fun e=>(e.born:Int) == born) with
   | some j=>(setObj r (.map (es.modify j fun e=>{ key:=e.key,val:=v,born:=e.born }) clock)).bind fun _=>Sem.pure ()
   | none=>stuck ""
  | _=>stuck ""
 | _=>stuck ""
noncomputable def deleteA (ts:Array TypeId) (x:Array Value):Sem Value:=match ts[0]?,x[0]?,x[1]? with
 | some t,some m,some i=>(underlying t).bind fun d=>match d with
  | .map key _=>(keyA key i).bind fun kd=>match m with
   | .map none=>Sem.pure (.tuple #[])
   | .map (some r)=>(getObj r).bind fun o=>match o with
    | .map es clock=>(findA key kd i es.toList).bind fun f=>match f with
     | some (j,_)=>(setObj r (.map (es.eraseIdxIfInBounds j) clock)).bind fun _=>Sem.pure (.tuple #[])
     | none=>(setObj r (.map es clock)).bind fun _=>Sem.pure (.tuple #[])
    | _=>stuck ""
   | _=>stuck ""
  | _=>stuck ""
 | _,_,_=>stuck ""
noncomputable def rangeA (xt:TypeId) (x:Value):Sem Value:=(underlying xt).bind fun d=>match d,x with
 | .string,.string s=>(newObj (.stringIter s 0)).bind fun r=>Sem.pure (.pointer (some ⟨r,0,none⟩))
 | .map _ _,.map none=>(newObj (.mapIter none 0 #[] 0)).bind fun r=>Sem.pure (.pointer (some ⟨r,0,none⟩))
 | .map _ _,.map (some m)=>(getObj m).bind fun o=>match o with
  | .map _ clock=>(newObj (.mapIter (some m) clock #[] clock)).bind fun r=>Sem.pure (.pointer (some ⟨r,0,none⟩))
  | _=>stuck ""
 | _,_=>stuck ""
noncomputable def nextTextA (it:Value):Sem Value:=match it with
 | .pointer (some ⟨r,0,none⟩)=>(getObj r).bind fun o=>match o with
  | .stringIter s pos=>match Nat.ble (pos+1) s.size with
   | true=>(setObj r (.stringIter s (pos+(Utf8.decode s pos).2))).bind fun _=>Sem.pure (.tuple #[.bool true,goInt pos,.int .i32 (Utf8.decode s pos).1])
   | false=>Sem.pure (.tuple #[.bool false])
  | _=>stuck ""
 | _=>stuck ""
noncomputable def entryA (it:Value):Sem Value:=match it with
 | .pointer (some ⟨r,0,none⟩)=>(getObj r).bind fun o=>match o with
  | .mapIter (some m) _ seen stepped=>match seen.back? with
   | some stamp=>(getObj m).bind fun o=>match o with
    | .map es clock=>match clock == stepped with
     | true=>match es.toList.find? (·.born == stamp) with
      | some e=>Sem.pure (.tuple #[e.key,e.val])
      | none=>stuck ""
     | false=>stuck ""
    | _=>stuck ""
   | none=>stuck ""
  | _=>stuck ""
 | _=>stuck ""
section
variable {P:Program}{B:Nat}{w0:World}{q:Bool}{ρ:Ren}{n:Nat}
theorem Sim.setObj {α β:Type}{R:Ren→Nat→α→β→Prop}{r:Nat}{o o':Obj}{k:Sem α}{k':Sem β}(hr:r<n) (ho:∀d,ObjR P ρ n d (.rest o) o')
  (h:Sim P B w0 false R ρ n k k'):Sim P B w0 false R ρ n ((Go.setObj r o).bind fun _=>k) ((Go.setObj (ρ.f r) o').bind fun _=>k'):=by
 intro ρ1 S w he hn hw a S' hrun
 simp only [Go.setObj,Sem.bind,runA] at hrun
 split at hrun
 case h_2=>cases hrun
 rename_i hp
 split at hrun
 ·cases hrun
 ·rename_i x hget
  split at hrun
  ·cases hrun
  ·rename_i hoc
   split at hrun
   case h_2=>cases hrun
   obtain⟨hlt,ox,hox,hob⟩:=hw.obj _ _ hget
   have e:ρ.f r=ρ1.f r:=(he r hr).1.symm
   have hnc':∀c e fz,ox≠.cells c e fz:=by
    intro c e fz h
    subst h
    generalize ρ1.d r=d at hob
    cases hob
   have hwset:=hw.set (o2:=.rest o) (o2':=o') (w':={ w with heap:=w.heap.setIfInBounds (ρ1.f r) o' }) hget (Nat.le_of_ble_eq_true hp) ((ho (ρ1.d r)).mono he hn) rfl rfl rfl (by simp)
    (by
     have:=hw.rng r hlt
     simp [this]) (fun j hj=>by
     simp only
     rw [Array.getElem?_setIfInBounds_ne (by omega)])
   obtain⟨b,w',ρ2,g1,g2,g3,gp,g4,g5,_⟩:=h ρ1 _ _ he (by simpa [AState.set_eq] using hn) hwset a S' hrun
   refine⟨b,w',ρ2,?_,g2,g3,gp,g4,g5,fun h=>by cases h⟩
   simp only [Go.setObj,Sem.bind,Sem.run,e,hox]
   cases ox with
   | cells c e fz=>exact (hnc' c e fz rfl).elim
   | _=>exact g1
 ·cases hrun
theorem Sim.setObjU {r:Nat}{o o':Obj}(hr:r<n) (ho:∀d,ObjR P ρ n d (.rest o) o'):Sim P B w0 false EqR ρ n ((Go.setObj r o).bind fun _=>Sem.pure ()) (Go.setObj (ρ.f r) o'):=by
 have h:=Sim.setObj (B:=B) (w0:=w0) hr ho (Sim.pure (P:=P) (B:=B) (w0:=w0) (q:=false) (ρ:=ρ) (n:=n) (R:=EqR) mono_E (show EqR ρ n () () from rfl))
 exact h
theorem HF.checkKey (e:Bool):∀(n:Nat) (t:TypeId) (v:Value),HF P (Instr.checkKey e n t v)
 | 0,_,_=>HF.halt _
 | n+1,t,v=>by
  unfold Instr.checkKey
  simp only [bind_eq,pure_eq]
  refine HF.bind (HF.underlying t) fun d=>?_
  split
  ·refine HF.bind (HF.typeInfo _) fun info=>?_
   split
   ·split
    ·exact HF.bind (HF.rpanic _) fun _=>HF.bind (HF.typeStr _) fun _=>HF.bind (HF.rpanic _) fun _=>HF.checkKey e n _ _
    ·exact HF.bind (HF.typeStr _) fun _=>HF.bind (HF.rpanic _) fun _=>HF.checkKey e n _ _
   ·exact HF.checkKey e n _ _
  ·exact HF.bind (HF.forInR _ _ _ fun a s=>HF.bind (HF.sizeOf _) fun _=>HF.bind (HF.part _ _ _) fun c=>HF.bind (HF.checkKey e n _ _) fun _=>HF.pure _) fun _=>HF.pure _
  ·refine HF.bind (HF.forInA _ _ _ fun a s=>?_) fun _=>HF.pure _
   split
   ·exact HF.bind (HF.part _ _ _) fun c=>HF.bind (HF.checkKey e n _ _) fun _=>HF.pure _
   ·exact HF.pure _
  ·exact HF.pure _
  ·exact HF.halt _
  ·exact HF.halt _
  ·exact HF.halt _
  ·exact HF.pure _
def KeyOk (P:Program) (t:TypeId) (d:TypeDesc) (k:Value):Prop :=
 plainKey d=true∨(plainKey d=false∧structKey d=true∧closedV 64 k=true∧∀e w,(Instr.checkKey e 10000 t k).run P w=.ok () w)
theorem Sim.lhf {α α' β:Type}{R:Ren→Nat→α→β→Prop}{s:Sem α'}{k:α'→Sem α}{t':Sem β}(hf:HF P s)
  (h:∀a,(∀w,s.run P w=.ok a w)→Sim P B w0 q R ρ n (k a) t'):Sim P B w0 q R ρ n (s.bind k) t':=by
 intro ρ1 S w he hn hw a S' hr
 rw [runA_bind] at hr
 split at hr
 ·rename_i b S1 h1
  obtain⟨rfl,h2⟩:=hf _ _ _ h1
  exact h b h2 ρ1 S1 w he hn hw a S' hr
 ·cases hr
theorem Sim.rrun {α β β':Type}{R:Ren→Nat→α→β→Prop}{s:Sem β'}{k:β'→Sem β}{t:Sem α}{b:β'}(hf:∀w,s.run P w=.ok b w)
  (h:Sim P B w0 q R ρ n t (k b)):Sim P B w0 q R ρ n t (s.bind k):=by
 intro ρ1 S w he hn hw a S' hr
 obtain⟨b,w',ρ2,g1,g2⟩:=h ρ1 S w he hn hw a S' hr
 exact⟨b,w',ρ2,by rw [Sem.run_bind',hf];exact g1,g2⟩
theorem Sim.keyA {α β:Type}{R:Ren→Nat→α→β→Prop}{t:TypeId}{key:Value}{k:TypeDesc→Sem α}{t':Sem β}
  (h:∀d,P.underlying t=some d→KeyOk P t d key→Sim P B w0 q R ρ n (k d) t'):Sim P B w0 q R ρ n ((Go.Eng.keyA t key).bind k) t':=by
 unfold Go.Eng.keyA
 rw [Sem.bind_assoc']
 cases hu:P.underlying t with
 | none=>exact Sim.un hu
 | some d =>
  refine Sim.ul hu ?_
  cases hp:plainKey d with
  | true=>exact h d hu (.inl hp)
  | false =>
   dsimp only
   split
   ·rename_i hc
    rw [Bool.and_eq_true] at hc
    rw [Sem.bind_assoc']
    refine Sim.lhf (HF.checkKey _ _ _ _) fun _ h1=>?_
    rw [Sem.bind_assoc']
    refine Sim.lhf (HF.checkKey _ _ _ _) fun _ h2=>?_
    exact h d hu (.inr ⟨hp,hc.1,hc.2,fun e w=>by cases e;exact h1 w;exact h2 w⟩)
   ·exact Sim.haltBind
theorem Sim.checkKey {α β:Type}{R:Ren→Nat→α→β→Prop}{t:TypeId}{d:TypeDesc}{key:Value}(hu:P.underlying t=some d) (hp:KeyOk P t d key) {e:Bool}{v:Value}(hv:VR ρ n key v) {k:Unit→Sem β}{t':Sem α}
  (h:Sim P B w0 q R ρ n t' (k ())):Sim P B w0 q R ρ n t' ((Instr.checkKey e 10000 t v).bind k):=by
 rcases hp with hp|⟨_,_,hc,hr⟩
 ·rw [show (10000:Nat)=9999+1 from rfl]
  unfold Instr.checkKey
  simp only [bind_eq,pure_eq]
  rw [Sem.bind_assoc']
  refine Sim.ur hu ?_
  cases d<;>first | (cases hp;done) | exact h
 ·rw [hv.closed hc]
  exact Sim.rrun (hr e) h
theorem LR.of_at {α β:Type}{R:α→β→Prop}:∀{l:List α}{l':List β},l.length=l'.length→(∀(i:Nat) (v:α) (v':β),l[i]?=some v→l'[i]?=some v'→R v v')→LR R l l'
 | [],[],_,_=>.nil
 | [],_ :: _,h,_=>by simp at h
 | _ :: _,[],h,_=>by simp at h
 | a :: l,b :: l',h,hh=>.cons (hh 0 a b (by simp) (by simp)) (LR.of_at (by simpa using h) fun i v v' h1 h2=>hh (i+1) v v' (by simpa using h1) (by simpa using h2))
theorem EntsR.list {x y:Array MapEntry}(h:EntsR ρ n x y):LR (EntR ρ n) x.toList y.toList :=
 LR.of_at (by simpa using h.size) fun i v v' h1 h2=>h.at_ i v v' (by simpa using h1) (by simpa using h2)
theorem sameNow_rel {d:TypeDesc}{k k' x x':Value}(hk:VR ρ n k k') (hx:VR ρ n x x') {b:Bool}(h:Instr.sameNow d k x=some b) :
  Instr.sameNow d k' x'=some b∧(b=true→k=x∧k=k'∧x=x'∧Instr.keyThatStays k k=Sem.pure k):=by
 have stays:∀v,Instr.sameBits 10000 v v=true→Instr.keyThatStays v v=Sem.pure v:=by
  intro v hv
  unfold Instr.keyThatStays
  rw [if_pos hv]
  rfl
 have bb:∀s t:ByteArray,(s == t)=true→s=t:=fun s t h=>by
  obtain⟨a⟩:=s
  obtain⟨c⟩:=t
  have:(a == c)=true:=h
  rw [eq_of_beq this]
 have br:∀s:ByteArray,(s == s)=true:=fun s=>by
  obtain⟨a⟩:=s
  exact (show (a == a)=true from beq_self_eq_true a)
 cases hk<;>cases hx<;>cases d<;>simp only [Instr.sameNow] at h ⊢<;>first
  | (cases h;done)
  | (refine⟨h,fun hb=>?_⟩
     subst hb
     first
      | (have e:=bb _ _ (Option.some.inj h);subst e;refine⟨rfl,?_,?_,?_⟩<;>first | trivial | exact stays _ (br _))
      | (have e:=eq_of_beq (Option.some.inj h);subst e;refine⟨rfl,?_,?_,?_⟩<;>first | trivial | exact stays _ (beq_self_eq_true _))
      | (split at h
         ·rename_i hkk
          subst hkk
          have e:=eq_of_beq (Option.some.inj h)
          subst e
          refine⟨rfl,?_,?_,?_⟩<;>first | trivial | exact stays _ (by simp [Instr.sameBits])
         ·cases h))
theorem findNow_rel {d:TypeDesc}{k k':Value}(hk:VR ρ n k k') {l l':List MapEntry}(hl:LR (EntR ρ n) l l'):∀(i:Nat) {r:Option (Nat×Value)},Instr.findNow d k l i=some r →
  match r with
  | none=>Instr.findNow d k' l' i=some none
  | some (j,v)=>∃v',Instr.findNow d k' l' i=some (some (j,v'))∧VR ρ n v v'∧i≤j∧(∃e,l[j-i]?=some e∧e.key=k)∧(∃e,l'[j-i]?=some e∧e.key=k')∧Instr.keyThatStays k' k'=Sem.pure k':=by
 induction hl with
 | nil=>intro i r h;simp only [Instr.findNow,Option.some.injEq] at h;subst h;rfl
 | @cons a b l m hab ht ih =>
  intro i r h
  unfold Instr.findNow at h
  split at h
  ·rename_i hs
   obtain⟨h1,h2⟩:=sameNow_rel hk hab.key hs
   obtain⟨e1,e2,e3,e4⟩:=h2 rfl
   cases h
   refine⟨b.val,?_,hab.val,Nat.le_refl _,⟨a,by simp,e1.symm⟩,⟨b,by simp,by rw [← e3,← e1,e2]⟩,by rw [← e2];exact e4⟩
   unfold Instr.findNow
   rw [h1]
  ·rename_i hs
   obtain⟨h1,_⟩:=sameNow_rel hk hab.key hs
   have:=ih (i+1) h
   cases r with
   | none =>
    dsimp only at this ⊢
    unfold Instr.findNow
    rw [h1]
    exact this
   | some jv =>
    obtain⟨j,v⟩:=jv
    dsimp only at this ⊢
    obtain⟨v',g1,g2,g3,⟨e,g4,g5⟩,⟨e',g6,g7⟩,g8⟩:=this
    refine⟨v',?_,g2,by omega,⟨e,?_,g5⟩,⟨e',?_,g7⟩,g8⟩
    ·unfold Instr.findNow
     rw [h1]
     exact g1
    ·rw [show j-i=(j-(i+1))+1 by omega];simpa using g4
    ·rw [show j-i=(j-(i+1))+1 by omega];simpa using g6
  ·cases h
theorem Sim.findS {α β:Type}{R:Ren→Nat→α→β→Prop}{t:TypeId}{k:Value}(hc:closedV 64 k=true)
  {f:Option (Nat×Value)→Sem α}{f':Option (Nat×Value)→Sem β}(h0:Sim P B w0 q R ρ n (f none) (f' none)) {l l':List MapEntry}(hl:LR (EntR ρ n) l l'):∀(i:Nat)
  (_h1:∀j v v' e e',VR ρ n v v'→i≤j→l[j-i]?=some e→l'[j-i]?=some e'→Instr.keyThatStays e'.key k=Sem.pure k→Sim P B w0 q R ρ n (f (some (j,v))) (f' (some (j,v')))),
  Sim P B w0 q R ρ n ((findSA t k l i).bind f) ((Instr.findAsking t k l' i).bind f'):=by
 induction hl with
 | nil=>intro i _;exact h0
 | @cons a b l m hab ht ih =>
  intro i h1
  unfold findSA Instr.findAsking
  simp only [bind_eq,pure_eq]
  split
  ·rename_i hk
   have hbk:b.key=a.key:=hab.key.closed hk
   rw [Sem.bind_assoc',Sem.bind_assoc']
   refine Sim.lhf (HF.equal t k a.key hc hk) fun x hx=>?_
   rw [hbk]
   refine Sim.rrun hx ?_
   cases x with
   | true =>
    dsimp only
    split
    ·rename_i hs
     exact h1 i a.val b.val a b hab.val (Nat.le_refl _) (by simp) (by simp) (by rw [hbk];unfold Instr.keyThatStays;rw [if_pos hs];rfl)
    ·exact Sim.haltBind
   | false =>
    simp only [Bool.false_eq_true,if_false]
    refine ih (i+1) fun j v v' e e' hv hj g1 g2 g3=>?_
    refine h1 j v v' e e' hv (by omega) ?_ ?_ g3
    ·rw [show j-i=(j-(i+1))+1 by omega];simpa using g1
    ·rw [show j-i=(j-(i+1))+1 by omega];simpa using g2
  ·exact Sim.haltBind
theorem Sim.find {α β:Type}{R:Ren→Nat→α→β→Prop}{t:TypeId}{d:TypeDesc}(hu:P.underlying t=some d) {k k':Value}(hp:KeyOk P t d k) (hk:VR ρ n k k') {x y:Array MapEntry}(hl:EntsR ρ n x y)
  {f:Option (Nat×Value)→Sem α}{f':Option (Nat×Value)→Sem β}
  (h0:Sim P B w0 q R ρ n (f none) (f' none))
  (h1:∀j v v' e e',VR ρ n v v'→x[j]?=some e→y[j]?=some e'→Instr.keyThatStays e'.key k'=Sem.pure k'→Sim P B w0 q R ρ n (f (some (j,v))) (f' (some (j,v')))) :
  Sim P B w0 q R ρ n ((findA t d k x.toList).bind f) ((Instr.findKey t k' y.toList).bind f'):=by
 unfold findA Instr.findKey
 simp only [bind_eq,pure_eq]
 rw [Sem.bind_assoc']
 refine Sim.ur hu ?_
 rcases hp with hp|⟨hp,hs,hc,_⟩
 ·rw [hp]
  dsimp only
  cases hf:Instr.findNow d k x.toList 0 with
  | none=>exact Sim.haltBind
  | some r =>
   have:=findNow_rel (d:=d) hk hl.list 0 hf
   cases r with
   | none =>
    dsimp only at this
    rw [this]
    exact h0
   | some jv =>
    obtain⟨j,v⟩:=jv
    dsimp only at this
    obtain⟨v',g1,g2,g3,⟨e,g4,g5⟩,⟨e',g6,g7⟩,g8⟩:=this
    rw [g1]
    exact h1 j v v' e e' g2 (by simpa using g4) (by simpa using g6) (by rw [g7];exact g8)
 ·rw [hp]
  dsimp only
  have hkk:=hk.closed hc
  subst hkk
  have hll:=hl.list
  have main:=Sim.findS (t:=t) hc h0 hll 0 fun j v v' e e' hv _ g1 g2 g3=>h1 j v v' e e' hv (by simpa using g1) (by simpa using g2) g3
  generalize hy:y.toList=l' at *
  generalize x.toList=l at *
  cases hll with
  | nil =>
   simp only [Instr.findNow]
   exact h0
  | @cons a b l m hab ht =>
   have e0:Instr.findNow d k' (b :: m) 0=none:=by
    unfold Instr.findNow
    cases d<;>first | (cases hs;done) | (simp [Instr.sameNow])
   rw [e0]
   exact main
theorem sim_lookup (hz:ZeroOk P) (xt:TypeId) {x x' i i':Value}(ok:Bool) (hx:VR ρ n x x') (hi:VR ρ n i i'):Sim P B w0 q VRel ρ n (lookupA xt x i ok) (Instr.lookup xt x' i' ok):=by
 have fin:∀{ρ n}(elem:TypeId),Sim P B w0 q VRel ρ n ((zeroValue elem).bind fun z=>Sem.pure (if ok=true then .tuple #[z,.bool false] else z))
   ((zeroValue elem).bind fun z=>(Sem.pure (z,false)).bind fun x=>Sem.pure (if ok=true then Value.tuple #[x.1,Value.bool x.2] else x.1)):=by
  intro ρ n elem
  refine Sim.bind (sim_zeroValue hz elem) fun ρ1 n1 z z' _ _ hzz=>Sim.pure mono_V ?_
  dsimp only
  split
  ·have:=((ArrR.nil (ρ:=ρ1) (n:=n1)).push hzz).push (.bool false)
   exact .tuple this.size this.at_
  ·exact hzz
 have hit:∀{ρ n}{v v':Value},VR ρ n v v'→Sim P B w0 q VRel ρ n (Sem.pure (if ok=true then .tuple #[v,.bool true] else v))
   ((Sem.pure (v',true)).bind fun x=>Sem.pure (if ok=true then Value.tuple #[x.1,Value.bool x.2] else x.1)):=by
  intro ρ n v v' hv
  refine Sim.pure mono_V ?_
  dsimp only
  split
  ·have:=((ArrR.nil (ρ:=ρ) (n:=n)).push hv).push (.bool true)
   exact .tuple this.size this.at_
  ·exact hv
 unfold lookupA Instr.lookup
 simp only [bind_eq,pure_eq]
 cases hu:P.underlying xt with
 | none=>exact Sim.un hu
 | some d =>
 refine Sim.ul hu (Sim.ur hu ?_)
 cases d with
 | map key elem =>
  refine Sim.keyA fun kd hkd hp=>?_
  cases hx with
  | mapNil =>
   refine Sim.checkKey hkd hp hi ?_
   unfold Instr.findKey
   simp only [bind_eq,pure_eq]
   rw [Sem.bind_assoc']
   exact Sim.ur hkd (fin elem)
  | map r hr =>
   refine Sim.getObj hr fun ρ1 n1 dd o o' h1 h2 hob=>?_
   cases hob with
   | map he =>
    refine Sim.checkKey hkd hp (hi.mono h1 h2) ?_
    exact Sim.find hkd hp (hi.mono h1 h2) he (fin elem) fun j v v' e e' hv _ _ _=>hit hv
   | _=>exact Sim.halt
  | _=>exact Sim.halt
 | _=>exact Sim.halt
theorem EntsR.push {x y:Array MapEntry}(h:EntsR ρ n x y) {u v:MapEntry}(he:EntR ρ n u v):EntsR ρ n (x.push u) (y.push v):=by
 have hs:=h.size
 refine⟨by simpa using hs,fun i a b h1 h2=>?_⟩
 rw [Array.getElem?_push] at h1 h2
 by_cases hi:i=x.size
 ·rw [if_pos hi] at h1
  rw [if_pos (by omega)] at h2
  cases h1;cases h2;exact he
 ·rw [if_neg hi] at h1
  rw [if_neg (by omega)] at h2
  exact h.at_ i a b h1 h2
theorem EntsR.modify {x y:Array MapEntry}(h:EntsR ρ n x y) (j:Nat) {f f':MapEntry→MapEntry}(hf:∀u v,x[j]?=some u→y[j]?=some v→EntR ρ n u v→EntR ρ n (f u) (f' v)):EntsR ρ n (x.modify j f) (y.modify j f'):=by
 have hs:=h.size
 refine⟨by simpa using hs,fun i a b h1 h2=>?_⟩
 rw [Array.getElem?_modify] at h1 h2
 by_cases hi:j=i
 ·subst hi
  rw [if_pos rfl,Option.map_eq_some_iff] at h1 h2
  obtain⟨u,hu,rfl⟩:=h1
  obtain⟨v,hv,rfl⟩:=h2
  exact hf u v hu hv (h.at_ _ u v hu hv)
 ·rw [if_neg hi] at h1 h2
  exact h.at_ i a b h1 h2
inductive OR2 (ρ:Ren) (n:Nat):Option MapEntry→Option MapEntry→Prop
 | none:OR2 ρ n none none
 | some {a b:MapEntry}(h:EntR ρ n a b):OR2 ρ n (some a) (some b)
theorem sim_makeMap (t:TypeId) {r r':Option Value}(h:OR ρ n r r'):Sim P B w0 false VRel ρ n (Instr.makeMap t r) (Instr.makeMap t r'):=by
 have fin:∀{ρ n},Sim P B w0 false VRel ρ n ((newObj (.map #[] 0)).bind fun r=>Sem.pure (.map (some r))) ((newObj (.map #[] 0)).bind fun r=>Sem.pure (.map (some r))):=by
  intro ρ n
  exact Sim.new (.map ⟨rfl,fun i u v h1 _=>by simp at h1⟩) fun ρ1 n1 r _ _ hr _=>Sim.pure mono_V (.map r hr)
 unfold Instr.makeMap
 simp only [bind_eq,pure_eq]
 cases h with
 | none=>exact fin
 | some hv =>
  dsimp only
  refine Sim.bindE (sim_underlying t) fun ρ1 n1 d h1 h2=>?_
  cases d<;>first | exact Sim.halt | exact Sim.bindE (sim_asInt (hv.mono h1 h2)) fun _ _ _ _ _=>fin
theorem sim_mapUpdate (xt:TypeId) {x x' i i' v v':Value}(hx:VR ρ n x x') (hi:VR ρ n i i') (hv:VR ρ n v v'):Sim P B w0 false EqR ρ n (mapUpdateA xt x i v) (Instr.mapUpdate xt x' i' v'):=by
 unfold mapUpdateA Instr.mapUpdate
 simp only [bind_eq]
 cases hu:P.underlying xt with
 | none=>exact Sim.un hu
 | some d =>
 refine Sim.ul hu (Sim.ur hu ?_)
 cases d with
 | map key elem =>
  refine Sim.keyA fun kd hkd hp=>?_
  cases hx with
  | mapNil=>exact Sim.halt
  | map r hr =>
   refine Sim.getObj hr fun ρ1 n1 dd o o' h1 h2 hob=>?_
   rw [← (h1 r hr).1]
   have hi:=hi.mono h1 h2
   have hv:=hv.mono h1 h2
   cases hob with
   | map he =>
    refine Sim.checkKey hkd hp hi ?_
    refine Sim.find hkd hp hi he ?_ ?_
    ·dsimp only
     refine Sim.setObjU (by omega) (fun d=>.map (he.push ⟨hi,hv,rfl⟩))
    ·intro j u u' e e' hu g1 g3 g5
     dsimp only
     rw [g3,Option.map_some,Option.getD_some,g5]
     simp only [Sem.bind]
     exact Sim.setObjU (by omega) (fun d=>.map (he.modify j fun a b _ _ hab=>⟨hi,hv,hab.born⟩))
   | _=>exact Sim.halt
  | _=>exact Sim.halt
 | _=>exact Sim.halt
theorem sim_mapEntry (hz:ZeroOk P) (xt:TypeId) {x x' i i':Value}(hx:VR ρ n x x') (hi:VR ρ n i i'):Sim P B w0 false VRel ρ n (mapEntryA xt x i) (Instr.mapEntry xt x' i'):=by
 have two:∀{ρ n}{a a':Value}(m:Int),VR ρ n a a'→VR ρ n (.tuple #[a,goInt m]) (.tuple #[a',goInt m]):=by
  intro ρ n a a' m h
  have:=((ArrR.nil (ρ:=ρ) (n:=n)).push h).push (.int .i64 m)
  exact .tuple this.size this.at_
 unfold mapEntryA Instr.mapEntry
 simp only [bind_eq,pure_eq]
 cases hu:P.underlying xt with
 | none=>exact Sim.un hu
 | some d =>
 refine Sim.ul hu (Sim.ur hu ?_)
 cases d with
 | map key elem =>
  refine Sim.keyA fun kd hkd hp=>?_
  cases hx with
  | mapNil=>exact Sim.halt
  | map r hr =>
   refine Sim.getObj hr fun ρ1 n1 dd o o' h1 h2 hob=>?_
   rw [← (h1 r hr).1]
   have hi:=hi.mono h1 h2
   cases hob with
   | @map es es' clock _ he =>
    refine Sim.checkKey hkd hp hi ?_
    refine Sim.find hkd hp hi he ?_ ?_
    ·dsimp only
     refine Sim.bind (sim_zeroValue hz elem) fun ρ2 n2 z z' h3 h4 hzz=>?_
     rw [← (h3 r (by omega)).1]
     exact Sim.setObj (by omega) (fun d=>.map ((he.mono h3 h4).push ⟨hi.mono h3 h4,hzz,rfl⟩)) (Sim.pure mono_V (two _ hzz))
    ·intro j u u' e e' hu g1 g3 g5
     dsimp only
     rw [g1,g3]
     simp only [Option.map_some,Option.getD_some]
     rw [g5]
     simp only [Sem.bind]
     rw [show e.born=e'.born from (he.at_ j e e' g1 g3).born]
     exact Sim.setObj (by omega) (fun d=>.map (he.modify j fun a b _ _ hab=>⟨hi,hab.val,hab.born⟩)) (Sim.pure mono_V (two _ hu))
   | _=>exact Sim.halt
  | _=>exact Sim.halt
 | _=>exact Sim.halt
theorem sim_entryStore (xt:TypeId) {x x' i i' v v':Value}(hx:VR ρ n x x') (hi:VR ρ n i i') (hv:VR ρ n v v'):Sim P B w0 false EqR ρ n (entryStoreA x i v) (Instr.entryStore xt x' i' v'):=by
 unfold entryStoreA Instr.entryStore
 simp only [bind_eq]
 cases hx with
 | map r hr =>
  refine Sim.getObj hr fun ρ1 n1 dd o o' h1 h2 hob=>?_
  rw [← (h1 r hr).1]
  have hi:=hi.mono h1 h2
  have hv:=hv.mono h1 h2
  cases hob with
  | @map es es' clock _ he =>
   refine Sim.bindE (sim_asInt hi) fun ρ2 n2 born h3 h4=>?_
   have e:es'.findIdx? (fun e=>(e.born:Int) == born)=es.toList.findIdx? (fun e=>(e.born:Int) == born):=by
    have e0:es'.findIdx? (fun e=>(e.born:Int) == born)=es'.toList.findIdx? (fun e=>(e.born:Int) == born):=by
     obtain⟨l⟩:=es'
     simp
    rw [e0]
    have:=he.list
    generalize es.toList=l at this
    generalize es'.toList=l' at this
    induction this with
    | nil=>rfl
    | cons h _ ih=>rw [List.findIdx?_cons,List.findIdx?_cons,h.born,ih]
   rw [e]
   rw [← (h3 r (by omega)).1]
   generalize es.toList.findIdx? (fun e=>(e.born:Int) == born)=f
   cases f with
   | some j =>
    dsimp only
    refine Sim.setObjU (by omega) ?_
    intro d
    refine .map ((he.mono h3 h4).modify _ ?_)
    intro a b _ _ hab
    exact⟨hab.key,hv.mono h3 h4,hab.born⟩
   | none=>exact Sim.halt
  | _=>exact Sim.halt
 | _=>exact Sim.halt
theorem EntsR.erase {x y:Array MapEntry}(h:EntsR ρ n x y) (j:Nat):EntsR ρ n (x.eraseIdxIfInBounds j) (y.eraseIdxIfInBounds j):=by
 have hs:=h.size
 by_cases hj:j<x.size
 ·have hj':j<y.size:=by omega
  refine⟨by simp [Array.eraseIdxIfInBounds,hj',hs],fun i a b h1 h2=>?_⟩
  simp only [Array.eraseIdxIfInBounds,hj,hj',dif_pos] at h1 h2
  rw [Array.getElem?_eraseIdx] at h1 h2
  by_cases hi:i<j
  ·rw [if_pos hi] at h1 h2;exact h.at_ i a b h1 h2
  ·rw [if_neg hi] at h1 h2;exact h.at_ _ a b h1 h2
 ·have hj':¬ j<y.size:=by omega
  simp only [Array.eraseIdxIfInBounds,hj,hj',dif_neg,not_false_eq_true]
  exact h
theorem sim_delete (ts:Array TypeId) (ty:TypeId) {x x':Array Value}(hx:ArrR ρ n x x'):Sim P B w0 false VRel ρ n (deleteA ts x) (Builtin.delete_ ts ty x'):=by
 have emp:∀{ρ n},VR ρ n (.tuple #[]) (.tuple #[]):=fun {ρ n}=>undef_R (ρ:=ρ) (n:=n)
 unfold deleteA Builtin.delete_
 simp only [bind_eq,pure_eq]
 have hg:=hx.get 0
 have hg1:=hx.get 1
 revert hg hg1
 generalize x[0]?=u
 generalize x'[0]?=u'
 generalize x[1]?=v
 generalize x'[1]?=v'
 intro hg hg1
 cases ts[0]? with
 | none=>exact Sim.halt
 | some t =>
  cases hg with
  | none=>exact Sim.halt
  | some hm =>
   cases hg1 with
   | none=>exact Sim.halt
   | some hk =>
    dsimp only
    cases hu:P.underlying t with
    | none=>exact Sim.un hu
    | some d =>
    refine Sim.ul hu (Sim.ur hu ?_)
    cases d with
    | map key elem =>
     refine Sim.keyA fun kd hkd hp=>?_
     cases hm with
     | mapNil=>exact Sim.checkKey hkd hp hk (Sim.pure mono_V emp)
     | map r hr =>
      refine Sim.getObj hr fun ρ1 n1 dd o o' h1 h2 hob=>?_
      rw [← (h1 r hr).1]
      cases hob with
      | map he =>
       refine Sim.checkKey hkd hp (hk.mono h1 h2) ?_
       refine Sim.find hkd hp (hk.mono h1 h2) he ?_ ?_
       ·exact Sim.setObj (by omega) (fun d=>.map he) (Sim.pure mono_V emp)
       ·intro j u u' e e' hu g1 g3 g5
        exact Sim.setObj (by omega) (fun d=>.map (he.erase j)) (Sim.pure mono_V emp)
      | _=>exact Sim.halt
     | _=>exact Sim.halt
    | _=>exact Sim.halt
theorem ptr0 {r:Nat}(hr:r<n):VR ρ n (.pointer (some ⟨r,0,none⟩)) (.pointer (some ⟨ρ.f r,0,none⟩)):=.ptr ⟨r,0,none⟩ hr rfl
theorem sim_range (xt:TypeId) {x x':Value}(hx:VR ρ n x x'):Sim P B w0 false VRel ρ n (rangeA xt x) (Instr.range xt x'):=by
 unfold rangeA Instr.range
 simp only [bind_eq,pure_eq]
 cases hu:P.underlying xt with
 | none=>exact Sim.un hu
 | some d =>
 refine Sim.ul hu (Sim.ur hu ?_)
 cases d with
 | string =>
  cases hx with
  | string s=>exact Sim.new (.stringIter s 0) fun ρ1 n1 r _ _ hr _=>Sim.pure mono_V (ptr0 hr)
  | _=>exact Sim.halt
 | map k e =>
  cases hx with
  | mapNil=>exact Sim.new (.mapIter 0 #[] 0 .none) fun ρ1 n1 r _ _ hr _=>Sim.pure mono_V (ptr0 hr)
  | map m hm =>
   refine Sim.getObj hm fun ρ1 n1 dd o o' h1 h2 hob=>?_
   rw [← (h1 m hm).1]
   cases hob with
   | @map es es' clock _ he=>exact Sim.new (.mapIter clock #[] clock (.some m (by omega))) fun ρ2 n2 r _ _ hr _=>Sim.pure mono_V (ptr0 hr)
   | _=>exact Sim.halt
  | _=>exact Sim.halt
 | _=>cases hx<;>exact Sim.halt
theorem sim_nextText (ty:TypeId) {x x':Value}(hx:VR ρ n x x'):Sim P B w0 false VRel ρ n (nextTextA x) (Instr.next x' true ty):=by
 unfold nextTextA Instr.next
 simp only [bind_eq]
 cases hx with
 | ptr a ha hs =>
  obtain⟨r,o,sp⟩:=a
  dsimp only at hs ha
  subst hs
  cases o with
  | succ o=>exact Sim.halt
  | zero =>
   dsimp only [Ren.addr]
   refine Sim.getObj ha fun ρ1 n1 dd o o' h1 h2 hob=>?_
   rw [← (h1 r ha).1]
   cases hob with
   | stringIter s p =>
    dsimp only
    split
    ·rename_i hb
     rw [if_pos (show p<s.size from Nat.le_of_ble_eq_true hb)]
     refine Sim.setObj (by omega) (fun d=>.stringIter _ _) (Sim.pure mono_V ?_)
     have:=(((ArrR.nil (ρ:=ρ1) (n:=n1)).push (.bool true)).push (.int .i64 p)).push (.int .i32 (Utf8.decode s p).1)
     exact .tuple this.size this.at_
    ·rename_i hb
     rw [if_neg (show ¬ p<s.size from fun h=>by rw [Nat.ble_eq_true_of_le (show p+1≤s.size from h)] at hb;cases hb)]
     refine Sim.pure mono_V ?_
     have:=(ArrR.nil (ρ:=ρ1) (n:=n1)).push (.bool false)
     exact .tuple this.size this.at_
   | mapIter a b c h=>exact Sim.halt
   | _=>exact Sim.halt
 | _=>exact Sim.halt
theorem sim_entry {x x':Value}(hx:VR ρ n x x'):Sim P B w0 q VRel ρ n (Go.Eng.entryA x) (Instr.entry x'):=by
 unfold Go.Eng.entryA Instr.entry
 simp only [bind_eq,pure_eq]
 cases hx with
 | ptr a ha hs =>
  obtain⟨r,o,sp⟩:=a
  dsimp only at hs ha
  subst hs
  cases o with
  | succ o=>exact Sim.halt
  | zero =>
   dsimp only [Ren.addr]
   refine Sim.getObj ha fun ρ1 n1 dd o o' h1 h2 hob=>?_
   cases hob with
   | mapIter a seen c h =>
    cases h with
    | none=>exact Sim.halt
    | some m hm =>
     dsimp only
     cases seen.back? with
     | none=>exact Sim.halt
     | some stamp =>
      dsimp only
      refine Sim.getObj hm fun ρ2 n2 dd o o' h3 h4 hob=>?_
      cases hob with
      | @map es es' clock _ he =>
       dsimp only
       cases hc:clock == c with
       | false=>exact Sim.halt
       | true =>
        have hne:(clock != c)=false:=by rw [bne,hc];rfl
        simp only [hne,Bool.false_eq_true,if_false]
        have e:OR2 ρ2 n2 (es.toList.find? (·.born == stamp)) (es'.find? (·.born == stamp)):=by
         rw [← Array.find?_toList]
         have:=he.list
         generalize es.toList=l at this
         generalize es'.toList=l' at this
         induction this with
         | nil=>exact .none
         | cons h _ ih =>
          rw [List.find?_cons,List.find?_cons,← h.born]
          split
          ·exact .some h
          ·exact ih
        revert e
        generalize es.toList.find? (·.born == stamp)=u
        generalize es'.find? (·.born == stamp)=u'
        intro e
        cases e with
        | none=>exact Sim.halt
        | some h =>
         refine Sim.pure mono_V ?_
         have:=((ArrR.nil (ρ:=ρ2) (n:=n2)).push h.key).push h.val
         exact .tuple this.size this.at_
      | _=>exact Sim.halt
   | _=>exact Sim.halt
 | _=>exact Sim.halt
noncomputable def clearA {P:Program}(_:ZeroOk P) (ts:Array TypeId) (x:Array Value):Sem Value:=match ts[0]?,x[0]? with
 | some t,some v=>(underlying t).bind fun d=>match v with
  | .map none=>Sem.pure (.tuple #[])
  | .slice none _ _=>Sem.pure (.tuple #[])
  | .slice (some _) 0 _=>Sem.pure (.tuple #[])
  | .map (some r)=>(getObj r).bind fun o=>match o with
   | .map _ clock=>(setObj r (.map #[] clock)).bind fun _=>Sem.pure (.tuple #[])
   | _=>stuck ""
  | .slice (some a) (n+1) _=>match d,a.spot with
   | .slice elem,none=>(zeroValue elem).bind fun z=>(storeCells a (Builtin.zeroCells z.cells (n+1)).toList).bind fun _=>Sem.pure (.tuple #[])
   | _,_=>stuck ""
  | _=>stuck ""
 | _,_=>stuck ""
theorem sim_clear (hz:ZeroOk P) (ts:Array TypeId) (ty:TypeId) {x x':Array Value}(hx:ArrR ρ n x x'):Sim P B w0 false VRel ρ n (clearA hz ts x) (Builtin.clear_ ts ty x'):=by
 have emp:∀{ρ n},VR ρ n (.tuple #[]) (.tuple #[]):=fun {ρ n}=>undef_R (ρ:=ρ) (n:=n)
 unfold clearA Builtin.clear_
 simp only [bind_eq,pure_eq]
 have hg:=hx.get 0
 revert hg
 generalize x[0]?=u
 generalize x'[0]?=u'
 intro hg
 cases ts[0]? with
 | none=>exact Sim.halt
 | some t =>
  cases hg with
  | none=>exact Sim.halt
  | some hm =>
   dsimp only
   cases hu:P.underlying t with
   | none=>exact Sim.un hu
   | some d =>
   refine Sim.ul hu (Sim.ur hu ?_)
   cases hm with
   | mapNil=>cases d<;>exact Sim.pure mono_V emp
   | sliceNil l c=>cases d<;>exact Sim.pure mono_V emp
   | tail b o k hb=>cases d<;>exact Sim.pure mono_V emp
   | map r hr =>
    have go:∀{k':Obj→Sem Value},(∀es clock,k' (.map es clock)=(Go.setObj (ρ.f r) (.map #[] clock)).bind fun _=>Sem.pure (.tuple #[])) →
      Sim P B w0 false VRel ρ n ((Go.getObj r).bind fun o=>match o with
       | .map _ clock=>(Go.setObj r (.map #[] clock)).bind fun _=>Sem.pure (.tuple #[])
       | _=>stuck "") ((Go.getObj (ρ.f r)).bind k'):=by
     intro k' hk
     refine Sim.getObj hr fun ρ1 n1 dd o o' h1 h2 hob=>?_
     cases hob with
     | map he =>
      rw [hk,← (h1 r hr).1]
      exact Sim.setObj (by omega) (fun d=>.map ⟨rfl,fun i u v h1 _=>by simp at h1⟩) (Sim.pure mono_V emp)
     | _=>exact Sim.halt
    cases d<;>exact go fun _ _=>rfl
   | slice a l c ha hs =>
    cases l with
    | zero=>cases d<;>exact Sim.pure mono_V emp
    | succ l =>
     cases d with
     | slice elem =>
      simp only [hs]
      refine Sim.bind (sim_zeroValue hz elem) fun ρ1 n1 z z' h1 h2 hzz=>?_
      rw [h1.addr ha]
      refine Sim.bindE (sim_storeCells _ _ 0 (by omega) (ArrR.list ?_)) fun _ _ _ _ _=>Sim.pure mono_V emp
      unfold Builtin.zeroCells
      rw [show (l+1) * z'.cells.size=(l+1) * z.cells.size by rw [hzz.cells.size]]
      exact hzz.cells.cycle _
     | _=>exact Sim.halt
   | _=>cases d<;>exact Sim.halt
end
end Go.Eng
namespace Go.Eng
open Go Go.RowKit
def val (t:Sem Value):Sem Next:=t.bind fun v=>Sem.pure (.value v)
def okFn:Fn→Bool
 | .yield _=>false
 | _=>true
noncomputable def callA {P:Program}(E:Env P) (a:Act) (c:Call):Sem Next :=
 match c.callee with
 | .builtin .append=>stuck ""
 | .builtin .delete=>(getVs a c.args.toList).bind fun vs=>val (deleteA c.argTypes vs.toArray)
 | .builtin .clear=>(getVs a c.args.toList).bind fun vs=>val (clearA E.zero c.argTypes vs.toArray)
 | .builtin b=>(getVs a c.args.toList).bind fun vs=>builtinA b c.argTypes vs.toArray
 | .invoke r name=>(getV a r).bind fun v=>(getVs a c.args.toList).bind fun vs=>invokeA E (.fn (.method name) #[]) (#[v]++vs.toArray)
 | .value f=>(getV a f).bind fun v=>(getVs a c.args.toList).bind fun vs=>(ofValueA v vs.toArray).bind fun d=>invokeA E d.target d.args
noncomputable def deferA (a:Act) (c:Call):Sem Next :=
 match c.callee with
 | .value f=>(getV a f).bind fun v=>(getVs a c.args.toList).bind fun vs=>(ofValueA v vs.toArray).bind fun d=>Sem.pure (.defer d)
 | _=>stuck ""
noncomputable def arrayAtA (t:TypeId) (v:Value):Sem Value:=(underlying t).bind fun d=>match d with
 | .array m _=>match v with
  | .slice (some a) l _=>match a.spot with
   | none=>match Nat.ble m l with
    | true=>Sem.pure (.pointer (some a))
    | false=>stuck ""
   | some _=>stuck ""
  | _=>stuck ""
 | _=>stuck ""
noncomputable def opA {P:Program}(E:Env P) (a:Act) (o:Oper):Sem Next :=
 match o.op with
 | .move x=>(getV a x).bind fun v=>Sem.pure (.value v)
 | .assign x=>(getV a x).bind fun v=>Sem.pure (.value v)
 | .pick c x y=>(getV a c).bind fun c=>(asBool c).bind fun t=>match t with
  | true=>(getV a x).bind fun v=>Sem.pure (.value v)
  | false=>(getV a y).bind fun v=>Sem.pure (.value v)
 | .alloc e=>val (Instr.alloc e true (.tuple #[]))
 | .box e x=>(getV a x).bind fun v=>val (Instr.box e v)
 | .build t ps=>(getPs a ps.toList).bind fun l=>val (buildF t l)
 | .buildSlice t len ps=>(getPs a ps.toList).bind fun l=>val (buildSliceF t len l)
 | .load t x=>(getV a x).bind fun v=>val (loadAtA t v)
 | .store t x y=>(getV a x).bind fun v=>(getV a y).bind fun u=>(Instr.storeAt t v u).bind fun _=>Sem.pure .skip
 | .nilCheck x=>(getV a x).bind fun v=>nilA v
 | .binOp op t x y _=>(getV a x).bind fun v=>(getV a y).bind fun u=>val (binA op t x y v u)
 | .unOp op _ x=>(getV a x).bind fun v=>val (unA op v)
 | .convert s d x=>(getV a x).bind fun v=>val (convertA s d v)
 | .makeInterface t x=>(getV a x).bind fun v=>val (Instr.makeInterface t v)
 | .makeFunc fn first captured=>match okFn fn with
  | true=>(getVs a first.toList).bind fun x=>(getVs a captured.toList).bind fun y=>val (Instr.makeFunc fn x.toArray y.toArray)
  | false=>stuck ""
 | .makeSlice t l c=>(getV a l).bind fun v=>(getV a c).bind fun u=>val (Instr.makeSlice t v u)
 | .slice t x lo hi mx=>(getV a x).bind fun v=>(getO a lo).bind fun l=>(getO a hi).bind fun h=>(getO a mx).bind fun m=>val (sliceA t v l h m)
 | .fieldAddr s x f=>(getV a x).bind fun v=>val (fieldAtA s v f)
 | .field t x f=>(getV a x).bind fun v=>val (fieldF t v f)
 | .indexAddr t x i=>(getV a x).bind fun v=>(getV a i).bind fun u=>val (Instr.indexAt t v u)
 | .sliceToArrayPointer t x=>(getV a x).bind fun v=>val (arrayAtA t v)
 | .index t x i=>(getV a x).bind fun v=>(getV a i).bind fun u=>val (indexF t v u)
 | .typeAssert x t u ok=>(getV a x).bind fun v=>val (Instr.typeAssert v t u ok)
 | .extract x i=>(getV a x).bind fun v=>val (Instr.extract v i)
 | .call c=>callA E a c
 | .defer c=>deferA a c
 | .makeMap t r=>(getO a r).bind fun h=>val (Instr.makeMap t h)
 | .lookup t x i ok=>(getV a x).bind fun v=>(getV a i).bind fun u=>val (lookupA t v u ok)
 | .mapUpdate t m k x=>(getV a m).bind fun v=>(getV a k).bind fun u=>(getV a x).bind fun y=>(mapUpdateA t v u y).bind fun _=>Sem.pure .skip
 | .insert t m k x=>(getV a m).bind fun v=>(getV a k).bind fun u=>(getV a x).bind fun y=>(mapUpdateA t v u y).bind fun _=>Sem.pure .skip
 | .mapEntry t m k=>(getV a m).bind fun v=>(getV a k).bind fun u=>val (mapEntryA t v u)
 | .entryStore _ m s x=>(getV a m).bind fun v=>(getV a s).bind fun u=>(getV a x).bind fun y=>(entryStoreA v u y).bind fun _=>Sem.pure .skip
 | .range t x=>(getV a x).bind fun v=>val (rangeA t v)
 | .next x true=>(getV a x).bind fun v=>val (nextTextA v)
 | .entry x=>(getV a x).bind fun v=>val (entryA v)
 | _=>stuck ""
def quietOp:Op→Bool
 | .move _ | .assign _ | .pick _ _ _ | .build _ _ | .load _ _ | .nilCheck _ | .binOp _ _ _ _ _ | .unOp _ _ _ | .convert _ _ _ | .makeInterface _ _ | .makeFunc _ _ _
 | .slice _ _ _ _ _ | .lookup _ _ _ _ | .entry _ | .fieldAddr _ _ _ | .field _ _ _ | .indexAddr _ _ _ | .index _ _ _ | .typeAssert _ _ _ _ | .extract _ _ | .sliceToArrayPointer _ _=>true
 | .call { callee:=.builtin .len,.. } | .call { callee:=.builtin .min,.. } | .call { callee:=.builtin .max,.. } | .call { callee:=.builtin .cap,.. }=>true
 | .call { callee:=.builtin _,.. }=>false
 | .call _=>true
 | _=>false
section
variable {P:Program}{B:Nat}{w0:World}{q:Bool}{ρ:Ren}{n:Nat}
theorem sim_val {t t':Sem Value}(h:Sim P B w0 q VRel ρ n t t'):Sim P B w0 q NRel ρ n (val t) (t'.bind fun v=>Sem.pure (.value v)) :=
 Sim.bind h fun _ _ _ _ _ _ hab=>Sim.pure mono_N (.value hab)
theorem arr_of {x:Array Operand}{f:Operand→Value}{vs:List Value}(h:LR (VR ρ n) vs (x.toList.map f)):ArrR ρ n vs.toArray (x.map f) :=
 ArrR.of_LR (by simpa using h)
theorem FnR.const {fn:Fn}(h:okFn fn=true):FnR ρ n fn fn:=by
 cases fn<;>first | constructor | cases h
theorem sim_arrayAt {P:Program}{B:Nat}{w0:World}{q:Bool}{ρ:Ren}{n:Nat}(t:TypeId) {v v':Value}(h:VR ρ n v v'):Sim P B w0 q VRel ρ n (arrayAtA t v) (Instr.arrayAt t v'):=by
 unfold arrayAtA Instr.arrayAt
 simp only [bind_eq,pure_eq]
 refine Sim.bindE (sim_underlying t) fun ρ1 n1 d h1 h2=>?_
 have h':=h.mono h1 h2
 cases d with
 | array m e =>
  cases h' with
  | slice a l c ha hs =>
   dsimp only
   rw [hs]
   dsimp only
   cases hb:Nat.ble m l with
   | true =>
    have hle:=Nat.le_of_ble_eq_true hb
    rw [if_neg (by omega)]
    exact Sim.pure mono_V (.ptr a ha hs)
   | false=>exact Sim.halt
  | _=>exact Sim.halt
 | _=>exact Sim.halt
theorem sim_op (E:Env P) {a a':Act}(hb:Base P ρ n) (ha:ArrR ρ n a.tmps a'.tmps) (o:Oper) (hq:q=true→quietOp o.op=true):Sim P B w0 q NRel ρ n (opA E a o) (execOp a'.eval o):=by
 obtain⟨dst,op,type,pos,after,guard⟩:=o
 cases op with
 | move x=>exact Sim.get hb ha x fun v hv=>Sim.pure mono_N (.value hv)
 | assign x=>exact Sim.get hb ha x fun v hv=>Sim.pure mono_N (.value hv)
 | pick c x y =>
  refine Sim.get hb ha c fun v hv=>?_
  refine Sim.bindE (sim_asBool hv) fun ρ1 n1 t h1 h2=>?_
  cases t with
  | true=>exact Sim.get (hb.mono h1 h2) (ha.mono h1 h2) x fun v hv=>Sim.pure mono_N (.value hv)
  | false=>exact Sim.get (hb.mono h1 h2) (ha.mono h1 h2) y fun v hv=>Sim.pure mono_N (.value hv)
 | alloc e =>
  cases q with
  | true=>cases hq rfl
  | false=>exact sim_val (sim_alloc E.zero e)
 | box e x =>
  cases q with
  | true=>cases hq rfl
  | false=>exact Sim.get hb ha x fun v hv=>sim_val (sim_box e hv)
 | build t ps=>exact Sim.getps hb ha ps.toList fun vs hvs=>sim_val (by rw [buildF_eq];exact sim_build E.zero t (by simpa using hvs))
 | buildSlice t len ps =>
  cases q with
  | true=>cases hq rfl
  | false=>exact Sim.getps hb ha ps.toList fun vs hvs=>sim_val (by rw [buildSliceF_eq];exact sim_buildSlice E.zero t len (by simpa using hvs))
 | load t x=>exact Sim.get hb ha x fun v hv=>sim_val (sim_loadAt t hv)
 | store t x y =>
  cases q with
  | true=>cases hq rfl
  | false=>exact Sim.get hb ha x fun v hv=>Sim.get hb ha y fun u hu=>Sim.bindE (sim_storeAt t hv hu) fun _ _ _ _ _=>Sim.pure mono_N .skip
 | nilCheck x=>exact Sim.get hb ha x fun v hv=>sim_nil hv
 | binOp op t x y yt=>exact Sim.get hb ha x fun v hv=>Sim.get hb ha y fun u hu=>sim_val (sim_binA op t x y hv hu)
 | unOp op t x=>exact Sim.get hb ha x fun v hv=>sim_val (sim_un op hv)
 | convert s d x=>exact Sim.get hb ha x fun v hv=>sim_val (sim_convert s d hv)
 | makeInterface t x=>exact Sim.get hb ha x fun v hv=>sim_val (sim_makeInterface t hv)
 | makeFunc fn first captured =>
  unfold opA
  dsimp only
  split
  ·rename_i hf
   exact Sim.gets hb ha _ fun x hx=>Sim.gets hb ha _ fun y hy=>sim_val (sim_makeFunc (FnR.const hf) (arr_of hx) (arr_of hy))
  ·exact Sim.halt
 | makeSlice t l c =>
  cases q with
  | true=>cases hq rfl
  | false=>exact Sim.get hb ha l fun v hv=>Sim.get hb ha c fun u hu=>sim_val (sim_makeSlice E.zero t hv hu)
 | slice t x lo hi mx =>
  exact Sim.get hb ha x fun v hv=>Sim.geto hb ha lo fun l hl=>Sim.geto hb ha hi fun h hh=>Sim.geto hb ha mx fun m hm=>sim_val (sim_slice t hv hl hh hm)
 | fieldAddr s x f=>exact Sim.get hb ha x fun v hv=>sim_val (sim_fieldAt s f hv)
 | field t x f=>exact Sim.get hb ha x fun v hv=>sim_val (by rw [fieldF_eq];exact sim_field t f hv)
 | indexAddr t x i=>exact Sim.get hb ha x fun v hv=>Sim.get hb ha i fun u hu=>sim_val (sim_indexAt t hv hu)
 | index t x i=>exact Sim.get hb ha x fun v hv=>Sim.get hb ha i fun u hu=>sim_val (by rw [indexF_eq];exact sim_index t hv hu)
 | typeAssert x t u ok=>exact Sim.get hb ha x fun v hv=>sim_val (sim_typeAssert E.zero t u ok hv)
 | extract x i=>exact Sim.get hb ha x fun v hv=>sim_val (sim_extract i hv)
 | sliceToArrayPointer t x=>exact Sim.get hb ha x fun v hv=>sim_val (sim_arrayAt t hv)
 | call c =>
  obtain⟨callee,args,ats⟩:=c
  cases callee with
  | value f =>
   refine Sim.get hb ha f fun v hv=>Sim.gets hb ha _ fun vs hvs=>?_
   refine Sim.bind (sim_ofValue hv (arr_of hvs)) fun ρ1 n1 d d' h1 h2 hd=>?_
   exact sim_invoke E (hb.mono h1 h2) hd.target hd.args
  | invoke r name =>
   refine Sim.get hb ha r fun v hv=>Sim.gets hb ha _ fun vs hvs=>?_
   refine sim_invoke (x':=#[a'.eval r]++args.map a'.eval) E hb (.fn (.method name) ArrR.nil) (ArrR.append ?_ (arr_of hvs))
   simpa using (ArrR.nil (ρ:=ρ) (n:=n)).push hv
  | builtin b =>
   have v:∀{t t':Sem Value},Sim P B w0 q VRel ρ n t t'→Sim P B w0 q NRel ρ n (t.bind fun v=>Sem.pure (.value v)) (t'.bind fun v=>Sem.pure (.value v)) :=
    fun h=>Sim.bind h fun _ _ _ _ _ _ hab=>Sim.pure mono_N (.value hab)
   by_cases hdc:b=.delete∨b=.clear
   ·rcases hdc with rfl | rfl
    ·cases q with
     | true=>cases hq rfl
     | false=>exact Sim.gets hb ha _ fun vs hvs=>sim_val (sim_delete _ type (arr_of hvs))
    ·cases q with
     | true=>cases hq rfl
     | false=>exact Sim.gets hb ha _ fun vs hvs=>sim_val (sim_clear E.zero _ type (arr_of hvs))
   cases q with
   | false =>
    obtain⟨cs,e⟩:∃cs,execOp a'.eval { dst:=dst,op:=.call { callee:=.builtin b,args:=args,argTypes:=ats },type:=type,pos:=pos,after:=after,guard:=guard } =
      builtin b ats type cs (args.map a'.eval):=⟨_,rfl⟩
    rw [e]
    clear e
    cases b<;>first
     | exact Sim.halt
     | (exact absurd (Or.inl rfl) hdc)
     | (exact absurd (Or.inr rfl) hdc)
     | exact Sim.gets hb ha _ fun vs hvs=>sim_builtin _ _ type cs (arr_of hvs)
   | true =>
    cases b<;>first
     | exact Sim.halt
     | (exact absurd (Or.inl rfl) hdc)
     | (exact absurd (Or.inr rfl) hdc)
     | (cases hq rfl;done)
     | exact Sim.gets hb ha _ fun vs hvs=>v (sim_len _ _ (arr_of hvs))
     | exact Sim.gets hb ha _ fun vs hvs=>v (sim_cap _ _ (arr_of hvs))
     | exact Sim.gets hb ha _ fun vs hvs=>v (sim_onClosed (arr_of hvs) (HF.min _ _))
     | exact Sim.gets hb ha _ fun vs hvs=>v (sim_onClosed (arr_of hvs) (HF.max _ _))
 | defer c =>
  obtain⟨callee,args,ats⟩:=c
  cases callee with
  | value f =>
   refine Sim.get hb ha f fun v hv=>Sim.gets hb ha _ fun vs hvs=>?_
   exact Sim.bind (sim_ofValue hv (arr_of hvs)) fun ρ1 n1 d d' h1 h2 hd=>Sim.pure mono_N (.defer hd)
  | _=>exact Sim.halt
 | makeMap t r =>
  cases q with
  | true=>cases hq rfl
  | false=>exact Sim.geto hb ha r fun v hv=>sim_val (sim_makeMap t hv)
 | lookup t x i ok=>exact Sim.get hb ha x fun v hv=>Sim.get hb ha i fun u hu=>sim_val (sim_lookup E.zero t ok hv hu)
 | mapUpdate t m k x =>
  cases q with
  | true=>cases hq rfl
  | false=>exact Sim.get hb ha m fun v hv=>Sim.get hb ha k fun u hu=>Sim.get hb ha x fun y hy=>Sim.bindE (sim_mapUpdate t hv hu hy) fun _ _ _ _ _=>Sim.pure mono_N .skip
 | insert t m k x =>
  cases q with
  | true=>cases hq rfl
  | false=>exact Sim.get hb ha m fun v hv=>Sim.get hb ha k fun u hu=>Sim.get hb ha x fun y hy=>Sim.bindE (sim_mapUpdate t hv hu hy) fun _ _ _ _ _=>Sim.pure mono_N .skip
 | mapEntry t m k =>
  cases q with
  | true=>cases hq rfl
  | false=>exact Sim.get hb ha m fun v hv=>Sim.get hb ha k fun u hu=>sim_val (sim_mapEntry E.zero t hv hu)
 | entryStore t m s x =>
  cases q with
  | true=>cases hq rfl
  | false=>exact Sim.get hb ha m fun v hv=>Sim.get hb ha s fun u hu=>Sim.get hb ha x fun y hy=>Sim.bindE (sim_entryStore t hv hu hy) fun _ _ _ _ _=>Sim.pure mono_N .skip
 | range t x =>
  cases q with
  | true=>cases hq rfl
  | false=>exact Sim.get hb ha x fun v hv=>sim_val (sim_range t hv)
 | next x s =>
  cases q with
  | true=>cases hq rfl
  | false =>
   cases s with
   | true=>exact Sim.get hb ha x fun v hv=>sim_val (sim_nextText type hv)
   | false=>exact Sim.halt
 | entry x=>exact Sim.get hb ha x fun v hv=>sim_val (sim_entry hv)
 | _=>exact Sim.halt
end
end Go.Eng
namespace Go.Eng
open Go Go.RowKit
section
variable {P:Program}{B:Nat}{w0:World}{ρ:Ren}{n:Nat}
def notInt (P:Program) (ts:Array TypeId):Bool:=match ts[1]? with
 | none=>true
 | some t=>match P.underlying t with
  | some (.int _)=>false
  | some _=>true
  | none=>false
theorem notInt_ne {d:TypeDesc}(h:(match some d with | some (.int _)=>false | some _=>true | none=>false)=true):∀k,d≠.int k:=by
 intro k hk
 subst hk
 cases h
theorem run_append_fits {ts:Array TypeId}{ty:TypeId}{args:Array Value}{st elem:TypeId}{ti:TypeInfo}{base:Option Addr}{l c m:Nat}{x:Value}
  (h0:ts[0]?=some st) (hu:P.underlying st=some (.slice elem)) (hi:P.info? elem=some ti) (hn:notInt P ts=true)
  (ha:args[0]?=some (.slice base l c)) (hx:args[1]?=some x) (w:World) (hm:(Builtin.lenOf x).run P w=.ok m w) (hfit:l+m≤c) :
  (Builtin.append_ ts ty args).run P w=((Builtin.firstCells ti.size m x).bind fun new=>(match base with | some a=>storeCells (a.add (l * ti.size)) new.toList | none=>Sem.pure ()).bind fun _ =>
   Sem.pure (.slice base (l+m) c)).run P w:=by
 unfold Builtin.append_
 rw [h0,ha,hx]
 unfold notInt at hn
 cases h1:ts[1]? with
 | none =>
  cases base<;>simp [run_underlying_some hu,Go.sizeOf,Go.typeInfo,hi,hm,hfit,Sem.run_bind',bind_eq,pure_eq,Sem.bind]
 | some xt =>
  rw [h1] at hn
  dsimp only at hn
  cases hux:P.underlying xt with
  | none=>rw [hux] at hn;cases hn
  | some dx =>
   rw [hux] at hn
   have hne:=notInt_ne hn
   clear hn
   cases base
   all_goals
    cases dx<;>first
     | (exact absurd rfl (hne _))
     | simp only [bind_eq,pure_eq,Sem.run_bind',run_underlying_some hu,run_underlying_some hux,Result.andThen,Go.sizeOf,Go.typeInfo,Go.program,Sem.bind,Sem.run,hi,Bool.false_eq_true,if_false,Bool.not_false,if_true,hm,
       if_pos hfit]
theorem run_askRoom (k:Nat) (w:World):(askRoom k).run P w=.ok () w:=by
 unfold askRoom
 split<;>rfl
theorem run_zeroValue {elem:TypeId}{ti:TypeInfo}{z:Value}(hi:P.info? elem=some ti) (hz:ti.zero=some z) (w:World):(zeroValue elem).run P w=.ok z w:=by
 simp [zeroValue,typeInfo,Go.program,bind_eq,pure_eq,Sem.bind,Sem.run,hi,hz]
theorem run_append_grows {ts:Array TypeId}{ty:TypeId}{args:Array Value}{st elem:TypeId}{ti:TypeInfo}{z:Value}{base:Option Addr}{l c m:Nat}{x:Value}
  (h0:ts[0]?=some st) (hu:P.underlying st=some (.slice elem)) (hi:P.info? elem=some ti) (hz:ti.zero=some z) (hn:notInt P ts=true)
  (ha:args[0]?=some (.slice base l c)) (hx:args[1]?=some x) (w:World) (hm:(Builtin.lenOf x).run P w=.ok m w) (hfit:¬ l+m≤c)
  (h63:¬ ((l+m:Nat):Int) > IntKind.i64.max) (h48:¬ Builtin.nextslicecap (l+m) c * ti.bytes > 2 ^ 48) :
  (Builtin.append_ ts ty args).run P w=((Builtin.firstCells ti.size l (.slice base l c)).bind fun old=>(Builtin.firstCells ti.size m x).bind fun new =>
   (newRow elem (old++new++Builtin.zeroCells z.cells (grownCap w (l+m) c elem-(l+m)))).bind fun a=>Sem.pure (Value.slice (some a) (l+m) (grownCap w (l+m) c elem))).run P { w with drawn:=w.drawn+1 }:=by
 have h63':∀q:Prop,¬ (((l+m:Nat):Int) > IntKind.i64.max∧q):=fun q h=>h63 h.1
 unfold Builtin.append_
 rw [h0,ha,hx]
 have tail:∀W:World,(Sem.bind (Builtin.firstCells ti.size l (.slice base l c)) fun old=>(Builtin.firstCells ti.size m x).bind fun new =>
    (zeroValue elem).bind fun zz=>(newRow elem (old++new++Builtin.zeroCells zz.cells (grownCap w (l+m) c elem-(l+m)))).bind fun a=>Sem.pure (Value.slice (some a) (l+m) (grownCap w (l+m) c elem))).run P W =
   ((Builtin.firstCells ti.size l (.slice base l c)).bind fun old=>(Builtin.firstCells ti.size m x).bind fun new =>
     (newRow elem (old++new++Builtin.zeroCells z.cells (grownCap w (l+m) c elem-(l+m)))).bind fun a=>Sem.pure (Value.slice (some a) (l+m) (grownCap w (l+m) c elem))).run P W:=by
  intro W
  simp only [Sem.run_bind',run_zeroValue hi hz,Result.andThen]
 have ask:∀{β:Type}(k:Nat→Sem β),((Go.choose (.appendCap (l+m) c elem)).bind k).run P w=(k (grownCap w (l+m) c elem)).run P { w with drawn:=w.drawn+1 }:=by
  intro β k
  simp [Go.choose,Sem.bind,Sem.run,Question.forced,grownCap]
 unfold notInt at hn
 cases h1:ts[1]? with
 | none =>
  simp only [bind_eq,pure_eq,Sem.run_bind' P (Go.underlying _),Sem.run_bind' P (Builtin.lenOf _),run_underlying_some hu,Result.andThen,Go.sizeOf,Go.typeInfo,Go.program,Sem.bind,Sem.run,hi,Bool.false_eq_true,if_false,Bool.not_false,if_true,hm,
       if_neg hfit,if_neg (h63' _),if_neg h48,false_or,ask]
  simp only [Sem.run_bind' P (askRoom _),run_askRoom,Result.andThen]
  exact tail _
 | some xt =>
  rw [h1] at hn
  dsimp only at hn
  cases hux:P.underlying xt with
  | none=>rw [hux] at hn;cases hn
  | some dx =>
   rw [hux] at hn
   have hne:=notInt_ne hn
   clear hn
   cases dx<;>first
    | (exact absurd rfl (hne _))
    | (simp only [bind_eq,pure_eq,Sem.run_bind' P (Go.underlying _),Sem.run_bind' P (Builtin.lenOf _),run_underlying_some hu,run_underlying_some hux,Result.andThen,Go.sizeOf,Go.typeInfo,Go.program,Sem.bind,Sem.run,hi,Bool.false_eq_true,if_false,Bool.not_false,if_true,hm,
       if_neg hfit,if_neg (h63' _),if_neg h48,false_or,ask]
       simp only [Sem.run_bind' P (askRoom _),run_askRoom,Result.andThen]
       exact tail _)
end
end Go.Eng
namespace Go.Eng
open Go Go.RowKit
def Ren.upd (ρ:Ren) (k b d:Nat):Ren:=⟨fun j=>if j=k then b else ρ.f j,fun j=>if j=k then d else ρ.d j⟩
theorem Ren.upd_ext (ρ:Ren) (k b d:Nat):Ext k ρ (ρ.upd k b d):=fun i hi=>⟨by simp only [Ren.upd];rw [if_neg (by omega)],by simp only [Ren.upd];rw [if_neg (by omega)]⟩
noncomputable def AState.kill (S:AState) (i:Nat):AState:=AState.rec (motive:=fun _=>AState) (fun h n p=>⟨h.set i none,n,p⟩) S
theorem AState.kill_eq (S:AState) (i:Nat):S.kill i={ S with heap:=S.heap.set i none }:=by cases S;rfl
section
variable {P:Program}{B:Nat}{w0:World}{ρ:Ren}{n:Nat}
theorem WR.drew {S:AState}{w:World}(hw:WR P B w0 ρ S w):WR P B w0 ρ S { w with drawn:=w.drawn+1 } :=
 ⟨hw.below.drew,hw.hB,hw.rng,hw.own,hw.inj,hw.obj⟩
theorem WR.kill {S:AState}{w:World}(hw:WR P B w0 ρ S w) (i:Nat):WR P B w0 ρ (S.kill i) w:=by
 have key:∀(j:Nat) (x:AObj),(S.kill i).heap.get j=some x→j≠i∧S.heap.get j=some x:=by
  intro j x h
  simp only [AState.kill_eq,Tr.get_set] at h
  split at h
  ·cases h
  ·rename_i hne;exact⟨hne,h⟩
 exact⟨hw.below,hw.hB,hw.rng,hw.own,fun a b x y hx hy hf=>hw.inj a b x y (key a x hx).2 (key b y hy).2 hf,fun j x hx=>hw.obj j x (key j x hx).2⟩
theorem WR.push {S:AState}{w w':World}(hw:WR P B w0 ρ S w) (o:AObj) (o':Obj) (d:Nat) (hos:w'.os=w.os) (htp:w'.tape=w.tape) (hou:w'.output=w.output)
  (hh:w'.heap=w.heap.push o') (hob:ObjR P (ρ.upd S.next w.heap.size d) (S.next+1) d o o'):WR P B w0 (ρ.upd S.next w.heap.size d) (S.push o) w':=by
 have hext:=Ren.upd_ext ρ S.next w.heap.size d
 have hB:=hw.hB
 have hsz:w'.heap.size=w.heap.size+1:=by rw [hh];simp
 refine⟨hw.below.trans ⟨hos,htp,hou,by omega,fun k hk=>?_⟩,by omega,?_,?_,?_,?_⟩
 ·rw [hh,Array.getElem?_push,if_neg (by omega)]
 ·intro i hi
  simp only [AState.push_eq] at hi
  rw [hsz]
  by_cases h:i=S.next
  ·simp [Ren.upd,h]
  ·have:=hw.rng i (by omega)
   simp [Ren.upd,h];omega
 ·intro i hp hi
  simp only [AState.push_eq] at hi hp
  by_cases h:i=S.next
  ·simp only [Ren.upd,h,if_true];exact hB
  ·simp only [Ren.upd,h,if_false];exact hw.own i hp (by omega)
 ·intro i j x y hx hy hf
  simp only [AState.push_eq,Tr.get_set] at hx hy
  by_cases h1:i=S.next<;>by_cases h2:j=S.next
  ·omega
  ·rw [if_neg h2] at hy
   have:=hw.rng j (hw.obj j y hy).1
   simp [Ren.upd,h1,h2] at hf;omega
  ·rw [if_neg h1] at hx
   have:=hw.rng i (hw.obj i x hx).1
   simp [Ren.upd,h1,h2] at hf;omega
  ·rw [if_neg h2] at hy
   rw [if_neg h1] at hx
   simp [Ren.upd,h1,h2] at hf
   exact hw.inj i j x y hx hy hf
 ·intro i x hx
  simp only [AState.push_eq,Tr.get_set] at hx
  by_cases h1:i=S.next
  ·rw [if_pos h1] at hx
   cases hx
   refine⟨by simp only [AState.push_eq];omega,o',?_,?_⟩
   ·rw [hh];simp [Ren.upd,h1]
   ·simpa [AState.push_eq,Ren.upd,h1] using hob
  ·rw [if_neg h1] at hx
   obtain⟨h2,ob,h3,h4⟩:=hw.obj i x hx
   refine⟨by simp only [AState.push_eq];omega,ob,?_,?_⟩
   ·have:=hw.rng i h2
    simp only [Ren.upd,h1,if_false]
    rw [hh,Array.getElem?_push,if_neg (by omega)]
    exact h3
   ·have:=h4.mono hext (show S.next≤S.next+1 by omega)
    simpa [AState.push_eq,Ren.upd,h1] using this
theorem WR.adopt {S:AState}{w w':World}(hw:WR P B w0 ρ S w) (o:AObj) (o':Obj) (b d:Nat) (hb:b<w.heap.size) (hbB:B≤b) (hfree:∀(j:Nat) (x:AObj),S.heap.get j=some x→ρ.f j≠b)
  (hos:w'.os=w.os) (htp:w'.tape=w.tape) (hou:w'.output=w.output) (hsz:w'.heap.size=w.heap.size) (hat:w'.heap[b]?=some o') (hne:∀k,k≠b→w'.heap[k]?=w.heap[k]?)
  (hob:ObjR P (ρ.upd S.next b d) (S.next+1) d o o'):WR P B w0 (ρ.upd S.next b d) (S.push o) w':=by
 have hext:=Ren.upd_ext ρ S.next b d
 have hB:=hw.hB
 refine⟨hw.below.trans ⟨hos,htp,hou,by omega,fun k hk=>hne k (by omega)⟩,by omega,?_,?_,?_,?_⟩
 ·intro i hi
  simp only [AState.push_eq] at hi
  rw [hsz]
  by_cases h:i=S.next
  ·simp only [Ren.upd,h,if_true];exact hb
  ·have:=hw.rng i (by omega)
   simp [Ren.upd,h];omega
 ·intro i hp hi
  simp only [AState.push_eq] at hi hp
  by_cases h:i=S.next
  ·simp only [Ren.upd,h,if_true];exact hbB
  ·simp only [Ren.upd,h,if_false];exact hw.own i hp (by omega)
 ·intro i j x y hx hy hf
  simp only [AState.push_eq,Tr.get_set] at hx hy
  by_cases h1:i=S.next<;>by_cases h2:j=S.next
  ·omega
  ·rw [if_neg h2] at hy
   have:=hfree j y hy
   simp [Ren.upd,h1,h2] at hf;exact absurd hf.symm this
  ·rw [if_neg h1] at hx
   have:=hfree i x hx
   simp [Ren.upd,h1,h2] at hf;exact absurd hf this
  ·rw [if_neg h2] at hy
   rw [if_neg h1] at hx
   simp [Ren.upd,h1,h2] at hf
   exact hw.inj i j x y hx hy hf
 ·intro i x hx
  simp only [AState.push_eq,Tr.get_set] at hx
  by_cases h1:i=S.next
  ·rw [if_pos h1] at hx
   cases hx
   refine⟨by simp only [AState.push_eq];omega,o',?_,?_⟩
   ·simp only [Ren.upd,h1,if_true];exact hat
   ·simpa [AState.push_eq,Ren.upd,h1] using hob
  ·rw [if_neg h1] at hx
   obtain⟨h2,ob,h3,h4⟩:=hw.obj i x hx
   refine⟨by simp only [AState.push_eq];omega,ob,?_,?_⟩
   ·simp only [Ren.upd,h1,if_false]
    rw [hne _ (hfree i x hx)]
    exact h3
   ·have:=h4.mono hext (show S.next≤S.next+1 by omega)
    simpa [AState.push_eq,Ren.upd,h1] using this
noncomputable def storeInA (base:Option Addr) (off:Nat) (l:List Value):Sem Unit :=
 match base with
 | some a=>match a.spot with
  | none=>storeCells (a.add off) l
  | some _=>stuck ""
 | none=>Sem.pure ()
def growsOk (l m:Nat) (ti:TypeInfo) (z:Value) (cells:Array Value):Bool :=
 decide (z.cells.size=ti.size) && Nat.ble (l+m) 1099511627776 && Nat.ble ((l+m) * ti.bytes) 140737488355328 && decide (cells.size=(l+m) * ti.size) && cells.toList.all oneCell
noncomputable def catA (x y:Array Value):Array Value:=⟨lapp x.toList y.toList⟩
theorem catA_eq (x y:Array Value):catA x y=x++y:=by
 unfold catA
 rw [lapp_eq]
 apply Array.ext'
 simp
noncomputable def appendA (P:Program) (ts:Array TypeId) (args:Array Value) (S:AState):Option (Value×AState) :=
 match (ts[0]?:Option TypeId),(args[0]?:Option Value),(args[1]?:Option Value) with
 | some st,some (Value.slice base l c),some x=>match P.underlying st with
  | some (.slice elem)=>match P.info? elem with
   | some ti=>match notInt P ts with
    | true=>match runA P (Builtin.lenOf x) S with
     | some (m,_)=>match Nat.ble (l+m) c with
      | true=>runA P ((firstCellsA ti.size m x).bind fun new=>(storeInA base (l * ti.size) new.toList).bind fun _=>Sem.pure (.slice base (l+m) c)) S
      | false=>match ti.zero with
       | some z=>match runA P ((firstCellsA ti.size l (.slice base l c)).bind fun old=>(firstCellsA ti.size m x).bind fun new=>Sem.pure (catA old new)) S with
        | some (cells,_)=>match growsOk l m ti z cells with
         | true=>match base with
          | none=>some (.slice (some ⟨S.next,0,none⟩) (l+m) (l+m),S.push (.row cells elem 0 0 true))
          | some a=>match a.spot with
           | none=>match S.heap.get a.block with
            | some (.cells _ _ _ _ _ false)=>some (.slice (some ⟨S.next,0,none⟩) (l+m) (l+m),S.push (.row cells elem 0 0 true))
            | some (.cells _ osz e lo hi true)=>match decide (a.off=0) && Nat.ble S.prot a.block && decide (e=elem) && decide (osz=c * ti.size) && Nat.ble hi (l * ti.size) && Nat.ble lo hi with
             | true=>some (.slice (some ⟨S.next,0,none⟩) (l+m) (l+m),(S.kill a.block).push (.row cells elem lo hi true))
             | false=>none
            | _=>none
           | some _=>none
         | false=>none
        | none=>none
       | none=>none
     | none=>none
    | false=>none
   | none=>none
  | _=>none
 | _,_,_=>none
theorem oneCell_R {v v':Value}(h:VR ρ n v v'):oneCell v'=oneCell v:=by cases h<;>rfl
theorem HF.lenOf (x:Value):HF P (Builtin.lenOf x):=by
 unfold Builtin.lenOf
 split<;>first | exact HF.pure _ | exact HF.halt _
theorem sim_storeIn {base:Option Addr}{l c:Nat}{b':Option Addr}{c':Nat}(off:Nat) {x x':List Value}:VR ρ n (.slice base l c) (.slice b' l c')→LR (VR ρ n) x x' →
  Sim P B w0 false EqR ρ n (storeInA base off x) (match b' with | some a=>storeCells (a.add off) x' | none=>Sem.pure ()):=by
 intro h hx
 cases h with
 | sliceNil=>exact Sim.pure mono_E rfl
 | slice a _ _ ha hs =>
  unfold storeInA
  simp only [hs]
  rw [Ren.addr_add]
  exact sim_storeCells _ _ 0 (by rw [Addr.add_block];exact ha) hx
 | tail b o k hb=>exact Sim.halt
theorem run_storeCells_in {b:Nat}{e:TypeId}{lo hi off:Nat}:∀(l:List Value) (j:Nat) (cur:Array Value) (w:World),w.heap[b]?=some (.cells cur e (lo,hi))→(∀v∈l,oneCell v=true) →
  off+j+l.length≤cur.size→(∀o,off+j≤o→o<off+j+l.length→¬ (lo≤o∧o<hi)) →
  ∃cur' w',(storeCells ((⟨b,off,none⟩:Addr)) l j).run P w=.ok () w'∧w'.os=w.os∧w'.tape=w.tape∧w'.output=w.output∧w'.heap.size=w.heap.size∧
   w'.heap[b]?=some (.cells cur' e (lo,hi))∧cur'.size=cur.size∧(∀k,k≠b→w'.heap[k]?=w.heap[k]?)∧
   (∀i,i<off+j→cur'[i]?=cur[i]?)∧(∀i,i<l.length→cur'[off+j+i]?=l[i]?):=by
 intro l
 induction l with
 | nil =>
  intro j cur w hw _ _ _
  exact⟨cur,w,rfl,rfl,rfl,rfl,rfl,hw,rfl,fun _ _=>rfl,fun _ _=>rfl,fun i h=>by simp at h⟩
 | cons v l ih =>
  intro j cur w hw h1 hfit hfz
  simp only [List.length_cons] at hfit hfz
  have hadd:(⟨b,off,none⟩:Addr).add j=⟨b,off+j,none⟩:=by unfold Addr.add;split<;>simp_all
  obtain⟨u,hu⟩:∃u,cur[off+j]?=some u:=⟨_,Array.getElem?_eq_getElem (by omega)⟩
  have hcell:w.cell? ⟨b,off+j,none⟩=some u:=by simp [World.cell?,hw,hu]
  have hfrz:w.frozen? ⟨b,off+j,none⟩=false:=by
   have:=hfz (off+j) (by omega) (by omega)
   simp only [World.frozen?,hw]
   rw [Bool.and_eq_false_iff]
   by_cases h:lo≤off+j
   ·right;exact decide_eq_false (fun h'=>this ⟨h,h'⟩)
   ·left;exact decide_eq_false h
  have hset:(w.setCell ⟨b,off+j,none⟩ v).heap[b]?=some (.cells (cur.setIfInBounds (off+j) v) e (lo,hi)):=by
   simp [World.setCell,Array.getElem?_modify,hw]
  have hoth:∀k,k≠b→(w.setCell ⟨b,off+j,none⟩ v).heap[k]?=w.heap[k]?:=by
   intro k hk
   simp only [World.setCell,Array.getElem?_modify]
   rw [if_neg (by intro h;exact hk h.symm)]
  obtain⟨cur',w',g1,g2,g3,g4,g5,g6,g7,g8,g9,g10⟩:=ih (j+1) (cur.setIfInBounds (off+j) v) _ hset (fun x hx=>h1 x (by simp [hx])) (by simp;omega) (fun o ho1 ho2=>hfz o (by omega) (by omega))
  refine⟨cur',w',?_,g2,g3,g4,by rw [g5];simp [World.setCell],g6,by rw [g7];simp,fun k hk=>(g8 k hk).trans (hoth k hk),fun i hi=>?_,fun i hi=>?_⟩
  ·unfold storeCells
   rw [bind_eq,Sem.run_bind',hadd]
   have hone:=h1 v (by simp)
   have hst:(store ⟨b,off+j,none⟩ v).run P w=.ok () (w.setCell ⟨b,off+j,none⟩ v):=by
    cases v<;>first | (cases hone;done) | simp [store,Sem.run,hcell,hfrz]
   rw [hst]
   exact g1
  ·rw [g9 i (by omega),Array.getElem?_setIfInBounds_ne (by omega)]
  ·cases i with
   | zero =>
    rw [Nat.add_zero,g9 (off+j) (by omega),Array.getElem?_setIfInBounds_self_of_lt (by omega)]
    rfl
   | succ i =>
    have:=g10 i (by simpa using hi)
    rw [show off+j+(i+1)=off+(j+1)+i by omega,this]
    rfl
theorem append_sound (_E:Env P) {S:AState}{w:World}(hw:WR P B w0 ρ S w) (ts:Array TypeId) (ty:TypeId) {x x':Array Value}(hx:ArrR ρ S.next x x') {v:Value}{S':AState}
  (h:appendA P ts x S=some (v,S')) :
  ∃v' w' ρ',(Builtin.append_ ts ty x').run P w=.ok v' w'∧Ext S.next ρ ρ'∧S.next≤S'.next∧S'.prot=S.prot∧WR P B w0 ρ' S' w'∧VR ρ' S'.next v v':=by
 unfold appendA at h
 split at h
 case h_2=>cases h
 rename_i st base l c y e0 e1 e2
 split at h
 case h_2=>cases h
 rename_i elem hu
 split at h
 case h_2=>cases h
 rename_i ti hi
 split at h
 case h_2=>cases h
 rename_i hn
 split at h
 case h_2=>cases h
 rename_i m S1 hm
 obtain⟨_,hmrun⟩:=HF.lenOf y _ _ _ hm
 have ha0:∃u',x'[0]?=some u'∧VR ρ S.next (.slice base l c) u':=by
  rcases hx.get? 0 with ⟨h1,_⟩|⟨a,a',h1,h2,h3⟩
  ·rw [h1] at e1;cases e1
  ·rw [h1] at e1;cases e1;exact⟨a',h2,h3⟩
 have ha1:∃y',x'[1]?=some y'∧VR ρ S.next y y':=by
  rcases hx.get? 1 with ⟨h1,_⟩|⟨a,a',h1,h2,h3⟩
  ·rw [h1] at e2;cases e2
  ·rw [h1] at e2;cases e2;exact⟨a',h2,h3⟩
 obtain⟨u',hu',hV0⟩:=ha0
 obtain⟨y',hy',hV1⟩:=ha1
 have hlen':∀W,(Builtin.lenOf y').run P W=.ok m W:=by
  intro W
  have:Builtin.lenOf y'=Builtin.lenOf y:=by cases hV1<;>rfl
  rw [this];exact hmrun W
 have hform:∃b' c',u'=.slice b' l c'∧c≤c':=by
  cases hV0 with
  | sliceNil=>exact⟨_,_,rfl,Nat.le_refl _⟩
  | slice a _ _ _ _=>exact⟨_,_,rfl,by omega⟩
  | tail b o k hb=>exact⟨_,_,rfl,by omega⟩
 obtain⟨b',c',rfl,hcc⟩:=hform
 split at h
 ·
  rename_i hfit
  have hfit':l+m≤c:=Nat.le_of_ble_eq_true hfit
  have hsim:Sim P B w0 false VRel ρ S.next ((firstCellsA ti.size m y).bind fun new=>(storeInA base (l * ti.size) new.toList).bind fun _=>Sem.pure (.slice base (l+m) c))
    ((Builtin.firstCells ti.size m y').bind fun new=>(match b' with | some a=>storeCells (a.add (l * ti.size)) new.toList | none=>Sem.pure ()).bind fun _=>Sem.pure (.slice b' (l+m) c')):=by
   refine Sim.bind (sim_firstCells _ _ hV1) fun ρ1 n1 a a' h1 h2 haa=>?_
   have hV:=hV0.mono h1 h2
   refine Sim.bindE (sim_storeIn _ hV haa.list) fun ρ2 n2 _ h3 h4=>Sim.pure mono_V ?_
   have hV:=hV.mono h3 h4
   cases hV with
   | sliceNil=>exact .sliceNil _ _
   | slice a _ _ ha hs=>exact .slice a _ _ ha hs
   | tail b o k hb =>
    have:m=0:=by omega
    subst this
    exact .tail b o k hb
  obtain⟨v',w',ρ',g1,g2,g3,gp,g4,g5,_⟩:=hsim ρ S w (Ext.refl _ _) (Nat.le_refl _) hw v S' h
  exact⟨v',w',ρ',by rw [run_append_fits e0 hu hi hn hu' hy' w (hlen' w) (by omega)];exact g1,g2,g3,gp,g4,g5⟩
 ·
  rename_i hfit
  have hfit':¬ l+m≤c:=by
   intro hle
   have:Nat.ble (l+m) c=true:=by rw [Nat.ble_eq];exact hle
   rw [this] at hfit;cases hfit
  split at h
  case h_2=>cases h
  rename_i z hz
  split at h
  case h_2=>cases h
  rename_i cells S1 hcells
  split at h
  case h_2=>cases h
  rename_i hok
  unfold growsOk at hok
  simp only [Bool.and_eq_true,decide_eq_true_eq,Nat.ble_eq] at hok
  obtain⟨⟨⟨⟨hzs,h63⟩,h47⟩,hcs⟩,hall⟩:=hok
  have hload:∀(b'':Option Addr) (c'':Nat),VR ρ S.next (.slice base l c) (.slice b'' l c'')→∀W,WR P B w0 ρ S W →
    ∃o nw:Array Value,(Builtin.firstCells ti.size l (.slice b'' l c'')).run P W=.ok o W∧(Builtin.firstCells ti.size m y').run P W=.ok nw W∧ArrR ρ S.next cells (o++nw):=by
   intro b'' c'' hV W hW
   rw [runA_bind] at hcells
   split at hcells
   case h_2=>cases hcells
   rename_i oa Sa hoa
   obtain⟨o,W1,ρ1,k1,k2,k3,kp,k4,k5,k6⟩:=sim_firstCells (q:=true) ti.size l hV ρ S W (Ext.refl _ _) (Nat.le_refl _) hW oa Sa hoa
   obtain⟨rfl,rfl,rfl⟩:=k6 rfl
   rw [runA_bind] at hcells
   split at hcells
   case h_2=>cases hcells
   rename_i na Sb hna
   obtain⟨nw,W1,ρ1,j1,j2,j3,jp,j4,j5,j6⟩:=sim_firstCells (q:=true) ti.size m hV1 _ _ _ (Ext.refl _ _) (Nat.le_refl _) k4 na Sb hna
   obtain⟨rfl,rfl,rfl⟩:=j6 rfl
   simp only [runA,Option.some.injEq,Prod.mk.injEq] at hcells
   obtain⟨rfl,rfl⟩:=hcells
   exact⟨o,nw,k1,j1,by rw [catA_eq];exact k5.append j5⟩
  have hnew:∀(T:AState) (fz:Nat×Nat),T.next=S.next→T.prot=S.prot→(∀W,WR P B w0 ρ S W→WR P B w0 ρ T W)→¬ l+m≤c' →
    ∃v' w' ρ',(Builtin.append_ ts ty x').run P w=.ok v' w'∧Ext S.next ρ ρ'∧WR P B w0 ρ' (T.push (.row cells elem fz.1 fz.2 true)) w'∧VR ρ' (S.next+1) (.slice (some ⟨S.next,0,none⟩) (l+m) (l+m)) v':=by
   intro T fz hT hTp hWT hbig
   obtain⟨o,nw,k1,k2,k3⟩:=hload _ _ hV0 _ hw.drew
   have hb48:¬ Builtin.nextslicecap (l+m) c' * ti.bytes > 2 ^ 48:=by
    have:=growslice_fits (need:=l+m) (old:=c') (bytes:=ti.bytes) (by omega) h47
    omega
   have hrun:=run_append_grows (ty:=ty) e0 hu hi hz hn hu' hy' w (hlen' w) hbig (by rw [show IntKind.i64.max=9223372036854775807 from by decide];omega) hb48
   have hge:=grownCap_ge w (l+m) c' elem
   rw [Sem.run_bind',k1] at hrun
   simp only [Result.andThen] at hrun
   rw [Sem.run_bind',k2] at hrun
   simp only [Result.andThen,newRow,newObj,Sem.bind,bind_eq,pure_eq,Sem.run] at hrun
   have hsz:szOf P elem=ti.size:=by simp [szOf,hi]
   have hpush:=(hWT _ hw.drew).push (o:=(.row cells elem fz.1 fz.2 true)) (o':=.cells (o++nw++Builtin.zeroCells z.cells (grownCap w (l+m) c' elem-(l+m))) elem)
    (d:=grownCap w (l+m) c' elem-(l+m)) (w':={ w with drawn:=w.drawn+1,heap:=w.heap.push (.cells (o++nw++Builtin.zeroCells z.cells (grownCap w (l+m) c' elem-(l+m))) elem) }) rfl rfl rfl rfl (by
     have hk:=k3.mono (ρ.upd_ext S.next w.heap.size (grownCap w (l+m) c' elem-(l+m))) (show S.next≤S.next+1 by omega)
     rw [hT]
     refine .cells ?_ (fun h=>by cases h) (fun i u _ hu=>?_) (fun _ _ h1 h2=>by omega) (Nat.le_refl _)
     ·rw [Array.size_append,← k3.size,size_zeroCells,hzs,hsz]
     ·rw [Tr.get_ofL _ _ _ (by simp),Array.getElem?_toList] at hu
      rcases hk.get? i with ⟨q1,_⟩|⟨a,a',q1,q2,q3⟩
      ·rw [q1] at hu;cases hu
      ·rw [q1] at hu
       cases hu
       refine⟨a',?_,q3⟩
       have hlt:i<(o++nw).size:=by
        rcases Nat.lt_or_ge i (o++nw).size with h | h
        ·exact h
        ·rw [Array.getElem?_eq_none h] at q2;cases q2
       rw [Array.getElem?_append,if_pos hlt]
       exact q2)
   rw [hT] at hpush
   refine⟨_,_,_,hrun,ρ.upd_ext _ _ _,hpush,?_⟩
   have:=VR.slice (ρ:=ρ.upd S.next w.heap.size (grownCap w (l+m) c' elem-(l+m))) (n:=S.next+1) ⟨S.next,0,none⟩ (l+m) (l+m) (by simp) rfl
   simp only [Ren.upd,Ren.addr,if_true] at this
   rw [show l+m+(grownCap w (l+m) c' elem-(l+m))=grownCap w (l+m) c' elem by omega] at this
   exact this
  split at h
  ·
   cases hV0
   simp only [Option.some.injEq,Prod.mk.injEq] at h
   obtain⟨rfl,rfl⟩:=h
   obtain⟨v',w',ρ',q1,q2,q3,q4⟩:=hnew S (0,0) rfl rfl (fun _ h=>h) hfit'
   exact⟨v',w',ρ',q1,q2,by simp [AState.push_eq],rfl,q3,q4⟩
  ·rename_i a
   split at h
   case h_2=>cases h
   rename_i hs
   have hblk:a.block<S.next∧c'=c+ρ.d a.block∧b'=some (ρ.addr a):=by
    cases hV0 with
    | slice _ _ _ ha _=>exact⟨ha,rfl,rfl⟩
    | tail b o k hb=>cases hs
   obtain⟨hlt,hc',rfl⟩:=hblk
   split at h
   ·
    rename_i cc ee ff hget
    obtain⟨_,o',_,hob⟩:=hw.obj _ _ hget
    have hd:ρ.d a.block=0:=by
     revert hob
     generalize ρ.d a.block=d
     intro hob
     cases hob with
     | cells _ hg _ _ _=>exact hg rfl
    simp only [Option.some.injEq,Prod.mk.injEq] at h
    obtain⟨rfl,rfl⟩:=h
    obtain⟨v',w',ρ',q1,q2,q3,q4⟩:=hnew S (0,0) rfl rfl (fun _ h=>h) (by omega)
    exact⟨v',w',ρ',q1,q2,by simp [AState.push_eq],rfl,q3,q4⟩
   ·rename_i old e lo hi' hget
    split at h
    case h_2=>cases h
    rename_i hcond
    simp only [Bool.and_eq_true,decide_eq_true_eq,Nat.ble_eq] at hcond
    obtain⟨⟨⟨⟨⟨hoff,hprot⟩,rfl⟩,hold⟩,hfz⟩,hlh⟩:=hcond
    simp only [Option.some.injEq,Prod.mk.injEq] at h
    obtain⟨rfl,rfl⟩:=h
    by_cases hbig:l+m≤c'
    ·
     obtain⟨o,nw,k1,k2,k3⟩:=hload _ _ hV0 _ hw
     have hrun:=run_append_fits (ty:=ty) e0 hu hi hn hu' hy' w (hlen' w) hbig
     rw [Sem.run_bind',k2] at hrun
     simp only [Result.andThen] at hrun
     have hown:=hw.own _ hprot hlt
     obtain⟨_,o',ho',hob⟩:=hw.obj _ _ hget
     have hsz:szOf P e=ti.size:=by simp [szOf,hi]
     generalize hdd:ρ.d a.block=d at hob hc'
     cases hob with
     | @cells _ _ cur _ _ _ lo' hi2 _ _ hs1 hg1 hc1 hf1 hl1 =>
     have ea:ρ.addr a=⟨ρ.f a.block,0,none⟩:=by simp [Ren.addr,hs,hoff]
     have hcsz:cur.size=c' * ti.size:=by rw [hs1,hold,hsz,hc',Nat.add_mul]
     have hle:(l+m) * ti.size≤cur.size:=by rw [hcsz];exact Nat.mul_le_mul_right _ hbig
     rw [Nat.add_mul] at hle
     have ho:o=(cur.toList.take (l * ti.size)).toArray:=by
      have hrl:=k1
      unfold Builtin.firstCells at hrl
      have h2:=run_loadCells_list (P:=P) w (ρ.addr a) (cur.toList.take (l * ti.size)) (fun j v hv=>by
       have hj:j<l * ti.size:=by
        rcases Nat.lt_or_ge j (l * ti.size) with h | h
        ·exact h
        ·rw [List.getElem?_eq_none (by rw [List.length_take];omega)] at hv;cases hv
       rw [List.getElem?_take_of_lt hj] at hv
       have hadd:(ρ.addr a).add j=⟨ρ.f a.block,j,none⟩:=by
        rw [ea];unfold Addr.add;split<;>simp_all
       rw [hadd]
       simp only [World.cell?,ho']
       simpa using hv)
      rw [List.length_take,Array.length_toList,Nat.min_eq_left (by omega)] at h2
      rw [h2] at hrl
      cases hrl
      rfl
     have hosz:o.size=l * ti.size:=by rw [ho];simp;omega
     have hnsz:nw.size=m * ti.size:=by
      have hsum:(o++nw).size=(l+m) * ti.size:=by rw [← k3.size];exact hcs
      rw [Array.size_append,Nat.add_mul,hosz] at hsum
      omega
     have hone:∀v∈nw.toList,oneCell v=true:=by
      intro v hv
      obtain⟨i,hi,rfl⟩:=List.getElem_of_mem hv
      have hi':i<nw.size:=by simpa using hi
      have h1:(o++nw)[o.size+i]?=some nw[i]:=by rw [Array.getElem?_append,if_neg (by omega),show o.size+i-o.size=i by omega,Array.getElem?_eq_getElem hi']
      rcases k3.get? (o.size+i) with ⟨_,q2⟩|⟨u,u',q1,q2,q3⟩
      ·rw [h1] at q2;cases q2
      ·rw [h1] at q2
       cases q2
       rw [List.all_eq_true] at hall
       have:=hall u (List.mem_of_getElem? (i:=o.size+i) (by simpa using q1))
       rw [Array.getElem_toList,oneCell_R q3]
       exact this
     obtain⟨cur',w',g1,g2,g3,g4,g5,g6,g7,g8,g9,g10⟩:=run_storeCells_in (P:=P) (off:=l * ti.size) nw.toList 0 cur w ho' hone (by rw [Array.length_toList,hnsz];omega) (fun x h1 h2 h3=>by
      rw [Array.length_toList,hnsz] at h2
      have:=hf1 x (by omega) h3.1 h3.2
      omega)
     have eadd:(ρ.addr a).add (l * ti.size)=⟨ρ.f a.block,l * ti.size,none⟩:=by
      rw [ea];unfold Addr.add;split<;>simp_all
     simp only [eadd] at hrun
     rw [Sem.run_bind',g1] at hrun
     simp only [Result.andThen,Sem.run] at hrun
     have hW:=(hw.kill a.block).adopt (o:=(.row cells e lo hi' true)) (o':=.cells cur' e (lo',hi2)) (b:=ρ.f a.block) (d:=c'-(l+m)) (w':=w') (hw.rng _ hlt) hown (fun j x hx hf=>by
       simp only [AState.kill_eq,Tr.get_set] at hx
       split at hx
       ·cases hx
       ·rename_i hne;exact hne (hw.inj j a.block x _ hx hget hf)) g2 g3 g4 g5 g6 g8 (by
       have hk:=k3.mono (ρ.upd_ext S.next (ρ.f a.block) (c'-(l+m))) (show S.next≤S.next+1 by omega)
       refine .cells ?_ (fun h=>by cases h) (fun i u _ hu=>?_) (fun x hx h1 h2=>hf1 x (by omega) h1 h2) hl1
       ·rw [g7,hcsz,hcs,hsz,← Nat.add_mul];congr 1;omega
       ·rw [Tr.get_ofL _ _ _ (by simp),Array.getElem?_toList] at hu
        rcases hk.get? i with ⟨q1,_⟩|⟨b1,b2,q1,q2,q3⟩
        ·rw [q1] at hu;cases hu
        ·rw [q1] at hu
         cases hu
         refine⟨b2,?_,q3⟩
         rw [Array.getElem?_append] at q2
         split at q2
         ·rename_i hlt2
          rw [g9 i (by omega)]
          rw [ho,List.getElem?_toArray,List.getElem?_take_of_lt (by omega)] at q2
          simpa using q2
         ·rename_i hge
          have hi3:i-o.size<nw.size:=by
           rcases Nat.lt_or_ge (i-o.size) nw.size with h | h
           ·exact h
           ·rw [Array.getElem?_eq_none h] at q2;cases q2
          have:=g10 (i-o.size) (by simpa using hi3)
          rw [show l * ti.size+0+(i-o.size)=i by omega] at this
          rw [this]
          simpa using q2)
     refine⟨_,w',_,hrun,ρ.upd_ext S.next (ρ.f a.block) (c'-(l+m)),by simp [AState.push_eq,AState.kill_eq],rfl,hW,?_⟩
     have:=VR.slice (ρ:=ρ.upd S.next (ρ.f a.block) (c'-(l+m))) (n:=S.next+1) ⟨S.next,0,none⟩ (l+m) (l+m) (by simp) rfl
     simp only [Ren.upd,Ren.addr,if_true] at this
     rw [show l+m+(c'-(l+m))=c' by omega] at this
     rw [ea]
     exact this
    ·obtain⟨v',w',ρ',q1,q2,q3,q4⟩:=hnew (S.kill a.block) (lo,hi') rfl rfl (fun _ h=>h.kill _) hbig
     exact⟨v',w',ρ',q1,q2,by simp [AState.push_eq,AState.kill_eq],rfl,q3,q4⟩
   ·cases h
end
end Go.Eng
namespace Go.Eng
open Go Go.RowKit
def byteInfo (ti:TypeInfo):Bool:=Nat.beq ti.size 1 && Nat.beq ti.bytes 1 && match ti.zero with
 | some (.int .u8 z)=>decide (z=0)
 | _=>false
noncomputable def noughtA (P:Program) (ts:List TypeId) (args:List Value):Option (Array TypeId×Array Value) :=
 match ts,args with
 | [st,it],[.slice base l c,.int .i64 (.ofNat k)]=>match P.underlying st,P.underlying it with
  | some (.slice elem),some (.int _)=>match P.info? elem with
   | some ti=>match byteInfo ti && Nat.ble 1 k && Nat.ble k 1000000 && Nat.ble l 1000000 with
    | true=>some (#[st],#[.slice base l c,.string ⟨Array.replicate k 0⟩])
    | false=>none
   | none=>none
  | _,_=>none
 | _,_=>none
theorem run_noughts {P:Program}{W:World}{st it elem:TypeId}{q:IntKind}{ti:TypeInfo}(hu:P.underlying st=some (.slice elem)) (hq:P.underlying it=some (.int q)) (hi:P.info? elem=some ti) (hz0:ti.zero=some (.int .u8 0)) (hz1:ti.size=1) (hz2:ti.bytes=1)
  (o:Option Addr) (m c k:Nat) (hk0:0<k) (hk:k≤1000000) (hm:m≤1000000) (ty:TypeId) :
  (Builtin.append_ #[st,it] ty #[.slice o m c,.int .i64 k]).run P W=(Builtin.append_ #[st] ty #[.slice o m c,.string ⟨Array.replicate k 0⟩]).run P W:=by
 have hw:IntKind.i64.wrap (k:Int)=(k:Int):=by rw [IntKind.wrap_i64];omega
 have hneg:¬ (k:Int)<0:=by omega
 have hsz:(⟨Array.replicate k (0:UInt8)⟩:ByteArray).size=k:=by show (Array.replicate k (0:UInt8)).size=k;simp
 have hbig:¬ (281474976710656:Int)<(k:Int):=by omega
 have hmax:¬ (9223372036854775807:Int)<(m:Int)+(k:Int):=by omega
 have hcz:Builtin.zeroCells (Value.int IntKind.u8 0).cells k=Array.replicate k (.int .u8 0):=by
  apply Array.ext
  ·simp [Builtin.zeroCells,Value.cells]
  ·intro j h1 h2
   have h3:j % 1=0:=Nat.mod_one j
   simp [Builtin.zeroCells,Value.cells,h3]
 have hzv:∀w,(zeroValue elem).run P w=.ok (.int .u8 0) w:=fun w=>by simp [zeroValue,typeInfo,hi,hz0]
 have hk0':¬ k=0:=by omega
 by_cases hroom:m+k≤c
 ·simp [Builtin.append_,run_underlying hu,run_underlying hq,sizeOf,typeInfo,hi,hz0,Builtin.lenOf,hsz,asInt,asIntOf,hw,hneg,hz1,hz2,hroom,Builtin.firstCells,hbig,hmax,hk0',hcz,hzv]
  done
 ·have hfit:¬ 281474976710656<Builtin.nextslicecap (m+k) c:=by
   have:=growslice_fits (need:=m+k) (old:=c) (bytes:=1) (by omega) (by omega)
   omega
  simp [Builtin.append_,run_underlying hu,run_underlying hq,sizeOf,typeInfo,hi,hz0,Builtin.lenOf,hsz,asInt,asIntOf,hw,hneg,hz1,hz2,hroom,Builtin.firstCells,hbig,hmax,hk0',hcz,hzv,hfit]
  done
noncomputable def appendN (P:Program) (ts:Array TypeId) (args:Array Value) (S:AState):Option (Value×AState):=match noughtA P ts.toList args.toList with
 | some p=>appendA P p.1 p.2 S
 | none=>appendA P ts args S
theorem noughtA_spec {P:Program}{ts:List TypeId}{args:List Value}{p:Array TypeId×Array Value}(h:noughtA P ts args=some p) :
  ∃st it elem q ti base l c k,ts=[st,it]∧args=[.slice base l c,.int .i64 (k:Nat)]∧P.underlying st=some (.slice elem)∧P.underlying it=some (.int q)∧P.info? elem=some ti∧ti.zero=some (.int .u8 0)∧ti.size=1∧ti.bytes=1∧0<k∧k≤1000000∧l≤1000000∧p=(#[st],#[.slice base l c,.string ⟨Array.replicate k 0⟩]):=by
 unfold noughtA at h
 split at h
 case h_2=>cases h
 rename_i st it base l c k
 split at h
 case h_2=>cases h
 rename_i elem q hu hq
 split at h
 case h_2=>cases h
 rename_i ti hi
 split at h
 case h_2=>cases h
 rename_i hb
 simp only [Bool.and_eq_true,Nat.ble_eq] at hb
 obtain⟨⟨⟨h1,h2⟩,h3⟩,h4⟩:=hb
 unfold byteInfo at h1
 simp only [Bool.and_eq_true,Nat.beq_eq] at h1
 obtain⟨⟨h5,h6⟩,h7⟩:=h1
 split at h7
 case h_2=>cases h7
 rename_i z hz
 have hz0:z=0:=by simpa using h7
 subst hz0
 cases h
 exact⟨st,it,elem,q,ti,base,l,c,k,rfl,rfl,hu,hq,hi,hz,h5,h6,h2,h3,h4,rfl⟩
section
variable {P:Program}{B:Nat}{w0:World}{ρ:Ren}{n:Nat}
theorem appendN_sound (E:Env P) {S:AState}{w:World}(hw:WR P B w0 ρ S w) (ts:Array TypeId) (ty:TypeId) {x x':Array Value}(hx:ArrR ρ S.next x x') {v:Value}{S':AState}
  (h:appendN P ts x S=some (v,S')) :
  ∃v' w' ρ',(Builtin.append_ ts ty x').run P w=.ok v' w'∧Ext S.next ρ ρ'∧S.next≤S'.next∧S'.prot=S.prot∧WR P B w0 ρ' S' w'∧VR ρ' S'.next v v':=by
 unfold appendN at h
 split at h
 case h_2=>exact append_sound E hw ts ty hx h
 rename_i p hp
 obtain⟨st,it,elem,q,ti,base,l,c,k,e1,e2,hu,hq,hi,hz0,hz1,hz2,hk0,hk,hl,rfl⟩:=noughtA_spec hp
 obtain⟨tl⟩:=ts
 obtain⟨xl⟩:=x
 obtain⟨xl'⟩:=x'
 simp only at e1 e2
 subst e1
 subst e2
 have hxl:LR (VR ρ S.next) [.slice base l c,.int .i64 (k:Nat)] xl':=hx.list
 cases hxl with
 | cons h1 h2 =>
  rename_i u' r'
  cases h2 with
  | cons h3 h4 =>
   rename_i y' r''
   cases h4
   have hy:y'=.int .i64 (k:Nat):=by cases h3;rfl
   subst hy
   have hx2:ArrR ρ S.next (#[.slice base l c,.string ⟨Array.replicate k 0⟩]:Array Value) #[u',.string ⟨Array.replicate k 0⟩]:=ArrR.of_LR (.cons h1 (.cons (.string _) .nil))
   obtain⟨o',c',rfl⟩:∃o' c',u'=.slice o' l c':=by
    cases h1 with
    | sliceNil=>exact⟨_,_,rfl⟩
    | slice=>exact⟨_,_,rfl⟩
    | tail=>exact⟨_,_,rfl⟩
   have hrun:=run_noughts (W:=w) hu hq hi hz0 hz1 hz2 o' l c' k hk0 hk hl ty
   rw [show (⟨[st,it]⟩:Array TypeId)=#[st,it] from rfl,show (⟨[.slice o' l c',.int .i64 (k:Nat)]⟩:Array Value)=#[.slice o' l c',.int .i64 (k:Nat)] from rfl,hrun]
   exact append_sound E hw #[st] ty hx2 h
end
end Go.Eng
