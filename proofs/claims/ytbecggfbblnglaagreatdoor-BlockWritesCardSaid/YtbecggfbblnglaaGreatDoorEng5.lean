/- The closed run of a Go program whose memory is known only up to a renaming of blocks: what it computes is true of every world and tape. No conditions. -/
import Derived.Test.YtbecggfbblnglaaGreatDoorEng4
set_option linter.unusedSimpArgs false
set_option linter.unusedVariables false
set_option linter.deprecated false
set_option linter.unnecessarySimpa false
namespace Go.Eng
open Go Go.RowKit
noncomputable def todoF (fr:Frame) (k:List Item):Frame:=Frame.rec (motive:=fun _=>Frame) (fun a b _ d e f g=>⟨a,b,k,d,e,f,g⟩) fr
noncomputable def modeF (fr:Frame) (m:FrameMode):Frame:=Frame.rec (motive:=fun _=>Frame) (fun a b c d _ f g=>⟨a,b,c,d,m,f,g⟩) fr
noncomputable def bothF (fr:Frame) (t:Array Value) (k:List Item):Frame:=Frame.rec (motive:=fun _=>Frame) (fun a _ _ d e f g=>⟨a,t,k,d,e,f,g⟩) fr
theorem todoF_eq (fr:Frame) (k:List Item):todoF fr k={ fr with todo:=k }:=by cases fr;rfl
theorem modeF_eq (fr:Frame) (m:FrameMode):modeF fr m={ fr with mode:=m }:=by cases fr;rfl
theorem bothF_eq (fr:Frame) (t:Array Value) (k:List Item):bothF fr t k={ fr with tmps:=t,todo:=k }:=by cases fr;rfl
noncomputable def wrtO (x:Array Value) (d:Option Tmp) (v:Value):Array Value:=Option.rec (motive:=fun _=>Array Value) x (fun d=>wrt x d v) d
theorem wrtO_eq (x:Array Value) (d:Option Tmp) (v:Value):wrtO x d v=match d with
  | some d=>x.setIfInBounds d v
  | none=>x:=by
 cases d with
 | none=>rfl
 | some d=>exact wrt_eq x d v
noncomputable def finF (fr:Frame) (v:Value):Frame :=
 match fr.todo with
 | .inRegion ops (i :: rest) :: k=>bothF fr (wrtO fr.tmps ((ops[i]?).bind (·.dst)) v) (.inRegion ops rest :: k)
 | _=>fr.finish v
theorem finF_eq (fr:Frame) (v:Value):finF fr v=fr.finish v:=by
 unfold finF
 simp only [bothF_eq,wrtO_eq]
 split
 ·rename_i h
  unfold Frame.finish
  rw [h]
  rfl
 ·rfl
noncomputable def ptF (a:Act) (dst:Option Tmp) (v:Value):Act:=Act.rec (motive:=fun _=>Act) (fun t d=>⟨wrtO t dst v,d⟩) a
theorem ptF_eq (a:Act) (d:Option Tmp) (v:Value):ptF a d v=a.put d v:=by
 cases a
 show Act.mk (wrtO _ d v) _=_
 rw [wrtO_eq]
 cases d<;>rfl
noncomputable def yieldedF (ops:Array Oper) (tmps:Array Value) (j:Nat):Option Bool :=
 match (ops[j]?).bind (·.dst) with
 | some t=>match rd tmps t with
  | .bool b=>some b
  | _=>none
 | none=>none
theorem yieldedF_eq (ops:Array Oper) (tmps:Array Value):yieldedF ops tmps=yielded ops tmps:=by
 funext j
 unfold yieldedF yielded
 cases (ops[j]?).bind (·.dst) with
 | none=>rfl
 | some t =>
  simp only [Option.bind_some,rd_eq,Array.getD_eq_getD_getElem?]
  cases tmps[t]? with
  | none=>rfl
  | some v=>cases v<;>rfl
noncomputable def wantedF (ops:Array Oper) (o:Oper) (tmps:Array Value):Bool:=Region.wanted o (yieldedF ops tmps)
theorem wantedF_eq (ops:Array Oper) (o:Oper) (tmps:Array Value):wantedF ops o tmps=Region.wanted o (yielded ops tmps):=by rw [wantedF,yieldedF_eq]
noncomputable def lrep (n:Nat) (v:Value):List Value:=Nat.rec (motive:=fun _=>List Value) [] (fun _ ih=>v :: ih) n
theorem lrep_eq (n:Nat) (v:Value):lrep n v=List.replicate n v:=by
 induction n with
 | zero=>rfl
 | succ n ih=>show v :: lrep n v=_;rw [ih];rfl
noncomputable def enterF (p:Program) (f:FuncId) (args:Array Value) (kind:CallKind):Frame :=
 let fn:=p.funcs[f]?
 { fn:=f,tmps:=⟨lapp args.toList (lrep ((fn.map (·.ntmps)).getD 0-args.toList.length) undef)⟩,
   todo:=[.code ((fn.bind (·.body)).getD (.refuse "unsupported: a function without a Go body is entered"))],defers:=[],mode:=.run,kind }
theorem enterF_eq (p:Program) (f:FuncId) (args:Array Value) (kind:CallKind):enterF p f args kind=Frame.enter p f args kind:=by
 unfold enterF Frame.enter
 simp only [lapp_eq,lrep_eq]
 congr 1
 apply Array.ext'
 simp
noncomputable def resultsF (fn:Func) (tmps:Array Value):Sem Value:=do
 let vs ← fn.results.mapM fun
  | .tmp t=>pure (rd tmps t)
  | .cell a t=>do loadVarA t (← asAddr (rd tmps a))
 pure (if h:vs.size=1 then vs[0] else .tuple vs)
theorem resultsF_eq (fn:Func) (tmps:Array Value):resultsF fn tmps=resultsA fn tmps:=by
 unfold resultsF resultsA
 simp only [rd_eq]
 rfl
noncomputable def appendF (P:Program) (ts:Array TypeId) (args:Array Value) (S:AState):Option (Value×AState) :=
 match (ts[0]?:Option TypeId),(args[0]?:Option Value),(args[1]?:Option Value) with
 | some st,some (Value.slice base l c),some x=>match P.underlying st with
  | some (.slice elem)=>match P.info? elem with
   | some ti=>match notInt P ts with
    | true=>match runB P (Builtin.lenOf x) S with
     | some (m,_)=>match Nat.ble (l+m) c with
      | true=>runB P ((firstCellsA ti.size m x).bind fun new=>(storeInA base (l * ti.size) new.toList).bind fun _=>Sem.pure (.slice base (l+m) c)) S
      | false=>match ti.zero with
       | some z=>match runB P ((firstCellsA ti.size l (.slice base l c)).bind fun old=>(firstCellsA ti.size m x).bind fun new=>Sem.pure (catA old new)) S with
        | some (cells,_)=>match growsOk l m ti z cells with
         | true=>match base with
          | none=>some (.slice (some ⟨S.next,0,none⟩) (l+m) (l+m),S.push (.row cells elem 0 0 true))
          | some a=>match a.spot with
           | none=>match S.heap.get a.block with
            | some (.cells _ _ _ _ _ false)=>some (.slice (some ⟨S.next,0,none⟩) (l+m) (l+m),S.push (.row cells elem 0 0 true))
            | some (.cells _ osz e lo hi true)=>match decide (a.off=0) && Nat.ble S.prot a.block && decide (e=elem) && decide (osz=c * ti.size) && Nat.ble hi (l * ti.size) && Nat.ble lo hi with
             | true=>some (.slice (some ⟨S.next,0,none⟩) (l+m) (l+m),(S.kill a.block).push (.row cells elem lo hi true))
             | false=>none
            | _=>none
           | some _=>none
         | false=>none
        | none=>none
       | none=>none
     | none=>none
    | false=>none
   | none=>none
  | _=>none
 | _,_,_=>none
theorem appendF_eq (P:Program) (ts:Array TypeId) (args:Array Value) (S:AState):appendF P ts args S=appendA P ts args S:=by
 unfold appendF appendA
 simp only [runB_eq]
 rfl
noncomputable def appendNF (P:Program) (ts:Array TypeId) (args:Array Value) (S:AState):Option (Value×AState):=match noughtA P ts.toList args.toList with
 | some p=>appendF P p.1 p.2 S
 | none=>appendF P ts args S
theorem appendNF_eq (P:Program) (ts:Array TypeId) (args:Array Value) (S:AState):appendNF P ts args S=appendN P ts args S:=by
 unfold appendNF appendN
 simp only [appendF_eq]
 cases noughtA P ts.toList args.toList<;>rfl
noncomputable def stepOpF {P:Program}(E:Env P) (a:Act) (o:Oper) (S:AState):Option (Next×AState) :=
 match o.op with
 | .call { callee:=.builtin .append,args:=args,argTypes:=ts }=>match runB P (getVs a args.toList) S with
  | some (vs,_)=>match appendNF P ts vs.toArray S with
   | some (v,S')=>some (.value v,S')
   | none=>none
  | none=>none
 | .convert src dst x=>match isToBytes P src dst with
  | true=>match runB P (getV a x) S with
   | some (v,_)=>match toBytesA P src dst v S with
    | some (v,S')=>some (.value v,S')
    | none=>none
   | none=>none
  | false=>runB P (opB E a o) S
 | _=>runB P (opB E a o) S
theorem stepOpF_eq {P:Program}(E:Env P) (a:Act) (o:Oper) (S:AState):stepOpF E a o S=stepOpA E a o S:=by
 unfold stepOpF stepOpA
 simp only [runB_eq,opB_eq,appendNF_eq]
 rfl
noncomputable def nextF (fr:Frame) (cs:List Frame) (P:Program) (nx:Next):Option (Frame×List Frame) :=
 match nx with
 | .value v=>some (finF fr v,cs)
 | .skip=>some (finF fr undef,cs)
 | .enter f args=>some (enterF P f args .normal,fr :: cs)
 | .round l f tmps as body=>some (Frame.round l f tmps as body .normal,fr :: cs)
 | .defer d=>some ({ fr with defers:=d :: fr.defers }.finish undef,cs)
 | .recover=>match fr.roundOf with
  | none=>match fr.kind,cs with
   | .deferred,[]=>none
   | _,_=>some (finF fr .nilIface,cs)
  | some _=>none
 | _=>none
noncomputable def returnF (fr:Frame) (cs:List Frame) (v:Value):Option (Frame×List Frame) :=
 match cs with
 | caller :: rest=>match fr.kind with
  | .normal=>some (finF caller v,rest)
  | .deferred=>some (caller,rest)
  | _=>none
 | []=>none
noncomputable def leaveF (P:Program) (fr:Frame) (cs:List Frame) (S:AState) (jump:Option Code):Option (Frame×List Frame×AState) :=
 match fr.roundOf with
 | none=>none
 | some l=>match runB P (Instr.endRound l jump) S with
  | some (v,S')=>match returnF fr cs v with
   | some (f,c)=>some (f,c,S')
   | none=>none
  | none=>none
noncomputable def runStepF {P:Program}(E:Env P) (fr:Frame) (cs:List Frame) (S:AState):Option (Frame×List Frame×AState) :=
 match fr.todo with
 | []=>match fr.roundOf with
  | none=>some (modeF fr .returning,cs,S)
  | some _=>leaveF P fr cs S none
 | .code .ret :: _=>match fr.roundOf with
  | none=>some (modeF fr .returning,cs,S)
  | some _=>leaveF P fr cs S (some .ret)
 | .code .skip :: k=>some (todoF fr (k),cs,S)
 | .code (.label _) :: k=>some (todoF fr (k),cs,S)
 | .inBlock _ :: k=>some (todoF fr (k),cs,S)
 | .inScope _ :: k=>some (todoF fr (k),cs,S)
 | .code (.seq a b) :: k=>some (todoF fr (.code a :: .code b :: k),cs,S)
 | .code (.cond (.tmp t) thn els) :: k=>match rd fr.tmps t with
  | .bool true=>some (todoF fr (.code thn :: k),cs,S)
  | .bool false=>some (todoF fr (.code els :: k),cs,S)
  | _=>none
 | .code (.cond (.const (.bool true)) thn _) :: k=>some (todoF fr (.code thn :: k),cs,S)
 | .code (.cond (.const (.bool false)) _ els) :: k=>some (todoF fr (.code els :: k),cs,S)
 | .code (.block id body) :: k=>some (todoF fr (.code body :: .inBlock id :: k),cs,S)
 | .code (.loop body) :: k=>some (todoF fr (.code body :: .inLoop body :: k),cs,S)
 | .inLoop body :: k=>some (todoF fr (.code body :: .inLoop body :: k),cs,S)
 | .code (.scope body) :: k=>some (todoF fr (.code body :: .inScope body :: k),cs,S)
 | .code (.exit id) :: k=>match exitTo id k with
  | some k'=>some (todoF fr (k'),cs,S)
  | none=>leaveF P fr cs S (some (.exit id))
 | .code (.region _ ops false) :: k=>some (todoF fr (.inRegion ops (List.range ops.size) :: k),cs,S)
 | .inRegion _ [] :: k=>some (todoF fr (k),cs,S)
 | .inRegion ops (i :: _) :: _=>match ops[i]? with
  | none=>some (finF fr undef,cs,S)
  | some o=>match wantedF ops o fr.tmps with
   | false=>some (finF fr undef,cs,S)
   | true=>match fr.roundOf.isSome && isDefer o.op with
    | true=>none
    | false=>match stepOpF E (actOf fr) o S with
     | some (nx,S')=>match nextF fr cs P nx with
      | some (f,c)=>some (f,c,S')
      | none=>none
     | none=>none
 | .code (.rangeFunc f params assign body) :: k=>match enterLoopA fr params assign body S with
  | some (l,mark,S1)=>match runB P ((getV (actOf fr) f).bind fun v=>(ofValueA v #[.func (.yield l) #[] #[]]).bind fun d=>invokeA E d.target d.args) S1 with
   | some (nx,S2)=>match nextF { fr with todo:=.inRangeFunc l :: k,defers:=mark++fr.defers } cs P nx with
    | some (f,c)=>some (f,c,S2)
    | none=>none
   | none=>none
  | none=>none
 | .endRangeFunc l :: k=>match runB P (Instr.endLoop l) S with
  | some (jump,S')=>some (todoF fr ((jump.map Item.code).toList++k),cs,S')
  | none=>none
 | .beginRound :: k=>match fr.roundOf with
  | some l=>match runB P (Instr.beginRound l) S with
   | some (_,S')=>some (todoF fr (k),cs,S')
   | none=>none
  | none=>none
 | _=>none
noncomputable def leaveStepF {P:Program}(E:Env P) (fr:Frame) (cs:List Frame) (S:AState):Option (Frame×List Frame×AState) :=
 match fr.defers with
 | { target:=.collected block,args:=_ } :: ds=>match runB P (Instr.takeDeferred block) S with
  | some (calls,S')=>some ({ fr with defers:=calls++ds },cs,S')
  | none=>none
 | d :: ds=>match runB P (invokeA E d.target d.args) S with
  | some (.enter f args,S')=>some (enterF P f args .deferred,{ fr with defers:=ds } :: cs,S')
  | _=>none
 | []=>match cs with
  | []=>none
  | _=>match P.funcs[fr.fn]? with
   | some fn=>match runB P (resultsF fn fr.tmps) S with
    | some (v,S')=>match returnF fr cs v with
     | some (f,c)=>some (f,c,S')
     | none=>none
    | none=>none
   | none=>none
noncomputable def closeF {P:Program}(E:Env P) (ops:Array Oper) (S:AState):List Oper→Nat→List Nat→Act→Option (List Nat×Act)
 | [],_,L,A=>some (L,A)
 | o :: l,i,L,A=>match memN i L with
  | true=>closeF E ops S l (i+1) L A
  | false=>match readyIn L o with
   | false=>closeF E ops S l (i+1) L A
   | true=>match wantedF ops o A.tmps || isAsg o.op with
    | false=>closeF E ops S l (i+1) (i :: L) (ptF A o.dst undef)
    | true=>match readOp o.op with
     | false=>closeF E ops S l (i+1) L A
     | true=>match runB P (opB E A o) S with
      | some (.value v,_)=>closeF E ops S l (i+1) (i :: L) (ptF A o.dst v)
      | _=>none
noncomputable def valF (A:Act) (d:Option Tmp) (v:Value):Bool:=match d with
 | some t=>eqV 64 (rd A.tmps t) v
 | none=>true
noncomputable def nodeF {P:Program}(E:Env P) (ops:Array Oper) (X L:List Nat) (A:Act) (S:AState):List Oper→Nat→Bool
 | [],_=>true
 | o :: l,i=>(match memN i L with
  | true=>readyIn L o && (memN i X || !(isAsg o.op) && match wantedF ops o A.tmps with
   | false=>valF A o.dst undef
   | true=>readOp o.op && (blocked ops X i || match runB P (opB E A o) S with
    | some (.value v,_)=>valF A o.dst v
    | _=>false))
  | false=>!(readyIn L o) || wantedF ops o A.tmps) && nodeF E ops X L A S l (i+1)
noncomputable def treeF {P:Program}(E:Env P) (call:FuncId→Array Value→AState→(Value→AState→Bool)→Bool) (ops:Array Oper) (k:Act→AState→Bool):Nat→List Nat→List Nat→Act→AState→Bool
 | 0,_,_,_,_=>false
 | n+1,X,L0,A0,S=>match closeF E ops S ops.toList 0 L0 A0 with
  | none=>false
  | some (L,A)=>nodeF E ops X L A S ops.toList 0 && match nexts L ops.toList 0 with
   | []=>k A S
   | l=>l.all fun p=>match stepOpF E A p.2 S with
    | some (.value v,S')=>treeF E call ops k n (p.1 :: X) (p.1 :: L) (ptF A p.2.dst v) S'
    | some (.skip,S')=>treeF E call ops k n (p.1 :: X) (p.1 :: L) (ptF A p.2.dst undef) S'
    | some (.enter f args,S')=>call f args S' fun v S''=>treeF E call ops k n (p.1 :: X) (p.1 :: L) (ptF A p.2.dst v) S''
    | _=>false
theorem nextF_eq (fr:Frame) (cs:List Frame) (P:Program) (nx:Next):nextF fr cs P nx=nextA fr cs P nx:=by
 unfold nextF nextA
 simp only [finF_eq,enterF_eq]
 rfl
theorem returnF_eq (fr:Frame) (cs:List Frame) (v:Value):returnF fr cs v=returnA fr cs v:=by
 unfold returnF returnA
 simp only [finF_eq]
 rfl
theorem leaveF_eq (P:Program) (fr:Frame) (cs:List Frame) (S:AState) (jump:Option Code):leaveF P fr cs S jump=leaveA P fr cs S jump:=by
 unfold leaveF leaveA
 simp only [runB_eq,returnF_eq]
 rfl
theorem runStepF_eq {P:Program}(E:Env P) (fr:Frame) (cs:List Frame) (S:AState):runStepF E fr cs S=runStepA E fr cs S:=by
 unfold runStepF runStepA
 simp only [runB_eq,stepOpF_eq,finF_eq,nextF_eq,leaveF_eq,wantedF_eq,rd_eq,todoF_eq,modeF_eq]
 rfl
theorem leaveStepF_eq {P:Program}(E:Env P) (fr:Frame) (cs:List Frame) (S:AState):leaveStepF E fr cs S=leaveStepA E fr cs S:=by
 unfold leaveStepF leaveStepA
 simp only [runB_eq,returnF_eq,resultsF_eq,enterF_eq]
 rfl
theorem closeF_eq {P:Program}(E:Env P) (ops:Array Oper) (S:AState):∀(l:List Oper) (i:Nat) (L:List Nat) (A:Act),closeF E ops S l i L A=closeR E ops S l i L A:=by
 intro l
 induction l with
 | nil=>intro i L A;rfl
 | cons o l ih =>
  intro i L A
  unfold closeF closeR
  simp only [runB_eq,opB_eq,ih,wantedF_eq,ptF_eq,wantedIn]
  rfl
theorem valF_eq (A:Act) (d:Option Tmp) (v:Value):valF A d v=valIs A d v:=by
 unfold valF valIs
 simp only [rd_eq]
 rfl
theorem nodeF_eq {P:Program}(E:Env P) (ops:Array Oper) (X L:List Nat) (A:Act) (S:AState):∀(l:List Oper) (i:Nat),nodeF E ops X L A S l i=nodeOk E ops X L A S l i:=by
 intro l
 induction l with
 | nil=>intro i;rfl
 | cons o l ih =>
  intro i
  unfold nodeF nodeOk
  simp only [runB_eq,opB_eq,ih,wantedF_eq,valF_eq,wantedIn]
  rfl
theorem treeF_eq {P:Program}(E:Env P) (call:FuncId→Array Value→AState→(Value→AState→Bool)→Bool) (ops:Array Oper) (k:Act→AState→Bool) :
  ∀(n:Nat) (X L:List Nat) (A:Act) (S:AState),treeF E call ops k n X L A S=treeR E call ops k n X L A S:=by
 intro n
 induction n with
 | zero=>intro X L A S;rfl
 | succ n ih =>
  intro X L A S
  unfold treeF treeR
  simp only [stepOpF_eq,ih,closeF_eq,nodeF_eq,ptF_eq]
  rfl
def eqVs:List Value→List Value→Bool
 | [],[]=>true
 | v :: l,u :: r=>closedV 64 v && eqV 64 v u && eqVs l r
 | _,_=>false
structure Ans where
 f:FuncId
 args:List Value
 S:AState
 v:Value
 S':AState
def eqVL:List Value→List Value→Bool
 | [],[]=>true
 | v :: l,u :: r=>eqV 64 v u && eqVL l r
 | _,_=>false
def eqOpt {α:Type}(q:α→α→Bool):Option α→Option α→Bool
 | none,none=>true
 | some a,some b=>q a b
 | _,_=>false
def eqT {α:Type}(q:α→α→Bool):Tr α→Tr α→Bool
 | .nil,.nil=>true
 | .node v l r,.node v' l' r'=>eqOpt q v v' && eqT q l l' && eqT q r r'
 | _,_=>false
def eqEs:List MapEntry→List MapEntry→Bool
 | [],[]=>true
 | ⟨k,v,b⟩ :: l,⟨k',v',b'⟩ :: r=>eqV 64 k k' && eqV 64 v v' && Nat.beq b b' && eqEs l r
 | _,_=>false
def eqO:AObj→AObj→Bool
 | .cells t n e lo hi g,.cells t' n' e' lo' hi' g'=>eqT (eqV 64) t t' && Nat.beq n n' && decide (e=e') && Nat.beq lo lo' && Nat.beq hi hi' && (g == g')
 | .rest (.map es c),.rest (.map es' c')=>Nat.beq c c' && eqEs es.toList es'.toList
 | _,_=>false
def eqS (S T:AState):Bool:=Nat.beq S.next T.next && Nat.beq S.prot T.prot && eqT eqO S.heap T.heap
theorem eqVL_eq:∀(l r:List Value),eqVL l r=true→l=r:=by
 intro l
 induction l with
 | nil=>intro r h;cases r with
  | nil=>rfl
  | cons _ _=>cases h
 | cons v l ih=>intro r h;cases r with
  | nil=>cases h
  | cons u r =>
   unfold eqVL at h
   rw [Bool.and_eq_true] at h
   rw [eqV_eq _ _ _ h.1,ih r h.2]
theorem eqT_eq {α:Type}{q:α→α→Bool}(hq:∀a b,q a b=true→a=b):∀(t u:Tr α),eqT q t u=true→t=u:=by
 intro t
 induction t with
 | nil=>intro u h;cases u with
  | nil=>rfl
  | node _ _ _=>cases h
 | node v l r ihl ihr=>intro u h;cases u with
  | nil=>cases h
  | node v' l' r' =>
   unfold eqT at h
   rw [Bool.and_eq_true,Bool.and_eq_true] at h
   obtain⟨⟨h1,h2⟩,h3⟩:=h
   rw [ihl _ h2,ihr _ h3]
   cases v<;>cases v'<;>simp only [eqOpt] at h1
   ·rfl
   ·cases h1
   ·cases h1
   ·rw [hq _ _ h1]
theorem eqEs_eq:∀(l r:List MapEntry),eqEs l r=true→l=r:=by
 intro l
 induction l with
 | nil=>intro r h;cases r with
  | nil=>rfl
  | cons _ _=>cases h
 | cons v l ih=>intro r h;cases r with
  | nil=>cases h
  | cons u r =>
   obtain⟨a,b,c⟩:=v
   obtain⟨a',b',c'⟩:=u
   unfold eqEs at h
   simp only [Bool.and_eq_true] at h
   obtain⟨⟨⟨h1,h2⟩,h3⟩,h4⟩:=h
   rw [eqV_eq _ _ _ h1,eqV_eq _ _ _ h2,Nat.eq_of_beq_eq_true h3,ih r h4]
theorem eqO_eq:∀(a b:AObj),eqO a b=true→a=b:=by
 intro a b h
 unfold eqO at h
 split at h
 case h_3=>cases h
 case h_2 =>
  rw [Bool.and_eq_true] at h
  rw [Nat.eq_of_beq_eq_true h.1,Array.toList_inj.1 (eqEs_eq _ _ h.2)]
 simp only [Bool.and_eq_true,decide_eq_true_eq,beq_iff_eq] at h
 obtain⟨⟨⟨⟨⟨h1,h2⟩,h3⟩,h4⟩,h5⟩,h6⟩:=h
 rw [eqT_eq (fun _ _=>eqV_eq 64 _ _) _ _ h1,Nat.eq_of_beq_eq_true h2,h3,Nat.eq_of_beq_eq_true h4,Nat.eq_of_beq_eq_true h5,h6]
theorem eqS_eq:∀(S T:AState),eqS S T=true→S=T:=by
 intro S T h
 obtain⟨a,b,c⟩:=S
 obtain⟨a',b',c'⟩:=T
 unfold eqS at h
 simp only [Bool.and_eq_true] at h
 obtain⟨⟨h1,h2⟩,h3⟩:=h
 rw [eqT_eq eqO_eq _ _ h3,Nat.eq_of_beq_eq_true h1,Nat.eq_of_beq_eq_true h2]
def GivesM (P:Program) (B:Nat) (w0:World) (ρ:Ren) (S:AState) (v:Value) (S':AState):Ending→World→Prop:=fun e w' =>
 ∃v' ρ',e=.returned v'∧VR ρ' S'.next v v'∧WR P B w0 ρ' S' w'∧Ext S.next ρ ρ'∧S.next≤S'.next∧S'.prot=S.prot
structure Orc (P:Program) where
 good:Nat→World→Prop
 tab:List (FuncId×List Value×Value)
 mem:List Ans
 memOk:∀x∈mem,∀(B:Nat) (w0:World) (ρ:Ren) (w:World) (args':Array Value),good B w0→Base P ρ x.S.next→WR P B w0 ρ x.S w→ArrR ρ x.S.next x.args.toArray args'→Calls P x.f args' w (GivesM P B w0 ρ x.S x.v x.S')
 ok:∀x∈tab,closedV 64 x.2.2=true∧∀(B:Nat) (w0 w:World),good B w0→Below B w0 w→B≤w.heap.size→P.globals.size+5≤w.heap.size→Calls P x.1 x.2.1.toArray w fun e w'=>e=.returned x.2.2∧Below w.heap.size w w'
def askL (f:FuncId) (args:List Value):List (FuncId×List Value×Value)→Option Value
 | []=>none
 | (g,l,v) :: r=>match Nat.beq f g with
  | true=>match eqVs args l with
   | true=>some v
   | false=>askL f args r
  | false=>askL f args r
def askM (f:FuncId) (args:List Value) (S:AState):List Ans→Option (Value×AState)
 | []=>none
 | ⟨g,l,T,v,T'⟩ :: r=>match Nat.beq f g with
  | true=>match eqVL args l && eqS S T with
   | true=>some (v,T')
   | false=>askM f args S r
  | false=>askM f args S r
def askA {P:Program}(f:FuncId) (args:List Value) (S:AState) (O:Orc P):Option (Value×AState):=match askL f args O.tab with
 | some v=>some (v,S)
 | none=>askM f args S O.mem
noncomputable def answered {P:Program}(E:Env P) (O:Orc P) (fr:Frame) (S:AState):Option (Value×AState):=match fr.todo with
 | .inRegion ops (i :: _) :: _=>match ops[i]? with
  | some o=>match Region.wanted o (yielded ops fr.tmps) with
   | false=>none
   | true=>match fr.roundOf.isSome && isDefer o.op with
    | true=>none
    | false=>match o.op with
     | .call _=>match stepOpA E (actOf fr) o S with
      | some (.enter f args,S')=>askA f args.toList S' O
      | _=>none
     | _=>none
  | none=>none
 | _=>none
noncomputable def runZ {P:Program}(E:Env P) (O:Orc P):Nat→FuncId→Frame→List Frame→AState→(Value→AState→Bool)→Bool
 | 0,_,_,_,_,_=>false
 | n+1,f0,fr,cs,S,k=>match fr.mode with
  | .run=>match answered E O fr S with
   | some (v,S')=>runZ E O n f0 (fr.finish v) cs S' k
   | none=>match fr.todo with
    | .code (.region _ ops true) :: rest=>match fr.roundOf with
     | none=>wfFrom ops 0 ops.toList &&
       treeR E (fun f args S' k'=>match askA f args.toList S' O with
       | some (v,S2)=>k' v S2
       | none=>runZ E O n f (Frame.enter P f args .normal) [] S' k') ops (fun A S'=>runZ E O n f0 { fr with tmps:=A.tmps,todo:=rest } cs S' k) (ops.size+1) [] [] (actOf fr) S
     | some _=>false
    | .inRegion ops (i :: _) :: _=>match ops[i]? with
     | some ⟨dst,.next x false,ty,pos,after,guard⟩=>match Region.wanted ⟨dst,.next x false,ty,pos,after,guard⟩ (yielded ops fr.tmps) with
      | false=>runZ E O n f0 (fr.finish undef) cs S k
      | true=>match runA P ((getV (actOf fr) x).bind fun v=>nextMA v 0) S with
       | some ((m,_),_)=>(List.range m).all fun c=>match runA P ((getV (actOf fr) x).bind fun v=>nextMA v c) S with
        | some ((_,u),S')=>runZ E O n f0 (fr.finish u) cs S' k
        | none=>false
       | none=>false
     | _=>match runStepA E fr cs S with
      | some (f,c,S')=>runZ E O n f0 f c S' k
      | none=>false
    | _=>match runStepA E fr cs S with
     | some (f,c,S')=>runZ E O n f0 f c S' k
     | none=>false
  | .returning=>match fr.defers,cs with
   | [],[]=>match decide (fr.fn=f0),fr.kind with
    | true,.normal=>match P.funcs[fr.fn]? with
     | some fn=>match runA P (resultsA fn fr.tmps) S with
      | some (v,S')=>k v S'
      | none=>false
     | none=>false
    | _,_=>false
   | _,_=>match leaveStepA E fr cs S with
    | some (f,c,S')=>runZ E O n f0 f c S' k
    | none=>false
  | _=>false
noncomputable def answeredF {P:Program}(E:Env P) (O:Orc P) (fr:Frame) (S:AState):Option (Value×AState):=match fr.todo with
 | .inRegion ops (i :: _) :: _=>match ops[i]? with
  | some o=>match wantedF ops o fr.tmps with
   | false=>none
   | true=>match fr.roundOf.isSome && isDefer o.op with
    | true=>none
    | false=>match o.op with
     | .call _=>match stepOpF E (actOf fr) o S with
      | some (.enter f args,S')=>askA f args.toList S' O
      | _=>none
     | _=>none
  | none=>none
 | _=>none
noncomputable def runF {P:Program}(E:Env P) (O:Orc P):Nat→FuncId→Frame→List Frame→AState→(Value→AState→Bool)→Bool
 | 0,_,_,_,_,_=>false
 | n+1,f0,fr,cs,S,k=>match fr.mode with
  | .run=>match answeredF E O fr S with
   | some (v,S')=>runF E O n f0 (finF fr v) cs S' k
   | none=>match fr.todo with
    | .code (.region _ ops true) :: rest=>match fr.roundOf with
     | none=>wfFrom ops 0 ops.toList &&
       treeF E (fun f args S' k'=>match askA f args.toList S' O with
       | some (v,S2)=>k' v S2
       | none=>runF E O n f (enterF P f args .normal) [] S' k') ops (fun A S'=>runF E O n f0 (bothF fr A.tmps rest) cs S' k) (ops.size+1) [] [] (actOf fr) S
     | some _=>false
    | .inRegion ops (i :: _) :: _=>match ops[i]? with
     | some ⟨dst,.next x false,ty,pos,after,guard⟩=>match wantedF ops ⟨dst,.next x false,ty,pos,after,guard⟩ fr.tmps with
      | false=>runF E O n f0 (finF fr undef) cs S k
      | true=>match runB P ((getV (actOf fr) x).bind fun v=>nextMA v 0) S with
       | some ((m,_),_)=>(List.range m).all fun c=>match runB P ((getV (actOf fr) x).bind fun v=>nextMA v c) S with
        | some ((_,u),S')=>runF E O n f0 (finF fr u) cs S' k
        | none=>false
       | none=>false
     | _=>match runStepF E fr cs S with
      | some (f,c,S')=>runF E O n f0 f c S' k
      | none=>false
    | _=>match runStepF E fr cs S with
     | some (f,c,S')=>runF E O n f0 f c S' k
     | none=>false
  | .returning=>match fr.defers,cs with
   | [],[]=>match decide (fr.fn=f0),fr.kind with
    | true,.normal=>match P.funcs[fr.fn]? with
     | some fn=>match runB P (resultsF fn fr.tmps) S with
      | some (v,S')=>k v S'
      | none=>false
     | none=>false
    | _,_=>false
   | _,_=>match leaveStepF E fr cs S with
    | some (f,c,S')=>runF E O n f0 f c S' k
    | none=>false
  | _=>false
theorem answeredF_eq {P:Program}(E:Env P) (O:Orc P) (fr:Frame) (S:AState):answeredF E O fr S=answered E O fr S:=by
 unfold answeredF answered
 simp only [stepOpF_eq,wantedF_eq]
theorem runF_eq {P:Program}(E:Env P) (O:Orc P):∀(n:Nat) (f0:FuncId) (fr:Frame) (cs:List Frame) (S:AState) (k:Value→AState→Bool),runF E O n f0 fr cs S k=runZ E O n f0 fr cs S k:=by
 intro n
 induction n with
 | zero=>intro f0 fr cs S k;rfl
 | succ n ih =>
  intro f0 fr cs S k
  unfold runF runZ
  simp only [runB_eq,ih,answeredF_eq,treeF_eq,runStepF_eq,leaveStepF_eq,resultsF_eq,finF_eq,enterF_eq,wantedF_eq,bothF_eq]
section
variable {P:Program}{B:Nat}{w0:World}{ρ:Ren}
theorem WR.keep {S:AState}{w w':World}(h:WR P B w0 ρ S w) (hb:Below w.heap.size w w'):WR P B w0 ρ S w' where
 below:=h.below.trans (hb.mono h.hB)
 hB:=Nat.le_trans h.hB hb.size
 rng:=fun i hi=>Nat.lt_of_lt_of_le (h.rng i hi) hb.size
 own:=h.own
 inj:=h.inj
 obj:=fun i o ho=>by
  obtain⟨h1,o',h2,h3⟩:=h.obj i o ho
  exact⟨h1,o',by rw [hb.block _ (h.rng i h1)];exact h2,h3⟩
theorem big {S:AState}{w:World}(hb:Base P ρ S.next) (hw:WR P B w0 ρ S w):P.globals.size+5≤w.heap.size:=by
 obtain⟨h1,h2⟩:=hb
 have h3:=hw.rng (P.globals.size+4) (by omega)
 rw [(h2 (P.globals.size+4) (by omega)).1] at h3
 omega
theorem eqVs_eq:∀(l r:List Value),eqVs l r=true→l=r∧l.all (closedV 64)=true:=by
 intro l
 induction l with
 | nil=>intro r h;cases r with
  | nil=>exact⟨rfl,rfl⟩
  | cons _ _=>cases h
 | cons v l ih=>intro r h;cases r with
  | nil=>cases h
  | cons u r =>
   unfold eqVs at h
   rw [Bool.and_eq_true,Bool.and_eq_true] at h
   obtain⟨⟨h1,h2⟩,h3⟩:=h
   obtain⟨rfl,h4⟩:=ih r h3
   exact⟨by rw [eqV_eq _ _ _ h2],by rw [List.all_cons,h1,h4];rfl⟩
theorem askL_mem {f:FuncId}{args:List Value}:∀(t:List (FuncId×List Value×Value)) (v:Value),askL f args t=some v→(f,args,v)∈t∧args.all (closedV 64)=true:=by
 intro t
 induction t with
 | nil=>intro v h;cases h
 | cons x t ih =>
  obtain⟨g,l,u⟩:=x
  intro v h
  unfold askL at h
  split at h
  ·rename_i hf
   split at h
   ·rename_i hl
    obtain⟨rfl,hc⟩:=eqVs_eq _ _ hl
    have:=Nat.eq_of_beq_eq_true hf
    subst this
    cases h
    exact⟨List.mem_cons_self,hc⟩
   ·exact⟨List.mem_cons_of_mem _ (ih v h).1,(ih v h).2⟩
  ·exact⟨List.mem_cons_of_mem _ (ih v h).1,(ih v h).2⟩
theorem ask_calls (O:Orc P) {f:FuncId}{args args':Array Value}{v:Value}{n:Nat}(h:askL f args.toList O.tab=some v) (ha:ArrR ρ n args args') (w:World) (hgd:O.good B w0) (hbl:Below B w0 w) (hBw:B≤w.heap.size) (hN:P.globals.size+5≤w.heap.size) :
  closedV 64 v=true∧Calls P f args' w fun e w'=>e=.returned v∧Below w.heap.size w w':=by
 obtain⟨hm,hc⟩:=askL_mem _ _ h
 obtain⟨h1,h2⟩:=O.ok _ hm
 have e:=ha.closed hc
 subst e
 exact⟨h1,h2 B w0 w hgd hbl hBw hN⟩
theorem askM_mem {f:FuncId}{args:List Value}{S:AState}:∀(t:List Ans) (v:Value) (S':AState),askM f args S t=some (v,S')→⟨f,args,S,v,S'⟩∈t:=by
 intro t
 induction t with
 | nil=>intro v S' h;cases h
 | cons x t ih =>
  obtain⟨g,l,T,u,T'⟩:=x
  intro v S' h
  unfold askM at h
  split at h
  ·rename_i hf
   split at h
   ·rename_i hl
    rw [Bool.and_eq_true] at hl
    have h1:=eqVL_eq _ _ hl.1
    have h2:=eqS_eq _ _ hl.2
    have h3:=Nat.eq_of_beq_eq_true hf
    subst h1 h2 h3
    cases h
    exact List.mem_cons_self
   ·exact List.mem_cons_of_mem _ (ih v S' h)
  ·exact List.mem_cons_of_mem _ (ih v S' h)
theorem ask_callsA (O:Orc P) (hgd:O.good B w0) {f:FuncId}{args args':Array Value}{v:Value}{S S':AState}{w:World}(h:askA f args.toList S O=some (v,S')) (hb:Base P ρ S.next) (hw:WR P B w0 ρ S w)
  (ha:ArrR ρ S.next args args'):Calls P f args' w (GivesM P B w0 ρ S v S'):=by
 unfold askA at h
 split at h
 ·rename_i u hu
  cases h
  obtain⟨h1,h2⟩:=ask_calls O hu ha w hgd hw.below hw.hB (big hb hw)
  exact h2.mono fun e w' ⟨he,hbl⟩=>⟨v,ρ,he,closed_VR 64 v h1,hw.keep hbl,Ext.refl _ _,Nat.le_refl _,rfl⟩
 ·exact O.memOk _ (askM_mem _ _ _ h) B w0 ρ w args' hgd hb hw (by simpa using ha)
theorem ask_gives (O:Orc P) (hgd:O.good B w0) {f:FuncId}{args args':Array Value}{v:Value}{S S2:AState}{w:World}{k:Value→AState→Bool}(h:askA f args.toList S O=some (v,S2)) (hb:Base P ρ S.next) (hw:WR P B w0 ρ S w)
  (ha:ArrR ρ S.next args args') (hk:k v S2=true):Calls P f args' w (Gives P B w0 ρ S k) :=
 (ask_callsA O hgd h hb hw ha).mono fun e w' ⟨v',ρ',h1,h2,h3,h4,h5,h6⟩=>⟨v,v',S2,ρ',h1,hk,h2,h3,h4,h5,h6⟩
theorem FR.of_enter {n:Nat}{f:FuncId}{x:Array Value}{y:Frame}(h:FR ρ n (Frame.enter P f x .normal) y):∃x',y=Frame.enter P f x' .normal∧ArrR ρ n x x':=by
 obtain⟨k1,k2,k3,k4,k5,k6,k7⟩:=h
 obtain⟨yf,yt,yd,yr,ym,yk,yo⟩:=y
 have hu:closedV 64 undef=true:=rfl
 have ex:∃m,(Frame.enter P f x .normal).tmps=x++Array.replicate m undef∧∀x':Array Value,x'.size=x.size→(Frame.enter P f x' .normal).tmps=x'++Array.replicate m undef:=by
  unfold Frame.enter
  exact⟨_,rfl,fun x' hx=>by rw [hx]⟩
 obtain⟨m,e1,e2⟩:=ex
 rw [e1] at k2
 dsimp only at k2
 have hs:=k2.size
 simp only [Array.size_append,Array.size_replicate] at hs
 have hx:ArrR ρ n x (yt.extract 0 x.size):=by
  refine⟨by simp;omega,fun i v v' h1 h2=>k2.at_ i v v' ?_ ?_⟩
  ·have:i<x.size:=by
    rcases Nat.lt_or_ge i x.size with h | h
    ·exact h
    ·rw [Array.getElem?_eq_none h] at h1;cases h1
   rw [Array.getElem?_append_left this]
   exact h1
  ·rw [Array.getElem?_extract] at h2
   split at h2
   ·simpa using h2
   ·cases h2
 have hy:yt=yt.extract 0 x.size++Array.replicate m undef:=by
  apply Array.ext
  ·simp;omega
  ·intro i h1 h2
   rcases Nat.lt_or_ge i x.size with h | h
   ·rw [Array.getElem_append_left (by simp;omega)]
    simp
   ·rw [Array.getElem_append_right (by simp;omega),Array.getElem_replicate]
    have h3:=k2.at_ i undef yt[i] (by rw [Array.getElem?_append_right h,Array.getElem?_replicate,if_pos (by omega)]) (Array.getElem?_eq_getElem h1)
    exact h3.closed (m:=64) hu
 refine⟨yt.extract 0 x.size,?_,hx⟩
 have e3:=e2 (yt.extract 0 x.size) hx.size.symm
 rw [← hy] at e3
 unfold Frame.enter at k1 k3 k4 k5 k6 k7 e3 ⊢
 dsimp only at k1 k3 k4 k5 k6 k7 e3 ⊢
 subst k1
 cases k3 with
 | cons hi ht=>cases hi;cases ht;cases k4;cases k5;cases k6;cases k7;congr 1;exact e3.symm
theorem answered_ends (E:Env P) (O:Orc P) (hgd:O.good B w0) {S S1:AState}{f0:FuncId}{fr fr':Frame}{cs cs' bs:List Frame}{w:World}{k:Value→AState→Bool}{v:Value}(hm:MR P B w0 ρ S fr cs fr' cs' w) (hmode:fr.mode=.run)
  (ha:answered E O fr S=some (v,S1)) (g:∀ρ' fr2' cs2' w',MR P B w0 ρ' S1 (fr.finish v) cs fr2' cs2' w'→EndsC P B w0 ρ' S1 f0 fr2' cs2' bs w' k):EndsC P B w0 ρ S f0 fr' cs' bs w k:=by
 unfold answered at ha
 split at ha
 case h_2=>cases ha
 rename_i ops i is rest htodo
 split at ha
 case h_2=>cases ha
 rename_i o ho
 split at ha
 ·cases ha
 rename_i hwant
 split at ha
 ·cases ha
 rename_i hdef
 split at ha
 case h_2=>cases ha
 rename_i c hop
 split at ha
 case h_2=>cases ha
 rename_i f args S2 hst
 have hstep:runStepA E fr cs S=some (Frame.enter P f args .normal,fr :: cs,S2):=by
  unfold runStepA
  rw [htodo]
  dsimp only
  rw [ho]
  dsimp only
  rw [hwant]
  dsimp only
  rw [hdef]
  dsimp only
  rw [hst]
  rfl
 obtain⟨fr2',cs2',w',ρ',h1,h2,h3,hp,h4⟩:=runStep_sound (bs:=bs) E hm hmode hstep
 obtain⟨hb,hwr,hfr,hcs⟩:=h4
 cases hcs with
 | @cons _ fc _ ct hfc hct =>
 obtain⟨args',hen,hargs⟩:=FR.of_enter hfr
 subst hen
 obtain⟨e,w2,frE,⟨v',ρ2,he,hv,hwr2,hext,hnext,hprot⟩,hcomes,hfn,hleav⟩:=ask_callsA O hgd ha hb hwr hargs (fc :: (ct++bs))
 subst he
 have hcomes:Steps P (lone (Frame.enter P f args' .normal) (fc :: (ct++bs)) w') (lone frE (fc :: (ct++bs)) w2):=hcomes
 have hlast:=step_leave_returned (c:=fc) (cs:=ct++bs) hleav
 obtain⟨w'',ρ'',u,u',S',frF,g0,g1,g2,g3,g4,g5,gp,g6,g7⟩:=g ρ2 (fc.finish v') ct w2 ⟨hb.mono hext hnext,hwr2,(hfc.mono hext hnext).finish hv,hct.imp fun _ _ h=>h.mono hext hnext⟩
 exact⟨w'',ρ'',u,u',S',frF,g0,.head h1 (hcomes.trans (.head hlast g1)),g2,g3,h2.trans (hext.trans g4 hnext) h3,by omega,by omega,g6,g7⟩
theorem runZ_sound (E:Env P) (O:Orc P) (hmix:P.follows .mixedOrders=true):∀(n:Nat) {B:Nat}{w0:World}{ρ:Ren}{S:AState}{f0:FuncId}{fr fr':Frame}{cs cs' bs:List Frame}{w:World}{k:Value→AState→Bool},
  O.good B w0→MR P B w0 ρ S fr cs fr' cs' w→runZ E O n f0 fr cs S k=true→EndsC P B w0 ρ S f0 fr' cs' bs w k:=by
 intro n
 induction n with
 | zero=>intro B w0 ρ S f0 fr fr' cs cs' bs w k _ _ h;cases h
 | succ n ih =>
  intro B w0 ρ S f0 fr fr' cs cs' bs w k hgd hm h
  have plain:fr.mode=.run→(match runStepA E fr cs S with
    | some (f,c,S')=>runZ E O n f0 f c S' k
    | none=>false)=true→EndsC P B w0 ρ S f0 fr' cs' bs w k:=by
   intro hmode h
   split at h
   ·rename_i f c S1 hs
    exact EndsC.of_goes (runStep_sound E hm hmode hs) fun ρ' fr2' cs2' w' hm'=>ih hgd hm' h
   ·cases h
  unfold runZ at h
  split at h
  ·rename_i hmode
   split at h
   ·rename_i v S1 ha
    exact answered_ends E O hgd hm hmode ha fun ρ' fr2' cs2' w' hm'=>ih hgd hm' h
   split at h
   ·
    rename_i id ops rest htodo
    split at h
    case h_2=>cases h
    rename_i hro
    rw [Bool.and_eq_true] at h
    obtain⟨hwf,h⟩:=h
    have hfr:=hm.fr
    obtain⟨xf,xt,xd,xr,xm,xk,xo⟩:=fr
    obtain⟨yf,yt,yd,yr,ym,yk,yo⟩:=fr'
    dsimp only at hmode htodo hro
    subst hmode htodo hro
    obtain⟨h1,h2,h3,h4,h5,h6,h7⟩:=hfr
    dsimp only at h1 h2 h3 h4 h5 h6 h7
    subst h1
    cases h5
    cases h7
    cases h3 with
    | cons hi ht =>
    rename_i k'
    cases hi
    have wf:=wf_of hwf
    unfold treeR at h
    split at h
    ·cases h
    rename_i L A hcl
    rw [Bool.and_eq_true] at h
    obtain⟨hok,h⟩:=h
    obtain⟨c1,c2,c3,c4⟩:=closeR_kept E ops.toList 0 [] _ L A (fun j=>by simp) hcl
    have hcall:∀f args args' ρ S w k',Base P ρ S.next→WR P B w0 ρ S w→ArrR ρ S.next args args'→(match askA f args.toList S O with
      | some (v,S2)=>k' v S2
      | none=>runZ E O n f (Frame.enter P f args .normal) [] S k')=true→Calls P f args' w (Gives P B w0 ρ S k'):=by
     intro f args args' ρ S w k' hb hw hargs hr
     split at hr
     ·rename_i v S2 hv
      exact ask_gives O hgd hv hb hw hargs hr
     intro cs0
     have hmr:MR P B w0 ρ S (Frame.enter P f args .normal) [] (Frame.enter P f args' .normal) [] w:=⟨hb,hw,FR.enter f hargs .normal,.nil⟩
     obtain⟨w',ρ',v,v',S',frE,g0,g1,g2,g3,g4,g5,gp,g6,g7⟩:=ih (bs:=cs0) hgd hmr hr
     exact⟨.returned v',w',frE,⟨v,v',S',ρ',rfl,g0,g7,g6,g4,g5,gp⟩,g1,g3,g2⟩
    have hinv:Inv P B w0 ops ρ S yr [] L A S ρ (Array.replicate ops.size false) (actOf ⟨xf,yt,.code (.region id ops true) :: k',yr,.run,yk,none⟩) { w with drawn:=w.drawn+1 }:=by
     have no:∀j,(Array.replicate ops.size false).getD j false=false:=fun j=>by
      rw [Array.getD_eq_getD_getElem?,Array.getElem?_replicate]
      split<;>rfl
     refine⟨hm.base,hm.wr.drew,Ext.refl _ _,Nat.le_refl _,rfl,by simp,fun i hi=>?_,fun i hi=>(by cases hi),fun i o _ hi=>?_,?_,rfl,fun t ht=>?_⟩
     ·rw [no] at hi;cases hi
     ·rw [no] at hi;cases hi
     ·rw [c2];exact h2.size.symm
     ·rw [c4 t fun j hjL hj=>by have:=ht j hjL hj;rw [no] at this;cases this]
      exact h2.getD t undef_R
    have hany:=tree_sound (P:=P) (B:=B) (w0:=w0) E wf (k:=fun A S'=>runZ E O n f0 ⟨xf,A.tmps,rest,xr,.run,xk,none⟩ cs S' k) (ρ0:=ρ) (S0:=S) (dfs:=yr) hcall ops.size ops.size [] L A S ρ _ _ _ hok h
     (by unfold unl;exact Nat.le_trans (List.countP_le_length ..) (by simp)) hinv
    have hwp:=wp_region_any (id:=id) hmix hany
    obtain⟨e,a2,w2,⟨he,A2,S2,ρ2,k1,k2,k3,k4,k5,k6,k7,k8⟩,harr⟩:=hwp ⟨xf,yt,.code (.region id ops true) :: k',yr,.run,yk,none⟩ k' (cs'++bs)
    subst he
    have hmr2:MR P B w0 ρ2 S2 ⟨xf,A2.tmps,rest,xr,.run,xk,none⟩ cs ⟨xf,a2.tmps,k',yr,.run,yk,none⟩ cs' w2 :=
     ⟨k5,k4,⟨rfl,k2,ht.imp fun _ _ h=>h.mono k6 k7,h4.imp fun _ _ h=>h.mono k6 k7,.run,h6,.none⟩,hm.cs.imp fun _ _ h=>h.mono k6 k7⟩
    obtain⟨w',ρ',v,v',S',frE,g0,g1,g2,g3,g4,g5,gp,g6,g7⟩:=ih (bs:=bs) hgd hmr2 k1
    refine⟨w',ρ',v,v',S',frE,g0,?_,g2,g3,k6.trans g4 k7,Nat.le_trans k7 g5,gp.trans k8,g6,g7⟩
    have harr':Steps P (lone ⟨xf,yt,.code (.region id ops true) :: k',yr,.run,yk,none⟩ (cs'++bs) w) (lone ⟨xf,a2.tmps,k',a2.defers,.run,yk,none⟩ (cs'++bs) w2):=harr
    rw [k3] at harr'
    exact Steps.trans harr' g1
   ·rename_i ops i is rest htodo
    split at h
    ·rename_i dst x ty pos after guard ho
     split at h
     ·rename_i hwant
      refine EndsC.of_goes (runStep_sound E hm hmode (f2:=fr.finish undef) (c2:=cs) (S2:=S) ?_) fun ρ' fr2' cs2' w' hm'=>ih hgd hm' h
      unfold runStepA
      rw [htodo]
      dsimp only
      rw [ho]
      dsimp only
      rw [hwant]
     ·rename_i hwant
      split at h
      ·rename_i m u0 S1 h0
       obtain⟨c,hc,hgo⟩:=next_goes (bs:=bs) hm hmode htodo ho hwant h0
       rw [List.all_eq_true] at h
       have:=h c (List.mem_range.2 hc)
       split at this
       ·rename_i m' u S' hr
        exact EndsC.of_goes (hgo m' u S' hr) fun ρ' fr2' cs2' w' hm'=>ih hgd hm' this
       ·cases this
      ·cases h
    ·exact plain hmode h
   ·exact plain hmode h
  ·
   rename_i hmode
   split at h
   ·rename_i hdef
    split at h
    case h_2=>cases h
    rename_i hfn hkind
    split at h
    case h_2=>cases h
    rename_i fn hf
    split at h
    case h_2=>cases h
    rename_i v S' hres
    have hfr:=hm.fr
    have hcs:=hm.cs
    obtain⟨xf,xt,xd,xr,xm,xk,xo⟩:=fr
    obtain⟨yf,yt,yd,yr,ym,yk,yo⟩:=fr'
    dsimp only at hmode hdef hkind hf hfn
    subst hmode hdef hkind
    obtain⟨h1,h2,h3,h4,h5,h6,h7⟩:=hfr
    dsimp only at h1 h2 h3 h4 h5 h6 h7
    subst h1
    cases h5
    cases h4
    cases h6
    cases hcs
    obtain⟨b,w',ρ',g1,g2,g3,gp,g4,g5,g6⟩:=sim_results (P:=P) (B:=B) (w0:=w0) (q:=true) fn h2 ρ S w (Ext.refl _ _) (Nat.le_refl _) hm.wr v _ hres
    obtain⟨rfl,rfl,rfl⟩:=g6 rfl
    exact⟨_,_,v,b,_,_,h,Steps.refl P _,⟨rfl,rfl,rfl,fn,hf,g1⟩,of_decide_eq_true hfn,g2,g3,gp,g4,g5⟩
   ·split at h
    case h_2=>cases h
    rename_i f c S1 hs
    exact EndsC.of_goes (leaveStep_sound E hm hmode hs) fun ρ' fr2' cs2' w' hm'=>ih hgd hm' h
  ·cases h
def idRen:Ren:=⟨fun i=>i,fun _=>0⟩
def S0 (N:Nat):AState:={ heap:=.nil,next:=N,prot:=N }
theorem start_base {N:Nat}(hN:P.globals.size+5=N):Base P idRen (S0 N).next:=⟨by rw [hN];exact Nat.le_refl _,fun _ _=>⟨rfl,rfl⟩⟩
theorem start_WR {N:Nat}{w:World}(hN:N≤w.heap.size):WR P w.heap.size w idRen (S0 N) w where
 below:=Below.refl _ _
 hB:=Nat.le_refl _
 rng:=fun i hi=>Nat.lt_of_lt_of_le hi hN
 own:=fun i h1 h2=>by unfold S0 at h1 h2;dsimp only at h1 h2;omega
 inj:=fun i j x y h1 _ _=>by unfold S0 at h1;cases h1
 obj:=fun i o h1=>by unfold S0 at h1;cases h1
theorem calls_of_runZ (E:Env P) (O:Orc P) (hmix:P.follows .mixedOrders=true) {N:Nat}(hN:P.globals.size+5=N) (fuel:Nat) (f:FuncId) (args:List Value) (hc:args.all (closedV 64)=true) {v:Value}
  (h:runF E O fuel f (enterF P f args.toArray .normal) [] (S0 N) (isV v)=true) (w:World) (hw:P.globals.size+5≤w.heap.size) (hgd:O.good w.heap.size w:=by trivial) :
  Calls P f args.toArray w fun e w'=>e=.returned v∧Below w.heap.size w w':=by
 rw [runF_eq,enterF_eq] at h
 intro cs0
 have ha:ArrR idRen (S0 N).next args.toArray args.toArray:=⟨rfl,fun i a b h1 h2=>by
  rw [h1] at h2
  cases h2
  exact closed_VR 64 a (arr_closed (x:=args.toArray) (by simpa using hc) h1)⟩
 have hmr:MR P w.heap.size w idRen (S0 N) (Frame.enter P f args.toArray .normal) [] (Frame.enter P f args.toArray .normal) [] w:=⟨start_base hN,start_WR (by omega),FR.enter f ha .normal,.nil⟩
 obtain⟨w',ρ',u,u',S',frE,g0,g1,g2,g3,g4,g5,gp,g6,g7⟩:=runZ_sound E O hmix fuel (bs:=cs0) hgd hmr h
 unfold isV at g0
 rw [Bool.and_eq_true] at g0
 have hu:=eqV_eq _ _ _ g0.2
 have hv':=g7.closed g0.1
 refine⟨.returned v,w',frE,⟨rfl,g6.below⟩,g1,g3,?_⟩
 rw [← hu,← hv']
 exact g2
def noOrc (P:Program):Orc P:=⟨fun _ _=>True,[],[],fun _ h=>(by cases h),fun _ h=>by cases h⟩
def noOrcG (P:Program) (g:Nat→World→Prop):Orc P:=⟨g,[],[],fun _ h=>(by cases h),fun _ h=>by cases h⟩
theorem Orc.more_ok (O:Orc P) {f:FuncId}{args:List Value}{v:Value}(hv:closedV 64 v=true)
  (h:∀(B:Nat) (w0 w:World),O.good B w0→Below B w0 w→B≤w.heap.size→P.globals.size+5≤w.heap.size→Calls P f args.toArray w fun e w'=>e=.returned v∧Below w.heap.size w w') :
  ∀x∈(f,args,v) :: O.tab,closedV 64 x.2.2=true∧∀(B:Nat) (w0 w:World),O.good B w0→Below B w0 w→B≤w.heap.size→P.globals.size+5≤w.heap.size→Calls P x.1 x.2.1.toArray w fun e w'=>e=.returned x.2.2∧Below w.heap.size w w':=by
 intro x hx
 rcases List.mem_cons.1 hx with rfl | hx
 ·exact⟨hv,h⟩
 ·exact O.ok x hx
noncomputable def isS (v:Value) (S:AState) (ids:List Nat):Value→AState→Bool:=fun u T=>eqV 64 u v && eqS (ids.foldl AState.kill T) S
theorem WR.kills {w:World}:∀(ids:List Nat) (S:AState),WR P B w0 ρ S w→WR P B w0 ρ (ids.foldl AState.kill S) w:=by
 intro ids
 induction ids with
 | nil=>intro S h;exact h
 | cons i l ih=>intro S h;exact ih _ (h.kill i)
theorem kills_next (ids:List Nat):∀(S:AState),(ids.foldl AState.kill S).next=S.next∧(ids.foldl AState.kill S).prot=S.prot:=by
 induction ids with
 | nil=>intro S;exact⟨rfl,rfl⟩
 | cons i l ih=>intro S;have:=ih (S.kill i);rw [List.foldl_cons,this.1,this.2,AState.kill_eq];exact⟨rfl,rfl⟩
theorem ans_of_runZ (E:Env P) (O:Orc P) (hmix:P.follows .mixedOrders=true) {fuel:Nat}{f:FuncId}{args:List Value}{S S':AState}{v:Value}{ids:List Nat}
  (h:runF E O fuel f (enterF P f args.toArray .normal) [] S (isS v S' ids)=true) (B:Nat) (w0:World) (ρ:Ren) (w:World) (args':Array Value) (hgd:O.good B w0) (hb:Base P ρ S.next) (hw:WR P B w0 ρ S w) (ha:ArrR ρ S.next args.toArray args') :
  Calls P f args' w (GivesM P B w0 ρ S v S'):=by
 rw [runF_eq,enterF_eq] at h
 intro cs0
 have hmr:MR P B w0 ρ S (Frame.enter P f args.toArray .normal) [] (Frame.enter P f args' .normal) [] w:=⟨hb,hw,FR.enter f ha .normal,.nil⟩
 obtain⟨w',ρ',u,u',T,frE,g0,g1,g2,g3,g4,g5,gp,g6,g7⟩:=runZ_sound E O hmix fuel (bs:=cs0) hgd hmr h
 unfold isS at g0
 rw [Bool.and_eq_true] at g0
 have hu:=eqV_eq _ _ _ g0.1
 have hT:=eqS_eq _ _ g0.2
 have hn:=kills_next ids T
 have hk:=WR.kills ids T g6
 rw [hT] at hn hk
 subst hu
 refine⟨.returned u',w',frE,⟨u',ρ',rfl,?_,hk,g4,?_,?_⟩,g1,g3,g2⟩
 ·rw [hn.1];exact g7
 ·rw [hn.1];exact g5
 ·rw [hn.2];exact gp
theorem Orc.mem_ok (O:Orc P) {x:Ans}(h:∀(B:Nat) (w0:World) (ρ:Ren) (w:World) (args':Array Value),O.good B w0→Base P ρ x.S.next→WR P B w0 ρ x.S w→ArrR ρ x.S.next x.args.toArray args'→Calls P x.f args' w (GivesM P B w0 ρ x.S x.v x.S')) :
  ∀y∈x :: O.mem,∀(B:Nat) (w0:World) (ρ:Ren) (w:World) (args':Array Value),O.good B w0→Base P ρ y.S.next→WR P B w0 ρ y.S w→ArrR ρ y.S.next y.args.toArray args'→Calls P y.f args' w (GivesM P B w0 ρ y.S y.v y.S'):=by
 intro y hy
 rcases List.mem_cons.1 hy with rfl | hy
 ·exact h
 ·exact O.memOk y hy
end
end Go.Eng
