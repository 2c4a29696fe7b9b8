/- The closed run of a Go program whose memory is known only up to a renaming of blocks: what it computes is true of every world and tape. No conditions. -/
import Derived.Test.YtbecggfbblnglaaGreatDoorEng3
import Derived.Deep.Quiet
import Derived.Orders
set_option linter.unusedSimpArgs false
set_option linter.unusedVariables false
set_option linter.deprecated false
set_option linter.unnecessarySimpa false
namespace Go.Eng
open Go Go.RowKit
def byteCells (s:ByteArray):Array Value:=s.data.map fun b=>.int .u8 b.toNat
noncomputable def toBytesA (P:Program) (src dst:TypeId) (v:Value) (S:AState):Option (Value×AState) :=
 match P.underlying src,P.underlying dst,v with
 | some .string,some (.slice e),.string s=>match P.underlying e,P.info? e with
  | some (.int .u8),some ti=>match decide (ti.size=1) with
   | true=>some (.slice (some ⟨S.next,0,none⟩) s.size s.size,S.push (.row (byteCells s) e 0 0 true))
   | false=>none
  | _,_=>none
 | some (.slice _),some (.slice e),.slice (some a) l c=>match Nat.beq src dst,P.underlying e with
  | true,some (.int .u8)=>match a.spot with
   | none=>match S.heap.get a.block with
    | some (.cells t m e' lo hi g)=>match Nat.ble S.prot a.block && Nat.beq lo hi with
     | true=>some (.slice (some a) l c,S.set a.block (.cells t m e' lo hi g))
     | false=>none
    | _=>none
   | some _=>none
  | _,_=>none
 | _,_,_=>none
def isToBytes (P:Program) (src dst:TypeId):Bool:=match P.underlying src,P.underlying dst with
 | some .string,some (.slice _)=>true
 | some (.slice _),some (.slice e)=>match Nat.beq src dst,P.underlying e with
  | true,some (.int .u8)=>true
  | _,_=>false
 | _,_=>false
noncomputable def stepOpA {P:Program}(E:Env P) (a:Act) (o:Oper) (S:AState):Option (Next×AState) :=
 match o.op with
 | .call { callee:=.builtin .append,args:=args,argTypes:=ts }=>match runA P (getVs a args.toList) S with
  | some (vs,_)=>match appendN P ts vs.toArray S with
   | some (v,S')=>some (.value v,S')
   | none=>none
  | none=>none
 | .convert src dst x=>match isToBytes P src dst with
  | true=>match runA P (getV a x) S with
   | some (v,_)=>match toBytesA P src dst v S with
    | some (v,S')=>some (.value v,S')
    | none=>none
   | none=>none
  | false=>runA P (opA E a o) S
 | _=>runA P (opA E a o) S
section
variable {P:Program}{B:Nat}{w0:World}{ρ:Ren}{n:Nat}
theorem getV_run {a a':Act}{S:AState}{w:World}(hw:WR P B w0 ρ S w) (hb:Base P ρ S.next) (ha:ArrR ρ S.next a.tmps a'.tmps) (x:Operand) {v:Value}{S1:AState}
  (h:runA P (getV a x) S=some (v,S1)):VR ρ S.next v (a'.eval x):=by
 have hs:Sim P B w0 true VRel ρ S.next ((getV a x).bind fun v=>Sem.pure v) (Sem.pure (a'.eval x)):=Sim.get hb ha x fun v hv=>Sim.pure mono_V hv
 obtain⟨b,w',ρ2,g1,g2,g3,gp,g4,g5,g6⟩:=hs ρ S w (Ext.refl _ _) (Nat.le_refl _) hw v S1 (by rw [runA_bind,h];rfl)
 obtain⟨rfl,rfl,rfl⟩:=g6 rfl
 simp only [Sem.run,Result.ok.injEq] at g1
 rw [g1.1]
 exact g5
theorem getVs_run {a a':Act}{S:AState}{w:World}(hw:WR P B w0 ρ S w) (hb:Base P ρ S.next) (ha:ArrR ρ S.next a.tmps a'.tmps) (l:List Operand) {vs:List Value}{S1:AState}
  (h:runA P (getVs a l) S=some (vs,S1)):LR (VR ρ S.next) vs (l.map a'.eval):=by
 have mono:Mono (fun ρ n x y=>LR (VR ρ n) x y):=fun _ _ _ _ _ _ h he hn=>h.imp fun _ _ h=>h.mono he hn
 have hs:Sim P B w0 true (fun ρ n x y=>LR (VR ρ n) x y) ρ S.next ((getVs a l).bind fun v=>Sem.pure v) (Sem.pure (l.map a'.eval)):=Sim.gets hb ha l fun v hv=>Sim.pure mono hv
 obtain⟨b,w',ρ2,g1,g2,g3,gp,g4,g5,g6⟩:=hs ρ S w (Ext.refl _ _) (Nat.le_refl _) hw vs S1 (by rw [runA_bind,h];rfl)
 obtain⟨rfl,rfl,rfl⟩:=g6 rfl
 simp only [Sem.run,Result.ok.injEq] at g1
 rw [g1.1]
 exact g5
theorem toBytes_sound {S:AState}{w:World}(hw:WR P B w0 ρ S w) (src dst:TypeId) {v u:Value}(hv:VR ρ S.next v u) {r:Value}{S':AState}(h:toBytesA P src dst v S=some (r,S')) :
  ∃r' w' ρ',(Go.convert src dst u).run P w=.ok r' w'∧Ext S.next ρ ρ'∧S.next≤S'.next∧S'.prot=S.prot∧WR P B w0 ρ' S' w'∧VR ρ' S'.next r r':=by
 unfold toBytesA at h
 split at h
 case h_3=>cases h
 case h_2 =>
  rename_i e0 e a l c hs hd
  split at h
  case h_2=>cases h
  rename_i he hu
  have he:src=dst:=Nat.eq_of_beq_eq_true he
  split at h
  case h_2=>cases h
  rename_i hspot
  split at h
  case h_2=>cases h
  rename_i t m e' lo hi g hget
  split at h
  case h_2=>cases h
  rename_i hcond
  simp only [Bool.and_eq_true,Nat.ble_eq,Nat.beq_eq] at hcond
  obtain⟨hprot,rfl⟩:=hcond
  simp only [Option.some.injEq,Prod.mk.injEq] at h
  obtain⟨rfl,rfl⟩:=h
  subst he
  have hee:e0=e:=by rw [hs] at hd;cases hd;rfl
  subst hee
  obtain⟨hlt,o',ho',hob⟩:=hw.obj _ _ hget
  have hblk:u=.slice (some (ρ.addr a)) l (c+ρ.d a.block):=by
   cases hv with
   | slice _ _ _ ha _=>rfl
   | tail b o k hb=>cases hspot
  subst hblk
  cases hob with
  | @cells _ _ c' _ _ _ lo' hi' _ _ hs1 hg1 hc1 hf1 hl1 =>
  let fz:Nat×Nat:=if lo' == hi' then (c'.size,c'.size+1) else (min lo' c'.size,max hi' (c'.size+1))
  let w':World:=w.freeze ⟨ρ.f a.block,c'.size,none⟩ 1
  have hrun:(Go.convert src src (.slice (some (ρ.addr a)) l (c+ρ.d a.block))).run P w=.ok (.slice (some (ρ.addr a)) l (c+ρ.d a.block)) w':=by
   unfold Go.convert
   simp only [bind_eq,Sem.run_bind',run_underlying_some hs,run_underlying_some hd,run_underlying_some hu,Result.andThen,beq_self_eq_true,markStringish,shape,freeze,pure_eq,Sem.bind,Sem.run]
   have h1:World.shape? w (ρ.addr a).block=some (e',c'.size):=by simp [World.shape?,Ren.addr,ho']
   rw [h1]
   simp only [Sem.bind,Sem.run]
   rfl
  have hat:w'.heap[ρ.f a.block]?=some (.cells c' e' fz):=by
   simp only [w',World.freeze,Nat.one_ne_zero,if_false,Array.getElem?_modify,if_true,ho',Option.map_some]
   rfl
  have hset:=hw.set (w':=w') (o2:=.cells t m e' lo lo g) (o2':=.cells c' e' fz) hget hprot (by
   have hfz:fz=(fz.1,fz.2):=rfl
   rw [hfz]
   refine .cells hs1 hg1 hc1 (fun o h1 h2 h3=>?_) ?_
   ·have hno:¬ (lo'≤o∧o<hi'):=fun⟨x,y⟩=>by have:=hf1 o h1 x y;omega
    simp only [fz] at h2 h3
    split at h2
    ·rename_i hq;simp only [hq,if_true] at h2 h3;omega
    ·rename_i hq
     simp only [hq,if_false] at h2 h3
     have hq:lo'≠hi':=by simpa using hq
     have hno2:=fun x y=>hf1 lo' x (Nat.le_refl _) y
     rcases Nat.lt_or_ge lo' c'.size with h4 | h4
     ·have:=hno2 h4 (by omega);omega
     ·omega
   ·simp only [fz];split<;>simp only<;>omega) (by simp [w',World.freeze]) (by simp [w',World.freeze]) (by simp [w',World.freeze]) (by simp [w',World.freeze]) hat (by
    intro k hk
    simp only [w',World.freeze,Nat.one_ne_zero,if_false,Array.getElem?_modify]
    rw [if_neg (fun h=>hk h.symm)])
  exact⟨_,w',ρ,hrun,Ext.refl _ _,by simp [AState.set_eq],by simp [AState.set_eq],hset,by simpa [AState.set_eq] using hv⟩
 rename_i e s hs hd
 split at h
 case h_2=>cases h
 rename_i ti he hi
 split at h
 case h_2=>cases h
 rename_i hsz
 have hsz:ti.size=1:=by simpa using hsz
 simp only [Option.some.injEq,Prod.mk.injEq] at h
 obtain⟨rfl,rfl⟩:=h
 cases hv
 have hge:=grownCap_ge w s.size 0 e
 have hcl:∀ρ' n',ArrR ρ' n' (byteCells s) (byteCells s):=by
  intro ρ' n'
  refine⟨rfl,fun i a b h1 h2=>?_⟩
  rw [h1] at h2
  cases h2
  unfold byteCells at h1
  rw [Array.getElem?_map,Option.map_eq_some_iff] at h1
  obtain⟨b,_,rfl⟩:=h1
  exact .int _ _
 have hbs:(byteCells s).size=s.size:=by unfold byteCells;rw [Array.size_map];rfl
 let cells:Array Value:=byteCells s++Array.replicate (grownCap w s.size 0 e-s.size) (.int .u8 0)
 have hcs:cells.size=grownCap w s.size 0 e:=by
  show (byteCells s++Array.replicate _ _).size=_
  rw [Array.size_append,Array.size_replicate,hbs];omega
 have hrun:(Go.convert src dst (.string s)).run P w=.ok (.slice (some ⟨w.heap.size,0,none⟩) s.size (grownCap w s.size 0 e))
   { w with drawn:=w.drawn+1,heap:=w.heap.push (.cells cells e (grownCap w s.size 0 e,grownCap w s.size 0 e+1)) }:=by
  unfold Go.convert
  simp only [bind_eq,Sem.run_bind',run_underlying_some hs,run_underlying_some hd,run_underlying_some he,Result.andThen]
  unfold Conv.stringToBytes
  simp only [bind_eq,pure_eq,Go.choose,Sem.bind,Sem.run,Question.forced,Bool.false_eq_true,if_false,newRow,newObj,markStringish,shape,freeze]
  have h1:(World.shape? { w with drawn:=w.drawn+1,heap:=w.heap.push (.cells cells e (0,0)) } w.heap.size)=some (e,grownCap w s.size 0 e):=by
   simp [World.shape?,hcs]
  show _=_
  have e1:(Question.appendCap s.size 0 e).cut (w.tape w.drawn (Question.appendCap s.size 0 e))=grownCap w s.size 0 e:=rfl
  rw [e1]
  have e2:(Array.map (fun b:UInt8=>Value.int IntKind.u8 (b.toNat:Int)) s.data++Array.replicate (grownCap w s.size 0 e-s.size) (Value.int IntKind.u8 0))=cells:=rfl
  rw [e2,h1]
  simp only [Sem.bind,Sem.run,World.freeze,Nat.one_ne_zero,if_false]
  congr 1
  congr 1
  apply Array.ext
  ·simp
  ·intro i h1 h2
   simp only [Array.getElem_modify,Array.getElem_push]
   split
   ·rename_i hi'
    subst hi'
    simp
   ·rename_i hi'
    split
    ·rfl
    ·rename_i h3
     simp at h1
     omega
 have hszOf:szOf P e=1:=by simp [szOf,hi,hsz]
 have hpush:=(hw.drew).push (o:=(.row (byteCells s) e 0 0 true)) (o':=.cells cells e (grownCap w s.size 0 e,grownCap w s.size 0 e+1)) (d:=grownCap w s.size 0 e-s.size)
  (w':={ w with drawn:=w.drawn+1,heap:=w.heap.push (.cells cells e (grownCap w s.size 0 e,grownCap w s.size 0 e+1)) }) rfl rfl rfl rfl (by
   refine .cells ?_ (fun h=>by cases h) (fun i u _ hu=>?_) (fun x h1 h2 _=>by omega) (Nat.le_succ _)
   ·rw [hcs,hbs,hszOf];omega
   ·rw [Tr.get_ofL _ _ _ (by simp),Array.getElem?_toList] at hu
    refine⟨u,?_,(hcl _ _).at_ i u u hu hu⟩
    have hlt:i<(byteCells s).size:=by
     rcases Nat.lt_or_ge i (byteCells s).size with h | h
     ·exact h
     ·rw [Array.getElem?_eq_none h] at hu;cases hu
    show (byteCells s++Array.replicate _ _)[i]?=_
    rw [Array.getElem?_append,if_pos hlt]
    exact hu)
 refine⟨_,_,_,hrun,ρ.upd_ext S.next w.heap.size (grownCap w s.size 0 e-s.size),by simp [AState.push_eq],rfl,hpush,?_⟩
 have:=VR.slice (ρ:=ρ.upd S.next w.heap.size (grownCap w s.size 0 e-s.size)) (n:=S.next+1) ⟨S.next,0,none⟩ s.size s.size (by simp) rfl
 simp only [Ren.upd,Ren.addr,if_true] at this
 rw [show s.size+(grownCap w s.size 0 e-s.size)=grownCap w s.size 0 e by omega] at this
 exact this
theorem stepOp_sound (E:Env P) {a a':Act}{S:AState}{w:World}(hw:WR P B w0 ρ S w) (hb:Base P ρ S.next) (ha:ArrR ρ S.next a.tmps a'.tmps) (o:Oper) {nx:Next}{S':AState}
  (h:stepOpA E a o S=some (nx,S')) :
  ∃nx' w' ρ',(execOp a'.eval o).run P w=.ok nx' w'∧Ext S.next ρ ρ'∧S.next≤S'.next∧S'.prot=S.prot∧WR P B w0 ρ' S' w'∧NextR ρ' S'.next nx nx':=by
 have gen:runA P (opA E a o) S=some (nx,S') →
   ∃nx' w' ρ',(execOp a'.eval o).run P w=.ok nx' w'∧Ext S.next ρ ρ'∧S.next≤S'.next∧S'.prot=S.prot∧WR P B w0 ρ' S' w'∧NextR ρ' S'.next nx nx':=by
  intro hr
  obtain⟨b,w',ρ2,g1,g2,g3,gp,g4,g5,_⟩:=sim_op (q:=false) E hb ha o (fun h=>by cases h) ρ S w (Ext.refl _ _) (Nat.le_refl _) hw nx S' hr
  exact⟨b,w',ρ2,g1,g2,g3,gp,g4,g5⟩
 obtain⟨dst,op,type,pos,after,guard⟩:=o
 unfold stepOpA at h
 dsimp only at h
 split at h
 ·rename_i args ts
  split at h
  case h_2=>cases h
  rename_i vs S1 hvs
  split at h
  case h_2=>cases h
  rename_i v S2 happ
  simp only [Option.some.injEq,Prod.mk.injEq] at h
  obtain⟨rfl,rfl⟩:=h
  have hx:ArrR ρ S.next vs.toArray (args.map a'.eval):=ArrR.of_LR (by simpa using getVs_run hw hb ha _ hvs)
  obtain⟨v',w',ρ',g1,g2,g3,g4,g5,g6⟩:=appendN_sound E hw ts type hx happ
  refine⟨.value v',w',ρ',?_,g2,g3,g4,g5,.value g6⟩
  have e:(execOp a'.eval { dst:=dst,op:=.call { callee:=.builtin .append,args:=args,argTypes:=ts },type:=type,pos:=pos,after:=after,guard:=guard }) =
    (Builtin.append_ ts type (args.map a'.eval)).bind fun v=>Sem.pure (.value v):=rfl
  rw [e,Sem.run_bind',g1]
  rfl
 ·rename_i src cdst x
  split at h
  ·split at h
   case h_2=>cases h
   rename_i v S1 hv
   split at h
   case h_2=>cases h
   rename_i v2 S2 ht
   simp only [Option.some.injEq,Prod.mk.injEq] at h
   obtain⟨rfl,rfl⟩:=h
   obtain⟨v',w',ρ',g1,g2,g3,g4,g5,g6⟩:=toBytes_sound hw src cdst (getV_run hw hb ha x hv) ht
   refine⟨.value v',w',ρ',?_,g2,g3,g4,g5,.value g6⟩
   have e:(execOp a'.eval { dst:=dst,op:=.convert src cdst x,type:=type,pos:=pos,after:=after,guard:=guard }) =
     (Go.convert src cdst (a'.eval x)).bind fun v=>Sem.pure (.value v):=rfl
   rw [e,Sem.run_bind',g1]
   rfl
  ·exact gen h
 ·exact gen h
end
end Go.Eng
namespace Go.Eng
open Go Go.RowKit
inductive ItemR (ρ:Ren) (n:Nat):Item→Item→Prop
 | code (c:Code):ItemR ρ n (.code c) (.code c)
 | inBlock (id:Nat):ItemR ρ n (.inBlock id) (.inBlock id)
 | inLoop (c:Code):ItemR ρ n (.inLoop c) (.inLoop c)
 | inScope (c:Code):ItemR ρ n (.inScope c) (.inScope c)
 | inRegion (ops:Array Oper) (l:List Nat):ItemR ρ n (.inRegion ops l) (.inRegion ops l)
 | inRangeFunc (l:Nat) (h:l<n):ItemR ρ n (.inRangeFunc l) (.inRangeFunc (ρ.f l))
 | endRangeFunc (l:Nat) (h:l<n):ItemR ρ n (.endRangeFunc l) (.endRangeFunc (ρ.f l))
 | beginRound:ItemR ρ n .beginRound .beginRound
inductive ModeR:FrameMode→FrameMode→Prop
 | run:ModeR .run .run
 | returning:ModeR .returning .returning
inductive KindR:CallKind→CallKind→Prop
 | normal:KindR .normal .normal
 | deferred:KindR .deferred .deferred
structure FR (ρ:Ren) (n:Nat) (x y:Frame):Prop where
 fn:x.fn=y.fn
 tmps:ArrR ρ n x.tmps y.tmps
 todo:LR (ItemR ρ n) x.todo y.todo
 defers:LR (DefR ρ n) x.defers y.defers
 mode:ModeR x.mode y.mode
 kind:KindR x.kind y.kind
 roundOf:OptR ρ n x.roundOf y.roundOf
theorem ItemR.mono {ρ ρ':Ren}{n n':Nat}{a b:Item}(h:ItemR ρ n a b) (he:Ext n ρ ρ') (hn:n≤n'):ItemR ρ' n' a b:=by
 cases h with
 | inRangeFunc l h=>rw [← (he l h).1];exact .inRangeFunc l (by omega)
 | endRangeFunc l h=>rw [← (he l h).1];exact .endRangeFunc l (by omega)
 | _=>constructor
theorem FR.mono {ρ ρ':Ren}{n n':Nat}{x y:Frame}(h:FR ρ n x y) (he:Ext n ρ ρ') (hn:n≤n'):FR ρ' n' x y :=
 ⟨h.fn,h.tmps.mono he hn,h.todo.imp fun _ _ h=>h.mono he hn,h.defers.imp fun _ _ h=>h.mono he hn,h.mode,h.kind,h.roundOf.mono he hn⟩
def actOf (fr:Frame):Act:=⟨fr.tmps,fr.defers⟩
theorem eval_act (fr:Frame):fr.eval=(actOf fr).eval:=by funext x;cases x<;>rfl
noncomputable def nextA (fr:Frame) (cs:List Frame) (P:Program) (nx:Next):Option (Frame×List Frame) :=
 match nx with
 | .value v=>some (fr.finish v,cs)
 | .skip=>some (fr.finish undef,cs)
 | .enter f args=>some (Frame.enter P f args .normal,fr :: cs)
 | .round l f tmps as body=>some (Frame.round l f tmps as body .normal,fr :: cs)
 | .defer d=>some ({ fr with defers:=d :: fr.defers }.finish undef,cs)
 | .recover=>match fr.roundOf with
  | none=>match fr.kind,cs with
   | .deferred,[]=>none
   | _,_=>some (fr.finish .nilIface,cs)
  | some _=>none
 | _=>none
def isDefer:Op→Bool
 | .defer _=>true
 | _=>false
noncomputable def returnA (fr:Frame) (cs:List Frame) (v:Value):Option (Frame×List Frame) :=
 match cs with
 | caller :: rest=>match fr.kind with
  | .normal=>some (caller.finish v,rest)
  | .deferred=>some (caller,rest)
  | _=>none
 | []=>none
noncomputable def leaveA (P:Program) (fr:Frame) (cs:List Frame) (S:AState) (jump:Option Code):Option (Frame×List Frame×AState) :=
 match fr.roundOf with
 | none=>none
 | some l=>match runA P (Instr.endRound l jump) S with
  | some (v,S')=>match returnA fr cs v with
   | some (f,c)=>some (f,c,S')
   | none=>none
  | none=>none
noncomputable def enterLoopA (fr:Frame) (params:Array Tmp) (assign body:Code) (S:AState):Option (Nat×List Deferred×AState) :=
 match fr.roundOf with
 | none=>some (S.next+1,[{ target:=.collected S.next,args:=#[] }],
   (S.push (.rest (.deferred (some [])))).push (.rest (.loop { state:=.ready,pending:=none,fn:=fr.fn,tmps:=fr.tmps,params,assign,body,defers:=S.next })))
 | some _=>none
noncomputable def runStepA {P:Program}(E:Env P) (fr:Frame) (cs:List Frame) (S:AState):Option (Frame×List Frame×AState) :=
 match fr.todo with
 | []=>match fr.roundOf with
  | none=>some ({ fr with mode:=.returning },cs,S)
  | some _=>leaveA P fr cs S none
 | .code .ret :: _=>match fr.roundOf with
  | none=>some ({ fr with mode:=.returning },cs,S)
  | some _=>leaveA P fr cs S (some .ret)
 | .code .skip :: k=>some ({ fr with todo:=k },cs,S)
 | .code (.label _) :: k=>some ({ fr with todo:=k },cs,S)
 | .inBlock _ :: k=>some ({ fr with todo:=k },cs,S)
 | .inScope _ :: k=>some ({ fr with todo:=k },cs,S)
 | .code (.seq a b) :: k=>some ({ fr with todo:=.code a :: .code b :: k },cs,S)
 | .code (.cond (.tmp t) thn els) :: k=>match fr.tmps.getD t undef with
  | .bool true=>some ({ fr with todo:=.code thn :: k },cs,S)
  | .bool false=>some ({ fr with todo:=.code els :: k },cs,S)
  | _=>none
 | .code (.cond (.const (.bool true)) thn _) :: k=>some ({ fr with todo:=.code thn :: k },cs,S)
 | .code (.cond (.const (.bool false)) _ els) :: k=>some ({ fr with todo:=.code els :: k },cs,S)
 | .code (.block id body) :: k=>some ({ fr with todo:=.code body :: .inBlock id :: k },cs,S)
 | .code (.loop body) :: k=>some ({ fr with todo:=.code body :: .inLoop body :: k },cs,S)
 | .inLoop body :: k=>some ({ fr with todo:=.code body :: .inLoop body :: k },cs,S)
 | .code (.scope body) :: k=>some ({ fr with todo:=.code body :: .inScope body :: k },cs,S)
 | .code (.exit id) :: k=>match exitTo id k with
  | some k'=>some ({ fr with todo:=k' },cs,S)
  | none=>leaveA P fr cs S (some (.exit id))
 | .code (.region _ ops false) :: k=>some ({ fr with todo:=.inRegion ops (List.range ops.size) :: k },cs,S)
 | .inRegion _ [] :: k=>some ({ fr with todo:=k },cs,S)
 | .inRegion ops (i :: _) :: _=>match ops[i]? with
  | none=>some (fr.finish undef,cs,S)
  | some o=>match Region.wanted o (yielded ops fr.tmps) with
   | false=>some (fr.finish undef,cs,S)
   | true=>match fr.roundOf.isSome && isDefer o.op with
    | true=>none
    | false=>match stepOpA E (actOf fr) o S with
     | some (nx,S')=>match nextA fr cs P nx with
      | some (f,c)=>some (f,c,S')
      | none=>none
     | none=>none
 | .code (.rangeFunc f params assign body) :: k=>match enterLoopA fr params assign body S with
  | some (l,mark,S1)=>match runA P ((getV (actOf fr) f).bind fun v=>(ofValueA v #[.func (.yield l) #[] #[]]).bind fun d=>invokeA E d.target d.args) S1 with
   | some (nx,S2)=>match nextA { fr with todo:=.inRangeFunc l :: k,defers:=mark++fr.defers } cs P nx with
    | some (f,c)=>some (f,c,S2)
    | none=>none
   | none=>none
  | none=>none
 | .endRangeFunc l :: k=>match runA P (Instr.endLoop l) S with
  | some (jump,S')=>some ({ fr with todo:=(jump.map Item.code).toList++k },cs,S')
  | none=>none
 | .beginRound :: k=>match fr.roundOf with
  | some l=>match runA P (Instr.beginRound l) S with
   | some (_,S')=>some ({ fr with todo:=k },cs,S')
   | none=>none
  | none=>none
 | _=>none
noncomputable def resultsA (fn:Func) (tmps:Array Value):Sem Value:=do
 let vs ← fn.results.mapM fun
  | .tmp t=>pure (tmps.getD t undef)
  | .cell a t=>do loadVarA t (← asAddr (tmps.getD a undef))
 pure (if h:vs.size=1 then vs[0] else .tuple vs)
noncomputable def leaveStepA {P:Program}(E:Env P) (fr:Frame) (cs:List Frame) (S:AState):Option (Frame×List Frame×AState) :=
 match fr.defers with
 | { target:=.collected block,args:=_ } :: ds=>match runA P (Instr.takeDeferred block) S with
  | some (calls,S')=>some ({ fr with defers:=calls++ds },cs,S')
  | none=>none
 | d :: ds=>match runA P (invokeA E d.target d.args) S with
  | some (.enter f args,S')=>some (Frame.enter P f args .deferred,{ fr with defers:=ds } :: cs,S')
  | _=>none
 | []=>match cs with
  | []=>none
  | _=>match P.funcs[fr.fn]? with
   | some fn=>match runA P (resultsA fn fr.tmps) S with
    | some (v,S')=>match returnA fr cs v with
     | some (f,c)=>some (f,c,S')
     | none=>none
    | none=>none
   | none=>none
section
variable {P:Program}{B:Nat}{w0:World}{q:Bool}{ρ:Ren}{n:Nat}
theorem sim_getLoop {l:Nat}(hl:l<n) {α β:Type}{R:Ren→Nat→α→β→Prop}{k:Loop→Sem α}{k':Loop→Sem β}
  (h:∀ρ' n' r r',Ext n ρ ρ'→n≤n'→(∀d,ObjR P ρ' n' d (.rest (.loop r)) (.loop r'))→Sim P B w0 q R ρ' n' (k r) (k' r')) :
  Sim P B w0 q R ρ n ((Instr.getLoop l).bind k) ((Instr.getLoop (ρ.f l)).bind k'):=by
 unfold Instr.getLoop
 simp only [bind_eq]
 rw [Sem.bind_assoc',Sem.bind_assoc']
 refine Sim.getObj hl fun ρ1 n1 d o o' h1 h2 hob=>?_
 cases hob with
 | loop a b c e f g h' i j=>exact h ρ1 n1 _ _ h1 h2 fun _=>.loop a b c e f g h' i j
 | _=>exact Sim.haltBind
theorem sim_endRound {l:Nat}(hl:l<n) (j:Option Code):Sim P B w0 false VRel ρ n (Instr.endRound l j) (Instr.endRound (ρ.f l) j):=by
 unfold Instr.endRound
 refine sim_getLoop hl fun ρ1 n1 r r' h1 h2 hr=>?_
 rw [← (h1 l hl).1]
 refine Sim.setObj (by omega) (fun d=>?_) (Sim.pure mono_V (.bool _))
 cases hr d with
 | loop hst hpe hfn ht hpa has hbo hd hd'=>exact .loop rfl rfl hfn ht hpa has hbo hd hd'
theorem sim_beginRound {l:Nat}(hl:l<n):Sim P B w0 false EqR ρ n (Instr.beginRound l) (Instr.beginRound (ρ.f l)):=by
 unfold Instr.beginRound
 refine sim_getLoop hl fun ρ1 n1 r r' h1 h2 hr=>?_
 rw [← (h1 l hl).1]
 have hst:r'.state=r.state:=by
  cases hr 0 with
  | loop hst _ _ _ _ _ _ _ _=>exact hst
 refine Sim.setObj (by omega) (fun d=>?_) ?_
 ·cases hr d with
  | loop hst hpe hfn ht hpa has hbo hd hd'=>exact .loop rfl hpe hfn ht hpa has hbo hd hd'
 ·rw [hst]
  cases r.state<;>first | exact Sim.pure mono_E rfl | exact Sim.rpanic
theorem sim_endLoop {l:Nat}(hl:l<n):Sim P B w0 false EqR ρ n (Instr.endLoop l) (Instr.endLoop (ρ.f l)):=by
 unfold Instr.endLoop
 refine sim_getLoop hl fun ρ1 n1 r r' h1 h2 hr=>?_
 rw [← (h1 l hl).1]
 have hst:r'.state=r.state∧r'.pending=r.pending:=by
  cases hr 0 with
  | loop hst hpe _ _ _ _ _ _ _=>exact⟨hst,hpe⟩
 rw [hst.1,hst.2]
 dsimp only
 split
 ·exact Sim.never fun S S' a hr=>by
   rw [bind_eq,runA_bind] at hr
   split at hr
   ·rename_i hh;exact runA_runtimePanic _ _ _ _ hh
   ·cases hr
 ·refine Sim.setObj (by omega) (fun d=>?_) (Sim.pure mono_E rfl)
  cases hr d with
  | loop hst hpe hfn ht hpa has hbo hd hd'=>exact .loop rfl rfl hfn ht hpa has hbo hd hd'
abbrev DsRel:Ren→Nat→List Deferred→List Deferred→Prop:=fun ρ n a b=>LR (DefR ρ n) a b
theorem mono_Ds:Mono DsRel:=fun _ _ _ _ _ _ h he hn=>h.imp fun _ _ h=>h.mono he hn
theorem sim_takeDeferred {b:Nat}(hb:b<n):Sim P B w0 false DsRel ρ n (Instr.takeDeferred b) (Instr.takeDeferred (ρ.f b)):=by
 unfold Instr.takeDeferred
 simp only [bind_eq,pure_eq]
 refine Sim.getObj hb fun ρ1 n1 d o o' h1 h2 hob=>?_
 rw [← (h1 b hb).1]
 cases hob with
 | deferred h=>exact Sim.setObj (by omega) (fun _=>.deferredNone) (Sim.pure mono_Ds h)
 | _=>exact Sim.halt
theorem sim_results (fn:Func) {x x':Array Value}(hx:ArrR ρ n x x'):Sim P B w0 q VRel ρ n (resultsA fn x) (results fn x'):=by
 unfold resultsA results
 refine Sim.bind (sim_mapM (R:=VRel) mono_V _ _ fn.results fun g _=>?_) fun ρ1 n1 a b h1 h2 hab=>Sim.pure mono_V ?_
 ·cases g with
  | tmp t=>exact Sim.pure mono_V (hx.getD t undef_R)
  | cell a t =>
   refine Sim.bind (sim_asAddr (hx.getD a undef_R)) fun ρ1 n1 a b h1 h2 hab=>?_
   rw [hab.2.2]
   exact sim_loadVar t hab.1
 ·have hA:ArrR ρ1 n1 a b:=⟨hab.1,hab.2⟩
  by_cases hs:a.size=1
  ·have hs':b.size=1:=by rw [← hA.size];exact hs
   rw [dif_pos hs,dif_pos hs']
   exact hA.at_ 0 _ _ (Array.getElem?_eq_getElem (by omega)) (Array.getElem?_eq_getElem (by omega))
  ·have hs':¬ b.size=1:=by rw [← hA.size];exact hs
   rw [dif_neg hs,dif_neg hs']
   exact .tuple hA.size hA.at_
end
end Go.Eng
namespace Go.Eng
open Go Go.RowKit
structure MR (P:Program) (B:Nat) (w0:World) (ρ:Ren) (S:AState) (fr:Frame) (cs:List Frame) (fr':Frame) (cs':List Frame) (w:World):Prop where
 base:Base P ρ S.next
 wr:WR P B w0 ρ S w
 fr:FR ρ S.next fr fr'
 cs:LR (FR ρ S.next) cs cs'
def Goes (P:Program) (B:Nat) (w0:World) (ρ:Ren) (S:AState) (fr':Frame) (cs' bs:List Frame) (w:World) (fr2:Frame) (cs2:List Frame) (S2:AState):Prop :=
 ∃fr2' cs2' w' ρ',step P (lone fr' (cs'++bs) w)=.next (lone fr2' (cs2'++bs) w')∧Ext S.next ρ ρ'∧S.next≤S2.next∧S2.prot=S.prot∧MR P B w0 ρ' S2 fr2 cs2 fr2' cs2' w'
section
variable {P:Program}{B:Nat}{w0:World}{ρ:Ren}{n:Nat}
theorem FR.finish {x y:Frame}{v v':Value}(h:FR ρ n x y) (hv:VR ρ n v v'):FR ρ n (x.finish v) (y.finish v'):=by
 obtain⟨xf,xt,xd,xr,xm,xk,xo⟩:=x
 obtain⟨yf,yt,yd,yr,ym,yk,yo⟩:=y
 obtain⟨h1,h2,h3,h4,h5,h6,h7⟩:=h
 dsimp only at h1 h2 h3 h4 h5 h6 h7
 unfold Frame.finish
 dsimp only
 cases h3 with
 | nil=>exact⟨h1,h2,.nil,h4,h5,h6,h7⟩
 | cons hi ht =>
  cases hi with
  | code c=>exact⟨h1,h2,.cons (.code c) ht,h4,h5,h6,h7⟩
  | inBlock c=>exact⟨h1,h2,.cons (.inBlock c) ht,h4,h5,h6,h7⟩
  | inLoop c=>exact⟨h1,h2,.cons (.inLoop c) ht,h4,h5,h6,h7⟩
  | inScope c=>exact⟨h1,h2,.cons (.inScope c) ht,h4,h5,h6,h7⟩
  | inRegion ops l =>
   cases l with
   | nil=>exact⟨h1,h2,.cons (.inRegion ops []) ht,h4,h5,h6,h7⟩
   | cons i r =>
    dsimp only
    cases (ops[i]?).bind (·.dst) with
    | none=>exact⟨h1,h2,.cons (.inRegion ops r) ht,h4,h5,h6,h7⟩
    | some d=>exact⟨h1,h2.set d hv,.cons (.inRegion ops r) ht,h4,h5,h6,h7⟩
  | inRangeFunc l hl=>exact⟨h1,h2,.cons (.endRangeFunc l hl) ht,h4,h5,h6,h7⟩
  | endRangeFunc l hl=>exact⟨h1,h2,.cons (.endRangeFunc l hl) ht,h4,h5,h6,h7⟩
  | beginRound=>exact⟨h1,h2,ht,h4,h5,h6,h7⟩
theorem arr_replicate (k:Nat):ArrR ρ n (Array.replicate k undef) (Array.replicate k undef):=by
 refine⟨rfl,fun i a b h1 h2=>?_⟩
 rw [h1] at h2
 cases h2
 rw [Array.getElem?_replicate] at h1
 split at h1
 ·cases h1;exact undef_R
 ·cases h1
theorem FR.enter (f:FuncId) {x x':Array Value}(h:ArrR ρ n x x') {k:CallKind}(hk:KindR k k):FR ρ n (Frame.enter P f x k) (Frame.enter P f x' k):=by
 unfold Frame.enter
 rw [← h.size]
 exact⟨rfl,h.append (arr_replicate _),.cons (.code _) .nil,.nil,.run,hk,.none⟩
theorem FR.round (l:Nat) (f:FuncId) {x x':Array Value}(as body:Code) (hl:l<n) (h:ArrR ρ n x x'):FR ρ n (Frame.round l f x as body .normal) (Frame.round (ρ.f l) f x' as body .normal) :=
 ⟨rfl,h,.cons (.code _) (.cons .beginRound (.cons (.code _) .nil)),.nil,.run,.normal,.some l hl⟩
theorem yielded_R (ops:Array Oper) {x x':Array Value}(h:ArrR ρ n x x'):yielded ops x=yielded ops x':=by
 funext j
 unfold yielded
 cases (ops[j]?).bind (·.dst) with
 | none=>rfl
 | some d =>
  simp only [Option.bind_some]
  rcases h.get? d with ⟨h1,h2⟩|⟨u,u',h1,h2,h3⟩
  ·rw [h1,h2]
  ·rw [h1,h2]
   cases h3<;>rfl
theorem exitTo_R (id:Nat) {k k':List Item}(h:LR (ItemR ρ n) k k'):(exitTo id k=none∧exitTo id k'=none)∨∃a b,exitTo id k=some a∧exitTo id k'=some b∧LR (ItemR ρ n) a b:=by
 induction h with
 | nil=>exact .inl ⟨rfl,rfl⟩
 | cons hi ht ih =>
  cases hi with
  | inBlock id' =>
   unfold exitTo
   split
   ·exact .inr ⟨_,_,rfl,rfl,ht⟩
   ·exact ih
  | _=>exact ih
theorem next_sound {fr fr':Frame}{cs cs':List Frame}{nx nx':Next}(hfr:FR ρ n fr fr') (hcs:LR (FR ρ n) cs cs') (hn:NextR ρ n nx nx') {f2:Frame}{c2:List Frame}
  (h:nextA fr cs P nx=some (f2,c2)):∃f2' c2',nextA fr' cs' P nx'=some (f2',c2')∧FR ρ n f2 f2'∧LR (FR ρ n) c2 c2':=by
 cases hn with
 | value hv=>cases h;exact⟨_,_,rfl,hfr.finish hv,hcs⟩
 | skip=>cases h;exact⟨_,_,rfl,hfr.finish undef_R,hcs⟩
 | enter f hx=>cases h;exact⟨_,_,rfl,.enter f hx .normal,.cons hfr hcs⟩
 | round l f as body hl hx=>cases h;exact⟨_,_,rfl,.round l f as body hl hx,.cons hfr hcs⟩
 | defer hd =>
  cases h
  refine⟨_,_,rfl,FR.finish ?_ undef_R,hcs⟩
  exact⟨hfr.fn,hfr.tmps,hfr.todo,.cons hd hfr.defers,hfr.mode,hfr.kind,hfr.roundOf⟩
 | recover =>
  unfold nextA at h ⊢
  have hr:=hfr.roundOf
  have hk:=hfr.kind
  have hfin:=hfr.finish (.nilIface)
  revert h hr hk hfin
  generalize fr.roundOf=a
  generalize fr'.roundOf=b
  generalize fr.kind=k
  generalize fr'.kind=k'
  generalize fr.finish .nilIface=x
  generalize fr'.finish .nilIface=y
  intro h hr hk hfin
  cases hr with
  | none =>
   cases hk with
   | normal=>cases hcs<;>(cases h;exact⟨_,_,rfl,hfin,by first | exact .nil | exact .cons (by assumption) (by assumption)⟩)
   | deferred =>
    cases hcs with
    | nil=>cases h
    | cons hc ht=>cases h;exact⟨_,_,rfl,hfin,.cons hc ht⟩
  | some r hl=>cases h
theorem apply_step {fr':Frame}{cs' bs:List Frame}{s:Sem Next}{nx':Next}{w w':World}{f2:Frame}{c2:List Frame}(hrun:s.run P w=.ok nx' w') (hn:nextA fr' cs' P nx'=some (f2,c2))
  (htodo:∀d r sv k,fr'.todo≠.call d true r sv :: k) (hk:KindR fr'.kind fr'.kind) (hcm:∀c∈cs',∀chain,c.mode≠.panicking chain) :
  (stepG.apply P true fr' (cs'++bs) none s w).bare=.go { frame:=f2,callers:=c2++bs,status:=.running,dying:=none } w':=by
 unfold stepG.apply
 simp only [Sem.runT_eq,if_true,hrun,GStep.bare_after]
 cases nx' with
 | value v=>cases hn;rfl
 | skip=>cases hn;rfl
 | enter f args =>
  cases hn
  rfl
 | round l f tmps as body=>cases hn;rfl
 | defer d=>cases hn;rfl
 | recover =>
  unfold nextA at hn
  cases hro:fr'.roundOf with
  | some l=>rw [hro] at hn;cases hn
  | none =>
   rw [hro] at hn
   have:tryRecover fr' (cs'++bs)=none∧f2=fr'.finish .nilIface∧c2=cs':=by
    unfold tryRecover
    cases hk':fr'.kind with
    | normal=>rw [hk'] at hn;cases hn;exact⟨rfl,rfl,rfl⟩
    | deferred =>
     rw [hk'] at hn
     cases cs' with
     | nil=>cases hn
     | cons c rest =>
      cases hn
      refine⟨?_,rfl,rfl⟩
      dsimp only [List.cons_append]
      cases hm:c.mode with
      | panicking chain=>exact absurd hm (hcm c (by simp) chain)
      | _=>rfl
    | _=>rw [hk'] at hk;cases hk
   obtain⟨h1,rfl,rfl⟩:=this
   simp only [h1]
   rfl
 | _=>cases hn
theorem ModeR.np {a b:FrameMode}(h:ModeR a b) (chain:List PanicEntry):b≠.panicking chain:=by
 cases h<;>(intro e;cases e)
theorem mode_cs {cs cs':List Frame}(h:LR (FR ρ n) cs cs'):∀c∈cs',∀chain,c.mode≠.panicking chain:=by
 induction h with
 | nil=>intro c hc;simp at hc
 | cons hf ht ih =>
  intro c hc chain
  rcases List.mem_cons.1 hc with rfl | hc
  ·exact hf.mode.np chain
  ·exact ih c hc chain
theorem KindR.self {a b:CallKind}(h:KindR a b):KindR b b:=by cases h<;>constructor
theorem goes_still {S:AState}{fr fr':Frame}{cs cs' bs:List Frame}{w:World}(hm:MR P B w0 ρ S fr cs fr' cs' w) {fr2 fr2':Frame}
  (hs:step P (lone fr' (cs'++bs) w)=.next (lone fr2' (cs'++bs) w)) (hf:FR ρ S.next fr2 fr2'):Goes P B w0 ρ S fr' cs' bs w fr2 cs S :=
 ⟨fr2',cs',w,ρ,hs,Ext.refl _ _,Nat.le_refl _,rfl,⟨hm.base,hm.wr,hf,hm.cs⟩⟩
theorem return_sound {fr fr':Frame}{cs cs' bs:List Frame}{v v':Value}{w:World}(hfr:FR ρ n fr fr') (hcs:LR (FR ρ n) cs cs') (hv:VR ρ n v v') {f2:Frame}{c2:List Frame}
  (h:returnA fr cs v=some (f2,c2)) :
  ∃f2' c2',doReturn P true fr' (cs'++bs) none v' w=.go { frame:=f2',callers:=c2'++bs,status:=.running,dying:=none } w∧FR ρ n f2 f2'∧LR (FR ρ n) c2 c2':=by
 cases hcs with
 | nil=>cases h
 | @cons c c' l l' hc ht =>
  unfold returnA at h
  have hk:=hfr.kind
  revert h hk
  unfold doReturn
  generalize fr.kind=k
  generalize fr'.kind=k'
  intro h hk
  cases hk with
  | normal =>
   cases h
   exact⟨_,_,rfl,hc.finish hv,ht⟩
  | deferred =>
   cases h
   refine⟨c',l',?_,hc,ht⟩
   have hm:∀chain,c'.mode≠.panicking chain:=mode_cs (.cons hc ht) c' (by simp)
   dsimp only [List.cons_append]
   cases hmm:c'.mode with
   | panicking chain=>exact absurd hmm (hm chain)
   | _=>rfl
end
end Go.Eng
namespace Go.Eng
open Go Go.RowKit
section
variable {P:Program}{B:Nat}{w0:World}{ρ:Ren}{n:Nat}
theorem getD_bool {x x':Array Value}(h:ArrR ρ n x x') (t:Nat) {b:Bool}(hb:x.getD t undef=.bool b):x'.getD t undef=.bool b:=by
 have:=h.getD t (d:=undef) undef_R
 rw [hb] at this
 generalize x'.getD t undef=y at this
 cases this
 rfl
theorem leave_sound {S:AState}{fr fr':Frame}{cs cs' bs:List Frame}{w:World}(hm:MR P B w0 ρ S fr cs fr' cs' w) (hmode:fr'.mode=.run) (jump:Option Code) {f2:Frame}{c2:List Frame}{S2:AState}
  (h:leaveA P fr cs S jump=some (f2,c2,S2))
  (hexec:∀l,fr'.roundOf=some l→stepG.exec P true true fr' (cs'++bs) none w=(let (r,es):=(Instr.endRound l jump).runT P w #[];GStep.after (seen P fr'.fn es) <| match r with
    | .ok v w=>doReturn P true fr' (cs'++bs) none v w
    | .halt _ w=>.ended (.stuck "range over a function: no such loop" (fr'.pos P)) w)):Goes P B w0 ρ S fr' cs' bs w f2 c2 S2:=by
 unfold leaveA at h
 cases hr:fr.roundOf with
 | none=>rw [hr] at h;cases h
 | some l =>
  rw [hr] at h
  dsimp only at h
  have hro:=hm.fr.roundOf
  rw [hr] at hro
  have hro':l<S.next∧fr'.roundOf=some (ρ.f l):=by
   revert hro
   generalize fr'.roundOf=b
   intro hro
   cases hro with
   | some _ hl=>exact⟨hl,rfl⟩
  obtain⟨hl,hr'⟩:=hro'
  split at h
  case h_2=>cases h
  rename_i v S1 hrun
  split at h
  case h_2=>cases h
  rename_i f c hret
  simp only [Option.some.injEq,Prod.mk.injEq] at h
  obtain⟨rfl,rfl,rfl⟩:=h
  obtain⟨b,w',ρ',g1,g2,g3,gp,g4,g5,_⟩:=sim_endRound (P:=P) (B:=B) (w0:=w0) hl jump ρ S w (Ext.refl _ _) (Nat.le_refl _) hm.wr v S1 hrun
  obtain⟨f2',c2',k1,k2,k3⟩:=return_sound (P:=P) (bs:=bs) (w:=w') (hm.fr.mono g2 g3) (hm.cs.imp fun _ _ h=>h.mono g2 g3) g5 hret
  refine⟨f2',c2',w',ρ',step_lone_go ?_,g2,g3,gp,⟨hm.base.mono g2 g3,g4,k2,k3⟩⟩
  have e:stepG P true { frame:=fr',callers:=cs'++bs,status:=.running,dying:=none } w=stepG.exec P true true fr' (cs'++bs) none w:=by
   unfold stepG
   simp [hmode]
  rw [e,hexec _ hr']
  simp only [Sem.runT_eq,g1,GStep.bare_after,k1]
  rfl
theorem runStep_sound (E:Env P) {S:AState}{fr fr':Frame}{cs cs' bs:List Frame}{w:World}(hm:MR P B w0 ρ S fr cs fr' cs' w) (hmode:fr.mode=.run) {f2:Frame}{c2:List Frame}{S2:AState}
  (h:runStepA E fr cs S=some (f2,c2,S2)):Goes P B w0 ρ S fr' cs' bs w f2 c2 S2:=by
 have hmode':fr'.mode=.run:=by
  have:=hm.fr.mode
  rw [hmode] at this
  revert this
  generalize fr'.mode=m
  intro h
  cases h
  rfl
 have hall:=hm
 obtain⟨xf,xt,xd,xr,xm,xk,xo⟩:=fr
 obtain⟨yf,yt,yd,yr,ym,yk,yo⟩:=fr'
 dsimp only at hmode hmode'
 subst hmode hmode'
 obtain⟨hbase,hwr,⟨h1,h2,h3,h4,h5,h6,h7⟩,hcs⟩:=hm
 dsimp only at h1 h2 h3 h4 h5 h6 h7
 subst h1
 have same:∀{d d':List Item},LR (ItemR ρ S.next) d d'→FR ρ S.next ⟨xf,xt,d,xr,.run,xk,xo⟩ ⟨xf,yt,d',yr,.run,yk,yo⟩:=fun hd=>⟨rfl,h2,hd,h4,.run,h6,h7⟩
 have ret:FR ρ S.next ⟨xf,xt,xd,xr,.returning,xk,xo⟩ ⟨xf,yt,yd,yr,.returning,yk,yo⟩:=⟨rfl,h2,h3,h4,.returning,h6,h7⟩
 unfold runStepA at h
 cases h3 with
 | nil =>
  dsimp only at h
  cases h7 with
  | none=>cases h;exact goes_still hall (step_lone_go (by simp [stepG,stepG.exec])) ret
  | some r hr =>
   refine leave_sound hall rfl none h (fun l hl=>?_)
   cases hl
   simp [stepG.exec]
   rfl
 | @cons i i' k k' hi ht =>
  cases hi with
  | inBlock id=>cases h;exact goes_still hall (step_lone_go (by simp [stepG,stepG.exec])) (same ht)
  | inScope c=>cases h;exact goes_still hall (step_lone_go (by simp [stepG,stepG.exec])) (same ht)
  | inLoop c=>cases h;exact goes_still hall (step_lone_go (by simp [stepG,stepG.exec])) (same (.cons (.code c) (.cons (.inLoop c) ht)))
  | inRangeFunc l hl=>cases h
  | beginRound =>
   dsimp only at h
   cases h7 with
   | none=>cases h
   | some l hl =>
    dsimp only at h
    split at h
    case h_2=>cases h
    rename_i u S1 hrun
    cases h
    obtain⟨b,w',ρ',g1,g2,g3,gp,g4,g5,_⟩:=sim_beginRound (P:=P) (B:=B) (w0:=w0) hl ρ S w (Ext.refl _ _) (Nat.le_refl _) hwr u _ hrun
    have hf2:=(same (d:=k) (d':=k') ht).mono g2 g3
    refine⟨⟨xf,yt,k',yr,.run,yk,some (ρ.f l)⟩,cs',w',ρ',step_lone_go ?_,g2,g3,gp,⟨hbase.mono g2 g3,g4,hf2,hcs.imp fun _ _ h=>h.mono g2 g3⟩⟩
    have hsem:(Functor.map (fun (_:Unit)=>Next.skip) (Instr.beginRound (ρ.f l))).run P w=.ok .skip w':=by rw [map_eq_pure_bind,bind_eq,Sem.run_bind',g1];rfl
    have:=apply_step (P:=P) (fr':=⟨xf,yt,.beginRound :: k',yr,.run,yk,some (ρ.f l)⟩) (cs':=cs') (bs:=bs) hsem (f2:=⟨xf,yt,k',yr,.run,yk,some (ρ.f l)⟩) (c2:=cs') rfl (fun _ _ _ _ h=>by cases h) h6.self (mode_cs hcs)
    simpa [stepG,stepG.exec] using this
  | endRangeFunc l hl =>
   dsimp only at h
   split at h
   case h_2=>cases h
   rename_i j S1 hrun
   cases h
   obtain⟨b,w',ρ',g1,g2,g3,gp,g4,g5,_⟩:=sim_endLoop (P:=P) (B:=B) (w0:=w0) hl ρ S w (Ext.refl _ _) (Nat.le_refl _) hwr j _ hrun
   cases g5
   have hj:LR (ItemR ρ S.next) ((j.map Item.code).toList++k) ((j.map Item.code).toList++k'):=by
    cases j with
    | none=>exact ht
    | some c=>exact .cons (.code c) ht
   refine⟨⟨xf,yt,(j.map Item.code).toList++k',yr,.run,yk,yo⟩,cs',w',ρ',step_lone_go ?_,g2,g3,gp,⟨hbase.mono g2 g3,g4,(same hj).mono g2 g3,hcs.imp fun _ _ h=>h.mono g2 g3⟩⟩
   simp [stepG,stepG.exec,Sem.runT_eq,g1]
  | inRegion ops l =>
   cases l with
   | nil=>cases h;exact goes_still hall (step_lone_go (by simp [stepG,stepG.exec])) (same ht)
   | cons i r =>
    dsimp only at h
    have hy:=yielded_R ops h2
    cases ho:ops[i]? with
    | none =>
     rw [ho] at h
     cases h
     refine goes_still hall (step_lone_go ?_) (hall.fr.finish undef_R)
     simp [stepG,stepG.exec,ho]
    | some o =>
     rw [ho] at h
     dsimp only at h
     cases hwant:Region.wanted o (yielded ops xt) with
     | false =>
      rw [hwant] at h
      cases h
      refine goes_still hall (step_lone_go ?_) (hall.fr.finish undef_R)
      simp [stepG,stepG.exec,ho,← hy,hwant]
     | true =>
      rw [hwant] at h
      dsimp only at h
      split at h
      ·cases h
      ·rename_i hnd
       split at h
       case h_2=>cases h
       rename_i nx S1 hop
       split at h
       case h_2=>cases h
       rename_i f c hnx
       cases h
       obtain⟨nx',w',ρ',g1,g2,g3,gp,g4,g5⟩:=stepOp_sound E (a:=actOf ⟨xf,xt,.inRegion ops (i :: r) :: k,xr,.run,xk,xo⟩) (a':=actOf ⟨xf,yt,.inRegion ops (i :: r) :: k',yr,.run,yk,yo⟩) hwr hbase h2 o hop
       obtain⟨f2',c2',k1,k2,k3⟩:=next_sound (P:=P) (hall.fr.mono g2 g3) (hcs.imp fun _ _ h=>h.mono g2 g3) g5 hnx
       refine⟨f2',c2',w',ρ',step_lone_go ?_,g2,g3,gp,⟨hbase.mono g2 g3,g4,k2,k3⟩⟩
       have hap:=apply_step (P:=P) (bs:=bs) g1 k1 (fun _ _ _ _ h=>by cases h) h6.self (mode_cs hcs)
       rw [← hap]
       have hex:stepG P true { frame:=⟨xf,yt,.inRegion ops (i :: r) :: k',yr,.run,yk,yo⟩,callers:=cs'++bs,status:=.running,dying:=none } w =
         stepG.oper P true ⟨xf,yt,.inRegion ops (i :: r) :: k',yr,.run,yk,yo⟩ (cs'++bs) none w:=by
        simp [stepG,stepG.exec,ho,← hy,hwant]
       rw [hex]
       unfold stepG.oper
       simp only [Frame.oper?,ho]
       have hre:∀l c,¬ (yo=some l∧o.op=.defer c):=by
        intro l c ⟨e1,e2⟩
        rw [e2] at hnd
        cases h7 with
        | none=>cases e1
        | some r hr=>simp [isDefer] at hnd
       rw [eval_act]
       cases hyo:yo with
       | none=>rfl
       | some l =>
        cases hop':o.op with
        | defer c=>exact absurd ⟨hyo,hop'⟩ (hre l c)
        | _=>rfl
  | code c =>
   cases c with
   | skip=>cases h;exact goes_still hall (step_lone_go (by simp [stepG,stepG.exec])) (same ht)
   | label l=>cases h;exact goes_still hall (step_lone_go (by simp [stepG,stepG.exec])) (same ht)
   | seq a b=>cases h;exact goes_still hall (step_lone_go (by simp [stepG,stepG.exec])) (same (.cons (.code a) (.cons (.code b) ht)))
   | block id b=>cases h;exact goes_still hall (step_lone_go (by simp [stepG,stepG.exec])) (same (.cons (.code b) (.cons (.inBlock id) ht)))
   | loop b=>cases h;exact goes_still hall (step_lone_go (by simp [stepG,stepG.exec])) (same (.cons (.code b) (.cons (.inLoop b) ht)))
   | scope b=>cases h;exact goes_still hall (step_lone_go (by simp [stepG,stepG.exec])) (same (.cons (.code b) (.cons (.inScope b) ht)))
   | ret =>
    dsimp only at h
    cases h7 with
    | none=>cases h;exact goes_still hall (step_lone_go (by simp [stepG,stepG.exec])) ret
    | some r hr =>
     refine leave_sound hall rfl (some .ret) h (fun l hl=>?_)
     cases hl
     simp [stepG.exec]
     rfl
   | exit id =>
    dsimp only at h
    rcases exitTo_R id ht with ⟨e1,e2⟩|⟨a,b,e1,e2,e3⟩
    ·rw [e1] at h
     refine leave_sound hall rfl (some (.exit id)) h (fun l hl=>?_)
     cases hl
     simp [stepG.exec,e2]
     rfl
    ·rw [e1] at h
     cases h
     exact goes_still hall (step_lone_go (by simp [stepG,stepG.exec,e2])) (same e3)
   | cond c thn els =>
    cases c with
    | tmp t =>
     dsimp only at h
     split at h
     ·rename_i hb
      cases h
      have:=getD_bool h2 t hb
      exact goes_still hall (step_lone_go (by simp [stepG,stepG.exec,Frame.eval,this] )) (same (.cons (.code thn) ht))
     ·rename_i hb
      cases h
      have:=getD_bool h2 t hb
      exact goes_still hall (step_lone_go (by simp [stepG,stepG.exec,Frame.eval,this] )) (same (.cons (.code els) ht))
     ·cases h
    | const v =>
     cases v with
     | bool b =>
      cases b with
      | true=>cases h;exact goes_still hall (step_lone_go (by simp [stepG,stepG.exec,Frame.eval])) (same (.cons (.code thn) ht))
      | false=>cases h;exact goes_still hall (step_lone_go (by simp [stepG,stepG.exec,Frame.eval])) (same (.cons (.code els) ht))
     | _=>cases h
    | _=>cases h
   | region id ops draw =>
    cases draw with
    | true=>cases h
    | false=>cases h;exact goes_still hall (step_lone_go (by simp [stepG,stepG.exec])) (same (.cons (.inRegion ops _) ht))
   | rangeFunc f params assign body =>
    dsimp only at h
    unfold enterLoopA at h
    cases h7 with
    | some r hr=>cases h
    | none =>
     dsimp only at h
     split at h
     case h_2=>cases h
     rename_i nx S3 hop
     split at h
     case h_2=>cases h
     rename_i f3 c3 hnx
     cases h
     have hw1:=hwr.push (o:=(.rest (.deferred (some [])))) (o':=.deferred (some [])) (d:=0) (w':={ w with heap:=w.heap.push (.deferred (some [])) }) rfl rfl rfl rfl (.deferred .nil)
     have he1:=ρ.upd_ext S.next w.heap.size 0
     have hw2:=hw1.push (o:=.rest (.loop { state:=.ready,pending:=none,fn:=xf,tmps:=xt,params,assign,body,defers:=S.next }))
      (o':=.loop { state:=.ready,pending:=none,fn:=xf,tmps:=yt,params,assign,body,defers:=w.heap.size }) (d:=0)
      (w':={ w with heap:=(w.heap.push (.deferred (some []))).push (.loop { state:=.ready,pending:=none,fn:=xf,tmps:=yt,params,assign,body,defers:=w.heap.size }) }) rfl rfl rfl rfl (by
       refine .loop rfl rfl rfl ?_ rfl rfl rfl ?_ ?_
       ·exact (h2.mono he1 (show S.next≤S.next+1 by omega)).mono (Ren.upd_ext _ _ _ _) (by simp [AState.push_eq])
       ·show S.next<S.next+1+1;omega
       ·simp [AState.push_eq,Ren.upd])
     have he2:=(ρ.upd S.next w.heap.size 0).upd_ext (S.next+1) (w.heap.size+1) 0
     have hsz:(w.heap.push (.deferred (some []))).size=w.heap.size+1:=by simp
     have hnx1:(S.push (.rest (.deferred (some [])))).next=S.next+1:=rfl
     simp only [hnx1,hsz] at hw2
     have he:Ext S.next ρ ((ρ.upd S.next w.heap.size 0).upd (S.next+1) (w.heap.size+1) 0):=he1.trans he2 (by omega)
     have hbase2:=hbase.mono he (show S.next≤S.next+2 by omega)
     have hf2:FR ((ρ.upd S.next w.heap.size 0).upd (S.next+1) (w.heap.size+1) 0) (S.next+2)
       ⟨xf,xt,.inRangeFunc (S.next+1) :: k,[{ target:=.collected S.next,args:=#[] }]++xr,.run,xk,none⟩
       ⟨xf,yt,.inRangeFunc (w.heap.size+1) :: k',[{ target:=.collected w.heap.size,args:=#[] }]++yr,.run,yk,none⟩:=by
      have hle:S.next≤S.next+2:=by omega
      refine⟨rfl,h2.mono he hle,.cons ?_ (ht.imp fun _ _ h=>h.mono he hle),.cons ⟨?_,ArrR.nil⟩ (h4.imp fun _ _ h=>h.mono he hle),.run,h6,.none⟩
      ·have:=ItemR.inRangeFunc (ρ:=(ρ.upd S.next w.heap.size 0).upd (S.next+1) (w.heap.size+1) 0) (n:=S.next+2) (S.next+1) (by omega)
       simpa [Ren.upd] using this
      ·have:=TargetR.collected (ρ:=(ρ.upd S.next w.heap.size 0).upd (S.next+1) (w.heap.size+1) 0) (n:=S.next+2) S.next (by omega)
       simpa [Ren.upd] using this
     have hyv:ArrR ((ρ.upd S.next w.heap.size 0).upd (S.next+1) (w.heap.size+1) 0) (S.next+2) #[.func (.yield (S.next+1)) #[] #[]] #[.func (.yield (w.heap.size+1)) #[] #[]]:=by
      have:=VR.func (ρ:=(ρ.upd S.next w.heap.size 0).upd (S.next+1) (w.heap.size+1) 0) (n:=S.next+2) (.yield (S.next+1) (by omega)) (rfl:(#[]:Array Value).size=0) (fun i v v' h _=>by simp at h) (rfl:(#[]:Array Value).size=0) (fun i v v' h _=>by simp at h) (x':=#[]) (y':=#[])
      have e:((ρ.upd S.next w.heap.size 0).upd (S.next+1) (w.heap.size+1) 0).f (S.next+1)=w.heap.size+1:=by simp [Ren.upd]
      rw [e] at this
      simpa using (ArrR.nil (ρ:=(ρ.upd S.next w.heap.size 0).upd (S.next+1) (w.heap.size+1) 0) (n:=S.next+2)).push this
     have hsim:Sim P B w0 false NRel ((ρ.upd S.next w.heap.size 0).upd (S.next+1) (w.heap.size+1) 0) (S.next+2)
       ((getV (actOf ⟨xf,xt,.code (.rangeFunc f params assign body) :: k,xr,.run,xk,none⟩) f).bind fun v=>(ofValueA v #[.func (.yield (S.next+1)) #[] #[]]).bind fun d=>invokeA E d.target d.args)
       ((Deferred.ofValue ((actOf ⟨xf,yt,.code (.rangeFunc f params assign body) :: k',yr,.run,yk,none⟩).eval f) #[.func (.yield (w.heap.size+1)) #[] #[]]).bind fun d=>invoke d.target d.args):=by
      refine Sim.get (a':=actOf ⟨xf,yt,.code (.rangeFunc f params assign body) :: k',yr,.run,yk,none⟩) hbase2 (h2.mono he (show S.next≤S.next+2 by omega)) f fun v hv=>?_
      refine Sim.bind (sim_ofValue hv hyv) fun ρ1 n1 d d' e1 e2 hd=>?_
      exact sim_invoke E (hbase2.mono e1 e2) hd.target hd.args
     obtain⟨nx',w',ρ',g1,g2,g3,gp,g4,g5,_⟩:=hsim _ _ _ (Ext.refl _ _) (by simp [AState.push_eq]) hw2 nx _ hop
     have g2':Ext (S.next+2) ((ρ.upd S.next w.heap.size 0).upd (S.next+1) (w.heap.size+1) 0) ρ':=g2
     have g3':S.next+2≤S2.next:=g3
     obtain⟨f2',c2',k1,k2,k3⟩:=next_sound (P:=P) (hf2.mono g2' g3') (hcs.imp fun _ _ h=>(h.mono he (show S.next≤S.next+2 by omega)).mono g2' g3') g5 hnx
     refine⟨f2',c2',w',ρ',step_lone_go ?_,he.trans g2' (by omega),by omega,gp,⟨hbase2.mono g2' g3',g4,k2,k3⟩⟩
     have hap:=apply_step (P:=P) (bs:=bs) g1 k1 (fun _ _ _ _ h=>by cases h) h6.self (mode_cs hcs)
     rw [← hap]
     have hen:(Instr.enterLoop xf yt params assign body none).run P w=.ok (w.heap.size+1,[{ target:=.collected w.heap.size,args:=#[] }])
       { w with heap:=(w.heap.push (.deferred (some []))).push (.loop { state:=.ready,pending:=none,fn:=xf,tmps:=yt,params,assign,body,defers:=w.heap.size }) }:=by
      simp [Instr.enterLoop,newObj,bind_eq,pure_eq,Sem.bind,Sem.run]
     have hex:stepG P true { frame:=⟨xf,yt,.code (.rangeFunc f params assign body) :: k',yr,.run,yk,none⟩,callers:=cs'++bs,status:=.running,dying:=none } w =
       stepG.exec P true true ⟨xf,yt,.code (.rangeFunc f params assign body) :: k',yr,.run,yk,none⟩ (cs'++bs) none w:=by
      unfold stepG
      rfl
     rw [hex]
     simp only [stepG.exec,Sem.runT_eq,hen,GStep.bare_after]
     have hres:∀(v:Value) (t:List Item) (d:List Deferred),resolve (Frame.eval ⟨xf,yt,t,d,.run,yk,none⟩) { callee:=.value f,args:=#[.const v],argTypes:=#[] } 0 =
       Deferred.ofValue ((actOf ⟨xf,yt,.code (.rangeFunc f params assign body) :: k',yr,.run,yk,none⟩).eval f) #[v]:=by
      intro v t d
      unfold resolve
      have e:Array.map (Frame.eval ⟨xf,yt,t,d,.run,yk,none⟩) #[.const v]=#[v]:=by simp [Frame.eval]
      dsimp only
      rw [e]
      cases f<;>rfl
     rw [hres]
     rfl
   | _=>cases h
end
end Go.Eng
namespace Go.Eng
open Go Go.RowKit
section
variable {P:Program}{B:Nat}{w0:World}{ρ:Ren}{n:Nat}
theorem leaveStep_sound (E:Env P) {S:AState}{fr fr':Frame}{cs cs' bs:List Frame}{w:World}(hm:MR P B w0 ρ S fr cs fr' cs' w) (hmode:fr.mode=.returning) {f2:Frame}{c2:List Frame}{S2:AState}
  (h:leaveStepA E fr cs S=some (f2,c2,S2)):Goes P B w0 ρ S fr' cs' bs w f2 c2 S2:=by
 have hmode':fr'.mode=.returning:=by
  have:=hm.fr.mode
  rw [hmode] at this
  revert this
  generalize fr'.mode=m
  intro h
  cases h
  rfl
 obtain⟨xf,xt,xd,xr,xm,xk,xo⟩:=fr
 obtain⟨yf,yt,yd,yr,ym,yk,yo⟩:=fr'
 dsimp only at hmode hmode'
 subst hmode hmode'
 have hall:=hm
 obtain⟨hbase,hwr,⟨h1,h2,h3,h4,h5,h6,h7⟩,hcs⟩:=hm
 dsimp only at h1 h2 h3 h4 h5 h6 h7
 subst h1
 unfold leaveStepA at h
 have top:∀(yr:List Deferred),stepG P true { frame:=⟨xf,yt,yd,yr,.returning,yk,yo⟩,callers:=cs'++bs,status:=.running,dying:=none } w =
   unwind P true ⟨xf,yt,yd,yr,.returning,yk,yo⟩ (cs'++bs) none w:=fun _=>rfl
 cases h4 with
 | nil =>
  dsimp only at h
  cases cs with
  | nil=>cases h
  | cons c cs =>
   dsimp only at h
   split at h
   case h_2=>cases h
   rename_i fn hfn
   split at h
   case h_2=>cases h
   rename_i v S1 hrun
   split at h
   case h_2=>cases h
   rename_i f3 c3 hret
   cases h
   obtain⟨b,w',ρ',g1,g2,g3,gp,g4,g5,_⟩:=sim_results (P:=P) (B:=B) (w0:=w0) (q:=false) fn h2 ρ S w (Ext.refl _ _) (Nat.le_refl _) hwr v _ hrun
   obtain⟨f2',c2',k1,k2,k3⟩:=return_sound (P:=P) (bs:=bs) (w:=w') (hall.fr.mono g2 g3) (hcs.imp fun _ _ h=>h.mono g2 g3) g5 hret
   refine⟨f2',c2',w',ρ',step_lone_go ?_,g2,g3,gp,⟨hbase.mono g2 g3,g4,k2,k3⟩⟩
   rw [top]
   simp only [unwind,hfn,Sem.runT_eq,g1,GStep.bare_after,k1]
   rfl
 | @cons d d' ds ds' hd ht =>
  obtain⟨dt,da⟩:=d
  obtain⟨dt',da'⟩:=d'
  obtain⟨hdt,hda⟩:=hd
  dsimp only at hdt hda
  cases hdt with
  | collected r hr =>
   dsimp only at h
   split at h
   case h_2=>cases h
   rename_i calls S1 hrun
   cases h
   obtain⟨b,w',ρ',g1,g2,g3,gp,g4,g5,_⟩:=sim_takeDeferred (P:=P) (B:=B) (w0:=w0) hr ρ S w (Ext.refl _ _) (Nat.le_refl _) hwr calls _ hrun
   have happ:∀{a b:List Deferred},LR (DefR ρ' S2.next) a b→LR (DefR ρ' S2.next) (a++ds) (b++ds'):=by
    intro a b h
    induction h with
    | nil=>exact ht.imp fun _ _ h=>h.mono g2 g3
    | cons h _ ih=>exact .cons h ih
   refine⟨⟨xf,yt,yd,b++ds',.returning,yk,yo⟩,cs',w',ρ',step_lone_go ?_,g2,g3,gp,
    ⟨hbase.mono g2 g3,g4,⟨rfl,h2.mono g2 g3,h3.imp fun _ _ h=>h.mono g2 g3,happ g5,.returning,h6,h7.mono g2 g3⟩,hcs.imp fun _ _ h=>h.mono g2 g3⟩⟩
   rw [top]
   simp only [unwind,Sem.runT_eq,g1,GStep.bare_after]
   rfl
  | fn hf hx =>
   dsimp only at h
   split at h
   case h_2=>cases h
   rename_i f args S1 hrun
   cases h
   obtain⟨b,w',ρ',g1,g2,g3,gp,g4,g5,_⟩:=sim_invoke (P:=P) (B:=B) (w0:=w0) (q:=false) E hbase (.fn hf hx) hda ρ S w (Ext.refl _ _) (Nat.le_refl _) hwr _ _ hrun
   cases g5 with
   | enter _ hargs =>
    rename_i args'
    have hfr2:FR ρ' S2.next ⟨xf,xt,xd,ds,.returning,xk,xo⟩ ⟨xf,yt,yd,ds',.returning,yk,yo⟩ :=
     ⟨rfl,h2.mono g2 g3,h3.imp fun _ _ h=>h.mono g2 g3,ht.imp fun _ _ h=>h.mono g2 g3,.returning,h6,h7.mono g2 g3⟩
    refine⟨Frame.enter P f args' .deferred,⟨xf,yt,yd,ds',.returning,yk,yo⟩ :: cs',w',ρ',step_lone_go ?_,g2,g3,gp,
     ⟨hbase.mono g2 g3,g4,.enter f hargs .deferred,.cons hfr2 (hcs.imp fun _ _ h=>h.mono g2 g3)⟩⟩
    rw [top]
    simp only [unwind,callDeferred,Sem.runT_eq,g1]
    simp
theorem put_defers (a:Act) (d:Option Tmp) (v:Value):(a.put d v).defers=a.defers:=by cases d<;>rfl
end
end Go.Eng
namespace Go.Eng
open Go Go.RowKit
theorem getVs_congr {a a':Act}:∀{l:List Operand},(∀x∈l,getV a x=getV a' x)→getVs a l=getVs a' l
 | [],_=>rfl
 | x :: l,h=>by
  unfold getVs
  rw [h x (by simp),getVs_congr (l:=l) fun y hy=>h y (by simp [hy])]
theorem getPs_congr {a a':Act}:∀{l:List (Nat×Operand)},(∀x∈l,getV a x.2=getV a' x.2)→getPs a l=getPs a' l
 | [],_=>rfl
 | x :: l,h=>by
  unfold getPs
  rw [h x (by simp),getPs_congr (l:=l) fun y hy=>h y (by simp [hy])]
theorem getO_congr {a a':Act}{x:Option Operand}(h:∀y,x=some y→getV a y=getV a' y):getO a x=getO a' x:=by
 cases x with
 | none=>rfl
 | some y=>unfold getO;dsimp only;rw [h y rfl]
theorem callA_congr {P:Program}(E:Env P) {a a':Act}(c:Call) (h:∀x∈c.operands,getV a x=getV a' x):callA E a c=callA E a' c:=by
 have hargs:getVs a c.args.toList=getVs a' c.args.toList:=getVs_congr fun x hx=>h x (by simp at hx;simp [Call.operands,hx])
 unfold callA
 cases hc:c.callee with
 | value f=>simp only [hargs,h f (by simp [Call.operands,hc])]
 | invoke r m=>simp only [hargs,h r (by simp [Call.operands,hc])]
 | builtin b=>cases b<;>simp only [hargs]
theorem deferA_congr {a a':Act}(c:Call) (h:∀x∈c.operands,getV a x=getV a' x):deferA a c=deferA a' c:=by
 have hargs:getVs a c.args.toList=getVs a' c.args.toList:=getVs_congr fun x hx=>h x (by simp at hx;simp [Call.operands,hx])
 unfold deferA
 cases hc:c.callee with
 | value f=>simp only [hargs,h f (by simp [Call.operands,hc])]
 | _=>rfl
theorem opA_congr {P:Program}(E:Env P) {a a':Act}(o:Oper) (h:∀x∈o.op.operands,getV a x=getV a' x):opA E a o=opA E a' o:=by
 obtain⟨dst,op,type,pos,after,guard⟩:=o
 dsimp only at h
 cases op with
 | build t ps=>simp only [opA];rw [getPs_congr (a:=a) (a':=a') fun x hx=>h x.2 (by simp [Op.operands];exact⟨x.1,by simpa using hx⟩)]
 | buildSlice t n ps=>simp only [opA];rw [getPs_congr (a:=a) (a':=a') fun x hx=>h x.2 (by simp [Op.operands];exact⟨x.1,by simpa using hx⟩)]
 | makeFunc fn first captured =>
  simp only [opA]
  rw [getVs_congr (a:=a) (a':=a') (l:=first.toList) fun x hx=>h x (by simp at hx;simp [Op.operands,hx]),
   getVs_congr (a:=a) (a':=a') (l:=captured.toList) fun x hx=>h x (by simp at hx;simp [Op.operands,hx])]
 | call c=>simp only [opA];exact callA_congr E c h
 | defer c=>simp only [opA];exact deferA_congr c h
 | makeMap t r=>simp only [opA];rw [getO_congr (a:=a) (a':=a') fun y hy=>h y (by subst hy;simp [Op.operands])]
 | slice t x lo hi mx =>
  simp only [opA]
  rw [h x (by simp [Op.operands]),getO_congr (a:=a) (a':=a') (x:=lo) fun y hy=>h y (by subst hy;simp [Op.operands]),
   getO_congr (a:=a) (a':=a') (x:=hi) fun y hy=>h y (by subst hy;simp [Op.operands]),getO_congr (a:=a) (a':=a') (x:=mx) fun y hy=>h y (by subst hy;simp [Op.operands])]
 | next x s=>cases s<;>simp only [opA]<;>first | rfl | rw [h x (by simp [Op.operands])]
 | _=>simp only [opA]<;>simp only [Op.operands] at h<;>first | rfl | (simp_all;done)
theorem stepOpA_congr {P:Program}(E:Env P) {a a':Act}(o:Oper) (S:AState) (h:∀x∈o.op.operands,getV a x=getV a' x):stepOpA E a o S=stepOpA E a' o S:=by
 have ho:=opA_congr E o h
 obtain⟨dst,op,type,pos,after,guard⟩:=o
 dsimp only at h
 unfold stepOpA
 rw [ho]
 split
 ·rename_i x args ts heq
  dsimp only at heq
  subst heq
  rw [getVs_congr (a:=a) (a':=a') (l:=args.toList) fun x hx=>h x (by simp at hx;simp [Op.operands,Call.operands,hx])]
 ·rename_i y s d x heq
  dsimp only at heq
  subst heq
  rw [h x (by simp [Op.operands])]
 ·rfl
def opTmps (o:Oper):List Tmp:=o.op.operands.toList.filterMap fun | .tmp t=>some t | _=>none
def only (T:List Tmp) (x:Array Value):Array Value:=(Array.range x.size).map fun t=>if T.contains t=true then x.getD t undef else undef
theorem getD_only {T:List Tmp}{x:Array Value}{t:Tmp}(h:t∈T):(only T x).getD t undef=x.getD t undef:=by
 unfold only
 by_cases ht:t<x.size
 ·simp [Array.getD,ht,h]
 ·simp [Array.getD,ht]
theorem only_R {ρ:Ren}{n:Nat}{T:List Tmp}{x x':Array Value}(hs:x.size=x'.size) (h:∀t∈T,VR ρ n (x.getD t undef) (x'.getD t undef)):ArrR ρ n (only T x) (only T x'):=by
 refine⟨by simp [only,hs],fun i u v h1 h2=>?_⟩
 simp only [only,Array.getElem?_map,Option.map_eq_some_iff] at h1 h2
 obtain⟨a,ha,rfl⟩:=h1
 obtain⟨b,hb,rfl⟩:=h2
 rw [← hs,ha] at hb
 cases hb
 split
 ·rename_i hc;exact h a (by simpa using hc)
 ·exact undef_R
theorem getV_only {a:Act}{o:Oper}{x:Operand}(hx:x∈o.op.operands):getV ⟨only (opTmps o) a.tmps,a.defers⟩ x=getV a x:=by
 cases x with
 | tmp t =>
  simp only [getV]
  rw [rd_eq,rd_eq,getD_only]
  exact List.mem_filterMap.2 ⟨.tmp t,by simpa using hx,rfl⟩
 | _=>rfl
theorem eval_only {a:Act}{o:Oper}{x:Operand}(hx:x∈o.op.operands):(⟨only (opTmps o) a.tmps,a.defers⟩:Act).eval x=a.eval x:=by
 cases x with
 | tmp t =>
  have:=getD_only (x:=a.tmps) (T:=opTmps o) (t:=t) (List.mem_filterMap.2 ⟨.tmp t,by simpa using hx,rfl⟩)
  simpa [Act.eval,Array.getD_eq_getD_getElem?] using this
 | _=>rfl
def deps (o:Oper):List Nat:=o.after.toList.filterMap fun e=>match Region.binds .any e with
 | true=>some e.on
 | false=>none
def dstOf (ops:Array Oper) (i:Nat):Option Tmp:=(ops[i]?).bind (·.dst)
def memN (i:Nat):List Nat→Bool
 | []=>false
 | j :: l=>Nat.beq i j || memN i l
theorem memN_iff {i:Nat}{l:List Nat}:memN i l=true↔i∈l:=by
 induction l with
 | nil=>simp [memN]
 | cons a l ih=>simp [memN,ih]
def noSel:Op→Bool
 | .select _ _=>false
 | _=>true
def isAsg:Op→Bool
 | .assign _=>true
 | _=>false
def lookOk (ops:Array Oper) (i:Nat) (o:Oper):Bool :=
 (opTmps o).all fun t=>(List.range ops.size).all fun j=>match ops[j]? with
  | some oj=>match oj.dst with
   | some d=>!(Nat.beq d t) || memN j (deps o) || isAsg oj.op && memN i (deps oj)
   | none=>true
  | none=>true
def wfOp (ops:Array Oper) (i:Nat) (o:Oper):Bool :=
 (deps o).all (fun j=>Nat.ble (j+1) i) && lookOk ops i o && noSel o.op &&
 (match o.guard with
  | some (g,_)=>memN g (deps o)
  | none=>true) &&
 (match o.dst with
  | some d=>(List.range ops.size).all fun j=>Nat.beq i j || match dstOf ops j with
   | some t=>!(Nat.beq d t)
   | none=>true
  | none=>true)
def wfFrom (ops:Array Oper):Nat→List Oper→Bool
 | _,[]=>true
 | i,o :: l=>wfOp ops i o && wfFrom ops (i+1) l
def readOp (op:Op):Bool:=match op with
 | .call { callee:=.builtin .len,.. } | .call { callee:=.builtin .min,.. } | .call { callee:=.builtin .max,.. } | .call { callee:=.builtin .cap,.. }=>true
 | .call _=>false
 | .assign _=>false
 | op=>quietOp op
theorem readOp_quiet {op:Op}(h:readOp op=true):quietOp op=true:=by
 unfold readOp at h
 split at h<;>first | rfl | exact h | cases h
def eqV:Nat→Value→Value→Bool
 | 0,_,_=>false
 | m+1,v,u=>match v,u with
  | .bool a,.bool b=>a == b
  | .int j a,.int k b=>decide (j=k) && decide (a=b)
  | .float j a,.float k b=>decide (j=k) && Nat.beq a b
  | .string a,.string b=>decide (a.data.toList=b.data.toList)
  | .pointer none,.pointer none=>true
  | .pointer (some a),.pointer (some b)=>decide (a=b)
  | .slice none l c,.slice none l' c'=>Nat.beq l l' && Nat.beq c c'
  | .slice (some a) l c,.slice (some b) l' c'=>decide (a=b) && Nat.beq l l' && Nat.beq c c'
  | .map none,.map none=>true
  | .map (some a),.map (some b)=>Nat.beq a b
  | .nilFunc,.nilFunc=>true
  | .nilIface,.nilIface=>true
  | .iface t v,.iface u w=>Nat.beq t u && eqV m v w
  | .agg x,.agg y=>Nat.beq x.size y.size && (x.toList.zip y.toList).all fun p=>eqV m p.1 p.2
  | .tuple x,.tuple y=>Nat.beq x.size y.size && (x.toList.zip y.toList).all fun p=>eqV m p.1 p.2
  | .func (.func f) x y,.func (.func g) x' y'=>Nat.beq f g && Nat.beq x.size x'.size && (x.toList.zip x'.toList).all (fun p=>eqV m p.1 p.2) && Nat.beq y.size y'.size && (y.toList.zip y'.toList).all fun p=>eqV m p.1 p.2
  | _,_=>false
theorem eqV_eq:∀(m:Nat) (v u:Value),eqV m v u=true→v=u:=by
 intro m
 induction m with
 | zero=>intro v u h;cases h
 | succ m ih =>
  have arr:∀x y:Array Value,Nat.beq x.size y.size=true→((x.toList.zip y.toList).all fun p=>eqV m p.1 p.2)=true→x=y:=by
   intro x y hs h
   have hs:=Nat.eq_of_beq_eq_true hs
   apply Array.ext hs
   intro i h1 h2
   apply ih
   rw [List.all_eq_true] at h
   refine h (x[i],y[i]) ?_
   refine List.mem_of_getElem? (i:=i) ?_
   simp [List.getElem?_zip_eq_some,h1,h2]
  intro v u h
  unfold eqV at h
  split at h
  case h_17=>cases h
  all_goals try simp only [Bool.and_eq_true,decide_eq_true_eq,beq_iff_eq] at h
  ·subst h;rfl
  ·obtain⟨rfl,rfl⟩:=h;rfl
  ·obtain⟨rfl,h⟩:=h;rw [Nat.eq_of_beq_eq_true h]
  ·rename_i a b
   obtain⟨a⟩:=a
   obtain⟨b⟩:=b
   have h:a=b:=Array.toList_inj.1 h
   rw [h]
  ·rfl
  ·rw [h]
  ·rw [Nat.eq_of_beq_eq_true h.1,Nat.eq_of_beq_eq_true h.2]
  ·rw [h.1.1,Nat.eq_of_beq_eq_true h.1.2,Nat.eq_of_beq_eq_true h.2]
  ·rfl
  ·rw [Nat.eq_of_beq_eq_true h]
  ·rfl
  ·rfl
  ·rw [Nat.eq_of_beq_eq_true h.1,ih _ _ h.2]
  ·rw [arr _ _ h.1 h.2]
  ·rw [arr _ _ h.1 h.2]
  ·rw [Nat.eq_of_beq_eq_true h.1.1.1.1,arr _ _ h.1.1.1.2 h.1.1.2,arr _ _ h.1.2 h.2]
end Go.Eng
namespace Go.Eng
open Go Go.RowKit
def wantedIn (ops:Array Oper) (o:Oper) (A:Act):Bool:=Region.wanted o (yielded ops A.tmps)
def readyIn (L:List Nat) (o:Oper):Bool:=(deps o).all fun j=>memN j L
noncomputable def closeR {P:Program}(E:Env P) (ops:Array Oper) (S:AState):List Oper→Nat→List Nat→Act→Option (List Nat×Act)
 | [],_,L,A=>some (L,A)
 | o :: l,i,L,A=>match memN i L with
  | true=>closeR E ops S l (i+1) L A
  | false=>match readyIn L o with
   | false=>closeR E ops S l (i+1) L A
   | true=>match wantedIn ops o A || isAsg o.op with
    | false=>closeR E ops S l (i+1) (i :: L) (A.put o.dst undef)
    | true=>match readOp o.op with
     | false=>closeR E ops S l (i+1) L A
     | true=>match runA P (opA E A o) S with
      | some (.value v,_)=>closeR E ops S l (i+1) (i :: L) (A.put o.dst v)
      | _=>none
def blocked (ops:Array Oper) (X:List Nat) (i:Nat):Bool:=X.any fun e=>match ops[e]? with
 | some oe=>memN i (deps oe)
 | none=>false
def valIs (A:Act) (d:Option Tmp) (v:Value):Bool:=match d with
 | some t=>eqV 64 (A.tmps.getD t undef) v
 | none=>true
noncomputable def nodeOk {P:Program}(E:Env P) (ops:Array Oper) (X L:List Nat) (A:Act) (S:AState):List Oper→Nat→Bool
 | [],_=>true
 | o :: l,i=>(match memN i L with
  | true=>readyIn L o && (memN i X || !(isAsg o.op) && match wantedIn ops o A with
   | false=>valIs A o.dst undef
   | true=>readOp o.op && (blocked ops X i || match runA P (opA E A o) S with
    | some (.value v,_)=>valIs A o.dst v
    | _=>false))
  | false=>!(readyIn L o) || wantedIn ops o A) && nodeOk E ops X L A S l (i+1)
noncomputable def nexts (L:List Nat):List Oper→Nat→List (Nat×Oper)
 | [],_=>[]
 | o :: l,i=>match memN i L with
  | true=>nexts L l (i+1)
  | false=>match readyIn L o with
   | true=>(i,o) :: nexts L l (i+1)
   | false=>nexts L l (i+1)
noncomputable def treeR {P:Program}(E:Env P) (call:FuncId→Array Value→AState→(Value→AState→Bool)→Bool) (ops:Array Oper) (k:Act→AState→Bool):Nat→List Nat→List Nat→Act→AState→Bool
 | 0,_,_,_,_=>false
 | n+1,X,L0,A0,S=>match closeR E ops S ops.toList 0 L0 A0 with
  | none=>false
  | some (L,A)=>nodeOk E ops X L A S ops.toList 0 && match nexts L ops.toList 0 with
   | []=>k A S
   | l=>l.all fun p=>match stepOpA E A p.2 S with
    | some (.value v,S')=>treeR E call ops k n (p.1 :: X) (p.1 :: L) (A.put p.2.dst v) S'
    | some (.skip,S')=>treeR E call ops k n (p.1 :: X) (p.1 :: L) (A.put p.2.dst undef) S'
    | some (.enter f args,S')=>call f args S' fun v S''=>treeR E call ops k n (p.1 :: X) (p.1 :: L) (A.put p.2.dst v) S''
    | _=>false
section
variable {P:Program}{B:Nat}{w0:World}
structure Wf (ops:Array Oper):Prop where
 lower:∀(i:Nat) (o:Oper),ops[i]?=some o→∀j∈deps o,j<i
 look:∀(i:Nat) (o:Oper),ops[i]?=some o→∀t∈opTmps o,∀j,dstOf ops j=some t→j∈deps o∨∃oj,ops[j]?=some oj∧isAsg oj.op=true∧i∈deps oj
 nosel:∀(i:Nat) (o:Oper) cs b,ops[i]?=some o→o.op≠.select cs b
 guard:∀(i:Nat) (o:Oper) (g:Nat) (b:Bool),ops[i]?=some o→o.guard=some (g,b)→g∈deps o
 dst:∀(i j:Nat) (t:Tmp),dstOf ops i=some t→dstOf ops j=some t→i=j
theorem wf_of {ops:Array Oper}(h:wfFrom ops 0 ops.toList=true):Wf ops:=by
 have all:∀(l:List Oper) (k:Nat),wfFrom ops k l=true→∀i o,l[i]?=some o→wfOp ops (k+i) o=true:=by
  intro l
  induction l with
  | nil=>intro k _ i o h;simp at h
  | cons a l ih =>
   intro k h i o hi
   simp only [wfFrom,Bool.and_eq_true] at h
   cases i with
   | zero=>simp at hi;subst hi;exact h.1
   | succ i =>
    have:=ih (k+1) h.2 i o (by simpa using hi)
    rwa [show k+1+i=k+(i+1) by omega] at this
 have each:∀i o,ops[i]?=some o→wfOp ops i o=true:=fun i o hi=>by
  have:=all ops.toList 0 h i o (by simpa using hi)
  simpa using this
 have rng:∀j t,dstOf ops j=some t→j<ops.size:=fun j t hj=>by
  unfold dstOf at hj
  rcases Nat.lt_or_ge j ops.size with h | h
  ·exact h
  ·rw [Array.getElem?_eq_none h] at hj;cases hj
 refine⟨fun i o hi j hj=>?_,fun i o hi t ht j hj=>?_,fun i o cs b hi heq=>?_,fun i o g b hi hg=>?_,fun i j t hi hj=>?_⟩
 ·have:=each i o hi
  simp only [wfOp,Bool.and_eq_true,List.all_eq_true] at this
  exact Nat.le_of_ble_eq_true (this.1.1.1.1 j hj)
 ·have:=each i o hi
  simp only [wfOp,lookOk,Bool.and_eq_true,List.all_eq_true,List.mem_range] at this
  have:=this.1.1.1.2 t ht j (rng j t hj)
  obtain⟨oj,hoj,hdj⟩:=Option.bind_eq_some_iff.1 hj
  rw [hoj] at this
  dsimp only at this
  rw [hdj] at this
  have ht:Nat.beq t t=true:=Nat.beq_refl t
  simp only [ht,Bool.not_true,Bool.false_or,Bool.or_eq_true,Bool.and_eq_true] at this
  rcases this with h | h
  ·exact .inl (memN_iff.1 h)
  ·exact .inr ⟨oj,hoj,h.1,memN_iff.1 h.2⟩
 ·have:=each i o hi
  simp only [wfOp,Bool.and_eq_true] at this
  have:=this.1.1.2
  rw [heq] at this
  cases this
 ·have:=each i o hi
  simp only [wfOp,Bool.and_eq_true,hg] at this
  exact memN_iff.1 this.1.2
 ·obtain⟨o,ho,hd⟩:=Option.bind_eq_some_iff.1 hi
  have:=each i o ho
  simp only [wfOp,Bool.and_eq_true,hd,List.all_eq_true,List.mem_range] at this
  have:=this.2 j (rng j t hj)
  rw [hj] at this
  have ht:Nat.beq t t=true:=Nat.beq_refl t
  simp only [ht,Bool.not_true,Bool.or_false] at this
  exact Nat.eq_of_beq_eq_true this
theorem put_size (a:Act) (d:Option Tmp) (v:Value):(a.put d v).tmps.size=a.tmps.size:=by
 cases d<;>simp [Act.put]
theorem put_ne (a:Act) {d:Option Tmp}(v:Value) {t:Tmp}(h:d≠some t):(a.put d v).tmps.getD t undef=a.tmps.getD t undef:=by
 cases d with
 | none=>rfl
 | some d=>simp only [Act.put,Array.getD_eq_getD_getElem?];rw [Array.getElem?_setIfInBounds_ne (fun e=>h (by rw [e]))]
theorem put_at (a:Act) (t:Tmp) (v:Value):(a.put (some t) v).tmps.getD t undef=if t<a.tmps.size then v else undef:=by
 simp only [Act.put,Array.getD_eq_getD_getElem?]
 by_cases h:t<a.tmps.size
 ·rw [Array.getElem?_setIfInBounds_self_of_lt h,if_pos h];rfl
 ·rw [if_neg h,Array.getElem?_eq_none (by rw [Array.size_setIfInBounds];exact Nat.le_of_not_lt h)];rfl
theorem closeR_kept (E:Env P) {ops:Array Oper}{S:AState}:∀(l:List Oper) (i:Nat) (L:List Nat) (A:Act) (L':List Nat) (A':Act),(∀j,l[j]?=ops[i+j]?)→closeR E ops S l i L A=some (L',A') →
  (∀j,j∈L→j∈L')∧A'.tmps.size=A.tmps.size∧A'.defers=A.defers∧∀t,(∀j,j∈L'→dstOf ops j=some t→j∈L)→A'.tmps.getD t undef=A.tmps.getD t undef:=by
 intro l
 induction l with
 | nil =>
  intro i L A L' A' _ h
  cases h
  exact⟨fun _ h=>h,rfl,rfl,fun _ _=>rfl⟩
 | cons o l ih =>
  intro i L A L' A' hl h
  have hl':∀j,l[j]?=ops[i+1+j]?:=fun j=>by
   have:=hl (j+1)
   simpa [Nat.add_assoc,Nat.add_comm 1 j] using this
  have ho:ops[i]?=some o:=by simpa using (hl 0).symm
  have hdst:dstOf ops i=o.dst:=by simp [dstOf,ho]
  have put:∀v,memN i L=false→closeR E ops S l (i+1) (i :: L) (A.put o.dst v)=some (L',A') →
    (∀j,j∈L→j∈L')∧A'.tmps.size=A.tmps.size∧A'.defers=A.defers∧∀t,(∀j,j∈L'→dstOf ops j=some t→j∈L)→A'.tmps.getD t undef=A.tmps.getD t undef:=by
   intro v hn h
   obtain⟨h1,h2,h3,h4⟩:=ih (i+1) (i :: L) _ L' A' hl' h
   refine⟨fun j hj=>h1 j (List.mem_cons_of_mem _ hj),h2.trans (put_size ..),h3.trans (put_defers ..),fun t ht=>?_⟩
   rw [h4 t fun j hj' hj=>List.mem_cons_of_mem _ (ht j hj' hj),put_ne]
   intro e
   have:=memN_iff.2 (ht i (h1 i (by simp)) (by rw [hdst,e]))
   rw [this] at hn
   cases hn
  unfold closeR at h
  split at h
  ·exact ih (i+1) L A L' A' hl' h
  ·rename_i hn
   split at h
   ·exact ih (i+1) L A L' A' hl' h
   ·split at h
    ·exact put _ hn h
    ·split at h
     ·exact ih (i+1) L A L' A' hl' h
     ·split at h
      ·exact put _ hn h
      ·cases h
theorem nodeOk_at (E:Env P) {ops:Array Oper}{X L:List Nat}{A:Act}{S:AState}:∀(l:List Oper) (i:Nat),nodeOk E ops X L A S l i=true→∀j o,l[j]?=some o →
  (match memN (i+j) L with
  | true=>readyIn L o && (memN (i+j) X || !(isAsg o.op) && match wantedIn ops o A with
   | false=>valIs A o.dst undef
   | true=>readOp o.op && (blocked ops X (i+j) || match runA P (opA E A o) S with
    | some (.value v,_)=>valIs A o.dst v
    | _=>false))
  | false=>!(readyIn L o) || wantedIn ops o A)=true:=by
 intro l
 induction l with
 | nil=>intro i _ j o h;simp at h
 | cons a l ih =>
  intro i h j o hj
  simp only [nodeOk,Bool.and_eq_true] at h
  cases j with
  | zero=>simp at hj;subst hj;exact h.1
  | succ j =>
   have:=ih (i+1) h.2 j o (by simpa using hj)
   rwa [show i+1+j=i+(j+1) by omega] at this
theorem nexts_mem {L:List Nat}:∀(l:List Oper) (i:Nat) (j:Nat) (o:Oper),l[j]?=some o→memN (i+j) L=false→readyIn L o=true→(i+j,o)∈nexts L l i:=by
 intro l
 induction l with
 | nil=>intro i j o h;simp at h
 | cons a l ih =>
  intro i j o hj hm hr
  unfold nexts
  cases j with
  | zero =>
   simp at hj
   subst hj
   rw [Nat.add_zero] at hm
   rw [hm,hr]
   simp
  | succ j =>
   have:=ih (i+1) j o (by simpa using hj) (by rwa [show i+1+j=i+(j+1) by omega]) hr
   rw [show i+1+j=i+(j+1) by omega] at this
   split
   ·exact this
   ·split
    ·exact List.mem_cons_of_mem _ this
    ·exact this
theorem valIs_R {ρ:Ren}{n:Nat}{A:Act}{t:Tmp}{v v':Value}(h:valIs A (some t) v=true) (hv:VR ρ n v v'):VR ρ n (A.tmps.getD t undef) v':=by
 have:=eqV_eq _ _ _ h
 rw [this];exact hv
def unl (n:Nat) (listed:Array Bool):Nat:=(List.range n).countP fun i=>!listed.getD i false
theorem countP_less {p p':Nat→Bool}{i:Nat}(hp:p i=true) (hp':p' i=false) (himp:∀j,p' j=true→p j=true):∀l:List Nat,i∈l→l.countP p'+1≤l.countP p:=by
 have mono:∀l:List Nat,l.countP p'≤l.countP p:=fun l=>List.countP_mono_left fun j _=>himp j
 intro l
 induction l with
 | nil=>intro h;cases h
 | cons a l ih =>
  intro h
  rw [List.countP_cons,List.countP_cons]
  rcases List.mem_cons.1 h with rfl | h
  ·rw [if_pos hp,if_neg (by rw [hp'];exact Bool.false_ne_true)]
   have:=mono l
   omega
  ·have:=ih h
   by_cases ha:p' a=true
   ·rw [if_pos ha,if_pos (himp a ha)];omega
   ·rw [if_neg ha]
    split<;>omega
theorem unl_set {n i:Nat}{listed:Array Bool}(hs:listed.size=n) (hi:i<n) (h:listed.getD i false=false):unl n (listed.setIfInBounds i true)+1≤unl n listed:=by
 refine countP_less (i:=i) (by simp [h]) ?_ (fun j hj=>?_) _ (List.mem_range.2 hi)
 ·simp [hs,hi]
 ·by_cases hji:j=i
  ·subst hji;simp [h]
  ·rw [getD_set_ne false (Ne.symm hji)] at hj;exact hj
theorem yielded_view {ρ:Ren}{n:Nat}{ops:Array Oper}{x x':Array Value}(hs:x'.size=x.size) {g:Nat}(h:∀t,dstOf ops g=some t→VR ρ n (x.getD t undef) (x'.getD t undef)):yielded ops x' g=yielded ops x g:=by
 unfold yielded
 unfold dstOf at h
 cases hd:(ops[g]?).bind (·.dst) with
 | none=>rfl
 | some d =>
  have:=h d hd
  simp only [Option.bind_some]
  by_cases hlt:d<x.size
  ·have hlt':d<x'.size:=by rw [hs];exact hlt
   simp only [Array.getD_eq_getD_getElem?,Array.getElem?_eq_getElem hlt,Array.getElem?_eq_getElem hlt',Option.getD_some] at this ⊢
   revert this
   generalize x[d]=u
   generalize x'[d]=u'
   intro h3
   cases h3<;>rfl
  ·rw [Array.getElem?_eq_none (Nat.le_of_not_lt hlt),Array.getElem?_eq_none (by rw [hs];exact Nat.le_of_not_lt hlt)]
theorem step_view {ρ:Ren}(E:Env P) {S:AState}{w:World}(hw:WR P B w0 ρ S w) (hb:Base P ρ S.next) {A a':Act}{o:Oper}(hs:a'.tmps.size=A.tmps.size) (hsel:∀cs b,o.op≠.select cs b)
  (hv:∀t∈opTmps o,VR ρ S.next (A.tmps.getD t undef) (a'.tmps.getD t undef)) {nx:Next}{S':AState}(h:stepOpA E A o S=some (nx,S')) :
  ∃nx' w' ρ',(execOp a'.eval o).run P w=.ok nx' w'∧Ext S.next ρ ρ'∧S.next≤S'.next∧S'.prot=S.prot∧WR P B w0 ρ' S' w'∧NextR ρ' S'.next nx nx':=by
 rw [stepOpA_congr (a':=⟨only (opTmps o) A.tmps,A.defers⟩) E o S fun x hx=>(getV_only hx).symm] at h
 have e:execOp a'.eval o=execOp (⟨only (opTmps o) a'.tmps,a'.defers⟩:Act).eval o:=execOp_congr o hsel fun x hx=>(eval_only hx).symm
 rw [e]
 exact stepOp_sound E hw hb (only_R hs.symm hv) o h
theorem read_view {ρ:Ren}(E:Env P) {S:AState}{w:World}(hw:WR P B w0 ρ S w) (hb:Base P ρ S.next) {A a':Act}{o:Oper}(hs:a'.tmps.size=A.tmps.size) (hsel:∀cs b,o.op≠.select cs b)
  (hv:∀t∈opTmps o,VR ρ S.next (A.tmps.getD t undef) (a'.tmps.getD t undef)) (hq:quietOp o.op=true) {nx:Next}{S':AState}(h:runA P (opA E A o) S=some (nx,S')) :
  ∃nx',(execOp a'.eval o).run P w=.ok nx' w∧NextR ρ S.next nx nx':=by
 rw [opA_congr (a':=⟨only (opTmps o) A.tmps,A.defers⟩) E o fun x hx=>(getV_only hx).symm] at h
 have e:execOp a'.eval o=execOp (⟨only (opTmps o) a'.tmps,a'.defers⟩:Act).eval o:=execOp_congr o hsel fun x hx=>(eval_only hx).symm
 rw [e]
 obtain⟨b,w',ρ2,g1,g2,g3,gp,g4,g5,g6⟩:=sim_op (q:=true) (B:=B) (w0:=w0) (a:=⟨only (opTmps o) A.tmps,A.defers⟩) (a':=⟨only (opTmps o) a'.tmps,a'.defers⟩) E hb (only_R hs.symm hv) o (fun _=>hq) ρ S w (Ext.refl _ _) (Nat.le_refl _) hw nx S' h
 obtain⟨rfl,rfl,rfl⟩:=g6 rfl
 exact⟨b,g1,g5⟩
end
end Go.Eng
namespace Go.Eng
open Go Go.RowKit
section
variable {P:Program}{B:Nat}{w0:World}
def Gives (P:Program) (B:Nat) (w0:World) (ρ:Ren) (S:AState) (k:Value→AState→Bool):Ending→World→Prop:=fun e w' =>
 ∃v v' S' ρ',e=.returned v'∧k v S'=true∧VR ρ' S'.next v v'∧WR P B w0 ρ' S' w'∧Ext S.next ρ ρ'∧S.next≤S'.next∧S'.prot=S.prot
def RegQ (P:Program) (B:Nat) (w0:World) (ρ0:Ren) (S0:AState) (dfs:List Deferred) (k:Act→AState→Bool):Exit→Act→World→Prop:=fun e a2 w2 =>
 e=.normal∧∃A S ρ,k A S=true∧ArrR ρ S.next A.tmps a2.tmps∧a2.defers=dfs∧WR P B w0 ρ S w2∧Base P ρ S.next∧Ext S0.next ρ0 ρ∧S0.next≤S.next∧S.prot=S0.prot
structure Inv (P:Program) (B:Nat) (w0:World) (ops:Array Oper) (ρ0:Ren) (S0:AState) (dfs:List Deferred) (X L:List Nat) (A:Act) (S:AState) (ρ:Ren) (listed:Array Bool) (a':Act) (w:World):Prop where
 base:Base P ρ S.next
 wr:WR P B w0 ρ S w
 ext:Ext S0.next ρ0 ρ
 next:S0.next≤S.next
 prot:S.prot=S0.prot
 sz:listed.size=ops.size
 inL:∀i,listed.getD i false=true→i∈L
 eff:∀i∈X,listed.getD i false=true
 down:∀(i:Nat) (o:Oper),ops[i]?=some o→listed.getD i false=true→∀j∈deps o,listed.getD j false=true
 tsz:a'.tmps.size=A.tmps.size
 dfs:a'.defers=dfs
 view:∀t,(∀j,j∈L→dstOf ops j=some t→listed.getD j false=true)→VR ρ S.next (A.tmps.getD t undef) (a'.tmps.getD t undef)
theorem dep_iff {o:Oper}{j:Nat}:j∈deps o↔∃e∈o.after,Region.binds .any e=true∧e.on=j:=by
 unfold deps
 rw [List.mem_filterMap]
 constructor
 ·rintro⟨e,he,h⟩
  refine⟨e,by simpa using he,?_⟩
  split at h
  ·rename_i hb;exact⟨hb,Option.some.inj h⟩
  ·cases h
 ·rintro⟨e,he,hb,rfl⟩
  exact⟨e,by simpa using he,by rw [hb]⟩
theorem getD_false {listed:Array Bool}{i:Nat}(hi:i<listed.size):listed.getD i true=listed.getD i false:=by
 simp [Array.getD,hi]
theorem readyIn_iff {L:List Nat}{o:Oper}:readyIn L o=true↔∀j∈deps o,j∈L:=by
 unfold readyIn
 rw [List.all_eq_true]
 exact⟨fun h j hj=>memN_iff.1 (h j hj),fun h j hj=>memN_iff.2 (h j hj)⟩
theorem memN_false {i:Nat}{l:List Nat}:memN i l=false↔i∉l:=by
 rw [← memN_iff];simp
theorem nexts_spec {L:List Nat}:∀(l:List Oper) (i:Nat) (p:Nat×Oper),p∈nexts L l i→∃j,p.1=i+j∧l[j]?=some p.2∧memN p.1 L=false:=by
 intro l
 induction l with
 | nil=>intro i p h;cases h
 | cons a l ih =>
  intro i p h
  have lift:p∈nexts L l (i+1)→∃j,p.1=i+j∧(a :: l)[j]?=some p.2∧memN p.1 L=false:=fun h=>by
   obtain⟨j,h1,h2,h3⟩:=ih (i+1) p h
   exact⟨j+1,by omega,by simpa using h2,h3⟩
  unfold nexts at h
  split at h
  ·exact lift h
  ·rename_i hm
   split at h
   ·rcases List.mem_cons.1 h with rfl | h
    ·exact⟨0,rfl,by simp,hm⟩
    ·exact lift h
   ·exact lift h
theorem tree_sound (E:Env P) {ops:Array Oper}(wf:Wf ops) {call:FuncId→Array Value→AState→(Value→AState→Bool)→Bool}{k:Act→AState→Bool}{ρ0:Ren}{S0:AState}{dfs:List Deferred}
  (hcall:∀f args args' ρ S w k',Base P ρ S.next→WR P B w0 ρ S w→ArrR ρ S.next args args'→call f args S k'=true→Calls P f args' w (Gives P B w0 ρ S k')) :
  ∀(m n:Nat) (X L:List Nat) (A:Act) (S:AState) (ρ:Ren) (listed:Array Bool) (a':Act) (w:World),
   nodeOk E ops X L A S ops.toList 0=true →
   (match nexts L ops.toList 0 with
    | []=>k A S
    | l=>l.all fun p=>match stepOpA E A p.2 S with
     | some (.value v,S')=>treeR E call ops k n (p.1 :: X) (p.1 :: L) (A.put p.2.dst v) S'
     | some (.skip,S')=>treeR E call ops k n (p.1 :: X) (p.1 :: L) (A.put p.2.dst undef) S'
     | some (.enter f args,S')=>call f args S' fun v S''=>treeR E call ops k n (p.1 :: X) (p.1 :: L) (A.put p.2.dst v) S''
     | _=>false)=true →
   unl ops.size listed≤m →
   Inv P B w0 ops ρ0 S0 dfs X L A S ρ listed a' w →
   wpAny P .any ops (RegQ P B w0 ρ0 S0 dfs k) m listed a' w:=by
 have fin:∀(n:Nat) (X L:List Nat) (A:Act) (S:AState) (ρ:Ren) (listed:Array Bool) (a':Act) (w:World),nodeOk E ops X L A S ops.toList 0=true →
   (match nexts L ops.toList 0 with
    | []=>k A S
    | l=>l.all fun p=>match stepOpA E A p.2 S with
     | some (.value v,S')=>treeR E call ops k n (p.1 :: X) (p.1 :: L) (A.put p.2.dst v) S'
     | some (.skip,S')=>treeR E call ops k n (p.1 :: X) (p.1 :: L) (A.put p.2.dst undef) S'
     | some (.enter f args,S')=>call f args S' fun v S''=>treeR E call ops k n (p.1 :: X) (p.1 :: L) (A.put p.2.dst v) S''
     | _=>false)=true →
   Inv P B w0 ops ρ0 S0 dfs X L A S ρ listed a' w→(∀i,i<ops.size→listed.getD i false=true)→RegQ P B w0 ρ0 S0 dfs k .normal a' w:=by
  intro n X L A S ρ listed a' w _ hk inv hall
  have hnil:nexts L ops.toList 0=[]:=by
   apply List.eq_nil_iff_forall_not_mem.2
   intro p hp
   obtain⟨j,h1,h2,h3⟩:=nexts_spec _ _ p hp
   have hj:j<ops.size:=by
    rcases Nat.lt_or_ge j ops.size with h | h
    ·exact h
    ·rw [List.getElem?_eq_none (by simpa using h)] at h2;cases h2
   have:=inv.inL p.1 (hall p.1 (by omega))
   rw [memN_iff.2 this] at h3
   cases h3
  rw [hnil] at hk
  refine⟨rfl,A,S,ρ,hk,⟨inv.tsz.symm,fun i v v' h1 h2=>?_⟩,inv.dfs,inv.wr,inv.base,inv.ext,inv.next,inv.prot⟩
  have:=inv.view i fun j _ hj=>hall j (by
   unfold dstOf at hj
   rcases Nat.lt_or_ge j ops.size with h | h
   ·exact h
   ·rw [Array.getElem?_eq_none h] at hj;cases hj)
  simpa [Array.getD_eq_getD_getElem?,h1,h2] using this
 have done:∀{listed:Array Bool},listed.size=ops.size→Region.ready .any ops listed=[]→∀i,i<ops.size→listed.getD i false=true:=by
  intro listed hsz hr i
  induction i using Nat.strongRecOn with
  | ind i ih =>
   intro hi
   cases hc:listed.getD i false with
   | true=>rfl
   | false =>
    have:i∈Region.ready .any ops listed:=by
     refine mem_ready.2 ⟨by rw [getD_false (by omega)];exact hc,ops[i],Array.getElem?_eq_getElem hi,fun e he hb=>?_⟩
     have hlt:=wf.lower i _ (Array.getElem?_eq_getElem hi) e.on (dep_iff.2 ⟨e,he,hb,rfl⟩)
     exact ih e.on hlt (by omega)
    rw [hr] at this
    cases this
 intro m
 induction m with
 | zero =>
  intro n X L A S ρ listed a' w hok hk hm inv
  have hall:∀i,i<ops.size→listed.getD i false=true:=by
   intro i hi
   cases hc:listed.getD i false with
   | true=>rfl
   | false =>
    have:=unl_set inv.sz hi hc
    omega
  refine⟨?_,fin n X L A S ρ listed a' w hok hk inv hall⟩
  apply List.eq_nil_iff_forall_not_mem.2
  intro i hi
  obtain⟨h0,o,ho,_⟩:=mem_ready.1 hi
  have hlt:i<ops.size:=(Array.getElem?_eq_some_iff.1 ho).1
  rw [getD_false (by rw [inv.sz];exact hlt),hall i hlt] at h0
  cases h0
 | succ m ih =>
  intro n X L A S ρ listed a' w hok hk hm inv
  refine⟨fun hr=>fin n X L A S ρ listed a' w hok hk inv (done inv.sz hr),fun i hi=>?_⟩
  obtain⟨h0,o,ho,hdeps⟩:=mem_ready.1 hi
  have hlt:i<ops.size:=(Array.getElem?_eq_some_iff.1 ho).1
  rw [getD_false (by rw [inv.sz];exact hlt)] at h0
  have hd:∀j∈deps o,listed.getD j false=true:=fun j hj=>by
   obtain⟨e,he,hb,rfl⟩:=dep_iff.1 hj
   exact hdeps e he hb
  have hu:=unl_set inv.sz hlt h0
  have hm':unl ops.size (listed.setIfInBounds i true)≤m:=by omega
  have hdst:dstOf ops i=o.dst:=by simp [dstOf,ho]
  have hset:∀j,(listed.setIfInBounds i true).getD j false=true↔j=i∨listed.getD j false=true:=by
   intro j
   by_cases hji:j=i
   ·subst hji;simp [inv.sz,hlt]
   ·rw [getD_set_ne false (Ne.symm hji)];simp [hji]
  have hsel:∀cs b,o.op≠.select cs b:=fun cs b=>wf.nosel i o cs b ho
  have hview:∀t∈opTmps o,VR ρ S.next (A.tmps.getD t undef) (a'.tmps.getD t undef):=fun t ht=>inv.view t fun j hjL hj=>by
   rcases wf.look i o ho t ht j hj with h|⟨oj,hoj,hasg,hij⟩
   ·exact hd j h
   ·have hatj:=nodeOk_at E ops.toList 0 hok j oj (by simpa using hoj)
    rw [Nat.zero_add,memN_iff.2 hjL] at hatj
    dsimp only at hatj
    rw [hasg,Bool.and_eq_true,Bool.not_true,Bool.false_and,Bool.or_false] at hatj
    exact inv.eff j (memN_iff.1 hatj.2)
  have hwant:Region.wanted o (yielded ops a'.tmps)=wantedIn ops o A:=by
   unfold wantedIn Region.wanted
   cases hg:o.guard with
   | none=>rfl
   | some gb =>
    obtain⟨g,b⟩:=gb
    dsimp only
    rw [yielded_view inv.tsz fun t ht=>inv.view t fun j _ hj=>hd j (by rw [wf.dst j g t hj ht];exact wf.guard i o g b ho hg)]
  have hdown':∀(j:Nat) (oj:Oper),ops[j]?=some oj→(listed.setIfInBounds i true).getD j false=true→∀l∈deps oj,(listed.setIfInBounds i true).getD l false=true:=by
   intro j oj hj hl l hdl
   rw [hset]
   rcases (hset j).1 hl with rfl | h
   ·rw [ho] at hj;cases hj;exact .inr (hd l hdl)
   ·exact .inr (inv.down j oj hj h l hdl)
  have hat:=nodeOk_at E ops.toList 0 hok i o (by simpa using ho)
  rw [Nat.zero_add] at hat
  have hrdy:readyIn L o=true:=readyIn_iff.2 fun j hj=>inv.inL j (hd j hj)
  unfold wpOp
  simp only [ho]
  rw [hwant]
  cases hiL:memN i L with
  | true =>
   rw [hiL] at hat
   dsimp only at hat
   rw [Bool.and_eq_true] at hat
   have hat:=hat.2
   have hnX:memN i X=false:=by
    rw [memN_false]
    intro hx
    rw [inv.eff i hx] at h0
    cases h0
   rw [hnX,Bool.false_or,Bool.and_eq_true] at hat
   have hat:=hat.2
   have stay:∀v',(∀t,o.dst=some t→VR ρ S.next (A.tmps.getD t undef) v')→wpAny P .any ops (RegQ P B w0 ρ0 S0 dfs k) m (listed.setIfInBounds i true) (a'.put o.dst v') w:=by
    intro v' hv'
    refine ih n X L A S ρ _ _ w hok hk hm' ⟨inv.base,inv.wr,inv.ext,inv.next,inv.prot,by simpa using inv.sz,fun j hj=>?_,fun j hj=>(hset j).2 (.inr (inv.eff j hj)),hdown',(put_size ..).trans inv.tsz,(put_defers ..).trans inv.dfs,fun t ht=>?_⟩
    ·rcases (hset j).1 hj with rfl | h
     ·exact memN_iff.1 hiL
     ·exact inv.inL j h
    ·by_cases hdt:o.dst=some t
     ·rw [hdt,put_at]
      split
      ·exact hv' t hdt
      ·rename_i hge
       have:A.tmps.getD t undef=undef:=by
        rw [Array.getD_eq_getD_getElem?,Array.getElem?_eq_none (by rw [← inv.tsz];exact Nat.le_of_not_lt hge)];rfl
       rw [this];exact undef_R
     ·rw [put_ne _ _ hdt]
      refine inv.view t fun j hjL hj=>((hset j).1 (ht j hjL hj)).resolve_left fun e=>hdt (by rw [← hdst,← e];exact hj)
   cases hwt:wantedIn ops o A with
   | false =>
    rw [hwt] at hat
    simp only [Bool.false_eq_true,if_false]
    refine stay undef fun t ht=>?_
    rw [ht] at hat
    exact valIs_R hat undef_R
   | true =>
    rw [hwt] at hat
    simp only [if_true]
    dsimp only at hat
    rw [Bool.and_eq_true] at hat
    obtain⟨hrd,hat⟩:=hat
    have hblk:blocked ops X i=false:=by
     unfold blocked
     rw [List.any_eq_false]
     intro e he hc
     split at hc
     ·rename_i oe hoe
      rw [inv.down e oe hoe (inv.eff e he) i (memN_iff.1 hc)] at h0
      cases h0
     ·cases hc
    rw [hblk,Bool.false_or] at hat
    split at hat
    case h_2=>cases hat
    rename_i v S1 hrun
    obtain⟨nx',g1,g2⟩:=read_view E inv.wr inv.base inv.tsz hsel hview (readOp_quiet hrd) hrun
    cases g2 with
    | @value _ v' hv =>
     refine .inl ?_
     unfold Oper.wp
     rw [g1,Oper.upon_value]
     refine stay v' fun t ht=>?_
     rw [ht] at hat
     exact valIs_R hat hv
  | false =>
   rw [hiL] at hat
   simp only [hrdy,Bool.not_true,Bool.false_or] at hat
   rw [hat]
   simp only [if_true]
   refine .inl ?_
   have hmem:=nexts_mem (L:=L) ops.toList 0 i o (by simpa using ho) (by rw [Nat.zero_add];exact hiL) hrdy
   rw [Nat.zero_add] at hmem
   have hthis:(match stepOpA E A o S with
     | some (.value v,S')=>treeR E call ops k n (i :: X) (i :: L) (A.put o.dst v) S'
     | some (.skip,S')=>treeR E call ops k n (i :: X) (i :: L) (A.put o.dst undef) S'
     | some (.enter f args,S')=>call f args S' fun v S''=>treeR E call ops k n (i :: X) (i :: L) (A.put o.dst v) S''
     | _=>false)=true:=by
    split at hk
    ·rename_i hnil;rw [hnil] at hmem;cases hmem
    ·rw [List.all_eq_true] at hk
     exact hk (i,o) hmem
   have child:∀(v v':Value) (S':AState) (ρ':Ren) (w':World),treeR E call ops k n (i :: X) (i :: L) (A.put o.dst v) S'=true→VR ρ' S'.next v v'→WR P B w0 ρ' S' w'→Ext S.next ρ ρ'→S.next≤S'.next→S'.prot=S.prot →
     wpAny P .any ops (RegQ P B w0 ρ0 S0 dfs k) m (listed.setIfInBounds i true) (a'.put o.dst v') w':=by
    intro v v' S' ρ' w' ht hv hw' he hn hp
    cases n with
    | zero=>cases ht
    | succ n =>
     unfold treeR at ht
     split at ht
     ·cases ht
     ·rename_i L2 A2 hcl
      rw [Bool.and_eq_true] at ht
      obtain⟨c1,c2,c3,c4⟩:=closeR_kept E ops.toList 0 _ _ _ _ (fun j=>by simp) hcl
      refine ih n (i :: X) L2 A2 S' ρ' _ _ w' ht.1 ht.2 hm' ⟨inv.base.mono he hn,hw',inv.ext.trans he inv.next,Nat.le_trans inv.next hn,hp.trans inv.prot,by simpa using inv.sz,fun j hj=>?_,fun j hj=>?_,hdown',?_,(put_defers ..).trans inv.dfs,fun t ht=>?_⟩
      ·rcases (hset j).1 hj with rfl | h
       ·exact c1 _ (by simp)
       ·exact c1 j (List.mem_cons_of_mem _ (inv.inL j h))
      ·rcases List.mem_cons.1 hj with rfl | h
       ·exact (hset _).2 (.inl rfl)
       ·exact (hset j).2 (.inr (inv.eff j h))
      ·rw [c2,put_size,put_size];exact inv.tsz
      ·have hL:∀j,j∈L2→dstOf ops j=some t→j∈i :: L:=fun j hjL hj=>by
        rcases (hset j).1 (ht j hjL hj) with rfl | h
        ·simp
        ·exact List.mem_cons_of_mem _ (inv.inL j h)
       rw [c4 t hL]
       by_cases hdt:o.dst=some t
       ·rw [hdt,put_at,put_at,inv.tsz]
        split
        ·exact hv
        ·exact undef_R
       ·rw [put_ne _ _ hdt,put_ne _ _ hdt]
        exact (inv.view t fun j hjL hj=>((hset j).1 (ht j (c1 j (List.mem_cons_of_mem _ hjL)) hj)).resolve_left fun e=>hdt (by rw [← hdst,← e];exact hj)).mono he hn
   unfold Oper.wp
   split at hthis
   ·rename_i v S' hst
    obtain⟨nx',w',ρ',g1,g2,g3,g4,g5,g6⟩:=step_view E inv.wr inv.base inv.tsz hsel hview hst
    cases g6 with
    | value hv=>rw [g1,Oper.upon_value];exact child _ _ _ _ _ hthis hv g5 g2 g3 g4
   ·rename_i S' hst
    obtain⟨nx',w',ρ',g1,g2,g3,g4,g5,g6⟩:=step_view E inv.wr inv.base inv.tsz hsel hview hst
    cases g6 with
    | skip=>rw [g1,Oper.upon_skip];exact child _ _ _ _ _ hthis undef_R g5 g2 g3 g4
   ·rename_i f args S' hst
    obtain⟨nx',w',ρ',g1,g2,g3,g4,g5,g6⟩:=step_view E inv.wr inv.base inv.tsz hsel hview hst
    cases g6 with
    | @enter _ _ args' hargs =>
     rw [g1,Oper.upon_enter]
     refine Calls.mono (hcall f args args' ρ' S' w' _ (inv.base.mono g2 g3) g5 hargs hthis) fun e w2 he=>?_
     obtain⟨v,v',S2,ρ2,rfl,k1,k2,k3,k4,k5,k6⟩:=he
     exact child _ _ _ _ _ k1 k2 k3 (g2.trans k4 g3) (Nat.le_trans g3 k5) (k6.trans g4)
   ·cases hthis
end
end Go.Eng
namespace Go.Eng
open Go Go.RowKit
def candL (es:List MapEntry) (since:Nat) (seen:List Nat):List (Option MapEntry) :=
 let left:=es.filter fun e=>!memN e.born seen
 let old:=left.filter fun e=>decide (e.born<since)
 let new:=left.filter fun e=>decide (e.born≥since)
 (match old with
  | []=>[none]
  | _=>[])++(old++new).map some
def stale (es:List MapEntry) (seen:List Nat) (last:Nat):Bool:=!seen.isEmpty && !es.isEmpty && es.all fun e=>decide (e.born≥last)
noncomputable def nextMA (it:Value) (c:Nat):Sem (Nat×Value):=match it with
 | .pointer (some ⟨r,0,none⟩)=>(getObj r).bind fun o=>match o with
  | .mapIter none _ _ _=>Sem.pure (1,.tuple #[.bool false])
  | .mapIter (some m) since seen last=>(getObj m).bind fun o=>match o with
   | .map es clock=>match stale es.toList seen.toList last with
    | true=>stuck ""
    | false=>match (candL es.toList since seen.toList)[c]? with
     | some (some e)=>(setObj r (.mapIter (some m) since (seen.push e.born) clock)).bind fun _=>Sem.pure ((candL es.toList since seen.toList).length,.tuple #[.bool true,e.key,e.val])
     | some none=>Sem.pure ((candL es.toList since seen.toList).length,.tuple #[.bool false])
     | none=>stuck ""
   | _=>stuck ""
  | _=>stuck ""
 | _=>stuck ""
def pickC (r m since:Nat) (seen:Array Nat) (clock:Nat) (e:Option (Option MapEntry)):Sem Value:=match e with
 | some (some e)=>(setObj r (.mapIter (some m) since (seen.push e.born) clock)).bind fun _=>Sem.pure (.tuple #[.bool true,e.key,e.val])
 | some none=>Sem.pure (.tuple #[.bool false])
 | none=>stuck "Next: no such candidate"
def nextT (it:Value) (c:Nat):Sem Value:=match it with
 | .pointer (some ⟨r,0,_⟩)=>(getObj r).bind fun o=>match o with
  | .mapIter none _ _ _=>Sem.pure (.tuple #[.bool false])
  | .mapIter (some m) since seen last=>(getObj m).bind fun o=>match o with
   | .map es clock=>match stale es.toList seen.toList last with
    | true=>stuck ""
    | false=>pickC r m since seen clock (candL es.toList since seen.toList)[c]?
   | _=>stuck ""
  | _=>stuck ""
 | _=>stuck ""
theorem memN_contains (i:Nat) (l:List Nat):memN i l=l.contains i:=by
 rw [Bool.eq_iff_iff,memN_iff];simp
theorem cand_eq (es:Array MapEntry) (since:Nat) (seen:Array Nat) :
  ((if ((es.filter fun (e:MapEntry)=>!seen.contains e.born).filter fun (e:MapEntry)=>decide (e.born<since)).isEmpty=true then #[none] else #[]) ++
    (((es.filter fun (e:MapEntry)=>!seen.contains e.born).filter fun (e:MapEntry)=>decide (e.born<since))++((es.filter fun (e:MapEntry)=>!seen.contains e.born).filter fun (e:MapEntry)=>decide (e.born≥since))).map some).toList =
  candL es.toList since seen.toList:=by
 obtain⟨es⟩:=es
 obtain⟨seen⟩:=seen
 unfold candL
 simp only [memN_contains]
 simp only [List.filter_toArray,List.contains_toArray,List.isEmpty_toArray,List.append_toArray,List.map_toArray,Array.toList_append]
 congr 1
 generalize (List.filter (fun (e:MapEntry)=>decide (e.born<since)) (List.filter (fun (e:MapEntry)=>!seen.contains e.born) es))=l
 cases l with
 | nil=>rfl
 | cons a l=>rfl
theorem stale_eq (es:Array MapEntry) (seen:Array Nat) (last:Nat):(!seen.isEmpty && !es.isEmpty && es.all fun x=>decide (x.born≥last))=stale es.toList seen.toList last:=by
 obtain⟨es⟩:=es
 obtain⟨seen⟩:=seen
 simp [stale]
section
variable {P:Program}{B:Nat}{w0:World}{q:Bool}{ρ:Ren}{n:Nat}
theorem LR.filter {α β:Type}{R:α→β→Prop}{p:α→Bool}{p':β→Bool}(hp:∀a b,R a b→p a=p' b) {l:List α}{m:List β}(h:LR R l m):LR R (l.filter p) (m.filter p'):=by
 induction h with
 | nil=>exact .nil
 | cons h _ ih =>
  rw [List.filter_cons,List.filter_cons,← hp _ _ h]
  split
  ·exact .cons h ih
  ·exact ih
theorem LR.append' {α β:Type}{R:α→β→Prop}{l l2:List α}{m m2:List β}(h:LR R l m) (h2:LR R l2 m2):LR R (l++l2) (m++m2):=by
 induction h with
 | nil=>exact h2
 | cons h _ ih=>exact .cons h ih
theorem LR.map' {α β γ δ:Type}{R:α→β→Prop}{R':γ→δ→Prop}{f:α→γ}{g:β→δ}(hf:∀a b,R a b→R' (f a) (g b)) {l:List α}{m:List β}(h:LR R l m):LR R' (l.map f) (m.map g):=by
 induction h with
 | nil=>exact .nil
 | cons h _ ih=>exact .cons (hf _ _ h) ih
theorem LR.len' {α β:Type}{R:α→β→Prop}{l:List α}{m:List β}(h:LR R l m):l.length=m.length:=by
 induction h with
 | nil=>rfl
 | cons h _ ih=>simp [ih]
theorem LR.get' {α β:Type}{R:α→β→Prop}{l:List α}{m:List β}(h:LR R l m):∀i:Nat,(l[i]?=none∧m[i]?=none)∨∃a b,l[i]?=some a∧m[i]?=some b∧R a b:=by
 induction h with
 | nil=>intro i;exact .inl ⟨by simp,by simp⟩
 | @cons a b l m h _ ih =>
  intro i
  cases i with
  | zero=>exact .inr ⟨a,b,by simp,by simp,h⟩
  | succ i=>simpa using ih i
theorem cand_R {x y:List MapEntry}(h:LR (EntR ρ n) x y) (since:Nat) (seen:List Nat):LR (OR2 ρ n) (candL x since seen) (candL y since seen):=by
 have h1:=h.filter (p:=fun e=>!memN e.born seen) (p':=fun e=>!memN e.born seen) fun a b hab=>by rw [hab.born]
 have h2:=h1.filter (p:=fun e=>decide (e.born<since)) (p':=fun e=>decide (e.born<since)) fun a b hab=>by rw [hab.born]
 have h3:=h1.filter (p:=fun e=>decide (e.born≥since)) (p':=fun e=>decide (e.born≥since)) fun a b hab=>by rw [hab.born]
 unfold candL
 dsimp only
 refine LR.append' ?_ ((h2.append' h3).map' fun _ _ h=>.some h)
 revert h2
 generalize (x.filter fun e=>!memN e.born seen).filter (fun e=>decide (e.born<since))=u
 generalize (y.filter fun e=>!memN e.born seen).filter (fun e=>decide (e.born<since))=v
 intro h2
 cases h2 with
 | nil=>exact .cons .none .nil
 | cons _ _=>exact .nil
theorem stale_R {x y:List MapEntry}(h:LR (EntR ρ n) x y) (seen:List Nat) (last:Nat):stale x seen last=stale y seen last:=by
 unfold stale
 have h1:x.isEmpty=y.isEmpty:=by cases h<;>rfl
 have h2:(x.all fun e=>decide (e.born≥last))=y.all fun e=>decide (e.born≥last):=by
  induction h with
  | nil=>rfl
  | cons h _ ih =>
   rw [List.all_cons,List.all_cons,h.born]
   rw [ih (by rename_i t;cases t<;>rfl)]
 rw [h1,h2]
theorem sim_nextT {x x':Value}(hx:VR ρ n x x') (c:Nat):Sim P B w0 false (fun ρ n a b=>VR ρ n a.2 b) ρ n (nextMA x c) (nextT x' c):=by
 have mono:Mono (fun (ρ:Ren) (n:Nat) (a:Nat×Value) (b:Value)=>VR ρ n a.2 b):=fun _ _ _ _ _ _ h he hn=>VR.mono h he hn
 have over:∀{ρ n},VR ρ n (.tuple #[.bool false]) (.tuple #[.bool false]):=fun {ρ n}=>by
  have:=(ArrR.nil (ρ:=ρ) (n:=n)).push (.bool false)
  exact .tuple this.size this.at_
 unfold nextMA nextT
 cases hx with
 | ptr a ha hs =>
  obtain⟨r,o,sp⟩:=a
  dsimp only at hs ha
  subst hs
  cases o with
  | succ o=>exact Sim.halt
  | zero =>
   dsimp only [Ren.addr]
   refine Sim.getObj ha fun ρ1 n1 dd o o' h1 h2 hob=>?_
   rw [← (h1 r ha).1]
   cases hob with
   | mapIter since seen last h =>
    cases h with
    | none=>exact Sim.pure mono over
    | some m hm =>
     dsimp only
     refine Sim.getObj hm fun ρ2 n2 dd o o' h3 h4 hob=>?_
     rw [← (h3 r (by omega)).1,← (h3 m hm).1]
     cases hob with
     | @map es es' clock _ he =>
      dsimp only
      rw [stale_R he.list seen.toList last]
      cases stale es'.toList seen.toList last with
      | true=>exact Sim.halt
      | false =>
       dsimp only
       rcases (cand_R he.list since seen.toList).get' c with ⟨g1,g2⟩|⟨a,b,g1,g2,g3⟩
       ·rw [g1];exact Sim.halt
       ·rw [g1,g2]
        unfold pickC
        cases g3 with
        | none=>exact Sim.pure mono over
        | some hab =>
         dsimp only
         rw [hab.born]
         refine Sim.setObj (by omega) (fun d=>.mapIter _ _ _ (.some m (by omega))) (Sim.pure mono ?_)
         have:=(((ArrR.nil (ρ:=ρ2) (n:=n2)).push (.bool true)).push hab.key).push hab.val
         exact .tuple this.size this.at_
     | _=>exact Sim.halt
   | _=>exact Sim.halt
 | _=>exact Sim.halt
theorem next_drawn {S:AState}{w:World}(hw:WR P B w0 ρ S w) {x x':Value}(hx:VR ρ S.next x x') (t:TypeId) {N:Nat}{u:Value}{S1:AState}(h:runA P (nextMA x 0) S=some ((N,u),S1)) :
  ∃c w1,c<N∧(w1=w∨w1={ w with drawn:=w.drawn+1 })∧(Instr.next x' false t).run P w=(nextT x' c).run P w1:=by
 unfold nextMA at h
 split at h
 case h_2=>simp [stuck,runA] at h
 rename_i r
 cases hx with
 | ptr _ ha hs =>
 rw [runA_bind] at h
 simp only [Go.getObj,runA] at h
 split at h
 case h_2=>cases h
 rename_i o S2 hg
 split at hg
 case h_2=>cases hg
 case h_3=>cases hg
 ·rename_i ob hget
  simp only [Option.some.injEq,Prod.mk.injEq] at hg
  obtain⟨rfl,rfl⟩:=hg
  obtain⟨hlt,o',ho',hob⟩:=hw.obj _ _ hget
  cases ob with
  | mapIter m since seen last =>
   cases hob with
   | mapIter _ _ _ hm =>
    cases hm with
    | none =>
     dsimp only at h
     simp only [runA,Option.some.injEq,Prod.mk.injEq] at h
     obtain⟨⟨rfl,_⟩,_⟩:=h
     refine⟨0,w,by omega,.inl rfl,?_⟩
     simp [Instr.next,nextT,Ren.addr,Go.getObj,bind_eq,Sem.bind,Sem.run,ho',pure_eq]
    | some m hm =>
     dsimp only at h
     rw [runA_bind] at h
     simp only [runA] at h
     split at h
     case h_2=>cases h
     rename_i o2 S3 hg2
     split at hg2
     case h_2=>cases hg2
     case h_3=>cases hg2
     ·rename_i ob2 hget2
      simp only [Option.some.injEq,Prod.mk.injEq] at hg2
      obtain⟨rfl,rfl⟩:=hg2
      obtain⟨hlt2,o2',ho2',hob2⟩:=hw.obj _ _ hget2
      cases ob2 with
      | map es clock =>
       cases hob2 with
       | @map _ es' _ _ he =>
        dsimp only at h
        split at h
        ·simp [stuck,runA] at h
        ·rename_i hst
         have hst':stale es'.toList seen.toList last=false:=by rw [← stale_R he.list];exact hst
         have hlen:=(cand_R he.list since seen.toList).len'
         have hN:N=(candL es.toList since seen.toList).length∧0<N:=by
          split at h
          ·rename_i e hc
           rw [runA_bind] at h
           split at h
           ·simp only [runA,Option.some.injEq,Prod.mk.injEq] at h
            have:=(List.getElem?_eq_some_iff.1 hc).1
            exact⟨h.1.1.symm,by omega⟩
           ·cases h
          ·rename_i hc
           simp only [runA,Option.some.injEq,Prod.mk.injEq] at h
           have:=(List.getElem?_eq_some_iff.1 hc).1
           exact⟨h.1.1.symm,by omega⟩
          ·simp [stuck,runA] at h
         have run1:∀(k:Obj→Sem Value) (w1:World),w1.heap=w.heap→((Go.getObj (ρ.f r)).bind k).run P w1=(k (.mapIter (some (ρ.f m)) since seen last)).run P w1:=by
          intro k w1 h1
          simp only [Go.getObj,Sem.bind,Sem.run,h1]
          rw [show w.heap[ρ.f r]?=_ from ho']
         have run2:∀(k:Obj→Sem Value) (w1:World),w1.heap=w.heap→((Go.getObj (ρ.f m)).bind k).run P w1=(k (.map es' clock)).run P w1:=by
          intro k w1 h1
          simp only [Go.getObj,Sem.bind,Sem.run,h1]
          rw [show w.heap[ρ.f m]?=_ from ho2']
         have eT:∀c w1,w1.heap=w.heap→(nextT (.pointer (some ⟨ρ.f r,0,none⟩)) c).run P w1=(pickC (ρ.f r) (ρ.f m) since seen clock (candL es'.toList since seen.toList)[c]?).run P w1:=by
          intro c w1 h1
          refine (run1 _ w1 h1).trans ?_
          refine (run2 _ w1 h1).trans ?_
          dsimp only
          rw [hst']
         have hcand:=cand_eq es' since seen
         have eN:(Instr.next (.pointer (some ⟨ρ.f r,0,none⟩)) false t).run P w=((choose (.mapNext N)).bind fun c=>pickC (ρ.f r) (ρ.f m) since seen clock (candL es'.toList since seen.toList)[c]?).run P w:=by
          refine (run1 _ w rfl).trans ?_
          refine (run2 _ w rfl).trans ?_
          dsimp only
          rw [if_neg (by rw [stale_eq,hst'];exact Bool.false_ne_true)]
          rw [hN.1,hlen,← hcand]
          simp only [Array.length_toList,Array.getElem?_toList]
          rfl
         have e0:(Value.pointer (some (ρ.addr ⟨r,0,none⟩)))=.pointer (some ⟨ρ.f r,0,none⟩):=rfl
         rw [e0,eN]
         by_cases hf:(Question.mapNext N).forced=true
         ·refine⟨0,w,hN.2,.inl rfl,?_⟩
          rw [eT 0 w rfl]
          simp only [Go.choose,Sem.bind,Sem.run,hf,if_true]
         ·refine⟨(w.tape w.drawn (.mapNext N)) % N,{ w with drawn:=w.drawn+1 },Nat.mod_lt _ hN.2,.inr rfl,?_⟩
          rw [eT _ { w with drawn:=w.drawn+1 } rfl]
          simp only [Go.choose,Sem.bind,Sem.run,hf,Question.cut]
          rfl
      | _=>simp [stuck,runA] at h
  | _=>simp [stuck,runA] at h
end
end Go.Eng
namespace Go.Eng
open Go Go.RowKit
section
variable {P:Program}{B:Nat}{w0:World}{ρ:Ren}
def EndsC (P:Program) (B:Nat) (w0:World) (ρ:Ren) (S:AState) (f0:FuncId) (fr':Frame) (cs' bs:List Frame) (w:World) (k:Value→AState→Bool):Prop :=
 ∃w' ρ' v v' S' frE,k v S'=true∧Steps P (lone fr' (cs'++bs) w) (lone frE bs w')∧frE.leaving P w' (.returned v')∧frE.fn=f0∧Ext S.next ρ ρ'∧S.next≤S'.next∧S'.prot=S.prot∧WR P B w0 ρ' S' w'∧VR ρ' S'.next v v'
theorem EndsC.of_goes {S S2:AState}{f0:FuncId}{fr':Frame}{cs' bs:List Frame}{w:World}{fr2:Frame}{cs2:List Frame}{k:Value→AState→Bool}(h:Goes P B w0 ρ S fr' cs' bs w fr2 cs2 S2)
  (g:∀ρ' fr2' cs2' w',MR P B w0 ρ' S2 fr2 cs2 fr2' cs2' w'→EndsC P B w0 ρ' S2 f0 fr2' cs2' bs w' k):EndsC P B w0 ρ S f0 fr' cs' bs w k:=by
 obtain⟨fr2',cs2',w',ρ',h1,h2,h3,hp,h4⟩:=h
 obtain⟨w'',ρ'',v,v',S',frE,g0,g1,g2,g3,g4,g5,gp,g6,g7⟩:=g ρ' fr2' cs2' w' h4
 exact⟨w'',ρ'',v,v',S',frE,g0,.head h1 g1,g2,g3,h2.trans g4 h3,by omega,gp.trans hp,g6,g7⟩
theorem next_goes {S:AState}{fr fr':Frame}{cs cs' bs:List Frame}{w:World}(hm:MR P B w0 ρ S fr cs fr' cs' w) (hmode:fr.mode=.run) {ops:Array Oper}{i:Nat}{is:List Nat}{rest:List Item}
  (htodo:fr.todo=.inRegion ops (i :: is) :: rest) {dst:Option Tmp}{x:Operand}{ty:TypeId}{pos:String}{after:Array Edge}{guard:Option (Nat×Bool)}
  (ho:ops[i]?=some ⟨dst,.next x false,ty,pos,after,guard⟩) (hwant:Region.wanted ⟨dst,.next x false,ty,pos,after,guard⟩ (yielded ops fr.tmps)=true)
  {m:Nat}{u0:Value}{S1:AState}(h0:runA P ((getV (actOf fr) x).bind fun v=>nextMA v 0) S=some ((m,u0),S1)) :
  ∃c,c<m∧∀m' u S',runA P ((getV (actOf fr) x).bind fun v=>nextMA v c) S=some ((m',u),S')→Goes P B w0 ρ S fr' cs' bs w (fr.finish u) cs S':=by
 obtain⟨v,hv⟩:∃v S2,runA P (getV (actOf fr) x) S=some (v,S2)∧S2=S:=by
  rw [runA_bind] at h0
  split at h0
  ·rename_i v S2 hv
   refine⟨v,S2,hv,?_⟩
   cases x with
   | tmp t=>simp only [getV,runA,Option.some.injEq,Prod.mk.injEq] at hv;exact hv.2.symm
   | const c =>
    simp only [getV] at hv
    split at hv
    ·simp only [runA,Option.some.injEq,Prod.mk.injEq] at hv;exact hv.2.symm
    ·simp [stuck,runA] at hv
   | global g =>
    simp only [getV,Go.program,Sem.bind,runA] at hv
    split at hv
    ·simp only [runA,Option.some.injEq,Prod.mk.injEq] at hv;exact hv.2.symm
    ·simp [stuck,runA] at hv
   | func f=>simp only [getV,runA,Option.some.injEq,Prod.mk.injEq] at hv;exact hv.2.symm
  ·cases h0
 obtain⟨S2,hv,rfl⟩:=hv
 rw [runA_bind,hv] at h0
 dsimp only at h0
 have hR:=getV_run hm.wr hm.base (a:=actOf fr) (a':=actOf fr') hm.fr.tmps x hv
 obtain⟨c,w1,hc,hw1,hrun⟩:=next_drawn hm.wr hR ty h0
 refine⟨c,hc,fun m' u S' h=>?_⟩
 rw [runA_bind,hv] at h
 dsimp only at h
 have hwr1:WR P B w0 ρ S2 w1:=by
  rcases hw1 with rfl | rfl
  ·exact hm.wr
  ·exact hm.wr.drew
 obtain⟨u',w',ρ',g1,g2,g3,gp,g4,g5,_⟩:=sim_nextT (P:=P) (B:=B) (w0:=w0) hR c ρ S2 w1 (Ext.refl _ _) (Nat.le_refl _) hwr1 _ _ h
 have hall:=hm
 obtain⟨hbase,hwr,hfr,hcs⟩:=hm
 obtain⟨xf,xt,xd,xr,xm,xk,xo⟩:=fr
 obtain⟨yf,yt,yd,yr,ym,yk,yo⟩:=fr'
 obtain⟨h1,h2,h3,h4,h5,h6,h7⟩:=hfr
 dsimp only at hmode htodo h1 h2 h3 h4 h5 h6 h7
 subst hmode htodo h1
 cases h5
 cases h3 with
 | @cons _ itm _ k' hi ht =>
 cases hi
 have hy:=yielded_R ops h2
 dsimp only at hwant
 have hk:nextA (⟨xf,xt,.inRegion ops (i :: is) :: rest,xr,.run,xk,xo⟩:Frame) cs P (.value u)=some ((⟨xf,xt,.inRegion ops (i :: is) :: rest,xr,.run,xk,xo⟩:Frame).finish u,cs):=rfl
 obtain⟨f2',c2',k1,k2,k3⟩:=next_sound (P:=P) (hall.fr.mono g2 g3) (hcs.imp fun _ _ h=>h.mono g2 g3) (.value g5) hk
 have g1':(execOp (actOf ⟨xf,yt,.inRegion ops (i :: is) :: k',yr,.run,yk,yo⟩).eval ⟨dst,.next x false,ty,pos,after,guard⟩).run P w=.ok (.value u') w':=by
  have e:execOp (actOf ⟨xf,yt,.inRegion ops (i :: is) :: k',yr,.run,yk,yo⟩).eval ⟨dst,.next x false,ty,pos,after,guard⟩ =
    (Instr.next ((actOf ⟨xf,yt,.inRegion ops (i :: is) :: k',yr,.run,yk,yo⟩).eval x) false ty).bind fun v=>Sem.pure (.value v):=rfl
  rw [e,Sem.run_bind',hrun,g1]
  rfl
 refine⟨f2',c2',w',ρ',step_lone_go ?_,g2,g3,gp,⟨hbase.mono g2 g3,g4,k2,k3⟩⟩
 have hap:=apply_step (P:=P) (bs:=bs) g1' k1 (fun _ _ _ _ h=>by cases h) h6.self (mode_cs hcs)
 rw [← hap]
 have hex:stepG P true { frame:=⟨xf,yt,.inRegion ops (i :: is) :: k',yr,.run,yk,yo⟩,callers:=cs'++bs,status:=.running,dying:=none } w =
   stepG.oper P true ⟨xf,yt,.inRegion ops (i :: is) :: k',yr,.run,yk,yo⟩ (cs'++bs) none w:=by
  simp [stepG,stepG.exec,ho,← hy,hwant]
 rw [hex]
 unfold stepG.oper
 simp only [Frame.oper?,ho]
 rw [eval_act]
def isV (v:Value):Value→AState→Bool:=fun u _=>closedV 64 u && eqV 64 u v
end
end Go.Eng
namespace Go.Eng
open Go Go.RowKit
section
variable {P:Program}{B:Nat}{w0:World}{q:Bool}{ρ:Ren}{n:Nat}
end
end Go.Eng
namespace Go.Eng
open Go Go.RowKit
noncomputable def storeB {β:Type}(a:Addr) (v:Value) (ih:AState→Option β) (S:AState):Option β:=match oneCell v with
  | true=>match Nat.ble S.prot a.block with
   | true=>match S.heap.get a.block with
    | some (.cells c n e lo hi g) =>
     match a.spot.isNone && Nat.ble (a.off+1) n && Nat.ble lo hi && !(Nat.ble lo a.off && Nat.ble (a.off+1) hi) with
     | true=>ih (S.set a.block (.cells (c.set a.off (some v)) n e lo hi g))
     | false=>none
    | _=>none
   | false=>none
  | false=>none
noncomputable def newB {β:Type}(o:Obj) (ih:Nat→AState→Option β) (S:AState):Option β:=match okNew o with
  | true=>ih S.next (S.push (.of o))
  | false=>none
noncomputable def shapeB {β:Type}(r:Nat) (ih:Option (TypeId×Nat)→AState→Option β) (S:AState):Option β:=match S.heap.get r with
  | some (.cells _ n e _ _ false)=>ih (some (e,n)) S
  | some (.cells _ _ _ _ _ true)=>none
  | some _=>ih none S
  | none=>none
noncomputable def getObjB {β:Type}(r:Nat) (ih:Obj→AState→Option β) (S:AState):Option β:=match S.heap.get r with
  | some (.rest o)=>ih o S
  | some (.cells ..)=>none
  | none=>none
noncomputable def setObjB {β:Type}(r:Nat) (o:Obj) (ih:AState→Option β) (S:AState):Option β:=match Nat.ble S.prot r with
  | true=>match S.heap.get r with
   | some (.cells ..)=>none
   | some (.rest _)=>match o with
    | .cells _ _ _=>none
    | o=>match okNew o with
     | true=>ih (S.set r (.rest o))
     | false=>none
   | none=>none
  | false=>none
noncomputable def loadB {β:Type}(a:Addr) (ih:Value→AState→Option β) (S:AState):Option β:=match cellA S a with
  | some v=>ih v S
  | none=>none
noncomputable def chooseB {β:Type}(q:Question) (ih:Nat→AState→Option β) (S:AState):Option β:=match q.forced with
  | true=>ih 0 S
  | false=>none
noncomputable def runB {α:Type}(P:Program) (t:Sem α):AState→Option (α×AState) :=
 Sem.rec (motive:=fun _=>AState→Option (α×AState)) (fun a S=>some (a,S)) (fun _ a _ ih=>loadB a ih) (fun _ a v _ ih=>storeB a v ih) (fun o _ ih=>newB o ih) (fun r _ ih=>shapeB r ih)
  (fun _ _ _ _ _=>none) (fun _ _ _ _=>none) (fun r _ ih=>getObjB r ih) (fun r o _ ih=>setObjB r o ih) (fun q _ ih=>chooseB q ih) (fun _ _ _ _=>none) (fun _ ih=>ih P) (fun _ _ ih=>ih) (fun _ _=>none) t
theorem runB_eq {α:Type}(P:Program) (t:Sem α):∀S,runB P t S=runA P t S:=by
 induction t with
 | pure a=>intro S;rfl
 | load m a k ih =>
  intro S
  show loadB a (fun v=>runB P (k v)) S=_
  unfold loadB
  simp only [ih,runA]
  rfl
 | store m a v k ih =>
  intro S
  show storeB a v (runB P k) S=_
  unfold storeB
  simp only [ih,runA]
  rfl
 | new o k ih =>
  intro S
  show newB o (fun v=>runB P (k v)) S=_
  unfold newB
  simp only [ih,runA]
  rfl
 | shape r k ih =>
  intro S
  show shapeB r (fun v=>runB P (k v)) S=_
  unfold shapeB
  simp only [ih,runA]
  rfl
 | freeze a n k ih=>intro S;rfl
 | frozen a k ih=>intro S;rfl
 | getObj r k ih =>
  intro S
  show getObjB r (fun v=>runB P (k v)) S=_
  unfold getObjB
  simp only [ih,runA]
  rfl
 | setObj r o k ih =>
  intro S
  show setObjB r o (runB P k) S=_
  unfold setObjB
  simp only [ih,runA]
  rfl
 | choose q k ih =>
  intro S
  show chooseB q (fun v=>runB P (k v)) S=_
  unfold chooseB
  simp only [ih,runA]
  rfl
 | sys c k ih=>intro S;rfl
 | program k ih=>intro S;exact ih P S
 | mark m k ih=>intro S;exact ih S
 | halt h=>intro S;rfl
noncomputable def cycQ (full:List Value) (n:Nat):List Value→List Value:=Nat.rec (motive:=fun _=>List Value→List Value) (fun _=>[]) (fun _ ih cur=>match cur with
 | []=>match full with
  | []=>default :: ih []
  | x :: r=>x :: ih r
 | x :: r=>x :: ih r) n
noncomputable def rowQ (n:Nat) (z:Array Value):Array Value:=⟨cycQ z.toList n z.toList⟩
theorem cycQ_nil (z:Array Value) (h0:z.size=0):∀n i,cycQ [] n []=(List.range' i n).map fun i=>z[i % z.size]!:=by
 intro n
 induction n with
 | zero=>intro i;rfl
 | succ n ih =>
  intro i
  rw [List.range'_succ,List.map_cons,← ih (i+1)]
  have h1:z[i % z.size]! = default:=by
   rw [getElem!_neg]
   rw [h0]
   omega
  rw [h1]
  rfl
theorem cycQ_eq (z:Array Value) (h0:0<z.size):∀n i j,j≤z.size→j % z.size=i % z.size→cycQ z.toList n (z.toList.drop j)=(List.range' i n).map fun i=>z[i % z.size]!:=by
 intro n
 induction n with
 | zero=>intro i j _ _;rfl
 | succ n ih =>
  intro i j hj hm
  rw [List.range'_succ,List.map_cons]
  have hlt:i % z.size<z.size:=Nat.mod_lt _ h0
  have hl:z.toList.length=z.size:=by simp
  have hstep:z.toList[i % z.size]'(by rw [hl];exact hlt) :: cycQ z.toList n (z.toList.drop (i % z.size+1))=z[i % z.size]! :: (List.range' (i+1) n).map fun i=>z[i % z.size]!:=by
   rw [ih (i+1) (i % z.size+1) (by omega) (by rw [Nat.add_mod,Nat.mod_mod,← Nat.add_mod])]
   rw [getElem!_pos z (i % z.size) hlt]
   rfl
  have hd:z.toList.drop (i % z.size)=z.toList[i % z.size]'(by rw [hl];exact hlt) :: z.toList.drop (i % z.size+1):=List.drop_eq_getElem_cons (by rw [hl];exact hlt)
  rw [← hstep]
  rcases Nat.lt_or_ge j z.size with hjl | hjl
  ·rw [Nat.mod_eq_of_lt hjl] at hm
   rw [hm,hd]
   rfl
  ·have hje:j=z.size:=by omega
   have h00:i % z.size=0:=by rw [← hm,hje,Nat.mod_self]
   rw [List.drop_of_length_le (by rw [hl];omega)]
   generalize i % z.size=k at *
   subst h00
   rw [List.drop_zero] at hd
   generalize List.drop (0+1) z.toList=t at *
   generalize z.toList[0]'(by rw [hl];exact hlt)=y at *
   show (match z.toList with
    | []=>default :: cycQ z.toList n []
    | x :: r=>x :: cycQ z.toList n r)=_
   rw [hd]
theorem rowQ_eq (n:Nat) (z:Array Value):((Array.range n).map fun x=>z[x % z.size]!)=rowQ n z:=by
 apply Array.ext'
 rw [Array.toList_map,Array.toList_range]
 show _=cycQ z.toList n z.toList
 rcases Nat.eq_zero_or_pos z.size with h0 | h0
 ·have hl:z.toList=[]:=List.eq_nil_of_length_eq_zero (by simpa using h0)
  rw [hl,cycQ_nil z h0 n 0,List.range_eq_range']
 ·rw [List.range_eq_range',← cycQ_eq z h0 n 0 0 (Nat.zero_le _) rfl]
  rfl
noncomputable def makeQ (t:TypeId) (v u:Value):{s:Sem Value // Instr.makeSlice t v u=s}:=by
 refine⟨?s,?h⟩
 case h =>
  unfold Instr.makeSlice
  simp only [rowQ_eq]
  exact rfl
theorem makeQ_val (t:TypeId) (v u:Value):(makeQ t v u).1=Instr.makeSlice t v u:=(makeQ t v u).2.symm
noncomputable def opG (o:Op):Act→(Call→Sem Next)→Sem Next :=
 match o with
 | .move x=>fun a _=>(getV a x).bind fun v=>Sem.pure (.value v)
 | .assign x=>fun a _=>(getV a x).bind fun v=>Sem.pure (.value v)
 | .pick c x y=>fun a _=>(getV a c).bind fun c=>(asBool c).bind fun t=>match t with
  | true=>(getV a x).bind fun v=>Sem.pure (.value v)
  | false=>(getV a y).bind fun v=>Sem.pure (.value v)
 | .alloc e=>fun _ _=>val (Instr.alloc e true (.tuple #[]))
 | .box e x=>fun a _=>(getV a x).bind fun v=>val (Instr.box e v)
 | .build t ps=>fun a _=>(getPs a ps.toList).bind fun l=>val (buildF t l)
 | .buildSlice t len ps=>fun a _=>(getPs a ps.toList).bind fun l=>val (buildSliceF t len l)
 | .load t x=>fun a _=>(getV a x).bind fun v=>val (loadAtA t v)
 | .store t x y=>fun a _=>(getV a x).bind fun v=>(getV a y).bind fun u=>(Instr.storeAt t v u).bind fun _=>Sem.pure .skip
 | .nilCheck x=>fun a _=>(getV a x).bind fun v=>nilA v
 | .binOp op t x y _=>fun a _=>(getV a x).bind fun v=>(getV a y).bind fun u=>val (binA op t x y v u)
 | .unOp op _ x=>fun a _=>(getV a x).bind fun v=>val (unA op v)
 | .convert s d x=>fun a _=>(getV a x).bind fun v=>val (convertA s d v)
 | .makeInterface t x=>fun a _=>(getV a x).bind fun v=>val (Instr.makeInterface t v)
 | .makeFunc fn first captured=>fun a _=>match okFn fn with
  | true=>(getVs a first.toList).bind fun x=>(getVs a captured.toList).bind fun y=>val (Instr.makeFunc fn x.toArray y.toArray)
  | false=>stuck ""
 | .makeSlice t l c=>fun a _=>(getV a l).bind fun v=>(getV a c).bind fun u=>val (makeQ t v u).1
 | .slice t x lo hi mx=>fun a _=>(getV a x).bind fun v=>(getO a lo).bind fun l=>(getO a hi).bind fun h=>(getO a mx).bind fun m=>val (sliceA t v l h m)
 | .fieldAddr s x f=>fun a _=>(getV a x).bind fun v=>val (fieldAtA s v f)
 | .field t x f=>fun a _=>(getV a x).bind fun v=>val (fieldF t v f)
 | .indexAddr t x i=>fun a _=>(getV a x).bind fun v=>(getV a i).bind fun u=>val (Instr.indexAt t v u)
 | .sliceToArrayPointer t x=>fun a _=>(getV a x).bind fun v=>val (arrayAtA t v)
 | .index t x i=>fun a _=>(getV a x).bind fun v=>(getV a i).bind fun u=>val (indexF t v u)
 | .typeAssert x t u ok=>fun a _=>(getV a x).bind fun v=>val (Instr.typeAssert v t u ok)
 | .extract x i=>fun a _=>(getV a x).bind fun v=>val (Instr.extract v i)
 | .call c=>fun _ h=>h c
 | .defer c=>fun a _=>deferA a c
 | .makeMap t r=>fun a _=>(getO a r).bind fun h=>val (Instr.makeMap t h)
 | .lookup t x i ok=>fun a _=>(getV a x).bind fun v=>(getV a i).bind fun u=>val (lookupA t v u ok)
 | .mapUpdate t m k x=>fun a _=>(getV a m).bind fun v=>(getV a k).bind fun u=>(getV a x).bind fun y=>(mapUpdateA t v u y).bind fun _=>Sem.pure .skip
 | .insert t m k x=>fun a _=>(getV a m).bind fun v=>(getV a k).bind fun u=>(getV a x).bind fun y=>(mapUpdateA t v u y).bind fun _=>Sem.pure .skip
 | .mapEntry t m k=>fun a _=>(getV a m).bind fun v=>(getV a k).bind fun u=>val (mapEntryA t v u)
 | .entryStore _ m s x=>fun a _=>(getV a m).bind fun v=>(getV a s).bind fun u=>(getV a x).bind fun y=>(entryStoreA v u y).bind fun _=>Sem.pure .skip
 | .range t x=>fun a _=>(getV a x).bind fun v=>val (rangeA t v)
 | .next x true=>fun a _=>(getV a x).bind fun v=>val (nextTextA v)
 | .entry x=>fun a _=>(getV a x).bind fun v=>val (entryA v)
 | _=>fun _ _=>stuck ""
noncomputable def opB {P:Program}(E:Env P) (a:Act) (o:Oper):Sem Next:=opG o.op a (callA E a)
theorem opB_eq {P:Program}(E:Env P) (a:Act) (o:Oper):opB E a o=opA E a o:=by
 obtain⟨dst,op,ty,pos,after,guard⟩:=o
 cases op
 case makeSlice t l c =>
  show ((getV a l).bind fun v=>(getV a c).bind fun u=>val (makeQ t v u).1)=_
  simp only [makeQ_val]
  rfl
 all_goals first | rfl | (rename_i x b;cases b<;>rfl)
end Go.Eng
