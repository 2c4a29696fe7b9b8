/- The closed run of a Go program whose memory is known only up to a renaming of blocks: what it computes is true of every world and tape. No conditions. -/
import Derived.Test.YtejeflddeanccaaGreatDoorEng3
set_option linter.unusedSimpArgs false
set_option linter.unusedVariables false
set_option linter.deprecated false
set_option linter.unnecessarySimpa false
namespace Go.Eng
open Go Go.RowKit
abbrev Picks:=List (Nat×Nat)
noncomputable def forkQ (m:Nat) (p:Picks) (g:Nat→Picks→Bool):Bool:=match p with
 | []=>(List.range m).all fun c=>g c []
 | (c,M) :: p'=>Nat.ble m M && match Nat.ble m c with
  | true=>true
  | false=>g c p'
noncomputable def forkP (m:Nat) (p:Picks) (g:Nat→Picks→Bool):Bool:=match Nat.ble m 1 with
 | true=>(List.range m).all fun c=>g c p
 | false=>forkQ m p g
noncomputable def treeP {P:Program}(E:Env P) (call:FuncId→Array Value→AState→Picks→(Value→AState→Picks→Bool)→Bool) (ops:Array Oper) (k:Act→AState→Picks→Bool):Nat→List Nat→List Nat→Act→AState→Picks→Bool
 | 0,_,_,_,_,_=>false
 | n+1,X,L0,A0,S,p=>match closeF E ops S ops.toList 0 L0 A0 with
  | none=>false
  | some (L,A)=>nodeF E ops X L A S ops.toList 0 && match nexts L ops.toList 0 with
   | []=>k A S p
   | l=>l.all fun q=>match stepOpF E A q.2 S with
    | some (.value v,S')=>treeP E call ops k n (q.1 :: X) (q.1 :: L) (ptF A q.2.dst v) S' p
    | some (.skip,S')=>treeP E call ops k n (q.1 :: X) (q.1 :: L) (ptF A q.2.dst undef) S' p
    | some (.enter f args,S')=>call f args S' p fun v S'' p'=>treeP E call ops k n (q.1 :: X) (q.1 :: L) (ptF A q.2.dst v) S'' p'
    | _=>false
noncomputable def runP {P:Program}(E:Env P) (O:Orc P):Nat→FuncId→Frame→List Frame→AState→Picks→(Value→AState→Picks→Bool)→Bool
 | 0,_,_,_,_,_,_=>false
 | n+1,f0,fr,cs,S,p,k=>match fr.mode with
  | .run=>match answeredF E O fr S with
   | some (v,S')=>runP E O n f0 (finF fr v) cs S' p k
   | none=>match fr.todo with
    | .code (.region _ ops true) :: rest=>match fr.roundOf with
     | none=>wfFrom ops 0 ops.toList &&
       treeP E (fun f args S' p' k'=>match askA f args.toList S' O with
       | some (v,S2)=>k' v S2 p'
       | none=>runP E O n f (enterF P f args .normal) [] S' p' k') ops (fun A S' p'=>runP E O n f0 (bothF fr A.tmps rest) cs S' p' k) (ops.size+1) [] [] (actOf fr) S p
     | some _=>false
    | .inRegion ops (i :: _) :: _=>match ops[i]? with
     | some ⟨dst,.next x false,ty,pos,after,guard⟩=>match wantedF ops ⟨dst,.next x false,ty,pos,after,guard⟩ fr.tmps with
      | false=>runP E O n f0 (finF fr undef) cs S p k
      | true=>match runB P ((getV (actOf fr) x).bind fun v=>nextMA v 0) S with
       | some ((m,_),_)=>forkP m p fun c p'=>match runB P ((getV (actOf fr) x).bind fun v=>nextMA v c) S with
         | some ((_,u),S')=>runP E O n f0 (finF fr u) cs S' p' k
         | none=>false
       | none=>false
     | _=>match runStepF E fr cs S with
      | some (f,c,S')=>runP E O n f0 f c S' p k
      | none=>false
    | _=>match runStepF E fr cs S with
     | some (f,c,S')=>runP E O n f0 f c S' p k
     | none=>false
  | .returning=>match fr.defers,cs with
   | [],[]=>match decide (fr.fn=f0),fr.kind with
    | true,.normal=>match P.funcs[fr.fn]? with
     | some fn=>match runB P (resultsF fn fr.tmps) S with
      | some (v,S')=>k v S' p
      | none=>false
     | none=>false
    | _,_=>false
   | _,_=>match leaveStepF E fr cs S with
    | some (f,c,S')=>runP E O n f0 f c S' p k
    | none=>false
  | _=>false
section
variable {P:Program}
theorem treeP_nil (E:Env P) {call:FuncId→Array Value→AState→Picks→(Value→AState→Picks→Bool)→Bool}{call':FuncId→Array Value→AState→(Value→AState→Bool)→Bool}
  (hcall:∀f a S k,call f a S [] k=call' f a S (fun v S'=>k v S' [])) (ops:Array Oper) (k:Act→AState→Picks→Bool) :
  ∀(n:Nat) (X L:List Nat) (A:Act) (S:AState),treeP E call ops k n X L A S []=treeF E call' ops (fun A S=>k A S []) n X L A S:=by
 intro n
 induction n with
 | zero=>intro X L A S;rfl
 | succ n ih =>
  intro X L A S
  unfold treeP treeF
  simp only [ih,hcall]
  rfl
theorem forkP_nil (m:Nat) (g:Nat→Picks→Bool):forkP m [] g=(List.range m).all fun c=>g c []:=by
 unfold forkP
 split<;>rfl
theorem runP_nil (E:Env P) (O:Orc P):∀(n:Nat) (f0:FuncId) (fr:Frame) (cs:List Frame) (S:AState) (k:Value→AState→Picks→Bool),runP E O n f0 fr cs S [] k=runF E O n f0 fr cs S (fun v S'=>k v S' []):=by
 intro n
 induction n with
 | zero=>intro f0 fr cs S k;rfl
 | succ n ih =>
  intro f0 fr cs S k
  have hcall:∀(f:FuncId) (a:Array Value) (S:AState) (k:Value→AState→Picks→Bool),(match askA f a.toList S O with
      | some (v,S2)=>k v S2 []
      | none=>runP E O n f (enterF P f a .normal) [] S [] k)=(match askA f a.toList S O with
      | some (v,S2)=>k v S2 []
      | none=>runF E O n f (enterF P f a .normal) [] S (fun v S'=>k v S' [])):=by
   intro f a S k
   split
   ·rfl
   ·exact ih ..
  have htree:∀(fr:Frame) (rest:List Item) (ops:Array Oper) (m:Nat) (A:Act) (S:AState),treeP E (fun f args S' p' k'=>match askA f args.toList S' O with
      | some (v,S2)=>k' v S2 p'
      | none=>runP E O n f (enterF P f args .normal) [] S' p' k') ops (fun A S' p'=>runP E O n f0 (bothF fr A.tmps rest) cs S' p' k) m [] [] A S [] =
    treeF E (fun f args S' k'=>match askA f args.toList S' O with
      | some (v,S2)=>k' v S2
      | none=>runF E O n f (enterF P f args .normal) [] S' k') ops (fun A S'=>runF E O n f0 (bothF fr A.tmps rest) cs S' (fun v S'=>k v S' [])) m [] [] A S:=by
   intro fr rest ops m A S
   rw [treeP_nil E (call':=fun f args S' k'=>match askA f args.toList S' O with
      | some (v,S2)=>k' v S2
      | none=>runF E O n f (enterF P f args .normal) [] S' k') hcall]
   simp only [ih]
  unfold runP runF
  simp only [ih,forkP_nil,htree]
  rfl
def Joins (M:Nat) (F:Picks→Bool):Prop:=∀p,(∀c,c<M→F (p++[(c,M)])=true)→F p=true
theorem Joins.fork {M:Nat}(hM:0<M) {m:Nat}{g:Nat→Picks→Bool}(hg:∀c,Joins M (g c)):Joins M (fun p=>forkP m p g):=by
 intro p h
 dsimp only at h ⊢
 unfold forkP at h ⊢
 cases hb:Nat.ble m 1 with
 | true =>
  simp only [hb,List.all_eq_true] at h ⊢
  exact fun c hc=>hg c p fun c' hc'=>h c' hc' c hc
 | false =>
 simp only [hb] at h ⊢
 cases p with
 | nil =>
  have h0:=h 0 hM
  simp only [List.nil_append,forkQ,Bool.and_eq_true] at h h0 ⊢
  rw [List.all_eq_true]
  intro c hc
  rw [List.mem_range] at hc
  have hm:m≤M:=Nat.le_of_ble_eq_true h0.1
  have h1:=(h c (by omega)).2
  have e:Nat.ble m c=false:=by
   rw [Bool.eq_false_iff]
   intro e
   have:=Nat.le_of_ble_eq_true e
   omega
  rw [e] at h1
  exact h1
 | cons x p =>
  obtain⟨c0,M0⟩:=x
  have h0:=h 0 hM
  simp only [List.cons_append,forkQ,Bool.and_eq_true] at h h0 ⊢
  refine⟨h0.1,?_⟩
  cases hb:Nat.ble m c0 with
  | true=>rfl
  | false =>
   simp only [hb] at h ⊢
   exact hg c0 p fun c hc=>(h c hc).2
theorem treeP_joins {M:Nat}(hM:0<M) (E:Env P) {call:FuncId→Array Value→AState→Picks→(Value→AState→Picks→Bool)→Bool}
  (hcall:∀f a S k,(∀v S',Joins M (k v S'))→Joins M (fun p=>call f a S p k)) (ops:Array Oper) (k:Act→AState→Picks→Bool) (hk:∀A S,Joins M (k A S)) :
  ∀(n:Nat) (X L:List Nat) (A:Act) (S:AState),Joins M (fun p=>treeP E call ops k n X L A S p):=by
 intro n
 induction n with
 | zero=>intro X L A S p h;exact h 0 hM
 | succ n ih =>
  intro X L A S p h
  dsimp only at h ⊢
  unfold treeP at h ⊢
  cases hc:closeF E ops S ops.toList 0 L A with
  | none=>simp only [hc] at h;exact absurd (h 0 hM) (by simp)
  | some y =>
   obtain⟨L',A'⟩:=y
   simp only [hc,Bool.and_eq_true] at h ⊢
   refine⟨(h 0 hM).1,?_⟩
   cases hn:nexts L' ops.toList 0 with
   | nil=>simp only [hn] at h ⊢;exact hk _ _ p fun c hc=>(h c hc).2
   | cons q0 r =>
    simp only [hn,List.all_eq_true] at h ⊢
    intro q hq
    have hh:=fun c hc=>(h c hc).2 q hq
    cases hs:stepOpF E A' q.2 S with
    | none=>simp only [hs] at hh;exact absurd (hh 0 hM) (by simp)
    | some z =>
     obtain⟨nx,S'⟩:=z
     cases nx with
     | value v=>simp only [hs] at hh ⊢;exact ih _ _ _ _ p hh
     | skip=>simp only [hs] at hh ⊢;exact ih _ _ _ _ p hh
     | enter f args=>simp only [hs] at hh ⊢;exact hcall _ _ _ _ (fun v S''=>ih _ _ _ _) p hh
     | _=>simp only [hs] at hh;exact absurd (hh 0 hM) (by simp)
theorem runP_joins {M:Nat}(hM:0<M) (E:Env P) (O:Orc P):∀(n:Nat) (f0:FuncId) (fr:Frame) (cs:List Frame) (S:AState) (k:Value→AState→Picks→Bool),(∀v S,Joins M (k v S))→Joins M (fun p=>runP E O n f0 fr cs S p k):=by
 intro n
 induction n with
 | zero=>intro f0 fr cs S k _ p h;exact h 0 hM
 | succ n ih =>
  intro f0 fr cs S k hk p h
  have no:∀{Q:Prop},(∀c,c<M→false=true)→Q:=fun h=>absurd (h 0 hM) (by simp)
  have plain:(∀c,c<M→(match runStepF E fr cs S with
     | some (f,c',S')=>runP E O n f0 f c' S' (p++[(c,M)]) k
     | none=>false)=true)→(match runStepF E fr cs S with
     | some (f,c',S')=>runP E O n f0 f c' S' p k
     | none=>false)=true:=by
   intro h
   cases hs:runStepF E fr cs S with
   | none=>simp only [hs] at h;exact no h
   | some z=>obtain⟨f,c',S'⟩:=z;simp only [hs] at h ⊢;exact ih _ _ _ _ _ hk p h
  dsimp only at h ⊢
  unfold runP at h ⊢
  split
  ·rename_i hmode
   simp only [hmode] at h
   split
   ·rename_i v S' ha
    simp only [ha] at h
    exact ih _ _ _ _ _ hk p h
   ·rename_i ha
    simp only [ha] at h
    split
    ·rename_i id ops rest htodo
     simp only [htodo] at h
     split
     ·rename_i hro
      simp only [hro,Bool.and_eq_true] at h ⊢
      refine⟨(h 0 hM).1,?_⟩
      refine treeP_joins hM E (fun f a S k' hk' p h=>?_) ops _ (fun A S'=>ih _ _ _ _ _ hk) _ _ _ _ _ p fun c hc=>(h c hc).2
      dsimp only at h ⊢
      split
      ·rename_i v S2 hv
       simp only [hv] at h
       exact hk' _ _ p h
      ·rename_i hv
       simp only [hv] at h
       exact ih _ _ _ _ _ hk' p h
     ·rename_i hro
      simp only [hro] at h
      exact no h
    ·rename_i ops i is rest htodo
     simp only [htodo] at h
     split
     ·rename_i dst x ty pos after guard ho
      simp only [ho] at h
      split
      ·rename_i hw
       simp only [hw] at h
       exact ih _ _ _ _ _ hk p h
      ·rename_i hw
       simp only [hw] at h
       split
       ·rename_i m u0 S1 h0
        simp only [h0] at h
        refine Joins.fork hM (fun c0=>?_) p h
        intro p h
        dsimp only at h ⊢
        split
        ·rename_i m' u S' hr
         simp only [hr] at h
         exact ih _ _ _ _ _ hk p h
        ·rename_i hr
         simp only [hr] at h
         exact no h
       ·rename_i h0
        simp only [h0] at h
        exact no h
     ·rename_i hno
      simp only [hno] at h
      exact plain h
    ·rename_i h1 h2
     simp only [h1,h2] at h
     exact plain h
  ·rename_i hmode
   simp only [hmode] at h
   split
   ·rename_i hd
    simp only [hd] at h
    split
    ·rename_i e1 e2
     simp only [e1,e2] at h
     split
     ·rename_i fn hf
      simp only [hf] at h
      split
      ·rename_i v S' hr
       simp only [hr] at h
       exact hk _ _ p h
      ·rename_i hr
       simp only [hr] at h
       exact no h
     ·rename_i hf
      simp only [hf] at h
      exact no h
    ·rename_i e1
     simp only [e1] at h
     exact no h
   ·rename_i hd
    simp only [hd] at h
    split
    ·rename_i f c' S' hl
     simp only [hl] at h
     exact ih _ _ _ _ _ hk p h
    ·rename_i hl
     simp only [hl] at h
     exact no h
  ·rename_i h1 h2
   simp only [h1,h2] at h
   exact no h
def isVP (v:Value):Value→AState→Picks→Bool:=fun u S _=>isV v u S
theorem calls_of_runP (E:Env P) (O:Orc P) (hmix:P.follows .mixedOrders=true) {N:Nat}(hN:P.globals.size+5=N) (fuel:Nat) (f:FuncId) (args:List Value) (hc:args.all (closedV 64)=true) {v:Value}
  (h:runP E O fuel f (enterF P f args.toArray .normal) [] (S0 N) [] (isVP v)=true) (w:World) (hw:P.globals.size+5≤w.heap.size) (hgd:O.good w.heap.size w:=by trivial) :
  Calls P f args.toArray w fun e w'=>e=.returned v∧Below w.heap.size w w':=by
 rw [runP_nil] at h
 exact calls_of_runZ E O hmix hN fuel f args hc h w hw hgd
noncomputable def isSP (v:Value) (S:AState) (ids:List Nat):Value→AState→Picks→Bool:=fun u T _=>isS v S ids u T
theorem isSP_joins (M:Nat) (hM:0<M) (v:Value) (S':AState) (ids:List Nat):∀u T,Joins M (isSP v S' ids u T):=fun u T p h=>h 0 hM
theorem runP_twoS (E:Env P) (O:Orc P) {n:Nat}{f0:FuncId}{fr:Frame}{cs:List Frame}{S S':AState}{v:Value}{ids:List Nat}{p:Picks}(h0:runP E O n f0 fr cs S (p++[(0,2)]) (isSP v S' ids)=true) (h1:runP E O n f0 fr cs S (p++[(1,2)]) (isSP v S' ids)=true) :
  runP E O n f0 fr cs S p (isSP v S' ids)=true :=
 runP_joins (M:=2) (by omega) E O n f0 fr cs S _ (isSP_joins 2 (by omega) v S' ids) p fun c hc=>by
  match c,hc with
  | 0,_=>exact h0
  | 1,_=>exact h1
theorem ans_of_runP (E:Env P) (O:Orc P) (hmix:P.follows .mixedOrders=true) {fuel:Nat}{f:FuncId}{args:List Value}{S S':AState}{v:Value}{ids:List Nat}
  (h:runP E O fuel f (enterF P f args.toArray .normal) [] S [] (isSP v S' ids)=true) (B:Nat) (w0:World) (ρ:Ren) (w:World) (args':Array Value) (hgd:O.good B w0) (hb:Base P ρ S.next) (hw:WR P B w0 ρ S w) (ha:ArrR ρ S.next args.toArray args') :
  Calls P f args' w (GivesM P B w0 ρ S v S'):=by
 rw [runP_nil] at h
 exact ans_of_runZ E O hmix h B w0 ρ w args' hgd hb hw ha
noncomputable def layS (S:AState) (o:Option AObj):AState:=AState.rec (motive:=fun _=>AState) (fun h n p=>⟨h.set n o,n+1,p⟩) S
noncomputable def mkS (N:Nat) (l:List (Option AObj)):AState:=l.foldl layS ⟨.nil,N,N⟩
end
end Go.Eng
namespace Go.Eng
open Go Go.RowKit
def flatV (v:Value):Bool:=v.cells.toList.all (closedV 62)
def zeroT (l:List TypeInfo):Bool:=l.all fun i=>match i.zero with
 | some v=>flatV v
 | none=>true
theorem closed_up:∀(m:Nat) (v:Value),closedV m v=true→closedV (m+1) v=true:=by
 intro m
 induction m with
 | zero=>intro v h;simp [closedV] at h
 | succ m ih =>
  have up:∀{x:Array Value},x.toList.all (closedV m)=true→x.toList.all (closedV (m+1))=true:=by
   intro x h
   rw [List.all_eq_true] at h ⊢
   exact fun a ha=>ih a (h a ha)
  intro v h
  cases v with
  | pointer a=>cases a<;>first | rfl | (simp [closedV] at h)
  | slice a l c=>cases a<;>first | rfl | (simp [closedV] at h)
  | map a=>cases a<;>first | rfl | (simp [closedV] at h)
  | chan a=>cases a<;>first | rfl | (simp [closedV] at h)
  | agg x=>unfold closedV at h ⊢;exact up h
  | tuple x=>unfold closedV at h ⊢;exact up h
  | func fn x y =>
   unfold closedV at h ⊢
   rw [Bool.and_eq_true,Bool.and_eq_true] at h ⊢
   exact⟨⟨h.1.1,up h.1.2⟩,up h.2⟩
  | iface t v=>unfold closedV at h ⊢;exact ih _ h
  | _=>first | rfl | (simp [closedV] at h)
theorem flat_closed {v:Value}(h:flatV v=true):closedV 64 v=true:=by
 unfold flatV at h
 cases v with
 | agg x=>refine closed_up 63 _ ?_;unfold closedV;exact h
 | _=>exact closed_up 63 _ (closed_up 62 _ (by simpa [Value.cells] using h))
theorem forIn_inv {α σ:Type}(f:α→σ→Option (ForInStep σ)) (I:σ→Prop) (h:∀a s r,I s→f a s=some r→match r with | .done b=>I b | .yield b=>I b) :
  ∀(l:List α) (s r:σ),I s→forIn l s f=some r→I r:=by
 intro l
 induction l with
 | nil =>
  intro s r hs hr
  rw [List.forIn_nil] at hr
  cases hr
  exact hs
 | cons a l ih =>
  intro s r hs hr
  rw [List.forIn_cons] at hr
  cases hf:f a s with
  | none=>rw [hf] at hr;cases hr
  | some x =>
   have h1:=h a s x hs hf
   rw [hf] at hr
   cases x with
   | done b=>cases hr;exact h1
   | yield b=>exact ih b r h1 hr
theorem struct_flat {info:TypeId→Option TypeInfo}(h:∀t i v,info t=some i→i.zero=some v→flatV v=true) {fs:Array Field}{i:TypeInfo}{v:Value}(hr:Made.reckonStruct info fs=some i) (hv:i.zero=some v):flatV v=true:=by
 unfold Made.reckonStruct at hr
 simp only [bind,Option.bind_eq_some_iff] at hr
 obtain⟨r,hr,hi⟩:=hr
 rw [← Array.forIn_toList] at hr
 have hI:=forIn_inv _ (fun s:Array Field×Nat×Nat×Nat×Nat×Bool×Bool×Option (Array Value)×String=>∀z,s.2.2.2.2.2.2.2.1=some z→z.toList.all (closedV 62)=true) (fun a s r hs hf=>?_) fs.toList _ r (fun z hz=>by cases hz;rfl) hr
 ·have hz:∃z,r.2.2.2.2.2.2.2.1=some z∧v=.agg z:=by
   split at hi
   all_goals
    cases hi
    dsimp only at hv
    obtain⟨z,h1,h2⟩:=Option.map_eq_some_iff.1 hv
    exact⟨z,h1,h2.symm⟩
  obtain⟨z,h1,rfl⟩:=hz
  exact hI z h1
 ·obtain⟨i',hi',hf⟩:=Option.bind_eq_some_iff.1 hf
  have key:∀z,(if s.2.1+i'.size > Made.mostCells then none else s.2.2.2.2.2.2.2.1.bind fun x=>i'.zero.bind fun y=>pure (x++y.cells))=some z→z.toList.all (closedV 62)=true:=by
   intro z hz
   split at hz
   ·cases hz
   ·obtain⟨z0,h0,hz⟩:=Option.bind_eq_some_iff.1 hz
    obtain⟨z1,h1,hz⟩:=Option.bind_eq_some_iff.1 hz
    cases hz
    have h2:=h _ _ _ hi' h1
    unfold flatV at h2
    rw [Array.toList_append,List.all_append,hs z0 h0,h2]
    rfl
  split at hf
  ·cases hf
  ·split at hf
   ·cases hf
   ·split at hf
    all_goals
     obtain⟨tag,_,hf⟩:=Option.bind_eq_some_iff.1 hf
     split at hf
     all_goals
      cases hf
      exact key
theorem reckon_flat {info:TypeId→Option TypeInfo}(h:∀t i v,info t=some i→i.zero=some v→flatV v=true) {d:TypeDesc}{i:TypeInfo}{v:Value}(hr:Made.reckon info d=some i) (hv:i.zero=some v):flatV v=true:=by
 have word:∀{d:TypeDesc}{s:String}{z:Value}{c:Bool}{b:Nat}{v:Value},flatV z=true→(Made.word d s z c b).zero=some v→flatV v=true:=by
  intro d s z c b v hz h
  cases h
  exact hz
 unfold Made.reckon at hr
 cases d with
 | pointer e =>
  simp only [bind,Option.bind_eq_some_iff] at hr
  obtain⟨i1,h1,hr⟩:=hr
  split at hr
  ·cases hr
  ·split at hr
   ·cases hr
   ·obtain⟨s,_,hr⟩:=Option.bind_eq_some_iff.1 hr
    cases hr
    exact word rfl hv
  ·obtain⟨s,_,hr⟩:=Option.bind_eq_some_iff.1 hr
   cases hr
   exact word rfl hv
 | slice e =>
  simp only [bind,Option.bind_eq_some_iff] at hr
  obtain⟨_,_,_,_,hr⟩:=hr
  cases hr
  exact word rfl hv
 | map k e =>
  simp only [bind,Option.bind_eq_some_iff] at hr
  obtain⟨_,_,_,_,_,_,_,_,hr⟩:=hr
  cases hr
  exact word rfl hv
 | chan k e =>
  simp only [bind,Option.bind_eq_some_iff] at hr
  obtain⟨_,_,_,_,hr⟩:=hr
  cases hr
  exact word rfl hv
 | func ps rs b =>
  simp only [bind,Option.bind_eq_some_iff] at hr
  obtain⟨_,_,hr⟩:=hr
  cases hr
  exact word rfl hv
 | array n e =>
  simp only [bind,Option.bind_eq_some_iff] at hr
  obtain⟨i1,h1,s,_,hr⟩:=hr
  cases hr
  dsimp only at hv
  split at hv
  ·cases hv
  ·split at hv
   ·cases hv
    rfl
   ·obtain⟨z,hz,rfl⟩:=Option.map_eq_some_iff.1 hv
    have h2:=h _ _ _ h1 hz
    unfold flatV at h2 ⊢
    simp only [Value.cells]
    rw [List.all_eq_true] at h2 ⊢
    intro x hx
    rw [Array.toList_flatten,List.mem_flatten] at hx
    obtain⟨l,hl,hx⟩:=hx
    simp only [Array.toList_replicate,List.map_replicate,List.mem_replicate] at hl
    rw [hl.2] at hx
    exact h2 x hx
 | struct fs=>exact struct_flat h hr hv
 | _=>cases hr
theorem info_flat {P:Program}(hT:zeroT P.types.toList=true):∀(f:Nat) (t:TypeId) (i:TypeInfo) (v:Value),Made.infoAt P.toTables f t=some i→i.zero=some v→flatV v=true:=by
 have tab:∀(t:TypeId) (i:TypeInfo) (v:Value),P.types[t]?=some i→i.zero=some v→flatV v=true:=by
  intro t i v h1 h2
  have h:=hT
  unfold zeroT at h
  rw [List.all_eq_true] at h
  have hm:i∈P.types.toList:=List.mem_of_getElem? (i:=t) (by simpa using h1)
  have:=h i hm
  rw [h2] at this
  exact this
 intro f
 induction f with
 | zero=>intro t i v h;cases h
 | succ f ih =>
  intro t i v h1 h2
  unfold Made.infoAt at h1
  split at h1
  ·exact tab t i v h1 h2
  ·obtain⟨d,_,hd⟩:=Option.bind_eq_some_iff.1 h1
   exact reckon_flat ih hd h2
theorem zeroOk_of {P:Program}(hT:zeroT P.types.toList=true):ZeroOk P:=by
 intro t i v h1 h2
 unfold Tables.info? at h1
 split at h1
 ·have h:=hT
  unfold zeroT at h
  rw [List.all_eq_true] at h
  have hm:i∈P.types.toList:=List.mem_of_getElem? (i:=t) (by simpa using h1)
  have:=h i hm
  rw [h2] at this
  exact flat_closed this
 ·exact flat_closed (info_flat hT _ t i v h1 h2)
end Go.Eng
namespace Go.Eng
open Go Go.RowKit
noncomputable def bytesAtA (t:Tr Value) (m:Nat):Nat→List Nat→Bool
 | _,[]=>true
 | o,x :: l=>(match t.get o with | some (.int .u8 y)=>decide (y=(x:Int)) | _=>false) && (Nat.blt o m && bytesAtA t m (o+1) l)
noncomputable def bytesInA (S:AState) (b off:Nat) (bs:List Nat):Bool:=match S.heap.get b with
 | some (.cells t m _ _ _ _)=>bytesAtA t m off bs
 | _=>false
theorem bytesAtA_spec {t:Tr Value}{m:Nat}:∀{bs:List Nat}{o:Nat},bytesAtA t m o bs=true→∀(j:Nat) (x:Nat),bs[j]?=some x→t.get (o+j)=some (.int .u8 x)∧o+j<m
 | [],_,_,j,x,hj=>by simp at hj
 | y :: l,o,h,j,x,hj=>by
  unfold bytesAtA at h
  rw [Bool.and_eq_true,Bool.and_eq_true] at h
  obtain⟨h1,h2,h3⟩:=h
  cases j with
  | zero =>
   have:y=x:=by simpa using hj
   subst this
   rw [Nat.add_zero]
   refine⟨?_,Nat.lt_of_succ_le (by simpa [Nat.blt] using h2)⟩
   split at h1
   ·rename_i z hz
    have hzz:z=(y:Int):=by simpa using h1
    rw [hz,hzz]
   ·cases h1
  | succ j =>
   have:=bytesAtA_spec h3 j x (by simpa using hj)
   rw [show o+(j+1)=o+1+j by omega]
   exact this
theorem WR.more {P:Program}{B:Nat}{w0 w w':World}{ρ:Ren}{S:AState}(h:WR P B w0 ρ S w) (hb:Below w.heap.size w w'):WR P B w0 ρ S w' :=
 ⟨h.below.trans (hb.mono h.hB),Nat.le_trans h.hB hb.size,fun i hi=>Nat.lt_of_lt_of_le (h.rng i hi) hb.size,h.own,h.inj,fun i o hg=>by
  obtain⟨h1,o',h2,h3⟩:=h.obj i o hg
  exact⟨h1,o',(hb.block _ (Array.getElem?_eq_some_iff.1 h2).1).trans h2,h3⟩⟩
theorem ans_read {P:Program}{f:FuncId}{k:IntKind}{z:Int}{bs:List Nat}{n:Nat}
  (hc:∀(w:World) (b off c:Nat),P.globals.size+5≤w.heap.size→(∀(j:Nat) (x:Nat),bs[j]?=some x→w.cell? ⟨b,off+j,none⟩=some (.int .u8 x))→Calls P f #[.slice (some ⟨b,off,none⟩) n c] w fun e w'=>e=.returned (.int k z)∧Below w.heap.size w w')
  {S:AState}{b off c:Nat}(hS:bytesInA S b off bs=true) (B:Nat) (w0:World) (ρ:Ren) (w:World) (args':Array Value) (hb:Base P ρ S.next) (hw:WR P B w0 ρ S w)
  (ha:ArrR ρ S.next (#[.slice (some ⟨b,off,none⟩) n c]:Array Value) args'):Calls P f args' w (GivesM P B w0 ρ S (.int k z) S):=by
 obtain⟨l'⟩:=args'
 have h:LR (VR ρ S.next) [.slice (some ⟨b,off,none⟩) n c] l':=ha.list
 unfold bytesInA at hS
 split at hS
 case h_2=>cases hS
 rename_i t m e lo hi g hget
 obtain⟨hlt,o',ho',hobj⟩:=hw.obj _ _ hget
 have hgs:P.globals.size+5≤w.heap.size:=by
  have h1:=hb.1
  have h2:=hw.rng (P.globals.size+4) (by omega)
  have h3:=(hb.2 (P.globals.size+4) (by omega)).1
  omega
 cases h with
 | cons h1 h =>
  cases h with
  | nil =>
   cases h1 with
   | slice a _ _ hab hs =>
    cases hobj with
    | @cells _ _ c' _ _ _ lo' hi' _ _ hsz hg hcl hf hl =>
     have hcells:∀(j:Nat) (x:Nat),bs[j]?=some x→w.cell? ⟨ρ.f b,off+j,none⟩=some (.int .u8 x):=fun j x hj=>by
      obtain⟨q1,q2⟩:=bytesAtA_spec hS j x hj
      obtain⟨v',q3,q4⟩:=hcl _ _ q2 q1
      cases q4
      simp [World.cell?,ho',q3]
     exact (hc w (ρ.f b) off _ hgs hcells).mono fun e w' ⟨he,hbw⟩=>⟨_,ρ,he,.int _ _,hw.more hbw,Ext.refl _ _,Nat.le_refl _,rfl⟩
end Go.Eng
set_option linter.unusedSimpArgs false
set_option linter.unusedVariables false
namespace Go.Eng
open Go Go.RowKit
noncomputable def forkR (m:Nat) (p:Picks) (g:Nat→Picks→Bool):Bool:=match p with
 | []=>(List.range m).all fun c=>g c []
 | (_,0) :: p'=>(List.range m).all fun c=>g c p'
 | (c,M+1) :: p'=>Nat.ble m (M+1) && match Nat.ble m c with
  | true=>true
  | false=>g c p'
noncomputable def forkO (m:Nat) (p:Picks) (g:Nat→Picks→Bool):Bool:=match Nat.ble m 1 with
 | true=>(List.range m).all fun c=>g c p
 | false=>forkR m p g
noncomputable def allO {α:Type}(l:List α) (p:Picks) (g:α→Picks→Bool):Bool:=match l with
 | []=>true
 | [q]=>g q p
 | q :: r :: l'=>forkR (l'.length+2) p fun c p'=>match (q :: r :: l')[c]? with
  | some q=>g q p'
  | none=>false
section
variable {P:Program}
def JoinsO (M:Nat) (F:Picks→Bool):Prop:=∀p,(∀c,c<M∨c=0→F (p++[(c,M)])=true)→F p=true
theorem JoinsO.forkR {M:Nat}{m:Nat}{g:Nat→Picks→Bool}(hg:∀c,JoinsO M (g c)):JoinsO M (fun p=>forkR m p g):=by
 intro p h
 dsimp only at h ⊢
 cases p with
 | nil =>
  have h0:=h 0 (Or.inr rfl)
  cases M with
  | zero=>exact h0
  | succ M =>
   simp only [List.nil_append,Go.Eng.forkR,Bool.and_eq_true] at h h0 ⊢
   rw [List.all_eq_true]
   intro c hc
   rw [List.mem_range] at hc
   have hm:m≤M+1:=Nat.le_of_ble_eq_true h0.1
   have h1:=(h c (Or.inl (by omega))).2
   have e:Nat.ble m c=false:=by
    rw [Bool.eq_false_iff]
    intro e
    have:=Nat.le_of_ble_eq_true e
    omega
   rw [e] at h1
   exact h1
 | cons x p =>
  obtain⟨c0,M0⟩:=x
  have h0:=h 0 (Or.inr rfl)
  cases M0 with
  | zero =>
   simp only [List.cons_append,Go.Eng.forkR,List.all_eq_true] at h h0 ⊢
   exact fun c hc=>hg c p fun c' hc'=>h c' hc' c hc
  | succ M0 =>
   simp only [List.cons_append,Go.Eng.forkR,Bool.and_eq_true] at h h0 ⊢
   refine⟨h0.1,?_⟩
   cases hb:Nat.ble m c0 with
   | true=>rfl
   | false =>
    simp only [hb] at h ⊢
    exact hg c0 p fun c hc=>(h c hc).2
theorem JoinsO.fork {M:Nat}{m:Nat}{g:Nat→Picks→Bool}(hg:∀c,JoinsO M (g c)):JoinsO M (fun p=>forkO m p g):=by
 intro p h
 dsimp only at h ⊢
 unfold forkO at h ⊢
 cases hb:Nat.ble m 1 with
 | true =>
  simp only [hb,List.all_eq_true] at h ⊢
  exact fun c hc=>hg c p fun c' hc'=>h c' hc' c hc
 | false =>
  simp only [hb] at h ⊢
  exact JoinsO.forkR hg p h
theorem JoinsO.all {α:Type}{M:Nat}{l:List α}{g:α→Picks→Bool}(hg:∀q,q∈l→JoinsO M (g q)):JoinsO M (fun p=>allO l p g):=by
 intro p h
 dsimp only at h ⊢
 match l,hg,h with
 | [],_,_=>rfl
 | [q],hg,h=>exact hg q (by simp) p h
 | q :: r :: l',hg,h =>
  refine JoinsO.forkR (M:=M) (m:=l'.length+2) (g:=fun c p'=>match (q :: r :: l')[c]? with
   | some q=>g q p'
   | none=>false) (fun c p h=>?_) p h
  dsimp only at h ⊢
  cases hc:(q :: r :: l')[c]? with
  | none=>simp only [hc] at h;exact absurd (h 0 (Or.inr rfl)) (by simp)
  | some u=>simp only [hc] at h ⊢;exact hg u (List.mem_of_getElem? hc) p h
end
end Go.Eng
