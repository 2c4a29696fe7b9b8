/- The closed run of a Go program whose memory is known only up to a renaming of blocks: what it computes is true of every world and tape. No conditions. -/
import Derived.Test.YtbecggfbblnglaaGreatDoorEng5
set_option linter.unusedSimpArgs false
set_option linter.unusedVariables false
set_option linter.deprecated false
set_option linter.unnecessarySimpa false
namespace Go.Eng
open Go Go.RowKit
abbrev Picks:=List (Nat×Nat)
noncomputable def forkQ (m:Nat) (p:Picks) (g:Nat→Picks→Bool):Bool:=match p with
 | []=>(List.range m).all fun c=>g c []
 | (c,M) :: p'=>Nat.ble m M && match Nat.ble m c with
  | true=>true
  | false=>g c p'
noncomputable def forkP (m:Nat) (p:Picks) (g:Nat→Picks→Bool):Bool:=match Nat.ble m 1 with
 | true=>(List.range m).all fun c=>g c p
 | false=>forkQ m p g
noncomputable def treeP {P:Program}(E:Env P) (call:FuncId→Array Value→AState→Picks→(Value→AState→Picks→Bool)→Bool) (ops:Array Oper) (k:Act→AState→Picks→Bool):Nat→List Nat→List Nat→Act→AState→Picks→Bool
 | 0,_,_,_,_,_=>false
 | n+1,X,L0,A0,S,p=>match closeF E ops S ops.toList 0 L0 A0 with
  | none=>false
  | some (L,A)=>nodeF E ops X L A S ops.toList 0 && match nexts L ops.toList 0 with
   | []=>k A S p
   | l=>l.all fun q=>match stepOpF E A q.2 S with
    | some (.value v,S')=>treeP E call ops k n (q.1 :: X) (q.1 :: L) (ptF A q.2.dst v) S' p
    | some (.skip,S')=>treeP E call ops k n (q.1 :: X) (q.1 :: L) (ptF A q.2.dst undef) S' p
    | some (.enter f args,S')=>call f args S' p fun v S'' p'=>treeP E call ops k n (q.1 :: X) (q.1 :: L) (ptF A q.2.dst v) S'' p'
    | _=>false
noncomputable def runP {P:Program}(E:Env P) (O:Orc P):Nat→FuncId→Frame→List Frame→AState→Picks→(Value→AState→Picks→Bool)→Bool
 | 0,_,_,_,_,_,_=>false
 | n+1,f0,fr,cs,S,p,k=>match fr.mode with
  | .run=>match answeredF E O fr S with
   | some (v,S')=>runP E O n f0 (finF fr v) cs S' p k
   | none=>match fr.todo with
    | .code (.region _ ops true) :: rest=>match fr.roundOf with
     | none=>wfFrom ops 0 ops.toList &&
       treeP E (fun f args S' p' k'=>match askA f args.toList S' O with
       | some (v,S2)=>k' v S2 p'
       | none=>runP E O n f (enterF P f args .normal) [] S' p' k') ops (fun A S' p'=>runP E O n f0 (bothF fr A.tmps rest) cs S' p' k) (ops.size+1) [] [] (actOf fr) S p
     | some _=>false
    | .inRegion ops (i :: _) :: _=>match ops[i]? with
     | some ⟨dst,.next x false,ty,pos,after,guard⟩=>match wantedF ops ⟨dst,.next x false,ty,pos,after,guard⟩ fr.tmps with
      | false=>runP E O n f0 (finF fr undef) cs S p k
      | true=>match runB P ((getV (actOf fr) x).bind fun v=>nextMA v 0) S with
       | some ((m,_),_)=>forkP m p fun c p'=>match runB P ((getV (actOf fr) x).bind fun v=>nextMA v c) S with
         | some ((_,u),S')=>runP E O n f0 (finF fr u) cs S' p' k
         | none=>false
       | none=>false
     | _=>match runStepF E fr cs S with
      | some (f,c,S')=>runP E O n f0 f c S' p k
      | none=>false
    | _=>match runStepF E fr cs S with
     | some (f,c,S')=>runP E O n f0 f c S' p k
     | none=>false
  | .returning=>match fr.defers,cs with
   | [],[]=>match decide (fr.fn=f0),fr.kind with
    | true,.normal=>match P.funcs[fr.fn]? with
     | some fn=>match runB P (resultsF fn fr.tmps) S with
      | some (v,S')=>k v S' p
      | none=>false
     | none=>false
    | _,_=>false
   | _,_=>match leaveStepF E fr cs S with
    | some (f,c,S')=>runP E O n f0 f c S' p k
    | none=>false
  | _=>false
section
variable {P:Program}
theorem treeP_nil (E:Env P) {call:FuncId→Array Value→AState→Picks→(Value→AState→Picks→Bool)→Bool}{call':FuncId→Array Value→AState→(Value→AState→Bool)→Bool}
  (hcall:∀f a S k,call f a S [] k=call' f a S (fun v S'=>k v S' [])) (ops:Array Oper) (k:Act→AState→Picks→Bool) :
  ∀(n:Nat) (X L:List Nat) (A:Act) (S:AState),treeP E call ops k n X L A S []=treeF E call' ops (fun A S=>k A S []) n X L A S:=by
 intro n
 induction n with
 | zero=>intro X L A S;rfl
 | succ n ih =>
  intro X L A S
  unfold treeP treeF
  simp only [ih,hcall]
  rfl
theorem forkP_nil (m:Nat) (g:Nat→Picks→Bool):forkP m [] g=(List.range m).all fun c=>g c []:=by
 unfold forkP
 split<;>rfl
theorem runP_nil (E:Env P) (O:Orc P):∀(n:Nat) (f0:FuncId) (fr:Frame) (cs:List Frame) (S:AState) (k:Value→AState→Picks→Bool),runP E O n f0 fr cs S [] k=runF E O n f0 fr cs S (fun v S'=>k v S' []):=by
 intro n
 induction n with
 | zero=>intro f0 fr cs S k;rfl
 | succ n ih =>
  intro f0 fr cs S k
  have hcall:∀(f:FuncId) (a:Array Value) (S:AState) (k:Value→AState→Picks→Bool),(match askA f a.toList S O with
      | some (v,S2)=>k v S2 []
      | none=>runP E O n f (enterF P f a .normal) [] S [] k)=(match askA f a.toList S O with
      | some (v,S2)=>k v S2 []
      | none=>runF E O n f (enterF P f a .normal) [] S (fun v S'=>k v S' [])):=by
   intro f a S k
   split
   ·rfl
   ·exact ih ..
  have htree:∀(fr:Frame) (rest:List Item) (ops:Array Oper) (m:Nat) (A:Act) (S:AState),treeP E (fun f args S' p' k'=>match askA f args.toList S' O with
      | some (v,S2)=>k' v S2 p'
      | none=>runP E O n f (enterF P f args .normal) [] S' p' k') ops (fun A S' p'=>runP E O n f0 (bothF fr A.tmps rest) cs S' p' k) m [] [] A S [] =
    treeF E (fun f args S' k'=>match askA f args.toList S' O with
      | some (v,S2)=>k' v S2
      | none=>runF E O n f (enterF P f args .normal) [] S' k') ops (fun A S'=>runF E O n f0 (bothF fr A.tmps rest) cs S' (fun v S'=>k v S' [])) m [] [] A S:=by
   intro fr rest ops m A S
   rw [treeP_nil E (call':=fun f args S' k'=>match askA f args.toList S' O with
      | some (v,S2)=>k' v S2
      | none=>runF E O n f (enterF P f args .normal) [] S' k') hcall]
   simp only [ih]
  unfold runP runF
  simp only [ih,forkP_nil,htree]
  rfl
def Joins (M:Nat) (F:Picks→Bool):Prop:=∀p,(∀c,c<M→F (p++[(c,M)])=true)→F p=true
theorem Joins.fork {M:Nat}(hM:0<M) {m:Nat}{g:Nat→Picks→Bool}(hg:∀c,Joins M (g c)):Joins M (fun p=>forkP m p g):=by
 intro p h
 dsimp only at h ⊢
 unfold forkP at h ⊢
 cases hb:Nat.ble m 1 with
 | true =>
  simp only [hb,List.all_eq_true] at h ⊢
  exact fun c hc=>hg c p fun c' hc'=>h c' hc' c hc
 | false =>
 simp only [hb] at h ⊢
 cases p with
 | nil =>
  have h0:=h 0 hM
  simp only [List.nil_append,forkQ,Bool.and_eq_true] at h h0 ⊢
  rw [List.all_eq_true]
  intro c hc
  rw [List.mem_range] at hc
  have hm:m≤M:=Nat.le_of_ble_eq_true h0.1
  have h1:=(h c (by omega)).2
  have e:Nat.ble m c=false:=by
   rw [Bool.eq_false_iff]
   intro e
   have:=Nat.le_of_ble_eq_true e
   omega
  rw [e] at h1
  exact h1
 | cons x p =>
  obtain⟨c0,M0⟩:=x
  have h0:=h 0 hM
  simp only [List.cons_append,forkQ,Bool.and_eq_true] at h h0 ⊢
  refine⟨h0.1,?_⟩
  cases hb:Nat.ble m c0 with
  | true=>rfl
  | false =>
   simp only [hb] at h ⊢
   exact hg c0 p fun c hc=>(h c hc).2
theorem treeP_joins {M:Nat}(hM:0<M) (E:Env P) {call:FuncId→Array Value→AState→Picks→(Value→AState→Picks→Bool)→Bool}
  (hcall:∀f a S k,(∀v S',Joins M (k v S'))→Joins M (fun p=>call f a S p k)) (ops:Array Oper) (k:Act→AState→Picks→Bool) (hk:∀A S,Joins M (k A S)) :
  ∀(n:Nat) (X L:List Nat) (A:Act) (S:AState),Joins M (fun p=>treeP E call ops k n X L A S p):=by
 intro n
 induction n with
 | zero=>intro X L A S p h;exact h 0 hM
 | succ n ih =>
  intro X L A S p h
  dsimp only at h ⊢
  unfold treeP at h ⊢
  cases hc:closeF E ops S ops.toList 0 L A with
  | none=>simp only [hc] at h;exact absurd (h 0 hM) (by simp)
  | some y =>
   obtain⟨L',A'⟩:=y
   simp only [hc,Bool.and_eq_true] at h ⊢
   refine⟨(h 0 hM).1,?_⟩
   cases hn:nexts L' ops.toList 0 with
   | nil=>simp only [hn] at h ⊢;exact hk _ _ p fun c hc=>(h c hc).2
   | cons q0 r =>
    simp only [hn,List.all_eq_true] at h ⊢
    intro q hq
    have hh:=fun c hc=>(h c hc).2 q hq
    cases hs:stepOpF E A' q.2 S with
    | none=>simp only [hs] at hh;exact absurd (hh 0 hM) (by simp)
    | some z =>
     obtain⟨nx,S'⟩:=z
     cases nx with
     | value v=>simp only [hs] at hh ⊢;exact ih _ _ _ _ p hh
     | skip=>simp only [hs] at hh ⊢;exact ih _ _ _ _ p hh
     | enter f args=>simp only [hs] at hh ⊢;exact hcall _ _ _ _ (fun v S''=>ih _ _ _ _) p hh
     | _=>simp only [hs] at hh;exact absurd (hh 0 hM) (by simp)
theorem runP_joins {M:Nat}(hM:0<M) (E:Env P) (O:Orc P):∀(n:Nat) (f0:FuncId) (fr:Frame) (cs:List Frame) (S:AState) (k:Value→AState→Picks→Bool),(∀v S,Joins M (k v S))→Joins M (fun p=>runP E O n f0 fr cs S p k):=by
 intro n
 induction n with
 | zero=>intro f0 fr cs S k _ p h;exact h 0 hM
 | succ n ih =>
  intro f0 fr cs S k hk p h
  have no:∀{Q:Prop},(∀c,c<M→false=true)→Q:=fun h=>absurd (h 0 hM) (by simp)
  have plain:(∀c,c<M→(match runStepF E fr cs S with
     | some (f,c',S')=>runP E O n f0 f c' S' (p++[(c,M)]) k
     | none=>false)=true)→(match runStepF E fr cs S with
     | some (f,c',S')=>runP E O n f0 f c' S' p k
     | none=>false)=true:=by
   intro h
   cases hs:runStepF E fr cs S with
   | none=>simp only [hs] at h;exact no h
   | some z=>obtain⟨f,c',S'⟩:=z;simp only [hs] at h ⊢;exact ih _ _ _ _ _ hk p h
  dsimp only at h ⊢
  unfold runP at h ⊢
  split
  ·rename_i hmode
   simp only [hmode] at h
   split
   ·rename_i v S' ha
    simp only [ha] at h
    exact ih _ _ _ _ _ hk p h
   ·rename_i ha
    simp only [ha] at h
    split
    ·rename_i id ops rest htodo
     simp only [htodo] at h
     split
     ·rename_i hro
      simp only [hro,Bool.and_eq_true] at h ⊢
      refine⟨(h 0 hM).1,?_⟩
      refine treeP_joins hM E (fun f a S k' hk' p h=>?_) ops _ (fun A S'=>ih _ _ _ _ _ hk) _ _ _ _ _ p fun c hc=>(h c hc).2
      dsimp only at h ⊢
      split
      ·rename_i v S2 hv
       simp only [hv] at h
       exact hk' _ _ p h
      ·rename_i hv
       simp only [hv] at h
       exact ih _ _ _ _ _ hk' p h
     ·rename_i hro
      simp only [hro] at h
      exact no h
    ·rename_i ops i is rest htodo
     simp only [htodo] at h
     split
     ·rename_i dst x ty pos after guard ho
      simp only [ho] at h
      split
      ·rename_i hw
       simp only [hw] at h
       exact ih _ _ _ _ _ hk p h
      ·rename_i hw
       simp only [hw] at h
       split
       ·rename_i m u0 S1 h0
        simp only [h0] at h
        refine Joins.fork hM (fun c0=>?_) p h
        intro p h
        dsimp only at h ⊢
        split
        ·rename_i m' u S' hr
         simp only [hr] at h
         exact ih _ _ _ _ _ hk p h
        ·rename_i hr
         simp only [hr] at h
         exact no h
       ·rename_i h0
        simp only [h0] at h
        exact no h
     ·rename_i hno
      simp only [hno] at h
      exact plain h
    ·rename_i h1 h2
     simp only [h1,h2] at h
     exact plain h
  ·rename_i hmode
   simp only [hmode] at h
   split
   ·rename_i hd
    simp only [hd] at h
    split
    ·rename_i e1 e2
     simp only [e1,e2] at h
     split
     ·rename_i fn hf
      simp only [hf] at h
      split
      ·rename_i v S' hr
       simp only [hr] at h
       exact hk _ _ p h
      ·rename_i hr
       simp only [hr] at h
       exact no h
     ·rename_i hf
      simp only [hf] at h
      exact no h
    ·rename_i e1
     simp only [e1] at h
     exact no h
   ·rename_i hd
    simp only [hd] at h
    split
    ·rename_i f c' S' hl
     simp only [hl] at h
     exact ih _ _ _ _ _ hk p h
    ·rename_i hl
     simp only [hl] at h
     exact no h
  ·rename_i h1 h2
   simp only [h1,h2] at h
   exact no h
def isVP (v:Value):Value→AState→Picks→Bool:=fun u S _=>isV v u S
theorem calls_of_runP (E:Env P) (O:Orc P) (hmix:P.follows .mixedOrders=true) {N:Nat}(hN:P.globals.size+5=N) (fuel:Nat) (f:FuncId) (args:List Value) (hc:args.all (closedV 64)=true) {v:Value}
  (h:runP E O fuel f (enterF P f args.toArray .normal) [] (S0 N) [] (isVP v)=true) (w:World) (hw:P.globals.size+5≤w.heap.size) (hgd:O.good w.heap.size w:=by trivial) :
  Calls P f args.toArray w fun e w'=>e=.returned v∧Below w.heap.size w w':=by
 rw [runP_nil] at h
 exact calls_of_runZ E O hmix hN fuel f args hc h w hw hgd
noncomputable def isSP (v:Value) (S:AState) (ids:List Nat):Value→AState→Picks→Bool:=fun u T _=>isS v S ids u T
theorem isSP_joins (M:Nat) (hM:0<M) (v:Value) (S':AState) (ids:List Nat):∀u T,Joins M (isSP v S' ids u T):=fun u T p h=>h 0 hM
theorem runP_twoS (E:Env P) (O:Orc P) {n:Nat}{f0:FuncId}{fr:Frame}{cs:List Frame}{S S':AState}{v:Value}{ids:List Nat}{p:Picks}(h0:runP E O n f0 fr cs S (p++[(0,2)]) (isSP v S' ids)=true) (h1:runP E O n f0 fr cs S (p++[(1,2)]) (isSP v S' ids)=true) :
  runP E O n f0 fr cs S p (isSP v S' ids)=true :=
 runP_joins (M:=2) (by omega) E O n f0 fr cs S _ (isSP_joins 2 (by omega) v S' ids) p fun c hc=>by
  match c,hc with
  | 0,_=>exact h0
  | 1,_=>exact h1
theorem ans_of_runP (E:Env P) (O:Orc P) (hmix:P.follows .mixedOrders=true) {fuel:Nat}{f:FuncId}{args:List Value}{S S':AState}{v:Value}{ids:List Nat}
  (h:runP E O fuel f (enterF P f args.toArray .normal) [] S [] (isSP v S' ids)=true) (B:Nat) (w0:World) (ρ:Ren) (w:World) (args':Array Value) (hgd:O.good B w0) (hb:Base P ρ S.next) (hw:WR P B w0 ρ S w) (ha:ArrR ρ S.next args.toArray args') :
  Calls P f args' w (GivesM P B w0 ρ S v S'):=by
 rw [runP_nil] at h
 exact ans_of_runZ E O hmix h B w0 ρ w args' hgd hb hw ha
noncomputable def layS (S:AState) (o:Option AObj):AState:=AState.rec (motive:=fun _=>AState) (fun h n p=>⟨h.set n o,n+1,p⟩) S
noncomputable def mkS (N:Nat) (l:List (Option AObj)):AState:=l.foldl layS ⟨.nil,N,N⟩
end
end Go.Eng
