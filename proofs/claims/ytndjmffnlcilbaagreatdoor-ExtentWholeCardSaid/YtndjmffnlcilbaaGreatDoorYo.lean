/- Contracts over this program. Their conditions: the slices read as the lists that are named, and lie within the sizes that are named. -/
import Derived.Test.YtndjmffnlcilbaaGreatDoorYn
import Derived.RangeFuncNested
import Derived.RangeFuncBound
import Derived.RangeFuncCalls
import Derived.RangeFuncLeaves
import Derived.RangeFuncFrom
import Derived.Shelf.Abstract
import Derived.Shelf.RegionOpen
import Derived.OwnWalkIn
import Derived.TacticsInMore
import Derived.LoopNIn
import Derived.LoopIn
set_option linter.unusedSimpArgs false
set_option linter.unusedVariables false
set_option linter.deprecated false
set_option linter.unnecessarySimpa false
namespace Go.Proofs.YtndjmffnlcilbaaGreatDoor
open Go Go.RowKit Go.Ix Go.Ext Go.Maps
attribute [local go_sem] Oper.semAt_some
def UndoEnd (w:World) (B tb n tc:Nat) (T:Nat→Int) (p:List Nat×Int) (e:Ending) (w':World):Prop :=
 e=.returned (.tuple #[])∧Taken w' B tb n tc (fun a=>T a+p.2 * ((p.1.count a:Nat):Int))∧On tb w w'
set_option maxRecDepth 20000 in
set_option maxHeartbeats 1000000 in
theorem undo_stage {w:World}{B B' sb tb n tc b1 b2 z:Nat}{cs:Array Value}{T:Nat→Int}{p:List Nat×Int}{lg:Bool}{u:Int}{v:Value}(hp:p.2 = -1) (hb1:w.heap[b1]?=some (.cells #[.pointer (some ⟨sb,0,none⟩)] 30 (0,0))) (hb2:w.heap[b2]?=some (.cells #[.bool lg,.int .i64 (z:Nat),.int .u32 u,v] 91 (0,0)))
  (hr:w.ownsRow B' 3 1 v p.1.length (nats p.1)) (hv:v.ownBlock≠some tb) (hl:∀a∈p.1,a<n) (hm:p.1.length≤1000) (hsb:w.heap[sb]?=some (.cells cs 69 (0,0))) (h8:cs[8]?=some (.slice (some ⟨tb,0,none⟩) n tc)) (hT:Taken w B tb n tc T) (hTb:∀a,-1000000000≤T a∧T a≤1000000000) (hn:n≤1000000) :
  Calls Tryz.prog 72 #[.pointer (some ⟨b1,0,none⟩),.pointer (some ⟨b2,0,none⟩)] w (UndoEnd w B tb n tc T p):=by
 have HH:=Lib.hid (hold_any p.1 (-1) (.inr rfl) hsb h8 hT hTb hr hv hl rfl (by omega) hn)
 obtain⟨o,c,rfl,_⟩:=ownsRow_shape hr
 have c1:w.cell? ⟨b1,0,none⟩=some (.pointer (some ⟨sb,0,none⟩)):=by rw [cell_of_heap hb1];rfl
 have c2:w.cell? ⟨b2,3,none⟩=some (.slice o p.1.length c):=by rw [cell_of_heap hb2];rfl
 clear hb1 hb2 hr hsb h8 hT hTb
 go_enter Tryz.func72,Tryz.ntmps72
 go_wp2_with (go_at_call 44;refine HH.out.mono ?_;clear HH;rintro e w1 ⟨rfl,hT1,ho1⟩;have HT1:=Lib.hid hT1;have Ho1:=Lib.hid ho1;clear hT1 ho1)
 go_end0
 exact⟨rfl,by rw [hp];exact HT1.out,Ho1.out⟩
set_option maxRecDepth 20000 in
set_option maxHeartbeats 1000000 in
theorem undo_remove {w:World}{B B' sb tb n tc b1 b2 z:Nat}{cs:Array Value}{T:Nat→Int}{p:List Nat×Int}{lg:Bool}{u:Int}{v:Value}(hp:p.2=1) (hb1:w.heap[b1]?=some (.cells #[.pointer (some ⟨sb,0,none⟩)] 30 (0,0))) (hb2:w.heap[b2]?=some (.cells #[.bool lg,.int .i64 (z:Nat),.int .u32 u,v] 91 (0,0)))
  (hr:w.ownsRow B' 3 1 v p.1.length (nats p.1)) (hv:v.ownBlock≠some tb) (hl:∀a∈p.1,a<n) (hm:p.1.length≤1000) (hsb:w.heap[sb]?=some (.cells cs 69 (0,0))) (h8:cs[8]?=some (.slice (some ⟨tb,0,none⟩) n tc)) (hT:Taken w B tb n tc T) (hTb:∀a,-1000000000≤T a∧T a≤1000000000) (hn:n≤1000000) :
  Calls Tryz.prog 45 #[.pointer (some ⟨b1,0,none⟩),.pointer (some ⟨b2,0,none⟩)] w (UndoEnd w B tb n tc T p):=by
 have HH:=Lib.hid (hold_any p.1 1 (.inl rfl) hsb h8 hT hTb hr hv hl rfl (by omega) hn)
 obtain⟨o,c,rfl,_⟩:=ownsRow_shape hr
 have c1:w.cell? ⟨b1,0,none⟩=some (.pointer (some ⟨sb,0,none⟩)):=by rw [cell_of_heap hb1];rfl
 have c2:w.cell? ⟨b2,3,none⟩=some (.slice o p.1.length c):=by rw [cell_of_heap hb2];rfl
 clear hb1 hb2 hr hsb h8 hT hTb
 go_enter Tryz.func45,Tryz.ntmps45
 go_wp2_with (go_at_call 44;refine HH.out.mono ?_;clear HH;rintro e w1 ⟨rfl,hT1,ho1⟩;have HT1:=Lib.hid hT1;have Ho1:=Lib.hid ho1;clear hT1 ho1)
 go_end0
 exact⟨rfl,by rw [hp];exact HT1.out,Ho1.out⟩
theorem Clo.run {w:World}{B sb tb n tc:Nat}{f:Value}{cs:Array Value}{T:Nat→Int}{p:List Nat×Int}(h:Clo w B sb tb n f p) (hsb:w.heap[sb]?=some (.cells cs 69 (0,0))) (h8:cs[8]?=some (.slice (some ⟨tb,0,none⟩) n tc)) (hT:Taken w B tb n tc T) (hTb:∀a,-1000000000≤T a∧T a≤1000000000) (hn:n≤1000000) :
  ∃(b1 b2:Nat),(f=.func (.func 72) #[] #[.pointer (some ⟨b1,0,none⟩),.pointer (some ⟨b2,0,none⟩)]∧Calls Tryz.prog 72 #[.pointer (some ⟨b1,0,none⟩),.pointer (some ⟨b2,0,none⟩)] w (UndoEnd w B tb n tc T p))∨
   (f=.func (.func 45) #[] #[.pointer (some ⟨b1,0,none⟩),.pointer (some ⟨b2,0,none⟩)]∧Calls Tryz.prog 45 #[.pointer (some ⟨b1,0,none⟩),.pointer (some ⟨b2,0,none⟩)] w (UndoEnd w B tb n tc T p)):=by
 obtain⟨h1,h2,b1,b2,lg,z,u,v,h3,h4,h5,h6,h7⟩:=h
 refine⟨b1,b2,?_⟩
 rcases h3 with ⟨hp,rfl⟩|⟨hp,rfl⟩
 ·exact .inl ⟨rfl,undo_stage hp h4 h5 h6 h7 h1 h2 hsb h8 hT hTb hn⟩
 ·exact .inr ⟨rfl,undo_remove hp h4 h5 h6 h7 h1 h2 hsb h8 hT hTb hn⟩
def Same (tb n₀:Nat) (A C:World):Prop:=A.heap.size≤C.heap.size∧∀b,b≠tb→b<n₀→C.heap[b]?=A.heap[b]?
theorem Same.refl (tb n₀:Nat) (A:World):Same tb n₀ A A:=⟨Nat.le_refl _,fun _ _ _=>rfl⟩
theorem Same.trans {tb n₀:Nat}{A C E:World}(h:Same tb n₀ A C) (k:Same tb n₀ C E):Same tb n₀ A E:=⟨Nat.le_trans h.1 k.1,fun b hb hn=>(k.2 b hb hn).trans (h.2 b hb hn)⟩
theorem Same.of_on {tb n₀:Nat}{A C:World}(h:On tb A C):Same tb n₀ A C:=⟨Nat.le_of_eq h.size.symm,fun b hb _=>h.block b hb⟩
theorem Same.putObj {tb n₀:Nat}(W:World) (l:Nat) (o':Obj) (hl:n₀≤l):Same tb n₀ W (W.putObj l o') :=
 ⟨(grownBy_putObj' W l o').size,fun b _ hb=>World.putObj_heap_other (by omega)⟩
theorem Same.grown {tb n₀:Nat}{w W W':World}{row:Option Nat}(h:Same tb n₀ w W) (hn:n₀≤w.heap.size) (hg:W.grownBy W' row) (hr:∀r,row=some r→n₀≤r):Same tb n₀ w W' :=
 ⟨Nat.le_trans h.1 hg.size,fun b hb hbn=>(hg.block b (by have:=h.1;omega) (fun e=>by have:=hr b e.symm;omega)).trans (h.2 b hb hbn)⟩
theorem On.keepsOthers {tb:Nat}{A C:World}{cs:Array Value}{ty:TypeId}{fr:Nat×Nat}(h:On tb A C) (ht:A.heap[tb]?=some (.cells cs ty fr)):KeepsOthers A C :=
 ⟨Nat.le_of_eq h.size.symm,fun k o hk ho=>(h.block k (fun e=>by rw [e,ht] at hk;cases hk;cases ho)).trans hk⟩
def downs {m:Nat}(hm:0<m) (k:Nat):List (Fin m):=(List.range k).map fun j=>⟨m-1-j,by omega⟩
theorem downs_succ {m:Nat}(hm:0<m) (k:Nat):downs hm (k+1)=downs hm k++[⟨m-1-k,by omega⟩]:=by simp [downs,List.range_succ]
theorem downs_length {m:Nat}(hm:0<m) (k:Nat):(downs hm k).length=k:=by simp [downs]
set_option maxRecDepth 100000 in
set_option maxHeartbeats 2000000 in
theorem backward1_in (n:Nat) (hn:1≤n) (l Bs tb n₀ ub len cap:Nat) (us:Nat→Value) (hlen:0<len) (hreach:len≤1000000) (hub:ub<n₀) (hut:ub≠tb) (hBs0:Bs<n₀) (hBt:Bs≠tb) (J Jx:List (Fin len)→World→Prop)
  (hY:∀pre x W,J pre W→pre.length<len→YieldAt Fence.wide (n-1) Tryz.prog l #[.int .i64 (x.1:Int),us x.1] W fun e W' =>
   (e=.returned (.bool true)∧J (pre++[x]) W'∧Same tb n₀ W W')∨(e=.returned (.bool false)∧Jx (pre++[x]) W'))
  (W:World) (hBs:W.cell? ⟨Bs,0,none⟩=some (.slice (some ⟨ub,0,none⟩) len cap)) (hc:∀j,j<len→W.cell? ⟨ub,j,none⟩=some (us j)) (h0:J [] W) :
  CallsIn Fence.wide n Tryz.prog 74 #[.func (.yield l) #[] #[],.pointer (some ⟨Bs,0,none⟩)] W fun e W'=>(∃v,e=.returned v)∧
   ((∃ys,ys=downs hlen len∧J ys W')∨(∃pre,(∃k,k≤len∧pre=downs hlen k)∧Jx pre W')):=by
 refine callsIn_of_wp Tryz.func74 rfl trivial ?_ rfl
 simp only [Tryz.ntmps74,List.size_toArray,List.length_cons,List.length_nil,Nat.reduceAdd,Nat.reduceSub,Array.replicate_succ,Array.replicate_zero,List.push_toArray,List.append_toArray,List.nil_append,List.cons_append]
 gi_wp2
 gi_loopw [3] (fun i wr=>∃k:Nat,k≤len∧i=.int .i64 ((len:Int)-1-(k:Int))∧J (downs hlen k) wr∧Same tb n₀ W wr)
  (fun i _=>(intOf i+1).toNat)
 case atStart=>exact⟨0,Nat.zero_le _,by go_num,h0,Same.refl _ _ _⟩
 case round =>
  obtain⟨k,hk,rfl,hJs,hnx⟩:=hrel
  have hcell:∀{b i:Nat},b<n₀→b≠tb→wr.cell? ⟨b,i,none⟩=W.cell? ⟨b,i,none⟩:=fun {b i} hb ht=>World.cell?_of_block (hnx.2 b ht hb)
  have hb1:wr.cell? ⟨Bs,0,none⟩=some (.slice (some ⟨ub,0,none⟩) len cap):=(hcell hBs0 hBt).trans hBs
  by_cases hlt:k<len
  ·obtain⟨fn,tmps,assign,body,hy,hR⟩:=hY _ ⟨len-1-k,by omega⟩ wr hJs (by rw [downs_length];exact hlt)
   dsimp only at hy
   obtain⟨j,hj⟩:∃j:Nat,j=len-1-k:=⟨_,rfl⟩
   have hji:(len:Int)-1-(k:Int)=(j:Int):=by omega
   have hjl:j<len:=by omega
   rw [← hj] at hy
   rw [hji]
   have hcx:wr.cell? ⟨ub,j,none⟩=some (us j):=(hcell hub hut).trans (hc _ hjl)
   have Hj:=Lib.hid hj
   have Hji:=Lib.hid hji
   clear hj hji
   gi_wp2
   refine hR.mono ?_
   rintro e W3 (⟨rfl,hJ3,hk3⟩|⟨rfl,hJx3⟩)
   ·gi_wp2
    go_roundw
    case rel=>exact⟨k+1,by omega,by have:=Hji.out;go_num,by rw [downs_succ];exact hJ3,hnx.trans hk3⟩
    case measure=>simp [intOf]
   ·gi_wp2
    refine bodyPost_ret (results_none rfl _ _ _) rfl ?_
    exact⟨⟨_,rfl⟩,.inr ⟨_,⟨k+1,by omega,(downs_succ _ _).symm⟩,hJx3⟩⟩
  ·obtain rfl:k=len:=by omega
   gi_wp2
   go_end0
   exact⟨⟨_,rfl⟩,.inl ⟨_,rfl,hJs⟩⟩
set_option maxRecDepth 100000 in
set_option maxHeartbeats 1000000 in
theorem backward0_in (n:Nat) (l Bs cap:Nat) (o:Option Addr) (J:List (Fin 0)→World→Prop) (W:World) (hBs:W.cell? ⟨Bs,0,none⟩=some (.slice o 0 cap)) (h0:J [] W) :
  CallsIn Fence.wide n Tryz.prog 74 #[.func (.yield l) #[] #[],.pointer (some ⟨Bs,0,none⟩)] W fun e W'=>(∃v,e=.returned v)∧J [] W':=by
 refine callsIn_of_wp Tryz.func74 rfl trivial ?_ rfl
 simp only [Tryz.ntmps74,List.size_toArray,List.length_cons,List.length_nil,Nat.reduceAdd,Nat.reduceSub,Array.replicate_succ,Array.replicate_zero,List.push_toArray,List.append_toArray,List.nil_append,List.cons_append]
 gi_wp2
 gi_loopw [3] (fun i wr=>i=.int .i64 (-1)∧J [] wr) (fun _ _=>0)
 case atStart=>exact⟨by go_num,h0⟩
 case round =>
  obtain⟨rfl,hJs⟩:=hrel
  gi_wp2
  go_end0
  exact⟨⟨_,rfl⟩,hJs⟩
def downsAll (m:Nat):List (Fin m):=if h:0<m then downs h m else []
theorem backward_stops (n:Nat) (hn:1≤n) (Bs tb len cap:Nat) (o:Option Addr) (us:Nat→Value) (hreach:len≤1000000) (w:World) (hBs0:Bs<w.heap.size) (hBt:Bs≠tb) (hBs:w.cell? ⟨Bs,0,none⟩=some (.slice o len cap))
  (ho:0<len→∃ub,o=some ⟨ub,0,none⟩∧ub<w.heap.size∧ub≠tb∧∀j,j<len→w.cell? ⟨ub,j,none⟩=some (us j)) :
  SeqStopsK Fence.wide n Tryz.prog 74 #[.pointer (some ⟨Bs,0,none⟩)] (fun x:Fin len=>#[.int .i64 (x.1:Int),us x.1]) (Same tb w.heap.size) (fun ys=>ys=downsAll len) (fun _=>True) len w:=fun l J Jx W hW _ _ hY h0=>by
 have hb:=(hW.cell (p:=⟨Bs,0,none⟩) hBs0).trans hBs
 by_cases hl:0<len
 ·obtain⟨ub,rfl,h1,h2,h3⟩:=ho hl
  refine (backward1_in n hn l Bs tb w.heap.size ub len cap us hl hreach h1 h2 hBs0 hBt J Jx hY W hb (fun j hj=>(hW.cell (p:=⟨ub,j,none⟩) h1).trans (h3 j hj)) h0).mono ?_
  rintro e W' ⟨he,⟨ys,rfl,hj⟩|⟨pre,_,hj⟩⟩
  ·exact⟨he,.inl ⟨_,by unfold downsAll;rw [dif_pos hl],hj⟩⟩
  ·exact⟨he,.inr ⟨_,trivial,hj⟩⟩
 ·obtain rfl:len=0:=by omega
  refine (backward0_in n l Bs cap o J W hb h0).mono ?_
  rintro e W' ⟨he,hj⟩
  exact⟨he,.inl ⟨_,by unfold downsAll;rw [dif_neg hl],hj⟩⟩
set_option maxHeartbeats 1000000 in
theorem backward_any (o:Option Addr) (len cap:Nat) (w:World):Calls Tryz.prog 46 #[.slice o len cap] w fun e w'=>e=.returned (.func (.func 74) #[] #[.pointer (some ⟨w.heap.size,0,none⟩)])∧w'=w.alloc (.cells #[.slice o len cap] 67):=by
 go_enter Tryz.func46,Tryz.ntmps46
 go_wp2_with fail
 go_ret
 exact⟨rfl,rfl⟩
theorem undoSum_downs (u:List (List Nat×Int)) (a:Nat):undoSum ((downsAll u.length).map fun i=>u[i.1]) a=undoSum u a:=by
 have h:(downsAll u.length).map (fun i=>u[i.1])=u.reverse:=by
  unfold downsAll
  split
  ·rename_i h
   apply List.ext_getElem
   ·simp [downs]
   ·intro i h1 h2
    simp [downs]
  ·rename_i h
   have:u=[]:=List.eq_nil_of_length_eq_zero (by omega)
   simp [this]
 rw [h]
 unfold undoSum
 rw [List.map_reverse]
 induction (u.map fun p=>p.2 * ((p.1.count a:Nat):Int)) with
 | nil=>rfl
 | cons x l ih=>simp [ih];omega
theorem undoSum_bound (a:Nat):∀u:List (List Nat×Int),(∀p∈u,p.1.length≤1000∧(p.2=1∨p.2 = -1))→-(1000 * (u.length:Int))≤undoSum u a∧undoSum u a≤1000 * (u.length:Int)
 | [],_=>by simp [undoSum]
 | p :: u,h=>by
  have ih:=undoSum_bound a u fun q hq=>h q (List.mem_cons_of_mem _ hq)
  obtain⟨h1,h2⟩:=h p List.mem_cons_self
  have h3:p.1.count a≤p.1.length:=List.count_le_length
  have e:undoSum (p :: u) a=p.2 * ((p.1.count a:Nat):Int)+undoSum u a:=by simp [undoSum]
  rw [e,List.length_cons]
  rcases h2 with h2 | h2<;>rw [h2]<;>omega
theorem UndoRow.ok {w:World}{B sb tb n:Nat}{uv:Value}{us:List Value}{u:List (List Nat×Int)}(h:UndoRow w B sb tb n uv us u):∀p∈u,p.1.length≤1000∧(p.2=1∨p.2 = -1):=fun p hp=>by
 obtain⟨i,hi⟩:=List.getElem?_of_mem hp
 obtain⟨f,_,h1,h2,b1,b2,lg,z,u,v,h3,_⟩:=h.2.2 i p hi
 refine⟨h2,?_⟩
 rcases h3 with ⟨h,_⟩|⟨h,_⟩
 ·exact .inr h
 ·exact .inl h
theorem SR.none {w:World}{B sb tb tc nb xb xb' nm:Nat}{uv dv:Value}{g:G}(h:SR w B sb tb tc nb xb nm uv dv g) (hm:SMap w B tb xb' nm g.now) (hb:B≤xb') (hne:nb≠xb'):SR w B sb tb tc nb xb' nm (.slice none 0 0) dv { g with next:=g.now,undo:=[] } :=
 ⟨h.bnb,hb,hne,h.now,hm,h.taken,h.dir,h.dirne,⟨[],World.ownsRow_nil _ _ _ _,rfl,fun i p hp=>by simp at hp⟩,h.fok,h.fok⟩
def DropEnd (w:World) (B db sm sb k D:Nat) (t:Dk) (tb tc nb slot gen:Nat) (dv:Value) (g:G) (e:Ending) (w':World):Prop :=
 e=.returned (.tuple #[])∧Kp B w w'∧∃xb,SIx w' B db sm sb k D t tb tc nb xb slot gen (.slice none 0 0) dv { g with next:=g.now,T:=fun a=>g.T a+undoSum g.undo a,undo:=[] }
set_option maxRecDepth 100000 in
set_option maxHeartbeats 4000000 in
theorem drop_any {w:World}{B db sm sb k D tb tc nb xb slot gen:Nat}{t:Dk}{uv dv:Value}{g:G}(h:SIx w B db sm sb k D t tb tc nb xb slot gen uv dv g) (hk:k≤1000) :
  Calls Tryz.prog 16 #[.pointer (some ⟨sb,0,none⟩)] w (DropEnd w B db sm sb k D t tb tc nb slot gen dv g):=by
 obtain⟨us,hu⟩:=h.rest.undo
 obtain⟨uo,uc,rfl,_⟩:=ownsRow_shape hu.1
 have hc5:w.cell? ⟨sb,5,none⟩=some (.slice uo g.undo.length uc):=by rw [cell_of_heap h.cell];rfl
 obtain⟨W0,hW0⟩:∃W0:World,W0=w.alloc (.cells #[.slice uo g.undo.length uc] 67):=⟨_,rfl⟩
 have hW0s:W0.heap.size=w.heap.size+1:=by rw [hW0];simp
 have hW0o:Olds w W0:=by rw [hW0];exact Olds.alloc _ _
 have hW0b:Below w.heap.size w W0:=by rw [hW0];exact (Below.refl _ _).alloc (Nat.le_refl _) _
 have hbox:W0.cell? ⟨w.heap.size,0,none⟩=some (.slice uo g.undo.length uc):=by rw [hW0,cell_of_heap (heap_alloc_new _ _)];rfl
 have htw:tb<w.heap.size:=(ownsRow_block h.rest.taken (g:=tb) rfl).2
 obtain⟨us',hus'⟩:∃us':Nat→Value,∀j,j<g.undo.length→us[j]?=some (us' j):=⟨fun j=>us[j]?.getD undef,fun j hj=>by
  have:j<us.length:=by rw [hu.2.1];exact hj
  simp [this]⟩
 have Hu:=Lib.hid hu
 have Hus:=Lib.hid hus'
 have H:=Lib.hid h
 have HW0:=Lib.hid hW0
 have HW0o:=Lib.hid hW0o
 have HW0b:=Lib.hid hW0b
 have Hhu:Hid (g.undo.length≤1000):=Lib.hid (Nat.le_trans h.hu hk)
 obtain⟨m,hm⟩:∃m,m=g.undo.length:=⟨_,rfl⟩
 have Hm:=Lib.hid hm
 have HS:=Lib.hid (backward_stops (5-1) (by omega) w.heap.size tb g.undo.length uc uo us' (by have:=Hhu.out;omega) W0 (by omega) (by omega) hbox (fun hpos=>by
  rcases hu.1.2 with ⟨e,h0⟩|⟨gg,cap,cur,e,_,hh,_⟩
  ·exact absurd h0 (by omega)
  ·simp only [Value.slice.injEq] at e
   obtain⟨rfl,_,rfl⟩:=e
   refine⟨gg,rfl,by have:=heap_lt hh;omega,fun e=>?_,fun j hj=>?_⟩
   ·subst e
    exact ne_taken h.rest.taken hh (by decide) rfl
   ·have h1:=ownsRow_cell hu.1 j (us' j) (hus' j hj)
    rw [Nat.zero_add] at h1
    exact hW0o.cell h1))
 clear hu h hW0 hW0o hus' hbox hW0b
 refine (callsIn_wide (n:=5)).1 ?_
 refine callsIn_of_wp_marks Tryz.func16 rfl trivial ?_ rfl
 simp only [Tryz.ntmps16,List.size_toArray,List.length_cons,List.length_nil,Nat.reduceAdd,Nat.reduceSub,Array.replicate_succ,Array.replicate_zero,List.push_toArray,List.append_toArray,List.nil_append,List.cons_append]
 gi_wp2_with (refine⟨trivial,?_⟩;gi_at_call 46;refine (callsIn_wide.2 (backward_any _ _ _ _)).mono ?_;rintro e w' ⟨rfl,rfl⟩)
 rw [← HW0.out]
 refine wpIn_rangeFunc_ownF rfl (by omega) (gf:=74) (lb:=#[.pointer (some ⟨w.heap.size,0,none⟩)]) rfl trivial (enters_of Tryz.func74 (by kernel_rfl) rfl)
  HS.out (fun h k=>Same.trans h k) (fun W l o o' hl _ _ _=>Same.putObj W l o' hl) (Below.refl _ _) (fun _=>rfl)
  (fun (pre:List (Fin g.undo.length)) W=>Taken W B tb g.n tc (fun a=>g.T a+undoSum (pre.map fun i=>g.undo[i.1]) a)∧Same tb W0.heap.size W0 W∧Below B W0 W)
  (fun _ _ _=>False)
  (fun s A C row hs hg hr=>?own)
  (fun _ _ _ _ _ hs _ _=>hs)
  ?start
  (fun x=>{ tmps:=#[.pointer (some ⟨sb,0,none⟩),undef,undef,us' x.1,.pointer (some ⟨sb,0,none⟩),.pointer (some ⟨sb,0,none⟩),.pointer (some ⟨sb,5,none⟩),.slice uo g.undo.length uc,.func (.func 74) #[] #[.pointer (some ⟨w.heap.size,0,none⟩)],.int .i64 (x.1:Int),us' x.1,undef,undef,undef,undef,undef,undef,undef,undef,undef,undef,undef,undef,undef],defers:=[] }) ?assign ?body ?done ?stop
 case own =>
  refine⟨ownsRow_blocks hs.1 fun b hb=>?_,hs.2.1.grown (Nat.le_refl _) hg (fun r e=>(hr r e).1),hs.2.2.grown hg (by have:=H.out.hB;have:=hs.2.2.size;omega) (fun r e=>by have:=(hr r e).1;have:=H.out.hB;omega)⟩
  obtain⟨cur,hc⟩:=own_kind hs.1 hb
  exact hg.block b (heap_lt hc) (fun e=>by
   obtain⟨_,o,ho,hno⟩:=hr b e.symm
   rw [hc] at ho
   cases ho
   cases hno)
 case start =>
  refine⟨?_,Same.refl _ _ _,Below.refl _ _⟩
  have:=ownsRow_olds H.out.rest.taken HW0o.out
  have e:(fun a=>g.T a+undoSum (([]:List (Fin g.undo.length)).map fun i=>g.undo[i.1]) a)=g.T:=by
   funext a
   simp [undoSum]
  rw [e]
  exact this
 case assign =>
  intro l x W K hK
  gi_wp2
  exact hK
 case body =>
  rintro l pre x W ⟨hT,hS,hB⟩ hlen
  have hT':=Lib.hid hT
  have hS':=Lib.hid hS
  have hB':=Lib.hid hB
  have hx:g.undo[x.1]?=some g.undo[x.1]:=List.getElem?_eq_getElem x.2
  obtain⟨f,hf,hclo⟩:=Hu.out.2.2 x.1 _ hx
  have hff:us' x.1=f:=by
   have:=(Hus.out x.1 x.2).symm.trans hf
   simpa using this
  have hkept:∀b,b≠tb→b<w.heap.size→W.heap[b]?=w.heap[b]?:=fun b hb hbw=>(hS.2 b hb (by omega)).trans (HW0o.out.2 b hbw)
  have hcloW:Clo W B sb tb g.n f g.undo[x.1]:=hclo.kept H.out.rest.taken (fun b cs ty fr _ hb hc=>(hkept b hb (heap_lt hc)).trans hc)
  have hsbt:sb≠tb:=ne_taken H.out.rest.taken H.out.cell (by decide)
  have hcW:SCell W sb db tb tc nb xb g.n slot gen (.slice uo g.undo.length uc) dv:=(hkept sb hsbt (heap_lt H.out.cell)).trans H.out.cell
  have hbd:∀a,-1000000000≤g.T a+undoSum (pre.map fun i=>g.undo[i.1]) a∧g.T a+undoSum (pre.map fun i=>g.undo[i.1]) a≤1000000000:=fun a=>by
   have h1:=H.out.inv.nonneg a
   have h2:=H.out.inv.B a
   have h3:=undoSum_bound a (pre.map fun i=>g.undo[i.1]) (fun p hp=>by
    obtain⟨i,_,rfl⟩:=List.mem_map.1 hp
    exact Hu.out.ok _ (List.getElem_mem _))
   rw [List.length_map] at h3
   have h4:=Hhu.out
   omega
  obtain⟨b1,b2,hrun⟩:=hcloW.run hcW rfl hT hbd (by have:=H.out.inv.hi;omega)
  have hsum:∀a,g.T a+undoSum (pre.map fun i=>g.undo[i.1]) a+g.undo[x.1].2 * ((g.undo[x.1].1.count a:Nat):Int)=g.T a+undoSum ((pre++[x]).map fun i=>g.undo[i.1]) a:=fun a=>by
   rw [List.map_append,List.map_cons,List.map_nil,undoSum_snoc]
   omega
  have Hsum:=Lib.hid hsum
  obtain⟨cst,hcst⟩:=own_kind hT (g:=tb) rfl
  have Hcst:=Lib.hid hcst
  have hend:∀(e:Ending) (W':World),UndoEnd W B tb g.n tc (fun a=>g.T a+undoSum (pre.map fun i=>g.undo[i.1]) a) g.undo[x.1] e W'→e=.returned (.tuple #[])∧KeepsOthers W W'∧Same tb W0.heap.size W W'∧Taken W' B tb g.n tc (fun a=>g.T a+undoSum ((pre++[x]).map fun i=>g.undo[i.1]) a)∧Same tb W0.heap.size W0 W'∧Below B W0 W':=by
   rintro e W' ⟨rfl,hT2,hO⟩
   refine⟨rfl,hO.keepsOthers hcst,Same.of_on hO,?_,hS'.out.trans (Same.of_on hO),hB'.out.trans (hO.fr H.out.rest.btb []).below⟩
   have e:(fun a=>g.T a+undoSum ((pre++[x]).map fun i=>g.undo[i.1]) a)=fun a=>g.T a+undoSum (pre.map fun i=>g.undo[i.1]) a+g.undo[x.1].2 * ((g.undo[x.1].1.count a:Nat):Int):=funext fun a=>(hsum a).symm
   rw [e]
   exact hT2
  have Hend:=Lib.hid hend
  clear hT hS hB hf hclo hkept hcloW hcW hbd hsum hcst hend hx
  rcases hrun with ⟨rfl,hr⟩|⟨rfl,hr⟩
  ·have Hr:=Lib.hid hr
   clear hr
   rw [hff]
   clear hff
   gi_wp2_with (refine⟨trivial,?_⟩;gi_at_call 72;refine (CallsIn.inRound l (callsIn_wide.2 Hr.out)).mono ?_;clear Hr;intro e W' he;obtain⟨rfl,he2⟩:=Hend.out _ _ he;have He2:=Lib.hid he2;clear he he2)
   exact He2.out
  ·have Hr:=Lib.hid hr
   clear hr
   rw [hff]
   clear hff
   gi_wp2_with (refine⟨trivial,?_⟩;gi_at_call 45;refine (CallsIn.inRound l (callsIn_wide.2 Hr.out)).mono ?_;clear Hr;intro e W' he;obtain⟨rfl,he2⟩:=Hend.out _ _ he;have He2:=Lib.hid he2;clear he he2)
   exact He2.out
 case done =>
  rintro Dd ys W hD rfl ⟨hT,hS,hB⟩ hK
  have hw0:=H.out.hB
  have hsz:w.heap.size<W.heap.size:=by have:=hS.1;omega
  have hkept:∀b,b≠tb→b<w.heap.size→W.heap[b]?=w.heap[b]?:=fun b hb hbw=>(hS.2 b hb (by omega)).trans (HW0o.out.2 b hbw)
  have hsbt:sb≠tb:=ne_taken H.out.rest.taken H.out.cell (by decide)
  have hTT:Taken W B tb g.n tc (fun a=>g.T a+undoSum g.undo a):=by
   have e:(fun a=>g.T a+undoSum ((downsAll g.undo.length).map fun i=>g.undo[i.1]) a)=fun a=>g.T a+undoSum g.undo a:=funext fun a=>by rw [undoSum_downs]
   rw [e] at hT
   exact hT
  have hmap:∀{b:Nat}{es:Array MapEntry}{c:Nat},w.heap[b]?=some (.map es c)→b≠tb:=fun {b es c} hb e=>by
   obtain⟨cur,hc⟩:=own_kind H.out.rest.taken (g:=tb) rfl
   rw [e,hc] at hb
   cases hb
  have hSR:SR W B sb tb tc nb xb k (.slice uo g.undo.length uc) dv { g with T:=fun a=>g.T a+undoSum g.undo a }:=by
   obtain⟨es,c,hk1⟩:=H.out.rest.now.kind
   obtain⟨es',c',hk2⟩:=H.out.rest.next.kind
   exact H.out.rest.keep (hkept _ (hmap hk1) (heap_lt hk1)) (hkept _ (hmap hk2) (heap_lt hk2)) (fun b cs ty fr _ hb hc=>(hkept b hb (heap_lt hc)).trans hc) hTT
  have hcW:SCell W sb db tb tc nb xb g.n slot gen (.slice uo g.undo.length uc) dv:=(hkept sb hsbt (heap_lt H.out.cell)).trans H.out.cell
  have hc3:W.cell? ⟨sb,3,none⟩=some (.map (some nb)):=by rw [cell_of_heap hcW];rfl
  have HC:=Lib.hid (clone_any hSR.now)
  have HSR:=Lib.hid hSR
  have HcW:=Lib.hid hcW
  have HK:=Lib.hid hK
  have HB:=Lib.hid hB
  have Hkept:=Lib.hid hkept
  have hDs:=heap_lt hK
  clear hT hS hB hTT hSR hcW hK hkept hmap
  obtain⟨ws,hws⟩:∃ws,ws=W.heap.size:=⟨_,rfl⟩
  gi_wp2_with (refine⟨trivial,?_⟩;gi_at_call 47;refine (callsIn_wide.2 HC.out).mono ?_;clear HC;rintro e W2 ⟨rfl,hm2,hb2⟩;have Hm2:=Lib.hid hm2;have Hb2:=Lib.hid hb2;have hc52:W2.cell? ⟨sb,5,none⟩=some (.slice uo g.undo.length uc):=(by rw [cell_of_heap ((hb2.block sb (heap_lt HcW.out)).trans HcW.out)];rfl);have hf52:W2.frozen? ⟨sb,5,none⟩=false:=(by simp [World.frozen?,(hb2.block sb (heap_lt HcW.out)).trans HcW.out]);have hc42:W2.cell? ⟨sb,4,none⟩=some (.map (some xb)):=(by rw [cell_of_heap ((hb2.block sb (heap_lt HcW.out)).trans HcW.out)];rfl);have hf42:W2.frozen? ⟨sb,4,none⟩=false:=(by simp [World.frozen?,(hb2.block sb (heap_lt HcW.out)).trans HcW.out]);clear hm2 hb2)
  have h2c:=(Hb2.out.block sb (heap_lt HcW.out)).trans HcW.out
  obtain⟨Y,hY⟩:∃Y:World,Y=(W2.setCell ⟨sb,5,none⟩ (.slice none 0 0)).setCell ⟨sb,4,none⟩ (.map (some W.heap.size)):=⟨_,rfl⟩
  rw [← hY]
  have h2o:=Olds.of_below Hb2.out
  have hYb:∀b,b≠sb→Y.heap[b]?=W2.heap[b]?:=fun b hb=>by
   rw [hY]
   exact (Below.heap_setCell _ _ _ _ hb).trans (Below.heap_setCell _ _ _ _ hb)
  have hYc:SCell Y sb db tb tc nb W.heap.size g.n slot gen (.slice none 0 0) dv:=by
   rw [hY]
   exact heap_setCell_same _ sb 4 _ _ _ (heap_setCell_same _ sb 5 _ _ _ h2c)
  have hYB:Below B W2 Y:=by
   rw [hY]
   exact ((Below.refl _ _).setCell (p:=⟨sb,5,none⟩) H.out.bsb _).setCell (p:=⟨sb,4,none⟩) H.out.bsb _
  have hKY:Y.heap[Dd]?=some (.deferred (some [])):=(hYb Dd (fun e=>by have h1:=h2o.2 _ hDs;rw [HK.out,e,h2c] at h1;cases h1)).trans ((h2o.2 _ hDs).trans HK.out)
  refine⟨by simp,.inl ⟨_,_,rfl,run_takeDeferred hKY,?_⟩⟩
  have hZb:∀b,b≠Dd→(Y.putObj Dd (.deferred none)).heap[b]?=Y.heap[b]?:=fun b hb=>World.putObj_heap_other hb
  have hDw:w.heap.size<Dd:=by omega
  have hne:sb≠Dd:=by have:=heap_lt H.out.cell;omega
  have hBZ:Below B w (Y.putObj Dd (.deferred none)):=by
   have h1:Below B w W:=(HW0b.out.mono H.out.hB).trans HB.out
   have h2:Below B W W2:=Hb2.out.mono (by have:=H.out.hB;omega)
   exact (h1.trans (h2.trans hYB)).trans ((Below.refl B Y).grown (grownBy_putObj' Y Dd _) (by have:=hYB.size;have:=h2o.1;have:=H.out.hB;omega) (fun k e=>by cases e;have:=H.out.hB;omega))
  have hall:∀b,b<w.heap.size→b≠sb→b≠tb→(Y.putObj Dd (.deferred none)).heap[b]?=w.heap[b]?:=fun b hb h1 h2 =>
   (hZb b (by omega)).trans ((hYb b h1).trans ((h2o.2 b (by omega)).trans (Hkept.out b h2 hb)))
  have hF:Fr B [69] [tb] w (Y.putObj Dd (.deferred none)):=⟨hBZ,fun b o hb hm ht=>(hall b (heap_lt hb) (fun e=>by
   rw [e,H.out.cell] at hb
   exact ht _ _ _ (Option.some.inj hb).symm (by simp)) (by simpa using hm)).trans hb⟩
  have hSR2:=HSR.out.olds h2o
  have hSR3:=hSR2.none Hm2.out (by have:=H.out.hB;omega) (by have:=HSR.out.now.lt;omega)
  have hSR4:=hSR3.but (W:=Y) h2c (by decide) hYb
  have hSR5:SR (Y.putObj Dd (.deferred none)) B sb tb tc nb W.heap.size k (.slice none 0 0) dv { g with next:=g.now,T:=fun a=>g.T a+undoSum g.undo a,undo:=[] }:=by
   have hnd:∀{b:Nat}{es:Array MapEntry}{c:Nat},Y.heap[b]?=some (.map es c)→b≠Dd:=fun {b es c} hb e=>by
    rw [e,hKY] at hb
    cases hb
   obtain⟨es,c,hk1⟩:=hSR4.now.kind
   obtain⟨es',c',hk2⟩:=hSR4.next.kind
   refine hSR4.keep (T':=fun a=>g.T a+undoSum g.undo a) (hZb _ (hnd hk1)) (hZb _ (hnd hk2)) (fun b cs ty fr _ _ hc=>(hZb b (fun e=>by rw [e,hKY] at hc;cases hc)).trans hc) (ownsRow_blocks hSR4.taken fun b hb=>hZb b (fun e=>by
    obtain⟨cur,hc⟩:=own_kind hSR4.taken hb
    rw [e,hKY] at hc
    cases hc))
  have hmk:=fun (bad:List Nat) (hb:3∉bad)=>(H.out.rest.marks hb).sub (M':=[tb]) (by simp)
  refine⟨_,results_none rfl _ _ _,rfl,Kp.fr hF (by decide) (hmk _ (by decide)),W.heap.size,H.out.bsb,(hZb sb hne).trans hYc,hSR5,H.out.di.fr hF (by decide) ?_ (hmk _ (by decide)),H.out.ht,H.out.hslot,H.out.hgen,Nat.zero_le _,H.out.hd,H.out.hd,H.out.smn,?_,H.out.inv.dropped⟩
  ·simp only [List.mem_singleton]
   exact H.out.smtb
  ·have:=H.out.di.seen.lt
   omega
 case stop =>
  rintro D c pre W _ _ h _
  exact h.elim
end Go.Proofs.YtndjmffnlcilbaaGreatDoor
