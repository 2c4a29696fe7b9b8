/- Contracts over this program. Their conditions: the slices read as the lists that are named, and lie within the sizes that are named. -/
import Derived.Test.YtejeflddeanccaaGreatDoorT2
import Derived.Maps.AppendAt
import Derived.Maps.OwnSet
import Derived.Maps.OwnOps
import Derived.StringKeys
import Derived.Test.YtejeflddeanccaaGreatDoorP3
import Derived.Deep.RegionHeld
import Derived.Deep.CutRange
import Derived.KernelRfl
import Derived.Test.YtejeflddeanccaaGreatDoorP1
import Derived.Lib.ConvBytes
import Derived.Deep.RegionHeldLaw
import Derived.Test.YtejeflddeanccaaGreatDoorP0
import Derived.ProofKit
import Derived.SizedLaws
import Derived.LaidMore
set_option linter.unusedSimpArgs false
set_option linter.unusedVariables false
set_option linter.deprecated false
set_option linter.unnecessarySimpa false
namespace Go.Proofs.YtejeflddeanccaaGreatDoor
open Go Go.RowKit Go.Ix
section
variable {T e:TypeId}{z:Value}{size bytes:Nat}
theorem run_append_nilG (hT:Tryz.prog.underlying T=some (.slice e)) (hs:∀W:World,(sizeOf e).run Tryz.prog W=.ok size W) (base:Option Addr) (l c:Nat) (h:l≤c) (ty:TypeId) (W:World) :
  (Builtin.append_ #[T,T] ty #[.slice base l c,.slice none 0 0]).run Tryz.prog W=.ok (.slice base l c) W:=by
 have hu:(underlying T).run Tryz.prog W=.ok (.slice e) W:=run_underlying hT W
 have hs:=hs W
 cases base with
 | none=>simp [Builtin.append_,bind,pure,Sem.run_bind',hu,hs,Sem.run,Builtin.lenOf,Builtin.firstCells,h,Sem.bind]
 | some a=>simp [Builtin.append_,bind,pure,Sem.run_bind',hu,hs,Sem.run,Builtin.lenOf,Builtin.firstCells,h,storeCells,Sem.bind]
theorem run_append_flat (hT:Tryz.prog.underlying T=some (.slice e)) (hs:∀W:World,(sizeOf e).run Tryz.prog W=.ok size W) {i:TypeInfo}(hi:Tryz.prog.info? e=some i) (hz:i.zero=some z) (hsize:i.size=size) (hby:i.bytes=bytes) (hzs:z.cells.size=size) (hsz:0<size) (hb1:1≤bytes)
  {W:World}{B n m:Nat}{v u:Value}{xs ys:List Value}(hown:W.ownsRow B e size v n xs) (hB:B≤W.heap.size) (hu:FlatAt W u m ys) (hm:ys.length=m * size) (h1:∀x∈ys,x.oneCell'=true) (hbytes:(n+m) * bytes≤140737488355328) (ty:TypeId) :
  ∃v' w',(Builtin.append_ #[T,T] ty #[v,u]).run Tryz.prog W=.ok v' w'∧w'.ownsRow B e size v' (n+m) (xs++ys)∧W.grownBy w' v.ownBlock∧(v'.ownBlock=v.ownBlock∨v'.ownBlock=some W.heap.size):=by
 have hmax:n+m≤maxLen:=by
  have:n+m≤(n+m) * bytes:=Nat.le_mul_of_pos_right _ hb1
  unfold maxLen
  omega
 rcases hu.cases with ⟨o,c,rfl,rfl,h0⟩|⟨b,off,c,rfl,hne,hc⟩
 ·have hm0:m=0:=by
   rcases Nat.eq_zero_or_pos m with h | h
   ·exact h
   ·have:=Nat.mul_pos h hsz
    simp at hm
    omega
  subst hm0
  cases o with
  | none =>
   obtain rfl:=h0 rfl
   obtain⟨o,c,rfl,_⟩:=ownsRow_shape hown
   have hlc:n≤c:=by
    rcases hown.2 with ⟨e,h⟩|⟨g,cap,cur,e,_,_,h,_⟩
    ·omega
    ·simp only [Value.slice.injEq] at e
     omega
   exact⟨_,W,run_append_nilG hT hs o n c hlc ty W,by rw [List.append_nil];exact hown,⟨rfl,rfl,rfl,Nat.le_refl _,fun _ _ _=>rfl⟩,.inl rfl⟩
  | some a =>
   obtain⟨v',w',h1,h2,h3,_,h5⟩:=run_append_own_at (P:=Tryz.prog) W B T ty e i z size bytes hT hi hz hsize hby hzs hsz v n xs hown a 0 c [] (by simp) (fun j u h=>by simp at h) (fun u h=>by simp at h) hmax hbytes hB
   exact⟨v',w',h1,h2,h3,h5⟩
 ·obtain⟨v',w',h1,h2,h3,_,h5⟩:=run_append_own_at (P:=Tryz.prog) W B T ty e i z size bytes hT hi hz hsize hby hzs hsz v n xs hown ⟨b,off,none⟩ m c ys hm (fun j x hx=>by
   have:=hc j x hx
   rw [show (⟨b,off,none⟩:Addr).add j=⟨b,off+j,none⟩ by simp [Addr.add]]
   exact this) h1 hmax hbytes hB
  exact⟨v',w',h1,h2,h3,h5⟩
theorem wpList_append_flat {ops:Array Oper}{rest:List Oper}{o:Oper}{a:Act}{Q:Exit→Act→World→Prop}{W:World}(hgd:o.guard=none) (s x:Operand)
  (ho:o.op=.call { callee:=.builtin .append,args:=#[s,x],argTypes:=#[T,T] })
  (hT:Tryz.prog.underlying T=some (.slice e)) (hs:∀W:World,(sizeOf e).run Tryz.prog W=.ok size W) {i:TypeInfo}(hi:Tryz.prog.info? e=some i) (hz:i.zero=some z) (hsize:i.size=size) (hby:i.bytes=bytes) (hzs:z.cells.size=size) (hsz:0<size) (hb1:1≤bytes)
  (B n m:Nat) (v u:Value) (xs ys:List Value) (hsv:a.eval s=v) (hxv:a.eval x=u) (hown:W.ownsRow B e size v n xs) (hB:B≤W.heap.size) (hu:FlatAt W u m ys) (hm:ys.length=m * size) (h1:∀x∈ys,x.oneCell'=true)
  (hbytes:(n+m) * bytes≤140737488355328)
  (h:∀v' w',w'.ownsRow B e size v' (n+m) (xs++ys)→W.grownBy w' v.ownBlock→(v'.ownBlock=v.ownBlock∨v'.ownBlock=some W.heap.size)→wpList Tryz.prog ops Q rest (a.put o.dst v') w'):wpList Tryz.prog ops Q (o :: rest) a W :=
 wpList_plain hgd fun K hK=>by
  obtain⟨v',w',hr,h2,h3,h4⟩:=run_append_flat hT hs hi hz hsize hby hzs hsz hb1 hown hB hu hm h1 hbytes o.type
  unfold Oper.wp execOp
  simp only [ho,resolve,invoke,builtin,Sem.run_bind,Sem.run_pure,Result.andThen_ok,List.map_toArray,List.map_cons,List.map_nil,hsv,hxv,hr]
  exact hK _ _ (h v' w' h2 h3 h4)
end
theorem size5 (W:World):(sizeOf 5).run Tryz.prog W=.ok 1 W:=by kernel_rfl
theorem size84 (W:World):(sizeOf 64).run Tryz.prog W=.ok 2 W:=by kernel_rfl
theorem one_octs {l:List Nat}:∀x∈octs l,x.oneCell'=true:=by
 intro x hx
 unfold octs at hx
 obtain⟨y,_,rfl⟩:=List.mem_map.1 hx
 simp [Value.oneCell']
theorem owns_take {w:World}{B e n c j:Nat}{o:Option Addr}{xs:List Value}(h:w.ownsRow B e 1 (.slice o n c) n xs) (hj:j≤n):FlatAt w (.slice o j c) j (xs.take j):=by
 rcases h.2 with ⟨e,h0⟩|⟨g,cap,cur,e,_⟩
 ·simp only [Value.slice.injEq] at e
  obtain⟨rfl,_,rfl⟩:=e
  subst h0
  obtain rfl:j=0:=by omega
  exact⟨none,0,rfl,fun _=>rfl,fun h=>absurd (List.take_zero) h⟩
 ·simp only [Value.slice.injEq] at e
  obtain⟨rfl,_,rfl⟩:=e
  refine⟨_,_,rfl,(fun h=>by cases h),fun _=>⟨g,0,rfl,fun i v hv=>?_⟩⟩
  have hij:=(List.getElem?_eq_some_iff.1 hv).1
  rw [List.length_take] at hij
  rw [List.getElem?_take_of_lt (by omega)] at hv
  exact ownsRow_cell h i v hv
theorem owns_flat {w:World}{B e n c:Nat}{o:Option Addr}{xs:List Value}(h:w.ownsRow B e 1 (.slice o n c) n xs):FlatAt w (.slice o n c) n xs:=by
 have:=owns_take h (Nat.le_refl n)
 rwa [List.take_of_length_le (by rw [h.1];omega)] at this
end Go.Proofs.YtejeflddeanccaaGreatDoor
namespace Go.Proofs.YtejeflddeanccaaGreatDoor
open Go Go.RowKit Go.Ix Go.Maps
theorem take_snoc {α:Type}{l:List α}{k:Nat}{x:α}(h:l[k]?=some x):l.take (k+1)=l.take k++[x]:=by
 rw [List.take_add_one,h]
 rfl
theorem Tryz.lawT:Keyed Tryz.prog 9:=string_keyed Tryz.underlying9
theorem zero4 (w:World):(zeroValue 4).run Tryz.prog w=.ok (.bool false) w:=by kernel_rfl
theorem keyT (s:Txt) (h:s.length≤1000000000):keyOf Tryz.prog 9 (encStr s)=some (.string s):=by
 have:=WideMaps.keyOf_string_mk (P:=Tryz.prog) (k:=9) Tryz.underlying9 (s:=⟨s.toArray⟩) (by show s.toArray.size≤maxLen;unfold maxLen;simp;omega)
 simpa using this
def SetAt (w:World) (b n:Nat) (S:List Txt):Prop :=
 ∃D:DataW Unit,w.ownsMap Tryz.prog 9 (plainElem Tryz.prog 4) b n D∧∀s:Txt,D.atKey (.string s) (.lit (.bool false))=.lit (.bool (decide (s∈S)))∧Maps.has D (.string s)=decide (s∈S)
theorem SetAt.made (w:World):SetAt (w.alloc (.map #[] 0)) w.heap.size 0 [] :=
 ⟨.map [],World.ownsMap_made w _ _ _,fun s=>⟨by simp [DataW.atKey],by simp [Maps.has]⟩⟩
theorem SetAt.lt {w:World}{b n:Nat}{S:List Txt}(h:SetAt w b n S):b<w.heap.size:=by
 obtain⟨D,h,_⟩:=h
 exact h.lt
theorem SetAt.block {w W:World}{b n:Nat}{S:List Txt}(h:SetAt w b n S) (hb:W.heap[b]?=w.heap[b]?):SetAt W b n S:=by
 obtain⟨D,⟨es,clock,h1,h2⟩,h3⟩:=h
 exact⟨D,⟨es,clock,hb.trans h1,h2⟩,h3⟩
theorem SetAt.olds {w W:World}{b n:Nat}{S:List Txt}(h:SetAt w b n S) (hb:Olds w W):SetAt W b n S:=h.block (hb.2 b h.lt)
theorem run_set_look {w:World}{b n:Nat}{S:List Txt}(h:SetAt w b n S) (s:Txt) (hs:s.length≤1000000000):(Instr.lookup 173 (.map (some b)) (encStr s) false).run Tryz.prog w=.ok (.bool (decide (s∈S))) w:=by
 obtain⟨D,h,hD⟩:=h
 obtain⟨v,ps,hr,hv⟩:=h.lookup (t:=173) (e:=4) Tryz.lawT Tryz.underlying173 (zero4 w) (plainElem_bool Tryz.underlying4 false) (keyT s hs)
 rw [(hD s).1] at hv
 rw [hr]
 cases v<;>simp [plainElem,Tryz.underlying4] at hv
 rw [hv.1]
theorem wpList_set_look {ops:Array Oper}{rest:List Oper}{o:Oper}{a:Act}{Q:Exit→Act→World→Prop}{W:World}(hg:o.guard=none) (m x:Operand) (hop:o.op=Op.lookup 173 m x false) (b n:Nat) (S:List Txt) (s:Txt)
  (hm:a.eval m=.map (some b)) (hx:a.eval x=encStr s) (h:SetAt W b n S) (hs:s.length≤1000000000)
  (hK:wpList Tryz.prog ops Q rest (a.put o.dst (.bool (decide (s∈S)))) W):wpList Tryz.prog ops Q (o :: rest) a W :=
 wpList_plain hg fun K hKK=>by
  have hrun:=run_set_look h s hs
  unfold Oper.wp
  simp only [execOp,hop,hm,hx]
  simp [hrun,Result.andThen]
  exact hKK _ _ (by simpa using hK)
theorem wpList_set_store {ops:Array Oper}{rest:List Oper}{o:Oper}{a:Act}{Q:Exit→Act→World→Prop}{W:World}(hg:o.guard=none) (m x v:Operand) (hop:o.op=Op.mapUpdate 173 m x v) (b n:Nat) (S:List Txt) (s:Txt)
  (hm:a.eval m=.map (some b)) (hx:a.eval x=encStr s) (hv:a.eval v=.bool true) (h:SetAt W b n S) (hs:s.length≤1000000000) (hn:n<1000000000)
  (hK:∀w',SetAt w' b (n+1) (S++[s])→W.grownBy w' (some b)→wpList Tryz.prog ops Q rest (a.put o.dst undef) w'):wpList Tryz.prog ops Q (o :: rest) a W:=by
 obtain⟨D,h,hD⟩:=h
 refine wpList_mapUpdate_own W hg m x v 173 hop 9 4 Tryz.lawT Tryz.underlying173 (plainElem Tryz.prog 4) b n D hm h (by unfold maxLen;omega) _ _ (.string s) hx hv (keyT s hs) (.lit (.bool true)) [] (plainElem_bool Tryz.underlying4 true) fun w' h1 h2=>hK w' ⟨_,h1,fun t=>?_⟩ h2
 by_cases ht:t=s
 ·subst ht
  refine⟨?_,?_⟩
  ·rw [atKey_put_same h.isMap (k:=.string t) trivial]
   simp
  ·rw [has_put_same h.isMap (k:=.string t) trivial]
   simp
 ·have hne:(Lit.string t)≠Lit.string s:=fun e=>ht (by cases e;rfl)
  refine⟨?_,?_⟩
  ·rw [atKey_put_other hne,(hD t).1]
   simp [ht]
  ·rw [has_put_other hne,(hD t).2]
   simp [ht]
end Go.Proofs.YtejeflddeanccaaGreatDoor
namespace Go.Proofs.YtejeflddeanccaaGreatDoor
open Go Go.RowKit Go.Ix Go.Tm
def wtL (l:List Lbl):Nat:=(l.map fun y=>y.1.length+y.2.length).sum
def wtT (t:Tomb):Nat:=t.1.length+wtL t.1
def wts (l:List Tomb):Nat:=(l.map wtT).sum
theorem wtL_take {l:List Lbl}{k:Nat}{y:Lbl}(h:l[k]?=some y):wtL (l.take (k+1))=wtL (l.take k)+(y.1.length+y.2.length):=by
 unfold wtL
 rw [List.take_add_one,h,List.map_append,List.sum_append]
 simp
theorem wts_take {l:List Tomb}{k:Nat}{t:Tomb}(h:l[k]?=some t):wts (l.take (k+1))=wts (l.take k)+wtT t:=by
 unfold wts
 rw [List.take_add_one,h,List.map_append,List.sum_append]
 simp
theorem sum_mem {α:Type}{f:α→Nat}{l:List α}{x:α}(h:x∈l):f x≤(l.map f).sum:=by
 induction l with
 | nil=>simp at h
 | cons y l ih =>
  rw [List.map_cons,List.sum_cons]
  rcases List.mem_cons.1 h with rfl | h
  ·omega
  ·have:=ih h
   omega
def VastL (l:List Lbl):Prop:=l.length≤140737488355328∧∀y∈l,y.1.length≤140737488355328∧y.2.length≤140737488355328
def VastT (l:List Tomb):Prop:=l.length≤140737488355328∧∀t∈l,VastL t.1
theorem smallT_of {l:List Tomb}(h:wts l+l.length≤20000):SmallT l:=fun t ht=>by
 have h1:wtT t≤wts l:=sum_mem (f:=wtT) ht
 have h3:wtT t≤20000:=by omega
 unfold wtT at h3
 refine⟨by omega,fun y hy=>?_⟩
 have h2:=sum_mem (f:=fun y:Lbl=>y.1.length+y.2.length) hy
 unfold wtL at h3
 omega
set_option maxRecDepth 20000 in
set_option maxHeartbeats 1000000 in
theorem lsize_any (o:Option Addr) (n c:Nat) (l:List Lbl) (w:World) (hl:l.length=n) (hv:VastL l) (hc:Rows2 w o l):Calls Tryz.prog 15 #[.slice o n c] w fun e w'=>(∃r:Nat,e=.returned (.int .i64 (r:Nat))∧r≤600000000000000∧(20000<r∨r=n+wtL l))∧∃q,w'=w.drewN q:=by
 have Hc:=Lib.hid hc
 have Hv:=Lib.hid hv
 have Hl:=Lib.hid hl
 have hn:=hv.1
 rw [hl] at hn
 clear hc hv hl
 go_enter Tryz.func15,Tryz.ntmps15
 go_wp2_with fail
 go_loopw [3,4] (fun nv iv wr=>∃k q t:Nat,k≤n∧iv=.int .i64 k∧nv=.int .i64 t∧t≤600000000000000∧(20000<t∨t=n+wtL (l.take k))∧wr=w.drewN q) (fun _ iv _=>n-(intOf iv).toNat)
 case atStart=>exact⟨0,0,n,Nat.zero_le _,rfl,rfl,by omega,.inr (by rw [List.take_zero];rfl),rfl⟩
 case round =>
  obtain⟨k,q,t,hk,rfl,rfl,ht6,ht,rfl⟩:=hrel
  have Ht:=Lib.hid ht
  clear ht
  by_cases hlt:k<n
  ·by_cases h4:t≤20000
   ·obtain⟨b,off,y1,y2,rfl,hy,hy1,hy2⟩:=Hc.out.at (k:=k) (by rw [Hl.out];exact hlt)
    obtain⟨hly1,hly2⟩:=Hv.out.2 _ (List.mem_of_getElem? hy)
    simp only at hly1 hly2
    have Hnx:Hid (20000<t+(y1.length+y2.length)∨t+(y1.length+y2.length)=n+wtL (l.take (k+1))):=Lib.hid (by
     rw [wtL_take hy]
     rcases Ht.out with h | h
     ·omega
     ·exact .inr (by simp only;omega))
    clear hy
    have hw3:IntKind.i64.wrap ((y1.length:Int)+(y2.length:Int))=(y1.length:Int)+(y2.length:Int):=by rw [IntKind.wrap_i64];omega
    have hw4:IntKind.i64.wrap ((t:Int)+((y1.length:Int)+(y2.length:Int)))=(t:Int)+((y1.length:Int)+(y2.length:Int)):=by rw [IntKind.wrap_i64];omega
    go_upto_region 5 with fail
    go_region_held (fun W=>W.cell? ⟨b,off+k * 2,none⟩=some (encStr y1)∧W.cell? ⟨b,off+k * 2+1,none⟩=some (encStr y2)) (exact⟨hy1,hy2⟩) (fail)
    go_wp2_with fail
    go_roundw
    case rel=>exact⟨k+1,q+1,t+(y1.length+y2.length),by omega,by go_num,by go_num,by omega,Hnx.out,rfl⟩
    case measure=>simp [intOf];omega
   ·go_wp2_with fail
    go_ret
    exact⟨⟨t,rfl,ht6,.inl (by omega)⟩,q,rfl⟩
  ·have Hfin:Hid (20000<t∨t=n+wtL l):=Lib.hid (by
    have h9:=Ht.out
    rwa [List.take_of_length_le (l:=l) (by rw [Hl.out];omega)] at h9)
   go_wp2_with fail
   go_ret
   exact⟨⟨t,rfl,ht6,Hfin.out⟩,q,rfl⟩
def MuchSays (x:Prop) (e:Ending):Prop:=e=.returned (.bool true)∨(e=.returned (.bool false)∧x)
set_option maxRecDepth 20000 in
set_option maxHeartbeats 1000000 in
theorem lheavy_any (o:Option Addr) (n c:Nat) (l:List Tomb) (w:World) (hl:l.length=n) (hv:VastT l) (hc:RowsT w o l):Calls Tryz.prog 4 #[.slice o n c,.slice none 0 0] w fun e w'=>MuchSays (wts l+n≤20000∧n≤200) e∧∃q,w'=w.drewN q:=by
 have Hc:=Lib.hid hc
 have Hv:=Lib.hid hv
 have Hl:=Lib.hid hl
 have hn:=hv.1
 rw [hl] at hn
 clear hc hv hl
 go_enter Tryz.func4,Tryz.ntmps4
 go_wp2_with fail
 go_loopw [5,6] (fun nv iv wr=>∃k q t:Nat,k≤n∧iv=.int .i64 k∧nv=.int .i64 t∧t≤900000000000000∧(20000<t∨t=n+wts (l.take k))∧wr=w.drewN q) (fun _ iv _=>n-(intOf iv).toNat)
 case atStart=>exact⟨0,0,n,Nat.zero_le _,rfl,rfl,by omega,.inr (by rw [List.take_zero];rfl),rfl⟩
 case round =>
  obtain⟨k,q,t,hk,rfl,rfl,ht6,ht,rfl⟩:=hrel
  have Ht:=Lib.hid ht
  clear ht
  by_cases hlt:k<n
  ·by_cases h4:t≤20000
   ·obtain⟨b,off,t1,t2,t3,o1,n1,c1,rfl,hx,hx1,hx2,hx3,hl1,hr1,hz1⟩:=Hc.out.at (k:=k) (by rw [Hl.out];exact hlt)
    have hvl:=Hv.out.2 _ (List.mem_of_getElem? hx)
    simp only at hvl
    have HS:Hid (∀q,Calls Tryz.prog 15 #[.slice o1 n1 c1] (w.drewN q) fun e w'=>(∃r:Nat,e=.returned (.int .i64 (r:Nat))∧r≤600000000000000∧(20000<r∨r=n1+wtL t1))∧∃q',w'=(w.drewN q).drewN q'):=Lib.hid (fun q=>lsize_any o1 n1 c1 t1 (w.drewN q) hl1 hvl (hr1.olds (Olds.drewN w q)))
    have Hnx:Hid (∀r:Nat,(20000<r∨r=n1+wtL t1)→(20000<t+r∨t+r=n+wts (l.take (k+1)))):=Lib.hid (fun r hr=>by
     rw [wts_take hx]
     unfold wtT
     simp only
     rcases Ht.out with h | h
     ·omega
     ·rcases hr with h2 | h2
      ·omega
      ·right;omega)
    clear hx hx2 hx3 hl1 hr1 hvl
    have hwr:∀r:Nat,r≤600000000000000→IntKind.i64.wrap ((t:Int)+(r:Int))=((t+r:Nat):Int):=fun r hr=>by rw [IntKind.wrap_i64];omega
    have Hwr:=Lib.hid hwr
    clear hwr
    go_wp2_with (go_at_call 15;refine (HS.out _).mono ?_;rintro e w2 ⟨⟨r,rfl,hr6,hr⟩,q2,hw2⟩;have hwr2:=Hwr.out r hr6;have Hr2:=Lib.hid (Hnx.out r hr);rw [hw2,World.drewN_drewN];clear hw2 w2 hr)
    go_roundw
    case rel=>exact⟨k+1,q+q2,t+r,by omega,by go_num,rfl,by omega,Hr2.out,rfl⟩
    case measure=>simp [intOf];omega
   ·have hbig:decide ((20000:Int)<(t:Int))=true:=by simp;omega
    go_wp2_with fail
    go_loopw [5,7] (fun nv iv wr=>nv=.int .i64 (t:Nat)∧iv=.int .i64 0∧∃q,wr=w.drewN q) (fun _ _ _=>0)
    case atStart=>exact⟨rfl,rfl,q,rfl⟩
    case round =>
     obtain⟨rfl,rfl,q,rfl⟩:=hrel
     go_wp2_with fail
     go_ret
     exact⟨.inl rfl,q,rfl⟩
  ·have Hfin:Hid (20000<t∨t=n+wts l):=Lib.hid (by
    have h9:=Ht.out
    rwa [List.take_of_length_le (l:=l) (by rw [Hl.out];omega)] at h9)
   go_wp2_with fail
   go_loopw [5,7] (fun nv iv wr=>nv=.int .i64 (t:Nat)∧iv=.int .i64 0∧∃q,wr=w.drewN q) (fun _ _ _=>0)
   case atStart=>exact⟨rfl,rfl,q,rfl⟩
   case round =>
    obtain⟨rfl,rfl,q,rfl⟩:=hrel
    by_cases h4:t≤20000
    ·by_cases h6:n≤200
     ·go_wp2_with fail
      go_ret
      exact⟨.inr ⟨ret_bool (a:=decide (20000<(t:Int)) || decide (200<(n:Int))) (by simp;omega),by rcases Hfin.out with h | h<;>omega,h6⟩,q,rfl⟩
     ·go_wp2_with fail
      go_ret
      exact⟨.inl (ret_bool (a:=decide (20000<(t:Int)) || decide (200<(n:Int))) (by simp;omega)),q,rfl⟩
    ·go_wp2_with fail
     go_ret
     exact⟨.inl rfl,q,rfl⟩
end Go.Proofs.YtejeflddeanccaaGreatDoor
namespace Go.Proofs.YtejeflddeanccaaGreatDoor
open Go Go.RowKit Go.Ix Go.Tm
def BySl (w:World) (v:Value) (bs:List Nat):Prop:=∃b off c,v=.slice (some ⟨b,off,none⟩) bs.length c∧bs.length≤c∧c≤maxLen∧CellsAt w b off (octs bs)
theorem BySl.olds {w W:World}{v:Value}{bs:List Nat}(h:BySl w v bs) (hb:Olds w W):BySl W v bs:=by
 obtain⟨b,off,c,h1,h2,h3,h4⟩:=h
 exact⟨b,off,c,h1,h2,h3,h4.olds hb⟩
theorem BySl.inv {w:World}{b f n c:Nat}{bs:List Nat}(h:BySl w (.slice (some ⟨b,f,none⟩) n c) bs):bs.length=n∧bs.length≤c∧c≤maxLen∧CellsAt w b f (octs bs):=by
 obtain⟨b',f',c',e,h2,h3,h4⟩:=h
 simp only [Value.slice.injEq,Option.some.injEq,Addr.mk.injEq,and_true] at e
 obtain⟨⟨rfl,rfl⟩,rfl,rfl⟩:=e
 exact⟨rfl,h2,h3,h4⟩
theorem octs_cell {w:World}{b off:Nat}{bs:List Nat}(h:CellsAt w b off (octs bs)) {i x:Nat}(hi:bs[i]?=some x):w.cell? ⟨b,off+i,none⟩=some (.int .u8 (x:Int)):=h i _ (by simp [octs,hi])
theorem conv_txt (w:World) {b off c:Nat}{bs:List Nat}(h:CellsAt w b off (octs bs)) (h8:∀x∈bs,x<256) {m:Nat}(hm:bs.length=m):(convert 23 9 (.slice (some ⟨b,off,none⟩) m c)).run Tryz.prog w=.ok (encStr (txtOf bs)) w:=by
 have hl:(txtOf bs).length=m:=by unfold txtOf;rw [List.length_map,hm]
 have:=run_convert_bytes_back (P:=Tryz.prog) w 23 9 5 ⟨b,off,none⟩ c (txtOf bs) Tryz.underlying23 Tryz.underlying5 Tryz.underlying9 fun j hj=>by
  have:=h j (.int .u8 ((txtOf bs)[j].toNat:Int)) (by
   have e:(nums (txtOf bs))[j]?=bs[j]?:=by rw [nums_txt h8]
   have e2:(nums (txtOf bs))[j]?=some (txtOf bs)[j].toNat:=by unfold nums;simp [hj]
   unfold octs
   rw [List.getElem?_map,← e,e2]
   rfl)
  rw [WideShapes.add_plain]
  exact this
 rw [hl] at this
 exact this
theorem or_two (x y:Nat) (hx:x<256) (hy:y<256):bits .or .i64 (x:Int) ((y:Int) * 256)=((x+256 * y:Nat):Int):=by
 have h:∀a:Fin 256,∀b:Fin 256,(a.val ||| (b.val * 256))=a.val+256 * b.val:=by decide +kernel
 have h1:=h ⟨x,hx⟩ ⟨y,hy⟩
 simp only at h1
 have h2:=(bits_nat .i64 63 (by decide) (fun n h0 h1=>by rw [IntKind.wrap_i64];omega) x (y * 256) (by omega) (by omega)).2
 rw [h1] at h2
 rw [← h2]
 congr 1
theorem cut_at (b off n c i j:Nat) (h1:i≤j) (h2:j≤c):∃f,(i<c→f=off+i)∧∀W:World,(Instr.slice 23 (.slice (some ⟨b,off,none⟩) n c) (some (.int .i64 (i:Nat))) (some (.int .i64 (j:Nat))) none).run Tryz.prog W=.ok (.slice (some ⟨b,f,none⟩) (j-i) (c-i)) W:=by
 have e1:((i:Nat):Int)≤(j:Int):=by omega
 have e2:((j:Nat):Int)≤(c:Int):=by omega
 by_cases h:c=i
 ·subst h
  obtain rfl:j=c:=by omega
  refine⟨off,fun h9=>by omega,fun W=>?_⟩
  go_simp
 ·refine⟨off+i,fun h9=>rfl,fun W=>?_⟩
  go_simp
theorem cut_from (b off n c i:Nat) (h1:i≤n) (h2:n≤c):∃f,(i<c→f=off+i)∧∀W:World,(Instr.slice 23 (.slice (some ⟨b,off,none⟩) n c) (some (.int .i64 (i:Nat))) none none).run Tryz.prog W=.ok (.slice (some ⟨b,f,none⟩) (n-i) (c-i)) W:=by
 have e1:((i:Nat):Int)≤(n:Int):=by omega
 have e2:((n:Nat):Int)≤(c:Int):=by omega
 by_cases h:c=i
 ·refine⟨off,fun h9=>by omega,fun W=>?_⟩
  go_simp
 ·refine⟨off+i,fun h9=>rfl,fun W=>?_⟩
  go_simp
theorem cut_atZ (b off n c i j:Nat) (y z:Int) (hy:y=(i:Int)) (hz:z=(j:Int)) (h1:i≤j) (h2:j≤c):∃f,(i<c→f=off+i)∧∀W:World,(Instr.slice 23 (.slice (some ⟨b,off,none⟩) n c) (some (.int .i64 y)) (some (.int .i64 z)) none).run Tryz.prog W=.ok (.slice (some ⟨b,f,none⟩) (j-i) (c-i)) W:=by
 subst hy hz
 exact cut_at b off n c i j h1 h2
theorem cut_fromZ (b off n c i:Nat) (y:Int) (hy:y=(i:Int)) (h1:i≤n) (h2:n≤c):∃f,(i<c→f=off+i)∧∀W:World,(Instr.slice 23 (.slice (some ⟨b,off,none⟩) n c) (some (.int .i64 y)) none none).run Tryz.prog W=.ok (.slice (some ⟨b,f,none⟩) (n-i) (c-i)) W:=by
 subst hy
 exact cut_from b off n c i h1 h2
theorem conv_by {w:World}{v:Value}{bs:List Nat}(h:BySl w v bs) (h8:∀x∈bs,x<256):(convert 23 9 v).run Tryz.prog w=.ok (encStr (txtOf bs)) w:=by
 obtain⟨b,off,c,rfl,_,_,hc⟩:=h
 exact conv_txt w hc h8 rfl
theorem cut_by {w:World}{b off c i j f m:Nat}{bs:List Nat}(hc:CellsAt w b off (octs bs)) (hn:bs.length≤c) (hm:c≤maxLen) (hj:j≤bs.length) (hi:i≤j) (hf:i<c→f=off+i) (hm2:m=j-i):BySl w (.slice (some ⟨b,f,none⟩) m (c-i)) ((bs.take j).drop i):=by
 subst hm2
 have hl:((bs.take j).drop i).length=j-i:=by rw [List.length_drop,List.length_take,Nat.min_eq_left hj]
 refine⟨b,f,c-i,by rw [hl],by rw [hl];omega,by omega,fun k v hv=>?_⟩
 have hk:k<j-i:=by
  have:=(List.getElem?_eq_some_iff.1 hv).1
  rwa [octs_len,hl] at this
 rw [hf (by omega)]
 unfold octs at hv
 rw [List.getElem?_map,List.getElem?_drop,List.getElem?_take_of_lt (by omega)] at hv
 rw [Nat.add_assoc]
 exact hc (i+k) v (by unfold octs;rw [List.getElem?_map];exact hv)
def TakeEnd (w W:World) (bs:List Nat) (e:Ending) (w':World):Prop:=(∃q,w'=W.drewN q)∧((takeT bs=none∧e=.returned (.tuple #[encStr [],.slice none 0 0,.bool false]))∨∃s r v,takeT bs=some (s,r)∧e=.returned (.tuple #[encStr s,v,.bool true])∧BySl w v r)
set_option maxRecDepth 20000 in
set_option maxHeartbeats 1000000 in
theorem ptake_any {w W:World}{v:Value}{bs:List Nat}(ho:Olds w W) (h:BySl w v bs) (h8:∀x∈bs,x<256):Calls Tryz.prog 46 #[v] W (TakeEnd w W bs):=by
 obtain⟨b,off,c,rfl,hc,hm,hcs⟩:=h
 unfold maxLen at hm
 by_cases h2:bs.length<2
 ·have Ht:=Lib.hid (takeT_short h2)
  clear hcs
  generalize bs.length=m at *
  go_enter Tryz.func46,Tryz.ntmps46
  go_wp2_with fail
  go_ret3
  exact⟨⟨0,rfl⟩,.inl ⟨Ht.out,rfl⟩⟩
 ·obtain⟨x,hx⟩:∃x,bs[0]?=some x:=⟨_,List.getElem?_eq_getElem (by omega)⟩
  obtain⟨y,hy⟩:∃y,bs[1]?=some y:=⟨_,List.getElem?_eq_getElem (by omega)⟩
  have hx8:=h8 x (List.mem_of_getElem? hx)
  have hy8:=h8 y (List.mem_of_getElem? hy)
  have q0:=ho.cell (octs_cell hcs hx)
  have q1:=ho.cell (octs_cell hcs hy)
  have Ht:=Lib.hid (takeT_at hx hy)
  have hor:bits .or .i64 (x:Int) ((y:Int) * 256)=((x+256 * y:Nat):Int):=by
   have:=or_two x y hx8 hy8
   exact this
  have Ho:=Lib.hid ho
  have Hcs:=Lib.hid hcs
  have H8:=Lib.hid h8
  clear hcs h8 hx hy ho
  generalize hN:bs.length=m at *
  have HN:=Lib.hid hN
  clear hN
  go_enter Tryz.func46,Tryz.ntmps46
  rw [Nat.add_zero] at q0
  obtain⟨K,hK⟩:∃K,K=x+256 * y:=⟨_,rfl⟩
  have hK6:K≤65535:=by omega
  rw [← hK] at hor Ht
  have HK:=Lib.hid hK
  clear hK
  by_cases hle:K≤m-2
  ·obtain⟨f1,hf1,hc1⟩:=cut_at b off m c 2 (2+K) (by omega) (by omega)
   obtain⟨f2,hf2,hc2⟩:=cut_from b off m c (2+K) (by omega) hc
   have e1:2+K-2=K:=by omega
   rw [e1] at hc1
   have hB1:=cut_by (j:=2+K) (i:=2) (m:=K) Hcs.out (by rw [HN.out];exact hc) (by unfold maxLen;omega) (by rw [HN.out];omega) (by omega) hf1 (by omega)
   have hB2:=cut_by (j:=m) (i:=2+K) (m:=m-(2+K)) Hcs.out (by rw [HN.out];exact hc) (by unfold maxLen;omega) (by rw [HN.out];omega) (by omega) hf2 (by omega)
   have hcv:∀q,(convert 23 9 (.slice (some ⟨b,f1,none⟩) K (c-2))).run Tryz.prog (W.drewN q)=.ok (encStr (txtOf ((bs.take (2+K)).drop 2))) (W.drewN q):=fun q=>conv_by ((hB1.olds Ho.out).olds (Olds.drewN W q)) (fun z hz=>H8.out z (List.mem_of_mem_take (List.mem_of_mem_drop hz)))
   have Hres:Hid (takeT bs=some (txtOf ((bs.take (2+K)).drop 2),bs.drop (2+K))):=Lib.hid (by
    rw [Ht.out,if_pos hle]
    congr 2
    rw [List.drop_take,e1])
   have HB2:Hid (BySl w (.slice (some ⟨b,f2,none⟩) (m-(2+K)) (c-(2+K))) (bs.drop (2+K))):=Lib.hid (by
    rw [List.take_of_length_le (by rw [HN.out];exact Nat.le_refl _)] at hB2
    exact hB2)
   clear hB1 hB2 hf1 hf2
   generalize txtOf ((bs.take (2+K)).drop 2)=S at *
   push_cast at hc1 hc2
   go_wp2_with fail
   go_quiet (fail)
   go_wp2_with fail
   go_quiet (fail)
   go_wp2_with fail
   go_ret3
   refine⟨⟨_,World.drewN_drewN ..⟩,.inr ⟨_,_,_,Hres.out,rfl,HB2.out⟩⟩
  ·have Hres:Hid (takeT bs=none):=Lib.hid (by rw [Ht.out,if_neg hle])
   go_wp2_with fail
   go_quiet (fail)
   go_wp2_with fail
   go_ret3
   exact⟨⟨_,rfl⟩,.inl ⟨Hres.out,rfl⟩⟩
end Go.Proofs.YtejeflddeanccaaGreatDoor
namespace Go.Proofs.YtejeflddeanccaaGreatDoor
open Go Go.ChangeShapes Go.WideShapes Go.ChangeAt Go.RowKit Go.Ix Go.Tm
theorem Tryz.cells43:Tryz.prog.cellsOf 43=3:=by kernel_rfl
theorem Tryz.cells64:Tryz.prog.cellsOf 64=2:=by kernel_rfl
theorem Tryz.cells41:Tryz.prog.cellsOf 41=2:=by kernel_rfl
theorem Tryz.cells39:Tryz.prog.cellsOf 39=1:=by kernel_rfl
theorem Tryz.cells9:Tryz.prog.cellsOf 9=1:=by kernel_rfl
theorem Tryz.cells2:Tryz.prog.cellsOf 2=1:=by kernel_rfl
theorem Tryz.cells5:Tryz.prog.cellsOf 5=1:=by kernel_rfl
theorem Tryz.bytes43:Tryz.prog.bytesOf 43=40:=by kernel_rfl
theorem Tryz.bytes64:Tryz.prog.bytesOf 64=32:=by kernel_rfl
theorem Tryz.bytes5:Tryz.prog.bytesOf 5=1:=by kernel_rfl
theorem exists_row {α:Type}{Q:Nat→α→Prop}:∀(n:Nat),(∀i,i<n→∃x,Q i x)→∃xs:List α,xs.length=n∧∀(i:Nat) (x:α),xs[i]?=some x→Q i x
 | 0,_=>⟨[],rfl,fun i x h=>by simp at h⟩
 | n+1,h=>by
  obtain⟨xs,h1,h2⟩:=exists_row n fun i hi=>h i (by omega)
  obtain⟨x,hx⟩:=h n (by omega)
  refine⟨xs++[x],by simp [h1],fun i y hy=>?_⟩
  by_cases hi:i<n
  ·rw [List.getElem?_append_left (by omega)] at hy
   exact h2 i y hy
  ·have hin:i=n:=by
    have:=(List.getElem?_eq_some_iff.1 hy).1
    simp at this
    omega
   subst hin
   rw [List.getElem?_append_right (by omega),h1,Nat.sub_self] at hy
   cases hy
   exact hx
theorem cells_of_rows {α:Type}{f:α→List Value}{k:Nat}(hk:∀x,(f x).length=k) (hp:0<k) {W:World}{b off:Nat}{xs:List α}(h:∀(i:Nat) (x:α),xs[i]?=some x→∀(r:Nat) (v:Value),(f x)[r]?=some v→W.cell? ⟨b,off+i * k+r,none⟩=some v):CellsAt W b off (xs.flatMap f):=by
 intro j v hv
 have hlt:=(List.getElem?_eq_some_iff.1 hv).1
 rw [flat_len hk] at hlt
 have hi:j / k<xs.length:=Nat.div_lt_of_lt_mul (by rw [Nat.mul_comm];exact hlt)
 have hx:xs[j / k]?=some xs[j / k]:=List.getElem?_eq_getElem hi
 have hr:j % k<k:=Nat.mod_lt _ hp
 have hv2:(f xs[j / k])[j % k]?=some ((f xs[j / k])[j % k]'(by rw [hk];exact hr)):=List.getElem?_eq_getElem _
 have h1:=flat_at hk xs (j / k) (j % k) _ _ hx hv2
 have e:j / k * k+j % k=j:=by rw [Nat.mul_comm];exact Nat.div_add_mod j k
 rw [e,hv] at h1
 have h2:=h _ _ hx _ _ hv2
 rw [Nat.add_assoc,e] at h2
 rw [h2,← h1]
section
variable {H:Type}{enc:TypeId×Value→H}
theorem mem_weightsAll {P:Program}{e:TypeId}{d:DataW H}:∀{l:List (DataW H)},d∈l→∀n∈d.weights P e,n∈DataW.weightsAll P e l
 | x :: l,h,n,hn=>by
  rw [DataW.weightsAll,List.mem_append]
  rcases List.mem_cons.1 h with rfl | h
  ·exact .inl hn
  ·exact .inr (mem_weightsAll h n hn)
theorem rows_in {α:Type}{Q:List Value→α→Prop}{W:World}{base fuel:Nat}{t e:TypeId}{k m:Nat}{cs:List Value}{d:DataW H}{p:List MemPlace}(ht:Tryz.prog.underlying t=some (.slice e)) (hk:Tryz.prog.cellsOf e=k) (hm:Tryz.prog.bytesOf e=m) (hp:0<k)
  (hQ:∀(fuel:Nat) (cs:List Value) (d:DataW H) (p:List MemPlace),DataW.trod enc Tryz.prog W base (fun _=>true) true fuel e cs=some (d,p)→(∀n∈d.weights Tryz.prog e,n≤reachBytes)→∃x:α,Q cs x)
  (hf:DataW.trod enc Tryz.prog W base (fun _=>true) true fuel t cs=some (d,p)) (hw:∀n∈d.weights Tryz.prog t,n≤reachBytes) :
  ∃(a:Option Addr) (len cap:Nat) (xs:List α),cs=[.slice a len cap]∧xs.length=len∧len * m≤reachBytes∧(a=none→cap=0)∧(a≠none→len≤cap∧cap≤maxLen)∧
   (xs≠[]→∃b off,a=some ⟨b,off,none⟩∧∀(i:Nat) (x:α),xs[i]?=some x→∃ys:List Value,ys.length=k∧Q ys x∧∀(r:Nat) (v:Value),ys[r]?=some v→W.cell? ⟨b,off+i * k+r,none⟩=some v):=by
 rcases DataW.trod_slice ht hf with ⟨hcs,hx⟩|⟨a,len,cap,elems,rest,n,_,hcs,hx,hb,hl,hmx,hlen,hel,hsp,hns⟩
 ·exact⟨none,0,0,[],hcs,rfl,by omega,fun _=>rfl,fun h=>absurd rfl h,fun h=>absurd rfl h⟩
 ·simp only [Prod.mk.injEq] at hx
  obtain⟨rfl,_⟩:=hx
  have hreach:len * m≤reachBytes:=by
   have:=hw (((elems.map (·.1)).length+(rest.map (·.1)).length) * Tryz.prog.bytesOf e) (by simp [DataW.weights,ht])
   rw [hm,List.length_map,List.length_map,hlen] at this
   exact Nat.le_trans (Nat.mul_le_mul_right m (by omega)) this
  obtain⟨xs,h1,h2⟩:=exists_row (Q:=fun i (x:α)=>∃ys:List Value,ys.length=k∧Q ys x∧∀(r:Nat) (v:Value),ys[r]?=some v→W.cell? (a.add (i * k+r))=some v) len fun i hi=>by
   have he:=hel i hi
   rw [hk,List.getElem?_eq_getElem (by omega)] at he
   obtain⟨ys,hcs2,ht2⟩:=Option.bind_eq_some_iff.1 he
   obtain⟨x,hx⟩:=hQ n ys elems[i].1 elems[i].2 ht2 fun m' hm'=>hw m' (by
    rw [DataW.weights,ht]
    simp only [List.mem_cons,List.mem_append]
    exact .inr (.inl (mem_weightsAll (List.mem_map_of_mem (List.getElem_mem (by omega))) m' hm')))
   obtain⟨_,q1,q2⟩:=World.cells?_some hcs2
   refine⟨x,ys,q1,hx,fun r v hv=>?_⟩
   have hr:r<k:=by rw [← q1];exact (List.getElem?_eq_some_iff.1 hv).1
   have:=q2 r hr
   rw [hv] at this
   have e2:(a.add (i * k)).add r=a.add (i * k+r):=by
    by_cases h1:i * k=0<;>by_cases h2:r=0<;>simp [Addr.add,h1,h2,Nat.add_assoc]
   rw [e2] at this
   exact this
  refine⟨some a,len,cap,xs,hcs,h1,hreach,(fun h=>by cases h),(fun _=>⟨hl,hmx⟩),fun hne=>?_⟩
  obtain⟨b,off,spot⟩:=a
  have hpos:0<xs.length:=by
   cases xs with
   | nil=>exact absurd rfl hne
   | cons _ _=>simp
  obtain⟨ys0,q1,_,q3⟩:=h2 0 _ (List.getElem?_eq_getElem hpos)
  have h0:=q3 0 _ (List.getElem?_eq_getElem (show 0<ys0.length by omega))
  have hspot:spot=none:=by simpa [Addr.add] using World.cell?_spot h0
  subst hspot
  refine⟨b,off,rfl,fun i x hx=>?_⟩
  obtain⟨ys,q1,q2,q3⟩:=h2 i x hx
  refine⟨ys,q1,q2,fun r v hv=>?_⟩
  have:=q3 r v hv
  have e3:(⟨b,off,none⟩:Addr).add (i * k+r)=⟨b,off+i * k+r,none⟩:=by
   by_cases h1:i * k+r=0
   ·have h2:i * k=0:=by omega
    have h3:r=0:=by omega
    simp [Addr.add,h2,h3]
   ·simp [Addr.add,Nat.add_assoc]
    omega
  rwa [e3] at this
def LblIn (cs:List Value) (y:Lbl):Prop:=cs=lblCells y∧y.1.length≤reachBytes∧y.2.length≤reachBytes
theorem lbl_in {W:World}{base:Nat}(fuel:Nat) (cs:List Value) (d:DataW H) (p:List MemPlace) (hf:DataW.trod enc Tryz.prog W base (fun _=>true) true fuel 64 cs=some (d,p)) (hw:∀n∈d.weights Tryz.prog 64,n≤reachBytes):∃y,LblIn cs y:=by
 obtain⟨y0,y1,n,hx,hl,h0,h1⟩:=trod_struct2 Tryz.underlying64 hf
 simp only [Prod.mk.injEq] at hx
 obtain⟨rfl,_⟩:=hx
 rw [Tryz.cells64] at hl
 dsimp only at h0 h1
 rw [Tryz.cells9] at h0 h1
 obtain⟨s0,e0,x0,_⟩:=DataW.trod_string Tryz.underlying9 h0
 obtain⟨s1,e1,x1,_⟩:=DataW.trod_string Tryz.underlying9 h1
 have hcs:cs=[.string s0,.string s1]:=by
  match cs,hl with
  | [a,b],_ =>
   simp at e0 e1
   rw [e0,e1]
 have w0:s0.data.toList.length≤reachBytes:=hw _ (by simp [DataW.weights,Tryz.underlying64,DataW.weightsEach,x0])
 have w1:s1.data.toList.length≤reachBytes:=hw _ (by simp [DataW.weights,Tryz.underlying64,DataW.weightsEach,x1])
 exact⟨(s0.data.toList,s1.data.toList),by rw [hcs];rfl,w0,w1⟩
theorem lbls_in {W:World}{base fuel:Nat}{cs:List Value}{d:DataW H}{p:List MemPlace}(hf:DataW.trod enc Tryz.prog W base (fun _=>true) true fuel 39 cs=some (d,p)) (hw:∀n∈d.weights Tryz.prog 39,n≤reachBytes) :
  ∃o n c l,cs=[.slice o n c]∧l.length=n∧Rows2 W o l∧(o=none→c=0)∧n≤reachBytes∧∀y∈l,y.1.length≤reachBytes∧y.2.length≤reachBytes:=by
 obtain⟨o,n,c,l,h1,h2,h3,h4,_,h5⟩:=rows_in (Q:=LblIn) Tryz.underlying39 Tryz.cells64 Tryz.bytes64 (by decide) lbl_in hf hw
 refine⟨o,n,c,l,h1,h2,fun hne=>?_,h4,Nat.le_trans (Nat.le_mul_of_pos_right n (by decide)) h3,fun y hy=>?_⟩
 ·obtain⟨b,off,e,h⟩:=h5 hne
  refine⟨b,off,e,cells_of_rows (k:=2) (fun _=>rfl) (by decide) fun i x hx r v hv=>?_⟩
  obtain⟨ys,_,⟨q2,_⟩,q3⟩:=h i x hx
  exact q3 r v (by rw [q2];exact hv)
 ·obtain⟨i,hi⟩:=List.getElem?_of_mem hy
  obtain⟨b,off,e,h⟩:=h5 (fun e=>by rw [e] at hy;simp at hy)
  obtain⟨ys,_,⟨_,q2⟩,_⟩:=h i y hi
  exact q2
def GoneIn (cs:List Value) (p:Int×Int):Prop:=cs=[.int .i64 p.1,.int .i64 p.2]∧In64 p.1∧In64 p.2
theorem gone_in {W:World}{base fuel:Nat}{cs:List Value}{x:DataW H×List MemPlace}(hf:DataW.trod enc Tryz.prog W base (fun _=>true) true fuel 41 cs=some x):∃p,GoneIn cs p:=by
 obtain⟨y0,y1,n,hx,hl,h0,h1⟩:=trod_struct2 Tryz.underlying41 hf
 rw [Tryz.cells41] at hl
 dsimp only at h0 h1
 rw [Tryz.cells2] at h0 h1
 obtain⟨a,e0,_,w0⟩:=DataW.trod_int Tryz.underlying2 h0
 obtain⟨b,e1,_,w1⟩:=DataW.trod_int Tryz.underlying2 h1
 have hcs:cs=[.int .i64 a,.int .i64 b]:=by
  match cs,hl with
  | [x,y],_ =>
   simp at e0 e1
   rw [e0,e1]
 simp only [Lit.wf,Bool.and_eq_true,decide_eq_true_eq] at w0 w1
 refine⟨(a,b),hcs,?_,?_⟩
 ·unfold In64
  have:=w0
  have h9:(-9223372036854775808:Int)≤_∧_≤(9223372036854775807:Int):=this
  simp only
  omega
 ·unfold In64
  have:=w1
  have h9:(-9223372036854775808:Int)≤_∧_≤(9223372036854775807:Int):=this
  simp only
  omega
def TmIn (W:World) (cs:List Value) (t:Tomb):Prop :=
 ∃o n c,cs=[.slice o n c,.int .i64 t.2.1,.int .i64 t.2.2]∧t.1.length=n∧Rows2 W o t.1∧(o=none→c=0)∧In64 t.2.1∧In64 t.2.2∧n≤reachBytes∧∀y∈t.1,y.1.length≤reachBytes∧y.2.length≤reachBytes
theorem tm_in {W:World}{base:Nat}(fuel:Nat) (cs:List Value) (d:DataW H) (p:List MemPlace) (hf:DataW.trod enc Tryz.prog W base (fun _=>true) true fuel 43 cs=some (d,p)) (hw:∀n∈d.weights Tryz.prog 43,n≤reachBytes):∃t,TmIn W cs t:=by
 obtain⟨y0,y1,n,hx,hl,h0,h1⟩:=trod_struct2 Tryz.underlying43 hf
 simp only [Prod.mk.injEq] at hx
 obtain⟨rfl,_⟩:=hx
 rw [Tryz.cells43] at hl
 dsimp only at h0 h1
 rw [Tryz.cells39] at h0
 rw [Tryz.cells41] at h1
 obtain⟨y0,p0⟩:=y0
 obtain⟨o,n,c,l,e1,a1,a2,a3,a4,a5⟩:=lbls_in h0 fun n hn=>hw n (by simp [DataW.weights,Tryz.underlying43,DataW.weightsEach,hn])
 obtain⟨q,e2,b1,b2⟩:=gone_in h1
 have hcs:cs=[.slice o n c,.int .i64 q.1,.int .i64 q.2]:=by
  match cs,hl with
  | [a,b,c],_ =>
   simp at e1 e2
   rw [e1,e2.1,e2.2]
 exact⟨(l,q),o,n,c,hcs,a1,a2,a3,b1,b2,a4,a5⟩
theorem tms_in {W:World}{base fuel:Nat}{cs:List Value}{d:DataW H}{p:List MemPlace}(hf:DataW.trod enc Tryz.prog W base (fun _=>true) true fuel 22 cs=some (d,p)) (hw:∀n∈d.weights Tryz.prog 22,n≤reachBytes) :
  ∃o n c l,cs=[.slice o n c]∧l.length=n∧RowsT W o l∧VastT l∧∀t∈l,In64 t.2.1∧In64 t.2.2:=by
 obtain⟨o,n,c,l,h1,h2,h3,h4,_,h5⟩:=rows_in (Q:=TmIn W) Tryz.underlying22 Tryz.cells43 Tryz.bytes43 (by decide) tm_in hf hw
 have hr:reachBytes≤140737488355328:=by decide
 have hn:l.length≤reachBytes:=by rw [h2];exact Nat.le_trans (Nat.le_mul_of_pos_right n (by decide)) h3
 refine⟨o,n,c,l,h1,h2,fun hne=>?_,⟨Nat.le_trans hn hr,fun t ht=>?_⟩,fun t ht=>?_⟩
 ·obtain⟨b,off,e,h⟩:=h5 hne
  refine⟨b,off,e,fun k x hx=>?_⟩
  obtain⟨ys,_,⟨o1,n1,c1,q2,q3,q4,q5,_⟩,q9⟩:=h k x hx
  refine⟨o1,n1,c1,?_,?_,?_,q3,q4,q5⟩
  ·have:=q9 0 (.slice o1 n1 c1) (by rw [q2];rfl)
   rwa [Nat.add_zero] at this
  ·exact q9 1 _ (by rw [q2];rfl)
  ·exact q9 2 _ (by rw [q2];rfl)
 ·obtain⟨i,hi⟩:=List.getElem?_of_mem ht
  obtain⟨b,off,e,h⟩:=h5 (fun e=>by rw [e] at ht;simp at ht)
  obtain⟨ys,_,⟨o1,n1,c1,q2,q3,q4,q5,q6,q7,q8,q9⟩,_⟩:=h i _ hi
  exact⟨by rw [q3];exact Nat.le_trans q8 hr,fun y hy=>⟨Nat.le_trans (q9 y hy).1 hr,Nat.le_trans (q9 y hy).2 hr⟩⟩
 ·obtain⟨i,hi⟩:=List.getElem?_of_mem ht
  obtain⟨b,off,e,h⟩:=h5 (fun e=>by rw [e] at ht;simp at ht)
  obtain⟨ys,_,⟨o1,n1,c1,q2,q3,q4,q5,q6,q7,_⟩,_⟩:=h i _ hi
  exact⟨q6,q7⟩
def OctIn (cs:List Value) (x:Nat):Prop:=cs=[.int .u8 (x:Int)]∧x<256
theorem oct_in {W:World}{base:Nat}(fuel:Nat) (cs:List Value) (d:DataW H) (p:List MemPlace) (hf:DataW.trod enc Tryz.prog W base (fun _=>true) true fuel 5 cs=some (d,p)) (_hw:∀n∈d.weights Tryz.prog 5,n≤reachBytes):∃x,OctIn cs x:=by
 obtain⟨z,e,_,w0⟩:=DataW.trod_int Tryz.underlying5 hf
 have hz:0≤z∧z<256:=by
  simp only [Lit.wf,Bool.and_eq_true,decide_eq_true_eq] at w0
  have:=w0
  have h9:(0:Int)≤z∧z≤255:=this
  omega
 exact⟨z.toNat,by rw [e,Int.toNat_of_nonneg hz.1],by omega⟩
theorem octs_in {W:World}{base fuel:Nat}{cs:List Value}{d:DataW H}{p:List MemPlace}(hf:DataW.trod enc Tryz.prog W base (fun _=>true) true fuel 23 cs=some (d,p)) (hw:∀n∈d.weights Tryz.prog 23,n≤reachBytes) :
  ∃o n c bs,cs=[.slice o n c]∧bs.length=n∧(∀x∈bs,x<256)∧(0<n→BySl W (.slice o n c) bs):=by
 obtain⟨o,n,c,bs,h1,h2,h3,h4,h6,h5⟩:=rows_in (Q:=OctIn) Tryz.underlying23 Tryz.cells5 Tryz.bytes5 (by decide) oct_in hf hw
 refine⟨o,n,c,bs,h1,h2,fun x hx=>?_,fun hn=>?_⟩
 ·obtain⟨i,hi⟩:=List.getElem?_of_mem hx
  obtain⟨b,off,e,h⟩:=h5 (fun e=>by rw [e] at hx;simp at hx)
  obtain⟨ys,_,⟨_,q2⟩,_⟩:=h i x hi
  exact q2
 ·obtain⟨b,off,e,h⟩:=h5 (fun e=>by rw [e] at h2;simp at h2;omega)
  subst e
  obtain⟨g1,g2⟩:=h6 (by simp)
  refine⟨b,off,c,by rw [h2],by omega,g2,fun j x hx=>?_⟩
  unfold octs at hx
  rw [List.getElem?_map,Option.map_eq_some_iff] at hx
  obtain⟨z,hz,rfl⟩:=hx
  obtain⟨ys,_,⟨q1,_⟩,q3⟩:=h j z hz
  have:=q3 0 _ (by rw [q1];rfl)
  rwa [Nat.mul_one,Nat.add_zero] at this
end
end Go.Proofs.YtejeflddeanccaaGreatDoor
