/- Contracts over this program. Their conditions: the slices read as the lists that are named, and lie within the sizes that are named. -/
import Derived.Test.YtbecggfbblnglaaGreatDoorT35
import Derived.ProofKit
import Derived.SizedLaws
import Derived.LaidMore
set_option linter.unusedSimpArgs false
set_option linter.unusedVariables false
set_option linter.deprecated false
set_option linter.unnecessarySimpa false
namespace Go.Proofs.YtbecggfbblnglaaGreatDoor
open Go Go.ChangeShapes Go.WideShapes Go.ChangeAt Go.RowKit Go.Ix Go.Gor
theorem Tryz.cells75:Tryz.prog.cellsOf 75=2:=by kernel_rfl
theorem Tryz.cells80:Tryz.prog.cellsOf 80=2:=by kernel_rfl
theorem Tryz.cells107:Tryz.prog.cellsOf 107=2:=by kernel_rfl
theorem Tryz.cells72:Tryz.prog.cellsOf 72=1:=by kernel_rfl
theorem Tryz.cells73:Tryz.prog.cellsOf 73=1:=by kernel_rfl
theorem Tryz.cells9:Tryz.prog.cellsOf 9=1:=by kernel_rfl
theorem Tryz.cells2:Tryz.prog.cellsOf 2=1:=by kernel_rfl
theorem Tryz.cells105:Tryz.prog.cellsOf 105=1:=by kernel_rfl
theorem Tryz.cells5:Tryz.prog.cellsOf 5=1:=by kernel_rfl
theorem Tryz.bytes75:Tryz.prog.bytesOf 75=48:=by kernel_rfl
theorem Tryz.bytes80:Tryz.prog.bytesOf 80=32:=by kernel_rfl
theorem Tryz.bytes107:Tryz.prog.bytesOf 107=16:=by kernel_rfl
theorem exists_row {α:Type}{Q:Nat→α→Prop}:∀(n:Nat),(∀i,i<n→∃x,Q i x)→∃xs:List α,xs.length=n∧∀(i:Nat) (x:α),xs[i]?=some x→Q i x
 | 0,_=>⟨[],rfl,fun i x h=>by simp at h⟩
 | n+1,h=>by
  obtain⟨xs,h1,h2⟩:=exists_row n fun i hi=>h i (by omega)
  obtain⟨x,hx⟩:=h n (by omega)
  refine⟨xs++[x],by simp [h1],fun i y hy=>?_⟩
  by_cases hi:i<n
  ·rw [List.getElem?_append_left (by omega)] at hy
   exact h2 i y hy
  ·have hin:i=n:=by
    have:=(List.getElem?_eq_some_iff.1 hy).1
    simp at this
    omega
   subst hin
   rw [List.getElem?_append_right (by omega),h1,Nat.sub_self] at hy
   cases hy
   exact hx
theorem cells_of_rows {α:Type}{f:α→List Value}{k:Nat}(hk:∀x,(f x).length=k) (hp:0<k) {W:World}{b off:Nat}{xs:List α}(h:∀(i:Nat) (x:α),xs[i]?=some x→∀(r:Nat) (v:Value),(f x)[r]?=some v→W.cell? ⟨b,off+i * k+r,none⟩=some v):CellsAt W b off (xs.flatMap f):=by
 intro j v hv
 have hlt:=(List.getElem?_eq_some_iff.1 hv).1
 rw [flat_len hk] at hlt
 have hi:j / k<xs.length:=Nat.div_lt_of_lt_mul (by rw [Nat.mul_comm];exact hlt)
 have hx:xs[j / k]?=some xs[j / k]:=List.getElem?_eq_getElem hi
 have hr:j % k<k:=Nat.mod_lt _ hp
 have hv2:(f xs[j / k])[j % k]?=some ((f xs[j / k])[j % k]'(by rw [hk];exact hr)):=List.getElem?_eq_getElem _
 have h1:=flat_at hk xs (j / k) (j % k) _ _ hx hv2
 have e:j / k * k+j % k=j:=by rw [Nat.mul_comm];exact Nat.div_add_mod j k
 rw [e,hv] at h1
 have h2:=h _ _ hx _ _ hv2
 rw [Nat.add_assoc,e] at h2
 rw [h2,← h1]
section
variable {H:Type}{enc:TypeId×Value→H}
theorem mem_weightsAll {P:Program}{e:TypeId}{d:DataW H}:∀{l:List (DataW H)},d∈l→∀n∈d.weights P e,n∈DataW.weightsAll P e l
 | x :: l,h,n,hn=>by
  rw [DataW.weightsAll,List.mem_append]
  rcases List.mem_cons.1 h with rfl | h
  ·exact .inl hn
  ·exact .inr (mem_weightsAll h n hn)
theorem rows_in {α:Type}{Q:List Value→α→Prop}{W:World}{base fuel:Nat}{t e:TypeId}{k m:Nat}{cs:List Value}{d:DataW H}{p:List MemPlace}(ht:Tryz.prog.underlying t=some (.slice e)) (hk:Tryz.prog.cellsOf e=k) (hm:Tryz.prog.bytesOf e=m) (hp:0<k)
  (hQ:∀(fuel:Nat) (cs:List Value) (d:DataW H) (p:List MemPlace),DataW.trod enc Tryz.prog W base (fun _=>true) true fuel e cs=some (d,p)→(∀n∈d.weights Tryz.prog e,n≤reachBytes)→∃x:α,Q cs x)
  (hf:DataW.trod enc Tryz.prog W base (fun _=>true) true fuel t cs=some (d,p)) (hw:∀n∈d.weights Tryz.prog t,n≤reachBytes) :
  ∃(a:Option Addr) (len cap:Nat) (xs:List α),cs=[.slice a len cap]∧xs.length=len∧len * m≤reachBytes∧(a=none→cap=0)∧(a≠none→len≤cap∧cap≤maxLen)∧
   (xs≠[]→∃b off,a=some ⟨b,off,none⟩∧∀(i:Nat) (x:α),xs[i]?=some x→∃ys:List Value,ys.length=k∧Q ys x∧∀(r:Nat) (v:Value),ys[r]?=some v→W.cell? ⟨b,off+i * k+r,none⟩=some v):=by
 rcases DataW.trod_slice ht hf with ⟨hcs,hx⟩|⟨a,len,cap,elems,rest,n,_,hcs,hx,hb,hl,hmx,hlen,hel,hsp,hns⟩
 ·exact⟨none,0,0,[],hcs,rfl,by omega,fun _=>rfl,fun h=>absurd rfl h,fun h=>absurd rfl h⟩
 ·simp only [Prod.mk.injEq] at hx
  obtain⟨rfl,_⟩:=hx
  have hreach:len * m≤reachBytes:=by
   have:=hw (((elems.map (·.1)).length+(rest.map (·.1)).length) * Tryz.prog.bytesOf e) (by simp [DataW.weights,ht])
   rw [hm,List.length_map,List.length_map,hlen] at this
   exact Nat.le_trans (Nat.mul_le_mul_right m (by omega)) this
  obtain⟨xs,h1,h2⟩:=exists_row (Q:=fun i (x:α)=>∃ys:List Value,ys.length=k∧Q ys x∧∀(r:Nat) (v:Value),ys[r]?=some v→W.cell? (a.add (i * k+r))=some v) len fun i hi=>by
   have he:=hel i hi
   rw [hk,List.getElem?_eq_getElem (by omega)] at he
   obtain⟨ys,hcs2,ht2⟩:=Option.bind_eq_some_iff.1 he
   obtain⟨x,hx⟩:=hQ n ys elems[i].1 elems[i].2 ht2 fun m' hm'=>hw m' (by
    rw [DataW.weights,ht]
    simp only [List.mem_cons,List.mem_append]
    exact .inr (.inl (mem_weightsAll (List.mem_map_of_mem (List.getElem_mem (by omega))) m' hm')))
   obtain⟨_,q1,q2⟩:=World.cells?_some hcs2
   refine⟨x,ys,q1,hx,fun r v hv=>?_⟩
   have hr:r<k:=by rw [← q1];exact (List.getElem?_eq_some_iff.1 hv).1
   have:=q2 r hr
   rw [hv] at this
   have e2:(a.add (i * k)).add r=a.add (i * k+r):=by
    by_cases h1:i * k=0<;>by_cases h2:r=0<;>simp [Addr.add,h1,h2,Nat.add_assoc]
   rw [e2] at this
   exact this
  refine⟨some a,len,cap,xs,hcs,h1,hreach,(fun h=>by cases h),(fun _=>⟨hl,hmx⟩),fun hne=>?_⟩
  obtain⟨b,off,spot⟩:=a
  have hpos:0<xs.length:=by
   cases xs with
   | nil=>exact absurd rfl hne
   | cons _ _=>simp
  obtain⟨ys0,q1,_,q3⟩:=h2 0 _ (List.getElem?_eq_getElem hpos)
  have h0:=q3 0 _ (List.getElem?_eq_getElem (show 0<ys0.length by omega))
  have hspot:spot=none:=by simpa [Addr.add] using World.cell?_spot h0
  subst hspot
  refine⟨b,off,rfl,fun i x hx=>?_⟩
  obtain⟨ys,q1,q2,q3⟩:=h2 i x hx
  refine⟨ys,q1,q2,fun r v hv=>?_⟩
  have:=q3 r v hv
  have e3:(⟨b,off,none⟩:Addr).add (i * k+r)=⟨b,off+i * k+r,none⟩:=by
   by_cases h1:i * k+r=0
   ·have h2:i * k=0:=by omega
    have h3:r=0:=by omega
    simp [Addr.add,h2,h3]
   ·simp [Addr.add,Nat.add_assoc]
    omega
  rwa [e3] at this
def LblIn (cs:List Value) (y:Lbl):Prop:=cs=lblCells y∧y.1.length≤reachBytes∧y.2.length≤reachBytes
theorem lbl_in {W:World}{base:Nat}(fuel:Nat) (cs:List Value) (d:DataW H) (p:List MemPlace) (hf:DataW.trod enc Tryz.prog W base (fun _=>true) true fuel 80 cs=some (d,p)) (hw:∀n∈d.weights Tryz.prog 80,n≤reachBytes):∃y,LblIn cs y:=by
 obtain⟨y0,y1,n,hx,hl,h0,h1⟩:=trod_struct2 Tryz.underlying80 hf
 simp only [Prod.mk.injEq] at hx
 obtain⟨rfl,_⟩:=hx
 rw [Tryz.cells80] at hl
 dsimp only at h0 h1
 rw [Tryz.cells9] at h0 h1
 obtain⟨s0,e0,x0,_⟩:=DataW.trod_string Tryz.underlying9 h0
 obtain⟨s1,e1,x1,_⟩:=DataW.trod_string Tryz.underlying9 h1
 have hcs:cs=[.string s0,.string s1]:=by
  match cs,hl with
  | [a,b],_ =>
   simp at e0 e1
   rw [e0,e1]
 have w0:s0.data.toList.length≤reachBytes:=hw _ (by simp [DataW.weights,Tryz.underlying80,DataW.weightsEach,x0])
 have w1:s1.data.toList.length≤reachBytes:=hw _ (by simp [DataW.weights,Tryz.underlying80,DataW.weightsEach,x1])
 exact⟨(s0.data.toList,s1.data.toList),by rw [hcs];rfl,w0,w1⟩
theorem lbls_in {W:World}{base fuel:Nat}{cs:List Value}{d:DataW H}{p:List MemPlace}(hf:DataW.trod enc Tryz.prog W base (fun _=>true) true fuel 72 cs=some (d,p)) (hw:∀n∈d.weights Tryz.prog 72,n≤reachBytes) :
  ∃o n c l,cs=[.slice o n c]∧l.length=n∧Rows2 W o l∧(o=none→c=0)∧n≤reachBytes∧∀y∈l,y.1.length≤reachBytes∧y.2.length≤reachBytes:=by
 obtain⟨o,n,c,l,h1,h2,h3,h4,_,h5⟩:=rows_in (Q:=LblIn) Tryz.underlying72 Tryz.cells80 Tryz.bytes80 (by decide) lbl_in hf hw
 refine⟨o,n,c,l,h1,h2,fun hne=>?_,h4,Nat.le_trans (Nat.le_mul_of_pos_right n (by decide)) h3,fun y hy=>?_⟩
 ·obtain⟨b,off,e,h⟩:=h5 hne
  refine⟨b,off,e,cells_of_rows (k:=2) (fun _=>rfl) (by decide) fun i x hx r v hv=>?_⟩
  obtain⟨ys,_,⟨q2,_⟩,q3⟩:=h i x hx
  exact q3 r v (by rw [q2];exact hv)
 ·obtain⟨i,hi⟩:=List.getElem?_of_mem hy
  obtain⟨b,off,e,h⟩:=h5 (fun e=>by rw [e] at hy;simp at hy)
  obtain⟨ys,_,⟨_,q2⟩,_⟩:=h i y hi
  exact q2
def SmpIn (cs:List Value) (x:Smp):Prop:=cs=smpCells x∧x.2<18446744073709551616
theorem smp_in {W:World}{base:Nat}(fuel:Nat) (cs:List Value) (d:DataW H) (p:List MemPlace) (hf:DataW.trod enc Tryz.prog W base (fun _=>true) true fuel 107 cs=some (d,p)) (_hw:∀n∈d.weights Tryz.prog 107,n≤reachBytes):∃x,SmpIn cs x:=by
 obtain⟨y0,y1,n,hx,hl,h0,h1⟩:=trod_struct2 Tryz.underlying107 hf
 rw [Tryz.cells107] at hl
 dsimp only at h0 h1
 rw [Tryz.cells2] at h0
 rw [Tryz.cells105] at h1
 obtain⟨a,e0,_,w0⟩:=DataW.trod_int Tryz.underlying2 h0
 obtain⟨b,e1,_,w1⟩:=DataW.trod_int Tryz.underlying105 h1
 have hcs:cs=[.int .i64 a,.int .u64 b]:=by
  match cs,hl with
  | [x,y],_ =>
   simp at e0 e1
   rw [e0,e1]
 simp only [Lit.wf,Bool.and_eq_true,decide_eq_true_eq] at w1
 have h9:(0:Int)≤b∧b≤(18446744073709551615:Int):=w1
 refine⟨(a,b.toNat),?_,?_⟩
 ·rw [hcs]
  show _=[Value.int .i64 a,Value.int .u64 ((b.toNat:Nat):Int)]
  rw [Int.toNat_of_nonneg h9.1]
 ·show b.toNat<_
  omega
theorem smps_in {W:World}{base fuel:Nat}{cs:List Value}{d:DataW H}{p:List MemPlace}(hf:DataW.trod enc Tryz.prog W base (fun _=>true) true fuel 73 cs=some (d,p)) (hw:∀n∈d.weights Tryz.prog 73,n≤reachBytes) :
  ∃o n c l,cs=[.slice o n c]∧l.length=n∧RowsM W o l∧(o=none→c=0)∧n≤c∧n≤reachBytes∧∀x∈l,x.2<18446744073709551616:=by
 obtain⟨o,n,c,l,h1,h2,h3,h4,h6,h5⟩:=rows_in (Q:=SmpIn) Tryz.underlying73 Tryz.cells107 Tryz.bytes107 (by decide) smp_in hf hw
 refine⟨o,n,c,l,h1,h2,fun hne=>?_,h4,?_,Nat.le_trans (Nat.le_mul_of_pos_right n (by decide)) h3,fun y hy=>?_⟩
 ·obtain⟨b,off,e,h⟩:=h5 hne
  refine⟨b,off,e,cells_of_rows (k:=2) (fun _=>rfl) (by decide) fun i x hx r v hv=>?_⟩
  obtain⟨ys,_,⟨q2,_⟩,q3⟩:=h i x hx
  exact q3 r v (by rw [q2];exact hv)
 ·by_cases hne:l=[]
  ·rw [hne] at h2
   simp at h2
   omega
  ·obtain⟨b,off,e,_⟩:=h5 hne
   exact (h6 (by rw [e];simp)).1
 ·obtain⟨i,hi⟩:=List.getElem?_of_mem hy
  obtain⟨b,off,e,h⟩:=h5 (fun e=>by rw [e] at hy;simp at hy)
  obtain⟨ys,_,⟨_,q2⟩,_⟩:=h i y hi
  exact q2
def SerIn (W:World) (cs:List Value) (e:Ser):Prop :=
 ∃o1 n1 c1 o2 n2 c2,cs=[.slice o1 n1 c1,.slice o2 n2 c2]∧e.1.length=n1∧e.2.length=n2∧Rows2 W o1 e.1∧RowsM W o2 e.2∧(o1=none→c1=0)∧(o2=none→c2=0)∧n2≤c2∧n1≤reachBytes∧n2≤reachBytes∧(∀y∈e.1,y.1.length≤reachBytes∧y.2.length≤reachBytes)∧∀x∈e.2,x.2<18446744073709551616
theorem ser_in {W:World}{base:Nat}(fuel:Nat) (cs:List Value) (d:DataW H) (p:List MemPlace) (hf:DataW.trod enc Tryz.prog W base (fun _=>true) true fuel 75 cs=some (d,p)) (hw:∀n∈d.weights Tryz.prog 75,n≤reachBytes):∃e,SerIn W cs e:=by
 obtain⟨y0,y1,n,hx,hl,h0,h1⟩:=trod_struct2 Tryz.underlying75 hf
 simp only [Prod.mk.injEq] at hx
 obtain⟨rfl,_⟩:=hx
 rw [Tryz.cells75] at hl
 dsimp only at h0 h1
 rw [Tryz.cells72] at h0
 rw [Tryz.cells73] at h1
 obtain⟨y0,p0⟩:=y0
 obtain⟨y1,p1⟩:=y1
 obtain⟨o1,n1,c1,l1,e1,a1,a2,a3,a4,a5⟩:=lbls_in h0 fun n hn=>hw n (by simp [DataW.weights,Tryz.underlying75,DataW.weightsEach,hn])
 obtain⟨o2,n2,c2,l2,e2,b1,b2,b3,b4,b5,b6⟩:=smps_in h1 fun n hn=>hw n (by simp [DataW.weights,Tryz.underlying75,DataW.weightsEach,hn])
 have hcs:cs=[.slice o1 n1 c1,.slice o2 n2 c2]:=by
  match cs,hl with
  | [a,b],_ =>
   simp at e1 e2
   rw [e1,e2]
 exact⟨(l1,l2),o1,n1,c1,o2,n2,c2,hcs,a1,b1,a2,b2,a3,b3,b4,a4,b5,a5,b6⟩
theorem sers_in {W:World}{base fuel:Nat}{cs:List Value}{d:DataW H}{p:List MemPlace}(hf:DataW.trod enc Tryz.prog W base (fun _=>true) true fuel 23 cs=some (d,p)) (hw:∀n∈d.weights Tryz.prog 23,n≤reachBytes) :
  ∃o n c l,cs=[.slice o n c]∧l.length=n∧RowsR W o l∧VastS l∧∀s∈l,∀x∈s.2,x.2<18446744073709551616:=by
 obtain⟨o,n,c,l,h1,h2,h3,h4,_,h5⟩:=rows_in (Q:=SerIn W) Tryz.underlying23 Tryz.cells75 Tryz.bytes75 (by decide) ser_in hf hw
 have hr:reachBytes≤140737488355328:=by decide
 have hn:l.length≤reachBytes:=by rw [h2];exact Nat.le_trans (Nat.le_mul_of_pos_right n (by decide)) h3
 refine⟨o,n,c,l,h1,h2,fun hne=>?_,⟨Nat.le_trans hn hr,fun t ht=>?_⟩,fun t ht=>?_⟩
 ·obtain⟨b,off,e,h⟩:=h5 hne
  refine⟨b,off,e,fun k x hx=>?_⟩
  obtain⟨ys,_,⟨o1,n1,c1,o2,n2,c2,q2,q3,q4,q5,q6,q7,q8,q10,_⟩,q9⟩:=h k x hx
  refine⟨o1,n1,c1,o2,n2,c2,?_,?_,q3,q4,q5,q6,q7,q8,q10⟩
  ·have:=q9 0 (.slice o1 n1 c1) (by rw [q2];rfl)
   rwa [Nat.add_zero] at this
  ·exact q9 1 _ (by rw [q2];rfl)
 ·obtain⟨i,hi⟩:=List.getElem?_of_mem ht
  obtain⟨b,off,e,h⟩:=h5 (fun e=>by rw [e] at ht;simp at ht)
  obtain⟨ys,_,⟨o1,n1,c1,o2,n2,c2,q2,q3,q4,q5,q6,q7,q8,q9,q10,q11,q12,q13⟩,_⟩:=h i _ hi
  exact⟨⟨by rw [q3];exact Nat.le_trans q10 hr,fun y hy=>⟨Nat.le_trans (q12 y hy).1 hr,Nat.le_trans (q12 y hy).2 hr⟩⟩,by rw [q4];exact Nat.le_trans q11 hr⟩
 ·obtain⟨i,hi⟩:=List.getElem?_of_mem ht
  obtain⟨b,off,e,h⟩:=h5 (fun e=>by rw [e] at ht;simp at ht)
  obtain⟨ys,_,⟨o1,n1,c1,o2,n2,c2,q2,q3,q4,q5,q6,q7,q8,q9,q10,q11,q12,q13⟩,_⟩:=h i _ hi
  exact q13
theorem slice_laid {W:World}{held:Bool}{fuel:Nat}{t e:TypeId}{cs:List Value}{es rest:List (DataW H)}{p:List MemPlace}(ht:Tryz.prog.underlying t=some (.slice e)) (hc:Tryz.prog.cellsOf e=1) (hf:DataW.trod enc Tryz.prog W 0 (fun _=>true) held fuel t cs=some (.slice es rest,p)) (hne:es≠[]) :
  ∃b off c,cs=[.slice (some ⟨b,off,none⟩) es.length c]∧∀k d,es[k]?=some d→∃v n q,W.cell? ⟨b,off+k,none⟩=some v∧DataW.trod enc Tryz.prog W 0 (fun _=>true) held n e [v]=some (d,q):=by
 rcases DataW.trod_slice ht hf with ⟨_,hx⟩|⟨a,len,cap,elems,rest',n,_,hcs,hx,hb,hl,hmx,hlen,hel,_,_⟩
 ·simp at hx
 ·simp only [Prod.mk.injEq,DataW.slice.injEq] at hx
  obtain⟨⟨rfl,_⟩,_⟩:=hx
  have get:∀k d,(elems.map (·.1))[k]?=some d→∃v q,W.cell? (a.add k)=some v∧DataW.trod enc Tryz.prog W 0 (fun _=>true) held n e [v]=some (d,q):=fun k d hd=>by
   rw [List.getElem?_map,Option.map_eq_some_iff] at hd
   obtain⟨x,hx,rfl⟩:=hd
   have hk:k<len:=by rw [← hlen];exact (List.getElem?_eq_some_iff.1 hx).1
   have h1:=hel k hk
   rw [hc,Nat.mul_one,hx] at h1
   obtain⟨ys,hy,hty⟩:=Option.bind_eq_some_iff.1 h1
   obtain⟨_,q1,q2⟩:=World.cells?_some hy
   match ys,q1 with
   | [v],_ =>
    have h3:=q2 0 (by simp)
    rw [show (a.add k).add 0=a.add k by simp [Addr.add]] at h3
    exact⟨v,x.2,by simpa using h3,hty⟩
  obtain⟨b,off,spot⟩:=a
  obtain⟨d0,hd0⟩:∃d,(elems.map (·.1))[0]?=some d:=⟨_,List.getElem?_eq_getElem (List.length_pos_iff.2 hne)⟩
  obtain⟨v0,q0,h0,_⟩:=get 0 d0 hd0
  have hspot:spot=none:=by simpa [Addr.add] using World.cell?_spot h0
  subst hspot
  refine⟨b,off,cap,by rw [hcs,List.length_map,hlen],fun k d hd=>?_⟩
  obtain⟨v,q,h1,h2⟩:=get k d hd
  refine⟨v,n,q,?_,h2⟩
  rw [← h1]
  by_cases hk:k=0<;>simp [Addr.add,hk]
end
end Go.Proofs.YtbecggfbblnglaaGreatDoor
