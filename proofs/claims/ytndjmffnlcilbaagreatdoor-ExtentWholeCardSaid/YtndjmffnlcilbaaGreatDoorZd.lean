/- Calls that come in. Conditions: they are of less than 2 to the 47th bytes. -/
import Derived.Test.YtndjmffnlcilbaaGreatDoorZc
import Derived.ProofKit
import Derived.SizedLaws
import Derived.LaidMore
set_option linter.unusedSimpArgs false
set_option linter.unusedVariables false
set_option linter.deprecated false
set_option linter.unnecessarySimpa false
namespace Go.Proofs.YtndjmffnlcilbaaGreatDoor
open Go Go.ChangeShapes Go.WideShapes Go.ChangeAt Go.RowKit Go.Ix
theorem Tryz.cells37:Tryz.prog.cellsOf 37=6:=by kernel_rfl
theorem Tryz.cells5:Tryz.prog.cellsOf 5=1:=by kernel_rfl
theorem Tryz.cells9:Tryz.prog.cellsOf 9=1:=by kernel_rfl
theorem Tryz.cells3:Tryz.prog.cellsOf 3=1:=by kernel_rfl
theorem Tryz.cells34:Tryz.prog.cellsOf 34=1:=by kernel_rfl
theorem Tryz.cells35:Tryz.prog.cellsOf 35=1:=by kernel_rfl
theorem Tryz.cells4:Tryz.prog.cellsOf 4=1:=by kernel_rfl
theorem Tryz.bytes37:Tryz.prog.bytesOf 37=96:=by kernel_rfl
theorem Tryz.bytes5:Tryz.prog.bytesOf 5=1:=by kernel_rfl
theorem Tryz.bytes4:Tryz.prog.bytesOf 4=1:=by kernel_rfl
theorem exists_row {α:Type}{Q:Nat→α→Prop}:∀(n:Nat),(∀i,i<n→∃x,Q i x)→∃xs:List α,xs.length=n∧∀(i:Nat) (x:α),xs[i]?=some x→Q i x
 | 0,_=>⟨[],rfl,fun i x h=>by simp at h⟩
 | n+1,h=>by
  obtain⟨xs,h1,h2⟩:=exists_row n fun i hi=>h i (by omega)
  obtain⟨x,hx⟩:=h n (by omega)
  refine⟨xs++[x],by simp [h1],fun i y hy=>?_⟩
  by_cases hi:i<n
  ·rw [List.getElem?_append_left (by omega)] at hy
   exact h2 i y hy
  ·have hin:i=n:=by
    have:=(List.getElem?_eq_some_iff.1 hy).1
    simp at this
    omega
   subst hin
   rw [List.getElem?_append_right (by omega),h1,Nat.sub_self] at hy
   cases hy
   exact hx
theorem cells_of_rows {α:Type}{f:α→List Value}{k:Nat}(hk:∀x,(f x).length=k) (hp:0<k) {W:World}{b off:Nat}{xs:List α}(h:∀(i:Nat) (x:α),xs[i]?=some x→∀(r:Nat) (v:Value),(f x)[r]?=some v→W.cell? ⟨b,off+i * k+r,none⟩=some v):CellsAt W b off (xs.flatMap f):=by
 intro j v hv
 have hlt:=(List.getElem?_eq_some_iff.1 hv).1
 rw [flat_len hk] at hlt
 have hi:j / k<xs.length:=Nat.div_lt_of_lt_mul (by rw [Nat.mul_comm];exact hlt)
 have hx:xs[j / k]?=some xs[j / k]:=List.getElem?_eq_getElem hi
 have hr:j % k<k:=Nat.mod_lt _ hp
 have hv2:(f xs[j / k])[j % k]?=some ((f xs[j / k])[j % k]'(by rw [hk];exact hr)):=List.getElem?_eq_getElem _
 have h1:=flat_at hk xs (j / k) (j % k) _ _ hx hv2
 have e:j / k * k+j % k=j:=by rw [Nat.mul_comm];exact Nat.div_add_mod j k
 rw [e,hv] at h1
 have h2:=h _ _ hx _ _ hv2
 rw [Nat.add_assoc,e] at h2
 rw [h2,← h1]
section
variable {H:Type}{enc:TypeId×Value→H}
theorem mem_weightsAll {P:Program}{e:TypeId}{d:DataW H}:∀{l:List (DataW H)},d∈l→∀n∈d.weights P e,n∈DataW.weightsAll P e l
 | x :: l,h,n,hn=>by
  rw [DataW.weightsAll,List.mem_append]
  rcases List.mem_cons.1 h with rfl | h
  ·exact .inl hn
  ·exact .inr (mem_weightsAll h n hn)
theorem rows_in {α:Type}{Q:List Value→α→Prop}{W:World}{base fuel:Nat}{t e:TypeId}{k m:Nat}{cs:List Value}{d:DataW H}{p:List MemPlace}(ht:Tryz.prog.underlying t=some (.slice e)) (hk:Tryz.prog.cellsOf e=k) (hm:Tryz.prog.bytesOf e=m) (hp:0<k)
  (hQ:∀(fuel:Nat) (cs:List Value) (d:DataW H) (p:List MemPlace),DataW.trod enc Tryz.prog W base (fun _=>true) true fuel e cs=some (d,p)→(∀n∈d.weights Tryz.prog e,n≤reachBytes)→∃x:α,Q cs x)
  (hf:DataW.trod enc Tryz.prog W base (fun _=>true) true fuel t cs=some (d,p)) (hw:∀n∈d.weights Tryz.prog t,n≤reachBytes) :
  ∃(a:Option Addr) (len cap:Nat) (xs:List α),cs=[.slice a len cap]∧xs.length=len∧len * m≤reachBytes∧(a=none→cap=0)∧len≤cap∧
   (xs≠[]→∃b off,a=some ⟨b,off,none⟩∧∀(i:Nat) (x:α),xs[i]?=some x→∃ys:List Value,ys.length=k∧Q ys x∧∀(r:Nat) (v:Value),ys[r]?=some v→W.cell? ⟨b,off+i * k+r,none⟩=some v):=by
 rcases DataW.trod_slice ht hf with ⟨hcs,hx⟩|⟨a,len,cap,elems,rest,n,_,hcs,hx,hb,hl,hmx,hlen,hel,hsp,hns⟩
 ·exact⟨none,0,0,[],hcs,rfl,by omega,fun _=>rfl,Nat.le_refl _,fun h=>absurd rfl h⟩
 ·simp only [Prod.mk.injEq] at hx
  obtain⟨rfl,_⟩:=hx
  have hreach:len * m≤reachBytes:=by
   have:=hw (((elems.map (·.1)).length+(rest.map (·.1)).length) * Tryz.prog.bytesOf e) (by simp [DataW.weights,ht])
   rw [hm,List.length_map,List.length_map,hlen] at this
   exact Nat.le_trans (Nat.mul_le_mul_right m (by omega)) this
  obtain⟨xs,h1,h2⟩:=exists_row (Q:=fun i (x:α)=>∃ys:List Value,ys.length=k∧Q ys x∧∀(r:Nat) (v:Value),ys[r]?=some v→W.cell? (a.add (i * k+r))=some v) len fun i hi=>by
   have he:=hel i hi
   rw [hk,List.getElem?_eq_getElem (by omega)] at he
   obtain⟨ys,hcs2,ht2⟩:=Option.bind_eq_some_iff.1 he
   obtain⟨x,hx⟩:=hQ n ys elems[i].1 elems[i].2 ht2 fun m' hm'=>hw m' (by
    rw [DataW.weights,ht]
    simp only [List.mem_cons,List.mem_append]
    exact .inr (.inl (mem_weightsAll (List.mem_map_of_mem (List.getElem_mem (by omega))) m' hm')))
   obtain⟨_,q1,q2⟩:=World.cells?_some hcs2
   refine⟨x,ys,q1,hx,fun r v hv=>?_⟩
   have hr:r<k:=by rw [← q1];exact (List.getElem?_eq_some_iff.1 hv).1
   have:=q2 r hr
   rw [hv] at this
   have e2:(a.add (i * k)).add r=a.add (i * k+r):=by
    by_cases h1:i * k=0<;>by_cases h2:r=0<;>simp [Addr.add,h1,h2,Nat.add_assoc]
   rw [e2] at this
   exact this
  refine⟨some a,len,cap,xs,hcs,h1,hreach,(fun h=>by cases h),hl,fun hne=>?_⟩
  obtain⟨b,off,spot⟩:=a
  have hpos:0<xs.length:=by
   cases xs with
   | nil=>exact absurd rfl hne
   | cons _ _=>simp
  obtain⟨ys0,q1,_,q3⟩:=h2 0 _ (List.getElem?_eq_getElem hpos)
  have h0:=q3 0 _ (List.getElem?_eq_getElem (show 0<ys0.length by omega))
  have hspot:spot=none:=by simpa [Addr.add] using World.cell?_spot h0
  subst hspot
  refine⟨b,off,rfl,fun i x hx=>?_⟩
  obtain⟨ys,q1,q2,q3⟩:=h2 i x hx
  refine⟨ys,q1,q2,fun r v hv=>?_⟩
  have:=q3 r v hv
  have e3:(⟨b,off,none⟩:Addr).add (i * k+r)=⟨b,off+i * k+r,none⟩:=by
   by_cases h1:i * k+r=0
   ·have h2:i * k=0:=by omega
    have h3:r=0:=by omega
    simp [Addr.add,h2,h3]
   ·simp [Addr.add,Nat.add_assoc]
    omega
  rwa [e3] at this
def ByteIn (cs:List Value) (x:Nat):Prop:=cs=[.int .u8 (x:Nat)]∧x<256
theorem byte_in {W:World}{base:Nat}(fuel:Nat) (cs:List Value) (d:DataW H) (p:List MemPlace) (hf:DataW.trod enc Tryz.prog W base (fun _=>true) true fuel 5 cs=some (d,p)) (_hw:∀n∈d.weights Tryz.prog 5,n≤reachBytes):∃x,ByteIn cs x:=by
 obtain⟨z,ez,hwf,hx⟩:=DataW.trod_int Tryz.underlying5 hf
 have hb:0≤z∧z≤255:=by
  have h1:(decide (IntKind.u8.min≤z) && decide (z≤IntKind.u8.max))=true:=hx
  rw [Bool.and_eq_true,decide_eq_true_iff,decide_eq_true_iff] at h1
  exact h1
 exact⟨z.toNat,by rw [ez,show ((z.toNat:Nat):Int)=z by omega],by omega⟩
theorem bytes_in {W:World}{base fuel:Nat}{cs:List Value}{d:DataW H}{p:List MemPlace}(hf:DataW.trod enc Tryz.prog W base (fun _=>true) true fuel 34 cs=some (d,p)) (hw:∀n∈d.weights Tryz.prog 34,n≤reachBytes) :
  ∃o n c,cs=[.slice o n c]∧n≤reachBytes∧∃ds,DataB W W.heap.size ds o n c:=by
 obtain⟨o,n,c,l,h1,h2,h3,h4,h6,h5⟩:=rows_in (Q:=ByteIn) Tryz.underlying34 Tryz.cells5 Tryz.bytes5 (by decide) byte_in hf hw
 have hcell:l≠[]→∃b off,o=some ⟨b,off,none⟩∧CellsAt W b off (octs l):=fun hne=>by
  obtain⟨b,off,e,h⟩:=h5 hne
  refine⟨b,off,e,fun j v hv=>?_⟩
  unfold octs at hv
  rw [List.getElem?_map,Option.map_eq_some_iff] at hv
  obtain⟨x,hx,rfl⟩:=hv
  obtain⟨ys,_,⟨q1,_⟩,q3⟩:=h j x hx
  have:=q3 0 (.int .u8 (x:Nat)) (by rw [q1];rfl)
  simpa using this
 refine⟨o,n,c,h1,by omega,l,?_,?_,h2,h6,fun a ha hp=>.inl ?_⟩
 ·unfold BytesAt
  rw [h2]
  refine⟨o,c,rfl,h4,fun hne=>hcell (fun e=>hne (by rw [e];rfl))⟩
 ·intro x hx
  obtain⟨i,hi⟩:=List.getElem?_of_mem hx
  obtain⟨b,off,e,h⟩:=h5 (fun e=>by rw [e] at hx;cases hx)
  obtain⟨ys,_,⟨_,q2⟩,_⟩:=h i x hi
  exact q2
 ·obtain⟨b,off,e,hc⟩:=hcell (fun e=>by rw [e] at h2;simp at h2;omega)
  obtain⟨v,hv⟩:∃v,(octs l)[0]?=some v:=⟨_,List.getElem?_eq_getElem (by rw [octs_len];omega)⟩
  have:=cell_lt (hc 0 v hv)
  rw [ha] at e
  cases e
  exact this
def BoolIn (cs:List Value) (x:Bool):Prop:=cs=[.bool x]
theorem bool_in {W:World}{base:Nat}(fuel:Nat) (cs:List Value) (d:DataW H) (p:List MemPlace) (hf:DataW.trod enc Tryz.prog W base (fun _=>true) true fuel 4 cs=some (d,p)) (_hw:∀n∈d.weights Tryz.prog 4,n≤reachBytes):∃x,BoolIn cs x:=by
 obtain⟨z,ez,_⟩:=DataW.trod_bool Tryz.underlying4 hf
 exact⟨z,ez⟩
theorem bools_in {W:World}{base fuel:Nat}{cs:List Value}{d:DataW H}{p:List MemPlace}(hf:DataW.trod enc Tryz.prog W base (fun _=>true) true fuel 35 cs=some (d,p)) (hw:∀n∈d.weights Tryz.prog 35,n≤reachBytes) :
  ∃o n c,cs=[.slice o n c]∧n≤reachBytes∧∃ks,Bools W W.heap.size o n ks:=by
 obtain⟨o,n,c,l,h1,h2,h3,h4,h6,h5⟩:=rows_in (Q:=BoolIn) Tryz.underlying35 Tryz.cells4 Tryz.bytes4 (by decide) bool_in hf hw
 refine⟨o,n,c,h1,by omega,l,h2,fun hne=>?_⟩
 obtain⟨b,off,e,h⟩:=h5 hne
 have hc:CellsAt W b off (l.map .bool):=fun j v hv=>by
  rw [List.getElem?_map,Option.map_eq_some_iff] at hv
  obtain⟨x,hx,rfl⟩:=hv
  obtain⟨ys,_,q1,q3⟩:=h j x hx
  have:=q3 0 (.bool x) (by rw [q1];rfl)
  simpa using this
 have hpos:0<l.length:=by
  cases l with
  | nil=>exact absurd rfl hne
  | cons _ _=>simp
 exact⟨b,off,e,cell_lt (hc 0 (.bool l[0]) (by rw [List.getElem?_map,List.getElem?_eq_getElem hpos];rfl)),hc⟩
theorem six {α:Type}{l:List α}(h:l.length=6):∃a b c d e f,l=[a,b,c,d,e,f]:=by
 match l,h with
 | [a,b,c,d,e,f],_=>exact⟨a,b,c,d,e,f,rfl⟩
def OpOk (W:World) (cs:List Value) (x:OpIn):Prop:=cs=opCells x∧(∃ds,DataB W W.heap.size ds x.da x.dn x.dc)∧(∃ks,Bools W W.heap.size x.ka x.kn ks)∧x.kind<256∧x.n<9223372036854775808∧x.dn≤reachBytes∧x.kn≤reachBytes∧x.name.length≤reachBytes∧x.dest.length≤reachBytes
theorem op_in {W:World}{base:Nat}(fuel:Nat) (cs:List Value) (d:DataW H) (p:List MemPlace) (hf:DataW.trod enc Tryz.prog W base (fun _=>true) true fuel 37 cs=some (d,p)) (hw:∀n∈d.weights Tryz.prog 37,n≤reachBytes):∃x,OpOk W cs x:=by
 obtain⟨xs,n,hx,hsz,hl,_,hfs⟩:=DataW.trod_struct Tryz.underlying37 hf
 rw [Tryz.cells37] at hl
 obtain⟨a,b,c,dd,e,f,rfl⟩:=six hl
 have hlx:xs.length=6:=by assumption
 obtain⟨y0,y1,y2,y3,y4,y5,rfl⟩:=six hlx
 simp only [Prod.mk.injEq] at hsz
 obtain⟨rfl,_⟩:=hsz
 have t0:DataW.trod enc Tryz.prog W base (fun _=>true) true n 5 (([a,b,c,dd,e,f].drop 0).take (Tryz.prog.cellsOf 5))=some y0:=hfs 0 _ rfl
 have t1:DataW.trod enc Tryz.prog W base (fun _=>true) true n 9 (([a,b,c,dd,e,f].drop 1).take (Tryz.prog.cellsOf 9))=some y1:=hfs 1 _ rfl
 have t2:DataW.trod enc Tryz.prog W base (fun _=>true) true n 9 (([a,b,c,dd,e,f].drop 2).take (Tryz.prog.cellsOf 9))=some y2:=hfs 2 _ rfl
 have t3:DataW.trod enc Tryz.prog W base (fun _=>true) true n 34 (([a,b,c,dd,e,f].drop 3).take (Tryz.prog.cellsOf 34))=some y3:=hfs 3 _ rfl
 have t4:DataW.trod enc Tryz.prog W base (fun _=>true) true n 3 (([a,b,c,dd,e,f].drop 4).take (Tryz.prog.cellsOf 3))=some y4:=hfs 4 _ rfl
 have t5:DataW.trod enc Tryz.prog W base (fun _=>true) true n 35 (([a,b,c,dd,e,f].drop 5).take (Tryz.prog.cellsOf 35))=some y5:=hfs 5 _ rfl
 clear hfs
 rw [Tryz.cells5] at t0
 rw [Tryz.cells9] at t1 t2
 rw [Tryz.cells34] at t3
 rw [Tryz.cells3] at t4
 rw [Tryz.cells35] at t5
 obtain⟨kind,⟨hk1,hk2⟩⟩:=byte_in n _ y0.1 y0.2 t0 (fun m hm=>hw m (by simp [DataW.weights,Tryz.underlying37,DataW.weightsEach,hm]))
 obtain⟨s1,e1,x1,_⟩:=DataW.trod_string Tryz.underlying9 t1
 obtain⟨s2,e2,x2,_⟩:=DataW.trod_string Tryz.underlying9 t2
 obtain⟨o3,n3,c3,e3,h3,hd3⟩:=bytes_in (d:=y3.1) (p:=y3.2) t3 (fun m hm=>hw m (by simp [DataW.weights,Tryz.underlying37,DataW.weightsEach,hm]))
 obtain⟨z4,e4,_,hz4⟩:=DataW.trod_int Tryz.underlying3 t4
 have hz9:z4<9223372036854775808:=by
  have h1:(decide (IntKind.i64.min≤z4) && decide (z4≤IntKind.i64.max))=true:=hz4
  rw [Bool.and_eq_true,decide_eq_true_iff,decide_eq_true_iff] at h1
  have h2:IntKind.i64.max=9223372036854775807:=by decide
  omega
 obtain⟨o5,n5,c5,e5,h5,hk5⟩:=bools_in (d:=y5.1) (p:=y5.2) t5 (fun m hm=>hw m (by simp [DataW.weights,Tryz.underlying37,DataW.weightsEach,hm]))
 have w1:s1.data.toList.length≤reachBytes:=hw _ (by simp [DataW.weights,Tryz.underlying37,DataW.weightsEach,Tryz.underlying9,x1])
 have w2:s2.data.toList.length≤reachBytes:=hw _ (by simp [DataW.weights,Tryz.underlying37,DataW.weightsEach,Tryz.underlying9,x2])
 simp at hk1 e1 e2 e3 e4 e5
 subst hk1 e1 e2 e3 e4 e5
 exact⟨⟨kind,s1.data.toList,s2.data.toList,o3,n3,c3,z4,o5,n5,c5⟩,rfl,hd3,hk5,hk2,hz9,h3,h5,w1,w2⟩
theorem ops_in {W:World}{base fuel:Nat}{cs:List Value}{d:DataW H}{p:List MemPlace}(hf:DataW.trod enc Tryz.prog W base (fun _=>true) true fuel 22 cs=some (d,p)) (hw:∀n∈d.weights Tryz.prog 22,n≤reachBytes) :
  ∃o n c l,cs=[.slice o n c]∧l.length=n∧RowOp W o l∧VastO l∧OpsIn W l:=by
 obtain⟨o,n,c,l,h1,h2,h3,h4,h6,h5⟩:=rows_in (Q:=OpOk W) Tryz.underlying22 Tryz.cells37 Tryz.bytes37 (by decide) op_in hf hw
 have hr:reachBytes≤140737488355328:=by decide
 have hat:∀x∈l,∃cs,OpOk W cs x:=fun x hx=>by
  obtain⟨i,hi⟩:=List.getElem?_of_mem hx
  obtain⟨b,off,e,h⟩:=h5 (fun e=>by rw [e] at hx;cases hx)
  obtain⟨ys,_,q,_⟩:=h i x hi
  exact⟨ys,q⟩
 refine⟨o,n,c,l,h1,h2,fun hne=>?_,⟨by omega,fun x hx=>?_⟩,fun x hx=>?_⟩
 ·obtain⟨b,off,e,h⟩:=h5 hne
  refine⟨b,off,e,cells_of_rows (k:=6) opCells_len (by decide) fun i x hx r v hv=>?_⟩
  obtain⟨ys,_,⟨q2,_⟩,q3⟩:=h i x hx
  exact q3 r v (by rw [q2];exact hv)
 ·obtain⟨cs,_,_,_,_,_,q1,q2,q3,q4⟩:=hat x hx
  exact⟨Nat.le_trans q1 hr,Nat.le_trans q2 hr,Nat.le_trans q3 hr,Nat.le_trans q4 hr⟩
 ·obtain⟨cs,_,q1,q2,q3,q4,_⟩:=hat x hx
  exact⟨q1,q2,q3,q4⟩
end
end Go.Proofs.YtndjmffnlcilbaaGreatDoor
