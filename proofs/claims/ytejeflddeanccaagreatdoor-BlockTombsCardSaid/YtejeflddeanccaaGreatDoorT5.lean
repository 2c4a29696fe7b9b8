/- Contracts over this program. Their conditions: the slices read as the lists that are named, and lie within the sizes that are named. -/
import Derived.Test.YtejeflddeanccaaGreatDoorT4
import Derived.Test.YtejeflddeanccaaGreatDoorT2
import Derived.OwnWalk
set_option linter.unusedSimpArgs false
set_option linter.unusedVariables false
set_option linter.deprecated false
set_option linter.unnecessarySimpa false
namespace Go.Proofs.YtejeflddeanccaaGreatDoor
open Go Go.RowKit Go.Ix
def LentR (W:World) (B:Nat) (e:TypeId) (size n:Nat) (v:Value) (xs marks:List Value):Prop :=
 ∃g cap,v=.slice (some ⟨g,0,none⟩) n cap∧W.ownsRow B e size (.slice (some ⟨g,0,none⟩) (n+2) cap) (n+2) (xs++marks)
theorem LentR.cells {W:World}{B:Nat}{e:TypeId}{size n:Nat}{v:Value}{xs marks:List Value}(h:LentR W B e size n v xs marks) :
  ∃g cap cur,v=.slice (some ⟨g,0,none⟩) n cap∧B≤g∧g<W.heap.size∧W.heap[g]?=some (.cells cur e (0,0))∧n+2≤cap∧cap≤maxLen∧cur.size=cap * size∧CellsAt W g 0 (xs++marks):=by
 obtain⟨g,cap,rfl,h⟩:=h
 have hc:=ownsRow_cell h
 rcases h.2 with ⟨e,_⟩|⟨g',cap',cur,e,k1,k2,k3,k4,k5,k6⟩
 ·cases e
 ·simp only [Value.slice.injEq,Option.some.injEq,Addr.mk.injEq,and_true,true_and] at e
  obtain⟨rfl,rfl⟩:=e
  exact⟨g,cap,cur,rfl,k1,(Array.getElem?_eq_some_iff.1 k2).1,k2,k3,k4,k5,hc⟩
theorem LentR.same {W W':World}{B:Nat}{e:TypeId}{size n:Nat}{v:Value}{xs marks:List Value}(h:LentR W B e size n v xs marks) (hb:∀b,v.ownBlock=some b→W'.heap[b]?=W.heap[b]?):LentR W' B e size n v xs marks:=by
 obtain⟨g,cap,rfl,h⟩:=h
 exact⟨g,cap,rfl,ownsRow_blocks h fun b hb'=>hb b (by cases hb';rfl)⟩
theorem LentR.mono {W:World}{B B':Nat}{e:TypeId}{size n:Nat}{v:Value}{xs marks:List Value}(h:LentR W B e size n v xs marks) (hB:B'≤B):LentR W B' e size n v xs marks:=by
 obtain⟨g,cap,rfl,h⟩:=h
 exact⟨g,cap,rfl,ownsRow_mono h hB⟩
theorem LentR.at_ {W:World}{B:Nat}{e:TypeId}{size n:Nat}{v:Value}{xs marks:List Value}(h:LentR W B e size n v xs marks):∃b,v.ownBlock=some b∧B≤b∧b<W.heap.size:=by
 obtain⟨g,cap,cur,rfl,h1,h2,_⟩:=h.cells
 exact⟨g,rfl,h1,h2⟩
theorem LentR.flat {W:World}{B:Nat}{e:TypeId}{size n:Nat}{v:Value}{xs marks:List Value}(h:LentR W B e size n v xs marks):FlatAt W v n xs:=by
 obtain⟨g,cap,cur,rfl,_,_,_,_,_,_,hc⟩:=h.cells
 exact⟨_,_,rfl,(fun h=>by cases h),fun _=>⟨g,0,rfl,fun j x hx=>hc j x (by rw [List.getElem?_append_left (List.getElem?_eq_some_iff.1 hx).1];exact hx)⟩⟩
theorem flat_new (w:World) (cs:List Value) (t:TypeId) (n:Nat):FlatAt (w.alloc (.cells cs.toArray t)) (.slice (some ⟨w.heap.size,0,none⟩) n n) n cs:=by
 refine⟨_,_,rfl,(fun h=>by cases h),fun _=>⟨w.heap.size,0,rfl,fun j u hu=>?_⟩⟩
 have h9:=heap_alloc_new w (.cells cs.toArray t)
 rw [Nat.zero_add]
 simp only [World.cell?,h9]
 simpa using hu
def marksL:List Value:=[encStr [111],encStr [],encStr [112],encStr []]
theorem Tryz.info64:(Tryz.prog.info? 64).map (fun i=>(i.zero,i.size,i.bytes))=some (some (.agg #[encStr [],encStr []]),2,32):=by kernel_rfl
theorem one_lbls {l:List Lbl}:∀x∈l.flatMap lblCells,x.oneCell'=true:=by
 intro x hx
 obtain⟨y,_,hx⟩:=List.mem_flatMap.1 hx
 simp [lblCells] at hx
 rcases hx with rfl | rfl<;>rfl
theorem own_some {w:World}{B e size n:Nat}{v:Value}{xs:List Value}(h:w.ownsRow B e size v n xs) (hn:0<n):∃g c,v=.slice (some ⟨g,0,none⟩) n c∧n≤c:=by
 rcases h.2 with ⟨_,h0⟩|⟨g,cap,cur,rfl,_,_,h3,_⟩
 ·omega
 ·exact⟨g,cap,rfl,h3⟩
set_option maxRecDepth 20000 in
set_option maxHeartbeats 1000000 in
theorem lent_labels (o:Option Addr) (n c:Nat) (l:List Lbl) (w:World) (hl:l.length=n) (hn:n≤1000000) (h0:o=none→c=0) (hc:Rows2 w o l):Calls Tryz.prog 16 #[.slice o n c] w fun e w'=>∃u,e=.returned u∧LentR w' w.heap.size 64 2 n u (l.flatMap lblCells) marksL∧Below w.heap.size w w':=by
 obtain⟨j0,hj0,hy0,hy1,hy2⟩:=info_parts Tryz.info64
 have HF:Hid (FlatAt w (.slice o n c) n (l.flatMap lblCells)):=Lib.hid ⟨o,c,rfl,h0,fun hne=>hc (fun e=>hne (by rw [e];rfl))⟩
 have Hl:Hid ((l.flatMap lblCells).length=n * 2):=Lib.hid (by rw [flat_len (k:=2) (fun _=>rfl),hl])
 have H1:Hid (∀x∈l.flatMap lblCells,x.oneCell'=true):=Lib.hid one_lbls
 have Hj:=Lib.hid (And.intro hj0 (And.intro hy0 (And.intro hy1 hy2)))
 clear hc hl h0
 generalize l.flatMap lblCells=xs at *
 go_enter Tryz.func16,Tryz.ntmps16
 go_wp2_with (first
  | (at_make;refine wpList_make_own _ rfl _ _ 39 rfl w.heap.size 64 j0 (.agg #[encStr [],encStr []]) 2 Tryz.underlying39 hj0 hy0 hy1 .i64 .i64 _ (n+2) rfl rfl (by omega) (by rw [hy2];omega) (by unfold maxLen;omega) (Nat.le_refl _) ?_;intro w0 hown0 hgrow0;have Hown0:=Lib.hid hown0;have B0:Hid (Below w.heap.size w w0):=Lib.hid ((Below.refl _ w).grown hgrow0 (Nat.le_refl _) (fun k hk=>by cases hk));have hs0:=B0.out.size;clear hown0 hgrow0)
  | (at_builtin;refine wpList_append_flat rfl _ _ rfl Tryz.underlying39 size84 hj0 hy0 hy1 hy2 rfl (by decide) (by decide) w.heap.size 0 n (.slice (some ⟨w.heap.size,0,none⟩) 0 (n+2)) (.slice o n c) [] xs rfl rfl Hown0.out hs0 (HF.out.olds (Olds.of_below B0.out)) Hl.out H1.out (by omega) ?_;intro v1 w1 hown1 hgrow1 hat1;rw [Nat.zero_add,List.nil_append] at hown1;obtain⟨o1,c1,hv1,_⟩:=ownsRow_shape hown1;subst hv1;have Hown1:=Lib.hid hown1;have B1:Hid (Below w.heap.size w w1):=Lib.hid (B0.out.grown hgrow1 hs0 (fun b hb=>(ownsRow_block Hown0.out hb).1));have hs1:=B1.out.size;have Hm:=Lib.hid (flat_new w1 marksL 64 2);clear hown1 hgrow1 hat1 Hown0 B0)
  | (at_builtin;refine wpList_append_flat rfl _ _ rfl Tryz.underlying39 size84 hj0 hy0 hy1 hy2 rfl (by decide) (by decide) w.heap.size n 2 (.slice o1 n c1) (.slice (some ⟨w1.heap.size,0,none⟩) 2 2) xs marksL rfl rfl (ownsRow_olds Hown1.out (Olds.alloc _ _)) (by simp;omega) Hm.out rfl (by simp [marksL,Value.oneCell',encStr]) (by omega) ?_;intro v4 w4 hown4 hgrow4 hat4;obtain⟨g4,c4,hv4,hc4⟩:=own_some hown4 (by omega);subst hv4;have Hown4:=Lib.hid hown4;have B4:Hid (Below w.heap.size w w4):=Lib.hid ((B1.out.alloc hs1 _).grown hgrow4 (by simp;omega) (fun b hb=>(ownsRow_block Hown1.out hb).1));have hcap0:n≤c4:=(by omega);clear hown4 hgrow4 hat4))
 go_ret
 exact⟨_,rfl,⟨g4,c4,rfl,Hown4.out⟩,B4.out⟩
end Go.Proofs.YtejeflddeanccaaGreatDoor
namespace Go.Proofs.YtejeflddeanccaaGreatDoor
open Go Go.RowKit Go.Ix
set_option maxRecDepth 20000 in
set_option maxHeartbeats 1000000 in
theorem same_labels (o1 o2:Option Addr) (n c1 c2:Nat) (l:List Lbl) (w:World) (hl:l.length=n) (hn:n≤1000000) (h1:Rows2 w o1 l) (h2:Rows2 w o2 l):Calls Tryz.prog 37 #[.slice o1 n c1,.slice o2 n c2] w fun e w'=>e=.returned (.bool true)∧∃q,w'=w.drewN q:=by
 have H1:=Lib.hid h1
 have H2:=Lib.hid h2
 have Hl:=Lib.hid hl
 clear h1 h2 hl
 go_enter Tryz.func37,Tryz.ntmps37
 go_wp2_with fail
 go_loopw [5] (fun iv wr=>∃k q:Nat,k≤n∧iv=.int .i64 k∧wr=w.drewN q) (fun iv _=>n-(intOf iv).toNat)
 case atStart=>exact⟨0,0,Nat.zero_le _,rfl,rfl⟩
 case round =>
  obtain⟨k,q,hk,rfl,rfl⟩:=hrel
  by_cases hlt:k<n
  ·obtain⟨b1,off1,x1,x2,rfl,hx,ha1,ha2⟩:=H1.out.at (k:=k) (by rw [Hl.out];exact hlt)
   obtain⟨b2,off2,y1,y2,rfl,hy,hb1,hb2⟩:=H2.out.at (k:=k) (by rw [Hl.out];exact hlt)
   rw [hx] at hy
   cases hy
   clear hx
   skip
   go_wp2_with fail
   go_region
   go_wp2_with fail
   go_roundw
   case rel=>exact⟨k+1,q+1,by omega,by go_num,rfl⟩
   case measure=>simp [intOf];omega
  ·go_wp2_with fail
   go_ret
   exact⟨rfl,q,rfl⟩
set_option maxRecDepth 20000 in
set_option maxHeartbeats 1000000 in
theorem whole_labels {B:Nat}{v:Value}(o2:Option Addr) (n c2:Nat) (l:List Lbl) (w:World) (hl:l.length=n) (hn:n≤1000000) (h:LentR w B 64 2 n v (l.flatMap lblCells) marksL) (h2:Rows2 w o2 l):Calls Tryz.prog 22 #[v,.slice o2 n c2] w fun e w'=>e=.returned (.bool true)∧∃q,w'=w.drewN q:=by
 obtain⟨g,cap,cur,rfl,hB,hg,hh,hcap,hmax,hsz,hc⟩:=h.cells
 have hrow:Rows2 w (some ⟨g,0,none⟩) l:=fun _=>⟨g,0,rfl,fun j x hx=>hc j x (by rw [List.getElem?_append_left (List.getElem?_eq_some_iff.1 hx).1];exact hx)⟩
 have HS:=Lib.hid (same_labels (some ⟨g,0,none⟩) o2 n cap c2 l w hl hn hrow h2)
 have hm:∀j u,marksL[j]?=some u→w.cell? ⟨g,n * 2+j,none⟩=some u:=fun j u hu=>by
  have:=hc (n * 2+j) u (by
   have e9:(l.flatMap lblCells).length=n * 2:=by rw [flat_len (k:=2) (fun _=>rfl),hl]
   rw [List.getElem?_append_right (by omega),e9,Nat.add_sub_cancel_left]
   exact hu)
  rwa [Nat.zero_add] at this
 have m0:w.cell? ⟨g,n * 2,none⟩=some (encStr [111]):=by have:=hm 0 _ rfl;first | exact this | (rw [show n * 2=n * 2+0 by omega];exact this)
 have m1:w.cell? ⟨g,n * 2+1,none⟩=some (encStr []):=by have:=hm 1 _ rfl;first | exact this | (rw [show n * 2+1=n * 2+1 by omega];exact this)
 have m2:w.cell? ⟨g,(n+1) * 2,none⟩=some (encStr [112]):=by have:=hm 2 _ rfl;first | exact this | (rw [show (n+1) * 2=n * 2+2 by omega];exact this)
 have m3:w.cell? ⟨g,(n+1) * 2+1,none⟩=some (encStr []):=by have:=hm 3 _ rfl;first | exact this | (rw [show (n+1) * 2+1=n * 2+3 by omega];exact this)
 unfold maxLen at hmax
 clear h hh hc hrow h2 hm hsz
 go_enter Tryz.func22,Tryz.ntmps22
 go_wp2_with (go_at_call 37;refine HS.out.mono ?_;clear HS;rintro e w' ⟨rfl,q,rfl⟩)
 go_ret
 exact⟨rfl,q,rfl⟩
end Go.Proofs.YtejeflddeanccaaGreatDoor
namespace Go.Proofs.YtejeflddeanccaaGreatDoor
open Go Go.RowKit Go.Ix
structure Only1 (g:Nat) (w w':World):Prop where
 os:w'.os=w.os
 tape:w'.tape=w.tape
 output:w'.output=w.output
 size:w'.heap.size=w.heap.size
 block:∀k,k≠g→w'.heap[k]?=w.heap[k]?
 cells:∀cur t fr,w.heap[g]?=some (.cells cur t fr)→∃cur',w'.heap[g]?=some (.cells cur' t fr)∧cur'.size=cur.size
theorem Only1.refl (g:Nat) (w:World):Only1 g w w:=⟨rfl,rfl,rfl,rfl,fun _ _=>rfl,fun cur _ _ h=>⟨cur,h,rfl⟩⟩
theorem Only1.setCell {g:Nat}{w w':World}(h:Only1 g w w') (i:Nat) (v:Value):Only1 g w (w'.setCell ⟨g,i,none⟩ v):=by
 refine⟨h.os,h.tape,h.output,by simp [World.setCell,h.size],fun k hk=>?_,fun cur t fr hc=>?_⟩
 ·rw [← h.block k hk]
  simp only [World.setCell,Array.getElem?_modify]
  rw [if_neg (by omega)]
 ·obtain⟨cur',h1,h2⟩:=h.cells cur t fr hc
  refine⟨cur'.setIfInBounds i v,?_,by simp [h2]⟩
  simp [World.setCell,Array.getElem?_modify,h1]
theorem room_cell {w:World}{g k e:Nat}{cur:Array Value}(h:w.heap[g]?=some (.cells cur e (0,0))) (hk:k<cur.size):(∃v,w.cell? ⟨g,k,none⟩=some v)∧w.frozen? ⟨g,k,none⟩=false:=by
 refine⟨⟨cur[k],?_⟩,?_⟩
 ·simp [World.cell?,h,hk]
 ·simp [World.frozen?,h]
structure Within (B S:Nat) (w w':World):Prop where
 os:w'.os=w.os
 tape:w'.tape=w.tape
 output:w'.output=w.output
 size:w'.heap.size=w.heap.size
 block:∀k,(k<B∨S≤k)→w'.heap[k]?=w.heap[k]?
 cells:∀(k:Nat) (cur:Array Value) (t:TypeId) (fr:Nat×Nat),w.heap[k]?=some (.cells cur t fr)→∃cur',w'.heap[k]?=some (.cells cur' t fr)∧cur'.size=cur.size
theorem Within.refl (B S:Nat) (w:World):Within B S w w:=⟨rfl,rfl,rfl,rfl,fun _ _=>rfl,fun _ cur _ _ h=>⟨cur,h,rfl⟩⟩
theorem Within.only1 {B S g:Nat}{w wr w2:World}(h:Within B S w wr) (ho:Only1 g wr w2) (h1:B≤g) (h2:g<S):Within B S w w2:=by
 refine⟨ho.os.trans h.os,ho.tape.trans h.tape,ho.output.trans h.output,ho.size.trans h.size,fun k hk=>(ho.block k (by omega)).trans (h.block k hk),fun k cur t fr hc=>?_⟩
 obtain⟨c1,q1,q2⟩:=h.cells k cur t fr hc
 by_cases hk:k=g
 ·subst hk
  obtain⟨c2,q3,q4⟩:=ho.cells c1 t fr q1
  exact⟨c2,q3,q4.trans q2⟩
 ·exact⟨c1,by rw [ho.block k hk];exact q1,q2⟩
theorem Within.setCell {B S g:Nat}{w wr:World}(h:Within B S w wr) (h1:B≤g) (h2:g<S) (i:Nat) (v:Value):Within B S w (wr.setCell ⟨g,i,none⟩ v):=h.only1 ((Only1.refl g wr).setCell i v) h1 h2
set_option maxRecDepth 20000 in
set_option maxHeartbeats 1000000 in
theorem spoil_labels {g n cap:Nat}{cur:Array Value}(w:World) (hh:w.heap[g]?=some (.cells cur 64 (0,0))) (h1:cap * 2≤cur.size) (h2:n≤cap) (h3:cap≤maxLen) :
  Calls Tryz.prog 23 #[.slice (some ⟨g,0,none⟩) n cap] w fun e w'=>e=.returned (.tuple #[])∧Only1 g w w':=by
 unfold maxLen at h3
 have Hh:=Lib.hid hh
 have H1:=Lib.hid h1
 clear hh h1
 go_enter Tryz.func23,Tryz.ntmps23
 go_wp2_with fail
 go_loopw [3] (fun i wr=>∃k:Nat,k≤cap∧i=.int .i64 k∧Only1 g w wr) (fun i _=>cap-(intOf i).toNat)
 case atStart=>exact⟨0,Nat.zero_le _,rfl,Only1.refl _ _⟩
 case round =>
  obtain⟨k,hk,rfl,ho⟩:=hrel
  have Ho:=Lib.hid ho
  clear ho
  by_cases hlt:k<cap
  ·obtain⟨cur',q1,q2⟩:=Ho.out.cells _ _ _ Hh.out
   have hb9:k * 2+2≤cur.size:=by have:=H1.out;omega
   obtain⟨⟨v0,hc0⟩,hf0⟩:=room_cell (k:=k * 2) q1 (by rw [q2];omega)
   obtain⟨⟨v1,hc1⟩,hf1⟩:=room_cell (k:=k * 2+1) q1 (by rw [q2];omega)
   clear q1 q2 hb9
   go_wp2_with fail
   go_roundw
   case rel=>exact⟨k+1,by omega,by go_num,(Ho.out.setCell _ _).setCell _ _⟩
   case measure=>simp [intOf];omega
  ·go_wp2_with fail
   go_end0
   exact⟨rfl,Ho.out⟩
end Go.Proofs.YtejeflddeanccaaGreatDoor
