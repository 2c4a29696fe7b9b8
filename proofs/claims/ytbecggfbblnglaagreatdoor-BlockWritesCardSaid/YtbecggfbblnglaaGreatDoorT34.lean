/- Contracts over this program. Their conditions: the slices read as the lists that are named, and lie within the sizes that are named. -/
import Derived.Test.YtbecggfbblnglaaGreatDoorT10
import Derived.Test.YtbecggfbblnglaaGreatDoorT11
import Derived.OwnWalk
import Derived.Test.YtbecggfbblnglaaGreatDoorP24
import Derived.Deep.RegionHeldLaw
import Derived.Deep.CutRange
set_option linter.unusedSimpArgs false
set_option linter.unusedVariables false
set_option linter.deprecated false
set_option linter.unnecessarySimpa false
namespace Go.Proofs.YtbecggfbblnglaaGreatDoor
open Go Go.RowKit Go.Ix
def LentR (W:World) (B:Nat) (e:TypeId) (size n:Nat) (v:Value) (xs marks:List Value):Prop :=
 ∃g cap,v=.slice (some ⟨g,0,none⟩) n cap∧W.ownsRow B e size (.slice (some ⟨g,0,none⟩) (n+2) cap) (n+2) (xs++marks)
theorem LentR.cells {W:World}{B:Nat}{e:TypeId}{size n:Nat}{v:Value}{xs marks:List Value}(h:LentR W B e size n v xs marks) :
  ∃g cap cur,v=.slice (some ⟨g,0,none⟩) n cap∧B≤g∧g<W.heap.size∧W.heap[g]?=some (.cells cur e (0,0))∧n+2≤cap∧cap≤maxLen∧cur.size=cap * size∧CellsAt W g 0 (xs++marks):=by
 obtain⟨g,cap,rfl,h⟩:=h
 have hc:=ownsRow_cell h
 rcases h.2 with ⟨e,_⟩|⟨g',cap',cur,e,k1,k2,k3,k4,k5,k6⟩
 ·cases e
 ·simp only [Value.slice.injEq,Option.some.injEq,Addr.mk.injEq,and_true,true_and] at e
  obtain⟨rfl,rfl⟩:=e
  exact⟨g,cap,cur,rfl,k1,(Array.getElem?_eq_some_iff.1 k2).1,k2,k3,k4,k5,hc⟩
theorem LentR.same {W W':World}{B:Nat}{e:TypeId}{size n:Nat}{v:Value}{xs marks:List Value}(h:LentR W B e size n v xs marks) (hb:∀b,v.ownBlock=some b→W'.heap[b]?=W.heap[b]?):LentR W' B e size n v xs marks:=by
 obtain⟨g,cap,rfl,h⟩:=h
 exact⟨g,cap,rfl,ownsRow_blocks h fun b hb'=>hb b (by cases hb';rfl)⟩
theorem LentR.mono {W:World}{B B':Nat}{e:TypeId}{size n:Nat}{v:Value}{xs marks:List Value}(h:LentR W B e size n v xs marks) (hB:B'≤B):LentR W B' e size n v xs marks:=by
 obtain⟨g,cap,rfl,h⟩:=h
 exact⟨g,cap,rfl,ownsRow_mono h hB⟩
theorem LentR.at_ {W:World}{B:Nat}{e:TypeId}{size n:Nat}{v:Value}{xs marks:List Value}(h:LentR W B e size n v xs marks):∃b,v.ownBlock=some b∧B≤b∧b<W.heap.size:=by
 obtain⟨g,cap,cur,rfl,h1,h2,_⟩:=h.cells
 exact⟨g,rfl,h1,h2⟩
theorem LentR.flat {W:World}{B:Nat}{e:TypeId}{size n:Nat}{v:Value}{xs marks:List Value}(h:LentR W B e size n v xs marks):FlatAt W v n xs:=by
 obtain⟨g,cap,cur,rfl,_,_,_,_,_,_,hc⟩:=h.cells
 exact⟨_,_,rfl,(fun h=>by cases h),fun _=>⟨g,0,rfl,fun j x hx=>hc j x (by rw [List.getElem?_append_left (List.getElem?_eq_some_iff.1 hx).1];exact hx)⟩⟩
theorem flat_new (w:World) (cs:List Value) (t:TypeId) (n:Nat):FlatAt (w.alloc (.cells cs.toArray t)) (.slice (some ⟨w.heap.size,0,none⟩) n n) n cs:=by
 refine⟨_,_,rfl,(fun h=>by cases h),fun _=>⟨w.heap.size,0,rfl,fun j u hu=>?_⟩⟩
 have h9:=heap_alloc_new w (.cells cs.toArray t)
 rw [Nat.zero_add]
 simp only [World.cell?,h9]
 simpa using hu
def marksL:List Value:=[encStr [111],encStr [],encStr [112],encStr []]
theorem Tryz.info80:(Tryz.prog.info? 80).map (fun i=>(i.zero,i.size,i.bytes))=some (some (.agg #[encStr [],encStr []]),2,32):=by kernel_rfl
theorem one_lbls {l:List Lbl}:∀x∈l.flatMap lblCells,x.oneCell'=true:=by
 intro x hx
 obtain⟨y,_,hx⟩:=List.mem_flatMap.1 hx
 simp [lblCells] at hx
 rcases hx with rfl | rfl<;>rfl
theorem own_some {w:World}{B e size n:Nat}{v:Value}{xs:List Value}(h:w.ownsRow B e size v n xs) (hn:0<n):∃g c,v=.slice (some ⟨g,0,none⟩) n c∧n≤c:=by
 rcases h.2 with ⟨_,h0⟩|⟨g,cap,cur,rfl,_,_,h3,_⟩
 ·omega
 ·exact⟨g,cap,rfl,h3⟩
set_option maxRecDepth 20000 in
set_option maxHeartbeats 1000000 in
theorem lent_labels (o:Option Addr) (n c:Nat) (l:List Lbl) (w:World) (hl:l.length=n) (hn:n≤1000000) (h0:o=none→c=0) (hc:Rows2 w o l):Calls Tryz.prog 15 #[.slice o n c] w fun e w'=>∃u,e=.returned u∧LentR w' w.heap.size 80 2 n u (l.flatMap lblCells) marksL∧Below w.heap.size w w':=by
 obtain⟨j0,hj0,hy0,hy1,hy2⟩:=info_parts Tryz.info80
 have HF:Hid (FlatAt w (.slice o n c) n (l.flatMap lblCells)):=Lib.hid ⟨o,c,rfl,h0,fun hne=>hc (fun e=>hne (by rw [e];rfl))⟩
 have Hl:Hid ((l.flatMap lblCells).length=n * 2):=Lib.hid (by rw [flat_len (k:=2) (fun _=>rfl),hl])
 have H1:Hid (∀x∈l.flatMap lblCells,x.oneCell'=true):=Lib.hid one_lbls
 have Hj:=Lib.hid (And.intro hj0 (And.intro hy0 (And.intro hy1 hy2)))
 clear hc hl h0
 generalize l.flatMap lblCells=xs at *
 go_enter Tryz.func15,Tryz.ntmps15
 go_wp2_with (first
  | (at_make;refine wpList_make_own _ rfl _ _ 72 rfl w.heap.size 80 j0 (.agg #[encStr [],encStr []]) 2 Tryz.underlying72 hj0 hy0 hy1 .i64 .i64 _ (n+2) rfl rfl (by omega) (by rw [hy2];omega) (by unfold maxLen;omega) (Nat.le_refl _) ?_;intro w0 hown0 hgrow0;have Hown0:=Lib.hid hown0;have B0:Hid (Below w.heap.size w w0):=Lib.hid ((Below.refl _ w).grown hgrow0 (Nat.le_refl _) (fun k hk=>by cases hk));have hs0:=B0.out.size;clear hown0 hgrow0)
  | (at_builtin;refine wpList_append_flat rfl _ _ rfl Tryz.underlying72 size84 hj0 hy0 hy1 hy2 rfl (by decide) (by decide) w.heap.size 0 n (.slice (some ⟨w.heap.size,0,none⟩) 0 (n+2)) (.slice o n c) [] xs rfl rfl Hown0.out hs0 (HF.out.olds (Olds.of_below B0.out)) Hl.out H1.out (by omega) ?_;intro v1 w1 hown1 hgrow1 hat1;rw [Nat.zero_add,List.nil_append] at hown1;obtain⟨o1,c1,hv1,_⟩:=ownsRow_shape hown1;subst hv1;have Hown1:=Lib.hid hown1;have B1:Hid (Below w.heap.size w w1):=Lib.hid (B0.out.grown hgrow1 hs0 (fun b hb=>(ownsRow_block Hown0.out hb).1));have hs1:=B1.out.size;have Hm:=Lib.hid (flat_new w1 marksL 80 2);clear hown1 hgrow1 hat1 Hown0 B0)
  | (at_builtin;refine wpList_append_flat rfl _ _ rfl Tryz.underlying72 size84 hj0 hy0 hy1 hy2 rfl (by decide) (by decide) w.heap.size n 2 (.slice o1 n c1) (.slice (some ⟨w1.heap.size,0,none⟩) 2 2) xs marksL rfl rfl (ownsRow_olds Hown1.out (Olds.alloc _ _)) (by simp;omega) Hm.out rfl (by simp [marksL,Value.oneCell',encStr]) (by omega) ?_;intro v4 w4 hown4 hgrow4 hat4;obtain⟨g4,c4,hv4,hc4⟩:=own_some hown4 (by omega);subst hv4;have Hown4:=Lib.hid hown4;have B4:Hid (Below w.heap.size w w4):=Lib.hid ((B1.out.alloc hs1 _).grown hgrow4 (by simp;omega) (fun b hb=>(ownsRow_block Hown1.out hb).1));have hcap0:n≤c4:=(by omega);clear hown4 hgrow4 hat4))
 go_ret
 exact⟨_,rfl,⟨g4,c4,rfl,Hown4.out⟩,B4.out⟩
end Go.Proofs.YtbecggfbblnglaaGreatDoor
namespace Go.Proofs.YtbecggfbblnglaaGreatDoor
open Go Go.RowKit Go.Ix
set_option maxRecDepth 20000 in
set_option maxHeartbeats 1000000 in
theorem same_labels (o1 o2:Option Addr) (n c1 c2:Nat) (l:List Lbl) (w:World) (hl:l.length=n) (hn:n≤1000000) (h1:Rows2 w o1 l) (h2:Rows2 w o2 l):Calls Tryz.prog 71 #[.slice o1 n c1,.slice o2 n c2] w fun e w'=>e=.returned (.bool true)∧∃q,w'=w.drewN q:=by
 have H1:=Lib.hid h1
 have H2:=Lib.hid h2
 have Hl:=Lib.hid hl
 clear h1 h2 hl
 go_enter Tryz.func71,Tryz.ntmps71
 go_wp2_with fail
 go_loopw [5] (fun iv wr=>∃k q:Nat,k≤n∧iv=.int .i64 k∧wr=w.drewN q) (fun iv _=>n-(intOf iv).toNat)
 case atStart=>exact⟨0,0,Nat.zero_le _,rfl,rfl⟩
 case round =>
  obtain⟨k,q,hk,rfl,rfl⟩:=hrel
  by_cases hlt:k<n
  ·obtain⟨b1,off1,x1,x2,rfl,hx,ha1,ha2⟩:=H1.out.at (k:=k) (by rw [Hl.out];exact hlt)
   obtain⟨b2,off2,y1,y2,rfl,hy,hb1,hb2⟩:=H2.out.at (k:=k) (by rw [Hl.out];exact hlt)
   rw [hx] at hy
   cases hy
   clear hx
   skip
   go_wp2_with fail
   go_region
   go_wp2_with fail
   go_roundw
   case rel=>exact⟨k+1,q+1,by omega,by go_num,rfl⟩
   case measure=>simp [intOf];omega
  ·go_wp2_with fail
   go_ret
   exact⟨rfl,q,rfl⟩
set_option maxRecDepth 20000 in
set_option maxHeartbeats 1000000 in
theorem whole_labels {B:Nat}{v:Value}(o2:Option Addr) (n c2:Nat) (l:List Lbl) (w:World) (hl:l.length=n) (hn:n≤1000000) (h:LentR w B 80 2 n v (l.flatMap lblCells) marksL) (h2:Rows2 w o2 l):Calls Tryz.prog 19 #[v,.slice o2 n c2] w fun e w'=>e=.returned (.bool true)∧∃q,w'=w.drewN q:=by
 obtain⟨g,cap,cur,rfl,hB,hg,hh,hcap,hmax,hsz,hc⟩:=h.cells
 have hrow:Rows2 w (some ⟨g,0,none⟩) l:=fun _=>⟨g,0,rfl,fun j x hx=>hc j x (by rw [List.getElem?_append_left (List.getElem?_eq_some_iff.1 hx).1];exact hx)⟩
 have HS:=Lib.hid (same_labels (some ⟨g,0,none⟩) o2 n cap c2 l w hl hn hrow h2)
 have hm:∀j u,marksL[j]?=some u→w.cell? ⟨g,n * 2+j,none⟩=some u:=fun j u hu=>by
  have:=hc (n * 2+j) u (by
   have e9:(l.flatMap lblCells).length=n * 2:=by rw [flat_len (k:=2) (fun _=>rfl),hl]
   rw [List.getElem?_append_right (by omega),e9,Nat.add_sub_cancel_left]
   exact hu)
  rwa [Nat.zero_add] at this
 have m0:w.cell? ⟨g,n * 2,none⟩=some (encStr [111]):=by have:=hm 0 _ rfl;first | exact this | (rw [show n * 2=n * 2+0 by omega];exact this)
 have m1:w.cell? ⟨g,n * 2+1,none⟩=some (encStr []):=by have:=hm 1 _ rfl;first | exact this | (rw [show n * 2+1=n * 2+1 by omega];exact this)
 have m2:w.cell? ⟨g,(n+1) * 2,none⟩=some (encStr [112]):=by have:=hm 2 _ rfl;first | exact this | (rw [show (n+1) * 2=n * 2+2 by omega];exact this)
 have m3:w.cell? ⟨g,(n+1) * 2+1,none⟩=some (encStr []):=by have:=hm 3 _ rfl;first | exact this | (rw [show (n+1) * 2+1=n * 2+3 by omega];exact this)
 unfold maxLen at hmax
 clear h hh hc hrow h2 hm hsz
 go_enter Tryz.func19,Tryz.ntmps19
 go_wp2_with (go_at_call 71;refine HS.out.mono ?_;clear HS;rintro e w' ⟨rfl,q,rfl⟩)
 go_ret
 exact⟨rfl,q,rfl⟩
end Go.Proofs.YtbecggfbblnglaaGreatDoor
namespace Go.Proofs.YtbecggfbblnglaaGreatDoor
open Go Go.RowKit Go.Ix Go.Gor
def marksM:List Value:=[.int .i64 (-71),.int .u64 0,.int .i64 (-72),.int .u64 0]
theorem Tryz.info107:(Tryz.prog.info? 107).map (fun i=>(i.zero,i.size,i.bytes))=some (some (.agg #[.int .i64 0,.int .u64 0]),2,16):=by kernel_rfl
theorem sizeSmp (W:World):(sizeOf 107).run Tryz.prog W=.ok 2 W:=by kernel_rfl
theorem one_smps {l:List Smp}:∀x∈l.flatMap smpCells,x.oneCell'=true:=by
 intro x hx
 obtain⟨y,_,hx⟩:=List.mem_flatMap.1 hx
 simp [smpCells] at hx
 rcases hx with rfl | rfl<;>rfl
set_option maxRecDepth 20000 in
set_option maxHeartbeats 1000000 in
theorem lent_samples (o:Option Addr) (n c:Nat) (l:List Smp) (w:World) (hl:l.length=n) (hn:n≤1000000) (h0:o=none→c=0) (hc:RowsM w o l):Calls Tryz.prog 16 #[.slice o n c] w fun e w'=>∃u,e=.returned u∧LentR w' w.heap.size 107 2 n u (l.flatMap smpCells) marksM∧Below w.heap.size w w':=by
 obtain⟨j0,hj0,hy0,hy1,hy2⟩:=info_parts Tryz.info107
 have HF:Hid (FlatAt w (.slice o n c) n (l.flatMap smpCells)):=Lib.hid ⟨o,c,rfl,h0,fun hne=>hc (fun e=>hne (by rw [e];rfl))⟩
 have Hl:Hid ((l.flatMap smpCells).length=n * 2):=Lib.hid (by rw [flat_len (k:=2) (fun _=>rfl),hl])
 have H1:Hid (∀x∈l.flatMap smpCells,x.oneCell'=true):=Lib.hid one_smps
 have Hj:=Lib.hid (And.intro hj0 (And.intro hy0 (And.intro hy1 hy2)))
 clear hc hl h0
 generalize l.flatMap smpCells=xs at *
 go_enter Tryz.func16,Tryz.ntmps16
 go_wp2_with (first
  | (at_make;refine wpList_make_own _ rfl _ _ 73 rfl w.heap.size 107 j0 (.agg #[.int .i64 0,.int .u64 0]) 2 Tryz.underlying73 hj0 hy0 hy1 .i64 .i64 _ (n+2) rfl rfl (by omega) (by rw [hy2];omega) (by unfold maxLen;omega) (Nat.le_refl _) ?_;intro w0 hown0 hgrow0;have Hown0:=Lib.hid hown0;have B0:Hid (Below w.heap.size w w0):=Lib.hid ((Below.refl _ w).grown hgrow0 (Nat.le_refl _) (fun k hk=>by cases hk));have hs0:=B0.out.size;clear hown0 hgrow0)
  | (at_builtin;refine wpList_append_flat rfl _ _ rfl Tryz.underlying73 sizeSmp hj0 hy0 hy1 hy2 rfl (by decide) (by decide) w.heap.size 0 n (.slice (some ⟨w.heap.size,0,none⟩) 0 (n+2)) (.slice o n c) [] xs rfl rfl Hown0.out hs0 (HF.out.olds (Olds.of_below B0.out)) Hl.out H1.out (by omega) ?_;intro v1 w1 hown1 hgrow1 hat1;rw [Nat.zero_add,List.nil_append] at hown1;obtain⟨o1,c1,hv1,_⟩:=ownsRow_shape hown1;subst hv1;have Hown1:=Lib.hid hown1;have B1:Hid (Below w.heap.size w w1):=Lib.hid (B0.out.grown hgrow1 hs0 (fun b hb=>(ownsRow_block Hown0.out hb).1));have hs1:=B1.out.size;have Hm:=Lib.hid (flat_new w1 marksM 107 2);clear hown1 hgrow1 hat1 Hown0 B0)
  | (at_builtin;refine wpList_append_flat rfl _ _ rfl Tryz.underlying73 sizeSmp hj0 hy0 hy1 hy2 rfl (by decide) (by decide) w.heap.size n 2 (.slice o1 n c1) (.slice (some ⟨w1.heap.size,0,none⟩) 2 2) xs marksM rfl rfl (ownsRow_olds Hown1.out (Olds.alloc _ _)) (by simp;omega) Hm.out rfl (by simp [marksM,Value.oneCell']) (by omega) ?_;intro v4 w4 hown4 hgrow4 hat4;obtain⟨g4,c4,hv4,hc4⟩:=own_some hown4 (by omega);subst hv4;have Hown4:=Lib.hid hown4;have B4:Hid (Below w.heap.size w w4):=Lib.hid ((B1.out.alloc hs1 _).grown hgrow4 (by simp;omega) (fun b hb=>(ownsRow_block Hown1.out hb).1));have hcap0:n≤c4:=(by omega);clear hown4 hgrow4 hat4))
 go_ret
 exact⟨_,rfl,⟨g4,c4,rfl,Hown4.out⟩,B4.out⟩
set_option maxRecDepth 20000 in
set_option maxHeartbeats 1000000 in
theorem same_samples (o1 o2:Option Addr) (n c1 c2:Nat) (l:List Smp) (w:World) (hl:l.length=n) (hn:n≤1000000) (h1:RowsM w o1 l) (h2:RowsM w o2 l):Calls Tryz.prog 30 #[.slice o1 n c1,.slice o2 n c2] w fun e w'=>e=.returned (.bool true)∧∃q,w'=w.drewN q:=by
 have H1:=Lib.hid h1
 have H2:=Lib.hid h2
 have Hl:=Lib.hid hl
 clear h1 h2 hl
 go_enter Tryz.func30,Tryz.ntmps30
 go_wp2_with fail
 go_loopw [5] (fun iv wr=>∃k q:Nat,k≤n∧iv=.int .i64 k∧wr=w.drewN q) (fun iv _=>n-(intOf iv).toNat)
 case atStart=>exact⟨0,0,Nat.zero_le _,rfl,rfl⟩
 case round =>
  obtain⟨k,q,hk,rfl,rfl⟩:=hrel
  by_cases hlt:k<n
  ·obtain⟨b1,off1,x1,x2,rfl,hx,ha1,ha2⟩:=H1.out.at (k:=k) (by rw [Hl.out];exact hlt)
   obtain⟨b2,off2,y1,y2,rfl,hy,hb1,hb2⟩:=H2.out.at (k:=k) (by rw [Hl.out];exact hlt)
   rw [hx] at hy
   cases hy
   clear hx
   skip
   go_wp2_with fail
   go_region
   go_wp2_with fail
   go_roundw
   case rel=>exact⟨k+1,q+1,by omega,by go_num,rfl⟩
   case measure=>simp [intOf];omega
  ·go_wp2_with fail
   go_ret
   exact⟨rfl,q,rfl⟩
set_option maxRecDepth 20000 in
set_option maxHeartbeats 1000000 in
theorem whole_samples {B:Nat}{v:Value}(o2:Option Addr) (n c2:Nat) (l:List Smp) (w:World) (hl:l.length=n) (hn:n≤1000000) (h:LentR w B 107 2 n v (l.flatMap smpCells) marksM) (h2:RowsM w o2 l):Calls Tryz.prog 20 #[v,.slice o2 n c2] w fun e w'=>e=.returned (.bool true)∧∃q,w'=w.drewN q:=by
 obtain⟨g,cap,cur,rfl,hB,hg,hh,hcap,hmax,hsz,hc⟩:=h.cells
 have hrow:RowsM w (some ⟨g,0,none⟩) l:=fun _=>⟨g,0,rfl,fun j x hx=>hc j x (by rw [List.getElem?_append_left (List.getElem?_eq_some_iff.1 hx).1];exact hx)⟩
 have HS:=Lib.hid (same_samples (some ⟨g,0,none⟩) o2 n cap c2 l w hl hn hrow h2)
 have hm:∀j u,marksM[j]?=some u→w.cell? ⟨g,n * 2+j,none⟩=some u:=fun j u hu=>by
  have:=hc (n * 2+j) u (by
   have e9:(l.flatMap smpCells).length=n * 2:=by rw [flat_len (k:=2) (fun _=>rfl),hl]
   rw [List.getElem?_append_right (by omega),e9,Nat.add_sub_cancel_left]
   exact hu)
  rwa [Nat.zero_add] at this
 have m0:w.cell? ⟨g,n * 2,none⟩=some (.int .i64 (-71)):=by have:=hm 0 _ rfl;first | exact this | (rw [show n * 2=n * 2+0 by omega];exact this)
 have m1:w.cell? ⟨g,n * 2+1,none⟩=some (.int .u64 0):=by have:=hm 1 _ rfl;first | exact this | (rw [show n * 2+1=n * 2+1 by omega];exact this)
 have m2:w.cell? ⟨g,(n+1) * 2,none⟩=some (.int .i64 (-72)):=by have:=hm 2 _ rfl;first | exact this | (rw [show (n+1) * 2=n * 2+2 by omega];exact this)
 have m3:w.cell? ⟨g,(n+1) * 2+1,none⟩=some (.int .u64 0):=by have:=hm 3 _ rfl;first | exact this | (rw [show (n+1) * 2+1=n * 2+3 by omega];exact this)
 unfold maxLen at hmax
 clear h hh hc hrow h2 hm hsz
 go_enter Tryz.func20,Tryz.ntmps20
 go_wp2_with (go_at_call 30;refine HS.out.mono ?_;clear HS;rintro e w' ⟨rfl,q,rfl⟩)
 go_ret
 exact⟨rfl,q,rfl⟩
end Go.Proofs.YtbecggfbblnglaaGreatDoor
namespace Go.Proofs.YtbecggfbblnglaaGreatDoor
open Go Go.RowKit Go.Ix Go.Gor
def SerL (W:World) (B:Nat) (sb:Option Nat) (u:Value×Value) (e:Ser):Prop :=
 LentR W B 80 2 e.1.length u.1 (e.1.flatMap lblCells) marksL∧LentR W B 107 2 e.2.length u.2 (e.2.flatMap smpCells) marksM∧u.1.ownBlock≠sb∧u.2.ownBlock≠sb
def SersL (W:World) (B:Nat) (sb:Option Nat) (us:List (Value×Value)) (l:List Ser):Prop :=
 ∀(i:Nat) (u:Value×Value) (e:Ser),us[i]?=some u→l[i]?=some e→SerL W B sb u e
theorem SerL.same {W W':World}{B:Nat}{sb:Option Nat}{u:Value×Value}{e:Ser}(h:SerL W B sb u e) (hb:∀b,B≤b→b<W.heap.size→some b≠sb→W'.heap[b]?=W.heap[b]?):SerL W' B sb u e:=by
 obtain⟨h1,h2,h3,h4⟩:=h
 obtain⟨b1,e1,q1,q2⟩:=h1.at_
 obtain⟨b2,e2,q3,q4⟩:=h2.at_
 refine⟨h1.same fun b hb'=>?_,h2.same fun b hb'=>?_,h3,h4⟩
 ·rw [e1] at hb'
  cases hb'
  exact hb _ q1 q2 (by rw [← e1];exact h3)
 ·rw [e2] at hb'
  cases hb'
  exact hb _ q3 q4 (by rw [← e2];exact h4)
theorem SerL.move {W:World}{B:Nat}{sb sb':Option Nat}{u:Value×Value}{e:Ser}(h:SerL W B sb u e) (hs:sb'=sb∨∃g,sb'=some g∧W.heap.size≤g):SerL W B sb' u e:=by
 obtain⟨h1,h2,h3,h4⟩:=h
 obtain⟨b1,e1,q1,q2⟩:=h1.at_
 obtain⟨b2,e2,q3,q4⟩:=h2.at_
 rcases hs with rfl|⟨g,rfl,hg⟩
 ·exact⟨h1,h2,h3,h4⟩
 ·refine⟨h1,h2,?_,?_⟩
  ·rw [e1]
   intro e
   cases e
   omega
  ·rw [e2]
   intro e
   cases e
   omega
def LentV (W:World) (B:Nat) (v:Value) (l:List Ser):Prop :=
 ∃g cap us gm,v=.slice (some ⟨g,0,none⟩) l.length cap∧us.length=l.length∧W.ownsRow B 75 2 (.slice (some ⟨g,0,none⟩) (l.length+1) cap) (l.length+1) (us.flatMap entCells++[.slice (some ⟨gm,0,none⟩) 1 1,.slice none 0 0])∧
  SersL W B (some g) us l∧W.heap[gm]?=some (.cells #[encStr [111],encStr []] 80 (0,0))∧gm≠g
theorem Tryz.info75:(Tryz.prog.info? 75).map (fun i=>(i.zero,i.size,i.bytes))=some (some (.agg #[.slice none 0 0,.slice none 0 0]),2,48):=by kernel_rfl
theorem sers_old {wr w3 w4:World}{B:Nat}{sv:Value}{us:List (Value×Value)}{l:List Ser}{O:Obj}{gg:Nat}(hx:SersL wr B sv.ownBlock us l) (ho:Olds wr w3)
  (grow:(w3.alloc O).grownBy w4 sv.ownBlock) (hat:sv.ownBlock=some gg∨gg=w3.heap.size+1):SersL w4 B (some gg) us l:=by
 have hmove:(some gg:Option Nat)=sv.ownBlock∨∃g,(some gg:Option Nat)=some g∧w3.heap.size≤g:=by
  rcases hat with h | h
  ·exact .inl h.symm
  ·exact .inr ⟨gg,rfl,by omega⟩
 have hsame:∀b,b<w3.heap.size→some b≠sv.ownBlock→w4.heap[b]?=w3.heap[b]?:=fun b hb hne=>(grow.block b (by simp;omega) hne).trans (Below.heap_alloc _ _ b hb)
 intro i u' e' hu' he'
 have h1:=hx i u' e' hu' he'
 have h2:SerL w3 B sv.ownBlock u' e':=h1.same fun b _ hb _=>ho.2 b hb
 obtain⟨a1,a2,a3,a4⟩:=h2
 obtain⟨b1,e1,q1,q2⟩:=a1.at_
 obtain⟨b2,e2,q3,q4⟩:=a2.at_
 have h3:SerL w3 B (some gg) u' e':=SerL.move ⟨a1,a2,a3,a4⟩ hmove
 obtain⟨a1',a2',a3',a4'⟩:=h3
 refine⟨a1'.same fun b hb=>?_,a2'.same fun b hb=>?_,a3',a4'⟩
 ·rw [e1] at hb
  cases hb
  exact hsame _ q2 (by rw [← e1];exact a3)
 ·rw [e2] at hb
  cases hb
  exact hsame _ q4 (by rw [← e2];exact a4)
theorem sers_step {wr w3 w4:World}{B:Nat}{sv:Value}{us:List (Value×Value)}{l:List Ser}{u:Value×Value}{e:Ser}{O:Obj}{gg:Nat}(hx:SersL wr B sv.ownBlock us l) (hsv:∀b,sv.ownBlock=some b→b<wr.heap.size) (ho:Olds wr w3) (hB:B≤wr.heap.size)
  (hu:LentR w3 wr.heap.size 80 2 e.1.length u.1 (e.1.flatMap lblCells) marksL∧LentR w3 wr.heap.size 107 2 e.2.length u.2 (e.2.flatMap smpCells) marksM) (he:l[us.length]?=some e)
  (grow:(w3.alloc O).grownBy w4 sv.ownBlock) (hat:sv.ownBlock=some gg∨gg=w3.heap.size+1):SersL w4 B (some gg) (us++[u]) l:=by
 have hs:=ho.1
 have hsame:∀b,b<w3.heap.size→some b≠sv.ownBlock→w4.heap[b]?=w3.heap[b]?:=fun b hb hne=>(grow.block b (by simp;omega) hne).trans (Below.heap_alloc _ _ b hb)
 intro i u' e' hu' he'
 by_cases hi:i<us.length
 ·rw [List.getElem?_append_left hi] at hu'
  exact sers_old hx ho grow hat i u' e' hu' he'
 ·rw [List.getElem?_append_right (by omega)] at hu'
  have hi0:i-us.length=0:=by
   have:=(List.getElem?_eq_some_iff.1 hu').1
   simp at this
   omega
  rw [hi0] at hu'
  cases hu'
  have:i=us.length:=by omega
  subst this
  rw [he] at he'
  cases he'
  obtain⟨a1,a2⟩:=hu
  obtain⟨b1,e1,q1,q2⟩:=a1.at_
  obtain⟨b2,e2,q3,q4⟩:=a2.at_
  have hn:∀b,wr.heap.size≤b→some b≠sv.ownBlock:=fun b hb h=>by have:=hsv b h.symm;omega
  have hng:∀b,wr.heap.size≤b→b<w3.heap.size→(some b:Option Nat)≠some gg:=fun b h1 h2 h=>by
   cases h
   rcases hat with h | h
   ·have:=hsv _ h
    omega
   ·omega
  refine⟨(a1.mono hB).same fun b hb=>?_,(a2.mono hB).same fun b hb=>?_,by rw [e1];exact hng b1 q1 q2,by rw [e2];exact hng b2 q3 q4⟩
  ·rw [e1] at hb
   cases hb
   exact hsame _ q2 (hn _ q1)
  ·rw [e2] at hb
   cases hb
   exact hsame _ q4 (hn _ q3)
set_option maxRecDepth 20000 in
set_option maxHeartbeats 1000000 in
theorem lent_series (o:Option Addr) (n c:Nat) (l:List Ser) (w:World) (hl:l.length=n) (hn:n≤60) (hs:∀e∈l,e.1.length≤20000∧e.2.length≤20000) (hc:RowsR w o l):Calls Tryz.prog 5 #[.slice o n c] w fun e w'=>∃u,e=.returned u∧LentV w' w.heap.size u l∧Below w.heap.size w w':=by
 obtain⟨i0,hi0,hz0,hz1,hz2⟩:=info_parts Tryz.info75
 have Hc:=Lib.hid hc
 have Hs:=Lib.hid hs
 have Hl:=Lib.hid hl
 have Hi:=Lib.hid (And.intro hi0 (And.intro hz0 (And.intro hz1 hz2)))
 clear hc hs hl
 go_enter Tryz.func5,Tryz.ntmps5
 go_wp2_with (at_make;refine wpList_make_own _ rfl _ _ 23 rfl w.heap.size 75 i0 (.agg #[.slice none 0 0,.slice none 0 0]) 2 Tryz.underlying23 hi0 hz0 hz1 .i64 .i64 _ (n+1) rfl rfl (by omega) (by rw [hz2];omega) (by unfold maxLen;omega) (Nat.le_refl _) ?_;intro w0 hown0 hgrow0;have Hown0:=Lib.hid hown0;have B0:Hid (Below w.heap.size w w0):=Lib.hid ((Below.refl _ w).grown hgrow0 (Nat.le_refl _) (fun k hk=>by cases hk));clear hown0 hgrow0)
 go_loopw [3,4] (fun sv i wr=>∃(k:Nat) (us:List (Value×Value)) (so:Option Addr) (sc:Nat),i=.int .i64 k∧sv=.slice so k sc∧k≤n∧us.length=k∧wr.ownsRow w.heap.size 75 2 (.slice so k sc) k (us.flatMap entCells)∧SersL wr w.heap.size (Value.slice so k sc).ownBlock us l∧Below w.heap.size w wr) (fun _ i _=>n-(intOf i).toNat)
 case atStart=>exact⟨0,[],_,_,rfl,rfl,Nat.zero_le _,rfl,Hown0.out,fun i u e hu=>by simp at hu,B0.out⟩
 case round =>
  obtain⟨k,us,so,sc,rfl,rfl,hk,hul,hown,hents,hb⟩:=hrel
  have Hown:=Lib.hid hown
  have Hents:=Lib.hid hents
  have Hb:=Lib.hid hb
  have Hul:=Lib.hid hul
  have hbs:=hb.size
  have Hsv:Hid (∀b,(Value.slice so k sc).ownBlock=some b→w.heap.size≤b∧b<wr.heap.size):=Lib.hid (fun b hb=>ownsRow_block hown hb)
  clear hown hents hb hul
  by_cases hlt:k<n
  ·obtain⟨b,off,e1,e2,o1,n1,c1,o2,n2,c2,rfl,hx,hc1,hc2,hl1,hl2,hr1,hr2,hz1',hz2',_⟩:=Hc.out.at (k:=k) (by rw [Hl.out];exact hlt)
   obtain⟨hs1,hs2⟩:=Hs.out _ (List.mem_of_getElem? hx)
   simp only at hs1 hs2
   have how:Olds w wr:=Olds.of_below Hb.out
   have HS:Hid (∀W,Olds w W→W.cell? ⟨b,off+k * 2,none⟩=some (.slice o1 n1 c1)∧W.cell? ⟨b,off+k * 2+1,none⟩=some (.slice o2 n2 c2)):=Lib.hid (fun W hW=>⟨hW.cell hc1,hW.cell hc2⟩)
   have Hhow:=Lib.hid how
   have HL1:Hid (∀W,Olds wr W→Calls Tryz.prog 15 #[.slice o1 n1 c1] W fun e w'=>∃u,e=.returned u∧LentR w' W.heap.size 80 2 n1 u (e1.flatMap lblCells) marksL∧Below W.heap.size W w'):=Lib.hid (fun W hW=>lent_labels o1 n1 c1 e1 W hl1 (by omega) hz1' (hr1.olds (how.trans hW)))
   have HL2:Hid (∀W,Olds wr W→Calls Tryz.prog 16 #[.slice o2 n2 c2] W fun e w'=>∃u,e=.returned u∧LentR w' W.heap.size 107 2 n2 u (e2.flatMap smpCells) marksM∧Below W.heap.size W w'):=Lib.hid (fun W hW=>lent_samples o2 n2 c2 e2 W hl2 (by omega) hz2' (hr2.olds (how.trans hW)))
   have Hx:=Lib.hid hx
   have Hl12:=Lib.hid (And.intro hl1 hl2)
   obtain⟨s0,s1⟩:=HS.out wr.drew (how.trans (Olds.drewN wr 1))
   have O1:Hid (Olds wr wr.drew):=Lib.hid (Olds.drewN wr 1)
   have hds:wr.drew.heap.size=wr.heap.size:=rfl
   clear hx hc1 hc2 hl1 hl2 hr1 hr2 hz1' hz2' how
   go_upto_region 5 with fail
   go_region_held_law (fun W=>W.cell? ⟨b,off+k * 2,none⟩=some (.slice o1 n1 c1)∧W.cell? ⟨b,off+k * 2+1,none⟩=some (.slice o2 n2 c2))
    (first | exact HS.out _ (Hhow.out.trans O1.out) | exact HS.out _ (Hhow.out.trans O2.out) | exact HS.out _ (Hhow.out.trans O3.out) | exact HS.out _ (Hhow.out.trans (O3.out.trans (Olds.alloc _ _))) | exact HS.out _ (Olds.of_below Hb4.out))
    (first
     | (go_at_call 15;refine (HL1.out _ O1.out).mono ?_;rintro e w2 ⟨u1,rfl,hl1,hb1⟩;obtain⟨g1,cp1,_,rfl,_⟩:=hl1.cells;have Hl1:=Lib.hid hl1;have O2:Hid (Olds wr w2):=Lib.hid (O1.out.trans (Olds.of_below hb1));have Hb1:=Lib.hid hb1;have hs2:=hb1.size;clear hl1 hb1)
     | (go_at_call 16;refine (HL2.out _ O2.out).mono ?_;rintro e w3 ⟨u2,rfl,hl2,hb2⟩;obtain⟨g2,cp2,_,rfl,_⟩:=hl2.cells;have Hl2:=Lib.hid hl2;have O3:Hid (Olds wr w3):=Lib.hid (O2.out.trans (Olds.of_below hb2));have Hb2:=Lib.hid hb2;have hs3:=hb2.size;clear hl2 hb2)
     | (refine step_append_lies _ rfl _ _ _ rfl w.heap.size 75 i0 _ 2 48 Tryz.underlying23 hi0 hz0 hz1 hz2 rfl (by decide) (.slice so k sc) k (us.flatMap entCells) rfl (ownsRow_olds Hown.out (O3.out.trans (Olds.alloc _ _))) ⟨w3.heap.size,0,none⟩ 1 1 [.slice (some ⟨g1,0,none⟩) n1 cp1,.slice (some ⟨g2,0,none⟩) n2 cp2] rfl rfl (World.news_of_block (cs:=#[.slice (some ⟨g1,0,none⟩) n1 cp1,.slice (some ⟨g2,0,none⟩) n2 cp2]) (t:=75) (fr:=(0,0)) (heap_alloc_new w3 _)) (by simp [Value.oneCell']) Nat.one_pos (by unfold maxLen;omega) (by omega) (by simp;omega) (w3.heap.size+1) (by simp) ?_;intro gg cap2 w4 hown4 hgrow4 hat4 hlt4;have Hown4:=Lib.hid hown4;have Hgrow4:=Lib.hid hgrow4;have Hat4:=Lib.hid hat4;have Hb4:Hid (Below w.heap.size w w4):=Lib.hid (((((below_drewN Hb.out 1).trans (Hb1.out.mono (by omega))).trans (Hb2.out.mono (by omega))).alloc (by omega) _).grown hgrow4 (by simp;omega) (fun b hb=>(Hsv.out b hb).1));clear hown4 hgrow4 hat4))
   have Hst:Hid (SersL w4 w.heap.size (some gg) (us++[(.slice (some ⟨g1,0,none⟩) n1 cp1,.slice (some ⟨g2,0,none⟩) n2 cp2)]) l):=Lib.hid (by
    have e9:=Hx.out
    rw [← Hul.out] at e9
    obtain⟨k1,k2⟩:=Hl12.out
    refine sers_step (sv:=Value.slice so k sc) Hents.out (fun b hb=>(Hsv.out b hb).2) O3.out hbs ?_ e9 Hgrow4.out Hat4.out
    rw [k1,k2]
    exact⟨(Hl1.out.same fun b hb=>(Olds.of_below Hb2.out).2 b (by
     obtain⟨b',e',_,q2⟩:=Hl1.out.at_
     rw [hb] at e'
     cases e'
     exact q2)).mono (by omega),Hl2.out.mono (by omega)⟩)
   have Hown9:Hid (w4.ownsRow w.heap.size 75 2 (.slice (some ⟨gg,0,none⟩) (k+1) cap2) (k+1) ((us++[(Value.slice (some ⟨g1,0,none⟩) n1 cp1,Value.slice (some ⟨g2,0,none⟩) n2 cp2)]).flatMap entCells)):=Lib.hid (by
    rw [List.flatMap_append]
    exact Hown4.out)
   go_wp2_with fail
   go_roundw
   case rel=>exact⟨k+1,_,_,_,by go_num,rfl,by omega,by rw [List.length_append,Hul.out];rfl,Hown9.out,Hst.out,Hb4.out⟩
   case measure=>simp [intOf];omega
  ·obtain rfl:k=n:=by omega
   have Hnew:=Lib.hid (heap_alloc_new wr (.cells #[encStr [111],encStr []] 80))
   go_wp2_with (at_builtin;refine wpList_append_lies _ rfl _ _ _ rfl w.heap.size 75 i0 _ 2 48 Tryz.underlying23 hi0 hz0 hz1 hz2 rfl (by decide) (.slice so k sc) k (us.flatMap entCells) rfl (ownsRow_olds Hown.out ((Olds.alloc _ _).trans (Olds.alloc _ _))) ⟨wr.heap.size+1,0,none⟩ 1 1 [.slice (some ⟨wr.heap.size,0,none⟩) 1 1,.slice none 0 0] rfl rfl (World.news_of_block (cs:=#[.slice (some ⟨wr.heap.size,0,none⟩) 1 1,.slice none 0 0]) (t:=75) (fr:=(0,0)) (by have h9:=heap_alloc_new (wr.alloc (.cells #[encStr [111],encStr []] 80)) (.cells #[.slice (some ⟨wr.heap.size,0,none⟩) 1 1,.slice none 0 0] 75);rw [World.size_alloc] at h9;exact h9)) (by simp [Value.oneCell']) Nat.one_pos (by unfold maxLen;omega) (by omega) (by simp;omega) (wr.heap.size+1+1) (by simp) ?_;intro gg cap2 w4 hown4 hgrow4 hat4 hlt4;have hcap1:=(own_some hown4 (by omega));have Hown4:=Lib.hid hown4;have Hgrow4:=Lib.hid hgrow4;have Hat4:=Lib.hid hat4;have hcap0:k≤cap2:=(by obtain⟨_,_,e,h⟩:=hcap1;simp only [Value.slice.injEq,true_and] at e;omega);clear hown4 hgrow4 hat4 hcap1)
   have hgg:gg≠wr.heap.size:=fun e=>by
    rcases Hat4.out with h | h
    ·have:=(Hsv.out gg h).2
     omega
    ·omega
   have Hm4:Hid (w4.heap[wr.heap.size]?=some (.cells #[encStr [111],encStr []] 80 (0,0))):=Lib.hid ((Hgrow4.out.block wr.heap.size (by simp;omega) (fun e=>by have:=(Hsv.out _ e.symm).2;omega)).trans ((Below.heap_alloc _ _ _ (by simp)).trans Hnew.out))
   have Hst:Hid (SersL w4 w.heap.size (some gg) us l):=Lib.hid (sers_old (sv:=Value.slice so k sc) (w3:=wr.alloc (.cells #[encStr [111],encStr []] 80)) Hents.out (Olds.alloc _ _) Hgrow4.out (Hat4.out.imp id (fun h=>by rw [h];simp)))
   have Hb4:Hid (Below w.heap.size w w4):=Lib.hid (((Hb.out.alloc hbs _).alloc (by simp;omega) _).grown Hgrow4.out (by simp;omega) (fun b hb=>(Hsv.out b hb).1))
   have Hle:Hid (LentV w4 w.heap.size (.slice (some ⟨gg,0,none⟩) k cap2) l):=Lib.hid ⟨gg,cap2,us,wr.heap.size,by rw [Hl.out],by rw [Hl.out];exact Hul.out,by rw [Hl.out];exact Hown4.out,Hst.out,Hm4.out,fun e=>hgg e.symm⟩
   go_ret
   exact⟨_,rfl,Hle.out,Hb4.out⟩
end Go.Proofs.YtbecggfbblnglaaGreatDoor
namespace Go.Proofs.YtbecggfbblnglaaGreatDoor
open Go Go.RowKit Go.Ix Go.Gor
theorem LentV.cells {W:World}{B:Nat}{v:Value}{l:List Ser}(h:LentV W B v l) :
  ∃g cap cur us gm,v=.slice (some ⟨g,0,none⟩) l.length cap∧us.length=l.length∧B≤g∧g<W.heap.size∧W.heap[g]?=some (.cells cur 75 (0,0))∧l.length+1≤cap∧cap≤maxLen∧cur.size=cap * 2∧CellsAt W g 0 (us.flatMap entCells++[.slice (some ⟨gm,0,none⟩) 1 1,.slice none 0 0])∧
   SersL W B (some g) us l∧W.heap[gm]?=some (.cells #[encStr [111],encStr []] 80 (0,0))∧gm≠g:=by
 obtain⟨g,cap,us,gm,rfl,h1,h2,h3,h4,h5⟩:=h
 have hc:=ownsRow_cell h2
 rcases h2.2 with ⟨e,_⟩|⟨g',cap',cur,e,k1,k2,k3,k4,k5,k6⟩
 ·cases e
 ·simp only [Value.slice.injEq,Option.some.injEq,Addr.mk.injEq,and_true,true_and] at e
  obtain⟨rfl,rfl⟩:=e
  exact⟨g,cap,cur,us,gm,rfl,h1,k1,(Array.getElem?_eq_some_iff.1 k2).1,k2,k3,k4,k5,hc,h3,h4,h5⟩
theorem LentV.rows {W:World}{B:Nat}{v:Value}{l:List Ser}(h:LentV W B v l):∃g cap,v=.slice (some ⟨g,0,none⟩) l.length cap∧RowsR W (some ⟨g,0,none⟩) l:=by
 obtain⟨g,cap,cur,us,gm,rfl,h1,h2,h3,h4,h5,h6,h7,h8,h9,h10,h11⟩:=h.cells
 refine⟨g,cap,rfl,fun _=>⟨g,0,rfl,fun k e he=>?_⟩⟩
 have hk:k<us.length:=by rw [h1];exact (List.getElem?_eq_some_iff.1 he).1
 have hu:us[k]?=some us[k]:=List.getElem?_eq_getElem hk
 obtain⟨a1,a2,_,_⟩:=h9 k _ e hu he
 have hc:CellsAt W g 0 (us.flatMap entCells):=fun j x hx=>h8 j x (by rw [List.getElem?_append_left (List.getElem?_eq_some_iff.1 hx).1];exact hx)
 have c0:=CellsAt.elem (enc:=entCells) (k:=2) hc (fun _=>rfl) hu (i:=0) rfl
 have c1:=CellsAt.elem (enc:=entCells) (k:=2) hc (fun _=>rfl) hu (i:=1) rfl
 obtain⟨o1,q1,e1,z1,f1⟩:=a1.flat
 obtain⟨o2,q2,e2,z2,f2⟩:=a2.flat
 have hcap:e.2.length≤q2:=by
  obtain⟨_,cp,_,e9,_,_,_,hc9,_⟩:=a2.cells
  rw [e2] at e9
  simp only [Value.slice.injEq,true_and] at e9
  omega
 refine⟨o1,_,q1,o2,_,q2,?_,?_,rfl,rfl,fun hne=>f1 (fun e=>hne ((flat_ne (k:=2) (fun _=>rfl) (by decide)).1 e)),fun hne=>f2 (fun e=>hne ((flat_ne (k:=2) (fun _=>rfl) (by decide)).1 e)),z1,z2,hcap⟩
 ·rw [← e1]
  exact c0
 ·rw [← e2]
  exact c1
theorem LentV.olds {W W':World}{B:Nat}{v:Value}{l:List Ser}(h:LentV W B v l) (hb:Olds W W'):LentV W' B v l:=by
 obtain⟨g,cap,us,gm,rfl,h1,h2,h3,h4,h5⟩:=h
 exact⟨g,cap,us,gm,rfl,h1,ownsRow_olds h2 hb,fun i u e hu he=>(h3 i u e hu he).same fun b _ hlt _=>hb.2 b hlt,(hb.2 _ (Array.getElem?_eq_some_iff.1 h4).1).trans h4,h5⟩
set_option maxRecDepth 20000 in
set_option maxHeartbeats 1000000 in
theorem whole_series {B:Nat}{v:Value}(o2:Option Addr) (n c2:Nat) (l:List Ser) (w:World) (hl:l.length=n) (hn:n≤60) (hs:∀e∈l,e.1.length≤20000∧e.2.length≤20000) (h:LentV w B v l) (h2:RowsR w o2 l):Calls Tryz.prog 7 #[v,.slice o2 n c2] w fun e w'=>e=.returned (.bool true)∧∃q,w'=w.drewN q:=by
 obtain⟨g,cap,cur,us,gm,rfl,hul,hB,hg,hh,hcap,hmax,hsz,hc,hents,hgm,hne⟩:=h.cells
 have m0:w.cell? ⟨g,n * 2,none⟩=some (.slice (some ⟨gm,0,none⟩) 1 1):=by
  have:=hc (n * 2) _ (by
   have e9:(us.flatMap entCells).length=n * 2:=by rw [flat_len (k:=2) (fun _=>rfl),hul,hl]
   rw [List.getElem?_append_right (by omega),e9,Nat.sub_self]
   rfl)
  rwa [Nat.zero_add] at this
 have g0:w.cell? ⟨gm,0,none⟩=some (encStr [111]):=by simp only [World.cell?,hgm];rfl
 have g1:w.cell? ⟨gm,1,none⟩=some (encStr []):=by simp only [World.cell?,hgm];rfl
 have hrow:=h.rows
 obtain⟨g',cap',e',hrow⟩:=hrow
 simp only [Value.slice.injEq,Option.some.injEq,Addr.mk.injEq,and_true,true_and] at e'
 obtain⟨rfl,rfl⟩:=e'
 have hc':CellsAt w g 0 (us.flatMap entCells):=fun j x hx=>hc j x (by rw [List.getElem?_append_left (List.getElem?_eq_some_iff.1 hx).1];exact hx)
 have HC:=Lib.hid hc'
 have HE:=Lib.hid hents
 have H2:=Lib.hid h2
 have Hs:=Lib.hid hs
 have Hul:=Lib.hid hul
 have Hl:=Lib.hid hl
 rw [hl] at hcap
 rw [hl]
 unfold maxLen at hmax
 clear h hc hc' hents hgm hrow h2 hs hul hh hsz hl
 go_enter Tryz.func7,Tryz.ntmps7
 go_wp2_with fail
 go_loopw [6] (fun i wr=>∃k q:Nat,k≤n∧i=.int .i64 k∧wr=w.drewN q) (fun i _=>n-(intOf i).toNat)
 case atStart=>exact⟨0,0,Nat.zero_le _,rfl,rfl⟩
 case round =>
  obtain⟨k,q,hk,rfl,rfl⟩:=hrel
  by_cases hlt:k<n
  ·obtain⟨b,off,e1,e2,o1,n1,c1,o3,n3,c3,rfl,hx,hc1,hc3,hl1,hl3,hr1,hr3,_⟩:=H2.out.at (k:=k) (by rw [Hl.out];exact hlt)
   obtain⟨u,hu⟩:∃u,us[k]?=some u:=⟨_,List.getElem?_eq_getElem (by rw [Hul.out,Hl.out];exact hlt)⟩
   obtain⟨a1,a2,_,_⟩:=HE.out k u _ hu hx
   obtain⟨hs1,hs2⟩:=Hs.out _ (List.mem_of_getElem? hx)
   have d0:w.cell? ⟨g,k * 2,none⟩=some u.1:=by
    have:=CellsAt.elem (enc:=entCells) (k:=2) HC.out (fun _=>rfl) hu (i:=0) rfl
    simpa using this
   have d1:w.cell? ⟨g,k * 2+1,none⟩=some u.2:=by
    have:=CellsAt.elem (enc:=entCells) (k:=2) HC.out (fun _=>rfl) hu (i:=1) rfl
    simpa using this
   simp only at a1 a2 hs1 hs2
   rw [hl1] at a1
   rw [hl3] at a2
   obtain⟨u1,u2⟩:=u
   simp only at a1 a2 d0 d1
   have HW1:Hid (∀W:World,W.heap=w.heap→Calls Tryz.prog 19 #[u1,.slice o1 n1 c1] W fun e w'=>e=.returned (.bool true)∧∃q,w'=W.drewN q):=Lib.hid (fun W hW=>whole_labels o1 n1 c1 e1 W hl1 (by omega) (a1.same fun b _=>by rw [hW]) (hr1.olds ⟨by rw [hW];exact Nat.le_refl _,fun k _=>by rw [hW]⟩))
   have HW2:Hid (∀W:World,W.heap=w.heap→Calls Tryz.prog 20 #[u2,.slice o3 n3 c3] W fun e w'=>e=.returned (.bool true)∧∃q,w'=W.drewN q):=Lib.hid (fun W hW=>whole_samples o3 n3 c3 e2 W hl3 (by omega) (a2.same fun b _=>by rw [hW]) (hr3.olds ⟨by rw [hW];exact Nat.le_refl _,fun k _=>by rw [hW]⟩))
   have HS:Hid (∀W:World,W.heap=w.heap→W.cell? ⟨g,k * 2,none⟩=some u1∧W.cell? ⟨g,k * 2+1,none⟩=some u2∧W.cell? ⟨b,off+k * 2,none⟩=some (.slice o1 n1 c1)∧W.cell? ⟨b,off+k * 2+1,none⟩=some (.slice o3 n3 c3)):=Lib.hid (fun W hW=>by
    have hc:∀a:Addr,W.cell? a=w.cell? a:=fun a=>World.cell?_of_block (by rw [hW])
    exact⟨(hc _).trans d0,(hc _).trans d1,(hc _).trans hc1,(hc _).trans hc3⟩)
   obtain⟨g1',cp1,_,rfl,_⟩:=a1.cells
   obtain⟨g2',cp2,_,rfl,_⟩:=a2.cells
   clear hx hc1 hc3 hl1 hl3 hr1 hr3 hu a1 a2 hs1 hs2
   go_upto_region 9 with fail
   go_region_held (fun W=>W.cell? ⟨g,k * 2,none⟩=some (.slice (some ⟨g1',0,none⟩) n1 cp1)∧W.cell? ⟨g,k * 2+1,none⟩=some (.slice (some ⟨g2',0,none⟩) n3 cp2)∧W.cell? ⟨b,off+k * 2,none⟩=some (.slice o1 n1 c1)∧W.cell? ⟨b,off+k * 2+1,none⟩=some (.slice o3 n3 c3)) (exact HS.out _ (by rfl))
    (first
     | (go_at_call 19;refine (HW1.out _ (by rfl)).mono ?_;rintro e w2 ⟨rfl,q2,rfl⟩)
     | (go_at_call 20;refine (HW2.out _ (by rfl)).mono ?_;rintro e w3 ⟨rfl,q3,rfl⟩))
   all_goals
    go_wp2_with fail
    go_roundw
    case rel=>exact⟨k+1,_,by omega,by go_num,by first | rfl | (simp only [World.drewN_drewN];rfl)⟩
    case measure=>simp [intOf];omega
  ·go_wp2_with fail
   go_ret
   exact⟨rfl,q,rfl⟩
end Go.Proofs.YtbecggfbblnglaaGreatDoor
namespace Go.Proofs.YtbecggfbblnglaaGreatDoor
open Go Go.RowKit Go.Ix
structure Only1 (g:Nat) (w w':World):Prop where
 os:w'.os=w.os
 tape:w'.tape=w.tape
 output:w'.output=w.output
 size:w'.heap.size=w.heap.size
 block:∀k,k≠g→w'.heap[k]?=w.heap[k]?
 cells:∀cur t fr,w.heap[g]?=some (.cells cur t fr)→∃cur',w'.heap[g]?=some (.cells cur' t fr)∧cur'.size=cur.size
theorem Only1.refl (g:Nat) (w:World):Only1 g w w:=⟨rfl,rfl,rfl,rfl,fun _ _=>rfl,fun cur _ _ h=>⟨cur,h,rfl⟩⟩
theorem Only1.setCell {g:Nat}{w w':World}(h:Only1 g w w') (i:Nat) (v:Value):Only1 g w (w'.setCell ⟨g,i,none⟩ v):=by
 refine⟨h.os,h.tape,h.output,by simp [World.setCell,h.size],fun k hk=>?_,fun cur t fr hc=>?_⟩
 ·rw [← h.block k hk]
  simp only [World.setCell,Array.getElem?_modify]
  rw [if_neg (by omega)]
 ·obtain⟨cur',h1,h2⟩:=h.cells cur t fr hc
  refine⟨cur'.setIfInBounds i v,?_,by simp [h2]⟩
  simp [World.setCell,Array.getElem?_modify,h1]
theorem room_cell {w:World}{g k e:Nat}{cur:Array Value}(h:w.heap[g]?=some (.cells cur e (0,0))) (hk:k<cur.size):(∃v,w.cell? ⟨g,k,none⟩=some v)∧w.frozen? ⟨g,k,none⟩=false:=by
 refine⟨⟨cur[k],?_⟩,?_⟩
 ·simp [World.cell?,h,hk]
 ·simp [World.frozen?,h]
structure Within (B S:Nat) (w w':World):Prop where
 os:w'.os=w.os
 tape:w'.tape=w.tape
 output:w'.output=w.output
 size:w'.heap.size=w.heap.size
 block:∀k,(k<B∨S≤k)→w'.heap[k]?=w.heap[k]?
 cells:∀(k:Nat) (cur:Array Value) (t:TypeId) (fr:Nat×Nat),w.heap[k]?=some (.cells cur t fr)→∃cur',w'.heap[k]?=some (.cells cur' t fr)∧cur'.size=cur.size
theorem Within.refl (B S:Nat) (w:World):Within B S w w:=⟨rfl,rfl,rfl,rfl,fun _ _=>rfl,fun _ cur _ _ h=>⟨cur,h,rfl⟩⟩
theorem Within.only1 {B S g:Nat}{w wr w2:World}(h:Within B S w wr) (ho:Only1 g wr w2) (h1:B≤g) (h2:g<S):Within B S w w2:=by
 refine⟨ho.os.trans h.os,ho.tape.trans h.tape,ho.output.trans h.output,ho.size.trans h.size,fun k hk=>(ho.block k (by omega)).trans (h.block k hk),fun k cur t fr hc=>?_⟩
 obtain⟨c1,q1,q2⟩:=h.cells k cur t fr hc
 by_cases hk:k=g
 ·subst hk
  obtain⟨c2,q3,q4⟩:=ho.cells c1 t fr q1
  exact⟨c2,q3,q4.trans q2⟩
 ·exact⟨c1,by rw [ho.block k hk];exact q1,q2⟩
theorem Within.setCell {B S g:Nat}{w wr:World}(h:Within B S w wr) (h1:B≤g) (h2:g<S) (i:Nat) (v:Value):Within B S w (wr.setCell ⟨g,i,none⟩ v):=h.only1 ((Only1.refl g wr).setCell i v) h1 h2
set_option maxRecDepth 20000 in
set_option maxHeartbeats 1000000 in
theorem spoil_labels {g n cap:Nat}{cur:Array Value}(w:World) (hh:w.heap[g]?=some (.cells cur 80 (0,0))) (h1:cap * 2≤cur.size) (h2:n≤cap) (h3:cap≤maxLen) :
  Calls Tryz.prog 21 #[.slice (some ⟨g,0,none⟩) n cap] w fun e w'=>e=.returned (.tuple #[])∧Only1 g w w':=by
 unfold maxLen at h3
 have Hh:=Lib.hid hh
 have H1:=Lib.hid h1
 clear hh h1
 go_enter Tryz.func21,Tryz.ntmps21
 go_wp2_with fail
 go_loopw [3] (fun i wr=>∃k:Nat,k≤cap∧i=.int .i64 k∧Only1 g w wr) (fun i _=>cap-(intOf i).toNat)
 case atStart=>exact⟨0,Nat.zero_le _,rfl,Only1.refl _ _⟩
 case round =>
  obtain⟨k,hk,rfl,ho⟩:=hrel
  have Ho:=Lib.hid ho
  clear ho
  by_cases hlt:k<cap
  ·obtain⟨cur',q1,q2⟩:=Ho.out.cells _ _ _ Hh.out
   have hb9:k * 2+2≤cur.size:=by have:=H1.out;omega
   obtain⟨⟨v0,hc0⟩,hf0⟩:=room_cell (k:=k * 2) q1 (by rw [q2];omega)
   obtain⟨⟨v1,hc1⟩,hf1⟩:=room_cell (k:=k * 2+1) q1 (by rw [q2];omega)
   clear q1 q2 hb9
   go_wp2_with fail
   go_roundw
   case rel=>exact⟨k+1,by omega,by go_num,(Ho.out.setCell _ _).setCell _ _⟩
   case measure=>simp [intOf];omega
  ·go_wp2_with fail
   go_end0
   exact⟨rfl,Ho.out⟩
end Go.Proofs.YtbecggfbblnglaaGreatDoor
namespace Go.Proofs.YtbecggfbblnglaaGreatDoor
open Go Go.RowKit Go.Ix Go.Gor
set_option maxRecDepth 20000 in
set_option maxHeartbeats 1000000 in
theorem spoil_samples {g n cap:Nat}{cur:Array Value}(w:World) (hh:w.heap[g]?=some (.cells cur 107 (0,0))) (h1:cap * 2≤cur.size) (h2:n≤cap) (h3:cap≤maxLen) :
  Calls Tryz.prog 22 #[.slice (some ⟨g,0,none⟩) n cap] w fun e w'=>e=.returned (.tuple #[])∧Only1 g w w':=by
 unfold maxLen at h3
 have Hh:=Lib.hid hh
 have H1:=Lib.hid h1
 clear hh h1
 go_enter Tryz.func22,Tryz.ntmps22
 go_wp2_with fail
 go_loopw [3] (fun i wr=>∃k:Nat,k≤cap∧i=.int .i64 k∧Only1 g w wr) (fun i _=>cap-(intOf i).toNat)
 case atStart=>exact⟨0,Nat.zero_le _,rfl,Only1.refl _ _⟩
 case round =>
  obtain⟨k,hk,rfl,ho⟩:=hrel
  have Ho:=Lib.hid ho
  clear ho
  by_cases hlt:k<cap
  ·obtain⟨cur',q1,q2⟩:=Ho.out.cells _ _ _ Hh.out
   have hb9:k * 2+2≤cur.size:=by have:=H1.out;omega
   obtain⟨⟨v0,hc0⟩,hf0⟩:=room_cell (k:=k * 2) q1 (by rw [q2];omega)
   obtain⟨⟨v1,hc1⟩,hf1⟩:=room_cell (k:=k * 2+1) q1 (by rw [q2];omega)
   clear q1 q2 hb9
   go_wp2_with fail
   go_roundw
   case rel=>exact⟨k+1,by omega,by go_num,(Ho.out.setCell _ _).setCell _ _⟩
   case measure=>simp [intOf];omega
  ·go_wp2_with fail
   go_end0
   exact⟨rfl,Ho.out⟩
set_option maxRecDepth 20000 in
set_option maxHeartbeats 1000000 in
theorem spoil_series {B:Nat}{v:Value}{l:List Ser}(w0 w:World) (h:LentV w0 B v l) (hold:Olds w0 w):Calls Tryz.prog 8 #[v] w fun e w'=>e=.returned (.tuple #[])∧Within B w0.heap.size w w':=by
 obtain⟨g,cap,cur,us,gm,rfl,hul,hB,hg,hh,hcap,hmax,hsz,hc,hents,hgm,hne⟩:=h.cells
 replace hh:=(hold.2 g hg).trans hh
 replace hc:=hc.olds hold
 have Hold:Hid (∀(b:Nat) (o:Obj),b<w0.heap.size→w0.heap[b]?=some o→w.heap[b]?=some o):=Lib.hid (fun b o hb ho=>(hold.2 b hb).trans ho)
 have hS:w0.heap.size≤w.heap.size:=hold.1
 unfold maxLen at hmax
 have hc':CellsAt w g 0 (us.flatMap entCells):=fun j x hx=>hc j x (by rw [List.getElem?_append_left (List.getElem?_eq_some_iff.1 hx).1];exact hx)
 have HC:=Lib.hid hc'
 have HE:=Lib.hid hents
 have Hh:=Lib.hid hh
 have Hul:=Lib.hid hul
 have Hsz:=Lib.hid hsz
 have Hl:Hid (∀k,k<l.length→∃e,l[k]?=some e):=Lib.hid (fun k hk=>⟨_,List.getElem?_eq_getElem hk⟩)
 clear h hold hc hc' hents hgm hh hul hsz
 generalize hSd:w0.heap.size=S at *
 have HSd:=Lib.hid hSd
 clear hSd
 generalize hn:l.length=n at *
 have Hn:=Lib.hid hn
 clear hn
 go_enter Tryz.func8,Tryz.ntmps8
 go_wp2_with fail
 go_loopw [2] (fun i wr=>∃k:Nat,k≤n∧i=.int .i64 k∧Within B S w wr∧wr.heap[g]?=w.heap[g]?) (fun i _=>n-(intOf i).toNat)
 case atStart=>exact⟨0,Nat.zero_le _,rfl,Within.refl _ _ _,rfl⟩
 case round =>
  obtain⟨k,hk,rfl,ho,hgw⟩:=hrel
  have Ho:=Lib.hid ho
  have Hg:=Lib.hid hgw
  clear ho hgw
  by_cases hlt:k<n
  ·obtain⟨u,hu⟩:∃u,us[k]?=some u:=⟨_,List.getElem?_eq_getElem (by rw [Hul.out];exact hlt)⟩
   obtain⟨e,he⟩:=Hl.out k hlt
   obtain⟨a1,a2,a3,a4⟩:=HE.out k u e hu he
   obtain⟨u1,u2⟩:=u
   simp only at a1 a2 a3 a4
   obtain⟨g1,cp1,cur1,rfl,q1,q2,q3,q4,q5,q6,_⟩:=a1.cells
   obtain⟨g2,cp2,cur2,rfl,r1,r2,r3,r4,r5,r6,_⟩:=a2.cells
   rw [HSd.out] at q2 r2
   replace q3:=Hold.out _ _ q2 q3
   replace r3:=Hold.out _ _ r2 r3
   have d0:wr.cell? ⟨g,k * 2,none⟩=some (.slice (some ⟨g1,0,none⟩) e.1.length cp1):=by
    have:=CellsAt.elem (enc:=entCells) (k:=2) HC.out (fun _=>rfl) hu (i:=0) rfl
    rw [Nat.zero_add,Nat.add_zero] at this
    rw [← this]
    exact World.cell?_of_block Hg.out
   have d1:w.cell? ⟨g,k * 2+1,none⟩=some (.slice (some ⟨g2,0,none⟩) e.2.length cp2):=by
    have:=CellsAt.elem (enc:=entCells) (k:=2) HC.out (fun _=>rfl) hu (i:=1) rfl
    rwa [Nat.zero_add] at this
   have D1:=Lib.hid d1
   have hn1:g≠g1:=fun e=>a3 (by rw [e];rfl)
   have hn2:g≠g2:=fun e=>a4 (by rw [e];rfl)
   obtain⟨cur1',s1,s2⟩:=Ho.out.cells g1 cur1 80 (0,0) q3
   have HS1:=Lib.hid (spoil_labels wr s1 (by rw [s2,q6];exact Nat.le_refl _) (show e.1.length≤cp1 by omega) q5)
   have HS2:Hid (∀W,Within B S w W→Calls Tryz.prog 22 #[.slice (some ⟨g2,0,none⟩) e.2.length cp2] W fun e w'=>e=.returned (.tuple #[])∧Only1 g2 W w'):=Lib.hid (fun W hW=>by
    obtain⟨cur2',t1,t2⟩:=hW.cells g2 cur2 107 (0,0) r3
    exact spoil_samples W t1 (by rw [t2,r6];exact Nat.le_refl _) (by omega) r5)
   clear hu he a1 a2 a3 a4 q3 q4 q5 q6 r3 r4 r5 r6 s1 s2 d1
   go_wp2_with (first
    | (go_at_call 21;refine HS1.out.mono ?_;clear HS1;rintro e w2 ⟨rfl,ho2⟩;have Ho2:=Lib.hid (Ho.out.only1 ho2 q1 q2);have Hg2:Hid (w2.heap[g]?=w.heap[g]?):=Lib.hid ((ho2.block g hn1).trans Hg.out);have d1:w2.cell? ⟨g,k * 2+1,none⟩=some (.slice (some ⟨g2,0,none⟩) e.2.length cp2):=(World.cell?_of_block Hg2.out).trans D1.out;clear ho2)
    | (go_at_call 22;refine (HS2.out _ Ho2.out).mono ?_;rintro e w3 ⟨rfl,ho3⟩;have Ho3:=Lib.hid (Ho2.out.only1 ho3 r1 r2);have Hg3:Hid (w3.heap[g]?=w.heap[g]?):=Lib.hid ((ho3.block g hn2).trans Hg2.out);clear ho3))
   go_roundw
   case rel=>exact⟨k+1,by omega,by go_num,Ho3.out,Hg3.out⟩
   case measure=>simp [intOf];omega
  ·have hncap:n≤cap:=by omega
   go_wp2_with fail
   go_loopw [4] (fun i wr2=>∃k:Nat,k≤cap∧i=.int .i64 k∧Within B S w wr2) (fun i _=>cap-(intOf i).toNat)
   case atStart=>exact⟨0,Nat.zero_le _,rfl,Ho.out⟩
   case round =>
    obtain⟨k2,hk2,rfl,ho2⟩:=hrel
    have Ho2:=Lib.hid ho2
    clear ho2
    by_cases hlt2:k2<cap
    ·obtain⟨cur',q1,q2⟩:=Ho2.out.cells g cur 75 (0,0) Hh.out
     obtain⟨⟨v0,hc0⟩,hf0⟩:=room_cell (k:=k2 * 2) q1 (by rw [q2,Hsz.out];omega)
     obtain⟨⟨v1,hc1⟩,hf1⟩:=room_cell (k:=k2 * 2+1) q1 (by rw [q2,Hsz.out];omega)
     clear q1 q2
     go_wp2_with fail
     go_roundw
     case rel=>exact⟨k2+1,by omega,by go_num,(Ho2.out.setCell hB hg _ _).setCell hB hg _ _⟩
     case measure=>simp [intOf];omega
    ·go_wp2_with fail
     go_end0
     exact⟨rfl,Ho2.out⟩
end Go.Proofs.YtbecggfbblnglaaGreatDoor
