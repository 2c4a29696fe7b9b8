/- Contracts over this program. Their conditions: the slices read as the lists that are named, and lie within the sizes that are named. -/
import Derived.Test.YtejeflddeanccaaGreatDoorT10
import Derived.Deep.RegionHeld
import Derived.Test.YtejeflddeanccaaGreatDoorT4
set_option linter.unusedSimpArgs false
set_option linter.unusedVariables false
set_option linter.deprecated false
set_option linter.unnecessarySimpa false
namespace Go.Proofs.YtejeflddeanccaaGreatDoor
open Go Go.RowKit Go.Ix Go.Tm
theorem LentT.cells {W:World}{B:Nat}{v:Value}{l:List Tomb}(h:LentT W B v l) :
  ∃g cap cur us,v=.slice (some ⟨g,0,none⟩) l.length cap∧us.length=l.length∧B≤g∧g<W.heap.size∧W.heap[g]?=some (.cells cur 43 (0,0))∧l.length+1≤cap∧cap≤maxLen∧cur.size=cap * 3∧CellsAt W g 0 (us.flatMap tmCells++lastT)∧TmsL W B (some g) us l:=by
 obtain⟨g,cap,us,rfl,h1,h2,h3⟩:=h
 have hc:=ownsRow_cell h2
 rcases h2.2 with ⟨e,_⟩|⟨g',cap',cur,e,k1,k2,k3,k4,k5,k6⟩
 ·cases e
 ·simp only [Value.slice.injEq,Option.some.injEq,Addr.mk.injEq,and_true,true_and] at e
  obtain⟨rfl,rfl⟩:=e
  exact⟨g,cap,cur,us,rfl,h1,k1,(Array.getElem?_eq_some_iff.1 k2).1,k2,k3,k4,k5,hc,h3⟩
theorem LentT.rows {W:World}{B:Nat}{v:Value}{l:List Tomb}(h:LentT W B v l):∃g cap,v=.slice (some ⟨g,0,none⟩) l.length cap∧RowsT W (some ⟨g,0,none⟩) l:=by
 obtain⟨g,cap,cur,us,rfl,h1,h2,h3,h4,h5,h6,h7,h8,h9⟩:=h.cells
 refine⟨g,cap,rfl,rowsT_of h1 (fun j x hx=>h8 j x (by rw [List.getElem?_append_left (List.getElem?_eq_some_iff.1 hx).1];exact hx)) fun i u t hu ht=>?_⟩
 obtain⟨a1,_,a3⟩:=h9 i u t hu ht
 obtain⟨o1,q1,e1,z1,f1⟩:=a1.flat
 exact⟨a3,o1,q1,e1,z1,fun hne=>f1 (fun e=>hne ((flat_ne (k:=2) (fun _=>rfl) (by decide)).1 e))⟩
theorem LentT.olds {W W':World}{B:Nat}{v:Value}{l:List Tomb}(h:LentT W B v l) (hb:Olds W W'):LentT W' B v l:=by
 obtain⟨g,cap,us,rfl,h1,h2,h3⟩:=h
 exact⟨g,cap,us,rfl,h1,ownsRow_olds h2 hb,fun i u e hu he=>(h3 i u e hu he).same fun b _ hlt _=>hb.2 b hlt⟩
set_option maxRecDepth 20000 in
set_option maxHeartbeats 1000000 in
theorem whole_tombs {B:Nat}{v:Value}(o2:Option Addr) (n c2:Nat) (l:List Tomb) (w:World) (hl:l.length=n) (hn:n≤200) (hs:SmallT l) (h:LentT w B v l) (h2:RowsT w o2 l):Calls Tryz.prog 7 #[v,.slice o2 n c2] w fun e w'=>e=.returned (.bool true)∧∃q,w'=w.drewN q:=by
 obtain⟨g,cap,cur,us,rfl,hul,hB,hg,hh,hcap,hmax,hsz,hc,hents⟩:=h.cells
 have hm:∀j u,lastT[j]?=some u→w.cell? ⟨g,l.length * 3+j,none⟩=some u:=fun j u hu=>by
  have:=hc (l.length * 3+j) u (by
   have e9:(us.flatMap tmCells).length=l.length * 3:=by rw [flat_len (k:=3) (fun _=>rfl),hul]
   rw [List.getElem?_append_right (by omega),e9,Nat.add_sub_cancel_left]
   exact hu)
  rwa [Nat.zero_add] at this
 have m1:w.cell? ⟨g,l.length * 3+1,none⟩=some (.int .i64 (-77)):=hm 1 _ rfl
 have m2:w.cell? ⟨g,l.length * 3+2,none⟩=some (.int .i64 0):=hm 2 _ rfl
 have hc':CellsAt w g 0 (us.flatMap tmCells):=fun j x hx=>hc j x (by rw [List.getElem?_append_left (List.getElem?_eq_some_iff.1 hx).1];exact hx)
 have HC:=Lib.hid hc'
 have HE:=Lib.hid hents
 have H2:=Lib.hid h2
 have Hs:=Lib.hid hs
 have Hul:=Lib.hid hul
 have Hl:=Lib.hid hl
 rw [hl] at hcap m1 m2
 rw [hl]
 unfold maxLen at hmax
 clear h hc hc' hents h2 hs hul hh hsz hl hm
 go_enter Tryz.func7,Tryz.ntmps7
 go_wp2_with fail
 go_loopw [6] (fun i wr=>∃k q:Nat,k≤n∧i=.int .i64 k∧wr=w.drewN q) (fun i _=>n-(intOf i).toNat)
 case atStart=>exact⟨0,0,Nat.zero_le _,rfl,rfl⟩
 case round =>
  obtain⟨k,q,hk,rfl,rfl⟩:=hrel
  by_cases hlt:k<n
  ·obtain⟨b,off,t1,t2,t3,o1,n1,c1,rfl,hx,hc1,hc2,hc3,hl1,hr1,_⟩:=H2.out.at (k:=k) (by rw [Hl.out];exact hlt)
   obtain⟨u,hu⟩:∃u,us[k]?=some u:=⟨_,List.getElem?_eq_getElem (by rw [Hul.out,Hl.out];exact hlt)⟩
   obtain⟨a1,_,a3⟩:=HE.out k u _ hu hx
   obtain⟨hs1,_⟩:=Hs.out _ (List.mem_of_getElem? hx)
   have d0:w.cell? ⟨g,k * 3,none⟩=some u.1:=by
    have:=CellsAt.elem (enc:=tmCells) (k:=3) HC.out (fun _=>rfl) hu (i:=0) rfl
    simpa using this
   have d1:w.cell? ⟨g,k * 3+1,none⟩=some (.int .i64 u.2.1):=by
    have:=CellsAt.elem (enc:=tmCells) (k:=3) HC.out (fun _=>rfl) hu (i:=1) rfl
    simpa using this
   have d2:w.cell? ⟨g,k * 3+2,none⟩=some (.int .i64 u.2.2):=by
    have:=CellsAt.elem (enc:=tmCells) (k:=3) HC.out (fun _=>rfl) hu (i:=2) rfl
    simpa using this
   simp only at a1 a3 hs1
   rw [a3] at d1 d2
   rw [hl1] at a1
   obtain⟨x1v,x2v,x3v⟩:=u
   simp only at a1 d0 d1 d2
   have HW1:Hid (∀W:World,W.heap=w.heap→Calls Tryz.prog 22 #[x1v,.slice o1 n1 c1] W fun e w'=>e=.returned (.bool true)∧∃q,w'=W.drewN q):=Lib.hid (fun W hW=>whole_labels o1 n1 c1 t1 W hl1 (by omega) (a1.same fun b _=>by rw [hW]) (hr1.olds ⟨by rw [hW];exact Nat.le_refl _,fun k _=>by rw [hW]⟩))
   have HS:Hid (∀W:World,W.heap=w.heap→W.cell? ⟨g,k * 3,none⟩=some x1v∧W.cell? ⟨g,k * 3+1,none⟩=some (.int .i64 t2)∧W.cell? ⟨g,k * 3+2,none⟩=some (.int .i64 t3)∧W.cell? ⟨b,off+k * 3,none⟩=some (.slice o1 n1 c1)∧W.cell? ⟨b,off+k * 3+1,none⟩=some (.int .i64 t2)∧W.cell? ⟨b,off+k * 3+2,none⟩=some (.int .i64 t3)):=Lib.hid (fun W hW=>by
    have hc:∀a:Addr,W.cell? a=w.cell? a:=fun a=>World.cell?_of_block (by rw [hW])
    exact⟨(hc _).trans d0,(hc _).trans d1,(hc _).trans d2,(hc _).trans hc1,(hc _).trans hc2,(hc _).trans hc3⟩)
   obtain⟨g1',cp1,_,rfl,_⟩:=a1.cells
   clear hx hc1 hc2 hc3 hl1 hr1 hu a1 a3 hs1 d0 d1 d2
   go_upto_region 9 with fail
   go_region_held (fun W=>W.cell? ⟨g,k * 3,none⟩=some (.slice (some ⟨g1',0,none⟩) n1 cp1)∧W.cell? ⟨g,k * 3+1,none⟩=some (.int .i64 t2)∧W.cell? ⟨g,k * 3+2,none⟩=some (.int .i64 t3)∧W.cell? ⟨b,off+k * 3,none⟩=some (.slice o1 n1 c1)∧W.cell? ⟨b,off+k * 3+1,none⟩=some (.int .i64 t2)∧W.cell? ⟨b,off+k * 3+2,none⟩=some (.int .i64 t3)) (exact HS.out _ (by rfl))
    (first | (go_at_call 22;refine (HW1.out _ (by rfl)).mono ?_;rintro e w2 ⟨rfl,q2,rfl⟩))
   all_goals
    go_wp2_with fail
    go_roundw
    case rel=>exact⟨k+1,_,by omega,by go_num,by first | rfl | (simp only [World.drewN_drewN];rfl)⟩
    case measure=>simp [intOf];omega
  ·go_wp2_with fail
   go_ret
   exact⟨rfl,q,rfl⟩
end Go.Proofs.YtejeflddeanccaaGreatDoor
namespace Go.Proofs.YtejeflddeanccaaGreatDoor
open Go Go.RowKit Go.Ix Go.Tm
set_option maxRecDepth 20000 in
set_option maxHeartbeats 1000000 in
theorem spoil_tombs {B:Nat}{v:Value}{l:List Tomb}(w0 w:World) (h:LentT w0 B v l) (hold:Olds w0 w):Calls Tryz.prog 8 #[v] w fun e w'=>e=.returned (.tuple #[])∧Within B w0.heap.size w w':=by
 obtain⟨g,cap,cur,us,rfl,hul,hB,hg,hh,hcap,hmax,hsz,hc,hents⟩:=h.cells
 replace hh:=(hold.2 g hg).trans hh
 replace hc:=hc.olds hold
 have Hold:Hid (∀(b:Nat) (o:Obj),b<w0.heap.size→w0.heap[b]?=some o→w.heap[b]?=some o):=Lib.hid (fun b o hb ho=>(hold.2 b hb).trans ho)
 have hS:w0.heap.size≤w.heap.size:=hold.1
 unfold maxLen at hmax
 have hc':CellsAt w g 0 (us.flatMap tmCells):=fun j x hx=>hc j x (by rw [List.getElem?_append_left (List.getElem?_eq_some_iff.1 hx).1];exact hx)
 have HC:=Lib.hid hc'
 have HE:=Lib.hid hents
 have Hh:=Lib.hid hh
 have Hul:=Lib.hid hul
 have Hsz:=Lib.hid hsz
 have Hl:Hid (∀k,k<l.length→∃e,l[k]?=some e):=Lib.hid (fun k hk=>⟨_,List.getElem?_eq_getElem hk⟩)
 clear h hold hc hc' hents hh hul hsz
 generalize hSd:w0.heap.size=S at *
 have HSd:=Lib.hid hSd
 clear hSd
 generalize hn:l.length=n at *
 have Hn:=Lib.hid hn
 clear hn
 go_enter Tryz.func8,Tryz.ntmps8
 go_wp2_with fail
 go_loopw [2] (fun i wr=>∃k:Nat,k≤n∧i=.int .i64 k∧Within B S w wr∧wr.heap[g]?=w.heap[g]?) (fun i _=>n-(intOf i).toNat)
 case atStart=>exact⟨0,Nat.zero_le _,rfl,Within.refl _ _ _,rfl⟩
 case round =>
  obtain⟨k,hk,rfl,ho,hgw⟩:=hrel
  have Ho:=Lib.hid ho
  have Hg:=Lib.hid hgw
  clear ho hgw
  by_cases hlt:k<n
  ·obtain⟨u,hu⟩:∃u,us[k]?=some u:=⟨_,List.getElem?_eq_getElem (by rw [Hul.out];exact hlt)⟩
   obtain⟨e,he⟩:=Hl.out k hlt
   obtain⟨a1,a3,_⟩:=HE.out k u e hu he
   obtain⟨x1v,x2v,x3v⟩:=u
   simp only at a1 a3
   obtain⟨g1,cp1,cur1,rfl,q1,q2,q3,q4,q5,q6,_⟩:=a1.cells
   rw [HSd.out] at q2
   replace q3:=Hold.out _ _ q2 q3
   have d0:wr.cell? ⟨g,k * 3,none⟩=some (.slice (some ⟨g1,0,none⟩) e.1.length cp1):=by
    have:=CellsAt.elem (enc:=tmCells) (k:=3) HC.out (fun _=>rfl) hu (i:=0) rfl
    rw [Nat.zero_add,Nat.add_zero] at this
    rw [← this]
    exact World.cell?_of_block Hg.out
   have hn1:g≠g1:=fun e=>a3 (by rw [e];rfl)
   obtain⟨cur1',s1,s2⟩:=Ho.out.cells g1 cur1 64 (0,0) q3
   have HS1:=Lib.hid (spoil_labels wr s1 (by rw [s2,q6];exact Nat.le_refl _) (show e.1.length≤cp1 by omega) q5)
   clear hu he a1 a3 q3 q4 q5 q6 s1 s2
   generalize e.1.length=n1 at *
   go_wp2_with (go_at_call 23;refine HS1.out.mono ?_;clear HS1;rintro e w2 ⟨rfl,ho2⟩;have Ho2:=Lib.hid (Ho.out.only1 ho2 q1 q2);have Hg2:Hid (w2.heap[g]?=w.heap[g]?):=Lib.hid ((ho2.block g hn1).trans Hg.out);clear ho2)
   go_roundw
   case rel=>exact⟨k+1,by omega,by go_num,Ho2.out,Hg2.out⟩
   case measure=>simp [intOf];omega
  ·have hncap:n≤cap:=by omega
   go_wp2_with fail
   go_loopw [4] (fun i wr2=>∃k:Nat,k≤cap∧i=.int .i64 k∧Within B S w wr2) (fun i _=>cap-(intOf i).toNat)
   case atStart=>exact⟨0,Nat.zero_le _,rfl,Ho.out⟩
   case round =>
    obtain⟨k2,hk2,rfl,ho2⟩:=hrel
    have Ho2:=Lib.hid ho2
    clear ho2
    by_cases hlt2:k2<cap
    ·obtain⟨cur',q1,q2⟩:=Ho2.out.cells g cur 43 (0,0) Hh.out
     obtain⟨⟨v0,hc0⟩,hf0⟩:=room_cell (k:=k2 * 3) q1 (by rw [q2,Hsz.out];omega)
     obtain⟨⟨v1,hc1⟩,hf1⟩:=room_cell (k:=k2 * 3+1) q1 (by rw [q2,Hsz.out];omega)
     obtain⟨⟨v2,hc2⟩,hf2⟩:=room_cell (k:=k2 * 3+2) q1 (by rw [q2,Hsz.out];omega)
     clear q1 q2
     go_wp2_with fail
     go_roundw
     case rel=>exact⟨k2+1,by omega,by go_num,((Ho2.out.setCell hB hg _ _).setCell hB hg _ _).setCell hB hg _ _⟩
     case measure=>simp [intOf];omega
    ·go_wp2_with fail
     go_end0
     exact⟨rfl,Ho2.out⟩
end Go.Proofs.YtejeflddeanccaaGreatDoor
namespace Go.Proofs.YtejeflddeanccaaGreatDoor
open Go Go.RowKit Go.Ix Go.Tm
def Row8F (w:World) (o:Option Addr) (bs:List Nat):Prop:=bs≠[]→∃b off,o=some ⟨b,off,none⟩∧CellsAt w b off (octs bs)
theorem Row8F.at {w:World}{o:Option Addr}{bs:List Nat}(h:Row8F w o bs) {k:Nat}(hk:k<bs.length):∃b off x,o=some ⟨b,off,none⟩∧bs[k]?=some x∧w.cell? ⟨b,off+k,none⟩=some (.int .u8 (x:Nat)):=by
 obtain⟨b,off,rfl,hc⟩:=h (fun e=>by rw [e] at hk;simp at hk)
 exact⟨b,off,bs[k],rfl,List.getElem?_eq_getElem hk,hc k _ (by unfold octs;rw [List.getElem?_map,List.getElem?_eq_getElem hk];rfl)⟩
theorem Row8F.olds {w W:World}{o:Option Addr}{bs:List Nat}(h:Row8F w o bs) (hb:Olds w W):Row8F W o bs:=fun hne=>by
 obtain⟨b,off,e,hc⟩:=h hne
 exact⟨b,off,e,hc.olds hb⟩
theorem row8F_of {w:World}{v:Value}{bs:List Nat}(h:BytesAt w v bs):∃o c,v=.slice o bs.length c∧Row8F w o bs:=by
 obtain⟨o,c,rfl,h1,h2⟩:=h
 refine⟨o,c,rfl,fun hne=>h2 (fun e=>hne ?_)⟩
 unfold octs at e
 exact List.map_eq_nil_iff.1 e
set_option maxRecDepth 20000 in
set_option maxHeartbeats 1000000 in
theorem same_bytes (o1 o2:Option Addr) (n c1 c2:Nat) (bs:List Nat) (w:World) (hl:bs.length=n) (hn:n≤140737488355328) (h1:Row8F w o1 bs) (h2:Row8F w o2 bs):Calls Tryz.prog 13 #[.slice o1 n c1,.slice o2 n c2] w fun e w'=>e=.returned (.bool true)∧∃q,w'=w.drewN q:=by
 have H1:=Lib.hid h1
 have H2:=Lib.hid h2
 have Hl:=Lib.hid hl
 clear h1 h2 hl
 go_enter Tryz.func13,Tryz.ntmps13
 go_wp2_with fail
 go_loopw [5] (fun iv wr=>∃k q:Nat,k≤n∧iv=.int .i64 k∧wr=w.drewN q) (fun iv _=>n-(intOf iv).toNat)
 case atStart=>exact⟨0,0,Nat.zero_le _,rfl,rfl⟩
 case round =>
  obtain⟨k,q,hk,rfl,rfl⟩:=hrel
  by_cases hlt:k<n
  ·obtain⟨b1,off1,x1,rfl,hx,ha1⟩:=H1.out.at (k:=k) (by rw [Hl.out];exact hlt)
   obtain⟨b2,off2,y1,rfl,hy,hb1⟩:=H2.out.at (k:=k) (by rw [Hl.out];exact hlt)
   rw [hx] at hy
   cases hy
   clear hx
   skip
   go_wp2_with fail
   go_region
   go_wp2_with fail
   go_roundw
   case rel=>exact⟨k+1,q+1,by omega,by go_num,rfl⟩
   case measure=>simp [intOf];omega
  ·go_wp2_with fail
   go_ret
   exact⟨rfl,q,rfl⟩
set_option maxRecDepth 20000 in
set_option maxHeartbeats 1000000 in
theorem same_tombs (o1 o2:Option Addr) (n c1 c2:Nat) (l:List Tomb) (w:World) (hl:l.length=n) (hn:n≤65535) (hs:SmallT l) (h1:RowsT w o1 l) (h2:RowsT w o2 l):Calls Tryz.prog 14 #[.slice o1 n c1,.slice o2 n c2] w fun e w'=>e=.returned (.bool true)∧∃q,w'=w.drewN q:=by
 have H1:=Lib.hid h1
 have H2:=Lib.hid h2
 have Hs:=Lib.hid hs
 have Hl:=Lib.hid hl
 clear h1 h2 hs hl
 go_enter Tryz.func14,Tryz.ntmps14
 go_wp2_with fail
 go_loopw [5] (fun i wr=>∃k q:Nat,k≤n∧i=.int .i64 k∧wr=w.drewN q) (fun i _=>n-(intOf i).toNat)
 case atStart=>exact⟨0,0,Nat.zero_le _,rfl,rfl⟩
 case round =>
  obtain⟨k,q,hk,rfl,rfl⟩:=hrel
  by_cases hlt:k<n
  ·obtain⟨b,off,t1,t2,t3,o3,n3,c3,rfl,hx,hc1,hc2,hc3,hl1,hr1,_⟩:=H1.out.at (k:=k) (by rw [Hl.out];exact hlt)
   obtain⟨b',off',u1,u2,u3,o4,n4,c4,rfl,hy,hd1,hd2,hd3,hl2,hr2,_⟩:=H2.out.at (k:=k) (by rw [Hl.out];exact hlt)
   rw [hx] at hy
   simp only [Option.some.injEq,Prod.mk.injEq] at hy
   obtain⟨rfl,rfl,rfl⟩:=hy
   obtain rfl:n3=n4:=by rw [← hl1,← hl2]
   obtain⟨hs1,_⟩:=Hs.out _ (List.mem_of_getElem? hx)
   simp only at hs1
   have HW1:Hid (∀W:World,W.heap=w.heap→Calls Tryz.prog 37 #[.slice o3 n3 c3,.slice o4 n3 c4] W fun e w'=>e=.returned (.bool true)∧∃q,w'=W.drewN q):=Lib.hid (fun W hW=>same_labels o3 o4 n3 c3 c4 t1 W hl1 (by omega) (hr1.olds ⟨by rw [hW];exact Nat.le_refl _,fun k _=>by rw [hW]⟩) (hr2.olds ⟨by rw [hW];exact Nat.le_refl _,fun k _=>by rw [hW]⟩))
   have HS:Hid (∀W:World,W.heap=w.heap→W.cell? ⟨b,off+k * 3,none⟩=some (.slice o3 n3 c3)∧W.cell? ⟨b,off+k * 3+1,none⟩=some (.int .i64 t2)∧W.cell? ⟨b,off+k * 3+2,none⟩=some (.int .i64 t3)∧W.cell? ⟨b',off'+k * 3,none⟩=some (.slice o4 n3 c4)∧W.cell? ⟨b',off'+k * 3+1,none⟩=some (.int .i64 t2)∧W.cell? ⟨b',off'+k * 3+2,none⟩=some (.int .i64 t3)):=Lib.hid (fun W hW=>by
    have hc:∀a:Addr,W.cell? a=w.cell? a:=fun a=>World.cell?_of_block (by rw [hW])
    exact⟨(hc _).trans hc1,(hc _).trans hc2,(hc _).trans hc3,(hc _).trans hd1,(hc _).trans hd2,(hc _).trans hd3⟩)
   clear hx hc1 hc2 hc3 hl1 hr1 hs1 hd1 hd2 hd3 hl2 hr2
   go_upto_region 6 with fail
   go_region_held (fun W=>W.cell? ⟨b,off+k * 3,none⟩=some (.slice o3 n3 c3)∧W.cell? ⟨b,off+k * 3+1,none⟩=some (.int .i64 t2)∧W.cell? ⟨b,off+k * 3+2,none⟩=some (.int .i64 t3)∧W.cell? ⟨b',off'+k * 3,none⟩=some (.slice o4 n3 c4)∧W.cell? ⟨b',off'+k * 3+1,none⟩=some (.int .i64 t2)∧W.cell? ⟨b',off'+k * 3+2,none⟩=some (.int .i64 t3)) (exact HS.out _ (by rfl))
    (first | (go_at_call 37;refine (HW1.out _ (by rfl)).mono ?_;rintro e w2 ⟨rfl,q2,rfl⟩))
   all_goals
    go_wp2_with fail
    go_roundw
    case rel=>exact⟨k+1,_,by omega,by go_num,by first | rfl | (simp only [World.drewN_drewN];rfl)⟩
    case measure=>simp [intOf];omega
  ·go_wp2_with fail
   go_ret
   exact⟨rfl,q,rfl⟩
end Go.Proofs.YtejeflddeanccaaGreatDoor
namespace Go.Proofs.YtejeflddeanccaaGreatDoor
open Go Go.RowKit Go.Ix Go.Tm
def OpenEnd (w:World) (bs:List Nat) (e:Ending) (w':World):Prop :=
 Below w.heap.size w w'∧((opened bs=none∧e=.returned (.tuple #[.slice none 0 0,.int .u16 150]))∨
  ∃l u,opened bs=some l∧e=.returned (.tuple #[u,.int .u16 0])∧OwnsT w' w.heap.size u l∧l.length≤65535∧SmallT l)
theorem smallT_snoc {l:List Tomb}{t:Tomb}(h:SmallT l) (h1:t.1.length≤255) (h2:∀y∈t.1,y.1.length<65536∧y.2.length<65536):SmallT (l++[t]):=fun x hx=>by
 rcases List.mem_append.1 hx with hx | hx
 ·exact h x hx
 ·rw [List.mem_singleton.1 hx]
  exact⟨by omega,fun y hy=>by have:=h2 y hy;omega⟩
theorem back2_lt {bs:List Nat}(h8:∀x∈bs,x<256):back (bs.take 2)<65536:=by
 refine Nat.lt_of_lt_of_le (back_lt _ fun x hx=>h8 x (List.mem_of_mem_take hx)) ?_
 have:(256:Nat) ^ (bs.take 2).length≤256 ^ 2:=Nat.pow_le_pow_right (by decide) (by rw [List.length_take];omega)
 exact this
theorem back8_lt {bs:List Nat}(h8:∀x∈bs,x<256):back (bs.take 8)<18446744073709551616:=by
 refine Nat.lt_of_lt_of_le (back_lt _ fun x hx=>h8 x (List.mem_of_mem_take hx)) ?_
 have:(256:Nat) ^ (bs.take 8).length≤256 ^ 8:=Nat.pow_le_pow_right (by decide) (by rw [List.length_take];omega)
 exact this
set_option maxRecDepth 20000 in
set_option maxHeartbeats 2000000 in
theorem bopen_any (hH:HalfOk) {w:World}{v:Value}{bs:List Nat}(hw8:10≤w.heap.size) (hg:ErrG w) (hv:∃o c,v=.slice o bs.length c) (h:6≤bs.length→BySl w v bs) (h8:∀x∈bs,x<256) (hl:bs.length≤1000000):Calls Tryz.prog 10 #[v] w (OpenEnd w bs):=by
 obtain⟨j0,hj0,hy0,hy1,hy2⟩:=info_parts Tryz.info43
 by_cases h6:bs.length<6
 ·obtain⟨o,c,rfl⟩:=hv
  have Hr:=Lib.hid (opened_short h6)
  clear h
  generalize bs.length=m at *
  go_enter Tryz.func10,Tryz.ntmps10
  go_wp2_with fail
  go_ret2
  exact⟨Below.refl _ _,.inl ⟨Hr.out,rfl⟩⟩
 ·have hby:=h (by omega)
  have HBy:=Lib.hid hby
  have H8:=Lib.hid h8
  have H6:=Lib.hid h6
  obtain⟨b,off,c,rfl,hc,hm,hcs⟩:=hby
  obtain⟨f1,hf1,hc1⟩:=cut_atZ b off bs.length c 2 (bs.length-4) 2 ((bs.length:Int)-4) (by omega) (by omega) (by omega) (by omega)
  have hc2:=cut_toZ b off bs.length c 2 2 (by omega) (by omega)
  have hin:inner bs=(bs.take (bs.length-4)).drop 2:=rfl
  have hR:=cut_by (j:=bs.length-4) (i:=2) (m:=bs.length-4-2) hcs hc hm (by omega) (by omega) hf1 rfl
  rw [← hin] at hR
  have hA:=cut_by (j:=2) (i:=0) (f:=off) (m:=2) hcs hc hm (by omega) (by omega) (fun _=>rfl) rfl
  rw [List.drop_zero,Nat.sub_zero] at hA
  have HG:=Lib.hid (bget_any (Olds.refl w) hA (fun x hx=>h8 x (List.mem_of_mem_take hx)) (by rw [List.length_take];omega))
  have hn0:=back2_lt h8
  have HR:=Lib.hid hR
  have hil:(inner bs).length=bs.length-6:=by rw [hin,List.length_drop,List.length_take];omega
  have HI8:Hid (∀x∈inner bs,x<256):=Lib.hid (fun x hx=>h8 x (List.mem_of_mem_take (List.mem_of_mem_drop hx)))
  have HG0:=Lib.hid hg
  unfold maxLen at hm
  clear hcs hR hA hf1 hv h h8 hin hg
  generalize hn0e:back (bs.take 2)=n0 at *
  have Hn0:=Lib.hid hn0e
  generalize hie:inner bs=ib at *
  have Hib:=Lib.hid hie
  generalize hN:bs.length=m at *
  have HN:=Lib.hid hN
  have Hil:=Lib.hid hil
  clear hn0e hie hN hil
  have hm6:decide ((m:Int)<6)=false:=by simp;omega
  have hms:IntKind.i64.wrap ((m:Int)-4)=(m:Int)-4:=by rw [IntKind.wrap_i64];omega
  go_enter Tryz.func10,Tryz.ntmps10
  go_wp2_with (go_at_call 27;refine HG.out.mono ?_;clear HG;rintro e w1 ⟨rfl,hw1⟩;rw [hw1];clear hw1 w1)
  go_loopw [4,5,22] (fun lv rv iv wr=>∃(k j:Nat) (l:List Tomb),k≤n0∧iv=.int .u64 (k:Nat)∧l.length=k∧OwnsT wr w.heap.size lv l∧BySl w rv (ib.drop j)∧j≤ib.length∧takeTs n0 ib=takeTA l (n0-k) (ib.drop j)∧SmallT l∧Below w.heap.size w wr) (fun _ _ iv _=>n0-(intOf iv).toNat)
  case atStart=>exact⟨0,0,[],Nat.zero_le _,rfl,rfl,⟨[],rfl,World.ownsRow_nil _ _ _ _,fun i u t h=>by simp at h⟩,HR.out,Nat.zero_le _,by rw [takeTA_nil];rfl,fun t h=>by simp at h,Below.refl _ _⟩
  case round =>
   obtain⟨k,j,l,hk,rfl,hlk,hown,hby,hj,htk,hsm,hb⟩:=hrel
   have Hown:=Lib.hid hown
   have Hby:=Lib.hid hby
   have Htk:=Lib.hid htk
   have Hsm:=Lib.hid hsm
   have Hb:=Lib.hid hb
   have Hlk:=Lib.hid hlk
   have hsz:=hb.size
   clear hown hby htk hsm hb hlk
   by_cases hlt:k<n0
   ·have how:=Olds.of_below Hb.out
    have hd8:∀i,∀x∈ib.drop i,x<256:=fun i x hx=>HI8.out x (List.mem_of_mem_drop hx)
    have hdl:(ib.drop j).length=m-6-j:=by rw [List.length_drop,Hil.out]
    have HD:=Lib.hid (pdec_any (Hby.out.olds how) (hd8 j) (by omega))
    have hck:n0-k=(n0-(k+1))+1:=by omega
    rw [hck] at Htk
    clear hck
    have hjm:j≤m-6:=by rw [← Hil.out];exact hj
    cases hdc:dec (ib.drop j) with
    | none =>
     have Hr:Hid (opened bs=none):=Lib.hid (opened_none (by rw [HN.out];exact H6.out) (by rw [Hn0.out,Hib.out,Htk.out];exact takeTA_none (takeTomb_none hdc)))
     have HE:Hid (∀e w',DecEnd wr (ib.drop j) e w'→e=.returned (.tuple #[.slice none 0 0,.int .i64 0,.int .u16 70])∧Below wr.heap.size wr w'):=Lib.hid (fun e w' ⟨h1,h2⟩=>by
      rcases h2 with ⟨_,h2⟩|⟨_,_,_,h2,_⟩
      ·exact⟨h2,h1⟩
      ·rw [hdc] at h2;cases h2)
     clear hdc how hd8
     go_wp2_with (go_at_call 28;refine HD.out.mono ?_;clear HD;rintro e w2 hend;obtain⟨rfl,hb2⟩:=HE.out e w2 hend;have B2:Hid (Below w.heap.size w w2):=Lib.hid (Hb.out.trans (hb2.mono hsz));clear hend hb2)
     go_ret2
     exact⟨B2.out,.inl ⟨Hr.out,rfl⟩⟩
    | some p =>
     obtain⟨l1,r1⟩:=p
     obtain⟨k1,hk1,hr1⟩:∃k1,k1≤m-6-j∧r1=ib.drop (j+k1):=by
      obtain⟨k1,h1,h2⟩:=dec_drop hdc
      rw [hdl] at h1
      exact⟨k1,h1,by rw [h2,List.drop_drop]⟩
     subst hr1
     obtain⟨n1,hn1⟩:∃n1,n1=l1.length:=⟨_,rfl⟩
     have HE:Hid (∀e w',DecEnd wr (ib.drop j) e w'→∃xo xc,e=.returned (.tuple #[.slice xo n1 xc,.int .i64 (k1:Nat),.int .u16 0])∧OwnL w' wr.heap.size (.slice xo n1 xc) l1∧l1.length≤255∧(∀y∈l1,y.1.length<65536∧y.2.length<65536)∧Below wr.heap.size wr w'):=Lib.hid (fun e w' ⟨h1,h2⟩=>by
      rcases h2 with ⟨h2,_⟩|⟨l',k',u,h2,h3,h4,h5,h6,h7⟩
      ·rw [hdc] at h2;cases h2
      ·rw [hdc] at h2
       simp only [Option.some.injEq,Prod.mk.injEq] at h2
       obtain⟨rfl,h9⟩:=h2
       have h10:=congrArg List.length h9
       rw [List.drop_drop,List.length_drop,List.length_drop,Hil.out] at h10
       rw [hdl] at h3
       obtain rfl:k'=k1:=by omega
       obtain⟨xo,xc,hxu,_⟩:=ownsRow_shape h5
       rw [← hn1] at hxu
       subst hxu
       exact⟨xo,xc,h4,h5,h6,h7,h1⟩)
     have Hn1:=Lib.hid hn1
     clear hn1
     obtain⟨b5,off5,c5,he5,hc5,hm5,hcs5⟩:=Hby.out
     rw [hdl] at he5 hc5
     subst he5
     obtain⟨m5,hm5e⟩:∃m5,m5=m-6-j:=⟨_,rfl⟩
     rw [← hm5e] at hc5 hk1 hdl
     have Hdc:=Lib.hid hdc
     obtain⟨R,hRe⟩:∃R,R=m5-k1:=⟨_,rfl⟩
     have hsub:IntKind.i64.wrap ((m5:Int)-(k1:Int))=(R:Int):=by rw [IntKind.wrap_i64];omega
     rw [← hm5e] at HD ⊢
     by_cases h16:R<16
     ·have hlt16:decide ((R:Int)<16)=true:=by simp;omega
      have Hr:Hid (opened bs=none):=Lib.hid (opened_none (by rw [HN.out];exact H6.out) (by rw [Hn0.out,Hib.out,Htk.out];exact takeTA_none (takeTomb_short hdc (by rw [List.length_drop,Hil.out];omega))))
      have Hm5e:=Lib.hid (And.intro hm5e hRe)
      clear hdc how hd8 hcs5 hdl hm5e hRe
      go_wp2_with (go_at_call 28;refine HD.out.mono ?_;clear HD;rintro e w2 hend;obtain⟨xo,xc,rfl,_,_,_,hb2⟩:=HE.out e w2 hend;have B2:Hid (Below w.heap.size w w2):=Lib.hid (Hb.out.trans (hb2.mono hsz));clear hend hb2)
      go_ret2
      exact⟨B2.out,.inl ⟨Hr.out,rfl⟩⟩
     ·have hlt16:decide ((R:Int)<16)=false:=by simp;omega
      have hi1:j+k1≤ib.length:=by rw [Hil.out];omega
      have hRl:(ib.drop (j+k1)).length=R:=by rw [List.length_drop,Hil.out];omega
      have hR8:=hd8 (j+k1)
      have htm:=takeTomb_some hdc (by rw [hRl];omega)
      rw [show (ib.drop (j+k1)).drop 16=ib.drop (j+k1+16) from List.drop_drop ..] at htm
      obtain⟨f2,hf2,hq2⟩:=cut_fromZ b5 off5 m5 c5 k1 (k1:Int) rfl hk1 hc5
      have hB2:=cut_by (j:=m5) (i:=k1) (m:=m5-k1) hcs5 (by rw [hdl];exact hc5) hm5 (by rw [hdl];exact Nat.le_refl _) hk1 hf2 rfl
      rw [List.take_of_length_le (by rw [hdl];exact Nat.le_refl _),List.drop_drop] at hB2
      rw [← hRe] at hq2 hB2
      obtain⟨_,hc9,hm9,hcs9⟩:=hB2.inv
      rw [hRl] at hc9
      have hq3:=cut_toZ b5 f2 R (c5-k1) 8 8 rfl (by omega)
      have hA:=cut_by (j:=8) (i:=0) (f:=f2) (m:=8) hcs9 (by rw [hRl];exact hc9) hm9 (by rw [hRl];omega) (Nat.zero_le _) (fun _=>rfl) rfl
      rw [List.drop_zero,Nat.sub_zero] at hA
      obtain⟨f4,hf4,hq4⟩:=cut_atZ b5 f2 R (c5-k1) 8 16 8 16 rfl rfl (by omega) (by omega)
      have hB4:=cut_by (j:=16) (i:=8) (m:=8) hcs9 (by rw [hRl];exact hc9) hm9 (by rw [hRl];omega) (by omega) hf4 rfl
      obtain⟨f5,hf5,hq5⟩:=cut_fromZ b5 f2 R (c5-k1) 16 16 rfl (by omega) (by omega)
      have hB5:=cut_by (j:=R) (i:=16) (m:=R-16) hcs9 (by rw [hRl];exact hc9) hm9 (by rw [hRl];exact Nat.le_refl _) (by omega) hf5 rfl
      rw [List.take_of_length_le (by rw [hRl];exact Nat.le_refl _),List.drop_drop] at hB5
      rw [List.drop_take] at hB4
      have HB5:=Lib.hid hB5
      have HG1:Hid (∀W,Olds w W→Calls Tryz.prog 27 #[.slice (some ⟨b5,f2,none⟩) 8 (c5-k1)] W fun e w'=>e=.returned (.int .u64 (back ((ib.drop (j+k1)).take 8):Nat))∧w'=W):=Lib.hid (fun W hW=>bget_any hW hA (fun x hx=>hR8 x (List.mem_of_mem_take hx)) (by rw [List.length_take];omega))
      have HG2:Hid (∀W,Olds w W→Calls Tryz.prog 27 #[.slice (some ⟨b5,f4,none⟩) 8 (c5-k1-8)] W fun e w'=>e=.returned (.int .u64 (back (((ib.drop (j+k1)).drop 8).take 8):Nat))∧w'=W):=Lib.hid (fun W hW=>bget_any hW hB4 (fun x hx=>hR8 x (List.mem_of_mem_drop (List.mem_of_mem_take hx))) (by rw [List.length_take];omega))
      have hA1:=back8_lt hR8
      have hA2:=back8_lt (bs:=(ib.drop (j+k1)).drop 8) (fun x hx=>hR8 x (List.mem_of_mem_drop hx))
      have Htm:=Lib.hid htm
      clear htm hB5 hA hB4 hf2 hf4 hf5 hcs9 hc9 hm9 hB2 hcs5 hd8 hR8 hdc hRl
      generalize back ((ib.drop (j+k1)).take 8)=A1 at *
      generalize back (((ib.drop (j+k1)).drop 8).take 8)=A2 at *
      have hwa:=wrap_s64 hA1
      have hwb:=wrap_s64 hA2
      obtain⟨us,hus,hrow,htmo⟩:=Hown.out
      rw [Hlk.out] at hus hrow
      have Hrow:=Lib.hid hrow
      have Hus:=Lib.hid hus
      have Htmo:=Lib.hid htmo
      have Hst:Hid (takeTs n0 ib=takeTA (l++[(l1,s64 A1,s64 A2)]) (n0-(k+1)) (ib.drop (j+k1+16))):=Lib.hid (by rw [Htk.out];exact takeTA_step Htm.out)
      have Hm5e:=Lib.hid (And.intro hm5e hRe)
      have Hhow:=Lib.hid how
      have HKr:Hid (∀g,u4.ownBlock=some g→w.heap.size≤g∧g<wr.heap.size):=Lib.hid (fun g hg=>ownsRow_block hrow hg)
      clear hrow hus htmo how hm5e hRe
      generalize s64 A1=z1 at *
      generalize s64 A2=z2 at *
      go_upto_region 11 with (go_at_call 28;refine HD.out.mono ?_;clear HD;rintro e w2 hend;obtain⟨xo,xc,rfl,ho1,hl1,hy1',hb2⟩:=HE.out e w2 hend;have B2:Hid (Below w.heap.size w w2):=Lib.hid (Hb.out.trans (hb2.mono hsz));have O2:Hid (Olds wr w2):=Lib.hid (Olds.of_below hb2);have Ho1:=Lib.hid ho1;have Hl1:=Lib.hid (And.intro hl1 hy1');have hs2:wr.heap.size≤w2.heap.size:=hb2.size;clear hend hb2 ho1 hl1 hy1')
      have HOd:Hid (Olds w w2.drew):=Lib.hid ((Olds.of_below B2.out).trans (Olds.drewN w2 1))
      have O2d:Hid (Olds wr w2.drew):=Lib.hid (O2.out.trans (Olds.drewN w2 1))
      have B2d:Hid (Below w.heap.size w w2.drew):=Lib.hid (below_drewN B2.out 1)
      have Ho1d:Hid (OwnL w2.drew wr.heap.size (.slice xo n1 xc) l1):=Lib.hid (Ho1.out.olds (Olds.drewN w2 1))
      go_region_held_law (fun _=>True) (trivial)
       (first
        | (go_at_call 27;refine (HG2.out _ Ow3.out).mono ?_;rintro e w4 ⟨rfl,hw4⟩;have Ow4:Hid (Olds wr w4):=Lib.hid (by rw [hw4];exact O3.out);have B4:Hid (Below w.heap.size w w4):=Lib.hid (by rw [hw4];exact B3.out);have hs4:w.heap.size≤w4.heap.size:=B4.out.size;have Ho4:Hid (OwnL w4 wr.heap.size (.slice xo n1 xc) l1):=Lib.hid (by rw [hw4];exact Ho3.out);clear hw4)
        | (go_at_call 27;refine (HG1.out _ HOd.out).mono ?_;rintro e w3 ⟨rfl,hw3⟩;have Ow3:Hid (Olds w w3):=Lib.hid (by rw [hw3];exact HOd.out);have O3:Hid (Olds wr w3):=Lib.hid (by rw [hw3];exact O2d.out);have B3:Hid (Below w.heap.size w w3):=Lib.hid (by rw [hw3];exact B2d.out);have Ho3:Hid (OwnL w3 wr.heap.size (.slice xo n1 xc) l1):=Lib.hid (by rw [hw3];exact Ho1d.out);clear hw3)
        | (refine step_append_lies _ rfl _ _ _ rfl w.heap.size 43 j0 _ 3 40 Tryz.underlying22 hj0 hy0 hy1 hy2 rfl (by decide) u4 k (us.flatMap tmCells) rfl (ownsRow_olds Hrow.out (Ow4.out.trans (Olds.alloc _ _))) ⟨w4.heap.size,0,none⟩ 1 1 [.slice xo n1 xc,.int .i64 z1,.int .i64 z2] rfl rfl (World.news_of_block (cs:=#[.slice xo n1 xc,.int .i64 z1,.int .i64 z2]) (t:=43) (fr:=(0,0)) (heap_alloc_new w4 _)) (by simp [Value.oneCell']) Nat.one_pos (by unfold maxLen;omega) (by omega) (by simp;omega) (w4.heap.size+1) (by simp) ?_;intro g5 cap5 w5 hown5 hgrow5 hat5 hlt5;have Hown5:=Lib.hid hown5;have Hgrow5:=Lib.hid hgrow5;have B5:Hid (Below w.heap.size w w5):=Lib.hid ((B4.out.alloc hs4 _).grown hgrow5 (by simp;omega) (fun b hb=>(HKr.out b hb).1));clear hown5 hgrow5 hat5))
      have Hnew:Hid (OwnsT w5 w.heap.size (.slice (some ⟨g5,0,none⟩) (k+1) cap5) (l++[(l1,z1,z2)])):=Lib.hid (by
       refine⟨us++[(.slice xo n1 xc,z1,z2)],by rw [List.length_append,List.length_append,Hus.out,Hlk.out];rfl,?_,?_⟩
       ·rw [List.length_append,Hlk.out,List.flatMap_append]
        exact Hown5.out
       ·have hO:=Olds.alloc w4 (.cells #[.slice xo n1 xc,.int .i64 z1,.int .i64 z2] 43)
        exact tm_step (by rw [Hus.out,Hlk.out]) (Htmo.out.olds (Ow4.out.trans hO)) ((Ho4.out.olds hO).mono hsz) Hgrow5.out (fun g hg=>own_kind (ownsRow_olds Hrow.out (Ow4.out.trans hO)) hg))
      have Hsm2:Hid (SmallT (l++[(l1,z1,z2)])):=Lib.hid (smallT_snoc Hsm.out Hl1.out.1 Hl1.out.2)
      have hj16:j+k1+16≤ib.length:=by
       rw [Hil.out]
       have h1:=Hm5e.out
       omega
      have hll:(l++[(l1,z1,z2)]).length=k+1:=by rw [List.length_append,Hlk.out];rfl
      have Hll:=Lib.hid hll
      clear hll
      go_wp2_with fail
      go_roundw
      case rel=>exact⟨k+1,j+k1+16,l++[(l1,z1,z2)],by omega,by go_num,Hll.out,Hnew.out,HB5.out,hj16,Hst.out,Hsm2.out,B5.out⟩
      case measure=>simp [intOf];omega
   ·obtain rfl:k=n0:=by omega
    have htk:takeTs k ib=some (l,ib.drop j):=by rw [Htk.out,Nat.sub_self,takeTA_zero]
    obtain⟨lo,lc,hlv,hlz,hrows⟩:=Hown.out.rows
    rw [Hlk.out] at hlv
    subst hlv
    have hkk:k≤65535:=by omega
    have HT:=Lib.hid (btombs_rows hH lo lc k l wr Hlk.out hkk Hsm.out hrows ((Olds.of_below Hb.out).cell HG0.out) (Nat.le_trans hw8 hsz))
    have htk2:takeTs (back (bs.take 2)) (inner bs)=some (l,ib.drop j):=by rw [Hn0.out,Hib.out];exact htk
    have Htk2:=Lib.hid htk2
    have hO:=Olds.of_below Hb.out
    have HBv:Hid (∀W,Olds w W→BySl W (.slice (some ⟨b,off,none⟩) m c) bs):=Lib.hid (fun W hW=>HBy.out.olds hW)
    clear hrows htk htk2
    by_cases hmay:MayT l
    ·have HTE:Hid (∀e w',TombsEnd wr l e w'→∃v,e=.returned (.tuple #[v,.int .u16 0])∧BySl w' v (doneB l)∧Below wr.heap.size wr w'):=Lib.hid (fun e w' ⟨h1,h2⟩=>by
      rcases h2 with ⟨h2,_⟩|⟨_,v,h2,h3⟩
      ·exact absurd hmay h2
      ·refine⟨v,h2,row8_by h3 ?_,h1⟩
       unfold doneB
       rw [List.length_append,low_len]
       omega)
     have hd8:∀x∈doneB l,x<256:=fun x hx=>by
      unfold doneB at hx
      rcases List.mem_append.1 hx with hx | hx
      ·exact bodyB_bytes hmay x hx
      ·exact low_lt _ _ _ hx
     have HBE:Hid (∀(W:World) (v:Value),Olds w W→BySl W v (doneB l)→Calls Tryz.prog 29 #[v,.slice (some ⟨b,off,none⟩) m c] W fun e w'=>e=.returned (.bool (decide (doneB l=bs)))∧w'=W):=Lib.hid (fun W v hW hv=>bytesEqual_any hv (HBv.out W hW) hd8 H8.out)
     have Hmay:=Lib.hid hmay
     clear hmay hd8
     by_cases heq:doneB l=bs
     ·have Hr:Hid (opened bs=some l):=Lib.hid (opened_good (by rw [HN.out];exact H6.out) Htk2.out ((tombs_yes Hmay.out bs).2 heq))
      rw [decide_eq_true heq] at HBE
      clear heq
      go_wp2_with (first
       | (go_at_call 6;refine HT.out.mono ?_;clear HT;rintro e w2 hend;obtain⟨v2,rfl,hv2,hb2⟩:=HTE.out e w2 hend;have Hv2:=Lib.hid hv2;have B2:Hid (Below w.heap.size w w2):=Lib.hid (Hb.out.trans (hb2.mono hsz));have O2:Hid (Olds wr w2):=Lib.hid (Olds.of_below hb2);clear hend hb2 hv2)
       | (go_at_call 29;refine (HBE.out _ _ (Olds.of_below B2.out) Hv2.out).mono ?_;rintro e w3 ⟨rfl,hw3⟩;have B3:Hid (Below w.heap.size w w3):=Lib.hid (by rw [hw3];exact B2.out);have O3:Hid (Olds wr w3):=Lib.hid (by rw [hw3];exact O2.out);clear hw3))
      go_ret2
      exact⟨B3.out,.inr ⟨l,_,Hr.out,rfl,Hown.out.olds O3.out,by rw [Hlk.out];exact hkk,Hsm.out⟩⟩
     ·have Hr:Hid (opened bs=none):=Lib.hid (opened_bad (by rw [HN.out];exact H6.out) Htk2.out (fun h=>heq ((tombs_yes Hmay.out bs).1 h)))
      rw [decide_eq_false heq] at HBE
      clear heq
      go_wp2_with (first
       | (go_at_call 6;refine HT.out.mono ?_;clear HT;rintro e w2 hend;obtain⟨v2,rfl,hv2,hb2⟩:=HTE.out e w2 hend;have Hv2:=Lib.hid hv2;have B2:Hid (Below w.heap.size w w2):=Lib.hid (Hb.out.trans (hb2.mono hsz));have O2:Hid (Olds wr w2):=Lib.hid (Olds.of_below hb2);clear hend hb2 hv2)
       | (go_at_call 29;refine (HBE.out _ _ (Olds.of_below B2.out) Hv2.out).mono ?_;rintro e w3 ⟨rfl,hw3⟩;have B3:Hid (Below w.heap.size w w3):=Lib.hid (by rw [hw3];exact B2.out);clear hw3))
      go_ret2
      exact⟨B3.out,.inl ⟨Hr.out,rfl⟩⟩
    ·have Hr:Hid (opened bs=none):=Lib.hid (opened_bad (by rw [HN.out];exact H6.out) Htk2.out (tombs_no hmay bs))
     have HTE:Hid (∀e w',TombsEnd wr l e w'→e=.returned (.tuple #[.slice none 0 0,.int .u16 150])∧Below wr.heap.size wr w'):=Lib.hid (fun e w' ⟨h1,h2⟩=>by
      rcases h2 with ⟨_,h2⟩|⟨h2,_⟩
      ·exact⟨h2,h1⟩
      ·exact absurd h2 hmay)
     clear hmay
     go_wp2_with (go_at_call 6;refine HT.out.mono ?_;clear HT;rintro e w2 hend;obtain⟨rfl,hb2⟩:=HTE.out e w2 hend;have B2:Hid (Below w.heap.size w w2):=Lib.hid (Hb.out.trans (hb2.mono hsz));clear hend hb2)
     go_ret2
     exact⟨B2.out,.inl ⟨Hr.out,rfl⟩⟩
end Go.Proofs.YtejeflddeanccaaGreatDoor
namespace Go.Proofs.YtejeflddeanccaaGreatDoor
open Go Go.RowKit Go.Ix Go.Tm
def NextEnd (w:World) (bs:List Nat) (i:Nat) (e:Ending) (w':World):Prop:=(∃q,w'=w.drewN q)∧((takeT (bs.drop i)=none∧e=.returned (.tuple #[encStr [],.int .i64 (-1)]))∨∃s,takeT (bs.drop i)=some (s,bs.drop (i+2+s.length))∧i+2+s.length≤bs.length∧e=.returned (.tuple #[encStr s,.int .i64 ((i+2+s.length:Nat):Int)]))
set_option maxRecDepth 20000 in
set_option maxHeartbeats 1000000 in
theorem rnext_any {w:World}{v:Value}{bs:List Nat}(i:Nat) (hi:i≤bs.length) (hl:bs.length≤1000000000) (h:BySl w v bs) (h8:∀x∈bs,x<256):Calls Tryz.prog 47 #[v,.int .i64 (i:Nat)] w (NextEnd w bs i):=by
 obtain⟨b,off,c,rfl,hc,hm,hcs⟩:=h
 unfold maxLen at hm
 by_cases h2:bs.length<i+2
 ·have Ht:=Lib.hid (takeT_short (b:=bs.drop i) (by rw [List.length_drop];omega))
  clear hcs
  generalize bs.length=m at *
  go_enter Tryz.func47,Tryz.ntmps47
  go_wp2_with fail
  go_ret2
  exact⟨⟨0,rfl⟩,.inl ⟨Ht.out,rfl⟩⟩
 ·obtain⟨x,hx⟩:∃x,bs[i]?=some x:=⟨_,List.getElem?_eq_getElem (by omega)⟩
  obtain⟨y,hy⟩:∃y,bs[i+1]?=some y:=⟨_,List.getElem?_eq_getElem (by omega)⟩
  have hx8:=h8 x (List.mem_of_getElem? hx)
  have hy8:=h8 y (List.mem_of_getElem? hy)
  have q0:=octs_cell hcs hx
  have q1:=octs_cell hcs hy
  have Ht:=Lib.hid (takeT_at (b:=bs.drop i) (x:=x) (y:=y) (by rw [List.getElem?_drop,Nat.add_zero];exact hx) (by rw [List.getElem?_drop];exact hy))
  obtain⟨K,hK⟩:∃K,K=x+256 * y:=⟨_,rfl⟩
  have hor:(x:Int)+256 * (y:Int)=(K:Int):=by omega
  have hK6:K≤65535:=by omega
  rw [← hK,List.length_drop,List.drop_drop] at Ht
  have Hcs:=Lib.hid hcs
  have H8:=Lib.hid h8
  have HK:=Lib.hid hK
  clear hcs h8 hx hy hK
  generalize hN:bs.length=m at *
  have HN:=Lib.hid hN
  clear hN
  have hw1:IntKind.i64.wrap ((i:Int)+2)=(i:Int)+2:=by rw [IntKind.wrap_i64];omega
  have hw2:IntKind.i64.wrap ((i:Int)+2+(K:Int))=(i:Int)+2+(K:Int):=by rw [IntKind.wrap_i64];omega
  by_cases hle:i+2+K≤m
  ·obtain⟨f1,hf1,hc1⟩:=cut_atZ b off m c (i+2) (i+2+K) ((i:Int)+2) ((i:Int)+2+(K:Int)) (by omega) (by omega) (by omega) (by omega)
   have e1:i+2+K-(i+2)=K:=by omega
   rw [e1] at hc1
   have hB1:=cut_by (j:=i+2+K) (i:=i+2) (m:=K) Hcs.out (by rw [HN.out];exact hc) (by unfold maxLen;omega) (by rw [HN.out];omega) (by omega) hf1 (by omega)
   have hcv:∀q,(convert 23 9 (.slice (some ⟨b,f1,none⟩) K (c-(i+2)))).run Tryz.prog (w.drewN q)=.ok (encStr (txtOf ((bs.take (i+2+K)).drop (i+2)))) (w.drewN q):=fun q=>conv_by (hB1.olds (Olds.drewN w q)) (fun z hz=>H8.out z (List.mem_of_mem_take (List.mem_of_mem_drop hz)))
   have HSl:Hid ((txtOf ((bs.take (i+2+K)).drop (i+2))).length=K):=Lib.hid (by unfold txtOf;rw [List.length_map,List.length_drop,List.length_take,HN.out];omega)
   have Hres:Hid (takeT (bs.drop i)=some (txtOf ((bs.take (i+2+K)).drop (i+2)),bs.drop (i+2+K))):=Lib.hid (by
    rw [Ht.out,if_pos (by omega)]
    congr 2
    ·rw [List.drop_take,e1]
    ·rw [List.drop_drop,Nat.add_assoc])
   clear hB1 hf1 e1
   generalize txtOf ((bs.take (i+2+K)).drop (i+2))=S at *
   go_enter Tryz.func47,Tryz.ntmps47
   go_wp2_with fail
   go_quiet (fail)
   go_wp2_with fail
   go_ret2
   refine⟨⟨_,rfl⟩,.inr ⟨S,?_,?_,?_⟩⟩
   ·rw [HSl.out]
    exact Hres.out
   ·rw [HSl.out,HN.out]
    exact hle
   ·rw [HSl.out]
    rfl
  ·have Hres:Hid (takeT (bs.drop i)=none):=Lib.hid (by rw [Ht.out,if_neg (by omega)])
   go_enter Tryz.func47,Tryz.ntmps47
   go_wp2_with fail
   go_quiet (fail)
   go_wp2_with fail
   go_ret2
   exact⟨⟨_,rfl⟩,.inl ⟨Hres.out,rfl⟩⟩
end Go.Proofs.YtejeflddeanccaaGreatDoor
