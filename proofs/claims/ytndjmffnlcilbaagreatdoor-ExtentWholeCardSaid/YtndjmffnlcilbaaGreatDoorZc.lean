/- The law ExtentWhole, walked. Conditions: the slice reads as the calls that are named, and is of less than 2 to the 47th bytes. -/
import Derived.Test.YtndjmffnlcilbaaGreatDoorZb
set_option linter.unusedSimpArgs false
set_option linter.unusedVariables false
set_option linter.deprecated false
set_option linter.unnecessarySimpa false
namespace Go.Proofs.YtndjmffnlcilbaaGreatDoor
open Go Go.RowKit Go.Ix Go.Ext Go.Maps
def OpsIn (w:World) (l:List OpIn):Prop:=∀x∈l,(∃ds,DataB w w.heap.size ds x.da x.dn x.dc)∧(∃ks,Bools w w.heap.size x.ka x.kn ks)∧x.kind<256∧x.n<9223372036854775808
theorem MuchSays.b {x:Prop}{e:Ending}(h:MuchSays x e):∃b:Bool,e=.returned (.bool b)∧(b=false→x):=by
 rcases h with rfl|⟨rfl,h⟩
 ·exact⟨true,rfl,fun h=>by cases h⟩
 ·exact⟨false,rfl,fun _=>h⟩
def nlen (l:List OpIn):Nat:=(l.map fun x=>x.name.length).sum
theorem nlen_take {l:List OpIn}{k:Nat}{x:OpIn}(h:l[k]?=some x):nlen (l.take (k+1))=nlen (l.take k)+x.name.length:=by
 unfold nlen
 rw [List.take_add_one,h,List.map_append,List.sum_append]
 simp
theorem nlen_le (l:List OpIn):nlen l≤wtOs l:=by
 unfold nlen wtOs
 induction l with
 | nil=>simp
 | cons x l ih =>
  simp only [List.map_cons,List.sum_cons]
  have:x.name.length≤wtO x:=by unfold wtO;omega
  omega
theorem nlen_take_le (l:List OpIn) (k:Nat):nlen (l.take k)≤nlen l:=by
 unfold nlen
 rw [← List.take_append_drop k l]
 simp only [List.take_append_drop,List.map_take,List.map_drop]
 have h:=List.sum_append (l₁:=(l.map fun x=>x.name.length).take k) (l₂:=(l.map fun x=>x.name.length).drop k)
 rw [List.take_append_drop] at h
 omega
theorem wtO_le {l:List OpIn}{x:OpIn}(h:x∈l):wtO x≤wtOs l:=by
 unfold wtOs
 induction l with
 | nil=>cases h
 | cons y l ih =>
  simp only [List.map_cons,List.sum_cons]
  rcases List.mem_cons.1 h with rfl | h
  ·omega
  ·have:=ih h
   omega
def DD (l:List OpIn) (k:Nat):Nat:=20000+300 * k+nlen (l.take k)
structure LW (w wr:World) (db sm N k D i:Nat) (sv nv xv uv:Value) (dk:Bool) (ln lx lu:List LE):Prop where
 bel:Below w.heap.size w wr
 rn:LRow wr w.heap.size i nv ln
 rx:LRow wr w.heap.size i xv lx
 ru:LRow wr w.heap.size i uv lu
 al:dk=false→Alive wr w.heap.size db sm N k D sv (lf ln) (lf lx)
 go:dk=true→Gone wr w.heap.size db sm N k (lf ln) (lf lu)
theorem trip_both {w wr:World}{db sm N k D i:Nat}{sv nv xv uv:Value}{dk:Bool}{ln lx lu:List LE}(h:LW w wr db sm N k D i sv nv xv uv dk ln lx lu) (m:Int) (hm:m<9223372036854775808) :
  Calls Tryz.prog 8 #[.pointer (some ⟨db,0,none⟩),.int .i64 m] wr fun e w'=>∃v,e=.returned v∧LW w w' db sm N k D i sv nv xv uv dk ln lx lu:=by
 cases dk with
 | false=>exact ((h.al rfl).trip m hm).mono fun e w' ⟨⟨v,a⟩,b,c⟩=>⟨v,a,h.bel.trans b.below,h.rn.kp b,h.rx.kp b,h.ru.kp b,fun _=>c,fun e=>by cases e⟩
 | true=>exact ((h.go rfl).trip m hm).mono fun e w' ⟨⟨v,a⟩,b,c⟩=>⟨v,a,h.bel.trans b.below,h.rn.kp b,h.rx.kp b,h.ru.kp b,(fun e=>by cases e),fun _=>c⟩
theorem LW.mono {w wr:World}{db sm N k D i k' D' i':Nat}{sv nv xv uv:Value}{dk:Bool}{ln lx lu:List LE}(h:LW w wr db sm N k D i sv nv xv uv dk ln lx lu) (hk:k≤k') (hD:D≤D') (hi:i≤i'):LW w wr db sm N k' D' i' sv nv xv uv dk ln lx lu :=
 ⟨h.bel,h.rn.mono hi,h.rx.mono hi,h.ru.mono hi,fun e=>(h.al e).mono hk hD,fun e=>(h.go e).mono hk⟩
theorem LW.olds {w wr w':World}{db sm N k D i:Nat}{sv nv xv uv:Value}{dk:Bool}{ln lx lu:List LE}(h:LW w wr db sm N k D i sv nv xv uv dk ln lx lu) (hb:Below wr.heap.size wr w'):LW w w' db sm N k D i sv nv xv uv dk ln lx lu:=by
 have hk:Kp w.heap.size wr w':=Kp.of_below hb h.bel.size
 exact⟨h.bel.trans hk.below,h.rn.kp hk,h.rx.kp hk,h.ru.kp hk,fun e=>(h.al e).olds (Olds.of_below hb),fun e=>(h.go e).olds (Olds.of_below hb)⟩
set_option maxRecDepth 20000 in
set_option maxHeartbeats 40000000 in
theorem whole_any (hH:HalfOk) (hk:∀W:World,9≤W.heap.size→Calls Tryz.prog 4 #[] W fun e W'=>e=.returned (.bool true)∧Below W.heap.size W W') (sec:Nat) (hsec:sec<256) (o:Option Addr) (n c:Nat) (l:List OpIn) (w:World) (hG:9≤w.heap.size) (hl:l.length=n) (hv:VastO l) (hc:RowOp w o l) (hin:OpsIn w l) :
  Calls Tryz.prog 3 #[.int .u8 (sec:Nat),.slice o n c] w fun e w'=>e=.returned (.bool true)∧Below w.heap.size w w':=by
 have Hk:=Lib.hid (hk w hG)
 have Hc:=Lib.hid hc
 have Hv:=Lib.hid hv
 have Hl:=Lib.hid hl
 have Hin:=Lib.hid hin
 have HHH:=Lib.hid hH
 clear hk hc hv hin
 have HM:Hid (∀W:World,Below w.heap.size w W→Calls Tryz.prog 5 #[.slice o n c] W fun e w'=>MuchSays (wtOs l+n≤400000∧n≤200) e∧∃q,w'=W.drewN q):=Lib.hid (fun W hb=>much_any o n c l W hl Hv.out (Hc.out.olds (Olds.of_below hb)))
 clear hl
 go_enter Tryz.func3,Tryz.ntmps3
 go_upto_region 3 with (go_at_call 4;refine Hk.out.mono ?_;clear Hk;rintro e w1 ⟨rfl,hb1⟩;have Hb1:=Lib.hid hb1;clear hb1)
 go_upto_if 24 with (go_at_call 5;refine (HM.out _ Hb1.out).mono ?_;clear HM;rintro e w2 ⟨hm,q,hq⟩;obtain⟨mb,rfl,hmb⟩:=hm.b;have Hb2:Hid (Below w.heap.size w w2):=Lib.hid (by rw [hq];exact drewB Hb1.out q);have Hm:=Lib.hid hmb;clear hm hq hmb)
 cases mb with
 | true =>
  go_wp2_with fail
  go_ret
  exact⟨rfl,Hb2.out⟩
 | false =>
  obtain⟨hwt,hn200⟩:=Hm.out rfl
  have HD1:Hid (Calls Tryz.prog 6 #[.int .i64 ((sec % 60+3:Nat):Int)] w2 (DnewEnd w2 w.heap.size (sec % 60+3))):=Lib.hid (dnew_any (by omega) (by omega) Hb2.out.size)
  rw [show ((sec % 60+3:Nat):Int)=(sec:Int) % 60+3 by omega] at HD1
  go_upto_region 6 with (go_at_call 6;refine HD1.out.mono ?_;clear HD1;rintro e w3 ⟨db,sm,rfl,hb3,K,hdi,hcalm,hcac⟩;have Hb3:=Lib.hid hb3;have Hdi:=Lib.hid hdi;have Hcalm:=Lib.hid hcalm;have Hcac:=Lib.hid hcac;clear hb3 hdi hcalm hcac)
  have HF:Hid (Calls Tryz.prog 7 #[.pointer (some ⟨db,0,none⟩)] w3 (FormatEnd w3 w.heap.size db sm (sec % 60+3) K)):=Lib.hid (format_any HHH.out Hdi.out Hcalm.out Hcac.out (Nat.le_trans Hb2.out.size Hb3.out.size) (by have:=Hb2.out.size;have:=Hb3.out.size;omega) (by omega) (by omega))
  go_upto_region 9 with (go_at_call 7;refine HF.out.mono ?_;clear HF;rintro e w4 ⟨sb,rfl,hk4,hsb4,h4⟩;have Hk4:=Lib.hid hk4;have H4:=Lib.hid h4;clear hk4 h4)
  go_upto_region 11 with fail
  obtain⟨N,hN⟩:∃N,N=sec % 60+3:=⟨_,rfl⟩
  have hA4:Alive w4 w.heap.size db sm N 1 2 (.pointer (some ⟨sb,0,none⟩)) [] []:=⟨sb,0,1,_,_,rfl,H4.out,hN.symm⟩
  have hN62:N≤62:=by omega
  have hN3:3≤N:=by omega
  have HA4:=Lib.hid hA4
  have HB4:Hid (Below w.heap.size w w4):=Lib.hid ((Hb2.out.trans (Hb3.out.mono Hb2.out.size)).trans Hk4.out.below)
  have hnl:nlen l≤400000:=by have:=nlen_le l;omega
  have Hwt:=Lib.hid hwt
  have Hnl:=Lib.hid hnl
  clear hN hwt hnl hA4 H4
  go_wp2_with fail
  go_loopw [7,9,10,11,12,13] (fun sv nv xv uv dv iv wr=>∃(k:Nat) (ln lx lu:List LE) (dk:Bool),k≤n∧iv=.int .i64 k∧dv=.bool dk∧LW w wr db sm N (300+2 * k) (DD l k) k sv nv xv uv dk ln lx lu) (fun _ _ _ _ _ iv _=>n-(intOf iv).toNat)
  case atStart=>exact⟨0,[],[],[],false,Nat.zero_le _,rfl,rfl,HB4.out,LRow.nil _ _ _,LRow.nil _ _ _,LRow.nil _ _ _,fun _=>HA4.out.mono (by decide) (by unfold DD;omega),fun e=>by cases e⟩
  case round =>
   obtain⟨k,ln,lx,lu,dk,hk,rfl,rfl,hlw⟩:=hrel
   have Hlw:=Lib.hid hlw
   have hws:=hlw.bel.size
   clear hlw
   by_cases hlt:k<n
   ·obtain⟨x,hx⟩:∃x,l[k]?=some x:=⟨_,List.getElem?_eq_getElem (by rw [Hl.out];exact hlt)⟩
    obtain⟨b,off,rfl,a0,a1,a2,a3,a4,a5⟩:=(Hc.out.olds (Olds.of_below Hlw.out.bel)).at hx
    obtain⟨⟨ds,hxd⟩,⟨ks,hxk⟩,hxkind,hxn9⟩:=Hin.out x (List.mem_of_getElem? hx)
    have hxw:=wtO_le (List.mem_of_getElem? hx)
    have hxn:DD l (k+1)=DD l k+300+x.name.length:=by
     unfold DD
     rw [nlen_take hx]
     omega
    have hDk:DD l k≤500000:=by
     have:=nlen_take_le l k
     have:=Hnl.out
     unfold DD
     omega
    have hDl:16000≤DD l k:=by unfold DD;omega
    have hx1:x.name.length≤400000∧x.dn≤400000:=by
     have:=Hwt.out
     unfold wtO at hxw
     omega
    obtain⟨A,hA⟩:∃A:World,A=wr.alloc (.cells #[.int .u8 (x.kind:Nat),encStr x.name,encStr x.dest,.slice x.da x.dn x.dc,.int .i64 x.n,.slice x.ka x.kn x.kc] 37):=⟨_,rfl⟩
    have hbA:Below wr.heap.size wr A:=by rw [hA];exact (Below.refl _ _).alloc (Nat.le_refl _) _
    have hAx:A.heap[wr.heap.size]?=some (.cells #[.int .u8 (x.kind:Nat),encStr x.name,encStr x.dest,.slice x.da x.dn x.dc,.int .i64 x.n,.slice x.ka x.kn x.kc] 37 (0,0)):=by rw [hA];exact heap_alloc_new _ _
    have hLA:=Hlw.out.olds hbA
    have HLA:=Lib.hid hLA
    have hwA:=hLA.bel.size
    have HE:Hid (LEok A w.heap.size ⟨x.name,x.da,x.dn,x.dc,ds⟩):=Lib.hid (by
     have hb:Below w.heap.size w A:=hLA.bel
     have hlow:∀a,x.da=some a→0<x.dn→a.block<w.heap.size:=fun a ha hp=>by
      obtain⟨q1,q2,q3,q4,q5⟩:=hxd
      rcases q5 a ha hp with h|⟨cs,fr,h⟩
      ·exact h
      ·exact heap_lt h
     have h0:LEok w w.heap.size ⟨x.name,x.da,x.dn,x.dc,ds⟩:=⟨hxd.1,hxd.2.1,hxd.2.2.1,hlow,hxd.2.2.2.1,hx1.1,hx1.2⟩
     exact h0.below hb)
    have HKs:Hid (Bools A w.heap.size x.ka x.kn ks):=Lib.hid (hxk.below hLA.bel)
    have HDa:Hid (DataB A w.heap.size ds x.da x.dn x.dc):=Lib.hid (hxd.olds (Olds.of_below hLA.bel))
    have k0:A.cell? ⟨wr.heap.size,0,none⟩=some (.int .u8 (x.kind:Nat)):=by rw [cell_of_heap hAx];rfl
    have k1:A.cell? ⟨wr.heap.size,1,none⟩=some (encStr x.name):=by rw [cell_of_heap hAx];rfl
    have k3:A.cell? ⟨wr.heap.size,3,none⟩=some (.slice x.da x.dn x.dc):=by rw [cell_of_heap hAx];rfl
    have k4:A.cell? ⟨wr.heap.size,4,none⟩=some (.int .i64 x.n):=by rw [cell_of_heap hAx];rfl
    have k5:A.cell? ⟨wr.heap.size,5,none⟩=some (.slice x.ka x.kn x.kc):=by rw [cell_of_heap hAx];rfl
    have HKp:Hid (∀W:World,Kp w.heap.size A W→(W.cell? ⟨wr.heap.size,0,none⟩=some (.int .u8 (x.kind:Nat))∧W.cell? ⟨wr.heap.size,1,none⟩=some (encStr x.name)∧W.cell? ⟨wr.heap.size,3,none⟩=some (.slice x.da x.dn x.dc))∧Below w.heap.size w W∧LRow W w.heap.size k u9 ln∧LRow W w.heap.size k u10 lx∧LRow W w.heap.size k u11 lu):=Lib.hid (fun W hkp=>by
     have h9:=hkp.ops _ _ _ hAx
     exact⟨⟨by rw [cell_of_heap h9];rfl,by rw [cell_of_heap h9];rfl,by rw [cell_of_heap h9];rfl⟩,hLA.bel.trans hkp.below,hLA.rn.kp hkp,hLA.rx.kp hkp,hLA.ru.kp hkp⟩)
    have HA:=Lib.hid hA
    have Hxn:=Lib.hid hxn
    clear hA hbA hAx hx hxn hLA hxd hxk
    generalize hdn:x.dn=dn at *
    clear hdn
    go_upto_region 19 with fail
    rw [← HA.out]
    by_cases hq12:x.kind % 14=12
    ·as_aux_lemma =>
     have hqi:(x.kind:Int) % 14=12:=by omega
     have HT:=Lib.hid (trip_both HLA.out x.n hxn9)
     clear hq12
     go_wp2_with (go_at_call 8;refine HT.out.mono ?_;clear HT;rintro e w5 ⟨v5,rfl,h5⟩;have H5:=Lib.hid h5;clear h5)
     go_roundw
     case rel=>exact⟨k+1,ln,lx,lu,dk,by omega,by go_num,rfl,H5.out.mono (by omega) (by rw [Hxn.out];omega) (by omega)⟩
     case measure=>simp [intOf];omega
    ·have hqn12:((x.kind:Int) % 14 == 12)=false:=by simp;omega
     cases dk with
     | true =>
      have hgo:=HLA.out.go rfl
      have HCu:=Lib.hid (hgo.cut (c:=x.kc) HKs.out hwA (by omega) hN62)
      have hnd:=hgo.2
      have Hnd:=Lib.hid hnd
      clear hgo hnd
      have HOp:Hid (∀W:World,Kp w.heap.size A W→(Cutted W w.heap.size db sm N (300+2 * k+1) (lf ln)∨Cutted W w.heap.size db sm N (300+2 * k+1) (lf lu))→Calls Tryz.prog 10 #[.pointer (some ⟨db,0,none⟩)] W fun e w'=>∃sb l0,(l0=lf ln∨l0=lf lu)∧e=.returned (.tuple #[.pointer (some ⟨sb,0,none⟩),.int .u16 0])∧Kp w.heap.size A w'∧Opened w' w.heap.size db sm N (300+2 * k) (DD l k) sb l0):=Lib.hid (fun W hkp h=>by
       have hs:=hkp.below.size
       rcases h with h | h
       ·exact (h.open HHH.out (by omega) (by omega) hN62 hN3 (by omega) hDl).mono fun e w' ⟨sb,a,b,c⟩=>⟨sb,_,.inl rfl,a,hkp.trans b,c⟩
       ·exact (h.open HHH.out (by omega) (by omega) hN62 hN3 (by omega) hDl).mono fun e w' ⟨sb,a,b,c⟩=>⟨sb,_,.inr rfl,a,hkp.trans b,c⟩)
      have HR1:Hid (∀(W:World) (sb:Nat) (l0:LF),Kp w.heap.size A W→(l0=lf ln∨l0=lf lu)→Opened W w.heap.size db sm N (300+2 * k) (DD l k) sb l0→Calls Tryz.prog 11 #[.pointer (some ⟨sb,0,none⟩),u9] W fun e w'=>Kp w.heap.size A w'∧((e=.returned (.bool true)∧Opened w' w.heap.size db sm N (300+2 * k) (DD l k) sb (lf ln))∨(e=.returned (.bool false)∧Opened w' w.heap.size db sm N (300+2 * k) (DD l k) sb (lf lu)))):=Lib.hid (fun W sb l0 hkp h0 ho=>by
       have hs:=hkp.below.size
       refine (ho.reads HHH.out (HKp.out W hkp).2.2.1 Hnd.out.1 (by omega) (by omega) (by omega) (by omega)).mono fun e w' ⟨b,a1,a2,a3,a4,a5⟩=>⟨hkp.trans a2,?_⟩
       cases b with
       | true=>exact .inl ⟨a1,a4 rfl⟩
       | false =>
        rcases h0 with rfl | rfl
        ·cases a5 rfl
        ·exact .inr ⟨a1,a3⟩)
      have HR2:Hid (∀(W:World) (sb:Nat) (l0:LF),Kp w.heap.size A W→Opened W w.heap.size db sm N (300+2 * k) (DD l k) sb l0→Calls Tryz.prog 11 #[.pointer (some ⟨sb,0,none⟩),u11] W fun e w'=>∃b:Bool,e=.returned (.bool b)∧Kp w.heap.size A w'∧Opened w' w.heap.size db sm N (300+2 * k) (DD l k) sb l0∧(lf lu=l0→b=true)):=Lib.hid (fun W sb l0 hkp ho=>by
       have hs:=hkp.below.size
       exact (ho.reads HHH.out (HKp.out W hkp).2.2.2.2 Hnd.out.2 (by omega) (by omega) (by omega) (by omega)).mono fun e w' ⟨b,a1,a2,a3,a4,a5⟩=>⟨b,a1,hkp.trans a2,a3,a5⟩)
      have HEnd:Hid (∀(W:World) (sb:Nat) (l2:List LE) (v2:Value),Kp w.heap.size A W→Opened W w.heap.size db sm N (300+2 * k) (DD l k) sb (lf l2)→LRow W w.heap.size k v2 l2→LW w W db sm N (300+2 * (k+1)) (DD l (k+1)) (k+1) (.pointer (some ⟨sb,0,none⟩)) v2 v2 u11 false l2 l2 lu):=Lib.hid (fun W sb l2 v2 hkp ho hr=>by
       obtain⟨_,q1,_,_,q2⟩:=HKp.out W hkp
       exact⟨q1,hr.mono (by omega),hr.mono (by omega),q2.mono (by omega),fun _=>ho.alive.mono (by omega) (by rw [Hxn.out];omega),fun e=>by cases e⟩)
      by_cases hq13:x.kind % 14=13
      ·as_aux_lemma =>
       have hqi:(x.kind:Int) % 14=13:=by omega
       clear hq12 hq13
       go_wp2_with (first
        | (go_at_call 9;refine HCu.out.mono ?_;clear HCu;rintro e w5 ⟨rfl,hk5,h5⟩;have c5:=(HKp.out w5 hk5).1;have HO5:=Lib.hid (HOp.out w5 hk5 h5);clear hk5 h5 HOp)
        | (go_at_call 10;refine HO5.out.mono ?_;clear HO5;rintro e w6 ⟨sb6,l06,hl06,rfl,hk6,h6⟩;have HR6:=Lib.hid (HR1.out w6 sb6 l06 hk6 hl06 h6);clear hk6 h6 HR1 hl06)
        | (go_at_call 11;refine HR6.out.mono ?_;clear HR6;rintro e w7 ⟨hk7,⟨rfl,h7⟩|⟨rfl,h7⟩⟩;all_goals (have HR7:=Lib.hid (HR2.out w7 sb6 _ hk7 h7);clear hk7 h7))
        | (go_at_call 11;refine HR7.out.mono ?_;clear HR7;rintro e w8 ⟨b8,rfl,hk8,h8,hb8⟩;first | (obtain rfl:b8=true:=hb8 (by first | rfl | trivial);have HE8:=Lib.hid (HEnd.out w8 sb6 lu u11 hk8 h8 (HKp.out w8 hk8).2.2.2.2);clear hk8 h8 hb8) | (have HE8:=Lib.hid (HEnd.out w8 sb6 ln u9 hk8 h8 (HKp.out w8 hk8).2.2.1);clear hk8 h8 hb8)))
       all_goals go_roundw
       all_goals first
        | (case rel=>exact⟨k+1,ln,ln,lu,false,by omega,by go_num,rfl,HE8.out⟩)
        | (case rel=>exact⟨k+1,lu,lu,lu,false,by omega,by go_num,rfl,HE8.out⟩)
        | (case measure=>simp [intOf];omega)
      ·as_aux_lemma =>
       have hqn13:((x.kind:Int) % 14 == 13)=false:=by simp;omega
       clear hq12 hq13
       go_wp2_with (first
        | (go_at_call 9;refine HCu.out.mono ?_;clear HCu;rintro e w5 ⟨rfl,hk5,h5⟩;have c5:=(HKp.out w5 hk5).1;have HO5:=Lib.hid (HOp.out w5 hk5 h5);clear hk5 h5 HOp)
        | (go_at_call 10;refine HO5.out.mono ?_;clear HO5;rintro e w6 ⟨sb6,l06,hl06,rfl,hk6,h6⟩;have HR6:=Lib.hid (HR1.out w6 sb6 l06 hk6 hl06 h6);clear hk6 h6 HR1 hl06)
        | (go_at_call 11;refine HR6.out.mono ?_;clear HR6;rintro e w7 ⟨hk7,⟨rfl,h7⟩|⟨rfl,h7⟩⟩;all_goals (have HR7:=Lib.hid (HR2.out w7 sb6 _ hk7 h7);clear hk7 h7))
        | (go_at_call 11;refine HR7.out.mono ?_;clear HR7;rintro e w8 ⟨b8,rfl,hk8,h8,hb8⟩;first | (obtain rfl:b8=true:=hb8 (by first | rfl | trivial);have HE8:=Lib.hid (HEnd.out w8 sb6 lu u11 hk8 h8 (HKp.out w8 hk8).2.2.2.2);clear hk8 h8 hb8) | (have HE8:=Lib.hid (HEnd.out w8 sb6 ln u9 hk8 h8 (HKp.out w8 hk8).2.2.1);clear hk8 h8 hb8)))
       all_goals go_roundw
       all_goals first
        | (case rel=>exact⟨k+1,ln,ln,lu,false,by omega,by go_num,rfl,HE8.out⟩)
        | (case rel=>exact⟨k+1,lu,lu,lu,false,by omega,by go_num,rfl,HE8.out⟩)
        | (case measure=>simp [intOf];omega)
     | false =>
      have hal:=HLA.out.al rfl
      have Hal:=Lib.hid hal
      clear hal
      by_cases hq13:x.kind % 14=13
      ·as_aux_lemma =>
       have hqi:(x.kind:Int) % 14=13:=by omega
       have HCu:=Lib.hid (Hal.out.cut (c:=x.kc) HKs.out hwA (by omega))
       have HOp:Hid (∀W:World,Kp w.heap.size A W→Cutted W w.heap.size db sm N (300+2 * k+1) (lf ln)→Calls Tryz.prog 10 #[.pointer (some ⟨db,0,none⟩)] W fun e w'=>∃sb,e=.returned (.tuple #[.pointer (some ⟨sb,0,none⟩),.int .u16 0])∧Kp w.heap.size A w'∧Opened w' w.heap.size db sm N (300+2 * k) (DD l k) sb (lf ln)):=Lib.hid (fun W hkp h=>by
        have hs:=hkp.below.size
        exact (h.open HHH.out (by omega) (by omega) hN62 hN3 (by omega) hDl).mono fun e w' ⟨sb,a,b,c⟩=>⟨sb,a,hkp.trans b,c⟩)
       have HR1:Hid (∀(W:World) (sb:Nat),Kp w.heap.size A W→Opened W w.heap.size db sm N (300+2 * k) (DD l k) sb (lf ln)→Calls Tryz.prog 11 #[.pointer (some ⟨sb,0,none⟩),u9] W fun e w'=>e=.returned (.bool true)∧Kp w.heap.size A w'∧Opened w' w.heap.size db sm N (300+2 * k) (DD l k) sb (lf ln)):=Lib.hid (fun W sb hkp ho=>by
        have hs:=hkp.below.size
        refine (ho.reads HHH.out (HKp.out W hkp).2.2.1 Hal.out.nods.1 (by omega) (by omega) (by omega) (by omega)).mono fun e w' ⟨b,a1,a2,a3,a4,a5⟩=>⟨by rw [a1,a5 rfl],hkp.trans a2,a3⟩)
       clear hq12 hq13
       go_wp2_with (first
        | (go_at_call 9;refine HCu.out.mono ?_;clear HCu;rintro e w5 ⟨rfl,hk5,h5⟩;have c5:=(HKp.out w5 hk5).1;have HO5:=Lib.hid (HOp.out w5 hk5 h5);clear hk5 h5 HOp)
        | (go_at_call 10;refine HO5.out.mono ?_;clear HO5;rintro e w6 ⟨sb6,rfl,hk6,h6⟩;have HR6:=Lib.hid (HR1.out w6 sb6 hk6 h6);clear hk6 h6 HR1)
        | (go_at_call 11;refine HR6.out.mono ?_;clear HR6;rintro e w7 ⟨rfl,hk7,h7⟩;have H7:=Lib.hid (And.intro hk7 h7);clear hk7 h7))
       go_roundw
       case rel =>
        obtain⟨_,q1,q3,_,q2⟩:=HKp.out w7 H7.out.1
        exact⟨k+1,ln,ln,lu,false,by omega,by go_num,rfl,q1,q3.mono (by omega),q3.mono (by omega),q2.mono (by omega),fun _=>H7.out.2.alive.mono (by omega) (by rw [Hxn.out];omega),fun e=>by cases e⟩
       case measure=>simp [intOf];omega
      ·have hqn13:((x.kind:Int) % 14 == 13)=false:=by simp;omega
       have HRw:Hid (∀W:World,Kp w.heap.size A W→LRow W w.heap.size (k+1) u9 ln∧LRow W w.heap.size (k+1) u10 lx∧LRow W w.heap.size (k+1) u11 lu):=Lib.hid (fun W hkp=>by
        obtain⟨_,_,q1,q2,q3⟩:=HKp.out W hkp
        exact⟨q1.mono (by omega),q2.mono (by omega),q3.mono (by omega)⟩)
       have HRd:Hid (∀(W:World) (l2:List LE) (v2:Value) (lz:LF),Kp w.heap.size A W→Alive W w.heap.size db sm N (300+2 * (k+1)) (DD l (k+1)) u7 (lf l2) lz→LRow W w.heap.size (k+1) v2 l2→Calls Tryz.prog 11 #[u7,v2] W fun e w'=>Kp w.heap.size W w'∧Kp w.heap.size A w'∧((e=.returned (.bool true)∧Alive w' w.heap.size db sm N (300+2 * (k+1)) (DD l (k+1)) u7 (lf l2) lz)∨(e=.returned (.bool false)∧Gone w' w.heap.size db sm N (300+2 * (k+1)) (lf l2) (lf l2)))):=Lib.hid (fun W l2 v2 lz hkp ha hr=>by
        have hs:=hkp.below.size
        exact (ha.reads HHH.out hr (by omega) (by omega) (by omega) (by rw [Hxn.out];omega)).mono fun e w' ⟨a,b⟩=>⟨a,hkp.trans a,b⟩)
       have HEA:Hid (∀(W:World) (nv xv uv:Value) (l1 l2 l3:List LE),Kp w.heap.size A W→LRow W w.heap.size (k+1) nv l1→LRow W w.heap.size (k+1) xv l2→LRow W w.heap.size (k+1) uv l3→Alive W w.heap.size db sm N (300+2 * (k+1)) (DD l (k+1)) u7 (lf l1) (lf l2)→LW w W db sm N (300+2 * (k+1)) (DD l (k+1)) (k+1) u7 nv xv uv false l1 l2 l3):=Lib.hid (fun W nv xv uv l1 l2 l3 hkp r1 r2 r3 h=>⟨(HKp.out W hkp).2.1,r1,r2,r3,fun _=>h,fun e=>by cases e⟩)
       have HEG:Hid (∀(W:World) (nv xv uv:Value) (l1 l2 l3:List LE),Kp w.heap.size A W→LRow W w.heap.size (k+1) nv l1→LRow W w.heap.size (k+1) xv l2→LRow W w.heap.size (k+1) uv l3→Gone W w.heap.size db sm N (300+2 * (k+1)) (lf l1) (lf l3)→LW w W db sm N (300+2 * (k+1)) (DD l (k+1)) (k+1) u7 nv xv uv true l1 l2 l3):=Lib.hid (fun W nv xv uv l1 l2 l3 hkp r1 r2 r3 h=>⟨(HKp.out W hkp).2.1,r1,r2,r3,(fun e=>by cases e),fun _=>h⟩)
       clear hqn12 hqn13
       by_cases hq3:x.kind % 14<3
       ·have HPut:Hid (Calls Tryz.prog 12 #[u7,encStr x.name,.slice x.da dn x.dc] A fun e w'=>Kp w.heap.size A w'∧∃c:Nat,e=.returned (.int .u16 c)∧((c=0∧Alive w' w.heap.size db sm N (300+2 * (k+1)) (DD l (k+1)) u7 (lf ln) (lf (wi lx ⟨x.name,x.da,dn,x.dc,ds⟩)))∨(((c:Int) == 0)=false∧((c:Int) == 4)=false∧Alive w' w.heap.size db sm N (300+2 * (k+1)) (DD l (k+1)) u7 (lf ln) (lf lx))∨(c=4∧Gone w' w.heap.size db sm N (300+2 * (k+1)) (lf ln) (lf ln)))):=Lib.hid ((Hal.out.put HHH.out (by omega) (by omega) (by omega) HDa.out (by omega)).mono fun e w' ⟨a,c,b,h⟩=>⟨a,c,b,by
         rcases h with ⟨c1,h⟩|⟨c1,c2,h⟩|⟨c1,h⟩
         ·exact .inl ⟨c1,by rw [lf_wi];exact h.mono (by omega) (Nat.le_of_eq Hxn.out.symm)⟩
         ·exact .inr (.inl ⟨by simp;omega,by simp;omega,h.mono (by omega) (Nat.le_of_eq Hxn.out.symm)⟩)
         ·exact .inr (.inr ⟨c1,h.mono (by omega)⟩)⟩)
        have HWi:Hid (∀W:World,Kp w.heap.size A W→Calls Tryz.prog 13 #[u10,.agg #[encStr x.name,.slice x.da dn x.dc]] W fun e w'=>∃v',e=.returned v'∧LRow w' w.heap.size (k+1) v' (wi lx ⟨x.name,x.da,dn,x.dc,ds⟩)∧Kp w.heap.size A w'∧Olds W w'):=Lib.hid (fun W hkp=>by
         have hs:=hkp.below.size
         have hr:=(HKp.out W hkp).2.2.2.1
         exact (with_any ⟨x.name,x.da,dn,x.dc,ds⟩ hr.row rfl (by have:=hr.len;omega)).mono fun e w' ⟨v',a,b,c⟩=>⟨v',a,hr.wi c (by omega) (HE.out.below hkp.below) b,hkp.trans (Kp.of_below c (by omega)),Olds.of_below c⟩)
        rcases (show x.kind % 14=0∨x.kind % 14=1∨x.kind % 14=2 by omega) with hq | hq | hq
        ·as_aux_lemma =>
         have hqi:(x.kind:Int) % 14=0:=by omega
         clear hq hq3 hq12 hq13
         go_wp2_with (first
          | (go_at_call 12;refine HPut.out.mono ?_;clear HPut;rintro e w6 ⟨hk6,c6,rfl,⟨rfl,h6⟩|⟨hc0,hc4,h6⟩|⟨rfl,h6⟩⟩;all_goals (obtain⟨⟨q0,q1,q3⟩,-⟩:=HKp.out w6 hk6);all_goals (first
           | (have hc0':=hc0;clear hc0';have HR:=Lib.hid (HRd.out w6 ln u9 _ hk6 h6 (HRw.out w6 hk6).1);have HX:=Lib.hid (HRw.out w6 hk6).2.1;clear h6 hk6 HWi)
           | (have HE9:=Lib.hid (HEG.out w6 u9 u10 u9 ln lx ln hk6 (HRw.out w6 hk6).1 (HRw.out w6 hk6).2.1 (HRw.out w6 hk6).1 h6);clear h6 hk6 HWi)
           | (have HW6:=Lib.hid (HWi.out w6 hk6);have H6:=Lib.hid h6;clear h6 hk6 HWi)))
          | (go_at_call 13;refine HW6.out.mono ?_;clear HW6;rintro e w7 ⟨v7,rfl,hr7,hk7,ho7⟩;obtain⟨⟨q0,q1,q3⟩,-⟩:=HKp.out w7 hk7;have HR:=Lib.hid (HRd.out w7 ln u9 _ hk7 (H6.out.olds ho7) (HRw.out w7 hk7).1);have HX:=Lib.hid hr7;clear hr7 hk7 ho7 H6)
          | (go_at_call 11;refine HR.out.mono ?_;clear HR;rintro e w8 ⟨hk78,hk8,⟨rfl,h8⟩|⟨rfl,h8⟩⟩;all_goals (have HDk:=Lib.hid h8.dark);all_goals (have HX8:=Lib.hid (HX.out.kp hk78));all_goals (first
           | (have HE9:=Lib.hid (HEA.out w8 u9 _ u11 ln _ lu hk8 (HRw.out w8 hk8).1 HX8.out (HRw.out w8 hk8).2.2 h8);clear h8 hk8 hk78 HX HX8)
           | (have HE9:=Lib.hid (HEG.out w8 u9 _ u9 ln _ ln hk8 (HRw.out w8 hk8).1 HX8.out (HRw.out w8 hk8).1 h8);clear h8 hk8 hk78 HX HX8)))
          | (go_at_call 18;refine HDk.out.mono ?_;rintro e w9 ⟨rfl,hw9⟩;rw [hw9];clear hw9 w9))
         all_goals go_roundw
         all_goals first
          | (case rel=>exact⟨k+1,_,_,_,_,by omega,by go_num,rfl,HE9.out⟩)
          | (case measure=>simp [intOf];omega)
        ·as_aux_lemma =>
         have hqi:(x.kind:Int) % 14=1:=by omega
         clear hq hq3 hq12 hq13
         go_wp2_with (first
          | (go_at_call 12;refine HPut.out.mono ?_;clear HPut;rintro e w6 ⟨hk6,c6,rfl,⟨rfl,h6⟩|⟨hc0,hc4,h6⟩|⟨rfl,h6⟩⟩;all_goals (obtain⟨⟨q0,q1,q3⟩,-⟩:=HKp.out w6 hk6);all_goals (first
           | (have hc0':=hc0;clear hc0';have HR:=Lib.hid (HRd.out w6 ln u9 _ hk6 h6 (HRw.out w6 hk6).1);have HX:=Lib.hid (HRw.out w6 hk6).2.1;clear h6 hk6 HWi)
           | (have HE9:=Lib.hid (HEG.out w6 u9 u10 u9 ln lx ln hk6 (HRw.out w6 hk6).1 (HRw.out w6 hk6).2.1 (HRw.out w6 hk6).1 h6);clear h6 hk6 HWi)
           | (have HW6:=Lib.hid (HWi.out w6 hk6);have H6:=Lib.hid h6;clear h6 hk6 HWi)))
          | (go_at_call 13;refine HW6.out.mono ?_;clear HW6;rintro e w7 ⟨v7,rfl,hr7,hk7,ho7⟩;obtain⟨⟨q0,q1,q3⟩,-⟩:=HKp.out w7 hk7;have HR:=Lib.hid (HRd.out w7 ln u9 _ hk7 (H6.out.olds ho7) (HRw.out w7 hk7).1);have HX:=Lib.hid hr7;clear hr7 hk7 ho7 H6)
          | (go_at_call 11;refine HR.out.mono ?_;clear HR;rintro e w8 ⟨hk78,hk8,⟨rfl,h8⟩|⟨rfl,h8⟩⟩;all_goals (have HDk:=Lib.hid h8.dark);all_goals (have HX8:=Lib.hid (HX.out.kp hk78));all_goals (first
           | (have HE9:=Lib.hid (HEA.out w8 u9 _ u11 ln _ lu hk8 (HRw.out w8 hk8).1 HX8.out (HRw.out w8 hk8).2.2 h8);clear h8 hk8 hk78 HX HX8)
           | (have HE9:=Lib.hid (HEG.out w8 u9 _ u9 ln _ ln hk8 (HRw.out w8 hk8).1 HX8.out (HRw.out w8 hk8).1 h8);clear h8 hk8 hk78 HX HX8)))
          | (go_at_call 18;refine HDk.out.mono ?_;rintro e w9 ⟨rfl,hw9⟩;rw [hw9];clear hw9 w9))
         all_goals go_roundw
         all_goals first
          | (case rel=>exact⟨k+1,_,_,_,_,by omega,by go_num,rfl,HE9.out⟩)
          | (case measure=>simp [intOf];omega)
        ·as_aux_lemma =>
         have hqi:(x.kind:Int) % 14=2:=by omega
         clear hq hq3 hq12 hq13
         go_wp2_with (first
          | (go_at_call 12;refine HPut.out.mono ?_;clear HPut;rintro e w6 ⟨hk6,c6,rfl,⟨rfl,h6⟩|⟨hc0,hc4,h6⟩|⟨rfl,h6⟩⟩;all_goals (obtain⟨⟨q0,q1,q3⟩,-⟩:=HKp.out w6 hk6);all_goals (first
           | (have hc0':=hc0;clear hc0';have HR:=Lib.hid (HRd.out w6 ln u9 _ hk6 h6 (HRw.out w6 hk6).1);have HX:=Lib.hid (HRw.out w6 hk6).2.1;clear h6 hk6 HWi)
           | (have HE9:=Lib.hid (HEG.out w6 u9 u10 u9 ln lx ln hk6 (HRw.out w6 hk6).1 (HRw.out w6 hk6).2.1 (HRw.out w6 hk6).1 h6);clear h6 hk6 HWi)
           | (have HW6:=Lib.hid (HWi.out w6 hk6);have H6:=Lib.hid h6;clear h6 hk6 HWi)))
          | (go_at_call 13;refine HW6.out.mono ?_;clear HW6;rintro e w7 ⟨v7,rfl,hr7,hk7,ho7⟩;obtain⟨⟨q0,q1,q3⟩,-⟩:=HKp.out w7 hk7;have HR:=Lib.hid (HRd.out w7 ln u9 _ hk7 (H6.out.olds ho7) (HRw.out w7 hk7).1);have HX:=Lib.hid hr7;clear hr7 hk7 ho7 H6)
          | (go_at_call 11;refine HR.out.mono ?_;clear HR;rintro e w8 ⟨hk78,hk8,⟨rfl,h8⟩|⟨rfl,h8⟩⟩;all_goals (have HDk:=Lib.hid h8.dark);all_goals (have HX8:=Lib.hid (HX.out.kp hk78));all_goals (first
           | (have HE9:=Lib.hid (HEA.out w8 u9 _ u11 ln _ lu hk8 (HRw.out w8 hk8).1 HX8.out (HRw.out w8 hk8).2.2 h8);clear h8 hk8 hk78 HX HX8)
           | (have HE9:=Lib.hid (HEG.out w8 u9 _ u9 ln _ ln hk8 (HRw.out w8 hk8).1 HX8.out (HRw.out w8 hk8).1 h8);clear h8 hk8 hk78 HX HX8)))
          | (go_at_call 18;refine HDk.out.mono ?_;rintro e w9 ⟨rfl,hw9⟩;rw [hw9];clear hw9 w9))
         all_goals go_roundw
         all_goals first
          | (case rel=>exact⟨k+1,_,_,_,_,by omega,by go_num,rfl,HE9.out⟩)
          | (case measure=>simp [intOf];omega)
       ·by_cases hq4:x.kind % 14=3
        ·as_aux_lemma =>
         have hqi:(x.kind:Int) % 14=3:=by omega
         have HRem:Hid (Calls Tryz.prog 14 #[u7,encStr x.name] A fun e w'=>Kp w.heap.size A w'∧∃c:Nat,e=.returned (.int .u16 c)∧((c=0∧Alive w' w.heap.size db sm N (300+2 * (k+1)) (DD l (k+1)) u7 (lf ln) (lf (wo lx x.name)))∨(((c:Int) == 0)=false∧((c:Int) == 4)=false∧Alive w' w.heap.size db sm N (300+2 * (k+1)) (DD l (k+1)) u7 (lf ln) (lf lx)))):=Lib.hid ((Hal.out.remove (by omega) (by omega)).mono fun e w' ⟨a,c,b,h⟩=>⟨a,c,b,by
          rcases h with ⟨c1,h⟩|⟨c1,c2,h⟩
          ·exact .inl ⟨c1,by rw [lf_wo];exact h.mono (by omega) (by rw [Hxn.out];omega)⟩
          ·exact .inr ⟨by simp;omega,by simp;omega,h.mono (by omega) (by rw [Hxn.out];omega)⟩⟩)
         have HWo:Hid (∀W:World,Kp w.heap.size A W→Calls Tryz.prog 15 #[u10,encStr x.name] W fun e w'=>∃v',e=.returned v'∧LRow w' w.heap.size (k+1) v' (wo lx x.name)∧Kp w.heap.size A w'∧Olds W w'):=Lib.hid (fun W hkp=>by
          have hs:=hkp.below.size
          have hr:=(HKp.out W hkp).2.2.2.1
          exact (without_any x.name hr.row rfl (by have:=hr.len;omega)).mono fun e w' ⟨v',a,b,c⟩=>⟨v',a,(hr.wo c (by omega) b).mono (by omega),hkp.trans (Kp.of_below c (by omega)),Olds.of_below c⟩)
         clear hq3 hq4 hq12 hq13
         go_wp2_with (first
          | (go_at_call 14;refine HRem.out.mono ?_;clear HRem;rintro e w6 ⟨hk6,c6,rfl,⟨rfl,h6⟩|⟨hc0,hc4,h6⟩⟩;all_goals (obtain⟨⟨q0,q1,q3⟩,-⟩:=HKp.out w6 hk6);all_goals (first
           | (have hc0':=hc0;clear hc0';have HR:=Lib.hid (HRd.out w6 ln u9 _ hk6 h6 (HRw.out w6 hk6).1);have HX:=Lib.hid (HRw.out w6 hk6).2.1;clear h6 hk6 HWo)
           | (have HW6:=Lib.hid (HWo.out w6 hk6);have H6:=Lib.hid h6;clear h6 hk6 HWo)))
          | (go_at_call 15;refine HW6.out.mono ?_;clear HW6;rintro e w7 ⟨v7,rfl,hr7,hk7,ho7⟩;obtain⟨⟨q0,q1,q3⟩,-⟩:=HKp.out w7 hk7;have HR:=Lib.hid (HRd.out w7 ln u9 _ hk7 (H6.out.olds ho7) (HRw.out w7 hk7).1);have HX:=Lib.hid hr7;clear hr7 hk7 ho7 H6)
          | (go_at_call 11;refine HR.out.mono ?_;clear HR;rintro e w8 ⟨hk78,hk8,⟨rfl,h8⟩|⟨rfl,h8⟩⟩;all_goals (have HDk:=Lib.hid h8.dark);all_goals (have HX8:=Lib.hid (HX.out.kp hk78));all_goals (first
           | (have HE9:=Lib.hid (HEA.out w8 u9 _ u11 ln _ lu hk8 (HRw.out w8 hk8).1 HX8.out (HRw.out w8 hk8).2.2 h8);clear h8 hk8 hk78 HX HX8)
           | (have HE9:=Lib.hid (HEG.out w8 u9 _ u9 ln _ ln hk8 (HRw.out w8 hk8).1 HX8.out (HRw.out w8 hk8).1 h8);clear h8 hk8 hk78 HX HX8)))
          | (go_at_call 18;refine HDk.out.mono ?_;rintro e w9 ⟨rfl,hw9⟩;rw [hw9];clear hw9 w9))
         all_goals go_roundw
         all_goals first
          | (case rel=>exact⟨k+1,_,_,_,_,by omega,by go_num,rfl,HE9.out⟩)
          | (case measure=>simp [intOf];omega)
        ·by_cases hq7:x.kind % 14=7
         ·as_aux_lemma =>
          have hqi:(x.kind:Int) % 14=7:=by omega
          have HDro:Hid (Calls Tryz.prog 16 #[u7] A fun e w'=>e=.returned (.tuple #[])∧Kp w.heap.size A w'∧Alive w' w.heap.size db sm N (300+2 * (k+1)) (DD l (k+1)) u7 (lf ln) (lf ln)):=Lib.hid ((Hal.out.drop (by omega)).mono fun e w' ⟨a,b,h⟩=>⟨a,b,h.mono (by omega) (by rw [Hxn.out];omega)⟩)
          clear hq3 hq4 hq7 hq12 hq13
          go_wp2_with (first
           | (go_at_call 16;refine HDro.out.mono ?_;clear HDro;rintro e w6 ⟨rfl,hk6,h6⟩;obtain⟨⟨q0,q1,q3⟩,-⟩:=HKp.out w6 hk6;have HR:=Lib.hid (HRd.out w6 ln u9 _ hk6 h6 (HRw.out w6 hk6).1);have HX:=Lib.hid (HRw.out w6 hk6).1;clear h6 hk6)
           | (go_at_call 11;refine HR.out.mono ?_;clear HR;rintro e w8 ⟨hk78,hk8,⟨rfl,h8⟩|⟨rfl,h8⟩⟩;all_goals (have HDk:=Lib.hid h8.dark);all_goals (have HX8:=Lib.hid (HX.out.kp hk78));all_goals (first
            | (have HE9:=Lib.hid (HEA.out w8 u9 _ u11 ln _ lu hk8 (HRw.out w8 hk8).1 HX8.out (HRw.out w8 hk8).2.2 h8);clear h8 hk8 hk78 HX HX8)
            | (have HE9:=Lib.hid (HEG.out w8 u9 _ u9 ln _ ln hk8 (HRw.out w8 hk8).1 HX8.out (HRw.out w8 hk8).1 h8);clear h8 hk8 hk78 HX HX8)))
           | (go_at_call 18;refine HDk.out.mono ?_;rintro e w9 ⟨rfl,hw9⟩;rw [hw9];clear hw9 w9))
          all_goals go_roundw
          all_goals first
           | (case rel=>exact⟨k+1,_,_,_,_,by omega,by go_num,rfl,HE9.out⟩)
           | (case measure=>simp [intOf];omega)
         ·as_aux_lemma =>
          have j0:((x.kind:Int) % 14 == 0)=false:=by simp;omega
          have j1:((x.kind:Int) % 14 == 1)=false:=by simp;omega
          have j2:((x.kind:Int) % 14 == 2)=false:=by simp;omega
          have j3:((x.kind:Int) % 14 == 3)=false:=by simp;omega
          have j7:((x.kind:Int) % 14 == 7)=false:=by simp;omega
          have j12:((x.kind:Int) % 14 == 12)=false:=by simp;omega
          have j13:((x.kind:Int) % 14 == 13)=false:=by simp;omega
          have j4:decide ((x.kind:Int) % 14<4)=false:=by simp;omega
          have HCom:Hid (Calls Tryz.prog 17 #[u7] A fun e w'=>Kp w.heap.size A w'∧∃c:Nat,e=.returned (.int .u16 c)∧((c=0∧Alive w' w.heap.size db sm N (300+2 * (k+1)) (DD l (k+1)) u7 (lf lx) (lf lx))∨(c=5∧Alive w' w.heap.size db sm N (300+2 * (k+1)) (DD l (k+1)) u7 (lf ln) (lf ln))∨(c=4∧Gone w' w.heap.size db sm N (300+2 * (k+1)) (lf ln) (lf lx)))):=Lib.hid ((Hal.out.commit HHH.out (by omega) (by omega) (by omega)).mono fun e w' ⟨a,c,b,h⟩=>⟨a,c,b,by
           rcases h with ⟨c1,h⟩|⟨c1,h⟩|⟨c1,h⟩
           ·exact .inl ⟨c1,h.mono (by omega) (by rw [Hxn.out];omega)⟩
           ·exact .inr (.inl ⟨c1,h.mono (by omega) (by rw [Hxn.out];omega)⟩)
           ·exact .inr (.inr ⟨c1,h.mono (by omega)⟩)⟩)
          clear hq3 hq4 hq7 hq12 hq13
          go_wp2_with (first
           | (go_at_call 17;refine HCom.out.mono ?_;clear HCom;rintro e w6 ⟨hk6,c6,rfl,⟨rfl,h6⟩|⟨rfl,h6⟩|⟨rfl,h6⟩⟩;all_goals (obtain⟨⟨q0,q1,q3⟩,-⟩:=HKp.out w6 hk6);all_goals (first
            | (have HR:=Lib.hid (HRd.out w6 lx u10 _ hk6 h6 (HRw.out w6 hk6).2.1);clear h6 hk6)
            | (have HR:=Lib.hid (HRd.out w6 ln u9 _ hk6 h6 (HRw.out w6 hk6).1);clear h6 hk6)
            | (have HE9:=Lib.hid (HEG.out w6 u9 u9 u10 ln ln lx hk6 (HRw.out w6 hk6).1 (HRw.out w6 hk6).1 (HRw.out w6 hk6).2.1 h6);clear h6 hk6)))
           | (go_at_call 11;refine HR.out.mono ?_;clear HR;rintro e w8 ⟨-,hk8,⟨rfl,h8⟩|⟨rfl,h8⟩⟩;all_goals (have HDk:=Lib.hid h8.dark);all_goals (first
            | (have HE9:=Lib.hid (HEA.out w8 u10 u10 u10 lx lx lx hk8 (HRw.out w8 hk8).2.1 (HRw.out w8 hk8).2.1 (HRw.out w8 hk8).2.1 h8);clear h8 hk8)
            | (have HE9:=Lib.hid (HEA.out w8 u9 u9 u10 ln ln lx hk8 (HRw.out w8 hk8).1 (HRw.out w8 hk8).1 (HRw.out w8 hk8).2.1 h8);clear h8 hk8)
            | (have HE9:=Lib.hid (HEG.out w8 u10 u10 u10 lx lx lx hk8 (HRw.out w8 hk8).2.1 (HRw.out w8 hk8).2.1 (HRw.out w8 hk8).2.1 h8);clear h8 hk8)
            | (have HE9:=Lib.hid (HEG.out w8 u9 u9 u9 ln ln ln hk8 (HRw.out w8 hk8).1 (HRw.out w8 hk8).1 (HRw.out w8 hk8).1 h8);clear h8 hk8)))
           | (go_at_call 18;refine HDk.out.mono ?_;rintro e w9 ⟨rfl,hw9⟩;rw [hw9];clear hw9 w9))
          all_goals go_roundw
          all_goals first
           | (case rel=>exact⟨k+1,_,_,_,_,by omega,by go_num,rfl,HE9.out⟩)
           | (case measure=>simp [intOf];omega)
   ·obtain rfl:k=n:=by omega
    go_wp2_with fail
    go_ret
    exact⟨rfl,Hlw.out.bel⟩
end Go.Proofs.YtndjmffnlcilbaaGreatDoor
