/- Contracts over this program. Their conditions: the slices read as the lists that are named, and lie within the sizes that are named. -/
import Derived.Test.YtbecggfbblnglaaGreatDoorT11
import Derived.Test.YtbecggfbblnglaaGreatDoorT10
import Derived.Test.YtbecggfbblnglaaGreatDoorP0
import Derived.Deep.RegionWith
import Derived.Deep.CutRange
set_option linter.unusedSimpArgs false
set_option linter.unusedVariables false
set_option linter.deprecated false
set_option linter.unnecessarySimpa false
namespace Go.Proofs.YtbecggfbblnglaaGreatDoor
open Go Go.RowKit Go.Ix
set_option maxRecDepth 20000 in
set_option maxHeartbeats 8000000 in
theorem rmay_rows (o:Option Addr) (c:Nat) (l:List Ent) (w:World) (hs:Small l) (hc:RowsE w o l):Calls Tryz.prog 76 #[.slice o l.length c] w fun e w'=>Says (May l) e∧Below w.heap.size w w':=by
 have Hc:=Lib.hid hc
 have Hs:=Lib.hid hs
 have hm:=hs.1
 clear hc hs
 generalize hn:l.length=n at *
 have Hn:=Lib.hid hn
 clear hn
 by_cases hbig:4096<n
 ·have Hr:Hid (¬ May l):=Lib.hid (fun h=>by have:=h.1;rw [Hn.out] at this;omega)
  go_enter Tryz.func76,Tryz.ntmps76
  go_wp2_with fail
  go_ret
  exact⟨.inr ⟨rfl,Hr.out⟩,Below.refl _ _⟩
 ·go_enter Tryz.func76,Tryz.ntmps76
  go_wp2_with fail
  go_loopw [3,4,5] (fun iv _ _ wr=>∃k:Nat,k≤n∧iv=.int .i64 k∧Below w.heap.size w wr∧∀i,i<k→EntOk l i) (fun iv _ _ _=>n-(intOf iv).toNat)
  case atStart=>exact⟨0,Nat.zero_le _,rfl,Below.refl _ _,fun i h=>by omega⟩
  case round =>
   obtain⟨k,hk,rfl,hb,hok⟩:=hrel
   have Hok:=Lib.hid hok
   have Hb:=Lib.hid hb
   have Hcr:=Lib.hid (Hc.out.olds (Olds.of_below hb))
   clear hok hb
   by_cases hlt:k<n
   ·obtain⟨b,off,e1,e2,o1,n1,c1,o2,n2,c2,rfl,hx,hc1,hc2,hl1,hl2,hr1,hr2,_⟩:=Hcr.out.at (k:=k) (by rw [Hn.out];exact hlt)
    obtain⟨hs1,hs2,hs3⟩:=Hs.out.ent hx
    have hn1:n1≤1000000000:=by omega
    have hn2:n2≤1000000000:=by omega
    have Hx:=Lib.hid hx
    have Hr1:=Lib.hid hr1
    have Hr2:=Lib.hid hr2
    have Hl1:=Lib.hid hl1
    have Hl2:=Lib.hid hl2
    have HC:=Lib.hid (fun q=>(by
     have:=rcheck_rows o1 c1 e1 (wr.drewN q) hs1 hs3 (Hr1.out.olds (Olds.drewN _ _))
     rw [show e1.length=n1 from Hl1.out] at this
     exact Calls.drew this:Calls Tryz.prog 72 #[.slice o1 n1 c1] (wr.drewN q) fun e w''=>e=.returned (.int .u16 (check e1))∧∃m,w''=wr.drewN m))
    have HS3:=Lib.hid hs3
    clear hx hr1 hr2 hl1 hl2 hs3
    by_cases hck:check e1=0
    ·have hckb:(check e1 != 0)=false:=by simpa using hck
     have key:(¬ 0<k∧Hid (0<k→∀d,l[k-1]?=some d→cmpL d.1 e1<0))∨(0<k∧∃j:Nat,(k:Int)-1=(j:Int)∧j<n∧∃d1 o3 n3 c3,wr.cell? ⟨b,off+j * 2,none⟩=some (.slice o3 n3 c3)∧n3≤1000000000∧Hid (∀q,Calls Tryz.prog 73 #[.slice o3 n3 c3,.slice o1 n1 c1] (wr.drewN q) fun e w''=>e=.returned (.int .i64 (cmpL d1 e1))∧∃m,w''=wr.drewN m)∧Hid (cmpL d1 e1<0→0<k→∀d,l[k-1]?=some d→cmpL d.1 e1<0)∧Hid (¬ cmpL d1 e1<0→¬ May l)):=by
      by_cases h0:k=0
      ·exact .inl ⟨by omega,Lib.hid (fun h=>by omega)⟩
      ·refine .inr ⟨by omega,k-1,by omega,by omega,?_⟩
       obtain⟨d1,d2,o3,n3,c3,o4,n4,c4,hxd,hcd,_,hld,_,hrd,_⟩:=Hcr.out.next (k:=k-1) (by rw [Hn.out];omega)
       obtain⟨hsd,_⟩:=Hs.out.ent hxd
       refine⟨d1,o3,n3,c3,hcd,by omega,Lib.hid (fun q=>?_),Lib.hid (fun h _ d hd=>?_),Lib.hid (fun h hmay=>?_)⟩
       ·have:=rcmp_rows o3 o1 c3 c1 d1 e1 (wr.drewN q) hsd hs1 (hrd.olds (Olds.drewN _ _)) (Hr1.out.olds (Olds.drewN _ _))
        rw [show e1.length=n1 from Hl1.out,hld] at this
        exact Calls.drew this
       ·rw [hxd] at hd
        cases hd
        exact h
       ·exact h ((hmay.2 k (by rw [Hn.out];exact hlt) _ Hx.out).2.1 (by omega) _ hxd)
     have Hck:=Lib.hid hck
     clear hck
     rcases key with ⟨h0,HP⟩|⟨hkp,j0,hkj,hj0,d1,o3,n3,c3,hcd,hn3,HD,HP0,HNo⟩
     ·go_wp2_with fail
      go_quiet (first | exact HC.out _ | exact HD.out _)
      go_wp2_with fail
      have Hb2:=Lib.hid (below_drewN Hb.out nq)
      have hsz2:=Hb2.out.size
      have Ho2:=Lib.hid (Olds.drewN wr nq)
      have hc2':=Ho2.out.cell hc2
      generalize wr.drewN nq=w2 at *
      go_loopw [4,5] (fun jv _ wq=>∃j:Nat,j≤n2∧jv=.int .i64 j∧Below w.heap.size w wq∧Below w2.heap.size w2 wq∧∀i,i<j→PlcAt e2 i) (fun jv _ _=>n2-(intOf jv).toNat)
      case atStart=>exact⟨0,Nat.zero_le _,rfl,Hb2.out,Below.refl _ _,fun i h=>by omega⟩
      case round =>
       obtain⟨j,hj,rfl,hbq,hbq2,hpl⟩:=hrel
       have Hbq:=Lib.hid hbq
       have Hbq2:=Lib.hid hbq2
       have Hpl:=Lib.hid hpl
       have hcq:=(Olds.of_below hbq2).cell hc2'
       have Hr5:=Lib.hid ((Hr2.out.olds Ho2.out).olds (Olds.of_below hbq2))
       have hszq:=hbq.size
       clear hbq hbq2 hpl
       by_cases hjn:j<n2
       ·obtain⟨b5,off5,p,rfl,hp,hp0,hp1,hp2,hp3,hp4⟩:=Hr5.out.at (k:=j) (by rw [Hl2.out];exact hjn)
        have Hp:=Lib.hid hp
        clear hp
        obtain⟨p0,p1,p2,p3,p4⟩:=p
        simp only at hp0 hp1 hp2 hp3 hp4
        by_cases hok:PlcOk ⟨p0,p1,p2,p3,p4⟩
        ·obtain⟨q1,q2,q3,q4,q5,q6,q7,q8,q9⟩:=id hok
         unfold far at q2 q3
         simp only at q1 q2 q3 q4 q5 q6 q7 q8 q9
         have Hpok:=Lib.hid hok
         clear hok
         have hsz2q:=Hbq2.out.size
         have hcqA:∀ob,(wr.alloc ob).cell? ⟨b,off+k * 2+1,none⟩=some (.slice (some ⟨b5,off5,none⟩) n2 c2):=fun ob=>(Olds.alloc wr ob).cell hcq
         by_cases hj0:0<j
         ·obtain⟨i0,hji,hi0,hiN⟩:∃i:Nat,(j:Int)-1=(i:Int)∧i<n2∧Hid (i=j-1):=⟨j-1,by omega,by omega,Lib.hid rfl⟩
          obtain⟨pd,hpd,_,hd1,_⟩:=Hr5.out.next (k:=i0) (by rw [Hl2.out];exact hi0)
          have Hpd:=Lib.hid hpd
          clear hpd
          obtain⟨g0,g1,g2,g3,g4⟩:=pd
          simp only at hd1
          have hd1A:∀ob,(wr.alloc ob).cell? ⟨b5,off5+i0 * 5+1,none⟩=some (.int .i64 g1):=fun ob=>(Olds.alloc wr ob).cell hd1
          by_cases hlt3:g1<p0
          ·have Hat:Hid (PlcAt e2 j):=Lib.hid (fun c hc=>by
            rw [Hp.out] at hc
            cases hc
            refine⟨Hpok.out,fun _ d hd=>?_⟩
            rw [← hiN.out,Hpd.out] at hd
            cases hd
            exact hlt3)
           go_wp2_with fail
           go_quiet (fail)
           go_wp2_with fail
           go_roundw
           case rel=>exact⟨j+1,by omega,by go_num,below_drewN (Hbq.out.alloc (by omega) _) _,below_drewN (Hbq2.out.alloc (by omega) _) _,fun i hi=>by
            by_cases h:i<j
            ·exact Hpl.out i h
            ·obtain rfl:i=j:=by omega
             exact Hat.out⟩
           case measure=>simp [intOf];omega
          ·have Hno:Hid (¬ May l):=Lib.hid (fun h=>hlt3 (((h.ent (List.mem_of_getElem? Hx.out)).2 j (by rw [Hl2.out];exact hjn) _ Hp.out).2 hj0 _ (by rw [← hiN.out];exact Hpd.out)))
           go_wp2_with fail
           go_quiet (fail)
           go_wp2_with fail
           go_ret
           exact⟨.inr ⟨rfl,Hno.out⟩,below_drewN (Hbq.out.alloc (by omega) _) _⟩
         ·have Hat:Hid (PlcAt e2 j):=Lib.hid (fun c hc=>by
           rw [Hp.out] at hc
           cases hc
           exact⟨Hpok.out,fun h=>absurd h hj0⟩)
          go_wp2_with fail
          go_quiet (fail)
          go_wp2_with fail
          go_roundw
          case rel=>exact⟨j+1,by omega,by go_num,below_drewN (Hbq.out.alloc (by omega) _) _,below_drewN (Hbq2.out.alloc (by omega) _) _,fun i hi=>by
           by_cases h:i<j
           ·exact Hpl.out i h
           ·obtain rfl:i=j:=by omega
            exact Hat.out⟩
          case measure=>simp [intOf];omega
        ·have Hno:Hid (¬ May l):=Lib.hid (fun h=>hok ((h.ent (List.mem_of_getElem? Hx.out)).2.plc (List.mem_of_getElem? Hp.out)))
         have hsz2q:=Hbq2.out.size
         unfold PlcOk far at hok
         simp only at hok
         go_wp2_with fail
         all_goals first
          | (go_ret;exact⟨.inr ⟨rfl,Hno.out⟩,Hbq.out.alloc (by omega) _⟩)
          | (exfalso;omega)
          | (exfalso;rename_i hx;simp at hx;omega)
       ·go_wp2_with fail
        go_roundw
        case rel=>exact⟨k+1,by omega,by go_num,Hbq.out,fun i hi=>by
         by_cases h:i<k
         ·exact Hok.out i h
         ·obtain rfl:i=k:=by omega
          intro e he
          rw [Hx.out] at he
          cases he
          exact⟨Hck.out,HP.out,fun i hi=>Hpl.out i (by have:=Hl2.out;simp only at hi;omega)⟩⟩
        case measure=>simp [intOf];omega
     ·by_cases hcm:cmpL d1 e1<0
      ·have HP:=Lib.hid (HP0.out hcm)
       clear HP0 HNo
       go_wp2_with fail
       go_quiet (first | exact HC.out _ | exact HD.out _)
       go_wp2_with fail
       have Hb2:=Lib.hid (below_drewN Hb.out nq)
       have hsz2:=Hb2.out.size
       have Ho2:=Lib.hid (Olds.drewN wr nq)
       have hc2':=Ho2.out.cell hc2
       generalize wr.drewN nq=w2 at *
       go_loopw [4,5] (fun jv _ wq=>∃j:Nat,j≤n2∧jv=.int .i64 j∧Below w.heap.size w wq∧Below w2.heap.size w2 wq∧∀i,i<j→PlcAt e2 i) (fun jv _ _=>n2-(intOf jv).toNat)
       case atStart=>exact⟨0,Nat.zero_le _,rfl,Hb2.out,Below.refl _ _,fun i h=>by omega⟩
       case round =>
        obtain⟨j,hj,rfl,hbq,hbq2,hpl⟩:=hrel
        have Hbq:=Lib.hid hbq
        have Hbq2:=Lib.hid hbq2
        have Hpl:=Lib.hid hpl
        have hcq:=(Olds.of_below hbq2).cell hc2'
        have Hr5:=Lib.hid ((Hr2.out.olds Ho2.out).olds (Olds.of_below hbq2))
        have hszq:=hbq.size
        clear hbq hbq2 hpl
        by_cases hjn:j<n2
        ·obtain⟨b5,off5,p,rfl,hp,hp0,hp1,hp2,hp3,hp4⟩:=Hr5.out.at (k:=j) (by rw [Hl2.out];exact hjn)
         have Hp:=Lib.hid hp
         clear hp
         obtain⟨p0,p1,p2,p3,p4⟩:=p
         simp only at hp0 hp1 hp2 hp3 hp4
         by_cases hok:PlcOk ⟨p0,p1,p2,p3,p4⟩
         ·obtain⟨q1,q2,q3,q4,q5,q6,q7,q8,q9⟩:=id hok
          unfold far at q2 q3
          simp only at q1 q2 q3 q4 q5 q6 q7 q8 q9
          have Hpok:=Lib.hid hok
          clear hok
          have hsz2q:=Hbq2.out.size
          have hcqA:∀ob,(wr.alloc ob).cell? ⟨b,off+k * 2+1,none⟩=some (.slice (some ⟨b5,off5,none⟩) n2 c2):=fun ob=>(Olds.alloc wr ob).cell hcq
          by_cases hj0:0<j
          ·obtain⟨i0,hji,hi0,hiN⟩:∃i:Nat,(j:Int)-1=(i:Int)∧i<n2∧Hid (i=j-1):=⟨j-1,by omega,by omega,Lib.hid rfl⟩
           obtain⟨pd,hpd,_,hd1,_⟩:=Hr5.out.next (k:=i0) (by rw [Hl2.out];exact hi0)
           have Hpd:=Lib.hid hpd
           clear hpd
           obtain⟨g0,g1,g2,g3,g4⟩:=pd
           simp only at hd1
           have hd1A:∀ob,(wr.alloc ob).cell? ⟨b5,off5+i0 * 5+1,none⟩=some (.int .i64 g1):=fun ob=>(Olds.alloc wr ob).cell hd1
           by_cases hlt3:g1<p0
           ·have Hat:Hid (PlcAt e2 j):=Lib.hid (fun c hc=>by
             rw [Hp.out] at hc
             cases hc
             refine⟨Hpok.out,fun _ d hd=>?_⟩
             rw [← hiN.out,Hpd.out] at hd
             cases hd
             exact hlt3)
            go_wp2_with fail
            go_quiet (fail)
            go_wp2_with fail
            go_roundw
            case rel=>exact⟨j+1,by omega,by go_num,below_drewN (Hbq.out.alloc (by omega) _) _,below_drewN (Hbq2.out.alloc (by omega) _) _,fun i hi=>by
             by_cases h:i<j
             ·exact Hpl.out i h
             ·obtain rfl:i=j:=by omega
              exact Hat.out⟩
            case measure=>simp [intOf];omega
           ·have Hno:Hid (¬ May l):=Lib.hid (fun h=>hlt3 (((h.ent (List.mem_of_getElem? Hx.out)).2 j (by rw [Hl2.out];exact hjn) _ Hp.out).2 hj0 _ (by rw [← hiN.out];exact Hpd.out)))
            go_wp2_with fail
            go_quiet (fail)
            go_wp2_with fail
            go_ret
            exact⟨.inr ⟨rfl,Hno.out⟩,below_drewN (Hbq.out.alloc (by omega) _) _⟩
          ·have Hat:Hid (PlcAt e2 j):=Lib.hid (fun c hc=>by
            rw [Hp.out] at hc
            cases hc
            exact⟨Hpok.out,fun h=>absurd h hj0⟩)
           go_wp2_with fail
           go_quiet (fail)
           go_wp2_with fail
           go_roundw
           case rel=>exact⟨j+1,by omega,by go_num,below_drewN (Hbq.out.alloc (by omega) _) _,below_drewN (Hbq2.out.alloc (by omega) _) _,fun i hi=>by
            by_cases h:i<j
            ·exact Hpl.out i h
            ·obtain rfl:i=j:=by omega
             exact Hat.out⟩
           case measure=>simp [intOf];omega
         ·have Hno:Hid (¬ May l):=Lib.hid (fun h=>hok ((h.ent (List.mem_of_getElem? Hx.out)).2.plc (List.mem_of_getElem? Hp.out)))
          have hsz2q:=Hbq2.out.size
          unfold PlcOk far at hok
          simp only at hok
          go_wp2_with fail
          all_goals first
           | (go_ret;exact⟨.inr ⟨rfl,Hno.out⟩,Hbq.out.alloc (by omega) _⟩)
           | (exfalso;omega)
           | (exfalso;rename_i hx;simp at hx;omega)
        ·go_wp2_with fail
         go_roundw
         case rel=>exact⟨k+1,by omega,by go_num,Hbq.out,fun i hi=>by
          by_cases h:i<k
          ·exact Hok.out i h
          ·obtain rfl:i=k:=by omega
           intro e he
           rw [Hx.out] at he
           cases he
           exact⟨Hck.out,HP.out,fun i hi=>Hpl.out i (by have:=Hl2.out;simp only at hi;omega)⟩⟩
         case measure=>simp [intOf];omega
      ·have Hno:=Lib.hid (HNo.out hcm)
       clear HP0 HNo
       go_wp2_with fail
       go_quiet (first | exact HC.out _ | exact HD.out _)
       go_wp2_with fail
       go_ret
       exact⟨.inr ⟨rfl,Hno.out⟩,below_drewN Hb.out _⟩
    ·have Hno:Hid (¬ May l):=Lib.hid (fun h=>hck (h.ent (List.mem_of_getElem? Hx.out)).1)
     have hckb:(check e1 != 0)=true:=by simpa using hck
     have Hck:=Lib.hid hck
     clear hck
     go_wp2_with fail
     go_quiet (exact HC.out _)
     go_wp2_with fail
     go_ret
     exact⟨.inr ⟨rfl,Hno.out⟩,below_drewN Hb.out _⟩
   ·go_wp2_with fail
    go_ret
    exact⟨.inl ⟨rfl,by rw [Hn.out];omega,fun i hi=>Hok.out i (by rw [Hn.out] at hi;omega)⟩,Hb.out⟩
end Go.Proofs.YtbecggfbblnglaaGreatDoor
namespace Go.Proofs.YtbecggfbblnglaaGreatDoor
open Go Go.RowKit Go.Ix
set_option maxRecDepth 20000 in
set_option maxHeartbeats 1000000 in
theorem put14_any {w:World}{B:Nat}{K:Nat→Prop}{v:Value}{bs:List Nat}(n many:Nat) (h:Row8 w B v bs) (hfr:Free K v) (hK:∀k,K k→k<w.heap.size) (hB:B≤w.heap.size) (hn:n<18446744073709551616) (hm:many≤8) (hl:bs.length≤100000000000) :
  Calls Tryz.prog 78 #[v,.int .u64 n,.int .i64 many] w fun e w'=>∃v',e=.returned v'∧Row8 w' B v' (bs++low many n)∧Free K v'∧Kept K w w':=by
 obtain⟨i0,hi0,hz0,hz1,hz2⟩:=info_parts Tryz.info5
 have HK:=Lib.hid hK
 have H:=Lib.hid h
 have HF:=Lib.hid hfr
 obtain⟨o,c,rfl,_⟩:=ownsRow_shape h
 clear hK h hfr
 generalize hN0:bs.length=N0 at *
 have HN0:=Lib.hid hN0
 clear hN0
 go_enter Tryz.func78,Tryz.ntmps78
 go_wp2_with fail
 go_loopw [0,1,7] (fun sv nv iv wr=>∃(k m:Nat) (ds:List Nat),k≤many∧iv=.int .i64 k∧nv=.int .u64 m∧m<18446744073709551616∧ds.length=k∧low many n=ds++low (many-k) m∧Row8 wr B sv (bs++ds)∧Free K sv∧Kept K w wr) (fun _ _ iv _=>many-(intOf iv).toNat)
 case atStart=>exact⟨0,n,[],Nat.zero_le _,rfl,rfl,hn,rfl,rfl,by rw [List.append_nil];exact H.out,HF.out,Kept.refl _ _⟩
 case round =>
  obtain⟨k,m,ds,hk,rfl,rfl,hm64,hdl,hlow,hrow,hfree,hkept⟩:=hrel
  have Hlow:=Lib.hid hlow
  have Hkept:=Lib.hid hkept
  have Hrow8:=Lib.hid hrow
  have hsz:=hkept.size
  unfold Row8 at hrow
  obtain⟨o,c,rfl,_⟩:=ownsRow_shape hrow
  have Hrow:=Lib.hid hrow
  have Hfree:=Lib.hid hfree
  have hbl:(bs++ds).length=N0+k:=by rw [List.length_append,hdl,HN0.out]
  clear hlow hkept hrow hfree
  generalize hN:(bs++ds).length=N at *
  have HN:=Lib.hid hN
  have hNb:N≤100000000008:=by omega
  clear hN hbl
  by_cases hlt:k<many
  ·go_wp2_with (at_builtin;refine wpList_append_lies _ rfl _ _ _ rfl B 5 i0 _ 1 1 Tryz.underlying26 hi0 hz0 hz1 hz2 rfl Nat.one_pos (.slice o N c) N (octs (bs++ds)) rfl (ownsRow_olds Hrow.out (Olds.alloc _ _)) ⟨wr.heap.size,0,none⟩ 1 1 [.int .u8 ((m:Int) % 256)] rfl rfl (World.news_of_block (cs:=#[.int .u8 ((m:Int) % 256)]) (t:=5) (fr:=(0,0)) (heap_alloc_new wr _)) (by simp [Value.oneCell']) Nat.one_pos (by unfold maxLen;omega) (by omega) (by simp;omega) (wr.heap.size+1) (by simp) ?_;intro gg cap2 w4 hown4 hgrow hat hlt4)
   have Hg:Hid (Free K (.slice (some ⟨gg,0,none⟩) (N+1) cap2)):=Lib.hid (by
    intro g hg
    cases hg
    rcases hat with e | e
    ·exact Hfree.out gg e
    ·exact fun h=>by have:=HK.out gg h;omega)
   have Hnew:Hid (Row8 w4 B (.slice (some ⟨gg,0,none⟩) (N+1) cap2) (bs++(ds++[m % 256]))):=Lib.hid (by
    unfold Row8
    rw [← List.append_assoc,octs_append,List.length_append,HN.out]
    exact hown4)
   have Hk4:Hid (Kept K w w4):=Lib.hid ((Hkept.out.alloc HK.out _).grown hgrow HK.out Hfree.out)
   go_roundw
   case rel=>exact⟨k+1,m / 256,ds++[m % 256],by omega,by go_num,by congr 1,by omega,by rw [List.length_append,hdl];rfl,by
    rw [Hlow.out,show many-k=(many-(k+1))+1 by omega,low_step,List.append_assoc]
    rfl,Hnew.out,Hg.out,Hk4.out⟩
   case measure=>simp [intOf];omega
  ·go_wp2_with fail
   go_ret
   obtain rfl:k=many:=by omega
   have he:bs++low k n=bs++ds:=by
    have:=Hlow.out
    rw [Nat.sub_self] at this
    rw [this]
    show bs++(ds++[])=_
    rw [List.append_nil]
   rw [he]
   exact⟨_,rfl,Hrow8.out,Hfree.out,Hkept.out⟩
end Go.Proofs.YtbecggfbblnglaaGreatDoor
namespace Go.Proofs.YtbecggfbblnglaaGreatDoor
open Go Go.RowKit Go.Ix
theorem nat_at {w:World}{B g n c:Nat}{zs:List Nat}(h:w.ownsRow B 3 1 (.slice (some ⟨g,0,none⟩) n c) n (nats zs)) {j z:Nat}(hz:zs[j]?=some z):w.cell? ⟨g,j,none⟩=some (.int .i64 (z:Int)):=by
 have:=ownsRow_cell h j (.int .i64 (z:Int)) (by unfold nats;rw [List.getElem?_map,hz];rfl)
 rwa [Nat.zero_add] at this
theorem Row8.form {w:World}{B:Nat}{v:Value}{bs:List Nat}(h:Row8 w B v bs):∃o c,v=.slice o bs.length c:=by
 obtain⟨o,c,e,_⟩:=ownsRow_shape h
 exact⟨o,c,e⟩
set_option maxRecDepth 20000 in
set_option maxHeartbeats 8000000 in
theorem rpostings_rows {w0 w:World}{K:Nat→Prop}{v:Value}{bs:List Nat}{l:List Ent}{ss:List Txt}{G:Nat×Nat→List Nat}(o so:Option Addr) (c sc:Nat)
  (hs:Small l) (hc:RowsE w0 o l) (hb:Below w0.heap.size w0 w) (hv:Row8 w w0.heap.size v bs) (hfr:Free K v) (hK:∀k,K k→k<w.heap.size) (hK0:∀k,k<w0.heap.size→K k)
  (hsy:TextsAt w so ss) (hsK:∀b off,so=some ⟨b,off,none⟩→K b) (hss:ss.length≤8000) (hl60:l.length≤60) (hbl:bs.length≤10000000000)
  (hG:∀(i k:Nat) (s x:Txt),ss[i]?=some s→ss[k]?=some x→ofL l s x=G (i,k)) (hGl:∀p,(G p).length≤60) (hG60:∀p,∀z∈G p,z<60) :
  Calls Tryz.prog 80 #[v,.slice o l.length c,.slice so ss.length sc] w fun e w'=>∃v',e=.returned v'∧Row8 w' w0.heap.size v' (bs++postPart ss.length G)∧Free K v'∧Kept K w w':=by
 obtain⟨i0,hi0,hz0,hz1,hz2⟩:=info_parts Tryz.info5
 have Hc:=Lib.hid hc
 have Hs:=Lib.hid hs
 have Hb:=Lib.hid hb
 have Hv:=Lib.hid hv
 have Hfr:=Lib.hid hfr
 have HK:=Lib.hid hK
 have HK0:=Lib.hid hK0
 have Hsy:=Lib.hid hsy
 have HsK:=Lib.hid hsK
 have HG:=Lib.hid hG
 have HGl:=Lib.hid hGl
 have HG60:=Lib.hid hG60
 have hsz0:=hb.size
 obtain⟨vo,vc,rfl⟩:=hv.form
 clear hc hs hb hv hfr hK hK0 hsy hsK hG hGl hG60
 generalize hn:ss.length=n at *
 have Hn:=Lib.hid hn
 generalize hlm:l.length=m at *
 have Hm:=Lib.hid hlm
 generalize hbn:bs.length=bn at *
 have Hbn:=Lib.hid hbn
 clear hn hlm hbn
 have HO:Hid (∀(W:World) (s x:Txt),Below w.heap.size w W→Calls Tryz.prog 118 #[.slice o m c,encStr s,encStr x] W fun e w'=>∃u,e=.returned u∧RowI w' W.heap.size u (ofL l s x)∧Below W.heap.size W w'):=Lib.hid (fun W s x hW=>of_rows o c m l s x W Hs.out Hm.out (Hc.out.olds (Olds.of_below (Hb.out.trans (hW.mono hsz0)))))
 go_enter Tryz.func80,Tryz.ntmps80
 go_wp2_with fail
 go_loopw [7,8,9,10,11,12] (fun pv nv iv _ _ _ wr=>∃i:Nat,i≤n∧iv=.int .i64 i∧nv=.int .i64 ((kept G (aheadP n i 0)).length:Nat)∧Below w.heap.size w wr∧Row8 wr w.heap.size pv (bytesOf G (aheadP n i 0))) (fun _ _ iv _ _ _ _=>n-(intOf iv).toNat)
 case atStart=>exact⟨0,Nat.zero_le _,rfl,rfl,Below.refl _ _,World.ownsRow_nil _ _ _ _⟩
 case round =>
  obtain⟨i,hi,rfl,rfl,hbr,hpart⟩:=hrel
  have Hbr:=Lib.hid hbr
  have Hpart:=Lib.hid hpart
  have hszr:=hbr.size
  clear hbr hpart
  by_cases hin:i<n
  ·obtain⟨sb,soff,si,rfl,hsi,hcsi⟩:=Hsy.out.at (k:=i) (by rw [Hn.out];exact hin)
   have Hsi:=Lib.hid hsi
   clear hsi
   go_wp2_with fail
   go_loopw [7,8,10,11,12] (fun pv nv kv _ _ wr2=>∃k:Nat,k≤n∧kv=.int .i64 k∧nv=.int .i64 ((kept G (aheadP n i k)).length:Nat)∧Below w.heap.size w wr2∧Row8 wr2 w.heap.size pv (bytesOf G (aheadP n i k))) (fun _ _ kv _ _ _=>n-(intOf kv).toNat)
   case atStart=>exact⟨0,Nat.zero_le _,rfl,rfl,Hbr.out,Hpart.out⟩
   case round =>
    obtain⟨k,hk,rfl,rfl,hbr2,hpart2⟩:=hrel
    have Hbr2:=Lib.hid hbr2
    have Hpart2:=Lib.hid hpart2
    have hszr2:=hbr2.size
    have hal:(aheadP n i k).length≤64008000:=by
     rw [ahead_len]
     have:i * n≤8000 * 8000:=Nat.mul_le_mul (by omega) (by omega)
     omega
    have hkl:=kept_len G (aheadP n i k)
    by_cases hkn:k<n
    ·obtain⟨sk,hsk,hcsk⟩:=Hsy.out.next (k:=k) (by rw [Hn.out];exact hkn)
     have hcsi2:=(Olds.of_below hbr2).cell hcsi
     have hcsk2:=(Olds.of_below hbr2).cell hcsk
     have Hof:Hid (ofL l si sk=G (i,k)):=Lib.hid (HG.out i k si sk Hsi.out hsk)
     have HC:Hid (Calls Tryz.prog 118 #[.slice o m c,encStr si,encStr sk] wr.drew fun e w'=>∃u,e=.returned u∧RowI w' wr.heap.size u (ofL l si sk)∧Below wr.heap.size wr w'):=Lib.hid ((HO.out wr.drew si sk hbr2.drew).mono fun e w' ⟨u,h1,h2,h3⟩=>⟨u,h1,h2,(Below.refl _ wr).drew.trans h3⟩)
     clear hbr2 hpart2 hsk
     rw [Hof.out] at HC
     have hz60:=HGl.out (i,k)
     have HZ60:=Lib.hid (HG60.out (i,k))
     generalize hzs:G (i,k)=zs at *
     have Hzs:=Lib.hid hzs
     clear hzs
     generalize hznl:zs.length=zn at *
     have Hzn:=Lib.hid hznl
     clear hznl
     go_upto_region 9 with fail
     go_cut [11] from 25 to 34 (fun u wx=>(∃uo uc,u=.slice uo zn uc∧(uo=none→zn=0)∧wx.ownsRow wr.heap.size 3 1 (.slice uo zn uc) zn (nats zs))∧Below wr.heap.size wr wx)
     case first =>
      go_region_with (go_at_call 118;refine HC.out.mono ?_;clear HC;rintro e w2 ⟨u,rfl,hu,b2⟩;unfold RowI at hu;rw [Hzn.out] at hu;obtain⟨uo,uc,rfl,hu0⟩:=ownsRow_shape hu;have B2:=Lib.hid b2;have Hu:=Lib.hid hu;clear hu b2)
      all_goals (go_wp2_with fail;go_meet;case rel=>exact⟨⟨uo,uc,rfl,fun e=>(hu0 e).1,Hu.out⟩,B2.out⟩)
     case rest =>
     obtain⟨⟨uo,uc,rfl,hu0,hu⟩,b2⟩:=hcut
     generalize wc=w2 at *
     have Hu:=Lib.hid hu
     have B2:=Lib.hid b2
     clear hu b2
     by_cases hz:zs=[]
     ·subst hz
      have hzn0:zn=0:=by rw [← Hzn.out];rfl
      subst hzn0
      go_wp2_with fail
      go_roundw
      case rel=>exact⟨k+1,by omega,by go_num,by rw [ahead_step,kept_none Hzs.out],Hbr2.out.trans (B2.out.mono hszr2),by rw [ahead_step,bytes_none Hzs.out];exact ownsRow_olds Hpart2.out (Olds.of_below B2.out)⟩
      case measure=>simp [intOf];omega
     ·have hzp:0<zn:=by rw [← Hzn.out];exact List.length_pos_iff.2 hz
      have Hz:=Lib.hid hz
      clear hz
      have hbb:(bytesOf G (aheadP n i k)).length≤16130016000:=by
       have:=bytesOf_len HGl.out (aheadP n i k)
       omega
      generalize hps:bytesOf G (aheadP n i k)=ps at *
      have Hps:=Lib.hid hps
      clear hps
      generalize hcnt:(kept G (aheadP n i k)).length=cnt at *
      have Hcnt:=Lib.hid hcnt
      clear hcnt
      obtain⟨po,pc,hpv⟩:=Hpart2.out.form
      subst hpv
      have HP:Hid (∀(ug:Nat) (w2 W:World) (v:Value) (bs':List Nat) (num:Nat),w.heap.size≤w2.heap.size→ug<w2.heap.size→Row8 W w.heap.size v bs'→Free (fun b=>b<w.heap.size∨b=ug) v→Kept (fun b=>b<w.heap.size∨b=ug) w2 W→num<18446744073709551616→bs'.length≤100000000000→Calls Tryz.prog 78 #[v,.int .u64 num,.int .i64 4] W fun e w'=>∃v',e=.returned v'∧Row8 w' w.heap.size v' (bs'++low 4 num)∧Free (fun b=>b<w.heap.size∨b=ug) v'∧Kept (fun b=>b<w.heap.size∨b=ug) w2 w'):=Lib.hid (fun ug w2 W v bs' num h1 h2 h3 h4 h5 h6 h7=>by
       have h8:=h5.size
       exact (put14_any num 4 h3 h4 (fun b hb=>by rcases hb with hb | rfl<;>omega) (by omega) h6 (by decide) h7).mono fun e w' ⟨v',g1,g2,g3,g4⟩=>⟨v',g1,g2,g3,h5.trans g4⟩)
      cases uo with
      | none=>exact absurd (hu0 rfl) (by omega)
      | some ua =>
       obtain⟨ug,rfl⟩:∃ug,ua=⟨ug,0,none⟩:=by
        rcases Hu.out.2 with ⟨e,_⟩|⟨g,_,_,e,_⟩
        ·cases e
        ·simp only [Value.slice.injEq,Option.some.injEq] at e
         exact⟨g,e.1⟩
       have hug:=ownsRow_block Hu.out (g:=ug) rfl
       have hs2:=B2.out.size
       have Hrow2:Hid (Row8 w2 w.heap.size (.slice po ps.length pc) ps):=Lib.hid (ownsRow_olds Hpart2.out (Olds.of_below B2.out))
       have Hfree2:Hid (Free (fun b=>b<w.heap.size∨b=ug) (.slice po ps.length pc)):=Lib.hid (fun g hg h=>by
        have:=ownsRow_block Hpart2.out hg
        rcases h with h | h<;>omega)
       have HP1:=Lib.hid (HP.out ug w2 w2 _ _ i (by omega) hug.2 Hrow2.out Hfree2.out (Kept.refl _ _) (by omega) (by omega))
       clear hu0
       go_wp2_with (first
        | (go_at_call 78;refine HP1.out.mono ?_;clear HP1;rintro e w3 ⟨v3,rfl,hrow3,hfree3,hkept3⟩;have Hrow3:=Lib.hid hrow3;have Hfree3:=Lib.hid hfree3;have Hkept3:=Lib.hid hkept3;clear hrow3 hfree3 hkept3;have HP2:=Lib.hid (HP.out ug w2 w3 _ _ k (by omega) hug.2 Hrow3.out Hfree3.out Hkept3.out (by omega) (by rw [List.length_append,low_len];omega)))
        | (go_at_call 78;refine HP2.out.mono ?_;clear HP2;rintro e w4 ⟨v4,rfl,hrow4,hfree4,hkept4⟩;have Hrow4:=Lib.hid hrow4;have Hfree4:=Lib.hid hfree4;have Hkept4:=Lib.hid hkept4;clear hrow4 hfree4 hkept4;have HP3:=Lib.hid (HP.out ug w2 w4 _ _ zn (by omega) hug.2 Hrow4.out Hfree4.out Hkept4.out (by omega) (by rw [List.length_append,List.length_append,low_len,low_len];omega)))
        | (go_at_call 78;refine HP3.out.mono ?_;clear HP3;rintro e w5 ⟨v5,rfl,hrow5,hfree5,hkept5⟩;have Hrow5:=Lib.hid hrow5;have Hfree5:=Lib.hid hfree5;have Hkept5:=Lib.hid hkept5;clear hrow5 hfree5 hkept5))
       go_loopw [7,12] (fun pv jv wq=>∃j:Nat,j≤zn∧jv=.int .i64 j∧Row8 wq w.heap.size pv (ps++low 4 i++low 4 k++low 4 zn++(zs.take j).flatMap fun z=>low 4 z)∧Free (fun b=>b<w.heap.size∨b=ug) pv∧Kept (fun b=>b<w.heap.size∨b=ug) w2 wq) (fun _ jv _=>zn-(intOf jv).toNat)
       case atStart=>exact⟨0,Nat.zero_le _,rfl,by rw [List.take_zero,List.flatMap_nil,List.append_nil];exact Hrow5.out,Hfree5.out,Hkept5.out⟩
       case round =>
        obtain⟨j,hj,rfl,hrow,hfree,hkept⟩:=hrel
        have Hrowq:=Lib.hid hrow
        have Hfreeq:=Lib.hid hfree
        have Hkeptq:=Lib.hid hkept
        clear hrow hfree hkept
        by_cases hjn:j<zn
        ·obtain⟨z,hz⟩:∃z,zs[j]?=some z:=⟨_,List.getElem?_eq_getElem (by rw [Hzn.out];exact hjn)⟩
         have hz6:=HZ60.out z (List.mem_of_getElem? hz)
         have hcz:wr.cell? ⟨ug,j,none⟩=some (.int .i64 (z:Int)):=(Hkeptq.out.cell (p:=⟨ug,j,none⟩) (.inr rfl)).trans (nat_at Hu.out hz)
         have HPz:=Lib.hid (HP.out ug w2 wr _ _ z (by omega) hug.2 Hrowq.out Hfreeq.out Hkeptq.out (by omega) (by
          rw [List.length_append,List.length_append,List.length_append,List.length_append,low_len,low_len,low_len,flat_low_len,List.length_take]
          omega))
         have Htz:Hid (zs.take (j+1)=zs.take j++[z]):=Lib.hid (take_snoc hz)
         clear hz
         go_wp2_with (go_at_call 78;refine HPz.out.mono ?_;clear HPz;rintro e w6 ⟨v6,rfl,hrow6,hfree6,hkept6⟩;have Hrow6:=Lib.hid hrow6;have Hfree6:=Lib.hid hfree6;have Hkept6:=Lib.hid hkept6;clear hrow6 hfree6 hkept6)
         go_roundw
         case rel=>exact⟨j+1,by omega,by go_num,by
          rw [Htz.out,List.flatMap_append,← List.append_assoc]
          simpa using Hrow6.out,Hfree6.out,Hkept6.out⟩
         case measure=>simp [intOf];omega
        ·go_wp2_with fail
         go_roundw
         case rel=>exact⟨k+1,by omega,by go_num,by
          rw [ahead_step,kept_some (by rw [Hzs.out];exact Hz.out),List.length_append,Hcnt.out]
          go_num,Hbr2.out.trans ((B2.out.mono hszr2).trans (Hkeptq.out.below (fun b hb=>.inl hb))),by
          rw [ahead_step,bytes_some (by rw [Hzs.out];exact Hz.out),Hps.out]
          unfold pairPart
          rw [Hzs.out,Hzn.out]
          have h9:=Hrowq.out
          rw [List.take_of_length_le (l:=zs) (by rw [Hzn.out];omega)] at h9
          simpa [List.append_assoc] using h9⟩
         case measure=>simp [intOf];omega
    ·obtain rfl:k=n:=by omega
     clear hbr2 hpart2
     go_wp2_with fail
     go_roundw
     case rel=>exact⟨i+1,by omega,by go_num,by rw [ahead_next],Hbr2.out,by rw [← ahead_next];exact Hpart2.out⟩
     case measure=>simp [intOf];omega
  ·obtain rfl:i=n:=by omega
   have hbb:(bytesOf G (aheadP i i 0)).length≤16130016000:=by
    have:=bytesOf_len HGl.out (aheadP i i 0)
    have h2:=ahead_len i i 0
    have:i * i≤8000 * 8000:=Nat.mul_le_mul (by omega) (by omega)
    omega
   have hcl:(kept G (aheadP i i 0)).length≤64000000:=by
    have:=kept_len G (aheadP i i 0)
    have h2:=ahead_len i i 0
    have:i * i≤8000 * 8000:=Nat.mul_le_mul (by omega) (by omega)
    omega
   have Hfin:Hid (postPart i G=low 4 (kept G (aheadP i i 0)).length++bytesOf G (aheadP i i 0)):=Lib.hid (by rw [ahead_all];rfl)
   generalize hps:bytesOf G (aheadP i i 0)=ps at *
   have Hps:=Lib.hid hps
   clear hps
   generalize hcnt:(kept G (aheadP i i 0)).length=cnt at *
   have Hcnt:=Lib.hid hcnt
   clear hcnt
   have Hvr:Hid (Row8 wr w0.heap.size (.slice vo bn vc) bs):=Lib.hid (ownsRow_olds Hv.out (Olds.of_below Hbr.out))
   have Hfr2:Hid (Free (fun b=>K b∨(w.heap.size≤b∧b<wr.heap.size)) (.slice vo bn vc)):=Lib.hid (fun g hg h=>by
    have:=ownsRow_block Hv.out hg
    rcases h with h | h
    ·exact Hfr.out g hg h
    ·omega)
   have HP1:=Lib.hid (put14_any cnt 4 Hvr.out Hfr2.out (fun b hb=>by
    rcases hb with hb | hb
    ·have:=HK.out b hb
     omega
    ·exact hb.2) (by omega) (by omega) (by decide) (by rw [Hbn.out];omega))
   have Hpk:Hid (∀W,Kept (fun b=>K b∨(w.heap.size≤b∧b<wr.heap.size)) wr W→FlatAt W u7 ps.length (octs ps)):=Lib.hid (fun W hW=>by
    obtain⟨po,pc,hpv⟩:=Hpart.out.form
    subst hpv
    exact owns_flat (ownsRow_kept Hpart.out hW (fun g hg=>.inr (ownsRow_block Hpart.out hg))))
   have hB0:w0.heap.size≤wr.heap.size:=by omega
   go_wp2_with (first
    | (go_at_call 78;refine HP1.out.mono ?_;clear HP1;rintro e w3 ⟨v3,rfl,hrow3,hfree3,hkept3⟩;obtain⟨o3,c3,hv3⟩:=hrow3.form;subst hv3;have Hrow3:=Lib.hid hrow3;have Hfree3:=Lib.hid hfree3;have Hkept3:=Lib.hid hkept3;have hs3:=hkept3.size;have Hpf3:Hid (FlatAt w3 u7 ps.length (octs ps)):=Lib.hid (Hpk.out w3 hkept3);clear hrow3 hfree3 hkept3;generalize hN3:(bs++low 4 cnt).length=N3 at *;have HN3:=Lib.hid hN3;have hN3b:N3≤20000000000:=(by rw [← hN3,List.length_append,low_len,Hbn.out];omega);clear hN3;have Hown3:Hid (w3.ownsRow w0.heap.size 5 1 (.slice o3 N3 c3) N3 (octs (bs++low 4 cnt))):=Lib.hid (by have h9:=Hrow3.out;unfold Row8 at h9;rwa [HN3.out] at h9))
    | (at_builtin;refine wpList_append_flat rfl _ _ rfl Tryz.underlying26 size5 hi0 hz0 hz1 hz2 rfl Nat.one_pos (by decide) w0.heap.size N3 ps.length (.slice o3 N3 c3) u7 (octs (bs++low 4 cnt)) (octs ps) rfl rfl Hown3.out (by omega) Hpf3.out (by rw [octs_len,Nat.mul_one]) one_octs (by omega) ?_;intro v4 w4 hown4 hgrow4 hat4;have Hown4:=Lib.hid hown4;have Hk4:Hid (Kept K w w4):=Lib.hid (((Kept.of_below Hbr.out HK.out).trans (Hkept3.out.mono (fun b hb=>.inl hb))).grown hgrow4 HK.out (fun g hg h=>Hfree3.out g hg (.inl h)));have Hf4:Hid (Free K v4):=Lib.hid (fun g hg h=>by rcases hat4 with e | e;exact Hfree3.out g (e ▸ hg) (.inl h);rw [e] at hg;cases hg;have:=HK.out _ h;omega);clear hown4 hgrow4 hat4))
   go_ret
   refine⟨v4,rfl,?_,Hf4.out,Hk4.out⟩
   rw [Hfin.out,← List.append_assoc]
   unfold Row8
   rw [List.length_append,HN3.out,octs_append]
   exact Hown4.out
end Go.Proofs.YtbecggfbblnglaaGreatDoor
