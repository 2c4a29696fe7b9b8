/- Contracts over this program. Their conditions: the slices read as the lists that are named, and lie within the sizes that are named. -/
import Derived.Test.YtbecggfbblnglaaGreatDoorT31
import Derived.Test.YtbecggfbblnglaaGreatDoorT25
import Derived.Test.YtbecggfbblnglaaGreatDoorT11
set_option linter.unusedSimpArgs false
set_option linter.unusedVariables false
set_option linter.deprecated false
set_option linter.unnecessarySimpa false
namespace Go.Proofs.YtbecggfbblnglaaGreatDoor
open Go Go.RowKit Go.Ix Go.Gor
def SerOk (l:List Ser) (i:Nat):Prop:=∀s,l[i]?=some s→check s.1=0∧(0<i→∀d,l[i-1]?=some d→cmpL d.1 s.1<0)∧GoodS s
def MayS (l:List Ser):Prop:=l≠[]∧∀i,i<l.length→SerOk l i
theorem mayS_of {level:Int}{l:List Ser}(h:BlkOk level l):MayS l:=by
 obtain⟨_,_,h3,h4,h5⟩:=h
 refine⟨h3,fun i hi s hs=>?_⟩
 obtain⟨ps,hp⟩:=entsS_at (p:=0) hs
 obtain⟨k1,k2,_⟩:=h5.2 i (by rw [entsS_len];exact hi) _ hp
 refine⟨k1,fun h0 d hd=>?_,h4 s (List.mem_of_getElem? hs)⟩
 obtain⟨qs,hq⟩:=entsS_at (p:=0) hd
 exact k2 h0 _ hq
set_option maxRecDepth 20000 in
set_option maxHeartbeats 4000000 in
theorem rmays_rows (o:Option Addr) (n c:Nat) (l:List Ser) (w:World) (hl:l.length=n) (hn:n≤60) (hS:SizeS l) (h:RowsR w o l) :
  Calls Tryz.prog 23 #[.slice o n c] w fun e w'=>((e=.returned (.bool true)∧MayS l)∨(e=.returned (.bool false)∧¬ MayS l))∧∃q,w'=w.drewN q:=by
 have H:=Lib.hid h
 have Hl:=Lib.hid hl
 have HS:=Lib.hid hS
 clear h hl hS
 by_cases hn0:n=0
 ·have Hno:Hid (¬ MayS l):=Lib.hid (fun hm=>hm.1 (List.eq_nil_of_length_eq_zero (by rw [Hl.out];exact hn0)))
  subst hn0
  go_enter Tryz.func23,Tryz.ntmps23
  go_wp2_with fail
  go_ret
  exact⟨.inr ⟨rfl,Hno.out⟩,0,rfl⟩
 ·have hn1:¬ (n:Int)<1:=by omega
  have hn2:¬ (4096:Int)<(n:Int):=by omega
  go_enter Tryz.func23,Tryz.ntmps23
  go_wp2_with fail
  go_loopw [3] (fun iv wr=>∃k q:Nat,k≤n∧iv=.int .i64 (k:Nat)∧(∀i,i<k→SerOk l i)∧wr=w.drewN q) (fun iv _=>n-(intOf iv).toNat)
  case atStart=>exact⟨0,0,Nat.zero_le _,rfl,fun i hi=>by omega,rfl⟩
  case round =>
   obtain⟨k,q,hk,rfl,hok,hwr⟩:=hrel
   have Hwr:=Lib.hid hwr
   have HR:=Lib.hid (H.out.olds (show Olds w wr by rw [hwr];exact Olds.drewN w q))
   have Hd:Hid (∀m,∃q,wr.drewN m=w.drewN q):=Lib.hid (fun m=>⟨q+m,by rw [hwr,World.drewN_drewN]⟩)
   clear hwr
   have Hok:=Lib.hid hok
   clear hok
   by_cases hlt:k<n
   ·obtain⟨b,off,e1,e2,o1,n1,c1,o2,n2,c2,rfl,hx,hc1,hc2,hl1,hl2,hr1,hr2,_⟩:=HR.out.at (k:=k) (by rw [Hl.out];exact hlt)
    obtain⟨s1,s2,s3,s4⟩:=HS.out.1 _ (List.mem_of_getElem? hx)
    simp only at s1 s2 s3 s4
    have Hx:=Lib.hid hx
    have Hr1:=Lib.hid hr1
    have Hr2:=Lib.hid hr2
    have Hl1:=Lib.hid hl1
    have Hl2:=Lib.hid hl2
    have hn1b:n1≤1000000000:=by omega
    have hn2b:n2≤1000000:=by omega
    have HC:=Lib.hid (fun m=>(by
     have:=rcheck_rows o1 c1 e1 (wr.drewN m) (by omega) (fun y hy=>by have:=s3 y hy;omega) (Hr1.out.olds (Olds.drewN _ _))
     rw [show e1.length=n1 from Hl1.out] at this
     exact Calls.drew this:Calls Tryz.prog 72 #[.slice o1 n1 c1] (wr.drewN m) fun e w''=>e=.returned (.int .u16 (check e1))∧∃m,w''=wr.drewN m))
    have HF:=Lib.hid (fun m=>(Calls.drew (rfits_any o2 n2 c2 e2 (wr.drewN m) Hl2.out hn2b (Hr2.out.olds (Olds.drewN _ _))):Calls Tryz.prog 74 #[.slice o2 n2 c2] (wr.drewN m) fun e w''=>e=.returned (.int .u16 (fitsE e2:Nat))∧∃m,w''=wr.drewN m))
    clear hx hr1 hr2 hl1 hl2 s3 s4
    by_cases hck:check e1=0
    ·have hckb:(check e1 != 0)=false:=by simpa using hck
     have key:(¬ 0<k∧Hid (0<k→∀d,l[k-1]?=some d→cmpL d.1 e1<0))∨(0<k∧∃j:Nat,(k:Int)-1=(j:Int)∧j<n∧∃d1 o3 n3 c3,wr.cell? ⟨b,off+j * 2,none⟩=some (.slice o3 n3 c3)∧n3≤1000000000∧Hid (∀m,Calls Tryz.prog 73 #[.slice o3 n3 c3,.slice o1 n1 c1] (wr.drewN m) fun e w''=>e=.returned (.int .i64 (cmpL d1 e1))∧∃m,w''=wr.drewN m)∧Hid (cmpL d1 e1<0→0<k→∀d,l[k-1]?=some d→cmpL d.1 e1<0)∧Hid (¬ cmpL d1 e1<0→¬ MayS l)):=by
      by_cases h0:k=0
      ·exact .inl ⟨by omega,Lib.hid (fun h=>by omega)⟩
      ·refine .inr ⟨by omega,k-1,by omega,by omega,?_⟩
       obtain⟨d1,d2,o3,n3,c3,o4,n4,c4,hxd,hcd,_,hld,_,hrd,_⟩:=HR.out.next (k:=k-1) (by rw [Hl.out];omega)
       have hsd:=(HS.out.1 _ (List.mem_of_getElem? hxd)).1
       simp only at hsd
       refine⟨d1,o3,n3,c3,hcd,by omega,Lib.hid (fun m=>?_),Lib.hid (fun h _ d hd=>?_),Lib.hid (fun h hmay=>?_)⟩
       ·have:=rcmp_rows o3 o1 c3 c1 d1 e1 (wr.drewN m) (by omega) (by have:=Hl1.out;omega) (hrd.olds (Olds.drewN _ _)) (Hr1.out.olds (Olds.drewN _ _))
        rw [show e1.length=n1 from Hl1.out,hld] at this
        exact Calls.drew this
       ·rw [hxd] at hd
        cases hd
        exact h
       ·exact h ((hmay.2 k (by rw [Hl.out];exact hlt) _ Hx.out).2.1 (by omega) _ hxd)
     have Hck:=Lib.hid hck
     clear hck
     have hfin:(0<k→∀d,l[k-1]?=some d→cmpL d.1 e1<0)→((n2=0→¬ MayS l)∧(n2≠0→fitsE e2≠0→¬ MayS l)∧(n2≠0→fitsE e2=0→∀i,i<k+1→SerOk l i)):=fun hp=>by
      refine⟨fun h0 hm=>?_,fun _ h1 hm=>?_,fun h0 h1 i hi=>?_⟩
      ·exact (hm.2 k (by rw [Hl.out];exact hlt) _ Hx.out).2.2.1 (List.eq_nil_of_length_eq_zero (by rw [Hl2.out];exact h0))
      ·exact h1 (hm.2 k (by rw [Hl.out];exact hlt) _ Hx.out).2.2.2
      ·rcases Nat.lt_or_ge i k with h | h
       ·exact Hok.out i h
       ·obtain rfl:i=k:=by omega
        intro s hs
        rw [Hx.out] at hs
        cases hs
        exact⟨Hck.out,hp,fun e=>h0 (by have e9:e2=[]:=e;rw [← Hl2.out,e9];rfl),h1⟩
     have Hfin:=Lib.hid hfin
     clear hfin
     rcases key with ⟨h0,HP⟩|⟨hkp,j0,hkj,hj0,d1,o3,n3,c3,hcd,hn3,HD,HP0,HNo⟩
     ·skip
      obtain⟨f1,f2,f3⟩:=Hfin.out HP.out
      by_cases hz:n2=0
      ·have F1:=Lib.hid (f1 hz)
       have hzb:((n2:Int) == 0)=true:=by rw [hz];rfl
       clear f1 f2 f3 hz
       go_wp2_with fail
       go_quiet (first | exact HC.out _)
       go_wp2_with fail
       go_ret
       exact⟨.inr ⟨rfl,F1.out⟩,Hd.out _⟩
      ·have hzb:((n2:Int) == 0)=false:=by simpa using hz
       by_cases hft:fitsE e2=0
       ·have F3:=Lib.hid (f3 hz hft)
        rw [hft] at HF
        clear f1 f2 f3 hz hft
        go_wp2_with fail
        go_quiet (first | exact HC.out _)
        go_wp2_with (go_at_call 74;refine (HF.out _).mono ?_;rintro e w5 ⟨rfl,m5,rfl⟩)
        go_roundw
        case rel =>
         obtain⟨q5,e5⟩:=Hd.out m5
         exact⟨k+1,q5,by omega,by go_num,F3.out,e5⟩
        case measure=>simp [intOf];omega
       ·have F2:=Lib.hid (f2 hz hft)
        generalize fitsE e2=fe at *
        have hfb:((fe:Int) != 0)=true:=by simpa using hft
        clear f1 f2 f3 hz hft
        go_wp2_with fail
        go_quiet (first | exact HC.out _)
        go_wp2_with (go_at_call 74;refine (HF.out _).mono ?_;rintro e w5 ⟨rfl,m5,rfl⟩)
        go_ret
        exact⟨.inr ⟨rfl,F2.out⟩,Hd.out _⟩
     ·by_cases hc0:cmpL d1 e1<0
      ·have hcn:¬ 0≤cmpL d1 e1:=by omega
       obtain⟨f1,f2,f3⟩:=Hfin.out (HP0.out hc0)
       by_cases hz:n2=0
       ·have F1:=Lib.hid (f1 hz)
        have hzb:((n2:Int) == 0)=true:=by rw [hz];rfl
        clear f1 f2 f3 hz
        go_wp2_with fail
        go_quiet (first | exact HC.out _ | exact HD.out _)
        go_wp2_with fail
        go_ret
        exact⟨.inr ⟨rfl,F1.out⟩,Hd.out _⟩
       ·have hzb:((n2:Int) == 0)=false:=by simpa using hz
        by_cases hft:fitsE e2=0
        ·have F3:=Lib.hid (f3 hz hft)
         rw [hft] at HF
         clear f1 f2 f3 hz hft
         go_wp2_with fail
         go_quiet (first | exact HC.out _ | exact HD.out _)
         go_wp2_with (go_at_call 74;refine (HF.out _).mono ?_;rintro e w5 ⟨rfl,m5,rfl⟩)
         go_roundw
         case rel =>
          obtain⟨q5,e5⟩:=Hd.out m5
          exact⟨k+1,q5,by omega,by go_num,F3.out,e5⟩
         case measure=>simp [intOf];omega
        ·have F2:=Lib.hid (f2 hz hft)
         generalize fitsE e2=fe at *
         have hfb:((fe:Int) != 0)=true:=by simpa using hft
         clear f1 f2 f3 hz hft
         go_wp2_with fail
         go_quiet (first | exact HC.out _ | exact HD.out _)
         go_wp2_with (go_at_call 74;refine (HF.out _).mono ?_;rintro e w5 ⟨rfl,m5,rfl⟩)
         go_ret
         exact⟨.inr ⟨rfl,F2.out⟩,Hd.out _⟩
      ·have hcn:0≤cmpL d1 e1:=by omega
       have Hno:=Lib.hid (HNo.out hc0)
       clear hc0
       go_wp2_with fail
       go_quiet (first | exact HC.out _ | exact HD.out _)
       go_wp2_with fail
       go_ret
       exact⟨.inr ⟨rfl,Hno.out⟩,Hd.out _⟩
    ·have hckb:(check e1 != 0)=true:=by simpa using hck
     have Hno:Hid (¬ MayS l):=Lib.hid (fun hm=>hck (hm.2 k (by rw [Hl.out];exact hlt) _ Hx.out).1)
     clear hck
     go_wp2_with fail
     go_quiet (first | exact HC.out _)
     go_wp2_with fail
     go_ret
     exact⟨.inr ⟨rfl,Hno.out⟩,Hd.out _⟩
   ·have Hall:Hid (MayS l):=Lib.hid ⟨fun e=>hn0 (by rw [← Hl.out,e];rfl),fun i hi=>Hok.out i (by rw [Hl.out] at hi;omega)⟩
    go_wp2_with fail
    go_ret
    exact⟨.inl ⟨rfl,Hall.out⟩,q,Hwr.out⟩
end Go.Proofs.YtbecggfbblnglaaGreatDoor
