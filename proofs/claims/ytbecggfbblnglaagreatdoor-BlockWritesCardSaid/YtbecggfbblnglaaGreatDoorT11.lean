/- Contracts over this program. Their conditions: the slices read as the lists that are named, and lie within the sizes that are named. -/
import Derived.Test.YtbecggfbblnglaaGreatDoorT10
import Derived.Sort.Walk0
import Derived.Test.YtbecggfbblnglaaGreatDoorP0
import Derived.Test.YtbecggfbblnglaaGreatDoorS9
import Derived.Lib.AppendStr
set_option linter.unusedSimpArgs false
set_option linter.unusedVariables false
set_option linter.deprecated false
set_option linter.unnecessarySimpa false
namespace Go.Proofs.YtbecggfbblnglaaGreatDoor
open Go Go.RowKit Go.Ix
theorem lbl_cells {w:World}{b off:Nat}{l:List Lbl}(h:CellsAt w b off (l.flatMap lblCells)) {k:Nat}{y:Lbl}(hk:l[k]?=some y) :
  w.cell? ⟨b,off+k * 2,none⟩=some (encStr y.1)∧w.cell? ⟨b,off+k * 2+1,none⟩=some (encStr y.2) :=
 ⟨h.elem (k:=2) (i:=0) (fun _=>rfl) hk rfl,h.elem (k:=2) (i:=1) (fun _=>rfl) hk rfl⟩
def Rows2 (w:World) (o:Option Addr) (l:List Lbl):Prop:=l≠[]→∃b off,o=some ⟨b,off,none⟩∧CellsAt w b off (l.flatMap lblCells)
theorem LblsAt.rows {w:World}{v:Value}{l:List Lbl}(h:LblsAt w v l):∃o c,v=.slice o l.length c∧(o=none→c=0)∧Rows2 w o l:=by
 obtain⟨o,c,h1,h2,h3⟩:=h
 exact⟨o,c,h1,h2,fun hne=>h3 (fun e=>hne ((flat_ne (k:=2) (fun _=>rfl) (by decide)).1 e))⟩
theorem Rows2.at {w:World}{o:Option Addr}{l:List Lbl}(h:Rows2 w o l) {k:Nat}(hk:k<l.length) :
  ∃b off y1 y2,o=some ⟨b,off,none⟩∧l[k]?=some (y1,y2)∧w.cell? ⟨b,off+k * 2,none⟩=some (encStr y1)∧w.cell? ⟨b,off+k * 2+1,none⟩=some (encStr y2):=by
 obtain⟨b,off,e,hc⟩:=h (fun e=>by rw [e] at hk;simp at hk)
 have hy:l[k]?=some (l[k].1,l[k].2):=List.getElem?_eq_getElem hk
 obtain⟨h1,h2⟩:=lbl_cells hc hy
 exact⟨b,off,_,_,e,hy,h1,h2⟩
theorem Rows2.next {w:World}{b off:Nat}{l:List Lbl}(h:Rows2 w (some ⟨b,off,none⟩) l) {k:Nat}(hk:k<l.length) :
  ∃y1 y2,l[k]?=some (y1,y2)∧w.cell? ⟨b,off+k * 2,none⟩=some (encStr y1)∧w.cell? ⟨b,off+k * 2+1,none⟩=some (encStr y2):=by
 obtain⟨b',off',y1,y2,e,h⟩:=h.at hk
 cases e
 exact⟨y1,y2,h⟩
theorem Rows2.olds {w W:World}{o:Option Addr}{l:List Lbl}(h:Rows2 w o l) (hb:Olds w W):Rows2 W o l:=fun hne=>by
 obtain⟨b,off,e,hc⟩:=h hne
 exact⟨b,off,e,hc.olds hb⟩
set_option maxRecDepth 20000 in
set_option maxHeartbeats 2000000 in
theorem rtwice_rows (o:Option Addr) (c:Nat) (l:List Lbl) (w:World) (hm:l.length≤1000000000) (hc:Rows2 w o l):Calls Tryz.prog 110 #[.slice o l.length c] w fun e w'=>Says (Twice l) e∧∃q,w'=w.drewN q:=by
 have Hc:=Lib.hid hc
 clear hc
 generalize hn:l.length=n at *
 have Hn:=Lib.hid hn
 clear hn
 go_enter Tryz.func110,Tryz.ntmps110
 go_wp2_with fail
 go_loopw [3,4] (fun iv _ wr=>∃k q:Nat,k≤n∧iv=.int .i64 k∧wr=w.drewN q∧∀(i j:Nat) (x y:Lbl),i<k→j<i→l[i]?=some x→l[j]?=some y→x.1≠y.1) (fun iv _ _=>n-(intOf iv).toNat)
 case atStart=>exact⟨0,0,Nat.zero_le _,rfl,rfl,fun i j x y h=>by omega⟩
 case round =>
  obtain⟨k,q,hk,rfl,rfl,hno⟩:=hrel
  have Hno:=Lib.hid hno
  clear hno
  by_cases hlt:k<n
  ·obtain⟨b,off,x1,x2,rfl,hx,hx1,_⟩:=Hc.out.at (k:=k) (by rw [Hn.out];exact hlt)
   have Hx:=Lib.hid hx
   clear hx
   go_wp2_with fail
   go_loopw [4] (fun jv wr=>∃j q:Nat,j≤k∧jv=.int .i64 j∧wr=w.drewN q∧∀(i:Nat) (y:Lbl),i<j→l[i]?=some y→x1≠y.1) (fun jv _=>k-(intOf jv).toNat)
   case atStart=>exact⟨0,q,Nat.zero_le _,rfl,rfl,fun i y h=>by omega⟩
   case round =>
    obtain⟨j,q,hj,rfl,rfl,hno2⟩:=hrel
    have Hno2:=Lib.hid hno2
    clear hno2
    by_cases hlt2:j<k
    ·obtain⟨y1,y2,hy,hy1,_⟩:=Hc.out.next (k:=j) (by rw [Hn.out];omega)
     have Hy:=Lib.hid hy
     clear hy
     by_cases he:x1=y1
     ·subst he
      go_wp2_with fail
      go_quiet (fail)
      go_wp2_with fail
      go_ret
      exact⟨.inl ⟨rfl,k,j,_,_,hlt2,Hx.out,Hy.out,rfl⟩,_,World.drewN_drewN ..⟩
     ·have heb:(x1 == y1)=false:=by simpa using he
      have He:=Lib.hid he
      clear he
      go_wp2_with fail
      go_quiet (fail)
      go_wp2_with fail
      go_roundw
      case rel=>exact⟨j+1,_,by omega,by go_num,rfl,fun i y hi hiy=>by
       by_cases h:i<j
       ·exact Hno2.out i y h hiy
       ·obtain rfl:i=j:=by omega
        rw [Hy.out] at hiy
        cases hiy
        exact He.out⟩
      case measure=>simp [intOf];omega
    ·go_wp2_with fail
     go_roundw
     case rel=>exact⟨k+1,q,by omega,by go_num,rfl,fun i j' x y hi hj' hix hjy=>by
      by_cases h:i<k
      ·exact Hno.out i j' x y h hj' hix hjy
      ·obtain rfl:i=k:=by omega
       rw [Hx.out] at hix
       cases hix
       exact Hno2.out j' y (by omega) hjy⟩
     case measure=>simp [intOf];omega
  ·go_wp2_with fail
   go_ret
   refine⟨.inr ⟨rfl,?_⟩,q,rfl⟩
   rintro⟨i,j,x,y,hji,hx,hy,he⟩
   refine Hno.out i j x y ?_ hji hx hy he
   have h1:=(List.getElem?_eq_some_iff.1 hx).1
   rw [Hn.out] at h1
   omega
set_option maxRecDepth 20000 in
set_option maxHeartbeats 4000000 in
theorem rcheck_rows (o:Option Addr) (c:Nat) (l:List Lbl) (w:World) (hm:l.length≤1000000000) (hs:∀y∈l,y.1.length≤1000000000∧y.2.length≤1000000000) (hc:Rows2 w o l):Calls Tryz.prog 72 #[.slice o l.length c] w fun e w'=>e=.returned (.int .u16 (check l))∧∃q,w'=w.drewN q:=by
 have Hc:=Lib.hid hc
 have Hs:=Lib.hid hs
 have HT:∀q,Hid (Calls Tryz.prog 110 #[.slice o l.length c] (w.drewN q) fun e w'=>Says (Twice l) e∧∃q',w'=(w.drewN q).drewN q'):=fun q=>Lib.hid (rtwice_rows o c l _ hm (hc.olds (Olds.drewN w q)))
 clear hc hs
 generalize hn:l.length=n at *
 have Hn:=Lib.hid hn
 clear hn
 by_cases h64:64<n
 ·have Hr:Hid (check l=72):=Lib.hid (check_many (by rw [Hn.out];exact h64))
  go_enter Tryz.func72,Tryz.ntmps72
  go_wp2_with fail
  go_ret
  exact⟨by rw [Hr.out];rfl,0,rfl⟩
 ·go_enter Tryz.func72,Tryz.ntmps72
  go_wp2_with fail
  go_loopw [3,4] (fun iv _ wr=>∃k q:Nat,k≤n∧iv=.int .i64 k∧wr=w.drewN q∧∀(i:Nat) (x:Lbl),i<k→l[i]?=some x→LblOk x) (fun iv _ _=>n-(intOf iv).toNat)
  case atStart=>exact⟨0,0,Nat.zero_le _,rfl,rfl,fun i x h=>by omega⟩
  case round =>
   obtain⟨k,q,hk,rfl,rfl,hok⟩:=hrel
   have Hok:=Lib.hid hok
   clear hok
   by_cases hlt:k<n
   ·obtain⟨b,off,x1,x2,rfl,hx,hx1,hx2⟩:=Hc.out.at (k:=k) (by rw [Hn.out];exact hlt)
    obtain⟨hs1,hs2⟩:=Hs.out _ (List.mem_of_getElem? hx)
    have Hx:=Lib.hid hx
    clear hx
    have HN:=Lib.hid (rname_any x1 (w.drewN q) hs1)
    by_cases hlok:LblOk (x1,x2)
    ·have hne:x2.isEmpty=false:=by simpa using hlok.2.1
     have hle:x2.length≤1024:=hlok.2.2
     have Hlok:=Lib.hid hlok
     clear hlok
     go_wp2_with (go_at_call 109;refine HN.out.mono ?_;rintro e w' ⟨hsay,rfl⟩;rcases hsay with ⟨rfl,hname⟩|⟨rfl,hname⟩;rotate_left;exact absurd Hlok.out.1 hname)
     go_roundw
     case rel=>exact⟨k+1,q,by omega,by go_num,rfl,fun i x hi hix=>by
      by_cases h:i<k
      ·exact Hok.out i x h hix
      ·obtain rfl:i=k:=by omega
       rw [Hx.out] at hix
       cases hix
       exact Hlok.out⟩
     case measure=>simp [intOf];omega
    ·have Hr:Hid (check l=70):=Lib.hid (check_form (by rw [Hn.out];exact h64) (List.mem_of_getElem? Hx.out) hlok)
     have Hlok:=Lib.hid hlok
     clear hlok
     by_cases hv:x2=[]
     ·subst hv
      go_wp2_with (go_at_call 109;refine HN.out.mono ?_;rintro e w' ⟨hsay,rfl⟩;rcases hsay with ⟨rfl,hname⟩|⟨rfl,hname⟩)
      all_goals (go_ret;exact⟨by rw [Hr.out];rfl,q,rfl⟩)
     ·have hne:x2.isEmpty=false:=by simpa using hv
      have Hv:=Lib.hid hv
      clear hv
      by_cases hle:1024<x2.length
      ·go_wp2_with (go_at_call 109;refine HN.out.mono ?_;rintro e w' ⟨hsay,rfl⟩;rcases hsay with ⟨rfl,hname⟩|⟨rfl,hname⟩)
       all_goals (go_ret;exact⟨by rw [Hr.out];rfl,q,rfl⟩)
      ·have Hno:Hid (¬ NameOk x1):=Lib.hid (fun h=>Hlok.out ⟨h,Hv.out,by simpa using hle⟩)
       go_wp2_with (go_at_call 109;refine HN.out.mono ?_;rintro e w' ⟨hsay,rfl⟩;rcases hsay with ⟨rfl,hname⟩|⟨rfl,hname⟩;exact absurd hname Hno.out)
       all_goals (go_ret;exact⟨by rw [Hr.out];rfl,q,rfl⟩)
   ·have Hall:Hid (∀y∈l,LblOk y):=Lib.hid (fun y hy=>by
     obtain⟨i,hi⟩:=List.getElem?_of_mem hy
     have h1:=(List.getElem?_eq_some_iff.1 hi).1
     rw [Hn.out] at h1
     exact Hok.out i y (by omega) hi)
    by_cases htw:Twice l
    ·have Hr:Hid (check l=71):=Lib.hid (check_twice (by rw [Hn.out];exact h64) Hall.out htw)
     have Htw:=Lib.hid htw
     clear htw
     go_wp2_with (go_at_call 110;refine (HT q).out.mono ?_;rintro e w' ⟨hsay,q',rfl⟩;rcases hsay with ⟨rfl,hname⟩|⟨rfl,hname⟩;rotate_left;exact absurd Htw.out hname)
     go_ret
     exact⟨by rw [Hr.out];rfl,q+q',rfl⟩
    ·have Htw:=Lib.hid htw
     clear htw
     go_wp2_with (go_at_call 110;refine (HT q).out.mono ?_;rintro e w' ⟨hsay,q',rfl⟩;rcases hsay with ⟨rfl,hname⟩|⟨rfl,hname⟩;exact absurd hname Htw.out)
     go_loopw [6] (fun iv wr=>∃j q:Nat,iv=.int .i64 ((j:Int)+1)∧(j+1≤n∨j=0)∧wr=w.drewN q∧∀(i:Nat) (x y:Lbl),i<j→l[i]?=some x→l[i+1]?=some y→x.1<y.1) (fun iv _=>n-(intOf iv).toNat)
     case atStart=>exact⟨0,q+q',rfl,.inr rfl,rfl,fun i x y h=>by omega⟩
     case round =>
      obtain⟨j,q,rfl,hj,rfl,hasc⟩:=hrel
      have Hasc:=Lib.hid hasc
      clear hasc
      have hj9:j≤64:=by omega
      by_cases hlt:j+1<n
      ·obtain⟨b,off,x1,x2,rfl,hx,hx1,_⟩:=Hc.out.at (k:=j) (by rw [Hn.out];omega)
       obtain⟨y1,y2,hy,hy1,_⟩:=Hc.out.next (k:=j+1) (by rw [Hn.out];exact hlt)
       have Hx:=Lib.hid hx
       have Hy:=Lib.hid hy
       clear hx hy
       by_cases hxy:x1<y1
       ·have hbl:Op.bytesLess y1 x1=false:=by rw [bytesLess_eq];exact decide_eq_false (fun h=>List.lt_irrefl _ (List.lt_trans hxy h))
        have hbe:(y1 == x1)=false:=by
         rw [beq_eq_false_iff_ne]
         rintro rfl
         exact List.lt_irrefl _ hxy
        have Hxy:=Lib.hid hxy
        clear hxy
        go_wp2_with fail
        go_quiet (fail)
        go_wp2_with fail
        go_roundw
        case rel=>exact⟨j+1,_,by go_num,.inl (by omega),rfl,fun i x y hi hix hiy=>by
         by_cases h:i<j
         ·exact Hasc.out i x y h hix hiy
         ·obtain rfl:i=j:=by omega
          rw [Hx.out] at hix
          rw [Hy.out] at hiy
          cases hix
          cases hiy
          exact Hxy.out⟩
        case measure=>simp [intOf];omega
       ·have Hr:Hid (check l=70):=Lib.hid (check_next (by rw [Hn.out];exact h64) Hall.out Htw.out (fun h=>hxy (h j _ _ Hx.out Hy.out)))
        by_cases he:y1=x1
        ·subst he
         have hbe:(y1 == y1)=true:=by simp
         clear hxy
         go_wp2_with fail
         go_quiet (fail)
         go_wp2_with fail
         all_goals (go_ret;exact⟨by rw [Hr.out];rfl,_,World.drewN_drewN ..⟩)
        ·have hbl:Op.bytesLess y1 x1=true:=by
          rw [bytesLess_eq]
          refine decide_eq_true ?_
          rcases Line.tri (α:=Txt) y1 x1 with h | h | h
          ·exact h
          ·exact absurd h he
          ·exact absurd h hxy
         clear hxy he
         go_wp2_with fail
         go_quiet (fail)
         go_wp2_with fail
         all_goals (go_ret;exact⟨by rw [Hr.out];rfl,_,World.drewN_drewN ..⟩)
      ·have Hr:Hid (check l=0):=Lib.hid (check_ok (by rw [Hn.out];exact h64) Hall.out Htw.out (fun i x y hx hy=>Hasc.out i x y (by
        have:=(List.getElem?_eq_some_iff.1 hy).1
        rw [Hn.out] at this
        omega) hx hy))
       go_wp2_with fail
       go_ret
       exact⟨by rw [Hr.out];rfl,_,rfl⟩
end Go.Proofs.YtbecggfbblnglaaGreatDoor
namespace Go.Proofs.YtbecggfbblnglaaGreatDoor
open Go Go.RowKit Go.Ix
theorem less_yes {a b:Txt}(h:a<b):Op.bytesLess a b=true:=by rw [bytesLess_eq];exact decide_eq_true h
theorem less_no {a b:Txt}(h:¬ a<b):Op.bytesLess a b=false:=by rw [bytesLess_eq];exact decide_eq_false h
set_option maxRecDepth 20000 in
set_option maxHeartbeats 4000000 in
theorem rcmp_rows (o p:Option Addr) (c d:Nat) (l m:List Lbl) (w:World) (hl:l.length≤1000000000) (hm:m.length≤1000000000) (hc:Rows2 w o l) (hd:Rows2 w p m):Calls Tryz.prog 73 #[.slice o l.length c,.slice p m.length d] w fun e w'=>e=.returned (.int .i64 (cmpL l m))∧∃q,w'=w.drewN q:=by
 have Hc:=Lib.hid hc
 have Hd:=Lib.hid hd
 clear hc hd
 generalize hn:l.length=n at *
 have Hn:=Lib.hid hn
 clear hn
 generalize hk:m.length=k at *
 have Hk:=Lib.hid hk
 clear hk
 go_enter Tryz.func73,Tryz.ntmps73
 go_wp2_with fail
 go_loopw [5] (fun iv wr=>∃i q:Nat,i≤n∧i≤k∧iv=.int .i64 i∧wr=w.drewN q∧l.take i=m.take i) (fun iv _=>n-(intOf iv).toNat)
 case atStart=>exact⟨0,0,Nat.zero_le _,Nat.zero_le _,rfl,rfl,by simp⟩
 case round =>
  obtain⟨i,q,hi,hik,rfl,rfl,hsame⟩:=hrel
  have Hsame:=Lib.hid hsame
  clear hsame
  by_cases hin:i<n
  ·by_cases him:i<k
   ·obtain⟨b,off,x1,x2,rfl,hx,hx1,hx2⟩:=Hc.out.at (k:=i) (by rw [Hn.out];exact hin)
    obtain⟨b',off',y1,y2,rfl,hy,hy1,hy2⟩:=Hd.out.at (k:=i) (by rw [Hk.out];exact him)
    have Hx:=Lib.hid hx
    have Hy:=Lib.hid hy
    clear hx hy
    by_cases h1:x1<y1
    ·have hb1:=less_yes h1
     have Hr:Hid (cmpL l m = -1):=Lib.hid (by
      rw [cmpL_at Hx.out Hy.out Hsame.out (by rintro h;cases h;exact List.lt_irrefl _ h1)]
      exact cmpY_lt (.inl h1))
     clear h1
     go_wp2_with fail
     go_quiet (fail)
     go_wp2_with fail
     go_ret
     exact⟨by rw [Hr.out];rfl,_,World.drewN_drewN ..⟩
    ·have hb1:=less_no h1
     by_cases he:x1=y1
     ·subst he
      have hbe:(x1 == x1)=true:=by simp
      by_cases h2:x2<y2
      ·have hb2:=less_yes h2
       have Hr:Hid (cmpL l m = -1):=Lib.hid (by
        rw [cmpL_at Hx.out Hy.out Hsame.out (by rintro h;cases h;exact List.lt_irrefl _ h2)]
        exact cmpY_lt (.inr ⟨rfl,h2⟩))
       clear h1 h2
       go_wp2_with fail
       go_quiet (fail)
       go_wp2_with fail
       go_ret
       exact⟨by rw [Hr.out];rfl,_,World.drewN_drewN ..⟩
      ·have hb2:=less_no h2
       by_cases he2:x2=y2
       ·subst he2
        clear h1 h2
        go_wp2_with fail
        go_quiet (fail)
        go_wp2_with fail
        go_quiet (fail)
        go_wp2_with fail
        go_roundw
        case rel=>exact⟨i+1,_,by omega,by omega,by go_num,rfl,by rw [List.take_add_one,List.take_add_one,Hsame.out,Hx.out,Hy.out]⟩
        case measure=>simp [intOf];omega
       ·have hbe2:(x2 == y2)=false:=by simpa using he2
        have Hr:Hid (cmpL l m=1):=Lib.hid (by
         rw [cmpL_at Hx.out Hy.out Hsame.out (by rintro h;cases h;exact he2 rfl)]
         exact cmpY_gt (by rintro (h|⟨_,h⟩);exact h1 h;exact h2 h) (by rintro h;cases h;exact he2 rfl))
        clear h1 h2 he2
        go_wp2_with fail
        go_quiet (fail)
        go_wp2_with fail
        go_quiet (fail)
        go_wp2_with fail
        go_ret
        exact⟨by rw [Hr.out];rfl,_,by rw [World.drewN_drewN,World.drewN_drewN]⟩
     ·have hbe:(x1 == y1)=false:=by simpa using he
      have Hr:Hid (cmpL l m=1):=Lib.hid (by
       rw [cmpL_at Hx.out Hy.out Hsame.out (by rintro h;cases h;exact he rfl)]
       exact cmpY_gt (by rintro (h|⟨h,_⟩);exact h1 h;exact he h) (by rintro h;cases h;exact he rfl))
      clear h1 he
      go_wp2_with fail
      go_quiet (fail)
      go_wp2_with fail
      go_quiet (fail)
      go_wp2_with fail
      go_ret
      exact⟨by rw [Hr.out];rfl,_,by rw [World.drewN_drewN,World.drewN_drewN]⟩
   ·have Hr:Hid (cmpL l m=1):=Lib.hid (cmpL_long (by
     have h:=Hsame.out
     have e:i=m.length:=by rw [Hk.out];omega
     rw [e,List.take_length] at h
     exact h) (by rw [Hn.out,Hk.out];omega))
    go_wp2_with fail
    go_ret
    exact⟨by rw [Hr.out];rfl,_,rfl⟩
  ·obtain rfl:i=n:=by omega
   by_cases him:i<k
   ·have Hr:Hid (cmpL l m = -1):=Lib.hid (cmpL_short (by
     have h:=Hsame.out
     rw [Hn.out]
     rw [List.take_of_length_le (by rw [Hn.out];exact Nat.le_refl _)] at h
     exact h) (by rw [Hn.out,Hk.out];omega))
    go_wp2_with fail
    go_ret
    exact⟨by rw [Hr.out];rfl,_,rfl⟩
   ·obtain rfl:i=k:=by omega
    have Hr:Hid (cmpL l m=0):=Lib.hid (by
     have h:=Hsame.out
     rw [List.take_of_length_le (by rw [Hn.out];exact Nat.le_refl _),List.take_of_length_le (by rw [Hk.out];exact Nat.le_refl _)] at h
     rw [h]
     exact cmpL_self m)
    go_wp2_with fail
    go_ret
    exact⟨by rw [Hr.out];rfl,_,rfl⟩
end Go.Proofs.YtbecggfbblnglaaGreatDoor
namespace Go.Proofs.YtbecggfbblnglaaGreatDoor
open Go Go.RowKit Go.Ix
def Rows5 (w:World) (o:Option Addr) (l:List Plc):Prop:=l≠[]→∃b off,o=some ⟨b,off,none⟩∧CellsAt w b off (l.flatMap plcCells)
theorem PlcsAt.rows {w:World}{v:Value}{l:List Plc}(h:PlcsAt w v l):∃o c,v=.slice o l.length c∧(o=none→c=0)∧Rows5 w o l:=by
 obtain⟨o,c,h1,h2,h3⟩:=h
 exact⟨o,c,h1,h2,fun hne=>h3 (fun e=>hne ((flat_ne (k:=5) (fun _=>rfl) (by decide)).1 e))⟩
theorem Rows5.olds {w W:World}{o:Option Addr}{l:List Plc}(h:Rows5 w o l) (hb:Olds w W):Rows5 W o l:=fun hne=>by
 obtain⟨b,off,e,hc⟩:=h hne
 exact⟨b,off,e,hc.olds hb⟩
def Plc5 (w:World) (b off:Nat) (p:Plc):Prop :=
 w.cell? ⟨b,off,none⟩=some (.int .i64 p.fr)∧w.cell? ⟨b,off+1,none⟩=some (.int .i64 p.til)∧w.cell? ⟨b,off+2,none⟩=some (.int .i64 p.num)∧w.cell? ⟨b,off+3,none⟩=some (.int .i64 p.pos)∧w.cell? ⟨b,off+4,none⟩=some (.int .i64 p.siz)
theorem Rows5.at {w:World}{o:Option Addr}{l:List Plc}(h:Rows5 w o l) {k:Nat}(hk:k<l.length) :
  ∃b off p,o=some ⟨b,off,none⟩∧l[k]?=some p∧Plc5 w b (off+k * 5) p:=by
 obtain⟨b,off,e,hc⟩:=h (fun e=>by rw [e] at hk;simp at hk)
 have hp:l[k]?=some l[k]:=List.getElem?_eq_getElem hk
 exact⟨b,off,_,e,hp,hc.elem (k:=5) (i:=0) (fun _=>rfl) hp rfl,hc.elem (k:=5) (i:=1) (fun _=>rfl) hp rfl,hc.elem (k:=5) (i:=2) (fun _=>rfl) hp rfl,hc.elem (k:=5) (i:=3) (fun _=>rfl) hp rfl,hc.elem (k:=5) (i:=4) (fun _=>rfl) hp rfl⟩
theorem Rows5.next {w:World}{b off:Nat}{l:List Plc}(h:Rows5 w (some ⟨b,off,none⟩) l) {k:Nat}(hk:k<l.length):∃p,l[k]?=some p∧Plc5 w b (off+k * 5) p:=by
 obtain⟨b',off',p,e,h⟩:=h.at hk
 cases e
 exact⟨p,h⟩
def Ent2 (w:World) (b off:Nat) (e:Ent):Prop :=
 ∃o1 n1 c1 o2 n2 c2,w.cell? ⟨b,off,none⟩=some (.slice o1 n1 c1)∧w.cell? ⟨b,off+1,none⟩=some (.slice o2 n2 c2)∧e.1.length=n1∧e.2.length=n2∧Rows2 w o1 e.1∧Rows5 w o2 e.2∧(o1=none→c1=0)∧(o2=none→c2=0)
def RowsE (w:World) (o:Option Addr) (l:List Ent):Prop:=l≠[]→∃b off,o=some ⟨b,off,none⟩∧∀k e,l[k]?=some e→Ent2 w b (off+k * 2) e
theorem Ent2.olds {w W:World}{b off:Nat}{e:Ent}(h:Ent2 w b off e) (hb:Olds w W):Ent2 W b off e:=by
 obtain⟨o1,n1,c1,o2,n2,c2,h1,h2,h3,h4,h5,h6,h7⟩:=h
 exact⟨o1,n1,c1,o2,n2,c2,hb.cell h1,hb.cell h2,h3,h4,h5.olds hb,h6.olds hb,h7⟩
theorem RowsE.olds {w W:World}{o:Option Addr}{l:List Ent}(h:RowsE w o l) (hb:Olds w W):RowsE W o l:=fun hne=>by
 obtain⟨b,off,e,hc⟩:=h hne
 exact⟨b,off,e,fun k x hx=>(hc k x hx).olds hb⟩
theorem EntsAt.rows {w:World}{v:Value}{l:List Ent}(h:EntsAt w v l):∃o c,v=.slice o l.length c∧(o=none→c=0)∧RowsE w o l:=by
 obtain⟨vs,hl,⟨o,c,h1,h2,h3⟩,he⟩:=h
 refine⟨o,c,h1,h2,fun hne=>?_⟩
 have hv:vs≠[]:=fun e=>hne (List.eq_nil_of_length_eq_zero (by rw [← hl,e];rfl))
 obtain⟨b,off,e,hc⟩:=h3 (fun e=>hv ((flat_ne (k:=2) (fun _=>rfl) (by decide)).1 e))
 refine⟨b,off,e,fun k x hx=>?_⟩
 have hk:=(List.getElem?_eq_some_iff.1 hx).1
 have hu:vs[k]?=some vs[k]:=List.getElem?_eq_getElem (by omega)
 obtain⟨hL,hP⟩:=he k _ x hu hx
 obtain⟨o1,c1,e1,z1,r1⟩:=LblsAt.rows hL
 obtain⟨o2,c2,e2,z2,r2⟩:=PlcsAt.rows hP
 refine⟨o1,_,c1,o2,_,c2,?_,?_,rfl,rfl,r1,r2,z1,z2⟩
 ·rw [← e1]
  exact hc.elem (k:=2) (i:=0) (fun _=>rfl) hu rfl
 ·rw [← e2]
  exact hc.elem (k:=2) (i:=1) (fun _=>rfl) hu rfl
theorem RowsE.at {w:World}{o:Option Addr}{l:List Ent}(h:RowsE w o l) {k:Nat}(hk:k<l.length) :
  ∃b off e1 e2 o1 n1 c1 o2 n2 c2,o=some ⟨b,off,none⟩∧l[k]?=some (e1,e2)∧w.cell? ⟨b,off+k * 2,none⟩=some (.slice o1 n1 c1)∧w.cell? ⟨b,off+k * 2+1,none⟩=some (.slice o2 n2 c2)∧e1.length=n1∧e2.length=n2∧Rows2 w o1 e1∧Rows5 w o2 e2∧(o1=none→c1=0)∧(o2=none→c2=0):=by
 obtain⟨b,off,e,hc⟩:=h (fun e=>by rw [e] at hk;simp at hk)
 have hx:l[k]?=some (l[k].1,l[k].2):=List.getElem?_eq_getElem hk
 obtain⟨o1,n1,c1,o2,n2,c2,h⟩:=hc k _ hx
 exact⟨b,off,_,_,o1,n1,c1,o2,n2,c2,e,hx,h⟩
theorem RowsE.next {w:World}{b off:Nat}{l:List Ent}(h:RowsE w (some ⟨b,off,none⟩) l) {k:Nat}(hk:k<l.length) :
  ∃e1 e2 o1 n1 c1 o2 n2 c2,l[k]?=some (e1,e2)∧w.cell? ⟨b,off+k * 2,none⟩=some (.slice o1 n1 c1)∧w.cell? ⟨b,off+k * 2+1,none⟩=some (.slice o2 n2 c2)∧e1.length=n1∧e2.length=n2∧Rows2 w o1 e1∧Rows5 w o2 e2∧(o1=none→c1=0)∧(o2=none→c2=0):=by
 obtain⟨b',off',e1,e2,o1,n1,c1,o2,n2,c2,e,h⟩:=h.at hk
 cases e
 exact⟨e1,e2,o1,n1,c1,o2,n2,c2,h⟩
theorem Calls.drew {f:FuncId}{args:Array Value}{w:World}{q:Nat}{R:Ending→Prop}(h:Calls Tryz.prog f args (w.drewN q) fun e w'=>R e∧∃m,w'=(w.drewN q).drewN m):Calls Tryz.prog f args (w.drewN q) fun e w'=>R e∧∃m,w'=w.drewN m :=
 h.mono fun e w' h=>⟨h.1,by
  obtain⟨m,hm⟩:=h.2
  exact⟨q+m,by rw [hm,World.drewN_drewN]⟩⟩
def Small (l:List Ent):Prop:=l.length≤1000000000∧∀e∈l,e.1.length≤1000000000∧e.2.length≤1000000000∧∀y∈e.1,y.1.length≤1000000000∧y.2.length≤1000000000
theorem Small.ent {l:List Ent}(h:Small l) {k:Nat}{e1:List Lbl}{e2:List Plc}(hx:l[k]?=some (e1,e2)):e1.length≤1000000000∧e2.length≤1000000000∧∀y∈e1,y.1.length≤1000000000∧y.2.length≤1000000000:=h.2 _ (List.mem_of_getElem? hx)
end Go.Proofs.YtbecggfbblnglaaGreatDoor
namespace Go.Proofs.YtbecggfbblnglaaGreatDoor
open Go Go.RowKit Go.Ix
theorem text_any {w:World}{B:Nat}{v:Value}{l:List Txt}(s:Txt) (h:RowT w B v l) (hB:B≤w.heap.size) (hr:Rising l) (hl:l.length≤1000000) :
  Calls Tryz.prog 117 #[v,encStr s] w fun e w'=>∃v',e=.returned v'∧RowT w' B v' (put l s)∧Below w.heap.size w w':=by
 unfold RowT at h
 rcases h.2 with ⟨rfl,h0⟩|⟨g,cap,cur,rfl,_⟩
 ·have:l=[]:=List.eq_nil_of_length_eq_zero h0
  subst this
  exact text_nil w B s hB
 ·exact text_some s h rfl hB hr hl
theorem rise_len (zs:List Txt):(rise zs).length≤zs.length:=by
 have key:∀(zs l:List Txt),(zs.foldl put l).length≤l.length+zs.length:=by
  intro zs
  induction zs with
  | nil=>intro l;simp
  | cons z zs ih =>
   intro l
   have h1:=ih (put l z)
   have h2:(put l z).length≤l.length+1:=by
    unfold put
    split
    ·omega
    ·rw [List.length_append,List.length_cons]
     have h3:(l.filter fun x=>decide (x<z)).length+(l.filter fun x=>decide (z<x)).length≤l.length:=by
      have:=List.length_eq_countP_add_countP (p:=fun x=>decide (x<z)) (l:=l)
      rw [List.countP_eq_length_filter,List.countP_eq_length_filter] at this
      have h4:(l.filter fun x=>decide (z<x)).length≤(l.filter fun a=>decide ¬(decide (a<z))=true).length:=by
       rw [← List.countP_eq_length_filter,← List.countP_eq_length_filter]
       refine List.countP_mono_left fun x _ hx=>?_
       simp only [decide_eq_true_eq] at hx ⊢
       exact fun h=>List.lt_irrefl _ (List.lt_trans hx h)
      omega
     omega
   rw [List.foldl_cons,List.length_cons]
   omega
 have:=key zs []
 simpa [rise] using this
theorem textsL_len (l:List Lbl):(textsL l).length=2 * l.length:=by
 induction l with
 | nil=>rfl
 | cons y l ih =>
  show ([y.1,y.2]++textsL l).length=_
  rw [List.length_append,ih,List.length_cons]
  simp
  omega
def lblsOf (l:List Ent):Nat:=(l.map fun e=>e.1.length).sum
theorem texts_len (l:List Ent):(texts l).length=2 * lblsOf l:=by
 induction l with
 | nil=>rfl
 | cons e l ih =>
  show (textsL e.1++texts l).length=_
  rw [List.length_append,ih,textsL_len]
  unfold lblsOf
  rw [List.map_cons,List.sum_cons]
  omega
theorem texts_snoc (l:List Ent) (e:Ent):texts (l++[e])=texts l++textsL e.1:=by simp [texts]
theorem textsL_snoc (l:List Lbl) (y:Lbl):textsL (l++[y])=textsL l++[y.1,y.2]:=by simp [textsL]
theorem lblsOf_take (l:List Ent) (k:Nat):lblsOf (l.take k)≤lblsOf l:=by
 have h:=congrArg lblsOf (List.take_append_drop k l)
 unfold lblsOf at h ⊢
 rw [List.map_append,List.sum_append] at h
 omega
theorem lblsOf_at {l:List Ent}{k:Nat}{e:Ent}(h:l[k]?=some e):lblsOf (l.take k)+e.1.length≤lblsOf l:=by
 have h1:=lblsOf_take l (k+1)
 rw [List.take_add_one,h] at h1
 unfold lblsOf at h1 ⊢
 rw [List.map_append,List.sum_append] at h1
 simpa using h1
set_option maxRecDepth 20000 in
set_option maxHeartbeats 4000000 in
theorem symbols_rows (o:Option Addr) (c:Nat) (l:List Ent) (w:World) (hs:Small l) (hL:lblsOf l≤100000) (hc:RowsE w o l):Calls Tryz.prog 77 #[.slice o l.length c] w fun e w'=>∃v,e=.returned v∧RowT w' w.heap.size v (symbols l)∧Below w.heap.size w w':=by
 have Hc:=Lib.hid hc
 have Hs:=Lib.hid hs
 have hm:=hs.1
 clear hc hs
 generalize hn:l.length=n at *
 have Hn:=Lib.hid hn
 clear hn
 go_enter Tryz.func77,Tryz.ntmps77
 go_wp2_with fail
 go_loopw [3,4,5] (fun sv iv _ wr=>∃k:Nat,k≤n∧iv=.int .i64 k∧Below w.heap.size w wr∧RowT wr w.heap.size sv (rise (texts (l.take k)))) (fun _ iv _ _=>n-(intOf iv).toNat)
 case atStart=>exact⟨0,Nat.zero_le _,rfl,Below.refl _ _,World.ownsRow_nil _ _ _ _⟩
 case round =>
  obtain⟨k,hk,rfl,hb,hrow⟩:=hrel
  have Hb:=Lib.hid hb
  have Hrow:=Lib.hid hrow
  have Hcr:=Lib.hid (Hc.out.olds (Olds.of_below hb))
  clear hb hrow
  by_cases hlt:k<n
  ·obtain⟨b,off,e1,e2,o1,n1,c1,o2,n2,c2,rfl,hx,hc1,hc2,hl1,hl2,hr1,hr2,_⟩:=Hcr.out.at (k:=k) (by rw [Hn.out];exact hlt)
   obtain⟨hs1,hs2,hs3⟩:=Hs.out.ent hx
   have hn1:n1≤1000000000:=by omega
   have Hx:=Lib.hid hx
   have Hr1:=Lib.hid hr1
   have Hl1:=Lib.hid hl1
   have Hcap:=Lib.hid (lblsOf_at hx)
   clear hx hr1 hr2 hl1 hl2 hs3
   go_wp2_with fail
   go_loopw [3,5] (fun sv jv wq=>∃j:Nat,j≤n1∧jv=.int .i64 j∧Below w.heap.size w wq∧Below wr.heap.size wr wq∧RowT wq w.heap.size sv (rise (texts (l.take k)++textsL (e1.take j)))) (fun _ jv _=>n1-(intOf jv).toNat)
   case atStart=>exact⟨0,Nat.zero_le _,rfl,Hb.out,Below.refl _ _,by rw [List.take_zero];show RowT _ _ _ (rise (_++[]));rw [List.append_nil];exact Hrow.out⟩
   case round =>
    obtain⟨j,hj,rfl,hbq,hbq2,hrow⟩:=hrel
    have Hbq:=Lib.hid hbq
    have Hbq2:=Lib.hid hbq2
    have Hrow2:=Lib.hid hrow
    have hszq:=hbq.size
    have hcq:=(Olds.of_below hbq2).cell hc1
    have Hrq:=Lib.hid (Hr1.out.olds (Olds.of_below hbq2))
    clear hbq hbq2 hrow
    by_cases hjn:j<n1
    ·obtain⟨b2,off2,y1,y2,rfl,hy,hy1,hy2⟩:=Hrq.out.at (k:=j) (by rw [Hl1.out];exact hjn)
     have Hy:=Lib.hid hy
     clear hy
     have hlen:(texts (l.take k)++textsL (e1.take j)).length≤200000:=by
      rw [List.length_append,texts_len,textsL_len,List.length_take]
      have:=Hcap.out
      have h1:=Hl1.out
      omega
     have HT1:=Lib.hid (text_any y1 Hrow2.out hszq (rise_rising _) (by have:=rise_len (texts (l.take k)++textsL (e1.take j));omega))
     have hlen2:(texts (l.take k)++textsL (e1.take j)++[y1]).length≤200001:=by
      rw [List.length_append,List.length_singleton]
      omega
     have HT2:Hid (∀(W:World) (v:Value),w.heap.size≤W.heap.size→RowT W w.heap.size v (rise (texts (l.take k)++textsL (e1.take j)++[y1]))→Calls Tryz.prog 117 #[v,encStr y2] W fun e w'=>∃v',e=.returned v'∧RowT w' w.heap.size v' (put (rise (texts (l.take k)++textsL (e1.take j)++[y1])) y2)∧Below W.heap.size W w'):=Lib.hid (fun W v hW hv=>text_any y2 hv hW (rise_rising _) (by have:=rise_len (texts (l.take k)++textsL (e1.take j)++[y1]);omega))
     clear hlen hlen2
     go_wp2_with (first
      | (go_at_call 117;refine HT1.out.mono ?_;clear HT1;rintro e wa ⟨va,rfl,hrowa,hba⟩;have Ba:=Lib.hid hba;have hca:=(Olds.of_below hba).cell hcq;have hya2:=(Olds.of_below hba).cell hy2;have hsza:=hba.size;have Hrowa:=Lib.hid hrowa;clear hrowa hba)
      | (go_at_call 117;refine (HT2.out wa va (by omega) (by rw [rise_snoc];exact Hrowa.out)).mono ?_;rintro e wb ⟨vb,rfl,hrowb,hbb⟩;have Bb:=Lib.hid hbb;have Hrowb:=Lib.hid hrowb;clear hrowb hbb))
     have Hall:Hid (Below wr.heap.size wr wb):=Lib.hid (Ba.out.trans (Bb.out.mono hsza))
     go_roundw
     case rel=>exact⟨j+1,by omega,by go_num,Hbq.out.trans (Hall.out.mono hszq),Hbq2.out.trans (Hall.out.mono Hbq2.out.size),by
      rw [take_snoc Hy.out,textsL_snoc,show texts (l.take k)++(textsL (e1.take j)++[y1,y2])=(texts (l.take k)++textsL (e1.take j)++[y1])++[y2] by simp,rise_snoc]
      exact Hrowb.out⟩
     case measure=>simp [intOf];omega
    ·go_wp2_with fail
     go_roundw
     case rel=>exact⟨k+1,by omega,by go_num,Hbq.out,by
      have h9:=Hrow2.out
      rw [List.take_of_length_le (l:=e1) (by rw [Hl1.out];omega)] at h9
      rw [take_snoc Hx.out,texts_snoc]
      exact h9⟩
     case measure=>simp [intOf];omega
  ·go_wp2_with fail
   go_ret
   have e9:l.take k=l:=List.take_of_length_le (by rw [Hn.out];omega)
   have h9:=Hrow.out
   rw [e9] at h9
   exact⟨_,rfl,h9,Hb.out⟩
end Go.Proofs.YtbecggfbblnglaaGreatDoor
namespace Go.Proofs.YtbecggfbblnglaaGreatDoor
open Go Go.RowKit Go.Ix Go.Maps
variable {w W:World}{B blk:Nat}{K K':Nat→Prop}{sy nm:Value}{bs:List Nat}
theorem Buf.lt (h:Buf w B blk K sy nm bs):blk<w.heap.size:=by
 obtain⟨v,hh,_⟩:=h.row
 rcases Nat.lt_or_ge blk w.heap.size with h | h
 ·exact h
 ·rw [Array.getElem?_eq_none h] at hh
  cases hh
theorem Buf.olds (h:Buf w B blk K sy nm bs) (hb:Olds w W):Buf W B blk K sy nm bs:=by
 have hlt:=h.lt
 obtain⟨h1,h2,v,h3,h4,h5,h6⟩:=h
 exact⟨h1,h2,v,(hb.2 _ hlt).trans h3,ownsRow_olds h4 hb,h5,h6⟩
theorem Buf.more (h:Buf w B blk K sy nm bs) {g:Nat}(hg:w.heap.size≤g):Buf w B blk (fun b=>K b∨b=g) sy nm bs:=by
 have hlt:=h.lt
 obtain⟨h1,h2,v,h3,h4,h5,h6⟩:=h
 refine⟨h1,fun hk=>?_,v,h3,h4,fun q hq hk=>?_,h6⟩
 ·rcases hk with hk | hk
  ·exact h2 hk
  ·omega
 ·rcases hk with hk | hk
  ·exact h5 q hq hk
  ·have:=(ownsRow_block h4 hq).2
   omega
theorem Buf.less (h:Buf w B blk K' sy nm bs) (hK:∀b,K b→K' b):Buf w B blk K sy nm bs:=by
 obtain⟨h1,h2,v,h3,h4,h5,h6⟩:=h
 exact⟨h1,fun hk=>h2 (hK _ hk),v,h3,h4,fun q hq hk=>h5 q hq (hK _ hk),h6⟩
theorem Buf.cells (h:Buf w B blk K sy nm bs):∃v,w.cell? ⟨blk,0,none⟩=some v∧w.cell? ⟨blk,1,none⟩=some sy∧w.cell? ⟨blk,2,none⟩=some nm:=by
 obtain⟨_,_,v,h3,_⟩:=h
 exact⟨v,by simp [World.cell?,h3],by simp [World.cell?,h3],by simp [World.cell?,h3]⟩
def NumAt (w:World) (mb:Nat) (ss:List Txt):Prop :=
 ∃(n:Nat) (D:DataW Unit),w.ownsMap Tryz.prog 9 (plainElem Tryz.prog 3) mb n D∧∀(i:Nat) (s:Txt),ss[i]?=some s→D.atKey (.string s) (.lit (.int .i64 0))=.lit (.int .i64 (i:Int))
theorem NumAt.lt {mb:Nat}{ss:List Txt}(h:NumAt w mb ss):mb<w.heap.size:=by
 obtain⟨n,D,h,_⟩:=h
 exact h.lt
theorem NumAt.block {mb:Nat}{ss:List Txt}(h:NumAt w mb ss) (hb:W.heap[mb]?=w.heap[mb]?):NumAt W mb ss:=by
 obtain⟨n,D,⟨es,clock,h1,h2⟩,h3⟩:=h
 exact⟨n,D,⟨es,clock,hb.trans h1,h2⟩,h3⟩
theorem NumAt.kept {mb:Nat}{ss:List Txt}(h:NumAt w mb ss) (hb:Kept K w W) (hK:K mb):NumAt W mb ss:=h.block (hb.block mb hK)
theorem NumAt.olds {mb:Nat}{ss:List Txt}(h:NumAt w mb ss) (hb:Olds w W):NumAt W mb ss:=h.block (hb.2 mb h.lt)
theorem NumAt.look {mb:Nat}{ss:List Txt}(h:NumAt w mb ss) {s:Txt}(hs:s∈ss) (hl:s.length≤1000000000):(Instr.lookup 237 (.map (some mb)) (encStr s) false).run Tryz.prog w=.ok (.int .i64 (idx ss s:Nat)) w:=by
 obtain⟨n,D,h,hD⟩:=h
 obtain⟨c,hr,hat,_⟩:=h.lookup_int (t:=237) (e:=3) (q:=.i64) Tryz.lawT Tryz.underlying237 Tryz.underlying3 (zero3 w) (keyT s hl)
 rw [hD _ s (idx_at hs)] at hat
 rw [hr]
 simp only [DataW.lit.injEq,Lit.int.injEq,true_and] at hat
 rw [hat]
end Go.Proofs.YtbecggfbblnglaaGreatDoor
namespace Go.Proofs.YtbecggfbblnglaaGreatDoor
open Go Go.RowKit Go.Ix Go.Maps Go.Sort
theorem keys_any (mb:Option Nat) (W:World):Calls Tryz.prog 152 #[.map mb] W fun e w'=>e=.returned (.func (.func 190) #[] #[.pointer (some ⟨W.heap.size,0,none⟩)])∧w'=W.alloc (.cells #[.map mb] 307) :=
 callsIn_wide.1 (Tryz.maps_Keys_152 mb W)
theorem sorted_any {w:World}{b n:Nat}{S:List Txt}(h:SetAt w b n S) (hn:n≤1000000):Calls Tryz.prog 151 #[.func (.func 190) #[] #[.pointer (some ⟨w.heap.size,0,none⟩)]] (w.alloc (.cells #[.map (some b)] 307)) fun e w'=>∃v,e=.returned v∧RowT w' (w.heap.size+1) v (rise S)∧Below (w.heap.size+1) (w.alloc (.cells #[.map (some b)] 307)) w':=by
 obtain⟨D,hown,hD⟩:=h
 have hsz:Maps.size D≤n:=hown.size_le
 refine (callsIn_wide.1 (Tryz.slices_Sorted_keys_151_152 b n D (plainElem Tryz.prog 4) w hown (by unfold maxLen;omega) (by omega))).mono fun e w' ⟨v,ss,h1,h2,h3,_,h5⟩=>⟨v,h1,?_,?_⟩
 ·have hp:(rise S).Perm (strKeys D):=Collected.perm (left:=fun _=>false) ⟨rising_nodup (rise_rising S),fun x=>by rw [mem_rise,(hD x).2];simp⟩ hown Tryz.lawT Tryz.underlying9 (fun _=>rfl)
  have hms:ss.mergeSort (fun x y=>decide (x≤y))=rise S:=by
   rw [show ss.mergeSort (fun x y=>decide (x≤y))=(rise S).mergeSort (fun x y=>decide (x≤y)) from mergeSort_of_perm (h2.trans hp.symm)]
   exact sorted_rise (rising_nodup (rise_rising S)) fun x=>mem_rise
  have hlen:ss.length=(rise S).length:=(h2.trans hp.symm).length_eq
  rw [hms,hlen] at h3
  unfold RowT
  simpa using h3
 ·simpa using h5
end Go.Proofs.YtbecggfbblnglaaGreatDoor
namespace Go.Proofs.YtbecggfbblnglaaGreatDoor
open Go Go.RowKit Go.Ix
theorem cells_txt (x:Txt):Lib.strCells ⟨x.toArray⟩=octs (nums x):=by simp [Lib.strCells,octs,nums]
theorem run_append_txt {W:World}{B n:Nat}{v:Value}{xs:List Value}(hown:W.ownsRow B 5 1 v n xs) (hB:B≤W.heap.size) (x:Txt) (hbytes:n+x.length≤140737488355328) (ty:TypeId) :
  ∃v' w',(Builtin.append_ #[26,9] ty #[v,encStr x]).run Tryz.prog W=.ok v' w'∧w'.ownsRow B 5 1 v' (n+x.length) (xs++octs (nums x))∧W.grownBy w' v.ownBlock∧(v'.ownBlock=v.ownBlock∨v'.ownBlock=some W.heap.size):=by
 obtain⟨i0,hi0,hz0,hz1,hz2⟩:=info_parts Tryz.info5
 have hsize:(⟨x.toArray⟩:ByteArray).size=x.length:=by show x.toArray.size=x.length;simp
 obtain⟨v',w',hr,h2,h3,h4⟩:=Lib.run_append_own_string (P:=Tryz.prog) W B 26 9 ty 5 i0 Tryz.underlying26 Tryz.underlying9 hi0 hz0 hz1 hz2 v n xs hown ⟨x.toArray⟩ (by rw [hsize];unfold maxLen;omega) (by rw [hsize];exact hbytes) hB
 rw [hsize,cells_txt] at h2
 refine⟨v',w',hr,h2,h3,?_⟩
 rcases hown.2 with ⟨rfl,rfl⟩|⟨g,cap,cur,rfl,hbg,hg,hnc,hcm,hcs,htake⟩
 ·by_cases h0:x.length=0
  ·have:v'=.slice none 0 0:=h4.2 ⟨rfl,by rw [hsize];exact h0⟩
   subst this
   exact .inl rfl
  ·have hr2:=run_append_nil_string (P:=Tryz.prog) W 26 9 ty 5 i0 (.int .u8 0) Tryz.underlying26 Tryz.underlying9 hi0 hz0 ⟨x.toArray⟩ (by rw [hsize];omega) (by rw [hsize];omega) (by rw [hsize,hz2];omega)
   rw [hr] at hr2
   simp only [Result.ok.injEq] at hr2
   rw [hr2.1]
   exact .inr rfl
 ·have hcs':cur.size=cap:=by simpa using hcs
  by_cases hroom:n+x.length≤cap
  ·have hr2:=Lib.run_append_room_string (P:=Tryz.prog) W 26 9 ty 5 i0 Tryz.underlying26 Tryz.underlying9 hi0 hz1 g n cap cur hg ⟨x.toArray⟩ (by rw [hsize];exact hroom) (by rw [hsize];omega)
   rw [hr] at hr2
   simp only [Result.ok.injEq] at hr2
   rw [hr2.1]
   exact .inl rfl
  ·have holds:∀j u,xs[j]?=some u→W.cell? ((⟨g,0,none⟩:Addr).add j)=some u:=hown.cells (g:=g) rfl
   have hxl:xs.length=n:=by simpa using hown.1
   have hr2:=Lib.run_append_grow_string (P:=Tryz.prog) W 26 9 ty 5 i0 (.int .u8 0) Tryz.underlying26 Tryz.underlying9 hi0 hz0 ⟨g,0,none⟩ n cap xs (by rw [hz1];simpa using hxl) holds ⟨x.toArray⟩ (by rw [hsize];omega) (by rw [hsize];omega) (by rw [hz2,hsize];exact growslice_fits (by omega) (by omega))
   rw [hr] at hr2
   simp only [Result.ok.injEq] at hr2
   rw [hr2.1]
   exact .inr rfl
theorem wpList_append_txt {ops:Array Oper}{rest:List Oper}{o:Oper}{a:Act}{Q:Exit→Act→World→Prop}{W:World}(hgd:o.guard=none) (s x:Operand)
  (ho:o.op=.call { callee:=.builtin .append,args:=#[s,x],argTypes:=#[26,9] })
  (B n:Nat) (v:Value) (t:Txt) (xs:List Value) (hsv:a.eval s=v) (hxv:a.eval x=encStr t) (hown:W.ownsRow B 5 1 v n xs) (hB:B≤W.heap.size) (hbytes:n+t.length≤140737488355328)
  (h:∀v' w',w'.ownsRow B 5 1 v' (n+t.length) (xs++octs (nums t))→W.grownBy w' v.ownBlock→(v'.ownBlock=v.ownBlock∨v'.ownBlock=some W.heap.size)→wpList Tryz.prog ops Q rest (a.put o.dst v') w'):wpList Tryz.prog ops Q (o :: rest) a W :=
 wpList_plain hgd fun K hK=>by
  obtain⟨v',w',hr,h2,h3,h4⟩:=run_append_txt hown hB t hbytes o.type
  unfold Oper.wp execOp
  simp only [ho,resolve,invoke,builtin,Sem.run_bind,Sem.run_pure,Result.andThen_ok,List.map_toArray,List.map_cons,List.map_nil,hsv,hxv,hr]
  exact hK _ _ (h v' w' h2 h3 h4)
theorem free_grown {K:Nat→Prop}{v v':Value}{W:World}(h:Free K v) (hK:∀k,K k→k<W.heap.size) (hv:v'.ownBlock=v.ownBlock∨v'.ownBlock=some W.heap.size):Free K v':=fun g hg hk=>by
 rcases hv with e | e
 ·exact h g (e ▸ hg) hk
 ·rw [e] at hg
  cases hg
  exact Nat.lt_irrefl _ (hK _ hk)
end Go.Proofs.YtbecggfbblnglaaGreatDoor
namespace Go.Proofs.YtbecggfbblnglaaGreatDoor
open Go Go.RowKit Go.Ix
def TextsAt (w:World) (o:Option Addr) (ss:List Txt):Prop:=ss≠[]→∃b off,o=some ⟨b,off,none⟩∧∀k s,ss[k]?=some s→w.cell? ⟨b,off+k,none⟩=some (encStr s)
theorem TextsAt.at {w:World}{o:Option Addr}{ss:List Txt}(h:TextsAt w o ss) {k:Nat}(hk:k<ss.length):∃b off s,o=some ⟨b,off,none⟩∧ss[k]?=some s∧w.cell? ⟨b,off+k,none⟩=some (encStr s):=by
 obtain⟨b,off,e,hc⟩:=h (fun e=>by rw [e] at hk;simp at hk)
 have hs:ss[k]?=some ss[k]:=List.getElem?_eq_getElem hk
 exact⟨b,off,_,e,hs,hc k _ hs⟩
theorem TextsAt.next {w:World}{b off:Nat}{ss:List Txt}(h:TextsAt w (some ⟨b,off,none⟩) ss) {k:Nat}(hk:k<ss.length):∃s,ss[k]?=some s∧w.cell? ⟨b,off+k,none⟩=some (encStr s):=by
 obtain⟨b',off',s,e,h⟩:=h.at hk
 cases e
 exact⟨s,h⟩
theorem TextsAt.olds {w W:World}{o:Option Addr}{ss:List Txt}(h:TextsAt w o ss) (hb:Olds w W):TextsAt W o ss:=fun hne=>by
 obtain⟨b,off,e,hc⟩:=h hne
 exact⟨b,off,e,fun k s hs=>hb.cell (hc k s hs)⟩
theorem RowT.shape {w:World}{B:Nat}{v:Value}{ss:List Txt}(h:RowT w B v ss):∃o c,v=.slice o ss.length c∧TextsAt w o ss:=by
 unfold RowT at h
 rcases h.2 with ⟨rfl,h0⟩|⟨g,cap,cur,rfl,_⟩
 ·have:ss=[]:=List.eq_nil_of_length_eq_zero h0
  subst this
  exact⟨none,0,rfl,fun h=>absurd rfl h⟩
 ·exact⟨_,_,rfl,fun _=>⟨g,0,rfl,fun k s hs=>by
   rw [Nat.zero_add]
   exact owned_at h hs⟩⟩
set_option maxRecDepth 20000 in
set_option maxHeartbeats 1000000 in
theorem number_rows (o:Option Addr) (c n:Nat) (ss:List Txt) (s:Txt) (w:World) (hn:ss.length=n) (hm:n≤1000000) (hc:TextsAt w o ss) (hr:Rising ss) (hs:s∈ss):Calls Tryz.prog 79 #[.slice o n c,encStr s] w fun e w'=>e=.returned (.int .i64 (idx ss s:Nat))∧w=w':=by
 have Hc:=Lib.hid hc
 have Hn:=Lib.hid hn
 have Hs:=Lib.hid hs
 have Hr:=Lib.hid hr
 clear hc hn hs hr
 go_enter Tryz.func79,Tryz.ntmps79
 go_wp2_with fail
 go_loop [5] (fun iv=>∃k:Nat,k≤n∧iv=.int .i64 k∧∀i z,i<k→ss[i]?=some z→z≠s) (fun iv=>n-(intOf iv).toNat)
 case atStart=>exact⟨0,Nat.zero_le _,rfl,fun i z h=>by omega⟩
 case round =>
  obtain⟨k,hk,rfl,hno⟩:=hrel
  have Hno:=Lib.hid hno
  clear hno
  by_cases hlt:k<n
  ·obtain⟨b,off,x,rfl,hx,hcx⟩:=Hc.out.at (k:=k) (by rw [Hn.out];exact hlt)
   have Hx:=Lib.hid hx
   clear hx
   by_cases he:x=s
   ·subst he
    have Hi:Hid (idx ss x=k):=Lib.hid (idx_eq Hr.out Hx.out)
    go_wp2_with fail
    go_ret
    exact⟨by rw [Hi.out];rfl,rfl⟩
   ·have hbe:(x == s)=false:=by simpa using he
    have He:=Lib.hid he
    clear he
    go_wp2_with fail
    go_round
    case rel=>exact⟨k+1,by omega,by go_num,fun i z hi hz=>by
     by_cases h:i<k
     ·exact Hno.out i z h hz
     ·obtain rfl:i=k:=by omega
      rw [Hx.out] at hz
      cases hz
      exact He.out⟩
    case measure=>simp [intOf];omega
  ·exfalso
   obtain⟨i,hi⟩:=List.getElem?_of_mem Hs.out
   have:=(List.getElem?_eq_some_iff.1 hi).1
   rw [Hn.out] at this
   exact Hno.out i s (by omega) hi rfl
theorem get_hit {l:List Lbl}{s v:Txt}{k:Nat}(hk:l[k]?=some (s,v)) (h:∀i y1 y2,i<k→l[i]?=some (y1,y2)→y1≠s):get l s=v:=by
 induction l generalizing k with
 | nil=>simp at hk
 | cons y l ih =>
  show (if y.1=s then y.2 else get l s)=v
  cases k with
  | zero =>
   simp at hk
   subst hk
   rw [if_pos rfl]
  | succ k =>
   rw [if_neg (h 0 y.1 y.2 (by omega) rfl)]
   exact ih (by simpa using hk) fun i y1 y2 hi hy=>h (i+1) y1 y2 (by omega) (by simpa using hy)
set_option maxRecDepth 20000 in
set_option maxHeartbeats 1000000 in
theorem get_rows (o:Option Addr) (c n:Nat) (l:List Lbl) (s:Txt) (w:World) (hn:l.length=n) (hm:n≤1000000000) (hc:Rows2 w o l):Calls Tryz.prog 160 #[.slice o n c,encStr s] w fun e w'=>e=.returned (encStr (get l s))∧w=w':=by
 have Hc:=Lib.hid hc
 have Hn:=Lib.hid hn
 clear hc hn
 go_enter Tryz.func160,Tryz.ntmps160
 go_wp2_with fail
 go_loop [5] (fun iv=>∃k:Nat,k≤n∧iv=.int .i64 k∧∀i y1 y2,i<k→l[i]?=some (y1,y2)→y1≠s) (fun iv=>n-(intOf iv).toNat)
 case atStart=>exact⟨0,Nat.zero_le _,rfl,fun i y1 y2 h=>by omega⟩
 case round =>
  obtain⟨k,hk,rfl,hno⟩:=hrel
  have Hno:=Lib.hid hno
  clear hno
  by_cases hlt:k<n
  ·obtain⟨b,off,x1,x2,rfl,hx,hcx,hcx2⟩:=Hc.out.at (k:=k) (by rw [Hn.out];exact hlt)
   have Hx:=Lib.hid hx
   clear hx
   by_cases he:x1=s
   ·subst he
    have Hi:Hid (get l x1=x2):=Lib.hid (get_hit Hx.out Hno.out)
    go_wp2_with fail
    go_ret
    exact⟨by rw [Hi.out];rfl,rfl⟩
   ·have hbe:(x1 == s)=false:=by simpa using he
    have He:=Lib.hid he
    clear he
    go_wp2_with fail
    go_round
    case rel=>exact⟨k+1,by omega,by go_num,fun i y1 y2 hi hz=>by
     by_cases h:i<k
     ·exact Hno.out i y1 y2 h hz
     ·obtain rfl:i=k:=by omega
      rw [Hx.out] at hz
      cases hz
      exact He.out⟩
    case measure=>simp [intOf];omega
  ·have Hi:Hid (get l s=[]):=Lib.hid (get_none fun y hy=>by
    obtain⟨i,hi⟩:=List.getElem?_of_mem hy
    have:=(List.getElem?_eq_some_iff.1 hi).1
    rw [Hn.out] at this
    exact Hno.out i y.1 y.2 (by omega) hi)
   go_wp2_with fail
   go_ret
   exact⟨by rw [Hi.out];rfl,rfl⟩
def nats (zs:List Nat):List Value:=zs.map fun (i:Nat)=>Value.int .i64 (i:Int)
def RowI (w:World) (B:Nat) (v:Value) (zs:List Nat):Prop:=w.ownsRow B 3 1 v zs.length (nats zs)
theorem Tryz.info3:(Tryz.prog.info? 3).map (fun i=>(i.zero,i.size,i.bytes))=some (some (.int .i64 0),1,8):=by kernel_rfl
theorem ofL_len (l:List Ent) (s v:Txt):(ofL l s v).length≤l.length:=by
 have key:∀(l:List Ent) (i:Nat),(ofFrom s v i l).length≤l.length:=by
  intro l
  induction l with
  | nil=>intro i;simp [ofFrom]
  | cons e l ih =>
   intro i
   show ((if get e.1 s=v then [i] else [])++ofFrom s v (i+1) l).length≤_
   have:=ih (i+1)
   rw [List.length_append,List.length_cons]
   split<;>simp<;>omega
 exact key l 0
set_option maxRecDepth 20000 in
set_option maxHeartbeats 2000000 in
theorem of_rows (o:Option Addr) (c n:Nat) (l:List Ent) (s v:Txt) (w:World) (hs:Small l) (hn:l.length=n) (hc:RowsE w o l):Calls Tryz.prog 118 #[.slice o n c,encStr s,encStr v] w fun e w'=>∃u,e=.returned u∧RowI w' w.heap.size u (ofL l s v)∧Below w.heap.size w w':=by
 obtain⟨i0,hi0,hz0,hz1,hz2⟩:=info_parts Tryz.info3
 have Hc:=Lib.hid hc
 have Hs:=Lib.hid hs
 have Hn:=Lib.hid hn
 have hm:n≤1000000000:=by have:=hs.1;omega
 clear hc hs hn
 go_enter Tryz.func118,Tryz.ntmps118
 go_wp2_with fail
 go_loopw [7,8] (fun sv iv wr=>∃k:Nat,k≤n∧iv=.int .i64 k∧Below w.heap.size w wr∧RowI wr w.heap.size sv (ofL (l.take k) s v)) (fun _ iv _=>n-(intOf iv).toNat)
 case atStart=>exact⟨0,Nat.zero_le _,rfl,Below.refl _ _,World.ownsRow_nil _ _ _ _⟩
 case round =>
  obtain⟨k,hk,rfl,hb,hrow⟩:=hrel
  have Hb:=Lib.hid hb
  have Hcr:=Lib.hid (Hc.out.olds (Olds.of_below hb))
  have hsz:=hb.size
  have Hrow0:=Lib.hid hrow
  by_cases hlt:k<n
  ·obtain⟨b,off,e1,e2,o1,n1,c1,o2,n2,c2,rfl,hx,hc1,hc2,hl1,hl2,hr1,hr2,_⟩:=Hcr.out.at (k:=k) (by rw [Hn.out];exact hlt)
   obtain⟨hs1,_,_⟩:=Hs.out.ent hx
   have HG:=Lib.hid (get_rows o1 c1 n1 e1 s wr hl1 (by omega) hr1)
   have Htk:Hid (l.take (k+1)=l.take k++[(e1,e2)]):=Lib.hid (take_snoc hx)
   have hlk:(l.take k).length=k:=by rw [List.length_take,Hn.out];omega
   have Hlk:=Lib.hid hlk
   have hol:=ofL_len (l.take k) s v
   rw [hlk] at hol
   unfold RowI at hrow
   obtain⟨ro,rc,rfl,_⟩:=ownsRow_shape hrow
   have Hrow:=Lib.hid hrow
   clear hb hrow hx hl1 hl2 hr1 hr2 hlk
   generalize hout:ofL (l.take k) s v=out at *
   have Hout:=Lib.hid hout
   clear hout
   generalize hN:out.length=N at *
   have HN:=Lib.hid hN
   clear hN
   by_cases he:get e1 s=v
   ·have hbe:(get e1 s == v)=true:=by simpa using he
    have He:=Lib.hid he
    clear he
    go_wp2_with (first
     | (go_at_call 160;refine HG.out.mono ?_;rintro e w' ⟨rfl,rfl⟩)
     | (at_builtin;refine wpList_append_lies _ rfl _ _ _ rfl w.heap.size 3 i0 _ 1 8 Tryz.underlying181 hi0 hz0 hz1 hz2 rfl Nat.one_pos (.slice ro N rc) N (nats out) rfl (ownsRow_olds Hrow.out (Olds.alloc _ _)) ⟨wr.heap.size,0,none⟩ 1 1 [.int .i64 (k:Int)] rfl rfl (World.news_of_block (cs:=#[.int .i64 (k:Int)]) (t:=3) (fr:=(0,0)) (heap_alloc_new wr _)) (by simp [Value.oneCell']) Nat.one_pos (by unfold maxLen;omega) (by omega) (by simp;omega) (wr.heap.size+1) (by simp) ?_;intro gg cap2 w4 hown4 hgrow hat hlt4;have B4:=Lib.hid ((Hb.out.alloc hsz _).grown hgrow (by simp;omega) (fun b hb=>(ownsRow_block Hrow.out hb).1));have Hown4:=Lib.hid hown4;clear hown4 hgrow hat))
    go_roundw
    case rel=>exact⟨k+1,by omega,by go_num,B4.out,by
     unfold RowI
     rw [Htk.out,ofL_snoc,Hout.out,Hlk.out,if_pos He.out,List.length_append,HN.out]
     have h9:=Hown4.out
     unfold nats at h9 ⊢
     rw [List.map_append]
     exact h9⟩
    case measure=>simp [intOf];omega
   ·have hbe:(get e1 s == v)=false:=by simpa using he
    have He:=Lib.hid he
    clear he
    go_wp2_with (go_at_call 160;refine HG.out.mono ?_;rintro e w' ⟨rfl,rfl⟩)
    go_roundw
    case rel=>exact⟨k+1,by omega,by go_num,Hb.out,by
     rw [Htk.out,ofL_snoc,Hout.out,if_neg He.out,List.append_nil]
     exact Hrow0.out⟩
    case measure=>simp [intOf];omega
  ·clear hb hrow
   go_wp2_with fail
   go_ret
   have e9:l.take k=l:=List.take_of_length_le (by rw [Hn.out];omega)
   have h9:=Hrow0.out
   rw [e9] at h9
   exact⟨_,rfl,h9,Hb.out⟩
end Go.Proofs.YtbecggfbblnglaaGreatDoor
