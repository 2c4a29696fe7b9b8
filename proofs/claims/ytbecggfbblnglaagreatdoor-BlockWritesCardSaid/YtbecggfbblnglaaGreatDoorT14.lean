/- Contracts over this program. Their conditions: the slices read as the lists that are named, and lie within the sizes that are named. -/
import Derived.Test.YtbecggfbblnglaaGreatDoorT11
import Derived.Deep.RegionWith
import Derived.Deep.CutRange
import Derived.StillTailTactics
import Derived.Test.YtbecggfbblnglaaGreatDoorT13
import Derived.Shelf.SlSortCmp.WholeK
import Derived.Shelf.SlSortCmp.NoneTotal
import Derived.Test.YtbecggfbblnglaaGreatDoorS9
import Derived.Ground.SlsfProg
set_option linter.unusedSimpArgs false
set_option linter.unusedVariables false
set_option linter.deprecated false
set_option linter.unnecessarySimpa false
namespace Go.Proofs.YtbecggfbblnglaaGreatDoor
open Go Go.RowKit Go.Ix
theorem lessO_yes {a b:Txt}(h:a<b):Op.bytesLess a b=true:=by rw [bytesLess_eq];exact decide_eq_true h
theorem lessO_no {a b:Txt}(h:¬ a<b):Op.bytesLess a b=false:=by rw [bytesLess_eq];exact decide_eq_false h
open Classical in
noncomputable def cmpT (s t:Txt):Int:=if s<t then -1 else if s=t then 0 else 1
set_option maxHeartbeats 400000 in
theorem nan_any (s:Txt) (w:World):Calls Tryz.prog 178 #[encStr s] w fun e w'=>e=.returned (.bool false)∧w=w':=by
 go_enter Tryz.func178,Tryz.ntmps178
 go_wp2_with fail
 go_ret
 exact⟨by simp,rfl⟩
set_option maxHeartbeats 1000000 in
theorem compare_any (s t:Txt) (w:World):Calls Tryz.prog 138 #[encStr s,encStr t] w fun e w'=>e=.returned (.int .i64 (cmpT s t))∧w=w':=by
 have H1:=Lib.hid (nan_any s w)
 have H2:=Lib.hid (nan_any t w)
 by_cases h:s<t
 ·have hb:=lessO_yes h
  have Hr:Hid (cmpT s t = -1):=Lib.hid (if_pos h)
  clear h
  go_enter Tryz.func138,Tryz.ntmps138
  go_wp2_with (first
   | (go_at_call 178;refine H1.out.mono ?_;clear H1;rintro e w' ⟨rfl,rfl⟩)
   | (go_at_call 178;refine H2.out.mono ?_;clear H2;rintro e w' ⟨rfl,rfl⟩))
  go_ret
  exact⟨by rw [Hr.out];rfl,rfl⟩
 ·have hb:=lessO_no h
  by_cases he:s=t
  ·have Hr:Hid (cmpT s t=0):=Lib.hid (by unfold cmpT;rw [if_neg h,if_pos he])
   subst he
   have hbe:(s == s)=true:=by simp
   clear h
   go_enter Tryz.func138,Tryz.ntmps138
   go_wp2_with (first
    | (go_at_call 178;refine H1.out.mono ?_;clear H1;rintro e w' ⟨rfl,rfl⟩)
    | (go_at_call 178;refine H2.out.mono ?_;clear H2;rintro e w' ⟨rfl,rfl⟩))
   all_goals (go_ret;exact⟨by rw [Hr.out];rfl,rfl⟩)
  ·have hbe:(s == t)=false:=by simpa using he
   have Hr:Hid (cmpT s t=1):=Lib.hid (by unfold cmpT;rw [if_neg h,if_neg he])
   clear h he
   go_enter Tryz.func138,Tryz.ntmps138
   go_wp2_with (first
    | (go_at_call 178;refine H1.out.mono ?_;clear H1;rintro e w' ⟨rfl,rfl⟩)
    | (go_at_call 178;refine H2.out.mono ?_;clear H2;rintro e w' ⟨rfl,rfl⟩))
   all_goals (go_ret;exact⟨by rw [Hr.out];rfl,rfl⟩)
set_option maxHeartbeats 1000000 in
theorem byname_any (x1 x2 y1 y2:Txt) (w:World):Calls Tryz.prog 130 #[.agg #[encStr x1,encStr x2],.agg #[encStr y1,encStr y2]] w fun e w'=>e=.returned (.int .i64 (cmpT x1 y1))∧Below w.heap.size w w':=by
 have H1:=Lib.hid (compare_any x1 y1)
 generalize cmpT x1 y1=r at *
 go_enter Tryz.func130,Tryz.ntmps130
 go_wp2_with (go_at_call 138;refine (H1.out _).mono ?_;rintro e w' ⟨rfl,rfl⟩)
 go_ret
 exact⟨rfl,(((Below.refl _ w).alloc (Nat.le_refl _) _).alloc (by simp) _)⟩
def orI (a b:Int):Int:=if a≠0 then a else b
set_option maxHeartbeats 1000000 in
theorem or_any (b c:Nat) (x y:Int) (w:World) (h0:w.cell? ⟨b,0,none⟩=some (.int .i64 x)) (h1:w.cell? ⟨b,1,none⟩=some (.int .i64 y)):Calls Tryz.prog 137 #[.slice (some ⟨b,0,none⟩) 2 c] w fun e w'=>e=.returned (.int .i64 (orI x y))∧w=w':=by
 go_enter Tryz.func137,Tryz.ntmps137
 go_wp2_with fail
 go_loop [5,8] (fun _ iv=>∃k:Nat,k≤2∧iv=.int .i64 k∧(0<k→x=0)∧(1<k→y=0)) (fun _ iv=>2-(intOf iv).toNat)
 case atStart=>exact⟨0,by omega,rfl,fun h=>by omega,fun h=>by omega⟩
 case round =>
  obtain⟨k,hk,rfl,hx,hy⟩:=hrel
  by_cases k0:k=0
  ·subst k0
   by_cases hx0:x=0
   ·subst hx0
    clear hx hy
    go_wp2_with fail
    go_round
    case rel=>exact⟨1,by omega,rfl,by simp,by simp⟩
    case measure=>simp [intOf]
   ·have hxb:(x != 0)=true:=by simpa using hx0
    have Hr:Hid (orI x y=x):=Lib.hid (if_pos hx0)
    clear hx hy hx0
    go_wp2_with fail
    go_ret
    exact⟨by rw [Hr.out];rfl,rfl⟩
  ·by_cases k1:k=1
   ·subst k1
    have hx0:=hx (by omega)
    subst hx0
    by_cases hy0:y=0
    ·subst hy0
     clear hx hy
     go_wp2_with fail
     go_round
     case rel=>exact⟨2,by omega,rfl,by simp,by simp⟩
     case measure=>simp [intOf]
    ·have hyb:(y != 0)=true:=by simpa using hy0
     have Hr:Hid (orI 0 y=y):=Lib.hid rfl
     clear hx hy hy0
     go_wp2_with fail
     go_ret
     exact⟨by rw [Hr.out];rfl,rfl⟩
   ·obtain rfl:k=2:=by omega
    have hx0:=hx (by omega)
    have hy0:=hy (by omega)
    subst hx0 hy0
    clear hx hy
    go_wp2_with fail
    go_ret
    exact⟨rfl,rfl⟩
theorem or_cmp (x1 x2 y1 y2:Txt):orI (cmpT x1 y1) (cmpT x2 y2)=cmpY (x1,x2) (y1,y2):=by
 unfold orI cmpY lblLt cmpT
 simp only
 by_cases h1:x1<y1
 ·simp [h1]
 ·by_cases he:x1=y1
  ·subst he
   by_cases h2:x2<y2
   ·simp [h1,h2]
   ·by_cases he2:x2=y2
    ·subst he2
     simp [h1,h2]
    ·simp [h1,h2,he2]
  ·simp [h1,he]
set_option maxHeartbeats 2000000 in
set_option maxRecDepth 20000 in
theorem cmp1_any (x1 x2 y1 y2:Txt) (w:World):Calls Tryz.prog 136 #[.agg #[encStr x1,encStr x2],.agg #[encStr y1,encStr y2]] w fun e w'=>e=.returned (.int .i64 (cmpY (x1,x2) (y1,y2)))∧Below w.heap.size w w':=by
 have H1:=Lib.hid (compare_any x1 y1)
 have H2:=Lib.hid (compare_any x2 y2)
 have Hr:=Lib.hid (or_cmp x1 x2 y1 y2)
 have HO:=Lib.hid (fun b c W=>or_any b c (cmpT x1 y1) (cmpT x2 y2) W)
 generalize cmpT x1 y1=r1 at *
 generalize cmpT x2 y2=r2 at *
 generalize cmpY (x1,x2) (y1,y2)=r3 at *
 rw [Hr.out] at HO
 go_enter Tryz.func136,Tryz.ntmps136
 go_wp2_with fail
 have hcells:∀W,W=(((w.alloc (.cells #[encStr x1,encStr x2] 80)).alloc (.cells #[encStr y1,encStr y2] 80)).drew)→W.cell? ⟨w.heap.size,0,none⟩=some (encStr x1)∧W.cell? ⟨w.heap.size,1,none⟩=some (encStr x2)∧W.cell? ⟨w.heap.size+1,0,none⟩=some (encStr y1)∧W.cell? ⟨w.heap.size+1,1,none⟩=some (encStr y2)∧Hid (Below w.heap.size w W):=fun W hW=>by
  subst hW
  refine⟨?_,?_,?_,?_,Lib.hid ((((Below.refl _ w).alloc (Nat.le_refl _) _).alloc (by simp) _).drew)⟩<;>simp
 refine wp_region_still_tail 10 (by kernel_rfl) (by kernel_rfl) ?_
 simp only [List.take_succ_cons,List.take_zero,List.drop_succ_cons,List.drop_zero]
 change wpStill _ _ (World.drew _) (fun a'=>wpList _ _ _ _ a' (World.drew _)) _ _
 generalize hW2:World.drew _=W2
 obtain⟨hc1,hc2,hc3,hc4,HB⟩:=hcells W2 hW2.symm
 clear hW2 hcells
 repeat still_step
 still_call ((H1.out _).mono fun e w3 h=>⟨h.1,h.2.symm⟩)
 repeat still_step
 still_call ((H2.out _).mono fun e w3 h=>⟨h.1,h.2.symm⟩)
 try refine wpStill_nil ?_
 have hsz:=HB.out.size
 go_wp2_with (go_at_call 137;refine (HO.out _ _ _ (by simp) (by simp)).mono ?_;clear HO;rintro e w' ⟨rfl,rfl⟩)
 go_ret
 exact⟨rfl,HB.out.alloc hsz _⟩
theorem below_one {W w':World}{o:Obj}(h:Below (W.alloc o).heap.size (W.alloc o) w'):Below W.heap.size W w':=((Below.refl _ W).alloc (Nat.le_refl _) o).trans (h.mono (by simp))
theorem below_two {W w':World}{o p:Obj}(h:Below ((W.alloc o).alloc p).heap.size ((W.alloc o).alloc p) w'):Below W.heap.size W w':=below_one (below_one h)
set_option maxRecDepth 20000 in
set_option maxHeartbeats 2000000 in
theorem cmpf_rows (o p:Option Addr) (c d n k:Nat) (l m:List Lbl) (w:World) (hn:l.length=n) (hk:m.length=k) (hl:n≤1000000000) (hm:k≤1000000000) (hc:Rows2 w o l) (hd:Rows2 w p m):Calls Tryz.prog 135 #[.slice o n c,.slice p k d,.func (.func 136) #[] #[]] w fun e w'=>e=.returned (.int .i64 (cmpL l m))∧Below w.heap.size w w':=by
 have Hc:=Lib.hid hc
 have Hd:=Lib.hid hd
 have Hn:=Lib.hid hn
 have Hk:=Lib.hid hk
 clear hc hd hn hk
 go_enter Tryz.func135,Tryz.ntmps135
 go_wp2_with fail
 go_loopw [7,8,9,10,13] (fun _ _ _ _ iv wr=>∃i:Nat,i≤n∧iv=.int .i64 i∧i≤k∧Below w.heap.size w wr∧l.take i=m.take i) (fun _ _ _ _ iv _=>n-(intOf iv).toNat)
 case atStart=>exact⟨0,Nat.zero_le _,rfl,Nat.zero_le _,Below.refl _ _,by simp⟩
 case round =>
  obtain⟨i,hi,rfl,hik,hb,hsame⟩:=hrel
  have Hsame:=Lib.hid hsame
  have Hb:=Lib.hid hb
  have hsz:=hb.size
  have Hcr:=Lib.hid (Hc.out.olds (Olds.of_below hb))
  have Hdr:=Lib.hid (Hd.out.olds (Olds.of_below hb))
  clear hsame hb
  by_cases hin:i<n
  ·obtain⟨b,off,x1,x2,rfl,hx,hx1,hx2⟩:=Hcr.out.at (k:=i) (by rw [Hn.out];exact hin)
   have Hx:=Lib.hid hx
   clear hx
   by_cases him:i<k
   ·obtain⟨b',off',y1,y2,rfl,hy,hy1,hy2⟩:=Hdr.out.at (k:=i) (by rw [Hk.out];exact him)
    have Hy:=Lib.hid hy
    clear hy
    have hbl:=cell_lt hy1
    have hbl2:=cell_lt hx1
    simp only at hbl hbl2
    have HC:=Lib.hid (fun W=>cmp1_any x1 x2 y1 y2 W)
    by_cases he:(x1,x2)=(y1,y2)
    ·have Hz:Hid (cmpY (x1,x2) (y1,y2)=0):=Lib.hid (cmpY_zero.2 he)
     rw [Hz.out] at HC
     have He:=Lib.hid he
     clear he
     go_wp2_with (go_at_call 136;refine (HC.out _).mono ?_;clear HC;rintro e w4 ⟨rfl,hb4⟩;have B4:=Lib.hid hb4;clear hb4)
     have hb5:=Lib.hid (Hb.out.trans ((below_two B4.out).mono hsz))
     go_roundw
     case rel=>exact⟨i+1,by omega,by go_num,by omega,hb5.out,by rw [List.take_add_one,List.take_add_one,Hsame.out,Hx.out,Hy.out,He.out]⟩
     case measure=>simp [intOf];omega
    ·have Hr:Hid (cmpL l m=cmpY (x1,x2) (y1,y2)):=Lib.hid (cmpL_at Hx.out Hy.out Hsame.out he)
     have hnz:cmpY (x1,x2) (y1,y2)≠0:=fun h=>he (cmpY_zero.1 h)
     generalize cmpY (x1,x2) (y1,y2)=r at *
     have hnb:(r != 0)=true:=by simpa using hnz
     clear he hnz
     go_wp2_with (go_at_call 136;refine (HC.out _).mono ?_;clear HC;rintro e w4 ⟨rfl,hb4⟩;have B4:=Lib.hid hb4;clear hb4)
     go_ret
     exact⟨by rw [Hr.out];rfl,Hb.out.trans ((below_two B4.out).mono hsz)⟩
   ·have Hr:Hid (cmpL l m=1):=Lib.hid (cmpL_long (by
     have h:=Hsame.out
     have e:i=m.length:=by rw [Hk.out];omega
     rw [e,List.take_length] at h
     exact h) (by rw [Hn.out,Hk.out];omega))
    have hki:k≤i:=by omega
    go_wp2_with fail
    go_ret
    exact⟨by rw [Hr.out];rfl,Hb.out.alloc hsz _⟩
  ·obtain rfl:n=i:=by omega
   by_cases him:n<k
   ·have Hr:Hid (cmpL l m = -1):=Lib.hid (cmpL_short (by
     have h:=Hsame.out
     rw [Hn.out]
     rw [List.take_of_length_le (by rw [Hn.out];exact Nat.le_refl _)] at h
     exact h) (by rw [Hn.out,Hk.out];omega))
    go_wp2_with fail
    go_ret
    exact⟨by rw [Hr.out];rfl,Hb.out⟩
   ·obtain rfl:n=k:=by omega
    have Hr:Hid (cmpL l m=0):=Lib.hid (by
     have h:=Hsame.out
     rw [List.take_of_length_le (by rw [Hn.out];exact Nat.le_refl _),List.take_of_length_le (by rw [Hk.out];exact Nat.le_refl _)] at h
     rw [h]
     exact cmpL_self m)
    go_wp2_with fail
    go_ret
    exact⟨by rw [Hr.out];rfl,Hb.out⟩
set_option maxHeartbeats 1000000 in
theorem pcmp_rows (o p:Option Addr) (c d n k:Nat) (l m:List Lbl) (w:World) (hn:l.length=n) (hk:m.length=k) (hl:n≤1000000000) (hm:k≤1000000000) (hc:Rows2 w o l) (hd:Rows2 w p m):Calls Tryz.prog 88 #[.slice o n c,.slice p k d] w fun e w'=>e=.returned (.int .i64 (cmpL l m))∧Below w.heap.size w w':=by
 have HC:=Lib.hid (cmpf_rows o p c d n k l m w hn hk hl hm hc hd)
 clear hc hd hn hk
 generalize cmpL l m=r at *
 go_enter Tryz.func88,Tryz.ntmps88
 go_wp2_with (go_at_call 135;refine HC.out.mono ?_;clear HC;rintro e w4 ⟨rfl,hb4⟩;have B4:=Lib.hid hb4;clear hb4)
 go_ret
 exact⟨rfl,B4.out⟩
def Sorted (l:List Lbl):Prop:=∀(i:Nat) (a b:Lbl),l[i]?=some a→l[i+1]?=some b→¬ b.1<a.1
theorem sorted_next {l:List Lbl}(h:¬ Twice l):Sorted l↔Go.Ix.Next l:=by
 constructor
 ·intro hs i a b ha hb
  rcases Line.tri (α:=Txt) a.1 b.1 with h1 | h1 | h1
  ·exact h1
  ·exact absurd ⟨i+1,i,b,a,by omega,hb,ha,h1.symm⟩ h
  ·exact absurd h1 (hs i a b ha hb)
 ·intro hn i a b ha hb hlt
  exact List.lt_irrefl _ (List.lt_trans (hn i a b ha hb) hlt)
theorem cmpT_neg {s t:Txt}:cmpT s t<0↔s<t:=by
 unfold cmpT
 split
 ·simp [*]
 ·split<;>simp [*]
set_option maxRecDepth 20000 in
set_option maxHeartbeats 2000000 in
theorem issorted_rows (o:Option Addr) (c n:Nat) (l:List Lbl) (w:World) (hn:l.length=n) (hl:n≤1000000000) (hc:Rows2 w o l):Calls Tryz.prog 129 #[.slice o n c,.func (.func 130) #[] #[]] w fun e w'=>Says (Sorted l) e∧Below w.heap.size w w':=by
 have Hc:=Lib.hid hc
 have Hn:=Lib.hid hn
 clear hc hn
 go_enter Tryz.func129,Tryz.ntmps129
 go_wp2_with fail
 go_loopw [5] (fun iv wr=>∃i:Int,iv=.int .i64 i∧ -1≤i∧i<(n:Int)∧(i = -1→n=0)∧Below w.heap.size w wr∧∀(j:Nat) (a b:Lbl),i≤(j:Int)→l[j]?=some a→l[j+1]?=some b→¬ b.1<a.1) (fun iv _=>(intOf iv).toNat)
 case atStart=>exact⟨(n:Int)-1,rfl,by omega,by omega,by omega,Below.refl _ _,fun j a b h _ hb=>by
  have:=(List.getElem?_eq_some_iff.1 hb).1
  rw [Hn.out] at this
  omega⟩
 case round =>
  obtain⟨i,rfl,hi1,hi2,hi3,hb,hno⟩:=hrel
  have Hno:=Lib.hid hno
  have Hb:=Lib.hid hb
  have hsz:=hb.size
  have Hcr:=Lib.hid (Hc.out.olds (Olds.of_below hb))
  clear hno hb
  by_cases hpos:0<i
  ·obtain⟨j,rfl⟩:∃j:Nat,i=(j:Int)+1:=⟨(i-1).toNat,by omega⟩
   obtain⟨b,off,x1,x2,rfl,hx,hx1,hx2⟩:=Hcr.out.at (k:=j) (by rw [Hn.out];omega)
   obtain⟨y1,y2,hy,hy1,hy2⟩:=Hcr.out.next (k:=j+1) (by rw [Hn.out];omega)
   have Hx:=Lib.hid hx
   have Hy:=Lib.hid hy
   clear hx hy
   have HC:=Lib.hid (fun W=>byname_any y1 y2 x1 x2 W)
   by_cases hlt:y1<x1
   ·have hneg:cmpT y1 x1<0:=cmpT_neg.2 hlt
    have Hlt:=Lib.hid hlt
    clear hlt
    generalize cmpT y1 x1=r at *
    have hdr:∀W,W=wr.drew→W.cell? ⟨b,off+j * 2,none⟩=some (encStr x1)∧W.cell? ⟨b,off+j * 2+1,none⟩=some (encStr x2)∧W.cell? ⟨b,off+(j+1) * 2,none⟩=some (encStr y1)∧W.cell? ⟨b,off+(j+1) * 2+1,none⟩=some (encStr y2)∧Hid (Below w.heap.size w W):=fun W hW=>by
     subst hW
     exact⟨hx1,hx2,hy1,hy2,Lib.hid Hb.out.drew⟩
    go_wp2_with fail
    refine wp_region_still_tail 10 (by kernel_rfl) (by kernel_rfl) ?_
    simp only [List.take_succ_cons,List.take_zero,List.drop_succ_cons,List.drop_zero]
    change wpStill _ _ (World.drew _) (fun a'=>wpList _ _ _ _ a' (World.drew _)) _ _
    generalize hW2:World.drew _=W2
    obtain⟨hx1,hx2,hy1,hy2,HB⟩:=hdr W2 hW2.symm
    clear hW2 hdr
    have hszB:=HB.out.size
    have hj1:((j:Int)+1<(n:Int)):=by omega
    have hj0:(0:Int)≤(j:Int)+1:=by omega
    have hj2:((j:Int)<(n:Int)):=by omega
    have hj3:((j:Int)+1).toNat=j+1:=by omega
    have hjw:IntKind.i64.wrap (j:Int)=(j:Int):=by rw [IntKind.wrap_i64];omega
    repeat still_step
    try refine wpStill_nil ?_
    go_wp2_with (go_at_call 130;refine (HC.out _).mono ?_;clear HC;rintro e w4 ⟨rfl,hb4⟩;have B4:=Lib.hid hb4;clear hb4)
    go_ret
    exact⟨.inr ⟨rfl,fun h=>h j _ _ Hx.out Hy.out Hlt.out⟩,HB.out.trans (B4.out.mono hszB)⟩
   ·have hneg:¬ cmpT y1 x1<0:=fun h=>hlt (cmpT_neg.1 h)
    have Hlt:=Lib.hid hlt
    clear hlt
    generalize cmpT y1 x1=r at *
    have hdr:∀W,W=wr.drew→W.cell? ⟨b,off+j * 2,none⟩=some (encStr x1)∧W.cell? ⟨b,off+j * 2+1,none⟩=some (encStr x2)∧W.cell? ⟨b,off+(j+1) * 2,none⟩=some (encStr y1)∧W.cell? ⟨b,off+(j+1) * 2+1,none⟩=some (encStr y2)∧Hid (Below w.heap.size w W):=fun W hW=>by
     subst hW
     exact⟨hx1,hx2,hy1,hy2,Lib.hid Hb.out.drew⟩
    go_wp2_with fail
    refine wp_region_still_tail 10 (by kernel_rfl) (by kernel_rfl) ?_
    simp only [List.take_succ_cons,List.take_zero,List.drop_succ_cons,List.drop_zero]
    change wpStill _ _ (World.drew _) (fun a'=>wpList _ _ _ _ a' (World.drew _)) _ _
    generalize hW2:World.drew _=W2
    obtain⟨hx1,hx2,hy1,hy2,HB⟩:=hdr W2 hW2.symm
    clear hW2 hdr
    have hszB:=HB.out.size
    have hj1:((j:Int)+1<(n:Int)):=by omega
    have hj0:(0:Int)≤(j:Int)+1:=by omega
    have hj2:((j:Int)<(n:Int)):=by omega
    have hj3:((j:Int)+1).toNat=j+1:=by omega
    have hjw:IntKind.i64.wrap (j:Int)=(j:Int):=by rw [IntKind.wrap_i64];omega
    repeat still_step
    try refine wpStill_nil ?_
    go_wp2_with (go_at_call 130;refine (HC.out _).mono ?_;clear HC;rintro e w4 ⟨rfl,hb4⟩;have B4:=Lib.hid hb4;clear hb4)
    go_roundw
    case rel=>exact⟨(j:Int),rfl,by omega,by omega,by omega,HB.out.trans (B4.out.mono hszB),fun j' a' b' hj' ha' hb'=>by
     by_cases h:j'=j
     ·subst h
      have h1:=Hx.out
      have h2:=Hy.out
      rw [ha'] at h1
      rw [hb'] at h2
      cases h1
      cases h2
      exact Hlt.out
     ·exact Hno.out j' a' b' (by omega) ha' hb'⟩
    case measure=>simp [intOf]<;>omega
  ·go_wp2_with fail
   go_ret
   exact⟨.inl ⟨rfl,fun j a b ha hb=>Hno.out j a b (by omega) ha hb⟩,Hb.out⟩
end Go.Proofs.YtbecggfbblnglaaGreatDoor
namespace Go.Proofs
open Go.Shelf Go.RowKit Go.Lib Go.Sort
end Go.Proofs
namespace Go.Proofs.YtbecggfbblnglaaGreatDoor
open Go Go.RowKit Go.Ix Go.Maps
abbrev FP:=Fin 1000000001×Fin 1000000001
def fcell (x:FP):List Value:=[.int .i64 (x.1.val:Int),.int .i64 (x.2.val:Int)]
def unF (x:FP):Nat×Nat:=(x.1.val,x.2.val)
def cfP (x y:FP):Int:=orI ((x.1.val:Int)-(y.1.val:Int)) ((x.2.val:Int)-(y.2.val:Int))
set_option maxHeartbeats 1000000 in
theorem closure87 (x y:FP) (W:World):Calls Tryz.prog 153 #[.agg (fcell x).toArray,.agg (fcell y).toArray] W fun e w'=>e=.returned (.int .i64 (cfP x y))∧∃q os',w'=Sort.grow (W.drewN q) os':=by
 obtain⟨⟨x1,hx1⟩,⟨x2,hx2⟩⟩:=x
 obtain⟨⟨y1,hy1⟩,⟨y2,hy2⟩⟩:=y
 have HO:=Lib.hid (fun b c W=>or_any b c ((x1:Int)-(y1:Int)) ((x2:Int)-(y2:Int)) W)
 have Hc:Hid (cfP (⟨x1,hx1⟩,⟨x2,hx2⟩) (⟨y1,hy1⟩,⟨y2,hy2⟩)=orI ((x1:Int)-(y1:Int)) ((x2:Int)-(y2:Int))):=Lib.hid rfl
 generalize cfP _ _=r at Hc ⊢
 show Calls Tryz.prog 153 #[.agg #[.int .i64 (x1:Int),.int .i64 (x2:Int)],.agg #[.int .i64 (y1:Int),.int .i64 (y2:Int)]] W _
 have w1:IntKind.i64.wrap ((x1:Int)-(y1:Int))=(x1:Int)-(y1:Int):=by rw [IntKind.wrap_i64];omega
 have w2:IntKind.i64.wrap ((x2:Int)-(y2:Int))=(x2:Int)-(y2:Int):=by rw [IntKind.wrap_i64];omega
 have hcell:∀(X:World) (z1 z2:Int) (B:Nat),B=X.heap.size→(X.alloc (.cells #[.int .i64 z1,.int .i64 z2] 3)).cell? ⟨B,0,none⟩=some (.int .i64 z1)∧(X.alloc (.cells #[.int .i64 z1,.int .i64 z2] 3)).cell? ⟨B,1,none⟩=some (.int .i64 z2):=fun X z1 z2 B hB=>by
  subst hB
  have h9:=heap_alloc_new X (.cells #[.int .i64 z1,.int .i64 z2] 3)
  exact⟨by simp only [World.cell?,h9];rfl,by simp only [World.cell?,h9];rfl⟩
 go_enter Tryz.func153,Tryz.ntmps153
 go_wp2_with (go_at_call 137;refine (HO.out _ _ _ ?_ ?_).mono ?_;rotate_left 2;rintro e w' ⟨rfl,rfl⟩)
 ·go_ret
  exact⟨by rw [Hc.out];rfl,0,_,by rw [Sort.alloc_eq_grow,Sort.alloc_eq_grow,Sort.alloc_eq_grow,Sort.grow_grow,Sort.grow_grow];rfl⟩
 ·exact (hcell _ _ _ _ (by simp)).1
 ·exact (hcell _ _ _ _ (by simp)).2
theorem cfP_lt {x y:FP}:cfP x y<0↔x.1.val<y.1.val∨(x.1.val=y.1.val∧x.2.val<y.2.val):=by
 unfold cfP orI
 split<;>omega
theorem ltP (x y:FP):ltOf cfP x y=decide (x.1.val<y.1.val∨(x.1.val=y.1.val∧x.2.val<y.2.val)):=by
 unfold ltOf
 exact decide_eq_decide.2 cfP_lt
theorem swoP:Sort.SWO (ltOf cfP) where
 irrefl x:=by rw [ltP];simp
 trans x y z h1 h2:=by rw [ltP] at *;simp at *;omega
 ntrans x y z h1 h2:=by rw [ltP] at *;simp at *;omega
theorem totP (x y:FP) (h1:ltOf cfP x y=false) (h2:ltOf cfP y x=false):x=y:=by
 rw [ltP] at h1 h2
 simp at h1 h2
 refine Prod.ext (Fin.ext ?_) (Fin.ext ?_)<;>omega
theorem Tryz.isAgg314 (w:World):(isAgg 314).run Tryz.prog w=.ok true w:=by kernel_rfl
theorem Tryz.sizeOf314 (w:World):(Go.sizeOf 314).run Tryz.prog w=.ok 2 w:=by kernel_rfl
theorem closure_lays (blk off size:Nat) (w:World):Go.Proofs.CmpLays Tryz.prog 153 #[] fcell 2 cfP blk off size w:=fun _ _ _ _ x y=>closure87 x y _
theorem sorted_fp (d:List FP) (hn:d.Nodup):Rising ((d.mergeSort fun x y=>!(ltOf cfP) y x).map unF):=by
 have tr:∀a b c:FP,(!(ltOf cfP) b a)=true→(!(ltOf cfP) c b)=true→(!(ltOf cfP) c a)=true:=fun a b c h1 h2=>by
  rw [Bool.not_eq_true'] at *
  exact swoP.ntrans c b a h2 h1
 have tt:∀a b:FP,((!(ltOf cfP) b a) || (!(ltOf cfP) a b))=true:=fun a b=>by
  cases h:ltOf cfP b a
  ·rfl
  ·cases h2:ltOf cfP a b
   ·rfl
   ·have:=swoP.trans a b a h2 h
    rw [swoP.irrefl] at this
    cases this
 have hs:=List.pairwise_mergeSort tr tt d
 have hp:=List.mergeSort_perm d (fun x y=>!(ltOf cfP) y x)
 have hn2:=hp.nodup_iff.2 hn
 unfold Rising
 refine List.pairwise_map.2 ((hs.and hn2).imp fun {a b} ⟨h1,h2⟩=>?_)
 rw [Bool.not_eq_true'] at h1
 show (unF a).1<(unF b).1∨((unF a).1=(unF b).1∧(unF a).2<(unF b).2)
 have h3:ltOf cfP a b=true:=by
  cases h:ltOf cfP a b
  ·exact absurd (totP a b h h1) h2
  ·rfl
 rw [ltP] at h3
 exact of_decide_eq_true h3
theorem sort_any (g cap:Nat) (d:Array FP) (w:World) (hH:Sort.HoldsK fcell 2 w g 0 d) (hg:g<w.heap.size) (hsz:d.size≤1000000000) :
  Calls Tryz.prog 192 #[.slice (some ⟨g,0,none⟩) d.size cap,.func (.func 153) #[] #[]] w fun e w'=>e=.returned (.tuple #[])∧∃n os,w'=sortWorldK fcell 2 w g 0 n (d.toList.mergeSort fun x y=>!(ltOf cfP) y x).toArray os:=by
 have eg:∀args w,(callFunc 153 args).run Tryz.prog w=.ok (.enter 153 args) w:=enters_of Tryz.func153 (by kernel_rfl) rfl
 exact AnyQ.slices_SortFunc_total Tryz.sort192 2 Tryz.isAgg314 Tryz.sizeOf314 fcell (fun _=>rfl) (fun x v hv=>by simp [fcell] at hv;rcases hv with rfl | rfl<;>rfl) cfP swoP 153 #[] g 0 cap d w eg (closure_lays g 0 d.size w) hH hg (by omega) totP
end Go.Proofs.YtbecggfbblnglaaGreatDoor
namespace Go.Proofs.YtbecggfbblnglaaGreatDoor
open Go Go.RowKit Go.Ix Go.Maps
def toF (p:Nat×Nat):FP:=(Fin.ofNat 1000000001 p.1,Fin.ofNat 1000000001 p.2)
theorem unF_toF {p:Nat×Nat}(h1:p.1≤1000000000) (h2:p.2≤1000000000):unF (toF p)=p:=by
 unfold unF toF
 exact Prod.ext (by simp [Fin.ofNat];omega) (by simp [Fin.ofNat];omega)
theorem map_toF {ss:List (Nat×Nat)}(h:∀p∈ss,p.1≤1000000000∧p.2≤1000000000):(ss.map toF).map unF=ss:=by
 rw [List.map_map]
 conv=>rhs;rw [← List.map_id ss]
 exact List.map_congr_left fun p hp=>unF_toF (h p hp).1 (h p hp).2
theorem pcell_len (p:Nat×Nat):(pcell p).length=2:=rfl
theorem flatK_flatP (d:Array FP) (t:Nat) (ht:t<d.size * 2):(flatP (d.toList.map unF))[t]?=some (Sort.flatK fcell 2 d)[t]!:=by
 rw [Sort.get_flatK _ _ _ _ ht]
 have h2:t / 2<d.size:=by omega
 have h1:(d.toList.map unF)[t / 2]?=some (unF d[t / 2]!):=by
  rw [List.getElem?_map,Array.getElem?_toList,Array.getElem?_eq_getElem h2]
  simp [h2]
 have h3:(pcell (unF d[t / 2]!))[t % 2]?=some (fcell d[t / 2]!)[t % 2]!:=by
  have:t % 2=0∨t % 2=1:=by omega
  rcases this with h | h<;>rw [h]<;>rfl
 have:=flat_at (enc:=pcell) (k:=2) pcell_len _ _ _ _ _ h1 h3
 rw [show t / 2 * 2+t % 2=t by omega] at this
 exact this
theorem holdsF {W:World}{B g c:Nat}{d:Array FP}(h:W.ownsRow B 314 2 (.slice (some ⟨g,0,none⟩) d.size c) d.size (flatP (d.toList.map unF))) (_hd:0<d.size):Sort.HoldsK fcell 2 W g 0 d:=by
 intro t ht
 rw [Sort.size_flatK] at ht
 have h1:=ownsRow_cell h t _ (flatK_flatP d t ht)
 refine⟨h1,?_⟩
 rcases h.2 with ⟨e,_⟩|⟨g',cap,cur,e,_,hh,_⟩
 ·cases e
 ·simp only [Value.slice.injEq,Option.some.injEq,Addr.mk.injEq,and_true,true_and] at e
  obtain⟨rfl,_⟩:=e
  simp [World.frozen?,hh]
theorem sortWorld_blocks {w:World}{g n:Nat}{d:Array FP}{os:Array Obj}{k:Nat}(hk:k<w.heap.size) (hg:k≠g):(sortWorldK fcell 2 w g 0 n d os).heap[k]?=w.heap[k]?:=by
 unfold sortWorldK Sort.grow Sort.putRowK Sort.putRow Sort.mapBlock Sort.ahead
 have hs:(w.heap.modify g (Sort.onCells (Sort.putCells id 0 (Sort.flatK fcell 2 d)))).size=w.heap.size:=by simp
 show ((w.heap.modify g _)++os)[k]?=_
 rw [Array.getElem?_append_left (by rw [hs];exact hk),Array.getElem?_modify]
 rw [if_neg (fun e=>hg e.symm)]
theorem sortWorld_kept {w:World}{g n:Nat}{d:Array FP}{os:Array Obj}:(sortWorldK fcell 2 w g 0 n d os).os=w.os∧(sortWorldK fcell 2 w g 0 n d os).tape=w.tape∧(sortWorldK fcell 2 w g 0 n d os).output=w.output∧w.heap.size≤(sortWorldK fcell 2 w g 0 n d os).heap.size:=by
 refine⟨rfl,rfl,rfl,?_⟩
 exact size_sortWorldK_c _ _ _ _ _ _ _ _
def PairsAt (w:World) (o:Option Addr) (ks:List (Nat×Nat)):Prop:=ks≠[]→∃g,o=some ⟨g,0,none⟩∧CellsAt w g 0 (flatP ks)
theorem sort_pairs {w:World}{B:Nat}{v:Value}{ss:List (Nat×Nat)}(hrow:RowP w B v ss) (hn:ss.Nodup) (hb:∀p∈ss,p.1≤1000000000∧p.2≤1000000000) (hl:ss.length≤1000000) :
  Calls Tryz.prog 192 #[v,.func (.func 153) #[] #[]] w fun e w'=>e=.returned (.tuple #[])∧∃o c ks,v=.slice o ks.length c∧PairsAt w' o ks∧(∀g off,o=some ⟨g,off,none⟩→B≤g∧g<w'.heap.size)∧Rising ks∧(∀p,p∈ks↔p∈ss)∧Below B w w':=by
 unfold RowP at hrow
 by_cases h0:ss=[]
 ·subst h0
  obtain⟨o,c,rfl,_⟩:=ownsRow_shape hrow
  have hblk:∀g off,o=some ⟨g,off,none⟩→B≤g∧g<w.heap.size:=fun g off e=>ownsRow_block hrow (by rw [e];rfl)
  exact (AnyF.slices_SortFunc_none { Tryz.sort192 with } o c (.func (.func 153) #[] #[]) w).mono fun e w' ⟨h1,h2⟩=>⟨h1,o,c,[],rfl,fun h=>absurd rfl h,by rw [h2];exact hblk,List.Pairwise.nil,fun p=>Iff.rfl,by rw [h2];exact Below.refl _ _⟩
 ·have hlen:0<ss.length:=List.length_pos_iff.2 h0
  rcases hrow.2 with ⟨_,h⟩|⟨g,cap,cur,rfl,hBg,hh,_⟩
  ·omega
  ·have hglt:g<w.heap.size:=(Array.getElem?_eq_some_iff.1 hh).1
   obtain⟨d,hd⟩:∃d:Array FP,d=(ss.map toF).toArray:=⟨_,rfl⟩
   have hds:d.size=ss.length:=by rw [hd];simp
   have hdl:d.toList=ss.map toF:=by rw [hd]
   have hmap:d.toList.map unF=ss:=by rw [hdl];exact map_toF hb
   have hH:Sort.HoldsK fcell 2 w g 0 d:=holdsF (B:=B) (c:=cap) (by rw [hmap,hds];exact hrow) (by omega)
   have hcall:=sort_any g cap d w hH hglt (by omega)
   rw [hds] at hcall
   refine hcall.mono fun e w' ⟨h1,n,os,h2⟩=>?_
   obtain⟨d',hd'⟩:∃d':Array FP,d'=(d.toList.mergeSort fun x y=>!(ltOf cfP) y x).toArray:=⟨_,rfl⟩
   rw [← hd'] at h2
   have hperm:d'.toList.Perm d.toList:=by rw [hd'];exact List.mergeSort_perm _ _
   have hdn:d.toList.Nodup:=by
    rw [hdl]
    refine List.pairwise_map.2 (List.Pairwise.imp_of_mem ?_ hn)
    intro a b ha hb' hab e
    apply hab
    rw [← unF_toF (hb a ha).1 (hb a ha).2,← unF_toF (hb b hb').1 (hb b hb').2,e]
   have hsz':d'.size=d.size:=by
    have:=hperm.length_eq
    simpa using this
   have hH':Sort.HoldsK fcell 2 w' g 0 d':=by
    rw [h2]
    exact holdsK_sortWorldK_c _ _ _ _ _ d d' n os hH hglt hsz'
   have hkl:(d'.toList.map unF).length=ss.length:=by rw [List.length_map];simp;omega
   refine⟨h1,some ⟨g,0,none⟩,cap,d'.toList.map unF,by rw [hkl],fun _=>⟨g,rfl,fun t u hu=>?_⟩,fun g' off e=>?_,?_,fun p=>?_,?_⟩
   ·have htl:t<d'.size * 2:=by
     have:=(List.getElem?_eq_some_iff.1 hu).1
     unfold flatP at this
     rw [flat_len pcell_len,List.length_map] at this
     simpa using this
    have h3:=flatK_flatP d' t htl
    rw [h3] at hu
    cases hu
    exact (hH' t (by rw [Sort.size_flatK];exact htl)).1
   ·cases e
    have:=(sortWorld_kept (w:=w) (g:=g) (n:=n) (d:=d') (os:=os)).2.2.2
    rw [h2]
    exact⟨hBg,by omega⟩
   ·rw [hd']
    exact sorted_fp d.toList hdn
   ·have:p∈d'.toList.map unF↔p∈d.toList.map unF:=(hperm.map unF).mem_iff
    rw [this,hmap]
   ·obtain⟨k1,k2,k3,k4⟩:=sortWorld_kept (w:=w) (g:=g) (n:=n) (d:=d') (os:=os)
    rw [h2]
    exact⟨k1,k2,k3,k4,fun k hk=>sortWorld_blocks (by omega) (by omega)⟩
set_option maxHeartbeats 1000000 in
theorem sortedfunc_any {w:World}{base mb n:Nat}{q:List ((Nat×Nat)×Nat)}{V:Nat×Nat→Value}(hq:Small2 q) (hgrp:GrpAt w base mb n q V) (hn:n≤1000000) (hk:∀ss:List (Nat×Nat),ss.Nodup→(∀p,p∈ss↔grp q p≠[])→ss.length≤1000000) :
  Calls Tryz.prog 154 #[.func (.func 193) #[] #[.pointer (some ⟨w.heap.size,0,none⟩)],.func (.func 153) #[] #[]] (w.alloc (.cells #[.map (some mb)] 312)) fun e w'=>∃o c ks,e=.returned (.slice o ks.length c)∧PairsAt w' o ks∧(∀g off,o=some ⟨g,off,none⟩→w.heap.size+1≤g∧g<w'.heap.size)∧Rising ks∧(∀p,p∈ks↔grp q p≠[])∧Below (w.heap.size+1) (w.alloc (.cells #[.map (some mb)] 312)) w':=by
 have HC:=Lib.hid (collect_any hq hgrp hn)
 have HK:=Lib.hid hk
 have hbr:∀r,grp q r≠[]→r.1≤1000000000∧r.2≤1000000000:=fun r hr=>by
  obtain⟨i,hi⟩:=grp_ne.1 hr
  exact hq _ hi
 have HB:=Lib.hid hbr
 clear hk hbr hq hgrp
 go_enter Tryz.func154,Tryz.ntmps154
 go_wp2_with (first
  | (go_at_call 191;refine HC.out.mono ?_;clear HC;rintro e wa ⟨v,ss,rfl,⟨hnd,hmem⟩,hrow,hba⟩;have HS:=Lib.hid (sort_pairs hrow hnd (fun p hp=>HB.out p ((hmem p).1 hp)) (HK.out ss hnd hmem));have Hmem:=Lib.hid hmem;have Hba:=Lib.hid hba;clear hnd hmem hrow hba)
  | (go_at_call 192;refine HS.out.mono ?_;clear HS;rintro e wb ⟨rfl,o,c,ks,rfl,hpairs,hblk,hris,hks,hbb⟩;have HP:=Lib.hid hpairs;have HBl:=Lib.hid hblk;have HR:=Lib.hid hris;have HKs:=Lib.hid hks;have Hbb:=Lib.hid hbb;clear hpairs hblk hris hks hbb))
 go_ret
 exact⟨o,c,ks,rfl,HP.out,HBl.out,HR.out,fun p=>(HKs.out p).trans (Hmem.out p),Hba.out.trans Hbb.out⟩
end Go.Proofs.YtbecggfbblnglaaGreatDoor
namespace Go.Proofs.YtbecggfbblnglaaGreatDoor
open Go Go.RowKit Go.Ix Go.Maps
theorem GrpAt.look {w:World}{base mb n:Nat}{q:List ((Nat×Nat)×Nat)}{V:Nat×Nat→Value}(h:GrpAt w base mb n q V) (hq:Small2 q) {p:Nat×Nat}(hp:grp q p≠[]):(Instr.lookup 312 (.map (some mb)) (pv p) false).run Tryz.prog w=.ok (V p) w∧RowI w base (V p) (grp q p):=by
 obtain⟨D,hown,a3,a4,a5,a6⟩:=h
 obtain⟨i,hi⟩:=grp_ne.1 hp
 obtain⟨b1,b2⟩:=hq _ hi
 obtain⟨v,ps,hr,hv⟩:=hown.lookup (t:=312) (e:=181) Tryz.lawP Tryz.underlying312 (zeroI w) (zd:=.held (.slice none 0 0)) (zp:=[]) rfl (keyP b1 b2)
 rw [(a5 p hp).2.1] at hv
 unfold RV at hv
 simp only [Option.some.injEq,Prod.mk.injEq,DataW.held.injEq] at hv
 rw [hr,hv.1]
 exact⟨rfl,(a5 p hp).2.2⟩
theorem grp_len_le {q:List ((Nat×Nat)×Nat)}{ss:List (Nat×Nat)}(hn:ss.Nodup) (hm:∀p,p∈ss↔grp q p≠[]):ss.length≤q.length:=by
 have hsub:ss ⊆ q.map (·.1):=fun p hp=>by
  obtain⟨i,hi⟩:=grp_ne.1 ((hm p).1 hp)
  exact List.mem_map.2 ⟨_,hi,rfl⟩
 have key:∀(l m:List (Nat×Nat)),l.Nodup→l ⊆ m→l.length≤m.length:=by
  intro l
  induction l with
  | nil=>intro m _ _;simp
  | cons a l ih =>
   intro m hl hs
   obtain⟨h1,h2⟩:=List.nodup_cons.1 hl
   have ha:a∈m:=hs (by simp)
   have h3:=ih (m.erase a) h2 fun b hb=>(List.mem_erase_of_ne (by rintro rfl;exact h1 hb)).2 (hs (by simp [hb]))
   rw [List.length_erase_of_mem ha] at h3
   have:=List.length_pos_of_mem ha
   rw [List.length_cons]
   omega
 have:=key _ _ hn hsub
 simpa using this
theorem GrpAt.sized {w:World}{base mb n:Nat}{q:List ((Nat×Nat)×Nat)}{V:Nat×Nat→Value}(h:GrpAt w base mb n q V):∃D:DataW Value,w.ownsMap Tryz.prog 314 RV mb n D∧∀ss:List (Nat×Nat),ss.Nodup→(∀p,p∈ss↔grp q p≠[])→Maps.size D=ss.length:=by
 obtain⟨D,hown,a3,a4,a5,a6⟩:=h
 refine⟨D,hown,fun ss hn hm=>?_⟩
 obtain⟨es,rfl,hpw,hk⟩:=hown.entries Tryz.lawP
 have hmem:∀e∈es,∃p,e.1=kp p∧grp q p≠[]:=fun e he=>a4 e.1 (by
  rw [has_eq,List.any_eq_true]
  exact⟨e,he,WideAt.sameKey_self (hk e he)⟩)
 have hall:(es.map (·.1)).Perm (ss.map kp):=by
  refine (List.perm_ext_iff_of_nodup (List.pairwise_map.2 hpw) ?_).2 fun kl=>?_
  ·refine List.pairwise_map.2 (List.Pairwise.imp_of_mem ?_ hn)
   intro a b ha hb hab e
   have h1:=(a5 a ((hm a).1 ha)).2.1 .nil
   have h2:=(a5 b ((hm b).1 hb)).2.1 .nil
   rw [e,h2] at h1
   simp only [DataW.held.injEq] at h1
   have hra:=(a5 a ((hm a).1 ha)).2.2
   have hl:0<(grp q a).length:=List.length_pos_iff.2 ((hm a).1 ha)
   rcases hra.2 with ⟨_,h0⟩|⟨g,cap,cur,hv,_⟩
   ·omega
   ·exact a6 a b hab ((hm a).1 ha) ((hm b).1 hb) g (by rw [hv];rfl) (by rw [h1,hv];rfl)
  ·rw [List.mem_map,List.mem_map]
   constructor
   ·rintro⟨e,he,rfl⟩
    obtain⟨p,hp,hg⟩:=hmem e he
    exact⟨p,(hm p).2 hg,hp.symm⟩
   ·rintro⟨p,hp,rfl⟩
    have h1:=(a5 p ((hm p).1 hp)).1
    rw [has_eq,List.any_eq_true] at h1
    obtain⟨e,he,hs⟩:=h1
    exact⟨e,he,WideAt.sameKey_eq hs⟩
 have:=hall.length_eq
 rw [List.length_map,List.length_map] at this
 rw [size_eq]
 exact this
def Stores (w1:World) (base mb n:Nat) (q:List ((Nat×Nat)×Nat)) (V:Nat×Nat→Value) (p:Nat×Nat) (v0:Value) (st:Nat):Prop :=
 ∀(w2:World) (v':Value) (i:Nat),w1.grownBy w2 v0.ownBlock→RowI w2 base v' (grp q p++[i])→(v'.ownBlock=v0.ownBlock∨∃g,v'.ownBlock=some g∧w1.heap.size≤g) →
  ∃w3,(Instr.entryStore 312 (.map (some mb)) (goInt (st:Nat)) v').run Tryz.prog w2=.ok () w3∧GrpAt w3 base mb (n+1) (q++[(p,i)]) (fun r=>if r=p then v' else V r)∧w2.grownBy w3 (some mb)
section
variable {ops:Array Oper}{rest:List Oper}{o:Oper}{a:Act}{Q:Exit→Act→World→Prop}{W:World}
theorem wpList_grp_entry (hg:o.guard=none) (m x:Operand) (hop:o.op=Op.mapEntry 312 m x) (base mb n:Nat) (q:List ((Nat×Nat)×Nat)) (V:Nat×Nat→Value) (p:Nat×Nat)
  (hm:a.eval m=.map (some mb)) (hx:a.eval x=pv p) (h:GrpAt W base mb n q V) (hq:Small2 q) (hp1:p.1≤1000000000) (hp2:p.2≤1000000000) (hn:n<1000000000)
  (hK:∀v0 st w1,W.grownBy w1 (some mb)→w1.heap.size=W.heap.size→RowI w1 base v0 (grp q p)→Stores w1 base mb n q V p v0 st→wpList Tryz.prog ops Q rest (a.put o.dst (.tuple #[v0,goInt (st:Nat)])) w1):wpList Tryz.prog ops Q (o :: rest) a W :=
 wpList_plain hg fun K hKK=>by
  obtain⟨v0,st,w1,h1,h2,h3,h4,_,h6⟩:=h.entry hq hp1 hp2 hn
  unfold Oper.wp
  simp only [execOp,hop,hm,hx]
  simp [h1,Result.andThen]
  exact hKK _ _ (hK v0 st w1 h2 h3 h4 h6)
theorem wpList_grp_store (hg:o.guard=none) (m s v:Operand) (hop:o.op=Op.entryStore 312 m s v) (base mb n:Nat) (q:List ((Nat×Nat)×Nat)) (V:Nat×Nat→Value) (p:Nat×Nat) (v0:Value) (st:Nat) (w1:World) (hst:Stores w1 base mb n q V p v0 st) (v':Value) (i:Nat)
  (hm:a.eval m=.map (some mb)) (hs:a.eval s=goInt (st:Nat)) (hv:a.eval v=v') (hg2:w1.grownBy W v0.ownBlock) (hrow:RowI W base v' (grp q p++[i])) (hloc:v'.ownBlock=v0.ownBlock∨∃g,v'.ownBlock=some g∧w1.heap.size≤g)
  (hK:∀w3,GrpAt w3 base mb (n+1) (q++[(p,i)]) (fun r=>if r=p then v' else V r)→W.grownBy w3 (some mb)→wpList Tryz.prog ops Q rest (a.put o.dst undef) w3):wpList Tryz.prog ops Q (o :: rest) a W :=
 wpList_plain hg fun K hKK=>by
  obtain⟨w3,h1,h2,h3⟩:=hst W v' i hg2 hrow hloc
  unfold Oper.wp
  simp only [execOp,hop,hm,hs,hv]
  simp [h1,Result.andThen]
  exact hKK _ _ (by simpa using hK w3 h2 h3)
end
end Go.Proofs.YtbecggfbblnglaaGreatDoor
