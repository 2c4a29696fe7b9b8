/- Contracts over this program. Their conditions: the slices read as the lists that are named, and lie within the sizes that are named. -/
import Derived.Test.YtejeflddeanccaaGreatDoorS6
import Derived.Test.YtejeflddeanccaaGreatDoorT2
import Derived.Deep.RegionWith
import Derived.Deep.CutRange
import Derived.StillTailTactics
import Derived.Test.YtejeflddeanccaaGreatDoorT4
set_option linter.unusedSimpArgs false
set_option linter.unusedVariables false
set_option linter.deprecated false
set_option linter.unnecessarySimpa false
namespace Go.Proofs.YtejeflddeanccaaGreatDoor
open Go Go.RowKit Go.Ix
def lets:List UInt8:=[97,98,99,100,101,102,103,104,105,106,107,108,109,110,111,112,113,114,115,116,117,118,119,120,121,122,65,66,67,68,69,70,71,72,73,74,75,76,77,78,79,80,81,82,83,84,85,86,87,88,89,90,95]
def cuts:List UInt8:=lets++[48,49,50,51,52,53,54,55,56,57]
theorem lets_fin:∀n:Fin 256,decide (0≤Lib.indexByte lets (UInt8.ofNat n.val))=letter n.val:=by decide +kernel
theorem cuts_fin:∀n:Fin 256,cuts.contains (UInt8.ofNat n.val)=(letter n.val || digit n.val):=by decide +kernel
theorem lets_ok (c:UInt8):decide (0≤Lib.indexByte lets c)=letter c.toNat:=by
 have:=lets_fin ⟨c.toNat,c.toNat_lt⟩
 simpa using this
theorem cuts_ok (c:UInt8):cuts.contains c=(letter c.toNat || digit c.toNat):=by
 have:=cuts_fin ⟨c.toNat,c.toNat_lt⟩
 simpa using this
theorem dropWhile_nil {α:Type}{p:α→Bool}{l:List α}:l.dropWhile p=[]↔∀x∈l,p x=true:=by
 induction l with
 | nil=>simp
 | cons x l ih =>
  rw [List.dropWhile_cons]
  split
  ·rename_i h
   rw [ih]
   simp [h]
  ·rename_i h
   simp [h]
theorem dropWhile_mem {α:Type}{p:α→Bool}{l:List α}{x:α}(h:x∈l) (hp:p x=false):x∈l.dropWhile p:=by
 induction l with
 | nil=>simp at h
 | cons y l ih =>
  rw [List.dropWhile_cons]
  split
  ·rename_i hy
   rcases List.mem_cons.1 h with rfl | h
   ·rw [hp] at hy
    cases hy
   ·exact ih h
  ·exact h
theorem trim_nil {l cs:List UInt8}:Lib.trimS l cs=[]↔∀x∈l,cs.contains x=true:=by
 unfold Lib.trimS Lib.trimLeftS Lib.trimRightS
 rw [dropWhile_nil]
 constructor
 ·intro h x hx
  by_cases hc:cs.contains x=true
  ·exact hc
  ·have hm:x∈(l.reverse.dropWhile (cs.contains ·)).reverse:=by
    rw [List.mem_reverse]
    exact dropWhile_mem (List.mem_reverse.2 hx) (by simpa using hc)
   exact h x hm
 ·intro h x hx
  rw [List.mem_reverse] at hx
  exact h x (List.mem_reverse.1 ((List.dropWhile_sublist _).subset hx))
theorem name_cons {c:UInt8}{r:Txt}(hl:(c :: r).length≤1024):NameOk (c :: r)↔letter c.toNat=true∧Lib.trimS (c :: r) cuts=[]:=by
 rw [trim_nil]
 constructor
 ·intro h
  have h0:=h.2.2 0 c rfl
  have h0':letter c.toNat=true:=by simpa [okAt] using h0
  refine⟨h0',fun x hx=>?_⟩
  rw [cuts_ok]
  obtain⟨i,hi⟩:=List.getElem?_of_mem hx
  have:=h.2.2 i x hi
  unfold okAt at this
  cases hlx:letter x.toNat
  ·rw [hlx] at this
   simp at this
   simp [this.2]
  ·simp
 ·rintro⟨h1,h2⟩
  refine⟨by simp,hl,fun i x hi=>?_⟩
  cases i with
  | zero =>
   simp at hi
   subst hi
   simp [okAt,h1]
  | succ i =>
   have:=h2 x (List.mem_of_getElem? hi)
   rw [cuts_ok] at this
   simpa [okAt] using this
set_option maxRecDepth 20000 in
set_option maxHeartbeats 2000000 in
theorem pname_any (s:Txt) (w:World) (hm:s.length≤1000000000):Calls Tryz.prog 56 #[encStr s] w fun e w'=>Says (NameOk s) e∧Below w.heap.size w w':=by
 cases s with
 | nil =>
  go_enter Tryz.func56,Tryz.ntmps56
  go_wp2_with fail
  go_ret
  exact⟨.inr ⟨rfl,fun h=>by have:=h.1;simp at this⟩,Below.refl _ _⟩
 | cons c r =>
  by_cases h2:(c :: r).length≤1024
  ·have hsl:(⟨(c :: r).toArray⟩:ByteArray).extract 0 1=⟨#[c]⟩:=by
    simp [ByteArray.extract,ByteArray.copySlice]
   have Hname:=Lib.hid (name_cons (r:=r) h2)
   have hr1:r.length+1≤1024:=by simpa using h2
   have hcon:=Lib.hid (fun W=>Tryz.contains_one ⟨lets.toArray⟩ c W)
   have htrim:=Lib.hid (fun W=>Tryz.trim_set ⟨(c :: r).toArray⟩ ⟨cuts.toArray⟩ W (by show (c :: r).toArray.size≤_;simp at h2 ⊢;omega) (by decide) (ascii_of_all (by decide)))
   have Hlet:Hid (∀W,Calls Tryz.prog 92 #[.string ⟨lets.toArray⟩,.string ⟨#[c]⟩] W fun e w'=>e=.returned (.bool (letter c.toNat))∧w'=W):=Lib.hid (fun W=>by
    have:=hcon.out W
    rw [show decide (0≤Lib.indexByte (⟨lets.toArray⟩:ByteArray).data.toList c)=letter c.toNat from lets_ok c] at this
    exact this)
   have Htrim:Hid (∀W,Calls Tryz.prog 93 #[.string ⟨(c :: r).toArray⟩,.string ⟨cuts.toArray⟩] W fun e w'=>e=.returned (encStr (Lib.trimS (c :: r) cuts))∧Below W.heap.size W w'):=htrim
   clear hcon htrim h2
   by_cases hlet:letter c.toNat=true
   ·rw [hlet] at Hlet Hname
    generalize Lib.trimS (c :: r) cuts=tr at *
    go_enter Tryz.func56,Tryz.ntmps56
    go_wp2_with (first
     | (go_at_call 92;refine (Hlet.out _).mono ?_;clear Hlet;rintro e w' ⟨rfl,rfl⟩)
     | (go_at_call 93;refine (Htrim.out _).mono ?_;clear Htrim;rintro e w4 ⟨rfl,hb4⟩;have B4:=Lib.hid hb4;clear hb4))
    go_ret
    by_cases ht:tr=[]
    ·exact⟨.inl ⟨by simp [ht],Hname.out.2 (by simp [ht])⟩,B4.out⟩
    ·exact⟨.inr ⟨by simp [ht],fun h=>ht (Hname.out.1 h).2⟩,B4.out⟩
   ·have hlf:letter c.toNat=false:=by simpa using hlet
    rw [hlf] at Hlet
    have Hno:Hid (¬ NameOk (c :: r)):=Lib.hid (fun h=>hlet (Hname.out.1 h).1)
    clear hlet hlf
    go_enter Tryz.func56,Tryz.ntmps56
    go_wp2_with (go_at_call 92;refine (Hlet.out _).mono ?_;clear Hlet;rintro e w' ⟨rfl,rfl⟩)
    go_ret
    exact⟨.inr ⟨rfl,Hno.out⟩,Below.refl _ _⟩
  ·have hr1:¬ r.length+1≤1024:=by simpa using h2
   go_enter Tryz.func56,Tryz.ntmps56
   go_wp2_with fail
   go_ret
   exact⟨.inr ⟨rfl,fun h=>h2 h.2.1⟩,Below.refl _ _⟩
end Go.Proofs.YtejeflddeanccaaGreatDoor
namespace Go.Proofs.YtejeflddeanccaaGreatDoor
open Go Go.RowKit Go.Ix
theorem less_yes {a b:Txt}(h:a<b):Op.bytesLess a b=true:=by rw [bytesLess_eq];exact decide_eq_true h
theorem less_no {a b:Txt}(h:¬ a<b):Op.bytesLess a b=false:=by rw [bytesLess_eq];exact decide_eq_false h
open Classical in
noncomputable def cmpT (s t:Txt):Int:=if s<t then -1 else if s=t then 0 else 1
set_option maxHeartbeats 400000 in
theorem nan_any (s:Txt) (w:World):Calls Tryz.prog 121 #[encStr s] w fun e w'=>e=.returned (.bool false)∧w=w':=by
 go_enter Tryz.func121,Tryz.ntmps121
 go_wp2_with fail
 go_ret
 exact⟨by simp,rfl⟩
set_option maxHeartbeats 1000000 in
theorem compare_any (s t:Txt) (w:World):Calls Tryz.prog 85 #[encStr s,encStr t] w fun e w'=>e=.returned (.int .i64 (cmpT s t))∧w=w':=by
 have H1:=Lib.hid (nan_any s w)
 have H2:=Lib.hid (nan_any t w)
 by_cases h:s<t
 ·have hb:=less_yes h
  have Hr:Hid (cmpT s t = -1):=Lib.hid (if_pos h)
  clear h
  go_enter Tryz.func85,Tryz.ntmps85
  go_wp2_with (first
   | (go_at_call 121;refine H1.out.mono ?_;clear H1;rintro e w' ⟨rfl,rfl⟩)
   | (go_at_call 121;refine H2.out.mono ?_;clear H2;rintro e w' ⟨rfl,rfl⟩))
  go_ret
  exact⟨by rw [Hr.out];rfl,rfl⟩
 ·have hb:=less_no h
  by_cases he:s=t
  ·have Hr:Hid (cmpT s t=0):=Lib.hid (by unfold cmpT;rw [if_neg h,if_pos he])
   subst he
   have hbe:(s == s)=true:=by simp
   clear h
   go_enter Tryz.func85,Tryz.ntmps85
   go_wp2_with (first
    | (go_at_call 121;refine H1.out.mono ?_;clear H1;rintro e w' ⟨rfl,rfl⟩)
    | (go_at_call 121;refine H2.out.mono ?_;clear H2;rintro e w' ⟨rfl,rfl⟩))
   all_goals (go_ret;exact⟨by rw [Hr.out];rfl,rfl⟩)
  ·have hbe:(s == t)=false:=by simpa using he
   have Hr:Hid (cmpT s t=1):=Lib.hid (by unfold cmpT;rw [if_neg h,if_neg he])
   clear h he
   go_enter Tryz.func85,Tryz.ntmps85
   go_wp2_with (first
    | (go_at_call 121;refine H1.out.mono ?_;clear H1;rintro e w' ⟨rfl,rfl⟩)
    | (go_at_call 121;refine H2.out.mono ?_;clear H2;rintro e w' ⟨rfl,rfl⟩))
   all_goals (go_ret;exact⟨by rw [Hr.out];rfl,rfl⟩)
set_option maxHeartbeats 1000000 in
theorem byname_any (x1 x2 y1 y2:Txt) (w:World):Calls Tryz.prog 60 #[.agg #[encStr x1,encStr x2],.agg #[encStr y1,encStr y2]] w fun e w'=>e=.returned (.int .i64 (cmpT x1 y1))∧Below w.heap.size w w':=by
 have H1:=Lib.hid (compare_any x1 y1)
 generalize cmpT x1 y1=r at *
 go_enter Tryz.func60,Tryz.ntmps60
 go_wp2_with (go_at_call 85;refine (H1.out _).mono ?_;rintro e w' ⟨rfl,rfl⟩)
 go_ret
 exact⟨rfl,(((Below.refl _ w).alloc (Nat.le_refl _) _).alloc (by simp) _)⟩
theorem below_one {W w':World}{o:Obj}(h:Below (W.alloc o).heap.size (W.alloc o) w'):Below W.heap.size W w':=((Below.refl _ W).alloc (Nat.le_refl _) o).trans (h.mono (by simp))
def Sorted (l:List Lbl):Prop:=∀(i:Nat) (a b:Lbl),l[i]?=some a→l[i+1]?=some b→¬ b.1<a.1
theorem sorted_next {l:List Lbl}(h:¬ Twice l):Sorted l↔Go.Ix.Next l:=by
 constructor
 ·intro hs i a b ha hb
  rcases Line.tri (α:=Txt) a.1 b.1 with h1 | h1 | h1
  ·exact h1
  ·exact absurd ⟨i+1,i,b,a,by omega,hb,ha,h1.symm⟩ h
  ·exact absurd h1 (hs i a b ha hb)
 ·intro hn i a b ha hb hlt
  exact List.lt_irrefl _ (List.lt_trans (hn i a b ha hb) hlt)
theorem cmpT_neg {s t:Txt}:cmpT s t<0↔s<t:=by
 unfold cmpT
 split
 ·simp [*]
 ·split<;>simp [*]
set_option maxRecDepth 20000 in
set_option maxHeartbeats 2000000 in
theorem issorted_rows (o:Option Addr) (c n:Nat) (l:List Lbl) (w:World) (hn:l.length=n) (hl:n≤1000000000) (hc:Rows2 w o l):Calls Tryz.prog 59 #[.slice o n c,.func (.func 60) #[] #[]] w fun e w'=>Says (Sorted l) e∧Below w.heap.size w w':=by
 have Hc:=Lib.hid hc
 have Hn:=Lib.hid hn
 clear hc hn
 go_enter Tryz.func59,Tryz.ntmps59
 go_wp2_with fail
 go_loopw [5] (fun iv wr=>∃i:Int,iv=.int .i64 i∧ -1≤i∧i<(n:Int)∧(i = -1→n=0)∧Below w.heap.size w wr∧∀(j:Nat) (a b:Lbl),i≤(j:Int)→l[j]?=some a→l[j+1]?=some b→¬ b.1<a.1) (fun iv _=>(intOf iv).toNat)
 case atStart=>exact⟨(n:Int)-1,rfl,by omega,by omega,by omega,Below.refl _ _,fun j a b h _ hb=>by
  have:=(List.getElem?_eq_some_iff.1 hb).1
  rw [Hn.out] at this
  omega⟩
 case round =>
  obtain⟨i,rfl,hi1,hi2,hi3,hb,hno⟩:=hrel
  have Hno:=Lib.hid hno
  have Hb:=Lib.hid hb
  have hsz:=hb.size
  have Hcr:=Lib.hid (Hc.out.olds (Olds.of_below hb))
  clear hno hb
  by_cases hpos:0<i
  ·obtain⟨j,rfl⟩:∃j:Nat,i=(j:Int)+1:=⟨(i-1).toNat,by omega⟩
   obtain⟨b,off,x1,x2,rfl,hx,hx1,hx2⟩:=Hcr.out.at (k:=j) (by rw [Hn.out];omega)
   obtain⟨y1,y2,hy,hy1,hy2⟩:=Hcr.out.next (k:=j+1) (by rw [Hn.out];omega)
   have Hx:=Lib.hid hx
   have Hy:=Lib.hid hy
   clear hx hy
   have HC:=Lib.hid (fun W=>byname_any y1 y2 x1 x2 W)
   by_cases hlt:y1<x1
   ·have hneg:cmpT y1 x1<0:=cmpT_neg.2 hlt
    have Hlt:=Lib.hid hlt
    clear hlt
    generalize cmpT y1 x1=r at *
    have hdr:∀W,W=wr.drew→W.cell? ⟨b,off+j * 2,none⟩=some (encStr x1)∧W.cell? ⟨b,off+j * 2+1,none⟩=some (encStr x2)∧W.cell? ⟨b,off+(j+1) * 2,none⟩=some (encStr y1)∧W.cell? ⟨b,off+(j+1) * 2+1,none⟩=some (encStr y2)∧Hid (Below w.heap.size w W):=fun W hW=>by
     subst hW
     exact⟨hx1,hx2,hy1,hy2,Lib.hid Hb.out.drew⟩
    go_wp2_with fail
    refine wp_region_still_tail 10 (by kernel_rfl) (by kernel_rfl) ?_
    simp only [List.take_succ_cons,List.take_zero,List.drop_succ_cons,List.drop_zero]
    change wpStill _ _ (World.drew _) (fun a'=>wpList _ _ _ _ a' (World.drew _)) _ _
    generalize hW2:World.drew _=W2
    obtain⟨hx1,hx2,hy1,hy2,HB⟩:=hdr W2 hW2.symm
    clear hW2 hdr
    have hszB:=HB.out.size
    have hj1:((j:Int)+1<(n:Int)):=by omega
    have hj0:(0:Int)≤(j:Int)+1:=by omega
    have hj2:((j:Int)<(n:Int)):=by omega
    have hj3:((j:Int)+1).toNat=j+1:=by omega
    have hjw:IntKind.i64.wrap (j:Int)=(j:Int):=by rw [IntKind.wrap_i64];omega
    repeat still_step
    try refine wpStill_nil ?_
    go_wp2_with (go_at_call 60;refine (HC.out _).mono ?_;clear HC;rintro e w4 ⟨rfl,hb4⟩;have B4:=Lib.hid hb4;clear hb4)
    go_ret
    exact⟨.inr ⟨rfl,fun h=>h j _ _ Hx.out Hy.out Hlt.out⟩,HB.out.trans (B4.out.mono hszB)⟩
   ·have hneg:¬ cmpT y1 x1<0:=fun h=>hlt (cmpT_neg.1 h)
    have Hlt:=Lib.hid hlt
    clear hlt
    generalize cmpT y1 x1=r at *
    have hdr:∀W,W=wr.drew→W.cell? ⟨b,off+j * 2,none⟩=some (encStr x1)∧W.cell? ⟨b,off+j * 2+1,none⟩=some (encStr x2)∧W.cell? ⟨b,off+(j+1) * 2,none⟩=some (encStr y1)∧W.cell? ⟨b,off+(j+1) * 2+1,none⟩=some (encStr y2)∧Hid (Below w.heap.size w W):=fun W hW=>by
     subst hW
     exact⟨hx1,hx2,hy1,hy2,Lib.hid Hb.out.drew⟩
    go_wp2_with fail
    refine wp_region_still_tail 10 (by kernel_rfl) (by kernel_rfl) ?_
    simp only [List.take_succ_cons,List.take_zero,List.drop_succ_cons,List.drop_zero]
    change wpStill _ _ (World.drew _) (fun a'=>wpList _ _ _ _ a' (World.drew _)) _ _
    generalize hW2:World.drew _=W2
    obtain⟨hx1,hx2,hy1,hy2,HB⟩:=hdr W2 hW2.symm
    clear hW2 hdr
    have hszB:=HB.out.size
    have hj1:((j:Int)+1<(n:Int)):=by omega
    have hj0:(0:Int)≤(j:Int)+1:=by omega
    have hj2:((j:Int)<(n:Int)):=by omega
    have hj3:((j:Int)+1).toNat=j+1:=by omega
    have hjw:IntKind.i64.wrap (j:Int)=(j:Int):=by rw [IntKind.wrap_i64];omega
    repeat still_step
    try refine wpStill_nil ?_
    go_wp2_with (go_at_call 60;refine (HC.out _).mono ?_;clear HC;rintro e w4 ⟨rfl,hb4⟩;have B4:=Lib.hid hb4;clear hb4)
    go_roundw
    case rel=>exact⟨(j:Int),rfl,by omega,by omega,by omega,HB.out.trans (B4.out.mono hszB),fun j' a' b' hj' ha' hb'=>by
     by_cases h:j'=j
     ·subst h
      have h1:=Hx.out
      have h2:=Hy.out
      rw [ha'] at h1
      rw [hb'] at h2
      cases h1
      cases h2
      exact Hlt.out
     ·exact Hno.out j' a' b' (by omega) ha' hb'⟩
    case measure=>simp [intOf]<;>omega
  ·go_wp2_with fail
   go_ret
   exact⟨.inl ⟨rfl,fun j a b ha hb=>Hno.out j a b (by omega) ha hb⟩,Hb.out⟩
end Go.Proofs.YtejeflddeanccaaGreatDoor
namespace Go.Proofs.YtejeflddeanccaaGreatDoor
open Go Go.RowKit Go.Ix
set_option maxRecDepth 20000 in
set_option maxHeartbeats 2000000 in
theorem bad_any (y1 y2:Txt) (w:World) (h1:y1.length≤1000000000) (h2:y2.length≤1000000000):Calls Tryz.prog 55 #[.agg #[encStr y1,encStr y2]] w fun e w'=>Says (¬ LblOk (y1,y2)) e∧Below w.heap.size w w':=by
 have HN:Hid (∀W,Calls Tryz.prog 56 #[encStr y1] W fun e w'=>Says (NameOk y1) e∧Below W.heap.size W w'):=Lib.hid (fun W=>pname_any y1 W h1)
 have hg:∀(W w4:World),W=w.alloc (.cells #[encStr y1,encStr y2] 64)→Below W.heap.size W w4→w4.cell? ⟨w.heap.size,1,none⟩=some (encStr y2)∧Hid (Below w.heap.size w w4):=fun W w4 hW hb=>by
  subst hW
  refine⟨?_,Lib.hid (below_one hb)⟩
  rw [hb.cell (by simp)]
  simp
 have Hg:=Lib.hid hg
 clear hg
 by_cases hn:NameOk y1
 ·by_cases hv:y2=[]
  ·have Hr:Hid (¬ LblOk (y1,y2)):=Lib.hid (fun h=>h.2.1 hv)
   have Hn:=Lib.hid hn
   subst hv
   clear hn
   go_enter Tryz.func55,Tryz.ntmps55
   go_wp2_with (go_at_call 56;refine (HN.out _).mono ?_;clear HN;rintro e w4 ⟨hsay,hb4⟩;obtain⟨hc4,B4⟩:=Hg.out _ w4 rfl hb4;clear hb4;rcases hsay with ⟨rfl,hname⟩|⟨rfl,hname⟩;rotate_left;exact absurd Hn.out hname)
   go_ret
   exact⟨.inl ⟨rfl,Hr.out⟩,B4.out⟩
  ·have hve:y2.isEmpty=false:=by simpa using hv
   by_cases hl:y2.length≤1024
   ·have Hr:Hid (LblOk (y1,y2)):=Lib.hid ⟨hn,hv,hl⟩
    have Hn:=Lib.hid hn
    clear hn hv
    go_enter Tryz.func55,Tryz.ntmps55
    go_wp2_with (go_at_call 56;refine (HN.out _).mono ?_;clear HN;rintro e w4 ⟨hsay,hb4⟩;obtain⟨hc4,B4⟩:=Hg.out _ w4 rfl hb4;clear hb4;rcases hsay with ⟨rfl,hname⟩|⟨rfl,hname⟩;rotate_left;exact absurd Hn.out hname)
    go_ret
    exact⟨.inr ⟨by simp;omega,fun h=>h Hr.out⟩,B4.out⟩
   ·have Hr:Hid (¬ LblOk (y1,y2)):=Lib.hid (fun h=>hl h.2.2)
    have Hn:=Lib.hid hn
    clear hn hv
    go_enter Tryz.func55,Tryz.ntmps55
    go_wp2_with (go_at_call 56;refine (HN.out _).mono ?_;clear HN;rintro e w4 ⟨hsay,hb4⟩;obtain⟨hc4,B4⟩:=Hg.out _ w4 rfl hb4;clear hb4;rcases hsay with ⟨rfl,hname⟩|⟨rfl,hname⟩;rotate_left;exact absurd Hn.out hname)
    go_ret
    exact⟨.inl ⟨by simp;omega,Hr.out⟩,B4.out⟩
 ·have Hr:Hid (¬ LblOk (y1,y2)):=Lib.hid (fun h=>hn h.1)
  have Hn:=Lib.hid hn
  clear hn
  go_enter Tryz.func55,Tryz.ntmps55
  go_wp2_with (go_at_call 56;refine (HN.out _).mono ?_;clear HN;rintro e w4 ⟨hsay,hb4⟩;obtain⟨hc4,B4⟩:=Hg.out _ w4 rfl hb4;clear hb4;rcases hsay with ⟨rfl,hname⟩|⟨rfl,hname⟩;exact absurd hname Hn.out)
  go_ret
  exact⟨.inl ⟨rfl,Hr.out⟩,B4.out⟩
set_option maxRecDepth 20000 in
set_option maxHeartbeats 2000000 in
theorem index_rows (o:Option Addr) (c n:Nat) (l:List Lbl) (w:World) (hn:l.length=n) (hl:n≤1000000000) (hs:∀y∈l,y.1.length≤1000000000∧y.2.length≤1000000000) (hc:Rows2 w o l):Calls Tryz.prog 94 #[.slice o n c,.func (.func 55) #[] #[]] w fun e w'=>(∃r:Int,e=.returned (.int .i64 r)∧(0≤r↔∃y∈l,¬ LblOk y))∧Below w.heap.size w w':=by
 have Hc:=Lib.hid hc
 have Hn:=Lib.hid hn
 have Hs:=Lib.hid hs
 clear hc hn hs
 go_enter Tryz.func94,Tryz.ntmps94
 go_wp2_with fail
 go_loopw [5,8] (fun _ iv wr=>∃k:Nat,k≤n∧iv=.int .i64 k∧Below w.heap.size w wr∧∀(i:Nat) (y:Lbl),i<k→l[i]?=some y→LblOk y) (fun _ iv _=>n-(intOf iv).toNat)
 case atStart=>exact⟨0,Nat.zero_le _,rfl,Below.refl _ _,fun i y h=>by omega⟩
 case round =>
  obtain⟨k,hk,rfl,hb,hok⟩:=hrel
  have Hok:=Lib.hid hok
  have Hb:=Lib.hid hb
  have hsz:=hb.size
  have Hcr:=Lib.hid (Hc.out.olds (Olds.of_below hb))
  clear hok hb
  by_cases hlt:k<n
  ·obtain⟨b,off,x1,x2,rfl,hx,hx1,hx2⟩:=Hcr.out.at (k:=k) (by rw [Hn.out];exact hlt)
   obtain⟨hs1,hs2⟩:=Hs.out _ (List.mem_of_getElem? hx)
   have Hx:=Lib.hid hx
   clear hx
   have HB:=Lib.hid (bad_any x1 x2 wr hs1 hs2)
   go_wp2_with (go_at_call 55;refine HB.out.mono ?_;clear HB;rintro e w4 ⟨hsay,hb4⟩;have B4:=Lib.hid hb4;clear hb4;rcases hsay with ⟨rfl,hname⟩|⟨rfl,hname⟩;have Hname:=Lib.hid hname;clear hname)
   ·go_ret
    exact⟨⟨_,rfl,by constructor;(intro _;exact⟨_,List.mem_of_getElem? Hx.out,Hname.out⟩);(intro _;omega)⟩,Hb.out.trans (B4.out.mono hsz)⟩
   ·have Hname:=Lib.hid hname
    clear hname
    go_wp2_with fail
    go_roundw
    case rel=>exact⟨k+1,by omega,by go_num,Hb.out.trans (B4.out.mono hsz),fun i y hi hy=>by
     by_cases h:i<k
     ·exact Hok.out i y h hy
     ·obtain rfl:i=k:=by omega
      rw [Hx.out] at hy
      cases hy
      exact Classical.not_not.1 Hname.out⟩
    case measure=>simp [intOf];omega
  ·go_wp2_with fail
   go_ret
   refine⟨⟨-1,rfl,by constructor;(intro h;omega);(rintro⟨y,hy,hno⟩;exfalso;obtain⟨i,hi⟩:=List.getElem?_of_mem hy;have:=(List.getElem?_eq_some_iff.1 hi).1;rw [Hn.out] at this;exact hno (Hok.out i y (by omega) hi))⟩,Hb.out⟩
set_option maxHeartbeats 1000000 in
theorem contains_rows (o:Option Addr) (c n:Nat) (l:List Lbl) (w:World) (hn:l.length=n) (hl:n≤1000000000) (hs:∀y∈l,y.1.length≤1000000000∧y.2.length≤1000000000) (hc:Rows2 w o l):Calls Tryz.prog 57 #[.slice o n c,.func (.func 55) #[] #[]] w fun e w'=>Says (∃y∈l,¬ LblOk y) e∧Below w.heap.size w w':=by
 have HI:=Lib.hid (index_rows o c n l w hn hl hs hc)
 clear hc hn hs
 go_enter Tryz.func57,Tryz.ntmps57
 go_wp2_with (go_at_call 94;refine HI.out.mono ?_;clear HI;rintro e w4 ⟨⟨r,rfl,hr⟩,hb4⟩;have B4:=Lib.hid hb4;have Hr:=Lib.hid hr;clear hb4 hr)
 by_cases h0:0≤r
 ·go_ret
  exact⟨.inl ⟨by simp [h0],Hr.out.1 h0⟩,B4.out⟩
 ·go_ret
  exact⟨.inr ⟨by simp;omega,fun h=>h0 (Hr.out.2 h)⟩,B4.out⟩
end Go.Proofs.YtejeflddeanccaaGreatDoor
namespace Go.Proofs.YtejeflddeanccaaGreatDoor
open Go Go.RowKit Go.Ix
set_option maxRecDepth 20000 in
set_option maxHeartbeats 2000000 in
theorem ptwice_rows (o:Option Addr) (c n:Nat) (l:List Lbl) (w:World) (hn:l.length=n) (hl:n≤100000) (hs:∀y∈l,y.1.length≤1000000000∧y.2.length≤1000000000) (hc:Rows2 w o l):Calls Tryz.prog 58 #[.slice o n c] w fun e w'=>Says (Twice l) e∧Below w.heap.size w w':=by
 have Hc:=Lib.hid hc
 have Hn:=Lib.hid hn
 have Hs:=Lib.hid hs
 have hmm:=@run_makeMap Tryz.prog
 clear hc hn hs
 go_enter Tryz.func58,Tryz.ntmps58
 go_wp2_with fail
 go_loopw [5,9] (fun _ iv wr=>∃k:Nat,k≤n∧iv=.int .i64 k∧Below w.heap.size w wr∧SetAt wr w.heap.size k ((l.take k).map (·.1))∧∀(i j:Nat) (x y:Lbl),i<k→j<i→l[i]?=some x→l[j]?=some y→x.1≠y.1) (fun _ iv _=>n-(intOf iv).toNat)
 case atStart=>exact⟨0,Nat.zero_le _,rfl,(Below.refl _ w).alloc (Nat.le_refl _) _,by rw [List.take_zero];exact SetAt.made w,fun i j x y h=>by omega⟩
 case round =>
  obtain⟨k,hk,rfl,hb,hset,hno⟩:=hrel
  have Hno:=Lib.hid hno
  have Hset:=Lib.hid hset
  have Hb:=Lib.hid hb
  have hsz:=hb.size
  have hlts:=hset.lt
  have Hcr:=Lib.hid (Hc.out.olds (Olds.of_below hb))
  clear hno hb hset
  by_cases hlt:k<n
  ·obtain⟨b,off,x1,x2,rfl,hx,hx1,hx2⟩:=Hcr.out.at (k:=k) (by rw [Hn.out];exact hlt)
   obtain⟨hs1,_⟩:=Hs.out _ (List.mem_of_getElem? hx)
   simp only at hs1
   have Hx:=Lib.hid hx
   clear hx
   have Hset2:Hid (∀ob,SetAt (wr.alloc ob) w.heap.size k ((l.take k).map (·.1))):=Lib.hid (fun ob=>Hset.out.olds (Olds.alloc _ _))
   by_cases hin:x1∈(l.take k).map (·.1)
   ·have hdin:decide (x1∈(l.take k).map (·.1))=true:=decide_eq_true hin
    have Hr:Hid (Twice l):=Lib.hid (by
     obtain⟨y,hy,he⟩:=List.mem_map.1 hin
     obtain⟨j,hj⟩:=List.getElem?_of_mem hy
     have hjk:=(List.getElem?_eq_some_iff.1 hj).1
     rw [List.length_take] at hjk
     rw [List.getElem?_take_of_lt (by omega)] at hj
     exact⟨k,j,_,y,by omega,Hx.out,hj,he.symm⟩)
    clear hin
    generalize (l.take k).map (·.1)=S at *
    go_wp2_with (at_lookup;refine wpList_set_look rfl _ _ rfl w.heap.size k S x1 rfl rfl (Hset2.out _) hs1 ?_;rw [hdin])
    go_ret
    exact⟨.inl ⟨rfl,Hr.out⟩,Hb.out.alloc hsz _⟩
   ·have hdin:decide (x1∈(l.take k).map (·.1))=false:=decide_eq_false hin
    have Hin:=Lib.hid hin
    clear hin
    have Htk:Hid ((l.take (k+1)).map (·.1)=(l.take k).map (·.1)++[x1]):=Lib.hid (by rw [take_snoc Hx.out,List.map_append];rfl)
    generalize hS:(l.take k).map (·.1)=S at *
    have HS:=Lib.hid hS
    clear hS
    go_wp2_with (first
     | (at_lookup;refine wpList_set_look rfl _ _ rfl w.heap.size k S x1 rfl rfl (Hset2.out _) hs1 ?_;rw [hdin])
     | (at_mapUpdate;refine wpList_set_store rfl _ _ _ rfl w.heap.size k S x1 rfl rfl rfl (Hset2.out _) hs1 (by omega) ?_;intro w5 hset5 hgrow5;have Hset5:=Lib.hid hset5;have B5:=Lib.hid ((Hb.out.alloc hsz _).grown hgrow5 (by simp;omega) (fun b e=>by cases e;exact Nat.le_refl _));clear hset5 hgrow5))
    go_roundw
    case rel=>exact⟨k+1,by omega,by go_num,B5.out,by rw [Htk.out];exact Hset5.out,fun i j x y hi hj hix hjy=>by
     by_cases h:i<k
     ·exact Hno.out i j x y h hj hix hjy
     ·obtain rfl:i=k:=by omega
      rw [Hx.out] at hix
      cases hix
      intro he
      refine Hin.out ?_
      rw [← HS.out]
      exact List.mem_map.2 ⟨y,by
       have:=List.mem_of_getElem? (l:=l.take i) (i:=j) (a:=y) (by rw [List.getElem?_take_of_lt hj];exact hjy)
       exact this,he.symm⟩⟩
    case measure=>simp [intOf];omega
  ·go_wp2_with fail
   go_ret
   refine⟨.inr ⟨rfl,?_⟩,Hb.out⟩
   rintro⟨i,j,x,y,hji,hx,hy,he⟩
   refine Hno.out i j x y ?_ hji hx hy he
   have h1:=(List.getElem?_eq_some_iff.1 hx).1
   rw [Hn.out] at h1
   omega
set_option maxRecDepth 20000 in
set_option maxHeartbeats 2000000 in
theorem pcheck_rows (o:Option Addr) (c n:Nat) (l:List Lbl) (w:World) (hn:l.length=n) (hl:n≤1000000000) (hs:∀y∈l,y.1.length≤1000000000∧y.2.length≤1000000000) (hc:Rows2 w o l):Calls Tryz.prog 38 #[.slice o n c] w fun e w'=>e=.returned (.int .u16 (check l))∧Below w.heap.size w w':=by
 by_cases h64:64<n
 ·have Hr:Hid (check l=72):=Lib.hid (check_many (by omega))
  clear hs hc
  go_enter Tryz.func38,Tryz.ntmps38
  go_wp2_with fail
  go_ret
  exact⟨by rw [Hr.out];rfl,Below.refl _ _⟩
 ·have H1:Hid (∀W,Below w.heap.size w W→Calls Tryz.prog 57 #[.slice o n c,.func (.func 55) #[] #[]] W fun e w'=>Says (∃y∈l,¬ LblOk y) e∧Below W.heap.size W w'):=Lib.hid (fun W hW=>contains_rows o c n l W hn hl hs (hc.olds (Olds.of_below hW)))
  have H2:Hid (∀W,Below w.heap.size w W→Calls Tryz.prog 58 #[.slice o n c] W fun e w'=>Says (Twice l) e∧Below W.heap.size W w'):=Lib.hid (fun W hW=>ptwice_rows o c n l W hn (by omega) hs (hc.olds (Olds.of_below hW)))
  have H3:Hid (∀W,Below w.heap.size w W→Calls Tryz.prog 59 #[.slice o n c,.func (.func 60) #[] #[]] W fun e w'=>Says (Sorted l) e∧Below W.heap.size W w'):=Lib.hid (fun W hW=>issorted_rows o c n l W hn hl (hc.olds (Olds.of_below hW)))
  have h64':¬ 64<l.length:=by omega
  have H64:=Lib.hid h64'
  clear hs hc hn h64'
  by_cases hbad:∃y∈l,¬ LblOk y
  ·have Hr:Hid (check l=70):=Lib.hid (by obtain⟨y,h1,h2⟩:=hbad;exact check_form H64.out h1 h2)
   have Hbad:=Lib.hid hbad
   clear hbad
   go_enter Tryz.func38,Tryz.ntmps38
   go_wp2_with (go_at_call 57;refine (H1.out _ (Below.refl _ _)).mono ?_;clear H1;rintro e w4 ⟨hsay,hb4⟩;have B4:=Lib.hid hb4;clear hb4;rcases hsay with ⟨rfl,hname⟩|⟨rfl,hname⟩;rotate_left;exact absurd Hbad.out hname)
   go_ret
   exact⟨by rw [Hr.out];rfl,B4.out⟩
  ·have Hok:Hid (∀y∈l,LblOk y):=Lib.hid (fun y hy=>Classical.byContradiction fun h=>hbad ⟨y,hy,h⟩)
   have Hbad:=Lib.hid hbad
   clear hbad
   by_cases htw:Twice l
   ·have Hr:Hid (check l=71):=Lib.hid (check_twice H64.out Hok.out htw)
    have Htw:=Lib.hid htw
    clear htw
    go_enter Tryz.func38,Tryz.ntmps38
    go_wp2_with (first
     | (go_at_call 57;refine (H1.out _ (Below.refl _ _)).mono ?_;clear H1;rintro e w4 ⟨hsay,hb4⟩;have B4:=Lib.hid hb4;clear hb4;rcases hsay with ⟨rfl,hname⟩|⟨rfl,hname⟩;exact absurd hname Hbad.out;clear hname)
     | (go_at_call 58;refine (H2.out _ B4.out).mono ?_;clear H2;rintro e w5 ⟨hsay,hb5⟩;have B5:=Lib.hid (B4.out.trans (hb5.mono B4.out.size));clear hb5;rcases hsay with ⟨rfl,hname⟩|⟨rfl,hname⟩;rotate_left;exact absurd Htw.out hname))
    go_ret
    exact⟨by rw [Hr.out];rfl,B5.out⟩
   ·have Hnx:=Lib.hid (sorted_next htw)
    have Htw:=Lib.hid htw
    clear htw
    by_cases hso:Sorted l
    ·have Hr:Hid (check l=0):=Lib.hid (check_ok H64.out Hok.out Htw.out (Hnx.out.1 hso))
     have Hso:=Lib.hid hso
     clear hso
     go_enter Tryz.func38,Tryz.ntmps38
     go_wp2_with (first
      | (go_at_call 57;refine (H1.out _ (Below.refl _ _)).mono ?_;clear H1;rintro e w4 ⟨hsay,hb4⟩;have B4:=Lib.hid hb4;clear hb4;rcases hsay with ⟨rfl,hname⟩|⟨rfl,hname⟩;exact absurd hname Hbad.out;clear hname)
      | (go_at_call 58;refine (H2.out _ B4.out).mono ?_;clear H2;rintro e w5 ⟨hsay,hb5⟩;have B5:=Lib.hid (B4.out.trans (hb5.mono B4.out.size));clear hb5;rcases hsay with ⟨rfl,hname⟩|⟨rfl,hname⟩;exact absurd hname Htw.out;clear hname)
      | (go_at_call 59;refine (H3.out _ B5.out).mono ?_;clear H3;rintro e w6 ⟨hsay,hb6⟩;have B6:=Lib.hid (B5.out.trans (hb6.mono B5.out.size));clear hb6;rcases hsay with ⟨rfl,hname⟩|⟨rfl,hname⟩;rotate_left;exact absurd Hso.out hname))
     go_ret
     exact⟨by rw [Hr.out];rfl,B6.out⟩
    ·have Hr:Hid (check l=70):=Lib.hid (check_next H64.out Hok.out Htw.out (fun h=>hso (Hnx.out.2 h)))
     have Hso:=Lib.hid hso
     clear hso
     go_enter Tryz.func38,Tryz.ntmps38
     go_wp2_with (first
      | (go_at_call 57;refine (H1.out _ (Below.refl _ _)).mono ?_;clear H1;rintro e w4 ⟨hsay,hb4⟩;have B4:=Lib.hid hb4;clear hb4;rcases hsay with ⟨rfl,hname⟩|⟨rfl,hname⟩;exact absurd hname Hbad.out;clear hname)
      | (go_at_call 58;refine (H2.out _ B4.out).mono ?_;clear H2;rintro e w5 ⟨hsay,hb5⟩;have B5:=Lib.hid (B4.out.trans (hb5.mono B4.out.size));clear hb5;rcases hsay with ⟨rfl,hname⟩|⟨rfl,hname⟩;exact absurd hname Htw.out;clear hname)
      | (go_at_call 59;refine (H3.out _ B5.out).mono ?_;clear H3;rintro e w6 ⟨hsay,hb6⟩;have B6:=Lib.hid (B5.out.trans (hb6.mono B5.out.size));clear hb6;rcases hsay with ⟨rfl,hname⟩|⟨rfl,hname⟩;exact absurd hname Hso.out))
     go_ret
     exact⟨by rw [Hr.out];rfl,B6.out⟩
end Go.Proofs.YtejeflddeanccaaGreatDoor
