/- Contracts over this program. Their conditions: the slices read as the lists that are named, and lie within the sizes that are named. -/
import Derived.Test.YtbecggfbblnglaaGreatDoorS17
import Derived.Test.YtbecggfbblnglaaGreatDoorT10
import Derived.Test.YtbecggfbblnglaaGreatDoorT14
import Derived.Test.YtbecggfbblnglaaGreatDoorT11
import Derived.Lib.QuietBelow
import Derived.Deep.CutRange
import Derived.Test.YtbecggfbblnglaaGreatDoorP0
set_option linter.unusedSimpArgs false
set_option linter.unusedVariables false
set_option linter.deprecated false
set_option linter.unnecessarySimpa false
namespace Go.Proofs.YtbecggfbblnglaaGreatDoor
open Go Go.RowKit Go.Ix
def lets:List UInt8:=[97,98,99,100,101,102,103,104,105,106,107,108,109,110,111,112,113,114,115,116,117,118,119,120,121,122,65,66,67,68,69,70,71,72,73,74,75,76,77,78,79,80,81,82,83,84,85,86,87,88,89,90,95]
def cuts:List UInt8:=lets++[48,49,50,51,52,53,54,55,56,57]
theorem lets_fin:∀n:Fin 256,decide (0≤Lib.indexByte lets (UInt8.ofNat n.val))=letter n.val:=by decide +kernel
theorem cuts_fin:∀n:Fin 256,cuts.contains (UInt8.ofNat n.val)=(letter n.val || digit n.val):=by decide +kernel
theorem lets_ok (c:UInt8):decide (0≤Lib.indexByte lets c)=letter c.toNat:=by
 have:=lets_fin ⟨c.toNat,c.toNat_lt⟩
 simpa using this
theorem cuts_ok (c:UInt8):cuts.contains c=(letter c.toNat || digit c.toNat):=by
 have:=cuts_fin ⟨c.toNat,c.toNat_lt⟩
 simpa using this
theorem dropWhile_nil {α:Type}{p:α→Bool}{l:List α}:l.dropWhile p=[]↔∀x∈l,p x=true:=by
 induction l with
 | nil=>simp
 | cons x l ih =>
  rw [List.dropWhile_cons]
  split
  ·rename_i h
   rw [ih]
   simp [h]
  ·rename_i h
   simp [h]
theorem dropWhile_mem {α:Type}{p:α→Bool}{l:List α}{x:α}(h:x∈l) (hp:p x=false):x∈l.dropWhile p:=by
 induction l with
 | nil=>simp at h
 | cons y l ih =>
  rw [List.dropWhile_cons]
  split
  ·rename_i hy
   rcases List.mem_cons.1 h with rfl | h
   ·rw [hp] at hy
    cases hy
   ·exact ih h
  ·exact h
theorem trim_nil {l cs:List UInt8}:Lib.trimS l cs=[]↔∀x∈l,cs.contains x=true:=by
 unfold Lib.trimS Lib.trimLeftS Lib.trimRightS
 rw [dropWhile_nil]
 constructor
 ·intro h x hx
  by_cases hc:cs.contains x=true
  ·exact hc
  ·have hm:x∈(l.reverse.dropWhile (cs.contains ·)).reverse:=by
    rw [List.mem_reverse]
    exact dropWhile_mem (List.mem_reverse.2 hx) (by simpa using hc)
   exact h x hm
 ·intro h x hx
  rw [List.mem_reverse] at hx
  exact h x (List.mem_reverse.1 ((List.dropWhile_sublist _).subset hx))
theorem name_cons {c:UInt8}{r:Txt}(hl:(c :: r).length≤1024):NameOk (c :: r)↔letter c.toNat=true∧Lib.trimS (c :: r) cuts=[]:=by
 rw [trim_nil]
 constructor
 ·intro h
  have h0:=h.2.2 0 c rfl
  have h0':letter c.toNat=true:=by simpa [okAt] using h0
  refine⟨h0',fun x hx=>?_⟩
  rw [cuts_ok]
  obtain⟨i,hi⟩:=List.getElem?_of_mem hx
  have:=h.2.2 i x hi
  unfold okAt at this
  cases hlx:letter x.toNat
  ·rw [hlx] at this
   simp at this
   simp [this.2]
  ·simp
 ·rintro⟨h1,h2⟩
  refine⟨by simp,hl,fun i x hi=>?_⟩
  cases i with
  | zero =>
   simp at hi
   subst hi
   simp [okAt,h1]
  | succ i =>
   have:=h2 x (List.mem_of_getElem? hi)
   rw [cuts_ok] at this
   simpa [okAt] using this
set_option maxRecDepth 20000 in
set_option maxHeartbeats 2000000 in
theorem pname_any (s:Txt) (w:World) (hm:s.length≤1000000000):Calls Tryz.prog 124 #[encStr s] w fun e w'=>Says (NameOk s) e∧Below w.heap.size w w':=by
 cases s with
 | nil =>
  go_enter Tryz.func124,Tryz.ntmps124
  go_wp2_with fail
  go_ret
  exact⟨.inr ⟨rfl,fun h=>by have:=h.1;simp at this⟩,Below.refl _ _⟩
 | cons c r =>
  by_cases h2:(c :: r).length≤1024
  ·have hsl:(⟨(c :: r).toArray⟩:ByteArray).extract 0 1=⟨#[c]⟩:=by
    simp [ByteArray.extract,ByteArray.copySlice]
   have Hname:=Lib.hid (name_cons (r:=r) h2)
   have hr1:r.length+1≤1024:=by simpa using h2
   have hcon:=Lib.hid (fun W=>Tryz.contains_one ⟨lets.toArray⟩ c W)
   have htrim:=Lib.hid (fun W=>Tryz.trim_set ⟨(c :: r).toArray⟩ ⟨cuts.toArray⟩ W (by show (c :: r).toArray.size≤_;simp at h2 ⊢;omega) (by decide) (ascii_of_all (by decide)))
   have Hlet:Hid (∀W,Calls Tryz.prog 171 #[.string ⟨lets.toArray⟩,.string ⟨#[c]⟩] W fun e w'=>e=.returned (.bool (letter c.toNat))∧w'=W):=Lib.hid (fun W=>by
    have:=hcon.out W
    rw [show decide (0≤Lib.indexByte (⟨lets.toArray⟩:ByteArray).data.toList c)=letter c.toNat from lets_ok c] at this
    exact this)
   have Htrim:Hid (∀W,Calls Tryz.prog 172 #[.string ⟨(c :: r).toArray⟩,.string ⟨cuts.toArray⟩] W fun e w'=>e=.returned (encStr (Lib.trimS (c :: r) cuts))∧Below W.heap.size W w'):=htrim
   clear hcon htrim h2
   by_cases hlet:letter c.toNat=true
   ·rw [hlet] at Hlet Hname
    generalize Lib.trimS (c :: r) cuts=tr at *
    go_enter Tryz.func124,Tryz.ntmps124
    go_wp2_with (first
     | (go_at_call 171;refine (Hlet.out _).mono ?_;clear Hlet;rintro e w' ⟨rfl,rfl⟩)
     | (go_at_call 172;refine (Htrim.out _).mono ?_;clear Htrim;rintro e w4 ⟨rfl,hb4⟩;have B4:=Lib.hid hb4;clear hb4))
    go_ret
    by_cases ht:tr=[]
    ·exact⟨.inl ⟨by simp [ht],Hname.out.2 (by simp [ht])⟩,B4.out⟩
    ·exact⟨.inr ⟨by simp [ht],fun h=>ht (Hname.out.1 h).2⟩,B4.out⟩
   ·have hlf:letter c.toNat=false:=by simpa using hlet
    rw [hlf] at Hlet
    have Hno:Hid (¬ NameOk (c :: r)):=Lib.hid (fun h=>hlet (Hname.out.1 h).1)
    clear hlet hlf
    go_enter Tryz.func124,Tryz.ntmps124
    go_wp2_with (go_at_call 171;refine (Hlet.out _).mono ?_;clear Hlet;rintro e w' ⟨rfl,rfl⟩)
    go_ret
    exact⟨.inr ⟨rfl,Hno.out⟩,Below.refl _ _⟩
  ·have hr1:¬ r.length+1≤1024:=by simpa using h2
   go_enter Tryz.func124,Tryz.ntmps124
   go_wp2_with fail
   go_ret
   exact⟨.inr ⟨rfl,fun h=>h2 h.2.1⟩,Below.refl _ _⟩
end Go.Proofs.YtbecggfbblnglaaGreatDoor
namespace Go.Proofs.YtbecggfbblnglaaGreatDoor
open Go Go.RowKit Go.Ix
set_option maxRecDepth 20000 in
set_option maxHeartbeats 2000000 in
theorem bad_any (y1 y2:Txt) (w:World) (h1:y1.length≤1000000000) (h2:y2.length≤1000000000):Calls Tryz.prog 126 #[.agg #[encStr y1,encStr y2]] w fun e w'=>Says (¬ LblOk (y1,y2)) e∧Below w.heap.size w w':=by
 have HN:Hid (∀W,Calls Tryz.prog 124 #[encStr y1] W fun e w'=>Says (NameOk y1) e∧Below W.heap.size W w'):=Lib.hid (fun W=>pname_any y1 W h1)
 have hg:∀(W w4:World),W=w.alloc (.cells #[encStr y1,encStr y2] 80)→Below W.heap.size W w4→w4.cell? ⟨w.heap.size,1,none⟩=some (encStr y2)∧Hid (Below w.heap.size w w4):=fun W w4 hW hb=>by
  subst hW
  refine⟨?_,Lib.hid (below_one hb)⟩
  rw [hb.cell (by simp)]
  simp
 have Hg:=Lib.hid hg
 clear hg
 by_cases hn:NameOk y1
 ·by_cases hv:y2=[]
  ·have Hr:Hid (¬ LblOk (y1,y2)):=Lib.hid (fun h=>h.2.1 hv)
   have Hn:=Lib.hid hn
   subst hv
   clear hn
   go_enter Tryz.func126,Tryz.ntmps126
   go_wp2_with (go_at_call 124;refine (HN.out _).mono ?_;clear HN;rintro e w4 ⟨hsay,hb4⟩;obtain⟨hc4,B4⟩:=Hg.out _ w4 rfl hb4;clear hb4;rcases hsay with ⟨rfl,hname⟩|⟨rfl,hname⟩;rotate_left;exact absurd Hn.out hname)
   go_ret
   exact⟨.inl ⟨rfl,Hr.out⟩,B4.out⟩
  ·have hve:y2.isEmpty=false:=by simpa using hv
   by_cases hl:y2.length≤1024
   ·have Hr:Hid (LblOk (y1,y2)):=Lib.hid ⟨hn,hv,hl⟩
    have Hn:=Lib.hid hn
    clear hn hv
    go_enter Tryz.func126,Tryz.ntmps126
    go_wp2_with (go_at_call 124;refine (HN.out _).mono ?_;clear HN;rintro e w4 ⟨hsay,hb4⟩;obtain⟨hc4,B4⟩:=Hg.out _ w4 rfl hb4;clear hb4;rcases hsay with ⟨rfl,hname⟩|⟨rfl,hname⟩;rotate_left;exact absurd Hn.out hname)
    go_ret
    exact⟨.inr ⟨by simp;omega,fun h=>h Hr.out⟩,B4.out⟩
   ·have Hr:Hid (¬ LblOk (y1,y2)):=Lib.hid (fun h=>hl h.2.2)
    have Hn:=Lib.hid hn
    clear hn hv
    go_enter Tryz.func126,Tryz.ntmps126
    go_wp2_with (go_at_call 124;refine (HN.out _).mono ?_;clear HN;rintro e w4 ⟨hsay,hb4⟩;obtain⟨hc4,B4⟩:=Hg.out _ w4 rfl hb4;clear hb4;rcases hsay with ⟨rfl,hname⟩|⟨rfl,hname⟩;rotate_left;exact absurd Hn.out hname)
    go_ret
    exact⟨.inl ⟨by simp;omega,Hr.out⟩,B4.out⟩
 ·have Hr:Hid (¬ LblOk (y1,y2)):=Lib.hid (fun h=>hn h.1)
  have Hn:=Lib.hid hn
  clear hn
  go_enter Tryz.func126,Tryz.ntmps126
  go_wp2_with (go_at_call 124;refine (HN.out _).mono ?_;clear HN;rintro e w4 ⟨hsay,hb4⟩;obtain⟨hc4,B4⟩:=Hg.out _ w4 rfl hb4;clear hb4;rcases hsay with ⟨rfl,hname⟩|⟨rfl,hname⟩;exact absurd hname Hn.out)
  go_ret
  exact⟨.inl ⟨rfl,Hr.out⟩,B4.out⟩
set_option maxRecDepth 20000 in
set_option maxHeartbeats 2000000 in
theorem index_rows (o:Option Addr) (c n:Nat) (l:List Lbl) (w:World) (hn:l.length=n) (hl:n≤1000000000) (hs:∀y∈l,y.1.length≤1000000000∧y.2.length≤1000000000) (hc:Rows2 w o l):Calls Tryz.prog 176 #[.slice o n c,.func (.func 126) #[] #[]] w fun e w'=>(∃r:Int,e=.returned (.int .i64 r)∧(0≤r↔∃y∈l,¬ LblOk y))∧Below w.heap.size w w':=by
 have Hc:=Lib.hid hc
 have Hn:=Lib.hid hn
 have Hs:=Lib.hid hs
 clear hc hn hs
 go_enter Tryz.func176,Tryz.ntmps176
 go_wp2_with fail
 go_loopw [5,8] (fun _ iv wr=>∃k:Nat,k≤n∧iv=.int .i64 k∧Below w.heap.size w wr∧∀(i:Nat) (y:Lbl),i<k→l[i]?=some y→LblOk y) (fun _ iv _=>n-(intOf iv).toNat)
 case atStart=>exact⟨0,Nat.zero_le _,rfl,Below.refl _ _,fun i y h=>by omega⟩
 case round =>
  obtain⟨k,hk,rfl,hb,hok⟩:=hrel
  have Hok:=Lib.hid hok
  have Hb:=Lib.hid hb
  have hsz:=hb.size
  have Hcr:=Lib.hid (Hc.out.olds (Olds.of_below hb))
  clear hok hb
  by_cases hlt:k<n
  ·obtain⟨b,off,x1,x2,rfl,hx,hx1,hx2⟩:=Hcr.out.at (k:=k) (by rw [Hn.out];exact hlt)
   obtain⟨hs1,hs2⟩:=Hs.out _ (List.mem_of_getElem? hx)
   have Hx:=Lib.hid hx
   clear hx
   have HB:=Lib.hid (bad_any x1 x2 wr hs1 hs2)
   go_wp2_with (go_at_call 126;refine HB.out.mono ?_;clear HB;rintro e w4 ⟨hsay,hb4⟩;have B4:=Lib.hid hb4;clear hb4;rcases hsay with ⟨rfl,hname⟩|⟨rfl,hname⟩;have Hname:=Lib.hid hname;clear hname)
   ·go_ret
    exact⟨⟨_,rfl,by constructor;(intro _;exact⟨_,List.mem_of_getElem? Hx.out,Hname.out⟩);(intro _;omega)⟩,Hb.out.trans (B4.out.mono hsz)⟩
   ·have Hname:=Lib.hid hname
    clear hname
    go_wp2_with fail
    go_roundw
    case rel=>exact⟨k+1,by omega,by go_num,Hb.out.trans (B4.out.mono hsz),fun i y hi hy=>by
     by_cases h:i<k
     ·exact Hok.out i y h hy
     ·obtain rfl:i=k:=by omega
      rw [Hx.out] at hy
      cases hy
      exact Classical.not_not.1 Hname.out⟩
    case measure=>simp [intOf];omega
  ·go_wp2_with fail
   go_ret
   refine⟨⟨-1,rfl,by constructor;(intro h;omega);(rintro⟨y,hy,hno⟩;exfalso;obtain⟨i,hi⟩:=List.getElem?_of_mem hy;have:=(List.getElem?_eq_some_iff.1 hi).1;rw [Hn.out] at this;exact hno (Hok.out i y (by omega) hi))⟩,Hb.out⟩
set_option maxHeartbeats 1000000 in
theorem contains_rows (o:Option Addr) (c n:Nat) (l:List Lbl) (w:World) (hn:l.length=n) (hl:n≤1000000000) (hs:∀y∈l,y.1.length≤1000000000∧y.2.length≤1000000000) (hc:Rows2 w o l):Calls Tryz.prog 127 #[.slice o n c,.func (.func 126) #[] #[]] w fun e w'=>Says (∃y∈l,¬ LblOk y) e∧Below w.heap.size w w':=by
 have HI:=Lib.hid (index_rows o c n l w hn hl hs hc)
 clear hc hn hs
 go_enter Tryz.func127,Tryz.ntmps127
 go_wp2_with (go_at_call 176;refine HI.out.mono ?_;clear HI;rintro e w4 ⟨⟨r,rfl,hr⟩,hb4⟩;have B4:=Lib.hid hb4;have Hr:=Lib.hid hr;clear hb4 hr)
 by_cases h0:0≤r
 ·go_ret
  exact⟨.inl ⟨by simp [h0],Hr.out.1 h0⟩,B4.out⟩
 ·go_ret
  exact⟨.inr ⟨by simp;omega,fun h=>h0 (Hr.out.2 h)⟩,B4.out⟩
end Go.Proofs.YtbecggfbblnglaaGreatDoor
namespace Go.Proofs.YtbecggfbblnglaaGreatDoor
open Go Go.RowKit Go.Ix
set_option maxRecDepth 20000 in
set_option maxHeartbeats 2000000 in
theorem ptwice_rows (o:Option Addr) (c n:Nat) (l:List Lbl) (w:World) (hn:l.length=n) (hl:n≤100000) (hs:∀y∈l,y.1.length≤1000000000∧y.2.length≤1000000000) (hc:Rows2 w o l):Calls Tryz.prog 128 #[.slice o n c] w fun e w'=>Says (Twice l) e∧Below w.heap.size w w':=by
 have Hc:=Lib.hid hc
 have Hn:=Lib.hid hn
 have Hs:=Lib.hid hs
 have hmm:=@run_makeMap Tryz.prog
 clear hc hn hs
 go_enter Tryz.func128,Tryz.ntmps128
 go_wp2_with fail
 go_loopw [5,9] (fun _ iv wr=>∃k:Nat,k≤n∧iv=.int .i64 k∧Below w.heap.size w wr∧SetAt wr w.heap.size k ((l.take k).map (·.1))∧∀(i j:Nat) (x y:Lbl),i<k→j<i→l[i]?=some x→l[j]?=some y→x.1≠y.1) (fun _ iv _=>n-(intOf iv).toNat)
 case atStart=>exact⟨0,Nat.zero_le _,rfl,(Below.refl _ w).alloc (Nat.le_refl _) _,by rw [List.take_zero];exact SetAt.made w,fun i j x y h=>by omega⟩
 case round =>
  obtain⟨k,hk,rfl,hb,hset,hno⟩:=hrel
  have Hno:=Lib.hid hno
  have Hset:=Lib.hid hset
  have Hb:=Lib.hid hb
  have hsz:=hb.size
  have hlts:=hset.lt
  have Hcr:=Lib.hid (Hc.out.olds (Olds.of_below hb))
  clear hno hb hset
  by_cases hlt:k<n
  ·obtain⟨b,off,x1,x2,rfl,hx,hx1,hx2⟩:=Hcr.out.at (k:=k) (by rw [Hn.out];exact hlt)
   obtain⟨hs1,_⟩:=Hs.out _ (List.mem_of_getElem? hx)
   simp only at hs1
   have Hx:=Lib.hid hx
   clear hx
   have Hset2:Hid (∀ob,SetAt (wr.alloc ob) w.heap.size k ((l.take k).map (·.1))):=Lib.hid (fun ob=>Hset.out.olds (Olds.alloc _ _))
   by_cases hin:x1∈(l.take k).map (·.1)
   ·have hdin:decide (x1∈(l.take k).map (·.1))=true:=decide_eq_true hin
    have Hr:Hid (Twice l):=Lib.hid (by
     obtain⟨y,hy,he⟩:=List.mem_map.1 hin
     obtain⟨j,hj⟩:=List.getElem?_of_mem hy
     have hjk:=(List.getElem?_eq_some_iff.1 hj).1
     rw [List.length_take] at hjk
     rw [List.getElem?_take_of_lt (by omega)] at hj
     exact⟨k,j,_,y,by omega,Hx.out,hj,he.symm⟩)
    clear hin
    generalize (l.take k).map (·.1)=S at *
    go_wp2_with (at_lookup;refine wpList_set_look rfl _ _ rfl w.heap.size k S x1 rfl rfl (Hset2.out _) hs1 ?_;rw [hdin])
    go_ret
    exact⟨.inl ⟨rfl,Hr.out⟩,Hb.out.alloc hsz _⟩
   ·have hdin:decide (x1∈(l.take k).map (·.1))=false:=decide_eq_false hin
    have Hin:=Lib.hid hin
    clear hin
    have Htk:Hid ((l.take (k+1)).map (·.1)=(l.take k).map (·.1)++[x1]):=Lib.hid (by rw [take_snoc Hx.out,List.map_append];rfl)
    generalize hS:(l.take k).map (·.1)=S at *
    have HS:=Lib.hid hS
    clear hS
    go_wp2_with (first
     | (at_lookup;refine wpList_set_look rfl _ _ rfl w.heap.size k S x1 rfl rfl (Hset2.out _) hs1 ?_;rw [hdin])
     | (at_mapUpdate;refine wpList_set_store rfl _ _ _ rfl w.heap.size k S x1 rfl rfl rfl (Hset2.out _) hs1 (by omega) ?_;intro w5 hset5 hgrow5;have Hset5:=Lib.hid hset5;have B5:=Lib.hid ((Hb.out.alloc hsz _).grown hgrow5 (by simp;omega) (fun b e=>by cases e;exact Nat.le_refl _));clear hset5 hgrow5))
    go_roundw
    case rel=>exact⟨k+1,by omega,by go_num,B5.out,by rw [Htk.out];exact Hset5.out,fun i j x y hi hj hix hjy=>by
     by_cases h:i<k
     ·exact Hno.out i j x y h hj hix hjy
     ·obtain rfl:i=k:=by omega
      rw [Hx.out] at hix
      cases hix
      intro he
      refine Hin.out ?_
      rw [← HS.out]
      exact List.mem_map.2 ⟨y,by
       have:=List.mem_of_getElem? (l:=l.take i) (i:=j) (a:=y) (by rw [List.getElem?_take_of_lt hj];exact hjy)
       exact this,he.symm⟩⟩
    case measure=>simp [intOf];omega
  ·go_wp2_with fail
   go_ret
   refine⟨.inr ⟨rfl,?_⟩,Hb.out⟩
   rintro⟨i,j,x,y,hji,hx,hy,he⟩
   refine Hno.out i j x y ?_ hji hx hy he
   have h1:=(List.getElem?_eq_some_iff.1 hx).1
   rw [Hn.out] at h1
   omega
set_option maxRecDepth 20000 in
set_option maxHeartbeats 2000000 in
theorem pcheck_rows (o:Option Addr) (c n:Nat) (l:List Lbl) (w:World) (hn:l.length=n) (hl:n≤1000000000) (hs:∀y∈l,y.1.length≤1000000000∧y.2.length≤1000000000) (hc:Rows2 w o l):Calls Tryz.prog 86 #[.slice o n c] w fun e w'=>e=.returned (.int .u16 (check l))∧Below w.heap.size w w':=by
 by_cases h64:64<n
 ·have Hr:Hid (check l=72):=Lib.hid (check_many (by omega))
  clear hs hc
  go_enter Tryz.func86,Tryz.ntmps86
  go_wp2_with fail
  go_ret
  exact⟨by rw [Hr.out];rfl,Below.refl _ _⟩
 ·have H1:Hid (∀W,Below w.heap.size w W→Calls Tryz.prog 127 #[.slice o n c,.func (.func 126) #[] #[]] W fun e w'=>Says (∃y∈l,¬ LblOk y) e∧Below W.heap.size W w'):=Lib.hid (fun W hW=>contains_rows o c n l W hn hl hs (hc.olds (Olds.of_below hW)))
  have H2:Hid (∀W,Below w.heap.size w W→Calls Tryz.prog 128 #[.slice o n c] W fun e w'=>Says (Twice l) e∧Below W.heap.size W w'):=Lib.hid (fun W hW=>ptwice_rows o c n l W hn (by omega) hs (hc.olds (Olds.of_below hW)))
  have H3:Hid (∀W,Below w.heap.size w W→Calls Tryz.prog 129 #[.slice o n c,.func (.func 130) #[] #[]] W fun e w'=>Says (Sorted l) e∧Below W.heap.size W w'):=Lib.hid (fun W hW=>issorted_rows o c n l W hn hl (hc.olds (Olds.of_below hW)))
  have h64':¬ 64<l.length:=by omega
  have H64:=Lib.hid h64'
  clear hs hc hn h64'
  by_cases hbad:∃y∈l,¬ LblOk y
  ·have Hr:Hid (check l=70):=Lib.hid (by obtain⟨y,h1,h2⟩:=hbad;exact check_form H64.out h1 h2)
   have Hbad:=Lib.hid hbad
   clear hbad
   go_enter Tryz.func86,Tryz.ntmps86
   go_wp2_with (go_at_call 127;refine (H1.out _ (Below.refl _ _)).mono ?_;clear H1;rintro e w4 ⟨hsay,hb4⟩;have B4:=Lib.hid hb4;clear hb4;rcases hsay with ⟨rfl,hname⟩|⟨rfl,hname⟩;rotate_left;exact absurd Hbad.out hname)
   go_ret
   exact⟨by rw [Hr.out];rfl,B4.out⟩
  ·have Hok:Hid (∀y∈l,LblOk y):=Lib.hid (fun y hy=>Classical.byContradiction fun h=>hbad ⟨y,hy,h⟩)
   have Hbad:=Lib.hid hbad
   clear hbad
   by_cases htw:Twice l
   ·have Hr:Hid (check l=71):=Lib.hid (check_twice H64.out Hok.out htw)
    have Htw:=Lib.hid htw
    clear htw
    go_enter Tryz.func86,Tryz.ntmps86
    go_wp2_with (first
     | (go_at_call 127;refine (H1.out _ (Below.refl _ _)).mono ?_;clear H1;rintro e w4 ⟨hsay,hb4⟩;have B4:=Lib.hid hb4;clear hb4;rcases hsay with ⟨rfl,hname⟩|⟨rfl,hname⟩;exact absurd hname Hbad.out;clear hname)
     | (go_at_call 128;refine (H2.out _ B4.out).mono ?_;clear H2;rintro e w5 ⟨hsay,hb5⟩;have B5:=Lib.hid (B4.out.trans (hb5.mono B4.out.size));clear hb5;rcases hsay with ⟨rfl,hname⟩|⟨rfl,hname⟩;rotate_left;exact absurd Htw.out hname))
    go_ret
    exact⟨by rw [Hr.out];rfl,B5.out⟩
   ·have Hnx:=Lib.hid (sorted_next htw)
    have Htw:=Lib.hid htw
    clear htw
    by_cases hso:Sorted l
    ·have Hr:Hid (check l=0):=Lib.hid (check_ok H64.out Hok.out Htw.out (Hnx.out.1 hso))
     have Hso:=Lib.hid hso
     clear hso
     go_enter Tryz.func86,Tryz.ntmps86
     go_wp2_with (first
      | (go_at_call 127;refine (H1.out _ (Below.refl _ _)).mono ?_;clear H1;rintro e w4 ⟨hsay,hb4⟩;have B4:=Lib.hid hb4;clear hb4;rcases hsay with ⟨rfl,hname⟩|⟨rfl,hname⟩;exact absurd hname Hbad.out;clear hname)
      | (go_at_call 128;refine (H2.out _ B4.out).mono ?_;clear H2;rintro e w5 ⟨hsay,hb5⟩;have B5:=Lib.hid (B4.out.trans (hb5.mono B4.out.size));clear hb5;rcases hsay with ⟨rfl,hname⟩|⟨rfl,hname⟩;exact absurd hname Htw.out;clear hname)
      | (go_at_call 129;refine (H3.out _ B5.out).mono ?_;clear H3;rintro e w6 ⟨hsay,hb6⟩;have B6:=Lib.hid (B5.out.trans (hb6.mono B5.out.size));clear hb6;rcases hsay with ⟨rfl,hname⟩|⟨rfl,hname⟩;rotate_left;exact absurd Hso.out hname))
     go_ret
     exact⟨by rw [Hr.out];rfl,B6.out⟩
    ·have Hr:Hid (check l=70):=Lib.hid (check_next H64.out Hok.out Htw.out (fun h=>hso (Hnx.out.2 h)))
     have Hso:=Lib.hid hso
     clear hso
     go_enter Tryz.func86,Tryz.ntmps86
     go_wp2_with (first
      | (go_at_call 127;refine (H1.out _ (Below.refl _ _)).mono ?_;clear H1;rintro e w4 ⟨hsay,hb4⟩;have B4:=Lib.hid hb4;clear hb4;rcases hsay with ⟨rfl,hname⟩|⟨rfl,hname⟩;exact absurd hname Hbad.out;clear hname)
      | (go_at_call 128;refine (H2.out _ B4.out).mono ?_;clear H2;rintro e w5 ⟨hsay,hb5⟩;have B5:=Lib.hid (B4.out.trans (hb5.mono B4.out.size));clear hb5;rcases hsay with ⟨rfl,hname⟩|⟨rfl,hname⟩;exact absurd hname Htw.out;clear hname)
      | (go_at_call 129;refine (H3.out _ B5.out).mono ?_;clear H3;rintro e w6 ⟨hsay,hb6⟩;have B6:=Lib.hid (B5.out.trans (hb6.mono B5.out.size));clear hb6;rcases hsay with ⟨rfl,hname⟩|⟨rfl,hname⟩;exact absurd hname Hso.out))
     go_ret
     exact⟨by rw [Hr.out];rfl,B6.out⟩
end Go.Proofs.YtbecggfbblnglaaGreatDoor
namespace Go.Proofs.YtbecggfbblnglaaGreatDoor
open Go Go.RowKit Go.Ix Go.Sort
set_option maxRecDepth 20000 in
set_option maxHeartbeats 1000000 in
theorem pmay_rows (o:Option Addr) (c:Nat) (l:List Ent) (w:World) (hs:Small l) (hc:RowsE w o l):Calls Tryz.prog 96 #[.slice o l.length c] w fun e w'=>Says (May l) e∧Below w.heap.size w w':=by
 have Hc:=Lib.hid hc
 have Hs:=Lib.hid hs
 have hm:=hs.1
 have mixed:Tryz.prog.follows .mixedOrders=true:=by kernel_rfl
 clear hc hs
 generalize hn:l.length=n at *
 have Hn:=Lib.hid hn
 clear hn
 by_cases hbig:4096<n
 ·have Hr:Hid (¬ May l):=Lib.hid (fun h=>by have:=h.1;rw [Hn.out] at this;omega)
  go_enter Tryz.func96,Tryz.ntmps96
  go_wp2_with fail
  go_ret
  exact⟨.inr ⟨rfl,Hr.out⟩,Below.refl _ _⟩
 ·go_enter Tryz.func96,Tryz.ntmps96
  go_wp2_with fail
  go_loopw [3,4,5,6,7,8,14] (fun _ _ _ _ _ _ iv wr=>∃k:Nat,k≤n∧iv=.int .i64 k∧Below w.heap.size w wr∧∀i,i<k→EntOk l i) (fun _ _ _ _ _ _ iv _=>n-(intOf iv).toNat)
  case atStart=>exact⟨0,Nat.zero_le _,rfl,Below.refl _ _,fun i h=>by omega⟩
  case round =>
   obtain⟨k,hk,rfl,hb,hok⟩:=hrel
   have Hok:=Lib.hid hok
   have Hb:=Lib.hid hb
   have hsz:=hb.size
   have Hcr:=Lib.hid (Hc.out.olds (Olds.of_below hb))
   clear hok hb
   by_cases hlt:k<n
   ·obtain⟨b,off,e1,e2,o1,n1,c1,o2,n2,c2,rfl,hx,hc1,hc2,hl1,hl2,hr1,hr2,_⟩:=Hcr.out.at (k:=k) (by rw [Hn.out];exact hlt)
    obtain⟨hs1,hs2,hs3⟩:=Hs.out.ent hx
    have hn1:n1≤1000000000:=by omega
    have hn2:n2≤1000000000:=by omega
    have hbl:=cell_lt hc1
    simp only at hbl
    have Hx:=Lib.hid hx
    have Hr1:=Lib.hid hr1
    have Hr2:=Lib.hid hr2
    have Hl1:=Lib.hid hl1
    have Hl2:=Lib.hid hl2
    have HS3:=Lib.hid hs3
    obtain⟨A,hA⟩:∃A:World,A=wr.alloc (.cells #[.slice o1 n1 c1,.slice o2 n2 c2] 93):=⟨_,rfl⟩
    have HoA:Hid (Olds wr A):=Lib.hid (by rw [hA];exact Olds.alloc _ _)
    have HbA:Hid (Below w.heap.size w A):=Lib.hid (by rw [hA];exact Hb.out.alloc hsz _)
    have hAs:A.heap.size=wr.heap.size+1:=by rw [hA];simp
    have hAb:A.heap[wr.heap.size]?=some (.cells #[.slice o1 n1 c1,.slice o2 n2 c2] 93 (0,0)):=by rw [hA];exact heap_alloc_new _ _
    have hA0:A.cell? ⟨wr.heap.size,0,none⟩=some (.slice o1 n1 c1):=by simp [World.cell?,hAb]
    have hA1:A.cell? ⟨wr.heap.size,1,none⟩=some (.slice o2 n2 c2):=by simp [World.cell?,hAb]
    have HC:Hid (∀d os,Calls Tryz.prog 86 #[.slice o1 n1 c1] (grow (redrawn A d) os) fun e w''=>e=.returned (.int .u16 (check e1))∧∃p:Regrown,w''=grow (redrawn A p.d) p.os):=Lib.hid (fun d os=>Calls.regrown_of (pcheck_rows o1 c1 n1 e1 _ Hl1.out hn1 HS3.out ((Hr1.out.olds HoA.out).olds (Olds.of_below (below_regrown A d os)))))
    have HAe:=Lib.hid hA
    have HAs:=Lib.hid hAs
    clear hx hr1 hr2 hl1 hl2 hs3 hAb hA hAs
    go_upto_region 6 with fail
    rw [← HAe.out]
    go_cut [38] from 19 to 37 (fun t38 wx=>(∃R:Bool,t38=.bool R∧(R=true→¬ May l)∧(R=false→check e1=0∧(0<k→∀d,l[k-1]?=some d→cmpL d.1 e1<0)))∧Below A.heap.size A wx)
    case first =>
     have k0:=cell_regrown hA0
     by_cases hck:check e1=0
     ·have hckb:(check e1 != 0)=false:=by simpa using hck
      have key:(¬ 0<k∧Hid (0<k→∀d,l[k-1]?=some d→cmpL d.1 e1<0))∨(0<k∧∃j:Nat,(k:Int)-1=(j:Int)∧j<n∧∃d1 o3 n3 c3,A.cell? ⟨b,off+j * 2,none⟩=some (.slice o3 n3 c3)∧n3≤1000000000∧Hid (∀d os,Calls Tryz.prog 88 #[.slice o3 n3 c3,.slice o1 n1 c1] (grow (redrawn A d) os) fun e w''=>e=.returned (.int .i64 (cmpL d1 e1))∧∃p:Regrown,w''=grow (redrawn A p.d) p.os)∧Hid (cmpL d1 e1<0→0<k→∀d,l[k-1]?=some d→cmpL d.1 e1<0)∧Hid (¬ cmpL d1 e1<0→¬ May l)):=by
       by_cases h0:k=0
       ·exact .inl ⟨by omega,Lib.hid (fun h=>by omega)⟩
       ·refine .inr ⟨by omega,k-1,by omega,by omega,?_⟩
        obtain⟨d1,d2,o3,n3,c3,o4,n4,c4,hxd,hcd,_,hld,_,hrd,_⟩:=Hcr.out.next (k:=k-1) (by rw [Hn.out];omega)
        obtain⟨hsd,_⟩:=Hs.out.ent hxd
        refine⟨d1,o3,n3,c3,HoA.out.cell hcd,by omega,Lib.hid (fun d os=>?_),Lib.hid (fun h _ d hd=>?_),Lib.hid (fun h hmay=>?_)⟩
        ·exact Calls.regrown_of (pcmp_rows o3 o1 c3 c1 n3 n1 d1 e1 _ hld Hl1.out (by omega) hn1 ((hrd.olds HoA.out).olds (Olds.of_below (below_regrown A d os))) ((Hr1.out.olds HoA.out).olds (Olds.of_below (below_regrown A d os))))
        ·rw [hxd] at hd
         cases hd
         exact h
        ·exact h ((hmay.2 k (by rw [Hn.out];exact hlt) _ Hx.out).2.1 (by omega) _ hxd)
      have Hck:=Lib.hid hck
      clear hck
      rcases key with ⟨h0,HP⟩|⟨hkp,j0,hkj,hj0,d1,o3,n3,c3,hcd,hn3,HD,HP0,HNo⟩
      ·refine wp_region_quiet_below (by assumption) (by kernel_rfl) ?_
       repeat (go_big_quiet_step (first | exact HC.out _ _ | exact HD.out _ _))
       refine wpQuiet_nil ?_
       intro wq hw'
       obtain⟨⟨dq,osq⟩,hw''⟩:=hw'
       have B7:=Lib.hid (below_regrown A dq osq)
       rw [← hw''] at B7
       clear hw'' k0
       go_wp2_with fail
       go_meet
       case rel=>exact⟨⟨false,rfl,fun h=>(by cases h),fun _=>⟨Hck.out,HP.out⟩⟩,B7.out⟩
      ·have k1:=cell_regrown hcd
       by_cases hcm:cmpL d1 e1<0
       ·have HP:=Lib.hid (HP0.out hcm)
        clear HP0 HNo
        refine wp_region_quiet_below (by assumption) (by kernel_rfl) ?_
        repeat (go_big_quiet_step (first | exact HC.out _ _ | exact HD.out _ _))
        refine wpQuiet_nil ?_
        intro wq hw'
        obtain⟨⟨dq,osq⟩,hw''⟩:=hw'
        have B7:=Lib.hid (below_regrown A dq osq)
        rw [← hw''] at B7
        clear hw'' k0 k1
        go_wp2_with fail
        go_meet
        case rel=>exact⟨⟨false,by simp;omega,fun h=>(by cases h),fun _=>⟨Hck.out,HP.out⟩⟩,B7.out⟩
       ·have Hno:=Lib.hid (HNo.out hcm)
        clear HP0 HNo
        refine wp_region_quiet_below (by assumption) (by kernel_rfl) ?_
        repeat (go_big_quiet_step (first | exact HC.out _ _ | exact HD.out _ _))
        refine wpQuiet_nil ?_
        intro wq hw'
        obtain⟨⟨dq,osq⟩,hw''⟩:=hw'
        have B7:=Lib.hid (below_regrown A dq osq)
        rw [← hw''] at B7
        clear hw'' k0 k1
        go_wp2_with fail
        go_meet
        case rel=>exact⟨⟨true,by simp<;>omega,fun _=>Hno.out,fun h=>(by cases h)⟩,B7.out⟩
     ·have Hno:Hid (¬ May l):=Lib.hid (fun h=>hck (h.ent (List.mem_of_getElem? Hx.out)).1)
      have hckb:(check e1 != 0)=true:=by simpa using hck
      clear hck
      refine wp_region_quiet_below (by assumption) (by kernel_rfl) ?_
      repeat (go_big_quiet_step (first | exact HC.out _ _ | exact HD.out _ _))
      refine wpQuiet_nil ?_
      intro wq hw'
      obtain⟨⟨dq,osq⟩,hw''⟩:=hw'
      have B7:=Lib.hid (below_regrown A dq osq)
      rw [← hw''] at B7
      clear hw'' k0
      go_wp2_with fail
      go_meet
      case rel=>exact⟨⟨true,rfl,fun _=>Hno.out,fun h=>(by cases h)⟩,B7.out⟩
    case rest =>
    obtain⟨⟨R,rfl,hR1,hR2⟩,b7⟩:=hcut
    have B7:=Lib.hid b7
    have HR1:=Lib.hid hR1
    have HR2:=Lib.hid hR2
    clear b7 hR1 hR2
    generalize wc=wq at *
    cases R with
    | true =>
     have Hno:=Lib.hid (HR1.out rfl)
     clear HR1 HR2
     go_wp2_with fail
     go_ret
     exact⟨.inr ⟨rfl,Hno.out⟩,HbA.out.trans (B7.out.mono HbA.out.size)⟩
    | false =>
     have Hck:=Lib.hid (HR2.out rfl).1
     have HP:=Lib.hid (HR2.out rfl).2
     clear HR1 HR2
     have hq1:=(Olds.of_below B7.out).cell hA1
     have Hbq:=Lib.hid (HbA.out.trans (B7.out.mono HbA.out.size))
     have Hr5:=Lib.hid ((Hr2.out.olds HoA.out).olds (Olds.of_below B7.out))
     go_wp2_with fail
     go_loopw [5,6,7,8,42] (fun _ _ _ _ jv wz=>∃j:Nat,j≤n2∧jv=.int .i64 j∧Below w.heap.size w wz∧Below wq.heap.size wq wz∧∀i,i<j→PlcAt e2 i) (fun _ _ _ _ jv _=>n2-(intOf jv).toNat)
     case atStart=>exact⟨0,Nat.zero_le _,rfl,Hbq.out,Below.refl _ _,fun i h=>by omega⟩
     case round =>
      obtain⟨j,hj,rfl,hbz,hbz2,hpl⟩:=hrel
      have Hbz:=Lib.hid hbz
      have Hbz2:=Lib.hid hbz2
      have Hpl:=Lib.hid hpl
      have hz1:=(Olds.of_below hbz2).cell hq1
      have Hr5z:=Lib.hid (Hr5.out.olds (Olds.of_below hbz2))
      have hszz:=hbz.size
      have hszz2:=hbz2.size
      clear hbz hbz2 hpl
      by_cases hjn:j<n2
      ·obtain⟨b5,off5,p,rfl,hp,hp0,hp1,hp2,hp3,hp4⟩:=Hr5z.out.at (k:=j) (by rw [Hl2.out];exact hjn)
       have Hp:=Lib.hid hp
       clear hp
       obtain⟨p0,p1,p2,p3,p4⟩:=p
       simp only at hp0 hp1 hp2 hp3 hp4
       have hbl5:=cell_lt hp0
       have hblz:=cell_lt hz1
       simp only at hbl5 hblz
       obtain⟨Z,hZ⟩:∃Z:World,Z=wr.alloc (.cells #[.int .i64 p0,.int .i64 p1,.int .i64 p2,.int .i64 p3,.int .i64 p4] 100):=⟨_,rfl⟩
       have HoZ:Hid (Olds wr Z):=Lib.hid (by rw [hZ];exact Olds.alloc _ _)
       have HbZ:Hid (Below w.heap.size w Z):=Lib.hid (by rw [hZ];exact Hbz.out.alloc hszz _)
       have HbZ2:Hid (Below wq.heap.size wq Z):=Lib.hid (by rw [hZ];exact Hbz2.out.alloc hszz2 _)
       have hZb:Z.heap[wr.heap.size]?=some (.cells #[.int .i64 p0,.int .i64 p1,.int .i64 p2,.int .i64 p3,.int .i64 p4] 100 (0,0)):=by rw [hZ];exact heap_alloc_new _ _
       have hZ0:Z.cell? ⟨wr.heap.size,0,none⟩=some (.int .i64 p0):=by simp [World.cell?,hZb]
       have hZ1:Z.cell? ⟨wr.heap.size,1,none⟩=some (.int .i64 p1):=by simp [World.cell?,hZb]
       have hZ2:Z.cell? ⟨wr.heap.size,2,none⟩=some (.int .i64 p2):=by simp [World.cell?,hZb]
       have hZ3:Z.cell? ⟨wr.heap.size,3,none⟩=some (.int .i64 p3):=by simp [World.cell?,hZb]
       have hZ4:Z.cell? ⟨wr.heap.size,4,none⟩=some (.int .i64 p4):=by simp [World.cell?,hZb]
       have hZe:=HoZ.out.cell hz1
       have HZ:=Lib.hid hZ
       clear hZ hZb
       go_upto_region 11 with fail
       rw [← HZ.out]
       clear HZ
       go_cut [7] from 47 to 61 (fun t7 wx=>(∃T:Bool,t7=.bool T∧(T=true↔p0≤p1∧ -9007199254740992≤p0∧p1≤9007199254740992))∧wx=Z)
       case first =>
        go_wp2_with fail
        all_goals (go_meet;case rel=>exact⟨⟨_,rfl,by simp;omega⟩,rfl⟩)
       case rest =>
       obtain⟨⟨T,rfl,hT⟩,hwz⟩:=hcut
       have HT:=Lib.hid hT
       rw [hwz]
       clear hT hwz
       go_upto_region 12 with fail
       go_cut [8] from 62 to 89 (fun t8 wx=>(∃S:Bool,t8=.bool S∧(S=true↔1≤p2∧p2≤120∧0≤p3∧p3≤2147483647∧0≤p4∧p4≤2147483647))∧wx=Z)
       case first =>
        go_wp2_with fail
        all_goals (go_meet;case rel=>exact⟨⟨_,rfl,by simp;omega⟩,rfl⟩)
       case rest =>
       obtain⟨⟨S,rfl,hS⟩,hwz⟩:=hcut
       have HS:=Lib.hid hS
       rw [hwz]
       clear hS hwz
       go_upto_region 13 with fail
       by_cases hok:PlcOk ⟨p0,p1,p2,p3,p4⟩
       ·have hT:T=true:=HT.out.2 (by obtain⟨h1,h2,h3,_⟩:=hok;exact⟨h1,h2,h3⟩)
        have hS:S=true:=HS.out.2 (by obtain⟨_,_,_,h1,h2,h3,h4,h5,h6⟩:=hok;exact⟨h1,h2,h3,h4,h5,h6⟩)
        subst hT hS
        have Hok5:=Lib.hid hok
        clear hok
        by_cases hj0:0<j
        ·obtain⟨i0,hji,hi0,hiN⟩:∃i:Nat,(j:Int)-1=(i:Int)∧i<n2∧Hid (i=j-1):=⟨j-1,by omega,by omega,Lib.hid rfl⟩
         obtain⟨pd,hpd,_,hd1,_⟩:=Hr5z.out.next (k:=i0) (by rw [Hl2.out];exact hi0)
         have Hpd:=Lib.hid hpd
         clear hpd
         obtain⟨g0,g1,g2,g3,g4⟩:=pd
         simp only at hd1
         have hd1Z:=HoZ.out.cell hd1
         by_cases hlt3:g1<p0
         ·have Hat:Hid (PlcAt e2 j):=Lib.hid (fun c hc=>by
           rw [Hp.out] at hc
           cases hc
           refine⟨Hok5.out,fun _ d hd=>?_⟩
           rw [← hiN.out,Hpd.out] at hd
           cases hd
           exact hlt3)
          go_quiet (fail)
          go_wp2_with fail
          go_roundw
          case rel=>exact⟨j+1,by omega,by go_num,below_drewN HbZ.out _,below_drewN HbZ2.out _,fun i hi=>by
           by_cases h:i<j
           ·exact Hpl.out i h
           ·obtain rfl:i=j:=by omega
            exact Hat.out⟩
          case measure=>simp [intOf];omega
         ·have Hno:Hid (¬ May l):=Lib.hid (fun h=>hlt3 (((h.ent (List.mem_of_getElem? Hx.out)).2 j (by rw [Hl2.out];exact hjn) _ Hp.out).2 hj0 _ (by rw [← hiN.out];exact Hpd.out)))
          go_quiet (fail)
          go_wp2_with fail
          go_ret
          exact⟨.inr ⟨rfl,Hno.out⟩,below_drewN HbZ.out _⟩
        ·have Hat:Hid (PlcAt e2 j):=Lib.hid (fun c hc=>by
          rw [Hp.out] at hc
          cases hc
          exact⟨Hok5.out,fun h=>absurd h hj0⟩)
         go_quiet (fail)
         go_wp2_with fail
         go_roundw
         case rel=>exact⟨j+1,by omega,by go_num,below_drewN HbZ.out _,below_drewN HbZ2.out _,fun i hi=>by
          by_cases h:i<j
          ·exact Hpl.out i h
          ·obtain rfl:i=j:=by omega
           exact Hat.out⟩
         case measure=>simp [intOf];omega
       ·have Hno:Hid (¬ May l):=Lib.hid (fun h=>hok ((h.ent (List.mem_of_getElem? Hx.out)).2.plc (List.mem_of_getElem? Hp.out)))
        have Hok5:=Lib.hid hok
        clear hok
        cases T with
        | false =>
         go_quiet (fail)
         go_wp2_with fail
         go_ret
         exact⟨.inr ⟨rfl,Hno.out⟩,below_drewN HbZ.out _⟩
        | true =>
         cases S with
         | false =>
          go_quiet (fail)
          go_wp2_with fail
          go_ret
          exact⟨.inr ⟨rfl,Hno.out⟩,below_drewN HbZ.out _⟩
         | true =>
          exact absurd (show PlcOk ⟨p0,p1,p2,p3,p4⟩ from by
           have h1:=HT.out.1 rfl
           have h2:=HS.out.1 rfl
           exact⟨h1.1,h1.2.1,h1.2.2,h2⟩) Hok5.out
      ·go_wp2_with fail
       go_roundw
       case rel=>exact⟨k+1,by omega,by go_num,Hbz.out,fun i hi=>by
        by_cases h:i<k
        ·exact Hok.out i h
        ·obtain rfl:i=k:=by omega
         intro e he
         rw [Hx.out] at he
         cases he
         exact⟨Hck.out,HP.out,fun i hi=>Hpl.out i (by have:=Hl2.out;simp only at hi;omega)⟩⟩
       case measure=>simp [intOf];omega
   ·go_wp2_with fail
    go_ret
    exact⟨.inl ⟨rfl,by rw [Hn.out];omega,fun i hi=>Hok.out i (by rw [Hn.out] at hi;omega)⟩,Hb.out⟩
end Go.Proofs.YtbecggfbblnglaaGreatDoor
namespace Go.Proofs.YtbecggfbblnglaaGreatDoor
open Go Go.RowKit Go.Ix
def BytesAt (w:World) (v:Value) (bs:List Nat):Prop:=FlatAt w v bs.length (octs bs)
set_option maxRecDepth 20000 in
set_option maxHeartbeats 1000000 in
theorem rmore_cells (b off c:Nat) (bs:List Nat) (w:World) (hm:bs.length≤100000000000) (hc:CellsAt w b off (octs bs)) (h8:∀x∈bs,x<256) :
  Calls Tryz.prog 81 #[.int .u32 0,.slice (some ⟨b,off,none⟩) bs.length c] w fun e w'=>e=.returned (.int .u32 (crc bs))∧w=w':=by
 have Hc:=Lib.hid hc
 have H8:=Lib.hid h8
 clear hc h8
 generalize hn:bs.length=n at *
 have Hn:=Lib.hid hn
 clear hn
 have hsg:IntKind.u32.signed=false:=rfl
 have e0:bits .xor .u32 IntKind.u32.max 0=4294967295:=by decide +kernel
 go_enter Tryz.func81,Tryz.ntmps81
 go_wp2_with fail
 go_loop [5,6] (fun dv iv=>∃(k d:Nat),k≤n∧iv=.int .i64 k∧dv=.int .u32 d∧d<4294967296∧Crc.feed 4294967295 (bs.take k)=d) (fun _ iv=>n-(intOf iv).toNat)
 case atStart=>exact⟨0,4294967295,Nat.zero_le _,rfl,rfl,by decide,rfl⟩
 case round =>
  obtain⟨k,d,hk,rfl,rfl,hd,hfeed⟩:=hrel
  have Hfeed:=Lib.hid hfeed
  clear hfeed
  by_cases hlt:k<n
  ·obtain⟨x,hx⟩:∃x,bs[k]?=some x:=⟨_,List.getElem?_eq_getElem (by rw [Hn.out];exact hlt)⟩
   have hx8:=H8.out x (List.mem_of_getElem? hx)
   have hck:w.cell? ⟨b,off+k,none⟩=some (.int .u8 (x:Int)):=Hc.out k _ (by simp [octs,hx])
   have ex:bits .xor .u32 (d:Int) (x:Int)=((d ^^^ x:Nat):Int):=bits_xor_u32 d x hd (by omega)
   have hq:d ^^^ x<4294967296:=Nat.xor_lt_two_pow (n:=32) hd (by omega)
   have Hx:=Lib.hid hx
   clear hx
   generalize hy:d ^^^ x=y at *
   have Hy:=Lib.hid hy
   clear hy
   go_wp2_with fail
   go_loop [5,7] (fun nv jv=>∃(j m:Nat),j≤8∧jv=.int .i64 j∧nv=.int .u32 m∧m<4294967296∧Crc.bits (8-j) m=Crc.bits 8 y) (fun _ jv=>8-(intOf jv).toNat)
   case atStart=>exact⟨0,y,by decide,rfl,rfl,hq,rfl⟩
   case round =>
    obtain⟨j,m,hj,rfl,rfl,hm32,hb⟩:=hrel
    have Hb:=Lib.hid hb
    clear hb
    have ea:bits .and .u32 (m:Int) 1=((m % 2:Nat):Int):=by
     rw [← and1]
     exact bits_and_u32 m 1 hm32 (by decide)
    have exx:bits .xor .u32 ((m:Int) / 2) 2197175160=((m / 2 ^^^ Crc.poly:Nat):Int):=by
     have:=bits_xor_u32 (m / 2) 2197175160 (by omega) (by decide)
     rwa [show ((m / 2:Nat):Int)=(m:Int) / 2 by omega] at this
    have hl2:m / 2 ^^^ Crc.poly<4294967296:=Nat.xor_lt_two_pow (n:=32) (by omega) (by decide)
    by_cases hj8:j<8
    ·by_cases ho:m % 2=1
     ·have hoz:((m % 2:Nat):Int)=1:=by omega
      rw [hoz] at ea
      have Ho:=Lib.hid ho
      clear ho hoz
      go_wp2_with fail
      go_round
      case rel=>exact⟨j+1,m / 2 ^^^ Crc.poly,by omega,by go_num,rfl,hl2,by
       rw [← Hb.out,show 8-j=(8-(j+1))+1 by omega]
       show _=Crc.bits _ (Crc.bit m)
       unfold Crc.bit
       rw [if_pos Ho.out]⟩
      case measure=>simp [intOf];omega
     ·have hoz:((m % 2:Nat):Int)=0:=by omega
      rw [hoz] at ea
      have Ho:=Lib.hid ho
      clear ho hoz
      go_wp2_with fail
      go_round
      case rel=>exact⟨j+1,m / 2,by omega,by go_num,by congr 1,by omega,by
       rw [← Hb.out,show 8-j=(8-(j+1))+1 by omega]
       show _=Crc.bits _ (Crc.bit m)
       unfold Crc.bit
       rw [if_neg Ho.out,Nat.xor_zero]⟩
      case measure=>simp [intOf];omega
    ·obtain rfl:j=8:=by omega
     go_wp2_with fail
     go_round
     case rel=>exact⟨k+1,m,by omega,by go_num,rfl,hm32,by
      rw [List.take_add_one,Hx.out]
      show Crc.feed 4294967295 (bs.take k++[x])=m
      rw [feed_snoc,Hfeed.out,Hy.out]
      exact Hb.out.symm⟩
     case measure=>simp [intOf];omega
  ·have en:bits .xor .u32 IntKind.u32.max (d:Int)=((4294967295 ^^^ d:Nat):Int):=not_u32 d hd
   have He:Hid (crc bs=4294967295 ^^^ d):=Lib.hid (by
    unfold crc
    rw [← Hfeed.out,List.take_of_length_le (by rw [Hn.out];omega)])
   go_wp2_with fail
   go_ret
   exact⟨by rw [He.out];rfl,rfl⟩
set_option maxHeartbeats 400000 in
theorem rmore_empty (o:Option Addr) (c:Nat) (w:World):Calls Tryz.prog 81 #[.int .u32 0,.slice o 0 c] w fun e w'=>e=.returned (.int .u32 (crc []))∧w=w':=by
 have hsg:IntKind.u32.signed=false:=rfl
 have e0:bits .xor .u32 IntKind.u32.max 0=4294967295:=by decide +kernel
 have e1:bits .xor .u32 IntKind.u32.max 4294967295=0:=by decide +kernel
 have He:Hid (crc []=0):=Lib.hid (by decide +kernel)
 go_enter Tryz.func81,Tryz.ntmps81
 go_wp2_with fail
 go_loop [5,6] (fun dv iv=>dv=.int .u32 4294967295∧iv=.int .i64 0) (fun _ _=>0)
 case atStart=>exact⟨rfl,rfl⟩
 case round =>
  obtain⟨rfl,rfl⟩:=hrel
  go_wp2_with fail
  go_ret
  exact⟨by rw [He.out];rfl,rfl⟩
set_option maxHeartbeats 400000 in
theorem rsum_any {w:World}{v:Value}{bs:List Nat}(h:BytesAt w v bs) (hm:bs.length≤100000000000) (h8:∀x∈bs,x<256):Calls Tryz.prog 27 #[v] w fun e w'=>e=.returned (.int .u32 (crc bs))∧w=w':=by
 have HM:Hid (Calls Tryz.prog 81 #[.int .u32 0,v] w fun e w'=>e=.returned (.int .u32 (crc bs))∧w=w'):=Lib.hid (by
  rcases h.cases with ⟨o,c,rfl,h1,_⟩|⟨b,off,c,rfl,_,hc⟩
  ·have:bs=[]:=by
    cases bs with
    | nil=>rfl
    | cons _ _=>simp [octs] at h1
   subst this
   exact rmore_empty o c w
  ·exact rmore_cells b off c bs w hm hc h8)
 clear h h8
 generalize crc bs=r at *
 go_enter Tryz.func27,Tryz.ntmps27
 go_wp2_with (go_at_call 81;refine HM.out.mono ?_;rintro e w' ⟨rfl,rfl⟩)
 go_ret
 exact⟨rfl,rfl⟩
end Go.Proofs.YtbecggfbblnglaaGreatDoor
namespace Go.Proofs.YtbecggfbblnglaaGreatDoor
open Go Go.RowKit Go.Ix
def half:Array Value:=((List.range 16).map fun i=>Value.int .u32 (Crc.bits 4 i:Nat)).toArray
def HalfOk:Prop:=∀W:World,11≤W.heap.size→Calls Tryz.prog 156 #[] W fun e W'=>e=.returned (.agg half)∧Below W.heap.size W W'
theorem half_at {i:Nat}(h:i<16):half[i]?=some (.int .u32 (Crc.bits 4 i:Nat)):=by
 simp [half,h]
set_option maxRecDepth 20000 in
set_option maxHeartbeats 1000000 in
theorem more_cells (hH:HalfOk) (b off c:Nat) (bs:List Nat) (w:World) (hw:11≤w.heap.size) (hm:bs.length≤100000000000) (hc:CellsAt w b off (octs bs)) (h8:∀x∈bs,x<256) :
  Calls Tryz.prog 102 #[.int .u32 0,.slice (some ⟨b,off,none⟩) bs.length c] w fun e w'=>e=.returned (.int .u32 (crc bs))∧Below w.heap.size w w':=by
 have Hc:=Lib.hid hc
 have H8:=Lib.hid h8
 have HH:=Lib.hid (hH w hw)
 clear hc h8 hH
 generalize hn:bs.length=n at *
 have Hn:=Lib.hid hn
 clear hn
 have hsg:IntKind.u32.signed=false:=rfl
 have e0:bits .xor .u32 IntKind.u32.max 0=4294967295:=by decide +kernel
 have Hc1:∀W,Below w.heap.size w W→Hid (CellsAt W b off (octs bs)):=fun W hb=>Lib.hid (Hc.out.keep hb)
 obtain⟨t0,t1,t2,t3,t4,t5,t6,t7,t8,t9,t10,t11,t12,t13,t14,t15,ht⟩:∃t0 t1 t2 t3 t4 t5 t6 t7 t8 t9 t10 t11 t12 t13 t14 t15:Nat,half=#[.int .u32 (t0:Int),.int .u32 (t1:Int),.int .u32 (t2:Int),.int .u32 (t3:Int),.int .u32 (t4:Int),.int .u32 (t5:Int),.int .u32 (t6:Int),.int .u32 (t7:Int),.int .u32 (t8:Int),.int .u32 (t9:Int),.int .u32 (t10:Int),.int .u32 (t11:Int),.int .u32 (t12:Int),.int .u32 (t13:Int),.int .u32 (t14:Int),.int .u32 (t15:Int)]:=⟨_,_,_,_,_,_,_,_,_,_,_,_,_,_,_,_,rfl⟩
 have Ht:=Lib.hid ht
 rw [ht] at HH
 clear ht
 go_enter Tryz.func102,Tryz.ntmps102
 go_wp2_with (go_at_call 156;refine HH.out.mono ?_;rintro e w1 ⟨rfl,hb⟩;have B1:=Lib.hid hb;clear hb)
 have hsz1:=B1.out.size
 go_loopw [6,8,14] (fun dv xv iv wr=>∃(k d:Nat),k≤n∧iv=.int .i64 k∧dv=.int .u32 d∧d<4294967296∧Crc.feed 4294967295 (bs.take k)=d∧wr.heap[w1.heap.size]?=some (.cells half 322 (0,0))∧Below w.heap.size w wr) (fun _ _ iv _=>n-(intOf iv).toNat)
 case atStart =>
  refine⟨0,4294967295,Nat.zero_le _,rfl,rfl,by decide,rfl,?_,?_⟩
  ·rw [Ht.out]
   exact heap_alloc_new _ _
  ·exact B1.out.alloc hsz1 _
 case round =>
  obtain⟨k,d,hk,rfl,rfl,hd,hfeed,hhp,hbw⟩:=hrel
  have Hfeed:=Lib.hid hfeed
  have Hbw:=Lib.hid hbw
  have Hhp:=Lib.hid hhp
  clear hfeed hbw hhp
  by_cases hlt:k<n
  ·obtain⟨x,hx⟩:∃x,bs[k]?=some x:=⟨_,List.getElem?_eq_getElem (by rw [Hn.out];exact hlt)⟩
   have hx8:=H8.out x (List.mem_of_getElem? hx)
   have hck:wr.cell? ⟨b,off+k,none⟩=some (.int .u8 (x:Int)):=(Hc1 wr Hbw.out).out k _ (by simp [octs,hx])
   have ex:bits .xor .u32 (d:Int) (x:Int)=((d ^^^ x:Nat):Int):=bits_xor_u32 d x hd (by omega)
   have hq:d ^^^ x<4294967296:=Nat.xor_lt_two_pow (n:=32) hd (by omega)
   have Hx:=Lib.hid hx
   clear hx
   generalize hy:d ^^^ x=y at *
   have Hy:=Lib.hid hy
   clear hy
   have step:∀y:Nat,y<4294967296→∃a b:Nat,a<16∧bits .and .u32 (y:Int) 15=(a:Int)∧wr.cell? ⟨w1.heap.size,a,none⟩=some (.int .u32 (b:Int))∧bits .xor .u32 ((y:Int) / 16) (b:Int)=(Crc.bits 4 y:Nat)∧Crc.bits 4 y<4294967296:=fun y hy=>by
    refine⟨y % 16,Crc.bits 4 (y % 16),Nat.mod_lt _ (by decide),?_,?_,?_,bits_lt 4 hy⟩
    ·rw [← and15]
     exact bits_and_u32 y 15 hy (by decide)
    ·have h9:=half_at (i:=y % 16) (Nat.mod_lt _ (by decide))
     simp [World.cell?,Hhp.out,h9]
    ·have:=bits_xor_u32 (y / 16) (Crc.bits 4 (y % 16)) (by omega) (bits_lt 4 (by omega))
     rw [show ((y / 16:Nat):Int)=(y:Int) / 16 by omega] at this
     rw [this]
     exact congrArg _ (Crc.half_step y).symm
   obtain⟨a1,b1,ha1,ea1,hc1,ex1,hl1⟩:=step y hq
   obtain⟨a2,b2,ha2,ea2,hc2,ex2,hl2⟩:=step _ hl1
   have Hb8:Hid (Crc.bits 8 y=Crc.bits 4 (Crc.bits 4 y)):=Lib.hid (Crc.bits_add 4 4 y)
   clear step
   generalize Crc.bits 4 (Crc.bits 4 y)=y2 at *
   generalize Crc.bits 4 y=y1 at *
   go_wp2_with fail
   go_roundw
   case rel=>exact⟨k+1,y2,by omega,by go_num,rfl,hl2,by
    rw [List.take_add_one,Hx.out]
    show Crc.feed 4294967295 (bs.take k++[x])=y2
    rw [feed_snoc,Hfeed.out,Hy.out]
    exact Hb8.out,Hhp.out,Hbw.out⟩
   case measure=>simp [intOf];omega
  ·have en:bits .xor .u32 IntKind.u32.max (d:Int)=((4294967295 ^^^ d:Nat):Int):=not_u32 d hd
   have He:Hid (crc bs=4294967295 ^^^ d):=Lib.hid (by
    unfold crc
    rw [← Hfeed.out,List.take_of_length_le (by rw [Hn.out];omega)])
   go_wp2_with fail
   go_ret
   exact⟨by rw [He.out];rfl,Hbw.out⟩
set_option maxRecDepth 20000 in
set_option maxHeartbeats 1000000 in
theorem more_empty (hH:HalfOk) (o:Option Addr) (c:Nat) (w:World) (hw:11≤w.heap.size):Calls Tryz.prog 102 #[.int .u32 0,.slice o 0 c] w fun e w'=>e=.returned (.int .u32 (crc []))∧Below w.heap.size w w':=by
 have HH:=Lib.hid (hH w hw)
 clear hH
 have hsg:IntKind.u32.signed=false:=rfl
 have e0:bits .xor .u32 IntKind.u32.max 0=4294967295:=by decide +kernel
 have e1:bits .xor .u32 IntKind.u32.max 4294967295=0:=by decide +kernel
 have He:Hid (crc []=0):=Lib.hid (by decide +kernel)
 obtain⟨t0,t1,t2,t3,t4,t5,t6,t7,t8,t9,t10,t11,t12,t13,t14,t15,ht⟩:∃t0 t1 t2 t3 t4 t5 t6 t7 t8 t9 t10 t11 t12 t13 t14 t15:Nat,half=#[.int .u32 (t0:Int),.int .u32 (t1:Int),.int .u32 (t2:Int),.int .u32 (t3:Int),.int .u32 (t4:Int),.int .u32 (t5:Int),.int .u32 (t6:Int),.int .u32 (t7:Int),.int .u32 (t8:Int),.int .u32 (t9:Int),.int .u32 (t10:Int),.int .u32 (t11:Int),.int .u32 (t12:Int),.int .u32 (t13:Int),.int .u32 (t14:Int),.int .u32 (t15:Int)]:=⟨_,_,_,_,_,_,_,_,_,_,_,_,_,_,_,_,rfl⟩
 rw [ht] at HH
 clear ht
 go_enter Tryz.func102,Tryz.ntmps102
 go_wp2_with (go_at_call 156;refine HH.out.mono ?_;rintro e w1 ⟨rfl,hb⟩;have B1:=Lib.hid hb;clear hb)
 have hsz1:=B1.out.size
 go_loopw [6,14] (fun dv iv wr=>dv=.int .u32 4294967295∧iv=.int .i64 0∧Below w.heap.size w wr) (fun _ _ _=>0)
 case atStart =>
  refine⟨rfl,rfl,?_⟩
  exact B1.out.alloc hsz1 _
 case round =>
  obtain⟨rfl,rfl,hbw⟩:=hrel
  have Hbw:=Lib.hid hbw
  clear hbw
  go_wp2_with fail
  go_ret
  exact⟨by rw [He.out];rfl,Hbw.out⟩
set_option maxHeartbeats 400000 in
theorem sum_any (hH:HalfOk) {w:World}{v:Value}{bs:List Nat}(hw:11≤w.heap.size) (h:BytesAt w v bs) (hm:bs.length≤100000000000) (h8:∀x∈bs,x<256):Calls Tryz.prog 68 #[v] w fun e w'=>e=.returned (.int .u32 (crc bs))∧Below w.heap.size w w':=by
 have HM:Hid (Calls Tryz.prog 102 #[.int .u32 0,v] w fun e w'=>e=.returned (.int .u32 (crc bs))∧Below w.heap.size w w'):=Lib.hid (by
  rcases h.cases with ⟨o,c,rfl,h1,_⟩|⟨b,off,c,rfl,_,hc⟩
  ·have:bs=[]:=by
    cases bs with
    | nil=>rfl
    | cons _ _=>simp [octs] at h1
   subst this
   exact more_empty hH o c w hw
  ·exact more_cells hH b off c bs w hw hm hc h8)
 clear h h8 hH
 generalize crc bs=r at *
 go_enter Tryz.func68,Tryz.ntmps68
 go_wp2_with (go_at_call 102;refine HM.out.mono ?_;rintro e w' ⟨rfl,hb⟩;have Hb:=Lib.hid hb;clear hb)
 go_ret
 exact⟨rfl,Hb.out⟩
end Go.Proofs.YtbecggfbblnglaaGreatDoor
