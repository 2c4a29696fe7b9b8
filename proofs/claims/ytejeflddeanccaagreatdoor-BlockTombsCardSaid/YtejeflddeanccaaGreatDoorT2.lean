/- Contracts over this program. Their conditions: the slices read as the lists that are named, and lie within the sizes that are named. -/
import Derived.Test.YtejeflddeanccaaGreatDoorP0
import Derived.Deep.AppendLies
import Derived.OwnWalk
import Derived.Sort.Walk0
set_option linter.unusedSimpArgs false
set_option linter.unusedVariables false
set_option linter.deprecated false
set_option linter.unnecessarySimpa false
namespace Go.Proofs.YtejeflddeanccaaGreatDoor
open Go Go.RowKit Go.Ix
def Says (p:Prop) (e:Ending):Prop:=(e=.returned (.bool true)∧p)∨(e=.returned (.bool false)∧¬ p)
theorem name_no {s:Txt}{k:Nat}{c:UInt8}(hc:s[k]?=some c) (h:okAt k c=false):¬ NameOk s:=fun hn=>by
 have:=hn.2.2 k c hc
 rw [h] at this
 cases this
theorem name_step {s:Txt}{k:Nat}{c:UInt8}(hc:s[k]?=some c) (h:okAt k c=true) (hok:∀i c,i<k→s[i]?=some c→okAt i c=true):∀i c,i<k+1→s[i]?=some c→okAt i c=true:=fun i d hi hd=>by
 by_cases hik:i<k
 ·exact hok i d hik hd
 ·obtain rfl:i=k:=by omega
  rw [hc] at hd
  cases hd
  exact h
set_option maxRecDepth 20000 in
set_option maxHeartbeats 2000000 in
theorem rname_any (s:Txt) (w:World) (hm:s.length≤1000000000):Calls Tryz.prog 68 #[encStr s] w fun e w'=>Says (NameOk s) e∧w=w':=by
 by_cases h1:1≤s.length
 ·by_cases h2:s.length≤1024
  ·go_enter Tryz.func68,Tryz.ntmps68
   go_wp2_with fail
   go_loop [3] (fun iv=>∃k:Nat,k≤s.length∧iv=.int .i64 k∧∀i c,i<k→s[i]?=some c→okAt i c=true) (fun iv=>s.length-(intOf iv).toNat)
   case atStart=>exact⟨0,Nat.zero_le _,rfl,fun i c h=>by omega⟩
   case round =>
    obtain⟨k,hk,rfl,hok⟩:=hrel
    have Hok:=Lib.hid hok
    clear hok
    by_cases hlt:k<s.length
    ·obtain⟨c,hc⟩:∃c,s[k]?=some c:=⟨_,List.getElem?_eq_getElem hlt⟩
     have hget:∀h,(⟨s.toArray⟩:ByteArray)[k]'h=c:=fun h=>(List.getElem?_eq_some_iff.1 hc).2
     have Hc:=Lib.hid hc
     clear hc
     by_cases h0:k=0
     ·subst h0
      go_wp2_with fail
      all_goals (try (rename_i hx;simp at hx))
      all_goals first
       | (exfalso;omega)
       | (go_round
          case rel=>exact⟨0+1,by omega,by go_num,name_step Hc.out (by simp [okAt,letter,digit];omega) Hok.out⟩
          case measure=>simp [intOf];omega)
       | (go_ret;exact⟨.inr ⟨rfl,name_no Hc.out (by simp [okAt,letter,digit];omega)⟩,rfl⟩)
       | (go_ret
          refine⟨.inr ⟨rfl,name_no Hc.out ?_⟩,rfl⟩
          rename_i hy _ _ _
          simp at hy
          simp [okAt,letter,digit]
          omega)
     ·go_wp2_with fail
      all_goals (try (rename_i hx;simp at hx))
      all_goals first
       | (exfalso;omega)
       | (go_round
          case rel=>exact⟨k+1,by omega,by go_num,name_step Hc.out (by simp [okAt,letter,digit];omega) Hok.out⟩
          case measure=>simp [intOf];omega)
       | (go_ret;exact⟨.inr ⟨rfl,name_no Hc.out (by simp [okAt,letter,digit];omega)⟩,rfl⟩)
       | (go_ret
          refine⟨.inr ⟨rfl,name_no Hc.out ?_⟩,rfl⟩
          rename_i hy _ _ _
          simp at hy
          simp [okAt,letter,digit]
          omega)
    ·go_wp2_with fail
     go_ret
     exact⟨.inl ⟨rfl,h1,h2,fun i c hc=>Hok.out i c (by have:=(List.getElem?_eq_some_iff.1 hc).1;omega) hc⟩,rfl⟩
  ·go_enter Tryz.func68,Tryz.ntmps68
   go_wp2_with fail
   go_ret
   exact⟨.inr ⟨rfl,fun h=>h2 h.2.1⟩,rfl⟩
 ·go_enter Tryz.func68,Tryz.ntmps68
  go_wp2_with fail
  go_ret
  exact⟨.inr ⟨rfl,fun h=>h1 h.1⟩,rfl⟩
end Go.Proofs.YtejeflddeanccaaGreatDoor
namespace Go.Proofs.YtejeflddeanccaaGreatDoor
open Go Go.RowKit Go.Ix
structure Kept (K:Nat→Prop) (w w':World):Prop where
 os:w'.os=w.os
 tape:w'.tape=w.tape
 output:w'.output=w.output
 size:w.heap.size≤w'.heap.size
 block:∀k,K k→w'.heap[k]?=w.heap[k]?
variable {K K':Nat→Prop}{a w w' W:World}
theorem Kept.refl (K:Nat→Prop) (w:World):Kept K w w:=⟨rfl,rfl,rfl,Nat.le_refl _,fun _ _=>rfl⟩
theorem Kept.trans {b c:World}(h:Kept K a b) (k:Kept K b c):Kept K a c :=
 ⟨k.os.trans h.os,k.tape.trans h.tape,k.output.trans h.output,Nat.le_trans h.size k.size,fun i hi=>(k.block i hi).trans (h.block i hi)⟩
theorem Kept.mono (h:Kept K w w') (hK:∀k,K' k→K k):Kept K' w w':=⟨h.os,h.tape,h.output,h.size,fun k hk=>h.block k (hK k hk)⟩
theorem Kept.below (h:Kept K w w') {B:Nat}(hK:∀k,k<B→K k):Below B w w':=⟨h.os,h.tape,h.output,h.size,fun k hk=>h.block k (hK k hk)⟩
theorem Kept.of_below {B:Nat}(h:Below B w w') (hK:∀k,K k→k<B):Kept K w w':=⟨h.os,h.tape,h.output,h.size,fun k hk=>h.block k (hK k hk)⟩
theorem Kept.alloc (h:Kept K a w) (hK:∀k,K k→k<a.heap.size) (o:Obj):Kept K a (w.alloc o) :=
 h.trans ⟨rfl,rfl,rfl,by simp,fun k hk=>Below.heap_alloc _ _ _ (Nat.lt_of_lt_of_le (hK k hk) h.size)⟩
theorem Kept.drewN (h:Kept K a w) (q:Nat):Kept K a (w.drewN q):=h.trans ⟨rfl,rfl,rfl,Nat.le_refl _,fun _ _=>rfl⟩
theorem Kept.setCell (h:Kept K a w) {p:Addr}(hp:¬ K p.block) (u:Value):Kept K a (w.setCell p u) :=
 h.trans ⟨rfl,rfl,rfl,by simp [World.setCell],fun k hk=>Below.heap_setCell _ _ _ _ (fun e=>hp (e ▸ hk))⟩
theorem Kept.grown (h:Kept K a w) {row:Option Nat}(hg:w.grownBy w' row) (hK:∀k,K k→k<a.heap.size) (hr:∀k,row=some k→¬ K k):Kept K a w' :=
 h.trans ⟨hg.os,hg.tape,hg.output,hg.size,fun k hk=>hg.block k (Nat.lt_of_lt_of_le (hK k hk) h.size) (fun e=>hr k e.symm hk)⟩
theorem Kept.cell (h:Kept K w w') {p:Addr}(hp:K p.block):w'.cell? p=w.cell? p:=World.cell?_of_block (w:=w) (h.block p.block hp)
def Olds (w W:World):Prop:=w.heap.size≤W.heap.size∧∀k,k<w.heap.size→W.heap[k]?=w.heap[k]?
theorem Olds.refl (w:World):Olds w w:=⟨Nat.le_refl _,fun _ _=>rfl⟩
theorem Olds.of_below (h:Below w.heap.size w W):Olds w W:=⟨h.size,h.block⟩
theorem Olds.trans {a b c:World}(h:Olds a b) (k:Olds b c):Olds a c:=⟨Nat.le_trans h.1 k.1,fun i hi=>(k.2 i (Nat.lt_of_lt_of_le hi h.1)).trans (h.2 i hi)⟩
theorem Olds.alloc (w:World) (o:Obj):Olds w (w.alloc o):=Olds.of_below ((Below.refl _ _).alloc (Nat.le_refl _) _)
theorem Olds.drewN (w:World) (q:Nat):Olds w (w.drewN q):=⟨Nat.le_refl _,fun _ _=>rfl⟩
theorem Olds.cell (h:Olds w W) {a:Addr}{v:Value}(hc:w.cell? a=some v):W.cell? a=some v:=by
 rw [World.cell?_of_block (w:=w) (w':=W) (h.2 _ (cell_lt hc))]
 exact hc
theorem CellsAt.olds {b off:Nat}{vs:List Value}(h:CellsAt w b off vs) (hb:Olds w W):CellsAt W b off vs:=fun j v hv=>hb.cell (h j v hv)
theorem FlatAt.olds {v:Value}{n:Nat}{vs:List Value}(h:FlatAt w v n vs) (hb:Olds w W):FlatAt W v n vs:=by
 obtain⟨o,c,h1,h2,h3⟩:=h
 exact⟨o,c,h1,h2,fun hne=>by obtain⟨b,off,e,hc⟩:=h3 hne;exact⟨b,off,e,hc.olds hb⟩⟩
theorem EntAt.olds {u:Value×Value}{e:Ent}(h:EntAt w u e) (hb:Olds w W):EntAt W u e:=⟨FlatAt.olds h.1 hb,FlatAt.olds h.2 hb⟩
theorem EntsAt.olds {v:Value}{l:List Ent}(h:EntsAt w v l) (hb:Olds w W):EntsAt W v l:=by
 obtain⟨vs,h1,h2,h3⟩:=h
 exact⟨vs,h1,h2.olds hb,fun i u e hu he=>(h3 i u e hu he).olds hb⟩
theorem ownsRow_blocks {B e k:Nat}{v:Value}{n:Nat}{xs:List Value}(h:w.ownsRow B e k v n xs) (hb:∀g,v.ownBlock=some g→W.heap[g]?=w.heap[g]?):W.ownsRow B e k v n xs:=by
 obtain⟨h1,h2⟩:=h
 refine⟨h1,?_⟩
 rcases h2 with h2|⟨g,cap,cur,rfl,hb',hg,h3⟩
 ·exact .inl h2
 ·exact .inr ⟨g,cap,cur,rfl,hb',by rw [hb g rfl];exact hg,h3⟩
theorem ownsRow_block {B e k:Nat}{v:Value}{n:Nat}{xs:List Value}(h:w.ownsRow B e k v n xs) {g:Nat}(hg:v.ownBlock=some g):B≤g∧g<w.heap.size:=by
 rcases h.2 with ⟨rfl,_⟩|⟨g',cap,cur,rfl,hb,hh,_⟩
 ·cases hg
 ·cases hg
  refine⟨hb,?_⟩
  rcases Nat.lt_or_ge g' w.heap.size with h | h
  ·exact h
  ·rw [Array.getElem?_eq_none h] at hh;cases hh
theorem ownsRow_olds {B e k:Nat}{v:Value}{n:Nat}{xs:List Value}(h:w.ownsRow B e k v n xs) (hb:Olds w W):W.ownsRow B e k v n xs :=
 ownsRow_blocks h fun _ hg=>hb.2 _ (ownsRow_block h hg).2
theorem ownsRow_mono {B B' e k:Nat}{v:Value}{n:Nat}{xs:List Value}(h:w.ownsRow B e k v n xs) (hB:B'≤B):w.ownsRow B' e k v n xs:=by
 obtain⟨h1,h2⟩:=h
 refine⟨h1,?_⟩
 rcases h2 with h2|⟨g,cap,cur,e,hb',hg⟩
 ·exact .inl h2
 ·exact .inr ⟨g,cap,cur,e,by omega,hg⟩
theorem ownsRow_shape {B e k:Nat}{v:Value}{n:Nat}{xs:List Value}(h:w.ownsRow B e k v n xs):∃o c,v=.slice o n c∧(o=none→n=0∧c=0):=by
 rcases h.2 with ⟨e,h0⟩|⟨g,cap,cur,e,_⟩
 ·exact⟨none,0,by rw [e,h0],fun _=>⟨h0,rfl⟩⟩
 ·exact⟨_,_,e,fun e=>by cases e⟩
theorem ownsRow_cell {B e k g n c:Nat}{xs:List Value}(h:w.ownsRow B e k (.slice (some ⟨g,0,none⟩) n c) n xs):CellsAt w g 0 xs:=by
 intro j v hv
 rcases h.2 with ⟨e,_⟩|⟨g',cap,cur,e,_,hh,_,_,hs,ht⟩
 ·cases e
 ·simp only [Value.slice.injEq,Option.some.injEq,Addr.mk.injEq,and_true,true_and] at e
  obtain⟨rfl,rfl⟩:=e
  rw [← ht] at hv
  have hj:j<n * k:=by
   have:=(List.getElem?_eq_some_iff.1 hv).1
   rw [List.length_take] at this
   omega
  rw [List.getElem?_take_of_lt hj] at hv
  rw [Nat.zero_add]
  simp only [World.cell?,hh]
  simpa using hv
def octs (bs:List Nat):List Value:=bs.map fun (n:Nat)=>Value.int .u8 (n:Int)
theorem octs_append (a b:List Nat):octs (a++b)=octs a++octs b:=by simp [octs]
theorem octs_len (a:List Nat):(octs a).length=a.length:=by simp [octs]
def Row8 (w:World) (B:Nat) (v:Value) (bs:List Nat):Prop:=w.ownsRow B 5 1 v bs.length (octs bs)
def Free (K:Nat→Prop) (v:Value):Prop:=∀g,v.ownBlock=some g→¬ K g
theorem Tryz.info5:(Tryz.prog.info? 5).map (fun i=>(i.zero,i.size,i.bytes))=some (some (.int .u8 0),1,1):=by kernel_rfl
theorem cell_of_heap {w:World}{b i:Nat}{cs:Array Value}{ty:TypeId}{fr:Nat×Nat}(h:w.heap[b]?=some (.cells cs ty fr)):w.cell? ⟨b,i,none⟩=cs[i]?:=by simp [World.cell?,h]
end Go.Proofs.YtejeflddeanccaaGreatDoor
namespace Go.Proofs.YtejeflddeanccaaGreatDoor
open Go Go.RowKit Go.Ix
theorem lbl_cells {w:World}{b off:Nat}{l:List Lbl}(h:CellsAt w b off (l.flatMap lblCells)) {k:Nat}{y:Lbl}(hk:l[k]?=some y) :
  w.cell? ⟨b,off+k * 2,none⟩=some (encStr y.1)∧w.cell? ⟨b,off+k * 2+1,none⟩=some (encStr y.2) :=
 ⟨h.elem (k:=2) (i:=0) (fun _=>rfl) hk rfl,h.elem (k:=2) (i:=1) (fun _=>rfl) hk rfl⟩
def Rows2 (w:World) (o:Option Addr) (l:List Lbl):Prop:=l≠[]→∃b off,o=some ⟨b,off,none⟩∧CellsAt w b off (l.flatMap lblCells)
theorem LblsAt.rows {w:World}{v:Value}{l:List Lbl}(h:LblsAt w v l):∃o c,v=.slice o l.length c∧(o=none→c=0)∧Rows2 w o l:=by
 obtain⟨o,c,h1,h2,h3⟩:=h
 exact⟨o,c,h1,h2,fun hne=>h3 (fun e=>hne ((flat_ne (k:=2) (fun _=>rfl) (by decide)).1 e))⟩
theorem Rows2.at {w:World}{o:Option Addr}{l:List Lbl}(h:Rows2 w o l) {k:Nat}(hk:k<l.length) :
  ∃b off y1 y2,o=some ⟨b,off,none⟩∧l[k]?=some (y1,y2)∧w.cell? ⟨b,off+k * 2,none⟩=some (encStr y1)∧w.cell? ⟨b,off+k * 2+1,none⟩=some (encStr y2):=by
 obtain⟨b,off,e,hc⟩:=h (fun e=>by rw [e] at hk;simp at hk)
 have hy:l[k]?=some (l[k].1,l[k].2):=List.getElem?_eq_getElem hk
 obtain⟨h1,h2⟩:=lbl_cells hc hy
 exact⟨b,off,_,_,e,hy,h1,h2⟩
theorem Rows2.next {w:World}{b off:Nat}{l:List Lbl}(h:Rows2 w (some ⟨b,off,none⟩) l) {k:Nat}(hk:k<l.length) :
  ∃y1 y2,l[k]?=some (y1,y2)∧w.cell? ⟨b,off+k * 2,none⟩=some (encStr y1)∧w.cell? ⟨b,off+k * 2+1,none⟩=some (encStr y2):=by
 obtain⟨b',off',y1,y2,e,h⟩:=h.at hk
 cases e
 exact⟨y1,y2,h⟩
theorem Rows2.olds {w W:World}{o:Option Addr}{l:List Lbl}(h:Rows2 w o l) (hb:Olds w W):Rows2 W o l:=fun hne=>by
 obtain⟨b,off,e,hc⟩:=h hne
 exact⟨b,off,e,hc.olds hb⟩
set_option maxRecDepth 20000 in
set_option maxHeartbeats 2000000 in
theorem rtwice_rows (o:Option Addr) (c:Nat) (l:List Lbl) (w:World) (hm:l.length≤1000000000) (hc:Rows2 w o l):Calls Tryz.prog 69 #[.slice o l.length c] w fun e w'=>Says (Twice l) e∧∃q,w'=w.drewN q:=by
 have Hc:=Lib.hid hc
 clear hc
 generalize hn:l.length=n at *
 have Hn:=Lib.hid hn
 clear hn
 go_enter Tryz.func69,Tryz.ntmps69
 go_wp2_with fail
 go_loopw [3,4] (fun iv _ wr=>∃k q:Nat,k≤n∧iv=.int .i64 k∧wr=w.drewN q∧∀(i j:Nat) (x y:Lbl),i<k→j<i→l[i]?=some x→l[j]?=some y→x.1≠y.1) (fun iv _ _=>n-(intOf iv).toNat)
 case atStart=>exact⟨0,0,Nat.zero_le _,rfl,rfl,fun i j x y h=>by omega⟩
 case round =>
  obtain⟨k,q,hk,rfl,rfl,hno⟩:=hrel
  have Hno:=Lib.hid hno
  clear hno
  by_cases hlt:k<n
  ·obtain⟨b,off,x1,x2,rfl,hx,hx1,_⟩:=Hc.out.at (k:=k) (by rw [Hn.out];exact hlt)
   have Hx:=Lib.hid hx
   clear hx
   go_wp2_with fail
   go_loopw [4] (fun jv wr=>∃j q:Nat,j≤k∧jv=.int .i64 j∧wr=w.drewN q∧∀(i:Nat) (y:Lbl),i<j→l[i]?=some y→x1≠y.1) (fun jv _=>k-(intOf jv).toNat)
   case atStart=>exact⟨0,q,Nat.zero_le _,rfl,rfl,fun i y h=>by omega⟩
   case round =>
    obtain⟨j,q,hj,rfl,rfl,hno2⟩:=hrel
    have Hno2:=Lib.hid hno2
    clear hno2
    by_cases hlt2:j<k
    ·obtain⟨y1,y2,hy,hy1,_⟩:=Hc.out.next (k:=j) (by rw [Hn.out];omega)
     have Hy:=Lib.hid hy
     clear hy
     by_cases he:x1=y1
     ·subst he
      go_wp2_with fail
      go_quiet (fail)
      go_wp2_with fail
      go_ret
      exact⟨.inl ⟨rfl,k,j,_,_,hlt2,Hx.out,Hy.out,rfl⟩,_,World.drewN_drewN ..⟩
     ·have heb:(x1 == y1)=false:=by simpa using he
      have He:=Lib.hid he
      clear he
      go_wp2_with fail
      go_quiet (fail)
      go_wp2_with fail
      go_roundw
      case rel=>exact⟨j+1,_,by omega,by go_num,rfl,fun i y hi hiy=>by
       by_cases h:i<j
       ·exact Hno2.out i y h hiy
       ·obtain rfl:i=j:=by omega
        rw [Hy.out] at hiy
        cases hiy
        exact He.out⟩
      case measure=>simp [intOf];omega
    ·go_wp2_with fail
     go_roundw
     case rel=>exact⟨k+1,q,by omega,by go_num,rfl,fun i j' x y hi hj' hix hjy=>by
      by_cases h:i<k
      ·exact Hno.out i j' x y h hj' hix hjy
      ·obtain rfl:i=k:=by omega
       rw [Hx.out] at hix
       cases hix
       exact Hno2.out j' y (by omega) hjy⟩
     case measure=>simp [intOf];omega
  ·go_wp2_with fail
   go_ret
   refine⟨.inr ⟨rfl,?_⟩,q,rfl⟩
   rintro⟨i,j,x,y,hji,hx,hy,he⟩
   refine Hno.out i j x y ?_ hji hx hy he
   have h1:=(List.getElem?_eq_some_iff.1 hx).1
   rw [Hn.out] at h1
   omega
set_option maxRecDepth 20000 in
set_option maxHeartbeats 4000000 in
theorem rcheck_rows (o:Option Addr) (c:Nat) (l:List Lbl) (w:World) (hm:l.length≤1000000000) (hs:∀y∈l,y.1.length≤1000000000∧y.2.length≤1000000000) (hc:Rows2 w o l):Calls Tryz.prog 43 #[.slice o l.length c] w fun e w'=>e=.returned (.int .u16 (check l))∧∃q,w'=w.drewN q:=by
 have Hc:=Lib.hid hc
 have Hs:=Lib.hid hs
 have HT:∀q,Hid (Calls Tryz.prog 69 #[.slice o l.length c] (w.drewN q) fun e w'=>Says (Twice l) e∧∃q',w'=(w.drewN q).drewN q'):=fun q=>Lib.hid (rtwice_rows o c l _ hm (hc.olds (Olds.drewN w q)))
 clear hc hs
 generalize hn:l.length=n at *
 have Hn:=Lib.hid hn
 clear hn
 by_cases h64:64<n
 ·have Hr:Hid (check l=72):=Lib.hid (check_many (by rw [Hn.out];exact h64))
  go_enter Tryz.func43,Tryz.ntmps43
  go_wp2_with fail
  go_ret
  exact⟨by rw [Hr.out];rfl,0,rfl⟩
 ·go_enter Tryz.func43,Tryz.ntmps43
  go_wp2_with fail
  go_loopw [3,4] (fun iv _ wr=>∃k q:Nat,k≤n∧iv=.int .i64 k∧wr=w.drewN q∧∀(i:Nat) (x:Lbl),i<k→l[i]?=some x→LblOk x) (fun iv _ _=>n-(intOf iv).toNat)
  case atStart=>exact⟨0,0,Nat.zero_le _,rfl,rfl,fun i x h=>by omega⟩
  case round =>
   obtain⟨k,q,hk,rfl,rfl,hok⟩:=hrel
   have Hok:=Lib.hid hok
   clear hok
   by_cases hlt:k<n
   ·obtain⟨b,off,x1,x2,rfl,hx,hx1,hx2⟩:=Hc.out.at (k:=k) (by rw [Hn.out];exact hlt)
    obtain⟨hs1,hs2⟩:=Hs.out _ (List.mem_of_getElem? hx)
    have Hx:=Lib.hid hx
    clear hx
    have HN:=Lib.hid (rname_any x1 (w.drewN q) hs1)
    by_cases hlok:LblOk (x1,x2)
    ·have hne:x2.isEmpty=false:=by simpa using hlok.2.1
     have hle:x2.length≤1024:=hlok.2.2
     have Hlok:=Lib.hid hlok
     clear hlok
     go_wp2_with (go_at_call 68;refine HN.out.mono ?_;rintro e w' ⟨hsay,rfl⟩;rcases hsay with ⟨rfl,hname⟩|⟨rfl,hname⟩;rotate_left;exact absurd Hlok.out.1 hname)
     go_roundw
     case rel=>exact⟨k+1,q,by omega,by go_num,rfl,fun i x hi hix=>by
      by_cases h:i<k
      ·exact Hok.out i x h hix
      ·obtain rfl:i=k:=by omega
       rw [Hx.out] at hix
       cases hix
       exact Hlok.out⟩
     case measure=>simp [intOf];omega
    ·have Hr:Hid (check l=70):=Lib.hid (check_form (by rw [Hn.out];exact h64) (List.mem_of_getElem? Hx.out) hlok)
     have Hlok:=Lib.hid hlok
     clear hlok
     by_cases hv:x2=[]
     ·subst hv
      go_wp2_with (go_at_call 68;refine HN.out.mono ?_;rintro e w' ⟨hsay,rfl⟩;rcases hsay with ⟨rfl,hname⟩|⟨rfl,hname⟩)
      all_goals (go_ret;exact⟨by rw [Hr.out];rfl,q,rfl⟩)
     ·have hne:x2.isEmpty=false:=by simpa using hv
      have Hv:=Lib.hid hv
      clear hv
      by_cases hle:1024<x2.length
      ·go_wp2_with (go_at_call 68;refine HN.out.mono ?_;rintro e w' ⟨hsay,rfl⟩;rcases hsay with ⟨rfl,hname⟩|⟨rfl,hname⟩)
       all_goals (go_ret;exact⟨by rw [Hr.out];rfl,q,rfl⟩)
      ·have Hno:Hid (¬ NameOk x1):=Lib.hid (fun h=>Hlok.out ⟨h,Hv.out,by simpa using hle⟩)
       go_wp2_with (go_at_call 68;refine HN.out.mono ?_;rintro e w' ⟨hsay,rfl⟩;rcases hsay with ⟨rfl,hname⟩|⟨rfl,hname⟩;exact absurd hname Hno.out)
       all_goals (go_ret;exact⟨by rw [Hr.out];rfl,q,rfl⟩)
   ·have Hall:Hid (∀y∈l,LblOk y):=Lib.hid (fun y hy=>by
     obtain⟨i,hi⟩:=List.getElem?_of_mem hy
     have h1:=(List.getElem?_eq_some_iff.1 hi).1
     rw [Hn.out] at h1
     exact Hok.out i y (by omega) hi)
    by_cases htw:Twice l
    ·have Hr:Hid (check l=71):=Lib.hid (check_twice (by rw [Hn.out];exact h64) Hall.out htw)
     have Htw:=Lib.hid htw
     clear htw
     go_wp2_with (go_at_call 69;refine (HT q).out.mono ?_;rintro e w' ⟨hsay,q',rfl⟩;rcases hsay with ⟨rfl,hname⟩|⟨rfl,hname⟩;rotate_left;exact absurd Htw.out hname)
     go_ret
     exact⟨by rw [Hr.out];rfl,q+q',rfl⟩
    ·have Htw:=Lib.hid htw
     clear htw
     go_wp2_with (go_at_call 69;refine (HT q).out.mono ?_;rintro e w' ⟨hsay,q',rfl⟩;rcases hsay with ⟨rfl,hname⟩|⟨rfl,hname⟩;exact absurd hname Htw.out)
     go_loopw [6] (fun iv wr=>∃j q:Nat,iv=.int .i64 ((j:Int)+1)∧(j+1≤n∨j=0)∧wr=w.drewN q∧∀(i:Nat) (x y:Lbl),i<j→l[i]?=some x→l[i+1]?=some y→x.1<y.1) (fun iv _=>n-(intOf iv).toNat)
     case atStart=>exact⟨0,q+q',rfl,.inr rfl,rfl,fun i x y h=>by omega⟩
     case round =>
      obtain⟨j,q,rfl,hj,rfl,hasc⟩:=hrel
      have Hasc:=Lib.hid hasc
      clear hasc
      have hj9:j≤64:=by omega
      by_cases hlt:j+1<n
      ·obtain⟨b,off,x1,x2,rfl,hx,hx1,_⟩:=Hc.out.at (k:=j) (by rw [Hn.out];omega)
       obtain⟨y1,y2,hy,hy1,_⟩:=Hc.out.next (k:=j+1) (by rw [Hn.out];exact hlt)
       have Hx:=Lib.hid hx
       have Hy:=Lib.hid hy
       clear hx hy
       by_cases hxy:x1<y1
       ·have hbl:Op.bytesLess y1 x1=false:=by rw [bytesLess_eq];exact decide_eq_false (fun h=>List.lt_irrefl _ (List.lt_trans hxy h))
        have hbe:(y1 == x1)=false:=by
         rw [beq_eq_false_iff_ne]
         rintro rfl
         exact List.lt_irrefl _ hxy
        have Hxy:=Lib.hid hxy
        clear hxy
        go_wp2_with fail
        go_quiet (fail)
        go_wp2_with fail
        go_roundw
        case rel=>exact⟨j+1,_,by go_num,.inl (by omega),rfl,fun i x y hi hix hiy=>by
         by_cases h:i<j
         ·exact Hasc.out i x y h hix hiy
         ·obtain rfl:i=j:=by omega
          rw [Hx.out] at hix
          rw [Hy.out] at hiy
          cases hix
          cases hiy
          exact Hxy.out⟩
        case measure=>simp [intOf];omega
       ·have Hr:Hid (check l=70):=Lib.hid (check_next (by rw [Hn.out];exact h64) Hall.out Htw.out (fun h=>hxy (h j _ _ Hx.out Hy.out)))
        by_cases he:y1=x1
        ·subst he
         have hbe:(y1 == y1)=true:=by simp
         clear hxy
         go_wp2_with fail
         go_quiet (fail)
         go_wp2_with fail
         all_goals (go_ret;exact⟨by rw [Hr.out];rfl,_,World.drewN_drewN ..⟩)
        ·have hbl:Op.bytesLess y1 x1=true:=by
          rw [bytesLess_eq]
          refine decide_eq_true ?_
          rcases Line.tri (α:=Txt) y1 x1 with h | h | h
          ·exact h
          ·exact absurd h he
          ·exact absurd h hxy
         clear hxy he
         go_wp2_with fail
         go_quiet (fail)
         go_wp2_with fail
         all_goals (go_ret;exact⟨by rw [Hr.out];rfl,_,World.drewN_drewN ..⟩)
      ·have Hr:Hid (check l=0):=Lib.hid (check_ok (by rw [Hn.out];exact h64) Hall.out Htw.out (fun i x y hx hy=>Hasc.out i x y (by
        have:=(List.getElem?_eq_some_iff.1 hy).1
        rw [Hn.out] at this
        omega) hx hy))
       go_wp2_with fail
       go_ret
       exact⟨by rw [Hr.out];rfl,_,rfl⟩
end Go.Proofs.YtejeflddeanccaaGreatDoor
