/- Plain laws, no program. No conditions. -/
import Derived.Test.YtejeflddeanccaaGreatDoorProg
import Derived.WalkKit
import Derived.WalkSpells
import Derived.WalkLawsBesides
import Derived.Deep.QuietTactic
import Derived.BigQuiet
import Derived.Deep.LoopGhost
import Derived.Lib.Hide
import Derived.Lib.OwnBridge
import Derived.Sort.EncStr
import Derived.Laws.BitsLemmas
set_option linter.unusedSimpArgs false
set_option linter.unusedVariables false
set_option linter.deprecated false
set_option linter.unnecessarySimpa false
namespace Go.Ix
class Line (α:Type) where
 lt:α→α→Prop
 irrefl:∀a,¬ lt a a
 trans:∀a b c,lt a b→lt b c→lt a c
 tri:∀a b,lt a b∨a=b∨lt b a
open Line
variable {α:Type} [Line α]
def Rising (l:List α):Prop:=l.Pairwise lt
instance:Line Nat:=⟨(· < ·),fun _=>Nat.lt_irrefl _,fun _ _ _=>Nat.lt_trans,fun a b=>Nat.lt_trichotomy a b⟩
instance {β:Type} [Line β]:Line (α×β) where
 lt a b:=lt a.1 b.1∨(a.1=b.1∧lt a.2 b.2)
 irrefl a:=by rintro (h|⟨_,h⟩)<;>exact irrefl _ h
 trans a b c:=by
  rintro (h|⟨e,h⟩) (k|⟨e',k⟩)
  ·exact .inl (trans _ _ _ h k)
  ·exact .inl (e' ▸ h)
  ·exact .inl (e ▸ k)
  ·exact .inr ⟨e.trans e',trans _ _ _ h k⟩
 tri a b:=by
  obtain⟨a1,a2⟩:=a
  obtain⟨b1,b2⟩:=b
  rcases tri a1 b1 with h | rfl | h
  ·exact .inl (.inl h)
  ·rcases tri a2 b2 with h | rfl | h
   ·exact .inl (.inr ⟨rfl,h⟩)
   ·exact .inr (.inl rfl)
   ·exact .inr (.inr (.inr ⟨rfl,h⟩))
  ·exact .inr (.inr (.inl h))
def listLt:List α→List α→Prop
 | [],[]=>False
 | [],_ :: _=>True
 | _ :: _,[]=>False
 | a :: l,b :: m=>lt a b∨(a=b∧listLt l m)
theorem listLt_irrefl:∀l:List α,¬ listLt l l
 | []=>id
 | a :: l=>by rintro (h|⟨_,h⟩);exact irrefl _ h;exact listLt_irrefl l h
theorem listLt_trans:∀a b c:List α,listLt a b→listLt b c→listLt a c
 | _,[],[],_,h=>h.elim
 | [],[],_ :: _,h,_=>h.elim
 | [],_ :: _,[],_,h=>h.elim
 | [],_ :: _,_ :: _,_,_=>trivial
 | _ :: _,[],_ :: _,h,_=>h.elim
 | _ :: _,_ :: _,[],_,h=>h.elim
 | a :: l,b :: m,c :: r,h,k=>by
  rcases h with h|⟨rfl,h⟩<;>rcases k with k|⟨rfl,k⟩
  ·exact .inl (trans _ _ _ h k)
  ·exact .inl h
  ·exact .inl k
  ·exact .inr ⟨rfl,listLt_trans _ _ _ h k⟩
theorem listLt_tri:∀a b:List α,listLt a b∨a=b∨listLt b a
 | [],[]=>.inr (.inl rfl)
 | [],_ :: _=>.inl trivial
 | _ :: _,[]=>.inr (.inr trivial)
 | a :: l,b :: m=>by
  rcases tri a b with h | rfl | h
  ·exact .inl (.inl h)
  ·rcases listLt_tri l m with h | rfl | h
   ·exact .inl (.inr ⟨rfl,h⟩)
   ·exact .inr (.inl rfl)
   ·exact .inr (.inr (.inr ⟨rfl,h⟩))
  ·exact .inr (.inr (.inl h))
instance:Line (List α):=⟨listLt,listLt_irrefl,listLt_trans,listLt_tri⟩
end Go.Ix
namespace Go.Ix
open Line
abbrev Txt:=List UInt8
instance:Line Txt where
 lt a b:=a<b
 irrefl a:=List.lt_irrefl a
 trans a b c h k:=List.lt_trans h k
 tri a b:=by
  by_cases h:a<b
  ·exact .inl h
  ·by_cases k:b<a
   ·exact .inr (.inr k)
   ·exact .inr (.inl (List.le_antisymm (List.not_lt.1 k) (List.not_lt.1 h)))
def put (l:List Txt) (s:Txt):List Txt:=if s∈l then l else l.filter (fun z=>decide (z<s))++s :: l.filter (fun z=>decide (s<z))
def rise (zs:List Txt):List Txt:=zs.foldl put []
theorem mem_put {l:List Txt}{s x:Txt}:x∈put l s↔x∈l∨x=s:=by
 unfold put
 split
 ·rename_i h
  constructor
  ·exact .inl
  ·rintro (h' | rfl)
   ·exact h'
   ·exact h
 ·rename_i h
  simp only [List.mem_append,List.mem_filter,List.mem_cons,decide_eq_true_eq]
  constructor
  ·rintro (⟨h1,_⟩ | rfl|⟨h1,_⟩)
   ·exact .inl h1
   ·exact .inr rfl
   ·exact .inl h1
  ·rintro (h1 | rfl)
   ·rcases tri (α:=Txt) x s with h2 | rfl | h2
    ·exact .inl ⟨h1,h2⟩
    ·exact absurd h1 h
    ·exact .inr (.inr ⟨h1,h2⟩)
   ·exact .inr (.inl rfl)
theorem put_rising {l:List Txt}{s:Txt}(h:Rising l):Rising (put l s):=by
 unfold put
 split
 ·exact h
 ·unfold Rising at *
  rw [List.pairwise_append]
  refine⟨h.sublist List.filter_sublist,List.pairwise_cons.2 ⟨fun z hz=>?_,h.sublist List.filter_sublist⟩,fun a ha b hb=>?_⟩
  ·have h9:s<z:=by simpa using (List.mem_filter.1 hz).2
   exact h9
  ·have ha2:a<s:=by simpa using (List.mem_filter.1 ha).2
   rcases List.mem_cons.1 hb with rfl | hb
   ·exact ha2
   ·have hb2:s<b:=by simpa using (List.mem_filter.1 hb).2
    exact List.lt_trans ha2 hb2
theorem foldl_put (zs l:List Txt) (h:Rising l):Rising (zs.foldl put l)∧∀x,x∈zs.foldl put l↔x∈l∨x∈zs:=by
 induction zs generalizing l with
 | nil=>exact⟨h,fun x=>by simp⟩
 | cons z zs ih =>
  obtain⟨h1,h2⟩:=ih (put l z) (put_rising h)
  refine⟨h1,fun x=>?_⟩
  show x∈zs.foldl put (put l z)↔_
  rw [h2,mem_put,List.mem_cons,or_assoc]
def idx (l:List Txt) (s:Txt):Nat:=l.idxOf s
end Go.Ix
namespace Go.Ix
def low:Nat→Nat→List Nat
 | 0,_=>[]
 | k+1,n=>n % 256 :: low k (n / 256)
def back:List Nat→Nat
 | []=>0
 | b :: l=>b+256 * back l
theorem low_len:∀(k n:Nat),(low k n).length=k
 | 0,_=>rfl
 | k+1,n=>by simp [low,low_len k]
theorem low_lt:∀(k n:Nat),∀b∈low k n,b<256
 | 0,_,b,h=>by simp [low] at h
 | k+1,n,b,h=>by
  rcases List.mem_cons.1 h with rfl | h
  ·exact Nat.mod_lt _ (by decide)
  ·exact low_lt k _ b h
theorem back_low:∀(k n:Nat),back (low k n)=n % 256 ^ k
 | 0,n=>by simp [low,back,Nat.mod_one]
 | k+1,n=>by
  show n % 256+256 * back (low k (n / 256))=_
  rw [back_low k,Nat.pow_succ,Nat.mul_comm (256 ^ k) 256,Nat.mod_mul]
theorem back_lt:∀(l:List Nat),(∀b∈l,b<256)→back l<256 ^ l.length
 | [],_=>by simp [back]
 | b :: l,h=>by
  have h1:=h b (by simp)
  have h2:=back_lt l fun x hx=>h x (by simp [hx])
  show b+256 * back l<256 ^ (l.length+1)
  rw [Nat.pow_succ]
  omega
end Go.Ix
namespace Go.Crc
def poly:Nat:=0x82f63b78
def bit (n:Nat):Nat:=n / 2 ^^^ (if n % 2=1 then poly else 0)
def bits:Nat→Nat→Nat
 | 0,n=>n
 | k+1,n=>bits k (bit n)
theorem bits_add (k l n:Nat):bits (k+l) n=bits l (bits k n):=by
 induction k generalizing n with
 | zero=>rw [Nat.zero_add];rfl
 | succ k ih=>rw [Nat.succ_add];show bits (k+l) (bit n)=_;rw [ih];rfl
theorem xor_half (a b:Nat):(a ^^^ b) / 2=a / 2 ^^^ b / 2:=by
 have:=Nat.shiftRight_xor_distrib (a:=a) (b:=b) (i:=1)
 simpa [Nat.shiftRight_eq_div_pow] using this
theorem xor_odd (a b:Nat):(a ^^^ b) % 2=a % 2 ^^^ b % 2:=by
 have:=Nat.xor_mod_two_pow (a:=a) (b:=b) (n:=1)
 simpa using this
theorem bit_xor (a b:Nat):bit (a ^^^ b)=bit a ^^^ bit b:=by
 unfold bit
 rw [xor_half,xor_odd]
 rcases Nat.mod_two_eq_zero_or_one a with ha | ha<;>rcases Nat.mod_two_eq_zero_or_one b with hb | hb<;>rw [ha,hb]
 ·simp
 ·simp [Nat.xor_assoc]
 ·have e:(1 ^^^ 0:Nat)=1:=rfl
  rw [e,if_pos rfl,if_neg (by decide),Nat.xor_zero,Nat.xor_assoc,Nat.xor_assoc,Nat.xor_comm (b / 2)]
 ·rw [show (1 ^^^ 1:Nat)=0 from rfl,if_neg (by decide),if_pos rfl,Nat.xor_zero]
  rw [Nat.xor_assoc,← Nat.xor_assoc poly,Nat.xor_comm poly (b / 2),Nat.xor_assoc (b / 2),Nat.xor_self,Nat.xor_zero]
theorem bits_xor (k a b:Nat):bits k (a ^^^ b)=bits k a ^^^ bits k b:=by
 induction k generalizing a b with
 | zero=>rfl
 | succ k ih=>show bits k (bit (a ^^^ b))=_;rw [bit_xor,ih];rfl
theorem bit_even (m:Nat):bit (2 * m)=m:=by
 unfold bit
 rw [Nat.mul_mod_right,if_neg (by decide),Nat.xor_zero,Nat.mul_div_cancel_left _ (by decide)]
theorem bits_four (m:Nat):bits 4 (16 * m)=m:=by
 show bit (bit (bit (bit (16 * m))))=m
 rw [show 16 * m=2 * (2 * (2 * (2 * m))) by omega,bit_even,bit_even,bit_even,bit_even]
theorem split16 (n:Nat):n=(16 * (n / 16)) ^^^ (n % 16):=by
 have h:2 ^ 4 * (n / 16)+n % 16=n:=Nat.div_add_mod n 16
 have h2:=Nat.two_pow_add_eq_or_of_lt (i:=4) (b:=n % 16) (by omega) (n / 16)
 rw [h] at h2
 refine Nat.eq_of_testBit_eq fun j=>?_
 have h3:Nat.testBit n j=Nat.testBit (2 ^ 4 * (n / 16) ||| n % 16) j:=by rw [← h2]
 rw [h3,Nat.testBit_xor,Nat.testBit_or,show (16:Nat)=2 ^ 4 from rfl,Nat.testBit_two_pow_mul,Nat.testBit_mod_two_pow]
 by_cases hj:j<4
 ·simp [hj,show ¬ 4≤j by omega]
 ·simp [hj]
theorem half_step (n:Nat):bits 4 n=n / 16 ^^^ bits 4 (n % 16):=by
 conv=>lhs;rw [split16 n]
 rw [bits_xor,bits_four]
end Go.Crc
namespace Go.Ix
open Line
abbrev Lbl:=Txt×Txt
structure Plc where
 fr:Int
 til:Int
 num:Int
 pos:Int
 siz:Int
abbrev Ent:=List Lbl×List Plc
instance:Inhabited Plc:=⟨⟨0,0,0,0,0⟩⟩
def u64 (n:Int):Nat:=(n % 18446744073709551616).toNat
def nums (s:Txt):List Nat:=s.map UInt8.toNat
theorem nums_len (s:Txt):(nums s).length=s.length:=by simp [nums]
def textsL (l:List Lbl):List Txt:=l.flatMap fun y=>[y.1,y.2]
def texts (l:List Ent):List Txt:=l.flatMap fun e=>textsL e.1
def symbols (l:List Ent):List Txt:=rise (texts l)
def symPart (ss:List Txt):List Nat:=ss.flatMap fun s=>low 2 s.length++nums s
def lblPart (ss:List Txt) (y:Lbl):List Nat:=low 4 (idx ss y.1)++low 4 (idx ss y.2)
def plcPart (c:Plc):List Nat:=low 8 (u64 c.fr)++low 8 (u64 c.til)++low 2 (u64 c.num)++low 4 (u64 c.pos)++low 4 (u64 c.siz)
def entPart (ss:List Txt) (e:Ent):List Nat:=low 1 e.1.length++e.1.flatMap (lblPart ss)++low 4 e.2.length++e.2.flatMap plcPart
def seqsL (ss:List Txt) (i:Nat) (l:List Lbl):List ((Nat×Nat)×Nat):=l.map fun y=>((idx ss y.1,idx ss y.2),i)
def seqsFrom (ss:List Txt):Nat→List Ent→List ((Nat×Nat)×Nat)
 | _,[]=>[]
 | i,e :: l=>seqsL ss i e.1++seqsFrom ss (i+1) l
def seqs (ss:List Txt) (l:List Ent):List ((Nat×Nat)×Nat):=seqsFrom ss 0 l
def grp (q:List ((Nat×Nat)×Nat)) (p:Nat×Nat):List Nat:=(q.filter fun x=>x.1 == p).map (·.2)
def grid (n:Nat):List (Nat×Nat):=(List.range n).flatMap fun i=>(List.range n).map fun k=>(i,k)
def pairPart (of:Nat×Nat→List Nat) (p:Nat×Nat):List Nat:=low 4 p.1++low 4 p.2++low 4 (of p).length++(of p).flatMap fun i=>low 4 i
def pairs (n:Nat) (of:Nat×Nat→List Nat):List (Nat×Nat):=(grid n).filter fun p=>!(of p).isEmpty
def postPart (n:Nat) (of:Nat×Nat→List Nat):List Nat:=low 4 (pairs n of).length++(pairs n of).flatMap (pairPart of)
def magic:List Nat:=[66,71,73,88]
def body (l:List Ent):List Nat :=
 magic++low 4 (symbols l).length++symPart (symbols l)++low 4 l.length++l.flatMap (entPart (symbols l))++postPart (symbols l).length (grp (seqs (symbols l) l))
def get:List Lbl→Txt→Txt
 | [],_=>[]
 | y :: l,s=>if y.1=s then y.2 else get l s
def ofFrom (s v:Txt):Nat→List Ent→List Nat
 | _,[]=>[]
 | i,e :: l=>(if get e.1 s=v then [i] else [])++ofFrom s v (i+1) l
def ofL (l:List Ent) (s v:Txt):List Nat:=ofFrom s v 0 l
end Go.Ix
namespace Go.Proofs.YtejeflddeanccaaGreatDoor
open Go Go.RowKit Go.Ix
def CellsAt (w:World) (b off:Nat) (vs:List Value):Prop:=∀j v,vs[j]?=some v→w.cell? ⟨b,off+j,none⟩=some v
def FlatAt (w:World) (v:Value) (n:Nat) (vs:List Value):Prop :=
 ∃o c,v=.slice o n c∧(o=none→c=0)∧(vs≠[]→∃b off,o=some ⟨b,off,none⟩∧CellsAt w b off vs)
theorem cell_lt {w:World}{a:Addr}{v:Value}(h:w.cell? a=some v):a.block<w.heap.size:=by
 by_cases hlt:a.block<w.heap.size
 ·exact hlt
 ·have:w.heap[a.block]?=Option.none:=by simp;omega
  simp [World.cell?,this] at h
theorem CellsAt.keep {w w':World}{b off:Nat}{vs:List Value}(h:CellsAt w b off vs) (hb:Below w.heap.size w w'):CellsAt w' b off vs:=fun j v hv=>by
 have:=h j v hv
 rw [hb.cell (cell_lt this)]
 exact this
theorem FlatAt.keep {w w':World}{v:Value}{n:Nat}{vs:List Value}(h:FlatAt w v n vs) (hb:Below w.heap.size w w'):FlatAt w' v n vs:=by
 obtain⟨o,c,h1,h2,h3⟩:=h
 exact⟨o,c,h1,h2,fun hne=>by obtain⟨b,off,e,hc⟩:=h3 hne;exact⟨b,off,e,hc.keep hb⟩⟩
theorem flat_at {α:Type}{enc:α→List Value}{k:Nat}(hk:∀x,(enc x).length=k):∀(xs:List α) (j i:Nat) (x:α) (v:Value),xs[j]?=some x→(enc x)[i]?=some v→(xs.flatMap enc)[j * k+i]?=some v
 | [],j,i,x,v,h,_=>by simp at h
 | y :: xs,0,i,x,v,h,hv=>by
  simp at h
  subst h
  have hi:i<(enc y).length:=(List.getElem?_eq_some_iff.1 hv).1
  rw [List.flatMap_cons,Nat.zero_mul,Nat.zero_add,List.getElem?_append_left hi]
  exact hv
 | y :: xs,j+1,i,x,v,h,hv=>by
  have:=flat_at hk xs j i x v (by simpa using h) hv
  rw [List.flatMap_cons,List.getElem?_append_right (by rw [hk,Nat.add_mul];omega),hk,show (j+1) * k+i-k=j * k+i by rw [Nat.add_mul];omega]
  exact this
theorem flat_len {α:Type}{enc:α→List Value}{k:Nat}(hk:∀x,(enc x).length=k) (xs:List α):(xs.flatMap enc).length=xs.length * k:=by
 induction xs with
 | nil=>simp
 | cons x xs ih=>rw [List.flatMap_cons,List.length_append,hk,ih,List.length_cons,Nat.add_mul];omega
theorem CellsAt.elem {α:Type}{enc:α→List Value}{k:Nat}{w:World}{b off:Nat}{xs:List α}(h:CellsAt w b off (xs.flatMap enc)) (hk:∀x,(enc x).length=k) {j i:Nat}{x:α}{v:Value}(hj:xs[j]?=some x) (hv:(enc x)[i]?=some v):w.cell? ⟨b,off+j * k+i,none⟩=some v:=by
 have:=h _ _ (flat_at hk xs j i x v hj hv)
 rwa [← Nat.add_assoc] at this
def lblCells (y:Lbl):List Value:=[encStr y.1,encStr y.2]
def plcCells (c:Plc):List Value:=[.int .i64 c.fr,.int .i64 c.til,.int .i64 c.num,.int .i64 c.pos,.int .i64 c.siz]
def entCells (u:Value×Value):List Value:=[u.1,u.2]
def LblsAt (w:World) (v:Value) (l:List Lbl):Prop:=FlatAt w v l.length (l.flatMap lblCells)
def PlcsAt (w:World) (v:Value) (l:List Plc):Prop:=FlatAt w v l.length (l.flatMap plcCells)
def EntAt (w:World) (u:Value×Value) (e:Ent):Prop:=LblsAt w u.1 e.1∧PlcsAt w u.2 e.2
def EntsAt (w:World) (v:Value) (l:List Ent):Prop :=
 ∃vs:List (Value×Value),vs.length=l.length∧FlatAt w v l.length (vs.flatMap entCells)∧∀(i:Nat) (u:Value×Value) (e:Ent),vs[i]?=some u→l[i]?=some e→EntAt w u e
theorem LblsAt.keep {w w':World}{v:Value}{l:List Lbl}(h:LblsAt w v l) (hb:Below w.heap.size w w'):LblsAt w' v l:=FlatAt.keep h hb
theorem PlcsAt.keep {w w':World}{v:Value}{l:List Plc}(h:PlcsAt w v l) (hb:Below w.heap.size w w'):PlcsAt w' v l:=FlatAt.keep h hb
theorem EntAt.keep {w w':World}{u:Value×Value}{e:Ent}(h:EntAt w u e) (hb:Below w.heap.size w w'):EntAt w' u e:=⟨h.1.keep hb,h.2.keep hb⟩
theorem EntsAt.keep {w w':World}{v:Value}{l:List Ent}(h:EntsAt w v l) (hb:Below w.heap.size w w'):EntsAt w' v l:=by
 obtain⟨vs,h1,h2,h3⟩:=h
 exact⟨vs,h1,h2.keep hb,fun i u e hu he=>(h3 i u e hu he).keep hb⟩
theorem FlatAt.cases {w:World}{v:Value}{n:Nat}{vs:List Value}(h:FlatAt w v n vs) :
  (∃o c,v=.slice o n c∧vs=[]∧(o=none→c=0))∨(∃b off c,v=.slice (some ⟨b,off,none⟩) n c∧vs≠[]∧CellsAt w b off vs):=by
 obtain⟨o,c,h1,h2,h3⟩:=h
 by_cases hv:vs=[]
 ·exact .inl ⟨o,c,h1,hv,h2⟩
 ·obtain⟨b,off,rfl,hc⟩:=h3 hv
  exact .inr ⟨b,off,c,h1,hv,hc⟩
theorem flat_ne {α:Type}{enc:α→List Value}{k:Nat}(hk:∀x,(enc x).length=k) (hp:0<k) {xs:List α}:xs.flatMap enc=[]↔xs=[]:=by
 constructor
 ·intro h
  have:=flat_len hk xs
  rw [h] at this
  cases xs with
  | nil=>rfl
  | cons _ _ =>
   simp [Nat.add_mul] at this
   omega
 ·rintro rfl
  rfl
theorem LblsAt.cases {w:World}{v:Value}{l:List Lbl}(h:LblsAt w v l) :
  (∃o c,v=.slice o 0 c∧l=[]∧(o=none→c=0))∨(∃b off c,v=.slice (some ⟨b,off,none⟩) l.length c∧0<l.length∧CellsAt w b off (l.flatMap lblCells)):=by
 rcases FlatAt.cases h with ⟨o,c,h1,h2,h3⟩|⟨b,off,c,h1,h2,h3⟩
 ·rw [flat_ne (k:=2) (fun _=>rfl) (by decide)] at h2
  subst h2
  exact .inl ⟨o,c,h1,rfl,h3⟩
 ·refine .inr ⟨b,off,c,h1,?_,h3⟩
  rw [ne_eq,flat_ne (k:=2) (fun _=>rfl) (by decide)] at h2
  exact List.length_pos_iff.2 h2
theorem PlcsAt.cases {w:World}{v:Value}{l:List Plc}(h:PlcsAt w v l) :
  (∃o c,v=.slice o 0 c∧l=[]∧(o=none→c=0))∨(∃b off c,v=.slice (some ⟨b,off,none⟩) l.length c∧0<l.length∧CellsAt w b off (l.flatMap plcCells)):=by
 rcases FlatAt.cases h with ⟨o,c,h1,h2,h3⟩|⟨b,off,c,h1,h2,h3⟩
 ·rw [flat_ne (k:=5) (fun _=>rfl) (by decide)] at h2
  subst h2
  exact .inl ⟨o,c,h1,rfl,h3⟩
 ·refine .inr ⟨b,off,c,h1,?_,h3⟩
  rw [ne_eq,flat_ne (k:=5) (fun _=>rfl) (by decide)] at h2
  exact List.length_pos_iff.2 h2
theorem EntsAt.cases {w:World}{v:Value}{l:List Ent}(h:EntsAt w v l) :
  (∃o c,v=.slice o 0 c∧l=[]∧(o=none→c=0))∨
  (∃b off c,∃vs:List (Value×Value),v=.slice (some ⟨b,off,none⟩) l.length c∧0<l.length∧vs.length=l.length∧CellsAt w b off (vs.flatMap entCells)∧∀(i:Nat) (u:Value×Value) (e:Ent),vs[i]?=some u→l[i]?=some e→EntAt w u e):=by
 obtain⟨vs,hl,h,he⟩:=h
 rcases FlatAt.cases h with ⟨o,c,h1,h2,h3⟩|⟨b,off,c,h1,h2,h3⟩
 ·rw [flat_ne (k:=2) (fun _=>rfl) (by decide)] at h2
  subst h2
  have:l=[]:=List.eq_nil_of_length_eq_zero (by simpa using hl.symm)
  subst this
  exact .inl ⟨o,c,h1,rfl,h3⟩
 ·refine .inr ⟨b,off,c,vs,h1,?_,hl,h3,he⟩
  rw [ne_eq,flat_ne (k:=2) (fun _=>rfl) (by decide)] at h2
  rw [← hl]
  exact List.length_pos_iff.2 h2
theorem ret_bool {a b:Bool}(h:a=b):Ending.returned (.bool a)=.returned (.bool b):=by rw [h]
end Go.Proofs.YtejeflddeanccaaGreatDoor
namespace Go.Ix
open Line
def letter (c:Nat):Bool:=(decide (97≤c) && decide (c≤122)) || (decide (65≤c) && decide (c≤90)) || decide (c=95)
def digit (c:Nat):Bool:=decide (48≤c) && decide (c≤57)
def okAt (i:Nat) (c:UInt8):Bool:=letter c.toNat || (decide (i≠0) && digit c.toNat)
def NameOk (s:Txt):Prop:=1≤s.length∧s.length≤1024∧∀i c,s[i]?=some c→okAt i c=true
def LblOk (y:Lbl):Prop:=NameOk y.1∧y.2≠[]∧y.2.length≤1024
def Twice (l:List Lbl):Prop:=∃(i k:Nat) (a b:Lbl),k<i∧l[i]?=some a∧l[k]?=some b∧a.1=b.1
def Next (l:List Lbl):Prop:=∀(i:Nat) (a b:Lbl),l[i]?=some a→l[i+1]?=some b→a.1<b.1
open Classical in
noncomputable def check (l:List Lbl):Int :=
 if 64<l.length then 72 else if ∃y∈l,¬ LblOk y then 70 else if Twice l then 71 else if ¬ Next l then 70 else 0
theorem check_many {l:List Lbl}(h:64<l.length):check l=72:=if_pos h
theorem check_form {l:List Lbl}(h:¬ 64<l.length) {y:Lbl}(hy:y∈l) (hn:¬ LblOk y):check l=70:=by
 unfold check
 rw [if_neg h,if_pos ⟨y,hy,hn⟩]
theorem check_twice {l:List Lbl}(h:¬ 64<l.length) (hy:∀y∈l,LblOk y) (ht:Twice l):check l=71:=by
 unfold check
 rw [if_neg h,if_neg (by rintro⟨y,h1,h2⟩;exact h2 (hy y h1)),if_pos ht]
theorem check_next {l:List Lbl}(h:¬ 64<l.length) (hy:∀y∈l,LblOk y) (ht:¬ Twice l) (hn:¬ Next l):check l=70:=by
 unfold check
 rw [if_neg h,if_neg (by rintro⟨y,h1,h2⟩;exact h2 (hy y h1)),if_neg ht,if_pos hn]
theorem check_ok {l:List Lbl}(h:¬ 64<l.length) (hy:∀y∈l,LblOk y) (ht:¬ Twice l) (hn:Next l):check l=0:=by
 unfold check
 rw [if_neg h,if_neg (by rintro⟨y,h1,h2⟩;exact h2 (hy y h1)),if_neg ht,if_neg (by simpa using hn)]
theorem of_check {l:List Lbl}(h:check l=0):l.length≤64∧(∀y∈l,LblOk y)∧¬ Twice l∧Next l:=by
 unfold check at h
 split at h
 ·cases h
 ·rename_i h1
  split at h
  ·cases h
  ·rename_i h2
   split at h
   ·cases h
   ·rename_i h3
    split at h
    ·cases h
    ·rename_i h4
     refine⟨by omega,fun y hy=>?_,h3,by simpa using h4⟩
     by_cases ho:LblOk y
     ·exact ho
     ·exact absurd ⟨y,hy,ho⟩ h2
def lblLt (x y:Lbl):Prop:=x.1<y.1∨(x.1=y.1∧x.2<y.2)
open Classical in
noncomputable def cmpY (x y:Lbl):Int:=if lblLt x y then -1 else if x=y then 0 else 1
noncomputable def cmpL:List Lbl→List Lbl→Int
 | [],[]=>0
 | [],_ :: _=>-1
 | _ :: _,[]=>1
 | x :: a,y :: b=>if cmpY x y=0 then cmpL a b else cmpY x y
def far:Int:=9007199254740992
def PlcOk (c:Plc):Prop:=c.fr≤c.til∧ -far≤c.fr∧c.til≤far∧1≤c.num∧c.num≤120∧0≤c.pos∧c.pos≤2147483647∧0≤c.siz∧c.siz≤2147483647
def PlcAt (l:List Plc) (k:Nat):Prop:=∀c,l[k]?=some c→PlcOk c∧(0<k→∀d,l[k-1]?=some d→d.til<c.fr)
def PlcsOk (l:List Plc):Prop:=∀k,k<l.length→PlcAt l k
def EntOk (l:List Ent) (i:Nat):Prop:=∀e,l[i]?=some e→check e.1=0∧(0<i→∀d,l[i-1]?=some d→cmpL d.1 e.1<0)∧PlcsOk e.2
def May (l:List Ent):Prop:=l.length≤4096∧∀i,i<l.length→EntOk l i
open Classical in
noncomputable def enc (l:List Ent) (crc:List Nat→Nat):Option (List Nat):=if May l then some (body l++low 4 (crc (body l))) else none
end Go.Ix
namespace Go.Crc
def feed (d:Nat) (l:List Nat):Nat:=l.foldl (fun d x=>bits 8 (d ^^^ x)) d
def val:List Nat→Nat
 | []=>0
 | x :: l=>x ^^^ (256 * val l)
theorem bit_lt {n:Nat}(h:n<2 ^ 32):bit n<2 ^ 32:=by
 unfold bit
 refine Nat.xor_lt_two_pow (by omega) ?_
 split<;>decide
end Go.Crc
namespace Go.Ix
open Go
theorem bits_xor_u32 (a b:Nat) (ha:a<4294967296) (hb:b<4294967296):bits .xor .u32 (a:Int) (b:Int)=((a ^^^ b:Nat):Int):=by
 have hx:a ^^^ b<2 ^ 32:=Nat.xor_lt_two_pow (by omega) (by omega)
 have h1:(BitVec.ofInt 32 (a:Int)).toNat=a:=by
  rw [BitVec.ofInt_natCast,BitVec.toNat_ofNat]
  exact Nat.mod_eq_of_lt (by omega)
 have h2:(BitVec.ofInt 32 (b:Int)).toNat=b:=by
  rw [BitVec.ofInt_natCast,BitVec.toNat_ofNat]
  exact Nat.mod_eq_of_lt (by omega)
 show IntKind.u32.wrap ((BitVec.ofInt 32 (a:Int) ^^^ BitVec.ofInt 32 (b:Int)).toNat:Int)=_
 rw [BitVec.toNat_xor,h1,h2,IntKind.wrap_u32]
 omega
theorem wraps_u32 (n:Int) (h₀:0≤n) (h₁:n<2 ^ 32):IntKind.u32.wrap n=n:=by rw [IntKind.wrap_u32];omega
theorem bits_and_u32 (a b:Nat) (ha:a<4294967296) (hb:b<4294967296):bits .and .u32 (a:Int) (b:Int)=((a &&& b:Nat):Int) :=
 (bits_nat .u32 32 (by decide) wraps_u32 a b (by simpa using ha) (by simpa using hb)).1
theorem and15 (a:Nat):a &&& 15=a % 16:=Nat.and_two_pow_sub_one_eq_mod a 4
theorem and1 (a:Nat):a &&& 1=a % 2:=Nat.and_two_pow_sub_one_eq_mod a 1
def crc (l:List Nat):Nat:=4294967295 ^^^ Crc.feed 4294967295 l
theorem not_u32 (a:Nat) (ha:a<4294967296):bits .xor .u32 IntKind.u32.max (a:Int)=((4294967295 ^^^ a:Nat):Int):=bits_xor_u32 4294967295 a (by decide) ha
theorem feed_snoc (d:Nat) (l:List Nat) (x:Nat):Crc.feed d (l++[x])=Crc.bits 8 (Crc.feed d l ^^^ x):=by
 unfold Crc.feed
 rw [List.foldl_append]
 rfl
theorem bits_lt (k:Nat) {n:Nat}(h:n<2 ^ 32):Crc.bits k n<2 ^ 32:=by
 induction k generalizing n with
 | zero=>exact h
 | succ k ih=>exact ih (Crc.bit_lt h)
theorem feed_lt {d:Nat}(l:List Nat) (hd:d<2 ^ 32) (hl:∀x∈l,x<256):Crc.feed d l<2 ^ 32:=by
 induction l generalizing d with
 | nil=>exact hd
 | cons x l ih =>
  have hx:=hl x (by simp)
  exact ih (bits_lt 8 (Nat.xor_lt_two_pow hd (by omega))) fun y hy=>hl y (by simp [hy])
end Go.Ix
