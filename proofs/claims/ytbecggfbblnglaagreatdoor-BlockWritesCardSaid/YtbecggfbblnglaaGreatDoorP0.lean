/- Plain laws, no program. No conditions. -/
import Derived.Test.YtbecggfbblnglaaGreatDoorProg
import Derived.WalkKit
import Derived.WalkSpells
import Derived.WalkLawsBesides
import Derived.Deep.QuietTactic
import Derived.BigQuiet
import Derived.Deep.LoopGhost
import Derived.Lib.Hide
import Derived.Lib.OwnBridge
import Derived.Sort.EncStr
import Derived.Laws.BitsLemmas
import Derived.Laws.Bits64
set_option linter.unusedSimpArgs false
set_option linter.unusedVariables false
set_option linter.deprecated false
set_option linter.unnecessarySimpa false
namespace Go.Ix
class Line (α:Type) where
 lt:α→α→Prop
 irrefl:∀a,¬ lt a a
 trans:∀a b c,lt a b→lt b c→lt a c
 tri:∀a b,lt a b∨a=b∨lt b a
open Line
variable {α:Type} [Line α]
def Rising (l:List α):Prop:=l.Pairwise lt
theorem asymm {a b:α}(h:lt a b):¬ lt b a:=fun h'=>irrefl a (trans _ _ _ h h')
theorem rising_eq:∀{l m:List α},Rising l→Rising m→(∀x,x∈l↔x∈m)→l=m
 | [],[],_,_,_=>rfl
 | [],b :: m,_,_,h=>absurd ((h b).2 (by simp)) (by simp)
 | a :: l,[],_,_,h=>absurd ((h a).1 (by simp)) (by simp)
 | a :: l,b :: m,h1,h2,h=>by
  have p1:=List.pairwise_cons.1 h1
  have p2:=List.pairwise_cons.1 h2
  have hab:a=b:=by
   rcases List.mem_cons.1 ((h a).1 (by simp)) with e | e
   ·exact e
   ·rcases List.mem_cons.1 ((h b).2 (by simp)) with e' | e'
    ·exact e'.symm
    ·exact absurd (p2.1 a e) (asymm (p1.1 b e'))
  subst hab
  congr 1
  refine rising_eq p1.2 p2.2 fun x=>⟨fun hx=>?_,fun hx=>?_⟩
  ·rcases List.mem_cons.1 ((h x).1 (List.mem_cons_of_mem _ hx)) with e | e
   ·exact absurd (e ▸ p1.1 x hx) (irrefl _)
   ·exact e
  ·rcases List.mem_cons.1 ((h x).2 (List.mem_cons_of_mem _ hx)) with e | e
   ·exact absurd (e ▸ p2.1 x hx) (irrefl _)
   ·exact e
theorem rising_put {l r:List α}{x:α}(h:Rising (l++r)) (h1:∀z∈l,lt z x) (h2:∀z∈r,lt x z):Rising (l++x :: r):=by
 unfold Rising at *
 rw [List.pairwise_append] at h ⊢
 refine⟨h.1,List.pairwise_cons.2 ⟨h2,h.2.1⟩,fun a ha b hb=>?_⟩
 rcases List.mem_cons.1 hb with rfl | hb
 ·exact h1 a ha
 ·exact h.2.2 a ha b hb
theorem rising_drop {l:List α}{x:α}{k:Nat}(h:Rising l) (hk:∀z,l[k]?=some z→lt x z):∀z∈l.drop k,lt x z:=by
 intro z hz
 have hd:Rising (l.drop k):=List.Pairwise.sublist (List.drop_sublist _ _) h
 cases hl:l.drop k with
 | nil=>rw [hl] at hz;simp at hz
 | cons y t =>
  have hy:l[k]?=some y:=by
   have:(l.drop k)[0]?=some y:=by rw [hl];rfl
   simpa using this
  rw [hl] at hz hd
  rcases List.mem_cons.1 hz with rfl | hz
  ·exact hk _ hy
  ·exact trans _ _ _ (hk _ hy) ((List.pairwise_cons.1 hd).1 z hz)
theorem rising_inj {l:List α}(h:Rising l) {i j:Nat}{x:α}(hi:l[i]?=some x) (hj:l[j]?=some x):i=j:=by
 have key:∀{i j:Nat}{x:α},l[i]?=some x→l[j]?=some x→¬ i<j:=by
  intro i j x hi hj hlt
  obtain⟨h1,e1⟩:=List.getElem?_eq_some_iff.1 hi
  obtain⟨h2,e2⟩:=List.getElem?_eq_some_iff.1 hj
  have:=List.pairwise_iff_getElem.1 h i j h1 h2 hlt
  rw [e1,e2] at this
  exact irrefl _ this
 rcases Nat.lt_trichotomy i j with h1 | h1 | h1
 ·exact absurd h1 (key hi hj)
 ·exact h1
 ·exact absurd h1 (key hj hi)
instance:Line Nat:=⟨(· < ·),fun _=>Nat.lt_irrefl _,fun _ _ _=>Nat.lt_trans,fun a b=>Nat.lt_trichotomy a b⟩
instance {β:Type} [Line β]:Line (α×β) where
 lt a b:=lt a.1 b.1∨(a.1=b.1∧lt a.2 b.2)
 irrefl a:=by rintro (h|⟨_,h⟩)<;>exact irrefl _ h
 trans a b c:=by
  rintro (h|⟨e,h⟩) (k|⟨e',k⟩)
  ·exact .inl (trans _ _ _ h k)
  ·exact .inl (e' ▸ h)
  ·exact .inl (e ▸ k)
  ·exact .inr ⟨e.trans e',trans _ _ _ h k⟩
 tri a b:=by
  obtain⟨a1,a2⟩:=a
  obtain⟨b1,b2⟩:=b
  rcases tri a1 b1 with h | rfl | h
  ·exact .inl (.inl h)
  ·rcases tri a2 b2 with h | rfl | h
   ·exact .inl (.inr ⟨rfl,h⟩)
   ·exact .inr (.inl rfl)
   ·exact .inr (.inr (.inr ⟨rfl,h⟩))
  ·exact .inr (.inr (.inl h))
def listLt:List α→List α→Prop
 | [],[]=>False
 | [],_ :: _=>True
 | _ :: _,[]=>False
 | a :: l,b :: m=>lt a b∨(a=b∧listLt l m)
theorem listLt_irrefl:∀l:List α,¬ listLt l l
 | []=>id
 | a :: l=>by rintro (h|⟨_,h⟩);exact irrefl _ h;exact listLt_irrefl l h
theorem listLt_trans:∀a b c:List α,listLt a b→listLt b c→listLt a c
 | _,[],[],_,h=>h.elim
 | [],[],_ :: _,h,_=>h.elim
 | [],_ :: _,[],_,h=>h.elim
 | [],_ :: _,_ :: _,_,_=>trivial
 | _ :: _,[],_ :: _,h,_=>h.elim
 | _ :: _,_ :: _,[],_,h=>h.elim
 | a :: l,b :: m,c :: r,h,k=>by
  rcases h with h|⟨rfl,h⟩<;>rcases k with k|⟨rfl,k⟩
  ·exact .inl (trans _ _ _ h k)
  ·exact .inl h
  ·exact .inl k
  ·exact .inr ⟨rfl,listLt_trans _ _ _ h k⟩
theorem listLt_tri:∀a b:List α,listLt a b∨a=b∨listLt b a
 | [],[]=>.inr (.inl rfl)
 | [],_ :: _=>.inl trivial
 | _ :: _,[]=>.inr (.inr trivial)
 | a :: l,b :: m=>by
  rcases tri a b with h | rfl | h
  ·exact .inl (.inl h)
  ·rcases listLt_tri l m with h | rfl | h
   ·exact .inl (.inr ⟨rfl,h⟩)
   ·exact .inr (.inl rfl)
   ·exact .inr (.inr (.inr ⟨rfl,h⟩))
  ·exact .inr (.inr (.inl h))
instance:Line (List α):=⟨listLt,listLt_irrefl,listLt_trans,listLt_tri⟩
end Go.Ix
namespace Go.Ix
open Line
abbrev Txt:=List UInt8
instance:Line Txt where
 lt a b:=a<b
 irrefl a:=List.lt_irrefl a
 trans a b c h k:=List.lt_trans h k
 tri a b:=by
  by_cases h:a<b
  ·exact .inl h
  ·by_cases k:b<a
   ·exact .inr (.inr k)
   ·exact .inr (.inl (List.le_antisymm (List.not_lt.1 k) (List.not_lt.1 h)))
def put (l:List Txt) (s:Txt):List Txt:=if s∈l then l else l.filter (fun z=>decide (z<s))++s :: l.filter (fun z=>decide (s<z))
def rise (zs:List Txt):List Txt:=zs.foldl put []
theorem mem_put {l:List Txt}{s x:Txt}:x∈put l s↔x∈l∨x=s:=by
 unfold put
 split
 ·rename_i h
  constructor
  ·exact .inl
  ·rintro (h' | rfl)
   ·exact h'
   ·exact h
 ·rename_i h
  simp only [List.mem_append,List.mem_filter,List.mem_cons,decide_eq_true_eq]
  constructor
  ·rintro (⟨h1,_⟩ | rfl|⟨h1,_⟩)
   ·exact .inl h1
   ·exact .inr rfl
   ·exact .inl h1
  ·rintro (h1 | rfl)
   ·rcases tri (α:=Txt) x s with h2 | rfl | h2
    ·exact .inl ⟨h1,h2⟩
    ·exact absurd h1 h
    ·exact .inr (.inr ⟨h1,h2⟩)
   ·exact .inr (.inl rfl)
theorem put_rising {l:List Txt}{s:Txt}(h:Rising l):Rising (put l s):=by
 unfold put
 split
 ·exact h
 ·unfold Rising at *
  rw [List.pairwise_append]
  refine⟨h.sublist List.filter_sublist,List.pairwise_cons.2 ⟨fun z hz=>?_,h.sublist List.filter_sublist⟩,fun a ha b hb=>?_⟩
  ·have h9:s<z:=by simpa using (List.mem_filter.1 hz).2
   exact h9
  ·have ha2:a<s:=by simpa using (List.mem_filter.1 ha).2
   rcases List.mem_cons.1 hb with rfl | hb
   ·exact ha2
   ·have hb2:s<b:=by simpa using (List.mem_filter.1 hb).2
    exact List.lt_trans ha2 hb2
theorem foldl_put (zs l:List Txt) (h:Rising l):Rising (zs.foldl put l)∧∀x,x∈zs.foldl put l↔x∈l∨x∈zs:=by
 induction zs generalizing l with
 | nil=>exact⟨h,fun x=>by simp⟩
 | cons z zs ih =>
  obtain⟨h1,h2⟩:=ih (put l z) (put_rising h)
  refine⟨h1,fun x=>?_⟩
  show x∈zs.foldl put (put l z)↔_
  rw [h2,mem_put,List.mem_cons,or_assoc]
theorem rise_rising (zs:List Txt):Rising (rise zs):=(foldl_put zs [] List.Pairwise.nil).1
theorem mem_rise {zs:List Txt}{x:Txt}:x∈rise zs↔x∈zs:=by
 have:=(foldl_put zs [] List.Pairwise.nil).2 x
 simpa [rise] using this
theorem rise_snoc (zs:List Txt) (x:Txt):rise (zs++[x])=put (rise zs) x:=by
 unfold rise
 rw [List.foldl_append]
 rfl
theorem put_in {l:List Txt}{s:Txt}(h:s∈l):put l s=l:=if_pos h
theorem put_new {l:List Txt}{s:Txt}{k:Nat}(hr:Rising l) (h1:∀z∈l.take k,z<s) (h2:∀z,l[k]?=some z→s<z):put l s=(l.take k++[s])++l.drop k:=by
 have h3:=rising_drop hr (k:=k) h2
 refine rising_eq (put_rising hr) ?_ fun x=>?_
 ·rw [List.append_assoc]
  exact rising_put (l:=l.take k) (r:=l.drop k) (by rw [List.take_append_drop];exact hr) h1 h3
 ·rw [mem_put,List.mem_append,List.mem_append,List.mem_singleton]
  conv=>lhs;rw [← List.take_append_drop k l,List.mem_append]
  constructor
  ·rintro ((h | h) | h)
   ·exact .inl (.inl h)
   ·exact .inr h
   ·exact .inl (.inr h)
  ·rintro ((h | h) | h)
   ·exact .inl (.inl h)
   ·exact .inr h
   ·exact .inl (.inr h)
theorem take_step {l:List Txt}{x y:Txt}{k:Nat}(h:∀z∈l.take k,z<x) (hk:l[k]?=some y) (hxy:y<x):∀z∈l.take (k+1),z<x:=by
 intro z hz
 rw [List.take_add_one,hk] at hz
 rcases List.mem_append.1 hz with hz | hz
 ·exact h z hz
 ·simp at hz
  exact hz ▸ hxy
theorem sorted_rise {ss zs:List Txt}(hn:ss.Nodup) (hm:∀x,x∈ss↔x∈zs):ss.mergeSort (fun x y=>decide (x≤y))=rise zs:=by
 have tr:∀a b c:Txt,decide (a≤b)=true→decide (b≤c)=true→decide (a≤c)=true:=fun a b c h1 h2=>by
  simp only [decide_eq_true_eq] at *
  exact List.le_trans h1 h2
 have to:∀a b:Txt,(decide (a≤b) || decide (b≤a))=true:=fun a b=>by
  simp only [Bool.or_eq_true,decide_eq_true_eq]
  exact List.le_total a b
 have hs:=List.pairwise_mergeSort (le:=fun x y:Txt=>decide (x≤y)) tr to ss
 have hp:=List.mergeSort_perm ss (fun x y:Txt=>decide (x≤y))
 refine rising_eq ?_ (rise_rising zs) fun x=>?_
 ·have hn2:=hp.nodup_iff.2 hn
  unfold Rising
  refine (hs.and hn2).imp fun {a b} ⟨h1,h2⟩=>?_
  have h1:a≤b:=by simpa using h1
  rcases tri (α:=Txt) a b with h | h | h
  ·exact h
  ·exact absurd h h2
  ·exact absurd h (List.not_lt.2 h1)
 ·rw [hp.mem_iff,hm,mem_rise]
theorem rising_nodup {α:Type} [Line α] {l:List α}(h:Rising l):l.Nodup:=by
 refine List.Pairwise.imp (fun {a b} hab=>?_) h
 rintro rfl
 exact irrefl _ hab
def idx (l:List Txt) (s:Txt):Nat:=l.idxOf s
theorem idx_lt {l:List Txt}{s:Txt}(h:s∈l):idx l s<l.length:=List.idxOf_lt_length_of_mem h
theorem idx_at {l:List Txt}{s:Txt}(h:s∈l):l[idx l s]?=some s:=by
 have h1:=idx_lt h
 rw [List.getElem?_eq_getElem h1]
 exact congrArg some (List.getElem_idxOf h1)
theorem idx_eq {l:List Txt}(hr:Rising l) {s:Txt}{i:Nat}(h:l[i]?=some s):idx l s=i :=
 rising_inj hr (idx_at (List.mem_of_getElem? h)) h
end Go.Ix
namespace Go.Ix
def low:Nat→Nat→List Nat
 | 0,_=>[]
 | k+1,n=>n % 256 :: low k (n / 256)
theorem low_len:∀(k n:Nat),(low k n).length=k
 | 0,_=>rfl
 | k+1,n=>by simp [low,low_len k]
theorem low_lt:∀(k n:Nat),∀b∈low k n,b<256
 | 0,_,b,h=>by simp [low] at h
 | k+1,n,b,h=>by
  rcases List.mem_cons.1 h with rfl | h
  ·exact Nat.mod_lt _ (by decide)
  ·exact low_lt k _ b h
end Go.Ix
namespace Go.Crc
def poly:Nat:=0x82f63b78
def bit (n:Nat):Nat:=n / 2 ^^^ (if n % 2=1 then poly else 0)
def bits:Nat→Nat→Nat
 | 0,n=>n
 | k+1,n=>bits k (bit n)
theorem bits_add (k l n:Nat):bits (k+l) n=bits l (bits k n):=by
 induction k generalizing n with
 | zero=>rw [Nat.zero_add];rfl
 | succ k ih=>rw [Nat.succ_add];show bits (k+l) (bit n)=_;rw [ih];rfl
theorem xor_half (a b:Nat):(a ^^^ b) / 2=a / 2 ^^^ b / 2:=by
 have:=Nat.shiftRight_xor_distrib (a:=a) (b:=b) (i:=1)
 simpa [Nat.shiftRight_eq_div_pow] using this
theorem xor_odd (a b:Nat):(a ^^^ b) % 2=a % 2 ^^^ b % 2:=by
 have:=Nat.xor_mod_two_pow (a:=a) (b:=b) (n:=1)
 simpa using this
theorem bit_xor (a b:Nat):bit (a ^^^ b)=bit a ^^^ bit b:=by
 unfold bit
 rw [xor_half,xor_odd]
 rcases Nat.mod_two_eq_zero_or_one a with ha | ha<;>rcases Nat.mod_two_eq_zero_or_one b with hb | hb<;>rw [ha,hb]
 ·simp
 ·simp [Nat.xor_assoc]
 ·have e:(1 ^^^ 0:Nat)=1:=rfl
  rw [e,if_pos rfl,if_neg (by decide),Nat.xor_zero,Nat.xor_assoc,Nat.xor_assoc,Nat.xor_comm (b / 2)]
 ·rw [show (1 ^^^ 1:Nat)=0 from rfl,if_neg (by decide),if_pos rfl,Nat.xor_zero]
  rw [Nat.xor_assoc,← Nat.xor_assoc poly,Nat.xor_comm poly (b / 2),Nat.xor_assoc (b / 2),Nat.xor_self,Nat.xor_zero]
theorem bits_xor (k a b:Nat):bits k (a ^^^ b)=bits k a ^^^ bits k b:=by
 induction k generalizing a b with
 | zero=>rfl
 | succ k ih=>show bits k (bit (a ^^^ b))=_;rw [bit_xor,ih];rfl
theorem bit_even (m:Nat):bit (2 * m)=m:=by
 unfold bit
 rw [Nat.mul_mod_right,if_neg (by decide),Nat.xor_zero,Nat.mul_div_cancel_left _ (by decide)]
theorem bits_four (m:Nat):bits 4 (16 * m)=m:=by
 show bit (bit (bit (bit (16 * m))))=m
 rw [show 16 * m=2 * (2 * (2 * (2 * m))) by omega,bit_even,bit_even,bit_even,bit_even]
theorem split16 (n:Nat):n=(16 * (n / 16)) ^^^ (n % 16):=by
 have h:2 ^ 4 * (n / 16)+n % 16=n:=Nat.div_add_mod n 16
 have h2:=Nat.two_pow_add_eq_or_of_lt (i:=4) (b:=n % 16) (by omega) (n / 16)
 rw [h] at h2
 refine Nat.eq_of_testBit_eq fun j=>?_
 have h3:Nat.testBit n j=Nat.testBit (2 ^ 4 * (n / 16) ||| n % 16) j:=by rw [← h2]
 rw [h3,Nat.testBit_xor,Nat.testBit_or,show (16:Nat)=2 ^ 4 from rfl,Nat.testBit_two_pow_mul,Nat.testBit_mod_two_pow]
 by_cases hj:j<4
 ·simp [hj,show ¬ 4≤j by omega]
 ·simp [hj]
theorem half_step (n:Nat):bits 4 n=n / 16 ^^^ bits 4 (n % 16):=by
 conv=>lhs;rw [split16 n]
 rw [bits_xor,bits_four]
end Go.Crc
namespace Go.Ix
open Line
abbrev Lbl:=Txt×Txt
structure Plc where
 fr:Int
 til:Int
 num:Int
 pos:Int
 siz:Int
abbrev Ent:=List Lbl×List Plc
instance:Inhabited Plc:=⟨⟨0,0,0,0,0⟩⟩
def u64 (n:Int):Nat:=(n % 18446744073709551616).toNat
theorem u64_nat {n:Nat}(h:n<18446744073709551616):u64 (n:Int)=n:=by unfold u64;omega
def nums (s:Txt):List Nat:=s.map UInt8.toNat
theorem nums_len (s:Txt):(nums s).length=s.length:=by simp [nums]
def textsL (l:List Lbl):List Txt:=l.flatMap fun y=>[y.1,y.2]
def texts (l:List Ent):List Txt:=l.flatMap fun e=>textsL e.1
def symbols (l:List Ent):List Txt:=rise (texts l)
def symPart (ss:List Txt):List Nat:=ss.flatMap fun s=>low 2 s.length++nums s
def lblPart (ss:List Txt) (y:Lbl):List Nat:=low 4 (idx ss y.1)++low 4 (idx ss y.2)
def plcPart (c:Plc):List Nat:=low 8 (u64 c.fr)++low 8 (u64 c.til)++low 2 (u64 c.num)++low 4 (u64 c.pos)++low 4 (u64 c.siz)
def entPart (ss:List Txt) (e:Ent):List Nat:=low 1 e.1.length++e.1.flatMap (lblPart ss)++low 4 e.2.length++e.2.flatMap plcPart
def seqsL (ss:List Txt) (i:Nat) (l:List Lbl):List ((Nat×Nat)×Nat):=l.map fun y=>((idx ss y.1,idx ss y.2),i)
def seqsFrom (ss:List Txt):Nat→List Ent→List ((Nat×Nat)×Nat)
 | _,[]=>[]
 | i,e :: l=>seqsL ss i e.1++seqsFrom ss (i+1) l
def seqs (ss:List Txt) (l:List Ent):List ((Nat×Nat)×Nat):=seqsFrom ss 0 l
def grp (q:List ((Nat×Nat)×Nat)) (p:Nat×Nat):List Nat:=(q.filter fun x=>x.1 == p).map (·.2)
def grid (n:Nat):List (Nat×Nat):=(List.range n).flatMap fun i=>(List.range n).map fun k=>(i,k)
def pairPart (of:Nat×Nat→List Nat) (p:Nat×Nat):List Nat:=low 4 p.1++low 4 p.2++low 4 (of p).length++(of p).flatMap fun i=>low 4 i
def pairs (n:Nat) (of:Nat×Nat→List Nat):List (Nat×Nat):=(grid n).filter fun p=>!(of p).isEmpty
def postPart (n:Nat) (of:Nat×Nat→List Nat):List Nat:=low 4 (pairs n of).length++(pairs n of).flatMap (pairPart of)
def magic:List Nat:=[66,71,73,88]
def body (l:List Ent):List Nat :=
 magic++low 4 (symbols l).length++symPart (symbols l)++low 4 l.length++l.flatMap (entPart (symbols l))++postPart (symbols l).length (grp (seqs (symbols l) l))
theorem seqsFrom_snoc (ss:List Txt) (i:Nat) (l:List Ent) (e:Ent):seqsFrom ss i (l++[e])=seqsFrom ss i l++seqsL ss (i+l.length) e.1:=by
 induction l generalizing i with
 | nil=>simp [seqsFrom]
 | cons x l ih =>
  show seqsL ss i x.1++seqsFrom ss (i+1) (l++[e])=_
  rw [ih,← List.append_assoc,List.length_cons,show i+1+l.length=i+(l.length+1) by omega]
  rfl
theorem seqs_snoc (ss:List Txt) (l:List Ent) (e:Ent):seqs ss (l++[e])=seqs ss l++seqsL ss l.length e.1:=by
 unfold seqs
 rw [seqsFrom_snoc,Nat.zero_add]
theorem grp_snoc_same (q:List ((Nat×Nat)×Nat)) (p:Nat×Nat) (i:Nat):grp (q++[(p,i)]) p=grp q p++[i]:=by
 simp [grp,List.filter_append]
theorem grp_snoc_other (q:List ((Nat×Nat)×Nat)) {p r:Nat×Nat}(h:p≠r) (i:Nat):grp (q++[(p,i)]) r=grp q r:=by
 simp [grp,List.filter_append,h]
theorem grp_append (q r:List ((Nat×Nat)×Nat)) (p:Nat×Nat):grp (q++r) p=grp q p++grp r p:=by simp [grp,List.filter_append]
theorem mem_grid {n:Nat}{p:Nat×Nat}:p∈grid n↔p.1<n∧p.2<n:=by
 obtain⟨a,b⟩:=p
 simp [grid]
theorem range_rising (n:Nat):Rising (List.range n):=List.pairwise_lt_range
theorem grid_rising (n:Nat):Rising (grid n):=by
 unfold grid Rising
 refine List.pairwise_flatMap.2 ⟨fun i _=>?_,?_⟩
 ·refine List.pairwise_map.2 ((range_rising n).imp fun {a b} h=>?_)
  exact .inr ⟨rfl,h⟩
 ·refine (range_rising n).imp fun {a b} h x hx y hy=>?_
  obtain⟨k,_,rfl⟩:=List.mem_map.1 hx
  obtain⟨m,_,rfl⟩:=List.mem_map.1 hy
  exact .inl h
theorem pairs_rising (n:Nat) (of:Nat×Nat→List Nat):Rising (pairs n of):=(grid_rising n).sublist List.filter_sublist
theorem mem_pairs {n:Nat}{of:Nat×Nat→List Nat}{p:Nat×Nat}:p∈pairs n of↔(p.1<n∧p.2<n)∧of p≠[]:=by
 unfold pairs
 rw [List.mem_filter,mem_grid]
 simp
theorem grp_ne {q:List ((Nat×Nat)×Nat)}{p:Nat×Nat}:grp q p≠[]↔∃i,(p,i)∈q:=by
 unfold grp
 rw [ne_eq,List.map_eq_nil_iff,List.filter_eq_nil_iff]
 constructor
 ·intro h
  by_cases hn:∃i,(p,i)∈q
  ·exact hn
  ·exact absurd (fun x hx he=>hn ⟨x.2,by
    have:x.1=p:=by simpa using he
    rw [← this]
    exact hx⟩) h
 ·rintro⟨i,hi⟩ h
  exact h _ hi (by simp)
theorem seqsFrom_mem {ss:List Txt}{i:Nat}{l:List Ent}{x:(Nat×Nat)×Nat}(h:x∈seqsFrom ss i l):∃e∈l,∃y∈e.1,x.1=(idx ss y.1,idx ss y.2):=by
 induction l generalizing i with
 | nil=>simp [seqsFrom] at h
 | cons e l ih =>
  rcases List.mem_append.1 h with h | h
  ·obtain⟨y,hy,rfl⟩:=List.mem_map.1 h
   exact⟨e,by simp,y,hy,rfl⟩
  ·obtain⟨e',h1,h2⟩:=ih h
   exact⟨e',by simp [h1],h2⟩
theorem texts_mem {l:List Ent}{e:Ent}{y:Lbl}(he:e∈l) (hy:y∈e.1):y.1∈symbols l∧y.2∈symbols l:=by
 unfold symbols texts textsL
 rw [mem_rise,mem_rise,List.mem_flatMap,List.mem_flatMap]
 exact⟨⟨e,he,List.mem_flatMap.2 ⟨y,hy,by simp⟩⟩,⟨e,he,List.mem_flatMap.2 ⟨y,hy,by simp⟩⟩⟩
theorem seqs_lt {l:List Ent}{p:Nat×Nat}{i:Nat}(h:(p,i)∈seqs (symbols l) l):p.1<(symbols l).length∧p.2<(symbols l).length:=by
 obtain⟨e,he,y,hy,h1⟩:=seqsFrom_mem h
 obtain⟨h2,h3⟩:=texts_mem he hy
 simp only at h1
 subst h1
 exact⟨idx_lt h2,idx_lt h3⟩
theorem keys_pairs {l:List Ent}{ks:List (Nat×Nat)}(hr:Rising ks) (hm:∀p,p∈ks↔grp (seqs (symbols l) l) p≠[]):ks=pairs (symbols l).length (grp (seqs (symbols l) l)):=by
 refine rising_eq hr (pairs_rising _ _) fun p=>?_
 rw [hm,mem_pairs]
 constructor
 ·intro h
  obtain⟨i,hi⟩:=grp_ne.1 h
  exact⟨seqs_lt hi,h⟩
 ·exact fun h=>h.2
def get:List Lbl→Txt→Txt
 | [],_=>[]
 | y :: l,s=>if y.1=s then y.2 else get l s
def ofFrom (s v:Txt):Nat→List Ent→List Nat
 | _,[]=>[]
 | i,e :: l=>(if get e.1 s=v then [i] else [])++ofFrom s v (i+1) l
def ofL (l:List Ent) (s v:Txt):List Nat:=ofFrom s v 0 l
theorem ofFrom_snoc (s v:Txt) (i:Nat) (l:List Ent) (e:Ent):ofFrom s v i (l++[e])=ofFrom s v i l++(if get e.1 s=v then [i+l.length] else []):=by
 induction l generalizing i with
 | nil=>simp [ofFrom]
 | cons x l ih =>
  show (if get x.1 s=v then [i] else [])++ofFrom s v (i+1) (l++[e])=_
  rw [ih,← List.append_assoc,List.length_cons,show i+1+l.length=i+(l.length+1) by omega]
  rfl
theorem ofL_snoc (l:List Ent) (s v:Txt) (e:Ent):ofL (l++[e]) s v=ofL l s v++(if get e.1 s=v then [l.length] else []):=by
 unfold ofL
 rw [ofFrom_snoc,Nat.zero_add]
theorem get_none {l:List Lbl}{s:Txt}(h:∀y∈l,y.1≠s):get l s=[]:=by
 induction l with
 | nil=>rfl
 | cons y l ih =>
  show (if y.1=s then y.2 else get l s)=[]
  rw [if_neg (h y (by simp))]
  exact ih fun z hz=>h z (by simp [hz])
theorem grp_one {ss:List Txt}(hr:Rising ss) {l:List Lbl}(hn:(l.map (·.1)).Nodup) (hs:∀y∈l,y.1∈ss∧y.2∈ss) {s v:Txt}(h1:s∈ss) (h2:v∈ss) (hv:v≠[]) (i:Nat) :
  grp (seqsL ss i l) (idx ss s,idx ss v)=if get l s=v then [i] else []:=by
 have inj:∀{a b:Txt},a∈ss→b∈ss→idx ss a=idx ss b→a=b:=fun {a b} ha hb h=>by
  have q1:=idx_at ha
  have q2:=idx_at hb
  rw [h] at q1
  exact Option.some.inj (q1.symm.trans q2)
 induction l with
 | nil=>simp [seqsL,grp,get,Ne.symm hv]
 | cons y l ih =>
  have hn':=List.pairwise_cons.1 (show List.Pairwise (·≠·) (y.1 :: l.map (·.1)) from hn)
  have hy:=hs y (by simp)
  show grp ([((idx ss y.1,idx ss y.2),i)]++seqsL ss i l) _=_
  rw [grp_append,ih hn'.2 fun z hz=>hs z (by simp [hz])]
  show _=if (if y.1=s then y.2 else get l s)=v then [i] else []
  by_cases he:y.1=s
  ·have hnone:get l s=[]:=get_none fun z hz h=>hn'.1 z.1 (List.mem_map_of_mem hz) (he.trans h.symm)
   rw [if_pos he,hnone,if_neg (Ne.symm hv),List.append_nil]
   by_cases hv2:y.2=v
   ·rw [if_pos hv2,he,hv2]
    simp [grp]
   ·rw [if_neg hv2]
    have:¬ idx ss y.2=idx ss v:=fun h=>hv2 (inj hy.2 h2 h)
    simp [grp,this]
  ·rw [if_neg he]
   have:¬ idx ss y.1=idx ss s:=fun h=>he (inj hy.1 h1 h)
   simp [grp,this]
theorem grp_ofFrom {ss:List Txt}(hr:Rising ss) {l:List Ent}(hn:∀e∈l,(e.1.map (·.1)).Nodup) (hs:∀e∈l,∀y∈e.1,y.1∈ss∧y.2∈ss) {s v:Txt}(h1:s∈ss) (h2:v∈ss) (hv:v≠[]) (i:Nat) :
  grp (seqsFrom ss i l) (idx ss s,idx ss v)=ofFrom s v i l:=by
 induction l generalizing i with
 | nil=>rfl
 | cons e l ih =>
  show grp (seqsL ss i e.1++seqsFrom ss (i+1) l) _=(if get e.1 s=v then [i] else [])++ofFrom s v (i+1) l
  rw [grp_append,grp_one hr (hn e (by simp)) (hs e (by simp)) h1 h2 hv,ih (fun e' h=>hn e' (by simp [h])) (fun e' h=>hs e' (by simp [h]))]
theorem grp_of {l:List Ent}(hn:∀e∈l,(e.1.map (·.1)).Nodup) {i k:Nat}{s v:Txt}(h1:(symbols l)[i]?=some s) (h2:(symbols l)[k]?=some v) (hv:v≠[]):ofL l s v=grp (seqs (symbols l) l) (i,k):=by
 have hr:Rising (symbols l):=rise_rising _
 rw [← idx_eq hr h1,← idx_eq hr h2]
 exact (grp_ofFrom hr hn (fun e he y hy=>texts_mem he hy) (List.mem_of_getElem? h1) (List.mem_of_getElem? h2) hv 0).symm
end Go.Ix
namespace Go.Proofs.YtbecggfbblnglaaGreatDoor
open Go Go.RowKit Go.Ix
def CellsAt (w:World) (b off:Nat) (vs:List Value):Prop:=∀j v,vs[j]?=some v→w.cell? ⟨b,off+j,none⟩=some v
def FlatAt (w:World) (v:Value) (n:Nat) (vs:List Value):Prop :=
 ∃o c,v=.slice o n c∧(o=none→c=0)∧(vs≠[]→∃b off,o=some ⟨b,off,none⟩∧CellsAt w b off vs)
theorem cell_lt {w:World}{a:Addr}{v:Value}(h:w.cell? a=some v):a.block<w.heap.size:=by
 by_cases hlt:a.block<w.heap.size
 ·exact hlt
 ·have:w.heap[a.block]?=Option.none:=by simp;omega
  simp [World.cell?,this] at h
theorem CellsAt.keep {w w':World}{b off:Nat}{vs:List Value}(h:CellsAt w b off vs) (hb:Below w.heap.size w w'):CellsAt w' b off vs:=fun j v hv=>by
 have:=h j v hv
 rw [hb.cell (cell_lt this)]
 exact this
theorem FlatAt.keep {w w':World}{v:Value}{n:Nat}{vs:List Value}(h:FlatAt w v n vs) (hb:Below w.heap.size w w'):FlatAt w' v n vs:=by
 obtain⟨o,c,h1,h2,h3⟩:=h
 exact⟨o,c,h1,h2,fun hne=>by obtain⟨b,off,e,hc⟩:=h3 hne;exact⟨b,off,e,hc.keep hb⟩⟩
theorem flat_at {α:Type}{enc:α→List Value}{k:Nat}(hk:∀x,(enc x).length=k):∀(xs:List α) (j i:Nat) (x:α) (v:Value),xs[j]?=some x→(enc x)[i]?=some v→(xs.flatMap enc)[j * k+i]?=some v
 | [],j,i,x,v,h,_=>by simp at h
 | y :: xs,0,i,x,v,h,hv=>by
  simp at h
  subst h
  have hi:i<(enc y).length:=(List.getElem?_eq_some_iff.1 hv).1
  rw [List.flatMap_cons,Nat.zero_mul,Nat.zero_add,List.getElem?_append_left hi]
  exact hv
 | y :: xs,j+1,i,x,v,h,hv=>by
  have:=flat_at hk xs j i x v (by simpa using h) hv
  rw [List.flatMap_cons,List.getElem?_append_right (by rw [hk,Nat.add_mul];omega),hk,show (j+1) * k+i-k=j * k+i by rw [Nat.add_mul];omega]
  exact this
theorem flat_len {α:Type}{enc:α→List Value}{k:Nat}(hk:∀x,(enc x).length=k) (xs:List α):(xs.flatMap enc).length=xs.length * k:=by
 induction xs with
 | nil=>simp
 | cons x xs ih=>rw [List.flatMap_cons,List.length_append,hk,ih,List.length_cons,Nat.add_mul];omega
theorem CellsAt.elem {α:Type}{enc:α→List Value}{k:Nat}{w:World}{b off:Nat}{xs:List α}(h:CellsAt w b off (xs.flatMap enc)) (hk:∀x,(enc x).length=k) {j i:Nat}{x:α}{v:Value}(hj:xs[j]?=some x) (hv:(enc x)[i]?=some v):w.cell? ⟨b,off+j * k+i,none⟩=some v:=by
 have:=h _ _ (flat_at hk xs j i x v hj hv)
 rwa [← Nat.add_assoc] at this
def lblCells (y:Lbl):List Value:=[encStr y.1,encStr y.2]
def plcCells (c:Plc):List Value:=[.int .i64 c.fr,.int .i64 c.til,.int .i64 c.num,.int .i64 c.pos,.int .i64 c.siz]
def entCells (u:Value×Value):List Value:=[u.1,u.2]
def LblsAt (w:World) (v:Value) (l:List Lbl):Prop:=FlatAt w v l.length (l.flatMap lblCells)
def PlcsAt (w:World) (v:Value) (l:List Plc):Prop:=FlatAt w v l.length (l.flatMap plcCells)
def EntAt (w:World) (u:Value×Value) (e:Ent):Prop:=LblsAt w u.1 e.1∧PlcsAt w u.2 e.2
def EntsAt (w:World) (v:Value) (l:List Ent):Prop :=
 ∃vs:List (Value×Value),vs.length=l.length∧FlatAt w v l.length (vs.flatMap entCells)∧∀(i:Nat) (u:Value×Value) (e:Ent),vs[i]?=some u→l[i]?=some e→EntAt w u e
theorem LblsAt.keep {w w':World}{v:Value}{l:List Lbl}(h:LblsAt w v l) (hb:Below w.heap.size w w'):LblsAt w' v l:=FlatAt.keep h hb
theorem PlcsAt.keep {w w':World}{v:Value}{l:List Plc}(h:PlcsAt w v l) (hb:Below w.heap.size w w'):PlcsAt w' v l:=FlatAt.keep h hb
theorem EntAt.keep {w w':World}{u:Value×Value}{e:Ent}(h:EntAt w u e) (hb:Below w.heap.size w w'):EntAt w' u e:=⟨h.1.keep hb,h.2.keep hb⟩
theorem EntsAt.keep {w w':World}{v:Value}{l:List Ent}(h:EntsAt w v l) (hb:Below w.heap.size w w'):EntsAt w' v l:=by
 obtain⟨vs,h1,h2,h3⟩:=h
 exact⟨vs,h1,h2.keep hb,fun i u e hu he=>(h3 i u e hu he).keep hb⟩
theorem FlatAt.cases {w:World}{v:Value}{n:Nat}{vs:List Value}(h:FlatAt w v n vs) :
  (∃o c,v=.slice o n c∧vs=[]∧(o=none→c=0))∨(∃b off c,v=.slice (some ⟨b,off,none⟩) n c∧vs≠[]∧CellsAt w b off vs):=by
 obtain⟨o,c,h1,h2,h3⟩:=h
 by_cases hv:vs=[]
 ·exact .inl ⟨o,c,h1,hv,h2⟩
 ·obtain⟨b,off,rfl,hc⟩:=h3 hv
  exact .inr ⟨b,off,c,h1,hv,hc⟩
theorem flat_ne {α:Type}{enc:α→List Value}{k:Nat}(hk:∀x,(enc x).length=k) (hp:0<k) {xs:List α}:xs.flatMap enc=[]↔xs=[]:=by
 constructor
 ·intro h
  have:=flat_len hk xs
  rw [h] at this
  cases xs with
  | nil=>rfl
  | cons _ _ =>
   simp [Nat.add_mul] at this
   omega
 ·rintro rfl
  rfl
theorem LblsAt.cases {w:World}{v:Value}{l:List Lbl}(h:LblsAt w v l) :
  (∃o c,v=.slice o 0 c∧l=[]∧(o=none→c=0))∨(∃b off c,v=.slice (some ⟨b,off,none⟩) l.length c∧0<l.length∧CellsAt w b off (l.flatMap lblCells)):=by
 rcases FlatAt.cases h with ⟨o,c,h1,h2,h3⟩|⟨b,off,c,h1,h2,h3⟩
 ·rw [flat_ne (k:=2) (fun _=>rfl) (by decide)] at h2
  subst h2
  exact .inl ⟨o,c,h1,rfl,h3⟩
 ·refine .inr ⟨b,off,c,h1,?_,h3⟩
  rw [ne_eq,flat_ne (k:=2) (fun _=>rfl) (by decide)] at h2
  exact List.length_pos_iff.2 h2
theorem PlcsAt.cases {w:World}{v:Value}{l:List Plc}(h:PlcsAt w v l) :
  (∃o c,v=.slice o 0 c∧l=[]∧(o=none→c=0))∨(∃b off c,v=.slice (some ⟨b,off,none⟩) l.length c∧0<l.length∧CellsAt w b off (l.flatMap plcCells)):=by
 rcases FlatAt.cases h with ⟨o,c,h1,h2,h3⟩|⟨b,off,c,h1,h2,h3⟩
 ·rw [flat_ne (k:=5) (fun _=>rfl) (by decide)] at h2
  subst h2
  exact .inl ⟨o,c,h1,rfl,h3⟩
 ·refine .inr ⟨b,off,c,h1,?_,h3⟩
  rw [ne_eq,flat_ne (k:=5) (fun _=>rfl) (by decide)] at h2
  exact List.length_pos_iff.2 h2
theorem EntsAt.cases {w:World}{v:Value}{l:List Ent}(h:EntsAt w v l) :
  (∃o c,v=.slice o 0 c∧l=[]∧(o=none→c=0))∨
  (∃b off c,∃vs:List (Value×Value),v=.slice (some ⟨b,off,none⟩) l.length c∧0<l.length∧vs.length=l.length∧CellsAt w b off (vs.flatMap entCells)∧∀(i:Nat) (u:Value×Value) (e:Ent),vs[i]?=some u→l[i]?=some e→EntAt w u e):=by
 obtain⟨vs,hl,h,he⟩:=h
 rcases FlatAt.cases h with ⟨o,c,h1,h2,h3⟩|⟨b,off,c,h1,h2,h3⟩
 ·rw [flat_ne (k:=2) (fun _=>rfl) (by decide)] at h2
  subst h2
  have:l=[]:=List.eq_nil_of_length_eq_zero (by simpa using hl.symm)
  subst this
  exact .inl ⟨o,c,h1,rfl,h3⟩
 ·refine .inr ⟨b,off,c,vs,h1,?_,hl,h3,he⟩
  rw [ne_eq,flat_ne (k:=2) (fun _=>rfl) (by decide)] at h2
  rw [← hl]
  exact List.length_pos_iff.2 h2
theorem ret_bool {a b:Bool}(h:a=b):Ending.returned (.bool a)=.returned (.bool b):=by rw [h]
theorem take_snoc {α:Type}{l:List α}{k:Nat}{x:α}(h:l[k]?=some x):l.take (k+1)=l.take k++[x]:=by
 rw [List.take_add_one,h]
 rfl
end Go.Proofs.YtbecggfbblnglaaGreatDoor
namespace Go.Ix
open Line
def letter (c:Nat):Bool:=(decide (97≤c) && decide (c≤122)) || (decide (65≤c) && decide (c≤90)) || decide (c=95)
def digit (c:Nat):Bool:=decide (48≤c) && decide (c≤57)
def okAt (i:Nat) (c:UInt8):Bool:=letter c.toNat || (decide (i≠0) && digit c.toNat)
def NameOk (s:Txt):Prop:=1≤s.length∧s.length≤1024∧∀i c,s[i]?=some c→okAt i c=true
def LblOk (y:Lbl):Prop:=NameOk y.1∧y.2≠[]∧y.2.length≤1024
def Twice (l:List Lbl):Prop:=∃(i k:Nat) (a b:Lbl),k<i∧l[i]?=some a∧l[k]?=some b∧a.1=b.1
def Next (l:List Lbl):Prop:=∀(i:Nat) (a b:Lbl),l[i]?=some a→l[i+1]?=some b→a.1<b.1
open Classical in
noncomputable def check (l:List Lbl):Int :=
 if 64<l.length then 72 else if ∃y∈l,¬ LblOk y then 70 else if Twice l then 71 else if ¬ Next l then 70 else 0
theorem check_many {l:List Lbl}(h:64<l.length):check l=72:=if_pos h
theorem check_form {l:List Lbl}(h:¬ 64<l.length) {y:Lbl}(hy:y∈l) (hn:¬ LblOk y):check l=70:=by
 unfold check
 rw [if_neg h,if_pos ⟨y,hy,hn⟩]
theorem check_twice {l:List Lbl}(h:¬ 64<l.length) (hy:∀y∈l,LblOk y) (ht:Twice l):check l=71:=by
 unfold check
 rw [if_neg h,if_neg (by rintro⟨y,h1,h2⟩;exact h2 (hy y h1)),if_pos ht]
theorem check_next {l:List Lbl}(h:¬ 64<l.length) (hy:∀y∈l,LblOk y) (ht:¬ Twice l) (hn:¬ Next l):check l=70:=by
 unfold check
 rw [if_neg h,if_neg (by rintro⟨y,h1,h2⟩;exact h2 (hy y h1)),if_neg ht,if_pos hn]
theorem check_ok {l:List Lbl}(h:¬ 64<l.length) (hy:∀y∈l,LblOk y) (ht:¬ Twice l) (hn:Next l):check l=0:=by
 unfold check
 rw [if_neg h,if_neg (by rintro⟨y,h1,h2⟩;exact h2 (hy y h1)),if_neg ht,if_neg (by simpa using hn)]
theorem of_check {l:List Lbl}(h:check l=0):l.length≤64∧(∀y∈l,LblOk y)∧¬ Twice l∧Next l:=by
 unfold check at h
 split at h
 ·cases h
 ·rename_i h1
  split at h
  ·cases h
  ·rename_i h2
   split at h
   ·cases h
   ·rename_i h3
    split at h
    ·cases h
    ·rename_i h4
     refine⟨by omega,fun y hy=>?_,h3,by simpa using h4⟩
     by_cases ho:LblOk y
     ·exact ho
     ·exact absurd ⟨y,hy,ho⟩ h2
theorem nodup_of_not_twice {l:List Lbl}(h:¬ Twice l):(l.map (·.1)).Nodup:=by
 rw [List.nodup_iff_pairwise_ne,List.pairwise_iff_getElem]
 intro i j hi hj hij he
 rw [List.length_map] at hi hj
 simp only [List.getElem_map] at he
 exact h ⟨j,i,l[j],l[i],hij,by simp [hj],by simp [hi],he.symm⟩
def lblLt (x y:Lbl):Prop:=x.1<y.1∨(x.1=y.1∧x.2<y.2)
open Classical in
noncomputable def cmpY (x y:Lbl):Int:=if lblLt x y then -1 else if x=y then 0 else 1
noncomputable def cmpL:List Lbl→List Lbl→Int
 | [],[]=>0
 | [],_ :: _=>-1
 | _ :: _,[]=>1
 | x :: a,y :: b=>if cmpY x y=0 then cmpL a b else cmpY x y
theorem lblLt_irrefl (x:Lbl):¬ lblLt x x:=by
 rintro (h|⟨_,h⟩)<;>exact List.lt_irrefl _ h
theorem cmpY_lt {x y:Lbl}(h:lblLt x y):cmpY x y = -1:=if_pos h
theorem cmpY_self (x:Lbl):cmpY x x=0:=by
 unfold cmpY
 rw [if_neg (lblLt_irrefl x),if_pos rfl]
theorem cmpY_gt {x y:Lbl}(h:¬ lblLt x y) (hne:x≠y):cmpY x y=1:=by
 unfold cmpY
 rw [if_neg h,if_neg hne]
theorem cmpY_zero {x y:Lbl}:cmpY x y=0↔x=y:=by
 constructor
 ·intro h
  unfold cmpY at h
  split at h
  ·cases h
  ·split at h
   ·assumption
   ·cases h
 ·rintro rfl
  exact cmpY_self x
theorem cmpL_same:∀{a b:List Lbl}{k:Nat},k≤a.length→k≤b.length→a.take k=b.take k→cmpL a b=cmpL (a.drop k) (b.drop k)
 | a,b,0,_,_,_=>by simp
 | [],_,k+1,h,_,_=>by simp at h
 | _ :: _,[],k+1,_,h,_=>by simp at h
 | x :: a,y :: b,k+1,h1,h2,h=>by
  simp only [List.take_succ_cons,List.cons.injEq] at h
  obtain⟨rfl,h⟩:=h
  show (if cmpY x x=0 then cmpL a b else cmpY x x)=_
  rw [if_pos (cmpY_self x),cmpL_same (by simpa using h1) (by simpa using h2) h]
  rfl
theorem cmpL_at {a b:List Lbl}{k:Nat}{x y:Lbl}(ha:a[k]?=some x) (hb:b[k]?=some y) (h:a.take k=b.take k) (hne:x≠y):cmpL a b=cmpY x y:=by
 obtain⟨h1,rfl⟩:=List.getElem?_eq_some_iff.1 ha
 obtain⟨h2,rfl⟩:=List.getElem?_eq_some_iff.1 hb
 rw [cmpL_same (by omega) (by omega) h,List.drop_eq_getElem_cons h1,List.drop_eq_getElem_cons h2]
 show (if cmpY a[k] b[k]=0 then _ else cmpY a[k] b[k])=_
 rw [if_neg (fun e=>hne (cmpY_zero.1 e))]
theorem cmpL_short {a b:List Lbl}(h:a=b.take a.length) (hl:a.length<b.length):cmpL a b = -1:=by
 rw [cmpL_same (k:=a.length) (Nat.le_refl _) (by omega) (by rw [List.take_length];exact h),List.drop_length,List.drop_eq_getElem_cons hl]
 rfl
theorem cmpL_long {a b:List Lbl}(h:a.take b.length=b) (hl:b.length<a.length):cmpL a b=1:=by
 rw [cmpL_same (k:=b.length) (by omega) (Nat.le_refl _) (by rw [List.take_length];exact h),List.drop_length,List.drop_eq_getElem_cons hl]
 rfl
theorem cmpL_self (a:List Lbl):cmpL a a=0:=by
 rw [cmpL_same (k:=a.length) (Nat.le_refl _) (Nat.le_refl _) rfl,List.drop_length]
 rfl
def far:Int:=9007199254740992
def PlcOk (c:Plc):Prop:=c.fr≤c.til∧ -far≤c.fr∧c.til≤far∧1≤c.num∧c.num≤120∧0≤c.pos∧c.pos≤2147483647∧0≤c.siz∧c.siz≤2147483647
def PlcAt (l:List Plc) (k:Nat):Prop:=∀c,l[k]?=some c→PlcOk c∧(0<k→∀d,l[k-1]?=some d→d.til<c.fr)
def PlcsOk (l:List Plc):Prop:=∀k,k<l.length→PlcAt l k
def EntOk (l:List Ent) (i:Nat):Prop:=∀e,l[i]?=some e→check e.1=0∧(0<i→∀d,l[i-1]?=some d→cmpL d.1 e.1<0)∧PlcsOk e.2
def May (l:List Ent):Prop:=l.length≤4096∧∀i,i<l.length→EntOk l i
theorem May.ent {l:List Ent}(h:May l) {e:Ent}(he:e∈l):check e.1=0∧PlcsOk e.2:=by
 obtain⟨i,hi⟩:=List.getElem?_of_mem he
 have:=h.2 i (List.getElem?_eq_some_iff.1 hi).1 e hi
 exact⟨this.1,this.2.2⟩
theorem PlcsOk.plc {l:List Plc}(h:PlcsOk l) {c:Plc}(hc:c∈l):PlcOk c:=by
 obtain⟨i,hi⟩:=List.getElem?_of_mem hc
 exact (h i (List.getElem?_eq_some_iff.1 hi).1 c hi).1
open Classical in
noncomputable def enc (l:List Ent) (crc:List Nat→Nat):Option (List Nat):=if May l then some (body l++low 4 (crc (body l))) else none
end Go.Ix
namespace Go.Ix
def aheadP (n i k:Nat):List (Nat×Nat):=((List.range i).flatMap fun a=>(List.range n).map fun b=>(a,b))++(List.range k).map fun b=>(i,b)
def kept (of:Nat×Nat→List Nat) (q:List (Nat×Nat)):List (Nat×Nat):=q.filter fun p=>!(of p).isEmpty
def bytesOf (of:Nat×Nat→List Nat) (q:List (Nat×Nat)):List Nat:=(kept of q).flatMap (pairPart of)
theorem ahead_step (n i k:Nat):aheadP n i (k+1)=aheadP n i k++[(i,k)]:=by
 unfold aheadP
 rw [List.range_succ,List.map_append,← List.append_assoc]
 rfl
theorem ahead_next (n i:Nat):aheadP n i n=aheadP n (i+1) 0:=by
 unfold aheadP
 rw [List.range_succ,List.flatMap_append]
 simp
theorem ahead_all (n:Nat):aheadP n n 0=grid n:=by
 unfold aheadP grid
 simp
theorem kept_none {of:Nat×Nat→List Nat}{q:List (Nat×Nat)}{p:Nat×Nat}(h:of p=[]):kept of (q++[p])=kept of q:=by
 unfold kept
 rw [List.filter_append]
 simp [h]
theorem kept_some {of:Nat×Nat→List Nat}{q:List (Nat×Nat)}{p:Nat×Nat}(h:of p≠[]):kept of (q++[p])=kept of q++[p]:=by
 unfold kept
 rw [List.filter_append]
 simp [h]
theorem bytes_none {of:Nat×Nat→List Nat}{q:List (Nat×Nat)}{p:Nat×Nat}(h:of p=[]):bytesOf of (q++[p])=bytesOf of q:=by
 unfold bytesOf
 rw [kept_none h]
theorem bytes_some {of:Nat×Nat→List Nat}{q:List (Nat×Nat)}{p:Nat×Nat}(h:of p≠[]):bytesOf of (q++[p])=bytesOf of q++pairPart of p:=by
 unfold bytesOf
 rw [kept_some h,List.flatMap_append]
 simp
theorem postPart_eq (n:Nat) (of:Nat×Nat→List Nat):postPart n of=low 4 (pairs n of).length++bytesOf of (grid n):=rfl
theorem kept_len (of:Nat×Nat→List Nat) (q:List (Nat×Nat)):(kept of q).length≤q.length:=List.length_filter_le _ _
theorem ahead_len (n i k:Nat):(aheadP n i k).length=i * n+k:=by
 unfold aheadP
 rw [List.length_append,List.length_map,List.length_range]
 congr 1
 induction i with
 | zero=>simp
 | succ i ih =>
  rw [List.range_succ,List.flatMap_append,List.length_append,ih,Nat.add_mul]
  simp
theorem flat_low_len (l:List Nat):(l.flatMap fun i=>low 4 i).length=4 * l.length:=by
 induction l with
 | nil=>rfl
 | cons x l ih=>rw [List.flatMap_cons,List.length_append,ih,low_len,List.length_cons];omega
theorem pairPart_len (of:Nat×Nat→List Nat) (p:Nat×Nat):(pairPart of p).length=12+4 * (of p).length:=by
 unfold pairPart
 rw [List.length_append,List.length_append,List.length_append,low_len,low_len,low_len,flat_low_len]
theorem bytesOf_len {of:Nat×Nat→List Nat}{m:Nat}(h:∀p,(of p).length≤m) (q:List (Nat×Nat)):(bytesOf of q).length≤q.length * (12+4 * m):=by
 have key:∀k:List (Nat×Nat),(k.flatMap (pairPart of)).length≤k.length * (12+4 * m):=by
  intro k
  induction k with
  | nil=>simp
  | cons p k ih =>
   rw [List.flatMap_cons,List.length_append,List.length_cons,Nat.add_mul,pairPart_len]
   have:=h p
   omega
 exact Nat.le_trans (key _) (Nat.mul_le_mul_right _ (kept_len of q))
theorem grp_len (q:List ((Nat×Nat)×Nat)) (p:Nat×Nat):(grp q p).length≤q.length:=by
 unfold grp
 rw [List.length_map]
 exact List.length_filter_le _ _
end Go.Ix
namespace Go.Ix
open Line
theorem nums_byte {s:Txt}{x:Nat}(h:x∈nums s):x<256:=by
 obtain⟨c,_,rfl⟩:=List.mem_map.1 h
 exact c.toNat_lt
theorem symPart_snoc (ss:List Txt) (s:Txt):symPart (ss++[s])=symPart ss++(low 2 s.length++nums s):=by simp [symPart]
theorem symPart_len {ss:List Txt}(h:∀s∈ss,s.length≤1024):(symPart ss).length≤1026 * ss.length:=by
 induction ss with
 | nil=>simp [symPart]
 | cons s ss ih =>
  show ((low 2 s.length++nums s)++symPart ss).length≤_
  have h1:=h s (by simp)
  have h2:=ih fun x hx=>h x (by simp [hx])
  rw [List.length_append,List.length_append,low_len,nums_len,List.length_cons]
  omega
theorem lblPart_len (ss:List Txt) (y:Lbl):(lblPart ss y).length=8:=by
 unfold lblPart
 rw [List.length_append,low_len,low_len]
theorem plcPart_len (c:Plc):(plcPart c).length=26:=by
 unfold plcPart
 rw [List.length_append,List.length_append,List.length_append,List.length_append,low_len,low_len,low_len,low_len,low_len]
theorem flat_const_len {α:Type}{f:α→List Nat}{k:Nat}(h:∀x,(f x).length=k) (l:List α):(l.flatMap f).length=l.length * k:=by
 induction l with
 | nil=>simp
 | cons x l ih=>rw [List.flatMap_cons,List.length_append,h,ih,List.length_cons,Nat.add_mul];omega
theorem entPart_len (ss:List Txt) (e:Ent):(entPart ss e).length=5+8 * e.1.length+26 * e.2.length:=by
 unfold entPart
 rw [List.length_append,List.length_append,List.length_append,low_len,low_len,flat_const_len (lblPart_len ss),flat_const_len plcPart_len]
 omega
theorem ents_len {ss:List Txt}{l:List Ent}(h:∀e∈l,e.1.length≤64∧e.2.length≤4000):(l.flatMap (entPart ss)).length≤104517 * l.length:=by
 induction l with
 | nil=>simp
 | cons e l ih =>
  have h1:=h e (by simp)
  have h2:=ih fun x hx=>h x (by simp [hx])
  rw [List.flatMap_cons,List.length_append,entPart_len,List.length_cons]
  omega
theorem bytes_append {a b:List Nat}(ha:∀x∈a,x<256) (hb:∀x∈b,x<256):∀x∈a++b,x<256:=fun x hx=>by
 rcases List.mem_append.1 hx with h | h
 ·exact ha x h
 ·exact hb x h
theorem bytes_flat {α:Type}{f:α→List Nat}(h:∀y,∀x∈f y,x<256) (l:List α):∀x∈l.flatMap f,x<256:=fun x hx=>by
 obtain⟨y,_,hy⟩:=List.mem_flatMap.1 hx
 exact h y x hy
theorem bytes_low (k n:Nat):∀x∈low k n,x<256:=low_lt k n
theorem body_bytes (l:List Ent):∀x∈body l,x<256:=by
 have hs:∀s:Txt,∀x∈low 2 s.length++nums s,x<256:=fun s=>bytes_append (bytes_low _ _) fun x hx=>nums_byte hx
 have hl:∀y:Lbl,∀x∈lblPart (symbols l) y,x<256:=fun y=>bytes_append (bytes_low _ _) (bytes_low _ _)
 have hp:∀c:Plc,∀x∈plcPart c,x<256:=fun c=>bytes_append (bytes_append (bytes_append (bytes_append (bytes_low _ _) (bytes_low _ _)) (bytes_low _ _)) (bytes_low _ _)) (bytes_low _ _)
 have he:∀e:Ent,∀x∈entPart (symbols l) e,x<256:=fun e=>bytes_append (bytes_append (bytes_append (bytes_low _ _) (bytes_flat hl _)) (bytes_low _ _)) (bytes_flat hp _)
 have hr:∀p:Nat×Nat,∀x∈pairPart (grp (seqs (symbols l) l)) p,x<256:=fun p=>bytes_append (bytes_append (bytes_append (bytes_low _ _) (bytes_low _ _)) (bytes_low _ _)) (bytes_flat (fun i=>bytes_low _ _) _)
 have hpp:∀x∈postPart (symbols l).length (grp (seqs (symbols l) l)),x<256:=bytes_append (bytes_low _ _) (bytes_flat hr _)
 refine bytes_append (bytes_append (bytes_append (bytes_append (bytes_append ?_ (bytes_low _ _)) (bytes_flat hs _)) (bytes_low _ _)) (bytes_flat he _)) hpp
 intro x hx
 simp [magic] at hx
 omega
theorem sym_ok {l:List Ent}(h:May l) {s:Txt}(hs:s∈symbols l):s≠[]∧s.length≤1024:=by
 unfold symbols at hs
 rw [mem_rise] at hs
 obtain⟨e,he,hs⟩:=List.mem_flatMap.1 hs
 obtain⟨y,hy,hs⟩:=List.mem_flatMap.1 hs
 obtain⟨_,hok,_⟩:=of_check (h.ent he).1
 obtain⟨h1,h2,h3⟩:=hok y hy
 rcases List.mem_cons.1 hs with rfl | hs
 ·refine⟨fun e=>?_,h1.2.1⟩
  have:=h1.1
  rw [e] at this
  simp at this
 ·rcases List.mem_cons.1 hs with rfl | hs
  ·exact⟨h2,h3⟩
  ·simp at hs
theorem of_grp {l:List Ent}(h:May l) {i k:Nat}{s v:Txt}(h1:(symbols l)[i]?=some s) (h2:(symbols l)[k]?=some v):ofL l s v=grp (seqs (symbols l) l) (i,k) :=
 grp_of (fun e he=>nodup_of_not_twice (of_check (h.ent he).1).2.2.1) h1 h2 (sym_ok h (List.mem_of_getElem? h2)).1
theorem ofFrom_lt {s v:Txt}{i:Nat}{l:List Ent}{z:Nat}(h:z∈ofFrom s v i l):z<i+l.length:=by
 induction l generalizing i with
 | nil=>simp [ofFrom] at h
 | cons e l ih =>
  rcases List.mem_append.1 h with h | h
  ·split at h
   ·simp at h
    rw [List.length_cons]
    omega
   ·simp at h
  ·have:=ih h
   rw [List.length_cons]
   omega
theorem ofFrom_len (s v:Txt) (i:Nat) (l:List Ent):(ofFrom s v i l).length≤l.length:=by
 induction l generalizing i with
 | nil=>simp [ofFrom]
 | cons e l ih =>
  show ((if get e.1 s=v then [i] else [])++ofFrom s v (i+1) l).length≤_
  have:=ih (i+1)
  rw [List.length_append,List.length_cons]
  split<;>simp<;>omega
theorem grp_bound {l:List Ent}(h:May l) (p:Nat×Nat):(grp (seqs (symbols l) l) p).length≤l.length∧∀z∈grp (seqs (symbols l) l) p,z<l.length:=by
 by_cases hn:grp (seqs (symbols l) l) p=[]
 ·rw [hn]
  exact⟨by simp,fun z hz=>by simp at hz⟩
 ·obtain⟨i,hi⟩:=grp_ne.1 hn
  obtain⟨h1,h2⟩:=seqs_lt hi
  have e1:(symbols l)[p.1]?=some (symbols l)[p.1]:=List.getElem?_eq_getElem h1
  have e2:(symbols l)[p.2]?=some (symbols l)[p.2]:=List.getElem?_eq_getElem h2
  have:=of_grp h e1 e2
  rw [show (p.1,p.2)=p from rfl] at this
  rw [← this]
  refine⟨ofFrom_len _ _ 0 l,fun z hz=>?_⟩
  have:=ofFrom_lt hz
  omega
def encd (crc:List Nat→Nat) (l:List Ent):List Nat:=body l++low 4 (crc (body l))
def headPart (ss:List Txt) (k:Nat):List Nat:=magic++low 4 ss.length++symPart (ss.take k)
def entsPart (ss:List Txt) (l:List Ent) (k:Nat):List Nat:=headPart ss ss.length++low 4 l.length++(l.take k).flatMap (entPart ss)
theorem headPart_len {ss:List Txt}(h:∀s∈ss,s.length≤1024) (k:Nat):(headPart ss k).length≤8+1026 * ss.length:=by
 unfold headPart
 have h1:=symPart_len (ss:=ss.take k) fun s hs=>h s (List.mem_of_mem_take hs)
 rw [List.length_append,List.length_append,low_len]
 have h2:(ss.take k).length≤ss.length:=by rw [List.length_take];omega
 simp only [magic,List.length_cons,List.length_nil]
 omega
theorem entsPart_len {ss:List Txt}{l:List Ent}(h:∀s∈ss,s.length≤1024) (hl:∀e∈l,e.1.length≤64∧e.2.length≤4000) (k:Nat):(entsPart ss l k).length≤12+1026 * ss.length+104517 * l.length:=by
 unfold entsPart
 have h1:=headPart_len h ss.length
 have h2:=ents_len (ss:=ss) (l:=l.take k) fun e he=>hl e (List.mem_of_mem_take he)
 rw [List.length_append,List.length_append,low_len]
 have h3:(l.take k).length≤l.length:=by rw [List.length_take];omega
 omega
theorem body_eq (l:List Ent):body l=entsPart (symbols l) l l.length++postPart (symbols l).length (grp (seqs (symbols l) l)):=by
 unfold entsPart headPart body
 rw [List.take_length,List.take_length]
theorem postPart_len {n:Nat}{of:Nat×Nat→List Nat}{m:Nat}(h:∀p,(of p).length≤m):(postPart n of).length≤4+n * n * (12+4 * m):=by
 rw [postPart_eq,List.length_append,low_len]
 have h1:=bytesOf_len h (grid n)
 have h2:(grid n).length=n * n:=by
  rw [← ahead_all,ahead_len]
  omega
 rw [h2] at h1
 omega
end Go.Ix
namespace Go.Crc
def feed (d:Nat) (l:List Nat):Nat:=l.foldl (fun d x=>bits 8 (d ^^^ x)) d
def val:List Nat→Nat
 | []=>0
 | x :: l=>x ^^^ (256 * val l)
theorem bit_lt {n:Nat}(h:n<2 ^ 32):bit n<2 ^ 32:=by
 unfold bit
 refine Nat.xor_lt_two_pow (by omega) ?_
 split<;>decide
end Go.Crc
namespace Go.Ix
open Go
theorem bits_xor_u32 (a b:Nat) (ha:a<4294967296) (hb:b<4294967296):bits .xor .u32 (a:Int) (b:Int)=((a ^^^ b:Nat):Int):=by
 have hx:a ^^^ b<2 ^ 32:=Nat.xor_lt_two_pow (by omega) (by omega)
 have h1:(BitVec.ofInt 32 (a:Int)).toNat=a:=by
  rw [BitVec.ofInt_natCast,BitVec.toNat_ofNat]
  exact Nat.mod_eq_of_lt (by omega)
 have h2:(BitVec.ofInt 32 (b:Int)).toNat=b:=by
  rw [BitVec.ofInt_natCast,BitVec.toNat_ofNat]
  exact Nat.mod_eq_of_lt (by omega)
 show IntKind.u32.wrap ((BitVec.ofInt 32 (a:Int) ^^^ BitVec.ofInt 32 (b:Int)).toNat:Int)=_
 rw [BitVec.toNat_xor,h1,h2,IntKind.wrap_u32]
 omega
theorem wraps_u32 (n:Int) (h₀:0≤n) (h₁:n<2 ^ 32):IntKind.u32.wrap n=n:=by rw [IntKind.wrap_u32];omega
theorem bits_and_u32 (a b:Nat) (ha:a<4294967296) (hb:b<4294967296):bits .and .u32 (a:Int) (b:Int)=((a &&& b:Nat):Int) :=
 (bits_nat .u32 32 (by decide) wraps_u32 a b (by simpa using ha) (by simpa using hb)).1
theorem and15 (a:Nat):a &&& 15=a % 16:=Nat.and_two_pow_sub_one_eq_mod a 4
theorem and1 (a:Nat):a &&& 1=a % 2:=Nat.and_two_pow_sub_one_eq_mod a 1
def crc (l:List Nat):Nat:=4294967295 ^^^ Crc.feed 4294967295 l
theorem not_u32 (a:Nat) (ha:a<4294967296):bits .xor .u32 IntKind.u32.max (a:Int)=((4294967295 ^^^ a:Nat):Int):=bits_xor_u32 4294967295 a (by decide) ha
theorem feed_snoc (d:Nat) (l:List Nat) (x:Nat):Crc.feed d (l++[x])=Crc.bits 8 (Crc.feed d l ^^^ x):=by
 unfold Crc.feed
 rw [List.foldl_append]
 rfl
theorem bits_lt (k:Nat) {n:Nat}(h:n<2 ^ 32):Crc.bits k n<2 ^ 32:=by
 induction k generalizing n with
 | zero=>exact h
 | succ k ih=>exact ih (Crc.bit_lt h)
theorem feed_lt {d:Nat}(l:List Nat) (hd:d<2 ^ 32) (hl:∀x∈l,x<256):Crc.feed d l<2 ^ 32:=by
 induction l generalizing d with
 | nil=>exact hd
 | cons x l ih =>
  have hx:=hl x (by simp)
  exact ih (bits_lt 8 (Nat.xor_lt_two_pow hd (by omega))) fun y hy=>hl y (by simp [hy])
end Go.Ix
namespace Go.Ix
open Go
theorem wrap_u64k (n:Int):IntKind.u64.wrap n=((Go.Ix.u64 n:Nat):Int):=by
 rw [IntKind.wrap_u64]
 unfold Go.Ix.u64
 omega
theorem u64_below (n:Int):Go.Ix.u64 n<18446744073709551616:=by
 unfold Go.Ix.u64
 omega
end Go.Ix
