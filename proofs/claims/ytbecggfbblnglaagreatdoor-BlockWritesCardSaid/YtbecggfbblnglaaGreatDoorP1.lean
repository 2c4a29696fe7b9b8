/- Plain laws, no program. No conditions. -/
import Derived.Laws.BitsLemmas
import Derived.Test.YtbecggfbblnglaaGreatDoorP0
import Derived.Lib.BitFns
set_option linter.unusedSimpArgs false
set_option linter.unusedVariables false
set_option linter.deprecated false
set_option linter.unnecessarySimpa false
namespace Go.Gor
def bitsOf (v:Nat):Nat→List Bool
 | 0=>[]
 | n+1=>v.testBit n :: bitsOf v n
theorem bits_len (v:Nat):∀n,(bitsOf v n).length=n
 | 0=>rfl
 | n+1=>by simp [bitsOf,bits_len v n]
def valG (l:List Bool):Nat:=l.foldl (fun n b=>2 * n+b.toNat) 0
theorem val_snoc (l:List Bool) (x:Bool):valG (l++[x])=2 * valG l+x.toNat:=by simp [valG,List.foldl_append]
def byteOf (m:List Bool):Nat:=valG m * 2 ^ (8-m.length)
theorem val_lt (m:List Bool):valG m<2 ^ m.length:=by
 have h:∀(l:List Bool),valG l.reverse<2 ^ l.length:=fun l=>by
  induction l with
  | nil=>simp [valG]
  | cons x l ih =>
   rw [List.reverse_cons,val_snoc,List.length_cons,Nat.pow_succ]
   have:x.toNat≤1:=by cases x<;>simp
   omega
 have:=h m.reverse
 simpa using this
theorem byte_lt {m:List Bool}(h:m.length≤8):byteOf m<256:=by
 unfold byteOf
 have h1:=val_lt m
 have h2:2 ^ m.length * 2 ^ (8-m.length)=256:=by rw [← Nat.pow_add,Nat.add_sub_cancel' h]
 have h3:0<2 ^ (8-m.length):=Nat.two_pow_pos _
 calc valG m * 2 ^ (8-m.length)<2 ^ m.length * 2 ^ (8-m.length):=Nat.mul_lt_mul_of_pos_right h1 h3
  _=256:=h2
theorem byte_snoc {m:List Bool}(h:m.length≤7) (x:Bool):byteOf (m++[x])=byteOf m ||| (if x then 128 >>> m.length else 0):=by
 have e1:byteOf (m++[x])=valG m * 2 ^ (8-m.length)+x.toNat * 2 ^ (7-m.length):=by
  unfold byteOf
  rw [val_snoc,List.length_append,List.length_singleton,show 8-(m.length+1)=7-m.length by omega,Nat.add_mul,show 8-m.length=(7-m.length)+1 by omega,Nat.pow_succ]
  ac_rfl
 have e2:128 >>> m.length=2 ^ (7-m.length):=by
  have:m.length=0∨m.length=1∨m.length=2∨m.length=3∨m.length=4∨m.length=5∨m.length=6∨m.length=7:=by omega
  rcases this with h | h | h | h | h | h | h | h<;>rw [h]<;>rfl
 rw [e1]
 cases x with
 | false=>simp [byteOf]
 | true =>
  have h3:(2:Nat) ^ (7-m.length)<2 ^ (8-m.length):=Nat.pow_lt_pow_right (by decide) (by omega)
  have h4:=Nat.shiftLeft_add_eq_or_of_lt h3 (valG m)
  rw [Nat.shiftLeft_eq] at h4
  simp only [Bool.toNat_true,Nat.one_mul,if_true,e2]
  rw [h4]
  rfl
def pack (l:List Bool):List Nat:=if h:l=[] then [] else byteOf (l.take 8) :: pack (l.drop 8)
termination_by l.length
decreasing_by
 have:0<l.length:=List.length_pos_iff.2 h
 simp
 omega
theorem pack_nil:pack []=[]:=by rw [pack];simp
theorem pack_cons {l:List Bool}(h:l≠[]):pack l=byteOf (l.take 8) :: pack (l.drop 8):=by rw [pack,dif_neg h]
theorem pack_split:∀(q:Nat) (a m:List Bool),a.length=8 * q→m.length≤8→pack (a++m)=pack a++(if m=[] then [] else [byteOf m])∧(pack a).length=q
 | 0,a,m,ha,hm=>by
  have:a=[]:=List.eq_nil_of_length_eq_zero (by omega)
  subst this
  rw [List.nil_append,pack_nil]
  refine⟨?_,rfl⟩
  split
  ·rename_i h;rw [h,pack_nil];rfl
  ·rename_i h
   rw [pack_cons h,List.take_of_length_le hm,List.drop_of_length_le hm,pack_nil]
   rfl
 | q+1,a,m,ha,hm=>by
  have hne:a≠[]:=fun e=>by rw [e] at ha;simp at ha
  have hne2:a++m≠[]:=fun e=>hne (List.append_eq_nil_iff.1 e).1
  obtain⟨h1,h2⟩:=pack_split q (a.drop 8) m (by simp;omega) hm
  rw [pack_cons hne2,pack_cons hne,List.take_append_of_le_length (by omega),List.drop_append_of_le_length (by omega),h1]
  exact⟨rfl,by simp [h2]⟩
theorem pack_snoc (l:List Bool) (x:Bool):∃a m:List Bool,l=a++m∧a.length=8 * (l.length / 8)∧m.length=l.length % 8∧(pack a).length=l.length / 8∧
  pack l=pack a++(if l.length % 8=0 then [] else [byteOf m])∧(l.length % 8=0→m=[])∧pack (l++[x])=pack a++[byteOf m ||| (if x then 128 >>> (l.length % 8) else 0)]:=by
 refine⟨l.take (8 * (l.length / 8)),l.drop (8 * (l.length / 8)),(List.take_append_drop _ _).symm,by rw [List.length_take];omega,by rw [List.length_drop];omega,?_,?_,?_,?_⟩
 all_goals
  obtain⟨a,ha⟩:∃a,a=l.take (8 * (l.length / 8)):=⟨_,rfl⟩
  obtain⟨m,hm⟩:∃m,m=l.drop (8 * (l.length / 8)):=⟨_,rfl⟩
  have e:l=a++m:=by rw [ha,hm,List.take_append_drop]
  have hal:a.length=8 * (l.length / 8):=by rw [ha,List.length_take];omega
  have hml:m.length=l.length % 8:=by rw [hm,List.length_drop];omega
  rw [← ha,← hm] at *
 ·exact (pack_split _ a m hal (by omega)).2
 ·have h:=(pack_split _ a m hal (by omega)).1
  rw [← e] at h
  rw [h]
  congr 1
  by_cases h0:l.length % 8=0
  ·rw [if_pos h0,if_pos (List.eq_nil_of_length_eq_zero (by omega))]
  ·rw [if_neg h0,if_neg (fun e9=>by rw [e9] at hml;simp at hml;omega)]
 ·intro h0
  exact List.eq_nil_of_length_eq_zero (by omega)
 ·have h:=(pack_split _ a (m++[x]) hal (by simp;omega)).1
  rw [← List.append_assoc,← e] at h
  rw [h,if_neg (by simp),byte_snoc (by omega),hml]
theorem pack_len (l:List Bool):(pack l).length=(l.length+7) / 8:=by
 obtain⟨a,m,_,_,_,h4,h5,_,_⟩:=pack_snoc l true
 rw [h5,List.length_append,h4]
 split<;>simp<;>omega
theorem pack_lt (l:List Bool):∀x∈pack l,x<256:=by
 have h:∀(n:Nat) (l:List Bool),l.length≤n→∀x∈pack l,x<256:=fun n=>by
  induction n with
  | zero =>
   intro l hl x hx
   have:l=[]:=List.eq_nil_of_length_eq_zero (by omega)
   rw [this,pack_nil] at hx
   cases hx
  | succ n ih =>
   intro l hl x hx
   by_cases h0:l=[]
   ·rw [h0,pack_nil] at hx;cases hx
   ·rw [pack_cons h0] at hx
    rcases List.mem_cons.1 hx with rfl | hx
    ·exact byte_lt (by simp;omega)
    ·exact ih _ (by have:=List.length_pos_iff.2 h0;simp;omega) x hx
 exact h _ l (Nat.le_refl _)
def vbits (v:Nat):List Bool:=if v<128 then bitsOf v 8 else bitsOf (128+v % 128) 8++vbits (v / 128)
termination_by v
decreasing_by omega
theorem v_small {v:Nat}(h:v<128):vbits v=bitsOf v 8:=by rw [vbits,if_pos h]
theorem v_big {v:Nat}(h:¬ v<128):vbits v=bitsOf (128+v % 128) 8++vbits (v / 128):=by rw [vbits,if_neg h]
theorem v_len:∀(k v:Nat),v<128 ^ (k+1)→(vbits v).length≤8 * (k+1)
 | 0,v,h=>by rw [v_small (by simpa using h),bits_len];omega
 | k+1,v,h=>by
  by_cases hv:v<128
  ·rw [v_small hv,bits_len];omega
  ·rw [v_big hv,List.length_append,bits_len]
   have:=v_len k (v / 128) (by rw [Nat.pow_succ] at h;exact Nat.div_lt_of_lt_mul (by rw [Nat.mul_comm];exact h))
   omega
def zz (t:Int):Nat:=if 0≤t then 2 * t.toNat else 2 * (-(t+1)).toNat+1
abbrev Smp:=Int×Nat
def sub64 (a b:Int):Nat:=((a-b) % 18446744073709551616).toNat
def sgn (n:Nat):Int:=if n<9223372036854775808 then n else n-18446744073709551616
def dif (step prev:Nat):Int:=sgn ((step+(18446744073709551616-prev)) % 18446744073709551616)
def changeB (d:Int):List Bool :=
 if d=0 then [false]
 else if -63≤d∧d≤64 then bitsOf 2 2++bitsOf (d+63).toNat 7
 else if -255≤d∧d≤256 then bitsOf 6 3++bitsOf (d+255).toNat 9
 else if -2047≤d∧d≤2048 then bitsOf 14 4++bitsOf (d+2047).toNat 12
 else bitsOf 15 4++bitsOf (d % 18446744073709551616).toNat 64
def lead (x:Nat):Nat:=min 31 (63-x.log2)
def trailF:Nat→Nat→Nat
 | 0,_=>0
 | k+1,x=>if x % 2=1 then 0 else trailF k (x / 2)+1
def trail (x:Nat):Nat:=trailF 64 x
def fresh (x:Nat):List Bool:=true :: true :: (bitsOf (lead x) 5++bitsOf (63-lead x-trail x) 6++bitsOf (x / 2 ^ trail x) (64-lead x-trail x))
def numB (x:Nat) (win:Option (Nat×Nat)):List Bool×Option (Nat×Nat) :=
 if x=0 then ([false],win) else
 match win with
 | some (l,r)=>if l≤lead x∧r≤trail x then (true :: false :: bitsOf (x / 2 ^ r) (64-l-r),some (l,r)) else (fresh x,some (lead x,trail x))
 | none=>(fresh x,some (lead x,trail x))
structure St where
 bits:List Bool
 step:Nat
 win:Option (Nat×Nat)
def timeB (s:St) (n:Nat) (step:Nat):List Bool:=if n=1 then vbits step else changeB (dif step s.step)
def nextS (s:St) (n:Nat) (a b:Smp):St :=
 ⟨s.bits++timeB s n (sub64 b.1 a.1)++(numB (a.2 ^^^ b.2) s.win).1,sub64 b.1 a.1,(numB (a.2 ^^^ b.2) s.win).2⟩
def firstB (x:Smp):List Bool:=vbits (zz x.1)++bitsOf x.2 64
def stAt (l:List Smp):Nat→St
 | 0=>⟨[],0,none⟩
 | 1=>⟨firstB (l.getD 0 (0,0)),0,none⟩
 | k+2=>nextS (stAt l (k+1)) (k+1) (l.getD k (0,0)) (l.getD (k+1) (0,0))
theorem st_one {l:List Smp}{x:Smp}(h:l[0]?=some x):stAt l 1=⟨firstB x,0,none⟩:=by
 unfold stAt
 rw [List.getD_eq_getElem?_getD,h]
 rfl
theorem st_next {l:List Smp}{k:Nat}{a b:Smp}(ha:l[k]?=some a) (hb:l[k+1]?=some b):stAt l (k+2)=nextS (stAt l (k+1)) (k+1) a b:=by
 show nextS (stAt l (k+1)) (k+1) (l.getD k (0,0)) (l.getD (k+1) (0,0))=_
 rw [List.getD_eq_getElem?_getD,List.getD_eq_getElem?_getD,ha,hb]
 rfl
def chunkB (l:List Smp):List Nat:=pack (stAt l l.length).bits
theorem pack_at:∀(i:Nat) (l:List Bool),8 * i<l.length→(pack l)[i]?=some (byteOf ((l.drop (8 * i)).take 8))
 | 0,l,h=>by
  rw [pack_cons (List.length_pos_iff.1 (by omega))]
  rfl
 | i+1,l,h=>by
  rw [pack_cons (List.length_pos_iff.1 (by omega)),List.getElem?_cons_succ,pack_at i (l.drop 8) (by rw [List.length_drop];omega),List.drop_drop]
  rw [show 8+8 * i=8 * (i+1) by omega]
def padV (m:List Bool) (k:Nat):Nat:=valG (m.take k) * 2 ^ (k-m.length)
theorem pad_zero (m:List Bool):padV m 0=0:=by simp [padV,valG]
theorem pad_bit {m:List Bool}{k:Nat}{b:Bool}(h:m[k]?=some b):padV m (k+1)=2 * padV m k+b.toNat:=by
 have hk:=(List.getElem?_eq_some_iff.1 h).1
 unfold padV
 rw [List.take_add_one,h,show k+1-m.length=0 by omega,show k-m.length=0 by omega]
 simp [val_snoc]
theorem pad_none {m:List Bool}{k:Nat}(h:m.length≤k):padV m (k+1)=2 * padV m k:=by
 unfold padV
 rw [List.take_of_length_le (by omega),List.take_of_length_le h,show k+1-m.length=(k-m.length)+1 by omega,Nat.pow_succ]
 ac_rfl
theorem pad_eight (m:List Bool):padV m 8=byteOf (m.take 8):=by
 unfold padV byteOf
 rw [List.length_take]
 congr 2
 omega
theorem pad_lt (m:List Bool) (k:Nat):padV m k<2 ^ k:=by
 unfold padV
 have h1:=val_lt (m.take k)
 rw [List.length_take] at h1
 by_cases h:k≤m.length
 ·rw [Nat.min_eq_left h] at h1
  rw [show k-m.length=0 by omega]
  simpa using h1
 ·rw [Nat.min_eq_right (by omega)] at h1
  calc _<2 ^ m.length * 2 ^ (k-m.length):=Nat.mul_lt_mul_of_pos_right h1 (Nat.two_pow_pos _)
   _=2 ^ k:=by rw [← Nat.pow_add];congr 1;omega
def groups (l:List Smp):List (List Smp):=if h:l=[] then [] else l.take 120 :: groups (l.drop 120)
termination_by l.length
decreasing_by
 have:0<l.length:=List.length_pos_iff.2 h
 simp
 omega
theorem groups_nil:groups []=[]:=by rw [groups];simp
theorem groups_cons {l:List Smp}(h:l≠[]):groups l=l.take 120 :: groups (l.drop 120):=by rw [groups,dif_neg h]
theorem groups_at:∀(i:Nat) (l:List Smp),120 * i<l.length→(groups l)[i]?=some ((l.drop (120 * i)).take 120)
 | 0,l,h=>by
  rw [groups_cons (List.length_pos_iff.1 (by omega))]
  rfl
 | i+1,l,h=>by
  rw [groups_cons (List.length_pos_iff.1 (by omega)),List.getElem?_cons_succ,groups_at i (l.drop 120) (by rw [List.length_drop];omega),List.drop_drop]
  rw [show 120+120 * i=120 * (i+1) by omega]
theorem groups_len (l:List Smp):(groups l).length=(l.length+119) / 120:=by
 have h:∀(n:Nat) (l:List Smp),l.length≤n→(groups l).length=(l.length+119) / 120:=fun n=>by
  induction n with
  | zero =>
   intro l hl
   have:l=[]:=List.eq_nil_of_length_eq_zero (by omega)
   rw [this,groups_nil]
   rfl
  | succ n ih =>
   intro l hl
   by_cases h0:l=[]
   ·rw [h0,groups_nil];rfl
   ·have hp:=List.length_pos_iff.2 h0
    rw [groups_cons h0,List.length_cons,ih _ (by simp;omega),List.length_drop]
    omega
 exact h _ l (Nat.le_refl _)
end Go.Gor
namespace Go.Gor
open Go
theorem wrap_u64 (n:Int):IntKind.u64.wrap n=n % 18446744073709551616:=by simp [IntKind.wrap,IntKind.bits,IntKind.signed]
theorem wraps_u64 (n:Int) (h₀:0≤n) (h₁:n<2 ^ 64):IntKind.u64.wrap n=n:=by rw [wrap_u64];omega
theorem and_u64 (a b:Nat) (ha:a<18446744073709551616) (hb:b<18446744073709551616):bits .and .u64 (a:Int) (b:Int)=((a &&& b:Nat):Int) :=
 (bits_nat .u64 64 (by decide) wraps_u64 a b (by simpa using ha) (by simpa using hb)).1
theorem or_u64 (a b:Nat) (ha:a<18446744073709551616) (hb:b<18446744073709551616):bits .or .u64 (a:Int) (b:Int)=((a ||| b:Nat):Int) :=
 (bits_nat .u64 64 (by decide) wraps_u64 a b (by simpa using ha) (by simpa using hb)).2
theorem or_u8 (a b:Nat) (ha:a<256) (hb:b<256):bits .or .u8 (a:Int) (b:Int)=((a ||| b:Nat):Int) :=
 (bits_nat .u8 8 (by decide) wraps_u8 a b (by simpa using ha) (by simpa using hb)).2
theorem xor_u64 (a b:Nat) (ha:a<18446744073709551616) (hb:b<18446744073709551616):bits .xor .u64 (a:Int) (b:Int)=((a ^^^ b:Nat):Int):=by
 have hx:a ^^^ b<2 ^ 64:=Nat.xor_lt_two_pow (by omega) (by omega)
 have h1:(BitVec.ofInt 64 (a:Int)).toNat=a:=by
  rw [BitVec.ofInt_natCast,BitVec.toNat_ofNat]
  exact Nat.mod_eq_of_lt (by omega)
 have h2:(BitVec.ofInt 64 (b:Int)).toNat=b:=by
  rw [BitVec.ofInt_natCast,BitVec.toNat_ofNat]
  exact Nat.mod_eq_of_lt (by omega)
 show IntKind.u64.wrap ((BitVec.ofInt 64 (a:Int) ^^^ BitVec.ofInt 64 (b:Int)).toNat:Int)=_
 rw [BitVec.toNat_xor,h1,h2,wrap_u64]
 omega
theorem and1G (a:Nat):a &&& 1=a % 2:=Nat.and_two_pow_sub_one_eq_mod a 1
theorem and127 (a:Nat):a &&& 127=a % 128:=Nat.and_two_pow_sub_one_eq_mod a 7
theorem or128 (a:Nat) (h:a<128):a ||| 128=128+a:=by
 have h1:128+a=128 ||| a:=Nat.shiftLeft_add_eq_or_of_lt (i:=7) (show a<2 ^ 7 from h) 1
 rw [Nat.or_comm]
 exact h1.symm
theorem test_div (v j:Nat):v.testBit j=decide (v / 2 ^ j % 2=1):=by
 rw [Nat.testBit_eq_decide_div_mod_eq]
end Go.Gor
namespace Go.Gor
theorem and_twice (a b:Nat):(2 * a) &&& (2 * b)=2 * (a &&& b):=by
 have h1:((2 * a) &&& (2 * b)) / 2=a &&& b:=by rw [Nat.and_div_two,Nat.mul_div_cancel_left _ (by decide),Nat.mul_div_cancel_left _ (by decide)]
 have h2:((2 * a) &&& (2 * b)) % 2=0:=by
  have:=Nat.and_mod_two_pow (a:=2 * a) (b:=2 * b) (n:=1)
  simp only [Nat.pow_one] at this
  rw [this,Nat.mul_mod_right]
  simp
 omega
theorem and_odd (a b:Nat):(2 * a+1) &&& (2 * b+1)=2 * (a &&& b)+1:=by
 have h1:((2 * a+1) &&& (2 * b+1)) / 2=a &&& b:=by rw [Nat.and_div_two,show (2 * a+1) / 2=a by omega,show (2 * b+1) / 2=b by omega]
 have h2:((2 * a+1) &&& (2 * b+1)) % 2=1:=by
  have:=Nat.and_mod_two_pow (a:=2 * a+1) (b:=2 * b+1) (n:=1)
  simp only [Nat.pow_one] at this
  rw [this,show (2 * a+1) % 2=1 by omega,show (2 * b+1) % 2=1 by omega]
  rfl
 omega
theorem and_rest {n m:Nat}(h:m<2 ^ n):m &&& (2 ^ n-(m+1))=0:=by
 apply Nat.eq_of_testBit_eq
 intro i
 rw [Nat.testBit_and,Nat.testBit_two_pow_sub_succ h]
 cases m.testBit i<;>simp
theorem trailF_odd {k x:Nat}(h:x % 2=1):trailF (k+1) x=0:=if_pos h
theorem trailF_even {k x:Nat}(h:¬ x % 2=1):trailF (k+1) x=trailF k (x / 2)+1:=if_neg h
theorem and_neg:∀(k x:Nat),0<x→x<2 ^ k→x &&& (2 ^ k-x)=2 ^ trailF k x∧trailF k x<k
 | 0,x,h0,h=>by simp at h;omega
 | k+1,x,h0,h=>by
  rw [Nat.pow_succ] at h
  by_cases hx:x % 2=1
  ·obtain⟨m,rfl⟩:∃m,x=2 * m+1:=⟨x / 2,by omega⟩
   have hm:m<2 ^ k:=by omega
   have e:2 ^ (k+1)-(2 * m+1)=2 * (2 ^ k-(m+1))+1:=by rw [Nat.pow_succ];omega
   rw [e,and_odd,and_rest hm,trailF_odd hx]
   exact⟨rfl,by omega⟩
  ·obtain⟨y,rfl⟩:∃y,x=2 * y:=⟨x / 2,by omega⟩
   have e:2 ^ (k+1)-2 * y=2 * (2 ^ k-y):=by rw [Nat.pow_succ];omega
   obtain⟨h1,h2⟩:=and_neg k y (by omega) (by omega)
   rw [e,and_twice,h1,trailF_even hx,show 2 * y / 2=y by omega,Nat.pow_succ]
   exact⟨by omega,by omega⟩
theorem trail_bit:∀(k x:Nat),0<x→x<2 ^ k→(∀i,i<trailF k x→x.testBit i=false)∧x.testBit (trailF k x)=true
 | 0,x,h0,h=>by simp at h;omega
 | k+1,x,h0,h=>by
  rw [Nat.pow_succ] at h
  by_cases hx:x % 2=1
  ·rw [trailF_odd hx]
   exact⟨fun i hi=>by omega,by simp [hx]⟩
  ·rw [trailF_even hx]
   obtain⟨h1,h2⟩:=trail_bit k (x / 2) (by omega) (by omega)
   refine⟨fun i hi=>?_,by rw [Nat.testBit_succ];exact h2⟩
   cases i with
   | zero=>simp;omega
   | succ i=>rw [Nat.testBit_succ];exact h1 i (by omega)
def tab64:List Nat:=[0,1,56,2,57,49,28,3,61,58,42,50,38,29,17,4,62,47,59,36,45,43,51,22,53,39,33,30,24,18,12,5,63,55,48,27,60,41,37,16,46,35,44,21,52,32,23,11,54,26,40,15,34,20,31,10,25,14,19,9,13,8,7,6]
theorem tab_all:(List.range 64).all (fun t=>decide (tab64[2 ^ t * 285870213051353865 % 18446744073709551616 / 288230376151711744]?=some t))=true:=by decide +kernel
theorem tab_at {t:Nat}(h:t<64):tab64[2 ^ t * 285870213051353865 % 18446744073709551616 / 288230376151711744]?=some t:=by
 have:=List.all_eq_true.1 tab_all t (List.mem_range.2 h)
 simpa using this
theorem trail_lt {x:Nat}(h0:0<x) (h:x<18446744073709551616):trail x<64:=(and_neg 64 x h0 h).2
theorem log_lt {x:Nat}(h0:0<x) (h:x<18446744073709551616):x.log2<64:=(Nat.log2_lt (by omega)).2 h
theorem lead_le (x:Nat):lead x≤31:=Nat.min_le_left _ _
theorem lead_trail {x:Nat}(h0:0<x) (h:x<18446744073709551616):lead x+trail x≤63:=by
 have h1:=(trail_bit 64 x h0 h).2
 have h2:2 ^ trail x≤x:=Nat.ge_two_pow_of_testBit h1
 have h3:trail x≤x.log2:=(Nat.le_log2 (by omega)).2 h2
 have h4:=log_lt h0 h
 have h5:lead x≤63-x.log2:=Nat.min_le_right _ _
 omega
end Go.Gor
namespace Go.Gor
def Smp64 (x:Smp):Prop:=(-9007199254740992≤x.1∧x.1≤9007199254740992)∧x.2<18446744073709551616
def WinOkP (win:Option (Nat×Nat)):Prop:=∀l r,win=some (l,r)→l+r≤63
theorem sub64_lt (a b:Int):sub64 a b<18446744073709551616:=by unfold sub64;omega
theorem zz_lt {t:Int}(h:-9007199254740992≤t∧t≤9007199254740992):zz t<18446744073709551616:=by unfold zz;split<;>omega
theorem v_len80 {x:Nat}(hx:x<18446744073709551616):(vbits x).length≤80:=v_len 9 x (Nat.lt_of_lt_of_le hx (by decide))
theorem change_len (d:Int):(changeB d).length≤68:=by
 unfold changeB
 split
 ·simp
 ·split
  ·simp [bits_len]
  ·split
   ·simp [bits_len]
   ·split<;>simp [bits_len]
theorem num_len (x:Nat) (win:Option (Nat×Nat)):(numB x win).1.length≤77:=by
 have hf:(fresh x).length≤77:=by simp [fresh,bits_len];omega
 unfold numB
 split
 ·simp
 ·split
  ·split
   ·simp [bits_len];omega
   ·exact hf
  ·exact hf
theorem num_win {x:Nat}{win:Option (Nat×Nat)}(hx:x<18446744073709551616) (h:WinOkP win):WinOkP (numB x win).2:=by
 unfold numB
 split
 ·exact h
 ·rename_i h0
  have hn:WinOkP (some (lead x,trail x)):=fun l r e=>by
   cases e
   exact lead_trail (by omega) hx
  split
  ·split
   ·rename_i l r _;exact h
   ·exact hn
  ·exact hn
theorem time_len (s:St) (n step:Nat) (h:step<18446744073709551616):(timeB s n step).length≤80:=by
 unfold timeB
 split
 ·exact v_len80 h
 ·exact Nat.le_trans (change_len _) (by decide)
theorem first_len {x:Smp}(h:Smp64 x):(firstB x).length≤160:=by
 have:=v_len80 (zz_lt h.1)
 simp [firstB,bits_len]
 omega
theorem xor64 {a b:Nat}(ha:a<18446744073709551616) (hb:b<18446744073709551616):a ^^^ b<18446744073709551616:=Nat.xor_lt_two_pow (n:=64) ha hb
def pushS (s:St) (n:Nat) (last x:Smp):St:=if n=0 then ⟨s.bits++firstB x,s.step,s.win⟩ else nextS s n last x
theorem st_push {l:List Smp}{k:Nat}{x:Smp}(hx:l[k]?=some x):stAt l (k+1)=pushS (stAt l k) k (l.getD (k-1) (0,0)) x:=by
 cases k with
 | zero=>rw [st_one hx];rfl
 | succ k =>
  have hk:k<l.length:=by have:=(List.getElem?_eq_some_iff.1 hx).1;omega
  rw [st_next (List.getElem?_eq_getElem hk) hx]
  unfold pushS
  rw [if_neg (by omega),show k+1-1=k by omega,List.getD_eq_getElem?_getD,List.getElem?_eq_getElem hk]
  rfl
theorem st_ok {l:List Smp}(h:∀x∈l,Smp64 x):∀k,k≤l.length→(stAt l k).bits.length≤160 * k∧(stAt l k).step<18446744073709551616∧WinOkP (stAt l k).win
 | 0,_=>⟨Nat.le_refl _,(by decide:(0:Nat)<18446744073709551616),fun l r e=>by cases e⟩
 | k+1,hk=>by
  have hx:l[k]?=some l[k]:=List.getElem?_eq_getElem (by omega)
  obtain⟨h1,h2,h3⟩:=st_ok h k (by omega)
  have hm:Smp64 l[k]:=h _ (List.getElem_mem _)
  rw [st_push hx]
  unfold pushS
  split
  ·refine⟨?_,h2,h3⟩
   have:=first_len hm
   simp only [List.length_append]
   omega
  ·have ha:Smp64 (l.getD (k-1) (0,0)):=by
    rw [List.getD_eq_getElem?_getD,List.getElem?_eq_getElem (show k-1<l.length by omega)]
    exact h _ (List.getElem_mem _)
   unfold nextS
   refine⟨?_,sub64_lt _ _,num_win (xor64 ha.2 hm.2) h3⟩
   have e1:=time_len (stAt l k) k (sub64 (l[k]).1 (l.getD (k-1) (0,0)).1) (sub64_lt _ _)
   have e2:=num_len ((l.getD (k-1) (0,0)).2 ^^^ (l[k]).2) (stAt l k).win
   simp only [List.length_append]
   omega
theorem st_prefix {l l':List Smp}:∀k,k≤l.length→l <+: l'→stAt l k=stAt l' k
 | 0,_,_=>rfl
 | k+1,hk,hp=>by
  have hx:l[k]?=some l[k]:=List.getElem?_eq_getElem (by omega)
  obtain⟨t,rfl⟩:=hp
  have hx':(l++t)[k]?=some l[k]:=by rw [List.getElem?_append_left (by omega)];exact hx
  rw [st_push hx,st_push hx',st_prefix k (by omega) ⟨t,rfl⟩]
  unfold pushS
  split
  ·rfl
  ·rename_i h0
   congr 1
   rw [List.getD_eq_getElem?_getD,List.getD_eq_getElem?_getD,List.getElem?_append_left (by omega)]
def farB (x:Smp):Bool:=decide (x.1 < -9007199254740992∨9007199254740992<x.1)
def farTo (l:List Smp) (k:Nat):Bool:=(List.range k).any (fun i=>farB (l.getD i (0,0)))
def fallB (l:List Smp) (i:Nat):Bool:=decide (0<i) && decide ((l.getD i (0,0)).1≤(l.getD (i-1) (0,0)).1)
def fallTo (l:List Smp) (k:Nat):Bool:=(List.range k).any (fallB l)
theorem far_zero (l:List Smp):farTo l 0=false:=rfl
theorem fall_zero (l:List Smp):fallTo l 0=false:=rfl
theorem far_succ (l:List Smp) (k:Nat):farTo l (k+1)=(farTo l k || farB (l.getD k (0,0))):=by simp [farTo,List.range_succ]
theorem fall_succ (l:List Smp) (k:Nat):fallTo l (k+1)=(fallTo l k || fallB l k):=by simp [fallTo,List.range_succ]
theorem far_of {l:List Smp}{i k:Nat}(h:i<k) (hf:farB (l.getD i (0,0))=true):farTo l k=true:=List.any_eq_true.2 ⟨i,List.mem_range.2 h,hf⟩
theorem fall_of {l:List Smp}{i k:Nat}(h:i<k) (hf:fallB l i=true):fallTo l k=true:=List.any_eq_true.2 ⟨i,List.mem_range.2 h,hf⟩
theorem not_far {l:List Smp}{i k:Nat}(h:i<k) (hf:farTo l k=false):farB (l.getD i (0,0))=false:=by
 cases h1:farB (l.getD i (0,0)) with
 | false=>rfl
 | true=>rw [far_of h h1] at hf;cases hf
theorem not_fall {l:List Smp}{i k:Nat}(h:i<k) (hf:fallTo l k=false):fallB l i=false:=by
 cases h1:fallB l i with
 | false=>rfl
 | true=>rw [fall_of h h1] at hf;cases hf
def fitsE (l:List Smp):Nat:=if farTo l l.length then 2 else if fallTo l l.length then 100 else 0
end Go.Gor
namespace Go.Gor
open Go.Ix
theorem groups_all:∀(done:List (List Smp)) (cur:List Smp),(∀g∈done,g.length=120)→cur.length≤120→groups (done.flatten++cur)=done++(if cur=[] then [] else [cur])
 | [],cur,_,hc=>by
  rw [List.flatten_nil,List.nil_append,List.nil_append]
  split
  ·rename_i h;rw [h,groups_nil]
  ·rename_i h
   rw [groups_cons h,List.take_of_length_le hc,List.drop_of_length_le hc,groups_nil]
 | g :: done,cur,hd,hc=>by
  have hg:g.length=120:=hd g (by simp)
  have hne:(g :: done).flatten++cur≠[]:=fun e=>by
   have:=congrArg List.length e
   rw [List.flatten_cons,List.append_assoc,List.length_append,List.length_nil] at this
   omega
  rw [groups_cons hne,List.flatten_cons,List.append_assoc,List.take_append_of_le_length (by omega),List.take_of_length_le (by omega),List.drop_append_of_le_length (by omega),List.drop_of_length_le (by omega),List.nil_append,groups_all done cur (fun x hx=>hd x (by simp [hx])) hc]
  rfl
def bytesG (gs:List (List Smp)):List Nat:=gs.flatMap chunkB
theorem bytesG_snoc (gs:List (List Smp)) (g:List Smp):bytesG (gs++[g])=bytesG gs++chunkB g:=by simp [bytesG]
theorem chunk_lt (g:List Smp):∀x∈chunkB g,x<256:=pack_lt _
theorem chunk_len {g:List Smp}(h:∀x∈g,Smp64 x):(chunkB g).length≤20 * g.length:=by
 unfold chunkB
 rw [pack_len]
 have:=(st_ok h g.length (Nat.le_refl _)).1
 omega
theorem bytes_len:∀(n:Nat) (l:List Smp),l.length≤n→(∀x∈l,Smp64 x)→(bytesG (groups l)).length≤20 * l.length
 | 0,l,hl,_=>by
  have:l=[]:=List.eq_nil_of_length_eq_zero (by omega)
  rw [this,groups_nil]
  simp [bytesG]
 | n+1,l,hl,h=>by
  by_cases h0:l=[]
  ·rw [h0,groups_nil];simp [bytesG]
  ·rw [groups_cons h0]
   have hp:=List.length_pos_iff.2 h0
   have h1:=bytes_len n (l.drop 120) (by simp;omega) (fun x hx=>h x (List.mem_of_mem_drop hx))
   have h2:=chunk_len (g:=l.take 120) (fun x hx=>h x (List.mem_of_mem_take hx))
   show (chunkB (l.take 120)++bytesG (groups (l.drop 120))).length≤_
   rw [List.length_append]
   rw [List.length_take] at h2
   rw [List.length_drop] at h1
   omega
def plcOf (g:List Smp) (p:Nat):Plc:=⟨(g.getD 0 (0,0)).1,(g.getD (g.length-1) (0,0)).1,(g.length:Nat),(p:Nat),((chunkB g).length:Nat)⟩
def plcsG:Nat→List (List Smp)→List Plc
 | _,[]=>[]
 | p,g :: gs=>plcOf g p :: plcsG (p+(chunkB g).length) gs
theorem plcsG_snoc:∀(p:Nat) (gs:List (List Smp)) (g:List Smp),plcsG p (gs++[g])=plcsG p gs++[plcOf g (p+(bytesG gs).length)]
 | p,[],g=>by simp [plcsG,bytesG]
 | p,x :: gs,g=>by
  show plcOf x p :: plcsG (p+(chunkB x).length) (gs++[g])=_
  rw [plcsG_snoc]
  show _=plcOf x p :: (plcsG (p+(chunkB x).length) gs++[plcOf g (p+(chunkB x++bytesG gs).length)])
  rw [List.length_append,Nat.add_assoc]
theorem plcsG_len:∀(p:Nat) (gs:List (List Smp)),(plcsG p gs).length=gs.length
 | _,[]=>rfl
 | p,g :: gs=>by
  show (plcsG (p+(chunkB g).length) gs).length+1=_
  rw [plcsG_len,List.length_cons]
abbrev SerP:=List Lbl×List Smp
def dataS (l:List SerP):List Nat:=l.flatMap fun s=>bytesG (groups s.2)
theorem dataS_snoc (l:List SerP) (s:SerP):dataS (l++[s])=dataS l++bytesG (groups s.2):=by simp [dataS]
def entsS:Nat→List SerP→List Ent
 | _,[]=>[]
 | p,s :: l=>(s.1,plcsG p (groups s.2)) :: entsS (p+(bytesG (groups s.2)).length) l
theorem entsS_snoc:∀(p:Nat) (l:List SerP) (s:SerP),entsS p (l++[s])=entsS p l++[(s.1,plcsG (p+(dataS l).length) (groups s.2))]
 | p,[],s=>by simp [entsS,dataS]
 | p,x :: l,s=>by
  show (x.1,plcsG p (groups x.2)) :: entsS (p+(bytesG (groups x.2)).length) (l++[s])=_
  rw [entsS_snoc]
  show _=(x.1,plcsG p (groups x.2)) :: (entsS (p+(bytesG (groups x.2)).length) l++[(s.1,plcsG (p+(bytesG (groups x.2)++dataS l).length) (groups s.2))])
  rw [List.length_append,Nat.add_assoc]
theorem entsS_len:∀(p:Nat) (l:List SerP),(entsS p l).length=l.length
 | _,[]=>rfl
 | p,s :: l=>by
  show (entsS (p+(bytesG (groups s.2)).length) l).length+1=_
  rw [entsS_len,List.length_cons]
theorem entsS_map:∀(p:Nat) (l:List SerP),(entsS p l).map (·.1)=l.map (·.1)
 | _,[]=>rfl
 | p,s :: l=>by
  show s.1 :: (entsS (p+(bytesG (groups s.2)).length) l).map (·.1)=_
  rw [entsS_map]
  rfl
theorem entsS_at {p:Nat}{l:List SerP}{i:Nat}{s:SerP}(h:l[i]?=some s):∃ps,(entsS p l)[i]?=some (s.1,ps):=by
 have h1:((entsS p l).map (·.1))[i]?=some s.1:=by rw [entsS_map,List.getElem?_map,h];rfl
 rw [List.getElem?_map] at h1
 cases h2:(entsS p l)[i]? with
 | none=>rw [h2] at h1;cases h1
 | some e =>
  rw [h2] at h1
  have h3:e.1=s.1:=by simpa using h1
  exact⟨e.2,by rw [← h3]⟩
theorem entsS_mem:∀(p:Nat) (l:List SerP) (e:Ent),e∈entsS p l→∃s∈l,∃q,e=(s.1,plcsG q (groups s.2))
 | _,[],e,h=>by cases h
 | p,s :: l,e,h=>by
  rcases List.mem_cons.1 h with rfl | h
  ·exact⟨s,by simp,p,rfl⟩
  ·obtain⟨s',h1,q,h2⟩:=entsS_mem _ l e h
   exact⟨s',by simp [h1],q,h2⟩
theorem data_len {l:List SerP}(h:∀s∈l,∀x∈s.2,Smp64 x):(dataS l).length≤20 * (l.map fun s=>s.2.length).sum:=by
 induction l with
 | nil=>simp [dataS]
 | cons s l ih =>
  have h1:=bytes_len _ s.2 (Nat.le_refl _) (h s (by simp))
  have h2:=ih fun x hx=>h x (by simp [hx])
  show (bytesG (groups s.2)++dataS l).length≤_
  rw [List.length_append,List.map_cons,List.sum_cons]
  omega
theorem data_bytes (l:List SerP):∀x∈dataS l,x<256:=fun x hx=>by
 obtain⟨s,_,hx⟩:=List.mem_flatMap.1 hx
 obtain⟨g,_,hx⟩:=List.mem_flatMap.1 hx
 exact chunk_lt g x hx
def GoodS (s:SerP):Prop:=s.2≠[]∧fitsE s.2=0
def BlkOk (level:Int) (l:List SerP):Prop:=0≤level∧level≤65535∧l≠[]∧(∀s∈l,GoodS s)∧May (entsS 0 l)
def blkHead (crc:List Nat→Nat) (id level:Nat) (l:List SerP):List Nat:=[66,71,66,76]++low 4 id++low 2 level++low 4 (encd crc (entsS 0 l)).length
def blkBody (crc:List Nat→Nat) (id level:Nat) (l:List SerP):List Nat:=blkHead crc id level l++encd crc (entsS 0 l)++dataS l
def blkB (crc:List Nat→Nat) (id level:Nat) (l:List SerP):List Nat:=blkBody crc id level l++low 4 (crc (blkBody crc id level l))
theorem far_smp {x:Smp}(h:farB x=false):-9007199254740992≤x.1∧x.1≤9007199254740992:=by
 unfold farB at h
 have:=of_decide_eq_false h
 omega
theorem fits_zero {l:List Smp}(h:fitsE l=0):farTo l l.length=false∧fallTo l l.length=false:=by
 unfold fitsE at h
 cases h1:farTo l l.length with
 | true=>rw [h1] at h;simp at h
 | false =>
  cases h2:fallTo l l.length with
  | true=>rw [h1,h2] at h;simp at h
  | false=>exact⟨rfl,rfl⟩
theorem fits_smp {l:List Smp}(h:fitsE l=0) (hx:∀x∈l,x.2<18446744073709551616):∀x∈l,Smp64 x:=fun x hm=>by
 obtain⟨i,hi⟩:=List.getElem?_of_mem hm
 have hlt:=(List.getElem?_eq_some_iff.1 hi).1
 have:=not_far hlt (fits_zero h).1
 rw [List.getD_eq_getElem?_getD,hi] at this
 exact⟨far_smp this,hx x hm⟩
theorem fits_rise {l:List Smp}(h:fitsE l=0) {i:Nat}{a b:Smp}(ha:l[i]?=some a) (hb:l[i+1]?=some b):a.1<b.1:=by
 have hlt:=(List.getElem?_eq_some_iff.1 hb).1
 have:=not_fall hlt (fits_zero h).2
 unfold fallB at this
 rw [List.getD_eq_getElem?_getD,hb,List.getD_eq_getElem?_getD,show i+1-1=i by omega,ha] at this
 simpa using this
end Go.Gor
namespace Go.Gor
open Go
theorem len_log:∀(f x:Nat),x<2 ^ f→0<x→Lib.bitLenAux f x=x.log2+1
 | 0,x,h,h0=>by simp at h;omega
 | f+1,x,h,h0=>by
  rw [Nat.pow_succ] at h
  rw [Lib.bitLenAux,if_neg (by omega),Nat.log2_def]
  by_cases h2:2≤x
  ·rw [if_pos h2,len_log f (x / 2) (by omega) (by omega)]
   omega
  ·rw [if_neg h2]
   have:x / 2=0:=by omega
   rw [this]
   cases f<;>simp [Lib.bitLenAux]
theorem len0 {x:Nat}(h:x<18446744073709551616):x<2 ^ 64:=by omega
theorem len1 {x:Nat}(h0:0<x) (h:x<2 ^ 64):Lib.bitLenAux 64 x=x.log2+1:=len_log 64 x h h0
theorem len2 {x:Nat}(h0:0<x) (h:x<2 ^ 64):Lib.bitLen x=x.log2+1:=by
 rw [Lib.bitLen]
 exact len1 h0 h
theorem len3 {x:Nat}(hl:x.log2<64):(64-((x.log2+1:Nat):Int))=((63-x.log2:Nat):Int):=by omega
theorem len4 {x:Nat}(h0:0<x) (h:x<2 ^ 64) (hl:x.log2<64):(64-(Lib.bitLen (x:Int).toNat:Int))=((63-x.log2:Nat):Int):=by
 rw [Int.toNat_natCast,len2 h0 h]
 exact len3 hl
end Go.Gor
namespace Go.Gor
theorem lead_bit {x:Nat}(h0:0<x) (h:x<18446744073709551616):(∀l,l<lead x→x.testBit (63-l)=false)∧(lead x<31→x.testBit (63-lead x)=true):=by
 have hl:=log_lt h0 h
 refine⟨fun l hl2=>?_,fun h31=>?_⟩
 ·unfold lead at hl2
  refine Nat.testBit_lt_two_pow ?_
  exact (Nat.log2_lt (by omega)).1 (by omega)
 ·have e:63-lead x=x.log2:=by unfold lead at h31 ⊢;omega
  rw [e,Nat.testBit_log2 (by omega)]
def one8 (l:List Bool):List Nat:=l.map Bool.toNat
theorem one8_len (l:List Bool):(one8 l).length=l.length:=by simp [one8]
theorem one8_snoc (l:List Bool) (b:Bool):one8 (l++[b])=one8 l++[b.toNat]:=by simp [one8]
theorem one8_at {l:List Bool}{i:Nat}(h:i<l.length):(one8 l)[i]?=some (l[i]).toNat:=by
 unfold one8
 rw [List.getElem?_map,List.getElem?_eq_getElem h]
 rfl
def eight (l:List Bool) (i:Nat):List Bool:=(l.drop (8 * i)).take 8
theorem pack_step {l:List Bool}{i:Nat}(h:8 * i<l.length):(pack l).take (i+1)=(pack l).take i++[padV (eight l i) 8]:=by
 rw [List.take_add_one,pack_at i l h]
 have:(eight l i).take 8=eight l i:=by unfold eight;rw [List.take_take];rfl
 rw [pad_eight,this]
 rfl
theorem eight_at {l:List Bool}{i k:Nat}(hk:k<8):(eight l i)[k]?=l[8 * i+k]?:=by
 unfold eight
 rw [List.getElem?_take,if_pos hk,List.getElem?_drop]
theorem eight_none {l:List Bool}{i k:Nat}(h:l.length≤8 * i+k):(eight l i).length≤k:=by
 unfold eight
 rw [List.length_take,List.length_drop]
 omega
theorem pad_next {l:List Bool}{i k:Nat}(hk:k<8) (h:8 * i+k<l.length):padV (eight l i) (k+1)=2 * padV (eight l i) k+(l[8 * i+k]).toNat:=pad_bit (by rw [eight_at hk,List.getElem?_eq_getElem h])
theorem pad_void {l:List Bool}{i k:Nat}(h:l.length≤8 * i+k):padV (eight l i) (k+1)=2 * padV (eight l i) k:=pad_none (eight_none h)
end Go.Gor
namespace Go.Gor
abbrev Bk:=Nat×Nat×Int×Int×Nat
def rowsB:List Bk:=[(2,2,-63,64,7),(6,3,-255,256,9),(14,4,-2047,2048,12)]
def chFrom (d:Int):List Bk→List Bool
 | []=>bitsOf 15 4++bitsOf (d % 18446744073709551616).toNat 64
 | x :: r=>if x.2.2.1≤d∧d≤x.2.2.2.1 then bitsOf x.1 x.2.1++bitsOf (d-x.2.2.1).toNat x.2.2.2.2 else chFrom d r
theorem change_from {d:Int}(h:d≠0):changeB d=chFrom d rowsB:=by
 unfold changeB rowsB
 rw [if_neg h]
 simp only [chFrom]
 rw [show d - -63=d+63 by omega,show d - -255=d+255 by omega,show d - -2047=d+2047 by omega]
theorem rows_at {k:Nat}{x:Bk}(h:rowsB[k]?=some x):rowsB.drop k=x :: rowsB.drop (k+1):=by
 obtain⟨h1,rfl⟩:=List.getElem?_eq_some_iff.1 h
 exact List.drop_eq_getElem_cons h1
theorem rows_ok {k:Nat}{x:Bk}(h:rowsB[k]?=some x):x.1<100∧x.2.1≤64∧ -2047≤x.2.2.1∧x.2.2.2.1≤2048∧x.2.2.2.2≤64:=by
 have h1:=List.mem_of_getElem? h
 have:∀y∈rowsB,y.1<100∧y.2.1≤64∧ -2047≤y.2.2.1∧y.2.2.2.1≤2048∧y.2.2.2.2≤64:=by decide
 exact this x h1
theorem rows_three {k:Nat}(h:k<3):∃x,rowsB[k]?=some x:=⟨_,List.getElem?_eq_getElem (show k<rowsB.length from h)⟩
end Go.Gor
