/- Plain laws, no program. No conditions. -/
import Derived.Test.YtejeflddeanccaaGreatDoorP0
import Derived.Laws.Bits64
set_option linter.unusedSimpArgs false
set_option linter.unusedVariables false
set_option linter.deprecated false
set_option linter.unnecessarySimpa false
namespace Go.Tm
open Go.Ix
abbrev Tomb:=List Lbl×Int×Int
def two (s:Txt):List Nat:=low 2 s.length++nums s
def lblB (y:Lbl):List Nat:=two y.1++two y.2
def labsB (l:List Lbl):List Nat:=l.length :: l.flatMap lblB
def tombB (t:Tomb):List Nat:=labsB t.1++low 8 (u64 t.2.1)++low 8 (u64 t.2.2)
def bodyB (l:List Tomb):List Nat:=low 2 l.length++l.flatMap tombB
def MayT (l:List Tomb):Prop:=l.length≤65535∧∀t∈l,check t.1=0
def doneB (l:List Tomb):List Nat:=bodyB l++low 4 (crc (bodyB l))
open Classical in
noncomputable def tombs (l:List Tomb):Option (List Nat):=if MayT l then some (doneB l) else none
def txtOf (b:List Nat):Txt:=b.map UInt8.ofNat
def takeT:List Nat→Option (Txt×List Nat)
 | x :: y :: r=>if x+256 * y≤r.length then some (txtOf (r.take (x+256 * y)),r.drop (x+256 * y)) else none
 | _=>none
def takeL:Nat→List Nat→Option (List Lbl×List Nat)
 | 0,b=>some ([],b)
 | k+1,b=>match takeT b with
  | none=>none
  | some (n,b)=>match takeT b with
   | none=>none
   | some (v,b)=>match takeL k b with
    | none=>none
    | some (l,b)=>some ((n,v) :: l,b)
open Classical in
noncomputable def dec:List Nat→Option (List Lbl×List Nat)
 | []=>none
 | c :: r=>match takeL c r with
  | none=>none
  | some (l,r)=>if check l=0 then some (l,r) else none
def s64 (n:Nat):Int:=if n<9223372036854775808 then (n:Int) else (n:Int)-18446744073709551616
noncomputable def takeTomb (b:List Nat):Option (Tomb×List Nat):=match dec b with
 | none=>none
 | some (l,r)=>if 16≤r.length then some ((l,s64 (back (r.take 8)),s64 (back ((r.drop 8).take 8))),r.drop 16) else none
noncomputable def takeTs:Nat→List Nat→Option (List Tomb×List Nat)
 | 0,b=>some ([],b)
 | k+1,b=>match takeTomb b with
  | none=>none
  | some (t,b)=>match takeTs k b with
   | none=>none
   | some (l,b)=>some (t :: l,b)
open Classical in
noncomputable def opened (b:List Nat):Option (List Tomb) :=
 if b.length<6 then none else match takeTs (back (b.take 2)) ((b.take (b.length-4)).drop 2) with
  | none=>none
  | some (l,_)=>if tombs l=some b then some l else none
theorem txt_nums (s:Txt):txtOf (nums s)=s:=by
 unfold txtOf nums
 rw [List.map_map]
 conv=>rhs;rw [← List.map_id s]
 exact List.map_congr_left fun x _=>by simp
theorem takeT_two {s:Txt}(r:List Nat) (h:s.length<65536):takeT (two s++r)=some (s,r):=by
 have e:two s++r=s.length % 256 :: s.length / 256 % 256 :: (nums s++r):=rfl
 rw [e]
 have h1:s.length % 256+256 * (s.length / 256 % 256)=s.length:=by omega
 unfold takeT
 simp only
 rw [h1,if_pos (by rw [List.length_append,nums_len];omega),List.take_left' (nums_len s),List.drop_left' (nums_len s),txt_nums]
theorem takeL_of {l:List Lbl}(r:List Nat) (h:∀y∈l,y.1.length<65536∧y.2.length<65536):takeL l.length (l.flatMap lblB++r)=some (l,r):=by
 induction l with
 | nil=>rfl
 | cons y l ih =>
  obtain⟨h1,h2⟩:=h y (by simp)
  have e:(y :: l).flatMap lblB++r=two y.1++(two y.2++(l.flatMap lblB++r)):=by simp [lblB]
  rw [e]
  unfold takeL
  rw [List.length_cons]
  simp only [takeT_two _ h1,takeT_two _ h2,ih fun z hz=>h z (by simp [hz])]
theorem lens_of {l:List Lbl}(h:check l=0):∀y∈l,y.1.length<65536∧y.2.length<65536:=fun y hy=>by
 obtain⟨h1,h2,h3⟩:=(of_check h).2.1 y hy
 have:=h1.2.1
 omega
theorem dec_labs {l:List Lbl}(r:List Nat) (h:check l=0):dec (labsB l++r)=some (l,r):=by
 have e:labsB l++r=l.length :: (l.flatMap lblB++r):=rfl
 rw [e]
 unfold dec
 simp only [takeL_of r (lens_of h),if_pos h]
def In64 (x:Int):Prop:=-9223372036854775808≤x∧x<9223372036854775808
theorem s64_u64 {x:Int}(h:In64 x):s64 (u64 x)=x:=by
 obtain⟨h1,h2⟩:=h
 unfold s64 u64
 split<;>omega
theorem s64_low {x:Int}(h:In64 x):s64 (back (low 8 (u64 x)))=x:=by
 rw [back_low]
 have:u64 x<18446744073709551616:=by unfold u64;omega
 rw [Nat.mod_eq_of_lt (by omega)]
 exact s64_u64 h
theorem takeTomb_of {t:Tomb}(r:List Nat) (h:check t.1=0) (h1:In64 t.2.1) (h2:In64 t.2.2):takeTomb (tombB t++r)=some (t,r):=by
 have e:tombB t++r=labsB t.1++(low 8 (u64 t.2.1)++(low 8 (u64 t.2.2)++r)):=by simp [tombB]
 rw [e]
 unfold takeTomb
 simp only [dec_labs _ h]
 have l1:=low_len 8 (u64 t.2.1)
 have l2:=low_len 8 (u64 t.2.2)
 rw [if_pos (by rw [List.length_append,List.length_append,l1,l2];omega),List.take_left' l1,List.drop_left' l1,List.take_left' l2,s64_low h1,s64_low h2]
 rw [show (16:Nat)=8+8 by rfl,← List.drop_drop,List.drop_left' l1,List.drop_left' l2]
theorem takeTs_of {l:List Tomb}(r:List Nat) (h:∀t∈l,check t.1=0∧In64 t.2.1∧In64 t.2.2):takeTs l.length (l.flatMap tombB++r)=some (l,r):=by
 induction l with
 | nil=>rfl
 | cons t l ih =>
  obtain⟨h1,h2,h3⟩:=h t (by simp)
  have e:(t :: l).flatMap tombB++r=tombB t++(l.flatMap tombB++r):=by simp
  rw [e]
  unfold takeTs
  rw [List.length_cons]
  simp only [takeTomb_of _ h1 h2 h3,ih fun z hz=>h z (by simp [hz])]
theorem opened_done {l:List Tomb}(h:MayT l) (h64:∀t∈l,In64 t.2.1∧In64 t.2.2):opened (doneB l)=some l:=by
 have hl:(doneB l).length=(bodyB l).length+4:=by unfold doneB;rw [List.length_append,low_len]
 have hb:2≤(bodyB l).length:=by unfold bodyB;rw [List.length_append,low_len];omega
 have h2:(doneB l).take 2=low 2 l.length:=by
  unfold doneB bodyB
  rw [List.append_assoc,List.take_left' (low_len 2 _)]
 have h3:(doneB l).take ((doneB l).length-4)=bodyB l:=by
  rw [hl,Nat.add_sub_cancel]
  unfold doneB
  rw [List.take_left' rfl]
 have h4:(bodyB l).drop 2=l.flatMap tombB++[]:=by
  unfold bodyB
  rw [List.drop_left' (low_len 2 _),List.append_nil]
 have h5:l.length<65536:=by have:=h.1;omega
 unfold opened
 rw [if_neg (by omega),h2,h3,h4,back_low,Nat.mod_eq_of_lt (by omega),takeTs_of [] fun t ht=>⟨h.2 t ht,h64 t ht⟩]
 simp only
 rw [if_pos (by unfold tombs;rw [if_pos h])]
def takeA (acc:List Lbl) (k:Nat) (b:List Nat):Option (List Lbl×List Nat):=(takeL k b).map fun p=>(acc++p.1,p.2)
theorem takeA_nil (k:Nat) (b:List Nat):takeA [] k b=takeL k b:=by
 unfold takeA
 cases takeL k b<;>rfl
theorem takeA_zero (acc:List Lbl) (b:List Nat):takeA acc 0 b=some (acc,b):=by simp [takeA,takeL]
theorem takeA_one {acc:List Lbl}{k:Nat}{b:List Nat}(h:takeT b=none):takeA acc (k+1) b=none:=by simp [takeA,takeL,h]
theorem takeA_two {acc:List Lbl}{k:Nat}{b r:List Nat}{n:Txt}(h:takeT b=some (n,r)) (h2:takeT r=none):takeA acc (k+1) b=none:=by simp [takeA,takeL,h,h2]
theorem takeA_step {acc:List Lbl}{k:Nat}{b r r':List Nat}{n v:Txt}(h:takeT b=some (n,r)) (h2:takeT r=some (v,r')):takeA acc (k+1) b=takeA (acc++[(n,v)]) k r':=by
 unfold takeA
 conv=>lhs;unfold takeL
 simp only [h,h2]
 cases takeL k r' with
 | none=>rfl
 | some p=>simp
theorem takeT_drop {b r:List Nat}{s:Txt}(h:takeT b=some (s,r)):r=b.drop (2+s.length)∧2+s.length≤b.length∧s=txtOf ((b.drop 2).take s.length):=by
 match b,h with
 | x :: y :: q,h =>
  unfold takeT at h
  simp only at h
  split at h
  ·rename_i hl
   simp only [Option.some.injEq,Prod.mk.injEq] at h
   obtain⟨h1,h2⟩:=h
   have h3:s.length=x+256 * y:=by
    rw [← h1]
    unfold txtOf
    rw [List.length_map,List.length_take]
    omega
   refine⟨?_,by rw [h3];simp;omega,?_⟩
   ·rw [h3,← h2,show 2+(x+256 * y)=(x+256 * y)+2 by omega]
    rfl
   ·rw [h3,← h1]
    rfl
  ·cases h
theorem takeT_len {b r:List Nat}{s:Txt}(hb:∀x∈b,x<256) (h:takeT b=some (s,r)):s.length<65536:=by
 match b,h with
 | x :: y :: q,h =>
  unfold takeT at h
  simp only at h
  split at h
  ·simp only [Option.some.injEq,Prod.mk.injEq] at h
   have h1:=hb x (by simp)
   have h2:=hb y (by simp)
   rw [← h.1]
   unfold txtOf
   rw [List.length_map,List.length_take]
   omega
  ·cases h
theorem nums_txt {l:List Nat}(h:∀x∈l,x<256):nums (txtOf l)=l:=by
 unfold nums txtOf
 rw [List.map_map]
 conv=>rhs;rw [← List.map_id l]
 refine List.map_congr_left fun x hx=>?_
 have:=h x hx
 simp [UInt8.toNat_ofNat,Nat.mod_eq_of_lt this]
theorem takeT_short {b:List Nat}(h:b.length<2):takeT b=none:=by
 match b,h with
 | [],_=>rfl
 | [_],_=>rfl
theorem takeT_at {b:List Nat}{x y:Nat}(h0:b[0]?=some x) (h1:b[1]?=some y):takeT b=if x+256 * y≤b.length-2 then some (txtOf ((b.drop 2).take (x+256 * y)),b.drop (2+(x+256 * y))) else none:=by
 match b,h0,h1 with
 | a :: c :: q,h0,h1 =>
  simp at h0 h1
  subst h0 h1
  unfold takeT
  simp only [List.length_cons]
  by_cases h:a+256 * c≤q.length
  ·rw [if_pos h,if_pos (by omega),show 2+(a+256 * c)=(a+256 * c)+2 by omega]
   rfl
  ·rw [if_neg h,if_neg (by omega)]
noncomputable def takeTA (acc:List Tomb) (k:Nat) (b:List Nat):Option (List Tomb×List Nat):=(takeTs k b).map fun p=>(acc++p.1,p.2)
theorem takeTA_nil (k:Nat) (b:List Nat):takeTA [] k b=takeTs k b:=by
 unfold takeTA
 cases takeTs k b<;>rfl
theorem takeTA_zero (acc:List Tomb) (b:List Nat):takeTA acc 0 b=some (acc,b):=by simp [takeTA,takeTs]
theorem takeTA_none {acc:List Tomb}{k:Nat}{b:List Nat}(h:takeTomb b=none):takeTA acc (k+1) b=none:=by simp [takeTA,takeTs,h]
theorem takeTA_step {acc:List Tomb}{k:Nat}{b r:List Nat}{t:Tomb}(h:takeTomb b=some (t,r)):takeTA acc (k+1) b=takeTA (acc++[t]) k r:=by
 unfold takeTA
 conv=>lhs;unfold takeTs
 simp only [h]
 cases takeTs k r with
 | none=>rfl
 | some p=>simp
theorem takeTomb_none {b:List Nat}(h:dec b=none):takeTomb b=none:=by simp [takeTomb,h]
theorem takeTomb_short {b r:List Nat}{l:List Lbl}(h:dec b=some (l,r)) (hr:r.length<16):takeTomb b=none:=by
 simp only [takeTomb,h]
 rw [if_neg (by omega)]
theorem takeTomb_some {b r:List Nat}{l:List Lbl}(h:dec b=some (l,r)) (hr:16≤r.length):takeTomb b=some ((l,s64 (back (r.take 8)),s64 (back ((r.drop 8).take 8))),r.drop 16):=by
 simp only [takeTomb,h]
 rw [if_pos hr]
def inner (bs:List Nat):List Nat:=(bs.take (bs.length-4)).drop 2
theorem opened_short {bs:List Nat}(h:bs.length<6):opened bs=none:=by
 unfold opened
 rw [if_pos h]
theorem opened_none {bs:List Nat}(h6:¬ bs.length<6) (h:takeTs (back (bs.take 2)) (inner bs)=none):opened bs=none:=by
 unfold opened
 rw [if_neg h6]
 unfold inner at h
 simp only [h]
theorem opened_bad {bs r:List Nat}{l:List Tomb}(h6:¬ bs.length<6) (h:takeTs (back (bs.take 2)) (inner bs)=some (l,r)) (ht:tombs l≠some bs):opened bs=none:=by
 unfold opened
 rw [if_neg h6]
 unfold inner at h
 simp only [h]
 rw [if_neg ht]
theorem opened_good {bs r:List Nat}{l:List Tomb}(h6:¬ bs.length<6) (h:takeTs (back (bs.take 2)) (inner bs)=some (l,r)) (ht:tombs l=some bs):opened bs=some l:=by
 unfold opened
 rw [if_neg h6]
 unfold inner at h
 simp only [h]
 rw [if_pos ht]
theorem txt_inj {a b:List Nat}(ha:∀x∈a,x<256) (hb:∀x∈b,x<256):txtOf a=txtOf b↔a=b:=by
 constructor
 ·intro h
  rw [← nums_txt ha,← nums_txt hb,h]
 ·rintro rfl
  rfl
theorem tombs_no {l:List Tomb}(h:¬ MayT l) (bs:List Nat):tombs l≠some bs:=by
 unfold tombs
 rw [if_neg h]
 simp
theorem tombs_yes {l:List Tomb}(h:MayT l) (bs:List Nat):tombs l=some bs↔doneB l=bs:=by
 unfold tombs
 rw [if_pos h]
 simp
theorem takeL_drop:∀(k:Nat) (b:List Nat) (l:List Lbl) (r:List Nat),takeL k b=some (l,r)→∃j,j≤b.length∧r=b.drop j
 | 0,b,l,r,h=>by
  simp only [takeL,Option.some.injEq,Prod.mk.injEq] at h
  exact⟨0,Nat.zero_le _,by rw [List.drop_zero,h.2]⟩
 | k+1,b,l,r,h=>by
  unfold takeL at h
  split at h
  ·cases h
  ·rename_i n b1 h1
   split at h
   ·cases h
   ·rename_i v b2 h2
    split at h
    ·cases h
    ·rename_i l2 b3 h3
     simp only [Option.some.injEq,Prod.mk.injEq] at h
     obtain⟨j,hj,e⟩:=takeL_drop k b2 l2 b3 h3
     have a1:=takeT_drop h1
     have a2:=takeT_drop h2
     have e2:b2=b.drop (2+n.length+(2+v.length)):=by rw [a2.1,a1.1,List.drop_drop]
     have hl1:b1.length=b.length-(2+n.length):=by rw [a1.1,List.length_drop]
     have hl2:b2.length=b.length-(2+n.length+(2+v.length)):=by rw [e2,List.length_drop]
     have a22:=a2.2.1
     have a12:=a1.2.1
     refine⟨2+n.length+(2+v.length)+j,by omega,?_⟩
     rw [← h.2,e,e2,List.drop_drop]
theorem dec_drop {b r:List Nat}{l:List Lbl}(h:dec b=some (l,r)):∃j,j≤b.length∧r=b.drop j:=by
 match b,h with
 | c :: q,h =>
  unfold dec at h
  simp only at h
  split at h
  ·cases h
  ·rename_i l2 r2 h2
   split at h
   ·simp only [Option.some.injEq,Prod.mk.injEq] at h
    obtain⟨j,hj,e⟩:=takeL_drop _ _ _ _ h2
    exact⟨j+1,by simp only [List.length_cons];omega,by rw [← h.2,e];rfl⟩
   ·cases h
end Go.Tm
namespace Go.Ix
open Go
theorem wrap_u64k (n:Int):IntKind.u64.wrap n=((Go.Ix.u64 n:Nat):Int):=by
 rw [IntKind.wrap_u64]
 unfold Go.Ix.u64
 omega
theorem u64_below (n:Int):Go.Ix.u64 n<18446744073709551616:=by
 unfold Go.Ix.u64
 omega
end Go.Ix
