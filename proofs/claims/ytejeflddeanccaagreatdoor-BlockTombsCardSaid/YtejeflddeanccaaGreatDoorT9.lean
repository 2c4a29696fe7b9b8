/- Contracts over this program. Their conditions: the slices read as the lists that are named, and lie within the sizes that are named. -/
import Derived.Test.YtejeflddeanccaaGreatDoorT8
import Derived.Deep.RegionHeldLaw
import Derived.Test.YtejeflddeanccaaGreatDoorT2
import Derived.LaidEql
import Derived.Stop.Asserts
import Derived.RowKitTokens
import Derived.Lib.IfaceEq
import Derived.Test.YtejeflddeanccaaGreatDoorP0
set_option linter.unusedSimpArgs false
set_option linter.unusedVariables false
set_option linter.deprecated false
set_option linter.unnecessarySimpa false
namespace Go.Proofs.YtejeflddeanccaaGreatDoor
open Go Go.RowKit Go.Ix Go.Tm
theorem two_len (s:Txt):(two s).length=2+s.length:=by rw [two_eq,List.length_append,nums_len];rfl
theorem flatL_len:∀{l:List Lbl},(∀y∈l,y.1.length≤1024∧y.2.length≤1024)→(l.flatMap lblB).length≤2052 * l.length
 | [],_=>by simp
 | y :: l,h=>by
  have h1:=h y (by simp)
  have h2:=flatL_len (l:=l) fun z hz=>h z (by simp [hz])
  have h3:(lblB y).length=2+y.1.length+(2+y.2.length):=by
   unfold lblB
   rw [List.length_append,two_len,two_len]
  rw [List.flatMap_cons,List.length_append,List.length_cons,h3]
  omega
theorem part_len {l:List Lbl}(h:check l=0) (k:Nat):l.length≤64∧(l.length :: (l.take k).flatMap lblB).length≤200000:=by
 obtain⟨h1,h2,_⟩:=of_check h
 refine⟨h1,?_⟩
 have h3:=flatL_len (l:=l.take k) fun y hy=>by
  have:=h2 y (List.mem_of_mem_take hy)
  exact⟨this.1.2.1,this.2.2⟩
 rw [List.length_take] at h3
 rw [List.length_cons]
 have:min k l.length≤64:=by omega
 omega
theorem part_step {l:List Lbl}{k:Nat}{y:Lbl}(h:l[k]?=some y):l.length :: (l.take (k+1)).flatMap lblB=((l.length :: (l.take k).flatMap lblB)++two y.1)++two y.2:=by
 rw [take_snoc h,List.flatMap_append]
 simp [lblB]
def EncEnd (w:World) (k:Int) (bs:List Nat) (e:Ending) (w':World):Prop :=
 Below w.heap.size w w'∧((k≠0∧e=.returned (.tuple #[.slice none 0 0,.int .u16 k]))∨(k=0∧∃v,e=.returned (.tuple #[v,.int .u16 0])∧Row8 w' w.heap.size v bs))
theorem row8_new (w:World) (B:Nat) (hB:B≤w.heap.size) (bs:List Nat) (n:Nat) (hn:bs.length=n) (h:n≤1000000):Row8 (w.alloc (.cells (octs bs).toArray 5)) B (.slice (some ⟨w.heap.size,0,none⟩) n n) bs:=by
 unfold Row8
 rw [hn]
 refine⟨by rw [octs_len,hn,Nat.mul_one],.inr ⟨w.heap.size,n,(octs bs).toArray,rfl,hB,heap_alloc_new _ _,Nat.le_refl _,by unfold maxLen;omega,by simp [octs_len,hn],?_⟩⟩
 rw [List.take_of_length_le (by simp [octs_len,hn])]
set_option maxRecDepth 20000 in
set_option maxHeartbeats 1000000 in
theorem penc_rows (o:Option Addr) (c n:Nat) (l:List Lbl) (w:World) (hn:l.length=n) (hl:n≤1000000000) (hs:∀y∈l,y.1.length≤1000000000∧y.2.length≤1000000000) (hc:Rows2 w o l):Calls Tryz.prog 18 #[.slice o n c] w (EncEnd w (check l) (labsB l)):=by
 have HC:=Lib.hid (pcheck_rows o c n l w hn hl hs hc)
 by_cases hk:check l=0
 ·obtain⟨h64,_⟩:=part_len hk 0
  have HP:=Lib.hid (fun k=>(part_len hk k).2)
  have HL:=Lib.hid (lens_of hk)
  have Hk:=Lib.hid hk
  rw [hk] at HC
  have hn64:n≤64:=by omega
  have Hc:=Lib.hid hc
  have Hn:=Lib.hid hn
  clear hs hc hk h64 hn
  go_enter Tryz.func18,Tryz.ntmps18
  go_wp2_with (go_at_call 38;refine HC.out.mono ?_;clear HC;rintro e w1 ⟨rfl,hb1⟩;have B1:=Lib.hid hb1;have hs1:=hb1.size;clear hb1)
  go_loopw [5,7,19] (fun bv _ iv wr=>∃k:Nat,k≤n∧iv=.int .i64 (k:Nat)∧Below w.heap.size w wr∧Row8 wr w.heap.size bv (n :: (l.take k).flatMap lblB)) (fun _ _ iv _=>n-(intOf iv).toNat)
  case atStart =>
   refine⟨0,Nat.zero_le _,rfl,B1.out.alloc hs1 _,?_⟩
   exact row8_new w1 _ hs1 [n] 1 rfl (by decide)
  case round =>
   obtain⟨k,hk,rfl,hb,hrow⟩:=hrel
   have Hrow:=Lib.hid hrow
   have Hb:=Lib.hid hb
   have hsz:=hb.size
   have Hcr:=Lib.hid (Hc.out.olds (Olds.of_below hb))
   clear hrow hb
   by_cases hlt:k<n
   ·obtain⟨b,off,x1,x2,rfl,hx,hx1,hx2⟩:=Hcr.out.at (k:=k) (by rw [Hn.out];exact hlt)
    obtain⟨hs1',hs2'⟩:=HL.out _ (List.mem_of_getElem? hx)
    simp only at hs1' hs2'
    have Hst:=Lib.hid (part_step hx)
    have Hlen:=Lib.hid (HP.out (k+1))
    clear hx
    rw [Hn.out] at Hst
    go_upto_region 8 with fail
    obtain⟨X,hX⟩:∃X:World,X=wr.alloc (.cells #[encStr x1,encStr x2] 64):=⟨_,rfl⟩
    rw [← hX]
    have hXh:X.heap[wr.heap.size]?=some (.cells #[encStr x1,encStr x2] 64 (0,0)):=by rw [hX];exact heap_alloc_new _ _
    have hO:Olds wr X:=by rw [hX];exact Olds.alloc _ _
    have hXs:X.heap.size=wr.heap.size+1:=by rw [hX];simp
    have HXB:Hid (Below w.heap.size w X):=Lib.hid (by rw [hX];exact Hb.out.alloc hsz _)
    obtain⟨K,hK⟩:∃K:Nat→Prop,∀b,K b↔(b<w.heap.size∨b=wr.heap.size):=⟨_,fun _=>Iff.rfl⟩
    have HS:Hid (∀W,Kept K X W→W.cell? ⟨wr.heap.size,0,none⟩=some (encStr x1)∧W.cell? ⟨wr.heap.size,1,none⟩=some (encStr x2)):=Lib.hid (fun W hW=>⟨by rw [hW.cell ((hK _).2 (.inr rfl)),cell_of_heap hXh];rfl,by rw [hW.cell ((hK _).2 (.inr rfl)),cell_of_heap hXh];rfl⟩)
    have hfr:Free K u5:=fun g hg hk=>by
     have:=ownsRow_block Hrow.out hg
     rcases (hK _).1 hk with h | h<;>omega
    have hKX:∀b,K b→b<X.heap.size:=fun b hb=>by rcases (hK _).1 hb with h | h<;>omega
    have hb1:(n :: List.flatMap lblB (List.take k l)).length+(two x1).length+(two x2).length≤200000:=by
     have h1:=Hlen.out
     rw [Hn.out,Hst.out,List.length_append,List.length_append] at h1
     exact h1
    have hXd:Kept K X X.drew:=(Kept.refl K X).drewN 1
    have hrd:Row8 X.drew w.heap.size u5 (n :: List.flatMap lblB (List.take k l)):=ownsRow_olds Hrow.out (hO.trans (Olds.drewN X 1))
    have HC1:Hid (Calls Tryz.prog 39 #[u5,encStr x1] X.drew fun e w'=>∃v',e=.returned v'∧Row8 w' w.heap.size v' ((n :: List.flatMap lblB (List.take k l))++two x1)∧Free K v'∧Kept K X.drew w'):=Lib.hid (pput_any x1 hrd hfr hKX (by have:X.drew.heap.size=X.heap.size:=rfl;omega) hs1' (by omega))
    have HC2:Hid (∀(W:World) (v:Value),Row8 W w.heap.size v ((n :: List.flatMap lblB (List.take k l))++two x1)→Free K v→X.heap.size≤W.heap.size→Calls Tryz.prog 39 #[v,encStr x2] W fun e w'=>∃v',e=.returned v'∧Row8 w' w.heap.size v' ((n :: List.flatMap lblB (List.take (k+1) l)))∧Free K v'∧Kept K W w'):=Lib.hid (fun W v hr hf hB=>by
     rw [Hst.out]
     exact pput_any x2 hr hf (fun b hb=>Nat.lt_of_lt_of_le (hKX b hb) hB) (by omega) hs2' (by rw [List.length_append];have e9:(two (x1,x2).1).length=(two x1).length:=rfl;omega))
    have HKw:Hid (∀b,b<w.heap.size→K b):=Lib.hid (fun b hb=>(hK b).2 (.inl hb))
    have HXd:=Lib.hid hXd
    clear hX hXh hO hb1 hx1 hx2 hfr hKX hrd hK hXd
    generalize n :: List.flatMap lblB (List.take k l)=Z0 at *
    generalize hZ2:n :: List.flatMap lblB (List.take (k+1) l)=Z2 at *
    have HZ2:=Lib.hid hZ2
    clear hZ2
    go_region_held_law (fun W=>W.cell? ⟨wr.heap.size,0,none⟩=some (encStr x1)∧W.cell? ⟨wr.heap.size,1,none⟩=some (encStr x2))
     (first | exact HS.out _ HXd.out | exact HS.out _ K3.out | exact HS.out _ K2.out)
     (first
      | (go_at_call 39;refine (HC2.out _ _ Hr2.out Hf2.out hs2).mono ?_;rintro e w3 ⟨v3,rfl,hr3,_,hk3⟩;have Hr3:=Lib.hid hr3;have K3:Hid (Kept K X w3):=Lib.hid (K2.out.trans hk3);clear hr3 hk3)
      | (go_at_call 39;refine HC1.out.mono ?_;rintro e w2 ⟨v2,rfl,hr2,hf2,hk2⟩;have Hr2:=Lib.hid hr2;have Hf2:=Lib.hid hf2;have K2:Hid (Kept K X w2):=Lib.hid (HXd.out.trans hk2);have hs2:X.heap.size≤w2.heap.size:=hk2.size;clear hr2 hf2 hk2))
    go_wp2_with fail
    go_roundw
    case rel=>exact⟨k+1,by omega,by go_num,HXB.out.trans (K3.out.below HKw.out),by rw [HZ2.out];exact Hr3.out⟩
    case measure=>simp [intOf];omega
   ·go_wp2_with fail
    go_ret2
    refine⟨Hb.out,.inr ⟨Hk.out,_,rfl,?_⟩⟩
    have h9:=Hrow.out
    rw [List.take_of_length_le (by rw [Hn.out];omega)] at h9
    unfold labsB
    rw [Hn.out]
    exact h9
 ·have Hk:=Lib.hid hk
  generalize hk0:check l=k0 at *
  have hkb:((k0:Int) != 0)=true:=by simpa using hk
  clear hs hc hk
  go_enter Tryz.func18,Tryz.ntmps18
  go_wp2_with (go_at_call 38;refine HC.out.mono ?_;clear HC;rintro e w1 ⟨rfl,hb1⟩;have B1:=Lib.hid hb1;clear hb1)
  go_ret2
  exact⟨B1.out,.inl ⟨Hk.out,rfl⟩⟩
end Go.Proofs.YtejeflddeanccaaGreatDoor
namespace Go.Proofs.YtejeflddeanccaaGreatDoor
open Go Go.RowKit Go.Ix Go.Tm
set_option maxRecDepth 20000 in
set_option maxHeartbeats 1000000 in
theorem renc_rows (o:Option Addr) (c n:Nat) (l:List Lbl) (w:World) (hn:l.length=n) (hl:n≤1000000000) (hs:∀y∈l,y.1.length≤1000000000∧y.2.length≤1000000000) (hc:Rows2 w o l):Calls Tryz.prog 25 #[.slice o n c] w (EncEnd w (check l) (labsB l)):=by
 obtain⟨i0,hi0,hz0,hz1,hz2⟩:=info_parts Tryz.info5
 have HC:=Lib.hid (rcheck_rows o c l w (by omega) hs hc)
 rw [hn] at HC
 by_cases hk:check l=0
 ·obtain⟨h64,_⟩:=part_len hk 0
  have HP:=Lib.hid (fun k=>(part_len hk k).2)
  have HL:=Lib.hid (lens_of hk)
  have Hk:=Lib.hid hk
  rw [hk] at HC
  have hn64:n≤64:=by omega
  have Hc:=Lib.hid hc
  have Hn:=Lib.hid hn
  clear hs hc hk h64 hn
  go_enter Tryz.func25,Tryz.ntmps25
  go_wp2_with (first
   | (go_at_call 43;refine HC.out.mono ?_;clear HC;rintro e w1 ⟨rfl,q,hw1⟩;have B1:Hid (Below w.heap.size w w1):=Lib.hid (by rw [hw1];exact below_drewN (Below.refl _ _) q);have hs1:=B1.out.size;clear hw1)
   | (at_builtin;refine wpList_append_lies _ rfl _ _ _ rfl w.heap.size 5 i0 _ 1 1 Tryz.underlying23 hi0 hz0 hz1 hz2 rfl Nat.one_pos (.slice none 0 0) 0 [] rfl (World.ownsRow_nil _ _ _ _) ⟨w1.heap.size,0,none⟩ 1 1 [.int .u8 (n:Int)] rfl rfl (World.news_of_block (cs:=#[.int .u8 (n:Int)]) (t:=5) (fr:=(0,0)) (heap_alloc_new w1 _)) (by simp [Value.oneCell']) Nat.one_pos (by unfold maxLen;omega) (by omega) (by simp;omega) (w1.heap.size+1) (by simp) ?_;intro g4 c4 w4 hown4 hgrow4 hat4 hlt4;have Hown4:=Lib.hid hown4;have B4:Hid (Below w.heap.size w w4):=Lib.hid ((B1.out.alloc hs1 _).grown hgrow4 (by simp;omega) (fun k hk=>by cases hk));clear hown4 hgrow4 hat4))
  go_loopw [5,6] (fun bv iv wr=>∃k:Nat,k≤n∧iv=.int .i64 (k:Nat)∧Below w.heap.size w wr∧Row8 wr w.heap.size bv (n :: (l.take k).flatMap lblB)) (fun _ iv _=>n-(intOf iv).toNat)
  case atStart=>exact⟨0,Nat.zero_le _,rfl,B4.out,Hown4.out⟩
  case round =>
   obtain⟨k,hk,rfl,hb,hrow⟩:=hrel
   have Hrow:=Lib.hid hrow
   have Hb:=Lib.hid hb
   have hsz:=hb.size
   clear hrow hb
   by_cases hlt:k<n
   ·have Hcr:=Lib.hid (Hc.out.olds (Olds.of_below Hb.out))
    obtain⟨b,off,x1,x2,rfl,hx,hx1,hx2⟩:=Hcr.out.at (k:=k) (by rw [Hn.out];exact hlt)
    obtain⟨hs1',hs2'⟩:=HL.out _ (List.mem_of_getElem? hx)
    simp only at hs1' hs2'
    have hst:=part_step hx
    rw [Hn.out] at hst
    have hb1:(n :: List.flatMap lblB (List.take k l)).length+(two x1).length+(two x2).length≤200000:=by
     have h1:=HP.out (k+1)
     rw [Hn.out,hst,List.length_append,List.length_append] at h1
     exact h1
    have HC1:=Lib.hid (rtext8 x1 Hrow.out hsz hs1' (by omega))
    have HC2:Hid (∀(W:World) (v:Value),Row8 W w.heap.size v ((n :: List.flatMap lblB (List.take k l))++two x1)→w.heap.size≤W.heap.size→Calls Tryz.prog 44 #[v,encStr x2] W fun e w'=>∃v',e=.returned v'∧Row8 w' w.heap.size v' ((n :: List.flatMap lblB (List.take (k+1) l)))∧Below w.heap.size W w'):=Lib.hid (fun W v hr hB=>by
     rw [hst]
     exact rtext8 x2 hr hB hs2' (by rw [List.length_append];have e9:(two (x1,x2).1).length=(two x1).length:=rfl;omega))
    have HX2:Hid (∀W,Below w.heap.size wr W→b<w.heap.size→W.cell? ⟨b,off+k * 2+1,none⟩=some (encStr x2)):=Lib.hid (fun W hW hb=>by rw [hW.cell hb];exact hx2)
    have hbw:b<w.heap.size:=by
     obtain⟨b',off',y1,y2,e,_,hy1,_⟩:=Hc.out.at (k:=k) (by rw [Hn.out];exact hlt)
     cases e
     exact cell_lt hy1
    clear hb1 hst hx
    generalize n :: List.flatMap lblB (List.take k l)=Z0 at *
    generalize hZ2:n :: List.flatMap lblB (List.take (k+1) l)=Z2 at *
    have HZ2:=Lib.hid hZ2
    clear hZ2
    go_wp2_with (first
     | (go_at_call 44;refine (HC2.out _ _ Hr2.out hs2).mono ?_;rintro e w3 ⟨v3,rfl,hr3,hb3⟩;have Hr3:=Lib.hid hr3;have B3:Hid (Below w.heap.size w w3):=Lib.hid (B2.out.trans hb3);clear hr3 hb3)
     | (go_at_call 44;refine HC1.out.mono ?_;rintro e w2 ⟨v2,rfl,hr2,hb2⟩;have hx2':=HX2.out w2 hb2 hbw;have Hr2:=Lib.hid hr2;have B2:Hid (Below w.heap.size w w2):=Lib.hid (Hb.out.trans hb2);have hs2:=B2.out.size;clear hr2 hb2))
    go_roundw
    case rel=>exact⟨k+1,by omega,by go_num,B3.out,by rw [HZ2.out];exact Hr3.out⟩
    case measure=>simp [intOf];omega
   ·go_wp2_with fail
    go_ret2
    refine⟨Hb.out,.inr ⟨Hk.out,_,rfl,?_⟩⟩
    have h9:=Hrow.out
    rw [List.take_of_length_le (by rw [Hn.out];omega)] at h9
    unfold labsB
    rw [Hn.out]
    exact h9
 ·have Hk:=Lib.hid hk
  generalize hk0:check l=k0 at *
  have hkb:((k0:Int) != 0)=true:=by simpa using hk
  clear hs hc hk
  go_enter Tryz.func25,Tryz.ntmps25
  go_wp2_with (go_at_call 43;refine HC.out.mono ?_;clear HC;rintro e w1 ⟨rfl,q,hw1⟩;have B1:Hid (Below w.heap.size w w1):=Lib.hid (by rw [hw1];exact below_drewN (Below.refl _ _) q);clear hw1)
  go_ret2
  exact⟨B1.out,.inl ⟨Hk.out,rfl⟩⟩
end Go.Proofs.YtejeflddeanccaaGreatDoor
namespace Go.Proofs.YtejeflddeanccaaGreatDoor
open Go Go.RowKit Go.Extern.Stop Go.Stop Go.Extern
theorem Tas.valueOf27 (t:Addr) (w:World):(ReflectliteValue.unpack (.iface 87 (.pointer (some t)))).run Tryz.prog w
  = .ok (.agg #[.pointer (some ⟨5,87,none⟩),.pointer (some ⟨w.heap.size,0,none⟩),.int .u64 150]) (w.alloc (.cells #[.pointer (some t)] 87)):=by kernel_rfl
theorem Tas.type27 (a:Addr) (w:World):(ReflectliteValue.methodAny (ReflectliteValue.valueError "reflectlite.Value.Type" 0) (fun t _ _ _=>ReflectliteType.toType t) #[.agg #[.pointer (some ⟨5,87,none⟩),.pointer (some a),.int .u64 150]]).run Tryz.prog w
  = .ok (.iface 175 (.agg #[.pointer (some ⟨5,87,none⟩)])) w:=by kernel_rfl
theorem Tas.methodKind (h:Value) (w:World):(Go.method 533 175 (.agg #[h]) "Kind").run Tryz.prog w=.ok (263,h) w:=by kernel_rfl
theorem Tas.kind27 (w:World):((ReflectliteType.abiMethod fun t=>(fun a:Nat=>Value.int IntKind.u8 (a:Int)) <$> Rtype.kind t) #[.pointer (some ⟨5,87,none⟩)]).run Tryz.prog w=.ok (.int .u8 22) w:=by kernel_rfl
theorem Tas.kind25 (w:World):((ReflectliteType.abiMethod fun t=>(fun a:Nat=>Value.int IntKind.u8 (a:Int)) <$> Rtype.kind t) #[.pointer (some ⟨5,84,none⟩)]).run Tryz.prog w=.ok (.int .u8 22) w:=by kernel_rfl
theorem rlm (z:Sem Value) (f:TypeId→Addr→Nat→Nat→Sem Value) (v:Value) :
  ReflectliteValue.method z f #[v]=(do match ← ReflectliteValue.parts v with | none=>z | some (t,a,fl)=>f t a fl (fl % 32)):=rfl
theorem Tas.parts27 (a:Addr) (w:World):(ReflectliteValue.parts (.agg #[.pointer (some ⟨5,87,none⟩),.pointer (some a),.int .u64 150])).run Tryz.prog w=.ok (some (87,a,150)) w:=by kernel_rfl
theorem Tas.isNil27 (a p:Addr) (W:World) (ha:W.cell? a=some (.pointer (some p))) :
  (ReflectliteValue.method (ReflectliteValue.valueError "reflectlite.Value.IsNil" 0) ReflectliteValue.isNil #[.agg #[.pointer (some ⟨5,87,none⟩),.pointer (some a),.int .u64 150]]).run Tryz.prog W=.ok (.bool false) W:=by
 rw [rlm]
 simp only [Sem.run_bind,Tas.parts27,Result.andThen]
 simp [ReflectliteValue.isNil,loadVar,isAgg,underlying,Tryz.underlying87,ha,Result.andThen]
theorem Tas.methodElem (h:Value) (w:World):(Go.method 533 175 (.agg #[h]) "Elem").run Tryz.prog w=.ok (276,.agg #[h]) w:=by kernel_rfl
theorem Tas.methodImplements (h:Value) (w:World):(Go.method 533 175 (.agg #[h]) "Implements").run Tryz.prog w=.ok (277,.agg #[h]) w:=by kernel_rfl
theorem Tas.methodAssignableTo (h:Value) (w:World):(Go.method 533 175 (.agg #[h]) "AssignableTo").run Tryz.prog w=.ok (274,.agg #[h]) w:=by kernel_rfl
theorem Tas.elem27 (w:World):(ReflectliteType.method ReflectliteType.elem #[.agg #[.pointer (some ⟨5,87,none⟩)]]).run Tryz.prog w=.ok (.iface 175 (.agg #[.pointer (some ⟨5,84,none⟩)])) w:=by kernel_rfl
theorem Tas.implements25 (w:World):(ReflectliteType.relation "Implements" ReflectliteType.implements_ #[.agg #[.pointer (some ⟨5,84,none⟩)],.iface 175 (.agg #[.pointer (some ⟨5,52,none⟩)])]).run Tryz.prog w=.ok (.bool true) w:=by kernel_rfl
theorem Tas.typeOf25 (v:Value) (w:World):(ReflectliteType.typeOf #[.iface 84 v]).run Tryz.prog w=.ok (.iface 175 (.agg #[.pointer (some ⟨5,84,none⟩)])) w:=by kernel_rfl
theorem Tas.assignable25 (w:World):(ReflectliteType.relation "AssignableTo" ReflectliteType.assignableTo #[.agg #[.pointer (some ⟨5,84,none⟩)],.iface 175 (.agg #[.pointer (some ⟨5,84,none⟩)])]).run Tryz.prog w=.ok (.bool true) w:=by kernel_rfl
theorem Tas.valueOf25 (e:Addr) (w:World):(ReflectliteValue.unpack (.iface 84 (.pointer (some e)))).run Tryz.prog w
  = .ok (.agg #[.pointer (some ⟨5,84,none⟩),.pointer (some ⟨w.heap.size,0,none⟩),.int .u64 150]) (w.alloc (.cells #[.pointer (some e)] 84)):=by kernel_rfl
theorem Tas.elemOf27 (w:World):(Rtype.elem? 87).run Tryz.prog w=.ok (some 84) w:=by kernel_rfl
theorem Tas.mk25 (p:Addr) (w:World):(ReflectliteValue.mk 84 p ReflectliteValue.flagAddr).run Tryz.prog w=.ok (.agg #[.pointer (some ⟨5,84,none⟩),.pointer (some p),.int .u64 406]) w:=by kernel_rfl
theorem Tas.elemV27 (a p:Addr) (W:World) (ha:W.cell? a=some (.pointer (some p))) :
  (ReflectliteValue.method (ReflectliteValue.valueError "reflectlite.Value.Elem" 0) ReflectliteValue.elem #[.agg #[.pointer (some ⟨5,87,none⟩),.pointer (some a),.int .u64 150]]).run Tryz.prog W
   = .ok (.agg #[.pointer (some ⟨5,84,none⟩),.pointer (some p),.int .u64 406]) W:=by
 rw [rlm]
 simp only [Sem.run_bind,Tas.parts27,Result.andThen]
 simp [ReflectliteValue.elem,loadVar,isAgg,underlying,Tryz.underlying87,ha,Result.andThen,Tas.elemOf27,Tas.mk25]
theorem rls (v x:Value):ReflectliteValue.set #[v,x]=(do
  let (some (dst,a,fl),some (src,b,_)):=(← ReflectliteValue.parts v,← ReflectliteValue.parts x)
   | unsupported (.noEntry "extern/(internal/reflectlite.Value).Set.zeroValue")
  if fl / ReflectliteValue.flagAddr % 2 == 0 then unsupported (.noEntry "extern/(internal/reflectlite.Value).Set.unaddressable")
  let val ← loadVar src b
  if ← Rtype.directlyAssignable dst src then storeVar dst a val
  else if ← Rtype.implements dst src then
   if (← Rtype.kind src) == 20 then
    match val with
    | .nilIface=>unsupported (.noEntry "extern/reflectlite: a nil value of one interface type handed on as a value of another")
    | _=>storeVar dst a val
   else storeVar dst a (.iface src val)
  else panicString ("reflectlite.Set: value of type "++(← Rtype.spelt src)++" is not assignable to type "++(← Rtype.spelt dst))
  pure (.tuple #[])):=rfl
theorem Tas.parts25a (a:Addr) (w:World):(ReflectliteValue.parts (.agg #[.pointer (some ⟨5,84,none⟩),.pointer (some a),.int .u64 406])).run Tryz.prog w=.ok (some (84,a,406)) w:=by kernel_rfl
theorem Tas.parts25 (a:Addr) (w:World):(ReflectliteValue.parts (.agg #[.pointer (some ⟨5,84,none⟩),.pointer (some a),.int .u64 150])).run Tryz.prog w=.ok (some (84,a,150)) w:=by kernel_rfl
theorem Tas.direct25 (w:World):(Rtype.directlyAssignable 84 84).run Tryz.prog w=.ok true w:=by kernel_rfl
theorem Tas.set25 (ta b e:Addr) (old:Value) (W:World) (hb:W.cell? b=some (.pointer (some e))) (ht:W.cell? ta=some old) (hf:W.frozen? ta=false) :
  (ReflectliteValue.set #[.agg #[.pointer (some ⟨5,84,none⟩),.pointer (some ta),.int .u64 406],.agg #[.pointer (some ⟨5,84,none⟩),.pointer (some b),.int .u64 150]]).run Tryz.prog W
   = .ok (.tuple #[]) (W.setCell ta (.pointer (some e))):=by
 rw [rls]
 simp only [Sem.run_bind,Tas.parts25a,Tas.parts25,Result.andThen]
 simp [ReflectliteValue.flagAddr,loadVar,isAgg,underlying,Tryz.underlying84,hb,Result.andThen,Tas.direct25,storeVar,Value.cells,storeCells,Addr.add]
 rw [run_store Tryz.prog W ta _ _ (by rfl)]
 simp [ht,hf]
set_option maxHeartbeats 4000000 in
theorem as_hit (e t:Addr) (old:Value) (w:World) (hg:w.cell? ⟨0,0,none⟩=some (.iface 175 (.agg #[.pointer (some ⟨5,52,none⟩)]))) (ht0:w.cell? t=some old) (hf0:w.frozen? t=false) :
  Calls Tryz.prog 41 #[.iface 84 (.pointer (some e)),.iface 87 (.pointer (some t))] w fun ev w'=>ev=.returned (.bool true)∧w'=((((w.alloc (.cells #[.pointer (some t)] 87)).alloc (.cells #[.pointer (some ⟨5,87,none⟩),.pointer (some ⟨w.heap.size,0,none⟩),.int .u64 150] 119)).alloc (.cells #[.pointer (some ⟨5,87,none⟩),.pointer (some ⟨w.heap.size,0,none⟩),.int .u64 150] 119)).alloc (.cells #[.pointer (some e)] 84)).setCell t (.pointer (some e)):=by
 have h6:=@run_callFunc_extern Tryz.prog 63 _ (fun args=>ReflectliteValue.unpack (args.getD 0 (.tuple #[]))) Tryz.func63 (by kernel_rfl) (by kernel_rfl) (by kernel_rfl) (by kernel_rfl)
 have h7:=@run_callFunc_extern Tryz.prog 64 _ (ReflectliteValue.methodAny (ReflectliteValue.valueError "reflectlite.Value.Type" 0) (fun t _ _ _=>ReflectliteType.toType t)) Tryz.func64 (by kernel_rfl) (by kernel_rfl) (by kernel_rfl) (by kernel_rfl)
 have h8:=@run_callFunc_extern Tryz.prog 65 _ (ReflectliteValue.method (ReflectliteValue.valueError "reflectlite.Value.IsNil" 0) ReflectliteValue.isNil) Tryz.func65 (by kernel_rfl) (by kernel_rfl) (by kernel_rfl) (by kernel_rfl)
 have h27:=@run_callFunc_extern Tryz.prog 263 _ (ReflectliteType.abiMethod fun t=>do pure (.int .u8 (← Rtype.kind t))) Tryz.func263 (by kernel_rfl) (by kernel_rfl) (by kernel_rfl) (by kernel_rfl)
 have h37:=@run_callFunc_extern Tryz.prog 276 _ (ReflectliteType.method ReflectliteType.elem) Tryz.func276 (by kernel_rfl) (by kernel_rfl) (by kernel_rfl) (by kernel_rfl)
 have h38:=@run_callFunc_extern Tryz.prog 277 _ (ReflectliteType.relation "Implements" ReflectliteType.implements_) Tryz.func277 (by kernel_rfl) (by kernel_rfl) (by kernel_rfl) (by kernel_rfl)
 have h10:=@run_callFunc_extern Tryz.prog 61 _ ReflectliteType.typeOf Tryz.func61 (by kernel_rfl) (by kernel_rfl) (by kernel_rfl) (by kernel_rfl)
 have h35:=@run_callFunc_extern Tryz.prog 274 _ (ReflectliteType.relation "AssignableTo" ReflectliteType.assignableTo) Tryz.func274 (by kernel_rfl) (by kernel_rfl) (by kernel_rfl) (by kernel_rfl)
 have h11:=@run_callFunc_extern Tryz.prog 95 _ (ReflectliteValue.method (ReflectliteValue.valueError "reflectlite.Value.Elem" 0) ReflectliteValue.elem) Tryz.func95 (by kernel_rfl) (by kernel_rfl) (by kernel_rfl) (by kernel_rfl)
 have h12:=@run_callFunc_extern Tryz.prog 96 _ ReflectliteValue.set Tryz.func96 (by kernel_rfl) (by kernel_rfl) (by kernel_rfl) (by kernel_rfl)
 have tO:=Tas.typeOf25
 have mA:=Tas.methodAssignableTo
 have a25:=Tas.assignable25
 have v25:=Tas.valueOf25
 have f6:=Tas.valueOf27
 have f7:=Tas.type27
 have mK:=Tas.methodKind
 have mE:=Tas.methodElem
 have mI:=Tas.methodImplements
 have k27:=Tas.kind27
 have k25:=Tas.kind25
 have e27:=Tas.elem27
 have i25:=Tas.implements25
 have n8:=Tas.isNil27 ⟨w.heap.size,0,none⟩ t ((w.alloc (.cells #[.pointer (some t)] 87)).alloc (.cells #[.pointer (some ⟨5,87,none⟩),.pointer (some ⟨w.heap.size,0,none⟩),.int .u64 150] 119)) (by simp)
 have hlt:0<w.heap.size:=by
  rcases Nat.eq_zero_or_pos w.heap.size with h0 | h
  ·simp [World.cell?,h0] at hg
  ·exact h
 have hg2:((w.alloc (.cells #[.pointer (some t)] 87)).alloc (.cells #[.pointer (some ⟨5,87,none⟩),.pointer (some ⟨w.heap.size,0,none⟩),.int .u64 150] 119)).cell? ⟨0,0,none⟩=some (.iface 175 (.agg #[.pointer (some ⟨5,52,none⟩)])):=by
  rw [World.cell?_alloc_lt _ _ ⟨0,0,none⟩ (by simp),World.cell?_alloc_lt _ _ ⟨0,0,none⟩ hlt];exact hg
 have htl:t.block<w.heap.size:=by
  rcases Nat.lt_or_ge t.block w.heap.size with h | h
  ·exact h
  ·simp [World.cell?,Array.getElem?_eq_none h] at ht0
 have el:=Tas.elemV27 ⟨w.heap.size,0,none⟩ t (((w.alloc (.cells #[.pointer (some t)] 87)).alloc (.cells #[.pointer (some ⟨5,87,none⟩),.pointer (some ⟨w.heap.size,0,none⟩),.int .u64 150] 119)).alloc (.cells #[.pointer (some ⟨5,87,none⟩),.pointer (some ⟨w.heap.size,0,none⟩),.int .u64 150] 119)) (by rw [World.cell?_alloc_lt _ _ ⟨w.heap.size,0,none⟩ (by simp;omega)];simp)
 have st:=Tas.set25 t ⟨w.heap.size+1+1+1,0,none⟩ e old ((((w.alloc (.cells #[.pointer (some t)] 87)).alloc (.cells #[.pointer (some ⟨5,87,none⟩),.pointer (some ⟨w.heap.size,0,none⟩),.int .u64 150] 119)).alloc (.cells #[.pointer (some ⟨5,87,none⟩),.pointer (some ⟨w.heap.size,0,none⟩),.int .u64 150] 119)).alloc (.cells #[.pointer (some e)] 84))
  (by rw [World.cell?_alloc_at _ _ _ _ (by simp)];rfl)
  (by rw [World.cell?_alloc_lt _ _ t (by simp;omega),World.cell?_alloc_lt _ _ t (by simp;omega),World.cell?_alloc_lt _ _ t (by simp;omega),World.cell?_alloc_lt _ _ t htl];exact ht0)
  (by rw [World.frozen?_alloc_old _ _ t (by simp;omega),World.frozen?_alloc_old _ _ t (by simp;omega),World.frozen?_alloc_old _ _ t (by simp;omega),World.frozen?_alloc_old _ _ t (Nat.ne_of_lt htl)];exact hf0)
 go_enter Tryz.func41,Tryz.ntmps41
 go_wp2
 refine wp_loop_rounds 1 ?_
 rw [rounds_succ]
 go_wp2
 go_ret
 exact⟨rfl,rfl⟩
end Go.Proofs.YtejeflddeanccaaGreatDoor
namespace Go.Proofs.YtejeflddeanccaaGreatDoor
open Go Go.RowKit Go.Extern.Stop Go.Stop Go.Extern
theorem Te.isTypeOf (v:Value) (w:World):(Extern.ReflectliteType.typeOf #[.iface 27 v]).run Tryz.prog w=.ok (.iface 175 (.agg #[.pointer (some ⟨5,27,none⟩)])) w:=by kernel_rfl
def compF:Array Value→Sem Value:=Extern.ReflectliteType.method fun t=>do Extern.Rtype.noPackHeld "Comparable" t;pure (.bool (← typeInfo t).comparable)
theorem Te.isComparable (w:World):(compF #[.agg #[.pointer (some ⟨5,27,none⟩)]]).run Tryz.prog w=.ok (.bool true) w:=by kernel_rfl
theorem Te.isMethodComparable (v:Value) (w:World):(Go.method 533 175 v "Comparable").run Tryz.prog w=.ok (275,v) w:=by kernel_rfl
theorem Te.noIsE (v:Value) (xT:TypeId) (w:World):(Instr.typeAssert (.iface 27 v) xT 177 true).run Tryz.prog w=.ok (.tuple #[.nilIface,.bool false]) w:=run_typeAssert_lacksB Tryz.underlying177 (by kernel_rfl) (by kernel_rfl) v xT w
theorem Te.noUnwrapE (v:Value) (xT:TypeId) (w:World):(Instr.typeAssert (.iface 27 v) xT 180 true).run Tryz.prog w=.ok (.tuple #[.nilIface,.bool false]) w:=run_typeAssert_lacksB Tryz.underlying180 (by kernel_rfl) (by kernel_rfl) v xT w
theorem Te.noUnwrapsE (v:Value) (xT:TypeId) (w:World):(Instr.typeAssert (.iface 27 v) xT 182 true).run Tryz.prog w=.ok (.tuple #[.nilIface,.bool false]) w:=run_typeAssert_lacksB Tryz.underlying182 (by kernel_rfl) (by kernel_rfl) v xT w
theorem Te.noIsW (v:Value) (xT:TypeId) (w:World):(Instr.typeAssert (.iface 84 v) xT 177 true).run Tryz.prog w=.ok (.tuple #[.nilIface,.bool false]) w:=run_typeAssert_lacksB Tryz.underlying177 (by kernel_rfl) (by kernel_rfl) v xT w
theorem Te.hasUnwrapW (v:Value) (xT:TypeId) (w:World):(Instr.typeAssert (.iface 84 v) xT 180 true).run Tryz.prog w=.ok (.tuple #[.iface 84 v,.bool true]) w:=run_typeAssert_hasB Tryz.underlying180 (by kernel_rfl) v xT w
theorem Te.methodUnwrap (v:Value) (w:World):(Go.method 533 84 v "Unwrap").run Tryz.prog w=.ok (268,v) w:=by kernel_rfl
theorem is_fault (pb:Nat) (k:Int) (w:World) (hk:k≠0) (h1:w.cell? ⟨pb,1,none⟩=some (.iface 27 (.int .u16 k))) :
  Calls Tryz.prog 40 #[.iface 84 (.pointer (some ⟨pb,0,none⟩)),.iface 27 (.int .u16 0)] w fun e w'=>e=.returned (.bool false)∧w'=w:=by
 have h8:=@run_callFunc_extern Tryz.prog 61 _ Extern.ReflectliteType.typeOf Tryz.func61 (by kernel_rfl) (by kernel_rfl) (by kernel_rfl) (by kernel_rfl)
 have h32:=@run_callFunc_extern Tryz.prog 275 _ compF Tryz.func275 (by kernel_rfl) (by kernel_rfl) (by kernel_rfl) (by kernel_rfl)
 have tT:=Te.isTypeOf
 have cT:=Te.isComparable
 have mR:=Te.isMethodComparable
 have nE:=Te.noIsE
 have uE:=Te.noUnwrapE
 have vE:=Te.noUnwrapsE
 have nW:=Te.noIsW
 have uW:=Te.hasUnwrapW
 have mU:=Te.methodUnwrap
 have hty:=run_eql_iface_types (P:=Tryz.prog) 84 27 (.pointer (some ⟨pb,0,none⟩)) (.int .u16 0) Tryz.underlying52 (by decide) w
 have heq:=Lib.run_eql_iface_int (P:=Tryz.prog) w (t:=52) (tx:=27) (k:=.u16) k 0 Tryz.underlying52 (by kernel_rfl) Tryz.underlying27
 have hk0:((k:Int) == 0)=false:=by simpa using hk
 rw [hk0] at heq
 go_enter Tryz.func40,Tryz.ntmps40
 go_wp2
 refine wp_loop_rounds 2 ?_
 rw [rounds_succ]
 go_wp2
 rw [rounds_succ]
 go_wp2
 go_ret
 exact⟨rfl,rfl⟩
def ErrG (w:World):Prop:=w.cell? ⟨0,0,none⟩=some (.iface 175 (.agg #[.pointer (some ⟨5,52,none⟩)]))
theorem told_any (pb:Nat) (k:Int) (cs:Array Value) (w:World) (hk:k≠0) (hg:ErrG w) (h1:w.heap[pb]?=some (.cells cs 89 (0,0))) (h2:cs[1]?=some (.iface 27 (.int .u16 k))) :
  Calls Tryz.prog 19 #[.iface 84 (.pointer (some ⟨pb,0,none⟩))] w fun e w'=>e=.returned (.int .u16 150)∧Below w.heap.size w w':=by
 obtain⟨X,hX⟩:∃X:World,X=w.alloc (.cells #[.pointer none] 84):=⟨_,rfl⟩
 have hlt:pb<w.heap.size:=by
  rcases Nat.lt_or_ge pb w.heap.size with h | h
  ·exact h
  ·rw [Array.getElem?_eq_none h] at h1
   cases h1
 have ho:Olds w X:=by rw [hX];exact Olds.alloc _ _
 have hXb:X.heap[w.heap.size]?=some (.cells #[.pointer none] 84 (0,0)):=by rw [hX];exact heap_alloc_new _ _
 have hXB:Below w.heap.size w X:=by rw [hX];exact (Below.refl _ _).alloc (Nat.le_refl _) _
 have hXs:X.heap.size=w.heap.size+1:=by rw [hX];simp
 have HI:=Lib.hid (is_fault pb k X hk (by rw [cell_of_heap ((ho.2 pb hlt).trans h1)];exact h2))
 have HA:=Lib.hid (as_hit ⟨pb,0,none⟩ ⟨w.heap.size,0,none⟩ (.pointer none) X (ho.cell hg) (by rw [cell_of_heap hXb];rfl) (by simp [World.frozen?,hXb]))
 have HX:=Lib.hid hX
 go_enter Tryz.func19,Tryz.ntmps19
 clear hX ho hXb h1 h2
 go_wp2_with (first
  | (go_at_call 40;rw [← HX.out];refine HI.out.mono ?_;clear HI;rintro e w2 ⟨rfl,hw2⟩;rw [hw2];clear hw2 w2)
  | (go_at_call 41;refine HA.out.mono ?_;clear HA;rintro e w3 ⟨rfl,hw3⟩;have B3:Hid (Below w.heap.size w w3):=Lib.hid (by rw [hw3];exact ((((hXB.alloc (by omega) _).alloc (by simp;omega) _).alloc (by simp;omega) _).alloc (by simp;omega) _).setCell (Nat.le_refl _) _);clear hw3))
 go_ret
 exact⟨rfl,B3.out⟩
end Go.Proofs.YtejeflddeanccaaGreatDoor
namespace Go.Proofs.YtejeflddeanccaaGreatDoor
open Go Go.RowKit Go.Ix
def BytesAt (w:World) (v:Value) (bs:List Nat):Prop:=FlatAt w v bs.length (octs bs)
set_option maxRecDepth 20000 in
set_option maxHeartbeats 1000000 in
theorem rmore_cells (b off c:Nat) (bs:List Nat) (w:World) (hm:bs.length≤100000000000) (hc:CellsAt w b off (octs bs)) (h8:∀x∈bs,x<256) :
  Calls Tryz.prog 45 #[.int .u32 0,.slice (some ⟨b,off,none⟩) bs.length c] w fun e w'=>e=.returned (.int .u32 (crc bs))∧w=w':=by
 have Hc:=Lib.hid hc
 have H8:=Lib.hid h8
 clear hc h8
 generalize hn:bs.length=n at *
 have Hn:=Lib.hid hn
 clear hn
 have hsg:IntKind.u32.signed=false:=rfl
 have e0:bits .xor .u32 IntKind.u32.max 0=4294967295:=by decide +kernel
 go_enter Tryz.func45,Tryz.ntmps45
 go_wp2_with fail
 go_loop [5,6] (fun dv iv=>∃(k d:Nat),k≤n∧iv=.int .i64 k∧dv=.int .u32 d∧d<4294967296∧Crc.feed 4294967295 (bs.take k)=d) (fun _ iv=>n-(intOf iv).toNat)
 case atStart=>exact⟨0,4294967295,Nat.zero_le _,rfl,rfl,by decide,rfl⟩
 case round =>
  obtain⟨k,d,hk,rfl,rfl,hd,hfeed⟩:=hrel
  have Hfeed:=Lib.hid hfeed
  clear hfeed
  by_cases hlt:k<n
  ·obtain⟨x,hx⟩:∃x,bs[k]?=some x:=⟨_,List.getElem?_eq_getElem (by rw [Hn.out];exact hlt)⟩
   have hx8:=H8.out x (List.mem_of_getElem? hx)
   have hck:w.cell? ⟨b,off+k,none⟩=some (.int .u8 (x:Int)):=Hc.out k _ (by simp [octs,hx])
   have ex:bits .xor .u32 (d:Int) (x:Int)=((d ^^^ x:Nat):Int):=bits_xor_u32 d x hd (by omega)
   have hq:d ^^^ x<4294967296:=Nat.xor_lt_two_pow (n:=32) hd (by omega)
   have Hx:=Lib.hid hx
   clear hx
   generalize hy:d ^^^ x=y at *
   have Hy:=Lib.hid hy
   clear hy
   go_wp2_with fail
   go_loop [5,7] (fun nv jv=>∃(j m:Nat),j≤8∧jv=.int .i64 j∧nv=.int .u32 m∧m<4294967296∧Crc.bits (8-j) m=Crc.bits 8 y) (fun _ jv=>8-(intOf jv).toNat)
   case atStart=>exact⟨0,y,by decide,rfl,rfl,hq,rfl⟩
   case round =>
    obtain⟨j,m,hj,rfl,rfl,hm32,hb⟩:=hrel
    have Hb:=Lib.hid hb
    clear hb
    have ea:bits .and .u32 (m:Int) 1=((m % 2:Nat):Int):=by
     rw [← and1]
     exact bits_and_u32 m 1 hm32 (by decide)
    have exx:bits .xor .u32 ((m:Int) / 2) 2197175160=((m / 2 ^^^ Crc.poly:Nat):Int):=by
     have:=bits_xor_u32 (m / 2) 2197175160 (by omega) (by decide)
     rwa [show ((m / 2:Nat):Int)=(m:Int) / 2 by omega] at this
    have hl2:m / 2 ^^^ Crc.poly<4294967296:=Nat.xor_lt_two_pow (n:=32) (by omega) (by decide)
    by_cases hj8:j<8
    ·by_cases ho:m % 2=1
     ·have hoz:((m % 2:Nat):Int)=1:=by omega
      rw [hoz] at ea
      have Ho:=Lib.hid ho
      clear ho hoz
      go_wp2_with fail
      go_round
      case rel=>exact⟨j+1,m / 2 ^^^ Crc.poly,by omega,by go_num,rfl,hl2,by
       rw [← Hb.out,show 8-j=(8-(j+1))+1 by omega]
       show _=Crc.bits _ (Crc.bit m)
       unfold Crc.bit
       rw [if_pos Ho.out]⟩
      case measure=>simp [intOf];omega
     ·have hoz:((m % 2:Nat):Int)=0:=by omega
      rw [hoz] at ea
      have Ho:=Lib.hid ho
      clear ho hoz
      go_wp2_with fail
      go_round
      case rel=>exact⟨j+1,m / 2,by omega,by go_num,by congr 1,by omega,by
       rw [← Hb.out,show 8-j=(8-(j+1))+1 by omega]
       show _=Crc.bits _ (Crc.bit m)
       unfold Crc.bit
       rw [if_neg Ho.out,Nat.xor_zero]⟩
      case measure=>simp [intOf];omega
    ·obtain rfl:j=8:=by omega
     go_wp2_with fail
     go_round
     case rel=>exact⟨k+1,m,by omega,by go_num,rfl,hm32,by
      rw [List.take_add_one,Hx.out]
      show Crc.feed 4294967295 (bs.take k++[x])=m
      rw [feed_snoc,Hfeed.out,Hy.out]
      exact Hb.out.symm⟩
     case measure=>simp [intOf];omega
  ·have en:bits .xor .u32 IntKind.u32.max (d:Int)=((4294967295 ^^^ d:Nat):Int):=not_u32 d hd
   have He:Hid (crc bs=4294967295 ^^^ d):=Lib.hid (by
    unfold crc
    rw [← Hfeed.out,List.take_of_length_le (by rw [Hn.out];omega)])
   go_wp2_with fail
   go_ret
   exact⟨by rw [He.out];rfl,rfl⟩
set_option maxHeartbeats 400000 in
theorem rmore_empty (o:Option Addr) (c:Nat) (w:World):Calls Tryz.prog 45 #[.int .u32 0,.slice o 0 c] w fun e w'=>e=.returned (.int .u32 (crc []))∧w=w':=by
 have hsg:IntKind.u32.signed=false:=rfl
 have e0:bits .xor .u32 IntKind.u32.max 0=4294967295:=by decide +kernel
 have e1:bits .xor .u32 IntKind.u32.max 4294967295=0:=by decide +kernel
 have He:Hid (crc []=0):=Lib.hid (by decide +kernel)
 go_enter Tryz.func45,Tryz.ntmps45
 go_wp2_with fail
 go_loop [5,6] (fun dv iv=>dv=.int .u32 4294967295∧iv=.int .i64 0) (fun _ _=>0)
 case atStart=>exact⟨rfl,rfl⟩
 case round =>
  obtain⟨rfl,rfl⟩:=hrel
  go_wp2_with fail
  go_ret
  exact⟨by rw [He.out];rfl,rfl⟩
set_option maxHeartbeats 400000 in
theorem rsum_any {w:World}{v:Value}{bs:List Nat}(h:BytesAt w v bs) (hm:bs.length≤100000000000) (h8:∀x∈bs,x<256):Calls Tryz.prog 26 #[v] w fun e w'=>e=.returned (.int .u32 (crc bs))∧w=w':=by
 have HM:Hid (Calls Tryz.prog 45 #[.int .u32 0,v] w fun e w'=>e=.returned (.int .u32 (crc bs))∧w=w'):=Lib.hid (by
  rcases h.cases with ⟨o,c,rfl,h1,_⟩|⟨b,off,c,rfl,_,hc⟩
  ·have:bs=[]:=by
    cases bs with
    | nil=>rfl
    | cons _ _=>simp [octs] at h1
   subst this
   exact rmore_empty o c w
  ·exact rmore_cells b off c bs w hm hc h8)
 clear h h8
 generalize crc bs=r at *
 go_enter Tryz.func26,Tryz.ntmps26
 go_wp2_with (go_at_call 45;refine HM.out.mono ?_;rintro e w' ⟨rfl,rfl⟩)
 go_ret
 exact⟨rfl,rfl⟩
end Go.Proofs.YtejeflddeanccaaGreatDoor
namespace Go.Proofs.YtejeflddeanccaaGreatDoor
open Go Go.RowKit Go.Ix
def half:Array Value:=((List.range 16).map fun i=>Value.int .u32 (Crc.bits 4 i:Nat)).toArray
def HalfOk:Prop:=∀W:World,10≤W.heap.size→Calls Tryz.prog 67 #[] W fun e W'=>e=.returned (.agg half)∧Below W.heap.size W W'
theorem half_at {i:Nat}(h:i<16):half[i]?=some (.int .u32 (Crc.bits 4 i:Nat)):=by
 simp [half,h]
set_option maxRecDepth 20000 in
set_option maxHeartbeats 1000000 in
theorem more_cells (hH:HalfOk) (b off c:Nat) (bs:List Nat) (w:World) (hw:10≤w.heap.size) (hm:bs.length≤100000000000) (hc:CellsAt w b off (octs bs)) (h8:∀x∈bs,x<256) :
  Calls Tryz.prog 42 #[.int .u32 0,.slice (some ⟨b,off,none⟩) bs.length c] w fun e w'=>e=.returned (.int .u32 (crc bs))∧Below w.heap.size w w':=by
 have Hc:=Lib.hid hc
 have H8:=Lib.hid h8
 have HH:=Lib.hid (hH w hw)
 clear hc h8 hH
 generalize hn:bs.length=n at *
 have Hn:=Lib.hid hn
 clear hn
 have hsg:IntKind.u32.signed=false:=rfl
 have e0:bits .xor .u32 IntKind.u32.max 0=4294967295:=by decide +kernel
 have Hc1:∀W,Below w.heap.size w W→Hid (CellsAt W b off (octs bs)):=fun W hb=>Lib.hid (Hc.out.keep hb)
 obtain⟨t0,t1,t2,t3,t4,t5,t6,t7,t8,t9,t10,t11,t12,t13,t14,t15,ht⟩:∃t0 t1 t2 t3 t4 t5 t6 t7 t8 t9 t10 t11 t12 t13 t14 t15:Nat,half=#[.int .u32 (t0:Int),.int .u32 (t1:Int),.int .u32 (t2:Int),.int .u32 (t3:Int),.int .u32 (t4:Int),.int .u32 (t5:Int),.int .u32 (t6:Int),.int .u32 (t7:Int),.int .u32 (t8:Int),.int .u32 (t9:Int),.int .u32 (t10:Int),.int .u32 (t11:Int),.int .u32 (t12:Int),.int .u32 (t13:Int),.int .u32 (t14:Int),.int .u32 (t15:Int)]:=⟨_,_,_,_,_,_,_,_,_,_,_,_,_,_,_,_,rfl⟩
 have Ht:=Lib.hid ht
 rw [ht] at HH
 clear ht
 go_enter Tryz.func42,Tryz.ntmps42
 go_wp2_with (go_at_call 67;refine HH.out.mono ?_;rintro e w1 ⟨rfl,hb⟩;have B1:=Lib.hid hb;clear hb)
 have hsz1:=B1.out.size
 go_loopw [6,8,14] (fun dv xv iv wr=>∃(k d:Nat),k≤n∧iv=.int .i64 k∧dv=.int .u32 d∧d<4294967296∧Crc.feed 4294967295 (bs.take k)=d∧wr.heap[w1.heap.size]?=some (.cells half 126 (0,0))∧Below w.heap.size w wr) (fun _ _ iv _=>n-(intOf iv).toNat)
 case atStart =>
  refine⟨0,4294967295,Nat.zero_le _,rfl,rfl,by decide,rfl,?_,?_⟩
  ·rw [Ht.out]
   exact heap_alloc_new _ _
  ·exact B1.out.alloc hsz1 _
 case round =>
  obtain⟨k,d,hk,rfl,rfl,hd,hfeed,hhp,hbw⟩:=hrel
  have Hfeed:=Lib.hid hfeed
  have Hbw:=Lib.hid hbw
  have Hhp:=Lib.hid hhp
  clear hfeed hbw hhp
  by_cases hlt:k<n
  ·obtain⟨x,hx⟩:∃x,bs[k]?=some x:=⟨_,List.getElem?_eq_getElem (by rw [Hn.out];exact hlt)⟩
   have hx8:=H8.out x (List.mem_of_getElem? hx)
   have hck:wr.cell? ⟨b,off+k,none⟩=some (.int .u8 (x:Int)):=(Hc1 wr Hbw.out).out k _ (by simp [octs,hx])
   have ex:bits .xor .u32 (d:Int) (x:Int)=((d ^^^ x:Nat):Int):=bits_xor_u32 d x hd (by omega)
   have hq:d ^^^ x<4294967296:=Nat.xor_lt_two_pow (n:=32) hd (by omega)
   have Hx:=Lib.hid hx
   clear hx
   generalize hy:d ^^^ x=y at *
   have Hy:=Lib.hid hy
   clear hy
   have step:∀y:Nat,y<4294967296→∃a b:Nat,a<16∧bits .and .u32 (y:Int) 15=(a:Int)∧wr.cell? ⟨w1.heap.size,a,none⟩=some (.int .u32 (b:Int))∧bits .xor .u32 ((y:Int) / 16) (b:Int)=(Crc.bits 4 y:Nat)∧Crc.bits 4 y<4294967296:=fun y hy=>by
    refine⟨y % 16,Crc.bits 4 (y % 16),Nat.mod_lt _ (by decide),?_,?_,?_,bits_lt 4 hy⟩
    ·rw [← and15]
     exact bits_and_u32 y 15 hy (by decide)
    ·have h9:=half_at (i:=y % 16) (Nat.mod_lt _ (by decide))
     simp [World.cell?,Hhp.out,h9]
    ·have:=bits_xor_u32 (y / 16) (Crc.bits 4 (y % 16)) (by omega) (bits_lt 4 (by omega))
     rw [show ((y / 16:Nat):Int)=(y:Int) / 16 by omega] at this
     rw [this]
     exact congrArg _ (Crc.half_step y).symm
   obtain⟨a1,b1,ha1,ea1,hc1,ex1,hl1⟩:=step y hq
   obtain⟨a2,b2,ha2,ea2,hc2,ex2,hl2⟩:=step _ hl1
   have Hb8:Hid (Crc.bits 8 y=Crc.bits 4 (Crc.bits 4 y)):=Lib.hid (Crc.bits_add 4 4 y)
   clear step
   generalize Crc.bits 4 (Crc.bits 4 y)=y2 at *
   generalize Crc.bits 4 y=y1 at *
   go_wp2_with fail
   go_roundw
   case rel=>exact⟨k+1,y2,by omega,by go_num,rfl,hl2,by
    rw [List.take_add_one,Hx.out]
    show Crc.feed 4294967295 (bs.take k++[x])=y2
    rw [feed_snoc,Hfeed.out,Hy.out]
    exact Hb8.out,Hhp.out,Hbw.out⟩
   case measure=>simp [intOf];omega
  ·have en:bits .xor .u32 IntKind.u32.max (d:Int)=((4294967295 ^^^ d:Nat):Int):=not_u32 d hd
   have He:Hid (crc bs=4294967295 ^^^ d):=Lib.hid (by
    unfold crc
    rw [← Hfeed.out,List.take_of_length_le (by rw [Hn.out];omega)])
   go_wp2_with fail
   go_ret
   exact⟨by rw [He.out];rfl,Hbw.out⟩
set_option maxRecDepth 20000 in
set_option maxHeartbeats 1000000 in
theorem more_empty (hH:HalfOk) (o:Option Addr) (c:Nat) (w:World) (hw:10≤w.heap.size):Calls Tryz.prog 42 #[.int .u32 0,.slice o 0 c] w fun e w'=>e=.returned (.int .u32 (crc []))∧Below w.heap.size w w':=by
 have HH:=Lib.hid (hH w hw)
 clear hH
 have hsg:IntKind.u32.signed=false:=rfl
 have e0:bits .xor .u32 IntKind.u32.max 0=4294967295:=by decide +kernel
 have e1:bits .xor .u32 IntKind.u32.max 4294967295=0:=by decide +kernel
 have He:Hid (crc []=0):=Lib.hid (by decide +kernel)
 obtain⟨t0,t1,t2,t3,t4,t5,t6,t7,t8,t9,t10,t11,t12,t13,t14,t15,ht⟩:∃t0 t1 t2 t3 t4 t5 t6 t7 t8 t9 t10 t11 t12 t13 t14 t15:Nat,half=#[.int .u32 (t0:Int),.int .u32 (t1:Int),.int .u32 (t2:Int),.int .u32 (t3:Int),.int .u32 (t4:Int),.int .u32 (t5:Int),.int .u32 (t6:Int),.int .u32 (t7:Int),.int .u32 (t8:Int),.int .u32 (t9:Int),.int .u32 (t10:Int),.int .u32 (t11:Int),.int .u32 (t12:Int),.int .u32 (t13:Int),.int .u32 (t14:Int),.int .u32 (t15:Int)]:=⟨_,_,_,_,_,_,_,_,_,_,_,_,_,_,_,_,rfl⟩
 rw [ht] at HH
 clear ht
 go_enter Tryz.func42,Tryz.ntmps42
 go_wp2_with (go_at_call 67;refine HH.out.mono ?_;rintro e w1 ⟨rfl,hb⟩;have B1:=Lib.hid hb;clear hb)
 have hsz1:=B1.out.size
 go_loopw [6,14] (fun dv iv wr=>dv=.int .u32 4294967295∧iv=.int .i64 0∧Below w.heap.size w wr) (fun _ _ _=>0)
 case atStart =>
  refine⟨rfl,rfl,?_⟩
  exact B1.out.alloc hsz1 _
 case round =>
  obtain⟨rfl,rfl,hbw⟩:=hrel
  have Hbw:=Lib.hid hbw
  clear hbw
  go_wp2_with fail
  go_ret
  exact⟨by rw [He.out];rfl,Hbw.out⟩
set_option maxHeartbeats 400000 in
theorem sum_any (hH:HalfOk) {w:World}{v:Value}{bs:List Nat}(hw:10≤w.heap.size) (h:BytesAt w v bs) (hm:bs.length≤100000000000) (h8:∀x∈bs,x<256):Calls Tryz.prog 21 #[v] w fun e w'=>e=.returned (.int .u32 (crc bs))∧Below w.heap.size w w':=by
 have HM:Hid (Calls Tryz.prog 42 #[.int .u32 0,v] w fun e w'=>e=.returned (.int .u32 (crc bs))∧Below w.heap.size w w'):=Lib.hid (by
  rcases h.cases with ⟨o,c,rfl,h1,_⟩|⟨b,off,c,rfl,_,hc⟩
  ·have:bs=[]:=by
    cases bs with
    | nil=>rfl
    | cons _ _=>simp [octs] at h1
   subst this
   exact more_empty hH o c w hw
  ·exact more_cells hH b off c bs w hw hm hc h8)
 clear h h8 hH
 generalize crc bs=r at *
 go_enter Tryz.func21,Tryz.ntmps21
 go_wp2_with (go_at_call 42;refine HM.out.mono ?_;rintro e w' ⟨rfl,hb⟩;have Hb:=Lib.hid hb;clear hb)
 go_ret
 exact⟨rfl,Hb.out⟩
end Go.Proofs.YtejeflddeanccaaGreatDoor
