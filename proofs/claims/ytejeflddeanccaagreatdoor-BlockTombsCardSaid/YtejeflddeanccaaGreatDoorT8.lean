/- Contracts over this program. Their conditions: the slices read as the lists that are named, and lie within the sizes that are named. -/
import Derived.Test.YtejeflddeanccaaGreatDoorT7
import Derived.Test.YtejeflddeanccaaGreatDoorT4
import Derived.Test.YtejeflddeanccaaGreatDoorT5
import Derived.Test.YtejeflddeanccaaGreatDoorT2
import Derived.Lib.AppendStr
import Derived.Test.YtejeflddeanccaaGreatDoorP1
import Derived.Test.YtejeflddeanccaaGreatDoorP3
set_option linter.unusedSimpArgs false
set_option linter.unusedVariables false
set_option linter.deprecated false
set_option linter.unnecessarySimpa false
namespace Go.Proofs.YtejeflddeanccaaGreatDoor
open Go Go.RowKit Go.Ix Go.Tm
def OwnL (W:World) (B:Nat) (v:Value) (l:List Lbl):Prop:=W.ownsRow B 64 2 v l.length (l.flatMap lblCells)
theorem OwnL.rows {W:World}{B:Nat}{v:Value}{l:List Lbl}(h:OwnL W B v l):∃o c,v=.slice o l.length c∧(o=none→c=0)∧Rows2 W o l:=by
 obtain⟨o,c,rfl,h0⟩:=ownsRow_shape h
 refine⟨o,c,rfl,fun e=>(h0 e).2,fun hne=>?_⟩
 rcases h.2 with ⟨e,hx⟩|⟨g,cap,cur,e,_⟩
 ·exact absurd (List.eq_nil_of_length_eq_zero hx) hne
 ·simp only [Value.slice.injEq] at e
  obtain⟨rfl,_,rfl⟩:=e
  exact⟨g,0,rfl,ownsRow_cell h⟩
def DecEnd (w:World) (bs:List Nat) (e:Ending) (w':World):Prop :=
 Below w.heap.size w w'∧((dec bs=none∧e=.returned (.tuple #[.slice none 0 0,.int .i64 0,.int .u16 70]))∨
  ∃l k u,dec bs=some (l,bs.drop k)∧k≤bs.length∧e=.returned (.tuple #[u,.int .i64 (k:Nat),.int .u16 0])∧OwnL w' w.heap.size u l∧l.length≤255∧∀y∈l,y.1.length<65536∧y.2.length<65536)
theorem dec_none {c:Nat}{r:List Nat}(h:takeL c r=none):dec (c :: r)=none:=by simp [dec,h]
theorem dec_bad {c:Nat}{r r':List Nat}{l:List Lbl}(h:takeL c r=some (l,r')) (hc:check l≠0):dec (c :: r)=none:=by simp [dec,h,hc]
theorem dec_good {c:Nat}{r r':List Nat}{l:List Lbl}(h:takeL c r=some (l,r')) (hc:check l=0):dec (c :: r)=some (l,r'):=by simp [dec,h,hc]
set_option maxRecDepth 20000 in
set_option maxHeartbeats 1000000 in
theorem pdec_any {w:World}{v:Value}{bs:List Nat}(h:BySl w v bs) (h8:∀x∈bs,x<256) (hl:bs.length≤1000000000):Calls Tryz.prog 28 #[v] w (DecEnd w bs):=by
 obtain⟨j0,hj0,hy0,hy1,hy2⟩:=info_parts Tryz.info64
 have H8:=Lib.hid h8
 cases hbs:bs with
 | nil =>
  obtain⟨b,off,c,rfl,_⟩:=h
  rw [hbs]
  go_enter Tryz.func28,Tryz.ntmps28
  go_wp2_with fail
  go_ret3
  exact⟨Below.refl _ _,.inl ⟨rfl,rfl⟩⟩
 | cons c0 r0 =>
  have h0:bs[0]?=some c0:=by rw [hbs];rfl
  have hc8:=h8 c0 (List.mem_of_getElem? h0)
  have hr0:bs.drop 1=r0:=by rw [hbs];rfl
  rw [← hbs]
  have Hbs:=Lib.hid hbs
  have H:=Lib.hid h
  obtain⟨b,off,c,rfl,hc,hm,hcs⟩:=h
  unfold maxLen at hm
  have hpos:1≤bs.length:=by rw [hbs];simp
  have q0:=octs_cell hcs h0
  rw [Nat.add_zero] at q0
  obtain⟨f1,hf1,hc1⟩:=cut_fromZ b off bs.length c 1 1 rfl hpos hc
  have HB1:=Lib.hid (cut_by (j:=bs.length) (i:=1) (m:=bs.length-1) hcs hc (by unfold maxLen;omega) (Nat.le_refl _) hpos hf1 rfl)
  rw [List.take_of_length_le (Nat.le_refl _),hr0] at HB1
  clear hbs h8 hcs h0 hr0
  generalize hN:bs.length=m at *
  have HN:=Lib.hid hN
  clear hN
  have hm0:((m:Int) == 0)=false:=by simp;omega
  go_enter Tryz.func28,Tryz.ntmps28
  go_wp2_with fail
  go_loopw [5,6,19] (fun lv rv iv wr=>∃(k j:Nat) (l:List Lbl),k≤c0∧iv=.int .u8 (k:Nat)∧l.length=k∧wr.ownsRow w.heap.size 64 2 lv k (l.flatMap lblCells)∧BySl w rv (bs.drop j)∧j≤m∧takeL c0 r0=takeA l (c0-k) (bs.drop j)∧(∀y∈l,y.1.length<65536∧y.2.length<65536)∧Below w.heap.size w wr) (fun _ _ iv _=>c0-(intOf iv).toNat)
  case atStart=>exact⟨0,1,[],Nat.zero_le _,rfl,rfl,World.ownsRow_nil _ _ _ _,by rw [Hbs.out];exact HB1.out,hpos,by rw [takeA_nil,Hbs.out];rfl,by simp,Below.refl _ _⟩
  case round =>
   obtain⟨k,j,l,hk,rfl,hlk,hown,hby,hj,htk,hlen,hb⟩:=hrel
   have Hown:=Lib.hid hown
   have Hby:=Lib.hid hby
   have Htk:=Lib.hid htk
   have Hlen:=Lib.hid hlen
   have Hb:=Lib.hid hb
   have Hlk:=Lib.hid hlk
   have hsz:=hb.size
   clear hown hby htk hlen hb hlk
   by_cases hlt:k<c0
   ·have hd8:∀i,∀x∈bs.drop i,x<256:=fun i x hx=>H8.out x (List.mem_of_mem_drop hx)
    have HT1:=Lib.hid (ptake_any (Olds.of_below Hb.out) Hby.out (hd8 j))
    have HT2:Hid (∀(q i:Nat) (u:Value),BySl w u (bs.drop i)→Calls Tryz.prog 46 #[u] (wr.drewN q) (TakeEnd w (wr.drewN q) (bs.drop i))):=Lib.hid (fun q i u hu=>ptake_any ((Olds.of_below Hb.out).trans (Olds.drewN wr q)) hu (hd8 i))
    have hck:c0-k=(c0-(k+1))+1:=by omega
    rw [hck] at Htk
    clear hck
    cases ht1:takeT (bs.drop j) with
    | none =>
     have Hr:Hid (dec bs=none):=Lib.hid (by rw [Hbs.out];exact dec_none (by rw [Htk.out];exact takeA_one ht1))
     have HE:Hid (∀e w',TakeEnd w wr (bs.drop j) e w'→e=.returned (.tuple #[encStr [],.slice none 0 0,.bool false])∧∃q,w'=wr.drewN q):=Lib.hid (fun e w' ⟨h1,h2⟩=>by
      rcases h2 with ⟨_,h2⟩|⟨s,r,v,h2,_⟩
      ·exact⟨h2,h1⟩
      ·rw [ht1] at h2;cases h2)
     clear ht1
     go_wp2_with (go_at_call 46;refine HT1.out.mono ?_;clear HT1 HT2;rintro e w2 hend;obtain⟨rfl,q,hw2⟩:=HE.out e w2 hend;rw [hw2];clear hend hw2 w2)
     go_ret3
     exact⟨below_drewN Hb.out _,.inl ⟨Hr.out,rfl⟩⟩
    | some p =>
     obtain⟨s1,r1⟩:=p
     have hr1:=(takeT_drop ht1).1
     have hr1l:=(takeT_drop ht1).2.1
     have hs1:=takeT_len (hd8 j) ht1
     rw [List.length_drop,HN.out] at hr1l
     rw [List.drop_drop] at hr1
     obtain⟨j1,hj1⟩:∃j1,j1=j+(2+s1.length):=⟨_,rfl⟩
     rw [← hj1] at hr1
     have hj1m:j1≤m:=by omega
     subst hr1
     have Ht1:=Lib.hid ht1
     have HE:Hid (∀e w',TakeEnd w wr (bs.drop j) e w'→∃u,e=.returned (.tuple #[encStr s1,u,.bool true])∧BySl w u (bs.drop j1)∧∃q,w'=wr.drewN q):=Lib.hid (fun e w' ⟨h1,h2⟩=>by
      rcases h2 with ⟨h2,_⟩|⟨s,r,v,h2,h3,h4⟩
      ·rw [ht1] at h2;cases h2
      ·rw [ht1] at h2;cases h2;exact⟨v,h3,h4,h1⟩)
     clear ht1 hj1 hr1l
     cases ht2:takeT (bs.drop j1) with
     | none =>
      have Hr:Hid (dec bs=none):=Lib.hid (by rw [Hbs.out];exact dec_none (by rw [Htk.out];exact takeA_two Ht1.out ht2))
      have HE2:Hid (∀W e w',TakeEnd w W (bs.drop j1) e w'→e=.returned (.tuple #[encStr [],.slice none 0 0,.bool false])∧∃q,w'=W.drewN q):=Lib.hid (fun W e w' ⟨h1,h2⟩=>by
       rcases h2 with ⟨_,h2⟩|⟨s,r,v,h2,_⟩
       ·exact⟨h2,h1⟩
       ·rw [ht2] at h2;cases h2)
      clear ht2
      go_wp2_with (first
       | (go_at_call 46;refine (HT2.out q1 _ _ Hu1.out).mono ?_;rintro e w3 hend;obtain⟨rfl,q2,hw3⟩:=HE2.out _ e w3 hend;rw [hw3];clear hend hw3 w3)
       | (go_at_call 46;refine HT1.out.mono ?_;clear HT1;rintro e w2 hend;obtain⟨x1v,rfl,hu1,q1,hw2⟩:=HE.out e w2 hend;rw [hw2];have Hu1:=Lib.hid hu1;clear hend hw2 w2 hu1))
      go_ret3
      exact⟨below_drewN Hb.out _,.inl ⟨Hr.out,rfl⟩⟩
     | some p =>
      obtain⟨s2,r2⟩:=p
      have hr2:=(takeT_drop ht2).1
      have hr2l:=(takeT_drop ht2).2.1
      have hs2:=takeT_len (hd8 j1) ht2
      rw [List.length_drop,HN.out] at hr2l
      rw [List.drop_drop] at hr2
      obtain⟨j2,hj2⟩:∃j2,j2=j1+(2+s2.length):=⟨_,rfl⟩
      rw [← hj2] at hr2
      have hj2m:j2≤m:=by omega
      subst hr2
      have Hst:Hid (takeL c0 r0=takeA (l++[(s1,s2)]) (c0-(k+1)) (bs.drop j2)):=Lib.hid (by rw [Htk.out];exact takeA_step Ht1.out ht2)
      have HE2:Hid (∀W e w',TakeEnd w W (bs.drop j1) e w'→∃u,e=.returned (.tuple #[encStr s2,u,.bool true])∧BySl w u (bs.drop j2)∧∃q,w'=W.drewN q):=Lib.hid (fun W e w' ⟨h1,h2⟩=>by
       rcases h2 with ⟨h2,_⟩|⟨s,r,v,h2,h3,h4⟩
       ·rw [ht2] at h2;cases h2
       ·rw [ht2] at h2;cases h2;exact⟨v,h3,h4,h1⟩)
      have Hlen2:Hid (∀y∈l++[(s1,s2)],y.1.length<65536∧y.2.length<65536):=Lib.hid (fun y hy=>by
       rcases List.mem_append.1 hy with hy | hy
       ·exact Hlen.out y hy
       ·rw [List.mem_singleton.1 hy];exact⟨hs1,hs2⟩)
      clear ht2 hj2 hr2l
      go_wp2_with (first
       | (go_at_call 46;refine (HT2.out q1 _ _ Hu1.out).mono ?_;rintro e w3 hend;obtain⟨x2v,rfl,hu2,q2,hw3⟩:=HE2.out _ e w3 hend;have Hu2:=Lib.hid hu2;have O3:Hid (Olds wr w3):=Lib.hid (by rw [hw3];exact (Olds.drewN wr q1).trans (Olds.drewN _ q2));have B3:Hid (Below w.heap.size w w3):=Lib.hid (by rw [hw3];exact below_drewN (below_drewN Hb.out _) _);have hs3:=B3.out.size;have O13:Hid (Olds (wr.drewN q1) w3):=Lib.hid (by rw [hw3];exact Olds.drewN _ q2);clear hend hw3 hu2)
       | (go_at_call 46;refine HT1.out.mono ?_;clear HT1;rintro e w2 hend;obtain⟨x1v,rfl,hu1,q1,hw2⟩:=HE.out e w2 hend;rw [hw2];have Hu1:=Lib.hid hu1;clear hend hw2 w2 hu1)
       | (at_builtin;refine wpList_append_lies _ rfl _ _ _ rfl w.heap.size 64 j0 _ 2 32 Tryz.underlying39 hj0 hy0 hy1 hy2 rfl (by decide) u5 k (l.flatMap lblCells) rfl (ownsRow_olds Hown.out (O3.out.trans (Olds.alloc _ _))) ⟨w3.heap.size,0,none⟩ 1 1 [encStr s1,encStr s2] rfl rfl (World.news_of_block (cs:=#[encStr s1,encStr s2]) (t:=64) (fr:=(0,0)) (heap_alloc_new w3 _)) (by simp [Value.oneCell']) Nat.one_pos (by unfold maxLen;omega) (by omega) (by simp;omega) (w3.heap.size+1) (by simp) ?_;intro g4 c4 w4 hown4 hgrow4 hat4 hlt4;have Hown4:=Lib.hid hown4;have Hgrow4:=Lib.hid hgrow4;have B4:Hid (Below w.heap.size w w4):=Lib.hid ((B3.out.alloc hs3 _).grown hgrow4 (by simp;omega) (fun b hb=>(ownsRow_block Hown.out hb).1));clear hown4 hgrow4 hat4))
      go_roundw
      case rel=>exact⟨k+1,j2,l++[(s1,s2)],by omega,by go_num,by rw [List.length_append,Hlk.out];rfl,by rw [List.flatMap_append];exact Hown4.out,Hu2.out,hj2m,Hst.out,Hlen2.out,B4.out⟩
      case measure=>simp [intOf];omega
   ·obtain rfl:k=c0:=by omega
    have htk:takeL k r0=some (l,bs.drop j):=by rw [Htk.out,Nat.sub_self,takeA_zero]
    have hO:OwnL wr w.heap.size u5 l:=by unfold OwnL;rw [Hlk.out];exact Hown.out
    obtain⟨o5,c5,rfl,hz5,hrows⟩:=hO.rows
    have HO:=Lib.hid hO
    have HC:=Lib.hid (pcheck_rows o5 c5 l.length l wr rfl (by rw [Hlk.out];omega) (fun y hy=>by have:=Hlen.out y hy;omega) hrows)
    have hsub:IntKind.i64.wrap ((m:Int)-((m-j:Nat):Int))=(j:Int):=by rw [IntKind.wrap_i64];omega
    have Htk2:=Lib.hid htk
    have hll:l.length≤255:=by rw [Hlk.out];omega
    obtain⟨b6,off6,c6,rfl,_⟩:=Hby.out
    have hdl:(bs.drop j).length=m-j:=by rw [List.length_drop,HN.out]
    rw [hdl]
    clear htk hO hrows hz5 hdl
    have hll2:=hll
    generalize hgl:l.length=ll at *
    have Hgl:=Lib.hid hgl
    clear hgl
    by_cases hk0:check l=0
    ·have Hr:Hid (dec bs=some (l,bs.drop j)):=Lib.hid (by rw [Hbs.out];rw [Hbs.out] at Htk2;exact dec_good Htk2.out hk0)
     rw [hk0] at HC
     clear hk0
     go_wp2_with (go_at_call 38;refine HC.out.mono ?_;clear HC;rintro e w5 ⟨rfl,hb5⟩;have B5:Hid (Below w.heap.size w w5):=Lib.hid (Hb.out.trans (hb5.mono hsz));have O5:Hid (Olds wr w5):=Lib.hid (Olds.of_below hb5);clear hb5)
     go_ret3
     exact⟨B5.out,.inr ⟨l,j,_,Hr.out,by rw [HN.out];exact hj,rfl,ownsRow_olds HO.out O5.out,by rw [Hgl.out];exact hll2,Hlen.out⟩⟩
    ·have Hr:Hid (dec bs=none):=Lib.hid (by rw [Hbs.out];rw [Hbs.out] at Htk2;exact dec_bad Htk2.out hk0)
     have Hk0:=Lib.hid hk0
     generalize check l=k0 at *
     have hkb:((k0:Int) != 0)=true:=by simpa using Hk0.out
     clear hk0
     go_wp2_with (go_at_call 38;refine HC.out.mono ?_;clear HC;rintro e w5 ⟨rfl,hb5⟩;have B5:Hid (Below w.heap.size w w5):=Lib.hid (Hb.out.trans (hb5.mono hsz));clear hb5)
     go_ret3
     exact⟨B5.out,.inl ⟨Hr.out,rfl⟩⟩
end Go.Proofs.YtejeflddeanccaaGreatDoor
namespace Go.Proofs.YtejeflddeanccaaGreatDoor
open Go Go.RowKit Go.Ix Go.Tm
theorem back_snoc (l:List Nat) (x:Nat):back (l++[x])=back l+256 ^ l.length * x:=by
 induction l with
 | nil=>simp [back]
 | cons y l ih =>
  show y+256 * back (l++[x])=(y+256 * back l)+_
  rw [ih,List.length_cons,Nat.pow_succ,Nat.mul_add]
  have:256 * (256 ^ l.length * x)=256 ^ l.length * 256 * x:=by rw [← Nat.mul_assoc,Nat.mul_comm 256]
  omega
theorem or_step (acc x k:Nat) (hk:k<8) (h1:acc<256 ^ k) (h2:x<256):bits .or .u64 (acc:Int) (IntKind.u64.wrap ((x:Int) * 2 ^ (8 * k)))=((acc+256 ^ k * x:Nat):Int):=by
 have e:(256:Nat) ^ k=2 ^ (8 * k):=by rw [Nat.pow_mul]
 have hp:(2:Nat) ^ (8 * k) * 256≤2 ^ 64:=by
  rw [show (256:Nat)=2 ^ 8 from rfl,← Nat.pow_add]
  exact Nat.pow_le_pow_right (by decide) (by omega)
 have hx:2 ^ (8 * k) * x<2 ^ 64:=Nat.lt_of_lt_of_le (Nat.mul_lt_mul_of_pos_left h2 (Nat.pow_pos (by decide))) hp
 have hw:IntKind.u64.wrap ((x:Int) * 2 ^ (8 * k))=((2 ^ (8 * k) * x:Nat):Int):=by
  rw [show ((x:Int) * 2 ^ (8 * k))=((2 ^ (8 * k) * x:Nat):Int) by push_cast;rw [Int.mul_comm],IntKind.wrap_u64]
  omega
 have ha:acc<2 ^ 64:=by
  have:(256:Nat) ^ k≤2 ^ 64:=by rw [e];exact Nat.pow_le_pow_right (by decide) (by omega)
  omega
 rw [hw,(bits_nat .u64 64 (by decide) (fun n h0 h1=>by rw [IntKind.wrap_u64];omega) acc (2 ^ (8 * k) * x) ha hx).2]
 have h3:=Nat.two_pow_add_eq_or_of_lt (i:=8 * k) (b:=acc) (by rw [← e];exact h1) x
 rw [Nat.or_comm,← h3,e,Nat.add_comm]
theorem back_take {bs:List Nat}{k x:Nat}(hx:bs[k]?=some x):back (bs.take (k+1))=back (bs.take k)+256 ^ k * x:=by
 have hl:=(List.getElem?_eq_some_iff.1 hx).1
 rw [List.take_add_one,hx]
 show back (bs.take k++[x])=_
 rw [back_snoc,List.length_take,Nat.min_eq_left (by omega)]
theorem back_take_lt {bs:List Nat}(h8:∀x∈bs,x<256) (k:Nat):back (bs.take k)<256 ^ k:=by
 refine Nat.lt_of_lt_of_le (back_lt _ fun x hx=>h8 x (List.mem_of_mem_take hx)) (Nat.pow_le_pow_right (by decide) ?_)
 rw [List.length_take]
 omega
set_option maxRecDepth 20000 in
set_option maxHeartbeats 1000000 in
theorem bget_any {w W:World}{v:Value}{bs:List Nat}(ho:Olds w W) (h:BySl w v bs) (h8:∀x∈bs,x<256) (hl:bs.length≤8):Calls Tryz.prog 27 #[v] W fun e w'=>e=.returned (.int .u64 (back bs:Nat))∧w'=W:=by
 obtain⟨b,off,c,rfl,hc,hm,hcs⟩:=h
 have Hcs:=Lib.hid hcs
 have H8:=Lib.hid h8
 have Ho:=Lib.hid ho
 clear hcs h8 ho
 generalize hN:bs.length=m at *
 have HN:=Lib.hid hN
 clear hN
 go_enter Tryz.func27,Tryz.ntmps27
 go_wp2_with fail
 go_loopw [3,8] (fun nv iv wr=>∃k:Nat,k≤m∧iv=.int .i64 k∧nv=.int .u64 (back (bs.take k):Nat)∧wr=W) (fun _ iv _=>m-(intOf iv).toNat)
 case atStart=>exact⟨0,Nat.zero_le _,rfl,rfl,rfl⟩
 case round =>
  obtain⟨k,hk,rfl,rfl,rfl⟩:=hrel
  have hbk:back (bs.take k)<256 ^ k:=back_take_lt H8.out k
  have hbk8:(256:Nat) ^ k≤256 ^ 8:=Nat.pow_le_pow_right (by decide) (by omega)
  by_cases hlt:k<m
  ·obtain⟨x,hx⟩:∃x,bs[k]?=some x:=⟨_,List.getElem?_eq_getElem (by rw [HN.out];exact hlt)⟩
   have hx8:=H8.out x (List.mem_of_getElem? hx)
   have hcx:=Ho.out.cell (octs_cell Hcs.out hx)
   have Hstep:=Lib.hid (back_take hx)
   clear hx
   generalize hacc:back (bs.take k)=acc at *
   have hor:bits .or .u64 (acc:Int) (IntKind.u64.wrap ((x:Int) * 2 ^ (8 * k)))=((back (bs.take (k+1)):Nat):Int):=by
    rw [Hstep.out]
    exact or_step acc x k (by omega) hbk hx8
   clear hacc
   go_wp2_with fail
   go_roundw
   case rel=>exact⟨k+1,by omega,by go_num,by rw [Hstep.out],trivial⟩
   case measure=>simp [intOf];omega
  ·obtain rfl:k=m:=by omega
   have Hfin:Hid (back (bs.take k)=back bs):=Lib.hid (by rw [List.take_of_length_le (by rw [HN.out];exact Nat.le_refl _)])
   generalize back (bs.take k)=acc at *
   go_wp2_with fail
   go_ret
   exact⟨by rw [← Hfin.out];rfl,rfl⟩
def gpart (bs:List Nat) (i n k:Nat):List Nat:=(bs.drop (i+k)).take (n-k)
theorem gpart_step {bs:List Nat}{i n k x:Nat}(hx:bs[i+k]?=some x) (hk:k<n):back (gpart bs i n k)=x+256 * back (gpart bs i n (k+1)):=by
 have hl:=(List.getElem?_eq_some_iff.1 hx).1
 unfold gpart
 rw [List.drop_eq_getElem_cons hl,show n-k=(n-(k+1))+1 by omega,List.take_succ_cons,(List.getElem?_eq_some_iff.1 hx).2]
 rfl
theorem gpart_lt {bs:List Nat}(h8:∀x∈bs,x<256) (i n k:Nat):back (gpart bs i n k)<256 ^ (n-k):=by
 refine Nat.lt_of_lt_of_le (back_lt _ fun x hx=>h8 x (List.mem_of_mem_drop (List.mem_of_mem_take hx))) (Nat.pow_le_pow_right (by decide) ?_)
 unfold gpart
 rw [List.length_take]
 omega
set_option maxRecDepth 20000 in
set_option maxHeartbeats 1000000 in
theorem rget_any {w W:World}{v:Value}{bs:List Nat}(i n:Nat) (ho:Olds w W) (h:BySl w v bs) (h8:∀x∈bs,x<256) (hn:n≤8) (hi:i+n≤bs.length) (hl:bs.length≤1000000000):Calls Tryz.prog 30 #[v,.int .i64 (i:Nat),.int .i64 (n:Nat)] W fun e w'=>e=.returned (.int .u64 (back ((bs.drop i).take n):Nat))∧w'=W:=by
 obtain⟨b,off,c,rfl,hc,hm,hcs⟩:=h
 have Hcs:=Lib.hid hcs
 have H8:=Lib.hid h8
 have Ho:=Lib.hid ho
 clear hcs h8 ho
 generalize hN:bs.length=m at *
 have HN:=Lib.hid hN
 clear hN
 go_enter Tryz.func30,Tryz.ntmps30
 go_wp2_with fail
 go_loopw [7,8] (fun nv iv wr=>∃k:Nat,k≤n∧iv=.int .i64 ((k:Int)-1)∧nv=.int .u64 (back (gpart bs i n k):Nat)∧wr=W) (fun _ iv _=>(intOf iv+1).toNat)
 case atStart=>exact⟨n,Nat.le_refl _,rfl,by unfold gpart;rw [Nat.sub_self,List.take_zero];rfl,rfl⟩
 case round =>
  obtain⟨k,hk,rfl,rfl,rfl⟩:=hrel
  cases k with
  | succ k =>
   obtain⟨x,hx⟩:∃x,bs[i+k]?=some x:=⟨_,List.getElem?_eq_getElem (by rw [HN.out];omega)⟩
   have hx8:=H8.out x (List.mem_of_getElem? hx)
   have hcx:=Ho.out.cell (octs_cell Hcs.out hx)
   have Hst:=Lib.hid (gpart_step hx (show k<n by omega))
   have hlt:=gpart_lt H8.out i n (k+1)
   have hp:(256:Nat) ^ (n-(k+1))≤256 ^ 7:=Nat.pow_le_pow_right (by decide) (by omega)
   clear hx
   generalize back (gpart bs i n (k+1))=acc at *
   have ha:acc<256 ^ 7:=Nat.lt_of_lt_of_le hlt hp
   have ha2:acc<72057594037927936:=ha
   have e0:((k+1:Nat):Int)-1=(k:Int):=by omega
   rw [e0]
   have g0:decide ((0:Int)≤(k:Int))=true:=by simp
   have hwi:IntKind.i64.wrap ((i:Int)+(k:Int))=((i+k:Nat):Int):=by rw [IntKind.wrap_i64];omega
   have hw1:IntKind.u64.wrap ((acc:Int) * 256)=(acc:Int) * 256:=by rw [IntKind.wrap_u64];omega
   have hw2:IntKind.u64.wrap ((acc:Int) * 256+(x:Int))=(acc:Int) * 256+(x:Int):=by rw [IntKind.wrap_u64];omega
   clear hlt hp ha
   go_wp2_with fail
   go_roundw
   case rel=>exact⟨k,by omega,rfl,by rw [Hst.out];congr 1;push_cast;(try omega),trivial⟩
   case measure=>simp [intOf]
  | zero =>
   have Hfin:Hid (gpart bs i n 0=(bs.drop i).take n):=Lib.hid rfl
   have e0:((0:Nat):Int)-1 = -1:=by omega
   rw [e0]
   generalize gpart bs i n 0=P at *
   go_wp2_with fail
   go_ret
   exact⟨by rw [← Hfin.out];rfl,rfl⟩
end Go.Proofs.YtejeflddeanccaaGreatDoor
namespace Go.Proofs.YtejeflddeanccaaGreatDoor
open Go Go.RowKit Go.Ix
theorem low_step (k n:Nat):low (k+1) n=n % 256 :: low k (n / 256):=rfl
set_option maxRecDepth 20000 in
set_option maxHeartbeats 1000000 in
theorem put_any {w:World}{B:Nat}{K:Nat→Prop}{v:Value}{bs:List Nat}(n many:Nat) (h:Row8 w B v bs) (hfr:Free K v) (hK:∀k,K k→k<w.heap.size) (hB:B≤w.heap.size) (hn:n<18446744073709551616) (hm:many≤8) (hl:bs.length≤100000000000) :
  Calls Tryz.prog 24 #[v,.int .u64 n,.int .i64 many] w fun e w'=>∃v',e=.returned v'∧Row8 w' B v' (bs++low many n)∧Free K v'∧Kept K w w':=by
 obtain⟨i0,hi0,hz0,hz1,hz2⟩:=info_parts Tryz.info5
 have HK:=Lib.hid hK
 have H:=Lib.hid h
 have HF:=Lib.hid hfr
 obtain⟨o,c,rfl,_⟩:=ownsRow_shape h
 clear hK h hfr
 generalize hN0:bs.length=N0 at *
 have HN0:=Lib.hid hN0
 clear hN0
 go_enter Tryz.func24,Tryz.ntmps24
 go_wp2_with fail
 go_loopw [0,1,7] (fun sv nv iv wr=>∃(k m:Nat) (ds:List Nat),k≤many∧iv=.int .i64 k∧nv=.int .u64 m∧m<18446744073709551616∧ds.length=k∧low many n=ds++low (many-k) m∧Row8 wr B sv (bs++ds)∧Free K sv∧Kept K w wr) (fun _ _ iv _=>many-(intOf iv).toNat)
 case atStart=>exact⟨0,n,[],Nat.zero_le _,rfl,rfl,hn,rfl,rfl,by rw [List.append_nil];exact H.out,HF.out,Kept.refl _ _⟩
 case round =>
  obtain⟨k,m,ds,hk,rfl,rfl,hm64,hdl,hlow,hrow,hfree,hkept⟩:=hrel
  have Hlow:=Lib.hid hlow
  have Hkept:=Lib.hid hkept
  have Hrow8:=Lib.hid hrow
  have hsz:=hkept.size
  unfold Row8 at hrow
  obtain⟨o,c,rfl,_⟩:=ownsRow_shape hrow
  have Hrow:=Lib.hid hrow
  have Hfree:=Lib.hid hfree
  have hbl:(bs++ds).length=N0+k:=by rw [List.length_append,hdl,HN0.out]
  clear hlow hkept hrow hfree
  generalize hN:(bs++ds).length=N at *
  have HN:=Lib.hid hN
  have hNb:N≤100000000008:=by omega
  clear hN hbl
  by_cases hlt:k<many
  ·go_wp2_with (at_builtin;refine wpList_append_lies _ rfl _ _ _ rfl B 5 i0 _ 1 1 Tryz.underlying23 hi0 hz0 hz1 hz2 rfl Nat.one_pos (.slice o N c) N (octs (bs++ds)) rfl (ownsRow_olds Hrow.out (Olds.alloc _ _)) ⟨wr.heap.size,0,none⟩ 1 1 [.int .u8 ((m:Int) % 256)] rfl rfl (World.news_of_block (cs:=#[.int .u8 ((m:Int) % 256)]) (t:=5) (fr:=(0,0)) (heap_alloc_new wr _)) (by simp [Value.oneCell']) Nat.one_pos (by unfold maxLen;omega) (by omega) (by simp;omega) (wr.heap.size+1) (by simp) ?_;intro gg cap2 w4 hown4 hgrow hat hlt4)
   have Hg:Hid (Free K (.slice (some ⟨gg,0,none⟩) (N+1) cap2)):=Lib.hid (by
    intro g hg
    cases hg
    rcases hat with e | e
    ·exact Hfree.out gg e
    ·exact fun h=>by have:=HK.out gg h;omega)
   have Hnew:Hid (Row8 w4 B (.slice (some ⟨gg,0,none⟩) (N+1) cap2) (bs++(ds++[m % 256]))):=Lib.hid (by
    unfold Row8
    rw [← List.append_assoc,octs_append,List.length_append,HN.out]
    exact hown4)
   have Hk4:Hid (Kept K w w4):=Lib.hid ((Hkept.out.alloc HK.out _).grown hgrow HK.out Hfree.out)
   go_roundw
   case rel=>exact⟨k+1,m / 256,ds++[m % 256],by omega,by go_num,by congr 1,by omega,by rw [List.length_append,hdl];rfl,by
    rw [Hlow.out,show many-k=(many-(k+1))+1 by omega,low_step,List.append_assoc]
    rfl,Hnew.out,Hg.out,Hk4.out⟩
   case measure=>simp [intOf];omega
  ·go_wp2_with fail
   go_ret
   obtain rfl:k=many:=by omega
   have he:bs++low k n=bs++ds:=by
    have:=Hlow.out
    rw [Nat.sub_self] at this
    rw [this]
    show bs++(ds++[])=_
    rw [List.append_nil]
   rw [he]
   exact⟨_,rfl,Hrow8.out,Hfree.out,Hkept.out⟩
set_option maxRecDepth 20000 in
set_option maxHeartbeats 1000000 in
theorem blow_any {w:World}{B:Nat}{K:Nat→Prop}{v:Value}{bs:List Nat}(n many:Nat) (h:Row8 w B v bs) (hfr:Free K v) (hK:∀k,K k→k<w.heap.size) (hB:B≤w.heap.size) (hn:n<18446744073709551616) (hm:many≤8) (hl:bs.length≤100000000000) :
  Calls Tryz.prog 17 #[v,.int .u64 n,.int .i64 many] w fun e w'=>∃v',e=.returned v'∧Row8 w' B v' (bs++low many n)∧Free K v'∧Kept K w w':=by
 obtain⟨i0,hi0,hz0,hz1,hz2⟩:=info_parts Tryz.info5
 have HK:=Lib.hid hK
 have H:=Lib.hid h
 have HF:=Lib.hid hfr
 obtain⟨o,c,rfl,_⟩:=ownsRow_shape h
 clear hK h hfr
 generalize hN0:bs.length=N0 at *
 have HN0:=Lib.hid hN0
 clear hN0
 go_enter Tryz.func17,Tryz.ntmps17
 go_wp2_with fail
 go_loopw [0,1,8] (fun sv nv iv wr=>∃(k m:Nat) (ds:List Nat),k≤many∧iv=.int .i64 k∧nv=.int .u64 m∧m<18446744073709551616∧ds.length=k∧low many n=ds++low (many-k) m∧Row8 wr B sv (bs++ds)∧Free K sv∧Kept K w wr) (fun _ _ iv _=>many-(intOf iv).toNat)
 case atStart=>exact⟨0,n,[],Nat.zero_le _,rfl,rfl,hn,rfl,rfl,by rw [List.append_nil];exact H.out,HF.out,Kept.refl _ _⟩
 case round =>
  obtain⟨k,m,ds,hk,rfl,rfl,hm64,hdl,hlow,hrow,hfree,hkept⟩:=hrel
  have Hlow:=Lib.hid hlow
  have Hkept:=Lib.hid hkept
  have Hrow8:=Lib.hid hrow
  have hsz:=hkept.size
  unfold Row8 at hrow
  obtain⟨o,c,rfl,_⟩:=ownsRow_shape hrow
  have Hrow:=Lib.hid hrow
  have Hfree:=Lib.hid hfree
  have hbl:(bs++ds).length=N0+k:=by rw [List.length_append,hdl,HN0.out]
  clear hlow hkept hrow hfree
  generalize hN:(bs++ds).length=N at *
  have HN:=Lib.hid hN
  have hNb:N≤100000000008:=by omega
  clear hN hbl
  by_cases hlt:k<many
  ·go_wp2_with (at_builtin;refine wpList_append_lies _ rfl _ _ _ rfl B 5 i0 _ 1 1 Tryz.underlying23 hi0 hz0 hz1 hz2 rfl Nat.one_pos (.slice o N c) N (octs (bs++ds)) rfl (ownsRow_olds Hrow.out (Olds.alloc _ _)) ⟨wr.heap.size,0,none⟩ 1 1 [.int .u8 ((m:Int) % 256)] rfl rfl (World.news_of_block (cs:=#[.int .u8 ((m:Int) % 256)]) (t:=5) (fr:=(0,0)) (heap_alloc_new wr _)) (by simp [Value.oneCell']) Nat.one_pos (by unfold maxLen;omega) (by omega) (by simp;omega) (wr.heap.size+1) (by simp) ?_;intro gg cap2 w4 hown4 hgrow hat hlt4)
   have Hg:Hid (Free K (.slice (some ⟨gg,0,none⟩) (N+1) cap2)):=Lib.hid (by
    intro g hg
    cases hg
    rcases hat with e | e
    ·exact Hfree.out gg e
    ·exact fun h=>by have:=HK.out gg h;omega)
   have Hnew:Hid (Row8 w4 B (.slice (some ⟨gg,0,none⟩) (N+1) cap2) (bs++(ds++[m % 256]))):=Lib.hid (by
    unfold Row8
    rw [← List.append_assoc,octs_append,List.length_append,HN.out]
    exact hown4)
   have Hk4:Hid (Kept K w w4):=Lib.hid ((Hkept.out.alloc HK.out _).grown hgrow HK.out Hfree.out)
   go_roundw
   case rel=>exact⟨k+1,m / 256,ds++[m % 256],by omega,by go_num,by congr 1,by omega,by rw [List.length_append,hdl];rfl,by
    rw [Hlow.out,show many-k=(many-(k+1))+1 by omega,low_step,List.append_assoc]
    rfl,Hnew.out,Hg.out,Hk4.out⟩
   case measure=>simp [intOf];omega
  ·go_wp2_with fail
   go_ret
   obtain rfl:k=many:=by omega
   have he:bs++low k n=bs++ds:=by
    have:=Hlow.out
    rw [Nat.sub_self] at this
    rw [this]
    show bs++(ds++[])=_
    rw [List.append_nil]
   rw [he]
   exact⟨_,rfl,Hrow8.out,Hfree.out,Hkept.out⟩
theorem put8 {w:World}{B:Nat}{v:Value}{bs:List Nat}(n many:Nat) (h:Row8 w B v bs) (hB:B≤w.heap.size) (hn:n<18446744073709551616) (hm:many≤8) (hl:bs.length≤100000000000) :
  Calls Tryz.prog 24 #[v,.int .u64 n,.int .i64 many] w fun e w'=>∃v',e=.returned v'∧Row8 w' B v' (bs++low many n)∧Below B w w' :=
 (put_any (K:=fun k=>k<B) n many h (fun g hg=>by have:=(ownsRow_block h hg).1;omega) (fun k hk=>by omega) hB hn hm hl).mono fun e w' ⟨v',h1,h2,_,h4⟩=>⟨v',h1,h2,h4.below fun k hk=>hk⟩
theorem blow8 {w:World}{B:Nat}{v:Value}{bs:List Nat}(n many:Nat) (h:Row8 w B v bs) (hB:B≤w.heap.size) (hn:n<18446744073709551616) (hm:many≤8) (hl:bs.length≤100000000000) :
  Calls Tryz.prog 17 #[v,.int .u64 n,.int .i64 many] w fun e w'=>∃v',e=.returned v'∧Row8 w' B v' (bs++low many n)∧Below B w w' :=
 (blow_any (K:=fun k=>k<B) n many h (fun g hg=>by have:=(ownsRow_block h hg).1;omega) (fun k hk=>by omega) hB hn hm hl).mono fun e w' ⟨v',h1,h2,_,h4⟩=>⟨v',h1,h2,h4.below fun k hk=>hk⟩
end Go.Proofs.YtejeflddeanccaaGreatDoor
namespace Go.Proofs.YtejeflddeanccaaGreatDoor
open Go Go.RowKit Go.Ix
theorem cells_txt (x:Txt):Lib.strCells ⟨x.toArray⟩=octs (nums x):=by simp [Lib.strCells,octs,nums]
theorem run_append_txt {W:World}{B n:Nat}{v:Value}{xs:List Value}(hown:W.ownsRow B 5 1 v n xs) (hB:B≤W.heap.size) (x:Txt) (hbytes:n+x.length≤140737488355328) (ty:TypeId) :
  ∃v' w',(Builtin.append_ #[23,9] ty #[v,encStr x]).run Tryz.prog W=.ok v' w'∧w'.ownsRow B 5 1 v' (n+x.length) (xs++octs (nums x))∧W.grownBy w' v.ownBlock∧(v'.ownBlock=v.ownBlock∨v'.ownBlock=some W.heap.size):=by
 obtain⟨i0,hi0,hz0,hz1,hz2⟩:=info_parts Tryz.info5
 have hsize:(⟨x.toArray⟩:ByteArray).size=x.length:=by show x.toArray.size=x.length;simp
 obtain⟨v',w',hr,h2,h3,h4⟩:=Lib.run_append_own_string (P:=Tryz.prog) W B 23 9 ty 5 i0 Tryz.underlying23 Tryz.underlying9 hi0 hz0 hz1 hz2 v n xs hown ⟨x.toArray⟩ (by rw [hsize];unfold maxLen;omega) (by rw [hsize];exact hbytes) hB
 rw [hsize,cells_txt] at h2
 refine⟨v',w',hr,h2,h3,?_⟩
 rcases hown.2 with ⟨rfl,rfl⟩|⟨g,cap,cur,rfl,hbg,hg,hnc,hcm,hcs,htake⟩
 ·by_cases h0:x.length=0
  ·have:v'=.slice none 0 0:=h4.2 ⟨rfl,by rw [hsize];exact h0⟩
   subst this
   exact .inl rfl
  ·have hr2:=run_append_nil_string (P:=Tryz.prog) W 23 9 ty 5 i0 (.int .u8 0) Tryz.underlying23 Tryz.underlying9 hi0 hz0 ⟨x.toArray⟩ (by rw [hsize];omega) (by rw [hsize];omega) (by rw [hsize,hz2];omega)
   rw [hr] at hr2
   simp only [Result.ok.injEq] at hr2
   rw [hr2.1]
   exact .inr rfl
 ·have hcs':cur.size=cap:=by simpa using hcs
  by_cases hroom:n+x.length≤cap
  ·have hr2:=Lib.run_append_room_string (P:=Tryz.prog) W 23 9 ty 5 i0 Tryz.underlying23 Tryz.underlying9 hi0 hz1 g n cap cur hg ⟨x.toArray⟩ (by rw [hsize];exact hroom) (by rw [hsize];omega)
   rw [hr] at hr2
   simp only [Result.ok.injEq] at hr2
   rw [hr2.1]
   exact .inl rfl
  ·have holds:∀j u,xs[j]?=some u→W.cell? ((⟨g,0,none⟩:Addr).add j)=some u:=hown.cells (g:=g) rfl
   have hxl:xs.length=n:=by simpa using hown.1
   have hr2:=Lib.run_append_grow_string (P:=Tryz.prog) W 23 9 ty 5 i0 (.int .u8 0) Tryz.underlying23 Tryz.underlying9 hi0 hz0 ⟨g,0,none⟩ n cap xs (by rw [hz1];simpa using hxl) holds ⟨x.toArray⟩ (by rw [hsize];omega) (by rw [hsize];omega) (by rw [hz2,hsize];exact growslice_fits (by omega) (by omega))
   rw [hr] at hr2
   simp only [Result.ok.injEq] at hr2
   rw [hr2.1]
   exact .inr rfl
theorem wpList_append_txt {ops:Array Oper}{rest:List Oper}{o:Oper}{a:Act}{Q:Exit→Act→World→Prop}{W:World}(hgd:o.guard=none) (s x:Operand)
  (ho:o.op=.call { callee:=.builtin .append,args:=#[s,x],argTypes:=#[23,9] })
  (B n:Nat) (v:Value) (t:Txt) (xs:List Value) (hsv:a.eval s=v) (hxv:a.eval x=encStr t) (hown:W.ownsRow B 5 1 v n xs) (hB:B≤W.heap.size) (hbytes:n+t.length≤140737488355328)
  (h:∀v' w',w'.ownsRow B 5 1 v' (n+t.length) (xs++octs (nums t))→W.grownBy w' v.ownBlock→(v'.ownBlock=v.ownBlock∨v'.ownBlock=some W.heap.size)→wpList Tryz.prog ops Q rest (a.put o.dst v') w'):wpList Tryz.prog ops Q (o :: rest) a W :=
 wpList_plain hgd fun K hK=>by
  obtain⟨v',w',hr,h2,h3,h4⟩:=run_append_txt hown hB t hbytes o.type
  unfold Oper.wp execOp
  simp only [ho,resolve,invoke,builtin,Sem.run_bind,Sem.run_pure,Result.andThen_ok,List.map_toArray,List.map_cons,List.map_nil,hsv,hxv,hr]
  exact hK _ _ (h v' w' h2 h3 h4)
end Go.Proofs.YtejeflddeanccaaGreatDoor
namespace Go.Proofs.YtejeflddeanccaaGreatDoor
open Go Go.RowKit Go.Ix Go.Tm
theorem two_eq (s:Txt):two s=[s.length % 256,s.length / 256 % 256]++nums s:=rfl
set_option maxRecDepth 20000 in
set_option maxHeartbeats 1000000 in
theorem pput_any {w:World}{B:Nat}{K:Nat→Prop}{v:Value}{bs:List Nat}(s:Txt) (h:Row8 w B v bs) (hfr:Free K v) (hK:∀k,K k→k<w.heap.size) (hB:B≤w.heap.size) (hs:s.length<65536) (hl:bs.length≤100000000000) :
  Calls Tryz.prog 39 #[v,encStr s] w fun e w'=>∃v',e=.returned v'∧Row8 w' B v' (bs++two s)∧Free K v'∧Kept K w w':=by
 obtain⟨i0,hi0,hz0,hz1,hz2⟩:=info_parts Tryz.info5
 obtain⟨o,c,rfl,_⟩:=ownsRow_shape h
 have H:Hid (w.ownsRow B 5 1 (.slice o bs.length c) bs.length (octs bs)):=Lib.hid h
 have HF:=Lib.hid hfr
 have HK:=Lib.hid hK
 clear h hfr hK
 generalize hN:bs.length=N at *
 have HN:=Lib.hid hN
 clear hN
 go_enter Tryz.func39,Tryz.ntmps39
 go_wp2_with (first
  | (at_builtin;refine wpList_append_lies _ rfl _ _ _ rfl B 5 i0 _ 1 1 Tryz.underlying23 hi0 hz0 hz1 hz2 rfl Nat.one_pos (.slice o N c) N (octs bs) rfl (ownsRow_olds H.out (Olds.alloc _ _)) ⟨w.heap.size,0,none⟩ 2 2 [.int .u8 ((s.length:Int) % 256),.int .u8 ((s.length:Int) / 256)] rfl rfl (World.news_of_block (cs:=#[.int .u8 ((s.length:Int) % 256),.int .u8 ((s.length:Int) / 256)]) (t:=5) (fr:=(0,0)) (heap_alloc_new w _)) (by simp [Value.oneCell']) (by decide) (by unfold maxLen;omega) (by omega) (by simp;omega) (w.heap.size+1) (by simp) ?_;intro g4 c4 w4 hown4 hgrow4 hat4 hlt4;have Hown4:=Lib.hid hown4;have B4:Hid (Below B w w4):=Lib.hid ((((Below.refl B w).alloc hB _)).grown hgrow4 (by simp;omega) (fun k hk=>(ownsRow_block H.out hk).1));have K4:Hid (Kept K w w4):=Lib.hid (((Kept.refl K w).alloc HK.out _).grown hgrow4 HK.out HF.out);have F4:Hid (¬ K g4):=Lib.hid (by rcases hat4 with e | e;exact HF.out g4 e;exact fun h=>(by have:=HK.out g4 h;omega));clear hown4 hgrow4 hat4)
  | (at_builtin;refine wpList_append_txt rfl _ _ rfl B (N+2) (.slice (some ⟨g4,0,none⟩) (N+2) c4) s _ rfl rfl Hown4.out (by have:=B4.out.size;omega) (by omega) ?_;intro v5 w5 hown5 hgrow5 hat5;have Hown5:=Lib.hid hown5;have K5:Hid (Kept K w w5):=Lib.hid (K4.out.grown hgrow5 HK.out (fun k hk=>by cases hk;exact F4.out));have F5:Hid (Free K v5):=Lib.hid (fun g hg=>by rcases hat5 with e | e;(rw [e] at hg;cases hg;exact F4.out);(rw [e] at hg;cases hg;exact fun h=>by have:=HK.out _ h;have:=B4.out.size;omega));clear hown5 hgrow5 hat5))
 go_ret
 refine⟨_,rfl,?_,F5.out,K5.out⟩
 have h9:=Hown5.out
 unfold Row8
 have e1:(bs++two s).length=N+2+s.length:=by rw [List.length_append,HN.out,two_eq,List.length_append,nums_len];simp;omega
 have e2:octs (bs++two s)=octs bs++[.int .u8 ((s.length:Int) % 256),.int .u8 ((s.length:Int) / 256)]++octs (nums s):=by rw [two_eq,octs_append,octs_append,List.append_assoc,show s.length / 256 % 256=s.length / 256 by omega];rfl
 rw [e1,e2]
 exact h9
set_option maxRecDepth 20000 in
set_option maxHeartbeats 1000000 in
theorem rtext_any {w:World}{B:Nat}{K:Nat→Prop}{v:Value}{bs:List Nat}(s:Txt) (h:Row8 w B v bs) (hfr:Free K v) (hK:∀k,K k→k<w.heap.size) (hB:B≤w.heap.size) (hs:s.length<65536) (hl:bs.length≤100000000000) :
  Calls Tryz.prog 44 #[v,encStr s] w fun e w'=>∃v',e=.returned v'∧Row8 w' B v' (bs++two s)∧Free K v'∧Kept K w w':=by
 obtain⟨i0,hi0,hz0,hz1,hz2⟩:=info_parts Tryz.info5
 obtain⟨o,c,rfl,_⟩:=ownsRow_shape h
 have H:Hid (w.ownsRow B 5 1 (.slice o bs.length c) bs.length (octs bs)):=Lib.hid h
 have HF:=Lib.hid hfr
 have HK:=Lib.hid hK
 clear h hfr hK
 generalize hN:bs.length=N at *
 have HN:=Lib.hid hN
 clear hN
 go_enter Tryz.func44,Tryz.ntmps44
 go_wp2_with (first
  | (at_builtin;refine wpList_append_lies _ rfl _ _ _ rfl B 5 i0 _ 1 1 Tryz.underlying23 hi0 hz0 hz1 hz2 rfl Nat.one_pos (.slice o N c) N (octs bs) rfl (ownsRow_olds H.out (Olds.alloc _ _)) ⟨w.heap.size,0,none⟩ 2 2 [.int .u8 ((s.length:Int) % 256),.int .u8 ((s.length:Int) / 256)] rfl rfl (World.news_of_block (cs:=#[.int .u8 ((s.length:Int) % 256),.int .u8 ((s.length:Int) / 256)]) (t:=5) (fr:=(0,0)) (heap_alloc_new w _)) (by simp [Value.oneCell']) (by decide) (by unfold maxLen;omega) (by omega) (by simp;omega) (w.heap.size+1) (by simp) ?_;intro g4 c4 w4 hown4 hgrow4 hat4 hlt4;have Hown4:=Lib.hid hown4;have B4:Hid (Below B w w4):=Lib.hid ((((Below.refl B w).alloc hB _)).grown hgrow4 (by simp;omega) (fun k hk=>(ownsRow_block H.out hk).1));have K4:Hid (Kept K w w4):=Lib.hid (((Kept.refl K w).alloc HK.out _).grown hgrow4 HK.out HF.out);have F4:Hid (¬ K g4):=Lib.hid (by rcases hat4 with e | e;exact HF.out g4 e;exact fun h=>(by have:=HK.out g4 h;omega));clear hown4 hgrow4 hat4)
  | (at_builtin;refine wpList_append_txt rfl _ _ rfl B (N+2) (.slice (some ⟨g4,0,none⟩) (N+2) c4) s _ rfl rfl Hown4.out (by have:=B4.out.size;omega) (by omega) ?_;intro v5 w5 hown5 hgrow5 hat5;have Hown5:=Lib.hid hown5;have K5:Hid (Kept K w w5):=Lib.hid (K4.out.grown hgrow5 HK.out (fun k hk=>by cases hk;exact F4.out));have F5:Hid (Free K v5):=Lib.hid (fun g hg=>by rcases hat5 with e | e;(rw [e] at hg;cases hg;exact F4.out);(rw [e] at hg;cases hg;exact fun h=>by have:=HK.out _ h;have:=B4.out.size;omega));clear hown5 hgrow5 hat5))
 go_ret
 refine⟨_,rfl,?_,F5.out,K5.out⟩
 have h9:=Hown5.out
 unfold Row8
 have e1:(bs++two s).length=N+2+s.length:=by rw [List.length_append,HN.out,two_eq,List.length_append,nums_len];simp;omega
 have e2:octs (bs++two s)=octs bs++[.int .u8 ((s.length:Int) % 256),.int .u8 ((s.length:Int) / 256)]++octs (nums s):=by rw [two_eq,octs_append,octs_append,List.append_assoc,show s.length / 256 % 256=s.length / 256 by omega];rfl
 rw [e1,e2]
 exact h9
theorem rtext8 {w:World}{B:Nat}{v:Value}{bs:List Nat}(s:Txt) (h:Row8 w B v bs) (hB:B≤w.heap.size) (hs:s.length<65536) (hl:bs.length≤100000000000) :
  Calls Tryz.prog 44 #[v,encStr s] w fun e w'=>∃v',e=.returned v'∧Row8 w' B v' (bs++two s)∧Below B w w' :=
 (rtext_any (K:=fun k=>k<B) s h (fun g hg=>by have:=(ownsRow_block h hg).1;omega) (fun k hk=>by omega) hB hs hl).mono fun e w' ⟨v',h1,h2,_,h4⟩=>⟨v',h1,h2,h4.below fun k hk=>hk⟩
end Go.Proofs.YtejeflddeanccaaGreatDoor
