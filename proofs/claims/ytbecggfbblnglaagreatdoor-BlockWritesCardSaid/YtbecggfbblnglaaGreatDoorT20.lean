/- Contracts over this program. Their conditions: the slices read as the lists that are named, and lie within the sizes that are named. -/
import Derived.Test.YtbecggfbblnglaaGreatDoorT19
import Derived.Test.YtbecggfbblnglaaGreatDoorT18
import Derived.Test.YtbecggfbblnglaaGreatDoorP0
import Derived.Test.YtbecggfbblnglaaGreatDoorT11
import Derived.Test.YtbecggfbblnglaaGreatDoorT15
import Derived.Test.YtbecggfbblnglaaGreatDoorT16
import Derived.Lib.SlBytesConst
set_option linter.unusedSimpArgs false
set_option linter.unusedVariables false
set_option linter.deprecated false
set_option linter.unnecessarySimpa false
namespace Go.Proofs.YtbecggfbblnglaaGreatDoor
open Go Go.RowKit Go.Ix
def EncEnd (l:List Ent) (w:World) (e:Ending) (w':World):Prop :=
 ((¬ May l∧e=.returned (.tuple #[.slice none 0 0,.int .u16 140]))∨(May l∧∃v,e=.returned (.tuple #[v,.int .u16 0])∧Row8 w' w.heap.size v (encd crc l)))∧Below w.heap.size w w'
theorem ent_sizes {l:List Ent}(hs:∀e∈l,e.2.length≤4000) (hmay:May l):∀e∈l,e.1.length≤64∧e.2.length≤4000:=fun e he=>⟨(of_check (hmay.ent he).1).1,hs e he⟩
theorem TextsAt.kept {K:Nat→Prop}{w W:World}{o:Option Addr}{ss:List Txt}(h:TextsAt w o ss) (hb:Kept K w W) (hK:∀b off,o=some ⟨b,off,none⟩→K b):TextsAt W o ss:=fun hne=>by
 obtain⟨b,off,e,hc⟩:=h hne
 exact⟨b,off,e,fun k s hs=>(hb.cell (p:=⟨b,off+k,none⟩) (hK b off e)).trans (hc k s hs)⟩
theorem wrap_u64n (n:Int):IntKind.u64.wrap n=((Go.Ix.u64 n:Nat):Int):=by
 rw [IntKind.wrap_u64]
 unfold Go.Ix.u64
 omega
theorem u64_lt (n:Int):Go.Ix.u64 n<18446744073709551616:=by
 unfold Go.Ix.u64
 omega
theorem headPart_zero (ss:List Txt):headPart ss 0=magic++low 4 ss.length:=by simp [headPart,symPart]
theorem headPart_step {ss:List Txt}{k:Nat}{s:Txt}(h:ss[k]?=some s):headPart ss (k+1)=headPart ss k++low 2 s.length++nums s:=by
 unfold headPart
 rw [List.take_add_one,h]
 show _++symPart (ss.take k++[s])=_
 rw [symPart_snoc]
 simp [List.append_assoc]
theorem entsPart_zero (ss:List Txt) (l:List Ent):entsPart ss l 0=headPart ss ss.length++low 4 l.length:=by simp [entsPart]
theorem entsPart_step {ss:List Txt}{l:List Ent}{k:Nat}{e:Ent}(h:l[k]?=some e):entsPart ss l (k+1)=entsPart ss l k++entPart ss e:=by
 unfold entsPart
 rw [List.take_add_one,h]
 simp [List.append_assoc]
theorem lbls_of_may {l:List Ent}(h:May l) (h60:l.length≤60):lblsOf l≤4000:=by
 have hg:∀k:List Ent,(∀e∈k,e.1.length≤64)→lblsOf k≤64 * k.length:=fun k=>by
  induction k with
  | nil=>intro _;exact Nat.le_refl _
  | cons e k ih =>
   intro h1
   have h2:=ih fun x hx=>h1 x (by simp [hx])
   have h3:=h1 e (by simp)
   show (e.1.length :: k.map fun e=>e.1.length).sum≤_
   rw [List.sum_cons,List.length_cons]
   have h4:lblsOf k=(k.map fun e=>e.1.length).sum:=rfl
   omega
 have:=hg l fun e he=>(of_check (h.ent he).1).1
 omega
set_option maxRecDepth 20000 in
set_option maxHeartbeats 8000000 in
theorem rencode_rows (o:Option Addr) (c:Nat) (l:List Ent) (w:World) (hs:Small l) (h60:l.length≤60) (hch:∀e∈l,e.2.length≤4000) (hc:RowsE w o l):Calls Tryz.prog 25 #[.slice o l.length c] w (EncEnd l w):=by
 obtain⟨i0,hi0,hz0,hz1,hz2⟩:=info_parts Tryz.info5
 have Hc:=Lib.hid hc
 have Hs:=Lib.hid hs
 have Hch:=Lib.hid hch
 have HM:=Lib.hid (rmay_rows o c l w hs hc)
 clear hc hs hch
 generalize hm:l.length=m at *
 have Hm:=Lib.hid hm
 clear hm
 by_cases hmay:May l
 ·have Hmay:=Lib.hid hmay
  have HL:=Lib.hid (lbls_of_may hmay (by have:=Hm.out;omega))
  clear hmay
  have HY:Hid (∀W,Below w.heap.size w W→Calls Tryz.prog 77 #[.slice o m c] W fun e w'=>∃v,e=.returned v∧RowT w' W.heap.size v (symbols l)∧Below W.heap.size W w'):=Lib.hid (fun W hW=>by
   have:=symbols_rows o c l W Hs.out (by have:=HL.out;omega) (Hc.out.olds (Olds.of_below hW))
   rwa [Hm.out] at this)
  have hsl:(symbols l).length≤8000:=by
   have h1:=rise_len (texts l)
   have h2:=texts_len l
   have h3:=HL.out
   unfold symbols
   omega
  have Hsok:Hid (∀s∈symbols l,s.length≤1024):=Lib.hid (fun s hs=>(sym_ok Hmay.out hs).2)
  have HG:Hid (∀(i k:Nat) (s x:Txt),(symbols l)[i]?=some s→(symbols l)[k]?=some x→ofL l s x=grp (seqs (symbols l) l) (i,k)):=Lib.hid (fun i k s x=>of_grp Hmay.out)
  have HGl:Hid (∀p,(grp (seqs (symbols l) l) p).length≤60):=Lib.hid (fun p=>by have:=(grp_bound Hmay.out p).1;rw [Hm.out] at this;omega)
  have HG60:Hid (∀p,∀z∈grp (seqs (symbols l) l) p,z<60):=Lib.hid (fun p z hz=>by have:=(grp_bound Hmay.out p).2 z hz;rw [Hm.out] at this;omega)
  have Hbody:Hid (body l=entsPart (symbols l) l l.length++postPart (symbols l).length (grp (seqs (symbols l) l))):=Lib.hid (body_eq l)
  have Hrise:Hid (Rising (symbols l)):=Lib.hid (rise_rising _)
  have Hmem:Hid (∀e∈l,∀y∈e.1,y.1∈symbols l∧y.2∈symbols l):=Lib.hid (fun e he y hy=>texts_mem he hy)
  have Hsz:=Lib.hid (ent_sizes Hch.out Hmay.out)
  generalize hG0:grp (seqs (symbols l) l)=G at *
  generalize hss:symbols l=ss at *
  clear hG0 hss
  generalize hn3:ss.length=n3 at *
  have Hn3:=Lib.hid hn3
  clear hn3
  go_enter Tryz.func25,Tryz.ntmps25
  go_wp2_with (first
   | (go_at_call 76;refine HM.out.mono ?_;clear HM;rintro e w1 ⟨hsay,b1⟩;have B1:=Lib.hid b1;have hs1:=b1.size;clear b1;rcases hsay with ⟨rfl,hname⟩|⟨rfl,hname⟩;rotate_left;exact absurd Hmay.out hname)
   | (at_builtin;refine wpList_append_txt rfl _ _ rfl w.heap.size 0 (.slice none 0 0) [66,71,73,88] [] rfl rfl (World.ownsRow_nil _ _ _ _) hs1 (by decide) ?_;intro v2 w2 hown2 hgrow2 hat2;have hown2':w2.ownsRow w.heap.size 5 1 v2 4 (octs magic):=hown2;obtain⟨o2,c2,rfl,_⟩:=ownsRow_shape hown2';have Hown2:=Lib.hid hown2';have B2:=Lib.hid (B1.out.grown hgrow2 hs1 (fun k hk=>by cases hk));have hs2:=B2.out.size;have HY2:=Lib.hid (HY.out w2 B2.out);clear hown2 hown2' hgrow2 hat2)
   | (go_at_call 77;refine HY2.out.mono ?_;clear HY2;rintro e w3 ⟨v3,rfl,hrow3,b3⟩;obtain⟨o3,c3,rfl,hts⟩:=hrow3.shape;have Hts:=Lib.hid hts;have Hrow3:=Lib.hid hrow3;have B3:=Lib.hid b3;have hs3:=b3.size;clear hrow3 b3 hts;rw [Hn3.out]))
  obtain⟨K,hKd⟩:∃K:Nat→Prop,∀b,K b↔(b<w.heap.size∨(Value.slice o3 n3 c3).ownBlock=some b):=⟨_,fun _=>Iff.rfl⟩
  have Hrow3':Hid (w3.ownsRow w2.heap.size 9 1 (.slice o3 n3 c3) n3 (ss.map encStr)):=Lib.hid (by
   have h9:=Hrow3.out
   unfold RowT at h9
   rwa [Hn3.out] at h9)
  have HK3:Hid (∀b,K b→b<w3.heap.size):=Lib.hid (fun b hb=>by
   rcases (hKd b).1 hb with h | h
   ·omega
   ·exact (ownsRow_block Hrow3'.out h).2)
  have HK0:Hid (∀b,b<w.heap.size→K b):=Lib.hid (fun b hb=>(hKd b).2 (.inl hb))
  have HKs:Hid (∀b off,o3=some ⟨b,off,none⟩→K b):=Lib.hid (fun b off h=>(hKd b).2 (.inr (by rw [h];rfl)))
  have Hf2:Hid (Free K (.slice o2 4 c2)):=Lib.hid (fun g hg h=>by
   have h1:=ownsRow_block Hown2.out hg
   rcases (hKd g).1 h with h | h
   ·omega
   ·have:=(ownsRow_block Hrow3'.out h).1
    omega)
  have Hb3:Hid (Below w.heap.size w w3):=Lib.hid (B2.out.trans (B3.out.mono hs2))
  have HP:Hid (∀(W:World) (v:Value) (bs:List Nat) (num many:Nat),Row8 W w.heap.size v bs→Free K v→Kept K w3 W→num<18446744073709551616→many≤8→bs.length≤100000000000→Calls Tryz.prog 78 #[v,.int .u64 num,.int .i64 many] W fun e w'=>∃o' c',e=.returned (.slice o' (bs.length+many) c')∧Row8 w' w.heap.size (.slice o' (bs.length+many) c') (bs++low many num)∧Free K (.slice o' (bs.length+many) c')∧Kept K w3 w'):=Lib.hid (fun W v bs num many h1 h2 h3 h4 h5 h6=>by
   have h8:=h3.size
   refine (put14_any num many h1 h2 (fun b hb=>by have:=HK3.out b hb;omega) (by omega) h4 h5 h6).mono fun e w' ⟨v',g1,g2,g3,g4⟩=>?_
   obtain⟨o',c',e'⟩:=g2.form
   rw [List.length_append,low_len] at e'
   subst e'
   exact⟨o',c',g1,g2,g3,h3.trans g4⟩)
  have HPK:Hid (∀(K':Nat→Prop) (W0 W:World) (v:Value) (bs:List Nat) (num many:Nat),(∀b,K' b→b<W0.heap.size)→w.heap.size≤W0.heap.size→Row8 W w.heap.size v bs→Free K' v→Kept K' W0 W→num<18446744073709551616→many≤8→bs.length≤100000000000→Calls Tryz.prog 78 #[v,.int .u64 num,.int .i64 many] W fun e w'=>∃o' c',e=.returned (.slice o' (bs.length+many) c')∧Row8 w' w.heap.size (.slice o' (bs.length+many) c') (bs++low many num)∧Free K' (.slice o' (bs.length+many) c')∧Kept K' W0 w'):=Lib.hid (fun K' W0 W v bs num many h0 h00 h1 h2 h3 h4 h5 h6=>by
   have h8:=h3.size
   refine (put14_any num many h1 h2 (fun b hb=>by have:=h0 b hb;omega) (by omega) h4 h5 h6).mono fun e w' ⟨v',g1,g2,g3,g4⟩=>?_
   obtain⟨o',c',e'⟩:=g2.form
   rw [List.length_append,low_len] at e'
   subst e'
   exact⟨o',c',g1,g2,g3,h3.trans g4⟩)
  have Hrow2:Hid (Row8 w3 w.heap.size (.slice o2 4 c2) magic):=Lib.hid (ownsRow_olds Hown2.out (Olds.of_below B3.out))
  have hK9:=hKd
  clear hKd hK9
  refine (HP.out w3 _ magic n3 4 Hrow2.out Hf2.out (Kept.refl _ _) (by omega) (by decide) (by decide)).mono ?_
  rintro e w4 ⟨o4,c4,rfl,hrow4,hfree4,hkept4⟩
  have Hrow4:=Lib.hid hrow4
  have Hfree4:=Lib.hid hfree4
  have Hkept4:=Lib.hid hkept4
  clear hrow4 hfree4 hkept4
  go_wp2_with fail
  go_loopw [5,7] (fun bv iv wr=>∃k:Nat,k≤n3∧iv=.int .i64 k∧Row8 wr w.heap.size bv (headPart ss k)∧Free K bv∧Kept K w3 wr) (fun _ iv _=>n3-(intOf iv).toNat)
  case atStart=>exact⟨0,Nat.zero_le _,rfl,by rw [headPart_zero,Hn3.out];exact Hrow4.out,Hfree4.out,Hkept4.out⟩
  case round =>
   obtain⟨k,hk,rfl,hrow,hfree,hkept⟩:=hrel
   have Hrow:=Lib.hid hrow
   have Hfree:=Lib.hid hfree
   have Hkept:=Lib.hid hkept
   have Htr:=Lib.hid (Hts.out.kept hkept HKs.out)
   have hszr:=hkept.size
   obtain⟨ob,cb,hbv⟩:=hrow.form
   subst hbv
   have hhl:=headPart_len Hsok.out k
   rw [Hn3.out] at hhl
   clear hrow hfree hkept
   generalize hN:(headPart ss k).length=N at *
   have HN:=Lib.hid hN
   clear hN
   by_cases hkn:k<n3
   ·obtain⟨sb,soff,x,rfl,hx,hcx⟩:=Htr.out.at (k:=k) (by rw [Hn3.out];exact hkn)
    have Hx:=Lib.hid hx
    have hxl:=Hsok.out x (List.mem_of_getElem? hx)
    have Hst:Hid (headPart ss (k+1)=headPart ss k++low 2 x.length++nums x):=Lib.hid (headPart_step hx)
    clear hx
    have Hcx3:Hid (w3.cell? ⟨sb,soff+k,none⟩=some (encStr x)):=Lib.hid ((Hkept.out.cell (p:=⟨sb,soff+k,none⟩) (HKs.out sb soff rfl)).symm.trans hcx)
    have HP1:=Lib.hid (HP.out wr _ _ x.length 2 Hrow.out Hfree.out Hkept.out (by omega) (by decide) (by rw [HN.out];omega))
    rw [HN.out] at HP1
    go_wp2_with (first
     | (go_at_call 78;refine HP1.out.mono ?_;clear HP1;rintro e w5 ⟨o5,c5,rfl,hrow5,hfree5,hkept5⟩;have Hrow5:=Lib.hid hrow5;have Hfree5:=Lib.hid hfree5;have Hkept5:=Lib.hid hkept5;have hs5:=hkept5.size;have hcx5:=(hkept5.cell (p:=⟨sb,soff+k,none⟩) (HKs.out sb soff rfl)).trans Hcx3.out;clear hrow5 hfree5 hkept5)
     | (at_builtin;refine wpList_append_txt rfl _ _ rfl w.heap.size (N+2) (.slice o5 (N+2) c5) x (octs (headPart ss k++low 2 x.length)) rfl rfl (by have h9:=Hrow5.out;unfold Row8 at h9;rwa [List.length_append,low_len,HN.out] at h9) (by omega) (by omega) ?_;intro v6 w6 hown6 hgrow6 hat6;rw [← octs_append] at hown6;have Hown6:Hid (Row8 w6 w.heap.size v6 (headPart ss k++low 2 x.length++nums x)):=Lib.hid (by unfold Row8;rw [List.length_append,List.length_append,low_len,HN.out,nums_len];exact hown6);have Hk6:=Lib.hid (Hkept5.out.grown hgrow6 HK3.out Hfree5.out);have Hf6:=Lib.hid (free_grown Hfree5.out (fun b hb=>by have:=HK3.out b hb;omega) hat6);clear hown6 hgrow6 hat6))
    go_roundw
    case rel=>exact⟨k+1,by omega,by go_num,by rw [Hst.out];exact Hown6.out,Hf6.out,Hk6.out⟩
    case measure=>simp [intOf];omega
   ·obtain rfl:n3=k:=by omega
    have HP1:=Lib.hid (HP.out wr _ _ m 4 Hrow.out Hfree.out Hkept.out (by omega) (by decide) (by rw [HN.out];omega))
    rw [HN.out] at HP1
    go_wp2_with (go_at_call 78;refine HP1.out.mono ?_;clear HP1;rintro e w5 ⟨o5,c5,rfl,hrow5,hfree5,hkept5⟩;have Hrow5:=Lib.hid hrow5;have Hfree5:=Lib.hid hfree5;have Hkept5:=Lib.hid hkept5;clear hrow5 hfree5 hkept5)
    have HO:Hid (∀W,Kept K w3 W→Olds w W):=Lib.hid (fun W hW=>Olds.of_below (Hb3.out.trans (hW.below HK0.out)))
    have HN35:Hid (∀(W:World) (s:Txt),Kept K w3 W→s∈ss→Calls Tryz.prog 79 #[.slice o3 n3 c3,encStr s] W fun e w'=>e=.returned (.int .i64 (idx ss s:Nat))∧W=w'):=Lib.hid (fun W s hW hs=>number_rows o3 c3 n3 ss s W Hn3.out (by omega) (Hts.out.kept hW HKs.out) Hrise.out hs)
    go_loopw [5,8,9,10,11,12,13] (fun bv iv _ _ _ _ _ wr=>∃k:Nat,k≤m∧iv=.int .i64 k∧Row8 wr w.heap.size bv (entsPart ss l k)∧Free K bv∧Kept K w3 wr) (fun _ iv _ _ _ _ _ _=>m-(intOf iv).toNat)
    case atStart=>exact⟨0,Nat.zero_le _,rfl,by rw [entsPart_zero,Hn3.out,Hm.out];exact Hrow5.out,Hfree5.out,Hkept5.out⟩
    case round =>
     obtain⟨k,hk,rfl,hrow,hfree,hkept⟩:=hrel
     have Hrow:=Lib.hid hrow
     have Hfree:=Lib.hid hfree
     have Hkept:=Lib.hid hkept
     have hszr:=hkept.size
     obtain⟨ob,cb,hbv⟩:=hrow.form
     subst hbv
     have hel:=entsPart_len Hsok.out Hsz.out k
     rw [Hn3.out,Hm.out] at hel
     clear hrow hfree hkept
     generalize hM:(entsPart ss l k).length=M at *
     have HM2:=Lib.hid hM
     clear hM
     by_cases hkm:k<m
     ·obtain⟨b,off,e1,e2,o1,n1,c1,o2,n2,c2,rfl,hx,hc1,hc2,hl1,hl2,hr1,hr2,_⟩:=Hc.out.at (k:=k) (by rw [Hm.out];exact hkm)
      obtain⟨hs1,hs2⟩:=Hsz.out _ (List.mem_of_getElem? hx)
      simp only at hs1 hs2
      have hn1:n1≤64:=by omega
      have hn2:n2≤4000:=by omega
      have Hx:=Lib.hid hx
      have Hr1:=Lib.hid hr1
      have Hr2:=Lib.hid hr2
      have Hl1:=Lib.hid hl1
      have Hl2:=Lib.hid hl2
      have hcr1:=(HO.out wr Hkept.out).cell hc1
      clear hx hr1 hr2 hl1 hl2 hs1 hs2
      have Hown:Hid (wr.ownsRow w.heap.size 5 1 (.slice ob M cb) M (octs (entsPart ss l k))):=Lib.hid (by
       have h9:=Hrow.out
       unfold Row8 at h9
       rwa [HM2.out] at h9)
      go_wp2_with (at_builtin;refine wpList_append_lies _ rfl _ _ _ rfl w.heap.size 5 i0 _ 1 1 Tryz.underlying26 hi0 hz0 hz1 hz2 rfl Nat.one_pos (.slice ob M cb) M (octs (entsPart ss l k)) rfl (ownsRow_olds Hown.out (Olds.alloc _ _)) ⟨wr.heap.size,0,none⟩ 1 1 [.int .u8 (n1:Int)] rfl rfl (World.news_of_block (cs:=#[.int .u8 (n1:Int)]) (t:=5) (fr:=(0,0)) (heap_alloc_new wr _)) (by simp [Value.oneCell']) Nat.one_pos (by unfold maxLen;omega) (by omega) (by simp;omega) (wr.heap.size+1) (by simp) ?_;intro g6 c6 w6 hown6 hgrow6 hat6 hlt6;have Hrow6:Hid (Row8 w6 w.heap.size (.slice (some ⟨g6,0,none⟩) (M+1) c6) (entsPart ss l k++low 1 n1)):=Lib.hid (by unfold Row8;rw [List.length_append,low_len,HM2.out,octs_append,show low 1 n1=[n1] by simp [low];omega];exact hown6);have Hk6:Hid (Kept K w3 w6):=Lib.hid ((Hkept.out.alloc HK3.out _).grown hgrow6 HK3.out Hfree.out);have Hf6:Hid (Free K (.slice (some ⟨g6,0,none⟩) (M+1) c6)):=Lib.hid (fun g hg hkk=>by cases hg;rcases hat6 with e | e;exact Hfree.out g6 e hkk;have:=HK3.out g6 hkk;omega);clear hown6 hgrow6 hat6)
      go_loopw [5,9,10,11] (fun bv jv _ _ wq=>∃j:Nat,j≤n1∧jv=.int .i64 j∧Row8 wq w.heap.size bv (entsPart ss l k++low 1 n1++(e1.take j).flatMap (lblPart ss))∧Free K bv∧Kept K w3 wq) (fun _ jv _ _ _=>n1-(intOf jv).toNat)
      case atStart=>exact⟨0,Nat.zero_le _,rfl,by rw [List.take_zero,List.flatMap_nil,List.append_nil];exact Hrow6.out,Hf6.out,Hk6.out⟩
      case round =>
       obtain⟨j,hj,rfl,hrow,hfree,hkept⟩:=hrel
       have Hrowq:=Lib.hid hrow
       have Hfreeq:=Lib.hid hfree
       have Hkeptq:=Lib.hid hkept
       have hszq:=hkept.size
       have hcq:=(HO.out wr hkept).cell hc1
       have hcq2:=(HO.out wr hkept).cell hc2
       obtain⟨oq,cq,hbv⟩:=hrow.form
       subst hbv
       have hlq:(entsPart ss l k++low 1 n1++(e1.take j).flatMap (lblPart ss)).length≤100000000:=by
        rw [List.length_append,List.length_append,low_len,flat_const_len (lblPart_len ss),List.length_take,HM2.out]
        omega
       clear hrow hfree hkept
       generalize hZ:(entsPart ss l k++low 1 n1++(e1.take j).flatMap (lblPart ss)).length=Z at *
       have HZ:=Lib.hid hZ
       clear hZ
       by_cases hjn:j<n1
       ·obtain⟨b2,off2,y1,y2,rfl,hy,hy1,hy2⟩:=Hr1.out.at (k:=j) (by rw [Hl1.out];exact hjn)
        have hyq1:=(HO.out wr Hkeptq.out).cell hy1
        have hyq2:=(HO.out wr Hkeptq.out).cell hy2
        have Hy:=Lib.hid hy
        have hmem:=Hmem.out _ (List.mem_of_getElem? Hx.out) _ (List.mem_of_getElem? hy)
        have hi1:=idx_lt hmem.1
        have hi2:=idx_lt hmem.2
        rw [Hn3.out] at hi1 hi2
        have HNa:=Lib.hid (HN35.out wr y1 Hkeptq.out hmem.1)
        have HNb:=Lib.hid (HN35.out wr y2 Hkeptq.out hmem.2)
        have Htk:Hid (entsPart ss l k++low 1 n1++(e1.take (j+1)).flatMap (lblPart ss)=(entsPart ss l k++low 1 n1++(e1.take j).flatMap (lblPart ss))++low 4 (idx ss y1)++low 4 (idx ss y2)):=Lib.hid (by
         rw [take_snoc hy,List.flatMap_append]
         simp [lblPart,List.append_assoc])
        clear hy hmem hy1 hy2
        generalize idx ss y1=i1 at *
        generalize idx ss y2=i2 at *
        have HPa:=Lib.hid (HP.out wr _ _ i1 4 Hrowq.out Hfreeq.out Hkeptq.out (by omega) (by decide) (by rw [HZ.out];omega))
        rw [HZ.out] at HPa
        go_wp2_with (first
         | (go_at_call 79;refine HNa.out.mono ?_;clear HNa;rintro e w' ⟨rfl,rfl⟩)
         | (go_at_call 79;refine HNb.out.mono ?_;clear HNb;rintro e w' ⟨rfl,rfl⟩)
         | (go_at_call 78;refine HPa.out.mono ?_;clear HPa;rintro e w7 ⟨o7,c7,rfl,hrow7,hfree7,hkept7⟩;have HPb:=Lib.hid (HP.out w7 _ _ i2 4 hrow7 hfree7 hkept7 (by omega) (by decide) (by rw [List.length_append,low_len,HZ.out];omega));rw [List.length_append,low_len,HZ.out] at HPb;clear hrow7 hfree7 hkept7)
         | (go_at_call 78;refine HPb.out.mono ?_;clear HPb;rintro e w8 ⟨o8,c8,rfl,hrow8,hfree8,hkept8⟩;have Hrow8:=Lib.hid hrow8;have Hfree8:=Lib.hid hfree8;have Hkept8:=Lib.hid hkept8;clear hrow8 hfree8 hkept8))
        go_roundw
        case rel=>exact⟨j+1,by omega,by go_num,by rw [Htk.out];exact Hrow8.out,Hfree8.out,Hkept8.out⟩
        case measure=>simp [intOf];omega
       ·have Hall:Hid (entsPart ss l k++low 1 n1++(e1.take j).flatMap (lblPart ss)=entsPart ss l k++low 1 n1++e1.flatMap (lblPart ss)):=Lib.hid (by rw [List.take_of_length_le (l:=e1) (by rw [Hl1.out];omega)])
        have HPa:=Lib.hid (HP.out wr _ _ n2 4 Hrowq.out Hfreeq.out Hkeptq.out (by omega) (by decide) (by rw [HZ.out];omega))
        rw [HZ.out] at HPa
        go_wp2_with (go_at_call 78;refine HPa.out.mono ?_;clear HPa;rintro e w7 ⟨o7,c7,rfl,hrow7,hfree7,hkept7⟩;have Hrow7:=Lib.hid hrow7;have Hfree7:=Lib.hid hfree7;have Hkept7:=Lib.hid hkept7;clear hrow7 hfree7 hkept7)
        go_loopw [5,12,13] (fun bv jv _ wq=>∃j:Nat,j≤n2∧jv=.int .i64 j∧Row8 wq w.heap.size bv (entsPart ss l k++low 1 n1++e1.flatMap (lblPart ss)++low 4 n2++(e2.take j).flatMap plcPart)∧Free K bv∧Kept K w3 wq) (fun _ jv _ _=>n2-(intOf jv).toNat)
        case atStart=>exact⟨0,Nat.zero_le _,rfl,by rw [List.take_zero,List.flatMap_nil,List.append_nil,← Hall.out];exact Hrow7.out,Hfree7.out,Hkept7.out⟩
        case round =>
         obtain⟨q,hq,rfl,hrow,hfree,hkept⟩:=hrel
         have Hrowp:=Lib.hid hrow
         have Hfreep:=Lib.hid hfree
         have Hkeptp:=Lib.hid hkept
         have hszp:=hkept.size
         have hcp2:=(HO.out wr hkept).cell hc2
         obtain⟨op,cp,hbv⟩:=hrow.form
         subst hbv
         have hlp:(entsPart ss l k++low 1 n1++e1.flatMap (lblPart ss)++low 4 n2++(e2.take q).flatMap plcPart).length≤100000000:=by
          rw [List.length_append,List.length_append,List.length_append,List.length_append,low_len,low_len,flat_const_len (lblPart_len ss),flat_const_len plcPart_len,List.length_take,HM2.out,Hl1.out]
          omega
         clear hrow hfree hkept
         generalize hS:entsPart ss l k++low 1 n1++e1.flatMap (lblPart ss)++low 4 n2=S at *
         have HS:=Lib.hid hS
         clear hS
         generalize hY:(S++(e2.take q).flatMap plcPart)=Y at *
         have HY:=Lib.hid hY
         clear hY
         generalize hZY:Y.length=ZY at *
         have HZY:=Lib.hid hZY
         clear hZY
         by_cases hqn:q<n2
         ·obtain⟨b5,off5,p,rfl,hp,hp0,hp1,hp2,hp3,hp4⟩:=Hr2.out.at (k:=q) (by rw [Hl2.out];exact hqn)
          have Hp:=Lib.hid hp
          obtain⟨h01,h02,h03,h04,h05,h06,h07,h08,h09⟩:=(Hmay.out.ent (List.mem_of_getElem? Hx.out)).2.plc (List.mem_of_getElem? hp)
          have hq0:=(HO.out wr Hkeptp.out).cell hp0
          have hq1:=(HO.out wr Hkeptp.out).cell hp1
          have hq2:=(HO.out wr Hkeptp.out).cell hp2
          have hq3:=(HO.out wr Hkeptp.out).cell hp3
          have hq4:=(HO.out wr Hkeptp.out).cell hp4
          unfold far at h02 h03
          have Htk:Hid (S++(e2.take (q+1)).flatMap plcPart=Y++low 8 (Go.Ix.u64 p.fr)++low 8 (Go.Ix.u64 p.til)++low 2 (Go.Ix.u64 p.num)++low 4 (Go.Ix.u64 p.pos)++low 4 (Go.Ix.u64 p.siz)):=Lib.hid (by
           rw [take_snoc hp,List.flatMap_append,← List.append_assoc,HY.out]
           simp [plcPart,List.append_assoc])
          clear hp hp0 hp1 hp2 hp3 hp4
          obtain⟨p0,p1,p2,p3,p4⟩:=p
          simp only at hq0 hq1 hq2 hq3 hq4 h01 h02 h03 h04 h05 h06 h07 h08 h09
          obtain⟨k2,rfl⟩:=Int.eq_ofNat_of_zero_le (show 0≤p2 by omega)
          obtain⟨k3,rfl⟩:=Int.eq_ofNat_of_zero_le (show 0≤p3 by omega)
          obtain⟨k4,rfl⟩:=Int.eq_ofNat_of_zero_le (show 0≤p4 by omega)
          rw [u64_nat (n:=k2) (by omega),u64_nat (n:=k3) (by omega),u64_nat (n:=k4) (by omega)] at Htk
          have hw0:IntKind.u64.wrap p0=((Go.Ix.u64 p0:Nat):Int):=wrap_u64n p0
          have hw1:IntKind.u64.wrap p1=((Go.Ix.u64 p1:Nat):Int):=wrap_u64n p1
          have hu0:=u64_lt p0
          have hu1:=u64_lt p1
          generalize Go.Ix.u64 p0=k0 at *
          generalize Go.Ix.u64 p1=k1 at *
          obtain⟨A,hA⟩:∃A:World,A=wr.alloc (.cells #[.int .i64 p0,.int .i64 p1,.int .i64 (k2:Int),.int .i64 (k3:Int),.int .i64 (k4:Int)] 100):=⟨_,rfl⟩
          have hAs:A.heap.size=wr.heap.size+1:=by rw [hA];simp
          have hAb:A.heap[wr.heap.size]?=some (.cells #[.int .i64 p0,.int .i64 p1,.int .i64 (k2:Int),.int .i64 (k3:Int),.int .i64 (k4:Int)] 100 (0,0)):=by rw [hA];exact heap_alloc_new _ _
          have HA1:Hid (A.cell? ⟨wr.heap.size,1,none⟩=some (.int .i64 p1)):=Lib.hid (by simp [World.cell?,hAb])
          have HA2:Hid (A.cell? ⟨wr.heap.size,2,none⟩=some (.int .i64 (k2:Int))):=Lib.hid (by simp [World.cell?,hAb])
          have HA3:Hid (A.cell? ⟨wr.heap.size,3,none⟩=some (.int .i64 (k3:Int))):=Lib.hid (by simp [World.cell?,hAb])
          have HA4:Hid (A.cell? ⟨wr.heap.size,4,none⟩=some (.int .i64 (k4:Int))):=Lib.hid (by simp [World.cell?,hAb])
          have HKA:Hid (Kept K w3 A):=Lib.hid (by rw [hA];exact Hkeptp.out.alloc HK3.out _)
          have HrowA:Hid (Row8 A w.heap.size (.slice op ZY cp) Y):=Lib.hid (by rw [hA];exact ownsRow_olds Hrowp.out (Olds.alloc _ _))
          have HfA:Hid (Free (fun b=>K b∨b=wr.heap.size) (.slice op ZY cp)):=Lib.hid (fun g hg h=>by
           have:=ownsRow_block Hrowp.out hg
           rcases h with h | h
           ·exact Hfreep.out g hg h
           ·omega)
          have HKs5:Hid (∀b,(K b∨b=wr.heap.size)→b<A.heap.size):=Lib.hid (fun b hb=>by
           rcases hb with hb | rfl
           ·have:=HK3.out b hb
            omega
           ·omega)
          have hAw:w.heap.size≤A.heap.size:=by omega
          have HPa:=Lib.hid (HPK.out _ A A _ _ k0 8 HKs5.out hAw HrowA.out HfA.out (Kept.refl _ _) hu0 (by decide) (by rw [HZY.out];omega))
          rw [HZY.out] at HPa
          rw [hA] at HPa
          clear hAb
          go_wp2_with (first
           | (go_at_call 78;refine HPa.out.mono ?_;clear HPa;rw [← hA];rintro e w7 ⟨o7,c7,rfl,hrow7,hfree7,hkept7⟩;have hc7:=(hkept7.cell (p:=⟨wr.heap.size,1,none⟩) (.inr rfl)).trans HA1.out;have HPb:=Lib.hid (HPK.out _ A w7 _ _ k1 8 HKs5.out hAw hrow7 hfree7 hkept7 hu1 (by decide) (by rw [List.length_append,low_len,HZY.out];omega));rw [List.length_append,low_len,HZY.out] at HPb;clear hrow7 hfree7 hkept7)
           | (go_at_call 78;refine HPb.out.mono ?_;clear HPb;rintro e w8 ⟨o8,c8,rfl,hrow8,hfree8,hkept8⟩;have hc8:=(hkept8.cell (p:=⟨wr.heap.size,2,none⟩) (.inr rfl)).trans HA2.out;have HPc:=Lib.hid (HPK.out _ A w8 _ _ k2 2 HKs5.out hAw hrow8 hfree8 hkept8 (by omega) (by decide) (by rw [List.length_append,List.length_append,low_len,low_len,HZY.out];omega));rw [List.length_append,List.length_append,low_len,low_len,HZY.out] at HPc;clear hrow8 hfree8 hkept8)
           | (go_at_call 78;refine HPc.out.mono ?_;clear HPc;rintro e w9 ⟨o9,c9,rfl,hrow9,hfree9,hkept9⟩;have hc9:=(hkept9.cell (p:=⟨wr.heap.size,3,none⟩) (.inr rfl)).trans HA3.out;have HPd:=Lib.hid (HPK.out _ A w9 _ _ k3 4 HKs5.out hAw hrow9 hfree9 hkept9 (by omega) (by decide) (by rw [List.length_append,List.length_append,List.length_append,low_len,low_len,low_len,HZY.out];omega));rw [List.length_append,List.length_append,List.length_append,low_len,low_len,low_len,HZY.out] at HPd;clear hrow9 hfree9 hkept9)
           | (go_at_call 78;refine HPd.out.mono ?_;clear HPd;rintro e wa ⟨oa,ca,rfl,hrowa,hfreea,hkepta⟩;have hca:=(hkepta.cell (p:=⟨wr.heap.size,4,none⟩) (.inr rfl)).trans HA4.out;have HPe:=Lib.hid (HPK.out _ A wa _ _ k4 4 HKs5.out hAw hrowa hfreea hkepta (by omega) (by decide) (by rw [List.length_append,List.length_append,List.length_append,List.length_append,low_len,low_len,low_len,low_len,HZY.out];omega));rw [List.length_append,List.length_append,List.length_append,List.length_append,low_len,low_len,low_len,low_len,HZY.out] at HPe;clear hrowa hfreea hkepta)
           | (go_at_call 78;refine HPe.out.mono ?_;clear HPe;rintro e wb ⟨ob2,cb2,rfl,hrowb,hfreeb,hkeptb⟩;have Hrowb:=Lib.hid hrowb;have Hfreeb:=Lib.hid hfreeb;have Hkeptb:=Lib.hid hkeptb;clear hrowb hfreeb hkeptb))
          go_roundw
          case rel=>exact⟨q+1,by omega,by go_num,by rw [Htk.out];exact Hrowb.out,fun g hg h=>Hfreeb.out g hg (.inl h),HKA.out.trans (Hkeptb.out.mono fun b hb=>.inl hb)⟩
          case measure=>simp [intOf];omega
         ·have Hend:Hid (entsPart ss l (k+1)=Y):=Lib.hid (by
           rw [entsPart_step Hx.out]
           unfold entPart
           simp only
           rw [Hl1.out,Hl2.out,← HY.out,← HS.out,List.take_of_length_le (l:=e2) (by rw [Hl2.out];omega)]
           simp [List.append_assoc])
          go_wp2_with fail
          go_roundw
          case rel=>exact⟨k+1,by omega,by go_num,by rw [Hend.out];exact Hrowp.out,Hfreep.out,Hkeptp.out⟩
          case measure=>simp [intOf];omega
     ·obtain rfl:m=k:=by omega
      have HPO:=Lib.hid (rpostings_rows (w0:=w) (w:=wr) (K:=K) (G:=G) (ss:=ss) (l:=l) o o3 c c3 Hs.out Hc.out (Hb3.out.trans (Hkept.out.below HK0.out)) Hrow.out Hfree.out (fun b hb=>by have:=HK3.out b hb;omega) HK0.out (Hts.out.kept Hkept.out HKs.out) HKs.out (by rw [Hn3.out];exact hsl) (by rw [Hm.out];exact h60) (by rw [HM2.out];omega) HG.out HGl.out HG60.out)
      rw [Hm.out,Hn3.out] at HPO
      have Hbd:Hid (entsPart ss l m++postPart n3 G=body l):=Lib.hid (by rw [Hbody.out,Hm.out])
      have Hbl:Hid ((body l).length≤50000000000):=Lib.hid (by
       rw [← Hbd.out,List.length_append,HM2.out]
       have h1:=postPart_len (n:=n3) HGl.out
       have h2:n3 * n3≤8000 * 8000:=Nat.mul_le_mul hsl hsl
       omega)
      rw [Hbd.out] at HPO
      have Hby:=Lib.hid (body_bytes l)
      have Henc:Hid (encd crc l=body l++low 4 (crc (body l))):=Lib.hid rfl
      generalize hbd:body l=bd at *
      clear hbd Hbd Hbody
      generalize hNB:bd.length=NB at *
      have HNB:=Lib.hid hNB
      have hNB5:=Hbl.out
      clear hNB
      have hcrc:crc bd<4294967296:=by
       unfold crc
       exact Nat.xor_lt_two_pow (n:=32) (by decide) (feed_lt _ (by decide) Hby.out)
      generalize hcr:crc bd=cr at *
      have Hcr:=Lib.hid hcr
      clear hcr
      go_wp2_with (first
       | (go_at_call 80;refine HPO.out.mono ?_;clear HPO;rintro e w6 ⟨v6,rfl,hrow6,hfree6,hkept6⟩;obtain⟨o6,c6,hv6⟩:=hrow6.form;rw [HNB.out] at hv6;subst hv6;have Hkept6:=Lib.hid (Hkept.out.trans hkept6);have HP7:=Lib.hid (HP.out w6 _ _ cr 4 hrow6 hfree6 Hkept6.out (by omega) (by decide) (by rw [HNB.out];omega));rw [HNB.out] at HP7;have HS7:Hid (Calls Tryz.prog 27 #[.slice o6 NB c6] w6 fun e w'=>e=.returned (.int .u32 (cr:Nat))∧w6=w'):=Lib.hid (by have h9:=rsum_any (w:=w6) (v:=.slice o6 NB c6) (bs:=bd) (by have h8:=hrow6;unfold Row8 at h8;unfold BytesAt;rw [HNB.out] at h8 ⊢;exact owns_flat h8) (by rw [HNB.out];omega) Hby.out;rwa [Hcr.out] at h9);clear hrow6 hfree6 hkept6)
       | (go_at_call 27;refine HS7.out.mono ?_;clear HS7;rintro e w' ⟨rfl,rfl⟩)
       | (go_at_call 78;refine HP7.out.mono ?_;clear HP7;rintro e w7 ⟨o7,c7,rfl,hrow7,hfree7,hkept7⟩;have Hrow7:=Lib.hid hrow7;have Hkept7:=Lib.hid hkept7;clear hrow7 hfree7 hkept7))
      go_ret2
      exact⟨.inr ⟨Hmay.out,_,rfl,by rw [Henc.out];exact Hrow7.out⟩,Hb3.out.trans (Hkept7.out.below HK0.out)⟩
 ·have Hno:=Lib.hid hmay
  clear hmay
  go_enter Tryz.func25,Tryz.ntmps25
  go_wp2_with (go_at_call 76;refine HM.out.mono ?_;clear HM;rintro e w1 ⟨hsay,b1⟩;have B1:=Lib.hid b1;clear b1;rcases hsay with ⟨rfl,hname⟩|⟨rfl,hname⟩;exact absurd hname Hno.out)
  go_ret2
  exact⟨.inl ⟨Hno.out,rfl⟩,B1.out⟩
end Go.Proofs.YtbecggfbblnglaaGreatDoor
namespace Go.Proofs.YtbecggfbblnglaaGreatDoor
open Go Go.RowKit Go.Ix Go.Maps
theorem body_bound {l:List Ent}(hmay:May l) (hL:lblsOf l≤4000) (h60:l.length≤60) (hch:∀e∈l,e.2.length≤4000):(symbols l).length≤8000∧∀k,(entsPart (symbols l) l k).length≤15000000:=by
 have hsl:(symbols l).length≤8000:=by
  have h1:=rise_len (texts l)
  have h2:=texts_len l
  unfold symbols
  omega
 refine⟨hsl,fun k=>?_⟩
 have h1:=entsPart_len (ss:=symbols l) (l:=l) (fun s hs=>(sym_ok hmay hs).2) (ent_sizes hch hmay) k
 omega
theorem Buf.at {w:World}{B blk:Nat}{K:Nat→Prop}{sy nm:Value}{bs:List Nat}(h:Buf w B blk K sy nm bs):∃v,w.cell? ⟨blk,0,none⟩=some v∧Row8 w B v bs∧BytesAt w v bs:=by
 obtain⟨_,_,v,h3,h4,_⟩:=h
 refine⟨v,by simp [World.cell?,h3],h4,?_⟩
 have h5:=h4
 unfold Row8 at h5
 obtain⟨o,c,rfl,_⟩:=ownsRow_shape h5
 exact owns_flat h5
theorem crc_lt {l:List Nat}(hl:∀x∈l,x<256):crc l<4294967296:=by
 unfold crc
 have:=Nat.xor_lt_two_pow (n:=32) (show 4294967295<2 ^ 32 by decide) (feed_lt (d:=4294967295) l (by decide) hl)
 simpa using this
theorem convB (W:World):(convert 26 26 (.slice (some ⟨W.heap.size,0,none⟩) 4 4)).run Tryz.prog (W.alloc (.cells #[.int .u8 66,.int .u8 71,.int .u8 73,.int .u8 88] 5))=.ok (.slice (some ⟨W.heap.size,0,none⟩) 4 4) (W.alloc (.cells #[.int .u8 66,.int .u8 71,.int .u8 73,.int .u8 88] 5 (4,5))) :=
 Lib.run_convert_bytes_const W 26 5 #[.int .u8 66,.int .u8 71,.int .u8 73,.int .u8 88] 4 4 Tryz.underlying26 Tryz.underlying5
set_option maxRecDepth 20000 in
set_option maxHeartbeats 1000000 in
theorem pencode_rows (hH:HalfOk) (o:Option Addr) (c:Nat) (l:List Ent) (w:World) (hw8:11≤w.heap.size) (hs:Small l) (h60:l.length≤60) (hch:∀e∈l,e.2.length≤4000) (hc:RowsE w o l):Calls Tryz.prog 66 #[.slice o l.length c] w (EncEnd l w):=by
 have Hc:=Lib.hid hc
 have Hs:=Lib.hid hs
 have Hch:=Lib.hid hch
 have HM:=Lib.hid (pmay_rows o c l w hs hc)
 have HH:=Lib.hid hH
 clear hc hs hch hH
 by_cases hmay:May l
 ·have Hmay:=Lib.hid hmay
  have HL:=Lib.hid (lbls_of_may hmay h60)
  obtain⟨hsl,hbd⟩:=body_bound hmay HL.out h60 Hch.out
  have Hbd:=Lib.hid hbd
  have Hsok:Hid (∀s∈symbols l,s.length≤1024):=Lib.hid (fun s hs=>(sym_ok Hmay.out hs).2)
  have HG60:Hid (∀p,∀z∈grp (seqs (symbols l) l) p,z<l.length):=Lib.hid (fun p z hz=>(grp_bound Hmay.out p).2 z hz)
  have Hbody:Hid (body l=entsPart (symbols l) l l.length++postPart (symbols l).length (grp (seqs (symbols l) l))):=Lib.hid (body_eq l)
  have Hsz:=Lib.hid (ent_sizes Hch.out Hmay.out)
  clear hmay hbd
  generalize hm:l.length=m at *
  have Hm:=Lib.hid hm
  clear hm
  go_enter Tryz.func66,Tryz.ntmps66
  go_upto_region 4 with (go_at_call 96;refine HM.out.mono ?_;clear HM;rintro e w1 ⟨hsay,b1⟩;have B1:=Lib.hid b1;have hs1:=b1.size;have hcv:=convB w1;clear b1;rcases hsay with ⟨rfl,hname⟩|⟨rfl,hname⟩;rotate_left;exact absurd Hmay.out hname)
  obtain⟨w2,hw2⟩:∃w2:World,w2=((w1.alloc (.cells #[.int .u8 66,.int .u8 71,.int .u8 73,.int .u8 88] 5 (4,5))).alloc (.cells #[.slice (some ⟨w1.heap.size,0,none⟩) 4 4,.slice none 0 0,.map none] 239)):=⟨_,rfl⟩
  rw [← hw2]
  clear hcv
  have hw2s:w2.heap.size=w1.heap.size+2:=by rw [hw2];simp
  obtain⟨K,hK⟩:∃K:Nat→Prop,K=fun b=>b<w.heap.size:=⟨_,rfl⟩
  have HKd:Hid (∀b,K b↔b<w.heap.size):=Lib.hid (fun b=>by rw [hK])
  have Hodd:Hid (OddBuf w2 w.heap.size (w1.heap.size+1) K (.slice none 0 0) (.map none) magic):=Lib.hid (by
   refine⟨by omega,fun h=>by have:=(HKd.out _).1 h;omega,w1.heap.size,?_,?_,by omega,fun h=>by have:=(HKd.out _).1 h;omega⟩
   ·rw [hw2]
    have h9:=heap_alloc_new (w1.alloc (.cells #[.int .u8 66,.int .u8 71,.int .u8 73,.int .u8 88] 5 (4,5))) (.cells #[.slice (some ⟨w1.heap.size,0,none⟩) 4 4,.slice none 0 0,.map none] 239)
    rw [World.size_alloc] at h9
    exact h9
   ·rw [hw2]
    exact (Below.heap_alloc _ _ w1.heap.size (by simp)).trans (heap_alloc_new w1 _))
  have Hb2:Hid (Below w.heap.size w w2):=Lib.hid (by
   rw [hw2]
   exact (B1.out.alloc hs1 _).alloc (by simp;omega) _)
  have Hkw2:Hid (Kept K w w2):=Lib.hid (Kept.of_below Hb2.out fun b hb=>(HKd.out b).1 hb)
  have HT:=Lib.hid (table_any (w:=w2) (B:=w.heap.size) (K:=K) o m c l Hm.out Hs.out HL.out (Hc.out.olds (Olds.of_below Hb2.out)) Hsok.out (by omega) (fun b hb=>by have:=(HKd.out b).1 hb;omega) (.inl Hodd.out) (by decide))
  clear hw2 hK
  generalize hblk:w1.heap.size+1=blk at *
  obtain⟨Q,HQ⟩:∃Q:Value→Nat→Nat→Prop,Hid (∀sv mb b,Q sv mb b↔((K b∨sv.ownBlock=some b)∨b=mb)):=⟨fun sv mb b=>((K b∨sv.ownBlock=some b)∨b=mb),Lib.hid fun _ _ _=>Iff.rfl⟩
  have HCn:Hid (∀(W:World) (K2:Nat→Prop) (sv nm:Value),Buf W w.heap.size blk K2 sv nm (magic++low 4 (symbols l).length++symPart (symbols l))→(∀b,K2 b→b<W.heap.size)→w.heap.size≤W.heap.size→Calls Tryz.prog 98 #[.pointer (some ⟨blk,0,none⟩),.int .i64 (m:Nat)] W fun e w'=>e=.returned (.tuple #[])∧Buf w' w.heap.size blk K2 sv nm (magic++low 4 (symbols l).length++symPart (symbols l)++low 4 m)∧Kept K2 W w'):=Lib.hid (fun W K2 sv nm h1 h2 h3=>count_any m h1 h2 h3 (by omega) (by
   have h4:=Hbd.out 0
   rw [entsPart_zero] at h4
   unfold headPart at h4
   rw [List.take_length,List.length_append] at h4
   omega))
  have He0:Hid (magic++low 4 (symbols l).length++symPart (symbols l)++low 4 m=entsPart (symbols l) l 0):=Lib.hid (by
   rw [entsPart_zero,Hm.out]
   unfold headPart
   rw [List.take_length])
  go_wp2_with (first
   | (go_at_call 97;refine HT.out.mono ?_;clear HT;rintro e w3 ⟨rfl,sv,mb,hb3,hk3,hn3,hk3b⟩;have Hb3:Hid (Buf w3 w.heap.size blk (Q sv mb) sv (.map (some mb)) _):=Lib.hid (hb3.less fun b hb=>(HQ.out sv mb b).1 hb);have Hk3:=Lib.hid hk3;have Hn3:=Lib.hid hn3;have Hk3b:Hid (∀b,Q sv mb b→b<w3.heap.size):=Lib.hid (fun b hb=>hk3b b ((HQ.out sv mb b).1 hb));have hs3:=hk3.size;clear hb3 hk3 hn3 hk3b)
   | (go_at_call 98;refine (HCn.out w3 (Q sv mb) sv (.map (some mb)) Hb3.out Hk3b.out (by omega)).mono ?_;rintro e w4 ⟨rfl,hb4,hk4⟩;rw [He0.out] at hb4;have Hb4:=Lib.hid hb4;have Hk4:=Lib.hid hk4;clear hb4 hk4))
  have HQ0:Hid (∀b,b<w.heap.size→Q sv mb b):=Lib.hid (fun b hb=>(HQ.out sv mb b).2 (.inl (.inl ((HKd.out b).2 hb))))
  have HQm:Hid (Q sv mb mb):=Lib.hid ((HQ.out sv mb mb).2 (.inr rfl))
  generalize Q sv mb=K2 at *
  have Hbw:Hid (∀W,Kept K2 w3 W→Below w.heap.size w W):=Lib.hid (fun W hW=>(Hb2.out.trans (Hk3.out.below fun b hb=>(HKd.out b).2 hb)).trans (hW.below HQ0.out))
  have Hmem:Hid (∀e∈l,∀y∈e.1,y.1∈symbols l∧y.2∈symbols l):=Lib.hid (fun e he y hy=>texts_mem he hy)
  go_loopw [6,24] (fun _ iv wr=>∃k:Nat,k≤m∧iv=.int .i64 k∧Buf wr w.heap.size blk K2 sv (.map (some mb)) (entsPart (symbols l) l k)∧Kept K2 w3 wr) (fun _ iv _=>m-(intOf iv).toNat)
  case atStart=>exact⟨0,Nat.zero_le _,rfl,Hb4.out,Hk4.out⟩
  case round =>
   obtain⟨k,hk,rfl,hbr,hkr⟩:=hrel
   have Hbr:=Lib.hid hbr
   have Hkr:=Lib.hid hkr
   have hszr:=hkr.size
   have Hbel:=Lib.hid (Hbw.out _ hkr)
   clear hbr hkr
   by_cases hlt:k<m
   ·obtain⟨b,off,e1,e2,o1,n1,c1,o2,n2,c2,rfl,hx,hc1,hc2,hl1,hl2,hr1,hr2,_⟩:=Hc.out.at (k:=k) (by rw [Hm.out];exact hlt)
    have hcr1:=(Olds.of_below Hbel.out).cell hc1
    have hcr2:=(Olds.of_below Hbel.out).cell hc2
    obtain⟨hs64,hs40⟩:=Hsz.out _ (List.mem_of_getElem? hx)
    obtain⟨_,_,hs3'⟩:=Hs.out.ent hx
    simp only at hs64 hs40
    have hstep:entsPart (symbols l) l (k+1)=entsPart (symbols l) l k++entPart (symbols l) (e1,e2):=entsPart_step hx
    have Hstep:=Lib.hid hstep
    obtain⟨A,hA⟩:∃A:World,A=wr.alloc (.cells #[.slice o1 n1 c1,.slice o2 n2 c2] 93):=⟨_,rfl⟩
    have hOA:Olds wr A:=by rw [hA];exact Olds.alloc _ _
    have hAb:A.heap[wr.heap.size]?=some (.cells #[.slice o1 n1 c1,.slice o2 n2 c2] 93 (0,0)):=by rw [hA];exact heap_alloc_new _ _
    have HE:=Lib.hid (entry_any (w0:=w) (w:=A) (B:=w.heap.size) (blk:=blk) (mb:=mb) (K:=K2) (sy:=sv) (bs:=entsPart (symbols l) l k) (ss:=symbols l) (e1:=e1) (e2:=e2) o1 o2 n1 c1 n2 c2 rfl (by rw [hA];exact Hbel.out.alloc Hbel.out.size _) HQ0.out (fun b hb=>by have:=Hk3b.out b hb;have:=hOA.1;omega) HQm.out (Hbr.out.olds hOA) ((Hn3.out.kept Hkr.out HQm.out).olds hOA) hr1 hr2 hl1 hl2 (by omega) (by omega) (fun y hy=>⟨Hmem.out _ (List.mem_of_getElem? hx) y hy,hs3' y hy⟩) hsl (Hmay.out.ent (List.mem_of_getElem? hx)).2 (by have:=Hbd.out k;omega))
    have HkA:Hid (Kept K2 w3 A):=Lib.hid (by rw [hA];exact Hkr.out.alloc Hk3b.out _)
    have z0:A.cell? ⟨wr.heap.size,0,none⟩=some (.slice o1 n1 c1):=by simp only [World.cell?,hAb];rfl
    have z1:A.cell? ⟨wr.heap.size,1,none⟩=some (.slice o2 n2 c2):=by simp only [World.cell?,hAb];rfl
    have HAe:=Lib.hid hA
    clear hx hc1 hc2 hr1 hr2 hl1 hl2 hs3' hstep hOA hAb hA
    go_upto_region 9 with fail
    rw [← HAe.out]
    go_wp2_with (go_at_call 99;refine HE.out.mono ?_;clear HE;rintro e w5 ⟨rfl,hb5,hk5⟩;have Hb5:=Lib.hid hb5;have Hk5:=Lib.hid (HkA.out.trans hk5);clear hb5 hk5)
    go_roundw
    case rel=>exact⟨k+1,by omega,by go_num,by rw [Hstep.out];exact Hb5.out,Hk5.out⟩
    case measure=>simp [intOf];omega
   ·obtain rfl:k=m:=by omega
    have HP:=Lib.hid (postings_any (w:=wr) (B:=w.heap.size) (blk:=blk) (nb:=mb) (K:=K2) (sy:=sv) (bs:=entsPart (symbols l) l k) (ss:=symbols l) o k c l Hm.out Hs.out HL.out (Hc.out.olds (Olds.of_below Hbel.out)) rfl hsl Hbel.out.size (fun b hb=>by have:=Hk3b.out b hb;omega) HQm.out Hbr.out (Hn3.out.kept Hkr.out HQm.out) (by have:=Hbd.out k;omega) h60 HG60.out)
    rw [← Hbody.out] at HP
    go_upto_region 12 with (go_at_call 100;refine HP.out.mono ?_;clear HP;rintro e w6 ⟨rfl,hb6,hk6⟩;have Hb6:=Lib.hid hb6;have Hk6:=Lib.hid (Hkr.out.trans hk6);have hs6:=hk6.size;clear hb6 hk6)
    have hbl:(body l).length≤20000000000:=by
     rw [Hbody.out,List.length_append]
     have h1:=Hbd.out k
     have h2:=postPart_len (n:=(symbols l).length) (of:=grp (seqs (symbols l) l)) (m:=60) (fun p=>by have:=(grp_bound Hmay.out p).1;rw [Hm.out] at this;omega)
     have h3:(symbols l).length * (symbols l).length≤8000 * 8000:=Nat.mul_le_mul hsl hsl
     have h4:(symbols l).length * (symbols l).length * (12+4 * 60)≤8000 * 8000 * (12+4 * 60):=Nat.mul_le_mul_right _ h3
     omega
    obtain⟨v6,hc6,hr6,hby6⟩:=(Hb6.out.olds (Olds.drewN w6 1)).at
    have hX:w6.drewN 1=w6.drew:=rfl
    rw [hX] at hc6 hr6 hby6
    have hXs:w6.drew.heap.size=w6.heap.size:=rfl
    have hsum:=sum_any HH.out (w:=w6.drew) (by rw [hXs];omega) hby6 (by omega) (body_bytes l)
    have Hsum:=Lib.hid hsum
    have hcr:crc (body l)<4294967296:=crc_lt (body_bytes l)
    have HbX:Hid (Buf w6.drew w.heap.size blk K2 sv (.map (some mb)) (body l)):=Lib.hid (Hb6.out.olds (Olds.drewN w6 1))
    have HkX:Hid (Kept K2 w3 w6.drew):=Lib.hid (Hk6.out.drewN 1)
    have HEnc:Hid (encd crc l=body l++low 4 (crc (body l))):=Lib.hid rfl
    obtain⟨o6,c6,hv6,_⟩:=ownsRow_shape (show w6.drew.ownsRow w.heap.size 5 1 v6 (body l).length (octs (body l)) from hr6)
    generalize hBl:(body l).length=bl at *
    subst hv6
    generalize hCr:crc (body l)=cr at *
    have HCr:=Lib.hid hCr
    have HBl:=Lib.hid hBl
    clear hr6 hby6 hsum hCr hBl hX
    have hwu:IntKind.u64.wrap (cr:Int)=(cr:Int):=by rw [IntKind.wrap_u64];omega
    go_region_with (first
     | (go_at_call 68;refine Hsum.out.mono ?_;clear Hsum;rintro e w7 ⟨rfl,hb7⟩;have Hb7:=Lib.hid (HbX.out.olds (Olds.of_below hb7));have Hk7:=Lib.hid (HkX.out.trans (Kept.of_below (K:=K2) hb7 (fun b hb=>by have:=Hk3b.out b hb;have:=HkX.out.size;omega)));have hs7:=hb7.size;have HL:=Lib.hid (low_any (K:=K2) cr 4 Hb7.out (fun b hb=>by have:=Hk3b.out b hb;omega) (by omega) (by omega) (by decide) (by rw [HBl.out];omega));clear hb7)
     | (go_at_call 101;refine HL.out.mono ?_;clear HL;rintro e w8 ⟨rfl,hb8,hk8⟩;have Hb8:=Lib.hid hb8;have Hk8:=Lib.hid (Hk7.out.trans hk8);obtain⟨v8,hc8,hr8,_⟩:=hb8.at;have Hr8:=Lib.hid hr8;clear hb8 hk8 hr8))
    go_wp2_with fail
    go_ret2
    refine⟨.inr ⟨Hmay.out,v8,rfl,?_⟩,Hbw.out _ Hk8.out⟩
    rw [HEnc.out]
    exact Hr8.out
 ·have Hmay:=Lib.hid hmay
  clear hmay
  go_enter Tryz.func66,Tryz.ntmps66
  go_wp2_with (go_at_call 96;refine HM.out.mono ?_;clear HM;rintro e w1 ⟨hsay,b1⟩;have B1:=Lib.hid b1;clear b1;rcases hsay with ⟨rfl,hname⟩|⟨rfl,hname⟩;exact absurd hname Hmay.out)
  go_ret2
  exact⟨.inl ⟨Hmay.out,rfl⟩,B1.out⟩
end Go.Proofs.YtbecggfbblnglaaGreatDoor
