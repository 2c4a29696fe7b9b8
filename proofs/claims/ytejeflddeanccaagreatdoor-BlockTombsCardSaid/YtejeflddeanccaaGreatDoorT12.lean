/- Contracts over this program. Their conditions: the slices read as the lists that are named, and lie within the sizes that are named. -/
import Derived.Test.YtejeflddeanccaaGreatDoorT8
import Derived.Test.YtejeflddeanccaaGreatDoorT11
set_option linter.unusedSimpArgs false
set_option linter.unusedVariables false
set_option linter.deprecated false
set_option linter.unnecessarySimpa false
namespace Go.Proofs.YtejeflddeanccaaGreatDoor
open Go Go.RowKit Go.Ix Go.Tm
set_option maxRecDepth 20000 in
set_option maxHeartbeats 1000000 in
theorem rdec_any {w:World}{v:Value}{bs:List Nat}(h:BySl w v bs) (h8:∀x∈bs,x<256) (hl:bs.length≤1000000000):Calls Tryz.prog 31 #[v] w (DecEnd w bs):=by
 obtain⟨j0,hj0,hy0,hy1,hy2⟩:=info_parts Tryz.info64
 have H8:=Lib.hid h8
 cases hbs:bs with
 | nil =>
  obtain⟨b,off,c,rfl,_⟩:=h
  rw [hbs]
  go_enter Tryz.func31,Tryz.ntmps31
  go_wp2_with fail
  go_ret3
  exact⟨Below.refl _ _,.inl ⟨rfl,rfl⟩⟩
 | cons c0 r0 =>
  have h0:bs[0]?=some c0:=by rw [hbs];rfl
  have hc8:=h8 c0 (List.mem_of_getElem? h0)
  rw [← hbs]
  have Hbs:=Lib.hid hbs
  have H:=Lib.hid h
  have hpos:1≤bs.length:=by rw [hbs];simp
  have HV:Hid (∃b off c,v=.slice (some ⟨b,off,none⟩) bs.length c∧w.cell? ⟨b,off,none⟩=some (.int .u8 (c0:Int))):=Lib.hid (by
   obtain⟨b,off,c,rfl,hc,hm,hcs⟩:=h
   have q0:=octs_cell hcs h0
   rw [Nat.add_zero] at q0
   exact⟨b,off,c,rfl,q0⟩)
  obtain⟨b,off,c,rfl,q0⟩:=HV.out
  clear hbs h8 h0 h HV
  generalize hN:bs.length=m at *
  have HN:=Lib.hid hN
  clear hN
  have hm0:((m:Int) == 0)=false:=by simp;omega
  have Q0:=Lib.hid q0
  go_enter Tryz.func31,Tryz.ntmps31
  go_wp2_with fail
  go_loopw [5,6,7] (fun lv rv iv wr=>∃(k j:Nat) (l:List Lbl),k≤c0∧iv=.int .i64 (k:Nat)∧l.length=k∧wr.ownsRow w.heap.size 64 2 lv k (l.flatMap lblCells)∧rv=.int .i64 (j:Nat)∧j≤m∧takeL c0 r0=takeA l (c0-k) (bs.drop j)∧(∀y∈l,y.1.length<65536∧y.2.length<65536)∧Below w.heap.size w wr) (fun _ _ iv _=>c0-(intOf iv).toNat)
  case atStart=>exact⟨0,1,[],Nat.zero_le _,rfl,rfl,World.ownsRow_nil _ _ _ _,rfl,hpos,by rw [takeA_nil,Hbs.out];rfl,by simp,Below.refl _ _⟩
  case round =>
   obtain⟨k,j,l,hk,rfl,hlk,hown,rfl,hj,htk,hlen,hb⟩:=hrel
   have q1:=(Olds.of_below hb).cell Q0.out
   have Hown:=Lib.hid hown
   have Htk:=Lib.hid htk
   have Hlen:=Lib.hid hlen
   have Hb:=Lib.hid hb
   have Hlk:=Lib.hid hlk
   have hsz:=hb.size
   clear hown htk hlen hb hlk
   by_cases hlt:k<c0
   ·have hd8:∀i,∀x∈bs.drop i,x<256:=fun i x hx=>H8.out x (List.mem_of_mem_drop hx)
    have HT:Hid (∀(q i:Nat),i≤m→Calls Tryz.prog 47 #[.slice (some ⟨b,off,none⟩) m c,.int .i64 (i:Nat)] (wr.drewN q) (NextEnd (wr.drewN q) bs i)):=Lib.hid (fun q i hi=>rnext_any i (by rw [HN.out];exact hi) (by rw [HN.out];exact hl) (H.out.olds ((Olds.of_below Hb.out).trans (Olds.drewN wr q))) H8.out)
    have HT1:Hid (Calls Tryz.prog 47 #[.slice (some ⟨b,off,none⟩) m c,.int .i64 (j:Nat)] wr (NextEnd wr bs j)):=Lib.hid (HT.out 0 j hj)
    have hck:c0-k=(c0-(k+1))+1:=by omega
    rw [hck] at Htk
    clear hck
    cases ht1:takeT (bs.drop j) with
    | none =>
     have Hr:Hid (dec bs=none):=Lib.hid (by rw [Hbs.out];exact dec_none (by rw [Htk.out];exact takeA_one ht1))
     have HE:Hid (∀e w',NextEnd wr bs j e w'→e=.returned (.tuple #[encStr [],.int .i64 (-1)])∧∃q,w'=wr.drewN q):=Lib.hid (fun e w' ⟨h1,h2⟩=>by
      rcases h2 with ⟨_,h2⟩|⟨s,h2,_⟩
      ·exact⟨h2,h1⟩
      ·rw [ht1] at h2;cases h2)
     clear ht1
     go_wp2_with (go_at_call 47;refine HT1.out.mono ?_;clear HT1;rintro e w2 hend;obtain⟨rfl,q,hw2⟩:=HE.out e w2 hend;rw [hw2];clear hend hw2 w2)
     go_ret3
     exact⟨below_drewN Hb.out _,.inl ⟨Hr.out,rfl⟩⟩
    | some p =>
     obtain⟨s1,r1⟩:=p
     have hr1:=(takeT_drop ht1).1
     have hr1l:=(takeT_drop ht1).2.1
     have hs1:=takeT_len (hd8 j) ht1
     rw [List.length_drop,HN.out] at hr1l
     rw [List.drop_drop] at hr1
     obtain⟨j1,hj1⟩:∃j1,j1=j+(2+s1.length):=⟨_,rfl⟩
     rw [← hj1] at hr1
     have hj1m:j1≤m:=by omega
     subst hr1
     have Ht1:=Lib.hid ht1
     have HE:Hid (∀e w',NextEnd wr bs j e w'→e=.returned (.tuple #[encStr s1,.int .i64 (j1:Nat)])∧∃q,w'=wr.drewN q):=Lib.hid (fun e w' ⟨h1,h2⟩=>by
      rcases h2 with ⟨h2,_⟩|⟨s,h2,h3,h4⟩
      ·rw [ht1] at h2;cases h2
      ·rw [ht1] at h2
       simp only [Option.some.injEq,Prod.mk.injEq] at h2
       obtain⟨rfl,_⟩:=h2
       refine⟨?_,h1⟩
       rw [h4,hj1,Nat.add_assoc])
     clear ht1 hj1 hr1l
     cases ht2:takeT (bs.drop j1) with
     | none =>
      have Hr:Hid (dec bs=none):=Lib.hid (by rw [Hbs.out];exact dec_none (by rw [Htk.out];exact takeA_two Ht1.out ht2))
      have HE2:Hid (∀W e w',NextEnd W bs j1 e w'→e=.returned (.tuple #[encStr [],.int .i64 (-1)])∧∃q,w'=W.drewN q):=Lib.hid (fun W e w' ⟨h1,h2⟩=>by
       rcases h2 with ⟨_,h2⟩|⟨s,h2,_⟩
       ·exact⟨h2,h1⟩
       ·rw [ht2] at h2;cases h2)
      clear ht2
      go_wp2_with (first
       | (go_at_call 47;refine (HT.out q1' j1 hj1m).mono ?_;rintro e w3 hend;obtain⟨rfl,q2,hw3⟩:=HE2.out _ e w3 hend;rw [hw3];clear hend hw3 w3)
       | (go_at_call 47;refine HT1.out.mono ?_;clear HT1;rintro e w2 hend;obtain⟨rfl,q1',hw2⟩:=HE.out e w2 hend;rw [hw2];clear hend hw2 w2))
      go_ret3
      exact⟨below_drewN Hb.out _,.inl ⟨Hr.out,rfl⟩⟩
     | some p =>
      obtain⟨s2,r2⟩:=p
      have hr2:=(takeT_drop ht2).1
      have hr2l:=(takeT_drop ht2).2.1
      have hs2:=takeT_len (hd8 j1) ht2
      rw [List.length_drop,HN.out] at hr2l
      rw [List.drop_drop] at hr2
      obtain⟨j2,hj2⟩:∃j2,j2=j1+(2+s2.length):=⟨_,rfl⟩
      rw [← hj2] at hr2
      have hj2m:j2≤m:=by omega
      subst hr2
      have Hst:Hid (takeL c0 r0=takeA (l++[(s1,s2)]) (c0-(k+1)) (bs.drop j2)):=Lib.hid (by rw [Htk.out];exact takeA_step Ht1.out ht2)
      have HE2:Hid (∀W e w',NextEnd W bs j1 e w'→e=.returned (.tuple #[encStr s2,.int .i64 (j2:Nat)])∧∃q,w'=W.drewN q):=Lib.hid (fun W e w' ⟨h1,h2⟩=>by
       rcases h2 with ⟨h2,_⟩|⟨s,h2,h3,h4⟩
       ·rw [ht2] at h2;cases h2
       ·rw [ht2] at h2
        simp only [Option.some.injEq,Prod.mk.injEq] at h2
        obtain⟨rfl,_⟩:=h2
        refine⟨?_,h1⟩
        rw [h4,hj2,Nat.add_assoc])
      have Hlen2:Hid (∀y∈l++[(s1,s2)],y.1.length<65536∧y.2.length<65536):=Lib.hid (fun y hy=>by
       rcases List.mem_append.1 hy with hy | hy
       ·exact Hlen.out y hy
       ·rw [List.mem_singleton.1 hy];exact⟨hs1,hs2⟩)
      clear ht2 hj2 hr2l
      go_wp2_with (first
       | (go_at_call 47;refine (HT.out q1' j1 hj1m).mono ?_;rintro e w3 hend;obtain⟨rfl,q2,hw3⟩:=HE2.out _ e w3 hend;have O3:Hid (Olds wr w3):=Lib.hid (by rw [hw3];exact (Olds.drewN wr q1').trans (Olds.drewN _ q2));have B3:Hid (Below w.heap.size w w3):=Lib.hid (by rw [hw3];exact below_drewN (below_drewN Hb.out _) _);have hs3:=B3.out.size;clear hend hw3)
       | (go_at_call 47;refine HT1.out.mono ?_;clear HT1;rintro e w2 hend;obtain⟨rfl,q1',hw2⟩:=HE.out e w2 hend;rw [hw2];clear hend hw2 w2)
       | (at_builtin;refine wpList_append_lies _ rfl _ _ _ rfl w.heap.size 64 j0 _ 2 32 Tryz.underlying39 hj0 hy0 hy1 hy2 rfl (by decide) u5 k (l.flatMap lblCells) rfl (ownsRow_olds Hown.out (O3.out.trans (Olds.alloc _ _))) ⟨w3.heap.size,0,none⟩ 1 1 [encStr s1,encStr s2] rfl rfl (World.news_of_block (cs:=#[encStr s1,encStr s2]) (t:=64) (fr:=(0,0)) (heap_alloc_new w3 _)) (by simp [Value.oneCell']) Nat.one_pos (by unfold maxLen;omega) (by omega) (by simp;omega) (w3.heap.size+1) (by simp) ?_;intro g4 c4 w4 hown4 hgrow4 hat4 hlt4;have Hown4:=Lib.hid hown4;have B4:Hid (Below w.heap.size w w4):=Lib.hid ((B3.out.alloc hs3 _).grown hgrow4 (by simp;omega) (fun b hb=>(ownsRow_block Hown.out hb).1));clear hown4 hgrow4 hat4))
      go_roundw
      case rel=>exact⟨k+1,j2,l++[(s1,s2)],by omega,by go_num,by rw [List.length_append,Hlk.out];rfl,by rw [List.flatMap_append];exact Hown4.out,rfl,hj2m,Hst.out,Hlen2.out,B4.out⟩
      case measure=>simp [intOf];omega
   ·obtain rfl:k=c0:=by omega
    have htk:takeL k r0=some (l,bs.drop j):=by rw [Htk.out,Nat.sub_self,takeA_zero]
    have hO:OwnL wr w.heap.size u5 l:=by unfold OwnL;rw [Hlk.out];exact Hown.out
    obtain⟨o5,c5,rfl,hz5,hrows⟩:=hO.rows
    have HO:=Lib.hid hO
    have HC:=Lib.hid (rcheck_rows o5 c5 l wr (by rw [Hlk.out];omega) (fun y hy=>by have:=Hlen.out y hy;omega) hrows)
    have Htk2:=Lib.hid htk
    have hll:l.length≤255:=by rw [Hlk.out];omega
    clear htk hO hrows hz5
    have hll2:=hll
    generalize hgl:l.length=ll at *
    have Hgl:=Lib.hid hgl
    clear hgl
    by_cases hk0:check l=0
    ·have Hr:Hid (dec bs=some (l,bs.drop j)):=Lib.hid (by rw [Hbs.out];rw [Hbs.out] at Htk2;exact dec_good Htk2.out hk0)
     rw [hk0] at HC
     clear hk0
     go_wp2_with (go_at_call 43;refine HC.out.mono ?_;clear HC;rintro e w5 ⟨rfl,q,hw5⟩;have B5:Hid (Below w.heap.size w w5):=Lib.hid (by rw [hw5];exact below_drewN Hb.out q);have O5:Hid (Olds wr w5):=Lib.hid (by rw [hw5];exact Olds.drewN wr q);clear hw5)
     go_ret3
     exact⟨B5.out,.inr ⟨l,j,_,Hr.out,by rw [HN.out];exact hj,rfl,ownsRow_olds HO.out O5.out,by rw [Hgl.out];exact hll2,Hlen.out⟩⟩
    ·have Hr:Hid (dec bs=none):=Lib.hid (by rw [Hbs.out];rw [Hbs.out] at Htk2;exact dec_bad Htk2.out hk0)
     have Hk0:=Lib.hid hk0
     generalize check l=k0 at *
     have hkb:((k0:Int) != 0)=true:=by simpa using Hk0.out
     clear hk0
     go_wp2_with (go_at_call 43;refine HC.out.mono ?_;clear HC;rintro e w5 ⟨rfl,q,hw5⟩;have B5:Hid (Below w.heap.size w w5):=Lib.hid (by rw [hw5];exact below_drewN Hb.out q);clear hw5)
     go_ret3
     exact⟨B5.out,.inl ⟨Hr.out,rfl⟩⟩
end Go.Proofs.YtejeflddeanccaaGreatDoor
namespace Go.Proofs.YtejeflddeanccaaGreatDoor
open Go Go.RowKit Go.Ix Go.Tm
theorem inner_drop (bs:List Nat) (j:Nat):(inner bs).drop j=(bs.take (bs.length-4)).drop (2+j):=by
 unfold inner
 rw [List.drop_drop]
theorem inner_part {bs:List Nat}{j:Nat}(h:j+8≤bs.length-6):((inner bs).drop j).take 8=(bs.drop (2+j)).take 8:=by
 rw [inner_drop,List.drop_take,List.take_take,Nat.min_eq_left (by omega)]
set_option maxRecDepth 20000 in
set_option maxHeartbeats 2000000 in
theorem ropen_any {w:World}{v:Value}{bs:List Nat}(hv:∃o c,v=.slice o bs.length c) (h:6≤bs.length→BySl w v bs) (h8:∀x∈bs,x<256) (hl:bs.length≤1000000):Calls Tryz.prog 11 #[v] w (OpenEnd w bs):=by
 obtain⟨j0,hj0,hy0,hy1,hy2⟩:=info_parts Tryz.info43
 by_cases h6:bs.length<6
 ·obtain⟨o,c,rfl⟩:=hv
  have Hr:=Lib.hid (opened_short h6)
  clear h
  generalize bs.length=m at *
  go_enter Tryz.func11,Tryz.ntmps11
  go_wp2_with fail
  go_ret2
  exact⟨Below.refl _ _,.inl ⟨Hr.out,rfl⟩⟩
 ·have hby:=h (by omega)
  have HBy:=Lib.hid hby
  have H8:=Lib.hid h8
  have H6:=Lib.hid h6
  obtain⟨b,off,c,rfl,hc,hm,hcs⟩:=hby
  have HG:Hid (∀(W:World) (i n:Nat) (yi yn:Int),Olds w W→yi=(i:Int)→yn=(n:Int)→n≤8→i+n≤bs.length→Calls Tryz.prog 30 #[.slice (some ⟨b,off,none⟩) bs.length c,.int .i64 yi,.int .i64 yn] W fun e w'=>e=.returned (.int .u64 (back ((bs.drop i).take n):Nat))∧w'=W):=Lib.hid (fun W i n yi yn hW e1 e2 hn hi=>by
   subst e1 e2
   exact rget_any i n hW HBy.out H8.out hn hi (by omega))
  have HG0:Hid (∀W:World,Olds w W→Calls Tryz.prog 30 #[.slice (some ⟨b,off,none⟩) bs.length c,.int .i64 0,.int .i64 2] W fun e w'=>e=.returned (.int .u64 (back (bs.take 2):Nat))∧w'=W):=Lib.hid (fun W hW=>by
   have:=HG.out W 0 2 0 2 hW rfl rfl (by decide) (by omega)
   rwa [List.drop_zero] at this)
  have Hcut:Hid (∀(i:Nat) (y z:Int),y=(i:Int)→z=((bs.length-4:Nat):Int)→i≤bs.length-4→∃f,(∀W:World,(Instr.slice 23 (.slice (some ⟨b,off,none⟩) bs.length c) (some (.int .i64 y)) (some (.int .i64 z)) none).run Tryz.prog W=.ok (.slice (some ⟨b,f,none⟩) (bs.length-4-i) (c-i)) W)∧BySl w (.slice (some ⟨b,f,none⟩) (bs.length-4-i) (c-i)) ((bs.take (bs.length-4)).drop i)):=Lib.hid (fun i y z hy hz hi=>by
   obtain⟨f,hf,hq⟩:=cut_atZ b off bs.length c i (bs.length-4) y z hy hz hi (by omega)
   exact⟨f,hq,cut_by hcs hc hm (by omega) hi hf rfl⟩)
  have hn0:=back2_lt h8
  have hil:(inner bs).length=bs.length-6:=by
   unfold inner
   rw [List.length_drop,List.length_take]
   omega
  have HI8:Hid (∀x∈inner bs,x<256):=Lib.hid (fun x hx=>h8 x (List.mem_of_mem_take (List.mem_of_mem_drop hx)))
  have Hid1:Hid (∀j,(inner bs).drop j=(bs.take (bs.length-4)).drop (2+j)):=Lib.hid (inner_drop bs)
  have Hid2:Hid (∀j,j+8≤bs.length-6→((inner bs).drop j).take 8=(bs.drop (2+j)).take 8):=Lib.hid (fun j hj=>inner_part hj)
  unfold maxLen at hm
  clear hcs hv h h8
  generalize hn0e:back (bs.take 2)=n0 at *
  have Hn0:=Lib.hid hn0e
  generalize hie:inner bs=ib at *
  have Hib:=Lib.hid hie
  generalize hN:bs.length=m at *
  have HN:=Lib.hid hN
  have Hil:=Lib.hid hil
  clear hn0e hie hN hil
  have hm6:decide ((m:Int)<6)=false:=by simp;omega
  have hms:IntKind.i64.wrap ((m:Int)-4)=((m-4:Nat):Int):=by rw [IntKind.wrap_i64];omega
  have hwn:IntKind.i64.wrap (n0:Int)=(n0:Int):=by rw [IntKind.wrap_i64];omega
  obtain⟨M,hM⟩:∃M,M=m-4:=⟨_,rfl⟩
  rw [← hM] at hms Hcut
  have HM:=Lib.hid hM
  have hMm:M+4=m:=by omega
  clear hM
  go_enter Tryz.func11,Tryz.ntmps11
  go_wp2_with fail
  go_loopw [5,6,7] (fun av lv iv wr=>∃(k j:Nat) (l:List Tomb),k≤n0∧iv=.int .i64 (k:Nat)∧l.length=k∧OwnsT wr w.heap.size lv l∧av=.int .i64 (2+j:Nat)∧j≤ib.length∧takeTs n0 ib=takeTA l (n0-k) (ib.drop j)∧SmallT l∧Below w.heap.size w wr) (fun _ _ iv _=>n0-(intOf iv).toNat)
  case atStart=>exact⟨0,0,[],Nat.zero_le _,rfl,rfl,⟨[],rfl,World.ownsRow_nil _ _ _ _,fun i u t h=>by simp at h⟩,rfl,Nat.zero_le _,by rw [takeTA_nil];rfl,fun t h=>by simp at h,Below.refl _ _⟩
  case round =>
   obtain⟨k,j,l,hk,rfl,hlk,hown,rfl,hj,htk,hsm,hb⟩:=hrel
   have Hown:=Lib.hid hown
   have Htk:=Lib.hid htk
   have Hsm:=Lib.hid hsm
   have Hb:=Lib.hid hb
   have Hlk:=Lib.hid hlk
   have hsz:=hb.size
   have how:=Olds.of_below hb
   have HG0r:=Lib.hid (HG0.out wr how)
   obtain⟨J,hJ⟩:∃J,J=2+j:=⟨_,rfl⟩
   rw [← hJ]
   have HJ:=Lib.hid hJ
   have hjm:j≤m-6:=by rw [← Hil.out];exact hj
   have hJM:J≤M:=by omega
   clear hown htk hsm hb hlk hJ
   by_cases hlt:k<n0
   ·obtain⟨f1,hq1,hB1⟩:=Hcut.out J (J:Int) (M:Int) rfl rfl hJM
    have hB1':BySl w (.slice (some ⟨b,f1,none⟩) (M-J) (c-J)) (ib.drop j):=by
     rw [Hid1.out,← HJ.out,← HM.out]
     exact hB1
    have hd8:∀i,∀x∈ib.drop i,x<256:=fun i x hx=>HI8.out x (List.mem_of_mem_drop hx)
    have hdl:(ib.drop j).length=M-J:=by rw [List.length_drop,Hil.out,HJ.out];omega
    have HD:=Lib.hid (rdec_any (hB1'.olds how) (hd8 j) (by omega))
    have hck:n0-k=(n0-(k+1))+1:=by omega
    rw [hck] at Htk
    clear hck hB1 hB1'
    cases hdc:dec (ib.drop j) with
    | none =>
     have Hr:Hid (opened bs=none):=Lib.hid (opened_none (by rw [HN.out];exact H6.out) (by rw [Hn0.out,Hib.out,Htk.out];exact takeTA_none (takeTomb_none hdc)))
     have HE:Hid (∀e w',DecEnd wr (ib.drop j) e w'→e=.returned (.tuple #[.slice none 0 0,.int .i64 0,.int .u16 70])∧Below wr.heap.size wr w'):=Lib.hid (fun e w' ⟨h1,h2⟩=>by
      rcases h2 with ⟨_,h2⟩|⟨_,_,_,h2,_⟩
      ·exact⟨h2,h1⟩
      ·rw [hdc] at h2;cases h2)
     clear hdc how hd8
     go_wp2_with (first
      | (go_at_call 30;refine HG0r.out.mono ?_;clear HG0r;rintro e w1 ⟨rfl,hw1⟩;rw [hw1];clear hw1 w1)
      | (go_at_call 31;refine HD.out.mono ?_;clear HD;rintro e w2 hend;obtain⟨rfl,hb2⟩:=HE.out e w2 hend;have B2:Hid (Below w.heap.size w w2):=Lib.hid (Hb.out.trans (hb2.mono hsz));clear hend hb2))
     go_ret2
     exact⟨B2.out,.inl ⟨Hr.out,rfl⟩⟩
    | some p =>
     obtain⟨l1,r1⟩:=p
     obtain⟨k1,hk1,hr1⟩:∃k1,k1≤M-J∧r1=ib.drop (j+k1):=by
      obtain⟨k1,h1,h2⟩:=dec_drop hdc
      rw [hdl] at h1
      exact⟨k1,h1,by rw [h2,List.drop_drop]⟩
     subst hr1
     obtain⟨n1,hn1⟩:∃n1,n1=l1.length:=⟨_,rfl⟩
     have HE:Hid (∀e w',DecEnd wr (ib.drop j) e w'→∃xo xc,e=.returned (.tuple #[.slice xo n1 xc,.int .i64 (k1:Nat),.int .u16 0])∧OwnL w' wr.heap.size (.slice xo n1 xc) l1∧l1.length≤255∧(∀y∈l1,y.1.length<65536∧y.2.length<65536)∧Below wr.heap.size wr w'):=Lib.hid (fun e w' ⟨h1,h2⟩=>by
      rcases h2 with ⟨h2,_⟩|⟨l',k',u,h2,h3,h4,h5,h6,h7⟩
      ·rw [hdc] at h2;cases h2
      ·rw [hdc] at h2
       simp only [Option.some.injEq,Prod.mk.injEq] at h2
       obtain⟨rfl,h9⟩:=h2
       have h10:=congrArg List.length h9
       rw [List.drop_drop,List.length_drop,List.length_drop,Hil.out] at h10
       rw [hdl] at h3
       have h11:=HJ.out
       obtain rfl:k'=k1:=by omega
       obtain⟨xo,xc,hxu,_⟩:=ownsRow_shape h5
       rw [← hn1] at hxu
       subst hxu
       exact⟨xo,xc,h4,h5,h6,h7,h1⟩)
     have Hn1:=Lib.hid hn1
     clear hn1
     obtain⟨J1,hJ1⟩:∃J1,J1=J+k1:=⟨_,rfl⟩
     have hw1:IntKind.i64.wrap ((J:Int)+(k1:Int))=(J1:Int):=by rw [IntKind.wrap_i64];omega
     have hw2:IntKind.i64.wrap ((J1:Int)+16)=(J1:Int)+16:=by rw [IntKind.wrap_i64];omega
     have hw3:IntKind.i64.wrap ((J1:Int)+8)=(J1:Int)+8:=by rw [IntKind.wrap_i64];omega
     have HJ1:=Lib.hid hJ1
     have hJ1M:J1≤M:=by omega
     clear hJ1
     by_cases h16:M<J1+16
     ·have hlt16:decide ((M:Int)<(J1:Int)+16)=true:=by simp;omega
      have Hr:Hid (opened bs=none):=Lib.hid (opened_none (by rw [HN.out];exact H6.out) (by rw [Hn0.out,Hib.out,Htk.out];exact takeTA_none (takeTomb_short hdc (by rw [List.length_drop,Hil.out];have:=HJ.out;have:=HJ1.out;omega))))
      clear hdc how hd8 hdl
      go_wp2_with (first
       | (go_at_call 30;refine HG0r.out.mono ?_;clear HG0r;rintro e w1 ⟨rfl,hw1⟩;rw [hw1];clear hw1 w1)
       | (go_at_call 31;refine HD.out.mono ?_;clear HD;rintro e w2 hend;obtain⟨xo,xc,rfl,_,_,_,hb2⟩:=HE.out e w2 hend;have B2:Hid (Below w.heap.size w w2):=Lib.hid (Hb.out.trans (hb2.mono hsz));clear hend hb2))
      go_ret2
      exact⟨B2.out,.inl ⟨Hr.out,rfl⟩⟩
     ·have hlt16:decide ((M:Int)<(J1:Int)+16)=false:=by simp;omega
      have hRl:(ib.drop (j+k1)).length=M-J1:=by rw [List.length_drop,Hil.out];have:=HJ.out;have:=HJ1.out;omega
      have hR8:=hd8 (j+k1)
      have htm:=takeTomb_some hdc (by rw [hRl];omega)
      rw [show (ib.drop (j+k1)).drop 16=ib.drop (j+k1+16) from List.drop_drop ..,show (ib.drop (j+k1)).drop 8=ib.drop (j+k1+8) from List.drop_drop ..] at htm
      have e1:(ib.drop (j+k1)).take 8=(bs.drop J1).take 8:=by
       rw [Hid2.out (j+k1) (by have:=HJ.out;have:=HJ1.out;omega)]
       congr 2
       have:=HJ.out;have:=HJ1.out;omega
      have e2:(ib.drop (j+k1+8)).take 8=(bs.drop (J1+8)).take 8:=by
       rw [Hid2.out (j+k1+8) (by have:=HJ.out;have:=HJ1.out;omega)]
       congr 2
       have:=HJ.out;have:=HJ1.out;omega
      rw [e1,e2] at htm
      have HG1:Hid (∀W,Olds w W→Calls Tryz.prog 30 #[.slice (some ⟨b,off,none⟩) m c,.int .i64 (J1:Int),.int .i64 8] W fun e w'=>e=.returned (.int .u64 (back ((bs.drop J1).take 8):Nat))∧w'=W):=Lib.hid (fun W hW=>HG.out W J1 8 _ _ hW rfl rfl (by decide) (by omega))
      have HG2:Hid (∀W,Olds w W→Calls Tryz.prog 30 #[.slice (some ⟨b,off,none⟩) m c,.int .i64 ((J1:Int)+8),.int .i64 8] W fun e w'=>e=.returned (.int .u64 (back ((bs.drop (J1+8)).take 8):Nat))∧w'=W):=Lib.hid (fun W hW=>HG.out W (J1+8) 8 _ _ hW (by omega) rfl (by decide) (by omega))
      have hA1:=back8_lt (bs:=bs.drop J1) (fun x hx=>H8.out x (List.mem_of_mem_drop hx))
      have hA2:=back8_lt (bs:=bs.drop (J1+8)) (fun x hx=>H8.out x (List.mem_of_mem_drop hx))
      have Htm:=Lib.hid htm
      clear htm hd8 hR8 hdc hRl e1 e2
      generalize back ((bs.drop J1).take 8)=A1 at *
      generalize back ((bs.drop (J1+8)).take 8)=A2 at *
      have hwa:=wrap_s64 hA1
      have hwb:=wrap_s64 hA2
      obtain⟨us,hus,hrow,htmo⟩:=Hown.out
      rw [Hlk.out] at hus hrow
      have Hrow:=Lib.hid hrow
      have Hus:=Lib.hid hus
      have Htmo:=Lib.hid htmo
      have Hst:Hid (takeTs n0 ib=takeTA (l++[(l1,s64 A1,s64 A2)]) (n0-(k+1)) (ib.drop (j+k1+16))):=Lib.hid (by rw [Htk.out];exact takeTA_step Htm.out)
      have Hhow:=Lib.hid how
      have HKr:Hid (∀g,u6.ownBlock=some g→w.heap.size≤g∧g<wr.heap.size):=Lib.hid (fun g hg=>ownsRow_block hrow hg)
      clear hrow hus htmo how
      generalize s64 A1=z1 at *
      generalize s64 A2=z2 at *
      go_wp2_with (first
       | (go_at_call 30;refine (HG2.out _ Ow4.out).mono ?_;rintro e w5 ⟨rfl,hw5⟩;have O5:Hid (Olds wr w5):=Lib.hid (by rw [hw5];exact O4.out);have B5:Hid (Below w.heap.size w w5):=Lib.hid (by rw [hw5];exact B4.out);have hs5:w.heap.size≤w5.heap.size:=B5.out.size;have Ho5:Hid (OwnL w5 wr.heap.size (.slice xo n1 xc) l1):=Lib.hid (by rw [hw5];exact Ho4.out);clear hw5)
       | (go_at_call 30;refine (HG1.out _ Ow2.out).mono ?_;rintro e w4 ⟨rfl,hw4⟩;have Ow4:Hid (Olds w w4):=Lib.hid (by rw [hw4];exact Ow2.out);have O4:Hid (Olds wr w4):=Lib.hid (by rw [hw4];exact O2.out);have B4:Hid (Below w.heap.size w w4):=Lib.hid (by rw [hw4];exact B2.out);have Ho4:Hid (OwnL w4 wr.heap.size (.slice xo n1 xc) l1):=Lib.hid (by rw [hw4];exact Ho1.out);clear hw4)
       | (go_at_call 30;refine HG0r.out.mono ?_;clear HG0r;rintro e w1 ⟨rfl,hw1⟩;rw [hw1];clear hw1 w1)
       | (go_at_call 31;refine HD.out.mono ?_;clear HD;rintro e w2 hend;obtain⟨xo,xc,rfl,ho1,hl1,hy1',hb2⟩:=HE.out e w2 hend;have B2:Hid (Below w.heap.size w w2):=Lib.hid (Hb.out.trans (hb2.mono hsz));have O2:Hid (Olds wr w2):=Lib.hid (Olds.of_below hb2);have Ow2:Hid (Olds w w2):=Lib.hid (Hhow.out.trans (Olds.of_below hb2));have Ho1:=Lib.hid ho1;have Hl1:=Lib.hid (And.intro hl1 hy1');clear hend hb2 ho1 hl1 hy1')
       | (at_builtin;refine wpList_append_lies _ rfl _ _ _ rfl w.heap.size 43 j0 _ 3 40 Tryz.underlying22 hj0 hy0 hy1 hy2 rfl (by decide) u6 k (us.flatMap tmCells) rfl (ownsRow_olds Hrow.out (O5.out.trans (Olds.alloc _ _))) ⟨w5.heap.size,0,none⟩ 1 1 [.slice xo n1 xc,.int .i64 z1,.int .i64 z2] rfl rfl (World.news_of_block (cs:=#[.slice xo n1 xc,.int .i64 z1,.int .i64 z2]) (t:=43) (fr:=(0,0)) (heap_alloc_new w5 _)) (by simp [Value.oneCell']) Nat.one_pos (by unfold maxLen;omega) (by omega) (by simp;omega) (w5.heap.size+1) (by simp) ?_;intro g6 cap6 w6 hown6 hgrow6 hat6 hlt6;have Hown6:=Lib.hid hown6;have Hgrow6:=Lib.hid hgrow6;have B6:Hid (Below w.heap.size w w6):=Lib.hid ((B5.out.alloc hs5 _).grown hgrow6 (by simp;omega) (fun b hb=>(HKr.out b hb).1));clear hown6 hgrow6 hat6))
      have Hnew:Hid (OwnsT w6 w.heap.size (.slice (some ⟨g6,0,none⟩) (k+1) cap6) (l++[(l1,z1,z2)])):=Lib.hid (by
       refine⟨us++[(.slice xo n1 xc,z1,z2)],by rw [List.length_append,List.length_append,Hus.out,Hlk.out];rfl,?_,?_⟩
       ·rw [List.length_append,Hlk.out,List.flatMap_append]
        exact Hown6.out
       ·have hO:=Olds.alloc w5 (.cells #[.slice xo n1 xc,.int .i64 z1,.int .i64 z2] 43)
        exact tm_step (by rw [Hus.out,Hlk.out]) (Htmo.out.olds (O5.out.trans hO)) ((Ho5.out.olds hO).mono hsz) Hgrow6.out (fun g hg=>own_kind (ownsRow_olds Hrow.out (O5.out.trans hO)) hg))
      have Hsm2:Hid (SmallT (l++[(l1,z1,z2)])):=Lib.hid (smallT_snoc Hsm.out Hl1.out.1 Hl1.out.2)
      have hj16:j+k1+16≤ib.length:=by
       rw [Hil.out]
       have:=HJ.out;have:=HJ1.out;omega
      have hll:(l++[(l1,z1,z2)]).length=k+1:=by rw [List.length_append,Hlk.out];rfl
      have Hll:=Lib.hid hll
      have hav:((J1:Int)+16)=((2+(j+k1+16):Nat):Int):=by have:=HJ.out;have:=HJ1.out;omega
      have Hav:=Lib.hid hav
      clear hll hav
      go_roundw
      case rel=>exact⟨k+1,j+k1+16,l++[(l1,z1,z2)],by omega,by go_num,Hll.out,Hnew.out,by rw [← Hav.out],hj16,Hst.out,Hsm2.out,B6.out⟩
      case measure=>simp [intOf];omega
   ·obtain rfl:k=n0:=by omega
    have htk:takeTs k ib=some (l,ib.drop j):=by rw [Htk.out,Nat.sub_self,takeTA_zero]
    obtain⟨lo,lc,hlv,hlz,hrows⟩:=Hown.out.rows
    rw [Hlk.out] at hlv
    subst hlv
    have hkk:k≤65535:=by omega
    have HT:=Lib.hid (rtombs_rows lo lc k l wr Hlk.out hkk Hsm.out hrows)
    have htk2:takeTs (back (bs.take 2)) (inner bs)=some (l,ib.drop j):=by rw [Hn0.out,Hib.out];exact htk
    have Htk2:=Lib.hid htk2
    have HBv:Hid (∀W,Olds w W→(convert 23 9 (.slice (some ⟨b,off,none⟩) m c)).run Tryz.prog W=.ok (encStr (txtOf bs)) W):=Lib.hid (fun W hW=>conv_by (HBy.out.olds hW) H8.out)
    clear hrows htk htk2 how
    by_cases hmay:MayT l
    ·have hd8:∀x∈doneB l,x<256:=fun x hx=>by
      unfold doneB at hx
      rcases List.mem_append.1 hx with hx | hx
      ·exact bodyB_bytes hmay x hx
      ·exact low_lt _ _ _ hx
     have HTE:Hid (∀e w',TombsEnd wr l e w'→∃v,e=.returned (.tuple #[v,.int .u16 0])∧(convert 23 9 v).run Tryz.prog w'=.ok (encStr (txtOf (doneB l))) w'∧Below wr.heap.size wr w'):=Lib.hid (fun e w' ⟨h1,h2⟩=>by
      rcases h2 with ⟨h2,_⟩|⟨_,v,h2,h3⟩
      ·exact absurd hmay h2
      ·refine⟨v,h2,conv_by (row8_by h3 ?_) hd8,h1⟩
       unfold doneB
       rw [List.length_append,low_len]
       omega)
     have hinj:=txt_inj hd8 H8.out
     have Hmay:=Lib.hid hmay
     clear hmay hd8
     by_cases heq:doneB l=bs
     ·have Hr:Hid (opened bs=some l):=Lib.hid (opened_good (by rw [HN.out];exact H6.out) Htk2.out ((tombs_yes Hmay.out bs).2 heq))
      have hne:(txtOf (doneB l) == txtOf bs)=true:=by rw [hinj.2 heq];simp
      clear heq hinj
      generalize txtOf (doneB l)=T1 at *
      generalize txtOf bs=T2 at *
      go_wp2_with (first
       | (go_at_call 30;refine HG0r.out.mono ?_;clear HG0r;rintro e w1 ⟨rfl,hw1⟩;rw [hw1];clear hw1 w1)
       | (go_at_call 9;refine HT.out.mono ?_;clear HT;rintro e w2 hend;obtain⟨v2,rfl,hv2,hb2⟩:=HTE.out e w2 hend;have hv3:=HBv.out w2 (Olds.of_below (Hb.out.trans (hb2.mono hsz)));have B2:Hid (Below w.heap.size w w2):=Lib.hid (Hb.out.trans (hb2.mono hsz));have O2:Hid (Olds wr w2):=Lib.hid (Olds.of_below hb2);clear hend hb2))
      go_ret2
      exact⟨B2.out,.inr ⟨l,_,Hr.out,rfl,Hown.out.olds O2.out,by rw [Hlk.out];exact hkk,Hsm.out⟩⟩
     ·have Hr:Hid (opened bs=none):=Lib.hid (opened_bad (by rw [HN.out];exact H6.out) Htk2.out (fun h=>heq ((tombs_yes Hmay.out bs).1 h)))
      have hne:(txtOf (doneB l) == txtOf bs)=false:=by
       rw [beq_eq_false_iff_ne]
       exact fun e=>heq (hinj.1 e)
      clear heq hinj
      generalize txtOf (doneB l)=T1 at *
      generalize txtOf bs=T2 at *
      go_wp2_with (first
       | (go_at_call 30;refine HG0r.out.mono ?_;clear HG0r;rintro e w1 ⟨rfl,hw1⟩;rw [hw1];clear hw1 w1)
       | (go_at_call 9;refine HT.out.mono ?_;clear HT;rintro e w2 hend;obtain⟨v2,rfl,hv2,hb2⟩:=HTE.out e w2 hend;have hv3:=HBv.out w2 (Olds.of_below (Hb.out.trans (hb2.mono hsz)));have B2:Hid (Below w.heap.size w w2):=Lib.hid (Hb.out.trans (hb2.mono hsz));clear hend hb2))
      go_ret2
      exact⟨B2.out,.inl ⟨Hr.out,rfl⟩⟩
    ·have Hr:Hid (opened bs=none):=Lib.hid (opened_bad (by rw [HN.out];exact H6.out) Htk2.out (tombs_no hmay bs))
     have HTE:Hid (∀e w',TombsEnd wr l e w'→e=.returned (.tuple #[.slice none 0 0,.int .u16 150])∧Below wr.heap.size wr w'):=Lib.hid (fun e w' ⟨h1,h2⟩=>by
      rcases h2 with ⟨_,h2⟩|⟨h2,_⟩
      ·exact⟨h2,h1⟩
      ·exact absurd h2 hmay)
     clear hmay
     go_wp2_with (first
      | (go_at_call 30;refine HG0r.out.mono ?_;clear HG0r;rintro e w1 ⟨rfl,hw1⟩;rw [hw1];clear hw1 w1)
      | (go_at_call 9;refine HT.out.mono ?_;clear HT;rintro e w2 hend;obtain⟨rfl,hb2⟩:=HTE.out e w2 hend;have B2:Hid (Below w.heap.size w w2):=Lib.hid (Hb.out.trans (hb2.mono hsz));clear hend hb2))
     go_ret2
     exact⟨B2.out,.inl ⟨Hr.out,rfl⟩⟩
end Go.Proofs.YtejeflddeanccaaGreatDoor
