/- Contracts over this program. Their conditions: the slices read as the lists that are named, and lie within the sizes that are named. -/
import Derived.Test.YtndjmffnlcilbaaGreatDoorYt
set_option linter.unusedSimpArgs false
set_option linter.unusedVariables false
set_option linter.deprecated false
set_option linter.unnecessarySimpa false
namespace Go.Proofs.YtndjmffnlcilbaaGreatDoor
open Go Go.RowKit Go.Ix Go.Ext Go.Maps
section
variable {want c:Nat}{b b1 b2:List Nat}{T:List Bool}{l:List Nat}{p q:Nat}
theorem rsl_none1 (h:num 2 b=none):rsLoop want (c+1) b T l=none:=by unfold rsLoop;rw [h];rfl
theorem rsl_none2 (h:num 2 b=some (p,b1)) (h2:num 2 b1=none):rsLoop want (c+1) b T l=none:=by
 unfold rsLoop
 rw [h]
 simp only [Option.bind_some]
 rw [h2]
 rfl
theorem rsl_none3 (h:num 2 b=some (p,b1)) (h2:num 2 b1=some (q,b2)) (h3:¬ (1≤q∧2≤p∧p+q≤T.length∧l.length+q≤want)):rsLoop want (c+1) b T l=none:=by
 unfold rsLoop
 rw [h]
 simp only [Option.bind_some]
 rw [h2]
 simp only [Option.bind_some]
 rw [if_neg h3]
theorem rsl_some (h:num 2 b=some (p,b1)) (h2:num 2 b1=some (q,b2)) (h3:1≤q∧2≤p∧p+q≤T.length∧l.length+q≤want):rsLoop want (c+1) b T l=(Ext.mark q p T).bind fun T'=>rsLoop want c b2 T' (l++List.range' p q):=by
 conv=>lhs;unfold rsLoop
 rw [h]
 simp only [Option.bind_some]
 rw [h2]
 simp only [Option.bind_some]
 rw [if_pos h3]
theorem rsecs_eq (h:num 2 b=some (p,b1)) (h48:p≤48):rsecs want b T=(rsLoop want p b1 T []).bind fun r=>if r.1.length=want then some r else none:=by
 unfold rsecs
 rw [h]
 simp only [Option.bind_some]
 rw [if_pos h48]
theorem rsecs_none (h:num 2 b=some (p,b1)) (h48:¬ p≤48):rsecs want b T=none:=by
 unfold rsecs
 rw [h]
 simp only [Option.bind_some]
 rw [if_neg h48]
end
def Marks (w:World) (B tb n tc:Nat) (T:List Bool):Prop:=T.length=n∧w.ownsRow B 4 1 (.slice (some ⟨tb,0,none⟩) n tc) n (T.map Value.bool)
theorem Tryz.info4:(Tryz.prog.info? 4).map (fun i=>(i.zero,i.size,i.bytes))=some (some (.bool false),1,1):=by kernel_rfl
structure RS (W wr:World) (B rb g tb tc n:Nat) (rest:List Nat) (T:List Bool) (l:List Nat) (v:Value):Prop where
 rd:RdAt wr rb g rest (.slice (some ⟨tb,0,none⟩) n tc)
 mrk:Marks wr B tb n tc T
 row:wr.ownsRow W.heap.size 3 1 v l.length (nats l)
 fr:Fr 0 [] [rb,tb] W wr
def SecsEnd (W:World) (B rb g tb tc n want:Nat) (rest:List Nat) (T:List Bool) (e:Ending) (w':World):Prop :=
 (∃r v,rsecs want rest T=some r∧e=.returned v∧RS W w' B rb g tb tc n r.2.1 r.2.2 r.1 v)∨(rsecs want rest T=none∧Wrong e∧Fr 0 [] [rb,tb] W w')
theorem Marks.at {w:World}{B tb n tc a:Nat}{T:List Bool}(h:Marks w B tb n tc T) (ha:a<n):∃x,T[a]?=some x∧w.cell? ⟨tb,a,none⟩=some (.bool x):=by
 obtain⟨x,hx⟩:∃x,T[a]?=some x:=⟨_,List.getElem?_eq_getElem (by rw [h.1];exact ha)⟩
 refine⟨x,hx,?_⟩
 have h1:=ownsRow_cell h.2 a (.bool x) (by simp [hx])
 simpa using h1
theorem Marks.set {w:World}{B tb n tc:Nat}{T:List Bool}(h:Marks w B tb n tc T) (a:Nat):Marks (w.setCell ⟨tb,a,none⟩ (.bool true)) B tb n tc (T.set a true):=by
 refine⟨by rw [List.length_set];exact h.1,?_⟩
 have h1:=(h.2.stored a (.bool true)).1
 rw [List.map_set]
 exact h1
theorem Marks.keep {w W:World}{B tb n tc:Nat}{T:List Bool}(h:Marks w B tb n tc T) (hb:W.heap[tb]?=w.heap[tb]?):Marks W B tb n tc T:=⟨h.1,ownsRow_blocks h.2 fun k hk=>by cases hk;exact hb⟩
theorem Marks.lt {w:World}{B tb n tc:Nat}{T:List Bool}(h:Marks w B tb n tc T):tb<w.heap.size:=(ownsRow_block h.2 rfl).2
theorem RS.number {W wr w':World}{B rb g tb tc n:Nat}{rest r':List Nat}{T:List Bool}{l:List Nat}{v:Value}(h:RS W wr B rb g tb tc n rest T l v) (hlt:rb<W.heap.size) (hne:rb≠tb) (h1:RdAt w' rb g r' (.slice (some ⟨tb,0,none⟩) n tc)) (h2:Fr 0 [] [rb] wr w'):RS W w' B rb g tb tc n r' T l v:=by
 have hk:∀b,b<wr.heap.size→b≠rb→w'.heap[b]?=wr.heap[b]?:=fun b hb hne=>by
  obtain⟨o,ho⟩:∃o,wr.heap[b]?=some o:=⟨_,Array.getElem?_eq_getElem hb⟩
  rw [ho]
  exact h2.sp b o ho (by simpa using hne) (fun _ _ _ _ h=>by cases h)
 refine⟨h1,h.mrk.keep (hk _ h.mrk.lt (Ne.symm hne)),ownsRow_blocks h.row fun k hk2=>hk k (ownsRow_block h.row hk2).2 ?_,h.fr.trans (h2.mono (Nat.le_refl _) (fun _ h=>h) (by simp))⟩
 have:=(ownsRow_block h.row hk2).1
 omega
theorem RS.take {W wr w4:World}{B rb g tb tc n a gg cap2:Nat}{rest:List Nat}{T:List Bool}{l:List Nat}{v:Value}{O:Obj}(h:RS W wr B rb g tb tc n rest T l v) (hrb:rb<W.heap.size) (hg:g<W.heap.size) (htb:tb<W.heap.size) (hne:rb≠tb) (hgt:g≠tb)
  (hown4:w4.ownsRow W.heap.size 3 1 (.slice (some ⟨gg,0,none⟩) (l.length+1) cap2) (l.length+1) (nats l++[.int .i64 (a:Nat)])) (hgrow:((wr.setCell ⟨tb,a,none⟩ (.bool true)).alloc O).grownBy w4 v.ownBlock) :
  RS W w4 B rb g tb tc n rest (T.set a true) (l++[a]) (.slice (some ⟨gg,0,none⟩) (l.length+1) cap2):=by
 have hsz:=h.fr.size
 have hX:∀b,b≠tb→(wr.setCell ⟨tb,a,none⟩ (.bool true)).heap[b]?=wr.heap[b]?:=fun b hb=>Below.heap_setCell _ _ _ _ hb
 have hs:(wr.setCell ⟨tb,a,none⟩ (.bool true)).heap.size=wr.heap.size:=by simp [World.setCell]
 have hrow:∀b,v.ownBlock=some b→W.heap.size≤b:=fun b hb=>(ownsRow_block h.row hb).1
 have hk:∀b,b<W.heap.size→w4.heap[b]?=(wr.setCell ⟨tb,a,none⟩ (.bool true)).heap[b]?:=fun b hb=>(hgrow.block b (by rw [World.size_alloc,hs];omega) (fun e=>by have:=hrow b e.symm;omega)).trans (Below.heap_alloc _ _ b (by rw [hs];omega))
 refine⟨h.rd.keep ((hk _ hrb).trans (hX _ hne)) ((hk _ hg).trans (hX _ hgt)),(h.mrk.set a).keep (hk _ htb),?_,⟨?_,fun b o hb hm _=>?_⟩⟩
 ·rw [List.length_append,nats_append]
  exact hown4
 ·have hb1:Below 0 wr (wr.setCell ⟨tb,a,none⟩ (.bool true)):=(Below.refl _ _).setCell (Nat.zero_le _) _
  exact h.fr.below.trans ((hb1.alloc (Nat.zero_le _) _).grown hgrow (Nat.zero_le _) (fun _ _=>Nat.zero_le _))
 ·have hlt:=heap_lt hb
  simp only [List.mem_cons,List.not_mem_nil,or_false,not_or] at hm
  rw [hk b hlt,hX b hm.2]
  exact h.fr.sp b o hb (by simp [hm]) (fun _ _ _ _ h=>by cases h)
set_option maxRecDepth 20000 in
set_option maxHeartbeats 4000000 in
theorem rd_secs {W:World}{B rb g tb tc n want:Nat}{rest:List Nat}{T:List Bool}(h:RdAt W rb g rest (.slice (some ⟨tb,0,none⟩) n tc)) (hT:Marks W B tb n tc T) (hg:g<W.heap.size) (hgt:g≠tb) (hw:want≤100000000) (hn:n≤1000000) (hl:rest.length≤1000000) :
  Calls Tryz.prog 65 #[.pointer (some ⟨rb,0,none⟩),.int .i64 (want:Nat)] W (SecsEnd W B rb g tb tc n want rest T):=by
 obtain⟨i0,hi0,hz0,hz1,hz2⟩:=info_parts Tryz.info3
 have hrb:=h.lt
 have htb:=hT.lt
 have hne:rb≠tb:=fun e=>by
  obtain⟨off,cap,q1,_⟩:=h
  obtain⟨cur,hc⟩:=own_kind hT.2 (g:=tb) rfl
  rw [← e,q1] at hc
  simp at hc
 have H0:Hid (RS W W B rb g tb tc n rest T [] (.slice none 0 0)):=Lib.hid ⟨h,hT,World.ownsRow_nil _ _ _ _,Fr.refl _ _ _ _⟩
 cases hn1:num 2 rest with
 | none =>
  have HN:=Lib.hid (rd_number_no h hn1)
  have hr:rsecs want rest T=none:=by unfold rsecs;rw [hn1];rfl
  have Hr:=Lib.hid hr
  clear h hT hn1 hr
  go_enter Tryz.func65,Tryz.ntmps65
  go_wp2_with (go_at_call 64;refine HN.out.mono ?_;rintro e w1 ⟨hw1,hf1⟩;unfold Wrong at hw1;subst hw1;have Hf1:=Lib.hid hf1;clear hf1)
  exact⟨rfl,.inr ⟨Hr.out,rfl,Hf1.out.mono (Nat.le_refl _) (fun _ h=>h) (by simp)⟩⟩
 | some pc =>
  obtain⟨m,b0⟩:=pc
  obtain⟨hm,hb0,_⟩:=num_lt hn1 h.byte
  simp only at hm hb0
  have HN:=Lib.hid (rd_number h hn1 (by decide) hl)
  have Hn1:=Lib.hid hn1
  have hb0l:b0.length≤1000000:=by rw [hb0,List.length_drop];omega
  clear h hT hn1 hb0
  by_cases h48:m≤48
  ·obtain⟨R,hR⟩:∃R,R=rsLoop want m b0 T []:=⟨_,rfl⟩
   have HR:=Lib.hid hR
   have HRs:Hid (rsecs want rest T=R.bind fun r=>if r.1.length=want then some r else none):=Lib.hid (by rw [hR];exact rsecs_eq Hn1.out h48)
   clear hR
   go_enter Tryz.func65,Tryz.ntmps65
   go_wp2_with (first
    | (go_at_call 64;refine HN.out.mono ?_;clear HN;rintro e w1 ⟨rfl,hr1,hf1⟩;have H1:=Lib.hid (H0.out.number hrb hne hr1 hf1);clear hr1 hf1)
    | (go_at_call 63;refine (need2_ok _ (by first | rfl | (simp;omega))).mono ?_;rintro e w2 ⟨rfl,rfl⟩))
   go_loopw [4,15] (fun sv iv wr=>∃(i:Nat) (b:List Nat) (T':List Bool) (l:List Nat),i≤m∧iv=.int .i64 i∧RS W wr B rb g tb tc n b T' l sv∧l.length≤want∧b.length≤1000000∧rsLoop want (m-i) b T' l=R) (fun _ iv _=>m-(intOf iv).toNat)
   case atStart=>exact⟨0,b0,T,[],Nat.zero_le _,rfl,H1.out,Nat.zero_le _,hb0l,HR.out.symm⟩
   case round =>
    obtain⟨i,b,T',l,hi,rfl,hst,hlw,hbl,hloop⟩:=hrel
    have Hst:=Lib.hid hst
    have Hloop:=Lib.hid hloop
    obtain⟨o,c,rfl,hso⟩:=ownsRow_shape hst.row
    clear hloop
    by_cases hlt:i<m
    ·obtain⟨mi,hmi⟩:∃mi,m-i=mi+1:=⟨m-i-1,by omega⟩
     rw [hmi] at Hloop
     cases hp:num 2 b with
     | none =>
      have HA:=Lib.hid (rd_number_no hst.rd hp)
      have Hr:Hid (rsecs want rest T=none):=Lib.hid (by rw [HRs.out,← Hloop.out,rsl_none1 hp];rfl)
      clear hst hp
      go_wp2_with (go_at_call 64;refine HA.out.mono ?_;clear HA;rintro e w3 ⟨hw3,hf3⟩;unfold Wrong at hw3;subst hw3;have Hf3:=Lib.hid hf3;clear hf3)
      exact⟨rfl,.inr ⟨Hr.out,rfl,Hst.out.fr.trans (Hf3.out.mono (Nat.le_refl _) (fun _ h=>h) (by simp))⟩⟩
     | some pp =>
      obtain⟨p,b1⟩:=pp
      obtain⟨hp6,hb1,_⟩:=num_lt hp hst.rd.byte
      simp only at hp6 hb1
      have HA:=Lib.hid (rd_number hst.rd hp (by decide) hbl)
      have hb1l:b1.length≤1000000:=by rw [hb1,List.length_drop];omega
      have hb18:∀x∈b1,x<256:=fun x hx=>hst.rd.byte x (List.mem_of_mem_drop (hb1 ▸ hx))
      have Hp:=Lib.hid hp
      clear hst hp hb1
      cases hq:num 2 b1 with
      | none =>
       have Hr:Hid (rsecs want rest T=none):=Lib.hid (by rw [HRs.out,← Hloop.out,rsl_none2 Hp.out hq];rfl)
       have Hq:=Lib.hid hq
       clear hq
       go_wp2_with (first
        | (go_at_call 64;refine HA.out.mono ?_;clear HA;rintro e w3 ⟨rfl,hr3,hf3⟩;have H3:=Lib.hid (Hst.out.number hrb hne hr3 hf3);have HB:=Lib.hid (rd_number_no hr3 Hq.out);clear hr3 hf3)
        | (go_at_call 64;refine HB.out.mono ?_;clear HB;rintro e w4 ⟨hw4,hf4⟩;unfold Wrong at hw4;subst hw4;have Hf4:=Lib.hid hf4;clear hf4))
       exact⟨rfl,.inr ⟨Hr.out,rfl,H3.out.fr.trans (Hf4.out.mono (Nat.le_refl _) (fun _ h=>h) (by simp))⟩⟩
      | some qq =>
       obtain⟨q,b2⟩:=qq
       obtain⟨hq6,hb2,_⟩:=num_lt hq hb18
       simp only at hq6 hb2
       have hb2l:b2.length≤1000000:=by rw [hb2,List.length_drop];omega
       have Hq:=Lib.hid hq
       have hTn:=Hst.out.mrk.1
       have hp6':p<65536:=by simpa using hp6
       have hq6':q<65536:=by simpa using hq6
       clear hq hb2 hp6 hq6 hb18
       have Hc2:Hid (∀w4:World,RdAt w4 rb g b2 (.slice (some ⟨tb,0,none⟩) n tc)→w4.cell? ⟨rb,1,none⟩=some (.slice (some ⟨tb,0,none⟩) n tc)):=Lib.hid (fun w4 h4=>by
        obtain⟨off,cap,q1,_⟩:=h4
        rw [cell_of_heap q1];rfl)
       have HB:Hid (∀w3:World,RdAt w3 rb g b1 (.slice (some ⟨tb,0,none⟩) n tc)→Calls Tryz.prog 64 #[.pointer (some ⟨rb,0,none⟩),.int .i64 2] w3 fun e w'=>e=.returned (.int .i64 (q:Nat))∧RdAt w' rb g b2 (.slice (some ⟨tb,0,none⟩) n tc)∧Fr 0 [] [rb] w3 w'):=Lib.hid (fun w3 h3=>rd_number h3 Hq.out (by decide) hb1l)
       have HNo:Hid (¬ (1≤q∧2≤p∧p+q≤n∧l.length+q≤want)→rsecs want rest T=none):=Lib.hid (fun hno=>by rw [HRs.out,← Hloop.out,rsl_none3 Hp.out Hq.out (by rw [hTn];exact hno)];rfl)
       by_cases hc:1≤q∧2≤p∧p+q≤n∧l.length+q≤want
       ·obtain⟨c1,c2,c3,c4⟩:=hc
        have Hgo:Hid (R=(Ext.mark q p T').bind fun T''=>rsLoop want mi b2 T'' (l++List.range' p q)):=Lib.hid (by rw [← Hloop.out,rsl_some Hp.out Hq.out (by rw [hTn];exact⟨c1,c2,c3,c4⟩)])
        clear HNo Hloop Hp Hq
        obtain⟨L,hL⟩:∃L,L=l.length:=⟨_,rfl⟩
        have HL:=Lib.hid hL
        rw [← hL] at hlw hso c4 ⊢
        clear hL
        go_wp2_with (first
         | (go_at_call 64;refine HA.out.mono ?_;clear HA;rintro e w3 ⟨rfl,hr3,hf3⟩;have H3:=Lib.hid (Hst.out.number hrb hne hr3 hf3);have HB3:=Lib.hid (HB.out w3 hr3);clear hr3 hf3 HB)
         | (go_at_call 64;refine HB3.out.mono ?_;clear HB3;rintro e w4 ⟨rfl,hr4,hf4⟩;have hc4:=Hc2.out w4 hr4;have H4:=Lib.hid (H3.out.number hrb hne hr4 hf4);clear hr4 hf4)
         | (go_at_call 63;refine (need2_ok _ (by first | rfl | simp;omega)).mono ?_;rintro e w5 ⟨rfl,rfl⟩))
        go_loopw [4,8] (fun sv kv wq=>∃(j:Nat) (T'':List Bool) (l'':List Nat),j≤q∧kv=.int .i64 ((p+j:Nat):Int)∧RS W wq B rb g tb tc n b2 T'' l'' sv∧l''=l++List.range' p j∧Ext.mark (q-j) (p+j) T''=Ext.mark q p T') (fun _ kv _=>p+q-(intOf kv).toNat)
        case atStart=>exact⟨0,T',l,Nat.zero_le _,rfl,by rw [HL.out];exact H4.out,by simp,rfl⟩
        case round =>
         obtain⟨j,T2,l2,hj,rfl,hst2,hl2,hmk⟩:=hrel
         have hl2n:l2.length=L+j:=by rw [hl2,List.length_append,List.length_range',HL.out]
         obtain⟨o2,cc2,rfl,hso2⟩:=ownsRow_shape hst2.row
         have Hst2:=Lib.hid hst2
         have Hl2:=Lib.hid hl2
         have Hmk:=Lib.hid hmk
         have hr2:wr.cell? ⟨rb,1,none⟩=some (.slice (some ⟨tb,0,none⟩) n tc):=by
          obtain⟨off,cap,q1,_⟩:=hst2.rd
          rw [cell_of_heap q1];rfl
         clear hl2 hmk
         by_cases hjq:j<q
         ·obtain⟨x,hx,hxc⟩:=hst2.mrk.at (a:=p+j) (by omega)
          obtain⟨qj,hqj⟩:∃qj,q-j=qj+1:=⟨q-j-1,by omega⟩
          rw [hqj] at Hmk
          cases x with
          | true =>
           have Hr:Hid (rsecs want rest T=none):=Lib.hid (by
            have h9:Ext.mark (qj+1) (p+j) T2=none:=by
             unfold Ext.mark
             rw [if_neg (by rw [hx];simp)]
            rw [HRs.out,Hgo.out,← Hmk.out,h9]
            rfl)
           clear hx hst2
           go_wp2_with (go_at_call 63;refine (need2_no _ (by first | rfl | simp)).mono ?_;rintro e w5 ⟨hw5,rfl⟩;unfold Wrong at hw5;subst hw5)
           exact⟨rfl,.inr ⟨Hr.out,rfl,Hst2.out.fr⟩⟩
          | false =>
           have hft:wr.frozen? ⟨tb,p+j,none⟩=false:=hst2.mrk.2.frozenAt _
           have Hmk2:Hid (Ext.mark qj (p+j+1) (T2.set (p+j) true)=Ext.mark q p T'):=Lib.hid (by
            rw [← Hmk.out]
            conv=>rhs;unfold Ext.mark
            rw [if_pos hx])
           have Hlen2:=Lib.hid hl2n
           have hsz2:=hst2.fr.size
           clear hx hst2 Hmk hl2n
           generalize hZ:l2.length=Z at *
           have HZ:=Lib.hid hZ
           have hZb:Z≤100000000:=by
            have h9:=Hlen2.out
            omega
           clear hZ
           have hA:∀o:Obj,((wr.setCell ⟨tb,p+j,none⟩ (.bool true)).alloc o).heap[wr.heap.size]?=some o:=fun o=>by
            have h9:=heap_alloc_new (wr.setCell ⟨tb,p+j,none⟩ (.bool true)) o
            have h10:(wr.setCell ⟨tb,p+j,none⟩ (.bool true)).heap.size=wr.heap.size:=by simp [World.setCell]
            rwa [h10] at h9
           have HZr:Hid ((wr.setCell ⟨tb,p+j,none⟩ (.bool true)).ownsRow W.heap.size 3 1 (.slice o2 Z cc2) Z (nats l2)):=Lib.hid (by
            have h9:=Hst2.out.row
            rw [HZ.out] at h9
            exact ownsRow_blocks h9 fun k hk=>Below.heap_setCell _ _ _ _ (by show k≠tb;have:=(ownsRow_block h9 hk).1;omega))
           go_wp2_with (first
            | (go_at_call 63;refine (need2_ok _ (by first | rfl | simp)).mono ?_;rintro e w5 ⟨rfl,rfl⟩)
            | (at_builtin;refine wpList_append_lies _ rfl _ _ _ rfl W.heap.size 3 i0 _ 1 8 Tryz.underlying66 hi0 hz0 hz1 hz2 rfl Nat.one_pos (.slice o2 Z cc2) Z (nats l2) rfl (ownsRow_olds HZr.out (Olds.alloc _ _)) ⟨wr.heap.size,0,none⟩ 1 1 [.int .i64 ((p:Int)+(j:Int))] rfl rfl (World.news_of_block (cs:=#[.int .i64 ((p:Int)+(j:Int))]) (t:=3) (fr:=(0,0)) (hA _)) (by simp [Value.oneCell']) Nat.one_pos (by unfold maxLen;omega) (by omega) (by simp [World.setCell];omega) (wr.heap.size+1) (by simp [World.setCell]) ?_;intro gg cap2 w6 hown6 hgrow6 hat6 hlt6;have Hown6:=Lib.hid hown6;have Hg6:=Lib.hid hgrow6;clear hown6 hgrow6 hat6))
           go_roundw
           case rel =>
            refine⟨j+1,T2.set (p+j) true,l2++[p+j],by omega,by go_num,?_,?_,?_⟩
            ·have h9:=Hst2.out.take (a:=p+j) (gg:=gg) (cap2:=cap2) hrb hg htb hne hgt (by rw [HZ.out];exact Hown6.out) Hg6.out
             rw [HZ.out] at h9
             exact h9
            ·rw [Hl2.out,List.append_assoc,List.range'_concat,Nat.one_mul]
            ·rw [show q-(j+1)=qj by omega,show p+(j+1)=p+j+1 by omega]
             exact Hmk2.out
           case measure=>simp [intOf];omega
         ·obtain rfl:j=q:=by omega
          have Hgo2:Hid (rsLoop want (m-(i+1)) b2 T2 l2=R):=Lib.hid (by
           have h9:=Hmk.out
           rw [Nat.sub_self] at h9
           have h10:Ext.mark 0 (p+j) T2=some T2:=rfl
           rw [h10] at h9
           rw [Hgo.out,← h9,show m-(i+1)=mi by omega,Hl2.out]
           rfl)
          clear hst2
          go_wp2_with fail
          go_roundw
          case rel=>exact⟨i+1,b2,T2,l2,by omega,by go_num,Hst2.out,by omega,hb2l,Hgo2.out⟩
          case measure=>simp [intOf];omega
       ·have Hr:=Lib.hid (HNo.out hc)
        clear HNo Hloop Hp Hq HRs HR
        obtain⟨L,hL⟩:∃L,L=l.length:=⟨_,rfl⟩
        rw [← hL] at hlw hso hc ⊢
        clear hL
        by_cases c1:1≤q
        ·by_cases c2:2≤p
         ·by_cases c3:p+q≤n
          ·have c4:¬ L+q≤want:=fun h=>hc ⟨c1,c2,c3,h⟩
           clear hc
           go_wp2_with (first
         | (go_at_call 64;refine HA.out.mono ?_;clear HA;rintro e w3 ⟨rfl,hr3,hf3⟩;have H3:=Lib.hid (Hst.out.number hrb hne hr3 hf3);have HB3:=Lib.hid (HB.out w3 hr3);clear hr3 hf3 HB)
         | (go_at_call 64;refine HB3.out.mono ?_;clear HB3;rintro e w4 ⟨rfl,hr4,hf4⟩;have hc4:=Hc2.out w4 hr4;have H4:=Lib.hid (H3.out.number hrb hne hr4 hf4);clear hr4 hf4)
         | (go_at_call 63;refine (need2_no _ (by first | rfl | (simp;omega))).mono ?_;rintro e w5 ⟨hw5,rfl⟩;unfold Wrong at hw5;subst hw5))
           exact⟨rfl,.inr ⟨Hr.out,rfl,H4.out.fr⟩⟩
          ·clear hc
           go_wp2_with (first
         | (go_at_call 64;refine HA.out.mono ?_;clear HA;rintro e w3 ⟨rfl,hr3,hf3⟩;have H3:=Lib.hid (Hst.out.number hrb hne hr3 hf3);have HB3:=Lib.hid (HB.out w3 hr3);clear hr3 hf3 HB)
         | (go_at_call 64;refine HB3.out.mono ?_;clear HB3;rintro e w4 ⟨rfl,hr4,hf4⟩;have hc4:=Hc2.out w4 hr4;have H4:=Lib.hid (H3.out.number hrb hne hr4 hf4);clear hr4 hf4)
         | (go_at_call 63;refine (need2_no _ (by first | rfl | (simp;omega))).mono ?_;rintro e w5 ⟨hw5,rfl⟩;unfold Wrong at hw5;subst hw5))
           exact⟨rfl,.inr ⟨Hr.out,rfl,H4.out.fr⟩⟩
         ·clear hc
          go_wp2_with (first
         | (go_at_call 64;refine HA.out.mono ?_;clear HA;rintro e w3 ⟨rfl,hr3,hf3⟩;have H3:=Lib.hid (Hst.out.number hrb hne hr3 hf3);have HB3:=Lib.hid (HB.out w3 hr3);clear hr3 hf3 HB)
         | (go_at_call 64;refine HB3.out.mono ?_;clear HB3;rintro e w4 ⟨rfl,hr4,hf4⟩;have hc4:=Hc2.out w4 hr4;have H4:=Lib.hid (H3.out.number hrb hne hr4 hf4);clear hr4 hf4)
         | (go_at_call 63;refine (need2_no _ (by first | rfl | (simp;omega))).mono ?_;rintro e w5 ⟨hw5,rfl⟩;unfold Wrong at hw5;subst hw5))
          exact⟨rfl,.inr ⟨Hr.out,rfl,H4.out.fr⟩⟩
        ·clear hc
         go_wp2_with (first
         | (go_at_call 64;refine HA.out.mono ?_;clear HA;rintro e w3 ⟨rfl,hr3,hf3⟩;have H3:=Lib.hid (Hst.out.number hrb hne hr3 hf3);have HB3:=Lib.hid (HB.out w3 hr3);clear hr3 hf3 HB)
         | (go_at_call 64;refine HB3.out.mono ?_;clear HB3;rintro e w4 ⟨rfl,hr4,hf4⟩;have hc4:=Hc2.out w4 hr4;have H4:=Lib.hid (H3.out.number hrb hne hr4 hf4);clear hr4 hf4)
         | (go_at_call 63;refine (need2_no _ (by first | rfl | (simp;omega))).mono ?_;rintro e w5 ⟨hw5,rfl⟩;unfold Wrong at hw5;subst hw5))
         exact⟨rfl,.inr ⟨Hr.out,rfl,H4.out.fr⟩⟩
    ·obtain rfl:i=m:=by omega
     have HRe:Hid (R=some (l,b,T')):=Lib.hid (by
      have h9:=Hloop.out
      rw [Nat.sub_self] at h9
      exact h9.symm)
     clear hst Hloop
     obtain⟨L,hL⟩:∃L,L=l.length:=⟨_,rfl⟩
     have HL:=Lib.hid hL
     rw [← hL] at hlw hso ⊢
     clear hL
     by_cases hLw:L=want
     ·subst hLw
      have Hr:Hid (rsecs L rest T=some (l,b,T')):=Lib.hid (by
       rw [HRs.out,HRe.out]
       show (if l.length=L then some (l,b,T') else none)=_
       rw [if_pos HL.out.symm])
      go_wp2_with (go_at_call 63;refine (need2_ok _ (by first | rfl | simp)).mono ?_;rintro e w5 ⟨rfl,rfl⟩)
      go_ret
      refine .inl ⟨_,_,Hr.out,rfl,?_⟩
      have h9:=Hst.out
      rw [← HL.out] at h9
      exact h9
     ·have Hr:Hid (rsecs want rest T=none):=Lib.hid (by
       rw [HRs.out,HRe.out]
       show (if l.length=want then some (l,b,T') else none)=_
       rw [if_neg (by rw [← HL.out];exact hLw)])
      go_wp2_with (go_at_call 63;refine (need2_no _ (by first | rfl | (simp;omega))).mono ?_;rintro e w5 ⟨hw5,rfl⟩;unfold Wrong at hw5;subst hw5)
      exact⟨rfl,.inr ⟨Hr.out,rfl,Hst.out.fr⟩⟩
  ·have Hr:Hid (rsecs want rest T=none):=Lib.hid (rsecs_none Hn1.out h48)
   go_enter Tryz.func65,Tryz.ntmps65
   go_wp2_with (first
    | (go_at_call 64;refine HN.out.mono ?_;clear HN;rintro e w1 ⟨rfl,hr1,hf1⟩;have Hf1:=Lib.hid hf1;clear hr1 hf1)
    | (go_at_call 63;refine (need2_no _ (by first | rfl | (simp;omega))).mono ?_;rintro e w2 ⟨hw2,rfl⟩;unfold Wrong at hw2;subst hw2))
   exact⟨rfl,.inr ⟨Hr.out,rfl,Hf1.out.mono (Nat.le_refl _) (fun _ h=>h) (by simp)⟩⟩
end Go.Proofs.YtndjmffnlcilbaaGreatDoor
