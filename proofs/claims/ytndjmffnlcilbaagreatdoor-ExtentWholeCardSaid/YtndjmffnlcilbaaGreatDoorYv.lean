/- Contracts over this program. Their conditions: the slices read as the lists that are named, and lie within the sizes that are named. -/
import Derived.Test.YtndjmffnlcilbaaGreatDoorYu
import Derived.Test.YtndjmffnlcilbaaGreatDoorYi
set_option linter.unusedSimpArgs false
set_option linter.unusedVariables false
set_option linter.deprecated false
set_option linter.unnecessarySimpa false
namespace Go.Proofs.YtndjmffnlcilbaaGreatDoor
open Go Go.RowKit Go.Ix Go.Ext Go.Maps
section
variable {isN:Txt→Bool}{c:Nat}{last:Txt}{b:List Nat}{T:List Bool}{F:Fs}
theorem pf_none (h:pfile isN last b T=none):pfiles isN (c+1) last b T F=none:=by unfold pfiles;rw [h];rfl
theorem pf_some {p:(Txt×Fi)×List Nat×List Bool}(h:pfile isN last b T=some p):pfiles isN (c+1) last b T F=pfiles isN c p.1.1 p.2.1 p.2.2 (p.1 :: F):=by
 conv=>lhs;unfold pfiles
 rw [h]
 rfl
theorem pdir_eq {m:Nat}{b1:List Nat}(h:num 2 b=some (m,b1)) (hm:m≤256):pdir isN b T=(pfiles isN m [] b1 T []).bind fun r=>if r.2=[] then some r.1 else none:=by
 unfold pdir
 rw [h]
 simp only [Option.bind_some]
 rw [if_pos hm]
theorem pdir_none {m:Nat}{b1:List Nat}(h:num 2 b=some (m,b1)) (hm:¬ m≤256):pdir isN b T=none:=by
 unfold pdir
 rw [h]
 simp only [Option.bind_some]
 rw [if_neg hm]
end
theorem less_iff:∀(x y:Txt),Op.bytesLess x y=true↔x<y
 | x,[]=>by simp [Op.bytesLess]
 | [],y :: ys=>by simp [Op.bytesLess]
 | a :: x,b :: y=>by
  simp only [Op.bytesLess,Bool.or_eq_true,decide_eq_true_eq,Bool.and_eq_true,beq_iff_eq,less_iff x y,List.cons_lt_cons_iff]
theorem need_big (n:Nat) (hn:n≤1000000000000) (w:World):Calls Tryz.prog 40 #[.int .i64 n] w fun e w'=>e=.returned (.int .i64 (need n:Nat))∧w=w':=by
 go_enter Tryz.func40,Tryz.ntmps40
 go_wp2_with fail
 go_ret
 refine⟨ret_int ?_,rfl⟩
 unfold need
 omega
structure FS (W wr:World) (B rb g tb tc n:Nat) (b:List Nat) (T:List Bool) (mb:Nat) (F:Fs):Prop where
 rd:RdAt wr rb g b (.slice (some ⟨tb,0,none⟩) n tc)
 mrk:Marks wr B tb n tc T
 map:SMap wr W.heap.size tb mb F.length F
 mbW:W.heap.size≤mb
 fr:Fr 0 [] [rb,tb] W wr
def RFilesEnd (W:World) (B rb tb:Nat) (b:List Nat) (T:List Bool) (e:Ending) (w':World):Prop :=
 (∃F mb,pdir isNm b T=some F∧e=.returned (.map (some mb))∧W.heap.size≤mb∧SMap w' W.heap.size tb mb F.length F∧Fr 0 [] [rb,tb] W w')∨(pdir isNm b T=none∧Wrong e∧Fr 0 [] [rb,tb] W w')
section
variable {W wr w':World}{B rb g tb tc n mb:Nat}{b b':List Nat}{T T':List Bool}{F:Fs}
theorem FS.go {M:List Nat}(h:FS W wr B rb g tb tc n b T mb F) (hrb:rb<W.heap.size) (htb:tb<W.heap.size) (hf:Fr 0 [] M wr w') (hM:∀x∈M,x=rb∨x=tb∨(W.heap.size≤x∧∃cs ty fr,wr.heap[x]?=some (.cells cs ty fr)∧ty≠3))
  (hrd:RdAt w' rb g b' (.slice (some ⟨tb,0,none⟩) n tc)) (hmrk:Marks w' B tb n tc T'):FS W w' B rb g tb tc n b' T' mb F:=by
 have hmW:=h.mbW
 obtain⟨es,cm,hk⟩:=h.map.kind
 refine⟨hrd,hmrk,h.map.fr hf (by simp) (fun hm=>?_) (fun x hx hne cs fr e=>?_),h.mbW,h.fr.below.trans hf.below,fun x o hx hm _=>?_⟩
 ·rcases hM _ hm with e | e|⟨_,cs,ty,fr,e,_⟩
  ·omega
  ·omega
  ·rw [hk] at e
   cases e
 ·rcases hM _ hx with rfl | e1|⟨_,cs',ty,fr',e1,h1⟩
  ·obtain⟨off,cap,q1,_⟩:=h.rd
   rw [q1] at e
   simp at e
  ·exact hne e1
  ·rw [e1] at e
   simp only [Option.some.injEq,Obj.cells.injEq] at e
   exact h1 e.2.1
 ·have hlt:=heap_lt hx
  refine hf.sp x o (h.fr.sp x o hx hm (fun _ _ _ _ k=>by cases k)) (fun hxm=>?_) (fun _ _ _ _ k=>by cases k)
  simp only [List.mem_cons,List.not_mem_nil,or_false,not_or] at hm
  rcases hM _ hxm with e | e|⟨e,_⟩
  ·exact hm.1 e
  ·exact hm.2 e
  ·omega
theorem FS.keepM (h:FS W wr B rb g tb tc n b T mb F) (hrb:rb<W.heap.size) (htb:tb<W.heap.size) (hne:rb≠tb) (hf:Fr 0 [] [rb] wr w') (hrd:RdAt w' rb g b' (.slice (some ⟨tb,0,none⟩) n tc)):FS W w' B rb g tb tc n b' T mb F :=
 h.go hrb htb hf (fun x hx=>.inl (by simpa using hx)) hrd (h.mrk.keep (by
  obtain⟨o,ho⟩:∃o,wr.heap[tb]?=some o:=⟨_,Array.getElem?_eq_getElem h.mrk.lt⟩
  rw [ho]
  exact hf.sp tb o ho (by simpa using Ne.symm hne) (fun _ _ _ _ k=>by cases k)))
theorem FS.olds (h:FS W wr B rb g tb tc n b T mb F) (hrb:rb<W.heap.size) (htb:tb<W.heap.size) (hg:g<W.heap.size) (hb:Below wr.heap.size wr w'):FS W w' B rb g tb tc n b T mb F :=
 h.go hrb htb (M:=[]) (Fr.of_below0 hb) (fun x hx=>by cases hx) (h.rd.olds (by have:=h.fr.size;omega) (Olds.of_below hb)) (h.mrk.keep (hb.block _ h.mrk.lt))
theorem FS.cell (h:FS W wr B rb g tb tc n b T mb F) (hrb:rb<W.heap.size) (htb:tb<W.heap.size) (hg:g<W.heap.size) {fb i:Nat}{cs:Array Value}{fr:Nat×Nat}(hc:wr.heap[fb]?=some (.cells cs 91 fr)) (hfb:W.heap.size≤fb) (v:Value):FS W (wr.setCell ⟨fb,i,none⟩ v) B rb g tb tc n b T mb F:=by
 have hk:∀x,x≠fb→(wr.setCell ⟨fb,i,none⟩ v).heap[x]?=wr.heap[x]?:=fun x hx=>Below.heap_setCell _ _ _ _ hx
 refine h.go hrb htb (M:=[fb]) (On.cell wr fb i v).fr0 (fun x hx=>.inr (.inr ?_)) (h.rd.keep (hk _ (by omega)) (hk _ (by omega))) (h.mrk.keep (hk _ (by omega)))
 simp only [List.mem_singleton] at hx
 subst hx
 exact⟨hfb,_,_,_,hc,by decide⟩
theorem FS.put (h:FS W wr B rb g tb tc n b T mb F) (hrb:rb<W.heap.size) (htb:tb<W.heap.size) (hg:g<W.heap.size) {p:Txt×Fi}(hm:SMap w' W.heap.size tb mb (F.length+1) (p :: F)) (hgr:wr.grownBy w' (some mb)):FS W w' B rb g tb tc n b T mb (p :: F):=by
 have hmW:=h.mbW
 have hsz:=h.fr.size
 have hk:∀x,x<wr.heap.size→x≠mb→w'.heap[x]?=wr.heap[x]?:=fun x hx hne=>hgr.block x hx (fun e=>hne (by cases e;rfl))
 refine⟨h.rd.keep (hk _ (by omega) (by omega)) (hk _ (by omega) (by omega)),h.mrk.keep (hk _ (by omega) (by omega)),hm,hmW,h.fr.below.trans ((Below.refl _ _).grown hgr (Nat.zero_le _) (fun _ _=>Nat.zero_le _)),fun x o hx hm _=>?_⟩
 have hlt:=heap_lt hx
 rw [hk x (by omega) (by omega)]
 exact h.fr.sp x o hx hm (fun _ _ _ _ k=>by cases k)
end
theorem files_step {W A w8 Y:World}{B rb g tb tc n mb fb z:Nat}{u:Int}{lg:Bool}{b5 b6:List Nat}{T T' T6:List Bool}{F:Fs}{nm last:Txt}{sl:List Nat}{so:Option Addr}{sc:Nat}{bm:List Nat}(hrb:rb<W.heap.size) (htb:tb<W.heap.size) (hg:g<W.heap.size) (hfb:W.heap.size≤fb) (hF:F.length≤1000)
  (hFA:FS W A B rb g tb tc n b5 T' mb F) (hres:POk isNm (nm,⟨lg,z,u,sl⟩)∧last<nm∧Secs T' sl∧T6=setAll T' sl∧∃m,b6=bm.drop m) (hPF:Parsed isNm T F) (hlast:∀q∈F,q.1=last∨q.1<last) (hTF:T'=setAll T (F.flatMap (·.2.secs)))
  (h8:RS A w8 B rb g tb tc n b6 T6 sl (.slice so sl.length sc)) (k8:w8.heap[fb]?=some (.cells #[.bool lg,.int .i64 (z:Nat),.int .u32 u,.slice none 0 0] 91 (0,0))) (hY:Y=w8.setCell ⟨fb,3,none⟩ (.slice so sl.length sc)) :
  FS W Y B rb g tb tc n b6 T6 mb F∧Y.cell? ⟨fb,0,none⟩=some (.bool lg)∧Y.cell? ⟨fb,1,none⟩=some (.int .i64 (z:Nat))∧Y.cell? ⟨fb,2,none⟩=some (.int .u32 u)∧Y.cell? ⟨fb,3,none⟩=some (.slice so sl.length sc)∧
   ∃w11,(Instr.mapUpdate 65 (.map (some mb)) (encStr nm) (fval ⟨lg,z,u,sl⟩ (.slice so sl.length sc))).run Tryz.prog Y=.ok () w11∧FS W w11 B rb g tb tc n b6 T6 mb ((nm,⟨lg,z,u,sl⟩) :: F):=by
 obtain⟨p1,p2,p3,p4,p5⟩:=hres
 obtain⟨r1,r2,r3,r4⟩:=hPF.cons p1 p2 hlast (hTF ▸ p3)
 have hsA:=hFA.fr.size
 have hG8:FS W w8 B rb g tb tc n b6 T6 mb F:=hFA.go hrb htb h8.fr (fun x hx=>by
  simp only [List.mem_cons,List.not_mem_nil,or_false] at hx
  rcases hx with h | h
  ·exact .inl h
  ·exact .inr (.inl h)) h8.rd h8.mrk
 have hG9:FS W Y B rb g tb tc n b6 T6 mb F:=by rw [hY];exact hG8.cell hrb htb hg k8 hfb _
 have hYc:Y.heap[fb]?=some (.cells #[.bool lg,.int .i64 (z:Nat),.int .u32 u,.slice so sl.length sc] 91 (0,0)):=by
  rw [hY]
  simp [World.setCell,Array.getElem?_modify,k8]
 have hrow:Y.ownsRow W.heap.size 3 1 (.slice so sl.length sc) sl.length (nats sl):=by
  refine ownsRow_mono (ownsRow_blocks h8.row fun k hk=>?_) hsA
  rw [hY]
  refine Below.heap_setCell _ _ _ _ (fun e=>?_)
  obtain⟨cur,hc⟩:=own_kind h8.row hk
  have e':k=fb:=e
  rw [e',k8] at hc
  simp at hc
 obtain⟨w11,h1,h2,h3⟩:=SMap.store (s:=nm) (f:=⟨lg,z,u,sl⟩) (v:=.slice so sl.length sc) hG9.map (by have:=p1.len;simp only at this;omega) (by omega) r2 hrow (fun e=>by
  have:=(ownsRow_block hrow e).1
  omega)
 exact⟨hG9,by rw [cell_of_heap hYc];rfl,by rw [cell_of_heap hYc];rfl,by rw [cell_of_heap hYc];rfl,by rw [cell_of_heap hYc];rfl,w11,h1,hG9.put hrb htb hg h2 h3⟩
set_option maxRecDepth 20000 in
set_option maxHeartbeats 8000000 in
theorem rd_files {W:World}{B rb g tb tc n:Nat}{rest:List Nat}{T:List Bool}(h:RdAt W rb g rest (.slice (some ⟨tb,0,none⟩) n tc)) (hT:Marks W B tb n tc T) (hg:g<W.heap.size) (hgt:g≠tb) (hn:n≤1000000) (hl:rest.length≤1000000) :
  Calls Tryz.prog 67 #[.pointer (some ⟨rb,0,none⟩)] W (RFilesEnd W B rb tb rest T):=by
 have hrb:=h.lt
 have htb:=hT.lt
 have hne:rb≠tb:=fun e=>by
  obtain⟨off,cap,q1,_⟩:=h
  obtain⟨cur,hc⟩:=own_kind hT.2 (g:=tb) rfl
  rw [← e,q1] at hc
  simp at hc
 have hmm:=@run_makeMap Tryz.prog
 obtain⟨X,hX⟩:∃X:World,X=W.alloc (.map #[] 0):=⟨_,rfl⟩
 have hXb:Below W.heap.size W X:=by rw [hX];exact (Below.refl _ _).alloc (Nat.le_refl _) _
 have H0:Hid (FS W X B rb g tb tc n rest T W.heap.size []):=Lib.hid ⟨h.olds hg (Olds.of_below hXb),hT.keep (hXb.block _ htb),by rw [hX];exact SMap.made W _ _,Nat.le_refl _,Fr.of_below0 hXb⟩
 have HX:=Lib.hid hX
 clear hX hXb hT
 cases hn1:num 2 rest with
 | none =>
  have HN:=Lib.hid (rd_number_no H0.out.rd hn1)
  have Hr:Hid (pdir isNm rest T=none):=Lib.hid (by unfold pdir;rw [hn1];rfl)
  clear h hn1
  go_enter Tryz.func67,Tryz.ntmps67
  go_upto_region 2 with fail
  rw [← HX.out]
  go_wp2_with (go_at_call 64;refine HN.out.mono ?_;rintro e w1 ⟨hw1,hf1⟩;unfold Wrong at hw1;subst hw1;have Hf1:=Lib.hid hf1;clear hf1)
  exact⟨rfl,.inr ⟨Hr.out,rfl,H0.out.fr.trans (Hf1.out.mono (Nat.le_refl _) (fun _ h=>h) (by simp))⟩⟩
 | some pc =>
  obtain⟨m,b0⟩:=pc
  obtain⟨hm,hb0,_⟩:=num_lt hn1 h.byte
  simp only at hm hb0
  have HN:=Lib.hid (rd_number H0.out.rd hn1 (by decide) hl)
  have Hn1:=Lib.hid hn1
  have hb0l:b0.length≤1000000:=by rw [hb0,List.length_drop];omega
  clear h hn1 hb0
  by_cases h256:m≤256
  ·obtain⟨R,hR⟩:∃R,R=pfiles isNm m [] b0 T []:=⟨_,rfl⟩
   have HR:=Lib.hid hR
   have HRs:Hid (pdir isNm rest T=R.bind fun r=>if r.2=[] then some r.1 else none):=Lib.hid (by rw [hR];exact pdir_eq Hn1.out h256)
   clear hR
   go_enter Tryz.func67,Tryz.ntmps67
   go_upto_region 2 with fail
   rw [← HX.out]
   go_wp2_with (first
    | (go_at_call 64;refine HN.out.mono ?_;clear HN;rintro e w1 ⟨rfl,hr1,hf1⟩;have H1:=Lib.hid (H0.out.keepM hrb htb hne hf1 hr1);clear hr1 hf1)
    | (go_at_call 63;refine (need2_ok _ (by first | rfl | (simp;omega))).mono ?_;rintro e w2 ⟨rfl,rfl⟩))
   go_loopw [5,17] (fun lv iv wr=>∃(i:Nat) (b:List Nat) (T':List Bool) (F:Fs) (last:Txt),i≤m∧iv=.int .i64 i∧lv=encStr last∧FS W wr B rb g tb tc n b T' W.heap.size F∧b.length≤1000000∧F.length=i∧Parsed isNm T F∧T'=setAll T (F.flatMap (·.2.secs))∧(∀q∈F,q.1=last∨q.1<last)∧pfiles isNm (m-i) last b T' F=R) (fun _ iv _=>m-(intOf iv).toNat)
   case atStart=>exact⟨0,b0,T,[],[],Nat.zero_le _,rfl,rfl,H1.out,hb0l,rfl,Parsed.nil _ _,rfl,(fun q hq=>by cases hq),HR.out.symm⟩
   case round =>
    obtain⟨i,b,T',F,last,hi,rfl,rfl,hst,hbl,hFi,hPF,hTF,hlast,hloop⟩:=hrel
    have Hst:=Lib.hid hst
    have Hloop:=Lib.hid hloop
    have HPF:=Lib.hid hPF
    have HTF:=Lib.hid hTF
    have Hlast:=Lib.hid hlast
    have HFi:=Lib.hid hFi
    have h8b:=hst.rd.byte
    clear hloop hPF hTF hlast hFi
    by_cases hlt:i<m
    ·obtain⟨mi,hmi⟩:∃mi,m-i=mi+1:=⟨m-i-1,by omega⟩
     rw [hmi] at Hloop
     cases hk:num 1 b with
     | none =>
      have HA1:=Lib.hid (rd_number_no hst.rd hk)
      have Hk:=Lib.hid hk
      have Hr:Hid (pdir isNm rest T=none):=Lib.hid (by
       have h9:pfile isNm last b T'=none:=by
        unfold pfile
        rw [Hk.out]
        rfl
       rw [HRs.out,← Hloop.out,pf_none h9]
       rfl)
      clear hst hk
      go_wp2_with (go_at_call 64;refine HA1.out.mono ?_;clear HA1;rintro e w1 ⟨hw1,hf1⟩;unfold Wrong at hw1;subst hw1;have Hf1:=Lib.hid hf1;clear hf1)
      exact⟨rfl,.inr ⟨Hr.out,rfl,Hst.out.fr.trans (Hf1.out.mono (Nat.le_refl _) (fun _ h=>h) (by simp))⟩⟩
     | some pk =>
      obtain⟨k,b1⟩:=pk
      obtain⟨hk6,hb1,_⟩:=num_lt hk h8b
      simp only at hk6 hb1
      have hk256:k<256:=by simpa using hk6
      have HA1:=Lib.hid (rd_number hst.rd hk (by decide) hbl)
      have hb1l:b1.length≤1000000:=by rw [hb1,List.length_drop];omega
      have h8b1:∀x∈b1,x<256:=fun x hx=>h8b x (List.mem_of_mem_drop (hb1 ▸ hx))
      have Hk:=Lib.hid hk
      clear hst hk hb1 hk6 h8b
      by_cases hkl:k≤b1.length
      ·have Htx:Hid (tx k b1=some (b1.take k,b1.drop k)):=Lib.hid (by unfold tx;rw [if_pos hkl])
       have HT2:Hid (∀w1:World,RdAt w1 rb g b1 (.slice (some ⟨tb,0,none⟩) n tc)→Calls Tryz.prog 79 #[.pointer (some ⟨rb,0,none⟩),.int .i64 (k:Nat)] w1 fun e w'=>e=.returned (encStr (toTxt (b1.take k)))∧RdAt w' rb g (b1.drop k) (.slice (some ⟨tb,0,none⟩) n tc)∧On rb w1 w'):=Lib.hid (fun w1 h1=>rd_text k b1 h1 hkl hb1l)
       have h8b2:∀x∈b1.drop k,x<256:=fun x hx=>h8b1 x (List.mem_of_mem_drop hx)
       have hb2l:(b1.drop k).length≤1000000:=by rw [List.length_drop];omega
       have hnl:(toTxt (b1.take k)).length≤255:=by unfold toTxt;rw [List.length_map,List.length_take];omega
       generalize hb2:b1.drop k=b2 at *
       generalize hnm:toTxt (b1.take k)=nm at *
       have Hb2:=Lib.hid hb2
       have Hnm:=Lib.hid hnm
       clear hb2 hnm h8b1
       have HT3:Hid (∀w2:World,Calls Tryz.prog 71 #[encStr nm] w2 fun e w'=>e=.returned (.bool (isNm nm))∧Below w2.heap.size w2 w'):=Lib.hid (fun w2=>isName_any nm w2 (by omega))
       have Htx2:Hid (tx k b1=some (b1.take k,b2)):=Htx
       cases hnn:isNm nm with
       | false =>
        have Hr:Hid (pdir isNm rest T=none):=Lib.hid (by
         have h9:pfile isNm last b T'=none:=by
          unfold pfile
          rw [Hk.out]
          simp only [Option.bind_some]
          rw [Htx2.out]
          simp only [Option.bind_some]
          rw [if_neg (by rw [Hnm.out,hnn];simp)]
         rw [HRs.out,← Hloop.out,pf_none h9]
         rfl)
        rw [hnn] at HT3
        go_wp2_with (first | (go_at_call 64;refine HA1.out.mono ?_;clear HA1;rintro e w1 ⟨rfl,hr1,hf1⟩;have G1:=Lib.hid (Hst.out.keepM hrb htb hne hf1 hr1);have HA2:=Lib.hid (HT2.out w1 hr1);clear hr1 hf1 HT2) | (go_at_call 79;refine HA2.out.mono ?_;clear HA2;rintro e w2 ⟨rfl,hr2,hf2⟩;have G2:=Lib.hid (G1.out.keepM hrb htb hne hf2.fr0 hr2);have HA3:=Lib.hid (HT3.out w2);clear hr2 hf2 HT3) | (go_at_call 71;refine HA3.out.mono ?_;clear HA3;rintro e w3 ⟨rfl,hb3⟩;have G3:=Lib.hid (G2.out.olds hrb htb hg hb3);clear hb3) | (go_at_call 63;refine (need2_no _ (by first | rfl | (simp;done) | (simp;omega))).mono ?_;rintro e w90 ⟨hw90,rfl⟩;unfold Wrong at hw90;subst hw90))
        exact⟨rfl,.inr ⟨Hr.out,rfl,G3.out.fr⟩⟩
       | true =>
        have Hnn:=Lib.hid hnn
        rw [hnn] at HT3
        clear hnn
        rcases Line.tri (α:=Txt) nm last with hlt2 | heq | hlt2
        ·have hless:Op.bytesLess nm last=true:=(less_iff _ _).2 hlt2
         have Hr:Hid (pdir isNm rest T=none):=Lib.hid (by
          have h9:pfile isNm last b T'=none:=by
           unfold pfile
           rw [Hk.out]
           simp only [Option.bind_some]
           rw [Htx2.out]
           simp only [Option.bind_some]
           rw [Hnm.out,if_neg (fun hx=>Line.irrefl (α:=Txt) _ (Line.trans (α:=Txt) _ _ _ hlt2 hx.2))]
          rw [HRs.out,← Hloop.out,pf_none h9]
          rfl)
         go_wp2_with (first | (go_at_call 64;refine HA1.out.mono ?_;clear HA1;rintro e w1 ⟨rfl,hr1,hf1⟩;have G1:=Lib.hid (Hst.out.keepM hrb htb hne hf1 hr1);have HA2:=Lib.hid (HT2.out w1 hr1);clear hr1 hf1 HT2) | (go_at_call 79;refine HA2.out.mono ?_;clear HA2;rintro e w2 ⟨rfl,hr2,hf2⟩;have G2:=Lib.hid (G1.out.keepM hrb htb hne hf2.fr0 hr2);have HA3:=Lib.hid (HT3.out w2);clear hr2 hf2 HT3) | (go_at_call 71;refine HA3.out.mono ?_;clear HA3;rintro e w3 ⟨rfl,hb3⟩;have G3:=Lib.hid (G2.out.olds hrb htb hg hb3);clear hb3) | (go_at_call 63;refine (need2_no _ (by first | rfl | (simp;done) | (simp;omega))).mono ?_;rintro e w90 ⟨hw90,rfl⟩;unfold Wrong at hw90;subst hw90))
         exact⟨rfl,.inr ⟨Hr.out,rfl,G3.out.fr⟩⟩
        ·subst heq
         have Hr:Hid (pdir isNm rest T=none):=Lib.hid (by
          have h9:pfile isNm nm b T'=none:=by
           unfold pfile
           rw [Hk.out]
           simp only [Option.bind_some]
           rw [Htx2.out]
           simp only [Option.bind_some]
           rw [Hnm.out,if_neg (fun hx=>Line.irrefl (α:=Txt) _ hx.2)]
          rw [HRs.out,← Hloop.out,pf_none h9]
          rfl)
         go_wp2_with (first | (go_at_call 64;refine HA1.out.mono ?_;clear HA1;rintro e w1 ⟨rfl,hr1,hf1⟩;have G1:=Lib.hid (Hst.out.keepM hrb htb hne hf1 hr1);have HA2:=Lib.hid (HT2.out w1 hr1);clear hr1 hf1 HT2) | (go_at_call 79;refine HA2.out.mono ?_;clear HA2;rintro e w2 ⟨rfl,hr2,hf2⟩;have G2:=Lib.hid (G1.out.keepM hrb htb hne hf2.fr0 hr2);have HA3:=Lib.hid (HT3.out w2);clear hr2 hf2 HT3) | (go_at_call 71;refine HA3.out.mono ?_;clear HA3;rintro e w3 ⟨rfl,hb3⟩;have G3:=Lib.hid (G2.out.olds hrb htb hg hb3);clear hb3) | (go_at_call 63;refine (need2_no _ (by first | rfl | (simp;done) | (simp;omega))).mono ?_;rintro e w90 ⟨hw90,rfl⟩;unfold Wrong at hw90;subst hw90))
         exact⟨rfl,.inr ⟨Hr.out,rfl,G3.out.fr⟩⟩
        ·have hless:Op.bytesLess nm last=false:=by
          rw [← Bool.not_eq_true,less_iff]
          exact fun hx=>Line.irrefl (α:=Txt) _ (Line.trans (α:=Txt) _ _ _ hlt2 hx)
         have heq:(nm == last)=false:=by
          simp only [beq_eq_false_iff_ne]
          exact fun hx=>Line.irrefl (α:=Txt) last (by rw [hx] at hlt2;exact hlt2)
         have Hlt2:=Lib.hid hlt2
         clear hlt2
         have Hif:Hid (isNm nm=true∧last<nm):=Lib.hid ⟨Hnn.out,Hlt2.out⟩
         cases hq4:num 1 b2 with
         | none =>
          have HT4:Hid (∀w3:World,RdAt w3 rb g b2 (.slice (some ⟨tb,0,none⟩) n tc)→Calls Tryz.prog 64 #[.pointer (some ⟨rb,0,none⟩),.int .i64 (1:Nat)] w3 fun e w'=>Wrong e∧Fr 0 [] [rb] w3 w'):=Lib.hid (fun w3 h=>rd_number_no h hq4)
          have Hr:Hid (pdir isNm rest T=none):=Lib.hid (by
           have h9:pfile isNm last b T'=none:=by
            unfold pfile
            rw [Hk.out]
            simp only [Option.bind_some]
            rw [Htx2.out]
            simp only [Option.bind_some]
            rw [Hnm.out,if_pos Hif.out]
            rw [hq4]
            rfl
           rw [HRs.out,← Hloop.out,pf_none h9]
           rfl)
          clear hq4
          go_wp2_with (first | (go_at_call 64;refine HA1.out.mono ?_;clear HA1;rintro e w1 ⟨rfl,hr1,hf1⟩;have G1:=Lib.hid (Hst.out.keepM hrb htb hne hf1 hr1);have HA2:=Lib.hid (HT2.out w1 hr1);clear hr1 hf1 HT2) | (go_at_call 79;refine HA2.out.mono ?_;clear HA2;rintro e w2 ⟨rfl,hr2,hf2⟩;have G2:=Lib.hid (G1.out.keepM hrb htb hne hf2.fr0 hr2);have HA3:=Lib.hid (HT3.out w2);clear hr2 hf2 HT3) | (go_at_call 71;refine HA3.out.mono ?_;clear HA3;rintro e w3 ⟨rfl,hb3⟩;have G3:=Lib.hid (G2.out.olds hrb htb hg hb3);have HA4:=Lib.hid (HT4.out w3 G3.out.rd);clear hb3 HT4) | (go_at_call 63;refine (need2_ok _ (by first | rfl | (simp;done) | (simp;omega))).mono ?_;rintro e w90 ⟨rfl,rfl⟩) | (go_at_call 64;refine HA4.out.mono ?_;clear HA4;rintro e w4 ⟨hw4,hf4⟩;unfold Wrong at hw4;subst hw4;have Hf4:=Lib.hid hf4;clear hf4) | (go_at_call 63;refine (need2_ok _ (by first | rfl | (simp;done) | (simp;omega))).mono ?_;rintro e w94 ⟨rfl,rfl⟩))
          exact⟨rfl,.inr ⟨Hr.out,rfl,G3.out.fr.trans (Hf4.out.mono (Nat.le_refl _) (fun _ h=>h) (by simp))⟩⟩
         | some pq4 =>
          obtain⟨kd,b3⟩:=pq4
          obtain⟨h6_4,hbx4,_⟩:=num_lt hq4 h8b2
          simp only at h6_4 hbx4
          have hv4:kd<256:=by simpa using h6_4
          have hb3l:b3.length≤1000000:=by rw [hbx4,List.length_drop];omega
          have h8b3:∀x∈b3,x<256:=fun x hx=>h8b2 x (List.mem_of_mem_drop (hbx4 ▸ hx))
          have Hq4:=Lib.hid hq4
          have HT4:Hid (∀w3:World,RdAt w3 rb g b2 (.slice (some ⟨tb,0,none⟩) n tc)→Calls Tryz.prog 64 #[.pointer (some ⟨rb,0,none⟩),.int .i64 (1:Nat)] w3 fun e w'=>e=.returned (.int .i64 (kd:Nat))∧RdAt w' rb g b3 (.slice (some ⟨tb,0,none⟩) n tc)∧Fr 0 [] [rb] w3 w'):=Lib.hid (fun w3 h=>rd_number h Hq4.out (by decide) hb2l)
          clear hq4 h6_4 hbx4 h8b2
          cases hq5:num 4 b3 with
          | none =>
           have HT5:Hid (∀w4:World,RdAt w4 rb g b3 (.slice (some ⟨tb,0,none⟩) n tc)→Calls Tryz.prog 64 #[.pointer (some ⟨rb,0,none⟩),.int .i64 (4:Nat)] w4 fun e w'=>Wrong e∧Fr 0 [] [rb] w4 w'):=Lib.hid (fun w4 h=>rd_number_no h hq5)
           have Hr:Hid (pdir isNm rest T=none):=Lib.hid (by
            have h9:pfile isNm last b T'=none:=by
             unfold pfile
             rw [Hk.out]
             simp only [Option.bind_some]
             rw [Htx2.out]
             simp only [Option.bind_some]
             rw [Hnm.out,if_pos Hif.out]
             rw [Hq4.out]
             simp only [Option.bind_some]
             rw [hq5]
             rfl
            rw [HRs.out,← Hloop.out,pf_none h9]
            rfl)
           clear hq5
           go_wp2_with (first | (go_at_call 64;refine HA1.out.mono ?_;clear HA1;rintro e w1 ⟨rfl,hr1,hf1⟩;have G1:=Lib.hid (Hst.out.keepM hrb htb hne hf1 hr1);have HA2:=Lib.hid (HT2.out w1 hr1);clear hr1 hf1 HT2) | (go_at_call 79;refine HA2.out.mono ?_;clear HA2;rintro e w2 ⟨rfl,hr2,hf2⟩;have G2:=Lib.hid (G1.out.keepM hrb htb hne hf2.fr0 hr2);have HA3:=Lib.hid (HT3.out w2);clear hr2 hf2 HT3) | (go_at_call 71;refine HA3.out.mono ?_;clear HA3;rintro e w3 ⟨rfl,hb3⟩;have G3:=Lib.hid (G2.out.olds hrb htb hg hb3);have HA4:=Lib.hid (HT4.out w3 G3.out.rd);clear hb3 HT4) | (go_at_call 63;refine (need2_ok _ (by first | rfl | (simp;done) | (simp;omega))).mono ?_;rintro e w90 ⟨rfl,rfl⟩) | (go_at_call 64;refine HA4.out.mono ?_;clear HA4;rintro e w4 ⟨rfl,hr4,hf4⟩;have G4:=Lib.hid (G3.out.keepM hrb htb hne hf4 hr4);have HA5:=Lib.hid (HT5.out w4 hr4);clear HT5;clear hr4 hf4) | (go_at_call 64;refine HA5.out.mono ?_;clear HA5;rintro e w5 ⟨hw5,hf5⟩;unfold Wrong at hw5;subst hw5;have Hf5:=Lib.hid hf5;clear hf5) | (go_at_call 63;refine (need2_ok _ (by first | rfl | (simp;done) | (simp;omega))).mono ?_;rintro e w95 ⟨rfl,rfl⟩))
           exact⟨rfl,.inr ⟨Hr.out,rfl,G4.out.fr.trans (Hf5.out.mono (Nat.le_refl _) (fun _ h=>h) (by simp))⟩⟩
          | some pq5 =>
           obtain⟨z,b4⟩:=pq5
           obtain⟨h6_5,hbx5,_⟩:=num_lt hq5 h8b3
           simp only at h6_5 hbx5
           have hv5:z<4294967296:=by simpa using h6_5
           have hb4l:b4.length≤1000000:=by rw [hbx5,List.length_drop];omega
           have h8b4:∀x∈b4,x<256:=fun x hx=>h8b3 x (List.mem_of_mem_drop (hbx5 ▸ hx))
           have Hq5:=Lib.hid hq5
           have HT5:Hid (∀w4:World,RdAt w4 rb g b3 (.slice (some ⟨tb,0,none⟩) n tc)→Calls Tryz.prog 64 #[.pointer (some ⟨rb,0,none⟩),.int .i64 (4:Nat)] w4 fun e w'=>e=.returned (.int .i64 (z:Nat))∧RdAt w' rb g b4 (.slice (some ⟨tb,0,none⟩) n tc)∧Fr 0 [] [rb] w4 w'):=Lib.hid (fun w4 h=>rd_number h Hq5.out (by decide) hb3l)
           clear hq5 h6_5 hbx5 h8b3
           cases hq6:num 4 b4 with
           | none =>
            have HT6:Hid (∀w5:World,RdAt w5 rb g b4 (.slice (some ⟨tb,0,none⟩) n tc)→Calls Tryz.prog 64 #[.pointer (some ⟨rb,0,none⟩),.int .i64 (4:Nat)] w5 fun e w'=>Wrong e∧Fr 0 [] [rb] w5 w'):=Lib.hid (fun w5 h=>rd_number_no h hq6)
            have Hr:Hid (pdir isNm rest T=none):=Lib.hid (by
             have h9:pfile isNm last b T'=none:=by
              unfold pfile
              rw [Hk.out]
              simp only [Option.bind_some]
              rw [Htx2.out]
              simp only [Option.bind_some]
              rw [Hnm.out,if_pos Hif.out]
              rw [Hq4.out]
              simp only [Option.bind_some]
              rw [Hq5.out]
              simp only [Option.bind_some]
              rw [hq6]
              rfl
             rw [HRs.out,← Hloop.out,pf_none h9]
             rfl)
            clear hq6
            go_wp2_with (first | (go_at_call 64;refine HA1.out.mono ?_;clear HA1;rintro e w1 ⟨rfl,hr1,hf1⟩;have G1:=Lib.hid (Hst.out.keepM hrb htb hne hf1 hr1);have HA2:=Lib.hid (HT2.out w1 hr1);clear hr1 hf1 HT2) | (go_at_call 79;refine HA2.out.mono ?_;clear HA2;rintro e w2 ⟨rfl,hr2,hf2⟩;have G2:=Lib.hid (G1.out.keepM hrb htb hne hf2.fr0 hr2);have HA3:=Lib.hid (HT3.out w2);clear hr2 hf2 HT3) | (go_at_call 71;refine HA3.out.mono ?_;clear HA3;rintro e w3 ⟨rfl,hb3⟩;have G3:=Lib.hid (G2.out.olds hrb htb hg hb3);have HA4:=Lib.hid (HT4.out w3 G3.out.rd);clear hb3 HT4) | (go_at_call 63;refine (need2_ok _ (by first | rfl | (simp;done) | (simp;omega))).mono ?_;rintro e w90 ⟨rfl,rfl⟩) | (go_at_call 64;refine HA4.out.mono ?_;clear HA4;rintro e w4 ⟨rfl,hr4,hf4⟩;have G4:=Lib.hid (G3.out.keepM hrb htb hne hf4 hr4);have HA5:=Lib.hid (HT5.out w4 hr4);clear HT5;clear hr4 hf4) | (go_at_call 64;refine HA5.out.mono ?_;clear HA5;rintro e w5 ⟨rfl,hr5,hf5⟩;have G5:=Lib.hid (G4.out.keepM hrb htb hne hf5 hr5);have HA6:=Lib.hid (HT6.out w5 hr5);clear HT6;clear hr5 hf5) | (go_at_call 64;refine HA6.out.mono ?_;clear HA6;rintro e w6 ⟨hw6,hf6⟩;unfold Wrong at hw6;subst hw6;have Hf6:=Lib.hid hf6;clear hf6) | (go_at_call 63;refine (need2_ok _ (by first | rfl | (simp;done) | (simp;omega))).mono ?_;rintro e w96 ⟨rfl,rfl⟩))
            exact⟨rfl,.inr ⟨Hr.out,rfl,G5.out.fr.trans (Hf6.out.mono (Nat.le_refl _) (fun _ h=>h) (by simp))⟩⟩
           | some pq6 =>
            obtain⟨u,b5⟩:=pq6
            obtain⟨h6_6,hbx6,_⟩:=num_lt hq6 h8b4
            simp only at h6_6 hbx6
            have hv6:u<4294967296:=by simpa using h6_6
            have hb5l:b5.length≤1000000:=by rw [hbx6,List.length_drop];omega
            have h8b5:∀x∈b5,x<256:=fun x hx=>h8b4 x (List.mem_of_mem_drop (hbx6 ▸ hx))
            have Hq6:=Lib.hid hq6
            have HT6:Hid (∀w5:World,RdAt w5 rb g b4 (.slice (some ⟨tb,0,none⟩) n tc)→Calls Tryz.prog 64 #[.pointer (some ⟨rb,0,none⟩),.int .i64 (4:Nat)] w5 fun e w'=>e=.returned (.int .i64 (u:Nat))∧RdAt w' rb g b5 (.slice (some ⟨tb,0,none⟩) n tc)∧Fr 0 [] [rb] w5 w'):=Lib.hid (fun w5 h=>rd_number h Hq6.out (by decide) hb4l)
            clear hq6 h6_6 hbx6 h8b4
            have hwu:IntKind.u32.wrap (u:Int)=(u:Int):=by rw [IntKind.wrap_u32];omega
            have HFile:Hid (∀(w6 A:World) (lg:Bool),FS W w6 B rb g tb tc n b5 T' W.heap.size F→A=w6.alloc (.cells #[.bool lg,.int .i64 (z:Nat),.int .u32 (u:Nat),.slice none 0 0] 91)→FS W A B rb g tb tc n b5 T' W.heap.size F∧A.heap[w6.heap.size]?=some (.cells #[.bool lg,.int .i64 (z:Nat),.int .u32 (u:Nat),.slice none 0 0] 91 (0,0))∧W.heap.size≤w6.heap.size):=Lib.hid (fun w6 A lg h6 hA=>⟨h6.olds hrb htb hg (by rw [hA];exact (Below.refl _ _).alloc (Nat.le_refl _) _),by rw [hA];exact heap_alloc_new _ _,h6.fr.size⟩)
            have Hk1:Hid (kd≤1∨2≤kd):=Lib.hid (by omega)
            clear h8b5
            rcases (show kd=0∨kd=1∨2≤kd by omega) with hk0 | hk1 | hk2
            ·subst hk0
             have Hcond:Hid ((0=1→1≤z∧z≤16384∧u=0)∧0≤1):=Lib.hid ⟨(fun h=>by cases h),Nat.zero_le _⟩
             have Hwant:Hid (wantOf 0 z=need z):=Lib.hid rfl
             go_upto_region 12 with (first | (go_at_call 64;refine HA1.out.mono ?_;clear HA1;rintro e w1 ⟨rfl,hr1,hf1⟩;have G1:=Lib.hid (Hst.out.keepM hrb htb hne hf1 hr1);have HA2:=Lib.hid (HT2.out w1 hr1);clear hr1 hf1 HT2) | (go_at_call 79;refine HA2.out.mono ?_;clear HA2;rintro e w2 ⟨rfl,hr2,hf2⟩;have G2:=Lib.hid (G1.out.keepM hrb htb hne hf2.fr0 hr2);have HA3:=Lib.hid (HT3.out w2);clear hr2 hf2 HT3) | (go_at_call 71;refine HA3.out.mono ?_;clear HA3;rintro e w3 ⟨rfl,hb3⟩;have G3:=Lib.hid (G2.out.olds hrb htb hg hb3);have HA4:=Lib.hid (HT4.out w3 G3.out.rd);clear hb3 HT4) | (go_at_call 63;refine (need2_ok _ (by first | rfl | (simp;done) | (simp;omega))).mono ?_;rintro e w90 ⟨rfl,rfl⟩) | (go_at_call 64;refine HA4.out.mono ?_;clear HA4;rintro e w4 ⟨rfl,hr4,hf4⟩;have G4:=Lib.hid (G3.out.keepM hrb htb hne hf4 hr4);have HA5:=Lib.hid (HT5.out w4 hr4);clear HT5;clear hr4 hf4) | (go_at_call 64;refine HA5.out.mono ?_;clear HA5;rintro e w5 ⟨rfl,hr5,hf5⟩;have G5:=Lib.hid (G4.out.keepM hrb htb hne hf5 hr5);have HA6:=Lib.hid (HT6.out w5 hr5);clear HT6;clear hr5 hf5) | (go_at_call 64;refine HA6.out.mono ?_;clear HA6;rintro e w6 ⟨rfl,hr6,hf6⟩;have G6:=Lib.hid (G5.out.keepM hrb htb hne hf6 hr6);clear hr6 hf6))
             obtain⟨A,hA⟩:∃A:World,A=w6.alloc (.cells #[.bool false,.int .i64 (z:Nat),.int .u32 (u:Nat),.slice none 0 0] 91):=⟨_,rfl⟩
             rw [← hA]
             obtain⟨hFA,hAc,hAs⟩:=HFile.out w6 A false G6.out hA
             have a0:A.cell? ⟨w6.heap.size,0,none⟩=some (.bool false):=by rw [cell_of_heap hAc];rfl
             have a1:A.cell? ⟨w6.heap.size,1,none⟩=some (.int .i64 (z:Nat)):=by rw [cell_of_heap hAc];rfl
             have a2:A.cell? ⟨w6.heap.size,2,none⟩=some (.int .u32 (u:Nat)):=by rw [cell_of_heap hAc];rfl
             have HFA:=Lib.hid hFA
             have HAc:=Lib.hid hAc
             clear hA hFA hAc HFile
             have HS:=Lib.hid (rd_secs (want:=(need z)) HFA.out.rd HFA.out.mrk (by have:=HFA.out.fr.size;omega) hgt (by unfold need;omega) hn hb5l)
             cases hrs:rsecs (need z) b5 T' with
             | none =>
              have Hr:Hid (pdir isNm rest T=none):=Lib.hid (by
               have h9:pfile isNm last b T'=none:=by
                unfold pfile
                rw [Hk.out]
                simp only [Option.bind_some]
                rw [Htx2.out]
                simp only [Option.bind_some]
                rw [Hnm.out,if_pos Hif.out]
                rw [Hq4.out]
                simp only [Option.bind_some]
                rw [Hq5.out]
                simp only [Option.bind_some]
                rw [Hq6.out]
                simp only [Option.bind_some]
                rw [if_pos Hcond.out,Hwant.out,hrs]
                rfl
               rw [HRs.out,← Hloop.out,pf_none h9]
               rfl)
              have HS2:Hid (Calls Tryz.prog 65 #[.pointer (some ⟨rb,0,none⟩),.int .i64 (((need z):Nat):Int)] A fun e w'=>Wrong e∧Fr 0 [] [rb,tb] A w'):=Lib.hid (HS.out.mono fun e w' h=>by
               rcases h with ⟨r,v,h1,_⟩|⟨_,h2,h3⟩
               ·rw [hrs] at h1
                cases h1
               ·exact⟨h2,h3⟩)
              clear HS hrs
              go_wp2_with (first | (go_at_call 40;refine (need_big z (by omega) _).mono ?_;rintro e w70 ⟨rfl,rfl⟩) | (go_at_call 63;refine (need2_ok _ (by first | rfl | (simp;done) | (simp;omega))).mono ?_;rintro e w91 ⟨rfl,rfl⟩) | (go_at_call 65;refine HS2.out.mono ?_;clear HS2;rintro e w8 ⟨hw8,hf8⟩;unfold Wrong at hw8;subst hw8;have Hf8:=Lib.hid hf8;clear hf8))
              exact⟨rfl,.inr ⟨Hr.out,rfl,HFA.out.fr.trans Hf8.out⟩⟩
             | some rr =>
              obtain⟨sl,b6,T6⟩:=rr
              obtain⟨q1,q2,q3,q4,mx,q5⟩:=rsecs_some hrs
              simp only at q1 q2 q3 q4 q5
              have hb6l:b6.length≤1000000:=by rw [q5,List.length_drop];omega
              have Hpf:Hid (pfile isNm last b T'=some ((nm,⟨false,z,(u:Nat),sl⟩),b6,T6)):=Lib.hid (by
               unfold pfile
               rw [Hk.out]
               simp only [Option.bind_some]
               rw [Htx2.out]
               simp only [Option.bind_some]
               rw [Hnm.out,if_pos Hif.out]
               rw [Hq4.out]
               simp only [Option.bind_some]
               rw [Hq5.out]
               simp only [Option.bind_some]
               rw [Hq6.out]
               simp only [Option.bind_some]
               rw [if_pos Hcond.out,Hwant.out,hrs]
               simp)
              have Hres:=Lib.hid (pfile_some Hpf.out Hst.out.rd.byte)
              have HS2:Hid (Calls Tryz.prog 65 #[.pointer (some ⟨rb,0,none⟩),.int .i64 (((need z):Nat):Int)] A fun e w'=>∃o c,e=.returned (.slice o sl.length c)∧RS A w' B rb g tb tc n b6 T6 sl (.slice o sl.length c)):=Lib.hid (HS.out.mono fun e w' h=>by
               rcases h with ⟨r,v,h1,h2,h3⟩|⟨h1,_⟩
               ·rw [hrs] at h1
                obtain rfl:=Option.some.inj h1
                obtain⟨o,c,rfl,_⟩:=ownsRow_shape h3.row
                exact⟨o,c,h2,h3⟩
               ·rw [hrs] at h1
                cases h1)
              clear HS hrs q1 q2 q3 q4 q5
              have hFsz:A.heap.size≤A.heap.size:=Nat.le_refl _
              go_upto_region 18 with (first | (go_at_call 40;refine (need_big z (by omega) _).mono ?_;rintro e w70 ⟨rfl,rfl⟩) | (go_at_call 63;refine (need2_ok _ (by first | rfl | (simp;done) | (simp;omega))).mono ?_;rintro e w91 ⟨rfl,rfl⟩) | (go_at_call 65;refine HS2.out.mono ?_;clear HS2;rintro e w8 ⟨so,sc,rfl,h8⟩;have k8:=(by have h9:=h8.fr.keep HAc.out (by simp only [List.mem_cons,List.not_mem_nil,or_false,not_or];omega) (by simp);exact h9:w8.heap[w6.heap.size]?=some (.cells #[.bool false,.int .i64 (z:Nat),.int .u32 (u:Nat),.slice none 0 0] 91 (0,0)));have c8:w8.cell? ⟨w6.heap.size,3,none⟩=some (.slice none 0 0):=(by rw [cell_of_heap k8];rfl);have z8:w8.frozen? ⟨w6.heap.size,3,none⟩=false:=(by simp [World.frozen?,k8]);have H8:=Lib.hid (fun Y (hY:Y=w8.setCell ⟨w6.heap.size,3,none⟩ (.slice so sl.length sc))=>files_step hrb htb hg hAs (by have:=HFi.out;omega) HFA.out Hres.out HPF.out Hlast.out HTF.out h8 k8 hY);clear h8 k8))
              obtain⟨Y,hY⟩:∃Y:World,Y=w8.setCell ⟨w6.heap.size,3,none⟩ (.slice so sl.length sc):=⟨_,rfl⟩
              rw [← hY]
              obtain⟨G9,Y0,Y1,Y2,Y3,w11,hup,G11⟩:=H8.out Y hY
              have HG11:=Lib.hid G11
              clear G11 hY H8 G9
              unfold fval at hup
              go_wp2_with fail
              go_roundw
              case rel =>
               obtain⟨p1,p2,p3,p4,p5⟩:=Hres.out
               obtain⟨r1,r2,r3,r4⟩:=HPF.out.cons p1 p2 Hlast.out (HTF.out ▸ p3)
               refine⟨i+1,b6,T6,_,nm,by omega,by go_num,rfl,HG11.out,hb6l,by rw [List.length_cons,HFi.out],r1,?_,r3,?_⟩
               ·rw [r4,← HTF.out]
                exact p4
               ·rw [show m-(i+1)=mi by omega,← Hloop.out,pf_some Hpf.out]
              case measure=>simp [intOf];omega
            ·subst hk1
             by_cases hz1:1≤z
             ·by_cases hz2:z≤16384
              ·by_cases hu0:u=0
               ·have hu1:((u:Int) == 0)=true:=by simp;omega
                have Hcond:Hid ((1=1→1≤z∧z≤16384∧u=0)∧1≤1):=Lib.hid ⟨fun _=>⟨hz1,hz2,hu0⟩,Nat.le_refl _⟩
                clear hu0
                have Hwant:Hid (wantOf 1 z=z):=Lib.hid rfl
                go_upto_region 12 with (first | (go_at_call 64;refine HA1.out.mono ?_;clear HA1;rintro e w1 ⟨rfl,hr1,hf1⟩;have G1:=Lib.hid (Hst.out.keepM hrb htb hne hf1 hr1);have HA2:=Lib.hid (HT2.out w1 hr1);clear hr1 hf1 HT2) | (go_at_call 79;refine HA2.out.mono ?_;clear HA2;rintro e w2 ⟨rfl,hr2,hf2⟩;have G2:=Lib.hid (G1.out.keepM hrb htb hne hf2.fr0 hr2);have HA3:=Lib.hid (HT3.out w2);clear hr2 hf2 HT3) | (go_at_call 71;refine HA3.out.mono ?_;clear HA3;rintro e w3 ⟨rfl,hb3⟩;have G3:=Lib.hid (G2.out.olds hrb htb hg hb3);have HA4:=Lib.hid (HT4.out w3 G3.out.rd);clear hb3 HT4) | (go_at_call 63;refine (need2_ok _ (by first | rfl | (simp;done) | (simp;omega))).mono ?_;rintro e w90 ⟨rfl,rfl⟩) | (go_at_call 64;refine HA4.out.mono ?_;clear HA4;rintro e w4 ⟨rfl,hr4,hf4⟩;have G4:=Lib.hid (G3.out.keepM hrb htb hne hf4 hr4);have HA5:=Lib.hid (HT5.out w4 hr4);clear HT5;clear hr4 hf4) | (go_at_call 64;refine HA5.out.mono ?_;clear HA5;rintro e w5 ⟨rfl,hr5,hf5⟩;have G5:=Lib.hid (G4.out.keepM hrb htb hne hf5 hr5);have HA6:=Lib.hid (HT6.out w5 hr5);clear HT6;clear hr5 hf5) | (go_at_call 64;refine HA6.out.mono ?_;clear HA6;rintro e w6 ⟨rfl,hr6,hf6⟩;have G6:=Lib.hid (G5.out.keepM hrb htb hne hf6 hr6);clear hr6 hf6))
                obtain⟨A,hA⟩:∃A:World,A=w6.alloc (.cells #[.bool true,.int .i64 (z:Nat),.int .u32 (u:Nat),.slice none 0 0] 91):=⟨_,rfl⟩
                rw [← hA]
                obtain⟨hFA,hAc,hAs⟩:=HFile.out w6 A true G6.out hA
                have a0:A.cell? ⟨w6.heap.size,0,none⟩=some (.bool true):=by rw [cell_of_heap hAc];rfl
                have a1:A.cell? ⟨w6.heap.size,1,none⟩=some (.int .i64 (z:Nat)):=by rw [cell_of_heap hAc];rfl
                have a2:A.cell? ⟨w6.heap.size,2,none⟩=some (.int .u32 (u:Nat)):=by rw [cell_of_heap hAc];rfl
                have HFA:=Lib.hid hFA
                have HAc:=Lib.hid hAc
                clear hA hFA hAc HFile
                have HS:=Lib.hid (rd_secs (want:=z) HFA.out.rd HFA.out.mrk (by have:=HFA.out.fr.size;omega) hgt (by omega) hn hb5l)
                cases hrs:rsecs z b5 T' with
                | none =>
                 have Hr:Hid (pdir isNm rest T=none):=Lib.hid (by
                  have h9:pfile isNm last b T'=none:=by
                   unfold pfile
                   rw [Hk.out]
                   simp only [Option.bind_some]
                   rw [Htx2.out]
                   simp only [Option.bind_some]
                   rw [Hnm.out,if_pos Hif.out]
                   rw [Hq4.out]
                   simp only [Option.bind_some]
                   rw [Hq5.out]
                   simp only [Option.bind_some]
                   rw [Hq6.out]
                   simp only [Option.bind_some]
                   rw [if_pos Hcond.out,Hwant.out,hrs]
                   rfl
                  rw [HRs.out,← Hloop.out,pf_none h9]
                  rfl)
                 have HS2:Hid (Calls Tryz.prog 65 #[.pointer (some ⟨rb,0,none⟩),.int .i64 ((z:Nat):Int)] A fun e w'=>Wrong e∧Fr 0 [] [rb,tb] A w'):=Lib.hid (HS.out.mono fun e w' h=>by
                  rcases h with ⟨r,v,h1,_⟩|⟨_,h2,h3⟩
                  ·rw [hrs] at h1
                   cases h1
                  ·exact⟨h2,h3⟩)
                 clear HS hrs
                 go_wp2_with (first | (go_at_call 40;refine (need_big z (by omega) _).mono ?_;rintro e w70 ⟨rfl,rfl⟩) | (go_at_call 63;refine (need2_ok _ (by first | rfl | (simp;done) | (simp;omega))).mono ?_;rintro e w91 ⟨rfl,rfl⟩) | (go_at_call 63;refine (need2_ok _ (by first | rfl | (simp;done) | (simp;omega))).mono ?_;rintro e w92 ⟨rfl,rfl⟩) | (go_at_call 65;refine HS2.out.mono ?_;clear HS2;rintro e w8 ⟨hw8,hf8⟩;unfold Wrong at hw8;subst hw8;have Hf8:=Lib.hid hf8;clear hf8))
                 exact⟨rfl,.inr ⟨Hr.out,rfl,HFA.out.fr.trans Hf8.out⟩⟩
                | some rr =>
                 obtain⟨sl,b6,T6⟩:=rr
                 obtain⟨q1,q2,q3,q4,mx,q5⟩:=rsecs_some hrs
                 simp only at q1 q2 q3 q4 q5
                 have hb6l:b6.length≤1000000:=by rw [q5,List.length_drop];omega
                 have Hpf:Hid (pfile isNm last b T'=some ((nm,⟨true,z,(u:Nat),sl⟩),b6,T6)):=Lib.hid (by
                  unfold pfile
                  rw [Hk.out]
                  simp only [Option.bind_some]
                  rw [Htx2.out]
                  simp only [Option.bind_some]
                  rw [Hnm.out,if_pos Hif.out]
                  rw [Hq4.out]
                  simp only [Option.bind_some]
                  rw [Hq5.out]
                  simp only [Option.bind_some]
                  rw [Hq6.out]
                  simp only [Option.bind_some]
                  rw [if_pos Hcond.out,Hwant.out,hrs]
                  simp)
                 have Hres:=Lib.hid (pfile_some Hpf.out Hst.out.rd.byte)
                 have HS2:Hid (Calls Tryz.prog 65 #[.pointer (some ⟨rb,0,none⟩),.int .i64 ((z:Nat):Int)] A fun e w'=>∃o c,e=.returned (.slice o sl.length c)∧RS A w' B rb g tb tc n b6 T6 sl (.slice o sl.length c)):=Lib.hid (HS.out.mono fun e w' h=>by
                  rcases h with ⟨r,v,h1,h2,h3⟩|⟨h1,_⟩
                  ·rw [hrs] at h1
                   obtain rfl:=Option.some.inj h1
                   obtain⟨o,c,rfl,_⟩:=ownsRow_shape h3.row
                   exact⟨o,c,h2,h3⟩
                  ·rw [hrs] at h1
                   cases h1)
                 clear HS hrs q1 q2 q3 q4 q5
                 have hFsz:A.heap.size≤A.heap.size:=Nat.le_refl _
                 go_upto_region 18 with (first | (go_at_call 40;refine (need_big z (by omega) _).mono ?_;rintro e w70 ⟨rfl,rfl⟩) | (go_at_call 63;refine (need2_ok _ (by first | rfl | (simp;done) | (simp;omega))).mono ?_;rintro e w91 ⟨rfl,rfl⟩) | (go_at_call 63;refine (need2_ok _ (by first | rfl | (simp;done) | (simp;omega))).mono ?_;rintro e w92 ⟨rfl,rfl⟩) | (go_at_call 65;refine HS2.out.mono ?_;clear HS2;rintro e w8 ⟨so,sc,rfl,h8⟩;have k8:=(by have h9:=h8.fr.keep HAc.out (by simp only [List.mem_cons,List.not_mem_nil,or_false,not_or];omega) (by simp);exact h9:w8.heap[w6.heap.size]?=some (.cells #[.bool true,.int .i64 (z:Nat),.int .u32 (u:Nat),.slice none 0 0] 91 (0,0)));have c8:w8.cell? ⟨w6.heap.size,3,none⟩=some (.slice none 0 0):=(by rw [cell_of_heap k8];rfl);have z8:w8.frozen? ⟨w6.heap.size,3,none⟩=false:=(by simp [World.frozen?,k8]);have H8:=Lib.hid (fun Y (hY:Y=w8.setCell ⟨w6.heap.size,3,none⟩ (.slice so sl.length sc))=>files_step hrb htb hg hAs (by have:=HFi.out;omega) HFA.out Hres.out HPF.out Hlast.out HTF.out h8 k8 hY);clear h8 k8))
                 obtain⟨Y,hY⟩:∃Y:World,Y=w8.setCell ⟨w6.heap.size,3,none⟩ (.slice so sl.length sc):=⟨_,rfl⟩
                 rw [← hY]
                 obtain⟨G9,Y0,Y1,Y2,Y3,w11,hup,G11⟩:=H8.out Y hY
                 have HG11:=Lib.hid G11
                 clear G11 hY H8 G9
                 unfold fval at hup
                 go_wp2_with fail
                 go_roundw
                 case rel =>
                  obtain⟨p1,p2,p3,p4,p5⟩:=Hres.out
                  obtain⟨r1,r2,r3,r4⟩:=HPF.out.cons p1 p2 Hlast.out (HTF.out ▸ p3)
                  refine⟨i+1,b6,T6,_,nm,by omega,by go_num,rfl,HG11.out,hb6l,by rw [List.length_cons,HFi.out],r1,?_,r3,?_⟩
                  ·rw [r4,← HTF.out]
                   exact p4
                  ·rw [show m-(i+1)=mi by omega,← Hloop.out,pf_some Hpf.out]
                 case measure=>simp [intOf];omega
               ·have hu1:((u:Int) == 0)=false:=by simp;omega
                have Hr:Hid (pdir isNm rest T=none):=Lib.hid (by
                 have h9:pfile isNm last b T'=none:=by
                  unfold pfile
                  rw [Hk.out]
                  simp only [Option.bind_some]
                  rw [Htx2.out]
                  simp only [Option.bind_some]
                  rw [Hnm.out,if_pos Hif.out]
                  rw [Hq4.out]
                  simp only [Option.bind_some]
                  rw [Hq5.out]
                  simp only [Option.bind_some]
                  rw [Hq6.out]
                  simp only [Option.bind_some]
                  rw [if_neg (fun hx=>hu0 (hx.1 trivial).2.2)]
                 rw [HRs.out,← Hloop.out,pf_none h9]
                 rfl)
                go_upto_region 12 with (first | (go_at_call 64;refine HA1.out.mono ?_;clear HA1;rintro e w1 ⟨rfl,hr1,hf1⟩;have G1:=Lib.hid (Hst.out.keepM hrb htb hne hf1 hr1);have HA2:=Lib.hid (HT2.out w1 hr1);clear hr1 hf1 HT2) | (go_at_call 79;refine HA2.out.mono ?_;clear HA2;rintro e w2 ⟨rfl,hr2,hf2⟩;have G2:=Lib.hid (G1.out.keepM hrb htb hne hf2.fr0 hr2);have HA3:=Lib.hid (HT3.out w2);clear hr2 hf2 HT3) | (go_at_call 71;refine HA3.out.mono ?_;clear HA3;rintro e w3 ⟨rfl,hb3⟩;have G3:=Lib.hid (G2.out.olds hrb htb hg hb3);have HA4:=Lib.hid (HT4.out w3 G3.out.rd);clear hb3 HT4) | (go_at_call 63;refine (need2_ok _ (by first | rfl | (simp;done) | (simp;omega))).mono ?_;rintro e w90 ⟨rfl,rfl⟩) | (go_at_call 64;refine HA4.out.mono ?_;clear HA4;rintro e w4 ⟨rfl,hr4,hf4⟩;have G4:=Lib.hid (G3.out.keepM hrb htb hne hf4 hr4);have HA5:=Lib.hid (HT5.out w4 hr4);clear HT5;clear hr4 hf4) | (go_at_call 64;refine HA5.out.mono ?_;clear HA5;rintro e w5 ⟨rfl,hr5,hf5⟩;have G5:=Lib.hid (G4.out.keepM hrb htb hne hf5 hr5);have HA6:=Lib.hid (HT6.out w5 hr5);clear HT6;clear hr5 hf5) | (go_at_call 64;refine HA6.out.mono ?_;clear HA6;rintro e w6 ⟨rfl,hr6,hf6⟩;have G6:=Lib.hid (G5.out.keepM hrb htb hne hf6 hr6);clear hr6 hf6))
                obtain⟨A,hA⟩:∃A:World,A=w6.alloc (.cells #[.bool true,.int .i64 (z:Nat),.int .u32 (u:Nat),.slice none 0 0] 91):=⟨_,rfl⟩
                rw [← hA]
                obtain⟨hFA,hAc,hAs⟩:=HFile.out w6 A true G6.out hA
                have a0:A.cell? ⟨w6.heap.size,0,none⟩=some (.bool true):=by rw [cell_of_heap hAc];rfl
                have a1:A.cell? ⟨w6.heap.size,1,none⟩=some (.int .i64 (z:Nat)):=by rw [cell_of_heap hAc];rfl
                have a2:A.cell? ⟨w6.heap.size,2,none⟩=some (.int .u32 (u:Nat)):=by rw [cell_of_heap hAc];rfl
                have HFA:=Lib.hid hFA
                have HAc:=Lib.hid hAc
                clear hA hFA hAc HFile
                go_wp2_with (first | (go_at_call 40;refine (need_big z (by omega) _).mono ?_;rintro e w70 ⟨rfl,rfl⟩) | (go_at_call 63;refine (need2_no _ (by first | rfl | (simp;done) | (simp;omega))).mono ?_;rintro e w90 ⟨hw90,rfl⟩;unfold Wrong at hw90;subst hw90))
                exact⟨rfl,.inr ⟨Hr.out,rfl,HFA.out.fr⟩⟩
              ·have Hr:Hid (pdir isNm rest T=none):=Lib.hid (by
                have h9:pfile isNm last b T'=none:=by
                 unfold pfile
                 rw [Hk.out]
                 simp only [Option.bind_some]
                 rw [Htx2.out]
                 simp only [Option.bind_some]
                 rw [Hnm.out,if_pos Hif.out]
                 rw [Hq4.out]
                 simp only [Option.bind_some]
                 rw [Hq5.out]
                 simp only [Option.bind_some]
                 rw [Hq6.out]
                 simp only [Option.bind_some]
                 rw [if_neg (fun hx=>hz2 (hx.1 trivial).2.1)]
                rw [HRs.out,← Hloop.out,pf_none h9]
                rfl)
               go_upto_region 12 with (first | (go_at_call 64;refine HA1.out.mono ?_;clear HA1;rintro e w1 ⟨rfl,hr1,hf1⟩;have G1:=Lib.hid (Hst.out.keepM hrb htb hne hf1 hr1);have HA2:=Lib.hid (HT2.out w1 hr1);clear hr1 hf1 HT2) | (go_at_call 79;refine HA2.out.mono ?_;clear HA2;rintro e w2 ⟨rfl,hr2,hf2⟩;have G2:=Lib.hid (G1.out.keepM hrb htb hne hf2.fr0 hr2);have HA3:=Lib.hid (HT3.out w2);clear hr2 hf2 HT3) | (go_at_call 71;refine HA3.out.mono ?_;clear HA3;rintro e w3 ⟨rfl,hb3⟩;have G3:=Lib.hid (G2.out.olds hrb htb hg hb3);have HA4:=Lib.hid (HT4.out w3 G3.out.rd);clear hb3 HT4) | (go_at_call 63;refine (need2_ok _ (by first | rfl | (simp;done) | (simp;omega))).mono ?_;rintro e w90 ⟨rfl,rfl⟩) | (go_at_call 64;refine HA4.out.mono ?_;clear HA4;rintro e w4 ⟨rfl,hr4,hf4⟩;have G4:=Lib.hid (G3.out.keepM hrb htb hne hf4 hr4);have HA5:=Lib.hid (HT5.out w4 hr4);clear HT5;clear hr4 hf4) | (go_at_call 64;refine HA5.out.mono ?_;clear HA5;rintro e w5 ⟨rfl,hr5,hf5⟩;have G5:=Lib.hid (G4.out.keepM hrb htb hne hf5 hr5);have HA6:=Lib.hid (HT6.out w5 hr5);clear HT6;clear hr5 hf5) | (go_at_call 64;refine HA6.out.mono ?_;clear HA6;rintro e w6 ⟨rfl,hr6,hf6⟩;have G6:=Lib.hid (G5.out.keepM hrb htb hne hf6 hr6);clear hr6 hf6))
               obtain⟨A,hA⟩:∃A:World,A=w6.alloc (.cells #[.bool true,.int .i64 (z:Nat),.int .u32 (u:Nat),.slice none 0 0] 91):=⟨_,rfl⟩
               rw [← hA]
               obtain⟨hFA,hAc,hAs⟩:=HFile.out w6 A true G6.out hA
               have a0:A.cell? ⟨w6.heap.size,0,none⟩=some (.bool true):=by rw [cell_of_heap hAc];rfl
               have a1:A.cell? ⟨w6.heap.size,1,none⟩=some (.int .i64 (z:Nat)):=by rw [cell_of_heap hAc];rfl
               have a2:A.cell? ⟨w6.heap.size,2,none⟩=some (.int .u32 (u:Nat)):=by rw [cell_of_heap hAc];rfl
               have HFA:=Lib.hid hFA
               have HAc:=Lib.hid hAc
               clear hA hFA hAc HFile
               go_wp2_with (first | (go_at_call 40;refine (need_big z (by omega) _).mono ?_;rintro e w70 ⟨rfl,rfl⟩) | (go_at_call 63;refine (need2_no _ (by first | rfl | (simp;done) | (simp;omega))).mono ?_;rintro e w90 ⟨hw90,rfl⟩;unfold Wrong at hw90;subst hw90))
               exact⟨rfl,.inr ⟨Hr.out,rfl,HFA.out.fr⟩⟩
             ·have Hr:Hid (pdir isNm rest T=none):=Lib.hid (by
               have h9:pfile isNm last b T'=none:=by
                unfold pfile
                rw [Hk.out]
                simp only [Option.bind_some]
                rw [Htx2.out]
                simp only [Option.bind_some]
                rw [Hnm.out,if_pos Hif.out]
                rw [Hq4.out]
                simp only [Option.bind_some]
                rw [Hq5.out]
                simp only [Option.bind_some]
                rw [Hq6.out]
                simp only [Option.bind_some]
                rw [if_neg (fun hx=>hz1 (hx.1 trivial).1)]
               rw [HRs.out,← Hloop.out,pf_none h9]
               rfl)
              go_upto_region 12 with (first | (go_at_call 64;refine HA1.out.mono ?_;clear HA1;rintro e w1 ⟨rfl,hr1,hf1⟩;have G1:=Lib.hid (Hst.out.keepM hrb htb hne hf1 hr1);have HA2:=Lib.hid (HT2.out w1 hr1);clear hr1 hf1 HT2) | (go_at_call 79;refine HA2.out.mono ?_;clear HA2;rintro e w2 ⟨rfl,hr2,hf2⟩;have G2:=Lib.hid (G1.out.keepM hrb htb hne hf2.fr0 hr2);have HA3:=Lib.hid (HT3.out w2);clear hr2 hf2 HT3) | (go_at_call 71;refine HA3.out.mono ?_;clear HA3;rintro e w3 ⟨rfl,hb3⟩;have G3:=Lib.hid (G2.out.olds hrb htb hg hb3);have HA4:=Lib.hid (HT4.out w3 G3.out.rd);clear hb3 HT4) | (go_at_call 63;refine (need2_ok _ (by first | rfl | (simp;done) | (simp;omega))).mono ?_;rintro e w90 ⟨rfl,rfl⟩) | (go_at_call 64;refine HA4.out.mono ?_;clear HA4;rintro e w4 ⟨rfl,hr4,hf4⟩;have G4:=Lib.hid (G3.out.keepM hrb htb hne hf4 hr4);have HA5:=Lib.hid (HT5.out w4 hr4);clear HT5;clear hr4 hf4) | (go_at_call 64;refine HA5.out.mono ?_;clear HA5;rintro e w5 ⟨rfl,hr5,hf5⟩;have G5:=Lib.hid (G4.out.keepM hrb htb hne hf5 hr5);have HA6:=Lib.hid (HT6.out w5 hr5);clear HT6;clear hr5 hf5) | (go_at_call 64;refine HA6.out.mono ?_;clear HA6;rintro e w6 ⟨rfl,hr6,hf6⟩;have G6:=Lib.hid (G5.out.keepM hrb htb hne hf6 hr6);clear hr6 hf6))
              obtain⟨A,hA⟩:∃A:World,A=w6.alloc (.cells #[.bool true,.int .i64 (z:Nat),.int .u32 (u:Nat),.slice none 0 0] 91):=⟨_,rfl⟩
              rw [← hA]
              obtain⟨hFA,hAc,hAs⟩:=HFile.out w6 A true G6.out hA
              have a0:A.cell? ⟨w6.heap.size,0,none⟩=some (.bool true):=by rw [cell_of_heap hAc];rfl
              have a1:A.cell? ⟨w6.heap.size,1,none⟩=some (.int .i64 (z:Nat)):=by rw [cell_of_heap hAc];rfl
              have a2:A.cell? ⟨w6.heap.size,2,none⟩=some (.int .u32 (u:Nat)):=by rw [cell_of_heap hAc];rfl
              have HFA:=Lib.hid hFA
              have HAc:=Lib.hid hAc
              clear hA hFA hAc HFile
              go_wp2_with (first | (go_at_call 40;refine (need_big z (by omega) _).mono ?_;rintro e w70 ⟨rfl,rfl⟩) | (go_at_call 63;refine (need2_no _ (by first | rfl | (simp;done) | (simp;omega))).mono ?_;rintro e w90 ⟨hw90,rfl⟩;unfold Wrong at hw90;subst hw90))
              exact⟨rfl,.inr ⟨Hr.out,rfl,HFA.out.fr⟩⟩
            ·have hkd:((kd:Int) == 1)=false:=by simp;omega
             have Hr:Hid (pdir isNm rest T=none):=Lib.hid (by
              have h9:pfile isNm last b T'=none:=by
               unfold pfile
               rw [Hk.out]
               simp only [Option.bind_some]
               rw [Htx2.out]
               simp only [Option.bind_some]
               rw [Hnm.out,if_pos Hif.out]
               rw [Hq4.out]
               simp only [Option.bind_some]
               rw [Hq5.out]
               simp only [Option.bind_some]
               rw [Hq6.out]
               simp only [Option.bind_some]
               rw [if_neg (fun hx=>absurd hx.2 (by omega))]
              rw [HRs.out,← Hloop.out,pf_none h9]
              rfl)
             go_upto_region 12 with (first | (go_at_call 64;refine HA1.out.mono ?_;clear HA1;rintro e w1 ⟨rfl,hr1,hf1⟩;have G1:=Lib.hid (Hst.out.keepM hrb htb hne hf1 hr1);have HA2:=Lib.hid (HT2.out w1 hr1);clear hr1 hf1 HT2) | (go_at_call 79;refine HA2.out.mono ?_;clear HA2;rintro e w2 ⟨rfl,hr2,hf2⟩;have G2:=Lib.hid (G1.out.keepM hrb htb hne hf2.fr0 hr2);have HA3:=Lib.hid (HT3.out w2);clear hr2 hf2 HT3) | (go_at_call 71;refine HA3.out.mono ?_;clear HA3;rintro e w3 ⟨rfl,hb3⟩;have G3:=Lib.hid (G2.out.olds hrb htb hg hb3);have HA4:=Lib.hid (HT4.out w3 G3.out.rd);clear hb3 HT4) | (go_at_call 63;refine (need2_ok _ (by first | rfl | (simp;done) | (simp;omega))).mono ?_;rintro e w90 ⟨rfl,rfl⟩) | (go_at_call 64;refine HA4.out.mono ?_;clear HA4;rintro e w4 ⟨rfl,hr4,hf4⟩;have G4:=Lib.hid (G3.out.keepM hrb htb hne hf4 hr4);have HA5:=Lib.hid (HT5.out w4 hr4);clear HT5;clear hr4 hf4) | (go_at_call 64;refine HA5.out.mono ?_;clear HA5;rintro e w5 ⟨rfl,hr5,hf5⟩;have G5:=Lib.hid (G4.out.keepM hrb htb hne hf5 hr5);have HA6:=Lib.hid (HT6.out w5 hr5);clear HT6;clear hr5 hf5) | (go_at_call 64;refine HA6.out.mono ?_;clear HA6;rintro e w6 ⟨rfl,hr6,hf6⟩;have G6:=Lib.hid (G5.out.keepM hrb htb hne hf6 hr6);clear hr6 hf6))
             obtain⟨A,hA⟩:∃A:World,A=w6.alloc (.cells #[.bool false,.int .i64 (z:Nat),.int .u32 (u:Nat),.slice none 0 0] 91):=⟨_,rfl⟩
             rw [← hA]
             obtain⟨hFA,hAc,hAs⟩:=HFile.out w6 A false G6.out hA
             have a0:A.cell? ⟨w6.heap.size,0,none⟩=some (.bool false):=by rw [cell_of_heap hAc];rfl
             have a1:A.cell? ⟨w6.heap.size,1,none⟩=some (.int .i64 (z:Nat)):=by rw [cell_of_heap hAc];rfl
             have a2:A.cell? ⟨w6.heap.size,2,none⟩=some (.int .u32 (u:Nat)):=by rw [cell_of_heap hAc];rfl
             have HFA:=Lib.hid hFA
             have HAc:=Lib.hid hAc
             clear hA hFA hAc HFile
             go_wp2_with (first | (go_at_call 40;refine (need_big z (by omega) _).mono ?_;rintro e w70 ⟨rfl,rfl⟩) | (go_at_call 63;refine (need2_no _ (by first | rfl | (simp;done) | (simp;omega))).mono ?_;rintro e w90 ⟨hw90,rfl⟩;unfold Wrong at hw90;subst hw90))
             exact⟨rfl,.inr ⟨Hr.out,rfl,HFA.out.fr⟩⟩
      ·have Htx:Hid (tx k b1=none):=Lib.hid (by unfold tx;rw [if_neg hkl])
       have HT2:Hid (∀w1:World,RdAt w1 rb g b1 (.slice (some ⟨tb,0,none⟩) n tc)→Calls Tryz.prog 79 #[.pointer (some ⟨rb,0,none⟩),.int .i64 (k:Nat)] w1 fun e w'=>Wrong e∧w1=w'):=Lib.hid (fun w1 h1=>rd_text_no k b1 h1 (by omega))
       have Hr:Hid (pdir isNm rest T=none):=Lib.hid (by
        have h9:pfile isNm last b T'=none:=by
         unfold pfile
         rw [Hk.out]
         simp only [Option.bind_some]
         rw [Htx.out]
         rfl
        rw [HRs.out,← Hloop.out,pf_none h9]
        rfl)
       go_wp2_with (first | (go_at_call 64;refine HA1.out.mono ?_;clear HA1;rintro e w1 ⟨rfl,hr1,hf1⟩;have G1:=Lib.hid (Hst.out.keepM hrb htb hne hf1 hr1);have HA2:=Lib.hid (HT2.out w1 hr1);clear hr1 hf1 HT2) | (go_at_call 79;refine HA2.out.mono ?_;clear HA2;rintro e w2 ⟨hw2,rfl⟩;unfold Wrong at hw2;subst hw2))
       exact⟨rfl,.inr ⟨Hr.out,rfl,G1.out.fr⟩⟩
    ·obtain rfl:i=m:=by omega
     have HRe:Hid (R=some (F,b)):=Lib.hid (by
      have h9:=Hloop.out
      rw [Nat.sub_self] at h9
      exact h9.symm)
     obtain⟨off,cap,q1,_⟩:=id hst.rd
     have hc0:wr.cell? ⟨rb,0,none⟩=some (.slice (some ⟨g,off,none⟩) b.length cap):=by rw [cell_of_heap q1];rfl
     have Hbl:Hid (b.length=0↔b=[]):=Lib.hid List.length_eq_zero_iff
     clear q1 hst h8b Hloop
     generalize hz:b.length=z at *
     clear hz
     by_cases hz0:z=0
     ·subst hz0
      have Hr:Hid (pdir isNm rest T=some F):=Lib.hid (by
       rw [HRs.out,HRe.out]
       show (if b=[] then some F else none)=_
       rw [if_pos (Hbl.out.1 rfl)])
      go_wp2_with (go_at_call 63;refine (need2_ok _ (by first | rfl | (simp;done) | (simp;omega))).mono ?_;rintro e w5 ⟨rfl,rfl⟩)
      go_ret
      exact .inl ⟨F,_,Hr.out,rfl,Nat.le_refl _,Hst.out.map,Hst.out.fr⟩
     ·have hzb:((z:Int) == 0)=false:=by simp;omega
      have Hr:Hid (pdir isNm rest T=none):=Lib.hid (by
       rw [HRs.out,HRe.out]
       show (if b=[] then some F else none)=_
       rw [if_neg (fun h=>hz0 (Hbl.out.2 h))])
      go_wp2_with (go_at_call 63;refine (need2_no _ (by first | rfl | (simp;done) | (simp;omega))).mono ?_;rintro e w5 ⟨hw5,rfl⟩;unfold Wrong at hw5;subst hw5)
      exact⟨rfl,.inr ⟨Hr.out,rfl,Hst.out.fr⟩⟩
  ·have Hr:Hid (pdir isNm rest T=none):=Lib.hid (pdir_none Hn1.out h256)
   go_enter Tryz.func67,Tryz.ntmps67
   go_upto_region 2 with fail
   rw [← HX.out]
   go_wp2_with (first
    | (go_at_call 64;refine HN.out.mono ?_;clear HN;rintro e w1 ⟨rfl,hr1,hf1⟩;have Hf1:=Lib.hid hf1;clear hr1 hf1)
    | (go_at_call 63;refine (need2_no _ (by first | rfl | (simp;done) | (simp;omega))).mono ?_;rintro e w90 ⟨hw90,rfl⟩;unfold Wrong at hw90;subst hw90))
   exact⟨rfl,.inr ⟨Hr.out,rfl,H0.out.fr.trans (Hf1.out.mono (Nat.le_refl _) (fun _ h=>h) (by simp))⟩⟩
  end Go.Proofs.YtndjmffnlcilbaaGreatDoor
