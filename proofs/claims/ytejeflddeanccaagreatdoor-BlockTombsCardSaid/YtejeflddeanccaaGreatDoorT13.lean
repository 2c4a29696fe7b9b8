/- Contracts over this program. Their conditions: the slices read as the lists that are named, and lie within the sizes that are named. -/
import Derived.Test.YtejeflddeanccaaGreatDoorT11
import Derived.Test.YtejeflddeanccaaGreatDoorT10
import Derived.Test.YtejeflddeanccaaGreatDoorT12
import Derived.Test.YtejeflddeanccaaGreatDoorT4
set_option linter.unusedSimpArgs false
set_option linter.unusedVariables false
set_option linter.deprecated false
set_option linter.unnecessarySimpa false
namespace Go.Proofs.YtejeflddeanccaaGreatDoor
open Go Go.RowKit Go.Ix Go.Tm
open Classical in
noncomputable def bytesOf (l:List Tomb):List Nat:=if MayT l then doneB l else []
open Classical in
noncomputable def ecOf (l:List Tomb):Int:=if MayT l then 0 else 150
def BytesOut (X:List Nat) (ec:Int) (w:World) (e:Ending) (w':World):Prop :=
 ∃xo xc,e=.returned (.tuple #[.slice xo X.length xc,.int .u16 ec])∧Row8 w' w.heap.size (.slice xo X.length xc) X∧Below w.heap.size w w'
theorem bytes_out {l:List Tomb}{w w':World}{e:Ending}(h:TombsEnd w l e w'):BytesOut (bytesOf l) (ecOf l) w e w':=by
 obtain⟨hb,h⟩:=h
 rcases h with ⟨hm,rfl⟩|⟨hm,v,rfl,hr⟩
 ·rw [show bytesOf l=[] from if_neg hm,show ecOf l=150 from if_neg hm]
  exact⟨none,0,rfl,World.ownsRow_nil _ _ _ _,hb⟩
 ·rw [show bytesOf l=doneB l from if_pos hm,show ecOf l=0 from if_pos hm]
  obtain⟨o,c,rfl,_⟩:=ownsRow_shape hr
  exact⟨o,c,rfl,hr,hb⟩
noncomputable def tombsOf (bs:List Nat):List Tomb:=(opened bs).getD []
noncomputable def ocOf (bs:List Nat):Int:=if (opened bs).isSome then 0 else 150
def TombsOut (X:List Tomb) (ec:Int) (w:World) (e:Ending) (w':World):Prop :=
 ∃xo xc,e=.returned (.tuple #[.slice xo X.length xc,.int .u16 ec])∧RowsT w' xo X∧Below w.heap.size w w'
theorem tombs_out {bs:List Nat}{w w':World}{e:Ending}(h:OpenEnd w bs e w'):TombsOut (tombsOf bs) (ocOf bs) w e w'∧(tombsOf bs).length≤65535∧SmallT (tombsOf bs):=by
 obtain⟨hb,h⟩:=h
 rcases h with ⟨hm,rfl⟩|⟨l,u,hm,rfl,hr,h1,h2⟩
 ·rw [show tombsOf bs=[] by unfold tombsOf;rw [hm];rfl,show ocOf bs=150 by unfold ocOf;rw [hm];rfl]
  exact⟨⟨none,0,rfl,fun h=>absurd rfl h,hb⟩,by simp,fun t ht=>by simp at ht⟩
 ·rw [show tombsOf bs=l by unfold tombsOf;rw [hm];rfl,show ocOf bs=0 by unfold ocOf;rw [hm];rfl]
  obtain⟨o,c,rfl,_,h3⟩:=hr.rows
  exact⟨⟨o,c,rfl,h3,hb⟩,h1,h2⟩
theorem Row8.bySl {w:World}{B:Nat}{v:Value}{t:List Nat}(h:Row8 w B v t) (hne:t≠[]):BySl w v t:=by
 have hc:=row8_flat h
 rcases h.2 with ⟨e,hx⟩|⟨g,cap,cur,rfl,_,_,h3,h4,_⟩
 ·exact absurd (List.eq_nil_of_length_eq_zero hx) hne
 ·obtain⟨o,c,e,_,h5⟩:=hc
  simp only [Value.slice.injEq,true_and] at e
  obtain⟨rfl,rfl⟩:=e
  obtain⟨b,off,e,h6⟩:=h5 (fun e=>hne (by unfold octs at e;exact List.map_eq_nil_iff.1 e))
  cases e
  exact⟨_,0,cap,rfl,h3,h4,h6⟩
theorem done_bound {l:List Tomb}(h:wts l+l.length≤20000):(doneB l).length≤1000000:=by
 have h1:∀m:List Lbl,(m.flatMap lblB).length≤4 * m.length+wtL m:=fun m=>by
  unfold wtL
  induction m with
  | nil=>simp
  | cons y m ih =>
   rw [List.flatMap_cons,List.length_append,List.map_cons,List.sum_cons,List.length_cons]
   have h2:(lblB y).length=4+(y.1.length+y.2.length):=by
    unfold lblB two
    rw [List.length_append,List.length_append,List.length_append,low_len,low_len,nums_len,nums_len]
    omega
   omega
 have h2:∀m:List Tomb,(m.flatMap tombB).length≤17 * m.length+4 * wts m:=fun m=>by
  unfold wts
  induction m with
  | nil=>simp
  | cons t m ih =>
   rw [List.flatMap_cons,List.length_append,List.map_cons,List.sum_cons,List.length_cons]
   have h3:=h1 t.1
   have h4:(tombB t).length≤17+4 * wtT t:=by
    unfold tombB labsB wtT
    rw [List.length_append,List.length_append,low_len,low_len,List.length_cons]
    omega
   omega
 have h3:=h2 l
 unfold doneB bodyB
 rw [List.length_append,List.length_append,low_len,low_len]
 omega
theorem done_bytes {l:List Tomb}(h:MayT l):∀x∈doneB l,x<256:=by
 intro x hx
 unfold doneB at hx
 rcases List.mem_append.1 hx with hx | hx
 ·exact bodyB_bytes h x hx
 ·exact low_lt _ _ _ hx
theorem Within.below {B S:Nat}{w w':World}(h:Within B S w w'):Below B w w':=⟨h.os,h.tape,h.output,by rw [h.size];exact Nat.le_refl _,fun k hk=>h.block k (.inl hk)⟩
theorem row8_within {W W':World}{B S T:Nat}{v:Value}{t:List Nat}(h:Row8 W T v t) (hw:Within B S W W') (hT:S≤T):Row8 W' T v t :=
 ownsRow_blocks h fun g hg=>hw.block g (.inr (Nat.le_trans hT (ownsRow_block h hg).1))
set_option maxRecDepth 20000 in
set_option maxHeartbeats 4000000 in
theorem law_any (o o2:Option Addr) (n c n2 c2:Nat) (l:List Tomb) (bs:List Nat) (w:World) (hw8:10≤w.heap.size) (hl:l.length=n) (hv:VastT l) (hc:RowsT w o l) (h64:∀t∈l,In64 t.2.1∧In64 t.2.2) (hbl:bs.length=n2) (hb8:∀x∈bs,x<256) (hbc:0<n2→BySl w (.slice o2 n2 c2) bs) (hg:ErrG w) (hH:HalfOk)
  (hk:∀W:World,Below w.heap.size w W→Calls Tryz.prog 12 #[] W fun e W'=>e=.returned (.bool true)∧Below W.heap.size W W') :
  Calls Tryz.prog 3 #[.slice o n c,.slice o2 n2 c2] w fun e w'=>e=.returned (.bool true)∧Below w.heap.size w w':=by
 have HM:=Lib.hid (lheavy_any o n c l w hl hv hc)
 have Hc:=Lib.hid hc
 have Hbc:=Lib.hid hbc
 have Hk:=Lib.hid hk
 have HH:=Lib.hid hH
 have Hl:=Lib.hid hl
 have Hbl:=Lib.hid hbl
 have Hb8:=Lib.hid hb8
 have Hg:=Lib.hid hg
 have H64:=Lib.hid h64
 clear hv hc hbc hk hH hl hbl hb8 hg h64
 go_enter Tryz.func3,Tryz.ntmps3
 go_wp2_with fail
 refine HM.out.mono ?_
 clear HM
 rintro e w1 ⟨hsays,q,rfl⟩
 have Hc1:Hid (RowsT (w.drewN q) o l):=Lib.hid (Hc.out.olds (Olds.drewN _ _))
 have B1:Hid (Below w.heap.size w (w.drewN q)):=Lib.hid ⟨rfl,rfl,rfl,Nat.le_refl _,fun _ _=>rfl⟩
 have S1:(w.drewN q).heap.size=w.heap.size:=rfl
 generalize w.drewN q=w1 at *
 rcases hsays with rfl|⟨rfl,hsmall,h200⟩
 ·go_wp2_with fail
  go_ret
  exact⟨rfl,B1.out⟩
 have hsm:wts l+l.length≤20000:=by rw [Hl.out];exact hsmall
 have Hs:=Lib.hid (smallT_of hsm)
 have Hsm:=Lib.hid hsm
 clear hsm hsmall
 by_cases hbig:20000<n2
 ·go_wp2_with fail
  go_ret
  exact⟨rfl,B1.out⟩
 have HE:Hid (∀(W:World) (o:Option Addr) (c:Nat),10≤W.heap.size→ErrG W→RowsT W o l→Calls Tryz.prog 6 #[.slice o n c] W (BytesOut (bytesOf l) (ecOf l) W)):=Lib.hid (fun W o c h8 hg hr=>(btombs_rows HH.out o c n l W Hl.out (by omega) Hs.out hr hg h8).mono fun e w' h=>bytes_out h)
 have HR:Hid (∀(W:World) (o:Option Addr) (c:Nat),RowsT W o l→Calls Tryz.prog 9 #[.slice o n c] W (BytesOut (bytesOf l) (ecOf l) W)):=Lib.hid (fun W o c hr=>(rtombs_rows o c n l W Hl.out (by omega) Hs.out hr).mono fun e w' h=>bytes_out h)
 have HO:Hid (∀(W:World),10≤W.heap.size→ErrG W→(0<n2→BySl W (.slice o2 n2 c2) bs)→Calls Tryz.prog 10 #[.slice o2 n2 c2] W fun e w'=>TombsOut (tombsOf bs) (ocOf bs) W e w'∧(tombsOf bs).length≤65535∧SmallT (tombsOf bs)):=Lib.hid (fun W h8 hg hb=>(bopen_any HH.out h8 hg ⟨o2,c2,by rw [Hbl.out]⟩ (fun h6=>hb (by have:=Hbl.out;omega)) Hb8.out (by have:=Hbl.out;omega)).mono fun e w' h=>tombs_out h)
 have HP:Hid (∀(W:World),(0<n2→BySl W (.slice o2 n2 c2) bs)→Calls Tryz.prog 11 #[.slice o2 n2 c2] W fun e w'=>TombsOut (tombsOf bs) (ocOf bs) W e w'∧(tombsOf bs).length≤65535∧SmallT (tombsOf bs)):=Lib.hid (fun W hb=>(ropen_any ⟨o2,c2,by rw [Hbl.out]⟩ (fun h6=>hb (by have:=Hbl.out;omega)) Hb8.out (by have:=Hbl.out;omega)).mono fun e w' h=>tombs_out h)
 have HZ:Hid ((bytesOf l).length≤1000000):=Lib.hid (by
  unfold bytesOf
  split
  ·exact done_bound Hsm.out
  ·simp)
 have HQ:Hid (ecOf l=0∨ecOf l=150):=Lib.hid (by unfold ecOf;split<;>simp)
 have HF:Hid (ecOf l=0→bytesOf l≠[]∧(∀(W:World) (v:Value),10≤W.heap.size→ErrG W→(∃o c,v=.slice o (bytesOf l).length c)→BySl W v (bytesOf l)→Calls Tryz.prog 10 #[v] W fun e w'=>∃xo xc,e=.returned (.tuple #[.slice xo n xc,.int .u16 0])∧RowsT w' xo l∧Below W.heap.size W w')):=Lib.hid (fun he=>by
  have hm:MayT l:=by
   by_cases hm:MayT l
   ·exact hm
   ·rw [show ecOf l=150 from if_neg hm] at he
    cases he
  rw [show bytesOf l=doneB l from if_pos hm]
  refine⟨fun e=>?_,fun W v h8 hg hv hb=>?_⟩
  ·have:(doneB l).length=(bodyB l).length+4:=by unfold doneB;rw [List.length_append,low_len]
   rw [e] at this
   simp at this
  ·refine (bopen_any HH.out h8 hg hv (fun _=>hb) (done_bytes hm) (done_bound Hsm.out)).mono fun e w' h=>?_
   obtain⟨⟨xo,xc,h1,h2,h3⟩,_⟩:=tombs_out h
   have e1:tombsOf (doneB l)=l:=by unfold tombsOf;rw [opened_done hm H64.out];rfl
   have e2:ocOf (doneB l)=0:=by unfold ocOf;rw [opened_done hm H64.out];rfl
   rw [e1] at h1 h2
   rw [e2] at h1
   rw [Hl.out] at h1
   exact⟨xo,xc,h1,h2,h3⟩)
 generalize bytesOf l=X at *
 generalize ecOf l=ec at *
 generalize tombsOf bs=Y at *
 generalize ocOf bs=oc at *
 go_wp2_with fail
 refine (lent_tombs o n c l w1 Hl.out h200 Hs.out Hc1.out).mono ?_
 rintro e w2 ⟨u,rfl,hlent,hb2⟩
 have Hlent:=Lib.hid hlent
 obtain⟨gl,cl,rfl,hrow⟩:=hlent.rows
 rw [Hl.out] at Hlent ⊢
 have S2:w1.heap.size≤w2.heap.size:=hb2.size
 have B2:Hid (Below w.heap.size w w2):=Lib.hid (B1.out.trans (hb2.mono (by omega)))
 have Hrow:=Lib.hid hrow
 clear hlent hrow hb2
 go_wp2_with fail
 refine (HE.out w2 (some ⟨gl,0,none⟩) cl (by omega) ((Olds.of_below B2.out).cell Hg.out) Hrow.out).mono ?_
 rintro e w3 ⟨xo,xc,rfl,hx,hb3⟩
 have S3:w2.heap.size≤w3.heap.size:=hb3.size
 have O23:Hid (Olds w2 w3):=Lib.hid (Olds.of_below hb3)
 have B3:Hid (Below w.heap.size w w3):=Lib.hid (B2.out.trans (hb3.mono (by omega)))
 have Hx3:=Lib.hid hx
 clear hx hb3
 go_wp2_with fail
 refine (whole_tombs o n c l w3 Hl.out h200 Hs.out (Hlent.out.olds O23.out) (Hc.out.olds (Olds.of_below B3.out))).mono ?_
 rintro e w5 ⟨rfl,q5,rfl⟩
 have B5:Hid (Below w.heap.size w (w3.drewN q5)):=Lib.hid (B3.out.trans ⟨rfl,rfl,rfl,Nat.le_refl _,fun _ _=>rfl⟩)
 have O35:Hid (Olds w3 (w3.drewN q5)):=Lib.hid (Olds.drewN _ _)
 have S5:(w3.drewN q5).heap.size=w3.heap.size:=rfl
 generalize w3.drewN q5=w5 at *
 go_wp2_with fail
 refine (spoil_tombs w2 w5 Hlent.out (O23.out.trans O35.out)).mono ?_
 rintro e w6 ⟨rfl,hw6⟩
 have Hx6:Hid (Row8 w6 w2.heap.size (.slice xo X.length xc) X):=Lib.hid (row8_within (ownsRow_olds Hx3.out O35.out) hw6 (Nat.le_refl _))
 have B6:Hid (Below w.heap.size w w6):=Lib.hid (B5.out.trans (hw6.below.mono (by omega)))
 have S6:w6.heap.size=w5.heap.size:=hw6.size
 clear hw6
 go_wp2_with fail
 refine (HR.out w6 o c (Hc.out.olds (Olds.of_below B6.out))).mono ?_
 rintro e w7 ⟨zo,zc,rfl,hz,hb7⟩
 have S7:w6.heap.size≤w7.heap.size:=hb7.size
 have O67:Hid (Olds w6 w7):=Lib.hid (Olds.of_below hb7)
 have B7:Hid (Below w.heap.size w w7):=Lib.hid (B6.out.trans (hb7.mono (by omega)))
 have Hz7:=Lib.hid hz
 clear hz hb7
 go_wp2_with fail
 refine (HO.out w7 (by omega) ((Olds.of_below B7.out).cell Hg.out) (fun h=>(Hbc.out h).olds (Olds.of_below B7.out))).mono ?_
 rintro e w8 ⟨⟨po,pc,rfl,hp,hb8⟩,hY1,hY2⟩
 have S8:w7.heap.size≤w8.heap.size:=hb8.size
 have O78:Hid (Olds w7 w8):=Lib.hid (Olds.of_below hb8)
 have B8:Hid (Below w.heap.size w w8):=Lib.hid (B7.out.trans (hb8.mono (by omega)))
 have Hp8:=Lib.hid hp
 have HY2:=Lib.hid hY2
 clear hp hb8 hY2
 go_wp2_with fail
 refine (HP.out w8 (fun h=>(Hbc.out h).olds (Olds.of_below B8.out))).mono ?_
 rintro e w9 ⟨⟨ro,rc,rfl,hr,hb9⟩,_,_⟩
 have S9:w8.heap.size≤w9.heap.size:=hb9.size
 have O89:Hid (Olds w8 w9):=Lib.hid (Olds.of_below hb9)
 have B9:Hid (Below w.heap.size w w9):=Lib.hid (B8.out.trans (hb9.mono (by omega)))
 have Hr9:=Lib.hid hr
 clear hr hb9
 go_wp2_with fail
 refine (Hk.out w9 B9.out).mono ?_
 rintro e w10 ⟨rfl,hb10⟩
 have S10:w9.heap.size≤w10.heap.size:=hb10.size
 have O9:Hid (Olds w9 w10):=Lib.hid (Olds.of_below hb10)
 have B10:Hid (Below w.heap.size w w10):=Lib.hid (B9.out.trans (hb10.mono (by omega)))
 have O79:Hid (Olds w7 w10):=Lib.hid ((O78.out.trans O89.out).trans O9.out)
 have HX10:Hid (Row8 w10 w2.heap.size (.slice xo X.length xc) X):=Lib.hid (ownsRow_olds Hx6.out (O67.out.trans O79.out))
 have Hx10:Hid (Row8F w10 xo X):=Lib.hid (by obtain⟨_,_,e,h⟩:=row8F_of (row8_flat HX10.out);cases e;exact h)
 have Hz10:Hid (Row8F w10 zo X):=Lib.hid (by obtain⟨_,_,e,h⟩:=row8F_of (row8_flat Hz7.out);cases e;exact h.olds O79.out)
 clear hb10
 go_wp2_with fail
 refine (same_bytes xo zo X.length xc zc X w10 rfl (by have:=HZ.out;omega) Hx10.out Hz10.out).mono ?_
 rintro e w12 ⟨rfl,q12,rfl⟩
 have O12:Hid (Olds w10 (w10.drewN q12)):=Lib.hid (Olds.drewN _ _)
 have B12:Hid (Below w.heap.size w (w10.drewN q12)):=Lib.hid (B10.out.trans ⟨rfl,rfl,rfl,Nat.le_refl _,fun _ _=>rfl⟩)
 have S12:(w10.drewN q12).heap.size=w10.heap.size:=rfl
 generalize w10.drewN q12=w12 at *
 go_wp2_with fail
 refine (same_tombs po ro Y.length pc rc Y w12 rfl hY1 HY2.out (Hp8.out.olds ((O89.out.trans O9.out).trans O12.out)) (Hr9.out.olds (O9.out.trans O12.out))).mono ?_
 rintro e w13 ⟨rfl,q13,rfl⟩
 have O13:Hid (Olds w10 (w12.drewN q13)):=Lib.hid (O12.out.trans (Olds.drewN _ _))
 have B13:Hid (Below w.heap.size w (w12.drewN q13)):=Lib.hid (B12.out.trans ⟨rfl,rfl,rfl,Nat.le_refl _,fun _ _=>rfl⟩)
 have S13:(w12.drewN q13).heap.size=w12.heap.size:=rfl
 generalize w12.drewN q13=w13 at *
 rcases HQ.out with rfl | rfl
 ·go_wp2_with fail
  have hX:=HF.out (by simp)
  have hBy:=Row8.bySl (ownsRow_olds HX10.out O13.out) hX.1
  refine (hX.2 w13 _ (by omega) ((Olds.of_below B13.out).cell Hg.out) ⟨_,_,rfl⟩ hBy).mono ?_
  rintro e w14 ⟨yo,yc,rfl,hy,hb14⟩
  have B14:Hid (Below w.heap.size w w14):=Lib.hid (B13.out.trans (hb14.mono (by omega)))
  have Hy:=Lib.hid hy
  clear hX hBy hy hb14
  go_wp2_with fail
  refine (same_tombs yo o n yc c l w14 Hl.out (by omega) Hs.out Hy.out (Hc.out.olds (Olds.of_below B14.out))).mono ?_
  rintro e w15 ⟨rfl,q15,rfl⟩
  have B15:Hid (Below w.heap.size w (w14.drewN q15)):=Lib.hid (B14.out.trans ⟨rfl,rfl,rfl,Nat.le_refl _,fun _ _=>rfl⟩)
  generalize w14.drewN q15=w15 at *
  go_wp2_with fail
  go_ret
  exact⟨rfl,B15.out⟩
 ·go_wp2_with fail
  go_ret
  exact⟨rfl,B13.out⟩
end Go.Proofs.YtejeflddeanccaaGreatDoor
