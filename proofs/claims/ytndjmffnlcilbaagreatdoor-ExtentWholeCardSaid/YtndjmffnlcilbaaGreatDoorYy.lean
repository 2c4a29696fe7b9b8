/- Contracts over this program. Their conditions: the slices read as the lists that are named, and lie within the sizes that are named. -/
import Derived.Test.YtndjmffnlcilbaaGreatDoorYx
set_option linter.unusedSimpArgs false
set_option linter.unusedVariables false
set_option linter.deprecated false
set_option linter.unnecessarySimpa false
namespace Go.Proofs.YtndjmffnlcilbaaGreatDoor
open Go Go.RowKit Go.Ix Go.Ext Go.Maps
def Found (w wr:World) (B db sm n which:Nat) (r:Got) (sb:Nat):Prop :=
 ∃tb nb xb nm uv dv,w.heap.size≤sb∧w.heap.size≤nb∧w.heap.size≤xb∧w.heap.size≤tb∧nm≤256∧SCell wr sb db tb n nb xb n which r.gen uv dv∧∀sb',SR wr B sb' tb n nb xb nm uv dv (opened n r.secs r.files)
structure OS (w wr:World) (B db sm n:Nat) (t:Dk) (v0 v1:Value):Prop where
 dk:DK wr B db sm n t
 fr:Fr B TD [sm] w wr
 r0:∃g c,v0=.slice (some ⟨g,0,none⟩) 256 c∧RowB wr w.heap.size v0 (sec t.view 0) 256
 r1:∃g c,v1=.slice (some ⟨g,0,none⟩) 256 c∧RowB wr w.heap.size v1 (sec t.view 1) 256
section
variable {w wr w':World}{B db sm n which sb:Nat}{t:Dk}{v0 v1:Value}{r:Got}
theorem row_fr {wr w':World}{B db sm n:Nat}{t:Dk}{B0 m:Nat}{v:Value}{bs:List Nat}(hd:DK wr B db sm n t) (h:RowB wr B0 v bs m) (hf:Fr B TD [sm] wr w'):RowB w' B0 v bs m:=by
 obtain⟨es,c,hk⟩:=hd.seen.kind
 obtain⟨h1,h2⟩:=h
 refine⟨?_,h2⟩
 unfold Row8 at h1 ⊢
 refine hf.keepRow h1 (by decide) fun k hk2 hm=>?_
 obtain⟨cur,hc⟩:=own_kind h1 hk2
 rw [List.mem_singleton.1 hm,hk] at hc
 cases hc
theorem OS.go (h:OS w wr B db sm n t v0 v1) (hd:DK w' B db sm n t) (hf:Fr B TD [sm] wr w'):OS w w' B db sm n t v0 v1:=by
 obtain⟨g0,c0,e0,q0⟩:=h.r0
 obtain⟨g1,c1,e1,q1⟩:=h.r1
 exact⟨hd,h.fr.trans hf,⟨g0,c0,e0,row_fr h.dk q0 hf⟩,⟨g1,c1,e1,row_fr h.dk q1 hf⟩⟩
theorem Found.go (h:Found w wr B db sm n which r sb) (hw:sm<w.heap.size) (hd:DK wr B db sm n t) (hf:Fr B TD [sm] wr w'):Found w w' B db sm n which r sb:=by
 obtain⟨tb,nb,xb,nm,uv,dv,h1,h2,h3,h4,h5,h6,h7⟩:=h
 obtain⟨es,c,hk⟩:=hd.seen.kind
 refine⟨tb,nb,xb,nm,uv,dv,h1,h2,h3,h4,h5,hf.keep h6 (by simp only [List.mem_singleton];omega) (by decide),fun sb'=>(h7 sb').fr hf (by decide) (by simp only [List.mem_singleton];omega) (by simp only [List.mem_singleton];omega) fun b hb cs ty fr hty e=>?_⟩
 rw [List.mem_singleton.1 hb,hk] at e
 cases e
end
def OpenEnd (w:World) (B db sm n cur:Nat) (t:Dk) (e:Ending) (w':World):Prop :=
 DK w' B db sm n t∧Fr B TD [sm] w w'∧∃r sb,tryAt isNm n t.las cur=some r∧e=.returned (.tuple #[.pointer (some ⟨sb,0,none⟩),.int .u16 0])∧Found w w' B db sm n cur r sb
def Best (w wr:World) (B db sm n cur gen k:Nat) (t:Dk) (v:Value):Prop :=
 (k≤cur∧(v=.pointer none∨∃r sb which,v=.pointer (some ⟨sb,0,none⟩)∧r.gen<gen∧Found w wr B db sm n which r sb))∨(cur<k∧∃r sb,v=.pointer (some ⟨sb,0,none⟩)∧r.gen=gen∧tryAt isNm n t.las cur=some r∧Found w wr B db sm n cur r sb)
theorem mag_conv {W:World}{g c:Nat}{bs:List Nat}{B0:Nat}(h:RowB W B0 (.slice (some ⟨g,0,none⟩) 256 c) bs 256):(convert 34 9 (.slice (some ⟨g,0,none⟩) 4 c)).run Tryz.prog W=.ok (encStr (toTxt (bs.take 4))) W:=by
 obtain⟨h1,h8,hl⟩:=h
 unfold Row8 at h1
 rw [hl] at h1
 have hc:=ownsRow_cell h1
 have hsl:(toTxt (bs.take 4)).length=4:=by unfold toTxt;rw [List.length_map,List.length_take];omega
 have:=run_convert_bytes_back (P:=Tryz.prog) W 34 9 5 ⟨g,0,none⟩ c (toTxt (bs.take 4)) Tryz.underlying34 Tryz.underlying5 Tryz.underlying9 fun j hj=>by
  rw [hsl] at hj
  have hjr:j<bs.length:=by omega
  have h9:=hc j (.int .u8 (bs[j]:Nat)) (by unfold octs;simp [hjr])
  rw [WideShapes.add_plain]
  have h10:=h8 _ (List.getElem_mem hjr)
  have h11:(((toTxt (bs.take 4))[j]'(by rw [hsl];exact hj)).toNat:Int)=(bs[j]:Nat):=by
   simp only [toTxt,List.getElem_map,List.getElem_take,UInt8.toNat_ofNat']
   rw [Nat.mod_eq_of_lt h10]
  rw [h11]
  exact h9
 rw [hsl] at this
 exact this
theorem mag_iff {bs:List Nat}(h8:∀x∈bs,x<256):(toTxt (bs.take 4) == [66,71,88,49])=decide (bs.take 4=magicB):=by
 have h:toTxt (bs.take 4)=[66,71,88,49]↔bs.take 4=magicB:=by
  constructor
  ·intro h
   have h9:octets (toTxt (bs.take 4))=octets [66,71,88,49]:=by rw [h]
   unfold octets toTxt at h9
   rw [List.map_map] at h9
   have h10:(bs.take 4).map (UInt8.toNat ∘ UInt8.ofNat)=bs.take 4:=by
    conv=>rhs;rw [← List.map_id (bs.take 4)]
    refine List.map_congr_left fun x hx=>?_
    have:=h8 x (List.mem_of_mem_take hx)
    simp [Nat.mod_eq_of_lt this]
   rw [h10] at h9
   exact h9
  ·intro h
   rw [h]
   rfl
 by_cases hd:bs.take 4=magicB
 ·rw [decide_eq_true hd,h.2 hd]
  rfl
 ·rw [decide_eq_false hd]
  simpa using fun e=>hd (h.1 e)
theorem Found.gen {w wr:World}{B db sm n which sb rg:Nat}{r:Got}(h:Found w wr B db sm n which r sb) (hg:r.gen=rg):wr.drew.cell? ⟨sb,2,none⟩=some (.int .u64 (rg:Nat)):=by
 obtain⟨tb,nb,xb,nm,uv,dv,_,_,_,_,_,h6,_⟩:=h
 have h7:wr.drew.heap[sb]?=_:=h6
 rw [cell_of_heap h7,← hg]
 rfl
section
variable {w wr w':World}{B db sm n cur gen k:Nat}{t:Dk}{v:Value}
theorem Best.go (h:Best w wr B db sm n cur gen k t v) (hw:sm<w.heap.size) (hd:DK wr B db sm n t) (hf:Fr B TD [sm] wr w'):Best w w' B db sm n cur gen k t v:=by
 rcases h with ⟨h1,h2|⟨r,sb,which,h2,h3,h4⟩⟩|⟨h1,r,sb,h2,h3,h4,h5⟩
 ·exact .inl ⟨h1,.inl h2⟩
 ·exact .inl ⟨h1,.inr ⟨r,sb,which,h2,h3,h4.go hw hd hf⟩⟩
 ·exact .inr ⟨h1,r,sb,h2,h3,h4,h5.go hw hd hf⟩
theorem Best.stay (h:Best w wr B db sm n cur gen k t v) (hne:k≠cur):Best w wr B db sm n cur gen (k+1) t v:=by
 rcases h with ⟨h1,h2⟩|⟨h1,h2⟩
 ·exact .inl ⟨by omega,h2⟩
 ·exact .inr ⟨by omega,h2⟩
theorem Best.take {r:Got}{sb:Nat}(h1:k=cur→r.gen=gen∧tryAt isNm n t.las cur=some r) (h2:k<cur→r.gen<gen) (hk:k≤cur) (hF:Found w wr B db sm n k r sb):Best w wr B db sm n cur gen (k+1) t (.pointer (some ⟨sb,0,none⟩)):=by
 rcases Nat.lt_or_ge k cur with h | h
 ·exact .inl ⟨h,.inr ⟨r,sb,k,rfl,h2 h,hF⟩⟩
 ·obtain rfl:k=cur:=by omega
  exact .inr ⟨by omega,r,sb,rfl,(h1 rfl).1,(h1 rfl).2,hF⟩
end
theorem RowB.mono {w:World}{B B' m:Nat}{v:Value}{bs:List Nat}(h:RowB w B v bs m) (hB:B'≤B):RowB w B' v bs m:=⟨ownsRow_mono h.1 hB,h.2⟩
theorem open_cell {w wr:World}{B db sm n ab i:Nat}{t:Dk}{v u0 u1:Value}(hd:DK wr B db sm n t) (hf:Fr B TD [sm] w wr) (hc:wr.heap[ab]?=some (.cells #[u0,u1] 77 (0,0))) (hab:w.heap.size≤ab) (hBa:B≤ab) :
  DK (wr.setCell ⟨ab,i,none⟩ v) B db sm n t∧Fr B TD [sm] w (wr.setCell ⟨ab,i,none⟩ v)∧∀{B0 m:Nat}{x:Value}{bs:List Nat},RowB wr B0 x bs m→RowB (wr.setCell ⟨ab,i,none⟩ v) B0 x bs m:=by
 have hk:∀b,b≠ab→(wr.setCell ⟨ab,i,none⟩ v).heap[b]?=wr.heap[b]?:=fun b hb=>Below.heap_setCell _ _ _ _ hb
 have h0:Fr 0 [] [ab] wr (wr.setCell ⟨ab,i,none⟩ v):=(On.cell wr ab i v).fr0
 obtain⟨es,c,hk2⟩:=hd.seen.kind
 refine⟨hd.fr h0 (by simp) (fun hm=>?_) (fun b hb=>.inr ?_),⟨hf.below.trans ⟨h0.below.os,h0.below.tape,h0.below.output,h0.below.size,fun b hb=>hk b ?_⟩,fun b o hb hm ht=>?_⟩,fun {B0 m x bs} h=>?_⟩
 ·rw [List.mem_singleton.1 hm,hc] at hk2
  cases hk2
 ·rw [List.mem_singleton.1 hb]
  exact⟨_,_,_,hc,by decide⟩
 ·omega
 ·rw [hk b (by have:=heap_lt hb;omega)]
  exact hf.sp b o hb hm ht
 ·refine⟨?_,h.2⟩
  have h1:=h.1
  unfold Row8 at h1 ⊢
  refine ownsRow_blocks h1 fun k hk3=>hk k fun e=>?_
  obtain⟨cur,h9⟩:=own_kind h1 hk3
  rw [e,hc] at h9
  simp at h9
set_option maxRecDepth 20000 in
set_option maxHeartbeats 8000000 in
theorem open_any (hH:HalfOk) {w:World}{B db sm n cur gen:Nat}{t:Dk}{dir:List Nat}{now:Fs}(hdi:DK w B db sm n t) (hcalm:t.calm) (hcac:t.cac=[]) (hB:B≤w.heap.size) (hG:9≤w.heap.size) (hn:n≤62) (hn3:3≤n) (hbase:Base isNm n t.las cur gen dir now) :
  Calls Tryz.prog 10 #[.pointer (some ⟨db,0,none⟩)] w (OpenEnd w B db sm n cur t):=by
 have hv:t.view=t.las:=by unfold Dk.view;rw [hcac];rfl
 have hcl:t.cac.length≤1000000:=by rw [hcac];exact Nat.zero_le _
 have hsmw:=hdi.seen.lt
 have HSec:=Lib.hid (sectors_any hdi)
 obtain⟨F0,d0,hhere,_⟩:=hbase.here
 have hthere:=fun r h=>hbase.there (r:=r) h
 have hcur:=hbase.one
 obtain⟨X,hX⟩:∃X:World,X=w.alloc (.cells #[.slice none 0 0,.slice none 0 0] 77):=⟨_,rfl⟩
 obtain⟨ab,hab⟩:∃ab,ab=w.heap.size:=⟨_,rfl⟩
 have hXb:Below w.heap.size w X:=by rw [hX];exact (Below.refl _ _).alloc (Nat.le_refl _) _
 have hXc:X.heap[ab]?=some (.cells #[.slice none 0 0,.slice none 0 0] 77 (0,0)):=by rw [hX,hab];exact heap_alloc_new _ _
 have HX:=Lib.hid hX
 have HXc:=Lib.hid hXc
 have HXd:=Lib.hid (hdi.olds (Olds.of_below hXb))
 have HXf:Hid (Fr B TD [sm] w X):=Lib.hid (Fr.of_below hXb hB _ _)
 have Hab:=Lib.hid hab
 have Hcalm:=Lib.hid hcalm
 have Hhere:=Lib.hid hhere
 have Hthere:=Lib.hid hthere
 have Hv:=Lib.hid hv
 have habw:w.heap.size≤ab:=by omega
 clear hX hab hXc hXb hdi hcalm hhere hthere hbase hcac hv
 have hn2:((n:Int)<2)=False:=by simp;omega
 go_enter Tryz.func10,Tryz.ntmps10
 go_upto_region 4 with (go_at_call 22;refine HSec.out.mono ?_;clear HSec;rintro e w1 ⟨rfl,hw1⟩;rw [hw1];clear hw1 w1)
 rw [← HX.out,← Hab.out]
 go_wp2_with fail
 go_loopw [17] (fun iv wr=>∃(k:Nat) (u0 u1:Value),k≤2∧iv=.int .i64 k∧DK wr B db sm n t∧Fr B TD [sm] w wr∧wr.heap[ab]?=some (.cells #[u0,u1] 77 (0,0))∧(1≤k→∃g c,u0=.slice (some ⟨g,0,none⟩) 256 c∧RowB wr w.heap.size u0 (sec t.view 0) 256)∧(2≤k→∃g c,u1=.slice (some ⟨g,0,none⟩) 256 c∧RowB wr w.heap.size u1 (sec t.view 1) 256)) (fun iv _=>2-(intOf iv).toNat)
 case atStart=>exact⟨0,_,_,by decide,rfl,HXd.out,HXf.out,HXc.out,(fun h=>by omega),(fun h=>by omega)⟩
 case round =>
  obtain⟨k,u0,u1,hk,rfl,hdk,hfr,hc,h0,h1⟩:=hrel
  have Hdk:=Lib.hid hdk
  have Hfr:=Lib.hid hfr
  have Hc:=Lib.hid hc
  have H0:=Lib.hid h0
  have H1:=Lib.hid h1
  have hsz:=hfr.size
  have HRd:Hid (∀a,a<n→Calls Tryz.prog 34 #[.pointer (some ⟨db,0,none⟩),.int .i64 (a:Nat)] wr fun e w'=>∃g c,e=.returned (.tuple #[.slice (some ⟨g,0,none⟩) 256 c,.int .u16 0])∧RowB w' wr.heap.size (.slice (some ⟨g,0,none⟩) 256 c) (sec t.view a) 256∧DK w' B db sm n t∧Fr B TD [sm] wr w'):=Lib.hid (fun a ha=>by
   have h9:=dread_ok a hdk ha (by omega) hcl (by omega) Hcalm.out.ok
   rw [Hcalm.out.tick] at h9
   exact h9)
  have HKeep:Hid (∀w':World,Fr B TD [sm] wr w'→w'.heap[ab]?=some (.cells #[u0,u1] 77 (0,0))):=Lib.hid (fun w' hf=>hf.keep hc (fun hm=>by
   obtain⟨es,c,hk⟩:=hdk.seen.kind
   rw [← List.mem_singleton.1 hm,hc] at hk
   cases hk) (by decide))
  clear hdk hfr hc h0 h1
  rcases (show k=0∨k=1∨k=2 by omega) with rfl | rfl | rfl
  ·have HR:=Lib.hid (HRd.out 0 (by omega))
   clear HRd
   go_wp2_with (go_at_call 34;refine HR.out.mono ?_;clear HR;rintro e w1 ⟨gg,gcc,rfl,hr,hd1,hf1⟩;have hc1:=HKeep.out w1 hf1;have e1:w1.cell? ⟨ab,0,none⟩=some u0:=(by rw [cell_of_heap hc1];rfl);have e2:w1.frozen? ⟨ab,0,none⟩=false:=(by simp [World.frozen?,hc1]);have Hr:=Lib.hid hr;have Hd1:=Lib.hid hd1;have Hf1:=Lib.hid hf1;have Hc1:=Lib.hid hc1;clear hr hd1 hf1 hc1)
   go_roundw
   case rel =>
    have hab1:=heap_lt Hc1.out
    obtain⟨hn1,hn2',hn3'⟩:=open_cell (i:=0) (v:=.slice (some ⟨gg,0,none⟩) 256 gcc) Hd1.out (Hfr.out.trans Hf1.out) Hc1.out habw (by omega)
    refine⟨1,.slice (some ⟨gg,0,none⟩) 256 gcc,u1,by decide,rfl,hn1,hn2',by simp [World.setCell,Array.getElem?_modify,Hc1.out],?_,?_⟩
    ·intro _
     exact⟨gg,gcc,rfl,hn3' (RowB.mono Hr.out hsz)⟩
    ·intro h
     omega
   case measure=>simp [intOf]
  ·have HR:=Lib.hid (HRd.out 1 (by omega))
   clear HRd
   go_wp2_with (go_at_call 34;refine HR.out.mono ?_;clear HR;rintro e w1 ⟨gg,gcc,rfl,hr,hd1,hf1⟩;have hc1:=HKeep.out w1 hf1;have e1:w1.cell? ⟨ab,1,none⟩=some u1:=(by rw [cell_of_heap hc1];rfl);have e2:w1.frozen? ⟨ab,1,none⟩=false:=(by simp [World.frozen?,hc1]);have Hr:=Lib.hid hr;have Hd1:=Lib.hid hd1;have Hf1:=Lib.hid hf1;have Hc1:=Lib.hid hc1;clear hr hd1 hf1 hc1)
   go_roundw
   case rel =>
    have hab1:=heap_lt Hc1.out
    obtain⟨hn1,hn2',hn3'⟩:=open_cell (i:=1) (v:=.slice (some ⟨gg,0,none⟩) 256 gcc) Hd1.out (Hfr.out.trans Hf1.out) Hc1.out habw (by omega)
    refine⟨2,u0,.slice (some ⟨gg,0,none⟩) 256 gcc,by decide,rfl,hn1,hn2',by simp [World.setCell,Array.getElem?_modify,Hc1.out],?_,?_⟩
    ·intro _
     obtain⟨g0,c0,rfl,hr0⟩:=H0.out (by decide)
     exact⟨g0,c0,rfl,hn3' (row_fr Hdk.out hr0 Hf1.out)⟩
    ·intro _
     exact⟨gg,gcc,rfl,hn3' (RowB.mono Hr.out hsz)⟩
   case measure=>simp [intOf]
  ·obtain⟨g0,c0,rfl,hr0⟩:=H0.out (by decide)
   obtain⟨g1,c1,rfl,hr1⟩:=H1.out (by decide)
   rw [show ((2:Nat):Int)=2 from rfl]
   have hOS:OS w wr B db sm n t (.slice (some ⟨g0,0,none⟩) 256 c0) (.slice (some ⟨g1,0,none⟩) 256 c1):=⟨Hdk.out,Hfr.out,⟨g0,c0,rfl,hr0⟩,⟨g1,c1,rfl,hr1⟩⟩
   have HOS:=Lib.hid hOS
   have k0:wr.cell? ⟨ab,0,none⟩=some (.slice (some ⟨g0,0,none⟩) 256 c0):=by rw [cell_of_heap Hc.out];rfl
   have k1:wr.cell? ⟨ab,1,none⟩=some (.slice (some ⟨g1,0,none⟩) 256 c1):=by rw [cell_of_heap Hc.out];rfl
   have hx0:∀W:World,(Instr.index 77 (.agg #[.slice (some ⟨g0,0,none⟩) 256 c0,.slice (some ⟨g1,0,none⟩) 256 c1]) (.int .i64 0)).run Tryz.prog W=.ok (.slice (some ⟨g0,0,none⟩) 256 c0) W:=fun _=>by kernel_rfl
   have hx1:∀W:World,(Instr.index 77 (.agg #[.slice (some ⟨g0,0,none⟩) 256 c0,.slice (some ⟨g1,0,none⟩) 256 c1]) (.int .i64 1)).run Tryz.prog W=.ok (.slice (some ⟨g1,0,none⟩) 256 c1) W:=fun _=>by kernel_rfl
   clear hOS hr0 hr1 HRd HKeep
   have HGood:Hid (∀(W:World) (k g c:Nat),OS w W B db sm n t (.slice (some ⟨g0,0,none⟩) 256 c0) (.slice (some ⟨g1,0,none⟩) 256 c1)→RowB W w.heap.size (.slice (some ⟨g,0,none⟩) 256 c) (sec t.view k) 256→Calls Tryz.prog 35 #[.pointer (some ⟨db,0,none⟩),.slice (some ⟨g,0,none⟩) 256 c,.int .i64 (k:Nat)] W (GoodEnd W B db sm n k t (sec t.view k))):=Lib.hid (fun W k g c hO hr=>by
    have hs:=hO.fr.size
    exact good_any hH hO.dk Hcalm.out hcl (Nat.le_trans hB hs) (Nat.le_trans hG hs) hn hn3 hr)
   go_wp2_with fail
   go_loopw [8,9,34] (fun bv sv iv wr=>∃(k:Nat) (b9:Bool),k≤2∧iv=.int .i64 k∧sv=.bool b9∧OS w wr B db sm n t (.slice (some ⟨g0,0,none⟩) 256 c0) (.slice (some ⟨g1,0,none⟩) 256 c1)∧Best w wr B db sm n cur gen k t bv∧(k=0→bv=.pointer none)) (fun _ _ iv _=>2-(intOf iv).toNat)
   case atStart=>exact⟨0,false,by decide,rfl,rfl,HOS.out,.inl ⟨Nat.zero_le _,.inl rfl⟩,fun _=>rfl⟩
   case round =>
    obtain⟨k,b9,hk,rfl,rfl,hO,hb,hb0⟩:=hrel
    have HO:=Lib.hid hO
    have Hb:=Lib.hid hb
    have Hb0:=Lib.hid hb0
    clear hO hb hb0
    rcases (show k=0∨k=1∨k=2 by omega) with rfl | rfl | rfl
    ·obtain⟨gk,ck,hek,hrk⟩:=HO.out.r0
     rw [show ((0:Nat):Int)=0 from rfl]
     simp only [Value.slice.injEq,Option.some.injEq,Addr.mk.injEq,and_true,true_and] at hek
     obtain⟨rfl,rfl⟩:=hek
     have hcv:=mag_conv hrk
     have hmg:=mag_iff hrk.2.1
     have hgc:256≤c0:=by
      have h9:=hrk.1
      unfold Row8 at h9
      rw [hrk.2.2] at h9
      rcases h9.2 with ⟨e,_⟩|⟨g',cap,cur,e,_,_,h1,_⟩
      ·cases e
      ·simp only [Value.slice.injEq] at e
       omega
     have hg4:(4:Int)≤(c0:Int):=by omega
     have HGd:=Lib.hid (HGood.out wr 0 _ _ HO.out hrk)
     clear hrk HGood
     by_cases hm:(sec t.view 0).take 4=magicB
     ·rw [decide_eq_true hm] at hmg
      have Hm:=Lib.hid hm
      clear hm
      cases hgd:Ext.good isNm n t.view (sec t.view 0) with
      | none =>
       have HG2:Hid (Calls Tryz.prog 35 #[.pointer (some ⟨db,0,none⟩),.slice (some ⟨g0,0,none⟩) 256 c0,.int .i64 0] wr fun e w'=>e=.returned (.tuple #[.pointer none,.int .u16 61])∧DK w' B db sm n t∧Fr B TD [sm] wr w'):=Lib.hid (HGd.out.mono fun e w' ⟨h1,h2,h3⟩=>by
        rcases h3 with ⟨_,he⟩|⟨r,_,_,_,_,_,_,_,h4,_⟩
        ·exact⟨he,h1,h2⟩
        ·rw [hgd] at h4
         cases h4)
       have hne:0≠cur:=fun e=>by
        have h9:=Hhere.out
        unfold tryAt at h9
        rw [← e,← Hv.out,if_pos Hm.out,hgd] at h9
        cases h9
       clear HGd hgd
       go_wp2_with (go_at_call 35;refine HG2.out.mono ?_;clear HG2;rintro e w1 ⟨rfl,hd1,hf1⟩;have HO1:=Lib.hid (HO.out.go (hd1.olds (Olds.drewN w1 1)) hf1.drew);have HB1:=Lib.hid ((Hb.out.go hsmw HO.out.dk hf1.drew).stay hne);clear hd1 hf1)
       go_region
       go_wp2_with fail
       go_roundw
       case rel=>exact⟨1,_,by decide,rfl,rfl,HO1.out,HB1.out,(fun h=>by omega)⟩
       case measure=>simp [intOf]
      | some r =>
       have htry:tryAt isNm n t.las 0=some r:=by
        unfold tryAt
        rw [← Hv.out,if_pos Hm.out,hgd]
       have HG2:Hid (Calls Tryz.prog 35 #[.pointer (some ⟨db,0,none⟩),.slice (some ⟨g0,0,none⟩) 256 c0,.int .i64 0] wr fun e w'=>∃sb,e=.returned (.tuple #[.pointer (some ⟨sb,0,none⟩),.int .u16 0])∧DK w' B db sm n t∧Fr B TD [sm] wr w'∧Found w w' B db sm n 0 r sb):=Lib.hid (HGd.out.mono fun e w' ⟨h1,h2,h3⟩=>by
        have hsz:=HO.out.fr.size
        rcases h3 with ⟨h4,_⟩|⟨r',sb,tb,nb,xb,nm,uv,dv,h4,he,k1,k2,k3,k4,k5,k6,k7⟩
        ·rw [hgd] at h4
         cases h4
        ·rw [hgd] at h4
         obtain rfl:=Option.some.inj h4
         exact⟨sb,he,h1,h2,tb,nb,xb,nm,uv,dv,by omega,by omega,by omega,by omega,k5,k6,k7⟩)
       obtain⟨rg,hrg⟩:∃rg,r.gen=rg:=⟨_,rfl⟩
       clear HGd hgd
       obtain rfl:=Hb0.out rfl
       have HTk:Hid (∀w1 sb,Found w w1 B db sm n 0 r sb→Best w w1 B db sm n cur gen 1 t (.pointer (some ⟨sb,0,none⟩))):=Lib.hid (fun w1 sb hF=>Best.take (k:=0) (fun e=>⟨by
        have h9:=Hhere.out
        rw [← e,htry] at h9
        rw [Option.some.inj h9],by rw [← e];exact htry⟩) (fun e=>Hthere.out r (by rw [show 1-cur=0 by omega];exact htry)) (Nat.zero_le _) hF)
       go_wp2_with (go_at_call 35;refine HG2.out.mono ?_;clear HG2;rintro e w1 ⟨sb,rfl,hd1,hf1,hF1⟩;have HO1:=Lib.hid (HO.out.go (hd1.olds (Olds.drewN w1 1)) hf1.drew);have HF1:=Lib.hid hF1;have x1:w1.drew.cell? ⟨sb,2,none⟩=some (.int .u64 (rg:Nat)):=hF1.gen hrg;have HB1:=Lib.hid (HTk.out w1.drew sb (hF1.go hsmw hd1 (Fr.refl _ _ _ w1).drew));clear hd1 hf1 hF1)
       go_region
       go_wp2_with fail
       go_roundw
       case rel=>exact⟨1,_,by decide,rfl,rfl,HO1.out,HB1.out,(fun h=>by omega)⟩
       case measure=>simp [intOf]
     ·have hne:0≠cur:=fun e=>by
       have h9:=Hhere.out
       unfold tryAt at h9
       rw [← e,← Hv.out,if_neg hm] at h9
       cases h9
      rw [decide_eq_false hm] at hmg
      go_wp2_with fail
      go_roundw
      case rel=>exact⟨1,_,by decide,rfl,rfl,HO.out,(Hb.out.stay hne),(fun h=>by omega)⟩
      case measure=>simp [intOf]
    ·obtain⟨gk,ck,hek,hrk⟩:=HO.out.r1
     rw [show ((1:Nat):Int)=1 from rfl]
     simp only [Value.slice.injEq,Option.some.injEq,Addr.mk.injEq,and_true,true_and] at hek
     obtain⟨rfl,rfl⟩:=hek
     have hcv:=mag_conv hrk
     have hmg:=mag_iff hrk.2.1
     have hgc:256≤c1:=by
      have h9:=hrk.1
      unfold Row8 at h9
      rw [hrk.2.2] at h9
      rcases h9.2 with ⟨e,_⟩|⟨g',cap,cur,e,_,_,h1,_⟩
      ·cases e
      ·simp only [Value.slice.injEq] at e
       omega
     have hg4:(4:Int)≤(c1:Int):=by omega
     have HGd:=Lib.hid (HGood.out wr 1 _ _ HO.out hrk)
     clear hrk HGood
     by_cases hm:(sec t.view 1).take 4=magicB
     ·rw [decide_eq_true hm] at hmg
      have Hm:=Lib.hid hm
      clear hm
      cases hgd:Ext.good isNm n t.view (sec t.view 1) with
      | none =>
       have HG2:Hid (Calls Tryz.prog 35 #[.pointer (some ⟨db,0,none⟩),.slice (some ⟨g1,0,none⟩) 256 c1,.int .i64 1] wr fun e w'=>e=.returned (.tuple #[.pointer none,.int .u16 61])∧DK w' B db sm n t∧Fr B TD [sm] wr w'):=Lib.hid (HGd.out.mono fun e w' ⟨h1,h2,h3⟩=>by
        rcases h3 with ⟨_,he⟩|⟨r,_,_,_,_,_,_,_,h4,_⟩
        ·exact⟨he,h1,h2⟩
        ·rw [hgd] at h4
         cases h4)
       have hne:1≠cur:=fun e=>by
        have h9:=Hhere.out
        unfold tryAt at h9
        rw [← e,← Hv.out,if_pos Hm.out,hgd] at h9
        cases h9
       clear HGd hgd
       go_wp2_with (go_at_call 35;refine HG2.out.mono ?_;clear HG2;rintro e w1 ⟨rfl,hd1,hf1⟩;have HO1:=Lib.hid (HO.out.go (hd1.olds (Olds.drewN w1 1)) hf1.drew);have HB1:=Lib.hid ((Hb.out.go hsmw HO.out.dk hf1.drew).stay hne);clear hd1 hf1)
       go_region
       go_wp2_with fail
       go_roundw
       case rel=>exact⟨2,_,by decide,rfl,rfl,HO1.out,HB1.out,(fun h=>by omega)⟩
       case measure=>simp [intOf]
      | some r =>
       have htry:tryAt isNm n t.las 1=some r:=by
        unfold tryAt
        rw [← Hv.out,if_pos Hm.out,hgd]
       have HG2:Hid (Calls Tryz.prog 35 #[.pointer (some ⟨db,0,none⟩),.slice (some ⟨g1,0,none⟩) 256 c1,.int .i64 1] wr fun e w'=>∃sb,e=.returned (.tuple #[.pointer (some ⟨sb,0,none⟩),.int .u16 0])∧DK w' B db sm n t∧Fr B TD [sm] wr w'∧Found w w' B db sm n 1 r sb):=Lib.hid (HGd.out.mono fun e w' ⟨h1,h2,h3⟩=>by
        have hsz:=HO.out.fr.size
        rcases h3 with ⟨h4,_⟩|⟨r',sb,tb,nb,xb,nm,uv,dv,h4,he,k1,k2,k3,k4,k5,k6,k7⟩
        ·rw [hgd] at h4
         cases h4
        ·rw [hgd] at h4
         obtain rfl:=Option.some.inj h4
         exact⟨sb,he,h1,h2,tb,nb,xb,nm,uv,dv,by omega,by omega,by omega,by omega,k5,k6,k7⟩)
       obtain⟨rg,hrg⟩:∃rg,r.gen=rg:=⟨_,rfl⟩
       clear HGd hgd
       rcases (show cur=1∨cur=0 by omega) with hc1 | hc1
       ·have hgen:r.gen=gen:=by
         have h9:=Hhere.out
         rw [hc1,htry] at h9
         rw [Option.some.inj h9]
        have HTk:Hid (∀w1 sb,Found w w1 B db sm n 1 r sb→Best w w1 B db sm n cur gen 2 t (.pointer (some ⟨sb,0,none⟩))):=Lib.hid (fun w1 sb hF=>Best.take (k:=1) (fun _=>⟨hgen,by rw [hc1];exact htry⟩) (fun e=>by omega) (by omega) hF)
        rcases Hb.out with ⟨_,hbn|⟨r',sb',which',rfl,hlt',hF'⟩⟩|⟨hbad,_⟩
        ·subst hbn
         clear hc1 hgen htry
         go_wp2_with (go_at_call 35;refine HG2.out.mono ?_;clear HG2;rintro e w1 ⟨sb,rfl,hd1,hf1,hF1⟩;have HO1:=Lib.hid (HO.out.go (hd1.olds (Olds.drewN w1 1)) hf1.drew);have HF1:=Lib.hid hF1;have x1:w1.drew.cell? ⟨sb,2,none⟩=some (.int .u64 (rg:Nat)):=hF1.gen hrg;have HB1:=Lib.hid (HTk.out w1.drew sb (hF1.go hsmw hd1 (Fr.refl _ _ _ w1).drew));clear hd1 hf1 hF1)
         go_region
         go_wp2_with fail
         go_roundw
         case rel=>exact⟨2,_,by decide,rfl,rfl,HO1.out,HB1.out,(fun h=>by omega)⟩
         case measure=>simp [intOf]
        ·have HF':=Lib.hid hF'
         obtain⟨rg',hrg'⟩:∃rg',r'.gen=rg':=⟨_,rfl⟩
         have hcmp:((rg':Nat):Int)<(rg:Int):=by omega
         clear hc1 hgen htry hF'
         go_wp2_with (go_at_call 35;refine HG2.out.mono ?_;clear HG2;rintro e w1 ⟨sb,rfl,hd1,hf1,hF1⟩;have HO1:=Lib.hid (HO.out.go (hd1.olds (Olds.drewN w1 1)) hf1.drew);have HF1:=Lib.hid hF1;have x1:w1.drew.cell? ⟨sb,2,none⟩=some (.int .u64 (rg:Nat)):=hF1.gen hrg;have HB1:=Lib.hid (HTk.out w1.drew sb (hF1.go hsmw hd1 (Fr.refl _ _ _ w1).drew));have x2:w1.drew.cell? ⟨sb',2,none⟩=some (.int .u64 (rg':Nat)):=(HF'.out.go hsmw HO.out.dk hf1).gen hrg';clear hd1 hf1 hF1)
         go_region
         go_wp2_with fail
         go_roundw
         case rel=>exact⟨2,_,by decide,rfl,rfl,HO1.out,HB1.out,(fun h=>by omega)⟩
         case measure=>simp [intOf]
        ·omega
       ·have hgen:r.gen<gen:=Hthere.out r (by rw [hc1];exact htry)
        rcases Hb.out with ⟨hbad,_⟩|⟨_,r',sb',rfl,hg',ht',hF'⟩
        ·omega
        ·have HF':=Lib.hid hF'
         have hcmp2:(((gen:Nat):Int)<(rg:Int))=False:=by simp;omega
         have hne:1≠cur:=by omega
         clear hgen htry hF'
         go_wp2_with (go_at_call 35;refine HG2.out.mono ?_;clear HG2;rintro e w1 ⟨sb,rfl,hd1,hf1,hF1⟩;have HO1:=Lib.hid (HO.out.go (hd1.olds (Olds.drewN w1 1)) hf1.drew);have HF1:=Lib.hid hF1;have x1:w1.drew.cell? ⟨sb,2,none⟩=some (.int .u64 (rg:Nat)):=hF1.gen hrg;have HB1:=Lib.hid ((Hb.out.go hsmw HO.out.dk hf1.drew).stay hne);have x2:w1.drew.cell? ⟨sb',2,none⟩=some (.int .u64 (gen:Nat)):=(HF'.out.go hsmw HO.out.dk hf1).gen hg';clear hd1 hf1 hF1)
         go_region
         go_wp2_with fail
         go_roundw
         case rel=>exact⟨2,_,by decide,rfl,rfl,HO1.out,HB1.out,(fun h=>by omega)⟩
         case measure=>simp [intOf]
     ·have hne:1≠cur:=fun e=>by
       have h9:=Hhere.out
       unfold tryAt at h9
       rw [← e,← Hv.out,if_neg hm] at h9
       cases h9
      rw [decide_eq_false hm] at hmg
      go_wp2_with fail
      go_roundw
      case rel=>exact⟨2,_,by decide,rfl,rfl,HO.out,(Hb.out.stay hne),(fun h=>by omega)⟩
      case measure=>simp [intOf]
    ·rcases Hb.out with ⟨hbad,_⟩|⟨_,r,sb,rfl,hg',ht',hF'⟩
     ·omega
     ·have HF':=Lib.hid hF'
      have Ht':=Lib.hid ht'
      clear hF' ht' HGood
      go_wp2_with fail
      go_ret2
      exact⟨HO.out.dk,HO.out.fr,r,sb,Ht'.out,rfl,HF'.out⟩
end Go.Proofs.YtndjmffnlcilbaaGreatDoor
