/- Contracts over this program. Their conditions: the slices read as the lists that are named, and lie within the sizes that are named. -/
import Derived.Test.YtndjmffnlcilbaaGreatDoorYl
import Derived.Test.YtndjmffnlcilbaaGreatDoorYo
set_option linter.unusedSimpArgs false
set_option linter.unusedVariables false
set_option linter.deprecated false
set_option linter.unnecessarySimpa false
namespace Go.Proofs.YtndjmffnlcilbaaGreatDoor
open Go Go.RowKit Go.Ix Go.Ext Go.Maps
def _root_.Go.Ext.tickN (K:Dk):Nat→Dk
 | 0=>K
 | j+1=>(tickN K j).tick
theorem tickN_las (K:Dk):∀j,(tickN K j).las=K.las
 | 0=>rfl
 | j+1=>(tick_las _).trans (tickN_las K j)
theorem tickN_cac (K:Dk):∀j,(tickN K j).cac=K.cac
 | 0=>rfl
 | j+1=>(tick_cac _).trans (tickN_cac K j)
theorem tickN_calm {K:Dk}(h:K.calm):∀j,tickN K j=K
 | 0=>rfl
 | j+1=>by show (tickN K j).tick=K;rw [tickN_calm h j,h.tick]
theorem tickN_view (K:Dk) (j:Nat):(tickN K j).view=K.view:=by unfold Dk.view;rw [tickN_las,tickN_cac]
def hit (fs:Fs) (L:List Sec) (s:Txt):Option (List Nat):=match Ext.look fs s with
 | some f=>if f.log=false∧((crc ((content L f.secs).take f.size):Nat):Int)=f.sum then some ((content L f.secs).take f.size) else none
 | none=>none
def GetEnd (w:World) (B db sm sb k D:Nat) (t:Dk) (slot gen:Nat) (g:G) (s:Txt) (e:Ending) (w':World):Prop :=
 Kp B w w'∧∃t':Dk,t'.las=t.las∧t'.cac=t.cac∧(t.calm→t'=t)∧
  ((t'.dark=false∧SI w' B db sm sb k D t' slot gen g∧
    ((∃ds,hit g.now t.view s=some ds∧∃o n c,e=.returned (.tuple #[.slice o n c,.int .u16 0])∧BytesAt w' (.slice o n c) ds∧ds.length=n∧∀x∈ds,x<256)∨(hit g.now t.view s=none∧∃(v:Value) (c:Nat),c≠0∧e=.returned (.tuple #[v,.int .u16 c]))))∨
   (t'.dark=true∧DK w' B db sm g.n t'∧∃v:Value,e=.returned (.tuple #[v,.int .u16 4])))
theorem content_snoc {L:List Sec}{l:List Nat}{j a:Nat}(h:l[j]?=some a):content L (l.take (j+1))=content L (l.take j)++sec L a:=by
 rw [List.take_add_one,h]
 unfold content
 rw [List.flatMap_append]
 simp [sec]
theorem row_cut {W:World}{B n sz:Nat}{v:Value}{bs:List Nat}(h:Row8 W B v bs) (hn:bs.length=n) (hz:sz≤n):∃vo vc,v=.slice vo n vc∧sz≤vc∧BytesAt W (.slice vo sz sz) (bs.take sz):=by
 unfold Row8 at h
 rw [hn] at h
 have hl:(bs.take sz).length=sz:=by rw [List.length_take];omega
 rcases h.2 with ⟨e,h0⟩|⟨g,cap,cur,e,_,_,hc,_⟩
 ·refine⟨none,0,by rw [e,h0],by omega,none,sz,by rw [hl],fun _=>by omega,fun hne=>absurd ?_ hne⟩
  have:bs.take sz=[]:=List.eq_nil_of_length_eq_zero (by omega)
  rw [this]
  rfl
 ·refine⟨_,cap,e,by omega,_,sz,by rw [hl],(fun e=>by cases e),fun _=>⟨g,0,rfl,fun i u hu=>?_⟩⟩
  rw [e] at h
  refine ownsRow_cell h i u ?_
  unfold octs at hu ⊢
  rw [List.map_take] at hu
  have hi:i<sz:=by
   have:=(List.getElem?_eq_some_iff.1 hu).1
   rw [List.length_take] at this
   omega
  rwa [List.getElem?_take_of_lt hi] at hu
theorem dread_ok {w:World}{B db sm n:Nat}{K:Dk}(at':Nat) (h:DK w B db sm n K) (hat:at'<n) (hn:n≤1000000) (ht:K.cac.length≤1000000) (hB:B≤w.heap.size) (hok:K.ok=true) :
  Calls Tryz.prog 34 #[.pointer (some ⟨db,0,none⟩),.int .i64 at'] w fun e w'=>∃g c,e=.returned (.tuple #[.slice (some ⟨g,0,none⟩) 256 c,.int .u16 0])∧RowB w' w.heap.size (.slice (some ⟨g,0,none⟩) 256 c) (sec K.view at') 256∧DK w' B db sm n K.tick∧Fr B TD [sm] w w' :=
 (dread_any at' h hat hn ht hB).mono fun e w' ⟨h1,h2,h3⟩=>by
  rcases h3 with ⟨_,v,he,hr⟩|⟨h0,_⟩
  ·rcases hr.1.2 with ⟨_,h0⟩|⟨g,cap,cur,e1,_⟩
   ·have:=hr.2.2
    omega
   ·rw [hr.2.2] at e1
    subst e1
    exact⟨g,cap,he,hr,h1,h2⟩
  ·rw [hok] at h0
   cases h0
theorem dread_no {w:World}{B db sm n:Nat}{K:Dk}(at':Nat) (h:DK w B db sm n K) (hat:at'<n) (hn:n≤1000000) (ht:K.cac.length≤1000000) (hB:B≤w.heap.size) (hok:K.ok=false) :
  Calls Tryz.prog 34 #[.pointer (some ⟨db,0,none⟩),.int .i64 at'] w fun e w'=>e=.returned (.tuple #[.slice none 0 0,.int .u16 4])∧DK w' B db sm n K.tick∧Fr B TD [sm] w w' :=
 (dread_any at' h hat hn ht hB).mono fun e w' ⟨h1,h2,h3⟩=>by
  rcases h3 with ⟨h0,_⟩|⟨_,he⟩
  ·rw [hok] at h0
   cases h0
  ·exact⟨he,h1,h2⟩
theorem Fr.drewN' {B:Nat}{T M:List Nat}{w:World}(q:Nat):Fr B T M w (w.drewN q):=by
 induction q generalizing w with
 | zero=>exact Fr.refl _ _ _ _
 | succ q ih=>exact ih.drew
theorem SIx.diskB {w W:World}{B db sm sb k D tb tc nb xb slot gen bb:Nat}{t t':Dk}{uv dv:Value}{g:G}{cs:Array Value}{fr:Nat×Nat}(h:SIx w B db sm sb k D t tb tc nb xb slot gen uv dv g) (hbt:w.heap[bb]?=some (.cells cs 131 fr)) (hf:Fr B (5 :: TD) [sm,bb] w W) (hd:DK W B db sm g.n t') (ht:t'.cac.length≤100 * k):SIx W B db sm sb k D t' tb tc nb xb slot gen uv dv g:=by
 obtain⟨es,c,hk⟩:=h.di.seen.kind
 obtain⟨es1,c1,hk1⟩:=h.rest.now.kind
 obtain⟨es2,c2,hk2⟩:=h.rest.next.kind
 have hM:∀b∈[sm,bb],∀cs ty fr,ty≠131→w.heap[b]?≠some (.cells cs ty fr):=fun b hb cs ty fr ht e=>by
  simp only [List.mem_cons,List.not_mem_nil,or_false] at hb
  rcases hb with rfl | rfl
  ·rw [hk] at e
   cases e
  ·rw [hbt] at e
   simp only [Option.some.injEq,Obj.cells.injEq] at e
   exact ht e.2.1.symm
 refine⟨h.bsb,hf.keep h.cell (fun hm=>hM _ hm _ _ _ (by decide) h.cell) (by decide),h.rest.fr hf (by decide) ?_ ?_ (fun b hb cs ty fr hty=>hM b hb cs ty fr (fun e=>by rw [e] at hty;revert hty;decide)),hd,ht,h.hslot,h.hgen,h.hu,h.hd,h.hdx,h.smn,h.smx,h.inv⟩
 ·simp only [List.mem_cons,List.not_mem_nil,or_false,not_or]
  exact⟨Ne.symm h.smn,fun e=>by rw [e,hbt] at hk1;cases hk1⟩
 ·simp only [List.mem_cons,List.not_mem_nil,or_false,not_or]
  exact⟨Ne.symm h.smx,fun e=>by rw [e,hbt] at hk2;cases hk2⟩
set_option maxRecDepth 20000 in
set_option maxHeartbeats 4000000 in
theorem get_any (hH:HalfOk) {w:World}{B db sm sb k D tb tc nb xb slot gen:Nat}{t:Dk}{uv dv:Value}{g:G}{s:Txt}(h:SIx w B db sm sb k D t tb tc nb xb slot gen uv dv g) (hlit:t.dark=false) (hG:9≤w.heap.size) (hk:k≤1000) (hs:s.length≤1000000) :
  Calls Tryz.prog 36 #[.pointer (some ⟨sb,0,none⟩),encStr s] w (GetEnd w B db sm sb k D t slot gen g s):=by
 obtain⟨v,_,hlk,hno,hval⟩:=h.rest.now.look s (by omega)
 have h3:w.cell? ⟨sb,3,none⟩=some (.map (some nb)):=by rw [cell_of_heap h.cell];rfl
 have H:=Lib.hid h
 have Hlit:=Lib.hid hlit
 have hB:=h.hB
 cases hl:Ext.look g.now s with
 | none =>
  have hz:=hno hl
  rw [hz] at hlk
  have hhit:hit g.now t.view s=none:=by unfold hit;rw [hl]
  have Hhit:=Lib.hid hhit
  rw [hl] at hlk
  unfold fzero at hlk
  clear hval hno hz hl h hhit
  obtain⟨A,hA⟩:∃A:World,A=w.alloc (.cells #[.bool false,.int .i64 0,.int .u32 0,.slice none 0 0] 91):=⟨_,rfl⟩
  have hAo:Olds w A:=by rw [hA];exact Olds.alloc _ _
  have hAb:Below w.heap.size w A:=by rw [hA];exact (Below.refl _ _).alloc (Nat.le_refl _) _
  have HHA:=Lib.hid (H.out.olds hAo)
  have h7:A.cell? ⟨sb,7,none⟩=some (.bool false):=by rw [cell_of_heap HHA.out.cell];rfl
  have HA:=Lib.hid hA
  have HAb:=Lib.hid hAb
  clear hA hAo hAb
  go_enter Tryz.func36,Tryz.ntmps36
  go_upto_region 2 with fail
  rw [← HA.out]
  go_wp2_with fail
  refine bodyPost_ret (results_tmp2 rfl _ _ _) rfl ?_
  exact⟨Kp.of_below HAb.out hB,t,rfl,rfl,fun _=>rfl,.inl ⟨Hlit.out,⟨_,_,_,_,_,_,HHA.out⟩,.inr ⟨Hhit.out,_,63,by decide,rfl⟩⟩⟩
 | some f =>
  obtain⟨r,rfl,hrr,hrt⟩:=hval f hl
  obtain⟨ro,rc,rfl,_⟩:=ownsRow_shape hrr
  obtain⟨hrng,hlen,hsz⟩:=h.inv.R _ (look_mem hl)
  simp only at hrng hlen hsz
  rw [hl] at hlk
  unfold fval at hlk
  have Hl:=Lib.hid hl
  have Hrr:=Lib.hid hrr
  have Hrng:=Lib.hid hrng
  have Hlen:=Lib.hid hlen
  obtain⟨A,hA⟩:∃A:World,A=w.alloc (.cells #[.bool f.log,.int .i64 (f.size:Nat),.int .u32 f.sum,.slice ro f.secs.length rc] 91):=⟨_,rfl⟩
  have hAo:Olds w A:=by rw [hA];exact Olds.alloc _ _
  have hAb:Below w.heap.size w A:=by rw [hA];exact (Below.refl _ _).alloc (Nat.le_refl _) _
  have hAx:A.heap[w.heap.size]?=some (.cells #[.bool f.log,.int .i64 (f.size:Nat),.int .u32 f.sum,.slice ro f.secs.length rc] 91 (0,0)):=by rw [hA];exact heap_alloc_new _ _
  have hAs:A.heap.size=w.heap.size+1:=by rw [hA];simp
  have HHA:=Lib.hid (H.out.olds hAo)
  have h7:A.cell? ⟨sb,7,none⟩=some (.bool false):=by rw [cell_of_heap HHA.out.cell];rfl
  have ha0:A.cell? ⟨w.heap.size,0,none⟩=some (.bool f.log):=by rw [cell_of_heap hAx];rfl
  have HA:=Lib.hid hA
  have HAb:=Lib.hid hAb
  have HAo:=Lib.hid hAo
  have HAx:=Lib.hid hAx
  have Hsz:=Lib.hid hsz
  clear hA hAo hAb hval hno hl h hrr hrng hAx hlen hsz
  cases hlg:f.log with
  | true =>
   have hhit:hit g.now t.view s=none:=by
    unfold hit
    rw [Hl.out]
    simp only [hlg]
    rfl
   have Hhit:=Lib.hid hhit
   rw [hlg] at hlk ha0 HA
   clear hhit
   go_enter Tryz.func36,Tryz.ntmps36
   go_upto_region 2 with fail
   rw [← HA.out]
   go_wp2_with fail
   refine bodyPost_ret (results_tmp2 rfl _ _ _) rfl ?_
   exact⟨Kp.of_below HAb.out hB,t,rfl,rfl,fun _=>rfl,.inl ⟨Hlit.out,⟨_,_,_,_,_,_,HHA.out⟩,.inr ⟨Hhit.out,_,65,by decide,rfl⟩⟩⟩
  | false =>
   rw [hlg] at hlk ha0 HA HAx
   go_enter Tryz.func36,Tryz.ntmps36
   go_upto_region 2 with fail
   rw [← HA.out]
   go_upto_region 8 with fail
   obtain⟨A2,hA2⟩:∃A2:World,A2=A.alloc (.cells #[.slice none 0 0,.int .i64 0,.int .i8 0] 131):=⟨_,rfl⟩
   obtain⟨bb,hbz⟩:∃bb,bb=w.heap.size+1:=⟨_,rfl⟩
   have hbb:bb=A.heap.size:=by rw [hbz,hAs]
   have hbuf:BufAt A2 bb bb []:=by rw [hA2,hbb];exact bnew A
   have hA2o:Olds A A2:=by rw [hA2];exact Olds.alloc _ _
   have hA2s:A2.heap.size=bb+1:=by rw [hA2,hbb];simp
   have hA2b:Below w.heap.size w A2:=by rw [hA2];exact HAb.out.trans ((Below.refl _ _).alloc HAb.out.size _)
   have HHA2:=Lib.hid (HHA.out.olds hA2o)
   have hAx2:A2.heap[w.heap.size]?=_:=(hA2o.2 _ (heap_lt HAx.out)).trans HAx.out
   have hrr2:=ownsRow_olds (ownsRow_olds Hrr.out HAo.out) hA2o
   have hbt:A2.heap[bb]?=some (.cells #[.slice none 0 0,.int .i64 0,.int .i8 0] 131 (0,0)):=by rw [hA2,hbb];exact heap_alloc_new _ _
   have z3:A2.cell? ⟨w.heap.size,3,none⟩=some (.slice ro f.secs.length rc):=by rw [cell_of_heap hAx2];rfl
   obtain⟨es,cm,hkm⟩:=HHA2.out.di.seen.kind
   have hwbb:w.heap.size<bb:=by omega
   have hsmlt:=H.out.di.seen.lt
   have HKeep:Hid (∀wr:World,Fr B (5 :: TD) [sm,bb] A2 wr→SCell wr sb db tb tc nb xb g.n slot gen uv dv∧wr.heap[w.heap.size]?=some (.cells #[.bool false,.int .i64 (f.size:Nat),.int .u32 f.sum,.slice ro f.secs.length rc] 91 (0,0))∧wr.ownsRow B 3 1 (.slice ro f.secs.length rc) f.secs.length (nats f.secs)):=Lib.hid (fun wr hf=>by
    have hne:∀{b:Nat}{cs:Array Value}{ty:TypeId}{fr:Nat×Nat},A2.heap[b]?=some (.cells cs ty fr)→ty≠131→b∉[sm,bb]:=fun {b cs ty fr} hb ht hm=>by
     simp only [List.mem_cons,List.not_mem_nil,or_false] at hm
     rcases hm with rfl | rfl
     ·rw [hkm] at hb
      cases hb
     ·rw [hbt] at hb
      simp only [Option.some.injEq,Obj.cells.injEq] at hb
      exact ht hb.2.1.symm
    refine⟨hf.keep HHA2.out.cell (hne HHA2.out.cell (by decide)) (by decide),hf.keep hAx2 (hne hAx2 (by decide)) (by decide),hf.keepRow hrr2 (by decide) fun b hb=>?_⟩
    obtain⟨cur,hc⟩:=own_kind hrr2 hb
    exact hne hc (by decide))
   have HA2:=Lib.hid hA2
   have HA2b:=Lib.hid hA2b
   have Hbuf:=Lib.hid hbuf
   have Hbt:=Lib.hid hbt
   have Hbb:=Lib.hid hbz
   clear hbz
   have Hkm:=Lib.hid hkm
   have hsbsm:=H.out.hsm
   have HKp:Hid (∀W:World,Fr B (5 :: TD) [sm,bb,sb] A2 W→Kp B w W):=Lib.hid (fun W hf=>(Kp.of_below hA2b hB).trans (Kp.of_fr hf (by decide) (fun ty hty b hb cs fr e=>by
    simp only [List.mem_cons,List.not_mem_nil,or_false] at hb
    rcases hb with rfl | rfl | rfl
    ·rw [hkm] at e
     cases e
    ·exact no_ty hbt e hty (by decide)
    ·exact no_ty HHA2.out.cell e hty (by decide))))
   have hht:=H.out.ht
   have hin:=H.out.inv.hi
   have hvo:=H.out.di.ok.view
   have hbw:=Lib.hid (show ∀j,(content t.view (f.secs.take j)).length≤2000000 from fun j=>by
    rw [content_len (fun b hb=>(hvo.2 b hb).1) (fun a ha=>by rw [hvo.1];exact (Hrng.out a (List.mem_of_mem_take ha)).2),List.length_take]
    have h1:=Hlen.out
    have h2:=Hsz.out
    unfold need at h1
    omega)
   clear hA2 hA2o hA2b hAx2 hrr2 hbt hbuf hkm
   generalize hm:f.secs.length=m at *
   have Hm:=Lib.hid hm
   clear hm
   have hmb:m≤5000:=by
    have h1:=Hlen.out
    have h2:=Hsz.out
    unfold need at h1
    omega
   go_upto_region 9 with fail
   rw [← HA2.out,← Hbb.out]
   clear hbb
   go_wp2_with fail
   go_loopw [10,11,12,37] (fun _ _ _ iv wr=>∃j:Nat,j≤m∧iv=.int .i64 j∧(tickN t j).dark=false∧DK wr B db sm g.n (tickN t j)∧BufAt wr bb bb (content t.view (f.secs.take j))∧Fr B (5 :: TD) [sm,bb] A2 wr) (fun _ _ _ iv _=>m-(intOf iv).toNat)
   case atStart=>exact⟨0,Nat.zero_le _,rfl,Hlit.out,HHA2.out.di,Hbuf.out,Fr.refl _ _ _ _⟩
   case round =>
    obtain⟨j,hj,rfl,hdj,hdi,hbf,hfr⟩:=hrel
    have Hdj:=Lib.hid hdj
    have Hdi:=Lib.hid hdi
    have Hbf:=Lib.hid hbf
    have Hfr:=Lib.hid hfr
    obtain⟨kc,kx,kr⟩:=HKeep.out wr hfr
    have hszr:=hfr.size
    have Hkc:=Lib.hid kc
    have Hkx:=Lib.hid kx
    have hclen:(tickN t j).cac.length≤1000000:=by rw [tickN_cac];omega
    clear hdj hdi hbf hfr
    by_cases hlt:j<m
    ·obtain⟨a,ha⟩:∃a,f.secs[j]?=some a:=⟨_,List.getElem?_eq_getElem (by rw [Hm.out];exact hlt)⟩
     have han:=(Hrng.out a (List.mem_of_getElem? ha)).2
     obtain⟨lb,rfl⟩:∃lb,ro=some ⟨lb,0,none⟩:=by
      rcases kr.2 with ⟨_,h0⟩|⟨gg,cap,cur,e,_⟩
      ·omega
      ·simp only [Value.slice.injEq] at e
       exact⟨gg,e.1⟩
     have hca:wr.cell? ⟨lb,j,none⟩=some (.int .i64 (a:Nat)):=by
      have h1:=ownsRow_cell kr j (.int .i64 (a:Nat)) (by simp [nats,ha])
      simpa using h1
     have hs0:wr.cell? ⟨sb,0,none⟩=some (.pointer (some ⟨db,0,none⟩)):=by rw [cell_of_heap kc];rfl
     have Hsn:=Lib.hid (content_snoc (L:=t.view) ha)
     have hBr:B≤wr.heap.size:=by omega
     clear kc kx kr ha
     cases hok:(tickN t j).ok with
     | false =>
      have HR:=Lib.hid (dread_no a Hdi.out han (by omega) hclen hBr hok)
      have Hok:=Lib.hid hok
      clear hok
      go_wp2_with (first
       | (go_at_call 34;refine HR.out.mono ?_;clear HR;rintro e w1 ⟨rfl,h1,h2⟩;have H1:=Lib.hid h1;have H2:=Lib.hid h2;have HD:=Lib.hid (did_dark (h2.keep Hkc.out (by simpa using hsbsm) (by decide)));clear h1 h2)
       | (go_at_call 50;refine HD.out.mono ?_;clear HD;rintro e w2 ⟨rfl,h3,h4,h5⟩;have H4:=Lib.hid h4;have H5:=Lib.hid (h5 B H.out.bsb);clear h3 h4 h5))
      refine bodyPost_ret (results_tmp2 rfl _ _ _) rfl ?_
      have hF2:Fr B [] [sb] w1 w2:=⟨H5.out,fun b o hb hm _=>(H4.out b (fun e=>hm (by simp [e]))).trans hb⟩
      have hs1:=H2.out.keep Hkc.out (by simpa using hsbsm) (by decide)
      refine⟨HKp.out w2 (((Hfr.out.mono (Nat.le_refl _) (fun _ h=>h) (by simp)).trans (H2.out.mono (Nat.le_refl _) (by simp) (by simp))).trans (hF2.mono (Nat.le_refl _) (by simp) (by simp))),tickN t (j+1),tickN_las _ _,tickN_cac _ _,fun hc=>tickN_calm hc _,.inr ⟨?_,?_,_,rfl⟩⟩
      ·show (tickN t j).tick.dark=true
       rw [tick_dark,Hok.out]
       rfl
      ·exact H1.out.fr hF2 (by simp) (by simpa using Ne.symm hsbsm) (fun b hb=>by
        simp only [List.mem_singleton] at hb
        subst hb
        exact .inr ⟨_,_,_,hs1,by decide⟩)
     | true =>
      have HR:=Lib.hid (dread_ok a Hdi.out han (by omega) hclen hBr hok)
      have Hok:=Lib.hid hok
      clear hok
      go_upto_region 15 with (first
       | (go_at_call 34;refine HR.out.mono ?_;clear HR;rintro e w1 ⟨gg,gc,rfl,h0,h1,h2⟩;have H0:=Lib.hid h0;have H1:=Lib.hid h1;have H2:=Lib.hid h2;have HD:=Lib.hid (did_any (h2.keep Hkc.out (by simpa using hsbsm) (by decide)));clear h0 h1 h2)
       | (go_at_call 50;refine HD.out.mono ?_;clear HD;rintro e w2 ⟨rfl,h3,h4⟩;have H3:=Lib.hid h3;have H4:=Lib.hid h4;clear h3 h4))
      have hbsm:bb∉[sm]:=by simp only [List.mem_singleton];omega
      have hb1:BufAt w1 bb bb (content t.view (f.secs.take j)):=Hbf.out.fr H2.out (by decide) hbsm (fun k hk cs fr e=>by
       simp only [List.mem_singleton] at hk
       obtain⟨es9,cm9,hk9⟩:=Hdi.out.seen.kind
       rw [hk,hk9] at e
       cases e)
      have hF12:Fr B [] [] w1 w2:=⟨H4.out B,fun b o hb _ _=>(H3.out.2 b (heap_lt hb)).trans hb⟩
      have hb2:BufAt w2 bb bb (content t.view (f.secs.take j)):=hb1.fr hF12 (by decide) (by simp) (by simp)
      have hrow2:=H0.out.olds H3.out
      have hgg:=(ownsRow_block hrow2.1 (g:=gg) rfl).1
      have hs12:=H2.out.size
      have hs23:=H3.out.1
      have HBW:=Lib.hid (bwrite_any hb2 (by omega) hrow2.at.1 hrow2.at.2.2 (show gg≠bb by omega) (by have:=hbw.out j;omega) (by decide))
      rw [tickN_view,← Hsn.out] at HBW
      have hbk:∃cs,w2.heap[bb]?=some (.cells cs 131 (0,0)):=by
       obtain⟨_,v9,lr,h9,_⟩:=hb2
       exact⟨_,h9⟩
      have Hbk:=Lib.hid hbk
      clear hb1 hb2 hrow2 hbk hF12
      go_wp2_with (go_at_call 69;refine HBW.out.mono ?_;clear HBW;rintro e w3 ⟨⟨vv,rfl⟩,h5,h6⟩;have H5:=Lib.hid h5;have H6:=Lib.hid h6;clear h5 h6)
      go_roundw
      case rel =>
       refine⟨j+1,by omega,by go_num,?_,?_,H5.out,?_⟩
       ·show (tickN t j).tick.dark=false
        rw [tick_dark,Hok.out]
        rfl
       ·refine (H1.out.olds H3.out).fr H6.out (by decide) (by simp only [List.mem_singleton];omega) (fun b hb=>?_)
        simp only [List.mem_singleton] at hb
        subst hb
        obtain⟨cs,h9⟩:=Hbk.out
        exact .inr ⟨_,_,_,h9,by decide⟩
       ·exact (Hfr.out.trans (H2.out.mono (Nat.le_refl _) (by simp) (by simp))).trans ((⟨H4.out B,fun b o hb _ _=>(H3.out.2 b (heap_lt hb)).trans hb⟩:Fr B (5 :: TD) [sm,bb] w1 w2).trans (H6.out.mono (by omega) (by simp) (by simp)))
      case measure=>simp [intOf];omega
    ·obtain rfl:j=m:=by omega
     have hfull:content t.view (f.secs.take j)=content t.view f.secs:=by rw [List.take_of_length_le (by rw [Hm.out];exact Nat.le_refl _)]
     have hbf9:=Hbf.out
     rw [hfull] at hbf9
     have HBB:=Lib.hid (fun (W:World) (hW:W.heap=wr.heap)=>bbytes_any (w:=W) (B:=bb) (b:=bb) (bs:=content t.view f.secs) (by
      obtain⟨q1,q2,q3,q4,q5,q6⟩:=hbf9
      exact⟨q1,q2,q3,by rw [hW];exact q4,ownsRow_blocks q5 fun g _=>by rw [hW],q6⟩))
     have x1:wr.drew.cell? ⟨w.heap.size,1,none⟩=some (.int .i64 (f.size:Nat)):=by rw [cell_of_heap (show wr.drew.heap[w.heap.size]?=_ from kx)];rfl
     have hlen9:(content t.view f.secs).length=j * 256:=by
      have h9:=content_len (L:=t.view) (secs:=f.secs) (fun b hb=>(hvo.2 b hb).1) (fun a ha=>by rw [hvo.1];exact (Hrng.out a ha).2)
      rw [h9,Hm.out]
     have hfs:f.size≤j * 256:=by
      have h1:=Hlen.out
      unfold need at h1
      omega
     clear hbf9 hfull kr kx kc
     have HBC:Hid (∀(W:World),W.heap=wr.heap→Calls Tryz.prog 70 #[.pointer (some ⟨bb,0,none⟩)] W fun e w'=>∃vo vc,e=.returned (.slice vo (j * 256) vc)∧f.size≤vc∧BytesAt w' (.slice vo f.size f.size) ((content t.view f.secs).take f.size)∧∃q,w'=W.drewN q):=Lib.hid (fun W hW=>(HBB.out W hW).mono fun e w' ⟨v,he,hr,hq⟩=>by
      obtain⟨vo,vc,e2,h1,h2⟩:=row_cut hr hlen9 hfs
      exact⟨vo,vc,by rw [he,e2],h1,h2,hq⟩)
     have Hl9:=Lib.hid hlen9
     clear HBB hlen9
     generalize hsz9:f.size=sz at *
     have HHb:Hid (∀x∈(content t.view f.secs).take sz,x<256):=Lib.hid (fun x hx=>by
      have h9:=List.mem_of_mem_take hx
      unfold content at h9
      obtain⟨a,ha,hxa⟩:=List.mem_flatMap.1 h9
      have har:=(Hrng.out a ha).2
      rw [← hvo.1] at har
      rw [List.getD_eq_getElem?_getD,List.getElem?_eq_getElem har] at hxa
      exact (hvo.2 _ (List.getElem_mem har)).2 x hxa)
     have hlb:((content t.view f.secs).take sz).length=sz:=by rw [List.length_take,Hl9.out];omega
     have hcr:∃cr:Nat,cr=crc ((content t.view f.secs).take sz):=⟨_,rfl⟩
     obtain⟨cr,hcr⟩:=hcr
     have Hcr:=Lib.hid hcr
     have Hlb:=Lib.hid hlb
     have x2:wr.cell? ⟨w.heap.size,2,none⟩=some (.int .u32 f.sum):=by rw [cell_of_heap Hkx.out];rfl
     generalize hfu:f.sum=fu at *
     have Hfu:=Lib.hid hfu
     have Hsz9:=Lib.hid hsz9
     have HhH:=Lib.hid hH
     have hwr:9≤wr.heap.size:=by omega
     clear hcr hlb hfu hsz9 hH hrt
     have HEnd:Hid (∀W:World,Fr B (5 :: TD) [sm,bb] wr W→Olds wr W→Kp B w W∧SI W B db sm sb k D (tickN t j) slot gen g):=Lib.hid (fun W hf ho =>
      ⟨HKp.out W ((Hfr.out.trans hf).mono (Nat.le_refl _) (fun _ h=>h) (by simp)),⟨_,_,_,_,_,_,((HHA2.out).diskB Hbt.out Hfr.out Hdi.out (by rw [tickN_cac];exact hht)).olds ho⟩⟩)
     have Hhit1:Hid (fu=(cr:Int)→hit g.now t.view s=some ((content t.view f.secs).take sz)):=Lib.hid (fun e=>by
      unfold hit
      rw [Hl.out]
      simp only [Hsz9.out,hlg,Hfu.out,← Hcr.out,e,and_self,if_true])
     have Hhit0:Hid (¬ fu=(cr:Int)→hit g.now t.view s=none):=Lib.hid (fun e=>by
      unfold hit
      rw [Hl.out]
      simp only [Hsz9.out,hlg,Hfu.out,← Hcr.out,true_and]
      rw [if_neg (fun h=>e h.symm)])
     go_upto_region 17 with fail
     go_region_with (go_at_call 70;refine (HBC.out wr.drew rfl).mono ?_;(clear HBC;rintro e w1 ⟨vo,vc,rfl,hvc,hby,q,hw1⟩;have Hby:=Lib.hid hby;have hwo:Olds wr w1:=(by rw [hw1];exact Olds.drewN wr.drew q);have x4:w1.cell? ⟨w.heap.size,1,none⟩=some (.int .i64 (sz:Nat)):=(by rw [hw1];exact (Olds.drewN wr.drew q).cell x1);have hwd:Olds w1 w1.drew:=(Olds.drewN w1 1);have x5:w1.drew.cell? ⟨w.heap.size,2,none⟩=some (.int .u32 fu):=hwd.cell (hwo.cell x2);have Hfw:Hid (Fr B (5 :: TD) [sm,bb] wr w1.drew):=Lib.hid (by rw [hw1];exact (((Fr.refl B (5 :: TD) [sm,bb] wr).drew).trans (Fr.drewN' q)).drew);have Hwo:=Lib.hid (hwo.trans hwd);have hw1s:=hwo.1;have hwds:=hwd.1;have HS:=Lib.hid (sum_any (w:=w1.drew) HhH.out (by omega) (hby.olds hwd) (by rw [Hlb.out];omega) HHb.out);rw [← Hcr.out] at HS;clear hby hw1 hwo hwd))
     all_goals by_cases hc:fu=(cr:Int)
     all_goals first | (have hc':¬ (cr:Int)=fu:=(fun e=>hc e.symm)) | skip
     all_goals go_upto_region 18 with fail
     all_goals go_region_with (go_at_call 42;refine HS.out.mono ?_;clear HS;rintro e w2 ⟨rfl,hb2⟩;have Hb2:=Lib.hid hb2;have x6:=(Olds.of_below hb2).cell x5;clear hb2)
     all_goals go_wp2_with fail
     all_goals refine bodyPost_ret (results_tmp2 rfl _ _ _) rfl ?_
     all_goals have HE:=HEnd.out w2 (Hfw.out.trans (Fr.of_below Hb2.out (by omega) _ _)) (Hwo.out.trans (Olds.of_below Hb2.out))
     all_goals first
      | exact⟨HE.1,tickN t j,tickN_las _ _,tickN_cac _ _,fun hc=>tickN_calm hc _,.inl ⟨Hdj.out,HE.2,.inl ⟨_,Hhit1.out (by first | assumption | rfl),_,_,_,rfl,((Hby.out.olds (Olds.drewN w1 1:Olds w1 w1.drew)).olds (Olds.of_below Hb2.out)),Hlb.out,HHb.out⟩⟩⟩
      | exact⟨HE.1,tickN t j,tickN_las _ _,tickN_cac _ _,fun hc=>tickN_calm hc _,.inl ⟨Hdj.out,HE.2,.inr ⟨Hhit0.out hc,_,61,by decide,rfl⟩⟩⟩
end Go.Proofs.YtndjmffnlcilbaaGreatDoor
