/- Contracts over this program. Their conditions: the slices read as the lists that are named, and lie within the sizes that are named. -/
import Derived.Test.YtndjmffnlcilbaaGreatDoorYa
import Derived.StillTailTactics
import Derived.Deep.CutRange
import Derived.Deep.RegionHeldLaw
import Derived.Maps.AppendAt
import Derived.Lib.AppendStr
import Derived.Lib.SlBytesConst
import Derived.Deep.RegionLaw
set_option linter.unusedSimpArgs false
set_option linter.unusedVariables false
set_option linter.deprecated false
set_option linter.unnecessarySimpa false
namespace Go.Proofs.YtndjmffnlcilbaaGreatDoor
open Go Go.RowKit Go.Ix Go.Ext
def pcells (p:Nat×Nat):List Value:=[.int .i64 (p.1:Nat),.int .i64 (p.2:Nat)]
theorem runs_snoc (l:List Nat) (s:Nat):runsOf (l++[s])=runStep (runsOf l) s:=by
 unfold runsOf
 rw [List.foldl_append]
 rfl
theorem runStep_nil (s:Nat):runStep [] s=[(s,1)]:=rfl
theorem runStep_last (pr:List (Nat×Nat)) (p:Nat×Nat) (s:Nat):runStep (pr++[p]) s=if p.1+p.2=s then pr++[(p.1,p.2+1)] else pr++[p]++[(s,1)]:=by
 unfold runStep
 simp
theorem runStep_bound {A m:Nat}{acc:List (Nat×Nat)}{s:Nat}(h:acc.length≤m∧∀p∈acc,p.1≤A∧p.2≤m) (hs:s≤A):(runStep acc s).length≤m+1∧∀p∈runStep acc s,p.1≤A∧p.2≤m+1:=by
 obtain⟨h0,h⟩:=h
 rcases List.eq_nil_or_concat acc with rfl|⟨pr,q,rfl⟩
 ·rw [runStep_nil]
  refine⟨by simp,fun p hp=>?_⟩
  have:p=(s,1):=by simpa using hp
  subst this
  exact⟨hs,by simp⟩
 ·rw [List.concat_eq_append] at *
  rw [runStep_last]
  have hq:=h q (by simp)
  have hl:pr.length+1≤m:=by simpa using h0
  split
  ·refine⟨by simp;omega,fun p hp=>?_⟩
   rcases List.mem_append.1 hp with hp | hp
   ·have:=h p (by simp [hp])
    omega
   ·have:p=(q.1,q.2+1):=by simpa using hp
    subst this
    simp only
    omega
  ·refine⟨by simp;omega,fun p hp=>?_⟩
   rcases List.mem_append.1 hp with hp | hp
   ·have:=h p hp
    omega
   ·have:p=(s,1):=by simpa using hp
    subst this
    simp only
    omega
theorem runs_take_bound {A:Nat}{l:List Nat}(hl:∀a∈l,a≤A):∀k,k≤l.length→(runsOf (l.take k)).length≤k∧∀p∈runsOf (l.take k),p.1≤A∧p.2≤k
 | 0,_=>⟨by simp [runsOf],fun p hp=>by simp [runsOf] at hp⟩
 | k+1,hk=>by
  rw [List.take_add_one,List.getElem?_eq_getElem (by omega)]
  simp only [Option.toList_some]
  rw [runs_snoc]
  exact runStep_bound (runs_take_bound hl k (by omega)) (hl _ (List.getElem_mem _))
theorem Tryz.info141:(Tryz.prog.info? 141).map (fun i=>(i.zero,i.size,i.bytes))=some (some (.agg #[.int .i64 0,.int .i64 0]),2,16):=by kernel_rfl
set_option maxRecDepth 20000 in
set_option maxHeartbeats 1000000 in
theorem runs_any {w:World}(o:Option Addr) (c n:Nat) (l:List Nat) (hn:l.length=n) (hm:n≤100000) (hl:∀a∈l,a≤1000000) (hc:FlatAt w (.slice o n c) n (nats l)) :
  Calls Tryz.prog 53 #[.slice o n c] w fun e w'=>∃v,e=.returned v∧w'.ownsRow w.heap.size 141 2 v (runsOf l).length ((runsOf l).flatMap pcells)∧Below w.heap.size w w':=by
 obtain⟨i0,hi0,hz0,hz1,hz2⟩:=info_parts Tryz.info141
 have Hc:=Lib.hid hc
 have Hl:=Lib.hid hl
 have Hn:=Lib.hid hn
 have hB:=fun k hk=>runs_take_bound (A:=1000000) hl k hk
 have HB:=Lib.hid hB
 clear hc hl hn hB
 go_enter Tryz.func53,Tryz.ntmps53
 go_wp2_with fail
 go_loopw [2,4,5,8] (fun sv _ _ iv wr=>∃k:Nat,k≤n∧iv=.int .i64 k∧wr.ownsRow w.heap.size 141 2 sv (runsOf (l.take k)).length ((runsOf (l.take k)).flatMap pcells)∧Below w.heap.size w wr) (fun _ _ _ iv _=>n-(intOf iv).toNat)
 case atStart=>exact⟨0,Nat.zero_le _,rfl,World.ownsRow_nil _ _ _ _,Below.refl _ _⟩
 case round =>
  obtain⟨k,hk,rfl,hrow,hb⟩:=hrel
  have Hb:=Lib.hid hb
  have hsz:=hb.size
  obtain⟨so,sc,rfl,hso⟩:=ownsRow_shape hrow
  obtain⟨hB0,hB1⟩:=HB.out k (by rw [Hn.out];exact hk)
  clear hb
  by_cases hlt:k<n
  ·obtain⟨s,hs⟩:∃s,l[k]?=some s:=⟨_,List.getElem?_eq_getElem (by rw [Hn.out];exact hlt)⟩
   have hs6:=Hl.out s (List.mem_of_getElem? hs)
   obtain⟨b,off,rfl,hcc⟩:∃b off,o=some ⟨b,off,none⟩∧w.cell? ⟨b,off+k,none⟩=some (.int .i64 s):=by
    obtain⟨o',c',e,_,h3⟩:=Hc.out
    obtain⟨b,off,rfl,h⟩:=h3 (fun e=>by have:=congrArg List.length e;rw [nats_len,Hn.out] at this;simp at this;omega)
    simp only [Value.slice.injEq] at e
    exact⟨b,off,e.1,h k _ (by simp [nats,hs])⟩
   have hck:wr.cell? ⟨b,off+k,none⟩=some (.int .i64 s):=(Hb.out.cell (cell_lt hcc)).trans hcc
   have hnext:runsOf (l.take (k+1))=runStep (runsOf (l.take k)) s:=by
    rw [List.take_add_one,hs]
    exact runs_snoc _ _
   have Hnext:=Lib.hid hnext
   clear hs hcc hnext
   generalize hpr:runsOf (l.take k)=pr at *
   clear hpr
   rcases List.eq_nil_or_concat pr with rfl|⟨pr',p,rfl⟩
   ·have Hrow:=Lib.hid hrow
    clear hrow hB1 hB0
    simp only [List.length_nil] at *
    have he0:(0:Int)≤ -1↔False:=by decide
    go_wp2_with fail
    go_quiet (fail)
    go_wp2_with (at_builtin;refine wpList_append_lies _ rfl _ _ _ rfl w.heap.size 141 i0 _ 2 16 Tryz.underlying105 hi0 hz0 hz1 hz2 rfl (by decide) (.slice so 0 sc) 0 [] rfl (ownsRow_olds Hrow.out ((Olds.drewN wr nq).trans (Olds.alloc _ _))) ⟨wr.heap.size,0,none⟩ 1 1 (pcells (s,1)) rfl rfl (World.news_of_block (cs:=#[.int .i64 s,.int .i64 1]) (t:=141) (fr:=(0,0)) (heap_alloc_new (wr.drewN nq) _)) (by simp [pcells,Value.oneCell']) Nat.one_pos (by unfold maxLen;omega) (by omega) (by simp;omega) (wr.heap.size+1) (by simp) ?_;intro gg cap2 w4 hown4 hgrow hat hlt4)
    have Hown4:=Lib.hid hown4
    have Hb4:Hid (Below w.heap.size w w4):=Lib.hid ((((⟨Hb.out.os,Hb.out.tape,Hb.out.output,Hb.out.size,Hb.out.block⟩:Below w.heap.size w (wr.drewN nq))).alloc (by simp;omega) _).grown hgrow (by simp;omega) (fun g hg=>(ownsRow_block Hrow.out hg).1))
    clear hown4 hgrow
    go_roundw
    case rel=>exact⟨k+1,by omega,by go_num,by rw [Hnext.out,runStep_nil];exact Hown4.out,Hb4.out⟩
    case measure=>simp [intOf];omega
   ·rw [List.concat_eq_append] at *
    obtain⟨p1,p2⟩:=p
    have hpb:=hB1 (p1,p2) (by simp)
    have hq0:pr'.length+1≤k:=by simpa using hB0
    have Hrow:=Lib.hid hrow
    obtain⟨sb,rfl⟩:∃sb,so=some ⟨sb,0,none⟩:=by
     rcases hrow.2 with ⟨e,h0⟩|⟨g,cap,cur,e,_⟩
     ·simp at h0
     ·simp only [Value.slice.injEq] at e
      exact⟨g,e.1⟩
    have hcs:=ownsRow_cell hrow
    have hfl:(pr'.flatMap pcells).length=pr'.length * 2:=flat_len (k:=2) (fun _=>rfl) _
    have hc0:wr.cell? ⟨sb,pr'.length * 2,none⟩=some (.int .i64 (p1:Nat)):=by
     have:=hcs (pr'.length * 2) (.int .i64 (p1:Nat)) (by rw [List.flatMap_append,List.getElem?_append_right (by rw [hfl];exact Nat.le_refl _),hfl,Nat.sub_self];rfl)
     simpa using this
    have hc1:wr.cell? ⟨sb,pr'.length * 2+1,none⟩=some (.int .i64 (p2:Nat)):=by
     have:=hcs (pr'.length * 2+1) (.int .i64 (p2:Nat)) (by rw [List.flatMap_append,List.getElem?_append_right (by rw [hfl];omega),hfl,Nat.add_sub_cancel_left];rfl)
     simpa using this
    have hf1:wr.frozen? ⟨sb,pr'.length * 2+1,none⟩=false:=hrow.frozenAt _
    have hlen:(pr'++[(p1,p2)]).length=pr'.length+1:=by simp
    have Hlen:=Lib.hid hlen
    clear hrow hB1 hB0 hcs hso
    rw [hlen] at Hrow ⊢
    clear hlen
    generalize hq:pr'.length=q at *
    have Hq:=Lib.hid hq
    clear hq hfl
    simp only at hpb
    go_wp2_with fail
    by_cases hst:p1+p2=s
    ·have hsti:(p1:Int)+(p2:Int)=(s:Int):=by omega
     go_quiet (fail)
     go_wp2_with fail
     have hX1:(wr.drewN nq).cell? ⟨sb,q * 2+1,none⟩=some (.int .i64 (p2:Nat)):=hc1
     have hX2:(wr.drewN nq).frozen? ⟨sb,q * 2+1,none⟩=false:=hf1
     have HrX:Hid ((wr.drewN nq).ownsRow w.heap.size 141 2 (.slice (some ⟨sb,0,none⟩) (q+1) sc) (q+1) ((pr'++[(p1,p2)]).flatMap pcells)):=Lib.hid (ownsRow_olds Hrow.out ⟨Nat.le_refl _,fun _ _=>rfl⟩)
     have HbX:Hid (Below w.heap.size w (wr.drewN nq)):=Lib.hid ⟨Hb.out.os,Hb.out.tape,Hb.out.output,Hb.out.size,Hb.out.block⟩
     generalize wr.drewN nq=X at *
     go_region
     all_goals go_wp2_with fail
     have HrN:Hid ((X.setCell ⟨sb,q * 2+1,none⟩ (.int .i64 ((p2:Int)+1))).ownsRow w.heap.size 141 2 (.slice (some ⟨sb,0,none⟩) (q+1) sc) (q+1) ((pr'++[(p1,p2+1)]).flatMap pcells)):=Lib.hid (by
      have h9:=HrX.out.stored (q * 2+1) (.int .i64 ((p2:Int)+1))
      have e9:((pr'++[(p1,p2)]).flatMap pcells).set (q * 2+1) (.int .i64 ((p2:Int)+1))=(pr'++[(p1,p2+1)]).flatMap pcells:=by
       have hfl:(pr'.flatMap pcells).length=q * 2:=by rw [flat_len (k:=2) (fun _=>rfl),Hq.out]
       rw [List.flatMap_append,List.flatMap_append,List.set_append_right _ _ (show (pr'.flatMap pcells).length≤q * 2+1 by rw [hfl];omega),hfl,Nat.add_sub_cancel_left]
       rfl
      rw [e9] at h9
      exact h9.1)
     have hnb:w.heap.size≤sb:=(ownsRow_block HrX.out (g:=sb) rfl).1
     refine⟨⟨k+1,by omega,by go_num,?_,(HbX.out.setCell hnb _).drew⟩,by simp [intOf];omega⟩
     rw [Hnext.out,runStep_last,if_pos hst]
     simp only [List.length_append,List.length_cons,List.length_nil,Hq.out]
     exact ownsRow_olds HrN.out (Olds.drewN _ 1)
    ·have hsti:¬ (p1:Int)+(p2:Int)=(s:Int):=by omega
     go_quiet (fail)
     go_wp2_with (at_builtin;refine wpList_append_lies _ rfl _ _ _ rfl w.heap.size 141 i0 _ 2 16 Tryz.underlying105 hi0 hz0 hz1 hz2 rfl (by decide) (.slice (some ⟨sb,0,none⟩) (q+1) sc) (q+1) ((pr'++[(p1,p2)]).flatMap pcells) rfl (ownsRow_olds Hrow.out ((Olds.drewN wr nq).trans (Olds.alloc _ _))) ⟨wr.heap.size,0,none⟩ 1 1 (pcells (s,1)) rfl rfl (World.news_of_block (cs:=#[.int .i64 s,.int .i64 1]) (t:=141) (fr:=(0,0)) (heap_alloc_new (wr.drewN nq) _)) (by simp [pcells,Value.oneCell']) Nat.one_pos (by unfold maxLen;omega) (by omega) (by simp;omega) (wr.heap.size+1) (by simp) ?_;intro gg cap2 w4 hown4 hgrow hat hlt4)
     have Hown4:=Lib.hid hown4
     have Hb4:Hid (Below w.heap.size w w4):=Lib.hid ((((⟨Hb.out.os,Hb.out.tape,Hb.out.output,Hb.out.size,Hb.out.block⟩:Below w.heap.size w (wr.drewN nq))).alloc (by simp;omega) _).grown hgrow (by simp;omega) (fun g hg=>(ownsRow_block Hrow.out hg).1))
     clear hown4 hgrow
     go_roundw
     case rel=>exact⟨k+1,by omega,by go_num,by
      rw [Hnext.out,runStep_last,if_neg hst]
      simp only [List.length_append,List.length_cons,List.length_nil,Hq.out,List.flatMap_append] at Hown4 ⊢
      simpa using Hown4.out,Hb4.out⟩
     case measure=>simp [intOf];omega
  ·go_wp2_with fail
   go_ret
   obtain rfl:k=n:=by omega
   rw [List.take_of_length_le (by rw [Hn.out];exact Nat.le_refl _)] at *
   exact⟨_,rfl,hrow,Hb.out⟩
end Go.Proofs.YtndjmffnlcilbaaGreatDoor
namespace Go.Proofs.YtndjmffnlcilbaaGreatDoor
open Go Go.RowKit Go.Ix Go.Ext
theorem wrap_u64 (n:Nat) (h:n<18446744073709551616):IntKind.u64.wrap (n:Int)=(n:Int):=by rw [IntKind.wrap_u64];omega
set_option maxRecDepth 20000 in
set_option maxHeartbeats 2000000 in
theorem putRuns_any {w:World}{B m:Nat}{v:Value}(o:Option Addr) (c n:Nat) (l:List Nat) (hn:l.length=n) (hm:n≤100000) (hl:∀a∈l,a≤1000000) (hc:FlatAt w (.slice o n c) n (nats l)) {ds:List Nat}(h:RowB w B v ds m) (hB:B≤w.heap.size) (hmm:m≤1000000000) :
  Calls Tryz.prog 55 #[v,.slice o n c] w fun e w'=>∃v',e=.returned v'∧RowB w' B v' (ds++runsB l) (m+2+4 * (runsOf l).length)∧Fr B [5] [] w w':=by
 have HR:=Lib.hid (runs_any o c n l hn hm hl hc)
 have hrb:=runs_take_bound (A:=1000000) hl n (by rw [hn];exact Nat.le_refl _)
 rw [List.take_of_length_le (by rw [hn];exact Nat.le_refl _)] at hrb
 obtain⟨hq,hpb⟩:=hrb
 obtain⟨o0,c0,rfl⟩:=h.shape
 have H:=Lib.hid h
 have Hpb:=Lib.hid hpb
 clear h hc hl hpb hn
 have Hrs:Hid (runsB l=low 2 (runsOf l).length++(runsOf l).flatMap runB):=Lib.hid rfl
 generalize hrl:runsB l=rl at *
 clear hrl
 generalize runsOf l=pr at *
 go_enter Tryz.func55,Tryz.ntmps55
 go_upto_region 2 with (go_at_call 53;refine HR.out.mono ?_;clear HR;rintro e w1 ⟨rv,rfl,hrow,hb⟩;obtain⟨ro,rc,rfl,_⟩:=ownsRow_shape hrow;have Hrow:=Lib.hid hrow;have Hb:=Lib.hid hb;have hs1:=hb.size;clear hrow hb)
 have hwr:=wrap_u64 pr.length (by omega)
 have HL0:=Lib.hid (low_any (w:=w1) (B:=B) (v:=.slice o0 m c0) pr.length 2 (H.out.olds (Olds.of_below Hb.out)) (by omega) (by omega) (by decide) (by omega))
 have HF1:Hid (Fr B [5] [] w w1):=Lib.hid (Fr.of_below Hb.out hB _ _)
 generalize hqq:pr.length=q at *
 have Hqq:=Lib.hid hqq
 clear hqq
 go_wp2_with (go_at_call 54;refine HL0.out.mono ?_;clear HL0;rintro e w2 ⟨v2,rfl,hrow2,hf2⟩;have Hrow2:=Lib.hid hrow2;have Hf2:=Lib.hid (HF1.out.trans hf2);have Hr2:=Lib.hid (hf2.keepRow Hrow.out (by decide) (fun g _ h=>by cases h));clear hrow2 hf2)
 go_loopw [0,7,17] (fun sv _ iv wr=>∃k:Nat,k≤q∧iv=.int .i64 k∧RowB wr B sv (ds++low 2 q++(pr.take k).flatMap runB) (m+2+4 * k)∧Fr B [5] [] w wr∧wr.ownsRow w.heap.size 141 2 (.slice ro q rc) q (pr.flatMap pcells)) (fun _ _ iv _=>q-(intOf iv).toNat)
 case atStart=>exact⟨0,Nat.zero_le _,rfl,by rw [List.take_zero,List.flatMap_nil,List.append_nil];exact Hrow2.out,Hf2.out,Hr2.out⟩
 case round =>
  obtain⟨k,hk,rfl,hrw,hfr,hrr⟩:=hrel
  obtain⟨so,sc,rfl⟩:=hrw.shape
  have Hrw:=Lib.hid hrw
  have Hfr:=Lib.hid hfr
  have hsr:=hfr.size
  have Hrr:=Lib.hid hrr
  clear hrw hfr hrr
  by_cases hlt:k<q
  ·obtain⟨p,hp⟩:∃p,pr[k]?=some p:=⟨_,List.getElem?_eq_getElem (by rw [Hqq.out];exact hlt)⟩
   obtain⟨p1,p2⟩:=p
   have hpp:=Hpb.out _ (List.mem_of_getElem? hp)
   simp only at hpp
   obtain⟨rb,rfl⟩:∃rb,ro=some ⟨rb,0,none⟩:=by
    rcases Hrr.out.2 with ⟨e,h0⟩|⟨g,cap,cur,e,_⟩
    ·omega
    ·simp only [Value.slice.injEq] at e
     exact⟨g,e.1⟩
   have hcs:=ownsRow_cell Hrr.out
   have hc0:wr.cell? ⟨rb,k * 2,none⟩=some (.int .i64 (p1:Nat)):=by
    have:=hcs.elem (k:=2) (enc:=pcells) (fun _=>rfl) (i:=0) hp rfl
    simpa using this
   have hc1:wr.cell? ⟨rb,k * 2+1,none⟩=some (.int .i64 (p2:Nat)):=by
    have:=hcs.elem (k:=2) (enc:=pcells) (fun _=>rfl) (i:=1) hp rfl
    simpa using this
   have Hstep:Hid (ds++low 2 q++(pr.take (k+1)).flatMap runB=ds++low 2 q++(pr.take k).flatMap runB++low 2 p1++low 2 p2):=Lib.hid (by
    rw [List.take_add_one,hp,List.flatMap_append]
    simp [runB])
   clear hcs hp
   generalize hyy:ds++low 2 q++(pr.take k).flatMap runB=yy at *
   clear hyy
   have hw1:=wrap_u64 p1 (by omega)
   have hw2:=wrap_u64 p2 (by omega)
   go_upto_region 6 with fail
   obtain⟨A,hA⟩:∃A:World,A=(wr.alloc (.cells #[.int .i64 (p1:Nat),.int .i64 (p2:Nat)] 141)).drew:=⟨_,rfl⟩
   have hAb:A.heap[wr.heap.size]?=some (.cells #[.int .i64 (p1:Nat),.int .i64 (p2:Nat)] 141 (0,0)):=by rw [hA];exact heap_alloc_new _ _
   have hA0:A.cell? ⟨wr.heap.size,0,none⟩=some (.int .i64 (p1:Nat)):=by simp [World.cell?,hAb]
   have hA1:A.cell? ⟨wr.heap.size,1,none⟩=some (.int .i64 (p2:Nat)):=by simp [World.cell?,hAb]
   have hAs:A.heap.size=wr.heap.size+1:=by rw [hA];simp
   have HfA:Hid (Fr B [5] [] w A):=Lib.hid (by rw [hA];exact (Hfr.out.alloc (by omega) _).drew)
   have HOA:Hid (Olds wr A):=Lib.hid (by rw [hA];exact (Olds.alloc _ _).trans (Olds.drewN _ 1))
   have HAb:=Lib.hid hAb
   have HL1:=Lib.hid (low_any (w:=A) (B:=B) (v:=.slice so (m+2+4 * k) sc) p1 2 (Hrw.out.olds HOA.out) (by omega) (by omega) (by decide) (by omega))
   clear hAb
   subst hA
   go_region_with (first
    | (go_at_call 54;refine HL1.out.mono ?_;clear HL1;rintro e w4 ⟨v4,rfl,hr4,hf4⟩;have hb4:=hf4.keep HAb.out (by simp) (by decide);have h41:w4.cell? ⟨wr.heap.size,1,none⟩=some (.int .i64 (p2:Nat)):=(by simp [World.cell?,hb4]);have hs4:=hf4.size;have HL2:=Lib.hid (low_any (w:=w4) (B:=B) p2 2 hr4 (by omega) (by omega) (by decide) (by omega));have Hf4:=Lib.hid hf4;clear hr4 hf4 hb4)
    | (go_at_call 54;refine HL2.out.mono ?_;clear HL2;rintro e w5 ⟨v5,rfl,hr5,hf5⟩;have Hr5:=Lib.hid hr5;have Hf5:=Lib.hid hf5;clear hr5 hf5))
   all_goals go_wp2_with fail
   all_goals exact⟨⟨k+1,by omega,by go_num,by have h9:=Hr5.out;rw [show m+2+4 * k+2+2=m+2+4 * (k+1) by omega] at h9;rw [Hstep.out];exact h9,(HfA.out.trans Hf4.out).trans Hf5.out,Hf5.out.keepRow (Hf4.out.keepRow (ownsRow_olds Hrr.out HOA.out) (by decide) (fun g _ h=>by cases h)) (by decide) (fun g _ h=>by cases h)⟩,by simp [intOf];omega⟩
  ·go_wp2_with fail
   go_ret
   obtain rfl:k=q:=by omega
   refine⟨_,rfl,?_,Hfr.out⟩
   have h9:=Hrw.out
   rw [List.take_of_length_le (by rw [Hqq.out];exact Nat.le_refl _),List.append_assoc] at h9
   rw [Hrs.out,Hqq.out]
   exact h9
end Go.Proofs.YtndjmffnlcilbaaGreatDoor
namespace Go.Proofs.YtndjmffnlcilbaaGreatDoor
open Go Go.RowKit Go.Ix Go.Ext
def half:Array Value:=((List.range 16).map fun i=>Value.int .u32 (Crc.bits 4 i:Nat)).toArray
def HalfOk:Prop:=∀W:World,9≤W.heap.size→Calls Tryz.prog 90 #[] W fun e W'=>e=.returned (.agg half)∧Below W.heap.size W W'
theorem half_at {i:Nat}(h:i<16):half[i]?=some (.int .u32 (Crc.bits 4 i:Nat)):=by
 simp [half,h]
set_option maxRecDepth 20000 in
set_option maxHeartbeats 1000000 in
theorem more_cells (hH:HalfOk) (b off c:Nat) (bs:List Nat) (w:World) (hw:9≤w.heap.size) (hm:bs.length≤100000000000) (hc:CellsAt w b off (octs bs)) (h8:∀x∈bs,x<256) :
  Calls Tryz.prog 73 #[.int .u32 0,.slice (some ⟨b,off,none⟩) bs.length c] w fun e w'=>e=.returned (.int .u32 (crc bs))∧Below w.heap.size w w':=by
 have Hc:=Lib.hid hc
 have H8:=Lib.hid h8
 have HH:=Lib.hid (hH w hw)
 clear hc h8 hH
 generalize hn:bs.length=n at *
 have Hn:=Lib.hid hn
 clear hn
 have hsg:IntKind.u32.signed=false:=rfl
 have e0:bits .xor .u32 IntKind.u32.max 0=4294967295:=by decide +kernel
 have Hc1:∀W,Below w.heap.size w W→Hid (CellsAt W b off (octs bs)):=fun W hb=>Lib.hid (Hc.out.keep hb)
 obtain⟨t0,t1,t2,t3,t4,t5,t6,t7,t8,t9,t10,t11,t12,t13,t14,t15,ht⟩:∃t0 t1 t2 t3 t4 t5 t6 t7 t8 t9 t10 t11 t12 t13 t14 t15:Nat,half=#[.int .u32 (t0:Int),.int .u32 (t1:Int),.int .u32 (t2:Int),.int .u32 (t3:Int),.int .u32 (t4:Int),.int .u32 (t5:Int),.int .u32 (t6:Int),.int .u32 (t7:Int),.int .u32 (t8:Int),.int .u32 (t9:Int),.int .u32 (t10:Int),.int .u32 (t11:Int),.int .u32 (t12:Int),.int .u32 (t13:Int),.int .u32 (t14:Int),.int .u32 (t15:Int)]:=⟨_,_,_,_,_,_,_,_,_,_,_,_,_,_,_,_,rfl⟩
 have Ht:=Lib.hid ht
 rw [ht] at HH
 clear ht
 go_enter Tryz.func73,Tryz.ntmps73
 go_wp2_with (go_at_call 90;refine HH.out.mono ?_;rintro e w1 ⟨rfl,hb⟩;have B1:=Lib.hid hb;clear hb)
 have hsz1:=B1.out.size
 go_loopw [6,8,14] (fun dv xv iv wr=>∃(k d:Nat),k≤n∧iv=.int .i64 k∧dv=.int .u32 d∧d<4294967296∧Crc.feed 4294967295 (bs.take k)=d∧wr.heap[w1.heap.size]?=some (.cells half 153 (0,0))∧Below w.heap.size w wr) (fun _ _ iv _=>n-(intOf iv).toNat)
 case atStart =>
  refine⟨0,4294967295,Nat.zero_le _,rfl,rfl,by decide,rfl,?_,?_⟩
  ·rw [Ht.out]
   exact heap_alloc_new _ _
  ·exact B1.out.alloc hsz1 _
 case round =>
  obtain⟨k,d,hk,rfl,rfl,hd,hfeed,hhp,hbw⟩:=hrel
  have Hfeed:=Lib.hid hfeed
  have Hbw:=Lib.hid hbw
  have Hhp:=Lib.hid hhp
  clear hfeed hbw hhp
  by_cases hlt:k<n
  ·obtain⟨x,hx⟩:∃x,bs[k]?=some x:=⟨_,List.getElem?_eq_getElem (by rw [Hn.out];exact hlt)⟩
   have hx8:=H8.out x (List.mem_of_getElem? hx)
   have hck:wr.cell? ⟨b,off+k,none⟩=some (.int .u8 (x:Int)):=(Hc1 wr Hbw.out).out k _ (by simp [octs,hx])
   have ex:bits .xor .u32 (d:Int) (x:Int)=((d ^^^ x:Nat):Int):=bits_xor_u32 d x hd (by omega)
   have hq:d ^^^ x<4294967296:=Nat.xor_lt_two_pow (n:=32) hd (by omega)
   have Hx:=Lib.hid hx
   clear hx
   generalize hy:d ^^^ x=y at *
   have Hy:=Lib.hid hy
   clear hy
   have step:∀y:Nat,y<4294967296→∃a b:Nat,a<16∧bits .and .u32 (y:Int) 15=(a:Int)∧wr.cell? ⟨w1.heap.size,a,none⟩=some (.int .u32 (b:Int))∧bits .xor .u32 ((y:Int) / 16) (b:Int)=(Crc.bits 4 y:Nat)∧Crc.bits 4 y<4294967296:=fun y hy=>by
    refine⟨y % 16,Crc.bits 4 (y % 16),Nat.mod_lt _ (by decide),?_,?_,?_,bits_lt 4 hy⟩
    ·rw [← and15]
     exact bits_and_u32 y 15 hy (by decide)
    ·have h9:=half_at (i:=y % 16) (Nat.mod_lt _ (by decide))
     simp [World.cell?,Hhp.out,h9]
    ·have:=bits_xor_u32 (y / 16) (Crc.bits 4 (y % 16)) (by omega) (bits_lt 4 (by omega))
     rw [show ((y / 16:Nat):Int)=(y:Int) / 16 by omega] at this
     rw [this]
     exact congrArg _ (Crc.half_step y).symm
   obtain⟨a1,b1,ha1,ea1,hc1,ex1,hl1⟩:=step y hq
   obtain⟨a2,b2,ha2,ea2,hc2,ex2,hl2⟩:=step _ hl1
   have Hb8:Hid (Crc.bits 8 y=Crc.bits 4 (Crc.bits 4 y)):=Lib.hid (Crc.bits_add 4 4 y)
   clear step
   generalize Crc.bits 4 (Crc.bits 4 y)=y2 at *
   generalize Crc.bits 4 y=y1 at *
   go_wp2_with fail
   go_roundw
   case rel=>exact⟨k+1,y2,by omega,by go_num,rfl,hl2,by
    rw [List.take_add_one,Hx.out]
    show Crc.feed 4294967295 (bs.take k++[x])=y2
    rw [feed_snoc,Hfeed.out,Hy.out]
    exact Hb8.out,Hhp.out,Hbw.out⟩
   case measure=>simp [intOf];omega
  ·have en:bits .xor .u32 IntKind.u32.max (d:Int)=((4294967295 ^^^ d:Nat):Int):=not_u32 d hd
   have He:Hid (crc bs=4294967295 ^^^ d):=Lib.hid (by
    unfold crc
    rw [← Hfeed.out,List.take_of_length_le (by rw [Hn.out];omega)])
   go_wp2_with fail
   go_ret
   exact⟨by rw [He.out];rfl,Hbw.out⟩
set_option maxRecDepth 20000 in
set_option maxHeartbeats 1000000 in
theorem more_empty (hH:HalfOk) (o:Option Addr) (c:Nat) (w:World) (hw:9≤w.heap.size):Calls Tryz.prog 73 #[.int .u32 0,.slice o 0 c] w fun e w'=>e=.returned (.int .u32 (crc []))∧Below w.heap.size w w':=by
 have HH:=Lib.hid (hH w hw)
 clear hH
 have hsg:IntKind.u32.signed=false:=rfl
 have e0:bits .xor .u32 IntKind.u32.max 0=4294967295:=by decide +kernel
 have e1:bits .xor .u32 IntKind.u32.max 4294967295=0:=by decide +kernel
 have He:Hid (crc []=0):=Lib.hid (by decide +kernel)
 obtain⟨t0,t1,t2,t3,t4,t5,t6,t7,t8,t9,t10,t11,t12,t13,t14,t15,ht⟩:∃t0 t1 t2 t3 t4 t5 t6 t7 t8 t9 t10 t11 t12 t13 t14 t15:Nat,half=#[.int .u32 (t0:Int),.int .u32 (t1:Int),.int .u32 (t2:Int),.int .u32 (t3:Int),.int .u32 (t4:Int),.int .u32 (t5:Int),.int .u32 (t6:Int),.int .u32 (t7:Int),.int .u32 (t8:Int),.int .u32 (t9:Int),.int .u32 (t10:Int),.int .u32 (t11:Int),.int .u32 (t12:Int),.int .u32 (t13:Int),.int .u32 (t14:Int),.int .u32 (t15:Int)]:=⟨_,_,_,_,_,_,_,_,_,_,_,_,_,_,_,_,rfl⟩
 rw [ht] at HH
 clear ht
 go_enter Tryz.func73,Tryz.ntmps73
 go_wp2_with (go_at_call 90;refine HH.out.mono ?_;rintro e w1 ⟨rfl,hb⟩;have B1:=Lib.hid hb;clear hb)
 have hsz1:=B1.out.size
 go_loopw [6,14] (fun dv iv wr=>dv=.int .u32 4294967295∧iv=.int .i64 0∧Below w.heap.size w wr) (fun _ _ _=>0)
 case atStart =>
  refine⟨rfl,rfl,?_⟩
  exact B1.out.alloc hsz1 _
 case round =>
  obtain⟨rfl,rfl,hbw⟩:=hrel
  have Hbw:=Lib.hid hbw
  clear hbw
  go_wp2_with fail
  go_ret
  exact⟨by rw [He.out];rfl,Hbw.out⟩
set_option maxHeartbeats 400000 in
theorem sum_any (hH:HalfOk) {w:World}{v:Value}{bs:List Nat}(hw:9≤w.heap.size) (h:BytesAt w v bs) (hm:bs.length≤100000000000) (h8:∀x∈bs,x<256):Calls Tryz.prog 42 #[v] w fun e w'=>e=.returned (.int .u32 (crc bs))∧Below w.heap.size w w':=by
 have HM:Hid (Calls Tryz.prog 73 #[.int .u32 0,v] w fun e w'=>e=.returned (.int .u32 (crc bs))∧Below w.heap.size w w'):=Lib.hid (by
  rcases h.cases with ⟨o,c,rfl,h1,_⟩|⟨b,off,c,rfl,_,hc⟩
  ·have:bs=[]:=by
    cases bs with
    | nil=>rfl
    | cons _ _=>simp [octs] at h1
   subst this
   exact more_empty hH o c w hw
  ·exact more_cells hH b off c bs w hw hm hc h8)
 clear h h8 hH
 generalize crc bs=r at *
 go_enter Tryz.func42,Tryz.ntmps42
 go_wp2_with (go_at_call 73;refine HM.out.mono ?_;rintro e w' ⟨rfl,hb⟩;have Hb:=Lib.hid hb;clear hb)
 go_ret
 exact⟨rfl,Hb.out⟩
end Go.Proofs.YtndjmffnlcilbaaGreatDoor
namespace Go.Proofs.YtndjmffnlcilbaaGreatDoor
open Go Go.RowKit Go.Ix Go.Ext
section
variable {T e:TypeId}{z:Value}{size bytes:Nat}
theorem run_append_nilG (hT:Tryz.prog.underlying T=some (.slice e)) (hs:∀W:World,(sizeOf e).run Tryz.prog W=.ok size W) (base:Option Addr) (l c:Nat) (h:l≤c) (ty:TypeId) (W:World) :
  (Builtin.append_ #[T,T] ty #[.slice base l c,.slice none 0 0]).run Tryz.prog W=.ok (.slice base l c) W:=by
 have hu:(underlying T).run Tryz.prog W=.ok (.slice e) W:=run_underlying hT W
 have hs:=hs W
 cases base with
 | none=>simp [Builtin.append_,bind,pure,Sem.run_bind',hu,hs,Sem.run,Builtin.lenOf,Builtin.firstCells,h,Sem.bind]
 | some a=>simp [Builtin.append_,bind,pure,Sem.run_bind',hu,hs,Sem.run,Builtin.lenOf,Builtin.firstCells,h,storeCells,Sem.bind]
theorem run_append_flat (hT:Tryz.prog.underlying T=some (.slice e)) (hs:∀W:World,(sizeOf e).run Tryz.prog W=.ok size W) {i:TypeInfo}(hi:Tryz.prog.info? e=some i) (hz:i.zero=some z) (hsize:i.size=size) (hby:i.bytes=bytes) (hzs:z.cells.size=size) (hsz:0<size) (hb1:1≤bytes)
  {W:World}{B n m:Nat}{v u:Value}{xs ys:List Value}(hown:W.ownsRow B e size v n xs) (hB:B≤W.heap.size) (hu:FlatAt W u m ys) (hm:ys.length=m * size) (h1:∀x∈ys,x.oneCell'=true) (hbytes:(n+m) * bytes≤140737488355328) (ty:TypeId) :
  ∃v' w',(Builtin.append_ #[T,T] ty #[v,u]).run Tryz.prog W=.ok v' w'∧w'.ownsRow B e size v' (n+m) (xs++ys)∧W.grownBy w' v.ownBlock∧(v'.ownBlock=v.ownBlock∨v'.ownBlock=some W.heap.size):=by
 have hmax:n+m≤maxLen:=by
  have:n+m≤(n+m) * bytes:=Nat.le_mul_of_pos_right _ hb1
  unfold maxLen
  omega
 rcases hu.cases with ⟨o,c,rfl,rfl,h0⟩|⟨b,off,c,rfl,hne,hc⟩
 ·have hm0:m=0:=by
   rcases Nat.eq_zero_or_pos m with h | h
   ·exact h
   ·have:=Nat.mul_pos h hsz
    simp at hm
    omega
  subst hm0
  cases o with
  | none =>
   obtain rfl:=h0 rfl
   obtain⟨o,c,rfl,_⟩:=ownsRow_shape hown
   have hlc:n≤c:=by
    rcases hown.2 with ⟨e,h⟩|⟨g,cap,cur,e,_,_,h,_⟩
    ·omega
    ·simp only [Value.slice.injEq] at e
     omega
   exact⟨_,W,run_append_nilG hT hs o n c hlc ty W,by rw [List.append_nil];exact hown,⟨rfl,rfl,rfl,Nat.le_refl _,fun _ _ _=>rfl⟩,.inl rfl⟩
  | some a =>
   obtain⟨v',w',h1,h2,h3,_,h5⟩:=run_append_own_at (P:=Tryz.prog) W B T ty e i z size bytes hT hi hz hsize hby hzs hsz v n xs hown a 0 c [] (by simp) (fun j u h=>by simp at h) (fun u h=>by simp at h) hmax hbytes hB
   exact⟨v',w',h1,h2,h3,h5⟩
 ·obtain⟨v',w',h1,h2,h3,_,h5⟩:=run_append_own_at (P:=Tryz.prog) W B T ty e i z size bytes hT hi hz hsize hby hzs hsz v n xs hown ⟨b,off,none⟩ m c ys hm (fun j x hx=>by
   have:=hc j x hx
   rw [show (⟨b,off,none⟩:Addr).add j=⟨b,off+j,none⟩ by simp [Addr.add]]
   exact this) h1 hmax hbytes hB
  exact⟨v',w',h1,h2,h3,h5⟩
theorem wpList_append_flat {ops:Array Oper}{rest:List Oper}{o:Oper}{a:Act}{Q:Exit→Act→World→Prop}{W:World}(hgd:o.guard=none) (s x:Operand)
  (ho:o.op=.call { callee:=.builtin .append,args:=#[s,x],argTypes:=#[T,T] })
  (hT:Tryz.prog.underlying T=some (.slice e)) (hs:∀W:World,(sizeOf e).run Tryz.prog W=.ok size W) {i:TypeInfo}(hi:Tryz.prog.info? e=some i) (hz:i.zero=some z) (hsize:i.size=size) (hby:i.bytes=bytes) (hzs:z.cells.size=size) (hsz:0<size) (hb1:1≤bytes)
  (B n m:Nat) (v u:Value) (xs ys:List Value) (hsv:a.eval s=v) (hxv:a.eval x=u) (hown:W.ownsRow B e size v n xs) (hB:B≤W.heap.size) (hu:FlatAt W u m ys) (hm:ys.length=m * size) (h1:∀x∈ys,x.oneCell'=true)
  (hbytes:(n+m) * bytes≤140737488355328)
  (h:∀v' w',w'.ownsRow B e size v' (n+m) (xs++ys)→W.grownBy w' v.ownBlock→(v'.ownBlock=v.ownBlock∨v'.ownBlock=some W.heap.size)→wpList Tryz.prog ops Q rest (a.put o.dst v') w'):wpList Tryz.prog ops Q (o :: rest) a W :=
 wpList_plain hgd fun K hK=>by
  obtain⟨v',w',hr,h2,h3,h4⟩:=run_append_flat hT hs hi hz hsize hby hzs hsz hb1 hown hB hu hm h1 hbytes o.type
  unfold Oper.wp execOp
  simp only [ho,resolve,invoke,builtin,Sem.run_bind,Sem.run_pure,Result.andThen_ok,List.map_toArray,List.map_cons,List.map_nil,hsv,hxv,hr]
  exact hK _ _ (h v' w' h2 h3 h4)
end
theorem size5 (W:World):(sizeOf 5).run Tryz.prog W=.ok 1 W:=by kernel_rfl
theorem one_octs {l:List Nat}:∀x∈octs l,x.oneCell'=true:=by
 intro x hx
 unfold octs at hx
 obtain⟨y,_,rfl⟩:=List.mem_map.1 hx
 simp [Value.oneCell']
theorem owns_take {w:World}{B e n c j:Nat}{o:Option Addr}{xs:List Value}(h:w.ownsRow B e 1 (.slice o n c) n xs) (hj:j≤n):FlatAt w (.slice o j c) j (xs.take j):=by
 rcases h.2 with ⟨e,h0⟩|⟨g,cap,cur,e,_⟩
 ·simp only [Value.slice.injEq] at e
  obtain⟨rfl,_,rfl⟩:=e
  subst h0
  obtain rfl:j=0:=by omega
  exact⟨none,0,rfl,fun _=>rfl,fun h=>absurd (List.take_zero) h⟩
 ·simp only [Value.slice.injEq] at e
  obtain⟨rfl,_,rfl⟩:=e
  refine⟨_,_,rfl,(fun h=>by cases h),fun _=>⟨g,0,rfl,fun i v hv=>?_⟩⟩
  have hij:=(List.getElem?_eq_some_iff.1 hv).1
  rw [List.length_take] at hij
  rw [List.getElem?_take_of_lt (by omega)] at hv
  exact ownsRow_cell h i v hv
theorem owns_flat {w:World}{B e n c:Nat}{o:Option Addr}{xs:List Value}(h:w.ownsRow B e 1 (.slice o n c) n xs):FlatAt w (.slice o n c) n xs:=by
 have:=owns_take h (Nat.le_refl n)
 rwa [List.take_of_length_le (by rw [h.1];omega)] at this
def nums (s:Txt):List Nat:=s.map UInt8.toNat
theorem nums_len (s:Txt):(nums s).length=s.length:=by simp [nums]
theorem nums_byte {s:Txt}{x:Nat}(h:x∈nums s):x<256:=by
 obtain⟨c,_,rfl⟩:=List.mem_map.1 h
 exact c.toNat_lt
theorem cells_txt (x:Txt):Lib.strCells ⟨x.toArray⟩=octs (nums x):=by simp [Lib.strCells,octs,nums]
theorem run_append_txt {W:World}{B n:Nat}{v:Value}{xs:List Value}(hown:W.ownsRow B 5 1 v n xs) (hB:B≤W.heap.size) (x:Txt) (hbytes:n+x.length≤140737488355328) (ty:TypeId) :
  ∃v' w',(Builtin.append_ #[34,9] ty #[v,encStr x]).run Tryz.prog W=.ok v' w'∧w'.ownsRow B 5 1 v' (n+x.length) (xs++octs (nums x))∧W.grownBy w' v.ownBlock∧(v'.ownBlock=v.ownBlock∨v'.ownBlock=some W.heap.size):=by
 obtain⟨i0,hi0,hz0,hz1,hz2⟩:=info_parts Tryz.info5
 have hsize:(⟨x.toArray⟩:ByteArray).size=x.length:=by show x.toArray.size=x.length;simp
 obtain⟨v',w',hr,h2,h3,h4⟩:=Lib.run_append_own_string (P:=Tryz.prog) W B 34 9 ty 5 i0 Tryz.underlying34 Tryz.underlying9 hi0 hz0 hz1 hz2 v n xs hown ⟨x.toArray⟩ (by rw [hsize];unfold maxLen;omega) (by rw [hsize];exact hbytes) hB
 rw [hsize,cells_txt] at h2
 refine⟨v',w',hr,h2,h3,?_⟩
 rcases hown.2 with ⟨rfl,rfl⟩|⟨g,cap,cur,rfl,hbg,hg,hnc,hcm,hcs,htake⟩
 ·by_cases h0:x.length=0
  ·have:v'=.slice none 0 0:=h4.2 ⟨rfl,by rw [hsize];exact h0⟩
   subst this
   exact .inl rfl
  ·have hr2:=run_append_nil_string (P:=Tryz.prog) W 34 9 ty 5 i0 (.int .u8 0) Tryz.underlying34 Tryz.underlying9 hi0 hz0 ⟨x.toArray⟩ (by rw [hsize];omega) (by rw [hsize];omega) (by rw [hsize,hz2];omega)
   rw [hr] at hr2
   simp only [Result.ok.injEq] at hr2
   rw [hr2.1]
   exact .inr rfl
 ·have hcs':cur.size=cap:=by simpa using hcs
  by_cases hroom:n+x.length≤cap
  ·have hr2:=Lib.run_append_room_string (P:=Tryz.prog) W 34 9 ty 5 i0 Tryz.underlying34 Tryz.underlying9 hi0 hz1 g n cap cur hg ⟨x.toArray⟩ (by rw [hsize];exact hroom) (by rw [hsize];omega)
   rw [hr] at hr2
   simp only [Result.ok.injEq] at hr2
   rw [hr2.1]
   exact .inl rfl
  ·have holds:∀j u,xs[j]?=some u→W.cell? ((⟨g,0,none⟩:Addr).add j)=some u:=hown.cells (g:=g) rfl
   have hxl:xs.length=n:=by simpa using hown.1
   have hr2:=Lib.run_append_grow_string (P:=Tryz.prog) W 34 9 ty 5 i0 (.int .u8 0) Tryz.underlying34 Tryz.underlying9 hi0 hz0 ⟨g,0,none⟩ n cap xs (by rw [hz1];simpa using hxl) holds ⟨x.toArray⟩ (by rw [hsize];omega) (by rw [hsize];omega) (by rw [hz2,hsize];exact growslice_fits (by omega) (by omega))
   rw [hr] at hr2
   simp only [Result.ok.injEq] at hr2
   rw [hr2.1]
   exact .inr rfl
theorem wpList_append_txt {ops:Array Oper}{rest:List Oper}{o:Oper}{a:Act}{Q:Exit→Act→World→Prop}{W:World}(hgd:o.guard=none) (s x:Operand)
  (ho:o.op=.call { callee:=.builtin .append,args:=#[s,x],argTypes:=#[34,9] })
  (B n:Nat) (v:Value) (t:Txt) (xs:List Value) (hsv:a.eval s=v) (hxv:a.eval x=encStr t) (hown:W.ownsRow B 5 1 v n xs) (hB:B≤W.heap.size) (hbytes:n+t.length≤140737488355328)
  (h:∀v' w',w'.ownsRow B 5 1 v' (n+t.length) (xs++octs (nums t))→W.grownBy w' v.ownBlock→(v'.ownBlock=v.ownBlock∨v'.ownBlock=some W.heap.size)→wpList Tryz.prog ops Q rest (a.put o.dst v') w'):wpList Tryz.prog ops Q (o :: rest) a W :=
 wpList_plain hgd fun K hK=>by
  obtain⟨v',w',hr,h2,h3,h4⟩:=run_append_txt hown hB t hbytes o.type
  unfold Oper.wp execOp
  simp only [ho,resolve,invoke,builtin,Sem.run_bind,Sem.run_pure,Result.andThen_ok,List.map_toArray,List.map_cons,List.map_nil,hsv,hxv,hr]
  exact hK _ _ (h v' w' h2 h3 h4)
theorem run_append_zeros {W:World}{v:Value}(o:Option Addr) (m c k:Nat) (hv:v=.slice o m c) (hk0:0<k) (hk:k≤1000000) (hm:m≤1000000) (ty:TypeId) :
  (Builtin.append_ #[34,3] ty #[v,.int .i64 k]).run Tryz.prog W=(Builtin.append_ #[34,9] ty #[v,encStr (List.replicate k 0)]).run Tryz.prog W:=by
 subst hv
 obtain⟨i0,hi0,hz0,hz1,hz2⟩:=info_parts Tryz.info5
 have hw:IntKind.i64.wrap (k:Int)=(k:Int):=by rw [IntKind.wrap_i64];omega
 have hneg:¬ (k:Int)<0:=by omega
 have hsz:(⟨Array.replicate k (0:UInt8)⟩:ByteArray).size=k:=by show (Array.replicate k (0:UInt8)).size=k;simp
 have hbig:¬ (281474976710656:Int)<(k:Int):=by omega
 have hmax:¬ (9223372036854775807:Int)<(m:Int)+(k:Int):=by omega
 have hcells:Builtin.zeroCells (Value.int IntKind.u8 0).cells k=((⟨Array.replicate k (0:UInt8)⟩:ByteArray).extract 0 k).data.map fun b=>Value.int .u8 b.toNat:=by
  have e1:((⟨Array.replicate k (0:UInt8)⟩:ByteArray).extract 0 k).data=Array.replicate k (0:UInt8):=by simp
  rw [e1]
  apply Array.ext
  ·simp [Builtin.zeroCells,Value.cells]
  ·intro j h1 h2
   have h3:j % 1=0:=Nat.mod_one j
   simp [Builtin.zeroCells,Value.cells,h3]
 have hz0':i0.bytes=1:=hz2
 have hk0':¬ k=0:=by omega
 by_cases hroom:m+k≤c
 ·simp [Builtin.append_,run_underlying Tryz.underlying34,run_underlying Tryz.underlying9,run_underlying Tryz.underlying3,sizeOf,typeInfo,hi0,hz0,encStr,Builtin.lenOf,hsz,asInt,asIntOf,hw,hneg,hz1,hz2,hroom,Builtin.firstCells,hbig,hmax,hk0',hcells]
  done
 ·have hfit:¬ 281474976710656<Builtin.nextslicecap (m+k) c:=by
   have:=growslice_fits (need:=m+k) (old:=c) (bytes:=1) (by omega) (by omega)
   omega
  simp [Builtin.append_,run_underlying Tryz.underlying34,run_underlying Tryz.underlying9,run_underlying Tryz.underlying3,sizeOf,typeInfo,hi0,hz0,encStr,Builtin.lenOf,hsz,asInt,asIntOf,hw,hneg,hz1,hz2,hroom,Builtin.firstCells,hbig,hmax,hk0',hcells,hfit]
  done
theorem wpList_append_zeros {ops:Array Oper}{rest:List Oper}{o:Oper}{a:Act}{Q:Exit→Act→World→Prop}{W:World}(hgd:o.guard=none) (s x:Operand)
  (ho:o.op=.call { callee:=.builtin .append,args:=#[s,x],argTypes:=#[34,3] })
  (B m k:Nat) (v:Value) (xs:List Value) (hsv:a.eval s=v) (hxv:a.eval x=.int .i64 k) (hown:W.ownsRow B 5 1 v m xs) (hB:B≤W.heap.size) (hk0:0<k) (hk:k≤1000000) (hm:m≤1000000)
  (h:∀v' w',w'.ownsRow B 5 1 v' (m+k) (xs++octs (nums (List.replicate k 0)))→W.grownBy w' v.ownBlock→(v'.ownBlock=v.ownBlock∨v'.ownBlock=some W.heap.size)→wpList Tryz.prog ops Q rest (a.put o.dst v') w'):wpList Tryz.prog ops Q (o :: rest) a W :=
 wpList_plain hgd fun K hK=>by
  obtain⟨oo,c,e,_⟩:=ownsRow_shape hown
  obtain⟨v',w',hr,h2,h3,h4⟩:=run_append_txt hown hB (List.replicate k 0) (by simp;omega) o.type
  rw [← run_append_zeros oo m c k e hk0 hk hm] at hr
  unfold Oper.wp execOp
  simp only [ho,resolve,invoke,builtin,Sem.run_bind,Sem.run_pure,Result.andThen_ok,List.map_toArray,List.map_cons,List.map_nil,hsv,hxv,hr]
  rw [List.length_replicate] at h2
  exact hK _ _ (h v' w' h2 h3 h4)
end Go.Proofs.YtndjmffnlcilbaaGreatDoor
namespace Go.Proofs.YtndjmffnlcilbaaGreatDoor
open Go Go.RowKit Go.Ix Go.Ext
theorem run_append_full {W:World}{B g n:Nat}{xs:List Value}(hB:B≤W.heap.size) (hl:xs.length=n) (hc:∀j u,xs[j]?=some u→W.cell? ⟨g,j,none⟩=some u) (x:Value) (a c:Nat) (hx:W.cell? ⟨a,0,none⟩=some x) (hn:n≤100000000008) :
  ∃cap w',(∀ty,(Builtin.append_ #[34,34] ty #[.slice (some ⟨g,0,none⟩) n n,.slice (some ⟨a,0,none⟩) 1 c]).run Tryz.prog W=.ok (.slice (some ⟨W.heap.size,0,none⟩) (n+1) cap) w')∧w'.ownsRow B 5 1 (.slice (some ⟨W.heap.size,0,none⟩) (n+1) cap) (n+1) (xs++[x])∧W.grownBy w' none:=by
 obtain⟨i0,hi0,hz0,hz1,hz2⟩:=info_parts Tryz.info5
 have hr:=fun ty=>run_append_grow (P:=Tryz.prog) W 34 ty 5 i0 (.int .u8 0) Tryz.underlying34 hi0 hz0 ⟨g,0,none⟩ n n xs (by rw [hz1];omega) (fun j u hu=>by
  have:=hc j u hu
  rw [show (⟨g,0,none⟩:Addr).add j=⟨g,j,none⟩ by simp [Addr.add];omega]
  exact this) ⟨a,0,none⟩ 1 c [x] (by rw [hz1];rfl) (fun j u hu=>by
   have hj:j=0:=by
    have:=(List.getElem?_eq_some_iff.1 hu).1
    simp at this
    omega
   subst hj
   simp at hu
   subst hu
   rw [show (⟨a,0,none⟩:Addr).add 0=⟨a,0,none⟩ by simp [Addr.add]]
   exact hx) (by omega) (by omega) (by rw [hz2];exact growslice_fits (by omega) (by omega))
 refine⟨_,_,hr,⟨by simp [hl],.inr ⟨W.heap.size,_,_,rfl,hB,heap_alloc_new W.drew _,?_,?_,?_,?_⟩⟩,⟨rfl,rfl,rfl,by simp,fun k hk _=>Below.heap_alloc W.drew _ k hk⟩⟩
 ·exact grownCap_ge W (n+1) n 5
 ·exact grownCap_le_maxLen W (n+1) n 5 (by unfold maxLen;omega)
 ·have:=grownCap_ge W (n+1) n 5
  simp only [Array.size_append,List.size_toArray,size_zeroCells,hl,List.length_cons,List.length_nil]
  simp [Value.cells]
  omega
 ·simp only [Array.toList_append,List.append_assoc]
  rw [← List.append_assoc]
  have:(xs++[x]).length=(n+1) * 1:=by simp [hl]
  rw [← this]
  exact List.take_left
theorem wpList_append_run {ops:Array Oper}{rest:List Oper}{o:Oper}{a:Act}{Q:Exit→Act→World→Prop}{W:World}(hgd:o.guard=none) (s x:Operand)
  (ho:o.op=.call { callee:=.builtin .append,args:=#[s,x],argTypes:=#[34,34] }) (v u v':Value) (w':World) (hsv:a.eval s=v) (hxv:a.eval x=u)
  (hrun:∀ty,(Builtin.append_ #[34,34] ty #[v,u]).run Tryz.prog W=.ok v' w') (h:wpList Tryz.prog ops Q rest (a.put o.dst v') w'):wpList Tryz.prog ops Q (o :: rest) a W :=
 wpList_plain hgd fun K hK=>by
  unfold Oper.wp execOp
  simp only [ho,resolve,invoke,builtin,Sem.run_bind,Sem.run_pure,Result.andThen_ok,List.map_toArray,List.map_cons,List.map_nil,hsv,hxv,hrun o.type]
  exact hK _ _ h
theorem conv_lit (W:World):(convert 34 34 (.slice (some ⟨W.heap.size,0,none⟩) 4 4)).run Tryz.prog (W.alloc (.cells #[.int .u8 66,.int .u8 71,.int .u8 88,.int .u8 49] 5))=.ok (.slice (some ⟨W.heap.size,0,none⟩) 4 4) (W.alloc (.cells #[.int .u8 66,.int .u8 71,.int .u8 88,.int .u8 49] 5 (4,5))):=Lib.run_convert_bytes_const W 34 5 #[.int .u8 66,.int .u8 71,.int .u8 88,.int .u8 49] 4 4 Tryz.underlying34 Tryz.underlying5
set_option maxRecDepth 20000 in
set_option maxHeartbeats 1000000 in
theorem low_odd {w:World}{B g:Nat}(bs:List Nat) (n m many:Nat) (hg:w.heap[g]?=some (.cells (octs bs).toArray 5 (m,m+1))) (hbs:bs.length=m) (h8:∀x∈bs,x<256) (hB:B≤w.heap.size) (hn:n<18446744073709551616) (hm:many≤8) (hm1:1≤many) (hl:m≤100000000) :
  Calls Tryz.prog 54 #[.slice (some ⟨g,0,none⟩) m m,.int .u64 n,.int .i64 many] w fun e w'=>∃v',e=.returned v'∧RowB w' B v' (bs++low many n) (m+many)∧Fr B [5] [] w w':=by
 obtain⟨i0,hi0,hz0,hz1,hz2⟩:=info_parts Tryz.info5
 have Hg:=Lib.hid hg
 have hgl:=heap_lt hg
 have H8b:=Lib.hid h8
 clear hg h8
 go_enter Tryz.func54,Tryz.ntmps54
 go_wp2_with fail
 go_loopw [0,1,8] (fun sv nv iv wr=>∃(k q:Nat),k≤many∧iv=.int .i64 k∧nv=.int .u64 q∧q=n / 256 ^ k∧q<18446744073709551616∧(RowB wr B sv (bs++low k n) (m+k)∨(k=0∧wr=w∧sv=.slice (some ⟨g,0,none⟩) m m))∧Fr B [5] [] w wr) (fun _ _ iv _=>many-(intOf iv).toNat)
 case atStart=>exact⟨0,n,Nat.zero_le _,rfl,rfl,by simp,hn,.inr ⟨rfl,rfl,rfl⟩,Fr.refl _ _ _ _⟩
 case round =>
  obtain⟨k,q,hk,rfl,rfl,hqn,hq,hrow,hfr⟩:=hrel
  have Hqn:=Lib.hid hqn
  clear hqn
  have Hfr:=Lib.hid hfr
  have hsz:=hfr.size
  clear hfr
  rcases hrow with hrow|⟨rfl,rfl,rfl⟩
  ·have Hrow8:=Lib.hid hrow
   obtain⟨bz,hbz⟩:∃bz,bz=bs++low k n:=⟨_,rfl⟩
   rw [← hbz] at hrow
   have Hbz:=Lib.hid hbz
   clear hbz
   obtain⟨hr,h8,hlen⟩:=hrow
   unfold Row8 at hr
   obtain⟨o,c,rfl,_⟩:=ownsRow_shape hr
   have Hrow:=Lib.hid hr
   have H8:=Lib.hid h8
   clear hr h8 hbs
   generalize hN:bz.length=N at *
   have HN:=Lib.hid hN
   clear hN
   subst hlen
   by_cases hlt:k<many
   ·go_wp2_with (at_builtin;refine wpList_append_lies _ rfl _ _ _ rfl B 5 i0 _ 1 1 Tryz.underlying34 hi0 hz0 hz1 hz2 rfl Nat.one_pos (.slice o (m+k) c) (m+k) (octs bz) rfl (ownsRow_olds Hrow.out (Olds.alloc _ _)) ⟨wr.heap.size,0,none⟩ 1 1 [.int .u8 ((q:Int) % 256)] rfl rfl (World.news_of_block (cs:=#[.int .u8 ((q:Int) % 256)]) (t:=5) (fr:=(0,0)) (heap_alloc_new wr _)) (by simp [Value.oneCell']) Nat.one_pos (by unfold maxLen;omega) (by omega) (by simp;omega) (wr.heap.size+1) (by simp) ?_;intro gg cap2 w4 hown4 hgrow hat hlt4)
    have Hnew:Hid (RowB w4 B (.slice (some ⟨gg,0,none⟩) (m+k+1) cap2) (bs++low (k+1) n) (m+(k+1))):=Lib.hid (by
     rw [low_snoc,← List.append_assoc,← Hbz.out,← Hqn.out]
     exact⟨by
     unfold Row8
     rw [octs_append,List.length_append,HN.out]
     exact hown4,fun x hx=>by
     rw [List.mem_append] at hx
     rcases hx with hx | hx
     ·exact H8.out x hx
     ·have:x=q % 256:=by simpa using hx
      omega,by rw [List.length_append,HN.out];rfl⟩)
    have Hk4:Hid (Fr B [5] [] w w4):=Lib.hid ((Hfr.out.alloc (by omega) _).row (by simp;omega) (ownsRow_olds Hrow.out (Olds.alloc _ _)) (by simp) hgrow)
    go_roundw
    case rel=>exact⟨k+1,q / 256,by omega,by go_num,by congr 1,by rw [Hqn.out,Nat.div_div_eq_div_mul,Nat.pow_succ],by omega,.inl Hnew.out,Hk4.out⟩
    case measure=>simp [intOf];omega
   ·go_wp2_with fail
    go_ret
    obtain rfl:k=many:=by omega
    exact⟨_,rfl,Hrow8.out,Hfr.out⟩
  ·obtain⟨cap2,w4,hrun,hown4,hgrow⟩:=run_append_full (W:=wr.alloc (.cells #[.int .u8 ((q:Int) % 256)] 5)) (B:=B) (g:=g) (n:=m) (xs:=octs bs) (by simp;omega) (by rw [octs_len,hbs]) (fun j u hu=>by
    have h9:(wr.alloc (.cells #[.int .u8 ((q:Int) % 256)] 5)).heap[g]?=some (.cells (octs bs).toArray 5 (m,m+1)):=(Below.heap_alloc _ _ g hgl).trans Hg.out
    simp only [World.cell?,h9]
    simpa using hu) (.int .u8 ((q:Int) % 256)) wr.heap.size 1 (by
    have h9:=heap_alloc_new wr (.cells #[.int .u8 ((q:Int) % 256)] 5)
    simp only [World.cell?,h9]
    rfl) (by omega)
   have hsa:(wr.alloc (.cells #[.int .u8 ((q:Int) % 256)] 5)).heap.size=wr.heap.size+1:=by simp
   rw [hsa] at hrun hown4
   have Hrun:=Lib.hid hrun
   have Hown4:=Lib.hid hown4
   have Hgrow:=Lib.hid hgrow
   have Hbs:=Lib.hid hbs
   clear hrun hown4 hgrow hbs
   go_wp2_with (at_builtin;refine wpList_append_run rfl _ _ rfl _ _ _ w4 rfl rfl Hrun.out ?_)
   have Hnew:Hid (RowB w4 B (.slice (some ⟨wr.heap.size+1,0,none⟩) (m+1) cap2) (bs++low 1 n) (m+1)):=Lib.hid (by
    rw [show low 1 n=[q % 256] by rw [Hqn.out];simp [low]]
    exact⟨by
    unfold Row8
    rw [octs_append,List.length_append,Hbs.out]
    exact Hown4.out,fun x hx=>by
    rw [List.mem_append] at hx
    rcases hx with hx | hx
    ·exact H8b.out x hx
    ·have:x=q % 256:=by simpa using hx
     omega,by rw [List.length_append,Hbs.out];rfl⟩)
   have Hk4:Hid (Fr B [5] [] wr w4):=Lib.hid (((Fr.refl _ _ _ _).alloc hB _).trans (Fr.of_below ⟨Hgrow.out.os,Hgrow.out.tape,Hgrow.out.output,Hgrow.out.size,fun b hb=>Hgrow.out.block b hb (by simp)⟩ (by simp;omega) _ _))
   go_roundw
   case rel=>exact⟨1,q / 256,by omega,by go_num,by congr 1,by rw [Hqn.out,Nat.div_div_eq_div_mul,← Nat.pow_succ],by omega,.inl Hnew.out,Hk4.out⟩
   case measure=>simp [intOf];omega
end Go.Proofs.YtndjmffnlcilbaaGreatDoor
namespace Go.Proofs.YtndjmffnlcilbaaGreatDoor
open Go Go.RowKit Go.Ix Go.Ext
theorem RowB.at {w:World}{B m:Nat}{v:Value}{bs:List Nat}(h:RowB w B v bs m):BytesAt w v bs∧(∀x∈bs,x<256)∧bs.length=m:=by
 obtain⟨h1,h2,h3⟩:=h
 unfold Row8 at h1
 obtain⟨o,c,rfl,_⟩:=ownsRow_shape h1
 exact⟨owns_flat h1,h2,h3⟩
theorem ByteRow.at {w:World}{B m:Nat}{v:Value}(h:ByteRow w B v m):∃bs,BytesAt w v bs∧(∀x∈bs,x<256)∧bs.length=m:=by
 obtain⟨bs,h1,h2,h3⟩:=h
 unfold Row8 at h1
 obtain⟨o,c,rfl,_⟩:=ownsRow_shape h1
 exact⟨bs,owns_flat h1,h2,h3⟩
theorem crc_lt {l:List Nat}(h:∀x∈l,x<256):crc l<4294967296:=by
 unfold crc
 exact Nat.xor_lt_two_pow (n:=32) (by decide) (feed_lt l (by decide) h)
theorem sum_some (hH:HalfOk) {w:World}{v:Value}{m:Nat}(hw:9≤w.heap.size) {bs:List Nat}(h:BytesAt w v bs∧(∀x∈bs,x<256)∧bs.length=m) (hm:m≤100000000) :
  Calls Tryz.prog 42 #[v] w fun e w'=>∃s:Nat,s=crc bs∧s<4294967296∧e=.returned (.int .u32 s)∧Below w.heap.size w w':=by
 obtain⟨h1,h2,h3⟩:=h
 exact (sum_any hH hw h1 (by omega) h2).mono fun e w' ⟨a,b⟩=>⟨crc bs,rfl,crc_lt h2,a,b⟩
set_option maxRecDepth 20000 in
set_option maxHeartbeats 4000000 in
theorem slot_any (hH:HalfOk) {w:World}(gen:Nat) (dv:Value) (dn dc:Nat) (da:Option Addr) (o:Option Addr) (c n:Nat) (l:List Nat) (hw:9≤w.heap.size) (hg:gen<18446744073709551616) (hdv:dv=.slice da dn dc) {ds:List Nat}(hd:BytesAt w dv ds∧(∀x∈ds,x<256)∧ds.length=dn) (hdn:dn≤1000000)
  (hn:l.length=n) (hm:n≤100000) (hl:∀a∈l,a≤1000000) (hc:FlatAt w (.slice o n c) n (nats l)) (hq:(runsOf l).length≤48) :
  Calls Tryz.prog 30 #[.int .u64 gen,dv,.slice o n c] w fun e w'=>∃v,e=.returned v∧RowB w' w.heap.size v (slotB gen ds l) 256∧Below w.heap.size w w':=by
 subst hdv
 have Hd:=Lib.hid hd
 have Hc:=Lib.hid hc
 have Hl:=Lib.hid hl
 obtain⟨q,hqq⟩:∃q,q=(runsOf l).length:=⟨_,rfl⟩
 rw [← hqq] at hq
 have Hq:=Lib.hid hqq
 have HL1:=Lib.hid (low_odd (w:=w.alloc (.cells #[.int .u8 66,.int .u8 71,.int .u8 88,.int .u8 49] 5 (4,5))) (B:=w.heap.size) (g:=w.heap.size) [66,71,88,49] gen 4 8 (heap_alloc_new _ _) rfl (by decide) (by simp) hg (by decide) (by decide) (by omega))
 have hB0:Hid (Fr w.heap.size [5] [] w (w.alloc (.cells #[.int .u8 66,.int .u8 71,.int .u8 88,.int .u8 49] 5 (4,5)))):=Lib.hid ((Fr.refl _ _ _ _).alloc (Nat.le_refl _) _)
 have hwd:=wrap_u64 dn (by omega)
 have hcv:=conv_lit w
 clear hd hc hl hqq
 go_enter Tryz.func30,Tryz.ntmps30
 go_upto_region 2 with (go_at_call 54;refine HL1.out.mono ?_;clear HL1;rintro e w1 ⟨v1,rfl,hr1,hf1⟩;have Hf1:=Lib.hid (hB0.out.trans hf1);have hs1:=(hB0.out.trans hf1).size;have HL2:=Lib.hid (low_any (w:=w1) dn 4 hr1 (by omega) (by omega) (by decide) (by omega));clear hr1 hf1)
 go_upto_region 3 with (first
  | (go_at_call 42;refine HS.out.mono ?_;clear HS;rintro e w3 ⟨s,hse,hs32,rfl,hb3⟩;have Hse:=Lib.hid hse;clear hse;have hws:=wrap_u64 s (by omega);have Hf3:=Lib.hid (Hf2.out.trans (Fr.of_below hb3 (by omega) _ _));have hs3:=(Hf2.out.trans (Fr.of_below hb3 (by omega) _ _)).size;have HL3:=Lib.hid (low_any (w:=w3) s 4 (Hr2.out.olds (Olds.of_below hb3)) (by omega) (by omega) (by decide) (by omega));clear hb3)
  | (go_at_call 54;refine HL2.out.mono ?_;clear HL2;rintro e w2 ⟨v2,rfl,hr2,hf2⟩;have Hf2:=Lib.hid (Hf1.out.trans hf2);have hs2:=(Hf1.out.trans hf2).size;have Hr2:=Lib.hid hr2;have HS:=Lib.hid (sum_some hH (w:=w2) (v:=.slice da dn dc) (m:=dn) (by omega) (by obtain⟨p1,p2,p3⟩:=Hd.out;exact⟨p1.olds (Olds.of_below Hf2.out.below),p2,p3⟩) (by omega));clear hr2 hf2)
  | (go_at_call 54;refine HL3.out.mono ?_;clear HL3;rintro e w4 ⟨v4,rfl,hr4,hf4⟩;have Hf4:=Lib.hid (Hf3.out.trans hf4);have hs4:=(Hf3.out.trans hf4).size;have HP:=Lib.hid (putRuns_any (w:=w4) (B:=w.heap.size) o c n l hn hm Hl.out (Hc.out.olds (Olds.of_below Hf4.out.below)) hr4 (by omega) (by omega));rw [← Hq.out] at HP;clear hr4 hf4))
 go_upto_region 4 with (go_at_call 55;refine HP.out.mono ?_;clear HP;rintro e w5 ⟨v5,rfl,hr5,hf5⟩;obtain⟨o5,c5,rfl⟩:=hr5.shape;have Hf5:=Lib.hid (Hf4.out.trans hf5);have hs5:=(Hf4.out.trans hf5).size;have Hr5:=Lib.hid hr5;clear hr5 hf5)
 obtain⟨k,hkk⟩:∃k,k=252-(22+4 * q):=⟨_,rfl⟩
 have hkl:22+4 * q+k=252:=by omega
 have hki:(252:Int)-(22+4 * (q:Int))=(k:Int):=by omega
 clear hkk
 obtain⟨bs5,hbs5⟩:∃bs5,bs5=[66,71,88,49]++low 8 gen++low 4 dn++low 4 s++runsB l:=⟨_,rfl⟩
 rw [← hbs5] at Hr5
 have Hbs5:=Lib.hid hbs5
 clear hbs5
 obtain⟨hr8,h85,hl5⟩:=Hr5.out
 unfold Row8 at hr8
 rw [hl5] at hr8
 go_upto_region 5 with (at_builtin;go_loud (refine wpList_append_zeros rfl _ _ rfl w.heap.size (22+4 * q) k (.slice o5 (22+4 * q) c5) (octs bs5) rfl rfl hr8 (by omega) (by omega) (by omega) (by omega) ?_;intro v6 w6 hr6 hg6 hat6;have Hr6:Hid (RowB w6 w.heap.size v6 (bs5++nums (List.replicate k 0)) 252):=Lib.hid ⟨(by unfold Row8;rw [octs_append,List.length_append,hl5,nums_len,List.length_replicate];exact hr6),(fun x hx=>by rcases List.mem_append.1 hx with hx | hx;exact h85 x hx;exact nums_byte hx),(by rw [List.length_append,hl5,nums_len,List.length_replicate];exact hkl)⟩;have Hf6:=Lib.hid (Hf5.out.row (by omega) hr8 (by simp) hg6);have hs6:=(Hf5.out.row (by omega) hr8 (by simp) hg6).size;clear hr6 hg6 hat6;obtain⟨o6,c6,rfl⟩:=Hr6.out.shape))
 have HS6:=Lib.hid (sum_some hH (w:=w6) (v:=.slice o6 252 c6) (m:=252) (by omega) Hr6.out.at (by omega))
 go_wp2_with (first
  | (go_at_call 42;refine HS6.out.mono ?_;clear HS6;rintro e w7 ⟨s7,hse7,hs732,rfl,hb7⟩;have Hse7:=Lib.hid hse7;clear hse7;have hws7:=wrap_u64 s7 (by omega);have Hf7:=Lib.hid (Hf6.out.trans (Fr.of_below hb7 (by omega) _ _));have hs7:=(Hf6.out.trans (Fr.of_below hb7 (by omega) _ _)).size;have HL7:=Lib.hid (low_any (w:=w7) s7 4 (Hr6.out.olds (Olds.of_below hb7)) (by omega) (by omega) (by decide) (by omega));clear hb7)
  | (go_at_call 54;refine HL7.out.mono ?_;clear HL7;rintro e w8 ⟨v8,rfl,hr8,hf8⟩;have Hf8:=Lib.hid (Hf7.out.trans hf8);have Hr8:=Lib.hid hr8;clear hf8))
 go_ret
 refine⟨_,rfl,?_,Hf8.out.below⟩
 have h9:=Hr8.out
 have hdl:=Hd.out.2.2
 have hh:headB gen ds l=bs5:=by
  rw [Hbs5.out,Hse.out]
  unfold headB magicB
  rw [hdl]
  simp only [List.append_assoc]
 have hz:nums (List.replicate k 0)=List.replicate (252-(headB gen ds l).length) 0:=by
  rw [hh,hl5,show 252-(22+4 * q)=k by omega]
  unfold nums
  rw [List.map_replicate]
  rfl
 have hb:bodyB gen ds l=bs5++nums (List.replicate k 0):=by
  unfold bodyB
  rw [hz,← hh]
 unfold slotB
 rw [hb,← Hse7.out]
 exact h9
end Go.Proofs.YtndjmffnlcilbaaGreatDoor
namespace Go.Proofs.YtndjmffnlcilbaaGreatDoor
open Go Go.RowKit Go.Ix Go.Ext
theorem step_wp {P:Program}{ops:Array Oper}{o:Oper}{a:Act}{w:World}{K:Act→World→Prop}{Q:Exit→Act→World→Prop}{E:Prop}(hg:o.guard=none) (h:Oper.wp P o a w K Q) :
  if Region.wanted o (yielded ops a.tmps)=true then Oper.wp P o a w K Q else E:=by
 have hw:Region.wanted o (yielded ops a.tmps)=true:=by simp [Region.wanted,hg]
 rw [if_pos hw]
 exact h
theorem wpList_wp {P:Program}{ops:Array Oper}{rest:List Oper}{o:Oper}{a:Act}{w:World}{Q:Exit→Act→World→Prop}(hg:o.guard=none) (h:∀K:Act→World→Prop,(∀a w,wpList P ops Q rest a w→K a w)→o.wp P a w K Q):wpList P ops Q (o :: rest) a w:=wpList_plain hg h
section
variable {P:Program}{o:Oper}{a:Act}{w:World}{K:Act→World→Prop}{Q:Exit→Act→World→Prop}
theorem wp_alloc_row (ty:TypeId) (ho:o.op=.alloc ty) (z:Value) (hz:(zeroValue ty).run P w=.ok z w) (h:K (a.put o.dst (.pointer (some ⟨w.heap.size,0,none⟩))) (w.alloc (.cells z.cells ty))):o.wp P a w K Q:=by
 unfold Oper.wp execOp
 simp only [ho,Instr.alloc,Sem.run_bind,hz,Result.andThen_ok]
 exact h
end
theorem fold_list (off:Nat):∀(l:List Value) (k:Nat) (z:Array Value),off+k+l.length≤z.size→(l.zipIdx k).foldl (fun a p=>a.setIfInBounds (off+p.2) p.1) z=(z.toList.take (off+k)++l++z.toList.drop (off+k+l.length)).toArray
 | [],k,z,_=>by simp
 | v :: l,k,z,h=>by
  rw [List.zipIdx_cons,List.foldl_cons,fold_list off l (k+1) _ (by simp at h ⊢;omega)]
  congr 1
  apply List.ext_getElem?
  intro i
  simp only [Array.toList_setIfInBounds,List.length_cons] at h ⊢
  simp only [List.getElem?_append,List.getElem?_drop,List.length_append,List.length_take,List.length_set,Array.length_toList,List.getElem?_take,List.length_cons,List.getElem?_set,List.getElem?_cons]
  have hm1:min (off+(k+1)) z.size=off+k+1:=by omega
  have hm2:min (off+k) z.size=off+k:=by omega
  rw [hm1,hm2]
  by_cases h1:i<off+k
  ·simp [show i<off+k+1+l.length by omega,show i<off+k+1 by omega,show i<off+k+(l.length+1) by omega,h1,show off+k≠i by omega,show i<off+(k+1) by omega]
  ·by_cases h2:i=off+k
   ·subst h2
    simp [show off+k<off+k+1+l.length by omega,show off+k<off+k+(l.length+1) by omega,show off+k<off+(k+1) by omega,show off+k<z.size by omega]
   ·have h3:i-(off+k)≠0:=by omega
    by_cases h4:i<off+k+1+l.length
    ·simp [h4,show ¬ i<off+k+1 by omega,show i<off+k+(l.length+1) by omega,h1,h3,show i-(off+k)-1=i-(off+k+1) by omega]
    ·have e1:off+(k+1)+l.length+(i-(off+k+1+l.length))=i:=by omega
     have e2:off+k+(l.length+1)+(i-(off+k+(l.length+1)))=i:=by omega
     simp [h4,show ¬ i<off+k+(l.length+1) by omega,show off+k≠i by omega,e1,e2]
theorem fold_cells (off:Nat) (cs z:Array Value) (h:off+cs.size≤z.size):cs.zipIdx.foldl (fun a (x:Value×Nat)=>a.setIfInBounds (off+x.2) x.1) z=(z.toList.take off++cs.toList++z.toList.drop (off+cs.size)).toArray:=by
 have:=fold_list off cs.toList 0 z (by simpa using h)
 rw [← Array.foldl_toList]
 simpa using this
def sec0:Array Value:=Array.replicate 256 (.int .u8 0)
theorem Tryz.info112:(Tryz.prog.info? 112).map (fun i=>(i.zero,i.size,i.bytes))=some (some (.agg sec0),256,256):=by kernel_rfl
theorem Tryz.info114:(Tryz.prog.info? 114).map (fun i=>(i.zero,i.size,i.bytes))=some (some (.agg (#[.int .i64 0]++sec0)),257,264):=by kernel_rfl
theorem sec0_size:sec0.size=256:=by simp [sec0]
theorem built_write (v0 v1:Value) (h0:v0.cells.size=1) (hs0:v1.cells.size=256):Tryz.prog.built 114 [(0,v0),(1,v1)]=some (v0.cells++v1.cells):=by
 obtain⟨i0,hi0,hz0,hz1,hz2⟩:=info_parts Tryz.info114
 have hpl:∃fs,Tryz.prog.underlying 114=some (.struct fs)∧fs.toList.mapM (fun f=>(Tryz.prog.info? f.type).map fun i=>(f.offset,i.size))=some [(0,1),(1,256)]:=⟨_,Tryz.underlying114,by kernel_rfl⟩
 obtain⟨fs,hfs,hpl⟩:=hpl
 unfold Program.built
 rw [hi0,hfs]
 simp only [hz0,hpl]
 have hz:(Value.agg (#[.int .i64 0]++sec0)).cells=#[.int .i64 0]++sec0:=rfl
 have hzs:(#[Value.int .i64 0]++sec0).size=257:=by simp [sec0_size]
 simp only [Instr.fill,hz,List.getElem?_toArray,List.getElem?_cons_zero,List.getElem?_cons_succ]
 generalize v0.cells=c0 at *
 generalize v1.cells=cs at *
 have e1:Array.foldl (fun cs (x:Value×Nat)=>cs.setIfInBounds (0+x.snd) x.fst) (#[Value.int IntKind.i64 0]++sec0) c0.zipIdx=c0++sec0:=by
  rw [fold_cells 0 _ _ (by rw [hzs];omega)]
  apply Array.ext'
  have hd:List.drop (0+c0.size) (#[Value.int IntKind.i64 0]++sec0).toList=sec0.toList:=by
   rw [h0]
   simp
  rw [hd]
  simp
 have e2:Array.foldl (fun cs (x:Value×Nat)=>cs.setIfInBounds (1+x.snd) x.fst) (c0++sec0) cs.zipIdx=c0++cs:=by
  rw [fold_cells 1 _ _ (by simp [hs0,h0,sec0_size])]
  have hd:List.drop (1+cs.size) (c0++sec0).toList=[]:=List.drop_of_length_le (by simp [hs0,h0,sec0_size])
  have ht:List.take 1 (c0++sec0).toList=c0.toList:=by
   rw [Array.toList_append,List.take_append_of_le_length (by simp [h0])]
   exact List.take_of_length_le (by simp [h0])
  rw [hd,ht]
  apply Array.ext'
  simp
 rw [e1,e2,if_neg (by rw [hzs];simp [h0]),if_neg (by simp [hs0,h0,sec0_size])]
theorem run_build_write (v0 v1:Value) (h0:v0.cells.size=1) (hs:v1.cells.size=256) (W:World):(Instr.build 114 #[(0,v0),(1,v1)]).run Tryz.prog W=.ok (.agg (v0.cells++v1.cells)) W :=
 run_build W 114 _ _ (built_write v0 v1 h0 hs)
@[go_sem ↓] theorem exec_build_write (ρ:Operand→Value) (dst:Option Tmp) (x y:Operand) (ty:TypeId) (pos:String) (af:Array Edge) (gd:Option (Nat×Bool)) (W:World) (h0:(ρ x).cells.size=1) (hs:(ρ y).cells.size=256) :
  (execOp ρ { dst:=dst,op:=.build 114 #[(0,x),(1,y)],type:=ty,pos:=pos,after:=af,guard:=gd }).run Tryz.prog W=.ok (.value (.agg ((ρ x).cells++(ρ y).cells))) W:=by
  unfold execOp
  simp only [List.map_toArray,List.map_cons,List.map_nil,Sem.run_bind,run_build_write (ρ x) (ρ y) h0 hs W,Result.andThen_ok]
  rfl
theorem run_slice_write (v:Value) (hv:v.cells.size=257) (w:World):(Instr.buildSlice 59 1 #[(0,v)]).run Tryz.prog w=.ok (.slice (some ⟨w.heap.size,0,none⟩) 1 1) (w.alloc (.cells v.cells 114)):=by
 obtain⟨cs,hcs⟩:∃cs,cs=v.cells:=⟨_,rfl⟩
 have hs:cs.size=257:=by rw [hcs];exact hv
 rw [← hcs]
 obtain⟨i0,hi0,hz0,hz1,hz2⟩:=info_parts Tryz.info114
 have hzero:(zeroValue 114).run Tryz.prog w=.ok (.agg (#[.int .i64 0]++sec0)) w:=by
  simp [zeroValue,typeInfo,hi0,hz0]
 have hzc:(Value.agg (#[.int .i64 0]++sec0)).cells=#[.int .i64 0]++sec0:=rfl
 have hcc:v.cells=cs:=hcs.symm
 have e2:∀z:Array Value,z.size=257→Array.foldl (fun cs (x:Value×Nat)=>cs.setIfInBounds (0+x.snd) x.fst) z cs.zipIdx=cs:=fun z hz=>by
  rw [fold_cells 0 _ _ (by omega)]
  have hd:List.drop (0+cs.size) z.toList=[]:=List.drop_of_length_le (by simp [hs,hz])
  rw [hd]
  apply Array.ext'
  simp
 have hf:∀Z:Array Value,Z.size=257→Instr.fill (fun i=>some (i * 257,257)) Z [(0,v)]=some cs:=fun Z hZ=>by
  have h0:(0:Nat) * 257=0:=rfl
  simp only [Instr.fill,hcc,h0]
  rw [if_neg (by simp [hs,hZ])]
  exact congrArg some (e2 Z hZ)
 simp [Instr.buildSlice,run_underlying Tryz.underlying59,sizeOf,typeInfo,hi0,hz1]
 rw [hf _ (by simp)]
 simp [newRow]
theorem wp_slice_write {o:Oper}{a:Act}{w:World}{K:Act→World→Prop}{Q:Exit→Act→World→Prop}(x:Operand) (ho:o.op=.buildSlice 59 1 #[(0,x)]) (v:Value) (hx:a.eval x=v) (hs:v.cells.size=257)
  (h:K (a.put o.dst (.slice (some ⟨w.heap.size,0,none⟩) 1 1)) (w.alloc (.cells v.cells 114))):o.wp Tryz.prog a w K Q:=by
 unfold Oper.wp execOp
 simp only [ho,List.map_toArray,List.map_cons,List.map_nil,hx,Sem.run_bind,run_slice_write v hs,Result.andThen_ok]
 exact h
theorem exec_load_row {P:Program}(ρ:Operand→Value) (dst:Option Tmp) (x:Operand) (lt ty:TypeId) (pos:String) (af:Array Edge) (gd:Option (Nat×Bool)) (W:World) (v u:Value) (hx:ρ x=v) (h:(Instr.loadAt lt v).run P W=.ok u W) :
  (execOp ρ { dst:=dst,op:=.load lt x,type:=ty,pos:=pos,after:=af,guard:=gd }).run P W=.ok (.value u) W:=by
 unfold execOp
 simp only [hx,Sem.run_bind,h,Result.andThen_ok]
 rfl
theorem exec_build_at (ρ:Operand→Value) (dst:Option Tmp) (x y:Operand) (ty:TypeId) (pos:String) (af:Array Edge) (gd:Option (Nat×Bool)) (W:World) (n:Int) (cs:List Value) (hx:ρ x=.int .i64 n) (hy:ρ y=.agg cs.toArray) (hs:cs.length=256) :
  (execOp ρ { dst:=dst,op:=.build 114 #[(0,x),(1,y)],type:=ty,pos:=pos,after:=af,guard:=gd }).run Tryz.prog W=.ok (.value (.agg (.int .i64 n :: cs).toArray)) W:=by
 rw [exec_build_write ρ dst x y ty pos af gd W (by rw [hx];rfl) (by rw [hy];simpa [Value.cells] using hs),hx,hy]
 congr 3
 show (#[Value.int .i64 n]++cs.toArray)=_
 simp
@[go_sem] theorem cells_agg (cs:Array Value):(Value.agg cs).cells=cs:=rfl
@[go_sem ↓] theorem exec_slice_write (ρ:Operand→Value) (dst:Option Tmp) (x:Operand) (ty:TypeId) (pos:String) (af:Array Edge) (gd:Option (Nat×Bool)) (W:World) (hs:(ρ x).cells.size=257) :
  (execOp ρ { dst:=dst,op:=.buildSlice 59 1 #[(0,x)],type:=ty,pos:=pos,after:=af,guard:=gd }).run Tryz.prog W=.ok (.value (.slice (some ⟨W.heap.size,0,none⟩) 1 1)) (W.alloc (.cells (ρ x).cells 114)):=by
  unfold execOp
  simp only [List.map_toArray,List.map_cons,List.map_nil,Sem.run_bind,run_slice_write (ρ x) hs W,Result.andThen_ok]
  rfl
end Go.Proofs.YtndjmffnlcilbaaGreatDoor
