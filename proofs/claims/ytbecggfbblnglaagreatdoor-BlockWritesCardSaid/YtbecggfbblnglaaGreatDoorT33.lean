/- Contracts over this program. Their conditions: the slices read as the lists that are named, and lie within the sizes that are named. -/
import Derived.Test.YtbecggfbblnglaaGreatDoorT31
import Derived.Test.YtbecggfbblnglaaGreatDoorT32
set_option linter.unusedSimpArgs false
set_option linter.unusedVariables false
set_option linter.deprecated false
set_option linter.unnecessarySimpa false
namespace Go.Proofs.YtbecggfbblnglaaGreatDoor
open Go Go.RowKit Go.Ix Go.Gor
set_option maxRecDepth 20000 in
set_option maxHeartbeats 8000000 in
theorem rwrite_any (o:Option Addr) (n c id:Nat) (level:Int) (l:List Ser) (w:World) (hl:l.length=n) (hn:n≤60) (hid:id<4294967296) (hlev:-9223372036854775808≤level∧level≤9223372036854775807) (hS:SizeS l) (h:RowsR w o l) (HG:BkG w w.heap.size) (hw:11≤w.heap.size) :
  Calls Tryz.prog 9 #[.int .u32 (id:Nat),.int .i64 level,.slice o n c] w (BlkEnd id level l w):=by
 obtain⟨i0,hi0,hz0,hz1,hz2⟩:=info_parts Tryz.info5
 obtain⟨j0,hj0,hy0,hy1,hy2⟩:=info_parts Tryz.info100
 obtain⟨k0,hk0,hx0,hx1,hx2⟩:=info_parts Tryz.info93
 have HM:=Lib.hid (rmays_rows o n c l w hl hn hS h)
 have H:=Lib.hid h
 have Hl:=Lib.hid hl
 have HS:=Lib.hid hS
 have HGh:=Lib.hid HG
 clear h hl hS HG
 unfold BlkEnd
 by_cases hmS:MayS l
 ·have HM2:Hid (Calls Tryz.prog 23 #[.slice o n c] w fun e w'=>e=.returned (.bool true)∧∃q,w'=w.drewN q):=Lib.hid (HM.out.mono fun e w' h9=>⟨by
   rcases h9.1 with ⟨h8,_⟩|⟨_,h8⟩
   ·exact h8
   ·exact absurd hmS h8,h9.2⟩)
  have HmS:=Lib.hid hmS
  clear HM hmS
  have hcase:(level<0∨(¬ level<0∧65535<level))∨(0≤level∧level≤65535):=by omega
  rcases hcase with hbad|⟨hv0,hv1⟩
  ·have Hno:Hid (¬ BlkOk level l):=Lib.hid (fun hb=>by
    obtain⟨b1,b2,_⟩:=hb
    omega)
   rcases hbad with hb|⟨hb,hb2⟩
   all_goals
    go_enter Tryz.func9,Tryz.ntmps9
    go_wp2_with (go_at_call 23;refine HM2.out.mono ?_;clear HM2;rintro e w2 ⟨rfl,q,rfl⟩)
    go_ret2
    exact⟨.inl ⟨Hno.out,rfl⟩,below_drewN (Below.refl _ _) q⟩
  ·have hv2:¬ level<0:=by omega
   have hv3:¬ 65535<level:=by omega
   go_enter Tryz.func9,Tryz.ntmps9
   go_wp2_with (go_at_call 23;refine HM2.out.mono ?_;clear HM2;rintro e w2 ⟨rfl,q,rfl⟩)
   go_loopw [9,10,11] (fun dvv evv iv wr=>∃(k:Nat) (ps:List EntV) (doo:Option Addr) (dn dc:Nat) (eo:Option Addr) (en ec:Nat),k≤n∧iv=.int .i64 (k:Nat)∧dvv=.slice doo dn dc∧evv=.slice eo en ec∧dn=(dataS (l.take k)).length∧en=ps.length∧ps.map (·.1)=entsS 0 (l.take k)∧(∀s∈l.take k,GoodS s)∧Row8 wr w.heap.size (.slice doo dn dc) (dataS (l.take k))∧EntsP wr w.heap.size (.slice eo en ec) ps∧LabsP w ps∧Below w.heap.size w wr) (fun _ _ iv _=>n-(intOf iv).toNat)
   case atStart=>exact⟨0,[],none,0,0,none,0,0,Nat.zero_le _,rfl,rfl,rfl,rfl,rfl,rfl,(fun s hs=>by cases hs),row8_nil _ _,EntsP.nil _ _,(fun p hp=>by cases hp),below_drewN (Below.refl _ _) q⟩
   case round =>
    obtain⟨k,ps,doo,dn,dc,eo,en,ec,hk,rfl,rfl,rfl,hdn,hen,hps,hgood,hrow,hent,hlab,hb⟩:=hrel
    have hdb:dn≤400000:=by rw [hdn];exact data_bound HS.out hgood
    have hen60:en≤60:=by
     have h1:=congrArg List.length hps
     rw [List.length_map,entsS_len,List.length_take] at h1
     omega
    have Hdn:=Lib.hid hdn
    have Hen:=Lib.hid hen
    have Hps:=Lib.hid hps
    have Hgood:=Lib.hid hgood
    have Hrow8:=Lib.hid hrow
    have Hrow:Hid (wr.ownsRow w.heap.size 5 1 (.slice doo dn dc) dn (octs (dataS (l.take k)))):=Lib.hid (by have h9:=hrow;unfold Row8 at h9;rwa [← hdn] at h9)
    have Hent:=Lib.hid hent
    have Herow:Hid (wr.ownsRow w.heap.size 93 2 (.slice eo en ec) en (ps.flatMap fun p=>entCells p.2)):=Lib.hid (by have h9:=hent.1;rwa [← hen] at h9)
    have Hlab:=Lib.hid hlab
    have Hb:=Lib.hid hb
    have hsz:=hb.size
    have Hdown:=Lib.hid (fun b hb=>(ownsRow_block Hrow.out (g:=b) hb))
    have Heown:=Lib.hid (fun b hb=>(ownsRow_block Herow.out (g:=b) hb))
    clear hdn hen hps hgood hrow hent hlab hb
    by_cases hlt:k<n
    ·obtain⟨b,off,e1,e2,o1,n1,c1,o2,n2,c2,rfl,hx,a1,a2,hl1,hl2,hr1,hr2,hz1',hz2',hcap⟩:=H.out.at (k:=k) (by rw [Hl.out];exact hlt)
     obtain⟨s1,s2,s3,s4⟩:=HS.out.1 _ (List.mem_of_getElem? hx)
     simp only at s1 s2 s3 s4
     have hgood2:GoodS (e1,e2):=(HmS.out.2 k (by rw [Hl.out];exact hlt) _ hx).2.2
     have how:Olds w wr:=Olds.of_below Hb.out
     have w1:wr.cell? ⟨b,off+k * 2,none⟩=some (.slice o1 n1 c1):=how.cell a1
     obtain⟨A,hA⟩:∃A:World,A=wr.alloc (.cells #[.slice o1 n1 c1,.slice none 0 0] 93):=⟨_,rfl⟩
     have oA:Hid (Olds wr A):=Lib.hid (by rw [hA];exact Olds.alloc _ _)
     have bA:Hid (Below w.heap.size w A):=Lib.hid (by rw [hA];exact Hb.out.alloc hsz _)
     have hAs:A.heap.size=wr.heap.size+1:=by rw [hA];simp
     have PA:Hid (A.heap[wr.heap.size]?=some (.cells #[.slice o1 n1 c1,.slice none 0 0] 93 (0,0))):=Lib.hid (by rw [hA];exact heap_alloc_new _ _)
     have hGc:=rgencode_any o2 n2 c2 e2 A hl2 (by omega) hcap (hr2.olds (how.trans oA.out)) s4 (by
      obtain⟨gb,go,gc,k1,k2,k3,k4⟩:=HGh.out.below bA.out
      refine⟨gb,go,gc,by omega,by omega,k3,fun k x hx=>?_⟩
      obtain⟨d,o2,e,k5,k6⟩:=k4 k x hx
      exact⟨d,o2,e,by omega,k6⟩)
     have w2:A.cell? ⟨b,off+k * 2+1,none⟩=some (.slice o2 n2 c2):=oA.out.cell (how.cell a2)
     rw [hA] at w2
     unfold ChkEnd at hGc
     have Hx:=Lib.hid hx
     have Hlb:Hid (e1.length=n1∧(o1=none→c1=0)∧Rows2 w o1 e1):=Lib.hid ⟨hl1,hz1',hr1⟩
     have Hl2:=Lib.hid hl2
     have Hs4:=Lib.hid s4
     have Ha:=Lib.hid hA
     have hf:=hgood2.2
     have Hgood2:=Lib.hid hgood2
     have HG2:Hid (Calls Tryz.prog 24 #[.slice o2 n2 c2] A fun e w'=>(∃v,e=.returned (.tuple #[v,.int .u16 0])∧ChksAt w' A.heap.size v (groups e2))∧Below A.heap.size A w'):=Lib.hid (hGc.mono fun e w' h9=>⟨by
      rcases h9.1 with ⟨h8,_⟩|⟨_,h8⟩
      ·exact absurd hf h8
      ·exact h8,h9.2⟩)
     have Hf:=Lib.hid hf
     clear hx hl1 hl2 hr1 hr2 hz1' hz2' hcap how a1 a2 s1 s2 s3 s4 hA hGc hf hgood2
     obtain⟨gs,hgs⟩:∃gs,gs=groups e2:=⟨_,rfl⟩
     obtain⟨gn,hgn⟩:∃gn,gn=gs.length:=⟨_,rfl⟩
     rw [← hgs] at HG2
     have hgl:gn≤400:=by
      have h9:=(HS.out.1 _ (List.mem_of_getElem? Hx.out)).2.1
      rw [hgn,hgs,groups_len]
      simp only at h9
      omega
     have hbg:∀j,(bytesG (gs.take j)).length≤1000000:=fun j=>by
      have h64:=fits_smp Hf.out Hs4.out
      have h1:=bytes_len e2.length e2 (Nat.le_refl _) h64
      have h2:(bytesG (gs.take j)).length≤(bytesG gs).length:=by
       rw [show bytesG gs=bytesG (gs.take j)++bytesG (gs.drop j) from by unfold bytesG;rw [← List.flatMap_append,List.take_append_drop],List.length_append]
       omega
      have h9:=(HS.out.1 _ (List.mem_of_getElem? Hx.out)).2.1
      rw [← hgs] at h1
      simp only at h9
      omega
     have Hbg:=Lib.hid hbg
     have Hgs:=Lib.hid hgs
     have Hgn:=Lib.hid hgn
     clear hbg hgs hgn
     go_wp2_with (go_at_call 24;rw [← Ha.out];refine HG2.out.mono ?_;clear HG2;rintro e w4 ⟨⟨v,rfl,hv⟩,hb3⟩;obtain⟨vo,vc,rfl⟩:=hv.some_shape;have Hv:=Lib.hid hv;have B3:=Lib.hid (bA.out.trans (hb3.mono (by omega)));have O3:=Lib.hid (oA.out.trans (Olds.of_below hb3));have P3:=Lib.hid ((hb3.block _ (by omega)).trans PA.out);have hs3:=hb3.size;rw [← Hgn.out];clear hb3 hv)
     have hwx:w4.heap.size≥wr.heap.size+1:=by omega
     generalize wr=wq at *
     have D4:Hid (w4.ownsRow w.heap.size 5 1 (.slice doo dn dc) dn (octs (dataS (l.take k)))):=Lib.hid (ownsRow_olds Hrow.out O3.out)
     have HdS:Hid (∀b,(Value.slice doo dn dc).ownBlock=some b→b<A.heap.size):=Lib.hid (fun b hb=>by have:=(Hdown.out b hb).2;omega)
     have hKlt:Hid (∀b,But2 w4.heap.size (Value.slice doo dn dc).ownBlock wq.heap.size b→b<w4.heap.size):=Lib.hid (fun b hb=>hb.1)
     go_loopw [9,15] (fun dvv iv wz=>∃(j:Nat) (po:Option Addr) (pn pc:Nat) (qo:Option Addr) (qn qc:Nat),j≤gn∧iv=.int .i64 (j:Nat)∧dvv=.slice qo qn qc∧qn=dn+(bytesG (gs.take j)).length∧pn=j∧wz.heap[wq.heap.size]?=some (.cells #[.slice o1 n1 c1,.slice po pn pc] 93 (0,0))∧wz.ownsRow w4.heap.size 100 5 (.slice po pn pc) pn ((plcsG dn (gs.take j)).flatMap plcCells)∧wz.ownsRow w.heap.size 5 1 (.slice qo qn qc) qn (octs (dataS (l.take k)++bytesG (gs.take j)))∧((Value.slice qo qn qc).ownBlock=(Value.slice doo dn dc).ownBlock∨∃g,(Value.slice qo qn qc).ownBlock=some g∧w4.heap.size≤g)∧Kept (But2 w4.heap.size (Value.slice doo dn dc).ownBlock wq.heap.size) w4 wz) (fun _ iv _=>gn-(intOf iv).toNat)
     case atStart =>
      refine⟨0,none,0,0,doo,dn,dc,Nat.zero_le _,rfl,rfl,rfl,rfl,P3.out,World.ownsRow_nil _ _ _ _,?_,.inl rfl,Kept.refl _ _⟩
      rw [List.take_zero,show bytesG []=[] from rfl,List.append_nil]
      exact D4.out
     case round =>
      obtain⟨j,po,pn,pc,qo,qn,qc,hj,rfl,rfl,hqn,hpn,hE,hpl,hda,hpc,hK⟩:=hrel
      have hqb:qn≤1400000:=by have:=Hbg.out j;omega
      have HK:=Lib.hid hK
      have HE:=Lib.hid hE
      have Hpl:=Lib.hid hpl
      have Hda:=Lib.hid hda
      have Hpc:=Lib.hid hpc
      have Hqn:=Lib.hid hqn
      have Hpn:=Lib.hid hpn
      have hzs:=hK.size
      have hEl:wq.heap.size<wr.heap.size:=(Array.getElem?_eq_some_iff.1 hE).1
      have Hplown:=Lib.hid (fun b hb=>ownsRow_block hpl (g:=b) hb)
      have hqE:Hid ((Value.slice qo qn qc).ownBlock≠some wq.heap.size):=Lib.hid (fun e=>by
       rcases hpc with h9|⟨g,h9,h8⟩
       ·rw [h9] at e
        have:=(Hdown.out _ e).2
        omega
       ·rw [h9] at e
        cases e
        omega)
      have hpnj:pn≤400:=by omega
      clear hqn hE hpl hda hpc hK hpn
      by_cases hjl:j<gn
      ·obtain⟨g,hg⟩:∃g,gs[j]?=some g:=⟨_,List.getElem?_eq_getElem (by have:=Hgn.out;omega)⟩
       obtain⟨cb,cc,u,hvs,hu,huo,c0,c1',c2',c3⟩:=Hv.out.look2 D4.out HdS.out (by omega) HK.out hg
       obtain⟨uo,uc,rfl,_⟩:=hu.shape
       simp only [Value.slice.injEq] at hvs
       obtain⟨rfl,_,rfl⟩:=hvs
       obtain⟨ul,hul⟩:∃ul,ul=(chunkB g).length:=⟨_,rfl⟩
       have Hu:Hid (wr.ownsRow A.heap.size 5 1 (.slice uo ul uc) ul (octs (chunkB g))):=Lib.hid (by have h9:=hu;unfold Row8 at h9;rwa [← hul] at h9)
       rw [← hul] at c3
       obtain⟨f0,hf0⟩:∃f0,f0=(g.getD 0 (0,0)).1:=⟨_,rfl⟩
       obtain⟨f1,hf1⟩:∃f1,f1=(g.getD (g.length-1) (0,0)).1:=⟨_,rfl⟩
       rw [← hf0] at c0
       rw [← hf1] at c1'
       obtain⟨gl,hgl2⟩:∃gl,gl=g.length:=⟨_,rfl⟩
       rw [← hgl2] at c2'
       have Hplc:Hid (plcCells (plcOf g qn)=[.int .i64 f0,.int .i64 f1,.int .i64 (gl:Nat),.int .i64 (qn:Nat),.int .i64 (ul:Nat)]):=Lib.hid (by rw [hf0,hf1,hgl2,hul];rfl)
       have hulb:ul≤1000000:=by
        have h9:=Hbg.out (j+1)
        rw [List.take_add_one,hg] at h9
        rw [show bytesG (gs.take j++(some g).toList)=bytesG (gs.take j)++chunkB g from by simp [bytesG],List.length_append] at h9
        omega
       have Huo:Hid (∀x,(Value.slice uo ul uc).ownBlock=some x→A.heap.size≤x∧x<w4.heap.size):=Lib.hid (fun x hx=>huo x (by rw [← hul];exact hx))
       have Htk:Hid (gs.take (j+1)=gs.take j++[g]):=Lib.hid (by rw [List.take_add_one,hg];rfl)
       have Hul:=Lib.hid hul
       clear hu huo hul hf0 hf1 hgl2 hg
       have e1:(wr.alloc (.cells #[.int .i64 f0,.int .i64 f1,.int .i64 (gl:Nat),.slice uo ul uc] 98)).cell? ⟨wq.heap.size,1,none⟩=some (.slice po pn pc):=cell_of_heap (((Olds.alloc wr (.cells #[.int .i64 f0,.int .i64 f1,.int .i64 (gl:Nat),.slice uo ul uc] 98)).2 _ hEl).trans HE.out)
       go_wp2_with (first
        | (at_builtin;refine wpList_append_lies _ rfl _ _ _ rfl w4.heap.size 100 j0 _ 5 40 Tryz.underlying91 hj0 hy0 hy1 hy2 rfl (by decide) (.slice po pn pc) pn ((plcsG dn (gs.take j)).flatMap plcCells) rfl (ownsRow_olds Hpl.out ((Olds.alloc wr (.cells #[.int .i64 f0,.int .i64 f1,.int .i64 (gl:Nat),.slice uo ul uc] 98)).trans (Olds.alloc _ (.cells #[.int .i64 f0,.int .i64 f1,.int .i64 (gl:Nat),.int .i64 (qn:Nat),.int .i64 (ul:Nat)] 100)))) ⟨wr.heap.size+1,0,none⟩ 1 1 [.int .i64 f0,.int .i64 f1,.int .i64 (gl:Nat),.int .i64 (qn:Nat),.int .i64 (ul:Nat)] rfl rfl (World.news_of_block (cs:=#[.int .i64 f0,.int .i64 f1,.int .i64 (gl:Nat),.int .i64 (qn:Nat),.int .i64 (ul:Nat)]) (t:=100) (fr:=(0,0)) (by have h9:=heap_alloc_new (wr.alloc (.cells #[.int .i64 f0,.int .i64 f1,.int .i64 (gl:Nat),.slice uo ul uc] 98)) (.cells #[.int .i64 f0,.int .i64 f1,.int .i64 (gl:Nat),.int .i64 (qn:Nat),.int .i64 (ul:Nat)] 100);rw [World.size_alloc] at h9;exact h9)) (by simp [Value.oneCell']) Nat.one_pos (by unfold maxLen;omega) (by omega) (by simp;omega) (wr.heap.size+1+1) (by simp) ?_;(intro gg cap2 x5 hown5 hgrow5 hat5 hlt5;have E5:Hid (x5.heap[wq.heap.size]?=some (.cells #[.slice o1 n1 c1,.slice po pn pc] 93 (0,0))):=(Lib.hid ((hgrow5.block _ (by rw [World.size_alloc,World.size_alloc];omega) (fun e=>by have:=(Hplown.out _ e.symm).1;omega)).trans ((((Olds.alloc wr (.cells #[.int .i64 f0,.int .i64 f1,.int .i64 (gl:Nat),.slice uo ul uc] 98)).trans (Olds.alloc _ (.cells #[.int .i64 f0,.int .i64 f1,.int .i64 (gl:Nat),.int .i64 (qn:Nat),.int .i64 (ul:Nat)] 100))).2 _ hEl).trans HE.out)));have e5:x5.cell? ⟨wq.heap.size,1,none⟩=some (.slice po pn pc):=(cell_of_heap E5.out);have f5:x5.frozen? ⟨wq.heap.size,1,none⟩=false:=(by simp [World.frozen?,E5.out]);have Hd5:Hid (x5.ownsRow w.heap.size 5 1 (.slice qo qn qc) qn (octs (dataS (l.take k)++bytesG (gs.take j)))):=(Lib.hid (World.ownsRow.kept (ownsRow_olds Hda.out ((Olds.alloc wr (.cells #[.int .i64 f0,.int .i64 f1,.int .i64 (gl:Nat),.slice uo ul uc] 98)).trans (Olds.alloc _ (.cells #[.int .i64 f0,.int .i64 f1,.int .i64 (gl:Nat),.int .i64 (qn:Nat),.int .i64 (ul:Nat)] 100)))) hgrow5 (rows_apart (ownsRow_olds Hda.out ((Olds.alloc wr (.cells #[.int .i64 f0,.int .i64 f1,.int .i64 (gl:Nat),.slice uo ul uc] 98)).trans (Olds.alloc _ (.cells #[.int .i64 f0,.int .i64 f1,.int .i64 (gl:Nat),.int .i64 (qn:Nat),.int .i64 (ul:Nat)] 100)))) (ownsRow_olds Hpl.out ((Olds.alloc wr (.cells #[.int .i64 f0,.int .i64 f1,.int .i64 (gl:Nat),.slice uo ul uc] 98)).trans (Olds.alloc _ (.cells #[.int .i64 f0,.int .i64 f1,.int .i64 (gl:Nat),.int .i64 (qn:Nat),.int .i64 (ul:Nat)] 100)))) (by decide))));have Hu5:Hid (x5.ownsRow A.heap.size 5 1 (.slice uo ul uc) ul (octs (chunkB g))):=(Lib.hid (World.ownsRow.kept (ownsRow_olds Hu.out ((Olds.alloc wr (.cells #[.int .i64 f0,.int .i64 f1,.int .i64 (gl:Nat),.slice uo ul uc] 98)).trans (Olds.alloc _ (.cells #[.int .i64 f0,.int .i64 f1,.int .i64 (gl:Nat),.int .i64 (qn:Nat),.int .i64 (ul:Nat)] 100)))) hgrow5 (rows_apart (ownsRow_olds Hu.out ((Olds.alloc wr (.cells #[.int .i64 f0,.int .i64 f1,.int .i64 (gl:Nat),.slice uo ul uc] 98)).trans (Olds.alloc _ (.cells #[.int .i64 f0,.int .i64 f1,.int .i64 (gl:Nat),.int .i64 (qn:Nat),.int .i64 (ul:Nat)] 100)))) (ownsRow_olds Hpl.out ((Olds.alloc wr (.cells #[.int .i64 f0,.int .i64 f1,.int .i64 (gl:Nat),.slice uo ul uc] 98)).trans (Olds.alloc _ (.cells #[.int .i64 f0,.int .i64 f1,.int .i64 (gl:Nat),.int .i64 (qn:Nat),.int .i64 (ul:Nat)] 100)))) (by decide))));have K5:=Lib.hid (((HK.out.alloc hKlt.out (.cells #[.int .i64 f0,.int .i64 f1,.int .i64 (gl:Nat),.slice uo ul uc] 98)).alloc hKlt.out (.cells #[.int .i64 f0,.int .i64 f1,.int .i64 (gl:Nat),.int .i64 (qn:Nat),.int .i64 (ul:Nat)] 100)).grown hgrow5 hKlt.out (fun b hb hk=>by have:=(Hplown.out b hb).1;have:=hk.1;omega));have hs5:wr.heap.size+2≤x5.heap.size:=(by have h9:=hgrow5.size;rw [World.size_alloc,World.size_alloc] at h9;exact h9);have Hp5:=Lib.hid hown5;have hgE:Hid ((Value.slice (some ⟨gg,0,none⟩) (pn+1) cap2).ownBlock≠some wq.heap.size):=(Lib.hid (fun e=>by have h8:some gg=some wq.heap.size:=e;have h7:=Option.some.inj h8;have h9:=(ownsRow_block hown5 (g:=gg) rfl).1;omega));have Huc:Hid ((Value.slice uo ul uc).ownBlock≠some wq.heap.size):=(Lib.hid (fun e=>by have:=(Huo.out _ e).1;omega));have C5:Hid (x5.heap[wr.heap.size]?=some (.cells #[.int .i64 f0,.int .i64 f1,.int .i64 (gl:Nat),.slice uo ul uc] 98 (0,0))):=(Lib.hid ((hgrow5.block _ (by rw [World.size_alloc,World.size_alloc];omega) (fun e=>by have:=(Hplown.out _ e.symm).2;omega)).trans (((Olds.alloc (wr.alloc (.cells #[.int .i64 f0,.int .i64 f1,.int .i64 (gl:Nat),.slice uo ul uc] 98)) _).2 _ (by rw [World.size_alloc];omega)).trans (heap_alloc_new wr _))));have c6:(x5.setCell ⟨wq.heap.size,1,none⟩ (.slice (some ⟨gg,0,none⟩) (pn+1) cap2)).cell? ⟨wr.heap.size,3,none⟩=some (.slice uo ul uc):=(cell_of_heap ((Below.heap_setCell _ _ _ _ (show wr.heap.size≠wq.heap.size by omega)).trans C5.out));clear hown5 hgrow5 hat5 hlt5))
        | (at_builtin;refine wpList_append_flat rfl _ _ rfl Tryz.underlying26 size5 hi0 hz0 hz1 hz2 rfl (by decide) (by decide) w.heap.size qn ul (.slice qo qn qc) (.slice uo ul uc) (octs (dataS (l.take k)++bytesG (gs.take j))) (octs (chunkB g)) rfl rfl (row_other Hd5.out hqE.out _) (by simp [World.setCell];omega) (owns_flat (row_other Hu5.out Huc.out _)) (by rw [octs_len,← Hul.out,Nat.mul_one]) one_octs (by omega) ?_;(intro v7 x7 hown7 hgrow7 hat7;obtain⟨o7,c7,rfl,_⟩:=ownsRow_shape hown7;have Hw7:=Lib.hid hown7;have Hg7:=Lib.hid hgrow7;have Ha7:=Lib.hid hat7;clear hown7 hgrow7 hat7)))
       have E6:Hid ((x5.setCell ⟨wq.heap.size,1,none⟩ (.slice (some ⟨gg,0,none⟩) (pn+1) cap2)).heap[wq.heap.size]?=some (.cells #[.slice o1 n1 c1,.slice (some ⟨gg,0,none⟩) (pn+1) cap2] 93 (0,0))):=Lib.hid (by simp [World.setCell,Array.getElem?_modify,E5.out])
       have Hp6:Hid ((x5.setCell ⟨wq.heap.size,1,none⟩ (.slice (some ⟨gg,0,none⟩) (pn+1) cap2)).ownsRow w4.heap.size 100 5 (.slice (some ⟨gg,0,none⟩) (pn+1) cap2) (pn+1) ((plcsG dn (gs.take (j+1))).flatMap plcCells)):=Lib.hid (by
        rw [Htk.out,plcsG_snoc,← Hqn.out,List.flatMap_append,List.flatMap_cons,List.flatMap_nil,List.append_nil,Hplc.out]
        exact row_other Hp5.out hgE.out _)
       have K6:=Lib.hid (K5.out.setCell (p:=⟨wq.heap.size,1,none⟩) (fun h=>h.2.2 rfl) (.slice (some ⟨gg,0,none⟩) (pn+1) cap2))
       have Hd6:Hid ((x5.setCell ⟨wq.heap.size,1,none⟩ (.slice (some ⟨gg,0,none⟩) (pn+1) cap2)).ownsRow w.heap.size 5 1 (.slice qo qn qc) qn (octs (dataS (l.take k)++bytesG (gs.take j)))):=Lib.hid (row_other Hd5.out hqE.out _)
       have E7:Hid (x7.heap[wq.heap.size]?=some (.cells #[.slice o1 n1 c1,.slice (some ⟨gg,0,none⟩) (pn+1) cap2] 93 (0,0))):=Lib.hid ((Hg7.out.block _ (Array.getElem?_eq_some_iff.1 E6.out).1 (fun e=>hqE.out e.symm)).trans E6.out)
       have Hp7:Hid (x7.ownsRow w4.heap.size 100 5 (.slice (some ⟨gg,0,none⟩) (pn+1) cap2) (pn+1) ((plcsG dn (gs.take (j+1))).flatMap plcCells)):=Lib.hid (World.ownsRow.kept Hp6.out Hg7.out (rows_apart Hp6.out Hd6.out (by decide)))
       have K7:=Lib.hid (K6.out.grown Hg7.out hKlt.out (fun b hb hk=>by
        rcases Hpc.out with h9|⟨g',h9,h8⟩
        ·rw [h9] at hb
         exact hk.2.1 hb
        ·rw [h9] at hb
         have:=Option.some.inj hb
         have:=hk.1
         omega))
       have Hw8:Hid (x7.ownsRow w.heap.size 5 1 (.slice o7 (qn+ul) c7) (qn+ul) (octs (dataS (l.take k)++bytesG (gs.take (j+1))))):=Lib.hid (by
        rw [Htk.out,bytesG_snoc,← List.append_assoc,octs_append]
        exact Hw7.out)
       have Hq8:Hid (qn+ul=dn+(bytesG (gs.take (j+1))).length):=Lib.hid (by
        rw [Htk.out,bytesG_snoc,List.length_append,← Hul.out,← Nat.add_assoc,← Hqn.out])
       go_roundw
       case rel =>
        refine⟨j+1,some ⟨gg,0,none⟩,pn+1,cap2,o7,qn+ul,c7,by omega,by go_num,rfl,Hq8.out,by rw [Hpn.out],E7.out,Hp7.out,Hw8.out,?_,K7.out⟩
        rcases Ha7.out with h9 | h9
        ·rcases Hpc.out with h8|⟨g',h8,h7⟩
         ·exact .inl (h9.trans h8)
         ·exact .inr ⟨g',h9.trans h8,h7⟩
        ·refine .inr ⟨_,h9,?_⟩
         have h6:=K6.out.size
         omega
       case measure=>simp [intOf];omega
      ·obtain rfl:j=gn:=by omega
       have Hall:Hid (gs.take j=gs):=Lib.hid (List.take_of_length_le (by have:=Hgn.out;omega))
       have hE0:wr.cell? ⟨wq.heap.size,0,none⟩=some (.slice o1 n1 c1):=cell_of_heap HE.out
       have hE1:wr.cell? ⟨wq.heap.size,1,none⟩=some (.slice po pn pc):=cell_of_heap HE.out
       have hent:=Hent.out.but2 O3.out (Nat.le_refl _) D4.out HK.out
       have Hent2:=Lib.hid hent
       have Herow2:Hid (wr.ownsRow w.heap.size 93 2 (.slice eo en ec) en (ps.flatMap fun p=>entCells p.2)):=Lib.hid (by have h9:=hent.1;rwa [← Hen.out] at h9)
       have HB9:Hid (Below w.heap.size w wr):=Lib.hid (B3.out.trans (HK.out.below (fun b hb=>⟨by omega,fun e=>by have:=(Hdown.out b e).1;omega,by omega⟩)))
       have hsz9:=HB9.out.size
       have Hpl2:Hid (wr.ownsRow w.heap.size 100 5 (.slice po pn pc) (plcsG dn gs).length ((plcsG dn gs).flatMap plcCells)):=Lib.hid (by
        have h9:=Hpl.out
        rw [Hall.out] at h9
        rw [plcsG_len,← Hgn.out,← Hpn.out]
        exact ownsRow_mono h9 (by omega))
       have Hda2:Hid (wr.ownsRow w.heap.size 5 1 (.slice qo qn qc) qn (octs (dataS (l.take k)++bytesG gs))):=Lib.hid (by have h9:=Hda.out;rwa [Hall.out] at h9)
       have Hqn2:Hid (qn=dn+(bytesG gs).length):=Lib.hid (by have h9:=Hqn.out;rwa [Hall.out] at h9)
       have Htk1:Hid (l.take (k+1)=l.take k++[(e1,e2)]):=Lib.hid (by rw [List.take_add_one,Hx.out];rfl)
       have Hdata:Hid (dataS (l.take (k+1))=dataS (l.take k)++bytesG gs):=Lib.hid (by rw [Htk1.out,dataS_snoc,Hgs.out])
       clear hent
       go_wp2_with (at_builtin;refine wpList_append_lies _ rfl _ _ _ rfl w.heap.size 93 k0 _ 2 48 Tryz.underlying90 hk0 hx0 hx1 hx2 rfl (by decide) (.slice eo en ec) en (ps.flatMap fun p=>entCells p.2) rfl (ownsRow_olds Herow2.out (Olds.alloc _ _)) ⟨wr.heap.size,0,none⟩ 1 1 [.slice o1 n1 c1,.slice po pn pc] rfl rfl (World.news_of_block (cs:=#[.slice o1 n1 c1,.slice po pn pc]) (t:=93) (fr:=(0,0)) (heap_alloc_new wr _)) (by simp [Value.oneCell']) Nat.one_pos (by unfold maxLen;omega) (by omega) (by simp;omega) (wr.heap.size+1) (by simp) ?_;(intro gg cap2 x5 hown5 hgrow5 hat5 hlt5;have Hw5:=Lib.hid hown5;have Hg5:=Lib.hid hgrow5;clear hown5 hgrow5 hat5 hlt5))
       have Hp5:=Lib.hid (ownsRow_olds Hpl2.out (Olds.alloc wr (.cells #[.slice o1 n1 c1,.slice po pn pc] 93)))
       have Hent5:Hid (EntsP x5 w.heap.size (.slice (some ⟨gg,0,none⟩) (en+1) cap2) (ps++[((e1,plcsG dn gs),(.slice o1 n1 c1,.slice po pn pc))])):=Lib.hid (EntsP.more (Hent2.out.olds (Olds.alloc wr (.cells #[.slice o1 n1 c1,.slice po pn pc] 93))) Hp5.out Hg5.out (by rw [← Hen.out];exact Hw5.out))
       have Hlab5:Hid (LabsP w (ps++[((e1,plcsG dn gs),(.slice o1 n1 c1,.slice po pn pc))])):=Lib.hid (LabsP.more Hlab.out (o:=o1) (c:=c1) (by rw [Hlb.out.1]) Hlb.out.2.1 Hlb.out.2.2)
       have Hda5:Hid (x5.ownsRow w.heap.size 5 1 (.slice qo qn qc) qn (octs (dataS (l.take (k+1))))):=Lib.hid (by
        rw [Hdata.out]
        exact World.ownsRow.kept (ownsRow_olds Hda2.out (Olds.alloc wr (.cells #[.slice o1 n1 c1,.slice po pn pc] 93))) Hg5.out (rows_apart (ownsRow_olds Hda2.out (Olds.alloc wr (.cells #[.slice o1 n1 c1,.slice po pn pc] 93))) (ownsRow_olds Herow2.out (Olds.alloc wr (.cells #[.slice o1 n1 c1,.slice po pn pc] 93))) (by decide)))
       have HB5:Hid (Below w.heap.size w x5):=Lib.hid ((HB9.out.alloc hsz9 _).grown Hg5.out (by rw [World.size_alloc];omega) (fun b hb=>(Heown.out b hb).1))
       have Hql:Hid (qn=(dataS (l.take (k+1))).length):=Lib.hid (by rw [Hdata.out,List.length_append,← Hdn.out];exact Hqn2.out)
       go_roundw
       case rel =>
        refine⟨k+1,ps++[((e1,plcsG dn gs),(.slice o1 n1 c1,.slice po pn pc))],qo,qn,qc,some ⟨gg,0,none⟩,en+1,cap2,by omega,by go_num,rfl,rfl,Hql.out,by rw [List.length_append,Hen.out];rfl,?_,?_,?_,Hent5.out,Hlab5.out,HB5.out⟩
        ·rw [List.map_append,Hps.out,Htk1.out,entsS_snoc,Nat.zero_add,← Hdn.out,← Hgs.out]
         rfl
        ·intro s hs
         rw [Htk1.out] at hs
         rcases List.mem_append.1 hs with hs | hs
         ·exact Hgood.out s hs
         ·rw [List.mem_singleton] at hs
          rw [hs]
          exact Hgood2.out
        ·unfold Row8
         rw [← Hql.out]
         exact Hda5.out
       case measure=>simp [intOf];omega
    ·obtain rfl:k=n:=by omega
     have hall:l.take k=l:=List.take_of_length_le (by rw [Hl.out];exact Nat.le_refl _)
     rw [hall] at Hps Hgood Hrow8 Hrow Hdn
     obtain⟨eo',ec',he',hre⟩:=Hent.out.rows Hlab.out (Olds.of_below Hb.out)
     rw [Hps.out] at he' hre
     simp only [Value.slice.injEq] at he'
     obtain⟨rfl,hen',rfl⟩:=he'
     obtain⟨hsm,hch⟩:=ents_small HS.out (by rw [Hl.out];exact hn)
     have hl60:(entsS 0 l).length≤60:=by rw [entsS_len,Hl.out];exact hn
     have hP:=rencode_rows eo ec (entsS 0 l) wr hsm hl60 hch hre
     unfold EncEnd at hP
     rw [← hen'] at hP
     have Hln:Hid (l≠[]):=Lib.hid (fun e=>HmS.out.1 e)
     clear hre hen' hsm hall
     by_cases hmay:May (entsS 0 l)
     ·have HP:Hid (Calls Tryz.prog 25 #[.slice eo en ec] wr fun e w'=>(∃v,e=.returned (.tuple #[v,.int .u16 0])∧Row8 w' wr.heap.size v (encd crc (entsS 0 l)))∧Below wr.heap.size wr w'):=Lib.hid (hP.mono fun e w' h9=>⟨by
       rcases h9.1 with ⟨h8,_⟩|⟨_,h8⟩
       ·exact absurd hmay h8
       ·exact h8,h9.2⟩)
      have Hok:Hid (BlkOk level l):=Lib.hid ⟨hv0,hv1,Hln.out,Hgood.out,hmay⟩
      have hxl:=encd_len hmay hl60 hch
      have Hxb:=Lib.hid (encd_bytes (entsS 0 l))
      obtain⟨ix,hix⟩:∃ix,ix=encd crc (entsS 0 l):=⟨_,rfl⟩
      obtain⟨xn,hxn⟩:∃xn,xn=ix.length:=⟨_,rfl⟩
      obtain⟨lv,hlv⟩:∃lv,lv=level.toNat:=⟨_,rfl⟩
      have hlu:IntKind.u64.wrap level=(lv:Int):=by rw [wrap_u64];omega
      have hxu:IntKind.u64.wrap (xn:Int)=(xn:Int):=by rw [wrap_u64];rw [← hix,← hxn] at hxl;omega
      have hiu:IntKind.u64.wrap (id:Int)=(id:Int):=by rw [wrap_u64];omega
      rw [← hix] at HP hxl Hxb
      rw [← hxn] at hxl
      have Hhead:Hid (blkHead crc id lv l=[66,71,66,76]++low 4 id++low 2 lv++low 4 xn):=Lib.hid (by unfold blkHead;rw [← hix,← hxn])
      have Hbody:Hid (blkBody crc id lv l=blkHead crc id lv l++ix++dataS l):=Lib.hid (by unfold blkBody;rw [← hix])
      have Hlv:=Lib.hid hlv
      have Hxn:=Lib.hid hxn
      have hlvb:lv≤65535:=by omega
      have Hbl:Hid ((blkBody crc id lv l).length=14+xn+dn):=Lib.hid (by
       rw [Hbody.out,List.length_append,List.length_append,Hhead.out,List.length_append,List.length_append,List.length_append,low_len,low_len,low_len,← hxn,← Hdn.out]
       rfl)
      have hbb:∀x∈blkBody crc id lv l,x<256:=by
       rw [Hbody.out]
       exact bytes_append (bytes_append (head_bytes crc id lv l) Hxb.out) (data_bytes l)
      have Hbb:=Lib.hid hbb
      obtain⟨cr,hcr⟩:∃cr,cr=crc (blkBody crc id lv l):=⟨_,rfl⟩
      have hcrl:cr<4294967296:=by rw [hcr];exact crc_lt hbb
      have hcru:IntKind.u64.wrap (cr:Int)=(cr:Int):=by rw [wrap_u64];omega
      have Hcr:Hid (crc (blkBody crc id lv l)=cr):=Lib.hid hcr.symm
      clear hP hmay hch hl60 hix hxn hlv hbb hcr
      go_wp2_with (first
       | (go_at_call 25;refine HP.out.mono ?_;clear HP;rintro e w4 ⟨⟨v,rfl,hv⟩,hb4⟩;obtain⟨xo,xc,rfl,_⟩:=hv.shape;have Hv:Hid (w4.ownsRow wr.heap.size 5 1 (.slice xo xn xc) xn (octs ix)):=(Lib.hid (by have h9:=hv;unfold Row8 at h9;rwa [← Hxn.out] at h9));have B4:=Lib.hid hb4;have hs4:=hb4.size;rw [← Hxn.out];clear hv hb4)
       | (at_builtin;refine wpList_append_txt rfl _ _ rfl w4.heap.size 0 (.slice none 0 0) [66,71,66,76] [] rfl rfl (World.ownsRow_nil _ _ _ _) (Nat.le_refl _) (by decide) ?_;(intro v0 x0 hown0 hgrow0 hat0;have hown0':Row8 x0 w4.heap.size v0 [66,71,66,76]:=hown0;have X0:Hid (Below w4.heap.size w4 x0):=(Lib.hid ((Below.refl _ _).grown hgrow0 (Nat.le_refl _) (fun b hb=>by cases hb)));have hx0s:=X0.out.size;have HL1:=Lib.hid (put8 (w:=x0) (B:=w4.heap.size) (v:=v0) (bs:=[66,71,66,76]) id 4 hown0' hx0s (by omega) (by decide) (by decide));clear hown0 hown0' hgrow0 hat0))
       | (go_at_call 26;refine HL1.out.mono ?_;clear HL1;(rintro e x1 ⟨v1,rfl,hr1,hb1⟩;have X1:=Lib.hid (X0.out.trans hb1);have hx1s:=X1.out.size;have HL2:=Lib.hid (put8 (w:=x1) (B:=w4.heap.size) (v:=v1) (bs:=[66,71,66,76]++low 4 id) lv 2 hr1 hx1s (by omega) (by decide) (by rw [List.length_append,low_len];simp));clear hr1 hb1))
       | (go_at_call 26;refine HL2.out.mono ?_;clear HL2;(rintro e x2 ⟨v2,rfl,hr2,hb2⟩;have X2:=Lib.hid (X1.out.trans hb2);have hx2s:=X2.out.size;have HL3:=Lib.hid (put8 (w:=x2) (B:=w4.heap.size) (v:=v2) (bs:=[66,71,66,76]++low 4 id++low 2 lv) xn 4 hr2 hx2s (by omega) (by decide) (by rw [List.length_append,List.length_append,low_len,low_len];simp));clear hr2 hb2))
       | (go_at_call 26;refine HL3.out.mono ?_;clear HL3;(rintro e x3 ⟨v3,rfl,hr3,hb3⟩;have X3:=Lib.hid (X2.out.trans hb3);have hx3s:=X3.out.size;rw [← Hhead.out] at hr3;unfold Row8 at hr3;obtain⟨o3,c3,rfl,_⟩:=ownsRow_shape hr3;have Hhl:Hid ((blkHead crc id lv l).length=14):=(Lib.hid (by rw [Hhead.out,List.length_append,List.length_append,List.length_append,low_len,low_len,low_len];rfl));rw [Hhl.out] at hr3;rw [Hhl.out];have R3:=Lib.hid hr3;have Fx:Hid (FlatAt x3 (.slice xo xn xc) xn (octs ix)):=(Lib.hid (owns_flat (ownsRow_olds Hv.out (Olds.of_below X3.out))));clear hr3 hb3))
       | (at_builtin;refine wpList_append_flat rfl _ _ rfl Tryz.underlying26 size5 hi0 hz0 hz1 hz2 rfl (by decide) (by decide) w4.heap.size 14 xn (.slice o3 14 c3) (.slice xo xn xc) (octs (blkHead crc id lv l)) (octs ix) rfl rfl R3.out hx3s Fx.out (by rw [octs_len,← Hxn.out,Nat.mul_one]) one_octs (by omega) ?_;(intro v6 x6 hown6 hgrow6 hat6;obtain⟨o6,c6,rfl,_⟩:=ownsRow_shape hown6;rw [← octs_append] at hown6;have R6:=Lib.hid hown6;have X6:Hid (Below w4.heap.size w4 x6):=(Lib.hid (X3.out.grown hgrow6 hx3s (fun b hb=>(ownsRow_block R3.out hb).1)));have hx6s:=X6.out.size;have Fd:Hid (FlatAt x6 (.slice doo dn dc) dn (octs (dataS l))):=(Lib.hid (owns_flat (ownsRow_olds Hrow.out ((Olds.of_below B4.out).trans (Olds.of_below X6.out)))));clear R3 Fx hown6 hgrow6 hat6))
       | (at_builtin;refine wpList_append_flat rfl _ _ rfl Tryz.underlying26 size5 hi0 hz0 hz1 hz2 rfl (by decide) (by decide) w4.heap.size (14+xn) dn (.slice o6 (14+xn) c6) (.slice doo dn dc) (octs (blkHead crc id lv l++ix)) (octs (dataS l)) rfl rfl R6.out hx6s Fd.out (by rw [octs_len,← Hdn.out,Nat.mul_one]) one_octs (by omega) ?_;(intro v7 x7 hown7 hgrow7 hat7;obtain⟨o7,c7,rfl,_⟩:=ownsRow_shape hown7;rw [← octs_append,← Hbody.out] at hown7;have X7:Hid (Below w4.heap.size w4 x7):=(Lib.hid (X6.out.grown hgrow7 hx6s (fun b hb=>(ownsRow_block R6.out hb).1)));have hx7s:=X7.out.size;have R7:Hid (Row8 x7 w4.heap.size (.slice o7 (14+xn+dn) c7) (blkBody crc id lv l)):=(Lib.hid (by unfold Row8;rw [Hbl.out];exact hown7));have HSm:=Lib.hid (rsum_any (w:=x7) (v:=.slice o7 (14+xn+dn) c7) (bs:=blkBody crc id lv l) (by unfold BytesAt;rw [Hbl.out];exact owns_flat hown7) (by rw [Hbl.out];omega) Hbb.out);clear R6 Fd hown7 hgrow7 hat7))
       | (go_at_call 27;refine HSm.out.mono ?_;clear HSm;(rintro e x8 ⟨rfl,rfl⟩;rw [Hcr.out];have X8:=X7;have hx8s:=X8.out.size;have HL4:=Lib.hid (put8 (B:=w4.heap.size) (v:=.slice o7 (14+xn+dn) c7) (bs:=blkBody crc id lv l) cr 4 R7.out hx8s (by omega) (by decide) (by rw [Hbl.out];omega))))
       | (go_at_call 26;refine HL4.out.mono ?_;clear HL4;(rintro e x9 ⟨v9,rfl,hr9,hb9⟩;have X9:=Lib.hid (X8.out.trans hb9);have R9:=Lib.hid hr9;clear hr9 hb9)))
      go_ret2
      refine⟨.inr ⟨Hok.out,v9,rfl,?_⟩,(Hb.out.trans (B4.out.mono hsz)).trans (X9.out.mono (by omega))⟩
      rw [← Hlv.out]
      unfold blkB
      rw [Hcr.out]
      exact Row8.from R9.out (by omega)
     ·have HP:Hid (Calls Tryz.prog 25 #[.slice eo en ec] wr fun e w'=>e=.returned (.tuple #[.slice none 0 0,.int .u16 140])∧Below wr.heap.size wr w'):=Lib.hid (hP.mono fun e w' h9=>⟨by
       rcases h9.1 with ⟨_,h8⟩|⟨h8,_⟩
       ·exact h8
       ·exact absurd h8 hmay,h9.2⟩)
      have Hno:Hid (¬ BlkOk level l):=Lib.hid (fun hb=>hmay hb.2.2.2.2)
      clear hP hmay hch hl60
      go_wp2_with (go_at_call 25;refine HP.out.mono ?_;clear HP;rintro e w4 ⟨rfl,hb4⟩;have B4:=Lib.hid (Hb.out.trans (hb4.mono hsz));clear hb4)
      go_ret2
      exact⟨.inl ⟨Hno.out,rfl⟩,B4.out⟩
 ·have HM2:Hid (Calls Tryz.prog 23 #[.slice o n c] w fun e w'=>e=.returned (.bool false)∧∃q,w'=w.drewN q):=Lib.hid (HM.out.mono fun e w' h9=>⟨by
   rcases h9.1 with ⟨_,h8⟩|⟨h8,_⟩
   ·exact absurd h8 hmS
   ·exact h8,h9.2⟩)
  have Hno:Hid (¬ BlkOk level l):=Lib.hid (fun hb=>hmS (mayS_of hb))
  clear HM hmS
  go_enter Tryz.func9,Tryz.ntmps9
  go_wp2_with (go_at_call 23;refine HM2.out.mono ?_;clear HM2;rintro e w2 ⟨rfl,q,rfl⟩)
  go_ret2
  exact⟨.inl ⟨Hno.out,rfl⟩,below_drewN (Below.refl _ _) q⟩
end Go.Proofs.YtbecggfbblnglaaGreatDoor
