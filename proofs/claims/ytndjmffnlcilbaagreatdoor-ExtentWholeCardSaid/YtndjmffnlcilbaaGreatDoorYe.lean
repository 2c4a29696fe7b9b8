/- Contracts over this program. Their conditions: the slices read as the lists that are named, and lie within the sizes that are named. -/
import Derived.Test.YtndjmffnlcilbaaGreatDoorYd
set_option linter.unusedSimpArgs false
set_option linter.unusedVariables false
set_option linter.deprecated false
set_option linter.unnecessarySimpa false
namespace Go.Proofs.YtndjmffnlcilbaaGreatDoor
open Go Go.RowKit Go.Ix Go.Ext Go.Maps
theorem SeenK.clear {w:World}{sm:Nat}{l:List (Nat×Sec)}(h:SeenK w sm l):∃w',(∀ty,(Builtin.clear_ #[58] ty #[.map (some sm)]).run Tryz.prog w=.ok (.tuple #[]) w')∧SeenK w' sm []∧w.grownBy w' (some sm):=by
 obtain⟨es,clock,hb⟩:=h.kind
 have hlt:=h.lt
 refine⟨{ w with heap:=w.heap.setIfInBounds sm (.map #[] clock) },fun ty=>?_,⟨.map [],⟨#[],clock,by simp [hlt],⟨by simp,MapKept.stamped_empty clock,by simp⟩,Nat.le_refl _,rfl⟩,fun a _=>⟨fun _=>by simp [has],fun k hk=>by cases hk⟩⟩,⟨rfl,rfl,rfl,by simp,fun k hk hne=>?_⟩⟩
 ·simp [Builtin.clear_,run_underlying Tryz.underlying58,MapKept.run_getObj_map hb,MapKept.run_setObj_map _ hb,Result.andThen]
 ·have:sm≠k:=fun e=>hne (by rw [e])
  simp [this]
theorem wpList_clear_run {ops:Array Oper}{rest:List Oper}{o:Oper}{a:Act}{Q:Exit→Act→World→Prop}{W w':World}(hgd:o.guard=none) (x:Operand)
  (ho:o.op=.call { callee:=.builtin .clear,args:=#[x],argTypes:=#[58] }) (v:Value) (hx:a.eval x=v) (hr:∀ty,(Builtin.clear_ #[58] ty #[v]).run Tryz.prog W=.ok (.tuple #[]) w')
  (h:wpList Tryz.prog ops Q rest (a.put o.dst (.tuple #[])) w'):wpList Tryz.prog ops Q (o :: rest) a W :=
 wpList_plain hgd fun K hK=>by
  unfold Oper.wp execOp
  simp only [ho,resolve,invoke,builtin,Sem.run_bind,Sem.run_pure,Result.andThen_ok,List.map_toArray,List.map_cons,List.map_nil,hx,hr o.type]
  exact hK _ _ h
theorem flush11_any (i:Int) (w:World):Calls Tryz.prog 58 #[.int .i64 i] w fun e w'=>e=.returned (.bool true)∧w'=w:=by
 go_enter Tryz.func58,Tryz.ntmps58
 go_wp2_with fail
 go_ret
 exact⟨rfl,rfl⟩
theorem heap_setCells (b:Nat):∀(vs:List Value) (o:Nat) (w:World) (k:Nat),k≠b→(w.setCells b o vs).heap[k]?=w.heap[k]?
 | [],_,_,_,_=>rfl
 | v :: r,o,w,k,h=>by
  rw [World.setCells,heap_setCells b r (o+1) _ k h]
  exact Below.heap_setCell _ _ _ _ h
theorem below_setCells {B b:Nat}(hb:B≤b):∀(vs:List Value) (o:Nat) (w:World),Below B w (w.setCells b o vs)
 | [],_,w=>Below.refl _ _
 | v :: r,o,w=>(((Below.refl B w).setCell (p:=⟨b,o,none⟩) hb v)).trans (below_setCells hb r (o+1) _)
def setFrom:List Value→Nat→List Value→List Value
 | xs,_,[]=>xs
 | xs,o,v :: r=>setFrom (xs.set o v) (o+1) r
theorem setFrom_right (u:List Value):∀(vs r:List Value) (o:Nat),setFrom (u++r) (u.length+o) vs=u++setFrom r o vs
 | [],_,_=>rfl
 | v :: vs,r,o=>by
  rw [setFrom,setFrom,List.set_append_right _ _ (by omega),show u.length+o-u.length=o by omega,Nat.add_assoc,setFrom_right u vs _ (o+1)]
theorem setFrom_here:∀(vs u r:List Value),u.length=vs.length→setFrom (u++r) 0 vs=vs++r
 | [],u,r,h=>by rw [List.eq_nil_of_length_eq_zero h];rfl
 | v :: vs,[],r,h=>by cases h
 | v :: vs,x :: u,r,h=>by
  have ih:=setFrom_here vs u r (by simpa using h)
  have h1:=setFrom_right [v] vs (u++r) 0
  rw [setFrom]
  show setFrom (v :: (u++r)) 1 vs=_
  rw [show (v :: (u++r))=[v]++(u++r) from rfl,show (1:Nat)=[v].length+0 from rfl,h1,ih]
  rfl
theorem setFrom_sec (bs:Sec) (hb:bs.length=256):∀(L:List Sec) (a:Nat),(∀b∈L,b.length=256)→a<L.length→setFrom (secCells L) (a * 256) (octs bs)=secCells (L.set a bs)
 | [],a,_,h=>absurd h (Nat.not_lt_zero _)
 | b :: L,0,hL,_=>by
  have h1:(octs b).length=(octs bs).length:=by rw [octs_len,octs_len,hb,hL b List.mem_cons_self]
  have:=setFrom_here (octs bs) (octs b) (secCells L) h1
  rw [Nat.zero_mul]
  exact this
 | b :: L,a+1,hL,h=>by
  have h1:(octs b).length=256:=by rw [octs_len,hL b List.mem_cons_self]
  have ih:=setFrom_sec bs hb L a (fun c hc=>hL c (List.mem_cons_of_mem _ hc)) (by simpa using h)
  have h2:=setFrom_right (octs b) (octs bs) (secCells L) (a * 256)
  show setFrom (octs b++secCells L) _ _=octs b++secCells (L.set a bs)
  rw [show (a+1) * 256=(octs b).length+a * 256 by rw [h1];omega,h2,ih]
theorem row_setCells {B e k g n c:Nat}:∀(vs:List Value) (o:Nat) (w:World) (xs:List Value),w.ownsRow B e k (.slice (some ⟨g,0,none⟩) n c) n xs→(w.setCells g o vs).ownsRow B e k (.slice (some ⟨g,0,none⟩) n c) n (setFrom xs o vs)
 | [],_,_,xs,h=>h
 | v :: r,o,_,_,h=>row_setCells r (o+1) _ _ (h.stored o v).1
def _root_.Go.Ext.Dk.settle (K:Dk) (keep:Nat→Bool):Dk:={ K with las:=laid K.las (kept keep K.cac),cac:=[] }
theorem kept_take {keep:Nat→Bool}{l:List (Nat×Sec)}{j:Nat}{p:Nat×Sec}(h:l[j]?=some p):kept keep (l.take (j+1))=kept keep (l.take j)++if keep j then [p] else []:=by
 have hj:=(List.getElem?_eq_some_iff.1 h).1
 rw [List.take_add_one,h]
 unfold kept
 rw [List.zipIdx_append,List.filter_append,List.map_append,List.length_take,Nat.min_eq_left (by omega)]
 cases hk:keep j<;>simp [hk]
theorem kept_all (l:List (Nat×Sec)):kept (fun _=>true) l=l:=by
 unfold kept
 rw [List.filter_eq_self.2 (fun _ _=>rfl),List.zipIdx_map_fst]
structure Setl (w:World) (B db sm n lc k cc:Nat) (lo co:Option Addr) (L:List Sec) (ys:List Value) (wr:World):Prop where
 cell:wr.heap[db]?=w.heap[db]?
 las:wr.ownsRow B 112 256 (.slice lo n lc) n (secCells L)
 cac:wr.ownsRow B 114 257 (.slice co k cc) k ys
 seen:wr.heap[sm]?=w.heap[sm]?
 fr:Fr B TD [sm] w wr
theorem flat_at_of {l:List (Nat×Sec)}{j i:Nat}{p:Nat×Sec}{v:Value}(hl:∀p∈l,(wrote p).length=257) (hj:l[j]?=some p) (hv:(wrote p)[i]?=some v):(cacCells l)[j * 257+i]?=some v:=by
 unfold cacCells
 induction l generalizing j with
 | nil=>cases hj
 | cons q l ih =>
  rw [List.flatMap_cons]
  have hq:=hl q List.mem_cons_self
  cases j with
  | zero =>
   simp only [List.getElem?_cons_zero,Option.some.injEq] at hj
   subst hj
   rw [Nat.zero_mul,Nat.zero_add,List.getElem?_append_left (List.getElem?_eq_some_iff.1 hv).1]
   exact hv
  | succ j =>
   rw [List.getElem?_append_right (by rw [hq];omega),hq,show (j+1) * 257+i-257=j * 257+i by omega]
   exact ih (fun p hp=>hl p (List.mem_cons_of_mem _ hp)) (by simpa using hj)
set_option maxRecDepth 20000 in
set_option maxHeartbeats 4000000 in
theorem settle_all {w:World}{B db sm n:Nat}{K:Dk}(h:DK w B db sm n K) (hn:n≤1000000) (ht:K.cac.length≤1000000) (hB:B≤w.heap.size)
  (hF:∀(j:Nat) (W:World),j<K.cac.length→Fr B TD [sm] w W→Calls Tryz.prog 58 #[.int .i64 (j:Nat)] W fun e w'=>e=.returned (.bool true)∧w'=W) :
  Calls Tryz.prog 32 #[.pointer (some ⟨db,0,none⟩),.func (.func 58) #[] #[]] w fun e w'=>e=.returned (.tuple #[])∧DK w' B db sm n (K.settle fun _=>true)∧Fr B TD [sm] w w':=by
 have H:=Lib.hid h
 obtain⟨_,_,⟨lv,cv,q1,q2,q3,k,ys,hk1,hk2,h3,h4,h5⟩,h8,hok⟩:=h
 have Hk1:=Lib.hid hk1
 have Hk2:=Lib.hid hk2
 have Hok:=Lib.hid hok
 have HFn:=Lib.hid hF
 obtain⟨dk,hdk⟩:∃dk,dk=Value.bool K.dark:=⟨_,rfl⟩
 obtain⟨tk,htk⟩:∃tk,tk=Value.int .i64 K.trip:=⟨_,rfl⟩
 rw [hk1] at ht
 rw [← hdk,← htk] at h3
 have Hdk:=Lib.hid hdk
 have Htk:=Lib.hid htk
 clear hdk htk hk2 hok hF
 obtain⟨lo,lc,rfl,_⟩:=ownsRow_shape h4
 obtain⟨co,cc,rfl,_⟩:=ownsRow_shape h5
 have c0:w.cell? ⟨db,0,none⟩=some (.slice lo n lc):=by rw [cell_of_heap h3];rfl
 have c1:w.cell? ⟨db,1,none⟩=some (.slice co k cc):=by rw [cell_of_heap h3];rfl
 have H3:=Lib.hid h3
 have H4:=Lib.hid h4
 have H5:=Lib.hid h5
 have H8:=Lib.hid h8
 clear h3 h4 h5 h8 hk1
 go_enter Tryz.func32,Tryz.ntmps32
 go_wp2_with fail
 go_loopw [4,5,11] (fun _ _ iv wr=>∃j:Nat,j≤k∧iv=.int .i64 j∧Setl w B db sm n lc k cc lo co (laid K.las (kept (fun _=>true) (K.cac.take j))) ys wr) (fun _ _ iv _=>k-(intOf iv).toNat)
 case atStart=>exact⟨0,Nat.zero_le _,rfl,rfl,by rw [List.take_zero];exact H4.out,H5.out,rfl,Fr.refl _ _ _ _⟩
 case round =>
  obtain⟨j,hj,rfl,hs⟩:=hrel
  have Hs:=Lib.hid hs
  have hsz:=hs.fr.size
  clear hs
  by_cases hlt:j<k
  ·obtain⟨cb,rfl⟩:∃cb,co=some ⟨cb,0,none⟩:=by
    rcases H5.out.2 with ⟨_,h0⟩|⟨g,cap,cur,e,_⟩
    ·omega
    ·simp only [Value.slice.injEq] at e
     exact⟨g,e.1⟩
   obtain⟨⟨a,bs⟩,hp⟩:∃p,K.cac[j]?=some p:=⟨_,List.getElem?_eq_getElem (by rw [Hk1.out];exact hlt)⟩
   obtain⟨hal,hb1,hb2⟩:=Hok.out.cac _ (List.mem_of_getElem? hp)
   have hstep:=kept_take (keep:=fun _=>true) hp
   have Hstep:=Lib.hid hstep
   have Hb2:=Lib.hid hb2
   clear hstep hb2
   obtain⟨rest,hrest⟩:∃rest,rest=octs bs:=⟨_,rfl⟩
   have hrl:rest.length=256:=by rw [hrest,octs_len];exact hb1
   have hwl:∀p∈K.cac,(wrote p).length=257:=fun p hp=>by
    unfold wrote
    rw [List.length_cons,octs_len,(Hok.out.cac p hp).2.1]
   have hrc:wr.rangeAt cb (j * 257) (Value.int .i64 (a:Nat) :: rest):=fun i v hv=>by
    rw [hrest] at hv
    have h9:=ownsRow_cell Hs.out.cac (j * 257+i) v (by
     rw [Hk2.out]
     exact flat_at_of hwl hp hv)
    simpa using h9
   have hone:∀v∈rest,v.oneCell'=true:=fun v hv=>one_octs v (by rw [← hrest];exact hv)
   have Hrest:=Lib.hid hrest
   clear hrest hwl hp
   have Hrc:=Lib.hid hrc
   have Hone:=Lib.hid hone
   have hiw:(Tryz.prog.info? 114).map (·.size)=some (Value.int .i64 (a:Nat) :: rest).length:=by
    obtain⟨i0,hi0,_,hz1,_⟩:=info_parts Tryz.info114
    rw [hi0]
    simp [hz1,hrl]
   obtain⟨Z,hzw,hZs⟩:∃Z:Array Value,(zeroValue 114).run Tryz.prog wr=.ok (.agg Z) wr∧Z.size=257:=by
    obtain⟨i0,hi0,hz0,_⟩:=info_parts Tryz.info114
    exact⟨#[.int .i64 0]++sec0,by simp [zeroValue,typeInfo,hi0,hz0],by simp [sec0_size]⟩
   have hiw2:(Tryz.prog.info? 114).map (·.size)=some (Value.int .i64 (a:Nat) :: rest).toArray.size:=by simpa using hiw
   have hZz:Z.size=(Value.int .i64 (a:Nat) :: rest).toArray.size:=by simp [hZs,hrl]
   have hZw:(wr.alloc (.cells Z 114)).heap[wr.heap.size]?=some (.cells Z 114 (0,0)):=heap_alloc_new wr _
   have hall:(Value.int .i64 (a:Nat) :: rest).toArray.all (·.oneCell')=true:=by
    simp only [List.all_toArray,List.all_cons,Bool.and_eq_true,List.all_eq_true]
    exact⟨rfl,hone⟩
   clear hrc hone
   have c0r:wr.cell? ⟨db,0,none⟩=some (.slice lo n lc):=by rw [World.cell?_of_block (w:=w) Hs.out.cell];exact c0
   go_upto_region 3 with (first
    | (refine wpList_load_mid rfl 114 _ rfl cb (j * 257) rfl (Value.int .i64 (a:Nat) :: rest) _ Hrc.out Tryz.underlying114 rfl hiw ?_)
    | (refine wpList_wp rfl (fun Kx hKx=>wp_alloc_row 114 rfl _ hzw (hKx _ _ ?_)))
    | (refine wpList_wp rfl (fun Kx hKx=>wp_store_row 114 _ _ rfl wr.heap.size (Value.int .i64 (a:Nat) :: rest).toArray (by go_simp) (by go_simp) 114 Z hZw hiw2 hZz hall (hKx _ _ ?_))))
   obtain⟨Y,hY⟩:∃Y:World,Y=(wr.alloc (.cells Z 114)).setRow wr.heap.size (Value.int .i64 (a:Nat) :: rest).toArray:=⟨_,rfl⟩
   rw [← hY]
   have hYb:Y.heap[wr.heap.size]?=some (.cells (Value.int .i64 (a:Nat) :: rest).toArray 114 (0,0)):=by rw [hY];exact setRow_heap _ _ _ _ _ _ hZw
   have hYo:∀b,b<wr.heap.size→Y.heap[b]?=wr.heap[b]?:=fun b hb=>by
    rw [hY,setRow_other _ _ _ _ (by omega)]
    exact Below.heap_alloc _ _ _ hb
   have hYs:Y.heap.size=wr.heap.size+1:=by rw [hY];simp
   have hYB:Below B wr Y:=by
    rw [hY]
    exact ((Below.refl B wr).alloc (by omega) _).trans ⟨rfl,rfl,rfl,by simp,fun k hk=>setRow_other _ _ _ _ (by omega)⟩
   obtain⟨lb,rfl⟩:∃lb,lo=some ⟨lb,0,none⟩:=by
    rcases H4.out.2 with ⟨_,h0⟩|⟨g,cap,cur,e,_⟩
    ·omega
    ·simp only [Value.slice.injEq] at e
     exact⟨g,e.1⟩
   have hlas:=Hs.out.las
   obtain⟨xs',hxs'⟩:∃xs',xs'=secCells (laid K.las (kept (fun _=>true) (K.cac.take j))):=⟨_,rfl⟩
   rw [← hxs'] at hlas
   have Hxs:=Lib.hid hxs'
   clear hxs'
   have hlas2:Y.ownsRow B 112 256 (.slice (some ⟨lb,0,none⟩) n lc) n xs':=ownsRow_blocks hlas fun g hg=>hYo g (ownsRow_block hlas hg).2
   have hdbr:wr.heap[db]?=_:=Hs.out.cell.trans H3.out
   have hdY:Y.heap[db]?=_:=(hYo db (heap_lt hdbr)).trans hdbr
   have hnlb:lb≠db∧lb≠wr.heap.size:=by
    obtain⟨cur,hc⟩:=own_kind hlas2 (g:=lb) rfl
    exact⟨fun e=>by rw [e,hdY] at hc;simp at hc,fun e=>by rw [e,hYb] at hc;simp at hc⟩
   have hB2:B≤lb:=(ownsRow_block hlas2 (g:=lb) rfl).1
   have hthere:Y.drew.there lb (a * 256) 256:=fun i hi=>by
    have hlt2:a * 256+i<n * 256:=by
     have:(a+1) * 256≤n * 256:=Nat.mul_le_mul_right _ hal
     omega
    have h1:=hlas2.cellAt (a * 256+i) hlt2
    refine⟨?_,hlas2.frozenAt _⟩
    show (Y.cell? _).isSome=true
    rw [h1,List.getElem?_eq_getElem (by rw [hlas2.1];exact hlt2)]
    rfl
   have hS0:Y.drew.cell? ⟨db,0,none⟩=some (.slice (some ⟨lb,0,none⟩) n lc):=by
    have h9:Y.drew.heap[db]?=_:=hdY
    rw [cell_of_heap h9];rfl
   have hS1:Y.drew.cell? ⟨wr.heap.size,0,none⟩=some (.int .i64 (a:Nat)):=by
    have h9:Y.drew.heap[wr.heap.size]?=_:=hYb
    rw [cell_of_heap h9];rfl
   have hS2:Y.drew.rangeAt wr.heap.size 1 rest:=fun i v hv=>by
    have h9:Y.drew.heap[wr.heap.size]?=_:=hYb
    rw [cell_of_heap h9,Nat.add_comm]
    simpa using hv
   have hls:(Tryz.prog.info? 112).map (·.size)=some rest.length:=by
    obtain⟨i0,hi0,_,hz1,_⟩:=info_parts Tryz.info112
    rw [hi0]
    simp [hz1,hrl]
   have hu98:=Tryz.underlying112
   have hone:=Hone.out
   have hSet:(Y.drew.setCells lb (a * 256) rest).cell? ⟨db,0,none⟩=some (.slice (some ⟨lb,0,none⟩) n lc)∧(Y.drew.setCells lb (a * 256) rest).cell? ⟨wr.heap.size,0,none⟩=some (.int .i64 (a:Nat))∧(Y.drew.setCells lb (a * 256) rest).rangeAt wr.heap.size 1 rest∧(Y.drew.setCells lb (a * 256) rest).there lb (a * 256) 256:=by
    refine⟨?_,?_,?_,?_⟩
    ·rw [World.cell?_of_block (w:=Y.drew) (heap_setCells lb rest (a * 256) Y.drew db hnlb.1.symm)];exact hS0
    ·rw [World.cell?_of_block (w:=Y.drew) (heap_setCells lb rest (a * 256) Y.drew _ hnlb.2.symm)];exact hS1
    ·intro i v hv
     rw [World.cell?_of_block (w:=Y.drew) (heap_setCells lb rest (a * 256) Y.drew _ hnlb.2.symm)]
     exact hS2 i v hv
    ·intro i hi
     refine⟨?_,(World.frozen?_setCells lb rest (a * 256) Y.drew _).trans (hthere i hi).2⟩
     rw [World.cell?_setCells_in lb rest (a * 256) Y.drew (fun j hj=>(hthere j (by omega)).1) i (by omega)]
     rfl
   have HYB:=Lib.hid hYB
   have HYo:=Lib.hid hYo
   have HdY:=Lib.hid hdY
   have Hlas2:=Lib.hid hlas2
   have hLok:∀b∈laid K.las (kept (fun _=>true) (K.cac.take j)),b.length=256:=laid_mem _ _ (fun b hb=>(Hok.out.las b hb).1) fun p hp=>(Hok.out.cac p (List.mem_of_mem_take (kept_mem hp))).2.1
   have hLl:(laid K.las (kept (fun _=>true) (K.cac.take j))).length=n:=by rw [laid_len];exact Hok.out.len
   have HSetl:Hid (Setl w B db sm n lc k cc (some ⟨lb,0,none⟩) (some ⟨cb,0,none⟩) ((laid K.las (kept (fun _=>true) (K.cac.take j))).set a bs) ys (Y.drew.setCells lb (a * 256) rest)):=Lib.hid (by
    have hset:∀b,b<wr.heap.size→b≠lb→(Y.drew.setCells lb (a * 256) rest).heap[b]?=wr.heap[b]?:=fun b hb hne=>(heap_setCells lb rest (a * 256) Y.drew b hne).trans (hYo b hb)
    obtain⟨es,cm,hkm⟩:=H8.out.kind
    have hsmr:wr.heap[sm]?=some (.map es cm):=Hs.out.seen.trans hkm
    obtain⟨curl,hcl⟩:=own_kind hlas (g:=lb) rfl
    refine⟨(hset db (heap_lt hdbr) hnlb.1.symm).trans Hs.out.cell,(by
     have h9:=row_setCells rest (a * 256) Y.drew xs' (ownsRow_olds hlas2 (Olds.drewN Y 1))
     rw [Hxs.out,Hrest.out,setFrom_sec bs hb1 _ a hLok (by rw [hLl];exact hal)] at h9
     rw [Hrest.out]
     exact h9),ownsRow_blocks Hs.out.cac fun g hg=>?_,(hset sm (heap_lt hsmr) (fun e=>by rw [e,hcl] at hsmr;cases hsmr)).trans Hs.out.seen,⟨(Hs.out.fr.below.trans hYB).drew.trans (below_setCells hB2 rest _ _),fun b o hb hm ht=>?_⟩⟩
    ·obtain⟨cur,hc⟩:=own_kind Hs.out.cac hg
     exact hset g (heap_lt hc) (fun e=>by rw [e,hcl] at hc;simp at hc)
    ·have h1:=Hs.out.fr.sp b o hb hm ht
     refine (hset b (heap_lt h1) fun e=>?_).trans h1
     rw [e,hcl] at h1
     exact ht _ _ _ (Option.some.inj h1).symm (by simp))
   have HfrY:Hid (Fr B TD [sm] w Y):=Lib.hid (Hs.out.fr.trans ⟨HYB.out,fun b o hb _ _=>(hYo b (heap_lt hb)).trans hb⟩)
   have HSame:Hid (Setl w B db sm n lc k cc (some ⟨lb,0,none⟩) (some ⟨cb,0,none⟩) (laid K.las (kept (fun _=>true) (K.cac.take j))) ys Y):=Lib.hid ⟨(hYo db (heap_lt hdbr)).trans Hs.out.cell,by rw [← Hxs.out];exact hlas2,ownsRow_blocks Hs.out.cac fun g hg=>hYo g (ownsRow_block Hs.out.cac hg).2,(by
    obtain⟨es,cm,hkm⟩:=H8.out.kind
    have hsmr:wr.heap[sm]?=some (.map es cm):=Hs.out.seen.trans hkm
    exact (hYo sm (heap_lt hsmr)).trans Hs.out.seen),HfrY.out⟩
   clear hYb hYo hLok hLl hlas hlas2 hdbr hdY hZw hZz hall hiw hiw2 hzw Hrc hYB hY
   go_upto_region 4 with (go_at_call 58;refine (HFn.out j _ (by rw [Hk1.out];exact hlt) (by first | exact HfrY.out | exact HfrY.out.drew)).mono ?_;rintro e w' ⟨rfl,rfl⟩)
   go_region_held_law (fun W'=>W'.cell? ⟨db,0,none⟩=some (.slice (some ⟨lb,0,none⟩) n lc)∧W'.cell? ⟨wr.heap.size,0,none⟩=some (.int .i64 (a:Nat))∧W'.rangeAt wr.heap.size 1 rest∧W'.there lb (a * 256) 256)
    (first | exact⟨hS0,hS1,hS2,hthere⟩ | exact hSet)
    (fail)
   all_goals go_wp2_with fail
   go_roundw
   case rel=>exact⟨j+1,by omega,by go_num,by rw [Hstep.out,if_pos trivial,laid_snoc];exact HSetl.out⟩
   case measure=>simp [intOf];omega
  ·have hdbr:wr.heap[db]?=_:=Hs.out.cell.trans H3.out
   have hcr:wr.cell? ⟨db,1,none⟩=some (.slice co k cc):=by rw [cell_of_heap hdbr];rfl
   have hfr:wr.frozen? ⟨db,1,none⟩=false:=by simp [World.frozen?,hdbr]
   obtain⟨W1,hW1⟩:∃W1,W1=wr.setCell ⟨db,1,none⟩ (.slice none 0 0):=⟨_,rfl⟩
   have hW1b:W1.heap[db]?=some (.cells #[.slice lo n lc,.slice none 0 0,.map (some sm),dk,tk,.int .i64 q1,.int .i64 q2,.int .i64 q3] 61 (0,0)):=by
    rw [hW1]
    simp [World.setCell,Array.getElem?_modify,hdbr]
   have hW1o:∀b,b≠db→W1.heap[b]?=wr.heap[b]?:=fun b hb=>by rw [hW1];exact Below.heap_setCell _ _ _ _ hb
   have hc2:W1.cell? ⟨db,2,none⟩=some (.map (some sm)):=by rw [cell_of_heap hW1b];rfl
   obtain⟨es,cm,hkm⟩:=H8.out.kind
   have hne:sm≠db:=fun e=>by have h9:=H3.out;rw [← e,hkm] at h9;cases h9
   have hseen:SeenK W1 sm K.cac:=H8.out.block ((hW1o sm hne).trans Hs.out.seen)
   obtain⟨w2,hclr,hs2,hg2⟩:=hseen.clear
   obtain⟨es1,cm1,hkm1⟩:=hseen.kind
   have hother:∀b,b<W1.heap.size→b≠sm→w2.heap[b]?=W1.heap[b]?:=fun b hb hn=>hg2.block b hb fun e=>hn (by cases e;rfl)
   have HEnd:Hid (DK w2 B db sm n (K.settle fun _=>true)∧Fr B TD [sm] w w2):=Lib.hid (by
    obtain rfl:j=k:=by omega
    have hlas:=Hs.out.las
    rw [List.take_of_length_le (by rw [Hk1.out];exact Nat.le_refl _)] at hlas
    refine⟨⟨H.out.bdb,H.out.bsm,⟨.slice lo n lc,.slice none 0 0,q1,q2,q3,0,[],rfl,rfl,(hother db (heap_lt hW1b) hne.symm).trans (Htk.out ▸ Hdk.out ▸ hW1b),ownsRow_blocks hlas fun g hg=>?_,World.ownsRow_nil _ _ _ _⟩,hs2,⟨by show (laid _ _).length=n;rw [laid_len];exact Hok.out.len,laid_mem _ _ Hok.out.las fun p hp=>(Hok.out.cac p (kept_mem hp)).2,fun p hp=>(by cases hp),Hok.out.trip⟩⟩,?_⟩
    ·obtain⟨cur,hc⟩:=own_kind hlas hg
     have h1:=hW1o g (fun e=>by rw [e,hdbr] at hc;simp at hc)
     exact (hother g (heap_lt (h1.trans hc)) (fun e=>by rw [← e,h1,hc] at hkm1;cases hkm1)).trans h1
    ·have h1:Fr B TD [sm] w W1:=by rw [hW1];exact Hs.out.fr.cell (p:=⟨db,1,none⟩) hdbr H.out.bdb (.inr (by simp)) _
     exact h1.map (by have:=h1.size;omega) hg2 (by simp) H.out.bsm)
   have hW1e:=Lib.hid hW1
   clear hW1 hW1b hW1o hs2 hg2 hother hkm hkm1 hseen
   go_upto_region 7 with fail
   rw [← hW1e.out]
   go_wp2_with (at_builtin;refine wpList_clear_run rfl _ rfl _ rfl hclr ?_)
   go_end0
   exact⟨rfl,HEnd.out.1,HEnd.out.2⟩
end Go.Proofs.YtndjmffnlcilbaaGreatDoor
namespace Go.Proofs.YtndjmffnlcilbaaGreatDoor
open Go Go.RowKit Go.Ix Go.Ext Go.Maps
set_option maxRecDepth 20000 in
set_option maxHeartbeats 4000000 in
theorem settle_cut {w:World}{B db sm n kb:Nat}{K:Dk}{keep:Nat→Bool}(h:DK w B db sm n K) (hn:n≤1000000) (ht:K.cac.length≤1000000) (hB:B≤w.heap.size)
  (hF:∀(j:Nat) (W:World),j<K.cac.length→Fr B TD [sm] w W→Calls Tryz.prog 33 #[.int .i64 (j:Nat),.pointer (some ⟨kb,0,none⟩)] W fun e w'=>e=.returned (.bool (keep j))∧w'=W) :
  Calls Tryz.prog 32 #[.pointer (some ⟨db,0,none⟩),.func (.func 33) #[] #[.pointer (some ⟨kb,0,none⟩)]] w fun e w'=>e=.returned (.tuple #[])∧DK w' B db sm n (K.settle keep)∧Fr B TD [sm] w w':=by
 have H:=Lib.hid h
 obtain⟨_,_,⟨lv,cv,q1,q2,q3,k,ys,hk1,hk2,h3,h4,h5⟩,h8,hok⟩:=h
 have Hk1:=Lib.hid hk1
 have Hk2:=Lib.hid hk2
 have Hok:=Lib.hid hok
 have HFn:=Lib.hid hF
 obtain⟨dk,hdk⟩:∃dk,dk=Value.bool K.dark:=⟨_,rfl⟩
 obtain⟨tk,htk⟩:∃tk,tk=Value.int .i64 K.trip:=⟨_,rfl⟩
 rw [hk1] at ht
 rw [← hdk,← htk] at h3
 have Hdk:=Lib.hid hdk
 have Htk:=Lib.hid htk
 clear hdk htk hk2 hok hF
 obtain⟨lo,lc,rfl,_⟩:=ownsRow_shape h4
 obtain⟨co,cc,rfl,_⟩:=ownsRow_shape h5
 have c0:w.cell? ⟨db,0,none⟩=some (.slice lo n lc):=by rw [cell_of_heap h3];rfl
 have c1:w.cell? ⟨db,1,none⟩=some (.slice co k cc):=by rw [cell_of_heap h3];rfl
 have H3:=Lib.hid h3
 have H4:=Lib.hid h4
 have H5:=Lib.hid h5
 have H8:=Lib.hid h8
 clear h3 h4 h5 h8 hk1
 go_enter Tryz.func32,Tryz.ntmps32
 go_wp2_with fail
 go_loopw [4,5,11] (fun _ _ iv wr=>∃j:Nat,j≤k∧iv=.int .i64 j∧Setl w B db sm n lc k cc lo co (laid K.las (kept keep (K.cac.take j))) ys wr) (fun _ _ iv _=>k-(intOf iv).toNat)
 case atStart=>exact⟨0,Nat.zero_le _,rfl,rfl,by rw [List.take_zero];exact H4.out,H5.out,rfl,Fr.refl _ _ _ _⟩
 case round =>
  obtain⟨j,hj,rfl,hs⟩:=hrel
  have Hs:=Lib.hid hs
  have hsz:=hs.fr.size
  clear hs
  by_cases hlt:j<k
  ·obtain⟨cb,rfl⟩:∃cb,co=some ⟨cb,0,none⟩:=by
    rcases H5.out.2 with ⟨_,h0⟩|⟨g,cap,cur,e,_⟩
    ·omega
    ·simp only [Value.slice.injEq] at e
     exact⟨g,e.1⟩
   obtain⟨⟨a,bs⟩,hp⟩:∃p,K.cac[j]?=some p:=⟨_,List.getElem?_eq_getElem (by rw [Hk1.out];exact hlt)⟩
   obtain⟨hal,hb1,hb2⟩:=Hok.out.cac _ (List.mem_of_getElem? hp)
   have hstep:=kept_take (keep:=keep) hp
   have Hstep:=Lib.hid hstep
   have Hb2:=Lib.hid hb2
   clear hstep hb2
   obtain⟨rest,hrest⟩:∃rest,rest=octs bs:=⟨_,rfl⟩
   have hrl:rest.length=256:=by rw [hrest,octs_len];exact hb1
   have hwl:∀p∈K.cac,(wrote p).length=257:=fun p hp=>by
    unfold wrote
    rw [List.length_cons,octs_len,(Hok.out.cac p hp).2.1]
   have hrc:wr.rangeAt cb (j * 257) (Value.int .i64 (a:Nat) :: rest):=fun i v hv=>by
    rw [hrest] at hv
    have h9:=ownsRow_cell Hs.out.cac (j * 257+i) v (by
     rw [Hk2.out]
     exact flat_at_of hwl hp hv)
    simpa using h9
   have hone:∀v∈rest,v.oneCell'=true:=fun v hv=>one_octs v (by rw [← hrest];exact hv)
   have Hrest:=Lib.hid hrest
   clear hrest hwl hp
   have Hrc:=Lib.hid hrc
   have Hone:=Lib.hid hone
   have hiw:(Tryz.prog.info? 114).map (·.size)=some (Value.int .i64 (a:Nat) :: rest).length:=by
    obtain⟨i0,hi0,_,hz1,_⟩:=info_parts Tryz.info114
    rw [hi0]
    simp [hz1,hrl]
   obtain⟨Z,hzw,hZs⟩:∃Z:Array Value,(zeroValue 114).run Tryz.prog wr=.ok (.agg Z) wr∧Z.size=257:=by
    obtain⟨i0,hi0,hz0,_⟩:=info_parts Tryz.info114
    exact⟨#[.int .i64 0]++sec0,by simp [zeroValue,typeInfo,hi0,hz0],by simp [sec0_size]⟩
   have hiw2:(Tryz.prog.info? 114).map (·.size)=some (Value.int .i64 (a:Nat) :: rest).toArray.size:=by simpa using hiw
   have hZz:Z.size=(Value.int .i64 (a:Nat) :: rest).toArray.size:=by simp [hZs,hrl]
   have hZw:(wr.alloc (.cells Z 114)).heap[wr.heap.size]?=some (.cells Z 114 (0,0)):=heap_alloc_new wr _
   have hall:(Value.int .i64 (a:Nat) :: rest).toArray.all (·.oneCell')=true:=by
    simp only [List.all_toArray,List.all_cons,Bool.and_eq_true,List.all_eq_true]
    exact⟨rfl,hone⟩
   clear hrc hone
   have c0r:wr.cell? ⟨db,0,none⟩=some (.slice lo n lc):=by rw [World.cell?_of_block (w:=w) Hs.out.cell];exact c0
   go_upto_region 3 with (first
    | (refine wpList_load_mid rfl 114 _ rfl cb (j * 257) rfl (Value.int .i64 (a:Nat) :: rest) _ Hrc.out Tryz.underlying114 rfl hiw ?_)
    | (refine wpList_wp rfl (fun Kx hKx=>wp_alloc_row 114 rfl _ hzw (hKx _ _ ?_)))
    | (refine wpList_wp rfl (fun Kx hKx=>wp_store_row 114 _ _ rfl wr.heap.size (Value.int .i64 (a:Nat) :: rest).toArray (by go_simp) (by go_simp) 114 Z hZw hiw2 hZz hall (hKx _ _ ?_))))
   obtain⟨Y,hY⟩:∃Y:World,Y=(wr.alloc (.cells Z 114)).setRow wr.heap.size (Value.int .i64 (a:Nat) :: rest).toArray:=⟨_,rfl⟩
   rw [← hY]
   have hYb:Y.heap[wr.heap.size]?=some (.cells (Value.int .i64 (a:Nat) :: rest).toArray 114 (0,0)):=by rw [hY];exact setRow_heap _ _ _ _ _ _ hZw
   have hYo:∀b,b<wr.heap.size→Y.heap[b]?=wr.heap[b]?:=fun b hb=>by
    rw [hY,setRow_other _ _ _ _ (by omega)]
    exact Below.heap_alloc _ _ _ hb
   have hYs:Y.heap.size=wr.heap.size+1:=by rw [hY];simp
   have hYB:Below B wr Y:=by
    rw [hY]
    exact ((Below.refl B wr).alloc (by omega) _).trans ⟨rfl,rfl,rfl,by simp,fun k hk=>setRow_other _ _ _ _ (by omega)⟩
   obtain⟨lb,rfl⟩:∃lb,lo=some ⟨lb,0,none⟩:=by
    rcases H4.out.2 with ⟨_,h0⟩|⟨g,cap,cur,e,_⟩
    ·omega
    ·simp only [Value.slice.injEq] at e
     exact⟨g,e.1⟩
   have hlas:=Hs.out.las
   obtain⟨xs',hxs'⟩:∃xs',xs'=secCells (laid K.las (kept keep (K.cac.take j))):=⟨_,rfl⟩
   rw [← hxs'] at hlas
   have Hxs:=Lib.hid hxs'
   clear hxs'
   have hlas2:Y.ownsRow B 112 256 (.slice (some ⟨lb,0,none⟩) n lc) n xs':=ownsRow_blocks hlas fun g hg=>hYo g (ownsRow_block hlas hg).2
   have hdbr:wr.heap[db]?=_:=Hs.out.cell.trans H3.out
   have hdY:Y.heap[db]?=_:=(hYo db (heap_lt hdbr)).trans hdbr
   have hnlb:lb≠db∧lb≠wr.heap.size:=by
    obtain⟨cur,hc⟩:=own_kind hlas2 (g:=lb) rfl
    exact⟨fun e=>by rw [e,hdY] at hc;simp at hc,fun e=>by rw [e,hYb] at hc;simp at hc⟩
   have hB2:B≤lb:=(ownsRow_block hlas2 (g:=lb) rfl).1
   have hthere:Y.drew.there lb (a * 256) 256:=fun i hi=>by
    have hlt2:a * 256+i<n * 256:=by
     have:(a+1) * 256≤n * 256:=Nat.mul_le_mul_right _ hal
     omega
    have h1:=hlas2.cellAt (a * 256+i) hlt2
    refine⟨?_,hlas2.frozenAt _⟩
    show (Y.cell? _).isSome=true
    rw [h1,List.getElem?_eq_getElem (by rw [hlas2.1];exact hlt2)]
    rfl
   have hS0:Y.drew.cell? ⟨db,0,none⟩=some (.slice (some ⟨lb,0,none⟩) n lc):=by
    have h9:Y.drew.heap[db]?=_:=hdY
    rw [cell_of_heap h9];rfl
   have hS1:Y.drew.cell? ⟨wr.heap.size,0,none⟩=some (.int .i64 (a:Nat)):=by
    have h9:Y.drew.heap[wr.heap.size]?=_:=hYb
    rw [cell_of_heap h9];rfl
   have hS2:Y.drew.rangeAt wr.heap.size 1 rest:=fun i v hv=>by
    have h9:Y.drew.heap[wr.heap.size]?=_:=hYb
    rw [cell_of_heap h9,Nat.add_comm]
    simpa using hv
   have hls:(Tryz.prog.info? 112).map (·.size)=some rest.length:=by
    obtain⟨i0,hi0,_,hz1,_⟩:=info_parts Tryz.info112
    rw [hi0]
    simp [hz1,hrl]
   have hu98:=Tryz.underlying112
   have hone:=Hone.out
   have hSet:(Y.drew.setCells lb (a * 256) rest).cell? ⟨db,0,none⟩=some (.slice (some ⟨lb,0,none⟩) n lc)∧(Y.drew.setCells lb (a * 256) rest).cell? ⟨wr.heap.size,0,none⟩=some (.int .i64 (a:Nat))∧(Y.drew.setCells lb (a * 256) rest).rangeAt wr.heap.size 1 rest∧(Y.drew.setCells lb (a * 256) rest).there lb (a * 256) 256:=by
    refine⟨?_,?_,?_,?_⟩
    ·rw [World.cell?_of_block (w:=Y.drew) (heap_setCells lb rest (a * 256) Y.drew db hnlb.1.symm)];exact hS0
    ·rw [World.cell?_of_block (w:=Y.drew) (heap_setCells lb rest (a * 256) Y.drew _ hnlb.2.symm)];exact hS1
    ·intro i v hv
     rw [World.cell?_of_block (w:=Y.drew) (heap_setCells lb rest (a * 256) Y.drew _ hnlb.2.symm)]
     exact hS2 i v hv
    ·intro i hi
     refine⟨?_,(World.frozen?_setCells lb rest (a * 256) Y.drew _).trans (hthere i hi).2⟩
     rw [World.cell?_setCells_in lb rest (a * 256) Y.drew (fun j hj=>(hthere j (by omega)).1) i (by omega)]
     rfl
   have HYB:=Lib.hid hYB
   have HYo:=Lib.hid hYo
   have HdY:=Lib.hid hdY
   have Hlas2:=Lib.hid hlas2
   have hLok:∀b∈laid K.las (kept keep (K.cac.take j)),b.length=256:=laid_mem _ _ (fun b hb=>(Hok.out.las b hb).1) fun p hp=>(Hok.out.cac p (List.mem_of_mem_take (kept_mem hp))).2.1
   have hLl:(laid K.las (kept keep (K.cac.take j))).length=n:=by rw [laid_len];exact Hok.out.len
   have HSetl:Hid (Setl w B db sm n lc k cc (some ⟨lb,0,none⟩) (some ⟨cb,0,none⟩) ((laid K.las (kept keep (K.cac.take j))).set a bs) ys (Y.drew.setCells lb (a * 256) rest)):=Lib.hid (by
    have hset:∀b,b<wr.heap.size→b≠lb→(Y.drew.setCells lb (a * 256) rest).heap[b]?=wr.heap[b]?:=fun b hb hne=>(heap_setCells lb rest (a * 256) Y.drew b hne).trans (hYo b hb)
    obtain⟨es,cm,hkm⟩:=H8.out.kind
    have hsmr:wr.heap[sm]?=some (.map es cm):=Hs.out.seen.trans hkm
    obtain⟨curl,hcl⟩:=own_kind hlas (g:=lb) rfl
    refine⟨(hset db (heap_lt hdbr) hnlb.1.symm).trans Hs.out.cell,(by
     have h9:=row_setCells rest (a * 256) Y.drew xs' (ownsRow_olds hlas2 (Olds.drewN Y 1))
     rw [Hxs.out,Hrest.out,setFrom_sec bs hb1 _ a hLok (by rw [hLl];exact hal)] at h9
     rw [Hrest.out]
     exact h9),ownsRow_blocks Hs.out.cac fun g hg=>?_,(hset sm (heap_lt hsmr) (fun e=>by rw [e,hcl] at hsmr;cases hsmr)).trans Hs.out.seen,⟨(Hs.out.fr.below.trans hYB).drew.trans (below_setCells hB2 rest _ _),fun b o hb hm ht=>?_⟩⟩
    ·obtain⟨cur,hc⟩:=own_kind Hs.out.cac hg
     exact hset g (heap_lt hc) (fun e=>by rw [e,hcl] at hc;simp at hc)
    ·have h1:=Hs.out.fr.sp b o hb hm ht
     refine (hset b (heap_lt h1) fun e=>?_).trans h1
     rw [e,hcl] at h1
     exact ht _ _ _ (Option.some.inj h1).symm (by simp))
   have HfrY:Hid (Fr B TD [sm] w Y):=Lib.hid (Hs.out.fr.trans ⟨HYB.out,fun b o hb _ _=>(hYo b (heap_lt hb)).trans hb⟩)
   have HSame:Hid (Setl w B db sm n lc k cc (some ⟨lb,0,none⟩) (some ⟨cb,0,none⟩) (laid K.las (kept keep (K.cac.take j))) ys Y):=Lib.hid ⟨(hYo db (heap_lt hdbr)).trans Hs.out.cell,by rw [← Hxs.out];exact hlas2,ownsRow_blocks Hs.out.cac fun g hg=>hYo g (ownsRow_block Hs.out.cac hg).2,(by
    obtain⟨es,cm,hkm⟩:=H8.out.kind
    have hsmr:wr.heap[sm]?=some (.map es cm):=Hs.out.seen.trans hkm
    exact (hYo sm (heap_lt hsmr)).trans Hs.out.seen),HfrY.out⟩
   clear hYb hYo hLok hLl hlas hlas2 hdbr hdY hZw hZz hall hiw hiw2 hzw Hrc hYB hY
   have hFj:=fun W (hW:Fr B TD [sm] w W)=>HFn.out j W (by rw [Hk1.out];exact hlt) hW
   cases hkj:keep j with
   | true =>
    rw [hkj] at hFj
    have HFj:=Lib.hid hFj
    clear hFj
    go_upto_region 4 with (go_at_call 33;refine (HFj.out _ (by first | exact HfrY.out | exact HfrY.out.drew)).mono ?_;rintro e w' ⟨rfl,rfl⟩)
    go_region_held_law (fun W'=>W'.cell? ⟨db,0,none⟩=some (.slice (some ⟨lb,0,none⟩) n lc)∧W'.cell? ⟨wr.heap.size,0,none⟩=some (.int .i64 (a:Nat))∧W'.rangeAt wr.heap.size 1 rest∧W'.there lb (a * 256) 256)
     (first | exact⟨hS0,hS1,hS2,hthere⟩ | exact hSet)
     (fail)
    all_goals go_wp2_with fail
    go_roundw
    case rel=>exact⟨j+1,by omega,by go_num,by rw [Hstep.out,if_pos hkj,laid_snoc];exact HSetl.out⟩
    case measure=>simp [intOf];omega
   | false =>
    rw [hkj] at hFj
    have HFj:=Lib.hid hFj
    clear hFj
    go_wp2_with (go_at_call 33;refine (HFj.out _ (by first | exact HfrY.out | exact HfrY.out.drew)).mono ?_;rintro e w' ⟨rfl,rfl⟩)
    go_roundw
    case rel=>exact⟨j+1,by omega,by go_num,by rw [Hstep.out,if_neg (by rw [hkj];decide),List.append_nil];exact HSame.out⟩
    case measure=>simp [intOf];omega
  ·have hdbr:wr.heap[db]?=_:=Hs.out.cell.trans H3.out
   have hcr:wr.cell? ⟨db,1,none⟩=some (.slice co k cc):=by rw [cell_of_heap hdbr];rfl
   have hfr:wr.frozen? ⟨db,1,none⟩=false:=by simp [World.frozen?,hdbr]
   obtain⟨W1,hW1⟩:∃W1,W1=wr.setCell ⟨db,1,none⟩ (.slice none 0 0):=⟨_,rfl⟩
   have hW1b:W1.heap[db]?=some (.cells #[.slice lo n lc,.slice none 0 0,.map (some sm),dk,tk,.int .i64 q1,.int .i64 q2,.int .i64 q3] 61 (0,0)):=by
    rw [hW1]
    simp [World.setCell,Array.getElem?_modify,hdbr]
   have hW1o:∀b,b≠db→W1.heap[b]?=wr.heap[b]?:=fun b hb=>by rw [hW1];exact Below.heap_setCell _ _ _ _ hb
   have hc2:W1.cell? ⟨db,2,none⟩=some (.map (some sm)):=by rw [cell_of_heap hW1b];rfl
   obtain⟨es,cm,hkm⟩:=H8.out.kind
   have hne:sm≠db:=fun e=>by have h9:=H3.out;rw [← e,hkm] at h9;cases h9
   have hseen:SeenK W1 sm K.cac:=H8.out.block ((hW1o sm hne).trans Hs.out.seen)
   obtain⟨w2,hclr,hs2,hg2⟩:=hseen.clear
   obtain⟨es1,cm1,hkm1⟩:=hseen.kind
   have hother:∀b,b<W1.heap.size→b≠sm→w2.heap[b]?=W1.heap[b]?:=fun b hb hn=>hg2.block b hb fun e=>hn (by cases e;rfl)
   have HEnd:Hid (DK w2 B db sm n (K.settle keep)∧Fr B TD [sm] w w2):=Lib.hid (by
    obtain rfl:j=k:=by omega
    have hlas:=Hs.out.las
    rw [List.take_of_length_le (by rw [Hk1.out];exact Nat.le_refl _)] at hlas
    refine⟨⟨H.out.bdb,H.out.bsm,⟨.slice lo n lc,.slice none 0 0,q1,q2,q3,0,[],rfl,rfl,(hother db (heap_lt hW1b) hne.symm).trans (Htk.out ▸ Hdk.out ▸ hW1b),ownsRow_blocks hlas fun g hg=>?_,World.ownsRow_nil _ _ _ _⟩,hs2,⟨by show (laid _ _).length=n;rw [laid_len];exact Hok.out.len,laid_mem _ _ Hok.out.las fun p hp=>(Hok.out.cac p (kept_mem hp)).2,fun p hp=>(by cases hp),Hok.out.trip⟩⟩,?_⟩
    ·obtain⟨cur,hc⟩:=own_kind hlas hg
     have h1:=hW1o g (fun e=>by rw [e,hdbr] at hc;simp at hc)
     exact (hother g (heap_lt (h1.trans hc)) (fun e=>by rw [← e,h1,hc] at hkm1;cases hkm1)).trans h1
    ·have h1:Fr B TD [sm] w W1:=by rw [hW1];exact Hs.out.fr.cell (p:=⟨db,1,none⟩) hdbr H.out.bdb (.inr (by simp)) _
     exact h1.map (by have:=h1.size;omega) hg2 (by simp) H.out.bsm)
   have hW1e:=Lib.hid hW1
   clear hW1 hW1b hW1o hs2 hg2 hother hkm hkm1 hseen
   go_upto_region 7 with fail
   rw [← hW1e.out]
   go_wp2_with (at_builtin;refine wpList_clear_run rfl _ rfl _ rfl hclr ?_)
   go_end0
   exact⟨rfl,HEnd.out.1,HEnd.out.2⟩
end Go.Proofs.YtndjmffnlcilbaaGreatDoor
namespace Go.Proofs.YtndjmffnlcilbaaGreatDoor
open Go Go.RowKit Go.Ix Go.Ext Go.Maps
set_option maxRecDepth 20000 in
set_option maxHeartbeats 1000000 in
theorem flush1_any {w:World}{B db sm n dbx:Nat}{K:Dk}(h:DK w B db sm n K) (hn:n≤1000000) (ht:K.cac.length≤1000000) (hB:B≤w.heap.size) (hdx:w.cell? ⟨dbx,0,none⟩=some (.pointer (some ⟨db,0,none⟩))) :
  Calls Tryz.prog 57 #[.pointer (some ⟨dbx,0,none⟩)] w fun e w'=>e=.returned (.int .u16 0)∧DK w' B db sm n (K.settle fun _=>true)∧Fr B TD [sm] w w':=by
 have HS:=Lib.hid (settle_all h hn ht hB fun j W _ _=>flush11_any j W)
 clear h
 go_enter Tryz.func57,Tryz.ntmps57
 go_wp2_with (go_at_call 32;refine HS.out.mono ?_;clear HS;rintro e w' ⟨rfl,h1,h2⟩;have H1:=Lib.hid h1;have H2:=Lib.hid h2;clear h1 h2)
 go_ret
 exact⟨rfl,H1.out,H2.out⟩
set_option maxRecDepth 20000 in
set_option maxHeartbeats 1000000 in
theorem flush_any {w:World}{B db sm n:Nat}{K:Dk}(h:DK w B db sm n K) (hn:n≤1000000) (ht:K.cac.length≤1000000) (hB:B≤w.heap.size) :
  Calls Tryz.prog 27 #[.pointer (some ⟨db,0,none⟩)] w fun e w'=>e=.returned (.int .u16 (codeOf K.ok:Nat))∧DK w' B db sm n K.flush∧Fr B TD [sm] w w':=by
 obtain⟨X,hX⟩:∃X:World,X=w.alloc (.cells #[.pointer (some ⟨db,0,none⟩)] 25):=⟨_,rfl⟩
 have HoX:Hid (Olds w X):=Lib.hid (by rw [hX];exact Olds.alloc _ _)
 have HfX:Hid (Fr B TD [sm] w X):=Lib.hid (by rw [hX];exact (Fr.refl _ _ _ _).alloc hB _)
 have hXs:X.heap.size=w.heap.size+1:=by rw [hX];simp
 have g1:X.heap[w.heap.size]?=some (.cells #[.pointer (some ⟨db,0,none⟩)] 25 (0,0)):=by
  rw [hX]
  exact heap_alloc_new _ _
 have HD:Hid (DK X.drew B db sm n K):=Lib.hid ((h.olds HoX.out).olds (Olds.drewN X 1))
 have hdlt:=h.lt
 have HW:Hid (Calls Tryz.prog 56 #[.pointer (some ⟨db,0,none⟩),.pointer (some ⟨db,7,none⟩),.func (.func 57) #[] #[.pointer (some ⟨w.heap.size,0,none⟩)]] X.drew fun e w'=>e=.returned (.int .u16 (codeOf K.ok:Nat))∧DK w' B db sm n K.flush∧Fr B TD [sm] w w'):=Lib.hid (by
  by_cases hok:K.ok=true
  ·have hw:K.flush=K.tick.settle fun _=>true:=by
    unfold Dk.flush Dk.settle Dk.view
    rw [if_pos hok,kept_all,tick_cac,tick_las]
   rw [hok,hw]
   refine op_flush (S:=fun w'=>DK w' B db sm n (K.tick.settle fun _=>true)∧Fr B TD [sm] w w') HD.out hok fun w1 h1=>?_
   have hg:=(h1.ot w.heap.size (by omega)).trans g1
   exact (flush1_any h1.dk hn (by rw [tick_cac];exact ht) (by rw [h1.sz];show B≤X.heap.size;omega) (by rw [cell_of_heap hg];rfl)).mono fun e w' ⟨a,b,c⟩=>⟨a,b,(HfX.out.drew.trans h1.fr).trans c⟩
  ·have hok:K.ok=false:=by simpa using hok
   have hw:K.flush=K.tick:=by unfold Dk.flush;rw [if_neg (by rw [hok];decide)]
   rw [hok,hw]
   exact (op_no HD.out hok).mono fun e w' ⟨a,h1⟩=>⟨a,h1.dk,HfX.out.drew.trans h1.fr⟩)
 generalize (codeOf K.ok:Nat)=cd at *
 have hz1:X.drew.cell? ⟨w.heap.size,0,none⟩=some (.pointer (some ⟨db,0,none⟩)):=by
  have h9:X.drew.heap[w.heap.size]?=_:=g1
  rw [cell_of_heap h9];rfl
 have HXe:=Lib.hid hX
 clear g1 hX h
 go_enter Tryz.func27,Tryz.ntmps27
 go_upto_region 1 with fail
 rw [← HXe.out]
 go_region_with (go_at_call 56;refine HW.out.mono ?_;clear HW;rintro e w' ⟨rfl,h1,h2⟩;have H1:=Lib.hid h1;have H2:=Lib.hid h2;clear h1 h2)
 all_goals go_wp2_with fail
 all_goals go_ret
 all_goals exact⟨rfl,H1.out,H2.out⟩
set_option maxHeartbeats 400000 in
theorem sectors_any {w:World}{B db sm n:Nat}{K:Dk}(h:DK w B db sm n K):Calls Tryz.prog 22 #[.pointer (some ⟨db,0,none⟩)] w fun e w'=>e=.returned (.int .i64 n)∧w'=w:=by
 obtain⟨lv,cv,q1,q2,q3,k,ys,_,_,h3,h4,_⟩:=h.cell
 obtain⟨lo,lc,rfl,_⟩:=ownsRow_shape h4
 have c0:w.cell? ⟨db,0,none⟩=some (.slice lo n lc):=by rw [cell_of_heap h3];rfl
 clear h h3 h4
 go_enter Tryz.func22,Tryz.ntmps22
 go_wp2_with fail
 go_ret
 exact⟨rfl,rfl⟩
def Bools (w:World) (B:Nat) (o:Option Addr) (n:Nat) (ks:List Bool):Prop:=ks.length=n∧(ks≠[]→∃b off,o=some ⟨b,off,none⟩∧b<B∧CellsAt w b off (ks.map .bool))
theorem Bools.below {w W:World}{B:Nat}{o:Option Addr}{n:Nat}{ks:List Bool}(h:Bools w B o n ks) (hb:Below B w W):Bools W B o n ks:=⟨h.1,fun hne=>by
 obtain⟨b,off,e,hlt,hc⟩:=h.2 hne
 exact⟨b,off,e,hlt,fun j v hv=>(World.cell?_of_block (hb.block b hlt)).trans (hc j v hv)⟩⟩
def keepOf (ks:List Bool) (i:Nat):Bool:=ks.getD i false
set_option maxRecDepth 20000 in
set_option maxHeartbeats 1000000 in
theorem cut1_any {w:World}{B kb n c:Nat}{o:Option Addr}{ks:List Bool}(j:Nat) (h:Bools w B o n ks) (hkb:w.cell? ⟨kb,0,none⟩=some (.slice o n c)) :
  Calls Tryz.prog 33 #[.int .i64 (j:Nat),.pointer (some ⟨kb,0,none⟩)] w fun e w'=>e=.returned (.bool (keepOf ks j))∧w'=w:=by
 by_cases hj:j<n
 ·obtain⟨hl,hc⟩:=h
  obtain⟨b,off,rfl,_,hcell⟩:=hc (fun e=>by rw [e] at hl;simp at hl;omega)
  obtain⟨x,hx⟩:∃x,ks[j]?=some x:=⟨_,List.getElem?_eq_getElem (by rw [hl];exact hj)⟩
  have hk:keepOf ks j=x:=by unfold keepOf;rw [List.getD_eq_getElem?_getD,hx];rfl
  have hcj:w.cell? ⟨b,off+j,none⟩=some (.bool x):=hcell j _ (by rw [List.getElem?_map,hx];rfl)
  rw [hk]
  clear hk hx hc hcell hl
  go_enter Tryz.func33,Tryz.ntmps33
  go_wp2_with fail
  go_ret
  exact⟨rfl,rfl⟩
 ·have hk:keepOf ks j=false:=by unfold keepOf;rw [List.getD_eq_getElem?_getD,List.getElem?_eq_none (by rw [h.1];omega)];rfl
  rw [hk]
  clear hk h
  go_enter Tryz.func33,Tryz.ntmps33
  go_wp2_with fail
  go_ret
  exact⟨rfl,rfl⟩
end Go.Proofs.YtndjmffnlcilbaaGreatDoor
