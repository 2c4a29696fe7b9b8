/- Contracts over this program. Their conditions: the slices read as the lists that are named, and lie within the sizes that are named. -/
import Derived.Test.YtndjmffnlcilbaaGreatDoorYb
import Derived.Test.YtndjmffnlcilbaaGreatDoorYc
import Derived.Deep.CutRange
import Derived.StillTailTactics
import Derived.Deep.RegionHeldLaw
import Derived.Maps.OwnOps
import Derived.Maps.OwnSet
set_option linter.unusedSimpArgs false
set_option linter.unusedVariables false
set_option linter.deprecated false
set_option linter.unnecessarySimpa false
namespace Go.Proofs.YtndjmffnlcilbaaGreatDoor
open Go Go.RowKit Go.Ix Go.Ext Go.Maps
abbrev TD:List Nat:=[61,112,114]
def RV (v:Value):Option (DataW Value×List MemPlace):=some (.held v,[])
def secCells (L:List Sec):List Value:=L.flatMap octs
def wrote (p:Nat×Sec):List Value:=.int .i64 (p.1:Nat) :: octs p.2
def cacCells (l:List (Nat×Sec)):List Value:=l.flatMap wrote
theorem cac_snoc (l:List (Nat×Sec)) (a:Nat) (bs:Sec):cacCells (l++[(a,bs)])=cacCells l++.int .i64 (a:Nat) :: octs bs:=by simp [cacCells,wrote]
def SeenK (w:World) (sm:Nat) (l:List (Nat×Sec)):Prop :=
 ∃D:DataW Value,w.ownsMap Tryz.prog 3 RV sm l.length D∧∀a:Nat,a≤1000000000→(lastOf l a=none→has D (.int .i64 (a:Nat))=false)∧∀k,lastOf l a=some k→∀z,D.atKey (.int .i64 (a:Nat)) z=.held (.int .i64 (k:Nat))
structure DK (w:World) (B db sm n:Nat) (K:Dk):Prop where
 bdb:B≤db
 bsm:B≤sm
 cell:∃lv cv q1 q2 q3 k ys,K.cac.length=k∧ys=cacCells K.cac∧w.heap[db]?=some (.cells #[lv,cv,.map (some sm),.bool K.dark,.int .i64 K.trip,.int .i64 q1,.int .i64 q2,.int .i64 q3] 61 (0,0))∧w.ownsRow B 112 256 lv n (secCells K.las)∧w.ownsRow B 114 257 cv k ys
 seen:SeenK w sm K.cac
 ok:K.Ok n
theorem Tryz.lawI:Keyed Tryz.prog 3:=int_keyed Tryz.underlying3
theorem SeenK.block {w W:World}{sm:Nat}{l:List (Nat×Sec)}(h:SeenK w sm l) (hb:W.heap[sm]?=w.heap[sm]?):SeenK W sm l:=by
 obtain⟨D,⟨es,clock,h1,h2⟩,h3⟩:=h
 exact⟨D,⟨es,clock,hb.trans h1,h2⟩,h3⟩
theorem SeenK.kind {w:World}{sm:Nat}{l:List (Nat×Sec)}(h:SeenK w sm l):∃es c,w.heap[sm]?=some (.map es c):=by
 obtain⟨D,⟨es,clock,h1,_⟩,_⟩:=h
 exact⟨es,clock,h1⟩
theorem SeenK.lt {w:World}{sm:Nat}{l:List (Nat×Sec)}(h:SeenK w sm l):sm<w.heap.size:=by
 obtain⟨es,c,h⟩:=h.kind
 exact heap_lt h
theorem keyI (a:Nat) (ha:a≤1000000000):keyOf Tryz.prog 3 (.int .i64 (a:Nat))=some (.int .i64 (a:Nat)):=keyOf_int_mk Tryz.underlying3 (WalkArith.wf_i64 (n:=(a:Int)) (by omega))
theorem SeenK.store {w:World}{sm:Nat}{l:List (Nat×Sec)}(h:SeenK w sm l) (a:Nat) (bs:Sec) (ha:a≤1000000000) (ht:l.length<1000000000) :
  ∃w',(Instr.mapUpdate 58 (.map (some sm)) (.int .i64 (a:Nat)) (.int .i64 (l.length:Nat))).run Tryz.prog w=.ok () w'∧SeenK w' sm (l++[(a,bs)])∧w.grownBy w' (some sm):=by
 obtain⟨D,hown,hD⟩:=h
 obtain⟨w',h1,h2,h3⟩:=hown.update (t:=58) (e:=3) Tryz.lawI Tryz.underlying58 (by unfold maxLen;omega) (keyI a ha) (val:=.int .i64 (l.length:Nat)) (d:=.held (.int .i64 (l.length:Nat))) (ps:=[]) rfl
 refine⟨w',h1,⟨_,h2.mono (by simp),fun x hx=>?_⟩,h3⟩
 rw [lastOf_snoc]
 by_cases hxa:a=x
 ·subst hxa
  rw [if_pos rfl]
  exact⟨fun h=>(by cases h),fun k hk z=>by cases hk;exact atKey_put_same hown.isMap (k:=.int .i64 (a:Nat)) trivial _ _⟩
 ·rw [if_neg hxa]
  have hne:(Lit.int .i64 (x:Nat))≠Lit.int .i64 (a:Nat):=fun e=>by
   simp only [Lit.int.injEq,true_and] at e
   omega
  exact⟨fun h=>by rw [has_put_other hne];exact (hD x hx).1 h,fun k hk z=>by rw [atKey_put_other hne];exact (hD x hx).2 k hk z⟩
theorem DK.keep {w W:World}{B B' db sm n:Nat}{K:Dk}{T M:List Nat}(h:DK w B db sm n K) (hf:Fr B' T M w W) (hT:∀x∈TD,x∉T) (hM:db∉M∧sm∉M) (hm:∀g cs fr,w.heap[g]?=some (.cells cs 112 fr)→g∉M) (hm2:∀g cs fr,w.heap[g]?=some (.cells cs 114 fr)→g∉M):DK W B db sm n K:=by
 obtain⟨h1,h2,⟨lv,cv,q1,q2,q3,k,ys,hk1,hk2,h3,h4,h5⟩,h8,h9⟩:=h
 obtain⟨es,c,hk⟩:=h8.kind
 refine⟨h1,h2,⟨lv,cv,q1,q2,q3,k,ys,hk1,hk2,hf.keep h3 hM.1 (hT _ (by simp)),hf.keepRow h4 (hT _ (by simp)) fun g hg=>?_,hf.keepRow h5 (hT _ (by simp)) fun g hg=>?_⟩,h8.block ((hf.keepMap hk hM.2).trans hk.symm),h9⟩
 ·obtain⟨cur,hc⟩:=own_kind h4 hg
  exact hm g _ _ hc
 ·obtain⟨cur,hc⟩:=own_kind h5 hg
  exact hm2 g _ _ hc
theorem DK.olds {w W:World}{B db sm n:Nat}{K:Dk}(h:DK w B db sm n K) (hb:Olds w W):DK W B db sm n K:=by
 obtain⟨h1,h2,⟨lv,cv,q1,q2,q3,k,ys,hk1,hk2,h3,h4,h5⟩,h8,h9⟩:=h
 exact⟨h1,h2,⟨lv,cv,q1,q2,q3,k,ys,hk1,hk2,(hb.2 _ (heap_lt h3)).trans h3,ownsRow_olds h4 hb,ownsRow_olds h5 hb⟩,h8.block (hb.2 _ h8.lt),h9⟩
theorem DK.lt {w:World}{B db sm n:Nat}{K:Dk}(h:DK w B db sm n K):db<w.heap.size:=by
 obtain⟨_,_,⟨lv,cv,q1,q2,q3,k,ys,_,_,h3,_⟩,_⟩:=h
 exact heap_lt h3
theorem cell_not_map {w:World}{b i m c:Nat}{v:Value}{es:Array MapEntry}(hc:w.cell? ⟨b,i,none⟩=some v) (hm:w.heap[m]?=some (.map es c)):b≠m:=fun e=>by
 subst e
 simp [World.cell?,hm] at hc
def _root_.Go.Ext.Dk.add (K:Dk) (a:Nat) (b:Sec):Dk:={ K with cac:=K.cac++[(a,b)] }
theorem _root_.Go.Ext.Dk.Ok.add {K:Dk}{n:Nat}(h:K.Ok n) {a:Nat}{b:Sec}(ha:a<n) (hb:b.length=256∧∀x∈b,x<256):(K.add a b).Ok n:=⟨h.len,h.las,fun p hp=>by
 rcases List.mem_append.1 hp with hp | hp
 ·exact h.cac p hp
 ·obtain rfl:=List.mem_singleton.1 hp
  exact⟨ha,hb⟩,h.trip⟩
theorem dk_wrote {w w2 X w5:World}{B db sm n k gg cap2 at' cc:Nat}{co:Option Addr}{lv:Value}{q1 q2 q3:Int}{K:Dk}{ys:List Value}{bs:List Nat}(bdb:B≤db) (bsm:B≤sm) (hk1:K.cac.length=k) (hk2:ys=cacCells K.cac)
  (h3:w.heap[db]?=some (.cells #[lv,.slice co k cc,.map (some sm),.bool K.dark,.int .i64 K.trip,.int .i64 q1,.int .i64 q2,.int .i64 q3] 61 (0,0))) (h4:w.ownsRow B 112 256 lv n (secCells K.las)) (h5:w.ownsRow B 114 257 (.slice co k cc) k ys)
  (h8:SeenK w sm K.cac) (hg2:w.grownBy w2 (some sm)) (hs2:SeenK w2 sm (K.cac++[(at',bs)])) (ho:Olds w2 X) (hg5:X.grownBy w5 (Value.slice co k cc).ownBlock)
  (hown5:w5.ownsRow B 114 257 (.slice (some ⟨gg,0,none⟩) (k+1) cap2) (k+1) (ys++.int .i64 (at':Nat) :: octs bs)) (hok:K.Ok n) (hat:at'<n) (hb:bs.length=256∧∀x∈bs,x<256):DK (w5.setCell ⟨db,1,none⟩ (.slice (some ⟨gg,0,none⟩) (k+1) cap2)) B db sm n (K.add at' bs):=by
 obtain⟨es,cm,hkm⟩:=h8.kind
 obtain⟨es2,cm2,hkm2⟩:=hs2.kind
 have hk:∀{b:Nat}{cs:Array Value}{ty:TypeId}{fr:Nat×Nat},w.heap[b]?=some (.cells cs ty fr)→ty≠114→w5.heap[b]?=some (.cells cs ty fr):=fun {b cs ty fr} hc hne=>by
  have h1:w2.heap[b]?=some (.cells cs ty fr):=(hg2.block b (heap_lt hc) (fun e=>by cases e;rw [hkm] at hc;cases hc)).trans hc
  have h2:X.heap[b]?=some (.cells cs ty fr):=(ho.2 b (heap_lt h1)).trans h1
  refine (hg5.block b (heap_lt h2) fun e=>?_).trans h2
  obtain⟨cur,h3⟩:=own_kind h5 e.symm
  rw [h3] at hc
  simp only [Option.some.injEq,Obj.cells.injEq] at hc
  exact hne hc.2.1.symm
 have hdb:=hk h3 (by decide)
 have hsm5:w5.heap[sm]?=w2.heap[sm]?:=by
  have h2:X.heap[sm]?=w2.heap[sm]?:=ho.2 sm (heap_lt hkm2)
  refine (hg5.block sm (heap_lt (h2.trans hkm2)) fun e=>?_).trans h2
  obtain⟨cur,h3⟩:=own_kind h5 e.symm
  rw [hkm] at h3
  cases h3
 have hne:db≠sm:=fun e=>by rw [e,hkm] at h3;cases h3
 refine⟨bdb,bsm,⟨lv,.slice (some ⟨gg,0,none⟩) (k+1) cap2,q1,q2,q3,k+1,_,by show (K.cac++_).length=_;rw [List.length_append,hk1];rfl,by show _=cacCells (K.cac++_);rw [cac_snoc,← hk2],?_,ownsRow_blocks h4 fun g hg=>?_,ownsRow_blocks hown5 fun g hg=>?_⟩,hs2.block ?_,hok.add hat hb⟩
 ·simp [World.setCell,Array.getElem?_modify,hdb,Dk.add]
 ·obtain⟨cur,hc⟩:=own_kind h4 hg
  rw [Below.heap_setCell _ _ _ _ (fun e:g=db=>by rw [e,h3] at hc;simp at hc),hc]
  exact hk hc (by decide)
 ·obtain⟨cur,hc⟩:=own_kind hown5 hg
  exact Below.heap_setCell _ _ _ _ (fun e:g=db=>by rw [e,hdb] at hc;simp at hc)
 ·rw [Below.heap_setCell _ _ _ _ (fun e:sm=db=>hne e.symm)]
  exact hsm5
set_option maxRecDepth 20000 in
set_option maxHeartbeats 4000000 in
theorem dwrite1_any {w:World}{B db sm n ab dbx bb:Nat}{K:Dk}{bv:Value}{bs:List Nat}(at':Nat) (h:DK w B db sm n K) (hat:at'<n) (hn:n≤1000000) (ht:K.cac.length≤1000000) (hB:B≤w.heap.size)
  (hab:w.heap[ab]?=some (.cells #[.int .i64 at'] 3 (0,0))) (hdx:w.heap[dbx]?=some (.cells #[.pointer (some ⟨db,0,none⟩)] 25 (0,0))) (hbb:w.heap[bb]?=some (.cells #[bv] 34 (0,0))) {B':Nat}(hbs:RowB w B' bv bs 256) :
  Calls Tryz.prog 59 #[.pointer (some ⟨ab,0,none⟩),.pointer (some ⟨dbx,0,none⟩),.pointer (some ⟨bb,0,none⟩)] w fun e w'=>e=.returned (.int .u16 0)∧DK w' B db sm n (K.add at' bs)∧Fr B TD [sm] w w':=by
 have H:=Lib.hid h
 obtain⟨_,_,⟨lv,cv,q1,q2,q3,k,ys,hk1,hk2,h3,h4,h5⟩,h8,hok⟩:=h
 have Hk1:=Lib.hid hk1
 have Hk2:=Lib.hid hk2
 have Hok:=Lib.hid hok
 obtain⟨dk,hdk⟩:∃dk,dk=Value.bool K.dark:=⟨_,rfl⟩
 obtain⟨tk,htk⟩:∃tk,tk=Value.int .i64 K.trip:=⟨_,rfl⟩
 rw [hk1] at ht
 rw [← hdk,← htk] at h3
 have Hdk:=Lib.hid hdk
 have Htk:=Lib.hid htk
 clear hdk htk hk2 hok
 obtain⟨lo,lc,rfl,_⟩:=ownsRow_shape h4
 obtain⟨co,cc,rfl,_⟩:=ownsRow_shape h5
 obtain⟨hrb,hb8,hbl⟩:=hbs
 have Hb8:=Lib.hid hb8
 clear hb8
 unfold Row8 at hrb
 rw [hbl] at hrb
 obtain⟨g,bc,rfl⟩:∃g bc,bv=.slice (some ⟨g,0,none⟩) 256 bc:=by
  rcases hrb.2 with ⟨_,h0⟩|⟨g,cap,cur,e,_⟩
  ·cases h0
  ·exact⟨g,cap,e⟩
 obtain⟨off,hoff⟩:∃off,off=0:=⟨_,rfl⟩
 have hcb:CellsAt w g off (octs bs):=by rw [hoff];exact ownsRow_cell hrb
 have ha:w.cell? ⟨ab,0,none⟩=some (.int .i64 at'):=by rw [cell_of_heap hab];rfl
 have hd:w.cell? ⟨dbx,0,none⟩=some (.pointer (some ⟨db,0,none⟩)):=by rw [cell_of_heap hdx];rfl
 have hb:w.cell? ⟨bb,0,none⟩=some (.slice (some ⟨g,off,none⟩) 256 bc):=by rw [cell_of_heap hbb,hoff];rfl
 have Hab:=Lib.hid hab
 have Hdx:=Lib.hid hdx
 have Hbb:=Lib.hid hbb
 have Hrb:=Lib.hid hrb
 have c0:w.cell? ⟨db,0,none⟩=some (.slice lo n lc):=by rw [cell_of_heap h3];rfl
 have c1:w.cell? ⟨db,1,none⟩=some (.slice co k cc):=by rw [cell_of_heap h3];rfl
 have c2:w.cell? ⟨db,2,none⟩=some (.map (some sm)):=by rw [cell_of_heap h3];rfl
 have H3:=Lib.hid h3
 have H4:=Lib.hid h4
 have H5:=Lib.hid h5
 have H8:=Lib.hid h8
 have Hcb:=Lib.hid hcb
 have Hbl:=Lib.hid hbl
 clear h3 h4 h5 h8 hk1 hcb hbl hab hdx hbb hrb hoff
 go_enter Tryz.func59,Tryz.ntmps59
 go_wp2_with fail
 go_quiet (fail)
 go_upto_region 5 with fail
 obtain⟨w2,hup,hs2,hg2⟩:=(H8.out.block (W:=w.drewN (nq+1)) rfl).store at' bs (by omega) (by rw [Hk1.out];omega)
 rw [Hk1.out] at hup
 go_region
 go_upto_region 6 with fail
 obtain⟨es,cm,hkm⟩:=H8.out.kind
 have hw2:∀b,b<w.heap.size→b≠sm→w2.heap[b]?=w.heap[b]?:=fun b hb hne=>hg2.block b hb (fun e=>hne (by cases e;rfl))
 have hcell2:∀{b j:Nat}{v:Value},w.cell? ⟨b,j,none⟩=some v→w2.cell? ⟨b,j,none⟩=some v:=fun {b j v} hc=>(World.cell?_of_block (w:=w) (w':=w2) (hw2 b (cell_lt hc) (cell_not_map hc hkm))).trans hc
 have h32:w2.heap[db]?=_:=(hw2 db (heap_lt H3.out) (cell_not_map c0 hkm)).trans H3.out
 have hrow2:w2.ownsRow B 114 257 (.slice co k cc) k ys:=ownsRow_blocks H5.out fun g hg=>by
  obtain⟨cur,hcur⟩:=own_kind H5.out hg
  exact hw2 g (heap_lt hcur) (fun e=>by rw [e,hkm] at hcur;cases hcur)
 have hcb2:CellsAt w2 g off (octs bs):=fun j v hv=>hcell2 (Hcb.out j v hv)
 have hs2z:=hg2.size
 have hws:(w.drewN (nq+1)).heap.size=w.heap.size:=rfl
 have HK5:Hid (∀X w5:World,Olds w2 X→X.grownBy w5 (Value.slice co k cc).ownBlock→w5.cell? ⟨dbx,0,none⟩=some (.pointer (some ⟨db,0,none⟩))∧w5.cell? ⟨ab,0,none⟩=some (.int .i64 at')∧w5.cell? ⟨bb,0,none⟩=some (.slice (some ⟨g,off,none⟩) 256 bc)∧w5.rangeAt g off (octs bs)∧w5.heap[db]?=w2.heap[db]?):=Lib.hid (fun X w5 ho hg5=>by
  have hk:∀{b:Nat}{cs:Array Value}{ty:TypeId}{fr:Nat×Nat},w.heap[b]?=some (.cells cs ty fr)→ty≠114→w5.heap[b]?=w2.heap[b]?:=fun {b cs ty fr} hc hne=>by
   have h1:w2.heap[b]?=some (.cells cs ty fr):=(hw2 b (heap_lt hc) (fun e=>by rw [e,hkm] at hc;cases hc)).trans hc
   have h2:X.heap[b]?=w2.heap[b]?:=ho.2 b (heap_lt h1)
   refine (hg5.block b (heap_lt (h2.trans h1)) fun e=>?_).trans h2
   obtain⟨cur,h3⟩:=own_kind H5.out e.symm
   rw [h3] at hc
   simp only [Option.some.injEq,Obj.cells.injEq] at hc
   exact hne hc.2.1.symm
  obtain⟨cur,hgk⟩:=own_kind Hrb.out (g:=g) rfl
  refine⟨?_,?_,?_,?_,hk H3.out (by decide)⟩
  ·rw [World.cell?_of_block (w:=w2) (hk Hdx.out (by decide))];exact hcell2 hd
  ·rw [World.cell?_of_block (w:=w2) (hk Hab.out (by decide))];exact hcell2 ha
  ·rw [World.cell?_of_block (w:=w2) (hk Hbb.out (by decide))];exact hcell2 hb
  ·intro j v hv
   rw [World.cell?_of_block (w:=w2) (hk hgk (by decide))]
   exact hcb2 j v hv)
 have HS:Hid (∀W':World,Olds w2 W'→W'.cell? ⟨dbx,0,none⟩=some (.pointer (some ⟨db,0,none⟩))∧W'.cell? ⟨ab,0,none⟩=some (.int .i64 at')∧W'.cell? ⟨bb,0,none⟩=some (.slice (some ⟨g,off,none⟩) 256 bc)∧W'.rangeAt g off (octs bs)):=Lib.hid (fun W' ho=>⟨ho.cell (hcell2 hd),ho.cell (hcell2 ha),ho.cell (hcell2 hb),hcb2.olds ho⟩)
 have hc1d:w2.drew.cell? ⟨db,1,none⟩=some (.slice co k cc):=hcell2 c1
 have HN:Hid (ab≠db∧dbx≠db∧bb≠db∧g≠db):=Lib.hid (by
  have hn:∀{b:Nat}{cs:Array Value}{ty:TypeId}{fr:Nat×Nat},w.heap[b]?=some (.cells cs ty fr)→ty≠61→b≠db:=fun {b cs ty fr} hc hne e=>by
   have h9:=H3.out
   rw [← e,hc] at h9
   simp only [Option.some.injEq,Obj.cells.injEq] at h9
   exact hne h9.2.1
  obtain⟨cur,hgk⟩:=own_kind Hrb.out (g:=g) rfl
  exact⟨hn Hab.out (by decide),hn Hdx.out (by decide),hn Hbb.out (by decide),hn hgk (by decide)⟩)
 have Hrow2:=Lib.hid hrow2
 have Hcb2:=Lib.hid hcb2
 have H32:=Lib.hid h32
 have Hs2:=Lib.hid hs2
 have Hg2:=Lib.hid (show w.grownBy w2 (some sm) from ⟨hg2.os,hg2.tape,hg2.output,hg2.size,hg2.block⟩)
 have Hf2:Hid (Fr B TD [sm] w w2):=Lib.hid ((⟨⟨rfl,rfl,rfl,Nat.le_refl _,fun _ _=>rfl⟩,fun _ _ h _ _=>h⟩:Fr B TD [sm] w (w.drewN (nq+1))).map hB hg2 (by simp) H.out.bsm)
 have hlen:(Tryz.prog.info? 112).map (·.size)=some (octs bs).length:=by
  obtain⟨i0,hi0,_,hz1,_⟩:=info_parts Tryz.info112
  rw [octs_len,Hbl.out,hi0,← hz1]
  rfl
 have hCs3:(octs bs).length=256:=by simp [octs_len,Hbl.out]
 have HC1:Hid (∀v∈(Value.int .i64 (at':Nat) :: octs bs),v.oneCell'=true):=Lib.hid (fun v hv=>by
  rcases List.mem_cons.1 hv with rfl | hv
  ·rfl
  ·exact one_octs v hv)
 obtain⟨i7,hi7,hz7,hy7,hx7⟩:=info_parts Tryz.info114
 have hzc:(Value.agg (#[.int .i64 0]++sec0)).cells.size=257:=by simp [Value.cells,sec0_size]
 have hap:∀W:World,(Instr.arrayAt 112 (.slice (some ⟨g,off,none⟩) 256 bc)).run Tryz.prog W=.ok (.pointer (some ⟨g,off,none⟩)) W:=fun W=>by simp [Instr.arrayAt,run_underlying Tryz.underlying112]
 have hu98:=Tryz.underlying112
 clear hup hs2 hg2 hkm hw2 hcell2 h32 hrow2 hcb2 ha hd hb c0 c1 c2
 refine wp_region_held_drew (S:=(fun W'=>W'.cell? ⟨dbx,0,none⟩=some (.pointer (some ⟨db,0,none⟩))∧W'.cell? ⟨ab,0,none⟩=some (.int .i64 at')∧W'.cell? ⟨bb,0,none⟩=some (.slice (some ⟨g,off,none⟩) 256 bc)∧W'.rangeAt g off (octs bs))) (by kernel_rfl) (HS.out _ (Olds.drewN w2 1)) (fun hHeld=>?_)
 refine wpAnyH_take (i:=0) (v:=?v0) rfl (by kernel_rfl) (by kernel_rfl) (by kernel_rfl) (fun _ _ _ h=>h) (Or.inl ⟨by rfl,?h0⟩) hHeld ?r0
 case h0 =>
  rintro W ⟨s1,s2,s3,s4⟩
  go_simp
  all_goals with_reducible rfl
 try simp only [Act.put,List.setIfInBounds_toArray,List.set_cons_zero,List.set_cons_succ]
 refine wpAnyH_take (i:=1) (v:=?v1) rfl (by kernel_rfl) (by kernel_rfl) (by kernel_rfl) (fun _ _ _ h=>h) (Or.inl ⟨by rfl,?h1⟩) hHeld ?r1
 case h1 =>
  rintro W ⟨s1,s2,s3,s4⟩
  go_simp
  all_goals with_reducible rfl
 try simp only [Act.put,List.setIfInBounds_toArray,List.set_cons_zero,List.set_cons_succ]
 refine wpAnyH_take (i:=2) (v:=?v2) rfl (by kernel_rfl) (by kernel_rfl) (by kernel_rfl) (fun _ _ _ h=>h) (Or.inl ⟨by rfl,?h2⟩) hHeld ?r2
 case h2 =>
  rintro W ⟨s1,s2,s3,s4⟩
  go_simp
  all_goals with_reducible rfl
 try simp only [Act.put,List.setIfInBounds_toArray,List.set_cons_zero,List.set_cons_succ]
 refine wpAnyH_take (i:=3) (v:=?v3) rfl (by kernel_rfl) (by kernel_rfl) (by kernel_rfl) (fun _ _ _ h=>h) (Or.inl ⟨by rfl,?h3⟩) hHeld ?r3
 case h3 =>
  rintro W ⟨s1,s2,s3,s4⟩
  go_simp
  all_goals with_reducible rfl
 try simp only [Act.put,List.setIfInBounds_toArray,List.set_cons_zero,List.set_cons_succ]
 refine wpAnyH_take (i:=5) (v:=?v5) rfl (by kernel_rfl) (by kernel_rfl) (by kernel_rfl) (fun _ _ _ h=>h) (Or.inl ⟨by rfl,?h5⟩) hHeld ?r5
 case h5 =>
  rintro W ⟨s1,s2,s3,s4⟩
  go_simp
  all_goals with_reducible rfl
 try simp only [Act.put,List.setIfInBounds_toArray,List.set_cons_zero,List.set_cons_succ]
 refine wpAnyH_take (i:=6) (v:=?v6) rfl (by kernel_rfl) (by kernel_rfl) (by kernel_rfl) (fun _ _ _ h=>h) (Or.inl ⟨by rfl,?h6⟩) hHeld ?r6
 case h6 =>
  rintro W ⟨s1,s2,s3,s4⟩
  go_simp
  all_goals with_reducible rfl
 try simp only [Act.put,List.setIfInBounds_toArray,List.set_cons_zero,List.set_cons_succ]
 refine wpAnyH_take (i:=7) (v:=?v7) rfl (by kernel_rfl) (by kernel_rfl) (by kernel_rfl) (fun _ _ _ h=>h) (Or.inl ⟨by rfl,?h7⟩) hHeld ?r7
 case h7 =>
  rintro W ⟨s1,s2,s3,s4⟩
  go_simp
  all_goals with_reducible rfl
 try simp only [Act.put,List.setIfInBounds_toArray,List.set_cons_zero,List.set_cons_succ]
 refine wpAnyH_take (i:=8) (v:=.agg (octs bs).toArray) rfl (by kernel_rfl) (by kernel_rfl) (by kernel_rfl) (fun _ _ _ h=>h) (Or.inl ⟨by rfl,?h8⟩) hHeld ?r8
 case h8 =>
  rintro W ⟨s1,s2,s3,s4⟩
  have h9:=run_loadAt_mid (P:=Tryz.prog) W g off 112 (octs bs) _ s4 hu98 rfl hlen
  refine exec_load_row _ _ _ _ _ _ _ _ W (.pointer (some ⟨g,off,none⟩)) _ ?_ h9
  go_simp
 try simp only [Act.put,List.setIfInBounds_toArray,List.set_cons_zero,List.set_cons_succ]
 refine wpAnyH_take (i:=9) (v:=.agg (.int .i64 (at':Nat) :: octs bs).toArray) rfl (by kernel_rfl) (by kernel_rfl) (by kernel_rfl) (fun _ _ _ h=>h) (Or.inl ⟨by rfl,?h9⟩) hHeld ?r9
 case h9 =>
  rintro W ⟨s1,s2,s3,s4⟩
  refine exec_build_at _ _ _ _ _ _ _ _ W (at':Int) (octs bs) ?_ ?_ hCs3
  ·go_simp
  ·go_simp
 try simp only [Act.put,List.setIfInBounds_toArray,List.set_cons_zero,List.set_cons_succ]
 have hsv:(Value.agg (Value.int .i64 (at':Nat) :: octs bs).toArray).cells.size=257:=by simp [Value.cells,hCs3]
 have hcA:(w2.drew.alloc (.cells (Value.int .i64 (at':Nat) :: octs bs).toArray 114)).cell? ⟨db,1,none⟩=some (.slice co k cc):=(Olds.alloc w2.drew _).cell hc1d
 have hcA2:((w2.alloc (.cells (Value.int .i64 (at':Nat) :: octs bs).toArray 114)).drew).cell? ⟨db,1,none⟩=some (.slice co k cc):=hcA
 have hHA:=HS.out _ ((Olds.drewN w2 1).trans (Olds.alloc w2.drew (.cells (Value.int .i64 (at':Nat) :: octs bs).toArray 114)))
 have HrA:Hid ((w2.drew.alloc (.cells (Value.int .i64 (at':Nat) :: octs bs).toArray 114)).ownsRow B 114 257 (.slice co k cc) k ys):=Lib.hid (ownsRow_olds Hrow2.out ((Olds.drewN w2 1).trans (Olds.alloc w2.drew _)))
 refine wpAnyH_ready (rs:=[4,10]) (by kernel_rfl) (by simp) (AllReadyH.cons rfl (fun K hK=>?_) (AllReadyH.cons rfl (fun K hK=>?_) AllReadyH.nil))
 ·go_simp
  refine hK.out _ _ hHeld (fun hHeld2=>?_)
  clear hK K
  try simp only [Act.put,List.setIfInBounds_toArray,List.set_cons_zero,List.set_cons_succ]
  refine wpAnyH_ready (rs:=[10]) (by kernel_rfl) (by simp) (AllReadyH.cons rfl (fun K hK=>?_) AllReadyH.nil)
  refine step_wp rfl (wp_slice_write _ rfl (Value.agg (Value.int .i64 (at':Nat) :: octs bs).toArray) (by go_simp) hsv ?_)
  refine hK.out _ _ hHA (fun hHeld2=>?_)
  clear hK K
  try simp only [Act.put,List.setIfInBounds_toArray,List.set_cons_zero,List.set_cons_succ]
  refine wpAnyH_ready (rs:=[11]) (by kernel_rfl) (by simp) (AllReadyH.cons rfl (fun K hK=>?_) AllReadyH.nil)
  refine step_append_lies _ (by rfl) _ _ _ (by rfl) B 114 i7 _ 257 264 Tryz.underlying59 hi7 hz7 hy7 hx7 hzc (by decide) (.slice co k cc) k ys (by go_simp) HrA.out ⟨w2.heap.size,0,none⟩ 1 1 (Value.int .i64 (at':Nat) :: octs bs) (by go_simp) (by simp [hCs3]) (World.news_of_block (cs:=(Value.int .i64 (at':Nat) :: octs bs).toArray) (t:=114) (fr:=(0,0)) (heap_alloc_new w2.drew _)) HC1.out Nat.one_pos (by unfold maxLen;omega) (by omega) (by simp;omega) (w2.heap.size+1) (by simp) ?_
  intro gg cap2 w5 hown5 hgrow5 hat5 hlt5
  have Hown5:=Lib.hid hown5
  have Hgrow5:=Lib.hid hgrow5
  obtain⟨k1,k2,k3,k4,k5⟩:=HK5.out _ w5 ((Olds.drewN w2 1).trans (Olds.alloc w2.drew _)) hgrow5
  have h55:w5.heap[db]?=_:=k5.trans H32.out
  have hc5:w5.cell? ⟨db,1,none⟩=some (.slice co k cc):=by rw [cell_of_heap h55];rfl
  have hf5:w5.frozen? ⟨db,1,none⟩=false:=by simp [World.frozen?,h55]
  clear hown5 hgrow5
  refine hK.out _ _ ⟨k1,k2,k3,k4⟩ (fun hHeld3=>?_)
  clear hK K
  try simp only [Act.put,List.setIfInBounds_toArray,List.set_cons_zero,List.set_cons_succ]
  refine wpAnyH_take (i:=12) (v:=?v12) rfl (by kernel_rfl) (by kernel_rfl) (by kernel_rfl) (fun _ _ _ h=>h) (Or.inl ⟨by rfl,?h12⟩) ⟨k1,k2,k3,k4⟩ ?r12
  case h12 =>
   rintro W ⟨s1,s2,s3,s4⟩
   go_simp
   all_goals with_reducible rfl
  try simp only [Act.put,List.setIfInBounds_toArray,List.set_cons_zero,List.set_cons_succ]
  refine wpAnyH_take (i:=13) (v:=?v13) rfl (by kernel_rfl) (by kernel_rfl) (by kernel_rfl) (fun _ _ _ h=>h) (Or.inl ⟨by rfl,?h13⟩) ⟨k1,k2,k3,k4⟩ ?r13
  case h13 =>
   rintro W ⟨s1,s2,s3,s4⟩
   go_simp
   all_goals with_reducible rfl
  try simp only [Act.put,List.setIfInBounds_toArray,List.set_cons_zero,List.set_cons_succ]
  refine wpAnyH_ready (rs:=[14]) (by kernel_rfl) (by simp) (AllReadyH.cons rfl (fun K hK=>?_) AllReadyH.nil)
  go_simp
  refine hK.out _ _ ⟨?_,?_,?_,?_⟩ (fun hHeld3=>?_)
  ·rw [World.cell?_of_block (w:=w5) (Below.heap_setCell _ _ _ _ HN.out.2.1)];exact k1
  ·rw [World.cell?_of_block (w:=w5) (Below.heap_setCell _ _ _ _ HN.out.1)];exact k2
  ·rw [World.cell?_of_block (w:=w5) (Below.heap_setCell _ _ _ _ HN.out.2.2.1)];exact k3
  ·intro j v hv
   rw [World.cell?_of_block (w:=w5) (Below.heap_setCell _ _ _ _ HN.out.2.2.2)]
   exact k4 j v hv
  clear hK K
  refine wpAnyH_done (by kernel_rfl) ?_ _
  try simp only [Act.put,List.setIfInBounds_toArray,List.set_cons_zero,List.set_cons_succ]
  go_wp2_with fail
  go_ret
  refine⟨rfl,dk_wrote H.out.bdb H.out.bsm Hk1.out Hk2.out (Htk.out ▸ Hdk.out ▸ H3.out) H4.out H5.out H8.out Hg2.out Hs2.out ((Olds.drewN w2 1).trans (Olds.alloc w2.drew _)) Hgrow5.out Hown5.out Hok.out hat ⟨Hbl.out,Hb8.out⟩,?_⟩
  exact ((((Hf2.out.drew).alloc (by show B≤w2.heap.size;omega) _).row (by show B≤(w2.drew.alloc _).heap.size;simp;omega) HrA.out (by simp) Hgrow5.out).cell (p:=⟨db,1,none⟩) (k5.trans H32.out) H.out.bdb (.inr (by simp)) _)
 ·refine step_wp rfl (wp_slice_write _ rfl (Value.agg (Value.int .i64 (at':Nat) :: octs bs).toArray) (by go_simp) hsv ?_)
  refine hK.out _ _ hHA (fun hHeld2=>?_)
  clear hK K
  try simp only [Act.put,List.setIfInBounds_toArray,List.set_cons_zero,List.set_cons_succ]
  refine wpAnyH_ready (rs:=[4]) (by kernel_rfl) (by simp) (AllReadyH.cons rfl (fun K hK=>?_) AllReadyH.nil)
  go_simp
  refine hK.out _ _ (by exact hHA) (fun hHeld2=>?_)
  clear hK K
  try simp only [Act.put,List.setIfInBounds_toArray,List.set_cons_zero,List.set_cons_succ]
  refine wpAnyH_ready (rs:=[11]) (by kernel_rfl) (by simp) (AllReadyH.cons rfl (fun K hK=>?_) AllReadyH.nil)
  refine step_append_lies _ (by rfl) _ _ _ (by rfl) B 114 i7 _ 257 264 Tryz.underlying59 hi7 hz7 hy7 hx7 hzc (by decide) (.slice co k cc) k ys (by go_simp) HrA.out ⟨w2.heap.size,0,none⟩ 1 1 (Value.int .i64 (at':Nat) :: octs bs) (by go_simp) (by simp [hCs3]) (World.news_of_block (cs:=(Value.int .i64 (at':Nat) :: octs bs).toArray) (t:=114) (fr:=(0,0)) (heap_alloc_new w2.drew _)) HC1.out Nat.one_pos (by unfold maxLen;omega) (by omega) (by simp;omega) (w2.heap.size+1) (by simp) ?_
  intro gg cap2 w5 hown5 hgrow5 hat5 hlt5
  have Hown5:=Lib.hid hown5
  have Hgrow5:=Lib.hid hgrow5
  obtain⟨k1,k2,k3,k4,k5⟩:=HK5.out _ w5 ((Olds.drewN w2 1).trans (Olds.alloc w2.drew _)) hgrow5
  have h55:w5.heap[db]?=_:=k5.trans H32.out
  have hc5:w5.cell? ⟨db,1,none⟩=some (.slice co k cc):=by rw [cell_of_heap h55];rfl
  have hf5:w5.frozen? ⟨db,1,none⟩=false:=by simp [World.frozen?,h55]
  clear hown5 hgrow5
  refine hK.out _ _ ⟨k1,k2,k3,k4⟩ (fun hHeld3=>?_)
  clear hK K
  try simp only [Act.put,List.setIfInBounds_toArray,List.set_cons_zero,List.set_cons_succ]
  refine wpAnyH_take (i:=12) (v:=?v12b) rfl (by kernel_rfl) (by kernel_rfl) (by kernel_rfl) (fun _ _ _ h=>h) (Or.inl ⟨by rfl,?h12b⟩) ⟨k1,k2,k3,k4⟩ ?r12b
  case h12b =>
   rintro W ⟨s1,s2,s3,s4⟩
   go_simp
   all_goals with_reducible rfl
  try simp only [Act.put,List.setIfInBounds_toArray,List.set_cons_zero,List.set_cons_succ]
  refine wpAnyH_take (i:=13) (v:=?v13b) rfl (by kernel_rfl) (by kernel_rfl) (by kernel_rfl) (fun _ _ _ h=>h) (Or.inl ⟨by rfl,?h13b⟩) ⟨k1,k2,k3,k4⟩ ?r13b
  case h13b =>
   rintro W ⟨s1,s2,s3,s4⟩
   go_simp
   all_goals with_reducible rfl
  try simp only [Act.put,List.setIfInBounds_toArray,List.set_cons_zero,List.set_cons_succ]
  refine wpAnyH_ready (rs:=[14]) (by kernel_rfl) (by simp) (AllReadyH.cons rfl (fun K hK=>?_) AllReadyH.nil)
  go_simp
  refine hK.out _ _ ⟨?_,?_,?_,?_⟩ (fun hHeld3=>?_)
  ·rw [World.cell?_of_block (w:=w5) (Below.heap_setCell _ _ _ _ HN.out.2.1)];exact k1
  ·rw [World.cell?_of_block (w:=w5) (Below.heap_setCell _ _ _ _ HN.out.1)];exact k2
  ·rw [World.cell?_of_block (w:=w5) (Below.heap_setCell _ _ _ _ HN.out.2.2.1)];exact k3
  ·intro j v hv
   rw [World.cell?_of_block (w:=w5) (Below.heap_setCell _ _ _ _ HN.out.2.2.2)]
   exact k4 j v hv
  clear hK K
  refine wpAnyH_done (by kernel_rfl) ?_ _
  try simp only [Act.put,List.setIfInBounds_toArray,List.set_cons_zero,List.set_cons_succ]
  go_wp2_with fail
  go_ret
  refine⟨rfl,dk_wrote H.out.bdb H.out.bsm Hk1.out Hk2.out (Htk.out ▸ Hdk.out ▸ H3.out) H4.out H5.out H8.out Hg2.out Hs2.out ((Olds.drewN w2 1).trans (Olds.alloc w2.drew _)) Hgrow5.out Hown5.out Hok.out hat ⟨Hbl.out,Hb8.out⟩,?_⟩
  exact ((((Hf2.out.drew).alloc (by show B≤w2.heap.size;omega) _).row (by show B≤(w2.drew.alloc _).heap.size;simp;omega) HrA.out (by simp) Hgrow5.out).cell (p:=⟨db,1,none⟩) (k5.trans H32.out) H.out.bdb (.inr (by simp)) _)
end Go.Proofs.YtndjmffnlcilbaaGreatDoor
namespace Go.Proofs.YtndjmffnlcilbaaGreatDoor
open Go Go.RowKit Go.Ix Go.Ext Go.Maps
theorem DK.cells {w W:World}{B db sm n:Nat}{K:Dk}{lv cv a b c d e:Value}{q1 q2 q3:Int}(h:DK w B db sm n K) (h0:w.heap[db]?=some (.cells #[lv,cv,.map (some sm),a,b,c,d,e] 61 (0,0))) (ho:∀x,x≠db→W.heap[x]?=w.heap[x]?)
  (hb:W.heap[db]?=some (.cells #[lv,cv,.map (some sm),.bool K.tick.dark,.int .i64 K.tick.trip,.int .i64 q1,.int .i64 q2,.int .i64 q3] 61 (0,0))):DK W B db sm n K.tick:=by
 obtain⟨h1,h2,⟨lv',cv',r1,r2,r3,k,ys,hk1,hk2,h3,h4,h5⟩,h8,hok⟩:=h
 have e3:=h0.symm.trans h3
 simp only [Option.some.injEq,Obj.cells.injEq] at e3
 have e4:=e3.1
 simp at e4
 obtain⟨rfl,rfl,_⟩:=e4
 obtain⟨es,cm,hkm⟩:=h8.kind
 refine⟨h1,h2,⟨lv,cv,q1,q2,q3,k,ys,by rw [tick_cac];exact hk1,by rw [tick_cac];exact hk2,hb,?_,?_⟩,?_,hok.tick⟩
 ·rw [tick_las]
  exact ownsRow_blocks h4 fun g hg=>ho g fun e=>by obtain⟨cur,hc⟩:=own_kind h4 hg;rw [e,h0] at hc;simp at hc
 ·exact ownsRow_blocks h5 fun g hg=>ho g fun e=>by obtain⟨cur,hc⟩:=own_kind h5 hg;rw [e,h0] at hc;simp at hc
 ·rw [tick_cac]
  exact h8.block (ho sm fun e=>by rw [e,h0] at hkm;cases hkm)
structure Tk (w:World) (B db sm n:Nat) (K:Dk) (w1:World):Prop where
 dk:DK w1 B db sm n K.tick
 ot:∀x,x≠db→w1.heap[x]?=w.heap[x]?
 fr:Fr B TD [sm] w w1
 sz:w1.heap.size=w.heap.size
theorem set_twice (w:World) (db i j:Nat) (u v:Value) (x:Nat) (h:x≠db):((w.setCell ⟨db,i,none⟩ u).setCell ⟨db,j,none⟩ v).heap[x]?=w.heap[x]?:=(Below.heap_setCell _ _ _ _ h).trans (Below.heap_setCell _ _ _ _ h)
theorem tick_dark' {K:Dk}(h:K.ok=true):K.dark=false∧K.trip≠0:=by
 unfold Dk.ok at h
 simp at h
 exact h
theorem tick_pos {K:Dk}(h:K.dark=false) (hp:0<K.trip):K.tick={ K with trip:=K.trip-1 }:=by
 unfold Dk.tick
 rw [h,if_neg (by decide),if_neg (by omega),if_pos hp]
theorem tick_neg {K:Dk}(h:K.dark=false) (h0:K.trip≠0) (hp:¬ 0<K.trip):K.tick=K:=by
 unfold Dk.tick
 rw [h,if_neg (by decide),if_neg h0,if_neg hp]
theorem tick_zero {K:Dk}(h:K.dark=false) (h0:K.trip=0):K.tick={ K with dark:=true,trip:=-1 }:=by
 unfold Dk.tick
 rw [h,if_neg (by decide),if_pos h0]
theorem tick_was {K:Dk}(h:K.dark=true):K.tick=K:=by
 unfold Dk.tick
 rw [if_pos h]
set_option maxRecDepth 20000 in
set_option maxHeartbeats 1000000 in
theorem op_write {w:World}{B db sm n a b c:Nat}{K:Dk}{S:World→Prop}(h:DK w B db sm n K) (hok:K.ok=true) (hdo:∀w1,Tk w B db sm n K w1→Calls Tryz.prog 59 #[.pointer (some ⟨a,0,none⟩),.pointer (some ⟨b,0,none⟩),.pointer (some ⟨c,0,none⟩)] w1 fun e w'=>e=.returned (.int .u16 0)∧S w') :
  Calls Tryz.prog 56 #[.pointer (some ⟨db,0,none⟩),.pointer (some ⟨db,6,none⟩),.func (.func 59) #[] #[.pointer (some ⟨a,0,none⟩),.pointer (some ⟨b,0,none⟩),.pointer (some ⟨c,0,none⟩)]] w fun e w'=>e=.returned (.int .u16 0)∧S w':=by
 obtain⟨lv,cv,r1,r2,r3,k,ys,_,_,h3,_⟩:=h.cell
 obtain⟨hd,h0⟩:=tick_dark' hok
 have htr:=h.ok.trip
 have H:=Lib.hid h
 have Hdo:=Lib.hid hdo
 have H3:=Lib.hid h3
 have Hd:=Lib.hid hd
 rw [hd] at h3
 have c3:w.cell? ⟨db,3,none⟩=some (.bool false):=by rw [cell_of_heap h3];rfl
 have c4:w.cell? ⟨db,4,none⟩=some (.int .i64 K.trip):=by rw [cell_of_heap h3];rfl
 have c5:w.cell? ⟨db,6,none⟩=some (.int .i64 r2):=by rw [cell_of_heap h3];rfl
 have f5:w.frozen? ⟨db,6,none⟩=false:=by simp [World.frozen?,h3]
 have f4:w.frozen? ⟨db,4,none⟩=false:=by simp [World.frozen?,h3]
 by_cases hp:0<K.trip
 ·have ht:=tick_pos hd hp
  have HT:Hid (∀q:Int,Tk w B db sm n K ((w.setCell ⟨db,4,none⟩ (.int .i64 (K.trip-1))).setCell ⟨db,6,none⟩ (.int .i64 q))):=Lib.hid (fun q=>⟨H.out.cells (q1:=r1) (q2:=q) (q3:=r3) H3.out (set_twice w db _ _ _ _) (by rw [ht];simp [World.setCell,Array.getElem?_modify,H3.out]),set_twice w db _ _ _ _,((Fr.refl B TD [sm] w).cell (p:=⟨db,4,none⟩) H3.out h.bdb (.inr (by simp)) _).cell (p:=⟨db,6,none⟩) (cs:=#[lv,cv,.map (some sm),.bool K.dark,.int .i64 (K.trip-1),.int .i64 r1,.int .i64 r2,.int .i64 r3]) (ty:=61) (fr:=(0,0)) (by simp [World.setCell,Array.getElem?_modify,H3.out]) h.bdb (.inr (by simp)) _,by simp [World.setCell]⟩)
  generalize K.trip=t at *
  have e0:(t == 0)=false:=by simp;omega
  have e1:decide (0<t)=true:=by simp;omega
  have hw:IntKind.i64.wrap (t-1)=t-1:=by rw [IntKind.wrap_i64];omega
  have hw2:IntKind.i64.wrap (t+-1)=t-1:=by rw [IntKind.wrap_i64];omega
  clear h3 hdo h hd ht hok
  go_enter Tryz.func56,Tryz.ntmps56
  go_wp2_with (go_at_call 59;refine (Hdo.out _ (HT.out _)).mono ?_;rintro e w' ⟨rfl,hS⟩;have HS:=Lib.hid hS;clear hS)
  go_ret
  exact⟨rfl,HS.out⟩
 ·have ht:=tick_neg hd h0 hp
  have HT:Hid (∀q:Int,Tk w B db sm n K (w.setCell ⟨db,6,none⟩ (.int .i64 q))):=Lib.hid (fun q=>⟨H.out.cells (q1:=r1) (q2:=q) (q3:=r3) H3.out (fun x hx=>Below.heap_setCell _ _ _ _ hx) (by rw [ht];simp [World.setCell,Array.getElem?_modify,H3.out]),fun x hx=>Below.heap_setCell _ _ _ _ hx,(Fr.refl B TD [sm] w).cell (p:=⟨db,6,none⟩) H3.out h.bdb (.inr (by simp)) _,by simp [World.setCell]⟩)
  have e4:K.trip = -1:=by omega
  rw [e4] at c4
  clear h3 hdo h hd ht hok e4 h0 hp htr
  go_enter Tryz.func56,Tryz.ntmps56
  go_wp2_with (go_at_call 59;refine (Hdo.out _ (HT.out _)).mono ?_;rintro e w' ⟨rfl,hS⟩;have HS:=Lib.hid hS;clear hS)
  go_ret
  exact⟨rfl,HS.out⟩
set_option maxRecDepth 20000 in
set_option maxHeartbeats 1000000 in
theorem op_flush {w:World}{B db sm n a:Nat}{K:Dk}{S:World→Prop}(h:DK w B db sm n K) (hok:K.ok=true) (hdo:∀w1,Tk w B db sm n K w1→Calls Tryz.prog 57 #[.pointer (some ⟨a,0,none⟩)] w1 fun e w'=>e=.returned (.int .u16 0)∧S w') :
  Calls Tryz.prog 56 #[.pointer (some ⟨db,0,none⟩),.pointer (some ⟨db,7,none⟩),.func (.func 57) #[] #[.pointer (some ⟨a,0,none⟩)]] w fun e w'=>e=.returned (.int .u16 0)∧S w':=by
 obtain⟨lv,cv,r1,r2,r3,k,ys,_,_,h3,_⟩:=h.cell
 obtain⟨hd,h0⟩:=tick_dark' hok
 have htr:=h.ok.trip
 have H:=Lib.hid h
 have Hdo:=Lib.hid hdo
 have H3:=Lib.hid h3
 have Hd:=Lib.hid hd
 rw [hd] at h3
 have c3:w.cell? ⟨db,3,none⟩=some (.bool false):=by rw [cell_of_heap h3];rfl
 have c4:w.cell? ⟨db,4,none⟩=some (.int .i64 K.trip):=by rw [cell_of_heap h3];rfl
 have c5:w.cell? ⟨db,7,none⟩=some (.int .i64 r3):=by rw [cell_of_heap h3];rfl
 have f5:w.frozen? ⟨db,7,none⟩=false:=by simp [World.frozen?,h3]
 have f4:w.frozen? ⟨db,4,none⟩=false:=by simp [World.frozen?,h3]
 by_cases hp:0<K.trip
 ·have ht:=tick_pos hd hp
  have HT:Hid (∀q:Int,Tk w B db sm n K ((w.setCell ⟨db,4,none⟩ (.int .i64 (K.trip-1))).setCell ⟨db,7,none⟩ (.int .i64 q))):=Lib.hid (fun q=>⟨H.out.cells (q1:=r1) (q2:=r2) (q3:=q) H3.out (set_twice w db _ _ _ _) (by rw [ht];simp [World.setCell,Array.getElem?_modify,H3.out]),set_twice w db _ _ _ _,((Fr.refl B TD [sm] w).cell (p:=⟨db,4,none⟩) H3.out h.bdb (.inr (by simp)) _).cell (p:=⟨db,7,none⟩) (cs:=#[lv,cv,.map (some sm),.bool K.dark,.int .i64 (K.trip-1),.int .i64 r1,.int .i64 r2,.int .i64 r3]) (ty:=61) (fr:=(0,0)) (by simp [World.setCell,Array.getElem?_modify,H3.out]) h.bdb (.inr (by simp)) _,by simp [World.setCell]⟩)
  generalize K.trip=t at *
  have e0:(t == 0)=false:=by simp;omega
  have e1:decide (0<t)=true:=by simp;omega
  have hw:IntKind.i64.wrap (t-1)=t-1:=by rw [IntKind.wrap_i64];omega
  have hw2:IntKind.i64.wrap (t+-1)=t-1:=by rw [IntKind.wrap_i64];omega
  clear h3 hdo h hd ht hok
  go_enter Tryz.func56,Tryz.ntmps56
  go_wp2_with (go_at_call 57;refine (Hdo.out _ (HT.out _)).mono ?_;rintro e w' ⟨rfl,hS⟩;have HS:=Lib.hid hS;clear hS)
  go_ret
  exact⟨rfl,HS.out⟩
 ·have ht:=tick_neg hd h0 hp
  have HT:Hid (∀q:Int,Tk w B db sm n K (w.setCell ⟨db,7,none⟩ (.int .i64 q))):=Lib.hid (fun q=>⟨H.out.cells (q1:=r1) (q2:=r2) (q3:=q) H3.out (fun x hx=>Below.heap_setCell _ _ _ _ hx) (by rw [ht];simp [World.setCell,Array.getElem?_modify,H3.out]),fun x hx=>Below.heap_setCell _ _ _ _ hx,(Fr.refl B TD [sm] w).cell (p:=⟨db,7,none⟩) H3.out h.bdb (.inr (by simp)) _,by simp [World.setCell]⟩)
  have e4:K.trip = -1:=by omega
  rw [e4] at c4
  clear h3 hdo h hd ht hok e4 h0 hp htr
  go_enter Tryz.func56,Tryz.ntmps56
  go_wp2_with (go_at_call 57;refine (Hdo.out _ (HT.out _)).mono ?_;rintro e w' ⟨rfl,hS⟩;have HS:=Lib.hid hS;clear hS)
  go_ret
  exact⟨rfl,HS.out⟩
set_option maxRecDepth 20000 in
set_option maxHeartbeats 1000000 in
theorem op_read {w:World}{B db sm n a b c:Nat}{K:Dk}{S:World→Prop}(h:DK w B db sm n K) (hok:K.ok=true) (hdo:∀w1,Tk w B db sm n K w1→Calls Tryz.prog 60 #[.pointer (some ⟨a,0,none⟩),.pointer (some ⟨b,0,none⟩),.pointer (some ⟨c,0,none⟩)] w1 fun e w'=>e=.returned (.int .u16 0)∧S w') :
  Calls Tryz.prog 56 #[.pointer (some ⟨db,0,none⟩),.pointer (some ⟨db,5,none⟩),.func (.func 60) #[] #[.pointer (some ⟨a,0,none⟩),.pointer (some ⟨b,0,none⟩),.pointer (some ⟨c,0,none⟩)]] w fun e w'=>e=.returned (.int .u16 0)∧S w':=by
 obtain⟨lv,cv,r1,r2,r3,k,ys,_,_,h3,_⟩:=h.cell
 obtain⟨hd,h0⟩:=tick_dark' hok
 have htr:=h.ok.trip
 have H:=Lib.hid h
 have Hdo:=Lib.hid hdo
 have H3:=Lib.hid h3
 have Hd:=Lib.hid hd
 rw [hd] at h3
 have c3:w.cell? ⟨db,3,none⟩=some (.bool false):=by rw [cell_of_heap h3];rfl
 have c4:w.cell? ⟨db,4,none⟩=some (.int .i64 K.trip):=by rw [cell_of_heap h3];rfl
 have c5:w.cell? ⟨db,5,none⟩=some (.int .i64 r1):=by rw [cell_of_heap h3];rfl
 have f5:w.frozen? ⟨db,5,none⟩=false:=by simp [World.frozen?,h3]
 have f4:w.frozen? ⟨db,4,none⟩=false:=by simp [World.frozen?,h3]
 by_cases hp:0<K.trip
 ·have ht:=tick_pos hd hp
  have HT:Hid (∀q:Int,Tk w B db sm n K ((w.setCell ⟨db,4,none⟩ (.int .i64 (K.trip-1))).setCell ⟨db,5,none⟩ (.int .i64 q))):=Lib.hid (fun q=>⟨H.out.cells (q1:=q) (q2:=r2) (q3:=r3) H3.out (set_twice w db _ _ _ _) (by rw [ht];simp [World.setCell,Array.getElem?_modify,H3.out]),set_twice w db _ _ _ _,((Fr.refl B TD [sm] w).cell (p:=⟨db,4,none⟩) H3.out h.bdb (.inr (by simp)) _).cell (p:=⟨db,5,none⟩) (cs:=#[lv,cv,.map (some sm),.bool K.dark,.int .i64 (K.trip-1),.int .i64 r1,.int .i64 r2,.int .i64 r3]) (ty:=61) (fr:=(0,0)) (by simp [World.setCell,Array.getElem?_modify,H3.out]) h.bdb (.inr (by simp)) _,by simp [World.setCell]⟩)
  generalize K.trip=t at *
  have e0:(t == 0)=false:=by simp;omega
  have e1:decide (0<t)=true:=by simp;omega
  have hw:IntKind.i64.wrap (t-1)=t-1:=by rw [IntKind.wrap_i64];omega
  have hw2:IntKind.i64.wrap (t+-1)=t-1:=by rw [IntKind.wrap_i64];omega
  clear h3 hdo h hd ht hok
  go_enter Tryz.func56,Tryz.ntmps56
  go_wp2_with (go_at_call 60;refine (Hdo.out _ (HT.out _)).mono ?_;rintro e w' ⟨rfl,hS⟩;have HS:=Lib.hid hS;clear hS)
  go_ret
  exact⟨rfl,HS.out⟩
 ·have ht:=tick_neg hd h0 hp
  have HT:Hid (∀q:Int,Tk w B db sm n K (w.setCell ⟨db,5,none⟩ (.int .i64 q))):=Lib.hid (fun q=>⟨H.out.cells (q1:=q) (q2:=r2) (q3:=r3) H3.out (fun x hx=>Below.heap_setCell _ _ _ _ hx) (by rw [ht];simp [World.setCell,Array.getElem?_modify,H3.out]),fun x hx=>Below.heap_setCell _ _ _ _ hx,(Fr.refl B TD [sm] w).cell (p:=⟨db,5,none⟩) H3.out h.bdb (.inr (by simp)) _,by simp [World.setCell]⟩)
  have e4:K.trip = -1:=by omega
  rw [e4] at c4
  clear h3 hdo h hd ht hok e4 h0 hp htr
  go_enter Tryz.func56,Tryz.ntmps56
  go_wp2_with (go_at_call 60;refine (Hdo.out _ (HT.out _)).mono ?_;rintro e w' ⟨rfl,hS⟩;have HS:=Lib.hid hS;clear hS)
  go_ret
  exact⟨rfl,HS.out⟩
set_option maxRecDepth 20000 in
set_option maxHeartbeats 1000000 in
theorem op_no {w:World}{B db sm n i:Nat}{K:Dk}{f:Value}(h:DK w B db sm n K) (hok:K.ok=false) :
  Calls Tryz.prog 56 #[.pointer (some ⟨db,0,none⟩),.pointer (some ⟨db,i,none⟩),f] w fun e w'=>e=.returned (.int .u16 4)∧Tk w B db sm n K w':=by
 obtain⟨lv,cv,r1,r2,r3,k,ys,_,_,h3,_⟩:=h.cell
 have H:=Lib.hid h
 have H3:=Lib.hid h3
 by_cases hd:K.dark=true
 ·have ht:=tick_was hd
  have HT:Hid (Tk w B db sm n K w):=Lib.hid ⟨by rw [ht];exact h,fun _ _=>rfl,Fr.refl _ _ _ _,rfl⟩
  rw [hd] at h3
  have c3:w.cell? ⟨db,3,none⟩=some (.bool true):=by rw [cell_of_heap h3];rfl
  clear h3 h ht hok hd
  go_enter Tryz.func56,Tryz.ntmps56
  go_wp2_with fail
  go_ret
  exact⟨rfl,HT.out⟩
 ·have hd:K.dark=false:=by simpa using hd
  have h0:K.trip=0:=by
   unfold Dk.ok at hok
   rw [hd] at hok
   simpa using hok
  have ht:=tick_zero hd h0
  have HT:Hid (Tk w B db sm n K ((w.setCell ⟨db,3,none⟩ (.bool true)).setCell ⟨db,4,none⟩ (.int .i64 (-1)))):=Lib.hid ⟨H.out.cells (q1:=r1) (q2:=r2) (q3:=r3) H3.out (set_twice w db _ _ _ _) (by rw [ht];simp [World.setCell,Array.getElem?_modify,H3.out]),set_twice w db _ _ _ _,((Fr.refl B TD [sm] w).cell (p:=⟨db,3,none⟩) H3.out h.bdb (.inr (by simp)) _).cell (p:=⟨db,4,none⟩) (cs:=#[lv,cv,.map (some sm),.bool true,.int .i64 K.trip,.int .i64 r1,.int .i64 r2,.int .i64 r3]) (ty:=61) (fr:=(0,0)) (by simp [World.setCell,Array.getElem?_modify,H3.out]) h.bdb (.inr (by simp)) _,by simp [World.setCell]⟩
  rw [hd,h0] at h3
  have c3:w.cell? ⟨db,3,none⟩=some (.bool false):=by rw [cell_of_heap h3];rfl
  have c4:w.cell? ⟨db,4,none⟩=some (.int .i64 0):=by rw [cell_of_heap h3];rfl
  have f3:w.frozen? ⟨db,3,none⟩=false:=by simp [World.frozen?,h3]
  have f4:w.frozen? ⟨db,4,none⟩=false:=by simp [World.frozen?,h3]
  clear h3 h ht hok hd h0
  go_enter Tryz.func56,Tryz.ntmps56
  go_wp2_with fail
  go_ret
  exact⟨rfl,HT.out⟩
end Go.Proofs.YtndjmffnlcilbaaGreatDoor
namespace Go.Proofs.YtndjmffnlcilbaaGreatDoor
open Go Go.RowKit Go.Ix Go.Ext Go.Maps
set_option maxRecDepth 20000 in
set_option maxHeartbeats 1000000 in
theorem dwrite_any {w:World}{B B' db sm n:Nat}{K:Dk}{bv:Value}{bs:List Nat}(at':Nat) (h:DK w B db sm n K) (hat:at'<n) (hn:n≤1000000) (ht:K.cac.length≤1000000) (hB:B≤w.heap.size) (hbs:RowB w B' bv bs 256) :
  Calls Tryz.prog 29 #[.pointer (some ⟨db,0,none⟩),.int .i64 at',bv] w fun e w'=>e=.returned (.int .u16 (codeOf K.ok:Nat))∧DK w' B db sm n (K.write at' bs)∧Fr B TD [sm] w w':=by
 obtain⟨bo,bc,rfl⟩:=hbs.shape
 obtain⟨X,hX⟩:∃X:World,X=(((w.alloc (.cells #[.pointer (some ⟨db,0,none⟩)] 25)).alloc (.cells #[.int .i64 at'] 3)).alloc (.cells #[.slice bo 256 bc] 34)):=⟨_,rfl⟩
 have HoX:Hid (Olds w X):=Lib.hid (by rw [hX];exact ((Olds.alloc _ _).trans (Olds.alloc _ _)).trans (Olds.alloc _ _))
 have HfX:Hid (Fr B TD [sm] w X):=Lib.hid (by rw [hX];exact (((Fr.refl _ _ _ _).alloc hB _).alloc (by simp;omega) _).alloc (by simp;omega) _)
 have hXs:X.heap.size=w.heap.size+1+1+1:=by rw [hX];simp
 have g1:X.heap[w.heap.size]?=some (.cells #[.pointer (some ⟨db,0,none⟩)] 25 (0,0)):=by
  rw [hX,Below.heap_alloc _ _ _ (by simp;omega),Below.heap_alloc _ _ _ (by simp)]
  exact heap_alloc_new _ _
 have g2:X.heap[w.heap.size+1]?=some (.cells #[.int .i64 at'] 3 (0,0)):=by
  rw [hX,Below.heap_alloc _ _ _ (by simp)]
  have:=heap_alloc_new (w.alloc (.cells #[.pointer (some ⟨db,0,none⟩)] 25)) (.cells #[.int .i64 (at':Nat)] 3)
  simpa using this
 have g3:X.heap[w.heap.size+1+1]?=some (.cells #[.slice bo 256 bc] 34 (0,0)):=by
  rw [hX]
  have:=heap_alloc_new ((w.alloc (.cells #[.pointer (some ⟨db,0,none⟩)] 25)).alloc (.cells #[.int .i64 (at':Nat)] 3)) (.cells #[.slice bo 256 bc] 34)
  simpa using this
 have HD:Hid (DK X.drew B db sm n K):=Lib.hid ((h.olds HoX.out).olds (Olds.drewN X 1))
 have hdlt:=h.lt
 have HW:Hid (Calls Tryz.prog 56 #[.pointer (some ⟨db,0,none⟩),.pointer (some ⟨db,6,none⟩),.func (.func 59) #[] #[.pointer (some ⟨w.heap.size+1,0,none⟩),.pointer (some ⟨w.heap.size,0,none⟩),.pointer (some ⟨w.heap.size+1+1,0,none⟩)]] X.drew fun e w'=>e=.returned (.int .u16 (codeOf K.ok:Nat))∧DK w' B db sm n (K.write at' bs)∧Fr B TD [sm] w w'):=Lib.hid (by
  by_cases hok:K.ok=true
  ·have hw:K.write at' bs=K.tick.add at' bs:=by unfold Dk.write Dk.add;rw [if_pos hok,tick_cac]
   rw [hok,hw]
   refine op_write (S:=fun w'=>DK w' B db sm n (K.tick.add at' bs)∧Fr B TD [sm] w w') HD.out hok fun w1 h1=>?_
   have hrow:RowB w1 B' (.slice bo 256 bc) bs 256:=by
    obtain⟨hb1,hb2,hb3⟩:=hbs.olds HoX.out
    refine⟨ownsRow_blocks hb1 fun g hg=>h1.ot g fun e=>?_,hb2,hb3⟩
    obtain⟨cur,hc⟩:=own_kind hb1 hg
    obtain⟨lv,cv,q1,q2,q3,k,ys,_,_,h3,_⟩:=HD.out.cell
    have h3':X.heap[db]?=_:=h3
    rw [e,h3'] at hc
    simp at hc
   exact (dwrite1_any at' h1.dk hat hn (by rw [tick_cac];exact ht) (by rw [h1.sz];show B≤X.heap.size;omega) ((h1.ot _ (by omega)).trans g2) ((h1.ot _ (by omega)).trans g1) ((h1.ot _ (by omega)).trans g3) hrow).mono fun e w' ⟨a,b,c⟩=>⟨a,b,(HfX.out.drew.trans h1.fr).trans c⟩
  ·have hok:K.ok=false:=by simpa using hok
   have hw:K.write at' bs=K.tick:=by unfold Dk.write;rw [if_neg (by rw [hok];decide)]
   rw [hok,hw]
   exact (op_no HD.out hok).mono fun e w' ⟨a,h1⟩=>⟨a,h1.dk,HfX.out.drew.trans h1.fr⟩)
 generalize (codeOf K.ok:Nat)=cd at *
 have hz1:X.drew.cell? ⟨w.heap.size,0,none⟩=some (.pointer (some ⟨db,0,none⟩)):=by
  have h9:X.drew.heap[w.heap.size]?=_:=g1
  rw [cell_of_heap h9];rfl
 have HXe:=Lib.hid hX
 clear g1 g2 g3 hX h hbs
 go_enter Tryz.func29,Tryz.ntmps29
 go_upto_region 1 with fail
 rw [← HXe.out]
 go_region_with (go_at_call 56;refine HW.out.mono ?_;clear HW;rintro e w' ⟨rfl,h1,h2⟩;have H1:=Lib.hid h1;have H2:=Lib.hid h2;clear h1 h2)
 all_goals go_wp2_with fail
 all_goals go_ret
 all_goals exact⟨rfl,H1.out,H2.out⟩
end Go.Proofs.YtndjmffnlcilbaaGreatDoor
