/- Contracts over this program. Their conditions: the slices read as the lists that are named, and lie within the sizes that are named. -/
import Derived.Test.YtndjmffnlcilbaaGreatDoorYk
import Derived.Deep.CutRange
import Derived.StillTailTactics
import Derived.Deep.RegionHeldLaw
import Derived.Test.YtndjmffnlcilbaaGreatDoorYf
set_option linter.unusedSimpArgs false
set_option linter.unusedVariables false
set_option linter.deprecated false
set_option linter.unnecessarySimpa false
namespace Go.Proofs.YtndjmffnlcilbaaGreatDoor
open Go Go.RowKit Go.Ix Go.Ext Go.Maps
theorem Tryz.info1:(Tryz.prog.info? 1).map (fun i=>(i.zero,i.size,i.bytes))=some (some .nilFunc,1,8):=by kernel_rfl
def StageEnd (w:World) (B db sm sb k D:Nat) (t:Dk) (tb tc nb xb slot gen:Nat) (dv:Value) (g:G) (s:Txt) (f:Fi) (e:Ending) (w':World):Prop :=
 e=.returned (.tuple #[])∧Kp B w w'∧∃uv',SIx w' B db sm sb (k+1) (D+fileLen (s,f)) t tb tc nb xb slot gen uv' dv { g with next:=(s,f) :: g.next,T:=fun a=>g.T a+1 * ((f.secs.count a:Nat):Int),undo:=g.undo++[(f.secs,-1)] }
set_option maxRecDepth 20000 in
set_option maxHeartbeats 4000000 in
theorem stage_any {w:World}{B db sm sb k D tb tc nb xb slot gen:Nat}{t:Dk}{uv dv v:Value}{g:G}{s:Txt}{f:Fi}(h:SIx w B db sm sb k D t tb tc nb xb slot gen uv dv g) (hB:B≤w.heap.size) (hk:k≤1000) (hs:s∉keys g.next) (hf:FileOk (s,f)) (hr:w.ownsRow B 3 1 v f.secs.length (nats f.secs)) (hv:v.ownBlock≠some tb) (hroom:Room g f.secs) (hlen:f.secs.length=need f.size) (hl2:f.secs.length≤1000) :
  Calls Tryz.prog 41 #[.pointer (some ⟨sb,0,none⟩),encStr s,fval f v] w (StageEnd w B db sm sb k D t tb tc nb xb slot gen dv g s f):=by
 obtain⟨fo,fc,rfl,_⟩:=ownsRow_shape hr
 obtain⟨k1,k2,⟨k3,k4⟩,k5,k6⟩:=hf
 simp only at k1 k2 k3 k4 k5 k6
 obtain⟨X,hX⟩:∃X:World,X=(w.alloc (.cells #[.pointer (some ⟨sb,0,none⟩)] 30)).alloc (.cells #[.bool f.log,.int .i64 (f.size:Nat),.int .u32 f.sum,.slice fo f.secs.length fc] 91):=⟨_,rfl⟩
 have hXs:X.heap.size=w.heap.size+2:=by rw [hX];simp
 have hXo:Olds w X:=by rw [hX];exact (Olds.alloc _ _).trans (Olds.alloc _ _)
 have hXb:Below w.heap.size w X:=by rw [hX];exact ((Below.refl _ _).alloc (Nat.le_refl _) _).alloc (by simp) _
 have hb1:X.heap[w.heap.size]?=some (.cells #[.pointer (some ⟨sb,0,none⟩)] 30 (0,0)):=by
  rw [hX]
  exact (Below.heap_alloc _ _ _ (by simp)).trans (heap_alloc_new _ _)
 have hb2:X.heap[w.heap.size+1]?=some (.cells #[.bool f.log,.int .i64 (f.size:Nat),.int .u32 f.sum,.slice fo f.secs.length fc] 91 (0,0)):=by
  rw [hX]
  have:=heap_alloc_new (w.alloc (.cells #[.pointer (some ⟨sb,0,none⟩)] 30)) (.cells #[.bool f.log,.int .i64 (f.size:Nat),.int .u32 f.sum,.slice fo f.secs.length fc] 91)
  simpa using this
 have hXc:=(hXo.2 _ (heap_lt h.cell)).trans h.cell
 have HSX:=Lib.hid (h.rest.olds hXo)
 have HX:=Lib.hid hX
 have HXo:=Lib.hid hXo
 have HXb:=Lib.hid hXb
 have HXc:=Lib.hid hXc
 have Hb1:=Lib.hid hb1
 have Hb2:=Lib.hid hb2
 have H:=Lib.hid h
 have Hr:=Lib.hid hr
 have Hroom:=Lib.hid hroom
 have hnk:=h.rest.bnb
 have Hlen:=Lib.hid hlen
 clear hX hXo hXb hXc hb1 hb2 h hroom hr hlen
 unfold fval
 go_enter Tryz.func41,Tryz.ntmps41
 go_upto_region 1 with fail
 rw [← HX.out]
 obtain⟨w2,hup,hm2,hg2⟩:=SMap.store (w:=X.drew) (s:=s) (f:=f) (v:=.slice fo f.secs.length fc) (HSX.out.next.olds (W:=X.drew) (Olds.drewN X 1)) (by omega) (by omega) hs (ownsRow_olds Hr.out (HXo.out.trans (Olds.drewN X 1))) hv
 unfold fval at hup
 have hS0:X.drew.cell? ⟨w.heap.size,0,none⟩=some (.pointer (some ⟨sb,0,none⟩))∧X.drew.cell? ⟨sb,4,none⟩=some (.map (some xb))∧X.drew.cell? ⟨w.heap.size+1,0,none⟩=some (.bool f.log)∧X.drew.cell? ⟨w.heap.size+1,1,none⟩=some (.int .i64 (f.size:Nat))∧X.drew.cell? ⟨w.heap.size+1,2,none⟩=some (.int .u32 f.sum)∧X.drew.cell? ⟨w.heap.size+1,3,none⟩=some (.slice fo f.secs.length fc):=by
  have e1:X.drew.heap=X.heap:=rfl
  refine⟨?_,?_,?_,?_,?_,?_⟩
  ·rw [cell_of_heap (e1 ▸ Hb1.out)];rfl
  ·rw [cell_of_heap (e1 ▸ HXc.out)];rfl
  all_goals (rw [cell_of_heap (e1 ▸ Hb2.out)];rfl)
 have HS0:=Lib.hid hS0
 obtain⟨es,cm,hkm⟩:=HSX.out.next.kind
 have hS2:w2.cell? ⟨w.heap.size,0,none⟩=some (.pointer (some ⟨sb,0,none⟩))∧w2.cell? ⟨sb,4,none⟩=some (.map (some xb))∧w2.cell? ⟨w.heap.size+1,0,none⟩=some (.bool f.log)∧w2.cell? ⟨w.heap.size+1,1,none⟩=some (.int .i64 (f.size:Nat))∧w2.cell? ⟨w.heap.size+1,2,none⟩=some (.int .u32 f.sum)∧w2.cell? ⟨w.heap.size+1,3,none⟩=some (.slice fo f.secs.length fc):=by
  have hc2:∀{b j:Nat}{v:Value},X.drew.cell? ⟨b,j,none⟩=some v→w2.cell? ⟨b,j,none⟩=some v:=fun {b j v} hc=>(World.cell?_of_block (w:=X.drew) (w':=w2) (hg2.block b (cell_lt hc) (fun e=>cell_not_map hc (m:=xb) hkm (by cases e;rfl)))).trans hc
  obtain⟨a1,a2,a3,a4,a5,a6⟩:=hS0
  exact⟨hc2 a1,hc2 a2,hc2 a3,hc2 a4,hc2 a5,hc2 a6⟩
 have HS2:=Lib.hid hS2
 have Hm2:=Lib.hid hm2
 have Hg2:=Lib.hid hg2
 clear hS0 hS2 hm2 hg2 hkm
 refine wp_region_held_drew (S:=(fun W'=>W'.cell? ⟨w.heap.size,0,none⟩=some (.pointer (some ⟨sb,0,none⟩))∧W'.cell? ⟨sb,4,none⟩=some (.map (some xb))∧W'.cell? ⟨w.heap.size+1,0,none⟩=some (.bool f.log)∧W'.cell? ⟨w.heap.size+1,1,none⟩=some (.int .i64 (f.size:Nat))∧W'.cell? ⟨w.heap.size+1,2,none⟩=some (.int .u32 f.sum)∧W'.cell? ⟨w.heap.size+1,3,none⟩=some (.slice fo f.secs.length fc))) (by kernel_rfl) HS0.out (fun hHeld=>?_)
 refine wpAnyH_take (i:=0) (v:=?v0) rfl (by kernel_rfl) (by kernel_rfl) (by kernel_rfl) (fun _ _ _ h=>h) (Or.inl ⟨by rfl,?h0⟩) hHeld ?r0
 case h0 =>
  rintro W ⟨s1,s2,s3,s4,s5,s6⟩
  go_simp
  all_goals with_reducible rfl
 try simp only [Act.put,List.setIfInBounds_toArray,List.set_cons_zero,List.set_cons_succ]
 refine wpAnyH_take (i:=1) (v:=?v1) rfl (by kernel_rfl) (by kernel_rfl) (by kernel_rfl) (fun _ _ _ h=>h) (Or.inl ⟨by rfl,?h1⟩) hHeld ?r1
 case h1 =>
  rintro W ⟨s1,s2,s3,s4,s5,s6⟩
  go_simp
  all_goals with_reducible rfl
 try simp only [Act.put,List.setIfInBounds_toArray,List.set_cons_zero,List.set_cons_succ]
 refine wpAnyH_take (i:=2) (v:=?v2) rfl (by kernel_rfl) (by kernel_rfl) (by kernel_rfl) (fun _ _ _ h=>h) (Or.inl ⟨by rfl,?h2⟩) hHeld ?r2
 case h2 =>
  rintro W ⟨s1,s2,s3,s4,s5,s6⟩
  go_simp
  all_goals with_reducible rfl
 try simp only [Act.put,List.setIfInBounds_toArray,List.set_cons_zero,List.set_cons_succ]
 refine wpAnyH_take (i:=3) (v:=?v3) rfl (by kernel_rfl) (by kernel_rfl) (by kernel_rfl) (fun _ _ _ h=>h) (Or.inl ⟨by rfl,?h3⟩) hHeld ?r3
 case h3 =>
  rintro W ⟨s1,s2,s3,s4,s5,s6⟩
  go_simp
  all_goals with_reducible rfl
 try simp only [Act.put,List.setIfInBounds_toArray,List.set_cons_zero,List.set_cons_succ]
 refine wpAnyH_take (i:=4) (v:=?v4) rfl (by kernel_rfl) (by kernel_rfl) (by kernel_rfl) (fun _ _ _ h=>h) (Or.inl ⟨by rfl,?h4⟩) hHeld ?r4
 case h4 =>
  rintro W ⟨s1,s2,s3,s4,s5,s6⟩
  go_simp
  all_goals with_reducible rfl
 try simp only [Act.put,List.setIfInBounds_toArray,List.set_cons_zero,List.set_cons_succ]
 refine wpAnyH_take (i:=5) (v:=?v5) rfl (by kernel_rfl) (by kernel_rfl) (by kernel_rfl) (fun _ _ _ h=>h) (Or.inl ⟨by rfl,?h5⟩) hHeld ?r5
 case h5 =>
  rintro W ⟨s1,s2,s3,s4,s5,s6⟩
  go_simp
  all_goals with_reducible rfl
 try simp only [Act.put,List.setIfInBounds_toArray,List.set_cons_zero,List.set_cons_succ]
 refine wpAnyH_ready (rs:=[6]) (by kernel_rfl) (by simp) (AllReadyH.cons rfl (fun K hK=>?_) AllReadyH.nil)
 go_simp
 refine hK.out _ _ HS2.out (fun hHeld2=>?_)
 clear hK K
 try simp only [Act.put,List.setIfInBounds_toArray,List.set_cons_zero,List.set_cons_succ]
 refine wpAnyH_done (by kernel_rfl) ?_ _
 have hW2:∀{b:Nat}{cs:Array Value}{ty:TypeId}{fr:Nat×Nat},X.heap[b]?=some (.cells cs ty fr)→w2.heap[b]?=some (.cells cs ty fr):=fun {b cs ty fr} hb=>by
  obtain⟨es,cm,hkm⟩:=HSX.out.next.kind
  exact (Hg2.out.block b (heap_lt hb) (fun e=>by cases e;rw [hkm] at hb;cases hb)).trans hb
 have HS2r:=Lib.hid ((HSX.out.olds (W:=X.drew) (Olds.drewN X 1)).put Hg2.out Hm2.out (Nat.le_succ _) (fun p hp=>by
  rcases List.mem_cons.1 hp with rfl | hp
  ·exact⟨k1,k2,⟨k3,k4⟩,k5,k6⟩
  ·exact H.out.rest.fokx p hp))
 have Hc2:=Lib.hid (hW2 HXc.out)
 have Hb12:=Lib.hid (hW2 Hb1.out)
 have Hb22:=Lib.hid (hW2 Hb2.out)
 have HTb:Hid (∀a,0≤g.T a∧g.T a≤1):=Lib.hid (fun a=>⟨H.out.inv.nonneg a,H.out.inv.B a⟩)
 have hr2:w2.ownsRow B 3 1 (.slice fo f.secs.length fc) f.secs.length (nats f.secs):=row_kept (ts:=[3]) (ownsRow_olds Hr.out HXo.out) (by simp) hv (fun b cs ty fr _ _ hb=>hW2 hb)
 have HH:=Lib.hid (hold_any (w:=w2) (B:=B) (B':=B) f.secs 1 (.inl rfl) Hc2.out rfl HS2r.out.taken (fun a=>by have h9:0≤g.T a∧g.T a≤1:=HTb.out a;show -1000000000≤g.T a∧g.T a≤1000000000;omega) hr2 hv (fun a ha=>(Hroom.out.2 a ha).1.2) rfl (by omega) (by have:=H.out.inv.hi;omega))
 have Hr2:=Lib.hid hr2
 have Hin:=Lib.hid (show g.n≤62 from H.out.inv.hi)
 clear hup hW2 hr2
 obtain⟨q1,q2,q3,q4,q5,q6⟩:=HS2.out
 go_upto_region 3 with (go_at_call 44;refine HH.out.mono ?_;clear HH;rintro e w3 ⟨rfl,hT3,ho3⟩;have HT3:=Lib.hid hT3;have Ho3:=Lib.hid ho3;clear hT3 ho3)
 have HS3:=Lib.hid (HS2r.out.on Ho3.out HT3.out)
 have hne3:∀{b:Nat}{cs:Array Value}{ty:TypeId}{fr:Nat×Nat},w2.heap[b]?=some (.cells cs ty fr)→ty≠3→w3.heap[b]?=some (.cells cs ty fr):=fun {b cs ty fr} hb hne=>(Ho3.out.block b (ne_taken HS2r.out.taken hb hne)).trans hb
 have Hc3:=Lib.hid (hne3 Hc2.out (by decide))
 have Hb13:=Lib.hid (hne3 Hb12.out (by decide))
 have Hb23:=Lib.hid (hne3 Hb22.out (by decide))
 have Hr3:=Lib.hid (Ho3.out.row Hr2.out hv)
 clear hne3 q1 q2 q3 q4 q5 q6
 obtain⟨us,hu⟩:=HS3.out.undo
 obtain⟨uo,uc,rfl,_⟩:=ownsRow_shape hu.1
 have Hu:=Lib.hid hu
 clear hu
 have Huk:=Lib.hid H.out.hu
 obtain⟨un,hun⟩:∃un,un=g.undo.length:=⟨_,rfl⟩
 have Hun:=Lib.hid hun
 have hunk:un≤1000:=by have:=Huk.out;omega
 rw [← hun] at Hc3
 obtain⟨V,hV⟩:∃V:World,V=(w3.alloc (.cells #[(Value.func (.func 72) #[] #[.pointer (some ⟨w.heap.size,0,none⟩),.pointer (some ⟨w.heap.size+1,0,none⟩)])] 1)).drew:=⟨_,rfl⟩
 have hVo:Olds w3 V:=by rw [hV];exact (Olds.alloc w3 _).trans (Olds.drewN _ 1)
 have HVo:=Lib.hid hVo
 have HUV:Hid (V.ownsRow B 1 1 (.slice uo un uc) un us):=Lib.hid (by have h9:=ownsRow_olds Hu.out.1 hVo;rw [← hun] at h9;exact h9)
 have HSV:=Lib.hid (HS3.out.olds hVo)
 have HbV:Hid (V.heap[w.heap.size]?=_∧V.heap[w.heap.size+1]?=_∧V.heap[sb]?=_):=Lib.hid ⟨(hVo.2 _ (heap_lt Hb13.out)).trans Hb13.out,(hVo.2 _ (heap_lt Hb23.out)).trans Hb23.out,(hVo.2 _ (heap_lt Hc3.out)).trans Hc3.out⟩
 have hVs:V.heap.size=w3.heap.size+1:=by rw [hV];exact World.size_alloc _ _
 have HKV:Hid (∀w5:World,V.grownBy w5 (Value.slice uo un uc).ownBlock→w5.heap[w.heap.size]?=V.heap[w.heap.size]?∧w5.heap[w.heap.size+1]?=V.heap[w.heap.size+1]?∧w5.heap[sb]?=V.heap[sb]?):=Lib.hid (fun w5 hg5=>by
  have hk:∀{b:Nat}{cs:Array Value}{ty:TypeId}{fr:Nat×Nat},V.heap[b]?=some (.cells cs ty fr)→ty≠1→w5.heap[b]?=V.heap[b]?:=fun {b cs ty fr} hb hne=>hg5.block b (heap_lt hb) (fun e=>by
   obtain⟨cur,hc⟩:=own_kind HUV.out e.symm
   rw [hc] at hb
   simp only [Option.some.injEq,Obj.cells.injEq] at hb
   exact hne hb.2.1.symm)
  exact⟨hk HbV.out.1 (by decide),hk HbV.out.2.1 (by decide),hk HbV.out.2.2 (by decide)⟩)
 have hs3:w3.cell? ⟨w.heap.size,0,none⟩=some (.pointer (some ⟨sb,0,none⟩)):=by rw [cell_of_heap Hb13.out];rfl
 have hc35:w3.drew.cell? ⟨sb,5,none⟩=some (.slice uo un uc):=by rw [cell_of_heap (show w3.drew.heap[sb]?=_ from Hc3.out)];rfl
 have hcV5:V.cell? ⟨sb,5,none⟩=some (.slice uo un uc):=by rw [cell_of_heap HbV.out.2.2];rfl
 have hsV:V.cell? ⟨w.heap.size,0,none⟩=some (.pointer (some ⟨sb,0,none⟩)):=by rw [cell_of_heap HbV.out.1];rfl
 have HV:=Lib.hid hV
 obtain⟨i1,hi1,hz1,hy1,hx1⟩:=info_parts Tryz.info1
 have hbV:V.heap[w3.heap.size]?=some (.cells #[(Value.func (.func 72) #[] #[.pointer (some ⟨w.heap.size,0,none⟩),.pointer (some ⟨w.heap.size+1,0,none⟩)])] 1 (0,0)):=by
  rw [hV]
  have:=heap_alloc_new w3 (.cells #[(Value.func (.func 72) #[] #[.pointer (some ⟨w.heap.size,0,none⟩),.pointer (some ⟨w.heap.size+1,0,none⟩)])] 1)
  exact this
 have HbVn:=Lib.hid hbV
 have hfv1:∀u∈[(Value.func (.func 72) #[] #[.pointer (some ⟨w.heap.size,0,none⟩),.pointer (some ⟨w.heap.size+1,0,none⟩)])],u.oneCell'=true:=by
  intro u hu
  have:u=(Value.func (.func 72) #[] #[.pointer (some ⟨w.heap.size,0,none⟩),.pointer (some ⟨w.heap.size+1,0,none⟩)]):=by simpa using hu
  rw [this]
  rfl
 have hB3:B≤w3.heap.size:=by have:=Ho3.out.size;have:=Hg2.out.size;have:X.drew.heap.size=X.heap.size:=rfl;omega
 have hBV:B≤V.heap.size:=by have:=Ho3.out.size;have:=Hg2.out.size;have:X.drew.heap.size=X.heap.size:=rfl;omega
 have Hne:Hid (w.heap.size≠sb):=Lib.hid (fun e=>by have:=heap_lt H.out.cell;omega)
 have HF:Hid (Fr B [1,69] [xb,tb] w V):=Lib.hid (by
  rw [HV.out]
  exact (((((Fr.of_below HXb.out hB _ _).drew.map (by show B≤X.heap.size;omega) Hg2.out (by simp) H.out.rest.bxb).trans ((Ho3.out.fr H.out.rest.btb []).mono (Nat.le_refl _) (by simp) (by simp))).alloc (by omega) _).drew))
 clear hV hVo hbV hun
 refine wp_region_held_drew (S:=(fun W'=>W'.cell? ⟨w.heap.size,0,none⟩=some (.pointer (some ⟨sb,0,none⟩)))) (by kernel_rfl) (show w3.drew.cell? ⟨w.heap.size,0,none⟩=_ from hs3) (fun hHeld=>?_)
 refine wpAnyH_take (i:=0) (v:=?v0b) rfl (by kernel_rfl) (by kernel_rfl) (by kernel_rfl) (fun _ _ _ h=>h) (Or.inl ⟨by rfl,?h0b⟩) hHeld ?r0b
 case h0b =>
  rintro W s1
  go_simp
  all_goals with_reducible rfl
 try simp only [Act.put,List.setIfInBounds_toArray,List.set_cons_zero,List.set_cons_succ]
 refine wpAnyH_take (i:=1) (v:=?v1b) rfl (by kernel_rfl) (by kernel_rfl) (by kernel_rfl) (fun _ _ _ h=>h) (Or.inl ⟨by rfl,?h1b⟩) hHeld ?r1b
 case h1b =>
  rintro W s1
  go_simp
  all_goals with_reducible rfl
 try simp only [Act.put,List.setIfInBounds_toArray,List.set_cons_zero,List.set_cons_succ]
 refine wpAnyH_take (i:=2) (v:=?v2b) rfl (by kernel_rfl) (by kernel_rfl) (by kernel_rfl) (fun _ _ _ h=>h) (Or.inl ⟨by rfl,?h2b⟩) hHeld ?r2b
 case h2b =>
  rintro W s1
  go_simp
  all_goals with_reducible rfl
 try simp only [Act.put,List.setIfInBounds_toArray,List.set_cons_zero,List.set_cons_succ]
 refine wpAnyH_take (i:=3) (v:=?v3b) rfl (by kernel_rfl) (by kernel_rfl) (by kernel_rfl) (fun _ _ _ h=>h) (Or.inl ⟨by rfl,?h3b⟩) hHeld ?r3b
 case h3b =>
  rintro W s1
  go_simp
  all_goals with_reducible rfl
 try simp only [Act.put,List.setIfInBounds_toArray,List.set_cons_zero,List.set_cons_succ]
 refine wpAnyH_take (i:=5) (v:=?v5b) rfl (by kernel_rfl) (by kernel_rfl) (by kernel_rfl) (fun _ _ _ h=>h) (Or.inl ⟨by rfl,?h5b⟩) hHeld ?r5b
 case h5b =>
  rintro W s1
  go_simp
  all_goals with_reducible rfl
 try simp only [Act.put,List.setIfInBounds_toArray,List.set_cons_zero,List.set_cons_succ]
 refine wpAnyH_ready (rs:=[4,6]) (by kernel_rfl) (by simp) (AllReadyH.cons rfl (fun K hK=>?_) (AllReadyH.cons rfl (fun K hK=>?_) AllReadyH.nil))
 ·go_simp
  refine hK.out _ _ hHeld (fun hHeld2=>?_)
  clear hK K
  try simp only [Act.put,List.setIfInBounds_toArray,List.set_cons_zero,List.set_cons_succ]
  refine wpAnyH_ready (rs:=[6]) (by kernel_rfl) (by simp) (AllReadyH.cons rfl (fun K hK=>?_) AllReadyH.nil)
  go_simp
  rw [← HV.out]
  refine hK.out _ _ hsV (fun hHeld2=>?_)
  clear hK K
  try simp only [Act.put,List.setIfInBounds_toArray,List.set_cons_zero,List.set_cons_succ]
  refine wpAnyH_ready (rs:=[7]) (by kernel_rfl) (by simp) (AllReadyH.cons rfl (fun K hK=>?_) AllReadyH.nil)
  refine step_append_lies _ (by rfl) _ _ _ (by rfl) B 1 i1 _ 1 8 Tryz.underlying67 hi1 hz1 hy1 hx1 rfl (by decide) (.slice uo un uc) un us (by go_simp) HUV.out ⟨w3.heap.size,0,none⟩ 1 1 [(Value.func (.func 72) #[] #[.pointer (some ⟨w.heap.size,0,none⟩),.pointer (some ⟨w.heap.size+1,0,none⟩)])] (by go_simp) rfl (World.news_of_block (cs:=#[(Value.func (.func 72) #[] #[.pointer (some ⟨w.heap.size,0,none⟩),.pointer (some ⟨w.heap.size+1,0,none⟩)])]) (t:=1) (fr:=(0,0)) HbVn.out) hfv1 Nat.one_pos (by unfold maxLen;omega) (by omega) hBV (w3.heap.size+1) hVs ?_
  intro gg cap2 w5 hown5 hgrow5 hat5 hlt5
  obtain⟨p1,p2,p3⟩:=HKV.out w5 hgrow5
  have h55:w5.heap[sb]?=_:=p3.trans HbV.out.2.2
  have hs5:w5.cell? ⟨w.heap.size,0,none⟩=some (.pointer (some ⟨sb,0,none⟩)):=by rw [cell_of_heap (p1.trans HbV.out.1)];rfl
  have hf5:w5.frozen? ⟨sb,5,none⟩=false:=by simp [World.frozen?,h55]
  have Hown5:=Lib.hid hown5
  have Hgrow5:=Lib.hid hgrow5
  have H55:=Lib.hid h55
  clear hown5 hgrow5
  have hc55:w5.cell? ⟨sb,5,none⟩=some (.slice uo un uc):=by rw [cell_of_heap h55];rfl
  refine hK.out _ _ hs5 (fun hHeld2=>?_)
  clear hK K
  try simp only [Act.put,List.setIfInBounds_toArray,List.set_cons_zero,List.set_cons_succ]
  refine wpAnyH_take (i:=8) (v:=?v8c4) rfl (by kernel_rfl) (by kernel_rfl) (by kernel_rfl) (fun _ _ _ h=>h) (Or.inl ⟨by rfl,?h8c4⟩) hs5 ?r8c4
  case h8c4 =>
   rintro W s1
   go_simp
   all_goals with_reducible rfl
  try simp only [Act.put,List.setIfInBounds_toArray,List.set_cons_zero,List.set_cons_succ]
  refine wpAnyH_take (i:=9) (v:=?v9c4) rfl (by kernel_rfl) (by kernel_rfl) (by kernel_rfl) (fun _ _ _ h=>h) (Or.inl ⟨by rfl,?h9c4⟩) hs5 ?r9c4
  case h9c4 =>
   rintro W s1
   go_simp
   all_goals with_reducible rfl
  try simp only [Act.put,List.setIfInBounds_toArray,List.set_cons_zero,List.set_cons_succ]
  refine wpAnyH_ready (rs:=[10]) (by kernel_rfl) (by simp) (AllReadyH.cons rfl (fun K hK=>?_) AllReadyH.nil)
  go_simp
  refine hK.out _ _ ?_ (fun hHeld2=>?_)
  ·rw [World.cell?_of_block (w:=w5) (Below.heap_setCell _ _ _ _ Hne.out)];exact hs5
  clear hK K
  refine wpAnyH_done (by kernel_rfl) ?_ _
  try simp only [Act.put,List.setIfInBounds_toArray,List.set_cons_zero,List.set_cons_succ]
  go_wp2_with fail
  go_end0
  have hZ:Fr B [1,69] [xb,tb] w (w5.setCell ⟨sb,5,none⟩ (.slice (some ⟨gg,0,none⟩) (un+1) cap2)):=(HF.out.row hBV HUV.out (by simp) Hgrow5.out).cell (p:=⟨sb,5,none⟩) H55.out H.out.bsb (.inr (by simp)) _
  have hUV:=UndoRow.olds HS3.out.taken Hu.out HVo.out
  have hg5:=Hgrow5.out
  rw [Hun.out] at hg5
  have hcg:=cells_grown hUV hg5
  have hclo:Clo w5 B sb tb g.n (Value.func (.func 72) #[] #[.pointer (some ⟨w.heap.size,0,none⟩),.pointer (some ⟨w.heap.size+1,0,none⟩)]) (f.secs,-1):=⟨fun a ha=>(Hroom.out.2 a ha).1.2,hl2,w.heap.size,w.heap.size+1,f.log,f.size,f.sum,_,.inl ⟨rfl,rfl⟩,p1.trans HbV.out.1,p2.trans HbV.out.2.1,row_kept (ownsRow_olds Hr3.out HVo.out) (by simp) hv hcg,hv⟩
  have hund:UndoAt w5 B sb tb g.n (.slice (some ⟨gg,0,none⟩) (un+1) cap2) (g.undo++[(f.secs,-1)]):=UndoRow.push HSV.out.taken hUV hcg (by have h9:=Hown5.out;rw [Hun.out] at h9;rw [Hun.out];exact h9) hclo
  have hR5:=(HSV.out.push (W:=w5) hg5 hund).but H55.out (by decide) (fun b hb=>Below.heap_setCell w5 ⟨sb,5,none⟩ (.slice (some ⟨gg,0,none⟩) (un+1) cap2) b hb)
  have hcell:SCell (w5.setCell ⟨sb,5,none⟩ (.slice (some ⟨gg,0,none⟩) (un+1) cap2)) sb db tb tc nb xb g.n slot gen (.slice (some ⟨gg,0,none⟩) (un+1) cap2) dv:=heap_setCell_same w5 sb 5 _ _ _ H55.out
  have hmk:=fun (bad:List Nat) (hb:3∉bad)=>(H.out.rest.marks hb).sub (M':=[xb,tb]) (by simp)
  refine⟨rfl,Kp.fr hZ (by decide) (hmk _ (by decide)),_,⟨H.out.bsb,hcell,hR5,H.out.di.fr hZ (by decide) ?_ (hmk _ (by decide)),by have:=H.out.ht;omega,H.out.hslot,by have:=H.out.hgen;omega,?_,Nat.le_trans H.out.hd (Nat.le_add_right _ _),?_,H.out.smn,H.out.smx,H.out.inv.stage hs Hroom.out Hlen.out k2⟩⟩
  ·simp only [List.mem_cons,List.not_mem_nil,or_false,not_or]
   exact⟨H.out.smx,H.out.smtb⟩
  ·have:=H.out.hu
   simp
   omega
  ·have h9:=H.out.hdx
   unfold dirLen at h9 ⊢
   simp only [List.map_cons,List.sum_cons]
   omega
 ·go_simp
  rw [← HV.out]
  refine hK.out _ _ hsV (fun hHeld2=>?_)
  clear hK K
  try simp only [Act.put,List.setIfInBounds_toArray,List.set_cons_zero,List.set_cons_succ]
  refine wpAnyH_ready (rs:=[4]) (by kernel_rfl) (by simp) (AllReadyH.cons rfl (fun K hK=>?_) AllReadyH.nil)
  go_simp
  refine hK.out _ _ hsV (fun hHeld2=>?_)
  clear hK K
  try simp only [Act.put,List.setIfInBounds_toArray,List.set_cons_zero,List.set_cons_succ]
  refine wpAnyH_ready (rs:=[7]) (by kernel_rfl) (by simp) (AllReadyH.cons rfl (fun K hK=>?_) AllReadyH.nil)
  refine step_append_lies _ (by rfl) _ _ _ (by rfl) B 1 i1 _ 1 8 Tryz.underlying67 hi1 hz1 hy1 hx1 rfl (by decide) (.slice uo un uc) un us (by go_simp) HUV.out ⟨w3.heap.size,0,none⟩ 1 1 [(Value.func (.func 72) #[] #[.pointer (some ⟨w.heap.size,0,none⟩),.pointer (some ⟨w.heap.size+1,0,none⟩)])] (by go_simp) rfl (World.news_of_block (cs:=#[(Value.func (.func 72) #[] #[.pointer (some ⟨w.heap.size,0,none⟩),.pointer (some ⟨w.heap.size+1,0,none⟩)])]) (t:=1) (fr:=(0,0)) HbVn.out) hfv1 Nat.one_pos (by unfold maxLen;omega) (by omega) hBV (w3.heap.size+1) hVs ?_
  intro gg cap2 w5 hown5 hgrow5 hat5 hlt5
  obtain⟨p1,p2,p3⟩:=HKV.out w5 hgrow5
  have h55:w5.heap[sb]?=_:=p3.trans HbV.out.2.2
  have hs5:w5.cell? ⟨w.heap.size,0,none⟩=some (.pointer (some ⟨sb,0,none⟩)):=by rw [cell_of_heap (p1.trans HbV.out.1)];rfl
  have hf5:w5.frozen? ⟨sb,5,none⟩=false:=by simp [World.frozen?,h55]
  have Hown5:=Lib.hid hown5
  have Hgrow5:=Lib.hid hgrow5
  have H55:=Lib.hid h55
  clear hown5 hgrow5
  have hc55:w5.cell? ⟨sb,5,none⟩=some (.slice uo un uc):=by rw [cell_of_heap h55];rfl
  refine hK.out _ _ hs5 (fun hHeld2=>?_)
  clear hK K
  try simp only [Act.put,List.setIfInBounds_toArray,List.set_cons_zero,List.set_cons_succ]
  refine wpAnyH_take (i:=8) (v:=?v8c6) rfl (by kernel_rfl) (by kernel_rfl) (by kernel_rfl) (fun _ _ _ h=>h) (Or.inl ⟨by rfl,?h8c6⟩) hs5 ?r8c6
  case h8c6 =>
   rintro W s1
   go_simp
   all_goals with_reducible rfl
  try simp only [Act.put,List.setIfInBounds_toArray,List.set_cons_zero,List.set_cons_succ]
  refine wpAnyH_take (i:=9) (v:=?v9c6) rfl (by kernel_rfl) (by kernel_rfl) (by kernel_rfl) (fun _ _ _ h=>h) (Or.inl ⟨by rfl,?h9c6⟩) hs5 ?r9c6
  case h9c6 =>
   rintro W s1
   go_simp
   all_goals with_reducible rfl
  try simp only [Act.put,List.setIfInBounds_toArray,List.set_cons_zero,List.set_cons_succ]
  refine wpAnyH_ready (rs:=[10]) (by kernel_rfl) (by simp) (AllReadyH.cons rfl (fun K hK=>?_) AllReadyH.nil)
  go_simp
  refine hK.out _ _ ?_ (fun hHeld2=>?_)
  ·rw [World.cell?_of_block (w:=w5) (Below.heap_setCell _ _ _ _ Hne.out)];exact hs5
  clear hK K
  refine wpAnyH_done (by kernel_rfl) ?_ _
  try simp only [Act.put,List.setIfInBounds_toArray,List.set_cons_zero,List.set_cons_succ]
  go_wp2_with fail
  go_end0
  have hZ:Fr B [1,69] [xb,tb] w (w5.setCell ⟨sb,5,none⟩ (.slice (some ⟨gg,0,none⟩) (un+1) cap2)):=(HF.out.row hBV HUV.out (by simp) Hgrow5.out).cell (p:=⟨sb,5,none⟩) H55.out H.out.bsb (.inr (by simp)) _
  have hUV:=UndoRow.olds HS3.out.taken Hu.out HVo.out
  have hg5:=Hgrow5.out
  rw [Hun.out] at hg5
  have hcg:=cells_grown hUV hg5
  have hclo:Clo w5 B sb tb g.n (Value.func (.func 72) #[] #[.pointer (some ⟨w.heap.size,0,none⟩),.pointer (some ⟨w.heap.size+1,0,none⟩)]) (f.secs,-1):=⟨fun a ha=>(Hroom.out.2 a ha).1.2,hl2,w.heap.size,w.heap.size+1,f.log,f.size,f.sum,_,.inl ⟨rfl,rfl⟩,p1.trans HbV.out.1,p2.trans HbV.out.2.1,row_kept (ownsRow_olds Hr3.out HVo.out) (by simp) hv hcg,hv⟩
  have hund:UndoAt w5 B sb tb g.n (.slice (some ⟨gg,0,none⟩) (un+1) cap2) (g.undo++[(f.secs,-1)]):=UndoRow.push HSV.out.taken hUV hcg (by have h9:=Hown5.out;rw [Hun.out] at h9;rw [Hun.out];exact h9) hclo
  have hR5:=(HSV.out.push (W:=w5) hg5 hund).but H55.out (by decide) (fun b hb=>Below.heap_setCell w5 ⟨sb,5,none⟩ (.slice (some ⟨gg,0,none⟩) (un+1) cap2) b hb)
  have hcell:SCell (w5.setCell ⟨sb,5,none⟩ (.slice (some ⟨gg,0,none⟩) (un+1) cap2)) sb db tb tc nb xb g.n slot gen (.slice (some ⟨gg,0,none⟩) (un+1) cap2) dv:=heap_setCell_same w5 sb 5 _ _ _ H55.out
  have hmk:=fun (bad:List Nat) (hb:3∉bad)=>(H.out.rest.marks hb).sub (M':=[xb,tb]) (by simp)
  refine⟨rfl,Kp.fr hZ (by decide) (hmk _ (by decide)),_,⟨H.out.bsb,hcell,hR5,H.out.di.fr hZ (by decide) ?_ (hmk _ (by decide)),by have:=H.out.ht;omega,H.out.hslot,by have:=H.out.hgen;omega,?_,Nat.le_trans H.out.hd (Nat.le_add_right _ _),?_,H.out.smn,H.out.smx,H.out.inv.stage hs Hroom.out Hlen.out k2⟩⟩
  ·simp only [List.mem_cons,List.not_mem_nil,or_false,not_or]
   exact⟨H.out.smx,H.out.smtb⟩
  ·have:=H.out.hu
   simp
   omega
  ·have h9:=H.out.hdx
   unfold dirLen at h9 ⊢
   simp only [List.map_cons,List.sum_cons]
   omega
end Go.Proofs.YtndjmffnlcilbaaGreatDoor
namespace Go.Proofs.YtndjmffnlcilbaaGreatDoor
open Go Go.RowKit Go.Ix Go.Ext Go.Maps
theorem SR.mono {w:World}{B sb tb tc nb xb nm nm':Nat}{uv dv:Value}{g:G}(h:SR w B sb tb tc nb xb nm uv dv g) (hn:nm≤nm'):SR w B sb tb tc nb xb nm' uv dv g :=
 ⟨h.bnb,h.bxb,h.nx,h.now.mono hn,h.next.mono hn,h.taken,h.dir,h.dirne,h.undo,h.fok,h.fokx⟩
theorem SIx.mono {w:World}{B db sm sb k D k' D' tb tc nb xb slot gen:Nat}{t:Dk}{uv dv:Value}{g:G}(h:SIx w B db sm sb k D t tb tc nb xb slot gen uv dv g) (hk:k≤k') (hD:D≤D'):SIx w B db sm sb k' D' t tb tc nb xb slot gen uv dv g :=
 ⟨h.bsb,h.cell,h.rest.mono hk,h.di,by have:=h.ht;omega,h.hslot,by have:=h.hgen;omega,by have:=h.hu;omega,Nat.le_trans h.hd hD,Nat.le_trans h.hdx hD,h.smn,h.smx,h.inv⟩
theorem SIx.olds {w W:World}{B db sm sb k D tb tc nb xb slot gen:Nat}{t:Dk}{uv dv:Value}{g:G}(h:SIx w B db sm sb k D t tb tc nb xb slot gen uv dv g) (ho:Olds w W):SIx W B db sm sb k D t tb tc nb xb slot gen uv dv g :=
 ⟨h.bsb,(ho.2 _ (heap_lt h.cell)).trans h.cell,h.rest.olds ho,h.di.olds ho,h.ht,h.hslot,h.hgen,h.hu,h.hd,h.hdx,h.smn,h.smx,h.inv⟩
theorem SIx.disk {w W:World}{B db sm sb k D tb tc nb xb slot gen:Nat}{t t':Dk}{uv dv:Value}{g:G}(h:SIx w B db sm sb k D t tb tc nb xb slot gen uv dv g) (hf:Fr B TD [sm] w W) (hd:DK W B db sm g.n t') (ht:t'.cac.length≤100 * k):SIx W B db sm sb k D t' tb tc nb xb slot gen uv dv g:=by
 obtain⟨es,c,hk⟩:=h.di.seen.kind
 have hM:∀b∈[sm],∀cs ty fr,w.heap[b]?≠some (.cells cs ty fr):=fun b hb cs ty fr e=>by
  simp only [List.mem_singleton] at hb
  rw [hb,hk] at e
  cases e
 refine⟨h.bsb,hf.keep h.cell (fun hm=>hM _ hm _ _ _ h.cell) (by decide),h.rest.fr hf (by decide) ?_ ?_ (fun b hb cs ty fr _=>hM b hb cs ty fr),hd,ht,h.hslot,h.hgen,h.hu,h.hd,h.hdx,h.smn,h.smx,h.inv⟩
 ·simp only [List.mem_singleton]
  exact Ne.symm h.smn
 ·simp only [List.mem_singleton]
  exact Ne.symm h.smx
theorem SIx.hsm {w:World}{B db sm sb k D tb tc nb xb slot gen:Nat}{t:Dk}{uv dv:Value}{g:G}(h:SIx w B db sm sb k D t tb tc nb xb slot gen uv dv g):sb≠sm:=fun e=>by
 obtain⟨es,c,hk⟩:=h.di.seen.kind
 have h1:=h.cell
 rw [e] at h1
 have h2:=hk.symm.trans h1
 cases h2
theorem SIx.hB {w:World}{B db sm sb k D tb tc nb xb slot gen:Nat}{t:Dk}{uv dv:Value}{g:G}(h:SIx w B db sm sb k D t tb tc nb xb slot gen uv dv g):B≤w.heap.size:=by
 have:=heap_lt h.cell
 have:=h.bsb
 omega
def SL (w:World) (B db sm sb k D:Nat) (t:Dk) (slot gen:Nat) (g:G) (ln lx:LF):Prop:=SI w B db sm sb k D t slot gen g∧Live isNm t g slot gen ln lx
def DL (w:World) (B db sm n k m:Nat) (ln lu:LF):Prop:=∃t,DK w B db sm n t∧t.cac.length≤100 * k∧Dead isNm n m t ln lu
theorem writes_len:∀(l:List (Nat×Sec)) (K:Dk),(K.writes l).2.cac.length≤K.cac.length+l.length
 | [],K=>Nat.le_refl _
 | p :: l,K=>by
  have h1:=write_len K p.1 p.2
  show (if K.ok then (K.write p.1 p.2).writes l else (false,K.write p.1 p.2)).2.cac.length≤_
  split
  ·have:=writes_len l (K.write p.1 p.2)
   simp only [List.length_cons]
   omega
  ·simp only [List.length_cons]
   omega
theorem pieces_len (l d:List Nat):(pieces l d).length=l.length:=by unfold pieces;simp
def PutEnd (w:World) (B db sm sb k D:Nat) (s:Txt) (ds:List Nat) (slot gen:Nat) (t:Dk) (g:G) (ln lx:LF) (e:Ending) (w':World):Prop :=
 Kp B w w'∧∃c:Nat,e=.returned (.int .u16 c)∧((c=0∧∃t' g',SL w' B db sm sb (k+2) (D+300+s.length) t' slot gen g' ln (withF lx s ds)∧g'.n=g.n)∨(c≠0∧c≠4∧SL w' B db sm sb (k+2) (D+300+s.length) t slot gen g ln lx)∨(c=4∧∀lu m,gen≤m→DL w' B db sm g.n (k+2) m ln lu))
def MayAll (w:World) (l:Fs) (s:Txt) (e:Ending) (w':World):Prop:=Below w.heap.size w w'∧∃c:Nat,e=.returned (.int .u16 c)∧c≠4∧(c=0→s∉keys l∧isNm s=true∧l.length<256)
theorem MayEnd.all {w w':World}{l:Fs}{s:Txt}{e:Ending}(h:MayEnd w l s e w'):MayAll w l s e w':=by
 obtain⟨h1,h2⟩:=h
 refine⟨h1,?_⟩
 rcases h2 with ⟨rfl,h⟩|⟨c,h,h4,rfl⟩
 ·exact⟨0,rfl,by decide,fun _=>h⟩
 ·exact⟨c,rfl,h4,fun h0=>by omega⟩
def TakeAll (w:World) (T:Nat→Int) (n want:Nat) (e:Ending) (w':World):Prop :=
 Below w.heap.size w w'∧∃(o:Option Addr) (m cc c:Nat),e=.returned (.tuple #[.slice o m cc,.int .u16 c])∧(c=0∨c=5)∧(c=0→m=want∧∃l k,w'.ownsRow w.heap.size 3 1 (.slice o want cc) want (nats l)∧l.length=want∧l=zeros T k∧k≤n∧(runsOf l).length≤48)
theorem TakeEnd.all {w w':World}{T:Nat→Int}{n want:Nat}{e:Ending}(h:TakeEnd w T n want e w'):TakeAll w T n want e w':=by
 obtain⟨h1,h2⟩:=h
 refine⟨h1,?_⟩
 rcases h2 with rfl|⟨o,c,l,k,rfl,h⟩
 ·exact⟨none,0,0,5,rfl,.inr rfl,fun h=>by cases h⟩
 ·exact⟨o,want,c,0,rfl,.inl rfl,fun _=>⟨rfl,l,k,h⟩⟩
set_option maxRecDepth 20000 in
set_option maxHeartbeats 8000000 in
theorem put_any (hH:HalfOk) {w:World}{B db sm sb k D tb tc nb xb slot gen dn dc:Nat}{t:Dk}{ds:List Nat}{ln lx:LF}{da:Option Addr}{uv dv:Value}{g:G}{s:Txt}(h:SIx w B db sm sb k D t tb tc nb xb slot gen uv dv g) (hL:Live isNm t g slot gen ln lx) (hG:9≤w.heap.size) (hk:k≤900) (hs:s.length≤1000000) (hd:DataB w B ds da dn dc) (hdn:dn≤400000) :
  Calls Tryz.prog 12 #[.pointer (some ⟨sb,0,none⟩),encStr s,.slice da dn dc] w (PutEnd w B db sm sb k D s ds slot gen t g ln lx):=by
 have H:=Lib.hid h
 have Hd:=Lib.hid hd
 have Hs:=Lib.hid hs
 have HL:=Lib.hid hL
 have HM:Hid (Calls Tryz.prog 38 #[.pointer (some ⟨sb,0,none⟩),encStr s,.int .i64 1] w (MayEnd w g.next s)):=Lib.hid (may_any s h.cell h.rest.next hs (by omega))
 have hhi:=h.inv.hi
 have hlo:=h.inv.lo
 have hht:=h.ht
 clear h hd hs hL
 go_enter Tryz.func12,Tryz.ntmps12
 go_upto_region 2 with (go_at_call 38;refine HM.out.mono ?_;clear HM;intro e w1 hm;obtain⟨hb1,c,rfl,hc4,hc⟩:=hm.all;have Hb1:=Lib.hid hb1;have Hc:=Lib.hid hc;clear hm hb1 hc)
 have HK1:Hid (Kp B w w1):=Lib.hid (Kp.of_below Hb1.out H.out.hB)
 have H1:=Lib.hid (H.out.olds (Olds.of_below Hb1.out))
 by_cases h0:c=0
 ·have hno:=Lib.hid (Hc.out h0)
  subst h0
  have HN:=Lib.hid (need_any dn (by omega) w1)
  have HT:Hid (Calls Tryz.prog 39 #[.pointer (some ⟨sb,0,none⟩),.int .i64 (need dn:Nat)] w1 (TakeEnd w1 g.T g.n (need dn))):=Lib.hid (take_any (need dn) H1.out.cell rfl H1.out.rest.taken (by omega) (by omega) (by unfold need;omega))
  go_upto_region 5 with (first | (go_at_call 40;refine HN.out.mono ?_;clear HN;rintro e w2 ⟨rfl,rfl⟩) | (go_at_call 39;refine HT.out.mono ?_;clear HT;intro e w2 hm;obtain⟨hb2,o,m,cc,c,rfl,hcd,hc2⟩:=hm.all;have Hb2:=Lib.hid hb2;have Hc2:=Lib.hid hc2;have Hcd:=Lib.hid hcd;clear hm hb2 hc2 hcd))
  have HK2:Hid (Kp B w w2):=Lib.hid (HK1.out.trans (Kp.of_below Hb2.out H1.out.hB))
  have H2:=Lib.hid (H1.out.olds (Olds.of_below Hb2.out))
  by_cases h0:c=0
  ·obtain⟨rfl,l,kk,hrow,hlen,hz,hkn,hruns⟩:=Hc2.out h0
   subst h0
   have hroom:Room g l:=by rw [hz];exact room_zeros hkn
   have hll:l.length≤62:=by rw [hz];have:=zeros_len g.T kk;omega
   have Hroom:=Lib.hid hroom
   have Hruns:=Lib.hid hruns
   have Hrow:=Lib.hid hrow
   have hoo:(Value.slice o (need dn) cc).ownBlock≠some tb:=fun e=>by
    have h1:=(ownsRow_block hrow e).1
    obtain⟨cur,h2⟩:=own_kind H1.out.rest.taken (g:=tb) rfl
    have:=heap_lt h2
    omega
   have hd2:DataB w2 B ds da dn dc:=(Hd.out.olds (Olds.of_below Hb1.out)).olds (Olds.of_below Hb2.out)
   have hdl:ds.length=dn:=hd2.2.2.1
   have hWr:=write_any l H2.out.di H2.out.cell hrow hlen (fun a ha=>(hroom.2 a ha).1.2) hd2 H2.out.hB (by omega) (by omega) (by omega) H2.out.hsm H2.out.bsb
   obtain⟨hLt,hLf⟩:=HL.out.writes (Nat.le_refl gen) hroom hd2.2.1
   have HLf:Hid (∀m,gen≤m→(t.writes (pieces l ds)).1=false→∀lu,Dead isNm g.n m (t.writes (pieces l ds)).2 ln lu):=Lib.hid (fun m hm=>(HL.out.writes hm hroom hd2.2.1).2)
   have HLp:Hid ((t.writes (pieces l ds)).1=true→Live isNm (t.writes (pieces l ds)).2 { g with next:=(s,⟨false,dn,(crc ds:Nat),l⟩) :: g.next,T:=fun a=>g.T a+1 * ((l.count a:Nat):Int),undo:=g.undo++[(l,-1)] } slot gen ln (withF lx s ds)):=Lib.hid (fun ht=>by
    obtain⟨n1,n2,n3⟩:=hno.out
    have:=HL.out.put n1 hroom (by rw [hlen,hdl]) hruns hd2.2.1 (by omega) n2 (isNm_len n2).1 (isNm_len n2).2 n3 ht
    rwa [hdl] at this)
   have hwl:=writes_len (pieces l ds) t
   rw [pieces_len] at hwl
   clear hLt hLf
   have Hdl:=Lib.hid hdl
   clear hdl
   have Hlen:=Lib.hid hlen
   have Hoo:=Lib.hid hoo
   have Hd2:=Lib.hid hd2
   clear hroom hrow hlen hz hkn hruns hoo hd2
   generalize hq:need dn=q at *
   obtain⟨tw,htw⟩:∃tw,tw=t.writes (pieces l ds):=⟨_,rfl⟩
   unfold WriteEnd at hWr
   rw [← htw] at hWr HLf HLp hwl
   obtain⟨wb,t'⟩:=tw
   clear htw
   simp only at hWr HLf HLp hwl
   cases wb with
   | false =>
    have hcd:((codeOf false:Nat):Int)=4:=rfl
    rw [hcd] at hWr
    have HW:=Lib.hid hWr
    clear hWr hcd HLp
    go_upto_region 8 with (go_at_call 26;refine HW.out.mono ?_;clear HW;rintro e w3 ⟨rfl,hdi,_,hf⟩;have Hdi:=Lib.hid hdi;have Hf:=Lib.hid (hf rfl);clear hdi hf)
    go_wp2_with fail
    go_ret
    obtain⟨es,cm,hkm⟩:=H2.out.di.seen.kind
    have hcs:=H2.out.cell
    refine⟨HK2.out.trans (Kp.of_fr Hf.out.1 (by decide) (fun ty hty b hb cs fr e=>?_)),4,rfl,.inr (.inr ⟨rfl,fun lu m hm=>⟨t',Hdi.out,?_,HLf.out m hm trivial lu⟩⟩)⟩
    ·simp only [List.mem_cons,List.not_mem_nil,or_false] at hb
     rcases hb with rfl | rfl
     ·rw [hkm] at e
      cases e
     ·exact no_ty hcs e hty (by decide)
    ·have:=Hlen.out
     omega
   | true =>
   have hcd:((codeOf true:Nat):Int)=0:=rfl
   rw [hcd] at hWr
   have HW:=Lib.hid hWr
   clear hWr hcd HLf
   go_upto_region 8 with (go_at_call 26;refine HW.out.mono ?_;clear HW;rintro e w3 ⟨rfl,hdi,hf,_⟩;have Hdi:=Lib.hid hdi;have Hf:=Lib.hid (hf rfl);clear hdi hf)
   have hql:q≤62:=by have:=Hlen.out;omega
   have H3:=Lib.hid ((H2.out.mono (Nat.le_succ k) (Nat.le_refl D)).disk Hf.out Hdi.out (by omega))
   obtain⟨es,cm,hkm⟩:=H2.out.di.seen.kind
   have HK3:Hid (Kp B w w3):=Lib.hid (HK2.out.trans (Kp.of_fr Hf.out (by decide) (fun ty hty b hb cs fr e=>by
    simp only [List.mem_singleton] at hb
    rw [hb,hkm] at e
    cases e)))
   have Hd3:Hid (DataB w3 B ds da dn dc):=Lib.hid (Hd2.out.fr Hf.out (by decide) (fun b hb cs fr e=>by
    simp only [List.mem_singleton] at hb
    rw [hb,hkm] at e
    cases e))
   have Hr3:Hid (w3.ownsRow B 3 1 (.slice o q cc) q (nats l)):=Lib.hid (ownsRow_mono (Hf.out.keepRow Hrow.out (by decide) (fun b hb hm=>by
    simp only [List.mem_singleton] at hm
    obtain⟨cur,h1⟩:=own_kind Hrow.out hb
    rw [hm,hkm] at h1
    cases h1)) H1.out.hB)
   have hG3:9≤w3.heap.size:=by have:=HK3.out.below.size;omega
   have HS:Hid (Calls Tryz.prog 42 #[.slice da dn dc] w3 fun e w'=>∃s:Nat,s=crc ds∧s<4294967296∧e=.returned (.int .u32 s)∧Below w3.heap.size w3 w'):=Lib.hid (sum_some hH hG3 (m:=dn) (by
    obtain⟨a1,a2,a3,_⟩:=Hd3.out
    exact⟨a1,a2,a3⟩) (by omega))
   clear hkm
   go_upto_region 10 with fail
   have HG:Hid (∀(u:Nat) (w4:World),u<4294967296→Below w3.heap.size w3 w4→Calls Tryz.prog 41 #[.pointer (some ⟨sb,0,none⟩),encStr s,.agg #[.bool false,.int .i64 (dn:Nat),.int .u32 (u:Nat),.slice o q cc]] w4 (StageEnd w4 B db sm sb (k+1) D t' tb tc nb xb slot gen dv g s ⟨false,dn,(u:Nat),l⟩)):=Lib.hid (fun u w4 hu hb4=>by
    have ho4:=Olds.of_below hb4
    have h4:=H3.out.olds ho4
    have hle:=Hlen.out
    refine stage_any (f:=⟨false,dn,(u:Nat),l⟩) h4 h4.hB (by omega) hno.out.1 ⟨Hs.out,by simp only;omega,⟨by simp only;omega,by simp only;omega⟩,fun a ha=>by have:=(Hroom.out.2 a ha).1.2;omega,by simp only;omega⟩ ?_ Hoo.out Hroom.out (by simp only;omega) (by simp only;omega)
    have:=ownsRow_olds Hr3.out ho4
    rw [← hle] at this
    simp only
    rw [hle] at this ⊢
    exact this)
   go_wp2_with (first | (go_at_call 42;refine HS.out.mono ?_;clear HS;rintro e w4 ⟨u,hue,hu,rfl,hb4⟩;have Hue:=Lib.hid hue;clear hue;have Hb4:=Lib.hid hb4;have Hu:=Lib.hid hu;clear hb4 hu) | (go_at_call 41;refine (HG.out u w4 Hu.out Hb4.out).mono ?_;rintro e w5 ⟨rfl,hk5,hs5⟩;have Hk5:=Lib.hid hk5;have Hs5:=Lib.hid hs5;clear hk5 hs5))
   go_ret
   refine⟨(HK3.out.trans (Kp.of_below Hb4.out H3.out.hB)).trans Hk5.out,0,rfl,.inl ⟨rfl,?_⟩⟩
   obtain⟨uv',h5⟩:=Hs5.out
   refine⟨t',_,⟨⟨_,_,_,_,_,_,h5.mono (Nat.le_refl _) ?_⟩,?_⟩,rfl⟩
   rotate_left
   ·have h9:=HLp.out trivial
    rw [← Hue.out] at h9
    exact h9
   have:=Hruns.out
   unfold fileLen
   simp only
   omega
  ·have hcp:0<c:=by omega
   have hcb:((c:Int) == 0)=false:=by simp;omega
   go_wp2_with fail
   go_ret
   have h5:=Hcd.out
   exact⟨HK2.out,c,rfl,.inr (.inl ⟨by omega,by omega,⟨_,_,_,_,_,_,H2.out.mono (by omega) (by omega)⟩,HL.out⟩)⟩
 ·have hcp:0<c:=by omega
  have hcb:((c:Int) == 0)=false:=by simp;omega
  go_wp2_with fail
  go_ret
  exact⟨HK1.out,c,rfl,.inr (.inl ⟨by omega,hc4,⟨_,_,_,_,_,_,H1.out.mono (by omega) (by omega)⟩,HL.out⟩)⟩
end Go.Proofs.YtndjmffnlcilbaaGreatDoor
