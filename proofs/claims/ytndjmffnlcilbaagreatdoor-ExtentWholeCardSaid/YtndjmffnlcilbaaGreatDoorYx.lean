/- Contracts over this program. Their conditions: the slices read as the lists that are named, and lie within the sizes that are named. -/
import Derived.Test.YtndjmffnlcilbaaGreatDoorYt
import Derived.Test.YtndjmffnlcilbaaGreatDoorYw
set_option linter.unusedSimpArgs false
set_option linter.unusedVariables false
set_option linter.deprecated false
set_option linter.unnecessarySimpa false
namespace Go.Ext
open Go.Ix
theorem num_get {k:Nat}{b:List Nat}(h:k≤b.length):num k b=some (back (b.take k),b.drop k):=by unfold num;rw [if_pos h]
theorem num_two {k v:Nat}{b r:List Nat}(h:num k b=some (v,r)) (hb:∀x∈b,x<256):v<256 ^ k∧r=b.drop k∧k≤b.length:=num_lt h hb
section
variable {isN:Txt→Bool}{n g0 g1 z u gen:Nat}{bs r1 r2 r3 r4 secs:List Nat}{T:List Bool}{L:List Sec}
theorem pslot_bad (h:back (bs.drop 252)≠crc (bs.take 252)):pslot n bs=none:=by unfold pslot;rw [if_neg h]
theorem pslot_eq (h:back (bs.drop 252)=crc (bs.take 252)) (h0:num 4 ((bs.take 252).drop 4)=some (g0,r1)) (h1:num 4 r1=some (g1,r2)) (h2:num 4 r2=some (z,r3)) (h3:num 4 r3=some (u,r4)) :
  pslot n bs=(rsecs (need z) r4 (List.replicate n false)).bind fun r=>if r.1≠[]∧zerosB r.2.1=true then some (g0+4294967296 * g1,z,u,r.1,r.2.2) else none:=by
 unfold pslot
 rw [if_pos h,h0]
 simp only [Option.bind_some]
 rw [h1]
 simp only [Option.bind_some]
 rw [h2]
 simp only [Option.bind_some]
 rw [h3]
 simp only [Option.bind_some]
theorem good_none (h:pslot n bs=none):good isN n L bs=none:=by unfold good;rw [h];rfl
theorem good_eq (h:pslot n bs=some (gen,z,u,secs,T)):good isN n L bs=if zerosB ((content L secs).drop z)=true∧crc ((content L secs).take z)=u then (pdir isN ((content L secs).take z) T).bind fun F=>if dirB F=(content L secs).take z∧slotB gen ((content L secs).take z) secs=bs then some ⟨gen,secs,F,(content L secs).take z⟩ else none else none:=by
 unfold good
 rw [h]
 rfl
end
theorem Parsed.dir {isN:Txt→Bool}{T:List Bool}{F:Fs}(h:Parsed isN T F) (h256:F.length≤256):dirLen F≤200000:=by
 unfold dirLen
 have hs:(F.map fileLen).sum≤F.length * 500:=by
  have hk:=h.ok
  clear h h256
  induction F with
  | nil=>simp
  | cons p F ih =>
   rw [List.map_cons,List.sum_cons,List.length_cons]
   have h1:=ih fun q hq=>hk q (List.mem_cons_of_mem _ hq)
   have h2:=hk p List.mem_cons_self
   have h3:=h2.len
   have h4:=h2.runs
   have h5:fileLen p=12+p.1.length+4 * (runsOf p.2.secs).length:=rfl
   omega
 omega
theorem Parsed.cnt {isN:Txt→Bool}{T:List Bool}{F:Fs}(h:Parsed isN T F) (a:Nat):cntF F a≤1:=by
 rw [← count_flat]
 exact List.nodup_iff_count.1 h.secs.nod a
end Go.Ext
namespace Go.Proofs.YtndjmffnlcilbaaGreatDoor
open Go Go.RowKit Go.Ix Go.Ext Go.Maps
def GoodEnd (w:World) (B db sm n which:Nat) (t:Dk) (bs:List Nat) (e:Ending) (w':World):Prop :=
 DK w' B db sm n t∧Fr B TD [sm] w w'∧((Ext.good isNm n t.view bs=none∧e=.returned (.tuple #[.pointer none,.int .u16 61]))∨
  ∃r sb tb nb xb nm uv dv,Ext.good isNm n t.view bs=some r∧e=.returned (.tuple #[.pointer (some ⟨sb,0,none⟩),.int .u16 0])∧w.heap.size≤sb∧w.heap.size≤nb∧w.heap.size≤xb∧w.heap.size≤tb∧nm≤256∧SCell w' sb db tb n nb xb n which r.gen uv dv∧∀sb',SR w' B sb' tb n nb xb nm uv dv (opened n r.secs r.files))
set_option maxRecDepth 20000 in
set_option maxHeartbeats 8000000 in
theorem good_any (hH:HalfOk) {w:World}{B B0 db sm n which g gc:Nat}{t:Dk}{bs:List Nat}(hdi:DK w B db sm n t) (hcalm:t.calm) (hcac:t.cac.length≤1000000) (hB:B≤w.heap.size) (hG:9≤w.heap.size) (hn:n≤62) (hn3:3≤n) (hb:RowB w B0 (.slice (some ⟨g,0,none⟩) 256 gc) bs 256) :
  Calls Tryz.prog 35 #[.pointer (some ⟨db,0,none⟩),.slice (some ⟨g,0,none⟩) 256 gc,.int .i64 (which:Nat)] w (GoodEnd w B db sm n which t bs):=by
 obtain⟨i4,hi4,hz4,hy4,hx4⟩:=info_parts Tryz.info4
 obtain⟨hb1,hb8,hbl⟩:=hb
 have hb1':w.ownsRow B0 5 1 (.slice (some ⟨g,0,none⟩) 256 gc) 256 (octs bs):=by
  have h:=hb1
  unfold Row8 at h
  rwa [hbl] at h
 have hgc:256≤gc∧gc≤maxLen:=by
  rcases hb1'.2 with ⟨e,_⟩|⟨g',cap,cur,e,_,_,h1,h2,_⟩
  ·cases e
  ·simp only [Value.slice.injEq] at e
   exact⟨by omega,by rw [e.2.2];exact h2⟩
 unfold maxLen at hgc
 have hgl:g<w.heap.size:=(ownsRow_block hb1' (g:=g) rfl).2
 have hcells:CellsAt w g 0 (octs bs):=ownsRow_cell hb1'
 obtain⟨gcur,hgk⟩:=own_kind hb1' (g:=g) rfl
 have HBS:Hid (∀W:World,GP w W B db sm n w.heap.size (w.heap.size+1) t→BytesAt W (.slice (some ⟨g,0,none⟩) 256 gc) bs):=Lib.hid (fun W hG=>by
  obtain⟨es,c,hk⟩:=hdi.seen.kind
  have h9:=hG.fr.keep hgk (fun hm=>by
   rw [List.mem_singleton.1 hm,hk] at hgk
   cases hgk) (by decide)
  unfold BytesAt
  rw [hbl]
  exact⟨_,_,rfl,fun e=>(by cases e),fun _=>⟨g,0,rfl,fun i v hv=>(World.cell?_of_block (h9.trans hgk.symm)).trans (hcells i v hv)⟩⟩)
 have hg1:(252:Int)≤(gc:Int):=by omega
 have hg2:¬ gc=4:=by omega
 have hg3:¬ gc=252:=by omega
 have hmf:∀(fn:Fn) (first cap:Array Value) (w:World),(Instr.makeFunc fn first cap).run Tryz.prog w=.ok (.func fn first cap) w:=fun _ _ _ _=>rfl
 obtain⟨X,hX⟩:∃X:World,X=(w.alloc (.cells #[.pointer none] 30)).alloc (.cells #[.int .u16 0] 27):=⟨_,rfl⟩
 obtain⟨S,hS⟩:∃S,S=w.heap.size:=⟨_,rfl⟩
 obtain⟨E,hE⟩:∃E,E=w.heap.size+1:=⟨_,rfl⟩
 have HX:=Lib.hid hX
 have hXo:Olds w X:=by rw [hX];exact (Olds.alloc _ _).trans (Olds.alloc _ _)
 have hXs:X.heap.size=w.heap.size+2:=by rw [hX];simp
 have HGX:Hid (GP w X B db sm n S E t):=Lib.hid ⟨by
   rw [hX,hS,Below.heap_alloc _ _ _ (by simp)]
   exact heap_alloc_new _ _,by
   rw [hX,hE]
   have h9:=heap_alloc_new (w.alloc (.cells #[.pointer none] 30)) (.cells #[.int .u16 0] 27)
   simpa using h9,hdi.olds hXo,by rw [hX];exact ((Fr.refl _ _ _ _).alloc hB _).alloc (by simp;omega) _,hS.symm,by omega,hB,by omega⟩
 have HSec:=Lib.hid (sectors_any (HGX.out.dk.olds (Olds.drewN X 1)))
 obtain⟨w2,hmk,hown2,hgrow2⟩:=run_make_full (P:=Tryz.prog) X.drew X.heap.size 35 4 i4 (.bool false) 1 Tryz.underlying35 hi4 hz4 hy4 .i64 .i64 n (by rw [hx4];omega) (by unfold maxLen;omega) (Nat.le_refl _)
 have hX2:Below X.heap.size X w2:=((Below.refl X.heap.size X).drew).grown hgrow2 (Nat.le_refl _) (by simp)
 have hG2:=HGX.out.below hX2
 obtain⟨tb,htb⟩:∃tb,tb=X.heap.size:=⟨_,rfl⟩
 obtain⟨rb,hrb⟩:∃rb,rb=w2.heap.size:=⟨_,rfl⟩
 obtain⟨Y,hY⟩:∃Y:World,Y=(w2.alloc (.cells #[.slice (some ⟨g,4,none⟩) 248 (gc-4),.slice (some ⟨tb,0,none⟩) n n] 122)).alloc (.cells #[.slice (some ⟨g,252,none⟩) 4 (gc-252),.slice none 0 0] 122):=⟨_,rfl⟩
 have hYb:Below w2.heap.size w2 Y:=by rw [hY];exact ((Below.refl _ _).alloc (Nat.le_refl _) _).alloc (by simp) _
 have hYs:Y.heap.size=rb+2:=by rw [hY,hrb];simp
 have hwY:Olds w Y:=(hXo.trans ⟨hX2.size,hX2.block⟩).trans (Olds.of_below hYb)
 have HgY:Hid (∀b,b<w.heap.size→Y.heap[b]?=w.heap[b]?):=Lib.hid hwY.2
 have HGY:Hid (GP w Y B db sm n S E t):=Lib.hid (hG2.below hYb)
 have hmk2:Marks w2 w.heap.size tb n n (List.replicate n false):=by
  refine⟨by simp,?_⟩
  have h9:w2.ownsRow X.heap.size 4 1 (.slice (some ⟨X.heap.size,0,none⟩) n n) n (madeCells (Value.bool false).cells (n * 1)).toList:=hown2
  rw [htb]
  refine ownsRow_mono ?_ (show w.heap.size≤X.heap.size by omega)
  have e:(madeCells (Value.bool false).cells (n * 1)).toList=(List.replicate n false).map Value.bool:=by
   show (madeCells #[Value.bool false] (n * 1)).toList=_
   rw [Nat.mul_one,toList_madeCells_one]
   simp
  rwa [e] at h9
 have hmY:Marks Y w.heap.size tb n n (List.replicate n false):=hmk2.keep (hYb.block _ hmk2.lt)
 have htr:tb<rb:=by rw [hrb];exact hmk2.lt
 have hR0:((bs.take 252).drop 4).length=248:=by rw [List.length_drop,List.length_take];omega
 have hrd:RdAt Y rb g ((bs.take 252).drop 4) (.slice (some ⟨tb,0,none⟩) n n):=by
  refine⟨4,gc-4,?_,by omega,by unfold maxLen;omega,fun j v hv=>?_,by omega,fun x hx=>hb8 x (List.mem_of_mem_take (List.mem_of_mem_drop hx))⟩
  ·rw [hR0,hY,hrb,Below.heap_alloc _ _ _ (by simp)]
   exact heap_alloc_new _ _
  ·unfold octs at hv
   rw [List.map_drop,List.map_take,List.getElem?_drop] at hv
   have hlt:4+j<252:=by
    have:=(List.getElem?_eq_some_iff.1 hv).1
    rw [List.length_take] at this
    omega
   rw [List.getElem?_take_of_lt hlt] at hv
   have h9:=(hcells.olds hwY) (4+j) v hv
   simpa using h9
 have hrd2:RdAt Y (rb+1) g (bs.drop 252) (.slice none 0 0):=by
  have hl2:(bs.drop 252).length=4:=by rw [List.length_drop];omega
  refine⟨252,gc-252,?_,by omega,by unfold maxLen;omega,fun j v hv=>?_,by omega,fun x hx=>hb8 x (List.mem_of_mem_drop hx)⟩
  ·rw [hl2,hY,hrb]
   have h9:=heap_alloc_new (w2.alloc (.cells #[.slice (some ⟨g,4,none⟩) 248 (gc-4),.slice (some ⟨tb,0,none⟩) n n] 122)) (.cells #[.slice (some ⟨g,252,none⟩) 4 (gc-252),.slice none 0 0] 122)
   simpa using h9
  ·unfold octs at hv
   rw [List.map_drop,List.getElem?_drop] at hv
   have h9:=(hcells.olds hwY) (252+j) v hv
   simpa using h9
 have HS:=Lib.hid hS
 have HE:=Lib.hid hE
 have Htb:=Lib.hid htb
 have Hrb:=Lib.hid hrb
 have HY:=Lib.hid hY
 have HmY:=Lib.hid hmY
 have Hrd:=Lib.hid hrd
 have Hrd2:=Lib.hid hrd2
 have hgr:g<rb:=by omega
 have hgt:g<tb:=by omega
 have hwrb:w.heap.size≤rb:=by omega
 have HBS2:Hid (∀W:World,GP w W B db sm n S E t→BytesAt W (.slice (some ⟨g,0,none⟩) 256 gc) bs):=Lib.hid (fun W hG=>HBS.out W (by rw [← hE,← hS];exact hG))
 have HXs:=Lib.hid hXs
 have Hwn:=Lib.hid hYs
 have htb2:S+2≤tb:=by omega
 have hdiok:=hdi.ok
 clear hXs hYs hS hE htb hrb hX hXo hown2 hgrow2 hX2 hG2 hYb hmk2 hmY hrd hrd2 hY hdi hwY
 go_enter_defers Tryz.func35,Tryz.ntmps35
 go_upto_region 2 with fail
 rw [← HX.out]
 refine wp_calm ?_
 go_region_law (first
  | (refine step_call (by rfl) 22 _ _ (by rfl) _ (by simp only [List.map_toArray,List.map_cons,List.map_nil];rfl) Tryz.enters_sectors (S:=fun v w2=>v=.int .i64 (n:Nat)∧X.drew=w2) (HSec.out.mono ?_) ?_;(rintro e w2 ⟨rfl,rfl⟩;exact⟨_,rfl,rfl,rfl⟩);rintro v1 w1 ⟨rfl,rfl⟩))
 unfold Calm
 go_upto_region 4 with fail
 rw [← HE.out,← HS.out,← Htb.out,← HY.out,← Hrb.out]
 obtain⟨v4,hv4⟩:∃v4,v4=back (bs.drop 252):=⟨_,rfl⟩
 obtain⟨cr,hcr⟩:∃cr,cr=crc (bs.take 252):=⟨_,rfl⟩
 have hd4:(bs.drop 252).length=4:=by rw [List.length_drop];omega
 have hn4:num 4 (bs.drop 252)=some (v4,[]):=by
  rw [num_get (by rw [hd4];exact Nat.le_refl 4),List.take_of_length_le (i:=4) (l:=bs.drop 252) (by rw [hd4];exact Nat.le_refl 4),List.drop_of_length_le (i:=4) (l:=bs.drop 252) (by rw [hd4];exact Nat.le_refl 4),hv4]
 have hv4l:v4<4294967296:=by
  have:=(num_lt hn4 (fun x hx=>hb8 x (List.mem_of_mem_drop hx))).1
  simpa using this
 have hb252:∀x∈bs.take 252,x<256:=fun x hx=>hb8 x (List.mem_of_mem_take hx)
 have hcrl:cr<4294967296:=by rw [hcr];exact crc_small hb252
 have HN:Hid (Calls Tryz.prog 64 #[.pointer (some ⟨rb+1,0,none⟩),.int .i64 4] Y.drew fun e w'=>e=.returned (.int .i64 (v4:Nat))∧RdAt w' (rb+1) g [] (.slice none 0 0)∧Fr 0 [] [rb+1] Y.drew w'):=Lib.hid (rd_number (W:=Y.drew) (many:=4) (Hrd2.out.keep rfl rfl) hn4 (by decide) (by omega))
 have hYw:=HGY.out.fr.size
 have HSm:Hid (∀W:World,Fr 0 [] [rb+1] Y.drew W→Calls Tryz.prog 42 #[.slice (some ⟨g,0,none⟩) 252 gc] W fun e w'=>e=.returned (.int .u32 (cr:Nat))∧Below W.heap.size W w'):=Lib.hid (fun W hf=>by
  rw [hcr]
  have hl:(bs.take 252).length=252:=by rw [List.length_take];omega
  refine sum_any hH (Nat.le_trans hG (Nat.le_trans hYw hf.size)) ?_ (by rw [hl];decide) hb252
  unfold BytesAt
  rw [hl]
  refine⟨_,_,rfl,fun e=>(by cases e),fun _=>⟨g,0,rfl,fun j v hv=>?_⟩⟩
  unfold octs at hv
  rw [List.map_take] at hv
  have hj:j<252:=by
   have:=(List.getElem?_eq_some_iff.1 hv).1
   rw [List.length_take] at this
   omega
  rw [List.getElem?_take_of_lt hj] at hv
  have h9:=hcells j v hv
  have h10:W.heap[g]?=w.heap[g]?:=(hf.same0 (by show g<Y.heap.size;exact Nat.lt_of_lt_of_le hgl hYw) (by simp only [List.mem_singleton];omega)).trans (HgY.out g hgl)
  rw [← h9]
  exact World.cell?_of_block h10)
 have Hb8:=Lib.hid hb8
 have Hbl:=Lib.hid hbl
 have Hcells:=Lib.hid hcells
 have Hv4:=Lib.hid hv4
 have Hcr:=Lib.hid hcr
 clear hb8 hbl hcells hv4 hcr hd4 hn4 hb252 hb1 hb1'
 have HG4:Hid (∀w3 w4:World,Fr 0 [] [rb+1] Y.drew w3→Below w3.heap.size w3 w4→GP w w4 B db sm n S E t):=Lib.hid (fun w3 w4 hf hb=>((HGY.out.drewN 1).go hf (fun x hx=>by
  simp only [List.mem_singleton] at hx
  subst hx
  obtain⟨off,cap,q1,_⟩:=Hrd2.out
  exact⟨by omega,_,_,_,q1,by decide⟩)).below hb)
 by_cases hsum:v4=cr
 ·subst hsum
  have hwv:IntKind.u32.wrap (v4:Int)=(v4:Int):=by rw [IntKind.wrap_u32];omega
  refine wp_calm ?_
  refine wp_region_any (by kernel_rfl) ?_
  change wpAny _ _ _ _ _ _ _ (World.drew _)
  refine wpAny_take (i:=0) (v:=?v0) rfl (by kernel_rfl) (by kernel_rfl) (by kernel_rfl) (fun _ _ _ h=>h) (Or.inl ⟨by rfl,?h0⟩) ?r0
  case h0 =>
   intro W
   go_simp
   all_goals with_reducible rfl
  try simp only [Act.put,List.getElem_toArray,List.getElem_cons_succ,List.getElem_cons_zero,List.setIfInBounds_toArray,List.set_cons_zero,List.set_cons_succ]
  refine wpAny_take (i:=3) (v:=?v3) rfl (by kernel_rfl) (by kernel_rfl) (by kernel_rfl) (fun _ _ _ h=>h) (Or.inl ⟨by rfl,?h3⟩) ?r3
  case h3 =>
   intro W
   go_simp
   all_goals with_reducible rfl
  try simp only [Act.put,List.getElem_toArray,List.getElem_cons_succ,List.getElem_cons_zero,List.setIfInBounds_toArray,List.set_cons_zero,List.set_cons_succ]
  refine wpAny_take (i:=4) (v:=?v4) rfl (by kernel_rfl) (by kernel_rfl) (by kernel_rfl) (fun _ _ _ h=>h) (Or.inl ⟨by rfl,?h4⟩) ?r4
  case h4 =>
   intro W
   go_simp
   all_goals with_reducible rfl
  try simp only [Act.put,List.getElem_toArray,List.getElem_cons_succ,List.getElem_cons_zero,List.setIfInBounds_toArray,List.set_cons_zero,List.set_cons_succ]
  refine wpAny_ready (rs:=[1]) (by kernel_rfl) (by simp) (AllReady.cons rfl (fun K hK=>?_) AllReady.nil)
  refine step_call (by rfl) 64 _ _ (by rfl) _ (by simp only [List.map_toArray,List.map_cons,List.map_nil];rfl) Tryz.enters_number (S:=fun v w3=>v=.int .i64 (v4:Nat)∧Fr 0 [] [rb+1] Y.drew w3) (HN.out.mono ?_) ?_
  ·rintro e w3 ⟨rfl,_,h3⟩
   exact⟨_,rfl,rfl,h3⟩
  rintro v w3 ⟨rfl,hf3⟩
  have Hf3:=Lib.hid hf3
  have HSm3:=Lib.hid (HSm.out w3 hf3)
  clear hf3 HSm HN
  refine hK _ _ ?_
  clear hK K
  try simp only [Act.put,List.getElem_toArray,List.getElem_cons_succ,List.getElem_cons_zero,List.setIfInBounds_toArray,List.set_cons_zero,List.set_cons_succ]
  refine wpAny_take (i:=2) (v:=?v2) rfl (by kernel_rfl) (by kernel_rfl) (by kernel_rfl) (fun _ _ _ h=>h) (Or.inl ⟨by rfl,?h2⟩) ?r2
  case h2 =>
   intro W
   go_simp
   all_goals with_reducible rfl
  try simp only [Act.put,List.getElem_toArray,List.getElem_cons_succ,List.getElem_cons_zero,List.setIfInBounds_toArray,List.set_cons_zero,List.set_cons_succ]
  refine wpAny_ready (rs:=[5]) (by kernel_rfl) (by simp) (AllReady.cons rfl (fun K hK=>?_) AllReady.nil)
  refine step_call (by rfl) 42 _ _ (by rfl) _ (by simp only [List.map_toArray,List.map_cons,List.map_nil];rfl) Tryz.enters_sum (S:=fun v w4=>v=.int .u32 (v4:Nat)∧Below w3.heap.size w3 w4) (HSm3.out.mono ?_) ?_
  ·rintro e w4 ⟨rfl,h4⟩
   exact⟨_,rfl,rfl,h4⟩
  rintro v w4 ⟨rfl,hb4⟩
  have Hb4:=Lib.hid hb4
  clear hb4 HSm3
  refine hK _ _ ?_
  clear hK K
  try simp only [Act.put,List.getElem_toArray,List.getElem_cons_succ,List.getElem_cons_zero,List.setIfInBounds_toArray,List.set_cons_zero,List.set_cons_succ]
  refine wpAny_take (i:=6) (v:=?v6) rfl (by kernel_rfl) (by kernel_rfl) (by kernel_rfl) (fun _ _ _ h=>h) (Or.inl ⟨by rfl,?h6⟩) ?r6
  case h6 =>
   intro W
   go_simp
   all_goals with_reducible rfl
  try simp only [Act.put,List.getElem_toArray,List.getElem_cons_succ,List.getElem_cons_zero,List.setIfInBounds_toArray,List.set_cons_zero,List.set_cons_succ]
  refine wpAny_ready (rs:=[7]) (by kernel_rfl) (by simp) (AllReady.cons rfl (fun K hK=>?_) AllReady.nil)
  refine step_call (by rfl) 63 _ _ (by rfl) _ (by simp only [List.map_toArray,List.map_cons,List.map_nil];rfl) Tryz.enters_need2 (S:=fun v w5=>v=.tuple #[]∧w4=w5) ((need2_ok _ (by first | rfl | (simp;omega))).mono ?_) ?_
  ·rintro e w5 ⟨rfl,rfl⟩
   exact⟨_,rfl,rfl,rfl⟩
  rintro v w5 ⟨rfl,rfl⟩
  refine hK _ _ ?_
  clear hK K
  try simp only [Act.put,List.getElem_toArray,List.getElem_cons_succ,List.getElem_cons_zero,List.setIfInBounds_toArray,List.set_cons_zero,List.set_cons_succ]
  refine wpAny_done (by kernel_rfl) ?_ _
  unfold Calm
  have hG4:=HG4.out w3 w4 Hf3.out Hb4.out
  have hw34:Y.heap.size≤w3.heap.size:=Hf3.out.size
  have hk4:∀b,b<Y.heap.size→b≠rb+1→w4.heap[b]?=Y.heap[b]?:=fun b hb hne=>(Hb4.out.block b (by omega)).trans (Hf3.out.same0 hb (by simpa using hne))
  have hrd4:RdAt w4 rb g ((bs.take 252).drop 4) (.slice (some ⟨tb,0,none⟩) n n):=Hrd.out.keep (hk4 _ Hrd.out.lt (by omega)) (hk4 _ (by omega) (by omega))
  have hmk4:Marks w4 w.heap.size tb n n (List.replicate n false):=HmY.out.keep (hk4 _ HmY.out.lt (by omega))
  have Hsum:Hid (back (bs.drop 252)=crc (bs.take 252)):=Lib.hid (Hv4.out.symm.trans Hcr.out)
  generalize hR0e:(bs.take 252).drop 4=R0 at *
  have HR0:=Lib.hid hR0e
  clear hR0e
  obtain⟨g0,r1,hn0⟩:∃g0 r1,num 4 R0=some (g0,r1):=⟨_,_,num_get (by omega)⟩
  obtain⟨l0,e0,_⟩:=num_two hn0 hrd4.byte
  have hl1:r1.length=244:=by rw [e0,List.length_drop,hR0]
  have b1:∀x∈r1,x<256:=fun x hx=>hrd4.byte x (List.mem_of_mem_drop (e0 ▸ hx))
  obtain⟨g1,r2,hn1⟩:∃g0 r2,num 4 r1=some (g0,r2):=⟨_,_,num_get (by omega)⟩
  obtain⟨l1,e1,_⟩:=num_two hn1 b1
  have hl2:r2.length=240:=by rw [e1,List.length_drop,hl1]
  have b2:∀x∈r2,x<256:=fun x hx=>b1 x (List.mem_of_mem_drop (e1 ▸ hx))
  obtain⟨z,r3,hn2⟩:∃g0 r3,num 4 r2=some (g0,r3):=⟨_,_,num_get (by omega)⟩
  obtain⟨l2,e2,_⟩:=num_two hn2 b2
  have hl3:r3.length=236:=by rw [e2,List.length_drop,hl2]
  have b3:∀x∈r3,x<256:=fun x hx=>b2 x (List.mem_of_mem_drop (e2 ▸ hx))
  obtain⟨u,r4,hn3⟩:∃g0 r4,num 4 r3=some (g0,r4):=⟨_,_,num_get (by omega)⟩
  obtain⟨l3,e3,_⟩:=num_two hn3 b3
  have hl4:r4.length=232:=by rw [e3,List.length_drop,hl3]
  have b4:∀x∈r4,x<256:=fun x hx=>b3 x (List.mem_of_mem_drop (e3 ▸ hx))
  have Hps:Hid (pslot n bs=(rsecs (need z) r4 (List.replicate n false)).bind fun r=>if r.1≠[]∧zerosB r.2.1=true then some (g0+4294967296 * g1,z,u,r.1,r.2.2) else none):=Lib.hid (pslot_eq Hsum.out (by rw [HR0.out];exact hn0) hn1 hn2 hn3)
  have hq0:g0<4294967296:=by simpa using l0
  have hq1:g1<4294967296:=by simpa using l1
  have hq2:z<4294967296:=by simpa using l2
  have hq3:u<4294967296:=by simpa using l3
  have HA0:=Lib.hid (rd_number (many:=4) hrd4 hn0 (by decide) (by omega))
  have HA1:Hid (∀W:World,RdAt W rb g r1 (.slice (some ⟨tb,0,none⟩) n n)→Calls Tryz.prog 64 #[.pointer (some ⟨rb,0,none⟩),.int .i64 4] W fun e w'=>e=.returned (.int .i64 (g1:Nat))∧RdAt w' rb g r2 (.slice (some ⟨tb,0,none⟩) n n)∧Fr 0 [] [rb] W w'):=Lib.hid (fun W h=>rd_number (many:=4) h hn1 (by decide) (by omega))
  have HA2:Hid (∀W:World,RdAt W rb g r2 (.slice (some ⟨tb,0,none⟩) n n)→Calls Tryz.prog 64 #[.pointer (some ⟨rb,0,none⟩),.int .i64 4] W fun e w'=>e=.returned (.int .i64 (z:Nat))∧RdAt w' rb g r3 (.slice (some ⟨tb,0,none⟩) n n)∧Fr 0 [] [rb] W w'):=Lib.hid (fun W h=>rd_number (many:=4) h hn2 (by decide) (by omega))
  have HA3:Hid (∀W:World,RdAt W rb g r3 (.slice (some ⟨tb,0,none⟩) n n)→Calls Tryz.prog 64 #[.pointer (some ⟨rb,0,none⟩),.int .i64 4] W fun e w'=>e=.returned (.int .i64 (u:Nat))∧RdAt w' rb g r4 (.slice (some ⟨tb,0,none⟩) n n)∧Fr 0 [] [rb] W w'):=Lib.hid (fun W h=>rd_number (many:=4) h hn3 (by decide) (by omega))
  have Hstep:Hid (∀(r r':List Nat) (W W':World),GP w W B db sm n S E t→RdAt W rb g r (.slice (some ⟨tb,0,none⟩) n n)→Marks W w.heap.size tb n n (List.replicate n false)→Fr 0 [] [rb] W W'→GP w W' B db sm n S E t∧Marks W' w.heap.size tb n n (List.replicate n false)):=Lib.hid (fun r r' W W' hG hr hm hf=>⟨hG.go hf (fun x hx=>by
   simp only [List.mem_singleton] at hx
   subst hx
   obtain⟨off,cap,q1,_⟩:=hr
   exact⟨by omega,_,_,_,q1,by decide⟩),hm.keep (hf.same0 hm.lt (by simp only [List.mem_singleton];omega))⟩)
  have HGG:Hid (∀(W W':World),GP w W B db sm n S E t→(RdAt W rb g r4 (.slice (some ⟨tb,0,none⟩) n n))→Marks W w.heap.size tb n n (List.replicate n false)→Fr 0 [] [rb,tb] W W'→GP w W' B db sm n S E t):=Lib.hid (fun W W' hG hr hm hf=>hG.go hf (fun x hx=>by
   simp only [List.mem_cons,List.not_mem_nil,or_false] at hx
   rcases hx with rfl | rfl
   ·obtain⟨off,cap,q1,_⟩:=hr
    exact⟨by omega,_,_,_,q1,by decide⟩
   ·obtain⟨cur,hc⟩:=own_kind hm.2 (g:=x) rfl
    exact⟨by omega,_,_,_,hc,by decide⟩))
  have H4:Hid (GP w w4 B db sm n S E t∧RdAt w4 rb g R0 (.slice (some ⟨tb,0,none⟩) n n)∧Marks w4 w.heap.size tb n n (List.replicate n false)):=Lib.hid ⟨hG4,hrd4,hmk4⟩
  have Hkk:Hid (∀b,b<w.heap.size→w4.heap[b]?=w.heap[b]?):=Lib.hid (fun b hb=>(hk4 b (by omega) (by omega)).trans (HgY.out b hb))
  clear hG4 hw34 hk4 hrd4 hmk4 hn0 hn1 hn2 hn3 e0 e1 e2 e3 b1 b2 b3 l0 l1 l2 l3 HG4 Hf3 Hb4
  have hw1:IntKind.u64.wrap (g0:Int)=(g0:Int):=by rw [IntKind.wrap_u64];omega
  have hw2:IntKind.u64.wrap (g1:Int)=(g1:Int):=by rw [IntKind.wrap_u64];omega
  have hw3:IntKind.u32.wrap (u:Int)=(u:Int):=by rw [IntKind.wrap_u32];omega
  obtain⟨gen,hgen⟩:∃gen,gen=g0+4294967296 * g1:=⟨_,rfl⟩
  have hor:bits .or .u64 (g0:Int) ((g1:Int) * 4294967296)=(gen:Int):=by rw [hgen];exact or_gen g0 g1 hq0 hq1
  have hgl2:gen<18446744073709551616:=by omega
  rw [← hgen] at Hps
  clear hgen
  go_upto_region 8 with (first
   | (go_at_call 64;refine HA0.out.mono ?_;clear HA0;rintro e w5 ⟨rfl,hr5,hf5⟩;have H5:=Lib.hid (And.intro hr5 (Hstep.out _ r1 _ _ H4.out.1 H4.out.2.1 H4.out.2.2 hf5));have HA1':=Lib.hid (HA1.out w5 hr5);clear hr5 hf5 HA1)
   | (go_at_call 64;refine HA1'.out.mono ?_;clear HA1';rintro e w6 ⟨rfl,hr6,hf6⟩;have H6:=Lib.hid (And.intro hr6 (Hstep.out _ r2 _ _ H5.out.2.1 H5.out.1 H5.out.2.2 hf6));have HA2':=Lib.hid (HA2.out w6 hr6);clear hr6 hf6 HA2)
   | (go_at_call 64;refine HA2'.out.mono ?_;clear HA2';rintro e w7 ⟨rfl,hr7,hf7⟩;have H7:=Lib.hid (And.intro hr7 (Hstep.out _ r3 _ _ H6.out.2.1 H6.out.1 H6.out.2.2 hf7));have HA3':=Lib.hid (HA3.out w7 hr7);clear hr7 hf7 HA3)
   | (go_at_call 64;refine HA3'.out.mono ?_;clear HA3';rintro e w8 ⟨rfl,hr8,hf8⟩;have H8:=Lib.hid (And.intro hr8 (Hstep.out _ r4 _ _ H7.out.2.1 H7.out.1 H7.out.2.2 hf8));clear hr8 hf8))
  clear H4 H5 H6 H7 Hstep
  obtain⟨hr8,hG8,hm8⟩:=H8.out
  have hs8:=hG8.fr.size
  have HS8:=Lib.hid (rd_secs (want:=need z) hr8 hm8 (Nat.lt_of_lt_of_le hgl hs8) (Nat.ne_of_lt hgt) (by unfold need;omega) (by omega) (by omega))
  have HG8:Hid (GP w w8 B db sm n S E t∧∀W,Fr 0 [] [rb,tb] w8 W→GP w W B db sm n S E t):=Lib.hid ⟨hG8,fun W hf=>HGG.out _ _ hG8 hr8 hm8 hf⟩
  have HND:=Lib.hid (need_big z (by omega) w8)
  clear hr8 hG8 hm8 H8
  cases hrs:rsecs (need z) r4 (List.replicate n false) with
  | none =>
   have Hno:Hid (Ext.good isNm n t.view bs=none):=Lib.hid (good_none (by rw [Hps.out,hrs];rfl))
   have HS9:Hid (Calls Tryz.prog 65 #[.pointer (some ⟨rb,0,none⟩),.int .i64 ((need z:Nat):Int)] w8 fun e w'=>Wrong e∧GP w w' B db sm n S E t):=Lib.hid (HS8.out.mono fun e w' h=>by
    rcases h with ⟨r,v,h1,_⟩|⟨_,h2,h3⟩
    ·rw [hrs] at h1
     cases h1
    ·exact⟨h2,HG8.out.2 _ h3⟩)
   clear HS8 hrs
   go_wp2_with (first
    | (go_at_call 40;refine HND.out.mono ?_;clear HND;rintro e w70 ⟨rfl,rfl⟩)
    | (go_at_call 65;refine HS9.out.mono ?_;clear HS9;rintro e w9 ⟨hw9,hG9⟩;unfold Wrong at hw9;subst hw9;have HG9:=Lib.hid hG9;clear hG9))
   exact HG9.out.pan rfl rfl (fun w' hdk hfr=>⟨hdk,hfr,.inl ⟨Hno.out,rfl⟩⟩)
  | some rr =>
   obtain⟨secs,rest,T1⟩:=rr
   obtain⟨q1,q2,q3,q4,mx,q5⟩:=rsecs_some hrs
   simp only at q1 q2 q3 q4 q5
   obtain⟨L,hL⟩:∃L,L=secs.length:=⟨_,rfl⟩
   obtain⟨rl,hrl⟩:∃rl,rl=rest.length:=⟨_,rfl⟩
   have hLn:L≤n:=by
    have:=q1.len
    rw [List.length_replicate] at this
    omega
   have Hsn:Hid (∀a∈secs,2≤a∧a<n):=Lib.hid (fun a ha=>⟨(q1.two a ha).1,by have:=q1.lt ha;rwa [List.length_replicate] at this⟩)
   have Hpsl:Hid (pslot n bs=if secs≠[]∧zerosB rest=true then some (gen,z,u,secs,T1) else none):=Lib.hid (by rw [Hps.out,hrs];rfl)
   have HS9:Hid (Calls Tryz.prog 65 #[.pointer (some ⟨rb,0,none⟩),.int .i64 ((need z:Nat):Int)] w8 fun e w'=>∃o c,e=.returned (.slice o L c)∧GL w w' B db sm n S E rb tb t T1 secs L o c∧∃off cap,w'.cell? ⟨rb,0,none⟩=some (.slice (some ⟨g,off,none⟩) rl cap)∧rl≤cap∧cap≤maxLen∧BytesAt w' (.slice (some ⟨g,off,none⟩) rl cap) rest∧∀x∈rest,x<256):=Lib.hid (HS8.out.mono fun e w' h=>by
    rcases h with ⟨r,v,h1,h2,h3⟩|⟨h1,_⟩
    ·rw [hrs] at h1
     obtain rfl:=Option.some.inj h1
     simp only at h3
     obtain⟨o,c,rfl,_⟩:=ownsRow_shape h3.row
     have hg9:=HG8.out.2 _ h3.fr
     obtain⟨off,cap,k1,k2,k3,k4,k5,k6⟩:=h3.rd
     rw [← hL] at h2 h3
     rw [← hrl] at k1 k2
     have hrow:=h3.row
     rw [← hL] at hrow
     refine⟨o,c,h2,⟨hg9,⟨_,k1⟩,h3.mrk,ownsRow_mono hrow hs8⟩,off,cap,by rw [cell_of_heap k1];rfl,k2,k3,?_,k6⟩
     unfold BytesAt
     rw [← hrl]
     exact⟨_,_,rfl,fun e=>(by cases e),fun _=>⟨g,off,rfl,k4⟩⟩
    ·rw [hrs] at h1
     cases h1)
   have HL:=Lib.hid hL
   have Hrl:=Lib.hid hrl
   have Hq1:=Lib.hid q1
   have Hq2:=Lib.hid q2
   have Hq3:=Lib.hid q3
   have Hq4:=Lib.hid q4
   clear HS8 hrs hL hrl q1 q2 q3 q4 q5 HG8 Hps
   by_cases hL0:L=0
   ·have Hno:Hid (Ext.good isNm n t.view bs=none):=Lib.hid (good_none (by rw [Hpsl.out,if_neg (fun h=>h.1 (List.eq_nil_of_length_eq_zero (by rw [← HL.out];exact hL0)))]))
    subst hL0
    go_wp2_with (first
     | (go_at_call 40;refine HND.out.mono ?_;clear HND;rintro e w70 ⟨rfl,rfl⟩)
     | (go_at_call 65;refine HS9.out.mono ?_;clear HS9;rintro e w9 ⟨so,sc,rfl,h9,off,cap,k0,k1,k2,k3,k4⟩;have H9:=Lib.hid h9;clear h9 k3 k4)
     | (go_at_call 63;refine (need2_no _ (by first | rfl | (simp;done) | (simp;omega))).mono ?_;rintro e w90 ⟨hw90,rfl⟩;unfold Wrong at hw90;subst hw90))
    exact H9.out.gp.pan rfl rfl (fun w' hdk hfr=>⟨hdk,hfr,.inl ⟨Hno.out,rfl⟩⟩)
   ·have Hne:Hid (secs≠[]):=Lib.hid (fun e=>hL0 (by rw [HL.out,e];rfl))
    cases hzr:zerosB rest with
    | false =>
     have Hno:Hid (Ext.good isNm n t.view bs=none):=Lib.hid (good_none (by rw [Hpsl.out,if_neg (fun h=>by rw [hzr] at h;cases h.2)]))
     have Hzr:=Lib.hid hzr
     clear hzr
     go_wp2_with (first
      | (go_at_call 40;refine HND.out.mono ?_;clear HND;rintro e w70 ⟨rfl,rfl⟩)
      | (go_at_call 65;refine HS9.out.mono ?_;clear HS9;rintro e w9 ⟨so,sc,rfl,h9,off,cap,k0,k1,k2,k3,k4⟩;have H9:=Lib.hid h9;have HT9:=Lib.hid (trim_any k3 Hrl.out.symm k4 k1 (by unfold maxLen at k2;omega));clear h9 k3 k4)
      | (go_at_call 66;refine HT9.out.mono ?_;clear HT9;rintro e w10 ⟨o',m,c',rfl,hm,q,hq⟩;have hm1:((m:Int) == 0)=false:=(by have h0:m≠0:=(fun e=>by rw [Hzr.out] at hm;exact absurd (hm.1 e) (by decide));simpa using h0);have Hq:=Lib.hid hq;clear hm hq)
      | (go_at_call 63;refine (need2_no _ (by first | rfl | (simp;done) | (simp;omega))).mono ?_;rintro e w90 ⟨hw90,rfl⟩;unfold Wrong at hw90;subst hw90))
     exact (Hq.out ▸ H9.out.gp.drewN q).pan rfl rfl (fun w' hdk hfr=>⟨hdk,hfr,.inl ⟨Hno.out,rfl⟩⟩)
    | true =>
     have Hpss:Hid (pslot n bs=some (gen,z,u,secs,T1)):=Lib.hid (by rw [Hpsl.out,if_pos ⟨Hne.out,hzr⟩])
     have Hzr:=Lib.hid hzr
     clear hzr Hpsl
     go_upto_region 10 with (first
      | (go_at_call 40;refine HND.out.mono ?_;clear HND;rintro e w70 ⟨rfl,rfl⟩)
      | (go_at_call 65;refine HS9.out.mono ?_;clear HS9;rintro e w9 ⟨so,sc,rfl,h9,off,cap,k0,k1,k2,k3,k4⟩;have H9:=Lib.hid h9;have HT9:=Lib.hid (trim_any k3 Hrl.out.symm k4 k1 (by unfold maxLen at k2;omega));clear h9 k3 k4)
      | (go_at_call 66;refine HT9.out.mono ?_;clear HT9;rintro e w10 ⟨o',m,c',rfl,hm,q,hq⟩;obtain rfl:m=0:=hm.2 Hzr.out;have HGA:Hid (GL w w10 B db sm n S E rb tb t T1 secs L so sc):=Lib.hid (by rw [hq];exact H9.out.drewN q);clear hm hq)
      | (go_at_call 63;refine (need2_ok _ (by first | rfl | (simp;done) | (simp;omega))).mono ?_;rintro e w90 ⟨rfl,rfl⟩))
     have hvo:=hdiok.view
     have hcl:Hid (∀j,j≤L→(content t.view (secs.take j)).length=j * 256):=Lib.hid (fun j hj=>by
      rw [content_len (fun b hb=>(hvo.2 b hb).1) (fun a ha=>by rw [hvo.1];exact (Hsn.out a (List.mem_of_mem_take ha)).2),List.length_take,Nat.min_eq_left (by rw [← HL.out];exact hj)])
     have Hc8:Hid (∀j,∀x∈content t.view (secs.take j),x<256):=Lib.hid (fun j x hx=>by
      unfold content at hx
      obtain⟨a,ha,hxa⟩:=List.mem_flatMap.1 hx
      have har:a<t.view.length:=by rw [hvo.1];exact (Hsn.out a (List.mem_of_mem_take ha)).2
      rw [List.getD_eq_getElem?_getD,List.getElem?_eq_getElem har] at hxa
      exact (hvo.2 _ (List.getElem_mem har)).2 x hxa)
     have Hcalm:=Lib.hid hcalm
     clear hvo hcalm H9
     have htick:t.tick=t:=Hcalm.out.tick
     have Htick:=Lib.hid htick
     clear htick
     go_wp2_with fail
     go_loopw [14,73] (fun dv iv wr=>∃(j dn:Nat) (do':Option Addr) (dc:Nat),j≤L∧iv=.int .i64 j∧dn=j * 256∧dv=.slice do' dn dc∧GL w wr B db sm n S E rb tb t T1 secs L so sc∧wr.ownsRow (S+2) 5 1 (.slice do' dn dc) dn (octs (content t.view (secs.take j)))) (fun _ iv _=>L-(intOf iv).toNat)
     case atStart=>exact⟨0,0,none,0,Nat.zero_le _,rfl,rfl,rfl,HGA.out,World.ownsRow_nil _ _ _ _⟩
     case round =>
      obtain⟨j,dn,do',dc,hj,rfl,hdn,rfl,hgl9,hrow⟩:=hrel
      have Hgl:=Lib.hid hgl9
      have Hrow:=Lib.hid hrow
      have Hdn:=Lib.hid hdn
      by_cases hlt:j<L
      ·obtain⟨a,ha⟩:∃a,secs[j]?=some a:=⟨_,List.getElem?_eq_getElem (by rw [← HL.out];exact hlt)⟩
       have han:=(Hsn.out a (List.mem_of_getElem? ha)).2
       obtain⟨lb,rfl⟩:∃lb,so=some ⟨lb,0,none⟩:=by
        rcases hgl9.row.2 with ⟨_,h0⟩|⟨gg,cap,cur,e,_⟩
        ·omega
        ·simp only [Value.slice.injEq] at e
         exact⟨gg,e.1⟩
       have hca:wr.cell? ⟨lb,j,none⟩=some (.int .i64 (a:Nat)):=by
        have h1:=ownsRow_cell hgl9.row j (.int .i64 (a:Nat)) (by simp [nats,ha])
        simpa using h1
       have Hsn2:=Lib.hid (content_snoc (L:=t.view) ha)
       have hBr:B≤wr.heap.size:=by have:=hgl9.gp.fr.size;omega
       have HR:=Lib.hid (dread_ok a hgl9.gp.dk han (by omega) hcac hBr Hcalm.out.ok)
       obtain⟨i5,hi5,hz5,hy5,hx5⟩:=info_parts Tryz.info5
       have hdb:dn≤100000:=by omega
       have hsz9:=hgl9.gp.hsz
       have hle:=hcl.out j (by omega)
       generalize hcont:content t.view (secs.take j)=cj at *
       clear hgl9 hrow ha hdn hcont
       go_wp2_with (first
        | (go_at_call 34;refine HR.out.mono ?_;clear HR;rintro e w1 ⟨gg,gcc,rfl,h0,h1,h2⟩;rw [Htick.out] at h1;have HG1:=Lib.hid (Hgl.out.read h1 h2);have HB1:=Lib.hid h0;have hw1s:=h2.size;have HR1:=Lib.hid (h2.keepRow Hrow.out (by decide) (fun k hk2 hm=>by
          obtain⟨es,cm,hkm⟩:=Hgl.out.gp.dk.seen.kind
          obtain⟨cur,hc⟩:=own_kind Hrow.out hk2
          rw [List.mem_singleton.1 hm,hkm] at hc
          cases hc));clear h0 h1 h2)
        | (at_builtin;refine wpList_append_flat rfl _ _ rfl Tryz.underlying34 size5 hi5 hz5 hy5 hx5 rfl Nat.one_pos (Nat.le_refl _) (S+2) dn 256 (.slice do' dn dc) (.slice (some ⟨gg,0,none⟩) 256 gcc) (octs cj) (octs (sec t.view a)) rfl rfl HR1.out (by omega) (by have h9:=HB1.out.at.1;unfold BytesAt at h9;rw [HB1.out.2.2] at h9;exact h9) (by rw [octs_len,HB1.out.2.2]) one_octs (by omega) ?_;intro v' w2 hown2 hg2 hat2;have HG2:=Lib.hid (HG1.out.grow HR1.out hg2);have Hown2:=Lib.hid hown2;obtain⟨vo,vc,rfl,_⟩:=ownsRow_shape hown2;clear hown2 hg2 hat2))
       go_roundw
       case rel =>
        refine⟨j+1,dn+256,vo,vc,by omega,by go_num,by have:=Hdn.out;omega,rfl,HG2.out,?_⟩
        rw [Hsn2.out,octs_append]
        exact Hown2.out
       case measure=>simp [intOf];omega
      ·obtain rfl:j=L:=by omega
       have hfull:secs.take j=secs:=List.take_of_length_le (by rw [← HL.out];exact Nat.le_refl _)
       have hCl:=hcl.out j (Nat.le_refl _)
       have hC8:=Hc8.out j
       rw [hfull] at hrow hCl hC8
       rw [← hdn] at hCl
       have hdcs:dn≤dc∧dc≤maxLen∧∃dg,do'=some ⟨dg,0,none⟩:=by
        rcases hrow.2 with ⟨_,h0⟩|⟨gg,cap,cur,e,_,_,h1,h2,_⟩
        ·omega
        ·simp only [Value.slice.injEq] at e
         exact⟨by omega,by rw [e.2.2];exact h2,gg,e.1⟩
       obtain⟨hdc1,hdc2,dg,rfl⟩:=hdcs
       unfold maxLen at hdc2
       have hzd:z≤dn:=by
        have h1:=Hq3.out
        rw [← HL.out] at h1
        unfold need at h1
        omega
       have hdn2:dn≤20000:=by omega
       have Hgd:Hid (Ext.good isNm n t.view bs=if zerosB ((content t.view secs).drop z)=true∧crc ((content t.view secs).take z)=u then (pdir isNm ((content t.view secs).take z) T1).bind fun F=>if dirB F=(content t.view secs).take z∧slotB gen ((content t.view secs).take z) secs=bs then some ⟨gen,secs,F,(content t.view secs).take z⟩ else none else none):=Lib.hid (good_eq Hpss.out)
       have hdgl:dg<wr.heap.size:=(ownsRow_block hrow (g:=dg) rfl).2
       have hdgS:S+2≤dg:=(ownsRow_block hrow (g:=dg) rfl).1
       obtain⟨dcur,hdgk⟩:=own_kind hrow (g:=dg) rfl
       have hdt:dg≠tb:=fun e=>by
        obtain⟨cur,hc⟩:=own_kind hgl9.mrk.2 (g:=tb) rfl
        rw [← e,hdgk] at hc
        simp at hc
       have hcellD:=ownsRow_cell hrow
       generalize content t.view secs=C at *
       obtain⟨o2,ho2,ho2n,hsl⟩:=slice_from (dg:=dg) hzd hdc1 wr
       have HT:=Lib.hid (trim_any (w:=wr) (o:=o2) (n:=dn-z) (c:=dc-z) (bs:=C.drop z) (by
        unfold BytesAt
        rw [List.length_drop,hCl]
        refine⟨_,_,rfl,fun e=>absurd e ho2n,fun hne9=>?_⟩
        have hnz:dn-z≠0:=fun e=>hne9 (by
         have h9:(C.drop z).length=0:=by rw [List.length_drop,hCl];exact e
         rw [List.eq_nil_of_length_eq_zero h9]
         rfl)
        refine⟨dg,z,ho2 hnz,fun i v hv=>?_⟩
        unfold octs at hv
        rw [List.map_drop,List.getElem?_drop] at hv
        have h9:=hcellD (z+i) v hv
        simpa using h9) (by rw [List.length_drop,hCl]) (fun x hx=>hC8 x (List.mem_of_mem_drop hx)) (by omega) (by omega))
       obtain⟨D,hD⟩:∃D,D=C.take z:=⟨_,rfl⟩
       have hDl:D.length=z:=by rw [hD,List.length_take,hCl];omega
       have hD8:∀x∈D,x<256:=fun x hx=>hC8 x (by rw [hD] at hx;exact List.mem_of_mem_take hx)
       have HDc:Hid (∀W:World,W.heap[dg]?=wr.heap[dg]?→CellsAt W dg 0 (octs D)):=Lib.hid (fun W hW i v hv=>by
        unfold octs at hv
        rw [hD,List.map_take] at hv
        have hi:i<z:=by
         have:=(List.getElem?_eq_some_iff.1 hv).1
         rw [List.length_take] at this
         omega
        rw [List.getElem?_take_of_lt hi] at hv
        rw [← hcellD i v hv]
        exact World.cell?_of_block hW)
       have HDb:Hid (∀W:World,W.heap[dg]?=wr.heap[dg]?→BytesAt W (.slice (some ⟨dg,0,none⟩) z dc) D):=Lib.hid (fun W hW=>by
        unfold BytesAt
        rw [hDl]
        exact⟨_,_,rfl,fun e=>(by cases e),fun _=>⟨dg,0,rfl,HDc.out W hW⟩⟩)
       rw [← hD] at Hgd
       have Hdgk:=Lib.hid hdgk
       have hcw:=hgl9.gp.fr.size
       have HHH:=Lib.hid hH
       have HDl:=Lib.hid hDl
       have HD8:=Lib.hid hD8
       clear hgl9 hrow hdn hfull hCl hC8 hcellD hdgk hD hDl hD8 Hc8 hcl
       cases hz1:zerosB (C.drop z) with
       | false =>
        have Hno:Hid (Ext.good isNm n t.view bs=none):=Lib.hid (by rw [Hgd.out,if_neg (fun h=>by rw [hz1] at h;cases h.1)])
        have Hz1:=Lib.hid hz1
        clear hz1
        go_wp2_with (first
         | (go_at_call 66;refine HT.out.mono ?_;clear HT;rintro e w10 ⟨o',m,c',rfl,hm,q,hq⟩;have hm1:((m:Int) == 0)=false:=(by have h0:m≠0:=(fun e=>by rw [Hz1.out] at hm;exact absurd (hm.1 e) (by decide));simpa using h0);have Hq:=Lib.hid hq;clear hm hq)
         | (go_at_call 63;refine (need2_no _ (by first | rfl | (simp;done) | (simp;omega))).mono ?_;rintro e w90 ⟨hw90,rfl⟩;unfold Wrong at hw90;subst hw90))
        exact (Hq.out ▸ Hgl.out.gp.drewN q).pan rfl rfl (fun w' hdk hfr=>⟨hdk,hfr,.inl ⟨Hno.out,rfl⟩⟩)
       | true =>
        have Hz1:=Lib.hid hz1
        clear hz1
        go_upto_region 21 with (first
         | (go_at_call 66;refine HT.out.mono ?_;clear HT;rintro e w10 ⟨o',m,c',rfl,hm,q,hq⟩;obtain rfl:m=0:=hm.2 Hz1.out;have HGA:Hid (GL w w10 B db sm n S E rb tb t T1 secs j so sc∧w10.heap=wr.heap):=Lib.hid (by rw [hq];exact⟨Hgl.out.drewN q,rfl⟩);clear hm hq)
         | (go_at_call 63;refine (need2_ok _ (by first | rfl | (simp;done) | (simp;omega))).mono ?_;rintro e w90 ⟨rfl,rfl⟩))
        obtain⟨hGA,hAh⟩:=HGA.out
        obtain⟨cr2,hcr2⟩:∃cr2,cr2=crc D:=⟨_,rfl⟩
        have hs10:wr.heap.size=w10.heap.size:=by rw [hAh]
        have HSM:Hid (Calls Tryz.prog 42 #[.slice (some ⟨dg,0,none⟩) z dc] w10 fun e w'=>e=.returned (.int .u32 (cr2:Nat))∧Below w10.heap.size w10 w'):=Lib.hid (by
         rw [hcr2]
         exact sum_any HHH.out (by omega) (HDb.out w10 (by rw [hAh])) (by rw [HDl.out];omega) HD8.out)
        have hcrl2:cr2<4294967296:=by rw [hcr2];exact crc_small HD8.out
        have Hcr2:=Lib.hid hcr2
        have HGA2:=Lib.hid hGA
        have HAh:=Lib.hid hAh
        clear hcr2 hGA hAh HGA
        by_cases hcu:cr2=u
        ·subst hcu
         have HGF:Hid (∀(w4 A:World),Below w10.heap.size w10 w4→A=w4.alloc (.cells #[.slice (some ⟨dg,0,none⟩) z dc,.slice (some ⟨tb,0,none⟩) n n] 122)→GL w A B db sm n S E rb tb t T1 secs j so sc∧RdAt A w4.heap.size dg D (.slice (some ⟨tb,0,none⟩) n n)∧Marks A w.heap.size tb n n T1∧(∀b,b<wr.heap.size→A.heap[b]?=wr.heap[b]?)∧wr.heap.size≤w4.heap.size∧A.heap.size=w4.heap.size+1):=Lib.hid (fun w4 A hb hA=>by
          have hs4:=hb.size
          have hbA:Below w4.heap.size w4 A:=by rw [hA];exact (Below.refl _ _).alloc (Nat.le_refl _) _
          have hg4:=(HGA2.out.below hb).below hbA
          have hk:∀b,b<wr.heap.size→A.heap[b]?=wr.heap[b]?:=fun b hbw=>by
           rw [hbA.block b (by omega),hb.block b (by omega),HAh.out]
          have hAs:A.heap.size=w4.heap.size+1:=by rw [hA];simp
          refine⟨hg4,⟨0,dc,?_,by rw [HDl.out];omega,by unfold maxLen;omega,HDc.out A (hk dg hdgl),by omega,HD8.out⟩,hg4.mrk,hk,by omega,hAs⟩
          rw [HDl.out,hA]
          exact heap_alloc_new _ _)
         have HFC:Hid (∀(w4 A:World),Below w10.heap.size w10 w4→A=w4.alloc (.cells #[.slice (some ⟨dg,0,none⟩) z dc,.slice (some ⟨tb,0,none⟩) n n] 122)→Calls Tryz.prog 67 #[.pointer (some ⟨w4.heap.size,0,none⟩)] A fun e w'=>RFilesEnd A w.heap.size w4.heap.size tb D T1 e w'∧(Fr 0 [] [w4.heap.size,tb] A w'→GP w w' B db sm n S E t∧w'.ownsRow w.heap.size 3 1 (.slice so j sc) j (nats secs)∧∀b,b<wr.heap.size→b≠tb→w'.heap[b]?=wr.heap[b]?)):=Lib.hid (fun w4 A hb hA=>by
          obtain⟨hgA,hrA,hmA,hkA,hsA,hAs⟩:=HGF.out w4 A hb hA
          obtain⟨off9,cap9,hrc,_⟩:=id hrA
          obtain⟨cur9,hmc⟩:=own_kind hmA.2 (g:=tb) rfl
          refine (rd_files hrA hmA (by omega) hdt (by omega) (by rw [HDl.out];omega)).mono fun e w' hF=>⟨hF,fun hf=>⟨hgA.gp.go hf (fun x hx=>?_),ownsRow_blocks hgA.row (fun b hb=>hf.same0 (ownsRow_block hgA.row hb).2 (fun hm=>?_)),fun b hb hne=>(hf.same0 (by omega) (by simp only [List.mem_cons,List.not_mem_nil,or_false,not_or];omega)).trans (hkA b hb)⟩⟩
          ·simp only [List.mem_cons,List.not_mem_nil,or_false] at hx
           rcases hx with rfl | rfl
           ·exact⟨by omega,_,_,_,hrc,by decide⟩
           ·exact⟨by omega,_,_,_,hmc,by decide⟩
          ·obtain⟨cur,hc⟩:=own_kind hgA.row hb
           simp only [List.mem_cons,List.not_mem_nil,or_false] at hm
           rcases hm with rfl | rfl
           ·rw [hrc] at hc
            simp at hc
           ·rw [hmc] at hc
            simp at hc)
         cases hpd:pdir isNm D T1 with
         | none =>
          have Hno:Hid (Ext.good isNm n t.view bs=none):=Lib.hid (by rw [Hgd.out,if_pos ⟨Hz1.out,Hcr2.out.symm⟩,hpd];rfl)
          have HFX:Hid (∀(w4 A:World),Below w10.heap.size w10 w4→A=w4.alloc (.cells #[.slice (some ⟨dg,0,none⟩) z dc,.slice (some ⟨tb,0,none⟩) n n] 122)→Calls Tryz.prog 67 #[.pointer (some ⟨w4.heap.size,0,none⟩)] A fun e w'=>Wrong e∧GP w w' B db sm n S E t):=Lib.hid (fun w4 A hb hA=>(HFC.out w4 A hb hA).mono fun e w' ⟨hF,hK⟩=>by
           rcases hF with ⟨F',mb,h1,_⟩|⟨_,h2,h3⟩
           ·rw [hpd] at h1
            cases h1
           ·exact⟨h2,(hK h3).1⟩)
          clear hpd HFC HGF
          go_wp2_with (first
           | (go_at_call 42;refine HSM.out.mono ?_;clear HSM;rintro e w4 ⟨rfl,hb⟩;have k4:w4.cell? ⟨rb,1,none⟩=some (.slice (some ⟨tb,0,none⟩) n n):=(by obtain⟨rv,hc⟩:=(HGA2.out.below hb).cr;rw [cell_of_heap hc];rfl);have HF:=Lib.hid (HFX.out w4 _ hb rfl);clear hb HFX)
           | (go_at_call 63;refine (need2_ok _ (by first | rfl | (simp;done) | (simp;omega))).mono ?_;rintro e w90 ⟨rfl,rfl⟩)
           | (go_at_call 67;refine HF.out.mono ?_;clear HF;rintro e w6 ⟨hw6,hG6⟩;unfold Wrong at hw6;subst hw6;have HG6:=Lib.hid hG6;clear hG6))
          exact HG6.out.pan rfl rfl (fun w' hdk hfr=>⟨hdk,hfr,.inl ⟨Hno.out,rfl⟩⟩)
         | some F =>
          have HFX:Hid (∀(w4 A:World),Below w10.heap.size w10 w4→A=w4.alloc (.cells #[.slice (some ⟨dg,0,none⟩) z dc,.slice (some ⟨tb,0,none⟩) n n] 122)→Calls Tryz.prog 67 #[.pointer (some ⟨w4.heap.size,0,none⟩)] A fun e w'=>∃mb,e=.returned (.map (some mb))∧w.heap.size≤mb∧SMap w' w.heap.size tb mb F.length F∧(GP w w' B db sm n S E t∧wr.heap.size≤w'.heap.size)∧w'.ownsRow w.heap.size 3 1 (.slice so j sc) j (nats secs)∧∀b,b<wr.heap.size→b≠tb→w'.heap[b]?=wr.heap[b]?):=Lib.hid (fun w4 A hb hA=>(HFC.out w4 A hb hA).mono fun e w' ⟨hF,hK⟩=>by
           obtain⟨_,_,_,_,hs4,hAs⟩:=HGF.out w4 A hb hA
           rcases hF with ⟨F',mb,h1,h2,h3,h4,h5⟩|⟨h1,_⟩
           ·rw [hpd] at h1
            obtain rfl:=Option.some.inj h1
            obtain⟨k1,k2,k3⟩:=hK h5
            have:=h5.size
            exact⟨mb,h2,by omega,h4.low (by omega),⟨k1,by omega⟩,k2,k3⟩
           ·rw [hpd] at h1
            cases h1)
          obtain⟨hPar,hF256⟩:=pdir_some hpd HD8.out
          have hT1:T1.length=n:=by rw [Hq2.out,setAll_len,List.length_replicate]
          have hfok:∀p∈F,FileOk p:=fun p hp=>by
           have h1:=hPar.ok p hp
           obtain⟨h2,h3⟩:=hPar.size hp
           have h4:=h1.len
           rw [hT1] at h2 h3
           refine⟨by omega,by omega,h1.sum,fun a ha=>?_,by omega⟩
           have h5:=hPar.secs.lt (List.mem_flatMap.2 ⟨p,hp,ha⟩)
           omega
          have hdlF:dirLen F≤1000000:=Nat.le_trans (hPar.dir hF256) (by decide)
          have Hpd:=Lib.hid hpd
          have HPar:=Lib.hid hPar
          clear hpd HFC HGF hPar
          by_cases hdF:dirB F=D
          ·have hdec:decide (dirB F=D)=true:=by simpa using hdF
           have hsm7:∀a∈secs,a≤1000000:=fun a ha=>by have:=(Hsn.out a ha).2;omega
           by_cases hsl2:slotB gen D secs=bs
           ·have hdec2:decide (slotB gen D secs=bs)=true:=by simpa using hsl2
            have Hyes:Hid (Ext.good isNm n t.view bs=some ⟨gen,secs,F,D⟩):=Lib.hid (by
             rw [Hgd.out,if_pos ⟨Hz1.out,Hcr2.out.symm⟩,Hpd.out]
             show (if _ then _ else _)=_
             rw [if_pos ⟨hdF,hsl2⟩])
            clear hdF hsl2
            have HMD:Hid (∀(w6:World) (mb:Nat),SMap w6 w.heap.size tb mb F.length F→w.heap.size≤mb→w6.ownsRow w.heap.size 3 1 (.slice so j sc) j (nats secs)→∀(w7 w9:World),GP w w9 B db sm n S E t→Below w6.heap.size w6 w7→Below w7.heap.size w7 w9→Calls Tryz.prog 23 #[.pointer (some ⟨db,0,none⟩),.int .i64 (which:Nat),.int .u64 (gen:Nat),.map (some mb),.slice so j sc] w9 (MadeEnd w9 B db mb F.length n which gen (.slice so j sc) F secs)):=Lib.hid (fun w6 mb hsm hmb hr w7 w9 hG h67 h79=>by
             have ho:Olds w6 w9:=(Olds.of_below h67).trans (Olds.of_below h79)
             refine made_any hG.dk (Nat.le_trans hB hG.fr.size) hn ((hsm.olds ho).low hB) (by omega) (by omega) ?_ (fun a ha=>(Hsn.out a ha).2) (by rw [← HL.out];omega) (fun p hp=>⟨fun a ha=>?_,?_⟩) hfok (fun a=>?_)
             ·rw [← HL.out]
              exact ownsRow_mono (ownsRow_olds hr ho) hB
             ·have h5:=HPar.out.secs.lt (List.mem_flatMap.2 ⟨p,hp,ha⟩)
              omega
             ·have h5:=(HPar.out.size hp).1
              omega
             ·have h5:=HPar.out.cnt a
              have h6:secs.count a≤secs.length:=List.count_le_length
              rw [← HL.out] at h6
              omega)
            go_wp2_with (first
             | (go_at_call 42;refine HSM.out.mono ?_;clear HSM;rintro e w4 ⟨rfl,hb⟩;have k4:w4.cell? ⟨rb,1,none⟩=some (.slice (some ⟨tb,0,none⟩) n n):=(by obtain⟨rv,hc⟩:=(HGA2.out.below hb).cr;rw [cell_of_heap hc];rfl);have HF:=Lib.hid (HFX.out w4 _ hb rfl);clear hb HFX)
             | (go_at_call 63;refine (need2_ok _ (by first | rfl | (simp;done) | (simp;omega))).mono ?_;rintro e w90 ⟨rfl,rfl⟩)
             | (go_at_call 67;refine HF.out.mono ?_;clear HF;rintro e w6 ⟨mb,rfl,hmb,hsm6,hG6,hr6,hk6⟩;have HG6:=Lib.hid hG6;have Hr6:=Lib.hid hr6;have Hk6:=Lib.hid hk6;have Hsm6:=Lib.hid hsm6;have HSB:=Lib.hid (sbytes_any hsm6 (by omega) hfok hdlF);have HMD6:=Lib.hid (HMD.out w6 mb hsm6 hmb hr6);clear hG6 hr6 hk6 hsm6 HMD)
             | (go_at_call 24;refine HSB.out.mono ?_;clear HSB;rintro e w7 ⟨v7,rfl,hr7,hb7⟩;have h79:=hr7.1;unfold Row8 at h79;rw [hr7.2.2] at h79;obtain⟨vo,vc,rfl,_⟩:=ownsRow_shape h79;have hb7s:=hb7.size;have hd7:w7.heap[dg]?=wr.heap[dg]?:=((hb7.block dg (Nat.lt_of_lt_of_le hdgl HG6.out.2)).trans (Hk6.out dg hdgl hdt));have HEq:=Lib.hid ((bequal_any hr7.at.1 (HDb.out w7 hd7) hr7.2.2 HDl.out hr7.2.1 HD8.out).mono fun e w' h=>And.intro (h.1.trans (ret_bool hdec)) h.2);have Hb7:=Lib.hid hb7;have Hd7:=Lib.hid hd7;clear hr7 hb7 h79 hd7)
             | (go_at_call 68;refine HEq.out.mono ?_;clear HEq;rintro e w91 ⟨rfl,rfl⟩)
             | (go_at_call 30;refine (slot_any HHH.out gen (.slice (some ⟨dg,0,none⟩) z dc) z dc (some ⟨dg,0,none⟩) so sc j secs (by have:=HG6.out.1.fr.size;omega) hgl2 rfl ⟨HDb.out w7 Hd7.out,HD8.out,HDl.out⟩ (by omega) HL.out.symm (by omega) hsm7 (owns_flat (ownsRow_olds Hr6.out (Olds.of_below Hb7.out))) Hq4.out).mono ?_;rintro e w9 ⟨v9,rfl,hr9,hb9⟩;have h99:=hr9.1;unfold Row8 at h99;rw [hr9.2.2] at h99;obtain⟨zo,zc,rfl,_⟩:=ownsRow_shape h99;have hG9:=(HG6.out.1.below Hb7.out).below hb9;have HEq2:=Lib.hid ((bequal_any hr9.at.1 (HBS2.out w9 hG9) hr9.2.2 Hbl.out hr9.2.1 Hb8.out).mono fun e w' h=>And.intro (h.1.trans (ret_bool hdec2)) h.2);have HG9:=Lib.hid hG9;have Hb9:=Lib.hid hb9;clear hr9 hb9 h99 hG9)
             | (go_at_call 68;refine HEq2.out.mono ?_;clear HEq2;rintro e w92 ⟨rfl,rfl⟩)
             | (go_at_call 23;refine (HMD6.out w7 w9 HG9.out Hb7.out Hb9.out).mono ?_;rintro e wM ⟨hbM,sb,tb2,xb,rfl,hs1,hs2,hs3,hcM,hrM⟩;have hGM:=HG9.out.below hbM;have cSM:wM.cell? ⟨S,0,none⟩=some (.pointer none):=(by rw [cell_of_heap hGM.cS];rfl);have fSM:wM.frozen? ⟨S,0,none⟩=false:=(by simp [World.frozen?,hGM.cS]);have hEM:(wM.setCell ⟨S,0,none⟩ (.pointer (some ⟨sb,0,none⟩))).heap[E]?=some (.cells #[.int .u16 0] 27 (0,0)):=((Below.heap_setCell _ _ _ _ (by show E≠S;have:=hGM.hE;omega)).trans hGM.cE);have cEM:(wM.setCell ⟨S,0,none⟩ (.pointer (some ⟨sb,0,none⟩))).cell? ⟨E,0,none⟩=some (.int .u16 0):=(by rw [cell_of_heap hEM];rfl);have fEM:(wM.setCell ⟨S,0,none⟩ (.pointer (some ⟨sb,0,none⟩))).frozen? ⟨E,0,none⟩=false:=(by simp [World.frozen?,hEM]);have HGM:=Lib.hid hGM;have HcM:=Lib.hid hcM;have HrM:=Lib.hid hrM;have Hs:=Lib.hid (And.intro hs1 (And.intro hs2 hs3));have HsM:=Lib.hid hbM.size;clear hbM hs1 hs2 hs3 hcM hrM hGM hEM))
            obtain⟨f1,f2,f3,f4,f5,f6⟩:=good_fin HGM.out (by have:=HG9.out.hsz;have:=Hs.out.1;omega) HcM.out HrM.out rfl
            refine good_ret rfl rfl f1 f2 ?_
            have hw9:=HG9.out.fr.size
            exact⟨f3,f4,.inr ⟨_,sb,tb2,mb,xb,F.length,_,_,Hyes.out,rfl,by have:=Hs.out.1;omega,hmb,by have:=Hs.out.2.2;omega,by have:=Hs.out.2.1;omega,hF256,f5,f6⟩⟩
           ·have hdec2:decide (slotB gen D secs=bs)=false:=by simpa using hsl2
            have Hno:Hid (Ext.good isNm n t.view bs=none):=Lib.hid (by
             rw [Hgd.out,if_pos ⟨Hz1.out,Hcr2.out.symm⟩,Hpd.out]
             show (if _ then _ else _)=_
             rw [if_neg (fun h=>hsl2 h.2)])
            clear hdF hsl2
            go_wp2_with (first
             | (go_at_call 42;refine HSM.out.mono ?_;clear HSM;rintro e w4 ⟨rfl,hb⟩;have k4:w4.cell? ⟨rb,1,none⟩=some (.slice (some ⟨tb,0,none⟩) n n):=(by obtain⟨rv,hc⟩:=(HGA2.out.below hb).cr;rw [cell_of_heap hc];rfl);have HF:=Lib.hid (HFX.out w4 _ hb rfl);clear hb HFX)
             | (go_at_call 63;refine (need2_ok _ (by first | rfl | (simp;done) | (simp;omega))).mono ?_;rintro e w90 ⟨rfl,rfl⟩)
             | (go_at_call 67;refine HF.out.mono ?_;clear HF;rintro e w6 ⟨mb,rfl,hmb,hsm6,hG6,hr6,hk6⟩;have HG6:=Lib.hid hG6;have Hr6:=Lib.hid hr6;have Hk6:=Lib.hid hk6;have Hsm6:=Lib.hid hsm6;have HSB:=Lib.hid (sbytes_any hsm6 (by omega) hfok hdlF);clear hG6 hr6 hk6 hsm6)
             | (go_at_call 24;refine HSB.out.mono ?_;clear HSB;rintro e w7 ⟨v7,rfl,hr7,hb7⟩;have h79:=hr7.1;unfold Row8 at h79;rw [hr7.2.2] at h79;obtain⟨vo,vc,rfl,_⟩:=ownsRow_shape h79;have hb7s:=hb7.size;have hd7:w7.heap[dg]?=wr.heap[dg]?:=((hb7.block dg (Nat.lt_of_lt_of_le hdgl HG6.out.2)).trans (Hk6.out dg hdgl hdt));have HEq:=Lib.hid ((bequal_any hr7.at.1 (HDb.out w7 hd7) hr7.2.2 HDl.out hr7.2.1 HD8.out).mono fun e w' h=>And.intro (h.1.trans (ret_bool hdec)) h.2);have Hb7:=Lib.hid hb7;have Hd7:=Lib.hid hd7;clear hr7 hb7 h79 hd7)
             | (go_at_call 68;refine HEq.out.mono ?_;clear HEq;rintro e w91 ⟨rfl,rfl⟩)
             | (go_at_call 30;refine (slot_any HHH.out gen (.slice (some ⟨dg,0,none⟩) z dc) z dc (some ⟨dg,0,none⟩) so sc j secs (by have:=HG6.out.1.fr.size;omega) hgl2 rfl ⟨HDb.out w7 Hd7.out,HD8.out,HDl.out⟩ (by omega) HL.out.symm (by omega) hsm7 (owns_flat (ownsRow_olds Hr6.out (Olds.of_below Hb7.out))) Hq4.out).mono ?_;rintro e w9 ⟨v9,rfl,hr9,hb9⟩;have h99:=hr9.1;unfold Row8 at h99;rw [hr9.2.2] at h99;obtain⟨zo,zc,rfl,_⟩:=ownsRow_shape h99;have hG9:=(HG6.out.1.below Hb7.out).below hb9;have HEq2:=Lib.hid ((bequal_any hr9.at.1 (HBS2.out w9 hG9) hr9.2.2 Hbl.out hr9.2.1 Hb8.out).mono fun e w' h=>And.intro (h.1.trans (ret_bool hdec2)) h.2);have HG9:=Lib.hid hG9;have Hb9:=Lib.hid hb9;clear hr9 hb9 h99 hG9)
             | (go_at_call 68;refine HEq2.out.mono ?_;clear HEq2;rintro e w92 ⟨rfl,rfl⟩)
             | (go_at_call 63;refine (need2_no _ (by first | rfl | (simp;done) | (simp;omega))).mono ?_;rintro e w90 ⟨hw90,rfl⟩;unfold Wrong at hw90;subst hw90))
            exact HG9.out.pan rfl rfl (fun w' hdk hfr=>⟨hdk,hfr,.inl ⟨Hno.out,rfl⟩⟩)
          ·have hdec:decide (dirB F=D)=false:=by simpa using hdF
           have Hno:Hid (Ext.good isNm n t.view bs=none):=Lib.hid (by
            rw [Hgd.out,if_pos ⟨Hz1.out,Hcr2.out.symm⟩,Hpd.out]
            show (if _ then _ else _)=_
            rw [if_neg (fun h=>hdF h.1)])
           clear hdF
           go_wp2_with (first
            | (go_at_call 42;refine HSM.out.mono ?_;clear HSM;rintro e w4 ⟨rfl,hb⟩;have k4:w4.cell? ⟨rb,1,none⟩=some (.slice (some ⟨tb,0,none⟩) n n):=(by obtain⟨rv,hc⟩:=(HGA2.out.below hb).cr;rw [cell_of_heap hc];rfl);have HF:=Lib.hid (HFX.out w4 _ hb rfl);clear hb HFX)
            | (go_at_call 63;refine (need2_ok _ (by first | rfl | (simp;done) | (simp;omega))).mono ?_;rintro e w90 ⟨rfl,rfl⟩)
            | (go_at_call 67;refine HF.out.mono ?_;clear HF;rintro e w6 ⟨mb,rfl,hmb,hsm6,hG6,hr6,hk6⟩;have HG6:=Lib.hid hG6;have Hr6:=Lib.hid hr6;have Hk6:=Lib.hid hk6;have Hsm6:=Lib.hid hsm6;have HSB:=Lib.hid (sbytes_any hsm6 (by omega) hfok hdlF);clear hG6 hr6 hk6 hsm6)
            | (go_at_call 24;refine HSB.out.mono ?_;clear HSB;rintro e w7 ⟨v7,rfl,hr7,hb7⟩;have h79:=hr7.1;unfold Row8 at h79;rw [hr7.2.2] at h79;obtain⟨vo,vc,rfl,_⟩:=ownsRow_shape h79;have hb7s:=hb7.size;have hd7:w7.heap[dg]?=wr.heap[dg]?:=((hb7.block dg (Nat.lt_of_lt_of_le hdgl HG6.out.2)).trans (Hk6.out dg hdgl hdt));have HEq:=Lib.hid ((bequal_any hr7.at.1 (HDb.out w7 hd7) hr7.2.2 HDl.out hr7.2.1 HD8.out).mono fun e w' h=>And.intro (h.1.trans (ret_bool hdec)) h.2);have Hb7:=Lib.hid hb7;have Hd7:=Lib.hid hd7;clear hr7 hb7 h79 hd7)
            | (go_at_call 68;refine HEq.out.mono ?_;clear HEq;rintro e w91 ⟨rfl,rfl⟩)
            | (go_at_call 63;refine (need2_no _ (by first | rfl | (simp;done) | (simp;omega))).mono ?_;rintro e w90 ⟨hw90,rfl⟩;unfold Wrong at hw90;subst hw90))
           exact (HG6.out.1.below Hb7.out).pan rfl rfl (fun w' hdk hfr=>⟨hdk,hfr,.inl ⟨Hno.out,rfl⟩⟩)
        ·have hcb:((cr2:Int) == (u:Int))=false:=by simp;omega
         have Hno:Hid (Ext.good isNm n t.view bs=none):=Lib.hid (by rw [Hgd.out,if_neg (fun h=>hcu (by rw [Hcr2.out];exact h.2))])
         go_wp2_with (first
          | (go_at_call 42;refine HSM.out.mono ?_;clear HSM;rintro e w11 ⟨rfl,hb⟩;have HG11:=Lib.hid (HGA2.out.below hb);clear hb)
          | (go_at_call 63;refine (need2_no _ (by first | rfl | (simp;done) | (simp;omega))).mono ?_;rintro e w90 ⟨hw90,rfl⟩;unfold Wrong at hw90;subst hw90))
         exact HG11.out.gp.pan rfl rfl (fun w' hdk hfr=>⟨hdk,hfr,.inl ⟨Hno.out,rfl⟩⟩)
 ·have hwv:IntKind.u32.wrap (v4:Int)=(v4:Int):=by rw [IntKind.wrap_u32];omega
  have hsq:((v4:Int) == (cr:Int))=false:=by simp;omega
  have Hno:Hid (Ext.good isNm n t.view bs=none):=Lib.hid (good_none (pslot_bad (by rw [← Hv4.out,← Hcr.out];exact hsum)))
  refine wp_calmD (S:=S) (E:=E) (fun W=>GP w W B db sm n S E t) (fun a W h6 h7 hd hN=>?_) ?_
  ·show Leaves _ _ a.tmps _ a.defers _ _
   rw [hd]
   exact hN.pan h6 h7 (fun w' hdk hfr=>⟨hdk,hfr,.inl ⟨Hno.out,rfl⟩⟩)
  clear hsum
  refine wp_region_any (by kernel_rfl) ?_
  change wpAny _ _ _ _ _ _ _ (World.drew _)
  refine wpAny_take (i:=0) (v:=?v0n) rfl (by kernel_rfl) (by kernel_rfl) (by kernel_rfl) (fun _ _ _ h=>CalmD.put (by decide) h) (Or.inl ⟨by rfl,?h0n⟩) ?r0n
  case h0n =>
   intro W
   go_simp
   all_goals with_reducible rfl
  try simp only [Act.put,List.getElem_toArray,List.getElem_cons_succ,List.getElem_cons_zero,List.setIfInBounds_toArray,List.set_cons_zero,List.set_cons_succ]
  refine wpAny_take (i:=3) (v:=?v3n) rfl (by kernel_rfl) (by kernel_rfl) (by kernel_rfl) (fun _ _ _ h=>CalmD.put (by decide) h) (Or.inl ⟨by rfl,?h3n⟩) ?r3n
  case h3n =>
   intro W
   go_simp
   all_goals with_reducible rfl
  try simp only [Act.put,List.getElem_toArray,List.getElem_cons_succ,List.getElem_cons_zero,List.setIfInBounds_toArray,List.set_cons_zero,List.set_cons_succ]
  refine wpAny_take (i:=4) (v:=?v4n) rfl (by kernel_rfl) (by kernel_rfl) (by kernel_rfl) (fun _ _ _ h=>CalmD.put (by decide) h) (Or.inl ⟨by rfl,?h4n⟩) ?r4n
  case h4n =>
   intro W
   go_simp
   all_goals with_reducible rfl
  try simp only [Act.put,List.getElem_toArray,List.getElem_cons_succ,List.getElem_cons_zero,List.setIfInBounds_toArray,List.set_cons_zero,List.set_cons_succ]
  refine wpAny_ready (rs:=[1]) (by kernel_rfl) (by simp) (AllReady.cons rfl (fun K hK=>?_) AllReady.nil)
  refine step_call (by rfl) 64 _ _ (by rfl) _ (by simp only [List.map_toArray,List.map_cons,List.map_nil];rfl) Tryz.enters_number (S:=fun v w3=>v=.int .i64 (v4:Nat)∧Fr 0 [] [rb+1] Y.drew w3) (HN.out.mono ?_) ?_
  ·rintro e w3 ⟨rfl,_,h3⟩
   exact⟨_,rfl,rfl,h3⟩
  rintro v w3 ⟨rfl,hf3⟩
  have Hf3:=Lib.hid hf3
  have HSm3:=Lib.hid (HSm.out w3 hf3)
  clear hf3 HSm HN
  refine hK _ _ ?_
  clear hK K
  try simp only [Act.put,List.getElem_toArray,List.getElem_cons_succ,List.getElem_cons_zero,List.setIfInBounds_toArray,List.set_cons_zero,List.set_cons_succ]
  refine wpAny_take (i:=2) (v:=?v2n) rfl (by kernel_rfl) (by kernel_rfl) (by kernel_rfl) (fun _ _ _ h=>CalmD.put (by decide) h) (Or.inl ⟨by rfl,?h2n⟩) ?r2n
  case h2n =>
   intro W
   go_simp
   all_goals with_reducible rfl
  try simp only [Act.put,List.getElem_toArray,List.getElem_cons_succ,List.getElem_cons_zero,List.setIfInBounds_toArray,List.set_cons_zero,List.set_cons_succ]
  refine wpAny_ready (rs:=[5]) (by kernel_rfl) (by simp) (AllReady.cons rfl (fun K hK=>?_) AllReady.nil)
  refine step_call (by rfl) 42 _ _ (by rfl) _ (by simp only [List.map_toArray,List.map_cons,List.map_nil];rfl) Tryz.enters_sum (S:=fun v w4=>v=.int .u32 (cr:Nat)∧Below w3.heap.size w3 w4) (HSm3.out.mono ?_) ?_
  ·rintro e w4 ⟨rfl,h4⟩
   exact⟨_,rfl,rfl,h4⟩
  rintro v w4 ⟨rfl,hb4⟩
  have Hb4:=Lib.hid hb4
  clear hb4 HSm3
  refine hK _ _ ?_
  clear hK K
  try simp only [Act.put,List.getElem_toArray,List.getElem_cons_succ,List.getElem_cons_zero,List.setIfInBounds_toArray,List.set_cons_zero,List.set_cons_succ]
  refine wpAny_take (i:=6) (v:=?v6n) rfl (by kernel_rfl) (by kernel_rfl) (by kernel_rfl) (fun _ _ _ h=>CalmD.put (by decide) h) (Or.inl ⟨by rfl,?h6n⟩) ?r6n
  case h6n =>
   intro W
   go_simp
   all_goals with_reducible rfl
  try simp only [Act.put,List.getElem_toArray,List.getElem_cons_succ,List.getElem_cons_zero,List.setIfInBounds_toArray,List.set_cons_zero,List.set_cons_succ]
  refine wpAny_ready (rs:=[7]) (by kernel_rfl) (by simp) (AllReady.cons rfl (fun K hK=>?_) AllReady.nil)
  refine step_panic (by rfl) 63 _ _ (by rfl) _ (by simp only [List.map_toArray,List.map_cons,List.map_nil];rfl) Tryz.enters_need2 (ch:=wrongs false) (T:=fun w5=>w4=w5) ((need2_no _ (by first | rfl | (simp;omega))).mono ?_) ?_
  ·rintro e w5 ⟨h,rfl⟩
   exact⟨h,rfl⟩
  rintro w5 rfl
  exact⟨rfl,rfl,rfl,rfl,HG4.out w3 w4 Hf3.out Hb4.out⟩
end Go.Proofs.YtndjmffnlcilbaaGreatDoor
