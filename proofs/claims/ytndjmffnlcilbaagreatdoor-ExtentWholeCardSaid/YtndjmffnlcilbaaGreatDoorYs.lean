/- Contracts over this program. Their conditions: the slices read as the lists that are named, and lie within the sizes that are named. -/
import Derived.Test.YtndjmffnlcilbaaGreatDoorYr
import Derived.Test.YtndjmffnlcilbaaGreatDoorYp
set_option linter.unusedSimpArgs false
set_option linter.unusedVariables false
set_option linter.deprecated false
set_option linter.unnecessarySimpa false
namespace Go.Proofs.YtndjmffnlcilbaaGreatDoor
open Go Go.RowKit Go.Ix Go.Ext Go.Maps
def fc (l:Fs) (s:Txt):List Value:=[encStr s,.bool ((Ext.look l s).getD ⟨false,0,0,[]⟩).log,.int .i64 (((Ext.look l s).getD ⟨false,0,0,[]⟩).size:Nat),.int .i64 ((runsOf ((Ext.look l s).getD ⟨false,0,0,[]⟩).secs).length:Nat)]
theorem fc_some {l:Fs}{s:Txt}{f:Fi}(h:Ext.look l s=some f):fc l s=[encStr s,.bool f.log,.int .i64 (f.size:Nat),.int .i64 ((runsOf f.secs).length:Nat)]:=by
 unfold fc
 rw [h]
 rfl
def told (l:Fs) (ks:List Txt) (k:Nat):List Value:=(ks.take k).flatMap (fc l)
theorem told_succ {l:Fs}{ks:List Txt}{k:Nat}{s:Txt}{f:Fi}(hs:ks[k]?=some s) (hf:Ext.look l s=some f):told l ks (k+1)=told l ks k++[encStr s,.bool f.log,.int .i64 (f.size:Nat),.int .i64 ((runsOf f.secs).length:Nat)]:=by
 unfold told
 rw [List.take_add_one,hs,List.flatMap_append,← fc_some hf]
 simp
def FilesEnd (w:World) (l:Fs) (e:Ending) (w':World):Prop :=
 Below w.heap.size w w'∧∃(v:Value) (ks:List Txt),e=.returned v∧ks.Perm (keys l)∧w'.ownsRow w.heap.size 56 4 v ks.length (ks.flatMap (fc l))
theorem Tryz.info56:(Tryz.prog.info? 56).map (fun i=>(i.zero,i.size,i.bytes))=some (some (.agg #[encStr [],.bool false,.int .i64 0,.int .i64 0]),4,40):=by kernel_rfl
theorem Tryz.enters_runs:∀(args:Array Value) (w:World),(callFunc 53 args).run Tryz.prog w=.ok (.enter 53 args) w:=enters_of Tryz.func53 (by kernel_rfl) rfl
set_option maxRecDepth 20000 in
set_option maxHeartbeats 4000000 in
theorem files_any {w:World}{B tb nb nm sb:Nat}{l:Fs}{c0 c1 c2 c4 c5 c6 c7 c8:Value}(hsb:w.heap[sb]?=some (.cells #[c0,c1,c2,.map (some nb),c4,c5,c6,c7,c8] 69 (0,0))) (h:SMap w B tb nb nm l) (hnm:nm≤100000) (hl:∀p∈l,FileOk p) (hdl:dirLen l≤1000000) :
  Calls Tryz.prog 20 #[.pointer (some ⟨sb,0,none⟩)] w (FilesEnd w l):=by
 obtain⟨i4,hi4,hz4,hy4,hx4⟩:=info_parts Tryz.info56
 have H:=Lib.hid h
 have Hl:=Lib.hid hl
 have hnd:=h.nodup
 have h3:w.cell? ⟨sb,3,none⟩=some (.map (some nb)):=by rw [cell_of_heap hsb];rfl
 have HK:=Lib.hid (mkeys_any (some nb) w)
 have HS:=Lib.hid (sorted_any h (by omega))
 have Hsb:=Lib.hid hsb
 clear hl h hsb
 go_enter Tryz.func20,Tryz.ntmps20
 go_wp2_with (first
  | (go_at_call 52;refine HK.out.mono ?_;clear HK;rintro e w2 ⟨rfl,rfl⟩)
  | (go_at_call 51;refine HS.out.mono ?_;clear HS;rintro e w3 ⟨kv,ks,rfl,hk3,hp3,hb3⟩;obtain⟨ko,kc,rfl,hko⟩:=ownsRow_shape hk3;have Hk3:=Lib.hid hk3;have Hp3:Hid (ks.Perm (keys l)):=Lib.hid (hp3 ▸ rise_perm hnd);have Hb3:=Lib.hid hb3;clear hk3 hp3 hb3))
 have HB3:Hid (Below w.heap.size w w3):=Lib.hid (((Below.refl _ w).alloc (Nat.le_refl _) _).trans (Hb3.out.mono (Nat.le_succ _)))
 have hs3:=Hb3.out.size
 have hm6:ks.length≤1000000:=by
  have h1:=Hp3.out.length_eq
  have h2:=len_le_dir l
  unfold keys at h1
  rw [List.length_map] at h1
  omega
 generalize hm:ks.length=m at *
 have Hm:=Lib.hid hm
 clear hm
 go_loopw [3,5,6,14] (fun sv _ _ iv wr=>∃k:Nat,k≤m∧iv=.int .i64 k∧wr.ownsRow w.heap.size 56 4 sv k (told l ks k)∧Fr w.heap.size [56] [] w3 wr) (fun _ _ _ iv _=>m-(intOf iv).toNat)
 case atStart=>exact⟨0,Nat.zero_le _,rfl,World.ownsRow_nil _ _ _ _,Fr.refl _ _ _ _⟩
 case round =>
  obtain⟨k,hk,rfl,hrow,hfr⟩:=hrel
  have Hrow:=Lib.hid hrow
  have Hfr:=Lib.hid hfr
  have hsr:=hfr.size
  have hw3:w.heap.size≤w3.heap.size:=HB3.out.size
  have hww:w.heap.size≤wr.heap.size:=by omega
  obtain⟨so,sc,rfl,_⟩:=ownsRow_shape hrow
  clear hrow hfr
  by_cases hlt:k<m
  ·obtain⟨s,hs⟩:∃s,ks[k]?=some s:=⟨_,List.getElem?_eq_getElem (by rw [Hm.out];exact hlt)⟩
   obtain⟨f,hf,hfl⟩:=look_key Hp3.out (List.mem_of_getElem? hs)
   obtain⟨k1,k2,⟨k3,k4⟩,k5,k6⟩:=Hl.out _ hfl
   simp only at k1 k2 k3 k4 k5 k6
   have HN:=Lib.hid (told_succ hs hf)
   obtain⟨kb,rfl⟩:∃kb,ko=some ⟨kb,0,none⟩:=by
    rcases Hk3.out.2 with ⟨_,h0⟩|⟨g,cap,cur,e,_⟩
    ·omega
    ·simp only [Value.slice.injEq] at e
     exact⟨g,e.1⟩
   have hck:wr.cell? ⟨kb,k,none⟩=some (encStr s):=by
    have h1:=ownsRow_cell (Hfr.out.keepRow Hk3.out (by decide) (by simp)) k (encStr s) (by simp [hs])
    simpa using h1
   have hBr:Fr w.heap.size [56] [] w wr:=(Fr.of_below HB3.out (Nat.le_refl _) _ _).trans Hfr.out
   have hcr:wr.cell? ⟨sb,3,none⟩=some (.map (some nb)):=by rw [cell_of_heap (hBr.keep Hsb.out (by simp) (by decide))];rfl
   have hmap:=H.out.fr hBr (by decide) (by simp) (by simp)
   obtain⟨v,hlk,_,_,hval⟩:=hmap.look s (by omega)
   obtain⟨r,rfl,hrr,_⟩:=hval f hf
   obtain⟨ro,rc,rfl,_⟩:=ownsRow_shape hrr
   have Hrr:=Lib.hid hrr
   unfold fval at hlk
   clear hs hf hfl hmap hval hrr
   obtain⟨lg,hlg⟩:∃lg,lg=f.log:=⟨_,rfl⟩
   rw [← hlg] at hlk HN
   clear hlg
   generalize hfz:f.size=fz at *
   generalize hfu:f.sum=fu at *
   generalize hfn:f.secs.length=fn at *
   have HBr:=Lib.hid hBr
   obtain⟨A,hA⟩:∃A:World,A=wr.alloc (.cells #[.bool lg,.int .i64 (fz:Nat),.int .u32 fu,.slice ro fn rc] 91):=⟨_,rfl⟩
   have hAb:A.heap[wr.heap.size]?=some (.cells #[.bool lg,.int .i64 (fz:Nat),.int .u32 fu,.slice ro fn rc] 91 (0,0)):=by rw [hA];exact heap_alloc_new _ _
   have HoA:Hid (Olds wr A):=Lib.hid (by rw [hA];exact Olds.alloc _ _)
   have hAs:A.heap.size=wr.heap.size+1:=by rw [hA];simp
   have HfA:Hid (Fr w.heap.size [56] [] w3 A):=Lib.hid (by rw [hA];exact Hfr.out.alloc hww _)
   have HrowA:=Lib.hid (ownsRow_olds Hrow.out HoA.out)
   have HrrA:=Lib.hid (ownsRow_olds Hrr.out HoA.out)
   have HAb:=Lib.hid hAb
   have HAe:=Lib.hid hA
   have HAs:=Lib.hid hAs
   have HR:=Lib.hid (runs_any (w:=A.drew) ro rc fn f.secs hfn (by omega) (fun a ha=>by have:=k5 a ha;omega) (owns_flat (ownsRow_olds HrrA.out (Olds.drewN A 1))))
   have HSf:Hid (∀W':World,Olds A W'→W'.cell? ⟨wr.heap.size,0,none⟩=some (.bool lg)∧W'.cell? ⟨wr.heap.size,1,none⟩=some (.int .i64 (fz:Nat))∧W'.cell? ⟨wr.heap.size,3,none⟩=some (.slice ro fn rc)):=Lib.hid (fun W' hW=>by
    refine⟨hW.cell ?_,hW.cell ?_,hW.cell ?_⟩<;>(rw [cell_of_heap hAb];rfl))
   have HwA:Hid (w.heap.size≤A.heap.size):=Lib.hid (by omega)
   generalize hrl:(runsOf f.secs).length=rl at *
   have hrl9:rl≤100000:=by
    have h:=runs_take_bound (A:=1000000) (fun a ha=>by have:=k5 a ha;omega) f.secs.length (Nat.le_refl _)
    rw [List.take_length] at h
    rw [← hrl]
    omega
   generalize htk:told l ks k=ts at *
   clear hA hAb hAs hBr hfn hfz hfu hrl htk
   have hkt:k<1000000:=by omega
   go_upto_region 5 with fail
   go_upto_region 6 with fail
   rw [← HAe.out]
   refine wp_region_held_drew (S:=(fun W'=>W'.cell? ⟨wr.heap.size,0,none⟩=some (.bool lg)∧W'.cell? ⟨wr.heap.size,1,none⟩=some (.int .i64 (fz:Nat))∧W'.cell? ⟨wr.heap.size,3,none⟩=some (.slice ro fn rc))) (by kernel_rfl) (HSf.out _ (Olds.drewN A 1)) (fun hHeld=>?_)
   refine wpAnyH_take (i:=0) (v:=?v0) rfl (by kernel_rfl) (by kernel_rfl) (by kernel_rfl) (fun _ _ _ h=>h) (Or.inl ⟨by rfl,?h0⟩) hHeld ?r0
   case h0 =>
    rintro W ⟨s1,s2,s3⟩
    go_simp
    all_goals with_reducible rfl
   try simp only [Act.put,List.getElem_toArray,List.getElem_cons_succ,List.getElem_cons_zero,List.setIfInBounds_toArray,List.set_cons_zero,List.set_cons_succ]
   refine wpAnyH_take (i:=1) (v:=?v1) rfl (by kernel_rfl) (by kernel_rfl) (by kernel_rfl) (fun _ _ _ h=>h) (Or.inl ⟨by rfl,?h1⟩) hHeld ?r1
   case h1 =>
    rintro W ⟨s1,s2,s3⟩
    go_simp
    all_goals with_reducible rfl
   try simp only [Act.put,List.getElem_toArray,List.getElem_cons_succ,List.getElem_cons_zero,List.setIfInBounds_toArray,List.set_cons_zero,List.set_cons_succ]
   refine wpAnyH_take (i:=2) (v:=?v2) rfl (by kernel_rfl) (by kernel_rfl) (by kernel_rfl) (fun _ _ _ h=>h) (Or.inl ⟨by rfl,?h2⟩) hHeld ?r2
   case h2 =>
    rintro W ⟨s1,s2,s3⟩
    go_simp
    all_goals with_reducible rfl
   try simp only [Act.put,List.getElem_toArray,List.getElem_cons_succ,List.getElem_cons_zero,List.setIfInBounds_toArray,List.set_cons_zero,List.set_cons_succ]
   refine wpAnyH_take (i:=3) (v:=?v3) rfl (by kernel_rfl) (by kernel_rfl) (by kernel_rfl) (fun _ _ _ h=>h) (Or.inl ⟨by rfl,?h3⟩) hHeld ?r3
   case h3 =>
    rintro W ⟨s1,s2,s3⟩
    go_simp
    all_goals with_reducible rfl
   try simp only [Act.put,List.getElem_toArray,List.getElem_cons_succ,List.getElem_cons_zero,List.setIfInBounds_toArray,List.set_cons_zero,List.set_cons_succ]
   refine wpAnyH_take (i:=4) (v:=?v4) rfl (by kernel_rfl) (by kernel_rfl) (by kernel_rfl) (fun _ _ _ h=>h) (Or.inl ⟨by rfl,?h4⟩) hHeld ?r4
   case h4 =>
    rintro W ⟨s1,s2,s3⟩
    go_simp
    all_goals with_reducible rfl
   try simp only [Act.put,List.getElem_toArray,List.getElem_cons_succ,List.getElem_cons_zero,List.setIfInBounds_toArray,List.set_cons_zero,List.set_cons_succ]
   refine wpAnyH_take (i:=5) (v:=?v5) rfl (by kernel_rfl) (by kernel_rfl) (by kernel_rfl) (fun _ _ _ h=>h) (Or.inl ⟨by rfl,?h5⟩) hHeld ?r5
   case h5 =>
    rintro W ⟨s1,s2,s3⟩
    go_simp
    all_goals with_reducible rfl
   try simp only [Act.put,List.getElem_toArray,List.getElem_cons_succ,List.getElem_cons_zero,List.setIfInBounds_toArray,List.set_cons_zero,List.set_cons_succ]
   refine wpAnyH_take (i:=6) (v:=?v6) rfl (by kernel_rfl) (by kernel_rfl) (by kernel_rfl) (fun _ _ _ h=>h) (Or.inl ⟨by rfl,?h6⟩) hHeld ?r6
   case h6 =>
    rintro W ⟨s1,s2,s3⟩
    go_simp
    all_goals with_reducible rfl
   try simp only [Act.put,List.getElem_toArray,List.getElem_cons_succ,List.getElem_cons_zero,List.setIfInBounds_toArray,List.set_cons_zero,List.set_cons_succ]
   refine wpAnyH_take (i:=7) (v:=?v7) rfl (by kernel_rfl) (by kernel_rfl) (by kernel_rfl) (fun _ _ _ h=>h) (Or.inl ⟨by rfl,?h7⟩) hHeld ?r7
   case h7 =>
    rintro W ⟨s1,s2,s3⟩
    go_simp
    all_goals with_reducible rfl
   try simp only [Act.put,List.getElem_toArray,List.getElem_cons_succ,List.getElem_cons_zero,List.setIfInBounds_toArray,List.set_cons_zero,List.set_cons_succ]
   refine wpAnyH_ready (rs:=[8]) (by kernel_rfl) (by simp) (AllReadyH.cons rfl (fun K hK=>?_) AllReadyH.nil)
   refine step_call (by rfl) 53 _ _ (by rfl) #[.slice ro fn rc] ?hx Tryz.enters_runs (S:=fun v w4=>w4.ownsRow A.drew.heap.size 141 2 v rl ((runsOf f.secs).flatMap pcells)∧Below A.drew.heap.size A.drew w4) (HR.out.mono ?_) ?_
   case hx =>
    simp only [List.map_toArray,List.map_cons,List.map_nil]
    go_simp
   ·rintro e w4 ⟨v,rfl,h1,h2⟩
    exact⟨_,rfl,h1,h2⟩
   rintro v w4 ⟨h1,h2⟩
   obtain⟨vo,vc,rfl,_⟩:=ownsRow_shape h1
   have ho4:Olds A w4:=(Olds.drewN A 1).trans (Olds.of_below h2)
   refine hK.out _ _ (HSf.out _ ho4) (fun hHeld2=>?_)
   clear hK K
   try simp only [Act.put,List.getElem_toArray,List.getElem_cons_succ,List.getElem_cons_zero,List.setIfInBounds_toArray,List.set_cons_zero,List.set_cons_succ]
   refine wpAnyH_take (i:=9) (v:=?v9) rfl (by kernel_rfl) (by kernel_rfl) (by kernel_rfl) (fun _ _ _ h=>h) (Or.inl ⟨by rfl,?h9⟩) hHeld2 ?r9
   case h9 =>
    rintro W ⟨s1,s2,s3⟩
    go_simp
    all_goals with_reducible rfl
   try simp only [Act.put,List.getElem_toArray,List.getElem_cons_succ,List.getElem_cons_zero,List.setIfInBounds_toArray,List.set_cons_zero,List.set_cons_succ]
   refine wpAnyH_take (i:=10) (v:=?v10) rfl (by kernel_rfl) (by kernel_rfl) (by kernel_rfl) (fun _ _ _ h=>h) (Or.inl ⟨by rfl,?h10⟩) hHeld2 ?r10
   case h10 =>
    rintro W ⟨s1,s2,s3⟩
    go_simp
    all_goals with_reducible rfl
   try simp only [Act.put,List.getElem_toArray,List.getElem_cons_succ,List.getElem_cons_zero,List.setIfInBounds_toArray,List.set_cons_zero,List.set_cons_succ]
   have HrowV:=Lib.hid (ownsRow_olds HrowA.out ho4)
   have Ho4:=Lib.hid ho4
   have HB4:=Lib.hid h2
   obtain⟨V,hV⟩:∃V:World,V=w4.alloc (.cells #[encStr s,.bool lg,.int .i64 (fz:Nat),.int .i64 (rl:Nat)] 56):=⟨_,rfl⟩
   have HV:=Lib.hid hV
   have hoV:Olds w4 V:=by rw [hV];exact Olds.alloc _ _
   have HoV:=Lib.hid hoV
   have hVs:V.heap.size=w4.heap.size+1:=by rw [hV];simp
   have HVn:Hid (V.heap[w4.heap.size]?=some (.cells #[encStr s,.bool lg,.int .i64 (fz:Nat),.int .i64 (rl:Nat)] 56 (0,0))):=Lib.hid (by rw [hV];exact heap_alloc_new _ _)
   have hw4:w.heap.size≤w4.heap.size:=by have:=ho4.1;have:=HwA.out;omega
   clear h1 h2 hV ho4
   refine wpAnyH_ready (rs:=[11]) (by kernel_rfl) (by simp) (AllReadyH.cons rfl (fun K hK=>?_) AllReadyH.nil)
   go_simp
   rw [← HV.out]
   refine hK.out _ _ (HSf.out _ (Ho4.out.trans HoV.out)) (fun hHeld3=>?_)
   clear hK K
   try simp only [Act.put,List.getElem_toArray,List.getElem_cons_succ,List.getElem_cons_zero,List.setIfInBounds_toArray,List.set_cons_zero,List.set_cons_succ]
   refine wpAnyH_ready (rs:=[12]) (by kernel_rfl) (by simp) (AllReadyH.cons rfl (fun K hK=>?_) AllReadyH.nil)
   have hrV:V.ownsRow w.heap.size 56 4 (.slice so k sc) k ts:=ownsRow_olds HrowV.out HoV.out
   refine step_append_lies _ (by rfl) _ _ _ (by rfl) w.heap.size 56 i4 _ 4 40 Tryz.underlying50 hi4 hz4 hy4 hx4 rfl (by decide) (.slice so k sc) k ts (by go_simp) hrV ⟨w4.heap.size,0,none⟩ 1 1 [encStr s,.bool lg,.int .i64 (fz:Nat),.int .i64 (rl:Nat)] (by go_simp) rfl (World.news_of_block (cs:=#[encStr s,.bool lg,.int .i64 (fz:Nat),.int .i64 (rl:Nat)]) (t:=56) (fr:=(0,0)) HVn.out) ?one Nat.one_pos (by unfold maxLen;omega) (by omega) (by omega) (w4.heap.size+1) hVs ?_
   case one =>
    intro u hu
    simp only [List.mem_cons,List.not_mem_nil,or_false] at hu
    rcases hu with rfl | rfl | rfl | rfl<;>rfl
   intro gg cap2 w5 hown5 hgrow5 hat5 hlt5
   have hHeld4:w5.cell? ⟨wr.heap.size,0,none⟩=some (.bool lg)∧w5.cell? ⟨wr.heap.size,1,none⟩=some (.int .i64 (fz:Nat))∧w5.cell? ⟨wr.heap.size,3,none⟩=some (.slice ro fn rc):=by
    have hb:V.heap[wr.heap.size]?=_:=((Ho4.out.trans HoV.out).2 _ (heap_lt HAb.out)).trans HAb.out
    have hb5:=(hgrow5.block _ (heap_lt hb) (fun e=>by
     obtain⟨cur,hc⟩:=own_kind hrV e.symm
     rw [hc] at hb
     simp at hb)).trans hb
    refine⟨?_,?_,?_⟩<;>(rw [cell_of_heap hb5];rfl)
   refine hK.out _ _ hHeld4 (fun hHeld5=>?_)
   clear hK K
   try simp only [Act.put,List.getElem_toArray,List.getElem_cons_succ,List.getElem_cons_zero,List.setIfInBounds_toArray,List.set_cons_zero,List.set_cons_succ]
   refine wpAnyH_take (i:=13) (v:=?v13) rfl (by kernel_rfl) (by kernel_rfl) (by kernel_rfl) (fun _ _ _ h=>h) (Or.inl ⟨by rfl,?h13⟩) hHeld5 ?r13
   case h13 =>
    rintro W ⟨s1,s2,s3⟩
    go_simp
    all_goals with_reducible rfl
   try simp only [Act.put,List.getElem_toArray,List.getElem_cons_succ,List.getElem_cons_zero,List.setIfInBounds_toArray,List.set_cons_zero,List.set_cons_succ]
   refine wpAnyH_done (by kernel_rfl) ?_ _
   try simp only [Act.put,List.getElem_toArray,List.getElem_cons_succ,List.getElem_cons_zero,List.setIfInBounds_toArray,List.set_cons_zero,List.set_cons_succ]
   have HR5:Hid (w5.ownsRow w.heap.size 56 4 (.slice (some ⟨gg,0,none⟩) (k+1) cap2) (k+1) (told l ks (k+1))):=Lib.hid (by rw [HN.out];exact hown5)
   have HF5:Hid (Fr w.heap.size [56] [] w3 w5):=Lib.hid ((((HfA.out.drew.trans (Fr.of_below HB4.out HwA.out _ _)).alloc hw4 _).row (by simp;omega) (by have h9:=hrV;rw [HV.out] at h9;exact h9) (by simp) (by have h9:=hgrow5;rw [HV.out] at h9;exact h9)))
   clear hown5 hgrow5 hrV hHeld hHeld2 hHeld3 hHeld4 hHeld5
   go_wp2_with fail
   go_roundw
   case rel=>exact⟨k+1,by omega,by go_num,HR5.out,HF5.out⟩
   case measure=>simp [intOf];omega
  ·obtain rfl:k=m:=by omega
   go_wp2_with fail
   go_ret
   refine⟨?_,_,ks,rfl,Hp3.out,?_⟩
   ·exact HB3.out.trans ⟨Hfr.out.below.os,Hfr.out.below.tape,Hfr.out.below.output,Hfr.out.below.size,Hfr.out.below.block⟩
   ·have h:=Hrow.out
    unfold told at h
    rw [← Hm.out,List.take_length] at h
    rw [← Hm.out]
    exact h
end Go.Proofs.YtndjmffnlcilbaaGreatDoor
namespace Go.Proofs.YtndjmffnlcilbaaGreatDoor
open Go Go.RowKit Go.Ix Go.Ext Go.Maps
theorem drewB {B:Nat}{a b:World}(h:Below B a b) (q:Nat):Below B a (b.drewN q):=h.trans (Fr.drewN' (T:=[]) (M:=[]) q).below
def lf (l:List LE):LF:=l.map fun e=>(e.name,e.ds)
structure LEok (w:World) (B:Nat) (e:LE):Prop where
 bytes:BytesAt w (.slice e.a e.n e.c) e.ds
 byte:∀x∈e.ds,x<256
 len:e.ds.length=e.n
 low:∀a,e.a=some a→0<e.n→a.block<B
 cap:e.n≤e.c
 nm:e.name.length≤400000
 sz:e.n≤400000
theorem LEok.below {w W:World}{B:Nat}{e:LE}(h:LEok w B e) (hb:Below B w W):LEok W B e:=by
 refine⟨?_,h.byte,h.len,h.low,h.cap,h.nm,h.sz⟩
 obtain⟨o,c,e1,h0,hne⟩:=h.bytes
 refine⟨o,c,e1,h0,fun hn=>?_⟩
 obtain⟨b,off,e2,hc⟩:=hne hn
 simp only [Value.slice.injEq] at e1
 have hlt:b<B:=h.low ⟨b,off,none⟩ (e1.1.trans e2) (by
  have h9:=h.len
  rcases Nat.eq_zero_or_pos e.n with h0 | h0
  ·rw [h0] at h9
   exact absurd (by rw [List.eq_nil_of_length_eq_zero h9];rfl) hn
  ·exact h0)
 exact⟨b,off,e2,fun j v hv=>(World.cell?_of_block (hb.block b hlt)).trans (hc j v hv)⟩
theorem RowL.kp {w W:World}{B:Nat}{v:Value}{l:List LE}(h:RowL w B v l) (hk:Kp B w W):RowL W B v l:=ownsRow_blocks h fun k hk2=>by
 obtain⟨cur,hc⟩:=own_kind h hk2
 rw [hc]
 exact hk.kept _ (by simp) _ _ _ hc
theorem readsB_hit (L:List Sec) (fs:Fs) (l:LF):readsB L fs l=(decide (fs.length=l.length) && l.all fun p=>decide (hit fs L p.1=some p.2)):=by
 unfold readsB
 congr 1
 congr 1
 funext p
 unfold hit
 cases Ext.look fs p.1 with
 | none=>simp
 | some f =>
  simp only
  by_cases h:f.log=false∧((crc ((content L f.secs).take f.size):Nat):Int)=f.sum
  ·obtain⟨h1,h2⟩:=h
   simp [h1,h2]
  ·simp only [h,if_false]
   by_cases h1:f.log=false
   ·have h2:¬ ((crc ((content L f.secs).take f.size):Nat):Int)=f.sum:=fun e=>h ⟨h1,e⟩
    simp [h1,h2]
   ·simp [h1]
theorem SI.olds {w W:World}{B db sm sb k D slot gen:Nat}{t:Dk}{g:G}(h:SI w B db sm sb k D t slot gen g) (ho:Olds w W):SI W B db sm sb k D t slot gen g:=by
 obtain⟨tb,tc,nb,xb,uv,dv,h⟩:=h
 exact⟨tb,tc,nb,xb,uv,dv,h.olds ho⟩
theorem SI.get (hH:HalfOk) {w:World}{B db sm sb k D slot gen:Nat}{t:Dk}{g:G}{s:Txt}(h:SI w B db sm sb k D t slot gen g) (hlit:t.dark=false) (hG:9≤w.heap.size) (hk:k≤1000) (hs:s.length≤1000000) :
  Calls Tryz.prog 36 #[.pointer (some ⟨sb,0,none⟩),encStr s] w (GetEnd w B db sm sb k D t slot gen g s):=by
 obtain⟨tb,tc,nb,xb,uv,dv,h⟩:=h
 exact get_any hH h hlit hG hk hs
theorem hit_len {g:G}{L:List Sec}{s:Txt}{ds:List Nat}(h:hit g.now L s=some ds) (hR:∀p∈g.now,FOk g.n p.2):ds.length≤1000000:=by
 unfold hit at h
 cases hl:Ext.look g.now s with
 | none=>rw [hl] at h;cases h
 | some f =>
  rw [hl] at h
  simp only at h
  split at h
  ·rw [← Option.some.inj h,List.length_take]
   have:=(hR _ (look_mem hl)).2.2
   simp only at this
   omega
  ·cases h
def ReadsEnd (w:World) (B db sm sb k D:Nat) (t:Dk) (slot gen:Nat) (g:G) (l:List LE) (e:Ending) (w':World):Prop :=
 Kp B w w'∧∃t':Dk,t'.las=t.las∧t'.cac=t.cac∧(t.calm→t'=t)∧
  ((t'.dark=false∧SI w' B db sm sb k D t' slot gen g∧e=.returned (.bool (readsB t.view g.now (lf l))))∨(t'.dark=true∧DK w' B db sm g.n t'∧e=.returned (.bool false)))
set_option maxRecDepth 20000 in
set_option maxHeartbeats 4000000 in
theorem reads_any (hH:HalfOk) {w:World}{B db sm sb k D slot gen m:Nat}{t:Dk}{g:G}{v:Value}{l:List LE}(h:SI w B db sm sb k D t slot gen g) (hlit:t.dark=false) (hG:9≤w.heap.size) (hk:k≤1000) (hD:D≤1000000) (hv:RowL w B v l) (hl:∀e∈l,LEok w B e) (hm:l.length=m) (hm2:m≤100000) :
  Calls Tryz.prog 11 #[.pointer (some ⟨sb,0,none⟩),v] w (ReadsEnd w B db sm sb k D t slot gen g l):=by
 have hinv:∃tb tc nb xb uv dv,SIx w B db sm sb k D t tb tc nb xb slot gen uv dv g:=h
 obtain⟨tb,tc,nb,xb,uv,dv,hx⟩:=hinv
 have hB:=hx.hB
 have HFi:=Lib.hid (files_any hx.cell hx.rest.now (by omega) hx.rest.fok (Nat.le_trans hx.hd hD))
 have hR:=hx.inv.R
 have HR:=Lib.hid hR
 clear hR hx
 have hv':=hv
 unfold RowL at hv'
 rw [hm] at hv'
 obtain⟨o,c,rfl,_⟩:=ownsRow_shape hv'
 have Hv:Hid (RowL w B (.slice o l.length c) l):=Lib.hid (by rw [hm];exact hv)
 have H:=Lib.hid h
 have Hl:=Lib.hid hl
 have Hm:=Lib.hid hm
 have Hlit:=Lib.hid hlit
 have HHH:=Lib.hid hH
 clear h hv hv' hl hm hlit hH
 obtain⟨F,hF⟩:∃F,F=g.now.length:=⟨_,rfl⟩
 have HF:=Lib.hid hF
 have HFi2:Hid (Calls Tryz.prog 20 #[.pointer (some ⟨sb,0,none⟩)] w fun e w'=>∃vo vc,e=.returned (.slice vo F vc)∧Below w.heap.size w w'):=Lib.hid (HFi.out.mono fun e w' ⟨hb,fv,ks,he,hp,hr⟩=>by
  obtain⟨vo,vc,rfl,_⟩:=ownsRow_shape hr
  have h9:=hp.length_eq
  unfold keys at h9
  rw [List.length_map,← hF] at h9
  rw [h9] at he
  exact⟨vo,vc,he,hb⟩)
 clear HFi hF
 have HRB:=Lib.hid (readsB_hit t.view g.now (lf l))
 by_cases hFm:F=m
 ·subst hFm
  go_enter Tryz.func11,Tryz.ntmps11
  go_wp2_with (go_at_call 20;refine HFi2.out.mono ?_;clear HFi2;rintro e w1 ⟨vo,vc,rfl,hb⟩;have Hb:=Lib.hid hb;clear hb)
  go_loopw [6] (fun iv wr=>∃(j:Nat) (t':Dk),j≤F∧iv=.int .i64 j∧Kp B w wr∧t'.las=t.las∧t'.cac=t.cac∧(t.calm→t'=t)∧t'.dark=false∧SI wr B db sm sb k D t' slot gen g∧∀e∈l.take j,hit g.now t.view e.name=some e.ds) (fun iv _=>F-(intOf iv).toNat)
  case atStart=>exact⟨0,t,Nat.zero_le _,rfl,Kp.of_below Hb.out hB,rfl,rfl,fun _=>rfl,Hlit.out,SI.olds H.out (Olds.of_below Hb.out),by simp⟩
  case round =>
   obtain⟨j,t',hj,rfl,hkp,hlas,hcac,hcm,hdk,hsi,hall⟩:=hrel
   have Hkp:=Lib.hid hkp
   have Hlas:=Lib.hid hlas
   have Hcac:=Lib.hid hcac
   have Hcm:=Lib.hid hcm
   have Hdk:=Lib.hid hdk
   have Hsi:=Lib.hid hsi
   have Hall:=Lib.hid hall
   have hws:=hkp.below.size
   have hvw:t'.view=t.view:=by unfold Dk.view;rw [hlas,hcac]
   have Hvw:=Lib.hid hvw
   clear hkp hlas hcac hcm hdk hsi hall hvw
   by_cases hlt:j<F
   ·obtain⟨x,hx⟩:∃x,l[j]?=some x:=⟨_,List.getElem?_eq_getElem (by rw [Hm.out];exact hlt)⟩
    have hok:=(Hl.out x (List.mem_of_getElem? hx)).below Hkp.out.below
    obtain⟨lb,rfl,a0,a1⟩:=(Hv.out.kp Hkp.out).at hx
    have HGt:=Lib.hid (Hsi.out.get HHH.out (s:=x.name) Hdk.out (by omega) hk (by have:=hok.nm;omega))
    have Hx:=Lib.hid hx
    have Hok:=Lib.hid hok
    have hxn:=hok.sz
    clear hx hok
    have hNo:∀v,hit g.now t.view x.name=v→v≠some x.ds→readsB t.view g.now (lf l)=false:=fun v hv hne=>by
     rw [HRB.out]
     have hmem:x∈l:=List.mem_of_getElem? Hx.out
     have:((lf l).all fun p=>decide (hit g.now t.view p.1=some p.2))=false:=by
      rw [List.all_eq_false]
      refine⟨(x.name,x.ds),List.mem_map.2 ⟨x,hmem,rfl⟩,?_⟩
      simp [hv,hne]
     rw [this,Bool.and_false]
    have HNo:=Lib.hid hNo
    clear hNo
    have HGt2:Hid (Calls Tryz.prog 36 #[.pointer (some ⟨sb,0,none⟩),encStr x.name] wr fun e w'=>Kp B w w'∧∃t2:Dk,t2.las=t.las∧t2.cac=t.cac∧(t.calm→t2=t)∧((t2.dark=false∧SI w' B db sm sb k D t2 slot gen g∧((∃ds,hit g.now t.view x.name=some ds∧∃o n c,e=.returned (.tuple #[.slice o n c,.int .u16 0])∧BytesAt w' (.slice o n c) ds∧ds.length=n∧∀x∈ds,x<256)∨(hit g.now t.view x.name=none∧∃(v:Value) (c:Nat),c≠0∧e=.returned (.tuple #[v,.int .u16 c]))))∨(t2.dark=true∧DK w' B db sm g.n t2∧∃v:Value,e=.returned (.tuple #[v,.int .u16 4])))):=Lib.hid (HGt.out.mono fun e w' ⟨h1,t2,h2,h3,h4,h5⟩=>by
     rw [Hvw.out] at h5
     refine⟨Hkp.out.trans h1,t2,h2.trans Hlas.out,h3.trans Hcac.out,fun hc=>?_,h5⟩
     rw [h4 (by rw [Hcm.out hc];exact hc),Hcm.out hc])
    clear HGt
    cases hht:hit g.now t.view x.name with
    | none =>
     have hbF:=HNo.out _ hht (by simp)
     have HbF:=Lib.hid hbF
     have HE:Hid (Calls Tryz.prog 36 #[.pointer (some ⟨sb,0,none⟩),encStr x.name] wr fun e w'=>∃(v:Value) (c:Nat),c≠0∧e=.returned (.tuple #[v,.int .u16 c])∧ReadsEnd w B db sm sb k D t slot gen g l (.returned (.bool false)) w'):=Lib.hid (HGt2.out.mono fun e w' ⟨h1,t2,h2,h3,h4,h5⟩=>by
      rcases h5 with ⟨h6,h7,⟨ds,h8,_⟩|⟨_,v,c,h9,he⟩⟩|⟨h6,h7,v,he⟩
      ·rw [hht] at h8
       cases h8
      ·exact⟨v,c,h9,he,h1,t2,h2,h3,h4,.inl ⟨h6,h7,by rw [HbF.out]⟩⟩
      ·exact⟨v,4,by decide,he,h1,t2,h2,h3,h4,.inr ⟨h6,h7,rfl⟩⟩)
     clear HGt2 hht hbF
     go_wp2_with (go_at_call 36;refine HE.out.mono ?_;clear HE;rintro e w3 ⟨v3,c3,hc3,rfl,hE3⟩;have hc4:((c3:Int) == 0)=false:=(by simp;omega);have HE3:=Lib.hid hE3;clear hE3)
     go_ret
     exact HE3.out
    | some ds =>
     have hdl:=hit_len hht HR.out
     have HS:Hid (∀(w3:World) (o:Option Addr) (q c:Nat),Kp B w w3→BytesAt w3 (.slice o q c) ds→ds.length=q→(∀x∈ds,x<256)→Calls Tryz.prog 37 #[.slice o q c,.slice x.a x.n x.c] w3 fun e w'=>e=.returned (.bool (decide (ds=x.ds)))∧∃q,w'=w3.drewN q):=Lib.hid (fun w3 o q c hk hb hq h8=>by
      have hok3:=(Hl.out x (List.mem_of_getElem? Hx.out)).below hk.below
      exact same_any o x.a q x.n c x.c ds x.ds w3 hb hok3.bytes hq hok3.len h8 hok3.byte (by omega))
     have HE:Hid (Calls Tryz.prog 36 #[.pointer (some ⟨sb,0,none⟩),encStr x.name] wr fun e w'=>∃(o:Option Addr) (q c cd:Nat) (v:Value),e=.returned (.tuple #[v,.int .u16 cd])∧((cd=0∧v=.slice o q c∧Kp B w w'∧BytesAt w' (.slice o q c) ds∧ds.length=q∧(∀x∈ds,x<256)∧∃t2:Dk,t2.las=t.las∧t2.cac=t.cac∧(t.calm→t2=t)∧t2.dark=false∧SI w' B db sm sb k D t2 slot gen g)∨(cd=4∧ReadsEnd w B db sm sb k D t slot gen g l (.returned (.bool false)) w'))):=Lib.hid (HGt2.out.mono fun e w' ⟨h1,t2,h2,h3,h4,h5⟩=>by
      rcases h5 with ⟨h6,h7,⟨ds',h8,o,q,c,he,hb,hq,h88⟩|⟨h8,_⟩⟩|⟨h6,h7,v,he⟩
      ·rw [hht] at h8
       obtain rfl:=Option.some.inj h8
       exact⟨o,q,c,0,_,he,.inl ⟨rfl,rfl,h1,hb,hq,h88,t2,h2,h3,h4,h6,h7⟩⟩
      ·rw [hht] at h8
       cases h8
      ·exact⟨none,0,0,4,v,he,.inr ⟨rfl,h1,t2,h2,h3,h4,.inr ⟨h6,h7,rfl⟩⟩⟩)
     have Hht:=Lib.hid hht
     have HAt:Hid (∀w3:World,Kp B w w3→w3.cell? ⟨lb,j * 2+1,none⟩=some (.slice x.a x.n x.c)):=Lib.hid (fun w3 hk=>by
      obtain⟨lb',he,_,h9⟩:=(Hv.out.kp hk).at Hx.out
      simp only [Option.some.injEq,Addr.mk.injEq,and_true] at he
      rw [he]
      exact h9)
     clear HGt2 hht
     by_cases hde:ds=x.ds
     ·have hdec:decide (ds=x.ds)=true:=by simpa using hde
      have Hde:=Lib.hid hde
      clear hde
      go_wp2_with (first
       | (go_at_call 36;refine HE.out.mono ?_;clear HE;rintro e w3 ⟨o3,q3,c3,cd,v3,rfl,⟨rfl,rfl,k1,k2,k3,k4,t2,k5,k6,k7,k8,k9⟩|⟨rfl,hE3⟩⟩;all_goals (first | (have HE3:=Lib.hid hE3;clear hE3) | (have HS3:=Lib.hid ((HS.out w3 o3 q3 c3 k1 k2 k3 k4).mono fun e w' h=>And.intro (h.1.trans (ret_bool hdec)) h.2);have K1:=Lib.hid k1;have b1:w3.cell? ⟨lb,j * 2+1,none⟩=some (.slice x.a x.n x.c):=(HAt.out w3 k1);have K9:=Lib.hid k9;have K5:=Lib.hid (And.intro k5 (And.intro k6 (And.intro k7 k8)));clear k1 k2 k3 k4 k5 k6 k7 k8 k9)))
       | (go_at_call 37;refine HS3.out.mono ?_;clear HS3;rintro e w4 ⟨rfl,qq,hw4⟩;have Hw4:=Lib.hid hw4;clear hw4))
      ·go_roundw
       case rel =>
        have hkd:Kp B w w4:=by rw [Hw4.out];exact⟨drewB K1.out.below qq,K1.out.kept⟩
        have hs4:SI w4 B db sm sb k D t2 slot gen g:=by rw [Hw4.out];exact SI.olds K9.out (Olds.drewN w3 qq)
        refine⟨j+1,t2,by omega,by go_num,hkd,K5.out.1,K5.out.2.1,K5.out.2.2.1,K5.out.2.2.2,hs4,fun e he=>?_⟩
        rw [List.take_add_one,Hx.out] at he
        rcases List.mem_append.1 he with he | he
        ·exact Hall.out e he
        ·have:e=x:=by simpa using he
         rw [this,Hht.out,Hde.out]
       case measure=>simp [intOf];omega
      ·go_ret
       exact HE3.out
     ·have hdec:decide (ds=x.ds)=false:=by simpa using hde
      have HbF:=Lib.hid (HNo.out _ Hht.out (fun e=>hde (Option.some.inj e)))
      clear hde
      go_wp2_with (first
       | (go_at_call 36;refine HE.out.mono ?_;clear HE;rintro e w3 ⟨o3,q3,c3,cd,v3,rfl,⟨rfl,rfl,k1,k2,k3,k4,t2,k5,k6,k7,k8,k9⟩|⟨rfl,hE3⟩⟩;all_goals (first | (have HE3:=Lib.hid hE3;clear hE3) | (have HS3:=Lib.hid ((HS.out w3 o3 q3 c3 k1 k2 k3 k4).mono fun e w' h=>And.intro (h.1.trans (ret_bool hdec)) h.2);have K1:=Lib.hid k1;have b1:w3.cell? ⟨lb,j * 2+1,none⟩=some (.slice x.a x.n x.c):=(HAt.out w3 k1);have K9:=Lib.hid k9;have K5:=Lib.hid (And.intro k5 (And.intro k6 (And.intro k7 k8)));clear k1 k2 k3 k4 k5 k6 k7 k8 k9)))
       | (go_at_call 37;refine HS3.out.mono ?_;clear HS3;rintro e w4 ⟨rfl,qq,hw4⟩;have Hw4:=Lib.hid hw4;clear hw4))
      ·go_ret
       have hs4:SI w4 B db sm sb k D t2 slot gen g:=by rw [Hw4.out];exact SI.olds K9.out (Olds.drewN w3 qq)
       exact⟨by rw [Hw4.out];exact⟨drewB K1.out.below qq,K1.out.kept⟩,t2,K5.out.1,K5.out.2.1,K5.out.2.2.1,.inl ⟨K5.out.2.2.2,hs4,by rw [HbF.out];rfl⟩⟩
      ·go_ret
       exact HE3.out
   ·obtain rfl:j=F:=by omega
    have hyes:readsB t.view g.now (lf l)=true:=by
     rw [HRB.out,Bool.and_eq_true]
     refine⟨?_,?_⟩
     ·rw [decide_eq_true_eq,← HF.out]
      unfold lf
      rw [List.length_map,Hm.out]
     ·rw [List.all_eq_true]
      intro p hp
      unfold lf at hp
      obtain⟨e,he,rfl⟩:=List.mem_map.1 hp
      rw [decide_eq_true_eq]
      exact Hall.out e (by rw [List.take_of_length_le (by rw [Hm.out];exact Nat.le_refl _)];exact he)
    have Hyes:=Lib.hid hyes
    clear hyes
    go_wp2_with fail
    go_ret
    exact⟨Hkp.out,t',Hlas.out,Hcac.out,Hcm.out,.inl ⟨Hdk.out,Hsi.out,by rw [Hyes.out];rfl⟩⟩
 ·have hbF:readsB t.view g.now (lf l)=false:=by
   rw [HRB.out]
   have:¬ g.now.length=(lf l).length:=fun e=>hFm (by rw [HF.out,e];unfold lf;rw [List.length_map];exact Hm.out)
   simp [this]
  have HbF:=Lib.hid hbF
  have hne:((F:Int) == (m:Int))=false:=by simp;omega
  go_enter Tryz.func11,Tryz.ntmps11
  go_wp2_with (go_at_call 20;refine HFi2.out.mono ?_;clear HFi2;rintro e w1 ⟨vo,vc,rfl,hb⟩;have Hb:=Lib.hid hb;clear hb)
  go_ret
  exact⟨Kp.of_below Hb.out hB,t,rfl,rfl,fun _=>rfl,.inl ⟨Hlit.out,SI.olds H.out (Olds.of_below Hb.out),by rw [HbF.out];rfl⟩⟩
end Go.Proofs.YtndjmffnlcilbaaGreatDoor
