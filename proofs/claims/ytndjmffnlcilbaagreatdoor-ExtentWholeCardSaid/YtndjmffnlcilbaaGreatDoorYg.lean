/- Contracts over this program. Their conditions: the slices read as the lists that are named, and lie within the sizes that are named. -/
import Derived.Test.YtndjmffnlcilbaaGreatDoorYf
set_option linter.unusedSimpArgs false
set_option linter.unusedVariables false
set_option linter.deprecated false
set_option linter.unnecessarySimpa false
namespace Go.Proofs.YtndjmffnlcilbaaGreatDoor
open Go Go.RowKit Go.Ix Go.Ext Go.Maps
set_option maxRecDepth 20000 in
set_option maxHeartbeats 1000000 in
theorem sclone_any {w:World}{a:Addr}{n c:Nat}{bs:List Nat}(h:BytesAt w (.slice (some a) n c) bs) (h8:∀x∈bs,x<256) (hl:bs.length=n) (hn:n≤1000000) :
  Calls Tryz.prog 61 #[.slice (some a) n c] w fun e w'=>∃v,e=.returned v∧RowB w' w.heap.size v bs n∧Below w.heap.size w w':=by
 obtain⟨i0,hi0,hz0,hz1,hz2⟩:=info_parts Tryz.info5
 have hnew:(w.alloc (.cells #[] 5)).ownsRow w.heap.size 5 1 (.slice (some ⟨w.heap.size,0,none⟩) 0 0) 0 []:=⟨rfl,.inr ⟨w.heap.size,0,#[],rfl,Nat.le_refl _,heap_alloc_new _ _,Nat.le_refl _,Nat.zero_le _,rfl,rfl⟩⟩
 have hfl:FlatAt (w.alloc (.cells #[] 5)) (.slice (some a) n c) n (octs bs):=by
  have:=h.olds (Olds.alloc w (.cells #[] 5))
  rw [hl] at this
  exact this
 have Hl:=Lib.hid hl
 have H8:=Lib.hid h8
 have hol:(octs bs).length=n * 1:=by rw [octs_len,hl,Nat.mul_one]
 have hone:=@one_octs bs
 have hS:(Instr.buildSlice 34 0 #[]).run Tryz.prog w=.ok (.slice (some ⟨w.heap.size,0,none⟩) 0 0) (w.alloc (.cells #[] 5)):=by kernel_rfl
 have hcmp:(binOp .eql 34 (.slice (some a) n c) (.slice none 0 0)).run Tryz.prog w=.ok (.bool false) w:=by kernel_rfl
 clear h hl h8
 go_enter Tryz.func61,Tryz.ntmps61
 go_wp2_with (at_builtin;refine wpList_append_flat rfl _ _ rfl Tryz.underlying34 size5 hi0 hz0 hz1 hz2 rfl Nat.one_pos (Nat.le_refl _) w.heap.size 0 n (.slice (some ⟨w.heap.size,0,none⟩) 0 0) (.slice (some a) n c) [] (octs bs) rfl rfl hnew (by simp) hfl hol hone (by omega) ?_;intro v' w' hown hg hat;have Hown:=Lib.hid hown;have Hg:=Lib.hid hg;clear hown hg hat)
 go_ret
 refine⟨_,rfl,⟨?_,H8.out,Hl.out⟩,((Below.refl _ _).alloc (Nat.le_refl _) _).trans ((Below.refl _ _).grown Hg.out (by simp) (fun b hb=>by cases hb;exact Nat.le_refl _))⟩
 have:=Hown.out
 unfold Row8
 rw [Hl.out]
 simpa using this
theorem sec_at {L:List Sec}{a:Nat}{b:Sec}(h:L[a]?=some b):sec L a=b:=by unfold sec;rw [List.getD_eq_getElem?_getD,h];rfl
theorem flat_part {L:List Sec}(hL:∀b∈L,b.length=256) {a i:Nat}{b:Sec}{v:Value}(ha:L[a]?=some b) (hv:(octs b)[i]?=some v):(secCells L)[a * 256+i]?=some v:=by
 unfold secCells
 induction L generalizing a with
 | nil=>cases ha
 | cons q l ih =>
  rw [List.flatMap_cons]
  have hq:=hL q List.mem_cons_self
  cases a with
  | zero =>
   simp only [List.getElem?_cons_zero,Option.some.injEq] at ha
   subst ha
   rw [Nat.zero_mul,Nat.zero_add,List.getElem?_append_left (List.getElem?_eq_some_iff.1 hv).1]
   exact hv
  | succ a =>
   have:(octs q).length=256:=by rw [octs_len,hq]
   rw [List.getElem?_append_right (by rw [this];omega),this,show (a+1) * 256+i-256=a * 256+i by omega]
   exact ih (fun p hp=>hL p (List.mem_cons_of_mem _ hp)) (by simpa using ha)
theorem zeroI (w:World):(zeroValue 3).run Tryz.prog w=.ok (.int .i64 0) w:=by kernel_rfl
theorem SeenK.look {w:World}{sm:Nat}{l:List (Nat×Sec)}(h:SeenK w sm l) (a:Nat) (ha:a≤1000000000) :
  (Instr.lookup 58 (.map (some sm)) (.int .i64 (a:Nat)) true).run Tryz.prog w=.ok (.tuple #[.int .i64 (((lastOf l a).getD 0:Nat):Int),.bool (lastOf l a).isSome]) w:=by
 obtain⟨D,hown,hD⟩:=h
 obtain⟨v,ps,hr,hv⟩:=hown.look_ok (t:=58) (e:=3) Tryz.lawI Tryz.underlying58 (zeroI w) (zd:=.held (.int .i64 0)) (zp:=[]) rfl (keyI a ha)
 obtain⟨h1,h2⟩:=hD a ha
 cases hF:lastOf l a with
 | none =>
  have hno:=h1 hF
  rw [atKey_of_not_has hno] at hv
  simp only [RV,Option.some.injEq,Prod.mk.injEq,DataW.held.injEq] at hv
  rw [hno] at hr
  rw [hr,hv.1]
  rfl
 | some k =>
  have hat:=h2 k hF
  rw [hat] at hv
  simp only [RV,Option.some.injEq,Prod.mk.injEq,DataW.held.injEq] at hv
  rw [has_true_of_atKey hat] at hr
  rw [hr,hv.1]
  rfl
set_option maxRecDepth 20000 in
set_option maxHeartbeats 1000000 in
theorem dread1_any {w:World}{B db sm n ab dbx ob:Nat}{K:Dk}{v0:Value}(at':Nat) (h:DK w B db sm n K) (hat:at'<n) (hn:n≤1000000) (ht:K.cac.length≤1000000)
  (hab:w.heap[ab]?=some (.cells #[.int .i64 at'] 3 (0,0))) (hdx:w.heap[dbx]?=some (.cells #[.pointer (some ⟨db,0,none⟩)] 25 (0,0))) (hob:w.heap[ob]?=some (.cells #[v0] 34 (0,0))) :
  Calls Tryz.prog 60 #[.pointer (some ⟨ab,0,none⟩),.pointer (some ⟨dbx,0,none⟩),.pointer (some ⟨ob,0,none⟩)] w fun e w'=>e=.returned (.int .u16 0)∧w.grownBy w' (some ob)∧∃v,w'.heap[ob]?=some (.cells #[v] 34 (0,0))∧RowB w' w.heap.size v (sec K.view at') 256:=by
 obtain⟨_,_,⟨lv,cv,q1,q2,q3,k,ys,hk1,hk2,h3,h4,h5⟩,h8,hok⟩:=h
 obtain⟨lo,lc,rfl,_⟩:=ownsRow_shape h4
 obtain⟨co,cc,rfl,_⟩:=ownsRow_shape h5
 obtain⟨b0,hb0⟩:∃b0,K.las[at']?=some b0:=⟨_,List.getElem?_eq_getElem (by rw [hok.len];exact hat)⟩
 obtain⟨hb01,hb02⟩:=hok.las b0 (List.mem_of_getElem? hb0)
 obtain⟨lb,rfl⟩:∃lb,lo=some ⟨lb,0,none⟩:=by
  rcases h4.2 with ⟨_,h0⟩|⟨g,cap,cur,e,_⟩
  ·omega
  ·simp only [Value.slice.injEq] at e
   exact⟨g,e.1⟩
 have hcl:CellsAt w lb (at' * 256) (octs b0):=fun i v hv=>by
  have:=ownsRow_cell h4 (at' * 256+i) v (flat_part (fun b hb=>(hok.las b hb).1) hb0 hv)
  simpa using this
 have hlook:=h8.look at' (by omega)
 have ha:w.cell? ⟨ab,0,none⟩=some (.int .i64 at'):=by rw [cell_of_heap hab];rfl
 have hd:w.cell? ⟨dbx,0,none⟩=some (.pointer (some ⟨db,0,none⟩)):=by rw [cell_of_heap hdx];rfl
 have c0:w.cell? ⟨db,0,none⟩=some (.slice (some ⟨lb,0,none⟩) n lc):=by rw [cell_of_heap h3];rfl
 have c1:w.cell? ⟨db,1,none⟩=some (.slice co k cc):=by rw [cell_of_heap h3];rfl
 have c2:w.cell? ⟨db,2,none⟩=some (.map (some sm)):=by rw [cell_of_heap h3];rfl
 have H5:=Lib.hid h5
 have H8:=Lib.hid h8
 have Hok:=Lib.hid hok
 have Hk1:=Lib.hid hk1
 have Hk2:=Lib.hid hk2
 have Hob:=Lib.hid hob
 have Hb0:=Lib.hid hb0
 have Hb02:=Lib.hid hb02
 have Hb01:=Lib.hid hb01
 have Hcl:=Lib.hid hcl
 have hobl:=heap_lt hob
 have hu98:=Tryz.underlying112
 have hlen0:(Tryz.prog.info? 112).map (·.size)=some (octs b0).length:=by
  obtain⟨i0,hi0,_,hz1,_⟩:=info_parts Tryz.info112
  rw [octs_len,hb01,hi0,← hz1]
  rfl
 have HS:Hid (∀W':World,Olds w W'→W'.cell? ⟨dbx,0,none⟩=some (.pointer (some ⟨db,0,none⟩))∧W'.cell? ⟨ab,0,none⟩=some (.int .i64 at')∧W'.cell? ⟨db,0,none⟩=some (.slice (some ⟨lb,0,none⟩) n lc)∧W'.rangeAt lb (at' * 256) (octs b0)):=Lib.hid (fun W' ho=>⟨ho.cell hd,ho.cell ha,ho.cell c0,hcl.olds ho⟩)
 have Hcc:Hid (w.cell? ⟨db,1,none⟩=some (.slice co k cc)∧w.cell? ⟨db,2,none⟩=some (.map (some sm))∧w.cell? ⟨dbx,0,none⟩=some (.pointer (some ⟨db,0,none⟩))∧w.cell? ⟨ab,0,none⟩=some (.int .i64 at')):=Lib.hid ⟨c1,c2,hd,ha⟩
 clear h3 h4 h5 h8 hok hk1 hk2 hob hb0 hb02 hcl hab hdx hlook c1 c2
 go_enter Tryz.func60,Tryz.ntmps60
 go_wp2_with fail
 go_quiet (fail)
 go_upto_region 3 with fail
 obtain⟨Z,hzw,hZs⟩:∃Z:Array Value,(∀W:World,(zeroValue 112).run Tryz.prog W=.ok (.agg Z) W)∧Z.size=256:=by
  obtain⟨i0,hi0,hz0,_⟩:=info_parts Tryz.info112
  exact⟨sec0,fun W=>by simp [zeroValue,typeInfo,hi0,hz0],sec0_size⟩
 have hZz:Z.size=(octs b0).toArray.size:=by rw [hZs];simp [octs_len,Hb01.out]
 have hall:(octs b0).toArray.all (·.oneCell')=true:=by
  rw [List.all_toArray,List.all_eq_true]
  exact one_octs
 have hlen02:(Tryz.prog.info? 112).map (·.size)=some (octs b0).toArray.size:=by simpa using hlen0
 obtain⟨Wd,hWd⟩:∃Wd,Wd=(w.drewN nq).drew:=⟨_,rfl⟩
 have hod:Olds w Wd:=by rw [hWd];exact⟨Nat.le_refl _,fun _ _=>rfl⟩
 have hds:Wd.heap.size=w.heap.size:=by rw [hWd];rfl
 have hbd:Below w.heap.size w Wd:=by rw [hWd];exact⟨rfl,rfl,rfl,Nat.le_refl _,fun _ _=>rfl⟩
 refine wp_region_held_drew (S:=(fun W'=>W'.cell? ⟨dbx,0,none⟩=some (.pointer (some ⟨db,0,none⟩))∧W'.cell? ⟨ab,0,none⟩=some (.int .i64 at')∧W'.cell? ⟨db,0,none⟩=some (.slice (some ⟨lb,0,none⟩) n lc)∧W'.rangeAt lb (at' * 256) (octs b0))) (by kernel_rfl) (by rw [← hWd];exact HS.out _ hod) (fun hHeld=>?_)
 rw [← hWd] at hHeld ⊢
 refine wpAnyH_take (i:=0) (v:=?v0) rfl (by kernel_rfl) (by kernel_rfl) (by kernel_rfl) (fun _ _ _ h=>h) (Or.inl ⟨by rfl,?h0⟩) hHeld ?r0
 case h0 =>
  rintro W ⟨s1,s2,s3,s4⟩
  go_simp
  all_goals with_reducible rfl
 try simp only [Act.put,List.getElem_toArray,List.getElem_cons_zero,List.getElem_cons_succ,List.setIfInBounds_toArray,List.set_cons_zero,List.set_cons_succ]
 refine wpAnyH_take (i:=1) (v:=?v1) rfl (by kernel_rfl) (by kernel_rfl) (by kernel_rfl) (fun _ _ _ h=>h) (Or.inl ⟨by rfl,?h1⟩) hHeld ?r1
 case h1 =>
  rintro W ⟨s1,s2,s3,s4⟩
  go_simp
  all_goals with_reducible rfl
 try simp only [Act.put,List.getElem_toArray,List.getElem_cons_zero,List.getElem_cons_succ,List.setIfInBounds_toArray,List.set_cons_zero,List.set_cons_succ]
 refine wpAnyH_take (i:=2) (v:=?v2) rfl (by kernel_rfl) (by kernel_rfl) (by kernel_rfl) (fun _ _ _ h=>h) (Or.inl ⟨by rfl,?h2⟩) hHeld ?r2
 case h2 =>
  rintro W ⟨s1,s2,s3,s4⟩
  go_simp
  all_goals with_reducible rfl
 try simp only [Act.put,List.getElem_toArray,List.getElem_cons_zero,List.getElem_cons_succ,List.setIfInBounds_toArray,List.set_cons_zero,List.set_cons_succ]
 refine wpAnyH_take (i:=3) (v:=?v3) rfl (by kernel_rfl) (by kernel_rfl) (by kernel_rfl) (fun _ _ _ h=>h) (Or.inl ⟨by rfl,?h3⟩) hHeld ?r3
 case h3 =>
  rintro W ⟨s1,s2,s3,s4⟩
  go_simp
  all_goals with_reducible rfl
 try simp only [Act.put,List.getElem_toArray,List.getElem_cons_zero,List.getElem_cons_succ,List.setIfInBounds_toArray,List.set_cons_zero,List.set_cons_succ]
 refine wpAnyH_take (i:=4) (v:=?v4) rfl (by kernel_rfl) (by kernel_rfl) (by kernel_rfl) (fun _ _ _ h=>h) (Or.inl ⟨by rfl,?h4⟩) hHeld ?r4
 case h4 =>
  rintro W ⟨s1,s2,s3,s4⟩
  go_simp
  all_goals with_reducible rfl
 try simp only [Act.put,List.getElem_toArray,List.getElem_cons_zero,List.getElem_cons_succ,List.setIfInBounds_toArray,List.set_cons_zero,List.set_cons_succ]
 refine wpAnyH_take (i:=5) (v:=?v5) rfl (by kernel_rfl) (by kernel_rfl) (by kernel_rfl) (fun _ _ _ h=>h) (Or.inl ⟨by rfl,?h5⟩) hHeld ?r5
 case h5 =>
  rintro W ⟨s1,s2,s3,s4⟩
  go_simp
  all_goals with_reducible rfl
 try simp only [Act.put,List.getElem_toArray,List.getElem_cons_zero,List.getElem_cons_succ,List.setIfInBounds_toArray,List.set_cons_zero,List.set_cons_succ]
 refine wpAnyH_take (i:=6) (v:=.agg (octs b0).toArray) rfl (by kernel_rfl) (by kernel_rfl) (by kernel_rfl) (fun _ _ _ h=>h) (Or.inl ⟨by rfl,?h6⟩) hHeld ?r6
 case h6 =>
  rintro W ⟨s1,s2,s3,s4⟩
  have h9:=run_loadAt_mid (P:=Tryz.prog) W lb (at' * 256) 112 (octs b0) _ s4 hu98 rfl hlen0
  refine exec_load_row _ _ _ _ _ _ _ _ W (.pointer (some ⟨lb,at' * 256,none⟩)) _ ?_ h9
  go_simp
 try simp only [Act.put,List.getElem_toArray,List.getElem_cons_zero,List.getElem_cons_succ,List.setIfInBounds_toArray,List.set_cons_zero,List.set_cons_succ]
 refine wpAnyH_ready (rs:=[7]) (by kernel_rfl) (by simp) (AllReadyH.cons rfl (fun K hK=>?_) AllReadyH.nil)
 refine step_wp rfl (wp_alloc_row 112 rfl _ (hzw _) ?_)
 have hZw:(Wd.alloc (.cells (Value.agg Z).cells 112)).heap[w.heap.size]?=some (.cells Z 112 (0,0)):=by
  have:=heap_alloc_new Wd (.cells (Value.agg Z).cells 112)
  rw [hds] at this
  exact this
 have hoA:Olds w (Wd.alloc (.cells (Value.agg Z).cells 112)):=hod.trans (Olds.alloc _ _)
 have hsA:(Wd.alloc (.cells (Value.agg Z).cells 112)).heap.size=w.heap.size+1:=by simp [hds]
 have hbA:Below w.heap.size w (Wd.alloc (.cells (Value.agg Z).cells 112)):=hbd.alloc (by rw [hds];exact Nat.le_refl _) _
 rw [hds]
 generalize Wd.alloc (.cells (Value.agg Z).cells 112)=WA at *
 refine hK.out _ _ (HS.out _ hoA) (fun hHeld2=>?_)
 clear hK K
 try simp only [Act.put,List.getElem_toArray,List.getElem_cons_zero,List.getElem_cons_succ,List.setIfInBounds_toArray,List.set_cons_zero,List.set_cons_succ]
 refine wpAnyH_ready (rs:=[8]) (by kernel_rfl) (by simp) (AllReadyH.cons rfl (fun K hK=>?_) AllReadyH.nil)
 refine step_wp rfl (wp_store_row 112 _ _ rfl w.heap.size (octs b0).toArray (by go_simp) (by go_simp) 112 Z hZw hlen02 hZz hall ?_)
 obtain⟨Y,hY⟩:∃Y:World,Y=WA.setRow w.heap.size (octs b0).toArray:=⟨_,rfl⟩
 rw [← hY]
 have hYb:Y.heap[w.heap.size]?=some (.cells (octs b0).toArray 112 (0,0)):=by rw [hY];exact setRow_heap _ _ _ _ _ _ hZw
 have hYo:Olds w Y:=⟨by rw [hY];simp [hsA],fun b hb=>by rw [hY,setRow_other _ _ _ _ (by omega)];exact hoA.2 b hb⟩
 have hYs:Y.heap.size=w.heap.size+1:=by rw [hY];simp [hsA]
 have hYB:Below w.heap.size w Y:=by
  rw [hY]
  exact hbA.trans ⟨rfl,rfl,rfl,by simp,fun k hk=>setRow_other _ _ _ _ (by omega)⟩
 clear hY
 refine hK.out _ _ (HS.out _ hYo) (fun hHeld3=>?_)
 clear hK K hHeld hHeld2 hHeld3
 refine wpAnyH_done (by kernel_rfl) ?_ _
 try simp only [Act.put,List.getElem_toArray,List.getElem_cons_zero,List.getElem_cons_succ,List.setIfInBounds_toArray,List.set_cons_zero,List.set_cons_succ]
 clear hZw hoA hsA hbA hzw hZz hall hlen02 hWd hod hds hbd hZs
 obtain⟨p1,p2,p3,p4⟩:=Hcc.out
 have hlk:=(H8.out.block (W:=Y.drew) (hYo.2 sm H8.out.lt)).look at' (by omega)
 have y1:Y.drew.cell? ⟨dbx,0,none⟩=some (.pointer (some ⟨db,0,none⟩)):=hYo.cell p3
 have y2:Y.drew.cell? ⟨ab,0,none⟩=some (.int .i64 at'):=hYo.cell p4
 have y3:Y.drew.cell? ⟨db,2,none⟩=some (.map (some sm)):=hYo.cell p2
 have y4:Y.drew.cell? ⟨db,1,none⟩=some (.slice co k cc):=hYo.cell p1
 rcases view_last (K:=K) (a:=at') (by rw [Hok.out.len];exact hat) with ⟨j,p,e1,e2,e3,e4⟩|⟨e1,e4⟩
 ·rw [e1] at hlk
  simp only [Option.getD_some,Option.isSome_some] at hlk
  obtain⟨pa,bs⟩:=p
  obtain⟨hpa,hbl,hb8⟩:=Hok.out.cac _ (List.mem_of_getElem? e2)
  have hsec:=sec_at e4
  have hjk:j<k:=by rw [← Hk1.out];exact (List.getElem?_eq_some_iff.1 e2).1
  obtain⟨cb,rfl⟩:∃cb,co=some ⟨cb,0,none⟩:=by
   rcases H5.out.2 with ⟨_,h0⟩|⟨g,cap,cur,e,_⟩
   ·omega
   ·simp only [Value.slice.injEq] at e
    exact⟨g,e.1⟩
  have hpc:CellsAt w cb (j * 257+1) (octs bs):=fun i v hv=>by
   have h9:=ownsRow_cell H5.out (j * 257+(i+1)) v (by
    rw [Hk2.out]
    exact flat_at_of (fun p hp=>by unfold wrote;rw [List.length_cons,octs_len,(Hok.out.cac p hp).2.1]) e2 (by unfold wrote;simpa using hv))
   rw [show j * 257+1+i=0+(j * 257+(i+1)) by omega]
   exact h9
  have hcbl:cb≠w.heap.size:=fun e=>by
   have:=(ownsRow_block H5.out (g:=cb) rfl).2
   omega
  clear e1 e2 e3 e4
  go_upto_region 4 with fail
  go_region
  have hpY:Y.drew.rangeAt cb (j * 257+1) (octs bs):=fun i v hv=>hYo.cell (hpc i v hv)
  have hlen1:(Tryz.prog.info? 112).map (·.size)=some (octs bs).length:=by rw [octs_len,hbl,← Hb01.out,← octs_len];exact hlen0
  have hlen12:(Tryz.prog.info? 112).map (·.size)=some (octs bs).toArray.size:=by simpa using hlen1
  have hYd:Y.drew.heap[w.heap.size]?=some (.cells (octs b0).toArray 112 (0,0)):=hYb
  have hZ1:(octs b0).toArray.size=(octs bs).toArray.size:=by simp [octs_len,Hb01.out,hbl]
  have hall1:(octs bs).toArray.all (·.oneCell')=true:=by
   rw [List.all_toArray,List.all_eq_true]
   exact one_octs
  have hds:=Below.refl w.heap.size Y
  go_upto_region 7 with (first
   | (refine wpList_load_mid rfl 112 _ rfl cb (j * 257+1) rfl (octs bs) _ hpY hu98 rfl hlen1 ?_)
   | (refine wpList_wp rfl (fun Kx hKx=>wp_store_row 112 _ _ rfl w.heap.size (octs bs).toArray (by go_simp) (by go_simp) 112 (octs b0).toArray hYd hlen12 hZ1 hall1 (hKx _ _ ?_))))
  obtain⟨V,hV⟩:∃V:World,V=Y.drew.setRow w.heap.size (octs bs).toArray:=⟨_,rfl⟩
  rw [← hV]
  have hVb:V.heap[w.heap.size]?=some (.cells (octs bs).toArray 112 (0,0)):=by rw [hV];exact setRow_heap _ _ _ _ _ _ hYd
  have hVo:Olds w V:=⟨by rw [hV];simp;omega,fun b hb=>by rw [hV,setRow_other _ _ _ _ (by omega)];exact hYo.2 b hb⟩
  have hVs:V.heap.size=w.heap.size+1:=by rw [hV];simp;exact hYs
  have hVB:Below w.heap.size w V:=by
   rw [hV]
   exact hYB.drew.trans ⟨rfl,rfl,rfl,by simp,fun k hk=>setRow_other _ _ _ _ (by omega)⟩
  clear hV hpY hYd hZ1 hall1 hlen1 hlen12 y1 y2 y3 y4 hlk hpc hds
  have hcs:BytesAt V (.slice (some ⟨w.heap.size,0,none⟩) 256 256) bs:=by
   refine⟨_,_,by rw [hbl],(fun e=>by cases e),fun _=>⟨w.heap.size,0,rfl,fun jj v hv=>?_⟩⟩
   rw [cell_of_heap hVb]
   simpa using hv
  have HC:=Lib.hid (sclone_any hcs hb8 hbl (by decide))
  have HVo:=Lib.hid hVo
  have HVB:=Lib.hid hVB
  have hVs':=hVs
  clear hcs hVb hVo hVB
  go_upto_region 8 with (go_at_call 61;refine HC.out.mono ?_;clear HC;rintro e w3 ⟨v3,rfl,hr3,hb3⟩;obtain⟨o3,d3,rfl⟩:=hr3.shape;have Hr3:=Lib.hid hr3;have Hb3:=Lib.hid hb3;have hob3:w3.heap[ob]?=some (.cells #[v0] 34 (0,0)):=(hb3.block ob (by omega)).trans ((HVo.out.2 ob hobl).trans Hob.out);have hf3:w3.frozen? ⟨ob,0,none⟩=false:=(by simp [World.frozen?,hob3]);have hc3:w3.cell? ⟨ob,0,none⟩=some v0:=(by rw [cell_of_heap hob3];rfl);have Hob3:=Lib.hid hob3;clear hr3 hb3 hob3)
  go_wp2_with fail
  go_ret
  refine⟨rfl,⟨?_,?_,?_,?_,fun b hb hne=>?_⟩,.slice o3 256 d3,?_,?_⟩
  ·exact (HVB.out.trans (Hb3.out.mono (by omega))).os
  ·exact (HVB.out.trans (Hb3.out.mono (by omega))).tape
  ·exact (HVB.out.trans (Hb3.out.mono (by omega))).output
  ·have:=Hb3.out.size
   simp [World.setCell]
   omega
  ·rw [Below.heap_setCell _ _ _ _ (fun e=>hne (by rw [e])),Hb3.out.block b (by omega)]
   exact HVo.out.2 b hb
  ·simp [World.setCell,Array.getElem?_modify,Hob3.out]
  ·rw [hsec]
   refine⟨ownsRow_mono (ownsRow_blocks Hr3.out.1 fun g hg=>Below.heap_setCell _ _ _ _ fun e=>?_) (by omega),Hr3.out.2⟩
   have:=(ownsRow_block Hr3.out.1 hg).1
   have e2:g=ob:=e
   omega
 ·rw [e1] at hlk
  simp only [Option.getD_none,Option.isSome_none] at hlk
  have hsec:=sec_at (e4.trans Hb0.out)
  have hbl:=Hb01.out
  have hb8:=Hb02.out
  obtain⟨bs,hbs⟩:∃bs,bs=b0:=⟨_,rfl⟩
  rw [← hbs] at hsec hbl hb8 hYb
  clear e1 e4
  go_upto_region 4 with fail
  go_region
  obtain⟨V,hV⟩:∃V:World,V=Y.drew:=⟨_,rfl⟩
  have hVb:V.heap[w.heap.size]?=some (.cells (octs bs).toArray 112 (0,0)):=by rw [hV];exact hYb
  have hVo:Olds w V:=by rw [hV];exact hYo
  have hVs:V.heap.size=w.heap.size+1:=by rw [hV];exact hYs
  have hVB:Below w.heap.size w V:=by rw [hV];exact hYB.drew
  rw [← hV]
  clear hV y1 y2 y3 y4 hlk
  go_upto_region 7 with fail
  have hcs:BytesAt V (.slice (some ⟨w.heap.size,0,none⟩) 256 256) bs:=by
   refine⟨_,_,by rw [hbl],(fun e=>by cases e),fun _=>⟨w.heap.size,0,rfl,fun jj v hv=>?_⟩⟩
   rw [cell_of_heap hVb]
   simpa using hv
  have HC:=Lib.hid (sclone_any hcs hb8 hbl (by decide))
  have HVo:=Lib.hid hVo
  have HVB:=Lib.hid hVB
  have hVs':=hVs
  clear hcs hVb hVo hVB
  go_upto_region 8 with (go_at_call 61;refine HC.out.mono ?_;clear HC;rintro e w3 ⟨v3,rfl,hr3,hb3⟩;obtain⟨o3,d3,rfl⟩:=hr3.shape;have Hr3:=Lib.hid hr3;have Hb3:=Lib.hid hb3;have hob3:w3.heap[ob]?=some (.cells #[v0] 34 (0,0)):=(hb3.block ob (by omega)).trans ((HVo.out.2 ob hobl).trans Hob.out);have hf3:w3.frozen? ⟨ob,0,none⟩=false:=(by simp [World.frozen?,hob3]);have hc3:w3.cell? ⟨ob,0,none⟩=some v0:=(by rw [cell_of_heap hob3];rfl);have Hob3:=Lib.hid hob3;clear hr3 hb3 hob3)
  go_wp2_with fail
  go_ret
  refine⟨rfl,⟨?_,?_,?_,?_,fun b hb hne=>?_⟩,.slice o3 256 d3,?_,?_⟩
  ·exact (HVB.out.trans (Hb3.out.mono (by omega))).os
  ·exact (HVB.out.trans (Hb3.out.mono (by omega))).tape
  ·exact (HVB.out.trans (Hb3.out.mono (by omega))).output
  ·have:=Hb3.out.size
   simp [World.setCell]
   omega
  ·rw [Below.heap_setCell _ _ _ _ (fun e=>hne (by rw [e])),Hb3.out.block b (by omega)]
   exact HVo.out.2 b hb
  ·simp [World.setCell,Array.getElem?_modify,Hob3.out]
  ·rw [hsec]
   refine⟨ownsRow_mono (ownsRow_blocks Hr3.out.1 fun g hg=>Below.heap_setCell _ _ _ _ fun e=>?_) (by omega),Hr3.out.2⟩
   have:=(ownsRow_block Hr3.out.1 hg).1
   have e2:g=ob:=e
   omega
end Go.Proofs.YtndjmffnlcilbaaGreatDoor
namespace Go.Proofs.YtndjmffnlcilbaaGreatDoor
open Go Go.RowKit Go.Ix Go.Ext Go.Maps
theorem results_cell1 {P:Program}{fn:Func}{p t:Tmp}{ty:TypeId}(h:fn.results=#[.cell p ty,.tmp t]) (tmps:Array Value) (w:World) (a:Addr) (v:Value)
  (hp:tmps.getD p undef=.pointer (some a)) (hl:(loadVar ty a).run P w=.ok v w):(results fn tmps).run P w=.ok (.tuple #[v,tmps.getD t undef]) w:=by
 have hp':tmps[p]?.getD undef=.pointer (some a):=by simpa using hp
 simp [results,h,hp',asAddr,hl]
theorem load8 {w:World}{a:Addr}{v:Value}(h:w.cell? a=some v):(loadVar 34 a).run Tryz.prog w=.ok v w:=by
 simp [loadVar,isAgg,run_underlying Tryz.underlying34,Sem.run_bind,h]
def DreadEnd (w:World) (B db sm n:Nat) (K:Dk) (at':Nat) (e:Ending) (w':World):Prop :=
 DK w' B db sm n K.tick∧Fr B TD [sm] w w'∧((K.ok=true∧∃v,e=.returned (.tuple #[v,.int .u16 0])∧RowB w' w.heap.size v (sec K.view at') 256)∨(K.ok=false∧e=.returned (.tuple #[.slice none 0 0,.int .u16 4])))
set_option maxRecDepth 20000 in
set_option maxHeartbeats 1000000 in
theorem dread_any {w:World}{B db sm n:Nat}{K:Dk}(at':Nat) (h:DK w B db sm n K) (hat:at'<n) (hn:n≤1000000) (ht:K.cac.length≤1000000) (hB:B≤w.heap.size) :
  Calls Tryz.prog 34 #[.pointer (some ⟨db,0,none⟩),.int .i64 at'] w (DreadEnd w B db sm n K at'):=by
 obtain⟨X,hX⟩:∃X:World,X=(((w.alloc (.cells #[.pointer (some ⟨db,0,none⟩)] 25)).alloc (.cells #[.int .i64 at'] 3)).alloc (.cells #[.slice none 0 0] 34)):=⟨_,rfl⟩
 have HoX:Hid (Olds w X):=Lib.hid (by rw [hX];exact ((Olds.alloc _ _).trans (Olds.alloc _ _)).trans (Olds.alloc _ _))
 have HfX:Hid (Fr B TD [sm] w X):=Lib.hid (by rw [hX];exact (((Fr.refl _ _ _ _).alloc hB _).alloc (by simp;omega) _).alloc (by simp;omega) _)
 have hXs:X.heap.size=w.heap.size+1+1+1:=by rw [hX];simp
 have g1:X.heap[w.heap.size]?=some (.cells #[.pointer (some ⟨db,0,none⟩)] 25 (0,0)):=by
  rw [hX,Below.heap_alloc _ _ _ (by simp;omega),Below.heap_alloc _ _ _ (by simp)]
  exact heap_alloc_new _ _
 have g2:X.heap[w.heap.size+1]?=some (.cells #[.int .i64 at'] 3 (0,0)):=by
  rw [hX,Below.heap_alloc _ _ _ (by simp)]
  have:=heap_alloc_new (w.alloc (.cells #[.pointer (some ⟨db,0,none⟩)] 25)) (.cells #[.int .i64 (at':Nat)] 3)
  simpa using this
 have g3:X.heap[w.heap.size+1+1]?=some (.cells #[.slice none 0 0] 34 (0,0)):=by
  rw [hX]
  have:=heap_alloc_new ((w.alloc (.cells #[.pointer (some ⟨db,0,none⟩)] 25)).alloc (.cells #[.int .i64 (at':Nat)] 3)) (.cells #[.slice none 0 0] 34)
  simpa using this
 have HD:Hid (DK X.drew B db sm n K):=Lib.hid ((h.olds HoX.out).olds (Olds.drewN X 1))
 have hdlt:=h.lt
 have hsmlt:=h.seen.lt
 have HW:Hid (Calls Tryz.prog 56 #[.pointer (some ⟨db,0,none⟩),.pointer (some ⟨db,5,none⟩),.func (.func 60) #[] #[.pointer (some ⟨w.heap.size+1,0,none⟩),.pointer (some ⟨w.heap.size,0,none⟩),.pointer (some ⟨w.heap.size+1+1,0,none⟩)]] X.drew fun e w' =>
   DK w' B db sm n K.tick∧Fr B TD [sm] w w'∧∃(v:Value) (o:Option Addr) (m c cd:Nat),v=.slice o m c∧e=.returned (.int .u16 (cd:Nat))∧w'.heap[w.heap.size+1+1]?=some (.cells #[v] 34 (0,0))∧((K.ok=true∧cd=0∧RowB w' w.heap.size v (sec K.view at') 256)∨(K.ok=false∧cd=4∧v=.slice none 0 0))):=Lib.hid (by
  by_cases hok:K.ok=true
  ·refine (op_read (S:=fun w'=>DK w' B db sm n K.tick∧Fr B TD [sm] w w'∧∃v,w'.heap[w.heap.size+1+1]?=some (.cells #[v] 34 (0,0))∧RowB w' w.heap.size v (sec K.view at') 256) HD.out hok fun w1 h1=>?_).mono fun e w' ⟨a,b,c,v,d,r⟩=>?_
   ·have o3:=(h1.ot _ (by omega)).trans g3
    refine (dread1_any at' h1.dk hat hn (by rw [tick_cac];exact ht) ((h1.ot _ (by omega)).trans g2) ((h1.ot _ (by omega)).trans g1) o3).mono fun e w' ⟨a,b,v,c,d⟩=>⟨a,?_,?_,v,c,?_⟩
    ·obtain⟨es,cm,hkm⟩:=h1.dk.seen.kind
     refine h1.dk.keep (B':=B) (T:=[34]) (M:=[]) ⟨(Below.refl B w1).grown b (by rw [h1.sz];show B≤X.heap.size;omega) (fun x hx=>by cases hx;omega),fun x o hx _ htt=>(b.block x (heap_lt hx) fun e=>?_).trans hx⟩ (by decide) ⟨by simp,by simp⟩ (by simp) (by simp)
     cases e
     rw [o3] at hx
     exact htt _ _ _ (Option.some.inj hx).symm (by simp)
    ·have hf1:Fr B TD [sm] w w1:=HfX.out.drew.trans h1.fr
     exact⟨hf1.below.trans ((Below.refl B w1).grown b (by rw [h1.sz];show B≤X.heap.size;omega) (fun x hx=>by cases hx;omega)),fun x o hx hm htt=>(b.block x (by have:=heap_lt hx;have:=hf1.size;omega) fun e=>by cases e;have:=heap_lt hx;omega).trans (hf1.sp x o hx hm htt)⟩
    ·have e1:K.tick.view=K.view:=tick_view K
     rw [e1] at d
     refine⟨ownsRow_mono d.1 (by rw [h1.sz];show w.heap.size≤X.heap.size;omega),d.2⟩
   ·obtain⟨o3,c3,rfl⟩:=r.shape
    exact⟨b,c,_,o3,256,c3,0,rfl,a,d,.inl ⟨hok,rfl,r⟩⟩
  ·have hok:K.ok=false:=by simpa using hok
   exact (op_no HD.out hok).mono fun e w' ⟨a,h1⟩=>⟨h1.dk,HfX.out.drew.trans h1.fr,_,none,0,0,4,rfl,a,(h1.ot _ (by omega)).trans g3,.inr ⟨hok,rfl,rfl⟩⟩)
 have hz1:X.drew.cell? ⟨w.heap.size,0,none⟩=some (.pointer (some ⟨db,0,none⟩)):=by
  have h9:X.drew.heap[w.heap.size]?=_:=g1
  rw [cell_of_heap h9];rfl
 have HXe:=Lib.hid hX
 clear g1 g2 g3 hX h
 go_enter Tryz.func34,Tryz.ntmps34
 go_upto_region 1 with fail
 rw [← HXe.out]
 go_region_with (go_at_call 56;refine HW.out.mono ?_;clear HW;rintro e w' ⟨h1,h2,v,o3,m3,c3,cd,rfl,rfl,h3,hr⟩;have H1:=Lib.hid h1;have H2:=Lib.hid h2;have H3:=Lib.hid h3;have Hr:=Lib.hid hr;have f3:w'.frozen? ⟨w.heap.size+1+1,0,none⟩=false:=(by simp [World.frozen?,h3]);have k3:w'.cell? ⟨w.heap.size+1+1,0,none⟩=some (.slice o3 m3 c3):=(by rw [cell_of_heap h3];rfl);clear h1 h2 h3 hr)
 all_goals go_wp2_with fail
 all_goals
  have hset:∀b,b≠w.heap.size+1+1→(w'.setCell ⟨w.heap.size+1+1,0,none⟩ (.slice o3 m3 c3)).heap[b]?=w'.heap[b]?:=fun b hb=>Below.heap_setCell _ _ _ _ hb
  have hc9:(w'.setCell ⟨w.heap.size+1+1,0,none⟩ (.slice o3 m3 c3)).cell? ⟨w.heap.size+1+1,0,none⟩=some (.slice o3 m3 c3):=by simp [World.cell?,World.setCell,Array.getElem?_modify,H3.out]
  have hsame:(w'.setCell ⟨w.heap.size+1+1,0,none⟩ (.slice o3 m3 c3)).heap[w.heap.size+1+1]?=w'.heap[w.heap.size+1+1]?:=by simp [World.setCell,Array.getElem?_modify,H3.out]
  have hall:∀b,(w'.setCell ⟨w.heap.size+1+1,0,none⟩ (.slice o3 m3 c3)).heap[b]?=w'.heap[b]?:=fun b=>by
   by_cases hb:b=w.heap.size+1+1
   ·rw [hb];exact hsame
   ·exact hset b hb
  have ho:Olds w' (w'.setCell ⟨w.heap.size+1+1,0,none⟩ (.slice o3 m3 c3)):=⟨by simp [World.setCell],fun b _=>hall b⟩
  refine bodyPost_ret (results_cell1 (p:=4) (t:=5) (ty:=34) (by kernel_rfl) _ _ ⟨w.heap.size+1+1,0,none⟩ (.slice o3 m3 c3) rfl (load8 hc9)) rfl ?_
  refine⟨H1.out.olds ho,H2.out.trans ⟨⟨rfl,rfl,rfl,by simp [World.setCell],fun b hb=>hall b⟩,fun b o hb _ _=>(hall b).trans hb⟩,?_⟩
  rcases Hr.out with ⟨hok,rfl,hr⟩|⟨hok,rfl,hv⟩
  ·exact .inl ⟨hok,_,rfl,hr.olds ho⟩
  ·exact .inr ⟨hok,by rw [hv];rfl⟩
end Go.Proofs.YtndjmffnlcilbaaGreatDoor
