/- Contracts over this program. Their conditions: the slices read as the lists that are named, and lie within the sizes that are named. -/
import Derived.Test.YtndjmffnlcilbaaDoorXo
set_option linter.unusedSimpArgs false
set_option linter.unusedVariables false
set_option linter.deprecated false
set_option linter.unnecessarySimpa false
namespace Go.Proofs.YtndjmffnlcilbaaDoor
open Go Go.RowKit Go.Ix Go.Ext Go.Maps
def fc (l : Fs) (s : Txt) : List Value := [encStr s, .bool ((Ext.look l s).getD ⟨false, 0, 0, []⟩).log, .int .i64 (((Ext.look l s).getD ⟨false, 0, 0, []⟩).size : Nat), .int .i64 ((runsOf ((Ext.look l s).getD ⟨false, 0, 0, []⟩).secs).length : Nat)]
theorem fc_len (l : Fs) (s : Txt) : (fc l s).length = 4 := rfl
theorem fc_some {l : Fs} {s : Txt} {f : Fi} (h : Ext.look l s = some f) : fc l s = [encStr s, .bool f.log, .int .i64 (f.size : Nat), .int .i64 ((runsOf f.secs).length : Nat)] := by
  unfold fc
  rw [h]
  rfl
def told (l : Fs) (ks : List Txt) (k : Nat) : List Value := (ks.take k).flatMap (fc l)
theorem told_succ {l : Fs} {ks : List Txt} {k : Nat} {s : Txt} {f : Fi} (hs : ks[k]? = some s) (hf : Ext.look l s = some f) : told l ks (k + 1) = told l ks k ++ [encStr s, .bool f.log, .int .i64 (f.size : Nat), .int .i64 ((runsOf f.secs).length : Nat)] := by
  unfold told
  rw [List.take_add_one, hs, List.flatMap_append, ← fc_some hf]
  simp
def FilesEnd (w : World) (l : Fs) (e : Ending) (w' : World) : Prop :=
  Below w.heap.size w w' ∧ ∃ (v : Value) (ks : List Txt), e = .returned v ∧ ks.Perm (keys l) ∧ w'.ownsRow w.heap.size 44 4 v ks.length (ks.flatMap (fc l))
theorem Tryd.info44 : (Tryd.prog.info? 44).map (fun i => (i.zero, i.size, i.bytes)) = some (some (.agg #[encStr [], .bool false, .int .i64 0, .int .i64 0]), 4, 40) := by kernel_rfl
theorem Tryd.enters_runs : ∀ (args : Array Value) (w : World), (callFunc 40 args).run Tryd.prog w = .ok (.enter 40 args) w := enters_of Tryd.func40 (by kernel_rfl) rfl
set_option maxRecDepth 20000 in
set_option maxHeartbeats 4000000 in
theorem files_any {w : World} {B tb nb nm sb : Nat} {l : Fs} {c0 c1 c2 c4 c5 c6 c7 c8 : Value} (hsb : w.heap[sb]? = some (.cells #[c0, c1, c2, .map (some nb), c4, c5, c6, c7, c8] 61 (0, 0))) (h : SMap w B tb nb nm l) (hnm : nm ≤ 100000) (hl : ∀ p ∈ l, FileOk p) (hdl : dirLen l ≤ 1000000) :
    Calls Tryd.prog 13 #[.pointer (some ⟨sb, 0, none⟩)] w (FilesEnd w l) := by
  obtain ⟨i4, hi4, hz4, hy4, hx4⟩ := info_parts Tryd.info44
  have H := Lib.hid h
  have Hl := Lib.hid hl
  have hnd := h.nodup
  have h3 : w.cell? ⟨sb, 3, none⟩ = some (.map (some nb)) := by rw [cell_of_heap hsb]; rfl
  have HK := Lib.hid (mkeys_any (some nb) w)
  have HS := Lib.hid (sorted_any h (by omega))
  have Hsb := Lib.hid hsb
  clear hl h hsb
  go_enter Tryd.func13, Tryd.ntmps13
  go_wp2_with (first
    | (go_at_call 39; refine HK.out.mono ?_; clear HK; rintro e w2 ⟨rfl, rfl⟩)
    | (go_at_call 38; refine HS.out.mono ?_; clear HS; rintro e w3 ⟨kv, ks, rfl, hk3, hp3, hb3⟩; obtain ⟨ko, kc, rfl, hko⟩ := ownsRow_shape hk3; have Hk3 := Lib.hid hk3; have Hp3 := Lib.hid hp3; have Hb3 := Lib.hid hb3; clear hk3 hp3 hb3))
  have HB3 : Hid (Below w.heap.size w w3) := Lib.hid (((Below.refl _ w).alloc (Nat.le_refl _) _).trans (Hb3.out.mono (Nat.le_succ _)))
  have hs3 := Hb3.out.size
  have hm6 : ks.length ≤ 1000000 := by
    have h1 := Hp3.out.length_eq
    have h2 := len_le_dir l
    unfold keys at h1
    rw [List.length_map] at h1
    omega
  generalize hm : ks.length = m at *
  have Hm := Lib.hid hm
  clear hm
  go_loopw [3, 5, 6, 14] (fun sv _ _ iv wr => ∃ k : Nat, k ≤ m ∧ iv = .int .i64 k ∧ wr.ownsRow w.heap.size 44 4 sv k (told l ks k) ∧ Fr w.heap.size [44] [] w3 wr) (fun _ _ _ iv _ => m - (intOf iv).toNat)
  case atStart => exact ⟨0, Nat.zero_le _, rfl, World.ownsRow_nil _ _ _ _, Fr.refl _ _ _ _⟩
  case round =>
    obtain ⟨k, hk, rfl, hrow, hfr⟩ := hrel
    have Hrow := Lib.hid hrow
    have Hfr := Lib.hid hfr
    have hsr := hfr.size
    have hw3 : w.heap.size ≤ w3.heap.size := HB3.out.size
    have hww : w.heap.size ≤ wr.heap.size := by omega
    obtain ⟨so, sc, rfl, _⟩ := ownsRow_shape hrow
    clear hrow hfr
    by_cases hlt : k < m
    · obtain ⟨s, hs⟩ : ∃ s, ks[k]? = some s := ⟨_, List.getElem?_eq_getElem (by rw [Hm.out]; exact hlt)⟩
      obtain ⟨f, hf, hfl⟩ := look_key Hp3.out (List.mem_of_getElem? hs)
      obtain ⟨k1, k2, ⟨k3, k4⟩, k5, k6⟩ := Hl.out _ hfl
      simp only at k1 k2 k3 k4 k5 k6
      have HN := Lib.hid (told_succ hs hf)
      obtain ⟨kb, rfl⟩ : ∃ kb, ko = some ⟨kb, 0, none⟩ := by
        rcases Hk3.out.2 with ⟨_, h0⟩ | ⟨g, cap, cur, e, _⟩
        · omega
        · simp only [Value.slice.injEq] at e
          exact ⟨g, e.1⟩
      have hck : wr.cell? ⟨kb, k, none⟩ = some (encStr s) := by
        have h1 := ownsRow_cell (Hfr.out.keepRow Hk3.out (by decide) (by simp)) k (encStr s) (by simp [hs])
        simpa using h1
      have hBr : Fr w.heap.size [44] [] w wr := (Fr.of_below HB3.out (Nat.le_refl _) _ _).trans Hfr.out
      have hcr : wr.cell? ⟨sb, 3, none⟩ = some (.map (some nb)) := by rw [cell_of_heap (hBr.keep Hsb.out (by simp) (by decide))]; rfl
      have hmap := H.out.fr hBr (by decide) (by simp) (by simp)
      obtain ⟨v, hlk, _, _, hval⟩ := hmap.look s (by omega)
      obtain ⟨r, rfl, hrr, _⟩ := hval f hf
      obtain ⟨ro, rc, rfl, _⟩ := ownsRow_shape hrr
      have Hrr := Lib.hid hrr
      unfold fval at hlk
      clear hs hf hfl hmap hval hrr
      obtain ⟨lg, hlg⟩ : ∃ lg, lg = f.log := ⟨_, rfl⟩
      rw [← hlg] at hlk HN
      clear hlg
      generalize hfz : f.size = fz at *
      generalize hfu : f.sum = fu at *
      generalize hfn : f.secs.length = fn at *
      have HBr := Lib.hid hBr
      obtain ⟨A, hA⟩ : ∃ A : World, A = wr.alloc (.cells #[.bool lg, .int .i64 (fz : Nat), .int .u32 fu, .slice ro fn rc] 75) := ⟨_, rfl⟩
      have hAb : A.heap[wr.heap.size]? = some (.cells #[.bool lg, .int .i64 (fz : Nat), .int .u32 fu, .slice ro fn rc] 75 (0, 0)) := by rw [hA]; exact heap_alloc_new _ _
      have HoA : Hid (Olds wr A) := Lib.hid (by rw [hA]; exact Olds.alloc _ _)
      have hAs : A.heap.size = wr.heap.size + 1 := by rw [hA]; simp
      have HfA : Hid (Fr w.heap.size [44] [] w3 A) := Lib.hid (by rw [hA]; exact Hfr.out.alloc hww _)
      have HrowA := Lib.hid (ownsRow_olds Hrow.out HoA.out)
      have HrrA := Lib.hid (ownsRow_olds Hrr.out HoA.out)
      have HAb := Lib.hid hAb
      have HAe := Lib.hid hA
      have HAs := Lib.hid hAs
      have HR := Lib.hid (runs_any (w := A.drew) ro rc fn f.secs hfn (by omega) (fun a ha => by have := k5 a ha; omega) (owns_flat (ownsRow_olds HrrA.out (Olds.drewN A 1))))
      have HSf : Hid (∀ W' : World, Olds A W' → W'.cell? ⟨wr.heap.size, 0, none⟩ = some (.bool lg) ∧ W'.cell? ⟨wr.heap.size, 1, none⟩ = some (.int .i64 (fz : Nat)) ∧ W'.cell? ⟨wr.heap.size, 3, none⟩ = some (.slice ro fn rc)) := Lib.hid (fun W' hW => by
        refine ⟨hW.cell ?_, hW.cell ?_, hW.cell ?_⟩ <;> (rw [cell_of_heap hAb]; rfl))
      have HwA : Hid (w.heap.size ≤ A.heap.size) := Lib.hid (by omega)
      generalize hrl : (runsOf f.secs).length = rl at *
      have hrl9 : rl ≤ 100000 := by
        have h := runs_take_bound (A := 1000000) (fun a ha => by have := k5 a ha; omega) f.secs.length (Nat.le_refl _)
        rw [List.take_length] at h
        rw [← hrl]
        omega
      generalize htk : told l ks k = ts at *
      clear hA hAb hAs hBr hfn hfz hfu hrl htk
      have hkt : k < 1000000 := by omega
      go_upto_region 5 with fail
      go_upto_region 6 with fail
      rw [← HAe.out]
      refine wp_region_held_drew (S := (fun W' => W'.cell? ⟨wr.heap.size, 0, none⟩ = some (.bool lg) ∧ W'.cell? ⟨wr.heap.size, 1, none⟩ = some (.int .i64 (fz : Nat)) ∧ W'.cell? ⟨wr.heap.size, 3, none⟩ = some (.slice ro fn rc))) (by kernel_rfl) (HSf.out _ (Olds.drewN A 1)) (fun hHeld => ?_)
      refine wpAnyH_take (i := 0) (v := ?v0) rfl (by kernel_rfl) (by kernel_rfl) (by kernel_rfl) (fun _ _ _ h => h) (Or.inl ⟨by rfl, ?h0⟩) hHeld ?r0
      case h0 =>
        rintro W ⟨s1, s2, s3⟩
        go_simp
        all_goals with_reducible rfl
      try simp only [Act.put, List.getElem_toArray, List.getElem_cons_succ, List.getElem_cons_zero, List.setIfInBounds_toArray, List.set_cons_zero, List.set_cons_succ]
      refine wpAnyH_take (i := 1) (v := ?v1) rfl (by kernel_rfl) (by kernel_rfl) (by kernel_rfl) (fun _ _ _ h => h) (Or.inl ⟨by rfl, ?h1⟩) hHeld ?r1
      case h1 =>
        rintro W ⟨s1, s2, s3⟩
        go_simp
        all_goals with_reducible rfl
      try simp only [Act.put, List.getElem_toArray, List.getElem_cons_succ, List.getElem_cons_zero, List.setIfInBounds_toArray, List.set_cons_zero, List.set_cons_succ]
      refine wpAnyH_take (i := 2) (v := ?v2) rfl (by kernel_rfl) (by kernel_rfl) (by kernel_rfl) (fun _ _ _ h => h) (Or.inl ⟨by rfl, ?h2⟩) hHeld ?r2
      case h2 =>
        rintro W ⟨s1, s2, s3⟩
        go_simp
        all_goals with_reducible rfl
      try simp only [Act.put, List.getElem_toArray, List.getElem_cons_succ, List.getElem_cons_zero, List.setIfInBounds_toArray, List.set_cons_zero, List.set_cons_succ]
      refine wpAnyH_take (i := 3) (v := ?v3) rfl (by kernel_rfl) (by kernel_rfl) (by kernel_rfl) (fun _ _ _ h => h) (Or.inl ⟨by rfl, ?h3⟩) hHeld ?r3
      case h3 =>
        rintro W ⟨s1, s2, s3⟩
        go_simp
        all_goals with_reducible rfl
      try simp only [Act.put, List.getElem_toArray, List.getElem_cons_succ, List.getElem_cons_zero, List.setIfInBounds_toArray, List.set_cons_zero, List.set_cons_succ]
      refine wpAnyH_take (i := 4) (v := ?v4) rfl (by kernel_rfl) (by kernel_rfl) (by kernel_rfl) (fun _ _ _ h => h) (Or.inl ⟨by rfl, ?h4⟩) hHeld ?r4
      case h4 =>
        rintro W ⟨s1, s2, s3⟩
        go_simp
        all_goals with_reducible rfl
      try simp only [Act.put, List.getElem_toArray, List.getElem_cons_succ, List.getElem_cons_zero, List.setIfInBounds_toArray, List.set_cons_zero, List.set_cons_succ]
      refine wpAnyH_take (i := 5) (v := ?v5) rfl (by kernel_rfl) (by kernel_rfl) (by kernel_rfl) (fun _ _ _ h => h) (Or.inl ⟨by rfl, ?h5⟩) hHeld ?r5
      case h5 =>
        rintro W ⟨s1, s2, s3⟩
        go_simp
        all_goals with_reducible rfl
      try simp only [Act.put, List.getElem_toArray, List.getElem_cons_succ, List.getElem_cons_zero, List.setIfInBounds_toArray, List.set_cons_zero, List.set_cons_succ]
      refine wpAnyH_take (i := 6) (v := ?v6) rfl (by kernel_rfl) (by kernel_rfl) (by kernel_rfl) (fun _ _ _ h => h) (Or.inl ⟨by rfl, ?h6⟩) hHeld ?r6
      case h6 =>
        rintro W ⟨s1, s2, s3⟩
        go_simp
        all_goals with_reducible rfl
      try simp only [Act.put, List.getElem_toArray, List.getElem_cons_succ, List.getElem_cons_zero, List.setIfInBounds_toArray, List.set_cons_zero, List.set_cons_succ]
      refine wpAnyH_take (i := 7) (v := ?v7) rfl (by kernel_rfl) (by kernel_rfl) (by kernel_rfl) (fun _ _ _ h => h) (Or.inl ⟨by rfl, ?h7⟩) hHeld ?r7
      case h7 =>
        rintro W ⟨s1, s2, s3⟩
        go_simp
        all_goals with_reducible rfl
      try simp only [Act.put, List.getElem_toArray, List.getElem_cons_succ, List.getElem_cons_zero, List.setIfInBounds_toArray, List.set_cons_zero, List.set_cons_succ]
      refine wpAnyH_ready (rs := [8]) (by kernel_rfl) (by simp) (AllReadyH.cons rfl (fun K hK => ?_) AllReadyH.nil)
      refine step_call (by rfl) 40 _ _ (by rfl) #[.slice ro fn rc] ?hx Tryd.enters_runs (S := fun v w4 => w4.ownsRow A.drew.heap.size 106 2 v rl ((runsOf f.secs).flatMap pcells) ∧ Below A.drew.heap.size A.drew w4) (HR.out.mono ?_) ?_
      case hx =>
        simp only [List.map_toArray, List.map_cons, List.map_nil]
        go_simp
      · rintro e w4 ⟨v, rfl, h1, h2⟩
        exact ⟨_, rfl, h1, h2⟩
      rintro v w4 ⟨h1, h2⟩
      obtain ⟨vo, vc, rfl, _⟩ := ownsRow_shape h1
      have ho4 : Olds A w4 := (Olds.drewN A 1).trans (Olds.of_below h2)
      refine hK.out _ _ (HSf.out _ ho4) (fun hHeld2 => ?_)
      clear hK K
      try simp only [Act.put, List.getElem_toArray, List.getElem_cons_succ, List.getElem_cons_zero, List.setIfInBounds_toArray, List.set_cons_zero, List.set_cons_succ]
      refine wpAnyH_take (i := 9) (v := ?v9) rfl (by kernel_rfl) (by kernel_rfl) (by kernel_rfl) (fun _ _ _ h => h) (Or.inl ⟨by rfl, ?h9⟩) hHeld2 ?r9
      case h9 =>
        rintro W ⟨s1, s2, s3⟩
        go_simp
        all_goals with_reducible rfl
      try simp only [Act.put, List.getElem_toArray, List.getElem_cons_succ, List.getElem_cons_zero, List.setIfInBounds_toArray, List.set_cons_zero, List.set_cons_succ]
      refine wpAnyH_take (i := 10) (v := ?v10) rfl (by kernel_rfl) (by kernel_rfl) (by kernel_rfl) (fun _ _ _ h => h) (Or.inl ⟨by rfl, ?h10⟩) hHeld2 ?r10
      case h10 =>
        rintro W ⟨s1, s2, s3⟩
        go_simp
        all_goals with_reducible rfl
      try simp only [Act.put, List.getElem_toArray, List.getElem_cons_succ, List.getElem_cons_zero, List.setIfInBounds_toArray, List.set_cons_zero, List.set_cons_succ]
      have HrowV := Lib.hid (ownsRow_olds HrowA.out ho4)
      have Ho4 := Lib.hid ho4
      have HB4 := Lib.hid h2
      obtain ⟨V, hV⟩ : ∃ V : World, V = w4.alloc (.cells #[encStr s, .bool lg, .int .i64 (fz : Nat), .int .i64 (rl : Nat)] 44) := ⟨_, rfl⟩
      have HV := Lib.hid hV
      have hoV : Olds w4 V := by rw [hV]; exact Olds.alloc _ _
      have HoV := Lib.hid hoV
      have hVs : V.heap.size = w4.heap.size + 1 := by rw [hV]; simp
      have HVn : Hid (V.heap[w4.heap.size]? = some (.cells #[encStr s, .bool lg, .int .i64 (fz : Nat), .int .i64 (rl : Nat)] 44 (0, 0))) := Lib.hid (by rw [hV]; exact heap_alloc_new _ _)
      have hw4 : w.heap.size ≤ w4.heap.size := by have := ho4.1; have := HwA.out; omega
      clear h1 h2 hV ho4
      refine wpAnyH_ready (rs := [11]) (by kernel_rfl) (by simp) (AllReadyH.cons rfl (fun K hK => ?_) AllReadyH.nil)
      go_simp
      rw [← HV.out]
      refine hK.out _ _ (HSf.out _ (Ho4.out.trans HoV.out)) (fun hHeld3 => ?_)
      clear hK K
      try simp only [Act.put, List.getElem_toArray, List.getElem_cons_succ, List.getElem_cons_zero, List.setIfInBounds_toArray, List.set_cons_zero, List.set_cons_succ]
      refine wpAnyH_ready (rs := [12]) (by kernel_rfl) (by simp) (AllReadyH.cons rfl (fun K hK => ?_) AllReadyH.nil)
      have hrV : V.ownsRow w.heap.size 44 4 (.slice so k sc) k ts := ownsRow_olds HrowV.out HoV.out
      refine step_append_lies _ (by rfl) _ _ _ (by rfl) w.heap.size 44 i4 _ 4 40 Tryd.underlying41 hi4 hz4 hy4 hx4 rfl (by decide) (.slice so k sc) k ts (by go_simp) hrV ⟨w4.heap.size, 0, none⟩ 1 1 [encStr s, .bool lg, .int .i64 (fz : Nat), .int .i64 (rl : Nat)] (by go_simp) rfl (World.news_of_block (cs := #[encStr s, .bool lg, .int .i64 (fz : Nat), .int .i64 (rl : Nat)]) (t := 44) (fr := (0, 0)) HVn.out) ?one Nat.one_pos (by unfold maxLen; omega) (by omega) (by omega) (w4.heap.size + 1) hVs ?_
      case one =>
        intro u hu
        simp only [List.mem_cons, List.not_mem_nil, or_false] at hu
        rcases hu with rfl | rfl | rfl | rfl <;> rfl
      intro gg cap2 w5 hown5 hgrow5 hat5 hlt5
      have hHeld4 : w5.cell? ⟨wr.heap.size, 0, none⟩ = some (.bool lg) ∧ w5.cell? ⟨wr.heap.size, 1, none⟩ = some (.int .i64 (fz : Nat)) ∧ w5.cell? ⟨wr.heap.size, 3, none⟩ = some (.slice ro fn rc) := by
        have hb : V.heap[wr.heap.size]? = _ := ((Ho4.out.trans HoV.out).2 _ (heap_lt HAb.out)).trans HAb.out
        have hb5 := (hgrow5.block _ (heap_lt hb) (fun e => by
          obtain ⟨cur, hc⟩ := own_kind hrV e.symm
          rw [hc] at hb
          simp at hb)).trans hb
        refine ⟨?_, ?_, ?_⟩ <;> (rw [cell_of_heap hb5]; rfl)
      refine hK.out _ _ hHeld4 (fun hHeld5 => ?_)
      clear hK K
      try simp only [Act.put, List.getElem_toArray, List.getElem_cons_succ, List.getElem_cons_zero, List.setIfInBounds_toArray, List.set_cons_zero, List.set_cons_succ]
      refine wpAnyH_take (i := 13) (v := ?v13) rfl (by kernel_rfl) (by kernel_rfl) (by kernel_rfl) (fun _ _ _ h => h) (Or.inl ⟨by rfl, ?h13⟩) hHeld5 ?r13
      case h13 =>
        rintro W ⟨s1, s2, s3⟩
        go_simp
        all_goals with_reducible rfl
      try simp only [Act.put, List.getElem_toArray, List.getElem_cons_succ, List.getElem_cons_zero, List.setIfInBounds_toArray, List.set_cons_zero, List.set_cons_succ]
      refine wpAnyH_done (by kernel_rfl) ?_ _
      try simp only [Act.put, List.getElem_toArray, List.getElem_cons_succ, List.getElem_cons_zero, List.setIfInBounds_toArray, List.set_cons_zero, List.set_cons_succ]
      have HR5 : Hid (w5.ownsRow w.heap.size 44 4 (.slice (some ⟨gg, 0, none⟩) (k + 1) cap2) (k + 1) (told l ks (k + 1))) := Lib.hid (by rw [HN.out]; exact hown5)
      have HF5 : Hid (Fr w.heap.size [44] [] w3 w5) := Lib.hid ((((HfA.out.drew.trans (Fr.of_below HB4.out HwA.out _ _)).alloc hw4 _).row (by simp; omega) (by have h9 := hrV; rw [HV.out] at h9; exact h9) (by simp) (by have h9 := hgrow5; rw [HV.out] at h9; exact h9)))
      clear hown5 hgrow5 hrV hHeld hHeld2 hHeld3 hHeld4 hHeld5
      go_wp2_with fail
      go_roundw
      case rel => exact ⟨k + 1, by omega, by go_num, HR5.out, HF5.out⟩
      case measure => simp [intOf]; omega
    · obtain rfl : k = m := by omega
      go_wp2_with fail
      go_ret
      refine ⟨?_, _, ks, rfl, Hp3.out, ?_⟩
      · exact HB3.out.trans ⟨Hfr.out.below.os, Hfr.out.below.tape, Hfr.out.below.output, Hfr.out.below.size, Hfr.out.below.block⟩
      · have h := Hrow.out
        unfold told at h
        rw [← Hm.out, List.take_length] at h
        rw [← Hm.out] 
        exact h
end Go.Proofs.YtndjmffnlcilbaaDoor
namespace Go.Proofs.YtndjmffnlcilbaaDoor
open Go Go.RowKit Go.Ix Go.Ext Go.Maps
structure OpIn where
  kind : Nat
  name : Txt
  dest : Txt
  da : Option Addr
  dn : Nat
  dc : Nat
  n : Int
  ka : Option Addr
  kn : Nat
  kc : Nat
def opCells (o : OpIn) : List Value := [.int .u8 (o.kind : Nat), encStr o.name, encStr o.dest, .slice o.da o.dn o.dc, .int .i64 o.n, .slice o.ka o.kn o.kc]
theorem opCells_len (o : OpIn) : (opCells o).length = 6 := rfl
def RowOp (w : World) (o : Option Addr) (l : List OpIn) : Prop := l ≠ [] → ∃ b off, o = some ⟨b, off, none⟩ ∧ CellsAt w b off (l.flatMap opCells)
theorem RowOp.olds {w W : World} {o : Option Addr} {l : List OpIn} (h : RowOp w o l) (ho : Olds w W) : RowOp W o l := fun hne => by
  obtain ⟨b, off, e, hc⟩ := h hne
  exact ⟨b, off, e, hc.olds ho⟩
theorem RowOp.below {B : Nat} {w W : World} {o : Option Addr} {l : List OpIn} (h : RowOp w o l) (hb : Below B w W) (hB : w.heap.size ≤ B) : RowOp W o l := h.olds (Olds.of_below (hb.mono hB))
theorem RowOp.at {w : World} {o : Option Addr} {l : List OpIn} (h : RowOp w o l) {k : Nat} {x : OpIn} (hk : l[k]? = some x) : ∃ b off, o = some ⟨b, off, none⟩ ∧
    w.cell? ⟨b, off + k * 6, none⟩ = some (.int .u8 (x.kind : Nat)) ∧ w.cell? ⟨b, off + k * 6 + 1, none⟩ = some (encStr x.name) ∧ w.cell? ⟨b, off + k * 6 + 2, none⟩ = some (encStr x.dest) ∧ w.cell? ⟨b, off + k * 6 + 3, none⟩ = some (.slice x.da x.dn x.dc) ∧ w.cell? ⟨b, off + k * 6 + 4, none⟩ = some (.int .i64 x.n) ∧ w.cell? ⟨b, off + k * 6 + 5, none⟩ = some (.slice x.ka x.kn x.kc) := by
  have hne : l ≠ [] := fun e => by rw [e] at hk; simp at hk
  obtain ⟨b, off, rfl, hc⟩ := h hne
  have at' := fun (i : Nat) (v : Value) (hv : (opCells x)[i]? = some v) => hc.elem opCells_len hk hv
  exact ⟨b, off, rfl, by have := at' 0 _ rfl; simpa using this, at' 1 _ rfl, at' 2 _ rfl, at' 3 _ rfl, at' 4 _ rfl, at' 5 _ rfl⟩
def wtO (o : OpIn) : Nat := o.dn + o.kn + o.name.length + o.dest.length
def wtOs (l : List OpIn) : Nat := (l.map wtO).sum
theorem wtOs_take {l : List OpIn} {k : Nat} {x : OpIn} (h : l[k]? = some x) : wtOs (l.take (k + 1)) = wtOs (l.take k) + wtO x := by
  unfold wtOs
  rw [List.take_add_one, h, List.map_append, List.sum_append]
  simp
def VastO (l : List OpIn) : Prop := l.length ≤ 140737488355328 ∧ ∀ x ∈ l, x.dn ≤ 140737488355328 ∧ x.kn ≤ 140737488355328 ∧ x.name.length ≤ 140737488355328 ∧ x.dest.length ≤ 140737488355328
def MuchSays (x : Prop) (e : Ending) : Prop := e = .returned (.bool true) ∨ (e = .returned (.bool false) ∧ x)
set_option maxRecDepth 20000 in
set_option maxHeartbeats 2000000 in
theorem much_any (o : Option Addr) (n c : Nat) (l : List OpIn) (w : World) (hl : l.length = n) (hv : VastO l) (hc : RowOp w o l) : Calls Tryd.prog 5 #[.slice o n c] w fun e w' => MuchSays (wtOs l + n ≤ 400000 ∧ n ≤ 200) e ∧ ∃ q, w' = w.drewN q := by
  have Hc := Lib.hid hc
  have Hv := Lib.hid hv
  have Hl := Lib.hid hl
  have hn := hv.1
  rw [hl] at hn
  clear hc hv hl
  go_enter Tryd.func5, Tryd.ntmps5
  go_wp2_with fail
  go_loopw [3, 4] (fun nv iv wr => ∃ k q t : Nat, k ≤ n ∧ iv = .int .i64 k ∧ nv = .int .i64 t ∧ t ≤ 600000000000000 ∧ (400000 < t ∨ t = n + wtOs (l.take k)) ∧ wr = w.drewN q) (fun _ iv _ => n - (intOf iv).toNat)
  case atStart => exact ⟨0, 0, n, Nat.zero_le _, rfl, rfl, by omega, .inr (by rw [List.take_zero]; rfl), rfl⟩
  case round =>
    obtain ⟨k, q, t, hk, rfl, rfl, ht6, ht, rfl⟩ := hrel
    have Ht := Lib.hid ht
    clear ht
    by_cases hlt : k < n
    · by_cases h4 : t ≤ 400000
      · obtain ⟨x, hx⟩ : ∃ x, l[k]? = some x := ⟨_, List.getElem?_eq_getElem (by rw [Hl.out]; exact hlt)⟩
        obtain ⟨b, off, rfl, a0, a1, a2, a3, a4, a5⟩ := Hc.out.at hx
        obtain ⟨v1, v2, v3, v4⟩ := Hv.out.2 _ (List.mem_of_getElem? hx)
        have htk : t = n + wtOs (l.take k) := by rcases Ht.out with h | h <;> omega
        have Hnx : Hid (n + wtOs (l.take (k + 1)) = t + (x.dn + x.kn + x.name.length + x.dest.length)) := Lib.hid (by
          rw [wtOs_take hx]
          unfold wtO
          omega)
        have Hx := Lib.hid hx
        clear htk hx a0 a4
        generalize hd : x.dn = d at *
        generalize hkn : x.kn = kn at *
        have hw1 : IntKind.i64.wrap ((d : Int) + (kn : Int)) = (d : Int) + (kn : Int) := by rw [IntKind.wrap_i64]; omega
        have hw2 : IntKind.i64.wrap ((d : Int) + (kn : Int) + (x.name.length : Int)) = (d : Int) + (kn : Int) + (x.name.length : Int) := by rw [IntKind.wrap_i64]; omega
        have hw3 : IntKind.i64.wrap ((d : Int) + (kn : Int) + (x.name.length : Int) + (x.dest.length : Int)) = (d : Int) + (kn : Int) + (x.name.length : Int) + (x.dest.length : Int) := by rw [IntKind.wrap_i64]; omega
        have hw4 : IntKind.i64.wrap ((t : Int) + ((d : Int) + (kn : Int) + (x.name.length : Int) + (x.dest.length : Int))) = (t : Int) + ((d : Int) + (kn : Int) + (x.name.length : Int) + (x.dest.length : Int)) := by rw [IntKind.wrap_i64]; omega
        go_upto_region 5 with fail
        go_region_held (fun W => W.cell? ⟨b, off + k * 6 + 1, none⟩ = some (encStr x.name) ∧ W.cell? ⟨b, off + k * 6 + 2, none⟩ = some (encStr x.dest) ∧ W.cell? ⟨b, off + k * 6 + 3, none⟩ = some (.slice x.da d x.dc) ∧ W.cell? ⟨b, off + k * 6 + 5, none⟩ = some (.slice x.ka kn x.kc)) (exact ⟨a1, a2, a3, a5⟩) (fail)
        go_wp2_with fail
        go_roundw
        case rel => exact ⟨k + 1, q + 1, t + (d + kn + x.name.length + x.dest.length), by omega, by go_num, by go_num, by omega, .inr Hnx.out.symm, rfl⟩
        case measure => simp [intOf]; omega
      · go_wp2_with fail
        go_ret
        exact ⟨.inl rfl, q, rfl⟩
    · have Hfin : Hid (400000 < t ∨ t = n + wtOs l) := Lib.hid (by
        have h9 := Ht.out
        rwa [List.take_of_length_le (l := l) (by rw [Hl.out]; omega)] at h9)
      by_cases h4 : t ≤ 400000
      · by_cases h6 : n ≤ 200
        · go_wp2_with fail
          go_ret
          exact ⟨.inr ⟨ret_bool (a := decide (400000 < (t : Int)) || decide (200 < (n : Int))) (by simp; omega), by rcases Hfin.out with h | h <;> omega, h6⟩, q, rfl⟩
        · go_wp2_with fail
          go_ret
          exact ⟨.inl (ret_bool (a := decide (400000 < (t : Int)) || decide (200 < (n : Int))) (by simp; omega)), q, rfl⟩
      · go_wp2_with fail
        go_ret
        exact ⟨.inl rfl, q, rfl⟩
end Go.Proofs.YtndjmffnlcilbaaDoor
