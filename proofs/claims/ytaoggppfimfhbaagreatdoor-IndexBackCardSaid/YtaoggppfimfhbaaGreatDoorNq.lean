/- Contracts over this program. Their conditions: the slices read as the lists that are named, and lie within the sizes that are named. -/
import Derived.Test.YtaoggppfimfhbaaGreatDoorNo
import Derived.Test.YtaoggppfimfhbaaGreatDoorNn
import Derived.Test.YtaoggppfimfhbaaGreatDoorNi
set_option linter.unusedSimpArgs false
set_option linter.unusedVariables false
set_option linter.deprecated false
set_option linter.unnecessarySimpa false
namespace Go.Proofs.YtaoggppfimfhbaaGreatDoor
open Go Go.RowKit Go.Ix Go.Maps

theorem len_ix {w : World} {x n c : Nat} {o : Option Addr} {sy ix : Value} (h : w.heap[x]? = some (.cells #[.slice o n c, sy, ix] 155 (0, 0))) :
    Calls Tryz.prog 16 #[.pointer (some ⟨x, 0, none⟩)] w fun e w' => e = .returned (.int .i64 (n : Nat)) ∧ w' = w := by
  have hc : w.cell? ⟨x, 0, none⟩ = some (.slice o n c) := by simp [World.cell?, h]
  clear h
  go_enter Tryz.func16, Tryz.ntmps16
  go_wp2_with fail
  go_ret
  exact ⟨rfl, rfl⟩

set_option maxRecDepth 20000 in
set_option maxHeartbeats 4000000 in
theorem same_entries (o1 o2 : Option Addr) (n c1 c2 : Nat) (l : List Ent) (w : World) (hl : l.length = n) (hn : n ≤ 60) (hs : ∀ e ∈ l, e.1.length ≤ 4000 ∧ e.2.length ≤ 4000) (h1 : RowsE w o1 l) (h2 : RowsE w o2 l) : Calls Tryz.prog 18 #[.slice o1 n c1, .slice o2 n c2] w fun e w' => e = .returned (.bool true) ∧ ∃ q, w' = w.drewN q := by
  have H1 := Lib.hid h1
  have H2 := Lib.hid h2
  have Hs := Lib.hid hs
  have Hl := Lib.hid hl
  clear h1 h2 hs hl
  go_enter Tryz.func18, Tryz.ntmps18
  go_wp2_with fail
  go_loopw [5] (fun i wr => ∃ k q : Nat, k ≤ n ∧ i = .int .i64 k ∧ wr = w.drewN q) (fun i _ => n - (intOf i).toNat)
  case atStart => exact ⟨0, 0, Nat.zero_le _, rfl, rfl⟩
  case round =>
    obtain ⟨k, q, hk, rfl, rfl⟩ := hrel
    by_cases hlt : k < n
    · obtain ⟨b, off, e1, e2, oa, na, ca, ob, nb, cb, rfl, hx, hc1, hc3, hl1, hl3, hr1, hr3, _⟩ := H1.out.at (k := k) (by rw [Hl.out]; exact hlt)
      obtain ⟨b', off', f1, f2, oa', na', ca', ob', nb', cb', rfl, hx', hc1', hc3', hl1', hl3', hr1', hr3', _⟩ := H2.out.at (k := k) (by rw [Hl.out]; exact hlt)
      rw [hx] at hx'
      simp only [Option.some.injEq, Prod.mk.injEq] at hx'
      obtain ⟨rfl, rfl⟩ := hx'
      obtain ⟨hs1, hs2⟩ := Hs.out _ (List.mem_of_getElem? hx)
      simp only at hs1 hs2
      obtain rfl : na = na' := by omega
      obtain rfl : nb = nb' := by omega
      have HW1 : Hid (∀ W : World, W.heap = w.heap → Calls Tryz.prog 81 #[.slice oa na ca, .slice oa' na ca'] W fun e w' => e = .returned (.bool true) ∧ ∃ q, w' = W.drewN q) := Lib.hid (fun W hW => same_labels oa oa' na ca ca' e1 W hl1 (by omega) (hr1.olds ⟨by rw [hW]; exact Nat.le_refl _, fun k _ => by rw [hW]⟩) (hr1'.olds ⟨by rw [hW]; exact Nat.le_refl _, fun k _ => by rw [hW]⟩))
      have HW2 : Hid (∀ W : World, W.heap = w.heap → Calls Tryz.prog 82 #[.slice ob nb cb, .slice ob' nb cb'] W fun e w' => e = .returned (.bool true) ∧ ∃ q, w' = W.drewN q) := Lib.hid (fun W hW => same_places ob ob' nb cb cb' e2 W hl3 (by omega) (hr3.olds ⟨by rw [hW]; exact Nat.le_refl _, fun k _ => by rw [hW]⟩) (hr3'.olds ⟨by rw [hW]; exact Nat.le_refl _, fun k _ => by rw [hW]⟩))
      have HS : Hid (∀ W : World, W.heap = w.heap → W.cell? ⟨b, off + k * 2, none⟩ = some (.slice oa na ca) ∧ W.cell? ⟨b, off + k * 2 + 1, none⟩ = some (.slice ob nb cb) ∧ W.cell? ⟨b', off' + k * 2, none⟩ = some (.slice oa' na ca') ∧ W.cell? ⟨b', off' + k * 2 + 1, none⟩ = some (.slice ob' nb cb')) := Lib.hid (fun W hW => by
        have hc : ∀ a : Addr, W.cell? a = w.cell? a := fun a => World.cell?_of_block (by rw [hW])
        exact ⟨(hc _).trans hc1, (hc _).trans hc3, (hc _).trans hc1', (hc _).trans hc3'⟩)
      clear hx hc1 hc3 hl1 hl3 hr1 hr3 hs1 hs2 hc1' hc3' hl1' hl3' hr1' hr3'
      go_upto_region 6 with fail
      go_region_held (fun W => W.cell? ⟨b, off + k * 2, none⟩ = some (.slice oa na ca) ∧ W.cell? ⟨b, off + k * 2 + 1, none⟩ = some (.slice ob nb cb) ∧ W.cell? ⟨b', off' + k * 2, none⟩ = some (.slice oa' na ca') ∧ W.cell? ⟨b', off' + k * 2 + 1, none⟩ = some (.slice ob' nb cb')) (exact HS.out _ (by rfl))
        (first
          | (go_at_call 81; refine (HW1.out _ (by rfl)).mono ?_; rintro e w2 ⟨rfl, q2, rfl⟩)
          | (go_at_call 82; refine (HW2.out _ (by rfl)).mono ?_; rintro e w3 ⟨rfl, q3, rfl⟩))
      all_goals
        go_wp2_with fail
        go_roundw
        case rel => exact ⟨k + 1, _, by omega, by go_num, by first | rfl | (simp only [World.drewN_drewN]; rfl)⟩
        case measure => simp [intOf]; omega
    · go_wp2_with fail
      go_ret
      exact ⟨rfl, q, rfl⟩

theorem results_cell_tmp {P : Program} {fn : Func} {p t : Tmp} {ty : TypeId} (h : fn.results = #[.cell p ty, .tmp t]) (tmps : Array Value) (w : World) (g : Nat) (t' : TypeId) (cs : Array Value) (fr : Nat × Nat) (d : TypeDesc)
    (hp : tmps.getD p undef = .pointer (some ⟨g, 0, none⟩)) (hg : w.heap[g]? = some (.cells cs t' fr))
    (hu : P.underlying ty = some d) (hd : (match d with | .struct _ | .array _ _ => true | _ => false) = true) (hi : (P.info? ty).map (·.size) = some cs.size) :
    (results fn tmps).run P w = .ok (.tuple #[.agg cs, tmps.getD t undef]) w := by
  have hp' : tmps[p]?.getD undef = .pointer (some ⟨g, 0, none⟩) := by simpa using hp
  simp [results, h, hp', asAddr, run_loadVar_row w g t' ty cs fr d hg hu hd hi]

theorem Olds.setNew2 {w W : World} (h : Olds w W) {p : Addr} (hp : w.heap.size ≤ p.block) (v : Value) : Olds w (W.setCell p v) := ⟨by simpa [World.setCell] using h.1, fun b hb => (Below.heap_setCell _ _ _ _ (by omega)).trans (h.2 b hb)⟩
theorem enters80 : ∀ (args : Array Value) (w : World), (callFunc 80 args).run Tryz.prog w = .ok (.enter 80 args) w := enters_of Tryz.func80 (by kernel_rfl) rfl

set_option maxRecDepth 20000 in
set_option maxHeartbeats 4000000 in
theorem entry_ix {w : World} {x n c k : Nat} {o : Option Addr} {sy ix : Value} {l : List Ent} {e1 : List Lbl} {e2 : List Plc} (hx : w.heap[x]? = some (.cells #[.slice o n c, sy, ix] 155 (0, 0))) (hn : l.length = n) (hn60 : n ≤ 60) (hr : RowsE w o l) (he : l[k]? = some (e1, e2)) (hs : e1.length ≤ 4000 ∧ e2.length ≤ 4000) :
    Calls Tryz.prog 17 #[.pointer (some ⟨x, 0, none⟩), .int .i64 (k : Nat)] w fun e w' => ∃ u1 u2, e = .returned (.tuple #[.agg #[u1, u2], .int .u16 0]) ∧ OwnL w' w.heap.size u1 e1 ∧ OwnP w' w.heap.size u2 e2 ∧ Below w.heap.size w w' := by
  have hk : k < n := by rw [← hn]; exact (List.getElem?_eq_some_iff.1 he).1
  obtain ⟨b, off, f1, f2, o1, n1, c1, o2, n2, c2, rfl, he', hc1, hc2, hl1, hl2, hr1, hr2, h01, h02⟩ := hr.at (k := k) (by rw [hn]; exact hk)
  rw [he] at he'
  simp only [Option.some.injEq, Prod.mk.injEq] at he'
  obtain ⟨rfl, rfl⟩ := he'
  obtain ⟨hs1, hs2⟩ := hs
  have hxl := (Array.getElem?_eq_some_iff.1 hx).1
  have HC1 : Hid (∀ W, Olds w W → Calls Tryz.prog 79 #[.slice o1 n1 c1] W fun e w' => ∃ v, e = .returned v ∧ ∃ o3 c3, v = .slice o3 n1 c3 ∧ OwnL w' W.heap.size (.slice o3 n1 c3) e1 ∧ Below W.heap.size W w') := Lib.hid (fun W hW => (clone_labels o1 c1 n1 e1 W hl1 (by omega) h01 (hr1.olds hW)).mono fun e w' h => by
    obtain ⟨v, rfl, q1, q2⟩ := h
    obtain ⟨o3, c3, rfl, _⟩ := ownsRow_shape q1
    refine ⟨_, rfl, o3, c3, rfl, ?_, q2⟩
    unfold OwnL
    rw [hl1]
    exact q1)
  have HC2 : Hid (∀ W, Olds w W → Calls Tryz.prog 80 #[.slice o2 n2 c2] W fun e w' => ∃ v, e = .returned v ∧ ∃ o3 c3, v = .slice o3 n2 c3 ∧ OwnP w' W.heap.size (.slice o3 n2 c3) e2 ∧ Below W.heap.size W w') := Lib.hid (fun W hW => (clone_places o2 c2 n2 e2 W hl2 (by omega) h02 (hr2.olds hW)).mono fun e w' h => by
    obtain ⟨v, rfl, q1, q2⟩ := h
    obtain ⟨o3, c3, rfl, _⟩ := ownsRow_shape q1
    refine ⟨_, rfl, o3, c3, rfl, ?_, q2⟩
    unfold OwnP
    rw [hl2]
    exact q1)
  have HS : Hid (∀ W, Olds w W → W.cell? ⟨x, 0, none⟩ = some (.slice (some ⟨b, off, none⟩) n c) ∧ W.cell? ⟨b, off + k * 2, none⟩ = some (.slice o1 n1 c1) ∧ W.cell? ⟨b, off + k * 2 + 1, none⟩ = some (.slice o2 n2 c2)) := Lib.hid (fun W hW => ⟨hW.cell (by simp [World.cell?, hx]), hW.cell hc1, hW.cell hc2⟩)
  obtain ⟨Y, hY⟩ : ∃ Y : World, Y = w.alloc (.cells #[.slice none 0 0, .slice none 0 0] 78) := ⟨_, rfl⟩
  have HYb : Hid (Y.heap[w.heap.size]? = some (.cells #[.slice none 0 0, .slice none 0 0] 78 (0, 0))) := Lib.hid (by rw [hY]; exact heap_alloc_new _ _)
  have HoY : Hid (Olds w Y) := Lib.hid (by rw [hY]; exact Olds.alloc _ _)
  have HbY : Hid (Below w.heap.size w Y) := Lib.hid (by rw [hY]; exact (Below.refl _ w).alloc (Nat.le_refl _) _)
  have hYs : Y.heap.size = w.heap.size + 1 := by rw [hY]; simp
  have HYs := Lib.hid hYs
  have HYe := Lib.hid hY
  have hc0 := (HS.out Y HoY.out).1
  clear hx hn hr he hc1 hc2 hl1 hl2 hr1 hr2 h01 h02 hs1 hs2 hY hYs
  go_enter Tryz.func17, Tryz.ntmps17
  go_upto_region 1 with fail
  rw [← HYe.out]
  go_upto_region 3 with fail
  go_region_held_law (fun W => W.cell? ⟨x, 0, none⟩ = some (.slice (some ⟨b, off, none⟩) n c) ∧ W.cell? ⟨b, off + k * 2, none⟩ = some (.slice o1 n1 c1) ∧ W.cell? ⟨b, off + k * 2 + 1, none⟩ = some (.slice o2 n2 c2))
    (first | exact HS.out _ (HoY.out.trans (Olds.drewN Y 1)) | exact HS.out _ Ho4.out | exact HS.out _ Ho5.out | exact HS.out _ ((Ho5.out.setNew2 (Nat.le_refl _) _).setNew2 (Nat.le_refl _) _) | exact HS.out _ (Ho5.out.setNew2 (Nat.le_refl _) _))
    (first
      | (refine step_call1 (by rfl) 79 _ _ (by rfl) _ (by rfl) enters79 (HC1.out _ (HoY.out.trans (Olds.drewN Y 1))) ?_; rintro v4 w4 ⟨o3, c3, rfl, hq4, hb4⟩; have Hq4 : Hid (OwnL w4 (w.heap.size + 1) (.slice o3 n1 c3) e1) := Lib.hid (ownsRow_mono hq4 (by have := HYs.out; show w.heap.size + 1 ≤ Y.heap.size; omega)); have Hb4 : Hid (Below w.heap.size w w4) := Lib.hid (HbY.out.drew.trans (hb4.mono (by have := HYs.out; show w.heap.size ≤ Y.heap.size; omega))); have Ho4 : Hid (Olds w w4) := Lib.hid (Olds.of_below Hb4.out); have H4 : Hid (w4.heap[w.heap.size]? = some (.cells #[.slice none 0 0, .slice none 0 0] 78 (0, 0))) := Lib.hid ((hb4.block w.heap.size (by have := HYs.out; show w.heap.size < Y.heap.size; omega)).trans HYb.out); clear hq4 hb4)
      | (refine step_call1 (by rfl) 80 _ _ (by rfl) _ (by rfl) enters80 (HC2.out _ Ho4.out) ?_; rintro v5 w5 ⟨o5, c5, rfl, hq5, hb5⟩; have h4s : w.heap.size < w4.heap.size := (Array.getElem?_eq_some_iff.1 H4.out).1; have Hq5 : Hid (OwnP w5 (w.heap.size + 1) (.slice o5 n2 c5) e2) := Lib.hid (ownsRow_mono hq5 h4s); have Hb5 : Hid (Below w.heap.size w w5) := Lib.hid (Hb4.out.trans (hb5.mono (Nat.le_of_lt h4s))); have Ho5 : Hid (Olds w w5) := Lib.hid (Olds.of_below Hb5.out); have H45 : Hid (Olds w4 w5) := Lib.hid (Olds.of_below hb5); have h5 : w5.heap[w.heap.size]? = some (.cells #[.slice none 0 0, .slice none 0 0] 78 (0, 0)) := (hb5.block w.heap.size h4s).trans H4.out; have H5 := Lib.hid h5; have k0 : w5.cell? ⟨w.heap.size, 0, none⟩ = some (.slice none 0 0) := (by simp [World.cell?, h5]); have k1 : w5.cell? ⟨w.heap.size, 1, none⟩ = some (.slice none 0 0) := (by simp [World.cell?, h5]); have k2 : w5.frozen? ⟨w.heap.size, 0, none⟩ = false := (by simp [World.frozen?, h5]); have k3 : w5.frozen? ⟨w.heap.size, 1, none⟩ = false := (by simp [World.frozen?, h5]); clear hq5 hb5 h5))
  all_goals
    go_wp2_with fail
    have hfin : ((w5.setCell ⟨w.heap.size, 0, none⟩ (.slice o3 n1 c3)).setCell ⟨w.heap.size, 1, none⟩ (.slice o5 n2 c5)).heap[w.heap.size]? = some (.cells #[.slice o3 n1 c3, .slice o5 n2 c5] 78 (0, 0)) := by simp [World.setCell, Array.getElem?_modify, H5.out]
    have hset : ∀ g, w.heap.size + 1 ≤ g → ((w5.setCell ⟨w.heap.size, 0, none⟩ (.slice o3 n1 c3)).setCell ⟨w.heap.size, 1, none⟩ (.slice o5 n2 c5)).heap[g]? = w5.heap[g]? := fun g hg => (Below.heap_setCell _ _ _ _ (by show g ≠ w.heap.size; omega)).trans (Below.heap_setCell _ _ _ _ (by show g ≠ w.heap.size; omega))
    refine bodyPost_ret (results_cell_tmp (p := 4) (t := 5) (ty := 78) (by kernel_rfl) _ _ w.heap.size 78 #[.slice o3 n1 c3, .slice o5 n2 c5] (0, 0) _ rfl hfin Tryz.underlying78 rfl (by kernel_rfl)) rfl ⟨_, _, rfl, ?_, ?_, (Hb5.out.setCell (Nat.le_refl _) _).setCell (Nat.le_refl _) _⟩
    · exact ownsRow_mono (ownsRow_blocks (ownsRow_olds Hq4.out H45.out) fun g hg => hset g (ownsRow_block Hq4.out hg).1) (Nat.le_succ _)
    · exact ownsRow_mono (ownsRow_blocks Hq5.out fun g hg => hset g (ownsRow_block Hq5.out hg).1) (Nat.le_succ _)
end Go.Proofs.YtaoggppfimfhbaaGreatDoor
namespace Go.Proofs.YtaoggppfimfhbaaGreatDoor
open Go Go.RowKit Go.Ix Go.Maps

structure AllAt (W : World) (B k : Nat) (l : List Ent) (us : List (Value × Value)) (v : Value) : Prop where
  row : W.ownsRow B 78 2 v k (us.flatMap entCells)
  len : us.length = k
  ents : EntsO W B us l

theorem AllAt.step {W w4 X w7 : World} {B k : Nat} {l : List Ent} {us : List (Value × Value)} {v v' u1 u2 : Value} {e1 : List Lbl} {e2 : List Plc} (h : AllAt W B k l us v) (hBW : B ≤ W.heap.size) (h4 : Olds W w4) (hX : Olds w4 X) (q1 : OwnL w4 W.heap.size u1 e1) (q2 : OwnP w4 W.heap.size u2 e2) (he : l[k]? = some (e1, e2))
    (hg : X.grownBy w7 v.ownBlock) (hr : w7.ownsRow B 78 2 v' (k + 1) (us.flatMap entCells ++ [u1, u2])) : AllAt w7 B (k + 1) l (us ++ [(u1, u2)]) v' := by
  have hvb : ∀ b, v.ownBlock = some b → b < W.heap.size ∧ ∃ cur, W.heap[b]? = some (.cells cur 78 (0, 0)) := fun b hb => ⟨(ownsRow_block h.row hb).2, own_kind h.row hb⟩
  have hs4 := h4.1
  have hsX := hX.1
  refine ⟨?_, by simp [h.len], fun i u e hu hie => ?_⟩
  · rw [List.flatMap_append]
    exact hr
  · by_cases hi : i < us.length
    · rw [List.getElem?_append_left hi] at hu
      have hk2 : EntsO w7 B us l := h.ents.keep fun b hb hlt hc => (hg.block b (by omega) (fun e9 => by
        obtain ⟨_, cur, q⟩ := hvb b e9.symm
        obtain ⟨cur', hc | hc⟩ := hc <;> (rw [q] at hc; simp at hc))).trans ((hX.2 b (by omega)).trans (h4.2 b hlt))
      exact hk2 i u e hu hie
    · have hil := (List.getElem?_eq_some_iff.1 hu).1
      rw [List.length_append, List.length_singleton] at hil
      have hik : i = us.length := by omega
      subst hik
      rw [List.getElem?_append_right (Nat.le_refl _), Nat.sub_self] at hu
      cases hu
      rw [h.len, he] at hie
      cases hie
      have keep : ∀ g, W.heap.size ≤ g → g < w4.heap.size → w7.heap[g]? = w4.heap[g]? := fun g hgl hlt => (hg.block g (by omega) (fun e9 => by have := (hvb g e9.symm).1; omega)).trans (hX.2 g hlt)
      exact ⟨ownsRow_mono (ownsRow_blocks q1 fun g hb => keep g (ownsRow_block q1 hb).1 (ownsRow_block q1 hb).2) hBW, ownsRow_mono (ownsRow_blocks q2 fun g hb => keep g (ownsRow_block q2 hb).1 (ownsRow_block q2 hb).2) hBW⟩

theorem AllAt.owns {W : World} {B k : Nat} {l : List Ent} {us : List (Value × Value)} {v : Value} (h : AllAt W B k l us v) (hk : k = l.length) : OwnsE W B v l := by
  subst hk
  exact ⟨us, h.len, h.row, h.ents⟩
theorem AllAt.none (W : World) (B : Nat) (l : List Ent) : AllAt W B 0 l [] (.slice none 0 0) := ⟨World.ownsRow_nil _ _ _ _, rfl, fun i u e hu => by simp at hu⟩
end Go.Proofs.YtaoggppfimfhbaaGreatDoor
