/- Contracts over this program. Their conditions: the slices read as the lists that are named, and lie within the sizes that are named. -/
import Derived.Test.YtaoggppfimfhbaaGreatDoorNo
import Derived.Test.YtaoggppfimfhbaaGreatDoorNn
set_option linter.unusedSimpArgs false
set_option linter.unusedVariables false
set_option linter.deprecated false
set_option linter.unnecessarySimpa false
namespace Go.Proofs.YtaoggppfimfhbaaGreatDoor
open Go Go.RowKit Go.Ix Go.Maps

theorem PIx.keep {w W : World} {base ib t : Nat} (h : PIx w base ib t) (hb : ∀ b, base ≤ b → b < w.heap.size → W.heap[b]? = w.heap[b]?) : PIx W base ib t := by
  obtain ⟨lv, mk, mo, K, M, V, h⟩ := h
  exact ⟨lv, mk, mo, K, M, V, h.keep hb⟩
theorem PIx.more {w : World} {base ib t t' : Nat} (h : PIx w base ib t) (ht : t ≤ t') : PIx w base ib t' := by
  obtain ⟨lv, mk, mo, K, M, V, h⟩ := h
  exact ⟨lv, mk, mo, K, M, V, h.more ht⟩

theorem Bel.trans {base : Nat} {W X Y : World} (h : Bel base W X) (k : Bel base X Y) : Bel base W Y := ⟨h.bel.trans k.bel, fun b cs ty fr hc h1 h2 h3 => by
  have q := h.spare b cs ty fr hc h1 h2 h3
  exact (k.spare b cs ty fr (q.trans hc) h1 h2 h3).trans q⟩


def IxAt (w : World) (x : Nat) (l : List Ent) : Prop := ∃ o c sy ix, w.heap[x]? = some (.cells #[.slice o l.length c, sy, ix] 155 (0, 0)) ∧ RowsE w o l
def OpenEnd (l : List Ent) (w : World) (e : Ending) (w' : World) : Prop := ∃ x, e = .returned (.tuple #[.pointer (some ⟨x, 0, none⟩), .int .u16 0]) ∧ Below w.heap.size w w' ∧ w.heap.size ≤ x ∧ IxAt w' x l

theorem body_ent (l : List Ent) : body l = entBytes (symbols l) l (postPart (symbols l).length (grp (seqs (symbols l) l))) := by
  unfold body entBytes
  simp only [List.append_assoc]


theorem open_read {w : World} {g cap m n : Nat} {t : List Nat} (h : Row8At w g (m + 4) cap t) {l : List Ent} (hn : l.length = n) (hl : t.take m = body l) (hm : m ≤ 100000000000) (h60 : l.length ≤ 60) (hL : lblsOf l ≤ 4000) (hch : ∀ e ∈ l, e.2.length ≤ 4000) (hmay : May l) (X : World) (hX : Below w.heap.size w X) :
    Calls Tryz.prog 75 #[.slice (some ⟨g, 0, none⟩) m cap] X fun e w' => ∃ o c, e = .returned (.tuple #[.slice o n c, .bool true]) ∧ RowsE w' o l ∧ Below X.heap.size X w' := by
  have hlt : (t.take m).length = m := by rw [List.length_take, h.len]; omega
  have hle := ent_sizes hch hmay
  have hsl : (symbols l).length ≤ 8000 := (body_bound hmay hL h60 hch).1
  have hc : CellsAt X g 0 (octs (body l)) := fun j u hu => by
    refine (h.cells.olds (Olds.of_below hX)) j u ?_
    rw [← hl] at hu
    unfold octs at hu ⊢
    rw [List.map_take, List.getElem?_take] at hu
    split at hu
    · exact hu
    · cases hu
  have hmax := h.max
  unfold maxLen at hmax
  rw [body_ent] at hc
  refine (rd_entries (W := X) (g := g) (off := 0) (n := m) (cap := cap) l (symbols l) _ (fun s hs => (sym_ok hmay hs).2) (by omega) h60 hle (fun e he c hc => (hmay.ent he).2.plc hc) (fun e he y hy => ⟨idx_at (texts_mem he hy).1, idx_at (texts_mem he hy).2⟩) (by rw [← body_ent, ← hl]; exact hlt) (by omega) (by have := h.le; omega) (by unfold maxLen; omega) hc (by have := h.lt; have := hX.size; omega)).mono ?_
  rintro e w' ⟨u, rfl, hu, hb⟩
  obtain ⟨o, c, rfl, _, hr⟩ := hu.rows
  rw [hn]
  exact ⟨o, c, rfl, hr, hb⟩
theorem open_enc (hH : HalfOk) {n : Nat} {l : List Ent} (hn : l.length = n) (hs : Small l) (hL : lblsOf l ≤ 4000) (h60 : l.length ≤ 60) (hch : ∀ e ∈ l, e.2.length ≤ 4000) (hmay : May l) (X : World) (o : Option Addr) (c : Nat) (h8 : 8 ≤ X.heap.size) (hr : RowsE X o l) :
    Calls Tryz.prog 7 #[.slice o n c] X fun e w' => ∃ o7 n7 c7, e = .returned (.tuple #[.slice o7 n7 c7, .int .u16 0]) ∧ BytesAt w' (.slice o7 n7 c7) (encd crc l) ∧ Below X.heap.size X w' := by
  rw [← hn]
  refine (pencode_rows hH o c l X h8 hs hL h60 hch hr).mono ?_
  rintro e w' ⟨hE, hb⟩
  rcases hE with ⟨hno, _⟩ | ⟨_, v, rfl, hv⟩
  · exact absurd hmay hno
  · have hv' := hv
    unfold Row8 at hv'
    obtain ⟨o7, c7, rfl, _⟩ := ownsRow_shape hv'
    exact ⟨o7, _, c7, rfl, owns_flat hv', hb⟩
theorem row8_bytes {w X : World} {g n cap : Nat} {t : List Nat} (h : Row8At w g n cap t) (hX : Olds w X) : BytesAt X (.slice (some ⟨g, 0, none⟩) n cap) t := by
  unfold BytesAt
  rw [h.len]
  exact ⟨_, _, rfl, fun e => (by cases e), fun _ => ⟨g, 0, rfl, h.cells.olds hX⟩⟩
theorem open_equal {w : World} {g n cap : Nat} {t : List Nat} (h : Row8At w g n cap t) (X : World) (v : Value) (hv : BytesAt X v t) (hX : Below w.heap.size w X) :
    Calls Tryz.prog 76 #[v, .slice (some ⟨g, 0, none⟩) n cap] X fun e w' => e = .returned (.bool true) ∧ w' = X := equal_bytes _ _ t X h.byte hv (row8_bytes h (Olds.of_below hX))
theorem open_table {n : Nat} {l : List Ent} (hn : l.length = n) (hs : Small l) (hL : lblsOf l ≤ 4000) (hmay : May l) (X : World) (o : Option Addr) (c blk : Nat) (hr : RowsE X o l) (hb : X.heap[blk]? = some (.cells #[.slice none 0 0, .slice none 0 0, .map none] 93 (0, 0))) :
    Calls Tryz.prog 22 #[.pointer (some ⟨blk, 0, none⟩), .slice o n c] X fun e w' => e = .returned (.tuple #[]) ∧ ∃ so sn sc vv mb, w'.heap[blk]? = some (.cells #[vv, .slice so sn sc, .map (some mb)] 93 (0, 0)) ∧ Kept (But blk X) X w' := by
  have hlt := (Array.getElem?_eq_some_iff.1 hb).1
  refine (table_anyS (B := 0) (K := But blk X) (sy := .slice none 0 0) (nm := .map none) (bs := []) o n c l hn hs hL hr (fun s hs => (sym_ok hmay hs).2) (Nat.zero_le _) (fun b hb => hb.1) (.inr ⟨Nat.zero_le _, fun hk => hk.2 rfl, .slice none 0 0, hb, World.ownsRow_nil _ _ _ _, fun g hg => (by cases hg), fun e => (by cases e)⟩) (by simp)).mono ?_
  rintro e w' ⟨rfl, sv, mb, hbf, hk, _, _, so, sn, sc, rfl⟩
  obtain ⟨vv, h7, _⟩ := hbf.row
  exact ⟨rfl, so, sn, sc, vv, mb, h7, hk⟩

set_option maxRecDepth 20000 in
set_option maxHeartbeats 40000000 in

theorem open_good (hH : HalfOk) {w : World} {g cap m n : Nat} {t : List Nat} (h : Row8At w g (m + 4) cap t) (hm : m ≤ 100000000000) (hw8 : 8 ≤ w.heap.size) {l : List Ent} (ht : t = encd crc l) (hn : l.length = n) (hs : Small l) (hL : lblsOf l ≤ 4000) (h60 : l.length ≤ 60) (hch : ∀ e ∈ l, e.2.length ≤ 4000) (hmay : May l) :
    Calls Tryz.prog 15 #[.slice (some ⟨g, 0, none⟩) (m + 4 : Nat) cap] w (OpenEnd l w) := by
  have hml : m = (body l).length := by
    have h1 := h.len
    rw [ht, encd_len] at h1
    omega
  have htk : t.take m = body l := by rw [ht, hml, encd_take]
  have hgood : Go.Ix.Good t := ht ▸ encd_good l
  obtain ⟨h1, h2, h3⟩ := good_last h.byte h.len
  have hz := h3.1 hgood
  have HS := Lib.hid (open_sum hH h hm hw8)
  have HN := Lib.hid (open_num h hm)
  rw [hz] at HN
  have HRd := Lib.hid (open_read h hn htk hm h60 hL hch hmay)
  have HEn := Lib.hid (open_enc hH hn hs hL h60 hch hmay)
  rw [← ht] at HEn
  have HEq := Lib.hid (open_equal h)
  have HTb := Lib.hid (open_table hn hs hL hmay)
  have Hck : Hid (∀ e ∈ l, check e.1 = 0) := Lib.hid (fun e he => (hmay.ent he).1)
  have Hn := Lib.hid hn
  have hcap := h.le
  have hmax := h.max
  unfold maxLen at hmax
  have hn60 : n ≤ 60 := by omega
  rw [htk] at HS HN
  have hcl : crc (body l) < 4294967296 := crc_lt32 (body_bytes l)
  clear h1 h2 h3 hgood hz hH h hml htk ht hn hs hL h60 hch hmay
  generalize crc (body l) = c0 at *
  have hcm : ¬ cap = m := by omega
  have hneb : ((c0 : Int) != (c0 : Int)) = false := by simp
  have hwc : IntKind.u64.wrap (c0 : Int) = (c0 : Int) := by rw [IntKind.wrap_u64]; omega
  have B1 : Hid (Below w.heap.size w (w.alloc (.cells #[.slice (some ⟨g, m, none⟩) 4 (cap - m), .slice none 0 0] 148)).drew) := Lib.hid ((Below.refl _ w).alloc (Nat.le_refl _) _).drew
  have HN1 := Lib.hid (HN.out _ w.heap.size B1.out (Nat.le_refl _) (heap_alloc_new w _))
  clear HN
  go_enter Tryz.func15, Tryz.ntmps15
  go_upto_region 2 with fail
  go_cut [31] from 16 to 30 (fun t31 wx => t31 = .bool false ∧ Below w.heap.size w wx)
  case first =>
    go_region_with (first
      | (go_at_call 74; refine HN1.out.mono ?_; clear HN1; rintro e w1 ⟨rfl, hb1⟩; have B2 := Lib.hid hb1; clear hb1)
      | (go_at_call 27; refine (HS.out _ B2.out).mono ?_; clear HS; rintro e w2 ⟨rfl, hb2, hb2'⟩; have B3 := Lib.hid hb2'; clear hb2 hb2'))
    all_goals
      go_wp2_with fail
      go_meet
      case rel => exact ⟨rfl, B3.out⟩
  case rest =>
  obtain ⟨rfl, hb3⟩ := hcut
  have B3 := Lib.hid hb3
  clear hb3 HN1 HS B1
  generalize wc = w2 at *
  go_upto_region 12 with (first
    | (go_at_call 75; refine (HRd.out _ B3.out).mono ?_; clear HRd; rintro e w3 ⟨o, c, rfl, hrw, hb⟩; have Hrw := Lib.hid hrw; have B4 := Lib.hid (B3.out.trans (hb.mono B3.out.size)); clear hrw hb)
    | (go_at_call 7; refine (HEn.out _ _ _ (by have := B4.out.size; omega) Hrw.out).mono ?_; clear HEn; rintro e w4 ⟨o7, n7, c7, rfl, hby, hb⟩; have Hby := Lib.hid hby; have HbE := Lib.hid hb; have B5 := Lib.hid (B4.out.trans (hb.mono B4.out.size)); clear hby hb)
    | (go_at_call 76; refine (HEq.out _ _ Hby.out B5.out).mono ?_; clear HEq; rintro e w5 ⟨rfl, hw5⟩; rw [hw5]; clear hw5)
    | (go_at_call 77; refine (new_index _).mono ?_; rintro e w6 ⟨rfl, hpx, hb⟩; generalize w4.heap.size + 1 + 1 = ix at *; have Hpx := Lib.hid hpx; have HbN := Lib.hid hb; have B6 := Lib.hid (B5.out.trans (hb.mono B5.out.size)); clear hpx hb))
  obtain ⟨wd, hwd⟩ : ∃ wd : World, wd = (w6.alloc (.cells #[.slice o n c, .slice none 0 0, .pointer (some ⟨ix, 0, none⟩)] 155)).alloc (.cells #[.slice none 0 0, .slice none 0 0, .map none] 93) := ⟨_, rfl⟩
  rw [← hwd]
  have HX : Hid (wd.heap[w6.heap.size]? = some (.cells #[.slice o n c, .slice none 0 0, .pointer (some ⟨ix, 0, none⟩)] 155 (0, 0))) := Lib.hid (by rw [hwd]; exact (Below.heap_alloc _ _ _ (by simp)).trans (heap_alloc_new w6 _))
  have hWb : wd.heap[w6.heap.size + 1]? = some (.cells #[.slice none 0 0, .slice none 0 0, .map none] 93 (0, 0)) := by
    have h9 := heap_alloc_new (w6.alloc (.cells #[.slice o n c, .slice none 0 0, .pointer (some ⟨ix, 0, none⟩)] 155)) (.cells #[.slice none 0 0, .slice none 0 0, .map none] 93)
    rw [World.size_alloc] at h9
    rw [hwd]
    exact h9
  have Ho6 : Hid (Olds w6 wd) := Lib.hid (by rw [hwd]; exact (Olds.alloc _ _).trans (Olds.alloc _ _))
  have Hbd : Hid (Below w4.heap.size w4 wd) := Lib.hid (by rw [hwd]; exact (HbN.out.alloc HbN.out.size _).alloc (by have := HbN.out.size; simp; omega) _)
  have hds : w6.heap.size + 2 ≤ wd.heap.size := by rw [hwd]; simp
  have HT1 := Lib.hid (HTb.out wd o c (w6.heap.size + 1) (Hrw.out.olds (((Olds.of_below HbE.out).trans (Olds.of_below HbN.out)).trans Ho6.out)) hWb)
  have h46 := HbN.out.size
  clear HTb hWb hwd
  generalize hx6 : w6.heap.size = x at *
  have Hx6 := Lib.hid hx6
  clear hx6
  go_upto_region 14 with (go_at_call 22; refine HT1.out.mono ?_; clear HT1; rintro e w7 ⟨rfl, so, sn, sc, vv, mb, h7, hk⟩; have h7a : w7.cell? ⟨x + 1, 1, none⟩ = some (.slice so sn sc) := (by simp [World.cell?, h7]); have h7x : w7.heap[x]? = some (.cells #[.slice o n c, .slice none 0 0, .pointer (some ⟨ix, 0, none⟩)] 155 (0, 0)) := (hk.block x ⟨by omega, by omega⟩).trans HX.out; have h7b : w7.cell? ⟨x, 1, none⟩ = some (.slice none 0 0) := (by simp [World.cell?, h7x]); have h7c : w7.frozen? ⟨x, 1, none⟩ = false := (by simp [World.frozen?, h7x]); have H7x := Lib.hid h7x; have Hk7 := Lib.hid hk; clear h7 hk h7x)
  obtain ⟨w8, hw8e⟩ : ∃ w8 : World, w8 = w7.setCell ⟨x, 1, none⟩ (.slice so sn sc) := ⟨_, rfl⟩
  rw [← hw8e]
  have H8x : Hid (w8.heap[x]? = some (.cells #[.slice o n c, .slice so sn sc, .pointer (some ⟨ix, 0, none⟩)] 155 (0, 0))) := Lib.hid (by rw [hw8e]; simp [World.setCell, Array.getElem?_modify, H7x.out])
  have Hold8 : Hid (∀ b, b < x → w8.heap[b]? = w6.heap[b]?) := Lib.hid (fun b hb => by
    rw [hw8e]
    exact (Below.heap_setCell _ _ _ _ (by show b ≠ x; omega)).trans ((Hk7.out.block b ⟨by omega, by omega⟩).trans (Ho6.out.2 b (by rw [Hx6.out]; exact hb)))
    )
  have HP8 : Hid (PIx w8 w4.heap.size ix 0) := Lib.hid (Hpx.out.keep fun b _ hb => Hold8.out b (by rw [← Hx6.out]; exact hb))
  have H48 : Hid (Below w4.heap.size w4 w8) := Lib.hid (by
    rw [hw8e]
    exact (Hbd.out.trans (Hk7.out.below fun b hb => ⟨by omega, by omega⟩)).setCell (p := ⟨x, 1, none⟩) (by show w4.heap.size ≤ x; omega) _)
  have Hr8 : Hid (∀ W', Below w4.heap.size w4 W' → RowsE W' o l) := Lib.hid (fun W' h => Hrw.out.olds ((Olds.of_below HbE.out).trans (Olds.of_below h)))
  have h4x : w4.heap.size ≤ x := h46
  have hwx : w.heap.size ≤ x := by have := B5.out.size; omega
  clear hw8e h7a h7b h7c H7x Hk7 Hold8 Hpx Ho6 Hbd HX hds Hby
  go_upto_region 15 with fail
  go_loopw [12, 72] (fun _ iv wr => ∃ k : Nat, k ≤ n ∧ iv = .int .i64 k ∧ PIx wr w4.heap.size ix (140 * k) ∧ Bel w4.heap.size w8 wr) (fun _ iv _ => n - (intOf iv).toNat)
  case atStart => exact ⟨0, Nat.zero_le _, rfl, HP8.out, ⟨Below.refl _ _, fun b cs ty fr h _ _ _ => rfl⟩⟩
  case round =>
    obtain ⟨k, hk, rfl, hp, hbl⟩ := hrel
    have Hp := Lib.hid hp
    have Hbl := Lib.hid hbl
    have H4r : Hid (Below w4.heap.size w4 wr) := Lib.hid (H48.out.trans hbl.bel)
    have hxr : wr.heap[x]? = some (.cells #[.slice o n c, .slice so sn sc, .pointer (some ⟨ix, 0, none⟩)] 155 (0, 0)) := (hbl.spare x _ _ _ H8x.out (by decide) (by decide) (by decide)).trans H8x.out
    have Hxr := Lib.hid hxr
    have hszr := H4r.out.size
    clear hp hbl hxr
    by_cases hlt : k < n
    · obtain ⟨b, off, e1, e2, o1, n1, c1, o2, n2, c2, rfl, hx, hc1, hc2, hl1, hl2, hr1, hr2, h01, h02⟩ := (Hr8.out w4 (Below.refl _ _)).at (k := k) (by rw [Hn.out]; exact hlt)
      have hcr1 := (Olds.of_below H4r.out).cell hc1
      have hcr2 := (Olds.of_below H4r.out).cell hc2
      obtain ⟨Y, hY⟩ : ∃ Y : World, Y = wr.alloc (.cells #[.slice o1 n1 c1, .slice o2 n2 c2] 78) := ⟨_, rfl⟩
      have HbY : Hid (Bel w4.heap.size w8 Y.drew) := Lib.hid (by rw [hY]; exact (Hbl.out.alloc hszr _).drew)
      have hq1 : Y.drew.cell? ⟨x, 2, none⟩ = some (.pointer (some ⟨ix, 0, none⟩)) := by
        have h9 := HbY.out.spare x _ _ _ H8x.out (by decide) (by decide) (by decide)
        simp only [World.cell?, h9.trans H8x.out]
        rfl
      have hq2 : Y.drew.cell? ⟨wr.heap.size, 0, none⟩ = some (.slice o1 n1 c1) := by
        have h9 : Y.drew.heap[wr.heap.size]? = some (.cells #[.slice o1 n1 c1, .slice o2 n2 c2] 78 (0, 0)) := by rw [hY]; exact heap_alloc_new _ _
        simp only [World.cell?, h9]
        rfl
      have hsY : w4.heap.size ≤ Y.drew.heap.size := by have := HbY.out.size; have := H48.out.size; omega
      have HA : Hid (Calls Tryz.prog 78 #[.pointer (some ⟨ix, 0, none⟩), .slice o1 n1 c1] Y.drew (AddEnd Y.drew w4.heap.size ix (140 * k + 140))) := Lib.hid (add_any o1 c1 n1 e1 hl1 (Hck.out _ (List.mem_of_getElem? hx)) h01 (fun W' hW' => hr1.olds (Olds.of_below ((H48.out.trans HbY.out.bel).trans hW'))) hsY (by omega) (Hp.out.keep fun b _ hb => by rw [hY]; exact Below.heap_alloc _ _ _ hb))
      have HYe := Lib.hid hY
      clear hx hc1 hc2 hl1 hl2 hr1 hr2 h01 h02 hY
      go_upto_region 17 with fail
      rw [← HYe.out]
      refine wp_region_still_tail 6 (by kernel_rfl) (by kernel_rfl) ?_
      simp only [List.take_succ_cons, List.take_zero, List.drop_succ_cons, List.drop_zero]
      change wpStill _ _ (World.drew _) (fun a' => wpList _ _ _ _ a' (World.drew _)) _ _
      generalize Y.drew = Z at *
      repeat still_step
      try refine wpStill_nil ?_
      go_wp2_with (go_at_call 78; refine HA.out.mono ?_; clear HA; rintro e w9 ⟨⟨z, rfl⟩, hp9, hb9⟩; have Hp9 := Lib.hid hp9; have Hb9 := Lib.hid (HbY.out.trans hb9); clear hp9 hb9)
      go_roundw
      case rel => exact ⟨k + 1, by omega, by go_num, Hp9.out.more (by omega), Hb9.out⟩
      case measure => simp [intOf]; omega
    · go_wp2_with fail
      refine bodyPost_ret (results_tmp2 rfl _ _ _) rfl ?_
      refine ⟨x, rfl, B5.out.trans (H4r.out.mono B5.out.size), hwx, o, c, .slice so sn sc, .pointer (some ⟨ix, 0, none⟩), ?_, Hr8.out _ H4r.out⟩
      rw [Hn.out]
      exact Hxr.out
end Go.Proofs.YtaoggppfimfhbaaGreatDoor
