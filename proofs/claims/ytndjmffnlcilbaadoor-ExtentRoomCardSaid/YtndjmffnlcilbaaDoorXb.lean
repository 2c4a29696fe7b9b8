/- Contracts over this program. Their conditions: the slices read as the lists that are named, and lie within the sizes that are named. -/
import Derived.Test.YtndjmffnlcilbaaDoorXa
import Derived.Deep.CutRange
import Derived.StillTailTactics
import Derived.Deep.RegionHeldLaw
import Derived.Maps.OwnOps
import Derived.Maps.OwnSet
set_option linter.unusedSimpArgs false
set_option linter.unusedVariables false
set_option linter.deprecated false
set_option linter.unnecessarySimpa false
namespace Go.Proofs.YtndjmffnlcilbaaDoor
open Go Go.RowKit Go.Ix Go.Ext Go.Maps
abbrev TD : List Nat := [53, 98, 100]
def CacheOk (n k : Nat) (xs : List Value) : Prop := (∀ j, j < k → ∃ a : Nat, a < n ∧ xs[j * 257]? = some (.int .i64 a)) ∧ ∀ x ∈ xs, x.oneCell' = true
def SeenAt (w : World) (sm t : Nat) : Prop := ∃ nk D, w.ownsMap Tryd.prog 3 (plainElem (H := Unit) Tryd.prog 3) sm nk D ∧ nk ≤ t
structure DI (w : World) (B db sm n t : Nat) : Prop where
  bdb : B ≤ db
  bsm : B ≤ sm
  cell : ∃ lv cv q1 q2 q3, w.heap[db]? = some (.cells #[lv, cv, .map (some sm), .bool false, .int .i64 (-1), .int .i64 q1, .int .i64 q2, .int .i64 q3] 53 (0, 0)) ∧ (∃ xs, w.ownsRow B 98 256 lv n xs) ∧ ∃ k xs, w.ownsRow B 100 257 cv k xs ∧ k ≤ t ∧ CacheOk n k xs
  seen : SeenAt w sm t
theorem Tryd.lawI : Keyed Tryd.prog 3 := int_keyed Tryd.underlying3
theorem SeenAt.block {w W : World} {sm t : Nat} (h : SeenAt w sm t) (hb : W.heap[sm]? = w.heap[sm]?) : SeenAt W sm t := by
  obtain ⟨nk, D, ⟨es, clock, h1, h2⟩, h3⟩ := h
  exact ⟨nk, D, ⟨es, clock, hb.trans h1, h2⟩, h3⟩
theorem SeenAt.kind {w : World} {sm t : Nat} (h : SeenAt w sm t) : ∃ es c, w.heap[sm]? = some (.map es c) := by
  obtain ⟨nk, D, ⟨es, clock, h1, _⟩, _⟩ := h
  exact ⟨es, clock, h1⟩
theorem SeenAt.lt {w : World} {sm t : Nat} (h : SeenAt w sm t) : sm < w.heap.size := by
  obtain ⟨es, c, h⟩ := h.kind
  exact heap_lt h
theorem SeenAt.store {w : World} {sm t : Nat} (h : SeenAt w sm t) (a b : Nat) (ha : a ≤ 1000000000) (hb : b ≤ 1000000000) (ht : t < 1000000000) :
    ∃ w', (Instr.mapUpdate 50 (.map (some sm)) (.int .i64 a) (.int .i64 b)).run Tryd.prog w = .ok () w' ∧ SeenAt w' sm (t + 1) ∧ w.grownBy w' (some sm) := by
  obtain ⟨nk, D, hown, hn⟩ := h
  obtain ⟨w', h1, h2, h3⟩ := hown.update (t := 50) (e := 3) Tryd.lawI Tryd.underlying50 (by unfold maxLen; omega) (keyOf_int_mk Tryd.underlying3 (WalkArith.wf_i64 (n := (a : Int)) (by omega))) (plainElem_int Tryd.underlying3 (WalkArith.wf_i64 (n := (b : Int)) (by omega)))
  exact ⟨w', h1, ⟨_, _, h2, by omega⟩, h3⟩
theorem DI.keep {w W : World} {B B' db sm n t : Nat} {T M : List Nat} (h : DI w B db sm n t) (hf : Fr B' T M w W) (hT : ∀ x ∈ TD, x ∉ T) (hM : db ∉ M ∧ sm ∉ M) (hm : ∀ g cs fr, w.heap[g]? = some (.cells cs 98 fr) → g ∉ M) (hm2 : ∀ g cs fr, w.heap[g]? = some (.cells cs 100 fr) → g ∉ M) : DI W B db sm n t := by
  obtain ⟨h1, h2, ⟨lv, cv, q1, q2, q3, h3, ⟨xs, h4⟩, k, ys, h5, h6, h7⟩, h8⟩ := h
  obtain ⟨es, c, hk⟩ := h8.kind
  refine ⟨h1, h2, ⟨lv, cv, q1, q2, q3, hf.keep h3 hM.1 (hT _ (by simp)), ⟨xs, hf.keepRow h4 (hT _ (by simp)) fun g hg => ?_⟩, k, ys, hf.keepRow h5 (hT _ (by simp)) fun g hg => ?_, h6, h7⟩, h8.block ((hf.keepMap hk hM.2).trans hk.symm)⟩
  · obtain ⟨cur, hc⟩ := own_kind h4 hg
    exact hm g _ _ hc
  · obtain ⟨cur, hc⟩ := own_kind h5 hg
    exact hm2 g _ _ hc
theorem DI.olds {w W : World} {B db sm n t : Nat} (h : DI w B db sm n t) (hb : Olds w W) : DI W B db sm n t := by
  obtain ⟨h1, h2, ⟨lv, cv, q1, q2, q3, h3, ⟨xs, h4⟩, k, ys, h5, h6, h7⟩, h8⟩ := h
  exact ⟨h1, h2, ⟨lv, cv, q1, q2, q3, (hb.2 _ (heap_lt h3)).trans h3, ⟨xs, ownsRow_olds h4 hb⟩, k, ys, ownsRow_olds h5 hb, h6, h7⟩, h8.block (hb.2 _ h8.lt)⟩
theorem DI.more {w : World} {B db sm n t t' : Nat} (h : DI w B db sm n t) (ht : t ≤ t') : DI w B db sm n t' := by
  obtain ⟨h1, h2, ⟨lv, cv, q1, q2, q3, h3, h4, k, ys, h5, h6, h7⟩, nk, D, h8, h9⟩ := h
  exact ⟨h1, h2, ⟨lv, cv, q1, q2, q3, h3, h4, k, ys, h5, by omega, h7⟩, nk, D, h8, by omega⟩
theorem DI.lt {w : World} {B db sm n t : Nat} (h : DI w B db sm n t) : db < w.heap.size := by
  obtain ⟨_, _, ⟨lv, cv, q1, q2, q3, h3, _⟩, _⟩ := h
  exact heap_lt h3
theorem cell_not_map {w : World} {b i m c : Nat} {v : Value} {es : Array MapEntry} (hc : w.cell? ⟨b, i, none⟩ = some v) (hm : w.heap[m]? = some (.map es c)) : b ≠ m := fun e => by
  subst e
  simp [World.cell?, hm] at hc
theorem one_octs' {l : List Nat} : ∀ x ∈ octs l, x.oneCell' = true := one_octs
theorem cache_snoc {n k at' : Nat} {ys us : List Value} (h : CacheOk n k ys) (hl : ys.length = k * 257) (hat : at' < n) (hu : ∀ v ∈ us, v.oneCell' = true) : CacheOk n (k + 1) (ys ++ .int .i64 (at' : Nat) :: us) := by
  refine ⟨fun j hj => ?_, fun x hx => ?_⟩
  · rcases Nat.lt_or_ge j k with hjk | hjk
    · obtain ⟨a, ha, he⟩ := h.1 j hjk
      exact ⟨a, ha, by rw [List.getElem?_append_left (by rw [hl]; omega)]; exact he⟩
    · obtain rfl : j = k := by omega
      exact ⟨at', hat, by rw [List.getElem?_append_right (by rw [hl]; exact Nat.le_refl _), hl, Nat.sub_self]; rfl⟩
  · rcases List.mem_append.1 hx with hx | hx
    · exact h.2 x hx
    · rcases List.mem_cons.1 hx with rfl | hx
      · rfl
      · exact hu x hx
theorem di_wrote {w w2 X w5 : World} {B db sm n t k gg cap2 at' cc : Nat} {co : Option Addr} {lv : Value} {q1 q2 q3 : Int} {xs ys : List Value} {bs : List Nat} (bdb : B ≤ db) (bsm : B ≤ sm)
    (h3 : w.heap[db]? = some (.cells #[lv, .slice co k cc, .map (some sm), .bool false, .int .i64 (-1), .int .i64 q1, .int .i64 q2, .int .i64 q3] 53 (0, 0))) (h4 : w.ownsRow B 98 256 lv n xs) (h5 : w.ownsRow B 100 257 (.slice co k cc) k ys)
    (h6 : k ≤ t) (h7 : CacheOk n k ys) (h8 : SeenAt w sm t) (hg2 : w.grownBy w2 (some sm)) (hs2 : SeenAt w2 sm (t + 1)) (ho : Olds w2 X) (hg5 : X.grownBy w5 (Value.slice co k cc).ownBlock)
    (hown5 : w5.ownsRow B 100 257 (.slice (some ⟨gg, 0, none⟩) (k + 1) cap2) (k + 1) (ys ++ .int .i64 (at' : Nat) :: octs bs)) (hat : at' < n) : DI (w5.setCell ⟨db, 1, none⟩ (.slice (some ⟨gg, 0, none⟩) (k + 1) cap2)) B db sm n (t + 1) := by
  obtain ⟨es, cm, hkm⟩ := h8.kind
  obtain ⟨es2, cm2, hkm2⟩ := hs2.kind
  have hk : ∀ {b : Nat} {cs : Array Value} {ty : TypeId} {fr : Nat × Nat}, w.heap[b]? = some (.cells cs ty fr) → ty ≠ 100 → w5.heap[b]? = some (.cells cs ty fr) := fun {b cs ty fr} hc hne => by
    have h1 : w2.heap[b]? = some (.cells cs ty fr) := (hg2.block b (heap_lt hc) (fun e => by cases e; rw [hkm] at hc; cases hc)).trans hc
    have h2 : X.heap[b]? = some (.cells cs ty fr) := (ho.2 b (heap_lt h1)).trans h1
    refine (hg5.block b (heap_lt h2) fun e => ?_).trans h2
    obtain ⟨cur, h3⟩ := own_kind h5 e.symm
    rw [h3] at hc
    simp only [Option.some.injEq, Obj.cells.injEq] at hc
    exact hne hc.2.1.symm
  have hdb := hk h3 (by decide)
  have hsm5 : w5.heap[sm]? = w2.heap[sm]? := by
    have h2 : X.heap[sm]? = w2.heap[sm]? := ho.2 sm (heap_lt hkm2)
    refine (hg5.block sm (heap_lt (h2.trans hkm2)) fun e => ?_).trans h2
    obtain ⟨cur, h3⟩ := own_kind h5 e.symm
    rw [hkm] at h3
    cases h3
  have hne : db ≠ sm := fun e => by rw [e, hkm] at h3; cases h3
  refine ⟨bdb, bsm, ⟨lv, .slice (some ⟨gg, 0, none⟩) (k + 1) cap2, q1, q2, q3, ?_, ⟨xs, ownsRow_blocks h4 fun g hg => ?_⟩, k + 1, _, ownsRow_blocks hown5 fun g hg => ?_, by omega, cache_snoc h7 h5.1 hat one_octs⟩, hs2.block ?_⟩
  · simp [World.setCell, Array.getElem?_modify, hdb]
  · obtain ⟨cur, hc⟩ := own_kind h4 hg
    rw [Below.heap_setCell _ _ _ _ (fun e : g = db => by rw [e, h3] at hc; simp at hc), hc]
    exact hk hc (by decide)
  · obtain ⟨cur, hc⟩ := own_kind hown5 hg
    exact Below.heap_setCell _ _ _ _ (fun e : g = db => by rw [e, hdb] at hc; simp at hc)
  · rw [Below.heap_setCell _ _ _ _ (fun e : sm = db => hne e.symm)]
    exact hsm5
set_option maxRecDepth 20000 in
set_option maxHeartbeats 4000000 in
theorem dwrite1_any {w : World} {B db sm n t ab dbx bb : Nat} {bv : Value} (at' : Nat) (h : DI w B db sm n t) (hat : at' < n) (hn : n ≤ 1000000) (ht : t ≤ 1000000) (hB : B ≤ w.heap.size)
    (hab : w.heap[ab]? = some (.cells #[.int .i64 at'] 3 (0, 0))) (hdx : w.heap[dbx]? = some (.cells #[.pointer (some ⟨db, 0, none⟩)] 25 (0, 0))) (hbb : w.heap[bb]? = some (.cells #[bv] 33 (0, 0))) (hbs : ∃ B', ByteRow w B' bv 256) :
    Calls Tryd.prog 47 #[.pointer (some ⟨ab, 0, none⟩), .pointer (some ⟨dbx, 0, none⟩), .pointer (some ⟨bb, 0, none⟩)] w fun e w' => e = .returned (.int .u16 0) ∧ DI w' B db sm n (t + 1) ∧ Fr B TD [sm] w w' := by
  have H := Lib.hid h
  obtain ⟨_, _, ⟨lv, cv, q1, q2, q3, h3, ⟨xs, h4⟩, k, ys, h5, h6, h7⟩, h8⟩ := h
  obtain ⟨lo, lc, rfl, _⟩ := ownsRow_shape h4
  obtain ⟨co, cc, rfl, _⟩ := ownsRow_shape h5
  obtain ⟨B', bs, hrb, _, hbl⟩ := hbs
  unfold Row8 at hrb
  rw [hbl] at hrb
  obtain ⟨g, bc, rfl⟩ : ∃ g bc, bv = .slice (some ⟨g, 0, none⟩) 256 bc := by
    rcases hrb.2 with ⟨_, h0⟩ | ⟨g, cap, cur, e, _⟩
    · cases h0
    · exact ⟨g, cap, e⟩
  obtain ⟨off, hoff⟩ : ∃ off, off = 0 := ⟨_, rfl⟩
  have hcb : CellsAt w g off (octs bs) := by rw [hoff]; exact ownsRow_cell hrb
  have ha : w.cell? ⟨ab, 0, none⟩ = some (.int .i64 at') := by rw [cell_of_heap hab]; rfl
  have hd : w.cell? ⟨dbx, 0, none⟩ = some (.pointer (some ⟨db, 0, none⟩)) := by rw [cell_of_heap hdx]; rfl
  have hb : w.cell? ⟨bb, 0, none⟩ = some (.slice (some ⟨g, off, none⟩) 256 bc) := by rw [cell_of_heap hbb, hoff]; rfl
  have Hab := Lib.hid hab
  have Hdx := Lib.hid hdx
  have Hbb := Lib.hid hbb
  have Hrb := Lib.hid hrb
  have c0 : w.cell? ⟨db, 0, none⟩ = some (.slice lo n lc) := by rw [cell_of_heap h3]; rfl
  have c1 : w.cell? ⟨db, 1, none⟩ = some (.slice co k cc) := by rw [cell_of_heap h3]; rfl
  have c2 : w.cell? ⟨db, 2, none⟩ = some (.map (some sm)) := by rw [cell_of_heap h3]; rfl
  have H3 := Lib.hid h3
  have H4 := Lib.hid h4
  have H5 := Lib.hid h5
  have H7 := Lib.hid h7
  have H8 := Lib.hid h8
  have Hcb := Lib.hid hcb
  have Hbl := Lib.hid hbl
  clear h3 h4 h5 h7 h8 hcb hbl hab hdx hbb hrb hoff
  go_enter Tryd.func47, Tryd.ntmps47
  go_wp2_with fail
  go_quiet (fail)
  go_upto_region 5 with fail
  obtain ⟨w2, hup, hs2, hg2⟩ := (H8.out.block (W := w.drewN (nq + 1)) rfl).store at' k (by omega) (by omega) (by omega)
  go_region
  go_upto_region 6 with fail
  obtain ⟨es, cm, hkm⟩ := H8.out.kind
  have hw2 : ∀ b, b < w.heap.size → b ≠ sm → w2.heap[b]? = w.heap[b]? := fun b hb hne => hg2.block b hb (fun e => hne (by cases e; rfl))
  have hcell2 : ∀ {b j : Nat} {v : Value}, w.cell? ⟨b, j, none⟩ = some v → w2.cell? ⟨b, j, none⟩ = some v := fun {b j v} hc => (World.cell?_of_block (w := w) (w' := w2) (hw2 b (cell_lt hc) (cell_not_map hc hkm))).trans hc
  have h32 : w2.heap[db]? = _ := (hw2 db (heap_lt H3.out) (cell_not_map c0 hkm)).trans H3.out
  have hrow2 : w2.ownsRow B 100 257 (.slice co k cc) k ys := ownsRow_blocks H5.out fun g hg => by
    obtain ⟨cur, hcur⟩ := own_kind H5.out hg
    exact hw2 g (heap_lt hcur) (fun e => by rw [e, hkm] at hcur; cases hcur)
  have hcb2 : CellsAt w2 g off (octs bs) := fun j v hv => hcell2 (Hcb.out j v hv)
  have hs2z := hg2.size
  have hws : (w.drewN (nq + 1)).heap.size = w.heap.size := rfl
  have HK5 : Hid (∀ X w5 : World, Olds w2 X → X.grownBy w5 (Value.slice co k cc).ownBlock → w5.cell? ⟨dbx, 0, none⟩ = some (.pointer (some ⟨db, 0, none⟩)) ∧ w5.cell? ⟨ab, 0, none⟩ = some (.int .i64 at') ∧ w5.cell? ⟨bb, 0, none⟩ = some (.slice (some ⟨g, off, none⟩) 256 bc) ∧ w5.rangeAt g off (octs bs) ∧ w5.heap[db]? = w2.heap[db]?) := Lib.hid (fun X w5 ho hg5 => by
    have hk : ∀ {b : Nat} {cs : Array Value} {ty : TypeId} {fr : Nat × Nat}, w.heap[b]? = some (.cells cs ty fr) → ty ≠ 100 → w5.heap[b]? = w2.heap[b]? := fun {b cs ty fr} hc hne => by
      have h1 : w2.heap[b]? = some (.cells cs ty fr) := (hw2 b (heap_lt hc) (fun e => by rw [e, hkm] at hc; cases hc)).trans hc
      have h2 : X.heap[b]? = w2.heap[b]? := ho.2 b (heap_lt h1)
      refine (hg5.block b (heap_lt (h2.trans h1)) fun e => ?_).trans h2
      obtain ⟨cur, h3⟩ := own_kind H5.out e.symm
      rw [h3] at hc
      simp only [Option.some.injEq, Obj.cells.injEq] at hc
      exact hne hc.2.1.symm
    obtain ⟨cur, hgk⟩ := own_kind Hrb.out (g := g) rfl
    refine ⟨?_, ?_, ?_, ?_, hk H3.out (by decide)⟩
    · rw [World.cell?_of_block (w := w2) (hk Hdx.out (by decide))]; exact hcell2 hd
    · rw [World.cell?_of_block (w := w2) (hk Hab.out (by decide))]; exact hcell2 ha
    · rw [World.cell?_of_block (w := w2) (hk Hbb.out (by decide))]; exact hcell2 hb
    · intro j v hv
      rw [World.cell?_of_block (w := w2) (hk hgk (by decide))]
      exact hcb2 j v hv)
  have HS : Hid (∀ W' : World, Olds w2 W' → W'.cell? ⟨dbx, 0, none⟩ = some (.pointer (some ⟨db, 0, none⟩)) ∧ W'.cell? ⟨ab, 0, none⟩ = some (.int .i64 at') ∧ W'.cell? ⟨bb, 0, none⟩ = some (.slice (some ⟨g, off, none⟩) 256 bc) ∧ W'.rangeAt g off (octs bs)) := Lib.hid (fun W' ho => ⟨ho.cell (hcell2 hd), ho.cell (hcell2 ha), ho.cell (hcell2 hb), hcb2.olds ho⟩)
  have hc1d : w2.drew.cell? ⟨db, 1, none⟩ = some (.slice co k cc) := hcell2 c1
  have HN : Hid (ab ≠ db ∧ dbx ≠ db ∧ bb ≠ db ∧ g ≠ db) := Lib.hid (by
    have hn : ∀ {b : Nat} {cs : Array Value} {ty : TypeId} {fr : Nat × Nat}, w.heap[b]? = some (.cells cs ty fr) → ty ≠ 53 → b ≠ db := fun {b cs ty fr} hc hne e => by
      have h9 := H3.out
      rw [← e, hc] at h9
      simp only [Option.some.injEq, Obj.cells.injEq] at h9
      exact hne h9.2.1
    obtain ⟨cur, hgk⟩ := own_kind Hrb.out (g := g) rfl
    exact ⟨hn Hab.out (by decide), hn Hdx.out (by decide), hn Hbb.out (by decide), hn hgk (by decide)⟩)
  have Hrow2 := Lib.hid hrow2
  have Hcb2 := Lib.hid hcb2
  have H32 := Lib.hid h32
  have Hs2 := Lib.hid hs2
  have Hg2 := Lib.hid (show w.grownBy w2 (some sm) from ⟨hg2.os, hg2.tape, hg2.output, hg2.size, hg2.block⟩)
  have Hf2 : Hid (Fr B TD [sm] w w2) := Lib.hid ((⟨⟨rfl, rfl, rfl, Nat.le_refl _, fun _ _ => rfl⟩, fun _ _ h _ _ => h⟩ : Fr B TD [sm] w (w.drewN (nq + 1))).map hB hg2 (by simp) H.out.bsm)
  have hlen : (Tryd.prog.info? 98).map (·.size) = some (octs bs).length := by
    obtain ⟨i0, hi0, _, hz1, _⟩ := info_parts Tryd.info98
    rw [octs_len, Hbl.out, hi0, ← hz1]
    rfl
  have hCs3 : (octs bs).length = 256 := by simp [octs_len, Hbl.out]
  have HC1 : Hid (∀ v ∈ (Value.int .i64 (at' : Nat) :: octs bs), v.oneCell' = true) := Lib.hid (fun v hv => by
    rcases List.mem_cons.1 hv with rfl | hv
    · rfl
    · exact one_octs v hv)
  obtain ⟨i7, hi7, hz7, hy7, hx7⟩ := info_parts Tryd.info100
  have hzc : (Value.agg (#[.int .i64 0] ++ sec0)).cells.size = 257 := by simp [Value.cells, sec0_size]
  have hap : ∀ W : World, (Instr.arrayAt 98 (.slice (some ⟨g, off, none⟩) 256 bc)).run Tryd.prog W = .ok (.pointer (some ⟨g, off, none⟩)) W := fun W => by simp [Instr.arrayAt, run_underlying Tryd.underlying98]
  have hu98 := Tryd.underlying98
  clear hup hs2 hg2 hkm hw2 hcell2 h32 hrow2 hcb2 ha hd hb c0 c1 c2
  refine wp_region_held_drew (S := (fun W' => W'.cell? ⟨dbx, 0, none⟩ = some (.pointer (some ⟨db, 0, none⟩)) ∧ W'.cell? ⟨ab, 0, none⟩ = some (.int .i64 at') ∧ W'.cell? ⟨bb, 0, none⟩ = some (.slice (some ⟨g, off, none⟩) 256 bc) ∧ W'.rangeAt g off (octs bs))) (by kernel_rfl) (HS.out _ (Olds.drewN w2 1)) (fun hHeld => ?_)
  refine wpAnyH_take (i := 0) (v := ?v0) rfl (by kernel_rfl) (by kernel_rfl) (by kernel_rfl) (fun _ _ _ h => h) (Or.inl ⟨by rfl, ?h0⟩) hHeld ?r0
  case h0 =>
    rintro W ⟨s1, s2, s3, s4⟩
    go_simp
    all_goals with_reducible rfl
  try simp only [Act.put, List.setIfInBounds_toArray, List.set_cons_zero, List.set_cons_succ]
  refine wpAnyH_take (i := 1) (v := ?v1) rfl (by kernel_rfl) (by kernel_rfl) (by kernel_rfl) (fun _ _ _ h => h) (Or.inl ⟨by rfl, ?h1⟩) hHeld ?r1
  case h1 =>
    rintro W ⟨s1, s2, s3, s4⟩
    go_simp
    all_goals with_reducible rfl
  try simp only [Act.put, List.setIfInBounds_toArray, List.set_cons_zero, List.set_cons_succ]
  refine wpAnyH_take (i := 2) (v := ?v2) rfl (by kernel_rfl) (by kernel_rfl) (by kernel_rfl) (fun _ _ _ h => h) (Or.inl ⟨by rfl, ?h2⟩) hHeld ?r2
  case h2 =>
    rintro W ⟨s1, s2, s3, s4⟩
    go_simp
    all_goals with_reducible rfl
  try simp only [Act.put, List.setIfInBounds_toArray, List.set_cons_zero, List.set_cons_succ]
  refine wpAnyH_take (i := 3) (v := ?v3) rfl (by kernel_rfl) (by kernel_rfl) (by kernel_rfl) (fun _ _ _ h => h) (Or.inl ⟨by rfl, ?h3⟩) hHeld ?r3
  case h3 =>
    rintro W ⟨s1, s2, s3, s4⟩
    go_simp
    all_goals with_reducible rfl
  try simp only [Act.put, List.setIfInBounds_toArray, List.set_cons_zero, List.set_cons_succ]
  refine wpAnyH_take (i := 5) (v := ?v5) rfl (by kernel_rfl) (by kernel_rfl) (by kernel_rfl) (fun _ _ _ h => h) (Or.inl ⟨by rfl, ?h5⟩) hHeld ?r5
  case h5 =>
    rintro W ⟨s1, s2, s3, s4⟩
    go_simp
    all_goals with_reducible rfl
  try simp only [Act.put, List.setIfInBounds_toArray, List.set_cons_zero, List.set_cons_succ]
  refine wpAnyH_take (i := 6) (v := ?v6) rfl (by kernel_rfl) (by kernel_rfl) (by kernel_rfl) (fun _ _ _ h => h) (Or.inl ⟨by rfl, ?h6⟩) hHeld ?r6
  case h6 =>
    rintro W ⟨s1, s2, s3, s4⟩
    go_simp
    all_goals with_reducible rfl
  try simp only [Act.put, List.setIfInBounds_toArray, List.set_cons_zero, List.set_cons_succ]
  refine wpAnyH_take (i := 7) (v := ?v7) rfl (by kernel_rfl) (by kernel_rfl) (by kernel_rfl) (fun _ _ _ h => h) (Or.inl ⟨by rfl, ?h7⟩) hHeld ?r7
  case h7 =>
    rintro W ⟨s1, s2, s3, s4⟩
    go_simp
    all_goals with_reducible rfl
  try simp only [Act.put, List.setIfInBounds_toArray, List.set_cons_zero, List.set_cons_succ]
  refine wpAnyH_take (i := 8) (v := .agg (octs bs).toArray) rfl (by kernel_rfl) (by kernel_rfl) (by kernel_rfl) (fun _ _ _ h => h) (Or.inl ⟨by rfl, ?h8⟩) hHeld ?r8
  case h8 =>
    rintro W ⟨s1, s2, s3, s4⟩
    have h9 := run_loadAt_mid (P := Tryd.prog) W g off 98 (octs bs) _ s4 hu98 rfl hlen
    refine exec_load_row _ _ _ _ _ _ _ _ W (.pointer (some ⟨g, off, none⟩)) _ ?_ h9
    go_simp
  try simp only [Act.put, List.setIfInBounds_toArray, List.set_cons_zero, List.set_cons_succ]
  refine wpAnyH_take (i := 9) (v := .agg (.int .i64 (at' : Nat) :: octs bs).toArray) rfl (by kernel_rfl) (by kernel_rfl) (by kernel_rfl) (fun _ _ _ h => h) (Or.inl ⟨by rfl, ?h9⟩) hHeld ?r9
  case h9 =>
    rintro W ⟨s1, s2, s3, s4⟩
    refine exec_build_at _ _ _ _ _ _ _ _ W (at' : Int) (octs bs) ?_ ?_ hCs3
    · go_simp
    · go_simp
  try simp only [Act.put, List.setIfInBounds_toArray, List.set_cons_zero, List.set_cons_succ]
  have hsv : (Value.agg (Value.int .i64 (at' : Nat) :: octs bs).toArray).cells.size = 257 := by simp [Value.cells, hCs3]
  have hcA : (w2.drew.alloc (.cells (Value.int .i64 (at' : Nat) :: octs bs).toArray 100)).cell? ⟨db, 1, none⟩ = some (.slice co k cc) := (Olds.alloc w2.drew _).cell hc1d
  have hcA2 : ((w2.alloc (.cells (Value.int .i64 (at' : Nat) :: octs bs).toArray 100)).drew).cell? ⟨db, 1, none⟩ = some (.slice co k cc) := hcA
  have hHA := HS.out _ ((Olds.drewN w2 1).trans (Olds.alloc w2.drew (.cells (Value.int .i64 (at' : Nat) :: octs bs).toArray 100)))
  have HrA : Hid ((w2.drew.alloc (.cells (Value.int .i64 (at' : Nat) :: octs bs).toArray 100)).ownsRow B 100 257 (.slice co k cc) k ys) := Lib.hid (ownsRow_olds Hrow2.out ((Olds.drewN w2 1).trans (Olds.alloc w2.drew _)))
  refine wpAnyH_ready (rs := [4, 10]) (by kernel_rfl) (by simp) (AllReadyH.cons rfl (fun K hK => ?_) (AllReadyH.cons rfl (fun K hK => ?_) AllReadyH.nil))
  · go_simp
    refine hK.out _ _ hHeld (fun hHeld2 => ?_)
    clear hK K
    try simp only [Act.put, List.setIfInBounds_toArray, List.set_cons_zero, List.set_cons_succ]
    refine wpAnyH_ready (rs := [10]) (by kernel_rfl) (by simp) (AllReadyH.cons rfl (fun K hK => ?_) AllReadyH.nil)
    refine step_wp rfl (wp_slice_write _ rfl (Value.agg (Value.int .i64 (at' : Nat) :: octs bs).toArray) (by go_simp) hsv ?_)
    refine hK.out _ _ hHA (fun hHeld2 => ?_)
    clear hK K
    try simp only [Act.put, List.setIfInBounds_toArray, List.set_cons_zero, List.set_cons_succ]
    refine wpAnyH_ready (rs := [11]) (by kernel_rfl) (by simp) (AllReadyH.cons rfl (fun K hK => ?_) AllReadyH.nil)
    refine step_append_lies _ (by rfl) _ _ _ (by rfl) B 100 i7 _ 257 264 Tryd.underlying51 hi7 hz7 hy7 hx7 hzc (by decide) (.slice co k cc) k ys (by go_simp) HrA.out ⟨w2.heap.size, 0, none⟩ 1 1 (Value.int .i64 (at' : Nat) :: octs bs) (by go_simp) (by simp [hCs3]) (World.news_of_block (cs := (Value.int .i64 (at' : Nat) :: octs bs).toArray) (t := 100) (fr := (0, 0)) (heap_alloc_new w2.drew _)) HC1.out Nat.one_pos (by unfold maxLen; omega) (by omega) (by simp; omega) (w2.heap.size + 1) (by simp) ?_
    intro gg cap2 w5 hown5 hgrow5 hat5 hlt5
    have Hown5 := Lib.hid hown5
    have Hgrow5 := Lib.hid hgrow5
    obtain ⟨k1, k2, k3, k4, k5⟩ := HK5.out _ w5 ((Olds.drewN w2 1).trans (Olds.alloc w2.drew _)) hgrow5
    have h55 : w5.heap[db]? = _ := k5.trans H32.out
    have hc5 : w5.cell? ⟨db, 1, none⟩ = some (.slice co k cc) := by rw [cell_of_heap h55]; rfl
    have hf5 : w5.frozen? ⟨db, 1, none⟩ = false := by simp [World.frozen?, h55]
    clear hown5 hgrow5
    refine hK.out _ _ ⟨k1, k2, k3, k4⟩ (fun hHeld3 => ?_)
    clear hK K
    try simp only [Act.put, List.setIfInBounds_toArray, List.set_cons_zero, List.set_cons_succ]
    refine wpAnyH_take (i := 12) (v := ?v12) rfl (by kernel_rfl) (by kernel_rfl) (by kernel_rfl) (fun _ _ _ h => h) (Or.inl ⟨by rfl, ?h12⟩) ⟨k1, k2, k3, k4⟩ ?r12
    case h12 =>
      rintro W ⟨s1, s2, s3, s4⟩
      go_simp
      all_goals with_reducible rfl
    try simp only [Act.put, List.setIfInBounds_toArray, List.set_cons_zero, List.set_cons_succ]
    refine wpAnyH_take (i := 13) (v := ?v13) rfl (by kernel_rfl) (by kernel_rfl) (by kernel_rfl) (fun _ _ _ h => h) (Or.inl ⟨by rfl, ?h13⟩) ⟨k1, k2, k3, k4⟩ ?r13
    case h13 =>
      rintro W ⟨s1, s2, s3, s4⟩
      go_simp
      all_goals with_reducible rfl
    try simp only [Act.put, List.setIfInBounds_toArray, List.set_cons_zero, List.set_cons_succ]
    refine wpAnyH_ready (rs := [14]) (by kernel_rfl) (by simp) (AllReadyH.cons rfl (fun K hK => ?_) AllReadyH.nil)
    go_simp
    refine hK.out _ _ ⟨?_, ?_, ?_, ?_⟩ (fun hHeld3 => ?_)
    · rw [World.cell?_of_block (w := w5) (Below.heap_setCell _ _ _ _ HN.out.2.1)]; exact k1
    · rw [World.cell?_of_block (w := w5) (Below.heap_setCell _ _ _ _ HN.out.1)]; exact k2
    · rw [World.cell?_of_block (w := w5) (Below.heap_setCell _ _ _ _ HN.out.2.2.1)]; exact k3
    · intro j v hv
      rw [World.cell?_of_block (w := w5) (Below.heap_setCell _ _ _ _ HN.out.2.2.2)]
      exact k4 j v hv
    clear hK K
    refine wpAnyH_done (by kernel_rfl) ?_ _
    try simp only [Act.put, List.setIfInBounds_toArray, List.set_cons_zero, List.set_cons_succ]
    go_wp2_with fail
    go_ret
    refine ⟨rfl, di_wrote H.out.bdb H.out.bsm H3.out H4.out H5.out h6 H7.out H8.out Hg2.out Hs2.out ((Olds.drewN w2 1).trans (Olds.alloc w2.drew _)) Hgrow5.out Hown5.out hat, ?_⟩
    exact ((((Hf2.out.drew).alloc (by show B ≤ w2.heap.size; omega) _).row (by show B ≤ (w2.drew.alloc _).heap.size; simp; omega) HrA.out (by simp) Hgrow5.out).cell (p := ⟨db, 1, none⟩) (k5.trans H32.out) H.out.bdb (.inr (by simp)) _)
  · refine step_wp rfl (wp_slice_write _ rfl (Value.agg (Value.int .i64 (at' : Nat) :: octs bs).toArray) (by go_simp) hsv ?_)
    refine hK.out _ _ hHA (fun hHeld2 => ?_)
    clear hK K
    try simp only [Act.put, List.setIfInBounds_toArray, List.set_cons_zero, List.set_cons_succ]
    refine wpAnyH_ready (rs := [4]) (by kernel_rfl) (by simp) (AllReadyH.cons rfl (fun K hK => ?_) AllReadyH.nil)
    go_simp
    refine hK.out _ _ (by exact hHA) (fun hHeld2 => ?_)
    clear hK K
    try simp only [Act.put, List.setIfInBounds_toArray, List.set_cons_zero, List.set_cons_succ]
    refine wpAnyH_ready (rs := [11]) (by kernel_rfl) (by simp) (AllReadyH.cons rfl (fun K hK => ?_) AllReadyH.nil)
    refine step_append_lies _ (by rfl) _ _ _ (by rfl) B 100 i7 _ 257 264 Tryd.underlying51 hi7 hz7 hy7 hx7 hzc (by decide) (.slice co k cc) k ys (by go_simp) HrA.out ⟨w2.heap.size, 0, none⟩ 1 1 (Value.int .i64 (at' : Nat) :: octs bs) (by go_simp) (by simp [hCs3]) (World.news_of_block (cs := (Value.int .i64 (at' : Nat) :: octs bs).toArray) (t := 100) (fr := (0, 0)) (heap_alloc_new w2.drew _)) HC1.out Nat.one_pos (by unfold maxLen; omega) (by omega) (by simp; omega) (w2.heap.size + 1) (by simp) ?_
    intro gg cap2 w5 hown5 hgrow5 hat5 hlt5
    have Hown5 := Lib.hid hown5
    have Hgrow5 := Lib.hid hgrow5
    obtain ⟨k1, k2, k3, k4, k5⟩ := HK5.out _ w5 ((Olds.drewN w2 1).trans (Olds.alloc w2.drew _)) hgrow5
    have h55 : w5.heap[db]? = _ := k5.trans H32.out
    have hc5 : w5.cell? ⟨db, 1, none⟩ = some (.slice co k cc) := by rw [cell_of_heap h55]; rfl
    have hf5 : w5.frozen? ⟨db, 1, none⟩ = false := by simp [World.frozen?, h55]
    clear hown5 hgrow5
    refine hK.out _ _ ⟨k1, k2, k3, k4⟩ (fun hHeld3 => ?_)
    clear hK K
    try simp only [Act.put, List.setIfInBounds_toArray, List.set_cons_zero, List.set_cons_succ]
    refine wpAnyH_take (i := 12) (v := ?v12b) rfl (by kernel_rfl) (by kernel_rfl) (by kernel_rfl) (fun _ _ _ h => h) (Or.inl ⟨by rfl, ?h12b⟩) ⟨k1, k2, k3, k4⟩ ?r12b
    case h12b =>
      rintro W ⟨s1, s2, s3, s4⟩
      go_simp
      all_goals with_reducible rfl
    try simp only [Act.put, List.setIfInBounds_toArray, List.set_cons_zero, List.set_cons_succ]
    refine wpAnyH_take (i := 13) (v := ?v13b) rfl (by kernel_rfl) (by kernel_rfl) (by kernel_rfl) (fun _ _ _ h => h) (Or.inl ⟨by rfl, ?h13b⟩) ⟨k1, k2, k3, k4⟩ ?r13b
    case h13b =>
      rintro W ⟨s1, s2, s3, s4⟩
      go_simp
      all_goals with_reducible rfl
    try simp only [Act.put, List.setIfInBounds_toArray, List.set_cons_zero, List.set_cons_succ]
    refine wpAnyH_ready (rs := [14]) (by kernel_rfl) (by simp) (AllReadyH.cons rfl (fun K hK => ?_) AllReadyH.nil)
    go_simp
    refine hK.out _ _ ⟨?_, ?_, ?_, ?_⟩ (fun hHeld3 => ?_)
    · rw [World.cell?_of_block (w := w5) (Below.heap_setCell _ _ _ _ HN.out.2.1)]; exact k1
    · rw [World.cell?_of_block (w := w5) (Below.heap_setCell _ _ _ _ HN.out.1)]; exact k2
    · rw [World.cell?_of_block (w := w5) (Below.heap_setCell _ _ _ _ HN.out.2.2.1)]; exact k3
    · intro j v hv
      rw [World.cell?_of_block (w := w5) (Below.heap_setCell _ _ _ _ HN.out.2.2.2)]
      exact k4 j v hv
    clear hK K
    refine wpAnyH_done (by kernel_rfl) ?_ _
    try simp only [Act.put, List.setIfInBounds_toArray, List.set_cons_zero, List.set_cons_succ]
    go_wp2_with fail
    go_ret
    refine ⟨rfl, di_wrote H.out.bdb H.out.bsm H3.out H4.out H5.out h6 H7.out H8.out Hg2.out Hs2.out ((Olds.drewN w2 1).trans (Olds.alloc w2.drew _)) Hgrow5.out Hown5.out hat, ?_⟩
    exact ((((Hf2.out.drew).alloc (by show B ≤ w2.heap.size; omega) _).row (by show B ≤ (w2.drew.alloc _).heap.size; simp; omega) HrA.out (by simp) Hgrow5.out).cell (p := ⟨db, 1, none⟩) (k5.trans H32.out) H.out.bdb (.inr (by simp)) _)
end Go.Proofs.YtndjmffnlcilbaaDoor
namespace Go.Proofs.YtndjmffnlcilbaaDoor
open Go Go.RowKit Go.Ix Go.Ext Go.Maps
theorem DI.count {w : World} {B db sm n t i : Nat} (h : DI w B db sm n t) (hi : i = 5 ∨ i = 6 ∨ i = 7) (q : Int) : DI (w.setCell ⟨db, i, none⟩ (.int .i64 q)) B db sm n t := by
  obtain ⟨h1, h2, ⟨lv, cv, q1, q2, q3, h3, ⟨xs, h4⟩, k, ys, h5, h6, h7⟩, h8⟩ := h
  obtain ⟨es, cm, hkm⟩ := h8.kind
  have ho : ∀ b, b ≠ db → (w.setCell ⟨db, i, none⟩ (.int .i64 q)).heap[b]? = w.heap[b]? := fun b hb => Below.heap_setCell _ _ _ _ hb
  have r4 := ownsRow_blocks (W := w.setCell ⟨db, i, none⟩ (.int .i64 q)) h4 fun g hg => ho g fun e => by obtain ⟨cur, hc⟩ := own_kind h4 hg; rw [e, h3] at hc; simp at hc
  have r5 := ownsRow_blocks (W := w.setCell ⟨db, i, none⟩ (.int .i64 q)) h5 fun g hg => ho g fun e => by obtain ⟨cur, hc⟩ := own_kind h5 hg; rw [e, h3] at hc; simp at hc
  have r8 := h8.block (W := w.setCell ⟨db, i, none⟩ (.int .i64 q)) (ho sm fun e => by rw [e, h3] at hkm; cases hkm)
  rcases hi with rfl | rfl | rfl
  · exact ⟨h1, h2, ⟨lv, cv, q, q2, q3, by simp [World.setCell, Array.getElem?_modify, h3], ⟨xs, r4⟩, k, ys, r5, h6, h7⟩, r8⟩
  · exact ⟨h1, h2, ⟨lv, cv, q1, q, q3, by simp [World.setCell, Array.getElem?_modify, h3], ⟨xs, r4⟩, k, ys, r5, h6, h7⟩, r8⟩
  · exact ⟨h1, h2, ⟨lv, cv, q1, q2, q, by simp [World.setCell, Array.getElem?_modify, h3], ⟨xs, r4⟩, k, ys, r5, h6, h7⟩, r8⟩
set_option maxRecDepth 20000 in
set_option maxHeartbeats 1000000 in
theorem op_write {w : World} {B db sm n t a b c : Nat} {S : World → Prop} (h : DI w B db sm n t) (hdo : ∀ q : Int, Calls Tryd.prog 47 #[.pointer (some ⟨a, 0, none⟩), .pointer (some ⟨b, 0, none⟩), .pointer (some ⟨c, 0, none⟩)] (w.setCell ⟨db, 6, none⟩ (.int .i64 q)) fun e w' => e = .returned (.int .u16 0) ∧ S w') :
    Calls Tryd.prog 43 #[.pointer (some ⟨db, 0, none⟩), .pointer (some ⟨db, 6, none⟩), .func (.func 47) #[] #[.pointer (some ⟨a, 0, none⟩), .pointer (some ⟨b, 0, none⟩), .pointer (some ⟨c, 0, none⟩)]] w fun e w' => e = .returned (.int .u16 0) ∧ S w' := by
  obtain ⟨_, _, ⟨lv, cv, q1, q2, q3, h3, _⟩, _⟩ := h
  have c3 : w.cell? ⟨db, 3, none⟩ = some (.bool false) := by rw [cell_of_heap h3]; rfl
  have c4 : w.cell? ⟨db, 4, none⟩ = some (.int .i64 (-1)) := by rw [cell_of_heap h3]; rfl
  obtain ⟨q0, c5⟩ : ∃ q0, w.cell? ⟨db, 6, none⟩ = some (.int .i64 q0) := ⟨_, by rw [cell_of_heap h3]; rfl⟩
  have f5 : w.frozen? ⟨db, 6, none⟩ = false := by simp [World.frozen?, h3]
  have Hdo := Lib.hid hdo
  clear hdo h3
  go_enter Tryd.func43, Tryd.ntmps43
  go_wp2_with (go_at_call 47; refine (Hdo.out _).mono ?_; rintro e w' ⟨rfl, hS⟩; have HS := Lib.hid hS; clear hS)
  go_ret
  exact ⟨rfl, HS.out⟩
set_option maxRecDepth 20000 in
set_option maxHeartbeats 1000000 in
theorem op_flush {w : World} {B db sm n t a b c : Nat} {S : World → Prop} (h : DI w B db sm n t) (hdo : ∀ q : Int, Calls Tryd.prog 44 #[.pointer (some ⟨a, 0, none⟩)] (w.setCell ⟨db, 7, none⟩ (.int .i64 q)) fun e w' => e = .returned (.int .u16 0) ∧ S w') :
    Calls Tryd.prog 43 #[.pointer (some ⟨db, 0, none⟩), .pointer (some ⟨db, 7, none⟩), .func (.func 44) #[] #[.pointer (some ⟨a, 0, none⟩)]] w fun e w' => e = .returned (.int .u16 0) ∧ S w' := by
  obtain ⟨_, _, ⟨lv, cv, q1, q2, q3, h3, _⟩, _⟩ := h
  have c3 : w.cell? ⟨db, 3, none⟩ = some (.bool false) := by rw [cell_of_heap h3]; rfl
  have c4 : w.cell? ⟨db, 4, none⟩ = some (.int .i64 (-1)) := by rw [cell_of_heap h3]; rfl
  obtain ⟨q0, c5⟩ : ∃ q0, w.cell? ⟨db, 7, none⟩ = some (.int .i64 q0) := ⟨_, by rw [cell_of_heap h3]; rfl⟩
  have f5 : w.frozen? ⟨db, 7, none⟩ = false := by simp [World.frozen?, h3]
  have Hdo := Lib.hid hdo
  clear hdo h3
  go_enter Tryd.func43, Tryd.ntmps43
  go_wp2_with (go_at_call 44; refine (Hdo.out _).mono ?_; rintro e w' ⟨rfl, hS⟩; have HS := Lib.hid hS; clear hS)
  go_ret
  exact ⟨rfl, HS.out⟩
set_option maxRecDepth 20000 in
set_option maxHeartbeats 1000000 in
theorem dwrite_any {w : World} {B B' db sm n t : Nat} {bv : Value} (at' : Nat) (h : DI w B db sm n t) (hat : at' < n) (hn : n ≤ 1000000) (ht : t ≤ 1000000) (hB : B ≤ w.heap.size) (hbs : ByteRow w B' bv 256) :
    Calls Tryd.prog 22 #[.pointer (some ⟨db, 0, none⟩), .int .i64 at', bv] w fun e w' => e = .returned (.int .u16 0) ∧ DI w' B db sm n (t + 1) ∧ Fr B TD [sm] w w' := by
  obtain ⟨bo, bc, rfl⟩ := hbs.shape
  obtain ⟨X, hX⟩ : ∃ X : World, X = (((w.alloc (.cells #[.pointer (some ⟨db, 0, none⟩)] 25)).alloc (.cells #[.int .i64 at'] 3)).alloc (.cells #[.slice bo 256 bc] 33)) := ⟨_, rfl⟩
  have HoX : Hid (Olds w X) := Lib.hid (by rw [hX]; exact ((Olds.alloc _ _).trans (Olds.alloc _ _)).trans (Olds.alloc _ _))
  have HfX : Hid (Fr B TD [sm] w X) := Lib.hid (by rw [hX]; exact (((Fr.refl _ _ _ _).alloc hB _).alloc (by simp; omega) _).alloc (by simp; omega) _)
  have hXs : X.heap.size = w.heap.size + 1 + 1 + 1 := by rw [hX]; simp
  have g1 : X.heap[w.heap.size]? = some (.cells #[.pointer (some ⟨db, 0, none⟩)] 25 (0, 0)) := by
    rw [hX, Below.heap_alloc _ _ _ (by simp; omega), Below.heap_alloc _ _ _ (by simp)]
    exact heap_alloc_new _ _
  have g2 : X.heap[w.heap.size + 1]? = some (.cells #[.int .i64 at'] 3 (0, 0)) := by
    rw [hX, Below.heap_alloc _ _ _ (by simp)]
    have := heap_alloc_new (w.alloc (.cells #[.pointer (some ⟨db, 0, none⟩)] 25)) (.cells #[.int .i64 (at' : Nat)] 3)
    simpa using this
  have g3 : X.heap[w.heap.size + 1 + 1]? = some (.cells #[.slice bo 256 bc] 33 (0, 0)) := by
    rw [hX]
    have := heap_alloc_new ((w.alloc (.cells #[.pointer (some ⟨db, 0, none⟩)] 25)).alloc (.cells #[.int .i64 (at' : Nat)] 3)) (.cells #[.slice bo 256 bc] 33)
    simpa using this
  have HD : Hid (DI X.drew B db sm n t) := Lib.hid ((h.olds HoX.out).olds (Olds.drewN X 1))
  have hdlt := h.lt
  have HW := Lib.hid (op_write (S := fun w' => DI w' B db sm n (t + 1) ∧ Fr B TD [sm] w w') (a := w.heap.size + 1) (b := w.heap.size) (c := w.heap.size + 1 + 1) HD.out fun q => by
    obtain ⟨lv, cv, q1, q2, q3, h3, _⟩ := HD.out.cell
    have hset : ∀ b, b ≠ db → (X.drew.setCell ⟨db, 6, none⟩ (.int .i64 q)).heap[b]? = X.heap[b]? := fun b hb => Below.heap_setCell _ _ _ _ hb
    refine (dwrite1_any at' (HD.out.count (.inr (.inl rfl)) q) hat hn ht (by simp [World.setCell]; show B ≤ X.heap.size; omega) ((hset _ (by omega)).trans g2) ((hset _ (by omega)).trans g1) ((hset _ (by omega)).trans g3) ⟨B', ?_⟩).mono fun e w' ⟨a, b, c⟩ => ⟨a, b, (HfX.out.drew.cell (p := ⟨db, 6, none⟩) h3 h.bdb (.inr (by simp)) _).trans c⟩
    obtain ⟨bs, hb1, hb2, hb3⟩ := (hbs.olds HoX.out)
    refine ⟨bs, ownsRow_blocks hb1 fun g hg => hset g fun e => ?_, hb2, hb3⟩
    obtain ⟨cur, hc⟩ := own_kind hb1 hg
    have h3' : X.heap[db]? = _ := h3
    rw [e, h3'] at hc
    simp at hc)
  have hz1 : X.drew.cell? ⟨w.heap.size, 0, none⟩ = some (.pointer (some ⟨db, 0, none⟩)) := by
    have h9 : X.drew.heap[w.heap.size]? = _ := g1
    rw [cell_of_heap h9]; rfl
  have HXe := Lib.hid hX
  clear g1 g2 g3 hX h hbs
  go_enter Tryd.func22, Tryd.ntmps22
  go_upto_region 1 with fail
  rw [← HXe.out]
  go_region_with (go_at_call 43; refine HW.out.mono ?_; clear HW; rintro e w' ⟨rfl, h1, h2⟩; have H1 := Lib.hid h1; have H2 := Lib.hid h2; clear h1 h2)
  all_goals go_wp2_with fail
  all_goals go_ret
  all_goals exact ⟨rfl, H1.out, H2.out⟩
end Go.Proofs.YtndjmffnlcilbaaDoor
namespace Go.Proofs.YtndjmffnlcilbaaDoor
open Go Go.RowKit Go.Ix Go.Ext Go.Maps
theorem SeenAt.clear {w : World} {sm t : Nat} (h : SeenAt w sm t) : ∃ w', (∀ ty, (Builtin.clear_ #[50] ty #[.map (some sm)]).run Tryd.prog w = .ok (.tuple #[]) w') ∧ SeenAt w' sm 0 ∧ w.grownBy w' (some sm) := by
  obtain ⟨es, clock, hb⟩ := h.kind
  have hlt := h.lt
  refine ⟨{ w with heap := w.heap.setIfInBounds sm (.map #[] clock) }, fun ty => ?_, ⟨0, .map [], ⟨#[], clock, by simp [hlt], ⟨by simp, MapKept.stamped_empty clock, by simp⟩, Nat.le_refl _, rfl⟩, Nat.le_refl _⟩, ⟨rfl, rfl, rfl, by simp, fun k hk hne => ?_⟩⟩
  · simp [Builtin.clear_, run_underlying Tryd.underlying50, MapKept.run_getObj_map hb, MapKept.run_setObj_map _ hb, Result.andThen]
  · have : sm ≠ k := fun e => hne (by rw [e])
    simp [this]
theorem wpList_clear_run {ops : Array Oper} {rest : List Oper} {o : Oper} {a : Act} {Q : Exit → Act → World → Prop} {W w' : World} (hgd : o.guard = none) (x : Operand)
    (ho : o.op = .call { callee := .builtin .clear, args := #[x], argTypes := #[50] }) (v : Value) (hx : a.eval x = v) (hr : ∀ ty, (Builtin.clear_ #[50] ty #[v]).run Tryd.prog W = .ok (.tuple #[]) w')
    (h : wpList Tryd.prog ops Q rest (a.put o.dst (.tuple #[])) w') : wpList Tryd.prog ops Q (o :: rest) a W :=
  wpList_plain hgd fun K hK => by
    unfold Oper.wp execOp
    simp only [ho, resolve, invoke, builtin, Sem.run_bind, Sem.run_pure, Result.andThen_ok, List.map_toArray, List.map_cons, List.map_nil, hx, hr o.type]
    exact hK _ _ h
theorem flush11_any (i : Int) (w : World) : Calls Tryd.prog 46 #[.int .i64 i] w fun e w' => e = .returned (.bool true) ∧ w' = w := by
  go_enter Tryd.func46, Tryd.ntmps46
  go_wp2_with fail
  go_ret
  exact ⟨rfl, rfl⟩
theorem heap_setCells (b : Nat) : ∀ (vs : List Value) (o : Nat) (w : World) (k : Nat), k ≠ b → (w.setCells b o vs).heap[k]? = w.heap[k]?
  | [], _, _, _, _ => rfl
  | v :: r, o, w, k, h => by
    rw [World.setCells, heap_setCells b r (o + 1) _ k h]
    exact Below.heap_setCell _ _ _ _ h
theorem below_setCells {B b : Nat} (hb : B ≤ b) : ∀ (vs : List Value) (o : Nat) (w : World), Below B w (w.setCells b o vs)
  | [], _, w => Below.refl _ _
  | v :: r, o, w => (((Below.refl B w).setCell (p := ⟨b, o, none⟩) hb v)).trans (below_setCells hb r (o + 1) _)
theorem row_setCells {B e k g n c : Nat} : ∀ (vs : List Value) (o : Nat) (w : World) (xs : List Value), w.ownsRow B e k (.slice (some ⟨g, 0, none⟩) n c) n xs → ∃ ys, (w.setCells g o vs).ownsRow B e k (.slice (some ⟨g, 0, none⟩) n c) n ys
  | [], _, _, xs, h => ⟨xs, h⟩
  | v :: r, o, _, _, h => row_setCells r (o + 1) _ _ (h.stored o v).1
structure Setl (w : World) (B db sm n t lc k cc : Nat) (lo co : Option Addr) (ys : List Value) (wr : World) : Prop where
  cell : wr.heap[db]? = w.heap[db]?
  las : ∃ xs, wr.ownsRow B 98 256 (.slice lo n lc) n xs
  cac : wr.ownsRow B 100 257 (.slice co k cc) k ys
  seen : wr.heap[sm]? = w.heap[sm]?
  fr : Fr B TD [sm] w wr
set_option maxRecDepth 20000 in
set_option maxHeartbeats 4000000 in
theorem settle_any {w : World} {B db sm n t : Nat} (h : DI w B db sm n t) (hn : n ≤ 1000000) (ht : t ≤ 1000000) (hB : B ≤ w.heap.size) :
    Calls Tryd.prog 45 #[.pointer (some ⟨db, 0, none⟩), .func (.func 46) #[] #[]] w fun e w' => e = .returned (.tuple #[]) ∧ DI w' B db sm n t ∧ Fr B TD [sm] w w' := by
  have H := Lib.hid h
  obtain ⟨_, _, ⟨lv, cv, q1, q2, q3, h3, ⟨xs, h4⟩, k, ys, h5, h6, h7⟩, h8⟩ := h
  obtain ⟨lo, lc, rfl, _⟩ := ownsRow_shape h4
  obtain ⟨co, cc, rfl, _⟩ := ownsRow_shape h5
  have c0 : w.cell? ⟨db, 0, none⟩ = some (.slice lo n lc) := by rw [cell_of_heap h3]; rfl
  have c1 : w.cell? ⟨db, 1, none⟩ = some (.slice co k cc) := by rw [cell_of_heap h3]; rfl
  have H3 := Lib.hid h3
  have H4 := Lib.hid h4
  have H5 := Lib.hid h5
  have H7 := Lib.hid h7
  have H8 := Lib.hid h8
  clear h3 h4 h5 h7 h8
  go_enter Tryd.func45, Tryd.ntmps45
  go_wp2_with fail
  go_loopw [4, 5, 11] (fun _ _ iv wr => ∃ j : Nat, j ≤ k ∧ iv = .int .i64 j ∧ Setl w B db sm n t lc k cc lo co ys wr) (fun _ _ iv _ => k - (intOf iv).toNat)
  case atStart => exact ⟨0, Nat.zero_le _, rfl, rfl, ⟨xs, H4.out⟩, H5.out, rfl, Fr.refl _ _ _ _⟩
  case round =>
    obtain ⟨j, hj, rfl, hs⟩ := hrel
    have Hs := Lib.hid hs
    have hsz := hs.fr.size
    clear hs
    by_cases hlt : j < k
    · obtain ⟨cb, rfl⟩ : ∃ cb, co = some ⟨cb, 0, none⟩ := by
        rcases H5.out.2 with ⟨_, h0⟩ | ⟨g, cap, cur, e, _⟩
        · omega
        · simp only [Value.slice.injEq] at e
          exact ⟨g, e.1⟩
      obtain ⟨el, hel⟩ : ∃ el, el = (ys.drop (j * 257)).take 257 := ⟨_, rfl⟩
      have hyl : ys.length = k * 257 := H5.out.1
      have hell : el.length = 257 := by
        rw [hel, List.length_take, List.length_drop, hyl]
        have : (j + 1) * 257 ≤ k * 257 := Nat.mul_le_mul_right _ hlt
        omega
      have hrc : wr.rangeAt cb (j * 257) el := fun i v hv => by
        have h9 := ownsRow_cell Hs.out.cac (j * 257 + i) v (by
          rw [hel] at hv
          have hi : i < 257 := by have := (List.getElem?_eq_some_iff.1 hv).1; rw [← hel, hell] at this; exact this
          rw [List.getElem?_take_of_lt hi, List.getElem?_drop] at hv
          exact hv)
        simpa using h9
      obtain ⟨a, hal, hae⟩ := H7.out.1 j hlt
      obtain ⟨rest, hrest, hrl⟩ : ∃ rest, el = .int .i64 (a : Nat) :: rest ∧ rest.length = 256 := by
        cases hcase : el with
        | nil => rw [hcase] at hell; cases hell
        | cons x r =>
          have h0 : el[0]? = some (.int .i64 (a : Nat)) := by
            rw [hel, List.getElem?_take_of_lt (by decide), List.getElem?_drop]
            exact hae
          rw [hcase] at h0
          have : x = .int .i64 (a : Nat) := by simpa using h0
          subst this
          exact ⟨r, rfl, by rw [hcase] at hell; simpa using hell⟩
      have hone : ∀ v ∈ rest, v.oneCell' = true := fun v hv => H7.out.2 v (by
        have : v ∈ el := by rw [hrest]; exact List.mem_cons_of_mem _ hv
        rw [hel] at this
        exact List.mem_of_mem_drop (List.mem_of_mem_take this))
      have Hrc := Lib.hid (hrest ▸ hrc)
      have Hone := Lib.hid hone
      have hiw : (Tryd.prog.info? 100).map (·.size) = some (Value.int .i64 (a : Nat) :: rest).length := by
        obtain ⟨i0, hi0, _, hz1, _⟩ := info_parts Tryd.info100
        rw [hi0]
        simp [hz1, hrl]
      obtain ⟨Z, hzw, hZs⟩ : ∃ Z : Array Value, (zeroValue 100).run Tryd.prog wr = .ok (.agg Z) wr ∧ Z.size = 257 := by
        obtain ⟨i0, hi0, hz0, _⟩ := info_parts Tryd.info100
        exact ⟨#[.int .i64 0] ++ sec0, by simp [zeroValue, typeInfo, hi0, hz0], by simp [sec0_size]⟩
      have hiw2 : (Tryd.prog.info? 100).map (·.size) = some (Value.int .i64 (a : Nat) :: rest).toArray.size := by simpa using hiw
      have hZz : Z.size = (Value.int .i64 (a : Nat) :: rest).toArray.size := by simp [hZs, hrl]
      have hZw : (wr.alloc (.cells Z 100)).heap[wr.heap.size]? = some (.cells Z 100 (0, 0)) := heap_alloc_new wr _
      have hall : (Value.int .i64 (a : Nat) :: rest).toArray.all (·.oneCell') = true := by
        simp only [List.all_toArray, List.all_cons, Bool.and_eq_true, List.all_eq_true]
        exact ⟨rfl, hone⟩
      clear hrc hone hel hell hyl hrest
      have c0r : wr.cell? ⟨db, 0, none⟩ = some (.slice lo n lc) := by rw [World.cell?_of_block (w := w) Hs.out.cell]; exact c0
      go_upto_region 3 with (first
        | (refine wpList_load_mid rfl 100 _ rfl cb (j * 257) rfl (Value.int .i64 (a : Nat) :: rest) _ Hrc.out Tryd.underlying100 rfl hiw ?_)
        | (refine wpList_wp rfl (fun K hK => wp_alloc_row 100 rfl _ hzw (hK _ _ ?_)))
        | (refine wpList_wp rfl (fun K hK => wp_store_row 100 _ _ rfl wr.heap.size (Value.int .i64 (a : Nat) :: rest).toArray (by go_simp) (by go_simp) 100 Z hZw hiw2 hZz hall (hK _ _ ?_))))
      obtain ⟨Y, hY⟩ : ∃ Y : World, Y = (wr.alloc (.cells Z 100)).setRow wr.heap.size (Value.int .i64 (a : Nat) :: rest).toArray := ⟨_, rfl⟩
      rw [← hY]
      have hYb : Y.heap[wr.heap.size]? = some (.cells (Value.int .i64 (a : Nat) :: rest).toArray 100 (0, 0)) := by rw [hY]; exact setRow_heap _ _ _ _ _ _ hZw
      have hYo : ∀ b, b < wr.heap.size → Y.heap[b]? = wr.heap[b]? := fun b hb => by
        rw [hY, setRow_other _ _ _ _ (by omega)]
        exact Below.heap_alloc _ _ _ hb
      have hYs : Y.heap.size = wr.heap.size + 1 := by rw [hY]; simp
      have hYB : Below B wr Y := by
        rw [hY]
        exact ((Below.refl B wr).alloc (by omega) _).trans ⟨rfl, rfl, rfl, by simp, fun k hk => setRow_other _ _ _ _ (by omega)⟩
      obtain ⟨lb, rfl⟩ : ∃ lb, lo = some ⟨lb, 0, none⟩ := by
        rcases H4.out.2 with ⟨_, h0⟩ | ⟨g, cap, cur, e, _⟩
        · omega
        · simp only [Value.slice.injEq] at e
          exact ⟨g, e.1⟩
      obtain ⟨xs', hlas⟩ := Hs.out.las
      have hlas2 : Y.ownsRow B 98 256 (.slice (some ⟨lb, 0, none⟩) n lc) n xs' := ownsRow_blocks hlas fun g hg => hYo g (ownsRow_block hlas hg).2
      have hdbr : wr.heap[db]? = _ := Hs.out.cell.trans H3.out
      have hdY : Y.heap[db]? = _ := (hYo db (heap_lt hdbr)).trans hdbr
      have hnlb : lb ≠ db ∧ lb ≠ wr.heap.size := by
        obtain ⟨cur, hc⟩ := own_kind hlas2 (g := lb) rfl
        exact ⟨fun e => by rw [e, hdY] at hc; simp at hc, fun e => by rw [e, hYb] at hc; simp at hc⟩
      have hB2 : B ≤ lb := (ownsRow_block hlas2 (g := lb) rfl).1
      have hthere : Y.drew.there lb (a * 256) 256 := fun i hi => by
        have hlt2 : a * 256 + i < n * 256 := by
          have : (a + 1) * 256 ≤ n * 256 := Nat.mul_le_mul_right _ hal
          omega
        have h1 := hlas2.cellAt (a * 256 + i) hlt2
        refine ⟨?_, hlas2.frozenAt _⟩
        show (Y.cell? _).isSome = true
        rw [h1, List.getElem?_eq_getElem (by rw [hlas2.1]; exact hlt2)]
        rfl
      have hS0 : Y.drew.cell? ⟨db, 0, none⟩ = some (.slice (some ⟨lb, 0, none⟩) n lc) := by
        have h9 : Y.drew.heap[db]? = _ := hdY
        rw [cell_of_heap h9]; rfl
      have hS1 : Y.drew.cell? ⟨wr.heap.size, 0, none⟩ = some (.int .i64 (a : Nat)) := by
        have h9 : Y.drew.heap[wr.heap.size]? = _ := hYb
        rw [cell_of_heap h9]; rfl
      have hS2 : Y.drew.rangeAt wr.heap.size 1 rest := fun i v hv => by
        have h9 : Y.drew.heap[wr.heap.size]? = _ := hYb
        rw [cell_of_heap h9, Nat.add_comm]
        simpa using hv
      have hls : (Tryd.prog.info? 98).map (·.size) = some rest.length := by
        obtain ⟨i0, hi0, _, hz1, _⟩ := info_parts Tryd.info98
        rw [hi0]
        simp [hz1, hrl]
      have hu98 := Tryd.underlying98
      have hone := Hone.out
      have hSet : (Y.drew.setCells lb (a * 256) rest).cell? ⟨db, 0, none⟩ = some (.slice (some ⟨lb, 0, none⟩) n lc) ∧ (Y.drew.setCells lb (a * 256) rest).cell? ⟨wr.heap.size, 0, none⟩ = some (.int .i64 (a : Nat)) ∧ (Y.drew.setCells lb (a * 256) rest).rangeAt wr.heap.size 1 rest ∧ (Y.drew.setCells lb (a * 256) rest).there lb (a * 256) 256 := by
        refine ⟨?_, ?_, ?_, ?_⟩
        · rw [World.cell?_of_block (w := Y.drew) (heap_setCells lb rest (a * 256) Y.drew db hnlb.1.symm)]; exact hS0
        · rw [World.cell?_of_block (w := Y.drew) (heap_setCells lb rest (a * 256) Y.drew _ hnlb.2.symm)]; exact hS1
        · intro i v hv
          rw [World.cell?_of_block (w := Y.drew) (heap_setCells lb rest (a * 256) Y.drew _ hnlb.2.symm)]
          exact hS2 i v hv
        · intro i hi
          refine ⟨?_, (World.frozen?_setCells lb rest (a * 256) Y.drew _).trans (hthere i hi).2⟩
          rw [World.cell?_setCells_in lb rest (a * 256) Y.drew (fun j hj => (hthere j (by omega)).1) i (by omega)]
          rfl
      have HYB := Lib.hid hYB
      have HYo := Lib.hid hYo
      have HdY := Lib.hid hdY
      have Hlas2 := Lib.hid hlas2
      have HSetl : Hid (Setl w B db sm n t lc k cc (some ⟨lb, 0, none⟩) (some ⟨cb, 0, none⟩) ys (Y.drew.setCells lb (a * 256) rest)) := Lib.hid (by
        have hset : ∀ b, b < wr.heap.size → b ≠ lb → (Y.drew.setCells lb (a * 256) rest).heap[b]? = wr.heap[b]? := fun b hb hne => (heap_setCells lb rest (a * 256) Y.drew b hne).trans (hYo b hb)
        obtain ⟨es, cm, hkm⟩ := H8.out.kind
        have hsmr : wr.heap[sm]? = some (.map es cm) := Hs.out.seen.trans hkm
        obtain ⟨curl, hcl⟩ := own_kind hlas (g := lb) rfl
        refine ⟨(hset db (heap_lt hdbr) hnlb.1.symm).trans Hs.out.cell, row_setCells rest (a * 256) Y.drew xs' (ownsRow_olds hlas2 (Olds.drewN Y 1)), ownsRow_blocks Hs.out.cac fun g hg => ?_, (hset sm (heap_lt hsmr) (fun e => by rw [e, hcl] at hsmr; cases hsmr)).trans Hs.out.seen, ⟨(Hs.out.fr.below.trans hYB).drew.trans (below_setCells hB2 rest _ _), fun b o hb hm ht => ?_⟩⟩
        · obtain ⟨cur, hc⟩ := own_kind Hs.out.cac hg
          exact hset g (heap_lt hc) (fun e => by rw [e, hcl] at hc; simp at hc)
        · have h1 := Hs.out.fr.sp b o hb hm ht
          refine (hset b (heap_lt h1) fun e => ?_).trans h1
          rw [e, hcl] at h1
          exact ht _ _ _ (Option.some.inj h1).symm (by simp))
      clear hYb hYo hlas hlas2 hdbr hdY hZw hZz hall hiw hiw2 hzw Hrc hYB hY
      go_upto_region 4 with (go_at_call 46; refine (flush11_any _ _).mono ?_; rintro e w' ⟨rfl, rfl⟩)
      go_region_held_law (fun W' => W'.cell? ⟨db, 0, none⟩ = some (.slice (some ⟨lb, 0, none⟩) n lc) ∧ W'.cell? ⟨wr.heap.size, 0, none⟩ = some (.int .i64 (a : Nat)) ∧ W'.rangeAt wr.heap.size 1 rest ∧ W'.there lb (a * 256) 256)
        (first | exact ⟨hS0, hS1, hS2, hthere⟩ | exact hSet)
        (fail)
      all_goals go_wp2_with fail
      go_roundw
      case rel => exact ⟨j + 1, by omega, by go_num, HSetl.out⟩
      case measure => simp [intOf]; omega
    · have hdbr : wr.heap[db]? = _ := Hs.out.cell.trans H3.out
      have hcr : wr.cell? ⟨db, 1, none⟩ = some (.slice co k cc) := by rw [cell_of_heap hdbr]; rfl
      have hfr : wr.frozen? ⟨db, 1, none⟩ = false := by simp [World.frozen?, hdbr]
      obtain ⟨W1, hW1⟩ : ∃ W1, W1 = wr.setCell ⟨db, 1, none⟩ (.slice none 0 0) := ⟨_, rfl⟩
      have hW1b : W1.heap[db]? = some (.cells #[.slice lo n lc, .slice none 0 0, .map (some sm), .bool false, .int .i64 (-1), .int .i64 q1, .int .i64 q2, .int .i64 q3] 53 (0, 0)) := by
        rw [hW1]
        simp [World.setCell, Array.getElem?_modify, hdbr]
      have hW1o : ∀ b, b ≠ db → W1.heap[b]? = wr.heap[b]? := fun b hb => by rw [hW1]; exact Below.heap_setCell _ _ _ _ hb
      have hc2 : W1.cell? ⟨db, 2, none⟩ = some (.map (some sm)) := by rw [cell_of_heap hW1b]; rfl
      obtain ⟨es, cm, hkm⟩ := H8.out.kind
      have hne : sm ≠ db := fun e => by have h9 := H3.out; rw [← e, hkm] at h9; cases h9
      have hseen : SeenAt W1 sm t := H8.out.block ((hW1o sm hne).trans Hs.out.seen)
      obtain ⟨w2, hclr, hs2, hg2⟩ := hseen.clear
      obtain ⟨es1, cm1, hkm1⟩ := hseen.kind
      have hother : ∀ b, b < W1.heap.size → b ≠ sm → w2.heap[b]? = W1.heap[b]? := fun b hb hn => hg2.block b hb fun e => hn (by cases e; rfl)
      have HEnd : Hid (DI w2 B db sm n t ∧ Fr B TD [sm] w w2) := Lib.hid (by
        obtain ⟨xs', hlas⟩ := Hs.out.las
        obtain ⟨nk, D, hD, hnk⟩ := hs2
        refine ⟨⟨H.out.bdb, H.out.bsm, ⟨.slice lo n lc, .slice none 0 0, q1, q2, q3, (hother db (heap_lt hW1b) hne.symm).trans hW1b, ⟨xs', ownsRow_blocks hlas fun g hg => ?_⟩, 0, [], World.ownsRow_nil _ _ _ _, Nat.zero_le _, (fun j hj => by omega), (fun x hx => by cases hx)⟩, nk, D, hD, by omega⟩, ?_⟩
        · obtain ⟨cur, hc⟩ := own_kind hlas hg
          have h1 := hW1o g (fun e => by rw [e, hdbr] at hc; simp at hc)
          exact (hother g (heap_lt (h1.trans hc)) (fun e => by rw [← e, h1, hc] at hkm1; cases hkm1)).trans h1
        · have h1 : Fr B TD [sm] w W1 := by rw [hW1]; exact Hs.out.fr.cell (p := ⟨db, 1, none⟩) hdbr H.out.bdb (.inr (by simp)) _
          exact h1.map (by have := h1.size; omega) hg2 (by simp) H.out.bsm)
      have hW1e := Lib.hid hW1
      clear hW1 hW1b hW1o hs2 hg2 hother hkm hkm1 hseen
      go_upto_region 7 with fail
      rw [← hW1e.out]
      go_wp2_with (at_builtin; refine wpList_clear_run rfl _ rfl _ rfl hclr ?_)
      go_end0
      exact ⟨rfl, HEnd.out.1, HEnd.out.2⟩
end Go.Proofs.YtndjmffnlcilbaaDoor
namespace Go.Proofs.YtndjmffnlcilbaaDoor
open Go Go.RowKit Go.Ix Go.Ext Go.Maps
set_option maxRecDepth 20000 in
set_option maxHeartbeats 1000000 in
theorem flush1_any {w : World} {B db sm n t dbx : Nat} (h : DI w B db sm n t) (hn : n ≤ 1000000) (ht : t ≤ 1000000) (hB : B ≤ w.heap.size) (hdx : w.cell? ⟨dbx, 0, none⟩ = some (.pointer (some ⟨db, 0, none⟩))) :
    Calls Tryd.prog 44 #[.pointer (some ⟨dbx, 0, none⟩)] w fun e w' => e = .returned (.int .u16 0) ∧ DI w' B db sm n t ∧ Fr B TD [sm] w w' := by
  have HS := Lib.hid (settle_any h hn ht hB)
  clear h
  go_enter Tryd.func44, Tryd.ntmps44
  go_wp2_with (go_at_call 45; refine HS.out.mono ?_; clear HS; rintro e w' ⟨rfl, h1, h2⟩; have H1 := Lib.hid h1; have H2 := Lib.hid h2; clear h1 h2)
  go_ret
  exact ⟨rfl, H1.out, H2.out⟩
set_option maxRecDepth 20000 in
set_option maxHeartbeats 1000000 in
theorem flush_any {w : World} {B db sm n t : Nat} (h : DI w B db sm n t) (hn : n ≤ 1000000) (ht : t ≤ 1000000) (hB : B ≤ w.heap.size) :
    Calls Tryd.prog 20 #[.pointer (some ⟨db, 0, none⟩)] w fun e w' => e = .returned (.int .u16 0) ∧ DI w' B db sm n t ∧ Fr B TD [sm] w w' := by
  obtain ⟨X, hX⟩ : ∃ X : World, X = w.alloc (.cells #[.pointer (some ⟨db, 0, none⟩)] 25) := ⟨_, rfl⟩
  have HoX : Hid (Olds w X) := Lib.hid (by rw [hX]; exact Olds.alloc _ _)
  have HfX : Hid (Fr B TD [sm] w X) := Lib.hid (by rw [hX]; exact (Fr.refl _ _ _ _).alloc hB _)
  have hXs : X.heap.size = w.heap.size + 1 := by rw [hX]; simp
  have g1 : X.heap[w.heap.size]? = some (.cells #[.pointer (some ⟨db, 0, none⟩)] 25 (0, 0)) := by
    rw [hX]
    exact heap_alloc_new _ _
  have HD : Hid (DI X.drew B db sm n t) := Lib.hid ((h.olds HoX.out).olds (Olds.drewN X 1))
  have hdlt := h.lt
  have HW := Lib.hid (op_flush (S := fun w' => DI w' B db sm n t ∧ Fr B TD [sm] w w') (a := w.heap.size) (b := 0) (c := 0) HD.out fun q => by
    obtain ⟨lv, cv, q1, q2, q3, h3, _⟩ := HD.out.cell
    have hset : ∀ b, b ≠ db → (X.drew.setCell ⟨db, 7, none⟩ (.int .i64 q)).heap[b]? = X.heap[b]? := fun b hb => Below.heap_setCell _ _ _ _ hb
    have hg := (hset w.heap.size (by omega)).trans g1
    exact (flush1_any (HD.out.count (.inr (.inr rfl)) q) hn ht (by simp [World.setCell]; show B ≤ X.heap.size; omega) (by rw [cell_of_heap hg]; rfl)).mono fun e w' ⟨a, b, c⟩ => ⟨a, b, (HfX.out.drew.cell (p := ⟨db, 7, none⟩) h3 h.bdb (.inr (by simp)) _).trans c⟩)
  have hz1 : X.drew.cell? ⟨w.heap.size, 0, none⟩ = some (.pointer (some ⟨db, 0, none⟩)) := by
    have h9 : X.drew.heap[w.heap.size]? = _ := g1
    rw [cell_of_heap h9]; rfl
  have HXe := Lib.hid hX
  clear g1 hX h
  go_enter Tryd.func20, Tryd.ntmps20
  go_upto_region 1 with fail
  rw [← HXe.out]
  go_region_with (go_at_call 43; refine HW.out.mono ?_; clear HW; rintro e w' ⟨rfl, h1, h2⟩; have H1 := Lib.hid h1; have H2 := Lib.hid h2; clear h1 h2)
  all_goals go_wp2_with fail
  all_goals go_ret
  all_goals exact ⟨rfl, H1.out, H2.out⟩
set_option maxHeartbeats 400000 in
theorem sectors_any {w : World} {B db sm n t : Nat} (h : DI w B db sm n t) : Calls Tryd.prog 15 #[.pointer (some ⟨db, 0, none⟩)] w fun e w' => e = .returned (.int .i64 n) ∧ w' = w := by
  obtain ⟨lv, cv, q1, q2, q3, h3, ⟨xs, h4⟩, _⟩ := h.cell
  obtain ⟨lo, lc, rfl, _⟩ := ownsRow_shape h4
  have c0 : w.cell? ⟨db, 0, none⟩ = some (.slice lo n lc) := by rw [cell_of_heap h3]; rfl
  clear h h3 h4
  go_enter Tryd.func15, Tryd.ntmps15
  go_wp2_with fail
  go_ret
  exact ⟨rfl, rfl⟩
end Go.Proofs.YtndjmffnlcilbaaDoor
