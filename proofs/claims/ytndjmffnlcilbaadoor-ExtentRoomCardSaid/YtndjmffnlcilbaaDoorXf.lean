/- Contracts over this program. Their conditions: the slices read as the lists that are named, and lie within the sizes that are named. -/
import Derived.Test.YtndjmffnlcilbaaDoorXn
set_option linter.unusedSimpArgs false
set_option linter.unusedVariables false
set_option linter.deprecated false
set_option linter.unnecessarySimpa false
namespace Go.Proofs.YtndjmffnlcilbaaDoor
open Go Go.RowKit Go.Ix Go.Ext Go.Maps
def OpEnd (w : World) (B db sm n t : Nat) (e : Ending) (w' : World) : Prop := e = .returned (.int .u16 0) ∧ DI w' B db sm n t ∧ Fr B TD [sm] w w'
theorem Fr.from_drew {B : Nat} {T M : List Nat} {w w' : World} (h : Fr B T M w.drew w') : Fr B T M w w' := (Fr.refl B T M w).drew.trans h
theorem heap_drew (w : World) (b : Nat) : w.drew.heap[b]? = w.heap[b]? := rfl
set_option maxRecDepth 20000 in
set_option maxHeartbeats 1000000 in
theorem format1_any {w : World} {B B' db sm sb n t m lc dn dc b4 b5 : Nat} {lo da : Option Addr} {c1 c2 c3 c4 c5 c8 : Value} (l : List Nat) (h : DI w B db sm n t) (hsb : w.heap[sb]? = some (.cells #[.pointer (some ⟨db, 0, none⟩), c1, c2, c3, c4, c5, .slice lo m lc, .bool false, c8] 61 (0, 0)))
    (hb4 : w.heap[b4]? = some (.cells #[.pointer (some ⟨sb, 0, none⟩)] 30 (0, 0))) (hb5 : w.heap[b5]? = some (.cells #[.slice da dn dc] 33 (0, 0)))
    (hr : w.ownsRow B' 3 1 (.slice lo m lc) m (nats l)) (hlm : l.length = m) (hl : ∀ a ∈ l, a < n) (hd : Data w B da dn dc) (hB : B ≤ w.heap.size) (hn : n ≤ 1000000) (ht : t + m ≤ 1000000) (hdn : dn ≤ 1000000) (hsbm : sb ≠ sm) :
    Calls Tryd.prog 18 #[.pointer (some ⟨b4, 0, none⟩), .pointer (some ⟨b5, 0, none⟩)] w (OpEnd w B db sm n (t + m)) := by
  have HW := Lib.hid (write_any (w := w.drew) l (h.olds (Olds.drewN w 1)) hsb (ownsRow_olds hr (Olds.drewN w 1)) hlm hl (hd.olds (Olds.drewN w 1)) hB hn ht hdn hsbm)
  have q1 : w.drew.cell? ⟨b4, 0, none⟩ = some (.pointer (some ⟨sb, 0, none⟩)) := by rw [cell_of_heap (show w.drew.heap[b4]? = _ from hb4)]; rfl
  have q2 : w.drew.cell? ⟨b5, 0, none⟩ = some (.slice da dn dc) := by rw [cell_of_heap (show w.drew.heap[b5]? = _ from hb5)]; rfl
  have q3 : w.drew.cell? ⟨sb, 6, none⟩ = some (.slice lo m lc) := by rw [cell_of_heap (show w.drew.heap[sb]? = _ from hsb)]; rfl
  clear h hsb hb4 hb5 hr hl hd
  go_enter Tryd.func18, Tryd.ntmps18
  go_upto_region 1 with fail
  go_region_with (go_at_call 19; refine HW.out.mono ?_; clear HW; rintro e w' ⟨rfl, h1, h2⟩; have H1 := Lib.hid h1; have H2 := Lib.hid h2; clear h1 h2)
  all_goals go_wp2_with fail
  all_goals go_ret
  all_goals exact ⟨rfl, H1.out, H2.out.from_drew⟩
set_option maxRecDepth 20000 in
set_option maxHeartbeats 1000000 in
theorem commit1_any {w : World} {B B' db sm sb n t m lc dn dc b1 b4 b5 : Nat} {lo da : Option Addr} {c1 c2 c3 c4 c5 c6 c8 : Value} (l : List Nat) (h : DI w B db sm n t) (hsb : w.heap[sb]? = some (.cells #[.pointer (some ⟨db, 0, none⟩), c1, c2, c3, c4, c5, c6, .bool false, c8] 61 (0, 0)))
    (hb1 : w.heap[b1]? = some (.cells #[.pointer (some ⟨sb, 0, none⟩)] 30 (0, 0))) (hb4 : w.heap[b4]? = some (.cells #[.slice lo m lc] 58 (0, 0))) (hb5 : w.heap[b5]? = some (.cells #[.slice da dn dc] 33 (0, 0)))
    (hr : w.ownsRow B' 3 1 (.slice lo m lc) m (nats l)) (hlm : l.length = m) (hl : ∀ a ∈ l, a < n) (hd : Data w B da dn dc) (hB : B ≤ w.heap.size) (hn : n ≤ 1000000) (ht : t + m ≤ 1000000) (hdn : dn ≤ 1000000) (hsbm : sb ≠ sm) :
    Calls Tryd.prog 33 #[.pointer (some ⟨b1, 0, none⟩), .pointer (some ⟨b4, 0, none⟩), .pointer (some ⟨b5, 0, none⟩)] w (OpEnd w B db sm n (t + m)) := by
  have HW := Lib.hid (write_any (w := w) l h hsb hr hlm hl hd hB hn ht hdn hsbm)
  have q1 : w.cell? ⟨b1, 0, none⟩ = some (.pointer (some ⟨sb, 0, none⟩)) := by rw [cell_of_heap hb1]; rfl
  have q2 : w.cell? ⟨b5, 0, none⟩ = some (.slice da dn dc) := by rw [cell_of_heap hb5]; rfl
  have q3 : w.cell? ⟨b4, 0, none⟩ = some (.slice lo m lc) := by rw [cell_of_heap hb4]; rfl
  clear h hsb hb1 hb4 hb5 hr hl hd
  go_enter Tryd.func33, Tryd.ntmps33
  go_wp2_with (go_at_call 19; refine HW.out.mono ?_; clear HW; rintro e w' ⟨rfl, h1, h2⟩; have H1 := Lib.hid h1; have H2 := Lib.hid h2; clear h1 h2)
  go_ret
  exact ⟨rfl, H1.out, H2.out⟩
theorem slot_write (hH : HalfOk) {w : World} {B B' db sm n t gen m lc dn dc : Nat} {lo da : Option Addr} (l : List Nat) (at' : Nat) (h : DI w B db sm n t) (hat : at' < n) (hr : w.ownsRow B' 3 1 (.slice lo m lc) m (nats l)) (hlm : l.length = m) (hl : ∀ a ∈ l, a < n) (hd : Data w B da dn dc) (hG : 8 ≤ w.heap.size) (hB : B ≤ w.heap.size) (hn : n ≤ 1000) (hm : m ≤ 1000) (ht : t ≤ 1000000) (hdn : dn ≤ 1000000) (hg : gen < 18446744073709551616) (hq : (runsOf l).length ≤ 48) :
    Calls Tryd.prog 23 #[.int .u64 (gen : Nat), .slice da dn dc, .slice lo m lc] w fun e w1 => ∃ v, e = .returned v ∧ Below w.heap.size w w1 ∧ Calls Tryd.prog 22 #[.pointer (some ⟨db, 0, none⟩), .int .i64 at', v] w1 (OpEnd w B db sm n (t + 1)) := by
  have hd' : ∃ bs, BytesAt w (.slice da dn dc) bs ∧ (∀ x ∈ bs, x < 256) ∧ bs.length = dn := by
    obtain ⟨bs, a1, a2, a3, _⟩ := hd
    exact ⟨bs, a1, a2, a3⟩
  have hf : FlatAt w (.slice lo m lc) m (nats l) := owns_flat hr
  refine (slot_any hH (w := w) gen (.slice da dn dc) dn dc da lo lc m l hG hg rfl hd' hdn hlm (by omega) (fun a ha => by have := hl a ha; omega) hf hq).mono ?_
  rintro e w1 ⟨v, rfl, hrow, hb⟩
  refine ⟨v, rfl, hb, ?_⟩
  refine (dwrite_any at' (h.olds (Olds.of_below hb)) hat (by omega) ht (by have := hb.size; omega) hrow).mono ?_
  rintro e w2 ⟨rfl, h1, h2⟩
  exact ⟨rfl, h1, (Fr.of_below hb hB _ _).trans h2⟩
set_option maxRecDepth 20000 in
set_option maxHeartbeats 1000000 in
theorem format2_any (hH : HalfOk) {w : World} {B B' db sm sb n t m lc dn dc b1 b4 b5 : Nat} {lo da : Option Addr} {c1 c2 c3 c4 c5 c7 c8 : Value} (l : List Nat) (h : DI w B db sm n t) (hsb : w.heap[sb]? = some (.cells #[.pointer (some ⟨db, 0, none⟩), c1, c2, c3, c4, c5, .slice lo m lc, c7, c8] 61 (0, 0)))
    (hb1 : w.heap[b1]? = some (.cells #[.pointer (some ⟨db, 0, none⟩)] 25 (0, 0))) (hb4 : w.heap[b4]? = some (.cells #[.pointer (some ⟨sb, 0, none⟩)] 30 (0, 0))) (hb5 : w.heap[b5]? = some (.cells #[.slice da dn dc] 33 (0, 0)))
    (hr : w.ownsRow B' 3 1 (.slice lo m lc) m (nats l)) (hlm : l.length = m) (hl : ∀ a ∈ l, a < n) (hd : Data w B da dn dc) (hG : 8 ≤ w.heap.size) (hB : B ≤ w.heap.size) (h0 : 0 < n) (hn : n ≤ 1000) (hm : m ≤ 1000) (ht : t ≤ 1000000) (hdn : dn ≤ 1000000) (hq : (runsOf l).length ≤ 48) :
    Calls Tryd.prog 21 #[.pointer (some ⟨b1, 0, none⟩), .pointer (some ⟨b5, 0, none⟩), .pointer (some ⟨b4, 0, none⟩)] w (OpEnd w B db sm n (t + 1)) := by
  have HW := Lib.hid (slot_write hH (w := w.drew) (gen := 1) l 0 (h.olds (Olds.drewN w 1)) h0 (ownsRow_olds hr (Olds.drewN w 1)) hlm hl (hd.olds (Olds.drewN w 1)) hG hB hn hm ht hdn (by decide) hq)
  obtain ⟨es, cm, hkm⟩ := h.seen.kind
  have hne : ∀ {b : Nat} {cs : Array Value} {ty : TypeId} {fr : Nat × Nat}, w.heap[b]? = some (.cells cs ty fr) → b ∉ [sm] := fun {b cs ty fr} hb hm => by
    simp only [List.mem_singleton] at hm
    rw [hm, hkm] at hb
    cases hb
  have HSf : Hid (∀ W' : World, Fr B TD [sm] w.drew W' → W'.cell? ⟨b1, 0, none⟩ = some (.pointer (some ⟨db, 0, none⟩)) ∧ W'.cell? ⟨b5, 0, none⟩ = some (.slice da dn dc) ∧ W'.cell? ⟨b4, 0, none⟩ = some (.pointer (some ⟨sb, 0, none⟩)) ∧ W'.cell? ⟨sb, 6, none⟩ = some (.slice lo m lc)) := Lib.hid (fun W' hf => by
    have a1 := hf.keep (show w.drew.heap[b1]? = _ from hb1) (hne hb1) (by decide)
    have a4 := hf.keep (show w.drew.heap[b4]? = _ from hb4) (hne hb4) (by decide)
    have a5 := hf.keep (show w.drew.heap[b5]? = _ from hb5) (hne hb5) (by decide)
    have a6 := hf.keep (show w.drew.heap[sb]? = _ from hsb) (hne hsb) (by decide)
    refine ⟨?_, ?_, ?_, ?_⟩
    · rw [cell_of_heap a1]; rfl
    · rw [cell_of_heap a5]; rfl
    · rw [cell_of_heap a4]; rfl
    · rw [cell_of_heap a6]; rfl)
  obtain ⟨q1, q2, q3, q4⟩ := HSf.out w.drew (Fr.refl _ _ _ _)
  clear h hsb hb1 hb4 hb5 hr hl hd hne hkm
  go_enter Tryd.func21, Tryd.ntmps21
  go_upto_region 1 with fail
  rw [show ((1 : Nat) : Int) = 1 from rfl, show ((0 : Nat) : Int) = 0 from rfl] at HW
  go_region_held_law (fun W' => W'.cell? ⟨b1, 0, none⟩ = some (.pointer (some ⟨db, 0, none⟩)) ∧ W'.cell? ⟨b5, 0, none⟩ = some (.slice da dn dc) ∧ W'.cell? ⟨b4, 0, none⟩ = some (.pointer (some ⟨sb, 0, none⟩)) ∧ W'.cell? ⟨sb, 6, none⟩ = some (.slice lo m lc))
    (first | exact ⟨q1, q2, q3, q4⟩ | exact HS1.out | exact HS2.out)
    (first
      | (go_at_call 23; refine HW.out.mono ?_; clear HW; rintro e w1 ⟨v, rfl, hb, hc⟩; have HS1 := Lib.hid (HSf.out w1 (Fr.of_below hb hB _ _)); have HC := Lib.hid hc; clear hb hc)
      | (go_at_call 22; refine HC.out.mono ?_; clear HC; rintro e w2 ⟨rfl, h1, h2⟩; have H1 := Lib.hid h1; have H2 := Lib.hid h2; have HS2 := Lib.hid (HSf.out w2 h2); clear h1 h2))
  all_goals go_wp2_with fail
  all_goals go_ret
  all_goals exact ⟨rfl, H1.out, H2.out.from_drew⟩
set_option maxRecDepth 20000 in
set_option maxHeartbeats 2000000 in
theorem commit2_any (hH : HalfOk) {w : World} {B B' db sm sb n t m lc dn dc b1 b4 b5 slot gen : Nat} {lo da : Option Addr} {c3 c4 c5 c6 c7 c8 : Value} (l : List Nat) (h : DI w B db sm n t) (hsb : w.heap[sb]? = some (.cells #[.pointer (some ⟨db, 0, none⟩), .int .i64 (slot : Nat), .int .u64 (gen : Nat), c3, c4, c5, c6, c7, c8] 61 (0, 0)))
    (hb1 : w.heap[b1]? = some (.cells #[.pointer (some ⟨sb, 0, none⟩)] 30 (0, 0))) (hb4 : w.heap[b4]? = some (.cells #[.slice lo m lc] 58 (0, 0))) (hb5 : w.heap[b5]? = some (.cells #[.slice da dn dc] 33 (0, 0)))
    (hr : w.ownsRow B' 3 1 (.slice lo m lc) m (nats l)) (hlm : l.length = m) (hl : ∀ a ∈ l, a < n) (hd : Data w B da dn dc) (hG : 8 ≤ w.heap.size) (hB : B ≤ w.heap.size) (h2 : 2 ≤ n) (hn : n ≤ 1000) (hm : m ≤ 1000) (ht : t ≤ 1000000) (hdn : dn ≤ 1000000) (hq : (runsOf l).length ≤ 48) (hs : slot ≤ 1) (hg : gen ≤ 1000000) :
    Calls Tryd.prog 34 #[.pointer (some ⟨b1, 0, none⟩), .pointer (some ⟨b5, 0, none⟩), .pointer (some ⟨b4, 0, none⟩)] w (OpEnd w B db sm n (t + 1)) := by
  have HW := Lib.hid (slot_write hH (w := w.drew) (gen := gen + 1) l (1 - slot) (h.olds (Olds.drewN w 1)) (by omega) (ownsRow_olds hr (Olds.drewN w 1)) hlm hl (hd.olds (Olds.drewN w 1)) hG hB hn hm ht hdn (by omega) hq)
  obtain ⟨es, cm, hkm⟩ := h.seen.kind
  have hne : ∀ {b : Nat} {cs : Array Value} {ty : TypeId} {fr : Nat × Nat}, w.heap[b]? = some (.cells cs ty fr) → b ∉ [sm] := fun {b cs ty fr} hb hm => by
    simp only [List.mem_singleton] at hm
    rw [hm, hkm] at hb
    cases hb
  have HSf : Hid (∀ W' : World, Fr B TD [sm] w.drew W' → W'.cell? ⟨b1, 0, none⟩ = some (.pointer (some ⟨sb, 0, none⟩)) ∧ W'.cell? ⟨b5, 0, none⟩ = some (.slice da dn dc) ∧ W'.cell? ⟨b4, 0, none⟩ = some (.slice lo m lc) ∧ W'.cell? ⟨sb, 0, none⟩ = some (.pointer (some ⟨db, 0, none⟩)) ∧ W'.cell? ⟨sb, 1, none⟩ = some (.int .i64 (slot : Nat)) ∧ W'.cell? ⟨sb, 2, none⟩ = some (.int .u64 (gen : Nat))) := Lib.hid (fun W' hf => by
    have a1 := hf.keep (show w.drew.heap[b1]? = _ from hb1) (hne hb1) (by decide)
    have a4 := hf.keep (show w.drew.heap[b4]? = _ from hb4) (hne hb4) (by decide)
    have a5 := hf.keep (show w.drew.heap[b5]? = _ from hb5) (hne hb5) (by decide)
    have a6 := hf.keep (show w.drew.heap[sb]? = _ from hsb) (hne hsb) (by decide)
    refine ⟨?_, ?_, ?_, ?_, ?_, ?_⟩
    · rw [cell_of_heap a1]; rfl
    · rw [cell_of_heap a5]; rfl
    · rw [cell_of_heap a4]; rfl
    all_goals (rw [cell_of_heap a6]; rfl))
  obtain ⟨q1, q2, q3, q4, q5, q6⟩ := HSf.out w.drew (Fr.refl _ _ _ _)
  have hw1 : IntKind.i64.wrap ((1 : Int) - (slot : Int)) = ((1 - slot : Nat) : Int) := by rw [IntKind.wrap_i64]; omega
  have hw2 : IntKind.u64.wrap ((gen : Int) + 1) = ((gen + 1 : Nat) : Int) := by
    have := wrap_u64 (gen + 1) (by omega)
    rw [← this]
    rfl
  clear h hsb hb1 hb4 hb5 hr hl hd hne hkm
  go_enter Tryd.func34, Tryd.ntmps34
  go_upto_region 1 with fail
  go_region_held_law (fun W' => W'.cell? ⟨b1, 0, none⟩ = some (.pointer (some ⟨sb, 0, none⟩)) ∧ W'.cell? ⟨b5, 0, none⟩ = some (.slice da dn dc) ∧ W'.cell? ⟨b4, 0, none⟩ = some (.slice lo m lc) ∧ W'.cell? ⟨sb, 0, none⟩ = some (.pointer (some ⟨db, 0, none⟩)) ∧ W'.cell? ⟨sb, 1, none⟩ = some (.int .i64 (slot : Nat)) ∧ W'.cell? ⟨sb, 2, none⟩ = some (.int .u64 (gen : Nat)))
    (first | exact ⟨q1, q2, q3, q4, q5, q6⟩ | exact HS1.out | exact HS2.out)
    (first
      | (go_at_call 23; refine HW.out.mono ?_; clear HW; rintro e w1 ⟨v, rfl, hb, hc⟩; have HS1 := Lib.hid (HSf.out w1 (Fr.of_below hb hB _ _)); have HC := Lib.hid hc; clear hb hc)
      | (go_at_call 22; refine HC.out.mono ?_; clear HC; rintro e w2 ⟨rfl, h1, h2⟩; have H1 := Lib.hid h1; have H2 := Lib.hid h2; have HS2 := Lib.hid (HSf.out w2 h2); clear h1 h2))
  all_goals go_wp2_with fail
  all_goals go_ret
  all_goals exact ⟨rfl, H1.out, H2.out.from_drew⟩
end Go.Proofs.YtndjmffnlcilbaaDoor
