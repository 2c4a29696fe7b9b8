/- Contracts over this program. Their conditions: the slices read as the lists that are named, and lie within the sizes that are named. -/
import Derived.Test.YtaoggppfimfhbaaGreatDoorIx
import Derived.Test.YtaoggppfimfhbaaGreatDoorNn
import Derived.Test.YtaoggppfimfhbaaGreatDoorNm
import Derived.Deep.RegionWith
set_option linter.unusedSimpArgs false
set_option linter.unusedVariables false
set_option linter.deprecated false
set_option linter.unnecessarySimpa false
namespace Go.Ix
open Go

theorem val_back (l : List Nat) (h : ∀ x ∈ l, x < 256) : Crc.val l = back l := by
  induction l with
  | nil => rfl
  | cons x l ih =>
    show x ^^^ (256 * Crc.val l) = x + 256 * back l
    rw [ih fun y hy => h y (List.mem_cons_of_mem _ hy)]
    have h1 := Nat.two_pow_add_eq_or_of_lt (i := 8) (b := x) (by have := h x List.mem_cons_self; omega) (back l)
    have h2 : x ^^^ 256 * back l = 256 * back l ||| x := by
      apply Nat.eq_of_testBit_eq
      intro i
      rw [Nat.testBit_xor, Nat.testBit_or]
      have hx : x < 2 ^ 8 := by have := h x List.mem_cons_self; omega
      by_cases hi : i < 8
      · have : (256 * back l).testBit i = false := by
          rw [show 256 * back l = 2 ^ 8 * back l from rfl, Nat.testBit_two_pow_mul]
          simp [show ¬ 8 ≤ i by omega]
        simp [this]
      · have : x.testBit i = false := Nat.testBit_lt_two_pow (Nat.lt_of_lt_of_le hx (Nat.pow_le_pow_right (by decide) (by omega)))
        simp [this]
    rw [h2]
    have h5 : 256 * back l + x = 256 * back l ||| x := h1
    rw [← h5, Nat.add_comm]

theorem val_append (a b : List Nat) : Crc.val (a ++ b) = Crc.val a ^^^ (256 ^ a.length * Crc.val b) := by
  induction a with
  | nil => simp [Crc.val]
  | cons x a ih =>
    show x ^^^ (256 * Crc.val (a ++ b)) = (x ^^^ (256 * Crc.val a)) ^^^ _
    rw [ih, Nat.xor_assoc]
    congr 1
    rw [List.length_cons, Nat.pow_succ, Nat.mul_comm (256 ^ a.length) 256, Nat.mul_assoc]
    rw [show (256 : Nat) = 2 ^ 8 from rfl]
    simp only [Nat.mul_comm (2 ^ 8)]
    simp only [← Nat.shiftLeft_eq]
    rw [Nat.shiftLeft_xor_distrib]


def Good (t : List Nat) : Prop := 4 ≤ t.length ∧ back (t.drop (t.length - 4)) = crc (t.take (t.length - 4))

theorem ones_bits (s v : Nat) (hs : s < 2 ^ 32) (hv : v < 2 ^ 32) : Crc.bits 32 (s ^^^ v) = Crc.bits 32 4294967295 ↔ v = 4294967295 ^^^ s := by
  constructor
  · intro h
    have h1 : Crc.bits 32 ((s ^^^ v) ^^^ 4294967295) = 0 := by rw [Crc.bits_xor, h, Nat.xor_self]
    have h2 : (s ^^^ v) ^^^ 4294967295 = 0 := Crc.bits_zero 32 (Nat.xor_lt_two_pow (Nat.xor_lt_two_pow hs hv) (by decide)) h1
    have h3 := congrArg (· ^^^ 4294967295) h2
    simp only [Nat.xor_assoc, Nat.xor_self, Nat.xor_zero, Nat.zero_xor] at h3
    have h4 := congrArg (s ^^^ ·) h3
    simp only [← Nat.xor_assoc, Nat.xor_self, Nat.zero_xor] at h4
    rw [h4, Nat.xor_comm]
  · intro h
    rw [h, ← Nat.xor_assoc, Nat.xor_comm s, Nat.xor_assoc, Nat.xor_self, Nat.xor_zero]

theorem good_iff {t : List Nat} (hb : ∀ x ∈ t, x < 256) (hl : 4 ≤ t.length) : Good t ↔ Crc.feed 4294967295 t = Crc.bits 32 4294967295 := by
  have e : t = t.take (t.length - 4) ++ t.drop (t.length - 4) := (List.take_append_drop _ t).symm
  have hz : (t.drop (t.length - 4)).length = 4 := by rw [List.length_drop]; omega
  have hbz : ∀ x ∈ t.drop (t.length - 4), x < 256 := fun x hx => hb x (List.mem_of_mem_drop hx)
  have hby : ∀ x ∈ t.take (t.length - 4), x < 256 := fun x hx => hb x (List.mem_of_mem_take hx)
  have hv : back (t.drop (t.length - 4)) < 2 ^ 32 := by
    have := back_lt _ hbz
    rw [hz] at this
    simpa using this
  have h1 : Crc.feed 4294967295 t = Crc.bits 32 (Crc.feed 4294967295 (t.take (t.length - 4)) ^^^ back (t.drop (t.length - 4))) := by
    conv => lhs; rw [e]
    have : Crc.feed 4294967295 (t.take (t.length - 4) ++ t.drop (t.length - 4)) = Crc.feed (Crc.feed 4294967295 (t.take (t.length - 4))) (t.drop (t.length - 4)) := by
      unfold Crc.feed
      rw [List.foldl_append]
    rw [this, Crc.feed_val, hz, val_back _ hbz]
  rw [h1, ones_bits _ _ (feed_lt _ (by decide) hby) hv]
  unfold Good crc
  exact ⟨fun h => h.2, fun h => ⟨hl, h⟩⟩


theorem turned_good {b t : List Nat} {f p : Nat} (hb : ∀ x ∈ b, x < 256) (ht : ∀ x ∈ t, x < 256) (hl : t.length = b.length) (h4 : 4 ≤ b.length) (hv : back t = back b ^^^ (2 ^ f * p)) (hp : p < 2 ^ 32) (hf : f ≤ 8 * b.length) (hg : Good b) :
    Good t ↔ p = 0 := by
  rw [good_iff ht (by omega), Crc.feed_val, val_back _ ht, hv, ← Nat.xor_assoc, Crc.bits_xor, hl]
  have h1 := (good_iff hb h4).1 hg
  rw [Crc.feed_val, val_back _ hb] at h1
  rw [h1]
  have h2 : Crc.bits (8 * b.length) (2 ^ f * p) = Crc.bits (8 * b.length - f) p := by
    rw [show 8 * b.length = f + (8 * b.length - f) by omega, Crc.bits_add, Crc.bits_shift]
    congr 1
    omega
  rw [h2]
  constructor
  · intro h
    have h3 := congrArg (Crc.bits 32 4294967295 ^^^ ·) h
    simp only [← Nat.xor_assoc, Nat.xor_self, Nat.zero_xor] at h3
    exact Crc.bits_zero _ hp h3
  · rintro rfl
    have : Crc.bits (8 * b.length - f) 0 = 0 := by
      have := Crc.bits_shift (8 * b.length - f) 0
      simpa using this
    rw [this, Nat.xor_zero]

theorem back_inj : ∀ {a b : List Nat}, (∀ x ∈ a, x < 256) → (∀ x ∈ b, x < 256) → a.length = b.length → back a = back b → a = b := by
  intro a b ha hb hl h
  rw [← low_back a ha, ← low_back b hb, hl, h]


theorem back_set {t : List Nat} (ht : ∀ x ∈ t, x < 256) {k m : Nat} (hk : k < t.length) (hm : m < 256) : back (t.set k (t[k] ^^^ m)) = back t ^^^ (256 ^ k * m) ∧ ∀ x ∈ t.set k (t[k] ^^^ m), x < 256 := by
  have hs : ∀ x ∈ t.set k (t[k] ^^^ m), x < 256 := fun x hx => by
    rcases List.mem_or_eq_of_mem_set hx with h | rfl
    · exact ht x h
    · exact Nat.xor_lt_two_pow (n := 8) (by have := ht _ (List.getElem_mem hk); omega) (by omega)
  refine ⟨?_, hs⟩
  rw [← val_back _ hs, ← val_back _ ht]
  clear hs
  induction t generalizing k with
  | nil => simp at hk
  | cons y t ih =>
    cases k with
    | zero =>
      show (y ^^^ m) ^^^ _ = (y ^^^ _) ^^^ (256 ^ 0 * m)
      rw [Nat.pow_zero, Nat.one_mul, Nat.xor_assoc, Nat.xor_assoc, Nat.xor_comm m]
    | succ k =>
      have hk' : k < t.length := by simpa using hk
      show y ^^^ (256 * Crc.val (t.set k (t[k] ^^^ m))) = (y ^^^ _) ^^^ _
      rw [ih (fun x hx => ht x (List.mem_cons_of_mem _ hx)) hk', Nat.xor_assoc]
      congr 1
      rw [Nat.pow_succ, Nat.mul_comm (256 ^ k) 256, Nat.mul_assoc]
      rw [show (256 : Nat) = 2 ^ 8 from rfl, Nat.mul_comm (2 ^ 8), Nat.mul_comm (2 ^ 8), Nat.mul_comm (2 ^ 8)]
      simp only [← Nat.shiftLeft_eq]
      rw [Nat.shiftLeft_xor_distrib]
end Go.Ix
namespace Go.Ix
open Go

theorem crc_lt32 {l : List Nat} (hl : ∀ x ∈ l, x < 256) : crc l < 4294967296 := by
  unfold crc
  exact Nat.xor_lt_two_pow (n := 32) (by decide) (feed_lt l (by decide) hl)
theorem encd_len (l : List Ent) : (encd crc l).length = (body l).length + 4 := by
  unfold encd
  rw [List.length_append, low_len]
theorem encd_bytes (l : List Ent) : ∀ x ∈ encd crc l, x < 256 := bytes_append (body_bytes l) (bytes_low _ _)
theorem encd_take (l : List Ent) : (encd crc l).take (body l).length = body l := by
  unfold encd
  exact List.take_left' rfl
theorem encd_drop (l : List Ent) : (encd crc l).drop (body l).length = low 4 (crc (body l)) := by
  unfold encd
  exact List.drop_left' rfl
theorem encd_good (l : List Ent) : Good (encd crc l) := by
  refine ⟨by rw [encd_len]; omega, ?_⟩
  rw [encd_len, Nat.add_sub_cancel, encd_take, encd_drop, back_low]
  exact Nat.mod_eq_of_lt (by simpa using crc_lt32 (body_bytes l))


def turnedTo (mask f top : Nat) : Nat → Nat
  | 0 => 0
  | k + 1 => if mask.testBit k ∧ f + k < top then turnedTo mask f top k ^^^ 2 ^ k else turnedTo mask f top k

theorem turned_lt (mask f top k : Nat) : turnedTo mask f top k < 2 ^ k := by
  induction k with
  | zero => simp [turnedTo]
  | succ k ih =>
    have h1 : 2 ^ k < 2 ^ (k + 1) := Nat.pow_lt_pow_right (by decide) (by omega)
    unfold turnedTo
    split
    · exact Nat.xor_lt_two_pow (by omega) h1
    · omega
theorem turned_bit (mask f top k : Nat) : (turnedTo mask f top k).testBit k = false := Nat.testBit_lt_two_pow (turned_lt mask f top k)

theorem turned_zero {mask f top k : Nat} (h : turnedTo mask f top (k + 1) = 0) : ¬ (mask.testBit k = true ∧ f + k < top) ∧ turnedTo mask f top k = 0 := by
  unfold turnedTo at h
  split at h
  · exfalso
    have h2 := turned_bit mask f top k
    have h3 : (turnedTo mask f top k ^^^ 2 ^ k).testBit k = true := by
      rw [Nat.testBit_xor, h2, Nat.testBit_two_pow_self]
      rfl
    rw [h] at h3
    simp at h3
  · exact ⟨‹_›, h⟩
theorem turned_step_ne {mask f top k : Nat} (h : mask.testBit k = true ∧ f + k < top) : turnedTo mask f top (k + 1) ≠ 0 := fun e => (turned_zero e).1 h
theorem turned_step_no {mask f top k : Nat} (h : ¬ (mask.testBit k = true ∧ f + k < top)) : turnedTo mask f top (k + 1) = turnedTo mask f top k := by
  show (if _ then _ else _) = _
  rw [if_neg h]


theorem turned_put {b t : List Nat} {f k mask : Nat} (ht : ∀ x ∈ t, x < 256) (hl : t.length = b.length) (hv : back t = back b ^^^ (2 ^ f * turnedTo mask f (8 * b.length) k)) (h : mask.testBit k = true ∧ f + k < 8 * b.length) (hx : (f + k) / 8 < t.length) :
    back (t.set ((f + k) / 8) (t[(f + k) / 8] ^^^ 2 ^ ((f + k) % 8))) = back b ^^^ (2 ^ f * turnedTo mask f (8 * b.length) (k + 1)) ∧ ∀ x ∈ t.set ((f + k) / 8) (t[(f + k) / 8] ^^^ 2 ^ ((f + k) % 8)), x < 256 := by
  have hm : 2 ^ ((f + k) % 8) < 256 := by
    have : (f + k) % 8 < 8 := Nat.mod_lt _ (by decide)
    calc 2 ^ ((f + k) % 8) < 2 ^ 8 := Nat.pow_lt_pow_right (by decide) this
      _ = 256 := rfl
  obtain ⟨h1, h2⟩ := back_set ht hx hm
  refine ⟨?_, h2⟩
  rw [h1, hv]
  show _ = back b ^^^ (2 ^ f * (if _ then _ else _))
  rw [if_pos h, Nat.xor_assoc]
  congr 1
  have e : 256 ^ ((f + k) / 8) * 2 ^ ((f + k) % 8) = 2 ^ f * 2 ^ k := by
    rw [show (256 : Nat) = 2 ^ 8 from rfl, ← Nat.pow_mul, ← Nat.pow_add, ← Nat.pow_add]
    congr 1
    omega
  rw [e, Nat.mul_comm (2 ^ f), Nat.mul_comm (2 ^ f), Nat.mul_comm (2 ^ f)]
  simp only [← Nat.shiftLeft_eq]
  rw [Nat.shiftLeft_xor_distrib]
end Go.Ix
namespace Go.Proofs.YtaoggppfimfhbaaGreatDoor
open Go Go.RowKit Go.Ix Go.Maps


structure Row8At (w : World) (g n cap : Nat) (t : List Nat) : Prop where
  len : t.length = n
  byte : ∀ x ∈ t, x < 256
  le : n ≤ cap
  max : cap ≤ maxLen
  cells : CellsAt w g 0 (octs t)
  lt : g < w.heap.size
theorem Row8At.olds {w W : World} {g n cap : Nat} {t : List Nat} (h : Row8At w g n cap t) (hb : Olds w W) : Row8At W g n cap t := ⟨h.len, h.byte, h.le, h.max, h.cells.olds hb, Nat.lt_of_lt_of_le h.lt hb.1⟩

theorem good_last {t : List Nat} {m : Nat} (hb : ∀ x ∈ t, x < 256) (hm : t.length = m + 4) : t.drop m = low 4 (back (t.drop m)) ∧ back (t.drop m) < 4294967296 ∧ (Go.Ix.Good t ↔ back (t.drop m) = crc (t.take m)) := by
  have hl : (t.drop m).length = 4 := by rw [List.length_drop]; omega
  have hd : ∀ x ∈ t.drop m, x < 256 := fun x hx => hb x (List.mem_of_mem_drop hx)
  refine ⟨?_, ?_, ?_⟩
  · have h1 := low_back _ hd
    rw [hl] at h1
    exact h1.symm
  · have h1 := back_lt _ hd
    rw [hl] at h1
    simpa using h1
  · unfold Go.Ix.Good
    rw [hm, Nat.add_sub_cancel]
    exact ⟨fun h => h.2, fun h => ⟨by omega, h⟩⟩


theorem open_sum (hH : HalfOk) {w : World} {g cap m : Nat} {t : List Nat} (h : Row8At w g (m + 4) cap t) (hm : m ≤ 100000000000) (hw8 : 8 ≤ w.heap.size) (X : World) (hX : Below w.heap.size w X) :
    Calls Tryz.prog 27 #[.slice (some ⟨g, 0, none⟩) m cap] X fun e w' => e = .returned (.int .u32 (crc (t.take m) : Nat)) ∧ Below X.heap.size X w' ∧ Below w.heap.size w w' := by
  have hlt : (t.take m).length = m := by rw [List.length_take, h.len]; omega
  have hb : BytesAt X (.slice (some ⟨g, 0, none⟩) m cap) (t.take m) := by
    unfold BytesAt
    rw [hlt]
    refine ⟨_, _, rfl, fun e => (by cases e), fun _ => ⟨g, 0, rfl, fun j u hu => ?_⟩⟩
    refine (h.cells.olds (Olds.of_below hX)) j u ?_
    unfold octs at hu ⊢
    rw [List.map_take, List.getElem?_take] at hu
    split at hu
    · exact hu
    · cases hu
  refine (sum_any hH (by have := hX.size; omega) hb (by omega) fun x hx => h.byte x (List.mem_of_mem_take hx)).mono ?_
  rintro e w' ⟨rfl, hb'⟩
  exact ⟨rfl, hb', hX.trans (hb'.mono hX.size)⟩
theorem open_num {w : World} {g cap m : Nat} {t : List Nat} (h : Row8At w g (m + 4) cap t) (hm : m ≤ 100000000000) (X : World) (rb : Nat) (hX : Below w.heap.size w X) (hrb : w.heap.size ≤ rb) (hc : X.heap[rb]? = some (.cells #[.slice (some ⟨g, m, none⟩) 4 (cap - m), .slice none 0 0] 148 (0, 0))) :
    Calls Tryz.prog 74 #[.pointer (some ⟨rb, 0, none⟩), .int .i64 4] X fun e w' => e = .returned (.int .u64 (back (t.drop m) : Nat)) ∧ Below w.heap.size w w' := by
  obtain ⟨h1, h2, _⟩ := good_last h.byte h.len
  have hz : (low 4 (back (t.drop m)) ++ []).length = 4 := by rw [List.append_nil, low_len]
  have hr : RdAt X rb g (low 4 (back (t.drop m)) ++ []) (.slice none 0 0) := by
    refine ⟨m, cap - m, ?_, ?_, ?_, fun j u hu => ?_, ?_⟩
    · rw [hz]
      exact hc
    · rw [hz]
      have := h.le
      omega
    · have := h.max
      omega
    · rw [List.append_nil, ← h1] at hu
      have h3 := (h.cells.olds (Olds.of_below hX)) (m + j) u (by
        unfold octs at hu ⊢
        rw [List.map_drop, List.getElem?_drop] at hu
        exact hu)
      rwa [Nat.zero_add] at h3
    · have := h.lt
      omega
  refine (rd_number 4 (back (t.drop m)) [] hr (by decide) (by simpa using h2) (by rw [hz]; decide)).mono ?_
  rintro e w' ⟨rfl, _, hk⟩
  exact ⟨rfl, hX.trans (hk.below fun b hb => ⟨by have := hX.size; omega, by omega⟩)⟩

set_option maxRecDepth 20000 in
set_option maxHeartbeats 20000000 in

theorem open_bad (hH : HalfOk) {w : World} {g cap m : Nat} {t : List Nat} (h : Row8At w g (m + 4) cap t) (hm : m ≤ 100000000000) (hw8 : 8 ≤ w.heap.size) (hbad : ¬ Go.Ix.Good t) :
    Calls Tryz.prog 15 #[.slice (some ⟨g, 0, none⟩) (m + 4 : Nat) cap] w fun e w' => e = .returned (.tuple #[.pointer none, .int .u16 141]) ∧ Below w.heap.size w w' := by
  obtain ⟨h1, h2, h3⟩ := good_last h.byte h.len
  have hne : ¬ back (t.drop m) = crc (t.take m) := fun e => hbad (h3.2 e)
  have hcl : crc (t.take m) < 4294967296 := crc_lt fun x hx => h.byte x (List.mem_of_mem_take hx)
  have HS := Lib.hid (open_sum hH h hm hw8)
  have HN := Lib.hid (open_num h hm)
  have hcap := h.le
  have hmax := h.max
  unfold maxLen at hmax
  clear h1 h3 hbad hH h
  generalize back (t.drop m) = z at *
  generalize crc (t.take m) = c at *
  have hcm : ¬ cap = m := by omega
  have hneb : ((z : Int) != (c : Int)) = true := by simp; omega
  have hwc : IntKind.u64.wrap (c : Int) = (c : Int) := by rw [IntKind.wrap_u64]; omega
  have B0 : Hid (Below w.heap.size w w.drew) := Lib.hid (Below.refl _ w).drew
  go_enter Tryz.func15, Tryz.ntmps15
  go_upto_region 2 with fail
  have B1 : Hid (Below w.heap.size w (w.alloc (.cells #[.slice (some ⟨g, m, none⟩) 4 (cap - m), .slice none 0 0] 148)).drew) := Lib.hid ((Below.refl _ w).alloc (Nat.le_refl _) _).drew
  have HN1 := Lib.hid (HN.out _ w.heap.size B1.out (Nat.le_refl _) (heap_alloc_new w _))
  clear HN B0
  go_region_with (first
    | (go_at_call 74; refine HN1.out.mono ?_; clear HN1; rintro e w1 ⟨rfl, hb1⟩; have B2 := Lib.hid hb1; clear hb1)
    | (go_at_call 27; refine (HS.out _ B2.out).mono ?_; clear HS; rintro e w2 ⟨rfl, hb2, hb2'⟩; have B3 := Lib.hid hb2'; clear hb2 hb2'))
  go_wp2_with fail
  all_goals (refine bodyPost_ret (results_tmp2 rfl _ _ _) rfl ?_; exact ⟨rfl, B3.out⟩)
end Go.Proofs.YtaoggppfimfhbaaGreatDoor
