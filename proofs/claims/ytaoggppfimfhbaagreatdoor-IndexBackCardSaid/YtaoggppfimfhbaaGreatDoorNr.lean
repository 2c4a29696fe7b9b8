/- The law IndexBack, walked. Conditions: the slice reads as the entries that are named, and is of less than 2 to the 47th bytes. -/
import Derived.Test.YtaoggppfimfhbaaGreatDoorNp
import Derived.Test.YtaoggppfimfhbaaGreatDoorNq
import Derived.Test.YtaoggppfimfhbaaGreatDoorNl
set_option linter.unusedSimpArgs false
set_option linter.unusedVariables false
set_option linter.deprecated false
set_option linter.unnecessarySimpa false
namespace Go.Proofs.YtaoggppfimfhbaaGreatDoor
open Go Go.RowKit Go.Ix Go.Maps

theorem encd_bound {l : List Ent} (hm : May l) (hL : lblsOf l ≤ 4000) (h60 : l.length ≤ 60) (hch : ∀ e ∈ l, e.2.length ≤ 4000) : (encd crc l).length ≤ 30000000000 := by
  rw [encd_len, body_eq]
  obtain ⟨hs, hb⟩ := body_bound hm hL h60 hch
  have h1 := hb l.length
  have h2 := postPart_len (n := (symbols l).length) (fun p => (grp_bound hm p).1)
  have h3 : (symbols l).length * (symbols l).length * (12 + 4 * l.length) ≤ 8000 * 8000 * 252 := Nat.mul_le_mul (Nat.mul_le_mul hs hs) (by omega)
  simp only [List.length_append]
  omega
theorem row8_at {W : World} {B : Nat} {v : Value} {t : List Nat} (h : Row8 W B v t) (h0 : t ≠ []) (hb : ∀ x ∈ t, x < 256) : ∃ g cap, v = .slice (some ⟨g, 0, none⟩) t.length cap ∧ B ≤ g ∧ Row8At W g t.length cap t := by
  have h' : W.ownsRow B 5 1 v t.length (octs t) := h
  rcases h'.2 with ⟨_, hx⟩ | ⟨g, cap, cur, rfl, k1, k2, k3, k4, _⟩
  · exact absurd (List.eq_nil_of_length_eq_zero hx) h0
  · exact ⟨g, cap, rfl, k1, rfl, hb, k3, k4, ownsRow_cell h', (Array.getElem?_eq_some_iff.1 k2).1⟩

theorem row_at8 {w : World} {B gg n cc : Nat} {t : List Nat} (h : w.ownsRow B 5 1 (.slice (some ⟨gg, 0, none⟩) n cc) n (octs t)) (hb : ∀ x ∈ t, x < 256) : Row8At w gg n cc t ∧ w.frozen? ⟨gg, 0, none⟩ = false ∧ ∀ j, w.frozen? ⟨gg, j, none⟩ = false := by
  have hc := ownsRow_cell h
  obtain ⟨h1, h2⟩ := h
  rw [octs_len, Nat.mul_one] at h1
  rcases h2 with ⟨e, _⟩ | ⟨g, cap, cur, e, k1, k2, k3, k4, _⟩
  · cases e
  · simp only [Value.slice.injEq, Option.some.injEq, Addr.mk.injEq, and_true, true_and] at e
    obtain ⟨rfl, rfl⟩ := e
    exact ⟨⟨h1, hb, k3, k4, hc, (Array.getElem?_eq_some_iff.1 k2).1⟩, by simp [World.frozen?, k2], fun j => by simp [World.frozen?, k2]⟩
theorem owns_put {w : World} {B gg n cc j z : Nat} {t : List Nat} (h : w.ownsRow B 5 1 (.slice (some ⟨gg, 0, none⟩) n cc) n (octs t)) : (w.setCell ⟨gg, j, none⟩ (.int .u8 (z : Nat))).ownsRow B 5 1 (.slice (some ⟨gg, 0, none⟩) n cc) n (octs (t.set j z)) := by
  obtain ⟨h1, h2⟩ := h
  refine ⟨by rw [octs_len] at h1 ⊢; rw [List.length_set]; exact h1, .inr ?_⟩
  rcases h2 with ⟨e, _⟩ | ⟨g, cap, cur, e, hb, hh, hc, hm, hs, ht⟩
  · cases e
  · simp only [Value.slice.injEq, Option.some.injEq, Addr.mk.injEq, and_true, true_and] at e
    obtain ⟨rfl, rfl⟩ := e
    refine ⟨gg, cc, cur.setIfInBounds j (.int .u8 (z : Nat)), rfl, hb, ?_, hc, hm, by simpa using hs, ?_⟩
    · simp [World.setCell, Array.getElem?_modify, hh]
    · rw [Array.toList_setIfInBounds, List.take_set, ht]
      unfold octs
      rw [List.map_set]
theorem bits_xor_u8 (a b : Nat) (ha : a < 256) (hb : b < 256) : bits .xor .u8 (a : Int) (b : Int) = ((a ^^^ b : Nat) : Int) := by
  have hx : a ^^^ b < 2 ^ 8 := Nat.xor_lt_two_pow (by omega) (by omega)
  have h1 : (BitVec.ofInt 8 (a : Int)).toNat = a := by
    rw [BitVec.ofInt_natCast, BitVec.toNat_ofNat]
    exact Nat.mod_eq_of_lt (by omega)
  have h2 : (BitVec.ofInt 8 (b : Int)).toNat = b := by
    rw [BitVec.ofInt_natCast, BitVec.toNat_ofNat]
    exact Nat.mod_eq_of_lt (by omega)
  show IntKind.u8.wrap ((BitVec.ofInt 8 (a : Int) ^^^ BitVec.ofInt 8 (b : Int)).toNat : Int) = _
  rw [BitVec.toNat_xor, h1, h2, IntKind.wrap_u8]
  omega
theorem xor_put (y j : Nat) (hy : y < 256) : bits .xor .u8 (y : Int) (2 ^ (j % 8) % 256) = ((y ^^^ 2 ^ (j % 8) : Nat) : Int) := by
  have hm : 2 ^ (j % 8) < 256 := by
    have : j % 8 < 8 := Nat.mod_lt _ (by decide)
    calc 2 ^ (j % 8) < 2 ^ 8 := Nat.pow_lt_pow_right (by decide) this
      _ = 256 := rfl
  have h1 := bits_xor_u8 y (2 ^ (j % 8)) hy hm
  have h3 : ((2 ^ (j % 8) : Nat) : Int) = (2 : Int) ^ (j % 8) := by push_cast; rfl
  have h2 : ((2 ^ (j % 8) : Nat) : Int) % 256 = ((2 ^ (j % 8) : Nat) : Int) := by
    clear h3 h1
    generalize 2 ^ (j % 8) = z at hm ⊢
    omega
  rw [← h3, h2]
  exact h1

set_option maxRecDepth 20000 in
set_option maxHeartbeats 8000000 in
theorem back_any (o : Option Addr) (n c : Nat) (l : List Ent) (w : World) (at_ : Int) (mk : Nat) (hat1 : -9223372036854775808 ≤ at_) (hat2 : at_ ≤ 9223372036854775807) (hmk : mk < 4294967296) (h8 : 8 ≤ w.heap.size) (hl : l.length = n) (hv : Vast l) (hc : RowsE w o l) (hH : HalfOk)
    (hk : ∀ W : World, 8 ≤ W.heap.size → Calls Tryz.prog 12 #[] W fun e W' => e = .returned (.bool true) ∧ Below W.heap.size W W') :
    Calls Tryz.prog 4 #[.slice o n c, .int .i64 at_, .int .u32 (mk : Nat)] w fun e w' => e = .returned (.bool true) ∧ Below w.heap.size w w' := by
  obtain ⟨i1, hi1, hy0, hy1, hy2⟩ := info_parts Tryz.info78
  have HM := Lib.hid (much_any o n c l w hl hv hc)
  have Hc := Lib.hid hc
  have Hk := Lib.hid hk
  have HH := Lib.hid hH
  have Hl := Lib.hid hl
  have Hat := Lib.hid (And.intro hat1 hat2)
  have Hmk := Lib.hid hmk
  clear hv hc hk hH hl hat1 hat2 hmk
  go_enter Tryz.func4, Tryz.ntmps4
  go_wp2_with fail
  refine HM.out.mono ?_
  clear HM
  rintro e w1 ⟨hsays, q, rfl⟩
  have Hc1 : Hid (RowsE (w.drewN q) o l) := Lib.hid (Hc.out.olds (Olds.drewN _ _))
  have B1 : Hid (Below w.heap.size w (w.drewN q)) := Lib.hid ⟨rfl, rfl, rfl, Nat.le_refl _, fun _ _ => rfl⟩
  have S1 : (w.drewN q).heap.size = w.heap.size := rfl
  generalize w.drewN q = w1 at *
  rcases hsays with rfl | ⟨rfl, hsmall, h60⟩
  · go_wp2_with fail
    refine (Hk.out w1 (by omega)).mono ?_
    rintro e w2 ⟨rfl, hb⟩
    have B2 : Hid (Below w.heap.size w w2) := Lib.hid (B1.out.trans (hb.mono (by omega)))
    clear hb
    go_wp2_with fail
    go_ret
    exact ⟨rfl, B2.out⟩
  obtain ⟨hs, hL, hch, hes⟩ := small_of (l := l) (by rw [Hl.out]; exact hsmall)
  have HE : Hid (∀ W : World, 8 ≤ W.heap.size → RowsE W o l → Calls Tryz.prog 7 #[.slice o n c] W (EncEnd l W)) := Lib.hid (fun W h8 hr => by
    have := pencode_rows HH.out o c l W h8 hs hL (by rw [Hl.out]; exact h60) hch hr
    rwa [Hl.out] at this)
  have HO : Hid (∀ (W : World) (g cap m : Nat), May l → m = (body l).length → m ≤ 100000000000 → Row8At W g (m + 4) cap (encd crc l) → 8 ≤ W.heap.size → Calls Tryz.prog 15 #[.slice (some ⟨g, 0, none⟩) (m + 4 : Nat) cap] W (OpenEnd l W)) := Lib.hid (fun W g cap m hmay _ hm hr h8 => open_good HH.out hr hm h8 rfl Hl.out hs hL (by rw [Hl.out]; exact h60) hch hmay)
  have HZ : Hid (May l → (encd crc l).length ≤ 30000000000) := Lib.hid (fun hmay => encd_bound hmay hL (by rw [Hl.out]; exact h60) hch)
  have Hes := Lib.hid hes
  have Hch := Lib.hid hch
  clear hs hL hch hes hsmall
  go_wp2_with fail
  refine (Hk.out w1 (by omega)).mono ?_
  rintro e w2 ⟨rfl, hb⟩
  have B2 : Hid (Below w.heap.size w w2) := Lib.hid (B1.out.trans (hb.mono (by omega)))
  have S2 := B2.out.size
  clear hb Hk
  go_wp2_with fail
  refine (HE.out w2 (by omega) (Hc.out.olds (Olds.of_below B2.out))).mono ?_
  clear HE
  rintro e w3 ⟨hE, hb3⟩
  have B3 : Hid (Below w.heap.size w w3) := Lib.hid (B2.out.trans (hb3.mono (by omega)))
  have S3 := B3.out.size
  rcases hE with ⟨_, rfl⟩ | ⟨hmay, v, rfl, hv8⟩
  · go_wp2_with fail
    go_ret
    exact ⟨rfl, B3.out⟩
  have hne : encd crc l ≠ [] := fun e => by
    have := encd_len l
    rw [e] at this
    simp at this
  obtain ⟨g, cap, rfl, hg, hr8⟩ := row8_at hv8 hne (encd_bytes l)
  obtain ⟨m, hm⟩ : ∃ m, m = (body l).length := ⟨_, rfl⟩
  have hlen : (encd crc l).length = m + 4 := by rw [encd_len, hm]
  have hm30 : m ≤ 30000000000 := by have := HZ.out hmay; omega
  rw [hlen] at hr8 ⊢
  have HOp := Lib.hid (HO.out w3 g cap m hmay hm (by omega) hr8 (by omega))
  have Hm := Lib.hid hm
  have Hr8 := Lib.hid hr8
  have Hmay := Lib.hid hmay
  have hcapm := hr8.le
  have hmaxm := hr8.max
  unfold maxLen at hmaxm
  clear hb3 hm hr8 hmay hv8 hne hlen HZ
  go_wp2_with fail
  refine HOp.out.mono ?_
  clear HOp
  rintro e w4 ⟨x, rfl, hb4, hgx, o4, c4, sy, ix, hx, hr4⟩
  rw [Hl.out] at hx
  have B4 : Hid (Below w.heap.size w w4) := Lib.hid (B3.out.trans (hb4.mono (by omega)))
  have S4 := B4.out.size
  have O34 : Hid (Olds w3 w4) := Lib.hid (Olds.of_below hb4)
  have Hx := Lib.hid hx
  have Hr4 := Lib.hid hr4
  clear hb4 hx hr4 hgx
  go_wp2_with fail
  refine (len_ix Hx.out).mono ?_
  rintro e w5 ⟨rfl, hw5⟩
  rw [hw5]
  clear hw5
  go_wp2_with fail
  go_loopw [11, 12, 13, 14] (fun v iv _ _ wr => ∃ (k : Nat) (us : List (Value × Value)) (o2 : Option Addr) (c2 : Nat), k ≤ n ∧ iv = .int .i64 k ∧ v = .slice o2 k c2 ∧ AllAt wr w4.heap.size k l us (.slice o2 k c2) ∧ Below w4.heap.size w4 wr) (fun _ iv _ _ _ => n - (intOf iv).toNat)
  case atStart => exact ⟨0, [], none, 0, Nat.zero_le _, rfl, rfl, AllAt.none _ _ _, Below.refl _ _⟩
  case round =>
    obtain ⟨k, us, o2, c2, hk, rfl, rfl, hall, hb⟩ := hrel
    have Hall := Lib.hid hall
    have Hb := Lib.hid hb
    have hszr := hb.size
    have hO4 : Olds w4 wr := Olds.of_below hb
    have Hxr : Hid (wr.heap[x]? = some (.cells #[.slice o4 n c4, sy, ix] 155 (0, 0))) := Lib.hid ((hO4.2 x (Array.getElem?_eq_some_iff.1 Hx.out).1).trans Hx.out)
    have Hrr : Hid (RowsE wr o4 l) := Lib.hid (Hr4.out.olds hO4)
    have Hnk : Hid (wr.ownsRow w4.heap.size 78 2 (.slice o2 k c2) k (us.flatMap entCells)) := Lib.hid hall.row
    clear hall hb hO4
    go_wp2_with fail
    refine (len_ix Hxr.out).mono ?_
    rintro e w5 ⟨rfl, hw5⟩
    rw [hw5]
    clear hw5
    by_cases hlt : k < n
    · obtain ⟨e1, e2, he⟩ : ∃ e1 e2, l[k]? = some (e1, e2) := ⟨_, _, List.getElem?_eq_getElem (by rw [Hl.out]; exact hlt)⟩
      have hse := Hes.out _ (List.mem_of_getElem? he)
      have HEn := Lib.hid (entry_ix Hxr.out Hl.out (by omega) Hrr.out he hse)
      have He := Lib.hid he
      clear he hse
      go_wp2_with fail
      refine HEn.out.mono ?_
      clear HEn
      rintro e w6 ⟨u1, u2, rfl, q1, q2, hb6⟩
      obtain ⟨p1, d1, rfl, _⟩ := ownsRow_shape q1
      obtain ⟨p2, d2, rfl, _⟩ := ownsRow_shape q2
      generalize e1.length = m1 at *
      generalize e2.length = m2 at *
      have Hq1 := Lib.hid q1
      have Hq2 := Lib.hid q2
      have Hb6 := Lib.hid hb6
      have hs6 := hb6.size
      have HO6 : Hid (Olds wr w6) := Lib.hid (Olds.of_below hb6)
      clear q1 q2 hb6
      go_wp2_with (at_builtin; refine wpList_append_lies _ rfl _ _ _ rfl w4.heap.size 78 i1 _ 2 48 Tryz.underlying22 hi1 hy0 hy1 hy2 rfl (by decide) (.slice o2 k c2) k (us.flatMap entCells) rfl (ownsRow_olds Hnk.out (HO6.out.trans ((Olds.alloc _ _).trans (Olds.alloc _ _)))) ⟨w6.heap.size + 1, 0, none⟩ 1 1 [.slice p1 m1 d1, .slice p2 m2 d2] rfl rfl (World.news_of_block (cs := #[.slice p1 m1 d1, .slice p2 m2 d2]) (t := 78) (fr := (0, 0)) (by have h9 := heap_alloc_new (w6.alloc (.cells #[.slice p1 m1 d1, .slice p2 m2 d2] 78)) (.cells #[.slice p1 m1 d1, .slice p2 m2 d2] 78); rw [World.size_alloc] at h9; exact h9)) (by simp [Value.oneCell']) Nat.one_pos (by unfold maxLen; omega) (by omega) (by simp; omega) (w6.heap.size + 1 + 1) (by simp) ?_; intro gg cap2 w7 hown7 hgrow7 hat7 hlt7; have Hown7 := Lib.hid hown7; have Hgrow7 := Lib.hid hgrow7; clear hown7 hgrow7 hat7)
      have HA7 : Hid (AllAt w7 w4.heap.size (k + 1) l (us ++ [(.slice p1 m1 d1, .slice p2 m2 d2)]) (.slice (some ⟨gg, 0, none⟩) (k + 1) cap2)) := Lib.hid (Hall.out.step hszr HO6.out ((Olds.alloc _ _).trans (Olds.alloc _ _)) Hq1.out Hq2.out He.out Hgrow7.out Hown7.out)
      have HB7 : Hid (Below w4.heap.size w4 w7) := Lib.hid (((((Hb.out.trans (Hb6.out.mono hszr)).alloc (by omega) _).alloc (by simp; omega) _).grown Hgrow7.out (by simp; omega) (fun b hb => (ownsRow_block Hnk.out hb).1)))
      go_roundw
      case rel => exact ⟨k + 1, _, _, _, by omega, by go_num, rfl, HA7.out, HB7.out⟩
      case measure => simp [intOf]; omega
    · obtain rfl : k = n := by omega
      have HOw : Hid (OwnsE wr w4.heap.size (.slice o2 k c2) l) := Lib.hid (Hall.out.owns Hl.out.symm)
      have B5 : Hid (Below w.heap.size w wr) := Lib.hid (B4.out.trans (Hb.out.mono S4))
      have O3 : Hid (Olds w3 wr) := Lib.hid (O34.out.trans (Olds.of_below Hb.out))
      clear Hall Hnk Hxr Hrr hlt
      go_upto_region 16 with fail
      have hD1 : at_.tmod (8 * ((m : Int) + 4)) < 8 * ((m : Int) + 4) := Int.tmod_lt_of_pos _ (by omega)
      have hD2 : -(8 * ((m : Int) + 4)) < at_.tmod (8 * ((m : Int) + 4)) := Int.lt_tmod_of_pos _ (by omega)
      generalize at_.tmod (8 * ((m : Int) + 4)) = r at *
      go_upto_if 76 with fail
      go_cut [15, 76] from 77 to 81 (fun t15 _ wx => (∃ f : Nat, t15 = .int .i64 f ∧ f < 8 * (m + 4)) ∧ wx = wr)
      case first =>
        by_cases hr0 : r < 0
        · go_wp2_with fail
          go_meet
          case rel => exact ⟨⟨(r + 8 * ((m : Int) + 4)).toNat, by rw [Int.toNat_of_nonneg (by omega)], by omega⟩, rfl⟩
        · go_wp2_with fail
          go_meet
          case rel => exact ⟨⟨r.toNat, by rw [Int.toNat_of_nonneg (by omega)], by omega⟩, rfl⟩
      case rest =>
      obtain ⟨⟨f, rfl, hf⟩, rfl⟩ := hcut
      clear hD1 hD2
      obtain ⟨i5, hi5, hz50, hz51, hz52⟩ := info_parts Tryz.info5
      have Hr8w : Hid (Row8At wc g (m + 4) cap (encd crc l)) := Lib.hid (Hr8.out.olds O3.out)
      have hwcs : w.heap.size ≤ wc.heap.size := B5.out.size
      go_wp2_with (at_builtin; refine wpList_append_flat rfl _ _ rfl Tryz.underlying25 size5 hi5 hz50 hz51 hz52 rfl (by decide) (by decide) wc.heap.size 0 (m + 4) (.slice none 0 0) (.slice (some ⟨g, 0, none⟩) (m + 4) cap) [] (octs (encd crc l)) rfl rfl (World.ownsRow_nil _ _ _ _) (Nat.le_refl _) (by have h9 := row8_bytes Hr8w.out (Olds.refl _); unfold BytesAt at h9; rwa [Hr8w.out.len] at h9) (by rw [octs_len, Hr8w.out.len, Nat.mul_one]) (fun x hx => by obtain ⟨y, _, rfl⟩ := List.mem_map.1 hx; rfl) (by omega) ?_; intro v1 w1' hown1 hgrow1 hat1; rw [Nat.zero_add, List.nil_append] at hown1; obtain ⟨gg, cc, hv1, _⟩ := own_some hown1 (by omega); subst hv1; have Hown1 := Lib.hid hown1; have HB1 : Hid (Below wc.heap.size wc w1') := Lib.hid ((Below.refl _ _).grown hgrow1 (Nat.le_refl _) (fun b hb => by cases hb)); clear hown1 hgrow1 hat1)
      have B6 : Hid (Below w.heap.size w w1') := Lib.hid (B5.out.trans (HB1.out.mono hwcs))
      have hw1s := HB1.out.size
      obtain ⟨N, hN⟩ : ∃ N, N = m + 4 := ⟨_, rfl⟩
      go_loopw [17, 18, 19] (fun tv iv _ wr => ∃ (k : Nat) (t : List Nat), k ≤ 32 ∧ iv = .int .i64 k ∧ tv = .bool (decide (turnedTo mk f (8 * (m + 4)) k ≠ 0)) ∧ (∀ x ∈ t, x < 256) ∧ t.length = m + 4 ∧ back t = back (encd crc l) ^^^ (2 ^ f * turnedTo mk f (8 * (m + 4)) k) ∧ wr.ownsRow wc.heap.size 5 1 (.slice (some ⟨gg, 0, none⟩) (m + 4) cc) (m + 4) (octs t) ∧ Below wc.heap.size wc wr) (fun _ iv _ _ => 32 - (intOf iv).toNat)
      case atStart => exact ⟨0, encd crc l, Nat.zero_le _, rfl, by simp [turnedTo], encd_bytes l, Hr8w.out.len, by simp [turnedTo], Hown1.out, HB1.out⟩
      case round =>
        obtain ⟨k', t, hk', rfl, rfl, hby, hlen, hbk, hown, hb⟩ := hrel
        have Hby := Lib.hid hby
        have Hlen := Lib.hid hlen
        have Hbk := Lib.hid hbk
        have Hown := Lib.hid hown
        have Hb := Lib.hid hb
        clear hby hlen hbk hown hb
        by_cases hlt : k' < 32
        · have hkb : (mk / 2 ^ k') < 4294967296 := Nat.lt_of_le_of_lt (Nat.div_le_self _ _) Hmk.out
          have hbits : bits .and .u32 ((mk : Int) / 2 ^ k') 1 = ((mk / 2 ^ k' % 2 : Nat) : Int) := by
            have h9 := bits_and_u32 (mk / 2 ^ k') 1 hkb (by decide)
            rw [and1] at h9
            push_cast at h9 ⊢
            exact h9
          have htb : mk.testBit k' = decide (mk / 2 ^ k' % 2 = 1) := Nat.testBit_eq_decide_div_mod_eq
          by_cases hon : mk / 2 ^ k' % 2 = 1 ∧ f + k' < 8 * (m + 4)
          · obtain ⟨hon1, hon2⟩ := hon
            have hj : (f + k') / 8 < t.length := by rw [Hlen.out]; omega
            have hb1 : bits .and .u32 ((mk : Int) / 2 ^ k') 1 = 1 := by rw [hbits, hon1]; rfl
            have HT1 := Lib.hid (turned_put (mask := mk) (b := encd crc l) Hby.out (by rw [Hlen.out, Hr8w.out.len]) (by rw [Hr8w.out.len]; exact Hbk.out) (by rw [Hr8w.out.len]; exact ⟨by rw [htb]; exact decide_eq_true hon1, hon2⟩) hj)
            have Hne1 : Hid (turnedTo mk f (8 * (m + 4)) (k' + 1) ≠ 0) := Lib.hid (turned_step_ne ⟨by rw [htb]; exact decide_eq_true hon1, hon2⟩)
            obtain ⟨y, hy⟩ : ∃ y, y = t[(f + k') / 8] := ⟨_, rfl⟩
            have hy256 : y < 256 := hy ▸ Hby.out _ (List.getElem_mem hj)
            have hcy : wr.cell? ⟨gg, (f + k') / 8, none⟩ = some (.int .u8 (y : Int)) := by
              have h9 := ownsRow_cell Hown.out ((f + k') / 8) (.int .u8 (y : Int)) (by
                unfold octs
                rw [List.getElem?_map, List.getElem?_eq_getElem hj, ← hy]
                rfl)
              rwa [Nat.zero_add] at h9
            clear hbits htb
            have Hy := Lib.hid hy
            clear hy
            have hfz := (row_at8 Hown.out Hby.out).2.2 ((f + k') / 8)
            go_wp2_with fail
            go_roundw
            case rel => exact ⟨k' + 1, t.set ((f + k') / 8) (y ^^^ 2 ^ ((f + k') % 8)), by omega, by go_num, by simp [Hne1.out], by rw [Hy.out]; exact HT1.out.2, by rw [List.length_set, Hlen.out], by rw [Hy.out, HT1.out.1, Hr8w.out.len], by rw [xor_put y (f + k') hy256]; exact owns_put Hown.out, Hb.out.setCell (p := ⟨gg, (f + k') / 8, none⟩) (ownsRow_block Hown.out rfl).1 _⟩
            case measure => simp [intOf]; omega
          · have HT2 : Hid (turnedTo mk f (8 * (m + 4)) (k' + 1) = turnedTo mk f (8 * (m + 4)) k') := Lib.hid (turned_step_no fun h => hon ⟨by have := h.1; rw [htb] at this; exact of_decide_eq_true this, h.2⟩)
            have HRel := Lib.hid (show ∃ (k : Nat) (t : List Nat), k ≤ 32 ∧ ((k' : Int) + 1 = (k : Int)) ∧ turnedTo mk f (8 * (m + 4)) k = turnedTo mk f (8 * (m + 4)) k' ∧ (∀ x ∈ t, x < 256) ∧ t.length = m + 4 ∧ back t = back (encd crc l) ^^^ (2 ^ f * turnedTo mk f (8 * (m + 4)) k) ∧ wr.ownsRow wc.heap.size 5 1 (.slice (some ⟨gg, 0, none⟩) (m + 4) cc) (m + 4) (octs t) ∧ Below wc.heap.size wc wr from ⟨k' + 1, t, by omega, by push_cast; rfl, HT2.out, Hby.out, Hlen.out, by rw [HT2.out]; exact Hbk.out, Hown.out, Hb.out⟩)
            have hon' : mk / 2 ^ k' % 2 = 1 → 8 * (m + 4) ≤ f + k' := fun h => by
              rcases Nat.lt_or_ge (f + k') (8 * (m + 4)) with h2 | h2
              · exact absurd ⟨h, h2⟩ hon
              · exact h2
            by_cases hon1 : mk / 2 ^ k' % 2 = 1
            · have hb1 : bits .and .u32 ((mk : Int) / 2 ^ k') 1 = 1 := by rw [hbits, hon1]; rfl
              have hge := hon' hon1
              clear hbits htb hon hon'
              go_wp2_with fail
              go_roundw
              case rel =>
                obtain ⟨k, t, h1, h2, h3, h4⟩ := HRel.out
                exact ⟨k, t, h1, by first | exact congrArg _ h2 | (rw [← h2]), by (rw [h3]; try simp), h4⟩
              case measure => simp [intOf]; omega
            · have hb1 : ¬ bits .and .u32 ((mk : Int) / 2 ^ k') 1 = 1 := by rw [hbits]; omega
              clear hbits htb hon hon'
              go_wp2_with fail
              go_roundw
              case rel =>
                obtain ⟨k, t, h1, h2, h3, h4⟩ := HRel.out
                exact ⟨k, t, h1, by first | exact congrArg _ h2 | (rw [← h2]), by (rw [h3]; try simp), h4⟩
              case measure => simp [intOf]; omega
        · obtain rfl : k' = 32 := by omega
          have hrt := (row_at8 Hown.out Hby.out).1
          have hgood := turned_good (encd_bytes l) Hby.out (by rw [Hlen.out, Hr8w.out.len]) (by rw [Hr8w.out.len]; omega) Hbk.out (turned_lt mk f (8 * (m + 4)) 32) (by rw [Hr8w.out.len]; omega) (encd_good l)
          have hsame : turnedTo mk f (8 * (m + 4)) 32 = 0 → t = encd crc l := fun h => back_inj Hby.out (encd_bytes l) (by rw [Hlen.out, Hr8w.out.len]) (by rw [Hbk.out, h]; simp)
          have hszw := Hb.out.size
          have B7 : Hid (Below w.heap.size w wr) := Lib.hid (B5.out.trans (Hb.out.mono hwcs))
          obtain ⟨o', c', e', _, hrows⟩ := HOw.out.rows
          simp only [Value.slice.injEq] at e'
          obtain ⟨rfl, hkl, rfl⟩ := e'
          clear hkl
          have Hra : Hid (RowsE wr o2 l) := Lib.hid (hrows.olds (Olds.of_below Hb.out))
          clear hrows hlt
          by_cases h0 : turnedTo mk f (8 * (m + 4)) 32 = 0
          · have hO := Lib.hid (HO.out wr gg cc m Hmay.out Hm.out (by omega) (hsame h0 ▸ hrt) (by omega))
            clear hrt hgood hsame Hbk
            generalize turnedTo mk f (8 * (m + 4)) 32 = T at *
            subst h0
            go_wp2_with fail
            refine hO.out.mono ?_
            rintro e w6 ⟨x2, rfl, hb6, _, _⟩
            have B8 : Hid (Below w.heap.size w w6) := Lib.hid (B7.out.trans (hb6.mono (by omega)))
            have Hra6 : Hid (RowsE w6 o2 l) := Lib.hid (Hra.out.olds (Olds.of_below hb6))
            clear hb6
            go_wp2_with fail
            refine (same_entries o2 o k c2 c l w6 Hl.out h60 Hes.out Hra6.out (Hc.out.olds (Olds.of_below B8.out))).mono ?_
            rintro e w7 ⟨rfl, q7, rfl⟩
            have B9 : Hid (Below w.heap.size w (w6.drewN q7)) := Lib.hid (B8.out.trans ⟨rfl, rfl, rfl, Nat.le_refl _, fun _ _ => rfl⟩)
            generalize w6.drewN q7 = w7 at *
            go_wp2_with fail
            go_ret
            exact ⟨rfl, B9.out⟩
          · have hO := Lib.hid (open_bad HH.out hrt (by omega) (by omega) (fun h => h0 (hgood.1 h)))
            clear hrt hgood hsame Hbk
            generalize turnedTo mk f (8 * (m + 4)) 32 = T at *
            have hT : (T = 0) = False := eq_false h0
            go_wp2_with fail
            refine hO.out.mono ?_
            rintro e w6 ⟨rfl, hb6⟩
            have B8 : Hid (Below w.heap.size w w6) := Lib.hid (B7.out.trans (hb6.mono (by omega)))
            have Hra6 : Hid (RowsE w6 o2 l) := Lib.hid (Hra.out.olds (Olds.of_below hb6))
            clear hb6
            go_wp2_with fail
            refine (same_entries o2 o k c2 c l w6 Hl.out h60 Hes.out Hra6.out (Hc.out.olds (Olds.of_below B8.out))).mono ?_
            rintro e w7 ⟨rfl, q7, rfl⟩
            have B9 : Hid (Below w.heap.size w (w6.drewN q7)) := Lib.hid (B8.out.trans ⟨rfl, rfl, rfl, Nat.le_refl _, fun _ _ => rfl⟩)
            generalize w6.drewN q7 = w7 at *
            go_wp2_with fail
            go_ret
            exact ⟨rfl, B9.out⟩
end Go.Proofs.YtaoggppfimfhbaaGreatDoor
