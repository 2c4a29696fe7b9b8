/- Contracts over this program. Their conditions: the slices read as the lists that are named, and lie within the sizes that are named. -/
import Derived.Test.YtaoggppfimfhbaaGreatDoorNg
import Derived.Test.YtaoggppfimfhbaaGreatDoorNf
import Derived.Test.YtaoggppfimfhbaaGreatDoorNe
import Derived.Test.YtaoggppfimfhbaaGreatDoorNa
import Derived.Test.YtaoggppfimfhbaaGreatDoorNc
import Derived.Lib.SlBytesConst
set_option linter.unusedSimpArgs false
set_option linter.unusedVariables false
set_option linter.deprecated false
set_option linter.unnecessarySimpa false
namespace Go.Proofs.YtaoggppfimfhbaaGreatDoor
open Go Go.RowKit Go.Ix Go.Maps

theorem body_bound {l : List Ent} (hmay : May l) (hL : lblsOf l ≤ 4000) (h60 : l.length ≤ 60) (hch : ∀ e ∈ l, e.2.length ≤ 4000) : (symbols l).length ≤ 8000 ∧ ∀ k, (entsPart (symbols l) l k).length ≤ 15000000 := by
  have hsl : (symbols l).length ≤ 8000 := by
    have h1 := rise_len (texts l)
    have h2 := texts_len l
    unfold symbols
    omega
  refine ⟨hsl, fun k => ?_⟩
  have h1 := entsPart_len (ss := symbols l) (l := l) (fun s hs => (sym_ok hmay hs).2) (ent_sizes hch hmay) k
  omega

theorem Buf.at {w : World} {B blk : Nat} {K : Nat → Prop} {sy nm : Value} {bs : List Nat} (h : Buf w B blk K sy nm bs) : ∃ v, w.cell? ⟨blk, 0, none⟩ = some v ∧ Row8 w B v bs ∧ BytesAt w v bs := by
  obtain ⟨_, _, v, h3, h4, _⟩ := h
  refine ⟨v, by simp [World.cell?, h3], h4, ?_⟩
  have h5 := h4
  unfold Row8 at h5
  obtain ⟨o, c, rfl, _⟩ := ownsRow_shape h5
  exact owns_flat h5

theorem crc_lt {l : List Nat} (hl : ∀ x ∈ l, x < 256) : crc l < 4294967296 := by
  unfold crc
  have := Nat.xor_lt_two_pow (n := 32) (show 4294967295 < 2 ^ 32 by decide) (feed_lt (d := 4294967295) l (by decide) hl)
  simpa using this

theorem conv25 (W : World) : (convert 25 25 (.slice (some ⟨W.heap.size, 0, none⟩) 4 4)).run Tryz.prog (W.alloc (.cells #[.int .u8 66, .int .u8 71, .int .u8 73, .int .u8 88] 5)) = .ok (.slice (some ⟨W.heap.size, 0, none⟩) 4 4) (W.alloc (.cells #[.int .u8 66, .int .u8 71, .int .u8 73, .int .u8 88] 5 (4, 5))) :=
  Lib.run_convert_bytes_const W 25 5 #[.int .u8 66, .int .u8 71, .int .u8 73, .int .u8 88] 4 4 Tryz.underlying25 Tryz.underlying5

set_option maxRecDepth 20000 in
set_option maxHeartbeats 1000000 in
theorem pencode_rows (hH : HalfOk) (o : Option Addr) (c : Nat) (l : List Ent) (w : World) (hw8 : 8 ≤ w.heap.size) (hs : Small l) (hL : lblsOf l ≤ 4000) (h60 : l.length ≤ 60) (hch : ∀ e ∈ l, e.2.length ≤ 4000) (hc : RowsE w o l) : Calls Tryz.prog 7 #[.slice o l.length c] w (EncEnd l w) := by
  have Hc := Lib.hid hc
  have Hs := Lib.hid hs
  have HL := Lib.hid hL
  have Hch := Lib.hid hch
  have HM := Lib.hid (pmay_rows o c l w hs hc)
  have HH := Lib.hid hH
  clear hc hs hL hch hH
  by_cases hmay : May l
  · have Hmay := Lib.hid hmay
    obtain ⟨hsl, hbd⟩ := body_bound hmay HL.out h60 Hch.out
    have Hbd := Lib.hid hbd
    have Hsok : Hid (∀ s ∈ symbols l, s.length ≤ 1024) := Lib.hid (fun s hs => (sym_ok Hmay.out hs).2)
    have HG60 : Hid (∀ p, ∀ z ∈ grp (seqs (symbols l) l) p, z < l.length) := Lib.hid (fun p z hz => (grp_bound Hmay.out p).2 z hz)
    have Hbody : Hid (body l = entsPart (symbols l) l l.length ++ postPart (symbols l).length (grp (seqs (symbols l) l))) := Lib.hid (body_eq l)
    have Hsz := Lib.hid (ent_sizes Hch.out Hmay.out)
    clear hmay hbd
    generalize hm : l.length = m at *
    have Hm := Lib.hid hm
    clear hm
    go_enter Tryz.func7, Tryz.ntmps7
    go_upto_region 4 with (go_at_call 21; refine HM.out.mono ?_; clear HM; rintro e w1 ⟨hsay, b1⟩; have B1 := Lib.hid b1; have hs1 := b1.size; have hcv := conv25 w1; clear b1; rcases hsay with ⟨rfl, hname⟩ | ⟨rfl, hname⟩; rotate_left; exact absurd Hmay.out hname)
    obtain ⟨w2, hw2⟩ : ∃ w2 : World, w2 = ((w1.alloc (.cells #[.int .u8 66, .int .u8 71, .int .u8 73, .int .u8 88] 5 (4, 5))).alloc (.cells #[.slice (some ⟨w1.heap.size, 0, none⟩) 4 4, .slice none 0 0, .map none] 93)) := ⟨_, rfl⟩
    rw [← hw2]
    clear hcv
    have hw2s : w2.heap.size = w1.heap.size + 2 := by rw [hw2]; simp
    obtain ⟨K, hK⟩ : ∃ K : Nat → Prop, K = fun b => b < w.heap.size := ⟨_, rfl⟩
    have HKd : Hid (∀ b, K b ↔ b < w.heap.size) := Lib.hid (fun b => by rw [hK])
    have Hodd : Hid (OddBuf w2 w.heap.size (w1.heap.size + 1) K (.slice none 0 0) (.map none) magic) := Lib.hid (by
      refine ⟨by omega, fun h => by have := (HKd.out _).1 h; omega, w1.heap.size, ?_, ?_, by omega, fun h => by have := (HKd.out _).1 h; omega⟩
      · rw [hw2]
        have h9 := heap_alloc_new (w1.alloc (.cells #[.int .u8 66, .int .u8 71, .int .u8 73, .int .u8 88] 5 (4, 5))) (.cells #[.slice (some ⟨w1.heap.size, 0, none⟩) 4 4, .slice none 0 0, .map none] 93)
        rw [World.size_alloc] at h9
        exact h9
      · rw [hw2]
        exact (Below.heap_alloc _ _ w1.heap.size (by simp)).trans (heap_alloc_new w1 _))
    have Hb2 : Hid (Below w.heap.size w w2) := Lib.hid (by
      rw [hw2]
      exact (B1.out.alloc hs1 _).alloc (by simp; omega) _)
    have Hkw2 : Hid (Kept K w w2) := Lib.hid (Kept.of_below Hb2.out fun b hb => (HKd.out b).1 hb)
    have HT := Lib.hid (table_any (w := w2) (B := w.heap.size) (K := K) o m c l Hm.out Hs.out HL.out (Hc.out.olds (Olds.of_below Hb2.out)) Hsok.out (by omega) (fun b hb => by have := (HKd.out b).1 hb; omega) (.inl Hodd.out) (by decide))
    clear hw2 hK
    generalize hblk : w1.heap.size + 1 = blk at *
    obtain ⟨Q, HQ⟩ : ∃ Q : Value → Nat → Nat → Prop, Hid (∀ sv mb b, Q sv mb b ↔ ((K b ∨ sv.ownBlock = some b) ∨ b = mb)) := ⟨fun sv mb b => ((K b ∨ sv.ownBlock = some b) ∨ b = mb), Lib.hid fun _ _ _ => Iff.rfl⟩
    have HCn : Hid (∀ (W : World) (K2 : Nat → Prop) (sv nm : Value), Buf W w.heap.size blk K2 sv nm (magic ++ low 4 (symbols l).length ++ symPart (symbols l)) → (∀ b, K2 b → b < W.heap.size) → w.heap.size ≤ W.heap.size → Calls Tryz.prog 23 #[.pointer (some ⟨blk, 0, none⟩), .int .i64 (m : Nat)] W fun e w' => e = .returned (.tuple #[]) ∧ Buf w' w.heap.size blk K2 sv nm (magic ++ low 4 (symbols l).length ++ symPart (symbols l) ++ low 4 m) ∧ Kept K2 W w') := Lib.hid (fun W K2 sv nm h1 h2 h3 => count_any m h1 h2 h3 (by omega) (by
      have h4 := Hbd.out 0
      rw [entsPart_zero] at h4
      unfold headPart at h4
      rw [List.take_length, List.length_append] at h4
      omega))
    have He0 : Hid (magic ++ low 4 (symbols l).length ++ symPart (symbols l) ++ low 4 m = entsPart (symbols l) l 0) := Lib.hid (by
      rw [entsPart_zero, Hm.out]
      unfold headPart
      rw [List.take_length])
    go_wp2_with (first
      | (go_at_call 22; refine HT.out.mono ?_; clear HT; rintro e w3 ⟨rfl, sv, mb, hb3, hk3, hn3, hk3b⟩; have Hb3 : Hid (Buf w3 w.heap.size blk (Q sv mb) sv (.map (some mb)) _) := Lib.hid (hb3.less fun b hb => (HQ.out sv mb b).1 hb); have Hk3 := Lib.hid hk3; have Hn3 := Lib.hid hn3; have Hk3b : Hid (∀ b, Q sv mb b → b < w3.heap.size) := Lib.hid (fun b hb => hk3b b ((HQ.out sv mb b).1 hb)); have hs3 := hk3.size; clear hb3 hk3 hn3 hk3b)
      | (go_at_call 23; refine (HCn.out w3 (Q sv mb) sv (.map (some mb)) Hb3.out Hk3b.out (by omega)).mono ?_; rintro e w4 ⟨rfl, hb4, hk4⟩; rw [He0.out] at hb4; have Hb4 := Lib.hid hb4; have Hk4 := Lib.hid hk4; clear hb4 hk4))
    have HQ0 : Hid (∀ b, b < w.heap.size → Q sv mb b) := Lib.hid (fun b hb => (HQ.out sv mb b).2 (.inl (.inl ((HKd.out b).2 hb))))
    have HQm : Hid (Q sv mb mb) := Lib.hid ((HQ.out sv mb mb).2 (.inr rfl))
    generalize Q sv mb = K2 at *
    have Hbw : Hid (∀ W, Kept K2 w3 W → Below w.heap.size w W) := Lib.hid (fun W hW => (Hb2.out.trans (Hk3.out.below fun b hb => (HKd.out b).2 hb)).trans (hW.below HQ0.out))
    have Hmem : Hid (∀ e ∈ l, ∀ y ∈ e.1, y.1 ∈ symbols l ∧ y.2 ∈ symbols l) := Lib.hid (fun e he y hy => texts_mem he hy)
    go_loopw [6, 24] (fun _ iv wr => ∃ k : Nat, k ≤ m ∧ iv = .int .i64 k ∧ Buf wr w.heap.size blk K2 sv (.map (some mb)) (entsPart (symbols l) l k) ∧ Kept K2 w3 wr) (fun _ iv _ => m - (intOf iv).toNat)
    case atStart => exact ⟨0, Nat.zero_le _, rfl, Hb4.out, Hk4.out⟩
    case round =>
      obtain ⟨k, hk, rfl, hbr, hkr⟩ := hrel
      have Hbr := Lib.hid hbr
      have Hkr := Lib.hid hkr
      have hszr := hkr.size
      have Hbel := Lib.hid (Hbw.out _ hkr)
      clear hbr hkr
      by_cases hlt : k < m
      · obtain ⟨b, off, e1, e2, o1, n1, c1, o2, n2, c2, rfl, hx, hc1, hc2, hl1, hl2, hr1, hr2, _⟩ := Hc.out.at (k := k) (by rw [Hm.out]; exact hlt)
        have hcr1 := (Olds.of_below Hbel.out).cell hc1
        have hcr2 := (Olds.of_below Hbel.out).cell hc2
        obtain ⟨hs64, hs40⟩ := Hsz.out _ (List.mem_of_getElem? hx)
        obtain ⟨_, _, hs3'⟩ := Hs.out.ent hx
        simp only at hs64 hs40
        have hstep : entsPart (symbols l) l (k + 1) = entsPart (symbols l) l k ++ entPart (symbols l) (e1, e2) := entsPart_step hx
        have Hstep := Lib.hid hstep
        obtain ⟨A, hA⟩ : ∃ A : World, A = wr.alloc (.cells #[.slice o1 n1 c1, .slice o2 n2 c2] 78) := ⟨_, rfl⟩
        have hOA : Olds wr A := by rw [hA]; exact Olds.alloc _ _
        have hAb : A.heap[wr.heap.size]? = some (.cells #[.slice o1 n1 c1, .slice o2 n2 c2] 78 (0, 0)) := by rw [hA]; exact heap_alloc_new _ _
        have HE := Lib.hid (entry_any (w0 := w) (w := A) (B := w.heap.size) (blk := blk) (mb := mb) (K := K2) (sy := sv) (bs := entsPart (symbols l) l k) (ss := symbols l) (e1 := e1) (e2 := e2) o1 o2 n1 c1 n2 c2 rfl (by rw [hA]; exact Hbel.out.alloc Hbel.out.size _) HQ0.out (fun b hb => by have := Hk3b.out b hb; have := hOA.1; omega) HQm.out (Hbr.out.olds hOA) ((Hn3.out.kept Hkr.out HQm.out).olds hOA) hr1 hr2 hl1 hl2 (by omega) (by omega) (fun y hy => ⟨Hmem.out _ (List.mem_of_getElem? hx) y hy, hs3' y hy⟩) hsl (Hmay.out.ent (List.mem_of_getElem? hx)).2 (by have := Hbd.out k; omega))
        have HkA : Hid (Kept K2 w3 A) := Lib.hid (by rw [hA]; exact Hkr.out.alloc Hk3b.out _)
        have z0 : A.cell? ⟨wr.heap.size, 0, none⟩ = some (.slice o1 n1 c1) := by simp only [World.cell?, hAb]; rfl
        have z1 : A.cell? ⟨wr.heap.size, 1, none⟩ = some (.slice o2 n2 c2) := by simp only [World.cell?, hAb]; rfl
        have HAe := Lib.hid hA
        clear hx hc1 hc2 hr1 hr2 hl1 hl2 hs3' hstep hOA hAb hA
        go_upto_region 9 with fail
        rw [← HAe.out]
        go_wp2_with (go_at_call 24; refine HE.out.mono ?_; clear HE; rintro e w5 ⟨rfl, hb5, hk5⟩; have Hb5 := Lib.hid hb5; have Hk5 := Lib.hid (HkA.out.trans hk5); clear hb5 hk5)
        go_roundw
        case rel => exact ⟨k + 1, by omega, by go_num, by rw [Hstep.out]; exact Hb5.out, Hk5.out⟩
        case measure => simp [intOf]; omega
      · obtain rfl : k = m := by omega
        have HP := Lib.hid (postings_any (w := wr) (B := w.heap.size) (blk := blk) (nb := mb) (K := K2) (sy := sv) (bs := entsPart (symbols l) l k) (ss := symbols l) o k c l Hm.out Hs.out HL.out (Hc.out.olds (Olds.of_below Hbel.out)) rfl hsl Hbel.out.size (fun b hb => by have := Hk3b.out b hb; omega) HQm.out Hbr.out (Hn3.out.kept Hkr.out HQm.out) (by have := Hbd.out k; omega) h60 HG60.out)
        rw [← Hbody.out] at HP
        go_upto_region 12 with (go_at_call 25; refine HP.out.mono ?_; clear HP; rintro e w6 ⟨rfl, hb6, hk6⟩; have Hb6 := Lib.hid hb6; have Hk6 := Lib.hid (Hkr.out.trans hk6); have hs6 := hk6.size; clear hb6 hk6)
        have hbl : (body l).length ≤ 20000000000 := by
          rw [Hbody.out, List.length_append]
          have h1 := Hbd.out k
          have h2 := postPart_len (n := (symbols l).length) (of := grp (seqs (symbols l) l)) (m := 60) (fun p => by have := (grp_bound Hmay.out p).1; rw [Hm.out] at this; omega)
          have h3 : (symbols l).length * (symbols l).length ≤ 8000 * 8000 := Nat.mul_le_mul hsl hsl
          have h4 : (symbols l).length * (symbols l).length * (12 + 4 * 60) ≤ 8000 * 8000 * (12 + 4 * 60) := Nat.mul_le_mul_right _ h3
          omega
        obtain ⟨v6, hc6, hr6, hby6⟩ := (Hb6.out.olds (Olds.drewN w6 1)).at
        have hX : w6.drewN 1 = w6.drew := rfl
        rw [hX] at hc6 hr6 hby6
        have hXs : w6.drew.heap.size = w6.heap.size := rfl
        have hsum := sum_any HH.out (w := w6.drew) (by rw [hXs]; omega) hby6 (by omega) (body_bytes l)
        have Hsum := Lib.hid hsum
        have hcr : crc (body l) < 4294967296 := crc_lt (body_bytes l)
        have HbX : Hid (Buf w6.drew w.heap.size blk K2 sv (.map (some mb)) (body l)) := Lib.hid (Hb6.out.olds (Olds.drewN w6 1))
        have HkX : Hid (Kept K2 w3 w6.drew) := Lib.hid (Hk6.out.drewN 1)
        have HEnc : Hid (encd crc l = body l ++ low 4 (crc (body l))) := Lib.hid rfl
        obtain ⟨o6, c6, hv6, _⟩ := ownsRow_shape (show w6.drew.ownsRow w.heap.size 5 1 v6 (body l).length (octs (body l)) from hr6)
        generalize hBl : (body l).length = bl at *
        subst hv6
        generalize hCr : crc (body l) = cr at *
        have HCr := Lib.hid hCr
        have HBl := Lib.hid hBl
        clear hr6 hby6 hsum hCr hBl hX
        have hwu : IntKind.u64.wrap (cr : Int) = (cr : Int) := by rw [IntKind.wrap_u64]; omega
        go_region_with (first
          | (go_at_call 27; refine Hsum.out.mono ?_; clear Hsum; rintro e w7 ⟨rfl, hb7⟩; have Hb7 := Lib.hid (HbX.out.olds (Olds.of_below hb7)); have Hk7 := Lib.hid (HkX.out.trans (Kept.of_below (K := K2) hb7 (fun b hb => by have := Hk3b.out b hb; have := HkX.out.size; omega))); have hs7 := hb7.size; have HL := Lib.hid (low_any (K := K2) cr 4 Hb7.out (fun b hb => by have := Hk3b.out b hb; omega) (by omega) (by omega) (by decide) (by rw [HBl.out]; omega)); clear hb7)
          | (go_at_call 26; refine HL.out.mono ?_; clear HL; rintro e w8 ⟨rfl, hb8, hk8⟩; have Hb8 := Lib.hid hb8; have Hk8 := Lib.hid (Hk7.out.trans hk8); obtain ⟨v8, hc8, hr8, _⟩ := hb8.at; have Hr8 := Lib.hid hr8; clear hb8 hk8 hr8))
        go_wp2_with fail
        go_ret2
        refine ⟨.inr ⟨Hmay.out, v8, rfl, ?_⟩, Hbw.out _ Hk8.out⟩
        rw [HEnc.out]
        exact Hr8.out
  · have Hmay := Lib.hid hmay
    clear hmay
    go_enter Tryz.func7, Tryz.ntmps7
    go_wp2_with (go_at_call 21; refine HM.out.mono ?_; clear HM; rintro e w1 ⟨hsay, b1⟩; have B1 := Lib.hid b1; clear b1; rcases hsay with ⟨rfl, hname⟩ | ⟨rfl, hname⟩; exact absurd hname Hmay.out)
    go_ret2
    exact ⟨.inl ⟨Hmay.out, rfl⟩, B1.out⟩
end Go.Proofs.YtaoggppfimfhbaaGreatDoor
