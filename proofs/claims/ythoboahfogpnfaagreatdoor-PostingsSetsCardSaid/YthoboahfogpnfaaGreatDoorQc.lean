/- The law PostingsSets, walked. Conditions: the slices read as the lists that are named, and are of less than 2 to the 47th bytes. -/
import Derived.Test.YthoboahfogpnfaaGreatDoorQb
set_option linter.unusedSimpArgs false
set_option linter.unusedVariables false
set_option linter.deprecated false
set_option linter.unnecessarySimpa false
namespace Go.Proofs.YthoboahfogpnfaaGreatDoor
open Go Go.RowKit Go.Sort Go.Lib

theorem lists_of {w W : World} {v : Value} {L : List (List Int)} (h : ListsAt w v L) (hb : Below w.heap.size w W) : ListsAt W v L := h.olds (Olds.of_below hb)
theorem at_of' {w W : World} {v : Value} {zs : List Int} (h : IntsAt w v zs) (hb : Below w.heap.size w W) : IntsAt W v zs := h.olds (Olds.of_below hb)
theorem heap_olds {a b : World} (h : b.heap = a.heap) : Olds a b := ⟨by rw [h]; exact Nat.le_refl _, fun k _ => by rw [h]⟩

set_option maxRecDepth 20000 in
set_option maxHeartbeats 4000000 in
theorem sets_small (ol oa ob : Option Addr) (cl ca cb : Nat) (L : List (List Int)) (a b : List Int) (w : World) (hw : 8 ≤ w.heap.size)
    (hl : ListsAt w (.slice ol L.length cl) L) (ha : IntsAt w (.slice oa a.length ca) a) (hb : IntsAt w (.slice ob b.length cb) b) (hL : L.length + tot L ≤ 3000) (hab : 2 + (a.length + b.length) ≤ 3000)
    (hk : ∀ W : World, 8 ≤ W.heap.size → Calls Tryz.prog 10 #[] W fun e W' => e = .returned (.bool true) ∧ Below W.heap.size W W') :
    Calls Tryz.prog 4 #[.slice ol L.length cl, .slice oa a.length ca, .slice ob b.length cb] w fun e w' => e = .returned (.bool true) ∧ Below w.heap.size w w' := by
  have Ha := Lib.hid ha
  have Hb := Lib.hid hb
  have Hl := Lib.hid hl
  have la : a.length ≤ 3000 := by omega
  have lb : b.length ≤ 3000 := by omega
  have hno : decide (3000 < 2 + (a.length + b.length)) = false := decide_eq_false (by omega)
  have hnoL : decide (3000 < L.length + tot L) = false := decide_eq_false (by omega)
  have HLs : Hid (∀ zs ∈ L, zs.length ≤ 3000) := Lib.hid (fun zs hz => by have := mem_tot hz; omega)
  have hLn : L.length ≤ 3000 := by omega
  have hLt : tot L ≤ 3000 := by omega
  have HX6 : Hid ((andL L).length ≤ 6000) := Lib.hid (by have := len_andL L; omega)
  have HY6 : Hid ((orL L).length ≤ 6000) := Lib.hid (by have := len_orL' L; omega)
  have HZ6 : Hid ((minus (norm a) (norm b)).length ≤ 6000) := Lib.hid (by have := len_minus a (norm b); omega)
  have Hk := Lib.hid hk
  have HM := Lib.hid (much_any w hl (by omega) (fun zs hz => by have := mem_tot hz; omega))
  have hab2 : ∀ zs ∈ [a, b], zs.length ≤ 3000 := by simp; omega
  have Hab2 := Lib.hid hab2
  clear ha hb hl hk hab2 hL
  generalize hXd : andL L = X at *
  generalize hYd : orL L = Y at *
  generalize hZd : minus (norm a) (norm b) = Z at *
  generalize hLl : L.length = n at *
  have HXd := Lib.hid hXd
  have HYd := Lib.hid hYd
  have HZd := Lib.hid hZd
  have HLl := Lib.hid hLl
  clear hXd hYd hZd hLl
  go_enter Tryz.func4, Tryz.ntmps4
  go_wp2_with fail
  refine HM.out.mono ?_
  rintro e w' ⟨rfl, rfl⟩
  rw [hnoL]
  go_wp2_with fail
  refine (much2 Ha.out Hb.out (by omega) (by omega)).mono ?_
  rintro e w' ⟨rfl, rfl⟩
  rw [hno]
  have B1 : Hid (Below w.heap.size w (w.alloc (.cells #[.slice oa a.length ca, .slice ob b.length cb] 22))) := Lib.hid ((Below.refl _ w).alloc (Nat.le_refl _) _)
  generalize w.alloc (.cells #[.slice oa a.length ca, .slice ob b.length cb] 22) = w1 at *
  go_wp2_with fail
  refine ((lent_lists w1 (lists_of Hl.out B1.out) (by rw [HLl.out]; omega) HLs.out).mono ?_)
  rintro e w2 ⟨ow, rfl, hlent, hb2⟩
  have S1 : w.heap.size ≤ w1.heap.size := B1.out.size
  have S2 : w1.heap.size ≤ w2.heap.size := hb2.size
  have B2 : Hid (Below w.heap.size w w2) := Lib.hid (B1.out.trans (hb2.mono S1))
  have Hlent := Lib.hid hlent
  obtain ⟨gl, capl, _, rfl, _⟩ := hlent
  rw [HLl.out] at Hlent ⊢
  clear hb2
  go_wp2_with fail
  refine ((lent_lists _ (lists_two (at_of' Ha.out B2.out) (at_of' Hb.out B2.out)) (by simp) Hab2.out).mono ?_)
  rintro e w3 ⟨tw, rfl, htwo, hb3⟩
  have S3 : w2.heap.size + 1 ≤ w3.heap.size := by have := hb3.size; simpa using this
  have Ho23 : Hid (Olds w2 w3) := Lib.hid ((Olds.alloc _ _).trans (Olds.of_below hb3))
  have B3 : Hid (Below w.heap.size w w3) := Lib.hid ((B2.out.alloc (by omega) _).trans (hb3.mono (by simp; omega)))
  have Htwo : Hid (LentLists w3 (w2.heap.size + 1) tw [a, b]) := Lib.hid (by simpa using htwo)
  have Hown3 : Hid (LentLists w3 w1.heap.size (.slice (some ⟨gl, 0, none⟩) n capl) L) := Lib.hid (Hlent.out.olds Ho23.out)
  have Hsp : Hid (Spoilable w2 w1.heap.size w2.heap.size (.slice (some ⟨gl, 0, none⟩) n capl)) := Lib.hid Hlent.out.spoilable
  have Hsp2 : Hid (Spoilable w3 (w2.heap.size + 1) w3.heap.size tw) := Lib.hid Htwo.out.spoilable
  obtain ⟨g2, cap2, u0, u1, rfl, hc0, hc1, hr0, hr1⟩ := Htwo.out.two
  have Hr0 := Lib.hid hr0
  have Hr1 := Lib.hid hr1
  have Hc0 := Lib.hid hc0
  have Hc1 := Lib.hid hc1
  clear htwo hb3 Hlent hr0 hr1 hc0 hc1
  go_wp2_with fail
  refine ((and_any w3 Hown3.out.lists.1 Hown3.out.lists.2 (by rw [HLl.out]; omega) (fun zs hz => by have := HLs.out zs hz; omega)).mono ?_)
  rintro e w4 ⟨x, rfl, hx, hb4⟩
  rw [HXd.out] at hx
  obtain ⟨xo, xc, rfl⟩ := hx.shape
  have Hx4 := Lib.hid hx
  have S4 : w3.heap.size ≤ w4.heap.size := hb4.size
  have Ho34 : Hid (Olds w3 w4) := Lib.hid (Olds.of_below hb4)
  have B4 : Hid (Below w.heap.size w w4) := Lib.hid (B3.out.trans (hb4.mono (by omega)))
  clear hx hb4
  go_wp2_with fail
  refine ((or_lent w4 (Hown3.out.olds Ho34.out) (by rw [HLl.out]; omega) hLt).mono ?_)
  rintro e w5 ⟨y, rfl, hy, hb5⟩
  rw [HYd.out] at hy
  obtain ⟨yo, yc, rfl⟩ := hy.shape
  have Hy5 := Lib.hid hy
  have S5 : w4.heap.size ≤ w5.heap.size := hb5.size
  have Ho45 : Hid (Olds w4 w5) := Lib.hid (Olds.of_below hb5)
  have Ho35 : Hid (Olds w3 w5) := Lib.hid (Ho34.out.trans Ho45.out)
  have B5 : Hid (Below w.heap.size w w5) := Lib.hid (B4.out.trans (hb5.mono (by omega)))
  clear hy hb5
  have hc0 := Ho35.out.cell Hc0.out
  have hc1 := Ho35.out.cell Hc1.out
  have HN : Hid (∀ W : World, W.heap = w5.heap → Calls Tryz.prog 8 #[u0, u1] W (Fresh Z W)) := Lib.hid (fun W hW => by
    have := not_any W (Hr0.out.ints.olds (Ho35.out.trans (heap_olds hW))) (Hr1.out.ints.olds (Ho35.out.trans (heap_olds hW))) (by omega) (by omega)
    rw [HZd.out] at this
    exact this)
  go_wp2_with fail
  have BD : Hid (Below w.heap.size w w5.drew) := Lib.hid ⟨B5.out.os, B5.out.tape, B5.out.output, B5.out.size, B5.out.block⟩
  have OD : Hid (Olds w5 w5.drew) := Lib.hid ⟨Nat.le_refl _, fun _ _ => rfl⟩
  have SD : w.heap.size ≤ w5.drew.heap.size := B5.out.size
  have HN2 : Hid (Calls Tryz.prog 8 #[u0, u1] w5.drew fun e w6 => ∃ zo zc, e = .returned (.slice zo Z.length zc) ∧ Owns w6 w5.heap.size (.slice zo Z.length zc) Z ∧ Below w.heap.size w w6 ∧ Olds w5 w6) := Lib.hid ((HN.out w5.drew rfl).mono fun e w6 h => by
    obtain ⟨z, rfl, hz, hb6⟩ := h
    obtain ⟨zo, zc, rfl⟩ := hz.shape
    exact ⟨zo, zc, rfl, hz, BD.out.trans (hb6.mono SD), OD.out.trans (Olds.of_below hb6)⟩)
  clear HN
  go_region_with (go_at_call 8; refine HN2.out.mono ?_; rintro e w6 ⟨zo, zc, rfl, hz6, b6, o56⟩)
  all_goals
    have Ho36 : Hid (Olds w3 w6) := Lib.hid (Ho35.out.trans o56)
    have Hx6 : Hid (Owns w6 w3.heap.size (.slice xo X.length xc) X) := Lib.hid (Hx4.out.olds (Ho45.out.trans o56))
    have Hy6 : Hid (Owns w6 w4.heap.size (.slice yo Y.length yc) Y) := Lib.hid (Hy5.out.olds o56)
    have Hz6 := Lib.hid hz6
    have B6 := Lib.hid b6
    have S6 : w5.heap.size ≤ w6.heap.size := o56.1
    have LX : Hid (∀ k, (Value.slice xo X.length xc).ownBlock = some k → w3.heap.size ≤ k ∧ k < w4.heap.size) := Lib.hid (fun k hk => ownsRow_block Hx4.out hk)
    have LY : Hid (∀ k, (Value.slice yo Y.length yc).ownBlock = some k → w4.heap.size ≤ k ∧ k < w5.heap.size) := Lib.hid (fun k hk => ownsRow_block Hy5.out hk)
    have LZ : Hid (∀ k, (Value.slice zo Z.length zc).ownBlock = some k → w5.heap.size ≤ k ∧ k < w6.heap.size) := Lib.hid (fun k hk => ownsRow_block hz6 hk)
    clear hz6 b6 o56 hc0 hc1 HN2
    go_wp2_with fail
    refine ((whole_lists w6 (Hown3.out.olds Ho36.out) (lists_of Hl.out B6.out) (by rw [HLl.out]; omega) HLs.out).mono ?_)
    rintro e w' ⟨rfl, q7, rfl⟩
    have B7 : Hid (Below w.heap.size w (w6.drewN q7)) := Lib.hid (below_drewN B6.out _)
    have Ho67 : Hid (Olds w6 (w6.drewN q7)) := Lib.hid (drew_olds _ _)
    have S7 : w6.heap.size = (w6.drewN q7).heap.size := rfl
    generalize w6.drewN q7 = w7 at *
    go_wp2_with fail
    refine ((whole_lists _ (Htwo.out.olds ((Ho36.out.trans Ho67.out).trans (Olds.alloc _ _))) (lists_two (at_of' Ha.out B7.out) (at_of' Hb.out B7.out)) (by simp) Hab2.out).mono ?_)
    rintro e w' ⟨rfl, q8, rfl⟩
    have B8 : Hid (Below w.heap.size w ((w7.alloc (.cells #[.slice oa a.length ca, .slice ob b.length cb] 22)).drewN q8)) := Lib.hid (below_drewN (B7.out.alloc (by have := B7.out.size; omega) _) _)
    have Ho68 : Hid (Olds w6 ((w7.alloc (.cells #[.slice oa a.length ca, .slice ob b.length cb] 22)).drewN q8)) := Lib.hid ((Ho67.out.trans (Olds.alloc _ _)).trans (drew_olds _ _))
    generalize (w7.alloc (.cells #[.slice oa a.length ca, .slice ob b.length cb] 22)).drewN q8 = w8 at *
    have Hsp8 : Hid (Spoilable w8 w1.heap.size w2.heap.size (.slice (some ⟨gl, 0, none⟩) n capl)) := Lib.hid (Hsp.out.same fun b _ hb => ((Ho23.out.trans Ho36.out).trans Ho68.out).2 b hb)
    have S68 : w6.heap.size ≤ w8.heap.size := Ho68.out.1
    go_wp2_with fail
    refine ((spoil_lists w8 Hsp8.out).mono ?_)
    rintro e w9 ⟨rfl, hw9⟩
    have Hx9 : Hid (Owns w9 w3.heap.size (.slice xo X.length xc) X) := Lib.hid (owns_within (Hx6.out.olds Ho68.out) hw9 (by omega))
    have Hy9 : Hid (Owns w9 w4.heap.size (.slice yo Y.length yc) Y) := Lib.hid (owns_within (Hy6.out.olds Ho68.out) hw9 (by omega))
    have Hz9 : Hid (Owns w9 w5.heap.size (.slice zo Z.length zc) Z) := Lib.hid (owns_within (Hz6.out.olds Ho68.out) hw9 (by omega))
    have Hsp9 : Hid (Spoilable w9 (w2.heap.size + 1) w3.heap.size (.slice (some ⟨g2, 0, none⟩) 2 cap2)) := Lib.hid (Hsp2.out.same fun b h1 h2 => (hw9.block b (.inr (by omega))).trans ((Ho36.out.trans Ho68.out).2 b h2))
    have B9 : Hid (Below w.heap.size w w9) := Lib.hid (B8.out.trans (hw9.below.mono S1))
    have S9 : w9.heap.size = w8.heap.size := hw9.size
    clear hw9
    go_wp2_with fail
    refine ((spoil_lists w9 Hsp9.out).mono ?_)
    rintro e w10 ⟨rfl, hw10⟩
    have Hx10 : Hid (Owns w10 w3.heap.size (.slice xo X.length xc) X) := Lib.hid (owns_within Hx9.out hw10 (Nat.le_refl _))
    have Hy10 : Hid (Owns w10 w4.heap.size (.slice yo Y.length yc) Y) := Lib.hid (owns_within Hy9.out hw10 (by omega))
    have Hz10 : Hid (Owns w10 w5.heap.size (.slice zo Z.length zc) Z) := Lib.hid (owns_within Hz9.out hw10 (by omega))
    have B10 : Hid (Below w.heap.size w w10) := Lib.hid (B9.out.trans (hw10.below.mono (by omega)))
    have S10 : w10.heap.size = w9.heap.size := hw10.size
    clear hw10
    go_wp2_with fail
    have hbk : w10.heap.size = w8.heap.size := by omega
    have HB0 : Hid (BookAt (w10.alloc (.cells #[.slice none 0 0, .slice none 0 0, .slice none 0 0, .slice none 0 0, .slice none 0 0, .slice none 0 0, .slice none 0 0, .slice none 0 0, .slice none 0 0, .slice none 0 0, .slice none 0 0, .slice none 0 0, .slice none 0 0, .slice none 0 0, .slice none 0 0, .slice none 0 0, .slice none 0 0, .slice none 0 0, .slice none 0 0, .slice none 0 0, .slice none 0 0, .slice none 0 0, .slice none 0 0, .slice none 0 0, .slice none 0 0, .slice none 0 0, .slice none 0 0, .slice none 0 0, .slice none 0 0, .slice none 0 0, .slice none 0 0, .slice none 0 0] 67)) w8.heap.size []) := Lib.hid ⟨.slice none 0 0, by rw [← hbk]; exact heap_alloc_new w10 _, ⟨rfl, .inl ⟨rfl, rfl⟩⟩⟩
    have B11 : Hid (Below w.heap.size w (w10.alloc (.cells #[.slice none 0 0, .slice none 0 0, .slice none 0 0, .slice none 0 0, .slice none 0 0, .slice none 0 0, .slice none 0 0, .slice none 0 0, .slice none 0 0, .slice none 0 0, .slice none 0 0, .slice none 0 0, .slice none 0 0, .slice none 0 0, .slice none 0 0, .slice none 0 0, .slice none 0 0, .slice none 0 0, .slice none 0 0, .slice none 0 0, .slice none 0 0, .slice none 0 0, .slice none 0 0, .slice none 0 0, .slice none 0 0, .slice none 0 0, .slice none 0 0, .slice none 0 0, .slice none 0 0, .slice none 0 0, .slice none 0 0, .slice none 0 0] 67))) := Lib.hid (B10.out.alloc (by omega) _)
    have HxO : Hid (Owns (w10.alloc (.cells #[.slice none 0 0, .slice none 0 0, .slice none 0 0, .slice none 0 0, .slice none 0 0, .slice none 0 0, .slice none 0 0, .slice none 0 0, .slice none 0 0, .slice none 0 0, .slice none 0 0, .slice none 0 0, .slice none 0 0, .slice none 0 0, .slice none 0 0, .slice none 0 0, .slice none 0 0, .slice none 0 0, .slice none 0 0, .slice none 0 0, .slice none 0 0, .slice none 0 0, .slice none 0 0, .slice none 0 0, .slice none 0 0, .slice none 0 0, .slice none 0 0, .slice none 0 0, .slice none 0 0, .slice none 0 0, .slice none 0 0, .slice none 0 0] 67)) w3.heap.size (.slice xo X.length xc) X ∧ Owns (w10.alloc (.cells #[.slice none 0 0, .slice none 0 0, .slice none 0 0, .slice none 0 0, .slice none 0 0, .slice none 0 0, .slice none 0 0, .slice none 0 0, .slice none 0 0, .slice none 0 0, .slice none 0 0, .slice none 0 0, .slice none 0 0, .slice none 0 0, .slice none 0 0, .slice none 0 0, .slice none 0 0, .slice none 0 0, .slice none 0 0, .slice none 0 0, .slice none 0 0, .slice none 0 0, .slice none 0 0, .slice none 0 0, .slice none 0 0, .slice none 0 0, .slice none 0 0, .slice none 0 0, .slice none 0 0, .slice none 0 0, .slice none 0 0, .slice none 0 0] 67)) w4.heap.size (.slice yo Y.length yc) Y ∧ Owns (w10.alloc (.cells #[.slice none 0 0, .slice none 0 0, .slice none 0 0, .slice none 0 0, .slice none 0 0, .slice none 0 0, .slice none 0 0, .slice none 0 0, .slice none 0 0, .slice none 0 0, .slice none 0 0, .slice none 0 0, .slice none 0 0, .slice none 0 0, .slice none 0 0, .slice none 0 0, .slice none 0 0, .slice none 0 0, .slice none 0 0, .slice none 0 0, .slice none 0 0, .slice none 0 0, .slice none 0 0, .slice none 0 0, .slice none 0 0, .slice none 0 0, .slice none 0 0, .slice none 0 0, .slice none 0 0, .slice none 0 0, .slice none 0 0, .slice none 0 0] 67)) w5.heap.size (.slice zo Z.length zc) Z) := Lib.hid ⟨Hx10.out.olds (Olds.alloc _ _), Hy10.out.olds (Olds.alloc _ _), Hz10.out.olds (Olds.alloc _ _)⟩
    have S11 : w8.heap.size + 1 = (w10.alloc (.cells #[.slice none 0 0, .slice none 0 0, .slice none 0 0, .slice none 0 0, .slice none 0 0, .slice none 0 0, .slice none 0 0, .slice none 0 0, .slice none 0 0, .slice none 0 0, .slice none 0 0, .slice none 0 0, .slice none 0 0, .slice none 0 0, .slice none 0 0, .slice none 0 0, .slice none 0 0, .slice none 0 0, .slice none 0 0, .slice none 0 0, .slice none 0 0, .slice none 0 0, .slice none 0 0, .slice none 0 0, .slice none 0 0, .slice none 0 0, .slice none 0 0, .slice none 0 0, .slice none 0 0, .slice none 0 0, .slice none 0 0, .slice none 0 0] 67)).heap.size := by simp; omega
    generalize w10.alloc (.cells #[.slice none 0 0, .slice none 0 0, .slice none 0 0, .slice none 0 0, .slice none 0 0, .slice none 0 0, .slice none 0 0, .slice none 0 0, .slice none 0 0, .slice none 0 0, .slice none 0 0, .slice none 0 0, .slice none 0 0, .slice none 0 0, .slice none 0 0, .slice none 0 0, .slice none 0 0, .slice none 0 0, .slice none 0 0, .slice none 0 0, .slice none 0 0, .slice none 0 0, .slice none 0 0, .slice none 0 0, .slice none 0 0, .slice none 0 0, .slice none 0 0, .slice none 0 0, .slice none 0 0, .slice none 0 0, .slice none 0 0, .slice none 0 0] 67) = w11 at *
    refine ((book_ints w11 HB0.out (by simp)).mono ?_)
    rintro e w12 ⟨rfl, hbook, hbb⟩
    have HB1 : Hid (BookAt w12 w8.heap.size [(.slice xo X.length xc)]) := Lib.hid hbook
    have BB1 : Hid (Below w8.heap.size w11 w12) := Lib.hid hbb
    clear hbook hbb
    go_wp2_with fail
    refine ((book_ints w12 HB1.out (by simp)).mono ?_)
    rintro e w13 ⟨rfl, hbook, hbb⟩
    have HB2 : Hid (BookAt w13 w8.heap.size [(.slice xo X.length xc), (.slice yo Y.length yc)]) := Lib.hid hbook
    have BB2 : Hid (Below w8.heap.size w12 w13) := Lib.hid hbb
    clear hbook hbb
    go_wp2_with fail
    refine ((book_ints w13 HB2.out (by simp)).mono ?_)
    rintro e w14 ⟨rfl, hbook, hbb⟩
    have HB3 : Hid (BookAt w14 w8.heap.size [(.slice xo X.length xc), (.slice yo Y.length yc), (.slice zo Z.length zc)]) := Lib.hid hbook
    have BB3 : Hid (Below w8.heap.size w13 w14) := Lib.hid hbb
    clear hbook hbb
    go_wp2_with fail
    have BB : Hid (Below w8.heap.size w11 w14) := Lib.hid ((BB1.out.trans BB2.out).trans BB3.out)
    have B14 : Hid (Below w.heap.size w w14) := Lib.hid (B11.out.trans (BB.out.mono (by omega)))
    have S14 : w11.heap.size ≤ w14.heap.size := BB.out.size
    have Hx14 : Hid (Owns w14 w3.heap.size (.slice xo X.length xc) X) := Lib.hid (owns_below HxO.out.1 BB.out (fun k hk => by have := LX.out k hk; omega))
    have Hy14 : Hid (Owns w14 w4.heap.size (.slice yo Y.length yc) Y) := Lib.hid (owns_below HxO.out.2.1 BB.out (fun k hk => by have := LY.out k hk; omega))
    have Hz14 : Hid (Owns w14 w5.heap.size (.slice zo Z.length zc) Z) := Lib.hid (owns_below HxO.out.2.2 BB.out (fun k hk => by have := LZ.out k hk; omega))
    have W14 : Hid (BookAt w14 w8.heap.size [.slice xo X.length xc, .slice yo Y.length yc, .slice zo Z.length zc]) := HB3
    clear HB0 HB1 HB2 HB3 BB1 BB2 BB3 HxO
    have Oc0 : Hid (Olds w14 w14) := Lib.hid (Olds.refl _)
    have h814 : 8 ≤ w14.heap.size := by omega
    have Bc0 := B14
    refine ((ref_and w14 (lists_of Hl.out Bc0.out) (by rw [HLl.out]; omega) HLs.out).mono ?_)
    rintro e v0 ⟨r0, rfl, hr, hb⟩
    rw [HXd.out] at hr
    obtain ⟨r0o, r0c, rfl⟩ := hr.shape
    have Hr0 := Lib.hid hr.ints
    have Oa0 : Hid (Olds w14 v0) := Lib.hid (Oc0.out.trans (Olds.of_below hb))
    have Ba0 : Hid (Below w.heap.size w v0) := Lib.hid (below_to Bc0.out hb (Nat.le_refl _))
    clear hr hb
    go_wp2_with fail
    refine ((same_any v0 (Hx14.out.olds Oa0.out).ints Hr0.out (by have := HX6.out; unfold maxLen; omega)).mono ?_)
    rintro e w' ⟨rfl, q0, rfl⟩
    have es0 : sameL X X = true := sameL_iff.2 rfl
    rw [es0]
    have Oc1 : Hid (Olds w14 (v0.drewN q0)) := Lib.hid (Oa0.out.trans (drew_olds _ _))
    have Bc1 : Hid (Below w.heap.size w (v0.drewN q0)) := Lib.hid (below_drewN Ba0.out _)
    clear Hr0 Oa0 Ba0
    generalize v0.drewN q0 = u1 at *
    go_wp2_with fail
    refine ((ref_or u1 (lists_of Hl.out Bc1.out) (by rw [HLl.out]; omega) hLt).mono ?_)
    rintro e v1 ⟨r1, rfl, hr, hb⟩
    rw [HYd.out] at hr
    obtain ⟨r1o, r1c, rfl⟩ := hr.shape
    have Hr1 := Lib.hid hr.ints
    have Oa1 : Hid (Olds w14 v1) := Lib.hid (Oc1.out.trans (Olds.of_below hb))
    have Ba1 : Hid (Below w.heap.size w v1) := Lib.hid (below_to Bc1.out hb (Nat.le_refl _))
    clear hr hb
    go_wp2_with fail
    refine ((same_any v1 (Hy14.out.olds Oa1.out).ints Hr1.out (by have := HY6.out; unfold maxLen; omega)).mono ?_)
    rintro e w' ⟨rfl, q1, rfl⟩
    have es1 : sameL Y Y = true := sameL_iff.2 rfl
    rw [es1]
    have Oc2 : Hid (Olds w14 (v1.drewN q1)) := Lib.hid (Oa1.out.trans (drew_olds _ _))
    have Bc2 : Hid (Below w.heap.size w (v1.drewN q1)) := Lib.hid (below_drewN Ba1.out _)
    clear Hr1 Oa1 Ba1
    generalize v1.drewN q1 = u2 at *
    go_wp2_with fail
    refine ((ref_not u2 (at_of' Ha.out Bc2.out) (at_of' Hb.out Bc2.out) la lb).mono ?_)
    rintro e v2 ⟨r2, rfl, hr, hb⟩
    rw [HZd.out] at hr
    obtain ⟨r2o, r2c, rfl⟩ := hr.shape
    have Hr2 := Lib.hid hr.ints
    have Oa2 : Hid (Olds w14 v2) := Lib.hid (Oc2.out.trans (Olds.of_below hb))
    have Ba2 : Hid (Below w.heap.size w v2) := Lib.hid (below_to Bc2.out hb (Nat.le_refl _))
    clear hr hb
    go_wp2_with fail
    refine ((same_any v2 (Hz14.out.olds Oa2.out).ints Hr2.out (by have := HZ6.out; unfold maxLen; omega)).mono ?_)
    rintro e w' ⟨rfl, q2, rfl⟩
    have es2 : sameL Z Z = true := sameL_iff.2 rfl
    rw [es2]
    have Oc3 : Hid (Olds w14 (v2.drewN q2)) := Lib.hid (Oa2.out.trans (drew_olds _ _))
    have Bc3 : Hid (Below w.heap.size w (v2.drewN q2)) := Lib.hid (below_drewN Ba2.out _)
    clear Hr2 Oa2 Ba2
    generalize v2.drewN q2 = u3 at *
    go_wp2_with fail
    refine ((Hk.out u3 (by have := Oc3.out.1; omega)).mono ?_)
    rintro e v4 ⟨rfl, hb⟩
    have Oc4 : Hid (Olds w14 v4) := Lib.hid (Oc3.out.trans (Olds.of_below hb))
    have Bc4 : Hid (Below w.heap.size w v4) := Lib.hid (below_to Bc3.out hb (Nat.le_refl _))
    clear hb
    go_wp2_with fail
    refine ((own_three (B := w.heap.size) (s1 := w3.heap.size) (s2 := w4.heap.size) (s3 := w5.heap.size) (s4 := w6.heap.size) (W14.out.olds Oc4.out) (Hx14.out.olds Oc4.out) (Hy14.out.olds Oc4.out) (Hz14.out.olds Oc4.out) LX.out LY.out LZ.out S68 (by omega) S4 S5 S6 HX6.out HY6.out HZ6.out (by have := Oc4.out.1; omega) Bc4.out.size).mono ?_)
    rintro e v5 ⟨rfl, hb⟩
    have B5f : Hid (Below w.heap.size w v5) := Lib.hid (Bc4.out.trans hb)
    clear hb
    go_wp2_with fail
    go_ret
    exact ⟨rfl, B5f.out⟩
end Go.Proofs.YthoboahfogpnfaaGreatDoor
namespace Go.Proofs.YthoboahfogpnfaaGreatDoor
open Go Go.RowKit Go.Sort Go.Lib

set_option maxRecDepth 20000 in
set_option maxHeartbeats 1000000 in
theorem sets_big1 (ol oa ob : Option Addr) (cl ca cb : Nat) (n la lb : Nat) (w : World) (hm : Calls Tryz.prog 5 #[.slice ol n cl] w fun e w' => e = .returned (.bool true) ∧ w = w') :
    Calls Tryz.prog 4 #[.slice ol n cl, .slice oa la ca, .slice ob lb cb] w fun e w' => e = .returned (.bool true) ∧ Below w.heap.size w w' := by
  have HM := Lib.hid hm
  clear hm
  go_enter Tryz.func4, Tryz.ntmps4
  go_wp2_with fail
  refine HM.out.mono ?_
  rintro e w' ⟨rfl, rfl⟩
  go_wp2_with fail
  go_ret
  exact ⟨rfl, Below.refl _ _⟩

set_option maxRecDepth 20000 in
set_option maxHeartbeats 1000000 in
theorem sets_big2 (ol oa ob : Option Addr) (cl ca cb : Nat) (n : Nat) (a b : List Int) (w : World) (hm : Calls Tryz.prog 5 #[.slice ol n cl] w fun e w' => e = .returned (.bool false) ∧ w = w')
    (ha : IntsAt w (.slice oa a.length ca) a) (hb : IntsAt w (.slice ob b.length cb) b) (hla : a.length * 8 ≤ 140737488355328) (hlb : b.length * 8 ≤ 140737488355328) (hbig : ¬ 2 + (a.length + b.length) ≤ 3000) :
    Calls Tryz.prog 4 #[.slice ol n cl, .slice oa a.length ca, .slice ob b.length cb] w fun e w' => e = .returned (.bool true) ∧ Below w.heap.size w w' := by
  have HM := Lib.hid hm
  have Ha := Lib.hid ha
  have Hb := Lib.hid hb
  have hyes : decide (3000 < 2 + (a.length + b.length)) = true := decide_eq_true (by omega)
  clear hm ha hb hbig
  go_enter Tryz.func4, Tryz.ntmps4
  go_wp2_with fail
  refine HM.out.mono ?_
  rintro e w' ⟨rfl, rfl⟩
  go_wp2_with fail
  refine (much2 Ha.out Hb.out hla hlb).mono ?_
  rintro e w' ⟨rfl, rfl⟩
  rw [hyes]
  go_wp2_with fail
  go_ret
  exact ⟨rfl, (Below.refl _ w).alloc (Nat.le_refl _) _⟩

theorem sets_any {vl va vb : Value} {L : List (List Int)} {a b : List Int} (w : World) (hw : 8 ≤ w.heap.size) (hl : ListsAt w vl L) (ha : IntsAt w va a) (hb : IntsAt w vb b)
    (hn : L.length * 24 ≤ 140737488355328) (hs : ∀ zs ∈ L, zs.length * 8 ≤ 140737488355328) (hla : a.length * 8 ≤ 140737488355328) (hlb : b.length * 8 ≤ 140737488355328)
    (hk : ∀ W : World, 8 ≤ W.heap.size → Calls Tryz.prog 10 #[] W fun e W' => e = .returned (.bool true) ∧ Below W.heap.size W W') :
    Calls Tryz.prog 4 #[vl, va, vb] w fun e w' => e = .returned (.bool true) ∧ Below w.heap.size w w' := by
  have hm := much_any w hl hn hs
  obtain ⟨oa, ca, hva, _⟩ := id ha
  obtain ⟨ob, cb, hvb, _⟩ := id hb
  obtain ⟨vs, ⟨ol, cl, hvl, _⟩, hvsl, _⟩ := id hl
  rw [ints_len] at hva hvb
  rw [hvsl] at hvl
  subst hva hvb hvl
  by_cases h1 : L.length + tot L ≤ 3000
  · by_cases h2 : 2 + (a.length + b.length) ≤ 3000
    · exact sets_small ol oa ob cl ca cb L a b w hw hl ha hb h1 h2 hk
    · rw [show decide (3000 < L.length + tot L) = false from decide_eq_false (by omega)] at hm
      exact sets_big2 ol oa ob cl ca cb L.length a b w hm ha hb hla hlb h2
  · rw [show decide (3000 < L.length + tot L) = true from decide_eq_true (by omega)] at hm
    exact sets_big1 ol oa ob cl ca cb L.length a.length b.length w hm
end Go.Proofs.YthoboahfogpnfaaGreatDoor
