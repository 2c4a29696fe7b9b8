/- Contracts over this program. Their conditions: the slices read as the lists that are named, and lie within the sizes that are named. -/
import Derived.Test.YtaoggppfimfhbaaGreatDoorNd
import Derived.Lib.QuietBelow
import Derived.Deep.CutRange
set_option linter.unusedSimpArgs false
set_option linter.unusedVariables false
set_option linter.deprecated false
set_option linter.unnecessarySimpa false
namespace Go.Proofs.YtaoggppfimfhbaaGreatDoor
open Go Go.RowKit Go.Ix Go.Sort

set_option maxRecDepth 20000 in
set_option maxHeartbeats 1000000 in
theorem pmay_rows (o : Option Addr) (c : Nat) (l : List Ent) (w : World) (hs : Small l) (hc : RowsE w o l) : Calls Tryz.prog 21 #[.slice o l.length c] w fun e w' => Says (May l) e ∧ Below w.heap.size w w' := by
  have Hc := Lib.hid hc
  have Hs := Lib.hid hs
  have hm := hs.1
  have mixed : Tryz.prog.follows .mixedOrders = true := by kernel_rfl
  clear hc hs
  generalize hn : l.length = n at *
  have Hn := Lib.hid hn
  clear hn
  by_cases hbig : 4096 < n
  · have Hr : Hid (¬ May l) := Lib.hid (fun h => by have := h.1; rw [Hn.out] at this; omega)
    go_enter Tryz.func21, Tryz.ntmps21
    go_wp2_with fail
    go_ret
    exact ⟨.inr ⟨rfl, Hr.out⟩, Below.refl _ _⟩
  · go_enter Tryz.func21, Tryz.ntmps21
    go_wp2_with fail
    go_loopw [3, 4, 5, 6, 7, 8, 14] (fun _ _ _ _ _ _ iv wr => ∃ k : Nat, k ≤ n ∧ iv = .int .i64 k ∧ Below w.heap.size w wr ∧ ∀ i, i < k → EntOk l i) (fun _ _ _ _ _ _ iv _ => n - (intOf iv).toNat)
    case atStart => exact ⟨0, Nat.zero_le _, rfl, Below.refl _ _, fun i h => by omega⟩
    case round =>
      obtain ⟨k, hk, rfl, hb, hok⟩ := hrel
      have Hok := Lib.hid hok
      have Hb := Lib.hid hb
      have hsz := hb.size
      have Hcr := Lib.hid (Hc.out.olds (Olds.of_below hb))
      clear hok hb
      by_cases hlt : k < n
      · obtain ⟨b, off, e1, e2, o1, n1, c1, o2, n2, c2, rfl, hx, hc1, hc2, hl1, hl2, hr1, hr2, _⟩ := Hcr.out.at (k := k) (by rw [Hn.out]; exact hlt)
        obtain ⟨hs1, hs2, hs3⟩ := Hs.out.ent hx
        have hn1 : n1 ≤ 1000000000 := by omega
        have hn2 : n2 ≤ 1000000000 := by omega
        have hbl := cell_lt hc1
        simp only at hbl
        have Hx := Lib.hid hx
        have Hr1 := Lib.hid hr1
        have Hr2 := Lib.hid hr2
        have Hl1 := Lib.hid hl1
        have Hl2 := Lib.hid hl2
        have HS3 := Lib.hid hs3
        obtain ⟨A, hA⟩ : ∃ A : World, A = wr.alloc (.cells #[.slice o1 n1 c1, .slice o2 n2 c2] 78) := ⟨_, rfl⟩
        have HoA : Hid (Olds wr A) := Lib.hid (by rw [hA]; exact Olds.alloc _ _)
        have HbA : Hid (Below w.heap.size w A) := Lib.hid (by rw [hA]; exact Hb.out.alloc hsz _)
        have hAs : A.heap.size = wr.heap.size + 1 := by rw [hA]; simp
        have hAb : A.heap[wr.heap.size]? = some (.cells #[.slice o1 n1 c1, .slice o2 n2 c2] 78 (0, 0)) := by rw [hA]; exact heap_alloc_new _ _
        have hA0 : A.cell? ⟨wr.heap.size, 0, none⟩ = some (.slice o1 n1 c1) := by simp [World.cell?, hAb]
        have hA1 : A.cell? ⟨wr.heap.size, 1, none⟩ = some (.slice o2 n2 c2) := by simp [World.cell?, hAb]
        have HC : Hid (∀ d os, Calls Tryz.prog 83 #[.slice o1 n1 c1] (grow (redrawn A d) os) fun e w'' => e = .returned (.int .u16 (check e1)) ∧ ∃ p : Regrown, w'' = grow (redrawn A p.d) p.os) := Lib.hid (fun d os => Calls.regrown_of (pcheck_rows o1 c1 n1 e1 _ Hl1.out hn1 HS3.out ((Hr1.out.olds HoA.out).olds (Olds.of_below (below_regrown A d os)))))
        have HAe := Lib.hid hA
        have HAs := Lib.hid hAs
        clear hx hr1 hr2 hl1 hl2 hs3 hAb hA hAs
        go_upto_region 6 with fail
        rw [← HAe.out]
        go_cut [38] from 19 to 37 (fun t38 wx => (∃ R : Bool, t38 = .bool R ∧ (R = true → ¬ May l) ∧ (R = false → check e1 = 0 ∧ (0 < k → ∀ d, l[k - 1]? = some d → cmpL d.1 e1 < 0))) ∧ Below A.heap.size A wx)
        case first =>
          have k0 := cell_regrown hA0
          by_cases hck : check e1 = 0
          · have hckb : (check e1 != 0) = false := by simpa using hck
            have key : (¬ 0 < k ∧ Hid (0 < k → ∀ d, l[k - 1]? = some d → cmpL d.1 e1 < 0)) ∨ (0 < k ∧ ∃ j : Nat, (k : Int) - 1 = (j : Int) ∧ j < n ∧ ∃ d1 o3 n3 c3, A.cell? ⟨b, off + j * 2, none⟩ = some (.slice o3 n3 c3) ∧ n3 ≤ 1000000000 ∧ Hid (∀ d os, Calls Tryz.prog 84 #[.slice o3 n3 c3, .slice o1 n1 c1] (grow (redrawn A d) os) fun e w'' => e = .returned (.int .i64 (cmpL d1 e1)) ∧ ∃ p : Regrown, w'' = grow (redrawn A p.d) p.os) ∧ Hid (cmpL d1 e1 < 0 → 0 < k → ∀ d, l[k - 1]? = some d → cmpL d.1 e1 < 0) ∧ Hid (¬ cmpL d1 e1 < 0 → ¬ May l)) := by
              by_cases h0 : k = 0
              · exact .inl ⟨by omega, Lib.hid (fun h => by omega)⟩
              · refine .inr ⟨by omega, k - 1, by omega, by omega, ?_⟩
                obtain ⟨d1, d2, o3, n3, c3, o4, n4, c4, hxd, hcd, _, hld, _, hrd, _⟩ := Hcr.out.next (k := k - 1) (by rw [Hn.out]; omega)
                obtain ⟨hsd, _⟩ := Hs.out.ent hxd
                refine ⟨d1, o3, n3, c3, HoA.out.cell hcd, by omega, Lib.hid (fun d os => ?_), Lib.hid (fun h _ d hd => ?_), Lib.hid (fun h hmay => ?_)⟩
                · exact Calls.regrown_of (pcmp_rows o3 o1 c3 c1 n3 n1 d1 e1 _ hld Hl1.out (by omega) hn1 ((hrd.olds HoA.out).olds (Olds.of_below (below_regrown A d os))) ((Hr1.out.olds HoA.out).olds (Olds.of_below (below_regrown A d os))))
                · rw [hxd] at hd
                  cases hd
                  exact h
                · exact h ((hmay.2 k (by rw [Hn.out]; exact hlt) _ Hx.out).2.1 (by omega) _ hxd)
            have Hck := Lib.hid hck
            clear hck
            rcases key with ⟨h0, HP⟩ | ⟨hkp, j0, hkj, hj0, d1, o3, n3, c3, hcd, hn3, HD, HP0, HNo⟩
            · refine wp_region_quiet_below (by assumption) (by kernel_rfl) ?_
              repeat (go_big_quiet_step (first | exact HC.out _ _ | exact HD.out _ _))
              refine wpQuiet_nil ?_
              intro wq hw'
              obtain ⟨⟨dq, osq⟩, hw''⟩ := hw'
              have B7 := Lib.hid (below_regrown A dq osq)
              rw [← hw''] at B7
              clear hw'' k0
              go_wp2_with fail
              go_meet
              case rel => exact ⟨⟨false, rfl, fun h => (by cases h), fun _ => ⟨Hck.out, HP.out⟩⟩, B7.out⟩
            · have k1 := cell_regrown hcd
              by_cases hcm : cmpL d1 e1 < 0
              · have HP := Lib.hid (HP0.out hcm)
                clear HP0 HNo
                refine wp_region_quiet_below (by assumption) (by kernel_rfl) ?_
                repeat (go_big_quiet_step (first | exact HC.out _ _ | exact HD.out _ _))
                refine wpQuiet_nil ?_
                intro wq hw'
                obtain ⟨⟨dq, osq⟩, hw''⟩ := hw'
                have B7 := Lib.hid (below_regrown A dq osq)
                rw [← hw''] at B7
                clear hw'' k0 k1
                go_wp2_with fail
                go_meet
                case rel => exact ⟨⟨false, by simp; omega, fun h => (by cases h), fun _ => ⟨Hck.out, HP.out⟩⟩, B7.out⟩
              · have Hno := Lib.hid (HNo.out hcm)
                clear HP0 HNo
                refine wp_region_quiet_below (by assumption) (by kernel_rfl) ?_
                repeat (go_big_quiet_step (first | exact HC.out _ _ | exact HD.out _ _))
                refine wpQuiet_nil ?_
                intro wq hw'
                obtain ⟨⟨dq, osq⟩, hw''⟩ := hw'
                have B7 := Lib.hid (below_regrown A dq osq)
                rw [← hw''] at B7
                clear hw'' k0 k1
                go_wp2_with fail
                go_meet
                case rel => exact ⟨⟨true, by simp <;> omega, fun _ => Hno.out, fun h => (by cases h)⟩, B7.out⟩
          · have Hno : Hid (¬ May l) := Lib.hid (fun h => hck (h.ent (List.mem_of_getElem? Hx.out)).1)
            have hckb : (check e1 != 0) = true := by simpa using hck
            clear hck
            refine wp_region_quiet_below (by assumption) (by kernel_rfl) ?_
            repeat (go_big_quiet_step (first | exact HC.out _ _ | exact HD.out _ _))
            refine wpQuiet_nil ?_
            intro wq hw'
            obtain ⟨⟨dq, osq⟩, hw''⟩ := hw'
            have B7 := Lib.hid (below_regrown A dq osq)
            rw [← hw''] at B7
            clear hw'' k0
            go_wp2_with fail
            go_meet
            case rel => exact ⟨⟨true, rfl, fun _ => Hno.out, fun h => (by cases h)⟩, B7.out⟩
        case rest =>
        obtain ⟨⟨R, rfl, hR1, hR2⟩, b7⟩ := hcut
        have B7 := Lib.hid b7
        have HR1 := Lib.hid hR1
        have HR2 := Lib.hid hR2
        clear b7 hR1 hR2
        generalize wc = wq at *
        cases R with
        | true =>
          have Hno := Lib.hid (HR1.out rfl)
          clear HR1 HR2
          go_wp2_with fail
          go_ret
          exact ⟨.inr ⟨rfl, Hno.out⟩, HbA.out.trans (B7.out.mono HbA.out.size)⟩
        | false =>
          have Hck := Lib.hid (HR2.out rfl).1
          have HP := Lib.hid (HR2.out rfl).2
          clear HR1 HR2
          have hq1 := (Olds.of_below B7.out).cell hA1
          have Hbq := Lib.hid (HbA.out.trans (B7.out.mono HbA.out.size))
          have Hr5 := Lib.hid ((Hr2.out.olds HoA.out).olds (Olds.of_below B7.out))
          go_wp2_with fail
          go_loopw [5, 6, 7, 8, 42] (fun _ _ _ _ jv wz => ∃ j : Nat, j ≤ n2 ∧ jv = .int .i64 j ∧ Below w.heap.size w wz ∧ Below wq.heap.size wq wz ∧ ∀ i, i < j → PlcAt e2 i) (fun _ _ _ _ jv _ => n2 - (intOf jv).toNat)
          case atStart => exact ⟨0, Nat.zero_le _, rfl, Hbq.out, Below.refl _ _, fun i h => by omega⟩
          case round =>
            obtain ⟨j, hj, rfl, hbz, hbz2, hpl⟩ := hrel
            have Hbz := Lib.hid hbz
            have Hbz2 := Lib.hid hbz2
            have Hpl := Lib.hid hpl
            have hz1 := (Olds.of_below hbz2).cell hq1
            have Hr5z := Lib.hid (Hr5.out.olds (Olds.of_below hbz2))
            have hszz := hbz.size
            have hszz2 := hbz2.size
            clear hbz hbz2 hpl
            by_cases hjn : j < n2
            · obtain ⟨b5, off5, p, rfl, hp, hp0, hp1, hp2, hp3, hp4⟩ := Hr5z.out.at (k := j) (by rw [Hl2.out]; exact hjn)
              have Hp := Lib.hid hp
              clear hp
              obtain ⟨p0, p1, p2, p3, p4⟩ := p
              simp only at hp0 hp1 hp2 hp3 hp4
              have hbl5 := cell_lt hp0
              have hblz := cell_lt hz1
              simp only at hbl5 hblz
              obtain ⟨Z, hZ⟩ : ∃ Z : World, Z = wr.alloc (.cells #[.int .i64 p0, .int .i64 p1, .int .i64 p2, .int .i64 p3, .int .i64 p4] 107) := ⟨_, rfl⟩
              have HoZ : Hid (Olds wr Z) := Lib.hid (by rw [hZ]; exact Olds.alloc _ _)
              have HbZ : Hid (Below w.heap.size w Z) := Lib.hid (by rw [hZ]; exact Hbz.out.alloc hszz _)
              have HbZ2 : Hid (Below wq.heap.size wq Z) := Lib.hid (by rw [hZ]; exact Hbz2.out.alloc hszz2 _)
              have hZb : Z.heap[wr.heap.size]? = some (.cells #[.int .i64 p0, .int .i64 p1, .int .i64 p2, .int .i64 p3, .int .i64 p4] 107 (0, 0)) := by rw [hZ]; exact heap_alloc_new _ _
              have hZ0 : Z.cell? ⟨wr.heap.size, 0, none⟩ = some (.int .i64 p0) := by simp [World.cell?, hZb]
              have hZ1 : Z.cell? ⟨wr.heap.size, 1, none⟩ = some (.int .i64 p1) := by simp [World.cell?, hZb]
              have hZ2 : Z.cell? ⟨wr.heap.size, 2, none⟩ = some (.int .i64 p2) := by simp [World.cell?, hZb]
              have hZ3 : Z.cell? ⟨wr.heap.size, 3, none⟩ = some (.int .i64 p3) := by simp [World.cell?, hZb]
              have hZ4 : Z.cell? ⟨wr.heap.size, 4, none⟩ = some (.int .i64 p4) := by simp [World.cell?, hZb]
              have hZe := HoZ.out.cell hz1
              have HZ := Lib.hid hZ
              clear hZ hZb
              go_upto_region 11 with fail
              rw [← HZ.out]
              clear HZ
              go_cut [7] from 47 to 61 (fun t7 wx => (∃ T : Bool, t7 = .bool T ∧ (T = true ↔ p0 ≤ p1 ∧ -9007199254740992 ≤ p0 ∧ p1 ≤ 9007199254740992)) ∧ wx = Z)
              case first =>
                go_wp2_with fail
                all_goals (go_meet; case rel => exact ⟨⟨_, rfl, by simp; omega⟩, rfl⟩)
              case rest =>
              obtain ⟨⟨T, rfl, hT⟩, hwz⟩ := hcut
              have HT := Lib.hid hT
              rw [hwz]
              clear hT hwz
              go_upto_region 12 with fail
              go_cut [8] from 62 to 89 (fun t8 wx => (∃ S : Bool, t8 = .bool S ∧ (S = true ↔ 1 ≤ p2 ∧ p2 ≤ 120 ∧ 0 ≤ p3 ∧ p3 ≤ 2147483647 ∧ 0 ≤ p4 ∧ p4 ≤ 2147483647)) ∧ wx = Z)
              case first =>
                go_wp2_with fail
                all_goals (go_meet; case rel => exact ⟨⟨_, rfl, by simp; omega⟩, rfl⟩)
              case rest =>
              obtain ⟨⟨S, rfl, hS⟩, hwz⟩ := hcut
              have HS := Lib.hid hS
              rw [hwz]
              clear hS hwz
              go_upto_region 13 with fail
              by_cases hok : PlcOk ⟨p0, p1, p2, p3, p4⟩
              · have hT : T = true := HT.out.2 (by obtain ⟨h1, h2, h3, _⟩ := hok; exact ⟨h1, h2, h3⟩)
                have hS : S = true := HS.out.2 (by obtain ⟨_, _, _, h1, h2, h3, h4, h5, h6⟩ := hok; exact ⟨h1, h2, h3, h4, h5, h6⟩)
                subst hT hS
                have Hok5 := Lib.hid hok
                clear hok
                by_cases hj0 : 0 < j
                · obtain ⟨i0, hji, hi0, hiN⟩ : ∃ i : Nat, (j : Int) - 1 = (i : Int) ∧ i < n2 ∧ Hid (i = j - 1) := ⟨j - 1, by omega, by omega, Lib.hid rfl⟩
                  obtain ⟨pd, hpd, _, hd1, _⟩ := Hr5z.out.next (k := i0) (by rw [Hl2.out]; exact hi0)
                  have Hpd := Lib.hid hpd
                  clear hpd
                  obtain ⟨g0, g1, g2, g3, g4⟩ := pd
                  simp only at hd1
                  have hd1Z := HoZ.out.cell hd1
                  by_cases hlt3 : g1 < p0
                  · have Hat : Hid (PlcAt e2 j) := Lib.hid (fun c hc => by
                      rw [Hp.out] at hc
                      cases hc
                      refine ⟨Hok5.out, fun _ d hd => ?_⟩
                      rw [← hiN.out, Hpd.out] at hd
                      cases hd
                      exact hlt3)
                    go_quiet (fail)
                    go_wp2_with fail
                    go_roundw
                    case rel => exact ⟨j + 1, by omega, by go_num, below_drewN HbZ.out _, below_drewN HbZ2.out _, fun i hi => by
                      by_cases h : i < j
                      · exact Hpl.out i h
                      · obtain rfl : i = j := by omega
                        exact Hat.out⟩
                    case measure => simp [intOf]; omega
                  · have Hno : Hid (¬ May l) := Lib.hid (fun h => hlt3 (((h.ent (List.mem_of_getElem? Hx.out)).2 j (by rw [Hl2.out]; exact hjn) _ Hp.out).2 hj0 _ (by rw [← hiN.out]; exact Hpd.out)))
                    go_quiet (fail)
                    go_wp2_with fail
                    go_ret
                    exact ⟨.inr ⟨rfl, Hno.out⟩, below_drewN HbZ.out _⟩
                · have Hat : Hid (PlcAt e2 j) := Lib.hid (fun c hc => by
                    rw [Hp.out] at hc
                    cases hc
                    exact ⟨Hok5.out, fun h => absurd h hj0⟩)
                  go_quiet (fail)
                  go_wp2_with fail
                  go_roundw
                  case rel => exact ⟨j + 1, by omega, by go_num, below_drewN HbZ.out _, below_drewN HbZ2.out _, fun i hi => by
                    by_cases h : i < j
                    · exact Hpl.out i h
                    · obtain rfl : i = j := by omega
                      exact Hat.out⟩
                  case measure => simp [intOf]; omega
              · have Hno : Hid (¬ May l) := Lib.hid (fun h => hok ((h.ent (List.mem_of_getElem? Hx.out)).2.plc (List.mem_of_getElem? Hp.out)))
                have Hok5 := Lib.hid hok
                clear hok
                cases T with
                | false =>
                  go_quiet (fail)
                  go_wp2_with fail
                  go_ret
                  exact ⟨.inr ⟨rfl, Hno.out⟩, below_drewN HbZ.out _⟩
                | true =>
                  cases S with
                  | false =>
                    go_quiet (fail)
                    go_wp2_with fail
                    go_ret
                    exact ⟨.inr ⟨rfl, Hno.out⟩, below_drewN HbZ.out _⟩
                  | true =>
                    exact absurd (show PlcOk ⟨p0, p1, p2, p3, p4⟩ from by
                      have h1 := HT.out.1 rfl
                      have h2 := HS.out.1 rfl
                      exact ⟨h1.1, h1.2.1, h1.2.2, h2⟩) Hok5.out
            · go_wp2_with fail
              go_roundw
              case rel => exact ⟨k + 1, by omega, by go_num, Hbz.out, fun i hi => by
                by_cases h : i < k
                · exact Hok.out i h
                · obtain rfl : i = k := by omega
                  intro e he
                  rw [Hx.out] at he
                  cases he
                  exact ⟨Hck.out, HP.out, fun i hi => Hpl.out i (by have := Hl2.out; simp only at hi; omega)⟩⟩
              case measure => simp [intOf]; omega
      · go_wp2_with fail
        go_ret
        exact ⟨.inl ⟨rfl, by rw [Hn.out]; omega, fun i hi => Hok.out i (by rw [Hn.out] at hi; omega)⟩, Hb.out⟩
end Go.Proofs.YtaoggppfimfhbaaGreatDoor
