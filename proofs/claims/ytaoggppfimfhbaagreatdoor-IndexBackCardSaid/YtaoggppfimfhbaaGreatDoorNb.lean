/- Contracts over this program. Their conditions: the slices read as the lists that are named, and lie within the sizes that are named. -/
import Derived.Test.YtaoggppfimfhbaaGreatDoorNa
set_option linter.unusedSimpArgs false
set_option linter.unusedVariables false
set_option linter.deprecated false
set_option linter.unnecessarySimpa false
namespace Go.Proofs.YtaoggppfimfhbaaGreatDoor
open Go Go.RowKit Go.Ix

set_option maxRecDepth 20000 in
set_option maxHeartbeats 8000000 in
theorem rmay_rows (o : Option Addr) (c : Nat) (l : List Ent) (w : World) (hs : Small l) (hc : RowsE w o l) : Calls Tryz.prog 32 #[.slice o l.length c] w fun e w' => Says (May l) e ∧ Below w.heap.size w w' := by
  have Hc := Lib.hid hc
  have Hs := Lib.hid hs
  have hm := hs.1
  clear hc hs
  generalize hn : l.length = n at *
  have Hn := Lib.hid hn
  clear hn
  by_cases hbig : 4096 < n
  · have Hr : Hid (¬ May l) := Lib.hid (fun h => by have := h.1; rw [Hn.out] at this; omega)
    go_enter Tryz.func32, Tryz.ntmps32
    go_wp2_with fail
    go_ret
    exact ⟨.inr ⟨rfl, Hr.out⟩, Below.refl _ _⟩
  · go_enter Tryz.func32, Tryz.ntmps32
    go_wp2_with fail
    go_loopw [3, 4, 5] (fun iv _ _ wr => ∃ k : Nat, k ≤ n ∧ iv = .int .i64 k ∧ Below w.heap.size w wr ∧ ∀ i, i < k → EntOk l i) (fun iv _ _ _ => n - (intOf iv).toNat)
    case atStart => exact ⟨0, Nat.zero_le _, rfl, Below.refl _ _, fun i h => by omega⟩
    case round =>
      obtain ⟨k, hk, rfl, hb, hok⟩ := hrel
      have Hok := Lib.hid hok
      have Hb := Lib.hid hb
      have Hcr := Lib.hid (Hc.out.olds (Olds.of_below hb))
      clear hok hb
      by_cases hlt : k < n
      · obtain ⟨b, off, e1, e2, o1, n1, c1, o2, n2, c2, rfl, hx, hc1, hc2, hl1, hl2, hr1, hr2, _⟩ := Hcr.out.at (k := k) (by rw [Hn.out]; exact hlt)
        obtain ⟨hs1, hs2, hs3⟩ := Hs.out.ent hx
        have hn1 : n1 ≤ 1000000000 := by omega
        have hn2 : n2 ≤ 1000000000 := by omega
        have Hx := Lib.hid hx
        have Hr1 := Lib.hid hr1
        have Hr2 := Lib.hid hr2
        have Hl1 := Lib.hid hl1
        have Hl2 := Lib.hid hl2
        have HC := Lib.hid (fun q => (by
          have := rcheck_rows o1 c1 e1 (wr.drewN q) hs1 hs3 (Hr1.out.olds (Olds.drewN _ _))
          rw [show e1.length = n1 from Hl1.out] at this
          exact Calls.drew this : Calls Tryz.prog 92 #[.slice o1 n1 c1] (wr.drewN q) fun e w'' => e = .returned (.int .u16 (check e1)) ∧ ∃ m, w'' = wr.drewN m))
        have HS3 := Lib.hid hs3
        clear hx hr1 hr2 hl1 hl2 hs3
        by_cases hck : check e1 = 0
        · have hckb : (check e1 != 0) = false := by simpa using hck
          have key : (¬ 0 < k ∧ Hid (0 < k → ∀ d, l[k - 1]? = some d → cmpL d.1 e1 < 0)) ∨ (0 < k ∧ ∃ j : Nat, (k : Int) - 1 = (j : Int) ∧ j < n ∧ ∃ d1 o3 n3 c3, wr.cell? ⟨b, off + j * 2, none⟩ = some (.slice o3 n3 c3) ∧ n3 ≤ 1000000000 ∧ Hid (∀ q, Calls Tryz.prog 93 #[.slice o3 n3 c3, .slice o1 n1 c1] (wr.drewN q) fun e w'' => e = .returned (.int .i64 (cmpL d1 e1)) ∧ ∃ m, w'' = wr.drewN m) ∧ Hid (cmpL d1 e1 < 0 → 0 < k → ∀ d, l[k - 1]? = some d → cmpL d.1 e1 < 0) ∧ Hid (¬ cmpL d1 e1 < 0 → ¬ May l)) := by
            by_cases h0 : k = 0
            · exact .inl ⟨by omega, Lib.hid (fun h => by omega)⟩
            · refine .inr ⟨by omega, k - 1, by omega, by omega, ?_⟩
              obtain ⟨d1, d2, o3, n3, c3, o4, n4, c4, hxd, hcd, _, hld, _, hrd, _⟩ := Hcr.out.next (k := k - 1) (by rw [Hn.out]; omega)
              obtain ⟨hsd, _⟩ := Hs.out.ent hxd
              refine ⟨d1, o3, n3, c3, hcd, by omega, Lib.hid (fun q => ?_), Lib.hid (fun h _ d hd => ?_), Lib.hid (fun h hmay => ?_)⟩
              · have := rcmp_rows o3 o1 c3 c1 d1 e1 (wr.drewN q) hsd hs1 (hrd.olds (Olds.drewN _ _)) (Hr1.out.olds (Olds.drewN _ _))
                rw [show e1.length = n1 from Hl1.out, hld] at this
                exact Calls.drew this
              · rw [hxd] at hd
                cases hd
                exact h
              · exact h ((hmay.2 k (by rw [Hn.out]; exact hlt) _ Hx.out).2.1 (by omega) _ hxd)
          have Hck := Lib.hid hck
          clear hck
          rcases key with ⟨h0, HP⟩ | ⟨hkp, j0, hkj, hj0, d1, o3, n3, c3, hcd, hn3, HD, HP0, HNo⟩
          · go_wp2_with fail
            go_quiet (first | exact HC.out _ | exact HD.out _)
            go_wp2_with fail
            have Hb2 := Lib.hid (below_drewN Hb.out nq)
            have hsz2 := Hb2.out.size
            have Ho2 := Lib.hid (Olds.drewN wr nq)
            have hc2' := Ho2.out.cell hc2
            generalize wr.drewN nq = w2 at *
            go_loopw [4, 5] (fun jv _ wq => ∃ j : Nat, j ≤ n2 ∧ jv = .int .i64 j ∧ Below w.heap.size w wq ∧ Below w2.heap.size w2 wq ∧ ∀ i, i < j → PlcAt e2 i) (fun jv _ _ => n2 - (intOf jv).toNat)
            case atStart => exact ⟨0, Nat.zero_le _, rfl, Hb2.out, Below.refl _ _, fun i h => by omega⟩
            case round =>
              obtain ⟨j, hj, rfl, hbq, hbq2, hpl⟩ := hrel
              have Hbq := Lib.hid hbq
              have Hbq2 := Lib.hid hbq2
              have Hpl := Lib.hid hpl
              have hcq := (Olds.of_below hbq2).cell hc2'
              have Hr5 := Lib.hid ((Hr2.out.olds Ho2.out).olds (Olds.of_below hbq2))
              have hszq := hbq.size
              clear hbq hbq2 hpl
              by_cases hjn : j < n2
              · obtain ⟨b5, off5, p, rfl, hp, hp0, hp1, hp2, hp3, hp4⟩ := Hr5.out.at (k := j) (by rw [Hl2.out]; exact hjn)
                have Hp := Lib.hid hp
                clear hp
                obtain ⟨p0, p1, p2, p3, p4⟩ := p
                simp only at hp0 hp1 hp2 hp3 hp4
                by_cases hok : PlcOk ⟨p0, p1, p2, p3, p4⟩
                · obtain ⟨q1, q2, q3, q4, q5, q6, q7, q8, q9⟩ := id hok
                  unfold far at q2 q3
                  simp only at q1 q2 q3 q4 q5 q6 q7 q8 q9
                  have Hpok := Lib.hid hok
                  clear hok
                  have hsz2q := Hbq2.out.size
                  have hcqA : ∀ ob, (wr.alloc ob).cell? ⟨b, off + k * 2 + 1, none⟩ = some (.slice (some ⟨b5, off5, none⟩) n2 c2) := fun ob => (Olds.alloc wr ob).cell hcq
                  by_cases hj0 : 0 < j
                  · obtain ⟨i0, hji, hi0, hiN⟩ : ∃ i : Nat, (j : Int) - 1 = (i : Int) ∧ i < n2 ∧ Hid (i = j - 1) := ⟨j - 1, by omega, by omega, Lib.hid rfl⟩
                    obtain ⟨pd, hpd, _, hd1, _⟩ := Hr5.out.next (k := i0) (by rw [Hl2.out]; exact hi0)
                    have Hpd := Lib.hid hpd
                    clear hpd
                    obtain ⟨g0, g1, g2, g3, g4⟩ := pd
                    simp only at hd1
                    have hd1A : ∀ ob, (wr.alloc ob).cell? ⟨b5, off5 + i0 * 5 + 1, none⟩ = some (.int .i64 g1) := fun ob => (Olds.alloc wr ob).cell hd1
                    by_cases hlt3 : g1 < p0
                    · have Hat : Hid (PlcAt e2 j) := Lib.hid (fun c hc => by
                        rw [Hp.out] at hc
                        cases hc
                        refine ⟨Hpok.out, fun _ d hd => ?_⟩
                        rw [← hiN.out, Hpd.out] at hd
                        cases hd
                        exact hlt3)
                      go_wp2_with fail
                      go_quiet (fail)
                      go_wp2_with fail
                      go_roundw
                      case rel => exact ⟨j + 1, by omega, by go_num, below_drewN (Hbq.out.alloc (by omega) _) _, below_drewN (Hbq2.out.alloc (by omega) _) _, fun i hi => by
                        by_cases h : i < j
                        · exact Hpl.out i h
                        · obtain rfl : i = j := by omega
                          exact Hat.out⟩
                      case measure => simp [intOf]; omega
                    · have Hno : Hid (¬ May l) := Lib.hid (fun h => hlt3 (((h.ent (List.mem_of_getElem? Hx.out)).2 j (by rw [Hl2.out]; exact hjn) _ Hp.out).2 hj0 _ (by rw [← hiN.out]; exact Hpd.out)))
                      go_wp2_with fail
                      go_quiet (fail)
                      go_wp2_with fail
                      go_ret
                      exact ⟨.inr ⟨rfl, Hno.out⟩, below_drewN (Hbq.out.alloc (by omega) _) _⟩
                  · have Hat : Hid (PlcAt e2 j) := Lib.hid (fun c hc => by
                      rw [Hp.out] at hc
                      cases hc
                      exact ⟨Hpok.out, fun h => absurd h hj0⟩)
                    go_wp2_with fail
                    go_quiet (fail)
                    go_wp2_with fail
                    go_roundw
                    case rel => exact ⟨j + 1, by omega, by go_num, below_drewN (Hbq.out.alloc (by omega) _) _, below_drewN (Hbq2.out.alloc (by omega) _) _, fun i hi => by
                      by_cases h : i < j
                      · exact Hpl.out i h
                      · obtain rfl : i = j := by omega
                        exact Hat.out⟩
                    case measure => simp [intOf]; omega
                · have Hno : Hid (¬ May l) := Lib.hid (fun h => hok ((h.ent (List.mem_of_getElem? Hx.out)).2.plc (List.mem_of_getElem? Hp.out)))
                  have hsz2q := Hbq2.out.size
                  unfold PlcOk far at hok
                  simp only at hok
                  go_wp2_with fail
                  all_goals first
                    | (go_ret; exact ⟨.inr ⟨rfl, Hno.out⟩, Hbq.out.alloc (by omega) _⟩)
                    | (exfalso; omega)
                    | (exfalso; rename_i hx; simp at hx; omega)
              · go_wp2_with fail
                go_roundw
                case rel => exact ⟨k + 1, by omega, by go_num, Hbq.out, fun i hi => by
                  by_cases h : i < k
                  · exact Hok.out i h
                  · obtain rfl : i = k := by omega
                    intro e he
                    rw [Hx.out] at he
                    cases he
                    exact ⟨Hck.out, HP.out, fun i hi => Hpl.out i (by have := Hl2.out; simp only at hi; omega)⟩⟩
                case measure => simp [intOf]; omega
          · by_cases hcm : cmpL d1 e1 < 0
            · have HP := Lib.hid (HP0.out hcm)
              clear HP0 HNo
              go_wp2_with fail
              go_quiet (first | exact HC.out _ | exact HD.out _)
              go_wp2_with fail
              have Hb2 := Lib.hid (below_drewN Hb.out nq)
              have hsz2 := Hb2.out.size
              have Ho2 := Lib.hid (Olds.drewN wr nq)
              have hc2' := Ho2.out.cell hc2
              generalize wr.drewN nq = w2 at *
              go_loopw [4, 5] (fun jv _ wq => ∃ j : Nat, j ≤ n2 ∧ jv = .int .i64 j ∧ Below w.heap.size w wq ∧ Below w2.heap.size w2 wq ∧ ∀ i, i < j → PlcAt e2 i) (fun jv _ _ => n2 - (intOf jv).toNat)
              case atStart => exact ⟨0, Nat.zero_le _, rfl, Hb2.out, Below.refl _ _, fun i h => by omega⟩
              case round =>
                obtain ⟨j, hj, rfl, hbq, hbq2, hpl⟩ := hrel
                have Hbq := Lib.hid hbq
                have Hbq2 := Lib.hid hbq2
                have Hpl := Lib.hid hpl
                have hcq := (Olds.of_below hbq2).cell hc2'
                have Hr5 := Lib.hid ((Hr2.out.olds Ho2.out).olds (Olds.of_below hbq2))
                have hszq := hbq.size
                clear hbq hbq2 hpl
                by_cases hjn : j < n2
                · obtain ⟨b5, off5, p, rfl, hp, hp0, hp1, hp2, hp3, hp4⟩ := Hr5.out.at (k := j) (by rw [Hl2.out]; exact hjn)
                  have Hp := Lib.hid hp
                  clear hp
                  obtain ⟨p0, p1, p2, p3, p4⟩ := p
                  simp only at hp0 hp1 hp2 hp3 hp4
                  by_cases hok : PlcOk ⟨p0, p1, p2, p3, p4⟩
                  · obtain ⟨q1, q2, q3, q4, q5, q6, q7, q8, q9⟩ := id hok
                    unfold far at q2 q3
                    simp only at q1 q2 q3 q4 q5 q6 q7 q8 q9
                    have Hpok := Lib.hid hok
                    clear hok
                    have hsz2q := Hbq2.out.size
                    have hcqA : ∀ ob, (wr.alloc ob).cell? ⟨b, off + k * 2 + 1, none⟩ = some (.slice (some ⟨b5, off5, none⟩) n2 c2) := fun ob => (Olds.alloc wr ob).cell hcq
                    by_cases hj0 : 0 < j
                    · obtain ⟨i0, hji, hi0, hiN⟩ : ∃ i : Nat, (j : Int) - 1 = (i : Int) ∧ i < n2 ∧ Hid (i = j - 1) := ⟨j - 1, by omega, by omega, Lib.hid rfl⟩
                      obtain ⟨pd, hpd, _, hd1, _⟩ := Hr5.out.next (k := i0) (by rw [Hl2.out]; exact hi0)
                      have Hpd := Lib.hid hpd
                      clear hpd
                      obtain ⟨g0, g1, g2, g3, g4⟩ := pd
                      simp only at hd1
                      have hd1A : ∀ ob, (wr.alloc ob).cell? ⟨b5, off5 + i0 * 5 + 1, none⟩ = some (.int .i64 g1) := fun ob => (Olds.alloc wr ob).cell hd1
                      by_cases hlt3 : g1 < p0
                      · have Hat : Hid (PlcAt e2 j) := Lib.hid (fun c hc => by
                          rw [Hp.out] at hc
                          cases hc
                          refine ⟨Hpok.out, fun _ d hd => ?_⟩
                          rw [← hiN.out, Hpd.out] at hd
                          cases hd
                          exact hlt3)
                        go_wp2_with fail
                        go_quiet (fail)
                        go_wp2_with fail
                        go_roundw
                        case rel => exact ⟨j + 1, by omega, by go_num, below_drewN (Hbq.out.alloc (by omega) _) _, below_drewN (Hbq2.out.alloc (by omega) _) _, fun i hi => by
                          by_cases h : i < j
                          · exact Hpl.out i h
                          · obtain rfl : i = j := by omega
                            exact Hat.out⟩
                        case measure => simp [intOf]; omega
                      · have Hno : Hid (¬ May l) := Lib.hid (fun h => hlt3 (((h.ent (List.mem_of_getElem? Hx.out)).2 j (by rw [Hl2.out]; exact hjn) _ Hp.out).2 hj0 _ (by rw [← hiN.out]; exact Hpd.out)))
                        go_wp2_with fail
                        go_quiet (fail)
                        go_wp2_with fail
                        go_ret
                        exact ⟨.inr ⟨rfl, Hno.out⟩, below_drewN (Hbq.out.alloc (by omega) _) _⟩
                    · have Hat : Hid (PlcAt e2 j) := Lib.hid (fun c hc => by
                        rw [Hp.out] at hc
                        cases hc
                        exact ⟨Hpok.out, fun h => absurd h hj0⟩)
                      go_wp2_with fail
                      go_quiet (fail)
                      go_wp2_with fail
                      go_roundw
                      case rel => exact ⟨j + 1, by omega, by go_num, below_drewN (Hbq.out.alloc (by omega) _) _, below_drewN (Hbq2.out.alloc (by omega) _) _, fun i hi => by
                        by_cases h : i < j
                        · exact Hpl.out i h
                        · obtain rfl : i = j := by omega
                          exact Hat.out⟩
                      case measure => simp [intOf]; omega
                  · have Hno : Hid (¬ May l) := Lib.hid (fun h => hok ((h.ent (List.mem_of_getElem? Hx.out)).2.plc (List.mem_of_getElem? Hp.out)))
                    have hsz2q := Hbq2.out.size
                    unfold PlcOk far at hok
                    simp only at hok
                    go_wp2_with fail
                    all_goals first
                      | (go_ret; exact ⟨.inr ⟨rfl, Hno.out⟩, Hbq.out.alloc (by omega) _⟩)
                      | (exfalso; omega)
                      | (exfalso; rename_i hx; simp at hx; omega)
                · go_wp2_with fail
                  go_roundw
                  case rel => exact ⟨k + 1, by omega, by go_num, Hbq.out, fun i hi => by
                    by_cases h : i < k
                    · exact Hok.out i h
                    · obtain rfl : i = k := by omega
                      intro e he
                      rw [Hx.out] at he
                      cases he
                      exact ⟨Hck.out, HP.out, fun i hi => Hpl.out i (by have := Hl2.out; simp only at hi; omega)⟩⟩
                  case measure => simp [intOf]; omega
            · have Hno := Lib.hid (HNo.out hcm)
              clear HP0 HNo
              go_wp2_with fail
              go_quiet (first | exact HC.out _ | exact HD.out _)
              go_wp2_with fail
              go_ret
              exact ⟨.inr ⟨rfl, Hno.out⟩, below_drewN Hb.out _⟩
        · have Hno : Hid (¬ May l) := Lib.hid (fun h => hck (h.ent (List.mem_of_getElem? Hx.out)).1)
          have hckb : (check e1 != 0) = true := by simpa using hck
          have Hck := Lib.hid hck
          clear hck
          go_wp2_with fail
          go_quiet (exact HC.out _)
          go_wp2_with fail
          go_ret
          exact ⟨.inr ⟨rfl, Hno.out⟩, below_drewN Hb.out _⟩
      · go_wp2_with fail
        go_ret
        exact ⟨.inl ⟨rfl, by rw [Hn.out]; omega, fun i hi => Hok.out i (by rw [Hn.out] at hi; omega)⟩, Hb.out⟩
end Go.Proofs.YtaoggppfimfhbaaGreatDoor
