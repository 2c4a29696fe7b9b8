/- Contracts over this program. Their conditions: the slices read as the lists that are named, and lie within the sizes that are named. -/
import Derived.Test.YtndjmffnlcilbaaDoorXi
import Derived.Maps.RangeWalk
set_option linter.unusedSimpArgs false
set_option linter.unusedVariables false
set_option linter.deprecated false
set_option linter.unnecessarySimpa false
namespace Go.Proofs.YtndjmffnlcilbaaDoor
open Go Go.RowKit Go.Ix Go.Ext Go.Maps
theorem key_inv {key : Value} {kl : Lit} (h : keyOf Tryd.prog 9 key = some kl) : ∃ x : Txt, key = encStr x ∧ kl = .string x := by
  cases key with
  | string s =>
    refine ⟨s.data.toList, by simp [encStr], ?_⟩
    simp [keyOf, Tryd.underlying9, mapKey] at h
    exact h.2.symm
  | _ => simp [keyOf, Tryd.underlying9, mapKey] at h
def NewRel (w A : World) (nb nm : Nat) (D : DataW Value) (now : Fs) (f : Fi) (cnt : Nat) (wr : World) : Prop :=
  ∃ left, wr.ranges Tryd.prog 9 RV nb A.heap.size nm D left cnt ∧ (∀ p ∈ now, left (.string p.1) = false → meets f p.2 = false) ∧ Below w.heap.size w wr ∧ Below A.heap.size A wr
theorem NewRel.left {w A : World} {nb nm : Nat} {D : DataW Value} {now : Fs} {f : Fi} {cnt : Nat} {wr : World} (h : NewRel w A nb nm D now f cnt wr) : wr.rangeLeft nb A.heap.size = cnt := by
  obtain ⟨left, h, _⟩ := h
  exact h.left_eq
theorem NewRel.drewN {w A : World} {nb nm : Nat} {D : DataW Value} {now : Fs} {f : Fi} {cnt : Nat} {wr : World} (h : NewRel w A nb nm D now f cnt wr) (q : Nat) : NewRel w A nb nm D now f cnt (wr.drewN q) := by
  obtain ⟨left, h1, h2, h3, h4⟩ := h
  exact ⟨left, h1, h2, below_drewN h3 q, below_drewN h4 q⟩
set_option maxRecDepth 20000 in
set_option maxHeartbeats 2000000 in
theorem isNew_any {w : World} {B tb nb nm sb : Nat} {now : Fs} {c0 c1 c2 c4 c5 c6 c8 v : Value} (f : Fi) (hsb : w.heap[sb]? = some (.cells #[c0, c1, c2, .map (some nb), c4, c5, c6, .bool false, c8] 61 (0, 0))) (h : SMap w B tb nb nm now) (hnm : nm ≤ 1000000) (hr : w.ownsRow B 3 1 v f.secs.length (nats f.secs)) :
    Calls Tryd.prog 30 #[.pointer (some ⟨sb, 0, none⟩), fval f v] w fun e w' => e = .returned (.bool (isNew now f)) ∧ Below w.heap.size w w' := by
  obtain ⟨fo, fc, rfl, _⟩ := ownsRow_shape hr
  have h3 : w.cell? ⟨sb, 3, none⟩ = some (.map (some nb)) := by rw [cell_of_heap hsb]; rfl
  have H := Lib.hid h
  have Hr := Lib.hid hr
  have Hsb := Lib.hid hsb
  obtain ⟨D, hown, hnd, hD⟩ := h
  have HD := Lib.hid hD
  obtain ⟨A, hA⟩ : ∃ A : World, A = w.alloc (.cells #[.bool f.log, .int .i64 (f.size : Nat), .int .u32 f.sum, .slice fo f.secs.length fc] 75) := ⟨_, rfl⟩
  have hoA : Olds w A := by rw [hA]; exact Olds.alloc _ _
  have hownA : A.ownsMap Tryd.prog 9 RV nb nm D := by rw [hA]; exact hown.alloc _
  have hAs : A.heap.size = w.heap.size + 1 := by rw [hA]; simp
  have hA3 : A.cell? ⟨sb, 3, none⟩ = some (.map (some nb)) := hoA.cell h3
  have HA := Lib.hid hA
  have HoA := Lib.hid hoA
  clear hsb hr hD hA
  unfold fval
  go_enter Tryd.func30, Tryd.ntmps30
  go_upto_region 1 with fail
  rw [← HA.out]
  go_wp2_with (at_range; refine wpList_range_own _ rfl _ 57 rfl 9 75 Tryd.lawT Tryd.underlying57 RV nb nm D rfl hownA ?_; intro w0 hrg0 hg0 hs0)
  go_frame
  have HBA : Hid (Below w.heap.size w A) := Lib.hid (by rw [HA.out]; exact (Below.refl _ _).alloc (Nat.le_refl _) _)
  have HB0 : Hid (Below w.heap.size w w0) := Lib.hid (HBA.out.grown hg0 (by omega) (by simp))
  have HA0' : Hid (Below A.heap.size A w0) := Lib.hid ((Below.refl _ A).grown hg0 (Nat.le_refl _) (by simp))
  have Hrg0 := Lib.hid hrg0
  clear hrg0 hg0
  go_loopw [6] (fun _ wr => ∃ cnt, NewRel w A nb nm D now f cnt wr) (fun _ wr => wr.rangeLeft nb A.heap.size)
  case atStart =>
    refine ⟨_, _, Hrg0.out, fun p hp hl => ?_, HB0.out, HA0'.out⟩
    exfalso
    have hm := mem_look hnd (show (p.1, p.2) ∈ now from hp)
    obtain ⟨v, _, _, hat⟩ := (HD.out p.1).2 p.2 hm
    rw [has_true_of_atKey hat] at hl
    cases hl
  case round =>
    obtain ⟨cnt, hrel⟩ := hrel
    have Hrel := Lib.hid hrel
    obtain ⟨left, hrg, hmt, hb, hb2⟩ := hrel
    have HBA0 := Lib.hid hb2
    have hsz2 := hb2.size
    have Hrg := Lib.hid hrg
    have Hmt := Lib.hid hmt
    have Hb := Lib.hid hb
    have hsz := hb.size
    clear hmt hb hb2
    go_wp2_with (at_next; refine wpList_next_ranges _ rfl _ rfl 9 Tryd.lawT RV encStr id (fun key kl h => (key_inv h).imp fun x hx => hx.1) (fun v y _ => ⟨v, rfl⟩) nb A.heap.size nm D left cnt rfl hrg ?_ ?_)
    case refine_1 =>
      intro _ hl0
      have HT : Hid (isNew now f = true) := Lib.hid (by
        unfold isNew
        rw [List.all_eq_true]
        intro p hp
        rw [Hmt.out p hp (hl0 _)]
        rfl)
      clear hl0
      go_wp2_with fail
      go_ret
      exact ⟨by rw [HT.out]; rfl, Hb.out⟩
    case refine_2 =>
      intro x c kl y1 y2 w' cnt' hkey hlk hRV hat hrg1 hlt hg1 hs1 hen
      obtain ⟨x', hxx, rfl⟩ := key_inv hkey
      obtain rfl : x = x' := by simpa [encStr] using hxx
      have hhas := has_true_of_atKey hat
      obtain ⟨g, hg⟩ : ∃ g, Ext.look now x = some g := by
        cases hl : Ext.look now x with
        | none =>
          rw [(HD.out x).1 hl] at hhas
          cases hhas
        | some g => exact ⟨g, rfl⟩
      obtain ⟨r, hrr, hne, hat2⟩ := (HD.out x).2 g hg
      obtain rfl : c = fval g r := by
        simp only [RV, Option.some.injEq, Prod.mk.injEq] at hRV
        have h1 := hat (.held c)
        rw [hat2, ← hRV.1] at h1
        simpa using h1.symm
      obtain ⟨ro, rc, rfl, _⟩ := ownsRow_shape hrr
      have hrgn : A.heap.size ≤ wr.heap.size := by
        have := hrg.lt
        omega
      have HBA1 : Hid (Below A.heap.size A w') := Lib.hid (HBA0.out.grown hg1 hsz2 (by intro b hb; cases hb; omega))
      have HB1 : Hid (Below w.heap.size w w') := Lib.hid (Hb.out.grown hg1 hsz (by intro b hb; cases hb; omega))
      have Hrr := Lib.hid hrr
      have Hrg1 := Lib.hid hrg1
      have HM1 : Hid (∀ p ∈ now, (left (.string p.1) && !(Lit.string p.1).sameKey (.string x)) = false → meets f g = false → meets f p.2 = false) := Lib.hid (fun p hp hl hm => by
        cases hlp : left (.string p.1) with
        | false => exact Hmt.out p hp hlp
        | true =>
          rw [hlp] at hl
          have he : p.1 = x := by simpa [Lit.sameKey] using hl
          have h2 := mem_look hnd (show (p.1, p.2) ∈ now from hp)
          rw [he, hg] at h2
          cases h2
          exact hm)
      have HG : Hid ((x, g) ∈ now) := Lib.hid (look_mem hg)
      clear hkey hRV hat hat2 hrr hrg1 hhas hxx
      unfold fval at hen
      unfold fval
      obtain ⟨X, hX⟩ : ∃ X : World, X = w'.alloc (.cells #[.bool g.log, .int .i64 (g.size : Nat), .int .u32 g.sum, .slice ro g.secs.length rc] 75) := ⟨_, rfl⟩
      have hXo : Olds w' X := by rw [hX]; exact Olds.alloc _ _
      have hXs : X.heap[w'.heap.size]? = some (.cells #[.bool g.log, .int .i64 (g.size : Nat), .int .u32 g.sum, .slice ro g.secs.length rc] 75 (0, 0)) := by rw [hX]; exact heap_alloc_new _ _
      have hX3 : X.cell? ⟨w'.heap.size, 3, none⟩ = some (.slice ro g.secs.length rc) := by rw [cell_of_heap hXs]; rfl
      have hw1 := HB1.out.size
      have hA0 : X.cell? ⟨w.heap.size, 3, none⟩ = some (.slice fo f.secs.length fc) := by
        have h1 : A.heap[w.heap.size]? = some (.cells #[.bool f.log, .int .i64 (f.size : Nat), .int .u32 f.sum, .slice fo f.secs.length fc] 75 (0, 0)) := by rw [HA.out]; exact heap_alloc_new _ _
        have h2 : A.cell? ⟨w.heap.size, 3, none⟩ = some (.slice fo f.secs.length fc) := by rw [cell_of_heap h1]; rfl
        exact hXo.cell ((HBA1.out.cell (by rw [hAs]; exact Nat.lt_succ_self _)).trans h2)
      have HBX : Hid (Below w.heap.size w X) := Lib.hid (HB1.out.trans ((Below.refl _ w').alloc (Nat.le_refl _) _ |>.mono hw1 |> (by rw [hX]; exact ·)))
      have HBAX : Hid (Below A.heap.size A X) := Lib.hid (HBA1.out.trans ((Below.refl _ w').alloc (Nat.le_refl _) _ |>.mono HBA1.out.size |> (by rw [hX]; exact ·)))
      have HrX : Hid (X.ownsRow B 3 1 (.slice fo f.secs.length fc) f.secs.length (nats f.secs)) := Lib.hid (ownsRow_olds Hr.out (Olds.of_below HBX.out))
      have HgX : Hid (X.ownsRow B 3 1 (.slice ro g.secs.length rc) g.secs.length (nats g.secs)) := Lib.hid (ownsRow_olds Hrr.out (Olds.of_below HBX.out))
      have HrgX : Hid (X.ranges Tryd.prog 9 RV nb A.heap.size nm D (fun z => left z && !z.sameKey (.string x)) cnt') := Lib.hid (by rw [hX, hAs]; exact Hrg1.out.alloc _)
      rw [hs1] at hX3
      have HX := Lib.hid hX
      clear hX hXs hXo
      go_upto_region 4 with fail
      rw [← HX.out]
      generalize hfl : f.secs.length = fl at *
      generalize hgl : g.secs.length = gl at *
      by_cases hf0 : fl = 0
      · have hmf : Hid (meets f g = false) := Lib.hid (by
          unfold meets
          rw [List.eq_nil_of_length_eq_zero (hfl.trans hf0)])
        subst hf0
        have HR : Hid (NewRel w A nb nm D now f cnt' X) := Lib.hid ⟨_, HrgX.out, fun p hp hl => HM1.out p hp hl hmf.out, HBX.out, HBAX.out⟩
        go_quiet (fail)
        go_wp2_with fail
        go_roundw
        case rel => exact ⟨cnt', HR.out.drewN _⟩
        case measure =>
          have h1 := (HR.out.drewN nq).left
          have h2 := Hrel.out.left
          rw [hAs] at h1 h2
          try rw [hAs]
          rw [h1, h2]
          exact hlt
      · by_cases hg0 : gl = 0
        · have hmf : Hid (meets f g = false) := Lib.hid (by
            unfold meets
            rw [List.eq_nil_of_length_eq_zero (hgl.trans hg0)]
            cases f.secs <;> rfl)
          subst hg0
          have hfp : 0 < fl := by omega
          have HR : Hid (NewRel w A nb nm D now f cnt' X) := Lib.hid ⟨_, HrgX.out, fun p hp hl => HM1.out p hp hl hmf.out, HBX.out, HBAX.out⟩
          go_quiet (fail)
          go_wp2_with fail
          go_roundw
          case rel => exact ⟨cnt', HR.out.drewN _⟩
          case measure =>
            have h1 := (HR.out.drewN nq).left
            have h2 := Hrel.out.left
            rw [hAs] at h1 h2
            try rw [hAs]
            rw [h1, h2]
            exact hlt
        · obtain ⟨p, lp, hp⟩ : ∃ p lp, f.secs = p :: lp := by
            cases h : f.secs with
            | nil => rw [h] at hfl; simp at hfl; omega
            | cons p lp => exact ⟨p, lp, rfl⟩
          obtain ⟨q, lq, hq⟩ : ∃ q lq, g.secs = q :: lq := by
            cases h : g.secs with
            | nil => rw [h] at hgl; simp at hgl; omega
            | cons p lp => exact ⟨p, lp, rfl⟩
          obtain ⟨fb, rfl⟩ : ∃ fb, fo = some ⟨fb, 0, none⟩ := by
            rcases HrX.out.2 with ⟨_, h0⟩ | ⟨g, cap, cur, e, _⟩
            · omega
            · simp only [Value.slice.injEq] at e
              exact ⟨g, e.1⟩
          obtain ⟨gb, rfl⟩ : ∃ gb, ro = some ⟨gb, 0, none⟩ := by
            rcases HgX.out.2 with ⟨_, h0⟩ | ⟨g, cap, cur, e, _⟩
            · omega
            · simp only [Value.slice.injEq] at e
              exact ⟨g, e.1⟩
          have hcf : X.cell? ⟨fb, 0, none⟩ = some (.int .i64 (p : Nat)) := by
            have h1 := ownsRow_cell HrX.out 0 (.int .i64 (p : Nat)) (by simp [nats, hp])
            simpa using h1
          have hcg : X.cell? ⟨gb, 0, none⟩ = some (.int .i64 (q : Nat)) := by
            have h1 := ownsRow_cell HgX.out 0 (.int .i64 (q : Nat)) (by simp [nats, hq])
            simpa using h1
          have hmm : Hid (meets f g = (p == q)) := Lib.hid (by unfold meets; rw [hp, hq])
          have hfp : 0 < fl := by omega
          have hgp : 0 < gl := by omega
          clear hp hq
          by_cases hpq : p = q
          · have HF : Hid (isNew now f = false) := Lib.hid (by
              unfold isNew
              rw [List.all_eq_false]
              exact ⟨_, HG.out, by rw [hmm.out, hpq]; simp⟩)
            subst hpq
            go_quiet (fail)
            go_wp2_with fail
            go_ret
            exact ⟨by rw [HF.out]; rfl, below_drewN HBX.out _⟩
          · have hmf : Hid (meets f g = false) := Lib.hid (by rw [hmm.out]; simpa using hpq)
            have hpqi : ((p : Int) == (q : Int)) = false := by simp; omega
            have HR : Hid (NewRel w A nb nm D now f cnt' X) := Lib.hid ⟨_, HrgX.out, fun p hp hl => HM1.out p hp hl hmf.out, HBX.out, HBAX.out⟩
            go_quiet (fail)
            go_wp2_with fail
            simp only [hfl, hAs]
            go_roundw
            case rel => exact ⟨cnt', HR.out.drewN _⟩
            case measure =>
              have h1 := (HR.out.drewN nq).left
              have h2 := Hrel.out.left
              rw [hAs] at h1 h2
              try rw [hAs]
              rw [h1, h2]
              exact hlt
end Go.Proofs.YtndjmffnlcilbaaDoor
