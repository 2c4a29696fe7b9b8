/- Contracts over this program: Or, and the law itself. Conditions: the slices read as the lists that are named, and are of less than 2 to the 47th bytes. -/
import Derived.Test.YthoboahfogpnfaaGreatDoorPb
import Derived.Deep.RegionHeld3
import Derived.Deep.RegionLaw
import Derived.Deep.AppendLies
import Derived.StillTactics
import Derived.OwnWalk
import Derived.Laws.Pointers
import Derived.KernelRfl
import Derived.Test.YthoboahfogpnfaaGreatDoorPa
set_option linter.unusedSimpArgs false
set_option linter.unusedVariables false
set_option linter.deprecated false
set_option linter.unnecessarySimpa false
namespace Go.Proofs.YthoboahfogpnfaaGreatDoor
open Go Go.RowKit Go.Sort Go.Lib

theorem enters20 : ∀ args w, (callFunc 20 args).run Tryz.prog w = .ok (.enter 20 args) w := enters_of Tryz.func20 (by kernel_rfl) rfl
theorem info22 : (Tryz.prog.info? 22).map (fun i => (i.zero, i.size, i.bytes)) = some (some (.slice none 0 0), 1, 24) := by kernel_rfl
theorem info3 : (Tryz.prog.info? 3).map (fun i => (i.zero, i.size, i.bytes)) = some (some (.int .i64 0), 1, 8) := by kernel_rfl
theorem info76 : (Tryz.prog.info? 76).map (fun i => (i.zero, i.size, i.bytes)) = some (some (.slice none 0 0), 1, 24) := by kernel_rfl

theorem below_of_drew {w W : World} (h : Below w.drew.heap.size w.drew W) : Below w.heap.size w W := ((Below.refl _ w).drew).trans h
theorem gath_nil (L : List (List Int)) (k : Nat) (h : L[k]? = some []) : gath (L.take (k + 1)) = gath (L.take k) := by
  unfold gath
  rw [List.take_add_one, h, List.filterMap_append]
  simp
theorem gath_some (L : List (List Int)) (k : Nat) {x : List Int} (h : L[k]? = some x) (hx : x ≠ []) : gath (L.take (k + 1)) = gath (L.take k) ++ [norm x] := by
  unfold gath
  rw [List.take_add_one, h, List.filterMap_append]
  simp [hx]

set_option maxRecDepth 20000 in
set_option maxHeartbeats 1000000 in
theorem or_cells (b off c m : Nat) (vs : List Value) (L : List (List Int)) (w : World) (hm : vs.length = m) (hmax : m * 24 ≤ 140737488355328) (hc : 0 < m → CellsAt w b off vs) (hl : L.length = m)
    (hs : ∀ zs ∈ L, zs.length * 8 ≤ 140737488355328) (hflat : L.flatten.length * 8 ≤ 140737488000000)
    (hi : ∀ (i : Nat) (u : Value) (zs : List Int), vs[i]? = some u → L[i]? = some zs → IntsAt w u zs) :
    Calls Tryz.prog 7 #[.slice (some ⟨b, off, none⟩) m c] w (Fresh (orL L) w) := by
  obtain ⟨i0, hi0, hz0, hz1, hz2⟩ := info_parts info22
  have Hc := Lib.hid hc
  have Hi := Lib.hid hi
  have Hs := Lib.hid hs
  have Hl := Lib.hid hl
  have Hm := Lib.hid hm
  have Hflat := Lib.hid hflat
  obtain ⟨j0, hj0, hy0, hy1, hy2⟩ := info_parts info3
  have hm63 : m ≤ 9223372036854775807 := by omega
  clear hc hi hs hl hm hflat
  go_enter Tryz.func7, Tryz.ntmps7
  go_wp2_with fail
  go_loopw [10] (fun i W => ∃ (k : Nat) (sv : Value) (es : List El), i = .int .i64 k ∧ k ≤ m ∧ RowH W w.heap.size w.heap.size sv es ∧ es.map (·.2) = gath (L.take k) ∧ Below w.heap.size w W) (fun i _ => m - (intOf i).toNat)
  case atStart =>
    refine ⟨0, .slice none 0 0, [], rfl, Nat.zero_le _, ⟨Nat.le_refl _, heap_alloc_new w _, ⟨rfl, .inl ⟨rfl, rfl⟩⟩, fun e he => by cases he⟩, rfl, (Below.refl _ _).alloc (Nat.le_refl _) _⟩
  case round =>
    obtain ⟨k, sv, es, rfl, hk, h1, h2, h3⟩ := hrel
    have H1 := Lib.hid h1
    have H2 := Lib.hid h2
    have H3 := Lib.hid h3
    clear h2 h3
    by_cases hlt : k < m
    · obtain ⟨u, hu⟩ : ∃ u, vs[k]? = some u := ⟨_, List.getElem?_eq_getElem (by rw [Hm.out]; exact hlt)⟩
      obtain ⟨x, hx⟩ : ∃ x, L[k]? = some x := ⟨_, List.getElem?_eq_getElem (by rw [Hl.out]; exact hlt)⟩
      have hck : wr.cell? ⟨b, off + k, none⟩ = some u := (Olds.of_below H3.out).cell (Hc.out (by omega) k u hu)
      have hiu : IntsAt wr u x := (Hi.out k u x hu hx).olds (Olds.of_below H3.out)
      have hbox : wr.cell? ⟨w.heap.size, 0, none⟩ = some sv := by simp [World.cell?, h1.box]
      have hfr : wr.frozen? ⟨w.heap.size, 0, none⟩ = false := by simp [World.frozen?, h1.box]
      have hown := h1.own
      rcases hiu.cases with ⟨o, cc, rfl, rfl, _⟩ | ⟨ub, uoff, uc, rfl, hup, _⟩
      · have Hg : Hid (es.map (·.2) = gath (L.take (k + 1))) := Lib.hid (by rw [gath_nil L k hx]; exact H2.out)
        clear hx hu hiu hbox hfr hown h1
        go_wp2_with fail
        go_roundw
        case rel => exact ⟨k + 1, sv, es, by go_num, by omega, H1.out, Hg.out, H3.out⟩
        case measure => simp [intOf]; omega
      · have Hlist := Lib.hid (list_any wr hiu (Hs.out x (List.mem_of_getElem? hx)))
        have hup2 : ((x.length : Int) > 0) := by omega
        have hlx := Hs.out x (List.mem_of_getElem? hx)
        have hbl : w.heap.size < wr.heap.size := cell_lt hbox
        have hown' := Lib.hid hown
        have Hxn : Hid (x ≠ []) := Lib.hid (by intro e; rw [e] at hup; simp at hup)
        have Hxl : Hid (x.length ≤ 9223372036854775807) := Lib.hid (by omega)
        have Hg : Hid (gath (L.take (k + 1)) = gath (L.take k) ++ [norm x]) := Lib.hid (gath_some L k hx Hxn.out)
        have Hown := Lib.hid hown
        have hkk : Hid (es.length ≤ k) := Lib.hid (by
          have := congrArg List.length H2.out
          rw [List.length_map] at this
          have h5 : (gath (L.take k)).length ≤ (L.take k).length := List.length_filterMap_le _ _
          rw [List.length_take] at h5
          omega)
        have hne1 : sv.ownBlock ≠ some w.heap.size := fun h => by have := (ownsRow_block hown h).1; omega
        have Hne1 := Lib.hid hne1
        clear hown hne1
        go_wp2_with fail
        have hw1 : ∀ W : World, W.heap = wr.heap → IntsAt W (.slice (some ⟨ub, uoff, none⟩) x.length uc) x := fun W hW => hiu.olds ⟨by rw [hW]; exact Nat.le_refl _, fun k _ => by rw [hW]⟩
        have hlistF : ∀ W : World, W.heap = wr.heap → Calls Tryz.prog 20 #[.slice (some ⟨ub, uoff, none⟩) x.length uc] W (Fresh (norm x) W) := fun W hW => list_any W (hw1 W hW) hlx
        have HF := Lib.hid hlistF
        clear hw1 hlistF Hlist
        have hn63 : es.length + 1 ≤ maxLen := by have := hkk.out; unfold maxLen; omega
        have hn47 : (es.length + 1) * 24 ≤ 140737488355328 := by have := hkk.out; omega
        have Hn63 := Lib.hid hn63
        have Hn47 := Lib.hid hn47
        clear hn63 hn47
        go_region_law
          (first
            | (refine step_call1 (by rfl) 20 _ _ (by rfl) _ (by rfl) enters20 (HF.out _ (by rfl)) ?_; rintro v2 w2 ⟨ho2, hb2⟩; obtain ⟨o2, c2, rfl⟩ := ho2.shape; have hold2 : Hid (Olds wr w2) := Lib.hid (olds_drew (Olds.of_below hb2)); have hbox2 := hold2.out.cell hbox; have hs2 : wr.heap.size ≤ w2.heap.size := hold2.out.1; have Hfr2 : Hid (∀ o, (w2.alloc o).frozen? ⟨w.heap.size, 0, none⟩ = false) := Lib.hid fun o => (olds_frozen (hold2.out.trans (Olds.alloc _ _)) hbl).trans hfr; have Hbox3 : Hid (∀ o, (w2.alloc o).cell? ⟨w.heap.size, 0, none⟩ = some sv) := Lib.hid fun o => (hold2.out.trans (Olds.alloc _ _)).cell hbox; have hbox3 := Hbox3.out (.cells #[.slice o2 (norm x).length c2] 22); have Ho2 := Lib.hid ho2; have Hb2 := Lib.hid hb2; clear ho2 hb2)
            | (refine step_append_lies _ (by rfl) _ _ _ (by rfl) (w.heap.size + 1) 22 i0 _ 1 24 Tryz.underlying76 hi0 hz0 hz1 hz2 rfl Nat.one_pos sv es.length (es.map (·.1)) (by rfl) (ownsRow_olds hown'.out (hold2.out.trans (Olds.alloc _ _)))
                ⟨w2.heap.size, 0, none⟩ 1 1 [.slice o2 (norm x).length c2] (by rfl) (by rfl) (World.news_of_block (cs := #[.slice o2 (norm x).length c2]) (t := 22) (fr := (0, 0)) (heap_alloc_new w2 _)) (by simp [Value.oneCell'])
                Nat.one_pos Hn63.out Hn47.out (by simp; omega) (w2.heap.size + 1) (by simp) ?_; intro gg cap w4 hown4 hgrow hat hlt4; have hfr4 : w4.frozen? ⟨w.heap.size, 0, none⟩ = false := (hgrow.frozen_far ⟨w.heap.size, 0, none⟩ (by simp; omega) (Ne.symm Hne1.out)).trans (Hfr2.out _); have hbox4 : w4.cell? ⟨w.heap.size, 0, none⟩ = some sv := (hgrow.cell_far ⟨w.heap.size, 0, none⟩ (by simp; omega) (Ne.symm Hne1.out)).trans (Hbox3.out _); have hs4 : w2.heap.size + 1 ≤ w4.heap.size := by have := hgrow.size; simpa using this))
        all_goals
          have Hrow := fun q => Lib.hid (row_step H1.out Hxn.out Hxl.out H3.out.size Ho2.out hold2.out hown4 hgrow hat q)
          have Hbel : Hid (∀ q, Below w.heap.size w ((w4.setCell ⟨w.heap.size, 0, none⟩ (.slice (some ⟨gg, 0, none⟩) (es.length + 1) cap)).drewN q)) := Lib.hid fun q => row_below H3.out hbl hold2.out (below_of_drew Hb2.out) hgrow Hown.out q
          go_wp2_with fail
          go_roundw
          case rel => exact ⟨k + 1, _, es ++ [(_, norm x)], by go_num, by omega, (Hrow 0).out, by rw [List.map_append, H2.out, Hg.out]; rfl, Hbel.out 0⟩
          case measure => simp [intOf]; omega
    · have Hall : Hid (es.map (·.2) = gath L) := Lib.hid (by
        have h := H2.out
        rw [List.take_of_length_le (by rw [Hl.out]; omega)] at h
        exact h)
      cases es with
      | nil =>
        obtain ⟨o, cc, rfl⟩ := rowH_nil h1
        have hbox : wr.cell? ⟨w.heap.size, 0, none⟩ = some (.slice o 0 cc) := by simp [World.cell?, h1.box]
        have Hf : Hid (Fresh (orL L) w (.returned (.slice none 0 0)) wr) := Lib.hid (by
          have h := merged_end (merged_start (es' := []) Hall.out (List.Perm.refl _) (fun c h1 h2 h3 => by simp at h2))
          exact ⟨_, rfl, h ▸ Owns.nil _ _, H3.out⟩)
        clear h1
        go_wp2_with fail
        refine (init_empty wr hbox).mono ?_
        rintro e w' ⟨rfl, rfl⟩
        go_wp2_with fail
        go_loop [6] (fun ov => ov = .slice none 0 0) (fun _ => 0)
        case atStart => rfl
        case round =>
          obtain rfl := hrel
          go_wp2_with fail
          go_ret
          exact Hf.out
      | cons e0 es0 =>
        obtain ⟨g, cap, rfl, hheap⟩ := rowH_heap h1 (by simp)
        have Hin := Lib.hid (init_any hheap (by
          have := congrArg List.length Hall.out
          rw [List.length_map] at this
          have h5 : (gath L).length ≤ L.length := List.length_filterMap_le _ _
          rw [this]
          have := Hl.out
          omega) (fun e he => (h1.els e he).1))
        clear h1 hheap
        go_wp2_with fail
        refine Hin.out.mono ?_
        rintro e w2 ⟨es2, rfl, h4, h5, h6, h7⟩
        have Hmg : Hid (Mg w w2 w.heap.size g cap (.slice none 0 0) [] es2) := Lib.hid ⟨h4, Owns.nil _ _, ⟨by simp [Value.ownBlock], by simp [Value.ownBlock], fun e _ b off n c _ => by simp [Value.ownBlock]⟩, H3.out.trans (h5.below h4.lo.1 h4.lo.2.1)⟩
        have Hmr := Lib.hid (merged_start Hall.out h6 h7)
        have Hlen0 : Hid (es2.length ≤ 10000000000000) := Lib.hid (by
          rw [h6.length_eq]
          have := congrArg List.length Hall.out
          rw [List.length_map] at this
          have h5 : (gath L).length ≤ L.length := List.length_filterMap_le _ _
          rw [this]
          have := Hl.out
          omega)
        clear h4 h5 h6 h7
        go_wp2_with fail
        go_loopg [6] (total es2) (fun gh ov W => ∃ out es, Mg w W w.heap.size g cap ov out es ∧ Merged (anyOf L) out es ∧ total es ≤ gh ∧ es.length ≤ 10000000000000)
        case atStart => exact ⟨[], es2, Hmg.out, Hmr.out, Nat.le_refl _, Hlen0.out⟩
        case round =>
          obtain ⟨out, es, hmg, hmr, htot, hesl⟩ := hrel
          have Hesl := Lib.hid hesl
          clear hesl
          obtain ⟨oo, oc, rfl⟩ := hmg.own.shape
          have hbox := hmg.heap.boxCell
          have Hmg := Lib.hid hmg
          have Hmr := Lib.hid hmr
          have Htot := Lib.hid htot
          clear htot
          cases es with
          | nil =>
            have Hf : Hid (Fresh (orL L) w (.returned (.slice oo out.length oc)) wr) := Lib.hid ⟨_, rfl, merged_end hmr ▸ hmg.own, hmg.bel⟩
            clear hmg hmr
            simp only [List.length_nil] at hbox
            go_wp2_with fail
            go_ret
            exact Hf.out
          | cons e0 es1 =>
            have hc0 := (hmg.heap.cell (i := 0) (e := e0) rfl).1
            obtain ⟨b0, off0, c0, q1, q2, q3, q4, q5⟩ := (hmg.heap.els e0 (by simp)).at_
            obtain ⟨x, xs, hx⟩ : ∃ x xs, e0.2 = x :: xs := by
              cases hz : e0.2 with
              | nil => exact absurd hz (hmr.rows e0 (by simp)).2
              | cons x xs => exact ⟨x, xs, rfl⟩
            have hcx := q3 0 x (by rw [hx]; rfl)
            rw [q1, hx] at hc0
            simp only [List.length_cons, Nat.add_zero] at hbox hc0 hcx
            have hown := hmg.own
            have hn63 : out.length + 1 ≤ maxLen := by have := out_len hmr; have := Hflat.out; unfold maxLen; omega
            have hn47 : (out.length + 1) * 8 ≤ 140737488355328 := by have := out_len hmr; have := Hflat.out; omega
            have hbw : w.heap.size ≤ wr.heap.size := hmg.bel.size
            have Hown := Lib.hid hown
            have Hn63 := Lib.hid hn63
            have Hn47 := Lib.hid hn47
            have Hel : Hid (ElAt wr w.heap.size g e0) := Lib.hid (hmg.heap.els e0 (by simp))
            have Q1 := Lib.hid q1
            have Hx := Lib.hid hx
            clear hmg hmr q1 q2 q3 q4 q5 hown hn63 hn47 hx
            by_cases hout : out.length = 0
            · have e0b : ((out.length : Int) == 0) = true := by rw [hout]; rfl
              have Hout := Lib.hid hout
              have Hpush : Hid (push out x = out ++ [x]) := Lib.hid (by
                have : out = [] := List.eq_nil_of_length_eq_zero hout
                subst this
                rfl)
              clear hout
              go_wp2_with (at_builtin; refine wpList_append_lies _ rfl _ _ _ rfl w.heap.size 3 j0 _ 1 8 Tryz.underlying22 hj0 hy0 hy1 hy2 rfl Nat.one_pos (.slice oo out.length oc) out.length (out.map (Value.int .i64)) rfl (ownsRow_olds Hown.out (Olds.alloc _ _)) ⟨wr.heap.size, 0, none⟩ 1 1 [.int .i64 x] rfl rfl (World.news_of_block (cs := #[.int .i64 x]) (t := 3) (fr := (0, 0)) (heap_alloc_new wr _)) (by simp [Value.oneCell']) Nat.one_pos Hn63.out Hn47.out (by simp; omega) (wr.heap.size + 1) (by simp) ?_; intro gg cap2 w4 hown4 hgrow hat hlt4)
              have Hm4 := Lib.hid (Mg.append Hmg.out hown4 hgrow hat (fun e he => (Hmr.out.rows e he).2))
              have hbox4 : w4.cell? ⟨w.heap.size, 0, none⟩ = some (.slice (some ⟨g, 0, none⟩) (es1.length + 1) cap) := Hm4.out.heap.boxCell
              have hc4 : w4.cell? ⟨g, 0, none⟩ = some (.slice (some ⟨b0, off0, none⟩) (xs.length + 1) c0) := by
                have := (Hm4.out.heap.cell (i := 0) (e := e0) rfl).1
                rw [Q1.out, Hx.out] at this
                exact this
              have hf4 : w4.frozen? ⟨g, 0, none⟩ = false := (Hm4.out.heap.cell (i := 0) (e := e0) rfl).2
              clear hown4 hgrow hat hlt4
              by_cases hcap : c0 = 1
              · have hxs : xs = [] := by
                  obtain ⟨b', off', c', q1, q2, _⟩ := Hel.out.at_
                  have := Q1.out.symm.trans q1
                  rw [Hx.out] at q2 this
                  simp only [Value.slice.injEq] at this
                  simp at q2
                  exact List.eq_nil_of_length_eq_zero (by omega)
                subst hxs
                subst hcap
                go_region
                all_goals
                  have Hv : Hid (ElAt w4 w.heap.size g (.slice (some ⟨b0, off0, none⟩) 0 0, [])) := Lib.hid (by
                    obtain ⟨b', off', c', q1, q2, q3, q4, q5⟩ := Hel.out.at_
                    have := Q1.out.symm.trans q1
                    simp only [Value.slice.injEq, Option.some.injEq, Addr.mk.injEq, and_true] at this
                    obtain ⟨⟨rfl, rfl⟩, _, _⟩ := this
                    exact ⟨Nat.zero_le _, b0, off0, 0, rfl, Nat.zero_le _, fun j z hz => by simp at hz, q4, q5⟩)
                  have Hc5 := Lib.hid (Hm4.out.cutFirst (e0 := e0) rfl Hv.out (fun bb oo2 nn cc e1 => by
                    simp only [Value.slice.injEq, Option.some.injEq, Addr.mk.injEq, and_true] at e1
                    obtain ⟨⟨rfl, rfl⟩, _, _⟩ := e1
                    exact Hm4.out.far.2.2 e0 (by simp) b0 off0 _ 1 Q1.out) 0)
                  have hb5 : (w4.setCell ⟨g, 0, none⟩ (.slice (some ⟨b0, off0, none⟩) 0 0)).cell? ⟨w.heap.size, 0, none⟩ = some (.slice (some ⟨g, 0, none⟩) (es1.length + 1) cap) := Hc5.out.heap.boxCell
                  have hg5 : (w4.setCell ⟨g, 0, none⟩ (.slice (some ⟨b0, off0, none⟩) 0 0)).cell? ⟨g, 0, none⟩ = some (.slice (some ⟨b0, off0, none⟩) 0 0) := (Hc5.out.heap.cell (i := 0) (e := (.slice (some ⟨b0, off0, none⟩) 0 0, [])) rfl).1
                  have Hc6 := Lib.hid (Hm4.out.cutFirst (e0 := e0) rfl Hv.out (fun bb oo2 nn cc e1 => by
                    simp only [Value.slice.injEq, Option.some.injEq, Addr.mk.injEq, and_true] at e1
                    obtain ⟨⟨rfl, rfl⟩, _, _⟩ := e1
                    exact Hm4.out.far.2.2 e0 (by simp) b0 off0 _ 1 Q1.out) 1)
                  have Hpop := Lib.hid (heappop_any (m := es1.length) Hc6.out.heap (by simp) (by have := Hesl.out; simp at this; omega) (fun cc e h1 he => by
                    cases cc with
                    | zero => omega
                    | succ cc => exact (Hmr.out.rows e (List.mem_cons_of_mem _ (List.mem_of_getElem? (by simpa using he)))).2))
                  go_wp2_with fail
                  refine Hpop.out.mono ?_
                  rintro e w5 ⟨es5, v5, rfl, h1, h2, h3⟩
                  have Hm5 : Hid (Mg w w5 w.heap.size g cap (.slice (some ⟨gg, 0, none⟩) (out.length + 1) cap2) (out ++ [x]) es5) := Lib.hid (Hc6.out.heapOp h1 h2 (fun e he => by
                    obtain ⟨e9, _, h4, _⟩ := h3
                    exact h4.mem_iff.1 (List.mem_append_left _ he)))
                  have Hr5 : Hid (Merged (anyOf L) (out ++ [x]) es5) := Lib.hid (Hpush.out ▸ Hmr.out.pop (e0 := e0) rfl Hx.out h3)
                  have Ht5 : Hid (total es5 < gk) := Lib.hid (by
                    have h4 := total_popped h3
                    have h5 := total_set (es := e0 :: es1) (e0 := e0) (v := .slice (some ⟨b0, off0, none⟩) 0 0) rfl Hx.out
                    have := Htot.out
                    omega)
                  have Hl5 : Hid (es5.length ≤ 10000000000000) := Lib.hid (by
                    obtain ⟨e9, _, h4, _⟩ := h3
                    have h5 := h4.length_eq
                    rw [List.length_append, List.length_set] at h5
                    have := Hesl.out
                    omega)
                  clear h1 h2 h3
                  go_wp2_with fail
                  go_roundg (total es5)
                  case measure => exact Ht5.out
                  case rel => exact ⟨(out ++ [x]), es5, Hm5.out, Hr5.out, Nat.le_refl _, Hl5.out⟩
              · have hcap1 : (xs.length : Int) + 1 ≤ (c0 : Int) := by
                  obtain ⟨b', off', c', q1, q2, _⟩ := Hel.out.at_
                  have := Q1.out.symm.trans q1
                  rw [Hx.out] at q2 this
                  simp only [Value.slice.injEq] at this
                  simp at q2
                  omega
                go_region
                all_goals
                  cases xs with
                  | nil =>
                    have Hv : Hid (ElAt w4 w.heap.size g (.slice (some ⟨b0, off0 + 1, none⟩) 0 (c0 - 1), [])) := Lib.hid (by
                      obtain ⟨b', off', c', q1, q2, q3, q4, q5⟩ := Hel.out.at_
                      have := Q1.out.symm.trans q1
                      simp only [Value.slice.injEq, Option.some.injEq, Addr.mk.injEq, and_true] at this
                      obtain ⟨⟨rfl, rfl⟩, _, _⟩ := this
                      exact ⟨Nat.zero_le _, b0, off0 + 1, c0 - 1, rfl, Nat.zero_le _, fun j z hz => by simp at hz, q4, q5⟩)
                    have Hc5 := Lib.hid (Hm4.out.cutFirst (e0 := e0) rfl Hv.out (fun bb oo2 nn cc e1 => by
                      simp only [Value.slice.injEq, Option.some.injEq, Addr.mk.injEq, and_true] at e1
                      obtain ⟨⟨rfl, rfl⟩, _, _⟩ := e1
                      exact Hm4.out.far.2.2 e0 (by simp) b0 off0 _ c0 Q1.out) 0)
                    have hb5 : (w4.setCell ⟨g, 0, none⟩ (.slice (some ⟨b0, off0 + 1, none⟩) 0 (c0 - 1))).cell? ⟨w.heap.size, 0, none⟩ = some (.slice (some ⟨g, 0, none⟩) (es1.length + 1) cap) := Hc5.out.heap.boxCell
                    have hg5 : (w4.setCell ⟨g, 0, none⟩ (.slice (some ⟨b0, off0 + 1, none⟩) 0 (c0 - 1))).cell? ⟨g, 0, none⟩ = some (.slice (some ⟨b0, off0 + 1, none⟩) 0 (c0 - 1)) := (Hc5.out.heap.cell (i := 0) (e := (.slice (some ⟨b0, off0 + 1, none⟩) 0 (c0 - 1), [])) rfl).1
                    have Hc6 := Lib.hid (Hm4.out.cutFirst (e0 := e0) rfl Hv.out (fun bb oo2 nn cc e1 => by
                      simp only [Value.slice.injEq, Option.some.injEq, Addr.mk.injEq, and_true] at e1
                      obtain ⟨⟨rfl, rfl⟩, _, _⟩ := e1
                      exact Hm4.out.far.2.2 e0 (by simp) b0 off0 _ c0 Q1.out) 1)
                    have Hpop := Lib.hid (heappop_any (m := es1.length) Hc6.out.heap (by simp) (by have := Hesl.out; simp at this; omega) (fun cc e h1 he => by
                      cases cc with
                      | zero => omega
                      | succ cc => exact (Hmr.out.rows e (List.mem_cons_of_mem _ (List.mem_of_getElem? (by simpa using he)))).2))
                    go_wp2_with fail
                    refine Hpop.out.mono ?_
                    rintro e w5 ⟨es5, v5, rfl, h1, h2, h3⟩
                    have Hm5 : Hid (Mg w w5 w.heap.size g cap (.slice (some ⟨gg, 0, none⟩) (out.length + 1) cap2) (out ++ [x]) es5) := Lib.hid (Hc6.out.heapOp h1 h2 (fun e he => by
                      obtain ⟨e9, _, h4, _⟩ := h3
                      exact h4.mem_iff.1 (List.mem_append_left _ he)))
                    have Hr5 : Hid (Merged (anyOf L) (out ++ [x]) es5) := Lib.hid (Hpush.out ▸ Hmr.out.pop (e0 := e0) rfl Hx.out h3)
                    have Ht5 : Hid (total es5 < gk) := Lib.hid (by
                      have h4 := total_popped h3
                      have h5 := total_set (es := e0 :: es1) (e0 := e0) (v := .slice (some ⟨b0, off0 + 1, none⟩) 0 (c0 - 1)) rfl Hx.out
                      have := Htot.out
                      omega)
                    have Hl5 : Hid (es5.length ≤ 10000000000000) := Lib.hid (by
                      obtain ⟨e9, _, h4, _⟩ := h3
                      have h5 := h4.length_eq
                      rw [List.length_append, List.length_set] at h5
                      have := Hesl.out
                      omega)
                    clear h1 h2 h3
                    go_wp2_with fail
                    go_roundg (total es5)
                    case measure => exact Ht5.out
                    case rel => exact ⟨(out ++ [x]), es5, Hm5.out, Hr5.out, Nat.le_refl _, Hl5.out⟩
                  | cons y ys =>
                    have Hv : Hid (ElAt w4 w.heap.size g (.slice (some ⟨b0, off0 + 1, none⟩) (ys.length + 1) (c0 - 1), y :: ys)) := Lib.hid (by
                      obtain ⟨b', off', c', q1, q2, q3, q4, q5⟩ := (Hm4.out.heap.els e0 (by simp)).at_
                      have hlen := Hel.out.len
                      have := Q1.out.symm.trans q1
                      rw [Hx.out] at q2 q3 this hlen
                      simp only [Value.slice.injEq, Option.some.injEq, Addr.mk.injEq, and_true, true_and] at this
                      obtain ⟨⟨rfl, rfl⟩, rfl⟩ := this
                      simp only [List.length_cons] at q2 hlen
                      refine ⟨by simp; omega, b0, off0 + 1, c0 - 1, rfl, by simp; omega, fun j z hz => ?_, q4, q5⟩
                      have := q3 (j + 1) z (by simpa using hz)
                      rw [show off0 + 1 + j = off0 + (j + 1) by omega]
                      exact this)
                    have Hfar : Hid (Apart (.slice (some ⟨gg, 0, none⟩) (out.length + 1) cap2) (.slice (some ⟨b0, off0 + 1, none⟩) (ys.length + 1) (c0 - 1), y :: ys)) := Lib.hid (fun bb oo2 nn cc e1 => by
                      simp only [Value.slice.injEq, Option.some.injEq, Addr.mk.injEq, and_true] at e1
                      obtain ⟨⟨rfl, rfl⟩, _, _⟩ := e1
                      exact Hm4.out.far.2.2 e0 (by simp) b0 off0 _ c0 Q1.out)
                    have Hc5 := Lib.hid (Hm4.out.cutFirst (e0 := e0) rfl Hv.out Hfar.out 0)
                    have hb5 : (w4.setCell ⟨g, 0, none⟩ (.slice (some ⟨b0, off0 + 1, none⟩) (ys.length + 1) (c0 - 1))).cell? ⟨w.heap.size, 0, none⟩ = some (.slice (some ⟨g, 0, none⟩) (es1.length + 1) cap) := Hc5.out.heap.boxCell
                    have hg5 : (w4.setCell ⟨g, 0, none⟩ (.slice (some ⟨b0, off0 + 1, none⟩) (ys.length + 1) (c0 - 1))).cell? ⟨g, 0, none⟩ = some (.slice (some ⟨b0, off0 + 1, none⟩) (ys.length + 1) (c0 - 1)) := (Hc5.out.heap.cell (i := 0) (e := (.slice (some ⟨b0, off0 + 1, none⟩) (ys.length + 1) (c0 - 1), y :: ys)) rfl).1
                    have Hc6 := Lib.hid (Hm4.out.cutFirst (e0 := e0) rfl Hv.out Hfar.out 1)
                    have Hfix := Lib.hid (fix_zero Hc6.out.heap (by rw [List.length_set]; have := Hesl.out; omega) (fun cc e _ he => by
                      rcases List.mem_or_eq_of_mem_set (List.mem_of_getElem? he) with he | rfl
                      · exact (Hmr.out.rows e he).2
                      · simp))
                    go_wp2_with fail
                    refine Hfix.out.mono ?_
                    rintro e w5 ⟨es5, rfl, h1, h2, h3⟩
                    rw [List.length_set] at h3
                    have Hm5 : Hid (Mg w w5 w.heap.size g cap (.slice (some ⟨gg, 0, none⟩) (out.length + 1) cap2) (out ++ [x]) es5) := Lib.hid (Hc6.out.heapOp h1 h2 (fun e he => h3.1.mem_iff.1 he))
                    have Hr5 : Hid (Merged (anyOf L) (out ++ [x]) es5) := Lib.hid (Hpush.out ▸ Hmr.out.fix (e0 := e0) rfl Hx.out h3)
                    have Ht5 : Hid (total es5 < gk) := Lib.hid (by
                      have h4 := total_perm h3.1
                      have h5 := total_set (es := e0 :: es1) (e0 := e0) (v := .slice (some ⟨b0, off0 + 1, none⟩) (ys.length + 1) (c0 - 1)) rfl Hx.out
                      have := Htot.out
                      omega)
                    have Hl5 : Hid (es5.length ≤ 10000000000000) := Lib.hid (by
                      rw [h3.1.length_eq, List.length_set]
                      exact Hesl.out)
                    clear h1 h2 h3
                    go_wp2_with fail
                    go_roundg (total es5)
                    case measure => exact Ht5.out
                    case rel => exact ⟨(out ++ [x]), es5, Hm5.out, Hr5.out, Nat.le_refl _, Hl5.out⟩
            · obtain ⟨p, hp⟩ : ∃ p, out.length = p + 1 := ⟨out.length - 1, by omega⟩
              obtain ⟨l, hl⟩ : ∃ l, out[p]? = some l := ⟨_, List.getElem?_eq_getElem (by omega)⟩
              have hlast : out.getLast? = some l := by rw [List.getLast?_eq_getElem?, hp]; exact hl
              obtain ⟨ob, hob, hcl⟩ : ∃ ob, oo = some ⟨ob, 0, none⟩ ∧ wr.cell? ⟨ob, p, none⟩ = some (.int .i64 l) := by
                rcases Hown.out.cases with ⟨_, e2⟩ | ⟨g2, cap2, e1, k1, k2, k3, k4, k5⟩
                · rw [e2] at hp; simp at hp
                · simp only [Value.slice.injEq, true_and] at e1
                  refine ⟨g2, e1.1, ?_⟩
                  have hj := (k5 p (by simp; omega)).1
                  rw [Nat.zero_add] at hj
                  rw [hj]
                  obtain ⟨hj', rfl⟩ := List.getElem?_eq_some_iff.1 hl
                  simp [hj']
              subst hob
              have e0b : ((p : Int) + 1 == 0) = false := by simp; omega
              have Hp := Lib.hid hp
              have hpb : p + 1 ≤ 9223372036854775807 := by have h := Hn63.out; rw [hp] at h; unfold maxLen at h; omega
              have Hown2 : Hid (wr.ownsRow w.heap.size 3 1 (.slice (some ⟨ob, 0, none⟩) (p + 1) oc) (p + 1) (out.map (Value.int .i64))) := Lib.hid (by rw [← hp]; exact Hown.out)
              have Hmg2 : Hid (Mg w wr w.heap.size g cap (.slice (some ⟨ob, 0, none⟩) (p + 1) oc) out (e0 :: es1)) := Lib.hid (by rw [← hp]; exact Hmg.out)
              have Hn632 : Hid (p + 1 + 1 ≤ maxLen) := Lib.hid (by rw [← hp]; exact Hn63.out)
              have Hn472 : Hid ((p + 1 + 1) * 8 ≤ 140737488355328) := Lib.hid (by rw [← hp]; exact Hn47.out)
              clear Hown Hmg Hn63 Hn47
              rw [hp]
              clear hp hl hout
              have Hlast := Lib.hid hlast
              clear hlast
              by_cases hlx : l = x
              · subst hlx
                have Hpush : Hid (push out l = out) := Lib.hid (by unfold push; rw [if_pos Hlast.out])
                have elx : (l != l) = false := by simp
                go_wp2_with fail
                have Hm4 := Hmg2
                have hbox4 : wr.cell? ⟨w.heap.size, 0, none⟩ = some (.slice (some ⟨g, 0, none⟩) (es1.length + 1) cap) := Hm4.out.heap.boxCell
                have hc4 : wr.cell? ⟨g, 0, none⟩ = some (.slice (some ⟨b0, off0, none⟩) (xs.length + 1) c0) := by
                  have := (Hm4.out.heap.cell (i := 0) (e := e0) rfl).1
                  rw [Q1.out, Hx.out] at this
                  exact this
                have hf4 : wr.frozen? ⟨g, 0, none⟩ = false := (Hm4.out.heap.cell (i := 0) (e := e0) rfl).2
                by_cases hcap : c0 = 1
                · have hxs : xs = [] := by
                    obtain ⟨b', off', c', q1, q2, _⟩ := Hel.out.at_
                    have := Q1.out.symm.trans q1
                    rw [Hx.out] at q2 this
                    simp only [Value.slice.injEq] at this
                    simp at q2
                    exact List.eq_nil_of_length_eq_zero (by omega)
                  subst hxs
                  subst hcap
                  go_region
                  all_goals
                    have Hv : Hid (ElAt wr w.heap.size g (.slice (some ⟨b0, off0, none⟩) 0 0, [])) := Lib.hid (by
                      obtain ⟨b', off', c', q1, q2, q3, q4, q5⟩ := Hel.out.at_
                      have := Q1.out.symm.trans q1
                      simp only [Value.slice.injEq, Option.some.injEq, Addr.mk.injEq, and_true] at this
                      obtain ⟨⟨rfl, rfl⟩, _, _⟩ := this
                      exact ⟨Nat.zero_le _, b0, off0, 0, rfl, Nat.zero_le _, fun j z hz => by simp at hz, q4, q5⟩)
                    have Hc5 := Lib.hid (Hm4.out.cutFirst (e0 := e0) rfl Hv.out (fun bb oo2 nn cc e1 => by
                      simp only [Value.slice.injEq, Option.some.injEq, Addr.mk.injEq, and_true] at e1
                      obtain ⟨⟨rfl, rfl⟩, _, _⟩ := e1
                      exact Hm4.out.far.2.2 e0 (by simp) b0 off0 _ 1 Q1.out) 0)
                    have hb5 : (wr.setCell ⟨g, 0, none⟩ (.slice (some ⟨b0, off0, none⟩) 0 0)).cell? ⟨w.heap.size, 0, none⟩ = some (.slice (some ⟨g, 0, none⟩) (es1.length + 1) cap) := Hc5.out.heap.boxCell
                    have hg5 : (wr.setCell ⟨g, 0, none⟩ (.slice (some ⟨b0, off0, none⟩) 0 0)).cell? ⟨g, 0, none⟩ = some (.slice (some ⟨b0, off0, none⟩) 0 0) := (Hc5.out.heap.cell (i := 0) (e := (.slice (some ⟨b0, off0, none⟩) 0 0, [])) rfl).1
                    have Hc6 := Lib.hid (Hm4.out.cutFirst (e0 := e0) rfl Hv.out (fun bb oo2 nn cc e1 => by
                      simp only [Value.slice.injEq, Option.some.injEq, Addr.mk.injEq, and_true] at e1
                      obtain ⟨⟨rfl, rfl⟩, _, _⟩ := e1
                      exact Hm4.out.far.2.2 e0 (by simp) b0 off0 _ 1 Q1.out) 1)
                    have Hpop := Lib.hid (heappop_any (m := es1.length) Hc6.out.heap (by simp) (by have := Hesl.out; simp at this; omega) (fun cc e h1 he => by
                      cases cc with
                      | zero => omega
                      | succ cc => exact (Hmr.out.rows e (List.mem_cons_of_mem _ (List.mem_of_getElem? (by simpa using he)))).2))
                    go_wp2_with fail
                    refine Hpop.out.mono ?_
                    rintro e w5 ⟨es5, v5, rfl, h1, h2, h3⟩
                    have Hm5 : Hid (Mg w w5 w.heap.size g cap (.slice (some ⟨ob, 0, none⟩) (p + 1) oc) out es5) := Lib.hid (Hc6.out.heapOp h1 h2 (fun e he => by
                      obtain ⟨e9, _, h4, _⟩ := h3
                      exact h4.mem_iff.1 (List.mem_append_left _ he)))
                    have Hr5 : Hid (Merged (anyOf L) out es5) := Lib.hid (Hpush.out ▸ Hmr.out.pop (e0 := e0) rfl Hx.out h3)
                    have Ht5 : Hid (total es5 < gk) := Lib.hid (by
                      have h4 := total_popped h3
                      have h5 := total_set (es := e0 :: es1) (e0 := e0) (v := .slice (some ⟨b0, off0, none⟩) 0 0) rfl Hx.out
                      have := Htot.out
                      omega)
                    have Hl5 : Hid (es5.length ≤ 10000000000000) := Lib.hid (by
                      obtain ⟨e9, _, h4, _⟩ := h3
                      have h5 := h4.length_eq
                      rw [List.length_append, List.length_set] at h5
                      have := Hesl.out
                      omega)
                    clear h1 h2 h3
                    go_wp2_with fail
                    go_roundg (total es5)
                    case measure => exact Ht5.out
                    case rel => exact ⟨out, es5, Hm5.out, Hr5.out, Nat.le_refl _, Hl5.out⟩
                · have hcap1 : (xs.length : Int) + 1 ≤ (c0 : Int) := by
                    obtain ⟨b', off', c', q1, q2, _⟩ := Hel.out.at_
                    have := Q1.out.symm.trans q1
                    rw [Hx.out] at q2 this
                    simp only [Value.slice.injEq] at this
                    simp at q2
                    omega
                  go_region
                  all_goals
                    cases xs with
                    | nil =>
                      have Hv : Hid (ElAt wr w.heap.size g (.slice (some ⟨b0, off0 + 1, none⟩) 0 (c0 - 1), [])) := Lib.hid (by
                        obtain ⟨b', off', c', q1, q2, q3, q4, q5⟩ := Hel.out.at_
                        have := Q1.out.symm.trans q1
                        simp only [Value.slice.injEq, Option.some.injEq, Addr.mk.injEq, and_true] at this
                        obtain ⟨⟨rfl, rfl⟩, _, _⟩ := this
                        exact ⟨Nat.zero_le _, b0, off0 + 1, c0 - 1, rfl, Nat.zero_le _, fun j z hz => by simp at hz, q4, q5⟩)
                      have Hc5 := Lib.hid (Hm4.out.cutFirst (e0 := e0) rfl Hv.out (fun bb oo2 nn cc e1 => by
                        simp only [Value.slice.injEq, Option.some.injEq, Addr.mk.injEq, and_true] at e1
                        obtain ⟨⟨rfl, rfl⟩, _, _⟩ := e1
                        exact Hm4.out.far.2.2 e0 (by simp) b0 off0 _ c0 Q1.out) 0)
                      have hb5 : (wr.setCell ⟨g, 0, none⟩ (.slice (some ⟨b0, off0 + 1, none⟩) 0 (c0 - 1))).cell? ⟨w.heap.size, 0, none⟩ = some (.slice (some ⟨g, 0, none⟩) (es1.length + 1) cap) := Hc5.out.heap.boxCell
                      have hg5 : (wr.setCell ⟨g, 0, none⟩ (.slice (some ⟨b0, off0 + 1, none⟩) 0 (c0 - 1))).cell? ⟨g, 0, none⟩ = some (.slice (some ⟨b0, off0 + 1, none⟩) 0 (c0 - 1)) := (Hc5.out.heap.cell (i := 0) (e := (.slice (some ⟨b0, off0 + 1, none⟩) 0 (c0 - 1), [])) rfl).1
                      have Hc6 := Lib.hid (Hm4.out.cutFirst (e0 := e0) rfl Hv.out (fun bb oo2 nn cc e1 => by
                        simp only [Value.slice.injEq, Option.some.injEq, Addr.mk.injEq, and_true] at e1
                        obtain ⟨⟨rfl, rfl⟩, _, _⟩ := e1
                        exact Hm4.out.far.2.2 e0 (by simp) b0 off0 _ c0 Q1.out) 1)
                      have Hpop := Lib.hid (heappop_any (m := es1.length) Hc6.out.heap (by simp) (by have := Hesl.out; simp at this; omega) (fun cc e h1 he => by
                        cases cc with
                        | zero => omega
                        | succ cc => exact (Hmr.out.rows e (List.mem_cons_of_mem _ (List.mem_of_getElem? (by simpa using he)))).2))
                      go_wp2_with fail
                      refine Hpop.out.mono ?_
                      rintro e w5 ⟨es5, v5, rfl, h1, h2, h3⟩
                      have Hm5 : Hid (Mg w w5 w.heap.size g cap (.slice (some ⟨ob, 0, none⟩) (p + 1) oc) out es5) := Lib.hid (Hc6.out.heapOp h1 h2 (fun e he => by
                        obtain ⟨e9, _, h4, _⟩ := h3
                        exact h4.mem_iff.1 (List.mem_append_left _ he)))
                      have Hr5 : Hid (Merged (anyOf L) out es5) := Lib.hid (Hpush.out ▸ Hmr.out.pop (e0 := e0) rfl Hx.out h3)
                      have Ht5 : Hid (total es5 < gk) := Lib.hid (by
                        have h4 := total_popped h3
                        have h5 := total_set (es := e0 :: es1) (e0 := e0) (v := .slice (some ⟨b0, off0 + 1, none⟩) 0 (c0 - 1)) rfl Hx.out
                        have := Htot.out
                        omega)
                      have Hl5 : Hid (es5.length ≤ 10000000000000) := Lib.hid (by
                        obtain ⟨e9, _, h4, _⟩ := h3
                        have h5 := h4.length_eq
                        rw [List.length_append, List.length_set] at h5
                        have := Hesl.out
                        omega)
                      clear h1 h2 h3
                      go_wp2_with fail
                      go_roundg (total es5)
                      case measure => exact Ht5.out
                      case rel => exact ⟨out, es5, Hm5.out, Hr5.out, Nat.le_refl _, Hl5.out⟩
                    | cons y ys =>
                      have Hv : Hid (ElAt wr w.heap.size g (.slice (some ⟨b0, off0 + 1, none⟩) (ys.length + 1) (c0 - 1), y :: ys)) := Lib.hid (by
                        obtain ⟨b', off', c', q1, q2, q3, q4, q5⟩ := (Hm4.out.heap.els e0 (by simp)).at_
                        have hlen := Hel.out.len
                        have := Q1.out.symm.trans q1
                        rw [Hx.out] at q2 q3 this hlen
                        simp only [Value.slice.injEq, Option.some.injEq, Addr.mk.injEq, and_true, true_and] at this
                        obtain ⟨⟨rfl, rfl⟩, rfl⟩ := this
                        simp only [List.length_cons] at q2 hlen
                        refine ⟨by simp; omega, b0, off0 + 1, c0 - 1, rfl, by simp; omega, fun j z hz => ?_, q4, q5⟩
                        have := q3 (j + 1) z (by simpa using hz)
                        rw [show off0 + 1 + j = off0 + (j + 1) by omega]
                        exact this)
                      have Hfar : Hid (Apart (.slice (some ⟨ob, 0, none⟩) (p + 1) oc) (.slice (some ⟨b0, off0 + 1, none⟩) (ys.length + 1) (c0 - 1), y :: ys)) := Lib.hid (fun bb oo2 nn cc e1 => by
                        simp only [Value.slice.injEq, Option.some.injEq, Addr.mk.injEq, and_true] at e1
                        obtain ⟨⟨rfl, rfl⟩, _, _⟩ := e1
                        exact Hm4.out.far.2.2 e0 (by simp) b0 off0 _ c0 Q1.out)
                      have Hc5 := Lib.hid (Hm4.out.cutFirst (e0 := e0) rfl Hv.out Hfar.out 0)
                      have hb5 : (wr.setCell ⟨g, 0, none⟩ (.slice (some ⟨b0, off0 + 1, none⟩) (ys.length + 1) (c0 - 1))).cell? ⟨w.heap.size, 0, none⟩ = some (.slice (some ⟨g, 0, none⟩) (es1.length + 1) cap) := Hc5.out.heap.boxCell
                      have hg5 : (wr.setCell ⟨g, 0, none⟩ (.slice (some ⟨b0, off0 + 1, none⟩) (ys.length + 1) (c0 - 1))).cell? ⟨g, 0, none⟩ = some (.slice (some ⟨b0, off0 + 1, none⟩) (ys.length + 1) (c0 - 1)) := (Hc5.out.heap.cell (i := 0) (e := (.slice (some ⟨b0, off0 + 1, none⟩) (ys.length + 1) (c0 - 1), y :: ys)) rfl).1
                      have Hc6 := Lib.hid (Hm4.out.cutFirst (e0 := e0) rfl Hv.out Hfar.out 1)
                      have Hfix := Lib.hid (fix_zero Hc6.out.heap (by rw [List.length_set]; have := Hesl.out; omega) (fun cc e _ he => by
                        rcases List.mem_or_eq_of_mem_set (List.mem_of_getElem? he) with he | rfl
                        · exact (Hmr.out.rows e he).2
                        · simp))
                      go_wp2_with fail
                      refine Hfix.out.mono ?_
                      rintro e w5 ⟨es5, rfl, h1, h2, h3⟩
                      rw [List.length_set] at h3
                      have Hm5 : Hid (Mg w w5 w.heap.size g cap (.slice (some ⟨ob, 0, none⟩) (p + 1) oc) out es5) := Lib.hid (Hc6.out.heapOp h1 h2 (fun e he => h3.1.mem_iff.1 he))
                      have Hr5 : Hid (Merged (anyOf L) out es5) := Lib.hid (Hpush.out ▸ Hmr.out.fix (e0 := e0) rfl Hx.out h3)
                      have Ht5 : Hid (total es5 < gk) := Lib.hid (by
                        have h4 := total_perm h3.1
                        have h5 := total_set (es := e0 :: es1) (e0 := e0) (v := .slice (some ⟨b0, off0 + 1, none⟩) (ys.length + 1) (c0 - 1)) rfl Hx.out
                        have := Htot.out
                        omega)
                      have Hl5 : Hid (es5.length ≤ 10000000000000) := Lib.hid (by
                        rw [h3.1.length_eq, List.length_set]
                        exact Hesl.out)
                      clear h1 h2 h3
                      go_wp2_with fail
                      go_roundg (total es5)
                      case measure => exact Ht5.out
                      case rel => exact ⟨out, es5, Hm5.out, Hr5.out, Nat.le_refl _, Hl5.out⟩
              · have Hpush : Hid (push out x = out ++ [x]) := Lib.hid (by unfold push; rw [if_neg (by rw [Hlast.out]; intro e; exact hlx (Option.some.inj e))])
                have elx : (l != x) = true := by simpa using hlx
                clear hlx
                go_wp2_with (at_builtin; refine wpList_append_lies _ rfl _ _ _ rfl w.heap.size 3 j0 _ 1 8 Tryz.underlying22 hj0 hy0 hy1 hy2 rfl Nat.one_pos (.slice (some ⟨ob, 0, none⟩) (p + 1) oc) (p + 1) (out.map (Value.int .i64)) rfl (ownsRow_olds Hown2.out (Olds.alloc _ _)) ⟨wr.heap.size, 0, none⟩ 1 1 [.int .i64 x] rfl rfl (World.news_of_block (cs := #[.int .i64 x]) (t := 3) (fr := (0, 0)) (heap_alloc_new wr _)) (by simp [Value.oneCell']) Nat.one_pos Hn632.out Hn472.out (by simp; omega) (wr.heap.size + 1) (by simp) ?_; intro gg cap2 w4 hown4 hgrow hat hlt4)
                have Hm4 : Hid (Mg w w4 w.heap.size g cap (.slice (some ⟨gg, 0, none⟩) (p + 1 + 1) cap2) (out ++ [x]) (e0 :: es1)) := Lib.hid (by
                  rw [← Hp.out] at hown4 ⊢
                  exact Mg.append Hmg2.out hown4 hgrow hat (fun e he => (Hmr.out.rows e he).2))
                have hbox4 : w4.cell? ⟨w.heap.size, 0, none⟩ = some (.slice (some ⟨g, 0, none⟩) (es1.length + 1) cap) := Hm4.out.heap.boxCell
                have hc4 : w4.cell? ⟨g, 0, none⟩ = some (.slice (some ⟨b0, off0, none⟩) (xs.length + 1) c0) := by
                  have := (Hm4.out.heap.cell (i := 0) (e := e0) rfl).1
                  rw [Q1.out, Hx.out] at this
                  exact this
                have hf4 : w4.frozen? ⟨g, 0, none⟩ = false := (Hm4.out.heap.cell (i := 0) (e := e0) rfl).2
                clear hown4 hgrow hat hlt4
                by_cases hcap : c0 = 1
                · have hxs : xs = [] := by
                    obtain ⟨b', off', c', q1, q2, _⟩ := Hel.out.at_
                    have := Q1.out.symm.trans q1
                    rw [Hx.out] at q2 this
                    simp only [Value.slice.injEq] at this
                    simp at q2
                    exact List.eq_nil_of_length_eq_zero (by omega)
                  subst hxs
                  subst hcap
                  go_region
                  all_goals
                    have Hv : Hid (ElAt w4 w.heap.size g (.slice (some ⟨b0, off0, none⟩) 0 0, [])) := Lib.hid (by
                      obtain ⟨b', off', c', q1, q2, q3, q4, q5⟩ := Hel.out.at_
                      have := Q1.out.symm.trans q1
                      simp only [Value.slice.injEq, Option.some.injEq, Addr.mk.injEq, and_true] at this
                      obtain ⟨⟨rfl, rfl⟩, _, _⟩ := this
                      exact ⟨Nat.zero_le _, b0, off0, 0, rfl, Nat.zero_le _, fun j z hz => by simp at hz, q4, q5⟩)
                    have Hc5 := Lib.hid (Hm4.out.cutFirst (e0 := e0) rfl Hv.out (fun bb oo2 nn cc e1 => by
                      simp only [Value.slice.injEq, Option.some.injEq, Addr.mk.injEq, and_true] at e1
                      obtain ⟨⟨rfl, rfl⟩, _, _⟩ := e1
                      exact Hm4.out.far.2.2 e0 (by simp) b0 off0 _ 1 Q1.out) 0)
                    have hb5 : (w4.setCell ⟨g, 0, none⟩ (.slice (some ⟨b0, off0, none⟩) 0 0)).cell? ⟨w.heap.size, 0, none⟩ = some (.slice (some ⟨g, 0, none⟩) (es1.length + 1) cap) := Hc5.out.heap.boxCell
                    have hg5 : (w4.setCell ⟨g, 0, none⟩ (.slice (some ⟨b0, off0, none⟩) 0 0)).cell? ⟨g, 0, none⟩ = some (.slice (some ⟨b0, off0, none⟩) 0 0) := (Hc5.out.heap.cell (i := 0) (e := (.slice (some ⟨b0, off0, none⟩) 0 0, [])) rfl).1
                    have Hc6 := Lib.hid (Hm4.out.cutFirst (e0 := e0) rfl Hv.out (fun bb oo2 nn cc e1 => by
                      simp only [Value.slice.injEq, Option.some.injEq, Addr.mk.injEq, and_true] at e1
                      obtain ⟨⟨rfl, rfl⟩, _, _⟩ := e1
                      exact Hm4.out.far.2.2 e0 (by simp) b0 off0 _ 1 Q1.out) 1)
                    have Hpop := Lib.hid (heappop_any (m := es1.length) Hc6.out.heap (by simp) (by have := Hesl.out; simp at this; omega) (fun cc e h1 he => by
                      cases cc with
                      | zero => omega
                      | succ cc => exact (Hmr.out.rows e (List.mem_cons_of_mem _ (List.mem_of_getElem? (by simpa using he)))).2))
                    go_wp2_with fail
                    refine Hpop.out.mono ?_
                    rintro e w5 ⟨es5, v5, rfl, h1, h2, h3⟩
                    have Hm5 : Hid (Mg w w5 w.heap.size g cap (.slice (some ⟨gg, 0, none⟩) (p + 1 + 1) cap2) (out ++ [x]) es5) := Lib.hid (Hc6.out.heapOp h1 h2 (fun e he => by
                      obtain ⟨e9, _, h4, _⟩ := h3
                      exact h4.mem_iff.1 (List.mem_append_left _ he)))
                    have Hr5 : Hid (Merged (anyOf L) (out ++ [x]) es5) := Lib.hid (Hpush.out ▸ Hmr.out.pop (e0 := e0) rfl Hx.out h3)
                    have Ht5 : Hid (total es5 < gk) := Lib.hid (by
                      have h4 := total_popped h3
                      have h5 := total_set (es := e0 :: es1) (e0 := e0) (v := .slice (some ⟨b0, off0, none⟩) 0 0) rfl Hx.out
                      have := Htot.out
                      omega)
                    have Hl5 : Hid (es5.length ≤ 10000000000000) := Lib.hid (by
                      obtain ⟨e9, _, h4, _⟩ := h3
                      have h5 := h4.length_eq
                      rw [List.length_append, List.length_set] at h5
                      have := Hesl.out
                      omega)
                    clear h1 h2 h3
                    go_wp2_with fail
                    go_roundg (total es5)
                    case measure => exact Ht5.out
                    case rel => exact ⟨(out ++ [x]), es5, Hm5.out, Hr5.out, Nat.le_refl _, Hl5.out⟩
                · have hcap1 : (xs.length : Int) + 1 ≤ (c0 : Int) := by
                    obtain ⟨b', off', c', q1, q2, _⟩ := Hel.out.at_
                    have := Q1.out.symm.trans q1
                    rw [Hx.out] at q2 this
                    simp only [Value.slice.injEq] at this
                    simp at q2
                    omega
                  go_region
                  all_goals
                    cases xs with
                    | nil =>
                      have Hv : Hid (ElAt w4 w.heap.size g (.slice (some ⟨b0, off0 + 1, none⟩) 0 (c0 - 1), [])) := Lib.hid (by
                        obtain ⟨b', off', c', q1, q2, q3, q4, q5⟩ := Hel.out.at_
                        have := Q1.out.symm.trans q1
                        simp only [Value.slice.injEq, Option.some.injEq, Addr.mk.injEq, and_true] at this
                        obtain ⟨⟨rfl, rfl⟩, _, _⟩ := this
                        exact ⟨Nat.zero_le _, b0, off0 + 1, c0 - 1, rfl, Nat.zero_le _, fun j z hz => by simp at hz, q4, q5⟩)
                      have Hc5 := Lib.hid (Hm4.out.cutFirst (e0 := e0) rfl Hv.out (fun bb oo2 nn cc e1 => by
                        simp only [Value.slice.injEq, Option.some.injEq, Addr.mk.injEq, and_true] at e1
                        obtain ⟨⟨rfl, rfl⟩, _, _⟩ := e1
                        exact Hm4.out.far.2.2 e0 (by simp) b0 off0 _ c0 Q1.out) 0)
                      have hb5 : (w4.setCell ⟨g, 0, none⟩ (.slice (some ⟨b0, off0 + 1, none⟩) 0 (c0 - 1))).cell? ⟨w.heap.size, 0, none⟩ = some (.slice (some ⟨g, 0, none⟩) (es1.length + 1) cap) := Hc5.out.heap.boxCell
                      have hg5 : (w4.setCell ⟨g, 0, none⟩ (.slice (some ⟨b0, off0 + 1, none⟩) 0 (c0 - 1))).cell? ⟨g, 0, none⟩ = some (.slice (some ⟨b0, off0 + 1, none⟩) 0 (c0 - 1)) := (Hc5.out.heap.cell (i := 0) (e := (.slice (some ⟨b0, off0 + 1, none⟩) 0 (c0 - 1), [])) rfl).1
                      have Hc6 := Lib.hid (Hm4.out.cutFirst (e0 := e0) rfl Hv.out (fun bb oo2 nn cc e1 => by
                        simp only [Value.slice.injEq, Option.some.injEq, Addr.mk.injEq, and_true] at e1
                        obtain ⟨⟨rfl, rfl⟩, _, _⟩ := e1
                        exact Hm4.out.far.2.2 e0 (by simp) b0 off0 _ c0 Q1.out) 1)
                      have Hpop := Lib.hid (heappop_any (m := es1.length) Hc6.out.heap (by simp) (by have := Hesl.out; simp at this; omega) (fun cc e h1 he => by
                        cases cc with
                        | zero => omega
                        | succ cc => exact (Hmr.out.rows e (List.mem_cons_of_mem _ (List.mem_of_getElem? (by simpa using he)))).2))
                      go_wp2_with fail
                      refine Hpop.out.mono ?_
                      rintro e w5 ⟨es5, v5, rfl, h1, h2, h3⟩
                      have Hm5 : Hid (Mg w w5 w.heap.size g cap (.slice (some ⟨gg, 0, none⟩) (p + 1 + 1) cap2) (out ++ [x]) es5) := Lib.hid (Hc6.out.heapOp h1 h2 (fun e he => by
                        obtain ⟨e9, _, h4, _⟩ := h3
                        exact h4.mem_iff.1 (List.mem_append_left _ he)))
                      have Hr5 : Hid (Merged (anyOf L) (out ++ [x]) es5) := Lib.hid (Hpush.out ▸ Hmr.out.pop (e0 := e0) rfl Hx.out h3)
                      have Ht5 : Hid (total es5 < gk) := Lib.hid (by
                        have h4 := total_popped h3
                        have h5 := total_set (es := e0 :: es1) (e0 := e0) (v := .slice (some ⟨b0, off0 + 1, none⟩) 0 (c0 - 1)) rfl Hx.out
                        have := Htot.out
                        omega)
                      have Hl5 : Hid (es5.length ≤ 10000000000000) := Lib.hid (by
                        obtain ⟨e9, _, h4, _⟩ := h3
                        have h5 := h4.length_eq
                        rw [List.length_append, List.length_set] at h5
                        have := Hesl.out
                        omega)
                      clear h1 h2 h3
                      go_wp2_with fail
                      go_roundg (total es5)
                      case measure => exact Ht5.out
                      case rel => exact ⟨(out ++ [x]), es5, Hm5.out, Hr5.out, Nat.le_refl _, Hl5.out⟩
                    | cons y ys =>
                      have Hv : Hid (ElAt w4 w.heap.size g (.slice (some ⟨b0, off0 + 1, none⟩) (ys.length + 1) (c0 - 1), y :: ys)) := Lib.hid (by
                        obtain ⟨b', off', c', q1, q2, q3, q4, q5⟩ := (Hm4.out.heap.els e0 (by simp)).at_
                        have hlen := Hel.out.len
                        have := Q1.out.symm.trans q1
                        rw [Hx.out] at q2 q3 this hlen
                        simp only [Value.slice.injEq, Option.some.injEq, Addr.mk.injEq, and_true, true_and] at this
                        obtain ⟨⟨rfl, rfl⟩, rfl⟩ := this
                        simp only [List.length_cons] at q2 hlen
                        refine ⟨by simp; omega, b0, off0 + 1, c0 - 1, rfl, by simp; omega, fun j z hz => ?_, q4, q5⟩
                        have := q3 (j + 1) z (by simpa using hz)
                        rw [show off0 + 1 + j = off0 + (j + 1) by omega]
                        exact this)
                      have Hfar : Hid (Apart (.slice (some ⟨gg, 0, none⟩) (p + 1 + 1) cap2) (.slice (some ⟨b0, off0 + 1, none⟩) (ys.length + 1) (c0 - 1), y :: ys)) := Lib.hid (fun bb oo2 nn cc e1 => by
                        simp only [Value.slice.injEq, Option.some.injEq, Addr.mk.injEq, and_true] at e1
                        obtain ⟨⟨rfl, rfl⟩, _, _⟩ := e1
                        exact Hm4.out.far.2.2 e0 (by simp) b0 off0 _ c0 Q1.out)
                      have Hc5 := Lib.hid (Hm4.out.cutFirst (e0 := e0) rfl Hv.out Hfar.out 0)
                      have hb5 : (w4.setCell ⟨g, 0, none⟩ (.slice (some ⟨b0, off0 + 1, none⟩) (ys.length + 1) (c0 - 1))).cell? ⟨w.heap.size, 0, none⟩ = some (.slice (some ⟨g, 0, none⟩) (es1.length + 1) cap) := Hc5.out.heap.boxCell
                      have hg5 : (w4.setCell ⟨g, 0, none⟩ (.slice (some ⟨b0, off0 + 1, none⟩) (ys.length + 1) (c0 - 1))).cell? ⟨g, 0, none⟩ = some (.slice (some ⟨b0, off0 + 1, none⟩) (ys.length + 1) (c0 - 1)) := (Hc5.out.heap.cell (i := 0) (e := (.slice (some ⟨b0, off0 + 1, none⟩) (ys.length + 1) (c0 - 1), y :: ys)) rfl).1
                      have Hc6 := Lib.hid (Hm4.out.cutFirst (e0 := e0) rfl Hv.out Hfar.out 1)
                      have Hfix := Lib.hid (fix_zero Hc6.out.heap (by rw [List.length_set]; have := Hesl.out; omega) (fun cc e _ he => by
                        rcases List.mem_or_eq_of_mem_set (List.mem_of_getElem? he) with he | rfl
                        · exact (Hmr.out.rows e he).2
                        · simp))
                      go_wp2_with fail
                      refine Hfix.out.mono ?_
                      rintro e w5 ⟨es5, rfl, h1, h2, h3⟩
                      rw [List.length_set] at h3
                      have Hm5 : Hid (Mg w w5 w.heap.size g cap (.slice (some ⟨gg, 0, none⟩) (p + 1 + 1) cap2) (out ++ [x]) es5) := Lib.hid (Hc6.out.heapOp h1 h2 (fun e he => h3.1.mem_iff.1 he))
                      have Hr5 : Hid (Merged (anyOf L) (out ++ [x]) es5) := Lib.hid (Hpush.out ▸ Hmr.out.fix (e0 := e0) rfl Hx.out h3)
                      have Ht5 : Hid (total es5 < gk) := Lib.hid (by
                        have h4 := total_perm h3.1
                        have h5 := total_set (es := e0 :: es1) (e0 := e0) (v := .slice (some ⟨b0, off0 + 1, none⟩) (ys.length + 1) (c0 - 1)) rfl Hx.out
                        have := Htot.out
                        omega)
                      have Hl5 : Hid (es5.length ≤ 10000000000000) := Lib.hid (by
                        rw [h3.1.length_eq, List.length_set]
                        exact Hesl.out)
                      clear h1 h2 h3
                      go_wp2_with fail
                      go_roundg (total es5)
                      case measure => exact Ht5.out
                      case rel => exact ⟨(out ++ [x]), es5, Hm5.out, Hr5.out, Nat.le_refl _, Hl5.out⟩
end Go.Proofs.YthoboahfogpnfaaGreatDoor
namespace Go.Proofs.YthoboahfogpnfaaGreatDoor
open Go Go.RowKit Go.Sort Go.Lib

def two (W : World) (va vb : Value) : World := W.alloc (.cells #[va, vb] 22)
def one (W : World) (va : Value) : World := W.alloc (.cells #[va] 22)

theorem two_lists {W : World} {va vb : Value} {a c : List Int} (ha : IntsAt W va a) (hc : IntsAt W vb c) :
    CellsAt (W.alloc (.cells #[va, vb] 22)) W.heap.size 0 [va, vb] ∧ ∀ (i : Nat) (u : Value) (zs : List Int), [va, vb][i]? = some u → [a, c][i]? = some zs → IntsAt (W.alloc (.cells #[va, vb] 22)) u zs := by
  constructor
  · intro j v hv
    match j, hv with
    | 0, hv => cases hv; simp
    | 1, hv => cases hv; simp
  · intro i u zs hu hz
    match i, hu, hz with
    | 0, hu, hz => cases hu; cases hz; exact ha.olds (Olds.alloc _ _)
    | 1, hu, hz => cases hu; cases hz; exact hc.olds (Olds.alloc _ _)
theorem one_list {W : World} {va : Value} {a : List Int} (ha : IntsAt W va a) :
    CellsAt (W.alloc (.cells #[va] 22)) W.heap.size 0 [va] ∧ ∀ (i : Nat) (u : Value) (zs : List Int), [va][i]? = some u → [a][i]? = some zs → IntsAt (W.alloc (.cells #[va] 22)) u zs := by
  constructor
  · intro j v hv
    match j, hv with
    | 0, hv => cases hv; simp
  · intro i u zs hu hz
    match i, hu, hz with
    | 0, hu, hz => cases hu; cases hz; exact ha.olds (Olds.alloc _ _)

theorem fresh_alloc {W : World} {O : Obj} {zs : List Int} {e : Ending} {w' : World} (h : Fresh zs (W.alloc O) e w') : Fresh zs W e w' := by
  obtain ⟨v, h1, h2, h3⟩ := h
  exact ⟨v, h1, h2.mono (by simp), ((Below.refl _ W).alloc (Nat.le_refl _) O).trans (h3.mono (by simp))⟩

theorem much2 {W : World} {va vb : Value} {a c : List Int} (ha : IntsAt W va a) (hc : IntsAt W vb c) (la : a.length * 8 ≤ 140737488355328) (lc : c.length * 8 ≤ 140737488355328) :
    Calls Tryz.prog 5 #[.slice (some ⟨W.heap.size, 0, none⟩) 2 2] (W.alloc (.cells #[va, vb] 22)) fun e w' => e = .returned (.bool (decide (3000 < 2 + (a.length + c.length)))) ∧ W.alloc (.cells #[va, vb] 22) = w' := by
  obtain ⟨h1, h2⟩ := two_lists ha hc
  have h := much_cells W.heap.size 0 2 2 [va, vb] [a, c] _ rfl (by omega) (fun _ => h1) rfl (by simp; omega) h2
  simpa [tot] using h
theorem and2 {W : World} {va vb : Value} {a c : List Int} (ha : IntsAt W va a) (hc : IntsAt W vb c) (la : a.length * 8 ≤ 140737488355328) (lc : c.length * 8 ≤ 140737488355328) :
    Calls Tryz.prog 6 #[.slice (some ⟨W.heap.size, 0, none⟩) 2 2] (W.alloc (.cells #[va, vb] 22)) (Fresh (andL [a, c]) W) := by
  obtain ⟨h1, h2⟩ := two_lists ha hc
  exact (and_any (L := [a, c]) _ ⟨[va, vb], ⟨_, 2, rfl, (fun h => by cases h), fun _ => ⟨_, 0, rfl, h1⟩⟩, rfl, h2⟩ (fun o n c e => by cases e; simp) (by simp) (by simp; omega)).mono fun _ _ h => fresh_alloc h
theorem or2 {W : World} {va vb : Value} {a c : List Int} (ha : IntsAt W va a) (hc : IntsAt W vb c) (la : a.length ≤ 3000) (lc : c.length ≤ 3000) :
    Calls Tryz.prog 7 #[.slice (some ⟨W.heap.size, 0, none⟩) 2 2] (W.alloc (.cells #[va, vb] 22)) (Fresh (orL [a, c]) W) := by
  obtain ⟨h1, h2⟩ := two_lists ha hc
  exact (or_cells W.heap.size 0 2 2 [va, vb] [a, c] _ rfl (by omega) (fun _ => h1) rfl (by simp; omega) (by simp; omega) h2).mono fun _ _ h => fresh_alloc h
theorem or1 {W : World} {va : Value} {a : List Int} (ha : IntsAt W va a) (la : a.length ≤ 3000) :
    Calls Tryz.prog 7 #[.slice (some ⟨W.heap.size, 0, none⟩) 1 1] (W.alloc (.cells #[va] 22)) (Fresh (orL [a]) W) := by
  obtain ⟨h1, h2⟩ := one_list ha
  exact (or_cells W.heap.size 0 1 1 [va] [a] _ rfl (by omega) (fun _ => h1) rfl (by simp; omega) (by simp; omega) h2).mono fun _ _ h => fresh_alloc h


theorem hasN_congr {xs ys : List Int} {n : Int} (h : n ∈ xs ↔ n ∈ ys) : hasN xs n = hasN ys n := by
  rw [Bool.eq_iff_iff, hasN_iff, hasN_iff, h]
theorem mem_meet {xs ys : List Int} {n : Int} : n ∈ meet xs ys ↔ n ∈ xs ∧ n ∈ ys := by unfold meet; rw [List.mem_filter, hasN_iff]
theorem mem_minus {xs ys : List Int} {n : Int} : n ∈ minus xs ys ↔ n ∈ xs ∧ ¬ n ∈ ys := by
  unfold minus
  rw [List.mem_filter, Bool.not_eq_true', ← Bool.not_eq_true, hasN_iff]
theorem mem_orL {L : List (List Int)} {n : Int} : n ∈ orL L ↔ ∃ zs ∈ L, n ∈ zs := by unfold orL; rw [mem_norm, List.mem_flatten]
theorem orL_sorted (L : List (List Int)) : (orL L).Pairwise (· < ·) := norm_sorted _
theorem meet_sorted {xs ys : List Int} (h : xs.Pairwise (· < ·)) : (meet xs ys).Pairwise (· < ·) := h.filter _
theorem has_and (a b : List Int) (n : Int) : hasN (andL [a, b]) n = (hasN a n && hasN b n) := by
  show hasN (meet (norm a) (norm b)) n = _
  rw [Bool.eq_iff_iff, hasN_iff, mem_meet, mem_norm, mem_norm, Bool.and_eq_true, hasN_iff, hasN_iff]
theorem has_or (a b : List Int) (n : Int) : hasN (orL [a, b]) n = (hasN a n || hasN b n) := by
  rw [Bool.eq_iff_iff, hasN_iff, mem_orL, Bool.or_eq_true, hasN_iff, hasN_iff]
  simp
theorem has_minus (a b : List Int) (n : Int) : hasN (minus (norm a) (norm b)) n = (hasN a n && !hasN b n) := by
  rw [Bool.eq_iff_iff, hasN_iff, mem_minus, mem_norm, mem_norm, Bool.and_eq_true, hasN_iff, Bool.not_eq_true', ← Bool.not_eq_true, hasN_iff]
theorem or_back (a b : List Int) : orL [andL [a, b], minus (norm a) (norm b)] = orL [a] := by
  refine rising_eq (orL_sorted _) (orL_sorted _) fun n => ?_
  rw [mem_orL, mem_orL]
  show (∃ zs ∈ [meet (norm a) (norm b), minus (norm a) (norm b)], n ∈ zs) ↔ _
  simp only [List.mem_cons, List.not_mem_nil, or_false, exists_eq_or_imp, exists_eq_left, mem_meet, mem_minus, mem_norm]
  by_cases h : n ∈ b <;> simp [h]
theorem and_comm' (a b : List Int) : andL [b, a] = andL [a, b] := by
  refine rising_eq (meet_sorted (norm_sorted _)) (meet_sorted (norm_sorted _)) fun n => ?_
  show n ∈ meet (norm b) (norm a) ↔ n ∈ meet (norm a) (norm b)
  rw [mem_meet, mem_meet, and_comm]
theorem len_and (a b : List Int) : (andL [a, b]).length ≤ a.length := Nat.le_trans (List.length_filter_le _ _) (norm_len a)
theorem len_minus (a b : List Int) : (minus (norm a) b).length ≤ a.length := Nat.le_trans (List.length_filter_le _ _) (norm_len a)
theorem len_orL (L : List (List Int)) : (orL L).length ≤ L.flatten.length := norm_len _
end Go.Proofs.YthoboahfogpnfaaGreatDoor
namespace Go.Proofs.YthoboahfogpnfaaGreatDoor
open Go Go.RowKit Go.Sort Go.Lib

theorem at_of {w W : World} {v : Value} {zs : List Int} (h : IntsAt w v zs) (hb : Below w.heap.size w W) : IntsAt W v zs := h.olds (Olds.of_below hb)

set_option maxRecDepth 20000 in
set_option maxHeartbeats 4000000 in
theorem law_small (p q : Bool) (oa ob : Option Addr) (ca cb : Nat) (a b : List Int) (n : Int) (w : World) (hw : 8 ≤ w.heap.size)
    (ha : IntsAt w (.slice oa a.length ca) a) (hb : IntsAt w (.slice ob b.length cb) b) (hsm : 2 + (a.length + b.length) ≤ 3000) (hp : hasN a n = p) (hq : hasN b n = q)
    (hk : ∀ W : World, 8 ≤ W.heap.size → Calls Tryz.prog 10 #[] W fun e W' => e = .returned (.bool true) ∧ Below W.heap.size W W') :
    Calls Tryz.prog 3 #[.slice oa a.length ca, .slice ob b.length cb, .int .i64 n] w fun e w' => e = .returned (.bool true) ∧ Below w.heap.size w w' := by
  have Ha := Lib.hid ha
  have Hb := Lib.hid hb
  have la : a.length ≤ 3000 := by omega
  have lb : b.length ≤ 3000 := by omega
  have hno : decide (3000 < 2 + (a.length + b.length)) = false := decide_eq_false (by omega)
  have HX := has_and a b n
  have HY := has_or a b n
  have HZ := has_minus a b n
  rw [hp, hq] at HX HY HZ
  have lX : Hid ((andL [a, b]).length ≤ 3000) := Lib.hid (Nat.le_trans (len_and a b) la)
  have lZ : Hid ((minus (norm a) (norm b)).length ≤ 3000) := Lib.hid (Nat.le_trans (len_minus a _) la)
  have lY : Hid ((orL [a, b]).length ≤ 6000) := Lib.hid (Nat.le_trans (len_orL _) (by simp; omega))
  have Eback := Lib.hid (or_back a b)
  have Ecomm := Lib.hid (and_comm' a b)
  have sY := Lib.hid (orL_sorted [a, b])
  generalize hXd : andL [a, b] = X at *
  generalize hYd : orL [a, b] = Y at *
  generalize hZd : minus (norm a) (norm b) = Z at *
  have hXd := Lib.hid hXd
  have hYd := Lib.hid hYd
  have hZd := Lib.hid hZd
  have Hk := Lib.hid hk
  have Hw := Lib.hid hw
  clear ha hb hk hw
  cases p <;> cases q <;> simp only [Bool.and_true, Bool.and_false, Bool.or_true, Bool.or_false, Bool.true_and, Bool.false_and, Bool.not_true, Bool.not_false] at HX HY HZ
  all_goals
    have Hp := Lib.hid hp
    have Hq := Lib.hid hq
    have HX' := Lib.hid HX
    have HY' := Lib.hid HY
    have HZ' := Lib.hid HZ
    clear hp hq HX HY HZ
    go_enter Tryz.func3, Tryz.ntmps3
    go_wp2_with fail
    refine (much2 Ha.out Hb.out (by omega) (by omega)).mono ?_
    rintro e w' ⟨rfl, rfl⟩
    rw [hno]
    have B1 : Hid (Below w.heap.size w (w.alloc (.cells #[.slice oa a.length ca, .slice ob b.length cb] 22))) := Lib.hid ((Below.refl _ w).alloc (Nat.le_refl _) _)
    generalize w.alloc (.cells #[.slice oa a.length ca, .slice ob b.length cb] 22) = w1 at *
    go_wp2_with fail
    refine ((and2 (at_of Ha.out B1.out) (at_of Hb.out B1.out) (by omega) (by omega)).mono ?_)
    rintro e w2 ⟨x, rfl, hx, hb2⟩
    rw [hXd.out] at hx
    obtain ⟨xo, xc, rfl⟩ := hx.shape
    have HXo := Lib.hid hx.ints
    have B2 : Hid (Below w.heap.size w w2) := Lib.hid (B1.out.trans (hb2.mono B1.out.size))
    clear hx hb2 B1
    go_wp2_with fail
    refine ((or2 (at_of Ha.out B2.out) (at_of Hb.out B2.out) la lb).mono ?_)
    rintro e w3 ⟨y, rfl, hy, hb3⟩
    rw [hYd.out] at hy
    obtain ⟨yo, yc, rfl⟩ := hy.shape
    have HYo := Lib.hid hy.ints
    have HXo := Lib.hid (at_of HXo.out hb3)
    have B3 : Hid (Below w.heap.size w w3) := Lib.hid (B2.out.trans (hb3.mono B2.out.size))
    clear hy hb3 B2
    go_wp2_with fail
    refine ((not_any w3 (at_of Ha.out B3.out) (at_of Hb.out B3.out) (by omega) (by omega)).mono ?_)
    rintro e w4 ⟨z, rfl, hz, hb4⟩
    rw [hZd.out] at hz
    obtain ⟨zo, zc, rfl⟩ := hz.shape
    have HZo := Lib.hid hz.ints
    have HXo := Lib.hid (at_of HXo.out hb4)
    have HYo := Lib.hid (at_of HYo.out hb4)
    have B4 : Hid (Below w.heap.size w w4) := Lib.hid (B3.out.trans (hb4.mono B3.out.size))
    clear hz hb4 B3
    go_wp2_with fail
    refine ((or2 HXo.out HZo.out lX.out lZ.out).mono ?_)
    rintro e w5 ⟨v, rfl, hv, hb5⟩
    rw [Eback.out] at hv
    obtain ⟨vo, vc, rfl⟩ := hv.shape
    have HVo := Lib.hid hv.ints
    have HXo := Lib.hid (at_of HXo.out hb5)
    have HYo := Lib.hid (at_of HYo.out hb5)
    have HZo := Lib.hid (at_of HZo.out hb5)
    have B5 : Hid (Below w.heap.size w w5) := Lib.hid (B4.out.trans (hb5.mono B4.out.size))
    clear hv hb5 B4
    go_wp2_with fail
    refine ((in_any n w5 (at_of Ha.out B5.out) (by unfold maxLen; omega)).mono ?_)
    rintro e w' ⟨rfl, rfl⟩
    rw [Hp.out]
    go_wp2_with fail
    refine ((in_any n w5 (at_of Hb.out B5.out) (by unfold maxLen; omega)).mono ?_)
    rintro e w' ⟨rfl, rfl⟩
    rw [Hq.out]
    go_wp2_with fail
    refine ((in_any n w5 HXo.out (by have := lX.out; unfold maxLen; omega)).mono ?_)
    rintro e w' ⟨rfl, rfl⟩
    rw [HX'.out]
    go_wp2_with fail
    refine ((in_any n w5 HYo.out (by have := lY.out; unfold maxLen; omega)).mono ?_)
    rintro e w' ⟨rfl, rfl⟩
    rw [HY'.out]
    go_wp2_with fail
    refine ((in_any n w5 HZo.out (by have := lZ.out; unfold maxLen; omega)).mono ?_)
    rintro e w' ⟨rfl, rfl⟩
    rw [HZ'.out]
    go_wp2_with fail
    go_loopw [14] (fun i wr => ∃ (k : Nat) (q : Nat), 1 ≤ k ∧ i = .int .i64 k ∧ wr = w5.drewN q) (fun i _ => Y.length - (intOf i).toNat)
    case atStart => exact ⟨1, 0, Nat.le_refl _, rfl, rfl⟩
    case round =>
      obtain ⟨k, q, hk1, rfl, rfl⟩ := hrel
      have hY63 : Y.length ≤ 9223372036854775807 := by have := lY.out; omega
      by_cases hlt : k < Y.length
      · obtain ⟨j, rfl⟩ : ∃ j, k = j + 1 := ⟨k - 1, by omega⟩
        obtain ⟨y1, hy1, _⟩ := at_some hlt
        obtain ⟨y0, hy0, _⟩ := at_some (zs := Y) (k := j) (by omega)
        have hlt01 : y0 < y1 := by
          have h := sY.out
          obtain ⟨h1, rfl⟩ := List.getElem?_eq_some_iff.1 hy1
          obtain ⟨h0, rfl⟩ := List.getElem?_eq_some_iff.1 hy0
          exact (List.pairwise_iff_getElem.1 h) j (j + 1) h0 h1 (by omega)
        rcases HYo.out.cases with ⟨_, _, _, e2, _⟩ | ⟨yb, yoff, yc', e1, _, hcs⟩
        · rw [e2] at hlt; simp at hlt
        · simp only [Value.slice.injEq, true_and] at e1
          obtain ⟨rfl, rfl⟩ := e1
          have hc1 := hcs (j + 1) y1 hy1
          have hc0 := hcs j y0 hy0
          clear hcs hy1 hy0
          go_wp2_with fail
          go_quiet (fail)
          go_wp2_with fail
          go_roundw
          case rel => exact ⟨j + 1 + 1, _, by omega, by go_num, rfl⟩
          case measure => simp [intOf]; omega
      · have B6 : Hid (Below w.heap.size w (w5.drewN q)) := Lib.hid (below_drewN B5.out q)
        have HXo := Lib.hid (show IntsAt (w5.drewN q) (.slice xo X.length xc) X from HXo.out)
        have HVo := Lib.hid (show IntsAt (w5.drewN q) (.slice vo (orL [a]).length vc) (orL [a]) from HVo.out)
        clear HYo HZo B5
        generalize w5.drewN q = w6 at *

        go_wp2_with fail
        refine ((Hk.out w6 (by have := B6.out.size; have := Hw.out; omega)).mono ?_)
        rintro e w7 ⟨rfl, hb7⟩
        have HXo := Lib.hid (at_of HXo.out hb7)
        have HVo := Lib.hid (at_of HVo.out hb7)
        have B7 : Hid (Below w.heap.size w w7) := Lib.hid (B6.out.trans (hb7.mono B6.out.size))
        clear hb7 B6
        go_wp2_with fail
        refine ((or1 (at_of Ha.out B7.out) la).mono ?_)
        rintro e w8 ⟨u, rfl, hu, hb8⟩
        obtain ⟨uo, uc, rfl⟩ := hu.shape
        have HUo := Lib.hid hu.ints
        have HXo := Lib.hid (at_of HXo.out hb8)
        have HVo := Lib.hid (at_of HVo.out hb8)
        have B8 : Hid (Below w.heap.size w w8) := Lib.hid (B7.out.trans (hb8.mono B7.out.size))
        clear hu hb8 B7
        go_wp2_with fail
        refine ((same_any w8 HVo.out HUo.out (by have := len_orL [a]; simp at this; unfold maxLen; omega)).mono ?_)
        rintro e w9 ⟨rfl, q9, rfl⟩
        have e1 : sameL (orL [a]) (orL [a]) = true := sameL_iff.2 rfl
        rw [e1]
        have HXo := Lib.hid (show IntsAt (w8.drewN q9) (.slice xo X.length xc) X from HXo.out)
        have B9 : Hid (Below w.heap.size w (w8.drewN q9)) := Lib.hid (below_drewN B8.out q9)
        clear HVo HUo B8
        generalize w8.drewN q9 = w9 at *
        go_wp2_with fail
        refine ((and2 (at_of Hb.out B9.out) (at_of Ha.out B9.out) (by omega) (by omega)).mono ?_)
        rintro e w10 ⟨t, rfl, ht, hb10⟩
        rw [Ecomm.out] at ht
        obtain ⟨to, tc, rfl⟩ := ht.shape
        have HTo := Lib.hid ht.ints
        have HXo := Lib.hid (at_of HXo.out hb10)
        have B10 : Hid (Below w.heap.size w w10) := Lib.hid (B9.out.trans (hb10.mono B9.out.size))
        clear ht hb10 B9
        go_wp2_with fail
        refine ((same_any w10 HTo.out HXo.out (by have := lX.out; unfold maxLen; omega)).mono ?_)
        rintro e w11 ⟨rfl, q11, rfl⟩
        have e2 : sameL X X = true := sameL_iff.2 rfl
        rw [e2]
        have B11 : Hid (Below w.heap.size w (w10.drewN q11)) := Lib.hid (below_drewN B10.out q11)
        clear HXo HTo B10
        generalize w10.drewN q11 = w11 at *
        go_wp2_with fail
        go_ret
        exact ⟨rfl, B11.out⟩
end Go.Proofs.YthoboahfogpnfaaGreatDoor
namespace Go.Proofs.YthoboahfogpnfaaGreatDoor
open Go Go.RowKit Go.Sort Go.Lib

set_option maxRecDepth 20000 in
set_option maxHeartbeats 1000000 in
theorem law_big (oa ob : Option Addr) (ca cb : Nat) (a b : List Int) (n : Int) (w : World)
    (ha : IntsAt w (.slice oa a.length ca) a) (hb : IntsAt w (.slice ob b.length cb) b) (hla : a.length * 8 ≤ 140737488355328) (hlb : b.length * 8 ≤ 140737488355328)
    (hbig : ¬ 2 + (a.length + b.length) ≤ 3000) : Calls Tryz.prog 3 #[.slice oa a.length ca, .slice ob b.length cb, .int .i64 n] w fun e w' => e = .returned (.bool true) ∧ Below w.heap.size w w' := by
  have Ha := Lib.hid ha
  have Hb := Lib.hid hb
  have hyes : decide (3000 < 2 + (a.length + b.length)) = true := decide_eq_true (by omega)
  clear ha hb hbig
  go_enter Tryz.func3, Tryz.ntmps3
  go_wp2_with fail
  refine (much2 Ha.out Hb.out hla hlb).mono ?_
  rintro e w' ⟨rfl, rfl⟩
  rw [hyes]
  go_wp2_with fail
  go_ret
  exact ⟨rfl, (Below.refl _ w).alloc (Nat.le_refl _) _⟩

theorem law_any {va vb : Value} {a b : List Int} (n : Int) (w : World) (hw : 8 ≤ w.heap.size) (ha : IntsAt w va a) (hb : IntsAt w vb b) (hla : a.length * 8 ≤ 140737488355328) (hlb : b.length * 8 ≤ 140737488355328)
    (hk : ∀ W : World, 8 ≤ W.heap.size → Calls Tryz.prog 10 #[] W fun e W' => e = .returned (.bool true) ∧ Below W.heap.size W W') :
    Calls Tryz.prog 3 #[va, vb, .int .i64 n] w fun e w' => e = .returned (.bool true) ∧ Below w.heap.size w w' := by
  have ha' := ha
  have hb' := hb
  obtain ⟨oa, ca, hva, _⟩ := ha
  obtain ⟨ob, cb, hvb, _⟩ := hb
  rw [ints_len] at hva hvb
  subst hva hvb
  by_cases h : 2 + (a.length + b.length) ≤ 3000
  · exact law_small _ _ oa ob ca cb a b n w hw ha' hb' h rfl rfl hk
  · exact law_big oa ob ca cb a b n w ha' hb' hla hlb h
end Go.Proofs.YthoboahfogpnfaaGreatDoor
