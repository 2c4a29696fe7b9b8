/- The law PostingsSets of barographlaw13, for every input: it returns true, and its arguments read as before. No conditions of ours; the card ties the two listed variables of the library. -/
import Derived.Test.YthoboahfogpnfaaGreatDoorQc
import Derived.Test.YthoboahfogpnfaaGreatDoorProofs
set_option linter.unusedSimpArgs false
set_option linter.unusedVariables false
set_option linter.deprecated false
set_option linter.unnecessarySimpa false
namespace Go.Proofs.YthoboahfogpnfaaGreatDoor
open Go Go.ChangeShapes Go.WideShapes Go.ChangeAt Go.RowKit

theorem Tryz.cells22 : Tryz.prog.cellsOf 22 = 1 := by kernel_rfl
theorem Tryz.bytes22 : Tryz.prog.bytesOf 22 = 24 := by kernel_rfl

theorem exists_lists {Q : Nat → Value → List Int → Prop} : ∀ (n : Nat), (∀ i, i < n → ∃ u z, Q i u z) → ∃ (vs : List Value) (L : List (List Int)), vs.length = n ∧ L.length = n ∧ ∀ (i : Nat) (u : Value) (z : List Int), vs[i]? = some u → L[i]? = some z → Q i u z
  | 0, _ => ⟨[], [], rfl, rfl, fun i u z h => by simp at h⟩
  | n + 1, h => by
    obtain ⟨vs, L, h1, h2, h3⟩ := exists_lists n fun i hi => h i (by omega)
    obtain ⟨u, z, hq⟩ := h n (by omega)
    refine ⟨vs ++ [u], L ++ [z], by simp [h1], by simp [h2], fun i u' z' hu hz => ?_⟩
    by_cases hi : i < n
    · rw [List.getElem?_append_left (by omega)] at hu hz
      exact h3 i u' z' hu hz
    · have hin : i = n := by
        have := (List.getElem?_eq_some_iff.1 hu).1
        simp at this
        omega
      subst hin
      rw [List.getElem?_append_right (by omega), h1, Nat.sub_self] at hu
      rw [List.getElem?_append_right (by omega), h2, Nat.sub_self] at hz
      cases hu
      cases hz
      exact hq

section
variable {H : Type} {enc : TypeId × Value → H}

theorem mem_weightsAll {P : Program} {e : TypeId} {d : DataW H} : ∀ {l : List (DataW H)}, d ∈ l → ∀ n ∈ d.weights P e, n ∈ DataW.weightsAll P e l
  | x :: l, h, n, hn => by
    rw [DataW.weightsAll, List.mem_append]
    rcases List.mem_cons.1 h with rfl | h
    · exact .inl hn
    · exact .inr (mem_weightsAll h n hn)

theorem ints_in2 {W : World} {base fuel : Nat} {cs : List Value} {d : DataW H} {p : List MemPlace}
    (hf : DataW.trod enc Tryz.prog W base (fun _ => true) true fuel 22 cs = some (d, p)) (hw : ∀ n ∈ d.weights Tryz.prog 22, n ≤ reachBytes) :
    ∃ u zs, cs = [u] ∧ IntsAt W u zs ∧ zs.length * 8 ≤ 140737488355328 := by
  rcases open_ints Tryz.underlying22 Tryz.underlying3 Tryz.cells3 hf with ⟨hcs, hx⟩ | ⟨a, len, cap, zs, hcs, _, hl, hm, hz, hx, hcell, hwz⟩
  · exact ⟨_, [], hcs, IntsAt.none W, by simp⟩
  · simp only [Prod.mk.injEq] at hx
    obtain ⟨rfl, rfl⟩ := hx
    simp only [if_true] at hz
    have hreach : len * 8 ≤ 140737488355328 := by
      have := hw ((((lits .i64 (zs.take len)) : List (DataW H)).length + ((lits .i64 (zs.drop len)) : List (DataW H)).length) * Tryz.prog.bytesOf 3) (by simp [DataW.weights, Tryz.underlying22])
      rw [Tryz.bytes3] at this
      simp only [lits, List.length_map, List.length_take, List.length_drop, reachBytes] at this
      omega
    by_cases hl0 : len = 0
    · subst hl0
      exact ⟨_, [], hcs, IntsAt.zero W a cap, by simp⟩
    · obtain ⟨b, off, spot⟩ := a
      have hspot : spot = none := by simpa [Addr.add] using World.cell?_spot (hcell 0 (by omega))
      subst hspot
      refine ⟨_, zs.take len, hcs, ?_, by rw [List.length_take]; omega⟩
      have hlen : (zs.take len).length = len := by rw [List.length_take]; omega
      have h := IntsAt.mk (w := W) (b := b) (off := off) (c := cap) (zs := zs.take len) fun k z hk => by
        have hk' := List.getElem?_eq_some_iff.1 hk
        obtain ⟨h1, h2⟩ := hk'
        rw [hlen] at h1
        have h3 := hcell k (by omega)
        rw [add_plain] at h3
        rw [h3]
        rw [List.getElem_take] at h2
        simp [List.getD, List.getElem?_eq_getElem (show k < zs.length by omega), h2]
      rwa [hlen] at h

theorem lists_in {W : World} {base fuel : Nat} {a0 : Option Addr} {len cap : Nat} {d0 : DataW H} {p0 : List MemPlace}
    (hf : DataW.trod enc Tryz.prog W base (fun _ => true) true fuel 24 (Value.slice a0 len cap).cells.toList = some (d0, p0)) (hw : ∀ n ∈ d0.weights Tryz.prog 24, n ≤ reachBytes) :
    ∃ L, ListsAt W (.slice a0 len cap) L ∧ L.length * 24 ≤ 140737488355328 ∧ ∀ zs ∈ L, zs.length * 8 ≤ 140737488355328 := by
  rcases DataW.trod_slice Tryz.underlying24 hf with ⟨hcs, hx⟩ | ⟨a, len', cap', elems, rest, n, _, hcs, hx, hb, hl, hm, hlen, hel, hsp, hns⟩
  · simp [Value.cells] at hcs
    obtain ⟨rfl, rfl, rfl⟩ := hcs
    exact ⟨[], ⟨[], ⟨none, 0, rfl, fun _ => rfl, fun h => absurd rfl h⟩, rfl, fun i u zs h => by simp at h⟩, by simp, by simp⟩
  · simp [Value.cells] at hcs
    obtain ⟨rfl, rfl, rfl⟩ := hcs
    simp only [Prod.mk.injEq] at hx
    obtain ⟨rfl, _⟩ := hx
    have hreach : len * 24 ≤ 140737488355328 := by
      have := hw (((elems.map (·.1)).length + (rest.map (·.1)).length) * Tryz.prog.bytesOf 22) (by simp [DataW.weights, Tryz.underlying24])
      rw [Tryz.bytes22] at this
      simp only [List.length_map, reachBytes] at this
      omega
    obtain ⟨vs, L, h1, h2, h3⟩ := exists_lists (Q := fun i u zs => W.cell? (a.add i) = some u ∧ IntsAt W u zs ∧ zs.length * 8 ≤ 140737488355328) len fun i hi => by
      have he := hel i hi
      rw [Tryz.cells22, Nat.mul_one, List.getElem?_eq_getElem (by omega)] at he
      obtain ⟨cs, hcs, ht⟩ := Option.bind_eq_some_iff.1 he
      obtain ⟨u, zs, rfl, hI, hb8⟩ := ints_in2 (d := elems[i].1) (p := elems[i].2) ht fun m hm' => hw m (by
        rw [DataW.weights, Tryz.underlying24]
        simp only [List.mem_cons, List.mem_append]
        exact .inr (.inl (mem_weightsAll (List.mem_map_of_mem (List.getElem_mem (by omega))) m hm')))
      have := (World.cells?_some hcs).2.2 0 (by omega)
      refine ⟨u, zs, ?_, hI, hb8⟩
      have e0 : ∀ x : Addr, x.add 0 = x := fun x => by simp [Addr.add]
      rw [e0] at this
      simpa using this
    refine ⟨L, ⟨vs, ⟨some a, cap, by rw [h1], (fun h => by cases h), fun hne => ?_⟩, by rw [h1, h2], fun i u zs hu hz => (h3 i u zs hu hz).2.1⟩, by rw [h2]; exact hreach, fun zs hz => ?_⟩
    · obtain ⟨b, off, spot⟩ := a
      have hpos : 0 < vs.length := by
        cases vs with
        | nil => exact absurd rfl hne
        | cons _ _ => simp
      obtain ⟨u0, hu0⟩ : ∃ u, vs[0]? = some u := ⟨_, List.getElem?_eq_getElem hpos⟩
      obtain ⟨z0, hz0⟩ : ∃ z, L[0]? = some z := ⟨_, List.getElem?_eq_getElem (by omega)⟩
      have hspot : spot = none := by simpa [Addr.add] using World.cell?_spot (h3 0 u0 z0 hu0 hz0).1
      subst hspot
      refine ⟨b, off, rfl, fun j x hx => ?_⟩
      obtain ⟨zj, hzj⟩ : ∃ z, L[j]? = some z := ⟨_, List.getElem?_eq_getElem (by have := (List.getElem?_eq_some_iff.1 hx).1; omega)⟩
      have := (h3 j x zj hx hzj).1
      rwa [add_plain] at this
    · obtain ⟨i, hi⟩ := List.getElem?_of_mem hz
      obtain ⟨u, hu⟩ : ∃ u, vs[i]? = some u := ⟨_, List.getElem?_eq_getElem (by have := (List.getElem?_eq_some_iff.1 hi).1; omega)⟩
      exact (h3 i u zs hu hi).2.2
end

set_option maxRecDepth 100000 in
theorem sets_lifted (os : Os) (started : os.Started) (H : Type) (enc : TypeId × Value → H) :
    ReturnsInHanded {} Tryz.checked os 4 .any (fun w args => (Rows.postingsSetsSpec.pre enc Tryz.prog Tryz.f4 [] false w args ∧ laidMetH Tryz.prog Rows.postingsSetsRow.laid w) ∧ sizedMet enc Tryz.prog Tryz.f4 (OpenSpec.ofChange Rows.postingsSetsSpec) false w args)
      (Rows.postingsSetsSpec.post enc Tryz.prog Tryz.f4 false true false false) := by
  refine returns_of_change_big (C := Tryz.checked) (N := 8) (fun w h => open_big h) (X := fun w _ => laidMetH Tryz.prog Rows.postingsSetsRow.laid w) (fun _ _ _ hh h => h.of_heap hh) Tryz.own started (by kernel_rfl) Tryz.func4
    (ChangeSpec.witness_shaped (enc := enc) (C := Tryz.checked) (os := os) (X := fun w _ => laidMetH Tryz.prog Rows.postingsSetsRow.laid w) false (World.laidAll Tryz.prog os Rows.postingsSetsRow.laid) #[.slice none 0 0, .slice none 0 0, .slice none 0 0] 8 (World.laidAll_os _ _ _)
      (World.shaped_of_ZipB (by kernel_rfl) (by kernel_rfl)) (by kernel_rfl) (by kernel_rfl) (by kernel_rfl)
      (by rw [MakeChecks.laidMetH_plain _ _ _ (by kernel_rfl)]; exact laidMet_laidAll _ (by kernel_rfl) (by kernel_rfl))) ?_
  intro W base args ds gs before hbig hval0 hW hsz0 _
  have hsz : (DataW.weightsEach Tryz.prog (Tryz.f4.params.toList ++ Rows.postingsSetsSpec.plain.varTypes Tryz.prog) (ds ++ gs)).all (· ≤ reachBytes) = true := hsz0
  clear hsz0
  have hval : ∀ (j : Nat) t v, Tryz.f4.params[j]? = some t → args[j]? = some v → Value.okWide Tryz.prog W .any base t v := hval0
  have hW' := hW
  obtain ⟨p, q, hA0, hV, rfl, _, _⟩ := hW
  have hA : DataW.TrodAll enc Tryz.prog W 0 (fun _ => true) true Tryz.f4.params.toList args.toList ds p := hA0
  rw [Tryz.params4] at hA hval hsz
  obtain ⟨v0, v1, v2, d0, d1, d2, p0, p1, p2, rfl, rfl, rfl, h0, h1, h2⟩ := trodAll_three hA
  obtain ⟨rfl, rfl⟩ := trodVars_none hV
  obtain ⟨a0, l0, c0, rfl⟩ := okWide_slice Tryz.underlying24 (hval 0 24 v0 rfl rfl)
  obtain ⟨a1, l1, c1, rfl⟩ := okWide_slice Tryz.underlying22 (hval 1 22 v1 rfl rfl)
  obtain ⟨a2, l2, c2, rfl⟩ := okWide_slice Tryz.underlying22 (hval 2 22 v2 rfl rfl)
  have h0k := h0
  have h1k := h1
  have h2k := h2
  obtain ⟨fu0, hf0⟩ := h0
  obtain ⟨fu1, hf1⟩ := h1
  obtain ⟨fu2, hf2⟩ := h2
  obtain ⟨L, hl, hln, hls⟩ := lists_in hf0 (fun n hn => by
    have := List.all_eq_true.1 hsz n (DataW.weights_mem_each (j := 0) rfl rfl n hn)
    simpa using this)
  obtain ⟨xs, ha, la⟩ := ints_in hf1 hsz (j := 1) rfl rfl
  obtain ⟨ys, hb, lb⟩ := ints_in hf2 hsz (j := 2) rfl rfl
  clear hA0 hval0
  simp only [List.append_nil] at hW'
  have hlt0 : ∀ x ∈ p0, x.block < W.heap.size := fun x hx => hW'.lt x (by simp [hx])
  have hlt1 : ∀ x ∈ p1, x.block < W.heap.size := fun x hx => hW'.lt x (by simp [hx])
  have hlt2 : ∀ x ∈ p2, x.block < W.heap.size := fun x hx => hW'.lt x (by simp [hx])
  refine (sets_any W hbig hl ha hb hln hls la lb (fun W' hW' => Go.Eng.KE.known_calls W' (by rw [Go.Eng.KE.gsize5]; exact hW'))).mono fun e W' ⟨he, hnx⟩ => ?_
  subst he
  exact ⟨_, rfl, _, _, _, [], _, [], hW', trodAll_mk1 (shut_bool Tryz.underlying4 _),
    trodAll_mk3 (Below.trod Tryz.laidOut (by kernel_rfl) (of_decide_eq_true (by kernel_rfl)) h0k hnx hlt0) (Below.trod Tryz.laidOut (by kernel_rfl) (of_decide_eq_true (by kernel_rfl)) h1k hnx hlt1) (Below.trod Tryz.laidOut (by kernel_rfl) (of_decide_eq_true (by kernel_rfl)) h2k hnx hlt2), rfl, hnx.frame _, fun h => by cases h⟩

theorem sets_holds : Rows.PostingsSetsSaid :=
  OpenClaim.holds_of_wide 4 Tryz.f4 rfl rfl rfl rfl rfl rfl rfl ⟨rfl, rfl, rfl, rfl, rfl⟩ rfl rfl rfl rfl rfl (by kernel_rfl) Tryz.func4 (by kernel_rfl)
    (of_decide_eq_true (by kernel_rfl)) (by unfold Func.isWrapper; first | (rw [if_pos (by decide +kernel)]; kernel_rfl) | (rw [if_neg (by decide +kernel)]; exact ⟨rfl, rfl⟩))
    (fun os started H enc _ => sets_lifted os started H enc)

theorem sets_card_holds : Rows.PostingsSetsCardSaid :=
  Claim7.holds_tied_plain_at .later [] [.data, .pinned] true (true, "5e57bb73489df597c51062897f3201ed4c25d718112a824415c0ea689182f8ca") true sets_holds (fun _ h => by cases h) (by kernel_rfl) (fun _ h => by cases h) postingsSets_row_tie rfl ⟨rfl, rfl⟩ (by kernel_rfl) rfl
    (fun f fn hf hfn => by
      obtain rfl : f = 4 := Option.some.inj ((show Tryz.prog.funcNamed "barograph/barographlaw13.PostingsSets" = some 4 by kernel_rfl).symm.trans hf) |>.symm
      obtain rfl : fn = Tryz.f4 := (Option.some.inj (Tryz.func4.symm.trans hfn)).symm
      exact ⟨by kernel_rfl, fun j t ht => by
        rw [Tryz.params4] at ht
        have hm : t ∈ [24, 22, 22] := by simpa using Array.mem_of_getElem? ht
        have hall : ([24, 22, 22].all fun u => !Tryz.prog.wantsStandIn u) = true := by kernel_rfl
        exact (show Tryz.prog.wantsStandIn t = false by simpa using List.all_eq_true.1 hall t hm)⟩)
    (by kernel_rfl)
#print axioms sets_card_holds
end Go.Proofs.YthoboahfogpnfaaGreatDoor
