/- The law PostingsAlgebra of barographlaw13, for every input: it returns true, and its arguments read as before. No conditions of ours; the card ties the two listed variables of the library. -/
import Derived.Test.YthoboahfogpnfaaGreatDoorKnown00
import Derived.Test.YthoboahfogpnfaaGreatDoorKnown01
import Derived.Test.YthoboahfogpnfaaGreatDoorKnown10
import Derived.Test.YthoboahfogpnfaaGreatDoorKnown11
import Derived.Test.YthoboahfogpnfaaGreatDoorPc
import Derived.Test.YthoboahfogpnfaaGreatDoorRows
import Derived.Test.YthoboahfogpnfaaGreatDoorCards
import Derived.Test.YthoboahfogpnfaaGreatDoorTie
import Derived.ProofKit
import Derived.SizedLaws
import Derived.LaidMore
import Derived.Lay
import Derived.SevenTiedAt
set_option linter.unusedSimpArgs false
set_option linter.unusedVariables false
set_option linter.deprecated false
set_option linter.unnecessarySimpa false
namespace Go.Eng.KE
open Go Go.Eng Go.RowKit
theorem known_calls (w : World) (hw : P.globals.size + 5 ≤ w.heap.size) : Calls P 10 #[] w fun e w' => e = .returned (.bool true) ∧ Below w.heap.size w w' :=
  calls_of_runP env O27 mixed gsize5 40000 10 [] rfl (runP_two env O27 (p := []) (runP_two env O27 (p := [(0, 2)]) known00 known01) (runP_two env O27 (p := [(1, 2)]) known10 known11)) w hw
end Go.Eng.KE
namespace Go.Proofs.YthoboahfogpnfaaGreatDoor
open Go Go.ChangeShapes Go.WideShapes Go.ChangeAt Go.RowKit

theorem Tryz.own : ownKnob Tryz.prog.godebug = none := by kernel_rfl
theorem Tryz.laidOut : laidOutB Tryz.prog = true := by kernel_rfl
theorem Tryz.cells3 : Tryz.prog.cellsOf 3 = 1 := by kernel_rfl
theorem Tryz.bytes3 : Tryz.prog.bytesOf 3 = 8 := by kernel_rfl
theorem begin_size : (begin Tryz.prog (fun _ _ => 0) default).world.heap.size = 8 := by kernel_rfl
theorem gsize : Tryz.prog.globals.size = 3 := by kernel_rfl

theorem open_big {w : World} (h : w.ShapedOpen Tryz.prog) : 8 ≤ w.heap.size := by
  obtain ⟨o, _, h1, _⟩ := h.2 7 (by rw [gsize]; omega) (by rw [begin_size]; omega)
  rcases Nat.lt_or_ge 7 w.heap.size with h2 | h2
  · omega
  · rw [Array.getElem?_eq_none h2] at h1; cases h1

section
variable {H : Type} {enc : TypeId × Value → H}

theorem returns_of_change_big {C : Checked} {N : Nat} (big : ∀ w : World, w.ShapedOpen C.prog → N ≤ w.heap.size) {os : Os} {f : FuncId} {fn : Func} {s : ChangeSpec} {conds : List PathCond} {apart fresh handsOn again : Bool} {X : World → Array Value → Prop}
    (hX : ∀ (w w' : World) (args : Array Value), w.heap = w'.heap → X w args → X w' args)
    (own : ownKnob C.prog.godebug = none) (started : os.Started) (noInit : C.prog.inits.idxOf? f = none) (hfn : C.prog.funcs[f]? = some fn)
    (witness : ∃ (w : World) (tape : Tape) (i : Input), w.os = os ∧ (w.forCall tape i).Shaped C.prog ∧ i.vars = [] ∧ Input.okWide C.prog (w.forCall tape i) .any w.heap.size f i ∧
      ((s.pre enc C.prog fn conds apart (w.forCall tape i).memory i.args ∧ X (w.forCall tape i).memory i.args) ∧ sizedMet enc C.prog fn (OpenSpec.ofChange s) apart (w.forCall tape i).memory i.args) ∧ ({} : Assume).holds C.prog (lone (Frame.enter C.prog f i.args .normal) [] (w.forCall tape i)))
    (contract : ∀ (W : World) (base : Nat) (args : Array Value) (ds gs : List (DataW H)) (before : List MemPlace), N ≤ W.heap.size →
      (∀ (j : Nat) t v, fn.params[j]? = some t → args[j]? = some v → Value.okWide C.prog W .any base t v) →
      DataW.Whole enc C.prog fn.params.toList s.vars apart W args.toList ds gs before →
      (DataW.weightsEach C.prog (fn.params.toList ++ s.plain.varTypes C.prog) (ds ++ gs)).all (· ≤ reachBytes) = true → X W args →
      Calls C.prog f args W fun e W' => ∃ v, e = .returned v ∧ s.post enc C.prog fn apart fresh handsOn again W args v W') :
    ReturnsInHanded {} C os f .any (fun w args => (s.pre enc C.prog fn conds apart w args ∧ X w args) ∧ sizedMet enc C.prog fn (OpenSpec.ofChange s) apart w args) (s.post enc C.prog fn apart fresh handsOn again) := by
  refine returnsInHanded_of_calls own started noInit witness ?_
  intro w tape i _ hsh _ hok hpre hholds
  obtain ⟨_, _, _, fn', hfn', _, _, _, _, hval⟩ := hok
  have e : fn' = fn := Option.some.inj (hfn'.symm.trans hfn)
  subst e
  obtain ⟨⟨⟨ds, gs, before, hw, hc⟩, hx⟩, hz⟩ := hpre
  have hw' := DataW.Whole.of_heap (w' := w.forCall tape i) (by rfl) hw
  refine (contract (w.forCall tape i) w.heap.size i.args ds gs before (big _ hsh) hval hw' (hz.weights hw) (hX _ _ _ (by rfl) hx)).mono fun e W' ⟨v, he, hp⟩ => ?_
  subst he
  exact ChangeSpec.post_blind hp


theorem ints_in {W : World} {base fuel : Nat} {a0 : Option Addr} {len cap : Nat} {d0 : DataW H} {p0 : List MemPlace} {ts : List TypeId} {ds : List (DataW H)} {j : Nat}
    (hf : DataW.trod enc Tryz.prog W base (fun _ => true) true fuel 22 (Value.slice a0 len cap).cells.toList = some (d0, p0)) (hsz : (DataW.weightsEach Tryz.prog ts ds).all (· ≤ reachBytes) = true) (ht : ts[j]? = some 22) (hd : ds[j]? = some d0) :
    ∃ zs : List Int, IntsAt W (.slice a0 len cap) zs ∧ zs.length * 8 ≤ 140737488355328 := by
  rcases open_ints Tryz.underlying22 Tryz.underlying3 Tryz.cells3 hf with ⟨hcs, hx⟩ | ⟨a, len', cap', zs, hcs, _, hl, hm, hz, hx, hcell, hwz⟩
  · simp [Value.cells] at hcs
    obtain ⟨rfl, rfl, rfl⟩ := hcs
    exact ⟨[], IntsAt.none W, by simp⟩
  · simp [Value.cells] at hcs
    obtain ⟨rfl, rfl, rfl⟩ := hcs
    simp only [Prod.mk.injEq] at hx
    obtain ⟨rfl, rfl⟩ := hx
    simp only [if_true] at hz
    have hreach : len * 8 ≤ 140737488355328 := by
      have := sized_slice hsz (j := j) (t := 22) (e := 3) ht hd Tryz.underlying22
      rw [Tryz.bytes3] at this
      simp only [lits, List.length_map, List.length_take, List.length_drop, reachBytes] at this
      omega
    by_cases hl0 : len = 0
    · subst hl0
      exact ⟨[], IntsAt.zero W a cap, by simp⟩
    · obtain ⟨b, off, spot⟩ := a
      have hspot : spot = none := by simpa [Addr.add] using World.cell?_spot (hcell 0 (by omega))
      subst hspot
      refine ⟨zs.take len, ?_, by rw [List.length_take]; omega⟩
      have hlen : (zs.take len).length = len := by rw [List.length_take]; omega
      have h := IntsAt.mk (w := W) (b := b) (off := off) (c := cap) (zs := zs.take len) fun k z hk => by
        have hk' := List.getElem?_eq_some_iff.1 hk
        obtain ⟨h1, h2⟩ := hk'
        rw [hlen] at h1
        have h3 := hcell k (by omega)
        rw [add_plain] at h3
        rw [h3]
        rw [List.getElem_take] at h2
        simp [List.getD, List.getElem?_eq_getElem (show k < zs.length by omega), h2]
      rwa [hlen] at h
end

set_option maxRecDepth 100000 in
theorem lifted (os : Os) (started : os.Started) (H : Type) (enc : TypeId × Value → H) :
    ReturnsInHanded {} Tryz.checked os 3 .any (fun w args => (Rows.postingsAlgebraSpec.pre enc Tryz.prog Tryz.f3 [] false w args ∧ laidMetH Tryz.prog Rows.postingsAlgebraRow.laid w) ∧ sizedMet enc Tryz.prog Tryz.f3 (OpenSpec.ofChange Rows.postingsAlgebraSpec) false w args)
      (Rows.postingsAlgebraSpec.post enc Tryz.prog Tryz.f3 false true false false) := by
  refine returns_of_change_big (C := Tryz.checked) (N := 8) (fun w h => open_big h) (X := fun w _ => laidMetH Tryz.prog Rows.postingsAlgebraRow.laid w) (fun _ _ _ hh h => h.of_heap hh) Tryz.own started (by kernel_rfl) Tryz.func3
    (ChangeSpec.witness_shaped (enc := enc) (C := Tryz.checked) (os := os) (X := fun w _ => laidMetH Tryz.prog Rows.postingsAlgebraRow.laid w) false (World.laidAll Tryz.prog os Rows.postingsAlgebraRow.laid) #[.slice none 0 0, .slice none 0 0, .int .i64 0] 8 (World.laidAll_os _ _ _)
      (World.shaped_of_ZipB (by kernel_rfl) (by kernel_rfl)) (by kernel_rfl) (by kernel_rfl) (by kernel_rfl)
      (by rw [MakeChecks.laidMetH_plain _ _ _ (by kernel_rfl)]; exact laidMet_laidAll _ (by kernel_rfl) (by kernel_rfl))) ?_
  intro W base args ds gs before hbig hval0 hW hsz0 _
  have hsz : (DataW.weightsEach Tryz.prog (Tryz.f3.params.toList ++ Rows.postingsAlgebraSpec.plain.varTypes Tryz.prog) (ds ++ gs)).all (· ≤ reachBytes) = true := hsz0
  clear hsz0
  have hval : ∀ (j : Nat) t v, Tryz.f3.params[j]? = some t → args[j]? = some v → Value.okWide Tryz.prog W .any base t v := hval0
  have hW' := hW
  obtain ⟨p, q, hA0, hV, rfl, _, _⟩ := hW
  have hA : DataW.TrodAll enc Tryz.prog W 0 (fun _ => true) true Tryz.f3.params.toList args.toList ds p := hA0
  rw [Tryz.params3] at hA hval hsz
  obtain ⟨v0, v1, v2, d0, d1, d2, p0, p1, p2, rfl, rfl, rfl, h0, h1, h2⟩ := trodAll_three hA
  obtain ⟨rfl, rfl⟩ := trodVars_none hV
  obtain ⟨a0, l0, c0, rfl⟩ := okWide_slice Tryz.underlying22 (hval 0 22 v0 rfl rfl)
  obtain ⟨a1, l1, c1, rfl⟩ := okWide_slice Tryz.underlying22 (hval 1 22 v1 rfl rfl)
  obtain ⟨n, rfl, rfl, rfl, wn⟩ := open_int Tryz.underlying3 (hval 2 3 v2 rfl rfl) h2
  have h0k := h0
  have h1k := h1
  obtain ⟨fu0, hf0⟩ := h0
  obtain ⟨fu1, hf1⟩ := h1
  obtain ⟨xs, ha, la⟩ := ints_in hf0 hsz (j := 0) rfl rfl
  obtain ⟨ys, hb, lb⟩ := ints_in hf1 hsz (j := 1) rfl rfl
  clear hA0 hval0
  simp only [List.append_nil] at hW'
  have hlt0 : ∀ x ∈ p0, x.block < W.heap.size := fun x hx => hW'.lt x (by simp [hx])
  have hlt1 : ∀ x ∈ p1, x.block < W.heap.size := fun x hx => hW'.lt x (by simp [hx])
  refine (law_any n W hbig ha hb la lb (fun W' hW' => Go.Eng.KE.known_calls W' (by rw [Go.Eng.KE.gsize5]; exact hW'))).mono fun e W' ⟨he, hnx⟩ => ?_
  subst he
  exact ⟨_, rfl, _, _, _, [], _, [], hW', trodAll_mk1 (shut_bool Tryz.underlying4 _),
    trodAll_mk3 (Below.trod Tryz.laidOut (by kernel_rfl) (of_decide_eq_true (by kernel_rfl)) h0k hnx hlt0) (Below.trod Tryz.laidOut (by kernel_rfl) (of_decide_eq_true (by kernel_rfl)) h1k hnx hlt1) (shut_int Tryz.underlying3 wn), rfl, hnx.frame _, fun h => by cases h⟩

theorem algebra_holds : Rows.PostingsAlgebraSaid :=
  OpenClaim.holds_of_wide 3 Tryz.f3 rfl rfl rfl rfl rfl rfl rfl ⟨rfl, rfl, rfl, rfl, rfl⟩ rfl rfl rfl rfl rfl (by kernel_rfl) Tryz.func3 (by kernel_rfl)
    (of_decide_eq_true (by kernel_rfl)) (by unfold Func.isWrapper; first | (rw [if_pos (by decide +kernel)]; kernel_rfl) | (rw [if_neg (by decide +kernel)]; exact ⟨rfl, rfl⟩))
    (fun os started H enc _ => lifted os started H enc)

theorem algebra_card_holds : Rows.PostingsAlgebraCardSaid :=
  Claim7.holds_tied_plain_at .later [] [.data, .pinned] true (true, "5e57bb73489df597c51062897f3201ed4c25d718112a824415c0ea689182f8ca") true algebra_holds (fun _ h => by cases h) (by kernel_rfl) (fun _ h => by cases h) postingsAlgebra_row_tie rfl ⟨rfl, rfl⟩ (by kernel_rfl) rfl
    (fun f fn hf hfn => by
      obtain rfl : f = 3 := Option.some.inj ((show Tryz.prog.funcNamed "barograph/barographlaw13.PostingsAlgebra" = some 3 by kernel_rfl).symm.trans hf) |>.symm
      obtain rfl : fn = Tryz.f3 := (Option.some.inj (Tryz.func3.symm.trans hfn)).symm
      exact ⟨by kernel_rfl, fun j t ht => by
        rw [Tryz.params3] at ht
        have hm : t ∈ [22, 22, 3] := by simpa using Array.mem_of_getElem? ht
        have hall : ([22, 22, 3].all fun u => !Tryz.prog.wantsStandIn u) = true := by kernel_rfl
        exact (show Tryz.prog.wantsStandIn t = false by simpa using List.all_eq_true.1 hall t hm)⟩)
    (by kernel_rfl)
#print axioms algebra_card_holds
end Go.Proofs.YthoboahfogpnfaaGreatDoor
