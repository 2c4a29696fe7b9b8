/- The law IndexBack of barographlaw14, for every input: it returns true, and its arguments read as before. No conditions of ours; the card ties the two listed variables of the library. -/
import Derived.Test.YtaoggppfimfhbaaGreatDoorNl
import Derived.Test.YtaoggppfimfhbaaGreatDoorNr
import Derived.Test.YtaoggppfimfhbaaGreatDoorKe
import Derived.Test.YtaoggppfimfhbaaGreatDoorKa
import Derived.Test.YtaoggppfimfhbaaGreatDoorRows
import Derived.Test.YtaoggppfimfhbaaGreatDoorCards
import Derived.Test.YtaoggppfimfhbaaGreatDoorTie
import Derived.ProofKit
import Derived.SizedLaws
import Derived.LaidMore
import Derived.Lay
import Derived.SevenTiedAt
set_option linter.unusedSimpArgs false
set_option linter.unusedVariables false
set_option linter.deprecated false
set_option linter.unnecessarySimpa false
namespace Go.Proofs.YtaoggppfimfhbaaGreatDoor
open Go Go.ChangeShapes Go.WideShapes Go.ChangeAt Go.RowKit Go.Ix

theorem Tryz.own : ownKnob Tryz.prog.godebug = none := by kernel_rfl
theorem Tryz.laidOut : laidOutB Tryz.prog = true := by kernel_rfl
theorem begin_size : (begin Tryz.prog (fun _ _ => 0) default).world.heap.size = 8 := by kernel_rfl
theorem gsize : Tryz.prog.globals.size = 3 := by kernel_rfl

theorem open_big {w : World} (h : w.ShapedOpen Tryz.prog) : 8 ≤ w.heap.size := by
  obtain ⟨o, _, h1, _⟩ := h.2 7 (by rw [gsize]; omega) (by rw [begin_size]; omega)
  rcases Nat.lt_or_ge 7 w.heap.size with h2 | h2
  · omega
  · rw [Array.getElem?_eq_none h2] at h1; cases h1

section
variable {H : Type} {enc : TypeId × Value → H}

theorem returns_of_change_big {C : Checked} {N : Nat} (big : ∀ w : World, w.ShapedOpen C.prog → N ≤ w.heap.size) {os : Os} {f : FuncId} {fn : Func} {s : ChangeSpec} {conds : List PathCond} {apart fresh handsOn again : Bool} {X : World → Array Value → Prop}
    (hX : ∀ (w w' : World) (args : Array Value), w.heap = w'.heap → X w args → X w' args)
    (own : ownKnob C.prog.godebug = none) (started : os.Started) (noInit : C.prog.inits.idxOf? f = none) (hfn : C.prog.funcs[f]? = some fn)
    (witness : ∃ (w : World) (tape : Tape) (i : Input), w.os = os ∧ (w.forCall tape i).Shaped C.prog ∧ i.vars = [] ∧ Input.okWide C.prog (w.forCall tape i) .any w.heap.size f i ∧
      ((s.pre enc C.prog fn conds apart (w.forCall tape i).memory i.args ∧ X (w.forCall tape i).memory i.args) ∧ sizedMet enc C.prog fn (OpenSpec.ofChange s) apart (w.forCall tape i).memory i.args) ∧ ({} : Assume).holds C.prog (lone (Frame.enter C.prog f i.args .normal) [] (w.forCall tape i)))
    (contract : ∀ (W : World) (base : Nat) (args : Array Value) (ds gs : List (DataW H)) (before : List MemPlace), N ≤ W.heap.size →
      (∀ (j : Nat) t v, fn.params[j]? = some t → args[j]? = some v → Value.okWide C.prog W .any base t v) →
      DataW.Whole enc C.prog fn.params.toList s.vars apart W args.toList ds gs before →
      (DataW.weightsEach C.prog (fn.params.toList ++ s.plain.varTypes C.prog) (ds ++ gs)).all (· ≤ reachBytes) = true → X W args →
      Calls C.prog f args W fun e W' => ∃ v, e = .returned v ∧ s.post enc C.prog fn apart fresh handsOn again W args v W') :
    ReturnsInHanded {} C os f .any (fun w args => (s.pre enc C.prog fn conds apart w args ∧ X w args) ∧ sizedMet enc C.prog fn (OpenSpec.ofChange s) apart w args) (s.post enc C.prog fn apart fresh handsOn again) := by
  refine returnsInHanded_of_calls own started noInit witness ?_
  intro w tape i _ hsh _ hok hpre hholds
  obtain ⟨_, _, _, fn', hfn', _, _, _, _, hval⟩ := hok
  have e : fn' = fn := Option.some.inj (hfn'.symm.trans hfn)
  subst e
  obtain ⟨⟨⟨ds, gs, before, hw, hc⟩, hx⟩, hz⟩ := hpre
  have hw' := DataW.Whole.of_heap (w' := w.forCall tape i) (by rfl) hw
  refine (contract (w.forCall tape i) w.heap.size i.args ds gs before (big _ hsh) hval hw' (hz.weights hw) (hX _ _ _ (by rfl) hx)).mono fun e W' ⟨v, he, hp⟩ => ?_
  subst he
  exact ChangeSpec.post_blind hp


end

theorem half_ok : HalfOk := fun W hW => Go.Eng.KE.half_calls W hW
theorem known_ok (W : World) (hW : 8 ≤ W.heap.size) : Calls Tryz.prog 12 #[] W fun e W' => e = .returned (.bool true) ∧ Below W.heap.size W W' := Go.Eng.KE.known_calls W (by rw [Go.Eng.KE.gsize5]; exact hW)

set_option maxRecDepth 100000 in
set_option maxHeartbeats 2000000 in
theorem back_lifted (os : Os) (started : os.Started) (H : Type) (enc : TypeId × Value → H) :
    ReturnsInHanded {} Tryz.checked os 4 .any (fun w args => (Rows.indexBackSpec.pre enc Tryz.prog Tryz.f4 [] false w args ∧ laidMetH Tryz.prog Rows.indexBackRow.laid w) ∧ sizedMet enc Tryz.prog Tryz.f4 (OpenSpec.ofChange Rows.indexBackSpec) false w args)
      (Rows.indexBackSpec.post enc Tryz.prog Tryz.f4 false true false false) := by
  refine returns_of_change_big (C := Tryz.checked) (N := 8) (fun w h => open_big h) (X := fun w _ => laidMetH Tryz.prog Rows.indexBackRow.laid w) (fun _ _ _ hh h => h.of_heap hh) Tryz.own started (by kernel_rfl) Tryz.func4
    (ChangeSpec.witness_shaped (enc := enc) (C := Tryz.checked) (os := os) (X := fun w _ => laidMetH Tryz.prog Rows.indexBackRow.laid w) false (World.laidAll Tryz.prog os Rows.indexBackRow.laid) #[.slice none 0 0, .int .i64 0, .int .u32 0] 8 (World.laidAll_os _ _ _)
      (World.shaped_of_ZipB (by kernel_rfl) (by kernel_rfl)) (by kernel_rfl) (by kernel_rfl) (by kernel_rfl)
      (by rw [MakeChecks.laidMetH_plain _ _ _ (by kernel_rfl)]; exact laidMet_laidAll _ (by kernel_rfl) (by kernel_rfl))) ?_
  intro W base args ds gs before hbig hval0 hW hsz0 _
  have hsz : (DataW.weightsEach Tryz.prog (Tryz.f4.params.toList ++ Rows.indexBackSpec.plain.varTypes Tryz.prog) (ds ++ gs)).all (· ≤ reachBytes) = true := hsz0
  clear hsz0
  have hval : ∀ (j : Nat) t v, Tryz.f4.params[j]? = some t → args[j]? = some v → Value.okWide Tryz.prog W .any base t v := hval0
  have hW' := hW
  obtain ⟨p, q, hA0, hV, rfl, _, _⟩ := hW
  have hA : DataW.TrodAll enc Tryz.prog W 0 (fun _ => true) true Tryz.f4.params.toList args.toList ds p := hA0
  rw [Tryz.params4] at hA hval hsz
  obtain ⟨v0, v1, v2, d0, d1, d2, p0, p1, p2, rfl, rfl, rfl, h0, h1, h2⟩ := trodAll_three hA
  obtain ⟨rfl, rfl⟩ := trodVars_none hV
  obtain ⟨a0, l0, c0, rfl⟩ := okWide_slice Tryz.underlying22 (hval 0 22 v0 rfl rfl)
  obtain ⟨a1, rfl, rfl, rfl, wn1⟩ := open_int Tryz.underlying3 (hval 1 3 v1 rfl rfl) h1
  obtain ⟨a2, rfl, rfl, rfl, wn2⟩ := open_int Tryz.underlying70 (hval 2 70 v2 rfl rfl) h2
  have hb1 : -9223372036854775808 ≤ a1 ∧ a1 ≤ 9223372036854775807 := by
    have h9 := wn1
    simp only [Lit.wf, Bool.and_eq_true, decide_eq_true_eq] at h9
    exact h9
  have hb2 : 0 ≤ a2 ∧ a2 ≤ 4294967295 := by
    have h9 := wn2
    simp only [Lit.wf, Bool.and_eq_true, decide_eq_true_eq] at h9
    exact h9
  obtain ⟨mk, rfl⟩ : ∃ mk : Nat, a2 = (mk : Int) := ⟨a2.toNat, by omega⟩
  have h0k := h0
  obtain ⟨fu0, hf0⟩ := h0
  obtain ⟨o, n, c, l, hcs, hl, hr, hv⟩ := ents_in hf0 (fun n hn => by
    have := List.all_eq_true.1 hsz n (DataW.weights_mem_each (j := 0) rfl rfl n hn)
    simpa using this)
  simp [Value.cells] at hcs
  obtain ⟨rfl, rfl, rfl⟩ := hcs
  clear hA0 hval0
  simp only [List.append_nil] at hW'
  have hlt0 : ∀ x ∈ p0, x.block < W.heap.size := fun x hx => hW'.lt x (by simp [hx])
  refine (back_any _ _ _ l W a1 mk hb1.1 hb1.2 (by omega) hbig hl hv hr half_ok known_ok).mono fun e W' ⟨he, hnx⟩ => ?_
  subst he
  exact ⟨_, rfl, _, _, _, [], _, [], hW', trodAll_mk1 (shut_bool Tryz.underlying4 _),
    trodAll_mk3 (Below.trod Tryz.laidOut (by kernel_rfl) (of_decide_eq_true (by kernel_rfl)) h0k hnx hlt0) (shut_int Tryz.underlying3 wn1) (shut_int Tryz.underlying70 wn2), rfl, hnx.frame _, fun h => by cases h⟩

theorem back_holds : Rows.IndexBackSaid :=
  OpenClaim.holds_of_wide 4 Tryz.f4 rfl rfl rfl rfl rfl rfl rfl ⟨rfl, rfl, rfl, rfl, rfl⟩ rfl rfl rfl rfl rfl (by kernel_rfl) Tryz.func4 (by kernel_rfl)
    (of_decide_eq_true (by kernel_rfl)) (by unfold Func.isWrapper; first | (rw [if_pos (by decide +kernel)]; kernel_rfl) | (rw [if_neg (by decide +kernel)]; exact ⟨rfl, rfl⟩))
    (fun os started H enc _ => back_lifted os started H enc)

theorem back_card_holds : Rows.IndexBackCardSaid :=
  Claim7.holds_tied_plain_at .later [] [.data, .pinned] true (true, "e96cb1f0fba9742707be21c15b43796dd2b2f794df41270ce8b8928755ced39f") true back_holds (fun _ h => by cases h) (by kernel_rfl) (fun _ h => by cases h) indexBack_row_tie rfl ⟨rfl, rfl⟩ (by kernel_rfl) rfl
    (fun f fn hf hfn => by
      obtain rfl : f = 4 := Option.some.inj ((show Tryz.prog.funcNamed "barograph/barographlaw14.IndexBack" = some 4 by kernel_rfl).symm.trans hf) |>.symm
      obtain rfl : fn = Tryz.f4 := (Option.some.inj (Tryz.func4.symm.trans hfn)).symm
      exact ⟨by kernel_rfl, fun j t ht => by
        rw [Tryz.params4] at ht
        have hm : t ∈ [22, 3, 70] := by simpa using Array.mem_of_getElem? ht
        have hall : ([22, 3, 70].all fun u => !Tryz.prog.wantsStandIn u) = true := by kernel_rfl
        exact (show Tryz.prog.wantsStandIn t = false by simpa using List.all_eq_true.1 hall t hm)⟩)
    (by kernel_rfl)
#print axioms back_card_holds
end Go.Proofs.YtaoggppfimfhbaaGreatDoor
