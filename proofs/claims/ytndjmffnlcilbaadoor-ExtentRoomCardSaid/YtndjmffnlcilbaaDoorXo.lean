/- Contracts over this program. Their conditions: the slices read as the lists that are named, and lie within the sizes that are named. -/
import Derived.Test.YtndjmffnlcilbaaDoorXf
set_option linter.unusedSimpArgs false
set_option linter.unusedVariables false
set_option linter.deprecated false
set_option linter.unnecessarySimpa false
namespace Go.Proofs.YtndjmffnlcilbaaDoor
open Go Go.RowKit Go.Ix Go.Ext Go.Maps
theorem step_make_full {P : Program} {ops : Array Oper} {o : Oper} {a : Act} {w : World} {K : Act → World → Prop} {Q : Exit → Act → World → Prop} {E : Prop} (hg : o.guard = none) (l c : Operand) (t : TypeId) (hop : o.op = Op.makeSlice t l c)
    (base : Nat) (e : TypeId) (i : TypeInfo) (z : Value) (size : Nat) (h1 : P.underlying t = some (.slice e)) (h2 : P.info? e = some i) (h3 : i.zero = some z) (h4 : i.size = size)
    (kl kc : IntKind) (n : Nat) (hl : a.eval l = .int kl n) (hc : a.eval c = .int kc n) (b2 : i.bytes * n ≤ 281474976710656) (b3 : n ≤ maxLen) (b4 : base ≤ w.heap.size)
    (hK : ∀ w', w'.ownsRow base e size (.slice (some ⟨w.heap.size, 0, none⟩) n n) n (madeCells z.cells (n * size)).toList → w.grownBy w' none → K (a.put o.dst (.slice (some ⟨w.heap.size, 0, none⟩) n n)) w') :
    if Region.wanted o (yielded ops a.tmps) = true then Oper.wp P o a w K Q else E := by
  have hw : Region.wanted o (yielded ops a.tmps) = true := by simp [Region.wanted, hg]
  rw [if_pos hw]
  obtain ⟨w', hrun, r1, r2⟩ := run_make_full (P := P) w base t e i z size h1 h2 h3 h4 kl kc n b2 b3 b4
  unfold Oper.wp
  simp [execOp, hop, hl, hc, hrun, Result.andThen]
  exact hK w' r1 r2
theorem step_call {P : Program} {ops : Array Oper} {o : Oper} {a : Act} {w : World} {K : Act → World → Prop} {Q : Exit → Act → World → Prop} {E : Prop} (hg : o.guard = none) (f : FuncId) (xs : Array Operand) (ts : Array TypeId)
    (hop : o.op = .call { callee := .value (.func f), args := xs, argTypes := ts }) (us : Array Value) (hx : xs.map a.eval = us) (en : ∀ args w, (callFunc f args).run P w = .ok (.enter f args) w) {S : Value → World → Prop}
    (hc : Calls P f us w fun e w' => ∃ v, e = .returned v ∧ S v w') (hK : ∀ v w', S v w' → K (a.put o.dst v) w') :
    if Region.wanted o (yielded ops a.tmps) = true then Oper.wp P o a w K Q else E := by
  have hw : Region.wanted o (yielded ops a.tmps) = true := by simp [Region.wanted, hg]
  rw [if_pos hw]
  have hrun : (execOp a.eval o).run P w = .ok (.enter f us) w := by
    have h1 := en us w
    simp only [execOp, hop]
    have ev : a.eval (.func f) = .func (.func f) #[] #[] := rfl
    simp only [resolve, ev]
    show (invoke (.fn (.func f) #[]) (#[] ++ (xs.map a.eval))).run P w = _
    rw [hx]
    have e2 : invoke (.fn (.func f) #[]) (#[] ++ us) = callFunc f ((#[] ++ us) ++ #[]) := rfl
    rw [e2, Array.empty_append, Array.append_empty]
    exact h1
  unfold Oper.wp
  rw [hrun, Oper.upon_enter]
  refine hc.mono ?_
  rintro e w' ⟨v, rfl, hS⟩
  exact hK v w' hS
theorem Tryd.enters_dwrite : ∀ (args : Array Value) (w : World), (callFunc 22 args).run Tryd.prog w = .ok (.enter 22 args) w := enters_of Tryd.func22 (by kernel_rfl) rfl
set_option maxRecDepth 20000 in
set_option maxHeartbeats 1000000 in
theorem format3_any {w : World} {B db sm n t b1 : Nat} (h : DI w B db sm n t) (hb1 : w.heap[b1]? = some (.cells #[.pointer (some ⟨db, 0, none⟩)] 25 (0, 0))) (hB : B ≤ w.heap.size) (h2 : 2 ≤ n) (hn : n ≤ 1000) (ht : t ≤ 1000000) :
    Calls Tryd.prog 24 #[.pointer (some ⟨b1, 0, none⟩)] w (OpEnd w B db sm n (t + 1)) := by
  obtain ⟨i5, hi5, hz5, hy5, hx5⟩ := info_parts Tryd.info5
  have q1 : w.drew.cell? ⟨b1, 0, none⟩ = some (.pointer (some ⟨db, 0, none⟩)) := by rw [cell_of_heap (show w.drew.heap[b1]? = _ from hb1)]; rfl
  have HD : Hid (DI w.drew B db sm n t) := Lib.hid (h.olds (Olds.drewN w 1))
  obtain ⟨es, cm, hkm⟩ := h.seen.kind
  have hne : b1 ∉ [sm] := fun hm => by
    simp only [List.mem_singleton] at hm
    rw [hm, hkm] at hb1
    cases hb1
  have HW : Hid (∀ w1 : World, w1.ownsRow w.drew.heap.size 5 1 (.slice (some ⟨w.drew.heap.size, 0, none⟩) 256 256) 256 (madeCells (Value.int .u8 0).cells (256 * 1)).toList → w.drew.grownBy w1 none → w1.cell? ⟨b1, 0, none⟩ = some (.pointer (some ⟨db, 0, none⟩)) ∧
      Calls Tryd.prog 22 #[.pointer (some ⟨db, 0, none⟩), .int .i64 1, .slice (some ⟨w.drew.heap.size, 0, none⟩) 256 256] w1 fun e w2 => e = .returned (.int .u16 0) ∧ w2.cell? ⟨b1, 0, none⟩ = some (.pointer (some ⟨db, 0, none⟩)) ∧ OpEnd w B db sm n (t + 1) e w2) := Lib.hid (fun w1 hr hg => by
    have ho : Olds w.drew w1 := ⟨hg.size, fun b hb => hg.block b hb (by simp)⟩
    have hb : Below w.drew.heap.size w.drew w1 := (Below.refl _ _).grown hg (Nat.le_refl _) (by simp)
    have hbr : ByteRow w1 w.drew.heap.size (.slice (some ⟨w.drew.heap.size, 0, none⟩) 256 256) 256 := by
      refine ⟨List.replicate 256 0, ?_, fun x hx => by rw [List.mem_replicate] at hx; omega, by simp⟩
      have hz : (madeCells (Value.int .u8 0).cells (256 * 1)).toList = octs (List.replicate 256 0) := by
        show (madeCells #[Value.int .u8 0] 256).toList = _
        rw [toList_madeCells_one]
        unfold octs
        rw [List.map_replicate]
        rfl
      rw [hz] at hr
      unfold Row8
      rw [List.length_replicate]
      exact hr
    have hd := dwrite_any 1 (HD.out.olds ho) (by omega) (by omega) ht (by have := hb.size; have h9 : w.drew.heap.size = w.heap.size := rfl; omega) hbr
    refine ⟨ho.cell q1, hd.mono ?_⟩
    rintro e w2 ⟨rfl, h1, h2⟩
    have hf : Fr B TD [sm] w w2 := ((Fr.of_below hb hB _ _).trans h2).from_drew
    exact ⟨rfl, by rw [cell_of_heap (hf.keep hb1 hne (by decide))]; rfl, rfl, h1, hf⟩)
  clear h hb1 hkm hne
  go_enter Tryd.func24, Tryd.ntmps24
  go_upto_region 1 with fail
  refine wp_region_held_drew (S := (fun W' => W'.cell? ⟨b1, 0, none⟩ = some (.pointer (some ⟨db, 0, none⟩)))) (by kernel_rfl) q1 (fun hHeld => ?_)
  refine wpAnyH_take (i := 0) (v := ?v0) rfl (by kernel_rfl) (by kernel_rfl) (by kernel_rfl) (fun _ _ _ h => h) (Or.inl ⟨by rfl, ?h0⟩) hHeld ?r0
  case h0 =>
    rintro W s1
    go_simp
    all_goals with_reducible rfl
  try simp only [Act.put, List.getElem_toArray, List.getElem_cons_succ, List.getElem_cons_zero, List.setIfInBounds_toArray, List.set_cons_zero, List.set_cons_succ]
  refine wpAnyH_ready (rs := [1]) (by kernel_rfl) (by simp) (AllReadyH.cons rfl (fun K hK => ?_) AllReadyH.nil)
  refine step_make_full (by rfl) _ _ 33 (by rfl) w.drew.heap.size 5 i5 (.int .u8 0) 1 Tryd.underlying33 hi5 hz5 hy5 .i64 .i64 256 (by rfl) (by rfl) (by rw [hx5]; decide) (by unfold maxLen; omega) (Nat.le_refl _) ?_
  intro w1 hr1 hg1
  have HX := Lib.hid (HW.out w1 hr1 hg1)
  clear hr1 hg1
  refine hK.out _ _ HX.out.1 (fun hHeld2 => ?_)
  clear hK K
  try simp only [Act.put, List.getElem_toArray, List.getElem_cons_succ, List.getElem_cons_zero, List.setIfInBounds_toArray, List.set_cons_zero, List.set_cons_succ]
  refine wpAnyH_ready (rs := [2]) (by kernel_rfl) (by simp) (AllReadyH.cons rfl (fun K hK => ?_) AllReadyH.nil)
  refine step_call (by rfl) 22 _ _ (by rfl) _ (by simp only [List.map_toArray, List.map_cons, List.map_nil]; rfl) Tryd.enters_dwrite (S := fun v w2 => v = .int .u16 0 ∧ w2.cell? ⟨b1, 0, none⟩ = some (.pointer (some ⟨db, 0, none⟩)) ∧ OpEnd w B db sm n (t + 1) (.returned (.int .u16 0)) w2) (HX.out.2.mono ?_) ?_
  · rintro e w2 ⟨rfl, h1, h2⟩
    exact ⟨_, rfl, rfl, h1, h2⟩
  rintro v w2 ⟨rfl, h1, h2⟩
  have H2 := Lib.hid h2
  clear h2
  refine hK.out _ _ h1 (fun hHeld3 => ?_)
  clear hK K
  try simp only [Act.put, List.getElem_toArray, List.getElem_cons_succ, List.getElem_cons_zero, List.setIfInBounds_toArray, List.set_cons_zero, List.set_cons_succ]
  refine wpAnyH_take (i := 3) (v := ?v3) rfl (by kernel_rfl) (by kernel_rfl) (by kernel_rfl) (fun _ _ _ h => h) (Or.inl ⟨by rfl, ?h3⟩) hHeld3 ?r3
  case h3 =>
    rintro W s1
    go_simp
    all_goals with_reducible rfl
  try simp only [Act.put, List.getElem_toArray, List.getElem_cons_succ, List.getElem_cons_zero, List.setIfInBounds_toArray, List.set_cons_zero, List.set_cons_succ]
  refine wpAnyH_done (by kernel_rfl) ?_ _
  go_wp2_with fail
  go_ret
  exact ⟨rfl, H2.out.2.1, H2.out.2.2⟩
theorem ByteRow.data {w : World} {B B' m c : Nat} {o : Option Addr} (h : ByteRow w B' (.slice o m c) m) : Data w B o m c := by
  obtain ⟨bs, h1, h2, h3⟩ := h
  unfold Row8 at h1
  rw [h3] at h1
  have hf : FlatAt w (.slice o m c) m (octs bs) := owns_flat h1
  refine ⟨bs, by unfold BytesAt; rw [h3]; exact hf, h2, h3, ?_, fun a ha hp => .inr ?_⟩
  · rcases h1.2 with ⟨e, h0⟩ | ⟨g, cap, cur, e, _, _, hc, _⟩
    · omega
    · simp only [Value.slice.injEq] at e
      omega
  · rcases h1.2 with ⟨e, h0⟩ | ⟨g, cap, cur, e, _, hh, _⟩
    · omega
    · simp only [Value.slice.injEq] at e
      rw [ha] at e
      have e1 := Option.some.inj e.1
      subst e1
      exact ⟨cur, _, hh⟩
def newG (n : Nat) : G := { n := n, dir := [2], now := [], next := [], T := fun a => (([2].count a : Nat) : Int) + ((cntF [] a : Nat) : Int), undo := [] }
def FormatEnd (w : World) (B db sm n : Nat) (e : Ending) (w' : World) : Prop :=
  ∃ sb : Nat, e = .returned (.tuple #[.pointer (some ⟨sb, 0, none⟩), .int .u16 0]) ∧ Kp B w w' ∧ w.heap.size ≤ sb ∧ SI w' B db sm sb 1 2 (newG n)
set_option maxRecDepth 20000 in
set_option maxHeartbeats 4000000 in
theorem format_any (hH : HalfOk) {w : World} {B db sm n : Nat} (h : DI w B db sm n 0) (hB : B ≤ w.heap.size) (hG : 8 ≤ w.heap.size) (h3 : 3 ≤ n) (hn : n ≤ 62) :
    Calls Tryd.prog 7 #[.pointer (some ⟨db, 0, none⟩)] w (FormatEnd w B db sm n) := by
  obtain ⟨X1, hX1⟩ : ∃ X1 : World, X1 = w.alloc (.cells #[.pointer (some ⟨db, 0, none⟩)] 25) := ⟨_, rfl⟩
  obtain ⟨X2, hX2⟩ : ∃ X2 : World, X2 = X1.alloc (.map #[] 0) := ⟨_, rfl⟩
  obtain ⟨X3, hX3⟩ : ∃ X3 : World, X3 = X2.alloc (.cells #[.int .i64 2] 3) := ⟨_, rfl⟩
  have hs1 : X1.heap.size = w.heap.size + 1 := by rw [hX1]; simp
  have hs2 : X2.heap.size = w.heap.size + 2 := by rw [hX2]; simp [hs1]
  have hs3 : X3.heap.size = w.heap.size + 3 := by rw [hX3]; simp [hs2]
  have o1 : Olds w X1 := by rw [hX1]; exact Olds.alloc _ _
  have o2 : Olds X1 X2 := by rw [hX2]; exact Olds.alloc _ _
  have o3 : Olds X2 X3 := by rw [hX3]; exact Olds.alloc _ _
  have b3 : Below w.heap.size w X3 := by
    rw [hX3, hX2, hX1]
    exact (((Below.refl _ _).alloc (Nat.le_refl _) _).alloc (by simp) _).alloc (by simp; omega) _
  have hbx : X3.heap[w.heap.size]? = some (.cells #[.pointer (some ⟨db, 0, none⟩)] 25 (0, 0)) := by
    refine ((o2.trans o3).2 _ (by omega)).trans ?_
    rw [hX1]
    exact heap_alloc_new _ _
  have hm2 : SMap X2 B 0 X1.heap.size 0 [] := by
    have := SMap.made X1 B 0
    rw [← hX2] at this
    exact this
  have hm3 : SMap X3 B 0 X1.heap.size 0 [] := hm2.olds o3
  have hs2' : X2.heap.size = X1.heap.size + 1 := by omega
  have hd3 : X3.ownsRow B 3 1 (.slice (some ⟨X1.heap.size + 1, 0, none⟩) 1 1) [2].length (nats [2]) := by
    refine ⟨rfl, .inr ⟨X1.heap.size + 1, 1, #[.int .i64 2], rfl, by omega, ?_, Nat.le_refl _, by decide, rfl, rfl⟩⟩
    have := heap_alloc_new X2 (.cells #[.int .i64 2] 3)
    rw [hs2', ← hX3] at this
    exact this
  have hdi3 := ((h.olds o1).olds o2).olds o3
  have hsm := h.seen.lt
  obtain ⟨es, cm, hkm⟩ := h.seen.kind
  have HM : Hid (Calls Tryd.prog 16 #[.pointer (some ⟨db, 0, none⟩), .int .i64 (0 : Nat), .int .u64 (1 : Nat), .map (some X1.heap.size), .slice (some ⟨X1.heap.size + 1, 0, none⟩) 1 1] X3 (MadeEnd X3 B db X1.heap.size 0 n 0 1 (.slice (some ⟨X1.heap.size + 1, 0, none⟩) 1 1) [] [2])) := Lib.hid (made_any hdi3 (by omega) hn hm3 (by decide) (by omega) hd3 (fun a ha => by simp at ha; omega) (by decide) (fun p hp => by cases hp) (fun p hp => by cases hp) (fun a => by
    have : [2].count a ≤ 1 := List.nodup_iff_count.1 (by simp) a
    simp only [cntF, List.map_nil, List.sum_nil]
    omega))
  rw [show ((0 : Nat) : Int) = 0 from rfl, show ((1 : Nat) : Int) = 1 from rfl] at HM
  have HSec := Lib.hid (sectors_any (h.olds o1))
  have HX1 := Lib.hid hX1
  have HX2 := Lib.hid hX2
  have HX3 := Lib.hid hX3
  have Hb3 := Lib.hid b3
  have Hbx := Lib.hid hbx
  have Hd3 := Lib.hid hd3
  have Hdi3 := Lib.hid hdi3
  have Hkm := Lib.hid hkm
  have Hs1 := Lib.hid hs1
  have Hs2 := Lib.hid hs2
  have Hs3 := Lib.hid hs3
  have hbc1 : X1.cell? ⟨w.heap.size, 0, none⟩ = some (.pointer (some ⟨db, 0, none⟩)) := by rw [hX1, cell_of_heap (heap_alloc_new _ _)]; rfl
  clear hX1 hX2 hX3 o1 o2 o3 b3 hbx hm2 hm3 hd3 hdi3 h hkm hs1 hs2 hs3
  go_enter Tryd.func7, Tryd.ntmps7
  go_upto_region 1 with fail
  rw [← HX1.out]
  go_upto_region 3 with (go_at_call 15; refine HSec.out.mono ?_; clear HSec; rintro e w1' ⟨rfl, hw1⟩; rw [hw1]; clear hw1 w1')
  have hmm := @run_makeMap Tryd.prog
  have hlt3 : decide ((n : Int) < 3) = false := by simp; omega
  go_upto_region 4 with (go_at_call 16; rw [← HX2.out, ← HX3.out]; refine HM.out.mono ?_; clear HM; rintro e Y ⟨hby, sn, tn, xn, rfl, h1, h2, h3, h4, h5⟩; have Hby := Lib.hid hby; have Hsn := Lib.hid h4; have Hsr := Lib.hid h5; have hns := h1; have hnt := h2; have hnx := h3; clear hby h1 h2 h3 h4 h5)
  obtain ⟨A0, hA0⟩ : ∃ A0 : World, A0 = Y.alloc (.cells #[.pointer (some ⟨sn, 0, none⟩)] 30) := ⟨_, rfl⟩
  rw [← hA0]
  have oA0 : Olds Y A0 := by rw [hA0]; exact Olds.alloc _ _
  have hA0s : A0.heap.size = Y.heap.size + 1 := by rw [hA0]; simp
  have hA0b : Below X3.heap.size X3 A0 := by rw [hA0]; exact Hby.out.trans ((Below.refl _ _).alloc Hby.out.size _)
  have hA0x : A0.heap[Y.heap.size]? = some (.cells #[.pointer (some ⟨sn, 0, none⟩)] 30 (0, 0)) := by rw [hA0]; exact heap_alloc_new _ _
  have hA0n := (oA0.2 _ (heap_lt Hsn.out)).trans Hsn.out
  have hq1 : A0.cell? ⟨Y.heap.size, 0, none⟩ = some (.pointer (some ⟨sn, 0, none⟩)) := by rw [cell_of_heap hA0x]; rfl
  have hq2 : A0.cell? ⟨sn, 3, none⟩ = some (.map (some X1.heap.size)) := by rw [cell_of_heap hA0n]; rfl
  have HSB := Lib.hid (sbytes_any (l := []) ((Hsr.out 0).now.olds oA0) (by decide) (fun p hp => by cases hp) (by decide))
  have HA0 := Lib.hid hA0
  have HoA0 := Lib.hid oA0
  have HA0b := Lib.hid hA0b
  have HA0x := Lib.hid hA0x
  have HA0n := Lib.hid hA0n
  obtain ⟨ys, hys⟩ : ∃ ys, ys = Y.heap.size := ⟨_, rfl⟩
  rw [← hys]
  rw [← hys] at hq1 HA0x hA0s
  have Hys := Lib.hid hys
  rw [show dirLen [] = 2 from rfl] at HSB
  clear hA0 oA0 hA0b hA0x hA0n hys
  go_upto_region 5 with (go_at_call 17; refine HSB.out.mono ?_; clear HSB; rintro e A1 ⟨v, rfl, hrow, hb⟩; obtain ⟨da, dc, rfl⟩ := hrow.shape; have Hrow := Lib.hid hrow; have Hb := Lib.hid hb; clear hrow hb)
  obtain ⟨A2, hA2⟩ : ∃ A2 : World, A2 = A1.alloc (.cells #[.slice da 2 dc] 33) := ⟨_, rfl⟩
  obtain ⟨av, hav⟩ : ∃ av, av = A1.heap.size := ⟨_, rfl⟩
  rw [← hA2, ← hav]
  obtain ⟨A3, hA3⟩ : ∃ A3 : World, A3 = A2.alloc (.cells #[.func (.func 18) #[] #[.pointer (some ⟨ys, 0, none⟩), .pointer (some ⟨av, 0, none⟩)], .func (.func 20) #[.pointer (some ⟨db, 0, none⟩)] #[], .func (.func 21) #[] #[.pointer (some ⟨w.heap.size, 0, none⟩), .pointer (some ⟨av, 0, none⟩), .pointer (some ⟨ys, 0, none⟩)], .func (.func 24) #[] #[.pointer (some ⟨w.heap.size, 0, none⟩)], .func (.func 20) #[.pointer (some ⟨db, 0, none⟩)] #[]] 40) := ⟨_, rfl⟩
  have oA01 : Olds A0 A1 := Olds.of_below Hb.out
  have oA12 : Olds A1 A2 := by rw [hA2]; exact Olds.alloc _ _
  have oA23 : Olds A2 A3 := by rw [hA3]; exact Olds.alloc _ _
  have hA2s : A2.heap.size = av + 1 := by rw [hA2, hav]; simp
  have hA3s : A3.heap.size = av + 2 := by rw [hA3]; simp [hA2s]
  have h01 := Hb.out.size
  have h00 := HA0b.out.size
  have hav0 : A0.heap.size ≤ av := by omega
  have g1 : A3.heap[w.heap.size]? = some (.cells #[.pointer (some ⟨db, 0, none⟩)] 25 (0, 0)) := by
    have h3 := HA0b.out.block w.heap.size (by have := Hs3.out; omega)
    exact (((oA01.trans oA12).trans oA23).2 _ (by have := Hs3.out; omega)).trans (h3.trans Hbx.out)
  have g2 : A3.heap[ys]? = some (.cells #[.pointer (some ⟨sn, 0, none⟩)] 30 (0, 0)) := (((oA01.trans oA12).trans oA23).2 _ (by omega)).trans HA0x.out
  have g3 : A3.heap[av]? = some (.cells #[.slice da 2 dc] 33 (0, 0)) := by
    refine (oA23.2 _ (by omega)).trans ?_
    rw [hA2, hav]
    exact heap_alloc_new _ _
  have g4 := (((oA01.trans oA12).trans oA23).2 _ (heap_lt HA0n.out)).trans HA0n.out
  have g5 : A3.heap[av + 1]? = some (.cells #[.func (.func 18) #[] #[.pointer (some ⟨ys, 0, none⟩), .pointer (some ⟨av, 0, none⟩)], .func (.func 20) #[.pointer (some ⟨db, 0, none⟩)] #[], .func (.func 21) #[] #[.pointer (some ⟨w.heap.size, 0, none⟩), .pointer (some ⟨av, 0, none⟩), .pointer (some ⟨ys, 0, none⟩)], .func (.func 24) #[] #[.pointer (some ⟨w.heap.size, 0, none⟩)], .func (.func 20) #[.pointer (some ⟨db, 0, none⟩)] #[]] 40 (0, 0)) := by
    have := heap_alloc_new A2 (.cells #[.func (.func 18) #[] #[.pointer (some ⟨ys, 0, none⟩), .pointer (some ⟨av, 0, none⟩)], .func (.func 20) #[.pointer (some ⟨db, 0, none⟩)] #[], .func (.func 21) #[] #[.pointer (some ⟨w.heap.size, 0, none⟩), .pointer (some ⟨av, 0, none⟩), .pointer (some ⟨ys, 0, none⟩)], .func (.func 24) #[] #[.pointer (some ⟨w.heap.size, 0, none⟩)], .func (.func 20) #[.pointer (some ⟨db, 0, none⟩)] #[]] 40)
    rw [hA2s, ← hA3] at this
    exact this
  have g6 : A3.ownsRow B 3 1 (.slice (some ⟨X1.heap.size + 1, 0, none⟩) 1 1) 1 (nats [2]) := ownsRow_olds Hd3.out ((Olds.of_below HA0b.out).trans ((oA01.trans oA12).trans oA23))
  have g7 : Data A3 B da 2 dc := (Hrow.out.olds (oA12.trans oA23)).data
  have g8 : ∀ sb', SR A3 B sb' tn n X1.heap.size xn 0 (.slice none 0 0) (.slice (some ⟨X1.heap.size + 1, 0, none⟩) 1 1) { n := n, dir := [2], now := [], next := [], T := fun a => (([2].count a : Nat) : Int) + ((cntF [] a : Nat) : Int), undo := [] } := fun sb' => (Hsr.out sb').olds (HoA0.out.trans ((oA01.trans oA12).trans oA23))
  have gB : Below w.heap.size w A3 := by
    have h2 : Below w.heap.size A0 A1 := Hb.out.mono (by have := Hs3.out; omega)
    have h3 : Below w.heap.size A1 A2 := by rw [hA2]; exact (Below.refl _ _).alloc (by have := Hs3.out; omega) _
    have h4 : Below w.heap.size A2 A3 := by rw [hA3]; exact (Below.refl _ _).alloc (by have := Hs3.out; omega) _
    exact ((Hb3.out.trans (HA0b.out.mono (by have := Hs3.out; omega))).trans h2).trans (h3.trans h4)
  have gD : DI A3 B db sm n 0 := Hdi3.out.olds ((Olds.of_below HA0b.out).trans ((oA01.trans oA12).trans oA23))
  have hkm3 : A3.heap[sm]? = some (.map es cm) := (gB.block sm hsm).trans Hkm.out
  have hM : ∀ b ∈ [sm], ∀ cs ty fr, A3.heap[b]? ≠ some (.cells cs ty fr) := fun b hb cs ty fr e => by
    simp only [List.mem_singleton] at hb
    rw [hb, hkm3] at e
    cases e
  have hne : ∀ {b : Nat} {cs : Array Value} {ty : TypeId} {fr : Nat × Nat}, A3.heap[b]? = some (.cells cs ty fr) → b ∉ [sm] := fun {b cs ty fr} hb hm => hM b hm cs ty fr hb
  have HA : Hid (∀ wr : World, Fr B TD [sm] A3 wr → wr.heap[w.heap.size]? = some (.cells #[.pointer (some ⟨db, 0, none⟩)] 25 (0, 0)) ∧ wr.heap[ys]? = some (.cells #[.pointer (some ⟨sn, 0, none⟩)] 30 (0, 0)) ∧ wr.heap[av]? = some (.cells #[.slice da 2 dc] 33 (0, 0)) ∧ SCell wr sn db tn n X1.heap.size xn n 0 1 (.slice none 0 0) (.slice (some ⟨X1.heap.size + 1, 0, none⟩) 1 1) ∧
      wr.heap[av + 1]? = some (.cells #[.func (.func 18) #[] #[.pointer (some ⟨ys, 0, none⟩), .pointer (some ⟨av, 0, none⟩)], .func (.func 20) #[.pointer (some ⟨db, 0, none⟩)] #[], .func (.func 21) #[] #[.pointer (some ⟨w.heap.size, 0, none⟩), .pointer (some ⟨av, 0, none⟩), .pointer (some ⟨ys, 0, none⟩)], .func (.func 24) #[] #[.pointer (some ⟨w.heap.size, 0, none⟩)], .func (.func 20) #[.pointer (some ⟨db, 0, none⟩)] #[]] 40 (0, 0)) ∧ wr.ownsRow B 3 1 (.slice (some ⟨X1.heap.size + 1, 0, none⟩) 1 1) 1 (nats [2]) ∧ Data wr B da 2 dc ∧ av + 2 ≤ wr.heap.size) := Lib.hid (fun wr hf => by
    refine ⟨hf.keep g1 (hne g1) (by decide), hf.keep g2 (hne g2) (by decide), hf.keep g3 (hne g3) (by decide), hf.keep g4 (hne g4) (by decide), hf.keep g5 (hne g5) (by decide), hf.keepRow g6 (by decide) (fun b hb => ?_), g7.fr hf (by decide) (fun b hb cs fr => hM b hb cs _ fr), by have := hf.size; omega⟩
    obtain ⟨cur, hc⟩ := own_kind g6 hb
    exact hne hc)
  have Hg8 := Lib.hid g8
  have HgB := Lib.hid gB
  have HgD := Lib.hid gD
  have HgM := Lib.hid hM
  have HA3 := Lib.hid hA3
  have hsnm : sn ≠ sm := fun e => by have := hns; have := Hs3.out; omega
  have hbox3 : A2.cell? ⟨w.heap.size, 0, none⟩ = some (.pointer (some ⟨db, 0, none⟩)) := by
    have h3 := HA0b.out.block w.heap.size (by have := Hs3.out; omega)
    rw [cell_of_heap (((oA01.trans oA12).2 _ (by have := Hs3.out; omega)).trans (h3.trans Hbx.out))]
    rfl
  have hwz : w.heap.size < av := by have := Hs3.out; omega
  have HavE := Lib.hid hav
  clear g1 g2 g3 g4 g5 g6 g7 g8 gB gD hM hne hA2 hA3 hav oA01 oA12 oA23 hkm3 h01 h00
  go_wp2_with fail
  rw [← HA3.out]
  clear hbox3
  go_loopw [7, 8, 30] (fun _ _ iv wr => ∃ k : Nat, k ≤ 5 ∧ iv = .int .i64 k ∧ DI wr B db sm n k ∧ Fr B TD [sm] A3 wr) (fun _ _ iv _ => 5 - (intOf iv).toNat)
  case atStart => exact ⟨0, by decide, rfl, HgD.out, Fr.refl _ _ _ _⟩
  case round =>
    obtain ⟨k, hk, rfl, hdi, hfr⟩ := hrel
    obtain ⟨q1, q2, q3, q4, q5, q6, q7, q8⟩ := HA.out wr hfr
    have hBw : B ≤ wr.heap.size := by omega
    have Hfr := Lib.hid hfr
    rcases (show k = 0 ∨ k = 1 ∨ k = 2 ∨ k = 3 ∨ k = 4 ∨ k = 5 by omega) with rfl | rfl | rfl | rfl | rfl | rfl
    · have HC : Hid (Calls Tryd.prog 18 #[.pointer (some ⟨ys, 0, none⟩), .pointer (some ⟨av, 0, none⟩)] wr fun e w' => e = .returned (.int .u16 0) ∧ DI w' B db sm n 1 ∧ Fr B TD [sm] wr w') := Lib.hid ((format1_any [2] (hdi.more (by omega)) q4 q2 q3 q6 rfl (fun a ha => by simp at ha; omega) q7 hBw (by omega) (by omega) (by decide) hsnm).mono fun e w' ⟨h0, h1, h2⟩ => ⟨h0, h1, h2⟩)
      have hcf : wr.cell? ⟨av + 1, 0, none⟩ = some (.func (.func 18) #[] #[.pointer (some ⟨ys, 0, none⟩), .pointer (some ⟨av, 0, none⟩)]) := by rw [cell_of_heap q5]; rfl
      clear q1 q2 q3 q4 q5 q6 q7 hdi hfr
      go_wp2_with (go_at_call 18; refine HC.out.mono ?_; clear HC; rintro e w1 ⟨rfl, h1, h2⟩; have H1 := Lib.hid h1; have H2 := Lib.hid h2; clear h1 h2)
      go_roundw
      case rel => exact ⟨1, by decide, by rfl, H1.out, Hfr.out.trans H2.out⟩
      case measure => simp [intOf]
    · have HC : Hid (Calls Tryd.prog 20 #[.pointer (some ⟨db, 0, none⟩)] wr fun e w' => e = .returned (.int .u16 0) ∧ DI w' B db sm n 2 ∧ Fr B TD [sm] wr w') := Lib.hid ((flush_any hdi (by omega) (by omega) hBw).mono fun e w' ⟨h0, h1, h2⟩ => ⟨h0, h1.more (by omega), h2⟩)
      have hcf : wr.cell? ⟨av + 1, 1, none⟩ = some (.func (.func 20) #[.pointer (some ⟨db, 0, none⟩)] #[]) := by rw [cell_of_heap q5]; rfl
      clear q1 q2 q3 q4 q5 q6 q7 hdi hfr
      go_wp2_with (go_at_call 20; refine HC.out.mono ?_; clear HC; rintro e w1 ⟨rfl, h1, h2⟩; have H1 := Lib.hid h1; have H2 := Lib.hid h2; clear h1 h2)
      go_roundw
      case rel => exact ⟨2, by decide, by rfl, H1.out, Hfr.out.trans H2.out⟩
      case measure => simp [intOf]
    · have HC : Hid (Calls Tryd.prog 21 #[.pointer (some ⟨w.heap.size, 0, none⟩), .pointer (some ⟨av, 0, none⟩), .pointer (some ⟨ys, 0, none⟩)] wr fun e w' => e = .returned (.int .u16 0) ∧ DI w' B db sm n 3 ∧ Fr B TD [sm] wr w') := Lib.hid ((format2_any hH [2] hdi q4 q1 q2 q3 q6 rfl (fun a ha => by simp at ha; omega) q7 (by omega) hBw (by omega) (by omega) (by decide) (by omega) (by decide) (by decide)).mono fun e w' ⟨h0, h1, h2⟩ => ⟨h0, h1, h2⟩)
      have hcf : wr.cell? ⟨av + 1, 2, none⟩ = some (.func (.func 21) #[] #[.pointer (some ⟨w.heap.size, 0, none⟩), .pointer (some ⟨av, 0, none⟩), .pointer (some ⟨ys, 0, none⟩)]) := by rw [cell_of_heap q5]; rfl
      clear q1 q2 q3 q4 q5 q6 q7 hdi hfr
      go_wp2_with (go_at_call 21; refine HC.out.mono ?_; clear HC; rintro e w1 ⟨rfl, h1, h2⟩; have H1 := Lib.hid h1; have H2 := Lib.hid h2; clear h1 h2)
      go_roundw
      case rel => exact ⟨3, by decide, by rfl, H1.out, Hfr.out.trans H2.out⟩
      case measure => simp [intOf]
    · have HC : Hid (Calls Tryd.prog 24 #[.pointer (some ⟨w.heap.size, 0, none⟩)] wr fun e w' => e = .returned (.int .u16 0) ∧ DI w' B db sm n 4 ∧ Fr B TD [sm] wr w') := Lib.hid ((format3_any hdi q1 hBw (by omega) (by omega) (by omega)).mono fun e w' ⟨h0, h1, h2⟩ => ⟨h0, h1, h2⟩)
      have hcf : wr.cell? ⟨av + 1, 3, none⟩ = some (.func (.func 24) #[] #[.pointer (some ⟨w.heap.size, 0, none⟩)]) := by rw [cell_of_heap q5]; rfl
      clear q1 q2 q3 q4 q5 q6 q7 hdi hfr
      go_wp2_with (go_at_call 24; refine HC.out.mono ?_; clear HC; rintro e w1 ⟨rfl, h1, h2⟩; have H1 := Lib.hid h1; have H2 := Lib.hid h2; clear h1 h2)
      go_roundw
      case rel => exact ⟨4, by decide, by rfl, H1.out, Hfr.out.trans H2.out⟩
      case measure => simp [intOf]
    · have HC : Hid (Calls Tryd.prog 20 #[.pointer (some ⟨db, 0, none⟩)] wr fun e w' => e = .returned (.int .u16 0) ∧ DI w' B db sm n 5 ∧ Fr B TD [sm] wr w') := Lib.hid ((flush_any hdi (by omega) (by omega) hBw).mono fun e w' ⟨h0, h1, h2⟩ => ⟨h0, h1.more (by omega), h2⟩)
      have hcf : wr.cell? ⟨av + 1, 4, none⟩ = some (.func (.func 20) #[.pointer (some ⟨db, 0, none⟩)] #[]) := by rw [cell_of_heap q5]; rfl
      clear q1 q2 q3 q4 q5 q6 q7 hdi hfr
      go_wp2_with (go_at_call 20; refine HC.out.mono ?_; clear HC; rintro e w1 ⟨rfl, h1, h2⟩; have H1 := Lib.hid h1; have H2 := Lib.hid h2; clear h1 h2)
      go_roundw
      case rel => exact ⟨5, by decide, by rfl, H1.out, Hfr.out.trans H2.out⟩
      case measure => simp [intOf]
    · have hcs : wr.cell? ⟨ys, 0, none⟩ = some (.pointer (some ⟨sn, 0, none⟩)) := by rw [cell_of_heap q2]; rfl
      have Hq4 := Lib.hid q4
      have Hdi := Lib.hid hdi
      clear q1 q2 q3 q4 q5 q6 q7 hdi hfr
      go_wp2_with fail
      refine bodyPost_ret (results_tmp2 rfl _ _ _) rfl ?_
      have hK : Kp B w wr := (Kp.of_below HgB.out hB).trans (Kp.of_fr Hfr.out (by decide) (fun b hb cs fr => HgM.out b hb cs _ fr))
      have hSR : SR wr B sn tn n X1.heap.size xn 0 (.slice none 0 0) (.slice (some ⟨X1.heap.size + 1, 0, none⟩) 1 1) (newG n) := (Hg8.out sn).fr Hfr.out (by decide) (by simp only [List.mem_singleton]; have := Hs1.out; omega) (by simp only [List.mem_singleton]; have := Hs3.out; omega) (fun b hb cs ty fr _ => HgM.out b hb cs ty fr)
      exact ⟨sn, rfl, hK, by have := Hs3.out; omega, 5, tn, n, X1.heap.size, xn, 0, 1, _, _, ⟨by have := Hs3.out; omega, Hq4.out, hSR.mono (Nat.zero_le _), Hdi.out, by decide, by decide, by decide, Nat.zero_le _, (show dirLen [] ≤ 2 by decide), (show dirLen [] ≤ 2 by decide), by have := Hs1.out; omega, by have := Hs3.out; omega, inv_new h3 hn⟩⟩
end Go.Proofs.YtndjmffnlcilbaaDoor
