/- Contracts over this program. Their conditions: the slices read as the lists that are named, and lie within the sizes that are named. -/
import Derived.Test.YtaoggppfimfhbaaGreatDoorNc
import Derived.Test.YtaoggppfimfhbaaGreatDoorNi
import Derived.Test.YtaoggppfimfhbaaGreatDoorNa
import Derived.Deep.RegionHeld
import Derived.Deep.CutRange
import Derived.KernelRfl
import Derived.ArgAppend
import Derived.ProofKit
import Derived.SizedLaws
import Derived.LaidMore
set_option linter.unusedSimpArgs false
set_option linter.unusedVariables false
set_option linter.deprecated false
set_option linter.unnecessarySimpa false
namespace Go.Proofs.YtaoggppfimfhbaaGreatDoor
open Go Go.RowKit Go.Ix

def wtL (l : List Lbl) : Nat := (l.map fun y => y.1.length + y.2.length).sum
def wtE (e : Ent) : Nat := (e.1.length + e.2.length) + wtL e.1
def wt (l : List Ent) : Nat := (l.map wtE).sum
theorem wtL_take {l : List Lbl} {k : Nat} {y : Lbl} (h : l[k]? = some y) : wtL (l.take (k + 1)) = wtL (l.take k) + (y.1.length + y.2.length) := by
  unfold wtL
  rw [List.take_add_one, h, List.map_append, List.sum_append]
  simp
theorem wt_take {l : List Ent} {k : Nat} {e : Ent} (h : l[k]? = some e) : wt (l.take (k + 1)) = wt (l.take k) + wtE e := by
  unfold wt
  rw [List.take_add_one, h, List.map_append, List.sum_append]
  simp
theorem sum_mem {α : Type} {f : α → Nat} {l : List α} {x : α} (h : x ∈ l) : f x ≤ (l.map f).sum := by
  induction l with
  | nil => simp at h
  | cons y l ih =>
    rw [List.map_cons, List.sum_cons]
    rcases List.mem_cons.1 h with rfl | h
    · omega
    · have := ih h
      omega
theorem lbls_wt (l : List Ent) : lblsOf l ≤ wt l := by
  unfold lblsOf wt
  induction l with
  | nil => simp
  | cons e l ih =>
    rw [List.map_cons, List.sum_cons, List.map_cons, List.sum_cons]
    have : wtE e = (e.1.length + e.2.length) + wtL e.1 := rfl
    omega


def Vast (l : List Ent) : Prop := l.length ≤ 140737488355328 ∧ ∀ e ∈ l, e.1.length ≤ 140737488355328 ∧ e.2.length ≤ 140737488355328 ∧ ∀ y ∈ e.1, y.1.length ≤ 140737488355328 ∧ y.2.length ≤ 140737488355328

theorem small_of {l : List Ent} (h : wt l + l.length ≤ 4000) : Small l ∧ lblsOf l ≤ 4000 ∧ (∀ e ∈ l, e.2.length ≤ 4000) ∧ ∀ e ∈ l, e.1.length ≤ 4000 ∧ e.2.length ≤ 4000 := by
  have h1 : ∀ e ∈ l, wtE e ≤ 4000 := fun e he => by
    have := sum_mem (f := wtE) he
    unfold wt at h
    omega
  have h2 : ∀ e ∈ l, e.1.length + e.2.length ≤ 4000 := fun e he => by have := h1 e he; unfold wtE at this; omega
  refine ⟨⟨by omega, fun e he => ⟨by have := h2 e he; omega, by have := h2 e he; omega, fun y hy => ?_⟩⟩, by have := lbls_wt l; omega, fun e he => by have := h2 e he; omega, fun e he => ⟨by have := h2 e he; omega, by have := h2 e he; omega⟩⟩
  have h3 := sum_mem (f := fun y : Lbl => y.1.length + y.2.length) hy
  have h4 := h1 e he
  unfold wtE wtL at h4
  exact ⟨by omega, by omega⟩

def MuchSays (x : Prop) (e : Ending) : Prop := e = .returned (.bool true) ∨ (e = .returned (.bool false) ∧ x)

set_option maxRecDepth 20000 in
set_option maxHeartbeats 1000000 in
theorem much_any (o : Option Addr) (n c : Nat) (l : List Ent) (w : World) (hl : l.length = n) (hv : Vast l) (hc : RowsE w o l) : Calls Tryz.prog 5 #[.slice o n c] w fun e w' => MuchSays (wt l + n ≤ 4000 ∧ n ≤ 60) e ∧ ∃ q, w' = w.drewN q := by
  have Hc := Lib.hid hc
  have Hv := Lib.hid hv
  have Hl := Lib.hid hl
  have hn := hv.1
  rw [hl] at hn
  clear hc hv hl
  go_enter Tryz.func5, Tryz.ntmps5
  go_wp2_with fail
  go_loopw [3, 4, 5] (fun nv iv _ wr => ∃ k q t : Nat, k ≤ n ∧ iv = .int .i64 k ∧ nv = .int .i64 t ∧ t ≤ 600000000000000 ∧ (4000 < t ∨ t = n + wt (l.take k)) ∧ wr = w.drewN q) (fun _ iv _ _ => n - (intOf iv).toNat)
  case atStart => exact ⟨0, 0, n, Nat.zero_le _, rfl, rfl, by omega, .inr (by rw [List.take_zero]; rfl), rfl⟩
  case round =>
    obtain ⟨k, q, t, hk, rfl, rfl, ht6, ht, rfl⟩ := hrel
    have Ht := Lib.hid ht
    clear ht
    by_cases hlt : k < n
    · by_cases h4 : t ≤ 4000
      · obtain ⟨b, off, e1, e2, o1, n1, c1, o2, n2, c2, rfl, hx, hc1, hc2, hl1, hl2, hr1, hr2, _⟩ := Hc.out.at (k := k) (by rw [Hl.out]; exact hlt)
        obtain ⟨hs1, hs2, hs3⟩ := Hv.out.2 _ (List.mem_of_getElem? hx)
        simp only at hs1 hs2 hs3
        have hn1 : n1 ≤ 140737488355328 := by omega
        have hn2 : n2 ≤ 140737488355328 := by omega
        have htk : t = n + wt (l.take k) := by rcases Ht.out with h | h <;> omega
        have Htk := Lib.hid htk
        have Hnx : Hid (n + wt (l.take (k + 1)) = t + (n1 + n2) + wtL e1) := Lib.hid (by
          rw [wt_take hx]
          unfold wtE
          simp only
          omega)
        have Hr1 := Lib.hid hr1
        have Hl1 := Lib.hid hl1
        have HS3 := Lib.hid hs3
        clear hx hl1 hl2 hr1 hr2 hs1 hs2 hs3 htk
        have hw1 : IntKind.i64.wrap ((n1 : Int) + (n2 : Int)) = (n1 : Int) + (n2 : Int) := by rw [IntKind.wrap_i64]; omega
        have hw2 : IntKind.i64.wrap ((t : Int) + ((n1 : Int) + (n2 : Int))) = (t : Int) + ((n1 : Int) + (n2 : Int)) := by rw [IntKind.wrap_i64]; omega
        go_upto_region 5 with fail
        go_region_held (fun W => W.cell? ⟨b, off + k * 2, none⟩ = some (.slice o1 n1 c1) ∧ W.cell? ⟨b, off + k * 2 + 1, none⟩ = some (.slice o2 n2 c2)) (exact ⟨hc1, hc2⟩) (fail)
        go_wp2_with fail
        go_loopw [3, 5] (fun nv jv wr => ∃ j q u : Nat, j ≤ n1 ∧ jv = .int .i64 j ∧ nv = .int .i64 u ∧ u ≤ 600000000000000 ∧ (4000 < u ∨ u = t + (n1 + n2) + wtL (e1.take j)) ∧ wr = w.drewN q) (fun _ jv _ => n1 - (intOf jv).toNat)
        case atStart => exact ⟨0, q + 1, t + (n1 + n2), Nat.zero_le _, rfl, by go_num, by omega, .inr (by rw [List.take_zero]; rfl), rfl⟩
        case round =>
          obtain ⟨j, q, u, hj, rfl, rfl, hu6, hu, rfl⟩ := hrel
          have Hu := Lib.hid hu
          clear hu
          by_cases hjn : j < n1
          · by_cases h5 : u ≤ 4000
            · obtain ⟨b2, off2, y1, y2, rfl, hy, hy1, hy2⟩ := Hr1.out.at (k := j) (by rw [Hl1.out]; exact hjn)
              obtain ⟨hly1, hly2⟩ := HS3.out _ (List.mem_of_getElem? hy)
              simp only at hly1 hly2
              have Hnx2 : Hid (4000 < u + (y1.length + y2.length) ∨ u + (y1.length + y2.length) = t + (n1 + n2) + wtL (e1.take (j + 1))) := Lib.hid (by
                rw [wtL_take hy]
                rcases Hu.out with h | h
                · omega
                · exact .inr (by simp only; omega))
              clear hy
              have hw3 : IntKind.i64.wrap ((y1.length : Int) + (y2.length : Int)) = (y1.length : Int) + (y2.length : Int) := by rw [IntKind.wrap_i64]; omega
              have hw4 : IntKind.i64.wrap ((u : Int) + ((y1.length : Int) + (y2.length : Int))) = (u : Int) + ((y1.length : Int) + (y2.length : Int)) := by rw [IntKind.wrap_i64]; omega
              go_upto_region 9 with fail
              go_region_held (fun W => W.cell? ⟨b, off + k * 2, none⟩ = some (.slice (some ⟨b2, off2, none⟩) n1 c1) ∧ W.cell? ⟨b2, off2 + j * 2, none⟩ = some (encStr y1) ∧ W.cell? ⟨b2, off2 + j * 2 + 1, none⟩ = some (encStr y2)) (exact ⟨hc1, hy1, hy2⟩) (fail)
              go_wp2_with fail
              go_roundw
              case rel => exact ⟨j + 1, q + 1, u + (y1.length + y2.length), by omega, by go_num, by go_num, by omega, Hnx2.out, rfl⟩
              case measure => simp [intOf]; omega
            · have Hfin : Hid (4000 < u ∨ u = n + wt (l.take (k + 1))) := Lib.hid (.inl (by omega))
              go_wp2_with fail
              go_roundw
              case rel => exact ⟨k + 1, q, u, by omega, by go_num, rfl, hu6, Hfin.out, rfl⟩
              case measure => simp [intOf]; omega
          · have Hfin : Hid (4000 < u ∨ u = n + wt (l.take (k + 1))) := Lib.hid (by
              rw [Hnx.out]
              have h9 := Hu.out
              rwa [List.take_of_length_le (l := e1) (by rw [Hl1.out]; omega)] at h9)
            go_wp2_with fail
            go_roundw
            case rel => exact ⟨k + 1, q, u, by omega, by go_num, rfl, hu6, Hfin.out, rfl⟩
            case measure => simp [intOf]; omega
      · go_wp2_with fail
        go_ret
        exact ⟨.inl rfl, q, rfl⟩
    · have Hfin : Hid (4000 < t ∨ t = n + wt l) := Lib.hid (by
        have h9 := Ht.out
        rwa [List.take_of_length_le (l := l) (by rw [Hl.out]; omega)] at h9)
      by_cases h4 : t ≤ 4000
      · by_cases h6 : n ≤ 60
        · go_wp2_with fail
          go_ret
          exact ⟨.inr ⟨ret_bool (a := decide (4000 < (t : Int)) || decide (60 < (n : Int))) (by simp; omega), by rcases Hfin.out with h | h <;> omega, h6⟩, q, rfl⟩
        · go_wp2_with fail
          go_ret
          exact ⟨.inl (ret_bool (a := decide (4000 < (t : Int)) || decide (60 < (n : Int))) (by simp; omega)), q, rfl⟩
      · go_wp2_with fail
        go_ret
        exact ⟨.inl rfl, q, rfl⟩

end Go.Proofs.YtaoggppfimfhbaaGreatDoor
namespace Go.Proofs.YtaoggppfimfhbaaGreatDoor
open Go Go.ChangeShapes Go.WideShapes Go.ChangeAt Go.RowKit Go.Ix

theorem Tryz.cells78 : Tryz.prog.cellsOf 78 = 2 := by kernel_rfl
theorem Tryz.cells84 : Tryz.prog.cellsOf 84 = 2 := by kernel_rfl
theorem Tryz.cells107 : Tryz.prog.cellsOf 107 = 5 := by kernel_rfl
theorem Tryz.cells75 : Tryz.prog.cellsOf 75 = 1 := by kernel_rfl
theorem Tryz.cells76 : Tryz.prog.cellsOf 76 = 1 := by kernel_rfl
theorem Tryz.cells9 : Tryz.prog.cellsOf 9 = 1 := by kernel_rfl
theorem Tryz.cells2 : Tryz.prog.cellsOf 2 = 1 := by kernel_rfl
theorem Tryz.cells3 : Tryz.prog.cellsOf 3 = 1 := by kernel_rfl
theorem Tryz.bytes78 : Tryz.prog.bytesOf 78 = 48 := by kernel_rfl
theorem Tryz.bytes84 : Tryz.prog.bytesOf 84 = 32 := by kernel_rfl
theorem Tryz.bytes107 : Tryz.prog.bytesOf 107 = 40 := by kernel_rfl


theorem exists_row {α : Type} {Q : Nat → α → Prop} : ∀ (n : Nat), (∀ i, i < n → ∃ x, Q i x) → ∃ xs : List α, xs.length = n ∧ ∀ (i : Nat) (x : α), xs[i]? = some x → Q i x
  | 0, _ => ⟨[], rfl, fun i x h => by simp at h⟩
  | n + 1, h => by
    obtain ⟨xs, h1, h2⟩ := exists_row n fun i hi => h i (by omega)
    obtain ⟨x, hx⟩ := h n (by omega)
    refine ⟨xs ++ [x], by simp [h1], fun i y hy => ?_⟩
    by_cases hi : i < n
    · rw [List.getElem?_append_left (by omega)] at hy
      exact h2 i y hy
    · have hin : i = n := by
        have := (List.getElem?_eq_some_iff.1 hy).1
        simp at this
        omega
      subst hin
      rw [List.getElem?_append_right (by omega), h1, Nat.sub_self] at hy
      cases hy
      exact hx

theorem cells_of_rows {α : Type} {f : α → List Value} {k : Nat} (hk : ∀ x, (f x).length = k) (hp : 0 < k) {W : World} {b off : Nat} {xs : List α} (h : ∀ (i : Nat) (x : α), xs[i]? = some x → ∀ (r : Nat) (v : Value), (f x)[r]? = some v → W.cell? ⟨b, off + i * k + r, none⟩ = some v) : CellsAt W b off (xs.flatMap f) := by
  intro j v hv
  have hlt := (List.getElem?_eq_some_iff.1 hv).1
  rw [flat_len hk] at hlt
  have hi : j / k < xs.length := Nat.div_lt_of_lt_mul (by rw [Nat.mul_comm]; exact hlt)
  have hx : xs[j / k]? = some xs[j / k] := List.getElem?_eq_getElem hi
  have hr : j % k < k := Nat.mod_lt _ hp
  have hv2 : (f xs[j / k])[j % k]? = some ((f xs[j / k])[j % k]'(by rw [hk]; exact hr)) := List.getElem?_eq_getElem _
  have h1 := flat_at hk xs (j / k) (j % k) _ _ hx hv2
  have e : j / k * k + j % k = j := by rw [Nat.mul_comm]; exact Nat.div_add_mod j k
  rw [e, hv] at h1
  have h2 := h _ _ hx _ _ hv2
  rw [Nat.add_assoc, e] at h2
  rw [h2, ← h1]

section
variable {H : Type} {enc : TypeId × Value → H}

theorem mem_weightsAll {P : Program} {e : TypeId} {d : DataW H} : ∀ {l : List (DataW H)}, d ∈ l → ∀ n ∈ d.weights P e, n ∈ DataW.weightsAll P e l
  | x :: l, h, n, hn => by
    rw [DataW.weightsAll, List.mem_append]
    rcases List.mem_cons.1 h with rfl | h
    · exact .inl hn
    · exact .inr (mem_weightsAll h n hn)


theorem rows_in {α : Type} {Q : List Value → α → Prop} {W : World} {base fuel : Nat} {t e : TypeId} {k m : Nat} {cs : List Value} {d : DataW H} {p : List MemPlace} (ht : Tryz.prog.underlying t = some (.slice e)) (hk : Tryz.prog.cellsOf e = k) (hm : Tryz.prog.bytesOf e = m) (hp : 0 < k)
    (hQ : ∀ (fuel : Nat) (cs : List Value) (d : DataW H) (p : List MemPlace), DataW.trod enc Tryz.prog W base (fun _ => true) true fuel e cs = some (d, p) → (∀ n ∈ d.weights Tryz.prog e, n ≤ reachBytes) → ∃ x : α, Q cs x)
    (hf : DataW.trod enc Tryz.prog W base (fun _ => true) true fuel t cs = some (d, p)) (hw : ∀ n ∈ d.weights Tryz.prog t, n ≤ reachBytes) :
    ∃ (a : Option Addr) (len cap : Nat) (xs : List α), cs = [.slice a len cap] ∧ xs.length = len ∧ len * m ≤ reachBytes ∧ (a = none → cap = 0) ∧
      (xs ≠ [] → ∃ b off, a = some ⟨b, off, none⟩ ∧ ∀ (i : Nat) (x : α), xs[i]? = some x → ∃ ys : List Value, ys.length = k ∧ Q ys x ∧ ∀ (r : Nat) (v : Value), ys[r]? = some v → W.cell? ⟨b, off + i * k + r, none⟩ = some v) := by
  rcases DataW.trod_slice ht hf with ⟨hcs, hx⟩ | ⟨a, len, cap, elems, rest, n, _, hcs, hx, hb, hl, hmx, hlen, hel, hsp, hns⟩
  · exact ⟨none, 0, 0, [], hcs, rfl, by omega, fun _ => rfl, fun h => absurd rfl h⟩
  · simp only [Prod.mk.injEq] at hx
    obtain ⟨rfl, _⟩ := hx
    have hreach : len * m ≤ reachBytes := by
      have := hw (((elems.map (·.1)).length + (rest.map (·.1)).length) * Tryz.prog.bytesOf e) (by simp [DataW.weights, ht])
      rw [hm, List.length_map, List.length_map, hlen] at this
      exact Nat.le_trans (Nat.mul_le_mul_right m (by omega)) this
    obtain ⟨xs, h1, h2⟩ := exists_row (Q := fun i (x : α) => ∃ ys : List Value, ys.length = k ∧ Q ys x ∧ ∀ (r : Nat) (v : Value), ys[r]? = some v → W.cell? (a.add (i * k + r)) = some v) len fun i hi => by
      have he := hel i hi
      rw [hk, List.getElem?_eq_getElem (by omega)] at he
      obtain ⟨ys, hcs2, ht2⟩ := Option.bind_eq_some_iff.1 he
      obtain ⟨x, hx⟩ := hQ n ys elems[i].1 elems[i].2 ht2 fun m' hm' => hw m' (by
        rw [DataW.weights, ht]
        simp only [List.mem_cons, List.mem_append]
        exact .inr (.inl (mem_weightsAll (List.mem_map_of_mem (List.getElem_mem (by omega))) m' hm')))
      obtain ⟨_, q1, q2⟩ := World.cells?_some hcs2
      refine ⟨x, ys, q1, hx, fun r v hv => ?_⟩
      have hr : r < k := by rw [← q1]; exact (List.getElem?_eq_some_iff.1 hv).1
      have := q2 r hr
      rw [hv] at this
      have e2 : (a.add (i * k)).add r = a.add (i * k + r) := by
        by_cases h1 : i * k = 0 <;> by_cases h2 : r = 0 <;> simp [Addr.add, h1, h2, Nat.add_assoc]
      rw [e2] at this
      exact this
    refine ⟨some a, len, cap, xs, hcs, h1, hreach, (fun h => by cases h), fun hne => ?_⟩
    obtain ⟨b, off, spot⟩ := a
    have hpos : 0 < xs.length := by
      cases xs with
      | nil => exact absurd rfl hne
      | cons _ _ => simp
    obtain ⟨ys0, q1, _, q3⟩ := h2 0 _ (List.getElem?_eq_getElem hpos)
    have h0 := q3 0 _ (List.getElem?_eq_getElem (show 0 < ys0.length by omega))
    have hspot : spot = none := by simpa [Addr.add] using World.cell?_spot h0
    subst hspot
    refine ⟨b, off, rfl, fun i x hx => ?_⟩
    obtain ⟨ys, q1, q2, q3⟩ := h2 i x hx
    refine ⟨ys, q1, q2, fun r v hv => ?_⟩
    have := q3 r v hv
    have e3 : (⟨b, off, none⟩ : Addr).add (i * k + r) = ⟨b, off + i * k + r, none⟩ := by
      by_cases h1 : i * k + r = 0
      · have h2 : i * k = 0 := by omega
        have h3 : r = 0 := by omega
        simp [Addr.add, h2, h3]
      · simp [Addr.add, Nat.add_assoc]
        omega
    rwa [e3] at this

def LblIn (cs : List Value) (y : Lbl) : Prop := cs = lblCells y ∧ y.1.length ≤ reachBytes ∧ y.2.length ≤ reachBytes
theorem lbl_in {W : World} {base : Nat} (fuel : Nat) (cs : List Value) (d : DataW H) (p : List MemPlace) (hf : DataW.trod enc Tryz.prog W base (fun _ => true) true fuel 84 cs = some (d, p)) (hw : ∀ n ∈ d.weights Tryz.prog 84, n ≤ reachBytes) : ∃ y, LblIn cs y := by
  obtain ⟨y0, y1, n, hx, hl, h0, h1⟩ := trod_struct2 Tryz.underlying84 hf
  simp only [Prod.mk.injEq] at hx
  obtain ⟨rfl, _⟩ := hx
  rw [Tryz.cells84] at hl
  dsimp only at h0 h1
  rw [Tryz.cells9] at h0 h1
  obtain ⟨s0, e0, x0, _⟩ := DataW.trod_string Tryz.underlying9 h0
  obtain ⟨s1, e1, x1, _⟩ := DataW.trod_string Tryz.underlying9 h1
  have hcs : cs = [.string s0, .string s1] := by
    match cs, hl with
    | [a, b], _ =>
      simp at e0 e1
      rw [e0, e1]
  have w0 : s0.data.toList.length ≤ reachBytes := hw _ (by simp [DataW.weights, Tryz.underlying84, DataW.weightsEach, x0])
  have w1 : s1.data.toList.length ≤ reachBytes := hw _ (by simp [DataW.weights, Tryz.underlying84, DataW.weightsEach, x1])
  exact ⟨(s0.data.toList, s1.data.toList), by rw [hcs]; rfl, w0, w1⟩

theorem five {α : Type} {l : List α} (h : l.length = 5) : ∃ a b c d e, l = [a, b, c, d, e] := by
  match l, h with
  | [a, b, c, d, e], _ => exact ⟨a, b, c, d, e, rfl⟩
theorem plc_in {W : World} {base : Nat} (fuel : Nat) (cs : List Value) (d : DataW H) (p : List MemPlace) (hf : DataW.trod enc Tryz.prog W base (fun _ => true) true fuel 107 cs = some (d, p)) (_hw : ∀ n ∈ d.weights Tryz.prog 107, n ≤ reachBytes) : ∃ c, cs = plcCells c := by
  obtain ⟨xs, n, _, _, hl, _, hfs⟩ := DataW.trod_struct Tryz.underlying107 hf
  rw [Tryz.cells107] at hl
  have one : ∀ (i : Nat) (f : Field) (v : Value), (∃ y, DataW.trod enc Tryz.prog W base (fun _ => true) true n f.type ((cs.drop f.offset).take (Tryz.prog.cellsOf f.type)) = some y) → cs[i]? = some v → f.offset = i → Tryz.prog.cellsOf f.type = 1 → Tryz.prog.underlying f.type = some (.int .i64) → ∃ z, v = .int .i64 z := by
    intro i f v ⟨y, hy⟩ hv ho hc hu
    obtain ⟨z, ez, _, _⟩ := DataW.trod_int hu hy
    rw [ho, hc, List.drop_eq_getElem_cons (List.getElem?_eq_some_iff.1 hv).1] at ez
    simp only [List.take_succ_cons, List.take_zero, List.cons.injEq, and_true] at ez
    rw [(List.getElem?_eq_some_iff.1 hv).2] at ez
    exact ⟨z, ez⟩
  have hsz : xs.length = 5 := by
    have := ‹xs.length = _›
    exact this
  have get : ∀ (i : Nat) (f : Field), i < 5 → (#[{ name := "From", type := 2, offset := 0, embedded := false, tag := "", pkgPath := "", byteOffset := 0 }, { name := "To", type := 2, offset := 1, embedded := false, tag := "", pkgPath := "", byteOffset := 8 }, { name := "N", type := 3, offset := 2, embedded := false, tag := "", pkgPath := "", byteOffset := 16 }, { name := "At", type := 3, offset := 3, embedded := false, tag := "", pkgPath := "", byteOffset := 24 }, { name := "Size", type := 3, offset := 4, embedded := false, tag := "", pkgPath := "", byteOffset := 32 }] : Array Field)[i]? = some f → ∃ y, DataW.trod enc Tryz.prog W base (fun _ => true) true n f.type ((cs.drop f.offset).take (Tryz.prog.cellsOf f.type)) = some y := fun i f hi hf' => ⟨_, (hfs i f hf').trans (List.getElem?_eq_getElem (by omega))⟩
  obtain ⟨a, b, c, d', e, rfl⟩ := five hl
  · obtain ⟨z0, rfl⟩ := one 0 _ a (get 0 _ (by omega) rfl) rfl rfl Tryz.cells2 Tryz.underlying2
    obtain ⟨z1, rfl⟩ := one 1 _ b (get 1 _ (by omega) rfl) rfl rfl Tryz.cells2 Tryz.underlying2
    obtain ⟨z2, rfl⟩ := one 2 _ c (get 2 _ (by omega) rfl) rfl rfl Tryz.cells3 Tryz.underlying3
    obtain ⟨z3, rfl⟩ := one 3 _ d' (get 3 _ (by omega) rfl) rfl rfl Tryz.cells3 Tryz.underlying3
    obtain ⟨z4, rfl⟩ := one 4 _ e (get 4 _ (by omega) rfl) rfl rfl Tryz.cells3 Tryz.underlying3
    exact ⟨⟨z0, z1, z2, z3, z4⟩, rfl⟩

def EntIn (W : World) (cs : List Value) (e : Ent) : Prop :=
  ∃ o1 n1 c1 o2 n2 c2, cs = [.slice o1 n1 c1, .slice o2 n2 c2] ∧ e.1.length = n1 ∧ e.2.length = n2 ∧ Rows2 W o1 e.1 ∧ Rows5 W o2 e.2 ∧ (o1 = none → c1 = 0) ∧ (o2 = none → c2 = 0) ∧ n1 ≤ reachBytes ∧ n2 ≤ reachBytes ∧ ∀ y ∈ e.1, y.1.length ≤ reachBytes ∧ y.2.length ≤ reachBytes

theorem lbls_in {W : World} {base fuel : Nat} {cs : List Value} {d : DataW H} {p : List MemPlace} (hf : DataW.trod enc Tryz.prog W base (fun _ => true) true fuel 75 cs = some (d, p)) (hw : ∀ n ∈ d.weights Tryz.prog 75, n ≤ reachBytes) :
    ∃ o n c l, cs = [.slice o n c] ∧ l.length = n ∧ Rows2 W o l ∧ (o = none → c = 0) ∧ n ≤ reachBytes ∧ ∀ y ∈ l, y.1.length ≤ reachBytes ∧ y.2.length ≤ reachBytes := by
  obtain ⟨o, n, c, l, h1, h2, h3, h4, h5⟩ := rows_in (Q := LblIn) Tryz.underlying75 Tryz.cells84 Tryz.bytes84 (by decide) lbl_in hf hw
  refine ⟨o, n, c, l, h1, h2, fun hne => ?_, h4, Nat.le_trans (Nat.le_mul_of_pos_right n (by decide)) h3, fun y hy => ?_⟩
  · obtain ⟨b, off, e, h⟩ := h5 hne
    refine ⟨b, off, e, cells_of_rows (k := 2) (fun _ => rfl) (by decide) fun i x hx r v hv => ?_⟩
    obtain ⟨ys, _, ⟨q2, _⟩, q3⟩ := h i x hx
    exact q3 r v (by rw [q2]; exact hv)
  · obtain ⟨i, hi⟩ := List.getElem?_of_mem hy
    obtain ⟨b, off, e, h⟩ := h5 (fun e => by rw [e] at hy; simp at hy)
    obtain ⟨ys, _, ⟨_, q2⟩, _⟩ := h i y hi
    exact q2

theorem plcs_in {W : World} {base fuel : Nat} {cs : List Value} {d : DataW H} {p : List MemPlace} (hf : DataW.trod enc Tryz.prog W base (fun _ => true) true fuel 76 cs = some (d, p)) (hw : ∀ n ∈ d.weights Tryz.prog 76, n ≤ reachBytes) :
    ∃ o n c l, cs = [.slice o n c] ∧ l.length = n ∧ Rows5 W o l ∧ (o = none → c = 0) ∧ n ≤ reachBytes := by
  obtain ⟨o, n, c, l, h1, h2, h3, h4, h5⟩ := rows_in (Q := fun cs c => cs = plcCells c) Tryz.underlying76 Tryz.cells107 Tryz.bytes107 (by decide) plc_in hf hw
  refine ⟨o, n, c, l, h1, h2, fun hne => ?_, h4, Nat.le_trans (Nat.le_mul_of_pos_right n (by decide)) h3⟩
  obtain ⟨b, off, e, h⟩ := h5 hne
  refine ⟨b, off, e, cells_of_rows (k := 5) (fun _ => rfl) (by decide) fun i x hx r v hv => ?_⟩
  obtain ⟨ys, _, q2, q3⟩ := h i x hx
  exact q3 r v (by rw [q2]; exact hv)

theorem ent_in {W : World} {base : Nat} (fuel : Nat) (cs : List Value) (d : DataW H) (p : List MemPlace) (hf : DataW.trod enc Tryz.prog W base (fun _ => true) true fuel 78 cs = some (d, p)) (hw : ∀ n ∈ d.weights Tryz.prog 78, n ≤ reachBytes) : ∃ e, EntIn W cs e := by
  obtain ⟨y0, y1, n, hx, hl, h0, h1⟩ := trod_struct2 Tryz.underlying78 hf
  simp only [Prod.mk.injEq] at hx
  obtain ⟨rfl, _⟩ := hx
  rw [Tryz.cells78] at hl
  dsimp only at h0 h1
  rw [Tryz.cells75] at h0
  rw [Tryz.cells76] at h1
  obtain ⟨y0, p0⟩ := y0
  obtain ⟨y1, p1⟩ := y1
  obtain ⟨o1, n1, c1, l1, e1, a1, a2, a3, a4, a5⟩ := lbls_in h0 fun n hn => hw n (by simp [DataW.weights, Tryz.underlying78, DataW.weightsEach, hn])
  obtain ⟨o2, n2, c2, l2, e2, b1, b2, b3, b4⟩ := plcs_in h1 fun n hn => hw n (by simp [DataW.weights, Tryz.underlying78, DataW.weightsEach, hn])
  have hcs : cs = [.slice o1 n1 c1, .slice o2 n2 c2] := by
    match cs, hl with
    | [a, b], _ =>
      simp at e1 e2
      rw [e1, e2]
  exact ⟨(l1, l2), o1, n1, c1, o2, n2, c2, hcs, a1, b1, a2, b2, a3, b3, a4, b4, a5⟩

theorem ents_in {W : World} {base fuel : Nat} {cs : List Value} {d : DataW H} {p : List MemPlace} (hf : DataW.trod enc Tryz.prog W base (fun _ => true) true fuel 22 cs = some (d, p)) (hw : ∀ n ∈ d.weights Tryz.prog 22, n ≤ reachBytes) :
    ∃ o n c l, cs = [.slice o n c] ∧ l.length = n ∧ RowsE W o l ∧ Vast l := by
  obtain ⟨o, n, c, l, h1, h2, h3, h4, h5⟩ := rows_in (Q := EntIn W) Tryz.underlying22 Tryz.cells78 Tryz.bytes78 (by decide) ent_in hf hw
  have hr : reachBytes ≤ 140737488355328 := by decide
  have hn : l.length ≤ reachBytes := by rw [h2]; exact Nat.le_trans (Nat.le_mul_of_pos_right n (by decide)) h3
  refine ⟨o, n, c, l, h1, h2, fun hne => ?_, Nat.le_trans hn hr, fun e he => ?_⟩
  · obtain ⟨b, off, e, h⟩ := h5 hne
    refine ⟨b, off, e, fun k x hx => ?_⟩
    obtain ⟨ys, _, ⟨o1, n1, c1, o2, n2, c2, q2, q3, q4, q5, q6, q7, q8, _⟩, q9⟩ := h k x hx
    refine ⟨o1, n1, c1, o2, n2, c2, ?_, ?_, q3, q4, q5, q6, q7, q8⟩
    · have := q9 0 (.slice o1 n1 c1) (by rw [q2]; rfl)
      rwa [Nat.add_zero] at this
    · exact q9 1 (.slice o2 n2 c2) (by rw [q2]; rfl)
  · obtain ⟨i, hi⟩ := List.getElem?_of_mem he
    obtain ⟨b, off, e, h⟩ := h5 (fun e => by rw [e] at he; simp at he)
    obtain ⟨ys, _, ⟨o1, n1, c1, o2, n2, c2, q2, q3, q4, q5, q6, q7, q8, q9, q10, q11⟩, _⟩ := h i _ hi
    exact ⟨by rw [q3]; exact Nat.le_trans q9 hr, by rw [q4]; exact Nat.le_trans q10 hr, fun y hy => ⟨Nat.le_trans (q11 y hy).1 hr, Nat.le_trans (q11 y hy).2 hr⟩⟩
end
end Go.Proofs.YtaoggppfimfhbaaGreatDoor
