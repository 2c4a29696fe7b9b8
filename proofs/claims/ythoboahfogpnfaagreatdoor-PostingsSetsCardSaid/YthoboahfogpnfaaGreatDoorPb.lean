/- Contracts over this program: the heap of lists, as container heap handles it. Their conditions: the heap lies in a block of its own. -/
import Derived.Test.YthoboahfogpnfaaGreatDoorPa
import Derived.RegionTactic
import Derived.BigRegion
import Derived.Deep.RegionWith
import Derived.Deep.RegionLaw
import Derived.Deep.AppendLies
set_option linter.unusedSimpArgs false
set_option linter.unusedVariables false
set_option linter.deprecated false
set_option linter.unnecessarySimpa false
namespace Go.Proofs.YthoboahfogpnfaaGreatDoor
open Go Go.RowKit Go.Sort Go.Lib

set_option maxHeartbeats 400000 in
theorem len_at (o : Option Addr) (n c : Nat) (w : World) : Calls Tryz.prog 215 #[.slice o n c] w fun e w' => e = .returned (.int .i64 (n : Int)) ∧ w = w' := by
  go_enter Tryz.func215, Tryz.ntmps215
  go_wp2
  go_ret
  exact ⟨rfl, rfl⟩

def ltB (x y : Int) : Bool := decide (x < y)

set_option maxHeartbeats 1000000 in
theorem less_at (g n c i j bi oi li ci bj oj lj cj : Nat) (x y : Int) (w : World) (hi : i < n) (hj : j < n) (hli : 0 < li) (hlj : 0 < lj)
    (c1 : w.cell? ⟨g, 0 + i, none⟩ = some (.slice (some ⟨bi, oi, none⟩) li ci)) (c2 : w.cell? ⟨g, 0 + j, none⟩ = some (.slice (some ⟨bj, oj, none⟩) lj cj))
    (c3 : w.cell? ⟨bi, oi, none⟩ = some (.int .i64 x)) (c4 : w.cell? ⟨bj, oj, none⟩ = some (.int .i64 y)) :
    Calls Tryz.prog 216 #[.slice (some ⟨g, 0, none⟩) n c, .int .i64 i, .int .i64 j] w (Ans (ltB x y) w) := by
  simp only [Nat.zero_add] at c1 c2
  go_enter Tryz.func216, Tryz.ntmps216
  go_wp2
  go_quiet (fail)
  go_wp2
  go_ret
  exact ⟨rfl, ⟨_, rfl⟩⟩

def Swapped (g i j : Nat) (u v : Value) (w : World) (e : Ending) (w' : World) : Prop := e = .returned (.tuple #[]) ∧ ∃ q, w' = ((w.setCell ⟨g, i, none⟩ v).setCell ⟨g, j, none⟩ u).drewN q

set_option maxHeartbeats 1000000 in
theorem swap_at (g n c i j : Nat) (oi oj : Option Addr) (li lj ci cj : Nat) (w : World) (hi : i < n) (hj : j < n)
    (c1 : w.cell? ⟨g, i, none⟩ = some (.slice oi li ci)) (c2 : w.cell? ⟨g, j, none⟩ = some (.slice oj lj cj)) (f1 : w.frozen? ⟨g, i, none⟩ = false) (f2 : w.frozen? ⟨g, j, none⟩ = false) :
    Calls Tryz.prog 217 #[.slice (some ⟨g, 0, none⟩) n c, .int .i64 i, .int .i64 j] w (Swapped g i j (.slice oi li ci) (.slice oj lj cj) w) := by
  obtain ⟨v', hy'⟩ := cell?_setCell_some (w := w) (p := ⟨g, i, none⟩) (x := .slice oj lj cj) (q := ⟨g, j, none⟩) (v := .slice oj lj cj) c2
  go_enter Tryz.func217, Tryz.ntmps217
  go_wp2
  go_region
  all_goals (go_end0; exact ⟨rfl, ⟨1, rfl⟩⟩)
end Go.Proofs.YthoboahfogpnfaaGreatDoor
namespace Go.Proofs.YthoboahfogpnfaaGreatDoor
open Go Go.RowKit Go.Sort Go.Lib

theorem meth_len_eq (a : Addr) (w : World) : (method 479 78 (.pointer (some a)) "Len").run Tryz.prog w = ((load a).bind fun r => Sem.pure (215, r)).run Tryz.prog w := by kernel_rfl
theorem meth_less_eq (a : Addr) (w : World) : (method 479 78 (.pointer (some a)) "Less").run Tryz.prog w = ((load a).bind fun r => Sem.pure (216, r)).run Tryz.prog w := by kernel_rfl
theorem meth_swap_eq (a : Addr) (w : World) : (method 479 78 (.pointer (some a)) "Swap").run Tryz.prog w = ((load a).bind fun r => Sem.pure (217, r)).run Tryz.prog w := by kernel_rfl
theorem meth_pop (a : Addr) (w : World) : (method 479 78 (.pointer (some a)) "Pop").run Tryz.prog w = .ok (218, .pointer (some a)) w := by kernel_rfl

theorem load_run (a : Addr) (k : FuncId) (v : Value) (w : World) (hc : w.cell? a = some v) : ((load a).bind fun r => Sem.pure (k, r)).run Tryz.prog w = .ok (k, v) w := by
  simp [load, Sem.bind, Sem.run, hc]
theorem meth_len (a : Addr) (v : Value) (w : World) (hc : w.cell? a = some v) : (method 479 78 (.pointer (some a)) "Len").run Tryz.prog w = .ok (215, v) w := (meth_len_eq a w).trans (load_run a 215 v w hc)
theorem meth_less (a : Addr) (v : Value) (w : World) (hc : w.cell? a = some v) : (method 479 78 (.pointer (some a)) "Less").run Tryz.prog w = .ok (216, v) w := (meth_less_eq a w).trans (load_run a 216 v w hc)
theorem meth_swap (a : Addr) (v : Value) (w : World) (hc : w.cell? a = some v) : (method 479 78 (.pointer (some a)) "Swap").run Tryz.prog w = .ok (217, v) w := (meth_swap_eq a w).trans (load_run a 217 v w hc)

end Go.Proofs.YthoboahfogpnfaaGreatDoor
namespace Go.Proofs.YthoboahfogpnfaaGreatDoor
section
variable {E : Type} (key : E → Int)

def K (es : List E) (c : Nat) : Int := match es[c]? with
  | some e => key e
  | none => 0

def swapL (es : List E) (i j : Nat) : List E := match es[i]?, es[j]? with
  | some a, some b => (es.set i b).set j a
  | _, _ => es

theorem swapL_len (es : List E) (i j : Nat) : (swapL es i j).length = es.length := by
  unfold swapL
  split <;> simp

theorem swapL_get {es : List E} {i j : Nat} {a b : E} (hi : es[i]? = some a) (hj : es[j]? = some b) (k : Nat) :
    (swapL es i j)[k]? = if k = j then some a else if k = i then some b else es[k]? := by
  unfold swapL
  rw [hi, hj]
  dsimp only
  have h1 := (List.getElem?_eq_some_iff.1 hi).1
  have h2 := (List.getElem?_eq_some_iff.1 hj).1
  by_cases e1 : k = j
  · subst e1
    rw [if_pos rfl, List.getElem?_set_self (by simpa using h2)]
  · rw [if_neg e1, List.getElem?_set_ne (Ne.symm e1)]
    by_cases e2 : k = i
    · subst e2
      rw [if_pos rfl, List.getElem?_set_self h1]
    · rw [if_neg e2, List.getElem?_set_ne (Ne.symm e2)]

theorem swapL_perm (es : List E) (i j : Nat) : (swapL es i j).Perm es := by
  unfold swapL
  split
  · rename_i a b hi hj
    obtain ⟨h1, rfl⟩ := List.getElem?_eq_some_iff.1 hi
    obtain ⟨h2, rfl⟩ := List.getElem?_eq_some_iff.1 hj
    by_cases e : i = j
    · subst e; simp
    · exact List.set_set_perm h1 h2
  · exact List.Perm.refl _

theorem swapL_drop (es : List E) {i j n : Nat} (hi : i < n) (hj : j < n) : (swapL es i j).drop n = es.drop n := by
  unfold swapL
  split
  · rw [List.drop_set_of_lt hj, List.drop_set_of_lt hi]
  · rfl

def HeapFrom (lo n : Nat) (es : List E) : Prop := ∀ c, 1 ≤ c → c < n → lo ≤ (c - 1) / 2 → K key es ((c - 1) / 2) ≤ K key es c

structure HInv (i0 i n : Nat) (es : List E) : Prop where
  rest : ∀ c, 1 ≤ c → c < n → i0 ≤ (c - 1) / 2 → (c - 1) / 2 ≠ i → K key es ((c - 1) / 2) ≤ K key es c
  over : ∀ c, 1 ≤ c → c < n → (c - 1) / 2 = i → 1 ≤ i → i0 ≤ (i - 1) / 2 → K key es ((i - 1) / 2) ≤ K key es c

theorem HInv.start {i0 n : Nat} {es : List E} (h : HeapFrom key (i0 + 1) n es) : HInv key i0 i0 n es where
  rest := fun c h1 h2 h3 h4 => h c h1 h2 (by omega)
  over := fun c _ _ _ h4 h5 => by omega

theorem HInv.stop {i0 i n : Nat} {es : List E} (h : HInv key i0 i n es) (hc : ∀ c, 1 ≤ c → c < n → (c - 1) / 2 = i → K key es i ≤ K key es c) : HeapFrom key i0 n es := by
  intro c h1 h2 h3
  by_cases e : (c - 1) / 2 = i
  · rw [e]; exact hc c h1 h2 e
  · exact h.rest c h1 h2 h3 e

theorem K_of {es : List E} {c : Nat} {e : E} (h : es[c]? = some e) : K key es c = key e := by unfold K; rw [h]

theorem HInv.step {i0 i j n : Nat} {es : List E} {a b : E} (h : HInv key i0 i n es) (h0 : i0 ≤ i) (hj1 : 1 ≤ j) (hjn : j < n) (hp : (j - 1) / 2 = i) (hi : es[i]? = some a) (hj : es[j]? = some b)
    (hlt : key b < key a) (hmin : ∀ c, 1 ≤ c → c < n → (c - 1) / 2 = i → key b ≤ K key es c) : HInv key i0 j n (swapL es i j) := by
  have hij : i < j := by omega
  have kj : K key (swapL es i j) j = key a := by unfold K; rw [swapL_get hi hj, if_pos rfl]
  have ki : K key (swapL es i j) i = key b := by unfold K; rw [swapL_get hi hj, if_neg (by omega), if_pos rfl]
  have ko : ∀ c, c ≠ i → c ≠ j → K key (swapL es i j) c = K key es c := fun c h1 h2 => by unfold K; rw [swapL_get hi hj, if_neg h2, if_neg h1]
  constructor
  · intro c h1 h2 h3 h4
    by_cases e : (c - 1) / 2 = i
    · rw [e, ki]
      by_cases ec : c = j
      · subst ec; rw [kj]; omega
      · rw [ko c (by omega) ec]; exact hmin c h1 h2 e
    · by_cases ec : c = i
      · subst ec
        rw [ki, ko _ (by omega) (by omega)]
        have := h.over j hj1 hjn hp h1 h3
        rw [K_of key hj] at this
        exact this
      · have ec2 : c ≠ j := fun e2 => e (by rw [e2]; exact hp)
        rw [ko c ec ec2, ko _ e h4]
        exact h.rest c h1 h2 h3 e
  · intro c h1 h2 h3 h4 h5
    have e1 : (j - 1) / 2 = i := hp
    rw [e1, ki, ko c (by omega) (by omega)]
    have := h.rest c h1 h2 (by omega) (by omega)
    rw [h3, K_of key hj] at this
    exact this


theorem HeapFrom.top {n : Nat} {es : List E} (h : HeapFrom key 0 n es) : ∀ c, c < n → K key es 0 ≤ K key es c := by
  intro c
  induction c using Nat.strongRecOn with
  | _ c ih =>
    intro hc
    cases c with
    | zero => exact Int.le_refl _
    | succ c =>
      have h1 := h (c + 1) (by omega) hc (by omega)
      have h2 := ih ((c + 1 - 1) / 2) (by omega) (by omega)
      omega
end
end Go.Proofs.YthoboahfogpnfaaGreatDoor
namespace Go.Proofs.YthoboahfogpnfaaGreatDoor
open Go Go.RowKit Go.Sort Go.Lib

abbrev El := Value × List Int
def kf (e : El) : Int := e.2.headD 0


structure ElAt (W : World) (hb g : Nat) (e : El) : Prop where
  len : e.2.length ≤ 9223372036854775807
  at_ : ∃ b off c, e.1 = .slice (some ⟨b, off, none⟩) e.2.length c ∧ e.2.length ≤ c ∧ IntCells W b off e.2 ∧ b ≠ hb ∧ b ≠ g

structure HeapAt (W : World) (hb g cap B : Nat) (es : List El) : Prop where
  lo : B ≤ hb ∧ B ≤ g ∧ hb ≠ g
  fit : es.length ≤ cap ∧ cap ≤ maxLen
  box : W.heap[hb]? = some (.cells #[.slice (some ⟨g, 0, none⟩) es.length cap] 76 (0, 0))
  row : ∃ arr, W.heap[g]? = some (.cells arr 22 (0, 0)) ∧ arr.size = cap ∧ arr.toList.take es.length = es.map (·.1)
  els : ∀ e ∈ es, ElAt W hb g e


structure Only (hb g : Nat) (W W' : World) : Prop where
  os : W'.os = W.os
  tape : W'.tape = W.tape
  output : W'.output = W.output
  size : W'.heap.size = W.heap.size
  block : ∀ k, k ≠ hb → k ≠ g → W'.heap[k]? = W.heap[k]?

theorem Only.refl (hb g : Nat) (W : World) : Only hb g W W := ⟨rfl, rfl, rfl, rfl, fun _ _ _ => rfl⟩
theorem Only.trans {hb g : Nat} {a b c : World} (h : Only hb g a b) (k : Only hb g b c) : Only hb g a c :=
  ⟨k.os.trans h.os, k.tape.trans h.tape, k.output.trans h.output, k.size.trans h.size, fun i h1 h2 => (k.block i h1 h2).trans (h.block i h1 h2)⟩
theorem Only.below {hb g B : Nat} {a b : World} (h : Only hb g a b) (h1 : B ≤ hb) (h2 : B ≤ g) : Below B a b :=
  ⟨h.os, h.tape, h.output, by rw [h.size]; exact Nat.le_refl _, fun k hk => h.block k (by omega) (by omega)⟩
theorem Only.drewN {hb g : Nat} {a b : World} (h : Only hb g a b) (q : Nat) : Only hb g a (b.drewN q) := ⟨h.os, h.tape, h.output, h.size, h.block⟩

theorem IntCells.only {W W' : World} {hb g b off : Nat} {zs : List Int} (h : IntCells W b off zs) (ho : Only hb g W W') (h1 : b ≠ hb) (h2 : b ≠ g) : IntCells W' b off zs := fun j z hz => by
  rw [World.cell?_of_block (w := W) (w' := W') (ho.block b h1 h2)]
  exact h j z hz
theorem ElAt.only {W W' : World} {hb g : Nat} {e : El} (h : ElAt W hb g e) (ho : Only hb g W W') : ElAt W' hb g e := by
  obtain ⟨b, off, c, h1, h2, h3, h4, h5⟩ := h.at_
  exact ⟨h.len, b, off, c, h1, h2, h3.only ho h4 h5, h4, h5⟩

theorem HeapAt.boxCell {W : World} {hb g cap B : Nat} {es : List El} (h : HeapAt W hb g cap B es) : W.cell? ⟨hb, 0, none⟩ = some (.slice (some ⟨g, 0, none⟩) es.length cap) := by
  simp [World.cell?, h.box]
theorem HeapAt.cell {W : World} {hb g cap B : Nat} {es : List El} (h : HeapAt W hb g cap B es) {i : Nat} {e : El} (hi : es[i]? = some e) : W.cell? ⟨g, i, none⟩ = some e.1 ∧ W.frozen? ⟨g, i, none⟩ = false := by
  obtain ⟨arr, h1, h2, h3⟩ := h.row
  have hl := (List.getElem?_eq_some_iff.1 hi).1
  constructor
  · have : (arr.toList.take es.length)[i]? = some e.1 := by rw [h3]; simp [hi]
    rw [List.getElem?_take_of_lt hl, Array.getElem?_toList] at this
    simp [World.cell?, h1, this]
  · simp [World.frozen?, h1]


theorem HeapAt.swap {W : World} {hb g cap B : Nat} {es : List El} (h : HeapAt W hb g cap B es) {i j : Nat} {a b : El} (hi : es[i]? = some a) (hj : es[j]? = some b) (q : Nat) :
    HeapAt (((W.setCell ⟨g, i, none⟩ b.1).setCell ⟨g, j, none⟩ a.1).drewN q) hb g cap B (swapL es i j) ∧ Only hb g W (((W.setCell ⟨g, i, none⟩ b.1).setCell ⟨g, j, none⟩ a.1).drewN q) := by
  obtain ⟨arr, h1, h2, h3⟩ := h.row
  have hil := (List.getElem?_eq_some_iff.1 hi).1
  have hjl := (List.getElem?_eq_some_iff.1 hj).1
  have hsz := swapL_len es i j
  have ho : Only hb g W (((W.setCell ⟨g, i, none⟩ b.1).setCell ⟨g, j, none⟩ a.1).drewN q) := by
    refine ⟨rfl, rfl, rfl, by simp [World.setCell], fun k _ hk => ?_⟩
    simp only [World.heap_drewN, World.setCell, Array.getElem?_modify]
    rw [if_neg (by omega), if_neg (by omega)]
  have hg : (((W.setCell ⟨g, i, none⟩ b.1).setCell ⟨g, j, none⟩ a.1).drewN q).heap[g]? = some (.cells ((arr.setIfInBounds i b.1).setIfInBounds j a.1) 22 (0, 0)) := by
    simp [World.heap_drewN, World.setCell, Array.getElem?_modify, h1]
  refine ⟨⟨h.lo, by rw [hsz]; exact h.fit, ?_, ⟨_, hg, by simp [h2], ?_⟩, ?_⟩, ho⟩
  · rw [hsz, ← h.box]
    simp only [World.heap_drewN, World.setCell, Array.getElem?_modify]
    rw [if_neg (fun e => h.lo.2.2 e.symm), if_neg (fun e => h.lo.2.2 e.symm)]
  · apply List.ext_getElem?
    intro k
    rw [hsz]
    by_cases hk : k < es.length
    · rw [List.getElem?_take_of_lt hk, Array.getElem?_toList, List.getElem?_map, swapL_get hi hj]
      have h4 : arr[k]? = (es[k]?).map (·.1) := by
        have : (arr.toList.take es.length)[k]? = (es.map (·.1))[k]? := by rw [h3]
        rw [List.getElem?_take_of_lt hk, Array.getElem?_toList, List.getElem?_map] at this
        exact this
      have hfit := h.fit.1
      by_cases e1 : k = j
      · subst e1
        rw [if_pos rfl, Array.getElem?_setIfInBounds_self_of_lt (by simp; omega)]
        rfl
      · rw [if_neg e1, Array.getElem?_setIfInBounds_ne (by omega)]
        by_cases e2 : k = i
        · subst e2
          rw [if_pos rfl, Array.getElem?_setIfInBounds_self_of_lt (by omega)]
          rfl
        · rw [if_neg e2, Array.getElem?_setIfInBounds_ne (by omega), h4]
    · rw [List.getElem?_eq_none (by rw [List.length_take]; omega), List.getElem?_eq_none (by rw [List.length_map, hsz]; omega)]
  · intro e he
    exact (h.els e ((swapL_perm es i j).mem_iff.1 he)).only ho

theorem HeapAt.drew {W : World} {hb g cap B : Nat} {es : List El} (h : HeapAt W hb g cap B es) (q : Nat) : HeapAt (W.drewN q) hb g cap B es :=
  ⟨h.lo, h.fit, h.box, h.row, fun e he => (h.els e he).only ((Only.refl hb g W).drewN q)⟩


theorem less_h {W : World} {hb g cap B : Nat} {es : List El} (h : HeapAt W hb g cap B es) {i j : Nat} {a b : El} (hi : es[i]? = some a) (hj : es[j]? = some b) (na : a.2 ≠ []) (nb : b.2 ≠ []) :
    Calls Tryz.prog 216 #[.slice (some ⟨g, 0, none⟩) es.length cap, .int .i64 i, .int .i64 j] W (Ans (ltB (kf a) (kf b)) W) := by
  have ea := h.els a (List.mem_of_getElem? hi)
  have eb := h.els b (List.mem_of_getElem? hj)
  have ca := (h.cell hi).1
  have cb := (h.cell hj).1
  have hil := (List.getElem?_eq_some_iff.1 hi).1
  have hjl := (List.getElem?_eq_some_iff.1 hj).1
  obtain ⟨va, za⟩ := a
  obtain ⟨vb, zb⟩ := b
  obtain ⟨b1, o1, c1, e1, _, i1, _, _⟩ := ea.at_
  obtain ⟨b2, o2, c2, e2, _, i2, _, _⟩ := eb.at_
  dsimp only at e1 e2
  subst e1 e2
  cases za with
  | nil => exact absurd rfl na
  | cons x xs =>
    cases zb with
    | nil => exact absurd rfl nb
    | cons y ys =>
      have d1 := i1 0 x rfl
      have d2 := i2 0 y rfl
      simp only [Nat.add_zero] at d1 d2
      exact less_at g es.length cap i j b1 o1 _ c1 b2 o2 _ c2 x y W hil hjl (Nat.zero_lt_succ _) (Nat.zero_lt_succ _) (by rw [Nat.zero_add]; exact ca) (by rw [Nat.zero_add]; exact cb) d1 d2

def SwapPost (hb g cap B : Nat) (es : List El) (W : World) (e : Ending) (W' : World) : Prop := e = .returned (.tuple #[]) ∧ HeapAt W' hb g cap B es ∧ Only hb g W W'

theorem swap_h {W : World} {hb g cap B : Nat} {es : List El} (h : HeapAt W hb g cap B es) {i j : Nat} {a b : El} (hi : es[i]? = some a) (hj : es[j]? = some b) :
    Calls Tryz.prog 217 #[.slice (some ⟨g, 0, none⟩) es.length cap, .int .i64 i, .int .i64 j] W (SwapPost hb g cap B (swapL es i j) W) := by
  have ea := h.els a (List.mem_of_getElem? hi)
  have eb := h.els b (List.mem_of_getElem? hj)
  have ca := h.cell hi
  have cb := h.cell hj
  have hil := (List.getElem?_eq_some_iff.1 hi).1
  have hjl := (List.getElem?_eq_some_iff.1 hj).1
  have key := fun q => h.swap hi hj q
  obtain ⟨va, za⟩ := a
  obtain ⟨vb, zb⟩ := b
  obtain ⟨b1, o1, c1, e1, _⟩ := ea.at_
  obtain ⟨b2, o2, c2, e2, _⟩ := eb.at_
  dsimp only at e1 e2
  subst e1 e2
  refine (swap_at g es.length cap i j _ _ _ _ _ _ W hil hjl ca.1 cb.1 ca.2 cb.2).mono ?_
  rintro e W' ⟨rfl, q, rfl⟩
  exact ⟨rfl, (key q).1, (key q).2⟩
end Go.Proofs.YthoboahfogpnfaaGreatDoor
namespace Go.Proofs.YthoboahfogpnfaaGreatDoor
open Go Go.RowKit Go.Sort Go.Lib


def Sifted (i0 n : Nat) (es es' : List El) : Prop := es'.Perm es ∧ es'.drop n = es.drop n ∧ (HeapFrom kf (i0 + 1) n es → HeapFrom kf i0 n es')

def DownPost (hb g cap B i0 n : Nat) (es : List El) (W : World) (e : Ending) (W' : World) : Prop :=
  ∃ es' b, e = .returned (.bool b) ∧ HeapAt W' hb g cap B es' ∧ Only hb g W W' ∧ Sifted i0 n es es'

def Full (n : Nat) (es : List El) : Prop := ∀ c e, c < n → es[c]? = some e → e.2 ≠ []
theorem Full.swap {n i j : Nat} {es : List El} {a b : El} (h : Full n es) (hi : es[i]? = some a) (hj : es[j]? = some b) (h1 : i < n) (h2 : j < n) : Full n (swapL es i j) := fun c e hc he => by
  rw [swapL_get hi hj] at he
  split at he
  · cases he; exact h i a h1 hi
  · split at he
    · cases he; exact h j b h2 hj
    · exact h c e hc he


def DownAt (hb g cap B i0 n : Nat) (es : List El) (W : World) (i : Nat) (W' : World) (es' : List El) : Prop :=
  i0 ≤ i ∧ HeapAt W' hb g cap B es' ∧ Only hb g W W' ∧ es'.Perm es ∧ es'.drop n = es.drop n ∧ (HeapFrom kf (i0 + 1) n es → HInv kf i0 i n es') ∧ Full n es'

theorem down_exit {hb g cap B i0 n k : Nat} {es es' : List El} {W W' W'' : World} (h : DownAt hb g cap B i0 n es W k W' es') (hmin : ∀ c, 1 ≤ c → c < n → (c - 1) / 2 = k → K kf es' k ≤ K kf es' c) (hq : Quiet W' W'') (b : Bool) :
    DownPost hb g cap B i0 n es W (.returned (.bool b)) W'' := by
  obtain ⟨q, rfl⟩ := hq
  obtain ⟨h0, h1, h2, h3, h4, h5, _⟩ := h
  exact ⟨es', b, rfl, h1.drew q, h2.drewN q, h3, h4, fun hf => (h5 hf).stop kf hmin⟩

theorem down_round {hb g cap B i0 n k j : Nat} {es es' : List El} {W W' W'' : World} {a b : El} (h : DownAt hb g cap B i0 n es W k W' es') (hj1 : 1 ≤ j) (hjn : j < n) (hp : (j - 1) / 2 = k) (hi : es'[k]? = some a) (hj : es'[j]? = some b)
    (hlt : kf b < kf a) (hmin : ∀ c, 1 ≤ c → c < n → (c - 1) / 2 = k → kf b ≤ K kf es' c) (hq : Quiet W' W'') {W3 : World} {e : Ending} (hs : SwapPost hb g cap B (swapL es' k j) W'' e W3) :
    DownAt hb g cap B i0 n es W j W3 (swapL es' k j) := by
  obtain ⟨q, rfl⟩ := hq
  obtain ⟨h0, h1, h2, h3, h4, h5, h6⟩ := h
  obtain ⟨_, g1, g2⟩ := hs
  exact ⟨by omega, g1, (h2.drewN q).trans g2, (swapL_perm es' k j).trans h3, by rw [swapL_drop es' (by omega) hjn]; exact h4, fun hf => (h5 hf).step kf h0 hj1 hjn hp hi hj hlt hmin, h6.swap hi hj (by omega) hjn⟩

theorem less_z {W : World} {hb g cap B : Nat} {es : List El} (h : HeapAt W hb g cap B es) {i j : Nat} {a b : El} (hi : es[i]? = some a) (hj : es[j]? = some b) {m : Nat} (hm : es.length = m) {zi zj : Int} (ei : zi = i) (ej : zj = j) {v : Bool} (hv : ltB (kf a) (kf b) = v) (na : a.2 ≠ []) (nb : b.2 ≠ []) :
    Calls Tryz.prog 216 #[.slice (some ⟨g, 0, none⟩) m cap, .int .i64 zi, .int .i64 zj] W (Ans v W) := by
  subst hm ei ej hv
  exact less_h h hi hj na nb
theorem swap_z {W : World} {hb g cap B : Nat} {es : List El} (h : HeapAt W hb g cap B es) {i j : Nat} {a b : El} (hi : es[i]? = some a) (hj : es[j]? = some b) {m : Nat} (hm : es.length = m) {zi zj : Int} (ei : zi = i) (ej : zj = j) :
    Calls Tryz.prog 217 #[.slice (some ⟨g, 0, none⟩) m cap, .int .i64 zi, .int .i64 zj] W (SwapPost hb g cap B (swapL es i j) W) := by
  subst hm ei ej
  exact swap_h h hi hj

theorem ltB_true {x y : Int} (h : ltB x y = true) : x < y := by unfold ltB at h; simpa using h
theorem ltB_false {x y : Int} (h : ltB x y = false) : y ≤ x := by unfold ltB at h; simpa using h

set_option maxRecDepth 20000 in
set_option maxHeartbeats 2000000 in
theorem down_any {W : World} {hb g cap B : Nat} {es : List El} (i0 n : Nat) (h : HeapAt W hb g cap B es) (hn : n ≤ es.length) (hbig : es.length ≤ 100000000000000) (hi0 : i0 ≤ n) (hfull : Full n es) :
    Calls Tryz.prog 74 #[.iface 78 (.pointer (some ⟨hb, 0, none⟩)), .int .i64 i0, .int .i64 n] W (DownPost hb g cap B i0 n es W) := by
  have hn63 : n ≤ 100000000000000 := by omega
  have H := Lib.hid h
  have Hn := Lib.hid hn
  have Hfull := Lib.hid hfull
  clear h hn hbig hfull
  have m1 := fun w => meth_less ⟨hb, 0, none⟩ (.slice (some ⟨g, 0, none⟩) es.length cap) w
  have m2 := fun w => meth_swap ⟨hb, 0, none⟩ (.slice (some ⟨g, 0, none⟩) es.length cap) w
  go_enter Tryz.func74, Tryz.ntmps74
  go_wp2_with fail
  go_loopw [7] (fun i W' => ∃ (k : Nat) (es' : List El), i = .int .i64 k ∧ k ≤ n ∧ DownAt hb g cap B i0 n es W k W' es') (fun i _ => n - (intOf i).toNat)
  case atStart => exact ⟨i0, es, rfl, hi0, Nat.le_refl _, H.out, Only.refl _ _ _, List.Perm.refl _, rfl, fun h => HInv.start kf h, Hfull.out⟩
  case round =>
    obtain ⟨k, es', rfl, hk, hat⟩ := hrel
    have Hlen : Hid (es'.length = es.length) := Lib.hid hat.2.2.2.1.length_eq
    have Hh : Hid (HeapAt wr hb g cap B es') := Lib.hid hat.2.1
    have Hfu : Hid (Full n es') := Lib.hid hat.2.2.2.2.2.2
    have hbox : wr.cell? ⟨hb, 0, none⟩ = some (.slice (some ⟨g, 0, none⟩) es.length cap) := by rw [Hh.out.boxCell, Hlen.out]
    have Hat := Lib.hid hat
    clear hat
    by_cases hlt : 2 * k + 1 < n
    · obtain ⟨a, ha⟩ : ∃ a, es'[k]? = some a := ⟨_, List.getElem?_eq_getElem (by rw [Hlen.out]; have := Hn.out; omega)⟩
      obtain ⟨b1, hb1⟩ : ∃ b, es'[2 * k + 1]? = some b := ⟨_, List.getElem?_eq_getElem (by rw [Hlen.out]; have := Hn.out; omega)⟩
      have Ha := Lib.hid ha
      have Hb1 := Lib.hid hb1
      have Na : Hid (a.2 ≠ []) := Lib.hid (Hfu.out k a (by omega) ha)
      have Nb1 : Hid (b1.2 ≠ []) := Lib.hid (Hfu.out _ b1 hlt hb1)
      clear ha hb1
      have f1 : decide ((n : Int) ≤ 2 * (k : Int) + 1) = false := by simp; omega
      have f2 : decide (2 * (k : Int) + 1 < 0) = false := by simp; omega
      by_cases hlt2 : 2 * k + 1 + 1 < n
      · obtain ⟨b2, hb2⟩ : ∃ b, es'[2 * k + 1 + 1]? = some b := ⟨_, List.getElem?_eq_getElem (by rw [Hlen.out]; have := Hn.out; omega)⟩
        have Hb2 := Lib.hid hb2
        have Nb2 : Hid (b2.2 ≠ []) := Lib.hid (Hfu.out _ b2 hlt2 hb2)
        clear hb2
        have e2 : Hid ((2 * (k : Int) + 1 + 1) = ((2 * k + 1 + 1 : Nat) : Int)) := Lib.hid (by omega)
        have e1 : Hid ((2 * (k : Int) + 1) = ((2 * k + 1 : Nat) : Int)) := Lib.hid (by omega)
        cases hv : ltB (kf b2) (kf b1) with
        | true =>
          have Hl := Lib.hid (less_z Hh.out Hb2.out Hb1.out Hlen.out e2.out e1.out hv Nb2.out Nb1.out)
          have Hv := Lib.hid (ltB_true hv)
          clear hv
          have Hmin : Hid (∀ c, 1 ≤ c → c < n → (c - 1) / 2 = k → kf b2 ≤ K kf es' c) := Lib.hid fun c h1 h2 h3 => by
            rcases (show c = 2 * k + 1 ∨ c = 2 * k + 1 + 1 by omega) with rfl | rfl
            · rw [K_of kf Hb1.out]; have := Hv.out; omega
            · rw [K_of kf Hb2.out]; exact Int.le_refl _
          go_wp2_with fail
          ((with_reducible refine Hl.out.mono ?_); rintro e w1 ⟨rfl, q, rfl⟩)
          cases hv2 : ltB (kf b2) (kf a) with
          | true =>
            have Hl2 := Lib.hid (less_z (Hh.out.drew q) Hb2.out Ha.out Hlen.out e2.out rfl hv2 Nb2.out Na.out)
            have Hv2 := Lib.hid (ltB_true hv2)
            clear hv2
            go_wp2_with fail
            ((with_reducible refine Hl2.out.mono ?_); rintro e w2 ⟨rfl, q2, rfl⟩)
            have Hs := Lib.hid (swap_z ((Hh.out.drew q).drew q2) Ha.out Hb2.out Hlen.out rfl e2.out)
            rw [World.drewN_drewN] at Hs ⊢
            go_wp2_with fail
            ((with_reducible refine Hs.out.mono ?_); rintro e w3 hs3)
            have Hr := Lib.hid (down_round Hat.out (j := 2 * k + 1 + 1) (by omega) (by omega) (by omega) Ha.out Hb2.out Hv2.out Hmin.out ⟨_, rfl⟩ hs3)
            obtain ⟨rfl, _, _⟩ := hs3
            go_wp2_with fail
            go_roundw
            case rel => exact ⟨2 * k + 1 + 1, _, by rw [← e2.out], by omega, Hr.out⟩
            case measure => simp [intOf]; omega
          | false =>
            have Hl2 := Lib.hid (less_z (Hh.out.drew q) Hb2.out Ha.out Hlen.out e2.out rfl hv2 Nb2.out Na.out)
            have Hmin2 : Hid (∀ c, 1 ≤ c → c < n → (c - 1) / 2 = k → K kf es' k ≤ K kf es' c) := Lib.hid fun c h1 h2 h3 => by
              have := Hmin.out c h1 h2 h3
              have h4 := ltB_false hv2
              rw [K_of kf Ha.out]; omega
            clear hv2
            go_wp2_with fail
            ((with_reducible refine Hl2.out.mono ?_); rintro e w2 ⟨rfl, q2, rfl⟩)
            have Hx := fun b => Lib.hid (down_exit Hat.out Hmin2.out (W'' := wr.drewN (q + q2)) ⟨_, rfl⟩ b)
            go_wp2_with fail
            go_ret
            exact (Hx _).out
        | false =>
          have Hl := Lib.hid (less_z Hh.out Hb2.out Hb1.out Hlen.out e2.out e1.out hv Nb2.out Nb1.out)
          have Hv := Lib.hid (ltB_false hv)
          clear hv
          have Hmin : Hid (∀ c, 1 ≤ c → c < n → (c - 1) / 2 = k → kf b1 ≤ K kf es' c) := Lib.hid fun c h1 h2 h3 => by
            rcases (show c = 2 * k + 1 ∨ c = 2 * k + 1 + 1 by omega) with rfl | rfl
            · rw [K_of kf Hb1.out]; exact Int.le_refl _
            · rw [K_of kf Hb2.out]; exact Hv.out
          go_wp2_with fail
          ((with_reducible refine Hl.out.mono ?_); rintro e w1 ⟨rfl, q, rfl⟩)
          cases hv2 : ltB (kf b1) (kf a) with
          | true =>
            have Hl2 := Lib.hid (less_z (Hh.out.drew q) Hb1.out Ha.out Hlen.out e1.out rfl hv2 Nb1.out Na.out)
            have Hv2 := Lib.hid (ltB_true hv2)
            clear hv2
            go_wp2_with fail
            ((with_reducible refine Hl2.out.mono ?_); rintro e w2 ⟨rfl, q2, rfl⟩)
            have Hs := Lib.hid (swap_z ((Hh.out.drew q).drew q2) Ha.out Hb1.out Hlen.out rfl e1.out)
            rw [World.drewN_drewN] at Hs ⊢
            go_wp2_with fail
            ((with_reducible refine Hs.out.mono ?_); rintro e w3 hs3)
            have Hr := Lib.hid (down_round Hat.out (j := 2 * k + 1) (by omega) (by omega) (by omega) Ha.out Hb1.out Hv2.out Hmin.out ⟨_, rfl⟩ hs3)
            obtain ⟨rfl, _, _⟩ := hs3
            go_wp2_with fail
            go_roundw
            case rel => exact ⟨2 * k + 1, _, by rw [← e1.out], by omega, Hr.out⟩
            case measure => simp [intOf]; omega
          | false =>
            have Hl2 := Lib.hid (less_z (Hh.out.drew q) Hb1.out Ha.out Hlen.out e1.out rfl hv2 Nb1.out Na.out)
            have Hmin2 : Hid (∀ c, 1 ≤ c → c < n → (c - 1) / 2 = k → K kf es' k ≤ K kf es' c) := Lib.hid fun c h1 h2 h3 => by
              have := Hmin.out c h1 h2 h3
              have h4 := ltB_false hv2
              rw [K_of kf Ha.out]; omega
            clear hv2
            go_wp2_with fail
            ((with_reducible refine Hl2.out.mono ?_); rintro e w2 ⟨rfl, q2, rfl⟩)
            have Hx := fun b => Lib.hid (down_exit Hat.out Hmin2.out (W'' := wr.drewN (q + q2)) ⟨_, rfl⟩ b)
            go_wp2_with fail
            go_ret
            exact (Hx _).out
      · have e1 : Hid ((2 * (k : Int) + 1) = ((2 * k + 1 : Nat) : Int)) := Lib.hid (by omega)
        have f3 : decide (2 * (k : Int) + 1 + 1 < (n : Int)) = false := by simp; omega
        have Hmin : Hid (∀ c, 1 ≤ c → c < n → (c - 1) / 2 = k → kf b1 ≤ K kf es' c) := Lib.hid fun c h1 h2 h3 => by
          obtain rfl : c = 2 * k + 1 := by omega
          rw [K_of kf Hb1.out]; exact Int.le_refl _
        cases hv2 : ltB (kf b1) (kf a) with
        | true =>
          have Hl2 := Lib.hid (less_z Hh.out Hb1.out Ha.out Hlen.out e1.out rfl hv2 Nb1.out Na.out)
          have Hv2 := Lib.hid (ltB_true hv2)
          clear hv2
          go_wp2_with fail
          ((with_reducible refine Hl2.out.mono ?_); rintro e w2 ⟨rfl, q2, rfl⟩)
          have Hs := Lib.hid (swap_z (Hh.out.drew q2) Ha.out Hb1.out Hlen.out rfl e1.out)
          go_wp2_with fail
          ((with_reducible refine Hs.out.mono ?_); rintro e w3 hs3)
          have Hr := Lib.hid (down_round Hat.out (j := 2 * k + 1) (by omega) (by omega) (by omega) Ha.out Hb1.out Hv2.out Hmin.out ⟨_, rfl⟩ hs3)
          obtain ⟨rfl, _, _⟩ := hs3
          go_wp2_with fail
          go_roundw
          case rel => exact ⟨2 * k + 1, _, by rw [← e1.out], by omega, Hr.out⟩
          case measure => simp [intOf]; omega
        | false =>
          have Hl2 := Lib.hid (less_z Hh.out Hb1.out Ha.out Hlen.out e1.out rfl hv2 Nb1.out Na.out)
          have Hmin2 : Hid (∀ c, 1 ≤ c → c < n → (c - 1) / 2 = k → K kf es' k ≤ K kf es' c) := Lib.hid fun c h1 h2 h3 => by
            have := Hmin.out c h1 h2 h3
            have h4 := ltB_false hv2
            rw [K_of kf Ha.out]; omega
          clear hv2
          go_wp2_with fail
          ((with_reducible refine Hl2.out.mono ?_); rintro e w2 ⟨rfl, q2, rfl⟩)
          have Hx := fun b => Lib.hid (down_exit Hat.out Hmin2.out (W'' := wr.drewN q2) ⟨_, rfl⟩ b)
          go_wp2_with fail
          go_ret
          exact (Hx _).out
    · have Hmin : Hid (∀ c, 1 ≤ c → c < n → (c - 1) / 2 = k → K kf es' k ≤ K kf es' c) := Lib.hid fun c h1 h2 h3 => by omega
      have Hx := fun b => Lib.hid (down_exit Hat.out Hmin.out (Quiet.refl _) b)
      go_wp2_with fail
      go_ret
      exact (Hx _).out
end Go.Proofs.YthoboahfogpnfaaGreatDoor
namespace Go.Proofs.YthoboahfogpnfaaGreatDoor
open Go Go.RowKit Go.Sort Go.Lib

set_option maxRecDepth 20000 in
set_option maxHeartbeats 400000 in
theorem up_zero (hb : Nat) (w : World) : Calls Tryz.prog 75 #[.iface 78 (.pointer (some ⟨hb, 0, none⟩)), .int .i64 0] w fun e w' => e = .returned (.tuple #[]) ∧ w = w' := by
  go_enter Tryz.func75, Tryz.ntmps75
  go_wp2_with fail
  go_loop [1] (fun j => j = .int .i64 0) (fun _ => 0)
  case atStart => rfl
  case round =>
    obtain rfl := hrel
    go_wp2_with fail
    go_end0
    exact ⟨rfl, rfl⟩

def HeapPost (hb g cap B : Nat) (Q : List El → Prop) (W : World) (e : Ending) (W' : World) : Prop :=
  ∃ es', e = .returned (.tuple #[]) ∧ HeapAt W' hb g cap B es' ∧ Only hb g W W' ∧ Q es'

set_option maxRecDepth 20000 in
set_option maxHeartbeats 1000000 in
theorem fix_zero {W : World} {hb g cap B : Nat} {es : List El} (h : HeapAt W hb g cap B es) (hbig : es.length ≤ 100000000000000) (hfull : Full es.length es) :
    Calls Tryz.prog 26 #[.iface 78 (.pointer (some ⟨hb, 0, none⟩)), .int .i64 0] W (HeapPost hb g cap B (Sifted 0 es.length es) W) := by
  have H := Lib.hid h
  have hbox := h.boxCell
  have Hd := Lib.hid (down_any 0 es.length h (Nat.le_refl _) hbig (Nat.zero_le _) hfull)
  clear h
  have m1 := fun w => meth_len ⟨hb, 0, none⟩ (.slice (some ⟨g, 0, none⟩) es.length cap) w
  go_enter Tryz.func26, Tryz.ntmps26
  go_wp2_with fail
  refine (len_at _ _ _ _).mono ?_
  rintro e w' ⟨rfl, rfl⟩
  go_wp2_with fail
  refine Hd.out.mono ?_
  rintro e w1 ⟨es', b, rfl, h1, h2, h3⟩
  have Hf : Hid (HeapPost hb g cap B (Sifted 0 es.length es) W (.returned (.tuple #[])) w1) := Lib.hid ⟨es', rfl, h1, h2, h3⟩
  clear h1 h2 h3
  cases b
  · go_wp2_with fail
    refine (up_zero hb _).mono ?_
    rintro e w' ⟨rfl, rfl⟩
    go_wp2_with fail
    go_end0
    exact Hf.out
  · go_wp2_with fail
    go_end0
    exact Hf.out

set_option maxRecDepth 20000 in
set_option maxHeartbeats 1000000 in
theorem init_any {W : World} {hb g cap B : Nat} {es : List El} (h : HeapAt W hb g cap B es) (hbig : es.length ≤ 100000000000000) (hfull : ∀ e ∈ es, e.2 ≠ []) :
    Calls Tryz.prog 24 #[.iface 78 (.pointer (some ⟨hb, 0, none⟩))] W (HeapPost hb g cap B (fun es' => es'.Perm es ∧ HeapFrom kf 0 es.length es') W) := by
  have H := Lib.hid h
  have hbox := h.boxCell
  clear h
  have m1 := fun w => meth_len ⟨hb, 0, none⟩ (.slice (some ⟨g, 0, none⟩) es.length cap) w
  generalize hn : es.length = n at *
  have Hn := Lib.hid hn
  clear hn
  go_enter Tryz.func24, Tryz.ntmps24
  go_wp2_with fail
  refine (len_at _ _ _ _).mono ?_
  rintro e w' ⟨rfl, rfl⟩
  go_wp2_with fail
  go_loopw [3] (fun i W' => ∃ (k : Nat) (es' : List El), i = .int .i64 ((k : Int) - 1) ∧ k ≤ n / 2 ∧ HeapAt W' hb g cap B es' ∧ Only hb g W W' ∧ es'.Perm es ∧ HeapFrom kf k n es') (fun i _ => (intOf i + 1).toNat)
  case atStart => exact ⟨n / 2, es, by congr 1, Nat.le_refl _, H.out, Only.refl _ _ _, List.Perm.refl _, fun c h1 h2 h3 => by omega⟩
  case round =>
    obtain ⟨k, es', rfl, hk, h1, h2, h3, h4⟩ := hrel
    have H1 := Lib.hid h1
    have H2 := Lib.hid h2
    have H3 := Lib.hid h3
    have H4 := Lib.hid h4
    clear h1 h2 h3 h4
    cases k with
    | zero =>
      have Hf : Hid (HeapPost hb g cap B (fun es' => es'.Perm es ∧ HeapFrom kf 0 n es') W (.returned (.tuple #[])) wr) := Lib.hid ⟨es', rfl, H1.out, H2.out, H3.out, H4.out⟩
      go_wp2_with fail
      go_end0
      exact Hf.out
    | succ k =>
      have Hl : Hid (es'.length = n) := Lib.hid (by rw [H3.out.length_eq, Hn.out])
      have Hd := Lib.hid (down_any k n H1.out (by rw [Hl.out]; exact Nat.le_refl _) (by rw [Hl.out]; exact hbig) (by omega) (fun c e _ he => hfull e (H3.out.mem_iff.1 (List.mem_of_getElem? he))))
      have ek : (((k + 1 : Nat) : Int) - 1) = (k : Int) := by omega
      rw [ek]
      clear ek
      go_wp2_with fail
      ((with_reducible refine Hd.out.mono ?_); rintro e w1 ⟨es2, b, rfl, g1, g2, g3, g4, g5⟩)
      have Hf : Hid (HeapAt w1 hb g cap B es2 ∧ Only hb g W w1 ∧ es2.Perm es ∧ HeapFrom kf k n es2) := Lib.hid ⟨g1, H2.out.trans g2, g3.trans H3.out, g5 H4.out⟩
      clear g1 g2 g3 g4 g5
      go_wp2_with fail
      go_roundw
      case rel => exact ⟨k, es2, rfl, by omega, Hf.out⟩
      case measure => simp [intOf]


theorem HeapAt.cut {W : World} {hb g cap B m : Nat} {es : List El} (h : HeapAt W hb g cap B es) (hm : m ≤ es.length) (q : Nat) :
    HeapAt ((W.setCell ⟨hb, 0, none⟩ (.slice (some ⟨g, 0, none⟩) m cap)).drewN q) hb g cap B (es.take m) ∧ Only hb g W ((W.setCell ⟨hb, 0, none⟩ (.slice (some ⟨g, 0, none⟩) m cap)).drewN q) := by
  have hl : (es.take m).length = m := by rw [List.length_take]; omega
  have ho : Only hb g W ((W.setCell ⟨hb, 0, none⟩ (.slice (some ⟨g, 0, none⟩) m cap)).drewN q) := by
    refine ⟨rfl, rfl, rfl, by simp [World.setCell], fun k hk _ => ?_⟩
    simp only [World.heap_drewN, World.setCell, Array.getElem?_modify]
    rw [if_neg (by omega)]
  obtain ⟨arr, h1, h2, h3⟩ := h.row
  refine ⟨⟨h.lo, by rw [hl]; exact ⟨Nat.le_trans hm h.fit.1, h.fit.2⟩, ?_, ⟨arr, ?_, h2, ?_⟩, ?_⟩, ho⟩
  · rw [hl]
    simp [World.heap_drewN, World.setCell, Array.getElem?_modify, h.box]
  · simp only [World.heap_drewN, World.setCell, Array.getElem?_modify]
    rw [if_neg (fun e => h.lo.2.2 e)]
    exact h1
  · rw [hl, List.map_take, ← h3, List.take_take, Nat.min_eq_left hm]
  · intro e he
    exact (h.els e (List.mem_of_mem_take he)).only ho

def PopPost (hb g cap B : Nat) (Q : List El → Prop) (W : World) (e : Ending) (W' : World) : Prop :=
  ∃ es' v, e = .returned v ∧ HeapAt W' hb g cap B es' ∧ Only hb g W W' ∧ Q es'

set_option maxRecDepth 20000 in
set_option maxHeartbeats 1000000 in
theorem pop_at {W : World} {hb g cap B m : Nat} {es : List El} (h : HeapAt W hb g cap B es) (hl : es.length = m + 1) (hbig : m ≤ 100000000000000) :
    Calls Tryz.prog 218 #[.pointer (some ⟨hb, 0, none⟩)] W (PopPost hb g cap B (fun es' => es' = es.take m) W) := by
  obtain ⟨e0, he0⟩ : ∃ e, es[m]? = some e := ⟨_, List.getElem?_eq_getElem (by omega)⟩
  have hc := h.cell he0
  have hbox := h.boxCell
  rw [hl] at hbox
  have hfr : W.frozen? ⟨hb, 0, none⟩ = false := by simp [World.frozen?, h.box]
  have hee := h.els e0 (List.mem_of_getElem? he0)
  obtain ⟨b1, o1, c1, e1, _⟩ := hee.at_
  rw [e1] at hc
  obtain ⟨hc1, _⟩ := hc
  have hcap := h.fit
  rw [hl] at hcap
  obtain ⟨hcap1, hcap2⟩ := hcap
  unfold maxLen at hcap2
  have Hcut := fun q => Lib.hid (h.cut (m := m) (by omega) q)
  clear h hee e1 he0 hl
  push_cast at hbox
  go_enter Tryz.func218, Tryz.ntmps218
  go_wp2_with fail
  go_quiet (fail)
  go_wp2_with fail
  go_region
  all_goals
    go_wp2_with fail
    go_ret
    exact ⟨es.take m, _, rfl, (Hcut _).out.1, (Hcut _).out.2, rfl⟩


def Popped (es es' : List El) : Prop := ∃ e0, es[0]? = some e0 ∧ (es' ++ [e0]).Perm es ∧ (HeapFrom kf 1 es.length es → HeapFrom kf 0 es'.length es')

theorem K_take {es : List El} {m c : Nat} (h : c < m) : K kf (es.take m) c = K kf es c := by
  unfold K
  rw [List.getElem?_take_of_lt h]

theorem popped_of {es es2 : List El} {m : Nat} (hl : es.length = m + 1) (h : Sifted 0 m (swapL es 0 m) es2) : Popped es (es2.take m) := by
  obtain ⟨e0, he0⟩ : ∃ e, es[0]? = some e := ⟨_, List.getElem?_eq_getElem (by omega)⟩
  obtain ⟨em, hem⟩ : ∃ e, es[m]? = some e := ⟨_, List.getElem?_eq_getElem (by omega)⟩
  obtain ⟨h1, h2, h3⟩ := h
  have hlen : es2.length = m + 1 := by rw [h1.length_eq, swapL_len, hl]
  have hd : es2.drop m = [e0] := by
    rw [h2]
    apply List.ext_getElem?
    intro k
    rw [List.getElem?_drop, swapL_get he0 hem]
    cases k with
    | zero => rw [if_pos (by omega)]; rfl
    | succ k =>
      rw [if_neg (by omega), if_neg (by omega), List.getElem?_eq_none (by omega)]
      rfl
  refine ⟨e0, he0, ?_, fun hf => ?_⟩
  · rw [← hd, List.take_append_drop]
    exact h1.trans (swapL_perm es 0 m)
  · have hlt : (es2.take m).length = m := by rw [List.length_take]; omega
    rw [hlt]
    have h4 : HeapFrom kf 0 m es2 := h3 fun c c1 c2 c3 => by
      have := hf c c1 (by omega) c3
      unfold K at this ⊢
      rw [swapL_get he0 hem, swapL_get he0 hem, if_neg (by omega), if_neg (by omega), if_neg (by omega), if_neg (by omega)]
      exact this
    intro c c1 c2 c3
    rw [K_take (by omega), K_take c2]
    exact h4 c c1 c2 c3

set_option maxRecDepth 20000 in
set_option maxHeartbeats 1000000 in
theorem heappop_any {W : World} {hb g cap B m : Nat} {es : List El} (h : HeapAt W hb g cap B es) (hl : es.length = m + 1) (hbig : m + 1 ≤ 100000000000000) (hfull : ∀ c e, 1 ≤ c → es[c]? = some e → e.2 ≠ []) :
    Calls Tryz.prog 25 #[.iface 78 (.pointer (some ⟨hb, 0, none⟩))] W (PopPost hb g cap B (Popped es) W) := by
  obtain ⟨e0, he0⟩ : ∃ e, es[0]? = some e := ⟨_, List.getElem?_eq_getElem (by omega)⟩
  obtain ⟨em, hem⟩ : ∃ e, es[m]? = some e := ⟨_, List.getElem?_eq_getElem (by omega)⟩
  have hbox := h.boxCell
  rw [hl] at hbox
  have m1 := fun w => meth_len ⟨hb, 0, none⟩ (.slice (some ⟨g, 0, none⟩) (m + 1) cap) w
  have m2 := fun w => meth_swap ⟨hb, 0, none⟩ (.slice (some ⟨g, 0, none⟩) (m + 1) cap) w
  have m3 := fun w => meth_pop ⟨hb, 0, none⟩ w
  have Hs := Lib.hid (swap_z h he0 hem hl (zi := 0) (zj := (m : Int)) rfl rfl)
  have Hl := Lib.hid hl
  have Hfu : Hid (Full m (swapL es 0 m)) := Lib.hid fun c e hc he => by
    rw [swapL_get he0 hem, if_neg (by omega)] at he
    split at he
    · cases he; exact hfull m em (by omega) hem
    · exact hfull c e (by omega) he
  clear h he0 hem hl hfull
  go_enter Tryz.func25, Tryz.ntmps25
  go_wp2_with fail
  refine (len_at _ _ _ _).mono ?_
  rintro e w' ⟨rfl, rfl⟩
  have em1 : (((m + 1 : Nat) : Int) - 1) = (m : Int) := by omega
  go_wp2_with fail
  ((with_reducible refine Hs.out.mono ?_); rintro e w1 ⟨rfl, g1, g2⟩)
  have Hsl : Hid ((swapL es 0 m).length = m + 1) := Lib.hid (by rw [swapL_len]; exact Hl.out)
  have Hd := Lib.hid (down_any 0 m g1 (by rw [Hsl.out]; omega) (by rw [Hsl.out]; exact hbig) (Nat.zero_le _) Hfu.out)
  have G2 := Lib.hid g2
  clear g1 g2
  go_wp2_with fail
  refine Hd.out.mono ?_
  rintro e w2 ⟨es2, b, rfl, g3, g4, g5⟩
  have Hl2 : Hid (es2.length = m + 1) := Lib.hid (by rw [g5.1.length_eq]; exact Hsl.out)
  have Hp := Lib.hid (pop_at g3 Hl2.out (by omega))
  have G4 := Lib.hid (G2.out.trans g4)
  have G5 := Lib.hid g5
  clear g3 g4 g5
  go_wp2_with fail
  ((with_reducible refine Hp.out.mono ?_); rintro e w3 ⟨es3, v, rfl, g6, g7, rfl⟩)
  have Hf : Hid (PopPost hb g cap B (Popped es) W (.returned v) w3) := Lib.hid ⟨_, v, rfl, g6, G4.out.trans g7, popped_of Hl.out G5.out⟩
  clear g6 g7
  go_wp2_with fail
  go_ret
  exact Hf.out
end Go.Proofs.YthoboahfogpnfaaGreatDoor
namespace Go.Proofs.YthoboahfogpnfaaGreatDoor
open Go Go.RowKit


theorem step_call1 {P : Program} {ops : Array Oper} {o : Oper} {a : Act} {w : World} {K : Act → World → Prop} {Q : Exit → Act → World → Prop} {E : Prop} (hg : o.guard = none) (f : FuncId) (x : Operand) (t : TypeId)
    (hop : o.op = .call { callee := .value (.func f), args := #[x], argTypes := #[t] }) (u : Value) (hx : a.eval x = u) (en : ∀ args w, (callFunc f args).run P w = .ok (.enter f args) w) {S : Value → World → Prop}
    (hc : Calls P f #[u] w fun e w' => ∃ v, e = .returned v ∧ S v w') (hK : ∀ v w', S v w' → K (a.put o.dst v) w') :
    if Region.wanted o (yielded ops a.tmps) = true then Oper.wp P o a w K Q else E := by
  have hw : Region.wanted o (yielded ops a.tmps) = true := by simp [Region.wanted, hg]
  rw [if_pos hw]
  have hrun : (execOp a.eval o).run P w = .ok (.enter f #[u]) w := by
    have h1 := en #[u] w
    simp only [execOp, hop]
    have ev : a.eval (.func f) = .func (.func f) #[] #[] := rfl
    simp only [resolve, ev]
    show (invoke (.fn (.func f) #[]) (#[] ++ (#[x].map a.eval))).run P w = _
    have e : (#[] ++ (#[x].map a.eval) : Array Value) = #[u] := by simp [hx]
    rw [e]
    have e2 : invoke (.fn (.func f) #[]) #[u] = callFunc f (#[u] ++ #[]) := rfl
    rw [e2, show (#[u] ++ #[] : Array Value) = #[u] from rfl]
    exact h1
  unfold Oper.wp
  rw [hrun, Oper.upon_enter]
  refine hc.mono ?_
  rintro e w' ⟨v, rfl, hS⟩
  exact hK v w' hS
end Go.Proofs.YthoboahfogpnfaaGreatDoor
namespace Go.Proofs.YthoboahfogpnfaaGreatDoor
open Go Go.RowKit Go.Sort Go.Lib


structure RowH (W : World) (hb B : Nat) (sv : Value) (es : List El) : Prop where
  lo : B ≤ hb
  box : W.heap[hb]? = some (.cells #[sv] 76 (0, 0))
  own : W.ownsRow (hb + 1) 22 1 sv es.length (es.map (·.1))
  els : ∀ e ∈ es, e.2 ≠ [] ∧ e.2.length ≤ 9223372036854775807 ∧ ∃ b off c, e.1 = .slice (some ⟨b, off, none⟩) e.2.length c ∧ e.2.length ≤ c ∧ IntCells W b off e.2 ∧ b ≠ hb ∧ sv.ownBlock ≠ some b ∧ B ≤ b

def gath (L : List (List Int)) : List (List Int) := L.filterMap fun x => if x = [] then none else some (norm x)

theorem ownsRow_olds {w W : World} {B e k : Nat} {v : Value} {n : Nat} {xs : List Value} (h : w.ownsRow B e k v n xs) (hb : Olds w W) : W.ownsRow B e k v n xs := by
  obtain ⟨h1, h2⟩ := h
  refine ⟨h1, ?_⟩
  rcases h2 with h2 | ⟨g, cap, cur, e, hb', hg, h3⟩
  · exact .inl h2
  · refine .inr ⟨g, cap, cur, e, hb', ?_, h3⟩
    have hlt : g < w.heap.size := by
      rcases Nat.lt_or_ge g w.heap.size with h | h
      · exact h
      · rw [Array.getElem?_eq_none h] at hg; cases hg
    rw [hb.2 g hlt]
    exact hg
theorem ownsRow_block {w : World} {B e k : Nat} {v : Value} {n : Nat} {xs : List Value} (h : w.ownsRow B e k v n xs) {g : Nat} (hg : v.ownBlock = some g) : B ≤ g ∧ g < w.heap.size := by
  rcases h.2 with ⟨rfl, _⟩ | ⟨g', cap, cur, rfl, hb, hh, _⟩
  · cases hg
  · cases hg
    refine ⟨hb, ?_⟩
    rcases Nat.lt_or_ge g' w.heap.size with h | h
    · exact h
    · rw [Array.getElem?_eq_none h] at hh; cases hh
theorem olds_frozen {w W : World} (h : Olds w W) {a : Addr} (ha : a.block < w.heap.size) : W.frozen? a = w.frozen? a := World.frozen?_of_block (w := w) (w' := W) (h.2 _ ha)
theorem olds_drew {w W : World} (h : Olds w.drew W) : Olds w W := h

theorem norm_ne {x : List Int} (h : x ≠ []) : norm x ≠ [] := by
  cases x with
  | nil => exact absurd rfl h
  | cons a l =>
    intro e
    have : a ∈ norm (a :: l) := mem_norm.2 (by simp)
    rw [e] at this
    cases this

theorem setCell_other {W : World} {hb : Nat} (v : Value) {k : Nat} (h : k ≠ hb) : (W.setCell ⟨hb, 0, none⟩ v).heap[k]? = W.heap[k]? := by
  simp only [World.setCell, Array.getElem?_modify]
  rw [if_neg (by omega)]

theorem row_below {w wr w2 w4 : World} {hb : Nat} {sv nv : Value} {O : Obj} {n : Nat} {xs : List Value} (h : Below hb w wr) (hbl : hb < wr.heap.size) (hold : Olds wr w2) (hb2 : Below wr.heap.size wr w2)
    (grow : (w2.alloc O).grownBy w4 sv.ownBlock) (hown : wr.ownsRow (hb + 1) 22 1 sv n xs) (q : Nat) : Below hb w ((w4.setCell ⟨hb, 0, none⟩ nv).drewN q) := by
  have h1 : Below hb w (w2.alloc O) := (h.trans (hb2.mono (by omega))).alloc (by have := hold.1; omega) _
  have h2 : Below hb w w4 := h1.grown grow (by simp; have := hold.1; omega) (fun k hk => by have := (ownsRow_block hown hk).1; omega)
  exact below_drewN (h2.setCell (by exact Nat.le_refl _) _) q

theorem row_step {wr w2 w4 : World} {B hb : Nat} {sv : Value} {es : List El} {x : List Int} {o2 : Option Addr} {c2 gg cap : Nat} {O : Obj} (h : RowH wr hb B sv es) (hx : x ≠ []) (hlen : x.length ≤ 9223372036854775807) (hB : B ≤ wr.heap.size)
    (ho2 : Owns w2 wr.heap.size (.slice o2 (norm x).length c2) (norm x)) (hold : Olds wr w2)
    (own4 : w4.ownsRow (hb + 1) 22 1 (.slice (some ⟨gg, 0, none⟩) (es.length + 1) cap) (es.length + 1) (es.map (·.1) ++ [.slice o2 (norm x).length c2]))
    (grow : (w2.alloc O).grownBy w4 sv.ownBlock) (hat : sv.ownBlock = some gg ∨ gg = w2.heap.size + 1) (q : Nat) :
    RowH ((w4.setCell ⟨hb, 0, none⟩ (.slice (some ⟨gg, 0, none⟩) (es.length + 1) cap)).drewN q) hb B (.slice (some ⟨gg, 0, none⟩) (es.length + 1) cap) (es ++ [(.slice o2 (norm x).length c2, norm x)]) := by
  have hbl : hb < wr.heap.size := cell_lt (a := ⟨hb, 0, none⟩) (v := sv) (by simp [World.cell?, h.box])
  have hold3 : Olds wr (w2.alloc O) := hold.trans (Olds.alloc _ _)
  have hs3 : (w2.alloc O).heap.size = w2.heap.size + 1 := by simp
  have hs2 := hold.1
  have hne : sv.ownBlock ≠ some hb := fun e => by have := (ownsRow_block h.own e).1; omega
  have hggb : gg ≠ hb := by
    have := (ownsRow_block own4 (g := gg) rfl).1
    omega
  have heap4 : ∀ k, k < w2.heap.size → sv.ownBlock ≠ some k → k ≠ hb → (w4.setCell ⟨hb, 0, none⟩ (.slice (some ⟨gg, 0, none⟩) (es.length + 1) cap)).heap[k]? = w2.heap[k]? := fun k hk h1 h2 => by
    rw [setCell_other _ h2, grow.block k (by omega) (Ne.symm h1)]
    exact (Olds.alloc w2 O).2 k hk
  refine ⟨h.lo, ?_, ?_, ?_⟩
  · show (w4.setCell ⟨hb, 0, none⟩ _).heap[hb]? = _
    have h4 : w4.heap[hb]? = some (.cells #[sv] 76 (0, 0)) := by
      rw [grow.block hb (by omega) (Ne.symm hne), hold3.2 hb hbl]
      exact h.box
    simp [World.setCell, Array.getElem?_modify, h4]
  · obtain ⟨g1, g2⟩ := own4
    refine ⟨by simpa using g1, ?_⟩
    rcases g2 with ⟨e0, _⟩ | ⟨g', cap', cur, e0, k1, k2, k3, k4, k5, k6⟩
    · cases e0
    · simp only [Value.slice.injEq, Option.some.injEq, Addr.mk.injEq, true_and, and_true] at e0
      obtain ⟨rfl, rfl⟩ := e0
      refine .inr ⟨gg, cap, cur, by simp, k1, ?_, by simpa using k3, k4, k5, by simpa using k6⟩
      show (w4.setCell ⟨hb, 0, none⟩ _).heap[gg]? = _
      rw [setCell_other _ hggb]
      exact k2
  · intro e he
    rcases List.mem_append.1 he with he | he
    · obtain ⟨a1, a2, b, off, c, a3, a4, a5, a6, a7, a8⟩ := h.els e he
      have hbw : b < wr.heap.size := by
        cases hz : e.2 with
        | nil => exact absurd hz a1
        | cons z zs => exact cell_lt (a5 0 z (by rw [hz]; rfl))
      refine ⟨a1, a2, b, off, c, a3, a4, fun j z hz => ?_, a6, ?_, a8⟩
      · have := hold.cell (a5 j z hz)
        rw [← this]
        exact World.cell?_of_block (heap4 b (by omega) a7 a6)
      · intro e0
        simp only [Value.ownBlock, Option.some.injEq] at e0
        rcases hat with hat | hat
        · exact a7 (by rw [hat, e0])
        · omega
    · simp only [List.mem_singleton] at he
      subst he
      rcases ho2.cases with ⟨e1, e2⟩ | ⟨g2, cap2, e1, k1, k2, k3, k4, k5⟩
      · exact absurd e2 (norm_ne hx)
      · simp only [Value.slice.injEq, true_and] at e1
        obtain ⟨rfl, rfl⟩ := e1
        have hsv : sv.ownBlock ≠ some g2 := fun e => by have := (ownsRow_block h.own e).2; omega
        refine ⟨norm_ne hx, Nat.le_trans (norm_len x) hlen, g2, 0, c2, rfl, k3, fun j z hz => ?_, by omega, ?_, by omega⟩
        · have hj := (k5 j (by simpa using (List.getElem?_eq_some_iff.1 hz).1)).1
          rw [show (((w4.setCell ⟨hb, 0, none⟩ _).drewN q).cell? ⟨g2, 0 + j, none⟩) = w2.cell? ⟨g2, 0 + j, none⟩ from World.cell?_of_block (heap4 g2 k2 hsv (by omega)), hj]
          obtain ⟨hj', rfl⟩ := List.getElem?_eq_some_iff.1 hz
          simp [hj']
        · intro e0
          simp only [Value.ownBlock, Option.some.injEq] at e0
          rcases hat with hat | hat
          · have := (ownsRow_block h.own hat).2; omega
          · omega
end Go.Proofs.YthoboahfogpnfaaGreatDoor
namespace Go.Proofs.YthoboahfogpnfaaGreatDoor
open Go Go.RowKit Go.Sort Go.Lib

structure Merged (all : Int → Prop) (out : List Int) (es : List El) : Prop where
  sorted : out.Pairwise (· < ·)
  rows : ∀ e ∈ es, e.2.Pairwise (· < ·) ∧ e.2 ≠ []
  heap : HeapFrom kf 0 es.length es
  le : ∀ a ∈ out, ∀ e ∈ es, ∀ z ∈ e.2, a ≤ z
  mem : ∀ n, (n ∈ out ∨ ∃ e ∈ es, n ∈ e.2) ↔ all n


def push (out : List Int) (x : Int) : List Int := if out.getLast? = some x then out else out ++ [x]

theorem last_max {out : List Int} (h : out.Pairwise (· < ·)) {l : Int} (hl : out.getLast? = some l) : ∀ a ∈ out, a ≤ l := by
  intro a ha
  obtain ⟨pre, rfl⟩ := List.getLast?_eq_some_iff.1 hl
  rw [List.pairwise_append] at h
  rcases List.mem_append.1 ha with h1 | h1
  · have := h.2.2 a h1 l (by simp)
    omega
  · simp only [List.mem_singleton] at h1
    omega

theorem push_sorted {out : List Int} {x : Int} (h : out.Pairwise (· < ·)) (hle : ∀ a ∈ out, a ≤ x) : (push out x).Pairwise (· < ·) := by
  unfold push
  split
  · exact h
  · rename_i hl
    rw [List.pairwise_append]
    refine ⟨h, by simp, fun a ha b hb => ?_⟩
    simp only [List.mem_singleton] at hb
    subst hb
    have h1 := hle a ha
    rcases Int.lt_or_eq_of_le h1 with h2 | h2
    · exact h2
    · subst h2
      exfalso
      cases hlast : out.getLast? with
      | none => rw [List.getLast?_eq_none_iff] at hlast; subst hlast; cases ha
      | some l =>
        have h3 := last_max h hlast a ha
        have h4 := hle l (List.mem_of_getLast? hlast)
        have : l = a := by omega
        exact hl (by rw [hlast, this])

theorem mem_push {out : List Int} {x n : Int} : n ∈ push out x ↔ n ∈ out ∨ n = x := by
  unfold push
  split
  · rename_i hl
    constructor
    · exact .inl
    · rintro (h | rfl)
      · exact h
      · exact List.mem_of_getLast? hl
  · simp

theorem merge_least {es : List El} {e0 : El} {x : Int} {xs : List Int} (hr : ∀ e ∈ es, e.2.Pairwise (· < ·) ∧ e.2 ≠ []) (hh : HeapFrom kf 0 es.length es) (h0 : es[0]? = some e0) (hx : e0.2 = x :: xs) : ∀ e ∈ es, ∀ z ∈ e.2, x ≤ z := by
  intro e he z hz
  obtain ⟨c, hc, rfl⟩ := List.getElem_of_mem he
  have h1 := HeapFrom.top kf hh c hc
  rw [K_of kf h0, K_of kf (List.getElem?_eq_getElem hc)] at h1
  have h2 := (hr _ he).1
  unfold kf at h1
  rw [hx] at h1
  cases hz2 : es[c].2 with
  | nil => rw [hz2] at hz; cases hz
  | cons y ys =>
    rw [hz2] at h1 h2 hz
    simp only [List.headD_cons] at h1
    rcases List.mem_cons.1 hz with rfl | hz
    · exact h1
    · have := (List.pairwise_cons.1 h2).1 z hz
      omega


theorem Merged.step {all : Int → Prop} {out : List Int} {es es2 : List El} {e0 : El} {x : Int} {xs : List Int} (h : Merged all out es) (h0 : es[0]? = some e0) (hx : e0.2 = x :: xs)
    (hm : ∀ n, (∃ e ∈ es2, n ∈ e.2) ↔ (n ∈ xs ∨ ∃ c e, 1 ≤ c ∧ es[c]? = some e ∧ n ∈ e.2)) (hr : ∀ e ∈ es2, e.2.Pairwise (· < ·) ∧ e.2 ≠ []) (hh : HeapFrom kf 0 es2.length es2) : Merged all (push out x) es2 := by
  have he0 := List.mem_of_getElem? h0
  have hle := merge_least h.rows h.heap h0 hx
  have hsub : ∀ n, (∃ e ∈ es2, n ∈ e.2) → ∃ e ∈ es, n ∈ e.2 := fun n hn => by
    rcases (hm n).1 hn with h1 | ⟨c, e, _, h2, h3⟩
    · exact ⟨e0, he0, by rw [hx]; simp [h1]⟩
    · exact ⟨e, List.mem_of_getElem? h2, h3⟩
  refine ⟨push_sorted h.sorted fun a ha => h.le a ha e0 he0 x (by rw [hx]; simp), hr, hh, ?_, ?_⟩
  · intro a ha e he z hz
    obtain ⟨e', he', hz'⟩ := hsub z ⟨e, he, hz⟩
    rcases mem_push.1 ha with h1 | rfl
    · exact h.le a h1 e' he' z hz'
    · exact hle e' he' z hz'
  · intro n
    rw [← h.mem n, mem_push]
    constructor
    · rintro ((h1 | rfl) | h1)
      · exact .inl h1
      · exact .inr ⟨e0, he0, by rw [hx]; simp⟩
      · exact .inr (hsub n h1)
    · rintro (h1 | ⟨e, he, hn⟩)
      · exact .inl (.inl h1)
      · obtain ⟨c, hc, rfl⟩ := List.getElem_of_mem he
        cases c with
        | zero =>
          have : es[0] = e0 := by rw [List.getElem?_eq_getElem hc] at h0; exact Option.some.inj h0
          rw [this, hx] at hn
          rcases List.mem_cons.1 hn with rfl | hn
          · exact .inl (.inr rfl)
          · exact .inr ((hm n).2 (.inl hn))
        | succ c => exact .inr ((hm n).2 (.inr ⟨c + 1, _, by omega, List.getElem?_eq_getElem hc, hn⟩))

theorem set_mem {es : List El} {e0 e1 : El} (h0 : es[0]? = some e0) (n : Int) : (∃ e ∈ es.set 0 e1, n ∈ e.2) ↔ (n ∈ e1.2 ∨ ∃ c e, 1 ≤ c ∧ es[c]? = some e ∧ n ∈ e.2) := by
  cases es with
  | nil => simp at h0
  | cons a es =>
    simp only [List.set_cons_zero, List.mem_cons]
    constructor
    · rintro ⟨e, (rfl | he), hn⟩
      · exact .inl hn
      · obtain ⟨c, hc, rfl⟩ := List.getElem_of_mem he
        exact .inr ⟨c + 1, es[c], by omega, by simp [hc], hn⟩
    · rintro (h | ⟨c, e, h1, h2, h3⟩)
      · exact ⟨e1, .inl rfl, h⟩
      · cases c with
        | zero => omega
        | succ c => exact ⟨e, .inr (List.mem_of_getElem? (by simpa using h2)), h3⟩

theorem heap_set {es : List El} {e1 : El} (h : HeapFrom kf 0 es.length es) : HeapFrom kf 1 es.length (es.set 0 e1) := fun c h1 h2 h3 => by
  have := h c h1 h2 (by omega)
  unfold K at this ⊢
  rw [List.getElem?_set_ne (by omega), List.getElem?_set_ne (by omega)]
  exact this

theorem Merged.fix {all : Int → Prop} {out : List Int} {es es2 : List El} {e0 : El} {v : Value} {x y : Int} {ys : List Int} (h : Merged all out es) (h0 : es[0]? = some e0) (hx : e0.2 = x :: y :: ys) (hs : Sifted 0 es.length (es.set 0 (v, y :: ys)) es2) :
    Merged all (push out x) es2 := by
  obtain ⟨h1, h2, h3⟩ := hs
  have hl : es2.length = es.length := by rw [h1.length_eq, List.length_set]
  refine h.step h0 hx (fun n => ?_) (fun e he => ?_) (by rw [hl]; exact h3 (heap_set h.heap))
  · rw [← set_mem (e1 := (v, y :: ys)) h0 n]
    constructor
    · rintro ⟨e, he, hn⟩; exact ⟨e, h1.mem_iff.1 he, hn⟩
    · rintro ⟨e, he, hn⟩; exact ⟨e, h1.mem_iff.2 he, hn⟩
  · rcases List.mem_or_eq_of_mem_set (h1.mem_iff.1 he) with he | rfl
    · exact h.rows e he
    · have := (h.rows e0 (List.mem_of_getElem? h0)).1
      rw [hx] at this
      exact ⟨(List.pairwise_cons.1 this).2, by simp⟩

theorem Merged.pop {all : Int → Prop} {out : List Int} {es es2 : List El} {e0 : El} {v : Value} {x : Int} (h : Merged all out es) (h0 : es[0]? = some e0) (hx : e0.2 = [x]) (hs : Popped (es.set 0 (v, [])) es2) :
    Merged all (push out x) es2 := by
  obtain ⟨e1, he1, h1, h2⟩ := hs
  have hlt : 0 < es.length := (List.getElem?_eq_some_iff.1 h0).1
  rw [List.getElem?_set_self hlt] at he1
  cases he1
  have hp : es2.Perm es.tail := by
    cases es with
    | nil => simp at hlt
    | cons a es =>
      rw [List.set_cons_zero] at h1
      have := (List.perm_append_comm (l₁ := [((v, []) : El)]) (l₂ := es2)).trans h1
      exact (List.perm_cons _).1 this
  refine h.step h0 hx (fun n => ?_) (fun e he => ?_) (h2 (by rw [List.length_set]; exact heap_set h.heap))
  · constructor
    · rintro ⟨e, he, hn⟩
      have he := hp.mem_iff.1 he
      obtain ⟨c, hc, rfl⟩ := List.getElem_of_mem he
      exact .inr ⟨c + 1, _, by omega, by rw [List.getElem_tail]; exact List.getElem?_eq_getElem (by simp at hc; omega), hn⟩
    · rintro (hn | ⟨c, e, c1, c2, hn⟩)
      · cases hn
      · refine ⟨e, hp.mem_iff.2 ?_, hn⟩
        cases es with
        | nil => simp at c2
        | cons a es =>
          cases c with
          | zero => omega
          | succ c => exact List.mem_of_getElem? (by simpa using c2)
  · exact h.rows e (List.mem_of_mem_tail (hp.mem_iff.1 he))
end Go.Proofs.YthoboahfogpnfaaGreatDoor
namespace Go.Proofs.YthoboahfogpnfaaGreatDoor
open Go Go.RowKit Go.Sort Go.Lib


def Apart (ov : Value) (e : El) : Prop := ∀ b off n c, e.1 = .slice (some ⟨b, off, none⟩) n c → ov.ownBlock ≠ some b

structure Mg (w W : World) (hb g cap : Nat) (ov : Value) (out : List Int) (es : List El) : Prop where
  heap : HeapAt W hb g cap w.heap.size es
  own : Owns W w.heap.size ov out
  far : ov.ownBlock ≠ some hb ∧ ov.ownBlock ≠ some g ∧ ∀ e ∈ es, Apart ov e
  bel : Below w.heap.size w W

theorem Owns.ownBlock {w : World} {B : Nat} {v : Value} {zs : List Int} (h : Owns w B v zs) {k : Nat} (hk : v.ownBlock = some k) : B ≤ k ∧ k < w.heap.size := ownsRow_block h hk

theorem Owns.only {W W' : World} {hb g B : Nat} {ov : Value} {out : List Int} (h : Owns W B ov out) (ho : Only hb g W W') (h1 : ov.ownBlock ≠ some hb) (h2 : ov.ownBlock ≠ some g) : Owns W' B ov out := by
  obtain ⟨k1, k2⟩ := h
  refine ⟨k1, ?_⟩
  rcases k2 with k2 | ⟨b, cap, cur, e, hb', hg, h3⟩
  · exact .inl k2
  · subst e
    refine .inr ⟨b, cap, cur, rfl, hb', ?_, h3⟩
    rw [ho.block b (fun e => h1 (by rw [e]; rfl)) (fun e => h2 (by rw [e]; rfl))]
    exact hg


theorem Mg.heapOp {w W W' : World} {hb g cap : Nat} {ov : Value} {out : List Int} {es es' : List El} (h : Mg w W hb g cap ov out es) (h1 : HeapAt W' hb g cap w.heap.size es') (ho : Only hb g W W') (hs : ∀ e ∈ es', e ∈ es) : Mg w W' hb g cap ov out es' :=
  ⟨h1, h.own.only ho h.far.1 h.far.2.1, ⟨h.far.1, h.far.2.1, fun e he => h.far.2.2 e (hs e he)⟩, h.bel.trans (ho.below h.heap.lo.1 h.heap.lo.2.1)⟩


theorem HeapAt.cutFirst {W : World} {hb g cap B : Nat} {es : List El} (h : HeapAt W hb g cap B es) {e0 : El} (h0 : es[0]? = some e0) {v : Value} {xs : List Int} (hv : ElAt W hb g (v, xs)) (q : Nat) :
    HeapAt ((W.setCell ⟨g, 0, none⟩ v).drewN q) hb g cap B (es.set 0 (v, xs)) ∧ Only hb g W ((W.setCell ⟨g, 0, none⟩ v).drewN q) := by
  have hlt : 0 < es.length := (List.getElem?_eq_some_iff.1 h0).1
  have ho : Only hb g W ((W.setCell ⟨g, 0, none⟩ v).drewN q) := by
    refine ⟨rfl, rfl, rfl, by simp [World.setCell], fun k _ hk => ?_⟩
    simp only [World.heap_drewN, World.setCell, Array.getElem?_modify]
    rw [if_neg (by omega)]
  obtain ⟨arr, h1, h2, h3⟩ := h.row
  have hg : ((W.setCell ⟨g, 0, none⟩ v).drewN q).heap[g]? = some (.cells (arr.setIfInBounds 0 v) 22 (0, 0)) := by
    simp [World.heap_drewN, World.setCell, Array.getElem?_modify, h1]
  refine ⟨⟨h.lo, by rw [List.length_set]; exact h.fit, ?_, ⟨_, hg, by simp [h2], ?_⟩, ?_⟩, ho⟩
  · rw [List.length_set, ← h.box]
    simp only [World.heap_drewN, World.setCell, Array.getElem?_modify]
    rw [if_neg (fun e => h.lo.2.2 e.symm)]
  · rw [List.length_set, List.map_set, ← h3, Array.toList_setIfInBounds, List.take_set]
  · intro e he
    rcases List.mem_or_eq_of_mem_set he with he | rfl
    · exact (h.els e he).only ho
    · exact hv.only ho

theorem Mg.cutFirst {w W : World} {hb g cap : Nat} {ov : Value} {out : List Int} {es : List El} (h : Mg w W hb g cap ov out es) {e0 : El} (h0 : es[0]? = some e0) {v : Value} {xs : List Int} (hv : ElAt W hb g (v, xs)) (ha : Apart ov (v, xs)) (q : Nat) :
    Mg w ((W.setCell ⟨g, 0, none⟩ v).drewN q) hb g cap ov out (es.set 0 (v, xs)) := by
  obtain ⟨h1, ho⟩ := h.heap.cutFirst h0 hv q
  refine ⟨h1, h.own.only ho h.far.1 h.far.2.1, ⟨h.far.1, h.far.2.1, fun e he => ?_⟩, h.bel.trans (ho.below h.heap.lo.1 h.heap.lo.2.1)⟩
  rcases List.mem_or_eq_of_mem_set he with he | rfl
  · exact h.far.2.2 e he
  · exact ha


theorem Mg.append {w W W2 : World} {hb g cap gg cap2 : Nat} {ov : Value} {out : List Int} {es : List El} {O : Obj} {x : Int} (h : Mg w W hb g cap ov out es) (own : W2.ownsRow w.heap.size 3 1 (.slice (some ⟨gg, 0, none⟩) (out.length + 1) cap2) (out.length + 1) (out.map (Value.int .i64) ++ [.int .i64 x]))
    (grow : (W.alloc O).grownBy W2 ov.ownBlock) (hat : ov.ownBlock = some gg ∨ gg = W.heap.size + 1) (hne : ∀ e ∈ es, e.2 ≠ []) : Mg w W2 hb g cap (.slice (some ⟨gg, 0, none⟩) (out.length + 1) cap2) (out ++ [x]) es := by
  have hs : (W.alloc O).heap.size = W.heap.size + 1 := by simp
  have keep : ∀ k, k < W.heap.size → ov.ownBlock ≠ some k → W2.heap[k]? = W.heap[k]? := fun k hk hne => by
    rw [grow.block k (by omega) (Ne.symm hne)]
    exact (Olds.alloc W O).2 k hk
  have hbl : hb < W.heap.size := cell_lt h.heap.boxCell
  have hgl : g < W.heap.size := by
    obtain ⟨arr, h1, _⟩ := h.heap.row
    rcases Nat.lt_or_ge g W.heap.size with h2 | h2
    · exact h2
    · rw [Array.getElem?_eq_none h2] at h1; cases h1
  have hnew : ∀ k, k < W.heap.size → ov.ownBlock ≠ some k → (Value.slice (some ⟨gg, 0, none⟩) (out.length + 1) cap2).ownBlock ≠ some k := fun k hk hne e => by
    simp only [Value.ownBlock, Option.some.injEq] at e
    rcases hat with hat | hat
    · exact hne (by rw [hat, e])
    · omega
  have hel : ∀ e ∈ es, ∀ b off c n, e.1 = .slice (some ⟨b, off, none⟩) n c → e.2 ≠ [] → b < W.heap.size := fun e he b off c n e1 hne => by
    obtain ⟨b', off', c', a1, _, a3, _⟩ := (h.heap.els e he).at_
    rw [e1] at a1
    simp only [Value.slice.injEq, Option.some.injEq, Addr.mk.injEq, and_true] at a1
    obtain ⟨⟨rfl, rfl⟩, _, _⟩ := a1
    cases hz : e.2 with
    | nil => exact absurd hz hne
    | cons z zs => exact cell_lt (a3 0 z (by rw [hz]; rfl))
  refine ⟨⟨h.heap.lo, h.heap.fit, ?_, ?_, fun e he => ?_⟩, ?_, ⟨hnew hb hbl h.far.1, hnew g hgl h.far.2.1, fun e he b off n c e1 => ?_⟩, ?_⟩
  · rw [keep hb hbl h.far.1]; exact h.heap.box
  · rw [keep g hgl h.far.2.1]; exact h.heap.row
  · obtain ⟨b, off, c, a1, a2, a3, a4, a5⟩ := (h.heap.els e he).at_
    refine ⟨(h.heap.els e he).len, b, off, c, a1, a2, fun j z hz => ?_, a4, a5⟩
    rw [← a3 j z hz]
    exact World.cell?_of_block (keep b (hel e he b off c _ a1 (hne e he)) (h.far.2.2 e he b off _ c a1))
  · have := own
    unfold Owns
    rw [List.length_append, List.map_append]
    exact this
  · exact hnew b (hel e he b off c n e1 (hne e he)) (h.far.2.2 e he b off n c e1)
  · exact (h.bel.alloc (h.bel.size) _).grown grow (by have := h.bel.size; omega) (fun k hk => (ownsRow_block h.own hk).1)
end Go.Proofs.YthoboahfogpnfaaGreatDoor
namespace Go.Proofs.YthoboahfogpnfaaGreatDoor
open Go Go.RowKit Go.Sort Go.Lib

theorem rowH_heap {W : World} {hb B : Nat} {sv : Value} {es : List El} (h : RowH W hb B sv es) (hne : es ≠ []) : ∃ g cap, sv = .slice (some ⟨g, 0, none⟩) es.length cap ∧ HeapAt W hb g cap B es := by
  have hlen : es.length ≠ 0 := fun e => hne (List.eq_nil_of_length_eq_zero e)
  obtain ⟨h1, h2⟩ := h.own
  rcases h2 with ⟨_, h3⟩ | ⟨g, cap, cur, rfl, k1, k2, k3, k4, k5, k6⟩
  · exact absurd h3 hlen
  · refine ⟨g, cap, rfl, ⟨h.lo, by have := h.lo; omega, by omega⟩, ⟨k3, k4⟩, h.box, ⟨cur, k2, by simpa using k5, by simpa using k6⟩, fun e he => ?_⟩
    obtain ⟨a1, a2, b, off, c, a3, a4, a5, a6, a7, a8⟩ := h.els e he
    exact ⟨a2, b, off, c, a3, a4, a5, a6, fun e0 => a7 (by rw [e0]; rfl)⟩

theorem rowH_nil {W : World} {hb B : Nat} {sv : Value} (h : RowH W hb B sv []) : ∃ o c, sv = .slice o 0 c := by
  obtain ⟨h1, h2⟩ := h.own
  rcases h2 with ⟨rfl, h3⟩ | ⟨g, cap, cur, rfl, _⟩
  · exact ⟨none, 0, rfl⟩
  · exact ⟨_, cap, rfl⟩

theorem gath_mem {L : List (List Int)} {zs : List Int} : zs ∈ gath L ↔ ∃ x ∈ L, x ≠ [] ∧ norm x = zs := by
  unfold gath
  rw [List.mem_filterMap]
  constructor
  · rintro ⟨x, hx, h⟩
    split at h
    · cases h
    · rename_i hne; exact ⟨x, hx, hne, Option.some.inj h⟩
  · rintro ⟨x, hx, hne, rfl⟩
    exact ⟨x, hx, by rw [if_neg hne]⟩

def anyOf (L : List (List Int)) (n : Int) : Prop := ∃ zs ∈ L, n ∈ zs

theorem merged_start {L : List (List Int)} {es es' : List El} (hm : es.map (·.2) = gath L) (hp : es'.Perm es) (hh : HeapFrom kf 0 es.length es') : Merged (anyOf L) [] es' := by
  have hin : ∀ e ∈ es', e.2 ∈ gath L := fun e he => by rw [← hm]; exact List.mem_map_of_mem (hp.mem_iff.1 he)
  refine ⟨List.Pairwise.nil, fun e he => ?_, (by rw [hp.length_eq]; exact hh), (fun a ha => by cases ha), fun n => ?_⟩
  · obtain ⟨x, _, hne, e1⟩ := gath_mem.1 (hin e he)
    rw [← e1]
    exact ⟨norm_sorted x, norm_ne hne⟩
  · constructor
    · rintro (h | ⟨e, he, hn⟩)
      · cases h
      · obtain ⟨x, hx, _, e1⟩ := gath_mem.1 (hin e he)
        rw [← e1] at hn
        exact ⟨x, hx, mem_norm.1 hn⟩
    · rintro ⟨x, hx, hn⟩
      right
      have hne : x ≠ [] := by rintro rfl; cases hn
      have : norm x ∈ es.map (·.2) := by rw [hm]; exact gath_mem.2 ⟨x, hx, hne, rfl⟩
      obtain ⟨e, he, e1⟩ := List.mem_map.1 this
      exact ⟨e, hp.mem_iff.2 he, by rw [e1]; exact mem_norm.2 hn⟩

def total (es : List El) : Nat := (es.map (·.2.length)).sum
theorem total_perm {es es' : List El} (h : es'.Perm es) : total es' = total es := (h.map _).sum_nat
theorem total_set {es : List El} {e0 : El} {v : Value} {x : Int} {xs : List Int} (h0 : es[0]? = some e0) (hx : e0.2 = x :: xs) : total (es.set 0 (v, xs)) + 1 = total es := by
  cases es with
  | nil => simp at h0
  | cons a es =>
    simp only [List.getElem?_cons_zero, Option.some.injEq] at h0
    subst h0
    simp only [total, List.set_cons_zero, List.map_cons, List.sum_cons, hx, List.length_cons]
    omega
theorem total_popped {es es2 : List El} (h : Popped es es2) : total es2 ≤ total es := by
  obtain ⟨e0, _, h1, _⟩ := h
  have := total_perm h1
  simp only [total, List.map_append, List.sum_append] at this ⊢
  omega


theorem rising_eq {a b : List Int} (ha : a.Pairwise (· < ·)) (hb : b.Pairwise (· < ·)) (h : ∀ n, n ∈ a ↔ n ∈ b) : a = b := by
  have h1 : a.Nodup := ha.imp fun h => by omega
  have h2 : b.Nodup := hb.imp fun h => by omega
  have hp : a.Perm b := (List.perm_ext_iff_of_nodup h1 h2).2 h
  exact hp.eq_of_pairwise (fun x y _ _ k1 k2 => by omega) ha hb

def orL (L : List (List Int)) : List Int := norm L.flatten
theorem merged_end {L : List (List Int)} {out : List Int} (h : Merged (anyOf L) out []) : out = orL L := by
  refine rising_eq h.sorted (norm_sorted _) fun n => ?_
  unfold orL
  rw [mem_norm, List.mem_flatten]
  have := h.mem n
  simp only [List.not_mem_nil, false_and, exists_false, or_false] at this
  exact this

theorem nodup_len : ∀ (a b : List Int), a.Nodup → (∀ n ∈ a, n ∈ b) → a.length ≤ b.length
  | [], b, _, _ => Nat.zero_le _
  | x :: a, b, h, hs => by
    obtain ⟨h1, h2⟩ := List.nodup_cons.1 h
    have hx : x ∈ b := hs x (by simp)
    have h3 := nodup_len a (b.erase x) h2 fun n hn => (List.mem_erase_of_ne (fun (e : n = x) => h1 (by rw [← e]; exact hn))).2 (hs n (by simp [hn]))
    rw [List.length_erase_of_mem hx] at h3
    have := List.length_pos_of_mem hx
    simp only [List.length_cons]
    omega

theorem out_len {L : List (List Int)} {out : List Int} {es : List El} (h : Merged (anyOf L) out es) : out.length ≤ L.flatten.length :=
  nodup_len _ _ (h.sorted.imp fun h => by omega) fun n hn => by
    obtain ⟨zs, hz, hn⟩ := (h.mem n).1 (.inl hn)
    exact List.mem_flatten.2 ⟨zs, hz, hn⟩

set_option maxRecDepth 20000 in
set_option maxHeartbeats 400000 in
theorem init_empty {hb c : Nat} {o : Option Addr} (W : World) (hc : W.cell? ⟨hb, 0, none⟩ = some (.slice o 0 c)) :
    Calls Tryz.prog 24 #[.iface 78 (.pointer (some ⟨hb, 0, none⟩))] W fun e W' => e = .returned (.tuple #[]) ∧ W = W' := by
  have m1 := fun w => meth_len ⟨hb, 0, none⟩ (.slice o 0 c) w
  go_enter Tryz.func24, Tryz.ntmps24
  go_wp2_with fail
  refine (len_at _ _ _ _).mono ?_
  rintro e w' ⟨rfl, rfl⟩
  go_wp2_with fail
  go_loop [3] (fun i => i = .int .i64 (-1)) (fun _ => 0)
  case atStart => rfl
  case round =>
    obtain rfl := hrel
    go_wp2_with fail
    go_end0
    exact ⟨rfl, rfl⟩
end Go.Proofs.YthoboahfogpnfaaGreatDoor
