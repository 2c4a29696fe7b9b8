/- Contracts over this program. Their conditions: the slices read as the lists that are named, and lie within the sizes that are named. -/
import Derived.Test.YtaoggppfimfhbaaGreatDoorNa
import Derived.Maps.AppendAt
import Derived.Sort.Walk0
import Derived.Test.YtaoggppfimfhbaaGreatDoorIx
import Derived.Deep.RegionWith
import Derived.Deep.CutRange
import Derived.Lib.AppendStr
import Derived.Test.YtaoggppfimfhbaaGreatDoorNb
set_option linter.unusedSimpArgs false
set_option linter.unusedVariables false
set_option linter.deprecated false
set_option linter.unnecessarySimpa false
namespace Go.Proofs.YtaoggppfimfhbaaGreatDoor
open Go Go.RowKit Go.Ix

section
variable {T e : TypeId} {z : Value} {size bytes : Nat}

theorem run_append_nilG (hT : Tryz.prog.underlying T = some (.slice e)) (hs : ∀ W : World, (sizeOf e).run Tryz.prog W = .ok size W) (base : Option Addr) (l c : Nat) (h : l ≤ c) (ty : TypeId) (W : World) :
    (Builtin.append_ #[T, T] ty #[.slice base l c, .slice none 0 0]).run Tryz.prog W = .ok (.slice base l c) W := by
  have hu : (underlying T).run Tryz.prog W = .ok (.slice e) W := run_underlying hT W
  have hs := hs W
  cases base with
  | none => simp [Builtin.append_, bind, pure, Sem.run_bind', hu, hs, Sem.run, Builtin.lenOf, Builtin.firstCells, h, Sem.bind]
  | some a => simp [Builtin.append_, bind, pure, Sem.run_bind', hu, hs, Sem.run, Builtin.lenOf, Builtin.firstCells, h, storeCells, Sem.bind]

theorem run_append_flat (hT : Tryz.prog.underlying T = some (.slice e)) (hs : ∀ W : World, (sizeOf e).run Tryz.prog W = .ok size W) {i : TypeInfo} (hi : Tryz.prog.info? e = some i) (hz : i.zero = some z) (hsize : i.size = size) (hby : i.bytes = bytes) (hzs : z.cells.size = size) (hsz : 0 < size) (hb1 : 1 ≤ bytes)
    {W : World} {B n m : Nat} {v u : Value} {xs ys : List Value} (hown : W.ownsRow B e size v n xs) (hB : B ≤ W.heap.size) (hu : FlatAt W u m ys) (hm : ys.length = m * size) (h1 : ∀ x ∈ ys, x.oneCell' = true) (hbytes : (n + m) * bytes ≤ 140737488355328) (ty : TypeId) :
    ∃ v' w', (Builtin.append_ #[T, T] ty #[v, u]).run Tryz.prog W = .ok v' w' ∧ w'.ownsRow B e size v' (n + m) (xs ++ ys) ∧ W.grownBy w' v.ownBlock ∧ (v'.ownBlock = v.ownBlock ∨ v'.ownBlock = some W.heap.size) := by
  have hmax : n + m ≤ maxLen := by
    have : n + m ≤ (n + m) * bytes := Nat.le_mul_of_pos_right _ hb1
    unfold maxLen
    omega
  rcases hu.cases with ⟨o, c, rfl, rfl, h0⟩ | ⟨b, off, c, rfl, hne, hc⟩
  · have hm0 : m = 0 := by
      rcases Nat.eq_zero_or_pos m with h | h
      · exact h
      · have := Nat.mul_pos h hsz
        simp at hm
        omega
    subst hm0
    cases o with
    | none =>
      obtain rfl := h0 rfl
      obtain ⟨o, c, rfl, _⟩ := ownsRow_shape hown
      have hlc : n ≤ c := by
        rcases hown.2 with ⟨e, h⟩ | ⟨g, cap, cur, e, _, _, h, _⟩
        · omega
        · simp only [Value.slice.injEq] at e
          omega
      exact ⟨_, W, run_append_nilG hT hs o n c hlc ty W, by rw [List.append_nil]; exact hown, ⟨rfl, rfl, rfl, Nat.le_refl _, fun _ _ _ => rfl⟩, .inl rfl⟩
    | some a =>
      obtain ⟨v', w', h1, h2, h3, _, h5⟩ := run_append_own_at (P := Tryz.prog) W B T ty e i z size bytes hT hi hz hsize hby hzs hsz v n xs hown a 0 c [] (by simp) (fun j u h => by simp at h) (fun u h => by simp at h) hmax hbytes hB
      exact ⟨v', w', h1, h2, h3, h5⟩
  · obtain ⟨v', w', h1, h2, h3, _, h5⟩ := run_append_own_at (P := Tryz.prog) W B T ty e i z size bytes hT hi hz hsize hby hzs hsz v n xs hown ⟨b, off, none⟩ m c ys hm (fun j x hx => by
      have := hc j x hx
      rw [show (⟨b, off, none⟩ : Addr).add j = ⟨b, off + j, none⟩ by simp [Addr.add]]
      exact this) h1 hmax hbytes hB
    exact ⟨v', w', h1, h2, h3, h5⟩

theorem wpList_append_flat {ops : Array Oper} {rest : List Oper} {o : Oper} {a : Act} {Q : Exit → Act → World → Prop} {W : World} (hgd : o.guard = none) (s x : Operand)
    (ho : o.op = .call { callee := .builtin .append, args := #[s, x], argTypes := #[T, T] })
    (hT : Tryz.prog.underlying T = some (.slice e)) (hs : ∀ W : World, (sizeOf e).run Tryz.prog W = .ok size W) {i : TypeInfo} (hi : Tryz.prog.info? e = some i) (hz : i.zero = some z) (hsize : i.size = size) (hby : i.bytes = bytes) (hzs : z.cells.size = size) (hsz : 0 < size) (hb1 : 1 ≤ bytes)
    (B n m : Nat) (v u : Value) (xs ys : List Value) (hsv : a.eval s = v) (hxv : a.eval x = u) (hown : W.ownsRow B e size v n xs) (hB : B ≤ W.heap.size) (hu : FlatAt W u m ys) (hm : ys.length = m * size) (h1 : ∀ x ∈ ys, x.oneCell' = true)
    (hbytes : (n + m) * bytes ≤ 140737488355328)
    (h : ∀ v' w', w'.ownsRow B e size v' (n + m) (xs ++ ys) → W.grownBy w' v.ownBlock → (v'.ownBlock = v.ownBlock ∨ v'.ownBlock = some W.heap.size) → wpList Tryz.prog ops Q rest (a.put o.dst v') w') : wpList Tryz.prog ops Q (o :: rest) a W :=
  wpList_plain hgd fun K hK => by
    obtain ⟨v', w', hr, h2, h3, h4⟩ := run_append_flat hT hs hi hz hsize hby hzs hsz hb1 hown hB hu hm h1 hbytes o.type
    unfold Oper.wp execOp
    simp only [ho, resolve, invoke, builtin, Sem.run_bind, Sem.run_pure, Result.andThen_ok, List.map_toArray, List.map_cons, List.map_nil, hsv, hxv, hr]
    exact hK _ _ (h v' w' h2 h3 h4)
end


def RowT (w : World) (B : Nat) (v : Value) (l : List Txt) : Prop := w.ownsRow B 9 1 v l.length (l.map encStr)
theorem Tryz.info9 : (Tryz.prog.info? 9).map (fun i => (i.zero, i.size, i.bytes)) = some (some (encStr []), 1, 16) := by kernel_rfl
theorem size9 (W : World) : (sizeOf 9).run Tryz.prog W = .ok 1 W := by kernel_rfl
theorem size5 (W : World) : (sizeOf 5).run Tryz.prog W = .ok 1 W := by kernel_rfl
theorem size3 (W : World) : (sizeOf 3).run Tryz.prog W = .ok 1 W := by kernel_rfl
theorem size84 (W : World) : (sizeOf 84).run Tryz.prog W = .ok 2 W := by kernel_rfl
theorem size107 (W : World) : (sizeOf 107).run Tryz.prog W = .ok 5 W := by kernel_rfl
theorem one_txt {l : List Txt} : ∀ x ∈ l.map encStr, x.oneCell' = true := by
  intro x hx
  obtain ⟨y, _, rfl⟩ := List.mem_map.1 hx
  simp [Value.oneCell']
theorem one_octs {l : List Nat} : ∀ x ∈ octs l, x.oneCell' = true := by
  intro x hx
  unfold octs at hx
  obtain ⟨y, _, rfl⟩ := List.mem_map.1 hx
  simp [Value.oneCell']


theorem owns_take {w : World} {B e n c j : Nat} {o : Option Addr} {xs : List Value} (h : w.ownsRow B e 1 (.slice o n c) n xs) (hj : j ≤ n) : FlatAt w (.slice o j c) j (xs.take j) := by
  rcases h.2 with ⟨e, h0⟩ | ⟨g, cap, cur, e, _⟩
  · simp only [Value.slice.injEq] at e
    obtain ⟨rfl, _, rfl⟩ := e
    subst h0
    obtain rfl : j = 0 := by omega
    exact ⟨none, 0, rfl, fun _ => rfl, fun h => absurd (List.take_zero) h⟩
  · simp only [Value.slice.injEq] at e
    obtain ⟨rfl, _, rfl⟩ := e
    refine ⟨_, _, rfl, (fun h => by cases h), fun _ => ⟨g, 0, rfl, fun i v hv => ?_⟩⟩
    have hij := (List.getElem?_eq_some_iff.1 hv).1
    rw [List.length_take] at hij
    rw [List.getElem?_take_of_lt (by omega)] at hv
    exact ownsRow_cell h i v hv
theorem owns_drop {w : World} {B e n c j g : Nat} {xs : List Value} (h : w.ownsRow B e 1 (.slice (some ⟨g, 0, none⟩) n c) n xs) (_hj : j ≤ n) : FlatAt w (.slice (some ⟨g, j, none⟩) (n - j) (c - j)) (n - j) (xs.drop j) := by
  refine ⟨_, _, rfl, (fun h => by cases h), fun _ => ⟨g, j, rfl, fun i v hv => ?_⟩⟩
  rw [List.getElem?_drop] at hv
  have := ownsRow_cell h _ v hv
  rwa [Nat.zero_add] at this
theorem owns_flat {w : World} {B e n c : Nat} {o : Option Addr} {xs : List Value} (h : w.ownsRow B e 1 (.slice o n c) n xs) : FlatAt w (.slice o n c) n xs := by
  have := owns_take h (Nat.le_refl n)
  rwa [List.take_of_length_le (by rw [h.1]; omega)] at this
end Go.Proofs.YtaoggppfimfhbaaGreatDoor
namespace Go.Proofs.YtaoggppfimfhbaaGreatDoor
open Go Go.RowKit Go.Ix

theorem less_yes' {a b : Txt} (h : a < b) : Op.bytesLess a b = true := by rw [bytesLess_eq]; exact decide_eq_true h
theorem less_no' {a b : Txt} (h : ¬ a < b) : Op.bytesLess a b = false := by rw [bytesLess_eq]; exact decide_eq_false h

set_option maxRecDepth 20000 in
set_option maxHeartbeats 2000000 in
theorem text_nil (w : World) (B : Nat) (s : Txt) (hB : B ≤ w.heap.size) : Calls Tryz.prog 94 #[.slice none 0 0, encStr s] w fun e w' => ∃ v', e = .returned v' ∧ RowT w' B v' [s] ∧ Below w.heap.size w w' := by
  obtain ⟨i0, hi0, hz0, hz1, hz2⟩ := info_parts Tryz.info9
  go_enter Tryz.func94, Tryz.ntmps94
  go_wp2_with fail
  go_loop [5] (fun jv => jv = .int .i64 0) (fun _ => 0)
  case atStart => rfl
  case round =>
    obtain rfl := hrel
    go_wp2_with (first
      | (at_builtin; refine wpList_append_lies _ rfl _ _ _ rfl w.heap.size 9 i0 _ 1 16 Tryz.underlying90 hi0 hz0 hz1 hz2 rfl Nat.one_pos (.slice none 0 0) 0 [] rfl (World.ownsRow_nil _ _ _ _) ⟨w.heap.size, 0, none⟩ 1 1 [encStr s] rfl rfl (World.news_of_block (cs := #[encStr s]) (t := 9) (fr := (0, 0)) (heap_alloc_new w _)) (by simp [Value.oneCell']) Nat.one_pos (by unfold maxLen; omega) (by omega) (by simp) (w.heap.size + 1) (by simp) ?_; intro gg cap2 w4 hown4 hgrow hat hlt4; have hcap : 1 ≤ cap2 := (by rcases hown4.2 with ⟨e, _⟩ | ⟨_, _, _, e, _, _, h, _⟩; cases e; simp only [Value.slice.injEq, true_and] at e; omega); have Hown4 := Lib.hid hown4; have B4 := Lib.hid (((Below.refl w.heap.size w).alloc (Nat.le_refl _) _).grown hgrow (by simp) (fun k hk => by cases hk)); clear hown4 hgrow hat))
    go_ret
    exact ⟨_, rfl, ownsRow_mono Hown4.out hB, B4.out⟩

theorem owned_at {w : World} {B g n c : Nat} {l : List Txt} (h : w.ownsRow B 9 1 (.slice (some ⟨g, 0, none⟩) n c) n (l.map encStr)) {j : Nat} {y : Txt} (hy : l[j]? = some y) : w.cell? ⟨g, j, none⟩ = some (encStr y) := by
  have := ownsRow_cell h j (encStr y) (by rw [List.getElem?_map, hy]; rfl)
  rwa [Nat.zero_add] at this

set_option maxRecDepth 20000 in
set_option maxHeartbeats 4000000 in
theorem text_some {w : World} {B g n c : Nat} {l : List Txt} (s : Txt) (h : w.ownsRow B 9 1 (.slice (some ⟨g, 0, none⟩) n c) n (l.map encStr)) (hln : l.length = n) (hB : B ≤ w.heap.size) (hr : Rising l) (hl : n ≤ 1000000) :
    Calls Tryz.prog 94 #[.slice (some ⟨g, 0, none⟩) n c, encStr s] w fun e w' => ∃ v', e = .returned v' ∧ RowT w' B v' (put l s) ∧ Below w.heap.size w w' := by
  obtain ⟨i0, hi0, hz0, hz1, hz2⟩ := info_parts Tryz.info9
  have hcap : n ≤ c := by
    rcases h.2 with ⟨e, _⟩ | ⟨_, _, _, e, _, _, h, _⟩
    · cases e
    · simp only [Value.slice.injEq] at e
      omega
  have H := Lib.hid h
  have Hr := Lib.hid hr
  have Hn := Lib.hid hln
  clear h hr hln
  go_enter Tryz.func94, Tryz.ntmps94
  go_wp2_with fail
  go_loop [5] (fun jv => ∃ j : Nat, j ≤ n ∧ jv = .int .i64 j ∧ ∀ z ∈ l.take j, z < s) (fun jv => n - (intOf jv).toNat)
  case atStart => exact ⟨0, Nat.zero_le _, rfl, by simp⟩
  case round =>
    obtain ⟨j, hj, rfl, hlow⟩ := hrel
    have Hlow := Lib.hid hlow
    clear hlow
    have etk : (l.take j).length = j := by rw [List.length_take, Hn.out]; omega
    have Htk := Lib.hid etk
    clear etk
    by_cases hjn : j < n
    · obtain ⟨y, hy⟩ : ∃ y, l[j]? = some y := ⟨_, List.getElem?_eq_getElem (by rw [Hn.out]; exact hjn)⟩
      have hcy := owned_at H.out hy
      have Hy := Lib.hid hy
      clear hy
      by_cases hlt : y < s
      · have hb := less_yes' hlt
        have Hlt := Lib.hid hlt
        clear hlt
        go_wp2_with fail
        go_round
        case rel => exact ⟨j + 1, by omega, by go_num, take_step Hlow.out Hy.out Hlt.out⟩
        case measure => simp [intOf]; omega
      · have hb := less_no' hlt
        by_cases he : y = s
        · have hbe : (y == s) = true := by simpa using he
          have Hput : Hid (put l s = l) := Lib.hid (put_in (he ▸ List.mem_of_getElem? Hy.out))
          clear hlt he
          go_wp2_with fail
          go_ret
          refine ⟨_, rfl, ?_, Below.refl _ _⟩
          rw [Hput.out]
          unfold RowT
          rw [Hn.out]
          exact H.out
        · have hbe : (y == s) = false := by simpa using he
          have Hput : Hid (put l s = (l.take j ++ [s]) ++ l.drop j) := Lib.hid (put_new Hr.out Hlow.out (fun z hz => by
            rw [Hy.out] at hz
            cases hz
            rcases Line.tri (α := Txt) y s with h | h | h
            · exact absurd h hlt
            · exact absurd h he
            · exact h))
          clear hlt he
          have hjc : ¬ c = j := by omega
          have hjc2 : j ≤ c := by omega
          go_wp2_with (first
            | (at_builtin; refine wpList_append_flat rfl _ _ rfl Tryz.underlying90 size9 hi0 hz0 hz1 hz2 rfl Nat.one_pos (by decide) w.heap.size 0 j (.slice none 0 0) (.slice (some ⟨g, 0, none⟩) j c) [] ((l.map encStr).take j) rfl rfl (World.ownsRow_nil _ _ _ _) (Nat.le_refl _) (owns_take H.out hj) (by rw [List.length_take, List.length_map, Hn.out]; omega) (fun x hx => one_txt x (List.mem_of_mem_take hx)) (by omega) ?_; intro v1 w1 hown1 hgrow1 hat1; rw [Nat.zero_add, List.nil_append] at hown1; obtain ⟨o1, c1, rfl, _⟩ := ownsRow_shape hown1; have Hown1 := Lib.hid hown1; have B1 : Hid (Below w.heap.size w w1) := Lib.hid ((Below.refl _ w).grown hgrow1 (Nat.le_refl _) (fun k hk => by cases hk)); have Hat1 : Hid (∀ b, (Value.slice o1 j c1).ownBlock = some b → w.heap.size ≤ b) := Lib.hid (fun b hb => (ownsRow_block Hown1.out hb).1); have hs1 : w.heap.size ≤ w1.heap.size := B1.out.size; clear hown1 hgrow1 hat1)
            | (at_builtin; refine wpList_append_lies _ rfl _ _ _ rfl w.heap.size 9 i0 _ 1 16 Tryz.underlying90 hi0 hz0 hz1 hz2 rfl Nat.one_pos (.slice o1 j c1) j ((l.map encStr).take j) rfl (ownsRow_olds Hown1.out (Olds.alloc _ _)) ⟨w1.heap.size, 0, none⟩ 1 1 [encStr s] rfl rfl (World.news_of_block (cs := #[encStr s]) (t := 9) (fr := (0, 0)) (heap_alloc_new w1 _)) (by simp [Value.oneCell']) Nat.one_pos (by unfold maxLen; omega) (by omega) (by simp; omega) (w1.heap.size + 1) (by simp) ?_; intro gg cap2 w2 hown2 hgrow2 hat2 hlt2; have Hown2 := Lib.hid hown2; have B2 : Hid (Below w.heap.size w w2) := Lib.hid ((B1.out.alloc hs1 _).grown hgrow2 (by simp; omega) (fun b hb => Hat1.out b hb)); have hs2 : w.heap.size ≤ w2.heap.size := B2.out.size; have hgg : w.heap.size ≤ gg := (ownsRow_block Hown2.out (g := gg) rfl).1; clear hown2 hgrow2 hat2)
            | (at_builtin; refine wpList_append_flat rfl _ _ rfl Tryz.underlying90 size9 hi0 hz0 hz1 hz2 rfl Nat.one_pos (by decide) w.heap.size (j + 1) (n - j) (.slice (some ⟨gg, 0, none⟩) (j + 1) cap2) (.slice (some ⟨g, j, none⟩) (n - j) (c - j)) ((l.map encStr).take j ++ [encStr s]) ((l.map encStr).drop j) rfl rfl Hown2.out hs2 ((owns_drop H.out hj).olds (Olds.of_below B2.out)) (by rw [List.length_drop, List.length_map, Hn.out]; omega) (fun x hx => one_txt x (List.mem_of_mem_drop hx)) (by omega) ?_; intro v3 w3 hown3 hgrow3 hat3; have Hown3 := Lib.hid hown3; have B3 : Hid (Below w.heap.size w w3) := Lib.hid (B2.out.grown hgrow3 hs2 (fun b hb => by cases hb; exact hgg)); clear hown3 hgrow3 hat3))
          go_ret
          refine ⟨_, rfl, ?_, B3.out⟩
          rw [Hput.out]
          unfold RowT
          have h9 := Hown3.out
          rw [← List.map_take, ← List.map_drop] at h9
          rw [List.length_append, List.length_append, Htk.out, List.length_drop, Hn.out, List.map_append, List.map_append]
          exact ownsRow_mono h9 hB
    · obtain rfl : j = n := by omega
      have Hput : Hid (put l s = l ++ [s]) := Lib.hid (by
        have := put_new (k := l.length) Hr.out (by rw [Hn.out]; exact Hlow.out) (fun z hz => by rw [List.getElem?_eq_none (Nat.le_refl _)] at hz; cases hz)
        rwa [List.take_length, List.drop_length, List.append_nil] at this)
      by_cases hcj : c = j
      · subst hcj
        go_wp2_with (first
          | (at_builtin; refine wpList_append_flat rfl _ _ rfl Tryz.underlying90 size9 hi0 hz0 hz1 hz2 rfl Nat.one_pos (by decide) w.heap.size 0 c (.slice none 0 0) (.slice (some ⟨g, 0, none⟩) c c) [] ((l.map encStr).take c) rfl rfl (World.ownsRow_nil _ _ _ _) (Nat.le_refl _) (owns_take H.out hj) (by rw [List.length_take, List.length_map, Hn.out]; omega) (fun x hx => one_txt x (List.mem_of_mem_take hx)) (by omega) ?_; intro v1 w1 hown1 hgrow1 hat1; rw [Nat.zero_add, List.nil_append] at hown1; obtain ⟨o1, c1, rfl, _⟩ := ownsRow_shape hown1; have Hown1 := Lib.hid hown1; have B1 : Hid (Below w.heap.size w w1) := Lib.hid ((Below.refl _ w).grown hgrow1 (Nat.le_refl _) (fun k hk => by cases hk)); have Hat1 : Hid (∀ b, (Value.slice o1 c c1).ownBlock = some b → w.heap.size ≤ b) := Lib.hid (fun b hb => (ownsRow_block Hown1.out hb).1); have hs1 : w.heap.size ≤ w1.heap.size := B1.out.size; clear hown1 hgrow1 hat1)
          | (at_builtin; refine wpList_append_lies _ rfl _ _ _ rfl w.heap.size 9 i0 _ 1 16 Tryz.underlying90 hi0 hz0 hz1 hz2 rfl Nat.one_pos (.slice o1 c c1) c ((l.map encStr).take c) rfl (ownsRow_olds Hown1.out (Olds.alloc _ _)) ⟨w1.heap.size, 0, none⟩ 1 1 [encStr s] rfl rfl (World.news_of_block (cs := #[encStr s]) (t := 9) (fr := (0, 0)) (heap_alloc_new w1 _)) (by simp [Value.oneCell']) Nat.one_pos (by unfold maxLen; omega) (by omega) (by simp; omega) (w1.heap.size + 1) (by simp) ?_; intro gg cap2 w2 hown2 hgrow2 hat2 hlt2; have Hown2 := Lib.hid hown2; have B2 : Hid (Below w.heap.size w w2) := Lib.hid ((B1.out.alloc hs1 _).grown hgrow2 (by simp; omega) (fun b hb => Hat1.out b hb)); have hs2 : w.heap.size ≤ w2.heap.size := B2.out.size; have hgg : w.heap.size ≤ gg := (ownsRow_block Hown2.out (g := gg) rfl).1; clear hown2 hgrow2 hat2)
          | (at_builtin; refine wpList_append_flat rfl _ _ rfl Tryz.underlying90 size9 hi0 hz0 hz1 hz2 rfl Nat.one_pos (by decide) w.heap.size (c + 1) 0 (.slice (some ⟨gg, 0, none⟩) (c + 1) cap2) _ ((l.map encStr).take c ++ [encStr s]) [] rfl rfl Hown2.out hs2 ⟨_, _, rfl, (fun h => by cases h), fun h => absurd rfl h⟩ rfl (by simp) (by omega) ?_; intro v3 w3 hown3 hgrow3 hat3; have Hown3 := Lib.hid hown3; have B3 : Hid (Below w.heap.size w w3) := Lib.hid (B2.out.grown hgrow3 hs2 (fun b hb => by cases hb; exact hgg)); clear hown3 hgrow3 hat3))
        go_ret
        refine ⟨_, rfl, ?_, B3.out⟩
        rw [Hput.out]
        unfold RowT
        have h9 := Hown3.out
        rw [List.take_of_length_le (by rw [List.length_map, Hn.out]; exact Nat.le_refl _), List.append_nil] at h9
        rw [List.length_append, Hn.out, List.map_append]
        exact ownsRow_mono h9 hB
      · have hjc : ¬ c = j := hcj
        have hjc2 : j ≤ c := by omega
        go_wp2_with (first
          | (at_builtin; refine wpList_append_flat rfl _ _ rfl Tryz.underlying90 size9 hi0 hz0 hz1 hz2 rfl Nat.one_pos (by decide) w.heap.size 0 j (.slice none 0 0) (.slice (some ⟨g, 0, none⟩) j c) [] ((l.map encStr).take j) rfl rfl (World.ownsRow_nil _ _ _ _) (Nat.le_refl _) (owns_take H.out hj) (by rw [List.length_take, List.length_map, Hn.out]; omega) (fun x hx => one_txt x (List.mem_of_mem_take hx)) (by omega) ?_; intro v1 w1 hown1 hgrow1 hat1; rw [Nat.zero_add, List.nil_append] at hown1; obtain ⟨o1, c1, rfl, _⟩ := ownsRow_shape hown1; have Hown1 := Lib.hid hown1; have B1 : Hid (Below w.heap.size w w1) := Lib.hid ((Below.refl _ w).grown hgrow1 (Nat.le_refl _) (fun k hk => by cases hk)); have Hat1 : Hid (∀ b, (Value.slice o1 j c1).ownBlock = some b → w.heap.size ≤ b) := Lib.hid (fun b hb => (ownsRow_block Hown1.out hb).1); have hs1 : w.heap.size ≤ w1.heap.size := B1.out.size; clear hown1 hgrow1 hat1)
          | (at_builtin; refine wpList_append_lies _ rfl _ _ _ rfl w.heap.size 9 i0 _ 1 16 Tryz.underlying90 hi0 hz0 hz1 hz2 rfl Nat.one_pos (.slice o1 j c1) j ((l.map encStr).take j) rfl (ownsRow_olds Hown1.out (Olds.alloc _ _)) ⟨w1.heap.size, 0, none⟩ 1 1 [encStr s] rfl rfl (World.news_of_block (cs := #[encStr s]) (t := 9) (fr := (0, 0)) (heap_alloc_new w1 _)) (by simp [Value.oneCell']) Nat.one_pos (by unfold maxLen; omega) (by omega) (by simp; omega) (w1.heap.size + 1) (by simp) ?_; intro gg cap2 w2 hown2 hgrow2 hat2 hlt2; have Hown2 := Lib.hid hown2; have B2 : Hid (Below w.heap.size w w2) := Lib.hid ((B1.out.alloc hs1 _).grown hgrow2 (by simp; omega) (fun b hb => Hat1.out b hb)); have hs2 : w.heap.size ≤ w2.heap.size := B2.out.size; have hgg : w.heap.size ≤ gg := (ownsRow_block Hown2.out (g := gg) rfl).1; clear hown2 hgrow2 hat2)
          | (at_builtin; refine wpList_append_flat rfl _ _ rfl Tryz.underlying90 size9 hi0 hz0 hz1 hz2 rfl Nat.one_pos (by decide) w.heap.size (j + 1) 0 (.slice (some ⟨gg, 0, none⟩) (j + 1) cap2) _ ((l.map encStr).take j ++ [encStr s]) [] rfl rfl Hown2.out hs2 ⟨_, _, rfl, (fun h => by cases h), fun h => absurd rfl h⟩ rfl (by simp) (by omega) ?_; intro v3 w3 hown3 hgrow3 hat3; have Hown3 := Lib.hid hown3; have B3 : Hid (Below w.heap.size w w3) := Lib.hid (B2.out.grown hgrow3 hs2 (fun b hb => by cases hb; exact hgg)); clear hown3 hgrow3 hat3))
        go_ret
        refine ⟨_, rfl, ?_, B3.out⟩
        rw [Hput.out]
        unfold RowT
        have h9 := Hown3.out
        rw [List.take_of_length_le (by rw [List.length_map, Hn.out]; exact Nat.le_refl _), List.append_nil] at h9
        rw [List.length_append, Hn.out, List.map_append]
        exact ownsRow_mono h9 hB
end Go.Proofs.YtaoggppfimfhbaaGreatDoor
namespace Go.Proofs.YtaoggppfimfhbaaGreatDoor
open Go Go.RowKit Go.Ix

theorem text_any {w : World} {B : Nat} {v : Value} {l : List Txt} (s : Txt) (h : RowT w B v l) (hB : B ≤ w.heap.size) (hr : Rising l) (hl : l.length ≤ 1000000) :
    Calls Tryz.prog 94 #[v, encStr s] w fun e w' => ∃ v', e = .returned v' ∧ RowT w' B v' (put l s) ∧ Below w.heap.size w w' := by
  unfold RowT at h
  rcases h.2 with ⟨rfl, h0⟩ | ⟨g, cap, cur, rfl, _⟩
  · have : l = [] := List.eq_nil_of_length_eq_zero h0
    subst this
    exact text_nil w B s hB
  · exact text_some s h rfl hB hr hl

theorem rise_len (zs : List Txt) : (rise zs).length ≤ zs.length := by
  have key : ∀ (zs l : List Txt), (zs.foldl put l).length ≤ l.length + zs.length := by
    intro zs
    induction zs with
    | nil => intro l; simp
    | cons z zs ih =>
      intro l
      have h1 := ih (put l z)
      have h2 : (put l z).length ≤ l.length + 1 := by
        unfold put
        split
        · omega
        · rw [List.length_append, List.length_cons]
          have h3 : (l.filter fun x => decide (x < z)).length + (l.filter fun x => decide (z < x)).length ≤ l.length := by
            have := List.length_eq_countP_add_countP (p := fun x => decide (x < z)) (l := l)
            rw [List.countP_eq_length_filter, List.countP_eq_length_filter] at this
            have h4 : (l.filter fun x => decide (z < x)).length ≤ (l.filter fun a => decide ¬(decide (a < z)) = true).length := by
              rw [← List.countP_eq_length_filter, ← List.countP_eq_length_filter]
              refine List.countP_mono_left fun x _ hx => ?_
              simp only [decide_eq_true_eq] at hx ⊢
              exact fun h => List.lt_irrefl _ (List.lt_trans hx h)
            omega
          omega
      rw [List.foldl_cons, List.length_cons]
      omega
  have := key zs []
  simpa [rise] using this

theorem textsL_len (l : List Lbl) : (textsL l).length = 2 * l.length := by
  induction l with
  | nil => rfl
  | cons y l ih =>
    show ([y.1, y.2] ++ textsL l).length = _
    rw [List.length_append, ih, List.length_cons]
    simp
    omega
def lblsOf (l : List Ent) : Nat := (l.map fun e => e.1.length).sum
theorem texts_len (l : List Ent) : (texts l).length = 2 * lblsOf l := by
  induction l with
  | nil => rfl
  | cons e l ih =>
    show (textsL e.1 ++ texts l).length = _
    rw [List.length_append, ih, textsL_len]
    unfold lblsOf
    rw [List.map_cons, List.sum_cons]
    omega
theorem texts_snoc (l : List Ent) (e : Ent) : texts (l ++ [e]) = texts l ++ textsL e.1 := by simp [texts]
theorem textsL_snoc (l : List Lbl) (y : Lbl) : textsL (l ++ [y]) = textsL l ++ [y.1, y.2] := by simp [textsL]
theorem lblsOf_take (l : List Ent) (k : Nat) : lblsOf (l.take k) ≤ lblsOf l := by
  have h := congrArg lblsOf (List.take_append_drop k l)
  unfold lblsOf at h ⊢
  rw [List.map_append, List.sum_append] at h
  omega
theorem lblsOf_at {l : List Ent} {k : Nat} {e : Ent} (h : l[k]? = some e) : lblsOf (l.take k) + e.1.length ≤ lblsOf l := by
  have h1 := lblsOf_take l (k + 1)
  rw [List.take_add_one, h] at h1
  unfold lblsOf at h1 ⊢
  rw [List.map_append, List.sum_append] at h1
  simpa using h1
theorem take_snoc {α : Type} {l : List α} {k : Nat} {x : α} (h : l[k]? = some x) : l.take (k + 1) = l.take k ++ [x] := by
  rw [List.take_add_one, h]
  rfl

set_option maxRecDepth 20000 in
set_option maxHeartbeats 4000000 in
theorem symbols_rows (o : Option Addr) (c : Nat) (l : List Ent) (w : World) (hs : Small l) (hL : lblsOf l ≤ 100000) (hc : RowsE w o l) : Calls Tryz.prog 33 #[.slice o l.length c] w fun e w' => ∃ v, e = .returned v ∧ RowT w' w.heap.size v (symbols l) ∧ Below w.heap.size w w' := by
  have Hc := Lib.hid hc
  have Hs := Lib.hid hs
  have hm := hs.1
  clear hc hs
  generalize hn : l.length = n at *
  have Hn := Lib.hid hn
  clear hn
  go_enter Tryz.func33, Tryz.ntmps33
  go_wp2_with fail
  go_loopw [3, 4, 5] (fun sv iv _ wr => ∃ k : Nat, k ≤ n ∧ iv = .int .i64 k ∧ Below w.heap.size w wr ∧ RowT wr w.heap.size sv (rise (texts (l.take k)))) (fun _ iv _ _ => n - (intOf iv).toNat)
  case atStart => exact ⟨0, Nat.zero_le _, rfl, Below.refl _ _, World.ownsRow_nil _ _ _ _⟩
  case round =>
    obtain ⟨k, hk, rfl, hb, hrow⟩ := hrel
    have Hb := Lib.hid hb
    have Hrow := Lib.hid hrow
    have Hcr := Lib.hid (Hc.out.olds (Olds.of_below hb))
    clear hb hrow
    by_cases hlt : k < n
    · obtain ⟨b, off, e1, e2, o1, n1, c1, o2, n2, c2, rfl, hx, hc1, hc2, hl1, hl2, hr1, hr2, _⟩ := Hcr.out.at (k := k) (by rw [Hn.out]; exact hlt)
      obtain ⟨hs1, hs2, hs3⟩ := Hs.out.ent hx
      have hn1 : n1 ≤ 1000000000 := by omega
      have Hx := Lib.hid hx
      have Hr1 := Lib.hid hr1
      have Hl1 := Lib.hid hl1
      have Hcap := Lib.hid (lblsOf_at hx)
      clear hx hr1 hr2 hl1 hl2 hs3
      go_wp2_with fail
      go_loopw [3, 5] (fun sv jv wq => ∃ j : Nat, j ≤ n1 ∧ jv = .int .i64 j ∧ Below w.heap.size w wq ∧ Below wr.heap.size wr wq ∧ RowT wq w.heap.size sv (rise (texts (l.take k) ++ textsL (e1.take j)))) (fun _ jv _ => n1 - (intOf jv).toNat)
      case atStart => exact ⟨0, Nat.zero_le _, rfl, Hb.out, Below.refl _ _, by rw [List.take_zero]; show RowT _ _ _ (rise (_ ++ [])); rw [List.append_nil]; exact Hrow.out⟩
      case round =>
        obtain ⟨j, hj, rfl, hbq, hbq2, hrow⟩ := hrel
        have Hbq := Lib.hid hbq
        have Hbq2 := Lib.hid hbq2
        have Hrow2 := Lib.hid hrow
        have hszq := hbq.size
        have hcq := (Olds.of_below hbq2).cell hc1
        have Hrq := Lib.hid (Hr1.out.olds (Olds.of_below hbq2))
        clear hbq hbq2 hrow
        by_cases hjn : j < n1
        · obtain ⟨b2, off2, y1, y2, rfl, hy, hy1, hy2⟩ := Hrq.out.at (k := j) (by rw [Hl1.out]; exact hjn)
          have Hy := Lib.hid hy
          clear hy
          have hlen : (texts (l.take k) ++ textsL (e1.take j)).length ≤ 200000 := by
            rw [List.length_append, texts_len, textsL_len, List.length_take]
            have := Hcap.out
            have h1 := Hl1.out
            omega
          have HT1 := Lib.hid (text_any y1 Hrow2.out hszq (rise_rising _) (by have := rise_len (texts (l.take k) ++ textsL (e1.take j)); omega))
          have hlen2 : (texts (l.take k) ++ textsL (e1.take j) ++ [y1]).length ≤ 200001 := by
            rw [List.length_append, List.length_singleton]
            omega
          have HT2 : Hid (∀ (W : World) (v : Value), w.heap.size ≤ W.heap.size → RowT W w.heap.size v (rise (texts (l.take k) ++ textsL (e1.take j) ++ [y1])) → Calls Tryz.prog 94 #[v, encStr y2] W fun e w' => ∃ v', e = .returned v' ∧ RowT w' w.heap.size v' (put (rise (texts (l.take k) ++ textsL (e1.take j) ++ [y1])) y2) ∧ Below W.heap.size W w') := Lib.hid (fun W v hW hv => text_any y2 hv hW (rise_rising _) (by have := rise_len (texts (l.take k) ++ textsL (e1.take j) ++ [y1]); omega))
          clear hlen hlen2
          go_wp2_with (first
            | (go_at_call 94; refine HT1.out.mono ?_; clear HT1; rintro e wa ⟨va, rfl, hrowa, hba⟩; have Ba := Lib.hid hba; have hca := (Olds.of_below hba).cell hcq; have hya2 := (Olds.of_below hba).cell hy2; have hsza := hba.size; have Hrowa := Lib.hid hrowa; clear hrowa hba)
            | (go_at_call 94; refine (HT2.out wa va (by omega) (by rw [rise_snoc]; exact Hrowa.out)).mono ?_; rintro e wb ⟨vb, rfl, hrowb, hbb⟩; have Bb := Lib.hid hbb; have Hrowb := Lib.hid hrowb; clear hrowb hbb))
          have Hall : Hid (Below wr.heap.size wr wb) := Lib.hid (Ba.out.trans (Bb.out.mono hsza))
          go_roundw
          case rel => exact ⟨j + 1, by omega, by go_num, Hbq.out.trans (Hall.out.mono hszq), Hbq2.out.trans (Hall.out.mono Hbq2.out.size), by
            rw [take_snoc Hy.out, textsL_snoc, show texts (l.take k) ++ (textsL (e1.take j) ++ [y1, y2]) = (texts (l.take k) ++ textsL (e1.take j) ++ [y1]) ++ [y2] by simp, rise_snoc]
            exact Hrowb.out⟩
          case measure => simp [intOf]; omega
        · go_wp2_with fail
          go_roundw
          case rel => exact ⟨k + 1, by omega, by go_num, Hbq.out, by
            have h9 := Hrow2.out
            rw [List.take_of_length_le (l := e1) (by rw [Hl1.out]; omega)] at h9
            rw [take_snoc Hx.out, texts_snoc]
            exact h9⟩
          case measure => simp [intOf]; omega
    · go_wp2_with fail
      go_ret
      have e9 : l.take k = l := List.take_of_length_le (by rw [Hn.out]; omega)
      have h9 := Hrow.out
      rw [e9] at h9
      exact ⟨_, rfl, h9, Hb.out⟩
end Go.Proofs.YtaoggppfimfhbaaGreatDoor
namespace Go.Proofs.YtaoggppfimfhbaaGreatDoor
open Go Go.RowKit Go.Ix

def TextsAt (w : World) (o : Option Addr) (ss : List Txt) : Prop := ss ≠ [] → ∃ b off, o = some ⟨b, off, none⟩ ∧ ∀ k s, ss[k]? = some s → w.cell? ⟨b, off + k, none⟩ = some (encStr s)
theorem TextsAt.at {w : World} {o : Option Addr} {ss : List Txt} (h : TextsAt w o ss) {k : Nat} (hk : k < ss.length) : ∃ b off s, o = some ⟨b, off, none⟩ ∧ ss[k]? = some s ∧ w.cell? ⟨b, off + k, none⟩ = some (encStr s) := by
  obtain ⟨b, off, e, hc⟩ := h (fun e => by rw [e] at hk; simp at hk)
  have hs : ss[k]? = some ss[k] := List.getElem?_eq_getElem hk
  exact ⟨b, off, _, e, hs, hc k _ hs⟩
theorem TextsAt.next {w : World} {b off : Nat} {ss : List Txt} (h : TextsAt w (some ⟨b, off, none⟩) ss) {k : Nat} (hk : k < ss.length) : ∃ s, ss[k]? = some s ∧ w.cell? ⟨b, off + k, none⟩ = some (encStr s) := by
  obtain ⟨b', off', s, e, h⟩ := h.at hk
  cases e
  exact ⟨s, h⟩
theorem TextsAt.olds {w W : World} {o : Option Addr} {ss : List Txt} (h : TextsAt w o ss) (hb : Olds w W) : TextsAt W o ss := fun hne => by
  obtain ⟨b, off, e, hc⟩ := h hne
  exact ⟨b, off, e, fun k s hs => hb.cell (hc k s hs)⟩
theorem RowT.shape {w : World} {B : Nat} {v : Value} {ss : List Txt} (h : RowT w B v ss) : ∃ o c, v = .slice o ss.length c ∧ TextsAt w o ss := by
  unfold RowT at h
  rcases h.2 with ⟨rfl, h0⟩ | ⟨g, cap, cur, rfl, _⟩
  · have : ss = [] := List.eq_nil_of_length_eq_zero h0
    subst this
    exact ⟨none, 0, rfl, fun h => absurd rfl h⟩
  · exact ⟨_, _, rfl, fun _ => ⟨g, 0, rfl, fun k s hs => by
      rw [Nat.zero_add]
      exact owned_at h hs⟩⟩

set_option maxRecDepth 20000 in
set_option maxHeartbeats 1000000 in
theorem number_rows (o : Option Addr) (c n : Nat) (ss : List Txt) (s : Txt) (w : World) (hn : ss.length = n) (hm : n ≤ 1000000) (hc : TextsAt w o ss) (hr : Rising ss) (hs : s ∈ ss) : Calls Tryz.prog 35 #[.slice o n c, encStr s] w fun e w' => e = .returned (.int .i64 (idx ss s : Nat)) ∧ w = w' := by
  have Hc := Lib.hid hc
  have Hn := Lib.hid hn
  have Hs := Lib.hid hs
  have Hr := Lib.hid hr
  clear hc hn hs hr
  go_enter Tryz.func35, Tryz.ntmps35
  go_wp2_with fail
  go_loop [5] (fun iv => ∃ k : Nat, k ≤ n ∧ iv = .int .i64 k ∧ ∀ i z, i < k → ss[i]? = some z → z ≠ s) (fun iv => n - (intOf iv).toNat)
  case atStart => exact ⟨0, Nat.zero_le _, rfl, fun i z h => by omega⟩
  case round =>
    obtain ⟨k, hk, rfl, hno⟩ := hrel
    have Hno := Lib.hid hno
    clear hno
    by_cases hlt : k < n
    · obtain ⟨b, off, x, rfl, hx, hcx⟩ := Hc.out.at (k := k) (by rw [Hn.out]; exact hlt)
      have Hx := Lib.hid hx
      clear hx
      by_cases he : x = s
      · subst he
        have Hi : Hid (idx ss x = k) := Lib.hid (idx_eq Hr.out Hx.out)
        go_wp2_with fail
        go_ret
        exact ⟨by rw [Hi.out]; rfl, rfl⟩
      · have hbe : (x == s) = false := by simpa using he
        have He := Lib.hid he
        clear he
        go_wp2_with fail
        go_round
        case rel => exact ⟨k + 1, by omega, by go_num, fun i z hi hz => by
          by_cases h : i < k
          · exact Hno.out i z h hz
          · obtain rfl : i = k := by omega
            rw [Hx.out] at hz
            cases hz
            exact He.out⟩
        case measure => simp [intOf]; omega
    · exfalso
      obtain ⟨i, hi⟩ := List.getElem?_of_mem Hs.out
      have := (List.getElem?_eq_some_iff.1 hi).1
      rw [Hn.out] at this
      exact Hno.out i s (by omega) hi rfl

theorem get_hit {l : List Lbl} {s v : Txt} {k : Nat} (hk : l[k]? = some (s, v)) (h : ∀ i y1 y2, i < k → l[i]? = some (y1, y2) → y1 ≠ s) : get l s = v := by
  induction l generalizing k with
  | nil => simp at hk
  | cons y l ih =>
    show (if y.1 = s then y.2 else get l s) = v
    cases k with
    | zero =>
      simp at hk
      subst hk
      rw [if_pos rfl]
    | succ k =>
      rw [if_neg (h 0 y.1 y.2 (by omega) rfl)]
      exact ih (by simpa using hk) fun i y1 y2 hi hy => h (i + 1) y1 y2 (by omega) (by simpa using hy)

set_option maxRecDepth 20000 in
set_option maxHeartbeats 1000000 in
theorem get_rows (o : Option Addr) (c n : Nat) (l : List Lbl) (s : Txt) (w : World) (hn : l.length = n) (hm : n ≤ 1000000000) (hc : Rows2 w o l) : Calls Tryz.prog 123 #[.slice o n c, encStr s] w fun e w' => e = .returned (encStr (get l s)) ∧ w = w' := by
  have Hc := Lib.hid hc
  have Hn := Lib.hid hn
  clear hc hn
  go_enter Tryz.func123, Tryz.ntmps123
  go_wp2_with fail
  go_loop [5] (fun iv => ∃ k : Nat, k ≤ n ∧ iv = .int .i64 k ∧ ∀ i y1 y2, i < k → l[i]? = some (y1, y2) → y1 ≠ s) (fun iv => n - (intOf iv).toNat)
  case atStart => exact ⟨0, Nat.zero_le _, rfl, fun i y1 y2 h => by omega⟩
  case round =>
    obtain ⟨k, hk, rfl, hno⟩ := hrel
    have Hno := Lib.hid hno
    clear hno
    by_cases hlt : k < n
    · obtain ⟨b, off, x1, x2, rfl, hx, hcx, hcx2⟩ := Hc.out.at (k := k) (by rw [Hn.out]; exact hlt)
      have Hx := Lib.hid hx
      clear hx
      by_cases he : x1 = s
      · subst he
        have Hi : Hid (get l x1 = x2) := Lib.hid (get_hit Hx.out Hno.out)
        go_wp2_with fail
        go_ret
        exact ⟨by rw [Hi.out]; rfl, rfl⟩
      · have hbe : (x1 == s) = false := by simpa using he
        have He := Lib.hid he
        clear he
        go_wp2_with fail
        go_round
        case rel => exact ⟨k + 1, by omega, by go_num, fun i y1 y2 hi hz => by
          by_cases h : i < k
          · exact Hno.out i y1 y2 h hz
          · obtain rfl : i = k := by omega
            rw [Hx.out] at hz
            cases hz
            exact He.out⟩
        case measure => simp [intOf]; omega
    · have Hi : Hid (get l s = []) := Lib.hid (get_none fun y hy => by
        obtain ⟨i, hi⟩ := List.getElem?_of_mem hy
        have := (List.getElem?_eq_some_iff.1 hi).1
        rw [Hn.out] at this
        exact Hno.out i y.1 y.2 (by omega) hi)
      go_wp2_with fail
      go_ret
      exact ⟨by rw [Hi.out]; rfl, rfl⟩

def nats (zs : List Nat) : List Value := zs.map fun (i : Nat) => Value.int .i64 (i : Int)
def RowI (w : World) (B : Nat) (v : Value) (zs : List Nat) : Prop := w.ownsRow B 3 1 v zs.length (nats zs)
theorem Tryz.info3 : (Tryz.prog.info? 3).map (fun i => (i.zero, i.size, i.bytes)) = some (some (.int .i64 0), 1, 8) := by kernel_rfl
theorem ofL_len (l : List Ent) (s v : Txt) : (ofL l s v).length ≤ l.length := by
  have key : ∀ (l : List Ent) (i : Nat), (ofFrom s v i l).length ≤ l.length := by
    intro l
    induction l with
    | nil => intro i; simp [ofFrom]
    | cons e l ih =>
      intro i
      show ((if get e.1 s = v then [i] else []) ++ ofFrom s v (i + 1) l).length ≤ _
      have := ih (i + 1)
      rw [List.length_append, List.length_cons]
      split <;> simp <;> omega
  exact key l 0

set_option maxRecDepth 20000 in
set_option maxHeartbeats 2000000 in
theorem of_rows (o : Option Addr) (c n : Nat) (l : List Ent) (s v : Txt) (w : World) (hs : Small l) (hn : l.length = n) (hc : RowsE w o l) : Calls Tryz.prog 95 #[.slice o n c, encStr s, encStr v] w fun e w' => ∃ u, e = .returned u ∧ RowI w' w.heap.size u (ofL l s v) ∧ Below w.heap.size w w' := by
  obtain ⟨i0, hi0, hz0, hz1, hz2⟩ := info_parts Tryz.info3
  have Hc := Lib.hid hc
  have Hs := Lib.hid hs
  have Hn := Lib.hid hn
  have hm : n ≤ 1000000000 := by have := hs.1; omega
  clear hc hs hn
  go_enter Tryz.func95, Tryz.ntmps95
  go_wp2_with fail
  go_loopw [7, 8] (fun sv iv wr => ∃ k : Nat, k ≤ n ∧ iv = .int .i64 k ∧ Below w.heap.size w wr ∧ RowI wr w.heap.size sv (ofL (l.take k) s v)) (fun _ iv _ => n - (intOf iv).toNat)
  case atStart => exact ⟨0, Nat.zero_le _, rfl, Below.refl _ _, World.ownsRow_nil _ _ _ _⟩
  case round =>
    obtain ⟨k, hk, rfl, hb, hrow⟩ := hrel
    have Hb := Lib.hid hb
    have Hcr := Lib.hid (Hc.out.olds (Olds.of_below hb))
    have hsz := hb.size
    have Hrow0 := Lib.hid hrow
    by_cases hlt : k < n
    · obtain ⟨b, off, e1, e2, o1, n1, c1, o2, n2, c2, rfl, hx, hc1, hc2, hl1, hl2, hr1, hr2, _⟩ := Hcr.out.at (k := k) (by rw [Hn.out]; exact hlt)
      obtain ⟨hs1, _, _⟩ := Hs.out.ent hx
      have HG := Lib.hid (get_rows o1 c1 n1 e1 s wr hl1 (by omega) hr1)
      have Htk : Hid (l.take (k + 1) = l.take k ++ [(e1, e2)]) := Lib.hid (take_snoc hx)
      have hlk : (l.take k).length = k := by rw [List.length_take, Hn.out]; omega
      have Hlk := Lib.hid hlk
      have hol := ofL_len (l.take k) s v
      rw [hlk] at hol
      unfold RowI at hrow
      obtain ⟨ro, rc, rfl, _⟩ := ownsRow_shape hrow
      have Hrow := Lib.hid hrow
      clear hb hrow hx hl1 hl2 hr1 hr2 hlk
      generalize hout : ofL (l.take k) s v = out at *
      have Hout := Lib.hid hout
      clear hout
      generalize hN : out.length = N at *
      have HN := Lib.hid hN
      clear hN
      by_cases he : get e1 s = v
      · have hbe : (get e1 s == v) = true := by simpa using he
        have He := Lib.hid he
        clear he
        go_wp2_with (first
          | (go_at_call 123; refine HG.out.mono ?_; rintro e w' ⟨rfl, rfl⟩)
          | (at_builtin; refine wpList_append_lies _ rfl _ _ _ rfl w.heap.size 3 i0 _ 1 8 Tryz.underlying112 hi0 hz0 hz1 hz2 rfl Nat.one_pos (.slice ro N rc) N (nats out) rfl (ownsRow_olds Hrow.out (Olds.alloc _ _)) ⟨wr.heap.size, 0, none⟩ 1 1 [.int .i64 (k : Int)] rfl rfl (World.news_of_block (cs := #[.int .i64 (k : Int)]) (t := 3) (fr := (0, 0)) (heap_alloc_new wr _)) (by simp [Value.oneCell']) Nat.one_pos (by unfold maxLen; omega) (by omega) (by simp; omega) (wr.heap.size + 1) (by simp) ?_; intro gg cap2 w4 hown4 hgrow hat hlt4; have B4 := Lib.hid ((Hb.out.alloc hsz _).grown hgrow (by simp; omega) (fun b hb => (ownsRow_block Hrow.out hb).1)); have Hown4 := Lib.hid hown4; clear hown4 hgrow hat))
        go_roundw
        case rel => exact ⟨k + 1, by omega, by go_num, B4.out, by
          unfold RowI
          rw [Htk.out, ofL_snoc, Hout.out, Hlk.out, if_pos He.out, List.length_append, HN.out]
          have h9 := Hown4.out
          unfold nats at h9 ⊢
          rw [List.map_append]
          exact h9⟩
        case measure => simp [intOf]; omega
      · have hbe : (get e1 s == v) = false := by simpa using he
        have He := Lib.hid he
        clear he
        go_wp2_with (go_at_call 123; refine HG.out.mono ?_; rintro e w' ⟨rfl, rfl⟩)
        go_roundw
        case rel => exact ⟨k + 1, by omega, by go_num, Hb.out, by
          rw [Htk.out, ofL_snoc, Hout.out, if_neg He.out, List.append_nil]
          exact Hrow0.out⟩
        case measure => simp [intOf]; omega
    · clear hb hrow
      go_wp2_with fail
      go_ret
      have e9 : l.take k = l := List.take_of_length_le (by rw [Hn.out]; omega)
      have h9 := Hrow0.out
      rw [e9] at h9
      exact ⟨_, rfl, h9, Hb.out⟩
end Go.Proofs.YtaoggppfimfhbaaGreatDoor
namespace Go.Proofs.YtaoggppfimfhbaaGreatDoor
open Go Go.RowKit Go.Ix

theorem nat_at {w : World} {B g n c : Nat} {zs : List Nat} (h : w.ownsRow B 3 1 (.slice (some ⟨g, 0, none⟩) n c) n (nats zs)) {j z : Nat} (hz : zs[j]? = some z) : w.cell? ⟨g, j, none⟩ = some (.int .i64 (z : Int)) := by
  have := ownsRow_cell h j (.int .i64 (z : Int)) (by unfold nats; rw [List.getElem?_map, hz]; rfl)
  rwa [Nat.zero_add] at this


theorem Row8.shape {w : World} {B : Nat} {v : Value} {bs : List Nat} (h : Row8 w B v bs) : ∃ o c, v = .slice o bs.length c := by
  obtain ⟨o, c, e, _⟩ := ownsRow_shape h
  exact ⟨o, c, e⟩

set_option maxRecDepth 20000 in
set_option maxHeartbeats 8000000 in
theorem rpostings_rows {w0 w : World} {K : Nat → Prop} {v : Value} {bs : List Nat} {l : List Ent} {ss : List Txt} {G : Nat × Nat → List Nat} (o so : Option Addr) (c sc : Nat)
    (hs : Small l) (hc : RowsE w0 o l) (hb : Below w0.heap.size w0 w) (hv : Row8 w w0.heap.size v bs) (hfr : Free K v) (hK : ∀ k, K k → k < w.heap.size) (hK0 : ∀ k, k < w0.heap.size → K k)
    (hsy : TextsAt w so ss) (hsK : ∀ b off, so = some ⟨b, off, none⟩ → K b) (hss : ss.length ≤ 8000) (hl60 : l.length ≤ 60) (hbl : bs.length ≤ 10000000000)
    (hG : ∀ (i k : Nat) (s x : Txt), ss[i]? = some s → ss[k]? = some x → ofL l s x = G (i, k)) (hGl : ∀ p, (G p).length ≤ 60) (hG60 : ∀ p, ∀ z ∈ G p, z < 60) :
    Calls Tryz.prog 36 #[v, .slice o l.length c, .slice so ss.length sc] w fun e w' => ∃ v', e = .returned v' ∧ Row8 w' w0.heap.size v' (bs ++ postPart ss.length G) ∧ Free K v' ∧ Kept K w w' := by
  obtain ⟨i0, hi0, hz0, hz1, hz2⟩ := info_parts Tryz.info5
  have Hc := Lib.hid hc
  have Hs := Lib.hid hs
  have Hb := Lib.hid hb
  have Hv := Lib.hid hv
  have Hfr := Lib.hid hfr
  have HK := Lib.hid hK
  have HK0 := Lib.hid hK0
  have Hsy := Lib.hid hsy
  have HsK := Lib.hid hsK
  have HG := Lib.hid hG
  have HGl := Lib.hid hGl
  have HG60 := Lib.hid hG60
  have hsz0 := hb.size
  obtain ⟨vo, vc, rfl⟩ := hv.shape
  clear hc hs hb hv hfr hK hK0 hsy hsK hG hGl hG60
  generalize hn : ss.length = n at *
  have Hn := Lib.hid hn
  generalize hlm : l.length = m at *
  have Hm := Lib.hid hlm
  generalize hbn : bs.length = bn at *
  have Hbn := Lib.hid hbn
  clear hn hlm hbn
  have HO : Hid (∀ (W : World) (s x : Txt), Below w.heap.size w W → Calls Tryz.prog 95 #[.slice o m c, encStr s, encStr x] W fun e w' => ∃ u, e = .returned u ∧ RowI w' W.heap.size u (ofL l s x) ∧ Below W.heap.size W w') := Lib.hid (fun W s x hW => of_rows o c m l s x W Hs.out Hm.out (Hc.out.olds (Olds.of_below (Hb.out.trans (hW.mono hsz0)))))
  go_enter Tryz.func36, Tryz.ntmps36
  go_wp2_with fail
  go_loopw [7, 8, 9, 10, 11, 12] (fun pv nv iv _ _ _ wr => ∃ i : Nat, i ≤ n ∧ iv = .int .i64 i ∧ nv = .int .i64 ((kept G (aheadP n i 0)).length : Nat) ∧ Below w.heap.size w wr ∧ Row8 wr w.heap.size pv (bytesOf G (aheadP n i 0))) (fun _ _ iv _ _ _ _ => n - (intOf iv).toNat)
  case atStart => exact ⟨0, Nat.zero_le _, rfl, rfl, Below.refl _ _, World.ownsRow_nil _ _ _ _⟩
  case round =>
    obtain ⟨i, hi, rfl, rfl, hbr, hpart⟩ := hrel
    have Hbr := Lib.hid hbr
    have Hpart := Lib.hid hpart
    have hszr := hbr.size
    clear hbr hpart
    by_cases hin : i < n
    · obtain ⟨sb, soff, si, rfl, hsi, hcsi⟩ := Hsy.out.at (k := i) (by rw [Hn.out]; exact hin)
      have Hsi := Lib.hid hsi
      clear hsi
      go_wp2_with fail
      go_loopw [7, 8, 10, 11, 12] (fun pv nv kv _ _ wr2 => ∃ k : Nat, k ≤ n ∧ kv = .int .i64 k ∧ nv = .int .i64 ((kept G (aheadP n i k)).length : Nat) ∧ Below w.heap.size w wr2 ∧ Row8 wr2 w.heap.size pv (bytesOf G (aheadP n i k))) (fun _ _ kv _ _ _ => n - (intOf kv).toNat)
      case atStart => exact ⟨0, Nat.zero_le _, rfl, rfl, Hbr.out, Hpart.out⟩
      case round =>
        obtain ⟨k, hk, rfl, rfl, hbr2, hpart2⟩ := hrel
        have Hbr2 := Lib.hid hbr2
        have Hpart2 := Lib.hid hpart2
        have hszr2 := hbr2.size
        have hal : (aheadP n i k).length ≤ 64008000 := by
          rw [ahead_len]
          have : i * n ≤ 8000 * 8000 := Nat.mul_le_mul (by omega) (by omega)
          omega
        have hkl := kept_len G (aheadP n i k)
        by_cases hkn : k < n
        · obtain ⟨sk, hsk, hcsk⟩ := Hsy.out.next (k := k) (by rw [Hn.out]; exact hkn)
          have hcsi2 := (Olds.of_below hbr2).cell hcsi
          have hcsk2 := (Olds.of_below hbr2).cell hcsk
          have Hof : Hid (ofL l si sk = G (i, k)) := Lib.hid (HG.out i k si sk Hsi.out hsk)
          have HC : Hid (Calls Tryz.prog 95 #[.slice o m c, encStr si, encStr sk] wr.drew fun e w' => ∃ u, e = .returned u ∧ RowI w' wr.heap.size u (ofL l si sk) ∧ Below wr.heap.size wr w') := Lib.hid ((HO.out wr.drew si sk hbr2.drew).mono fun e w' ⟨u, h1, h2, h3⟩ => ⟨u, h1, h2, (Below.refl _ wr).drew.trans h3⟩)
          clear hbr2 hpart2 hsk
          rw [Hof.out] at HC
          have hz60 := HGl.out (i, k)
          have HZ60 := Lib.hid (HG60.out (i, k))
          generalize hzs : G (i, k) = zs at *
          have Hzs := Lib.hid hzs
          clear hzs
          generalize hznl : zs.length = zn at *
          have Hzn := Lib.hid hznl
          clear hznl
          go_upto_region 9 with fail
          go_cut [11] from 25 to 34 (fun u wx => (∃ uo uc, u = .slice uo zn uc ∧ (uo = none → zn = 0) ∧ wx.ownsRow wr.heap.size 3 1 (.slice uo zn uc) zn (nats zs)) ∧ Below wr.heap.size wr wx)
          case first =>
            go_region_with (go_at_call 95; refine HC.out.mono ?_; clear HC; rintro e w2 ⟨u, rfl, hu, b2⟩; unfold RowI at hu; rw [Hzn.out] at hu; obtain ⟨uo, uc, rfl, hu0⟩ := ownsRow_shape hu; have B2 := Lib.hid b2; have Hu := Lib.hid hu; clear hu b2)
            all_goals (go_wp2_with fail; go_meet; case rel => exact ⟨⟨uo, uc, rfl, fun e => (hu0 e).1, Hu.out⟩, B2.out⟩)
          case rest =>
          obtain ⟨⟨uo, uc, rfl, hu0, hu⟩, b2⟩ := hcut
          generalize wc = w2 at *
          have Hu := Lib.hid hu
          have B2 := Lib.hid b2
          clear hu b2
          by_cases hz : zs = []
          · subst hz
            have hzn0 : zn = 0 := by rw [← Hzn.out]; rfl
            subst hzn0
            go_wp2_with fail
            go_roundw
            case rel => exact ⟨k + 1, by omega, by go_num, by rw [ahead_step, kept_none Hzs.out], Hbr2.out.trans (B2.out.mono hszr2), by rw [ahead_step, bytes_none Hzs.out]; exact ownsRow_olds Hpart2.out (Olds.of_below B2.out)⟩
            case measure => simp [intOf]; omega
          · have hzp : 0 < zn := by rw [← Hzn.out]; exact List.length_pos_iff.2 hz
            have Hz := Lib.hid hz
            clear hz
            have hbb : (bytesOf G (aheadP n i k)).length ≤ 16130016000 := by
              have := bytesOf_len HGl.out (aheadP n i k)
              omega
            generalize hps : bytesOf G (aheadP n i k) = ps at *
            have Hps := Lib.hid hps
            clear hps
            generalize hcnt : (kept G (aheadP n i k)).length = cnt at *
            have Hcnt := Lib.hid hcnt
            clear hcnt
            obtain ⟨po, pc, hpv⟩ := Hpart2.out.shape
            subst hpv
            have HP : Hid (∀ (ug : Nat) (w2 W : World) (v : Value) (bs' : List Nat) (num : Nat), w.heap.size ≤ w2.heap.size → ug < w2.heap.size → Row8 W w.heap.size v bs' → Free (fun b => b < w.heap.size ∨ b = ug) v → Kept (fun b => b < w.heap.size ∨ b = ug) w2 W → num < 18446744073709551616 → bs'.length ≤ 100000000000 → Calls Tryz.prog 34 #[v, .int .u64 num, .int .i64 4] W fun e w' => ∃ v', e = .returned v' ∧ Row8 w' w.heap.size v' (bs' ++ low 4 num) ∧ Free (fun b => b < w.heap.size ∨ b = ug) v' ∧ Kept (fun b => b < w.heap.size ∨ b = ug) w2 w') := Lib.hid (fun ug w2 W v bs' num h1 h2 h3 h4 h5 h6 h7 => by
              have h8 := h5.size
              exact (put_any num 4 h3 h4 (fun b hb => by rcases hb with hb | rfl <;> omega) (by omega) h6 (by decide) h7).mono fun e w' ⟨v', g1, g2, g3, g4⟩ => ⟨v', g1, g2, g3, h5.trans g4⟩)
            cases uo with
            | none => exact absurd (hu0 rfl) (by omega)
            | some ua =>
              obtain ⟨ug, rfl⟩ : ∃ ug, ua = ⟨ug, 0, none⟩ := by
                rcases Hu.out.2 with ⟨e, _⟩ | ⟨g, _, _, e, _⟩
                · cases e
                · simp only [Value.slice.injEq, Option.some.injEq] at e
                  exact ⟨g, e.1⟩
              have hug := ownsRow_block Hu.out (g := ug) rfl
              have hs2 := B2.out.size
              have Hrow2 : Hid (Row8 w2 w.heap.size (.slice po ps.length pc) ps) := Lib.hid (ownsRow_olds Hpart2.out (Olds.of_below B2.out))
              have Hfree2 : Hid (Free (fun b => b < w.heap.size ∨ b = ug) (.slice po ps.length pc)) := Lib.hid (fun g hg h => by
                have := ownsRow_block Hpart2.out hg
                rcases h with h | h <;> omega)
              have HP1 := Lib.hid (HP.out ug w2 w2 _ _ i (by omega) hug.2 Hrow2.out Hfree2.out (Kept.refl _ _) (by omega) (by omega))
              clear hu0
              go_wp2_with (first
                | (go_at_call 34; refine HP1.out.mono ?_; clear HP1; rintro e w3 ⟨v3, rfl, hrow3, hfree3, hkept3⟩; have Hrow3 := Lib.hid hrow3; have Hfree3 := Lib.hid hfree3; have Hkept3 := Lib.hid hkept3; clear hrow3 hfree3 hkept3; have HP2 := Lib.hid (HP.out ug w2 w3 _ _ k (by omega) hug.2 Hrow3.out Hfree3.out Hkept3.out (by omega) (by rw [List.length_append, low_len]; omega)))
                | (go_at_call 34; refine HP2.out.mono ?_; clear HP2; rintro e w4 ⟨v4, rfl, hrow4, hfree4, hkept4⟩; have Hrow4 := Lib.hid hrow4; have Hfree4 := Lib.hid hfree4; have Hkept4 := Lib.hid hkept4; clear hrow4 hfree4 hkept4; have HP3 := Lib.hid (HP.out ug w2 w4 _ _ zn (by omega) hug.2 Hrow4.out Hfree4.out Hkept4.out (by omega) (by rw [List.length_append, List.length_append, low_len, low_len]; omega)))
                | (go_at_call 34; refine HP3.out.mono ?_; clear HP3; rintro e w5 ⟨v5, rfl, hrow5, hfree5, hkept5⟩; have Hrow5 := Lib.hid hrow5; have Hfree5 := Lib.hid hfree5; have Hkept5 := Lib.hid hkept5; clear hrow5 hfree5 hkept5))
              go_loopw [7, 12] (fun pv jv wq => ∃ j : Nat, j ≤ zn ∧ jv = .int .i64 j ∧ Row8 wq w.heap.size pv (ps ++ low 4 i ++ low 4 k ++ low 4 zn ++ (zs.take j).flatMap fun z => low 4 z) ∧ Free (fun b => b < w.heap.size ∨ b = ug) pv ∧ Kept (fun b => b < w.heap.size ∨ b = ug) w2 wq) (fun _ jv _ => zn - (intOf jv).toNat)
              case atStart => exact ⟨0, Nat.zero_le _, rfl, by rw [List.take_zero, List.flatMap_nil, List.append_nil]; exact Hrow5.out, Hfree5.out, Hkept5.out⟩
              case round =>
                obtain ⟨j, hj, rfl, hrow, hfree, hkept⟩ := hrel
                have Hrowq := Lib.hid hrow
                have Hfreeq := Lib.hid hfree
                have Hkeptq := Lib.hid hkept
                clear hrow hfree hkept
                by_cases hjn : j < zn
                · obtain ⟨z, hz⟩ : ∃ z, zs[j]? = some z := ⟨_, List.getElem?_eq_getElem (by rw [Hzn.out]; exact hjn)⟩
                  have hz6 := HZ60.out z (List.mem_of_getElem? hz)
                  have hcz : wr.cell? ⟨ug, j, none⟩ = some (.int .i64 (z : Int)) := (Hkeptq.out.cell (p := ⟨ug, j, none⟩) (.inr rfl)).trans (nat_at Hu.out hz)
                  have HPz := Lib.hid (HP.out ug w2 wr _ _ z (by omega) hug.2 Hrowq.out Hfreeq.out Hkeptq.out (by omega) (by
                    rw [List.length_append, List.length_append, List.length_append, List.length_append, low_len, low_len, low_len, flat_low_len, List.length_take]
                    omega))
                  have Htz : Hid (zs.take (j + 1) = zs.take j ++ [z]) := Lib.hid (take_snoc hz)
                  clear hz
                  go_wp2_with (go_at_call 34; refine HPz.out.mono ?_; clear HPz; rintro e w6 ⟨v6, rfl, hrow6, hfree6, hkept6⟩; have Hrow6 := Lib.hid hrow6; have Hfree6 := Lib.hid hfree6; have Hkept6 := Lib.hid hkept6; clear hrow6 hfree6 hkept6)
                  go_roundw
                  case rel => exact ⟨j + 1, by omega, by go_num, by
                    rw [Htz.out, List.flatMap_append, ← List.append_assoc]
                    simpa using Hrow6.out, Hfree6.out, Hkept6.out⟩
                  case measure => simp [intOf]; omega
                · go_wp2_with fail
                  go_roundw
                  case rel => exact ⟨k + 1, by omega, by go_num, by
                    rw [ahead_step, kept_some (by rw [Hzs.out]; exact Hz.out), List.length_append, Hcnt.out]
                    go_num, Hbr2.out.trans ((B2.out.mono hszr2).trans (Hkeptq.out.below (fun b hb => .inl hb))), by
                    rw [ahead_step, bytes_some (by rw [Hzs.out]; exact Hz.out), Hps.out]
                    unfold pairPart
                    rw [Hzs.out, Hzn.out]
                    have h9 := Hrowq.out
                    rw [List.take_of_length_le (l := zs) (by rw [Hzn.out]; omega)] at h9
                    simpa [List.append_assoc] using h9⟩
                  case measure => simp [intOf]; omega
        · obtain rfl : k = n := by omega
          clear hbr2 hpart2
          go_wp2_with fail
          go_roundw
          case rel => exact ⟨i + 1, by omega, by go_num, by rw [ahead_next], Hbr2.out, by rw [← ahead_next]; exact Hpart2.out⟩
          case measure => simp [intOf]; omega
    · obtain rfl : i = n := by omega
      have hbb : (bytesOf G (aheadP i i 0)).length ≤ 16130016000 := by
        have := bytesOf_len HGl.out (aheadP i i 0)
        have h2 := ahead_len i i 0
        have : i * i ≤ 8000 * 8000 := Nat.mul_le_mul (by omega) (by omega)
        omega
      have hcl : (kept G (aheadP i i 0)).length ≤ 64000000 := by
        have := kept_len G (aheadP i i 0)
        have h2 := ahead_len i i 0
        have : i * i ≤ 8000 * 8000 := Nat.mul_le_mul (by omega) (by omega)
        omega
      have Hfin : Hid (postPart i G = low 4 (kept G (aheadP i i 0)).length ++ bytesOf G (aheadP i i 0)) := Lib.hid (by rw [ahead_all]; rfl)
      generalize hps : bytesOf G (aheadP i i 0) = ps at *
      have Hps := Lib.hid hps
      clear hps
      generalize hcnt : (kept G (aheadP i i 0)).length = cnt at *
      have Hcnt := Lib.hid hcnt
      clear hcnt
      have Hvr : Hid (Row8 wr w0.heap.size (.slice vo bn vc) bs) := Lib.hid (ownsRow_olds Hv.out (Olds.of_below Hbr.out))
      have Hfr2 : Hid (Free (fun b => K b ∨ (w.heap.size ≤ b ∧ b < wr.heap.size)) (.slice vo bn vc)) := Lib.hid (fun g hg h => by
        have := ownsRow_block Hv.out hg
        rcases h with h | h
        · exact Hfr.out g hg h
        · omega)
      have HP1 := Lib.hid (put_any cnt 4 Hvr.out Hfr2.out (fun b hb => by
        rcases hb with hb | hb
        · have := HK.out b hb
          omega
        · exact hb.2) (by omega) (by omega) (by decide) (by rw [Hbn.out]; omega))
      have Hpk : Hid (∀ W, Kept (fun b => K b ∨ (w.heap.size ≤ b ∧ b < wr.heap.size)) wr W → FlatAt W u7 ps.length (octs ps)) := Lib.hid (fun W hW => by
        obtain ⟨po, pc, hpv⟩ := Hpart.out.shape
        subst hpv
        exact owns_flat (ownsRow_kept Hpart.out hW (fun g hg => .inr (ownsRow_block Hpart.out hg))))
      have hB0 : w0.heap.size ≤ wr.heap.size := by omega
      go_wp2_with (first
        | (go_at_call 34; refine HP1.out.mono ?_; clear HP1; rintro e w3 ⟨v3, rfl, hrow3, hfree3, hkept3⟩; obtain ⟨o3, c3, hv3⟩ := hrow3.shape; subst hv3; have Hrow3 := Lib.hid hrow3; have Hfree3 := Lib.hid hfree3; have Hkept3 := Lib.hid hkept3; have hs3 := hkept3.size; have Hpf3 : Hid (FlatAt w3 u7 ps.length (octs ps)) := Lib.hid (Hpk.out w3 hkept3); clear hrow3 hfree3 hkept3; generalize hN3 : (bs ++ low 4 cnt).length = N3 at *; have HN3 := Lib.hid hN3; have hN3b : N3 ≤ 20000000000 := (by rw [← hN3, List.length_append, low_len, Hbn.out]; omega); clear hN3; have Hown3 : Hid (w3.ownsRow w0.heap.size 5 1 (.slice o3 N3 c3) N3 (octs (bs ++ low 4 cnt))) := Lib.hid (by have h9 := Hrow3.out; unfold Row8 at h9; rwa [HN3.out] at h9))
        | (at_builtin; refine wpList_append_flat rfl _ _ rfl Tryz.underlying25 size5 hi0 hz0 hz1 hz2 rfl Nat.one_pos (by decide) w0.heap.size N3 ps.length (.slice o3 N3 c3) u7 (octs (bs ++ low 4 cnt)) (octs ps) rfl rfl Hown3.out (by omega) Hpf3.out (by rw [octs_len, Nat.mul_one]) one_octs (by omega) ?_; intro v4 w4 hown4 hgrow4 hat4; have Hown4 := Lib.hid hown4; have Hk4 : Hid (Kept K w w4) := Lib.hid (((Kept.of_below Hbr.out HK.out).trans (Hkept3.out.mono (fun b hb => .inl hb))).grown hgrow4 HK.out (fun g hg h => Hfree3.out g hg (.inl h))); have Hf4 : Hid (Free K v4) := Lib.hid (fun g hg h => by rcases hat4 with e | e; exact Hfree3.out g (e ▸ hg) (.inl h); rw [e] at hg; cases hg; have := HK.out _ h; omega); clear hown4 hgrow4 hat4))
      go_ret
      refine ⟨v4, rfl, ?_, Hf4.out, Hk4.out⟩
      rw [Hfin.out, ← List.append_assoc]
      unfold Row8
      rw [List.length_append, HN3.out, octs_append]
      exact Hown4.out
end Go.Proofs.YtaoggppfimfhbaaGreatDoor
namespace Go.Proofs.YtaoggppfimfhbaaGreatDoor
open Go Go.RowKit Go.Ix

theorem cells_txt (x : Txt) : Lib.strCells ⟨x.toArray⟩ = octs (nums x) := by simp [Lib.strCells, octs, nums]


theorem run_append_txt {W : World} {B n : Nat} {v : Value} {xs : List Value} (hown : W.ownsRow B 5 1 v n xs) (hB : B ≤ W.heap.size) (x : Txt) (hbytes : n + x.length ≤ 140737488355328) (ty : TypeId) :
    ∃ v' w', (Builtin.append_ #[25, 9] ty #[v, encStr x]).run Tryz.prog W = .ok v' w' ∧ w'.ownsRow B 5 1 v' (n + x.length) (xs ++ octs (nums x)) ∧ W.grownBy w' v.ownBlock ∧ (v'.ownBlock = v.ownBlock ∨ v'.ownBlock = some W.heap.size) := by
  obtain ⟨i0, hi0, hz0, hz1, hz2⟩ := info_parts Tryz.info5
  have hsize : (⟨x.toArray⟩ : ByteArray).size = x.length := by show x.toArray.size = x.length; simp
  obtain ⟨v', w', hr, h2, h3, h4⟩ := Lib.run_append_own_string (P := Tryz.prog) W B 25 9 ty 5 i0 Tryz.underlying25 Tryz.underlying9 hi0 hz0 hz1 hz2 v n xs hown ⟨x.toArray⟩ (by rw [hsize]; unfold maxLen; omega) (by rw [hsize]; exact hbytes) hB
  rw [hsize, cells_txt] at h2
  refine ⟨v', w', hr, h2, h3, ?_⟩
  rcases hown.2 with ⟨rfl, rfl⟩ | ⟨g, cap, cur, rfl, hbg, hg, hnc, hcm, hcs, htake⟩
  · by_cases h0 : x.length = 0
    · have : v' = .slice none 0 0 := h4.2 ⟨rfl, by rw [hsize]; exact h0⟩
      subst this
      exact .inl rfl
    · have hr2 := run_append_nil_string (P := Tryz.prog) W 25 9 ty 5 i0 (.int .u8 0) Tryz.underlying25 Tryz.underlying9 hi0 hz0 ⟨x.toArray⟩ (by rw [hsize]; omega) (by rw [hsize]; omega) (by rw [hsize, hz2]; omega)
      rw [hr] at hr2
      simp only [Result.ok.injEq] at hr2
      rw [hr2.1]
      exact .inr rfl
  · have hcs' : cur.size = cap := by simpa using hcs
    by_cases hroom : n + x.length ≤ cap
    · have hr2 := Lib.run_append_room_string (P := Tryz.prog) W 25 9 ty 5 i0 Tryz.underlying25 Tryz.underlying9 hi0 hz1 g n cap cur hg ⟨x.toArray⟩ (by rw [hsize]; exact hroom) (by rw [hsize]; omega)
      rw [hr] at hr2
      simp only [Result.ok.injEq] at hr2
      rw [hr2.1]
      exact .inl rfl
    · have holds : ∀ j u, xs[j]? = some u → W.cell? ((⟨g, 0, none⟩ : Addr).add j) = some u := hown.cells (g := g) rfl
      have hxl : xs.length = n := by simpa using hown.1
      have hr2 := Lib.run_append_grow_string (P := Tryz.prog) W 25 9 ty 5 i0 (.int .u8 0) Tryz.underlying25 Tryz.underlying9 hi0 hz0 ⟨g, 0, none⟩ n cap xs (by rw [hz1]; simpa using hxl) holds ⟨x.toArray⟩ (by rw [hsize]; omega) (by rw [hsize]; omega) (by rw [hz2, hsize]; exact growslice_fits (by omega) (by omega))
      rw [hr] at hr2
      simp only [Result.ok.injEq] at hr2
      rw [hr2.1]
      exact .inr rfl

theorem wpList_append_txt {ops : Array Oper} {rest : List Oper} {o : Oper} {a : Act} {Q : Exit → Act → World → Prop} {W : World} (hgd : o.guard = none) (s x : Operand)
    (ho : o.op = .call { callee := .builtin .append, args := #[s, x], argTypes := #[25, 9] })
    (B n : Nat) (v : Value) (t : Txt) (xs : List Value) (hsv : a.eval s = v) (hxv : a.eval x = encStr t) (hown : W.ownsRow B 5 1 v n xs) (hB : B ≤ W.heap.size) (hbytes : n + t.length ≤ 140737488355328)
    (h : ∀ v' w', w'.ownsRow B 5 1 v' (n + t.length) (xs ++ octs (nums t)) → W.grownBy w' v.ownBlock → (v'.ownBlock = v.ownBlock ∨ v'.ownBlock = some W.heap.size) → wpList Tryz.prog ops Q rest (a.put o.dst v') w') : wpList Tryz.prog ops Q (o :: rest) a W :=
  wpList_plain hgd fun K hK => by
    obtain ⟨v', w', hr, h2, h3, h4⟩ := run_append_txt hown hB t hbytes o.type
    unfold Oper.wp execOp
    simp only [ho, resolve, invoke, builtin, Sem.run_bind, Sem.run_pure, Result.andThen_ok, List.map_toArray, List.map_cons, List.map_nil, hsv, hxv, hr]
    exact hK _ _ (h v' w' h2 h3 h4)


theorem free_grown {K : Nat → Prop} {v v' : Value} {W : World} (h : Free K v) (hK : ∀ k, K k → k < W.heap.size) (hv : v'.ownBlock = v.ownBlock ∨ v'.ownBlock = some W.heap.size) : Free K v' := fun g hg hk => by
  rcases hv with e | e
  · exact h g (e ▸ hg) hk
  · rw [e] at hg
    cases hg
    exact Nat.lt_irrefl _ (hK _ hk)
end Go.Proofs.YtaoggppfimfhbaaGreatDoor
namespace Go.Proofs.YtaoggppfimfhbaaGreatDoor
open Go Go.RowKit Go.Ix


def EncEnd (l : List Ent) (w : World) (e : Ending) (w' : World) : Prop :=
  ((¬ May l ∧ e = .returned (.tuple #[.slice none 0 0, .int .u16 140])) ∨ (May l ∧ ∃ v, e = .returned (.tuple #[v, .int .u16 0]) ∧ Row8 w' w.heap.size v (encd crc l))) ∧ Below w.heap.size w w'

theorem ent_sizes {l : List Ent} (hs : ∀ e ∈ l, e.2.length ≤ 4000) (hmay : May l) : ∀ e ∈ l, e.1.length ≤ 64 ∧ e.2.length ≤ 4000 := fun e he => ⟨(of_check (hmay.ent he).1).1, hs e he⟩

theorem TextsAt.kept {K : Nat → Prop} {w W : World} {o : Option Addr} {ss : List Txt} (h : TextsAt w o ss) (hb : Kept K w W) (hK : ∀ b off, o = some ⟨b, off, none⟩ → K b) : TextsAt W o ss := fun hne => by
  obtain ⟨b, off, e, hc⟩ := h hne
  exact ⟨b, off, e, fun k s hs => (hb.cell (p := ⟨b, off + k, none⟩) (hK b off e)).trans (hc k s hs)⟩
theorem wrap_u64n (n : Int) : IntKind.u64.wrap n = ((Go.Ix.u64 n : Nat) : Int) := by
  rw [IntKind.wrap_u64]
  unfold Go.Ix.u64
  omega
theorem u64_lt (n : Int) : Go.Ix.u64 n < 18446744073709551616 := by
  unfold Go.Ix.u64
  omega
theorem headPart_zero (ss : List Txt) : headPart ss 0 = magic ++ low 4 ss.length := by simp [headPart, symPart]
theorem headPart_step {ss : List Txt} {k : Nat} {s : Txt} (h : ss[k]? = some s) : headPart ss (k + 1) = headPart ss k ++ low 2 s.length ++ nums s := by
  unfold headPart
  rw [List.take_add_one, h]
  show _ ++ symPart (ss.take k ++ [s]) = _
  rw [symPart_snoc]
  simp [List.append_assoc]
theorem entsPart_zero (ss : List Txt) (l : List Ent) : entsPart ss l 0 = headPart ss ss.length ++ low 4 l.length := by simp [entsPart]
theorem entsPart_step {ss : List Txt} {l : List Ent} {k : Nat} {e : Ent} (h : l[k]? = some e) : entsPart ss l (k + 1) = entsPart ss l k ++ entPart ss e := by
  unfold entsPart
  rw [List.take_add_one, h]
  simp [List.append_assoc]

set_option maxRecDepth 20000 in
set_option maxHeartbeats 8000000 in
theorem rencode_rows (o : Option Addr) (c : Nat) (l : List Ent) (w : World) (hs : Small l) (hL : lblsOf l ≤ 4000) (h60 : l.length ≤ 60) (hch : ∀ e ∈ l, e.2.length ≤ 4000) (hc : RowsE w o l) : Calls Tryz.prog 10 #[.slice o l.length c] w (EncEnd l w) := by
  obtain ⟨i0, hi0, hz0, hz1, hz2⟩ := info_parts Tryz.info5
  have Hc := Lib.hid hc
  have Hs := Lib.hid hs
  have HL := Lib.hid hL
  have Hch := Lib.hid hch
  have HM := Lib.hid (rmay_rows o c l w hs hc)
  clear hc hs hL hch
  generalize hm : l.length = m at *
  have Hm := Lib.hid hm
  clear hm
  by_cases hmay : May l
  · have Hmay := Lib.hid hmay
    clear hmay
    have HY : Hid (∀ W, Below w.heap.size w W → Calls Tryz.prog 33 #[.slice o m c] W fun e w' => ∃ v, e = .returned v ∧ RowT w' W.heap.size v (symbols l) ∧ Below W.heap.size W w') := Lib.hid (fun W hW => by
      have := symbols_rows o c l W Hs.out (by have := HL.out; omega) (Hc.out.olds (Olds.of_below hW))
      rwa [Hm.out] at this)
    have hsl : (symbols l).length ≤ 8000 := by
      have h1 := rise_len (texts l)
      have h2 := texts_len l
      have h3 := HL.out
      unfold symbols
      omega
    have Hsok : Hid (∀ s ∈ symbols l, s.length ≤ 1024) := Lib.hid (fun s hs => (sym_ok Hmay.out hs).2)
    have HG : Hid (∀ (i k : Nat) (s x : Txt), (symbols l)[i]? = some s → (symbols l)[k]? = some x → ofL l s x = grp (seqs (symbols l) l) (i, k)) := Lib.hid (fun i k s x => of_grp Hmay.out)
    have HGl : Hid (∀ p, (grp (seqs (symbols l) l) p).length ≤ 60) := Lib.hid (fun p => by have := (grp_bound Hmay.out p).1; rw [Hm.out] at this; omega)
    have HG60 : Hid (∀ p, ∀ z ∈ grp (seqs (symbols l) l) p, z < 60) := Lib.hid (fun p z hz => by have := (grp_bound Hmay.out p).2 z hz; rw [Hm.out] at this; omega)
    have Hbody : Hid (body l = entsPart (symbols l) l l.length ++ postPart (symbols l).length (grp (seqs (symbols l) l))) := Lib.hid (body_eq l)
    have Hrise : Hid (Rising (symbols l)) := Lib.hid (rise_rising _)
    have Hmem : Hid (∀ e ∈ l, ∀ y ∈ e.1, y.1 ∈ symbols l ∧ y.2 ∈ symbols l) := Lib.hid (fun e he y hy => texts_mem he hy)
    have Hsz := Lib.hid (ent_sizes Hch.out Hmay.out)
    generalize hG0 : grp (seqs (symbols l) l) = G at *
    generalize hss : symbols l = ss at *
    clear hG0 hss
    generalize hn3 : ss.length = n3 at *
    have Hn3 := Lib.hid hn3
    clear hn3
    go_enter Tryz.func10, Tryz.ntmps10
    go_wp2_with (first
      | (go_at_call 32; refine HM.out.mono ?_; clear HM; rintro e w1 ⟨hsay, b1⟩; have B1 := Lib.hid b1; have hs1 := b1.size; clear b1; rcases hsay with ⟨rfl, hname⟩ | ⟨rfl, hname⟩; rotate_left; exact absurd Hmay.out hname)
      | (at_builtin; refine wpList_append_txt rfl _ _ rfl w.heap.size 0 (.slice none 0 0) [66, 71, 73, 88] [] rfl rfl (World.ownsRow_nil _ _ _ _) hs1 (by decide) ?_; intro v2 w2 hown2 hgrow2 hat2; have hown2' : w2.ownsRow w.heap.size 5 1 v2 4 (octs magic) := hown2; obtain ⟨o2, c2, rfl, _⟩ := ownsRow_shape hown2'; have Hown2 := Lib.hid hown2'; have B2 := Lib.hid (B1.out.grown hgrow2 hs1 (fun k hk => by cases hk)); have hs2 := B2.out.size; have HY2 := Lib.hid (HY.out w2 B2.out); clear hown2 hown2' hgrow2 hat2)
      | (go_at_call 33; refine HY2.out.mono ?_; clear HY2; rintro e w3 ⟨v3, rfl, hrow3, b3⟩; obtain ⟨o3, c3, rfl, hts⟩ := hrow3.shape; have Hts := Lib.hid hts; have Hrow3 := Lib.hid hrow3; have B3 := Lib.hid b3; have hs3 := b3.size; clear hrow3 b3 hts; rw [Hn3.out]))
    obtain ⟨K, hKd⟩ : ∃ K : Nat → Prop, ∀ b, K b ↔ (b < w.heap.size ∨ (Value.slice o3 n3 c3).ownBlock = some b) := ⟨_, fun _ => Iff.rfl⟩
    have Hrow3' : Hid (w3.ownsRow w2.heap.size 9 1 (.slice o3 n3 c3) n3 (ss.map encStr)) := Lib.hid (by
      have h9 := Hrow3.out
      unfold RowT at h9
      rwa [Hn3.out] at h9)
    have HK3 : Hid (∀ b, K b → b < w3.heap.size) := Lib.hid (fun b hb => by
      rcases (hKd b).1 hb with h | h
      · omega
      · exact (ownsRow_block Hrow3'.out h).2)
    have HK0 : Hid (∀ b, b < w.heap.size → K b) := Lib.hid (fun b hb => (hKd b).2 (.inl hb))
    have HKs : Hid (∀ b off, o3 = some ⟨b, off, none⟩ → K b) := Lib.hid (fun b off h => (hKd b).2 (.inr (by rw [h]; rfl)))
    have Hf2 : Hid (Free K (.slice o2 4 c2)) := Lib.hid (fun g hg h => by
      have h1 := ownsRow_block Hown2.out hg
      rcases (hKd g).1 h with h | h
      · omega
      · have := (ownsRow_block Hrow3'.out h).1
        omega)
    have Hb3 : Hid (Below w.heap.size w w3) := Lib.hid (B2.out.trans (B3.out.mono hs2))
    have HP : Hid (∀ (W : World) (v : Value) (bs : List Nat) (num many : Nat), Row8 W w.heap.size v bs → Free K v → Kept K w3 W → num < 18446744073709551616 → many ≤ 8 → bs.length ≤ 100000000000 → Calls Tryz.prog 34 #[v, .int .u64 num, .int .i64 many] W fun e w' => ∃ o' c', e = .returned (.slice o' (bs.length + many) c') ∧ Row8 w' w.heap.size (.slice o' (bs.length + many) c') (bs ++ low many num) ∧ Free K (.slice o' (bs.length + many) c') ∧ Kept K w3 w') := Lib.hid (fun W v bs num many h1 h2 h3 h4 h5 h6 => by
      have h8 := h3.size
      refine (put_any num many h1 h2 (fun b hb => by have := HK3.out b hb; omega) (by omega) h4 h5 h6).mono fun e w' ⟨v', g1, g2, g3, g4⟩ => ?_
      obtain ⟨o', c', e'⟩ := g2.shape
      rw [List.length_append, low_len] at e'
      subst e'
      exact ⟨o', c', g1, g2, g3, h3.trans g4⟩)
    have HPK : Hid (∀ (K' : Nat → Prop) (W0 W : World) (v : Value) (bs : List Nat) (num many : Nat), (∀ b, K' b → b < W0.heap.size) → w.heap.size ≤ W0.heap.size → Row8 W w.heap.size v bs → Free K' v → Kept K' W0 W → num < 18446744073709551616 → many ≤ 8 → bs.length ≤ 100000000000 → Calls Tryz.prog 34 #[v, .int .u64 num, .int .i64 many] W fun e w' => ∃ o' c', e = .returned (.slice o' (bs.length + many) c') ∧ Row8 w' w.heap.size (.slice o' (bs.length + many) c') (bs ++ low many num) ∧ Free K' (.slice o' (bs.length + many) c') ∧ Kept K' W0 w') := Lib.hid (fun K' W0 W v bs num many h0 h00 h1 h2 h3 h4 h5 h6 => by
      have h8 := h3.size
      refine (put_any num many h1 h2 (fun b hb => by have := h0 b hb; omega) (by omega) h4 h5 h6).mono fun e w' ⟨v', g1, g2, g3, g4⟩ => ?_
      obtain ⟨o', c', e'⟩ := g2.shape
      rw [List.length_append, low_len] at e'
      subst e'
      exact ⟨o', c', g1, g2, g3, h3.trans g4⟩)
    have Hrow2 : Hid (Row8 w3 w.heap.size (.slice o2 4 c2) magic) := Lib.hid (ownsRow_olds Hown2.out (Olds.of_below B3.out))
    have hK9 := hKd
    clear hKd hK9
    refine (HP.out w3 _ magic n3 4 Hrow2.out Hf2.out (Kept.refl _ _) (by omega) (by decide) (by decide)).mono ?_
    rintro e w4 ⟨o4, c4, rfl, hrow4, hfree4, hkept4⟩
    have Hrow4 := Lib.hid hrow4
    have Hfree4 := Lib.hid hfree4
    have Hkept4 := Lib.hid hkept4
    clear hrow4 hfree4 hkept4
    go_wp2_with fail
    go_loopw [5, 7] (fun bv iv wr => ∃ k : Nat, k ≤ n3 ∧ iv = .int .i64 k ∧ Row8 wr w.heap.size bv (headPart ss k) ∧ Free K bv ∧ Kept K w3 wr) (fun _ iv _ => n3 - (intOf iv).toNat)
    case atStart => exact ⟨0, Nat.zero_le _, rfl, by rw [headPart_zero, Hn3.out]; exact Hrow4.out, Hfree4.out, Hkept4.out⟩
    case round =>
      obtain ⟨k, hk, rfl, hrow, hfree, hkept⟩ := hrel
      have Hrow := Lib.hid hrow
      have Hfree := Lib.hid hfree
      have Hkept := Lib.hid hkept
      have Htr := Lib.hid (Hts.out.kept hkept HKs.out)
      have hszr := hkept.size
      obtain ⟨ob, cb, hbv⟩ := hrow.shape
      subst hbv
      have hhl := headPart_len Hsok.out k
      rw [Hn3.out] at hhl
      clear hrow hfree hkept
      generalize hN : (headPart ss k).length = N at *
      have HN := Lib.hid hN
      clear hN
      by_cases hkn : k < n3
      · obtain ⟨sb, soff, x, rfl, hx, hcx⟩ := Htr.out.at (k := k) (by rw [Hn3.out]; exact hkn)
        have Hx := Lib.hid hx
        have hxl := Hsok.out x (List.mem_of_getElem? hx)
        have Hst : Hid (headPart ss (k + 1) = headPart ss k ++ low 2 x.length ++ nums x) := Lib.hid (headPart_step hx)
        clear hx
        have Hcx3 : Hid (w3.cell? ⟨sb, soff + k, none⟩ = some (encStr x)) := Lib.hid ((Hkept.out.cell (p := ⟨sb, soff + k, none⟩) (HKs.out sb soff rfl)).symm.trans hcx)
        have HP1 := Lib.hid (HP.out wr _ _ x.length 2 Hrow.out Hfree.out Hkept.out (by omega) (by decide) (by rw [HN.out]; omega))
        rw [HN.out] at HP1
        go_wp2_with (first
          | (go_at_call 34; refine HP1.out.mono ?_; clear HP1; rintro e w5 ⟨o5, c5, rfl, hrow5, hfree5, hkept5⟩; have Hrow5 := Lib.hid hrow5; have Hfree5 := Lib.hid hfree5; have Hkept5 := Lib.hid hkept5; have hs5 := hkept5.size; have hcx5 := (hkept5.cell (p := ⟨sb, soff + k, none⟩) (HKs.out sb soff rfl)).trans Hcx3.out; clear hrow5 hfree5 hkept5)
          | (at_builtin; refine wpList_append_txt rfl _ _ rfl w.heap.size (N + 2) (.slice o5 (N + 2) c5) x (octs (headPart ss k ++ low 2 x.length)) rfl rfl (by have h9 := Hrow5.out; unfold Row8 at h9; rwa [List.length_append, low_len, HN.out] at h9) (by omega) (by omega) ?_; intro v6 w6 hown6 hgrow6 hat6; rw [← octs_append] at hown6; have Hown6 : Hid (Row8 w6 w.heap.size v6 (headPart ss k ++ low 2 x.length ++ nums x)) := Lib.hid (by unfold Row8; rw [List.length_append, List.length_append, low_len, HN.out, nums_len]; exact hown6); have Hk6 := Lib.hid (Hkept5.out.grown hgrow6 HK3.out Hfree5.out); have Hf6 := Lib.hid (free_grown Hfree5.out (fun b hb => by have := HK3.out b hb; omega) hat6); clear hown6 hgrow6 hat6))
        go_roundw
        case rel => exact ⟨k + 1, by omega, by go_num, by rw [Hst.out]; exact Hown6.out, Hf6.out, Hk6.out⟩
        case measure => simp [intOf]; omega
      · obtain rfl : n3 = k := by omega
        have HP1 := Lib.hid (HP.out wr _ _ m 4 Hrow.out Hfree.out Hkept.out (by omega) (by decide) (by rw [HN.out]; omega))
        rw [HN.out] at HP1
        go_wp2_with (go_at_call 34; refine HP1.out.mono ?_; clear HP1; rintro e w5 ⟨o5, c5, rfl, hrow5, hfree5, hkept5⟩; have Hrow5 := Lib.hid hrow5; have Hfree5 := Lib.hid hfree5; have Hkept5 := Lib.hid hkept5; clear hrow5 hfree5 hkept5)
        have HO : Hid (∀ W, Kept K w3 W → Olds w W) := Lib.hid (fun W hW => Olds.of_below (Hb3.out.trans (hW.below HK0.out)))
        have HN35 : Hid (∀ (W : World) (s : Txt), Kept K w3 W → s ∈ ss → Calls Tryz.prog 35 #[.slice o3 n3 c3, encStr s] W fun e w' => e = .returned (.int .i64 (idx ss s : Nat)) ∧ W = w') := Lib.hid (fun W s hW hs => number_rows o3 c3 n3 ss s W Hn3.out (by omega) (Hts.out.kept hW HKs.out) Hrise.out hs)
        go_loopw [5, 8, 9, 10, 11, 12, 13] (fun bv iv _ _ _ _ _ wr => ∃ k : Nat, k ≤ m ∧ iv = .int .i64 k ∧ Row8 wr w.heap.size bv (entsPart ss l k) ∧ Free K bv ∧ Kept K w3 wr) (fun _ iv _ _ _ _ _ _ => m - (intOf iv).toNat)
        case atStart => exact ⟨0, Nat.zero_le _, rfl, by rw [entsPart_zero, Hn3.out, Hm.out]; exact Hrow5.out, Hfree5.out, Hkept5.out⟩
        case round =>
          obtain ⟨k, hk, rfl, hrow, hfree, hkept⟩ := hrel
          have Hrow := Lib.hid hrow
          have Hfree := Lib.hid hfree
          have Hkept := Lib.hid hkept
          have hszr := hkept.size
          obtain ⟨ob, cb, hbv⟩ := hrow.shape
          subst hbv
          have hel := entsPart_len Hsok.out Hsz.out k
          rw [Hn3.out, Hm.out] at hel
          clear hrow hfree hkept
          generalize hM : (entsPart ss l k).length = M at *
          have HM2 := Lib.hid hM
          clear hM
          by_cases hkm : k < m
          · obtain ⟨b, off, e1, e2, o1, n1, c1, o2, n2, c2, rfl, hx, hc1, hc2, hl1, hl2, hr1, hr2, _⟩ := Hc.out.at (k := k) (by rw [Hm.out]; exact hkm)
            obtain ⟨hs1, hs2⟩ := Hsz.out _ (List.mem_of_getElem? hx)
            simp only at hs1 hs2
            have hn1 : n1 ≤ 64 := by omega
            have hn2 : n2 ≤ 4000 := by omega
            have Hx := Lib.hid hx
            have Hr1 := Lib.hid hr1
            have Hr2 := Lib.hid hr2
            have Hl1 := Lib.hid hl1
            have Hl2 := Lib.hid hl2
            have hcr1 := (HO.out wr Hkept.out).cell hc1
            clear hx hr1 hr2 hl1 hl2 hs1 hs2
            have Hown : Hid (wr.ownsRow w.heap.size 5 1 (.slice ob M cb) M (octs (entsPart ss l k))) := Lib.hid (by
              have h9 := Hrow.out
              unfold Row8 at h9
              rwa [HM2.out] at h9)
            go_wp2_with (at_builtin; refine wpList_append_lies _ rfl _ _ _ rfl w.heap.size 5 i0 _ 1 1 Tryz.underlying25 hi0 hz0 hz1 hz2 rfl Nat.one_pos (.slice ob M cb) M (octs (entsPart ss l k)) rfl (ownsRow_olds Hown.out (Olds.alloc _ _)) ⟨wr.heap.size, 0, none⟩ 1 1 [.int .u8 (n1 : Int)] rfl rfl (World.news_of_block (cs := #[.int .u8 (n1 : Int)]) (t := 5) (fr := (0, 0)) (heap_alloc_new wr _)) (by simp [Value.oneCell']) Nat.one_pos (by unfold maxLen; omega) (by omega) (by simp; omega) (wr.heap.size + 1) (by simp) ?_; intro g6 c6 w6 hown6 hgrow6 hat6 hlt6; have Hrow6 : Hid (Row8 w6 w.heap.size (.slice (some ⟨g6, 0, none⟩) (M + 1) c6) (entsPart ss l k ++ low 1 n1)) := Lib.hid (by unfold Row8; rw [List.length_append, low_len, HM2.out, octs_append, show low 1 n1 = [n1] by simp [low]; omega]; exact hown6); have Hk6 : Hid (Kept K w3 w6) := Lib.hid ((Hkept.out.alloc HK3.out _).grown hgrow6 HK3.out Hfree.out); have Hf6 : Hid (Free K (.slice (some ⟨g6, 0, none⟩) (M + 1) c6)) := Lib.hid (fun g hg hkk => by cases hg; rcases hat6 with e | e; exact Hfree.out g6 e hkk; have := HK3.out g6 hkk; omega); clear hown6 hgrow6 hat6)
            go_loopw [5, 9, 10, 11] (fun bv jv _ _ wq => ∃ j : Nat, j ≤ n1 ∧ jv = .int .i64 j ∧ Row8 wq w.heap.size bv (entsPart ss l k ++ low 1 n1 ++ (e1.take j).flatMap (lblPart ss)) ∧ Free K bv ∧ Kept K w3 wq) (fun _ jv _ _ _ => n1 - (intOf jv).toNat)
            case atStart => exact ⟨0, Nat.zero_le _, rfl, by rw [List.take_zero, List.flatMap_nil, List.append_nil]; exact Hrow6.out, Hf6.out, Hk6.out⟩
            case round =>
              obtain ⟨j, hj, rfl, hrow, hfree, hkept⟩ := hrel
              have Hrowq := Lib.hid hrow
              have Hfreeq := Lib.hid hfree
              have Hkeptq := Lib.hid hkept
              have hszq := hkept.size
              have hcq := (HO.out wr hkept).cell hc1
              have hcq2 := (HO.out wr hkept).cell hc2
              obtain ⟨oq, cq, hbv⟩ := hrow.shape
              subst hbv
              have hlq : (entsPart ss l k ++ low 1 n1 ++ (e1.take j).flatMap (lblPart ss)).length ≤ 100000000 := by
                rw [List.length_append, List.length_append, low_len, flat_const_len (lblPart_len ss), List.length_take, HM2.out]
                omega
              clear hrow hfree hkept
              generalize hZ : (entsPart ss l k ++ low 1 n1 ++ (e1.take j).flatMap (lblPart ss)).length = Z at *
              have HZ := Lib.hid hZ
              clear hZ
              by_cases hjn : j < n1
              · obtain ⟨b2, off2, y1, y2, rfl, hy, hy1, hy2⟩ := Hr1.out.at (k := j) (by rw [Hl1.out]; exact hjn)
                have hyq1 := (HO.out wr Hkeptq.out).cell hy1
                have hyq2 := (HO.out wr Hkeptq.out).cell hy2
                have Hy := Lib.hid hy
                have hmem := Hmem.out _ (List.mem_of_getElem? Hx.out) _ (List.mem_of_getElem? hy)
                have hi1 := idx_lt hmem.1
                have hi2 := idx_lt hmem.2
                rw [Hn3.out] at hi1 hi2
                have HNa := Lib.hid (HN35.out wr y1 Hkeptq.out hmem.1)
                have HNb := Lib.hid (HN35.out wr y2 Hkeptq.out hmem.2)
                have Htk : Hid (entsPart ss l k ++ low 1 n1 ++ (e1.take (j + 1)).flatMap (lblPart ss) = (entsPart ss l k ++ low 1 n1 ++ (e1.take j).flatMap (lblPart ss)) ++ low 4 (idx ss y1) ++ low 4 (idx ss y2)) := Lib.hid (by
                  rw [take_snoc hy, List.flatMap_append]
                  simp [lblPart, List.append_assoc])
                clear hy hmem hy1 hy2
                generalize idx ss y1 = i1 at *
                generalize idx ss y2 = i2 at *
                have HPa := Lib.hid (HP.out wr _ _ i1 4 Hrowq.out Hfreeq.out Hkeptq.out (by omega) (by decide) (by rw [HZ.out]; omega))
                rw [HZ.out] at HPa
                go_wp2_with (first
                  | (go_at_call 35; refine HNa.out.mono ?_; clear HNa; rintro e w' ⟨rfl, rfl⟩)
                  | (go_at_call 35; refine HNb.out.mono ?_; clear HNb; rintro e w' ⟨rfl, rfl⟩)
                  | (go_at_call 34; refine HPa.out.mono ?_; clear HPa; rintro e w7 ⟨o7, c7, rfl, hrow7, hfree7, hkept7⟩; have HPb := Lib.hid (HP.out w7 _ _ i2 4 hrow7 hfree7 hkept7 (by omega) (by decide) (by rw [List.length_append, low_len, HZ.out]; omega)); rw [List.length_append, low_len, HZ.out] at HPb; clear hrow7 hfree7 hkept7)
                  | (go_at_call 34; refine HPb.out.mono ?_; clear HPb; rintro e w8 ⟨o8, c8, rfl, hrow8, hfree8, hkept8⟩; have Hrow8 := Lib.hid hrow8; have Hfree8 := Lib.hid hfree8; have Hkept8 := Lib.hid hkept8; clear hrow8 hfree8 hkept8))
                go_roundw
                case rel => exact ⟨j + 1, by omega, by go_num, by rw [Htk.out]; exact Hrow8.out, Hfree8.out, Hkept8.out⟩
                case measure => simp [intOf]; omega
              · have Hall : Hid (entsPart ss l k ++ low 1 n1 ++ (e1.take j).flatMap (lblPart ss) = entsPart ss l k ++ low 1 n1 ++ e1.flatMap (lblPart ss)) := Lib.hid (by rw [List.take_of_length_le (l := e1) (by rw [Hl1.out]; omega)])
                have HPa := Lib.hid (HP.out wr _ _ n2 4 Hrowq.out Hfreeq.out Hkeptq.out (by omega) (by decide) (by rw [HZ.out]; omega))
                rw [HZ.out] at HPa
                go_wp2_with (go_at_call 34; refine HPa.out.mono ?_; clear HPa; rintro e w7 ⟨o7, c7, rfl, hrow7, hfree7, hkept7⟩; have Hrow7 := Lib.hid hrow7; have Hfree7 := Lib.hid hfree7; have Hkept7 := Lib.hid hkept7; clear hrow7 hfree7 hkept7)
                go_loopw [5, 12, 13] (fun bv jv _ wq => ∃ j : Nat, j ≤ n2 ∧ jv = .int .i64 j ∧ Row8 wq w.heap.size bv (entsPart ss l k ++ low 1 n1 ++ e1.flatMap (lblPart ss) ++ low 4 n2 ++ (e2.take j).flatMap plcPart) ∧ Free K bv ∧ Kept K w3 wq) (fun _ jv _ _ => n2 - (intOf jv).toNat)
                case atStart => exact ⟨0, Nat.zero_le _, rfl, by rw [List.take_zero, List.flatMap_nil, List.append_nil, ← Hall.out]; exact Hrow7.out, Hfree7.out, Hkept7.out⟩
                case round =>
                  obtain ⟨q, hq, rfl, hrow, hfree, hkept⟩ := hrel
                  have Hrowp := Lib.hid hrow
                  have Hfreep := Lib.hid hfree
                  have Hkeptp := Lib.hid hkept
                  have hszp := hkept.size
                  have hcp2 := (HO.out wr hkept).cell hc2
                  obtain ⟨op, cp, hbv⟩ := hrow.shape
                  subst hbv
                  have hlp : (entsPart ss l k ++ low 1 n1 ++ e1.flatMap (lblPart ss) ++ low 4 n2 ++ (e2.take q).flatMap plcPart).length ≤ 100000000 := by
                    rw [List.length_append, List.length_append, List.length_append, List.length_append, low_len, low_len, flat_const_len (lblPart_len ss), flat_const_len plcPart_len, List.length_take, HM2.out, Hl1.out]
                    omega
                  clear hrow hfree hkept
                  generalize hS : entsPart ss l k ++ low 1 n1 ++ e1.flatMap (lblPart ss) ++ low 4 n2 = S at *
                  have HS := Lib.hid hS
                  clear hS
                  generalize hY : (S ++ (e2.take q).flatMap plcPart) = Y at *
                  have HY := Lib.hid hY
                  clear hY
                  generalize hZY : Y.length = ZY at *
                  have HZY := Lib.hid hZY
                  clear hZY
                  by_cases hqn : q < n2
                  · obtain ⟨b5, off5, p, rfl, hp, hp0, hp1, hp2, hp3, hp4⟩ := Hr2.out.at (k := q) (by rw [Hl2.out]; exact hqn)
                    have Hp := Lib.hid hp
                    obtain ⟨h01, h02, h03, h04, h05, h06, h07, h08, h09⟩ := (Hmay.out.ent (List.mem_of_getElem? Hx.out)).2.plc (List.mem_of_getElem? hp)
                    have hq0 := (HO.out wr Hkeptp.out).cell hp0
                    have hq1 := (HO.out wr Hkeptp.out).cell hp1
                    have hq2 := (HO.out wr Hkeptp.out).cell hp2
                    have hq3 := (HO.out wr Hkeptp.out).cell hp3
                    have hq4 := (HO.out wr Hkeptp.out).cell hp4
                    unfold far at h02 h03
                    have Htk : Hid (S ++ (e2.take (q + 1)).flatMap plcPart = Y ++ low 8 (Go.Ix.u64 p.fr) ++ low 8 (Go.Ix.u64 p.til) ++ low 2 (Go.Ix.u64 p.num) ++ low 4 (Go.Ix.u64 p.pos) ++ low 4 (Go.Ix.u64 p.siz)) := Lib.hid (by
                      rw [take_snoc hp, List.flatMap_append, ← List.append_assoc, HY.out]
                      simp [plcPart, List.append_assoc])
                    clear hp hp0 hp1 hp2 hp3 hp4
                    obtain ⟨p0, p1, p2, p3, p4⟩ := p
                    simp only at hq0 hq1 hq2 hq3 hq4 h01 h02 h03 h04 h05 h06 h07 h08 h09
                    obtain ⟨k2, rfl⟩ := Int.eq_ofNat_of_zero_le (show 0 ≤ p2 by omega)
                    obtain ⟨k3, rfl⟩ := Int.eq_ofNat_of_zero_le (show 0 ≤ p3 by omega)
                    obtain ⟨k4, rfl⟩ := Int.eq_ofNat_of_zero_le (show 0 ≤ p4 by omega)
                    rw [u64_nat (n := k2) (by omega), u64_nat (n := k3) (by omega), u64_nat (n := k4) (by omega)] at Htk
                    have hw0 : IntKind.u64.wrap p0 = ((Go.Ix.u64 p0 : Nat) : Int) := wrap_u64n p0
                    have hw1 : IntKind.u64.wrap p1 = ((Go.Ix.u64 p1 : Nat) : Int) := wrap_u64n p1
                    have hu0 := u64_lt p0
                    have hu1 := u64_lt p1
                    generalize Go.Ix.u64 p0 = k0 at *
                    generalize Go.Ix.u64 p1 = k1 at *
                    obtain ⟨A, hA⟩ : ∃ A : World, A = wr.alloc (.cells #[.int .i64 p0, .int .i64 p1, .int .i64 (k2 : Int), .int .i64 (k3 : Int), .int .i64 (k4 : Int)] 107) := ⟨_, rfl⟩
                    have hAs : A.heap.size = wr.heap.size + 1 := by rw [hA]; simp
                    have hAb : A.heap[wr.heap.size]? = some (.cells #[.int .i64 p0, .int .i64 p1, .int .i64 (k2 : Int), .int .i64 (k3 : Int), .int .i64 (k4 : Int)] 107 (0, 0)) := by rw [hA]; exact heap_alloc_new _ _
                    have HA1 : Hid (A.cell? ⟨wr.heap.size, 1, none⟩ = some (.int .i64 p1)) := Lib.hid (by simp [World.cell?, hAb])
                    have HA2 : Hid (A.cell? ⟨wr.heap.size, 2, none⟩ = some (.int .i64 (k2 : Int))) := Lib.hid (by simp [World.cell?, hAb])
                    have HA3 : Hid (A.cell? ⟨wr.heap.size, 3, none⟩ = some (.int .i64 (k3 : Int))) := Lib.hid (by simp [World.cell?, hAb])
                    have HA4 : Hid (A.cell? ⟨wr.heap.size, 4, none⟩ = some (.int .i64 (k4 : Int))) := Lib.hid (by simp [World.cell?, hAb])
                    have HKA : Hid (Kept K w3 A) := Lib.hid (by rw [hA]; exact Hkeptp.out.alloc HK3.out _)
                    have HrowA : Hid (Row8 A w.heap.size (.slice op ZY cp) Y) := Lib.hid (by rw [hA]; exact ownsRow_olds Hrowp.out (Olds.alloc _ _))
                    have HfA : Hid (Free (fun b => K b ∨ b = wr.heap.size) (.slice op ZY cp)) := Lib.hid (fun g hg h => by
                      have := ownsRow_block Hrowp.out hg
                      rcases h with h | h
                      · exact Hfreep.out g hg h
                      · omega)
                    have HKs5 : Hid (∀ b, (K b ∨ b = wr.heap.size) → b < A.heap.size) := Lib.hid (fun b hb => by
                      rcases hb with hb | rfl
                      · have := HK3.out b hb
                        omega
                      · omega)
                    have hAw : w.heap.size ≤ A.heap.size := by omega
                    have HPa := Lib.hid (HPK.out _ A A _ _ k0 8 HKs5.out hAw HrowA.out HfA.out (Kept.refl _ _) hu0 (by decide) (by rw [HZY.out]; omega))
                    rw [HZY.out] at HPa
                    rw [hA] at HPa
                    clear hAb
                    go_wp2_with (first
                      | (go_at_call 34; refine HPa.out.mono ?_; clear HPa; rw [← hA]; rintro e w7 ⟨o7, c7, rfl, hrow7, hfree7, hkept7⟩; have hc7 := (hkept7.cell (p := ⟨wr.heap.size, 1, none⟩) (.inr rfl)).trans HA1.out; have HPb := Lib.hid (HPK.out _ A w7 _ _ k1 8 HKs5.out hAw hrow7 hfree7 hkept7 hu1 (by decide) (by rw [List.length_append, low_len, HZY.out]; omega)); rw [List.length_append, low_len, HZY.out] at HPb; clear hrow7 hfree7 hkept7)
                      | (go_at_call 34; refine HPb.out.mono ?_; clear HPb; rintro e w8 ⟨o8, c8, rfl, hrow8, hfree8, hkept8⟩; have hc8 := (hkept8.cell (p := ⟨wr.heap.size, 2, none⟩) (.inr rfl)).trans HA2.out; have HPc := Lib.hid (HPK.out _ A w8 _ _ k2 2 HKs5.out hAw hrow8 hfree8 hkept8 (by omega) (by decide) (by rw [List.length_append, List.length_append, low_len, low_len, HZY.out]; omega)); rw [List.length_append, List.length_append, low_len, low_len, HZY.out] at HPc; clear hrow8 hfree8 hkept8)
                      | (go_at_call 34; refine HPc.out.mono ?_; clear HPc; rintro e w9 ⟨o9, c9, rfl, hrow9, hfree9, hkept9⟩; have hc9 := (hkept9.cell (p := ⟨wr.heap.size, 3, none⟩) (.inr rfl)).trans HA3.out; have HPd := Lib.hid (HPK.out _ A w9 _ _ k3 4 HKs5.out hAw hrow9 hfree9 hkept9 (by omega) (by decide) (by rw [List.length_append, List.length_append, List.length_append, low_len, low_len, low_len, HZY.out]; omega)); rw [List.length_append, List.length_append, List.length_append, low_len, low_len, low_len, HZY.out] at HPd; clear hrow9 hfree9 hkept9)
                      | (go_at_call 34; refine HPd.out.mono ?_; clear HPd; rintro e wa ⟨oa, ca, rfl, hrowa, hfreea, hkepta⟩; have hca := (hkepta.cell (p := ⟨wr.heap.size, 4, none⟩) (.inr rfl)).trans HA4.out; have HPe := Lib.hid (HPK.out _ A wa _ _ k4 4 HKs5.out hAw hrowa hfreea hkepta (by omega) (by decide) (by rw [List.length_append, List.length_append, List.length_append, List.length_append, low_len, low_len, low_len, low_len, HZY.out]; omega)); rw [List.length_append, List.length_append, List.length_append, List.length_append, low_len, low_len, low_len, low_len, HZY.out] at HPe; clear hrowa hfreea hkepta)
                      | (go_at_call 34; refine HPe.out.mono ?_; clear HPe; rintro e wb ⟨ob2, cb2, rfl, hrowb, hfreeb, hkeptb⟩; have Hrowb := Lib.hid hrowb; have Hfreeb := Lib.hid hfreeb; have Hkeptb := Lib.hid hkeptb; clear hrowb hfreeb hkeptb))
                    go_roundw
                    case rel => exact ⟨q + 1, by omega, by go_num, by rw [Htk.out]; exact Hrowb.out, fun g hg h => Hfreeb.out g hg (.inl h), HKA.out.trans (Hkeptb.out.mono fun b hb => .inl hb)⟩
                    case measure => simp [intOf]; omega
                  · have Hend : Hid (entsPart ss l (k + 1) = Y) := Lib.hid (by
                      rw [entsPart_step Hx.out]
                      unfold entPart
                      simp only
                      rw [Hl1.out, Hl2.out, ← HY.out, ← HS.out, List.take_of_length_le (l := e2) (by rw [Hl2.out]; omega)]
                      simp [List.append_assoc])
                    go_wp2_with fail
                    go_roundw
                    case rel => exact ⟨k + 1, by omega, by go_num, by rw [Hend.out]; exact Hrowp.out, Hfreep.out, Hkeptp.out⟩
                    case measure => simp [intOf]; omega
          · obtain rfl : m = k := by omega
            have HPO := Lib.hid (rpostings_rows (w0 := w) (w := wr) (K := K) (G := G) (ss := ss) (l := l) o o3 c c3 Hs.out Hc.out (Hb3.out.trans (Hkept.out.below HK0.out)) Hrow.out Hfree.out (fun b hb => by have := HK3.out b hb; omega) HK0.out (Hts.out.kept Hkept.out HKs.out) HKs.out (by rw [Hn3.out]; exact hsl) (by rw [Hm.out]; exact h60) (by rw [HM2.out]; omega) HG.out HGl.out HG60.out)
            rw [Hm.out, Hn3.out] at HPO
            have Hbd : Hid (entsPart ss l m ++ postPart n3 G = body l) := Lib.hid (by rw [Hbody.out, Hm.out])
            have Hbl : Hid ((body l).length ≤ 50000000000) := Lib.hid (by
              rw [← Hbd.out, List.length_append, HM2.out]
              have h1 := postPart_len (n := n3) HGl.out
              have h2 : n3 * n3 ≤ 8000 * 8000 := Nat.mul_le_mul hsl hsl
              omega)
            rw [Hbd.out] at HPO
            have Hby := Lib.hid (body_bytes l)
            have Henc : Hid (encd crc l = body l ++ low 4 (crc (body l))) := Lib.hid rfl
            generalize hbd : body l = bd at *
            clear hbd Hbd Hbody
            generalize hNB : bd.length = NB at *
            have HNB := Lib.hid hNB
            have hNB5 := Hbl.out
            clear hNB
            have hcrc : crc bd < 4294967296 := by
              unfold crc
              exact Nat.xor_lt_two_pow (n := 32) (by decide) (feed_lt _ (by decide) Hby.out)
            generalize hcr : crc bd = cr at *
            have Hcr := Lib.hid hcr
            clear hcr
            go_wp2_with (first
              | (go_at_call 36; refine HPO.out.mono ?_; clear HPO; rintro e w6 ⟨v6, rfl, hrow6, hfree6, hkept6⟩; obtain ⟨o6, c6, hv6⟩ := hrow6.shape; rw [HNB.out] at hv6; subst hv6; have Hkept6 := Lib.hid (Hkept.out.trans hkept6); have HP7 := Lib.hid (HP.out w6 _ _ cr 4 hrow6 hfree6 Hkept6.out (by omega) (by decide) (by rw [HNB.out]; omega)); rw [HNB.out] at HP7; have HS7 : Hid (Calls Tryz.prog 37 #[.slice o6 NB c6] w6 fun e w' => e = .returned (.int .u32 (cr : Nat)) ∧ w6 = w') := Lib.hid (by have h9 := rsum_any (w := w6) (v := .slice o6 NB c6) (bs := bd) (by have h8 := hrow6; unfold Row8 at h8; unfold BytesAt; rw [HNB.out] at h8 ⊢; exact owns_flat h8) (by rw [HNB.out]; omega) Hby.out; rwa [Hcr.out] at h9); clear hrow6 hfree6 hkept6)
              | (go_at_call 37; refine HS7.out.mono ?_; clear HS7; rintro e w' ⟨rfl, rfl⟩)
              | (go_at_call 34; refine HP7.out.mono ?_; clear HP7; rintro e w7 ⟨o7, c7, rfl, hrow7, hfree7, hkept7⟩; have Hrow7 := Lib.hid hrow7; have Hkept7 := Lib.hid hkept7; clear hrow7 hfree7 hkept7))
            go_ret2
            exact ⟨.inr ⟨Hmay.out, _, rfl, by rw [Henc.out]; exact Hrow7.out⟩, Hb3.out.trans (Hkept7.out.below HK0.out)⟩
  · have Hno := Lib.hid hmay
    clear hmay
    go_enter Tryz.func10, Tryz.ntmps10
    go_wp2_with (go_at_call 32; refine HM.out.mono ?_; clear HM; rintro e w1 ⟨hsay, b1⟩; have B1 := Lib.hid b1; clear b1; rcases hsay with ⟨rfl, hname⟩ | ⟨rfl, hname⟩; exact absurd hname Hno.out)
    go_ret2
    exact ⟨.inl ⟨Hno.out, rfl⟩, B1.out⟩
end Go.Proofs.YtaoggppfimfhbaaGreatDoor
