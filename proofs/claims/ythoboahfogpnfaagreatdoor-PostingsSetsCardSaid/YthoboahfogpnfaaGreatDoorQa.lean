/- Contracts over this program: lending, looking, spoiling; the reference And, Or, Not. Their conditions: the slices read as the lists that are named, of at most some thousand numbers. -/
import Derived.Test.YthoboahfogpnfaaGreatDoorPc
import Derived.Maps.AppendAt
import Derived.OwnWalk
import Derived.Deep.RegionWith
set_option linter.unusedSimpArgs false
set_option linter.unusedVariables false
set_option linter.deprecated false
set_option linter.unnecessarySimpa false
namespace Go.Proofs.YthoboahfogpnfaaGreatDoor
open Go Go.RowKit Go.Sort Go.Lib

theorem run_append_nil (base : Option Addr) (l c : Nat) (h : l ≤ c) (ty : TypeId) (W : World) : (Builtin.append_ #[22, 22] ty #[.slice base l c, .slice none 0 0]).run Tryz.prog W = .ok (.slice base l c) W := by
  have hu : (underlying 22).run Tryz.prog W = .ok (.slice 3) W := by kernel_rfl
  have hs : (sizeOf 3).run Tryz.prog W = .ok 1 W := by kernel_rfl
  cases base with
  | none =>
    simp [Builtin.append_, bind, pure, Sem.run_bind', hu, hs, Sem.run, Builtin.lenOf, Builtin.firstCells, h, Sem.bind]
  | some a =>
    simp [Builtin.append_, bind, pure, Sem.run_bind', hu, hs, Sem.run, Builtin.lenOf, Builtin.firstCells, h, storeCells, Sem.bind]

theorem oneCell_ints (zs : List Int) : ∀ u ∈ ints zs, u.oneCell' = true := by
  intro u hu
  unfold ints at hu
  obtain ⟨z, _, rfl⟩ := List.mem_map.1 hu
  simp [Value.oneCell']


theorem run_append_row {W : World} {B : Nat} {v u : Value} {xs zs : List Int} (hown : Owns W B v xs) (hB : B ≤ W.heap.size) (hu : IntsAt W u zs) (hbytes : (xs.length + zs.length) * 8 ≤ 140737488355328) (ty : TypeId) :
    ∃ v' w', (Builtin.append_ #[22, 22] ty #[v, u]).run Tryz.prog W = .ok v' w' ∧ Owns w' B v' (xs ++ zs) ∧ W.grownBy w' v.ownBlock ∧ (v'.ownBlock = v.ownBlock ∨ v'.ownBlock = some W.heap.size) := by
  obtain ⟨j0, hj0, hy0, hy1, hy2⟩ := info_parts info3
  have some_ : ∀ (ad : Addr) (c : Nat), ad.spot = none → (∀ (j : Nat) (x : Value), (ints zs)[j]? = some x → W.cell? (ad.add j) = some x) → ∃ v' w', (Builtin.append_ #[22, 22] ty #[v, .slice (some ad) zs.length c]).run Tryz.prog W = .ok v' w' ∧ Owns w' B v' (xs ++ zs) ∧ W.grownBy w' v.ownBlock ∧ (v'.ownBlock = v.ownBlock ∨ v'.ownBlock = some W.heap.size) := by
    intro ad c _ hc
    obtain ⟨v', w', h1, h2, h3, _, h5⟩ := run_append_own_at (P := Tryz.prog) W B 22 ty 3 j0 _ 1 8 Tryz.underlying22 hj0 hy0 hy1 hy2 rfl Nat.one_pos v xs.length (xs.map (Value.int .i64)) hown ad zs.length c (ints zs) (by simp [ints]) hc (oneCell_ints zs) (by unfold maxLen; omega) hbytes hB
    refine ⟨v', w', h1, ?_, h3, h5⟩
    unfold Owns
    rw [List.length_append, List.map_append]
    exact h2
  rcases hu.cases with ⟨o, c, rfl, rfl, h0⟩ | ⟨b, off, c, rfl, hp, hc⟩
  · cases o with
    | none =>
      obtain rfl := h0 rfl
      obtain ⟨o, c, rfl⟩ := hown.shape
      have hlc : xs.length ≤ c := by
        rcases hown.cases with ⟨e, _⟩ | ⟨g, cap, e, _, _, h, _⟩
        · simp only [Value.slice.injEq] at e; omega
        · simp only [Value.slice.injEq] at e; omega
      exact ⟨_, W, run_append_nil o xs.length c hlc ty W, by rw [List.append_nil]; exact hown, ⟨rfl, rfl, rfl, Nat.le_refl _, fun _ _ _ => rfl⟩, .inl rfl⟩
    | some a =>
      obtain ⟨v', w', h1, h2, h3, _, h5⟩ := run_append_own_at (P := Tryz.prog) W B 22 ty 3 j0 _ 1 8 Tryz.underlying22 hj0 hy0 hy1 hy2 rfl Nat.one_pos v xs.length (xs.map (Value.int .i64)) hown a 0 c [] (by simp) (fun j u h => by simp at h) (fun u h => by simp at h) (by unfold maxLen; simp at hbytes; omega) (by simpa using hbytes) hB
      exact ⟨v', w', h1, by simpa [Owns] using h2, h3, h5⟩
  · exact some_ ⟨b, off, none⟩ c rfl fun j x hx => by
      have := intCells_iff.2 hc j x hx
      rw [show (⟨b, off, none⟩ : Addr).add j = ⟨b, off + j, none⟩ by simp [Addr.add]]
      exact this

theorem wpList_append_row {ops : Array Oper} {rest : List Oper} {o : Oper} {a : Act} {Q : Exit → Act → World → Prop} {W : World} (hgd : o.guard = none) (s x : Operand)
    (ho : o.op = .call { callee := .builtin .append, args := #[s, x], argTypes := #[22, 22] }) (B : Nat) (v u : Value) (xs zs : List Int) (hs : a.eval s = v) (hx : a.eval x = u) (hown : Owns W B v xs) (hB : B ≤ W.heap.size) (hu : IntsAt W u zs)
    (hbytes : (xs.length + zs.length) * 8 ≤ 140737488355328)
    (h : ∀ v' w', Owns w' B v' (xs ++ zs) → W.grownBy w' v.ownBlock → (v'.ownBlock = v.ownBlock ∨ v'.ownBlock = some W.heap.size) → wpList Tryz.prog ops Q rest (a.put o.dst v') w') : wpList Tryz.prog ops Q (o :: rest) a W :=
  wpList_plain hgd fun K hK => by
    obtain ⟨v', w', hr, h2, h3, h4⟩ := run_append_row hown hB hu hbytes o.type
    unfold Oper.wp execOp
    simp only [ho, resolve, invoke, builtin, Sem.run_bind, Sem.run_pure, Result.andThen_ok, List.map_toArray, List.map_cons, List.map_nil, hs, hx, hr]
    exact hK _ _ (h v' w' h2 h3 h4)
end Go.Proofs.YthoboahfogpnfaaGreatDoor
namespace Go.Proofs.YthoboahfogpnfaaGreatDoor
open Go Go.RowKit Go.Sort Go.Lib


def LentRow (W : World) (B : Nat) (v : Value) (zs : List Int) : Prop :=
  ∃ g cap, v = .slice (some ⟨g, 0, none⟩) zs.length cap ∧ Owns W B (.slice (some ⟨g, 0, none⟩) (zs.length + 2) cap) (zs ++ [-771, -772])

theorem below_grown {B : Nat} {a w w' : World} (h : Below B a w) (hB : B ≤ w.heap.size) {row : Option Nat} (hg : w.grownBy w' row) (hr : ∀ k, row = some k → B ≤ k) : Below B a w' := h.grown hg hB hr

set_option maxRecDepth 20000 in
set_option maxHeartbeats 1000000 in
theorem lent_ints {v : Value} {zs : List Int} (w : World) (h : IntsAt w v zs) (hl : zs.length ≤ 3000) : Calls Tryz.prog 31 #[v] w fun e w' => ∃ u, e = .returned u ∧ LentRow w' w.heap.size u zs ∧ Below w.heap.size w w' := by
  have H := Lib.hid h
  obtain ⟨o, c, hv, _⟩ := h
  rw [ints_len] at hv
  subst hv
  obtain ⟨j0, hj0, hy0, hy1, hy2⟩ := info_parts info3
  go_enter Tryz.func31, Tryz.ntmps31
  go_wp2_with (first
    | (at_make; refine wpList_make_own _ rfl _ _ 22 rfl w.heap.size 3 j0 (.int .i64 0) 1 Tryz.underlying22 hj0 hy0 hy1 .i64 .i64 _ (zs.length + 2) rfl rfl (by omega) (by rw [hy2]; omega) (by unfold maxLen; omega) (Nat.le_refl _) ?_; intro w0 hown0 hgrow0; have Hown0 : Hid (Owns w0 w.heap.size (.slice (some ⟨w.heap.size, 0, none⟩) 0 (zs.length + 2)) []) := Lib.hid hown0; have B0 : Hid (Below w.heap.size w w0) := Lib.hid ((Below.refl _ w).grown hgrow0 (Nat.le_refl _) (fun k hk => by cases hk)); clear hown0 hgrow0)
    | (at_builtin; refine wpList_append_row rfl _ _ rfl w.heap.size (.slice (some ⟨w.heap.size, 0, none⟩) 0 (zs.length + 2)) _ [] zs rfl rfl Hown0.out B0.out.size (H.out.olds (Olds.of_below B0.out)) (by simp; omega) ?_; intro v1 w1 hown1 hgrow1 hat1; rw [List.nil_append] at hown1; obtain ⟨o1, c1, rfl⟩ := hown1.shape; have Hown1 := Lib.hid hown1; have B1 : Hid (Below w.heap.size w w1) := Lib.hid (B0.out.grown hgrow1 B0.out.size (fun k hk => by cases hk; exact Nat.le_refl _)); clear hown1 hgrow1 hat1)
    | (at_builtin; refine wpList_append_lies _ rfl _ _ _ rfl w.heap.size 3 j0 _ 1 8 Tryz.underlying22 hj0 hy0 hy1 hy2 rfl Nat.one_pos (.slice o1 zs.length c1) zs.length (zs.map (Value.int .i64)) rfl (ownsRow_olds Hown1.out (Olds.alloc _ _)) ⟨w1.heap.size, 0, none⟩ 2 2 [.int .i64 (-771), .int .i64 (-772)] rfl rfl (World.news_of_block (cs := #[.int .i64 (-771), .int .i64 (-772)]) (t := 3) (fr := (0, 0)) (heap_alloc_new w1 _)) (by simp [Value.oneCell']) (by omega) (by unfold maxLen; omega) (by omega) (by have := B1.out.size; simp; omega) (w1.heap.size + 1) (by simp) ?_; intro gg cap2 w4 hown4 hgrow hat hlt4))
  all_goals
    have Hr : Hid (LentRow w4 w.heap.size (.slice (some ⟨gg, 0, none⟩) zs.length cap2) zs) := Lib.hid ⟨gg, cap2, rfl, by
      unfold Owns
      rw [List.map_append, List.length_append]
      exact hown4⟩
    have B4 : Hid (Below w.heap.size w w4) := Lib.hid ((B1.out.alloc B1.out.size _).grown hgrow (by have := B1.out.size; simp; omega) (fun k hk => (ownsRow_block Hown1.out hk).1))
    have hcap : zs.length + 2 ≤ cap2 := by
      rcases hown4.2 with ⟨e, _⟩ | ⟨_, _, _, e, _, _, h, _⟩
      · cases e
      · simp only [Value.slice.injEq, true_and] at e
        omega
    clear hown4 hgrow hat
    have hcap0 : zs.length ≤ cap2 := by omega
    go_wp2_with fail
    all_goals first
      | (exfalso; omega)
      | (go_ret; exact ⟨_, rfl, Hr.out, B4.out⟩)

theorem LentRow.cells {W : World} {B : Nat} {v : Value} {zs : List Int} (h : LentRow W B v zs) :
    ∃ g cap, v = .slice (some ⟨g, 0, none⟩) zs.length cap ∧ B ≤ g ∧ g < W.heap.size ∧ zs.length + 2 ≤ cap ∧ IntCells W g 0 (zs ++ [-771, -772]) := by
  obtain ⟨g, cap, rfl, h⟩ := h
  rcases h.cases with ⟨e, _⟩ | ⟨g', cap', e, h1, h2, h3, h4, h5⟩
  · cases e
  · simp only [Value.slice.injEq, Option.some.injEq, Addr.mk.injEq, and_true] at e
    obtain ⟨rfl, h6, rfl⟩ := e
    refine ⟨g, cap, rfl, h1, h2, by simp at h3; omega, fun j z hz => ?_⟩
    obtain ⟨hj, rfl⟩ := List.getElem?_eq_some_iff.1 hz
    have := (h5 j (by simpa using hj)).1
    rw [this]
    simp only [List.getElem!_toArray, List.getElem!_eq_getElem?_getD, List.getElem?_eq_getElem hj, Option.getD_some]

theorem LentRow.olds {W W' : World} {B : Nat} {v : Value} {zs : List Int} (h : LentRow W B v zs) (hb : Olds W W') : LentRow W' B v zs := by
  obtain ⟨g, cap, e, h⟩ := h
  exact ⟨g, cap, e, h.olds hb⟩
theorem LentRow.mono {W : World} {B B' : Nat} {v : Value} {zs : List Int} (h : LentRow W B v zs) (hB : B' ≤ B) : LentRow W B' v zs := by
  obtain ⟨g, cap, e, h⟩ := h
  exact ⟨g, cap, e, h.mono hB⟩
theorem LentRow.ints {W : World} {B : Nat} {v : Value} {zs : List Int} (h : LentRow W B v zs) : IntsAt W v zs := by
  obtain ⟨g, cap, rfl, _, _, _, hc⟩ := h.cells
  exact IntsAt.mk fun j z hz => hc j z (by rw [List.getElem?_append_left (List.getElem?_eq_some_iff.1 hz).1]; exact hz)

set_option maxHeartbeats 400000 in
theorem whole_ints {v u : Value} {zs : List Int} {B : Nat} (w : World) (h : LentRow w B v zs) (hu : IntsAt w u zs) (hl : zs.length ≤ 3000) : Calls Tryz.prog 32 #[v, u] w (Ans true w) := by
  have hs := Lib.hid (same_any w h.ints hu (by unfold maxLen; omega))
  have e1 : sameL zs zs = true := sameL_iff.2 rfl
  rw [e1] at hs
  obtain ⟨g, cap, rfl, h1, h2, h3, h4⟩ := h.cells
  have c1 : w.cell? ⟨g, zs.length, none⟩ = some (.int .i64 (-771)) := by
    have := h4 zs.length (-771) (by simp)
    simpa using this
  have c2 : w.cell? ⟨g, zs.length + 1, none⟩ = some (.int .i64 (-772)) := by
    have := h4 (zs.length + 1) (-772) (by rw [List.getElem?_append_right (by omega)]; simp)
    simpa using this
  obtain ⟨o, c, hv, _⟩ := hu
  rw [ints_len] at hv
  subst hv
  clear h h4
  go_enter Tryz.func32, Tryz.ntmps32
  go_wp2_with fail
  refine hs.out.mono ?_
  rintro e w' ⟨rfl, hq⟩
  go_wp2_with fail
  go_ret
  exact ⟨rfl, hq⟩
end Go.Proofs.YthoboahfogpnfaaGreatDoor
namespace Go.Proofs.YthoboahfogpnfaaGreatDoor
open Go Go.RowKit Go.Sort Go.Lib


structure Only1 (g : Nat) (w w' : World) : Prop where
  os : w'.os = w.os
  tape : w'.tape = w.tape
  output : w'.output = w.output
  size : w'.heap.size = w.heap.size
  block : ∀ k, k ≠ g → w'.heap[k]? = w.heap[k]?
  cells : ∀ cur t fr, w.heap[g]? = some (.cells cur t fr) → ∃ cur', w'.heap[g]? = some (.cells cur' t fr) ∧ cur'.size = cur.size
theorem Only1.refl (g : Nat) (w : World) : Only1 g w w := ⟨rfl, rfl, rfl, rfl, fun _ _ => rfl, fun cur _ _ h => ⟨cur, h, rfl⟩⟩
theorem Only1.setCell {g : Nat} {w w' : World} (h : Only1 g w w') (i : Nat) (v : Value) : Only1 g w (w'.setCell ⟨g, i, none⟩ v) := by
  refine ⟨h.os, h.tape, h.output, by simp [World.setCell, h.size], fun k hk => ?_, fun cur t fr hc => ?_⟩
  · rw [← h.block k hk]
    simp only [World.setCell, Array.getElem?_modify]
    rw [if_neg (by omega)]
  · obtain ⟨cur', h1, h2⟩ := h.cells cur t fr hc
    refine ⟨cur'.setIfInBounds i v, ?_, by simp [h2]⟩
    simp [World.setCell, Array.getElem?_modify, h1]


def Room (W : World) (e : TypeId) (B S : Nat) (v : Value) : Prop :=
  ∃ g n cap cur, v = .slice (some ⟨g, 0, none⟩) n cap ∧ B ≤ g ∧ g < S ∧ W.heap[g]? = some (.cells cur e (0, 0)) ∧ cap ≤ cur.size ∧ n ≤ cap ∧ cap ≤ maxLen

theorem room_cell {w : World} {g k e : Nat} {cur : Array Value} (h : w.heap[g]? = some (.cells cur e (0, 0))) (hk : k < cur.size) : (∃ v, w.cell? ⟨g, k, none⟩ = some v) ∧ w.frozen? ⟨g, k, none⟩ = false := by
  refine ⟨⟨cur[k], ?_⟩, ?_⟩
  · simp [World.cell?, h, hk]
  · simp [World.frozen?, h]

set_option maxRecDepth 20000 in
set_option maxHeartbeats 400000 in
theorem spoil_ints {g n cap : Nat} {cur : Array Value} (w : World) (hh : w.heap[g]? = some (.cells cur 3 (0, 0))) (h1 : cap ≤ cur.size) (h2 : n ≤ cap) (h3 : cap ≤ maxLen) :
    Calls Tryz.prog 33 #[.slice (some ⟨g, 0, none⟩) n cap] w fun e w' => e = .returned (.tuple #[]) ∧ Only1 g w w' := by
  unfold maxLen at h3
  have Hh := Lib.hid hh
  have H1 := Lib.hid h1
  clear hh h1
  go_enter Tryz.func33, Tryz.ntmps33
  go_wp2_with fail
  go_loopw [3] (fun i wr => ∃ k : Nat, k ≤ cap ∧ i = .int .i64 k ∧ Only1 g w wr) (fun i _ => cap - (intOf i).toNat)
  case atStart => exact ⟨0, Nat.zero_le _, rfl, Only1.refl _ _⟩
  case round =>
    obtain ⟨k, hk, rfl, ho⟩ := hrel
    have Ho := Lib.hid ho
    clear ho
    by_cases hlt : k < cap
    · obtain ⟨cur', q1, q2⟩ := Ho.out.cells _ _ _ Hh.out
      obtain ⟨⟨v0, hc⟩, hf⟩ := room_cell (k := k) q1 (by rw [q2]; have := H1.out; omega)
      clear q1 q2
      go_wp2_with fail
      go_roundw
      case rel => exact ⟨k + 1, by omega, by go_num, Ho.out.setCell _ _⟩
      case measure => simp [intOf]; omega
    · go_wp2_with fail
      go_end0
      exact ⟨rfl, Ho.out⟩
end Go.Proofs.YthoboahfogpnfaaGreatDoor
namespace Go.Proofs.YthoboahfogpnfaaGreatDoor
open Go Go.RowKit Go.Sort Go.Lib

theorem enters31 : ∀ args w, (callFunc 31 args).run Tryz.prog w = .ok (.enter 31 args) w := enters_of Tryz.func31 (by kernel_rfl) rfl

theorem Owns.same {W W' : World} {B : Nat} {v : Value} {zs : List Int} (h : Owns W B v zs) (hb : ∀ b, v.ownBlock = some b → W'.heap[b]? = W.heap[b]?) : Owns W' B v zs := by
  obtain ⟨k1, k2⟩ := h
  refine ⟨k1, ?_⟩
  rcases k2 with k2 | ⟨b, cap, cur, e, hb', hg, h3⟩
  · exact .inl k2
  · subst e
    exact .inr ⟨b, cap, cur, rfl, hb', by rw [hb b rfl]; exact hg, h3⟩
theorem LentRow.same {W W' : World} {B : Nat} {v : Value} {zs : List Int} (h : LentRow W B v zs) (hb : ∀ b, v.ownBlock = some b → W'.heap[b]? = W.heap[b]?) : LentRow W' B v zs := by
  obtain ⟨g, cap, rfl, h⟩ := h
  exact ⟨g, cap, rfl, h.same fun b e => hb b e⟩
theorem LentRow.at_ {W : World} {B : Nat} {v : Value} {zs : List Int} (h : LentRow W B v zs) : ∃ b, v.ownBlock = some b ∧ B ≤ b ∧ b < W.heap.size := by
  obtain ⟨g, cap, rfl, h1, h2, _⟩ := h.cells
  exact ⟨g, rfl, h1, h2⟩


structure Gath (W : World) (B : Nat) (sv : Value) (us : List Value) (L : List (List Int)) : Prop where
  own : W.ownsRow B 22 1 sv us.length us
  rows : ∀ (i : Nat) (u : Value) (zs : List Int), us[i]? = some u → L[i]? = some zs → LentRow W B u zs ∧ u.ownBlock ≠ sv.ownBlock

theorem gath_rows {wr w2 w4 : World} {B : Nat} {sv : Value} {us : List Value} {L : List (List Int)} {O : Obj} {gg n cap : Nat} (h : Gath wr B sv us L) (hold : Olds wr w2) (grow : (w2.alloc O).grownBy w4 sv.ownBlock) (hat : sv.ownBlock = some gg ∨ gg = w2.heap.size + 1) :
    ∀ (i : Nat) (u : Value) (zs : List Int), us[i]? = some u → L[i]? = some zs → LentRow w4 B u zs ∧ u.ownBlock ≠ (Value.slice (some ⟨gg, 0, none⟩) n cap).ownBlock := by
  intro i u zs hu hz
  obtain ⟨h1, h2⟩ := h.rows i u zs hu hz
  obtain ⟨b, e, h3, h4⟩ := h1.at_
  have hs := hold.1
  refine ⟨h1.same fun b' e' => ?_, ?_⟩
  · rw [e] at e'
    cases e'
    rw [grow.block b (by simp; omega) (by rw [← e]; exact h2)]
    exact (hold.trans (Olds.alloc _ _)).2 b h4
  · rw [e]
    intro e'
    simp only [Value.ownBlock, Option.some.injEq] at e'
    rcases hat with hat | hat
    · exact h2 (by rw [e, hat, e'])
    · omega

theorem gath_step {wr w2 w4 : World} {B : Nat} {sv u : Value} {us : List Value} {L : List (List Int)} {zs : List Int} {O : Obj} {gg cap : Nat} (h : Gath wr B sv us L) (hz : L[us.length]? = some zs) (hB : B ≤ wr.heap.size) (hu : LentRow w2 wr.heap.size u zs) (hold : Olds wr w2)
    (own4 : w4.ownsRow B 22 1 (.slice (some ⟨gg, 0, none⟩) (us.length + 1) cap) (us.length + 1) (us ++ [u])) (grow : (w2.alloc O).grownBy w4 sv.ownBlock) (hat : sv.ownBlock = some gg ∨ gg = w2.heap.size + 1) :
    Gath w4 B (.slice (some ⟨gg, 0, none⟩) (us.length + 1) cap) (us ++ [u]) L := by
  refine ⟨by rw [List.length_append]; exact own4, fun i u' zs' hu' hz' => ?_⟩
  by_cases hi : i < us.length
  · rw [List.getElem?_append_left hi] at hu'
    exact gath_rows h hold grow hat i u' zs' hu' hz'
  · rw [List.getElem?_append_right (by omega)] at hu'
    have hi0 : i - us.length = 0 := by
      have := (List.getElem?_eq_some_iff.1 hu').1
      simp at this
      omega
    rw [hi0] at hu'
    cases hu'
    have : i = us.length := by omega
    subst this
    rw [hz] at hz'
    cases hz'
    obtain ⟨b, e, h3, h4⟩ := hu.at_
    have hsv : ∀ k, sv.ownBlock = some k → k < wr.heap.size := fun k hk => (ownsRow_block h.own hk).2
    refine ⟨(hu.mono hB).same fun b' e' => ?_, ?_⟩
    · rw [e] at e'
      cases e'
      rw [grow.block b (by simp; omega) (fun e2 => by have := hsv b e2.symm; omega)]
      exact (Olds.alloc _ _).2 b h4
    · rw [e]
      intro e'
      simp only [Value.ownBlock, Option.some.injEq] at e'
      rcases hat with hat | hat
      · have := hsv gg hat; omega
      · omega

theorem own_cap {w : World} {B e n g cap : Nat} {xs : List Value} (h : w.ownsRow B e 1 (.slice (some ⟨g, 0, none⟩) n cap) n xs) : n ≤ cap := by
  rcases h.2 with ⟨e, _⟩ | ⟨_, _, _, e, _, _, h, _⟩
  · cases e
  · simp only [Value.slice.injEq, true_and] at e
    omega

def LentLists (W : World) (B : Nat) (v : Value) (L : List (List Int)) : Prop :=
  ∃ g cap us, v = .slice (some ⟨g, 0, none⟩) L.length cap ∧ us.length = L.length ∧ W.ownsRow B 22 1 (.slice (some ⟨g, 0, none⟩) (L.length + 1) cap) (L.length + 1) (us ++ [.slice none 0 0]) ∧
    ∀ (i : Nat) (u : Value) (zs : List Int), us[i]? = some u → L[i]? = some zs → LentRow W B u zs ∧ u.ownBlock ≠ some g

set_option maxRecDepth 20000 in
set_option maxHeartbeats 1000000 in
theorem lent_lists {v : Value} {L : List (List Int)} (w : World) (h : ListsAt w v L) (hn : L.length ≤ 3000) (hs : ∀ zs ∈ L, zs.length ≤ 3000) : Calls Tryz.prog 12 #[v] w fun e w' => ∃ u, e = .returned u ∧ LentLists w' w.heap.size u L ∧ Below w.heap.size w w' := by
  obtain ⟨i0, hi0, hz0, hz1, hz2⟩ := info_parts info22
  obtain ⟨vs, hr, hvl, hi⟩ := h
  have Hr := Lib.hid hr
  have Hi := Lib.hid hi
  have Hs := Lib.hid hs
  obtain ⟨o, c, hv, hno, hcs⟩ := hr
  have Hcs := Lib.hid hcs
  subst hv
  clear hi hs hno hcs
  generalize hm : vs.length = m at *
  have Hm := Lib.hid hm
  clear hm
  have Hvl := Lib.hid hvl
  have hm3 : m ≤ 3000 := by omega
  clear hvl
  go_enter Tryz.func12, Tryz.ntmps12
  go_wp2_with (at_make; refine wpList_make_own _ rfl _ _ 24 rfl w.heap.size 22 i0 (.slice none 0 0) 1 Tryz.underlying24 hi0 hz0 hz1 .i64 .i64 _ (m + 1) rfl rfl (by omega) (by rw [hz2]; omega) (by unfold maxLen; omega) (Nat.le_refl _) ?_; intro w0 hown0 hgrow0; have Hown0 := Lib.hid hown0; have B0 : Hid (Below w.heap.size w w0) := Lib.hid ((Below.refl _ w).grown hgrow0 (Nat.le_refl _) (fun k hk => by cases hk)); clear hown0 hgrow0)
  go_loopw [3, 4] (fun sv i wr => ∃ (k : Nat) (us : List Value) (so : Option Addr) (sc : Nat), i = .int .i64 k ∧ sv = .slice so k sc ∧ k ≤ m ∧ us.length = k ∧ Gath wr w.heap.size (.slice so k sc) us L ∧ Below w.heap.size w wr) (fun _ i _ => m - (intOf i).toNat)
  case atStart => exact ⟨0, [], _, _, rfl, rfl, Nat.zero_le _, rfl, ⟨Hown0.out, fun i u zs hu => by simp at hu⟩, B0.out⟩
  case round =>
    obtain ⟨k, us, so, sc, rfl, rfl, hk, hul, hg, hb⟩ := hrel
    have Hg := Lib.hid hg
    have Hb := Lib.hid hb
    have Hul := Lib.hid hul
    have hbs := hb.size
    clear hg hb
    have Hown : Hid (wr.ownsRow w.heap.size 22 1 (.slice so k sc) k us) := Lib.hid (by have := Hg.out.own; rw [hul] at this; exact this)
    clear hul
    by_cases hlt : k < m
    · obtain ⟨u, hu⟩ : ∃ u, vs[k]? = some u := ⟨_, List.getElem?_eq_getElem (by rw [Hm.out]; exact hlt)⟩
      obtain ⟨x, hx⟩ : ∃ x, L[k]? = some x := ⟨_, List.getElem?_eq_getElem (by rw [← Hvl.out]; exact hlt)⟩
      obtain ⟨b, off, rfl, hcells⟩ := Hcs.out (by intro e; have := Hm.out; rw [e] at this; simp at this; omega)
      have hck : wr.cell? ⟨b, off + k, none⟩ = some u := (Olds.of_below Hb.out).cell (hcells k u hu)
      have hxl := Hs.out x (List.mem_of_getElem? hx)
      have HL := Lib.hid (lent_ints wr ((Hi.out k u x hu hx).olds (Olds.of_below Hb.out)) hxl)
      have Hx := Lib.hid hx
      clear hcells hu hx
      go_wp2_with fail
      refine HL.out.mono ?_
      rintro e w2 ⟨u2, rfl, hl2, hb2⟩
      have Hl2 := Lib.hid hl2
      obtain ⟨gu, cu, hu2, _⟩ := hl2
      subst hu2
      have Hold2 : Hid (Olds wr w2) := Lib.hid (Olds.of_below hb2)
      have Hb2 := Lib.hid hb2
      have hs2 := hb2.size
      clear hb2
      go_wp2_with (at_builtin; refine wpList_append_lies _ rfl _ _ _ rfl w.heap.size 22 i0 _ 1 24 Tryz.underlying24 hi0 hz0 hz1 hz2 rfl Nat.one_pos (.slice so k sc) k us rfl (ownsRow_olds Hown.out (Hold2.out.trans (Olds.alloc _ _))) ⟨w2.heap.size, 0, none⟩ 1 1 [.slice (some ⟨gu, 0, none⟩) x.length cu] rfl rfl (World.news_of_block (cs := #[.slice (some ⟨gu, 0, none⟩) x.length cu]) (t := 22) (fr := (0, 0)) (heap_alloc_new w2 _)) (by simp [Value.oneCell']) Nat.one_pos (by unfold maxLen; omega) (by omega) (by simp; omega) (w2.heap.size + 1) (by simp) ?_; intro gg cap2 w4 hown4 hgrow hat hlt4)
      have Hst : Hid (Gath w4 w.heap.size (.slice (some ⟨gg, 0, none⟩) (k + 1) cap2) (us ++ [.slice (some ⟨gu, 0, none⟩) x.length cu]) L) := Lib.hid (by
        have hul := Hul.out
        subst hul
        exact gath_step Hg.out Hx.out hbs Hl2.out Hold2.out hown4 hgrow hat)
      have Hbel : Hid (Below w.heap.size w w4) := Lib.hid (((Hb.out.trans (Hb2.out.mono hbs)).alloc (by omega) _).grown hgrow (by simp; omega) (fun b hb => (ownsRow_block Hown.out hb).1))
      clear hown4 hgrow hat
      go_wp2_with fail
      go_roundw
      case rel => exact ⟨k + 1, _, _, _, by go_num, rfl, by omega, by rw [List.length_append, Hul.out]; rfl, Hst.out, Hbel.out⟩
      case measure => simp [intOf]; omega
    · obtain rfl : k = m := by omega
      go_wp2_with (at_builtin; refine wpList_append_lies _ rfl _ _ _ rfl w.heap.size 22 i0 _ 1 24 Tryz.underlying24 hi0 hz0 hz1 hz2 rfl Nat.one_pos (.slice so k sc) k us rfl (ownsRow_olds Hown.out (Olds.alloc _ _)) ⟨wr.heap.size, 0, none⟩ 1 1 [.slice none 0 0] rfl rfl (World.news_of_block (cs := #[.slice none 0 0]) (t := 22) (fr := (0, 0)) (heap_alloc_new wr _)) (by simp [Value.oneCell']) Nat.one_pos (by unfold maxLen; omega) (by omega) (by simp; omega) (wr.heap.size + 1) (by simp) ?_; intro gg cap2 w4 hown4 hgrow hat hlt4; have hcap1 := own_cap hown4; have hcap0 : k ≤ cap2 := by omega)
      have Hst : Hid (LentLists w4 w.heap.size (.slice (some ⟨gg, 0, none⟩) k cap2) L) := Lib.hid (by
        have hul := Hul.out
        have hvl := Hvl.out
        subst hvl
        exact ⟨gg, cap2, us, rfl, hul, hown4, gath_rows (n := 0) (cap := 0) Hg.out (Olds.refl _) hgrow hat⟩)
      have Hbel : Hid (Below w.heap.size w w4) := Lib.hid ((Hb.out.alloc (by omega) _).grown hgrow (by simp; omega) (fun b hb => (ownsRow_block Hown.out hb).1))
      clear hown4 hgrow hat
      go_ret
      exact ⟨_, rfl, Hst.out, Hbel.out⟩
end Go.Proofs.YthoboahfogpnfaaGreatDoor
namespace Go.Proofs.YthoboahfogpnfaaGreatDoor
open Go Go.RowKit Go.Sort Go.Lib

theorem LentLists.cells {W : World} {B : Nat} {v : Value} {L : List (List Int)} (h : LentLists W B v L) :
    ∃ g cap us, v = .slice (some ⟨g, 0, none⟩) L.length cap ∧ us.length = L.length ∧ L.length + 1 ≤ cap ∧ B ≤ g ∧ g < W.heap.size ∧ CellsAt W g 0 (us ++ [.slice none 0 0]) ∧
      ∀ (i : Nat) (u : Value) (zs : List Int), us[i]? = some u → L[i]? = some zs → LentRow W B u zs ∧ u.ownBlock ≠ some g := by
  obtain ⟨g, cap, us, rfl, h1, h2, h3⟩ := h
  have hb := ownsRow_block h2 (g := g) rfl
  refine ⟨g, cap, us, rfl, h1, own_cap h2, hb.1, hb.2, ?_, h3⟩
  rcases h2.2 with ⟨e, _⟩ | ⟨g', cap', cur, e, k1, k2, k3, k4, k5, k6⟩
  · cases e
  · simp only [Value.slice.injEq, Option.some.injEq, Addr.mk.injEq, and_true, true_and] at e
    obtain ⟨rfl, rfl⟩ := e
    intro j x hx
    rw [← k6, List.getElem?_take] at hx
    split at hx
    · rw [Nat.zero_add]
      simp only [Array.getElem?_toList] at hx
      simp [World.cell?, k2, hx]
    · cases hx

theorem LentLists.lists {W : World} {B : Nat} {v : Value} {L : List (List Int)} (h : LentLists W B v L) : ListsAt W v L ∧ ∀ o n c, v = .slice o n c → n ≤ c := by
  obtain ⟨g, cap, us, rfl, h1, h2, h3, h4, h5, h6⟩ := h.cells
  refine ⟨⟨us, ⟨some ⟨g, 0, none⟩, cap, by rw [h1], (fun h => by cases h), fun _ => ⟨g, 0, rfl, fun j x hx => h5 j x (by rw [List.getElem?_append_left (List.getElem?_eq_some_iff.1 hx).1]; exact hx)⟩⟩, h1, fun i u zs hu hz => (h6 i u zs hu hz).1.ints⟩, fun o n c e => ?_⟩
  simp only [Value.slice.injEq] at e
  omega

theorem LentLists.same {W W' : World} {B : Nat} {v : Value} {L : List (List Int)} (h : LentLists W B v L) (hb : ∀ b, B ≤ b → b < W.heap.size → W'.heap[b]? = W.heap[b]?) : LentLists W' B v L := by
  obtain ⟨g, cap, us, rfl, h1, h2, h3⟩ := h
  have hg := ownsRow_block h2 (g := g) rfl
  refine ⟨g, cap, us, rfl, h1, ?_, fun i u zs hu hz => ?_⟩
  · obtain ⟨k1, k2⟩ := h2
    refine ⟨k1, ?_⟩
    rcases k2 with ⟨e, _⟩ | ⟨g', cap', cur, e, q1, q2, q3⟩
    · cases e
    · simp only [Value.slice.injEq, Option.some.injEq, Addr.mk.injEq, and_true, true_and] at e
      obtain ⟨rfl, rfl⟩ := e
      exact .inr ⟨g, cap, cur, rfl, q1, by rw [hb g hg.1 hg.2]; exact q2, q3⟩
  · obtain ⟨q1, q2⟩ := h3 i u zs hu hz
    obtain ⟨b, e, q3, q4⟩ := q1.at_
    exact ⟨q1.same fun b' e' => by rw [e] at e'; cases e'; exact hb b q3 q4, q2⟩
theorem LentLists.olds {W W' : World} {B : Nat} {v : Value} {L : List (List Int)} (h : LentLists W B v L) (hb : Olds W W') : LentLists W' B v L := h.same fun b _ hlt => hb.2 b hlt

theorem enters32 : ∀ args w, (callFunc 32 args).run Tryz.prog w = .ok (.enter 32 args) w := enters_of Tryz.func32 (by kernel_rfl) rfl

set_option maxRecDepth 20000 in
set_option maxHeartbeats 1000000 in
theorem whole_lists {v u : Value} {L : List (List Int)} {B : Nat} (w : World) (h : LentLists w B v L) (hu : ListsAt w u L) (hn : L.length ≤ 3000) (hs : ∀ zs ∈ L, zs.length ≤ 3000) : Calls Tryz.prog 13 #[v, u] w (Ans true w) := by
  obtain ⟨g, cap, us, rfl, h1, h2, h3, h4, h5, h6⟩ := h.cells
  obtain ⟨vs, hr, hvl, hi⟩ := hu
  obtain ⟨o, c, hv, hno, hcs⟩ := hr
  subst hv
  have H1 := Lib.hid h1
  have H5 := Lib.hid h5
  have H6 := Lib.hid h6
  have Hi := Lib.hid hi
  have Hs := Lib.hid hs
  have Hcs := Lib.hid hcs
  have hnil : w.cell? ⟨g, L.length, none⟩ = some (.slice none 0 0) := by
    have := h5 L.length (.slice none 0 0) (by rw [List.getElem?_append_right (by omega), h1]; simp)
    simpa using this
  rw [hvl]
  have Hvl := Lib.hid hvl
  generalize hm : L.length = m at *
  have Hm := Lib.hid hm
  clear h h1 h5 h6 hi hs hcs hvl hno hm
  go_enter Tryz.func13, Tryz.ntmps13
  go_wp2_with fail
  go_loopw [5] (fun i wr => ∃ k q : Nat, k ≤ m ∧ i = .int .i64 k ∧ wr = w.drewN q) (fun i _ => m - (intOf i).toNat)
  case atStart => exact ⟨0, 0, Nat.zero_le _, rfl, rfl⟩
  case round =>
    obtain ⟨k, q, hk, rfl, rfl⟩ := hrel
    by_cases hlt : k < m
    · obtain ⟨x, hx⟩ : ∃ x, L[k]? = some x := ⟨_, List.getElem?_eq_getElem (by rw [Hm.out]; exact hlt)⟩
      obtain ⟨a, ha⟩ : ∃ a, us[k]? = some a := ⟨_, List.getElem?_eq_getElem (by rw [H1.out]; exact hlt)⟩
      obtain ⟨d, hd⟩ : ∃ d, vs[k]? = some d := ⟨_, List.getElem?_eq_getElem (by rw [Hvl.out]; exact hlt)⟩
      obtain ⟨b, off, rfl, hcells⟩ := Hcs.out (by intro e; rw [e] at hd; simp at hd)
      have hc1 : w.cell? ⟨g, k, none⟩ = some a := by
        have := H5.out k a (by rw [List.getElem?_append_left (List.getElem?_eq_some_iff.1 ha).1]; exact ha)
        simpa using this
      have hc2 : w.cell? ⟨b, off + k, none⟩ = some d := hcells k d hd
      have HW : Hid (∀ W : World, W.heap = w.heap → Calls Tryz.prog 32 #[a, d] W (Ans true W)) := Lib.hid (fun W hW => whole_ints W ((H6.out k a x ha hx).1.olds ⟨by rw [hW]; exact Nat.le_refl _, fun k _ => by rw [hW]⟩) ((Hi.out k d x hd hx).olds ⟨by rw [hW]; exact Nat.le_refl _, fun k _ => by rw [hW]⟩) (Hs.out x (List.mem_of_getElem? hx)))
      clear hcells hx ha hd
      go_wp2_with fail
      go_region_with (go_at_call 32; refine (HW.out _ (by rfl)).mono ?_; rintro e w2 ⟨rfl, q2, rfl⟩)
      all_goals
        go_wp2_with fail
        go_roundw
        case rel => exact ⟨k + 1, _, by omega, by go_num, by first | rfl | (simp only [World.drewN_drewN]; rfl)⟩
        case measure => simp [intOf]; omega
    · go_wp2_with fail
      go_ret
      exact ⟨rfl, ⟨q, rfl⟩⟩
end Go.Proofs.YthoboahfogpnfaaGreatDoor
namespace Go.Proofs.YthoboahfogpnfaaGreatDoor
open Go Go.RowKit Go.Sort Go.Lib


structure Within (B S : Nat) (w w' : World) : Prop where
  os : w'.os = w.os
  tape : w'.tape = w.tape
  output : w'.output = w.output
  size : w'.heap.size = w.heap.size
  block : ∀ k, (k < B ∨ S ≤ k) → w'.heap[k]? = w.heap[k]?
  cells : ∀ (k : Nat) (cur : Array Value) (t : TypeId) (fr : Nat × Nat), w.heap[k]? = some (.cells cur t fr) → ∃ cur', w'.heap[k]? = some (.cells cur' t fr) ∧ cur'.size = cur.size
theorem Within.refl (B S : Nat) (w : World) : Within B S w w := ⟨rfl, rfl, rfl, rfl, fun _ _ => rfl, fun _ cur _ _ h => ⟨cur, h, rfl⟩⟩
theorem Within.only1 {B S g : Nat} {w wr w2 : World} (h : Within B S w wr) (ho : Only1 g wr w2) (h1 : B ≤ g) (h2 : g < S) : Within B S w w2 := by
  refine ⟨ho.os.trans h.os, ho.tape.trans h.tape, ho.output.trans h.output, ho.size.trans h.size, fun k hk => (ho.block k (by omega)).trans (h.block k hk), fun k cur t fr hc => ?_⟩
  obtain ⟨c1, q1, q2⟩ := h.cells k cur t fr hc
  by_cases hk : k = g
  · subst hk
    obtain ⟨c2, q3, q4⟩ := ho.cells c1 t fr q1
    exact ⟨c2, q3, q4.trans q2⟩
  · exact ⟨c1, by rw [ho.block k hk]; exact q1, q2⟩
theorem Within.setCell {B S g : Nat} {w wr : World} (h : Within B S w wr) (h1 : B ≤ g) (h2 : g < S) (i : Nat) (v : Value) : Within B S w (wr.setCell ⟨g, i, none⟩ v) := h.only1 ((Only1.refl g wr).setCell i v) h1 h2

def Spoilable (W : World) (B S : Nat) (v : Value) : Prop :=
  ∃ g n cap cur us, v = .slice (some ⟨g, 0, none⟩) n cap ∧ B ≤ g ∧ g < S ∧ W.heap[g]? = some (.cells cur 22 (0, 0)) ∧ cap ≤ cur.size ∧ n ≤ cap ∧ cap ≤ maxLen ∧ us.length = n ∧ CellsAt W g 0 us ∧ ∀ u ∈ us, Room W 3 B S u ∧ u.ownBlock ≠ some g

theorem LentRow.room {W : World} {B : Nat} {v : Value} {zs : List Int} (h : LentRow W B v zs) : Room W 3 B W.heap.size v := by
  obtain ⟨g, cap, rfl, h1, h2⟩ := h
  have hb := ownsRow_block (show W.ownsRow B 3 1 _ _ _ from ⟨h1, h2⟩) (g := g) rfl
  rcases h2 with ⟨e, _⟩ | ⟨g', cap', cur, e, k1, k2, k3, k4, k5, _⟩
  · cases e
  · simp only [Value.slice.injEq, Option.some.injEq, Addr.mk.injEq, and_true] at e
    obtain ⟨rfl, h6, rfl⟩ := e
    exact ⟨g, zs.length, cap, cur, rfl, hb.1, hb.2, k2, by omega, by simp at k3; omega, k4⟩
theorem LentLists.spoilable {W : World} {B : Nat} {v : Value} {L : List (List Int)} (h : LentLists W B v L) : Spoilable W B W.heap.size v := by
  obtain ⟨g, cap, us, rfl, h1, h2, h3, h4, h5, h6⟩ := h.cells
  obtain ⟨g', cap', us', e, k1, k2, k3⟩ := h
  simp only [Value.slice.injEq, Option.some.injEq, Addr.mk.injEq, and_true, true_and] at e
  obtain ⟨rfl, rfl⟩ := e
  rcases k2.2 with ⟨e, _⟩ | ⟨g', cap', cur, e, q1, q2, q3, q4, q5, q6⟩
  · cases e
  · simp only [Value.slice.injEq, Option.some.injEq, Addr.mk.injEq, and_true, true_and] at e
    obtain ⟨rfl, rfl⟩ := e
    refine ⟨g, L.length, cap, cur, us, rfl, h3, h4, q2, by omega, by omega, q4, h1, fun j x hx => h5 j x (by rw [List.getElem?_append_left (List.getElem?_eq_some_iff.1 hx).1]; exact hx), fun u hu => ?_⟩
    obtain ⟨i, hi⟩ := List.getElem?_of_mem hu
    have hl : i < L.length := by rw [← h1]; exact (List.getElem?_eq_some_iff.1 hi).1
    obtain ⟨r1, r2⟩ := h6 i u L[i] hi (List.getElem?_eq_getElem hl)
    exact ⟨r1.room, r2⟩
theorem Spoilable.same {W W' : World} {B S : Nat} {v : Value} (h : Spoilable W B S v) (hb : ∀ b, B ≤ b → b < S → W'.heap[b]? = W.heap[b]?) : Spoilable W' B S v := by
  obtain ⟨g, n, cap, cur, us, rfl, h1, h2, h3, h4, h5, h6, h7, h8, h9⟩ := h
  refine ⟨g, n, cap, cur, us, rfl, h1, h2, by rw [hb g h1 h2]; exact h3, h4, h5, h6, h7, fun j x hx => ?_, fun u hu => ?_⟩
  · rw [← h8 j x hx]
    exact World.cell?_of_block (hb g h1 h2)
  · obtain ⟨⟨gu, nu, cu, curu, e, q1, q2, q3, q4⟩, q5⟩ := h9 u hu
    exact ⟨⟨gu, nu, cu, curu, e, q1, q2, by rw [hb gu q1 q2]; exact q3, q4⟩, q5⟩

set_option maxRecDepth 20000 in
set_option maxHeartbeats 1000000 in
theorem spoil_lists {v : Value} {B S : Nat} (w : World) (h : Spoilable w B S v) : Calls Tryz.prog 14 #[v] w fun e w' => e = .returned (.tuple #[]) ∧ Within B S w w' := by
  obtain ⟨g, n, cap, cur, us, rfl, h1, h2, h3, h4, h5, h6, h7, h8, h9⟩ := h
  unfold maxLen at h6
  have H3 := Lib.hid h3
  have H7 := Lib.hid h7
  have H8 := Lib.hid h8
  have H9 := Lib.hid h9
  have H4 := Lib.hid h4
  clear h3 h7 h8 h9 h4
  go_enter Tryz.func14, Tryz.ntmps14
  go_wp2_with fail
  go_loopw [2] (fun i wr => ∃ k : Nat, k ≤ n ∧ i = .int .i64 k ∧ Within B S w wr ∧ wr.heap[g]? = w.heap[g]?) (fun i _ => n - (intOf i).toNat)
  case atStart => exact ⟨0, Nat.zero_le _, rfl, Within.refl _ _ _, rfl⟩
  case round =>
    obtain ⟨k, hk, rfl, ho, hg⟩ := hrel
    have Ho := Lib.hid ho
    have Hg := Lib.hid hg
    clear ho hg
    by_cases hlt : k < n
    · obtain ⟨u, hu⟩ : ∃ u, us[k]? = some u := ⟨_, List.getElem?_eq_getElem (by rw [H7.out]; exact hlt)⟩
      have hc : wr.cell? ⟨g, k, none⟩ = some u := by
        have := H8.out k u hu
        rw [Nat.zero_add] at this
        rw [← this]
        exact World.cell?_of_block Hg.out
      obtain ⟨⟨gu, nu, cu, curu, rfl, q1, q2, q3, q4, q5, q6⟩, q7⟩ := H9.out u (List.mem_of_getElem? hu)
      obtain ⟨cur', q8, q9⟩ := Ho.out.cells gu curu 3 (0, 0) q3
      have HS := Lib.hid (spoil_ints wr q8 (by rw [q9]; exact q4) q5 q6)
      have hne : g ≠ gu := fun e => q7 (by rw [e]; rfl)
      clear hu q3 q4 q5 q6 q7 q8 q9
      go_wp2_with fail
      refine HS.out.mono ?_
      rintro e w2 ⟨rfl, ho2⟩
      have H2 : Hid (Within B S w w2 ∧ w2.heap[g]? = w.heap[g]?) := Lib.hid ⟨Ho.out.only1 ho2 q1 q2, (ho2.block g hne).trans Hg.out⟩
      clear ho2
      go_wp2_with fail
      go_roundw
      case rel => exact ⟨k + 1, by omega, by go_num, H2.out.1, H2.out.2⟩
      case measure => simp [intOf]; omega
    · go_wp2_with fail
      go_loopw [4] (fun i wr2 => ∃ k : Nat, k ≤ cap ∧ i = .int .i64 k ∧ Within B S w wr2) (fun i _ => cap - (intOf i).toNat)
      case atStart => exact ⟨0, Nat.zero_le _, rfl, Ho.out⟩
      case round =>
        obtain ⟨k2, hk2, rfl, ho2⟩ := hrel
        have Ho2 := Lib.hid ho2
        clear ho2
        by_cases hlt2 : k2 < cap
        · obtain ⟨cur', q1, q2⟩ := Ho2.out.cells g cur 22 (0, 0) H3.out
          obtain ⟨⟨v0, hc⟩, hf⟩ := room_cell (k := k2) q1 (by rw [q2]; have := H4.out; omega)
          clear q1 q2
          go_wp2_with fail
          go_roundw
          case rel => exact ⟨k2 + 1, by omega, by go_num, Ho2.out.setCell h1 h2 _ _⟩
          case measure => simp [intOf]; omega
        · go_wp2_with fail
          go_end0
          exact ⟨rfl, Ho2.out⟩
end Go.Proofs.YthoboahfogpnfaaGreatDoor
namespace Go.Proofs.YthoboahfogpnfaaGreatDoor
open Go Go.RowKit

set_option maxHeartbeats 400000 in
theorem rin_empty (o : Option Addr) (c : Nat) (n : Int) (w : World) :
    Calls Tryz.prog 35 #[.slice o 0 c, .int .i64 n] w fun e w' => e = .returned (.bool (hasN [] n)) ∧ w = w' := by
  go_enter Tryz.func35, Tryz.ntmps35
  go_wp2
  go_loop [5] (fun i => i = .int .i64 0) (fun _ => 0)
  case atStart => rfl
  case round =>
    obtain rfl := hrel
    go_wp2
    go_ret
    exact ⟨ret_bool (hasN_nil n).symm, rfl⟩

set_option maxHeartbeats 400000 in
theorem rin_cells (b off c : Nat) (zs : List Int) (n : Int) (w : World) (hm : zs.length ≤ maxLen) (hc : IntCells w b off zs) :
    Calls Tryz.prog 35 #[.slice (some ⟨b, off, none⟩) zs.length c, .int .i64 n] w fun e w' => e = .returned (.bool (hasN zs n)) ∧ w = w' := by
  unfold maxLen at hm
  have Hc := Lib.hid hc
  clear hc
  go_enter Tryz.func35, Tryz.ntmps35
  go_wp2
  go_loop [5] (fun i => ∃ k : Nat, k ≤ zs.length ∧ i = .int .i64 k ∧ n ∉ zs.take k) (fun i => zs.length - (intOf i).toNat)
  case atStart => exact ⟨0, Nat.zero_le _, rfl, by simp⟩
  case round =>
    obtain ⟨k, hk, rfl, hno⟩ := hrel
    have Hno := Lib.hid hno
    clear hno
    by_cases hlt : k < zs.length
    · obtain ⟨z, hz, _⟩ := at_some hlt
      have hck := Hc.out k z hz
      have Hz := Lib.hid hz
      clear hz
      by_cases he : z = n
      · have heb : (z == n) = true := by simpa using he
        have Hin : Hid (hasN zs n = true) := Lib.hid (hasN_iff.2 (he ▸ List.mem_of_getElem? Hz.out))
        clear he
        go_wp2
        go_ret
        exact ⟨ret_bool Hin.out.symm, rfl⟩
      · have heb : (z == n) = false := by simpa using he
        have He := Lib.hid he
        clear he
        go_wp2
        go_round
        case rel => exact ⟨k + 1, by omega, by go_num, by
          rw [List.take_succ, Hz.out]
          simp only [Option.toList_some, List.mem_append, List.mem_singleton, not_or]
          exact ⟨Hno.out, fun h => He.out h.symm⟩⟩
        case measure => simp [intOf]; omega
    · go_wp2
      go_ret
      have hkk : zs.take k = zs := List.take_of_length_le (by omega)
      have h0 := Hno.out
      rw [hkk] at h0
      exact ⟨ret_bool (by rw [eq_comm, Bool.eq_false_iff]; exact fun h => h0 (hasN_iff.1 h)), rfl⟩

theorem rin_any {v : Value} {zs : List Int} (n : Int) (w : World) (h : IntsAt w v zs) (hm : zs.length ≤ maxLen) :
    Calls Tryz.prog 35 #[v, .int .i64 n] w fun e w' => e = .returned (.bool (hasN zs n)) ∧ w = w' := by
  rcases h.cases with ⟨o, c, rfl, rfl, _⟩ | ⟨b, off, c, rfl, _, hc⟩
  · exact rin_empty o c n w
  · exact rin_cells b off c zs n w hm hc
end Go.Proofs.YthoboahfogpnfaaGreatDoor
namespace Go.Proofs.YthoboahfogpnfaaGreatDoor
open Go Go.RowKit Go.Sort Go.Lib

theorem norm_snoc_in {zs : List Int} {x : Int} (h : x ∈ norm zs) : norm (zs ++ [x]) = norm zs := by
  refine rising_eq (norm_sorted _) (norm_sorted _) fun n => ?_
  rw [mem_norm, mem_norm, List.mem_append, List.mem_singleton]
  constructor
  · rintro (h1 | rfl)
    · exact h1
    · exact mem_norm.1 h
  · exact .inl
theorem norm_snoc_new {zs : List Int} {x : Int} {k : Nat} (h1 : ∀ z ∈ (norm zs).take k, z < x) (h2 : ∀ z ∈ (norm zs).drop k, x < z) : norm (zs ++ [x]) = ((norm zs).take k ++ [x]) ++ (norm zs).drop k := by
  have hs := norm_sorted zs
  rw [← List.take_append_drop k (norm zs), List.pairwise_append] at hs
  refine rising_eq (norm_sorted _) ?_ fun n => ?_
  · rw [List.append_assoc, List.pairwise_append]
    refine ⟨hs.1, ?_, fun a ha b hb => ?_⟩
    · rw [List.singleton_append, List.pairwise_cons]
      exact ⟨h2, hs.2.1⟩
    · rcases List.mem_append.1 hb with hb | hb
      · rw [List.mem_singleton.1 hb]; exact h1 a ha
      · exact hs.2.2 a ha b hb
  · have h3 : n ∈ norm zs ↔ n ∈ (norm zs).take k ∨ n ∈ (norm zs).drop k := by rw [← List.mem_append, List.take_append_drop]
    rw [mem_norm, List.mem_append, List.mem_singleton, List.mem_append, List.mem_append, List.mem_singleton, ← mem_norm (zs := zs), h3]
    constructor
    · rintro ((h | h) | h)
      · exact .inl (.inl h)
      · exact .inr h
      · exact .inl (.inr h)
    · rintro ((h | h) | h)
      · exact .inl (.inl h)
      · exact .inr h
      · exact .inl (.inr h)
theorem drop_gt {l : List Int} {x y : Int} {k : Nat} (hs : l.Pairwise (· < ·)) (hk : l[k]? = some y) (hxy : x < y) : ∀ z ∈ l.drop k, x < z := by
  intro z hz
  obtain ⟨h1, rfl⟩ := List.getElem?_eq_some_iff.1 hk
  rw [List.drop_eq_getElem_cons h1, List.mem_cons] at hz
  rcases hz with rfl | hz
  · exact hxy
  · have h2 := hs
    rw [← List.take_append_drop k l, List.pairwise_append, List.drop_eq_getElem_cons h1, List.pairwise_cons] at h2
    have := h2.2.1.1 z hz
    omega
theorem take_lt_step {l : List Int} {x y : Int} {k : Nat} (h : ∀ z ∈ l.take k, z < x) (hk : l[k]? = some y) (hxy : y < x) : ∀ z ∈ l.take (k + 1), z < x := by
  intro z hz
  rw [List.take_add_one, hk] at hz
  rcases List.mem_append.1 hz with hz | hz
  · exact h z hz
  · simp at hz
    omega
theorem norm_take_succ {zs : List Int} {k : Nat} {x : Int} (h : zs[k]? = some x) : zs.take (k + 1) = zs.take k ++ [x] := by
  rw [List.take_add_one, h]
  rfl
theorem norm_take_len (zs : List Int) (k : Nat) : (norm (zs.take k)).length ≤ zs.length := Nat.le_trans (norm_len _) (by rw [List.length_take]; omega)

set_option maxHeartbeats 400000 in
theorem ref_list_empty (o : Option Addr) (c : Nat) (w : World) : Calls Tryz.prog 34 #[.slice o 0 c] w (Fresh [] w) := by
  have h0 : Hid (Fresh [] w (.returned (.slice none 0 0)) w) := Lib.hid ⟨_, rfl, Owns.nil w _, Below.refl _ _⟩
  go_enter Tryz.func34, Tryz.ntmps34
  go_wp2_with fail
  go_loop [3, 4] (fun sv i => sv = .slice none 0 0 ∧ i = .int .i64 0) (fun _ _ => 0)
  case atStart => exact ⟨rfl, rfl⟩
  case round =>
    obtain ⟨rfl, rfl⟩ := hrel
    go_wp2_with fail
    go_ret
    exact h0.out
end Go.Proofs.YthoboahfogpnfaaGreatDoor
namespace Go.Proofs.YthoboahfogpnfaaGreatDoor
open Go Go.RowKit Go.Sort Go.Lib

theorem take_row {W : World} {B n sc j : Nat} {o : Option Addr} {out : List Int} (h : Owns W B (.slice o n sc) out) (hn : out.length = n) (hj : j ≤ n) : IntsAt W (.slice o j sc) (out.take j) := by
  rcases h.cases with ⟨e, e2⟩ | ⟨g, cap, e, _, _, _, _, hH⟩
  · simp only [Value.slice.injEq] at e
    obtain ⟨rfl, rfl, rfl⟩ := e
    obtain rfl : j = 0 := by omega
    exact IntsAt.none W
  · simp only [Value.slice.injEq] at e
    obtain ⟨rfl, rfl, rfl⟩ := e
    have hl : (out.take j).length = j := by rw [List.length_take]; omega
    have := IntsAt.mk (w := W) (b := g) (off := 0) (c := sc) (zs := out.take j) fun i z hz => by
      obtain ⟨hi, rfl⟩ := List.getElem?_eq_some_iff.1 hz
      rw [hl] at hi
      have h2 := (hH i (by simp; omega)).1
      rw [h2]
      simp [show i < out.length by omega]
    rwa [hl] at this
theorem drop_row {W : World} {B n sc j g : Nat} {out : List Int} (h : Owns W B (.slice (some ⟨g, 0, none⟩) n sc) out) (hn : out.length = n) (hj : j ≤ n) : IntsAt W (.slice (some ⟨g, j, none⟩) (n - j) (sc - j)) (out.drop j) := by
  rcases h.cases with ⟨e, e2⟩ | ⟨g', cap, e, _, _, _, _, hH⟩
  · simp only [Value.slice.injEq] at e
    exact absurd e.1 (by simp)
  · simp only [Value.slice.injEq, Option.some.injEq, Addr.mk.injEq, and_true] at e
    obtain ⟨rfl, e1, rfl⟩ := e
    have hl : (out.drop j).length = n - j := by rw [List.length_drop]; omega
    have := IntsAt.mk (w := W) (b := g) (off := j) (c := sc - j) (zs := out.drop j) fun i z hz => by
      obtain ⟨hi, rfl⟩ := List.getElem?_eq_some_iff.1 hz
      rw [hl] at hi
      have h2 := (hH (j + i) (by simp; omega)).1
      rw [Nat.zero_add] at h2
      rw [h2]
      simp [show j + i < out.length by omega]
    rwa [hl] at this
theorem grown_olds {a b : World} (h : a.grownBy b none) : Olds a b := ⟨h.size, fun k hk => h.block k hk (by simp)⟩
theorem drew_olds (w : World) (q : Nat) : Olds w (w.drewN q) := ⟨Nat.le_refl _, fun _ _ => rfl⟩

set_option maxRecDepth 20000 in
set_option maxHeartbeats 2000000 in
theorem ref_list_cells (b off c : Nat) (zs : List Int) (w : World) (hm : zs.length ≤ 9000) (hc : IntCells w b off zs) : Calls Tryz.prog 34 #[.slice (some ⟨b, off, none⟩) zs.length c] w (Fresh (norm zs) w) := by
  have Hc := Lib.hid hc
  obtain ⟨j0, hj0, hy0, hy1, hy2⟩ := info_parts info3
  clear hc
  generalize hmm : zs.length = m at *
  have Hm := Lib.hid hmm
  clear hmm
  go_enter Tryz.func34, Tryz.ntmps34
  go_wp2_with fail
  go_loopw [3, 4] (fun sv i wr => ∃ (k : Nat) (o : Option Addr) (sc : Nat), i = .int .i64 k ∧ k ≤ m ∧ sv = .slice o (norm (zs.take k)).length sc ∧ Owns wr w.heap.size (.slice o (norm (zs.take k)).length sc) (norm (zs.take k)) ∧ Below w.heap.size w wr) (fun _ i _ => m - (intOf i).toNat)
  case atStart => exact ⟨0, none, 0, rfl, Nat.zero_le _, by rw [List.take_zero, norm_nil]; rfl, by rw [List.take_zero, norm_nil]; exact Owns.nil _ _, Below.refl _ _⟩
  case round =>
    obtain ⟨k, o, sc, rfl, hk, rfl, ho, hb⟩ := hrel
    have Hb := Lib.hid hb
    have Ho := Lib.hid ho
    have hlen : (norm (zs.take k)).length ≤ 9000 := Nat.le_trans (norm_take_len _ _) (by rw [Hm.out]; exact hm)
    have hbs := hb.size
    clear ho hb
    by_cases hlt : k < m
    · obtain ⟨x, hx⟩ : ∃ x, zs[k]? = some x := ⟨_, List.getElem?_eq_getElem (by rw [Hm.out]; exact hlt)⟩
      have hcx : wr.cell? ⟨b, off + k, none⟩ = some (.int .i64 x) := (Olds.of_below Hb.out).cell (Hc.out k x hx)
      have Hx := Lib.hid hx
      have hs := Lib.hid (norm_sorted (zs.take k))
      have Hcap : Hid ((norm (zs.take k)).length ≤ sc) := Lib.hid (by
        rcases Ho.out.cases with ⟨e, _⟩ | ⟨g, cap, e, _, _, h, _⟩
        · simp only [Value.slice.injEq] at e; omega
        · simp only [Value.slice.injEq] at e; omega)
      have Hsnoc : Hid (norm (zs.take (k + 1)) = norm (zs.take k ++ [x])) := Lib.hid (by rw [norm_take_succ Hx.out])
      have Hcells := Lib.hid Ho.out.ints
      clear hx
      generalize hout : norm (zs.take k) = out at *
      have Hout := Lib.hid hout
      clear hout
      generalize hn : out.length = n at *
      have Hn := Lib.hid hn
      clear hn
      go_wp2_with fail
      go_loopw [5] (fun i wr2 => ∃ (j q : Nat), i = .int .i64 j ∧ j ≤ n ∧ wr2 = wr.drewN q ∧ ∀ z ∈ out.take j, z < x) (fun i _ => n - (intOf i).toNat)
      case atStart => exact ⟨0, 0, rfl, Nat.zero_le _, rfl, by simp⟩
      case round =>
        obtain ⟨j, q, rfl, hj, rfl, hlow⟩ := hrel
        have Hlow := Lib.hid hlow
        clear hlow
        have hj63 : n ≤ 9223372036854775807 := by omega
        by_cases hjn : j < n
        · obtain ⟨y, hy⟩ : ∃ y, out[j]? = some y := ⟨_, List.getElem?_eq_getElem (by rw [Hn.out]; exact hjn)⟩
          obtain ⟨g, rfl, hcy⟩ : ∃ g, o = some ⟨g, 0, none⟩ ∧ wr.cell? ⟨g, j, none⟩ = some (.int .i64 y) := by
            rcases Hcells.out.cases with ⟨_, _, e, e2, _⟩ | ⟨g', off', c', e, _, hcs⟩
            · rw [e2] at hy; simp at hy
            · rcases Ho.out.cases with ⟨e3, e4⟩ | ⟨g, cap, e3, _⟩
              · rw [e4] at hy; simp at hy
              · rw [e3] at e
                simp only [Value.slice.injEq, Option.some.injEq, Addr.mk.injEq, and_true] at e e3
                obtain ⟨⟨rfl, rfl⟩, _⟩ := e
                refine ⟨g, e3.1, ?_⟩
                have := hcs j y hy
                rwa [Nat.zero_add] at this
          have Hy := Lib.hid hy
          clear hy
          by_cases hyx : y < x
          · go_wp2_with fail
            go_quiet (fail)
            go_wp2_with fail
            go_roundw
            case rel => exact ⟨j + 1, _, by go_num, by omega, rfl, take_lt_step Hlow.out Hy.out hyx⟩
            case measure => simp [intOf]; omega
          · by_cases hye : y = x
            · have Hr : Hid (out = norm (zs.take (k + 1))) := Lib.hid (by
                rw [Hsnoc.out]
                exact (norm_snoc_in (by rw [Hout.out]; subst hye; exact List.mem_of_getElem? Hy.out) |>.trans Hout.out).symm)
              go_wp2_with fail
              go_quiet (fail)
              go_wp2_with fail
              go_quiet (fail)
              go_wp2_with fail
              go_roundw
              case rel => exact ⟨k + 1, _, sc, by go_num, by omega, by rw [← Hr.out, Hn.out], by rw [← Hr.out, Hn.out]; exact Ho.out, below_drewN Hb.out _⟩
              case measure => simp [intOf]; omega
            · have Hhi : Hid (∀ z ∈ out.drop j, x < z) := Lib.hid (drop_gt hs.out Hy.out (by omega))
              have hscj : ¬ sc = j := by have := Hcap.out; omega
              have hjsc : j ≤ sc := by have := Hcap.out; omega
              have etk : (out.take j).length = j := by rw [List.length_take, Hn.out]; omega
              have Hnew : Hid (norm (zs.take (k + 1)) = (out.take j ++ [x]) ++ out.drop j) := Lib.hid (by
                rw [Hsnoc.out, ← Hout.out]
                exact norm_snoc_new (by rw [Hout.out]; exact Hlow.out) (by rw [Hout.out]; exact Hhi.out))
              go_wp2_with fail
              go_quiet (fail)
              go_wp2_with fail
              go_quiet (fail)
              go_wp2_with (first
                | (at_builtin; refine wpList_append_row rfl _ _ rfl w.heap.size (.slice none 0 0) (.slice (some ⟨g, 0, none⟩) j sc) [] (out.take j) rfl rfl (Owns.nil _ _) hbs ((take_row Ho.out Hn.out hj).olds (drew_olds _ _)) (by rw [etk]; simp; omega) ?_; intro v1 w1 hown1 hgrow1 hat1; rw [List.nil_append] at hown1; obtain ⟨o1, c1, hv1⟩ := hown1.shape; rw [etk] at hv1; subst hv1; have H01 : Hid (Olds wr w1) := Lib.hid ((drew_olds wr _).trans (grown_olds hgrow1)); have B1 : Hid (Below w.heap.size w w1) := Lib.hid ((below_drewN Hb.out _).grown hgrow1 hbs (fun k hk => by cases hk)); have Hat1 : Hid (∀ b, (Value.slice o1 j c1).ownBlock = some b → wr.heap.size ≤ b) := Lib.hid (fun b hb => by rcases hat1 with e | e <;> rw [e] at hb <;> cases hb; exact Nat.le_refl _); have Hown1 : Hid (w1.ownsRow w.heap.size 3 1 (.slice o1 j c1) j ((out.take j).map (Value.int .i64))) := Lib.hid (by have h := hown1; unfold Owns at h; rw [etk] at h; exact h); have hs1 : wr.heap.size ≤ w1.heap.size := H01.out.1; clear hown1 hgrow1 hat1; have hcx1 : w1.cell? ⟨b, off + k, none⟩ = some (.int .i64 x) := H01.out.cell hcx)
                | (at_builtin; refine wpList_append_lies _ rfl _ _ _ rfl w.heap.size 3 j0 _ 1 8 Tryz.underlying22 hj0 hy0 hy1 hy2 rfl Nat.one_pos (.slice o1 j c1) j ((out.take j).map (Value.int .i64)) rfl (ownsRow_olds Hown1.out (Olds.alloc _ _)) ⟨w1.heap.size, 0, none⟩ 1 1 [.int .i64 x] rfl rfl (World.news_of_block (cs := #[.int .i64 x]) (t := 3) (fr := (0, 0)) (heap_alloc_new w1 _)) (by simp [Value.oneCell']) Nat.one_pos (by unfold maxLen; omega) (by omega) (by simp; omega) (w1.heap.size + 1) (by simp) ?_; intro gg cap2 w2 hown2 hgrow2 hat2 hlt2; have H02 : Hid (Olds wr w2) := Lib.hid ⟨by have := hgrow2.size; simp at this; omega, fun b hb => by rw [hgrow2.block b (by simp; omega) (fun e => by have := Hat1.out b e.symm; omega)]; exact (H01.out.trans (Olds.alloc _ _)).2 b hb⟩; have B2 : Hid (Below w.heap.size w w2) := Lib.hid ((B1.out.alloc (by omega) _).grown hgrow2 (by simp; omega) (fun b hb => by have := Hat1.out b hb; omega)); have Hown2 : Hid (Owns w2 w.heap.size (.slice (some ⟨gg, 0, none⟩) (j + 1) cap2) (out.take j ++ [x])) := Lib.hid (by unfold Owns; rw [List.length_append, etk, List.map_append]; exact hown2); have hgg : w.heap.size ≤ gg := (ownsRow_block hown2 (g := gg) rfl).1; have hs2 : wr.heap.size ≤ w2.heap.size := H02.out.1; clear hown2 hgrow2 hat2)
                | (at_builtin; refine wpList_append_row rfl _ _ rfl w.heap.size (.slice (some ⟨gg, 0, none⟩) (j + 1) cap2) _ (out.take j ++ [x]) (out.drop j) rfl rfl Hown2.out B2.out.size ((drop_row Ho.out Hn.out hj).olds H02.out) (by rw [List.length_append, etk, List.length_drop, Hn.out]; simp; omega) ?_; intro v3 w3 hown3 hgrow3 hat3; obtain ⟨o3, c3, hv3⟩ := hown3.shape; subst hv3; have B3 : Hid (Below w.heap.size w w3) := Lib.hid (B2.out.grown hgrow3 B2.out.size (fun b hb => by cases hb; exact hgg)); have Hown3 := Lib.hid hown3; clear hown3 hgrow3 hat3))
              go_roundw
              case rel => exact ⟨k + 1, o3, c3, by go_num, by omega, by rw [Hnew.out]; exact congrArg (fun t => Value.slice o3 t c3) (by simp only [List.length_append, List.length_take, List.length_drop, List.length_cons, List.length_nil]; have := Hn.out; omega), by rw [Hnew.out]; exact Hown3.out, B3.out⟩
              case measure => simp [intOf]; omega
        · obtain rfl : j = n := by omega
          have Hhi : Hid (∀ z ∈ out.drop j, x < z) := Lib.hid (by rw [List.drop_of_length_le (by have := Hn.out; omega)]; simp)
          have hjsc : j ≤ sc := Hcap.out
          rcases Ho.out.cases with ⟨e, _⟩ | ⟨g, cap, e, _⟩
          · simp only [Value.slice.injEq] at e
            obtain ⟨rfl, rfl, rfl⟩ := e
            have Hnew : Hid (norm (zs.take (k + 1)) = [x]) := Lib.hid (by
              have e0 : out = [] := List.eq_nil_of_length_eq_zero Hn.out
              rw [Hsnoc.out]
              have := norm_snoc_new (zs := zs.take k) (x := x) (k := 0) (by simp) (by rw [Hout.out, e0]; simp)
              rw [this, Hout.out, e0]
              rfl)
            go_wp2_with fail
            go_quiet (fail)
            go_wp2_with fail
            go_quiet (fail)
            go_wp2_with (first
              | (at_builtin; refine wpList_append_lies _ rfl _ _ _ rfl w.heap.size 3 j0 _ 1 8 Tryz.underlying22 hj0 hy0 hy1 hy2 rfl Nat.one_pos (.slice none 0 0) 0 [] rfl ⟨rfl, .inl ⟨rfl, rfl⟩⟩ ⟨wr.heap.size, 0, none⟩ 1 1 [.int .i64 x] rfl rfl (World.news_of_block (cs := #[.int .i64 x]) (t := 3) (fr := (0, 0)) (heap_alloc_new (wr.drewN _) _)) (by simp [Value.oneCell']) Nat.one_pos (by unfold maxLen; omega) (by omega) (by simp; omega) (wr.heap.size + 1) (by simp) ?_; intro gg cap2 w2 hown2 hgrow2 hat2 hlt2; have B2 : Hid (Below w.heap.size w w2) := Lib.hid (((below_drewN Hb.out _).alloc hbs _).grown hgrow2 (by simp; omega) (fun b hb => by cases hb)); have Hown2 : Hid (Owns w2 w.heap.size (.slice (some ⟨gg, 0, none⟩) 1 cap2) [x]) := Lib.hid hown2; have hgg : w.heap.size ≤ gg := (ownsRow_block hown2 (g := gg) rfl).1; clear hown2 hgrow2 hat2)
              | (at_builtin; refine wpList_append_row rfl _ _ rfl w.heap.size (.slice (some ⟨gg, 0, none⟩) 1 cap2) (.slice none 0 0) [x] [] rfl rfl Hown2.out B2.out.size (IntsAt.none _) (by simp) ?_; intro v3 w3 hown3 hgrow3 hat3; rw [List.append_nil] at hown3; obtain ⟨o3, c3, hv3⟩ := hown3.shape; subst hv3; have B3 : Hid (Below w.heap.size w w3) := Lib.hid (B2.out.grown hgrow3 B2.out.size (fun b hb => by cases hb; exact hgg)); have Hown3 := Lib.hid hown3; clear hown3 hgrow3 hat3))
            go_roundw
            case rel => exact ⟨k + 1, o3, c3, by go_num, by omega, by rw [Hnew.out]; rfl, by rw [Hnew.out]; exact Hown3.out, B3.out⟩
            case measure => simp [intOf]; omega
          · simp only [Value.slice.injEq] at e
            obtain ⟨rfl, hz1, hz2⟩ := e
            clear hz1 hz2
            by_cases hscj : sc = j
            · have hscj2 : sc ≤ j := by omega
              clear hscj
              have etk : (out.take j).length = j := by rw [List.length_take, Hn.out]; omega
              have Hnew : Hid (norm (zs.take (k + 1)) = (out.take j ++ [x]) ++ out.drop j) := Lib.hid (by
                rw [Hsnoc.out, ← Hout.out]
                exact norm_snoc_new (by rw [Hout.out]; exact Hlow.out) (by rw [Hout.out]; exact Hhi.out))
              go_wp2_with fail
              go_quiet (fail)
              go_wp2_with fail
              go_quiet (fail)
              go_wp2_with (first
                | (at_builtin; refine wpList_append_row rfl _ _ rfl w.heap.size (.slice none 0 0) (.slice (some ⟨g, 0, none⟩) j sc) [] (out.take j) rfl rfl (Owns.nil _ _) hbs ((take_row Ho.out Hn.out hj).olds (drew_olds _ _)) (by rw [etk]; simp; omega) ?_; intro v1 w1 hown1 hgrow1 hat1; rw [List.nil_append] at hown1; obtain ⟨o1, c1, hv1⟩ := hown1.shape; rw [etk] at hv1; subst hv1; have H01 : Hid (Olds wr w1) := Lib.hid ((drew_olds wr _).trans (grown_olds hgrow1)); have B1 : Hid (Below w.heap.size w w1) := Lib.hid ((below_drewN Hb.out _).grown hgrow1 hbs (fun k hk => by cases hk)); have Hat1 : Hid (∀ b, (Value.slice o1 j c1).ownBlock = some b → wr.heap.size ≤ b) := Lib.hid (fun b hb => by rcases hat1 with e | e <;> rw [e] at hb <;> cases hb; exact Nat.le_refl _); have Hown1 : Hid (w1.ownsRow w.heap.size 3 1 (.slice o1 j c1) j ((out.take j).map (Value.int .i64))) := Lib.hid (by have h := hown1; unfold Owns at h; rw [etk] at h; exact h); have hs1 : wr.heap.size ≤ w1.heap.size := H01.out.1; clear hown1 hgrow1 hat1; have hcx1 : w1.cell? ⟨b, off + k, none⟩ = some (.int .i64 x) := H01.out.cell hcx)
                | (at_builtin; refine wpList_append_lies _ rfl _ _ _ rfl w.heap.size 3 j0 _ 1 8 Tryz.underlying22 hj0 hy0 hy1 hy2 rfl Nat.one_pos (.slice o1 j c1) j ((out.take j).map (Value.int .i64)) rfl (ownsRow_olds Hown1.out (Olds.alloc _ _)) ⟨w1.heap.size, 0, none⟩ 1 1 [.int .i64 x] rfl rfl (World.news_of_block (cs := #[.int .i64 x]) (t := 3) (fr := (0, 0)) (heap_alloc_new w1 _)) (by simp [Value.oneCell']) Nat.one_pos (by unfold maxLen; omega) (by omega) (by simp; omega) (w1.heap.size + 1) (by simp) ?_; intro gg cap2 w2 hown2 hgrow2 hat2 hlt2; have H02 : Hid (Olds wr w2) := Lib.hid ⟨by have := hgrow2.size; simp at this; omega, fun b hb => by rw [hgrow2.block b (by simp; omega) (fun e => by have := Hat1.out b e.symm; omega)]; exact (H01.out.trans (Olds.alloc _ _)).2 b hb⟩; have B2 : Hid (Below w.heap.size w w2) := Lib.hid ((B1.out.alloc (by omega) _).grown hgrow2 (by simp; omega) (fun b hb => by have := Hat1.out b hb; omega)); have Hown2 : Hid (Owns w2 w.heap.size (.slice (some ⟨gg, 0, none⟩) (j + 1) cap2) (out.take j ++ [x])) := Lib.hid (by unfold Owns; rw [List.length_append, etk, List.map_append]; exact hown2); have hgg : w.heap.size ≤ gg := (ownsRow_block hown2 (g := gg) rfl).1; have hs2 : wr.heap.size ≤ w2.heap.size := H02.out.1; clear hown2 hgrow2 hat2)
                | (at_builtin; refine wpList_append_row rfl _ _ rfl w.heap.size (.slice (some ⟨gg, 0, none⟩) (j + 1) cap2) _ (out.take j ++ [x]) (out.drop j) rfl rfl Hown2.out B2.out.size (by rw [List.drop_of_length_le (by have := Hn.out; omega)]; first | exact IntsAt.none _ | exact IntsAt.zero _ _ _) (by rw [List.length_append, etk, List.length_drop, Hn.out]; simp; omega) ?_; intro v3 w3 hown3 hgrow3 hat3; obtain ⟨o3, c3, hv3⟩ := hown3.shape; subst hv3; have B3 : Hid (Below w.heap.size w w3) := Lib.hid (B2.out.grown hgrow3 B2.out.size (fun b hb => by cases hb; exact hgg)); have Hown3 := Lib.hid hown3; clear hown3 hgrow3 hat3))
              go_roundw
              case rel => exact ⟨k + 1, o3, c3, by go_num, by omega, by rw [Hnew.out]; exact congrArg (fun t => Value.slice o3 t c3) (by simp only [List.length_append, List.length_take, List.length_drop, List.length_cons, List.length_nil]; have := Hn.out; omega), by rw [Hnew.out]; exact Hown3.out, B3.out⟩
              case measure => simp [intOf]; omega
            · have hscj' : j < sc := by omega
              have etk : (out.take j).length = j := by rw [List.length_take, Hn.out]; omega
              have Hnew : Hid (norm (zs.take (k + 1)) = (out.take j ++ [x]) ++ out.drop j) := Lib.hid (by
                rw [Hsnoc.out, ← Hout.out]
                exact norm_snoc_new (by rw [Hout.out]; exact Hlow.out) (by rw [Hout.out]; exact Hhi.out))
              go_wp2_with fail
              go_quiet (fail)
              go_wp2_with fail
              go_quiet (fail)
              go_wp2_with (first
                | (at_builtin; refine wpList_append_row rfl _ _ rfl w.heap.size (.slice none 0 0) (.slice (some ⟨g, 0, none⟩) j sc) [] (out.take j) rfl rfl (Owns.nil _ _) hbs ((take_row Ho.out Hn.out hj).olds (drew_olds _ _)) (by rw [etk]; simp; omega) ?_; intro v1 w1 hown1 hgrow1 hat1; rw [List.nil_append] at hown1; obtain ⟨o1, c1, hv1⟩ := hown1.shape; rw [etk] at hv1; subst hv1; have H01 : Hid (Olds wr w1) := Lib.hid ((drew_olds wr _).trans (grown_olds hgrow1)); have B1 : Hid (Below w.heap.size w w1) := Lib.hid ((below_drewN Hb.out _).grown hgrow1 hbs (fun k hk => by cases hk)); have Hat1 : Hid (∀ b, (Value.slice o1 j c1).ownBlock = some b → wr.heap.size ≤ b) := Lib.hid (fun b hb => by rcases hat1 with e | e <;> rw [e] at hb <;> cases hb; exact Nat.le_refl _); have Hown1 : Hid (w1.ownsRow w.heap.size 3 1 (.slice o1 j c1) j ((out.take j).map (Value.int .i64))) := Lib.hid (by have h := hown1; unfold Owns at h; rw [etk] at h; exact h); have hs1 : wr.heap.size ≤ w1.heap.size := H01.out.1; clear hown1 hgrow1 hat1; have hcx1 : w1.cell? ⟨b, off + k, none⟩ = some (.int .i64 x) := H01.out.cell hcx)
                | (at_builtin; refine wpList_append_lies _ rfl _ _ _ rfl w.heap.size 3 j0 _ 1 8 Tryz.underlying22 hj0 hy0 hy1 hy2 rfl Nat.one_pos (.slice o1 j c1) j ((out.take j).map (Value.int .i64)) rfl (ownsRow_olds Hown1.out (Olds.alloc _ _)) ⟨w1.heap.size, 0, none⟩ 1 1 [.int .i64 x] rfl rfl (World.news_of_block (cs := #[.int .i64 x]) (t := 3) (fr := (0, 0)) (heap_alloc_new w1 _)) (by simp [Value.oneCell']) Nat.one_pos (by unfold maxLen; omega) (by omega) (by simp; omega) (w1.heap.size + 1) (by simp) ?_; intro gg cap2 w2 hown2 hgrow2 hat2 hlt2; have H02 : Hid (Olds wr w2) := Lib.hid ⟨by have := hgrow2.size; simp at this; omega, fun b hb => by rw [hgrow2.block b (by simp; omega) (fun e => by have := Hat1.out b e.symm; omega)]; exact (H01.out.trans (Olds.alloc _ _)).2 b hb⟩; have B2 : Hid (Below w.heap.size w w2) := Lib.hid ((B1.out.alloc (by omega) _).grown hgrow2 (by simp; omega) (fun b hb => by have := Hat1.out b hb; omega)); have Hown2 : Hid (Owns w2 w.heap.size (.slice (some ⟨gg, 0, none⟩) (j + 1) cap2) (out.take j ++ [x])) := Lib.hid (by unfold Owns; rw [List.length_append, etk, List.map_append]; exact hown2); have hgg : w.heap.size ≤ gg := (ownsRow_block hown2 (g := gg) rfl).1; have hs2 : wr.heap.size ≤ w2.heap.size := H02.out.1; clear hown2 hgrow2 hat2)
                | (at_builtin; refine wpList_append_row rfl _ _ rfl w.heap.size (.slice (some ⟨gg, 0, none⟩) (j + 1) cap2) _ (out.take j ++ [x]) (out.drop j) rfl rfl Hown2.out B2.out.size (by rw [List.drop_of_length_le (by have := Hn.out; omega)]; first | exact IntsAt.none _ | exact IntsAt.zero _ _ _) (by rw [List.length_append, etk, List.length_drop, Hn.out]; simp; omega) ?_; intro v3 w3 hown3 hgrow3 hat3; obtain ⟨o3, c3, hv3⟩ := hown3.shape; subst hv3; have B3 : Hid (Below w.heap.size w w3) := Lib.hid (B2.out.grown hgrow3 B2.out.size (fun b hb => by cases hb; exact hgg)); have Hown3 := Lib.hid hown3; clear hown3 hgrow3 hat3))
              go_roundw
              case rel => exact ⟨k + 1, o3, c3, by go_num, by omega, by rw [Hnew.out]; exact congrArg (fun t => Value.slice o3 t c3) (by simp only [List.length_append, List.length_take, List.length_drop, List.length_cons, List.length_nil]; have := Hn.out; omega), by rw [Hnew.out]; exact Hown3.out, B3.out⟩
              case measure => simp [intOf]; omega
    · have Hf : Hid (Fresh (norm zs) w (.returned (.slice o (norm (zs.take k)).length sc)) wr) := Lib.hid (by
        have e : zs.take k = zs := List.take_of_length_le (by rw [Hm.out]; omega)
        have h := Ho.out
        rw [e] at h ⊢
        exact ⟨_, rfl, h, Hb.out⟩)
      go_wp2_with fail
      go_ret
      exact Hf.out
end Go.Proofs.YthoboahfogpnfaaGreatDoor
namespace Go.Proofs.YthoboahfogpnfaaGreatDoor
open Go Go.RowKit Go.Sort Go.Lib

theorem ref_list_any {v : Value} {zs : List Int} (w : World) (h : IntsAt w v zs) (hm : zs.length ≤ 9000) : Calls Tryz.prog 34 #[v] w (Fresh (norm zs) w) := by
  rcases h.cases with ⟨o, c, rfl, rfl, _⟩ | ⟨b, off, c, rfl, _, hc⟩
  · rw [norm_nil]; exact ref_list_empty o c w
  · exact ref_list_cells b off c zs w hm hc

theorem flat_take (L : List (List Int)) (k : Nat) {x : List Int} (h : L[k]? = some x) : (L.take (k + 1)).flatten = (L.take k).flatten ++ x := by
  rw [List.take_add_one, h, List.flatten_append]
  simp
theorem flat_take_len (L : List (List Int)) (k : Nat) : (L.take k).flatten.length ≤ tot L := by rw [tot_flat]; exact tot_le L k

set_option maxRecDepth 20000 in
set_option maxHeartbeats 1000000 in
theorem ref_or {v : Value} {L : List (List Int)} (w : World) (h : ListsAt w v L) (hn : L.length ≤ 3000) (ht : tot L ≤ 3000) : Calls Tryz.prog 17 #[v] w (Fresh (orL L) w) := by
  obtain ⟨vs, ⟨o, c, hv, hno, hcs⟩, hvl, hi⟩ := h
  subst hv
  have Hi := Lib.hid hi
  have Hcs := Lib.hid hcs
  clear hi hcs hno
  generalize hm : vs.length = m at *
  have Hm := Lib.hid hm
  have Hvl := Lib.hid hvl
  have hm3 : m ≤ 3000 := by omega
  clear hm hvl
  go_enter Tryz.func17, Tryz.ntmps17
  go_wp2_with fail
  go_loopw [3, 4] (fun sv i wr => ∃ (k : Nat) (so : Option Addr) (sc : Nat), i = .int .i64 k ∧ k ≤ m ∧ sv = .slice so (L.take k).flatten.length sc ∧ Owns wr w.heap.size (.slice so (L.take k).flatten.length sc) (L.take k).flatten ∧ Below w.heap.size w wr) (fun _ i _ => m - (intOf i).toNat)
  case atStart => exact ⟨0, none, 0, rfl, Nat.zero_le _, rfl, Owns.nil _ _, Below.refl _ _⟩
  case round =>
    obtain ⟨k, so, sc, rfl, hk, rfl, ho, hb⟩ := hrel
    have Hb := Lib.hid hb
    have Ho := Lib.hid ho
    have hbs := hb.size
    have hfl := flat_take_len L k
    clear ho hb
    by_cases hlt : k < m
    · obtain ⟨u, hu⟩ : ∃ u, vs[k]? = some u := ⟨_, List.getElem?_eq_getElem (by rw [Hm.out]; exact hlt)⟩
      obtain ⟨x, hx⟩ : ∃ x, L[k]? = some x := ⟨_, List.getElem?_eq_getElem (by rw [← Hvl.out]; exact hlt)⟩
      obtain ⟨b, off, rfl, hcells⟩ := Hcs.out (by intro e; rw [e] at hu; simp at hu)
      have hck : wr.cell? ⟨b, off + k, none⟩ = some u := (Olds.of_below Hb.out).cell (hcells k u hu)
      have Hu := Lib.hid ((Hi.out k u x hu hx).olds (Olds.of_below Hb.out))
      have Hf := Lib.hid (flat_take L k hx)
      have hfl2 := flat_take_len L (k + 1)
      rw [Hf.out, List.length_append] at hfl2
      obtain ⟨uo, uc, hu2, _⟩ := Hu.out
      rw [ints_len] at hu2
      subst hu2
      clear hcells hu hx
      generalize hout : (L.take k).flatten = out at *
      go_wp2_with (at_builtin; refine wpList_append_row rfl _ _ rfl w.heap.size (.slice so out.length sc) (.slice uo x.length uc) out x rfl rfl Ho.out hbs Hu.out (by omega) ?_; intro v1 w1 hown1 hgrow1 hat1; obtain ⟨o1, c1, hv1⟩ := hown1.shape; subst hv1; have Hown1 := Lib.hid hown1; have B1 : Hid (Below w.heap.size w w1) := Lib.hid (Hb.out.grown hgrow1 hbs (fun b hb => (ownsRow_block Ho.out hb).1)); clear hown1 hgrow1 hat1)
      go_roundw
      case rel => exact ⟨k + 1, o1, c1, by go_num, by omega, by rw [Hf.out]; exact congrArg (fun t => Value.slice o1 t c1) (by simp), by rw [Hf.out]; exact Hown1.out, B1.out⟩
      case measure => simp [intOf]; omega
    · have e : (L.take k).flatten = L.flatten := by rw [List.take_of_length_le (by rw [← Hvl.out]; omega)]
      have HL := Lib.hid (ref_list_any wr Ho.out.ints (by omega))
      have He : Hid (norm (L.take k).flatten = orL L) := Lib.hid (by rw [e]; rfl)
      clear e
      generalize hout : (L.take k).flatten = out at *
      go_wp2_with fail
      refine HL.out.mono ?_
      rintro e2 w2 ⟨v2, rfl, h2, hb2⟩
      have Hf : Hid (Fresh (orL L) w (.returned v2) w2) := Lib.hid ⟨_, rfl, He.out ▸ h2.mono hbs, Hb.out.trans (hb2.mono hbs)⟩
      clear h2 hb2
      go_wp2_with fail
      go_ret
      exact Hf.out

theorem has_norm (ys : List Int) (n : Int) : hasN (norm ys) n = hasN ys n := hasN_congr mem_norm

set_option maxRecDepth 20000 in
set_option maxHeartbeats 1000000 in
theorem ref_not {va vb : Value} {xs ys : List Int} (w : World) (ha : IntsAt w va xs) (hb : IntsAt w vb ys) (hx : xs.length ≤ 3000) (hy : ys.length ≤ 3000) : Calls Tryz.prog 18 #[va, vb] w (Fresh (minus (norm xs) (norm ys)) w) := by
  obtain ⟨j0, hj0, hy0, hy1, hy2⟩ := info_parts info3
  have H1 := Lib.hid (ref_list_any w ha (by omega))
  have Hb := Lib.hid hb
  clear ha hb
  go_enter Tryz.func18, Tryz.ntmps18
  go_wp2_with fail
  refine H1.out.mono ?_
  rintro e w1 ⟨v1, rfl, ho1, hb1⟩
  obtain ⟨o1, c1, rfl⟩ := ho1.shape
  have Ho1 := Lib.hid ho1.ints
  have Hb1 := Lib.hid hb1
  have hs1 := hb1.size
  have hnl : (norm xs).length ≤ 3000 := Nat.le_trans (norm_len xs) hx
  clear ho1 hb1
  generalize hl : norm xs = l at *
  go_wp2_with fail
  go_loopw [5, 7] (fun sv i wr => ∃ (k : Nat) (so : Option Addr) (sc : Nat), i = .int .i64 k ∧ k ≤ l.length ∧ sv = .slice so (minus (l.take k) (norm ys)).length sc ∧ Owns wr w1.heap.size (.slice so (minus (l.take k) (norm ys)).length sc) (minus (l.take k) (norm ys)) ∧ Below w1.heap.size w1 wr) (fun _ i _ => l.length - (intOf i).toNat)
  case atStart => exact ⟨0, none, 0, rfl, Nat.zero_le _, rfl, Owns.nil _ _, Below.refl _ _⟩
  case round =>
    obtain ⟨k, so, sc, rfl, hk, rfl, ho, hb⟩ := hrel
    have Hbb := Lib.hid hb
    have Ho := Lib.hid ho
    have hbs := hb.size
    have hol : (minus (l.take k) (norm ys)).length ≤ k := Nat.le_trans (List.length_filter_le _ _) (by rw [List.length_take]; omega)
    clear ho hb
    by_cases hlt : k < l.length
    · obtain ⟨z, hz, _⟩ := at_some hlt
      obtain ⟨b, off, c, e1, _, hcs⟩ : ∃ b off c, Value.slice o1 l.length c1 = .slice (some ⟨b, off, none⟩) l.length c ∧ 0 < l.length ∧ IntCells w1 b off l := by
        rcases Ho1.out.cases with ⟨_, _, _, e2, _⟩ | h
        · rw [e2] at hlt; simp at hlt
        · exact h
      simp only [Value.slice.injEq, true_and] at e1
      obtain ⟨rfl, rfl⟩ := e1
      have hcz : wr.cell? ⟨b, off + k, none⟩ = some (.int .i64 z) := (Olds.of_below Hbb.out).cell (hcs k z hz)
      have HI := Lib.hid (rin_any z wr (Hb.out.olds ((Olds.of_below Hb1.out).trans (Olds.of_below Hbb.out))) (by unfold maxLen; omega))
      have Hz : Hid (minus (l.take (k + 1)) (norm ys) = minus (l.take k) (norm ys) ++ (if hasN ys z then [] else [z])) := Lib.hid (by
        unfold minus
        rw [List.take_add_one, hz, List.filter_append]
        congr 1
        cases hh : hasN ys z <;> simp [has_norm, hh])
      clear hcs hz
      generalize hout : minus (l.take k) (norm ys) = out at *
      go_wp2_with fail
      refine HI.out.mono ?_
      rintro e w' ⟨rfl, rfl⟩
      cases hh : hasN ys z with
      | true =>
        have Hz2 : Hid (minus (l.take (k + 1)) (norm ys) = out) := Lib.hid (by rw [Hz.out, hh]; simp)
        clear hh
        go_wp2_with fail
        go_roundw
        case rel => exact ⟨k + 1, so, sc, by go_num, by omega, by rw [Hz2.out], by rw [Hz2.out]; exact Ho.out, Hbb.out⟩
        case measure => simp [intOf]; omega
      | false =>
        have Hz2 : Hid (minus (l.take (k + 1)) (norm ys) = out ++ [z]) := Lib.hid (by rw [Hz.out, hh]; simp)
        clear hh
        go_wp2_with (at_builtin; refine wpList_append_lies _ rfl _ _ _ rfl w1.heap.size 3 j0 _ 1 8 Tryz.underlying22 hj0 hy0 hy1 hy2 rfl Nat.one_pos (.slice so out.length sc) out.length (out.map (Value.int .i64)) rfl (ownsRow_olds Ho.out (Olds.alloc _ _)) ⟨wr.heap.size, 0, none⟩ 1 1 [.int .i64 z] rfl rfl (World.news_of_block (cs := #[.int .i64 z]) (t := 3) (fr := (0, 0)) (heap_alloc_new wr _)) (by simp [Value.oneCell']) Nat.one_pos (by unfold maxLen; omega) (by omega) (by simp; omega) (wr.heap.size + 1) (by simp) ?_; intro gg cap2 w4 hown4 hgrow hat hlt4; have B4 : Hid (Below w1.heap.size w1 w4) := Lib.hid ((Hbb.out.alloc hbs _).grown hgrow (by simp; omega) (fun b hb => (ownsRow_block Ho.out hb).1)); have Hown4 : Hid (Owns w4 w1.heap.size (.slice (some ⟨gg, 0, none⟩) (out.length + 1) cap2) (out ++ [z])) := Lib.hid (by unfold Owns; rw [List.length_append, List.map_append]; exact hown4); clear hown4 hgrow hat)
        go_roundw
        case rel => exact ⟨k + 1, _, cap2, by go_num, by omega, by rw [Hz2.out]; exact congrArg (fun t => Value.slice _ t cap2) (by simp), by rw [Hz2.out]; simpa using Hown4.out, B4.out⟩
        case measure => simp [intOf]; omega
    · have e : l.take k = l := List.take_of_length_le (by omega)
      have Hf : Hid (Fresh (minus l (norm ys)) w (.returned (.slice so (minus (l.take k) (norm ys)).length sc)) wr) := Lib.hid (by
        have h := Ho.out
        rw [e] at h ⊢
        exact ⟨_, rfl, h.mono hs1, Hb1.out.trans (Hbb.out.mono hs1)⟩)
      go_wp2_with fail
      go_ret
      exact Hf.out
end Go.Proofs.YthoboahfogpnfaaGreatDoor
namespace Go.Proofs.YthoboahfogpnfaaGreatDoor
open Go Go.RowKit Go.Sort Go.Lib

def inAll (r : List (List Int)) (n : Int) : Bool := r.all fun ys => hasN ys n
theorem andL_eq (x : List Int) (r : List (List Int)) : andL (x :: r) = (norm x).filter (inAll r) := by
  show r.foldl (fun out y => meet out (norm y)) (norm x) = _
  generalize norm x = out
  induction r generalizing out with
  | nil => exact (List.filter_eq_self.2 (fun _ _ => rfl)).symm
  | cons y r ih =>
    rw [List.foldl_cons, ih]
    unfold meet
    rw [List.filter_filter]
    congr 1
    funext n
    show (inAll r n && hasN (norm y) n) = (hasN y n && inAll r n)
    rw [has_norm, Bool.and_comm]
theorem inAll_step {r : List (List Int)} {j : Nat} {ys : List Int} (h : r[j]? = some ys) (n : Int) : inAll (r.take (j + 1)) n = (inAll (r.take j) n && hasN ys n) := by
  unfold inAll
  rw [List.take_add_one, h, List.all_append]
  simp

set_option maxHeartbeats 400000 in
theorem ref_and_none (o : Option Addr) (c : Nat) (w : World) : Calls Tryz.prog 16 #[.slice o 0 c] w (Fresh [] w) := by
  have h0 : Hid (Fresh [] w (.returned (.slice none 0 0)) w) := Lib.hid ⟨_, rfl, Owns.nil w _, Below.refl _ _⟩
  go_enter Tryz.func16, Tryz.ntmps16
  go_wp2_with fail
  go_ret
  exact h0.out

set_option maxRecDepth 20000 in
set_option maxHeartbeats 1000000 in
theorem ref_and_some (b off c m : Nat) (u : Value) (us : List Value) (x : List Int) (r : List (List Int)) (w : World) (hm : us.length = m) (hmax : m ≤ 3000) (hc : CellsAt w b off (u :: us)) (hl : r.length = m)
    (hx : x.length ≤ 3000) (hr : ∀ zs ∈ r, zs.length ≤ 3000) (hu : IntsAt w u x) (hi : ∀ (i : Nat) (u : Value) (zs : List Int), us[i]? = some u → r[i]? = some zs → IntsAt w u zs) :
    Calls Tryz.prog 16 #[.slice (some ⟨b, off, none⟩) (m + 1) c] w (Fresh (andL (x :: r)) w) := by
  obtain ⟨j0, hj0, hy0, hy1, hy2⟩ := info_parts info3
  have hc0 := hc 0 u rfl
  rw [Nat.add_zero] at hc0
  have H1 := Lib.hid (ref_list_any w hu (by omega))
  have Hc := Lib.hid hc
  have Hi := Lib.hid hi
  have Hr := Lib.hid hr
  have Hl := Lib.hid hl
  have Hm := Lib.hid hm
  have hnl : (norm x).length ≤ 3000 := Nat.le_trans (norm_len x) hx
  clear hc hi hr hl hm hu
  have HA := Lib.hid (andL_eq x r)
  have e0 : ((m : Int) + 1 == 0) = false := by simp; omega
  generalize hlx : norm x = l at *
  go_enter Tryz.func16, Tryz.ntmps16
  go_wp2_with fail
  refine H1.out.mono ?_
  rintro e w1 ⟨v1, rfl, ho1, hb1⟩
  obtain ⟨o1, c1, rfl⟩ := ho1.shape
  have Ho1 := Lib.hid ho1.ints
  have Hb1 := Lib.hid hb1
  have hs1 := hb1.size
  clear ho1 hb1
  go_wp2_with fail
  go_loopw [3, 5] (fun sv i wr => ∃ (k : Nat) (so : Option Addr) (sc : Nat), i = .int .i64 k ∧ k ≤ l.length ∧ sv = .slice so ((l.take k).filter (inAll r)).length sc ∧ Owns wr w1.heap.size (.slice so ((l.take k).filter (inAll r)).length sc) ((l.take k).filter (inAll r)) ∧ Below w1.heap.size w1 wr) (fun _ i _ => l.length - (intOf i).toNat)
  case atStart => exact ⟨0, none, 0, rfl, Nat.zero_le _, rfl, Owns.nil _ _, Below.refl _ _⟩
  case round =>
    obtain ⟨k, so, sc, rfl, hk, rfl, ho, hb⟩ := hrel
    have Hbb := Lib.hid hb
    have Ho := Lib.hid ho
    have hbs := hb.size
    have hol : ((l.take k).filter (inAll r)).length ≤ k := Nat.le_trans (List.length_filter_le _ _) (by rw [List.length_take]; omega)
    clear ho hb
    by_cases hlt : k < l.length
    · obtain ⟨z, hz, _⟩ := at_some hlt
      obtain ⟨b2, off2, c2, e1, _, hcs⟩ : ∃ b off c, Value.slice o1 l.length c1 = .slice (some ⟨b, off, none⟩) l.length c ∧ 0 < l.length ∧ IntCells w1 b off l := by
        rcases Ho1.out.cases with ⟨_, _, _, e2, _⟩ | h
        · rw [e2] at hlt; simp at hlt
        · exact h
      simp only [Value.slice.injEq, true_and] at e1
      obtain ⟨rfl, rfl⟩ := e1
      have hcz : wr.cell? ⟨b2, off2 + k, none⟩ = some (.int .i64 z) := (Olds.of_below Hbb.out).cell (hcs k z hz)
      have Hz : Hid ((l.take (k + 1)).filter (inAll r) = (l.take k).filter (inAll r) ++ (if inAll r z then [z] else [])) := Lib.hid (by
        rw [List.take_add_one, hz, List.filter_append]
        congr 1
        cases hh : inAll r z <;> simp [hh])
      clear hcs hz
      generalize hout : (l.take k).filter (inAll r) = out at *
      go_wp2_with fail
      go_loopw [6, 7] (fun bv i wr2 => ∃ (j q : Nat), i = .int .i64 ((j : Int) + 1) ∧ j ≤ m ∧ bv = .bool (inAll (r.take j) z) ∧ wr2 = wr.drewN q) (fun _ i _ => m + 1 - (intOf i).toNat)
      case atStart => exact ⟨0, 0, rfl, Nat.zero_le _, rfl, rfl⟩
      case round =>
        obtain ⟨j, q, rfl, hj, rfl, rfl⟩ := hrel
        by_cases hjm : j < m
        · obtain ⟨d, hd⟩ : ∃ d, us[j]? = some d := ⟨_, List.getElem?_eq_getElem (by rw [Hm.out]; exact hjm)⟩
          obtain ⟨ys, hys⟩ : ∃ ys, r[j]? = some ys := ⟨_, List.getElem?_eq_getElem (by rw [Hl.out]; exact hjm)⟩
          have hcd : wr.cell? ⟨b, off + (j + 1), none⟩ = some d := ((Olds.of_below Hb1.out).trans (Olds.of_below Hbb.out)).cell (Hc.out (j + 1) d (by simpa using hd))
          have HI : Hid (∀ W : World, W.heap = wr.heap → Calls Tryz.prog 35 #[d, .int .i64 z] W fun e w' => e = .returned (.bool (hasN ys z)) ∧ W = w') := Lib.hid (fun W hW => rin_any z W ((Hi.out j d ys hd hys).olds (((Olds.of_below Hb1.out).trans (Olds.of_below Hbb.out)).trans ⟨by rw [hW]; exact Nat.le_refl _, fun k _ => by rw [hW]⟩)) (by have := Hr.out ys (List.mem_of_getElem? hys); unfold maxLen; omega))
          have Hst := Lib.hid (inAll_step hys z)
          clear hd hys
          go_wp2_with fail
          go_region_with (go_at_call 35; refine (HI.out _ (by rfl)).mono ?_; rintro e w2 ⟨rfl, rfl⟩)
          all_goals
            cases hb0 : inAll (r.take j) z with
            | true =>
              go_wp2_with fail
              go_roundw
              case rel => exact ⟨j + 1, _, by go_num, by omega, by rw [Hst.out, hb0, Bool.true_and], rfl⟩
              case measure => simp [intOf]; omega
            | false =>
              go_wp2_with fail
              go_roundw
              case rel => exact ⟨j + 1, _, by go_num, by omega, by rw [Hst.out, hb0, Bool.false_and], rfl⟩
              case measure => simp [intOf]; omega
        · have ej : r.take j = r := List.take_of_length_le (by rw [Hl.out]; omega)
          rw [ej]
          cases hh : inAll r z with
          | false =>
            have Hz2 : Hid ((l.take (k + 1)).filter (inAll r) = out) := Lib.hid (by rw [Hz.out, hh]; simp)
            clear hh
            go_wp2_with fail
            go_roundw
            case rel => exact ⟨k + 1, so, sc, by go_num, by omega, by rw [Hz2.out], by rw [Hz2.out]; exact Ho.out, below_drewN Hbb.out _⟩
            case measure => simp [intOf]; omega
          | true =>
            have Hz2 : Hid ((l.take (k + 1)).filter (inAll r) = out ++ [z]) := Lib.hid (by rw [Hz.out, hh]; simp)
            clear hh
            go_wp2_with (at_builtin; refine wpList_append_lies _ rfl _ _ _ rfl w1.heap.size 3 j0 _ 1 8 Tryz.underlying22 hj0 hy0 hy1 hy2 rfl Nat.one_pos (.slice so out.length sc) out.length (out.map (Value.int .i64)) rfl (ownsRow_olds Ho.out ((drew_olds _ _).trans (Olds.alloc _ _))) ⟨wr.heap.size, 0, none⟩ 1 1 [.int .i64 z] rfl rfl (World.news_of_block (cs := #[.int .i64 z]) (t := 3) (fr := (0, 0)) (heap_alloc_new (wr.drewN _) _)) (by simp [Value.oneCell']) Nat.one_pos (by unfold maxLen; omega) (by omega) (by simp; omega) (wr.heap.size + 1) (by simp) ?_; intro gg cap2 w4 hown4 hgrow hat hlt4; have B4 : Hid (Below w1.heap.size w1 w4) := Lib.hid (((below_drewN Hbb.out _).alloc hbs _).grown hgrow (by simp; omega) (fun b hb => (ownsRow_block Ho.out hb).1)); have Hown4 : Hid (Owns w4 w1.heap.size (.slice (some ⟨gg, 0, none⟩) (out.length + 1) cap2) (out ++ [z])) := Lib.hid (by unfold Owns; rw [List.length_append, List.map_append]; exact hown4); clear hown4 hgrow hat)
            go_roundw
            case rel => exact ⟨k + 1, _, cap2, by go_num, by omega, by rw [Hz2.out]; exact congrArg (fun t => Value.slice _ t cap2) (by simp), by rw [Hz2.out]; simpa using Hown4.out, B4.out⟩
            case measure => simp [intOf]; omega
    · have e : l.take k = l := List.take_of_length_le (by omega)
      have Hf : Hid (Fresh (andL (x :: r)) w (.returned (.slice so ((l.take k).filter (inAll r)).length sc)) wr) := Lib.hid (by
        have h := Ho.out
        rw [HA.out]
        rw [e] at h ⊢
        exact ⟨_, rfl, h.mono hs1, Hb1.out.trans (Hbb.out.mono hs1)⟩)
      go_wp2_with fail
      go_ret
      exact Hf.out

theorem ref_and {v : Value} {L : List (List Int)} (w : World) (h : ListsAt w v L) (hn : L.length ≤ 3000) (hs : ∀ zs ∈ L, zs.length ≤ 3000) : Calls Tryz.prog 16 #[v] w (Fresh (andL L) w) := by
  obtain ⟨vs, h1, h2, h3⟩ := h
  rcases h1.cases with ⟨o, c, rfl, rfl, _⟩ | ⟨b, off, c, rfl, hp, hc⟩
  · have : L = [] := List.eq_nil_of_length_eq_zero h2.symm
    subst this
    exact ref_and_none o c w
  · cases vs with
    | nil => simp at hp
    | cons u us =>
      cases L with
      | nil => simp at h2
      | cons x r =>
        simp only [List.length_cons] at h2 hn
        exact ref_and_some b off c us.length u us x r w rfl (by omega) hc (by omega) (hs x (by simp)) (fun zs hz => hs zs (by simp [hz])) (h3 0 u x rfl rfl)
          (fun i u zs hu hz => h3 (i + 1) u zs (by simpa using hu) (by simpa using hz))
end Go.Proofs.YthoboahfogpnfaaGreatDoor
