/- Contracts over this program: the book of lists and its Own. Their conditions: three rows that the call owns, in blocks apart. -/
import Derived.Test.YthoboahfogpnfaaGreatDoorQa
import Derived.ArgAppend
import Derived.Test.YthoboahfogpnfaaGreatDoorK5
set_option linter.unusedSimpArgs false
set_option linter.unusedVariables false
set_option linter.deprecated false
set_option linter.unnecessarySimpa false
namespace Go.Proofs.YthoboahfogpnfaaGreatDoor
open Go Go.RowKit Go.Sort Go.Lib

theorem Owns.at_ {W : World} {B g n cap : Nat} {zs : List Int} (h : Owns W B (.slice (some ⟨g, 0, none⟩) n cap) zs) : zs.length = n ∧ B ≤ g ∧ g < W.heap.size ∧ n ≤ cap := by
  rcases h.cases with ⟨e, _⟩ | ⟨g', cap', e, h1, h2, h3, _⟩
  · simp only [Value.slice.injEq] at e
    exact absurd e.1 (by simp)
  · simp only [Value.slice.injEq, Option.some.injEq, Addr.mk.injEq, and_true] at e
    obtain ⟨rfl, rfl, rfl⟩ := e
    exact ⟨rfl, h1, h2, h3⟩

theorem Owns.store {W : World} {B g n cap k : Nat} {zs : List Int} (h : Owns W B (.slice (some ⟨g, 0, none⟩) n cap) zs) (hk : k < n) (m : Int) :
    Owns (W.setCell ⟨g, k, none⟩ (.int .i64 m)) B (.slice (some ⟨g, 0, none⟩) n cap) (zs.set k m) := by
  obtain ⟨k1, k2⟩ := h
  refine ⟨by simp, ?_⟩
  rcases k2 with ⟨e, _⟩ | ⟨g', cap', cur, e, q1, q2, q3, q4, q5, q6⟩
  · simp only [Value.slice.injEq] at e
    exact absurd e.1 (by simp)
  · simp only [Value.slice.injEq, Option.some.injEq, Addr.mk.injEq, and_true] at e
    obtain ⟨rfl, e1, rfl⟩ := e
    refine .inr ⟨g, cap, cur.setIfInBounds k (.int .i64 m), by rw [List.length_set, e1], q1, ?_, by rw [List.length_set]; exact q3, q4, by simpa using q5, ?_⟩
    · simp [World.setCell, Array.getElem?_modify, q2]
    · rw [Array.toList_setIfInBounds, List.take_set, List.length_set, q6, List.map_set]

theorem Owns.cellAt {W : World} {B g n cap k : Nat} {zs : List Int} {z : Int} (h : Owns W B (.slice (some ⟨g, 0, none⟩) n cap) zs) (hz : zs[k]? = some z) : W.cell? ⟨g, k, none⟩ = some (.int .i64 z) ∧ W.frozen? ⟨g, k, none⟩ = false := by
  rcases h.cases with ⟨e, _⟩ | ⟨g', cap', e, h1, h2, h3, h4, h5⟩
  · simp only [Value.slice.injEq] at e
    exact absurd e.1 (by simp)
  · simp only [Value.slice.injEq, Option.some.injEq, Addr.mk.injEq, and_true] at e
    obtain ⟨rfl, rfl, rfl⟩ := e
    obtain ⟨hk, rfl⟩ := List.getElem?_eq_some_iff.1 hz
    have := h5 k (by simpa using hk)
    rw [Nat.zero_add] at this
    refine ⟨?_, this.2⟩
    rw [this.1]
    simp [hk]


def Kept (v : Value) (W W' : World) : Prop := ∀ b, v.ownBlock = some b → W'.heap[b]? = W.heap[b]?
theorem Kept.refl (v : Value) (W : World) : Kept v W W := fun _ _ => rfl
theorem Kept.trans {v : Value} {a b c : World} (h : Kept v a b) (k : Kept v b c) : Kept v a c := fun x hx => (k x hx).trans (h x hx)
theorem ints_kept {W W' : World} {v : Value} {zs : List Int} (h : IntsAt W v zs) (hk : Kept v W W') : IntsAt W' v zs := by
  obtain ⟨o, c, e, h0, h3⟩ := h
  refine ⟨o, c, e, h0, fun hne => ?_⟩
  obtain ⟨b, off, rfl, hc⟩ := h3 hne
  refine ⟨b, off, rfl, fun j x hx => ?_⟩
  rw [← hc j x hx]
  exact World.cell?_of_block (hk b (by rw [e]; rfl))
theorem owns_kept {W W' : World} {B : Nat} {v : Value} {zs : List Int} (h : Owns W B v zs) (hk : Kept v W W') : Owns W' B v zs := h.same hk
theorem kept_setCell {v : Value} {W : World} {g i : Nat} {x : Value} (h : v.ownBlock ≠ some g) : Kept v W (W.setCell ⟨g, i, none⟩ x) := fun b hb => by
  simp only [World.setCell, Array.getElem?_modify]
  rw [if_neg (by rintro rfl; exact h hb)]
theorem kept_grown {v : Value} {a b : World} {row : Option Nat} (h : a.grownBy b row) (hlt : ∀ k, v.ownBlock = some k → k < a.heap.size) (hne : ∀ k, v.ownBlock = some k → row ≠ some k) : Kept v a b := fun k hk => h.block k (hlt k hk) (fun e => hne k hk e.symm)
theorem kept_alloc {v : Value} {a : World} (O : Obj) (hlt : ∀ k, v.ownBlock = some k → k < a.heap.size) : Kept v a (a.alloc O) := fun k hk => (Olds.alloc a O).2 k (hlt k hk)
theorem Owns.lt {W : World} {B : Nat} {v : Value} {zs : List Int} (h : Owns W B v zs) : ∀ k, v.ownBlock = some k → k < W.heap.size := fun _ hk => (ownsRow_block h hk).2


theorem run_push {W : World} {B : Nat} {v : Value} {xs : List Int} {z : Int} {ad : Addr} {c : Nat} (h : Owns W B v xs) (hB : B ≤ W.heap.size) (hz : W.cell? (ad.add 0) = some (.int .i64 z)) (hn : xs.length ≤ 10000) (ty : TypeId) :
    ∃ v' w', (Builtin.append_ #[22, 22] ty #[v, .slice (some ad) 1 c]).run Tryz.prog W = .ok v' w' ∧ Owns w' B v' (xs ++ [z]) ∧
      ((v'.ownBlock = v.ownBlock ∧ W.grownBy w' v.ownBlock) ∨ (∃ k, v'.ownBlock = some k ∧ W.heap.size ≤ k) ∧ W.grownBy w' none) := by
  obtain ⟨j0, hj0, hy0, hy1, hy2⟩ := info_parts info3
  have hnews : ∀ (j : Nat) (u : Value), [Value.int .i64 z][j]? = some u → W.cell? (ad.add j) = some u := fun j u hu => by
    cases j with
    | zero => simp at hu; rw [← hu]; exact hz
    | succ j => simp at hu
  have own_ : ∀ {w' : World} {v' : Value} {B' : Nat}, w'.ownsRow B' 3 1 v' (xs.length + 1) (xs.map (Value.int .i64) ++ [.int .i64 z]) → Owns w' B' v' (xs ++ [z]) := fun h => by
    unfold Owns
    rw [List.length_append, List.map_append]
    exact h
  rcases h.cases with ⟨rfl, rfl⟩ | ⟨g, cap, rfl, h1, h2, h3, h4, h5⟩
  · obtain ⟨v', w', r1, r2, r3, r4, r5⟩ := run_append_own_at (P := Tryz.prog) W W.heap.size 22 ty 3 j0 _ 1 8 Tryz.underlying22 hj0 hy0 hy1 hy2 rfl Nat.one_pos (.slice none 0 0) 0 [] ⟨rfl, .inl ⟨rfl, rfl⟩⟩ ad 1 c [.int .i64 z] rfl hnews (by simp [Value.oneCell']) (by unfold maxLen; omega) (by omega) (Nat.le_refl _)
    have hk : ∃ k, v'.ownBlock = some k ∧ W.heap.size ≤ k := by
      rcases r2.2 with ⟨_, h0⟩ | ⟨g', _, _, e, hb, _⟩
      · omega
      · exact ⟨g', by rw [e]; rfl, hb⟩
    exact ⟨v', w', r1, (show Owns w' W.heap.size v' [z] from r2).mono hB, .inr ⟨hk, r3⟩⟩
  · by_cases hfit : xs.length + 1 ≤ cap
    · obtain ⟨w', r1, r2, r3⟩ := run_append_fits (P := Tryz.prog) W B 22 ty 3 j0 1 Tryz.underlying22 hj0 hy1 g xs.length cap (xs.map (Value.int .i64)) h ad 1 c [.int .i64 z] rfl hnews (by simp [Value.oneCell']) hfit
      exact ⟨_, w', r1, own_ r2, .inl ⟨rfl, r3⟩⟩
    · obtain ⟨v', w', r1, r2, r3⟩ := run_append_arg_grows (P := Tryz.prog) W 22 ty 3 j0 _ 1 8 Tryz.underlying22 hj0 hy0 hy1 hy2 rfl Nat.one_pos ⟨g, 0, none⟩ xs.length cap (xs.map (Value.int .i64)) (by simp) (fun j u hu => by
          have := World.ownsRow.cellAt h j (by have := (List.getElem?_eq_some_iff.1 hu).1; simpa using this)
          rw [show (⟨g, 0, none⟩ : Addr).add j = ⟨g, j, none⟩ by unfold Addr.add; split <;> simp_all]
          rw [this, hu]) ad 1 c [.int .i64 z] rfl hnews (by omega) (by unfold maxLen; omega) (by omega)
      have hk : ∃ k, v'.ownBlock = some k ∧ W.heap.size ≤ k := by
        rcases r2.2 with ⟨_, h0⟩ | ⟨g', _, _, e, hb, _⟩
        · omega
        · exact ⟨g', by rw [e]; rfl, hb⟩
      exact ⟨v', w', r1, (own_ r2).mono hB, .inr ⟨hk, r3⟩⟩

theorem wpList_push {ops : Array Oper} {rest : List Oper} {o : Oper} {a : Act} {Q : Exit → Act → World → Prop} {W : World} (hgd : o.guard = none) (s x : Operand)
    (ho : o.op = .call { callee := .builtin .append, args := #[s, x], argTypes := #[22, 22] }) (B : Nat) (v : Value) (xs : List Int) (z : Int) (ad : Addr) (c : Nat) (hs : a.eval s = v) (hx : a.eval x = .slice (some ad) 1 c) (hown : Owns W B v xs) (hB : B ≤ W.heap.size)
    (hz : W.cell? (ad.add 0) = some (.int .i64 z)) (hn : xs.length ≤ 10000)
    (h : ∀ v' w', Owns w' B v' (xs ++ [z]) → ((v'.ownBlock = v.ownBlock ∧ W.grownBy w' v.ownBlock) ∨ (∃ k, v'.ownBlock = some k ∧ W.heap.size ≤ k) ∧ W.grownBy w' none) → wpList Tryz.prog ops Q rest (a.put o.dst v') w') : wpList Tryz.prog ops Q (o :: rest) a W :=
  wpList_plain hgd fun K hK => by
    obtain ⟨v', w', hr, h2, h3⟩ := run_push hown hB hz hn (c := c) o.type
    unfold Oper.wp execOp
    simp only [ho, resolve, invoke, builtin, Sem.run_bind, Sem.run_pure, Result.andThen_ok, List.map_toArray, List.map_cons, List.map_nil, hs, hx, hr]
    exact hK _ _ (h v' w' h2 h3)
end Go.Proofs.YthoboahfogpnfaaGreatDoor
namespace Go.Proofs.YthoboahfogpnfaaGreatDoor
open Go Go.RowKit Go.Sort Go.Lib

def marks (i n : Nat) : List Int := (List.range n).map fun (k : Nat) => (i : Int) * 1000 + (k : Int)
def tails (i n : Nat) : List Int := (List.range n).map fun (k : Nat) => (-1 - (i : Int)) * 1000 + (k : Int)
theorem marks_succ (i n : Nat) : marks i (n + 1) = marks i n ++ [(i : Int) * 1000 + (n : Int)] := by unfold marks; rw [List.range_succ, List.map_append]; rfl
theorem tails_succ (i n : Nat) : tails i (n + 1) = tails i n ++ [(-1 - (i : Int)) * 1000 + (n : Int)] := by unfold tails; rw [List.range_succ, List.map_append]; rfl
theorem marks_len (i n : Nat) : (marks i n).length = n := by simp [marks]
theorem tails_len (i n : Nat) : (tails i n).length = n := by simp [tails]
theorem marks_at {i n k : Nat} (h : k < n) : (marks i n)[k]? = some ((i : Int) * 1000 + (k : Int)) := by simp [marks, h]
theorem tails_at {i n k : Nat} (h : k < n) : (tails i n)[k]? = some ((-1 - (i : Int)) * 1000 + (k : Int)) := by simp [tails, h]


structure Apart3 (w : World) (B gs : Nat) (us : List Value) (Xs : List (List Int)) : Prop where
  len : Xs.length = us.length
  small : ∀ zs ∈ Xs, zs.length ≤ 6000
  away : ∀ u ∈ us, u.ownBlock ≠ some gs
  apart : ∀ (j j' : Nat) (u u' : Value), us[j]? = some u → us[j']? = some u' → j ≠ j' → ∀ b, u.ownBlock = some b → u'.ownBlock ≠ some b
  lt : gs < w.heap.size
  lo : B ≤ w.heap.size

structure St (w W : World) (B gs : Nat) (us : List Value) (Xs Zs : List (List Int)) : Prop where
  cell : CellsAt W gs 0 us
  rows : ∀ (j : Nat) (u : Value) (zs : List Int), us[j]? = some u → Zs[j]? = some zs → Owns W B u zs
  lens : Zs.map List.length = Xs.map List.length
  bel : Below B w W
  oth : ∀ b, b < w.heap.size → (∀ u ∈ us, u.ownBlock ≠ some b) → W.heap[b]? = w.heap[b]?
  size : W.heap.size = w.heap.size

theorem St.len {w W : World} {B gs : Nat} {us : List Value} {Xs Zs : List (List Int)} (h : St w W B gs us Xs Zs) : Zs.length = Xs.length := by
  have := congrArg List.length h.lens
  simpa using this
theorem St.small {w W : World} {B gs : Nat} {us : List Value} {Xs Zs : List (List Int)} (h : St w W B gs us Xs Zs) (hs : ∀ zs ∈ Xs, zs.length ≤ 6000) {j : Nat} {zs : List Int} (hz : Zs[j]? = some zs) : zs.length ≤ 6000 := by
  have h1 : (Zs.map List.length)[j]? = some zs.length := by rw [List.getElem?_map, hz]; rfl
  rw [h.lens, List.getElem?_map] at h1
  obtain ⟨x, hx, e⟩ := Option.map_eq_some_iff.1 h1
  rw [← e]
  exact hs x (List.mem_of_getElem? hx)

theorem St.store {w W : World} {B gs : Nat} {us : List Value} {Xs Zs : List (List Int)} (ha : Apart3 w B gs us Xs) (h : St w W B gs us Xs Zs) {k g ln c m : Nat} {zs : List Int} (hu : us[k]? = some (.slice (some ⟨g, 0, none⟩) ln c)) (hz : Zs[k]? = some zs) (hm : m < ln) (v : Int) :
    St w (W.setCell ⟨g, m, none⟩ (.int .i64 v)) B gs us Xs (Zs.set k (zs.set m v)) := by
  have ho := h.rows k _ zs hu hz
  have hg := ho.at_
  have hkl : k < Zs.length := (List.getElem?_eq_some_iff.1 hz).1
  have hne : gs ≠ g := fun e => ha.away _ (List.mem_of_getElem? hu) (by rw [e]; rfl)
  refine ⟨fun j x hx => ?_, fun j u zs' hu' hz' => ?_, ?_, h.bel.setCell hg.2.1 _, fun b hb ho => ?_, by simp [World.setCell, h.size]⟩
  · rw [← h.cell j x hx]
    exact World.cell?_of_block (by simp only [World.setCell, Array.getElem?_modify]; rw [if_neg (by omega)])
  · by_cases hj : j = k
    · subst hj
      rw [hu] at hu'
      cases hu'
      rw [List.getElem?_set_self hkl] at hz'
      cases hz'
      exact ho.store hm v
    · rw [List.getElem?_set_ne (by omega)] at hz'
      refine owns_kept (h.rows j u zs' hu' hz') (kept_setCell ?_)
      exact ha.apart k j _ u hu hu' (by omega) g rfl
  · rw [List.map_set, List.length_set, h.lens.symm]
    apply List.ext_getElem?
    intro i
    by_cases hi : i = k
    · subst hi
      rw [List.getElem?_set_self (by simpa using hkl), List.getElem?_map, hz]
      rfl
    · rw [List.getElem?_set_ne (by omega)]
  · rw [← h.oth b hb ho]
    simp only [World.setCell, Array.getElem?_modify]
    rw [if_neg (by rintro rfl; exact ho _ (List.mem_of_getElem? hu) rfl)]

def Done (Zs : List (List Int)) (k : Nat) : Prop := ∀ (j : Nat) (zs : List Int), j < k → Zs[j]? = some zs → zs = marks j zs.length

theorem take_set_succ {zs : List Int} {m : Nat} {v : Int} (hm : m < zs.length) : (zs.set m v).take (m + 1) = zs.take m ++ [v] := by
  rw [List.take_add_one, List.take_set_of_le (Nat.le_refl _), List.getElem?_set_self hm]
  rfl

theorem own_addr {W : World} {B : Nat} {u : Value} {zs : List Int} (h : Owns W B u zs) (hp : 0 < zs.length) : ∃ g c, u = .slice (some ⟨g, 0, none⟩) zs.length c := by
  rcases h.cases with ⟨_, e⟩ | ⟨g, c, e, _⟩
  · rw [e] at hp; simp at hp
  · exact ⟨g, c, e⟩


structure Long (w W : World) (B gs : Nat) (us : List Value) (Zs : List (List Int)) (lv : Value) (longs : List Value) (i : Nat) : Prop where
  cell : CellsAt W gs 0 us
  own : W.ownsRow w.heap.size 22 1 lv i longs
  rows : ∀ (j : Nat) (u : Value) (zs : List Int), us[j]? = some u → Zs[j]? = some zs → IntsAt W u zs ∧ (i ≤ j → Owns W B u zs)
  done : ∀ (j : Nat) (u l : Value) (zs : List Int), us[j]? = some u → Zs[j]? = some zs → longs[j]? = some l → IntsAt W l (zs ++ tails j 16) ∧ l.ownBlock ≠ lv.ownBlock ∧ (∃ b, l.ownBlock = some b ∧ b < W.heap.size) ∧ (l.ownBlock = u.ownBlock ∨ ∃ b, l.ownBlock = some b ∧ w.heap.size ≤ b)
  bel : Below B w W
  oth : ∀ b, b < w.heap.size → (∀ u ∈ us, u.ownBlock ≠ some b) → W.heap[b]? = w.heap[b]?

theorem St.long {w W : World} {B gs : Nat} {us : List Value} {Xs Zs : List (List Int)} (h : St w W B gs us Xs Zs) : Long w W B gs us Zs (.slice none 0 0) [] 0 :=
  ⟨h.cell, ⟨rfl, .inl ⟨rfl, rfl⟩⟩, fun j u zs hu hz => ⟨(h.rows j u zs hu hz).ints, fun _ => h.rows j u zs hu hz⟩, fun j u l zs _ _ hl => by simp at hl, h.bel, h.oth⟩


structure In (wr W : World) (B : Nat) (u x : Value) (zs : List Int) (k m : Nat) : Prop where
  own : Owns W B x (zs ++ tails k m)
  read : IntsAt W u zs
  place : x.ownBlock = u.ownBlock ∨ ∃ b, x.ownBlock = some b ∧ wr.heap.size ≤ b
  keep : ∀ b, b < wr.heap.size → u.ownBlock ≠ some b → W.heap[b]? = wr.heap[b]?
  size : wr.heap.size ≤ W.heap.size
  same : W.os = wr.os ∧ W.tape = wr.tape ∧ W.output = wr.output

theorem In.start {wr : World} {B : Nat} {u : Value} {zs : List Int} {k : Nat} (h : Owns wr B u zs) : In wr wr B u u zs k 0 :=
  ⟨by simpa [tails] using h, h.ints, .inl rfl, fun _ _ _ => rfl, Nat.le_refl _, rfl, rfl, rfl⟩

theorem ints_empty {W W' : World} {u : Value} (h : IntsAt W u []) : IntsAt W' u [] := by
  obtain ⟨o, c, e, h0, _⟩ := h
  exact ⟨o, c, e, h0, fun hne => absurd rfl hne⟩
theorem read_of_own {W : World} {B g c : Nat} {v : Value} {zs r : List Int} (h : Owns W B v (zs ++ r)) (hv : v.ownBlock = some g) : IntsAt W (.slice (some ⟨g, 0, none⟩) zs.length c) zs := by
  rcases h.cases with ⟨e, _⟩ | ⟨g', c', e, _, _, _, _, hH⟩
  · rw [e] at hv; cases hv
  · rw [e] at hv
    simp only [Value.ownBlock, Option.some.injEq] at hv
    subst hv
    refine IntsAt.mk fun i z hz => ?_
    obtain ⟨hi, rfl⟩ := List.getElem?_eq_some_iff.1 hz
    have := (hH i (by simp; omega)).1
    rw [this]
    simp [List.getElem?_append_left hi, hi]

theorem In.push {wr W w' : World} {B : Nat} {u x v' : Value} {zs : List Int} {k m : Nat} {O : Obj} (h0 : Owns wr B u zs) (h : In wr W B u x zs k m) (ho : Owns w' B v' ((zs ++ tails k m) ++ [(-1 - (k : Int)) * 1000 + (m : Int)]))
    (hp : (v'.ownBlock = x.ownBlock ∧ (W.alloc O).grownBy w' x.ownBlock) ∨ (∃ b, v'.ownBlock = some b ∧ (W.alloc O).heap.size ≤ b) ∧ (W.alloc O).grownBy w' none) : In wr w' B u v' zs k (m + 1) := by
  have hsz : (W.alloc O).heap.size = W.heap.size + 1 := by simp
  have hxl := h.own.lt
  have hul := h0.lt
  have hs := h.size
  have own' : Owns w' B v' (zs ++ tails k (m + 1)) := by rw [tails_succ, ← List.append_assoc]; exact ho
  have kept : (row : Option Nat) → (W.alloc O).grownBy w' row → (∀ b, u.ownBlock = some b → row ≠ some b) → Kept u W w' := fun row hg hne =>
    (kept_alloc O (fun b hb => Nat.lt_of_lt_of_le (hul b hb) hs)).trans (kept_grown hg (fun b hb => by have := hul b hb; omega) hne)
  have keep_ : (row : Option Nat) → (W.alloc O).grownBy w' row → (∀ b, row = some b → u.ownBlock = some b ∨ wr.heap.size ≤ b) → ∀ b, b < wr.heap.size → u.ownBlock ≠ some b → w'.heap[b]? = wr.heap[b]? := fun row hg hne b hb hu => by
    rw [hg.block b (by omega) (fun e => by rcases hne b e.symm with e2 | e2 <;> first | exact hu e2 | omega), (Olds.alloc W O).2 b (by omega)]
    exact h.keep b hb hu
  rcases hp with ⟨e1, hg⟩ | ⟨⟨b, e1, hb⟩, hg⟩
  · refine ⟨own', ?_, by rw [e1]; exact h.place, keep_ _ hg (fun b hb => ?_), by have := hg.size; omega, by rw [hg.os, hg.tape, hg.output]; exact h.same⟩
    · by_cases hxu : x.ownBlock = u.ownBlock
      · by_cases hz : 0 < zs.length
        · obtain ⟨g, c, rfl⟩ := own_addr h0 hz
          exact read_of_own own' (by rw [e1, hxu]; rfl)
        · have : zs = [] := List.eq_nil_of_length_eq_zero (by omega)
          subst this
          exact ints_empty h.read
      · exact ints_kept h.read (kept _ hg fun b hb e => by
          rcases h.place with e2 | ⟨b', e2, h2⟩
          · exact hxu e2
          · rw [e2] at e
            cases e
            have := hul _ hb
            omega)
    · rcases h.place with e2 | ⟨b', e2, h2⟩
      · exact .inl (by rw [← e2]; exact hb)
      · rw [e2] at hb
        cases hb
        exact .inr h2
  · exact ⟨own', ints_kept h.read (kept _ hg fun b _ e => by cases e), .inr ⟨b, e1, by omega⟩, keep_ _ hg (fun b hb => by cases hb), by have := hg.size; omega, by rw [hg.os, hg.tape, hg.output]; exact h.same⟩

theorem Long.step {w wr W w4 : World} {B gs k gg cap : Nat} {us longs : List Value} {Xs Zs : List (List Int)} {lv u x : Value} {zs : List Int} {O : Obj} (ha : Apart3 w B gs us Xs) (hub : ∀ (j : Nat) (u : Value), us[j]? = some u → ∀ b, u.ownBlock = some b → B ≤ b ∧ b < w.heap.size)
    (h : Long w wr B gs us Zs lv longs k) (hu : us[k]? = some u) (hz : Zs[k]? = some zs) (hi : In wr W B u x zs k 16) (hxb : ∃ b, x.ownBlock = some b) (hll : longs.length = k)
    (own4 : w4.ownsRow w.heap.size 22 1 (.slice (some ⟨gg, 0, none⟩) (k + 1) cap) (k + 1) (longs ++ [x])) (grow : (W.alloc O).grownBy w4 lv.ownBlock) (hat : lv.ownBlock = some gg ∨ gg = W.heap.size + 1) :
    Long w w4 B gs us Zs (.slice (some ⟨gg, 0, none⟩) (k + 1) cap) (longs ++ [x]) (k + 1) := by
  have hsz : (W.alloc O).heap.size = W.heap.size + 1 := by simp
  have hws : w.heap.size ≤ wr.heap.size := h.bel.size
  have hlv : ∀ b, lv.ownBlock = some b → w.heap.size ≤ b ∧ b < wr.heap.size := fun b hb => ownsRow_block h.own hb
  have hs := hi.size
  have hku := hub k u hu
  have kept : ∀ v : Value, (∀ b, v.ownBlock = some b → b < wr.heap.size ∧ u.ownBlock ≠ some b ∧ lv.ownBlock ≠ some b) → Kept v wr w4 := fun v hv b hb => by
    obtain ⟨h1, h2, h3⟩ := hv b hb
    rw [grow.block b (by omega) (fun e => h3 e.symm), (Olds.alloc W O).2 b (by omega)]
    exact hi.keep b h1 h2
  have kept2 : ∀ v : Value, (∀ b, v.ownBlock = some b → b < W.heap.size ∧ lv.ownBlock ≠ some b) → Kept v W w4 := fun v hv b hb => by
    obtain ⟨h1, h3⟩ := hv b hb
    rw [grow.block b (by omega) (fun e => h3 e.symm)]
    exact (Olds.alloc W O).2 b h1
  have old_u : ∀ (j : Nat) (u' : Value), us[j]? = some u' → j ≠ k → ∀ b, u'.ownBlock = some b → b < wr.heap.size ∧ u.ownBlock ≠ some b ∧ lv.ownBlock ≠ some b := fun j u' hu' hj b hb => by
    have h1 := (hub j u' hu' b hb).2
    exact ⟨by omega, ha.apart j k u' u hu' hu hj b hb, fun e => by have := (hlv b e).1; omega⟩
  refine ⟨fun j v hv => ?_, own4, fun j u' zs' hu' hz' => ?_, fun j u' l zs' hu' hz' hl => ?_, ?_, fun b hb ho => ?_⟩
  · rw [← h.cell j v hv]
    refine World.cell?_of_block ?_
    have := kept (.slice (some ⟨gs, 0, none⟩) 0 0) (fun b hb => by
      simp only [Value.ownBlock, Option.some.injEq] at hb
      subst hb
      have := ha.lt
      exact ⟨by omega, ha.away u (List.mem_of_getElem? hu), fun e => by have := (hlv _ e).1; omega⟩) gs rfl
    exact this
  · by_cases hj : j = k
    · subst hj
      rw [hu] at hu'
      cases hu'
      rw [hz] at hz'
      cases hz'
      exact ⟨ints_kept hi.read (kept2 u fun b hb => ⟨by have := (hku b hb).2; omega, fun e => by have := (hlv b e).1; have := (hku b hb).2; omega⟩), fun hh => by omega⟩
    · obtain ⟨h1, h2⟩ := h.rows j u' zs' hu' hz'
      exact ⟨ints_kept h1 (kept u' (old_u j u' hu' hj)), fun hh => owns_kept (h2 (by omega)) (kept u' (old_u j u' hu' hj))⟩
  · have hw4 : W.heap.size + 1 ≤ w4.heap.size := by have := grow.size; omega
    by_cases hj : j < k
    · rw [List.getElem?_append_left (by omega)] at hl
      obtain ⟨h1, h2, ⟨b, h3, h4⟩, h5⟩ := h.done j u' l zs' hu' hz' hl
      have hul : u.ownBlock ≠ some b := by
        rcases h5 with e | ⟨b', e, hb'⟩
        · exact ha.apart j k u' u hu' hu (by omega) b (by rw [← e]; exact h3)
        · intro e2
          rw [h3] at e
          cases e
          have := (hku _ e2).2
          omega
      refine ⟨ints_kept h1 (kept l fun b' hb' => by
        rw [h3] at hb'
        cases hb'
        exact ⟨h4, hul, fun e => h2 (by rw [h3, e])⟩), ?_, ⟨b, h3, by omega⟩, h5⟩
      rw [h3]
      intro e
      simp only [Value.ownBlock, Option.some.injEq] at e
      rcases hat with hat | hat
      · exact h2 (by rw [h3, hat, e])
      · omega
    · have hjk : j = k := by
        have := (List.getElem?_eq_some_iff.1 hl).1
        simp at this
        omega
      subst hjk
      rw [List.getElem?_append_right (by omega), hll, Nat.sub_self] at hl
      cases hl
      rw [hu] at hu'
      cases hu'
      rw [hz] at hz'
      cases hz'
      obtain ⟨b, hb⟩ := hxb
      have hbl := hi.own.lt b hb
      have hne : lv.ownBlock ≠ some b := fun e => by
        have h6 := hlv b e
        rcases hi.place with e2 | ⟨b', e2, h7⟩
        · have := (hku b (by rw [← e2]; exact hb)).2
          omega
        · rw [hb] at e2
          cases e2
          omega
      refine ⟨ints_kept hi.own.ints (kept2 x fun b' hb' => by rw [hb] at hb'; cases hb'; exact ⟨hbl, hne⟩), ?_, ⟨b, hb, by omega⟩, ?_⟩
      · rw [hb]
        intro e
        simp only [Value.ownBlock, Option.some.injEq] at e
        rcases hat with hat | hat
        · exact hne (by rw [hat, e])
        · omega
      · rcases hi.place with e2 | ⟨b', e2, h7⟩
        · exact .inl e2
        · exact .inr ⟨b', e2, by omega⟩
  · have b1 : Below B w W := ⟨hi.same.1.trans h.bel.os, hi.same.2.1.trans h.bel.tape, hi.same.2.2.trans h.bel.output, by omega, fun b hb => by
      rw [hi.keep b (by have := ha.lo; omega) (fun e => by have := (hku b e).1; omega)]
      exact h.bel.block b hb⟩
    exact (b1.alloc (by have := ha.lo; omega) O).grown grow (by have := ha.lo; omega) (fun b hb => by have := (hlv b hb).1; have := ha.lo; omega)
  · rw [← h.oth b hb ho]
    exact kept (.slice (some ⟨b, 0, none⟩) 0 0) (fun b' hb' => by
      simp only [Value.ownBlock, Option.some.injEq] at hb'
      subst hb'
      exact ⟨by omega, ho u (List.mem_of_getElem? hu), fun e => by have := (hlv _ e).1; omega⟩) b rfl
end Go.Proofs.YthoboahfogpnfaaGreatDoor
namespace Go.Proofs.YthoboahfogpnfaaGreatDoor
open Go Go.RowKit Go.Sort Go.Lib

set_option maxRecDepth 20000 in
set_option maxHeartbeats 4000000 in
theorem own_ints {B gs n cap : Nat} {us : List Value} {Xs : List (List Int)} (w : World) (hul : us.length = n) (hn : n ≤ 3) (ha : Apart3 w B gs us Xs) (hs : St w w B gs us Xs Xs) (hub : ∀ (j : Nat) (u : Value), us[j]? = some u → ∀ b, u.ownBlock = some b → B ≤ b ∧ b < w.heap.size) :
    Calls Tryz.prog 38 #[.slice (some ⟨gs, 0, none⟩) n cap] w fun e w' => e = .returned (.bool true) ∧ Below B w w' ∧ ∀ b, b < w.heap.size → (∀ u ∈ us, u.ownBlock ≠ some b) → w'.heap[b]? = w.heap[b]? := by
  obtain ⟨i0, hi0, hz0, hz1, hz2⟩ := info_parts info22
  have Hub := Lib.hid hub
  clear hub
  have Ha := Lib.hid ha
  have Hs := Lib.hid hs
  have Hul := Lib.hid hul
  clear ha hs hul
  go_enter Tryz.func38, Tryz.ntmps38
  go_wp2_with fail
  go_loopw [3] (fun i wr => ∃ (k : Nat) (Zs : List (List Int)), i = .int .i64 k ∧ k ≤ n ∧ St w wr B gs us Xs Zs ∧ Done Zs k) (fun i _ => n - (intOf i).toNat)
  case atStart => exact ⟨0, Xs, rfl, Nat.zero_le _, Hs.out, fun j zs hj => by omega⟩
  case round =>
    obtain ⟨k, Zs, rfl, hk, hst, hdn⟩ := hrel
    have Hst := Lib.hid hst
    have Hdn := Lib.hid hdn
    clear hst hdn
    by_cases hlt : k < n
    · obtain ⟨u, hu⟩ : ∃ u, us[k]? = some u := ⟨_, List.getElem?_eq_getElem (by rw [Hul.out]; exact hlt)⟩
      obtain ⟨zs, hzs⟩ : ∃ zs, Zs[k]? = some zs := ⟨_, List.getElem?_eq_getElem (by rw [Hst.out.len, Ha.out.len, Hul.out]; exact hlt)⟩
      obtain ⟨o, c, rfl⟩ := (Hst.out.rows k u zs hu hzs).shape
      have Hu := Lib.hid hu
      have Hzs := Lib.hid hzs
      have hzl := Hst.out.small Ha.out.small hzs
      generalize hln : zs.length = ln at *
      have Hln := Lib.hid hln
      clear hu hzs hln
      go_wp2_with fail
      go_loopw [4] (fun i wr2 => ∃ (m : Nat) (Ys : List (List Int)) (ys : List Int), i = .int .i64 m ∧ m ≤ ln ∧ St w wr2 B gs us Xs Ys ∧ Done Ys k ∧ Ys[k]? = some ys ∧ ys.length = ln ∧ ys.take m = marks k m) (fun i _ => ln - (intOf i).toNat)
      case atStart => exact ⟨0, Zs, zs, rfl, Nat.zero_le _, Hst.out, Hdn.out, Hzs.out, Hln.out, by simp [marks]⟩
      case round =>
        obtain ⟨m, Ys, ys, rfl, hm, hst2, hdn2, hys, hyl, htk⟩ := hrel
        have Hst2 := Lib.hid hst2
        have Hdn2 := Lib.hid hdn2
        have Hys := Lib.hid hys
        have Hyl := Lib.hid hyl
        have Htk := Lib.hid htk
        have hcu : wr.cell? ⟨gs, k, none⟩ = some (.slice o ln c) := by
          have := hst2.cell k _ Hu.out
          rwa [Nat.zero_add] at this
        clear hst2 hdn2 hys hyl htk
        by_cases hlm : m < ln
        · obtain ⟨g, c', e⟩ := own_addr (Hst2.out.rows k _ ys Hu.out Hys.out) (by rw [Hyl.out]; omega)
          simp only [Value.slice.injEq] at e
          obtain ⟨rfl, -, rfl⟩ := e
          obtain ⟨z, hz⟩ : ∃ z, ys[m]? = some z := ⟨_, List.getElem?_eq_getElem (by rw [Hyl.out]; exact hlm)⟩
          obtain ⟨hcz, hfz⟩ := (Hst2.out.rows k _ ys Hu.out Hys.out).cellAt hz
          clear hz
          have Hnx : Hid (∀ v : Int, St w (wr.setCell ⟨g, m, none⟩ (.int .i64 v)) B gs us Xs (Ys.set k (ys.set m v))) := Lib.hid (fun v => Hst2.out.store Ha.out Hu.out Hys.out hlm v)
          have Hset : Hid (∀ v : Int, (Ys.set k (ys.set m v))[k]? = some (ys.set m v)) := Lib.hid (fun v => List.getElem?_set_self (List.getElem?_eq_some_iff.1 Hys.out).1)
          have Hdn3 : Hid (∀ v : Int, Done (Ys.set k (ys.set m v)) k) := Lib.hid (fun v j zs' hj hz' => by
            rw [List.getElem?_set_ne (by omega)] at hz'
            exact Hdn2.out j zs' hj hz')
          go_wp2_with fail
          go_roundw
          case rel => exact ⟨m + 1, _, _, by go_num, by omega, Hnx.out _, Hdn3.out _, Hset.out _, by rw [List.length_set]; exact Hyl.out, by rw [take_set_succ (by rw [Hyl.out]; exact hlm), Htk.out, marks_succ]⟩
          case measure => simp [intOf]; omega
        · have Hdone : Hid (Done Ys (k + 1)) := Lib.hid (fun j zs' hj hz' => by
            by_cases hjk : j = k
            · subst hjk
              rw [Hys.out] at hz'
              cases hz'
              have h := Htk.out
              rw [List.take_of_length_le (by rw [Hyl.out]; omega)] at h
              rw [Hyl.out]
              have : m = ln := by omega
              rw [this] at h
              exact h
            · exact Hdn2.out j zs' (by omega) hz')
          go_wp2_with fail
          go_roundw
          case rel => exact ⟨k + 1, Ys, by go_num, by omega, Hst2.out, Hdone.out⟩
          case measure => simp [intOf]; omega
    · obtain rfl : n = k := by omega
      have Hlg0 := Lib.hid Hst.out.long
      go_wp2_with fail
      go_loopw [5, 6] (fun lv i wr2 => ∃ (k : Nat) (lo : Option Addr) (lc : Nat) (longs : List Value), i = .int .i64 k ∧ k ≤ n ∧ lv = .slice lo k lc ∧ longs.length = k ∧ Long w wr2 B gs us Zs (.slice lo k lc) longs k) (fun _ i _ => n - (intOf i).toNat)
      case atStart => exact ⟨0, none, 0, [], rfl, Nat.zero_le _, rfl, rfl, Hlg0.out⟩
      case round =>
        obtain ⟨i, lo, lc, longs, rfl, hin, rfl, hll, hlg⟩ := hrel
        have Hlg := Lib.hid hlg
        have Hll := Lib.hid hll
        have hws := hlg.bel.size
        clear hlg hll
        by_cases hlt2 : i < n
        · obtain ⟨u, hu⟩ : ∃ u, us[i]? = some u := ⟨_, List.getElem?_eq_getElem (by rw [Hul.out]; exact hlt2)⟩
          obtain ⟨zs, hzs⟩ : ∃ zs, Zs[i]? = some zs := ⟨_, List.getElem?_eq_getElem (by rw [Hst.out.len, Ha.out.len, Hul.out]; exact hlt2)⟩
          have Hou : Hid (Owns wr B u zs) := Lib.hid ((Hlg.out.rows i u zs hu hzs).2 (Nat.le_refl _))
          obtain ⟨o, c, hushape⟩ := Hou.out.shape
          have hcu : wr.cell? ⟨gs, i, none⟩ = some u := by
            have := Hlg.out.cell i _ hu
            rwa [Nat.zero_add] at this
          have hzl := Hst.out.small Ha.out.small hzs
          have Hu := Lib.hid hu
          have Hzs := Lib.hid hzs
          generalize hln : zs.length = ln at *
          subst hushape
          have Hln := Lib.hid hln
          have hBs : B ≤ wr.heap.size := by have := Ha.out.lo; omega
          clear hu hzs hln
          go_wp2_with fail
          go_loopw [7, 8] (fun xv j wr2 => ∃ (m : Nat) (xo : Option Addr) (xc : Nat), j = .int .i64 m ∧ m ≤ 16 ∧ xv = .slice xo (ln + m) xc ∧ In wr wr2 B (.slice o ln c) (.slice xo (ln + m) xc) zs i m ∧ (0 < m → ∃ b, (Value.slice xo (ln + m) xc).ownBlock = some b)) (fun _ j _ => 16 - (intOf j).toNat)
          case atStart => exact ⟨0, o, c, rfl, by omega, rfl, In.start Hou.out, fun h => by omega⟩
          case round =>
            obtain ⟨m, xo, xc, rfl, hm, rfl, hin2, hxb⟩ := hrel
            have Hin := Lib.hid hin2
            have Hxb := Lib.hid hxb
            have hs2 := hin2.size
            clear hin2 hxb
            by_cases hlm : m < 16
            · have htl : (zs ++ tails i m).length = ln + m := by rw [List.length_append, tails_len, Hln.out]
              go_wp2_with (at_builtin; refine wpList_push rfl _ _ rfl B (.slice xo (ln + m) xc) (zs ++ tails i m) ((-1 - (i : Int)) * 1000 + (m : Int)) ⟨wr.heap.size, 0, none⟩ 1 rfl rfl (owns_kept Hin.out.own (kept_alloc _ Hin.out.own.lt)) (by simp; omega) (by simp [Addr.add]) (by rw [htl]; omega) ?_; intro v' w' hown hp)
              obtain ⟨xo2, xc2, rfl⟩ : ∃ xo2 xc2, v' = .slice xo2 (ln + (m + 1)) xc2 := by
                obtain ⟨a, b, e⟩ := hown.shape
                exact ⟨a, b, by rw [e]; congr 1; rw [List.length_append, htl]; simp; omega⟩
              have Hnx := Lib.hid (In.push Hou.out Hin.out hown hp)
              have Hxb2 : Hid (∃ b, (Value.slice xo2 (ln + (m + 1)) xc2).ownBlock = some b) := Lib.hid (by
                rcases hown.cases with ⟨_, e⟩ | ⟨g, cp, e, _⟩
                · simp at e
                · exact ⟨g, by rw [e]; rfl⟩)
              clear hown hp
              go_wp2_with fail
              go_roundw
              case rel => exact ⟨m + 1, xo2, xc2, by go_num, by omega, rfl, Hnx.out, fun _ => Hxb2.out⟩
              case measure => simp [intOf]; omega
            · obtain rfl : m = 16 := by omega
              have Hown2 : Hid (wr.ownsRow w.heap.size 22 1 (.slice lo i lc) i longs) := Lib.hid (by
                have h := Hlg.out.own
                obtain ⟨k1, k2⟩ := h
                refine ⟨k1, ?_⟩
                rcases k2 with k2 | ⟨g, cp, cur, e, q1, q2, q3⟩
                · exact .inl k2
                · refine .inr ⟨g, cp, cur, e, q1, ?_, q3⟩
                  rw [Hin.out.keep g (ownsRow_block Hlg.out.own (by rw [e]; rfl)).2 (fun e2 => by have := (Hub.out i _ Hu.out g e2).2; omega)]
                  exact q2)
              have hxb := Hxb.out (by omega)
              have Hxb3 := Lib.hid hxb
              clear hxb
              go_wp2_with (at_builtin; refine wpList_append_lies _ rfl _ _ _ rfl w.heap.size 22 i0 _ 1 24 Tryz.underlying24 hi0 hz0 hz1 hz2 rfl Nat.one_pos (.slice lo i lc) i longs rfl (ownsRow_olds Hown2.out (Olds.alloc _ _)) ⟨wr.heap.size, 0, none⟩ 1 1 [.slice xo (ln + 16) xc] rfl rfl (World.news_of_block (cs := #[.slice xo (ln + 16) xc]) (t := 22) (fr := (0, 0)) (heap_alloc_new wr _)) (by simp [Value.oneCell']) Nat.one_pos (by unfold maxLen; omega) (by omega) (by simp; omega) (wr.heap.size + 1) (by simp) ?_; intro gg cap2 w4 hown4 hgrow hat hlt4)
              have Hlg2 := Lib.hid (Hlg.out.step Ha.out Hub.out Hu.out Hzs.out Hin.out Hxb3.out Hll.out hown4 hgrow hat)
              clear hown4 hgrow hat
              go_wp2_with fail
              go_roundw
              case rel => exact ⟨i + 1, _, _, _, by go_num, by omega, rfl, by rw [List.length_append, Hll.out]; rfl, Hlg2.out⟩
              case measure => simp [intOf]; omega
        · obtain rfl : n = i := by omega
          go_wp2_with fail
          go_loop [9] (fun iv => ∃ i : Nat, iv = .int .i64 i ∧ i ≤ n) (fun iv => n - (intOf iv).toNat)
          case atStart => exact ⟨0, rfl, Nat.zero_le _⟩
          case round =>
            obtain ⟨i, rfl, hin3⟩ := hrel
            by_cases hlt3 : i < n
            · obtain ⟨u, hu⟩ : ∃ u, us[i]? = some u := ⟨_, List.getElem?_eq_getElem (by rw [Hul.out]; exact hlt3)⟩
              obtain ⟨zs, hzs⟩ : ∃ zs, Zs[i]? = some zs := ⟨_, List.getElem?_eq_getElem (by rw [Hst.out.len, Ha.out.len, Hul.out]; exact hlt3)⟩
              obtain ⟨l, hl⟩ : ∃ l, longs[i]? = some l := ⟨_, List.getElem?_eq_getElem (by rw [Hll.out]; exact hlt3)⟩
              have hui := Lib.hid (Hlg.out.rows i u zs hu hzs).1
              have hli := (Hlg.out.done i u l zs hu hzs hl).1
              have hzm := Lib.hid (Hdn.out i zs hlt3 hzs)
              have hzl := Hst.out.small Ha.out.small hzs
              have hcu : wr.cell? ⟨gs, i, none⟩ = some u := by
                have := Hlg.out.cell i _ hu
                rwa [Nat.zero_add] at this
              obtain ⟨glv, rfl, hcl⟩ : ∃ glv, lo = some ⟨glv, 0, none⟩ ∧ wr.cell? ⟨glv, i, none⟩ = some l := by
                rcases Hlg.out.own.2 with ⟨e, h0⟩ | ⟨g, cp, cur, e, q1, q2, q3, q4, q5, q6⟩
                · omega
                · simp only [Value.slice.injEq, true_and] at e
                  refine ⟨g, e.1, ?_⟩
                  have h1 := hl
                  rw [← q6, List.getElem?_take] at h1
                  split at h1
                  · simp only [Array.getElem?_toList] at h1
                    simp [World.cell?, q2, h1]
                  · cases h1
              obtain ⟨bl, offl, cl, rfl, hcells⟩ : ∃ bl offl cl, l = .slice (some ⟨bl, offl, none⟩) (zs.length + 16) cl ∧ IntCells wr bl offl (zs ++ tails i 16) := by
                rcases hli.cases with ⟨_, _, _, e, _⟩ | ⟨bl, offl, cl, e, _, hc⟩
                · have := congrArg List.length e
                  rw [List.length_append, tails_len] at this
                  simp at this
                · exact ⟨bl, offl, cl, by rw [e, List.length_append, tails_len], hc⟩
              have Hcells := Lib.hid hcells
              obtain ⟨uo, uc, hu2, _⟩ := hui.out
              rw [ints_len] at hu2
              subst hu2
              clear hu hzs hl hli hcells
              generalize hln : zs.length = ln at *
              have Hln := Lib.hid hln
              clear hln
              go_wp2_with fail
              go_loop [11] (fun kv => ∃ k : Nat, kv = .int .i64 k ∧ k ≤ ln) (fun kv => ln - (intOf kv).toNat)
              case atStart => exact ⟨0, rfl, Nat.zero_le _⟩
              case round =>
                obtain ⟨k, rfl, hk3⟩ := hrel
                by_cases hkl : k < ln
                · have hzk : zs[k]? = some ((i : Int) * 1000 + (k : Int)) := by rw [hzm.out]; exact marks_at hkl
                  obtain ⟨bu, offu, rfl, hcz⟩ : ∃ bu offu, uo = some ⟨bu, offu, none⟩ ∧ wr.cell? ⟨bu, offu + k, none⟩ = some (.int .i64 ((i : Int) * 1000 + (k : Int))) := by
                    rcases hui.out.cases with ⟨_, _, _, e, _⟩ | ⟨bu, offu, c', e, _, hc⟩
                    · rw [e] at hzk; simp at hzk
                    · simp only [Value.slice.injEq] at e
                      exact ⟨bu, offu, e.1, hc k _ hzk⟩
                  have hcz2 : wr.cell? ⟨bl, offl + k, none⟩ = some (.int .i64 ((i : Int) * 1000 + (k : Int))) := Hcells.out k _ (by rw [List.getElem?_append_left (by rw [Hln.out]; exact hkl)]; exact hzk)
                  clear hzk
                  go_wp2_with fail
                  go_round
                  case rel => exact ⟨k + 1, by go_num, by omega⟩
                  case measure => simp [intOf]; omega
                · go_wp2_with fail
                  go_loop [12] (fun kv => ∃ k : Nat, kv = .int .i64 k ∧ k ≤ 16) (fun kv => 16 - (intOf kv).toNat)
                  case atStart => exact ⟨0, rfl, by omega⟩
                  case round =>
                    obtain ⟨k2, rfl, hk4⟩ := hrel
                    by_cases hkl2 : k2 < 16
                    · have hcz2 : wr.cell? ⟨bl, offl + (ln + k2), none⟩ = some (.int .i64 ((-1 - (i : Int)) * 1000 + (k2 : Int))) := Hcells.out (ln + k2) _ (by rw [List.getElem?_append_right (by rw [Hln.out]; omega), Hln.out, Nat.add_sub_cancel_left]; exact tails_at hkl2)
                      go_wp2_with fail
                      go_round
                      case rel => exact ⟨k2 + 1, by go_num, by omega⟩
                      case measure => simp [intOf]; omega
                    · go_wp2_with fail
                      go_round
                      case rel => exact ⟨i + 1, by go_num, by omega⟩
                      case measure => simp [intOf]; omega
            · go_wp2_with fail
              go_ret
              exact ⟨rfl, Hlg.out.bel, Hlg.out.oth⟩
end Go.Proofs.YthoboahfogpnfaaGreatDoor
namespace Go.Proofs.YthoboahfogpnfaaGreatDoor
open Go Go.RowKit Go.Sort Go.Lib

def nilS : Value := .slice none 0 0
def bookCells (v : Value) : Array Value := #[.slice none 0 0, .slice none 0 0, v, .slice none 0 0, .slice none 0 0, .slice none 0 0, .slice none 0 0, .slice none 0 0, .slice none 0 0, .slice none 0 0, .slice none 0 0, .slice none 0 0, .slice none 0 0, .slice none 0 0, .slice none 0 0, .slice none 0 0, .slice none 0 0, .slice none 0 0, .slice none 0 0, .slice none 0 0, .slice none 0 0, .slice none 0 0, .slice none 0 0, .slice none 0 0, .slice none 0 0, .slice none 0 0, .slice none 0 0, .slice none 0 0, .slice none 0 0, .slice none 0 0, .slice none 0 0, .slice none 0 0]

def BookAt (W : World) (bk : Nat) (us : List Value) : Prop :=
  ∃ sv, W.heap[bk]? = some (.cells (bookCells sv) 67 (0, 0)) ∧ W.ownsRow (bk + 1) 22 1 sv us.length us

set_option maxRecDepth 20000 in
set_option maxHeartbeats 400000 in
theorem book_ints {bk : Nat} {us : List Value} {xo : Option Addr} {xn xc : Nat} (w : World) (h : BookAt w bk us) (hl : us.length ≤ 10) :
    Calls Tryz.prog 15 #[.pointer (some ⟨bk, 0, none⟩), .slice xo xn xc] w fun e w' => e = .returned (.tuple #[]) ∧ BookAt w' bk (us ++ [.slice xo xn xc]) ∧ Below bk w w' := by
  obtain ⟨i0, hi0, hz0, hz1, hz2⟩ := info_parts info22
  obtain ⟨sv, hh, hown⟩ := h
  have hbk : bk < w.heap.size := by
    rcases Nat.lt_or_ge bk w.heap.size with h | h
    · exact h
    · rw [Array.getElem?_eq_none h] at hh; cases hh
  have hc : w.cell? ⟨bk, 2, none⟩ = some sv := by simp [World.cell?, hh, bookCells]
  have hf : w.frozen? ⟨bk, 2, none⟩ = false := by simp [World.frozen?, hh]
  have Hown := Lib.hid hown
  have Hh := Lib.hid hh
  obtain ⟨so, sc, rfl⟩ : ∃ so sc, sv = .slice so us.length sc := by
    rcases hown.2 with ⟨e, h0⟩ | ⟨g, cap, _, e, _⟩
    · exact ⟨none, 0, by rw [h0]; exact e⟩
    · exact ⟨_, cap, e⟩
  have hne : ∀ k, (Value.slice so us.length sc).ownBlock = some k → bk + 1 ≤ k := fun k hk => (ownsRow_block hown hk).1
  have Hne := Lib.hid hne
  clear hown hh hne
  go_enter Tryz.func15, Tryz.ntmps15
  go_wp2_with (at_builtin; refine wpList_append_lies _ rfl _ _ _ rfl (bk + 1) 22 i0 _ 1 24 Tryz.underlying24 hi0 hz0 hz1 hz2 rfl Nat.one_pos (.slice so us.length sc) us.length us rfl (ownsRow_olds Hown.out (Olds.alloc _ _)) ⟨w.heap.size, 0, none⟩ 1 1 [.slice xo xn xc] rfl rfl (World.news_of_block (cs := #[.slice xo xn xc]) (t := 22) (fr := (0, 0)) (heap_alloc_new w _)) (by simp [Value.oneCell']) Nat.one_pos (by unfold maxLen; omega) (by omega) (by simp; omega) (w.heap.size + 1) (by simp) ?_; intro gg cap2 w4 hown4 hgrow hat hlt4; have hb4 : w4.heap[bk]? = some (.cells (bookCells (.slice so us.length sc)) 67 (0, 0)) := ((hgrow.block bk (by simp; omega) (fun e => by have := Hne.out bk e.symm; omega)).trans ((Olds.alloc w _).2 bk hbk)).trans Hh.out; have hc4 : w4.cell? ⟨bk, 2, none⟩ = some (.slice so us.length sc) := (by simp [World.cell?, hb4, bookCells]); have hf4 : w4.frozen? ⟨bk, 2, none⟩ = false := (by simp [World.frozen?, hb4]))
  have Hf : Hid (BookAt (w4.setCell ⟨bk, 2, none⟩ (.slice (some ⟨gg, 0, none⟩) (us.length + 1) cap2)) bk (us ++ [.slice xo xn xc])) := Lib.hid (by
    have hgg := (ownsRow_block hown4 (g := gg) rfl).1
    refine ⟨.slice (some ⟨gg, 0, none⟩) (us.length + 1) cap2, ?_, ?_⟩
    · simp [World.setCell, Array.getElem?_modify, hb4, bookCells]
    · obtain ⟨k1, k2⟩ := hown4
      refine ⟨by simpa using k1, ?_⟩
      rcases k2 with ⟨e, _⟩ | ⟨g, cp, cur, e, q1, q2, q3, q4, q5, q6⟩
      · cases e
      · simp only [Value.slice.injEq, Option.some.injEq, Addr.mk.injEq, and_true, true_and] at e
        obtain ⟨rfl, rfl⟩ := e
        refine .inr ⟨gg, cap2, cur, by simp, q1, ?_, by simpa using q3, q4, q5, by simpa using q6⟩
        rw [← q2]
        simp only [World.setCell, Array.getElem?_modify]
        rw [if_neg (by omega)])
  have Hb : Hid (Below bk w (w4.setCell ⟨bk, 2, none⟩ (.slice (some ⟨gg, 0, none⟩) (us.length + 1) cap2))) := Lib.hid ((((Below.refl bk w).alloc (by omega) _).grown hgrow (by simp; omega) (fun b hb => by have := Hne.out b hb; omega)).setCell (Nat.le_refl _) _)
  clear hown4 hgrow hat
  go_wp2_with fail
  go_end0
  exact ⟨rfl, Hf.out, Hb.out⟩
end Go.Proofs.YthoboahfogpnfaaGreatDoor
namespace Go.Proofs.YthoboahfogpnfaaGreatDoor
open Go Go.RowKit Go.Sort Go.Lib

theorem below_to {B : Nat} {a w w' : World} (h : Below B a w) (hb : Below w.heap.size w w') (hB : B ≤ a.heap.size) : Below B a w' := h.trans (hb.mono (Nat.le_trans hB h.size))

set_option maxRecDepth 20000 in
set_option maxHeartbeats 4000000 in
theorem own_book {B bk : Nat} {so : Option Addr} {sn sc : Nat} (w : World) (h8 : 8 ≤ w.heap.size) (hB : B ≤ w.heap.size) (hh : w.heap[bk]? = some (.cells (bookCells (.slice so sn sc)) 67 (0, 0)))
    (hi : ∀ W : World, Olds w W → Calls Tryz.prog 38 #[.slice so sn sc] W fun e w' => e = .returned (.bool true) ∧ Below B W w' ∧ w'.heap[bk]? = W.heap[bk]?) :
    Calls Tryz.prog 19 #[.pointer (some ⟨bk, 0, none⟩)] w fun e w' => e = .returned (.bool true) ∧ Below B w w' := by
  have hbk : bk < w.heap.size := by
    rcases Nat.lt_or_ge bk w.heap.size with h | h
    · exact h
    · rw [Array.getElem?_eq_none h] at hh; cases hh
  have Hi := Lib.hid hi
  have Hh0 := Lib.hid hh
  have HB0 : Hid (Below B w w) := Lib.hid (Below.refl _ _)
  have Ho0 : Hid (Olds w w) := Lib.hid (Olds.refl _)
  have hc : w.cell? ⟨bk, 0, none⟩ = some (.slice none 0 0) := by simp [World.cell?, hh, bookCells]
  clear hi hh
  go_enter Tryz.func19, Tryz.ntmps19
  go_wp2_with fail
  refine (Go.Eng.KE.own36 w (by have := HB0.out.size; omega)).mono ?_
  rintro e w1 ⟨rfl, hb⟩
  have HB1 : Hid (Below B w w1) := Lib.hid (below_to HB0.out hb hB)
  have Hh1 : Hid (w1.heap[bk]? = some (.cells (bookCells (.slice so sn sc)) 67 (0, 0))) := Lib.hid ((hb.block bk (by have := HB0.out.size; omega)).trans Hh0.out)
  have Ho1 : Hid (Olds w w1) := Lib.hid (Ho0.out.trans (Olds.of_below hb))
  clear hc
  have hc : w1.cell? ⟨bk, 1, none⟩ = some (.slice none 0 0) := by have h := Hh1.out; simp [World.cell?, h, bookCells]
  clear hb
  go_wp2_with fail
  refine (Go.Eng.KE.own37 w1 (by have := HB1.out.size; omega)).mono ?_
  rintro e w2 ⟨rfl, hb⟩
  have HB2 : Hid (Below B w w2) := Lib.hid (below_to HB1.out hb hB)
  have Hh2 : Hid (w2.heap[bk]? = some (.cells (bookCells (.slice so sn sc)) 67 (0, 0))) := Lib.hid ((hb.block bk (by have := HB1.out.size; omega)).trans Hh1.out)
  have Ho2 : Hid (Olds w w2) := Lib.hid (Ho1.out.trans (Olds.of_below hb))
  clear hc
  have hc : w2.cell? ⟨bk, 2, none⟩ = some (.slice so sn sc) := by have h := Hh2.out; simp [World.cell?, h, bookCells]
  clear hb
  go_wp2_with fail
  refine (Hi.out w2 Ho2.out).mono ?_
  rintro e w3 ⟨rfl, hb, hk⟩
  have HB3 : Hid (Below B w w3) := Lib.hid (HB2.out.trans hb)
  have Hh3 : Hid (w3.heap[bk]? = some (.cells (bookCells (.slice so sn sc)) 67 (0, 0))) := Lib.hid (hk.trans Hh2.out)
  have hsz3 : w.heap.size ≤ w3.heap.size := HB3.out.size
  clear hc
  have hc : w3.cell? ⟨bk, 3, none⟩ = some (.slice none 0 0) := by have h := Hh3.out; simp [World.cell?, h, bookCells]
  clear hb
  go_wp2_with fail
  refine (Go.Eng.KE.own39 w3 (by have := HB3.out.size; omega)).mono ?_
  rintro e w4 ⟨rfl, hb⟩
  have HB4 : Hid (Below B w w4) := Lib.hid (below_to HB3.out hb hB)
  have Hh4 : Hid (w4.heap[bk]? = some (.cells (bookCells (.slice so sn sc)) 67 (0, 0))) := Lib.hid ((hb.block bk (by have := HB3.out.size; omega)).trans Hh3.out)
  clear hc
  have hc : w4.cell? ⟨bk, 4, none⟩ = some (.slice none 0 0) := by have h := Hh4.out; simp [World.cell?, h, bookCells]
  clear hb
  go_wp2_with fail
  refine (Go.Eng.KE.own40 w4 (by have := HB4.out.size; omega)).mono ?_
  rintro e w5 ⟨rfl, hb⟩
  have HB5 : Hid (Below B w w5) := Lib.hid (below_to HB4.out hb hB)
  have Hh5 : Hid (w5.heap[bk]? = some (.cells (bookCells (.slice so sn sc)) 67 (0, 0))) := Lib.hid ((hb.block bk (by have := HB4.out.size; omega)).trans Hh4.out)
  clear hc
  have hc : w5.cell? ⟨bk, 5, none⟩ = some (.slice none 0 0) := by have h := Hh5.out; simp [World.cell?, h, bookCells]
  clear hb
  go_wp2_with fail
  refine (Go.Eng.KE.own41 w5 (by have := HB5.out.size; omega)).mono ?_
  rintro e w6 ⟨rfl, hb⟩
  have HB6 : Hid (Below B w w6) := Lib.hid (below_to HB5.out hb hB)
  have Hh6 : Hid (w6.heap[bk]? = some (.cells (bookCells (.slice so sn sc)) 67 (0, 0))) := Lib.hid ((hb.block bk (by have := HB5.out.size; omega)).trans Hh5.out)
  clear hc
  have hc : w6.cell? ⟨bk, 6, none⟩ = some (.slice none 0 0) := by have h := Hh6.out; simp [World.cell?, h, bookCells]
  clear hb
  go_wp2_with fail
  refine (Go.Eng.KE.own42 w6 (by have := HB6.out.size; omega)).mono ?_
  rintro e w7 ⟨rfl, hb⟩
  have HB7 : Hid (Below B w w7) := Lib.hid (below_to HB6.out hb hB)
  have Hh7 : Hid (w7.heap[bk]? = some (.cells (bookCells (.slice so sn sc)) 67 (0, 0))) := Lib.hid ((hb.block bk (by have := HB6.out.size; omega)).trans Hh6.out)
  clear hc
  have hc : w7.cell? ⟨bk, 7, none⟩ = some (.slice none 0 0) := by have h := Hh7.out; simp [World.cell?, h, bookCells]
  clear hb
  go_wp2_with fail
  refine (Go.Eng.KE.own43 w7 (by have := HB7.out.size; omega)).mono ?_
  rintro e w8 ⟨rfl, hb⟩
  have HB8 : Hid (Below B w w8) := Lib.hid (below_to HB7.out hb hB)
  have Hh8 : Hid (w8.heap[bk]? = some (.cells (bookCells (.slice so sn sc)) 67 (0, 0))) := Lib.hid ((hb.block bk (by have := HB7.out.size; omega)).trans Hh7.out)
  clear hc
  have hc : w8.cell? ⟨bk, 8, none⟩ = some (.slice none 0 0) := by have h := Hh8.out; simp [World.cell?, h, bookCells]
  clear hb
  go_wp2_with fail
  refine (Go.Eng.KE.own44 w8 (by have := HB8.out.size; omega)).mono ?_
  rintro e w9 ⟨rfl, hb⟩
  have HB9 : Hid (Below B w w9) := Lib.hid (below_to HB8.out hb hB)
  have Hh9 : Hid (w9.heap[bk]? = some (.cells (bookCells (.slice so sn sc)) 67 (0, 0))) := Lib.hid ((hb.block bk (by have := HB8.out.size; omega)).trans Hh8.out)
  clear hc
  have hc : w9.cell? ⟨bk, 9, none⟩ = some (.slice none 0 0) := by have h := Hh9.out; simp [World.cell?, h, bookCells]
  clear hb
  go_wp2_with fail
  refine (Go.Eng.KE.own45 w9 (by have := HB9.out.size; omega)).mono ?_
  rintro e w10 ⟨rfl, hb⟩
  have HB10 : Hid (Below B w w10) := Lib.hid (below_to HB9.out hb hB)
  have Hh10 : Hid (w10.heap[bk]? = some (.cells (bookCells (.slice so sn sc)) 67 (0, 0))) := Lib.hid ((hb.block bk (by have := HB9.out.size; omega)).trans Hh9.out)
  clear hc
  have hc : w10.cell? ⟨bk, 10, none⟩ = some (.slice none 0 0) := by have h := Hh10.out; simp [World.cell?, h, bookCells]
  clear hb
  go_wp2_with fail
  refine (Go.Eng.KE.own46 w10 (by have := HB10.out.size; omega)).mono ?_
  rintro e w11 ⟨rfl, hb⟩
  have HB11 : Hid (Below B w w11) := Lib.hid (below_to HB10.out hb hB)
  have Hh11 : Hid (w11.heap[bk]? = some (.cells (bookCells (.slice so sn sc)) 67 (0, 0))) := Lib.hid ((hb.block bk (by have := HB10.out.size; omega)).trans Hh10.out)
  clear hc
  have hc : w11.cell? ⟨bk, 11, none⟩ = some (.slice none 0 0) := by have h := Hh11.out; simp [World.cell?, h, bookCells]
  clear hb
  go_wp2_with fail
  refine (Go.Eng.KE.own47 w11 (by have := HB11.out.size; omega)).mono ?_
  rintro e w12 ⟨rfl, hb⟩
  have HB12 : Hid (Below B w w12) := Lib.hid (below_to HB11.out hb hB)
  have Hh12 : Hid (w12.heap[bk]? = some (.cells (bookCells (.slice so sn sc)) 67 (0, 0))) := Lib.hid ((hb.block bk (by have := HB11.out.size; omega)).trans Hh11.out)
  clear hc
  have hc : w12.cell? ⟨bk, 12, none⟩ = some (.slice none 0 0) := by have h := Hh12.out; simp [World.cell?, h, bookCells]
  clear hb
  go_wp2_with fail
  refine (Go.Eng.KE.own48 w12 (by have := HB12.out.size; omega)).mono ?_
  rintro e w13 ⟨rfl, hb⟩
  have HB13 : Hid (Below B w w13) := Lib.hid (below_to HB12.out hb hB)
  have Hh13 : Hid (w13.heap[bk]? = some (.cells (bookCells (.slice so sn sc)) 67 (0, 0))) := Lib.hid ((hb.block bk (by have := HB12.out.size; omega)).trans Hh12.out)
  clear hc
  have hc : w13.cell? ⟨bk, 13, none⟩ = some (.slice none 0 0) := by have h := Hh13.out; simp [World.cell?, h, bookCells]
  clear hb
  go_wp2_with fail
  refine (Go.Eng.KE.own49 w13 (by have := HB13.out.size; omega)).mono ?_
  rintro e w14 ⟨rfl, hb⟩
  have HB14 : Hid (Below B w w14) := Lib.hid (below_to HB13.out hb hB)
  have Hh14 : Hid (w14.heap[bk]? = some (.cells (bookCells (.slice so sn sc)) 67 (0, 0))) := Lib.hid ((hb.block bk (by have := HB13.out.size; omega)).trans Hh13.out)
  clear hc
  have hc : w14.cell? ⟨bk, 14, none⟩ = some (.slice none 0 0) := by have h := Hh14.out; simp [World.cell?, h, bookCells]
  clear hb
  go_wp2_with fail
  refine (Go.Eng.KE.own50 w14 (by have := HB14.out.size; omega)).mono ?_
  rintro e w15 ⟨rfl, hb⟩
  have HB15 : Hid (Below B w w15) := Lib.hid (below_to HB14.out hb hB)
  have Hh15 : Hid (w15.heap[bk]? = some (.cells (bookCells (.slice so sn sc)) 67 (0, 0))) := Lib.hid ((hb.block bk (by have := HB14.out.size; omega)).trans Hh14.out)
  clear hc
  have hc : w15.cell? ⟨bk, 15, none⟩ = some (.slice none 0 0) := by have h := Hh15.out; simp [World.cell?, h, bookCells]
  clear hb
  go_wp2_with fail
  refine (Go.Eng.KE.own51 w15 (by have := HB15.out.size; omega)).mono ?_
  rintro e w16 ⟨rfl, hb⟩
  have HB16 : Hid (Below B w w16) := Lib.hid (below_to HB15.out hb hB)
  have Hh16 : Hid (w16.heap[bk]? = some (.cells (bookCells (.slice so sn sc)) 67 (0, 0))) := Lib.hid ((hb.block bk (by have := HB15.out.size; omega)).trans Hh15.out)
  clear hc
  have hc : w16.cell? ⟨bk, 16, none⟩ = some (.slice none 0 0) := by have h := Hh16.out; simp [World.cell?, h, bookCells]
  clear hb
  go_wp2_with fail
  refine (Go.Eng.KE.own52 w16 (by have := HB16.out.size; omega)).mono ?_
  rintro e w17 ⟨rfl, hb⟩
  have HB17 : Hid (Below B w w17) := Lib.hid (below_to HB16.out hb hB)
  have Hh17 : Hid (w17.heap[bk]? = some (.cells (bookCells (.slice so sn sc)) 67 (0, 0))) := Lib.hid ((hb.block bk (by have := HB16.out.size; omega)).trans Hh16.out)
  clear hc
  have hc : w17.cell? ⟨bk, 17, none⟩ = some (.slice none 0 0) := by have h := Hh17.out; simp [World.cell?, h, bookCells]
  clear hb
  go_wp2_with fail
  refine (Go.Eng.KE.own53 w17 (by have := HB17.out.size; omega)).mono ?_
  rintro e w18 ⟨rfl, hb⟩
  have HB18 : Hid (Below B w w18) := Lib.hid (below_to HB17.out hb hB)
  have Hh18 : Hid (w18.heap[bk]? = some (.cells (bookCells (.slice so sn sc)) 67 (0, 0))) := Lib.hid ((hb.block bk (by have := HB17.out.size; omega)).trans Hh17.out)
  clear hc
  have hc : w18.cell? ⟨bk, 18, none⟩ = some (.slice none 0 0) := by have h := Hh18.out; simp [World.cell?, h, bookCells]
  clear hb
  go_wp2_with fail
  refine (Go.Eng.KE.own54 w18 (by have := HB18.out.size; omega)).mono ?_
  rintro e w19 ⟨rfl, hb⟩
  have HB19 : Hid (Below B w w19) := Lib.hid (below_to HB18.out hb hB)
  have Hh19 : Hid (w19.heap[bk]? = some (.cells (bookCells (.slice so sn sc)) 67 (0, 0))) := Lib.hid ((hb.block bk (by have := HB18.out.size; omega)).trans Hh18.out)
  clear hc
  have hc : w19.cell? ⟨bk, 19, none⟩ = some (.slice none 0 0) := by have h := Hh19.out; simp [World.cell?, h, bookCells]
  clear hb
  go_wp2_with fail
  refine (Go.Eng.KE.own55 w19 (by have := HB19.out.size; omega)).mono ?_
  rintro e w20 ⟨rfl, hb⟩
  have HB20 : Hid (Below B w w20) := Lib.hid (below_to HB19.out hb hB)
  have Hh20 : Hid (w20.heap[bk]? = some (.cells (bookCells (.slice so sn sc)) 67 (0, 0))) := Lib.hid ((hb.block bk (by have := HB19.out.size; omega)).trans Hh19.out)
  clear hc
  have hc : w20.cell? ⟨bk, 20, none⟩ = some (.slice none 0 0) := by have h := Hh20.out; simp [World.cell?, h, bookCells]
  clear hb
  go_wp2_with fail
  refine (Go.Eng.KE.own56 w20 (by have := HB20.out.size; omega)).mono ?_
  rintro e w21 ⟨rfl, hb⟩
  have HB21 : Hid (Below B w w21) := Lib.hid (below_to HB20.out hb hB)
  have Hh21 : Hid (w21.heap[bk]? = some (.cells (bookCells (.slice so sn sc)) 67 (0, 0))) := Lib.hid ((hb.block bk (by have := HB20.out.size; omega)).trans Hh20.out)
  clear hc
  have hc : w21.cell? ⟨bk, 21, none⟩ = some (.slice none 0 0) := by have h := Hh21.out; simp [World.cell?, h, bookCells]
  clear hb
  go_wp2_with fail
  refine (Go.Eng.KE.own57 w21 (by have := HB21.out.size; omega)).mono ?_
  rintro e w22 ⟨rfl, hb⟩
  have HB22 : Hid (Below B w w22) := Lib.hid (below_to HB21.out hb hB)
  have Hh22 : Hid (w22.heap[bk]? = some (.cells (bookCells (.slice so sn sc)) 67 (0, 0))) := Lib.hid ((hb.block bk (by have := HB21.out.size; omega)).trans Hh21.out)
  clear hc
  have hc : w22.cell? ⟨bk, 22, none⟩ = some (.slice none 0 0) := by have h := Hh22.out; simp [World.cell?, h, bookCells]
  clear hb
  go_wp2_with fail
  refine (Go.Eng.KE.own58 w22 (by have := HB22.out.size; omega)).mono ?_
  rintro e w23 ⟨rfl, hb⟩
  have HB23 : Hid (Below B w w23) := Lib.hid (below_to HB22.out hb hB)
  have Hh23 : Hid (w23.heap[bk]? = some (.cells (bookCells (.slice so sn sc)) 67 (0, 0))) := Lib.hid ((hb.block bk (by have := HB22.out.size; omega)).trans Hh22.out)
  clear hc
  have hc : w23.cell? ⟨bk, 23, none⟩ = some (.slice none 0 0) := by have h := Hh23.out; simp [World.cell?, h, bookCells]
  clear hb
  go_wp2_with fail
  refine (Go.Eng.KE.own59 w23 (by have := HB23.out.size; omega)).mono ?_
  rintro e w24 ⟨rfl, hb⟩
  have HB24 : Hid (Below B w w24) := Lib.hid (below_to HB23.out hb hB)
  have Hh24 : Hid (w24.heap[bk]? = some (.cells (bookCells (.slice so sn sc)) 67 (0, 0))) := Lib.hid ((hb.block bk (by have := HB23.out.size; omega)).trans Hh23.out)
  clear hc
  have hc : w24.cell? ⟨bk, 24, none⟩ = some (.slice none 0 0) := by have h := Hh24.out; simp [World.cell?, h, bookCells]
  clear hb
  go_wp2_with fail
  refine (Go.Eng.KE.own60 w24 (by have := HB24.out.size; omega)).mono ?_
  rintro e w25 ⟨rfl, hb⟩
  have HB25 : Hid (Below B w w25) := Lib.hid (below_to HB24.out hb hB)
  have Hh25 : Hid (w25.heap[bk]? = some (.cells (bookCells (.slice so sn sc)) 67 (0, 0))) := Lib.hid ((hb.block bk (by have := HB24.out.size; omega)).trans Hh24.out)
  clear hc
  have hc : w25.cell? ⟨bk, 25, none⟩ = some (.slice none 0 0) := by have h := Hh25.out; simp [World.cell?, h, bookCells]
  clear hb
  go_wp2_with fail
  refine (Go.Eng.KE.own61 w25 (by have := HB25.out.size; omega)).mono ?_
  rintro e w26 ⟨rfl, hb⟩
  have HB26 : Hid (Below B w w26) := Lib.hid (below_to HB25.out hb hB)
  have Hh26 : Hid (w26.heap[bk]? = some (.cells (bookCells (.slice so sn sc)) 67 (0, 0))) := Lib.hid ((hb.block bk (by have := HB25.out.size; omega)).trans Hh25.out)
  clear hc
  have hc : w26.cell? ⟨bk, 26, none⟩ = some (.slice none 0 0) := by have h := Hh26.out; simp [World.cell?, h, bookCells]
  clear hb
  go_wp2_with fail
  refine (Go.Eng.KE.own62 w26 (by have := HB26.out.size; omega)).mono ?_
  rintro e w27 ⟨rfl, hb⟩
  have HB27 : Hid (Below B w w27) := Lib.hid (below_to HB26.out hb hB)
  have Hh27 : Hid (w27.heap[bk]? = some (.cells (bookCells (.slice so sn sc)) 67 (0, 0))) := Lib.hid ((hb.block bk (by have := HB26.out.size; omega)).trans Hh26.out)
  clear hc
  have hc : w27.cell? ⟨bk, 27, none⟩ = some (.slice none 0 0) := by have h := Hh27.out; simp [World.cell?, h, bookCells]
  clear hb
  go_wp2_with fail
  refine (Go.Eng.KE.own63 w27 (by have := HB27.out.size; omega)).mono ?_
  rintro e w28 ⟨rfl, hb⟩
  have HB28 : Hid (Below B w w28) := Lib.hid (below_to HB27.out hb hB)
  have Hh28 : Hid (w28.heap[bk]? = some (.cells (bookCells (.slice so sn sc)) 67 (0, 0))) := Lib.hid ((hb.block bk (by have := HB27.out.size; omega)).trans Hh27.out)
  clear hc
  have hc : w28.cell? ⟨bk, 28, none⟩ = some (.slice none 0 0) := by have h := Hh28.out; simp [World.cell?, h, bookCells]
  clear hb
  go_wp2_with fail
  refine (Go.Eng.KE.own64 w28 (by have := HB28.out.size; omega)).mono ?_
  rintro e w29 ⟨rfl, hb⟩
  have HB29 : Hid (Below B w w29) := Lib.hid (below_to HB28.out hb hB)
  have Hh29 : Hid (w29.heap[bk]? = some (.cells (bookCells (.slice so sn sc)) 67 (0, 0))) := Lib.hid ((hb.block bk (by have := HB28.out.size; omega)).trans Hh28.out)
  clear hc
  have hc : w29.cell? ⟨bk, 29, none⟩ = some (.slice none 0 0) := by have h := Hh29.out; simp [World.cell?, h, bookCells]
  clear hb
  go_wp2_with fail
  refine (Go.Eng.KE.own65 w29 (by have := HB29.out.size; omega)).mono ?_
  rintro e w30 ⟨rfl, hb⟩
  have HB30 : Hid (Below B w w30) := Lib.hid (below_to HB29.out hb hB)
  have Hh30 : Hid (w30.heap[bk]? = some (.cells (bookCells (.slice so sn sc)) 67 (0, 0))) := Lib.hid ((hb.block bk (by have := HB29.out.size; omega)).trans Hh29.out)
  clear hc
  have hc : w30.cell? ⟨bk, 30, none⟩ = some (.slice none 0 0) := by have h := Hh30.out; simp [World.cell?, h, bookCells]
  clear hb
  go_wp2_with fail
  refine (Go.Eng.KE.own66 w30 (by have := HB30.out.size; omega)).mono ?_
  rintro e w31 ⟨rfl, hb⟩
  have HB31 : Hid (Below B w w31) := Lib.hid (below_to HB30.out hb hB)
  have Hh31 : Hid (w31.heap[bk]? = some (.cells (bookCells (.slice so sn sc)) 67 (0, 0))) := Lib.hid ((hb.block bk (by have := HB30.out.size; omega)).trans Hh30.out)
  clear hc
  have hc : w31.cell? ⟨bk, 31, none⟩ = some (.slice none 0 0) := by have h := Hh31.out; simp [World.cell?, h, bookCells]
  clear hb
  go_wp2_with fail
  refine (Go.Eng.KE.own67 w31 (by have := HB31.out.size; omega)).mono ?_
  rintro e w32 ⟨rfl, hb⟩
  have HB32 : Hid (Below B w w32) := Lib.hid (below_to HB31.out hb hB)
  have Hh32 : Hid (w32.heap[bk]? = some (.cells (bookCells (.slice so sn sc)) 67 (0, 0))) := Lib.hid ((hb.block bk (by have := HB31.out.size; omega)).trans Hh31.out)
  go_wp2_with fail
  go_ret
  exact ⟨rfl, HB32.out⟩
end Go.Proofs.YthoboahfogpnfaaGreatDoor
namespace Go.Proofs.YthoboahfogpnfaaGreatDoor
open Go Go.RowKit Go.Sort Go.Lib

set_option maxHeartbeats 400000 in
theorem much_none (o : Option Addr) (c : Nat) (w : World) : Calls Tryz.prog 5 #[.slice o 0 c] w fun e w' => e = .returned (.bool false) ∧ w = w' := by
  go_enter Tryz.func5, Tryz.ntmps5
  go_wp2_with fail
  go_loop [3, 4] (fun n i => i = .int .i64 0 ∧ n = .int .i64 0) (fun _ _ => 0)
  case atStart => exact ⟨rfl, rfl⟩
  case round =>
    obtain ⟨rfl, rfl⟩ := hrel
    go_wp2_with fail
    go_ret
    exact ⟨rfl, rfl⟩

theorem much_any {v : Value} {L : List (List Int)} (w : World) (h : ListsAt w v L) (hn : L.length * 24 ≤ 140737488355328) (hs : ∀ zs ∈ L, zs.length * 8 ≤ 140737488355328) :
    Calls Tryz.prog 5 #[v] w fun e w' => e = .returned (.bool (decide (3000 < L.length + tot L))) ∧ w = w' := by
  obtain ⟨vs, h1, h2, h3⟩ := h
  rcases h1.cases with ⟨o, c, rfl, rfl, _⟩ | ⟨b, off, c, rfl, hp, hc⟩
  · have : L = [] := List.eq_nil_of_length_eq_zero h2.symm
    subst this
    exact much_none o c w
  · have := much_cells b off c vs.length vs L w rfl (by omega) (fun _ => hc) h2.symm hs h3
    rw [h2] at this ⊢
    exact this

theorem Within.below {B S : Nat} {a b : World} (h : Within B S a b) : Below B a b := ⟨h.os, h.tape, h.output, by rw [h.size]; exact Nat.le_refl _, fun k hk => h.block k (.inl hk)⟩
theorem owns_within {B S B' : Nat} {a b : World} {v : Value} {zs : List Int} (h : Owns a B' v zs) (hw : Within B S a b) (hS : S ≤ B') : Owns b B' v zs := owns_kept h fun k hk => hw.block k (.inr (by have := (ownsRow_block h hk).1; omega))
theorem owns_below {B B' : Nat} {a b : World} {v : Value} {zs : List Int} (h : Owns a B v zs) (hb : Below B' a b) (hlt : ∀ k, v.ownBlock = some k → k < B') : Owns b B v zs := owns_kept h fun k hk => hb.block k (hlt k hk)
theorem BookAt.olds {W W' : World} {bk : Nat} {us : List Value} (h : BookAt W bk us) (ho : Olds W W') : BookAt W' bk us := by
  obtain ⟨sv, h1, h2⟩ := h
  have hbk : bk < W.heap.size := by
    rcases Nat.lt_or_ge bk W.heap.size with h | h
    · exact h
    · rw [Array.getElem?_eq_none h] at h1; cases h1
  exact ⟨sv, (ho.2 bk hbk).trans h1, ownsRow_olds h2 ho⟩


theorem LentLists.two {W : World} {B : Nat} {v : Value} {a b : List Int} (h : LentLists W B v [a, b]) :
    ∃ g cap u0 u1, v = .slice (some ⟨g, 0, none⟩) 2 cap ∧ W.cell? ⟨g, 0, none⟩ = some u0 ∧ W.cell? ⟨g, 1, none⟩ = some u1 ∧ LentRow W B u0 a ∧ LentRow W B u1 b := by
  obtain ⟨g, cap, us, rfl, h1, h2, h3, h4, h5, h6⟩ := h.cells
  obtain ⟨u0, u1, rfl⟩ : ∃ u0 u1, us = [u0, u1] := by
    match us, h1 with
    | [u0, u1], _ => exact ⟨u0, u1, rfl⟩
  refine ⟨g, cap, u0, u1, rfl, ?_, ?_, (h6 0 u0 a rfl rfl).1, (h6 1 u1 b rfl rfl).1⟩
  · simpa using h5 0 u0 rfl
  · simpa using h5 1 u1 rfl

theorem lists_two {W : World} {va vb : Value} {a c : List Int} (ha : IntsAt W va a) (hc : IntsAt W vb c) : ListsAt (W.alloc (.cells #[va, vb] 22)) (.slice (some ⟨W.heap.size, 0, none⟩) 2 2) [a, c] := by
  obtain ⟨h1, h2⟩ := two_lists ha hc
  exact ⟨[va, vb], ⟨_, 2, rfl, (fun h => by cases h), fun _ => ⟨_, 0, rfl, h1⟩⟩, rfl, h2⟩

theorem len_andL (L : List (List Int)) : (andL L).length ≤ tot L := by
  cases L with
  | nil => simp [andL]
  | cons x r =>
    rw [andL_eq]
    refine Nat.le_trans (List.length_filter_le _ _) (Nat.le_trans (norm_len x) ?_)
    simp [tot]
theorem len_orL' (L : List (List Int)) : (orL L).length ≤ tot L := by rw [← tot_flat]; exact len_orL L
theorem mem_tot {L : List (List Int)} {zs : List Int} (h : zs ∈ L) : zs.length ≤ tot L := by
  rw [← tot_flat]
  exact (List.sublist_flatten_of_mem h).length_le

theorem or_lent {v : Value} {L : List (List Int)} {B : Nat} (w : World) (h : LentLists w B v L) (hn : L.length ≤ 3000) (ht : tot L ≤ 3000) : Calls Tryz.prog 7 #[v] w (Fresh (orL L) w) := by
  obtain ⟨g, cap, us, rfl, h1, h2, h3, h4, h5, h6⟩ := h.cells
  exact or_cells g 0 cap L.length us L w h1 (by omega) (fun _ j x hx => h5 j x (by rw [List.getElem?_append_left (List.getElem?_eq_some_iff.1 hx).1]; exact hx)) rfl (fun zs hz => by have := mem_tot hz; omega) (by rw [tot_flat]; omega) (fun i u zs hu hz => (h6 i u zs hu hz).1.ints)
end Go.Proofs.YthoboahfogpnfaaGreatDoor
namespace Go.Proofs.YthoboahfogpnfaaGreatDoor
open Go Go.RowKit Go.Sort Go.Lib

theorem three {α : Type} {x y z u : α} {j : Nat} (h : [x, y, z][j]? = some u) : (j = 0 ∧ u = x) ∨ (j = 1 ∧ u = y) ∨ (j = 2 ∧ u = z) := by
  match j, h with
  | 0, h => cases h; exact .inl ⟨rfl, rfl⟩
  | 1, h => cases h; exact .inr (.inl ⟨rfl, rfl⟩)
  | 2, h => cases h; exact .inr (.inr ⟨rfl, rfl⟩)

theorem own_three {W0 : World} {B bk s1 s2 s3 s4 : Nat} {x y z : Value} {X Y Z : List Int} (hb : BookAt W0 bk [x, y, z]) (hx : Owns W0 s1 x X) (hy : Owns W0 s2 y Y) (hz : Owns W0 s3 z Z)
    (lx : ∀ k, x.ownBlock = some k → s1 ≤ k ∧ k < s2) (ly : ∀ k, y.ownBlock = some k → s2 ≤ k ∧ k < s3) (lz : ∀ k, z.ownBlock = some k → s3 ≤ k ∧ k < s4) (h4 : s4 ≤ bk) (hB : B ≤ s1) (h12 : s1 ≤ s2) (h23 : s2 ≤ s3) (h34 : s3 ≤ s4)
    (l1 : X.length ≤ 6000) (l2 : Y.length ≤ 6000) (l3 : Z.length ≤ 6000) (h8 : 8 ≤ W0.heap.size) (hB0 : B ≤ W0.heap.size) :
    Calls Tryz.prog 19 #[.pointer (some ⟨bk, 0, none⟩)] W0 fun e w' => e = .returned (.bool true) ∧ Below B W0 w' := by
  obtain ⟨sv, h1, h2⟩ := hb
  have hbk : bk < W0.heap.size := by
    rcases Nat.lt_or_ge bk W0.heap.size with h | h
    · exact h
    · rw [Array.getElem?_eq_none h] at h1; cases h1
  rcases h2.2 with ⟨_, h0⟩ | ⟨gs, cap, cur, rfl, q1, q2, q3, q4, q5, q6⟩
  · simp at h0
  have hgs : gs < W0.heap.size := by
    rcases Nat.lt_or_ge gs W0.heap.size with h | h
    · exact h
    · rw [Array.getElem?_eq_none h] at q2; cases q2
  refine own_book W0 h8 hB0 h1 fun W hW => ?_
  have hus : ∀ (j : Nat) (u : Value), [x, y, z][j]? = some u → ∀ b, u.ownBlock = some b → B ≤ b ∧ b < s4 := by
    intro j u hu b hb
    rcases three hu with ⟨_, rfl⟩ | ⟨_, rfl⟩ | ⟨_, rfl⟩
    · have := lx b hb; omega
    · have := ly b hb; omega
    · have := lz b hb; omega
  have ha : Apart3 W B gs [x, y, z] [X, Y, Z] := by
    refine ⟨rfl, ?_, ?_, ?_, by have := hW.1; omega, by have := hW.1; omega⟩
    · intro zs hz
      simp only [List.mem_cons, List.not_mem_nil, or_false] at hz
      rcases hz with rfl | rfl | rfl <;> assumption
    · intro u hu e
      obtain ⟨j, hj⟩ := List.getElem?_of_mem hu
      have := (hus j u hj gs e).2
      omega
    · intro j j' u u' hu hu' hne b hb hb'
      rcases three hu with ⟨e1, rfl⟩ | ⟨e1, rfl⟩ | ⟨e1, rfl⟩ <;> rcases three hu' with ⟨e2, rfl⟩ | ⟨e2, rfl⟩ | ⟨e2, rfl⟩ <;> first
        | (exfalso; omega)
        | (have a1 := lx b hb; have a2 := ly b hb'; omega)
        | (have a1 := lx b hb; have a2 := lz b hb'; omega)
        | (have a1 := ly b hb; have a2 := lx b hb'; omega)
        | (have a1 := ly b hb; have a2 := lz b hb'; omega)
        | (have a1 := lz b hb; have a2 := lx b hb'; omega)
        | (have a1 := lz b hb; have a2 := ly b hb'; omega)
  have hst : St W W B gs [x, y, z] [X, Y, Z] [X, Y, Z] := by
    refine ⟨fun j v hv => ?_, fun j u zs hu hz' => ?_, rfl, Below.refl _ _, fun _ _ _ => rfl, rfl⟩
    · have h3 := hv
      rw [← q6, List.getElem?_take] at h3
      split at h3
      · simp only [Array.getElem?_toList] at h3
        have h4 : W.heap[gs]? = some (.cells cur 22 (0, 0)) := (hW.2 gs hgs).trans q2
        rw [Nat.zero_add]
        simp [World.cell?, h4, h3]
      · cases h3
    · rcases three hu with ⟨e1, rfl⟩ | ⟨e1, rfl⟩ | ⟨e1, rfl⟩ <;> subst e1 <;> cases hz'
      · exact (hx.olds hW).mono hB
      · exact (hy.olds hW).mono (by omega)
      · exact (hz.olds hW).mono (by omega)
  refine (own_ints (n := 3) (cap := cap) W rfl (Nat.le_refl _) ha hst (fun j u hu b hb => by have h := hus j u hu b hb; have := hW.1; exact ⟨h.1, by omega⟩)).mono fun e w' h => ⟨h.1, h.2.1, h.2.2 bk (by have := hW.1; omega) fun u hu e2 => ?_⟩
  obtain ⟨j, hj⟩ := List.getElem?_of_mem hu
  have := (hus j u hj bk e2).2
  omega
end Go.Proofs.YthoboahfogpnfaaGreatDoor
