/- Contracts over this program. Their conditions: the slices read as the lists that are named, and lie within the sizes that are named. -/
import Derived.Test.YtaoggppfimfhbaaGreatDoorProg
import Derived.WalkKit
import Derived.WalkSpells
import Derived.WalkLawsBesides
import Derived.Deep.QuietTactic
import Derived.BigQuiet
import Derived.Deep.LoopGhost
import Derived.Lib.Hide
import Derived.Lib.OwnBridge
import Derived.Sort.EncStr
import Derived.Test.YtaoggppfimfhbaaGreatDoorIx
import Derived.Deep.AppendLies
import Derived.OwnWalk
import Derived.Sort.Walk0
set_option linter.unusedSimpArgs false
set_option linter.unusedVariables false
set_option linter.deprecated false
set_option linter.unnecessarySimpa false
namespace Go.Proofs.YtaoggppfimfhbaaGreatDoor
open Go Go.RowKit Go.Ix


def CellsAt (w : World) (b off : Nat) (vs : List Value) : Prop := ∀ j v, vs[j]? = some v → w.cell? ⟨b, off + j, none⟩ = some v


def FlatAt (w : World) (v : Value) (n : Nat) (vs : List Value) : Prop :=
  ∃ o c, v = .slice o n c ∧ (o = none → c = 0) ∧ (vs ≠ [] → ∃ b off, o = some ⟨b, off, none⟩ ∧ CellsAt w b off vs)

theorem cell_lt {w : World} {a : Addr} {v : Value} (h : w.cell? a = some v) : a.block < w.heap.size := by
  by_cases hlt : a.block < w.heap.size
  · exact hlt
  · have : w.heap[a.block]? = Option.none := by simp; omega
    simp [World.cell?, this] at h

theorem CellsAt.keep {w w' : World} {b off : Nat} {vs : List Value} (h : CellsAt w b off vs) (hb : Below w.heap.size w w') : CellsAt w' b off vs := fun j v hv => by
  have := h j v hv
  rw [hb.cell (cell_lt this)]
  exact this
theorem FlatAt.keep {w w' : World} {v : Value} {n : Nat} {vs : List Value} (h : FlatAt w v n vs) (hb : Below w.heap.size w w') : FlatAt w' v n vs := by
  obtain ⟨o, c, h1, h2, h3⟩ := h
  exact ⟨o, c, h1, h2, fun hne => by obtain ⟨b, off, e, hc⟩ := h3 hne; exact ⟨b, off, e, hc.keep hb⟩⟩

theorem flat_at {α : Type} {enc : α → List Value} {k : Nat} (hk : ∀ x, (enc x).length = k) : ∀ (xs : List α) (j i : Nat) (x : α) (v : Value), xs[j]? = some x → (enc x)[i]? = some v → (xs.flatMap enc)[j * k + i]? = some v
  | [], j, i, x, v, h, _ => by simp at h
  | y :: xs, 0, i, x, v, h, hv => by
    simp at h
    subst h
    have hi : i < (enc y).length := (List.getElem?_eq_some_iff.1 hv).1
    rw [List.flatMap_cons, Nat.zero_mul, Nat.zero_add, List.getElem?_append_left hi]
    exact hv
  | y :: xs, j + 1, i, x, v, h, hv => by
    have := flat_at hk xs j i x v (by simpa using h) hv
    rw [List.flatMap_cons, List.getElem?_append_right (by rw [hk, Nat.add_mul]; omega), hk, show (j + 1) * k + i - k = j * k + i by rw [Nat.add_mul]; omega]
    exact this
theorem flat_len {α : Type} {enc : α → List Value} {k : Nat} (hk : ∀ x, (enc x).length = k) (xs : List α) : (xs.flatMap enc).length = xs.length * k := by
  induction xs with
  | nil => simp
  | cons x xs ih => rw [List.flatMap_cons, List.length_append, hk, ih, List.length_cons, Nat.add_mul]; omega


theorem CellsAt.elem {α : Type} {enc : α → List Value} {k : Nat} {w : World} {b off : Nat} {xs : List α} (h : CellsAt w b off (xs.flatMap enc)) (hk : ∀ x, (enc x).length = k) {j i : Nat} {x : α} {v : Value} (hj : xs[j]? = some x) (hv : (enc x)[i]? = some v) : w.cell? ⟨b, off + j * k + i, none⟩ = some v := by
  have := h _ _ (flat_at hk xs j i x v hj hv)
  rwa [← Nat.add_assoc] at this

def lblCells (y : Lbl) : List Value := [encStr y.1, encStr y.2]
def plcCells (c : Plc) : List Value := [.int .i64 c.fr, .int .i64 c.til, .int .i64 c.num, .int .i64 c.pos, .int .i64 c.siz]
def entCells (u : Value × Value) : List Value := [u.1, u.2]

def LblsAt (w : World) (v : Value) (l : List Lbl) : Prop := FlatAt w v l.length (l.flatMap lblCells)
def PlcsAt (w : World) (v : Value) (l : List Plc) : Prop := FlatAt w v l.length (l.flatMap plcCells)

def EntAt (w : World) (u : Value × Value) (e : Ent) : Prop := LblsAt w u.1 e.1 ∧ PlcsAt w u.2 e.2
def EntsAt (w : World) (v : Value) (l : List Ent) : Prop :=
  ∃ vs : List (Value × Value), vs.length = l.length ∧ FlatAt w v l.length (vs.flatMap entCells) ∧ ∀ (i : Nat) (u : Value × Value) (e : Ent), vs[i]? = some u → l[i]? = some e → EntAt w u e

theorem LblsAt.keep {w w' : World} {v : Value} {l : List Lbl} (h : LblsAt w v l) (hb : Below w.heap.size w w') : LblsAt w' v l := FlatAt.keep h hb
theorem PlcsAt.keep {w w' : World} {v : Value} {l : List Plc} (h : PlcsAt w v l) (hb : Below w.heap.size w w') : PlcsAt w' v l := FlatAt.keep h hb
theorem EntAt.keep {w w' : World} {u : Value × Value} {e : Ent} (h : EntAt w u e) (hb : Below w.heap.size w w') : EntAt w' u e := ⟨h.1.keep hb, h.2.keep hb⟩
theorem EntsAt.keep {w w' : World} {v : Value} {l : List Ent} (h : EntsAt w v l) (hb : Below w.heap.size w w') : EntsAt w' v l := by
  obtain ⟨vs, h1, h2, h3⟩ := h
  exact ⟨vs, h1, h2.keep hb, fun i u e hu he => (h3 i u e hu he).keep hb⟩


theorem FlatAt.cases {w : World} {v : Value} {n : Nat} {vs : List Value} (h : FlatAt w v n vs) :
    (∃ o c, v = .slice o n c ∧ vs = [] ∧ (o = none → c = 0)) ∨ (∃ b off c, v = .slice (some ⟨b, off, none⟩) n c ∧ vs ≠ [] ∧ CellsAt w b off vs) := by
  obtain ⟨o, c, h1, h2, h3⟩ := h
  by_cases hv : vs = []
  · exact .inl ⟨o, c, h1, hv, h2⟩
  · obtain ⟨b, off, rfl, hc⟩ := h3 hv
    exact .inr ⟨b, off, c, h1, hv, hc⟩

theorem flat_ne {α : Type} {enc : α → List Value} {k : Nat} (hk : ∀ x, (enc x).length = k) (hp : 0 < k) {xs : List α} : xs.flatMap enc = [] ↔ xs = [] := by
  constructor
  · intro h
    have := flat_len hk xs
    rw [h] at this
    cases xs with
    | nil => rfl
    | cons _ _ =>
      simp [Nat.add_mul] at this
      omega
  · rintro rfl
    rfl

theorem LblsAt.cases {w : World} {v : Value} {l : List Lbl} (h : LblsAt w v l) :
    (∃ o c, v = .slice o 0 c ∧ l = [] ∧ (o = none → c = 0)) ∨ (∃ b off c, v = .slice (some ⟨b, off, none⟩) l.length c ∧ 0 < l.length ∧ CellsAt w b off (l.flatMap lblCells)) := by
  rcases FlatAt.cases h with ⟨o, c, h1, h2, h3⟩ | ⟨b, off, c, h1, h2, h3⟩
  · rw [flat_ne (k := 2) (fun _ => rfl) (by decide)] at h2
    subst h2
    exact .inl ⟨o, c, h1, rfl, h3⟩
  · refine .inr ⟨b, off, c, h1, ?_, h3⟩
    rw [ne_eq, flat_ne (k := 2) (fun _ => rfl) (by decide)] at h2
    exact List.length_pos_iff.2 h2
theorem PlcsAt.cases {w : World} {v : Value} {l : List Plc} (h : PlcsAt w v l) :
    (∃ o c, v = .slice o 0 c ∧ l = [] ∧ (o = none → c = 0)) ∨ (∃ b off c, v = .slice (some ⟨b, off, none⟩) l.length c ∧ 0 < l.length ∧ CellsAt w b off (l.flatMap plcCells)) := by
  rcases FlatAt.cases h with ⟨o, c, h1, h2, h3⟩ | ⟨b, off, c, h1, h2, h3⟩
  · rw [flat_ne (k := 5) (fun _ => rfl) (by decide)] at h2
    subst h2
    exact .inl ⟨o, c, h1, rfl, h3⟩
  · refine .inr ⟨b, off, c, h1, ?_, h3⟩
    rw [ne_eq, flat_ne (k := 5) (fun _ => rfl) (by decide)] at h2
    exact List.length_pos_iff.2 h2
theorem EntsAt.cases {w : World} {v : Value} {l : List Ent} (h : EntsAt w v l) :
    (∃ o c, v = .slice o 0 c ∧ l = [] ∧ (o = none → c = 0)) ∨
    (∃ b off c, ∃ vs : List (Value × Value), v = .slice (some ⟨b, off, none⟩) l.length c ∧ 0 < l.length ∧ vs.length = l.length ∧ CellsAt w b off (vs.flatMap entCells) ∧ ∀ (i : Nat) (u : Value × Value) (e : Ent), vs[i]? = some u → l[i]? = some e → EntAt w u e) := by
  obtain ⟨vs, hl, h, he⟩ := h
  rcases FlatAt.cases h with ⟨o, c, h1, h2, h3⟩ | ⟨b, off, c, h1, h2, h3⟩
  · rw [flat_ne (k := 2) (fun _ => rfl) (by decide)] at h2
    subst h2
    have : l = [] := List.eq_nil_of_length_eq_zero (by simpa using hl.symm)
    subst this
    exact .inl ⟨o, c, h1, rfl, h3⟩
  · refine .inr ⟨b, off, c, vs, h1, ?_, hl, h3, he⟩
    rw [ne_eq, flat_ne (k := 2) (fun _ => rfl) (by decide)] at h2
    rw [← hl]
    exact List.length_pos_iff.2 h2

theorem ret_bool {a b : Bool} (h : a = b) : Ending.returned (.bool a) = .returned (.bool b) := by rw [h]
theorem ret_int {a b : Int} {k : IntKind} (h : a = b) : Ending.returned (.int k a) = .returned (.int k b) := by rw [h]
end Go.Proofs.YtaoggppfimfhbaaGreatDoor
namespace Go.Proofs.YtaoggppfimfhbaaGreatDoor
open Go Go.RowKit Go.Ix


structure Kept (K : Nat → Prop) (w w' : World) : Prop where
  os : w'.os = w.os
  tape : w'.tape = w.tape
  output : w'.output = w.output
  size : w.heap.size ≤ w'.heap.size
  block : ∀ k, K k → w'.heap[k]? = w.heap[k]?

variable {K K' : Nat → Prop} {a w w' W : World}

theorem Kept.refl (K : Nat → Prop) (w : World) : Kept K w w := ⟨rfl, rfl, rfl, Nat.le_refl _, fun _ _ => rfl⟩
theorem Kept.trans {b c : World} (h : Kept K a b) (k : Kept K b c) : Kept K a c :=
  ⟨k.os.trans h.os, k.tape.trans h.tape, k.output.trans h.output, Nat.le_trans h.size k.size, fun i hi => (k.block i hi).trans (h.block i hi)⟩
theorem Kept.mono (h : Kept K w w') (hK : ∀ k, K' k → K k) : Kept K' w w' := ⟨h.os, h.tape, h.output, h.size, fun k hk => h.block k (hK k hk)⟩
theorem Kept.below (h : Kept K w w') {B : Nat} (hK : ∀ k, k < B → K k) : Below B w w' := ⟨h.os, h.tape, h.output, h.size, fun k hk => h.block k (hK k hk)⟩
theorem Kept.of_below {B : Nat} (h : Below B w w') (hK : ∀ k, K k → k < B) : Kept K w w' := ⟨h.os, h.tape, h.output, h.size, fun k hk => h.block k (hK k hk)⟩
theorem Kept.alloc (h : Kept K a w) (hK : ∀ k, K k → k < a.heap.size) (o : Obj) : Kept K a (w.alloc o) :=
  h.trans ⟨rfl, rfl, rfl, by simp, fun k hk => Below.heap_alloc _ _ _ (Nat.lt_of_lt_of_le (hK k hk) h.size)⟩
theorem Kept.drewN (h : Kept K a w) (q : Nat) : Kept K a (w.drewN q) := h.trans ⟨rfl, rfl, rfl, Nat.le_refl _, fun _ _ => rfl⟩
theorem Kept.setCell (h : Kept K a w) {p : Addr} (hp : ¬ K p.block) (u : Value) : Kept K a (w.setCell p u) :=
  h.trans ⟨rfl, rfl, rfl, by simp [World.setCell], fun k hk => Below.heap_setCell _ _ _ _ (fun e => hp (e ▸ hk))⟩
theorem Kept.grown (h : Kept K a w) {row : Option Nat} (hg : w.grownBy w' row) (hK : ∀ k, K k → k < a.heap.size) (hr : ∀ k, row = some k → ¬ K k) : Kept K a w' :=
  h.trans ⟨hg.os, hg.tape, hg.output, hg.size, fun k hk => hg.block k (Nat.lt_of_lt_of_le (hK k hk) h.size) (fun e => hr k e.symm hk)⟩
theorem Kept.cell (h : Kept K w w') {p : Addr} (hp : K p.block) : w'.cell? p = w.cell? p := World.cell?_of_block (w := w) (h.block p.block hp)


def Olds (w W : World) : Prop := w.heap.size ≤ W.heap.size ∧ ∀ k, k < w.heap.size → W.heap[k]? = w.heap[k]?
theorem Olds.refl (w : World) : Olds w w := ⟨Nat.le_refl _, fun _ _ => rfl⟩
theorem Olds.of_below (h : Below w.heap.size w W) : Olds w W := ⟨h.size, h.block⟩
theorem Olds.trans {a b c : World} (h : Olds a b) (k : Olds b c) : Olds a c := ⟨Nat.le_trans h.1 k.1, fun i hi => (k.2 i (Nat.lt_of_lt_of_le hi h.1)).trans (h.2 i hi)⟩
theorem Olds.alloc (w : World) (o : Obj) : Olds w (w.alloc o) := Olds.of_below ((Below.refl _ _).alloc (Nat.le_refl _) _)
theorem Olds.drewN (w : World) (q : Nat) : Olds w (w.drewN q) := ⟨Nat.le_refl _, fun _ _ => rfl⟩
theorem Olds.cell (h : Olds w W) {a : Addr} {v : Value} (hc : w.cell? a = some v) : W.cell? a = some v := by
  rw [World.cell?_of_block (w := w) (w' := W) (h.2 _ (cell_lt hc))]
  exact hc
theorem CellsAt.olds {b off : Nat} {vs : List Value} (h : CellsAt w b off vs) (hb : Olds w W) : CellsAt W b off vs := fun j v hv => hb.cell (h j v hv)
theorem FlatAt.olds {v : Value} {n : Nat} {vs : List Value} (h : FlatAt w v n vs) (hb : Olds w W) : FlatAt W v n vs := by
  obtain ⟨o, c, h1, h2, h3⟩ := h
  exact ⟨o, c, h1, h2, fun hne => by obtain ⟨b, off, e, hc⟩ := h3 hne; exact ⟨b, off, e, hc.olds hb⟩⟩
theorem EntAt.olds {u : Value × Value} {e : Ent} (h : EntAt w u e) (hb : Olds w W) : EntAt W u e := ⟨FlatAt.olds h.1 hb, FlatAt.olds h.2 hb⟩
theorem EntsAt.olds {v : Value} {l : List Ent} (h : EntsAt w v l) (hb : Olds w W) : EntsAt W v l := by
  obtain ⟨vs, h1, h2, h3⟩ := h
  exact ⟨vs, h1, h2.olds hb, fun i u e hu he => (h3 i u e hu he).olds hb⟩

theorem ownsRow_blocks {B e k : Nat} {v : Value} {n : Nat} {xs : List Value} (h : w.ownsRow B e k v n xs) (hb : ∀ g, v.ownBlock = some g → W.heap[g]? = w.heap[g]?) : W.ownsRow B e k v n xs := by
  obtain ⟨h1, h2⟩ := h
  refine ⟨h1, ?_⟩
  rcases h2 with h2 | ⟨g, cap, cur, rfl, hb', hg, h3⟩
  · exact .inl h2
  · exact .inr ⟨g, cap, cur, rfl, hb', by rw [hb g rfl]; exact hg, h3⟩
theorem ownsRow_block {B e k : Nat} {v : Value} {n : Nat} {xs : List Value} (h : w.ownsRow B e k v n xs) {g : Nat} (hg : v.ownBlock = some g) : B ≤ g ∧ g < w.heap.size := by
  rcases h.2 with ⟨rfl, _⟩ | ⟨g', cap, cur, rfl, hb, hh, _⟩
  · cases hg
  · cases hg
    refine ⟨hb, ?_⟩
    rcases Nat.lt_or_ge g' w.heap.size with h | h
    · exact h
    · rw [Array.getElem?_eq_none h] at hh; cases hh
theorem ownsRow_olds {B e k : Nat} {v : Value} {n : Nat} {xs : List Value} (h : w.ownsRow B e k v n xs) (hb : Olds w W) : W.ownsRow B e k v n xs :=
  ownsRow_blocks h fun _ hg => hb.2 _ (ownsRow_block h hg).2
theorem ownsRow_kept {B e k : Nat} {v : Value} {n : Nat} {xs : List Value} (h : w.ownsRow B e k v n xs) (hb : Kept K w W) (hv : ∀ g, v.ownBlock = some g → K g) : W.ownsRow B e k v n xs :=
  ownsRow_blocks h fun g hg => hb.block g (hv g hg)
theorem ownsRow_mono {B B' e k : Nat} {v : Value} {n : Nat} {xs : List Value} (h : w.ownsRow B e k v n xs) (hB : B' ≤ B) : w.ownsRow B' e k v n xs := by
  obtain ⟨h1, h2⟩ := h
  refine ⟨h1, ?_⟩
  rcases h2 with h2 | ⟨g, cap, cur, e, hb', hg⟩
  · exact .inl h2
  · exact .inr ⟨g, cap, cur, e, by omega, hg⟩
theorem ownsRow_shape {B e k : Nat} {v : Value} {n : Nat} {xs : List Value} (h : w.ownsRow B e k v n xs) : ∃ o c, v = .slice o n c ∧ (o = none → n = 0 ∧ c = 0) := by
  rcases h.2 with ⟨e, h0⟩ | ⟨g, cap, cur, e, _⟩
  · exact ⟨none, 0, by rw [e, h0], fun _ => ⟨h0, rfl⟩⟩
  · exact ⟨_, _, e, fun e => by cases e⟩
theorem ownsRow_cell {B e k g n c : Nat} {xs : List Value} (h : w.ownsRow B e k (.slice (some ⟨g, 0, none⟩) n c) n xs) : CellsAt w g 0 xs := by
  intro j v hv
  rcases h.2 with ⟨e, _⟩ | ⟨g', cap, cur, e, _, hh, _, _, hs, ht⟩
  · cases e
  · simp only [Value.slice.injEq, Option.some.injEq, Addr.mk.injEq, and_true, true_and] at e
    obtain ⟨rfl, rfl⟩ := e
    rw [← ht] at hv
    have hj : j < n * k := by
      have := (List.getElem?_eq_some_iff.1 hv).1
      rw [List.length_take] at this
      omega
    rw [List.getElem?_take_of_lt hj] at hv
    rw [Nat.zero_add]
    simp only [World.cell?, hh]
    simpa using hv

def octs (bs : List Nat) : List Value := bs.map fun (n : Nat) => Value.int .u8 (n : Int)
theorem octs_append (a b : List Nat) : octs (a ++ b) = octs a ++ octs b := by simp [octs]
theorem octs_len (a : List Nat) : (octs a).length = a.length := by simp [octs]

def Row8 (w : World) (B : Nat) (v : Value) (bs : List Nat) : Prop := w.ownsRow B 5 1 v bs.length (octs bs)

def Free (K : Nat → Prop) (v : Value) : Prop := ∀ g, v.ownBlock = some g → ¬ K g

theorem Tryz.info5 : (Tryz.prog.info? 5).map (fun i => (i.zero, i.size, i.bytes)) = some (some (.int .u8 0), 1, 1) := by kernel_rfl


structure Buf (w : World) (B blk : Nat) (K : Nat → Prop) (sy nm : Value) (bs : List Nat) : Prop where
  lo : B ≤ blk
  out : ¬ K blk
  row : ∃ v, w.heap[blk]? = some (.cells #[v, sy, nm] 93 (0, 0)) ∧ Row8 w B v bs ∧ Free K v ∧ v.ownBlock ≠ some blk
end Go.Proofs.YtaoggppfimfhbaaGreatDoor
namespace Go.Proofs.YtaoggppfimfhbaaGreatDoor
open Go Go.RowKit Go.Ix

theorem low_step (k n : Nat) : low (k + 1) n = n % 256 :: low k (n / 256) := rfl

theorem buf_store {w : World} {B blk : Nat} {K : Nat → Prop} {sy nm v : Value} {bs : List Nat} {gg M cap : Nat} (hlo : B ≤ blk) (hout : ¬ K blk) (hb : w.heap[blk]? = some (.cells #[v, sy, nm] 93 (0, 0)))
    (hown : w.ownsRow B 5 1 (.slice (some ⟨gg, 0, none⟩) M cap) M (octs bs)) (hM : bs.length = M) (hg : ¬ K gg) (hgb : gg ≠ blk) : Buf (w.setCell ⟨blk, 0, none⟩ (.slice (some ⟨gg, 0, none⟩) M cap)) B blk K sy nm bs := by
  refine ⟨hlo, hout, .slice (some ⟨gg, 0, none⟩) M cap, ?_, ?_, ?_, ?_⟩
  · simp [World.setCell, Array.getElem?_modify, hb]
  · unfold Row8
    rw [hM]
    refine ownsRow_blocks hown fun g hg => ?_
    cases hg
    exact Below.heap_setCell _ _ _ _ hgb
  · intro g hg'
    cases hg'
    exact hg
  · intro e
    cases e
    exact hgb rfl

set_option maxRecDepth 20000 in
set_option maxHeartbeats 1000000 in
theorem low_any {w : World} {B blk : Nat} {K : Nat → Prop} {sy nm : Value} {bs : List Nat} (n many : Nat) (h : Buf w B blk K sy nm bs) (hK : ∀ k, K k → k < w.heap.size) (hB : B ≤ w.heap.size) (hn : n < 18446744073709551616) (hm : many ≤ 8) (hl : bs.length ≤ 100000000000) :
    Calls Tryz.prog 26 #[.pointer (some ⟨blk, 0, none⟩), .int .u64 n, .int .i64 many] w fun e w' => e = .returned (.tuple #[]) ∧ Buf w' B blk K sy nm (bs ++ low many n) ∧ Kept K w w' := by
  obtain ⟨i0, hi0, hz0, hz1, hz2⟩ := info_parts Tryz.info5
  have HK := Lib.hid hK
  have H := Lib.hid h
  clear hK h
  go_enter Tryz.func26, Tryz.ntmps26
  go_wp2_with fail
  go_loopw [1, 7] (fun nv iv wr => ∃ (k m : Nat) (ds : List Nat), k ≤ many ∧ iv = .int .i64 k ∧ nv = .int .u64 m ∧ m < 18446744073709551616 ∧ ds.length = k ∧ low many n = ds ++ low (many - k) m ∧ Buf wr B blk K sy nm (bs ++ ds) ∧ Kept K w wr) (fun _ iv _ => many - (intOf iv).toNat)
  case atStart => exact ⟨0, n, [], Nat.zero_le _, rfl, rfl, hn, rfl, rfl, by rw [List.append_nil]; exact H.out, Kept.refl _ _⟩
  case round =>
    obtain ⟨k, m, ds, hk, rfl, rfl, hm64, hdl, hlow, hbuf, hkept⟩ := hrel
    have Hlow := Lib.hid hlow
    have Hkept := Lib.hid hkept
    have Hbuf := Lib.hid hbuf
    obtain ⟨hlo, hout, v, hh, hrow, hfree, hne⟩ := hbuf
    have hlt' : blk < wr.heap.size := by
      rcases Nat.lt_or_ge blk wr.heap.size with h | h
      · exact h
      · rw [Array.getElem?_eq_none h] at hh; cases hh
    have hsz := hkept.size
    have hc : wr.cell? ⟨blk, 0, none⟩ = some v := by simp [World.cell?, hh]
    have hf : wr.frozen? ⟨blk, 0, none⟩ = false := by simp [World.frozen?, hh]
    unfold Row8 at hrow
    obtain ⟨o, c, rfl, _⟩ := ownsRow_shape hrow
    have Hrow := Lib.hid hrow
    have Hh := Lib.hid hh
    have Hfree := Lib.hid hfree
    have Hne := Lib.hid hne
    have hbl : (bs ++ ds).length = bs.length + k := by rw [List.length_append, hdl]
    clear hlow hkept hrow hh hfree hne
    generalize hN : (bs ++ ds).length = N at *
    have HN := Lib.hid hN
    have hNb : N ≤ 100000000008 := by omega
    clear hN hbl
    by_cases hlt : k < many
    · go_wp2_with (at_builtin; refine wpList_append_lies _ rfl _ _ _ rfl B 5 i0 _ 1 1 Tryz.underlying25 hi0 hz0 hz1 hz2 rfl Nat.one_pos (.slice o N c) N (octs (bs ++ ds)) rfl (ownsRow_olds Hrow.out (Olds.alloc _ _)) ⟨wr.heap.size, 0, none⟩ 1 1 [.int .u8 ((m : Int) % 256)] rfl rfl (World.news_of_block (cs := #[.int .u8 ((m : Int) % 256)]) (t := 5) (fr := (0, 0)) (heap_alloc_new wr _)) (by simp [Value.oneCell']) Nat.one_pos (by unfold maxLen; omega) (by omega) (by simp; omega) (wr.heap.size + 1) (by simp) ?_; intro gg cap2 w4 hown4 hgrow hat hlt4; have hb4 : w4.heap[blk]? = some (.cells #[.slice o N c, sy, nm] 93 (0, 0)) := ((hgrow.block blk (by simp; omega) (fun e => Hne.out e.symm)).trans ((Olds.alloc wr _).2 blk hlt')).trans Hh.out; have hc4 : w4.cell? ⟨blk, 0, none⟩ = some (.slice o N c) := (by simp [World.cell?, hb4]); have hf4 : w4.frozen? ⟨blk, 0, none⟩ = false := (by simp [World.frozen?, hb4]))
      have Hg : Hid (¬ K gg ∧ gg ≠ blk) := Lib.hid (by
        rcases hat with e | e
        · exact ⟨Hfree.out gg e, fun h => Hne.out (h ▸ e)⟩
        · exact ⟨fun h => by have := HK.out gg h; omega, by omega⟩)
      have Hnew : Hid (Buf (w4.setCell ⟨blk, 0, none⟩ (.slice (some ⟨gg, 0, none⟩) (N + 1) cap2)) B blk K sy nm (bs ++ (ds ++ [m % 256]))) := Lib.hid (buf_store hlo hout hb4 (by
        rw [← List.append_assoc, octs_append]
        exact hown4) (by rw [← List.append_assoc, List.length_append, HN.out]; rfl) Hg.out.1 Hg.out.2)
      have Hk4 : Hid (Kept K w (w4.setCell ⟨blk, 0, none⟩ (.slice (some ⟨gg, 0, none⟩) (N + 1) cap2))) := Lib.hid
        (((Hkept.out.alloc HK.out _).grown hgrow HK.out Hfree.out).setCell hout _)
      go_roundw
      case rel => exact ⟨k + 1, m / 256, ds ++ [m % 256], by omega, by go_num, by congr 1, by omega, by rw [List.length_append, hdl]; rfl, by
        rw [Hlow.out, show many - k = (many - (k + 1)) + 1 by omega, low_step, List.append_assoc]
        rfl, Hnew.out, Hk4.out⟩
      case measure => simp [intOf]; omega
    · go_wp2_with fail
      go_end0
      obtain rfl : k = many := by omega
      refine ⟨rfl, ?_, Hkept.out⟩
      have := Hlow.out
      rw [Nat.sub_self] at this
      rw [this]
      show Buf wr B blk K sy nm (bs ++ (ds ++ []))
      rw [List.append_nil]
      exact Hbuf.out

set_option maxHeartbeats 400000 in
theorem count_any {w : World} {B blk : Nat} {K : Nat → Prop} {sy nm : Value} {bs : List Nat} (n : Nat) (h : Buf w B blk K sy nm bs) (hK : ∀ k, K k → k < w.heap.size) (hB : B ≤ w.heap.size) (hn : n < 9223372036854775808) (hl : bs.length ≤ 100000000000) :
    Calls Tryz.prog 23 #[.pointer (some ⟨blk, 0, none⟩), .int .i64 n] w fun e w' => e = .returned (.tuple #[]) ∧ Buf w' B blk K sy nm (bs ++ low 4 n) ∧ Kept K w w' := by
  have H := Lib.hid (low_any n 4 h hK hB (by omega) (by decide) hl)
  clear h hK
  go_enter Tryz.func23, Tryz.ntmps23
  go_wp2_with (go_at_call 26; refine H.out.mono ?_; rintro e w' ⟨rfl, h1, h2⟩; have H1 := Lib.hid h1; have H2 := Lib.hid h2; clear h1 h2)
  go_end0
  exact ⟨rfl, H1.out, H2.out⟩

set_option maxRecDepth 20000 in
set_option maxHeartbeats 1000000 in
theorem put_any {w : World} {B : Nat} {K : Nat → Prop} {v : Value} {bs : List Nat} (n many : Nat) (h : Row8 w B v bs) (hfr : Free K v) (hK : ∀ k, K k → k < w.heap.size) (hB : B ≤ w.heap.size) (hn : n < 18446744073709551616) (hm : many ≤ 8) (hl : bs.length ≤ 100000000000) :
    Calls Tryz.prog 34 #[v, .int .u64 n, .int .i64 many] w fun e w' => ∃ v', e = .returned v' ∧ Row8 w' B v' (bs ++ low many n) ∧ Free K v' ∧ Kept K w w' := by
  obtain ⟨i0, hi0, hz0, hz1, hz2⟩ := info_parts Tryz.info5
  have HK := Lib.hid hK
  have H := Lib.hid h
  have HF := Lib.hid hfr
  obtain ⟨o, c, rfl, _⟩ := ownsRow_shape h
  clear hK h hfr
  generalize hN0 : bs.length = N0 at *
  have HN0 := Lib.hid hN0
  clear hN0
  go_enter Tryz.func34, Tryz.ntmps34
  go_wp2_with fail
  go_loopw [0, 1, 7] (fun sv nv iv wr => ∃ (k m : Nat) (ds : List Nat), k ≤ many ∧ iv = .int .i64 k ∧ nv = .int .u64 m ∧ m < 18446744073709551616 ∧ ds.length = k ∧ low many n = ds ++ low (many - k) m ∧ Row8 wr B sv (bs ++ ds) ∧ Free K sv ∧ Kept K w wr) (fun _ _ iv _ => many - (intOf iv).toNat)
  case atStart => exact ⟨0, n, [], Nat.zero_le _, rfl, rfl, hn, rfl, rfl, by rw [List.append_nil]; exact H.out, HF.out, Kept.refl _ _⟩
  case round =>
    obtain ⟨k, m, ds, hk, rfl, rfl, hm64, hdl, hlow, hrow, hfree, hkept⟩ := hrel
    have Hlow := Lib.hid hlow
    have Hkept := Lib.hid hkept
    have Hrow8 := Lib.hid hrow
    have hsz := hkept.size
    unfold Row8 at hrow
    obtain ⟨o, c, rfl, _⟩ := ownsRow_shape hrow
    have Hrow := Lib.hid hrow
    have Hfree := Lib.hid hfree
    have hbl : (bs ++ ds).length = N0 + k := by rw [List.length_append, hdl, HN0.out]
    clear hlow hkept hrow hfree
    generalize hN : (bs ++ ds).length = N at *
    have HN := Lib.hid hN
    have hNb : N ≤ 100000000008 := by omega
    clear hN hbl
    by_cases hlt : k < many
    · go_wp2_with (at_builtin; refine wpList_append_lies _ rfl _ _ _ rfl B 5 i0 _ 1 1 Tryz.underlying25 hi0 hz0 hz1 hz2 rfl Nat.one_pos (.slice o N c) N (octs (bs ++ ds)) rfl (ownsRow_olds Hrow.out (Olds.alloc _ _)) ⟨wr.heap.size, 0, none⟩ 1 1 [.int .u8 ((m : Int) % 256)] rfl rfl (World.news_of_block (cs := #[.int .u8 ((m : Int) % 256)]) (t := 5) (fr := (0, 0)) (heap_alloc_new wr _)) (by simp [Value.oneCell']) Nat.one_pos (by unfold maxLen; omega) (by omega) (by simp; omega) (wr.heap.size + 1) (by simp) ?_; intro gg cap2 w4 hown4 hgrow hat hlt4)
      have Hg : Hid (Free K (.slice (some ⟨gg, 0, none⟩) (N + 1) cap2)) := Lib.hid (by
        intro g hg
        cases hg
        rcases hat with e | e
        · exact Hfree.out gg e
        · exact fun h => by have := HK.out gg h; omega)
      have Hnew : Hid (Row8 w4 B (.slice (some ⟨gg, 0, none⟩) (N + 1) cap2) (bs ++ (ds ++ [m % 256]))) := Lib.hid (by
        unfold Row8
        rw [← List.append_assoc, octs_append, List.length_append, HN.out]
        exact hown4)
      have Hk4 : Hid (Kept K w w4) := Lib.hid ((Hkept.out.alloc HK.out _).grown hgrow HK.out Hfree.out)
      go_roundw
      case rel => exact ⟨k + 1, m / 256, ds ++ [m % 256], by omega, by go_num, by congr 1, by omega, by rw [List.length_append, hdl]; rfl, by
        rw [Hlow.out, show many - k = (many - (k + 1)) + 1 by omega, low_step, List.append_assoc]
        rfl, Hnew.out, Hg.out, Hk4.out⟩
      case measure => simp [intOf]; omega
    · go_wp2_with fail
      go_ret
      obtain rfl : k = many := by omega
      have he : bs ++ low k n = bs ++ ds := by
        have := Hlow.out
        rw [Nat.sub_self] at this
        rw [this]
        show bs ++ (ds ++ []) = _
        rw [List.append_nil]
      rw [he]
      exact ⟨_, rfl, Hrow8.out, Hfree.out, Hkept.out⟩
end Go.Proofs.YtaoggppfimfhbaaGreatDoor
namespace Go.Proofs.YtaoggppfimfhbaaGreatDoor
open Go Go.RowKit Go.Ix

def BytesAt (w : World) (v : Value) (bs : List Nat) : Prop := FlatAt w v bs.length (octs bs)

set_option maxRecDepth 20000 in
set_option maxHeartbeats 1000000 in
theorem rmore_cells (b off c : Nat) (bs : List Nat) (w : World) (hm : bs.length ≤ 100000000000) (hc : CellsAt w b off (octs bs)) (h8 : ∀ x ∈ bs, x < 256) :
    Calls Tryz.prog 96 #[.int .u32 0, .slice (some ⟨b, off, none⟩) bs.length c] w fun e w' => e = .returned (.int .u32 (crc bs)) ∧ w = w' := by
  have Hc := Lib.hid hc
  have H8 := Lib.hid h8
  clear hc h8
  generalize hn : bs.length = n at *
  have Hn := Lib.hid hn
  clear hn
  have hsg : IntKind.u32.signed = false := rfl
  have e0 : bits .xor .u32 IntKind.u32.max 0 = 4294967295 := by decide +kernel
  go_enter Tryz.func96, Tryz.ntmps96
  go_wp2_with fail
  go_loop [5, 6] (fun dv iv => ∃ (k d : Nat), k ≤ n ∧ iv = .int .i64 k ∧ dv = .int .u32 d ∧ d < 4294967296 ∧ Crc.feed 4294967295 (bs.take k) = d) (fun _ iv => n - (intOf iv).toNat)
  case atStart => exact ⟨0, 4294967295, Nat.zero_le _, rfl, rfl, by decide, rfl⟩
  case round =>
    obtain ⟨k, d, hk, rfl, rfl, hd, hfeed⟩ := hrel
    have Hfeed := Lib.hid hfeed
    clear hfeed
    by_cases hlt : k < n
    · obtain ⟨x, hx⟩ : ∃ x, bs[k]? = some x := ⟨_, List.getElem?_eq_getElem (by rw [Hn.out]; exact hlt)⟩
      have hx8 := H8.out x (List.mem_of_getElem? hx)
      have hck : w.cell? ⟨b, off + k, none⟩ = some (.int .u8 (x : Int)) := Hc.out k _ (by simp [octs, hx])
      have ex : bits .xor .u32 (d : Int) (x : Int) = ((d ^^^ x : Nat) : Int) := bits_xor_u32 d x hd (by omega)
      have hq : d ^^^ x < 4294967296 := Nat.xor_lt_two_pow (n := 32) hd (by omega)
      have Hx := Lib.hid hx
      clear hx
      generalize hy : d ^^^ x = y at *
      have Hy := Lib.hid hy
      clear hy
      go_wp2_with fail
      go_loop [5, 7] (fun nv jv => ∃ (j m : Nat), j ≤ 8 ∧ jv = .int .i64 j ∧ nv = .int .u32 m ∧ m < 4294967296 ∧ Crc.bits (8 - j) m = Crc.bits 8 y) (fun _ jv => 8 - (intOf jv).toNat)
      case atStart => exact ⟨0, y, by decide, rfl, rfl, hq, rfl⟩
      case round =>
        obtain ⟨j, m, hj, rfl, rfl, hm32, hb⟩ := hrel
        have Hb := Lib.hid hb
        clear hb
        have ea : bits .and .u32 (m : Int) 1 = ((m % 2 : Nat) : Int) := by
          rw [← and1]
          exact bits_and_u32 m 1 hm32 (by decide)
        have exx : bits .xor .u32 ((m : Int) / 2) 2197175160 = ((m / 2 ^^^ Crc.poly : Nat) : Int) := by
          have := bits_xor_u32 (m / 2) 2197175160 (by omega) (by decide)
          rwa [show ((m / 2 : Nat) : Int) = (m : Int) / 2 by omega] at this
        have hl2 : m / 2 ^^^ Crc.poly < 4294967296 := Nat.xor_lt_two_pow (n := 32) (by omega) (by decide)
        by_cases hj8 : j < 8
        · by_cases ho : m % 2 = 1
          · have hoz : ((m % 2 : Nat) : Int) = 1 := by omega
            rw [hoz] at ea
            have Ho := Lib.hid ho
            clear ho hoz
            go_wp2_with fail
            go_round
            case rel => exact ⟨j + 1, m / 2 ^^^ Crc.poly, by omega, by go_num, rfl, hl2, by
              rw [← Hb.out, show 8 - j = (8 - (j + 1)) + 1 by omega]
              show _ = Crc.bits _ (Crc.bit m)
              unfold Crc.bit
              rw [if_pos Ho.out]⟩
            case measure => simp [intOf]; omega
          · have hoz : ((m % 2 : Nat) : Int) = 0 := by omega
            rw [hoz] at ea
            have Ho := Lib.hid ho
            clear ho hoz
            go_wp2_with fail
            go_round
            case rel => exact ⟨j + 1, m / 2, by omega, by go_num, by congr 1, by omega, by
              rw [← Hb.out, show 8 - j = (8 - (j + 1)) + 1 by omega]
              show _ = Crc.bits _ (Crc.bit m)
              unfold Crc.bit
              rw [if_neg Ho.out, Nat.xor_zero]⟩
            case measure => simp [intOf]; omega
        · obtain rfl : j = 8 := by omega
          go_wp2_with fail
          go_round
          case rel => exact ⟨k + 1, m, by omega, by go_num, rfl, hm32, by
            rw [List.take_add_one, Hx.out]
            show Crc.feed 4294967295 (bs.take k ++ [x]) = m
            rw [feed_snoc, Hfeed.out, Hy.out]
            exact Hb.out.symm⟩
          case measure => simp [intOf]; omega
    · have en : bits .xor .u32 IntKind.u32.max (d : Int) = ((4294967295 ^^^ d : Nat) : Int) := not_u32 d hd
      have He : Hid (crc bs = 4294967295 ^^^ d) := Lib.hid (by
        unfold crc
        rw [← Hfeed.out, List.take_of_length_le (by rw [Hn.out]; omega)])
      go_wp2_with fail
      go_ret
      exact ⟨by rw [He.out]; rfl, rfl⟩

set_option maxHeartbeats 400000 in
theorem rmore_empty (o : Option Addr) (c : Nat) (w : World) : Calls Tryz.prog 96 #[.int .u32 0, .slice o 0 c] w fun e w' => e = .returned (.int .u32 (crc [])) ∧ w = w' := by
  have hsg : IntKind.u32.signed = false := rfl
  have e0 : bits .xor .u32 IntKind.u32.max 0 = 4294967295 := by decide +kernel
  have e1 : bits .xor .u32 IntKind.u32.max 4294967295 = 0 := by decide +kernel
  have He : Hid (crc [] = 0) := Lib.hid (by decide +kernel)
  go_enter Tryz.func96, Tryz.ntmps96
  go_wp2_with fail
  go_loop [5, 6] (fun dv iv => dv = .int .u32 4294967295 ∧ iv = .int .i64 0) (fun _ _ => 0)
  case atStart => exact ⟨rfl, rfl⟩
  case round =>
    obtain ⟨rfl, rfl⟩ := hrel
    go_wp2_with fail
    go_ret
    exact ⟨by rw [He.out]; rfl, rfl⟩

set_option maxHeartbeats 400000 in
theorem rsum_any {w : World} {v : Value} {bs : List Nat} (h : BytesAt w v bs) (hm : bs.length ≤ 100000000000) (h8 : ∀ x ∈ bs, x < 256) : Calls Tryz.prog 37 #[v] w fun e w' => e = .returned (.int .u32 (crc bs)) ∧ w = w' := by
  have HM : Hid (Calls Tryz.prog 96 #[.int .u32 0, v] w fun e w' => e = .returned (.int .u32 (crc bs)) ∧ w = w') := Lib.hid (by
    rcases h.cases with ⟨o, c, rfl, h1, _⟩ | ⟨b, off, c, rfl, _, hc⟩
    · have : bs = [] := by
        cases bs with
        | nil => rfl
        | cons _ _ => simp [octs] at h1
      subst this
      exact rmore_empty o c w
    · exact rmore_cells b off c bs w hm hc h8)
  clear h h8
  generalize crc bs = r at *
  go_enter Tryz.func37, Tryz.ntmps37
  go_wp2_with (go_at_call 96; refine HM.out.mono ?_; rintro e w' ⟨rfl, rfl⟩)
  go_ret
  exact ⟨rfl, rfl⟩
end Go.Proofs.YtaoggppfimfhbaaGreatDoor
namespace Go.Proofs.YtaoggppfimfhbaaGreatDoor
open Go Go.RowKit Go.Ix

def half : Array Value := ((List.range 16).map fun i => Value.int .u32 (Crc.bits 4 i : Nat)).toArray
def HalfOk : Prop := ∀ W : World, 8 ≤ W.heap.size → Calls Tryz.prog 120 #[] W fun e W' => e = .returned (.agg half) ∧ Below W.heap.size W W'
theorem half_at {i : Nat} (h : i < 16) : half[i]? = some (.int .u32 (Crc.bits 4 i : Nat)) := by
  simp [half, h]

set_option maxRecDepth 20000 in
set_option maxHeartbeats 1000000 in
theorem more_cells (hH : HalfOk) (b off c : Nat) (bs : List Nat) (w : World) (hw : 8 ≤ w.heap.size) (hm : bs.length ≤ 100000000000) (hc : CellsAt w b off (octs bs)) (h8 : ∀ x ∈ bs, x < 256) :
    Calls Tryz.prog 91 #[.int .u32 0, .slice (some ⟨b, off, none⟩) bs.length c] w fun e w' => e = .returned (.int .u32 (crc bs)) ∧ Below w.heap.size w w' := by
  have Hc := Lib.hid hc
  have H8 := Lib.hid h8
  have HH := Lib.hid (hH w hw)
  clear hc h8 hH
  generalize hn : bs.length = n at *
  have Hn := Lib.hid hn
  clear hn
  have hsg : IntKind.u32.signed = false := rfl
  have e0 : bits .xor .u32 IntKind.u32.max 0 = 4294967295 := by decide +kernel
  have Hc1 : ∀ W, Below w.heap.size w W → Hid (CellsAt W b off (octs bs)) := fun W hb => Lib.hid (Hc.out.keep hb)
  obtain ⟨t0, t1, t2, t3, t4, t5, t6, t7, t8, t9, t10, t11, t12, t13, t14, t15, ht⟩ : ∃ t0 t1 t2 t3 t4 t5 t6 t7 t8 t9 t10 t11 t12 t13 t14 t15 : Nat, half = #[.int .u32 (t0 : Int), .int .u32 (t1 : Int), .int .u32 (t2 : Int), .int .u32 (t3 : Int), .int .u32 (t4 : Int), .int .u32 (t5 : Int), .int .u32 (t6 : Int), .int .u32 (t7 : Int), .int .u32 (t8 : Int), .int .u32 (t9 : Int), .int .u32 (t10 : Int), .int .u32 (t11 : Int), .int .u32 (t12 : Int), .int .u32 (t13 : Int), .int .u32 (t14 : Int), .int .u32 (t15 : Int)] := ⟨_, _, _, _, _, _, _, _, _, _, _, _, _, _, _, _, rfl⟩
  have Ht := Lib.hid ht
  rw [ht] at HH
  clear ht
  go_enter Tryz.func91, Tryz.ntmps91
  go_wp2_with (go_at_call 120; refine HH.out.mono ?_; rintro e w1 ⟨rfl, hb⟩; have B1 := Lib.hid hb; clear hb)
  have hsz1 := B1.out.size
  go_loopw [6, 8, 14] (fun dv xv iv wr => ∃ (k d : Nat), k ≤ n ∧ iv = .int .i64 k ∧ dv = .int .u32 d ∧ d < 4294967296 ∧ Crc.feed 4294967295 (bs.take k) = d ∧ wr.heap[w1.heap.size]? = some (.cells half 264 (0, 0)) ∧ Below w.heap.size w wr) (fun _ _ iv _ => n - (intOf iv).toNat)
  case atStart =>
    refine ⟨0, 4294967295, Nat.zero_le _, rfl, rfl, by decide, rfl, ?_, ?_⟩
    · rw [Ht.out]
      exact heap_alloc_new _ _
    · exact B1.out.alloc hsz1 _
  case round =>
    obtain ⟨k, d, hk, rfl, rfl, hd, hfeed, hhp, hbw⟩ := hrel
    have Hfeed := Lib.hid hfeed
    have Hbw := Lib.hid hbw
    have Hhp := Lib.hid hhp
    clear hfeed hbw hhp
    by_cases hlt : k < n
    · obtain ⟨x, hx⟩ : ∃ x, bs[k]? = some x := ⟨_, List.getElem?_eq_getElem (by rw [Hn.out]; exact hlt)⟩
      have hx8 := H8.out x (List.mem_of_getElem? hx)
      have hck : wr.cell? ⟨b, off + k, none⟩ = some (.int .u8 (x : Int)) := (Hc1 wr Hbw.out).out k _ (by simp [octs, hx])
      have ex : bits .xor .u32 (d : Int) (x : Int) = ((d ^^^ x : Nat) : Int) := bits_xor_u32 d x hd (by omega)
      have hq : d ^^^ x < 4294967296 := Nat.xor_lt_two_pow (n := 32) hd (by omega)
      have Hx := Lib.hid hx
      clear hx
      generalize hy : d ^^^ x = y at *
      have Hy := Lib.hid hy
      clear hy
      have step : ∀ y : Nat, y < 4294967296 → ∃ a b : Nat, a < 16 ∧ bits .and .u32 (y : Int) 15 = (a : Int) ∧ wr.cell? ⟨w1.heap.size, a, none⟩ = some (.int .u32 (b : Int)) ∧ bits .xor .u32 ((y : Int) / 16) (b : Int) = (Crc.bits 4 y : Nat) ∧ Crc.bits 4 y < 4294967296 := fun y hy => by
        refine ⟨y % 16, Crc.bits 4 (y % 16), Nat.mod_lt _ (by decide), ?_, ?_, ?_, bits_lt 4 hy⟩
        · rw [← and15]
          exact bits_and_u32 y 15 hy (by decide)
        · have h9 := half_at (i := y % 16) (Nat.mod_lt _ (by decide))
          simp [World.cell?, Hhp.out, h9]
        · have := bits_xor_u32 (y / 16) (Crc.bits 4 (y % 16)) (by omega) (bits_lt 4 (by omega))
          rw [show ((y / 16 : Nat) : Int) = (y : Int) / 16 by omega] at this
          rw [this]
          exact congrArg _ (Crc.half_step y).symm
      obtain ⟨a1, b1, ha1, ea1, hc1, ex1, hl1⟩ := step y hq
      obtain ⟨a2, b2, ha2, ea2, hc2, ex2, hl2⟩ := step _ hl1
      have Hb8 : Hid (Crc.bits 8 y = Crc.bits 4 (Crc.bits 4 y)) := Lib.hid (Crc.bits_add 4 4 y)
      clear step
      generalize Crc.bits 4 (Crc.bits 4 y) = y2 at *
      generalize Crc.bits 4 y = y1 at *
      go_wp2_with fail
      go_roundw
      case rel => exact ⟨k + 1, y2, by omega, by go_num, rfl, hl2, by
        rw [List.take_add_one, Hx.out]
        show Crc.feed 4294967295 (bs.take k ++ [x]) = y2
        rw [feed_snoc, Hfeed.out, Hy.out]
        exact Hb8.out, Hhp.out, Hbw.out⟩
      case measure => simp [intOf]; omega
    · have en : bits .xor .u32 IntKind.u32.max (d : Int) = ((4294967295 ^^^ d : Nat) : Int) := not_u32 d hd
      have He : Hid (crc bs = 4294967295 ^^^ d) := Lib.hid (by
        unfold crc
        rw [← Hfeed.out, List.take_of_length_le (by rw [Hn.out]; omega)])
      go_wp2_with fail
      go_ret
      exact ⟨by rw [He.out]; rfl, Hbw.out⟩

set_option maxRecDepth 20000 in
set_option maxHeartbeats 1000000 in
theorem more_empty (hH : HalfOk) (o : Option Addr) (c : Nat) (w : World) (hw : 8 ≤ w.heap.size) : Calls Tryz.prog 91 #[.int .u32 0, .slice o 0 c] w fun e w' => e = .returned (.int .u32 (crc [])) ∧ Below w.heap.size w w' := by
  have HH := Lib.hid (hH w hw)
  clear hH
  have hsg : IntKind.u32.signed = false := rfl
  have e0 : bits .xor .u32 IntKind.u32.max 0 = 4294967295 := by decide +kernel
  have e1 : bits .xor .u32 IntKind.u32.max 4294967295 = 0 := by decide +kernel
  have He : Hid (crc [] = 0) := Lib.hid (by decide +kernel)
  obtain ⟨t0, t1, t2, t3, t4, t5, t6, t7, t8, t9, t10, t11, t12, t13, t14, t15, ht⟩ : ∃ t0 t1 t2 t3 t4 t5 t6 t7 t8 t9 t10 t11 t12 t13 t14 t15 : Nat, half = #[.int .u32 (t0 : Int), .int .u32 (t1 : Int), .int .u32 (t2 : Int), .int .u32 (t3 : Int), .int .u32 (t4 : Int), .int .u32 (t5 : Int), .int .u32 (t6 : Int), .int .u32 (t7 : Int), .int .u32 (t8 : Int), .int .u32 (t9 : Int), .int .u32 (t10 : Int), .int .u32 (t11 : Int), .int .u32 (t12 : Int), .int .u32 (t13 : Int), .int .u32 (t14 : Int), .int .u32 (t15 : Int)] := ⟨_, _, _, _, _, _, _, _, _, _, _, _, _, _, _, _, rfl⟩
  rw [ht] at HH
  clear ht
  go_enter Tryz.func91, Tryz.ntmps91
  go_wp2_with (go_at_call 120; refine HH.out.mono ?_; rintro e w1 ⟨rfl, hb⟩; have B1 := Lib.hid hb; clear hb)
  have hsz1 := B1.out.size
  go_loopw [6, 14] (fun dv iv wr => dv = .int .u32 4294967295 ∧ iv = .int .i64 0 ∧ Below w.heap.size w wr) (fun _ _ _ => 0)
  case atStart =>
    refine ⟨rfl, rfl, ?_⟩
    exact B1.out.alloc hsz1 _
  case round =>
    obtain ⟨rfl, rfl, hbw⟩ := hrel
    have Hbw := Lib.hid hbw
    clear hbw
    go_wp2_with fail
    go_ret
    exact ⟨by rw [He.out]; rfl, Hbw.out⟩

set_option maxHeartbeats 400000 in
theorem sum_any (hH : HalfOk) {w : World} {v : Value} {bs : List Nat} (hw : 8 ≤ w.heap.size) (h : BytesAt w v bs) (hm : bs.length ≤ 100000000000) (h8 : ∀ x ∈ bs, x < 256) : Calls Tryz.prog 27 #[v] w fun e w' => e = .returned (.int .u32 (crc bs)) ∧ Below w.heap.size w w' := by
  have HM : Hid (Calls Tryz.prog 91 #[.int .u32 0, v] w fun e w' => e = .returned (.int .u32 (crc bs)) ∧ Below w.heap.size w w') := Lib.hid (by
    rcases h.cases with ⟨o, c, rfl, h1, _⟩ | ⟨b, off, c, rfl, _, hc⟩
    · have : bs = [] := by
        cases bs with
        | nil => rfl
        | cons _ _ => simp [octs] at h1
      subst this
      exact more_empty hH o c w hw
    · exact more_cells hH b off c bs w hw hm hc h8)
  clear h h8 hH
  generalize crc bs = r at *
  go_enter Tryz.func27, Tryz.ntmps27
  go_wp2_with (go_at_call 91; refine HM.out.mono ?_; rintro e w' ⟨rfl, hb⟩; have Hb := Lib.hid hb; clear hb)
  go_ret
  exact ⟨rfl, Hb.out⟩
end Go.Proofs.YtaoggppfimfhbaaGreatDoor
namespace Go.Proofs.YtaoggppfimfhbaaGreatDoor
open Go Go.RowKit Go.Ix


def Says (p : Prop) (e : Ending) : Prop := (e = .returned (.bool true) ∧ p) ∨ (e = .returned (.bool false) ∧ ¬ p)

theorem name_no {s : Txt} {k : Nat} {c : UInt8} (hc : s[k]? = some c) (h : okAt k c = false) : ¬ NameOk s := fun hn => by
  have := hn.2.2 k c hc
  rw [h] at this
  cases this
theorem name_step {s : Txt} {k : Nat} {c : UInt8} (hc : s[k]? = some c) (h : okAt k c = true) (hok : ∀ i c, i < k → s[i]? = some c → okAt i c = true) : ∀ i c, i < k + 1 → s[i]? = some c → okAt i c = true := fun i d hi hd => by
  by_cases hik : i < k
  · exact hok i d hik hd
  · obtain rfl : i = k := by omega
    rw [hc] at hd
    cases hd
    exact h

set_option maxRecDepth 20000 in
set_option maxHeartbeats 2000000 in
theorem rname_any (s : Txt) (w : World) (hm : s.length ≤ 1000000000) : Calls Tryz.prog 121 #[encStr s] w fun e w' => Says (NameOk s) e ∧ w = w' := by
  by_cases h1 : 1 ≤ s.length
  · by_cases h2 : s.length ≤ 1024
    · go_enter Tryz.func121, Tryz.ntmps121
      go_wp2_with fail
      go_loop [3] (fun iv => ∃ k : Nat, k ≤ s.length ∧ iv = .int .i64 k ∧ ∀ i c, i < k → s[i]? = some c → okAt i c = true) (fun iv => s.length - (intOf iv).toNat)
      case atStart => exact ⟨0, Nat.zero_le _, rfl, fun i c h => by omega⟩
      case round =>
        obtain ⟨k, hk, rfl, hok⟩ := hrel
        have Hok := Lib.hid hok
        clear hok
        by_cases hlt : k < s.length
        · obtain ⟨c, hc⟩ : ∃ c, s[k]? = some c := ⟨_, List.getElem?_eq_getElem hlt⟩
          have hget : ∀ h, (⟨s.toArray⟩ : ByteArray)[k]'h = c := fun h => (List.getElem?_eq_some_iff.1 hc).2
          have Hc := Lib.hid hc
          clear hc
          by_cases h0 : k = 0
          · subst h0
            go_wp2_with fail
            all_goals (try (rename_i hx; simp at hx))
            all_goals first
              | (exfalso; omega)
              | (go_round
                 case rel => exact ⟨0 + 1, by omega, by go_num, name_step Hc.out (by simp [okAt, letter, digit]; omega) Hok.out⟩
                 case measure => simp [intOf]; omega)
              | (go_ret; exact ⟨.inr ⟨rfl, name_no Hc.out (by simp [okAt, letter, digit]; omega)⟩, rfl⟩)
              | (go_ret
                 refine ⟨.inr ⟨rfl, name_no Hc.out ?_⟩, rfl⟩
                 rename_i hy _ _ _
                 simp at hy
                 simp [okAt, letter, digit]
                 omega)
          · go_wp2_with fail
            all_goals (try (rename_i hx; simp at hx))
            all_goals first
              | (exfalso; omega)
              | (go_round
                 case rel => exact ⟨k + 1, by omega, by go_num, name_step Hc.out (by simp [okAt, letter, digit]; omega) Hok.out⟩
                 case measure => simp [intOf]; omega)
              | (go_ret; exact ⟨.inr ⟨rfl, name_no Hc.out (by simp [okAt, letter, digit]; omega)⟩, rfl⟩)
              | (go_ret
                 refine ⟨.inr ⟨rfl, name_no Hc.out ?_⟩, rfl⟩
                 rename_i hy _ _ _
                 simp at hy
                 simp [okAt, letter, digit]
                 omega)
        · go_wp2_with fail
          go_ret
          exact ⟨.inl ⟨rfl, h1, h2, fun i c hc => Hok.out i c (by have := (List.getElem?_eq_some_iff.1 hc).1; omega) hc⟩, rfl⟩
    · go_enter Tryz.func121, Tryz.ntmps121
      go_wp2_with fail
      go_ret
      exact ⟨.inr ⟨rfl, fun h => h2 h.2.1⟩, rfl⟩
  · go_enter Tryz.func121, Tryz.ntmps121
    go_wp2_with fail
    go_ret
    exact ⟨.inr ⟨rfl, fun h => h1 h.1⟩, rfl⟩
end Go.Proofs.YtaoggppfimfhbaaGreatDoor
namespace Go.Proofs.YtaoggppfimfhbaaGreatDoor
open Go Go.RowKit Go.Ix

theorem lbl_cells {w : World} {b off : Nat} {l : List Lbl} (h : CellsAt w b off (l.flatMap lblCells)) {k : Nat} {y : Lbl} (hk : l[k]? = some y) :
    w.cell? ⟨b, off + k * 2, none⟩ = some (encStr y.1) ∧ w.cell? ⟨b, off + k * 2 + 1, none⟩ = some (encStr y.2) :=
  ⟨h.elem (k := 2) (i := 0) (fun _ => rfl) hk rfl, h.elem (k := 2) (i := 1) (fun _ => rfl) hk rfl⟩


def Rows2 (w : World) (o : Option Addr) (l : List Lbl) : Prop := l ≠ [] → ∃ b off, o = some ⟨b, off, none⟩ ∧ CellsAt w b off (l.flatMap lblCells)
theorem LblsAt.rows {w : World} {v : Value} {l : List Lbl} (h : LblsAt w v l) : ∃ o c, v = .slice o l.length c ∧ (o = none → c = 0) ∧ Rows2 w o l := by
  obtain ⟨o, c, h1, h2, h3⟩ := h
  exact ⟨o, c, h1, h2, fun hne => h3 (fun e => hne ((flat_ne (k := 2) (fun _ => rfl) (by decide)).1 e))⟩
theorem Rows2.at {w : World} {o : Option Addr} {l : List Lbl} (h : Rows2 w o l) {k : Nat} (hk : k < l.length) :
    ∃ b off y1 y2, o = some ⟨b, off, none⟩ ∧ l[k]? = some (y1, y2) ∧ w.cell? ⟨b, off + k * 2, none⟩ = some (encStr y1) ∧ w.cell? ⟨b, off + k * 2 + 1, none⟩ = some (encStr y2) := by
  obtain ⟨b, off, e, hc⟩ := h (fun e => by rw [e] at hk; simp at hk)
  have hy : l[k]? = some (l[k].1, l[k].2) := List.getElem?_eq_getElem hk
  obtain ⟨h1, h2⟩ := lbl_cells hc hy
  exact ⟨b, off, _, _, e, hy, h1, h2⟩
theorem Rows2.next {w : World} {b off : Nat} {l : List Lbl} (h : Rows2 w (some ⟨b, off, none⟩) l) {k : Nat} (hk : k < l.length) :
    ∃ y1 y2, l[k]? = some (y1, y2) ∧ w.cell? ⟨b, off + k * 2, none⟩ = some (encStr y1) ∧ w.cell? ⟨b, off + k * 2 + 1, none⟩ = some (encStr y2) := by
  obtain ⟨b', off', y1, y2, e, h⟩ := h.at hk
  cases e
  exact ⟨y1, y2, h⟩
theorem Rows2.olds {w W : World} {o : Option Addr} {l : List Lbl} (h : Rows2 w o l) (hb : Olds w W) : Rows2 W o l := fun hne => by
  obtain ⟨b, off, e, hc⟩ := h hne
  exact ⟨b, off, e, hc.olds hb⟩

set_option maxRecDepth 20000 in
set_option maxHeartbeats 2000000 in
theorem rtwice_rows (o : Option Addr) (c : Nat) (l : List Lbl) (w : World) (hm : l.length ≤ 1000000000) (hc : Rows2 w o l) : Calls Tryz.prog 122 #[.slice o l.length c] w fun e w' => Says (Twice l) e ∧ ∃ q, w' = w.drewN q := by
  have Hc := Lib.hid hc
  clear hc
  generalize hn : l.length = n at *
  have Hn := Lib.hid hn
  clear hn
  go_enter Tryz.func122, Tryz.ntmps122
  go_wp2_with fail
  go_loopw [3, 4] (fun iv _ wr => ∃ k q : Nat, k ≤ n ∧ iv = .int .i64 k ∧ wr = w.drewN q ∧ ∀ (i j : Nat) (x y : Lbl), i < k → j < i → l[i]? = some x → l[j]? = some y → x.1 ≠ y.1) (fun iv _ _ => n - (intOf iv).toNat)
  case atStart => exact ⟨0, 0, Nat.zero_le _, rfl, rfl, fun i j x y h => by omega⟩
  case round =>
    obtain ⟨k, q, hk, rfl, rfl, hno⟩ := hrel
    have Hno := Lib.hid hno
    clear hno
    by_cases hlt : k < n
    · obtain ⟨b, off, x1, x2, rfl, hx, hx1, _⟩ := Hc.out.at (k := k) (by rw [Hn.out]; exact hlt)
      have Hx := Lib.hid hx
      clear hx
      go_wp2_with fail
      go_loopw [4] (fun jv wr => ∃ j q : Nat, j ≤ k ∧ jv = .int .i64 j ∧ wr = w.drewN q ∧ ∀ (i : Nat) (y : Lbl), i < j → l[i]? = some y → x1 ≠ y.1) (fun jv _ => k - (intOf jv).toNat)
      case atStart => exact ⟨0, q, Nat.zero_le _, rfl, rfl, fun i y h => by omega⟩
      case round =>
        obtain ⟨j, q, hj, rfl, rfl, hno2⟩ := hrel
        have Hno2 := Lib.hid hno2
        clear hno2
        by_cases hlt2 : j < k
        · obtain ⟨y1, y2, hy, hy1, _⟩ := Hc.out.next (k := j) (by rw [Hn.out]; omega)
          have Hy := Lib.hid hy
          clear hy
          by_cases he : x1 = y1
          · subst he
            go_wp2_with fail
            go_quiet (fail)
            go_wp2_with fail
            go_ret
            exact ⟨.inl ⟨rfl, k, j, _, _, hlt2, Hx.out, Hy.out, rfl⟩, _, World.drewN_drewN ..⟩
          · have heb : (x1 == y1) = false := by simpa using he
            have He := Lib.hid he
            clear he
            go_wp2_with fail
            go_quiet (fail)
            go_wp2_with fail
            go_roundw
            case rel => exact ⟨j + 1, _, by omega, by go_num, rfl, fun i y hi hiy => by
              by_cases h : i < j
              · exact Hno2.out i y h hiy
              · obtain rfl : i = j := by omega
                rw [Hy.out] at hiy
                cases hiy
                exact He.out⟩
            case measure => simp [intOf]; omega
        · go_wp2_with fail
          go_roundw
          case rel => exact ⟨k + 1, q, by omega, by go_num, rfl, fun i j' x y hi hj' hix hjy => by
            by_cases h : i < k
            · exact Hno.out i j' x y h hj' hix hjy
            · obtain rfl : i = k := by omega
              rw [Hx.out] at hix
              cases hix
              exact Hno2.out j' y (by omega) hjy⟩
          case measure => simp [intOf]; omega
    · go_wp2_with fail
      go_ret
      refine ⟨.inr ⟨rfl, ?_⟩, q, rfl⟩
      rintro ⟨i, j, x, y, hji, hx, hy, he⟩
      refine Hno.out i j x y ?_ hji hx hy he
      have h1 := (List.getElem?_eq_some_iff.1 hx).1
      rw [Hn.out] at h1
      omega

set_option maxRecDepth 20000 in
set_option maxHeartbeats 4000000 in
theorem rcheck_rows (o : Option Addr) (c : Nat) (l : List Lbl) (w : World) (hm : l.length ≤ 1000000000) (hs : ∀ y ∈ l, y.1.length ≤ 1000000000 ∧ y.2.length ≤ 1000000000) (hc : Rows2 w o l) : Calls Tryz.prog 92 #[.slice o l.length c] w fun e w' => e = .returned (.int .u16 (check l)) ∧ ∃ q, w' = w.drewN q := by
  have Hc := Lib.hid hc
  have Hs := Lib.hid hs
  have HT : ∀ q, Hid (Calls Tryz.prog 122 #[.slice o l.length c] (w.drewN q) fun e w' => Says (Twice l) e ∧ ∃ q', w' = (w.drewN q).drewN q') := fun q => Lib.hid (rtwice_rows o c l _ hm (hc.olds (Olds.drewN w q)))
  clear hc hs
  generalize hn : l.length = n at *
  have Hn := Lib.hid hn
  clear hn
  by_cases h64 : 64 < n
  · have Hr : Hid (check l = 72) := Lib.hid (check_many (by rw [Hn.out]; exact h64))
    go_enter Tryz.func92, Tryz.ntmps92
    go_wp2_with fail
    go_ret
    exact ⟨by rw [Hr.out]; rfl, 0, rfl⟩
  · go_enter Tryz.func92, Tryz.ntmps92
    go_wp2_with fail
    go_loopw [3, 4] (fun iv _ wr => ∃ k q : Nat, k ≤ n ∧ iv = .int .i64 k ∧ wr = w.drewN q ∧ ∀ (i : Nat) (x : Lbl), i < k → l[i]? = some x → LblOk x) (fun iv _ _ => n - (intOf iv).toNat)
    case atStart => exact ⟨0, 0, Nat.zero_le _, rfl, rfl, fun i x h => by omega⟩
    case round =>
      obtain ⟨k, q, hk, rfl, rfl, hok⟩ := hrel
      have Hok := Lib.hid hok
      clear hok
      by_cases hlt : k < n
      · obtain ⟨b, off, x1, x2, rfl, hx, hx1, hx2⟩ := Hc.out.at (k := k) (by rw [Hn.out]; exact hlt)
        obtain ⟨hs1, hs2⟩ := Hs.out _ (List.mem_of_getElem? hx)
        have Hx := Lib.hid hx
        clear hx
        have HN := Lib.hid (rname_any x1 (w.drewN q) hs1)
        by_cases hlok : LblOk (x1, x2)
        · have hne : x2.isEmpty = false := by simpa using hlok.2.1
          have hle : x2.length ≤ 1024 := hlok.2.2
          have Hlok := Lib.hid hlok
          clear hlok
          go_wp2_with (go_at_call 121; refine HN.out.mono ?_; rintro e w' ⟨hsay, rfl⟩; rcases hsay with ⟨rfl, hname⟩ | ⟨rfl, hname⟩; rotate_left; exact absurd Hlok.out.1 hname)
          go_roundw
          case rel => exact ⟨k + 1, q, by omega, by go_num, rfl, fun i x hi hix => by
            by_cases h : i < k
            · exact Hok.out i x h hix
            · obtain rfl : i = k := by omega
              rw [Hx.out] at hix
              cases hix
              exact Hlok.out⟩
          case measure => simp [intOf]; omega
        · have Hr : Hid (check l = 70) := Lib.hid (check_form (by rw [Hn.out]; exact h64) (List.mem_of_getElem? Hx.out) hlok)
          have Hlok := Lib.hid hlok
          clear hlok
          by_cases hv : x2 = []
          · subst hv
            go_wp2_with (go_at_call 121; refine HN.out.mono ?_; rintro e w' ⟨hsay, rfl⟩; rcases hsay with ⟨rfl, hname⟩ | ⟨rfl, hname⟩)
            all_goals (go_ret; exact ⟨by rw [Hr.out]; rfl, q, rfl⟩)
          · have hne : x2.isEmpty = false := by simpa using hv
            have Hv := Lib.hid hv
            clear hv
            by_cases hle : 1024 < x2.length
            · go_wp2_with (go_at_call 121; refine HN.out.mono ?_; rintro e w' ⟨hsay, rfl⟩; rcases hsay with ⟨rfl, hname⟩ | ⟨rfl, hname⟩)
              all_goals (go_ret; exact ⟨by rw [Hr.out]; rfl, q, rfl⟩)
            · have Hno : Hid (¬ NameOk x1) := Lib.hid (fun h => Hlok.out ⟨h, Hv.out, by simpa using hle⟩)
              go_wp2_with (go_at_call 121; refine HN.out.mono ?_; rintro e w' ⟨hsay, rfl⟩; rcases hsay with ⟨rfl, hname⟩ | ⟨rfl, hname⟩; exact absurd hname Hno.out)
              all_goals (go_ret; exact ⟨by rw [Hr.out]; rfl, q, rfl⟩)
      · have Hall : Hid (∀ y ∈ l, LblOk y) := Lib.hid (fun y hy => by
          obtain ⟨i, hi⟩ := List.getElem?_of_mem hy
          have h1 := (List.getElem?_eq_some_iff.1 hi).1
          rw [Hn.out] at h1
          exact Hok.out i y (by omega) hi)
        by_cases htw : Twice l
        · have Hr : Hid (check l = 71) := Lib.hid (check_twice (by rw [Hn.out]; exact h64) Hall.out htw)
          have Htw := Lib.hid htw
          clear htw
          go_wp2_with (go_at_call 122; refine (HT q).out.mono ?_; rintro e w' ⟨hsay, q', rfl⟩; rcases hsay with ⟨rfl, hname⟩ | ⟨rfl, hname⟩; rotate_left; exact absurd Htw.out hname)
          go_ret
          exact ⟨by rw [Hr.out]; rfl, q + q', rfl⟩
        · have Htw := Lib.hid htw
          clear htw
          go_wp2_with (go_at_call 122; refine (HT q).out.mono ?_; rintro e w' ⟨hsay, q', rfl⟩; rcases hsay with ⟨rfl, hname⟩ | ⟨rfl, hname⟩; exact absurd hname Htw.out)
          go_loopw [6] (fun iv wr => ∃ j q : Nat, iv = .int .i64 ((j : Int) + 1) ∧ (j + 1 ≤ n ∨ j = 0) ∧ wr = w.drewN q ∧ ∀ (i : Nat) (x y : Lbl), i < j → l[i]? = some x → l[i + 1]? = some y → x.1 < y.1) (fun iv _ => n - (intOf iv).toNat)
          case atStart => exact ⟨0, q + q', rfl, .inr rfl, rfl, fun i x y h => by omega⟩
          case round =>
            obtain ⟨j, q, rfl, hj, rfl, hasc⟩ := hrel
            have Hasc := Lib.hid hasc
            clear hasc
            have hj9 : j ≤ 64 := by omega
            by_cases hlt : j + 1 < n
            · obtain ⟨b, off, x1, x2, rfl, hx, hx1, _⟩ := Hc.out.at (k := j) (by rw [Hn.out]; omega)
              obtain ⟨y1, y2, hy, hy1, _⟩ := Hc.out.next (k := j + 1) (by rw [Hn.out]; exact hlt)
              have Hx := Lib.hid hx
              have Hy := Lib.hid hy
              clear hx hy
              by_cases hxy : x1 < y1
              · have hbl : Op.bytesLess y1 x1 = false := by rw [bytesLess_eq]; exact decide_eq_false (fun h => List.lt_irrefl _ (List.lt_trans hxy h))
                have hbe : (y1 == x1) = false := by
                  rw [beq_eq_false_iff_ne]
                  rintro rfl
                  exact List.lt_irrefl _ hxy
                have Hxy := Lib.hid hxy
                clear hxy
                go_wp2_with fail
                go_quiet (fail)
                go_wp2_with fail
                go_roundw
                case rel => exact ⟨j + 1, _, by go_num, .inl (by omega), rfl, fun i x y hi hix hiy => by
                  by_cases h : i < j
                  · exact Hasc.out i x y h hix hiy
                  · obtain rfl : i = j := by omega
                    rw [Hx.out] at hix
                    rw [Hy.out] at hiy
                    cases hix
                    cases hiy
                    exact Hxy.out⟩
                case measure => simp [intOf]; omega
              · have Hr : Hid (check l = 70) := Lib.hid (check_next (by rw [Hn.out]; exact h64) Hall.out Htw.out (fun h => hxy (h j _ _ Hx.out Hy.out)))
                by_cases he : y1 = x1
                · subst he
                  have hbe : (y1 == y1) = true := by simp
                  clear hxy
                  go_wp2_with fail
                  go_quiet (fail)
                  go_wp2_with fail
                  all_goals (go_ret; exact ⟨by rw [Hr.out]; rfl, _, World.drewN_drewN ..⟩)
                · have hbl : Op.bytesLess y1 x1 = true := by
                    rw [bytesLess_eq]
                    refine decide_eq_true ?_
                    rcases Line.tri (α := Txt) y1 x1 with h | h | h
                    · exact h
                    · exact absurd h he
                    · exact absurd h hxy
                  clear hxy he
                  go_wp2_with fail
                  go_quiet (fail)
                  go_wp2_with fail
                  all_goals (go_ret; exact ⟨by rw [Hr.out]; rfl, _, World.drewN_drewN ..⟩)
            · have Hr : Hid (check l = 0) := Lib.hid (check_ok (by rw [Hn.out]; exact h64) Hall.out Htw.out (fun i x y hx hy => Hasc.out i x y (by
                have := (List.getElem?_eq_some_iff.1 hy).1
                rw [Hn.out] at this
                omega) hx hy))
              go_wp2_with fail
              go_ret
              exact ⟨by rw [Hr.out]; rfl, _, rfl⟩
end Go.Proofs.YtaoggppfimfhbaaGreatDoor
namespace Go.Proofs.YtaoggppfimfhbaaGreatDoor
open Go Go.RowKit Go.Ix

theorem less_yes {a b : Txt} (h : a < b) : Op.bytesLess a b = true := by rw [bytesLess_eq]; exact decide_eq_true h
theorem less_no {a b : Txt} (h : ¬ a < b) : Op.bytesLess a b = false := by rw [bytesLess_eq]; exact decide_eq_false h

set_option maxRecDepth 20000 in
set_option maxHeartbeats 4000000 in
theorem rcmp_rows (o p : Option Addr) (c d : Nat) (l m : List Lbl) (w : World) (hl : l.length ≤ 1000000000) (hm : m.length ≤ 1000000000) (hc : Rows2 w o l) (hd : Rows2 w p m) : Calls Tryz.prog 93 #[.slice o l.length c, .slice p m.length d] w fun e w' => e = .returned (.int .i64 (cmpL l m)) ∧ ∃ q, w' = w.drewN q := by
  have Hc := Lib.hid hc
  have Hd := Lib.hid hd
  clear hc hd
  generalize hn : l.length = n at *
  have Hn := Lib.hid hn
  clear hn
  generalize hk : m.length = k at *
  have Hk := Lib.hid hk
  clear hk
  go_enter Tryz.func93, Tryz.ntmps93
  go_wp2_with fail
  go_loopw [5] (fun iv wr => ∃ i q : Nat, i ≤ n ∧ i ≤ k ∧ iv = .int .i64 i ∧ wr = w.drewN q ∧ l.take i = m.take i) (fun iv _ => n - (intOf iv).toNat)
  case atStart => exact ⟨0, 0, Nat.zero_le _, Nat.zero_le _, rfl, rfl, by simp⟩
  case round =>
    obtain ⟨i, q, hi, hik, rfl, rfl, hsame⟩ := hrel
    have Hsame := Lib.hid hsame
    clear hsame
    by_cases hin : i < n
    · by_cases him : i < k
      · obtain ⟨b, off, x1, x2, rfl, hx, hx1, hx2⟩ := Hc.out.at (k := i) (by rw [Hn.out]; exact hin)
        obtain ⟨b', off', y1, y2, rfl, hy, hy1, hy2⟩ := Hd.out.at (k := i) (by rw [Hk.out]; exact him)
        have Hx := Lib.hid hx
        have Hy := Lib.hid hy
        clear hx hy
        by_cases h1 : x1 < y1
        · have hb1 := less_yes h1
          have Hr : Hid (cmpL l m = -1) := Lib.hid (by
            rw [cmpL_at Hx.out Hy.out Hsame.out (by rintro h; cases h; exact List.lt_irrefl _ h1)]
            exact cmpY_lt (.inl h1))
          clear h1
          go_wp2_with fail
          go_quiet (fail)
          go_wp2_with fail
          go_ret
          exact ⟨by rw [Hr.out]; rfl, _, World.drewN_drewN ..⟩
        · have hb1 := less_no h1
          by_cases he : x1 = y1
          · subst he
            have hbe : (x1 == x1) = true := by simp
            by_cases h2 : x2 < y2
            · have hb2 := less_yes h2
              have Hr : Hid (cmpL l m = -1) := Lib.hid (by
                rw [cmpL_at Hx.out Hy.out Hsame.out (by rintro h; cases h; exact List.lt_irrefl _ h2)]
                exact cmpY_lt (.inr ⟨rfl, h2⟩))
              clear h1 h2
              go_wp2_with fail
              go_quiet (fail)
              go_wp2_with fail
              go_ret
              exact ⟨by rw [Hr.out]; rfl, _, World.drewN_drewN ..⟩
            · have hb2 := less_no h2
              by_cases he2 : x2 = y2
              · subst he2
                clear h1 h2
                go_wp2_with fail
                go_quiet (fail)
                go_wp2_with fail
                go_quiet (fail)
                go_wp2_with fail
                go_roundw
                case rel => exact ⟨i + 1, _, by omega, by omega, by go_num, rfl, by rw [List.take_add_one, List.take_add_one, Hsame.out, Hx.out, Hy.out]⟩
                case measure => simp [intOf]; omega
              · have hbe2 : (x2 == y2) = false := by simpa using he2
                have Hr : Hid (cmpL l m = 1) := Lib.hid (by
                  rw [cmpL_at Hx.out Hy.out Hsame.out (by rintro h; cases h; exact he2 rfl)]
                  exact cmpY_gt (by rintro (h | ⟨_, h⟩); exact h1 h; exact h2 h) (by rintro h; cases h; exact he2 rfl))
                clear h1 h2 he2
                go_wp2_with fail
                go_quiet (fail)
                go_wp2_with fail
                go_quiet (fail)
                go_wp2_with fail
                go_ret
                exact ⟨by rw [Hr.out]; rfl, _, by rw [World.drewN_drewN, World.drewN_drewN]⟩
          · have hbe : (x1 == y1) = false := by simpa using he
            have Hr : Hid (cmpL l m = 1) := Lib.hid (by
              rw [cmpL_at Hx.out Hy.out Hsame.out (by rintro h; cases h; exact he rfl)]
              exact cmpY_gt (by rintro (h | ⟨h, _⟩); exact h1 h; exact he h) (by rintro h; cases h; exact he rfl))
            clear h1 he
            go_wp2_with fail
            go_quiet (fail)
            go_wp2_with fail
            go_quiet (fail)
            go_wp2_with fail
            go_ret
            exact ⟨by rw [Hr.out]; rfl, _, by rw [World.drewN_drewN, World.drewN_drewN]⟩
      · have Hr : Hid (cmpL l m = 1) := Lib.hid (cmpL_long (by
          have h := Hsame.out
          have e : i = m.length := by rw [Hk.out]; omega
          rw [e, List.take_length] at h
          exact h) (by rw [Hn.out, Hk.out]; omega))
        go_wp2_with fail
        go_ret
        exact ⟨by rw [Hr.out]; rfl, _, rfl⟩
    · obtain rfl : i = n := by omega
      by_cases him : i < k
      · have Hr : Hid (cmpL l m = -1) := Lib.hid (cmpL_short (by
          have h := Hsame.out
          rw [Hn.out]
          rw [List.take_of_length_le (by rw [Hn.out]; exact Nat.le_refl _)] at h
          exact h) (by rw [Hn.out, Hk.out]; omega))
        go_wp2_with fail
        go_ret
        exact ⟨by rw [Hr.out]; rfl, _, rfl⟩
      · obtain rfl : i = k := by omega
        have Hr : Hid (cmpL l m = 0) := Lib.hid (by
          have h := Hsame.out
          rw [List.take_of_length_le (by rw [Hn.out]; exact Nat.le_refl _), List.take_of_length_le (by rw [Hk.out]; exact Nat.le_refl _)] at h
          rw [h]
          exact cmpL_self m)
        go_wp2_with fail
        go_ret
        exact ⟨by rw [Hr.out]; rfl, _, rfl⟩
end Go.Proofs.YtaoggppfimfhbaaGreatDoor
namespace Go.Proofs.YtaoggppfimfhbaaGreatDoor
open Go Go.RowKit Go.Ix

def Rows5 (w : World) (o : Option Addr) (l : List Plc) : Prop := l ≠ [] → ∃ b off, o = some ⟨b, off, none⟩ ∧ CellsAt w b off (l.flatMap plcCells)
theorem PlcsAt.rows {w : World} {v : Value} {l : List Plc} (h : PlcsAt w v l) : ∃ o c, v = .slice o l.length c ∧ (o = none → c = 0) ∧ Rows5 w o l := by
  obtain ⟨o, c, h1, h2, h3⟩ := h
  exact ⟨o, c, h1, h2, fun hne => h3 (fun e => hne ((flat_ne (k := 5) (fun _ => rfl) (by decide)).1 e))⟩
theorem Rows5.olds {w W : World} {o : Option Addr} {l : List Plc} (h : Rows5 w o l) (hb : Olds w W) : Rows5 W o l := fun hne => by
  obtain ⟨b, off, e, hc⟩ := h hne
  exact ⟨b, off, e, hc.olds hb⟩

def Plc5 (w : World) (b off : Nat) (p : Plc) : Prop :=
  w.cell? ⟨b, off, none⟩ = some (.int .i64 p.fr) ∧ w.cell? ⟨b, off + 1, none⟩ = some (.int .i64 p.til) ∧ w.cell? ⟨b, off + 2, none⟩ = some (.int .i64 p.num) ∧ w.cell? ⟨b, off + 3, none⟩ = some (.int .i64 p.pos) ∧ w.cell? ⟨b, off + 4, none⟩ = some (.int .i64 p.siz)
theorem Rows5.at {w : World} {o : Option Addr} {l : List Plc} (h : Rows5 w o l) {k : Nat} (hk : k < l.length) :
    ∃ b off p, o = some ⟨b, off, none⟩ ∧ l[k]? = some p ∧ Plc5 w b (off + k * 5) p := by
  obtain ⟨b, off, e, hc⟩ := h (fun e => by rw [e] at hk; simp at hk)
  have hp : l[k]? = some l[k] := List.getElem?_eq_getElem hk
  exact ⟨b, off, _, e, hp, hc.elem (k := 5) (i := 0) (fun _ => rfl) hp rfl, hc.elem (k := 5) (i := 1) (fun _ => rfl) hp rfl, hc.elem (k := 5) (i := 2) (fun _ => rfl) hp rfl, hc.elem (k := 5) (i := 3) (fun _ => rfl) hp rfl, hc.elem (k := 5) (i := 4) (fun _ => rfl) hp rfl⟩
theorem Rows5.next {w : World} {b off : Nat} {l : List Plc} (h : Rows5 w (some ⟨b, off, none⟩) l) {k : Nat} (hk : k < l.length) : ∃ p, l[k]? = some p ∧ Plc5 w b (off + k * 5) p := by
  obtain ⟨b', off', p, e, h⟩ := h.at hk
  cases e
  exact ⟨p, h⟩


def Ent2 (w : World) (b off : Nat) (e : Ent) : Prop :=
  ∃ o1 n1 c1 o2 n2 c2, w.cell? ⟨b, off, none⟩ = some (.slice o1 n1 c1) ∧ w.cell? ⟨b, off + 1, none⟩ = some (.slice o2 n2 c2) ∧ e.1.length = n1 ∧ e.2.length = n2 ∧ Rows2 w o1 e.1 ∧ Rows5 w o2 e.2 ∧ (o1 = none → c1 = 0) ∧ (o2 = none → c2 = 0)
def RowsE (w : World) (o : Option Addr) (l : List Ent) : Prop := l ≠ [] → ∃ b off, o = some ⟨b, off, none⟩ ∧ ∀ k e, l[k]? = some e → Ent2 w b (off + k * 2) e

theorem Ent2.olds {w W : World} {b off : Nat} {e : Ent} (h : Ent2 w b off e) (hb : Olds w W) : Ent2 W b off e := by
  obtain ⟨o1, n1, c1, o2, n2, c2, h1, h2, h3, h4, h5, h6, h7⟩ := h
  exact ⟨o1, n1, c1, o2, n2, c2, hb.cell h1, hb.cell h2, h3, h4, h5.olds hb, h6.olds hb, h7⟩
theorem RowsE.olds {w W : World} {o : Option Addr} {l : List Ent} (h : RowsE w o l) (hb : Olds w W) : RowsE W o l := fun hne => by
  obtain ⟨b, off, e, hc⟩ := h hne
  exact ⟨b, off, e, fun k x hx => (hc k x hx).olds hb⟩
theorem EntsAt.rows {w : World} {v : Value} {l : List Ent} (h : EntsAt w v l) : ∃ o c, v = .slice o l.length c ∧ (o = none → c = 0) ∧ RowsE w o l := by
  obtain ⟨vs, hl, ⟨o, c, h1, h2, h3⟩, he⟩ := h
  refine ⟨o, c, h1, h2, fun hne => ?_⟩
  have hv : vs ≠ [] := fun e => hne (List.eq_nil_of_length_eq_zero (by rw [← hl, e]; rfl))
  obtain ⟨b, off, e, hc⟩ := h3 (fun e => hv ((flat_ne (k := 2) (fun _ => rfl) (by decide)).1 e))
  refine ⟨b, off, e, fun k x hx => ?_⟩
  have hk := (List.getElem?_eq_some_iff.1 hx).1
  have hu : vs[k]? = some vs[k] := List.getElem?_eq_getElem (by omega)
  obtain ⟨hL, hP⟩ := he k _ x hu hx
  obtain ⟨o1, c1, e1, z1, r1⟩ := LblsAt.rows hL
  obtain ⟨o2, c2, e2, z2, r2⟩ := PlcsAt.rows hP
  refine ⟨o1, _, c1, o2, _, c2, ?_, ?_, rfl, rfl, r1, r2, z1, z2⟩
  · rw [← e1]
    exact hc.elem (k := 2) (i := 0) (fun _ => rfl) hu rfl
  · rw [← e2]
    exact hc.elem (k := 2) (i := 1) (fun _ => rfl) hu rfl
theorem RowsE.at {w : World} {o : Option Addr} {l : List Ent} (h : RowsE w o l) {k : Nat} (hk : k < l.length) :
    ∃ b off e1 e2 o1 n1 c1 o2 n2 c2, o = some ⟨b, off, none⟩ ∧ l[k]? = some (e1, e2) ∧ w.cell? ⟨b, off + k * 2, none⟩ = some (.slice o1 n1 c1) ∧ w.cell? ⟨b, off + k * 2 + 1, none⟩ = some (.slice o2 n2 c2) ∧ e1.length = n1 ∧ e2.length = n2 ∧ Rows2 w o1 e1 ∧ Rows5 w o2 e2 ∧ (o1 = none → c1 = 0) ∧ (o2 = none → c2 = 0) := by
  obtain ⟨b, off, e, hc⟩ := h (fun e => by rw [e] at hk; simp at hk)
  have hx : l[k]? = some (l[k].1, l[k].2) := List.getElem?_eq_getElem hk
  obtain ⟨o1, n1, c1, o2, n2, c2, h⟩ := hc k _ hx
  exact ⟨b, off, _, _, o1, n1, c1, o2, n2, c2, e, hx, h⟩
theorem RowsE.next {w : World} {b off : Nat} {l : List Ent} (h : RowsE w (some ⟨b, off, none⟩) l) {k : Nat} (hk : k < l.length) :
    ∃ e1 e2 o1 n1 c1 o2 n2 c2, l[k]? = some (e1, e2) ∧ w.cell? ⟨b, off + k * 2, none⟩ = some (.slice o1 n1 c1) ∧ w.cell? ⟨b, off + k * 2 + 1, none⟩ = some (.slice o2 n2 c2) ∧ e1.length = n1 ∧ e2.length = n2 ∧ Rows2 w o1 e1 ∧ Rows5 w o2 e2 ∧ (o1 = none → c1 = 0) ∧ (o2 = none → c2 = 0) := by
  obtain ⟨b', off', e1, e2, o1, n1, c1, o2, n2, c2, e, h⟩ := h.at hk
  cases e
  exact ⟨e1, e2, o1, n1, c1, o2, n2, c2, h⟩

theorem Calls.drew {f : FuncId} {args : Array Value} {w : World} {q : Nat} {R : Ending → Prop} (h : Calls Tryz.prog f args (w.drewN q) fun e w' => R e ∧ ∃ m, w' = (w.drewN q).drewN m) : Calls Tryz.prog f args (w.drewN q) fun e w' => R e ∧ ∃ m, w' = w.drewN m :=
  h.mono fun e w' h => ⟨h.1, by
    obtain ⟨m, hm⟩ := h.2
    exact ⟨q + m, by rw [hm, World.drewN_drewN]⟩⟩


def Small (l : List Ent) : Prop := l.length ≤ 1000000000 ∧ ∀ e ∈ l, e.1.length ≤ 1000000000 ∧ e.2.length ≤ 1000000000 ∧ ∀ y ∈ e.1, y.1.length ≤ 1000000000 ∧ y.2.length ≤ 1000000000
theorem Small.ent {l : List Ent} (h : Small l) {k : Nat} {e1 : List Lbl} {e2 : List Plc} (hx : l[k]? = some (e1, e2)) : e1.length ≤ 1000000000 ∧ e2.length ≤ 1000000000 ∧ ∀ y ∈ e1, y.1.length ≤ 1000000000 ∧ y.2.length ≤ 1000000000 := h.2 _ (List.mem_of_getElem? hx)
end Go.Proofs.YtaoggppfimfhbaaGreatDoor
