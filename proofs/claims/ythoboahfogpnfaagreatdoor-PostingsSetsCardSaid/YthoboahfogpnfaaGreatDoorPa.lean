/- Contracts over this program: lists of int, Clone, Sort, Compact, BinarySearch, DeleteFunc, And, Not. Their conditions: the slices read as the lists that are named, and are of less than 2 to the 47th bytes. -/
import Derived.Test.YthoboahfogpnfaaGreatDoorProg
import Derived.WalkKit
import Derived.WalkSpells
import Derived.WalkLawsBesides
import Derived.Deep.QuietTactic
import Derived.BigQuiet
import Derived.Deep.LoopGhost
import Derived.Lib.Hide
import Derived.Shelf.LaysM
import Derived.Shelf.Sort.Plain
import Derived.Ground.Names2Prog
import Derived.Shelf.Slices.Clone
import Derived.Shelf.Slices.CompactI
import Derived.Shelf.Slices.SearchI
import Derived.Shelf.Slices.In.SortNone
import Derived.Shelf.Slices.Empties
import Derived.Ground.SlgnProg
import Derived.Shelf.SlicesE.Compact
import Derived.Ground.SlgfProg
import Derived.Shelf.SlicesE.IndexFunc
import Derived.Shelf.SlicesE.DeleteFunc
import Derived.Lib.OwnBridge
set_option linter.unusedSimpArgs false
set_option linter.unusedVariables false
set_option linter.deprecated false
set_option linter.unnecessarySimpa false
namespace Go.Proofs.YthoboahfogpnfaaGreatDoor
open Go Go.RowKit


def CellsAt (w : World) (b off : Nat) (vs : List Value) : Prop := ∀ j v, vs[j]? = some v → w.cell? ⟨b, off + j, none⟩ = some v


def RowAt (w : World) (v : Value) (vs : List Value) : Prop :=
  ∃ o c, v = .slice o vs.length c ∧ (o = none → c = 0) ∧ (vs ≠ [] → ∃ b off, o = some ⟨b, off, none⟩ ∧ CellsAt w b off vs)

def ints (zs : List Int) : List Value := zs.map (Value.int .i64)

def IntsAt (w : World) (v : Value) (zs : List Int) : Prop := RowAt w v (ints zs)
def IntCells (w : World) (b off : Nat) (zs : List Int) : Prop := ∀ j z, zs[j]? = some z → w.cell? ⟨b, off + j, none⟩ = some (.int .i64 z)

theorem ints_len (zs : List Int) : (ints zs).length = zs.length := by simp [ints]

theorem intCells_iff {w : World} {b off : Nat} {zs : List Int} : CellsAt w b off (ints zs) ↔ IntCells w b off zs := by
  constructor
  · intro h j z hz
    exact h j _ (by simp [ints, hz])
  · intro h j v hv
    simp only [ints, List.getElem?_map, Option.map_eq_some_iff] at hv
    obtain ⟨z, hz, rfl⟩ := hv
    exact h j z hz


theorem RowAt.cases {w : World} {v : Value} {vs : List Value} (h : RowAt w v vs) :
    (∃ o c, v = .slice o 0 c ∧ vs = [] ∧ (o = none → c = 0)) ∨
    (∃ b off c, v = .slice (some ⟨b, off, none⟩) vs.length c ∧ 0 < vs.length ∧ CellsAt w b off vs) := by
  obtain ⟨o, c, h1, h2, h3⟩ := h
  cases vs with
  | nil => exact .inl ⟨o, c, h1, rfl, h2⟩
  | cons z zs =>
    obtain ⟨b, off, rfl, h⟩ := h3 (by simp)
    exact .inr ⟨b, off, c, h1, by simp, h⟩

theorem IntsAt.cases {w : World} {v : Value} {zs : List Int} (h : IntsAt w v zs) :
    (∃ o c, v = .slice o 0 c ∧ zs = [] ∧ (o = none → c = 0)) ∨
    (∃ b off c, v = .slice (some ⟨b, off, none⟩) zs.length c ∧ 0 < zs.length ∧ IntCells w b off zs) := by
  rcases RowAt.cases h with ⟨o, c, h1, h2, h3⟩ | ⟨b, off, c, h1, h2, h3⟩
  · exact .inl ⟨o, c, h1, by simpa [ints] using h2, h3⟩
  · rw [ints_len] at h1 h2
    exact .inr ⟨b, off, c, h1, h2, intCells_iff.1 h3⟩

theorem IntsAt.mk {w : World} {b off c : Nat} {zs : List Int} (h : IntCells w b off zs) : IntsAt w (.slice (some ⟨b, off, none⟩) zs.length c) zs :=
  ⟨some ⟨b, off, none⟩, c, by rw [ints_len], (fun h => by cases h), fun _ => ⟨b, off, rfl, intCells_iff.2 h⟩⟩

theorem IntsAt.none (w : World) : IntsAt w (.slice none 0 0) [] := ⟨.none, 0, rfl, fun _ => rfl, fun h => absurd rfl h⟩
theorem IntsAt.zero (w : World) (a : Addr) (c : Nat) : IntsAt w (.slice (some a) 0 c) [] := ⟨some a, c, rfl, (fun h => by cases h), fun h => absurd rfl h⟩

theorem at_some {zs : List Int} {k : Nat} (h : k < zs.length) : ∃ z, zs[k]? = some z ∧ zs.getD k 0 = z := ⟨zs[k], by simp [h], by simp [h]⟩

theorem cell_lt {w : World} {a : Addr} {v : Value} (h : w.cell? a = some v) : a.block < w.heap.size := by
  by_cases hlt : a.block < w.heap.size
  · exact hlt
  · have : w.heap[a.block]? = Option.none := by simp; omega
    simp [World.cell?, this] at h

theorem CellsAt.keep {w w' : World} {b off : Nat} {vs : List Value} (h : CellsAt w b off vs) (hb : Below w.heap.size w w') : CellsAt w' b off vs := fun j v hv => by
  have := h j v hv
  rw [hb.cell (cell_lt this)]
  exact this

theorem IntCells.keep {w w' : World} {b off : Nat} {zs : List Int} (h : IntCells w b off zs) (hb : Below w.heap.size w w') : IntCells w' b off zs := intCells_iff.1 (CellsAt.keep (intCells_iff.2 h) hb)

theorem RowAt.keep {w w' : World} {v : Value} {vs : List Value} (h : RowAt w v vs) (hb : Below w.heap.size w w') : RowAt w' v vs := by
  obtain ⟨o, c, h1, h2, h3⟩ := h
  exact ⟨o, c, h1, h2, fun hne => by obtain ⟨b, off, e, hc⟩ := h3 hne; exact ⟨b, off, e, hc.keep hb⟩⟩
theorem IntsAt.keep {w w' : World} {v : Value} {zs : List Int} (h : IntsAt w v zs) (hb : Below w.heap.size w w') : IntsAt w' v zs := RowAt.keep h hb

def hasN (zs : List Int) (n : Int) : Bool := zs.contains n
theorem hasN_iff {zs : List Int} {n : Int} : hasN zs n = true ↔ n ∈ zs := by unfold hasN; exact List.contains_iff_mem
theorem hasN_nil (n : Int) : hasN [] n = false := rfl
theorem ret_bool {a b : Bool} (h : a = b) : Ending.returned (.bool a) = .returned (.bool b) := by rw [h]

end Go.Proofs.YthoboahfogpnfaaGreatDoor
namespace Go.Proofs.YthoboahfogpnfaaGreatDoor
open Go Go.RowKit

set_option maxHeartbeats 400000 in
theorem in_empty (o : Option Addr) (c : Nat) (n : Int) (w : World) :
    Calls Tryz.prog 9 #[.slice o 0 c, .int .i64 n] w fun e w' => e = .returned (.bool (hasN [] n)) ∧ w = w' := by
  go_enter Tryz.func9, Tryz.ntmps9
  go_wp2
  go_loop [5] (fun i => i = .int .i64 0) (fun _ => 0)
  case atStart => rfl
  case round =>
    obtain rfl := hrel
    go_wp2
    go_ret
    exact ⟨ret_bool (hasN_nil n).symm, rfl⟩

set_option maxHeartbeats 400000 in
theorem in_cells (b off c : Nat) (zs : List Int) (n : Int) (w : World) (hm : zs.length ≤ maxLen) (hc : IntCells w b off zs) :
    Calls Tryz.prog 9 #[.slice (some ⟨b, off, none⟩) zs.length c, .int .i64 n] w fun e w' => e = .returned (.bool (hasN zs n)) ∧ w = w' := by
  unfold maxLen at hm
  have Hc := Lib.hid hc
  clear hc
  go_enter Tryz.func9, Tryz.ntmps9
  go_wp2
  go_loop [5] (fun i => ∃ k : Nat, k ≤ zs.length ∧ i = .int .i64 k ∧ n ∉ zs.take k) (fun i => zs.length - (intOf i).toNat)
  case atStart => exact ⟨0, Nat.zero_le _, rfl, by simp⟩
  case round =>
    obtain ⟨k, hk, rfl, hno⟩ := hrel
    have Hno := Lib.hid hno
    clear hno
    by_cases hlt : k < zs.length
    · obtain ⟨z, hz, _⟩ := at_some hlt
      have hck := Hc.out k z hz
      have Hz := Lib.hid hz
      clear hz
      by_cases he : z = n
      · have heb : (z == n) = true := by simpa using he
        have Hin : Hid (hasN zs n = true) := Lib.hid (hasN_iff.2 (he ▸ List.mem_of_getElem? Hz.out))
        clear he
        go_wp2
        go_ret
        exact ⟨ret_bool Hin.out.symm, rfl⟩
      · have heb : (z == n) = false := by simpa using he
        have He := Lib.hid he
        clear he
        go_wp2
        go_round
        case rel => exact ⟨k + 1, by omega, by go_num, by
          rw [List.take_succ, Hz.out]
          simp only [Option.toList_some, List.mem_append, List.mem_singleton, not_or]
          exact ⟨Hno.out, fun h => He.out h.symm⟩⟩
        case measure => simp [intOf]; omega
    · go_wp2
      go_ret
      have hkk : zs.take k = zs := List.take_of_length_le (by omega)
      have h0 := Hno.out
      rw [hkk] at h0
      exact ⟨ret_bool (by rw [eq_comm, Bool.eq_false_iff]; exact fun h => h0 (hasN_iff.1 h)), rfl⟩

theorem in_any {v : Value} {zs : List Int} (n : Int) (w : World) (h : IntsAt w v zs) (hm : zs.length ≤ maxLen) :
    Calls Tryz.prog 9 #[v, .int .i64 n] w fun e w' => e = .returned (.bool (hasN zs n)) ∧ w = w' := by
  rcases h.cases with ⟨o, c, rfl, rfl, _⟩ | ⟨b, off, c, rfl, _, hc⟩
  · exact in_empty o c n w
  · exact in_cells b off c zs n w hm hc
end Go.Proofs.YthoboahfogpnfaaGreatDoor
namespace Go.Proofs.YthoboahfogpnfaaGreatDoor
open Go Go.RowKit

def sameL (xs ys : List Int) : Bool := decide (xs = ys)
theorem sameL_iff {xs ys : List Int} : sameL xs ys = true ↔ xs = ys := by unfold sameL; simp


def Quiet (w w' : World) : Prop := ∃ q, w' = w.drewN q
theorem Quiet.refl (w : World) : Quiet w w := ⟨0, rfl⟩
theorem Quiet.trans {a b c : World} (h : Quiet a b) (k : Quiet b c) : Quiet a c := by
  obtain ⟨n, rfl⟩ := h
  obtain ⟨m, rfl⟩ := k
  exact ⟨n + m, World.drewN_drewN ..⟩
theorem Quiet.more {a b : World} (h : Quiet a b) (n : Nat) : Quiet a (b.drewN n) := h.trans ⟨n, rfl⟩
theorem Quiet.below {w w' : World} (h : Quiet w w') (B : Nat) : Below B w w' := by
  obtain ⟨q, rfl⟩ := h
  exact ⟨rfl, rfl, rfl, Nat.le_refl _, fun _ _ => rfl⟩

set_option maxHeartbeats 400000 in
theorem same_len (v1 v2 : Value) (a1 a2 : Option Addr) (n m c1 c2 : Nat) (h1 : v1 = .slice a1 n c1) (h2 : v2 = .slice a2 m c2) (w : World) (hne : n ≠ m) :
    Calls Tryz.prog 11 #[v1, v2] w fun e w' => e = .returned (.bool false) ∧ w = w' := by
  subst h1 h2
  have e1 : ((n : Int) == (m : Int)) = false := by simp; omega
  have e2 : ((n : Int) != (m : Int)) = true := by simp; omega
  have Hne := Lib.hid hne
  clear hne
  go_enter Tryz.func11, Tryz.ntmps11
  go_wp2
  go_ret
  exact ⟨rfl, rfl⟩

set_option maxHeartbeats 400000 in
theorem same_zero (a1 a2 : Option Addr) (c1 c2 : Nat) (w : World) :
    Calls Tryz.prog 11 #[.slice a1 0 c1, .slice a2 0 c2] w fun e w' => e = .returned (.bool true) ∧ w = w' := by
  go_enter Tryz.func11, Tryz.ntmps11
  go_wp2
  go_loop [5] (fun i => i = .int .i64 0) (fun _ => 0)
  case atStart => rfl
  case round =>
    obtain rfl := hrel
    go_wp2
    go_ret
    exact ⟨rfl, rfl⟩

def Ans (b : Bool) (w : World) (e : Ending) (w' : World) : Prop := e = .returned (.bool b) ∧ Quiet w w'

set_option maxHeartbeats 1000000 in
theorem same_cells (b1 o1 c1 b2 o2 c2 : Nat) (xs ys : List Int) (w : World) (hm : xs.length ≤ maxLen) (hl : ys.length = xs.length) (h1 : IntCells w b1 o1 xs) (h2 : IntCells w b2 o2 ys) :
    Calls Tryz.prog 11 #[.slice (some ⟨b1, o1, none⟩) xs.length c1, .slice (some ⟨b2, o2, none⟩) xs.length c2] w (Ans (sameL xs ys) w) := by
  unfold maxLen at hm
  have H1 := Lib.hid h1
  have H2 := Lib.hid h2
  have Hl := Lib.hid hl
  clear h1 h2 hl
  have e2 : ((xs.length : Int) != (xs.length : Int)) = false := by simp
  go_enter Tryz.func11, Tryz.ntmps11
  go_wp2
  go_loopw [5] (fun i wr => ∃ k : Nat, k ≤ xs.length ∧ i = .int .i64 k ∧ xs.take k = ys.take k ∧ Quiet w wr) (fun i _ => xs.length - (intOf i).toNat)
  case atStart => exact ⟨0, Nat.zero_le _, rfl, by simp, Quiet.refl _⟩
  case round =>
    obtain ⟨k, hk, rfl, hno, hq⟩ := hrel
    obtain ⟨q, rfl⟩ := hq
    have Hno := Lib.hid hno
    clear hno
    by_cases hlt : k < xs.length
    · obtain ⟨x, hx, _⟩ := at_some hlt
      obtain ⟨y, hy, _⟩ := at_some (zs := ys) (k := k) (by rw [Hl.out]; exact hlt)
      have hc1 := H1.out k x hx
      have hc2 := H2.out k y hy
      have Hx := Lib.hid hx
      have Hy := Lib.hid hy
      clear hx hy
      by_cases he : x = y
      · have heb : (x != y) = false := by simpa using he
        have He := Lib.hid he
        clear he
        go_wp2
        go_quiet (fail)
        go_wp2
        go_roundw
        case rel => exact ⟨k + 1, by omega, by go_num, by rw [List.take_add_one, List.take_add_one, Hno.out, Hx.out, Hy.out, He.out], ⟨_, rfl⟩⟩
        case measure => simp [intOf]; omega
      · have heb : (x != y) = true := by simpa using he
        have He := Lib.hid he
        clear he
        have Hr : Hid (sameL xs ys = false) := Lib.hid (by
          rw [Bool.eq_false_iff, ne_eq, sameL_iff]
          rintro rfl
          have h := Hx.out
          rw [Hy.out] at h
          exact He.out (Option.some.inj h).symm)
        go_wp2
        go_quiet (fail)
        go_wp2
        go_ret
        exact ⟨ret_bool Hr.out.symm, ⟨_, World.drewN_drewN ..⟩⟩
    · have Hr : Hid (sameL xs ys = true) := Lib.hid (by
        rw [sameL_iff]
        have h := Hno.out
        rw [List.take_of_length_le (by omega), List.take_of_length_le (by rw [Hl.out]; omega)] at h
        exact h)
      go_wp2
      go_ret
      exact ⟨ret_bool Hr.out.symm, ⟨_, rfl⟩⟩

theorem same_any {v u : Value} {xs ys : List Int} (w : World) (hv : IntsAt w v xs) (hu : IntsAt w u ys) (hx : xs.length ≤ maxLen) :
    Calls Tryz.prog 11 #[v, u] w (Ans (sameL xs ys) w) := by
  by_cases hl : ys.length = xs.length
  · rcases hv.cases with ⟨o, c, rfl, rfl, _⟩ | ⟨b, off, c, rfl, hp, hc⟩
    · rcases hu.cases with ⟨o', c', rfl, rfl, _⟩ | ⟨b', off', c', rfl, hp', hc'⟩
      · exact (same_zero o o' c c' w).mono fun e w' ⟨h1, h2⟩ => ⟨h1, h2 ▸ Quiet.refl _⟩
      · simp at hl; rw [hl] at hp'; simp at hp'
    · rcases hu.cases with ⟨o', c', rfl, rfl, _⟩ | ⟨b', off', c', rfl, hp', hc'⟩
      · simp at hl; omega
      · rw [hl]
        exact same_cells b off c b' off' c' xs ys w hx hl hc hc'
  · have hne : sameL xs ys = false := by
      rw [Bool.eq_false_iff, ne_eq, sameL_iff]
      rintro rfl
      exact hl rfl
    obtain ⟨o, c, h1, _⟩ := hv
    obtain ⟨o', c', h2, _⟩ := hu
    rw [ints_len] at h1 h2
    exact (same_len v u o o' _ _ c c' h1 h2 w (fun h => hl h.symm)).mono fun e w' ⟨h1, h2⟩ => ⟨by rw [hne]; exact h1, h2 ▸ Quiet.refl _⟩
end Go.Proofs.YthoboahfogpnfaaGreatDoor
namespace Go.Proofs
open Go.Shelf
def Tryz.lays189_ren : Go.Shelf.Ren := ⟨fun | 189 => 69 | 125 => 86 | 257 => 85 | 128 => 105 | 129 => 106 | 294 => 97 | 295 => 98 | 296 => 99 | 297 => 100 | 298 => 101 | 299 => 102 | 216 => 72 | 300 => 103 | 301 => 104 | 328 => 125 | 329 => 126 | 330 => 127 | 331 => 128 | 332 => 129 | 215 => 87 | 343 => 148 | n => n, fun | 28 => 22 | 3 => 3 | 46 => 127 | 0 => 0 | 51 => 158 | 53 => 154 | 4 => 4 | 183 => 241 | 182 => 240 | 131 => 73 | 5 => 5 | 9 => 9 | 218 => 272 | 222 => 276 | 228 => 310 | 229 => 311 | n => n, fun | n => n⟩
theorem Tryz.lays189 : Go.Proofs.Lays.n189 Tryz.prog Tryz.lays189_ren := {
  mixed := by kernel_rfl
  f125 := Tryz.func86.trans (congrArg some (by kernel_rfl))
  f128 := Tryz.func105.trans (congrArg some (by kernel_rfl))
  f129 := Tryz.func106.trans (congrArg some (by kernel_rfl))
  f189 := Tryz.func69.trans (congrArg some (by kernel_rfl))
  f215 := Tryz.func87.trans (congrArg some (by kernel_rfl))
  f216 := Tryz.func72.trans (congrArg some (by kernel_rfl))
  f257 := Tryz.func85.trans (congrArg some (by kernel_rfl))
  f294 := Tryz.func97.trans (congrArg some (by kernel_rfl))
  f295 := Tryz.func98.trans (congrArg some (by kernel_rfl))
  f296 := Tryz.func99.trans (congrArg some (by kernel_rfl))
  f297 := Tryz.func100.trans (congrArg some (by kernel_rfl))
  f298 := Tryz.func101.trans (congrArg some (by kernel_rfl))
  f299 := Tryz.func102.trans (congrArg some (by kernel_rfl))
  f300 := Tryz.func103.trans (congrArg some (by kernel_rfl))
  f301 := Tryz.func104.trans (congrArg some (by kernel_rfl))
  f328 := Tryz.func125.trans (congrArg some (by kernel_rfl))
  f329 := Tryz.func126.trans (congrArg some (by kernel_rfl))
  f330 := Tryz.func127.trans (congrArg some (by kernel_rfl))
  f331 := Tryz.func128.trans (congrArg some (by kernel_rfl))
  f332 := Tryz.func129.trans (congrArg some (by kernel_rfl))
  f343 := Tryz.func148.trans (congrArg some (by kernel_rfl))
  t0 := Tryz.underlying0
  a0 := Tryz.isAgg0
  z0 := Tryz.sizeOf0
  v0 := Tryz.zeroValue0
  t3 := Tryz.underlying3
  a3 := Tryz.isAgg3
  z3 := Tryz.sizeOf3
  v3 := Tryz.zeroValue3
  t4 := Tryz.underlying4
  a4 := Tryz.isAgg4
  z4 := Tryz.sizeOf4
  v4 := Tryz.zeroValue4
  t5 := Tryz.underlying5
  a5 := Tryz.isAgg5
  z5 := Tryz.sizeOf5
  v5 := Tryz.zeroValue5
  t9 := Tryz.underlying9
  a9 := Tryz.isAgg9
  z9 := Tryz.sizeOf9
  v9 := Tryz.zeroValue9
  t28 := Tryz.underlying22
  a28 := Tryz.isAgg22
  z28 := Tryz.sizeOf22
  v28 := Tryz.zeroValue22
  t46 := Tryz.underlying127
  a46 := Tryz.isAgg127
  z46 := Tryz.sizeOf127
  v46 := Tryz.zeroValue127
  t51 := Tryz.underlying158
  a51 := Tryz.isAgg158
  z51 := Tryz.sizeOf158
  v51 := Tryz.zeroValue158
  t53 := Tryz.underlying154
  a53 := Tryz.isAgg154
  z53 := Tryz.sizeOf154
  v53 := Tryz.zeroValue154
  t131 := Tryz.underlying73
  a131 := Tryz.isAgg73
  z131 := Tryz.sizeOf73
  v131 := Tryz.zeroValue73
  t182 := Tryz.underlying240
  a182 := Tryz.isAgg240
  z182 := Tryz.sizeOf240
  v182 := Tryz.zeroValue240
  t183 := Tryz.underlying241
  a183 := Tryz.isAgg241
  z183 := Tryz.sizeOf241
  v183 := Tryz.zeroValue241
  t218 := Tryz.underlying272
  a218 := Tryz.isAgg272
  z218 := Tryz.sizeOf272
  v218 := Tryz.zeroValue272
  t222 := Tryz.underlying276
  a222 := Tryz.isAgg276
  z222 := Tryz.sizeOf276
  v222 := Tryz.zeroValue276
  t228 := Tryz.underlying310
  a228 := Tryz.isAgg310
  z228 := Tryz.sizeOf310
  v228 := Tryz.zeroValue310
  t229 := Tryz.underlying311
  a229 := Tryz.isAgg311
  z229 := Tryz.sizeOf311
  v229 := Tryz.zeroValue311 }
open Go.Sort Go.RowKit in
theorem Tryz.slices_Sort_int (blk off cap : Nat) (zs : List Int) (w : World) (hH : Holds (Value.int .i64) w blk off zs.toArray) (hblk : blk < w.heap.size) (hsz : zs.length < 4611686018427387904) :
    Calls Tryz.prog 69 #[.slice (some ⟨blk, off, none⟩) zs.length cap] w fun e w' =>
      e = .returned (.tuple #[]) ∧ ∃ n os, w' = grow (putRow (Value.int .i64) (Sort.ahead w n) blk off (zs.mergeSort fun x y => decide (x ≤ y)).toArray) os := Any.slices_Sort_int Tryz.lays189 blk off cap zs w hH hblk hsz
def Tryz.laysNm215_ren : Go.Shelf.Ren := ⟨fun | 15 => 68 | n => n, fun | 22 => 22 | 3 => 3 | 4 => 4 | n => n, fun | n => n⟩
theorem Tryz.laysNm215 : Go.Proofs.Lays2.n15 Tryz.prog Tryz.laysNm215_ren := {
  mixed := by kernel_rfl
  f15 := Tryz.func68.trans (congrArg some (by kernel_rfl))
  t3 := Tryz.underlying3
  a3 := Tryz.isAgg3
  z3 := Tryz.sizeOf3
  v3 := Tryz.zeroValue3
  t4 := Tryz.underlying4
  a4 := Tryz.isAgg4
  z4 := Tryz.sizeOf4
  v4 := Tryz.zeroValue4
  t22 := Tryz.underlying22
  a22 := Tryz.isAgg22
  z22 := Tryz.sizeOf22
  v22 := Tryz.zeroValue22
  i3 := by kernel_rfl }
open Go.RowKit Go.Lib in
theorem Tryz.slices_Clone_int (b off n c : Nat) (zs : List Int) (w : World) (hz : n ≤ zs.length) (hbig : n * 8 ≤ 140737488355328) (hc : ∀ j, j < zs.length → w.cell? ⟨b, off + j, none⟩ = some (.int .i64 (zs.getD j 0))) :
    Calls Tryz.prog 68 #[.slice (some ⟨b, off, none⟩) n c] w fun e w' => ∃ v', e = .returned v' ∧ w'.ownsRow w.heap.size 3 1 v' n ((zs.take n).map (Value.int .i64)) ∧ v' ≠ .slice none 0 0 ∧ Below w.heap.size w w' := Any.slices_Clone_int Tryz.laysNm215 b off n c zs w hz hbig hc
open Go.RowKit Go.Lib in
theorem Tryz.slices_Clone_int_nil (n c : Nat) (w : World) :
    Calls Tryz.prog 68 #[.slice none n c] w fun e w' => e = .returned (.slice none 0 0) ∧ w' = w := Any.slices_Clone_int_nil Tryz.laysNm215 n c w
open Go.RowKit Go.Lib in
theorem Tryz.slices_Clone_int_zero (a : Addr) (c : Nat) (w : World) :
    Calls Tryz.prog 68 #[.slice (some a) 0 c] w fun e w' => ∃ v', e = .returned v' ∧ w'.ownsRow w.heap.size 3 1 v' 0 [] ∧ v' ≠ .slice none 0 0 ∧ Below w.heap.size w w' := Any.slices_Clone_int_zero Tryz.laysNm215 a c w
def Tryz.laysNm220_ren : Go.Shelf.Ren := ⟨fun | 20 => 70 | n => n, fun | 22 => 22 | 3 => 3 | 4 => 4 | 0 => 0 | n => n, fun | n => n⟩
theorem Tryz.laysNm220 : Go.Proofs.Lays2.n20 Tryz.prog Tryz.laysNm220_ren := {
  mixed := by kernel_rfl
  f20 := Tryz.func70.trans (congrArg some (by kernel_rfl))
  t0 := Tryz.underlying0
  a0 := Tryz.isAgg0
  z0 := Tryz.sizeOf0
  v0 := Tryz.zeroValue0
  t3 := Tryz.underlying3
  a3 := Tryz.isAgg3
  z3 := Tryz.sizeOf3
  v3 := Tryz.zeroValue3
  t4 := Tryz.underlying4
  a4 := Tryz.isAgg4
  z4 := Tryz.sizeOf4
  v4 := Tryz.zeroValue4
  t22 := Tryz.underlying22
  a22 := Tryz.isAgg22
  z22 := Tryz.sizeOf22
  v22 := Tryz.zeroValue22
  i3 := by kernel_rfl }
open Go.RowKit Go.Lib Go.Sort in
theorem Tryz.slices_Compact_int (blk off cap : Nat) (zs : List Int) (w : World) (hH : Holds (Value.int .i64) w blk off zs.toArray) (hsz : zs.length ≤ 9223372036854775807) (hcap : zs.length ≤ cap) :
    Calls Tryz.prog 70 #[.slice (some ⟨blk, off, none⟩) zs.length cap] w fun e w' => e = .returned (.slice (some ⟨blk, off, none⟩) (Lib.compact zs).length cap) ∧ ∃ q, w' = putRow (Value.int .i64) (Sort.ahead w q) blk off (Lib.compact zs ++ List.replicate (zs.length - (Lib.compact zs).length) 0).toArray := Any.slices_Compact_int Tryz.laysNm220 blk off cap zs w hH hsz hcap
open Go.RowKit Go.Lib Go.Sort in
theorem Tryz.slices_Compact_int_empty (a : Option Addr) (cap : Nat) (w : World) :
    Calls Tryz.prog 70 #[.slice a 0 cap] w fun e w' => e = .returned (.slice a 0 cap) ∧ w' = w := Any.slices_Compact_int_empty Tryz.laysNm220 a cap w
def Tryz.laysNm225_ren : Go.Shelf.Ren := ⟨fun | 25 => 23 | 31 => 72 | 32 => 73 | 37 => 87 | n => n, fun | 22 => 22 | 3 => 3 | 4 => 4 | 40 => 127 | 0 => 0 | n => n, fun | n => n⟩
theorem Tryz.laysNm225 : Go.Proofs.Lays2.n25 Tryz.prog Tryz.laysNm225_ren := {
  mixed := by kernel_rfl
  f25 := Tryz.func23.trans (congrArg some (by kernel_rfl))
  f31 := Tryz.func72.trans (congrArg some (by kernel_rfl))
  f32 := Tryz.func73.trans (congrArg some (by kernel_rfl))
  f37 := Tryz.func87.trans (congrArg some (by kernel_rfl))
  t0 := Tryz.underlying0
  a0 := Tryz.isAgg0
  z0 := Tryz.sizeOf0
  v0 := Tryz.zeroValue0
  t3 := Tryz.underlying3
  a3 := Tryz.isAgg3
  z3 := Tryz.sizeOf3
  v3 := Tryz.zeroValue3
  t4 := Tryz.underlying4
  a4 := Tryz.isAgg4
  z4 := Tryz.sizeOf4
  v4 := Tryz.zeroValue4
  t22 := Tryz.underlying22
  a22 := Tryz.isAgg22
  z22 := Tryz.sizeOf22
  v22 := Tryz.zeroValue22
  t40 := Tryz.underlying127
  a40 := Tryz.isAgg127
  z40 := Tryz.sizeOf127
  v40 := Tryz.zeroValue127 }
open Go.RowKit Go.Lib in
theorem Tryz.slices_BinarySearch_int (b off n c : Nat) (zs : List Int) (x : Int) (w : World) (hz : n ≤ zs.length) (hbig : n < 4611686018427387904) (hc : ∀ j, j < zs.length → w.cell? ⟨b, off + j, none⟩ = some (.int .i64 (zs.getD j 0))) (hs : (zs.take n).Pairwise (· ≤ ·)) :
    Calls Tryz.prog 23 #[.slice (some ⟨b, off, none⟩) n c, .int .i64 x] w fun e w' => e = .returned (.tuple #[.int .i64 ((zs.take n).countP (· < x) : Nat), .bool ((zs.take n).contains x)]) ∧ ∃ q, w' = w.drewN q := Any.slices_BinarySearch_int Tryz.laysNm225 b off n c zs x w hz hbig hc hs
open Go.RowKit Go.Sort in
theorem Tryz.slices_Sort_int_none (p : Option Addr) (cap : Nat) (w : World) :
    Calls Tryz.prog 69 #[.slice p 0 cap] w fun e w' => e = .returned (.tuple #[]) ∧ w' = w := Any.slices_Sort_int_none Tryz.lays189 p cap w
open Go.RowKit Go.Lib in
theorem Tryz.slices_BinarySearch_int_empty (a : Option Addr) (c : Nat) (x : Int) (w : World) :
    Calls Tryz.prog 23 #[.slice a 0 c, .int .i64 x] w fun e w' => e = .returned (.tuple #[.int .i64 0, .bool false]) ∧ w' = w := Any.slices_BinarySearch_int_empty Tryz.laysNm225 a c x w
def Tryz.laysSlH6_f71_ren : Go.Shelf.Ren := ⟨fun | 6 => 71 | n => n, fun | 22 => 22 | 23 => 3 | 25 => 75 | 3 => 3 | 0 => 0 | 4 => 4 | n => n, fun | n => n⟩
theorem Tryz.laysSlH6_f71 : Go.Proofs.SlLaysH.n6 Tryz.prog Tryz.laysSlH6_f71_ren := {
  mixed := by kernel_rfl
  f6 := ⟨Tryz.f71.name, by decide, Tryz.func71.trans (congrArg some (by kernel_rfl))⟩
  t0 := Tryz.underlying0
  a0 := Tryz.isAgg0
  z0 := Tryz.sizeOf0
  v0 := Tryz.zeroValue0
  t3 := Tryz.underlying3
  a3 := Tryz.isAgg3
  z3 := Tryz.sizeOf3
  v3 := Tryz.zeroValue3
  t4 := Tryz.underlying4
  a4 := Tryz.isAgg4
  z4 := Tryz.sizeOf4
  v4 := Tryz.zeroValue4
  t22 := Tryz.underlying22
  a22 := Tryz.isAgg22
  z22 := Tryz.sizeOf22
  v22 := Tryz.zeroValue22
  a23 := Tryz.isAgg3
  z23 := Tryz.sizeOf3
  t25 := Tryz.underlying75
  a25 := Tryz.isAgg75
  z25 := Tryz.sizeOf75
  v25 := Tryz.zeroValue75 }
open Go.RowKit Go.Lib in
theorem Tryz.slices_IndexFunc_empty {α : Type} [Inhabited α] (a : Option Addr) (c : Nat) (fv : Value) (w : World) :
    Calls Tryz.prog 71 #[.slice a 0 c, fv] w fun e w' => e = .returned (.int .i64 (-1)) ∧ w' = w := AnyE.slices_IndexFunc_empty Tryz.laysSlH6_f71 a c fv w
def Tryz.laysSlH10_f21_ren : Go.Shelf.Ren := ⟨fun | 10 => 21 | 6 => 71 | n => n, fun | 22 => 22 | 23 => 3 | 25 => 75 | 3 => 3 | 4 => 4 | 0 => 0 | n => n, fun | n => n⟩
theorem Tryz.laysSlH10_f21 : Go.Proofs.SlLaysH.n10 Tryz.prog Tryz.laysSlH10_f21_ren := {
  mixed := by kernel_rfl
  f6 := ⟨Tryz.f71.name, by decide, Tryz.func71.trans (congrArg some (by kernel_rfl))⟩
  f10 := ⟨Tryz.f21.name, by decide, Tryz.func21.trans (congrArg some (by kernel_rfl))⟩
  t0 := Tryz.underlying0
  a0 := Tryz.isAgg0
  z0 := Tryz.sizeOf0
  v0 := Tryz.zeroValue0
  t3 := Tryz.underlying3
  a3 := Tryz.isAgg3
  z3 := Tryz.sizeOf3
  v3 := Tryz.zeroValue3
  t4 := Tryz.underlying4
  a4 := Tryz.isAgg4
  z4 := Tryz.sizeOf4
  v4 := Tryz.zeroValue4
  t22 := Tryz.underlying22
  a22 := Tryz.isAgg22
  z22 := Tryz.sizeOf22
  v22 := Tryz.zeroValue22
  a23 := Tryz.isAgg3
  z23 := Tryz.sizeOf3
  t25 := Tryz.underlying75
  a25 := Tryz.isAgg75
  z25 := Tryz.sizeOf75
  v25 := Tryz.zeroValue75 }
open Go.RowKit Go.Lib Go.Sort in
theorem Tryz.slices_DeleteFunc {α : Type} [Inhabited α] (enc : α → Value) (hO : OneCell enc) (p : α → Bool) (g : Nat) (lb : Array Value) (eg : ∀ args w, (callFunc g args).run Tryz.prog w = .ok (.enter g args) w) (zr : α) (v23 : ∀ w, (zeroValue 3).run Tryz.prog w = .ok (enc zr) w) (blk off cap : Nat) (d : Array α) (w : World) (hp : PredAt Tryz.prog g lb enc p w) (hpo : PredOver Tryz.prog g lb enc p blk off d.size w) (hH : Holds enc w blk off d) (hsz : d.size ≤ 9223372036854775807) (hcap : d.size ≤ cap) :
    Calls Tryz.prog 21 #[.slice (some ⟨blk, off, none⟩) d.size cap, .func (.func g) #[] lb] w fun e w' => e = .returned (.slice (some ⟨blk, off, none⟩) (d.toList.filter fun x => !p x).length cap) ∧ ∃ q, w' = putRow enc (Sort.ahead w q) blk off ((d.toList.filter fun x => !p x) ++ List.replicate (d.size - (d.toList.filter fun x => !p x).length) zr).toArray := AnyE.slices_DeleteFunc Tryz.laysSlH10_f21 enc hO p g lb eg zr v23 blk off cap d w hp hpo hH hsz hcap
end Go.Proofs
namespace Go.Proofs.YthoboahfogpnfaaGreatDoor
open Go Go.RowKit Go.Sort Go.Lib


def norm (zs : List Int) : List Int := Lib.compact (zs.mergeSort fun x y => decide (x ≤ y))

def Owns (w : World) (B : Nat) (v : Value) (zs : List Int) : Prop := w.ownsRow B 3 1 v zs.length (zs.map (Value.int .i64))

theorem Owns.grow {w : World} {B : Nat} {v : Value} {zs : List Int} (h : Owns w B v zs) (os : Array Obj) : Owns (Sort.grow w os) B v zs := by
  obtain ⟨h1, h2⟩ := h
  refine ⟨h1, ?_⟩
  rcases h2 with h2 | ⟨g, cap, cur, e, hb, hg, h3⟩
  · exact .inl h2
  · refine .inr ⟨g, cap, cur, e, hb, ?_, h3⟩
    have hlt : g < w.heap.size := by
      rcases Nat.lt_or_ge g w.heap.size with h | h
      · exact h
      · rw [Array.getElem?_eq_none h] at hg; cases hg
    show (w.heap ++ os)[g]? = _
    rw [Array.getElem?_append, if_pos hlt]
    exact hg

theorem Owns.keep {w w' : World} {B B' : Nat} {v : Value} {zs : List Int} (h : Owns w B v zs) (hb : Below B' w w') (hB : w.heap.size ≤ B') : Owns w' B v zs := by
  obtain ⟨h1, h2⟩ := h
  refine ⟨h1, ?_⟩
  rcases h2 with h2 | ⟨g, cap, cur, e, hb', hg, h3⟩
  · exact .inl h2
  · refine .inr ⟨g, cap, cur, e, hb', ?_, h3⟩
    have hlt : g < w.heap.size := by
      rcases Nat.lt_or_ge g w.heap.size with h | h
      · exact h
      · rw [Array.getElem?_eq_none h] at hg; cases hg
    rw [hb.block g (by omega)]
    exact hg

theorem Owns.nil (w : World) (B : Nat) : Owns w B (.slice none 0 0) [] := ⟨rfl, .inl ⟨rfl, rfl⟩⟩


theorem Owns.ints {w : World} {B : Nat} {v : Value} {zs : List Int} (h : Owns w B v zs) : IntsAt w v zs := by
  by_cases hv : v = .slice none 0 0
  · subst hv
    rcases h.2 with ⟨_, h0⟩ | ⟨g, cap, cur, e, _⟩
    · have : zs = [] := List.eq_nil_of_length_eq_zero h0
      subst this
      exact IntsAt.none w
    · cases e
  · obtain ⟨g, cap, rfl, _, hlt, hn, hm, _, hH⟩ := holds_of_ownsRow h hv
    refine IntsAt.mk fun j z hz => ?_
    obtain ⟨hj, rfl⟩ := List.getElem?_eq_some_iff.1 hz
    have := (hH j (by simpa using hj)).1
    simpa [hj] using this

end Go.Proofs.YthoboahfogpnfaaGreatDoor
namespace Go.Proofs.YthoboahfogpnfaaGreatDoor
open Go Go.RowKit Go.Sort Go.Lib


def Gives (B : Nat) (zs : List Int) (w : World) (e : Ending) (w' : World) : Prop := ∃ v, e = .returned v ∧ Owns w' B v zs ∧ Below B w w'
def Fresh (zs : List Int) (w : World) : Ending → World → Prop := Gives w.heap.size zs w

theorem norm_nil : norm [] = [] := by
  unfold norm
  rw [List.mergeSort_nil]
  rfl

theorem below_grow {B : Nat} {a w : World} (h : Below B a w) (os : Array Obj) (hB : B ≤ w.heap.size) : Below B a (Sort.grow w os) :=
  ⟨h.os, h.tape, h.output, by show a.heap.size ≤ (w.heap ++ os).size; rw [Array.size_append]; have := h.size; omega, fun k hk => by
    show (w.heap ++ os)[k]? = _
    rw [Array.getElem?_append, if_pos (by omega)]
    exact h.block k hk⟩


theorem Owns.cases {w : World} {B : Nat} {v : Value} {zs : List Int} (h : Owns w B v zs) :
    (v = .slice none 0 0 ∧ zs = []) ∨ ∃ g cap, v = .slice (some ⟨g, 0, none⟩) zs.length cap ∧ B ≤ g ∧ g < w.heap.size ∧ zs.length ≤ cap ∧ cap ≤ maxLen ∧ Holds (Value.int .i64) w g 0 zs.toArray := by
  by_cases hv : v = .slice none 0 0
  · subst hv
    rcases h.2 with ⟨_, h0⟩ | ⟨g, cap, cur, e, _⟩
    · exact .inl ⟨rfl, List.eq_nil_of_length_eq_zero h0⟩
    · cases e
  · obtain ⟨g, cap, h1, h2, h3, h4, h5, _, h6⟩ := holds_of_ownsRow h hv
    exact .inr ⟨g, cap, h1, h2, h3, h4, h5, h6⟩

theorem clone_any {v : Value} {zs : List Int} (w : World) (h : IntsAt w v zs) (hbig : zs.length * 8 ≤ 140737488355328) : Calls Tryz.prog 68 #[v] w (Fresh zs w) := by
  rcases h.cases with ⟨o, c, rfl, rfl, h0⟩ | ⟨b, off, c, rfl, hp, hc⟩
  · cases o with
    | none =>
      obtain rfl := h0 rfl
      exact (Tryz.slices_Clone_int_nil 0 0 w).mono fun e w' ⟨h1, h2⟩ => ⟨_, h1, by rw [h2]; exact Owns.nil w _, by rw [h2]; exact Below.refl _ _⟩
    | some a => exact (Tryz.slices_Clone_int_zero a c w).mono fun e w' ⟨v', h1, h2, _, h3⟩ => ⟨v', h1, h2, h3⟩
  · refine (Tryz.slices_Clone_int b off zs.length c zs w (Nat.le_refl _) hbig (fun j hj => ?_)).mono fun e w' ⟨v', h1, h2, _, h3⟩ => ⟨v', h1, ?_, h3⟩
    · rw [hc j zs[j] (by simp [hj])]
      simp [hj]
    · rw [List.take_length] at h2
      exact h2

def srt (zs : List Int) : List Int := zs.mergeSort fun x y => decide (x ≤ y)
theorem srt_len (zs : List Int) : (srt zs).length = zs.length := List.length_mergeSort _
theorem norm_eq (zs : List Int) : norm zs = Lib.compact (srt zs) := rfl

def Turns (B : Nat) (v : Value) (zs : List Int) (w : World) (e : Ending) (w' : World) : Prop := e = .returned (.tuple #[]) ∧ Owns w' B v zs ∧ Below B w w'

theorem sort_owned {v : Value} {zs : List Int} {B : Nat} (w : World) (h : Owns w B v zs) (hB : B ≤ w.heap.size) (hsz : zs.length < 4611686018427387904) : Calls Tryz.prog 69 #[v] w (Turns B v (srt zs) w) := by
  rcases h.cases with ⟨rfl, rfl⟩ | ⟨g, cap, rfl, hg1, hg2, hn, hm, hH⟩
  · exact (Tryz.slices_Sort_int_none none 0 w).mono fun e w' ⟨h1, h2⟩ => ⟨h1, by rw [h2]; show Owns w B _ ([].mergeSort _); rw [List.mergeSort_nil]; exact Owns.nil w B, by rw [h2]; exact Below.refl _ _⟩
  · refine (Tryz.slices_Sort_int g 0 cap zs w hH hg2 hsz).mono fun e w' ⟨h1, n, os, h2⟩ => ⟨h1, ?_, ?_⟩
    · rw [h2]
      refine Owns.grow ?_ os
      have := ownsRow_putRow (q := n) (k := zs.length) (ys := srt zs) h (srt_len zs) (Nat.le_refl _)
      rw [List.take_of_length_le (by rw [srt_len]; exact Nat.le_refl _)] at this
      unfold Owns
      rw [srt_len]
      exact this
    · rw [h2]
      exact below_grow (below_putRow (Below.refl _ _) hg1) os (by simpa [putRow, mapBlock, Sort.ahead] using hB)

theorem compact_owned {v : Value} {zs : List Int} {B : Nat} (w : World) (h : Owns w B v zs) : Calls Tryz.prog 70 #[v] w (Gives B (Lib.compact zs) w) := by
  rcases h.cases with ⟨rfl, rfl⟩ | ⟨g, cap, rfl, hg1, hg2, hn, hm, hH⟩
  · exact (Tryz.slices_Compact_int_empty none 0 w).mono fun e w' ⟨h1, h2⟩ => ⟨_, h1, by rw [h2]; exact Owns.nil w B, by rw [h2]; exact Below.refl _ _⟩
  · refine (Tryz.slices_Compact_int g 0 cap zs w hH (by unfold maxLen at hm; omega) hn).mono fun e w' ⟨h1, q, h2⟩ => ⟨_, h1, ?_, ?_⟩
    · rw [h2]
      have hl := compact_length_le zs
      have := ownsRow_putRow (q := q) (k := (Lib.compact zs).length) (ys := Lib.compact zs ++ List.replicate (zs.length - (Lib.compact zs).length) 0) h (by simp; omega) hl
      rw [List.take_left] at this
      exact this
    · rw [h2]
      exact below_putRow (Below.refl _ _) hg1

set_option maxHeartbeats 400000 in
theorem list_any {v : Value} {zs : List Int} (w : World) (h : IntsAt w v zs) (hbig : zs.length * 8 ≤ 140737488355328) : Calls Tryz.prog 20 #[v] w (Fresh (norm zs) w) := by
  have H1 := Lib.hid (clone_any w h hbig)
  have Hbig := Lib.hid hbig
  clear h hbig
  go_enter Tryz.func20, Tryz.ntmps20
  go_wp2_with fail
  refine H1.out.mono ?_
  rintro e w1 ⟨u, rfl, ho1, hb1⟩
  have H2 := Lib.hid (sort_owned w1 ho1 hb1.size (by have := Hbig.out; omega))
  have Hb1 := Lib.hid hb1
  clear ho1 hb1
  go_wp2_with fail
  refine H2.out.mono ?_
  rintro e w2 ⟨rfl, ho2, hb2⟩
  have H3 := Lib.hid (compact_owned w2 ho2)
  have Hb2 := Lib.hid (Hb1.out.trans hb2)
  clear ho2 hb2
  go_wp2_with fail
  refine H3.out.mono ?_
  rintro e w3 ⟨u3, rfl, ho3, hb3⟩
  have H4 : Hid (Fresh (norm zs) w (.returned u3) w3) := Lib.hid ⟨u3, rfl, ho3, Hb2.out.trans hb3⟩
  clear ho3 hb3
  go_wp2_with fail
  go_ret
  exact H4.out
end Go.Proofs.YthoboahfogpnfaaGreatDoor
namespace Go.Proofs.YthoboahfogpnfaaGreatDoor
open Go Go.RowKit Go.Sort Go.Lib

theorem compact_inv (d : Array Int) (hs : ∀ i j, i ≤ j → j < d.size → d[i]! ≤ d[j]!) : ∀ m, m ≤ d.size →
    (Lib.compactUpTo d m).Pairwise (· < ·) ∧ ∀ n, n ∈ Lib.compactUpTo d m ↔ ∃ j, j < m ∧ d[j]! = n := by
  intro m
  induction m with
  | zero => intro _; simp [Lib.compactUpTo]
  | succ m ih =>
    intro hm
    obtain ⟨h1, h2⟩ := ih (by omega)
    rw [Lib.compactUpTo_succ]
    by_cases hk : Lib.keeps d m = true
    · rw [if_pos hk]
      constructor
      · rw [List.pairwise_append]
        refine ⟨h1, by simp, fun a ha b hb => ?_⟩
        simp only [List.mem_singleton] at hb
        subst hb
        obtain ⟨j, hj, rfl⟩ := (h2 a).1 ha
        have h3 := hs j (m - 1) (by omega) (by omega)
        have h4 := hs (m - 1) m (by omega) (by omega)
        unfold Lib.keeps at hk
        simp at hk
        have : d[m]! ≠ d[m - 1]! := by
          rcases hk with hk | hk
          · omega
          · exact hk
        omega
      · intro n
        rw [List.mem_append, h2]
        simp only [List.mem_singleton]
        constructor
        · rintro (⟨j, hj, e⟩ | e)
          · exact ⟨j, by omega, e⟩
          · exact ⟨m, by omega, e.symm⟩
        · rintro ⟨j, hj, e⟩
          by_cases hjm : j = m
          · subst hjm; exact .inr e.symm
          · exact .inl ⟨j, by omega, e⟩
    · rw [if_neg hk]
      simp only [List.append_nil]
      refine ⟨h1, fun n => ?_⟩
      rw [h2]
      unfold Lib.keeps at hk
      simp at hk
      constructor
      · rintro ⟨j, hj, e⟩; exact ⟨j, by omega, e⟩
      · rintro ⟨j, hj, e⟩
        by_cases hjm : j = m
        · subst hjm; exact ⟨j - 1, by omega, by rw [← e]; exact hk.2.symm⟩
        · exact ⟨j, by omega, e⟩

theorem srt_sorted (zs : List Int) : (srt zs).Pairwise (· ≤ ·) := by
  have := List.pairwise_mergeSort (le := fun x y : Int => decide (x ≤ y)) (fun a b c => by simp; omega) (fun a b => by simp; omega) zs
  exact this.imp fun h => by simpa using h

theorem norm_inv (zs : List Int) : (norm zs).Pairwise (· < ·) ∧ ∀ n, n ∈ norm zs ↔ n ∈ zs := by
  have hs : ∀ i j, i ≤ j → j < (srt zs).toArray.size → (srt zs).toArray[i]! ≤ (srt zs).toArray[j]! := by
    intro i j hij hj
    simp only [List.size_toArray] at hj
    rw [getElem!_pos _ i (by simpa using (by omega : i < (srt zs).length)), getElem!_pos _ j (by simpa using hj)]
    simp only [List.getElem_toArray]
    rcases Nat.lt_or_eq_of_le hij with h | h
    · exact List.pairwise_iff_getElem.1 (srt_sorted zs) i j (by omega) hj h
    · subst h; exact Int.le_refl _
  obtain ⟨h1, h2⟩ := compact_inv _ hs (srt zs).length (by simp)
  refine ⟨h1, fun n => ?_⟩
  have h3 := h2 n
  rw [show Lib.compactUpTo (srt zs).toArray (srt zs).length = norm zs from rfl] at h3
  rw [h3]
  have hp : n ∈ srt zs ↔ n ∈ zs := List.mem_mergeSort
  rw [← hp]
  constructor
  · rintro ⟨j, hj, rfl⟩
    rw [getElem!_pos _ j (by simpa using hj)]
    simp
  · intro h
    obtain ⟨j, hj, rfl⟩ := List.getElem_of_mem h
    exact ⟨j, hj, by rw [getElem!_pos _ j (by simpa using hj)]; simp⟩
theorem norm_sorted (zs : List Int) : (norm zs).Pairwise (· < ·) := (norm_inv zs).1
theorem mem_norm {zs : List Int} {n : Int} : n ∈ norm zs ↔ n ∈ zs := (norm_inv zs).2 n
theorem norm_le (zs : List Int) : (norm zs).Pairwise (· ≤ ·) := (norm_sorted zs).imp fun h => by omega
theorem norm_len (zs : List Int) : (norm zs).length ≤ zs.length := Nat.le_trans (compact_length_le _) (by rw [← srt_len zs]; exact Nat.le_refl _)
end Go.Proofs.YthoboahfogpnfaaGreatDoor
namespace Go.Proofs.YthoboahfogpnfaaGreatDoor
open Go Go.RowKit Go.Sort Go.Lib

theorem search_any {v : Value} {ys : List Int} (x : Int) (w : World) (h : IntsAt w v ys) (hs : ys.Pairwise (· ≤ ·)) (hl : ys.length < 4611686018427387904) :
    Calls Tryz.prog 23 #[v, .int .i64 x] w fun e w' => (∃ n : Nat, e = .returned (.tuple #[.int .i64 (n : Int), .bool (hasN ys x)])) ∧ Quiet w w' := by
  rcases h.cases with ⟨o, c, rfl, rfl, h0⟩ | ⟨b, off, c, rfl, hp, hc⟩
  · exact (Tryz.slices_BinarySearch_int_empty o c x w).mono fun e w' ⟨h1, h2⟩ => ⟨⟨0, h1⟩, h2 ▸ Quiet.refl _⟩
  · refine (Tryz.slices_BinarySearch_int b off ys.length c ys x w (Nat.le_refl _) hl (fun j hj => ?_) (by rw [List.take_length]; exact hs)).mono fun e w' ⟨h1, h2⟩ => ⟨⟨(ys.take ys.length).countP (· < x), ?_⟩, h2⟩
    · rw [hc j ys[j] (by simp [hj])]
      simp [hj]
    · rw [h1, List.take_length]; rfl

theorem not_pred (B : Nat) {v : Value} {ys : List Int} (x : Int) (W : World) (hc : W.cell? ⟨B, 0, none⟩ = some v) (h : IntsAt W v ys) (hs : ys.Pairwise (· ≤ ·)) (hl : ys.length < 4611686018427387904) :
    FnGives Tryz.prog 27 #[.pointer (some ⟨B, 0, none⟩)] #[.int .i64 x] (.bool (hasN ys x)) W := by
  show Calls Tryz.prog 27 #[.int .i64 x, .pointer (some ⟨B, 0, none⟩)] W _
  have H1 := Lib.hid (search_any x W h hs hl)
  clear h hs hl
  go_enter Tryz.func27, Tryz.ntmps27
  go_wp2_with fail
  refine H1.out.mono ?_
  rintro e w1 ⟨⟨n, rfl⟩, hq⟩
  obtain ⟨q, rfl⟩ := hq
  go_wp2_with fail
  go_ret
  exact ⟨rfl, q, rfl⟩

theorem and_pred (B : Nat) {v : Value} {ys : List Int} (x : Int) (W : World) (hc : W.cell? ⟨B, 0, none⟩ = some v) (h : IntsAt W v ys) (hs : ys.Pairwise (· ≤ ·)) (hl : ys.length < 4611686018427387904) :
    FnGives Tryz.prog 22 #[.pointer (some ⟨B, 0, none⟩)] #[.int .i64 x] (.bool (!hasN ys x)) W := by
  show Calls Tryz.prog 22 #[.int .i64 x, .pointer (some ⟨B, 0, none⟩)] W _
  have H1 := Lib.hid (search_any x W h hs hl)
  clear h hs hl
  go_enter Tryz.func22, Tryz.ntmps22
  go_wp2_with fail
  refine H1.out.mono ?_
  rintro e w1 ⟨⟨n, rfl⟩, hq⟩
  obtain ⟨q, rfl⟩ := hq
  go_wp2_with fail
  go_ret
  exact ⟨rfl, q, rfl⟩


def OldBut (blk : Nat) (w W : World) : Prop := w.heap.size ≤ W.heap.size ∧ ∀ k, k < w.heap.size → k ≠ blk → W.heap[k]? = w.heap[k]?

theorem OldBut.of_below {blk : Nat} {w W : World} (h : Below w.heap.size w W) : OldBut blk w W := ⟨h.size, fun k hk _ => h.block k hk⟩
theorem OldBut.of_sort {α : Type} [Inhabited α] (enc : α → Value) (w : World) (blk off n : Nat) (dk : Array α) (os : Array Obj) : OldBut blk w (sortWorld enc w blk off n dk os) := by
  unfold sortWorld Sort.grow putRow mapBlock Sort.ahead
  constructor
  · simp
  · intro k hk hne
    simp only
    rw [Array.getElem?_append, if_pos (by simpa using hk), Array.getElem?_modify, if_neg (by omega)]

theorem OldBut.cell {blk : Nat} {w W : World} (h : OldBut blk w W) {a : Addr} {v : Value} (hc : w.cell? a = some v) (hne : a.block ≠ blk) : W.cell? a = some v := by
  rw [World.cell?_of_block (w := w) (w' := W) (h.2 _ (cell_lt hc) hne)]
  exact hc

theorem Owns.oldBut {blk B : Nat} {w W : World} {v : Value} {zs : List Int} (h : Owns w B v zs) (hb : OldBut blk w W) (hB : blk < B) : Owns W B v zs := by
  obtain ⟨h1, h2⟩ := h
  refine ⟨h1, ?_⟩
  rcases h2 with h2 | ⟨g, cap, cur, e, hb', hg, h3⟩
  · exact .inl h2
  · refine .inr ⟨g, cap, cur, e, hb', ?_, h3⟩
    have hlt : g < w.heap.size := by
      rcases Nat.lt_or_ge g w.heap.size with h | h
      · exact h
      · rw [Array.getElem?_eq_none h] at hg; cases hg
    rw [hb.2 g hlt (by omega)]
    exact hg

theorem zero3 (w : World) : (zeroValue 3).run Tryz.prog w = .ok (.int .i64 0) w := by kernel_rfl

set_option maxHeartbeats 400000 in
theorem delete_nil (f : Value) (w : World) : Calls Tryz.prog 21 #[.slice none 0 0, f] w fun e w' => e = .returned (.slice none 0 0) ∧ w = w' := by
  go_enter Tryz.func21, Tryz.ntmps21
  go_wp2_with fail
  refine (Tryz.slices_IndexFunc_empty (α := Int) _ _ _ _).mono ?_
  rintro e w' ⟨rfl, rfl⟩
  go_wp2_with fail
  go_ret
  exact ⟨rfl, rfl⟩


def blockOf : Value → Nat
  | .slice (some a) _ _ => a.block
  | _ => 0

theorem delete_owned {v : Value} {zs : List Int} {B : Nat} (w : World) (h : Owns w B v zs) (p : Int → Bool) (g : Nat) (lb : Array Value) (eg : ∀ args w, (callFunc g args).run Tryz.prog w = .ok (.enter g args) w)
    (hp : v ≠ .slice none 0 0 → ∀ W x, OldBut (blockOf v) w W → FnGives Tryz.prog g lb #[.int .i64 x] (.bool (p x)) W) :
    Calls Tryz.prog 21 #[v, .func (.func g) #[] lb] w (Gives B (zs.filter fun x => !p x) w) := by
  rcases h.cases with ⟨rfl, rfl⟩ | ⟨gb, cap, rfl, hg1, hg2, hn, hm, hH⟩
  · exact (delete_nil _ w).mono fun e w' ⟨h1, h2⟩ => ⟨_, h1, by rw [← h2]; exact Owns.nil w B, by rw [← h2]; exact Below.refl _ _⟩
  · have hp' := hp (by simp)
    have hD := Tryz.slices_DeleteFunc (Value.int .i64) (fun _ => rfl) p g lb eg 0 zero3 gb 0 cap zs.toArray w (fun W x hb => hp' W x (OldBut.of_below hb)) (fun n os dk x _ => hp' _ x (OldBut.of_sort ..)) hH
      (by simp; unfold maxLen at hm; omega) (by simpa using hn)
    rw [show zs.toArray.size = zs.length from by simp] at hD
    refine hD.mono fun e w' ⟨h1, q, h2⟩ => ⟨_, h1, ?_, ?_⟩
    · rw [h2]
      have hl : (zs.filter fun x => !p x).length ≤ zs.length := List.length_filter_le _ _
      have := ownsRow_putRow (q := q) (k := (zs.filter fun x => !p x).length) (ys := (zs.filter fun x => !p x) ++ List.replicate (zs.length - (zs.filter fun x => !p x).length) 0) h (by simp; omega) hl
      rw [List.take_left] at this
      exact this
    · rw [h2]
      exact below_putRow (Below.refl _ _) hg1
end Go.Proofs.YthoboahfogpnfaaGreatDoor
namespace Go.Proofs.YthoboahfogpnfaaGreatDoor
open Go Go.RowKit Go.Sort Go.Lib


def Olds (w W : World) : Prop := w.heap.size ≤ W.heap.size ∧ ∀ k, k < w.heap.size → W.heap[k]? = w.heap[k]?
theorem Olds.refl (w : World) : Olds w w := ⟨Nat.le_refl _, fun _ _ => rfl⟩
theorem Olds.of_below {w W : World} (h : Below w.heap.size w W) : Olds w W := ⟨h.size, h.block⟩
theorem Olds.of_below' {B : Nat} {w W : World} (h : Below B w W) (hB : w.heap.size ≤ B) : Olds w W := ⟨h.size, fun k hk => h.block k (by omega)⟩
theorem Olds.trans {a b c : World} (h : Olds a b) (k : Olds b c) : Olds a c := ⟨Nat.le_trans h.1 k.1, fun i hi => (k.2 i (Nat.lt_of_lt_of_le hi h.1)).trans (h.2 i hi)⟩
theorem Olds.but {blk : Nat} {a b c : World} (h : Olds a b) (k : OldBut blk b c) (hb : a.heap.size ≤ blk) : Olds a c :=
  ⟨Nat.le_trans h.1 k.1, fun i hi => (k.2 i (Nat.lt_of_lt_of_le hi h.1) (by omega)).trans (h.2 i hi)⟩
theorem Olds.alloc (w : World) (o : Obj) : Olds w (w.alloc o) := Olds.of_below ((Below.refl _ _).alloc (Nat.le_refl _) _)
theorem Olds.cell {w W : World} (h : Olds w W) {a : Addr} {v : Value} (hc : w.cell? a = some v) : W.cell? a = some v := by
  rw [World.cell?_of_block (w := w) (w' := W) (h.2 _ (cell_lt hc))]
  exact hc
theorem CellsAt.olds {w w' : World} {b off : Nat} {vs : List Value} (h : CellsAt w b off vs) (hb : Olds w w') : CellsAt w' b off vs := fun j v hv => hb.cell (h j v hv)
theorem RowAt.olds {w w' : World} {v : Value} {vs : List Value} (h : RowAt w v vs) (hb : Olds w w') : RowAt w' v vs := by
  obtain ⟨o, c, h1, h2, h3⟩ := h
  exact ⟨o, c, h1, h2, fun hne => by obtain ⟨b, off, e, hc⟩ := h3 hne; exact ⟨b, off, e, hc.olds hb⟩⟩
theorem IntsAt.olds {w w' : World} {v : Value} {zs : List Int} (h : IntsAt w v zs) (hb : Olds w w') : IntsAt w' v zs := RowAt.olds h hb
theorem Owns.mono {w : World} {B B' : Nat} {v : Value} {zs : List Int} (h : Owns w B v zs) (hB : B' ≤ B) : Owns w B' v zs := by
  obtain ⟨h1, h2⟩ := h
  refine ⟨h1, ?_⟩
  rcases h2 with h2 | ⟨g, cap, cur, e, hb', hg⟩
  · exact .inl h2
  · exact .inr ⟨g, cap, cur, e, by omega, hg⟩
theorem Owns.olds {w W : World} {B : Nat} {v : Value} {zs : List Int} (h : Owns w B v zs) (hb : Olds w W) : Owns W B v zs := by
  obtain ⟨h1, h2⟩ := h
  refine ⟨h1, ?_⟩
  rcases h2 with h2 | ⟨g, cap, cur, e, hb', hg, h3⟩
  · exact .inl h2
  · refine .inr ⟨g, cap, cur, e, hb', ?_, h3⟩
    have hlt : g < w.heap.size := by
      rcases Nat.lt_or_ge g w.heap.size with h | h
      · exact h
      · rw [Array.getElem?_eq_none h] at hg; cases hg
    rw [hb.2 g hlt]
    exact hg
theorem Owns.block {w : World} {B : Nat} {v : Value} {zs : List Int} (h : Owns w B v zs) (hv : v ≠ .slice none 0 0) : B ≤ blockOf v ∧ blockOf v < w.heap.size := by
  rcases h.cases with ⟨h, _⟩ | ⟨g, cap, rfl, h1, h2, _⟩
  · exact absurd h hv
  · exact ⟨h1, h2⟩

theorem Owns.shape {w : World} {B : Nat} {v : Value} {zs : List Int} (h : Owns w B v zs) : ∃ o c, v = .slice o zs.length c := by
  rcases h.cases with ⟨rfl, rfl⟩ | ⟨g, cap, rfl, _⟩
  · exact ⟨none, 0, rfl⟩
  · exact ⟨_, cap, rfl⟩






theorem enters27 : ∀ args w, (callFunc 27 args).run Tryz.prog w = .ok (.enter 27 args) w := enters_of Tryz.func27 (by kernel_rfl) rfl
theorem enters22 : ∀ args w, (callFunc 22 args).run Tryz.prog w = .ok (.enter 22 args) w := enters_of Tryz.func22 (by kernel_rfl) rfl

def minus (xs ys : List Int) : List Int := xs.filter fun x => !hasN ys x
def meet (xs ys : List Int) : List Int := xs.filter fun x => hasN ys x

set_option maxHeartbeats 400000 in
theorem not_any {va vb : Value} {xs ys : List Int} (w : World) (ha : IntsAt w va xs) (hb : IntsAt w vb ys) (hx : xs.length * 8 ≤ 140737488355328) (hy : ys.length * 8 ≤ 140737488355328) :
    Calls Tryz.prog 8 #[va, vb] w (Fresh (minus (norm xs) (norm ys)) w) := by
  have H1 := Lib.hid (list_any w hb hy)
  have Ha := Lib.hid ha
  have Hx := Lib.hid hx
  have Hy := Lib.hid hy
  clear ha hb hx hy
  go_enter Tryz.func8, Tryz.ntmps8
  go_wp2_with fail
  refine H1.out.mono ?_
  rintro e w1 ⟨v1, rfl, ho1, hb1⟩
  obtain ⟨o1, c1, rfl⟩ := ho1.shape
  have Hb1 := Lib.hid hb1
  have Ho1 := Lib.hid ho1
  clear ho1 hb1
  go_wp2_with fail
  have Hold1 : Hid (Olds w (w1.alloc (.cells #[.slice o1 (norm ys).length c1] 22))) := Lib.hid ((Olds.of_below Hb1.out).trans (Olds.alloc _ _))
  have Hsz : Hid ((w1.alloc (.cells #[.slice o1 (norm ys).length c1] 22)).heap.size = w1.heap.size + 1) := Lib.hid (by simp)
  have Hbox : Hid ((w1.alloc (.cells #[.slice o1 (norm ys).length c1] 22)).cell? ⟨w1.heap.size, 0, none⟩ = some (.slice o1 (norm ys).length c1)) := Lib.hid (by simp)
  have Hbel : Hid (Below w.heap.size w (w1.alloc (.cells #[.slice o1 (norm ys).length c1] 22))) := Lib.hid (Hb1.out.alloc (by have := Hb1.out.size; omega) _)
  refine (list_any _ (Ha.out.olds Hold1.out) Hx.out).mono ?_
  rintro e w3 ⟨v3, rfl, ho3, hb3⟩
  obtain ⟨o3, c3, rfl⟩ := ho3.shape
  have Hold3 : Hid (Olds w1 w3) := Lib.hid ((Olds.alloc _ _).trans (Olds.of_below hb3))
  have Hbox3 : Hid (w3.cell? ⟨w1.heap.size, 0, none⟩ = some (.slice o1 (norm ys).length c1)) := Lib.hid ((Olds.of_below hb3).cell Hbox.out)
  have HD := Lib.hid (delete_owned w3 ho3 (fun x => hasN (norm ys) x) 27 #[.pointer (some ⟨w1.heap.size, 0, none⟩)] enters27 (fun hne W x hW => by
    have hblk := (ho3.block hne).1
    rw [Hsz.out] at hblk
    exact not_pred w1.heap.size x W (hW.cell Hbox3.out (by show w1.heap.size ≠ _; omega)) (Ho1.out.ints.olds (Hold3.out.but hW (by omega))) (norm_le ys) (by have := norm_len ys; have := Hy.out; omega)))
  have Hb3 := Lib.hid (Hbel.out.trans (hb3.mono (by have := Hbel.out.size; exact this)))
  have Hs3 := Lib.hid hb3.size
  clear ho3 hb3
  go_wp2_with fail
  refine HD.out.mono ?_
  rintro e w5 ⟨v5, rfl, ho5, hb5⟩
  have Hf : Hid (Fresh (minus (norm xs) (norm ys)) w (.returned v5) w5) := Lib.hid ⟨v5, rfl, ho5.mono Hbel.out.size, Hb3.out.trans (hb5.mono Hbel.out.size)⟩
  clear ho5 hb5
  go_wp2_with fail
  go_ret
  exact Hf.out
end Go.Proofs.YthoboahfogpnfaaGreatDoor
namespace Go.Proofs.YthoboahfogpnfaaGreatDoor
open Go Go.RowKit Go.Sort Go.Lib


def ListsAt (w : World) (v : Value) (L : List (List Int)) : Prop :=
  ∃ vs, RowAt w v vs ∧ vs.length = L.length ∧ ∀ (i : Nat) (u : Value) (zs : List Int), vs[i]? = some u → L[i]? = some zs → IntsAt w u zs

theorem ListsAt.olds {w w' : World} {v : Value} {L : List (List Int)} (h : ListsAt w v L) (hb : Olds w w') : ListsAt w' v L := by
  obtain ⟨vs, h1, h2, h3⟩ := h
  exact ⟨vs, h1.olds hb, h2, fun i u zs hu hz => (h3 i u zs hu hz).olds hb⟩

def Small (L : List (List Int)) : Prop := L.length * 24 ≤ 140737488355328 ∧ ∀ zs ∈ L, zs.length * 8 ≤ 140737488355328

def andL : List (List Int) → List Int
  | [] => []
  | x :: r => r.foldl (fun out y => meet out (norm y)) (norm x)

set_option maxHeartbeats 400000 in
theorem and_none (o : Option Addr) (c : Nat) (w : World) : Calls Tryz.prog 6 #[.slice o 0 c] w (Fresh [] w) := by
  have h0 : Hid (Fresh [] w (.returned (.slice none 0 0)) w) := Lib.hid ⟨_, rfl, Owns.nil w _, Below.refl _ _⟩
  go_enter Tryz.func6, Tryz.ntmps6
  go_wp2_with fail
  go_ret
  exact h0.out

set_option maxHeartbeats 1000000 in
theorem and_some (b off c m : Nat) (u : Value) (us : List Value) (x : List Int) (r : List (List Int)) (w : World) (hm : us.length = m) (hcap : m + 1 ≤ c) (hmax : m * 24 ≤ 140737488355328) (hc : CellsAt w b off (u :: us)) (hl : r.length = m)
    (hx : x.length * 8 ≤ 140737488355328) (hr : ∀ zs ∈ r, zs.length * 8 ≤ 140737488355328) (hu : IntsAt w u x)
    (hi : ∀ (i : Nat) (u : Value) (zs : List Int), us[i]? = some u → r[i]? = some zs → IntsAt w u zs) :
    Calls Tryz.prog 6 #[.slice (some ⟨b, off, none⟩) (m + 1) c] w (Fresh (andL (x :: r)) w) := by
  have hc0 := hc 0 u rfl
  have H1 := Lib.hid (list_any w hu hx)
  have Hc := Lib.hid hc
  have Hi := Lib.hid hi
  have Hr := Lib.hid hr
  have Hl := Lib.hid hl
  have Hm := Lib.hid hm
  clear hc hi hr hl hu hm hx
  simp only [Nat.add_zero] at hc0
  have e0 : ((m : Int) + 1 == 0) = false := by simp; omega
  by_cases hc1 : c = 1
  · subst hc1
    obtain rfl : m = 0 := by omega
    go_enter Tryz.func6, Tryz.ntmps6
    go_wp2_with fail
    refine H1.out.mono ?_
    rintro e w1 ⟨v1, rfl, ho1, hb1⟩
    obtain ⟨o1, c1, rfl⟩ := ho1.shape
    have Hf : Hid (Fresh (andL (x :: r)) w (.returned (.slice o1 (norm x).length c1)) w1) := Lib.hid (by
      have : r = [] := List.eq_nil_of_length_eq_zero Hl.out
      subst this
      exact ⟨_, rfl, ho1, hb1⟩)
    clear ho1 hb1
    go_wp2_with fail
    go_loopw [3, 17] (fun out i wr => out = .slice o1 (norm x).length c1 ∧ i = .int .i64 0 ∧ wr = w1) (fun _ _ _ => 0)
    case atStart => exact ⟨rfl, rfl, rfl⟩
    case round =>
      obtain ⟨rfl, rfl, rfl⟩ := hrel
      go_wp2_with fail
      go_ret
      exact Hf.out
  · go_enter Tryz.func6, Tryz.ntmps6
    go_wp2_with fail
    refine H1.out.mono ?_
    rintro e w1 ⟨v1, rfl, ho1, hb1⟩
    obtain ⟨o1, c1, rfl⟩ := ho1.shape
    have Ho1 := Lib.hid ho1
    have Hb1 := Lib.hid hb1
    clear ho1 hb1
    have hm63 : m ≤ 9223372036854775807 := by omega
    go_wp2_with fail
    go_loopw [3, 17] (fun out i wr => ∃ k : Nat, k ≤ m ∧ i = .int .i64 k ∧ Owns wr w.heap.size out ((r.take k).foldl (fun out y => meet out (norm y)) (norm x)) ∧ Below w.heap.size w wr) (fun _ i _ => m - (intOf i).toNat)
    case atStart => exact ⟨0, Nat.zero_le _, rfl, Ho1.out, Hb1.out⟩
    case round =>
      obtain ⟨k, hk, rfl, ho, hb⟩ := hrel
      obtain ⟨oo, oc, rfl⟩ := ho.shape
      have Ho := Lib.hid ho
      have Hb := Lib.hid hb
      clear ho hb
      by_cases hlt : k < m
      · obtain ⟨uk, huk⟩ : ∃ uk, us[k]? = some uk := ⟨_, List.getElem?_eq_getElem (by rw [Hm.out]; exact hlt)⟩
        obtain ⟨zk, hzk⟩ : ∃ zk, r[k]? = some zk := ⟨_, List.getElem?_eq_getElem (by rw [Hl.out]; exact hlt)⟩
        have hck : wr.cell? ⟨b, off + 1 + k, none⟩ = some uk := by
          have := (Olds.of_below Hb.out).cell (Hc.out (k + 1) uk (by simpa using huk))
          rw [show off + 1 + k = off + (k + 1) by omega]
          exact this
        have H2 := Lib.hid (list_any wr ((Hi.out k uk zk huk hzk).olds (Olds.of_below Hb.out)) (Hr.out zk (List.mem_of_getElem? hzk)))
        have Hz : Hid ((r.take (k + 1)).foldl (fun out y => meet out (norm y)) (norm x) = meet ((r.take k).foldl (fun out y => meet out (norm y)) (norm x)) (norm zk)) := Lib.hid (by
          rw [List.take_add_one, hzk, List.foldl_append]; rfl)
        have hzl : zk.length * 8 ≤ 140737488355328 := Hr.out zk (List.mem_of_getElem? hzk)
        clear huk hzk
        go_wp2_with fail
        refine H2.out.mono ?_
        rintro e w2 ⟨v2, rfl, ho2, hb2⟩
        obtain ⟨o2, c2, rfl⟩ := ho2.shape
        have Ho2 := Lib.hid ho2
        have Hb2 := Lib.hid hb2
        clear ho2 hb2
        have Hold : Hid (Olds wr (w2.alloc (.cells #[.slice o2 (norm zk).length c2] 22))) := Lib.hid ((Olds.of_below Hb2.out).trans (Olds.alloc _ _))
        have Hbox : Hid ((w2.alloc (.cells #[.slice o2 (norm zk).length c2] 22)).cell? ⟨w2.heap.size, 0, none⟩ = some (.slice o2 (norm zk).length c2)) := Lib.hid (by simp)
        have HD := Lib.hid (delete_owned (w2.alloc (.cells #[.slice o2 (norm zk).length c2] 22)) (Ho.out.olds Hold.out) (fun x => !hasN (norm zk) x) 22 #[.pointer (some ⟨w2.heap.size, 0, none⟩)] enters22 (fun hne W x hW => by
          have hblk := (Ho.out.block hne).2
          have hs2 := Hb2.out.size
          exact and_pred w2.heap.size x W (hW.cell Hbox.out (by show w2.heap.size ≠ _; omega)) (((Ho2.out.olds (Olds.alloc _ _)).oldBut hW hblk).ints) (norm_le zk) (by have := norm_len zk; omega)))
        have Hbel : Hid (Below w.heap.size w (w2.alloc (.cells #[.slice o2 (norm zk).length c2] 22))) := Lib.hid ((Hb.out.trans (Hb2.out.mono Hb.out.size)).alloc (by have := Hb.out.size; have := Hb2.out.size; omega) _)
        clear hck hzl
        go_wp2_with fail
        refine HD.out.mono ?_
        rintro e w5 ⟨v5, rfl, ho5, hb5⟩
        obtain ⟨o5, c5, rfl⟩ := ho5.shape
        have Hf : Hid (Owns w5 w.heap.size (.slice o5 (((r.take k).foldl (fun out y => meet out (norm y)) (norm x)).filter fun x => hasN (norm zk) x).length c5) ((r.take (k + 1)).foldl (fun out y => meet out (norm y)) (norm x)) ∧ Below w.heap.size w w5) := Lib.hid (by
          refine ⟨?_, Hbel.out.trans hb5⟩
          rw [Hz.out]
          have e : ∀ l : List Int, (l.filter fun x => !!hasN (norm zk) x) = meet l (norm zk) := fun l => by unfold meet; congr 1; funext x; simp
          rw [e] at ho5
          exact ho5)
        clear ho5 hb5
        go_wp2_with fail
        go_roundw
        case rel => exact ⟨k + 1, by omega, by go_num, Hf.out.1, Hf.out.2⟩
        case measure => simp [intOf]; omega
      · have Hfin : Hid (Fresh (andL (x :: r)) w (.returned (.slice oo (((r.take k).foldl (fun out y => meet out (norm y)) (norm x)).length) oc)) wr) := Lib.hid (by
          refine ⟨_, rfl, ?_, Hb.out⟩
          have h := Ho.out
          have ek : r.take k = r := List.take_of_length_le (by rw [Hl.out]; omega)
          rw [ek] at h ⊢
          exact h)
        go_wp2_with fail
        go_ret
        exact Hfin.out

theorem and_any {v : Value} {L : List (List Int)} (w : World) (h : ListsAt w v L) (hcap : ∀ o n c, v = .slice o n c → n ≤ c) (hmax : L.length * 24 ≤ 140737488355328) (hs : ∀ zs ∈ L, zs.length * 8 ≤ 140737488355328) :
    Calls Tryz.prog 6 #[v] w (Fresh (andL L) w) := by
  obtain ⟨vs, h1, h2, h3⟩ := h
  rcases h1.cases with ⟨o, c, rfl, rfl, _⟩ | ⟨b, off, c, rfl, hp, hc⟩
  · have : L = [] := List.eq_nil_of_length_eq_zero h2.symm
    subst this
    exact and_none o c w
  · cases vs with
    | nil => simp at hp
    | cons u us =>
      cases L with
      | nil => simp at h2
      | cons x r =>
        simp only [List.length_cons] at h2 hmax
        have hcap' := hcap _ _ _ rfl
        simp only [List.length_cons] at hcap'
        exact and_some b off c us.length u us x r w rfl hcap' (by omega) hc (by omega) (hs x (by simp)) (fun zs hz => hs zs (by simp [hz])) (h3 0 u x rfl rfl)
          (fun i u zs hu hz => h3 (i + 1) u zs (by simpa using hu) (by simpa using hz))
end Go.Proofs.YthoboahfogpnfaaGreatDoor
namespace Go.Proofs.YthoboahfogpnfaaGreatDoor
open Go Go.RowKit Go.Sort Go.Lib

def tot (L : List (List Int)) : Nat := (L.map List.length).sum
theorem tot_take (L : List (List Int)) (k : Nat) {zs : List Int} (h : L[k]? = some zs) : tot (L.take (k + 1)) = tot (L.take k) + zs.length := by
  unfold tot
  rw [List.take_add_one, h, List.map_append, List.sum_append]
  simp
theorem tot_le (L : List (List Int)) (k : Nat) : tot (L.take k) ≤ tot L := by
  have h := congrArg tot (List.take_append_drop k L)
  unfold tot at h ⊢
  rw [List.map_append, List.sum_append] at h
  omega
theorem tot_flat (L : List (List Int)) : L.flatten.length = tot L := by
  unfold tot
  rw [List.length_flatten]

set_option maxHeartbeats 1000000 in
theorem much_cells (b off c m : Nat) (vs : List Value) (L : List (List Int)) (w : World) (hm : vs.length = m) (hmax : m * 24 ≤ 140737488355328) (hc : 0 < m → CellsAt w b off vs) (hl : L.length = m)
    (hs : ∀ zs ∈ L, zs.length * 8 ≤ 140737488355328) (hi : ∀ (i : Nat) (u : Value) (zs : List Int), vs[i]? = some u → L[i]? = some zs → IntsAt w u zs) :
    Calls Tryz.prog 5 #[.slice (some ⟨b, off, none⟩) m c] w fun e w' => e = .returned (.bool (decide (3000 < m + tot L))) ∧ w = w' := by
  have Hc := Lib.hid hc
  have Hi := Lib.hid hi
  have Hs := Lib.hid hs
  have Hl := Lib.hid hl
  have Hm := Lib.hid hm
  have hm63 : m ≤ 9223372036854775807 := by omega
  clear hc hi hs hl hm
  go_enter Tryz.func5, Tryz.ntmps5
  go_wp2_with fail
  go_loop [3, 4] (fun n i => ∃ k t : Nat, k ≤ m ∧ i = .int .i64 k ∧ n = .int .i64 ((m : Int) + (t : Int)) ∧ t = tot (L.take k)) (fun _ i => m - (intOf i).toNat)
  case atStart => exact ⟨0, 0, Nat.zero_le _, rfl, by simp, by simp [tot]⟩
  case round =>
    obtain ⟨k, t, hk, rfl, rfl, ht⟩ := hrel
    have Ht := Lib.hid ht
    clear ht
    by_cases hlt : k < m
    · obtain ⟨u, hu⟩ : ∃ u, vs[k]? = some u := ⟨_, List.getElem?_eq_getElem (by rw [Hm.out]; exact hlt)⟩
      obtain ⟨x, hx⟩ : ∃ x, L[k]? = some x := ⟨_, List.getElem?_eq_getElem (by rw [Hl.out]; exact hlt)⟩
      have hck : w.cell? ⟨b, off + k, none⟩ = some u := Hc.out (by omega) k u hu
      obtain ⟨o, cc, hv, _⟩ := Hi.out k u x hu hx
      rw [ints_len] at hv
      subst hv
      have hxl := Hs.out x (List.mem_of_getElem? hx)
      have Hx := Lib.hid hx
      clear hx hu
      by_cases hb : m + t ≤ 3000
      · go_wp2_with fail
        go_round
        case rel => exact ⟨k + 1, t + x.length, by omega, by go_num, by congr 1; omega, by rw [tot_take L k Hx.out, Ht.out]⟩
        case measure => simp [intOf]; omega
      · have Hr : Hid (decide (3000 < m + tot L) = true) := Lib.hid (by
          have := tot_le L k
          rw [← Ht.out] at this
          exact decide_eq_true (by omega))
        go_wp2_with fail
        go_ret
        exact ⟨ret_bool Hr.out.symm, rfl⟩
    · have Hr : Hid (t = tot L) := Lib.hid (by
        have h := Ht.out
        rw [List.take_of_length_le (by rw [Hl.out]; omega)] at h
        exact h)
      go_wp2_with fail
      go_ret
      exact ⟨ret_bool (by rw [← Hr.out]; exact decide_eq_decide.2 (by omega)), rfl⟩
end Go.Proofs.YthoboahfogpnfaaGreatDoor
