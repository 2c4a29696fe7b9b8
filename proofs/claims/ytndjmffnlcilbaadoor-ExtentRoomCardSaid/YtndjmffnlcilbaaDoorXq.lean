/- Contracts over this program. Their conditions: the slices read as the lists that are named, and lie within the sizes that are named. -/
import Derived.Test.YtndjmffnlcilbaaDoorXb
set_option linter.unusedSimpArgs false
set_option linter.unusedVariables false
set_option linter.deprecated false
set_option linter.unnecessarySimpa false
namespace Go.Proofs.YtndjmffnlcilbaaDoor
open Go Go.RowKit Go.Ix Go.Ext Go.Maps
def DnewEnd (w : World) (B n : Nat) (e : Ending) (w' : World) : Prop :=
  ∃ db sm : Nat, e = .returned (.tuple #[.pointer (some ⟨db, 0, none⟩), .int .u16 0]) ∧ Below w.heap.size w w' ∧ DI w' B db sm n 0
set_option maxRecDepth 20000 in
set_option maxHeartbeats 2000000 in
theorem dnew_any {w : World} {B n : Nat} (h1 : 1 ≤ n) (hn : n ≤ 16384) (hB : B ≤ w.heap.size) :
    Calls Tryd.prog 6 #[.int .i64 (n : Nat)] w (DnewEnd w B n) := by
  obtain ⟨i0, hi0, hz0, hy0, hx0⟩ := info_parts Tryd.info98
  have hmm := @run_makeMap Tryd.prog
  have hd1 : decide ((n : Int) < 1) = false := by simp; omega
  have hd2 : decide ((16384 : Int) < (n : Int)) = false := by simp; omega
  go_enter Tryd.func6, Tryd.ntmps6
  go_upto_region 3 with fail
  go_wp2_with (at_make; refine wpList_make_full _ rfl _ _ 49 rfl B 98 i0 (.agg sec0) 256 Tryd.underlying49 hi0 hz0 hy0 .i64 .i64 n n n rfl rfl rfl rfl (by rw [hx0]; omega) (by unfold maxLen; omega) hB ?_; intro w1 hown1 hgrow1; have Hown1 := Lib.hid hown1; have Hg1 := Lib.hid hgrow1; clear hown1 hgrow1)
  refine bodyPost_ret (results_tmp2 rfl _ _ _) rfl ?_
  obtain ⟨X, hX⟩ : ∃ X : World, X = w1.alloc (.map #[] 0) := ⟨_, rfl⟩
  rw [← hX]
  obtain ⟨Z, hZ⟩ : ∃ Z : World, Z = X.alloc (.cells #[.slice (some ⟨w.heap.size, 0, none⟩) n n, .slice none 0 0, .map (some w1.heap.size), .bool false, .int .i64 (-1), .int .i64 0, .int .i64 0, .int .i64 0] 53) := ⟨_, rfl⟩
  have hs1 := Hg1.out.size
  have hXs : X.heap.size = w1.heap.size + 1 := by rw [hX]; simp
  have ho1 : Olds w1 Z := by rw [hZ, hX]; exact (Olds.alloc _ _).trans (Olds.alloc _ _)
  have hbZ : Below w.heap.size w Z := by
    rw [hZ, hX]
    exact (((Below.refl _ _).grown Hg1.out (Nat.le_refl _) (by simp)).alloc (by omega) _).alloc (by simp; omega) _
  have hZc : Z.heap[X.heap.size]? = some (.cells #[.slice (some ⟨w.heap.size, 0, none⟩) n n, .slice none 0 0, .map (some w1.heap.size), .bool false, .int .i64 (-1), .int .i64 0, .int .i64 0, .int .i64 0] 53 (0, 0)) := by rw [hZ]; exact heap_alloc_new _ _
  have hdi : DnewEnd w B n (.returned (.tuple #[.pointer (some ⟨X.heap.size, 0, none⟩), .int .u16 0])) Z := by
    refine ⟨X.heap.size, w1.heap.size, rfl, hbZ, by omega, by omega, ⟨_, _, 0, 0, 0, hZc, ⟨_, ownsRow_olds Hown1.out ho1⟩, 0, [], World.ownsRow_nil _ _ _ _, Nat.le_refl _, fun j hj => absurd hj (Nat.not_lt_zero _), fun x hx => by cases hx⟩, ?_⟩
    have hm : X.ownsMap Tryd.prog 3 (plainElem (H := Unit) Tryd.prog 3) w1.heap.size 0 (.map []) := by rw [hX]; exact World.ownsMap_made w1 _ _ _
    refine ⟨0, .map [], ?_, Nat.le_refl _⟩
    rw [hZ]
    exact hm.alloc _
  rw [hZ, hXs] at hdi
  exact hdi
end Go.Proofs.YtndjmffnlcilbaaDoor
