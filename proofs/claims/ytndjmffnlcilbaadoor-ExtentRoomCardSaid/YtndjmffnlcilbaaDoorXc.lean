/- Contracts over this program. Their conditions: the slices read as the lists that are named, and lie within the sizes that are named. -/
import Derived.Test.YtndjmffnlcilbaaDoorXb
import Derived.Laws.CopyOwn
set_option linter.unusedSimpArgs false
set_option linter.unusedVariables false
set_option linter.deprecated false
set_option linter.unnecessarySimpa false
namespace Go.Proofs.YtndjmffnlcilbaaDoor
open Go Go.RowKit Go.Ix Go.Ext Go.Maps
structure On (tb : Nat) (w w' : World) : Prop where
  os : w'.os = w.os
  tape : w'.tape = w.tape
  output : w'.output = w.output
  size : w'.heap.size = w.heap.size
  block : ∀ b, b ≠ tb → w'.heap[b]? = w.heap[b]?
theorem On.refl (tb : Nat) (w : World) : On tb w w := ⟨rfl, rfl, rfl, rfl, fun _ _ => rfl⟩
theorem On.trans {tb : Nat} {a b c : World} (h : On tb a b) (k : On tb b c) : On tb a c := ⟨k.os.trans h.os, k.tape.trans h.tape, k.output.trans h.output, k.size.trans h.size, fun x hx => (k.block x hx).trans (h.block x hx)⟩
theorem On.cell (w : World) (tb i : Nat) (v : Value) : On tb w (w.setCell ⟨tb, i, none⟩ v) := ⟨rfl, rfl, rfl, by simp [World.setCell], fun _ hx => Below.heap_setCell _ _ _ _ hx⟩
theorem On.below {tb B : Nat} {w w' : World} (h : On tb w w') (hB : B ≤ tb) : Below B w w' := ⟨h.os, h.tape, h.output, Nat.le_of_eq h.size.symm, fun b hb => h.block b (by omega)⟩
theorem On.fr {tb B : Nat} {w w' : World} (h : On tb w w') (hB : B ≤ tb) (T : List Nat) : Fr B T [tb] w w' := ⟨h.below hB, fun b o hb hm _ => (h.block b (fun e => hm (by simp [e]))).trans hb⟩
theorem On.row {tb : Nat} {w w' : World} (h : On tb w w') {B e k n : Nat} {v : Value} {xs : List Value} (hr : w.ownsRow B e k v n xs) (hv : v.ownBlock ≠ some tb) : w'.ownsRow B e k v n xs := ownsRow_blocks hr fun g hg => h.block g fun e => hv (by rw [hg, e])
def tv (T : Nat → Int) (n : Nat) : List Value := (List.range n).map fun a => .int .i64 (T a)
theorem tv_len (T : Nat → Int) (n : Nat) : (tv T n).length = n := by simp [tv]
theorem tv_at {T : Nat → Int} {n a : Nat} (h : a < n) : (tv T n)[a]? = some (.int .i64 (T a)) := by simp [tv, h]
theorem tv_set {T : Nat → Int} {n a : Nat} (x : Int) : (tv T n).set a (.int .i64 x) = tv (fun b => if b = a then x else T b) n := by
  apply List.ext_getElem?
  intro i
  rw [List.getElem?_set]
  by_cases hi : i < n
  · rw [tv_at hi, tv_len]
    by_cases ha : a = i
    · subst ha
      simp [hi, tv_at hi]
    · simp [ha, tv_at hi, Ne.symm ha]
  · have h1 : (tv T n)[i]? = none := List.getElem?_eq_none (by rw [tv_len]; omega)
    have h2 : (tv (fun b => if b = a then x else T b) n)[i]? = none := List.getElem?_eq_none (by rw [tv_len]; omega)
    rw [h1, h2, tv_len]
    by_cases ha : a = i
    · subst ha
      simp [hi]
    · simp [ha]
def Taken (w : World) (B tb n tc : Nat) (T : Nat → Int) : Prop := w.ownsRow B 3 1 (.slice (some ⟨tb, 0, none⟩) n tc) n (tv T n)
set_option maxRecDepth 20000 in
set_option maxHeartbeats 1000000 in
theorem hold_any {w : World} {B B' sb tb n tc m : Nat} {cs : Array Value} {v : Value} {T : Nat → Int} (l : List Nat) (d : Int) (hd : d = 1 ∨ d = -1) (hsb : w.heap[sb]? = some (.cells cs 61 (0, 0))) (h8 : cs[8]? = some (.slice (some ⟨tb, 0, none⟩) n tc)) (hT : Taken w B tb n tc T) (hTb : ∀ a, -1000000000 ≤ T a ∧ T a ≤ 1000000000)
    (hr : w.ownsRow B' 3 1 v m (nats l)) (hv : v.ownBlock ≠ some tb) (hl : ∀ a ∈ l, a < n) (hm : l.length = m) (hm2 : m ≤ 1000000) (hn : n ≤ 1000000) :
    Calls Tryd.prog 31 #[.pointer (some ⟨sb, 0, none⟩), v, .int .i64 d] w fun e w' => e = .returned (.tuple #[]) ∧ Taken w' B tb n tc (fun a => T a + d * ((l.count a : Nat) : Int)) ∧ On tb w w' := by
  obtain ⟨o, c, rfl, _⟩ := ownsRow_shape hr
  have hne : sb ≠ tb := fun e => by
    obtain ⟨cur, hc⟩ := own_kind hT (g := tb) rfl
    rw [← e, hsb] at hc
    simp at hc
  have Hsb := Lib.hid hsb
  have H8 := Lib.hid h8
  have HT := Lib.hid hT
  have HTb := Lib.hid hTb
  have Hr := Lib.hid hr
  have Hv := Lib.hid hv
  have Hl := Lib.hid hl
  have Hm := Lib.hid hm
  clear hsb h8 hT hTb hr hv hl hm
  go_enter Tryd.func31, Tryd.ntmps31
  go_wp2_with fail
  go_loopw [7, 10] (fun _ iv wr => ∃ k : Nat, k ≤ m ∧ iv = .int .i64 k ∧ Taken wr B tb n tc (fun a => T a + d * (((l.take k).count a : Nat) : Int)) ∧ On tb w wr) (fun _ iv _ => m - (intOf iv).toNat)
  case atStart => exact ⟨0, Nat.zero_le _, rfl, by simpa using HT.out, On.refl _ _⟩
  case round =>
    obtain ⟨k, hk, rfl, hT, hon⟩ := hrel
    have HTr := Lib.hid hT
    have Hon := Lib.hid hon
    clear hT hon
    by_cases hlt : k < m
    · obtain ⟨a, ha⟩ : ∃ a, l[k]? = some a := ⟨_, List.getElem?_eq_getElem (by rw [Hm.out]; exact hlt)⟩
      have han := Hl.out a (List.mem_of_getElem? ha)
      obtain ⟨lb, rfl⟩ : ∃ lb, o = some ⟨lb, 0, none⟩ := by
        rcases Hr.out.2 with ⟨_, h0⟩ | ⟨g, cap, cur, e, _⟩
        · omega
        · simp only [Value.slice.injEq] at e
          exact ⟨g, e.1⟩
      have hca : wr.cell? ⟨lb, k, none⟩ = some (.int .i64 (a : Nat)) := by
        have h1 := ownsRow_cell (Hon.out.row Hr.out Hv.out) k (.int .i64 (a : Nat)) (by simp [nats, ha])
        simpa using h1
      have hc8 : wr.cell? ⟨sb, 8, none⟩ = some (.slice (some ⟨tb, 0, none⟩) n tc) := by
        rw [cell_of_heap ((Hon.out.block sb hne).trans Hsb.out)]
        exact H8.out
      obtain ⟨x, hx⟩ : ∃ x, x = T a + d * (((l.take k).count a : Nat) : Int) := ⟨_, rfl⟩
      have hct : wr.cell? ⟨tb, a, none⟩ = some (.int .i64 x) := by
        have h1 := ownsRow_cell HTr.out a _ (tv_at han)
        rw [hx]
        simpa using h1
      have hft : wr.frozen? ⟨tb, a, none⟩ = false := HTr.out.frozenAt a
      have hcnt : (l.take k).count a ≤ 1000000 := Nat.le_trans List.count_le_length (by rw [List.length_take]; omega)
      have hxb : -2000000000 ≤ x ∧ x ≤ 2000000000 := by
        have h1 := HTb.out a
        rw [hx]
        rcases hd with rfl | rfl <;> omega
      have hwx : IntKind.i64.wrap (x + d) = x + d := by rw [IntKind.wrap_i64]; rcases hd with rfl | rfl <;> omega
      have HN : Hid (Taken (wr.setCell ⟨tb, a, none⟩ (.int .i64 (x + d))) B tb n tc (fun b => T b + d * (((l.take (k + 1)).count b : Nat) : Int))) := Lib.hid (by
        have h1 := (HTr.out.stored a (.int .i64 (x + d))).1
        rw [tv_set] at h1
        unfold Taken
        have e : (fun b => if b = a then x + d else T b + d * (((l.take k).count b : Nat) : Int)) = fun b => T b + d * (((l.take (k + 1)).count b : Nat) : Int) := by
          funext b
          rw [List.take_add_one, ha, List.count_append]
          by_cases hb : b = a
          · subst hb
            simp [hx]
            rcases hd with rfl | rfl <;> omega
          · have h0 : List.count b (Option.some a).toList = 0 := List.count_eq_zero_of_not_mem (by simp [hb])
            rw [if_neg hb, h0, Nat.add_zero]
        rw [e] at h1
        exact h1)
      have HO : Hid (On tb w (wr.setCell ⟨tb, a, none⟩ (.int .i64 (x + d)))) := Lib.hid (Hon.out.trans (On.cell _ _ _ _))
      clear hx ha hcnt
      go_wp2_with fail
      go_roundw
      case rel => exact ⟨k + 1, by omega, by go_num, HN.out, HO.out⟩
      case measure => simp [intOf]; omega
    · go_wp2_with fail
      go_end0
      obtain rfl : k = m := by omega
      refine ⟨rfl, ?_, Hon.out⟩
      have h9 := HTr.out
      rw [List.take_of_length_le (by rw [Hm.out]; exact Nat.le_refl _)] at h9
      exact h9
set_option maxRecDepth 20000 in
set_option maxHeartbeats 1000000 in
theorem free_any {w : World} {B sb tb n tc : Nat} {cs : Array Value} {T : Nat → Int} (hsb : w.heap[sb]? = some (.cells cs 61 (0, 0))) (h8 : cs[8]? = some (.slice (some ⟨tb, 0, none⟩) n tc)) (hT : Taken w B tb n tc T) (hTb : ∀ a, -1000000000 ≤ T a ∧ T a ≤ 1000000000) (hn : n ≤ 1000000) (hn2 : 2 ≤ n) :
    Calls Tryd.prog 8 #[.pointer (some ⟨sb, 0, none⟩)] w fun e w' => e = .returned (.int .i64 (freeTo T n : Nat)) ∧ w' = w := by
  have hc8 : w.cell? ⟨sb, 8, none⟩ = some (.slice (some ⟨tb, 0, none⟩) n tc) := by
    rw [cell_of_heap hsb]
    exact h8
  have HT := Lib.hid hT
  have HTb := Lib.hid hTb
  clear hsb h8 hT hTb
  go_enter Tryd.func8, Tryd.ntmps8
  go_wp2_with fail
  go_loop [3, 4] (fun nv iv => ∃ k : Nat, 2 ≤ k ∧ k ≤ n ∧ iv = .int .i64 k ∧ nv = .int .i64 (freeTo T k : Nat)) (fun _ iv => n - (intOf iv).toNat)
  case atStart => exact ⟨2, Nat.le_refl _, hn2, rfl, rfl⟩
  case round =>
    obtain ⟨k, h2, hk, rfl, rfl⟩ := hrel
    have hfl := freeTo_le T k
    have Hst : Hid (freeTo T (k + 1) = freeTo T k + if 2 ≤ k ∧ T k = 0 then 1 else 0) := Lib.hid rfl
    generalize hq : freeTo T k = q at *
    have Hq := Lib.hid hq
    clear hq
    by_cases hlt : k < n
    · have hct : w.cell? ⟨tb, k, none⟩ = some (.int .i64 (T k)) := by
        have h1 := ownsRow_cell HT.out k _ (tv_at hlt)
        simpa using h1
      generalize hx : T k = x at *
      by_cases h0 : x = 0
      · subst h0
        go_wp2_with fail
        go_round
        case rel => exact ⟨k + 1, by omega, by omega, by go_num, by rw [Hst.out, if_pos ⟨h2, rfl⟩]; go_num⟩
        case measure => simp [intOf]; omega
      · go_wp2_with fail
        go_round
        case rel => exact ⟨k + 1, by omega, by omega, by go_num, by rw [Hst.out, if_neg (fun h => h0 h.2)]; rfl⟩
        case measure => simp [intOf]; omega
    · obtain rfl : k = n := by omega
      go_wp2_with fail
      go_ret
      exact ⟨by rw [Hq.out]; rfl, rfl⟩
end Go.Proofs.YtndjmffnlcilbaaDoor
namespace Go.Proofs.YtndjmffnlcilbaaDoor
open Go Go.RowKit Go.Ix Go.Ext Go.Maps
def TakeEnd (w : World) (T : Nat → Int) (n want : Nat) (e : Ending) (w' : World) : Prop :=
  Below w.heap.size w w' ∧ (e = .returned (.tuple #[.slice none 0 0, .int .u16 5]) ∨ ∃ o c l k, e = .returned (.tuple #[.slice o want c, .int .u16 0]) ∧ w'.ownsRow w.heap.size 3 1 (.slice o want c) want (nats l) ∧ l.length = want ∧ l = zeros T k ∧ k ≤ n ∧ (runsOf l).length ≤ 48)
set_option maxRecDepth 20000 in
set_option maxHeartbeats 2000000 in
theorem take_any {w : World} {B sb tb n tc : Nat} {cs : Array Value} {T : Nat → Int} (want : Nat) (hsb : w.heap[sb]? = some (.cells cs 61 (0, 0))) (h8 : cs[8]? = some (.slice (some ⟨tb, 0, none⟩) n tc)) (hT : Taken w B tb n tc T) (hn : n ≤ 10000) (hn2 : 2 ≤ n) (hw : want ≤ 1000000) :
    Calls Tryd.prog 26 #[.pointer (some ⟨sb, 0, none⟩), .int .i64 want] w (TakeEnd w T n want) := by
  obtain ⟨i0, hi0, hz0, hz1, hz2⟩ := info_parts Tryd.info3
  have Hsb := Lib.hid hsb
  have H8 := Lib.hid h8
  have HT := Lib.hid hT
  clear hsb h8 hT
  go_enter Tryd.func26, Tryd.ntmps26
  go_wp2_with fail
  go_loopw [6, 7] (fun sv iv wr => ∃ k : Nat, 2 ≤ k ∧ k ≤ n ∧ iv = .int .i64 k ∧ wr.ownsRow w.heap.size 3 1 sv (zeros T k).length (nats (zeros T k)) ∧ (zeros T k).length ≤ want ∧ Below w.heap.size w wr) (fun _ iv _ => n - (intOf iv).toNat)
  case atStart => exact ⟨2, Nat.le_refl _, hn2, rfl, World.ownsRow_nil _ _ _ _, Nat.zero_le _, Below.refl _ _⟩
  case round =>
    obtain ⟨k, h2, hk, rfl, hrow, hlw, hb⟩ := hrel
    have Hb := Lib.hid hb
    have hsz := hb.size
    obtain ⟨o, c, rfl, hso⟩ := ownsRow_shape hrow
    have Hrow := Lib.hid hrow
    have hzl := zeros_len T k
    have Hst : Hid (zeros T (k + 1) = zeros T k ++ if 2 ≤ k ∧ T k = 0 then [k] else []) := Lib.hid rfl
    have Hmem : Hid (∀ a ∈ zeros T k, a ≤ 1000000) := Lib.hid (fun a ha => by have := (mem_zeros.1 ha).1.2; omega)
    have hsbr : wr.cell? ⟨sb, 8, none⟩ = some (.slice (some ⟨tb, 0, none⟩) n tc) := by
      rw [cell_of_heap ((hb.block sb (heap_lt Hsb.out)).trans Hsb.out)]
      exact H8.out
    clear hb hrow
    generalize hZ : zeros T k = Z at *
    have HZ := Lib.hid hZ
    clear hZ
    generalize hL : Z.length = L at *
    have HL := Lib.hid hL
    clear hL
    by_cases hlt : k < n
    · by_cases hlw2 : L < want
      · have hct : wr.cell? ⟨tb, k, none⟩ = some (.int .i64 (T k)) := by
          have h0 : w.cell? ⟨tb, k, none⟩ = some (.int .i64 (T k)) := by
            have h1 := ownsRow_cell HT.out k _ (tv_at hlt)
            simpa using h1
          exact (Hb.out.cell (cell_lt h0)).trans h0
        generalize hx : T k = x at *
        by_cases h0 : x = 0
        · subst h0
          go_wp2_with (at_builtin; refine wpList_append_lies _ rfl _ _ _ rfl w.heap.size 3 i0 _ 1 8 Tryd.underlying58 hi0 hz0 hz1 hz2 rfl Nat.one_pos (.slice o L c) L (nats Z) rfl (ownsRow_olds Hrow.out (Olds.alloc _ _)) ⟨wr.heap.size, 0, none⟩ 1 1 [.int .i64 (k : Nat)] rfl rfl (World.news_of_block (cs := #[.int .i64 (k : Nat)]) (t := 3) (fr := (0, 0)) (heap_alloc_new wr _)) (by simp [Value.oneCell']) Nat.one_pos (by unfold maxLen; omega) (by omega) (by simp; omega) (wr.heap.size + 1) (by simp) ?_; intro gg cap2 w4 hown4 hgrow hat hlt4)
          have HR : Hid (w4.ownsRow w.heap.size 3 1 (.slice (some ⟨gg, 0, none⟩) (L + 1) cap2) (zeros T (k + 1)).length (nats (zeros T (k + 1)))) := Lib.hid (by
            rw [Hst.out, if_pos ⟨h2, rfl⟩, List.length_append, HL.out, nats_append]
            exact hown4)
          have HB4 : Hid (Below w.heap.size w w4) := Lib.hid ((Hb.out.alloc (by omega) _).grown hgrow (by simp; omega) (fun g hg => (ownsRow_block Hrow.out hg).1))
          have hl4 : (zeros T (k + 1)).length ≤ want := by
            rw [Hst.out, if_pos ⟨h2, rfl⟩, List.length_append, HL.out]
            simp
            omega
          clear hown4 hgrow hat
          go_roundw
          case rel => exact ⟨k + 1, by omega, by omega, by go_num, HR.out, hl4, HB4.out⟩
          case measure => simp [intOf]; omega
        · have HR : Hid (wr.ownsRow w.heap.size 3 1 (.slice o L c) (zeros T (k + 1)).length (nats (zeros T (k + 1)))) := Lib.hid (by
            rw [Hst.out, if_neg (fun h => h0 h.2), List.append_nil, HL.out]
            exact Hrow.out)
          have hl4 : (zeros T (k + 1)).length ≤ want := by
            rw [Hst.out, if_neg (fun h => h0 h.2), List.append_nil, HL.out]
            exact hlw
          go_wp2_with fail
          go_roundw
          case rel => exact ⟨k + 1, by omega, by omega, by go_num, HR.out, hl4, Hb.out⟩
          case measure => simp [intOf]; omega
      · have HRU := Lib.hid (runs_any (w := wr) o c L Z HL.out (by omega) Hmem.out (owns_flat Hrow.out))
        obtain ⟨q, hq⟩ : ∃ q, q = (runsOf Z).length := ⟨_, rfl⟩
        rw [← hq] at HRU
        have Hq := Lib.hid hq
        have hqb : q ≤ L := by
          have h9 := (runs_take_bound Hmem.out Z.length (Nat.le_refl _)).1
          rw [List.take_of_length_le (Nat.le_refl _), ← hq, HL.out] at h9
          exact h9
        clear hq
        obtain rfl : L = want := by omega
        by_cases h48 : q ≤ 48
        · go_wp2_with (go_at_call 40; refine HRU.out.mono ?_; clear HRU; rintro e w5 ⟨rv, rfl, hrr, hb5⟩; obtain ⟨ro, rc, rfl, _⟩ := ownsRow_shape hrr; have Hb5 := Lib.hid hb5; clear hrr hb5)
          go_ret2
          exact ⟨Hb.out.trans (Hb5.out.mono hsz), .inr ⟨o, c, Z, k, rfl, ownsRow_olds Hrow.out (Olds.of_below Hb5.out), HL.out, HZ.out.symm, hk, by rw [← Hq.out]; exact h48⟩⟩
        · go_wp2_with (go_at_call 40; refine HRU.out.mono ?_; clear HRU; rintro e w5 ⟨rv, rfl, hrr, hb5⟩; obtain ⟨ro, rc, rfl, _⟩ := ownsRow_shape hrr; have Hb5 := Lib.hid hb5; clear hrr hb5)
          go_ret2
          exact ⟨Hb.out.trans (Hb5.out.mono hsz), .inl rfl⟩
    · by_cases hlw2 : L < want
      · go_wp2_with fail
        go_ret2
        exact ⟨Hb.out, .inl rfl⟩
      · have HRU := Lib.hid (runs_any (w := wr) o c L Z HL.out (by omega) Hmem.out (owns_flat Hrow.out))
        obtain ⟨q, hq⟩ : ∃ q, q = (runsOf Z).length := ⟨_, rfl⟩
        rw [← hq] at HRU
        have Hq := Lib.hid hq
        have hqb : q ≤ L := by
          have h9 := (runs_take_bound Hmem.out Z.length (Nat.le_refl _)).1
          rw [List.take_of_length_le (Nat.le_refl _), ← hq, HL.out] at h9
          exact h9
        clear hq
        obtain rfl : L = want := by omega
        by_cases h48 : q ≤ 48
        · go_wp2_with (go_at_call 40; refine HRU.out.mono ?_; clear HRU; rintro e w5 ⟨rv, rfl, hrr, hb5⟩; obtain ⟨ro, rc, rfl, _⟩ := ownsRow_shape hrr; have Hb5 := Lib.hid hb5; clear hrr hb5)
          go_ret2
          exact ⟨Hb.out.trans (Hb5.out.mono hsz), .inr ⟨o, c, Z, k, rfl, ownsRow_olds Hrow.out (Olds.of_below Hb5.out), HL.out, HZ.out.symm, hk, by rw [← Hq.out]; exact h48⟩⟩
        · go_wp2_with (go_at_call 40; refine HRU.out.mono ?_; clear HRU; rintro e w5 ⟨rv, rfl, hrr, hb5⟩; obtain ⟨ro, rc, rfl, _⟩ := ownsRow_shape hrr; have Hb5 := Lib.hid hb5; clear hrr hb5)
          go_ret2
          exact ⟨Hb.out.trans (Hb5.out.mono hsz), .inl rfl⟩
end Go.Proofs.YtndjmffnlcilbaaDoor
namespace Go.Proofs.YtndjmffnlcilbaaDoor
open Go Go.RowKit Go.Ix Go.Ext Go.Maps
def Data (w : World) (B : Nat) (da : Option Addr) (dn dc : Nat) : Prop := ∃ bs, BytesAt w (.slice da dn dc) bs ∧ (∀ x ∈ bs, x < 256) ∧ bs.length = dn ∧ dn ≤ dc ∧ ∀ a, da = some a → 0 < dn → a.block < B ∨ ∃ cs fr, w.heap[a.block]? = some (.cells cs 5 fr)
theorem Data.blocks {w W : World} {B : Nat} {da : Option Addr} {dn dc : Nat} (h : Data w B da dn dc) (hb : ∀ b o, w.heap[b]? = some o → (b < B ∨ ∃ cs fr, o = .cells cs 5 fr) → W.heap[b]? = some o) : Data W B da dn dc := by
  obtain ⟨bs, ⟨o, c, e, hz, hne⟩, h2, h3, h4, h5⟩ := h
  simp only [Value.slice.injEq] at e
  obtain ⟨rfl, e2, rfl⟩ := e
  have hkeep : ∀ a, da = some a → 0 < dn → ∃ o, w.heap[a.block]? = some o ∧ W.heap[a.block]? = some o := fun a ha hp => by
    obtain ⟨b, off, e1, hc⟩ := hne (fun e => by have := congrArg List.length e; rw [octs_len, h3] at this; simp at this; omega)
    rw [ha] at e1
    cases e1
    obtain ⟨v, hv⟩ : ∃ v, (octs bs)[0]? = some v := ⟨_, List.getElem?_eq_getElem (by rw [octs_len, h3]; exact hp)⟩
    have hlt := cell_lt (hc 0 v hv)
    refine ⟨w.heap[b], by simp, hb b _ (by simp) ?_⟩
    rcases h5 _ ha hp with h | ⟨cs, fr, h⟩
    · exact .inl h
    · refine .inr ⟨cs, fr, ?_⟩
      rw [Array.getElem?_eq_getElem hlt] at h
      exact Option.some.inj h
  refine ⟨bs, ⟨da, dc, by rw [← e2], hz, fun hn => ?_⟩, h2, h3, h4, fun a ha hp => ?_⟩
  · obtain ⟨b, off, e1, hc⟩ := hne hn
    refine ⟨b, off, e1, fun j v hv => ?_⟩
    have hp : 0 < dn := by
      have := (List.getElem?_eq_some_iff.1 hv).1
      rw [octs_len, h3] at this
      omega
    obtain ⟨ob, h6, h7⟩ := hkeep _ e1 hp
    rw [World.cell?_of_block (w := w) (a := ⟨b, off + j, none⟩) (h7.trans h6.symm)]
    exact hc j v hv
  · rcases h5 a ha hp with h | ⟨cs, fr, h⟩
    · exact .inl h
    · obtain ⟨ob, h6, h7⟩ := hkeep a ha hp
      exact .inr ⟨cs, fr, h7.trans (h6.symm.trans h)⟩
theorem Data.olds {w W : World} {B : Nat} {da : Option Addr} {dn dc : Nat} (h : Data w B da dn dc) (hb : Olds w W) : Data W B da dn dc := h.blocks fun b _ ho _ => (hb.2 b (heap_lt ho)).trans ho
theorem Data.fr {w W : World} {B : Nat} {T M : List Nat} {da : Option Addr} {dn dc : Nat} (h : Data w B da dn dc) (hf : Fr B T M w W) (ht : 5 ∉ T) (hM : ∀ b ∈ M, ∀ cs fr, w.heap[b]? ≠ some (.cells cs 5 fr)) : Data W B da dn dc := h.blocks fun b o ho hc => by
  rcases hc with hc | ⟨cs, fr, rfl⟩
  · exact (hf.below.block b hc).trans ho
  · exact hf.keep ho (fun hm => hM b hm cs fr ho) ht
set_option maxHeartbeats 400000 in
theorem did_any {w : World} {sb : Nat} {c0 c1 c2 c3 c4 c5 c6 c8 : Value} (hsb : w.heap[sb]? = some (.cells #[c0, c1, c2, c3, c4, c5, c6, .bool false, c8] 61 (0, 0))) :
    Calls Tryd.prog 35 #[.pointer (some ⟨sb, 0, none⟩), .int .u16 0] w fun e w' => e = .returned (.int .u16 0) ∧ Olds w w' ∧ (∀ B, Below B w w') := by
  have h7 : w.cell? ⟨sb, 7, none⟩ = some (.bool false) := by rw [cell_of_heap hsb]; rfl
  have f7 : w.frozen? ⟨sb, 7, none⟩ = false := by simp [World.frozen?, hsb]
  have HE : Hid (Olds w (w.setCell ⟨sb, 7, none⟩ (.bool false)) ∧ ∀ B, Below B w (w.setCell ⟨sb, 7, none⟩ (.bool false))) := Lib.hid (by
    have hb : ∀ b, (w.setCell ⟨sb, 7, none⟩ (.bool false)).heap[b]? = w.heap[b]? := fun b => by
      by_cases hb : b = sb
      · rw [hb, heap_setCell_same w sb 7 _ _ _ hsb, hsb]
        rfl
      · exact Below.heap_setCell _ _ _ _ hb
    exact ⟨⟨by simp [World.setCell], fun b _ => hb b⟩, fun B => ⟨rfl, rfl, rfl, by simp [World.setCell], fun b _ => hb b⟩⟩)
  clear hsb
  go_enter Tryd.func35, Tryd.ntmps35
  go_wp2_with fail
  go_ret
  exact ⟨rfl, HE.out.1, HE.out.2⟩
theorem new_bytes {w : World} {B g : Nat} {xs : List Value} (h : w.ownsRow B 5 1 (.slice (some ⟨g, 0, none⟩) 256 256) 256 xs) : w.heap[g]? = some (.cells xs.toArray 5 (0, 0)) := by
  rcases h.2 with ⟨e, _⟩ | ⟨g', cap, cur, e, _, hh, _, _, hs, ht⟩
  · cases e
  · simp only [Value.slice.injEq, Option.some.injEq, Addr.mk.injEq, and_true, true_and] at e
    obtain ⟨rfl, rfl⟩ := e
    rw [hh, ← ht, List.take_of_length_le (by simp [hs])]
theorem old_bytes {w : World} {B g : Nat} {xs : List Value} (hB : B ≤ g) (hl : xs.length = 256) (h : w.heap[g]? = some (.cells xs.toArray 5 (0, 0))) : w.ownsRow B 5 1 (.slice (some ⟨g, 0, none⟩) 256 256) 256 xs :=
  ⟨by simpa using hl, .inr ⟨g, 256, xs.toArray, rfl, hB, h, Nat.le_refl _, by unfold maxLen; omega, by simpa using hl, by simp [hl, List.take_of_length_le (Nat.le_of_eq hl)]⟩⟩
theorem octs_splice (zs ds : List Nat) : splice (octs zs) 0 (octs ds) = octs (splice zs 0 ds) := by
  simp [splice, octs, List.map_drop]
set_option maxRecDepth 20000 in
set_option maxHeartbeats 4000000 in
theorem write_any {w : World} {B B' db sm sb n t m dn dc : Nat} {da : Option Addr} {v c1 c2 c3 c4 c5 c6 c8 : Value} (l : List Nat) (h : DI w B db sm n t) (hsb : w.heap[sb]? = some (.cells #[.pointer (some ⟨db, 0, none⟩), c1, c2, c3, c4, c5, c6, .bool false, c8] 61 (0, 0)))
    (hr : w.ownsRow B' 3 1 v m (nats l)) (hlm : l.length = m) (hl : ∀ a ∈ l, a < n) (hd : Data w B da dn dc) (hB : B ≤ w.heap.size) (hn : n ≤ 1000000) (ht : t + m ≤ 1000000) (hdn : dn ≤ 1000000) (hsbm : sb ≠ sm) :
    Calls Tryd.prog 19 #[.pointer (some ⟨sb, 0, none⟩), v, .slice da dn dc] w fun e w' => e = .returned (.int .u16 0) ∧ DI w' B db sm n (t + m) ∧ Fr B TD [sm] w w' := by
  obtain ⟨i5, hi5, hz5, hy5, hx5⟩ := info_parts Tryd.info5
  obtain ⟨o, c, rfl, _⟩ := ownsRow_shape hr
  have H := Lib.hid h
  have Hsb := Lib.hid hsb
  have Hr := Lib.hid hr
  have Hl := Lib.hid hl
  have Hlm := Lib.hid hlm
  have Hd := Lib.hid hd
  obtain ⟨_, _, _, _, hcap, _⟩ := hd
  have h0 : da = none → dn = 0 ∧ dc = 0 := fun e => by
    obtain ⟨bs, ⟨o', c', e1, hz, hne⟩, _, hl, hc, _⟩ := Hd.out
    subst e
    simp only [Value.slice.injEq] at e1
    obtain ⟨rfl, _, rfl⟩ := e1
    have := hz rfl
    omega
  clear h hsb hr hl hlm
  go_enter Tryd.func19, Tryd.ntmps19
  go_wp2_with fail
  go_loopw [7, 8, 9, 10, 13] (fun _ _ _ _ iv wr => ∃ k : Nat, k ≤ m ∧ iv = .int .i64 k ∧ DI wr B db sm n (t + k) ∧ Fr B TD [sm] w wr) (fun _ _ _ _ iv _ => m - (intOf iv).toNat)
  case atStart => exact ⟨0, Nat.zero_le _, rfl, H.out, Fr.refl _ _ _ _⟩
  case round =>
    obtain ⟨k, hk, rfl, hdi, hfr⟩ := hrel
    have Hdi := Lib.hid hdi
    have Hfr := Lib.hid hfr
    have hsz := hfr.size
    clear hdi hfr
    by_cases hlt : k < m
    · obtain ⟨a, ha⟩ : ∃ a, l[k]? = some a := ⟨_, List.getElem?_eq_getElem (by rw [Hlm.out]; exact hlt)⟩
      have han := Hl.out a (List.mem_of_getElem? ha)
      obtain ⟨lb, rfl⟩ : ∃ lb, o = some ⟨lb, 0, none⟩ := by
        rcases Hr.out.2 with ⟨_, h0⟩ | ⟨g, cap, cur, e, _⟩
        · omega
        · simp only [Value.slice.injEq] at e
          exact ⟨g, e.1⟩
      have hrr := Hfr.out.keepRow Hr.out (by decide) (fun g hg hm => by
        obtain ⟨cur, hc⟩ := own_kind Hr.out hg
        obtain ⟨es, cm, hkm⟩ := H.out.seen.kind
        have : g = sm := by simpa using hm
        rw [this, hkm] at hc
        cases hc)
      have hca : wr.cell? ⟨lb, k, none⟩ = some (.int .i64 (a : Nat)) := by
        have h1 := ownsRow_cell hrr k (.int .i64 (a : Nat)) (by simp [nats, ha])
        simpa using h1
      have hsbr := Hfr.out.keep Hsb.out (by simpa using hsbm) (by decide)
      go_upto_region 5 with (at_make; refine wpList_make_full _ rfl _ _ 33 rfl wr.heap.size 5 i5 (.int .u8 0) 1 Tryd.underlying33 hi5 hz5 hy5 .i64 .i64 256 256 256 rfl rfl rfl rfl (by rw [hx5]; decide) (by unfold maxLen; omega) (Nat.le_refl _) ?_; intro w1 hown1 hgrow1; have Hown1 := Lib.hid hown1; have Hg1 := Lib.hid hgrow1; clear hown1 hgrow1)
      have hw1o : Olds wr w1 := ⟨Hg1.out.size, fun b hb => Hg1.out.block b hb (by simp)⟩
      have hs1 := Hg1.out.size
      obtain ⟨bs, hby, h8b, hbl, _⟩ := (Hd.out.fr Hfr.out (by decide) (fun b hb cs fr hc => by
        obtain ⟨es, cm, hkm⟩ := H.out.seen.kind
        have : b = sm := by simpa using hb
        rw [this, hkm] at hc
        cases hc)).olds hw1o
      have hz : (madeCells (Value.int .u8 0).cells (256 * 1)).toList = octs (List.replicate 256 0) := by
        show (madeCells #[Value.int .u8 0] 256).toList = _
        rw [toList_madeCells_one]
        simp [octs]
      rw [hz] at Hown1
      have hnb := new_bytes Hown1.out
      obtain ⟨p, hp⟩ : ∃ p, p = min dn (k * 256) := ⟨_, rfl⟩
      obtain ⟨ds, hds⟩ : ∃ ds, ds = (bs.drop p).take 256 := ⟨_, rfl⟩
      have hdl : (octs ds).length = Nat.min (dn - p) 256 := by
        rw [octs_len, hds, List.length_take, List.length_drop, hbl, Nat.min_comm]
      have hd256 : ds.length ≤ 256 := by rw [hds, List.length_take]; omega
      have hone := @one_octs ds
      have HB1 : Hid (Below wr.heap.size wr w1) := Lib.hid ⟨Hg1.out.os, Hg1.out.tape, Hg1.out.output, Hg1.out.size, fun b hb => Hg1.out.block b hb (by simp)⟩
      have hmin : min (dn : Int) ((k : Int) * 256) = (p : Int) := by rw [hp]; omega
      have Hhds := Lib.hid hds
      have hsz5 : (Tryd.prog.info? 5).map (·.size) = some 1 := by rw [hi5]; simp [hy5]
      have hfit : 0 + (octs ds).length ≤ (octs (List.replicate 256 0)).length := by simp [octs_len]; omega
      have HRow : Hid (∀ w2 : World, w2.heap[wr.heap.size]? = some (.cells (splice (octs (List.replicate 256 0)) 0 (octs ds)).toArray 5 (0, 0)) → ByteRow w2 wr.heap.size (.slice (some ⟨wr.heap.size, 0, none⟩) 256 256) 256) := Lib.hid (fun w2 hh => by
        rw [octs_splice] at hh
        have hsl : (splice (List.replicate 256 0) 0 ds).length = 256 := by rw [length_splice _ _ _ (by simp; omega)]; simp
        refine ⟨splice (List.replicate 256 0) 0 ds, ?_, fun x hx => ?_, hsl⟩
        · unfold Row8
          rw [hsl]
          exact old_bytes (Nat.le_refl _) (by rw [octs_len, hsl]) hh
        · unfold splice at hx
          simp only [List.take_zero, List.nil_append, List.mem_append] at hx
          rcases hx with hx | hx
          · rw [Hhds.out] at hx
            exact h8b x (List.mem_of_mem_drop (List.mem_of_mem_take hx))
          · have := List.mem_of_mem_drop hx
            simp at this
            omega)
      by_cases hd0 : dn = 0
      · subst hd0
        have hds0 : ds = [] := by rw [hds, List.eq_nil_of_length_eq_zero hbl]; simp
        rw [show Nat.min (0 - p) 256 = Nat.min 0 256 by rw [Nat.zero_sub]] at hdl
        clear hmin hp
        rcases da with _ | ⟨b, off, spot⟩
        · obtain ⟨_, rfl⟩ := h0 rfl
          have hvac : 0 < (octs ds).length → (some (⟨wr.heap.size, 0, none⟩ : Addr)) = some ⟨wr.heap.size, 0, none⟩ ∧ ∃ ad, (none : Option Addr) = some ad ∧ ∀ j v, (octs ds)[j]? = some v → w1.cell? (ad.add j) = some v := fun h => by rw [hds0] at h; simp [octs] at h
          go_upto_region 6 with ((refine wpList_copy_splice rfl _ _ 33 33 rfl 5 Tryd.underlying33 hsz5 (some ⟨wr.heap.size, 0, none⟩) none 256 256 0 0 rfl rfl wr.heap.size 0 (octs (List.replicate 256 0)) 5 hnb (octs ds) hdl hvac hfit hone wr.heap.size wr HB1.out (Nat.le_refl _) ?_; intro w2 hh2 hb2))
          have Hb2 := Lib.hid hb2
          clear hb2
          have hrow2 : ByteRow w2 wr.heap.size (.slice (some ⟨wr.heap.size, 0, none⟩) 256 256) 256 := HRow.out w2 hh2.out
          have HDW := Lib.hid (dwrite_any (w := w2) (B := B) (B' := wr.heap.size) a (Hdi.out.olds (Olds.of_below Hb2.out)) han hn (by omega) (by have := Hb2.out.size; omega) hrow2)
          have hs2 : w2.heap[sb]? = _ := (Hb2.out.block sb (heap_lt hsbr)).trans hsbr
          have Hs2 := Lib.hid hs2
          have h20 : w2.cell? ⟨sb, 0, none⟩ = some (.pointer (some ⟨db, 0, none⟩)) := by rw [cell_of_heap hs2]; rfl
          have hz2 := Hb2.out.size
          clear hs2 hrow2 hh2
          go_wp2_with (first
            | (go_at_call 22; refine HDW.out.mono ?_; clear HDW; rintro e w3 ⟨rfl, hdi3, hfr3⟩; have Hdi3 := Lib.hid hdi3; have Hfr3 := Lib.hid hfr3; have HDD := Lib.hid (did_any (hfr3.keep Hs2.out (by simpa using hsbm) (by decide))); clear hdi3 hfr3)
            | (go_at_call 35; refine HDD.out.mono ?_; clear HDD; rintro e w4 ⟨rfl, ho4, hb4⟩; have Ho4 := Lib.hid ho4; have Hb4 := Lib.hid hb4; clear ho4 hb4))
          go_roundw
          case rel => exact ⟨k + 1, by omega, by go_num, Hdi3.out.olds Ho4.out, ((Hfr.out.trans (Fr.of_below Hb2.out (by omega) _ _)).trans Hfr3.out).trans ⟨Hb4.out B, fun b o hb _ _ => (Ho4.out.2 b (heap_lt hb)).trans hb⟩⟩
          case measure => simp [intOf]; omega
        · have hvac : 0 < (octs ds).length → (some (⟨wr.heap.size, 0, none⟩ : Addr)) = some ⟨wr.heap.size, 0, none⟩ ∧ ∃ ad, some (⟨b, off, spot⟩ : Addr) = some ad ∧ ∀ j v, (octs ds)[j]? = some v → w1.cell? (ad.add j) = some v := fun h => by rw [hds0] at h; simp [octs] at h
          go_upto_region 6 with ((refine wpList_copy_splice rfl _ _ 33 33 rfl 5 Tryd.underlying33 hsz5 (some ⟨wr.heap.size, 0, none⟩) (some ⟨b, off, spot⟩) 256 256 0 dc rfl rfl wr.heap.size 0 (octs (List.replicate 256 0)) 5 hnb (octs ds) hdl hvac hfit hone wr.heap.size wr HB1.out (Nat.le_refl _) ?_; intro w2 hh2 hb2))
          have Hb2 := Lib.hid hb2
          clear hb2
          have hrow2 : ByteRow w2 wr.heap.size (.slice (some ⟨wr.heap.size, 0, none⟩) 256 256) 256 := HRow.out w2 hh2.out
          have HDW := Lib.hid (dwrite_any (w := w2) (B := B) (B' := wr.heap.size) a (Hdi.out.olds (Olds.of_below Hb2.out)) han hn (by omega) (by have := Hb2.out.size; omega) hrow2)
          have hs2 : w2.heap[sb]? = _ := (Hb2.out.block sb (heap_lt hsbr)).trans hsbr
          have Hs2 := Lib.hid hs2
          have h20 : w2.cell? ⟨sb, 0, none⟩ = some (.pointer (some ⟨db, 0, none⟩)) := by rw [cell_of_heap hs2]; rfl
          have hz2 := Hb2.out.size
          clear hs2 hrow2 hh2
          go_wp2_with (first
            | (go_at_call 22; refine HDW.out.mono ?_; clear HDW; rintro e w3 ⟨rfl, hdi3, hfr3⟩; have Hdi3 := Lib.hid hdi3; have Hfr3 := Lib.hid hfr3; have HDD := Lib.hid (did_any (hfr3.keep Hs2.out (by simpa using hsbm) (by decide))); clear hdi3 hfr3)
            | (go_at_call 35; refine HDD.out.mono ?_; clear HDD; rintro e w4 ⟨rfl, ho4, hb4⟩; have Ho4 := Lib.hid ho4; have Hb4 := Lib.hid hb4; clear ho4 hb4))
          go_roundw
          case rel => exact ⟨k + 1, by omega, by go_num, Hdi3.out.olds Ho4.out, ((Hfr.out.trans (Fr.of_below Hb2.out (by omega) _ _)).trans Hfr3.out).trans ⟨Hb4.out B, fun b o hb _ _ => (Ho4.out.2 b (heap_lt hb)).trans hb⟩⟩
          case measure => simp [intOf]; omega
      · obtain ⟨b, off, rfl, hcb⟩ : ∃ b off, da = some ⟨b, off, none⟩ ∧ CellsAt w1 b off (octs bs) := by
          obtain ⟨o', c', e1, _, hne⟩ := hby
          simp only [Value.slice.injEq] at e1
          obtain ⟨rfl, _, _⟩ := e1
          exact hne (fun e => by have := congrArg List.length e; rw [octs_len, hbl] at this; simp at this; omega)
        have hsrc : ∀ j v, (octs ds)[j]? = some v → w1.cell? ((⟨b, off + p, none⟩ : Addr).add j) = some v := fun j v hv => by
          rw [show (⟨b, off + p, none⟩ : Addr).add j = ⟨b, off + p + j, none⟩ by simp [Addr.add], Nat.add_assoc]
          refine hcb (p + j) v ?_
          rw [Hhds.out] at hv
          have hj : j < 256 := by
            have := (List.getElem?_eq_some_iff.1 hv).1
            rw [octs_len, List.length_take] at this
            omega
          unfold octs at hv ⊢
          rw [List.map_take, List.map_drop, List.getElem?_take_of_lt hj, List.getElem?_drop] at hv
          exact hv
        by_cases hpk : k * 256 < dn
        · obtain rfl : p = k * 256 := by omega
          clear hmin hp
          go_upto_region 6 with ((refine wpList_copy_splice rfl _ _ 33 33 rfl 5 Tryd.underlying33 hsz5 (some ⟨wr.heap.size, 0, none⟩) (some ⟨b, off + k * 256, none⟩) 256 256 (dn - k * 256) (dc - k * 256) rfl rfl wr.heap.size 0 (octs (List.replicate 256 0)) 5 hnb (octs ds) hdl (fun _ => ⟨rfl, _, rfl, hsrc⟩) hfit hone wr.heap.size wr HB1.out (Nat.le_refl _) ?_; intro w2 hh2 hb2))
          have Hb2 := Lib.hid hb2
          clear hb2
          have hrow2 : ByteRow w2 wr.heap.size (.slice (some ⟨wr.heap.size, 0, none⟩) 256 256) 256 := HRow.out w2 hh2.out
          have HDW := Lib.hid (dwrite_any (w := w2) (B := B) (B' := wr.heap.size) a (Hdi.out.olds (Olds.of_below Hb2.out)) han hn (by omega) (by have := Hb2.out.size; omega) hrow2)
          have hs2 : w2.heap[sb]? = _ := (Hb2.out.block sb (heap_lt hsbr)).trans hsbr
          have Hs2 := Lib.hid hs2
          have h20 : w2.cell? ⟨sb, 0, none⟩ = some (.pointer (some ⟨db, 0, none⟩)) := by rw [cell_of_heap hs2]; rfl
          have hz2 := Hb2.out.size
          clear hs2 hrow2 hh2
          go_wp2_with (first
            | (go_at_call 22; refine HDW.out.mono ?_; clear HDW; rintro e w3 ⟨rfl, hdi3, hfr3⟩; have Hdi3 := Lib.hid hdi3; have Hfr3 := Lib.hid hfr3; have HDD := Lib.hid (did_any (hfr3.keep Hs2.out (by simpa using hsbm) (by decide))); clear hdi3 hfr3)
            | (go_at_call 35; refine HDD.out.mono ?_; clear HDD; rintro e w4 ⟨rfl, ho4, hb4⟩; have Ho4 := Lib.hid ho4; have Hb4 := Lib.hid hb4; clear ho4 hb4))
          go_roundw
          case rel => exact ⟨k + 1, by omega, by go_num, Hdi3.out.olds Ho4.out, ((Hfr.out.trans (Fr.of_below Hb2.out (by omega) _ _)).trans Hfr3.out).trans ⟨Hb4.out B, fun b o hb _ _ => (Ho4.out.2 b (heap_lt hb)).trans hb⟩⟩
          case measure => simp [intOf]; omega
        · obtain rfl : p = dn := by omega
          have hds0 : ds = [] := by rw [hds, List.drop_of_length_le (by omega)]; rfl
          rw [Nat.sub_self] at hdl
          have hvac : 0 < (octs ds).length → (some (⟨wr.heap.size, 0, none⟩ : Addr)) = some ⟨wr.heap.size, 0, none⟩ ∧ ∃ ad, (if dc = p then some (⟨b, off, none⟩ : Addr) else some ⟨b, off + p, none⟩) = some ad ∧ ∀ j v, (octs ds)[j]? = some v → w1.cell? (ad.add j) = some v := fun h => by rw [hds0] at h; simp [octs] at h
          clear hmin hp
          go_upto_region 6 with ((refine wpList_copy_splice rfl _ _ 33 33 rfl 5 Tryd.underlying33 hsz5 (some ⟨wr.heap.size, 0, none⟩) (if dc = p then some ⟨b, off, none⟩ else some ⟨b, off + p, none⟩) 256 256 0 (dc - p) rfl rfl wr.heap.size 0 (octs (List.replicate 256 0)) 5 hnb (octs ds) hdl hvac hfit hone wr.heap.size wr HB1.out (Nat.le_refl _) ?_; intro w2 hh2 hb2))
          have Hb2 := Lib.hid hb2
          clear hb2
          have hrow2 : ByteRow w2 wr.heap.size (.slice (some ⟨wr.heap.size, 0, none⟩) 256 256) 256 := HRow.out w2 hh2.out
          have HDW := Lib.hid (dwrite_any (w := w2) (B := B) (B' := wr.heap.size) a (Hdi.out.olds (Olds.of_below Hb2.out)) han hn (by omega) (by have := Hb2.out.size; omega) hrow2)
          have hs2 : w2.heap[sb]? = _ := (Hb2.out.block sb (heap_lt hsbr)).trans hsbr
          have Hs2 := Lib.hid hs2
          have h20 : w2.cell? ⟨sb, 0, none⟩ = some (.pointer (some ⟨db, 0, none⟩)) := by rw [cell_of_heap hs2]; rfl
          have hz2 := Hb2.out.size
          clear hs2 hrow2 hh2
          go_wp2_with (first
            | (go_at_call 22; refine HDW.out.mono ?_; clear HDW; rintro e w3 ⟨rfl, hdi3, hfr3⟩; have Hdi3 := Lib.hid hdi3; have Hfr3 := Lib.hid hfr3; have HDD := Lib.hid (did_any (hfr3.keep Hs2.out (by simpa using hsbm) (by decide))); clear hdi3 hfr3)
            | (go_at_call 35; refine HDD.out.mono ?_; clear HDD; rintro e w4 ⟨rfl, ho4, hb4⟩; have Ho4 := Lib.hid ho4; have Hb4 := Lib.hid hb4; clear ho4 hb4))
          go_roundw
          case rel => exact ⟨k + 1, by omega, by go_num, Hdi3.out.olds Ho4.out, ((Hfr.out.trans (Fr.of_below Hb2.out (by omega) _ _)).trans Hfr3.out).trans ⟨Hb4.out B, fun b o hb _ _ => (Ho4.out.2 b (heap_lt hb)).trans hb⟩⟩
          case measure => simp [intOf]; omega
    · go_wp2_with fail
      go_ret
      obtain rfl : k = m := by omega
      exact ⟨rfl, Hdi.out, Hfr.out⟩
end Go.Proofs.YtndjmffnlcilbaaDoor
