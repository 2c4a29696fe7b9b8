/- Contracts over this program. Their conditions: the slices read as the lists that are named, and lie within the sizes that are named. -/
import Derived.Test.YtaoggppfimfhbaaGreatDoorNh
import Derived.Deep.RegionLaw
import Derived.Lib.ConvBytes
import Derived.Test.YtaoggppfimfhbaaGreatDoorNi
import Derived.Defers
import Derived.Recover
import Derived.Laws.Pointers
set_option linter.unusedSimpArgs false
set_option linter.unusedVariables false
set_option linter.deprecated false
set_option linter.unnecessarySimpa false
namespace Go.Proofs.YtaoggppfimfhbaaGreatDoor
open Go Go.RowKit


theorem step_call1 {P : Program} {ops : Array Oper} {o : Oper} {a : Act} {w : World} {K : Act → World → Prop} {Q : Exit → Act → World → Prop} {E : Prop} (hg : o.guard = none) (f : FuncId) (x : Operand) (t : TypeId)
    (hop : o.op = .call { callee := .value (.func f), args := #[x], argTypes := #[t] }) (u : Value) (hx : a.eval x = u) (en : ∀ args w, (callFunc f args).run P w = .ok (.enter f args) w) {S : Value → World → Prop}
    (hc : Calls P f #[u] w fun e w' => ∃ v, e = .returned v ∧ S v w') (hK : ∀ v w', S v w' → K (a.put o.dst v) w') :
    if Region.wanted o (yielded ops a.tmps) = true then Oper.wp P o a w K Q else E := by
  have hw : Region.wanted o (yielded ops a.tmps) = true := by simp [Region.wanted, hg]
  rw [if_pos hw]
  have hrun : (execOp a.eval o).run P w = .ok (.enter f #[u]) w := by
    have h1 := en #[u] w
    simp only [execOp, hop]
    have ev : a.eval (.func f) = .func (.func f) #[] #[] := rfl
    simp only [resolve, ev]
    show (invoke (.fn (.func f) #[]) (#[] ++ (#[x].map a.eval))).run P w = _
    have e : (#[] ++ (#[x].map a.eval) : Array Value) = #[u] := by simp [hx]
    rw [e]
    have e2 : invoke (.fn (.func f) #[]) #[u] = callFunc f (#[u] ++ #[]) := rfl
    rw [e2, show (#[u] ++ #[] : Array Value) = #[u] from rfl]
    exact h1
  unfold Oper.wp
  rw [hrun, Oper.upon_enter]
  refine hc.mono ?_
  rintro e w' ⟨v, rfl, hS⟩
  exact hK v w' hS



theorem step_call2 {P : Program} {ops : Array Oper} {o : Oper} {a : Act} {w : World} {K : Act → World → Prop} {Q : Exit → Act → World → Prop} {E : Prop} (hg : o.guard = none) (f : FuncId) (x y : Operand) (t t2 : TypeId)
    (hop : o.op = .call { callee := .value (.func f), args := #[x, y], argTypes := #[t, t2] }) (u u2 : Value) (hx : a.eval x = u) (hy : a.eval y = u2) (en : ∀ args w, (callFunc f args).run P w = .ok (.enter f args) w) {S : Value → World → Prop}
    (hc : Calls P f #[u, u2] w fun e w' => ∃ v, e = .returned v ∧ S v w') (hK : ∀ v w', S v w' → K (a.put o.dst v) w') :
    if Region.wanted o (yielded ops a.tmps) = true then Oper.wp P o a w K Q else E := by
  have hw : Region.wanted o (yielded ops a.tmps) = true := by simp [Region.wanted, hg]
  rw [if_pos hw]
  have hrun : (execOp a.eval o).run P w = .ok (.enter f #[u, u2]) w := by
    have h1 := en #[u, u2] w
    simp only [execOp, hop]
    have ev : a.eval (.func f) = .func (.func f) #[] #[] := rfl
    simp only [resolve, ev]
    show (invoke (.fn (.func f) #[]) (#[] ++ (#[x, y].map a.eval))).run P w = _
    have e : (#[] ++ (#[x, y].map a.eval) : Array Value) = #[u, u2] := by simp [hx, hy]
    rw [e]
    have e2 : invoke (.fn (.func f) #[]) #[u, u2] = callFunc f (#[u, u2] ++ #[]) := rfl
    rw [e2, show (#[u, u2] ++ #[] : Array Value) = #[u, u2] from rfl]
    exact h1
  unfold Oper.wp
  rw [hrun, Oper.upon_enter]
  refine hc.mono ?_
  rintro e w' ⟨v, rfl, hS⟩
  exact hK v w' hS

end Go.Proofs.YtaoggppfimfhbaaGreatDoor
namespace Go.Proofs.YtaoggppfimfhbaaGreatDoor
open Go Go.RowKit Go.Ix


def RdAt (W : World) (rb g : Nat) (rest : List Nat) (sv : Value) : Prop :=
  ∃ off cap, W.heap[rb]? = some (.cells #[.slice (some ⟨g, off, none⟩) rest.length cap, sv] 148 (0, 0)) ∧ rest.length ≤ cap ∧ cap ≤ maxLen ∧ CellsAt W g off (octs rest) ∧ g ≠ rb


abbrev But (rb : Nat) (w : World) : Nat → Prop := fun k => k < w.heap.size ∧ k ≠ rb

theorem rd_store {W : World} {rb g off cap : Nat} {v sv : Value} {rest : List Nat} {m : Nat} (hh : W.heap[rb]? = some (.cells #[v, sv] 148 (0, 0))) (hc : CellsAt W g off (octs rest)) (hne : g ≠ rb) (hm : rest.length = m) (h1 : m ≤ cap) (h2 : cap ≤ maxLen) :
    RdAt (W.setCell ⟨rb, 0, none⟩ (.slice (some ⟨g, off, none⟩) m cap)) rb g rest sv := by
  refine ⟨off, cap, ?_, by omega, h2, fun j u hu => ?_, hne⟩
  · rw [hm]
    simp [World.setCell, Array.getElem?_modify, hh]
  · rw [← hc j u hu]
    exact World.cell?_of_block (Below.heap_setCell _ _ _ _ hne)

set_option maxRecDepth 20000 in
set_option maxHeartbeats 1000000 in
theorem rd_text {W : World} {rb g : Nat} {sv : Value} (s : Txt) (rest : List Nat) (h : RdAt W rb g (nums s ++ rest) sv) (hl : (nums s ++ rest).length ≤ 1000000000000) :
    Calls Tryz.prog 100 #[.pointer (some ⟨rb, 0, none⟩), .int .i64 (s.length : Nat)] W fun e w' => e = .returned (encStr s) ∧ RdAt w' rb g rest sv ∧ Kept (But rb W) W w' ∧ w'.heap.size = W.heap.size := by
  obtain ⟨off, cap, hh, hcap, hmax, hc, hne⟩ := h
  have hlen : (nums s ++ rest).length = s.length + rest.length := by rw [List.length_append, nums_len]
  have hc0 : W.cell? ⟨rb, 0, none⟩ = some (.slice (some ⟨g, off, none⟩) (s.length + rest.length) cap) := by rw [← hlen]; simp [World.cell?, hh]
  have hf0 : W.frozen? ⟨rb, 0, none⟩ = false := by simp [World.frozen?, hh]
  rw [hlen] at hcap hl
  unfold maxLen at hmax
  have hcv : (convert 25 9 (.slice (some ⟨g, off, none⟩) s.length cap)).run Tryz.prog W = .ok (encStr s) W := by
    have := run_convert_bytes_back (P := Tryz.prog) W 25 9 5 ⟨g, off, none⟩ cap s Tryz.underlying25 Tryz.underlying5 Tryz.underlying9 fun j hj => by
      have := hc j (.int .u8 (s[j].toNat : Int)) (by
        unfold octs nums
        rw [List.map_append, List.getElem?_append_left (by simpa using hj)]
        simp [hj])
      rw [WideShapes.add_plain]
      exact this
    exact this
  have Hc := Lib.hid hc
  have Hh := Lib.hid hh
  have Hne := Lib.hid hne
  clear hh hc hne hlen
  generalize hn : s.length = n at *
  generalize hm : rest.length = m at *
  have Hn := Lib.hid hn
  have Hm := Lib.hid hm
  clear hn hm
  go_enter Tryz.func100, Tryz.ntmps100
  go_wp2_with fail
  all_goals go_ret
  all_goals refine ⟨rfl, ?_, Kept.setCell (Kept.refl _ _) (fun h => h.2 rfl) _, by simp [World.setCell]⟩
  · have hm0 : m = 0 := by omega
    have hr : rest = [] := List.eq_nil_of_length_eq_zero (by rw [Hm.out]; exact hm0)
    exact rd_store Hh.out (fun j u hu => by rw [hr] at hu; simp [octs] at hu) Hne.out Hm.out (by omega) (by unfold maxLen; omega)
  · refine rd_store Hh.out (fun j u hu => ?_) Hne.out Hm.out (by omega) (by unfold maxLen; omega)
    have := Hc.out (n + j) u (by
      rw [octs_append, List.getElem?_append_right (by rw [octs_len, nums_len, Hn.out]; omega), octs_len, nums_len, Hn.out, Nat.add_sub_cancel_left]
      exact hu)
    rwa [← Nat.add_assoc] at this

theorem bytes_txt {l : List Nat} (h : ∀ x ∈ l, x < 256) : nums (l.map UInt8.ofNat) = l := by
  unfold nums
  rw [List.map_map]
  conv => rhs; rw [← List.map_id l]
  refine List.map_congr_left fun x hx => ?_
  have := h x hx
  simp [UInt8.toNat_ofNat, Nat.mod_eq_of_lt this]

theorem conv_facts {s : Txt} {many v : Nat} (hs : nums s = low many v) (hl : s.length = many) (w1 : World) (h : (convert 9 25 (Value.string ⟨s.toArray⟩)).run Tryz.prog w1 = .ok (.slice (some ⟨w1.heap.size, 0, none⟩) (ByteArray.size ⟨s.toArray⟩) (grownCap w1 (ByteArray.size ⟨s.toArray⟩) 0 5)) (Lib.bytesWorld w1 5 ⟨s.toArray⟩)) :
    ∃ (w2 : World) (cc : Nat), (convert 9 25 (encStr s)).run Tryz.prog w1 = .ok (.slice (some ⟨w1.heap.size, 0, none⟩) many cc) w2 ∧ (∀ j, j < many → w2.cell? ⟨w1.heap.size, j, none⟩ = some (.int .u8 (((low many v).getD j 0 : Nat) : Int))) ∧ Below w1.heap.size w1 w2 := by
  have hsz : ByteArray.size ⟨s.toArray⟩ = many := by rw [← hl]; simp [ByteArray.size]
  refine ⟨Lib.bytesWorld w1 5 ⟨s.toArray⟩, _, by rw [hsz] at h; exact h, fun j hj => ?_, ?_⟩
  · rw [Lib.bytesWorld_cell w1 5 ⟨s.toArray⟩ j (by rw [hsz]; exact hj), ← hs]
    have hj' : j < s.length := by omega
    simp [nums, List.getD, hj']
  · refine ⟨rfl, rfl, rfl, by rw [Lib.bytesWorld_size]; omega, fun k hk => Lib.bytesWorld_at_old w1 5 _ k hk⟩

theorem back_take_lt (many v k : Nat) : back ((low many v).take k) < 256 ^ k := by
  have h1 := back_lt ((low many v).take k) fun x hx => low_lt _ _ x (List.mem_of_mem_take hx)
  refine Nat.lt_of_lt_of_le h1 (Nat.pow_le_pow_right (by decide) ?_)
  rw [List.length_take]
  omega
theorem back_snoc (l : List Nat) (x : Nat) : back (l ++ [x]) = back l + 256 ^ l.length * x := by
  induction l with
  | nil => simp [back]
  | cons y l ih =>
    show y + 256 * back (l ++ [x]) = (y + 256 * back l) + _
    rw [ih, List.length_cons, Nat.pow_succ, Nat.mul_add]
    have : 256 * (256 ^ l.length * x) = 256 ^ l.length * 256 * x := by rw [← Nat.mul_assoc, Nat.mul_comm 256]
    omega
theorem back_step (many v : Nat) {k : Nat} (hk : k < many) : ∃ x, (low many v).getD k 0 = x ∧ x < 256 ∧ back ((low many v).take (k + 1)) = back ((low many v).take k) + 256 ^ k * x := by
  have hl : k < (low many v).length := by rw [low_len]; exact hk
  refine ⟨(low many v)[k], by simp [List.getD, hl], low_lt _ _ _ (List.getElem_mem hl), ?_⟩
  rw [List.take_succ_eq_append_getElem hl, back_snoc, List.length_take, Nat.min_eq_left (by omega)]

theorem or_step (acc x k : Nat) (hk : k < 8) (h1 : acc < 256 ^ k) (h2 : x < 256) : bits .or .u64 (acc : Int) (IntKind.u64.wrap ((x : Int) * 2 ^ (8 * k))) = ((acc + 256 ^ k * x : Nat) : Int) := by
  have e : (256 : Nat) ^ k = 2 ^ (8 * k) := by rw [Nat.pow_mul]
  have hp : (2 : Nat) ^ (8 * k) * 256 ≤ 2 ^ 64 := by
    rw [show (256 : Nat) = 2 ^ 8 from rfl, ← Nat.pow_add]
    exact Nat.pow_le_pow_right (by decide) (by omega)
  have hx : 2 ^ (8 * k) * x < 2 ^ 64 := Nat.lt_of_lt_of_le (Nat.mul_lt_mul_of_pos_left h2 (Nat.pow_pos (by decide))) hp
  have hw : IntKind.u64.wrap ((x : Int) * 2 ^ (8 * k)) = ((2 ^ (8 * k) * x : Nat) : Int) := by
    rw [show ((x : Int) * 2 ^ (8 * k)) = ((2 ^ (8 * k) * x : Nat) : Int) by push_cast; rw [Int.mul_comm], IntKind.wrap_u64]
    omega
  have ha : acc < 2 ^ 64 := by
    have : (256 : Nat) ^ k ≤ 2 ^ 64 := by rw [e]; exact Nat.pow_le_pow_right (by decide) (by omega)
    omega
  rw [hw, (bits_nat .u64 64 (by decide) (fun n h0 h1 => by rw [IntKind.wrap_u64]; omega) acc (2 ^ (8 * k) * x) ha hx).2]
  have h3 := Nat.two_pow_add_eq_or_of_lt (i := 8 * k) (b := acc) (by rw [← e]; exact h1) x
  rw [Nat.or_comm, ← h3, e, Nat.add_comm]

set_option maxRecDepth 20000 in
set_option maxHeartbeats 1000000 in
theorem rd_number {W : World} {rb g : Nat} {sv : Value} (many v : Nat) (rest : List Nat) (h : RdAt W rb g (low many v ++ rest) sv) (hm : many ≤ 8) (hv : v < 256 ^ many) (hl : (low many v ++ rest).length ≤ 1000000000000) :
    Calls Tryz.prog 74 #[.pointer (some ⟨rb, 0, none⟩), .int .i64 (many : Nat)] W fun e w' => e = .returned (.int .u64 (v : Nat)) ∧ RdAt w' rb g rest sv ∧ Kept (But rb W) W w' := by
  obtain ⟨s, hs, hsl⟩ : ∃ s : Txt, nums s = low many v ∧ s.length = many := ⟨(low many v).map UInt8.ofNat, bytes_txt (low_lt _ _), by rw [List.length_map, low_len]⟩
  rw [← hs] at h hl
  have HT := Lib.hid (rd_text s rest h hl)
  rw [hsl] at HT
  have Hs := Lib.hid hs
  have Hsl := Lib.hid hsl
  have Hv := Lib.hid hv
  clear h hl hs hsl hv
  go_enter Tryz.func74, Tryz.ntmps74
  go_wp2_with (go_at_call 100; refine HT.out.mono ?_; rintro e w1 ⟨rfl, hr1, hk1, hz1⟩; have hcv0 := Lib.run_convert_string_bytes (P := Tryz.prog) w1 9 25 5 ⟨s.toArray⟩ Tryz.underlying9 Tryz.underlying25 Tryz.underlying5; obtain ⟨w2, cc, hcv, hcell, hkeep⟩ : ∃ (w2 : World) (cc : Nat), (convert 9 25 (encStr s)).run Tryz.prog w1 = .ok (.slice (some ⟨w1.heap.size, 0, none⟩) many cc) w2 ∧ (∀ j, j < many → w2.cell? ⟨w1.heap.size, j, none⟩ = some (.int .u8 (((low many v).getD j 0 : Nat) : Int))) ∧ Below w1.heap.size w1 w2 := (conv_facts Hs.out Hsl.out w1 hcv0); have Hr1 := Lib.hid hr1; have Hk1 := Lib.hid hk1; have Hz1 := Lib.hid hz1; have Hcell := Lib.hid hcell; have Hkeep := Lib.hid hkeep; clear hr1 hk1 hz1 HT hcv0 hcell hkeep)
  go_loopw [5, 13] (fun nv iv wr => ∃ k : Nat, k ≤ many ∧ iv = .int .i64 k ∧ nv = .int .u64 (back ((low many v).take k) : Nat) ∧ wr = w2) (fun _ iv _ => many - (intOf iv).toNat)
  case atStart => exact ⟨0, Nat.zero_le _, rfl, rfl, rfl⟩
  case round =>
    obtain ⟨k, hk, rfl, rfl, rfl⟩ := hrel
    have hbk : back ((low many v).take k) < 256 ^ k := back_take_lt _ _ _
    have hbk8 : (256 : Nat) ^ k ≤ 256 ^ 8 := Nat.pow_le_pow_right (by decide) (by omega)
    by_cases hlt : k < many
    · obtain ⟨x, hx, hxb, hstep⟩ := back_step many v hlt
      have hc := Hcell.out k hlt
      rw [hx] at hc
      generalize hacc : back ((low many v).take k) = acc at *
      have hor : bits .or .u64 (acc : Int) (IntKind.u64.wrap ((x : Int) * 2 ^ (8 * k))) = ((back ((low many v).take (k + 1)) : Nat) : Int) := by
        rw [hstep]
        exact or_step acc x k (by omega) hbk hxb
      go_wp2_with fail
      go_roundw
      case rel => exact ⟨k + 1, by omega, by go_num, by rw [hstep]; push_cast; rfl, trivial⟩
      case measure => simp [intOf]; omega
    · obtain rfl : k = many := by omega
      have hfin : back ((low k v).take k) = v := by
        rw [List.take_of_length_le (by rw [low_len]; exact Nat.le_refl _), back_low]
        exact Nat.mod_eq_of_lt Hv.out
      generalize back ((low k v).take k) = acc at *
      have Hfin := Lib.hid hfin
      clear hfin
      go_wp2_with fail
      go_ret
      refine ⟨by rw [Hfin.out]; rfl, ?_, ?_⟩
      · obtain ⟨off, cap, q1, q2, q3, q4, q5⟩ := Hr1.out
        have hlt := (Array.getElem?_eq_some_iff.1 q1).1
        exact ⟨off, cap, (Hkeep.out.block _ hlt).trans q1, q2, q3, q4.olds (Olds.of_below Hkeep.out), q5⟩
      · exact Hk1.out.trans (Kept.of_below Hkeep.out fun b hb => by have := hb.1; have := Hz1.out; omega)
end Go.Proofs.YtaoggppfimfhbaaGreatDoor
namespace Go.Proofs.YtaoggppfimfhbaaGreatDoor
open Go Go.RowKit Go.Ix

theorem low_bound {k n : Nat} (h : n < 256 ^ k) : n < 256 ^ k := h

set_option maxRecDepth 20000 in
set_option maxHeartbeats 1000000 in
theorem rd_count {W : World} {rb g : Nat} {sv : Value} (v : Nat) (rest : List Nat) (h : RdAt W rb g (low 4 v ++ rest) sv) (hv : v < 4294967296) (hl : (low 4 v ++ rest).length ≤ 1000000000000) :
    Calls Tryz.prog 102 #[.pointer (some ⟨rb, 0, none⟩)] W fun e w' => e = .returned (.int .i64 (v : Nat)) ∧ RdAt w' rb g rest sv ∧ Kept (But rb W) W w' := by
  have HN := Lib.hid (rd_number 4 v rest h (by decide) (by simpa using hv) hl)
  clear h hl
  go_enter Tryz.func102, Tryz.ntmps102
  go_wp2_with (go_at_call 74; refine HN.out.mono ?_; rintro e w1 ⟨rfl, hr1, hk1⟩; have Hr1 := Lib.hid hr1; have Hk1 := Lib.hid hk1; clear hr1 hk1 HN)
  go_ret
  exact ⟨rfl, Hr1.out, Hk1.out⟩

theorem RowT.but {W W' : World} {rb : Nat} {sv : Value} {ss : List Txt} (h : RowT W (rb + 1) sv ss) (hk : Kept (But rb W) W W') : RowT W' (rb + 1) sv ss :=
  ownsRow_kept h hk fun g hg => ⟨(ownsRow_block h hg).2, by have := (ownsRow_block h hg).1; omega⟩

set_option maxRecDepth 20000 in
set_option maxHeartbeats 1000000 in
theorem rd_symbol {W : World} {rb g : Nat} {sv : Value} {ss : List Txt} {s : Txt} (n : Nat) (rest : List Nat) (h : RdAt W rb g (low 4 n ++ rest) sv) (hs : RowT W (rb + 1) sv ss) (hn : ss[n]? = some s) (hlen : ss.length ≤ 1000000) (hl : (low 4 n ++ rest).length ≤ 1000000000000) :
    Calls Tryz.prog 130 #[.pointer (some ⟨rb, 0, none⟩)] W fun e w' => e = .returned (encStr s) ∧ RdAt w' rb g rest sv ∧ Kept (But rb W) W w' := by
  have hlt : n < ss.length := (List.getElem?_eq_some_iff.1 hn).1
  have HN := Lib.hid (rd_count n rest h (by omega) hl)
  obtain ⟨so, sc, rfl, h0⟩ := ownsRow_shape hs
  have Hs := Lib.hid hs
  have Hn := Lib.hid hn
  clear h hl hs
  generalize hm : ss.length = m at *
  have hmm := Lib.hid hm
  clear hm
  obtain ⟨gs, rfl⟩ : ∃ gs, so = some ⟨gs, 0, none⟩ := by
    rcases Hs.out.2 with ⟨e, h0⟩ | ⟨g', cap, cur, e, _⟩
    · have : ss = [] := by simpa using h0
      rw [this] at hmm
      have := hmm.out
      simp at this
      omega
    · simp only [Value.slice.injEq] at e
      exact ⟨g', e.1⟩
  go_enter Tryz.func130, Tryz.ntmps130
  go_wp2_with (go_at_call 102; refine HN.out.mono ?_; rintro e w1 ⟨rfl, hr1, hk1⟩; have Hr1 := Lib.hid hr1; have Hk1 := Lib.hid hk1; obtain ⟨off1, cap1, q1, _⟩ := id hr1; have hc1 : w1.cell? ⟨rb, 1, none⟩ = some (.slice (some ⟨gs, 0, none⟩) m sc) := (by simp [World.cell?, q1]); have hcs : w1.cell? ⟨gs, n, none⟩ = some (encStr s) := (by have h5 := RowT.but (ss := ss) Hs.out hk1; unfold RowT at h5; rw [hmm.out] at h5; have h6 := ownsRow_cell h5 n (encStr s) (by rw [List.getElem?_map, Hn.out]; rfl); rwa [Nat.zero_add] at h6); clear hr1 hk1 HN q1)
  go_ret
  exact ⟨rfl, Hr1.out, Hk1.out⟩
end Go.Proofs.YtaoggppfimfhbaaGreatDoor
namespace Go.Proofs.YtaoggppfimfhbaaGreatDoor
open Go Go.RowKit Go.Ix

def OwnL (W : World) (B : Nat) (v : Value) (l : List Lbl) : Prop := W.ownsRow B 84 2 v l.length (l.flatMap lblCells)
def OwnP (W : World) (B : Nat) (v : Value) (l : List Plc) : Prop := W.ownsRow B 107 5 v l.length (l.flatMap plcCells)

theorem RdAt.keep {W W' : World} {rb g : Nat} {rest : List Nat} {sv : Value} (h : RdAt W rb g rest sv) (h1 : W'.heap[rb]? = W.heap[rb]?) (h2 : W'.heap[g]? = W.heap[g]?) : RdAt W' rb g rest sv := by
  obtain ⟨off, cap, q1, q2, q3, q4, q5⟩ := h
  exact ⟨off, cap, h1.trans q1, q2, q3, fun j u hu => (World.cell?_of_block h2).trans (q4 j u hu), q5⟩
theorem RdAt.olds {W W' : World} {rb g : Nat} {rest : List Nat} {sv : Value} (h : RdAt W rb g rest sv) (hg : g < W.heap.size) (ho : Olds W W') : RdAt W' rb g rest sv := by
  have hrb : rb < W.heap.size := by
    obtain ⟨off, cap, q1, _⟩ := h
    exact (Array.getElem?_eq_some_iff.1 q1).1
  exact h.keep (ho.2 _ hrb) (ho.2 _ hg)

theorem drop_flat {α : Type} {f : α → List Nat} {l : List α} {k : Nat} {x : α} (h : l[k]? = some x) : (l.drop k).flatMap f = f x ++ (l.drop (k + 1)).flatMap f := by
  obtain ⟨hk, e⟩ := List.getElem?_eq_some_iff.1 h
  rw [List.drop_eq_getElem_cons hk, e, List.flatMap_cons]
theorem take_flat {α β : Type} {f : α → List β} {l : List α} {k : Nat} {x : α} (h : l[k]? = some x) : (l.take (k + 1)).flatMap f = (l.take k).flatMap f ++ f x := by
  rw [List.take_add_one, h, List.flatMap_append]
  simp

theorem but_undrew {rb : Nat} {w w' : World} (h : Kept (But rb w.drew) w.drew w') : Kept (But rb w) w w' := ⟨h.os, h.tape, h.output, h.size, h.block⟩


structure LblIng (W wr : World) (rb g eb k : Nat) (l : List Lbl) (sv : Value) (T : List Nat) (o : Option Addr) (c : Nat) : Prop where
  cell : wr.heap[eb]? = some (.cells #[.slice o k c, .slice none 0 0] 78 (0, 0))
  own : OwnL wr (eb + 1) (.slice o k c) (l.take k)
  rd : RdAt wr rb g T sv
  kept : Kept (But rb W) W wr


structure PlcIng (W wr : World) (rb g eb n k : Nat) (l : List Lbl) (p : List Plc) (sv : Value) (T : List Nat) (o : Option Addr) (c : Nat) (o2 : Option Addr) (c2 : Nat) : Prop where
  cell : wr.heap[eb]? = some (.cells #[.slice o n c, .slice o2 k c2] 78 (0, 0))
  ownL : OwnL wr (eb + 1) (.slice o n c) l
  ownP : OwnP wr (eb + 1) (.slice o2 k c2) (p.take k)
  rd : RdAt wr rb g T sv
  kept : Kept (But rb W) W wr

theorem own_kind {W : World} {B e k : Nat} {v : Value} {n : Nat} {xs : List Value} (h : W.ownsRow B e k v n xs) {g : Nat} (hg : v.ownBlock = some g) : ∃ cur, W.heap[g]? = some (.cells cur e (0, 0)) := by
  rcases h.2 with ⟨e1, _⟩ | ⟨g', cap, cur, e1, _, h2, _⟩
  · rw [e1] at hg; cases hg
  · rw [e1] at hg
    cases hg
    exact ⟨cur, h2⟩
theorem own_apart {W : World} {B B' e e' k k' : Nat} {v v' : Value} {n n' : Nat} {xs xs' : List Value} (h : W.ownsRow B e k v n xs) (h' : W.ownsRow B' e' k' v' n' xs') (hne : e ≠ e') {g : Nat} (hg : v.ownBlock = some g) : v'.ownBlock ≠ some g := fun hg' => by
  obtain ⟨c1, h1⟩ := own_kind h hg
  obtain ⟨c2, h2⟩ := own_kind h' hg'
  rw [h1] at h2
  simp only [Option.some.injEq, Obj.cells.injEq] at h2
  exact hne h2.2.1

theorem lbl_step {W wr w3 w4 w5 : World} {rb g k c gg cap2 : Nat} {l : List Lbl} {sv : Value} {T T' : List Nat} {o : Option Addr} {y : Lbl} {O : Obj} (hrb : rb < W.heap.size) (hg : g < W.heap.size) (hst : LblIng W wr rb g W.heap.size k l sv T o c) (hyk : l[k]? = some y)
    (hk3 : Kept (But rb wr) wr w3) (hk4 : Kept (But rb w3) w3 w4) (hr4 : RdAt w4 rb g T' sv) (hh5 : w5.heap[W.heap.size]? = some (.cells #[.slice o k c, .slice none 0 0] 78 (0, 0)))
    (hown5 : w5.ownsRow (W.heap.size + 1) 84 2 (.slice (some ⟨gg, 0, none⟩) (k + 1) cap2) (k + 1) ((l.take k).flatMap lblCells ++ [encStr y.1, encStr y.2])) (hgrow5 : (w4.alloc O).grownBy w5 (Value.slice o k c).ownBlock) :
    LblIng W (w5.setCell ⟨W.heap.size, 0, none⟩ (.slice (some ⟨gg, 0, none⟩) (k + 1) cap2)) rb g W.heap.size (k + 1) l sv T' (some ⟨gg, 0, none⟩) cap2 := by
  have hgg := (ownsRow_block hown5 (g := gg) rfl).1
  have hs1 := hst.kept.size
  have hs3 := hk3.size
  have hs4 := hk4.size
  have hs5 := hgrow5.size
  rw [World.size_alloc] at hs5
  have hrow : ∀ b, (Value.slice o k c).ownBlock = some b → W.heap.size + 1 ≤ b := fun b hb => (ownsRow_block hst.own hb).1
  have hold : ∀ b, b < W.heap.size → (w5.setCell ⟨W.heap.size, 0, none⟩ (.slice (some ⟨gg, 0, none⟩) (k + 1) cap2)).heap[b]? = w4.heap[b]? := fun b hb => (Below.heap_setCell _ _ _ _ (by show b ≠ W.heap.size; omega)).trans ((hgrow5.block b (by rw [World.size_alloc]; omega) (fun e => by have := hrow b e.symm; omega)).trans (Below.heap_alloc _ _ b (by omega)))
  refine ⟨?_, ?_, hr4.keep (hold rb hrb) (hold g hg), ?_⟩
  · simp [World.setCell, Array.getElem?_modify, hh5]
  · have e1 : (l.take (k + 1)).length = k + 1 := by
      have := (List.getElem?_eq_some_iff.1 hyk).1
      rw [List.length_take]
      omega
    unfold OwnL
    rw [e1, take_flat hyk]
    exact ownsRow_blocks hown5 fun b hb => by
      cases hb
      exact Below.heap_setCell _ _ _ _ (by show gg ≠ W.heap.size; omega)
  · have h1 : Kept (But rb W) W w4 := (hst.kept.trans (hk3.mono fun b hb => ⟨by have := hb.1; omega, hb.2⟩)).trans (hk4.mono fun b hb => ⟨by have := hb.1; omega, hb.2⟩)
    exact ((h1.alloc (fun b hb => hb.1) _).grown hgrow5 (fun b hb => hb.1) (fun b hb hK => by have := hrow b hb; have := hK.1; omega)).setCell (fun hK => by have := hK.1; simp at this) _

theorem wrap_u64_i64 {z : Int} (h1 : -9223372036854775808 ≤ z) (h2 : z ≤ 9223372036854775807) : wrap64 ((Go.Ix.u64 z : Nat) : Int) = z := by
  unfold wrap64
  unfold Go.Ix.u64
  omega
theorem u64_small {z : Int} {n : Nat} (h1 : 0 ≤ z) (h2 : z < n) (hn : n ≤ 18446744073709551616) : Go.Ix.u64 z < n ∧ ((Go.Ix.u64 z : Nat) : Int) = z := by
  unfold Go.Ix.u64
  omega

theorem plc_step {W wr w9 w10 : World} {rb g n j c c2 gg cap2 : Nat} {l : List Lbl} {p : List Plc} {sv : Value} {T T' : List Nat} {o o2 : Option Addr} {ch : Plc} {O : Obj} (hrb : rb < W.heap.size) (hg : g < W.heap.size) (hst : PlcIng W wr rb g W.heap.size n j l p sv T o c o2 c2) (hch : p[j]? = some ch)
    (hk9 : Kept (But rb wr) wr w9) (hr9 : RdAt w9 rb g T' sv) (hh10 : w10.heap[W.heap.size]? = some (.cells #[.slice o n c, .slice o2 j c2] 78 (0, 0)))
    (hown10 : w10.ownsRow (W.heap.size + 1) 107 5 (.slice (some ⟨gg, 0, none⟩) (j + 1) cap2) (j + 1) ((p.take j).flatMap plcCells ++ plcCells ch)) (hgrow10 : (w9.alloc O).grownBy w10 (Value.slice o2 j c2).ownBlock) :
    PlcIng W (w10.setCell ⟨W.heap.size, 1, none⟩ (.slice (some ⟨gg, 0, none⟩) (j + 1) cap2)) rb g W.heap.size n (j + 1) l p sv T' o c (some ⟨gg, 0, none⟩) cap2 := by
  have hgg := (ownsRow_block hown10 (g := gg) rfl).1
  have hs1 := hst.kept.size
  have hs9 := hk9.size
  have hs10 := hgrow10.size
  rw [World.size_alloc] at hs10
  have hrow : ∀ b, (Value.slice o2 j c2).ownBlock = some b → W.heap.size + 1 ≤ b := fun b hb => (ownsRow_block hst.ownP hb).1
  have hold : ∀ b, b < w9.heap.size → b ≠ W.heap.size → (Value.slice o2 j c2).ownBlock ≠ some b → (w10.setCell ⟨W.heap.size, 1, none⟩ (.slice (some ⟨gg, 0, none⟩) (j + 1) cap2)).heap[b]? = w9.heap[b]? := fun b hb hne hr => (Below.heap_setCell _ _ _ _ hne).trans ((hgrow10.block b (by rw [World.size_alloc]; omega) (fun e => hr e.symm)).trans (Below.heap_alloc _ _ b hb))
  have hold2 : ∀ b, b < W.heap.size → (w10.setCell ⟨W.heap.size, 1, none⟩ (.slice (some ⟨gg, 0, none⟩) (j + 1) cap2)).heap[b]? = w9.heap[b]? := fun b hb => hold b (by omega) (by omega) (fun e => by have := hrow b e; omega)
  refine ⟨?_, ?_, ?_, hr9.keep (hold2 rb hrb) (hold2 g hg), ?_⟩
  · simp [World.setCell, Array.getElem?_modify, hh10]
  · refine ownsRow_blocks hst.ownL fun b hb => ?_
    have h1 := ownsRow_block hst.ownL hb
    exact (hold b (by omega) (by omega) (own_apart hst.ownL hst.ownP (by decide) hb)).trans (hk9.block b ⟨h1.2, by omega⟩)
  · have e1 : (p.take (j + 1)).length = j + 1 := by
      have := (List.getElem?_eq_some_iff.1 hch).1
      rw [List.length_take]
      omega
    unfold OwnP
    rw [e1, take_flat hch]
    exact ownsRow_blocks hown10 fun b hb => by
      cases hb
      exact Below.heap_setCell _ _ _ _ (by show gg ≠ W.heap.size; omega)
  · have h1 : Kept (But rb W) W w9 := hst.kept.trans (hk9.mono fun b hb => ⟨by have := hb.1; omega, hb.2⟩)
    exact ((h1.alloc (fun b hb => hb.1) _).grown hgrow10 (fun b hb => hb.1) (fun b hb hK => by have := hrow b hb; have := hK.1; omega)).setCell (fun hK => by have := hK.1; simp at this) _

theorem plc_facts {c : Plc} (h : PlcOk c) : wrap64 ((Go.Ix.u64 c.fr : Nat) : Int) = c.fr ∧ wrap64 ((Go.Ix.u64 c.til : Nat) : Int) = c.til ∧ wrap64 ((Go.Ix.u64 c.num : Nat) : Int) = c.num ∧ Go.Ix.u64 c.num < 65536 ∧
    Go.Ix.u64 c.pos < 4294967296 ∧ ((Go.Ix.u64 c.pos : Nat) : Int) = c.pos ∧ Go.Ix.u64 c.siz < 4294967296 ∧ ((Go.Ix.u64 c.siz : Nat) : Int) = c.siz := by
  obtain ⟨f1, f2, f3, f4, f5, f6, f7, f8, f9⟩ := h
  unfold far at f2 f3
  have e4 := u64_small (z := c.pos) (n := 4294967296) f6 (by omega) (by decide)
  have e5 := u64_small (z := c.siz) (n := 4294967296) f8 (by omega) (by decide)
  exact ⟨wrap_u64_i64 (by omega) (by omega), wrap_u64_i64 (by omega) (by omega), wrap_u64_i64 (by omega) (by omega), (u64_small (z := c.num) (n := 65536) (by omega) (by omega) (by decide)).1, e4.1, e4.2, e5.1, e5.2⟩

theorem enters130 : ∀ (args : Array Value) (w : World), (callFunc 130 args).run Tryz.prog w = .ok (.enter 130 args) w := enters_of Tryz.func130 (by kernel_rfl) rfl

set_option maxRecDepth 20000 in
set_option maxHeartbeats 4000000 in
theorem rd_entry {W : World} {rb g : Nat} {sv : Value} {ss : List Txt} (l : List Lbl) (p : List Plc) (rest : List Nat) (h : RdAt W rb g (entPart ss (l, p) ++ rest) sv) (hg : g < W.heap.size) (hs : RowT W (rb + 1) sv ss) (hlen : ss.length ≤ 1000000)
    (hy : ∀ y ∈ l, ss[idx ss y.1]? = some y.1 ∧ ss[idx ss y.2]? = some y.2) (hl64 : l.length ≤ 64) (hp4 : p.length ≤ 4000) (hp : ∀ c ∈ p, PlcOk c) (hl : (entPart ss (l, p) ++ rest).length ≤ 1000000000000) :
    Calls Tryz.prog 103 #[.pointer (some ⟨rb, 0, none⟩)] W fun e w' => ∃ u1 u2, e = .returned (.agg #[u1, u2]) ∧ OwnL w' W.heap.size u1 l ∧ OwnP w' W.heap.size u2 p ∧ RdAt w' rb g rest sv ∧ Kept (But rb W) W w' := by
  obtain ⟨i0, hi0, hz0, hz1, hz2⟩ := info_parts Tryz.info84
  obtain ⟨i1, hi1, hy0, hy1, hy2⟩ := info_parts Tryz.info107
  obtain ⟨T1, hT1⟩ : ∃ T1 : List Nat, T1 = low 4 p.length ++ (p.flatMap plcPart ++ rest) := ⟨_, rfl⟩
  have e0 : entPart ss (l, p) ++ rest = low 1 l.length ++ (l.flatMap (lblPart ss) ++ T1) := by
    rw [hT1]
    unfold entPart
    simp only [List.append_assoc]
  rw [e0] at h hl
  obtain ⟨L, hL⟩ : ∃ L : Nat → List Nat, ∀ k, L k = (l.drop k).flatMap (lblPart ss) ++ T1 := ⟨_, fun _ => rfl⟩
  have hLb : ∀ k, (L k).length ≤ 1000000000000 := fun k => by
    have h1 : (l.flatMap (lblPart ss)).length = l.length * 8 := flat_const_len (lblPart_len ss) l
    have h2 : ((l.drop k).flatMap (lblPart ss)).length = (l.drop k).length * 8 := flat_const_len (lblPart_len ss) _
    have h3 : (l.drop k).length ≤ l.length := by rw [List.length_drop]; omega
    rw [hL, List.length_append]
    simp only [List.length_append] at hl
    omega
  have hstep : ∀ k y, l[k]? = some y → L k = low 4 (idx ss y.1) ++ (low 4 (idx ss y.2) ++ L (k + 1)) := fun k y hk => by
    rw [hL, hL, drop_flat hk]
    unfold lblPart
    simp only [List.append_assoc]
  have hL0 : l.flatMap (lblPart ss) ++ T1 = L 0 := by rw [hL]; rfl
  have hLn : L l.length = T1 := by rw [hL, List.drop_length]; rfl
  rw [hL0] at h hl
  have h1 := h.olds hg (Olds.alloc W (.cells #[.slice none 0 0, .slice none 0 0] 78))
  have HN := Lib.hid (rd_number 1 l.length (L 0) h1 (by decide) (by omega) hl)
  clear h1
  have Hs := Lib.hid hs
  have HLb := Lib.hid hLb
  have Hstep := Lib.hid hstep
  have HLn := Lib.hid hLn
  have HT1 := Lib.hid hT1
  have Hy := Lib.hid hy
  have Hp := Lib.hid hp
  have Hg := Lib.hid hg
  have Hlen := Lib.hid hlen
  have Hat : Hid (∀ k, k < l.length → ∃ y, l[k]? = some y) := Lib.hid (fun k hk => ⟨_, List.getElem?_eq_getElem hk⟩)
  have hrb : rb < W.heap.size := by
    obtain ⟨off, cap, q1, _⟩ := h
    exact (Array.getElem?_eq_some_iff.1 q1).1
  clear h hg hs hlen hy hp hl hLb hstep hL0 hLn hT1 e0 hL
  generalize hn : l.length = n at *
  have Hn := Lib.hid hn
  clear hn
  have HE0 : Hid ((W.alloc (.cells #[.slice none 0 0, .slice none 0 0] 78)).heap[W.heap.size]? = some (.cells #[.slice none 0 0, .slice none 0 0] 78 (0, 0))) := Lib.hid (heap_alloc_new W _)
  have HK0 : Hid (Kept (But rb W) W (W.alloc (.cells #[.slice none 0 0, .slice none 0 0] 78))) := Lib.hid ((Kept.refl _ W).alloc (fun k hk => hk.1) _)
  have hsz0 : (W.alloc (.cells #[.slice none 0 0, .slice none 0 0] 78)).heap.size = W.heap.size + 1 := by simp
  go_enter Tryz.func103, Tryz.ntmps103
  go_wp2_with (go_at_call 74; refine HN.out.mono ?_; clear HN; rintro e w2 ⟨rfl, hr2, hk2⟩; have Hr2 := Lib.hid hr2; have Hk2 := Lib.hid hk2; clear hr2 hk2)
  generalize W.alloc (.cells #[.slice none 0 0, .slice none 0 0] 78) = w1 at *
  have hsz2 := Hk2.out.size
  have Hst0 : Hid (LblIng W w2 rb g W.heap.size 0 l sv (L 0) none 0) := Lib.hid ⟨(Hk2.out.block _ ⟨by omega, by omega⟩).trans HE0.out, World.ownsRow_nil _ _ _ _, Hr2.out, HK0.out.trans (Hk2.out.mono fun k hk => ⟨by have := hk.1; omega, hk.2⟩)⟩
  go_loopw [7] (fun iv wr => ∃ (k : Nat) (o : Option Addr) (c : Nat), k ≤ n ∧ iv = .int .u64 k ∧ LblIng W wr rb g W.heap.size k l sv (L k) o c) (fun iv _ => n - (intOf iv).toNat)
  case atStart => exact ⟨0, none, 0, Nat.zero_le _, rfl, Hst0.out⟩
  case round =>
    obtain ⟨k, o, c, hk, rfl, hst⟩ := hrel
    have Hst := Lib.hid hst
    clear hst
    by_cases hlt : k < n
    · obtain ⟨y, hyk⟩ := Hat.out k hlt
      obtain ⟨hi1', hi2'⟩ := Hy.out y (List.mem_of_getElem? hyk)
      have hLk := Hstep.out k y hyk
      have hwr := Hst.out.kept.size
      have Hc0 : Hid (wr.cell? ⟨W.heap.size, 0, none⟩ = some (.slice o k c) ∧ wr.frozen? ⟨W.heap.size, 0, none⟩ = false) := Lib.hid (by
        have := Hst.out.cell
        exact ⟨by simp [World.cell?, this], by simp [World.frozen?, this]⟩)
      have Hrd := Lib.hid (hLk ▸ Hst.out.rd)
      have HS1 := Lib.hid (rd_symbol (ss := ss) (idx ss y.1) _ Hrd.out (ownsRow_kept Hs.out Hst.out.kept fun b hb => ⟨(ownsRow_block Hs.out hb).2, by have := (ownsRow_block Hs.out hb).1; omega⟩) hi1' Hlen.out (by rw [← hLk]; exact HLb.out k))
      clear hLk
      go_wp2_with (go_at_call 130; refine HS1.out.mono ?_; clear HS1; rintro e w3 ⟨rfl, hr3, hk3⟩; have Hr3 := Lib.hid hr3; have Hk3 := Lib.hid hk3; clear hr3 hk3)
      have hs3 := Hk3.out.size
      have hgl : g < w3.heap.size := by have := Hg.out; omega
      have hebk : But rb wr W.heap.size := ⟨by have := (Array.getElem?_eq_some_iff.1 Hst.out.cell).1; omega, by omega⟩
      have Hh3 : Hid (∀ W', Olds w3 W' → W'.heap[W.heap.size]? = some (.cells #[.slice o k c, .slice none 0 0] 78 (0, 0))) := Lib.hid (fun W' hW => (hW.2 _ (by have := hebk.1; omega)).trans ((Hk3.out.block _ hebk).trans Hst.out.cell))
      have Hcl : Hid (∀ W', Olds w3 W' → W'.cell? ⟨W.heap.size, 0, none⟩ = some (.slice o k c)) := Lib.hid (fun W' hW => by simp [World.cell?, Hh3.out W' hW])
      have HS2 : Hid (∀ W', Olds w3 W' → Calls Tryz.prog 130 #[.pointer (some ⟨rb, 0, none⟩)] W' fun e w' => e = .returned (encStr y.2) ∧ RdAt w' rb g (L (k + 1)) sv ∧ Kept (But rb W') W' w') := Lib.hid (fun W' hW => rd_symbol (ss := ss) (idx ss y.2) _ (Hr3.out.olds hgl hW) (ownsRow_olds (ownsRow_kept Hs.out (Hst.out.kept.trans (Hk3.out.mono fun b hb => ⟨by have := hb.1; omega, hb.2⟩)) fun b hb => ⟨(ownsRow_block Hs.out hb).2, by have := (ownsRow_block Hs.out hb).1; omega⟩) hW) hi2' Hlen.out (by
        have h9 := HLb.out k
        rw [Hstep.out k y hyk, List.length_append] at h9
        omega))
      have Hown3 : Hid (∀ W', Kept (But rb w3) w3 W' → OwnL W' (W.heap.size + 1) (.slice o k c) (l.take k)) := Lib.hid (fun W' hW => by
        have h9 := Hst.out.own
        exact ownsRow_kept h9 ((Hk3.out).trans (hW.mono fun b hb => ⟨by have := hb.1; omega, hb.2⟩)) fun b hb => ⟨(ownsRow_block h9 hb).2, by have := (ownsRow_block h9 hb).1; omega⟩)
      have htk : (l.take k).length = k := by rw [List.length_take, Hn.out]; omega
      have Hyk := Lib.hid hyk
      have hcd := Hcl.out w3.drew (Olds.drewN w3 1)
      have O1 : Hid (Olds w3 w3.drew) := Lib.hid (Olds.drewN w3 1)
      have hds : w3.drew.heap.size = w3.heap.size := rfl
      clear hyk hi1' hi2'
      have HS2' : Hid (Calls Tryz.prog 130 #[.pointer (some ⟨rb, 0, none⟩)] w3.drew fun e w' => ∃ v, e = .returned v ∧ (v = encStr y.2 ∧ RdAt w' rb g (L (k + 1)) sv ∧ Kept (But rb w3) w3 w')) := Lib.hid ((HS2.out _ O1.out).mono fun e w' h => ⟨_, h.1, rfl, h.2.1, but_undrew h.2.2⟩)
      clear HS2
      go_region_law
        (first
          | (refine step_call1 (by rfl) 130 _ _ (by rfl) _ (by rfl) enters130 HS2'.out ?_; rintro v4 w4 ⟨rfl, hr4, hk4⟩; have Hr4 := Lib.hid hr4; have Hk4 := Lib.hid hk4; have hs4 := hk4.size; have Hh4 : Hid (w4.heap[W.heap.size]? = some (.cells #[.slice o k c, .slice none 0 0] 78 (0, 0))) := Lib.hid ((Hk4.out.block _ ⟨by have := hebk.1; omega, by omega⟩).trans (Hh3.out _ (Olds.refl _))); have Hc4 : Hid (∀ W', Olds w4 W' → W'.cell? ⟨W.heap.size, 0, none⟩ = some (.slice o k c)) := Lib.hid (fun W' hW => by simp [World.cell?, (hW.2 W.heap.size (by have := hebk.1; omega)).trans Hh4.out]); have hc4 := Hc4.out w4 (Olds.refl _); have hc4' := Hc4.out (w4.alloc (.cells #[encStr y.1, encStr y.2] 84)) (Olds.alloc _ _); clear hr4 hk4)
          | (refine step_append_lies _ (by rfl) _ _ _ (by rfl) (W.heap.size + 1) 84 i0 _ 2 32 Tryz.underlying75 hi0 hz0 hz1 hz2 rfl (by decide) (.slice o k c) k ((l.take k).flatMap lblCells) (by rfl) (ownsRow_olds (by have h9 := Hown3.out w4 Hk4.out; unfold OwnL at h9; rw [htk] at h9; exact h9) (Olds.alloc _ _)) ⟨w4.heap.size, 0, none⟩ 1 1 [encStr y.1, encStr y.2] (by rfl) (by rfl) (World.news_of_block (cs := #[encStr y.1, encStr y.2]) (t := 84) (fr := (0, 0)) (heap_alloc_new w4 _)) (by simp [Value.oneCell']) Nat.one_pos (by unfold maxLen; omega) (by omega) (by simp; omega) (w4.heap.size + 1) (by simp) ?_; intro gg cap2 w5 hown5 hgrow5 hat5 hlt5; have Hown5 := Lib.hid hown5; have Hgrow5 := Lib.hid hgrow5; have hne5 : some W.heap.size ≠ (Value.slice o k c).ownBlock := (fun e => by have h9 := (ownsRow_block (Hown3.out w3 (Kept.refl _ _)) e.symm).1; omega); have Hh5 : Hid (w5.heap[W.heap.size]? = some (.cells #[.slice o k c, .slice none 0 0] 78 (0, 0))) := Lib.hid ((hgrow5.block W.heap.size (by simp; have := hebk.1; omega) hne5).trans ((Below.heap_alloc _ _ _ (by have := hebk.1; omega)).trans Hh4.out)); have hc5 : w5.cell? ⟨W.heap.size, 0, none⟩ = some (.slice o k c) := (by simp [World.cell?, Hh5.out]); have hf5 : w5.frozen? ⟨W.heap.size, 0, none⟩ = false := (by simp [World.frozen?, Hh5.out]); clear hown5 hgrow5 hat5))
      all_goals
        have Hst6 := Lib.hid (lbl_step hrb Hg.out Hst.out Hyk.out Hk3.out Hk4.out Hr4.out Hh5.out Hown5.out Hgrow5.out)
        go_wp2_with fail
        go_roundw
        case rel => exact ⟨k + 1, _, _, by omega, by go_num, Hst6.out⟩
        case measure => simp [intOf]; omega
    · obtain rfl : k = n := by omega
      have hcell := Hst.out.cell
      have hown : OwnL wr (W.heap.size + 1) (.slice o k c) l := by
        have h9 := Hst.out.own
        rwa [List.take_of_length_le (by rw [Hn.out]; exact Nat.le_refl _)] at h9
      have hrd := Hst.out.rd
      rw [HLn.out, HT1.out] at hrd
      have hlT : (low 4 p.length ++ (p.flatMap plcPart ++ rest)).length ≤ 1000000000000 := by
        have h9 := HLb.out k
        rwa [HLn.out, HT1.out] at h9
      have HC := Lib.hid (rd_count p.length (p.flatMap plcPart ++ rest) hrd (by omega) hlT)
      obtain ⟨M, hM⟩ : ∃ M : Nat → List Nat, ∀ k, M k = (p.drop k).flatMap plcPart ++ rest := ⟨_, fun _ => rfl⟩
      have HMb : Hid (∀ k, (M k).length ≤ 1000000000000) := Lib.hid (fun k => by
        have h1 : (p.flatMap plcPart).length = p.length * 26 := flat_const_len plcPart_len p
        have h2 : ((p.drop k).flatMap plcPart).length = (p.drop k).length * 26 := flat_const_len plcPart_len _
        have h3 : (p.drop k).length ≤ p.length := by rw [List.length_drop]; omega
        rw [hM, List.length_append]
        simp only [List.length_append] at hlT
        omega)
      have HMs : Hid (∀ k c, p[k]? = some c → M k = low 8 (u64 c.fr) ++ (low 8 (u64 c.til) ++ (low 2 (u64 c.num) ++ (low 4 (u64 c.pos) ++ (low 4 (u64 c.siz) ++ M (k + 1)))))) := Lib.hid (fun k c hk => by
        rw [hM, hM, drop_flat hk]
        unfold plcPart
        simp only [List.append_assoc])
      have hM0 : p.flatMap plcPart ++ rest = M 0 := by rw [hM]; rfl
      have HMn : Hid (M p.length = rest) := Lib.hid (by rw [hM, List.drop_length]; rfl)
      rw [hM0] at HC
      have Hcell := Lib.hid hcell
      have Hown := Lib.hid hown
      have Hkept := Lib.hid Hst.out.kept
      have Hpt : Hid (∀ k, k < p.length → ∃ c, p[k]? = some c) := Lib.hid (fun k hk => ⟨_, List.getElem?_eq_getElem hk⟩)
      clear hrd hlT hM hM0 hcell hown Hst HLn HT1 HLb Hstep Hy
      generalize hm : p.length = m at *
      have Hm := Lib.hid hm
      clear hm
      have hwr := Hkept.out.size
      have heb : W.heap.size < wr.heap.size := (Array.getElem?_eq_some_iff.1 Hcell.out).1
      go_wp2_with (go_at_call 102; refine HC.out.mono ?_; clear HC; rintro e w2 ⟨rfl, hr2, hk2⟩; have Hr2 := Lib.hid hr2; have Hk2 := Lib.hid hk2; clear hr2 hk2)
      have hs2 := Hk2.out.size
      have Hst0 : Hid (PlcIng W w2 rb g W.heap.size k 0 l p sv (M 0) o c none 0) := Lib.hid ⟨(Hk2.out.block _ ⟨heb, by omega⟩).trans Hcell.out, ownsRow_kept Hown.out Hk2.out (fun b hb => ⟨(ownsRow_block Hown.out hb).2, by have := (ownsRow_block Hown.out hb).1; omega⟩), World.ownsRow_nil _ _ _ _, Hr2.out, Hkept.out.trans (Hk2.out.mono fun b hb => ⟨by have := hb.1; omega, hb.2⟩)⟩
      clear Hr2 Hk2 Hown Hcell Hkept
      go_loopw [23] (fun iv w3 => ∃ (j : Nat) (o2 : Option Addr) (c2 : Nat), j ≤ m ∧ iv = .int .i64 j ∧ PlcIng W w3 rb g W.heap.size k j l p sv (M j) o c o2 c2) (fun iv _ => m - (intOf iv).toNat)
      case atStart => exact ⟨0, none, 0, Nat.zero_le _, rfl, Hst0.out⟩
      case round =>
        obtain ⟨j, o2, c2, hj, rfl, hst⟩ := hrel
        have Hst := Lib.hid hst
        clear hst
        by_cases hltj : j < m
        · obtain ⟨ch, hch⟩ := Hpt.out j hltj
          obtain ⟨hw1, hw2, hw3, hn3, hn4, he4, hn5, he5⟩ := plc_facts (Hp.out ch (List.mem_of_getElem? hch))
          have hMj := HMs.out j ch hch
          have Hrd := Lib.hid (hMj ▸ Hst.out.rd)
          have Hlen1 := Lib.hid (hMj ▸ HMb.out j)
          clear hMj
          have hn1 := u64_lt ch.fr
          have hn2 := u64_lt ch.til
          generalize Go.Ix.u64 ch.fr = a1 at *
          generalize Go.Ix.u64 ch.til = a2 at *
          generalize Go.Ix.u64 ch.num = a3 at *
          generalize Go.Ix.u64 ch.pos = a4 at *
          generalize Go.Ix.u64 ch.siz = a5 at *
          obtain ⟨zf, hzf⟩ : ∃ z : Int, z = ch.fr := ⟨_, rfl⟩
          obtain ⟨zt, hzt⟩ : ∃ z : Int, z = ch.til := ⟨_, rfl⟩
          obtain ⟨zn, hzn⟩ : ∃ z : Int, z = ch.num := ⟨_, rfl⟩
          obtain ⟨zp, hzp⟩ : ∃ z : Int, z = ch.pos := ⟨_, rfl⟩
          obtain ⟨zs, hzs⟩ : ∃ z : Int, z = ch.siz := ⟨_, rfl⟩
          rw [← hzf] at hw1
          rw [← hzt] at hw2
          rw [← hzn] at hw3
          rw [← hzp] at he4
          rw [← hzs] at he5
          have Hc := Lib.hid (And.intro hch (And.intro hzf (And.intro hzt (And.intro hzn (And.intro hzp hzs)))))
          have Hlens : Hid ((low 8 a2 ++ (low 2 a3 ++ (low 4 a4 ++ (low 4 a5 ++ M (j + 1))))).length ≤ 1000000000000 ∧ (low 2 a3 ++ (low 4 a4 ++ (low 4 a5 ++ M (j + 1)))).length ≤ 1000000000000 ∧ (low 4 a4 ++ (low 4 a5 ++ M (j + 1))).length ≤ 1000000000000 ∧ (low 4 a5 ++ M (j + 1)).length ≤ 1000000000000) := Lib.hid (by
            have h9 := Hlen1.out
            simp only [List.length_append] at h9 ⊢
            omega)
          have HA := Lib.hid (rd_number 8 a1 _ Hrd.out (by decide) hn1 Hlen1.out)
          clear hch hzf hzt hzn hzp hzs
          have hs3 := Hst.out.kept.size
          have heb3 : W.heap.size < wr.heap.size := (Array.getElem?_eq_some_iff.1 Hst.out.cell).1
          go_upto_region 10 with (first
            | (go_at_call 74; refine HA.out.mono ?_; clear HA; rintro e w4 ⟨rfl, hr4, hk4⟩; have Hr4 := Lib.hid hr4; have Hk4 := Lib.hid hk4; have HB := Lib.hid (rd_number 8 a2 _ hr4 (by decide) hn2 Hlens.out.1); clear hr4 hk4)
            | (go_at_call 74; refine HB.out.mono ?_; clear HB; rintro e w5 ⟨rfl, hr5, hk5⟩; have Hr5 := Lib.hid hr5; have Hk5 := Lib.hid hk5; have hs4 := Hk4.out.size; have hs5 := hk5.size; have HC := Lib.hid (rd_number 2 a3 _ (hr5.olds (by have := Hg.out; omega) (Olds.alloc w5 (.cells #[.int .i64 zf, .int .i64 zt, .int .i64 0, .int .i64 0, .int .i64 0] 107))) (by decide) hn3 Hlens.out.2.1); clear hr5 hk5)
            | (go_at_call 74; (try rw [hw1]); (try rw [hw2]); refine HC.out.mono ?_; clear HC; rintro e w6 ⟨rfl, hr6, hk6⟩; have Hr6 := Lib.hid hr6; have Hk6 := Lib.hid hk6; have HD := Lib.hid (rd_count a4 _ hr6 hn4 Hlens.out.2.2.1); clear hr6 hk6)
            | (go_at_call 102; refine HD.out.mono ?_; clear HD; rintro e w7 ⟨rfl, hr7, hk7⟩; have Hr7 := Lib.hid hr7; have Hk7 := Lib.hid hk7; have HE := Lib.hid (rd_count a5 _ hr7 hn5 Hlens.out.2.2.2); clear hr7 hk7)
            | (go_at_call 102; refine HE.out.mono ?_; clear HE; rintro e w8 ⟨rfl, hr8, hk8⟩; have Hr8 := Lib.hid hr8; have Hk8 := Lib.hid hk8; have hs6 := Hk6.out.size; have hs7 := Hk7.out.size; have hs8 := hk8.size; rw [World.size_alloc] at hs6; have Hcb : Hid (w8.heap[w5.heap.size]? = some (.cells #[.int .i64 zf, .int .i64 zt, .int .i64 0, .int .i64 0, .int .i64 0] 107 (0, 0))) := Lib.hid ((hk8.block _ ⟨by omega, by omega⟩).trans ((Hk7.out.block _ ⟨by omega, by omega⟩).trans ((Hk6.out.block _ ⟨by simp, by omega⟩).trans (heap_alloc_new w5 _)))); have hq2 : w8.cell? ⟨w5.heap.size, 2, none⟩ = some (.int .i64 0) := (by simp [World.cell?, Hcb.out]); have hq3 : w8.cell? ⟨w5.heap.size, 3, none⟩ = some (.int .i64 0) := (by simp [World.cell?, Hcb.out]); have hq4 : w8.cell? ⟨w5.heap.size, 4, none⟩ = some (.int .i64 0) := (by simp [World.cell?, Hcb.out]); have hz2 : w8.frozen? ⟨w5.heap.size, 2, none⟩ = false := (by simp [World.frozen?, Hcb.out]); have hz3 : w8.frozen? ⟨w5.heap.size, 3, none⟩ = false := (by simp [World.frozen?, Hcb.out]); have hz4 : w8.frozen? ⟨w5.heap.size, 4, none⟩ = false := (by simp [World.frozen?, Hcb.out]); clear hr8 hk8))
          have ha3 : (a3 : Int) = zn := by
            rw [← hw3]
            unfold wrap64
            omega
          rw [ha3]
          obtain ⟨w9, hw9⟩ : ∃ w9, w9 = (((w8.setCell ⟨w5.heap.size, 2, none⟩ (.int .i64 zn)).setCell ⟨w5.heap.size, 3, none⟩ (.int .i64 zp)).setCell ⟨w5.heap.size, 4, none⟩ (.int .i64 zs)) := ⟨_, rfl⟩
          rw [← hw9]
          have Hcb9 : Hid (w9.heap[w5.heap.size]? = some (.cells #[.int .i64 zf, .int .i64 zt, .int .i64 zn, .int .i64 zp, .int .i64 zs] 107 (0, 0))) := Lib.hid (by
            rw [hw9]
            simp [World.setCell, Array.getElem?_modify, Hcb.out])
          have Hk9 : Hid (Kept (But rb wr) wr w9) := Lib.hid (by
            rw [hw9]
            have h45 : Kept (But rb wr) wr w5 := Hk4.out.trans (Hk5.out.mono fun b hb => ⟨by have := hb.1; omega, hb.2⟩)
            have h56 := h45.alloc (fun b hb => hb.1) (.cells #[.int .i64 zf, .int .i64 zt, .int .i64 0, .int .i64 0, .int .i64 0] 107)
            have h58 : Kept (But rb wr) wr w8 := ((h56.trans (Hk6.out.mono fun b hb => ⟨by have := hb.1; simp; omega, hb.2⟩)).trans (Hk7.out.mono fun b hb => ⟨by have := hb.1; omega, hb.2⟩)).trans (Hk8.out.mono fun b hb => ⟨by have := hb.1; omega, hb.2⟩)
            have hno : ¬ But rb wr w5.heap.size := fun h => by have := h.1; omega
            exact ((h58.setCell hno _).setCell hno _).setCell hno _)
          have Hr9 : Hid (RdAt w9 rb g (M (j + 1)) sv) := Lib.hid (by
            rw [hw9]
            have hx : ∀ (X : World) (i : Nat) (v : Value), RdAt X rb g (M (j + 1)) sv → RdAt (X.setCell ⟨w5.heap.size, i, none⟩ v) rb g (M (j + 1)) sv := fun X i v h => h.keep (Below.heap_setCell _ _ _ _ (by show rb ≠ w5.heap.size; omega)) (Below.heap_setCell _ _ _ _ (by show g ≠ w5.heap.size; have := Hg.out; omega))
            exact hx _ _ _ (hx _ _ _ (hx _ _ _ Hr8.out)))
          have hs9 : w8.heap.size ≤ w9.heap.size := by rw [hw9]; simp [World.setCell]
          clear hw9 hq2 hq3 hq4 hz2 hz3 hz4
          have Hh9 : Hid (w9.heap[W.heap.size]? = some (.cells #[.slice o k c, .slice o2 j c2] 78 (0, 0))) := Lib.hid ((Hk9.out.block _ ⟨heb3, by omega⟩).trans Hst.out.cell)
          have hl1 : w9.cell? ⟨W.heap.size, 1, none⟩ = some (.slice o2 j c2) := by simp [World.cell?, Hh9.out]
          have hd0 : w9.cell? ⟨w5.heap.size, 0, none⟩ = some (.int .i64 zf) := by simp [World.cell?, Hcb9.out]
          have hd1 : w9.cell? ⟨w5.heap.size, 1, none⟩ = some (.int .i64 zt) := by simp [World.cell?, Hcb9.out]
          have hd2 : w9.cell? ⟨w5.heap.size, 2, none⟩ = some (.int .i64 zn) := by simp [World.cell?, Hcb9.out]
          have hd3 : w9.cell? ⟨w5.heap.size, 3, none⟩ = some (.int .i64 zp) := by simp [World.cell?, Hcb9.out]
          have hd4 : w9.cell? ⟨w5.heap.size, 4, none⟩ = some (.int .i64 zs) := by simp [World.cell?, Hcb9.out]
          have hpt : (p.take j).length = j := by rw [List.length_take, Hm.out]; omega
          have Hown9 : Hid (w9.ownsRow (W.heap.size + 1) 107 5 (.slice o2 j c2) j ((p.take j).flatMap plcCells)) := Lib.hid (by
            have h9 := Hst.out.ownP
            have h10 := ownsRow_kept h9 Hk9.out fun b hb => ⟨(ownsRow_block h9 hb).2, by have := (ownsRow_block h9 hb).1; omega⟩
            rwa [hpt] at h10)
          clear hpt
          go_wp2_with (at_builtin; go_loud (refine wpList_append_lies _ rfl _ _ _ rfl (W.heap.size + 1) 107 i1 _ 5 40 Tryz.underlying76 hi1 hy0 hy1 hy2 rfl (by decide) (.slice o2 j c2) j ((p.take j).flatMap plcCells) rfl (ownsRow_olds Hown9.out (Olds.alloc _ _)) ⟨w9.heap.size, 0, none⟩ 1 1 [.int .i64 zf, .int .i64 zt, .int .i64 zn, .int .i64 zp, .int .i64 zs] rfl rfl (World.news_of_block (cs := #[.int .i64 zf, .int .i64 zt, .int .i64 zn, .int .i64 zp, .int .i64 zs]) (t := 107) (fr := (0, 0)) (heap_alloc_new w9 _)) (by simp [Value.oneCell']) Nat.one_pos (by unfold maxLen; omega) (by omega) (by simp; omega) (w9.heap.size + 1) (by simp) ?_; intro gg cap2 w10 hown10 hgrow10 hat10 hlt10; have Hown10 := Lib.hid hown10; have Hgrow10 := Lib.hid hgrow10; have hne10 : some W.heap.size ≠ (Value.slice o2 j c2).ownBlock := (fun e => by have h9 := (ownsRow_block Hown9.out e.symm).1; omega); have Hh10 : Hid (w10.heap[W.heap.size]? = some (.cells #[.slice o k c, .slice o2 j c2] 78 (0, 0))) := Lib.hid ((hgrow10.block W.heap.size (by simp; omega) hne10).trans ((Below.heap_alloc _ _ _ (by omega)).trans Hh9.out)); have hc10 : w10.cell? ⟨W.heap.size, 1, none⟩ = some (.slice o2 j c2) := (by simp [World.cell?, Hh10.out]); have hf10 : w10.frozen? ⟨W.heap.size, 1, none⟩ = false := (by simp [World.frozen?, Hh10.out]); clear hown10 hgrow10 hat10))
          have Hst10 := Lib.hid (plc_step hrb Hg.out Hst.out Hc.out.1 Hk9.out Hr9.out Hh10.out (by
            obtain ⟨_, q1, q2, q3, q4, q5⟩ := Hc.out
            unfold plcCells
            rw [← q1, ← q2, ← q3, ← q4, ← q5]
            exact Hown10.out) Hgrow10.out)
          go_roundw
          case rel => exact ⟨j + 1, _, _, by omega, by go_num, Hst10.out⟩
          case measure => simp [intOf]; omega
        · obtain rfl : j = m := by omega
          have hcell := Hst.out.cell
          have hx0 : wr.cell? ⟨W.heap.size, 0, none⟩ = some (.slice o k c) := by simp [World.cell?, hcell]
          have hx1 : wr.cell? ⟨W.heap.size, 1, none⟩ = some (.slice o2 j c2) := by simp [World.cell?, hcell]
          have hz0' : wr.frozen? ⟨W.heap.size, 0, none⟩ = false := by simp [World.frozen?, hcell]
          have hz1' : wr.frozen? ⟨W.heap.size, 1, none⟩ = false := by simp [World.frozen?, hcell]
          clear hcell
          have Hend : Hid (∀ X : World, X = ((wr.setCell ⟨W.heap.size, 0, none⟩ (.slice o k c)).setCell ⟨W.heap.size, 1, none⟩ (.slice o2 j c2)) → X.heap[W.heap.size]? = some (.cells #[.slice o k c, .slice o2 j c2] 78 (0, 0)) ∧ OwnL X W.heap.size (.slice o k c) l ∧ OwnP X W.heap.size (.slice o2 j c2) p ∧ RdAt X rb g rest sv ∧ Kept (But rb W) W X) := Lib.hid (fun X hX => by
            subst hX
            have hS := Hst.out
            have hno : ¬ But rb W W.heap.size := fun h => by have := h.1; omega
            have hold : ∀ b, b ≠ W.heap.size → ((wr.setCell ⟨W.heap.size, 0, none⟩ (.slice o k c)).setCell ⟨W.heap.size, 1, none⟩ (.slice o2 j c2)).heap[b]? = wr.heap[b]? := fun b hb => (Below.heap_setCell _ _ _ _ hb).trans (Below.heap_setCell _ _ _ _ hb)
            refine ⟨by simp [World.setCell, Array.getElem?_modify, hS.cell], ?_, ?_, ?_, (hS.kept.setCell hno _).setCell hno _⟩
            · exact ownsRow_mono (ownsRow_blocks hS.ownL fun b hb => hold b (by have := (ownsRow_block hS.ownL hb).1; omega)) (by omega)
            · have h9 := hS.ownP
              rw [List.take_of_length_le (by rw [Hm.out]; exact Nat.le_refl _)] at h9
              exact ownsRow_mono (ownsRow_blocks h9 fun b hb => hold b (by have := (ownsRow_block h9 hb).1; omega)) (by omega)
            · have h9 := hS.rd
              rw [HMn.out] at h9
              exact h9.keep (hold rb (by omega)) (hold g (by have := Hg.out; omega)))
          go_wp2_with fail
          obtain ⟨q1, q2, q3, q4, q5⟩ := Hend.out _ rfl
          refine bodyPost_ret (results_cell_row (p := 2) (ty := 78) (by kernel_rfl) _ _ W.heap.size 78 #[.slice o k c, .slice o2 j c2] (0, 0) _ rfl q1 Tryz.underlying78 rfl (by kernel_rfl)) rfl ⟨_, _, rfl, q2, q3, q4, q5⟩
end Go.Proofs.YtaoggppfimfhbaaGreatDoor
namespace Go.Proofs.YtaoggppfimfhbaaGreatDoor
open Go Go.RowKit Go.Ix

theorem idle101 (p q : Addr) (w : World) :
    CallsD Tryz.prog 101 #[.pointer (some p), .pointer (some q)] .returning w fun e u' w' => e = .returned (.tuple #[]) ∧ u' = .returning ∧ w' = w := by
  refine callsD_of_wpS Tryz.func101 rfl fun c₀ cs hu => ?_
  apply wpS_seq
  apply wpS_region
  simp [wpOpsS, go_sem, recoverD, hu, Tryz.ntmps101, Exit.thenS]
  apply wpS_seq
  apply wpS_region
  simp [wpOpsS, go_sem, Exit.thenS]
  refine wpS_cond (t := false) (by simp [Act.eval, Array.replicate]) ?_
  simp only [Bool.false_eq_true, if_false]
  refine wpS_of_wp (wp_skip ?_)
  cases c₀
  simp_all [bodyPostS, results, Tryz.results101]
end Go.Proofs.YtaoggppfimfhbaaGreatDoor
namespace Go.Proofs.YtaoggppfimfhbaaGreatDoor
open Go Go.RowKit Go.Ix

theorem RdAt.lt {W : World} {rb g : Nat} {rest : List Nat} {sv : Value} (h : RdAt W rb g rest sv) : rb < W.heap.size := by
  obtain ⟨off, cap, q1, _⟩ := h
  exact (Array.getElem?_eq_some_iff.1 q1).1
theorem RdAt.cell1 {W : World} {rb g : Nat} {rest : List Nat} {sv : Value} (h : RdAt W rb g rest sv) : W.cell? ⟨rb, 1, none⟩ = some sv ∧ W.frozen? ⟨rb, 1, none⟩ = false := by
  obtain ⟨off, cap, q1, _⟩ := h
  exact ⟨by simp [World.cell?, q1], by simp [World.frozen?, q1]⟩
theorem RdAt.set1 {W : World} {rb g : Nat} {rest : List Nat} {sv : Value} (h : RdAt W rb g rest sv) (u : Value) : RdAt (W.setCell ⟨rb, 1, none⟩ u) rb g rest u := by
  obtain ⟨off, cap, q1, q2, q3, q4, q5⟩ := h
  refine ⟨off, cap, by simp [World.setCell, Array.getElem?_modify, q1], q2, q3, fun j x hx => ?_, q5⟩
  rw [← q4 j x hx]
  exact World.cell?_of_block (Below.heap_setCell _ _ _ _ q5)


def EntsO (W : World) (B : Nat) (us : List (Value × Value)) (l : List Ent) : Prop :=
  ∀ (i : Nat) (u : Value × Value) (e : Ent), us[i]? = some u → l[i]? = some e → OwnL W B u.1 e.1 ∧ OwnP W B u.2 e.2
def OwnsE (W : World) (B : Nat) (v : Value) (l : List Ent) : Prop :=
  ∃ us : List (Value × Value), us.length = l.length ∧ W.ownsRow B 78 2 v l.length (us.flatMap entCells) ∧ EntsO W B us l

theorem EntsO.keep {W W' : World} {B : Nat} {us : List (Value × Value)} {l : List Ent} (h : EntsO W B us l) (hk : ∀ b, B ≤ b → b < W.heap.size → (∃ cur, W.heap[b]? = some (.cells cur 84 (0, 0)) ∨ W.heap[b]? = some (.cells cur 107 (0, 0))) → W'.heap[b]? = W.heap[b]?) : EntsO W' B us l := fun i u e hu he => by
  obtain ⟨h1, h2⟩ := h i u e hu he
  refine ⟨ownsRow_blocks h1 fun b hb => ?_, ownsRow_blocks h2 fun b hb => ?_⟩
  · obtain ⟨c1, q1⟩ := own_kind h1 hb
    exact hk b (ownsRow_block h1 hb).1 (ownsRow_block h1 hb).2 ⟨c1, .inl q1⟩
  · obtain ⟨c1, q1⟩ := own_kind h2 hb
    exact hk b (ownsRow_block h2 hb).1 (ownsRow_block h2 hb).2 ⟨c1, .inr q1⟩
theorem OwnsE.rows {W : World} {B : Nat} {v : Value} {l : List Ent} (h : OwnsE W B v l) : ∃ o c, v = .slice o l.length c ∧ (o = none → l = []) ∧ RowsE W o l := by
  obtain ⟨us, h1, h2, h3⟩ := h
  obtain ⟨o, c, rfl, h0⟩ := ownsRow_shape h2
  refine ⟨o, c, rfl, fun e => List.eq_nil_of_length_eq_zero (h0 e).1, fun hne => ?_⟩
  rcases h2.2 with ⟨e, hx⟩ | ⟨g, cap, cur, e, _⟩
  · exact absurd (List.eq_nil_of_length_eq_zero hx) hne
  · simp only [Value.slice.injEq] at e
    obtain ⟨rfl, _, rfl⟩ := e
    have hc := ownsRow_cell h2
    refine ⟨g, 0, rfl, fun k e he => ?_⟩
    have hk : k < us.length := by rw [h1]; exact (List.getElem?_eq_some_iff.1 he).1
    have hu : us[k]? = some us[k] := List.getElem?_eq_getElem hk
    obtain ⟨hL, hP⟩ := h3 k _ e hu he
    obtain ⟨o1, c1, e1, z1⟩ := ownsRow_shape hL
    obtain ⟨o2, c2, e2, z2⟩ := ownsRow_shape hP
    have q0 := hc.elem (k := 2) (i := 0) (fun _ => rfl) hu rfl
    have q1 := hc.elem (k := 2) (i := 1) (fun _ => rfl) hu rfl
    rw [Nat.zero_add] at q0 q1
    refine ⟨o1, _, c1, o2, _, c2, ?_, ?_, rfl, rfl, ?_, ?_, fun e => (z1 e).2, fun e => (z2 e).2⟩
    · rw [← e1, Nat.zero_add]; exact q0
    · rw [← e2, Nat.zero_add]; exact q1
    · intro hne1
      rcases hL.2 with ⟨e3, hx⟩ | ⟨g1, cap1, cur1, e3, _⟩
      · exact absurd (List.eq_nil_of_length_eq_zero hx) hne1
      · rw [e1] at e3
        simp only [Value.slice.injEq] at e3
        obtain ⟨rfl, _, rfl⟩ := e3
        rw [e1] at hL
        exact ⟨g1, 0, rfl, ownsRow_cell hL⟩
    · intro hne1
      rcases hP.2 with ⟨e3, hx⟩ | ⟨g1, cap1, cur1, e3, _⟩
      · exact absurd (List.eq_nil_of_length_eq_zero hx) hne1
      · rw [e2] at e3
        simp only [Value.slice.injEq] at e3
        obtain ⟨rfl, _, rfl⟩ := e3
        rw [e2] at hP
        exact ⟨g1, 0, rfl, ownsRow_cell hP⟩
end Go.Proofs.YtaoggppfimfhbaaGreatDoor
namespace Go.Proofs.YtaoggppfimfhbaaGreatDoor
open Go Go.RowKit Go.Ix


def Calm (R : Exit → Act → World → Prop) : Exit → Act → World → Prop
  | .normal, a, w => R .normal a w
  | _, _, _ => False
theorem wp_calm {P : Program} {c : Code} {R : Exit → Act → World → Prop} {a : Act} {w : World} (h : c.wp P (Calm R) a w) : c.wp P R a w :=
  Code.wp_mono (fun e a w h => by cases e <;> first | exact h | exact absurd h id) h


def entBytes (ss : List Txt) (l : List Ent) (post : List Nat) : List Nat := magic ++ (low 4 ss.length ++ (symPart ss ++ (low 4 l.length ++ (l.flatMap (entPart ss) ++ post))))

def magicT : Txt := [66, 71, 73, 88]


structure SymIng (W wr : World) (rb g k : Nat) (ss : List Txt) (T : List Nat) (o : Option Addr) (c : Nat) : Prop where
  h2 : wr.heap[W.heap.size]? = some (.cells #[.slice none 0 0] 22 (0, 0))
  h3 : wr.heap[W.heap.size + 1]? = some (.cells #[.bool false] 4 (0, 0))
  rd : RdAt wr rb g T (.slice o k c)
  row : RowT wr (rb + 1) (.slice o k c) (ss.take k)
  bel : Below W.heap.size W wr

theorem enters74 : ∀ (args : Array Value) (w : World), (callFunc 74 args).run Tryz.prog w = .ok (.enter 74 args) w := enters_of Tryz.func74 (by kernel_rfl) rfl
theorem enters100 : ∀ (args : Array Value) (w : World), (callFunc 100 args).run Tryz.prog w = .ok (.enter 100 args) w := enters_of Tryz.func100 (by kernel_rfl) rfl
theorem enters103 : ∀ (args : Array Value) (w : World), (callFunc 103 args).run Tryz.prog w = .ok (.enter 103 args) w := enters_of Tryz.func103 (by kernel_rfl) rfl

theorem sym_step {W wr w5 w6 : World} {rb g k c gg cap2 : Nat} {ss : List Txt} {T T' : List Nat} {o : Option Addr} {s : Txt} {O : Obj} (hrb : W.heap.size + 1 < rb) (hg : g < W.heap.size) (hst : SymIng W wr rb g k ss T o c) (hs : ss[k]? = some s)
    (hk5 : Kept (But rb wr) wr w5) (hr5 : RdAt w5 rb g T' (.slice o k c))
    (hown6 : w6.ownsRow (rb + 1) 9 1 (.slice (some ⟨gg, 0, none⟩) (k + 1) cap2) (k + 1) ((ss.take k).map encStr ++ [encStr s])) (hgrow6 : (w5.alloc O).grownBy w6 (Value.slice o k c).ownBlock) :
    SymIng W (w6.setCell ⟨rb, 1, none⟩ (.slice (some ⟨gg, 0, none⟩) (k + 1) cap2)) rb g (k + 1) ss T' (some ⟨gg, 0, none⟩) cap2 := by
  have hgg := (ownsRow_block hown6 (g := gg) rfl).1
  have hrbl := hr5.lt
  have hs5 := hk5.size
  have hs1 := hst.bel.size
  have hs6 := hgrow6.size
  have hrb2 : rb < wr.heap.size := hst.rd.lt
  rw [World.size_alloc] at hs6
  have hrow : ∀ b, (Value.slice o k c).ownBlock = some b → rb + 1 ≤ b := fun b hb => (ownsRow_block hst.row hb).1
  have h56 : ∀ b, b ≤ rb → w6.heap[b]? = w5.heap[b]? := fun b hb => (hgrow6.block b (by rw [World.size_alloc]; omega) (fun e => by have := hrow b e.symm; omega)).trans (Below.heap_alloc _ _ b (by omega))
  have hold : ∀ b, b < rb → (w6.setCell ⟨rb, 1, none⟩ (.slice (some ⟨gg, 0, none⟩) (k + 1) cap2)).heap[b]? = wr.heap[b]? := fun b hb => (Below.heap_setCell _ _ _ _ (by show b ≠ rb; omega)).trans ((h56 b (by omega)).trans (hk5.block b ⟨by omega, by omega⟩))
  refine ⟨(hold _ (by omega)).trans hst.h2, (hold _ (by omega)).trans hst.h3, (hr5.keep (h56 rb (Nat.le_refl _)) (h56 g (by omega))).set1 _, ?_, ?_⟩
  · have e1 : (ss.take (k + 1)).length = k + 1 := by
      have := (List.getElem?_eq_some_iff.1 hs).1
      rw [List.length_take]
      omega
    unfold RowT
    rw [e1, List.take_add_one, hs, List.map_append]
    exact ownsRow_blocks hown6 fun b hb => by
      cases hb
      exact Below.heap_setCell _ _ _ _ (by show gg ≠ rb; omega)
  · have h1 : Below W.heap.size W w5 := hst.bel.trans (hk5.below fun b hb => ⟨by omega, by omega⟩)
    exact ((h1.alloc (by have := h1.size; omega) _).grown hgrow6 (by rw [World.size_alloc]; have := h1.size; omega) (fun b hb => by have := hrow b hb; omega)).setCell (by show W.heap.size ≤ rb; omega) _


structure EntIng (W wr : World) (rb g k : Nat) (ss : List Txt) (l : List Ent) (us : List (Value × Value)) (T : List Nat) (sv : Value) (o : Option Addr) (c : Nat) : Prop where
  h2 : wr.heap[W.heap.size]? = some (.cells #[.slice o k c] 22 (0, 0))
  h3 : wr.heap[W.heap.size + 1]? = some (.cells #[.bool false] 4 (0, 0))
  rd : RdAt wr rb g T sv
  sym : RowT wr (rb + 1) sv ss
  row : wr.ownsRow (rb + 1) 78 2 (.slice o k c) k (us.flatMap entCells)
  len : us.length = k
  ents : EntsO wr (rb + 1) us l
  bel : Below W.heap.size W wr

theorem ent_step {W wr w4 w5 : World} {rb g k c gg cap2 : Nat} {ss : List Txt} {l : List Ent} {us : List (Value × Value)} {T T' : List Nat} {sv : Value} {o : Option Addr} {e1 : List Lbl} {e2 : List Plc} {u1 u2 : Value} {O : Obj} (hrb : W.heap.size + 1 < rb) (hg : g < W.heap.size) (hst : EntIng W wr rb g k ss l us T sv o c) (he : l[k]? = some (e1, e2))
    (hk4 : Kept (But rb wr) wr w4) (hr4 : RdAt w4 rb g T' sv) (hL : OwnL w4 wr.heap.size u1 e1) (hP : OwnP w4 wr.heap.size u2 e2)
    (hown5 : w5.ownsRow (rb + 1) 78 2 (.slice (some ⟨gg, 0, none⟩) (k + 1) cap2) (k + 1) (us.flatMap entCells ++ [u1, u2])) (hgrow5 : (w4.alloc O).grownBy w5 (Value.slice o k c).ownBlock) :
    EntIng W (w5.setCell ⟨W.heap.size, 0, none⟩ (.slice (some ⟨gg, 0, none⟩) (k + 1) cap2)) rb g (k + 1) ss l (us ++ [(u1, u2)]) T' sv (some ⟨gg, 0, none⟩) cap2 := by
  have hgg := (ownsRow_block hown5 (g := gg) rfl).1
  have hs4 := hk4.size
  have hs1 := hst.bel.size
  have hs5 := hgrow5.size
  have hrb2 : rb < wr.heap.size := hst.rd.lt
  rw [World.size_alloc] at hs5
  have hrow : ∀ b, (Value.slice o k c).ownBlock = some b → rb + 1 ≤ b := fun b hb => (ownsRow_block hst.row hb).1
  have h5 : ∀ b, b < w4.heap.size → (Value.slice o k c).ownBlock ≠ some b → w5.heap[b]? = w4.heap[b]? := fun b hb hr => (hgrow5.block b (by rw [World.size_alloc]; omega) (fun e => hr e.symm)).trans (Below.heap_alloc _ _ b hb)
  have h6 : ∀ b, b < w4.heap.size → (Value.slice o k c).ownBlock ≠ some b → b ≠ W.heap.size → (w5.setCell ⟨W.heap.size, 0, none⟩ (.slice (some ⟨gg, 0, none⟩) (k + 1) cap2)).heap[b]? = w4.heap[b]? := fun b hb hr hne => (Below.heap_setCell _ _ _ _ hne).trans (h5 b hb hr)
  have hlow : ∀ b, b ≤ rb → (Value.slice o k c).ownBlock ≠ some b := fun b hb e => by have := hrow b e; omega
  have h46 : ∀ {t n m : Nat} {v : Value} {xs : List Value}, w4.ownsRow (rb + 1) t m v n xs → t ≠ 78 → (w5.setCell ⟨W.heap.size, 0, none⟩ (.slice (some ⟨gg, 0, none⟩) (k + 1) cap2)).ownsRow (rb + 1) t m v n xs := fun {t n m v xs} hr ht => ownsRow_blocks hr fun b hb => by
    have hb1 := ownsRow_block hr hb
    refine h6 b hb1.2 (fun e => ?_) (by omega)
    obtain ⟨c1, q1⟩ := own_kind hr hb
    obtain ⟨c2, q2⟩ := own_kind hst.row e
    have hbw := (ownsRow_block hst.row e).2
    rw [← hk4.block b ⟨hbw, by omega⟩, q1] at q2
    simp only [Option.some.injEq, Obj.cells.injEq] at q2
    exact ht q2.2.1
  have hwr4 : ∀ {t n m : Nat} {v : Value} {xs : List Value}, wr.ownsRow (rb + 1) t m v n xs → w4.ownsRow (rb + 1) t m v n xs := fun hr => ownsRow_kept hr hk4 fun b hb => ⟨(ownsRow_block hr hb).2, by have := (ownsRow_block hr hb).1; omega⟩
  refine ⟨?_, ?_, hr4.keep (h6 rb (by omega) (hlow rb (Nat.le_refl _)) (by omega)) (h6 g (by omega) (hlow g (by omega)) (by omega)), h46 (hwr4 hst.sym) (by decide), ?_, by rw [List.length_append, hst.len]; rfl, ?_, ?_⟩
  · have h9 := (h5 W.heap.size (by omega) (hlow _ (by omega))).trans ((hk4.block W.heap.size ⟨by omega, by omega⟩).trans hst.h2)
    simp [World.setCell, Array.getElem?_modify, h9]
  · exact (h6 _ (by omega) (hlow _ (by omega)) (by omega)).trans ((hk4.block _ ⟨by omega, by omega⟩).trans hst.h3)
  · rw [List.flatMap_append]
    exact ownsRow_blocks hown5 fun b hb => by
      cases hb
      exact Below.heap_setCell _ _ _ _ (by show gg ≠ W.heap.size; omega)
  · intro i u e hu he'
    by_cases hi : i < us.length
    · rw [List.getElem?_append_left hi] at hu
      obtain ⟨q1, q2⟩ := hst.ents i u e hu he'
      exact ⟨h46 (hwr4 q1) (by decide), h46 (hwr4 q2) (by decide)⟩
    · have hik : i = us.length := by
        have := (List.getElem?_eq_some_iff.1 hu).1
        simp at this
        omega
      subst hik
      rw [List.getElem?_append_right (Nat.le_refl _), Nat.sub_self] at hu
      cases hu
      rw [hst.len, he] at he'
      cases he'
      exact ⟨h46 (ownsRow_mono hL (by omega)) (by decide), h46 (ownsRow_mono hP (by omega)) (by decide)⟩
  · have h1 : Below W.heap.size W w4 := hst.bel.trans (hk4.below fun b hb => ⟨by omega, by omega⟩)
    exact ((h1.alloc (by have := h1.size; omega) _).grown hgrow5 (by rw [World.size_alloc]; have := h1.size; omega) (fun b hb => by have := hrow b hb; omega)).setCell (Nat.le_refl _) _

set_option maxRecDepth 20000 in
set_option maxHeartbeats 4000000 in
theorem rd_entries {W : World} {g off n cap : Nat} (l : List Ent) (ss : List Txt) (post : List Nat) (hs1 : ∀ s ∈ ss, s.length ≤ 1024) (hsl : ss.length ≤ 1000000) (hll : l.length ≤ 60) (hle : ∀ e ∈ l, e.1.length ≤ 64 ∧ e.2.length ≤ 4000) (hlp : ∀ e ∈ l, ∀ c ∈ e.2, PlcOk c)
    (hly : ∀ e ∈ l, ∀ y ∈ e.1, ss[idx ss y.1]? = some y.1 ∧ ss[idx ss y.2]? = some y.2) (hn : (entBytes ss l post).length = n) (hnb : n ≤ 1000000000000) (hcap : n ≤ cap) (hmax : cap ≤ maxLen) (hc : CellsAt W g off (octs (entBytes ss l post))) (hg : g < W.heap.size) :
    Calls Tryz.prog 75 #[.slice (some ⟨g, off, none⟩) n cap] W fun e w' => ∃ u, e = .returned (.tuple #[u, .bool true]) ∧ OwnsE w' W.heap.size u l ∧ Below W.heap.size W w' := by
  obtain ⟨i0, hi0, hz0, hz1, hz2⟩ := info_parts Tryz.info9
  obtain ⟨i1, hi1, hy0, hy1, hy2⟩ := info_parts Tryz.info78
  obtain ⟨T2, hT2⟩ : ∃ T2 : List Nat, T2 = low 4 l.length ++ (l.flatMap (entPart ss) ++ post) := ⟨_, rfl⟩
  have hmf : ∀ (fn : Fn) (first cap : Array Value) (w : World), (Instr.makeFunc fn first cap).run Tryz.prog w = .ok (.func fn first cap) w := fun _ _ _ _ => rfl
  have Hs1 := Lib.hid hs1
  have Hle := Lib.hid hle
  have Hlp := Lib.hid hlp
  have Hly := Lib.hid hly
  obtain ⟨S, hS⟩ : ∃ S : Nat → List Nat, ∀ k, S k = (ss.drop k).flatMap (fun s => low 2 s.length ++ nums s) ++ T2 := ⟨_, fun _ => rfl⟩
  have hS0 : symPart ss ++ T2 = S 0 := by rw [hS]; rfl
  have HSn : Hid (S ss.length = T2) := Lib.hid (by rw [hS, List.drop_length]; rfl)
  have HSs : Hid (∀ k s, ss[k]? = some s → S k = low 2 s.length ++ (nums s ++ S (k + 1))) := Lib.hid (fun k s hk => by
    rw [hS, hS, drop_flat hk]
    simp only [List.append_assoc])
  have HSb : Hid (∀ k, (S k).length ≤ 1000000000000) := Lib.hid (fun k => by
    have h1 : (S k).length ≤ (S 0).length := by
      rw [hS, hS, List.length_append, List.length_append, List.drop_zero]
      have h2 := congrArg (fun l => (List.flatMap (fun s : Txt => low 2 s.length ++ nums s) l).length) (List.take_append_drop k ss)
      simp only [List.flatMap_append, List.length_append] at h2
      omega
    have h3 : (S 0).length ≤ n := by
      rw [← hn, ← hS0, hT2]
      unfold entBytes
      simp only [List.length_append]
      omega
    omega)
  have he : entBytes ss l post = nums magicT ++ (low 4 ss.length ++ S 0) := by
    rw [← hS0, hT2]
    rfl
  have HR1 : Hid (RdAt (((W.alloc (.cells #[.slice none 0 0] 22)).alloc (.cells #[.bool false] 4)).alloc (.cells #[.slice (some ⟨g, off, none⟩) n cap, .slice none 0 0] 148)) (W.heap.size + 1 + 1) g (nums magicT ++ (low 4 ss.length ++ S 0)) (.slice none 0 0)) := Lib.hid (by
    rw [← he]
    refine ⟨off, cap, ?_, by omega, hmax, ?_, by omega⟩
    · rw [hn]
      have h9 := heap_alloc_new ((W.alloc (.cells #[.slice none 0 0] 22)).alloc (.cells #[.bool false] 4)) (.cells #[.slice (some ⟨g, off, none⟩) n cap, .slice none 0 0] 148)
      rw [World.size_alloc, World.size_alloc] at h9
      exact h9
    · exact hc.olds (((Olds.alloc _ _).trans (Olds.alloc _ _)).trans (Olds.alloc _ _)))
  have HX2 : Hid ((((W.alloc (.cells #[.slice none 0 0] 22)).alloc (.cells #[.bool false] 4)).alloc (.cells #[.slice (some ⟨g, off, none⟩) n cap, .slice none 0 0] 148)).heap[W.heap.size]? = some (.cells #[.slice none 0 0] 22 (0, 0))) := Lib.hid ((Below.heap_alloc _ _ _ (by simp; omega)).trans ((Below.heap_alloc _ _ _ (by simp)).trans (heap_alloc_new W _)))
  have HX3 : Hid ((((W.alloc (.cells #[.slice none 0 0] 22)).alloc (.cells #[.bool false] 4)).alloc (.cells #[.slice (some ⟨g, off, none⟩) n cap, .slice none 0 0] 148)).heap[W.heap.size + 1]? = some (.cells #[.bool false] 4 (0, 0))) := Lib.hid ((Below.heap_alloc _ _ _ (by simp)).trans (by
    have h9 := heap_alloc_new (W.alloc (.cells #[.slice none 0 0] 22)) (.cells #[.bool false] 4)
    rw [World.size_alloc] at h9
    exact h9))
  have HXb : Hid (Below W.heap.size W (((W.alloc (.cells #[.slice none 0 0] 22)).alloc (.cells #[.bool false] 4)).alloc (.cells #[.slice (some ⟨g, off, none⟩) n cap, .slice none 0 0] 148))) := Lib.hid ((((Below.refl _ W).alloc (Nat.le_refl _) _).alloc (by simp) _).alloc (by simp; omega) _)
  have hXs : (((W.alloc (.cells #[.slice none 0 0] 22)).alloc (.cells #[.bool false] 4)).alloc (.cells #[.slice (some ⟨g, off, none⟩) n cap, .slice none 0 0] 148)).heap.size = W.heap.size + 1 + 1 + 1 := by simp
  have hb0 : (nums magicT ++ (low 4 ss.length ++ S 0)).length ≤ 1000000000000 := by rw [← he, hn]; exact hnb
  have HT := Lib.hid (rd_text magicT _ HR1.out hb0)
  clear hc hs1 hle hlp hly hS hS0 he hn
  go_enter_defers Tryz.func75, Tryz.ntmps75
  go_wp2_with (first
    | (go_at_call 100; refine HT.out.mono ?_; clear HT; rintro e w2 ⟨rfl, hr2, hk2, hz2'⟩; have Hr2 := Lib.hid hr2; have Hk2 := Lib.hid hk2; have hs2 := hk2.size; have HCt := Lib.hid (rd_count ss.length (S 0) hr2 (by omega) (by rw [List.length_append] at hb0; omega)); clear hr2 hk2 hz2')
    | (go_at_call 102; refine HCt.out.mono ?_; clear HCt; rintro e w3 ⟨rfl, hr3, hk3⟩; have Hr3 := Lib.hid hr3; have Hk3 := Lib.hid hk3; have hs3 := hk3.size; clear hr3 hk3))
  generalize (((W.alloc (.cells #[.slice none 0 0] 22)).alloc (.cells #[.bool false] 4)).alloc (.cells #[.slice (some ⟨g, off, none⟩) n cap, .slice none 0 0] 148)) = w1 at *
  generalize hrb : W.heap.size + 1 + 1 = rb at *
  have hrb1 : W.heap.size + 1 < rb := by omega
  have hrb2 : rb ≤ W.heap.size + 2 := by omega
  have hxs : W.heap.size + 3 ≤ w1.heap.size := by omega
  clear hrb hXs
  have Hst0 : Hid (SymIng W w3 rb g 0 ss (S 0) none 0) := Lib.hid (by
    have hold : ∀ b, b < rb → w3.heap[b]? = w1.heap[b]? := fun b hb => (Hk3.out.block b ⟨by omega, by omega⟩).trans (Hk2.out.block b ⟨by omega, by omega⟩)
    exact ⟨(hold _ (by omega)).trans HX2.out, (hold _ (by omega)).trans HX3.out, Hr3.out, World.ownsRow_nil _ _ _ _, (HXb.out.trans (Hk2.out.below fun b hb => ⟨by omega, by omega⟩)).trans (Hk3.out.below fun b hb => ⟨by omega, by omega⟩)⟩)
  have Hgl := Lib.hid hg
  have Hat : Hid (∀ k, k < ss.length → ∃ s, ss[k]? = some s) := Lib.hid (fun k hk => ⟨_, List.getElem?_eq_getElem hk⟩)
  clear HX2 HX3 HXb HR1 Hr2 Hr3 Hk2 Hk3 hs2 hs3 hg hb0
  generalize hm : ss.length = m at *
  have Hm := Lib.hid hm
  clear hm
  go_loopw [14] (fun iv wr => ∃ (k : Nat) (o : Option Addr) (c : Nat), k ≤ m ∧ iv = .int .i64 k ∧ SymIng W wr rb g k ss (S k) o c) (fun iv _ => m - (intOf iv).toNat)
  case atStart => exact ⟨0, none, 0, Nat.zero_le _, rfl, Hst0.out⟩
  case round =>
    obtain ⟨k, o, c, hk, rfl, hst⟩ := hrel
    have Hst := Lib.hid hst
    clear hst Hst0
    by_cases hlt : k < m
    · obtain ⟨s, hsk⟩ := Hat.out k hlt
      have hs24 := Hs1.out s (List.mem_of_getElem? hsk)
      have hSk := HSs.out k s hsk
      have hbk := HSb.out k
      rw [hSk] at hbk
      have hrd : RdAt wr.drew rb g (low 2 s.length ++ (nums s ++ S (k + 1))) (.slice o k c) := (hSk ▸ Hst.out.rd).keep rfl rfl
      have HN : Hid (Calls Tryz.prog 74 #[.pointer (some ⟨rb, 0, none⟩), .int .i64 2] wr.drew fun e w' => ∃ v, e = .returned v ∧ (v = .int .u64 (s.length : Nat) ∧ RdAt w' rb g (nums s ++ S (k + 1)) (.slice o k c) ∧ Kept (But rb wr) wr w')) := Lib.hid ((rd_number 2 s.length _ hrd (by decide) (by omega) hbk).mono fun e w' h => ⟨_, h.1, rfl, h.2.1, but_undrew h.2.2⟩)
      have HTx : Hid (∀ w', RdAt w' rb g (nums s ++ S (k + 1)) (.slice o k c) → Calls Tryz.prog 100 #[.pointer (some ⟨rb, 0, none⟩), .int .i64 (IntKind.i64.wrap ((s.length : Nat) : Int))] w' fun e w'' => ∃ v, e = .returned v ∧ (v = encStr s ∧ RdAt w'' rb g (S (k + 1)) (.slice o k c) ∧ Kept (But rb w') w' w'')) := Lib.hid (fun w' h' => by
        rw [show IntKind.i64.wrap ((s.length : Nat) : Int) = ((s.length : Nat) : Int) by rw [IntKind.wrap_i64]; omega]
        exact (rd_text s _ h' (by rw [List.length_append] at hbk; omega)).mono fun e w' h => ⟨_, h.1, rfl, h.2.1, h.2.2.1⟩)
      have Hsk := Lib.hid hsk
      have htk : (ss.take k).length = k := by rw [List.length_take, Hm.out]; omega
      have hcd : wr.drew.cell? ⟨rb, 1, none⟩ = some (.slice o k c) := hrd.cell1.1
      have hds : wr.drew.heap.size = wr.heap.size := rfl
      have Hrow : Hid (∀ w', Kept (But rb wr) wr w' → w'.ownsRow (rb + 1) 9 1 (.slice o k c) k ((ss.take k).map encStr)) := Lib.hid (fun w' hk' => by
        have h9 := ownsRow_kept Hst.out.row hk' fun b hb => ⟨(ownsRow_block Hst.out.row hb).2, by have := (ownsRow_block Hst.out.row hb).1; omega⟩
        rwa [htk] at h9)
      clear hsk hSk hbk hrd htk
      generalize hsl' : s.length = sl at *
      clear hsl'
      go_wp2_with fail
      refine wp_calm ?_
      go_region_law
        (first
          | (refine step_call2 (by rfl) 74 _ _ _ _ (by rfl) _ _ (by rfl) (by rfl) enters74 HN.out ?_; rintro v4 w4 ⟨rfl, hr4, hk4⟩; have Hr4 := Lib.hid hr4; have Hk4 := Lib.hid hk4; have hc4 := hr4.cell1.1; have hs4 := hk4.size; have HT4 := Lib.hid (HTx.out w4 hr4); clear hr4 hk4)
          | (refine step_call2 (by rfl) 100 _ _ _ _ (by rfl) _ _ (by rfl) (by rfl) enters100 HT4.out ?_; rintro v5 w5 ⟨rfl, hr5, hk5⟩; have Hr5 := Lib.hid hr5; have Hk5 : Hid (Kept (But rb wr) wr w5) := Lib.hid (Hk4.out.trans (hk5.mono fun b hb => ⟨by have := hb.1; omega, hb.2⟩)); have hc5 := hr5.cell1.1; have hs5 := hk5.size; have hc5' := (hr5.olds (by have := Hgl.out; have := Hst.out.bel.size; omega) (Olds.alloc w5 (.cells #[encStr s] 9))).cell1.1; clear hr5 hk5)
          | (refine step_append_lies _ (by rfl) _ _ _ (by rfl) (rb + 1) 9 i0 _ 1 16 Tryz.underlying90 hi0 hz0 hz1 hz2 rfl (by decide) (.slice o k c) k ((ss.take k).map encStr) (by rfl) (ownsRow_olds (Hrow.out w5 Hk5.out) (Olds.alloc _ _)) ⟨w5.heap.size, 0, none⟩ 1 1 [encStr s] (by rfl) (by rfl) (World.news_of_block (cs := #[encStr s]) (t := 9) (fr := (0, 0)) (heap_alloc_new w5 _)) (by simp [Value.oneCell']) Nat.one_pos (by unfold maxLen; omega) (by omega) (by simp; have := Hr5.out.lt; omega) (w5.heap.size + 1) (by simp) ?_; intro gg cap2 w6 hown6 hgrow6 hat6 hlt6; have Hown6 := Lib.hid hown6; have Hgrow6 := Lib.hid hgrow6; have Hst6 : Hid (SymIng W (w6.setCell ⟨rb, 1, none⟩ (.slice (some ⟨gg, 0, none⟩) (k + 1) cap2)) rb g (k + 1) ss (S (k + 1)) (some ⟨gg, 0, none⟩) cap2) := Lib.hid (sym_step hrb1 Hgl.out Hst.out Hsk.out Hk5.out Hr5.out hown6 hgrow6); have hr6 : RdAt w6 rb g (S (k + 1)) (.slice o k c) := Hr5.out.keep ((hgrow6.block rb (by simp; have := Hr5.out.lt; omega) (fun e => by have := (ownsRow_block Hst.out.row e.symm).1; omega)).trans (Below.heap_alloc _ _ _ Hr5.out.lt)) ((hgrow6.block g (by simp; have := Hgl.out; have := Hst.out.bel.size; omega) (fun e => by have := (ownsRow_block Hst.out.row e.symm).1; have := Hgl.out; omega)).trans (Below.heap_alloc _ _ _ (by have := Hgl.out; have := Hst.out.bel.size; omega))); have hc6 := hr6.cell1.1; have hf6 := hr6.cell1.2; clear hown6 hgrow6 hat6 hr6))
      all_goals
        unfold Calm
        go_wp2_with fail
        go_roundw
        case rel => exact ⟨k + 1, _, _, by omega, by go_num, Hst6.out⟩
        case measure => simp [intOf]; omega
    · obtain rfl : k = m := by omega
      have hrd := Hst.out.rd
      rw [HSn.out, hT2] at hrd
      have hrow : RowT wr (rb + 1) (.slice o k c) ss := by
        have h9 := Hst.out.row
        rwa [List.take_of_length_le (by rw [Hm.out]; exact Nat.le_refl _)] at h9
      have hbT : (low 4 l.length ++ (l.flatMap (entPart ss) ++ post)).length ≤ 1000000000000 := by
        have h9 := HSb.out k
        rwa [HSn.out, hT2] at h9
      obtain ⟨E, hE⟩ : ∃ E : Nat → List Nat, ∀ k, E k = (l.drop k).flatMap (entPart ss) ++ post := ⟨_, fun _ => rfl⟩
      have hE0 : l.flatMap (entPart ss) ++ post = E 0 := by rw [hE]; rfl
      have HEs : Hid (∀ k e, l[k]? = some e → E k = entPart ss e ++ E (k + 1)) := Lib.hid (fun k e hk => by
        rw [hE, hE, drop_flat hk]
        simp only [List.append_assoc])
      have HEb : Hid (∀ k, (E k).length ≤ 1000000000000) := Lib.hid (fun k => by
        have h1 : (E k).length ≤ (E 0).length := by
          rw [hE, hE, List.length_append, List.length_append, List.drop_zero]
          have h2 := congrArg (fun l => (List.flatMap (entPart ss) l).length) (List.take_append_drop k l)
          simp only [List.flatMap_append, List.length_append] at h2
          omega
        rw [← hE0] at h1
        rw [List.length_append] at hbT
        omega)
      rw [hE0] at hrd hbT
      have HC := Lib.hid (rd_count l.length (E 0) hrd (by omega) hbT)
      have Hrow := Lib.hid hrow
      have hwr := Hst.out.bel.size
      have hrbl := Hst.out.rd.lt
      clear hrd hrow hbT hE hE0 hT2 HSn HSs HSb
      generalize hml : l.length = ml at *
      have Hml := Lib.hid hml
      clear hml
      go_wp2_with (go_at_call 102; refine HC.out.mono ?_; clear HC; rintro e w4 ⟨rfl, hr4, hk4⟩; have Hr4 := Lib.hid hr4; have Hk4 := Lib.hid hk4; have hs4 := hk4.size; clear hr4 hk4)
      have Hen0 : Hid (EntIng W w4 rb g 0 ss l [] (E 0) (.slice o k c) none 0) := Lib.hid ⟨(Hk4.out.block _ ⟨by omega, by omega⟩).trans Hst.out.h2, (Hk4.out.block _ ⟨by omega, by omega⟩).trans Hst.out.h3, Hr4.out, RowT.but Hrow.out Hk4.out, World.ownsRow_nil _ _ _ _, rfl, fun i u e hu => by simp at hu, Hst.out.bel.trans (Hk4.out.below fun b hb => ⟨by omega, by omega⟩)⟩
      have Hatl : Hid (∀ j, j < ml → ∃ e1 e2, l[j]? = some (e1, e2)) := Lib.hid (fun j hj => ⟨_, _, List.getElem?_eq_getElem (by rw [Hml.out]; exact hj)⟩)
      clear Hr4 Hk4 hs4 Hst Hrow hwr hrbl
      go_loopw [33] (fun iv wr => ∃ (j : Nat) (us : List (Value × Value)) (o2 : Option Addr) (c2 : Nat), j ≤ ml ∧ iv = .int .i64 j ∧ EntIng W wr rb g j ss l us (E j) (.slice o k c) o2 c2) (fun iv _ => ml - (intOf iv).toNat)
      case atStart => exact ⟨0, [], none, 0, Nat.zero_le _, rfl, Hen0.out⟩
      case round =>
        obtain ⟨j, us, o2, c2, hj, rfl, hst⟩ := hrel
        have Hst := Lib.hid hst
        clear hst Hen0
        by_cases hltj : j < ml
        · obtain ⟨e1, e2, hej⟩ := Hatl.out j hltj
          have hmem := List.mem_of_getElem? hej
          obtain ⟨hl1, hl2⟩ := Hle.out _ hmem
          have hEj := HEs.out j _ hej
          have hbj := HEb.out j
          rw [hEj] at hbj
          have hrd : RdAt wr.drew rb g (entPart ss (e1, e2) ++ E (j + 1)) (.slice o k c) := (hEj ▸ Hst.out.rd).keep rfl rfl
          have hws := Hst.out.bel.size
          have HN : Hid (Calls Tryz.prog 103 #[.pointer (some ⟨rb, 0, none⟩)] wr.drew fun e w' => ∃ v, e = .returned v ∧ (∃ o3 n3 c3 o4 n4 c4, v = .agg #[.slice o3 n3 c3, .slice o4 n4 c4] ∧ OwnL w' wr.heap.size (.slice o3 n3 c3) e1 ∧ OwnP w' wr.heap.size (.slice o4 n4 c4) e2 ∧ RdAt w' rb g (E (j + 1)) (.slice o k c) ∧ Kept (But rb wr) wr w')) := Lib.hid ((rd_entry (ss := ss) e1 e2 _ hrd (by have := Hgl.out; show g < wr.heap.size; omega) (ownsRow_olds Hst.out.sym (Olds.drewN wr 1)) (by rw [Hm.out]; exact hsl) (Hly.out _ hmem) hl1 hl2 (Hlp.out _ hmem) hbj).mono fun e w' h => by
            obtain ⟨u1, u2, rfl, q1, q2, q3, q4⟩ := h
            obtain ⟨o3, c3, rfl, _⟩ := ownsRow_shape q1
            obtain ⟨o4, c4, rfl, _⟩ := ownsRow_shape q2
            exact ⟨_, rfl, _, _, _, _, _, _, rfl, q1, q2, q3, but_undrew q4⟩)
          have Hej := Lib.hid hej
          have hcd : wr.drew.cell? ⟨W.heap.size, 0, none⟩ = some (.slice o2 j c2) := by
            have h9 : wr.drew.heap[W.heap.size]? = some (.cells #[.slice o2 j c2] 22 (0, 0)) := Hst.out.h2
            simp only [World.cell?, h9]
            rfl
          have hds : wr.drew.heap.size = wr.heap.size := rfl
          have hrbw := Hst.out.rd.lt
          have Hnr : Hid ((Value.slice o2 j c2).ownBlock ≠ some W.heap.size) := Lib.hid (fun e => by have := (ownsRow_block Hst.out.row e).1; omega)
          have Hrow : Hid (∀ w', Kept (But rb wr) wr w' → w'.ownsRow (rb + 1) 78 2 (.slice o2 j c2) j (us.flatMap entCells)) := Lib.hid (fun w' hk' => ownsRow_kept Hst.out.row hk' fun b hb => ⟨(ownsRow_block Hst.out.row hb).2, by have := (ownsRow_block Hst.out.row hb).1; omega⟩)
          clear hej hmem hEj hbj hrd hl1 hl2
          go_wp2_with fail
          refine wp_calm ?_
          go_region_law
            (first
              | (refine step_call1 (by rfl) 103 _ _ (by rfl) _ (by rfl) enters103 HN.out ?_; rintro v4 w4 ⟨o3, n3, c3, o4, n4, c4, rfl, q1, q2, q3, q4⟩; have Hq1 := Lib.hid q1; have Hq2 := Lib.hid q2; have Hq3 := Lib.hid q3; have Hq4 := Lib.hid q4; have hs4 := q4.size; have hh4 : w4.heap[W.heap.size]? = some (.cells #[.slice o2 j c2] 22 (0, 0)) := (q4.block _ ⟨by omega, by omega⟩).trans Hst.out.h2; have Hh4 := Lib.hid hh4; have hc4 : w4.cell? ⟨W.heap.size, 0, none⟩ = some (.slice o2 j c2) := (by simp [World.cell?, hh4]); have hc4' : (w4.alloc (.cells #[.slice o3 n3 c3, .slice o4 n4 c4] 78)).cell? ⟨W.heap.size, 0, none⟩ = some (.slice o2 j c2) := (Olds.alloc w4 _).cell hc4; clear q1 q2 q3 q4 hh4)
              | (refine step_append_lies _ (by rfl) _ _ _ (by rfl) (rb + 1) 78 i1 _ 2 48 Tryz.underlying22 hi1 hy0 hy1 hy2 rfl (by decide) (.slice o2 j c2) j (us.flatMap entCells) (by rfl) (ownsRow_olds (Hrow.out w4 Hq4.out) (Olds.alloc _ _)) ⟨w4.heap.size, 0, none⟩ 1 1 [.slice o3 n3 c3, .slice o4 n4 c4] (by rfl) (by rfl) (World.news_of_block (cs := #[.slice o3 n3 c3, .slice o4 n4 c4]) (t := 78) (fr := (0, 0)) (heap_alloc_new w4 _)) (by simp [Value.oneCell']) Nat.one_pos (by unfold maxLen; omega) (by omega) (by simp; omega) (w4.heap.size + 1) (by simp) ?_; intro gg cap2 w5 hown5 hgrow5 hat5 hlt5; have Hst5 : Hid (EntIng W (w5.setCell ⟨W.heap.size, 0, none⟩ (.slice (some ⟨gg, 0, none⟩) (j + 1) cap2)) rb g (j + 1) ss l (us ++ [(.slice o3 n3 c3, .slice o4 n4 c4)]) (E (j + 1)) (.slice o k c) (some ⟨gg, 0, none⟩) cap2) := Lib.hid (ent_step hrb1 Hgl.out Hst.out Hej.out Hq4.out Hq3.out Hq1.out Hq2.out hown5 hgrow5); have hh5 : w5.heap[W.heap.size]? = some (.cells #[.slice o2 j c2] 22 (0, 0)) := (hgrow5.block W.heap.size (by simp; omega) (fun e => Hnr.out e.symm)).trans ((Below.heap_alloc _ _ _ (by omega)).trans Hh4.out); have hc5 : w5.cell? ⟨W.heap.size, 0, none⟩ = some (.slice o2 j c2) := (by simp [World.cell?, hh5]); have hf5 : w5.frozen? ⟨W.heap.size, 0, none⟩ = false := (by simp [World.frozen?, hh5]); clear hown5 hgrow5 hat5 hh5))
          all_goals
            unfold Calm
            go_wp2_with fail
            go_roundw
            case rel => exact ⟨j + 1, _, _, _, by omega, by go_num, Hst5.out⟩
            case measure => simp [intOf]; omega
        · obtain rfl : j = ml := by omega
          have hh2 := Hst.out.h2
          have hh3 := Hst.out.h3
          have hx2 : wr.cell? ⟨W.heap.size, 0, none⟩ = some (.slice o2 j c2) := by simp [World.cell?, hh2]
          have hf2 : wr.frozen? ⟨W.heap.size, 0, none⟩ = false := by simp [World.frozen?, hh2]
          have hx3 : wr.cell? ⟨W.heap.size + 1, 0, none⟩ = some (.bool false) := by simp [World.cell?, hh3]
          have hf3 : wr.frozen? ⟨W.heap.size + 1, 0, none⟩ = false := by simp [World.frozen?, hh3]
          have Hend : Hid (∀ X : World, X = ((wr.setCell ⟨W.heap.size, 0, none⟩ (.slice o2 j c2)).setCell ⟨W.heap.size + 1, 0, none⟩ (.bool true)) → X.cell? ⟨W.heap.size, 0, none⟩ = some (.slice o2 j c2) ∧ X.cell? ⟨W.heap.size + 1, 0, none⟩ = some (.bool true) ∧ OwnsE X W.heap.size (.slice o2 j c2) l ∧ Below W.heap.size W X) := Lib.hid (fun X hX => by
            subst hX
            have hS := Hst.out
            have hold : ∀ b, rb + 1 ≤ b → ((wr.setCell ⟨W.heap.size, 0, none⟩ (.slice o2 j c2)).setCell ⟨W.heap.size + 1, 0, none⟩ (.bool true)).heap[b]? = wr.heap[b]? := fun b hb => (Below.heap_setCell _ _ _ _ (by show b ≠ W.heap.size + 1; omega)).trans (Below.heap_setCell _ _ _ _ (by show b ≠ W.heap.size; omega))
            refine ⟨?_, ?_, ⟨us, by rw [hS.len, Hml.out], ?_, fun i u e hu he => ?_⟩, (hS.bel.setCell (Nat.le_refl _) _).setCell (by show W.heap.size ≤ W.heap.size + 1; omega) _⟩
            · simp [World.cell?, World.setCell, Array.getElem?_modify, hh2]
            · simp [World.cell?, World.setCell, Array.getElem?_modify, hh3]
            · rw [Hml.out]
              exact ownsRow_mono (ownsRow_blocks hS.row fun b hb => hold b (ownsRow_block hS.row hb).1) (by omega)
            · obtain ⟨q1, q2⟩ := hS.ents i u e hu he
              exact ⟨ownsRow_mono (ownsRow_blocks q1 fun b hb => hold b (ownsRow_block q1 hb).1) (by omega), ownsRow_mono (ownsRow_blocks q2 fun b hb => hold b (ownsRow_block q2 hb).1) (by omega)⟩)
          clear hh2 hh3
          go_wp2_with fail
          obtain ⟨q1, q2, q3, q4⟩ := Hend.out _ rfl
          refine leaves_cons (f := 101) (args := #[.pointer (some ⟨W.heap.size, 0, none⟩), .pointer (some ⟨W.heap.size + 1, 0, none⟩)]) (by simp) (by simp [go_sem]) ?_
          refine (idle101 _ _ _).mono ?_
          rintro e u' w'' ⟨rfl, rfl, rfl⟩
          simp [Leaves, settle, results, Tryz.results75, go_sem, q1, q2]
          exact ⟨q3, q4⟩
end Go.Proofs.YtaoggppfimfhbaaGreatDoor
