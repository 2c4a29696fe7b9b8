/- The law ExtentRoom, walked. Conditions: the slice reads as the calls that are named, and is of less than 2 to the 47th bytes. -/
import Derived.Test.YtndjmffnlcilbaaDoorXp
import Derived.Test.YtndjmffnlcilbaaDoorXg
import Derived.Test.YtndjmffnlcilbaaDoorXq
set_option linter.unusedSimpArgs false
set_option linter.unusedVariables false
set_option linter.deprecated false
set_option linter.unnecessarySimpa false
namespace Go.Proofs.YtndjmffnlcilbaaDoor
open Go Go.RowKit Go.Ix Go.Ext Go.Maps
def OpsIn (w : World) (l : List OpIn) : Prop := ∀ x ∈ l, Data w w.heap.size x.da x.dn x.dc ∧ x.kind < 256
theorem Data.below {w W : World} {da : Option Addr} {dn dc : Nat} (h : Data w w.heap.size da dn dc) (hb : Below w.heap.size w W) : Data W w.heap.size da dn dc :=
  h.blocks fun b o ho _ => (hb.block b (heap_lt ho)).trans ho
theorem SI.free {w : World} {B db sm sb k D : Nat} {g : G} (h : SI w B db sm sb k D g) : Calls Tryd.prog 8 #[.pointer (some ⟨sb, 0, none⟩)] w fun e w' => e = .returned (.int .i64 (freeTo g.T g.n : Nat)) ∧ w' = w := by
  obtain ⟨t, tb, tc, nb, xb, slot, gen, uv, dv, h⟩ := h
  have h1 := h.inv.hi
  have h2 := h.inv.lo
  exact free_any h.cell rfl h.rest.taken (fun a => by have := h.inv.nonneg a; have := h.inv.B a; omega) (by omega) (by omega)
theorem SI.olds {w W : World} {B db sm sb k D : Nat} {g : G} (h : SI w B db sm sb k D g) (ho : Olds w W) : SI W B db sm sb k D g := by
  obtain ⟨t, tb, tc, nb, xb, slot, gen, uv, dv, h⟩ := h
  exact ⟨t, tb, tc, nb, xb, slot, gen, uv, dv, h.olds ho⟩
theorem SI.mono {w : World} {B db sm sb k D k' D' : Nat} {g : G} (h : SI w B db sm sb k D g) (hk : k ≤ k') (hD : D ≤ D') : SI w B db sm sb k' D' g := by
  obtain ⟨t, tb, tc, nb, xb, slot, gen, uv, dv, h⟩ := h
  exact ⟨t, tb, tc, nb, xb, slot, gen, uv, dv, h.mono hk hD⟩
theorem SI.put (hH : HalfOk) {w : World} {B db sm sb k D dn dc : Nat} {da : Option Addr} {g : G} {s : Txt} (h : SI w B db sm sb k D g) (hG : 8 ≤ w.heap.size) (hk : k ≤ 900) (hs : s.length ≤ 1000000) (hd : Data w B da dn dc) (hdn : dn ≤ 400000) :
    Calls Tryd.prog 9 #[.pointer (some ⟨sb, 0, none⟩), encStr s, .slice da dn dc] w (PutEnd w B db sm sb k D s g) := by
  obtain ⟨t, tb, tc, nb, xb, slot, gen, uv, dv, h⟩ := h
  exact put_any hH h hG hk hs hd hdn
theorem SI.remove {w : World} {B db sm sb k D : Nat} {g : G} {s : Txt} (h : SI w B db sm sb k D g) (hk : k ≤ 1000) (hs : s.length ≤ 1000000) :
    Calls Tryd.prog 10 #[.pointer (some ⟨sb, 0, none⟩), encStr s] w (RemEnd w B db sm sb k D g) := by
  obtain ⟨t, tb, tc, nb, xb, slot, gen, uv, dv, h⟩ := h
  exact remove_any h hk hs
theorem SI.commit (hH : HalfOk) {w : World} {B db sm sb k D : Nat} {g : G} (h : SI w B db sm sb k D g) (hG : 8 ≤ w.heap.size) (hk : k ≤ 900) (hD : D ≤ 1000000) :
    Calls Tryd.prog 11 #[.pointer (some ⟨sb, 0, none⟩)] w (CommitEnd w B db sm sb k D g) := by
  obtain ⟨t, tb, tc, nb, xb, slot, gen, uv, dv, h⟩ := h
  exact commit_any hH h hG hk hD
def SDropEnd (w : World) (B db sm sb k D : Nat) (g : G) (e : Ending) (w' : World) : Prop := e = .returned (.tuple #[]) ∧ Kp B w w' ∧ ∃ g', SI w' B db sm sb k D g' ∧ g'.n = g.n
theorem SI.drop {w : World} {B db sm sb k D : Nat} {g : G} (h : SI w B db sm sb k D g) (hk : k ≤ 1000) :
    Calls Tryd.prog 12 #[.pointer (some ⟨sb, 0, none⟩)] w (SDropEnd w B db sm sb k D g) := by
  obtain ⟨t, tb, tc, nb, xb, slot, gen, uv, dv, h⟩ := h
  refine (drop_any h hk).mono ?_
  rintro e w' ⟨rfl, h1, xb', h2⟩
  exact ⟨rfl, h1, _, ⟨_, _, _, _, _, _, _, _, _, h2⟩, rfl⟩
theorem SI.files {w : World} {B db sm sb k D : Nat} {g : G} (h : SI w B db sm sb k D g) (hk : k ≤ 1000) (hD : D ≤ 1000000) :
    Calls Tryd.prog 13 #[.pointer (some ⟨sb, 0, none⟩)] w (FilesEnd w g.now) := by
  obtain ⟨t, tb, tc, nb, xb, slot, gen, uv, dv, h⟩ := h
  exact files_any h.cell h.rest.now (by omega) h.rest.fok (Nat.le_trans h.hd hD)
theorem SI.inv {w : World} {B db sm sb k D : Nat} {g : G} (h : SI w B db sm sb k D g) : Inv g := by
  obtain ⟨t, tb, tc, nb, xb, slot, gen, uv, dv, h⟩ := h
  exact h.inv
theorem SI.hB {w : World} {B db sm sb k D : Nat} {g : G} (h : SI w B db sm sb k D g) : B ≤ w.heap.size := by
  obtain ⟨t, tb, tc, nb, xb, slot, gen, uv, dv, h⟩ := h
  exact h.hB
theorem MuchSays.b {x : Prop} {e : Ending} (h : MuchSays x e) : ∃ b : Bool, e = .returned (.bool b) ∧ (b = false → x) := by
  rcases h with rfl | ⟨rfl, h⟩
  · exact ⟨true, rfl, fun h => by cases h⟩
  · exact ⟨false, rfl, fun _ => h⟩
def LawAt (w : World) (db sm sb n k D : Nat) (g : G) (wr : World) : Prop := SI wr w.heap.size db sm sb k D g ∧ g.n = n ∧ Below w.heap.size w wr
def nlen (l : List OpIn) : Nat := (l.map fun x => x.name.length).sum
theorem nlen_take {l : List OpIn} {k : Nat} {x : OpIn} (h : l[k]? = some x) : nlen (l.take (k + 1)) = nlen (l.take k) + x.name.length := by
  unfold nlen
  rw [List.take_add_one, h, List.map_append, List.sum_append]
  simp
theorem nlen_le (l : List OpIn) : nlen l ≤ wtOs l := by
  unfold nlen wtOs
  induction l with
  | nil => simp
  | cons x l ih =>
    simp only [List.map_cons, List.sum_cons]
    have : x.name.length ≤ wtO x := by unfold wtO; omega
    omega
theorem nlen_take_le (l : List OpIn) (k : Nat) : nlen (l.take k) ≤ nlen l := by
  unfold nlen
  rw [← List.take_append_drop k l]
  simp only [List.take_append_drop, List.map_take, List.map_drop]
  have h := List.sum_append (l₁ := (l.map fun x => x.name.length).take k) (l₂ := (l.map fun x => x.name.length).drop k)
  rw [List.take_append_drop] at h
  omega
theorem wtO_le {l : List OpIn} {x : OpIn} (h : x ∈ l) : wtO x ≤ wtOs l := by
  unfold wtOs
  induction l with
  | nil => cases h
  | cons y l ih =>
    simp only [List.map_cons, List.sum_cons]
    rcases List.mem_cons.1 h with rfl | h
    · omega
    · have := ih h
      omega
def sizeOfF (l : Fs) (s : Txt) : Nat := ((Ext.look l s).getD ⟨false, 0, 0, []⟩).size
def usedTo (l : Fs) (ks : List Txt) (k : Nat) : Nat := ((ks.take k).map fun s => need (sizeOfF l s)).sum
theorem used_succ {l : Fs} {ks : List Txt} {k : Nat} {s : Txt} {f : Fi} (hs : ks[k]? = some s) (hf : Ext.look l s = some f) : usedTo l ks (k + 1) = usedTo l ks k + need f.size := by
  unfold usedTo
  rw [List.take_add_one, hs, List.map_append, List.sum_append]
  simp [sizeOfF, hf]
theorem used_all {l : Fs} {ks : List Txt} (hn : (keys l).Nodup) (hp : ks.Perm (keys l)) : usedTo l ks ks.length = sizes l := by
  unfold usedTo
  rw [List.take_length, (hp.map _).sum_nat]
  unfold keys sizes
  rw [List.map_map]
  congr 1
  apply List.map_congr_left
  intro p hp
  have := mem_look hn (show (p.1, p.2) ∈ l from hp)
  simp [sizeOfF, this]
theorem used_le {l : Fs} {ks : List Txt} (hn : (keys l).Nodup) (hp : ks.Perm (keys l)) (k : Nat) : usedTo l ks k ≤ sizes l := by
  rw [← used_all hn hp]
  unfold usedTo
  rw [List.take_length]
  exact sum_take_le _ ks k
def Dk (l : List OpIn) (k : Nat) : Nat := 2 + 300 * k + nlen (l.take k)
set_option maxRecDepth 20000 in
set_option maxHeartbeats 8000000 in
theorem room_any (hH : HalfOk) (hk : ∀ W : World, 8 ≤ W.heap.size → Calls Tryd.prog 4 #[] W fun e W' => e = .returned (.bool true) ∧ Below W.heap.size W W') (sec : Nat) (hsec : sec < 256) (o : Option Addr) (n c : Nat) (l : List OpIn) (w : World) (hG : 8 ≤ w.heap.size) (hl : l.length = n) (hv : VastO l) (hc : RowOp w o l) (hin : OpsIn w l) :
    Calls Tryd.prog 3 #[.int .u8 (sec : Nat), .slice o n c] w fun e w' => e = .returned (.bool true) ∧ Below w.heap.size w w' := by
  have Hk := Lib.hid (hk w hG)
  have Hc := Lib.hid hc
  have Hv := Lib.hid hv
  have Hl := Lib.hid hl
  have Hin := Lib.hid hin
  clear hk hc hv hin
  have HM : Hid (∀ W : World, Below w.heap.size w W → Calls Tryd.prog 5 #[.slice o n c] W fun e w' => MuchSays (wtOs l + n ≤ 400000 ∧ n ≤ 200) e ∧ ∃ q, w' = W.drewN q) := Lib.hid (fun W hb => much_any o n c l W hl Hv.out (Hc.out.olds (Olds.of_below hb)))
  clear hl
  go_enter Tryd.func3, Tryd.ntmps3
  go_upto_region 3 with (go_at_call 4; refine Hk.out.mono ?_; clear Hk; rintro e w1 ⟨rfl, hb1⟩; have Hb1 := Lib.hid hb1; clear hb1)
  go_upto_if 23 with (go_at_call 5; refine (HM.out _ Hb1.out).mono ?_; clear HM; rintro e w2 ⟨hm, q, hq⟩; obtain ⟨mb, rfl, hmb⟩ := hm.b; have Hb2 : Hid (Below w.heap.size w w2) := Lib.hid (by rw [hq]; exact below_drewN Hb1.out q); have Hm := Lib.hid hmb; clear hm hq hmb)
  cases mb with
  | true =>
    go_wp2_with fail
    go_ret
    exact ⟨rfl, Hb2.out⟩
  | false =>
    obtain ⟨hwt, hn200⟩ := Hm.out rfl
    have HD1 : Hid (Calls Tryd.prog 6 #[.int .i64 ((sec % 60 + 3 : Nat) : Int)] w2 (DnewEnd w2 w.heap.size (sec % 60 + 3))) := Lib.hid (dnew_any (by omega) (by omega) Hb2.out.size)
    rw [show ((sec % 60 + 3 : Nat) : Int) = (sec : Int) % 60 + 3 by omega] at HD1
    go_upto_region 7 with (go_at_call 6; refine HD1.out.mono ?_; clear HD1; rintro e w3 ⟨db, sm, rfl, hb3, hdi⟩; have Hb3 := Lib.hid hb3; have Hdi := Lib.hid hdi; clear hb3 hdi)
    have HF : Hid (Calls Tryd.prog 7 #[.pointer (some ⟨db, 0, none⟩)] w3 (FormatEnd w3 w.heap.size db sm (sec % 60 + 3))) := Lib.hid (format_any hH Hdi.out (Nat.le_trans Hb2.out.size Hb3.out.size) (by have := Hb2.out.size; have := Hb3.out.size; omega) (by omega) (by omega))
    go_upto_region 10 with (go_at_call 7; refine HF.out.mono ?_; clear HF; rintro e w4 ⟨sb, rfl, hk4, hsb4, h4⟩; have Hk4 := Lib.hid hk4; have H4 := Lib.hid h4; clear hk4 h4)
    go_upto_region 13 with fail
    obtain ⟨N, hN⟩ : ∃ N, N = sec % 60 + 3 := ⟨_, rfl⟩
    rw [← hN] at H4
    have hN62 : N ≤ 62 := by omega
    have hN3 : 3 ≤ N := by omega
    have HN := Lib.hid hN
    have HB4 : Hid (Below w.heap.size w w4) := Lib.hid ((Hb2.out.trans (Hb3.out.mono Hb2.out.size)).trans Hk4.out.below)
    have hnl : nlen l ≤ 400000 := by have := nlen_le l; omega
    have Hwt := Lib.hid hwt
    have Hnl := Lib.hid hnl
    clear hN hwt hnl
    go_loopw [10, 11, 12, 13, 67, 76] (fun iv _ _ _ _ _ wr => ∃ (k : Nat) (g : G), k ≤ n ∧ iv = .int .i64 k ∧ LawAt w db sm sb N (2 * k + 1) (Dk l k) g wr) (fun iv _ _ _ _ _ _ => n - (intOf iv).toNat)
    case atStart => exact ⟨0, newG N, Nat.zero_le _, rfl, H4.out.mono (by decide) (Nat.le_refl _), rfl, HB4.out⟩
    case round =>
      obtain ⟨k, g, hk, rfl, hsi, hgn, hbw⟩ := hrel
      have Hsi := Lib.hid hsi
      have Hbw := Lib.hid hbw
      have hws := hbw.size
      clear hsi hbw
      by_cases hlt : k < n
      · obtain ⟨x, hx⟩ : ∃ x, l[k]? = some x := ⟨_, List.getElem?_eq_getElem (by rw [Hl.out]; exact hlt)⟩
        obtain ⟨b, off, rfl, a0, a1, a2, a3, a4, a5⟩ := (Hc.out.olds (Olds.of_below Hbw.out)).at hx
        obtain ⟨hxd, hxk⟩ := Hin.out x (List.mem_of_getElem? hx)
        have hxw := wtO_le (List.mem_of_getElem? hx)
        have hxn : Dk l (k + 1) = Dk l k + 300 + x.name.length := by
          unfold Dk
          rw [nlen_take hx]
          omega
        have hDk : Dk l k ≤ 500000 := by
          have := nlen_take_le l k
          have := Hnl.out
          unfold Dk
          omega
        have hx1 : x.name.length ≤ 400000 ∧ x.dn ≤ 400000 := by
          have := Hwt.out
          unfold wtO at hxw
          omega
        obtain ⟨A, hA⟩ : ∃ A : World, A = wr.alloc (.cells #[.int .u8 (x.kind : Nat), encStr x.name, encStr x.dest, .slice x.da x.dn x.dc, .int .i64 x.n, .slice x.ka x.kn x.kc] 36) := ⟨_, rfl⟩
        have hoA : Olds wr A := by rw [hA]; exact Olds.alloc _ _
        have hbA : Below w.heap.size w A := by rw [hA]; exact Hbw.out.trans ((Below.refl _ _).alloc hws _)
        have hAx : A.heap[wr.heap.size]? = some (.cells #[.int .u8 (x.kind : Nat), encStr x.name, encStr x.dest, .slice x.da x.dn x.dc, .int .i64 x.n, .slice x.ka x.kn x.kc] 36 (0, 0)) := by rw [hA]; exact heap_alloc_new _ _
        have HSA := Lib.hid (Hsi.out.olds hoA)
        have HFr := Lib.hid (HSA.out.free)
        have k0 : A.cell? ⟨wr.heap.size, 0, none⟩ = some (.int .u8 (x.kind : Nat)) := by rw [cell_of_heap hAx]; rfl
        have k1 : A.cell? ⟨wr.heap.size, 1, none⟩ = some (encStr x.name) := by rw [cell_of_heap hAx]; rfl
        have k3 : A.cell? ⟨wr.heap.size, 3, none⟩ = some (.slice x.da x.dn x.dc) := by rw [cell_of_heap hAx]; rfl
        have HAx := Lib.hid hAx
        have HbA := Lib.hid hbA
        have HA := Lib.hid hA
        have Hxd := Lib.hid hxd
        have Hxn := Lib.hid hxn
        clear hA hoA hbA hAx hxd hx hxn
        have HPut := Lib.hid (HSA.out.put hH (s := x.name) (da := x.da) (dn := x.dn) (dc := x.dc) (by have := HbA.out.size; omega) (by omega) (by omega) ((Data.below Hxd.out HbA.out)) (by omega))
        have HRem := Lib.hid (HSA.out.remove (s := x.name) (by omega) (by omega))
        have HCom := Lib.hid (HSA.out.commit hH (by have := HbA.out.size; omega) (by omega) (by omega))
        have hA6 : ∀ w6 : World, Kp w.heap.size A w6 → w6.cell? ⟨wr.heap.size, 0, none⟩ = some (.int .u8 (x.kind : Nat)) ∧ Below w.heap.size w w6 := fun w6 hk6 => ⟨by rw [cell_of_heap (hk6.ops _ _ _ HAx.out)]; rfl, HbA.out.trans hk6.below⟩
        have HA6 := Lib.hid hA6
        clear hA6
        generalize hdn : x.dn = dn at *
        clear hdn
        go_upto_region 16 with fail
        rw [← HA.out]
        rcases (show x.kind % 4 = 0 ∨ x.kind % 4 = 1 ∨ x.kind % 4 = 2 ∨ x.kind % 4 = 3 by omega) with hq | hq | hq | hq
        · have hqi : (x.kind : Int) % 4 = 0 := by omega
          clear hq
          go_upto_region 25 with (first
            | (go_at_call 8; refine HFr.out.mono ?_; clear HFr; rintro e w5 ⟨rfl, hw5⟩; rw [hw5]; clear hw5 w5)
            | (go_at_call 9; refine HPut.out.mono ?_; clear HPut; rintro e w6 ⟨hk6, c6, rfl, h6⟩; obtain ⟨q0, q1⟩ := HA6.out w6 hk6; have Hq1 := Lib.hid q1; have H6 := Lib.hid h6; clear hk6 h6 q1))
          rcases H6.out with ⟨hc6, hs6⟩ | ⟨rfl, g', hs6, hg6⟩
          · have hcne : ((c6 : Int) == 0) = false := by simp; omega
            have Hs6 := Lib.hid hs6
            have HFr6 := Lib.hid hs6.free
            rw [hgn] at HFr6
            clear hs6
            go_wp2_with (go_at_call 8; refine HFr6.out.mono ?_; clear HFr6; rintro e w7 ⟨rfl, hw7⟩; rw [hw7]; clear hw7 w7)
            go_roundw
            case rel => exact ⟨k + 1, g, by omega, by go_num, Hs6.out.mono (by omega) (by rw [Hxn.out]; omega), hgn, Hq1.out⟩
            case measure => simp [intOf]; omega
          · have Hs6 := Lib.hid hs6
            have Hg6 := Lib.hid hg6
            clear hs6 hg6
            go_wp2_with fail
            go_roundw
            case rel => exact ⟨k + 1, g', by omega, by go_num, Hs6.out.mono (by omega) (by rw [Hxn.out]; omega), Hg6.out.trans hgn, Hq1.out⟩
            case measure => simp [intOf]; omega
        · have hqi : (x.kind : Int) % 4 = 1 := by omega
          clear hq
          go_upto_region 25 with (first
            | (go_at_call 8; refine HFr.out.mono ?_; clear HFr; rintro e w5 ⟨rfl, hw5⟩; rw [hw5]; clear hw5 w5)
            | (go_at_call 9; refine HPut.out.mono ?_; clear HPut; rintro e w6 ⟨hk6, c6, rfl, h6⟩; obtain ⟨q0, q1⟩ := HA6.out w6 hk6; have Hq1 := Lib.hid q1; have H6 := Lib.hid h6; clear hk6 h6 q1))
          rcases H6.out with ⟨hc6, hs6⟩ | ⟨rfl, g', hs6, hg6⟩
          · have hcne : ((c6 : Int) == 0) = false := by simp; omega
            have Hs6 := Lib.hid hs6
            have HFr6 := Lib.hid hs6.free
            rw [hgn] at HFr6
            clear hs6
            go_wp2_with (go_at_call 8; refine HFr6.out.mono ?_; clear HFr6; rintro e w7 ⟨rfl, hw7⟩; rw [hw7]; clear hw7 w7)
            go_roundw
            case rel => exact ⟨k + 1, g, by omega, by go_num, Hs6.out.mono (by omega) (by rw [Hxn.out]; omega), hgn, Hq1.out⟩
            case measure => simp [intOf]; omega
          · have Hs6 := Lib.hid hs6
            have Hg6 := Lib.hid hg6
            clear hs6 hg6
            go_wp2_with fail
            go_roundw
            case rel => exact ⟨k + 1, g', by omega, by go_num, Hs6.out.mono (by omega) (by rw [Hxn.out]; omega), Hg6.out.trans hgn, Hq1.out⟩
            case measure => simp [intOf]; omega
        · have hqi : (x.kind : Int) % 4 = 2 := by omega
          clear hq
          go_upto_region 25 with (first
            | (go_at_call 8; refine HFr.out.mono ?_; clear HFr; rintro e w5 ⟨rfl, hw5⟩; rw [hw5]; clear hw5 w5)
            | (go_at_call 10; refine HRem.out.mono ?_; clear HRem; rintro e w6 ⟨hk6, c6, rfl, g', hs6, hg6⟩; obtain ⟨q0, q1⟩ := HA6.out w6 hk6; have Hq1 := Lib.hid q1; have Hs6 := Lib.hid hs6; have Hg6 := Lib.hid hg6; clear hk6 hs6 hg6 q1))
          go_wp2_with fail
          go_roundw
          case rel => exact ⟨k + 1, g', by omega, by go_num, Hs6.out.mono (by omega) (by rw [Hxn.out]; omega), Hg6.out.trans hgn, Hq1.out⟩
          case measure => simp [intOf]; omega
        · have hqi : (x.kind : Int) % 4 = 3 := by omega
          clear hq
          go_upto_region 25 with (first
            | (go_at_call 8; refine HFr.out.mono ?_; clear HFr; rintro e w5 ⟨rfl, hw5⟩; rw [hw5]; clear hw5 w5)
            | (go_at_call 11; refine HCom.out.mono ?_; clear HCom; rintro e w6 ⟨hk6, c6, rfl, _, g', hs6, hg6, _⟩; obtain ⟨q0, q1⟩ := HA6.out w6 hk6; have Hq1 := Lib.hid q1; have Hs6 := Lib.hid hs6; have Hg6 := Lib.hid hg6; clear hk6 hs6 hg6 q1))
          go_wp2_with fail
          go_roundw
          case rel => exact ⟨k + 1, g', by omega, by go_num, Hs6.out.mono (by omega) (by rw [Hxn.out]; omega), Hg6.out.trans hgn, Hq1.out⟩
          case measure => simp [intOf]; omega
      · obtain rfl : k = n := by omega
        have hD : Dk l k ≤ 500000 := by
          have := nlen_take_le l k
          have := Hnl.out
          unfold Dk
          omega
        have HDr := Lib.hid (Hsi.out.drop (by omega))
        have hG9 : 8 ≤ wr.heap.size := by omega
        go_upto_region 28 with (go_at_call 12; refine HDr.out.mono ?_; clear HDr; rintro e w7 ⟨rfl, hk7, g1, h7, hg1⟩; have Hk7 := Lib.hid hk7; have H7 := Lib.hid h7; clear hk7 h7)
        have hw7 := Hk7.out.below.size
        have HCo := Lib.hid (H7.out.commit hH (by omega) (by omega) (by omega))
        go_upto_region 29 with (go_at_call 11; refine HCo.out.mono ?_; clear HCo; rintro e w8 ⟨hk8, c8, rfl, hc8, g2, h8, hg2, hu2⟩; have Hk8 := Lib.hid hk8; have H8 := Lib.hid h8; clear hk8 h8)
        have HB8 : Hid (Below w.heap.size w w8) := Lib.hid ((Hbw.out.trans Hk7.out.below).trans Hk8.out.below)
        have HFi := Lib.hid (H8.out.files (by omega) (by omega))
        have HInv := Lib.hid (H8.out.inv)
        have hN2 : g2.n = N := by rw [hg2, hg1, hgn]
        have HFree : Hid (freeTo g2.T N + sizes g2.now + need (dirLen g2.now) = N - 2) := Lib.hid (by
          have h := HInv.out.free (fun a => by rw [hu2]; rfl)
          rw [hN2] at h
          exact h)
        have hdl : dirLen g2.now ≤ 500000 := by
          obtain ⟨t, tb, tc, nb, xb, slot, gen, uv, dv, h⟩ := H8.out
          exact Nat.le_trans h.hd hD
        have hw8 := HB8.out.size
        clear hg1 hg2 hu2
        have hszs : sizes g2.now ≤ 60 := by have := HFree.out; omega
        rcases hc8 with rfl | rfl
        all_goals
          go_upto_region 32 with (go_at_call 13; refine HFi.out.mono ?_; clear HFi; rintro e w9 ⟨hb9, fv, ks, rfl, hperm, hrow⟩; obtain ⟨vo, vc, rfl, _⟩ := ownsRow_shape hrow; have Hb9 := Lib.hid hb9; have Hperm := Lib.hid hperm; have Hrow := Lib.hid hrow; clear hb9 hperm hrow)
          have hnd := HInv.out.kn
          have HFr9 := Lib.hid ((H8.out.olds (Olds.of_below Hb9.out)).free)
          rw [hN2] at HFr9
          have HSum := Lib.hid (upto_all hnd Hperm.out)
          have HUsed := Lib.hid (used_all hnd Hperm.out)
          have hUl : ∀ k, usedTo g2.now ks k ≤ 60 := fun k => Nat.le_trans (used_le hnd Hperm.out k) hszs
          have hDl : ∀ k, upto g2.now ks k ≤ 500000 := fun k => Nat.le_trans (upto_le hnd Hperm.out k) hdl
          have HUl := Lib.hid hUl
          have HDl := Lib.hid hDl
          have hmk : ks.length ≤ 1000000 := by
            have h1 := Hperm.out.length_eq
            have h2 := len_le_dir g2.now
            unfold keys at h1
            rw [List.length_map] at h1
            omega
          generalize hm : ks.length = m at *
          have Hm := Lib.hid hm
          clear hm hUl hDl
          go_wp2_with fail
          go_loopw [16, 17, 18] (fun uv lv iv wq => ∃ (j q : Nat), j ≤ m ∧ iv = .int .i64 j ∧ uv = .int .i64 (usedTo g2.now ks j : Nat) ∧ lv = .int .i64 (upto g2.now ks j : Nat) ∧ wq = w9.drewN q) (fun _ _ iv _ => m - (intOf iv).toNat)
          case atStart => exact ⟨0, 0, Nat.zero_le _, rfl, rfl, rfl, rfl⟩
          case round =>
            obtain ⟨j, q, hj, rfl, rfl, rfl, rfl⟩ := hrel
            by_cases hjl : j < m
            · obtain ⟨s, hs⟩ : ∃ s, ks[j]? = some s := ⟨_, List.getElem?_eq_getElem (by rw [Hm.out]; exact hjl)⟩
              obtain ⟨f, hf, hfl⟩ := look_key Hperm.out (List.mem_of_getElem? hs)
              have hfz : f.size ≤ 1000000 := (HInv.out.R _ hfl).2.2
              have hu1 := used_succ hs hf
              have hd1 := upto_succ hs hf
              have hu2 := HUl.out (j + 1)
              have hd2 := HDl.out (j + 1)
              have hu3 := HUl.out j
              have hd3 := HDl.out j
              obtain ⟨vb, rfl⟩ : ∃ vb, vo = some ⟨vb, 0, none⟩ := by
                rcases Hrow.out.2 with ⟨_, h0⟩ | ⟨gg, cap, cur, e, _⟩
                · omega
                · simp only [Value.slice.injEq] at e
                  exact ⟨gg, e.1⟩
              have hcells := ownsRow_cell Hrow.out
              have at' := fun (i : Nat) (v : Value) (hv : (fc g2.now s)[i]? = some v) => hcells.elem (fc_len g2.now) hs hv
              rw [fc_some hf] at at'
              have e0 : w9.cell? ⟨vb, j * 4, none⟩ = some (encStr s) := by have := at' 0 _ rfl; simpa using this
              have e2 : w9.cell? ⟨vb, j * 4 + 2, none⟩ = some (.int .i64 (f.size : Nat)) := by have := at' 2 _ rfl; simpa using this
              have e3 : w9.cell? ⟨vb, j * 4 + 3, none⟩ = some (.int .i64 ((runsOf f.secs).length : Nat)) := by have := at' 3 _ rfl; simpa using this
              have e2' : (w9.drewN q).cell? ⟨vb, j * 4 + 2, none⟩ = some (.int .i64 (f.size : Nat)) := e2
              have hS0 : (w9.drewN q).drew.cell? ⟨vb, j * 4, none⟩ = some (encStr s) ∧ (w9.drewN q).drew.cell? ⟨vb, j * 4 + 3, none⟩ = some (.int .i64 ((runsOf f.secs).length : Nat)) := ⟨e0, e3⟩
              have Hu1 := Lib.hid hu1
              have Hd1 := Lib.hid hd1
              rw [hu1] at hu2
              rw [hd1] at hd2
              have HS0 := Lib.hid hS0
              generalize hzz : f.size = fz at *
              generalize hrr : (runsOf f.secs).length = rr at *
              generalize usedTo g2.now ks j = uj at *
              generalize upto g2.now ks j = dj at *
              have hnd1 : (need fz : Int) = ((fz : Int) + 255) / 256 := by unfold need; omega
              clear hs hf hfl hcells at' e0 e2 e3 hS0 hu1 hd1
              have hw1 : IntKind.i64.wrap (12 + (s.length : Int)) = 12 + (s.length : Int) := by rw [IntKind.wrap_i64]; omega
              have hw2 : IntKind.i64.wrap (4 * (rr : Int)) = 4 * (rr : Int) := by rw [IntKind.wrap_i64]; omega
              have hw3 : IntKind.i64.wrap (12 + (s.length : Int) + 4 * (rr : Int)) = 12 + (s.length : Int) + 4 * (rr : Int) := by rw [IntKind.wrap_i64]; omega
              have hw4 : IntKind.i64.wrap ((dj : Int) + (12 + (s.length : Int) + 4 * (rr : Int))) = (dj : Int) + (12 + (s.length : Int) + 4 * (rr : Int)) := by rw [IntKind.wrap_i64]; omega
              go_upto_region 38 with fail
              go_region_held (fun W' => W'.cell? ⟨vb, j * 4, none⟩ = some (encStr s) ∧ W'.cell? ⟨vb, j * 4 + 3, none⟩ = some (.int .i64 (rr : Nat))) (exact HS0.out) (fail)
              go_wp2_with fail
              go_roundw
              case rel =>
                refine ⟨j + 1, q + 1, by omega, by go_num, ?_, ?_, rfl⟩
                · rw [Hu1.out]
                  go_num
                · rw [Hd1.out]
                  go_num
              case measure => simp [intOf]; omega
            · obtain rfl : j = m := by omega
              have hu9 : usedTo g2.now ks j = sizes g2.now := HUsed.out
              have hd9 : upto g2.now ks j = dirLen g2.now := HSum.out
              rw [hu9, hd9]
              have hfree := HFree.out
              have hw9 : (w9.drewN q).heap.size = w9.heap.size := rfl
              have HFrq := Lib.hid ((((H8.out.olds (Olds.of_below Hb9.out)).olds (Olds.drewN w9 q))).free)
              rw [hN2] at HFrq
              have hneed : (need (dirLen g2.now) : Int) = ((dirLen g2.now : Int) + 255) / 256 := by unfold need; omega
              generalize hfr : freeTo g2.T N = fr at *
              generalize hsz9 : sizes g2.now = sz at *
              generalize hdl9 : dirLen g2.now = dl at *
              have hfin : Hid ((fr : Int) = (N : Int) - 2 - (sz : Int) - ((dl : Int) + 255) / 256) := Lib.hid (by omega)
              clear hfree hu9 hd9
              go_wp2_with (go_at_call 8; refine HFrq.out.mono ?_; clear HFrq; rintro e wz ⟨rfl, hwz⟩; rw [hwz]; clear hwz wz)
              go_ret
              refine ⟨ret_bool (a := ((fr : Int) == (sec : Int) % 60 + 3 - 2 - (sz : Int) - ((dl : Int) + 255) / 256)) (b := true) ?_, (HB8.out.trans (Hb9.out.mono hw8)).trans ((Below.refl _ _).trans (below_drewN (Below.refl _ _) q))⟩
              rw [beq_iff_eq, hfin.out, HN.out]
              omega
end Go.Proofs.YtndjmffnlcilbaaDoor
