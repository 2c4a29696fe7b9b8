/- Contracts over this program. Their conditions: the slices read as the lists that are named, and lie within the sizes that are named. -/
import Derived.Test.YtaoggppfimfhbaaGreatDoorNh
import Derived.Test.YtaoggppfimfhbaaGreatDoorNi
import Derived.Laws.BytesArg
import Derived.Test.YtaoggppfimfhbaaGreatDoorNm
import Derived.Test.YtaoggppfimfhbaaGreatDoorNg
import Derived.Deep.CutRange
import Derived.StillTailTactics
import Derived.Deep.RegionHeldLaw
set_option linter.unusedSimpArgs false
set_option linter.unusedVariables false
set_option linter.deprecated false
set_option linter.unnecessarySimpa false
namespace Go.Proofs.YtaoggppfimfhbaaGreatDoor
open Go Go.RowKit Go.Ix

theorem one_lblCells {l : List Lbl} : ∀ x ∈ l.flatMap lblCells, x.oneCell' = true := by
  intro x hx
  obtain ⟨y, _, hy⟩ := List.mem_flatMap.1 hx
  unfold lblCells encStr at hy
  simp only [List.mem_cons, List.not_mem_nil, or_false] at hy
  rcases hy with rfl | rfl <;> rfl
theorem one_plcCells {l : List Plc} : ∀ x ∈ l.flatMap plcCells, x.oneCell' = true := by
  intro x hx
  obtain ⟨y, _, hy⟩ := List.mem_flatMap.1 hx
  unfold plcCells at hy
  simp only [List.mem_cons, List.not_mem_nil, or_false] at hy
  rcases hy with rfl | rfl | rfl | rfl | rfl <;> rfl

theorem rows2_flat {w : World} {o : Option Addr} {l : List Lbl} (h : Rows2 w o l) (c : Nat) (h0 : o = none → c = 0) : FlatAt w (.slice o l.length c) l.length (l.flatMap lblCells) :=
  ⟨o, c, rfl, h0, fun hne => h fun e => hne (by rw [e]; rfl)⟩
theorem rows5_flat {w : World} {o : Option Addr} {l : List Plc} (h : Rows5 w o l) (c : Nat) (h0 : o = none → c = 0) : FlatAt w (.slice o l.length c) l.length (l.flatMap plcCells) :=
  ⟨o, c, rfl, h0, fun hne => h fun e => hne (by rw [e]; rfl)⟩

theorem owns_empty (w : World) (e k : Nat) : (w.alloc (.cells #[] e)).ownsRow w.heap.size e k (.slice (some ⟨w.heap.size, 0, none⟩) 0 0) 0 [] :=
  ⟨by simp, .inr ⟨w.heap.size, 0, #[], rfl, Nat.le_refl _, heap_alloc_new w _, Nat.le_refl _, by unfold maxLen; omega, by simp, by simp⟩⟩

set_option maxRecDepth 20000 in
set_option maxHeartbeats 1000000 in
theorem clone_labels (o : Option Addr) (c n : Nat) (l : List Lbl) (w : World) (hn : l.length = n) (hm : n ≤ 1000000) (h0 : o = none → c = 0) (hc : Rows2 w o l) : Calls Tryz.prog 79 #[.slice o n c] w fun e w' => ∃ v, e = .returned v ∧ w'.ownsRow w.heap.size 84 2 v n (l.flatMap lblCells) ∧ Below w.heap.size w w' := by
  obtain ⟨i0, hi0, hz0, hz1, hz2⟩ := info_parts Tryz.info84
  have hF := rows2_flat hc c h0
  rw [hn] at hF
  have Hfl : (l.flatMap lblCells).length = n * 2 := by rw [flat_len (k := 2) (fun _ => rfl), hn]
  have HF := Lib.hid hF
  have HL := Lib.hid Hfl
  clear hF Hfl hc
  by_cases ho : o = none
  · obtain rfl := ho
    obtain rfl := h0 rfl
    have hl0 : l = [] ∨ l ≠ [] := by by_cases h : l = [] <;> simp [h]
    have hn0 : n = 0 := by
      obtain ⟨o', c', e, _, hx⟩ := HF.out
      by_cases hz : n = 0
      · exact hz
      · have hne : l.flatMap lblCells ≠ [] := fun e => by have := HL.out; rw [e] at this; simp at this; omega
        obtain ⟨b, off, e2, _⟩ := hx hne
        simp only [Value.slice.injEq] at e
        rw [← e.1] at e2
        cases e2
    subst hn0
    have hl : l = [] := List.eq_nil_of_length_eq_zero hn
    subst hl
    have heq : ∀ w, (binOp .eql 75 (.slice none 0 0) (.slice none 0 0)).run Tryz.prog w = .ok (.bool true) w := fun _ => by kernel_rfl
    go_enter Tryz.func79, Tryz.ntmps79
    go_wp2_with fail
    go_ret
    exact ⟨_, rfl, World.ownsRow_nil _ _ _ _, Below.refl _ _⟩
  · obtain ⟨a, rfl⟩ := Option.ne_none_iff_exists'.1 ho
    clear h0 ho
    have heq : ∀ w, (binOp .eql 75 (.slice (some a) n c) (.slice none 0 0)).run Tryz.prog w = .ok (.bool false) w := fun _ => by kernel_rfl
    go_enter Tryz.func79, Tryz.ntmps79
    go_wp2_with (at_builtin; refine wpList_append_flat rfl _ _ rfl Tryz.underlying75 size84 hi0 hz0 hz1 hz2 rfl (by decide) (by decide) w.heap.size 0 n (.slice (some ⟨w.heap.size, 0, none⟩) 0 0) (.slice (some a) n c) [] (l.flatMap lblCells) rfl rfl (owns_empty w 84 2) (by simp) (FlatAt.olds HF.out (Olds.alloc _ _)) HL.out one_lblCells (by omega) ?_; intro v1 w1 hown1 hgrow1 hat1; rw [Nat.zero_add, List.nil_append] at hown1; have Hown1 := Lib.hid hown1; have B1 : Hid (Below w.heap.size w w1) := Lib.hid (((Below.refl _ w).alloc (Nat.le_refl _) _).grown hgrow1 (by simp) (fun b hb => by cases hb; exact Nat.le_refl _)); clear hown1 hgrow1 hat1)
    go_ret
    exact ⟨_, rfl, Hown1.out, B1.out⟩

set_option maxRecDepth 20000 in
set_option maxHeartbeats 1000000 in
theorem clone_places (o : Option Addr) (c n : Nat) (l : List Plc) (w : World) (hn : l.length = n) (hm : n ≤ 1000000) (h0 : o = none → c = 0) (hc : Rows5 w o l) : Calls Tryz.prog 80 #[.slice o n c] w fun e w' => ∃ v, e = .returned v ∧ w'.ownsRow w.heap.size 107 5 v n (l.flatMap plcCells) ∧ Below w.heap.size w w' := by
  obtain ⟨i0, hi0, hz0, hz1, hz2⟩ := info_parts Tryz.info107
  have hF := rows5_flat hc c h0
  rw [hn] at hF
  have Hfl : (l.flatMap plcCells).length = n * 5 := by rw [flat_len (k := 5) (fun _ => rfl), hn]
  have HF := Lib.hid hF
  have HL := Lib.hid Hfl
  clear hF Hfl hc
  by_cases ho : o = none
  · obtain rfl := ho
    obtain rfl := h0 rfl
    have hn0 : n = 0 := by
      obtain ⟨o', c', e, _, hx⟩ := HF.out
      by_cases hz : n = 0
      · exact hz
      · have hne : l.flatMap plcCells ≠ [] := fun e => by have := HL.out; rw [e] at this; simp at this; omega
        obtain ⟨b, off, e2, _⟩ := hx hne
        simp only [Value.slice.injEq] at e
        rw [← e.1] at e2
        cases e2
    subst hn0
    have hl : l = [] := List.eq_nil_of_length_eq_zero hn
    subst hl
    have heq : ∀ w, (binOp .eql 76 (.slice none 0 0) (.slice none 0 0)).run Tryz.prog w = .ok (.bool true) w := fun _ => by kernel_rfl
    go_enter Tryz.func80, Tryz.ntmps80
    go_wp2_with fail
    go_ret
    exact ⟨_, rfl, World.ownsRow_nil _ _ _ _, Below.refl _ _⟩
  · obtain ⟨a, rfl⟩ := Option.ne_none_iff_exists'.1 ho
    clear h0 ho
    have heq : ∀ w, (binOp .eql 76 (.slice (some a) n c) (.slice none 0 0)).run Tryz.prog w = .ok (.bool false) w := fun _ => by kernel_rfl
    go_enter Tryz.func80, Tryz.ntmps80
    go_wp2_with (at_builtin; refine wpList_append_flat rfl _ _ rfl Tryz.underlying76 size107 hi0 hz0 hz1 hz2 rfl (by decide) (by decide) w.heap.size 0 n (.slice (some ⟨w.heap.size, 0, none⟩) 0 0) (.slice (some a) n c) [] (l.flatMap plcCells) rfl rfl (owns_empty w 107 5) (by simp) (FlatAt.olds HF.out (Olds.alloc _ _)) HL.out one_plcCells (by omega) ?_; intro v1 w1 hown1 hgrow1 hat1; rw [Nat.zero_add, List.nil_append] at hown1; have Hown1 := Lib.hid hown1; have B1 : Hid (Below w.heap.size w w1) := Lib.hid (((Below.refl _ w).alloc (Nat.le_refl _) _).grown hgrow1 (by simp) (fun b hb => by cases hb; exact Nat.le_refl _)); clear hown1 hgrow1 hat1)
    go_ret
    exact ⟨_, rfl, Hown1.out, B1.out⟩


theorem bytes_conv {w : World} {v : Value} {bs : List Nat} (h : BytesAt w v bs) (hb : ∀ x ∈ bs, x < 256) : (convert 25 9 v).run Tryz.prog w = .ok (encStr (bs.map UInt8.ofNat)) w := by
  obtain ⟨o, c, rfl, h0, hc⟩ := h
  by_cases hne : octs bs = []
  · have hl : bs = [] := by
      have := congrArg List.length hne
      rw [octs_len] at this
      exact List.eq_nil_of_length_eq_zero this
    subst hl
    cases o with
    | none => exact run_convert_bytes_nil (P := Tryz.prog) w 25 5 Tryz.underlying25 Tryz.underlying5 0 c 9 Tryz.underlying9
    | some a => exact run_convert_bytes_back (P := Tryz.prog) w 25 9 5 a c [] Tryz.underlying25 Tryz.underlying5 Tryz.underlying9 fun j hj => absurd hj (by simp)
  · obtain ⟨b, off, rfl, hcell⟩ := hc hne
    have hl : bs.length = (bs.map UInt8.ofNat).length := by simp
    rw [hl]
    exact run_convert_bytes_back (P := Tryz.prog) w 25 9 5 ⟨b, off, none⟩ c (bs.map UInt8.ofNat) Tryz.underlying25 Tryz.underlying5 Tryz.underlying9 fun j hj => by
      have hj' : j < bs.length := by simpa using hj
      have h1 := hcell j (.int .u8 (bs[j] : Int)) (by simp [octs, hj'])
      rw [WideShapes.add_plain, h1]
      have h2 := hb _ (List.getElem_mem hj')
      simp [Nat.mod_eq_of_lt h2]

set_option maxRecDepth 20000 in
theorem equal_bytes (v u : Value) (bs : List Nat) (w : World) (hb : ∀ x ∈ bs, x < 256) (h1 : BytesAt w v bs) (h2 : BytesAt w u bs) : Calls Tryz.prog 76 #[v, u] w fun e w' => e = .returned (.bool true) ∧ w' = w := by
  have c1 := bytes_conv h1 hb
  have c2 := bytes_conv h2 hb
  go_enter Tryz.func76, Tryz.ntmps76
  go_wp2_with fail
  go_ret
  exact ⟨by simp, rfl⟩
end Go.Proofs.YtaoggppfimfhbaaGreatDoor
namespace Go.Proofs.YtaoggppfimfhbaaGreatDoor
open Go Go.RowKit Go.Ix


def PutEnd (W : World) (B : Nat) (v : Value) (bs : List Nat) (m : Nat) (e : Ending) (w' : World) : Prop :=
  ∃ o' c' bs', e = .returned (.slice o' bs'.length c') ∧ Row8 w' B (.slice o' bs'.length c') bs' ∧ (∀ x ∈ bs', x < 256) ∧ bs'.length ≤ bs.length + m ∧ Kept (fun b => b < W.heap.size ∧ v.ownBlock ≠ some b) W w' ∧
    (∀ b, (Value.slice o' bs'.length c').ownBlock = some b → v.ownBlock = some b ∨ W.heap.size ≤ b)

set_option maxRecDepth 20000 in
set_option maxHeartbeats 1000000 in
theorem lput_any {W : World} {B n c : Nat} {o : Option Addr} (bs : List Nat) (s : Txt) (hB : B ≤ W.heap.size) (h : Row8 W B (.slice o n c) bs) (hb : ∀ x ∈ bs, x < 256) (hn : bs.length = n) (hl : n ≤ 1000000000) (hs : s.length ≤ 1000000000) :
    Calls Tryz.prog 131 #[.slice o n c, encStr s] W (PutEnd W B (.slice o n c) bs (2 + s.length)) := by
  obtain ⟨i0, hi0, hz0, hz1, hz2⟩ := info_parts Tryz.info5
  have H := Lib.hid h
  have Hb := Lib.hid hb
  have Hn := Lib.hid hn
  clear h hb hn
  have hbl : bs.length = n := Hn.out
  go_enter Tryz.func131, Tryz.ntmps131
  go_wp2_with (first
    | (at_builtin; refine wpList_append_flat rfl _ _ rfl Tryz.underlying25 size5 hi0 hz0 hz1 hz2 rfl (by decide) (by decide) B n 2 (.slice o n c) (.slice (some ⟨W.heap.size, 0, none⟩) 2 2) (octs bs) [.int .u8 ((s.length : Int) % 256), .int .u8 ((s.length : Int) / 256 % 256)] rfl rfl (ownsRow_olds (by have h9 := H.out; unfold Row8 at h9; rw [Hn.out] at h9; exact h9) (Olds.alloc _ _)) (by simp; omega) (flat_new W [.int .u8 ((s.length : Int) % 256), .int .u8 ((s.length : Int) / 256 % 256)] 5 2) rfl (by simp [Value.oneCell']) (by omega) ?_; intro v1 w1 hown1 hgrow1 hat1; obtain ⟨o1, c1, rfl, _⟩ := ownsRow_shape hown1; have Hown1 := Lib.hid hown1; have Hgrow1 := Lib.hid hgrow1; have Hat1 := Lib.hid hat1; have hs1 := hgrow1.size; rw [World.size_alloc] at hs1; clear hown1 hgrow1 hat1)
    | (at_builtin; refine wpList_append_txt rfl _ _ rfl B (n + 2) (.slice o1 (n + 2) c1) s (octs bs ++ [.int .u8 ((s.length : Int) % 256), .int .u8 ((s.length : Int) / 256 % 256)]) rfl rfl Hown1.out (by omega) (by omega) ?_; intro v2 w2 hown2 hgrow2 hat2; obtain ⟨o2, c2, rfl, _⟩ := ownsRow_shape hown2; have Hown2 := Lib.hid hown2; have Hgrow2 := Lib.hid hgrow2; have Hat2 := Lib.hid hat2; clear hown2 hgrow2 hat2))
  go_ret
  have hlen : (bs ++ [s.length % 256, s.length / 256 % 256] ++ nums s).length = n + 2 + s.length := by simp [nums_len, Hn.out]; omega
  have hoct : octs (bs ++ [s.length % 256, s.length / 256 % 256] ++ nums s) = octs bs ++ [.int .u8 ((s.length : Int) % 256), .int .u8 ((s.length : Int) / 256 % 256)] ++ octs (nums s) := by
    rw [octs_append, octs_append]
    simp [octs]
  have hvb : ∀ b, (Value.slice o n c).ownBlock = some b → b < W.heap.size := fun b hb => (ownsRow_block H.out hb).2
  refine ⟨o2, c2, bs ++ [s.length % 256, s.length / 256 % 256] ++ nums s, by rw [hlen]; rfl, ?_, fun x hx => ?_, by rw [hlen, Hn.out]; omega, ?_, fun b hb => ?_⟩
  · unfold Row8
    rw [hlen, hoct]
    exact Hown2.out
  · rw [List.mem_append, List.mem_append] at hx
    rcases hx with (hx | hx) | hx
    · exact Hb.out x hx
    · simp only [List.mem_cons, List.not_mem_nil, or_false] at hx
      rcases hx with rfl | rfl <;> omega
    · exact nums_byte hx
  · have hk1 : Kept (fun b => b < W.heap.size ∧ (Value.slice o n c).ownBlock ≠ some b) W w1 := ((Kept.refl _ W).alloc (fun b hb => hb.1) _).grown Hgrow1.out (fun b hb => hb.1) (fun b hb hK => hK.2 hb)
    refine hk1.grown Hgrow2.out (fun b hb => hb.1) (fun b hb hK => ?_)
    rcases Hat1.out with e | e
    · exact hK.2 (e ▸ hb)
    · rw [e] at hb
      cases hb
      have := hK.1
      simp at this
      omega
  · rw [hlen] at hb
    rcases Hat2.out with e | e
    · rw [e] at hb
      rcases Hat1.out with e1 | e1
      · exact .inl (e1 ▸ hb)
      · rw [e1] at hb
        cases hb
        exact .inr (by simp)
    · rw [e] at hb
      cases hb
      exact .inr (by omega)

theorem enters131 : ∀ (args : Array Value) (w : World), (callFunc 131 args).run Tryz.prog w = .ok (.enter 131 args) w := enters_of Tryz.func131 (by kernel_rfl) rfl

set_option maxRecDepth 20000 in
set_option maxHeartbeats 2000000 in
theorem lencode_rows (o : Option Addr) (c n : Nat) (l : List Lbl) (w : World) (hn : l.length = n) (hck : check l = 0) (hc : Rows2 w o l) :
    Calls Tryz.prog 104 #[.slice o n c] w fun e w' => ∃ o' c' bs, e = .returned (.tuple #[.slice o' bs.length c', .int .u16 0]) ∧ BytesAt w' (.slice o' bs.length c') bs ∧ (∀ x ∈ bs, x < 256) ∧ bs.length ≤ 1000000 ∧ Below w.heap.size w w' := by
  obtain ⟨hn64, hlbl, _⟩ := of_check hck
  have Hlbl : Hid (∀ y ∈ l, y.1.length ≤ 1024 ∧ y.2.length ≤ 1024) := Lib.hid (fun y hy => ⟨(hlbl y hy).1.2.1, (hlbl y hy).2.2⟩)
  have HC := Lib.hid (pcheck_rows o c n l w hn (by omega) (fun y hy => by have := Hlbl.out y hy; omega) hc)
  rw [hck] at HC
  have Hc := Lib.hid hc
  have Hat : Hid (∀ k, k < n → ∃ y1 y2, l[k]? = some (y1, y2)) := Lib.hid (fun k hk => ⟨_, _, List.getElem?_eq_getElem (by rw [hn]; exact hk)⟩)
  have Hn := Lib.hid hn
  rw [hn] at hn64
  clear hc hn hck hlbl
  go_enter Tryz.func104, Tryz.ntmps104
  go_wp2_with (go_at_call 83; refine HC.out.mono ?_; clear HC; rintro e w1 ⟨rfl, hb1⟩; have B1 := Lib.hid hb1; have hs1 := hb1.size; clear hb1)
  have Hr1 : Hid (Row8 (w1.alloc (.cells #[.int .u8 (n : Nat)] 5)) w.heap.size (.slice (some ⟨w1.heap.size, 0, none⟩) 1 1) [n]) := Lib.hid ⟨by simp [octs], .inr ⟨w1.heap.size, 1, #[.int .u8 (n : Nat)], rfl, hs1, heap_alloc_new w1 _, Nat.le_refl _, by unfold maxLen; omega, by simp, by simp [octs]⟩⟩
  have B2 : Hid (Below w.heap.size w (w1.alloc (.cells #[.int .u8 (n : Nat)] 5))) := Lib.hid (B1.out.alloc hs1 _)
  generalize w1.alloc (.cells #[.int .u8 (n : Nat)] 5) = w2 at *
  generalize w1.heap.size = g1 at *
  go_loopw [5, 19] (fun bv iv wr => ∃ (k : Nat) (ob : Option Addr) (cb m : Nat) (bs : List Nat), k ≤ n ∧ iv = .int .i64 k ∧ bv = .slice ob m cb ∧ bs.length = m ∧ Row8 wr w.heap.size (.slice ob m cb) bs ∧ (∀ x ∈ bs, x < 256) ∧ m ≤ 1 + 2100 * k ∧ Below w.heap.size w wr) (fun _ iv _ => n - (intOf iv).toNat)
  case atStart => exact ⟨0, _, 1, 1, [n], Nat.zero_le _, rfl, rfl, rfl, Hr1.out, fun x hx => by simp at hx; omega, by omega, B2.out⟩
  case round =>
    obtain ⟨k, ob, cb, m, bs, hk, rfl, rfl, hbm, hrow, hbb, hmm, hbel⟩ := hrel
    have Hrow := Lib.hid hrow
    have Hbb := Lib.hid hbb
    have Hbel := Lib.hid hbel
    have Hbm := Lib.hid hbm
    have hws := hbel.size
    clear hrow hbb hbel hbm Hr1 B2
    by_cases hlt : k < n
    · obtain ⟨y1, y2, hyk⟩ := Hat.out k hlt
      obtain ⟨hy1, hy2⟩ := Hlbl.out _ (List.mem_of_getElem? hyk)
      obtain ⟨b, off, rfl, hcl⟩ := Hc.out (fun e => by rw [e] at hyk; simp at hyk)
      have hcl' := hcl.olds (Olds.of_below Hbel.out)
      have d0 := hcl'.elem (k := 2) (i := 0) (fun _ => rfl) hyk rfl
      have d1 := hcl'.elem (k := 2) (i := 1) (fun _ => rfl) hyk rfl
      rw [Nat.add_zero] at d0
      simp only at d0 d1 hy1 hy2
      clear hcl hcl' hyk
      have Hrow2 : Hid (Row8 (wr.alloc (.cells #[encStr y1, encStr y2] 84)).drew w.heap.size (.slice ob m cb) bs) := Lib.hid (ownsRow_olds Hrow.out ((Olds.alloc _ _).trans (Olds.drewN _ 1)))
      have HA : Hid ((wr.alloc (.cells #[encStr y1, encStr y2] 84)).heap[wr.heap.size]? = some (.cells #[encStr y1, encStr y2] 84 (0, 0))) := Lib.hid (heap_alloc_new wr _)
      have HP1 : Hid (Calls Tryz.prog 131 #[.slice ob m cb, encStr y1] (wr.alloc (.cells #[encStr y1, encStr y2] 84)).drew fun e w' => ∃ v, e = .returned v ∧ ∃ o4 c4 bs4, v = .slice o4 bs4.length c4 ∧ Row8 w' w.heap.size (.slice o4 bs4.length c4) bs4 ∧ (∀ x ∈ bs4, x < 256) ∧ bs4.length ≤ m + 1026 ∧ Below w.heap.size w w' ∧ w'.heap[wr.heap.size]? = some (.cells #[encStr y1, encStr y2] 84 (0, 0)) ∧ wr.heap.size < w'.heap.size ∧ (∀ b, (Value.slice o4 bs4.length c4).ownBlock = some b → b ≠ wr.heap.size)) := Lib.hid ((lput_any bs y1 (by show w.heap.size ≤ (wr.alloc _).heap.size; simp; omega) Hrow2.out Hbb.out Hbm.out (by omega) (by omega)).mono fun e w' h => by
        obtain ⟨o4, c4, bs4, rfl, q1, q2, q3, q4, q5⟩ := h
        have hz := q4.size
        have hz2 : (wr.alloc (.cells #[encStr y1, encStr y2] 84)).drew.heap.size = wr.heap.size + 1 := by show (wr.alloc _).heap.size = _; simp
        have hvb : ∀ b, (Value.slice ob m cb).ownBlock = some b → w.heap.size ≤ b ∧ b < wr.heap.size := fun b hb => ownsRow_block Hrow.out hb
        refine ⟨_, rfl, o4, c4, bs4, rfl, q1, q2, by rw [Hbm.out] at q3; omega, ?_, (q4.block _ ⟨by omega, fun e => by have := (hvb _ e).2; omega⟩).trans HA.out, by omega, fun b hb e => ?_⟩
        · have h1 : Below w.heap.size w (wr.alloc (.cells #[encStr y1, encStr y2] 84)).drew := (Hbel.out.alloc hws _).trans ⟨rfl, rfl, rfl, Nat.le_refl _, fun _ _ => rfl⟩
          exact h1.trans (q4.below fun b hb => ⟨by omega, fun e => by have := (hvb _ e).1; omega⟩)
        · rcases q5 b hb with h | h
          · have := (hvb _ h).2
            omega
          · omega)
      have HP2 : Hid (∀ (w4 : World) (o4 : Option Addr) (c4 : Nat) (bs4 : List Nat), Row8 w4 w.heap.size (.slice o4 bs4.length c4) bs4 → (∀ x ∈ bs4, x < 256) → bs4.length ≤ m + 1026 → Below w.heap.size w w4 → Calls Tryz.prog 131 #[.slice o4 bs4.length c4, encStr y2] w4 fun e w' => ∃ v, e = .returned v ∧ ∃ o5 c5 bs5, v = .slice o5 bs5.length c5 ∧ Row8 w' w.heap.size (.slice o5 bs5.length c5) bs5 ∧ (∀ x ∈ bs5, x < 256) ∧ bs5.length ≤ m + 2052 ∧ Below w.heap.size w w') := Lib.hid (fun w4 o4 c4 bs4 h1 h2 h3 h4 => (lput_any bs4 y2 (h4.size) h1 h2 rfl (by omega) (by omega)).mono fun e w' h => by
        obtain ⟨o5, c5, bs5, rfl, q1, q2, q3, q4, q5⟩ := h
        exact ⟨_, rfl, o5, c5, bs5, rfl, q1, q2, by omega, h4.trans (q4.below fun b hb => ⟨by have := h4.size; omega, fun e => by have := (ownsRow_block h1 e).1; omega⟩)⟩)
      have he0 : (wr.alloc (.cells #[encStr y1, encStr y2] 84)).drew.cell? ⟨wr.heap.size, 0, none⟩ = some (encStr y1) := by
        have h9 : (wr.alloc (.cells #[encStr y1, encStr y2] 84)).drew.heap[wr.heap.size]? = some (.cells #[encStr y1, encStr y2] 84 (0, 0)) := HA.out
        simp only [World.cell?, h9]
        rfl
      have he1 : (wr.alloc (.cells #[encStr y1, encStr y2] 84)).drew.cell? ⟨wr.heap.size, 1, none⟩ = some (encStr y2) := by
        have h9 : (wr.alloc (.cells #[encStr y1, encStr y2] 84)).drew.heap[wr.heap.size]? = some (.cells #[encStr y1, encStr y2] 84 (0, 0)) := HA.out
        simp only [World.cell?, h9]
        rfl
      clear Hrow2
      go_upto_region 8 with fail
      go_region_law
        (first
          | (refine step_call2 (by rfl) 131 _ _ _ _ (by rfl) _ _ (by rfl) (by rfl) enters131 HP1.out ?_; clear HP1; rintro v4 w4 ⟨o4, c4, bs4, rfl, q1, q2, q3, q4, q5, q6, q7⟩; have f0 : w4.cell? ⟨wr.heap.size, 0, none⟩ = some (encStr y1) := (by simp [World.cell?, q5]); have f1 : w4.cell? ⟨wr.heap.size, 1, none⟩ = some (encStr y2) := (by simp [World.cell?, q5]); have HQ := Lib.hid (HP2.out w4 o4 c4 bs4 q1 q2 q3 q4); clear q1 q2 q3 q4 q5 q6 q7)
          | (refine step_call2 (by rfl) 131 _ _ _ _ (by rfl) _ _ (by rfl) (by rfl) enters131 HQ.out ?_; clear HQ; rintro v5 w5 ⟨o5, c5, bs5, rfl, q1, q2, q3, q4⟩; have Hq1 := Lib.hid q1; have Hq2 := Lib.hid q2; have Hq4 := Lib.hid q4; clear q1 q2 q4))
      all_goals
        go_wp2_with fail
        go_roundw
        case rel => exact ⟨k + 1, o5, c5, bs5.length, bs5, by omega, by go_num, rfl, rfl, Hq1.out, Hq2.out, by omega, Hq4.out⟩
        case measure => simp [intOf]; omega
    · go_wp2_with fail
      refine bodyPost_ret (results_tmp2 rfl _ _ _) rfl ?_
      refine ⟨ob, cb, bs, by rw [Hbm.out]; rfl, ?_, Hbb.out, by rw [Hbm.out]; omega, Hbel.out⟩
      have h9 := Hrow.out
      unfold Row8 at h9
      rw [Hbm.out] at h9
      have h10 := owns_flat h9
      unfold BytesAt
      rw [Hbm.out]
      exact h10
end Go.Proofs.YtaoggppfimfhbaaGreatDoor
namespace Go.Proofs.YtaoggppfimfhbaaGreatDoor
open Go Go.RowKit Go.Ix Go.Maps

theorem zero251 (w : World) : (zeroValue 251).run Tryz.prog w = .ok (.map none) w := by kernel_rfl


def TMap (w : World) (b n : Nat) (F : Txt → Option Value) : Prop :=
  ∃ D : DataW Value, w.ownsMap Tryz.prog 9 RV b n D ∧ ∀ s, (F s = none → has D (.string s) = false) ∧ ∀ v, F s = some v → ∀ z, D.atKey (.string s) z = .held v

theorem TMap.made (w : World) : TMap (w.alloc (.map #[] 0)) w.heap.size 0 fun _ => none :=
  ⟨.map [], World.ownsMap_made w _ _ _, fun s => ⟨fun _ => by simp [has], fun v h => by cases h⟩⟩
theorem TMap.lt {w : World} {b n : Nat} {F : Txt → Option Value} (h : TMap w b n F) : b < w.heap.size := by
  obtain ⟨D, h, _⟩ := h
  exact h.lt
theorem TMap.block {w W : World} {b n : Nat} {F : Txt → Option Value} (h : TMap w b n F) (hb : W.heap[b]? = w.heap[b]?) : TMap W b n F := by
  obtain ⟨D, ⟨es, clock, h1, h2⟩, h3⟩ := h
  exact ⟨D, ⟨es, clock, hb.trans h1, h2⟩, h3⟩
theorem TMap.kind {w : World} {b n : Nat} {F : Txt → Option Value} (h : TMap w b n F) : ∃ es c, w.heap[b]? = some (.map es c) := by
  obtain ⟨D, ⟨es, clock, h1, _⟩, _⟩ := h
  exact ⟨es, clock, h1⟩

theorem TMap.look {w : World} {b n : Nat} {F : Txt → Option Value} (h : TMap w b n F) {t e : TypeId} {z : Value} (ht : Tryz.prog.underlying t = some (.map 9 e)) (hz : (zeroValue e).run Tryz.prog w = .ok z w) {s : Txt} (hs : s.length ≤ 1000000000) :
    (Instr.lookup t (.map (some b)) (encStr s) false).run Tryz.prog w = .ok ((F s).getD z) w ∧ (Instr.lookup t (.map (some b)) (encStr s) true).run Tryz.prog w = .ok (.tuple #[(F s).getD z, .bool (F s).isSome]) w := by
  obtain ⟨D, hown, hD⟩ := h
  obtain ⟨v, ps, hr, hv⟩ := hown.lookup (t := t) (e := e) Tryz.lawT ht hz (zd := .held z) (zp := []) rfl (keyT s hs)
  obtain ⟨v', ps', hr', hv'⟩ := hown.look_ok (t := t) (e := e) Tryz.lawT ht hz (zd := .held z) (zp := []) rfl (keyT s hs)
  obtain ⟨h1, h2⟩ := hD s
  cases hF : F s with
  | none =>
    have hno := h1 hF
    rw [atKey_of_not_has hno] at hv hv'
    simp only [RV, Option.some.injEq, Prod.mk.injEq, DataW.held.injEq] at hv hv'
    rw [hr, hr', hv.1, hv'.1, hno]
    exact ⟨rfl, rfl⟩
  | some u =>
    have hat := h2 u hF
    rw [hat] at hv hv'
    simp only [RV, Option.some.injEq, Prod.mk.injEq, DataW.held.injEq] at hv hv'
    rw [hr, hr', hv.1, hv'.1, has_true_of_atKey hat]
    exact ⟨rfl, rfl⟩

theorem TMap.store {w : World} {b n : Nat} {F : Txt → Option Value} (h : TMap w b n F) {t e : TypeId} (ht : Tryz.prog.underlying t = some (.map 9 e)) {s : Txt} (hs : s.length ≤ 1000000000) (hn : n < 1000000000) (v : Value) :
    ∃ w', (Instr.mapUpdate t (.map (some b)) (encStr s) v).run Tryz.prog w = .ok () w' ∧ TMap w' b (n + 1) (fun x => if x = s then some v else F x) ∧ w.grownBy w' (some b) := by
  obtain ⟨D, hown, hD⟩ := h
  obtain ⟨w', h1, h2, h3⟩ := hown.update (t := t) (e := e) Tryz.lawT ht (by unfold maxLen; omega) (keyT s hs) (val := v) (d := .held v) (ps := []) rfl
  refine ⟨w', h1, ⟨_, h2, fun x => ?_⟩, h3⟩
  by_cases hx : x = s
  · subst hx
    refine ⟨fun h => by simp at h, fun u hu z => ?_⟩
    simp only [if_true] at hu
    cases hu
    exact atKey_put_same hown.isMap (k := .string x) trivial _ _
  · have hne : (Lit.string x) ≠ Lit.string s := fun e => hx (by cases e; rfl)
    obtain ⟨a1, a2⟩ := hD x
    refine ⟨fun h => ?_, fun u hu z => ?_⟩
    · dsimp only at h
      rw [if_neg hx] at h
      rw [has_put_other hne]
      exact a1 h
    · dsimp only at hu
      rw [if_neg hx] at hu
      rw [atKey_put_other hne]
      exact a2 u hu z


structure PI (w : World) (base ib t : Nat) (lv : Value) (mk mo : Nat) (K : Txt → Option Value) (M : Txt → Option Nat) (V : Txt → Txt → Option Value) : Prop where
  cell : w.heap[ib]? = some (.cells #[lv, .map (some mk), .map (some mo)] 248 (0, 0))
  bib : base ≤ ib
  bmk : base ≤ mk
  bmo : base ≤ mo
  row : ∃ nl xs, w.ownsRow base 75 1 lv nl xs ∧ nl ≤ t
  known : (∃ nk, TMap w mk nk K ∧ nk ≤ t) ∧ ∀ s v, K s = some v → ∃ z, v = .int .i64 z
  outer : ∃ no, TMap w mo no (fun s => (M s).map fun m => .map (some m)) ∧ no ≤ t
  inner : ∀ s m, M s = some m → base ≤ m ∧ m ≠ mk ∧ m ≠ mo ∧ ∃ nm, TMap w m nm (V s) ∧ nm ≤ t
  rows : ∀ s m, M s = some m → ∀ v r, V s v = some r → ∃ n xs, w.ownsRow base 3 1 r n xs ∧ n ≤ t
  inj : ∀ s s' m, M s = some m → M s' = some m → s = s'
  two : mk ≠ mo
  apart : ∀ s v s' v' r r', (s, v) ≠ (s', v') → (M s).isSome → (M s').isSome → V s v = some r → V s' v' = some r' → ∀ g, r.ownBlock = some g → r'.ownBlock ≠ some g


theorem PI.keep {w W : World} {base ib t : Nat} {lv : Value} {mk mo : Nat} {K : Txt → Option Value} {M : Txt → Option Nat} {V : Txt → Txt → Option Value} (h : PI w base ib t lv mk mo K M V) (hb : ∀ b, base ≤ b → b < w.heap.size → W.heap[b]? = w.heap[b]?) : PI W base ib t lv mk mo K M V := by
  have hrow : ∀ {e k n : Nat} {v : Value} {xs : List Value}, w.ownsRow base e k v n xs → W.ownsRow base e k v n xs := fun hr => ownsRow_blocks hr fun b hg => hb b (ownsRow_block hr hg).1 (ownsRow_block hr hg).2
  have hmap : ∀ {b n : Nat} {F : Txt → Option Value}, TMap w b n F → base ≤ b → TMap W b n F := fun hm hbb => hm.block (hb _ hbb hm.lt)
  obtain ⟨a1, a2, a3, a4, ⟨nl, xs, a5, a6⟩, ⟨⟨nk, a7, a8⟩, a9⟩, ⟨no, b1, b2⟩, b3, b4, b5, b6, b7⟩ := h
  exact ⟨(hb ib a2 (Array.getElem?_eq_some_iff.1 a1).1).trans a1, a2, a3, a4, ⟨nl, xs, hrow a5, a6⟩, ⟨⟨nk, hmap a7 a3, a8⟩, a9⟩, ⟨no, hmap b1 a4, b2⟩,
    fun s m hm => by
      obtain ⟨c1, c2, c3, nm, c4, c5⟩ := b3 s m hm
      exact ⟨c1, c2, c3, nm, hmap c4 c1, c5⟩,
    fun s m hm v r hr => by
      obtain ⟨n, xs, c1, c2⟩ := b4 s m hm v r hr
      exact ⟨n, xs, hrow c1, c2⟩, b5, b6, b7⟩
theorem PI.olds {w W : World} {base ib t : Nat} {lv : Value} {mk mo : Nat} {K : Txt → Option Value} {M : Txt → Option Nat} {V : Txt → Txt → Option Value} (h : PI w base ib t lv mk mo K M V) (hb : Olds w W) : PI W base ib t lv mk mo K M V := h.keep fun b _ hlt => hb.2 b hlt
theorem PI.more {w : World} {base ib t t' : Nat} {lv : Value} {mk mo : Nat} {K : Txt → Option Value} {M : Txt → Option Nat} {V : Txt → Txt → Option Value} (h : PI w base ib t lv mk mo K M V) (ht : t ≤ t') : PI w base ib t' lv mk mo K M V := by
  obtain ⟨a1, a2, a3, a4, ⟨nl, xs, a5, a6⟩, ⟨⟨nk, a7, a8⟩, a9⟩, ⟨no, b1, b2⟩, b3, b4, b5, b6, b7⟩ := h
  exact ⟨a1, a2, a3, a4, ⟨nl, xs, a5, by omega⟩, ⟨⟨nk, a7, by omega⟩, a9⟩, ⟨no, b1, by omega⟩,
    fun s m hm => by
      obtain ⟨c1, c2, c3, nm, c4, c5⟩ := b3 s m hm
      exact ⟨c1, c2, c3, nm, c4, by omega⟩,
    fun s m hm v r hr => by
      obtain ⟨n, xs, c1, c2⟩ := b4 s m hm v r hr
      exact ⟨n, xs, c1, by omega⟩, b5, b6, b7⟩


theorem row_not_map {w : World} {B e k n : Nat} {v : Value} {xs : List Value} (h : w.ownsRow B e k v n xs) {b : Nat} {es : Array MapEntry} {c : Nat} (hm : w.heap[b]? = some (.map es c)) : v.ownBlock ≠ some b := fun e => by
  obtain ⟨cur, h1⟩ := own_kind h e
  rw [hm] at h1
  cases h1


theorem PI.knew {w W : World} {base ib t : Nat} {lv : Value} {mk mo nk : Nat} {K K' : Txt → Option Value} {M : Txt → Option Nat} {V : Txt → Txt → Option Value} (h : PI w base ib t lv mk mo K M V) (hg : w.grownBy W (some mk)) (hk : TMap W mk nk K') (hn : nk ≤ t) (hi : ∀ s v, K' s = some v → ∃ z, v = .int .i64 z) : PI W base ib t lv mk mo K' M V := by
  obtain ⟨a1, a2, a3, a4, ⟨nl, xs, a5, a6⟩, ⟨⟨nk0, a7, a8⟩, a9⟩, ⟨no, b1, b2⟩, b3, b4, b5, b6, b7⟩ := h
  obtain ⟨es, c, hmap⟩ := a7.kind
  have hother : ∀ b, b < w.heap.size → b ≠ mk → W.heap[b]? = w.heap[b]? := fun b hb hne => hg.block b hb (fun e => hne (by cases e; rfl))
  have hrow : ∀ {e k n : Nat} {v : Value} {xs : List Value}, w.ownsRow base e k v n xs → W.ownsRow base e k v n xs := fun hr => ownsRow_blocks hr fun b hgb => hother b (ownsRow_block hr hgb).2 (fun e => row_not_map hr hmap (e ▸ hgb))
  have hib : ib ≠ mk := fun e => by rw [e, hmap] at a1; cases a1
  exact ⟨(hother ib (Array.getElem?_eq_some_iff.1 a1).1 hib).trans a1, a2, a3, a4, ⟨nl, xs, hrow a5, a6⟩, ⟨⟨nk, hk, hn⟩, hi⟩, ⟨no, b1.block (hother mo b1.lt (fun e => b6 e.symm)), b2⟩,
    fun s m hm => by
      obtain ⟨c1, c2, c3, nm, c4, c5⟩ := b3 s m hm
      exact ⟨c1, c2, c3, nm, c4.block (hother m c4.lt c2), c5⟩,
    fun s m hm v r hr => by
      obtain ⟨n, xs, c1, c2⟩ := b4 s m hm v r hr
      exact ⟨n, xs, hrow c1, c2⟩, b5, b6, b7⟩


theorem PI.laid {w w1 W : World} {base ib t n gg cap : Nat} {lv : Value} {xs : List Value} {mk mo : Nat} {K : Txt → Option Value} {M : Txt → Option Nat} {V : Txt → Txt → Option Value} (h : PI w base ib t lv mk mo K M V) (ho : Olds w w1) (hg : w1.grownBy W lv.ownBlock)
    (hown : W.ownsRow base 75 1 (.slice (some ⟨gg, 0, none⟩) n cap) n xs) (hn : n ≤ t) : PI (W.setCell ⟨ib, 0, none⟩ (.slice (some ⟨gg, 0, none⟩) n cap)) base ib t (.slice (some ⟨gg, 0, none⟩) n cap) mk mo K M V := by
  obtain ⟨a1, a2, a3, a4, ⟨nl, xs0, a5, a6⟩, ⟨⟨nk, a7, a8⟩, a9⟩, ⟨no, b1, b2⟩, b3, b4, b5, b6, b7⟩ := h
  have hib := (Array.getElem?_eq_some_iff.1 a1).1
  have hW : ∀ b, b < w.heap.size → lv.ownBlock ≠ some b → W.heap[b]? = w.heap[b]? := fun b hb hne => (hg.block b (by have := ho.1; omega) (fun e => hne e.symm)).trans (ho.2 b hb)
  have hset : ∀ b, b < w.heap.size → lv.ownBlock ≠ some b → b ≠ ib → (W.setCell ⟨ib, 0, none⟩ (.slice (some ⟨gg, 0, none⟩) n cap)).heap[b]? = w.heap[b]? := fun b hb hne hi => (Below.heap_setCell _ _ _ _ hi).trans (hW b hb hne)
  have hlib : lv.ownBlock ≠ some ib := fun e => by
    obtain ⟨cur, q⟩ := own_kind a5 e
    rw [a1] at q
    simp at q
  have hWib := (hW ib hib hlib).trans a1
  have hgg : gg ≠ ib := fun e => by
    obtain ⟨cur, q⟩ := own_kind hown (g := gg) rfl
    rw [e, hWib] at q
    simp at q
  refine ⟨by simp [World.setCell, Array.getElem?_modify, hWib], a2, a3, a4, ⟨n, xs, ownsRow_blocks hown fun b hb => by cases hb; exact Below.heap_setCell _ _ _ _ hgg, hn⟩, ⟨⟨nk, ?_, a8⟩, a9⟩, ⟨no, ?_, b2⟩, fun s m hm => ?_, fun s m hm v r hr => ?_, b5, b6, b7⟩
  · obtain ⟨es, c, hk⟩ := a7.kind
    exact a7.block (hset mk a7.lt (row_not_map a5 hk) (fun e => by rw [e, a1] at hk; cases hk))
  · obtain ⟨es, c, hk⟩ := b1.kind
    exact b1.block (hset mo b1.lt (row_not_map a5 hk) (fun e => by rw [e, a1] at hk; cases hk))
  · obtain ⟨c1, c2, c3, nm, c4, c5⟩ := b3 s m hm
    obtain ⟨es, c, hk⟩ := c4.kind
    exact ⟨c1, c2, c3, nm, c4.block (hset m c4.lt (row_not_map a5 hk) (fun e => by rw [e, a1] at hk; cases hk)), c5⟩
  · obtain ⟨n', xs', c1, c2⟩ := b4 s m hm v r hr
    refine ⟨n', xs', ownsRow_blocks c1 fun b hb => hset b (ownsRow_block c1 hb).2 (fun e => own_apart a5 c1 (by decide) e hb) (fun e => ?_), c2⟩
    obtain ⟨cur, q⟩ := own_kind c1 hb
    rw [e, a1] at q
    simp at q


theorem PI.named {w W : World} {base ib t no' : Nat} {lv : Value} {mk mo : Nat} {K : Txt → Option Value} {M : Txt → Option Nat} {V : Txt → Txt → Option Value} {s : Txt} (h : PI w base ib t lv mk mo K M V) (hs : M s = none) (hbase : base ≤ w.heap.size) (hg : (w.alloc (.map #[] 0)).grownBy W (some mo))
    (hmo : TMap W mo no' (fun x => if x = s then some (.map (some w.heap.size)) else (M x).map fun m => .map (some m))) (hn : no' ≤ t) :
    PI W base ib t lv mk mo K (fun x => if x = s then some w.heap.size else M x) (fun x => if x = s then fun _ => none else V x) := by
  obtain ⟨a1, a2, a3, a4, ⟨nl, xs0, a5, a6⟩, ⟨⟨nk, a7, a8⟩, a9⟩, ⟨no, b1, b2⟩, b3, b4, b5, b6, b7⟩ := h
  obtain ⟨es, c, hk⟩ := b1.kind
  have hold : ∀ b, b < w.heap.size → b ≠ mo → W.heap[b]? = w.heap[b]? := fun b hb hne => (hg.block b (by simp; omega) (fun e => hne (by cases e; rfl))).trans (Below.heap_alloc _ _ b hb)
  have hrow : ∀ {e k n : Nat} {v : Value} {xs : List Value}, w.ownsRow base e k v n xs → W.ownsRow base e k v n xs := fun hr => ownsRow_blocks hr fun b hgb => hold b (ownsRow_block hr hgb).2 (fun e => row_not_map hr hk (e ▸ hgb))
  have hmol := b1.lt
  have hmkl := a7.lt
  have hnew : TMap W w.heap.size 0 fun _ => none := (TMap.made w).block (hg.block w.heap.size (by simp) (fun e => by cases e; omega))
  have hMne : ∀ x m, M x = some m → x ≠ s := fun x m hx e => by rw [e, hs] at hx; cases hx
  have hMlt : ∀ x m, M x = some m → m < w.heap.size := fun x m hx => by
    obtain ⟨_, _, _, nm, c4, _⟩ := b3 x m hx
    exact c4.lt
  refine ⟨(hold ib (Array.getElem?_eq_some_iff.1 a1).1 (fun e => by rw [e, hk] at a1; cases a1)).trans a1, a2, a3, a4, ⟨nl, xs0, hrow a5, a6⟩, ⟨⟨nk, a7.block (hold mk hmkl b6), a8⟩, a9⟩, ⟨no', ?_, hn⟩, fun x m hm => ?_, fun x m hm v r hr => ?_, fun x x' m hm hm' => ?_, b6, fun x v x' v' r r' hne h1 h2 hr hr' => ?_⟩
  · have e : (fun x => Option.map (fun m => Value.map (some m)) (if x = s then some w.heap.size else M x)) = fun x => if x = s then some (.map (some w.heap.size)) else (M x).map fun m => .map (some m) := by
      funext x
      by_cases hx : x = s <;> simp [hx]
    rw [e]
    exact hmo
  · by_cases hx : x = s
    · simp only [hx, if_true, Option.some.injEq] at hm ⊢
      subst hm
      exact ⟨hbase, by omega, by omega, 0, hnew, Nat.zero_le _⟩
    · simp only [hx, if_false] at hm ⊢
      obtain ⟨c1, c2, c3, nm, c4, c5⟩ := b3 x m hm
      exact ⟨c1, c2, c3, nm, c4.block (hold m c4.lt c3), c5⟩
  · by_cases hx : x = s
    · simp [hx] at hr
    · simp only [hx, if_false] at hm hr
      obtain ⟨n', xs', c1, c2⟩ := b4 x m hm v r hr
      exact ⟨n', xs', hrow c1, c2⟩
  · by_cases hx : x = s <;> by_cases hx' : x' = s
    · rw [hx, hx']
    · simp only [hx, hx', if_true, if_false, Option.some.injEq] at hm hm'
      have := hMlt x' m hm'
      omega
    · simp only [hx, hx', if_true, if_false, Option.some.injEq] at hm hm'
      have := hMlt x m hm
      omega
    · simp only [hx, hx', if_false] at hm hm'
      exact b5 x x' m hm hm'
  · by_cases hx : x = s
    · simp [hx] at hr
    · by_cases hx' : x' = s
      · simp [hx'] at hr'
      · simp only [hx, hx', if_false] at h1 h2 hr hr'
        exact b7 x v x' v' r r' hne h1 h2 hr hr'


theorem PI.put {w w1 w2 W : World} {base ib t n n' m : Nat} {lv r1 : Value} {xs : List Value} {mk mo : Nat} {K : Txt → Option Value} {M : Txt → Option Nat} {V : Txt → Txt → Option Value} {s v : Txt} (h : PI w base ib t lv mk mo K M V) (hs : M s = some m) (ho : Olds w w1)
    (hg1 : w1.grownBy w2 ((V s v).getD (.slice none 0 0)).ownBlock) (hown : w2.ownsRow base 3 1 r1 n xs) (hn : n ≤ t) (hat : r1.ownBlock = ((V s v).getD (.slice none 0 0)).ownBlock ∨ ∃ g, r1.ownBlock = some g ∧ w1.heap.size ≤ g)
    (hg2 : w2.grownBy W (some m)) (hm : TMap W m n' (fun x => if x = v then some r1 else V s x)) (hn' : n' ≤ t) :
    PI W base ib t lv mk mo K M (fun x => if x = s then fun y => if y = v then some r1 else V s y else V x) := by
  obtain ⟨a1, a2, a3, a4, ⟨nl, xs0, a5, a6⟩, ⟨⟨nk, a7, a8⟩, a9⟩, ⟨no, b1, b2⟩, b3, b4, b5, b6, b7⟩ := h
  obtain ⟨d1, d2, d3, nm0, d4, d5⟩ := b3 s m hs
  obtain ⟨esm, cm, hkm⟩ := d4.kind
  have hso := ho.1
  have hsz2 := hg1.size
  have h0 : ∀ g, ((V s v).getD (.slice none 0 0)).ownBlock = some g → V s v = some ((V s v).getD (.slice none 0 0)) := fun g hg => by
    cases hV : V s v with
    | none => rw [hV] at hg; cases hg
    | some r => rfl
  have hrow0 : ∀ g, ((V s v).getD (.slice none 0 0)).ownBlock = some g → ∃ n xs, w.ownsRow base 3 1 ((V s v).getD (.slice none 0 0)) n xs ∧ n ≤ t := fun g hg => b4 s m hs v _ (h0 g hg)
  have hold : ∀ b, b < w.heap.size → ((V s v).getD (.slice none 0 0)).ownBlock ≠ some b → b ≠ m → W.heap[b]? = w.heap[b]? := fun b hb hne hbm => (hg2.block b (by omega) (fun e => hbm (by cases e; rfl))).trans ((hg1.block b (by omega) (fun e => hne e.symm)).trans (ho.2 b hb))
  have hmapb : ∀ {b n : Nat} {F : Txt → Option Value}, TMap w b n F → b ≠ m → TMap W b n F := fun {b n F} hmm hbm => by
    obtain ⟨es, c, hk⟩ := hmm.kind
    refine hmm.block (hold b hmm.lt (fun e => ?_) hbm)
    obtain ⟨n0, xs0, q, _⟩ := hrow0 b e
    exact row_not_map q hk e
  have hcell : ∀ {e k n : Nat} {u : Value} {xs : List Value}, w.ownsRow base e k u n xs → e ≠ 3 → W.ownsRow base e k u n xs := fun hr he => ownsRow_blocks hr fun b hb => hold b (ownsRow_block hr hb).2 (fun e => by
    obtain ⟨n0, xs0, q, _⟩ := hrow0 b e
    exact own_apart hr q he hb e) (fun e => row_not_map hr hkm (e ▸ hb))
  have hr1W : W.ownsRow base 3 1 r1 n xs := ownsRow_blocks hown fun b hb => hg2.block b (ownsRow_block hown hb).2 (fun e => by
    cases e
    have hm2 : w2.heap[m]? = some (.map esm cm) := (hg1.block m (by have := d4.lt; omega) (fun e => by
      obtain ⟨n0, xs0, q, _⟩ := hrow0 m e.symm
      exact row_not_map q hkm e.symm)).trans ((ho.2 m d4.lt).trans hkm)
    exact row_not_map hown hm2 hb)
  have hothers : ∀ x mx y r, M x = some mx → V x y = some r → (x, y) ≠ (s, v) → ∀ g, r.ownBlock = some g → ((V s v).getD (.slice none 0 0)).ownBlock ≠ some g := fun x mx y r hx hr hne g hg e => by
    have h9 := h0 g e
    exact b7 s v x y _ r (fun e2 => hne e2.symm) (by rw [hs]; rfl) (by rw [hx]; rfl) h9 hr g e hg
  refine ⟨(hold ib (Array.getElem?_eq_some_iff.1 a1).1 (fun e => ?_) (fun e => by rw [e, hkm] at a1; cases a1)).trans a1, a2, a3, a4, ⟨nl, xs0, hcell a5 (by decide), a6⟩, ⟨⟨nk, hmapb a7 (fun e => d2 e.symm), a8⟩, a9⟩, ⟨no, hmapb b1 (fun e => d3 e.symm), b2⟩, fun x mx hx => ?_, fun x mx hx y r hr => ?_, b5, b6, fun x y x' y' r r' hne hx hx' hr hr' => ?_⟩
  · obtain ⟨n0, xs0, q, _⟩ := hrow0 ib e
    obtain ⟨cur, q2⟩ := own_kind q e
    rw [a1] at q2
    simp at q2
  · by_cases hxs : x = s
    · subst hxs
      rw [hs] at hx
      cases hx
      simp only [if_true]
      exact ⟨d1, d2, d3, n', hm, hn'⟩
    · simp only [hxs, if_false]
      obtain ⟨c1, c2, c3, nm, c4, c5⟩ := b3 x mx hx
      exact ⟨c1, c2, c3, nm, hmapb c4 (fun e => hxs (b5 x s m (e ▸ hx) hs)), c5⟩
  · have old : V x y = some r → (x, y) ≠ (s, v) → ∃ n xs, W.ownsRow base 3 1 r n xs ∧ n ≤ t := fun hr hne => by
      obtain ⟨n0, xs0, q, q2⟩ := b4 x mx hx y r hr
      exact ⟨n0, xs0, ownsRow_blocks q fun b hb => hold b (ownsRow_block q hb).2 (hothers x mx y r hx hr hne b hb) (fun e => row_not_map q hkm (e ▸ hb)), q2⟩
    by_cases hxs : x = s
    · subst hxs
      simp only [if_true] at hr
      by_cases hyv : y = v
      · simp only [hyv, if_true, Option.some.injEq] at hr
        subst hr
        exact ⟨n, xs, hr1W, hn⟩
      · simp only [hyv, if_false] at hr
        exact old hr (fun e => hyv (Prod.mk.inj e).2)
    · simp only [hxs, if_false] at hr
      exact old hr (fun e => hxs (Prod.mk.inj e).1)
  ·
    obtain ⟨mx, hxm⟩ := Option.isSome_iff_exists.1 hx
    obtain ⟨mx', hxm'⟩ := Option.isSome_iff_exists.1 hx'
    have back : ∀ a b q, (if a = s then fun y => if y = v then some r1 else V s y else V a) b = some q → ((a, b) = (s, v) ∧ q = r1) ∨ ((a, b) ≠ (s, v) ∧ V a b = some q) := fun a b q hq => by
      by_cases ha : a = s
      · subst ha
        simp only [if_true] at hq
        by_cases hb : b = v
        · simp only [hb, if_true, Option.some.injEq] at hq
          exact .inl ⟨by rw [hb], hq.symm⟩
        · simp only [hb, if_false] at hq
          exact .inr ⟨fun e => hb (Prod.mk.inj e).2, hq⟩
      · simp only [ha, if_false] at hq
        exact .inr ⟨fun e => ha (Prod.mk.inj e).1, hq⟩
    have newrow : ∀ a b q ma, M a = some ma → V a b = some q → (a, b) ≠ (s, v) → ∀ g, q.ownBlock = some g → r1.ownBlock ≠ some g := fun a b q ma ha hq hne g hg e => by
      rcases hat with h1 | ⟨g', h1, h2⟩
      · exact hothers a ma b q ha hq hne g hg (h1 ▸ e)
      · rw [h1] at e
        cases e
        obtain ⟨n0, xs0, q0, _⟩ := b4 a ma ha b q hq
        have := (ownsRow_block q0 hg).2
        omega
    intro g hg e
    rcases back x y r hr with ⟨e1, rfl⟩ | ⟨e1, q1⟩ <;> rcases back x' y' r' hr' with ⟨e2, rfl⟩ | ⟨e2, q2⟩
    · exact hne (e1.trans e2.symm)
    · exact newrow x' y' r' mx' hxm' q2 e2 g e hg
    · exact newrow x y r mx hxm q1 e1 g hg e
    · exact b7 x y x' y' r r' hne hx hx' q1 q2 g hg e
end Go.Proofs.YtaoggppfimfhbaaGreatDoor
namespace Go.Proofs.YtaoggppfimfhbaaGreatDoor
open Go Go.RowKit Go.Ix Go.Maps

def Spare (W X : World) : Prop := ∀ (b : Nat) (cs : Array Value) (ty : TypeId) (fr : Nat × Nat), W.heap[b]? = some (.cells cs ty fr) → ty ≠ 75 → ty ≠ 3 → ty ≠ 248 → X.heap[b]? = W.heap[b]?
structure Bel (base : Nat) (W X : World) : Prop where
  bel : Below base W X
  spare : Spare W X

section
variable {base : Nat} {W X Y : World}
theorem Bel.size (h : Bel base W X) : W.heap.size ≤ X.heap.size := h.bel.size
theorem Bel.more (h : Bel base W X) (hb : base ≤ X.heap.size) (ho : Below X.heap.size X Y) : Bel base W Y := ⟨h.bel.trans (ho.mono hb), fun b cs ty fr hc h1 h2 h3 => by
  have q := h.spare b cs ty fr hc h1 h2 h3
  exact (ho.block b (Array.getElem?_eq_some_iff.1 (q.trans hc)).1).trans q⟩
theorem Bel.drew (h : Bel base W X) : Bel base W X.drew := ⟨h.bel.drew, h.spare⟩
theorem Bel.alloc (h : Bel base W X) (hb : base ≤ X.heap.size) (o : Obj) : Bel base W (X.alloc o) := h.more hb ((Below.refl _ X).alloc (Nat.le_refl _) o)
theorem Bel.map (h : Bel base W X) (hb : base ≤ X.heap.size) {m : Nat} (hg : X.grownBy Y (some m)) (hm : base ≤ m) (hk : ∃ es c, X.heap[m]? = some (.map es c)) : Bel base W Y := ⟨h.bel.grown hg hb (fun b e => by cases e; exact hm), fun b cs ty fr hc h1 h2 h3 => by
  have q := h.spare b cs ty fr hc h1 h2 h3
  have q2 := q.trans hc
  refine (hg.block b (Array.getElem?_eq_some_iff.1 q2).1 (fun e => ?_)).trans q
  obtain ⟨es, c, hk⟩ := hk
  cases e
  rw [hk] at q2
  cases q2⟩
theorem Bel.row (h : Bel base W X) (hb : base ≤ X.heap.size) {e k n : Nat} {v : Value} {xs : List Value} (hr : X.ownsRow base e k v n xs) (he : e = 75 ∨ e = 3) (hg : X.grownBy Y v.ownBlock) : Bel base W Y := ⟨h.bel.grown hg hb (fun b e => (ownsRow_block hr e).1), fun b cs ty fr hc h1 h2 h3 => by
  have q := h.spare b cs ty fr hc h1 h2 h3
  have q2 := q.trans hc
  refine (hg.block b (Array.getElem?_eq_some_iff.1 q2).1 (fun e' => ?_)).trans q
  obtain ⟨cur, hk⟩ := own_kind hr e'.symm
  rw [hk] at q2
  simp only [Option.some.injEq, Obj.cells.injEq] at q2
  rcases he with rfl | rfl
  · exact h1 q2.2.1.symm
  · exact h2 q2.2.1.symm⟩
theorem Bel.cell (h : Bel base W X) {ib : Nat} {cs : Array Value} {fr : Nat × Nat} (hc : X.heap[ib]? = some (.cells cs 248 fr)) (hib : base ≤ ib) (i : Nat) (v : Value) : Bel base W (X.setCell ⟨ib, i, none⟩ v) := ⟨h.bel.setCell hib _, fun b cs' ty fr' hc' h1 h2 h3 => by
  have q := h.spare b cs' ty fr' hc' h1 h2 h3
  have q2 := q.trans hc'
  refine (Below.heap_setCell _ _ _ _ (fun e => ?_)).trans q
  have e2 : b = ib := e
  subst e2
  rw [hc] at q2
  simp only [Option.some.injEq, Obj.cells.injEq] at q2
  exact h3 q2.2.1.symm⟩
theorem Bel.of (h : Below W.heap.size W X) (hb : base ≤ W.heap.size) : Bel base W X := ⟨h.mono hb, fun b cs ty fr hc _ _ _ => h.block b (Array.getElem?_eq_some_iff.1 hc).1⟩
end
end Go.Proofs.YtaoggppfimfhbaaGreatDoor
namespace Go.Proofs.YtaoggppfimfhbaaGreatDoor
open Go Go.RowKit Go.Ix Go.Maps

theorem Tryz.info75 : (Tryz.prog.info? 75).map (fun i => (i.zero, i.size, i.bytes)) = some (some (.slice none 0 0), 1, 24) := by kernel_rfl
theorem enters79 : ∀ (args : Array Value) (w : World), (callFunc 79 args).run Tryz.prog w = .ok (.enter 79 args) w := enters_of Tryz.func79 (by kernel_rfl) rfl


theorem PI.look1 {w : World} {base ib t : Nat} {lv : Value} {mk mo : Nat} {K : Txt → Option Value} {M : Txt → Option Nat} {V : Txt → Txt → Option Value} (h : PI w base ib t lv mk mo K M V) (s : Txt) (hs : s.length ≤ 1000000000) (W : World) (hW : W.heap = w.heap) :
    (Instr.lookup 246 (.map (some mo)) (encStr s) false).run Tryz.prog W = .ok (((M s).map fun m => Value.map (some m)).getD (.map none)) W := by
  obtain ⟨no, h1, _⟩ := h.outer
  exact ((h1.block (W := W) (by rw [hW])).look (t := 246) (e := 251) Tryz.underlying246 (zero251 _) (s := s) hs).1

def PIx (w : World) (base ib t : Nat) : Prop := ∃ lv mk mo K M V, PI w base ib t lv mk mo K M V


theorem PI.step {X Z w2 : World} {base ib t t' n m va : Nat} {lv r0 r1 : Value} {xs : List Value} {cs : Array Value} {fr : Nat × Nat} {mk mo : Nat} {K : Txt → Option Value} {M : Txt → Option Nat} {V : Txt → Txt → Option Value} {s v : Txt} (h : PI X base ib t lv mk mo K M V) (hs : M s = some m) (ho : Olds X Z) (hva : X.heap[va]? = some (.cells cs 84 fr))
    (hr0 : r0 = (V s v).getD (.slice none 0 0)) (hg1 : Z.grownBy w2 r0.ownBlock) (hown : w2.ownsRow base 3 1 r1 n xs) (hn : n ≤ t') (hat : r1.ownBlock = r0.ownBlock ∨ ∃ g, r1.ownBlock = some g ∧ Z.heap.size ≤ g) (hv : v.length ≤ 1000000000) (ht : t + 1 ≤ t') (ht' : t' ≤ 1000000000) :
    ∃ w3, (Instr.mapUpdate 251 (.map (some m)) (encStr v) r1).run Tryz.prog w2 = .ok () w3 ∧ PIx w3 base ib t' ∧ (w2.heap[ib]? = X.heap[ib]? ∧ w2.heap[va]? = X.heap[va]? ∧ w2.heap[mo]? = X.heap[mo]?) ∧ (w3.heap[ib]? = X.heap[ib]? ∧ w3.heap[va]? = X.heap[va]? ∧ w3.heap[mo]? = X.heap[mo]?) ∧ (∀ W, base ≤ Z.heap.size → Bel base W Z → Bel base W w3) := by
  subst hr0
  obtain ⟨c1, c2, c3, nm, c4, c5⟩ := h.inner s m hs
  obtain ⟨no, b1, _⟩ := h.outer
  obtain ⟨esm, cm, hkm⟩ := c4.kind
  obtain ⟨eso, co, hko⟩ := b1.kind
  have hcell := h.cell
  have hso := ho.1
  have hrow0 : ∀ g, ((V s v).getD (.slice none 0 0)).ownBlock = some g → ∃ n xs, X.ownsRow base 3 1 ((V s v).getD (.slice none 0 0)) n xs := fun g hg => by
    cases hV : V s v with
    | none => rw [hV] at hg; cases hg
    | some r =>
      obtain ⟨n, xs, q, _⟩ := h.rows s m hs v r hV
      exact ⟨n, xs, q⟩
  have hib := (Array.getElem?_eq_some_iff.1 hcell).1
  have hval := (Array.getElem?_eq_some_iff.1 hva).1
  have hml := c4.lt
  have hmol := b1.lt
  have h2 : ∀ b, b < X.heap.size → ((V s v).getD (.slice none 0 0)).ownBlock ≠ some b → w2.heap[b]? = X.heap[b]? := fun b hb hne => (hg1.block b (by omega) (fun e => hne e.symm)).trans (ho.2 b hb)
  have nib : ((V s v).getD (.slice none 0 0)).ownBlock ≠ some ib := fun e => by
    obtain ⟨n, xs, q⟩ := hrow0 ib e
    obtain ⟨cur, q2⟩ := own_kind q e
    rw [hcell] at q2
    simp at q2
  have nva : ((V s v).getD (.slice none 0 0)).ownBlock ≠ some va := fun e => by
    obtain ⟨n, xs, q⟩ := hrow0 va e
    obtain ⟨cur, q2⟩ := own_kind q e
    rw [hva] at q2
    simp at q2
  have nmo : ((V s v).getD (.slice none 0 0)).ownBlock ≠ some mo := fun e => by
    obtain ⟨n, xs, q⟩ := hrow0 mo e
    exact row_not_map q hko e
  have nm' : ((V s v).getD (.slice none 0 0)).ownBlock ≠ some m := fun e => by
    obtain ⟨n, xs, q⟩ := hrow0 m e
    exact row_not_map q hkm e
  have hs2 := hg1.size
  obtain ⟨w3, hup, hm3, hg3⟩ := (c4.block (W := w2) (h2 m hml nm')).store (t := 251) (e := 112) Tryz.underlying251 hv (by omega) r1
  have h3 : ∀ b, b < X.heap.size → ((V s v).getD (.slice none 0 0)).ownBlock ≠ some b → b ≠ m → w3.heap[b]? = X.heap[b]? := fun b hb hne hbm => (hg3.block b (by omega) (fun e => hbm (by cases e; rfl))).trans (h2 b hb hne)
  refine ⟨w3, hup, ⟨_, _, _, _, _, _, (h.more (by omega)).put hs ho hg1 hown hn hat hg3 hm3 (by omega)⟩, ⟨h2 ib hib nib, h2 va hval nva, h2 mo hmol nmo⟩, ⟨h3 ib hib nib (fun e => by rw [e, hkm] at hcell; cases hcell), h3 va hval nva (fun e => by rw [e, hkm] at hva; cases hva), h3 mo hmol nmo (fun e => c3 e.symm)⟩, fun W hbz hb => ?_⟩
  have hrz : ∃ n xs, Z.ownsRow base 3 1 ((V s v).getD (.slice none 0 0)) n xs := by
    cases hV : V s v with
    | none => exact ⟨0, [], World.ownsRow_nil _ _ _ _⟩
    | some r =>
      obtain ⟨n, xs, q, _⟩ := h.rows s m hs v r hV
      exact ⟨n, xs, ownsRow_olds q ho⟩
  obtain ⟨n0, xs0, q0⟩ := hrz
  exact (hb.row hbz q0 (.inr rfl) hg1).map (by omega) hg3 c1 ⟨esm, cm, (h2 m hml nm').trans hkm⟩


def AddEnd (W : World) (base ib t : Nat) (e : Ending) (w' : World) : Prop :=
  (∃ z, e = .returned (.tuple #[.int .i64 z, .int .u16 0])) ∧ PIx w' base ib t ∧ Bel base W w'

set_option maxRecDepth 20000 in
set_option maxHeartbeats 4000000 in
theorem add_any {W : World} {base ib t : Nat} (o : Option Addr) (c n : Nat) (l : List Lbl) (hn : l.length = n) (hck : check l = 0) (h0 : o = none → c = 0) (hc : ∀ W', Below base W W' → Rows2 W' o l) (hbase : base ≤ W.heap.size) (ht : t ≤ 1000000) (hp : PIx W base ib t) :
    Calls Tryz.prog 78 #[.pointer (some ⟨ib, 0, none⟩), .slice o n c] W (AddEnd W base ib (t + 140)) := by
  obtain ⟨i3, hi3, hz3, hy3, hx3⟩ := info_parts Tryz.info3
  obtain ⟨i7, hi7, hz7, hy7, hx7⟩ := info_parts Tryz.info75
  obtain ⟨lv, mk, mo, K, M, V, hPI⟩ := hp
  obtain ⟨hn64, hlbl, _⟩ := of_check hck
  rw [hn] at hn64
  have HEn := Lib.hid (lencode_rows o c n l W hn hck (hc W (Below.refl _ _)))
  have Hlbl : Hid (∀ y ∈ l, y.1.length ≤ 1024 ∧ y.2.length ≤ 1024) := Lib.hid (fun y hy => ⟨(hlbl y hy).1.2.1, (hlbl y hy).2.2⟩)
  have HPI := Lib.hid hPI
  have Hc := Lib.hid hc
  have Hn := Lib.hid hn
  obtain ⟨nl, xs, hrow, hnl⟩ := hPI.row
  obtain ⟨lo, lc, rfl, _⟩ := ownsRow_shape hrow
  have Hrow := Lib.hid hrow
  clear hPI hc hn hck hlbl hrow
  go_enter Tryz.func78, Tryz.ntmps78
  go_wp2_with (go_at_call 104; refine HEn.out.mono ?_; clear HEn; rintro e w1 ⟨o1, c1, bs, rfl, hby, hb8, hbl, hbel⟩; have B1 := Lib.hid hbel; have Hby := Lib.hid hby; have Hb8 := Lib.hid hb8; have hs1 := hbel.size; clear hby hb8 hbel)
  have HP1 : Hid (PI w1 base ib t (.slice lo nl lc) mk mo K M V) := Lib.hid (HPI.out.olds (Olds.of_below B1.out))
  have Bb1 : Hid (Bel base W w1) := Lib.hid (Bel.of B1.out hbase)
  obtain ⟨kt, hkt⟩ : ∃ kt : Txt, kt = bs.map UInt8.ofNat := ⟨_, rfl⟩
  have hktl : kt.length ≤ 1000000 := by rw [hkt, List.length_map]; exact hbl
  have Hcv : Hid (∀ X : World, X.heap = w1.heap → (convert 25 9 (.slice o1 bs.length c1)).run Tryz.prog X = .ok (encStr kt) X) := Lib.hid (fun X hX => by
    rw [hkt]
    exact bytes_conv (FlatAt.olds Hby.out ⟨by rw [hX]; exact Nat.le_refl _, fun _ _ => by rw [hX]⟩) Hb8.out)
  have hcv := Hcv.out w1.drew rfl
  clear hkt HPI
  have HPd : Hid (PI w1.drew base ib t (.slice lo nl lc) mk mo K M V) := Lib.hid (HP1.out.olds (Olds.drewN w1 1))
  have hcd : w1.drew.cell? ⟨ib, 1, none⟩ = some (.map (some mk)) := by
    have h9 := HPd.out.cell
    simp only [World.cell?, h9]
    rfl
  obtain ⟨⟨nk, hmk, hnk⟩, hki⟩ := HPd.out.known
  have hlk := (hmk.look (t := 91) (e := 3) Tryz.underlying91 (zero3 _) (s := kt) (by omega)).2
  have Hki := Lib.hid hki
  have Hmk := Lib.hid hmk
  clear hki hmk
  have HbX : Hid (Bel base W w1.drew) := Lib.hid Bb1.out.drew
  have HcX : Hid (∀ X : World, X.heap = w1.drew.heap → (convert 25 9 (.slice o1 bs.length c1)).run Tryz.prog X = .ok (encStr kt) X) := Lib.hid (fun X hX => Hcv.out X hX)
  have hXs : W.heap.size ≤ w1.drew.heap.size := hs1
  cases hK : K kt with
  | some u =>
    obtain ⟨z, rfl⟩ := Hki.out kt u hK
    simp only [hK, Option.getD_some, Option.isSome_some] at hlk
    clear hK
    refine wp_region_still_tail 11 (by kernel_rfl) (by kernel_rfl) ?_
    simp only [List.take_succ_cons, List.take_zero, List.drop_succ_cons, List.drop_zero]
    change wpStill _ _ (World.drew _) (fun a' => wpList _ _ _ _ a' (World.drew _)) _ _
    generalize w1.drew = X at *
    repeat still_step
    try refine wpStill_nil ?_
    go_wp2_with fail
    refine bodyPost_ret (results_tmp2 rfl _ _ _) rfl ?_
    exact ⟨⟨z, rfl⟩, ⟨_, _, _, _, _, _, HPd.out.more (by omega)⟩, HbX.out⟩
  | none =>
    simp only [hK, Option.getD_none, Option.isSome_none] at hlk
    have HK := Lib.hid hK
    clear hK
    refine wp_region_still_tail 11 (by kernel_rfl) (by kernel_rfl) ?_
    simp only [List.take_succ_cons, List.take_zero, List.drop_succ_cons, List.drop_zero]
    change wpStill _ _ (World.drew _) (fun a' => wpList _ _ _ _ a' (World.drew _)) _ _
    generalize w1.drew = X at *
    repeat still_step
    try refine wpStill_nil ?_
    have hc0 : X.cell? ⟨ib, 0, none⟩ = some (.slice lo nl lc) := by simp [World.cell?, HPd.out.cell]
    go_wp2_with fail
    have HPe : Hid (PI X.drew base ib t (.slice lo nl lc) mk mo K M V) := Lib.hid (HPd.out.olds (Olds.drewN X 1))
    obtain ⟨w2, hup, hm2, hg2⟩ := (Hmk.out.block (W := X.drew) rfl).store (t := 91) (e := 3) Tryz.underlying91 (s := kt) (by omega) (by omega) (.int .i64 (nl : Nat))
    have HP2 : Hid (PI w2 base ib (t + 1) (.slice lo nl lc) mk mo (fun x => if x = kt then some (.int .i64 (nl : Nat)) else K x) M V) := Lib.hid ((HPe.out.more (by omega)).knew hg2 hm2 (by omega) (fun s v hv => by
      by_cases hs : s = kt
      · simp only [hs, if_true, Option.some.injEq] at hv
        exact ⟨_, hv.symm⟩
      · simp only [hs, if_false] at hv
        exact Hki.out s v hv))
    have Hb2 : Hid (Bel base W w2) := Lib.hid (HbX.out.drew.map (by have := HbX.out.size; show base ≤ X.heap.size; omega) hg2 HPe.out.bmk (by obtain ⟨⟨nk', q, _⟩, _⟩ := HPe.out.known; exact q.kind))
    have hcY : X.drew.cell? ⟨ib, 1, none⟩ = some (.map (some mk)) := by
      have h9 := HPe.out.cell
      simp only [World.cell?, h9]
      rfl
    have hcvY := HcX.out X.drew rfl
    have hs2 : W.heap.size ≤ w2.heap.size := Hb2.out.size
    clear hm2 hg2
    refine wp_region_still_tail 7 (by kernel_rfl) (by kernel_rfl) ?_
    simp only [List.take_succ_cons, List.take_zero, List.drop_succ_cons, List.drop_zero]
    change wpStill _ _ (World.drew _) (fun a' => wpList _ _ _ _ a' (World.drew _)) _ _
    generalize X.drew = Y at *
    repeat still_step
    try refine wpStill_nil ?_
    go_upto_region 9 with fail
    generalize (fun x => if x = kt then some (.int .i64 (nl : Nat)) else K x) = K2 at *
    clear hup hcY hcvY hlk hcd hcv Hcv HcX HP1 Bb1 Hby Hb8 HPd HPe HbX Hmk Hki HK hc0
    have h20 : w2.drew.cell? ⟨ib, 0, none⟩ = some (.slice lo nl lc) := by
      have h9 : w2.drew.heap[ib]? = _ := HP2.out.cell
      simp only [World.cell?, h9]
      rfl
    go_cut [10] from 45 to 55 (fun t10 wx => t10 = .int .i64 nl ∧ (∃ lv', PI wx base ib (t + 2) lv' mk mo K2 M V) ∧ Bel base W wx)
    case first =>
      have hibl : ib < w2.heap.size := (Array.getElem?_eq_some_iff.1 HP2.out.cell).1
      have HCl : Hid (Calls Tryz.prog 79 #[.slice o n c] w2.drew fun e w' => ∃ v, e = .returned v ∧ ∃ o4 n4 c4, v = .slice o4 n4 c4 ∧ Olds w2 w' ∧ Bel base W w' ∧ w'.cell? ⟨ib, 0, none⟩ = some (.slice lo nl lc)) := Lib.hid ((clone_labels o c n l w2.drew Hn.out (by omega) h0 (Hc.out _ Hb2.out.drew.bel)).mono fun e w' h => by
        obtain ⟨v, rfl, q1, q2⟩ := h
        obtain ⟨o4, c4, rfl, _⟩ := ownsRow_shape q1
        have q3 : Olds w2 w' := (Olds.drewN w2 1).trans (Olds.of_below q2)
        refine ⟨_, rfl, _, _, _, rfl, q3, Hb2.out.drew.more (by show base ≤ w2.heap.size; omega) q2, ?_⟩
        simp [World.cell?, (q3.2 ib hibl).trans HP2.out.cell])
      obtain ⟨nl2, xs2, hrow2, hnl2⟩ := HP2.out.row
      have e10 : nl2 = nl := by
        obtain ⟨_, _, e9, _⟩ := ownsRow_shape hrow2
        simp only [Value.slice.injEq] at e9
        exact e9.2.1.symm
      rw [e10] at hrow2 hnl2
      clear e10
      have Hrow2 := Lib.hid hrow2
      have hbw : base ≤ w2.heap.size := by omega
      clear hrow2
      go_region_law
        (first
          | (refine step_call1 (by rfl) 79 _ _ (by rfl) _ (by rfl) enters79 HCl.out ?_; clear HCl; rintro v4 w4 ⟨o4, n4, c4, rfl, hb4, hbe4, h40⟩; have Hb4 := Lib.hid hb4; have hs4 := hb4.1; have Hbe4 := Lib.hid hbe4; have h41 : (w4.alloc (.cells #[.slice o4 n4 c4] 75)).cell? ⟨ib, 0, none⟩ = some (.slice lo nl lc) := (Olds.alloc w4 _).cell h40; clear hb4 hbe4)
          | (refine step_append_lies _ (by rfl) _ _ _ (by rfl) base 75 i7 _ 1 24 Tryz.underlying42 hi7 hz7 hy7 hx7 rfl Nat.one_pos (.slice lo nl lc) nl xs2 (by rfl) (ownsRow_olds Hrow2.out (Hb4.out.trans (Olds.alloc _ _))) ⟨w4.heap.size, 0, none⟩ 1 1 [.slice o4 n4 c4] (by rfl) (by rfl) (World.news_of_block (cs := #[.slice o4 n4 c4]) (t := 75) (fr := (0, 0)) (heap_alloc_new w4 _)) (by simp [Value.oneCell']) Nat.one_pos (by unfold maxLen; omega) (by omega) (by simp; omega) (w4.heap.size + 1) (by simp) ?_; intro gg cap2 w5 hown5 hgrow5 hat5 hlt5; have Hown5 := Lib.hid hown5; have Hgrow5 := Lib.hid hgrow5; have hnib : some ib ≠ (Value.slice lo nl lc).ownBlock := (fun e => by obtain ⟨cur, q⟩ := own_kind Hrow2.out e.symm; rw [HP2.out.cell] at q; simp at q); have hh5 : w5.heap[ib]? = some (.cells #[.slice lo nl lc, .map (some mk), .map (some mo)] 248 (0, 0)) := (hgrow5.block ib (by simp; omega) hnib).trans ((Below.heap_alloc _ _ _ (by omega)).trans ((Hb4.out.2 ib hibl).trans HP2.out.cell)); have h50 : w5.cell? ⟨ib, 0, none⟩ = some (.slice lo nl lc) := (by simp [World.cell?, hh5]); have hf50 : w5.frozen? ⟨ib, 0, none⟩ = false := (by simp [World.frozen?, hh5]); have Hh5 := Lib.hid hh5; clear hown5 hgrow5 hat5 hh5))
      all_goals
        go_wp2_with fail
        (try simp only [Act.put, List.setIfInBounds_toArray, List.set_cons_zero, List.set_cons_succ])
        go_meet
        case rel => exact ⟨rfl, ⟨_, (HP2.out.more (by omega)).laid (Hb4.out.trans (Olds.alloc _ _)) Hgrow5.out Hown5.out (by omega)⟩, ((Hbe4.out.alloc (by have := Hbe4.out.size; omega) _).row (by simp; have := Hbe4.out.size; omega) (ownsRow_olds Hrow2.out (Hb4.out.trans (Olds.alloc _ _))) (.inl rfl) Hgrow5.out).cell Hh5.out HP2.out.bib 0 _⟩
    case rest =>
    obtain ⟨rfl, ⟨lv3, hp3⟩, hb3⟩ := hcut
    have HP3 := Lib.hid hp3
    have Hb3 := Lib.hid hb3
    clear hp3 hb3 HP2 Hb2 h20 Hrow
    generalize wc = w3 at *
    go_upto_region 10 with fail
    go_wp2_with fail
    go_loopw [12, 58] (fun _ iv wr => ∃ k : Nat, k ≤ n ∧ iv = .int .i64 k ∧ PIx wr base ib (t + 2 + 2 * k) ∧ Bel base W wr) (fun _ iv _ => n - (intOf iv).toNat)
    case atStart => exact ⟨0, Nat.zero_le _, rfl, ⟨_, _, _, _, _, _, HP3.out⟩, Hb3.out⟩
    case round =>
      obtain ⟨k, hk, rfl, ⟨lv4, mk4, mo4, K4, M4, V4, hp4⟩, hb4⟩ := hrel
      have HP4 := Lib.hid hp4
      have Hb4 := Lib.hid hb4
      have hs4 := hb4.size
      clear hp4 hb4
      by_cases hlt : k < n
      · obtain ⟨bt, offt, y1, y2, rfl, hy, hy1, hy2⟩ := (Hc.out wr Hb4.out.bel).at (k := k) (by rw [Hn.out]; exact hlt)
        obtain ⟨hly1, hly2⟩ := Hlbl.out _ (List.mem_of_getElem? hy)
        simp only at hly1 hly2
        obtain ⟨Y, hY⟩ : ∃ Y : World, Y = wr.alloc (.cells #[encStr y1, encStr y2] 84) := ⟨_, rfl⟩
        have hYb : Y.heap[wr.heap.size]? = some (.cells #[encStr y1, encStr y2] 84 (0, 0)) := by rw [hY]; exact heap_alloc_new _ _
        have HbY : Hid (Bel base W Y) := Lib.hid (by rw [hY]; exact Hb4.out.alloc (by omega) _)
        have HPY : Hid (PI Y base ib (t + 2 + 2 * k) lv4 mk4 mo4 K4 M4 V4) := Lib.hid (by rw [hY]; exact HP4.out.olds (Olds.alloc _ _))
        have HYe := Lib.hid hY
        have HYb := Lib.hid hYb
        have hYs : wr.heap.size < Y.heap.size := by rw [hY]; simp
        clear hy hY hYb
        go_upto_region 13 with fail
        rw [← HYe.out]
        clear hy1 hy2
        have HbYd : Hid (Bel base W Y.drew) := Lib.hid HbY.out.drew
        have hz0 : Y.drew.cell? ⟨ib, 2, none⟩ = some (.map (some mo4)) := by
          have h9 : Y.drew.heap[ib]? = _ := HPY.out.cell
          simp only [World.cell?, h9]
          rfl
        have hz1 : Y.drew.cell? ⟨wr.heap.size, 0, none⟩ = some (encStr y1) := by
          have h9 : Y.drew.heap[wr.heap.size]? = _ := HYb.out
          simp only [World.cell?, h9]
          rfl
        have hlk := (HPY.out.look1 y1 (by omega) Y.drew rfl)
        go_cut [69] from 62 to 69 (fun t69 wx => t69 = .bool (M4 y1).isNone ∧ wx = Y.drew)
        case first =>
          cases hM : M4 y1 with
          | none =>
            simp only [hM, Option.map_none, Option.getD_none] at hlk
            have heq : (binOp .eql 251 (.map none) (.map none)).run Tryz.prog Y.drew = .ok (.bool true) Y.drew := by kernel_rfl
            refine wp_region_still_tail 7 (by kernel_rfl) (by kernel_rfl) ?_
            simp only [List.take_succ_cons, List.take_zero, List.drop_succ_cons, List.drop_zero]
            change wpStill _ _ (World.drew _) (fun a' => wpList _ _ _ _ a' (World.drew _)) _ _
            generalize Y.drew = X at *
            repeat still_step
            try refine wpStill_nil ?_
            go_wp2_with fail
            go_meet
            case rel => exact ⟨by rw [hM]; rfl, rfl⟩
          | some m =>
            simp only [hM, Option.map_some, Option.getD_some] at hlk
            have heq : (binOp .eql 251 (.map (some m)) (.map none)).run Tryz.prog Y.drew = .ok (.bool false) Y.drew := by kernel_rfl
            refine wp_region_still_tail 7 (by kernel_rfl) (by kernel_rfl) ?_
            simp only [List.take_succ_cons, List.take_zero, List.drop_succ_cons, List.drop_zero]
            change wpStill _ _ (World.drew _) (fun a' => wpList _ _ _ _ a' (World.drew _)) _ _
            generalize Y.drew = X at *
            repeat still_step
            try refine wpStill_nil ?_
            go_wp2_with fail
            go_meet
            case rel => exact ⟨by rw [hM]; rfl, rfl⟩
        case rest =>
        obtain ⟨rfl, rfl⟩ := hcut
        go_upto_if 69 with fail
        have HPX : Hid (PI Y.drew base ib (t + 2 + 2 * k) lv4 mk4 mo4 K4 M4 V4) := Lib.hid (HPY.out.olds (Olds.drewN Y 1))
        have HXb : Hid (Y.drew.heap[wr.heap.size]? = some (.cells #[encStr y1, encStr y2] 84 (0, 0))) := Lib.hid HYb.out
        have hXs : wr.heap.size < Y.drew.heap.size := hYs
        have hmm := @run_makeMap Tryz.prog
        clear hz0 hz1 hlk HPY HYb HbY hYs
        generalize Y.drew = X at *
        go_cut [69] from 70 to 76 (fun _ wx => ∃ M5 V5 m, PI wx base ib (t + 2 + 2 * k + 1) lv4 mk4 mo4 K4 M5 V5 ∧ M5 y1 = some m ∧ wx.heap[wr.heap.size]? = some (.cells #[encStr y1, encStr y2] 84 (0, 0)) ∧ Bel base W wx)
        case first =>
          cases hM : M4 y1 with
          | none =>
            have HM := Lib.hid hM
            simp only [hM, Option.isNone_none]
            clear hM
            have hz0 : X.drew.cell? ⟨ib, 2, none⟩ = some (.map (some mo4)) := by
              have h9 : X.drew.heap[ib]? = _ := HPX.out.cell
              simp only [World.cell?, h9]
              rfl
            have hz1 : X.drew.cell? ⟨wr.heap.size, 0, none⟩ = some (encStr y1) := by
              have h9 : X.drew.heap[wr.heap.size]? = _ := HXb.out
              simp only [World.cell?, h9]
              rfl
            have HPD : Hid (PI X.drew base ib (t + 2 + 2 * k) lv4 mk4 mo4 K4 M4 V4) := Lib.hid (HPX.out.olds (Olds.drewN X 1))
            obtain ⟨no, hno, hnt⟩ := HPD.out.outer
            obtain ⟨w5, hup, hm5, hg5⟩ := (hno.block (W := X.drew.alloc (.map #[] 0)) (Below.heap_alloc _ _ _ hno.lt)).store (t := 246) (e := 251) Tryz.underlying246 (s := y1) (by omega) (by omega) (.map (some X.drew.heap.size))
            have hmob := HPD.out.bmo
            have hkn : ∃ es c, X.drew.heap[mo4]? = some (.map es c) := hno.kind
            have HP5 : Hid (PI w5 base ib (t + 2 + 2 * k + 1) lv4 mk4 mo4 K4 (fun x => if x = y1 then some X.drew.heap.size else M4 x) (fun x => if x = y1 then fun _ => none else V4 x)) := Lib.hid ((HPD.out.more (by omega)).named HM.out (by have := HbYd.out.size; show base ≤ X.heap.size; omega) hg5 hm5 (by omega))
            have hs5 : w5.heap[wr.heap.size]? = some (.cells #[encStr y1, encStr y2] 84 (0, 0)) := (hg5.block _ (by simp; omega) (fun e => by
              obtain ⟨es, c, hk⟩ := hkn
              have e2 := Option.some.inj e
              have h9 : X.drew.heap[wr.heap.size]? = _ := HXb.out
              rw [e2, hk] at h9
              cases h9)).trans ((Below.heap_alloc _ _ _ hXs).trans HXb.out)
            have Hb5 : Hid (Bel base W w5) := Lib.hid ((HbYd.out.drew.alloc (by have := HbYd.out.size; show base ≤ X.heap.size; omega) _).map (by have := HbYd.out.size; simp; omega) hg5 hmob (hno.block (Below.heap_alloc _ _ _ hno.lt)).kind)
            have Hs5 := Lib.hid hs5
            have hup' : (Instr.mapUpdate 246 (.map (some mo4)) (encStr y1) (.map (some X.heap.size))).run Tryz.prog (X.alloc (.map #[] 0)).drew = .ok () w5 := hup
            clear hs5 hg5 hm5 hno hkn
            go_wp2_with fail
            have ha0 : (X.alloc (.map #[] 0)).drew.cell? ⟨ib, 2, none⟩ = some (.map (some mo4)) := (Olds.alloc X.drew _).cell hz0
            have ha1 : (X.alloc (.map #[] 0)).drew.cell? ⟨wr.heap.size, 0, none⟩ = some (encStr y1) := (Olds.alloc X.drew _).cell hz1
            have hw0 : w5.cell? ⟨ib, 2, none⟩ = some (.map (some mo4)) := by
              have h9 := HP5.out.cell
              simp only [World.cell?, h9]
              rfl
            have hw1 : w5.cell? ⟨wr.heap.size, 0, none⟩ = some (encStr y1) := by
              have h9 := Hs5.out
              simp only [World.cell?, h9]
              rfl
            go_region_held (fun w' => w'.cell? ⟨ib, 2, none⟩ = some (.map (some mo4)) ∧ w'.cell? ⟨wr.heap.size, 0, none⟩ = some (encStr y1)) (exact ⟨by assumption, by assumption⟩) (fail)
            all_goals go_wp2_with fail
            all_goals (go_meet; case rel => exact ⟨_, _, X.drew.heap.size, HP5.out, if_pos rfl, Hs5.out, Hb5.out⟩)
          | some m =>
            have HM := Lib.hid hM
            simp only [hM, Option.isNone_some]
            clear hM
            go_wp2_with fail
            go_meet
            case rel => exact ⟨_, _, _, HPX.out.more (by omega), HM.out, HXb.out, HbYd.out⟩
        case rest =>
        obtain ⟨M5, V5, m, hP5, hM5, hx5, hb5⟩ := hcut
        have HP5 := Lib.hid hP5
        have HM5 := Lib.hid hM5
        have Hx5 := Lib.hid hx5
        have Hb5 := Lib.hid hb5
        clear hP5 hM5 hx5 hb5 HPX HXb HbYd hXs HYe
        generalize wc = X5 at *
        obtain ⟨bm0, bm1, bm2, nm, hnm, hnmt⟩ := HP5.out.inner y1 m HM5.out
        have hilk : ∀ W' : World, W'.heap[m]? = X5.heap[m]? → (Instr.lookup 251 (.map (some m)) (encStr y2) false).run Tryz.prog W' = .ok ((V5 y1 y2).getD (.slice none 0 0)) W' := fun W' hW => ((hnm.block hW).look (t := 251) (e := 112) Tryz.underlying251 (zero112 _) (s := y2) (by omega)).1
        obtain ⟨r, hr⟩ : ∃ r, r = (V5 y1 y2).getD (.slice none 0 0) := ⟨_, rfl⟩
        rw [← hr] at hilk
        have hrow : ∃ nr us, X5.ownsRow base 3 1 r nr us ∧ nr ≤ t + 2 + 2 * k + 1 := by
          cases hV : V5 y1 y2 with
          | none =>
            rw [hr, hV]
            exact ⟨0, [], World.ownsRow_nil _ _ _ _, by omega⟩
          | some u =>
            rw [hr, hV]
            exact HP5.out.rows y1 m HM5.out y2 u hV
        obtain ⟨nr, us, hrow, hnr⟩ := hrow
        obtain ⟨ro, rc, rfl, _⟩ := ownsRow_shape hrow
        have Hr := Lib.hid hr
        have Hrow5 := Lib.hid hrow
        have hl1 := hilk X5.drew rfl
        have hl2 := hilk (X5.alloc (.cells #[.int .i64 nl] 3)).drew (Below.heap_alloc X5.drew _ _ hnm.lt)
        have hibl : ib < X5.heap.size := (Array.getElem?_eq_some_iff.1 HP5.out.cell).1
        have hval : wr.heap.size < X5.heap.size := (Array.getElem?_eq_some_iff.1 Hx5.out).1
        have hmol : mo4 < X5.heap.size := by
          obtain ⟨no, h1, _⟩ := HP5.out.outer
          exact h1.lt
        have hbs : base ≤ X5.heap.size := by have := Hb5.out.size; omega
        have HS : Hid (∀ W' : World, W'.heap[ib]? = X5.heap[ib]? → W'.heap[wr.heap.size]? = X5.heap[wr.heap.size]? → W'.heap[mo4]? = X5.heap[mo4]? → W'.cell? ⟨ib, 2, none⟩ = some (.map (some mo4)) ∧ W'.cell? ⟨wr.heap.size, 0, none⟩ = some (encStr y1) ∧ W'.cell? ⟨wr.heap.size, 1, none⟩ = some (encStr y2) ∧ (Instr.lookup 246 (.map (some mo4)) (encStr y1) false).run Tryz.prog W' = .ok (.map (some m)) W') := Lib.hid (fun W' h1 h2 h3 => by
          have q1 := h1.trans HP5.out.cell
          have q2 := h2.trans Hx5.out
          refine ⟨by simp only [World.cell?, q1]; rfl, by simp only [World.cell?, q2]; rfl, by simp only [World.cell?, q2]; rfl, ?_⟩
          obtain ⟨no, q3, _⟩ := HP5.out.outer
          have q4 := ((q3.block h3).look (t := 246) (e := 251) Tryz.underlying246 (zero251 _) (s := y1) (by omega)).1
          rw [HM5.out] at q4
          exact q4)
        clear hilk hnm hr hrow bm0 bm1 bm2
        go_upto_region 15 with fail
        go_region_held_law (fun W' => W'.cell? ⟨ib, 2, none⟩ = some (.map (some mo4)) ∧ W'.cell? ⟨wr.heap.size, 0, none⟩ = some (encStr y1) ∧ W'.cell? ⟨wr.heap.size, 1, none⟩ = some (encStr y2) ∧ (Instr.lookup 246 (.map (some mo4)) (encStr y1) false).run Tryz.prog W' = .ok (.map (some m)) W')
          (first | exact HS.out _ rfl rfl rfl | exact HS.out _ (Below.heap_alloc X5.drew _ _ hibl) (Below.heap_alloc X5.drew _ _ hval) (Below.heap_alloc X5.drew _ _ hmol) | exact HS.out _ e2.1 e2.2.1 e2.2.2 | exact HS.out _ e3.1 e3.2.1 e3.2.2)
          (first
            | (refine step_append_lies _ (by rfl) _ _ _ (by rfl) base 3 i3 _ 1 8 Tryz.underlying112 hi3 hz3 hy3 hx3 rfl Nat.one_pos (.slice ro nr rc) nr us (by rfl) (ownsRow_olds Hrow5.out ((Olds.drewN X5 1).trans (Olds.alloc _ _))) ⟨X5.drew.heap.size, 0, none⟩ 1 1 [.int .i64 nl] (by rfl) (by rfl) (World.news_of_block (cs := #[.int .i64 nl]) (t := 3) (fr := (0, 0)) (heap_alloc_new X5.drew _)) (by simp [Value.oneCell']) Nat.one_pos (by unfold maxLen; omega) (by omega) (by simp; exact Nat.le_succ_of_le hbs) (X5.drew.heap.size + 1) (by simp) ?_; intro gg cap2 w2 hown2 hgrow2 hat2 hlt2; obtain ⟨w3, hup, hp3, e2, e3, hbe3⟩ := HP5.out.step HM5.out ((Olds.drewN X5 1).trans (Olds.alloc _ _)) Hx5.out Hr.out hgrow2 hown2 (t' := t + 2 + 2 * (k + 1)) (by omega) (hat2.elim (fun h => .inl h.symm) (fun h => .inr ⟨gg, rfl, (by rw [h]; exact Nat.le_of_eq (by simp))⟩)) (by omega) (by omega) (by omega); have Hp3 := Lib.hid hp3; have Hbe3 := Lib.hid hbe3; clear hown2 hgrow2 hat2 hlt2 hp3 hbe3))
        all_goals
          go_wp2_with fail
          (try simp only [Act.put, List.setIfInBounds_toArray, List.set_cons_zero, List.set_cons_succ])
          go_roundw
          case rel => exact ⟨k + 1, by omega, by go_num, Hp3.out, Hbe3.out _ (by simp; exact Nat.le_succ_of_le hbs) (Hb5.out.drew.alloc hbs _)⟩
          case measure => simp [intOf]; omega
      · go_wp2_with fail
        refine bodyPost_ret (results_tmp2 rfl _ _ _) rfl ?_
        obtain ⟨lv5, mk5, mo5, K5, M5, V5, hp5⟩ := (⟨_, _, _, _, _, _, HP4.out⟩ : PIx wr base ib (t + 2 + 2 * k))
        exact ⟨⟨_, rfl⟩, ⟨_, _, _, _, _, _, hp5.more (by omega)⟩, Hb4.out⟩
end Go.Proofs.YtaoggppfimfhbaaGreatDoor
namespace Go.Proofs.YtaoggppfimfhbaaGreatDoor
open Go Go.RowKit Go.Ix Go.Maps

theorem new_index (W : World) : Calls Tryz.prog 77 #[] W fun e w' => e = .returned (.pointer (some ⟨W.heap.size + 1 + 1, 0, none⟩)) ∧ PIx w' W.heap.size (W.heap.size + 1 + 1) 0 ∧ Below W.heap.size W w' := by
  have hmm := @run_makeMap Tryz.prog
  go_enter Tryz.func77, Tryz.ntmps77
  go_wp2_with fail
  go_ret
  have hz1 : (W.alloc (.map #[] 0)).heap.size = W.heap.size + 1 := by simp
  have hz2 : ((W.alloc (.map #[] 0)).alloc (.map #[] 0)).heap.size = W.heap.size + 1 + 1 := by simp
  refine ⟨rfl, ⟨.slice none 0 0, W.heap.size, W.heap.size + 1, fun _ => none, fun _ => none, fun _ _ => none, ?_⟩, (((Below.refl _ W).alloc (Nat.le_refl _) _).alloc (by simp) _).alloc (by simp; omega) _⟩
  refine ⟨?_, by omega, Nat.le_refl _, by omega, ⟨0, [], World.ownsRow_nil _ _ _ _, Nat.le_refl _⟩, ⟨⟨0, ?_, Nat.le_refl _⟩, fun s v h => (by cases h)⟩, ⟨0, ?_, Nat.le_refl _⟩, fun s m h => (by cases h), fun s m h => (by cases h), fun s s' m h => (by cases h), by omega, fun s v s' v' r r' _ h => (by cases h)⟩
  · have h9 := heap_alloc_new ((W.alloc (.map #[] 0)).alloc (.map #[] 0)) (.cells #[.slice none 0 0, .map (some W.heap.size), .map (some (W.heap.size + 1))] 248)
    rw [hz2] at h9
    exact h9
  · exact (TMap.made W).block ((Below.heap_alloc _ _ _ (by rw [hz2]; omega)).trans (Below.heap_alloc _ _ _ (by rw [hz1]; omega)))
  · have h9 := TMap.made (W.alloc (.map #[] 0))
    rw [hz1] at h9
    exact h9.block (Below.heap_alloc _ _ _ (by rw [hz2]; omega))
end Go.Proofs.YtaoggppfimfhbaaGreatDoor
