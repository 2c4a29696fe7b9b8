/- Contracts over this program. Their conditions: the slices read as the lists that are named, and lie within the sizes that are named. -/
import Derived.Test.YtndjmffnlcilbaaDoorXk
import Derived.Test.YtndjmffnlcilbaaDoorXc
import Derived.Test.YtndjmffnlcilbaaDoorXa
set_option linter.unusedSimpArgs false
set_option linter.unusedVariables false
set_option linter.deprecated false
set_option linter.unnecessarySimpa false
namespace Go.Proofs.YtndjmffnlcilbaaDoor
open Go Go.RowKit Go.Ix Go.Ext Go.Maps
theorem SR.mono {w : World} {B sb tb tc nb xb nm nm' : Nat} {uv dv : Value} {g : G} (h : SR w B sb tb tc nb xb nm uv dv g) (hn : nm ≤ nm') : SR w B sb tb tc nb xb nm' uv dv g :=
  ⟨h.bnb, h.bxb, h.nx, h.now.mono hn, h.next.mono hn, h.taken, h.dir, h.dirne, h.undo, h.fok, h.fokx⟩
theorem SIx.mono {w : World} {B db sm sb k D k' D' t tb tc nb xb slot gen : Nat} {uv dv : Value} {g : G} (h : SIx w B db sm sb k D t tb tc nb xb slot gen uv dv g) (hk : k ≤ k') (hD : D ≤ D') : SIx w B db sm sb k' D' t tb tc nb xb slot gen uv dv g :=
  ⟨h.bsb, h.cell, h.rest.mono hk, h.di, by have := h.ht; omega, h.hslot, by have := h.hgen; omega, by have := h.hu; omega, Nat.le_trans h.hd hD, Nat.le_trans h.hdx hD, h.smn, h.smx, h.inv⟩
theorem SIx.olds {w W : World} {B db sm sb k D t tb tc nb xb slot gen : Nat} {uv dv : Value} {g : G} (h : SIx w B db sm sb k D t tb tc nb xb slot gen uv dv g) (ho : Olds w W) : SIx W B db sm sb k D t tb tc nb xb slot gen uv dv g :=
  ⟨h.bsb, (ho.2 _ (heap_lt h.cell)).trans h.cell, h.rest.olds ho, h.di.olds ho, h.ht, h.hslot, h.hgen, h.hu, h.hd, h.hdx, h.smn, h.smx, h.inv⟩
theorem SIx.disk {w W : World} {B db sm sb k D t t' tb tc nb xb slot gen : Nat} {uv dv : Value} {g : G} (h : SIx w B db sm sb k D t tb tc nb xb slot gen uv dv g) (hf : Fr B TD [sm] w W) (hd : DI W B db sm g.n t') (ht : t' ≤ 100 * k) : SIx W B db sm sb k D t' tb tc nb xb slot gen uv dv g := by
  obtain ⟨es, c, hk⟩ := h.di.seen.kind
  have hM : ∀ b ∈ [sm], ∀ cs ty fr, w.heap[b]? ≠ some (.cells cs ty fr) := fun b hb cs ty fr e => by
    simp only [List.mem_singleton] at hb
    rw [hb, hk] at e
    cases e
  refine ⟨h.bsb, hf.keep h.cell (fun hm => hM _ hm _ _ _ h.cell) (by decide), h.rest.fr hf (by decide) ?_ ?_ (fun b hb cs ty fr _ => hM b hb cs ty fr), hd, ht, h.hslot, h.hgen, h.hu, h.hd, h.hdx, h.smn, h.smx, h.inv⟩
  · simp only [List.mem_singleton]
    exact Ne.symm h.smn
  · simp only [List.mem_singleton]
    exact Ne.symm h.smx
theorem SIx.hsm {w : World} {B db sm sb k D t tb tc nb xb slot gen : Nat} {uv dv : Value} {g : G} (h : SIx w B db sm sb k D t tb tc nb xb slot gen uv dv g) : sb ≠ sm := fun e => by
  obtain ⟨es, c, hk⟩ := h.di.seen.kind
  have h1 := h.cell
  rw [e] at h1
  have h2 := hk.symm.trans h1
  cases h2
theorem SIx.hB {w : World} {B db sm sb k D t tb tc nb xb slot gen : Nat} {uv dv : Value} {g : G} (h : SIx w B db sm sb k D t tb tc nb xb slot gen uv dv g) : B ≤ w.heap.size := by
  have := heap_lt h.cell
  have := h.bsb
  omega
def PutEnd (w : World) (B db sm sb k D : Nat) (s : Txt) (g : G) (e : Ending) (w' : World) : Prop :=
  Kp B w w' ∧ ∃ c : Nat, e = .returned (.int .u16 c) ∧ ((0 < c ∧ SI w' B db sm sb (k + 2) (D + 300 + s.length) g) ∨ (c = 0 ∧ ∃ g', SI w' B db sm sb (k + 2) (D + 300 + s.length) g' ∧ g'.n = g.n))
def MayAll (w : World) (l : Fs) (s : Txt) (e : Ending) (w' : World) : Prop := Below w.heap.size w w' ∧ ∃ c : Nat, e = .returned (.int .u16 c) ∧ (c = 0 → s ∉ keys l)
theorem MayEnd.all {w w' : World} {l : Fs} {s : Txt} {e : Ending} (h : MayEnd w l s e w') : MayAll w l s e w' := by
  obtain ⟨h1, h2⟩ := h
  refine ⟨h1, ?_⟩
  rcases h2 with ⟨rfl, h⟩ | ⟨c, h, rfl⟩
  · exact ⟨0, rfl, fun _ => h⟩
  · exact ⟨c, rfl, fun h0 => by omega⟩
def TakeAll (w : World) (T : Nat → Int) (n want : Nat) (e : Ending) (w' : World) : Prop :=
  Below w.heap.size w w' ∧ ∃ (o : Option Addr) (m cc c : Nat), e = .returned (.tuple #[.slice o m cc, .int .u16 c]) ∧ (c = 0 ∨ c = 5) ∧ (c = 0 → m = want ∧ ∃ l k, w'.ownsRow w.heap.size 3 1 (.slice o want cc) want (nats l) ∧ l.length = want ∧ l = zeros T k ∧ k ≤ n ∧ (runsOf l).length ≤ 48)
theorem TakeEnd.all {w w' : World} {T : Nat → Int} {n want : Nat} {e : Ending} (h : TakeEnd w T n want e w') : TakeAll w T n want e w' := by
  obtain ⟨h1, h2⟩ := h
  refine ⟨h1, ?_⟩
  rcases h2 with rfl | ⟨o, c, l, k, rfl, h⟩
  · exact ⟨none, 0, 0, 5, rfl, .inr rfl, fun h => by cases h⟩
  · exact ⟨o, want, c, 0, rfl, .inl rfl, fun _ => ⟨rfl, l, k, h⟩⟩
set_option maxRecDepth 20000 in
set_option maxHeartbeats 4000000 in
theorem put_any (hH : HalfOk) {w : World} {B db sm sb k D t tb tc nb xb slot gen dn dc : Nat} {da : Option Addr} {uv dv : Value} {g : G} {s : Txt} (h : SIx w B db sm sb k D t tb tc nb xb slot gen uv dv g) (hG : 8 ≤ w.heap.size) (hk : k ≤ 900) (hs : s.length ≤ 1000000) (hd : Data w B da dn dc) (hdn : dn ≤ 400000) :
    Calls Tryd.prog 9 #[.pointer (some ⟨sb, 0, none⟩), encStr s, .slice da dn dc] w (PutEnd w B db sm sb k D s g) := by
  have H := Lib.hid h
  have Hd := Lib.hid hd
  have Hs := Lib.hid hs
  have HM : Hid (Calls Tryd.prog 25 #[.pointer (some ⟨sb, 0, none⟩), encStr s, .int .i64 1] w (MayEnd w g.next s)) := Lib.hid (may_any s h.cell h.rest.next hs (by omega))
  have hhi := h.inv.hi
  have hlo := h.inv.lo
  have hht := h.ht
  clear h hd hs
  go_enter Tryd.func9, Tryd.ntmps9
  go_upto_region 2 with (go_at_call 25; refine HM.out.mono ?_; clear HM; intro e w1 hm; obtain ⟨hb1, c, rfl, hc⟩ := hm.all; have Hb1 := Lib.hid hb1; have Hc := Lib.hid hc; clear hm hb1 hc)
  have HK1 : Hid (Kp B w w1) := Lib.hid (Kp.of_below Hb1.out H.out.hB)
  have H1 := Lib.hid (H.out.olds (Olds.of_below Hb1.out))
  by_cases h0 : c = 0
  · have hno := Lib.hid (Hc.out h0)
    subst h0
    have HN := Lib.hid (need_any dn (by omega) w1)
    have HT : Hid (Calls Tryd.prog 26 #[.pointer (some ⟨sb, 0, none⟩), .int .i64 (need dn : Nat)] w1 (TakeEnd w1 g.T g.n (need dn))) := Lib.hid (take_any (need dn) H1.out.cell rfl H1.out.rest.taken (by omega) (by omega) (by unfold need; omega))
    go_upto_region 5 with (first | (go_at_call 27; refine HN.out.mono ?_; clear HN; rintro e w2 ⟨rfl, rfl⟩) | (go_at_call 26; refine HT.out.mono ?_; clear HT; intro e w2 hm; obtain ⟨hb2, o, m, cc, c, rfl, hcd, hc2⟩ := hm.all; have Hb2 := Lib.hid hb2; have Hc2 := Lib.hid hc2; have Hcd := Lib.hid hcd; clear hm hb2 hc2 hcd))
    have HK2 : Hid (Kp B w w2) := Lib.hid (HK1.out.trans (Kp.of_below Hb2.out H1.out.hB))
    have H2 := Lib.hid (H1.out.olds (Olds.of_below Hb2.out))
    by_cases h0 : c = 0
    · obtain ⟨rfl, l, kk, hrow, hlen, hz, hkn, hruns⟩ := Hc2.out h0
      subst h0
      have hroom : Room g l := by rw [hz]; exact room_zeros hkn
      have hll : l.length ≤ 62 := by rw [hz]; have := zeros_len g.T kk; omega
      have Hroom := Lib.hid hroom
      have Hruns := Lib.hid hruns
      have Hrow := Lib.hid hrow
      have hoo : (Value.slice o (need dn) cc).ownBlock ≠ some tb := fun e => by
        have h1 := (ownsRow_block hrow e).1
        obtain ⟨cur, h2⟩ := own_kind H1.out.rest.taken (g := tb) rfl
        have := heap_lt h2
        omega
      have hd2 : Data w2 B da dn dc := (Hd.out.olds (Olds.of_below Hb1.out)).olds (Olds.of_below Hb2.out)
      have HW : Hid (Calls Tryd.prog 19 #[.pointer (some ⟨sb, 0, none⟩), .slice o (need dn) cc, .slice da dn dc] w2 fun e w' => e = .returned (.int .u16 0) ∧ DI w' B db sm g.n (t + need dn) ∧ Fr B TD [sm] w2 w') := Lib.hid (write_any l H2.out.di H2.out.cell hrow hlen (fun a ha => (hroom.2 a ha).1.2) hd2 H2.out.hB (by omega) (by omega) (by omega) H2.out.hsm)
      have Hlen := Lib.hid hlen
      have Hoo := Lib.hid hoo
      have Hd2 := Lib.hid hd2
      clear hroom hrow hlen hz hkn hruns hoo hd2
      generalize hq : need dn = q at *
      go_upto_region 8 with (go_at_call 19; refine HW.out.mono ?_; clear HW; rintro e w3 ⟨rfl, hdi, hf⟩; have Hdi := Lib.hid hdi; have Hf := Lib.hid hf; clear hdi hf)
      have hql : q ≤ 62 := by have := Hlen.out; omega
      have H3 := Lib.hid ((H2.out.mono (Nat.le_succ k) (Nat.le_refl D)).disk Hf.out Hdi.out (by omega))
      obtain ⟨es, cm, hkm⟩ := H2.out.di.seen.kind
      have HK3 : Hid (Kp B w w3) := Lib.hid (HK2.out.trans (Kp.of_fr Hf.out (by decide) (fun b hb cs fr e => by
        simp only [List.mem_singleton] at hb
        rw [hb, hkm] at e
        cases e)))
      have Hd3 : Hid (Data w3 B da dn dc) := Lib.hid (Hd2.out.fr Hf.out (by decide) (fun b hb cs fr e => by
        simp only [List.mem_singleton] at hb
        rw [hb, hkm] at e
        cases e))
      have Hr3 : Hid (w3.ownsRow B 3 1 (.slice o q cc) q (nats l)) := Lib.hid (ownsRow_mono (Hf.out.keepRow Hrow.out (by decide) (fun b hb hm => by
        simp only [List.mem_singleton] at hm
        obtain ⟨cur, h1⟩ := own_kind Hrow.out hb
        rw [hm, hkm] at h1
        cases h1)) H1.out.hB)
      have hG3 : 8 ≤ w3.heap.size := by have := HK3.out.below.size; omega
      have HS : Hid (Calls Tryd.prog 29 #[.slice da dn dc] w3 fun e w' => ∃ s : Nat, s < 4294967296 ∧ e = .returned (.int .u32 s) ∧ Below w3.heap.size w3 w') := Lib.hid (sum_some hH hG3 (m := dn) (by
        obtain ⟨bs, a1, a2, a3, _⟩ := Hd3.out
        exact ⟨bs, a1, a2, a3⟩) (by omega))
      clear hkm
      go_upto_region 10 with fail
      have HG : Hid (∀ (u : Nat) (w4 : World), u < 4294967296 → Below w3.heap.size w3 w4 → Calls Tryd.prog 28 #[.pointer (some ⟨sb, 0, none⟩), encStr s, .agg #[.bool false, .int .i64 (dn : Nat), .int .u32 (u : Nat), .slice o q cc]] w4 (StageEnd w4 B db sm sb (k + 1) D (t + q) tb tc nb xb slot gen dv g s ⟨false, dn, (u : Nat), l⟩)) := Lib.hid (fun u w4 hu hb4 => by
        have ho4 := Olds.of_below hb4
        have h4 := H3.out.olds ho4
        have hle := Hlen.out
        refine stage_any (f := ⟨false, dn, (u : Nat), l⟩) h4 h4.hB (by omega) hno.out ⟨Hs.out, by simp only; omega, ⟨by simp only; omega, by simp only; omega⟩, fun a ha => by have := (Hroom.out.2 a ha).1.2; omega, by simp only; omega⟩ ?_ Hoo.out Hroom.out (by simp only; omega) (by simp only; omega)
        have := ownsRow_olds Hr3.out ho4
        rw [← hle] at this
        simp only
        rw [hle] at this ⊢
        exact this)
      go_wp2_with (first | (go_at_call 29; refine HS.out.mono ?_; clear HS; rintro e w4 ⟨u, hu, rfl, hb4⟩; have Hb4 := Lib.hid hb4; have Hu := Lib.hid hu; clear hb4 hu) | (go_at_call 28; refine (HG.out u w4 Hu.out Hb4.out).mono ?_; rintro e w5 ⟨rfl, hk5, hs5⟩; have Hk5 := Lib.hid hk5; have Hs5 := Lib.hid hs5; clear hk5 hs5))
      go_ret
      refine ⟨(HK3.out.trans (Kp.of_below Hb4.out H3.out.hB)).trans Hk5.out, 0, rfl, .inr ⟨rfl, ?_⟩⟩
      obtain ⟨uv', h5⟩ := Hs5.out
      refine ⟨_, ⟨_, _, _, _, _, _, _, _, _, h5.mono (Nat.le_refl _) ?_⟩, rfl⟩
      have := Hruns.out
      unfold fileLen
      simp only
      omega
    · have hcp : 0 < c := by omega
      have hcb : ((c : Int) == 0) = false := by simp; omega
      go_wp2_with fail
      go_ret
      exact ⟨HK2.out, c, rfl, .inl ⟨hcp, ⟨_, _, _, _, _, _, _, _, _, H2.out.mono (by omega) (by omega)⟩⟩⟩
  · have hcp : 0 < c := by omega
    have hcb : ((c : Int) == 0) = false := by simp; omega
    go_wp2_with fail
    go_ret
    exact ⟨HK1.out, c, rfl, .inl ⟨hcp, ⟨_, _, _, _, _, _, _, _, _, H1.out.mono (by omega) (by omega)⟩⟩⟩
end Go.Proofs.YtndjmffnlcilbaaDoor
