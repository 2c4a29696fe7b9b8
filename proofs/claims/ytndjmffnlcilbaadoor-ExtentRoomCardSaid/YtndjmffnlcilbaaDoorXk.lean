/- Contracts over this program. Their conditions: the slices read as the lists that are named, and lie within the sizes that are named. -/
import Derived.Test.YtndjmffnlcilbaaDoorXd
import Derived.Test.YtndjmffnlcilbaaDoorXj
import Derived.Test.YtndjmffnlcilbaaDoorXc
import Derived.Deep.CutRange
import Derived.StillTailTactics
import Derived.Deep.RegionHeldLaw
set_option linter.unusedSimpArgs false
set_option linter.unusedVariables false
set_option linter.deprecated false
set_option linter.unnecessarySimpa false
namespace Go.Proofs.YtndjmffnlcilbaaDoor
open Go Go.RowKit Go.Ix Go.Ext Go.Maps
abbrev TC : List Nat := [3, 30, 75]
abbrev TS : List Nat := [3, 1, 30, 75]
def Clo (w : World) (B sb tb n : Nat) (f : Value) (p : List Nat × Int) : Prop :=
  (∀ a ∈ p.1, a < n) ∧ p.1.length ≤ 1000 ∧ ∃ (b1 b2 : Nat) (lg : Bool) (z : Nat) (u : Int) (v : Value),
    ((p.2 = -1 ∧ f = .func (.func 49) #[] #[.pointer (some ⟨b1, 0, none⟩), .pointer (some ⟨b2, 0, none⟩)]) ∨ (p.2 = 1 ∧ f = .func (.func 32) #[] #[.pointer (some ⟨b1, 0, none⟩), .pointer (some ⟨b2, 0, none⟩)])) ∧
    w.heap[b1]? = some (.cells #[.pointer (some ⟨sb, 0, none⟩)] 30 (0, 0)) ∧ w.heap[b2]? = some (.cells #[.bool lg, .int .i64 (z : Nat), .int .u32 u, v] 75 (0, 0)) ∧
    w.ownsRow B 3 1 v p.1.length (nats p.1) ∧ v.ownBlock ≠ some tb
def UndoRow (w : World) (B sb tb n : Nat) (uv : Value) (us : List Value) (u : List (List Nat × Int)) : Prop :=
  w.ownsRow B 1 1 uv u.length us ∧ us.length = u.length ∧ ∀ (i : Nat) (p : List Nat × Int), u[i]? = some p → ∃ f, us[i]? = some f ∧ Clo w B sb tb n f p
def UndoAt (w : World) (B sb tb n : Nat) (uv : Value) (u : List (List Nat × Int)) : Prop := ∃ us, UndoRow w B sb tb n uv us u
structure SR (w : World) (B sb tb tc nb xb nm : Nat) (uv dv : Value) (g : G) : Prop where
  bnb : B ≤ nb
  bxb : B ≤ xb
  nx : nb ≠ xb
  now : SMap w B tb nb nm g.now
  next : SMap w B tb xb nm g.next
  taken : Taken w B tb g.n tc g.T
  dir : w.ownsRow B 3 1 dv g.dir.length (nats g.dir)
  dirne : dv.ownBlock ≠ some tb
  undo : UndoAt w B sb tb g.n uv g.undo
  fok : ∀ p ∈ g.now, FileOk p
  fokx : ∀ p ∈ g.next, FileOk p
section
variable {w W : World} {B sb tb tc nb xb nm n : Nat} {uv dv : Value} {g : G}
def CellsKept (ts : List Nat) (tb : Nat) (w W : World) : Prop := ∀ b cs ty fr, ty ∈ ts → b ≠ tb → w.heap[b]? = some (.cells cs ty fr) → W.heap[b]? = some (.cells cs ty fr)
theorem CellsKept.sub {ts : List Nat} (hc : CellsKept TS tb w W) (h : ∀ t ∈ ts, t ∈ TS) : CellsKept ts tb w W := fun b cs ty fr ht => hc b cs ty fr (h ty ht)
theorem CellsKept.less (hc : CellsKept TS tb w W) : CellsKept TC tb w W := hc.sub (by simp)
theorem row_kept {ts : List Nat} {v : Value} {m : Nat} {xs : List Value} {e : Nat} (h : w.ownsRow B e 1 v m xs) (he : e ∈ ts) (hv : v.ownBlock ≠ some tb) (hc : CellsKept ts tb w W) : W.ownsRow B e 1 v m xs := ownsRow_blocks h fun k hk => by
  obtain ⟨cur, h1⟩ := own_kind h hk
  rw [h1]
  exact hc _ _ _ _ he (fun e => hv (by rw [hk, e])) h1
theorem ne_taken {T : Nat → Int} (hT : Taken w B tb n tc T) {b : Nat} {cs : Array Value} {ty : TypeId} {fr : Nat × Nat} (h : w.heap[b]? = some (.cells cs ty fr)) (ht : ty ≠ 3) : b ≠ tb := fun e => by
  obtain ⟨cur, hc⟩ := own_kind hT (g := tb) rfl
  rw [← e, h] at hc
  simp only [Option.some.injEq, Obj.cells.injEq] at hc
  exact ht hc.2.1
theorem Clo.kept {T : Nat → Int} (hT : Taken w B tb n tc T) {f : Value} {p : List Nat × Int} (h : Clo w B sb tb n f p) (hc : CellsKept TC tb w W) : Clo W B sb tb n f p := by
  obtain ⟨h1, h2, b1, b2, lg, z, u, v, h3, h4, h5, h6, h7⟩ := h
  exact ⟨h1, h2, b1, b2, lg, z, u, v, h3, hc _ _ _ _ (by simp) (ne_taken hT h4 (by decide)) h4, hc _ _ _ _ (by simp) (ne_taken hT h5 (by decide)) h5, row_kept h6 (by simp) h7 hc, h7⟩
theorem UndoAt.kept {T : Nat → Int} (hT : Taken w B tb n tc T) {u : List (List Nat × Int)} (h : UndoAt w B sb tb n uv u) (hc : CellsKept TS tb w W) : UndoAt W B sb tb n uv u := by
  obtain ⟨us, h1, h2, h3⟩ := h
  refine ⟨us, row_kept h1 (by simp) (fun e => ?_) hc, h2, fun i p hp => ?_⟩
  · obtain ⟨cur, hc⟩ := own_kind h1 e
    exact ne_taken hT hc (by decide) rfl
  · obtain ⟨f, h4, h5⟩ := h3 i p hp
    exact ⟨f, h4, h5.kept hT hc.less⟩
theorem SR.keep {T' : Nat → Int} (h : SR w B sb tb tc nb xb nm uv dv g) (hm : W.heap[nb]? = w.heap[nb]?) (hx : W.heap[xb]? = w.heap[xb]?) (hc : CellsKept TS tb w W) (hT : Taken W B tb g.n tc T') : SR W B sb tb tc nb xb nm uv dv { g with T := T' } :=
  ⟨h.bnb, h.bxb, h.nx, h.now.keep hm (fun b cs fr hb => hc b cs _ fr (by simp) hb), h.next.keep hx (fun b cs fr hb => hc b cs _ fr (by simp) hb), hT, row_kept h.dir (by simp) h.dirne hc, h.dirne, h.undo.kept h.taken hc, h.fok, h.fokx⟩
theorem SR.olds (h : SR w B sb tb tc nb xb nm uv dv g) (ho : Olds w W) : SR W B sb tb tc nb xb nm uv dv g :=
  h.keep (T' := g.T) (ho.2 _ h.now.lt) (ho.2 _ h.next.lt) (fun b cs ty fr _ _ hb => (ho.2 _ (heap_lt hb)).trans hb) (ownsRow_olds h.taken ho)
theorem SR.fr (h : SR w B sb tb tc nb xb nm uv dv g) {B' : Nat} {T M : List Nat} (hf : Fr B' T M w W) (ht : ∀ t ∈ TS, t ∉ T) (hn : nb ∉ M) (hx : xb ∉ M) (hM : ∀ b ∈ M, ∀ cs ty fr, ty ∈ TS → w.heap[b]? ≠ some (.cells cs ty fr)) : SR W B sb tb tc nb xb nm uv dv g := by
  obtain ⟨es, c, hk⟩ := h.now.kind
  obtain ⟨es', c', hk'⟩ := h.next.kind
  refine h.keep (T' := g.T) ((hf.keepMap hk hn).trans hk.symm) ((hf.keepMap hk' hx).trans hk'.symm) (fun b cs ty fr hty _ hb => hf.keep hb (fun hm => hM b hm cs ty fr hty hb) (ht ty hty)) ?_
  exact hf.keepRow h.taken (ht _ (by simp)) (fun k hk => fun hm => by
    obtain ⟨cur, hc⟩ := own_kind h.taken hk
    exact hM k hm _ _ _ (by simp) hc)
theorem SR.on {T' : Nat → Int} (h : SR w B sb tb tc nb xb nm uv dv g) (ho : On tb w W) (hT : Taken W B tb g.n tc T') : SR W B sb tb tc nb xb nm uv dv { g with T := T' } := by
  have hne : ∀ {b : Nat} {es : Array MapEntry} {c : Nat}, w.heap[b]? = some (.map es c) → b ≠ tb := fun {b es c} hb e => by
    obtain ⟨cur, hc⟩ := own_kind h.taken (g := tb) rfl
    rw [← e, hb] at hc
    cases hc
  obtain ⟨es, c, hk⟩ := h.now.kind
  obtain ⟨es', c', hk'⟩ := h.next.kind
  exact h.keep (ho.block _ (hne hk)) (ho.block _ (hne hk')) (fun b cs ty fr _ hb hc => (ho.block b hb).trans hc) hT
theorem SR.put (h : SR w B sb tb tc nb xb nm uv dv g) {nm' : Nat} {next' : Fs} (hg : w.grownBy W (some xb)) (hN : SMap W B tb xb nm' next') (hnm : nm ≤ nm') (hfo : ∀ p ∈ next', FileOk p) : SR W B sb tb tc nb xb nm' uv dv { g with next := next' } := by
  obtain ⟨es, c, hk⟩ := h.next.kind
  have hc : CellsKept TS tb w W := fun b cs ty fr _ _ hb => (hg.block b (heap_lt hb) (fun e => by cases e; rw [hk] at hb; cases hb)).trans hb
  have hr : Taken W B tb g.n tc g.T := ownsRow_blocks h.taken fun k hk2 => by
    obtain ⟨cur, h1⟩ := own_kind h.taken hk2
    exact hg.block k (heap_lt h1) (fun e => by cases e; rw [hk] at h1; cases h1)
  exact ⟨h.bnb, h.bxb, h.nx, (h.now.keep (hg.block _ h.now.lt (fun e => h.nx (by cases e; rfl))) (fun b cs fr hb => hc b cs _ fr (by simp) hb)).mono hnm, hN, hr, row_kept h.dir (by simp) h.dirne hc, h.dirne, h.undo.kept h.taken hc, h.fok, hfo⟩
theorem UndoRow.push {T : Nat → Int} {us : List Value} {u : List (List Nat × Int)} {uv' f : Value} {p : List Nat × Int} (hT : Taken w B tb n tc T) (h : UndoRow w B sb tb n uv us u) (hc : CellsKept TC tb w W) (hr : W.ownsRow B 1 1 uv' (u.length + 1) (us ++ [f])) (hf : Clo W B sb tb n f p) : UndoAt W B sb tb n uv' (u ++ [p]) := by
  obtain ⟨_, h2, h3⟩ := h
  refine ⟨us ++ [f], by rw [List.length_append]; exact hr, by simp [h2], fun i q hq => ?_⟩
  rcases Nat.lt_or_ge i u.length with hi | hi
  · rw [List.getElem?_append_left hi] at hq
    obtain ⟨f', h4, h5⟩ := h3 i q hq
    exact ⟨f', by rw [List.getElem?_append_left (by omega)]; exact h4, h5.kept hT hc⟩
  · have hi2 : i = u.length := by
      have := (List.getElem?_eq_some_iff.1 hq).1
      simp at this
      omega
    subst hi2
    have : p = q := by simpa using hq
    subst this
    exact ⟨f, by rw [← h2]; simp, hf⟩
theorem SR.push (h : SR w B sb tb tc nb xb nm uv dv g) {uv' : Value} {u' : List (List Nat × Int)} (hg : w.grownBy W uv.ownBlock) (hu : UndoAt W B sb tb g.n uv' u') : SR W B sb tb tc nb xb nm uv' dv { g with undo := u' } := by
  obtain ⟨us, hr, _⟩ := h.undo
  have hne : ∀ {b : Nat} {o : Obj}, w.heap[b]? = some o → (∀ cs fr, o ≠ .cells cs 1 fr) → W.heap[b]? = some o := fun {b o} hb ho => (hg.block b (heap_lt hb) (fun e => by
    obtain ⟨cur, hc⟩ := own_kind hr e.symm
    rw [hc] at hb
    exact ho _ _ (Option.some.inj hb).symm)).trans hb
  obtain ⟨es, c, hk⟩ := h.now.kind
  obtain ⟨es', c', hk'⟩ := h.next.kind
  have hi : ∀ (b : Nat) (cs : Array Value) (fr : Nat × Nat), w.heap[b]? = some (.cells cs 3 fr) → W.heap[b]? = some (.cells cs 3 fr) := fun b cs fr hb => hne hb (fun cs' fr' e => by
    simp only [Obj.cells.injEq] at e
    exact absurd e.2.1 (by decide))
  have hrow : ∀ {v : Value} {m : Nat} {xs : List Value}, w.ownsRow B 3 1 v m xs → W.ownsRow B 3 1 v m xs := fun {v m xs} hr => ownsRow_blocks hr fun k hk => by
    obtain ⟨cur, h1⟩ := own_kind hr hk
    rw [h1]
    exact hi _ _ _ h1
  exact ⟨h.bnb, h.bxb, h.nx, h.now.keep ((hne hk (fun _ _ e => by cases e)).trans hk.symm) (fun b cs fr _ => hi b cs fr), h.next.keep ((hne hk' (fun _ _ e => by cases e)).trans hk'.symm) (fun b cs fr _ => hi b cs fr), hrow h.taken, hrow h.dir, h.dirne, hu, h.fok, h.fokx⟩
theorem cells_grown {us : List Value} {u : List (List Nat × Int)} (hr : UndoRow w B sb tb n uv us u) (hg : w.grownBy W uv.ownBlock) : CellsKept TC tb w W := fun b cs ty fr ht _ hb => (hg.block b (heap_lt hb) (fun e => by
  obtain ⟨cur, hc⟩ := own_kind hr.1 e.symm
  rw [hc] at hb
  simp only [Option.some.injEq, Obj.cells.injEq] at hb
  rw [← hb.2.1] at ht
  exact absurd ht (by decide))).trans hb
theorem SR.but (h : SR w B sb tb tc nb xb nm uv dv g) {b0 : Nat} {cs0 : Array Value} {ty0 : TypeId} {fr0 : Nat × Nat} (h0 : w.heap[b0]? = some (.cells cs0 ty0 fr0)) (ht : ty0 ∉ TS) (hb : ∀ b, b ≠ b0 → W.heap[b]? = w.heap[b]?) : SR W B sb tb tc nb xb nm uv dv g := by
  have hne : ∀ {b : Nat} {es : Array MapEntry} {c : Nat}, w.heap[b]? = some (.map es c) → b ≠ b0 := fun {b es c} hb e => by
    rw [e, h0] at hb
    cases hb
  have hne2 : ∀ {b : Nat} {cs : Array Value} {ty : TypeId} {fr : Nat × Nat}, w.heap[b]? = some (.cells cs ty fr) → ty ∈ TS → b ≠ b0 := fun {b cs ty fr} hb hty e => by
    rw [e, h0] at hb
    simp only [Option.some.injEq, Obj.cells.injEq] at hb
    rw [hb.2.1] at ht
    exact ht hty
  obtain ⟨es, c, hk⟩ := h.now.kind
  obtain ⟨es', c', hk'⟩ := h.next.kind
  refine h.keep (T' := g.T) (hb _ (hne hk)) (hb _ (hne hk')) (fun b cs ty fr hty _ hc => (hb b (hne2 hc hty)).trans hc) (ownsRow_blocks h.taken fun k hk2 => ?_)
  obtain ⟨cur, h1⟩ := own_kind h.taken hk2
  exact hb k (hne2 h1 (by simp))
end
abbrev SCell (w : World) (sb db tb tc nb xb n : Nat) (slot gen : Nat) (uv dv : Value) : Prop :=
  w.heap[sb]? = some (.cells #[.pointer (some ⟨db, 0, none⟩), .int .i64 (slot : Nat), .int .u64 (gen : Nat), .map (some nb), .map (some xb), uv, dv, .bool false, .slice (some ⟨tb, 0, none⟩) n tc] 61 (0, 0))
structure SIx (w : World) (B db sm sb k D t tb tc nb xb slot gen : Nat) (uv dv : Value) (g : G) : Prop where
  bsb : B ≤ sb
  cell : SCell w sb db tb tc nb xb g.n slot gen uv dv
  rest : SR w B sb tb tc nb xb k uv dv g
  di : DI w B db sm g.n t
  ht : t ≤ 100 * k
  hslot : slot ≤ 1
  hgen : gen ≤ k + 1
  hu : g.undo.length ≤ k
  hd : dirLen g.now ≤ D
  hdx : dirLen g.next ≤ D
  smn : sm ≠ nb
  smx : sm ≠ xb
  inv : Inv g
def SI (w : World) (B db sm sb k D : Nat) (g : G) : Prop := ∃ t tb tc nb xb slot gen uv dv, SIx w B db sm sb k D t tb tc nb xb slot gen uv dv g
structure Kp (B : Nat) (w w' : World) : Prop where
  below : Below B w w'
  ops : ∀ (b : Nat) (cs : Array Value) (fr : Nat × Nat), w.heap[b]? = some (.cells cs 36 fr) → w'.heap[b]? = some (.cells cs 36 fr)
theorem Kp.refl (B : Nat) (w : World) : Kp B w w := ⟨Below.refl _ _, fun _ _ _ h => h⟩
theorem Kp.trans {B : Nat} {a b c : World} (h : Kp B a b) (k : Kp B b c) : Kp B a c := ⟨h.below.trans k.below, fun x cs fr hx => k.ops x cs fr (h.ops x cs fr hx)⟩
theorem Kp.of_fr {B : Nat} {T M : List Nat} {w w' : World} (h : Fr B T M w w') (ht : 36 ∉ T) (hM : ∀ b ∈ M, ∀ (cs : Array Value) (fr : Nat × Nat), w.heap[b]? ≠ some (.cells cs 36 fr)) : Kp B w w' := ⟨h.below, fun b cs fr hb => h.keep hb (fun hm => hM b hm cs fr hb) ht⟩
theorem Kp.of_below {B : Nat} {w w' : World} (h : Below w.heap.size w w') (hB : B ≤ w.heap.size) : Kp B w w' := Kp.of_fr (Fr.of_below h hB [] []) (by simp) (by simp)
theorem Kp.but {B b0 : Nat} {w w' : World} {cs0 : Array Value} {ty0 : TypeId} {fr0 : Nat × Nat} (h0 : w.heap[b0]? = some (.cells cs0 ty0 fr0)) (ht : ty0 ≠ 36) (hbe : Below B w w') (hb : ∀ b, b ≠ b0 → w'.heap[b]? = w.heap[b]?) : Kp B w w' := ⟨hbe, fun b cs fr hc => (hb b (fun e => by
  rw [e, h0] at hc
  simp only [Option.some.injEq, Obj.cells.injEq] at hc
  exact ht hc.2.1)).trans hc⟩
theorem Kp.grown {B b0 : Nat} {w w' : World} {o : Obj} (h0 : w.heap[b0]? = some o) (ho : ∀ cs fr, o ≠ .cells cs 36 fr) (hB : B ≤ b0) (hB2 : B ≤ w.heap.size) (hg : w.grownBy w' (some b0)) : Kp B w w' := ⟨(Below.refl _ _).grown hg hB2 (fun b hb => by cases hb; exact hB), fun b cs fr hc => (hg.block b (heap_lt hc) (fun e => by
  cases e
  rw [h0] at hc
  exact ho _ _ (Option.some.inj hc))).trans hc⟩
def Mk (w : World) (bad M : List Nat) : Prop := ∀ b ∈ M, (∃ es c, w.heap[b]? = some (.map es c)) ∨ ∃ cs ty fr, w.heap[b]? = some (.cells cs ty fr) ∧ ty ∉ bad
theorem Mk.not {w : World} {bad M : List Nat} (h : Mk w bad M) {b : Nat} (hb : b ∈ M) {cs : Array Value} {ty : Nat} {fr : Nat × Nat} (ht : ty ∈ bad) : w.heap[b]? ≠ some (.cells cs ty fr) := fun e => by
  rcases h b hb with ⟨es, c, h1⟩ | ⟨cs', ty', fr', h1, h2⟩
  · rw [h1] at e
    cases e
  · rw [h1] at e
    simp only [Option.some.injEq, Obj.cells.injEq] at e
    rw [e.2.1] at h2
    exact h2 ht
theorem DI.fr {w W : World} {B B' db sm n t : Nat} {T M : List Nat} (h : DI w B db sm n t) (hf : Fr B' T M w W) (hT : ∀ x ∈ TD, x ∉ T) (hsm : sm ∉ M) (hM : Mk w TD M) : DI W B db sm n t := by
  obtain ⟨lv, cv, q1, q2, q3, h3, _⟩ := h.cell
  exact h.keep hf hT ⟨fun hm => hM.not hm (by simp) h3, hsm⟩ (fun g cs fr hc hm => hM.not hm (by simp) hc) (fun g cs fr hc hm => hM.not hm (by simp) hc)
theorem Kp.fr {B : Nat} {T M : List Nat} {w w' : World} (h : Fr B T M w w') (ht : 36 ∉ T) (hM : Mk w [36] M) : Kp B w w' := Kp.of_fr h ht (fun b hb cs fr => hM.not hb (by simp))
theorem SR.marks {w : World} {B sb tb tc nb xb nm : Nat} {uv dv : Value} {g : G} (h : SR w B sb tb tc nb xb nm uv dv g) {bad : List Nat} (hb : 3 ∉ bad) : Mk w bad [nb, xb, tb] := fun b hm => by
  simp only [List.mem_cons, List.not_mem_nil, or_false] at hm
  rcases hm with rfl | rfl | rfl
  · exact .inl h.now.kind
  · exact .inl h.next.kind
  · obtain ⟨cur, hc⟩ := own_kind h.taken (g := b) rfl
    exact .inr ⟨_, _, _, hc, hb⟩
theorem Mk.sub {w : World} {bad M M' : List Nat} (h : Mk w bad M) (hs : ∀ b ∈ M', b ∈ M) : Mk w bad M' := fun b hb => h b (hs b hb)
theorem SR.btb {w : World} {B sb tb tc nb xb nm : Nat} {uv dv : Value} {g : G} (h : SR w B sb tb tc nb xb nm uv dv g) : B ≤ tb := (ownsRow_block h.taken (g := tb) rfl).1
theorem SIx.smtb {w : World} {B db sm sb k D t tb tc nb xb slot gen : Nat} {uv dv : Value} {g : G} (h : SIx w B db sm sb k D t tb tc nb xb slot gen uv dv g) : sm ≠ tb := fun e => by
  obtain ⟨es, c, hk⟩ := h.di.seen.kind
  obtain ⟨cur, hc⟩ := own_kind h.rest.taken (g := tb) rfl
  rw [← e, hk] at hc
  cases hc
theorem UndoRow.olds {w W : World} {B sb tb tc n : Nat} {uv : Value} {us : List Value} {u : List (List Nat × Int)} {T : Nat → Int} (hT : Taken w B tb n tc T) (h : UndoRow w B sb tb n uv us u) (ho : Olds w W) : UndoRow W B sb tb n uv us u :=
  ⟨ownsRow_olds h.1 ho, h.2.1, fun i p hp => by
    obtain ⟨f, h4, h5⟩ := h.2.2 i p hp
    exact ⟨f, h4, h5.kept hT (fun b cs ty fr _ _ hb => (ho.2 _ (heap_lt hb)).trans hb)⟩⟩
end Go.Proofs.YtndjmffnlcilbaaDoor
namespace Go.Proofs.YtndjmffnlcilbaaDoor
open Go Go.RowKit Go.Ix Go.Ext Go.Maps
theorem Tryd.info1 : (Tryd.prog.info? 1).map (fun i => (i.zero, i.size, i.bytes)) = some (some .nilFunc, 1, 8) := by kernel_rfl
def StageEnd (w : World) (B db sm sb k D t tb tc nb xb slot gen : Nat) (dv : Value) (g : G) (s : Txt) (f : Fi) (e : Ending) (w' : World) : Prop :=
  e = .returned (.tuple #[]) ∧ Kp B w w' ∧ ∃ uv', SIx w' B db sm sb (k + 1) (D + fileLen (s, f)) t tb tc nb xb slot gen uv' dv { g with next := (s, f) :: g.next, T := fun a => g.T a + 1 * ((f.secs.count a : Nat) : Int), undo := g.undo ++ [(f.secs, -1)] }
set_option maxRecDepth 20000 in
set_option maxHeartbeats 4000000 in
theorem stage_any {w : World} {B db sm sb k D t tb tc nb xb slot gen : Nat} {uv dv v : Value} {g : G} {s : Txt} {f : Fi} (h : SIx w B db sm sb k D t tb tc nb xb slot gen uv dv g) (hB : B ≤ w.heap.size) (hk : k ≤ 1000) (hs : s ∉ keys g.next) (hf : FileOk (s, f)) (hr : w.ownsRow B 3 1 v f.secs.length (nats f.secs)) (hv : v.ownBlock ≠ some tb) (hroom : Room g f.secs) (hlen : f.secs.length = need f.size) (hl2 : f.secs.length ≤ 1000) :
    Calls Tryd.prog 28 #[.pointer (some ⟨sb, 0, none⟩), encStr s, fval f v] w (StageEnd w B db sm sb k D t tb tc nb xb slot gen dv g s f) := by
  obtain ⟨fo, fc, rfl, _⟩ := ownsRow_shape hr
  obtain ⟨k1, k2, ⟨k3, k4⟩, k5, k6⟩ := hf
  simp only at k1 k2 k3 k4 k5 k6
  obtain ⟨X, hX⟩ : ∃ X : World, X = (w.alloc (.cells #[.pointer (some ⟨sb, 0, none⟩)] 30)).alloc (.cells #[.bool f.log, .int .i64 (f.size : Nat), .int .u32 f.sum, .slice fo f.secs.length fc] 75) := ⟨_, rfl⟩
  have hXs : X.heap.size = w.heap.size + 2 := by rw [hX]; simp
  have hXo : Olds w X := by rw [hX]; exact (Olds.alloc _ _).trans (Olds.alloc _ _)
  have hXb : Below w.heap.size w X := by rw [hX]; exact ((Below.refl _ _).alloc (Nat.le_refl _) _).alloc (by simp) _
  have hb1 : X.heap[w.heap.size]? = some (.cells #[.pointer (some ⟨sb, 0, none⟩)] 30 (0, 0)) := by
    rw [hX]
    exact (Below.heap_alloc _ _ _ (by simp)).trans (heap_alloc_new _ _)
  have hb2 : X.heap[w.heap.size + 1]? = some (.cells #[.bool f.log, .int .i64 (f.size : Nat), .int .u32 f.sum, .slice fo f.secs.length fc] 75 (0, 0)) := by
    rw [hX]
    have := heap_alloc_new (w.alloc (.cells #[.pointer (some ⟨sb, 0, none⟩)] 30)) (.cells #[.bool f.log, .int .i64 (f.size : Nat), .int .u32 f.sum, .slice fo f.secs.length fc] 75)
    simpa using this
  have hXc := (hXo.2 _ (heap_lt h.cell)).trans h.cell
  have HSX := Lib.hid (h.rest.olds hXo)
  have HX := Lib.hid hX
  have HXo := Lib.hid hXo
  have HXb := Lib.hid hXb
  have HXc := Lib.hid hXc
  have Hb1 := Lib.hid hb1
  have Hb2 := Lib.hid hb2
  have H := Lib.hid h
  have Hr := Lib.hid hr
  have Hroom := Lib.hid hroom
  have hnk := h.rest.bnb
  have Hlen := Lib.hid hlen
  clear hX hXo hXb hXc hb1 hb2 h hroom hr hlen
  unfold fval
  go_enter Tryd.func28, Tryd.ntmps28
  go_upto_region 1 with fail
  rw [← HX.out]
  obtain ⟨w2, hup, hm2, hg2⟩ := SMap.store (w := X.drew) (s := s) (f := f) (v := .slice fo f.secs.length fc) (HSX.out.next.olds (W := X.drew) (Olds.drewN X 1)) (by omega) (by omega) hs (ownsRow_olds Hr.out (HXo.out.trans (Olds.drewN X 1))) hv
  unfold fval at hup
  have hS0 : X.drew.cell? ⟨w.heap.size, 0, none⟩ = some (.pointer (some ⟨sb, 0, none⟩)) ∧ X.drew.cell? ⟨sb, 4, none⟩ = some (.map (some xb)) ∧ X.drew.cell? ⟨w.heap.size + 1, 0, none⟩ = some (.bool f.log) ∧ X.drew.cell? ⟨w.heap.size + 1, 1, none⟩ = some (.int .i64 (f.size : Nat)) ∧ X.drew.cell? ⟨w.heap.size + 1, 2, none⟩ = some (.int .u32 f.sum) ∧ X.drew.cell? ⟨w.heap.size + 1, 3, none⟩ = some (.slice fo f.secs.length fc) := by
    have e1 : X.drew.heap = X.heap := rfl
    refine ⟨?_, ?_, ?_, ?_, ?_, ?_⟩
    · rw [cell_of_heap (e1 ▸ Hb1.out)]; rfl
    · rw [cell_of_heap (e1 ▸ HXc.out)]; rfl
    all_goals (rw [cell_of_heap (e1 ▸ Hb2.out)]; rfl)
  have HS0 := Lib.hid hS0
  obtain ⟨es, cm, hkm⟩ := HSX.out.next.kind
  have hS2 : w2.cell? ⟨w.heap.size, 0, none⟩ = some (.pointer (some ⟨sb, 0, none⟩)) ∧ w2.cell? ⟨sb, 4, none⟩ = some (.map (some xb)) ∧ w2.cell? ⟨w.heap.size + 1, 0, none⟩ = some (.bool f.log) ∧ w2.cell? ⟨w.heap.size + 1, 1, none⟩ = some (.int .i64 (f.size : Nat)) ∧ w2.cell? ⟨w.heap.size + 1, 2, none⟩ = some (.int .u32 f.sum) ∧ w2.cell? ⟨w.heap.size + 1, 3, none⟩ = some (.slice fo f.secs.length fc) := by
    have hc2 : ∀ {b j : Nat} {v : Value}, X.drew.cell? ⟨b, j, none⟩ = some v → w2.cell? ⟨b, j, none⟩ = some v := fun {b j v} hc => (World.cell?_of_block (w := X.drew) (w' := w2) (hg2.block b (cell_lt hc) (fun e => cell_not_map hc (m := xb) hkm (by cases e; rfl)))).trans hc
    obtain ⟨a1, a2, a3, a4, a5, a6⟩ := hS0
    exact ⟨hc2 a1, hc2 a2, hc2 a3, hc2 a4, hc2 a5, hc2 a6⟩
  have HS2 := Lib.hid hS2
  have Hm2 := Lib.hid hm2
  have Hg2 := Lib.hid hg2
  clear hS0 hS2 hm2 hg2 hkm
  refine wp_region_held_drew (S := (fun W' => W'.cell? ⟨w.heap.size, 0, none⟩ = some (.pointer (some ⟨sb, 0, none⟩)) ∧ W'.cell? ⟨sb, 4, none⟩ = some (.map (some xb)) ∧ W'.cell? ⟨w.heap.size + 1, 0, none⟩ = some (.bool f.log) ∧ W'.cell? ⟨w.heap.size + 1, 1, none⟩ = some (.int .i64 (f.size : Nat)) ∧ W'.cell? ⟨w.heap.size + 1, 2, none⟩ = some (.int .u32 f.sum) ∧ W'.cell? ⟨w.heap.size + 1, 3, none⟩ = some (.slice fo f.secs.length fc))) (by kernel_rfl) HS0.out (fun hHeld => ?_)
  refine wpAnyH_take (i := 0) (v := ?v0) rfl (by kernel_rfl) (by kernel_rfl) (by kernel_rfl) (fun _ _ _ h => h) (Or.inl ⟨by rfl, ?h0⟩) hHeld ?r0
  case h0 =>
    rintro W ⟨s1, s2, s3, s4, s5, s6⟩
    go_simp
    all_goals with_reducible rfl
  try simp only [Act.put, List.setIfInBounds_toArray, List.set_cons_zero, List.set_cons_succ]
  refine wpAnyH_take (i := 1) (v := ?v1) rfl (by kernel_rfl) (by kernel_rfl) (by kernel_rfl) (fun _ _ _ h => h) (Or.inl ⟨by rfl, ?h1⟩) hHeld ?r1
  case h1 =>
    rintro W ⟨s1, s2, s3, s4, s5, s6⟩
    go_simp
    all_goals with_reducible rfl
  try simp only [Act.put, List.setIfInBounds_toArray, List.set_cons_zero, List.set_cons_succ]
  refine wpAnyH_take (i := 2) (v := ?v2) rfl (by kernel_rfl) (by kernel_rfl) (by kernel_rfl) (fun _ _ _ h => h) (Or.inl ⟨by rfl, ?h2⟩) hHeld ?r2
  case h2 =>
    rintro W ⟨s1, s2, s3, s4, s5, s6⟩
    go_simp
    all_goals with_reducible rfl
  try simp only [Act.put, List.setIfInBounds_toArray, List.set_cons_zero, List.set_cons_succ]
  refine wpAnyH_take (i := 3) (v := ?v3) rfl (by kernel_rfl) (by kernel_rfl) (by kernel_rfl) (fun _ _ _ h => h) (Or.inl ⟨by rfl, ?h3⟩) hHeld ?r3
  case h3 =>
    rintro W ⟨s1, s2, s3, s4, s5, s6⟩
    go_simp
    all_goals with_reducible rfl
  try simp only [Act.put, List.setIfInBounds_toArray, List.set_cons_zero, List.set_cons_succ]
  refine wpAnyH_take (i := 4) (v := ?v4) rfl (by kernel_rfl) (by kernel_rfl) (by kernel_rfl) (fun _ _ _ h => h) (Or.inl ⟨by rfl, ?h4⟩) hHeld ?r4
  case h4 =>
    rintro W ⟨s1, s2, s3, s4, s5, s6⟩
    go_simp
    all_goals with_reducible rfl
  try simp only [Act.put, List.setIfInBounds_toArray, List.set_cons_zero, List.set_cons_succ]
  refine wpAnyH_take (i := 5) (v := ?v5) rfl (by kernel_rfl) (by kernel_rfl) (by kernel_rfl) (fun _ _ _ h => h) (Or.inl ⟨by rfl, ?h5⟩) hHeld ?r5
  case h5 =>
    rintro W ⟨s1, s2, s3, s4, s5, s6⟩
    go_simp
    all_goals with_reducible rfl
  try simp only [Act.put, List.setIfInBounds_toArray, List.set_cons_zero, List.set_cons_succ]
  refine wpAnyH_ready (rs := [6]) (by kernel_rfl) (by simp) (AllReadyH.cons rfl (fun K hK => ?_) AllReadyH.nil)
  go_simp
  refine hK.out _ _ HS2.out (fun hHeld2 => ?_)
  clear hK K
  try simp only [Act.put, List.setIfInBounds_toArray, List.set_cons_zero, List.set_cons_succ]
  refine wpAnyH_done (by kernel_rfl) ?_ _
  have hW2 : ∀ {b : Nat} {cs : Array Value} {ty : TypeId} {fr : Nat × Nat}, X.heap[b]? = some (.cells cs ty fr) → w2.heap[b]? = some (.cells cs ty fr) := fun {b cs ty fr} hb => by
    obtain ⟨es, cm, hkm⟩ := HSX.out.next.kind
    exact (Hg2.out.block b (heap_lt hb) (fun e => by cases e; rw [hkm] at hb; cases hb)).trans hb
  have HS2r := Lib.hid ((HSX.out.olds (W := X.drew) (Olds.drewN X 1)).put Hg2.out Hm2.out (Nat.le_succ _) (fun p hp => by
    rcases List.mem_cons.1 hp with rfl | hp
    · exact ⟨k1, k2, ⟨k3, k4⟩, k5, k6⟩
    · exact H.out.rest.fokx p hp))
  have Hc2 := Lib.hid (hW2 HXc.out)
  have Hb12 := Lib.hid (hW2 Hb1.out)
  have Hb22 := Lib.hid (hW2 Hb2.out)
  have HTb : Hid (∀ a, 0 ≤ g.T a ∧ g.T a ≤ 1) := Lib.hid (fun a => ⟨H.out.inv.nonneg a, H.out.inv.B a⟩)
  have hr2 : w2.ownsRow B 3 1 (.slice fo f.secs.length fc) f.secs.length (nats f.secs) := row_kept (ts := [3]) (ownsRow_olds Hr.out HXo.out) (by simp) hv (fun b cs ty fr _ _ hb => hW2 hb)
  have HH := Lib.hid (hold_any (w := w2) (B := B) (B' := B) f.secs 1 (.inl rfl) Hc2.out rfl HS2r.out.taken (fun a => by have h9 : 0 ≤ g.T a ∧ g.T a ≤ 1 := HTb.out a; show -1000000000 ≤ g.T a ∧ g.T a ≤ 1000000000; omega) hr2 hv (fun a ha => (Hroom.out.2 a ha).1.2) rfl (by omega) (by have := H.out.inv.hi; omega))
  have Hr2 := Lib.hid hr2
  have Hin := Lib.hid (show g.n ≤ 62 from H.out.inv.hi)
  clear hup hW2 hr2
  obtain ⟨q1, q2, q3, q4, q5, q6⟩ := HS2.out
  go_upto_region 3 with (go_at_call 31; refine HH.out.mono ?_; clear HH; rintro e w3 ⟨rfl, hT3, ho3⟩; have HT3 := Lib.hid hT3; have Ho3 := Lib.hid ho3; clear hT3 ho3)
  have HS3 := Lib.hid (HS2r.out.on Ho3.out HT3.out)
  have hne3 : ∀ {b : Nat} {cs : Array Value} {ty : TypeId} {fr : Nat × Nat}, w2.heap[b]? = some (.cells cs ty fr) → ty ≠ 3 → w3.heap[b]? = some (.cells cs ty fr) := fun {b cs ty fr} hb hne => (Ho3.out.block b (ne_taken HS2r.out.taken hb hne)).trans hb
  have Hc3 := Lib.hid (hne3 Hc2.out (by decide))
  have Hb13 := Lib.hid (hne3 Hb12.out (by decide))
  have Hb23 := Lib.hid (hne3 Hb22.out (by decide))
  have Hr3 := Lib.hid (Ho3.out.row Hr2.out hv)
  clear hne3 q1 q2 q3 q4 q5 q6
  obtain ⟨us, hu⟩ := HS3.out.undo
  obtain ⟨uo, uc, rfl, _⟩ := ownsRow_shape hu.1
  have Hu := Lib.hid hu
  clear hu
  have Huk := Lib.hid H.out.hu
  obtain ⟨un, hun⟩ : ∃ un, un = g.undo.length := ⟨_, rfl⟩
  have Hun := Lib.hid hun
  have hunk : un ≤ 1000 := by have := Huk.out; omega
  rw [← hun] at Hc3
  obtain ⟨V, hV⟩ : ∃ V : World, V = (w3.alloc (.cells #[(Value.func (.func 49) #[] #[.pointer (some ⟨w.heap.size, 0, none⟩), .pointer (some ⟨w.heap.size + 1, 0, none⟩)])] 1)).drew := ⟨_, rfl⟩
  have hVo : Olds w3 V := by rw [hV]; exact (Olds.alloc w3 _).trans (Olds.drewN _ 1)
  have HVo := Lib.hid hVo
  have HUV : Hid (V.ownsRow B 1 1 (.slice uo un uc) un us) := Lib.hid (by have h9 := ownsRow_olds Hu.out.1 hVo; rw [← hun] at h9; exact h9)
  have HSV := Lib.hid (HS3.out.olds hVo)
  have HbV : Hid (V.heap[w.heap.size]? = _ ∧ V.heap[w.heap.size + 1]? = _ ∧ V.heap[sb]? = _) := Lib.hid ⟨(hVo.2 _ (heap_lt Hb13.out)).trans Hb13.out, (hVo.2 _ (heap_lt Hb23.out)).trans Hb23.out, (hVo.2 _ (heap_lt Hc3.out)).trans Hc3.out⟩
  have hVs : V.heap.size = w3.heap.size + 1 := by rw [hV]; exact World.size_alloc _ _
  have HKV : Hid (∀ w5 : World, V.grownBy w5 (Value.slice uo un uc).ownBlock → w5.heap[w.heap.size]? = V.heap[w.heap.size]? ∧ w5.heap[w.heap.size + 1]? = V.heap[w.heap.size + 1]? ∧ w5.heap[sb]? = V.heap[sb]?) := Lib.hid (fun w5 hg5 => by
    have hk : ∀ {b : Nat} {cs : Array Value} {ty : TypeId} {fr : Nat × Nat}, V.heap[b]? = some (.cells cs ty fr) → ty ≠ 1 → w5.heap[b]? = V.heap[b]? := fun {b cs ty fr} hb hne => hg5.block b (heap_lt hb) (fun e => by
      obtain ⟨cur, hc⟩ := own_kind HUV.out e.symm
      rw [hc] at hb
      simp only [Option.some.injEq, Obj.cells.injEq] at hb
      exact hne hb.2.1.symm)
    exact ⟨hk HbV.out.1 (by decide), hk HbV.out.2.1 (by decide), hk HbV.out.2.2 (by decide)⟩)
  have hs3 : w3.cell? ⟨w.heap.size, 0, none⟩ = some (.pointer (some ⟨sb, 0, none⟩)) := by rw [cell_of_heap Hb13.out]; rfl
  have hc35 : w3.drew.cell? ⟨sb, 5, none⟩ = some (.slice uo un uc) := by rw [cell_of_heap (show w3.drew.heap[sb]? = _ from Hc3.out)]; rfl
  have hcV5 : V.cell? ⟨sb, 5, none⟩ = some (.slice uo un uc) := by rw [cell_of_heap HbV.out.2.2]; rfl
  have hsV : V.cell? ⟨w.heap.size, 0, none⟩ = some (.pointer (some ⟨sb, 0, none⟩)) := by rw [cell_of_heap HbV.out.1]; rfl
  have HV := Lib.hid hV
  obtain ⟨i1, hi1, hz1, hy1, hx1⟩ := info_parts Tryd.info1
  have hbV : V.heap[w3.heap.size]? = some (.cells #[(Value.func (.func 49) #[] #[.pointer (some ⟨w.heap.size, 0, none⟩), .pointer (some ⟨w.heap.size + 1, 0, none⟩)])] 1 (0, 0)) := by
    rw [hV]
    have := heap_alloc_new w3 (.cells #[(Value.func (.func 49) #[] #[.pointer (some ⟨w.heap.size, 0, none⟩), .pointer (some ⟨w.heap.size + 1, 0, none⟩)])] 1)
    exact this
  have HbVn := Lib.hid hbV
  have hfv1 : ∀ u ∈ [(Value.func (.func 49) #[] #[.pointer (some ⟨w.heap.size, 0, none⟩), .pointer (some ⟨w.heap.size + 1, 0, none⟩)])], u.oneCell' = true := by
    intro u hu
    have : u = (Value.func (.func 49) #[] #[.pointer (some ⟨w.heap.size, 0, none⟩), .pointer (some ⟨w.heap.size + 1, 0, none⟩)]) := by simpa using hu
    rw [this]
    rfl
  have hB3 : B ≤ w3.heap.size := by have := Ho3.out.size; have := Hg2.out.size; have : X.drew.heap.size = X.heap.size := rfl; omega
  have hBV : B ≤ V.heap.size := by have := Ho3.out.size; have := Hg2.out.size; have : X.drew.heap.size = X.heap.size := rfl; omega
  have Hne : Hid (w.heap.size ≠ sb) := Lib.hid (fun e => by have := heap_lt H.out.cell; omega)
  have HF : Hid (Fr B [1, 61] [xb, tb] w V) := Lib.hid (by
    rw [HV.out]
    exact (((((Fr.of_below HXb.out hB _ _).drew.map (by show B ≤ X.heap.size; omega) Hg2.out (by simp) H.out.rest.bxb).trans ((Ho3.out.fr H.out.rest.btb []).mono (Nat.le_refl _) (by simp) (by simp))).alloc (by omega) _).drew))
  clear hV hVo hbV hun
  refine wp_region_held_drew (S := (fun W' => W'.cell? ⟨w.heap.size, 0, none⟩ = some (.pointer (some ⟨sb, 0, none⟩)))) (by kernel_rfl) (show w3.drew.cell? ⟨w.heap.size, 0, none⟩ = _ from hs3) (fun hHeld => ?_)
  refine wpAnyH_take (i := 0) (v := ?v0b) rfl (by kernel_rfl) (by kernel_rfl) (by kernel_rfl) (fun _ _ _ h => h) (Or.inl ⟨by rfl, ?h0b⟩) hHeld ?r0b
  case h0b =>
    rintro W s1
    go_simp
    all_goals with_reducible rfl
  try simp only [Act.put, List.setIfInBounds_toArray, List.set_cons_zero, List.set_cons_succ]
  refine wpAnyH_take (i := 1) (v := ?v1b) rfl (by kernel_rfl) (by kernel_rfl) (by kernel_rfl) (fun _ _ _ h => h) (Or.inl ⟨by rfl, ?h1b⟩) hHeld ?r1b
  case h1b =>
    rintro W s1
    go_simp
    all_goals with_reducible rfl
  try simp only [Act.put, List.setIfInBounds_toArray, List.set_cons_zero, List.set_cons_succ]
  refine wpAnyH_take (i := 2) (v := ?v2b) rfl (by kernel_rfl) (by kernel_rfl) (by kernel_rfl) (fun _ _ _ h => h) (Or.inl ⟨by rfl, ?h2b⟩) hHeld ?r2b
  case h2b =>
    rintro W s1
    go_simp
    all_goals with_reducible rfl
  try simp only [Act.put, List.setIfInBounds_toArray, List.set_cons_zero, List.set_cons_succ]
  refine wpAnyH_take (i := 3) (v := ?v3b) rfl (by kernel_rfl) (by kernel_rfl) (by kernel_rfl) (fun _ _ _ h => h) (Or.inl ⟨by rfl, ?h3b⟩) hHeld ?r3b
  case h3b =>
    rintro W s1
    go_simp
    all_goals with_reducible rfl
  try simp only [Act.put, List.setIfInBounds_toArray, List.set_cons_zero, List.set_cons_succ]
  refine wpAnyH_take (i := 5) (v := ?v5b) rfl (by kernel_rfl) (by kernel_rfl) (by kernel_rfl) (fun _ _ _ h => h) (Or.inl ⟨by rfl, ?h5b⟩) hHeld ?r5b
  case h5b =>
    rintro W s1
    go_simp
    all_goals with_reducible rfl
  try simp only [Act.put, List.setIfInBounds_toArray, List.set_cons_zero, List.set_cons_succ]
  refine wpAnyH_ready (rs := [4, 6]) (by kernel_rfl) (by simp) (AllReadyH.cons rfl (fun K hK => ?_) (AllReadyH.cons rfl (fun K hK => ?_) AllReadyH.nil))
  · go_simp
    refine hK.out _ _ hHeld (fun hHeld2 => ?_)
    clear hK K
    try simp only [Act.put, List.setIfInBounds_toArray, List.set_cons_zero, List.set_cons_succ]
    refine wpAnyH_ready (rs := [6]) (by kernel_rfl) (by simp) (AllReadyH.cons rfl (fun K hK => ?_) AllReadyH.nil)
    go_simp
    rw [← HV.out]
    refine hK.out _ _ hsV (fun hHeld2 => ?_)
    clear hK K
    try simp only [Act.put, List.setIfInBounds_toArray, List.set_cons_zero, List.set_cons_succ]
    refine wpAnyH_ready (rs := [7]) (by kernel_rfl) (by simp) (AllReadyH.cons rfl (fun K hK => ?_) AllReadyH.nil)
    refine step_append_lies _ (by rfl) _ _ _ (by rfl) B 1 i1 _ 1 8 Tryd.underlying59 hi1 hz1 hy1 hx1 rfl (by decide) (.slice uo un uc) un us (by go_simp) HUV.out ⟨w3.heap.size, 0, none⟩ 1 1 [(Value.func (.func 49) #[] #[.pointer (some ⟨w.heap.size, 0, none⟩), .pointer (some ⟨w.heap.size + 1, 0, none⟩)])] (by go_simp) rfl (World.news_of_block (cs := #[(Value.func (.func 49) #[] #[.pointer (some ⟨w.heap.size, 0, none⟩), .pointer (some ⟨w.heap.size + 1, 0, none⟩)])]) (t := 1) (fr := (0, 0)) HbVn.out) hfv1 Nat.one_pos (by unfold maxLen; omega) (by omega) hBV (w3.heap.size + 1) hVs ?_
    intro gg cap2 w5 hown5 hgrow5 hat5 hlt5
    obtain ⟨p1, p2, p3⟩ := HKV.out w5 hgrow5
    have h55 : w5.heap[sb]? = _ := p3.trans HbV.out.2.2
    have hs5 : w5.cell? ⟨w.heap.size, 0, none⟩ = some (.pointer (some ⟨sb, 0, none⟩)) := by rw [cell_of_heap (p1.trans HbV.out.1)]; rfl
    have hf5 : w5.frozen? ⟨sb, 5, none⟩ = false := by simp [World.frozen?, h55]
    have Hown5 := Lib.hid hown5
    have Hgrow5 := Lib.hid hgrow5
    have H55 := Lib.hid h55
    clear hown5 hgrow5
    have hc55 : w5.cell? ⟨sb, 5, none⟩ = some (.slice uo un uc) := by rw [cell_of_heap h55]; rfl
    refine hK.out _ _ hs5 (fun hHeld2 => ?_)
    clear hK K
    try simp only [Act.put, List.setIfInBounds_toArray, List.set_cons_zero, List.set_cons_succ]
    refine wpAnyH_take (i := 8) (v := ?v8c4) rfl (by kernel_rfl) (by kernel_rfl) (by kernel_rfl) (fun _ _ _ h => h) (Or.inl ⟨by rfl, ?h8c4⟩) hs5 ?r8c4
    case h8c4 =>
      rintro W s1
      go_simp
      all_goals with_reducible rfl
    try simp only [Act.put, List.setIfInBounds_toArray, List.set_cons_zero, List.set_cons_succ]
    refine wpAnyH_take (i := 9) (v := ?v9c4) rfl (by kernel_rfl) (by kernel_rfl) (by kernel_rfl) (fun _ _ _ h => h) (Or.inl ⟨by rfl, ?h9c4⟩) hs5 ?r9c4
    case h9c4 =>
      rintro W s1
      go_simp
      all_goals with_reducible rfl
    try simp only [Act.put, List.setIfInBounds_toArray, List.set_cons_zero, List.set_cons_succ]
    refine wpAnyH_ready (rs := [10]) (by kernel_rfl) (by simp) (AllReadyH.cons rfl (fun K hK => ?_) AllReadyH.nil)
    go_simp
    refine hK.out _ _ ?_ (fun hHeld2 => ?_)
    · rw [World.cell?_of_block (w := w5) (Below.heap_setCell _ _ _ _ Hne.out)]; exact hs5
    clear hK K
    refine wpAnyH_done (by kernel_rfl) ?_ _
    try simp only [Act.put, List.setIfInBounds_toArray, List.set_cons_zero, List.set_cons_succ]
    go_wp2_with fail
    go_end0
    have hZ : Fr B [1, 61] [xb, tb] w (w5.setCell ⟨sb, 5, none⟩ (.slice (some ⟨gg, 0, none⟩) (un + 1) cap2)) := (HF.out.row hBV HUV.out (by simp) Hgrow5.out).cell (p := ⟨sb, 5, none⟩) H55.out H.out.bsb (.inr (by simp)) _
    have hUV := UndoRow.olds HS3.out.taken Hu.out HVo.out
    have hg5 := Hgrow5.out
    rw [Hun.out] at hg5
    have hcg := cells_grown hUV hg5
    have hclo : Clo w5 B sb tb g.n (Value.func (.func 49) #[] #[.pointer (some ⟨w.heap.size, 0, none⟩), .pointer (some ⟨w.heap.size + 1, 0, none⟩)]) (f.secs, -1) := ⟨fun a ha => (Hroom.out.2 a ha).1.2, hl2, w.heap.size, w.heap.size + 1, f.log, f.size, f.sum, _, .inl ⟨rfl, rfl⟩, p1.trans HbV.out.1, p2.trans HbV.out.2.1, row_kept (ownsRow_olds Hr3.out HVo.out) (by simp) hv hcg, hv⟩
    have hund : UndoAt w5 B sb tb g.n (.slice (some ⟨gg, 0, none⟩) (un + 1) cap2) (g.undo ++ [(f.secs, -1)]) := UndoRow.push HSV.out.taken hUV hcg (by have h9 := Hown5.out; rw [Hun.out] at h9; rw [Hun.out]; exact h9) hclo
    have hR5 := (HSV.out.push (W := w5) hg5 hund).but H55.out (by decide) (fun b hb => Below.heap_setCell w5 ⟨sb, 5, none⟩ (.slice (some ⟨gg, 0, none⟩) (un + 1) cap2) b hb)
    have hcell : SCell (w5.setCell ⟨sb, 5, none⟩ (.slice (some ⟨gg, 0, none⟩) (un + 1) cap2)) sb db tb tc nb xb g.n slot gen (.slice (some ⟨gg, 0, none⟩) (un + 1) cap2) dv := heap_setCell_same w5 sb 5 _ _ _ H55.out
    have hmk := fun (bad : List Nat) (hb : 3 ∉ bad) => (H.out.rest.marks hb).sub (M' := [xb, tb]) (by simp)
    refine ⟨rfl, Kp.fr hZ (by decide) (hmk _ (by decide)), _, ⟨H.out.bsb, hcell, hR5, H.out.di.fr hZ (by decide) ?_ (hmk _ (by decide)), by have := H.out.ht; omega, H.out.hslot, by have := H.out.hgen; omega, ?_, Nat.le_trans H.out.hd (Nat.le_add_right _ _), ?_, H.out.smn, H.out.smx, H.out.inv.stage hs Hroom.out Hlen.out k2⟩⟩
    · simp only [List.mem_cons, List.not_mem_nil, or_false, not_or]
      exact ⟨H.out.smx, H.out.smtb⟩
    · have := H.out.hu
      simp
      omega
    · have h9 := H.out.hdx
      unfold dirLen at h9 ⊢
      simp only [List.map_cons, List.sum_cons]
      omega
  · go_simp
    rw [← HV.out]
    refine hK.out _ _ hsV (fun hHeld2 => ?_)
    clear hK K
    try simp only [Act.put, List.setIfInBounds_toArray, List.set_cons_zero, List.set_cons_succ]
    refine wpAnyH_ready (rs := [4]) (by kernel_rfl) (by simp) (AllReadyH.cons rfl (fun K hK => ?_) AllReadyH.nil)
    go_simp
    refine hK.out _ _ hsV (fun hHeld2 => ?_)
    clear hK K
    try simp only [Act.put, List.setIfInBounds_toArray, List.set_cons_zero, List.set_cons_succ]
    refine wpAnyH_ready (rs := [7]) (by kernel_rfl) (by simp) (AllReadyH.cons rfl (fun K hK => ?_) AllReadyH.nil)
    refine step_append_lies _ (by rfl) _ _ _ (by rfl) B 1 i1 _ 1 8 Tryd.underlying59 hi1 hz1 hy1 hx1 rfl (by decide) (.slice uo un uc) un us (by go_simp) HUV.out ⟨w3.heap.size, 0, none⟩ 1 1 [(Value.func (.func 49) #[] #[.pointer (some ⟨w.heap.size, 0, none⟩), .pointer (some ⟨w.heap.size + 1, 0, none⟩)])] (by go_simp) rfl (World.news_of_block (cs := #[(Value.func (.func 49) #[] #[.pointer (some ⟨w.heap.size, 0, none⟩), .pointer (some ⟨w.heap.size + 1, 0, none⟩)])]) (t := 1) (fr := (0, 0)) HbVn.out) hfv1 Nat.one_pos (by unfold maxLen; omega) (by omega) hBV (w3.heap.size + 1) hVs ?_
    intro gg cap2 w5 hown5 hgrow5 hat5 hlt5
    obtain ⟨p1, p2, p3⟩ := HKV.out w5 hgrow5
    have h55 : w5.heap[sb]? = _ := p3.trans HbV.out.2.2
    have hs5 : w5.cell? ⟨w.heap.size, 0, none⟩ = some (.pointer (some ⟨sb, 0, none⟩)) := by rw [cell_of_heap (p1.trans HbV.out.1)]; rfl
    have hf5 : w5.frozen? ⟨sb, 5, none⟩ = false := by simp [World.frozen?, h55]
    have Hown5 := Lib.hid hown5
    have Hgrow5 := Lib.hid hgrow5
    have H55 := Lib.hid h55
    clear hown5 hgrow5
    have hc55 : w5.cell? ⟨sb, 5, none⟩ = some (.slice uo un uc) := by rw [cell_of_heap h55]; rfl
    refine hK.out _ _ hs5 (fun hHeld2 => ?_)
    clear hK K
    try simp only [Act.put, List.setIfInBounds_toArray, List.set_cons_zero, List.set_cons_succ]
    refine wpAnyH_take (i := 8) (v := ?v8c6) rfl (by kernel_rfl) (by kernel_rfl) (by kernel_rfl) (fun _ _ _ h => h) (Or.inl ⟨by rfl, ?h8c6⟩) hs5 ?r8c6
    case h8c6 =>
      rintro W s1
      go_simp
      all_goals with_reducible rfl
    try simp only [Act.put, List.setIfInBounds_toArray, List.set_cons_zero, List.set_cons_succ]
    refine wpAnyH_take (i := 9) (v := ?v9c6) rfl (by kernel_rfl) (by kernel_rfl) (by kernel_rfl) (fun _ _ _ h => h) (Or.inl ⟨by rfl, ?h9c6⟩) hs5 ?r9c6
    case h9c6 =>
      rintro W s1
      go_simp
      all_goals with_reducible rfl
    try simp only [Act.put, List.setIfInBounds_toArray, List.set_cons_zero, List.set_cons_succ]
    refine wpAnyH_ready (rs := [10]) (by kernel_rfl) (by simp) (AllReadyH.cons rfl (fun K hK => ?_) AllReadyH.nil)
    go_simp
    refine hK.out _ _ ?_ (fun hHeld2 => ?_)
    · rw [World.cell?_of_block (w := w5) (Below.heap_setCell _ _ _ _ Hne.out)]; exact hs5
    clear hK K
    refine wpAnyH_done (by kernel_rfl) ?_ _
    try simp only [Act.put, List.setIfInBounds_toArray, List.set_cons_zero, List.set_cons_succ]
    go_wp2_with fail
    go_end0
    have hZ : Fr B [1, 61] [xb, tb] w (w5.setCell ⟨sb, 5, none⟩ (.slice (some ⟨gg, 0, none⟩) (un + 1) cap2)) := (HF.out.row hBV HUV.out (by simp) Hgrow5.out).cell (p := ⟨sb, 5, none⟩) H55.out H.out.bsb (.inr (by simp)) _
    have hUV := UndoRow.olds HS3.out.taken Hu.out HVo.out
    have hg5 := Hgrow5.out
    rw [Hun.out] at hg5
    have hcg := cells_grown hUV hg5
    have hclo : Clo w5 B sb tb g.n (Value.func (.func 49) #[] #[.pointer (some ⟨w.heap.size, 0, none⟩), .pointer (some ⟨w.heap.size + 1, 0, none⟩)]) (f.secs, -1) := ⟨fun a ha => (Hroom.out.2 a ha).1.2, hl2, w.heap.size, w.heap.size + 1, f.log, f.size, f.sum, _, .inl ⟨rfl, rfl⟩, p1.trans HbV.out.1, p2.trans HbV.out.2.1, row_kept (ownsRow_olds Hr3.out HVo.out) (by simp) hv hcg, hv⟩
    have hund : UndoAt w5 B sb tb g.n (.slice (some ⟨gg, 0, none⟩) (un + 1) cap2) (g.undo ++ [(f.secs, -1)]) := UndoRow.push HSV.out.taken hUV hcg (by have h9 := Hown5.out; rw [Hun.out] at h9; rw [Hun.out]; exact h9) hclo
    have hR5 := (HSV.out.push (W := w5) hg5 hund).but H55.out (by decide) (fun b hb => Below.heap_setCell w5 ⟨sb, 5, none⟩ (.slice (some ⟨gg, 0, none⟩) (un + 1) cap2) b hb)
    have hcell : SCell (w5.setCell ⟨sb, 5, none⟩ (.slice (some ⟨gg, 0, none⟩) (un + 1) cap2)) sb db tb tc nb xb g.n slot gen (.slice (some ⟨gg, 0, none⟩) (un + 1) cap2) dv := heap_setCell_same w5 sb 5 _ _ _ H55.out
    have hmk := fun (bad : List Nat) (hb : 3 ∉ bad) => (H.out.rest.marks hb).sub (M' := [xb, tb]) (by simp)
    refine ⟨rfl, Kp.fr hZ (by decide) (hmk _ (by decide)), _, ⟨H.out.bsb, hcell, hR5, H.out.di.fr hZ (by decide) ?_ (hmk _ (by decide)), by have := H.out.ht; omega, H.out.hslot, by have := H.out.hgen; omega, ?_, Nat.le_trans H.out.hd (Nat.le_add_right _ _), ?_, H.out.smn, H.out.smx, H.out.inv.stage hs Hroom.out Hlen.out k2⟩⟩
    · simp only [List.mem_cons, List.not_mem_nil, or_false, not_or]
      exact ⟨H.out.smx, H.out.smtb⟩
    · have := H.out.hu
      simp
      omega
    · have h9 := H.out.hdx
      unfold dirLen at h9 ⊢
      simp only [List.map_cons, List.sum_cons]
      omega
end Go.Proofs.YtndjmffnlcilbaaDoor
