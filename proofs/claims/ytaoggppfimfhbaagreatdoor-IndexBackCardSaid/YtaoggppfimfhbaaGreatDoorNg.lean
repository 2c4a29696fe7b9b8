/- Contracts over this program. Their conditions: the slices read as the lists that are named, and lie within the sizes that are named. -/
import Derived.Test.YtaoggppfimfhbaaGreatDoorNf
import Derived.DeepKeys5
import Derived.WideKeyEntry
import Derived.Test.YtaoggppfimfhbaaGreatDoorNd
import Derived.Shelf.SlSortCmp.WholeK
import Derived.Shelf.SlSortCmp.NoneTotal
import Derived.Test.YtaoggppfimfhbaaGreatDoorSh
import Derived.Ground.SlsfProg
import Derived.Shelf.SlIter.Collect
import Derived.RangeFuncGives
import Derived.Deep.RegionHeld
import Derived.Deep.CutRange
set_option linter.unusedSimpArgs false
set_option linter.unusedVariables false
set_option linter.deprecated false
set_option linter.unnecessarySimpa false
namespace Go.Proofs.YtaoggppfimfhbaaGreatDoor
open Go Go.RowKit Go.Ix Go.Maps

theorem Tryz.wideP : (match Tryz.prog.underlying 167 with | some (.array _ _) | some (.struct _) => true | _ => false) = true := by rw [Tryz.underlying167]
theorem Tryz.keyTypeP : Tryz.prog.keyTypeAt 2 167 = true := by kernel_rfl
theorem Tryz.tiledP : Tryz.prog.tiled 2 167 = true := by kernel_rfl
set_option maxRecDepth 20000 in
theorem Tryz.keylawP : WideMaps.KeyLaw Tryz.prog 167 := deep_law (m := 2) (by omega) Tryz.keyTypeP Tryz.tiledP Tryz.wideP
theorem Tryz.lawP : Keyed Tryz.prog 167 := Keyed.of_law Tryz.keylawP

def pv (p : Nat × Nat) : Value := .agg #[.int .i64 (p.1 : Int), .int .i64 (p.2 : Int)]
def kp (p : Nat × Nat) : Lit := .string (keyBytes [.int .i64 (p.1 : Int), .int .i64 (p.2 : Int)])
theorem keyLits2 {P : Program} {k e : TypeId} {f1 f2 : _} (hu : P.underlying k = some (.struct #[f1, f2])) (hf1 : f1.type = e) (hf2 : f2.type = e) (ho1 : f1.offset = 0) (ho2 : f2.offset = 1) (hn1 : (f1.name != "_") = true) (hn2 : (f2.name != "_") = true) (he : P.underlying e = some (.int .i64)) (hc : P.cellsOf k = 2) (hc1 : P.cellsOf e = 1) {a b : Int}
    (wa : (Lit.int .i64 a).wf = true) (wb : (Lit.int .i64 b).wf = true) (m : Nat) : P.keyLits (m + 1 + 1) k [.int .i64 a, .int .i64 b] = some [.int .i64 a, .int .i64 b] := by
  unfold Program.keyLits
  simp only [hu]
  rw [if_pos ⟨by rw [hc]; rfl, by simp [hn1, hn2]⟩]
  have h1 : P.keyLits (m + 1) e [.int .i64 a] = some [.int .i64 a] := by
    unfold Program.keyLits
    simp [he, wa]
  have h2 : P.keyLits (m + 1) e [.int .i64 b] = some [.int .i64 b] := by
    unfold Program.keyLits
    simp [he, wb]
  simp [hf1, hf2, ho1, ho2, hc1, h1, h2]
theorem keyP {p : Nat × Nat} (h1 : p.1 ≤ 1000000000) (h2 : p.2 ≤ 1000000000) : keyOf Tryz.prog 167 (pv p) = some (kp p) := by
  have hT : Tryz.prog.keyType 167 = true := by kernel_rfl
  have hC : Tryz.prog.cellsOf 167 = 2 := by kernel_rfl
  have hC3 : Tryz.prog.cellsOf 3 = 1 := by kernel_rfl
  have w1 : (Lit.int .i64 (p.1 : Int)).wf = true := WalkArith.wf_i64 (by omega)
  have w2 : (Lit.int .i64 (p.2 : Int)).wf = true := WalkArith.wf_i64 (by omega)
  have hF : (pv p).formed Tryz.prog 167 = true := by simp [pv, Value.formed, Tryz.underlying167, hC]
  have hrow : (167 : TypeId) < Tryz.prog.types.size := of_decide_eq_true (by kernel_rfl)
  have gen : ∀ S : Nat, 167 < S → ∃ m, S = m + 1 := fun S h => ⟨S - 1, by omega⟩
  obtain ⟨m, hm⟩ := gen _ hrow
  unfold keyOf
  simp only [Tryz.underlying167]
  rw [if_pos (by rw [hT, hF]; rfl), hm]
  show Option.map _ (Tryz.prog.keyLits (m + 1 + 1) 167 [.int .i64 (p.1 : Int), .int .i64 (p.2 : Int)]) = _
  rw [keyLits2 Tryz.underlying167 rfl rfl rfl rfl (by decide) (by decide) Tryz.underlying3 hC hC3 w1 w2 m]
  rfl
theorem kp_inj {p r : Nat × Nat} (h1 : p.1 ≤ 1000000000) (h2 : p.2 ≤ 1000000000) (h3 : r.1 ≤ 1000000000) (h4 : r.2 ≤ 1000000000) (h : kp p = kp r) : p = r := by
  have a := keyP h1 h2
  rw [h] at a
  have := Tryz.lawP.inj a (keyP h3 h4)
  unfold pv at this
  simp only [Value.agg.injEq, Array.mk.injEq, List.cons.injEq, Value.int.injEq, true_and, and_true] at this
  exact Prod.ext (by omega) (by omega)
theorem zero112 (w : World) : (zeroValue 112).run Tryz.prog w = .ok (.slice none 0 0) w := by kernel_rfl


def RV (v : Value) : Option (DataW Value × List MemPlace) := some (.held v, [])
def Small2 (q : List ((Nat × Nat) × Nat)) : Prop := ∀ x ∈ q, x.1.1 ≤ 1000000000 ∧ x.1.2 ≤ 1000000000

def GrpAt (w : World) (base mb n : Nat) (q : List ((Nat × Nat) × Nat)) (V : Nat × Nat → Value) : Prop :=
  ∃ D : DataW Value, w.ownsMap Tryz.prog 167 RV mb n D ∧ mb < base ∧ (∀ kl, has D kl = true → ∃ p, kl = kp p ∧ grp q p ≠ []) ∧
    (∀ p, grp q p ≠ [] → has D (kp p) = true ∧ (∀ z, D.atKey (kp p) z = .held (V p)) ∧ RowI w base (V p) (grp q p)) ∧
    ∀ p r, p ≠ r → grp q p ≠ [] → grp q r ≠ [] → ∀ g, (V p).ownBlock = some g → (V r).ownBlock ≠ some g

theorem GrpAt.made (w : World) (V : Nat × Nat → Value) : GrpAt (w.alloc (.map #[] 0)) (w.heap.size + 1) w.heap.size 0 [] V :=
  ⟨.map [], World.ownsMap_made w _ _ _, by omega, fun kl h => by simp [has] at h, fun p h => absurd rfl h, fun p r _ h => absurd rfl h⟩
theorem GrpAt.lt {w : World} {base mb n : Nat} {q : List ((Nat × Nat) × Nat)} {V : Nat × Nat → Value} (h : GrpAt w base mb n q V) : mb < w.heap.size := by
  obtain ⟨D, h, _⟩ := h
  exact h.lt

theorem GrpAt.keep {w W : World} {base mb n : Nat} {q : List ((Nat × Nat) × Nat)} {V : Nat × Nat → Value} (h : GrpAt w base mb n q V) (h1 : W.heap[mb]? = w.heap[mb]?) (h2 : ∀ p g, grp q p ≠ [] → (V p).ownBlock = some g → W.heap[g]? = w.heap[g]?) : GrpAt W base mb n q V := by
  obtain ⟨D, ⟨es, clock, a1, a2⟩, a3, a4, a5, a6⟩ := h
  exact ⟨D, ⟨es, clock, h1.trans a1, a2⟩, a3, a4, fun p hp => ⟨(a5 p hp).1, (a5 p hp).2.1, ownsRow_blocks (a5 p hp).2.2 fun g hg => h2 p g hp hg⟩, a6⟩
theorem GrpAt.olds {w W : World} {base mb n : Nat} {q : List ((Nat × Nat) × Nat)} {V : Nat × Nat → Value} (h : GrpAt w base mb n q V) (hb : Olds w W) : GrpAt W base mb n q V := by
  have h0 := h
  obtain ⟨D, a1, a3, a4, a5, a6⟩ := h0
  exact h.keep (hb.2 mb a1.lt) fun p g hp hg => hb.2 g (ownsRow_block (a5 p hp).2.2 hg).2
theorem GrpAt.block {w : World} {base mb n : Nat} {q : List ((Nat × Nat) × Nat)} {V : Nat × Nat → Value} (h : GrpAt w base mb n q V) {p : Nat × Nat} {g : Nat} (hp : grp q p ≠ []) (hg : (V p).ownBlock = some g) : base ≤ g ∧ g < w.heap.size := by
  obtain ⟨D, a1, a3, a4, a5, a6⟩ := h
  exact ownsRow_block (a5 p hp).2.2 hg

theorem one_of_key {es : List MapEntry} (h : es.Pairwise (fun x y => x.key ≠ y.key)) {x y : MapEntry} (hx : x ∈ es) (hy : y ∈ es) (he : x.key = y.key) : x = y := by
  induction es with
  | nil => simp at hx
  | cons z es ih =>
    obtain ⟨h1, h2⟩ := List.pairwise_cons.1 h
    rcases List.mem_cons.1 hx with rfl | hx
    · rcases List.mem_cons.1 hy with rfl | hy
      · rfl
      · exact absurd he (h1 y hy)
    · rcases List.mem_cons.1 hy with e | hy
      · rw [e] at he
        exact absurd he.symm (h1 x hx)
      · exact ih h2 hx hy


theorem GrpAt.entry {w : World} {base mb n : Nat} {q : List ((Nat × Nat) × Nat)} {V : Nat × Nat → Value} (h : GrpAt w base mb n q V) (hq : Small2 q) {p : Nat × Nat} (hp1 : p.1 ≤ 1000000000) (hp2 : p.2 ≤ 1000000000) (hn : n < 1000000000) :
    ∃ v0 st w1, (Instr.mapEntry 165 (.map (some mb)) (pv p)).run Tryz.prog w = .ok (.tuple #[v0, goInt (st : Nat)]) w1 ∧ w.grownBy w1 (some mb) ∧ w1.heap.size = w.heap.size ∧ RowI w1 base v0 (grp q p) ∧ (∀ r g, r ≠ p → grp q r ≠ [] → (V r).ownBlock = some g → v0.ownBlock ≠ some g) ∧
      ∀ (w2 : World) (v' : Value) (i : Nat), w1.grownBy w2 v0.ownBlock → RowI w2 base v' (grp q p ++ [i]) → (v'.ownBlock = v0.ownBlock ∨ ∃ g, v'.ownBlock = some g ∧ w1.heap.size ≤ g) →
        ∃ w3, (Instr.entryStore 165 (.map (some mb)) (goInt (st : Nat)) v').run Tryz.prog w2 = .ok () w3 ∧ GrpAt w3 base mb (n + 1) (q ++ [(p, i)]) (fun r => if r = p then v' else V r) ∧ w2.grownBy w3 (some mb) := by
  have hlt := h.lt
  have h0 := h
  obtain ⟨D, hown, a3, a4, a5, a6⟩ := h
  have hown0 := hown
  obtain ⟨es, clock, hb, F, hsz, rfl⟩ := hown
  obtain ⟨v0, st, es1, clock1, e1, e2, e3⟩ := WideElems.entry_then_store Tryz.keylawP Tryz.underlying165 zero112 hb F (keyP hp1 hp2)
  have hset : ∀ (W : World) (o : Obj), W.grownBy (ChangeMaps.setBlock W mb o) (some mb) := fun W o => ⟨rfl, rfl, rfl, by simp [ChangeMaps.setBlock], fun j _ hj => by
    have hne : mb ≠ j := fun e => hj (by rw [e])
    simp [ChangeMaps.setBlock, Array.getElem?_setIfInBounds_ne hne]⟩
  have hbr : ∀ r, grp q r ≠ [] → r.1 ≤ 1000000000 ∧ r.2 ≤ 1000000000 := fun r hr => by
    obtain ⟨i, hi⟩ := grp_ne.1 hr
    exact hq _ hi
  have hv0 : (grp q p = [] → v0 = .slice none 0 0) ∧ (grp q p ≠ [] → v0 = V p) := by
    rcases Maps.fit_look false Tryz.lawP Tryz.underlying165 (zero112 w) hb F (keyP hp1 hp2) with ⟨_, hno, hat⟩ | ⟨e0, y, he0, hk0, _, hRv, hat, _⟩
    · refine ⟨fun _ => ?_, fun hg => ?_⟩
      · rcases e2 with ⟨x, hx, hk, _⟩ | ⟨_, h⟩
        · exact absurd hk (hno x hx)
        · exact h
      · have := (a5 p hg).2.1 .nil
        rw [hat] at this
        cases this
    · have hy : y = (.held e0.val, []) := by
        simp only [RV, Option.some.injEq] at hRv
        exact hRv.symm
      have hg : grp q p ≠ [] := by
        obtain ⟨r, hr, hgr⟩ := a4 _ (has_true_of_atKey hat)
        obtain ⟨b1, b2⟩ := hbr r hgr
        rw [kp_inj hp1 hp2 b1 b2 hr]
        exact hgr
      refine ⟨fun h => absurd h hg, fun _ => ?_⟩
      have hVp : V p = e0.val := by
        have h1 := (a5 p hg).2.1 .nil
        rw [hat, hy] at h1
        simp only [DataW.held.injEq] at h1
        exact h1.symm
      rcases e2 with ⟨x, hx, hk, hv⟩ | ⟨hno, _⟩
      · rw [hv, hVp, one_of_key (((MapKept.stamped_iff es clock).1 F.stamped).2.2) hx he0 (hk.trans hk0.symm)]
      · exact absurd hk0 (hno e0 he0)
  have hoth : ∀ r g, r ≠ p → grp q r ≠ [] → (V r).ownBlock = some g → v0.ownBlock ≠ some g := fun r g hr hgr hg => by
    by_cases h : grp q p = []
    · rw [hv0.1 h]
      simp [Value.ownBlock]
    · rw [hv0.2 h]
      exact a6 r p hr hgr h g hg
  have hrow0 : RowI w base v0 (grp q p) := by
    by_cases h : grp q p = []
    · rw [hv0.1 h, h]
      exact World.ownsRow_nil _ _ _ _
    · rw [hv0.2 h]
      exact (a5 p h).2.2
  have hg1 := hset w (.map es1 clock1)
  have hv0b : some mb ≠ v0.ownBlock := fun e => by
    have := (ownsRow_block hrow0 e.symm).1
    omega
  have hkeep : ∀ {W W' : World} {v : Value} {zs : List Nat}, RowI W base v zs → W.grownBy W' (some mb) → RowI W' base v zs := fun {W W' v zs} h hg => ownsRow_blocks h fun g hgv => hg.block g (ownsRow_block h hgv).2 fun e => by
    have := (ownsRow_block h hgv).1
    cases e
    omega
  refine ⟨v0, st, _, e1, hg1, by simp [ChangeMaps.setBlock], hkeep hrow0 hg1, hoth, fun w2 v' i hg2 hrow' hloc => ?_⟩
  have hsz1 : (ChangeMaps.setBlock w mb (.map es1 clock1)).heap.size = w.heap.size := by simp [ChangeMaps.setBlock]
  have hmb2 : w2.heap[mb]? = some (.map es1 clock1) := (hg2.block mb (by rw [hsz1]; exact hlt) hv0b).trans (ChangeMaps.heap_setBlock_same hb _)
  obtain ⟨es', clock', hstore, hupd⟩ := e3 w2 v' hmb2
  obtain ⟨es2, clock2, hrun, F2, hput, _⟩ := Maps.fit_store (R' := RV) (val := v') Tryz.lawP Tryz.underlying165 hb F (by unfold maxLen; omega) (fun _ _ _ _ hz => hz) (keyP hp1 hp2) (yv := (.held v', [])) rfl
  have heq : es' = es2 ∧ clock' = clock2 := by
    rw [hrun] at hupd
    simp only [Result.ok.injEq, true_and] at hupd
    have h1 := congrArg (fun W : World => W.heap[mb]?) hupd
    simp only [ChangeMaps.heap_setBlock_same hb, Option.some.injEq, Obj.map.injEq] at h1
    exact ⟨h1.1.symm, h1.2.symm⟩
  obtain ⟨rfl, rfl⟩ := heq
  have hg3 := hset w2 (.map es' clock')
  refine ⟨_, hstore, ?_, hg3⟩
  have hsz2 : es'.size ≤ n + 1 := by
    have e1 : es'.size = ((es'.toList.map (WideElems.rg Tryz.prog 167 RV)).foldr DataW.insert []).length := by rw [length_sorted]; simp
    rw [e1, hput]
    unfold ChangeMaps.putKey
    rw [length_insert]
    have e2 := List.length_filter_le (ChangeMaps.notKey (kp p)) ((es.toList.map (WideElems.rg Tryz.prog 167 RV)).foldr DataW.insert [])
    rw [length_sorted] at e2
    simp at e2
    omega
  have hD : (DataW.map ((es.toList.map (WideElems.rg Tryz.prog 167 RV)).foldr DataW.insert []) : DataW Value).put (kp p) (.held v') = .map ((es'.toList.map (WideElems.rg Tryz.prog 167 RV)).foldr DataW.insert []) := by
    rw [DataW.put_eq, hput]
  generalize (DataW.map ((es.toList.map (WideElems.rg Tryz.prog 167 RV)).foldr DataW.insert []) : DataW Value) = D at *
  have hkey : WideAt.IsKeyLit (kp p) := trivial
  have hisM := hown0.isMap
  have hsame : grp (q ++ [(p, i)]) p = grp q p ++ [i] := grp_snoc_same q p i
  have hother : ∀ r, r ≠ p → grp (q ++ [(p, i)]) r = grp q r := fun r hr => grp_snoc_other q (fun e => hr e.symm) i
  have hkne : ∀ r, r ≠ p → grp q r ≠ [] → kp r ≠ kp p := fun r hr hg e => hr (kp_inj (hbr r hg).1 (hbr r hg).2 hp1 hp2 e)
  refine ⟨_, ⟨es', clock', ChangeMaps.heap_setBlock_same hmb2 _, F2, hsz2, rfl⟩, a3, ?_, ?_, ?_⟩
  · rw [← hD]
    intro kl hkl
    by_cases hk : kl = kp p
    · exact ⟨p, hk, by rw [hsame]; simp⟩
    · rw [has_put_other hk] at hkl
      obtain ⟨r, hr, hgr⟩ := a4 kl hkl
      have hrp : r ≠ p := fun e => hk (by rw [hr, e])
      exact ⟨r, hr, by rw [hother r hrp]; exact hgr⟩
  · rw [← hD]
    intro r hr
    simp only
    by_cases hrp : r = p
    · subst hrp
      rw [if_pos rfl, hsame]
      exact ⟨has_put_same hisM hkey _, fun z => atKey_put_same hisM hkey _ _, hkeep hrow' hg3⟩
    · rw [if_neg hrp, hother r hrp]
      rw [hother r hrp] at hr
      have hne := hkne r hrp hr
      refine ⟨by rw [has_put_other hne]; exact (a5 r hr).1, fun z => by rw [atKey_put_other hne]; exact (a5 r hr).2.1 z, ?_⟩
      refine hkeep ?_ hg3
      refine ownsRow_blocks (hkeep (a5 r hr).2.2 hg1) fun g hg => hg2.block g ?_ ?_
      · rw [hsz1]
        exact (ownsRow_block (a5 r hr).2.2 hg).2
      · exact fun e => hoth r g hrp hr hg e.symm
  · simp only
    have hnew : ∀ r, r ≠ p → grp q r ≠ [] → ∀ g, (V r).ownBlock = some g → v'.ownBlock ≠ some g := fun r hrp hr g hg e => by
      rcases hloc with h | ⟨g', h1, h2⟩
      · exact hoth r g hrp hr hg (h ▸ e)
      · have h3 := (ownsRow_block (a5 r hr).2.2 hg).2
        rw [e] at h1
        cases h1
        omega
    intro r s hrs hr hs g hg
    by_cases hrp : r = p
    · subst hrp
      have hsp : s ≠ r := fun e => hrs e.symm
      rw [if_pos rfl] at hg
      rw [if_neg hsp]
      rw [hother s hsp] at hs
      exact fun e => hnew s hsp hs g e hg
    · rw [if_neg hrp] at hg
      rw [hother r hrp] at hr
      by_cases hsp : s = p
      · subst hsp
        rw [if_pos rfl]
        exact hnew r hrp hr g hg
      · rw [if_neg hsp]
        rw [hother s hsp] at hs
        exact a6 r s hrs hr hs g hg
end Go.Proofs.YtaoggppfimfhbaaGreatDoor
namespace Go.Proofs
open Go.Shelf Go.RowKit Go.Lib Go.Sort
end Go.Proofs
namespace Go.Proofs.YtaoggppfimfhbaaGreatDoor
open Go Go.RowKit Go.Ix Go.Maps

abbrev FP := Fin 1000000001 × Fin 1000000001
def fcell (x : FP) : List Value := [.int .i64 (x.1.val : Int), .int .i64 (x.2.val : Int)]
def unF (x : FP) : Nat × Nat := (x.1.val, x.2.val)
def cfP (x y : FP) : Int := orI ((x.1.val : Int) - (y.1.val : Int)) ((x.2.val : Int) - (y.2.val : Int))

set_option maxHeartbeats 1000000 in
theorem closure87 (x y : FP) (W : World) : Calls Tryz.prog 87 #[.agg (fcell x).toArray, .agg (fcell y).toArray] W fun e w' => e = .returned (.int .i64 (cfP x y)) ∧ ∃ q os', w' = Sort.grow (W.drewN q) os' := by
  obtain ⟨⟨x1, hx1⟩, ⟨x2, hx2⟩⟩ := x
  obtain ⟨⟨y1, hy1⟩, ⟨y2, hy2⟩⟩ := y
  have HO := Lib.hid (fun b c W => or_any b c ((x1 : Int) - (y1 : Int)) ((x2 : Int) - (y2 : Int)) W)
  have Hc : Hid (cfP (⟨x1, hx1⟩, ⟨x2, hx2⟩) (⟨y1, hy1⟩, ⟨y2, hy2⟩) = orI ((x1 : Int) - (y1 : Int)) ((x2 : Int) - (y2 : Int))) := Lib.hid rfl
  generalize cfP _ _ = r at Hc ⊢
  show Calls Tryz.prog 87 #[.agg #[.int .i64 (x1 : Int), .int .i64 (x2 : Int)], .agg #[.int .i64 (y1 : Int), .int .i64 (y2 : Int)]] W _
  have w1 : IntKind.i64.wrap ((x1 : Int) - (y1 : Int)) = (x1 : Int) - (y1 : Int) := by rw [IntKind.wrap_i64]; omega
  have w2 : IntKind.i64.wrap ((x2 : Int) - (y2 : Int)) = (x2 : Int) - (y2 : Int) := by rw [IntKind.wrap_i64]; omega
  have hcell : ∀ (X : World) (z1 z2 : Int) (B : Nat), B = X.heap.size → (X.alloc (.cells #[.int .i64 z1, .int .i64 z2] 3)).cell? ⟨B, 0, none⟩ = some (.int .i64 z1) ∧ (X.alloc (.cells #[.int .i64 z1, .int .i64 z2] 3)).cell? ⟨B, 1, none⟩ = some (.int .i64 z2) := fun X z1 z2 B hB => by
    subst hB
    have h9 := heap_alloc_new X (.cells #[.int .i64 z1, .int .i64 z2] 3)
    exact ⟨by simp only [World.cell?, h9]; rfl, by simp only [World.cell?, h9]; rfl⟩
  go_enter Tryz.func87, Tryz.ntmps87
  go_wp2_with (go_at_call 88; refine (HO.out _ _ _ ?_ ?_).mono ?_; rotate_left 2; rintro e w' ⟨rfl, rfl⟩)
  · go_ret
    exact ⟨by rw [Hc.out]; rfl, 0, _, by rw [Sort.alloc_eq_grow, Sort.alloc_eq_grow, Sort.alloc_eq_grow, Sort.grow_grow, Sort.grow_grow]; rfl⟩
  · exact (hcell _ _ _ _ (by simp)).1
  · exact (hcell _ _ _ _ (by simp)).2

theorem cfP_lt {x y : FP} : cfP x y < 0 ↔ x.1.val < y.1.val ∨ (x.1.val = y.1.val ∧ x.2.val < y.2.val) := by
  unfold cfP orI
  split <;> omega
theorem ltP (x y : FP) : ltOf cfP x y = decide (x.1.val < y.1.val ∨ (x.1.val = y.1.val ∧ x.2.val < y.2.val)) := by
  unfold ltOf
  exact decide_eq_decide.2 cfP_lt
theorem swoP : Sort.SWO (ltOf cfP) where
  irrefl x := by rw [ltP]; simp
  trans x y z h1 h2 := by rw [ltP] at *; simp at *; omega
  ntrans x y z h1 h2 := by rw [ltP] at *; simp at *; omega
theorem totP (x y : FP) (h1 : ltOf cfP x y = false) (h2 : ltOf cfP y x = false) : x = y := by
  rw [ltP] at h1 h2
  simp at h1 h2
  refine Prod.ext (Fin.ext ?_) (Fin.ext ?_) <;> omega
theorem Tryz.isAgg167 (w : World) : (isAgg 167).run Tryz.prog w = .ok true w := by kernel_rfl
theorem Tryz.sizeOf167 (w : World) : (Go.sizeOf 167).run Tryz.prog w = .ok 2 w := by kernel_rfl
theorem closure_lays (blk off size : Nat) (w : World) : Go.Proofs.CmpLays Tryz.prog 87 #[] fcell 2 cfP blk off size w := fun _ _ _ _ x y => closure87 x y _

theorem unF_inj {x y : FP} (h : unF x = unF y) : x = y := Prod.ext (Fin.ext (congrArg Prod.fst h)) (Fin.ext (congrArg Prod.snd h))
theorem sorted_fp (d : List FP) (hn : d.Nodup) : Rising ((d.mergeSort fun x y => !(ltOf cfP) y x).map unF) := by
  have tr : ∀ a b c : FP, (!(ltOf cfP) b a) = true → (!(ltOf cfP) c b) = true → (!(ltOf cfP) c a) = true := fun a b c h1 h2 => by
    rw [Bool.not_eq_true'] at *
    exact swoP.ntrans c b a h2 h1
  have tt : ∀ a b : FP, ((!(ltOf cfP) b a) || (!(ltOf cfP) a b)) = true := fun a b => by
    cases h : ltOf cfP b a
    · rfl
    · cases h2 : ltOf cfP a b
      · rfl
      · have := swoP.trans a b a h2 h
        rw [swoP.irrefl] at this
        cases this
  have hs := List.pairwise_mergeSort tr tt d
  have hp := List.mergeSort_perm d (fun x y => !(ltOf cfP) y x)
  have hn2 := hp.nodup_iff.2 hn
  unfold Rising
  refine List.pairwise_map.2 ((hs.and hn2).imp fun {a b} ⟨h1, h2⟩ => ?_)
  rw [Bool.not_eq_true'] at h1
  show (unF a).1 < (unF b).1 ∨ ((unF a).1 = (unF b).1 ∧ (unF a).2 < (unF b).2)
  have h3 : ltOf cfP a b = true := by
    cases h : ltOf cfP a b
    · exact absurd (totP a b h h1) h2
    · rfl
  rw [ltP] at h3
  exact of_decide_eq_true h3


theorem sort_any (g cap : Nat) (d : Array FP) (w : World) (hH : Sort.HoldsK fcell 2 w g 0 d) (hg : g < w.heap.size) (hsz : d.size ≤ 1000000000) :
    Calls Tryz.prog 118 #[.slice (some ⟨g, 0, none⟩) d.size cap, .func (.func 87) #[] #[]] w fun e w' => e = .returned (.tuple #[]) ∧ ∃ n os, w' = sortWorldK fcell 2 w g 0 n (d.toList.mergeSort fun x y => !(ltOf cfP) y x).toArray os := by
  have eg : ∀ args w, (callFunc 87 args).run Tryz.prog w = .ok (.enter 87 args) w := enters_of Tryz.func87 (by kernel_rfl) rfl
  exact AnyQ.slices_SortFunc_total Tryz.sort118 2 Tryz.isAgg167 Tryz.sizeOf167 fcell (fun _ => rfl) (fun x v hv => by simp [fcell] at hv; rcases hv with rfl | rfl <;> rfl) cfP swoP 87 #[] g 0 cap d w eg (closure_lays g 0 d.size w) hH hg (by omega) totP
end Go.Proofs.YtaoggppfimfhbaaGreatDoor
namespace Go.Proofs.YtaoggppfimfhbaaGreatDoor
open Go Go.RowKit Go.Ix Go.Maps Go.Shelf


def CollP (q : List ((Nat × Nat) × Nat)) (left : Lit → Bool) (ss : List (Nat × Nat)) : Prop := ss.Nodup ∧ ∀ p, p ∈ ss ↔ (grp q p ≠ [] ∧ left (kp p) = false)

theorem CollP.step {q : List ((Nat × Nat) × Nat)} {left : Lit → Bool} {ss : List (Nat × Nat)} (h : CollP q left ss) (hq : Small2 q) {x : Nat × Nat} (hx : grp q x ≠ []) (hl : left (kp x) = true) : CollP q (fun z => left z && !z.sameKey (kp x)) (ss ++ [x]) := by
  have hbr : ∀ r, grp q r ≠ [] → r.1 ≤ 1000000000 ∧ r.2 ≤ 1000000000 := fun r hr => by
    obtain ⟨i, hi⟩ := grp_ne.1 hr
    exact hq _ hi
  have hnew : x ∉ ss := fun hm => by
    have := ((h.2 x).1 hm).2
    rw [hl] at this
    cases this
  refine ⟨List.nodup_append.2 ⟨h.1, by simp, fun a ha b hb => by simp at hb; subst hb; exact fun e => hnew (e ▸ ha)⟩, fun p => ?_⟩
  by_cases hp : grp q p ≠ []
  · by_cases hpx : p = x
    · subst hpx
      simp [hp, kp, Lit.sameKey]
    · have hk : kp p ≠ kp x := fun e => hpx (kp_inj (hbr p hp).1 (hbr p hp).2 (hbr x hx).1 (hbr x hx).2 e)
      have hs : (kp p).sameKey (kp x) = false := by
        unfold kp at hk ⊢
        simp [Lit.sameKey]
        exact fun e => hk (by rw [e])
      rw [List.mem_append, h.2 p]
      simp [hp, hpx, hs]
  · rw [List.mem_append, h.2 p]
    have : p ≠ x := fun e => hp (e ▸ hx)
    simp [hp, this]

set_option maxRecDepth 100000 in
set_option maxHeartbeats 1000000 in
theorem keys1_pairs {base n : Nat} {q : List ((Nat × Nat) × Nat)} {V : Nat × Nat → Value} (hq : Small2 q) (m : Nat) (hm1 : 1 ≤ m) (l Bm b N : Nat) (J : List (Nat × Nat) → World → Prop)
    (hY : ∀ pre x W, J pre W → pre.length < N → YieldAt Fence.wide (m - 1) Tryz.prog l #[pv x] W fun e W' => e = .returned (.bool true) ∧ J (pre ++ [x]) W' ∧ KeepsWalks W W')
    (W : World) (hJ : AbidesFrom W.heap.size J) (hm : W.cell? ⟨Bm, 0, none⟩ = some (.map (some b))) (hgrp : GrpAt W base b n q V) (hN : ∀ D : DataW Value, W.ownsMap Tryz.prog 167 RV b n D → Maps.size D ≤ N) (h0 : J [] W) :
    CallsIn Fence.wide m Tryz.prog 119 #[.func (.yield l) #[] #[], .pointer (some ⟨Bm, 0, none⟩)] W fun e W' => (∃ v, e = .returned v) ∧ ∃ ss : List (Nat × Nat), (ss.Nodup ∧ ∀ p, p ∈ ss ↔ grp q p ≠ []) ∧ J ss W' := by
  obtain ⟨D0, hown, hb0, a4, a5, a6⟩ := hgrp
  have hszN := hN D0 hown
  have Hown := hown
  have hbr : ∀ r, grp q r ≠ [] → r.1 ≤ 1000000000 ∧ r.2 ≤ 1000000000 := fun r hr => by
    obtain ⟨i, hi⟩ := grp_ne.1 hr
    exact hq _ hi
  have HA4 := Lib.hid a4
  have HA5 := Lib.hid (fun p hp => (a5 p hp).1)
  clear a4 a5 a6 hN
  refine callsIn_of_wp Tryz.func119 rfl trivial ?_ rfl
  simp only [Tryz.ntmps119, List.size_toArray, List.length_cons, List.length_nil, Nat.reduceAdd, Nat.reduceSub, Array.replicate_succ, Array.replicate_zero, List.push_toArray, List.append_toArray, List.nil_append, List.cons_append]
  gi_wp2_with (first
    | (gi_at_range; refine wpListIn_range_own _ rfl _ 165 rfl 167 112 Tryz.lawP Tryz.underlying165 RV b n _ rfl hown ?_; intro w0 hrg0 hg0 hs0)
    | gi_in)
  go_frame
  gi_loopw [3] (fun _ wr => ∃ (left : Lit → Bool) (cnt : Nat) (ss : List (Nat × Nat)), wr.ranges Tryz.prog 167 RV b W.heap.size n D0 left cnt ∧ ss.length + cnt ≤ N ∧ CollP q left ss ∧ J ss wr)
    (fun _ wr => wr.rangeLeft b W.heap.size)
  case atStart =>
    exact ⟨_, _, [], hrg0, by simpa using hszN, ⟨List.nodup_nil, fun p => by
      constructor
      · intro h
        simp at h
      · rintro ⟨h1, h2⟩
        have := HA5.out p h1
        rw [this] at h2
        cases h2⟩, hJ [] W w0 none h0 hg0 (fun r e => by cases e)⟩
  case round =>
    obtain ⟨left, cnt, ss, hrg, hcs, hC, hJs⟩ := hrel
    gi_wp2_with (first
      | (gi_at_next; refine wpListIn_next_ranges _ rfl _ rfl 167 Tryz.lawP RV (fun v => v) id (fun key kl hk => ⟨key, rfl⟩) (fun v _ _ => ⟨v, rfl⟩) b W.heap.size n _ _ _ rfl hrg ?_ ?_)
      | gi_in)
    · intro hc0 hl0
      gi_wp2
      go_end0
      exact ⟨⟨_, rfl⟩, ss, ⟨hC.1, fun p => by rw [hC.2 p, hl0]; simp⟩, hJs⟩
    · intro x c kl yd yp w2 cnt2 hkey hlk hv hat hrg2 hlt hg2 hs2 hen
      obtain ⟨p, rfl, hp⟩ := HA4.out kl (has_true_of_atKey hat)
      have hx : x = pv p := Tryz.lawP.inj hkey (keyP (hbr p hp).1 (hbr p hp).2)
      subst hx
      have hJ2 : J ss w2 := hJ ss wr w2 (some W.heap.size) hJs hg2 (fun r e => by cases e; exact ⟨Nat.le_refl _, hrg.iter_walk⟩)
      have hJ3 : J ss (w2.alloc (.cells #[.int .i64 (p.1 : Int), .int .i64 (p.2 : Int)] 167)) := hJ ss w2 _ none hJ2 (World.grownBy_alloc _ _ _) (fun r e => by cases e)
      obtain ⟨fn, tmps, assign, body, hy, hR⟩ := hY ss p _ hJ3 (by omega)
      clear hs2
      unfold pv at hen hy
      gi_wp2
      refine hR.mono ?_
      rintro e W3 ⟨rfl, hJ4, hk4⟩
      gi_wp2
      have hrg3 := (hrg2.alloc (.cells #[.int .i64 (p.1 : Int), .int .i64 (p.2 : Int)] 167)).of_walks hk4
      go_roundw
      case rel => exact ⟨_, cnt2, ss ++ [p], hrg3, by simp; omega, hC.step hq hp hlk, hJ4⟩
      case measure => rw [hrg3.left_eq, hrg.left_eq]; exact hlt

theorem keys_gives {base n : Nat} {q : List ((Nat × Nat) × Nat)} {V : Nat × Nat → Value} (hq : Small2 q) (m : Nat) (hm1 : 1 ≤ m) (Bm b N : Nat) (w : World) (hBm : Bm < w.heap.size)
    (hm : w.cell? ⟨Bm, 0, none⟩ = some (.map (some b))) (hgrp : GrpAt w base b n q V) (hN : n ≤ N) :
    SeqGives Fence.wide m Tryz.prog 119 #[.pointer (some ⟨Bm, 0, none⟩)] pv (fun ss => ss.Nodup ∧ ∀ p, p ∈ ss ↔ grp q p ≠ []) N w := fun l J W hW hJ hY h0 =>
  keys1_pairs hq m hm1 l Bm b N J hY W hJ ((hW.cell (p := ⟨Bm, 0, none⟩) hBm).trans hm) (hgrp.olds (Olds.of_below hW)) (fun _ hD => Nat.le_trans hD.size_le hN) h0

set_option maxHeartbeats 1000000 in
theorem keys90 (mb : Option Nat) (w : World) : CallsIn Fence.wide 5 Tryz.prog 90 #[.map mb] w fun e w' => e = .returned (.func (.func 119) #[] #[.pointer (some ⟨w.heap.size, 0, none⟩)]) ∧ w' = w.alloc (.cells #[.map mb] 165) := by
  refine callsIn_of_wp Tryz.func90 rfl trivial ?_ rfl
  simp only [Tryz.ntmps90, List.size_toArray, List.length_cons, List.length_nil, Nat.reduceAdd, Nat.reduceSub, Array.replicate_succ, Array.replicate_zero, List.push_toArray, List.append_toArray, List.nil_append, List.cons_append]
  gi_wp2
  go_ret
  exact ⟨rfl, rfl⟩


def pcell (p : Nat × Nat) : List Value := [.int .i64 (p.1 : Int), .int .i64 (p.2 : Int)]
def flatP (ss : List (Nat × Nat)) : List Value := ss.flatMap pcell
theorem flatP_snoc (ss : List (Nat × Nat)) (x : Nat × Nat) : flatP (ss ++ [x]) = flatP ss ++ pcell x := by simp [flatP]
def RowP (w : World) (B : Nat) (v : Value) (ss : List (Nat × Nat)) : Prop := w.ownsRow B 167 2 v ss.length (flatP ss)
theorem Tryz.info167 : (Tryz.prog.info? 167).map (fun i => (i.zero, i.size, i.bytes)) = some (some (.agg #[.int .i64 0, .int .i64 0]), 2, 16) := by kernel_rfl

noncomputable def apCodes : Code × Code := match Tryz.f139.body with
  | some (.seq _ (.seq (.seq _ (.block _ (.rangeFunc _ _ a b))) _)) => (a, b)
  | _ => (.skip, .skip)
noncomputable def apRec (fn : FuncId) (sv : Value) (Bs D : Nat) (st : LoopState) (pend : Option Code) : Loop :=
  { state := st, pending := pend, fn, tmps := #[.slice none 0 0, sv, .pointer (some ⟨Bs, 0, none⟩), undef, .slice none 0 0, undef, sv, undef, undef, undef, undef, undef, undef], params := #[7], assign := apCodes.1, body := apCodes.2, defers := D }


structure ApAt (w0 : World) (fn : FuncId) (sv : Value) (Bs l D : Nat) (ss : List (Nat × Nat)) (W : World) : Prop where
  box : ∃ v, W.heap[Bs]? = some (.cells #[v] 170 (0, 0)) ∧ RowP W w0.heap.size v ss
  L : W.heap[l]? = some (.loop (apRec fn sv Bs D .ready none))
  K : W.heap[D]? = some (.deferred (some []))
  below : RowKit.Below w0.heap.size w0 W

theorem ap_abides (w0 : World) (fn : FuncId) (sv : Value) (Bs l D B : Nat) (hB : w0.heap.size ≤ B) : AbidesFrom B (ApAt w0 fn sv Bs l D) := fun s W W' row h hg hrow => by
  have hrow' : ∀ r, row = some r → ∃ o : Obj, W.heap[r]? = some o ∧ o.isWalk = true := fun r e => (hrow r e).2
  obtain ⟨v, hv, hr⟩ := h.box
  exact ⟨⟨v, (grownBy_keeps hg hrow' hv rfl).trans hv, ownsRow_abides_a hr hg hrow'⟩, (grownBy_keeps hg hrow' h.L rfl).trans h.L, (grownBy_keeps hg hrow' h.K rfl).trans h.K,
    h.below.grown hg h.below.size (fun k e => Nat.le_trans hB (hrow k e).1)⟩

theorem cell_two_new (w : World) (x : Nat × Nat) : ∀ j u, (pcell x)[j]? = some u → (w.alloc (.cells #[.int .i64 (x.1 : Int), .int .i64 (x.2 : Int)] 167)).cell? ((⟨w.heap.size, 0, none⟩ : Addr).add j) = some u := by
  intro j u h
  have h9 := heap_alloc_new w (.cells #[.int .i64 (x.1 : Int), .int .i64 (x.2 : Int)] 167)
  match j with
  | 0 =>
    simp only [pcell] at h
    cases h
    rw [show (⟨w.heap.size, 0, none⟩ : Addr).add 0 = ⟨w.heap.size, 0, none⟩ by simp [Addr.add]]
    simp only [World.cell?, h9]
    rfl
  | 1 =>
    simp only [pcell] at h
    cases h
    rw [show (⟨w.heap.size, 0, none⟩ : Addr).add 1 = ⟨w.heap.size, 1, none⟩ by simp [Addr.add]]
    simp only [World.cell?, h9]
    rfl
  | j + 2 => simp [pcell] at h

set_option maxRecDepth 100000 in
set_option maxHeartbeats 2000000 in
theorem apYield (m : Nat) (w0 : World) (fn : FuncId) (sv : Value) (Bs l D : Nat) (hBl : Bs ≠ l) (hDl : D ≠ l) (hDB : D ≠ Bs) (h0B : w0.heap.size ≤ Bs) (h0l : w0.heap.size ≤ l)
    (N : Nat) (hN : N ≤ 1000000) (ss : List (Nat × Nat)) (x : Nat × Nat) (W : World) (h : ApAt w0 fn sv Bs l D ss W) (hlen : ss.length < N) :
    YieldAt Fence.wide m Tryz.prog l #[pv x] W fun e W' => e = .returned (.bool true) ∧ ApAt w0 fn sv Bs l D (ss ++ [x]) W' ∧ KeepsWalks W W' := by
  obtain ⟨i0, hi, hz0, hz1, hz2⟩ := info_parts Tryz.info167
  obtain ⟨v, hv, hrow⟩ := h.box
  unfold RowP at hrow
  refine ⟨fn, #[.slice none 0 0, sv, .pointer (some ⟨Bs, 0, none⟩), undef, .slice none 0 0, undef, sv, pv x, undef, undef, undef, undef, undef], apCodes.1, apCodes.2, by simpa [apRec] using run_yield (P := Tryz.prog) (args := #[pv x]) h.L rfl, roundIn_of_wpIn trivial ?_⟩
  have hl : l < W.heap.size := (Array.getElem?_eq_some_iff.1 h.L).1
  have hD : D < W.heap.size := (Array.getElem?_eq_some_iff.1 h.K).1
  have hB : Bs < W.heap.size := (Array.getElem?_eq_some_iff.1 hv).1
  have hwW : ∀ Wa, Wa = W.alloc (.cells #[.int .i64 (x.1 : Int), .int .i64 (x.2 : Int)] 167) → Wa.heap[l]? = W.heap[l]? ∧ Wa.heap[D]? = W.heap[D]? ∧ Wa.heap[Bs]? = W.heap[Bs]? ∧ Wa.heap.size = W.heap.size + 1 ∧ Wa.heap[W.heap.size]? = some (.cells #[.int .i64 (x.1 : Int), .int .i64 (x.2 : Int)] 167 (0, 0)) := fun Wa e => by
    subst e
    exact ⟨Below.heap_alloc _ _ l hl, Below.heap_alloc _ _ D hD, Below.heap_alloc _ _ Bs hB, by simp, heap_alloc_new _ _⟩
  obtain ⟨Wa, hWa⟩ : ∃ Wa, Wa = W.alloc (.cells #[.int .i64 (x.1 : Int), .int .i64 (x.2 : Int)] 167) := ⟨_, rfl⟩
  obtain ⟨ql, qd, qb, qs, qn⟩ := hwW Wa hWa
  have hWl : Wa.heap[l]? = some (.loop (apRec fn sv Bs D .ready none)) := ql.trans h.L
  have hbr := run_beginRound (P := Tryz.prog) hWl rfl
  obtain ⟨W2, hW2⟩ : ∃ W2, Wa.putObj l (.loop { apRec fn sv Bs D .ready none with state := .busy }) = W2 := ⟨_, rfl⟩
  rw [hW2] at hbr
  have hla : l < Wa.heap.size := by omega
  have hga : W.grownBy Wa none := by rw [hWa]; exact World.grownBy_alloc _ _ _
  have hg2 : Wa.grownBy W2 (some l) := by rw [← hW2]; exact grownBy_putObj_a _ _ _
  have hk2 : KeepsWalks W W2 := by
    have h1 : KeepsWalks W Wa := by rw [hWa]; exact KeepsWalks.alloc _ _
    refine h1.trans ?_
    rw [← hW2]
    exact KeepsWalks.putObj _ hWl rfl
  have hv2 : W2.heap[Bs]? = some (.cells #[v] 170 (0, 0)) := by rw [← hW2]; exact (World.putObj_heap_other hBl).trans (qb.trans hv)
  have hK2 : W2.heap[D]? = some (.deferred (some [])) := by rw [← hW2]; exact (World.putObj_heap_other hDl).trans (qd.trans h.K)
  have hL2 : W2.heap[l]? = some (.loop { apRec fn sv Bs D .ready none with state := .busy }) := by rw [← hW2]; exact World.putObj_heap_same hla
  have hn2 : W2.heap[W.heap.size]? = some (.cells #[.int .i64 (x.1 : Int), .int .i64 (x.2 : Int)] 167 (0, 0)) := by rw [← hW2]; exact (World.putObj_heap_other (by omega)).trans qn
  have hx0 : W2.cell? ⟨W.heap.size, 0, none⟩ = some (.int .i64 (x.1 : Int)) := by simp only [World.cell?, hn2]; rfl
  have hx1 : W2.cell? ⟨W.heap.size, 1, none⟩ = some (.int .i64 (x.2 : Int)) := by simp only [World.cell?, hn2]; rfl
  have hrowa : Wa.ownsRow w0.heap.size 167 2 v ss.length (flatP ss) := hrow.kept hga (by rcases hrow.2 with ⟨rfl, _⟩ | ⟨g, cap, cur, rfl, _⟩ <;> simp [Value.ownBlock])
  have hrow2 : W2.ownsRow w0.heap.size 167 2 v ss.length (flatP ss) := hrowa.kept hg2 (ownsRow_ne_a hrowa hWl (fun cur e => by cases e))
  have hba : Below w0.heap.size w0 Wa := by rw [hWa]; exact h.below.alloc h.below.size _
  have hb2 : Below w0.heap.size w0 W2 := hba.grown hg2 hba.size (fun k e => by cases e; exact h0l)
  obtain ⟨hc2, hf2⟩ := cell_of_box_a hv2
  have hBlt : Bs < W2.heap.size := (Array.getElem?_eq_some_iff.1 hv2).1
  have hl2 : l < W2.heap.size := (Array.getElem?_eq_some_iff.1 hL2).1
  have hDlt : D < W2.heap.size := (Array.getElem?_eq_some_iff.1 hK2).1
  have ne_of : ∀ {j : Nat} {o : Obj}, W2.heap[j]? = some o → (∀ cur, o ≠ .cells cur 167 (0, 0)) → some j ≠ v.ownBlock := fun hj hno => by
    rcases ownsRow_ne_a hrow2 hj hno with e | e
    · rw [e]; simp
    · exact fun e' => e e'.symm
  clear hW2 hwW
  unfold pv
  simp only [apCodes, Tryz.f139]
  gi_wp2_with gi_round_op_a
  rw [← hWa]
  refine ⟨W2, hbr, ?_⟩
  gi_wp2_with (first
    | (gi_at_builtin; refine wpListIn_append_own _ rfl _ _ 170 rfl w0.heap.size 167 i0 (.agg #[.int .i64 0, .int .i64 0]) 2 16 Tryz.underlying170 hi hz0 hz1 hz2 rfl (by decide) _ _ _ rfl (hrow2.alloc _) ⟨W2.heap.size, 0, none⟩ 1 1 (pcell x) rfl rfl (cell_two_new W2 x) (by simp [pcell, Value.oneCell']) (by unfold maxLen; omega) (by omega) (by have := hb2.size; simp; omega) ?_; intro v' w3 hown' hg3 hnil3
       have hv3 : w3.heap[Bs]? = some (.cells #[v] 170 (0, 0)) := (hg3.block Bs (by simp; omega) (ne_of hv2 (fun cur e => by cases e))).trans ((Below.heap_alloc _ _ Bs hBlt).trans hv2)
       obtain ⟨hc3, hf3⟩ := cell_of_box_a hv3
       obtain ⟨g', cap', cur', rfl, hbase', hgb', hr1, hr2, hr3, hr4⟩ : ∃ g' cap' cur', v' = .slice (some ⟨g', 0, none⟩) (ss.length + 1) cap' ∧ w0.heap.size ≤ g' ∧ w3.heap[g']? = some (.cells cur' 167 (0, 0)) ∧ ss.length + 1 ≤ cap' ∧ cap' ≤ maxLen ∧ cur'.size = cap' * 2 ∧ cur'.toList.take ((ss.length + 1) * 2) = flatP ss ++ pcell x := by
         rcases hown'.2 with ⟨_, h0⟩ | h'
         · exact absurd h0 (by omega)
         · exact h'
       go_frame)
    | gi_round_op_a)
  have hg3' : (W2.alloc (.cells #[.int .i64 (x.1 : Int), .int .i64 (x.2 : Int)] 167)).grownBy w3 v.ownBlock := hg3
  have hL3 : w3.heap[l]? = some (.loop { apRec fn sv Bs D .ready none with state := .busy }) := (hg3'.block l (by simp; omega) (ne_of hL2 (fun cur e => by cases e))).trans ((Below.heap_alloc _ _ l hl2).trans hL2)
  have hK3 : w3.heap[D]? = some (.deferred (some [])) := (hg3'.block D (by simp; omega) (ne_of hK2 (fun cur e => by cases e))).trans ((Below.heap_alloc _ _ D hDlt).trans hK2)
  obtain ⟨w4, hw4⟩ : ∃ w4, w3.setCell ⟨Bs, 0, none⟩ (.slice (some ⟨g', 0, none⟩) (ss.length + 1) cap') = w4 := ⟨_, rfl⟩
  rw [hw4]
  have hg4 : w3.grownBy w4 (some Bs) := by rw [← hw4]; exact grownBy_setCell0_a _ _ _
  have hv4 : w4.heap[Bs]? = some (.cells #[.slice (some ⟨g', 0, none⟩) (ss.length + 1) cap'] 170 (0, 0)) := by rw [← hw4]; exact heap_setCell_box_a _ hv3
  have hL4 : w4.heap[l]? = some (.loop { apRec fn sv Bs D .ready none with state := .busy }) := (hg4.block l (Array.getElem?_eq_some_iff.1 hL3).1 (fun e => hBl (by cases e; rfl))).trans hL3
  have hK4 : w4.heap[D]? = some (.deferred (some [])) := (hg4.block D (Array.getElem?_eq_some_iff.1 hK3).1 (fun e => hDB (by cases e; rfl))).trans hK3
  have hrow4 := hown'.kept hg4 (ownsRow_ne_a hown' hv3 (fun cur e => by cases e))
  have hl4 : l < w4.heap.size := (Array.getElem?_eq_some_iff.1 hL4).1
  have hb3 : Below w0.heap.size w0 w3 := (hb2.alloc hb2.size _).grown hg3' (by have := hb2.size; simp; omega) (fun k e => (hrow2.lt k e).1)
  have hb4 : Below w0.heap.size w0 w4 := hb3.grown hg4 hb3.size (fun k e => by cases e; exact h0B)
  have hk4 : KeepsWalks W w4 := ((hk2.trans (KeepsWalks.alloc _ _)).trans (KeepsWalks.of_grownBy hg3' (ownsRow_not_walk_a (hrow2.alloc _)))).trans (by rw [← hw4]; exact KeepsWalks.setCell _ _ _)
  clear hw4
  refine ⟨_, _, run_endRound none hL4, rfl, ⟨⟨_, (World.putObj_heap_other hBl).trans hv4, ?_⟩, World.putObj_heap_same hl4, (World.putObj_heap_other hDl).trans hK4, hb4.grown (grownBy_putObj_a _ _ _) hb4.size (fun k e => by cases e; exact h0l)⟩, hk4.trans (KeepsWalks.putObj _ hL4 rfl)⟩
  have := hrow4.kept (grownBy_putObj_a w4 l (.loop { { apRec fn sv Bs D .ready none with state := .busy } with state := if (none : Option Code).isNone then .ready else .done, pending := none })) (ownsRow_ne_a hrow4 hL4 (fun cur e => by cases e))
  unfold RowP
  rw [flatP_snoc]
  simpa using this

set_option maxRecDepth 100000 in
set_option maxHeartbeats 2000000 in
theorem append_seq (m : Nat) (hm : 2 ≤ m) (lb : Array Value) (S : List (Nat × Nat) → Prop) (N : Nat) (hN : N ≤ 1000000) (w : World) (hseq : SeqGives Fence.wide (m - 1) Tryz.prog 119 lb pv S N w) :
    CallsIn Fence.wide m Tryz.prog 139 #[.slice none 0 0, .func (.func 119) #[] lb] w fun e w' => ∃ (v : Value) (ss : List (Nat × Nat)), e = .returned v ∧ S ss ∧ RowP w' w.heap.size v ss ∧ Below w.heap.size w w' := by
  have h1 : 1 ≤ m := by omega
  have eg : ∀ args w, (callFunc 119 args).run Tryz.prog w = .ok (.enter 119 args) w := enters_of Tryz.func119 (by kernel_rfl) rfl
  refine callsIn_of_wp_marks Tryz.func139 rfl trivial ?_ rfl
  simp only [Tryz.ntmps139, List.size_toArray, List.length_cons, List.length_nil, Nat.reduceAdd, Nat.reduceSub, Array.replicate_succ, Array.replicate_zero, List.push_toArray, List.append_toArray, List.nil_append, List.cons_append]
  gi_wp2
  refine wpIn_rangeFunc ?_
  intro fn hfn
  obtain ⟨W0, hW0⟩ : ∃ W0, w.alloc (.cells #[.slice none 0 0] 170) = W0 := ⟨_, rfl⟩
  have hs0 : W0.heap.size = w.heap.size + 1 := by rw [← hW0]; simp
  have hv0 : W0.heap[w.heap.size]? = some (.cells #[.slice none 0 0] 170 (0, 0)) := by rw [← hW0]; exact World.alloc_heap_new w _
  have hb0 : Below w.heap.size w W0 := by rw [← hW0]; exact (Below.refl _ w).alloc (Nat.le_refl _) _
  rw [hW0]
  obtain ⟨W1, hW1⟩ : ∃ W1, (W0.alloc (.deferred (some []))).alloc (.loop (apRec fn (.func (.func 119) #[] lb) w.heap.size W0.heap.size .ready none)) = W1 := ⟨_, rfl⟩
  have hold : ∀ k, k < W0.heap.size → W1.heap[k]? = W0.heap[k]? := fun k hk => by
    rw [← hW1]; exact (Below.heap_alloc _ _ k (by simp; omega)).trans (Below.heap_alloc _ _ k hk)
  have hb1 : Below w.heap.size w W1 := by rw [← hW1]; exact (hb0.alloc hb0.size _).alloc (by have := hb0.size; simp; omega) _
  have hs1 : W1.heap.size = W0.heap.size + 2 := by rw [← hW1]; simp
  have hM : ApAt w fn (.func (.func 119) #[] lb) w.heap.size (W0.heap.size + 1) W0.heap.size [] W1 :=
    ⟨⟨_, (hold w.heap.size (by omega)).trans hv0, ⟨rfl, .inl ⟨rfl, rfl⟩⟩⟩,
     by rw [← hW1]; have := World.alloc_heap_new (W0.alloc (.deferred (some []))) (.loop (apRec fn (.func (.func 119) #[] lb) w.heap.size W0.heap.size .ready none)); rwa [World.size_alloc] at this,
     by rw [← hW1]; exact (Below.heap_alloc _ _ _ (by simp)).trans (World.alloc_heap_new W0 _), hb1⟩
  refine ⟨W0.heap.size + 1, [{ target := .collected W0.heap.size, args := #[] }], W1, { target := .fn (.func 119) lb, args := #[.func (.yield (W0.heap.size + 1)) #[] #[]] }, W1, 119,
    #[.func (.yield (W0.heap.size + 1)) #[] #[]] ++ lb, W1, ?_, ?_, ?_, ?_, fun _ => h1, ?_⟩
  · rw [← hW1]; exact run_enterLoop_outer _ _ _ _ _
  · simp [resolve, go_sem]
  · intro f' hf'; trivial
  · simp [invoke, go_sem, eg]
  · refine (hseq (W0.heap.size + 1) (ApAt w fn (.func (.func 119) #[] lb) w.heap.size (W0.heap.size + 1) W0.heap.size) W1 hb1 (ap_abides _ _ _ _ _ _ _ hb1.size)
      (fun pre x W hJ hl => apYield (m - 1 - 1) w fn _ w.heap.size (W0.heap.size + 1) W0.heap.size (by omega) (by omega) (by omega) (Nat.le_refl _) (by omega) N hN pre x W hJ hl) hM).mono ?_
    rintro e W2 ⟨⟨v0, rfl⟩, ss, hS, h2⟩
    obtain ⟨v, hv, hrow⟩ := h2.box
    have hend := run_endLoop (P := Tryz.prog) h2.L (by simp [apRec])
    obtain ⟨W3, hW3⟩ : ∃ W3, W2.putObj (W0.heap.size + 1) (.loop { apRec fn (.func (.func 119) #[] lb) w.heap.size W0.heap.size .ready none with state := .exhausted }) = W3 := ⟨_, rfl⟩
    rw [hW3] at hend
    have hg3 : W2.grownBy W3 (some (W0.heap.size + 1)) := by rw [← hW3]; exact grownBy_putObj_a _ _ _
    have hv3 : W3.heap[w.heap.size]? = some (.cells #[v] 170 (0, 0)) := by rw [← hW3]; exact (World.putObj_heap_other (by omega)).trans hv
    have hK3 : W3.heap[W0.heap.size]? = some (.deferred (some [])) := by rw [← hW3]; exact (World.putObj_heap_other (by omega)).trans h2.K
    have hrow3 := hrow.kept hg3 (ownsRow_ne_a hrow h2.L (fun cur e => by cases e))
    have hb3 : Below w.heap.size w W3 := h2.below.grown hg3 h2.below.size (fun k e => by cases e; omega)
    obtain ⟨hc3, hf3⟩ := cell_of_box_a hv3
    clear hW3
    refine ⟨none, W3, hend, ?_⟩
    gi_wp2
    rw [← hs0]
    refine ⟨by simp, .inl ⟨_, _, rfl, run_takeDeferred hK3, ?_⟩⟩
    exact ⟨_, results_tmp rfl _ _ _, v, ss, rfl, hS, hrow3.kept (grownBy_putObj_a _ _ _) (ownsRow_ne_a hrow3 hK3 (fun cur e => by cases e)), hb3.grown (grownBy_putObj_a _ _ _) hb3.size (fun k e => by cases e; omega)⟩

set_option maxHeartbeats 1000000 in
theorem collect_pairs (m : Nat) (hm : 3 ≤ m) (lb : Array Value) (S : List (Nat × Nat) → Prop) (N : Nat) (hN : N ≤ 1000000) (w : World) (hseq : SeqGives Fence.wide (m - 1 - 1) Tryz.prog 119 lb pv S N w) :
    CallsIn Fence.wide m Tryz.prog 117 #[.func (.func 119) #[] lb] w fun e w' => ∃ (v : Value) (ss : List (Nat × Nat)), e = .returned v ∧ S ss ∧ RowP w' w.heap.size v ss ∧ Below w.heap.size w w' := by
  have h1 : 1 ≤ m := by omega
  have hf139 : Fence.wide.fn 139 := trivial
  refine callsIn_of_wp Tryz.func117 rfl trivial ?_ rfl
  simp only [Tryz.ntmps117, List.size_toArray, List.length_cons, List.length_nil, Nat.reduceAdd, Nat.reduceSub, Array.replicate_succ, Array.replicate_zero, List.push_toArray, List.append_toArray, List.nil_append, List.cons_append]
  gi_wp2_with (gi_at_call 139; refine (append_seq (m - 1) (by omega) lb S N hN _ hseq).mono ?_; rintro e w' ⟨v, ss, rfl, hS, hrow, hb⟩)
  go_ret
  exact ⟨v, ss, rfl, hS, hrow, hb⟩


theorem collect_any {w : World} {base mb n : Nat} {q : List ((Nat × Nat) × Nat)} {V : Nat × Nat → Value} (hq : Small2 q) (hgrp : GrpAt w base mb n q V) (hn : n ≤ 1000000) :
    Calls Tryz.prog 117 #[.func (.func 119) #[] #[.pointer (some ⟨w.heap.size, 0, none⟩)]] (w.alloc (.cells #[.map (some mb)] 165)) fun e w' => ∃ (v : Value) (ss : List (Nat × Nat)), e = .returned v ∧ (ss.Nodup ∧ ∀ p, p ∈ ss ↔ grp q p ≠ []) ∧ RowP w' (w.heap.size + 1) v ss ∧ Below (w.heap.size + 1) (w.alloc (.cells #[.map (some mb)] 165)) w' := by
  have h := collect_pairs 5 (by omega) #[.pointer (some ⟨w.heap.size, 0, none⟩)] _ n hn (w.alloc (.cells #[.map (some mb)] 165)) (keys_gives hq (5 - 1 - 1) (by omega) w.heap.size mb n (w.alloc (.cells #[.map (some mb)] 165)) (by simp) (by simp) (hgrp.olds (Olds.alloc _ _)) (Nat.le_refl _))
  have hsz : (w.alloc (.cells #[.map (some mb)] 165)).heap.size = w.heap.size + 1 := by simp
  rw [hsz] at h
  exact callsIn_wide.1 h
theorem keys90_any (mb : Option Nat) (W : World) : Calls Tryz.prog 90 #[.map mb] W fun e w' => e = .returned (.func (.func 119) #[] #[.pointer (some ⟨W.heap.size, 0, none⟩)]) ∧ w' = W.alloc (.cells #[.map mb] 165) := callsIn_wide.1 (keys90 mb W)
end Go.Proofs.YtaoggppfimfhbaaGreatDoor
namespace Go.Proofs.YtaoggppfimfhbaaGreatDoor
open Go Go.RowKit Go.Ix Go.Maps

def toF (p : Nat × Nat) : FP := (Fin.ofNat 1000000001 p.1, Fin.ofNat 1000000001 p.2)
theorem unF_toF {p : Nat × Nat} (h1 : p.1 ≤ 1000000000) (h2 : p.2 ≤ 1000000000) : unF (toF p) = p := by
  unfold unF toF
  exact Prod.ext (by simp [Fin.ofNat]; omega) (by simp [Fin.ofNat]; omega)
theorem map_toF {ss : List (Nat × Nat)} (h : ∀ p ∈ ss, p.1 ≤ 1000000000 ∧ p.2 ≤ 1000000000) : (ss.map toF).map unF = ss := by
  rw [List.map_map]
  conv => rhs; rw [← List.map_id ss]
  exact List.map_congr_left fun p hp => unF_toF (h p hp).1 (h p hp).2
theorem pcell_len (p : Nat × Nat) : (pcell p).length = 2 := rfl

theorem flatK_flatP (d : Array FP) (t : Nat) (ht : t < d.size * 2) : (flatP (d.toList.map unF))[t]? = some (Sort.flatK fcell 2 d)[t]! := by
  rw [Sort.get_flatK _ _ _ _ ht]
  have h2 : t / 2 < d.size := by omega
  have h1 : (d.toList.map unF)[t / 2]? = some (unF d[t / 2]!) := by
    rw [List.getElem?_map, Array.getElem?_toList, Array.getElem?_eq_getElem h2]
    simp [h2]
  have h3 : (pcell (unF d[t / 2]!))[t % 2]? = some (fcell d[t / 2]!)[t % 2]! := by
    have : t % 2 = 0 ∨ t % 2 = 1 := by omega
    rcases this with h | h <;> rw [h] <;> rfl
  have := flat_at (enc := pcell) (k := 2) pcell_len _ _ _ _ _ h1 h3
  rw [show t / 2 * 2 + t % 2 = t by omega] at this
  exact this

theorem holdsF {W : World} {B g c : Nat} {d : Array FP} (h : W.ownsRow B 167 2 (.slice (some ⟨g, 0, none⟩) d.size c) d.size (flatP (d.toList.map unF))) (_hd : 0 < d.size) : Sort.HoldsK fcell 2 W g 0 d := by
  intro t ht
  rw [Sort.size_flatK] at ht
  have h1 := ownsRow_cell h t _ (flatK_flatP d t ht)
  refine ⟨h1, ?_⟩
  rcases h.2 with ⟨e, _⟩ | ⟨g', cap, cur, e, _, hh, _⟩
  · cases e
  · simp only [Value.slice.injEq, Option.some.injEq, Addr.mk.injEq, and_true, true_and] at e
    obtain ⟨rfl, _⟩ := e
    simp [World.frozen?, hh]

theorem sortWorld_blocks {w : World} {g n : Nat} {d : Array FP} {os : Array Obj} {k : Nat} (hk : k < w.heap.size) (hg : k ≠ g) : (sortWorldK fcell 2 w g 0 n d os).heap[k]? = w.heap[k]? := by
  unfold sortWorldK Sort.grow Sort.putRowK Sort.putRow Sort.mapBlock Sort.ahead
  have hs : (w.heap.modify g (Sort.onCells (Sort.putCells id 0 (Sort.flatK fcell 2 d)))).size = w.heap.size := by simp
  show ((w.heap.modify g _) ++ os)[k]? = _
  rw [Array.getElem?_append_left (by rw [hs]; exact hk), Array.getElem?_modify]
  rw [if_neg (fun e => hg e.symm)]
theorem sortWorld_kept {w : World} {g n : Nat} {d : Array FP} {os : Array Obj} : (sortWorldK fcell 2 w g 0 n d os).os = w.os ∧ (sortWorldK fcell 2 w g 0 n d os).tape = w.tape ∧ (sortWorldK fcell 2 w g 0 n d os).output = w.output ∧ w.heap.size ≤ (sortWorldK fcell 2 w g 0 n d os).heap.size := by
  refine ⟨rfl, rfl, rfl, ?_⟩
  exact size_sortWorldK_c _ _ _ _ _ _ _ _


def PairsAt (w : World) (o : Option Addr) (ks : List (Nat × Nat)) : Prop := ks ≠ [] → ∃ g, o = some ⟨g, 0, none⟩ ∧ CellsAt w g 0 (flatP ks)

theorem sort_pairs {w : World} {B : Nat} {v : Value} {ss : List (Nat × Nat)} (hrow : RowP w B v ss) (hn : ss.Nodup) (hb : ∀ p ∈ ss, p.1 ≤ 1000000000 ∧ p.2 ≤ 1000000000) (hl : ss.length ≤ 1000000) :
    Calls Tryz.prog 118 #[v, .func (.func 87) #[] #[]] w fun e w' => e = .returned (.tuple #[]) ∧ ∃ o c ks, v = .slice o ks.length c ∧ PairsAt w' o ks ∧ (∀ g off, o = some ⟨g, off, none⟩ → B ≤ g ∧ g < w'.heap.size) ∧ Rising ks ∧ (∀ p, p ∈ ks ↔ p ∈ ss) ∧ Below B w w' := by
  unfold RowP at hrow
  by_cases h0 : ss = []
  · subst h0
    obtain ⟨o, c, rfl, _⟩ := ownsRow_shape hrow
    have hblk : ∀ g off, o = some ⟨g, off, none⟩ → B ≤ g ∧ g < w.heap.size := fun g off e => ownsRow_block hrow (by rw [e]; rfl)
    exact (AnyF.slices_SortFunc_none { Tryz.sort118 with } o c (.func (.func 87) #[] #[]) w).mono fun e w' ⟨h1, h2⟩ => ⟨h1, o, c, [], rfl, fun h => absurd rfl h, by rw [h2]; exact hblk, List.Pairwise.nil, fun p => Iff.rfl, by rw [h2]; exact Below.refl _ _⟩
  · have hlen : 0 < ss.length := List.length_pos_iff.2 h0
    rcases hrow.2 with ⟨_, h⟩ | ⟨g, cap, cur, rfl, hBg, hh, _⟩
    · omega
    · have hglt : g < w.heap.size := (Array.getElem?_eq_some_iff.1 hh).1
      obtain ⟨d, hd⟩ : ∃ d : Array FP, d = (ss.map toF).toArray := ⟨_, rfl⟩
      have hds : d.size = ss.length := by rw [hd]; simp
      have hdl : d.toList = ss.map toF := by rw [hd]
      have hmap : d.toList.map unF = ss := by rw [hdl]; exact map_toF hb
      have hH : Sort.HoldsK fcell 2 w g 0 d := holdsF (B := B) (c := cap) (by rw [hmap, hds]; exact hrow) (by omega)
      have hcall := sort_any g cap d w hH hglt (by omega)
      rw [hds] at hcall
      refine hcall.mono fun e w' ⟨h1, n, os, h2⟩ => ?_
      obtain ⟨d', hd'⟩ : ∃ d' : Array FP, d' = (d.toList.mergeSort fun x y => !(ltOf cfP) y x).toArray := ⟨_, rfl⟩
      rw [← hd'] at h2
      have hperm : d'.toList.Perm d.toList := by rw [hd']; exact List.mergeSort_perm _ _
      have hdn : d.toList.Nodup := by
        rw [hdl]
        refine List.pairwise_map.2 (List.Pairwise.imp_of_mem ?_ hn)
        intro a b ha hb' hab e
        apply hab
        rw [← unF_toF (hb a ha).1 (hb a ha).2, ← unF_toF (hb b hb').1 (hb b hb').2, e]
      have hsz' : d'.size = d.size := by
        have := hperm.length_eq
        simpa using this
      have hH' : Sort.HoldsK fcell 2 w' g 0 d' := by
        rw [h2]
        exact holdsK_sortWorldK_c _ _ _ _ _ d d' n os hH hglt hsz'
      have hkl : (d'.toList.map unF).length = ss.length := by rw [List.length_map]; simp; omega
      refine ⟨h1, some ⟨g, 0, none⟩, cap, d'.toList.map unF, by rw [hkl], fun _ => ⟨g, rfl, fun t u hu => ?_⟩, fun g' off e => ?_, ?_, fun p => ?_, ?_⟩
      · have htl : t < d'.size * 2 := by
          have := (List.getElem?_eq_some_iff.1 hu).1
          unfold flatP at this
          rw [flat_len pcell_len, List.length_map] at this
          simpa using this
        have h3 := flatK_flatP d' t htl
        rw [h3] at hu
        cases hu
        exact (hH' t (by rw [Sort.size_flatK]; exact htl)).1
      · cases e
        have := (sortWorld_kept (w := w) (g := g) (n := n) (d := d') (os := os)).2.2.2
        rw [h2]
        exact ⟨hBg, by omega⟩
      · rw [hd']
        exact sorted_fp d.toList hdn
      · have : p ∈ d'.toList.map unF ↔ p ∈ d.toList.map unF := (hperm.map unF).mem_iff
        rw [this, hmap]
      · obtain ⟨k1, k2, k3, k4⟩ := sortWorld_kept (w := w) (g := g) (n := n) (d := d') (os := os)
        rw [h2]
        exact ⟨k1, k2, k3, k4, fun k hk => sortWorld_blocks (by omega) (by omega)⟩

set_option maxHeartbeats 1000000 in

theorem sortedfunc_any {w : World} {base mb n : Nat} {q : List ((Nat × Nat) × Nat)} {V : Nat × Nat → Value} (hq : Small2 q) (hgrp : GrpAt w base mb n q V) (hn : n ≤ 1000000) (hk : ∀ ss : List (Nat × Nat), ss.Nodup → (∀ p, p ∈ ss ↔ grp q p ≠ []) → ss.length ≤ 1000000) :
    Calls Tryz.prog 89 #[.func (.func 119) #[] #[.pointer (some ⟨w.heap.size, 0, none⟩)], .func (.func 87) #[] #[]] (w.alloc (.cells #[.map (some mb)] 165)) fun e w' => ∃ o c ks, e = .returned (.slice o ks.length c) ∧ PairsAt w' o ks ∧ (∀ g off, o = some ⟨g, off, none⟩ → w.heap.size + 1 ≤ g ∧ g < w'.heap.size) ∧ Rising ks ∧ (∀ p, p ∈ ks ↔ grp q p ≠ []) ∧ Below (w.heap.size + 1) (w.alloc (.cells #[.map (some mb)] 165)) w' := by
  have HC := Lib.hid (collect_any hq hgrp hn)
  have HK := Lib.hid hk
  have hbr : ∀ r, grp q r ≠ [] → r.1 ≤ 1000000000 ∧ r.2 ≤ 1000000000 := fun r hr => by
    obtain ⟨i, hi⟩ := grp_ne.1 hr
    exact hq _ hi
  have HB := Lib.hid hbr
  clear hk hbr hq hgrp
  go_enter Tryz.func89, Tryz.ntmps89
  go_wp2_with (first
    | (go_at_call 117; refine HC.out.mono ?_; clear HC; rintro e wa ⟨v, ss, rfl, ⟨hnd, hmem⟩, hrow, hba⟩; have HS := Lib.hid (sort_pairs hrow hnd (fun p hp => HB.out p ((hmem p).1 hp)) (HK.out ss hnd hmem)); have Hmem := Lib.hid hmem; have Hba := Lib.hid hba; clear hnd hmem hrow hba)
    | (go_at_call 118; refine HS.out.mono ?_; clear HS; rintro e wb ⟨rfl, o, c, ks, rfl, hpairs, hblk, hris, hks, hbb⟩; have HP := Lib.hid hpairs; have HBl := Lib.hid hblk; have HR := Lib.hid hris; have HKs := Lib.hid hks; have Hbb := Lib.hid hbb; clear hpairs hblk hris hks hbb))
  go_ret
  exact ⟨o, c, ks, rfl, HP.out, HBl.out, HR.out, fun p => (HKs.out p).trans (Hmem.out p), Hba.out.trans Hbb.out⟩
end Go.Proofs.YtaoggppfimfhbaaGreatDoor
namespace Go.Proofs.YtaoggppfimfhbaaGreatDoor
open Go Go.RowKit Go.Ix Go.Maps

theorem GrpAt.look {w : World} {base mb n : Nat} {q : List ((Nat × Nat) × Nat)} {V : Nat × Nat → Value} (h : GrpAt w base mb n q V) (hq : Small2 q) {p : Nat × Nat} (hp : grp q p ≠ []) : (Instr.lookup 165 (.map (some mb)) (pv p) false).run Tryz.prog w = .ok (V p) w ∧ RowI w base (V p) (grp q p) := by
  obtain ⟨D, hown, a3, a4, a5, a6⟩ := h
  obtain ⟨i, hi⟩ := grp_ne.1 hp
  obtain ⟨b1, b2⟩ := hq _ hi
  obtain ⟨v, ps, hr, hv⟩ := hown.lookup (t := 165) (e := 112) Tryz.lawP Tryz.underlying165 (zero112 w) (zd := .held (.slice none 0 0)) (zp := []) rfl (keyP b1 b2)
  rw [(a5 p hp).2.1] at hv
  unfold RV at hv
  simp only [Option.some.injEq, Prod.mk.injEq, DataW.held.injEq] at hv
  rw [hr, hv.1]
  exact ⟨rfl, (a5 p hp).2.2⟩

theorem grp_len_le {q : List ((Nat × Nat) × Nat)} {ss : List (Nat × Nat)} (hn : ss.Nodup) (hm : ∀ p, p ∈ ss ↔ grp q p ≠ []) : ss.length ≤ q.length := by
  have hsub : ss ⊆ q.map (·.1) := fun p hp => by
    obtain ⟨i, hi⟩ := grp_ne.1 ((hm p).1 hp)
    exact List.mem_map.2 ⟨_, hi, rfl⟩
  have key : ∀ (l m : List (Nat × Nat)), l.Nodup → l ⊆ m → l.length ≤ m.length := by
    intro l
    induction l with
    | nil => intro m _ _; simp
    | cons a l ih =>
      intro m hl hs
      obtain ⟨h1, h2⟩ := List.nodup_cons.1 hl
      have ha : a ∈ m := hs (by simp)
      have h3 := ih (m.erase a) h2 fun b hb => (List.mem_erase_of_ne (by rintro rfl; exact h1 hb)).2 (hs (by simp [hb]))
      rw [List.length_erase_of_mem ha] at h3
      have := List.length_pos_of_mem ha
      rw [List.length_cons]
      omega
  have := key _ _ hn hsub
  simpa using this

theorem GrpAt.sized {w : World} {base mb n : Nat} {q : List ((Nat × Nat) × Nat)} {V : Nat × Nat → Value} (h : GrpAt w base mb n q V) : ∃ D : DataW Value, w.ownsMap Tryz.prog 167 RV mb n D ∧ ∀ ss : List (Nat × Nat), ss.Nodup → (∀ p, p ∈ ss ↔ grp q p ≠ []) → Maps.size D = ss.length := by
  obtain ⟨D, hown, a3, a4, a5, a6⟩ := h
  refine ⟨D, hown, fun ss hn hm => ?_⟩
  obtain ⟨es, rfl, hpw, hk⟩ := hown.entries Tryz.lawP
  have hmem : ∀ e ∈ es, ∃ p, e.1 = kp p ∧ grp q p ≠ [] := fun e he => a4 e.1 (by
    rw [has_eq, List.any_eq_true]
    exact ⟨e, he, WideAt.sameKey_self (hk e he)⟩)
  have hall : (es.map (·.1)).Perm (ss.map kp) := by
    refine (List.perm_ext_iff_of_nodup (List.pairwise_map.2 hpw) ?_).2 fun kl => ?_
    · refine List.pairwise_map.2 (List.Pairwise.imp_of_mem ?_ hn)
      intro a b ha hb hab e
      have h1 := (a5 a ((hm a).1 ha)).2.1 .nil
      have h2 := (a5 b ((hm b).1 hb)).2.1 .nil
      rw [e, h2] at h1
      simp only [DataW.held.injEq] at h1
      have hra := (a5 a ((hm a).1 ha)).2.2
      have hl : 0 < (grp q a).length := List.length_pos_iff.2 ((hm a).1 ha)
      rcases hra.2 with ⟨_, h0⟩ | ⟨g, cap, cur, hv, _⟩
      · omega
      · exact a6 a b hab ((hm a).1 ha) ((hm b).1 hb) g (by rw [hv]; rfl) (by rw [h1, hv]; rfl)
    · rw [List.mem_map, List.mem_map]
      constructor
      · rintro ⟨e, he, rfl⟩
        obtain ⟨p, hp, hg⟩ := hmem e he
        exact ⟨p, (hm p).2 hg, hp.symm⟩
      · rintro ⟨p, hp, rfl⟩
        have h1 := (a5 p ((hm p).1 hp)).1
        rw [has_eq, List.any_eq_true] at h1
        obtain ⟨e, he, hs⟩ := h1
        exact ⟨e, he, WideAt.sameKey_eq hs⟩
  have := hall.length_eq
  rw [List.length_map, List.length_map] at this
  rw [size_eq]
  exact this


def Stores (w1 : World) (base mb n : Nat) (q : List ((Nat × Nat) × Nat)) (V : Nat × Nat → Value) (p : Nat × Nat) (v0 : Value) (st : Nat) : Prop :=
  ∀ (w2 : World) (v' : Value) (i : Nat), w1.grownBy w2 v0.ownBlock → RowI w2 base v' (grp q p ++ [i]) → (v'.ownBlock = v0.ownBlock ∨ ∃ g, v'.ownBlock = some g ∧ w1.heap.size ≤ g) →
    ∃ w3, (Instr.entryStore 165 (.map (some mb)) (goInt (st : Nat)) v').run Tryz.prog w2 = .ok () w3 ∧ GrpAt w3 base mb (n + 1) (q ++ [(p, i)]) (fun r => if r = p then v' else V r) ∧ w2.grownBy w3 (some mb)

section
variable {ops : Array Oper} {rest : List Oper} {o : Oper} {a : Act} {Q : Exit → Act → World → Prop} {W : World}
theorem wpList_grp_entry (hg : o.guard = none) (m x : Operand) (hop : o.op = Op.mapEntry 165 m x) (base mb n : Nat) (q : List ((Nat × Nat) × Nat)) (V : Nat × Nat → Value) (p : Nat × Nat)
    (hm : a.eval m = .map (some mb)) (hx : a.eval x = pv p) (h : GrpAt W base mb n q V) (hq : Small2 q) (hp1 : p.1 ≤ 1000000000) (hp2 : p.2 ≤ 1000000000) (hn : n < 1000000000)
    (hK : ∀ v0 st w1, W.grownBy w1 (some mb) → w1.heap.size = W.heap.size → RowI w1 base v0 (grp q p) → Stores w1 base mb n q V p v0 st → wpList Tryz.prog ops Q rest (a.put o.dst (.tuple #[v0, goInt (st : Nat)])) w1) : wpList Tryz.prog ops Q (o :: rest) a W :=
  wpList_plain hg fun K hKK => by
    obtain ⟨v0, st, w1, h1, h2, h3, h4, _, h6⟩ := h.entry hq hp1 hp2 hn
    unfold Oper.wp
    simp only [execOp, hop, hm, hx]
    simp [h1, Result.andThen]
    exact hKK _ _ (hK v0 st w1 h2 h3 h4 h6)

theorem wpList_grp_store (hg : o.guard = none) (m s v : Operand) (hop : o.op = Op.entryStore 165 m s v) (base mb n : Nat) (q : List ((Nat × Nat) × Nat)) (V : Nat × Nat → Value) (p : Nat × Nat) (v0 : Value) (st : Nat) (w1 : World) (hst : Stores w1 base mb n q V p v0 st) (v' : Value) (i : Nat)
    (hm : a.eval m = .map (some mb)) (hs : a.eval s = goInt (st : Nat)) (hv : a.eval v = v') (hg2 : w1.grownBy W v0.ownBlock) (hrow : RowI W base v' (grp q p ++ [i])) (hloc : v'.ownBlock = v0.ownBlock ∨ ∃ g, v'.ownBlock = some g ∧ w1.heap.size ≤ g)
    (hK : ∀ w3, GrpAt w3 base mb (n + 1) (q ++ [(p, i)]) (fun r => if r = p then v' else V r) → W.grownBy w3 (some mb) → wpList Tryz.prog ops Q rest (a.put o.dst undef) w3) : wpList Tryz.prog ops Q (o :: rest) a W :=
  wpList_plain hg fun K hKK => by
    obtain ⟨w3, h1, h2, h3⟩ := hst W v' i hg2 hrow hloc
    unfold Oper.wp
    simp only [execOp, hop, hm, hs, hv]
    simp [h1, Result.andThen]
    exact hKK _ _ (by simpa using hK w3 h2 h3)
end
end Go.Proofs.YtaoggppfimfhbaaGreatDoor
namespace Go.Proofs.YtaoggppfimfhbaaGreatDoor
open Go Go.RowKit Go.Ix Go.Maps

theorem Small2.app {q r : List ((Nat × Nat) × Nat)} (h : Small2 q) (k : Small2 r) : Small2 (q ++ r) := fun x hx => by
  rcases List.mem_append.1 hx with hx | hx
  · exact h x hx
  · exact k x hx
theorem small_seqsL {ss : List Txt} {i : Nat} {l : List Lbl} (h : ∀ y ∈ l, y.1 ∈ ss ∧ y.2 ∈ ss) (hl : ss.length ≤ 1000000000) : Small2 (seqsL ss i l) := fun x hx => by
  obtain ⟨y, hy, rfl⟩ := List.mem_map.1 hx
  obtain ⟨h1, h2⟩ := h y hy
  have := idx_lt h1
  have := idx_lt h2
  exact ⟨by show idx ss y.1 ≤ _; omega, by show idx ss y.2 ≤ _; omega⟩
theorem small_seqsFrom {ss : List Txt} {i : Nat} {l : List Ent} (h : ∀ e ∈ l, ∀ y ∈ e.1, y.1 ∈ ss ∧ y.2 ∈ ss) (hl : ss.length ≤ 1000000000) : Small2 (seqsFrom ss i l) := by
  induction l generalizing i with
  | nil => intro x hx; simp [seqsFrom] at hx
  | cons e l ih => exact (small_seqsL (h e (by simp)) hl).app (ih fun x hx => h x (by simp [hx]))
theorem seqsL_len (ss : List Txt) (i : Nat) (l : List Lbl) : (seqsL ss i l).length = l.length := by simp [seqsL]
theorem seqsL_snoc (ss : List Txt) (i : Nat) (l : List Lbl) (y : Lbl) : seqsL ss i (l ++ [y]) = seqsL ss i l ++ [((idx ss y.1, idx ss y.2), i)] := by simp [seqsL]
theorem seqsFrom_len (ss : List Txt) (i : Nat) (l : List Ent) : (seqsFrom ss i l).length = lblsOf l := by
  induction l generalizing i with
  | nil => rfl
  | cons e l ih =>
    show (seqsL ss i e.1 ++ seqsFrom ss (i + 1) l).length = _
    rw [List.length_append, seqsL_len, ih]
    rfl
theorem seqs_len (ss : List Txt) (l : List Ent) : (seqs ss l).length = lblsOf l := seqsFrom_len ss 0 l

theorem Olds.setNew {Y W : World} (h : Olds Y W) {p : Addr} (hp : Y.heap.size ≤ p.block) (v : Value) : Olds Y (W.setCell p v) :=
  ⟨by simp [World.setCell]; exact h.1, fun k hk => (Below.heap_setCell _ _ _ _ (by omega)).trans (h.2 k hk)⟩


theorem Buf.range {w : World} {B blk : Nat} {K : Nat → Prop} {sy nm : Value} {bs : List Nat} (h : Buf w B blk K sy nm bs) (X : Nat) : Buf w B blk (fun b => K b ∨ (w.heap.size ≤ b ∧ b < X)) sy nm bs := by
  have hlt := h.lt
  refine h.also (fun h => by omega) fun v g hv hg h2 => ?_
  obtain ⟨_, _, v', h3, h4, _⟩ := h
  have hc : w.cell? ⟨blk, 0, none⟩ = some v' := by simp [World.cell?, h3]
  rw [hc] at hv
  cases hv
  have := (ownsRow_block h4 hg).2
  omega
theorem GrpAt.kept {w W : World} {base mb n : Nat} {q : List ((Nat × Nat) × Nat)} {V : Nat × Nat → Value} {K : Nat → Prop} (h : GrpAt w base mb n q V) (hk : Kept K w W) (hK : ∀ b, mb ≤ b → b < w.heap.size → K b) : GrpAt W base mb n q V :=
  h.keep (hk.block mb (hK mb (Nat.le_refl _) h.lt)) fun p g hp hg => hk.block g (by
    obtain ⟨h1, h2⟩ := h.block hp hg
    obtain ⟨D, _, a3, _⟩ := h
    exact hK g (by omega) h2)

set_option maxRecDepth 20000 in
set_option maxHeartbeats 1000000 in
theorem postings_any {w : World} {B blk nb : Nat} {K : Nat → Prop} {sy : Value} {bs : List Nat} {ss : List Txt} (o : Option Addr) (n c : Nat) (l : List Ent) (hn : l.length = n) (hs : Small l) (hL : lblsOf l ≤ 4000) (hc : RowsE w o l)
    (hss : ss = symbols l) (hsl : ss.length ≤ 8000) (hB : B ≤ w.heap.size) (hK : ∀ b, K b → b < w.heap.size) (hnb : K nb) (hbuf : Buf w B blk K sy (.map (some nb)) bs) (hnum : NumAt w nb ss) (hbl : bs.length ≤ 10000000000) (h60 : n ≤ 60)
    (hg60 : ∀ p, ∀ z ∈ grp (seqs ss l) p, z < n) :
    Calls Tryz.prog 25 #[.pointer (some ⟨blk, 0, none⟩), .slice o n c] w fun e w' => e = .returned (.tuple #[]) ∧ Buf w' B blk K sy (.map (some nb)) (bs ++ postPart ss.length (grp (seqs ss l))) ∧ Kept K w w' := by
  have Hc := Lib.hid hc
  have Hs := Lib.hid hs
  have Hn := Lib.hid hn
  have HL := Lib.hid hL
  have HK := Lib.hid hK
  have Hbuf := Lib.hid hbuf
  have Hnum := Lib.hid hnum
  have Hss := Lib.hid hss
  have Hg60 := Lib.hid hg60
  have hmm := @run_makeMap Tryz.prog
  have hm := hs.1
  have hblk := hbuf.lt
  have hnblt := hK nb hnb
  have Hmem : Hid (∀ e ∈ l, ∀ y ∈ e.1, y.1 ∈ ss ∧ y.2 ∈ ss) := Lib.hid (fun e he y hy => by rw [hss]; exact texts_mem he hy)
  rw [hn] at hm
  clear hc hs hn hL hK hbuf hnum hss hg60
  go_enter Tryz.func25, Tryz.ntmps25
  go_wp2_with fail
  go_loopw [5, 6, 8, 9, 18] (fun _ _ _ _ iv wr => ∃ (k q : Nat) (V : Nat × Nat → Value), k ≤ n ∧ iv = .int .i64 k ∧ Below w.heap.size w wr ∧ q ≤ (seqs ss (l.take k)).length ∧ GrpAt wr (w.heap.size + 1) w.heap.size q (seqs ss (l.take k)) V) (fun _ _ _ _ iv _ => n - (intOf iv).toNat)
  case atStart => exact ⟨0, 0, fun _ => undef, Nat.zero_le _, rfl, (Below.refl _ w).alloc (Nat.le_refl _) _, Nat.zero_le _, by rw [List.take_zero]; exact GrpAt.made w _⟩
  case round =>
    obtain ⟨k, q, V, hk, rfl, hb, hq, hgrp⟩ := hrel
    have Hb := Lib.hid hb
    have hsz := hb.size
    have Hgrp := Lib.hid hgrp
    have Hq := Lib.hid hq
    have hlt0 := hgrp.lt
    clear hb hgrp hq
    by_cases hlt : k < n
    · obtain ⟨b, off, e1, e2, o1, n1, c1, o2, n2, c2, rfl, hx, hc1, hc2, hl1, hl2, hr1, hr2, _⟩ := Hc.out.at (k := k) (by rw [Hn.out]; exact hlt)
      obtain ⟨hs1, hs2, hs3⟩ := Hs.out.ent hx
      have hcr1 := (Olds.of_below Hb.out).cell hc1
      have hcr2 := (Olds.of_below Hb.out).cell hc2
      have hn1 : n1 ≤ 1000000000 := by omega
      have Hx := Lib.hid hx
      have Hr1 := Lib.hid hr1
      have Hl1 := Lib.hid hl1
      have HS3 := Lib.hid hs3
      have hcap : (seqs ss (l.take k)).length + n1 ≤ 4000 := by
        have h1 := lblsOf_at hx
        have h2 := HL.out
        rw [seqs_len]
        simp only at h1
        omega
      have HM1 : Hid (∀ y ∈ e1, y.1 ∈ ss ∧ y.2 ∈ ss) := Lib.hid (Hmem.out _ (List.mem_of_getElem? hx))
      have HQ1 : Hid (Small2 (seqs ss (l.take k))) := Lib.hid (small_seqsFrom (fun e he => Hmem.out e (List.mem_of_mem_take he)) (by omega))
      clear hx hr1 hr2 hl1 hl2 hs3 hc1 hc2
      go_wp2_with fail
      go_loopw [8, 9, 26] (fun _ _ jv wq => ∃ (j q : Nat) (V : Nat × Nat → Value), j ≤ n1 ∧ jv = .int .i64 j ∧ Below w.heap.size w wq ∧ q ≤ (seqs ss (l.take k) ++ seqsL ss k (e1.take j)).length ∧ GrpAt wq (w.heap.size + 1) w.heap.size q (seqs ss (l.take k) ++ seqsL ss k (e1.take j)) V) (fun _ _ jv _ => n1 - (intOf jv).toNat)
      case atStart => exact ⟨0, q, V, Nat.zero_le _, rfl, Hb.out.alloc hsz _, by rw [List.take_zero]; show _ ≤ (_ ++ []).length; rw [List.append_nil]; exact Hq.out, by rw [List.take_zero]; show GrpAt _ _ _ _ (_ ++ []) _; rw [List.append_nil]; exact Hgrp.out.olds (Olds.alloc _ _)⟩
      case round =>
        obtain ⟨j, q2, V2, hj, rfl, hbq, hq2, hgrp2⟩ := hrel
        have Hbq := Lib.hid hbq
        have hszq := hbq.size
        have Hgrp2 := Lib.hid hgrp2
        have hlt2 := hgrp2.lt
        have Hq2 := Lib.hid hq2
        have hq2b : q2 ≤ 4000 := by
          rw [List.length_append, seqsL_len, List.length_take] at hq2
          have h1 := Hl1.out
          omega
        clear hbq hgrp2 hq2
        by_cases hjn : j < n1
        · obtain ⟨b2, off2, y1, y2, rfl, hy, hy1, hy2⟩ := Hr1.out.at (k := j) (by rw [Hl1.out]; exact hjn)
          obtain ⟨hly1, hly2⟩ := HS3.out _ (List.mem_of_getElem? hy)
          obtain ⟨hm1, hm2⟩ := HM1.out _ (List.mem_of_getElem? hy)
          simp only at hly1 hly2 hm1 hm2
          have hyq1 := (Olds.of_below Hbq.out).cell hy1
          have hyq2 := (Olds.of_below Hbq.out).cell hy2
          have Hy := Lib.hid hy
          have hi1 := idx_lt hm1
          have hi2 := idx_lt hm2
          obtain ⟨Y, hY⟩ : ∃ Y : World, Y = wr.alloc (.cells #[encStr y1, encStr y2] 84) := ⟨_, rfl⟩
          have hYb : Y.heap[wr.heap.size]? = some (.cells #[encStr y1, encStr y2] 84 (0, 0)) := by rw [hY]; exact heap_alloc_new _ _
          have HbY : Hid (Below w.heap.size w Y) := Lib.hid (by rw [hY]; exact Hbq.out.alloc hszq _)
          have HgY : Hid (GrpAt Y (w.heap.size + 1) w.heap.size q2 (seqs ss (l.take k) ++ seqsL ss k (e1.take j)) V2) := Lib.hid (by rw [hY]; exact Hgrp2.out.olds (Olds.alloc _ _))
          have hYs : Y.heap.size = wr.heap.size + 1 := by rw [hY]; simp
          have hw0 : Olds w Y := Olds.of_below HbY.out
          have hnY := Hnum.out.olds hw0
          have hbY := Hbuf.out.olds hw0
          obtain ⟨_, _, _, z2, _⟩ := hbY.there
          have z0 : Y.cell? ⟨wr.heap.size, 0, none⟩ = some (encStr y1) := by simp only [World.cell?, hYb]; rfl
          have z1 : Y.cell? ⟨wr.heap.size, 1, none⟩ = some (encStr y2) := by simp only [World.cell?, hYb]; rfl
          have HS : Hid (∀ W, Olds Y W → W.cell? ⟨wr.heap.size, 0, none⟩ = some (encStr y1) ∧ W.cell? ⟨wr.heap.size, 1, none⟩ = some (encStr y2) ∧ W.cell? ⟨blk, 2, none⟩ = some (.map (some nb)) ∧ (Instr.lookup 91 (.map (some nb)) (encStr y1) false).run Tryz.prog W = .ok (.int .i64 (idx ss y1 : Nat)) W ∧ (Instr.lookup 91 (.map (some nb)) (encStr y2) false).run Tryz.prog W = .ok (.int .i64 (idx ss y2 : Nat)) W) := Lib.hid (fun W hW => ⟨hW.cell z0, hW.cell z1, hW.cell z2, (hnY.olds hW).look hm1 hly1, (hnY.olds hW).look hm2 hly2⟩)
          have HYe := Lib.hid hY
          obtain ⟨s0, s1, s2, s3, s4⟩ := HS.out Y.drew (Olds.drewN Y 1)
          clear hy hy1 hy2 hY hYb z0 z1 z2 hnY hbY hw0
          generalize hI1 : idx ss y1 = i1 at *
          generalize hI2 : idx ss y2 = i2 at *
          have Hi1 := Lib.hid hI1
          have Hi2 := Lib.hid hI2
          clear hI1 hI2
          go_upto_region 7 with fail
          rw [← HYe.out]
          go_cut [9] from 30 to 44 (fun t9 wx => t9 = .pointer (some ⟨wr.heap.size + 1, 0, none⟩) ∧ Below Y.heap.size Y wx ∧ wx.heap[wr.heap.size + 1]? = some (.cells #[.int .i64 (i1 : Int), .int .i64 (i2 : Int)] 167 (0, 0)))
          case first =>
            go_region_held (fun W => W.cell? ⟨wr.heap.size, 0, none⟩ = some (encStr y1) ∧ W.cell? ⟨wr.heap.size, 1, none⟩ = some (encStr y2) ∧ W.cell? ⟨blk, 2, none⟩ = some (.map (some nb)) ∧ (Instr.lookup 91 (.map (some nb)) (encStr y1) false).run Tryz.prog W = .ok (.int .i64 (i1 : Nat)) W ∧ (Instr.lookup 91 (.map (some nb)) (encStr y2) false).run Tryz.prog W = .ok (.int .i64 (i2 : Nat)) W) (first | exact HS.out _ (Olds.drewN Y 1) | exact HS.out _ ((Olds.drewN Y 1).trans (Olds.alloc _ _))) (fail)
            all_goals (go_wp2_with fail; go_meet; case rel => exact ⟨rfl, below_drewN ((Below.refl _ Y).alloc (Nat.le_refl _) _) 1, by have h9 := heap_alloc_new Y (.cells #[.int .i64 (i1 : Int), .int .i64 (i2 : Int)] 167); rw [hYs] at h9; exact h9⟩)
          case rest =>
          obtain ⟨rfl, hbx, hwx⟩ := hcut
          generalize wc = wx at *
          have h10 : wx.cell? ⟨wr.heap.size + 1, 0, none⟩ = some (.int .i64 (i1 : Int)) := by simp only [World.cell?, hwx]; rfl
          have h11 : wx.cell? ⟨wr.heap.size + 1, 1, none⟩ = some (.int .i64 (i2 : Int)) := by simp only [World.cell?, hwx]; rfl
          have Hgx : Hid (∀ W, Olds wx W → GrpAt W (w.heap.size + 1) w.heap.size q2 (seqs ss (l.take k) ++ seqsL ss k (e1.take j)) V2) := Lib.hid (fun W hW => (HgY.out.olds (Olds.of_below hbx)).olds hW)
          have hszx := hbx.size
          have Hbx : Hid (Below w.heap.size w wx) := Lib.hid (HbY.out.trans (hbx.mono (by omega)))
          have Htk : Hid (seqs ss (l.take k) ++ seqsL ss k (e1.take (j + 1)) = seqs ss (l.take k) ++ seqsL ss k (e1.take j) ++ [((i1, i2), k)]) := Lib.hid (by
            rw [take_snoc Hy.out, seqsL_snoc, Hi1.out, Hi2.out, List.append_assoc])
          have HQ0 : Hid (Small2 (seqs ss (l.take k) ++ seqsL ss k (e1.take j))) := Lib.hid (HQ1.out.app (small_seqsL (fun y hy => HM1.out y (List.mem_of_mem_take hy)) (by omega)))
          have Hq2' := Lib.hid Hq2.out
          have hlq : (seqs ss (l.take k) ++ seqsL ss k (e1.take j)).length ≤ 4000 := by
            rw [List.length_append, seqsL_len, List.length_take]
            have h1 := Hl1.out
            omega
          have hkn : k ≤ 60 := by omega
          clear s0 s1 s2 s3 s4 hbx hwx HgY Hq2
          generalize hQ0 : seqs ss (l.take k) ++ seqsL ss k (e1.take j) = Q0 at *
          have HQe := Lib.hid hQ0
          have hgl : (grp Q0 (i1, i2)).length ≤ 4000 := Nat.le_trans (grp_len Q0 _) hlq
          clear hQ0
          generalize hL0 : (grp Q0 (i1, i2)).length = L0 at *
          have HL0 := Lib.hid hL0
          clear hL0
          obtain ⟨t0, hi3, hz30, hz31, hz32⟩ := info_parts Tryz.info3
          have Hinfo := Lib.hid (And.intro hi3 (And.intro hz30 (And.intro hz31 hz32)))
          clear hi3 hz30 hz31 hz32
          go_wp2_with (first
            | (refine wpList_grp_entry rfl _ _ rfl (w.heap.size + 1) w.heap.size q2 Q0 V2 (i1, i2) rfl rfl (Hgx.out _ (Olds.alloc _ _)) HQ0.out (by simp only; omega) (by simp only; omega) (by omega) ?_; intro v0 st w1 hg1 hs1 hrow0 hst; unfold RowI at hrow0; rw [HL0.out] at hrow0; obtain ⟨o0, c0, hv0, _⟩ := ownsRow_shape hrow0; subst hv0; have Hg1 := Lib.hid hg1; have Hrow0 := Lib.hid hrow0; have Hst := Lib.hid hst; have hs1' : w1.heap.size = wx.heap.size + 1 := (by rw [hs1]; simp); have Hfl : Hid (FlatAt w1 (.slice (some ⟨wx.heap.size, 0, none⟩) 1 1) 1 [.int .i64 (k : Int)]) := Lib.hid ⟨_, _, rfl, (fun h => by cases h), fun _ => ⟨wx.heap.size, 0, rfl, fun t u hu => (by have hb9 : (wx.alloc (.cells #[.int .i64 (k : Int)] 3)).heap[wx.heap.size]? = some (.cells #[.int .i64 (k : Int)] 3 (0, 0)) := heap_alloc_new _ _; have hb8 : w1.heap[wx.heap.size]? = some (.cells #[.int .i64 (k : Int)] 3 (0, 0)) := (hg1.block wx.heap.size (by simp) (fun e => by have := Option.some.inj e; omega)).trans hb9; have ht0 : t = 0 := (by have := (List.getElem?_eq_some_iff.1 hu).1; simp at this; omega); subst ht0; simp only [World.cell?, hb8]; exact hu)⟩⟩; clear hg1 hs1 hrow0 hst Hgx)
            | (at_builtin; refine wpList_append_flat rfl _ _ rfl Tryz.underlying112 size3 Hinfo.out.1 Hinfo.out.2.1 Hinfo.out.2.2.1 Hinfo.out.2.2.2 rfl (by decide) (by decide) (w.heap.size + 1) L0 1 (.slice o0 L0 c0) (.slice (some ⟨wx.heap.size, 0, none⟩) 1 1) (nats (grp Q0 (i1, i2))) [.int .i64 (k : Int)] rfl rfl Hrow0.out (by omega) Hfl.out rfl (by simp [Value.oneCell']) (by omega) ?_; intro v2 w2 hown2 hg2 hat2; have Hown2 := Lib.hid hown2; have Hg2 := Lib.hid hg2; have Hat2 := Lib.hid hat2; clear hown2 hg2 hat2)
            | (refine wpList_grp_store rfl _ _ _ rfl (w.heap.size + 1) w.heap.size q2 Q0 V2 (i1, i2) (.slice o0 L0 c0) st w1 Hst.out v2 k rfl rfl rfl Hg2.out (by unfold RowI nats; rw [List.map_append, List.length_append, HL0.out]; exact Hown2.out) (Hat2.out.imp id (fun h => ⟨_, h, Nat.le_refl _⟩)) ?_; intro w3 hgrp3 hg3; have Hgrp3 := Lib.hid hgrp3; have Hg3 := Lib.hid hg3; clear hgrp3 hg3))
          have HbW : Hid (Below w.heap.size w w3) := Lib.hid (by
            have b1 : Below w.heap.size w (wx.alloc (.cells #[.int .i64 (k : Int)] 3)) := Hbx.out.alloc Hbx.out.size _
            have b2 : Below w.heap.size w w1 := b1.grown Hg1.out b1.size (fun g e => by cases e; exact Nat.le_refl _)
            have b3 : Below w.heap.size w w2 := b2.grown Hg2.out b2.size (fun g e => by have := (ownsRow_block Hrow0.out e).1; omega)
            exact b3.grown Hg3.out b3.size (fun g e => by cases e; exact Nat.le_refl _))
          have HqN : Hid (q2 + 1 ≤ (seqs ss (l.take k) ++ seqsL ss k (e1.take (j + 1))).length) := Lib.hid (by
            rw [Htk.out, List.length_append]
            have := Hq2'.out
            simp only [List.length_cons, List.length_nil]
            omega)
          go_roundw
          case rel => exact ⟨j + 1, q2 + 1, _, by omega, by go_num, HbW.out, HqN.out, by rw [Htk.out]; exact Hgrp3.out⟩
          case measure => simp [intOf]; omega
        · go_wp2_with fail
          go_roundw
          case rel => exact ⟨k + 1, q2, V2, by omega, by go_num, Hbq.out, by
            have h9 := Hq2.out
            rw [List.take_of_length_le (l := e1) (by rw [Hl1.out]; omega)] at h9
            rw [take_snoc Hx.out, seqs_snoc, List.length_take, Hn.out, Nat.min_eq_left (by omega)]
            exact h9, by
            have h9 := Hgrp2.out
            rw [List.take_of_length_le (l := e1) (by rw [Hl1.out]; omega)] at h9
            rw [take_snoc Hx.out, seqs_snoc, List.length_take, Hn.out, Nat.min_eq_left (by omega)]
            exact h9⟩
          case measure => simp [intOf]; omega
    · have Hgrp9 : Hid (GrpAt wr (w.heap.size + 1) w.heap.size q (seqs ss l) V) := Lib.hid (by
        have h9 := Hgrp.out
        rwa [List.take_of_length_le (l := l) (by rw [Hn.out]; omega)] at h9)
      have hq4 : q ≤ 4000 := by
        have h9 := Hq.out
        rw [List.take_of_length_le (l := l) (by rw [Hn.out]; omega), seqs_len] at h9
        have h1 := HL.out
        omega
      have HQs : Hid (Small2 (seqs ss l)) := Lib.hid (small_seqsFrom Hmem.out (by omega))
      have Hlq : Hid ((seqs ss l).length ≤ 4000) := Lib.hid (by rw [seqs_len]; exact HL.out)
      have Hpairs : Hid (∀ ks : List (Nat × Nat), Rising ks → (∀ p, p ∈ ks ↔ grp (seqs ss l) p ≠ []) → ks = pairs ss.length (grp (seqs ss l))) := Lib.hid (fun ks h1 h2 => by
        have h3 := Hss.out
        subst h3
        exact keys_pairs h1 h2)
      have Hb1 : Hid (Buf wr B blk (fun b => K b ∨ (w.heap.size ≤ b ∧ b < wr.heap.size)) sy (.map (some nb)) bs) := Lib.hid ((Hbuf.out.range wr.heap.size).olds (Olds.of_below Hb.out))
      obtain ⟨K1, hK1⟩ : ∃ K1 : Nat → Prop, K1 = fun b => K b ∨ (w.heap.size ≤ b ∧ b < wr.heap.size) := ⟨_, rfl⟩
      rw [← hK1] at Hb1
      have HK1b : Hid (∀ b, K1 b → b < wr.heap.size) := Lib.hid (fun b hb => by
        rw [hK1] at hb
        rcases hb with h | h
        · have := HK.out b h
          omega
        · exact h.2)
      have HK1g : Hid (∀ b, w.heap.size ≤ b → b < wr.heap.size → K1 b) := Lib.hid (fun b h1 h2 => by rw [hK1]; exact .inr ⟨h1, h2⟩)
      have HK1K : Hid (∀ b, K b → K1 b) := Lib.hid (fun b h => by rw [hK1]; exact .inl h)
      have Hkr : Hid (Kept K w wr) := Lib.hid (Kept.of_below Hb.out HK.out)
      obtain ⟨D, hownD, hsizeD⟩ := Hgrp9.out.sized
      have Hsz : Hid (Maps.size D = (pairs ss.length (grp (seqs ss l))).length) := Lib.hid (hsizeD _ (rising_nodup (pairs_rising _ _)) (fun p => by
        have h3 := Hss.out
        subst h3
        rw [mem_pairs]
        refine ⟨fun h => h.2, fun h => ⟨?_, h⟩⟩
        obtain ⟨i, hi⟩ := grp_ne.1 h
        exact seqs_lt hi))
      have HownD := Lib.hid hownD
      have Hplen : Hid ((pairs ss.length (grp (seqs ss l))).length ≤ 4000) := Lib.hid (by
        have h1 := grp_len_le (q := seqs ss l) (ss := pairs ss.length (grp (seqs ss l))) (rising_nodup (pairs_rising _ _)) (fun p => by
          have h3 := Hss.out
          subst h3
          rw [mem_pairs]
          refine ⟨fun h => h.2, fun h => ⟨?_, h⟩⟩
          obtain ⟨i, hi⟩ := grp_ne.1 h
          exact seqs_lt hi)
        have := Hlq.out
        omega)
      have Hpost : Hid (postPart ss.length (grp (seqs ss l)) = low 4 (pairs ss.length (grp (seqs ss l))).length ++ (pairs ss.length (grp (seqs ss l))).flatMap (pairPart (grp (seqs ss l)))) := Lib.hid rfl
      have HGl : Hid (∀ p, (grp (seqs ss l) p).length ≤ 4000) := Lib.hid (fun p => Nat.le_trans (grp_len _ p) Hlq.out)
      have HkeysLen : Hid (∀ ks : List (Nat × Nat), ks.Nodup → (∀ p, p ∈ ks ↔ grp (seqs ss l) p ≠ []) → ks.length ≤ 1000000) := Lib.hid (fun ks h1 h2 => by
        have := grp_len_le h1 h2
        have := Hlq.out
        omega)
      clear Hgrp Hq hK1 hownD hsizeD
      generalize hPS : pairs ss.length (grp (seqs ss l)) = PS at *
      have HPS := Lib.hid hPS
      clear hPS
      generalize hnk : PS.length = nk at *
      have Hnk := Lib.hid hnk
      clear hnk
      have hnk4 := Hplen.out
      have HC := Lib.hid (count_any (K := K1) nk Hb1.out (fun b hb => HK1b.out b hb) (by omega) (by omega) (by omega))
      go_wp2_with (first
        | (at_len; refine wpList_len_own _ rfl _ 165 rfl 167 112 Tryz.underlying165 RV w.heap.size q D rfl HownD.out ?_; rw [Hsz.out])
        | (go_at_call 23; refine HC.out.mono ?_; clear HC; rintro e wc ⟨rfl, hbc, hkc⟩; have Hbc := Lib.hid hbc; have Hkc := Lib.hid hkc; have Hgc := Lib.hid (Hgrp9.out.kept hkc HK1g.out); have hszc := hkc.size; clear hbc hkc)
        | (go_at_call 90; refine (keys90_any _ _).mono ?_; rintro e wd0 ⟨rfl, rfl⟩)
        | (go_at_call 89; refine (sortedfunc_any HQs.out Hgc.out (by omega) HkeysLen.out).mono ?_; rintro e wd ⟨o5, c5, ks, rfl, hpairs, hblk5, hris5, hks5, hbd⟩; have hke := Hpairs.out ks hris5 hks5; rw [hke] at hpairs; rw [hke, Hnk.out]; have Hps := Lib.hid hpairs; have Hblk5 := Lib.hid hblk5; have Hbd := Lib.hid hbd; clear hpairs hblk5 hris5 hks5 hbd hke))
      have Hod : Hid (Olds wc wd) := Lib.hid (Olds.of_below (((Below.refl _ wc).alloc (Nat.le_refl _) _).trans (Hbd.out.mono (by omega))))
      have hszd := Hod.out.1
      have Hgd : Hid (GrpAt wd (w.heap.size + 1) w.heap.size q (seqs ss l) V) := Lib.hid (Hgc.out.olds Hod.out)
      have Hb2 : Hid (Buf wd B blk (fun b => K1 b ∨ (wc.heap.size ≤ b ∧ b < wd.heap.size)) sy (.map (some nb)) (bs ++ low 4 nk)) := Lib.hid ((Hbc.out.range wd.heap.size).olds Hod.out)
      obtain ⟨K2, hK2⟩ : ∃ K2 : Nat → Prop, K2 = fun b => K1 b ∨ (wc.heap.size ≤ b ∧ b < wd.heap.size) := ⟨_, rfl⟩
      rw [← hK2] at Hb2
      have HK2b : Hid (∀ b, K2 b → b < wd.heap.size) := Lib.hid (fun b hb => by
        rw [hK2] at hb
        rcases hb with h | h
        · have := HK1b.out b h
          omega
        · exact h.2)
      have HK2K : Hid (∀ b, K b → K2 b) := Lib.hid (fun b h => by rw [hK2]; exact .inl (HK1K.out b h))
      have HK2g : Hid (∀ b, w.heap.size ≤ b → b < wd.heap.size → K1 b ∨ (wc.heap.size ≤ b ∧ b < wd.heap.size) → K2 b) := Lib.hid (fun b _ _ h => by rw [hK2]; exact h)
      have HK2r : Hid (∀ b, w.heap.size ≤ b → b < wr.heap.size → K2 b) := Lib.hid (fun b h1 h2 => by rw [hK2]; exact .inl (HK1g.out b h1 h2))
      have HK2p : Hid (∀ b off, o5 = some ⟨b, off, none⟩ → K2 b) := Lib.hid (fun b off h => by
        obtain ⟨h1, h2⟩ := Hblk5.out b off h
        rw [hK2]
        exact .inr ⟨by omega, h2⟩)
      have Hkd : Hid (Kept K w wd) := Lib.hid ((Hkr.out.trans (Hkc.out.mono HK1K.out)).trans (by
        have h1 : Below wc.heap.size wc wd := ((Below.refl _ wc).alloc (Nat.le_refl _) _).trans (Hbd.out.mono (by omega))
        exact Kept.of_below h1 fun b hb => by have := HK.out b hb; omega))
      have Hgw : Hid (∀ W, Kept K2 wd W → GrpAt W (w.heap.size + 1) w.heap.size q (seqs ss l) V) := Lib.hid (fun W hW => Hgd.out.keep (hW.block _ (HK2r.out _ (Nat.le_refl _) hlt0)) fun p g hp hg => hW.block g (by
        obtain ⟨h1, h2⟩ := Hgrp9.out.block hp hg
        exact HK2r.out g (by omega) h2))
      clear hK2 HownD
      generalize hG : grp (seqs ss l) = G at *
      have HGe := Lib.hid hG
      clear hG
      have hK2d := HK2b.out
      have HK2d := Lib.hid hK2d
      clear hK2d
      have Hlen : Hid (∀ k, (bs ++ low 4 nk ++ (PS.take k).flatMap (pairPart G)).length ≤ 20000000000) := Lib.hid (fun k => by
        have key : ∀ t : List (Nat × Nat), (t.flatMap (pairPart G)).length ≤ t.length * 16012 := by
          intro t
          induction t with
          | nil => simp
          | cons p t ih =>
            rw [List.flatMap_cons, List.length_append, List.length_cons, Nat.add_mul, pairPart_len]
            have := HGl.out p
            omega
        have h1 := key (PS.take k)
        have h2 : (PS.take k).length ≤ nk := by rw [List.length_take, Hnk.out]; omega
        rw [List.length_append, List.length_append, low_len]
        have h3 : (PS.take k).length * 16012 ≤ 4000 * 16012 := Nat.mul_le_mul_right _ (by omega)
        omega)
      go_loopw [12, 14, 64] (fun _ _ iv wx => ∃ k : Nat, k ≤ nk ∧ iv = .int .i64 k ∧ Buf wx B blk K2 sy (.map (some nb)) (bs ++ low 4 nk ++ (PS.take k).flatMap (pairPart G)) ∧ Kept K2 wd wx) (fun _ _ iv _ => nk - (intOf iv).toNat)
      case atStart => exact ⟨0, Nat.zero_le _, rfl, by rw [List.take_zero]; show Buf _ _ _ _ _ _ (_ ++ []); rw [List.append_nil]; exact Hb2.out, Kept.refl _ _⟩
      case round =>
        obtain ⟨k2, hk2, rfl, hbx, hkx⟩ := hrel
        have Hbx := Lib.hid hbx
        have Hkx := Lib.hid hkx
        have hszx := hkx.size
        clear hbx hkx
        by_cases hlt2 : k2 < nk
        · obtain ⟨p, hp⟩ : ∃ p, PS[k2]? = some p := ⟨_, List.getElem?_eq_getElem (by rw [Hnk.out]; exact hlt2)⟩
          obtain ⟨g5, rfl, hcells⟩ := Hps.out (fun e => by have := Hnk.out; rw [e] at this; simp at this; omega)
          have hgk : K2 g5 := HK2p.out g5 0 rfl
          have hpin : grp (seqs ss l) p ≠ [] := by
            rw [HGe.out]
            have h1 : p ∈ PS := List.mem_of_getElem? hp
            rw [← HPS.out] at h1
            exact (mem_pairs.1 h1).2
          obtain ⟨q1, q2⟩ : p.1 ≤ 1000000000 ∧ p.2 ≤ 1000000000 := by
            obtain ⟨i, hi⟩ := grp_ne.1 hpin
            exact HQs.out _ hi
          have hc0 : wr.cell? ⟨g5, k2 * 2, none⟩ = some (.int .i64 (p.1 : Int)) := (Hkx.out.cell (p := ⟨g5, k2 * 2, none⟩) hgk).trans (by
            have := CellsAt.elem (enc := pcell) hcells pcell_len hp (i := 0) rfl
            simpa using this)
          have hc1 : wr.cell? ⟨g5, k2 * 2 + 1, none⟩ = some (.int .i64 (p.2 : Int)) := (Hkx.out.cell (p := ⟨g5, k2 * 2 + 1, none⟩) hgk).trans (by
            have := CellsAt.elem (enc := pcell) hcells pcell_len hp (i := 1) rfl
            simpa using this)
          have Hpin := Lib.hid hpin
          have Htk : Hid (bs ++ low 4 nk ++ (PS.take (k2 + 1)).flatMap (pairPart G) = (bs ++ low 4 nk ++ (PS.take k2).flatMap (pairPart G)) ++ low 4 p.1 ++ low 4 p.2 ++ low 4 (G p).length ++ (G p).flatMap (fun i => low 4 i)) := Lib.hid (by
            rw [take_snoc hp, List.flatMap_append]
            simp [pairPart, List.append_assoc])
          have hZl := Hlen.out k2
          obtain ⟨Y, hY⟩ : ∃ Y : World, Y = wr.alloc (.cells #[.int .i64 (p.1 : Int), .int .i64 (p.2 : Int)] 167) := ⟨_, rfl⟩
          obtain ⟨K3, hK3⟩ : ∃ K3 : Nat → Prop, K3 = fun b => K2 b ∨ b = wr.heap.size := ⟨_, rfl⟩
          have hYs : Y.heap.size = wr.heap.size + 1 := by rw [hY]; simp
          have hYb : Y.heap[wr.heap.size]? = some (.cells #[.int .i64 (p.1 : Int), .int .i64 (p.2 : Int)] 167 (0, 0)) := by rw [hY]; exact heap_alloc_new _ _
          have HkY : Hid (Kept K2 wd Y) := Lib.hid (by rw [hY]; exact Hkx.out.alloc HK2d.out _)
          have HbY : Hid (Buf Y B blk K3 sy (.map (some nb)) (bs ++ low 4 nk ++ (PS.take k2).flatMap (pairPart G))) := Lib.hid (by rw [hK3, hY]; exact (Hbx.out.more (Nat.le_refl _)).olds (Olds.alloc _ _))
          have HK3b : Hid (∀ b, K3 b → b < Y.heap.size) := Lib.hid (fun b hb => by
            rw [hK3] at hb
            rcases hb with h | h
            · have := HK2d.out b h
              omega
            · omega)
          have HK32 : Hid (∀ b, K2 b → K3 b) := Lib.hid (fun b h => by rw [hK3]; exact .inl h)
          have HK3w : Hid (K3 wr.heap.size) := Lib.hid (by rw [hK3]; exact .inr rfl)
          have hy0 : Y.cell? ⟨wr.heap.size, 0, none⟩ = some (.int .i64 (p.1 : Int)) := by simp only [World.cell?, hYb]; rfl
          have hy1 : Y.cell? ⟨wr.heap.size, 1, none⟩ = some (.int .i64 (p.2 : Int)) := by simp only [World.cell?, hYb]; rfl
          obtain ⟨hlkY, hrowY⟩ := (Hgw.out Y HkY.out).look HQs.out hpin
          obtain ⟨o7, c7, hV7, _⟩ := ownsRow_shape hrowY
          rw [hV7] at hrowY hlkY
          have HW : Hid (∀ W, Kept K3 Y W → W.cell? ⟨wr.heap.size, 0, none⟩ = some (.int .i64 (p.1 : Int)) ∧ W.cell? ⟨wr.heap.size, 1, none⟩ = some (.int .i64 (p.2 : Int)) ∧ (Instr.lookup 165 (.map (some w.heap.size)) (pv p) false).run Tryz.prog W = .ok (.slice o7 (grp (seqs ss l) p).length c7) W ∧ RowI W (w.heap.size + 1) (.slice o7 (grp (seqs ss l) p).length c7) (grp (seqs ss l) p)) := Lib.hid (fun W hW => by
            obtain ⟨h1, h2⟩ := (Hgw.out W (HkY.out.trans (hW.mono HK32.out))).look HQs.out Hpin.out
            rw [hV7] at h1 h2
            exact ⟨(hW.cell (p := ⟨wr.heap.size, 0, none⟩) HK3w.out).trans hy0, (hW.cell (p := ⟨wr.heap.size, 1, none⟩) HK3w.out).trans hy1, h1, h2⟩)
          have Hpv : Hid (pv p = .agg #[.int .i64 (p.1 : Int), .int .i64 (p.2 : Int)]) := Lib.hid rfl
          rw [Hpv.out, HGe.out] at HW
          have HGn : Hid (∀ z ∈ G p, z < n) := Lib.hid (fun z hz => by have := Hg60.out p z (by simpa using hz); exact this)
          have hgl := HGl.out p
          have HYe := Lib.hid hY
          obtain ⟨p1, p2⟩ := p
          simp only at hc0 hc1 hy0 hy1 q1 q2 HW Htk
          clear hp hcells hY hYb hK3 hlkY hrowY hpin
          generalize hGp : G (p1, p2) = zs at *
          have HGp := Lib.hid hGp
          clear hGp
          generalize hZ : bs ++ low 4 nk ++ (PS.take k2).flatMap (pairPart G) = Z at *
          have HZ := Lib.hid hZ
          clear hZ
          generalize hzn : zs.length = zn at *
          have Hzn := Lib.hid hzn
          clear hzn
          have HCt : Hid (∀ (W : World) (bs' : List Nat) (num : Nat), Buf W B blk K3 sy (.map (some nb)) bs' → Kept K3 Y W → num < 9223372036854775808 → bs'.length ≤ 100000000000 → Calls Tryz.prog 23 #[.pointer (some ⟨blk, 0, none⟩), .int .i64 num] W fun e w' => e = .returned (.tuple #[]) ∧ Buf w' B blk K3 sy (.map (some nb)) (bs' ++ low 4 num) ∧ Kept K3 Y w') := Lib.hid (fun W bs' num h1 h2 h3 h4 => by
            have h5 := h2.size
            exact (count_any num h1 (fun b hb => by have := HK3b.out b hb; omega) (by omega) h3 h4).mono fun e w' ⟨g1, g2, g3⟩ => ⟨g1, g2, h2.trans g3⟩)
          have HC1 := Lib.hid (HCt.out Y Z p1 HbY.out (Kept.refl _ _) (by omega) (by omega))
          have HC2 : Hid (∀ W, Buf W B blk K3 sy (.map (some nb)) (Z ++ low 4 p1) → Kept K3 Y W → _) := Lib.hid (fun W h1 h2 => HCt.out W (Z ++ low 4 p1) p2 h1 h2 (by omega) (by rw [List.length_append, low_len]; omega))
          have HC3 : Hid (∀ W, Buf W B blk K3 sy (.map (some nb)) (Z ++ low 4 p1 ++ low 4 p2) → Kept K3 Y W → _) := Lib.hid (fun W h1 h2 => HCt.out W (Z ++ low 4 p1 ++ low 4 p2) zn h1 h2 (by omega) (by rw [List.length_append, List.length_append, low_len, low_len]; omega))
          go_upto_region 16 with fail
          rw [← HYe.out]
          go_wp2_with (first
            | (go_at_call 23; refine HC1.out.mono ?_; clear HC1; rintro e w4 ⟨rfl, hb4, hk4⟩; obtain ⟨m40, m41, m42, _⟩ := HW.out w4 hk4; have HC2' := Lib.hid (HC2.out w4 hb4 hk4); clear hb4 hk4 HC2)
            | (go_at_call 23; refine HC2'.out.mono ?_; clear HC2'; rintro e w5 ⟨rfl, hb5, hk5⟩; obtain ⟨m50, m51, m52, _⟩ := HW.out w5 hk5; have HC3' := Lib.hid (HC3.out w5 hb5 hk5); clear hb5 hk5 HC3)
            | (go_at_call 23; refine HC3'.out.mono ?_; clear HC3'; rintro e w6 ⟨rfl, hb6, hk6⟩; obtain ⟨m60, m61, m62, m63⟩ := HW.out w6 hk6; have Hb6 := Lib.hid hb6; have Hk6 := Lib.hid hk6; clear hb6 hk6))
          have Hrow6 := Lib.hid m63
          have Hf4 : Hid (∀ j, (Z ++ low 4 p1 ++ low 4 p2 ++ low 4 zn ++ (zs.take j).flatMap (fun i => low 4 i)).length ≤ 30000000000) := Lib.hid (fun j => by
            rw [List.length_append, List.length_append, List.length_append, List.length_append, low_len, low_len, low_len, flat_low_len, List.length_take, Hzn.out]
            omega)
          go_loopw [14, 86] (fun _ jv wz => ∃ j : Nat, j ≤ zn ∧ jv = .int .i64 j ∧ Buf wz B blk K3 sy (.map (some nb)) (Z ++ low 4 p1 ++ low 4 p2 ++ low 4 zn ++ (zs.take j).flatMap (fun i => low 4 i)) ∧ Kept K3 Y wz) (fun _ jv _ => zn - (intOf jv).toNat)
          case atStart => exact ⟨0, Nat.zero_le _, rfl, by rw [List.take_zero]; show Buf _ _ _ _ _ _ (_ ++ []); rw [List.append_nil]; exact Hb6.out, Hk6.out⟩
          case round =>
            obtain ⟨j, hj, rfl, hbz, hkz⟩ := hrel
            have Hbz := Lib.hid hbz
            have Hkz := Lib.hid hkz
            clear hbz hkz
            by_cases hjn : j < zn
            · obtain ⟨z, hz⟩ : ∃ z, zs[j]? = some z := ⟨_, List.getElem?_eq_getElem (by rw [Hzn.out]; exact hjn)⟩
              have hzn' : z < n := HGn.out z (List.mem_of_getElem? hz)
              obtain ⟨_, _, _, hrz⟩ := HW.out _ Hkz.out
              have hg7 : ∃ g7, o7 = some ⟨g7, 0, none⟩ := by
                rcases hrz.2 with ⟨e, h0⟩ | ⟨g, cap, cur, e, _⟩
                · have := Hzn.out
                  omega
                · simp only [Value.slice.injEq] at e
                  exact ⟨g, e.1⟩
              obtain ⟨g7, rfl⟩ := hg7
              have hzc : wr.cell? ⟨g7, j, none⟩ = some (.int .i64 (z : Int)) := by
                unfold RowI at hrz
                rw [Hzn.out] at hrz
                have := ownsRow_cell hrz j _ (show (nats zs)[j]? = some (.int .i64 (z : Int)) by unfold nats; rw [List.getElem?_map, hz]; rfl)
                simpa using this
              have Htj : Hid (Z ++ low 4 p1 ++ low 4 p2 ++ low 4 zn ++ (zs.take (j + 1)).flatMap (fun i => low 4 i) = Z ++ low 4 p1 ++ low 4 p2 ++ low 4 zn ++ (zs.take j).flatMap (fun i => low 4 i) ++ low 4 z) := Lib.hid (by
                rw [take_snoc hz, List.flatMap_append]
                simp [List.append_assoc])
              have HC9 := Lib.hid (HCt.out _ _ z Hbz.out Hkz.out (by omega) (Nat.le_trans (Hf4.out j) (by omega)))
              clear hz hrz
              go_wp2_with (go_at_call 23; refine HC9.out.mono ?_; clear HC9; rintro e w9 ⟨rfl, hb9, hk9⟩; have Hb9 := Lib.hid hb9; have Hk9 := Lib.hid hk9; clear hb9 hk9)
              go_roundw
              case rel => exact ⟨j + 1, by omega, by go_num, by rw [Htj.out]; exact Hb9.out, Hk9.out⟩
              case measure => simp [intOf]; omega
            · have e9 : zs.take j = zs := List.take_of_length_le (by rw [Hzn.out]; omega)
              have Hb9 : Hid (Buf wr B blk K2 sy (.map (some nb)) (bs ++ low 4 nk ++ (PS.take (k2 + 1)).flatMap (pairPart G))) := Lib.hid (by
                have h9 := Hbz.out.less HK32.out
                rw [e9] at h9
                rw [Htk.out]
                exact h9)
              have Hk9 : Hid (Kept K2 wd wr) := Lib.hid (HkY.out.trans (Hkz.out.mono HK32.out))
              go_wp2_with fail
              go_roundw
              case rel => exact ⟨k2 + 1, by omega, by go_num, Hb9.out, Hk9.out⟩
              case measure => simp [intOf]; omega
        · have e9 : PS.take k2 = PS := List.take_of_length_le (by rw [Hnk.out]; omega)
          have Hb9 : Hid (Buf wr B blk K sy (.map (some nb)) (bs ++ postPart ss.length (grp (seqs ss l)))) := Lib.hid (by
            have h9 := Hbx.out.less HK2K.out
            rw [e9, List.append_assoc] at h9
            have h8 := Hpost.out
            rw [HGe.out, h8]
            exact h9)
          have Hk9 : Hid (Kept K w wr) := Lib.hid (Hkd.out.trans (Hkx.out.mono HK2K.out))
          go_wp2_with fail
          go_end0
          exact ⟨rfl, Hb9.out, Hk9.out⟩
end Go.Proofs.YtaoggppfimfhbaaGreatDoor
