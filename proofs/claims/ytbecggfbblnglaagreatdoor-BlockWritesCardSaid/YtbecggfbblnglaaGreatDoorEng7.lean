/- The closed run of a Go program whose memory is known only up to a renaming of blocks: what it computes is true of every world and tape. No conditions. -/
import Derived.Test.YtbecggfbblnglaaGreatDoorEng6
set_option linter.unusedSimpArgs false
set_option linter.unusedVariables false
set_option linter.deprecated false
set_option linter.unnecessarySimpa false
namespace Go.Eng
open Go Go.RowKit
def flatV (v:Value):Bool:=v.cells.toList.all (closedV 62)
def zeroT (l:List TypeInfo):Bool:=l.all fun i=>match i.zero with
 | some v=>flatV v
 | none=>true
theorem closed_up:∀(m:Nat) (v:Value),closedV m v=true→closedV (m+1) v=true:=by
 intro m
 induction m with
 | zero=>intro v h;simp [closedV] at h
 | succ m ih =>
  have up:∀{x:Array Value},x.toList.all (closedV m)=true→x.toList.all (closedV (m+1))=true:=by
   intro x h
   rw [List.all_eq_true] at h ⊢
   exact fun a ha=>ih a (h a ha)
  intro v h
  cases v with
  | pointer a=>cases a<;>first | rfl | (simp [closedV] at h)
  | slice a l c=>cases a<;>first | rfl | (simp [closedV] at h)
  | map a=>cases a<;>first | rfl | (simp [closedV] at h)
  | chan a=>cases a<;>first | rfl | (simp [closedV] at h)
  | agg x=>unfold closedV at h ⊢;exact up h
  | tuple x=>unfold closedV at h ⊢;exact up h
  | func fn x y =>
   unfold closedV at h ⊢
   rw [Bool.and_eq_true,Bool.and_eq_true] at h ⊢
   exact⟨⟨h.1.1,up h.1.2⟩,up h.2⟩
  | iface t v=>unfold closedV at h ⊢;exact ih _ h
  | _=>first | rfl | (simp [closedV] at h)
theorem flat_closed {v:Value}(h:flatV v=true):closedV 64 v=true:=by
 unfold flatV at h
 cases v with
 | agg x=>refine closed_up 63 _ ?_;unfold closedV;exact h
 | _=>exact closed_up 63 _ (closed_up 62 _ (by simpa [Value.cells] using h))
theorem forIn_inv {α σ:Type}(f:α→σ→Option (ForInStep σ)) (I:σ→Prop) (h:∀a s r,I s→f a s=some r→match r with | .done b=>I b | .yield b=>I b) :
  ∀(l:List α) (s r:σ),I s→forIn l s f=some r→I r:=by
 intro l
 induction l with
 | nil =>
  intro s r hs hr
  rw [List.forIn_nil] at hr
  cases hr
  exact hs
 | cons a l ih =>
  intro s r hs hr
  rw [List.forIn_cons] at hr
  cases hf:f a s with
  | none=>rw [hf] at hr;cases hr
  | some x =>
   have h1:=h a s x hs hf
   rw [hf] at hr
   cases x with
   | done b=>cases hr;exact h1
   | yield b=>exact ih b r h1 hr
theorem struct_flat {info:TypeId→Option TypeInfo}(h:∀t i v,info t=some i→i.zero=some v→flatV v=true) {fs:Array Field}{i:TypeInfo}{v:Value}(hr:Made.reckonStruct info fs=some i) (hv:i.zero=some v):flatV v=true:=by
 unfold Made.reckonStruct at hr
 simp only [bind,Option.bind_eq_some_iff] at hr
 obtain⟨r,hr,hi⟩:=hr
 rw [← Array.forIn_toList] at hr
 have hI:=forIn_inv _ (fun s:Array Field×Nat×Nat×Nat×Nat×Bool×Bool×Option (Array Value)×String=>∀z,s.2.2.2.2.2.2.2.1=some z→z.toList.all (closedV 62)=true) (fun a s r hs hf=>?_) fs.toList _ r (fun z hz=>by cases hz;rfl) hr
 ·have hz:∃z,r.2.2.2.2.2.2.2.1=some z∧v=.agg z:=by
   split at hi
   all_goals
    cases hi
    dsimp only at hv
    obtain⟨z,h1,h2⟩:=Option.map_eq_some_iff.1 hv
    exact⟨z,h1,h2.symm⟩
  obtain⟨z,h1,rfl⟩:=hz
  exact hI z h1
 ·obtain⟨i',hi',hf⟩:=Option.bind_eq_some_iff.1 hf
  have key:∀z,(if s.2.1+i'.size > Made.mostCells then none else s.2.2.2.2.2.2.2.1.bind fun x=>i'.zero.bind fun y=>pure (x++y.cells))=some z→z.toList.all (closedV 62)=true:=by
   intro z hz
   split at hz
   ·cases hz
   ·obtain⟨z0,h0,hz⟩:=Option.bind_eq_some_iff.1 hz
    obtain⟨z1,h1,hz⟩:=Option.bind_eq_some_iff.1 hz
    cases hz
    have h2:=h _ _ _ hi' h1
    unfold flatV at h2
    rw [Array.toList_append,List.all_append,hs z0 h0,h2]
    rfl
  split at hf
  ·cases hf
  ·split at hf
   ·cases hf
   ·split at hf
    all_goals
     obtain⟨tag,_,hf⟩:=Option.bind_eq_some_iff.1 hf
     split at hf
     all_goals
      cases hf
      exact key
theorem reckon_flat {info:TypeId→Option TypeInfo}(h:∀t i v,info t=some i→i.zero=some v→flatV v=true) {d:TypeDesc}{i:TypeInfo}{v:Value}(hr:Made.reckon info d=some i) (hv:i.zero=some v):flatV v=true:=by
 have word:∀{d:TypeDesc}{s:String}{z:Value}{c:Bool}{b:Nat}{v:Value},flatV z=true→(Made.word d s z c b).zero=some v→flatV v=true:=by
  intro d s z c b v hz h
  cases h
  exact hz
 unfold Made.reckon at hr
 cases d with
 | pointer e =>
  simp only [bind,Option.bind_eq_some_iff] at hr
  obtain⟨i1,h1,hr⟩:=hr
  split at hr
  ·cases hr
  ·split at hr
   ·cases hr
   ·obtain⟨s,_,hr⟩:=Option.bind_eq_some_iff.1 hr
    cases hr
    exact word rfl hv
  ·obtain⟨s,_,hr⟩:=Option.bind_eq_some_iff.1 hr
   cases hr
   exact word rfl hv
 | slice e =>
  simp only [bind,Option.bind_eq_some_iff] at hr
  obtain⟨_,_,_,_,hr⟩:=hr
  cases hr
  exact word rfl hv
 | map k e =>
  simp only [bind,Option.bind_eq_some_iff] at hr
  obtain⟨_,_,_,_,_,_,_,_,hr⟩:=hr
  cases hr
  exact word rfl hv
 | chan k e =>
  simp only [bind,Option.bind_eq_some_iff] at hr
  obtain⟨_,_,_,_,hr⟩:=hr
  cases hr
  exact word rfl hv
 | func ps rs b =>
  simp only [bind,Option.bind_eq_some_iff] at hr
  obtain⟨_,_,hr⟩:=hr
  cases hr
  exact word rfl hv
 | array n e =>
  simp only [bind,Option.bind_eq_some_iff] at hr
  obtain⟨i1,h1,s,_,hr⟩:=hr
  cases hr
  dsimp only at hv
  split at hv
  ·cases hv
  ·split at hv
   ·cases hv
    rfl
   ·obtain⟨z,hz,rfl⟩:=Option.map_eq_some_iff.1 hv
    have h2:=h _ _ _ h1 hz
    unfold flatV at h2 ⊢
    simp only [Value.cells]
    rw [List.all_eq_true] at h2 ⊢
    intro x hx
    rw [Array.toList_flatten,List.mem_flatten] at hx
    obtain⟨l,hl,hx⟩:=hx
    simp only [Array.toList_replicate,List.map_replicate,List.mem_replicate] at hl
    rw [hl.2] at hx
    exact h2 x hx
 | struct fs=>exact struct_flat h hr hv
 | _=>cases hr
theorem info_flat {P:Program}(hT:zeroT P.types.toList=true):∀(f:Nat) (t:TypeId) (i:TypeInfo) (v:Value),Made.infoAt P.toTables f t=some i→i.zero=some v→flatV v=true:=by
 have tab:∀(t:TypeId) (i:TypeInfo) (v:Value),P.types[t]?=some i→i.zero=some v→flatV v=true:=by
  intro t i v h1 h2
  have h:=hT
  unfold zeroT at h
  rw [List.all_eq_true] at h
  have hm:i∈P.types.toList:=List.mem_of_getElem? (i:=t) (by simpa using h1)
  have:=h i hm
  rw [h2] at this
  exact this
 intro f
 induction f with
 | zero=>intro t i v h;cases h
 | succ f ih =>
  intro t i v h1 h2
  unfold Made.infoAt at h1
  split at h1
  ·exact tab t i v h1 h2
  ·obtain⟨d,_,hd⟩:=Option.bind_eq_some_iff.1 h1
   exact reckon_flat ih hd h2
theorem zeroOk_of {P:Program}(hT:zeroT P.types.toList=true):ZeroOk P:=by
 intro t i v h1 h2
 unfold Tables.info? at h1
 split at h1
 ·have h:=hT
  unfold zeroT at h
  rw [List.all_eq_true] at h
  have hm:i∈P.types.toList:=List.mem_of_getElem? (i:=t) (by simpa using h1)
  have:=h i hm
  rw [h2] at this
  exact flat_closed this
 ·exact flat_closed (info_flat hT _ t i v h1 h2)
end Go.Eng
