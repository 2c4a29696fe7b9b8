/- Contracts over this program. Their conditions: the slices read as the lists that are named, and lie within the sizes that are named. -/
import Derived.Test.YtbecggfbblnglaaGreatDoorP24
import Derived.Test.YtbecggfbblnglaaGreatDoorP1
import Derived.Test.YtbecggfbblnglaaGreatDoorT10
import Derived.Test.YtbecggfbblnglaaGreatDoorT11
import Derived.Test.YtbecggfbblnglaaGreatDoorT23
import Derived.Deep.RegionHeld
import Derived.Deep.RegionHeldLaw
import Derived.Deep.CutRange
import Derived.Deep.RegionHeld3
set_option linter.unusedSimpArgs false
set_option linter.unusedVariables false
set_option linter.deprecated false
set_option linter.unnecessarySimpa false
namespace Go.Proofs.YtbecggfbblnglaaGreatDoor
open Go Go.RowKit Go.Ix Go.Gor
theorem rows_apart {W:World}{B B' e e' k k' n n':Nat}{v v':Value}{xs xs':List Value}(h:W.ownsRow B e k v n xs) (h':W.ownsRow B' e' k' v' n' xs') (he:e≠e'):v.ownBlock=none∨v.ownBlock≠v'.ownBlock:=by
 rcases h.2 with ⟨rfl,_⟩|⟨g,cap,cur,rfl,_,hg,_⟩
 ·exact .inl rfl
 ·refine .inr fun e9=>?_
  rcases h'.2 with ⟨rfl,_⟩|⟨g',cap',cur',rfl,_,hg',_⟩
  ·cases e9
  ·have:g=g':=by simpa [Value.ownBlock] using e9
   subst this
   rw [hg] at hg'
   cases hg'
   exact he rfl
theorem Tryz.info98:(Tryz.prog.info? 98).map (fun i=>(i.zero,i.size,i.bytes))=some (some (.agg #[.int .i64 0,.int .i64 0,.int .i64 0,.slice none 0 0]),4,48):=by kernel_rfl
def chkCells (p:List Smp×Value):List Value:=[.int .i64 (p.1.getD 0 (0,0)).1,.int .i64 (p.1.getD (p.1.length-1) (0,0)).1,.int .i64 (p.1.length:Nat),p.2]
def ChksP (w:World) (B:Nat) (v:Value) (ps:List (List Smp×Value)):Prop :=
 w.ownsRow B 98 4 v ps.length (ps.flatMap chkCells)∧∀p∈ps,Row8 w B p.2 (chunkB p.1)
def ChksAt (w:World) (B:Nat) (v:Value) (gs:List (List Smp)):Prop:=∃ps:List (List Smp×Value),ps.map (·.1)=gs∧ChksP w B v ps
theorem ChksP.olds {w W:World}{B:Nat}{v:Value}{ps:List (List Smp×Value)}(h:ChksP w B v ps) (ho:Olds w W):ChksP W B v ps:=⟨ownsRow_olds h.1 ho,fun p hp=>ownsRow_olds (h.2 p hp) ho⟩
theorem ChksAt.olds {w W:World}{B:Nat}{v:Value}{gs:List (List Smp)}(h:ChksAt w B v gs) (ho:Olds w W):ChksAt W B v gs:=by
 obtain⟨ps,h1,h2⟩:=h
 exact⟨ps,h1,h2.olds ho⟩
theorem ChksP.nil (w:World) (B:Nat):ChksP w B (.slice none 0 0) []:=⟨World.ownsRow_nil _ _ _ _,fun p hp=>by cases hp⟩
theorem Row8.from {W:World}{B B':Nat}{v:Value}{bs:List Nat}(h:Row8 W B v bs) (hB:B'≤B):Row8 W B' v bs :=
 ⟨h.1,h.2.imp id (fun⟨g,cap,cur,a1,a2,a3⟩=>⟨g,cap,cur,a1,by omega,a3⟩)⟩
theorem ChksP.own {w:World}{B:Nat}{v:Value}{ps:List (List Smp×Value)}(h:ChksP w B v ps):∀b,v.ownBlock=some b→B≤b∧b<w.heap.size:=fun _ hb=>ownsRow_block h.1 hb
theorem ChksP.more {w w1 w2:World}{B:Nat}{v v' u:Value}{ps:List (List Smp×Value)}{g:List Smp}(h:ChksP w B v ps) (ho:Olds w w1) (hu:Row8 w1 B u (chunkB g))
  (hg:w1.grownBy w2 v.ownBlock) (hr:w2.ownsRow B 98 4 v' (ps.length+1) (ps.flatMap chkCells++chkCells (g,u))):ChksP w2 B v' (ps++[(g,u)]):=by
 obtain⟨h2,h3⟩:=h
 refine⟨?_,fun p hp=>?_⟩
 ·rw [List.flatMap_append,List.length_append,List.flatMap_cons,List.flatMap_nil,List.append_nil]
  exact hr
 ·have h1':=ownsRow_olds h2 ho
  rcases List.mem_append.1 hp with hp | hp
  ·have h9:=ownsRow_olds (h3 p hp) ho
   exact World.ownsRow.kept h9 hg (rows_apart h9 h1' (by decide))
  ·rw [List.mem_singleton] at hp
   subst hp
   exact World.ownsRow.kept hu hg (rows_apart hu h1' (by decide))
theorem ChksAt.at {w:World}{B:Nat}{v:Value}{gs:List (List Smp)}(h:ChksAt w B v gs) {k:Nat}{g:List Smp}(hk:gs[k]?=some g) :
  ∃b c u,v=.slice (some ⟨b,0,none⟩) gs.length c∧Row8 w B u (chunkB g)∧w.cell? ⟨b,k * 4,none⟩=some (.int .i64 (g.getD 0 (0,0)).1)∧w.cell? ⟨b,k * 4+1,none⟩=some (.int .i64 (g.getD (g.length-1) (0,0)).1)∧w.cell? ⟨b,k * 4+2,none⟩=some (.int .i64 (g.length:Nat))∧w.cell? ⟨b,k * 4+3,none⟩=some u:=by
 obtain⟨ps,h1,h2,h3⟩:=h
 have hlt:=(List.getElem?_eq_some_iff.1 hk).1
 have hpl:ps.length=gs.length:=by rw [← h1,List.length_map]
 rw [hpl] at h2
 have hp:∃u,ps[k]?=some (g,u):=by
  rw [← h1,List.getElem?_map] at hk
  cases hq:ps[k]? with
  | none=>rw [hq] at hk;cases hk
  | some p =>
   rw [hq] at hk
   have:p.1=g:=by simpa using hk
   exact⟨p.2,by rw [← this]⟩
 obtain⟨u,hp⟩:=hp
 have hsh:∃b c,v=.slice (some ⟨b,0,none⟩) gs.length c:=by
  rcases h2.2 with ⟨rfl,h0⟩|⟨b,cap,cur,e,_⟩
  ·omega
  ·exact⟨b,cap,e⟩
 obtain⟨b,c,rfl⟩:=hsh
 have hc:=ownsRow_cell h2
 have hlen:∀p:List Smp×Value,(chkCells p).length=4:=fun _=>rfl
 refine⟨b,c,u,rfl,h3 _ (List.mem_of_getElem? hp),?_,?_,?_,?_⟩
 ·have:=hc.elem (k:=4) (i:=0) hlen hp rfl;rwa [Nat.zero_add] at this
 ·have:=hc.elem (k:=4) (i:=1) hlen hp rfl;rwa [Nat.zero_add] at this
 ·have:=hc.elem (k:=4) (i:=2) hlen hp rfl;rwa [Nat.zero_add] at this
 ·have:=hc.elem (k:=4) (i:=3) hlen hp rfl;rwa [Nat.zero_add] at this
end Go.Proofs.YtbecggfbblnglaaGreatDoor
namespace Go.Proofs.YtbecggfbblnglaaGreatDoor
open Go Go.RowKit Go.Ix Go.Gor
theorem Tryz.info93:(Tryz.prog.info? 93).map (fun i=>(i.zero,i.size,i.bytes))=some (some (.agg #[.slice none 0 0,.slice none 0 0]),2,48):=by kernel_rfl
theorem Tryz.info100:(Tryz.prog.info? 100).map (fun i=>(i.zero,i.size,i.bytes))=some (some (.agg #[.int .i64 0,.int .i64 0,.int .i64 0,.int .i64 0,.int .i64 0]),5,40):=by kernel_rfl
abbrev EntV:=Ent×(Value×Value)
def EntsP (w:World) (B:Nat) (v:Value) (ps:List EntV):Prop :=
 w.ownsRow B 93 2 v ps.length (ps.flatMap fun p=>entCells p.2)∧∀p∈ps,w.ownsRow B 100 5 p.2.2 p.1.2.length (p.1.2.flatMap plcCells)
def LabsP (w:World) (ps:List EntV):Prop:=∀p∈ps,∃o c,p.2.1=.slice o p.1.1.length c∧(o=none→c=0)∧Rows2 w o p.1.1
theorem EntsP.nil (w:World) (B:Nat):EntsP w B (.slice none 0 0) []:=⟨World.ownsRow_nil _ _ _ _,fun p hp=>by cases hp⟩
theorem EntsP.olds {w W:World}{B:Nat}{v:Value}{ps:List EntV}(h:EntsP w B v ps) (ho:Olds w W):EntsP W B v ps:=⟨ownsRow_olds h.1 ho,fun p hp=>ownsRow_olds (h.2 p hp) ho⟩
def But (E:Nat) (d:Option Nat) (b:Nat):Prop:=b<E∧d≠some b
theorem row_but {w W:World}{B e k n:Nat}{v dv:Value}{xs:List Value}(h:w.ownsRow B e k v n xs) (hne:v.ownBlock=none∨v.ownBlock≠dv.ownBlock) (hk:Kept (But w.heap.size dv.ownBlock) w W):W.ownsRow B e k v n xs :=
 ownsRow_kept h hk fun g hg=>⟨(ownsRow_block h hg).2,fun e=>by
  rcases hne with h1 | h1
  ·rw [hg] at h1;cases h1
  ·exact h1 (by rw [hg,e])⟩
theorem EntsP.but {w W:World}{B B' n:Nat}{v dv:Value}{ps:List EntV}{xs:List Value}(h:EntsP w B v ps) (hd:w.ownsRow B' 5 1 dv n xs) (hk:Kept (But w.heap.size dv.ownBlock) w W):EntsP W B v ps :=
 ⟨row_but h.1 (rows_apart h.1 hd (by decide)) hk,fun p hp=>row_but (h.2 p hp) (rows_apart (h.2 p hp) hd (by decide)) hk⟩
theorem ChksP.but {w W:World}{B B' S n:Nat}{v dv:Value}{ps:List (List Smp×Value)}{xs:List Value}(h:ChksP w S v ps) (hd:w.ownsRow B' 5 1 dv n xs) (hS:∀b,dv.ownBlock=some b→b<S) (hk:Kept (But w.heap.size dv.ownBlock) w W):ChksP W S v ps :=
 ⟨row_but h.1 (rows_apart h.1 hd (by decide)) hk,fun p hp=>row_but (h.2 p hp) (by
  cases hb:p.2.ownBlock with
  | none=>exact .inl rfl
  | some b =>
   refine .inr fun e=>?_
   have h1:=(ownsRow_block (h.2 p hp) hb).1
   have h2:=hS b e.symm
   omega) hk⟩
theorem ChksAt.look {w W:World}{B' S n:Nat}{v dv:Value}{gs:List (List Smp)}{xs:List Value}(h:ChksAt w S v gs) (hd:w.ownsRow B' 5 1 dv n xs) (hS:∀b,dv.ownBlock=some b→b<S) (hk:Kept (But w.heap.size dv.ownBlock) w W) {k:Nat}{g:List Smp}(hg:gs[k]?=some g) :
  ∃b c u,v=.slice (some ⟨b,0,none⟩) gs.length c∧Row8 W S u (chunkB g)∧(∀x,u.ownBlock=some x→S≤x∧x<w.heap.size)∧W.cell? ⟨b,k * 4,none⟩=some (.int .i64 (g.getD 0 (0,0)).1)∧W.cell? ⟨b,k * 4+1,none⟩=some (.int .i64 (g.getD (g.length-1) (0,0)).1)∧W.cell? ⟨b,k * 4+2,none⟩=some (.int .i64 (g.length:Nat))∧W.cell? ⟨b,k * 4+3,none⟩=some u:=by
 obtain⟨b,c,u,rfl,h1,h2,h3,h4,h5⟩:=h.at hg
 obtain⟨ps,hp1,hp2,hp3⟩:=h
 have hb:=ownsRow_block hp2 (g:=b) rfl
 have hne:=rows_apart hp2 hd (by decide)
 have hkb:But w.heap.size dv.ownBlock b:=⟨hb.2,fun e=>by
  rcases hne with h9 | h9
  ·cases h9
  ·exact h9 e.symm⟩
 have hcell:∀i x,w.cell? ⟨b,i,none⟩=some x→W.cell? ⟨b,i,none⟩=some x:=fun i x hx=>(hk.cell (p:=⟨b,i,none⟩) hkb).trans hx
 refine⟨b,c,u,rfl,row_but h1 ?_ hk,fun x hx=>ownsRow_block h1 hx,hcell _ _ h2,hcell _ _ h3,hcell _ _ h4,hcell _ _ h5⟩
 cases hu:u.ownBlock with
 | none=>exact .inl rfl
 | some x =>
  refine .inr fun e=>?_
  have q1:=(ownsRow_block h1 hu).1
  have q2:=hS x e.symm
  omega
theorem ChksAt.some_shape {w:World}{B:Nat}{v:Value}{gs:List (List Smp)}(h:ChksAt w B v gs):∃o c,v=.slice o gs.length c:=by
 obtain⟨ps,h1,h2⟩:=h
 obtain⟨o,c,e,_⟩:=ownsRow_shape h2.1
 exact⟨o,c,by rw [e,← h1,List.length_map]⟩
theorem row_other {W:World}{B e k n:Nat}{v:Value}{xs:List Value}(h:W.ownsRow B e k v n xs) {p:Addr}(hp:v.ownBlock≠some p.block) (u:Value):(W.setCell p u).ownsRow B e k v n xs :=
 ownsRow_blocks h fun g hg=>by
  simp only [World.setCell,Array.getElem?_modify]
  rw [if_neg (by rintro rfl;exact hp hg)]
theorem EntsP.more {w w2:World}{B:Nat}{v v':Value}{ps:List EntV}{p:EntV}(h:EntsP w B v ps) (hp:w.ownsRow B 100 5 p.2.2 p.1.2.length (p.1.2.flatMap plcCells))
  (hg:w.grownBy w2 v.ownBlock) (hr:w2.ownsRow B 93 2 v' (ps.length+1) ((ps.flatMap fun p=>entCells p.2)++entCells p.2)):EntsP w2 B v' (ps++[p]):=by
 refine⟨?_,fun q hq=>?_⟩
 ·rw [List.flatMap_append,List.length_append,List.flatMap_cons,List.flatMap_nil,List.append_nil]
  exact hr
 ·rcases List.mem_append.1 hq with hq | hq
  ·exact World.ownsRow.kept (h.2 q hq) hg (rows_apart (h.2 q hq) h.1 (by decide))
  ·rw [List.mem_singleton] at hq
   subst hq
   exact World.ownsRow.kept hp hg (rows_apart hp h.1 (by decide))
theorem LabsP.more {w:World}{ps:List EntV}{p:EntV}(h:LabsP w ps) {o:Option Addr}{c:Nat}(h1:p.2.1=.slice o p.1.1.length c) (h2:o=none→c=0) (h3:Rows2 w o p.1.1):LabsP w (ps++[p]):=fun q hq=>by
 rcases List.mem_append.1 hq with hq | hq
 ·exact h q hq
 ·rw [List.mem_singleton] at hq
  subst hq
  exact⟨o,c,h1,h2,h3⟩
theorem rows5_of {w:World}{B c:Nat}{o:Option Addr}{l:List Plc}(h:w.ownsRow B 100 5 (.slice o l.length c) l.length (l.flatMap plcCells)):(o=none→c=0)∧Rows5 w o l:=by
 rcases h.2 with ⟨e,h0⟩|⟨g,cap,cur,e,_⟩
 ·simp only [Value.slice.injEq] at e
  exact⟨fun _=>e.2.2,fun hne=>absurd (List.eq_nil_of_length_eq_zero h0) hne⟩
 ·simp only [Value.slice.injEq] at e
  obtain⟨rfl,_,_⟩:=e
  exact⟨fun e=>by (cases e),fun _=>⟨g,0,rfl,ownsRow_cell h⟩⟩
theorem EntsP.rows {w W:World}{B:Nat}{v:Value}{ps:List EntV}(h:EntsP W B v ps) (hl:LabsP w ps) (ho:Olds w W):∃o c,v=.slice o (ps.map (·.1)).length c∧RowsE W o (ps.map (·.1)):=by
 have hlen:∀p:EntV,(entCells p.2).length=2:=fun _=>rfl
 rcases h.1.2 with ⟨e,h0⟩|⟨g,cap,cur,e,_⟩
 ·have:ps=[]:=List.eq_nil_of_length_eq_zero h0
  subst this
  exact⟨none,0,e,fun hne=>absurd rfl hne⟩
 ·subst e
  have hc:=ownsRow_cell h.1
  refine⟨some ⟨g,0,none⟩,cap,by rw [List.length_map],fun _=>⟨g,0,rfl,fun k x hx=>?_⟩⟩
  rw [List.getElem?_map] at hx
  cases hp:ps[k]? with
  | none=>rw [hp] at hx;cases hx
  | some p =>
   rw [hp] at hx
   cases hx
   have hm:=List.mem_of_getElem? hp
   obtain⟨o1,c1,q1,q2,q3⟩:=hl p hm
   have h5:=h.2 p hm
   obtain⟨o2,c2,e2,_⟩:=ownsRow_shape h5
   rw [e2] at h5
   obtain⟨z2,r5⟩:=rows5_of h5
   refine⟨o1,_,c1,o2,_,c2,?_,?_,rfl,rfl,q3.olds ho,r5,q2,z2⟩
   ·rw [← q1]
    exact hc.elem (k:=2) (i:=0) hlen hp rfl
   ·rw [← e2]
    exact hc.elem (k:=2) (i:=1) hlen hp rfl
def SizeS (l:List Ser):Prop:=(∀e∈l,e.1.length≤20000∧e.2.length≤20000∧(∀y∈e.1,y.1.length≤20000∧y.2.length≤20000)∧∀x∈e.2,x.2<18446744073709551616)∧(l.map fun s=>s.2.length).sum≤20000
def But2 (E:Nat) (d:Option Nat) (x b:Nat):Prop:=b<E∧d≠some b∧b≠x
theorem row_but2 {w W:World}{B e k n x:Nat}{v dv:Value}{xs:List Value}(h:w.ownsRow B e k v n xs) (hne:v.ownBlock=none∨v.ownBlock≠dv.ownBlock) (hx:v.ownBlock≠some x) (hk:Kept (But2 w.heap.size dv.ownBlock x) w W):W.ownsRow B e k v n xs :=
 ownsRow_kept h hk fun g hg=>⟨(ownsRow_block h hg).2,fun e=>by
  rcases hne with h1 | h1
  ·rw [hg] at h1;cases h1
  ·exact h1 (by rw [hg,e]),fun e=>hx (by rw [hg,e])⟩
theorem EntsP.but2 {w0 w W:World}{B B' n x:Nat}{v dv:Value}{ps:List EntV}{xs:List Value}(h:EntsP w0 B v ps) (ho:Olds w0 w) (hx:w0.heap.size≤x) (hd:w.ownsRow B' 5 1 dv n xs) (hk:Kept (But2 w.heap.size dv.ownBlock x) w W):EntsP W B v ps:=by
 have hlt:∀{e k m:Nat}{u:Value}{ys:List Value},w0.ownsRow B e k u m ys→u.ownBlock≠some x:=fun h9 e=>by have:=(ownsRow_block h9 e).2;omega
 have h1:=h.olds ho
 exact⟨row_but2 h1.1 (rows_apart h1.1 hd (by decide)) (hlt h.1) hk,fun p hp=>row_but2 (h1.2 p hp) (rows_apart (h1.2 p hp) hd (by decide)) (hlt (h.2 p hp)) hk⟩
theorem ChksAt.look2 {w W:World}{B' S n y:Nat}{v dv:Value}{gs:List (List Smp)}{xs:List Value}(h:ChksAt w S v gs) (hd:w.ownsRow B' 5 1 dv n xs) (hS:∀b,dv.ownBlock=some b→b<S) (hy:y<S) (hk:Kept (But2 w.heap.size dv.ownBlock y) w W) {k:Nat}{g:List Smp}(hg:gs[k]?=some g) :
  ∃b c u,v=.slice (some ⟨b,0,none⟩) gs.length c∧Row8 W S u (chunkB g)∧(∀x,u.ownBlock=some x→S≤x∧x<w.heap.size)∧W.cell? ⟨b,k * 4,none⟩=some (.int .i64 (g.getD 0 (0,0)).1)∧W.cell? ⟨b,k * 4+1,none⟩=some (.int .i64 (g.getD (g.length-1) (0,0)).1)∧W.cell? ⟨b,k * 4+2,none⟩=some (.int .i64 (g.length:Nat))∧W.cell? ⟨b,k * 4+3,none⟩=some u:=by
 obtain⟨b,c,u,rfl,h1,h2,h3,h4,h5⟩:=h.at hg
 obtain⟨ps,hp1,hp2,hp3⟩:=h
 have hb:=ownsRow_block hp2 (g:=b) rfl
 have hne:=rows_apart hp2 hd (by decide)
 have hkb:But2 w.heap.size dv.ownBlock y b:=⟨hb.2,fun e=>by
  rcases hne with h9 | h9
  ·cases h9
  ·exact h9 e.symm,by omega⟩
 have hcell:∀i x,w.cell? ⟨b,i,none⟩=some x→W.cell? ⟨b,i,none⟩=some x:=fun i x hx=>(hk.cell (p:=⟨b,i,none⟩) hkb).trans hx
 refine⟨b,c,u,rfl,row_but2 h1 ?_ (fun e=>by have:=(ownsRow_block h1 e).1;omega) hk,fun x hx=>ownsRow_block h1 hx,hcell _ _ h2,hcell _ _ h3,hcell _ _ h4,hcell _ _ h5⟩
 cases hu:u.ownBlock with
 | none=>exact .inl rfl
 | some x =>
  refine .inr fun e=>?_
  have q1:=(ownsRow_block h1 hu).1
  have q2:=hS x e.symm
  omega
end Go.Proofs.YtbecggfbblnglaaGreatDoor
namespace Go.Proofs.YtbecggfbblnglaaGreatDoor
open Go Go.RowKit Go.Ix Go.Gor
def wtL (l:List Lbl):Nat:=(l.map fun y=>y.1.length+y.2.length).sum
def wtR (s:Ser):Nat:=s.2.length+(s.1.length+wtL s.1)
def wtS (l:List Ser):Nat:=(l.map wtR).sum
theorem wtL_take {l:List Lbl}{k:Nat}{y:Lbl}(h:l[k]?=some y):wtL (l.take (k+1))=wtL (l.take k)+(y.1.length+y.2.length):=by
 unfold wtL
 rw [List.take_add_one,h,List.map_append,List.sum_append]
 simp
theorem wtS_take {l:List Ser}{k:Nat}{s:Ser}(h:l[k]?=some s):wtS (l.take (k+1))=wtS (l.take k)+wtR s:=by
 unfold wtS
 rw [List.take_add_one,h,List.map_append,List.sum_append]
 simp
theorem sum_mem {α:Type}{f:α→Nat}{l:List α}{x:α}(h:x∈l):f x≤(l.map f).sum:=by
 induction l with
 | nil=>simp at h
 | cons y l ih =>
  rw [List.map_cons,List.sum_cons]
  rcases List.mem_cons.1 h with rfl | h
  ·omega
  ·have:=ih h
   omega
def VastL (l:List Lbl):Prop:=l.length≤140737488355328∧∀y∈l,y.1.length≤140737488355328∧y.2.length≤140737488355328
def VastS (l:List Ser):Prop:=l.length≤140737488355328∧∀s∈l,VastL s.1∧s.2.length≤140737488355328
theorem sizeS_of {l:List Ser}(h:wtS l+l.length≤20000) (h64:∀s∈l,∀x∈s.2,x.2<18446744073709551616):SizeS l:=by
 refine⟨fun s hs=>?_,?_⟩
 ·have h1:wtR s≤wtS l:=sum_mem (f:=wtR) hs
  have h3:wtR s≤20000:=by omega
  unfold wtR at h3
  refine⟨by omega,by omega,fun y hy=>?_,h64 s hs⟩
  have h2:=sum_mem (f:=fun y:Lbl=>y.1.length+y.2.length) hy
  unfold wtL at h3
  omega
 ·have hle:∀k:List Ser,(k.map fun s=>s.2.length).sum≤wtS k:=fun k=>by
   induction k with
   | nil=>exact Nat.le_refl _
   | cons s k ih =>
    show ((s :: k).map fun s=>s.2.length).sum≤((s :: k).map wtR).sum
    rw [List.map_cons,List.map_cons,List.sum_cons,List.sum_cons]
    have h9:wtR s=s.2.length+(s.1.length+wtL s.1):=rfl
    have h8:wtS k=(k.map wtR).sum:=rfl
    omega
  have:=hle l
  omega
set_option maxRecDepth 20000 in
set_option maxHeartbeats 1000000 in
theorem lsize_any (o:Option Addr) (n c:Nat) (l:List Lbl) (w:World) (hl:l.length=n) (hv:VastL l) (hc:Rows2 w o l):Calls Tryz.prog 14 #[.slice o n c] w fun e w'=>(∃r:Nat,e=.returned (.int .i64 (r:Nat))∧r≤600000000000000∧(20000<r∨r=n+wtL l))∧∃q,w'=w.drewN q:=by
 have Hc:=Lib.hid hc
 have Hv:=Lib.hid hv
 have Hl:=Lib.hid hl
 have hn:=hv.1
 rw [hl] at hn
 clear hc hv hl
 go_enter Tryz.func14,Tryz.ntmps14
 go_wp2_with fail
 go_loopw [3,4] (fun nv iv wr=>∃k q t:Nat,k≤n∧iv=.int .i64 k∧nv=.int .i64 t∧t≤600000000000000∧(20000<t∨t=n+wtL (l.take k))∧wr=w.drewN q) (fun _ iv _=>n-(intOf iv).toNat)
 case atStart=>exact⟨0,0,n,Nat.zero_le _,rfl,rfl,by omega,.inr (by rw [List.take_zero];rfl),rfl⟩
 case round =>
  obtain⟨k,q,t,hk,rfl,rfl,ht6,ht,rfl⟩:=hrel
  have Ht:=Lib.hid ht
  clear ht
  by_cases hlt:k<n
  ·by_cases h4:t≤20000
   ·obtain⟨b,off,y1,y2,rfl,hy,hy1,hy2⟩:=Hc.out.at (k:=k) (by rw [Hl.out];exact hlt)
    obtain⟨hly1,hly2⟩:=Hv.out.2 _ (List.mem_of_getElem? hy)
    simp only at hly1 hly2
    have Hnx:Hid (20000<t+(y1.length+y2.length)∨t+(y1.length+y2.length)=n+wtL (l.take (k+1))):=Lib.hid (by
     rw [wtL_take hy]
     rcases Ht.out with h | h
     ·omega
     ·exact .inr (by simp only;omega))
    clear hy
    have hw3:IntKind.i64.wrap ((y1.length:Int)+(y2.length:Int))=(y1.length:Int)+(y2.length:Int):=by rw [IntKind.wrap_i64];omega
    have hw4:IntKind.i64.wrap ((t:Int)+((y1.length:Int)+(y2.length:Int)))=(t:Int)+((y1.length:Int)+(y2.length:Int)):=by rw [IntKind.wrap_i64];omega
    go_upto_region 5 with fail
    go_region_held (fun W=>W.cell? ⟨b,off+k * 2,none⟩=some (encStr y1)∧W.cell? ⟨b,off+k * 2+1,none⟩=some (encStr y2)) (exact⟨hy1,hy2⟩) (fail)
    go_wp2_with fail
    go_roundw
    case rel=>exact⟨k+1,q+1,t+(y1.length+y2.length),by omega,by go_num,by go_num,by omega,Hnx.out,rfl⟩
    case measure=>simp [intOf];omega
   ·go_wp2_with fail
    go_ret
    exact⟨⟨t,rfl,ht6,.inl (by omega)⟩,q,rfl⟩
  ·have Hfin:Hid (20000<t∨t=n+wtL l):=Lib.hid (by
    have h9:=Ht.out
    rwa [List.take_of_length_le (l:=l) (by rw [Hl.out];omega)] at h9)
   go_wp2_with fail
   go_ret
   exact⟨⟨t,rfl,ht6,Hfin.out⟩,q,rfl⟩
set_option maxRecDepth 20000 in
set_option maxHeartbeats 1000000 in
theorem same_bytes (o1 o2:Option Addr) (n c1 c2:Nat) (zs:List Int) (w:World) (hl:zs.length=n) (hn:n≤100000000000) (h1:UAt w (.slice o1 n c1) zs) (h2:UAt w (.slice o2 n c2) zs):Calls Tryz.prog 12 #[.slice o1 n c1,.slice o2 n c2] w fun e w'=>e=.returned (.bool true)∧∃q,w'=w.drewN q:=by
 have H1:=Lib.hid h1
 have H2:=Lib.hid h2
 have Hl:=Lib.hid hl
 clear h1 h2 hl
 go_enter Tryz.func12,Tryz.ntmps12
 go_wp2_with fail
 go_loopw [5] (fun iv wr=>∃k q:Nat,k≤n∧iv=.int .i64 k∧wr=w.drewN q) (fun iv _=>n-(intOf iv).toNat)
 case atStart=>exact⟨0,0,Nat.zero_le _,rfl,rfl⟩
 case round =>
  obtain⟨k,q,hk,rfl,rfl⟩:=hrel
  by_cases hlt:k<n
  ·obtain⟨z,hz⟩:∃z,zs[k]?=some z:=⟨_,List.getElem?_eq_getElem (by rw [Hl.out];exact hlt)⟩
   obtain⟨b1,off1,rfl,ha⟩:∃b off,o1=some ⟨b,off,none⟩∧w.cell? ⟨b,off+k,none⟩=some (.int .u8 z):=by
    rcases H1.out.cases with ⟨_,_,_,e,_⟩|⟨b,off,c',e,_,hc⟩
    ·rw [e] at hz;simp at hz
    ·simp only [Value.slice.injEq] at e
     exact⟨b,off,e.1,hc k _ hz⟩
   obtain⟨b2,off2,rfl,hb⟩:∃b off,o2=some ⟨b,off,none⟩∧w.cell? ⟨b,off+k,none⟩=some (.int .u8 z):=by
    rcases H2.out.cases with ⟨_,_,_,e,_⟩|⟨b,off,c',e,_,hc⟩
    ·rw [e] at hz;simp at hz
    ·simp only [Value.slice.injEq] at e
     exact⟨b,off,e.1,hc k _ hz⟩
   clear hz
   go_wp2_with fail
   go_region
   all_goals
    go_wp2_with fail
    go_roundw
    case rel=>exact⟨k+1,q+1,by omega,by go_num,rfl⟩
    case measure=>simp [intOf];omega
  ·go_wp2_with fail
   go_ret
   exact⟨rfl,q,rfl⟩
end Go.Proofs.YtbecggfbblnglaaGreatDoor
namespace Go.Proofs.YtbecggfbblnglaaGreatDoor
open Go Go.RowKit Go.Ix Go.Gor
def MuchSays (x:Prop) (e:Ending):Prop:=e=.returned (.bool true)∨(e=.returned (.bool false)∧x)
set_option maxRecDepth 20000 in
set_option maxHeartbeats 2000000 in
theorem much_any (o:Option Addr) (n c:Nat) (l:List Ser) (w:World) (hl:l.length=n) (hv:VastS l) (hc:RowsR w o l):Calls Tryz.prog 4 #[.slice o n c] w fun e w'=>MuchSays (wtS l+n≤20000∧n≤60) e∧∃q,w'=w.drewN q:=by
 have Hc:=Lib.hid hc
 have Hv:=Lib.hid hv
 have Hl:=Lib.hid hl
 have hn:=hv.1
 rw [hl] at hn
 clear hc hv hl
 go_enter Tryz.func4,Tryz.ntmps4
 go_wp2_with fail
 go_loopw [3,4] (fun nv iv wr=>∃k q t:Nat,k≤n∧iv=.int .i64 k∧nv=.int .i64 t∧t≤900000000000000∧(20000<t∨t=n+wtS (l.take k))∧wr=w.drewN q) (fun _ iv _=>n-(intOf iv).toNat)
 case atStart=>exact⟨0,0,n,Nat.zero_le _,rfl,rfl,by omega,.inr (by rw [List.take_zero];rfl),rfl⟩
 case round =>
  obtain⟨k,q,t,hk,rfl,rfl,ht6,ht,hwr0⟩:=hrel
  have Hwr0:=Lib.hid hwr0
  have Hd:Hid (∀m,∃q,wr.drewN m=w.drewN q):=Lib.hid (fun m=>⟨q+m,by rw [hwr0,World.drewN_drewN]⟩)
  have HR:=Lib.hid (Hc.out.olds (show Olds w wr by rw [hwr0];exact Olds.drewN w q))
  have Ht:=Lib.hid ht
  clear ht hwr0
  by_cases hlt:k<n
  ·by_cases h4:t≤20000
   ·obtain⟨b,off,e1,e2,o1,n1,c1,o2,n2,c2,rfl,hx,hc1,hc2,hl1,hl2,hr1,hr2,_⟩:=HR.out.at (k:=k) (by rw [Hl.out];exact hlt)
    obtain⟨hvl,hv2⟩:=Hv.out.2 _ (List.mem_of_getElem? hx)
    simp only at hvl hv2
    have HS:Hid (∀m,Calls Tryz.prog 14 #[.slice o1 n1 c1] (wr.drewN m) fun e w'=>(∃r:Nat,e=.returned (.int .i64 (r:Nat))∧r≤600000000000000∧(20000<r∨r=n1+wtL e1))∧∃q',w'=(wr.drewN m).drewN q'):=Lib.hid (fun m=>lsize_any o1 n1 c1 e1 (wr.drewN m) hl1 hvl (hr1.olds (Olds.drewN wr m)))
    have HF:Hid (∀r:Nat,r≤600000000000000→(20000<r∨r=n1+wtL e1)→((IntKind.i64.wrap ((n2:Int)+(r:Int))=(n2:Int)+(r:Int))∧(IntKind.i64.wrap ((t:Int)+((n2:Int)+(r:Int)))=(t:Int)+((n2:Int)+(r:Int))))∧Hid (t+(n2+r)≤900000000000000∧(20000<t+(n2+r)∨t+(n2+r)=n+wtS (l.take (k+1))))):=Lib.hid (fun r hr6 hr=>by
     refine⟨⟨by rw [IntKind.wrap_i64];omega,by rw [IntKind.wrap_i64];omega⟩,Lib.hid ⟨by omega,?_⟩⟩
     rw [wtS_take hx]
     unfold wtR
     simp only
     rcases Ht.out with h | h
     ·omega
     ·rcases hr with h2 | h2
      ·omega
      ·right;omega)
    clear hx hl1 hr1 hr2 hvl hv2
    have HC:Hid (∀m,(wr.drewN m).cell? ⟨b,off+k * 2,none⟩=some (.slice o1 n1 c1)∧(wr.drewN m).cell? ⟨b,off+k * 2+1,none⟩=some (.slice o2 n2 c2)):=Lib.hid (fun m=>⟨(Olds.drewN wr m).cell hc1,(Olds.drewN wr m).cell hc2⟩)
    have H64:=Lib.hid ht6
    have Hn:=Lib.hid hn
    clear hc1 hc2 ht6 hn
    go_upto_region 5 with fail
    go_region_held3 (fun W=>W.cell? ⟨b,off+k * 2,none⟩=some (.slice o1 n1 c1)∧W.cell? ⟨b,off+k * 2+1,none⟩=some (.slice o2 n2 c2))
     (first | exact HC.out 1 | exact HC2.out)
     (first | (go_at_call 14;refine (HS.out 1).mono ?_;rintro e w2 ⟨⟨r,rfl,hr6,hr⟩,q2,hw2⟩;have HC2:Hid (w2.cell? ⟨b,off+k * 2,none⟩=some (.slice o1 n1 c1)∧w2.cell? ⟨b,off+k * 2+1,none⟩=some (.slice o2 n2 c2)):=(Lib.hid (by rw [hw2,World.drewN_drewN];exact HC.out _));obtain⟨⟨hw5,hw6⟩,Hr2⟩:=HF.out r hr6 hr;have H56:=Lib.hid (And.intro hw5 hw6);have Hw2:Hid (∃q,w2=w.drewN q):=(Lib.hid (by rw [hw2,World.drewN_drewN];exact Hd.out _));clear hw2 hr hr6))
    have hn:=Hn.out
    go_wp2_with fail
    go_roundw
    case rel =>
     obtain⟨q5,e5⟩:=Hw2.out
     obtain⟨hw5,hw6⟩:=H56.out
     exact⟨k+1,q5,t+(n2+r),by omega,by go_num,by first | rfl | go_num,Hr2.out.1,Hr2.out.2,e5⟩
    case measure =>
     simp [intOf];omega
   ·go_wp2_with fail
    go_ret
    exact⟨.inl rfl,q,Hwr0.out⟩
  ·have Hfin:Hid (20000<t∨t=n+wtS l):=Lib.hid (by
    have h9:=Ht.out
    rwa [List.take_of_length_le (l:=l) (by rw [Hl.out];omega)] at h9)
   by_cases h4:t≤20000
   ·by_cases h6:n≤60
    ·go_wp2_with fail
     go_ret
     exact⟨.inr ⟨ret_bool (a:=decide (20000<(t:Int)) || decide (60<(n:Int))) (by simp;omega),by rcases Hfin.out with h | h<;>omega,h6⟩,q,Hwr0.out⟩
    ·go_wp2_with fail
     go_ret
     exact⟨.inl (ret_bool (a:=decide (20000<(t:Int)) || decide (60<(n:Int))) (by simp;omega)),q,Hwr0.out⟩
   ·go_wp2_with fail
    go_ret
    exact⟨.inl rfl,q,Hwr0.out⟩
end Go.Proofs.YtbecggfbblnglaaGreatDoor
namespace Go.Proofs.YtbecggfbblnglaaGreatDoor
open Go Go.RowKit Go.Ix Go.Gor
structure Wrote (X:Nat→Prop) (v v':Value) (w w':World):Prop where
 os:w'.os=w.os
 tape:w'.tape=w.tape
 output:w'.output=w.output
 size:w.heap.size≤w'.heap.size
 block:∀b,b<w.heap.size→¬ X b→v.ownBlock≠some b→w'.heap[b]?=w.heap[b]?
 place:v'.ownBlock=v.ownBlock∨∃g,v'.ownBlock=some g∧w.heap.size≤g
theorem Wrote.refl (X:Nat→Prop) (v:Value) (w:World):Wrote X v v w w:=⟨rfl,rfl,rfl,Nat.le_refl _,fun _ _ _ _=>rfl,.inl rfl⟩
theorem Wrote.trans {X:Nat→Prop}{v v1 v2:Value}{w w1 w2:World}(h:Wrote X v v1 w w1) (k:Wrote X v1 v2 w1 w2):Wrote X v v2 w w2:=by
 refine⟨k.os.trans h.os,k.tape.trans h.tape,k.output.trans h.output,Nat.le_trans h.size k.size,fun b hb hx hv=>?_,?_⟩
 ·rw [k.block b (Nat.lt_of_lt_of_le hb h.size) hx (fun e=>by
   rcases h.place with e1|⟨g,e1,h1⟩
   ·exact hv (e1 ▸ e)
   ·rw [e1] at e
    cases e
    omega)]
  exact h.block b hb hx hv
 ·rcases k.place with e|⟨g,e,h1⟩
  ·rcases h.place with e1|⟨g,e1,h1⟩
   ·exact .inl (e.trans e1)
   ·exact .inr ⟨g,e.trans e1,h1⟩
  ·exact .inr ⟨g,e,Nat.le_trans h.size h1⟩
theorem Wrote.drewN {X:Nat→Prop}{v v1:Value}{w w1:World}(h:Wrote X v v1 w w1) (q:Nat):Wrote X v v1 w (w1.drewN q):=h.trans ⟨rfl,rfl,rfl,Nat.le_refl _,fun _ _ _ _=>rfl,.inl rfl⟩
theorem Wrote.setCell {X:Nat→Prop}{v v1:Value}{w w1:World}(h:Wrote X v v1 w w1) {p:Addr}(hp:X p.block∨v1.ownBlock=some p.block) (u:Value):Wrote X v v1 w (w1.setCell p u):=by
 refine h.trans ⟨rfl,rfl,rfl,by simp [World.setCell],fun b _ hx hv=>?_,.inl rfl⟩
 simp only [World.setCell,Array.getElem?_modify]
 rw [if_neg]
 rintro rfl
 rcases hp with hp | hp
 ·exact hx hp
 ·exact hv hp
theorem Wrote.alloc {X:Nat→Prop}{v v1:Value}{w w1:World}(h:Wrote X v v1 w w1) (O:Obj):Wrote X v v1 w (w1.alloc O) :=
 h.trans ⟨rfl,rfl,rfl,by simp,fun b hb _ _=>(Olds.alloc w1 O).2 b hb,.inl rfl⟩
theorem Wrote.grown {X:Nat→Prop}{v v1 v2:Value}{w w1 w2:World}(h:Wrote X v v1 w w1) (hg:w1.grownBy w2 v1.ownBlock) (hp:v2.ownBlock=v1.ownBlock∨∃g,v2.ownBlock=some g∧w1.heap.size≤g):Wrote X v v2 w w2 :=
 h.trans ⟨hg.os,hg.tape,hg.output,hg.size,fun b hb _ hv=>hg.block b hb (fun e=>hv e.symm),hp⟩
theorem Wrote.mono {X Y:Nat→Prop}{v v':Value}{w w':World}(h:Wrote X v v' w w') (hX:∀b,X b→Y b):Wrote Y v v' w w':=⟨h.os,h.tape,h.output,h.size,fun b hb hx hv=>h.block b hb (fun e=>hx (hX b e)) hv,h.place⟩
def WrAt (w:World) (wb:Nat) (v:Value) (l:List Bool):Prop :=
 w.heap[wb]?=some (.cells #[v,.int .i64 (l.length:Nat)] 378 (0,0))∧Row8 w (wb+1) v (pack l)
theorem Row8.store {W:World}{B g n cap k x:Nat}{bs:List Nat}(h:Row8 W B (.slice (some ⟨g,0,none⟩) n cap) bs) (_:k<n) :
  Row8 (W.setCell ⟨g,k,none⟩ (.int .u8 (x:Nat))) B (.slice (some ⟨g,0,none⟩) n cap) (bs.set k x):=by
 obtain⟨k1,k2⟩:=h
 refine⟨by simp [octs],?_⟩
 rcases k2 with ⟨e,_⟩|⟨g',cap',cur,e,q1,q2,q3,q4,q5,q6⟩
 ·simp only [Value.slice.injEq] at e
  exact absurd e.1 (by simp)
 ·simp only [Value.slice.injEq,Option.some.injEq,Addr.mk.injEq,and_true] at e
  obtain⟨rfl,e1,rfl⟩:=e
  refine .inr ⟨g,cap,cur.setIfInBounds k (.int .u8 (x:Nat)),by rw [List.length_set,e1],q1,?_,by rw [List.length_set];exact q3,q4,by simpa using q5,?_⟩
  ·simp [World.setCell,Array.getElem?_modify,q2]
  ·rw [Array.toList_setIfInBounds,List.take_set,List.length_set,q6]
   unfold octs
   rw [List.map_set]
theorem Row8.other {W:World}{B:Nat}{v:Value}{bs:List Nat}(h:Row8 W B v bs) {p:Addr}(hp:v.ownBlock≠some p.block) (u:Value):Row8 (W.setCell p u) B v bs :=
 ownsRow_blocks h fun g hg=>by
  simp only [World.setCell,Array.getElem?_modify]
  rw [if_neg (by rintro rfl;exact hp hg)]
theorem Row8.shape {W:World}{B:Nat}{v:Value}{bs:List Nat}(h:Row8 W B v bs):∃o c,v=.slice o bs.length c∧(o=none→bs.length=0∧c=0):=ownsRow_shape h
theorem WrAt.own {w:World}{wb:Nat}{v:Value}{l:List Bool}(h:WrAt w wb v l):∀g,v.ownBlock=some g→wb+1≤g∧g<w.heap.size:=fun _ hg=>ownsRow_block h.2 hg
theorem WrAt.lt {w:World}{wb:Nat}{v:Value}{l:List Bool}(h:WrAt w wb v l):wb<w.heap.size:=(Array.getElem?_eq_some_iff.1 h.1).1
theorem or_byte {b r:Nat}(hb:b<256) (hr:r<8):bits .or .u8 (b:Int) (128 / 2 ^ r)=((b ||| 128 >>> r:Nat):Int):=by
 have h1:(128 / 2 ^ r:Int)=((128 >>> r:Nat):Int):=by
  rw [Nat.shiftRight_eq_div_pow]
  norm_cast
 have h2:128 >>> r<256:=by
  rw [Nat.shiftRight_eq_div_pow]
  exact Nat.lt_of_le_of_lt (Nat.div_le_self _ _) (by decide)
 rw [h1]
 exact or_u8 b (128 >>> r) hb h2
set_option maxRecDepth 20000 in
set_option maxHeartbeats 2000000 in
theorem bit_any {X:Nat→Prop}(wb:Nat) (v:Value) (l:List Bool) (x:Bool) (w:World) (h:WrAt w wb v l) (hl:l.length≤1000000) (hX:X wb) :
  Calls Tryz.prog 183 #[.pointer (some ⟨wb,0,none⟩),.bool x] w fun e w'=>e=.returned (.tuple #[])∧∃v',WrAt w' wb v' (l++[x])∧Wrote X v v' w w':=by
 obtain⟨i0,hi0,hz0,hz1,hz2⟩:=info_parts Tryz.info5
 have hown:=h.own
 have hlt:=h.lt
 obtain⟨hh,hr⟩:=h
 obtain⟨a,m,e1,e2,e3,e4,e5,e6,e7⟩:=pack_snoc l x
 obtain⟨o,c,rfl,h0⟩:=hr.shape
 have hc0:w.cell? ⟨wb,0,none⟩=some (.slice o (pack l).length c):=cell_of_heap hh
 have hc1:w.cell? ⟨wb,1,none⟩=some (.int .i64 (l.length:Nat)):=cell_of_heap hh
 have hf0:w.frozen? ⟨wb,0,none⟩=false:=by simp [World.frozen?,hh]
 have hf1:w.frozen? ⟨wb,1,none⟩=false:=by simp [World.frozen?,hh]
 have Hh:=Lib.hid hh
 have hr':w.ownsRow (wb+1) 5 1 (.slice o (pack l).length c) (pack l).length (octs (pack l)):=hr
 have Hr:=Lib.hid hr'
 have Hown:=Lib.hid hown
 have E3:=Lib.hid e3
 have E4:=Lib.hid e4
 have E5:=Lib.hid e5
 have E6:=Lib.hid e6
 have E7:=Lib.hid e7
 clear hh hr hr' hown e1 e2 e3 e4 e5 e6 e7
 generalize hP:(pack l).length=P at *
 generalize hN:l.length=N at *
 have HP:=Lib.hid hP
 have HN:=Lib.hid hN
 clear hP hN
 obtain⟨q,hq⟩:∃q,q=N / 8:=⟨_,rfl⟩
 obtain⟨r,hr⟩:∃r,r=N % 8:=⟨_,rfl⟩
 have hqi:(N:Int) / 8=(q:Int):=by omega
 have hri:(N:Int) % 8=(r:Int):=by omega
 have hr8:r<8:=by omega
 rw [← hr] at E3 E5 E6 E7
 rw [← hq] at E4
 have Hq:=Lib.hid hq
 have Hrr:=Lib.hid hr
 clear hq hr
 by_cases h8:r=0
 ·subst h8
  have hrb:(((0:Nat):Int) == 0)=true:=by simp
  have hP:P=q:=by
   have h1:=HP.out
   rw [E5.out,if_pos rfl,List.append_nil,E4.out] at h1
   exact h1.symm
  subst hP
  obtain⟨O1,hO1⟩:∃O1:Obj,O1=.cells #[.int .u8 0] 5:=⟨_,rfl⟩
  have hap:∀(w4:World) (gg cap2:Nat),w4.ownsRow (wb+1) 5 1 (.slice (some ⟨gg,0,none⟩) (P+1) cap2) (P+1) (octs (pack l)++[.int .u8 0])→(w.alloc O1).grownBy w4 (Value.slice o P c).ownBlock →
    w4.cell? ⟨wb,0,none⟩=some (.slice o P c)∧w4.cell? ⟨wb,1,none⟩=some (.int .i64 (N:Nat))∧w4.frozen? ⟨wb,0,none⟩=false∧w4.frozen? ⟨wb,1,none⟩=false∧w4.heap[wb]?=some (.cells #[.slice o P c,.int .i64 (N:Nat)] 378 (0,0))∧¬ gg=wb∧¬ wb=gg∧w4.cell? ⟨gg,P,none⟩=some (.int .u8 0)∧w4.frozen? ⟨gg,P,none⟩=false:=fun w4 gg cap2 h1 h2=>by
   have e1:w4.heap[wb]?=some (.cells #[.slice o P c,.int .i64 (N:Nat)] 378 (0,0)):=by
    rw [h2.block wb (by simp;omega) (fun e=>by have:=(Hown.out wb e.symm).1;omega),(Olds.alloc w O1).2 wb hlt]
    exact Hh.out
   have hgg:=(ownsRow_block h1 (g:=gg) rfl).1
   have hc9:=ownsRow_cell h1 P (.int .u8 0) (by rw [List.getElem?_append_right (by rw [octs_len,HP.out];exact Nat.le_refl _),octs_len,HP.out,Nat.sub_self];rfl)
   rw [Nat.zero_add] at hc9
   have hf9:w4.frozen? ⟨gg,P,none⟩=false:=by
    rcases h1.2 with ⟨e,_⟩|⟨g',cap,cur,e,_,hg,_⟩
    ·cases e
    ·simp only [Value.slice.injEq,Option.some.injEq,Addr.mk.injEq] at e
     rw [e.1.1]
     simp [World.frozen?,hg]
   exact⟨cell_of_heap e1,cell_of_heap e1,by simp [World.frozen?,e1],by simp [World.frozen?,e1],e1,by omega,by omega,hc9,hf9⟩
  have Hap:=Lib.hid hap
  have Hm:=Lib.hid (E6.out rfl)
  have HX:Hid (∀w4 gg,(w.alloc O1).grownBy w4 (Value.slice o P c).ownBlock→((Value.slice o P c).ownBlock=some gg∨gg=w.heap.size+1)→∀cap2,Wrote X (.slice o P c) (.slice (some ⟨gg,0,none⟩) (P+1) cap2) w w4):=Lib.hid (fun w4 gg h1 h2 cap2=>by
   refine ((Wrote.refl X (.slice o P c) w).alloc O1).grown h1 ?_
   rcases h2 with h2 | h2
   ·exact .inl h2.symm
   ·exact .inr ⟨gg,rfl,by simp;omega⟩)
  clear hap
  subst hO1
  have hv:=or_byte (b:=0) (r:=0) (by decide) (by decide)
  cases x with
  | false =>
   go_enter Tryz.func183,Tryz.ntmps183
   go_wp2_with (at_builtin;refine wpList_append_lies _ rfl _ _ _ rfl (wb+1) 5 i0 _ 1 1 Tryz.underlying26 hi0 hz0 hz1 hz2 rfl Nat.one_pos (.slice o P c) P (octs (pack l)) rfl (ownsRow_olds Hr.out (Olds.alloc _ _)) ⟨w.heap.size,0,none⟩ 1 1 [.int .u8 0] rfl rfl (World.news_of_block (cs:=#[.int .u8 0]) (t:=5) (fr:=(0,0)) (heap_alloc_new w _)) (by simp [Value.oneCell']) Nat.one_pos (by unfold maxLen;omega) (by omega) (by simp;omega) (w.heap.size+1) (by simp) ?_;intro gg cap2 w4 hown4 hgrow hat hlt4;obtain⟨k1,k2,k3,k4,k5,k6,k7,k8,k9⟩:=Hap.out w4 gg cap2 hown4 hgrow;have Hown4:=Lib.hid hown4;have Hgrow:=Lib.hid hgrow;have Hat:=Lib.hid hat;have K5:=Lib.hid k5;clear hown4 hgrow hat k5 Hap)
   go_end0
   refine⟨rfl,.slice (some ⟨gg,0,none⟩) (P+1) cap2,⟨?_,?_⟩,((HX.out w4 gg Hgrow.out Hat.out cap2).setCell (.inl hX) _).setCell (.inl hX) _⟩
   ·simp [World.setCell,Array.getElem?_modify,K5.out,HN.out]
   ·refine Row8.other (Row8.other ?_ (fun e=>k6 (by cases e;rfl)) _) (fun e=>k6 (by cases e;rfl)) _
    have e9:pack (l++[false])=pack l++[0]:=by
     rw [E7.out,E5.out,Hm.out]
     simp [Gor.byteOf,valG]
    rw [e9]
    unfold Row8
    rw [octs_append,List.length_append,HP.out]
    exact Hown4.out
  | true =>
   go_enter Tryz.func183,Tryz.ntmps183
   go_wp2_with (at_builtin;refine wpList_append_lies _ rfl _ _ _ rfl (wb+1) 5 i0 _ 1 1 Tryz.underlying26 hi0 hz0 hz1 hz2 rfl Nat.one_pos (.slice o P c) P (octs (pack l)) rfl (ownsRow_olds Hr.out (Olds.alloc _ _)) ⟨w.heap.size,0,none⟩ 1 1 [.int .u8 0] rfl rfl (World.news_of_block (cs:=#[.int .u8 0]) (t:=5) (fr:=(0,0)) (heap_alloc_new w _)) (by simp [Value.oneCell']) Nat.one_pos (by unfold maxLen;omega) (by omega) (by simp;omega) (w.heap.size+1) (by simp) ?_;intro gg cap2 w4 hown4 hgrow hat hlt4;obtain⟨k1,k2,k3,k4,k5,k6,k7,k8,k9⟩:=Hap.out w4 gg cap2 hown4 hgrow;have Hown4:=Lib.hid hown4;have Hgrow:=Lib.hid hgrow;have Hat:=Lib.hid hat;have K5:=Lib.hid k5;clear hown4 hgrow hat k5 Hap)
   go_region
   go_wp2_with fail
   go_end0
   have hv0:bits .or .u8 0 128=128:=by decide +kernel
   rw [hv0]
   refine⟨rfl,.slice (some ⟨gg,0,none⟩) (P+1) cap2,⟨?_,?_⟩,((((HX.out w4 gg Hgrow.out Hat.out cap2).setCell (p:=⟨wb,0,none⟩) (.inl hX) _).setCell (p:=⟨gg,P,none⟩) (.inr rfl) _).setCell (p:=⟨wb,1,none⟩) (.inl hX) _).drewN 1⟩
   ·show (((w4.setCell ⟨wb,0,none⟩ (.slice (some ⟨gg,0,none⟩) (P+1) cap2)).setCell ⟨gg,P,none⟩ (.int .u8 128)).setCell ⟨wb,1,none⟩ (.int .i64 ((N:Int)+1))).heap[wb]?=_
    simp [World.setCell,Array.getElem?_modify,K5.out,HN.out,k6]
   ·refine ownsRow_olds (w:=((w4.setCell ⟨wb,0,none⟩ (.slice (some ⟨gg,0,none⟩) (P+1) cap2)).setCell ⟨gg,P,none⟩ (.int .u8 128)).setCell ⟨wb,1,none⟩ (.int .i64 ((N:Int)+1))) ?_ (Olds.drewN _ 1)
    refine Row8.other ?_ (fun e=>k6 (by cases e;rfl)) _
    have e9:pack (l++[true])=(pack l++[0]).set P 128:=by
     rw [E7.out,E5.out,Hm.out]
     simp [Gor.byteOf,valG,List.set_append_right _ _ (show (pack a).length≤P by rw [E4.out];exact Nat.le_refl _),E4.out]
    rw [e9]
    refine Row8.store (Row8.other (v:=.slice (some ⟨gg,0,none⟩) (P+1) cap2) ?_ (fun e=>k6 (by cases e;rfl)) _) (by omega)
    unfold Row8
    rw [octs_append,List.length_append,HP.out]
    exact Hown4.out
 ·have hrb:((r:Int) == 0)=false:=by simpa using h8
  have H8:=Lib.hid h8
  have hP:P=q+1:=by
   have h1:=HP.out
   rw [E5.out,if_neg h8,List.length_append,E4.out] at h1
   simpa using h1.symm
  clear h8
  obtain⟨g,rfl⟩:∃g,o=some ⟨g,0,none⟩:=by
   rcases Hr.out.2 with ⟨e,_⟩|⟨g,cap,cur,e,_⟩
   ·simp only [Value.slice.injEq] at e
    omega
   ·simp only [Value.slice.injEq] at e
    exact⟨g,e.1⟩
  cases x with
  | false =>
   go_enter Tryz.func183,Tryz.ntmps183
   go_wp2_with fail
   go_end0
   refine⟨rfl,.slice (some ⟨g,0,none⟩) P c,⟨?_,?_⟩,(Wrote.refl _ _ _).setCell (.inl hX) _⟩
   ·simp [World.setCell,Array.getElem?_modify,Hh.out,HN.out]
   ·refine Row8.other ?_ (fun e=>by have:=(Hown.out wb e).1;omega) _
    have e9:pack (l++[false])=pack l:=by
     rw [E7.out,E5.out,if_neg H8.out]
     simp
    rw [e9]
    unfold Row8
    rw [HP.out]
    exact Hr.out
  | true =>
   have hcell:w.cell? ⟨g,q,none⟩=some (.int .u8 (Gor.byteOf m:Nat)):=by
    have:=ownsRow_cell Hr.out q (.int .u8 (Gor.byteOf m:Nat)) (by
     unfold octs
     rw [List.getElem?_map,E5.out,if_neg H8.out,List.getElem?_append_right (by rw [E4.out];omega),E4.out,Nat.sub_self]
     rfl)
    rwa [Nat.zero_add] at this
   have hgb:=Hown.out g rfl
   have hne1:¬ g=wb:=by omega
   have hne2:¬ wb=g:=by omega
   have hfz:w.frozen? ⟨g,q,none⟩=false:=by
    rcases Hr.out.2 with ⟨e,_⟩|⟨g',cap,cur,e,_,hg,_⟩
    ·cases e
    ·simp only [Value.slice.injEq,Option.some.injEq,Addr.mk.injEq] at e
     rw [e.1.1]
     simp [World.frozen?,hg]
   have hv:=or_byte (byte_lt (m:=m) (by rw [E3.out];omega)) hr8
   generalize hz:(Gor.byteOf m ||| 128 >>> r)=z at *
   have Hz:=Lib.hid hz
   clear hz
   go_enter Tryz.func183,Tryz.ntmps183
   go_wp2_with fail
   go_region
   go_wp2_with fail
   go_end0
   refine⟨rfl,.slice (some ⟨g,0,none⟩) P c,⟨?_,?_⟩,(((Wrote.refl _ _ _).setCell (.inr rfl) _).setCell (.inl hX) _).drewN 1⟩
   ·show ((w.setCell ⟨g,q,none⟩ (.int .u8 (z:Nat))).setCell ⟨wb,1,none⟩ (.int .i64 ((N:Int)+1))).heap[wb]?=_
    simp [World.setCell,Array.getElem?_modify,Hh.out,HN.out,hne1]
   ·refine ownsRow_olds (w:=(w.setCell ⟨g,q,none⟩ (.int .u8 (z:Nat))).setCell ⟨wb,1,none⟩ (.int .i64 ((N:Int)+1))) ?_ (Olds.drewN _ 1)
    refine Row8.other ?_ (fun e=>hne1 (by cases e;rfl)) _
    have e9:pack (l++[true])=(pack l).set q z:=by
     rw [E7.out,E5.out,if_neg H8.out,List.set_append_right _ _ (by rw [E4.out];exact Nat.le_refl _),E4.out,Nat.sub_self,if_pos trivial,Hz.out]
     rfl
    rw [e9]
    exact Row8.store (show Row8 w (wb+1) (.slice (some ⟨g,0,none⟩) P c) (pack l) by unfold Row8;rw [HP.out];exact Hr.out) (by omega)
end Go.Proofs.YtbecggfbblnglaaGreatDoor
namespace Go.Proofs.YtbecggfbblnglaaGreatDoor
open Go Go.RowKit Go.Ix Go.Gor
theorem test_bit {x j:Nat}(hx:x<18446744073709551616):(bits .and .u64 ((x:Int) / 2 ^ j) 1 != 0)=x.testBit j:=by
 have h1:((x:Int) / 2 ^ j)=((x / 2 ^ j:Nat):Int):=by norm_cast
 have h2:x / 2 ^ j<18446744073709551616:=Nat.lt_of_le_of_lt (Nat.div_le_self _ _) hx
 rw [h1]
 have h3:=and_u64 (x / 2 ^ j) 1 h2 (by decide)
 rw [show ((1:Nat):Int)=1 from rfl] at h3
 rw [h3,and1G,test_div]
 rcases Nat.mod_two_eq_zero_or_one (x / 2 ^ j) with h | h<;>rw [h]<;>rfl
set_option maxRecDepth 20000 in
set_option maxHeartbeats 2000000 in
theorem bits_any {X:Nat→Prop}(wb:Nat) (v:Value) (l:List Bool) (x n:Nat) (w:World) (h:WrAt w wb v l) (hl:l.length+n≤1000000) (hn:n≤64) (hx:x<18446744073709551616) (hX:X wb) :
  Calls Tryz.prog 148 #[.pointer (some ⟨wb,0,none⟩),.int .u64 (x:Nat),.int .i64 (n:Nat)] w fun e w'=>e=.returned (.int .u16 0)∧∃v',WrAt w' wb v' (l++bitsOf x n)∧Wrote X v v' w w':=by
 have H0:=Lib.hid h
 clear h
 go_enter Tryz.func148,Tryz.ntmps148
 go_wp2_with fail
 go_loopw [7] (fun iv wr=>∃(k:Nat) (l':List Bool) (v':Value),k≤n∧iv=.int .i64 ((k:Int)-1)∧WrAt wr wb v' l'∧Wrote X v v' w wr∧l'++bitsOf x k=l++bitsOf x n) (fun iv _=>((intOf iv)+1).toNat)
 case atStart=>exact⟨n,l,v,Nat.le_refl _,rfl,H0.out,Wrote.refl _ _ _,rfl⟩
 case round =>
  obtain⟨k,l',v',hk,rfl,hwr,hwt,he⟩:=hrel
  have hlen:l'.length+k=l.length+n:=by
   have:=congrArg List.length he
   rwa [List.length_append,List.length_append,bits_len,bits_len] at this
  have He:=Lib.hid he
  have Hwt:=Lib.hid hwt
  clear he hwt
  cases k with
  | zero =>
   have Hwr:=Lib.hid hwr
   clear hwr
   go_wp2_with fail
   go_ret
   exact⟨rfl,v',by
    have h:=He.out
    rw [show bitsOf x 0=[] from rfl,List.append_nil] at h
    rw [← h]
    exact Hwr.out,Hwt.out⟩
  | succ j =>
   have HB:=Lib.hid (bit_any (X:=X) wb v' l' (x.testBit j) wr hwr (by omega) hX)
   have Hj:Hid ((l'++[x.testBit j])++bitsOf x j=l++bitsOf x n):=Lib.hid (by
    rw [← He.out,List.append_assoc]
    rfl)
   have ht:=test_bit (x:=x) (j:=j) hx
   generalize x.testBit j=t at *
   clear hwr
   go_wp2_with (go_at_call 183;refine HB.out.mono ?_;clear HB;rintro e w2 ⟨rfl,v2,hw2,ht2⟩;have Hw2:=Lib.hid hw2;have Ht2:=Lib.hid (Hwt.out.trans ht2);clear hw2 ht2)
   go_roundw
   case rel=>exact⟨j,_,v2,by omega,by go_num,Hw2.out,Ht2.out,Hj.out⟩
   case measure=>simp [intOf]
theorem v_len64 {x:Nat}(hx:x<18446744073709551616):(vbits x).length≤80:=v_len 9 x (Nat.lt_of_lt_of_le hx (by decide))
theorem low7 {z:Nat}(hz:z<18446744073709551616):bits .or .u64 (bits .and .u64 (z:Int) 127) 128=((128+z % 128:Nat):Int):=by
 have h1:=and_u64 z 127 hz (by decide)
 rw [show ((127:Nat):Int)=127 from rfl] at h1
 rw [h1,and127]
 have h2:=or_u64 (z % 128) 128 (by omega) (by decide)
 rw [show ((128:Nat):Int)=128 from rfl] at h2
 rw [h2,or128 _ (by omega)]
set_option maxRecDepth 20000 in
set_option maxHeartbeats 2000000 in
theorem varint_any {X:Nat→Prop}(wb:Nat) (v:Value) (l:List Bool) (x:Nat) (w:World) (h:WrAt w wb v l) (hl:l.length≤900000) (hx:x<18446744073709551616) (hX:X wb) :
  Calls Tryz.prog 182 #[.pointer (some ⟨wb,0,none⟩),.int .u64 (x:Nat)] w fun e w'=>e=.returned (.tuple #[])∧∃v',WrAt w' wb v' (l++vbits x)∧Wrote X v v' w w':=by
 have H0:=Lib.hid h
 have hxl:=v_len64 hx
 clear h
 go_enter Tryz.func182,Tryz.ntmps182
 go_wp2_with fail
 go_loopw [1] (fun iv wr=>∃(z:Nat) (l':List Bool) (v':Value),z<18446744073709551616∧iv=.int .u64 (z:Nat)∧WrAt wr wb v' l'∧Wrote X v v' w wr∧l'++vbits z=l++vbits x) (fun iv _=>(intOf iv).toNat)
 case atStart=>exact⟨x,l,v,hx,rfl,H0.out,Wrote.refl _ _ _,rfl⟩
 case round =>
  obtain⟨z,l',v',hz,rfl,hwr,hwt,he⟩:=hrel
  have hlen:l'.length≤900080:=by
   have:=congrArg List.length he
   rw [List.length_append,List.length_append] at this
   omega
  have He:=Lib.hid he
  have Hwt:=Lib.hid hwt
  clear he hwt
  by_cases hs:z<128
  ·have HB:=Lib.hid (bits_any (X:=X) wb v' l' z 8 wr hwr (by omega) (by decide) hz hX)
   have Hv:Hid (l'++bitsOf z 8=l++vbits x):=Lib.hid (by rw [← He.out,v_small hs])
   have hs1:¬ (127:Int)<(z:Int):=by omega
   clear hwr
   go_wp2_with (go_at_call 148;refine HB.out.mono ?_;clear HB;rintro e w2 ⟨rfl,v2,hw2,ht2⟩;have Hw2:=Lib.hid hw2;have Ht2:=Lib.hid (Hwt.out.trans ht2);clear hw2 ht2)
   go_end0
   exact⟨rfl,v2,by rw [← Hv.out];exact Hw2.out,Ht2.out⟩
  ·have hlo:=low7 hz
   have Hv:Hid ((l'++bitsOf (128+z % 128) 8)++vbits (z / 128)=l++vbits x):=Lib.hid (by rw [← He.out,v_big hs,List.append_assoc])
   have HB:=Lib.hid (bits_any (X:=X) wb v' l' (128+z % 128) 8 wr hwr (by omega) (by decide) (by omega) hX)
   generalize hy:128+z % 128=y at *
   have hs1:(127:Int)<(z:Int):=by omega
   obtain⟨z2,hz2⟩:∃z2,z2=z / 128:=⟨_,rfl⟩
   have hd:(z:Int) / 128=(z2:Int):=by omega
   have hz3:z2<z:=by omega
   rw [← hz2] at Hv
   clear hwr hy hz2
   go_wp2_with (go_at_call 148;refine HB.out.mono ?_;clear HB;rintro e w2 ⟨rfl,v2,hw2,ht2⟩;have Hw2:=Lib.hid hw2;have Ht2:=Lib.hid (Hwt.out.trans ht2);clear hw2 ht2)
   go_roundw
   case rel=>exact⟨z2,_,v2,by omega,by go_num,Hw2.out,Ht2.out,Hv.out⟩
   case measure=>simp [intOf];omega
theorem xor_ones {a:Nat}(h:a<18446744073709551616):a ^^^ 18446744073709551615=18446744073709551615-a:=by
 apply Nat.eq_of_testBit_eq
 intro i
 have h1:=Nat.testBit_two_pow_sub_succ (n:=64) (show a<2 ^ 64 from h) i
 have h2:=Nat.testBit_two_pow_sub_succ (n:=64) (show 0<2 ^ 64 by decide) i
 rw [show 2 ^ 64-(a+1)=18446744073709551615-a by omega] at h1
 rw [show 2 ^ 64-(0+1)=18446744073709551615 by decide] at h2
 rw [Nat.testBit_xor,h1,h2]
 by_cases hi:i<64
 ·simp [hi]
 ·have:a.testBit i=false:=Nat.testBit_lt_two_pow (Nat.lt_of_lt_of_le (show a<2 ^ 64 from h) (Nat.pow_le_pow_right (by decide) (by omega)))
  simp [hi,this]
theorem zz_bits {t:Int}(ht:-9007199254740992≤t∧t≤9007199254740992):bits .xor .u64 (IntKind.u64.wrap (IntKind.u64.wrap t * 2)) (IntKind.u64.wrap (t / 9223372036854775808))=((zz t:Nat):Int):=by
 simp only [wrap_u64]
 unfold zz
 by_cases h:0≤t
 ·rw [if_pos h]
  have h1:t % 18446744073709551616 * 2 % 18446744073709551616=((2 * t.toNat:Nat):Int):=by omega
  have h2:t / 9223372036854775808 % 18446744073709551616=((0:Nat):Int):=by omega
  rw [h1,h2,xor_u64 _ _ (by omega) (by decide),Nat.xor_zero]
 ·rw [if_neg h]
  obtain⟨a,ha⟩:∃a:Nat,(a:Int)=2 * t+18446744073709551616:=⟨(2 * t+18446744073709551616).toNat,by omega⟩
  have h1:t % 18446744073709551616 * 2 % 18446744073709551616=(a:Int):=by omega
  have h2:t / 9223372036854775808 % 18446744073709551616=((18446744073709551615:Nat):Int):=by omega
  rw [h1,h2,xor_u64 _ _ (by omega) (by decide),xor_ones (by omega)]
  omega
set_option maxRecDepth 20000 in
set_option maxHeartbeats 2000000 in
theorem signed_any {X:Nat→Prop}(wb:Nat) (v:Value) (l:List Bool) (t:Int) (w:World) (h:WrAt w wb v l) (hl:l.length≤900000) (ht:-9007199254740992≤t∧t≤9007199254740992) (hX:X wb) :
  Calls Tryz.prog 147 #[.pointer (some ⟨wb,0,none⟩),.int .i64 t] w fun e w'=>e=.returned (.tuple #[])∧∃v',WrAt w' wb v' (l++vbits (zz t))∧Wrote X v v' w w':=by
 have hz:zz t<18446744073709551616:=by unfold zz;split<;>omega
 have HV:=Lib.hid (varint_any (X:=X) wb v l (zz t) w h hl hz hX)
 have hzz:=zz_bits ht
 generalize zz t=z at *
 clear h
 go_enter Tryz.func147,Tryz.ntmps147
 go_wp2_with (go_at_call 182;refine HV.out.mono ?_;clear HV;rintro e w2 ⟨rfl,h2⟩;have H2:=Lib.hid h2;clear h2)
 go_end0
 exact⟨rfl,H2.out⟩
end Go.Proofs.YtbecggfbblnglaaGreatDoor
