/- Contracts over this program. Their conditions: the slices read as the lists that are named, and lie within the sizes that are named. -/
import Derived.Test.YtbecggfbblnglaaGreatDoorT20
import Derived.ArgAppend
set_option linter.unusedSimpArgs false
set_option linter.unusedVariables false
set_option linter.deprecated false
set_option linter.unnecessarySimpa false
namespace Go.Proofs.YtbecggfbblnglaaGreatDoor
open Go Go.RowKit Go.Lib Go.Ix
def us8 (zs:List Int):List Value:=zs.map (Value.int .u8)
def UAt (w:World) (v:Value) (zs:List Int):Prop:=FlatAt w v zs.length (us8 zs)
def UCells (w:World) (b off:Nat) (zs:List Int):Prop:=∀j z,zs[j]?=some z→w.cell? ⟨b,off+j,none⟩=some (.int .u8 z)
theorem uCells_iff {w:World}{b off:Nat}{zs:List Int}:CellsAt w b off (us8 zs)↔UCells w b off zs:=by
 constructor
 ·intro h j z hz
  exact h j _ (by simp [us8,hz])
 ·intro h j v hv
  simp only [us8,List.getElem?_map,Option.map_eq_some_iff] at hv
  obtain⟨z,hz,rfl⟩:=hv
  exact h j z hz
theorem UAt.cases {w:World}{v:Value}{zs:List Int}(h:UAt w v zs) :
  (∃o c,v=.slice o 0 c∧zs=[]∧(o=none→c=0))∨
  (∃b off c,v=.slice (some ⟨b,off,none⟩) zs.length c∧0<zs.length∧UCells w b off zs):=by
 rcases FlatAt.cases h with ⟨o,c,h1,h2,h3⟩|⟨b,off,c,h1,h2,h3⟩
 ·have:zs=[]:=by simpa [us8] using h2
  subst this
  exact .inl ⟨o,c,h1,rfl,h3⟩
 ·refine .inr ⟨b,off,c,h1,List.length_pos_iff.2 (fun e=>h2 (by rw [e];rfl)),uCells_iff.1 h3⟩
theorem UAt.mk {w:World}{b off c:Nat}{zs:List Int}(h:UCells w b off zs):UAt w (.slice (some ⟨b,off,none⟩) zs.length c) zs :=
 ⟨some ⟨b,off,none⟩,c,rfl,(fun h=>by cases h),fun _=>⟨b,off,rfl,uCells_iff.2 h⟩⟩
theorem UAt.none (w:World):UAt w (.slice none 0 0) []:=⟨.none,0,rfl,fun _=>rfl,fun h=>absurd rfl h⟩
theorem UAt.olds {w w':World}{v:Value}{zs:List Int}(h:UAt w v zs) (hb:Olds w w'):UAt w' v zs:=FlatAt.olds h hb
def OwnsU (w:World) (B:Nat) (v:Value) (zs:List Int):Prop:=w.ownsRow B 5 1 v zs.length (zs.map (Value.int .u8))
theorem OwnsU.cases {w:World}{B:Nat}{v:Value}{zs:List Int}(h:OwnsU w B v zs) :
  (v=.slice none 0 0∧zs=[])∨∃g cap,v=.slice (some ⟨g,0,none⟩) zs.length cap∧B≤g∧g<w.heap.size∧zs.length≤cap∧cap≤maxLen∧∀j z,zs[j]?=some z→w.cell? ⟨g,j,none⟩=some (.int .u8 z)∧w.frozen? ⟨g,j,none⟩=false:=by
 have h9:=h
 rcases h.2 with ⟨e,h0⟩|⟨g,cap,cur,rfl,h1,h2,h3,h4,h5,h6⟩
 ·exact .inl ⟨e,List.eq_nil_of_length_eq_zero h0⟩
 ·refine .inr ⟨g,cap,rfl,h1,(Array.getElem?_eq_some_iff.1 h2).1,h3,h4,fun j z hz=>⟨?_,by simp [World.frozen?,h2]⟩⟩
  have:=ownsRow_cell h9 j (.int .u8 z) (by rw [List.getElem?_map,hz];rfl)
  rwa [Nat.zero_add] at this
theorem OwnsU.ints {w:World}{B:Nat}{v:Value}{zs:List Int}(h:OwnsU w B v zs):UAt w v zs:=by
 rcases h.cases with ⟨rfl,rfl⟩|⟨g,cap,rfl,_,_,_,_,hc⟩
 ·exact UAt.none w
 ·exact UAt.mk fun j z hz=>by rw [Nat.zero_add];exact (hc j z hz).1
theorem OwnsU.mono {w:World}{B B':Nat}{v:Value}{zs:List Int}(h:OwnsU w B v zs) (hB:B'≤B):OwnsU w B' v zs:=ownsRow_mono h hB
theorem OwnsU.olds {w W:World}{B:Nat}{v:Value}{zs:List Int}(h:OwnsU w B v zs) (hb:Olds w W):OwnsU W B v zs:=ownsRow_olds h hb
theorem OwnsU.shape {w:World}{B:Nat}{v:Value}{zs:List Int}(h:OwnsU w B v zs):∃o c,v=.slice o zs.length c:=by
 rcases h.cases with ⟨rfl,rfl⟩|⟨g,cap,rfl,_⟩
 ·exact⟨Option.none,0,rfl⟩
 ·exact⟨_,cap,rfl⟩
theorem OwnsU.same {W W':World}{B:Nat}{v:Value}{zs:List Int}(h:OwnsU W B v zs) (hb:∀b,v.ownBlock=some b→W'.heap[b]?=W.heap[b]?):OwnsU W' B v zs:=ownsRow_blocks h hb
theorem Tryz.info26:(Tryz.prog.info? 26).map (fun i=>(i.zero,i.size,i.bytes))=some (some (.slice none 0 0),1,24):=by kernel_rfl
theorem OwnsU.at_ {W:World}{B g n cap:Nat}{zs:List Int}(h:OwnsU W B (.slice (some ⟨g,0,none⟩) n cap) zs):zs.length=n∧B≤g∧g<W.heap.size∧n≤cap:=by
 rcases h.cases with ⟨e,_⟩|⟨g',cap',e,h1,h2,h3,_⟩
 ·simp only [Value.slice.injEq] at e
  exact absurd e.1 (by simp)
 ·simp only [Value.slice.injEq,Option.some.injEq,Addr.mk.injEq,and_true] at e
  obtain⟨rfl,rfl,rfl⟩:=e
  exact⟨rfl,h1,h2,h3⟩
theorem OwnsU.store {W:World}{B g n cap k:Nat}{zs:List Int}(h:OwnsU W B (.slice (some ⟨g,0,none⟩) n cap) zs) (hk:k<n) (m:Int) :
  OwnsU (W.setCell ⟨g,k,none⟩ (.int .u8 m)) B (.slice (some ⟨g,0,none⟩) n cap) (zs.set k m):=by
 obtain⟨k1,k2⟩:=h
 refine⟨by simp,?_⟩
 rcases k2 with ⟨e,_⟩|⟨g',cap',cur,e,q1,q2,q3,q4,q5,q6⟩
 ·simp only [Value.slice.injEq] at e
  exact absurd e.1 (by simp)
 ·simp only [Value.slice.injEq,Option.some.injEq,Addr.mk.injEq,and_true] at e
  obtain⟨rfl,e1,rfl⟩:=e
  refine .inr ⟨g,cap,cur.setIfInBounds k (.int .u8 m),by rw [List.length_set,e1],q1,?_,by rw [List.length_set];exact q3,q4,by simpa using q5,?_⟩
  ·simp [World.setCell,Array.getElem?_modify,q2]
  ·rw [Array.toList_setIfInBounds,List.take_set,List.length_set,q6,List.map_set]
theorem OwnsU.cellAt {W:World}{B g n cap k:Nat}{zs:List Int}{z:Int}(h:OwnsU W B (.slice (some ⟨g,0,none⟩) n cap) zs) (hz:zs[k]?=some z):W.cell? ⟨g,k,none⟩=some (.int .u8 z)∧W.frozen? ⟨g,k,none⟩=false:=by
 rcases h.cases with ⟨e,_⟩|⟨g',cap',e,h1,h2,h3,h4,h5⟩
 ·simp only [Value.slice.injEq] at e
  exact absurd e.1 (by simp)
 ·simp only [Value.slice.injEq,Option.some.injEq,Addr.mk.injEq,and_true] at e
  obtain⟨rfl,rfl,rfl⟩:=e
  exact h5 k z hz
def KeptV (v:Value) (W W':World):Prop:=∀b,v.ownBlock=some b→W'.heap[b]?=W.heap[b]?
theorem KeptV.refl (v:Value) (W:World):KeptV v W W:=fun _ _=>rfl
theorem KeptV.trans {v:Value}{a b c:World}(h:KeptV v a b) (k:KeptV v b c):KeptV v a c:=fun x hx=>(k x hx).trans (h x hx)
theorem uat_kept {W W':World}{v:Value}{zs:List Int}(h:UAt W v zs) (hk:KeptV v W W'):UAt W' v zs:=by
 obtain⟨o,c,e,h0,h3⟩:=h
 refine⟨o,c,e,h0,fun hne=>?_⟩
 obtain⟨b,off,rfl,hc⟩:=h3 hne
 refine⟨b,off,rfl,fun j x hx=>?_⟩
 rw [← hc j x hx]
 exact World.cell?_of_block (hk b (by rw [e];rfl))
theorem ownsu_kept {W W':World}{B:Nat}{v:Value}{zs:List Int}(h:OwnsU W B v zs) (hk:KeptV v W W'):OwnsU W' B v zs:=h.same hk
theorem keptv_setCell {v:Value}{W:World}{g i:Nat}{x:Value}(h:v.ownBlock≠some g):KeptV v W (W.setCell ⟨g,i,none⟩ x):=fun b hb=>by
 simp only [World.setCell,Array.getElem?_modify]
 rw [if_neg (by rintro rfl;exact h hb)]
theorem keptv_grown {v:Value}{a b:World}{row:Option Nat}(h:a.grownBy b row) (hlt:∀k,v.ownBlock=some k→k<a.heap.size) (hne:∀k,v.ownBlock=some k→row≠some k):KeptV v a b:=fun k hk=>h.block k (hlt k hk) (fun e=>hne k hk e.symm)
theorem keptv_alloc {v:Value}{a:World}(O:Obj) (hlt:∀k,v.ownBlock=some k→k<a.heap.size):KeptV v a (a.alloc O):=fun k hk=>(Olds.alloc a O).2 k (hlt k hk)
theorem OwnsU.lt {W:World}{B:Nat}{v:Value}{zs:List Int}(h:OwnsU W B v zs):∀k,v.ownBlock=some k→k<W.heap.size:=fun _ hk=>(ownsRow_block h hk).2
theorem run_push {W:World}{B:Nat}{v:Value}{xs:List Int}{z:Int}{ad:Addr}{c:Nat}(h:OwnsU W B v xs) (hB:B≤W.heap.size) (hz:W.cell? (ad.add 0)=some (.int .u8 z)) (hn:xs.length≤100000000000) (ty:TypeId) :
  ∃v' w',(Builtin.append_ #[26,26] ty #[v,.slice (some ad) 1 c]).run Tryz.prog W=.ok v' w'∧OwnsU w' B v' (xs++[z])∧
   ((v'.ownBlock=v.ownBlock∧W.grownBy w' v.ownBlock)∨(∃k,v'.ownBlock=some k∧W.heap.size≤k)∧W.grownBy w' none):=by
 obtain⟨j0,hj0,hy0,hy1,hy2⟩:=info_parts Tryz.info5
 have hnews:∀(j:Nat) (u:Value),[Value.int .u8 z][j]?=some u→W.cell? (ad.add j)=some u:=fun j u hu=>by
  cases j with
  | zero=>simp at hu;rw [← hu];exact hz
  | succ j=>simp at hu
 have own_:∀{w':World}{v':Value}{B':Nat},w'.ownsRow B' 5 1 v' (xs.length+1) (xs.map (Value.int .u8)++[.int .u8 z])→OwnsU w' B' v' (xs++[z]):=fun h=>by
  unfold OwnsU
  rw [List.length_append,List.map_append]
  exact h
 rcases h.cases with ⟨rfl,rfl⟩|⟨g,cap,rfl,h1,h2,h3,h4,h5⟩
 ·obtain⟨v',w',r1,r2,r3,r4,r5⟩:=run_append_own_at (P:=Tryz.prog) W W.heap.size 26 ty 5 j0 _ 1 1 Tryz.underlying26 hj0 hy0 hy1 hy2 rfl Nat.one_pos (.slice none 0 0) 0 [] ⟨rfl,.inl ⟨rfl,rfl⟩⟩ ad 1 c [.int .u8 z] rfl hnews (by simp [Value.oneCell']) (by unfold maxLen;omega) (by omega) (Nat.le_refl _)
  have hk:∃k,v'.ownBlock=some k∧W.heap.size≤k:=by
   rcases r2.2 with ⟨_,h0⟩|⟨g',_,_,e,hb,_⟩
   ·omega
   ·exact⟨g',by rw [e];rfl,hb⟩
  exact⟨v',w',r1,(show OwnsU w' W.heap.size v' [z] from r2).mono hB,.inr ⟨hk,r3⟩⟩
 ·by_cases hfit:xs.length+1≤cap
  ·obtain⟨w',r1,r2,r3⟩:=run_append_fits (P:=Tryz.prog) W B 26 ty 5 j0 1 Tryz.underlying26 hj0 hy1 g xs.length cap (xs.map (Value.int .u8)) h ad 1 c [.int .u8 z] rfl hnews (by simp [Value.oneCell']) hfit
   exact⟨_,w',r1,own_ r2,.inl ⟨rfl,r3⟩⟩
  ·obtain⟨v',w',r1,r2,r3⟩:=run_append_arg_grows (P:=Tryz.prog) W 26 ty 5 j0 _ 1 1 Tryz.underlying26 hj0 hy0 hy1 hy2 rfl Nat.one_pos ⟨g,0,none⟩ xs.length cap (xs.map (Value.int .u8)) (by simp) (fun j u hu=>by
     have:=World.ownsRow.cellAt h j (by have:=(List.getElem?_eq_some_iff.1 hu).1;simpa using this)
     rw [show (⟨g,0,none⟩:Addr).add j=⟨g,j,none⟩ by unfold Addr.add;split<;>simp_all]
     rw [this,hu]) ad 1 c [.int .u8 z] rfl hnews (by omega) (by unfold maxLen;omega) (by omega)
   have hk:∃k,v'.ownBlock=some k∧W.heap.size≤k:=by
    rcases r2.2 with ⟨_,h0⟩|⟨g',_,_,e,hb,_⟩
    ·omega
    ·exact⟨g',by rw [e];rfl,hb⟩
   exact⟨v',w',r1,(own_ r2).mono hB,.inr ⟨hk,r3⟩⟩
theorem wpList_push {ops:Array Oper}{rest:List Oper}{o:Oper}{a:Act}{Q:Exit→Act→World→Prop}{W:World}(hgd:o.guard=none) (s x:Operand)
  (ho:o.op=.call { callee:=.builtin .append,args:=#[s,x],argTypes:=#[26,26] }) (B:Nat) (v:Value) (xs:List Int) (z:Int) (ad:Addr) (c:Nat) (hs:a.eval s=v) (hx:a.eval x=.slice (some ad) 1 c) (hown:OwnsU W B v xs) (hB:B≤W.heap.size)
  (hz:W.cell? (ad.add 0)=some (.int .u8 z)) (hn:xs.length≤100000000000)
  (h:∀v' w',OwnsU w' B v' (xs++[z])→((v'.ownBlock=v.ownBlock∧W.grownBy w' v.ownBlock)∨(∃k,v'.ownBlock=some k∧W.heap.size≤k)∧W.grownBy w' none)→wpList Tryz.prog ops Q rest (a.put o.dst v') w'):wpList Tryz.prog ops Q (o :: rest) a W :=
 wpList_plain hgd fun K hK=>by
  obtain⟨v',w',hr,h2,h3⟩:=run_push hown hB hz hn (c:=c) o.type
  unfold Oper.wp execOp
  simp only [ho,resolve,invoke,builtin,Sem.run_bind,Sem.run_pure,Result.andThen_ok,List.map_toArray,List.map_cons,List.map_nil,hs,hx,hr]
  exact hK _ _ (h v' w' h2 h3)
def mk (i k:Nat):Int:=((i:Int) * 97+(k:Int) * 13) % 256
def tl (i k:Nat):Int:=((-1-(i:Int)) * 97+(k:Int) * 13) % 256
def marksO (i n:Nat):List Int:=(List.range n).map fun (k:Nat)=>mk i k
def tailsO (i n:Nat):List Int:=(List.range n).map fun (k:Nat)=>tl i k
theorem marksO_succ (i n:Nat):marksO i (n+1)=marksO i n++[mk i n]:=by unfold marksO;rw [List.range_succ,List.map_append];rfl
theorem tailsO_succ (i n:Nat):tailsO i (n+1)=tailsO i n++[tl i n]:=by unfold tailsO;rw [List.range_succ,List.map_append];rfl
theorem tailsO_len (i n:Nat):(tailsO i n).length=n:=by simp [tailsO]
theorem marksO_at {i n k:Nat}(h:k<n):(marksO i n)[k]?=some (mk i k):=by simp [marksO,h]
theorem tailsO_at {i n k:Nat}(h:k<n):(tailsO i n)[k]?=some (tl i k):=by simp [tailsO,h]
structure ApartO (w:World) (B gs:Nat) (us:List Value) (Xs:List (List Int)):Prop where
 len:Xs.length=us.length
 small:∀zs∈Xs,zs.length≤30000000000
 away:∀u∈us,u.ownBlock≠some gs
 apart:∀(j j':Nat) (u u':Value),us[j]?=some u→us[j']?=some u'→j≠j'→∀b,u.ownBlock=some b→u'.ownBlock≠some b
 lt:gs<w.heap.size
 lo:B≤w.heap.size
structure StO (w W:World) (B gs:Nat) (us:List Value) (Xs Zs:List (List Int)):Prop where
 cell:CellsAt W gs 0 us
 rows:∀(j:Nat) (u:Value) (zs:List Int),us[j]?=some u→Zs[j]?=some zs→OwnsU W B u zs
 lens:Zs.map List.length=Xs.map List.length
 bel:Below B w W
 oth:∀b,b<w.heap.size→(∀u∈us,u.ownBlock≠some b)→W.heap[b]?=w.heap[b]?
 size:W.heap.size=w.heap.size
theorem StO.len {w W:World}{B gs:Nat}{us:List Value}{Xs Zs:List (List Int)}(h:StO w W B gs us Xs Zs):Zs.length=Xs.length:=by
 have:=congrArg List.length h.lens
 simpa using this
theorem StO.small {w W:World}{B gs:Nat}{us:List Value}{Xs Zs:List (List Int)}(h:StO w W B gs us Xs Zs) (hs:∀zs∈Xs,zs.length≤30000000000) {j:Nat}{zs:List Int}(hz:Zs[j]?=some zs):zs.length≤30000000000:=by
 have h1:(Zs.map List.length)[j]?=some zs.length:=by rw [List.getElem?_map,hz];rfl
 rw [h.lens,List.getElem?_map] at h1
 obtain⟨x,hx,e⟩:=Option.map_eq_some_iff.1 h1
 rw [← e]
 exact hs x (List.mem_of_getElem? hx)
theorem StO.store {w W:World}{B gs:Nat}{us:List Value}{Xs Zs:List (List Int)}(ha:ApartO w B gs us Xs) (h:StO w W B gs us Xs Zs) {k g ln c m:Nat}{zs:List Int}(hu:us[k]?=some (.slice (some ⟨g,0,none⟩) ln c)) (hz:Zs[k]?=some zs) (hm:m<ln) (v:Int) :
  StO w (W.setCell ⟨g,m,none⟩ (.int .u8 v)) B gs us Xs (Zs.set k (zs.set m v)):=by
 have ho:=h.rows k _ zs hu hz
 have hg:=ho.at_
 have hkl:k<Zs.length:=(List.getElem?_eq_some_iff.1 hz).1
 have hne:gs≠g:=fun e=>ha.away _ (List.mem_of_getElem? hu) (by rw [e];rfl)
 refine⟨fun j x hx=>?_,fun j u zs' hu' hz'=>?_,?_,h.bel.setCell hg.2.1 _,fun b hb ho=>?_,by simp [World.setCell,h.size]⟩
 ·rw [← h.cell j x hx]
  exact World.cell?_of_block (by simp only [World.setCell,Array.getElem?_modify];rw [if_neg (by omega)])
 ·by_cases hj:j=k
  ·subst hj
   rw [hu] at hu'
   cases hu'
   rw [List.getElem?_set_self hkl] at hz'
   cases hz'
   exact ho.store hm v
  ·rw [List.getElem?_set_ne (by omega)] at hz'
   refine ownsu_kept (h.rows j u zs' hu' hz') (keptv_setCell ?_)
   exact ha.apart k j _ u hu hu' (by omega) g rfl
 ·rw [List.map_set,List.length_set,h.lens.symm]
  apply List.ext_getElem?
  intro i
  by_cases hi:i=k
  ·subst hi
   rw [List.getElem?_set_self (by simpa using hkl),List.getElem?_map,hz]
   rfl
  ·rw [List.getElem?_set_ne (by omega)]
 ·rw [← h.oth b hb ho]
  simp only [World.setCell,Array.getElem?_modify]
  rw [if_neg (by rintro rfl;exact ho _ (List.mem_of_getElem? hu) rfl)]
def DoneO (Zs:List (List Int)) (k:Nat):Prop:=∀(j:Nat) (zs:List Int),j<k→Zs[j]?=some zs→zs=marksO j zs.length
theorem take_set_succ {zs:List Int}{m:Nat}{v:Int}(hm:m<zs.length):(zs.set m v).take (m+1)=zs.take m++[v]:=by
 rw [List.take_add_one,List.take_set_of_le (Nat.le_refl _),List.getElem?_set_self hm]
 rfl
theorem own_addr {W:World}{B:Nat}{u:Value}{zs:List Int}(h:OwnsU W B u zs) (hp:0<zs.length):∃g c,u=.slice (some ⟨g,0,none⟩) zs.length c:=by
 rcases h.cases with ⟨_,e⟩|⟨g,c,e,_⟩
 ·rw [e] at hp;simp at hp
 ·exact⟨g,c,e⟩
structure LongO (w W:World) (B gs:Nat) (us:List Value) (Zs:List (List Int)) (lv:Value) (longs:List Value) (i:Nat):Prop where
 cell:CellsAt W gs 0 us
 own:W.ownsRow w.heap.size 26 1 lv i longs
 rows:∀(j:Nat) (u:Value) (zs:List Int),us[j]?=some u→Zs[j]?=some zs→UAt W u zs∧(i≤j→OwnsU W B u zs)
 done:∀(j:Nat) (u l:Value) (zs:List Int),us[j]?=some u→Zs[j]?=some zs→longs[j]?=some l→UAt W l (zs++tailsO j 16)∧l.ownBlock≠lv.ownBlock∧(∃b,l.ownBlock=some b∧b<W.heap.size)∧(l.ownBlock=u.ownBlock∨∃b,l.ownBlock=some b∧w.heap.size≤b)
 bel:Below B w W
 oth:∀b,b<w.heap.size→(∀u∈us,u.ownBlock≠some b)→W.heap[b]?=w.heap[b]?
theorem StO.long {w W:World}{B gs:Nat}{us:List Value}{Xs Zs:List (List Int)}(h:StO w W B gs us Xs Zs):LongO w W B gs us Zs (.slice none 0 0) [] 0 :=
 ⟨h.cell,⟨rfl,.inl ⟨rfl,rfl⟩⟩,fun j u zs hu hz=>⟨(h.rows j u zs hu hz).ints,fun _=>h.rows j u zs hu hz⟩,fun j u l zs _ _ hl=>by simp at hl,h.bel,h.oth⟩
structure InO (wr W:World) (B:Nat) (u x:Value) (zs:List Int) (k m:Nat):Prop where
 own:OwnsU W B x (zs++tailsO k m)
 read:UAt W u zs
 place:x.ownBlock=u.ownBlock∨∃b,x.ownBlock=some b∧wr.heap.size≤b
 keep:∀b,b<wr.heap.size→u.ownBlock≠some b→W.heap[b]?=wr.heap[b]?
 size:wr.heap.size≤W.heap.size
 same:W.os=wr.os∧W.tape=wr.tape∧W.output=wr.output
theorem InO.start {wr:World}{B:Nat}{u:Value}{zs:List Int}{k:Nat}(h:OwnsU wr B u zs):InO wr wr B u u zs k 0 :=
 ⟨by simpa [tailsO] using h,h.ints,.inl rfl,fun _ _ _=>rfl,Nat.le_refl _,rfl,rfl,rfl⟩
theorem uat_empty {W W':World}{u:Value}(h:UAt W u []):UAt W' u []:=by
 obtain⟨o,c,e,h0,_⟩:=h
 exact⟨o,c,e,h0,fun hne=>absurd rfl hne⟩
theorem read_of_own {W:World}{B g c:Nat}{v:Value}{zs r:List Int}(h:OwnsU W B v (zs++r)) (hv:v.ownBlock=some g):UAt W (.slice (some ⟨g,0,none⟩) zs.length c) zs:=by
 rcases h.cases with ⟨e,_⟩|⟨g',c',e,_,_,_,_,hH⟩
 ·rw [e] at hv;cases hv
 ·rw [e] at hv
  simp only [Value.ownBlock,Option.some.injEq] at hv
  subst hv
  refine UAt.mk fun i z hz=>?_
  rw [Nat.zero_add]
  exact (hH i z (by rw [List.getElem?_append_left (List.getElem?_eq_some_iff.1 hz).1];exact hz)).1
theorem InO.push {wr W w':World}{B:Nat}{u x v':Value}{zs:List Int}{k m:Nat}{O:Obj}(h0:OwnsU wr B u zs) (h:InO wr W B u x zs k m) (ho:OwnsU w' B v' ((zs++tailsO k m)++[tl k m]))
  (hp:(v'.ownBlock=x.ownBlock∧(W.alloc O).grownBy w' x.ownBlock)∨(∃b,v'.ownBlock=some b∧(W.alloc O).heap.size≤b)∧(W.alloc O).grownBy w' none):InO wr w' B u v' zs k (m+1):=by
 have hsz:(W.alloc O).heap.size=W.heap.size+1:=by simp
 have hxl:=h.own.lt
 have hul:=h0.lt
 have hs:=h.size
 have own':OwnsU w' B v' (zs++tailsO k (m+1)):=by rw [tailsO_succ,← List.append_assoc];exact ho
 have kept:(row:Option Nat)→(W.alloc O).grownBy w' row→(∀b,u.ownBlock=some b→row≠some b)→KeptV u W w':=fun row hg hne =>
  (keptv_alloc O (fun b hb=>Nat.lt_of_lt_of_le (hul b hb) hs)).trans (keptv_grown hg (fun b hb=>by have:=hul b hb;omega) hne)
 have keep_:(row:Option Nat)→(W.alloc O).grownBy w' row→(∀b,row=some b→u.ownBlock=some b∨wr.heap.size≤b)→∀b,b<wr.heap.size→u.ownBlock≠some b→w'.heap[b]?=wr.heap[b]?:=fun row hg hne b hb hu=>by
  rw [hg.block b (by omega) (fun e=>by rcases hne b e.symm with e2 | e2<;>first | exact hu e2 | omega),(Olds.alloc W O).2 b (by omega)]
  exact h.keep b hb hu
 rcases hp with ⟨e1,hg⟩|⟨⟨b,e1,hb⟩,hg⟩
 ·refine⟨own',?_,by rw [e1];exact h.place,keep_ _ hg (fun b hb=>?_),by have:=hg.size;omega,by rw [hg.os,hg.tape,hg.output];exact h.same⟩
  ·by_cases hxu:x.ownBlock=u.ownBlock
   ·by_cases hz:0<zs.length
    ·obtain⟨g,c,rfl⟩:=own_addr h0 hz
     exact read_of_own own' (by rw [e1,hxu];rfl)
    ·have:zs=[]:=List.eq_nil_of_length_eq_zero (by omega)
     subst this
     exact uat_empty h.read
   ·exact uat_kept h.read (kept _ hg fun b hb e=>by
     rcases h.place with e2|⟨b',e2,h2⟩
     ·exact hxu e2
     ·rw [e2] at e
      cases e
      have:=hul _ hb
      omega)
  ·rcases h.place with e2|⟨b',e2,h2⟩
   ·exact .inl (by rw [← e2];exact hb)
   ·rw [e2] at hb
    cases hb
    exact .inr h2
 ·exact⟨own',uat_kept h.read (kept _ hg fun b _ e=>by cases e),.inr ⟨b,e1,by omega⟩,keep_ _ hg (fun b hb=>by cases hb),by have:=hg.size;omega,by rw [hg.os,hg.tape,hg.output];exact h.same⟩
theorem LongO.step {w wr W w4:World}{B gs k gg cap:Nat}{us longs:List Value}{Xs Zs:List (List Int)}{lv u x:Value}{zs:List Int}{O:Obj}(ha:ApartO w B gs us Xs) (hub:∀(j:Nat) (u:Value),us[j]?=some u→∀b,u.ownBlock=some b→B≤b∧b<w.heap.size)
  (h:LongO w wr B gs us Zs lv longs k) (hu:us[k]?=some u) (hz:Zs[k]?=some zs) (hi:InO wr W B u x zs k 16) (hxb:∃b,x.ownBlock=some b) (hll:longs.length=k)
  (own4:w4.ownsRow w.heap.size 26 1 (.slice (some ⟨gg,0,none⟩) (k+1) cap) (k+1) (longs++[x])) (grow:(W.alloc O).grownBy w4 lv.ownBlock) (hat:lv.ownBlock=some gg∨gg=W.heap.size+1) :
  LongO w w4 B gs us Zs (.slice (some ⟨gg,0,none⟩) (k+1) cap) (longs++[x]) (k+1):=by
 have hsz:(W.alloc O).heap.size=W.heap.size+1:=by simp
 have hws:w.heap.size≤wr.heap.size:=h.bel.size
 have hlv:∀b,lv.ownBlock=some b→w.heap.size≤b∧b<wr.heap.size:=fun b hb=>ownsRow_block h.own hb
 have hs:=hi.size
 have hku:=hub k u hu
 have kept:∀v:Value,(∀b,v.ownBlock=some b→b<wr.heap.size∧u.ownBlock≠some b∧lv.ownBlock≠some b)→KeptV v wr w4:=fun v hv b hb=>by
  obtain⟨h1,h2,h3⟩:=hv b hb
  rw [grow.block b (by omega) (fun e=>h3 e.symm),(Olds.alloc W O).2 b (by omega)]
  exact hi.keep b h1 h2
 have kept2:∀v:Value,(∀b,v.ownBlock=some b→b<W.heap.size∧lv.ownBlock≠some b)→KeptV v W w4:=fun v hv b hb=>by
  obtain⟨h1,h3⟩:=hv b hb
  rw [grow.block b (by omega) (fun e=>h3 e.symm)]
  exact (Olds.alloc W O).2 b h1
 have old_u:∀(j:Nat) (u':Value),us[j]?=some u'→j≠k→∀b,u'.ownBlock=some b→b<wr.heap.size∧u.ownBlock≠some b∧lv.ownBlock≠some b:=fun j u' hu' hj b hb=>by
  have h1:=(hub j u' hu' b hb).2
  exact⟨by omega,ha.apart j k u' u hu' hu hj b hb,fun e=>by have:=(hlv b e).1;omega⟩
 refine⟨fun j v hv=>?_,own4,fun j u' zs' hu' hz'=>?_,fun j u' l zs' hu' hz' hl=>?_,?_,fun b hb ho=>?_⟩
 ·rw [← h.cell j v hv]
  refine World.cell?_of_block ?_
  have:=kept (.slice (some ⟨gs,0,none⟩) 0 0) (fun b hb=>by
   simp only [Value.ownBlock,Option.some.injEq] at hb
   subst hb
   have:=ha.lt
   exact⟨by omega,ha.away u (List.mem_of_getElem? hu),fun e=>by have:=(hlv _ e).1;omega⟩) gs rfl
  exact this
 ·by_cases hj:j=k
  ·subst hj
   rw [hu] at hu'
   cases hu'
   rw [hz] at hz'
   cases hz'
   exact⟨uat_kept hi.read (kept2 u fun b hb=>⟨by have:=(hku b hb).2;omega,fun e=>by have:=(hlv b e).1;have:=(hku b hb).2;omega⟩),fun hh=>by omega⟩
  ·obtain⟨h1,h2⟩:=h.rows j u' zs' hu' hz'
   exact⟨uat_kept h1 (kept u' (old_u j u' hu' hj)),fun hh=>ownsu_kept (h2 (by omega)) (kept u' (old_u j u' hu' hj))⟩
 ·have hw4:W.heap.size+1≤w4.heap.size:=by have:=grow.size;omega
  by_cases hj:j<k
  ·rw [List.getElem?_append_left (by omega)] at hl
   obtain⟨h1,h2,⟨b,h3,h4⟩,h5⟩:=h.done j u' l zs' hu' hz' hl
   have hul:u.ownBlock≠some b:=by
    rcases h5 with e|⟨b',e,hb'⟩
    ·exact ha.apart j k u' u hu' hu (by omega) b (by rw [← e];exact h3)
    ·intro e2
     rw [h3] at e
     cases e
     have:=(hku _ e2).2
     omega
   refine⟨uat_kept h1 (kept l fun b' hb'=>by
    rw [h3] at hb'
    cases hb'
    exact⟨h4,hul,fun e=>h2 (by rw [h3,e])⟩),?_,⟨b,h3,by omega⟩,h5⟩
   rw [h3]
   intro e
   simp only [Value.ownBlock,Option.some.injEq] at e
   rcases hat with hat | hat
   ·exact h2 (by rw [h3,hat,e])
   ·omega
  ·have hjk:j=k:=by
    have:=(List.getElem?_eq_some_iff.1 hl).1
    simp at this
    omega
   subst hjk
   rw [List.getElem?_append_right (by omega),hll,Nat.sub_self] at hl
   cases hl
   rw [hu] at hu'
   cases hu'
   rw [hz] at hz'
   cases hz'
   obtain⟨b,hb⟩:=hxb
   have hbl:=hi.own.lt b hb
   have hne:lv.ownBlock≠some b:=fun e=>by
    have h6:=hlv b e
    rcases hi.place with e2|⟨b',e2,h7⟩
    ·have:=(hku b (by rw [← e2];exact hb)).2
     omega
    ·rw [hb] at e2
     cases e2
     omega
   refine⟨uat_kept hi.own.ints (kept2 x fun b' hb'=>by rw [hb] at hb';cases hb';exact⟨hbl,hne⟩),?_,⟨b,hb,by omega⟩,?_⟩
   ·rw [hb]
    intro e
    simp only [Value.ownBlock,Option.some.injEq] at e
    rcases hat with hat | hat
    ·exact hne (by rw [hat,e])
    ·omega
   ·rcases hi.place with e2|⟨b',e2,h7⟩
    ·exact .inl e2
    ·exact .inr ⟨b',e2,by omega⟩
 ·have b1:Below B w W:=⟨hi.same.1.trans h.bel.os,hi.same.2.1.trans h.bel.tape,hi.same.2.2.trans h.bel.output,by omega,fun b hb=>by
   rw [hi.keep b (by have:=ha.lo;omega) (fun e=>by have:=(hku b e).1;omega)]
   exact h.bel.block b hb⟩
  exact (b1.alloc (by have:=ha.lo;omega) O).grown grow (by have:=ha.lo;omega) (fun b hb=>by have:=(hlv b hb).1;have:=ha.lo;omega)
 ·rw [← h.oth b hb ho]
  exact kept (.slice (some ⟨b,0,none⟩) 0 0) (fun b' hb'=>by
   simp only [Value.ownBlock,Option.some.injEq] at hb'
   subst hb'
   exact⟨by omega,ho u (List.mem_of_getElem? hu),fun e=>by have:=(hlv _ e).1;omega⟩) b rfl
end Go.Proofs.YtbecggfbblnglaaGreatDoor
namespace Go.Proofs.YtbecggfbblnglaaGreatDoor
open Go Go.RowKit Go.Lib Go.Ix
set_option maxRecDepth 20000 in
set_option maxHeartbeats 4000000 in
theorem own_ints {B gs n cap:Nat}{us:List Value}{Xs:List (List Int)}(w:World) (hul:us.length=n) (hn:n≤3) (ha:ApartO w B gs us Xs) (hs:StO w w B gs us Xs Xs) (hub:∀(j:Nat) (u:Value),us[j]?=some u→∀b,u.ownBlock=some b→B≤b∧b<w.heap.size) :
  Calls Tryz.prog 32 #[.slice (some ⟨gs,0,none⟩) n cap] w fun e w'=>e=.returned (.bool true)∧Below B w w'∧∀b,b<w.heap.size→(∀u∈us,u.ownBlock≠some b)→w'.heap[b]?=w.heap[b]?:=by
 obtain⟨i0,hi0,hz0,hz1,hz2⟩:=info_parts Tryz.info26
 have Hub:=Lib.hid hub
 clear hub
 have Ha:=Lib.hid ha
 have Hs:=Lib.hid hs
 have Hul:=Lib.hid hul
 clear ha hs hul
 go_enter Tryz.func32,Tryz.ntmps32
 go_wp2_with fail
 go_loopw [3] (fun i wr=>∃(k:Nat) (Zs:List (List Int)),i=.int .i64 k∧k≤n∧StO w wr B gs us Xs Zs∧DoneO Zs k) (fun i _=>n-(intOf i).toNat)
 case atStart=>exact⟨0,Xs,rfl,Nat.zero_le _,Hs.out,fun j zs hj=>by omega⟩
 case round =>
  obtain⟨k,Zs,rfl,hk,hst,hdn⟩:=hrel
  have Hst:=Lib.hid hst
  have Hdn:=Lib.hid hdn
  clear hst hdn
  by_cases hlt:k<n
  ·obtain⟨u,hu⟩:∃u,us[k]?=some u:=⟨_,List.getElem?_eq_getElem (by rw [Hul.out];exact hlt)⟩
   obtain⟨zs,hzs⟩:∃zs,Zs[k]?=some zs:=⟨_,List.getElem?_eq_getElem (by rw [Hst.out.len,Ha.out.len,Hul.out];exact hlt)⟩
   obtain⟨o,c,rfl⟩:=(Hst.out.rows k u zs hu hzs).shape
   have Hu:=Lib.hid hu
   have Hzs:=Lib.hid hzs
   have hzl:=Hst.out.small Ha.out.small hzs
   generalize hln:zs.length=ln at *
   have Hln:=Lib.hid hln
   clear hu hzs hln
   go_wp2_with fail
   go_loopw [4] (fun i wr2=>∃(m:Nat) (Ys:List (List Int)) (ys:List Int),i=.int .i64 m∧m≤ln∧StO w wr2 B gs us Xs Ys∧DoneO Ys k∧Ys[k]?=some ys∧ys.length=ln∧ys.take m=marksO k m) (fun i _=>ln-(intOf i).toNat)
   case atStart=>exact⟨0,Zs,zs,rfl,Nat.zero_le _,Hst.out,Hdn.out,Hzs.out,Hln.out,by simp [marksO]⟩
   case round =>
    obtain⟨m,Ys,ys,rfl,hm,hst2,hdn2,hys,hyl,htk⟩:=hrel
    have Hst2:=Lib.hid hst2
    have Hdn2:=Lib.hid hdn2
    have Hys:=Lib.hid hys
    have Hyl:=Lib.hid hyl
    have Htk:=Lib.hid htk
    have hcu:wr.cell? ⟨gs,k,none⟩=some (.slice o ln c):=by
     have:=hst2.cell k _ Hu.out
     rwa [Nat.zero_add] at this
    clear hst2 hdn2 hys hyl htk
    by_cases hlm:m<ln
    ·obtain⟨g,c',e⟩:=own_addr (Hst2.out.rows k _ ys Hu.out Hys.out) (by rw [Hyl.out];omega)
     simp only [Value.slice.injEq] at e
     obtain⟨rfl,-,rfl⟩:=e
     obtain⟨z,hz⟩:∃z,ys[m]?=some z:=⟨_,List.getElem?_eq_getElem (by rw [Hyl.out];exact hlm)⟩
     obtain⟨hcz,hfz⟩:=(Hst2.out.rows k _ ys Hu.out Hys.out).cellAt hz
     clear hz
     have Hnx:Hid (∀v:Int,StO w (wr.setCell ⟨g,m,none⟩ (.int .u8 v)) B gs us Xs (Ys.set k (ys.set m v))):=Lib.hid (fun v=>Hst2.out.store Ha.out Hu.out Hys.out hlm v)
     have Hset:Hid (∀v:Int,(Ys.set k (ys.set m v))[k]?=some (ys.set m v)):=Lib.hid (fun v=>List.getElem?_set_self (List.getElem?_eq_some_iff.1 Hys.out).1)
     have Hdn3:Hid (∀v:Int,DoneO (Ys.set k (ys.set m v)) k):=Lib.hid (fun v j zs' hj hz'=>by
      rw [List.getElem?_set_ne (by omega)] at hz'
      exact Hdn2.out j zs' hj hz')
     go_wp2_with fail
     go_roundw
     case rel=>exact⟨m+1,_,_,by go_num,by omega,Hnx.out _,Hdn3.out _,Hset.out _,by rw [List.length_set];exact Hyl.out,by rw [take_set_succ (by rw [Hyl.out];exact hlm),Htk.out,marksO_succ];rfl⟩
     case measure=>simp [intOf];omega
    ·have Hdone:Hid (DoneO Ys (k+1)):=Lib.hid (fun j zs' hj hz'=>by
      by_cases hjk:j=k
      ·subst hjk
       rw [Hys.out] at hz'
       cases hz'
       have h:=Htk.out
       rw [List.take_of_length_le (by rw [Hyl.out];omega)] at h
       rw [Hyl.out]
       have:m=ln:=by omega
       rw [this] at h
       exact h
      ·exact Hdn2.out j zs' (by omega) hz')
     go_wp2_with fail
     go_roundw
     case rel=>exact⟨k+1,Ys,by go_num,by omega,Hst2.out,Hdone.out⟩
     case measure=>simp [intOf];omega
  ·obtain rfl:n=k:=by omega
   have Hlg0:=Lib.hid Hst.out.long
   go_wp2_with fail
   go_loopw [5,6] (fun lv i wr2=>∃(k:Nat) (lo:Option Addr) (lc:Nat) (longs:List Value),i=.int .i64 k∧k≤n∧lv=.slice lo k lc∧longs.length=k∧LongO w wr2 B gs us Zs (.slice lo k lc) longs k) (fun _ i _=>n-(intOf i).toNat)
   case atStart=>exact⟨0,none,0,[],rfl,Nat.zero_le _,rfl,rfl,Hlg0.out⟩
   case round =>
    obtain⟨i,lo,lc,longs,rfl,hin,rfl,hll,hlg⟩:=hrel
    have Hlg:=Lib.hid hlg
    have Hll:=Lib.hid hll
    have hws:=hlg.bel.size
    clear hlg hll
    by_cases hlt2:i<n
    ·obtain⟨u,hu⟩:∃u,us[i]?=some u:=⟨_,List.getElem?_eq_getElem (by rw [Hul.out];exact hlt2)⟩
     obtain⟨zs,hzs⟩:∃zs,Zs[i]?=some zs:=⟨_,List.getElem?_eq_getElem (by rw [Hst.out.len,Ha.out.len,Hul.out];exact hlt2)⟩
     have Hou:Hid (OwnsU wr B u zs):=Lib.hid ((Hlg.out.rows i u zs hu hzs).2 (Nat.le_refl _))
     obtain⟨o,c,hushape⟩:=Hou.out.shape
     have hcu:wr.cell? ⟨gs,i,none⟩=some u:=by
      have:=Hlg.out.cell i _ hu
      rwa [Nat.zero_add] at this
     have hzl:=Hst.out.small Ha.out.small hzs
     have Hu:=Lib.hid hu
     have Hzs:=Lib.hid hzs
     generalize hln:zs.length=ln at *
     subst hushape
     have Hln:=Lib.hid hln
     have hBs:B≤wr.heap.size:=by have:=Ha.out.lo;omega
     clear hu hzs hln
     go_wp2_with fail
     go_loopw [7,8] (fun xv j wr2=>∃(m:Nat) (xo:Option Addr) (xc:Nat),j=.int .i64 m∧m≤16∧xv=.slice xo (ln+m) xc∧InO wr wr2 B (.slice o ln c) (.slice xo (ln+m) xc) zs i m∧(0<m→∃b,(Value.slice xo (ln+m) xc).ownBlock=some b)) (fun _ j _=>16-(intOf j).toNat)
     case atStart=>exact⟨0,o,c,rfl,by omega,rfl,InO.start Hou.out,fun h=>by omega⟩
     case round =>
      obtain⟨m,xo,xc,rfl,hm,rfl,hin2,hxb⟩:=hrel
      have Hin:=Lib.hid hin2
      have Hxb:=Lib.hid hxb
      have hs2:=hin2.size
      clear hin2 hxb
      by_cases hlm:m<16
      ·have htl:(zs++tailsO i m).length=ln+m:=by rw [List.length_append,tailsO_len,Hln.out]
       go_wp2_with (at_builtin;refine wpList_push rfl _ _ rfl B (.slice xo (ln+m) xc) (zs++tailsO i m) (tl i m) ⟨wr.heap.size,0,none⟩ 1 rfl rfl (ownsu_kept Hin.out.own (keptv_alloc _ Hin.out.own.lt)) (by simp;omega) (by simp [Addr.add,tl]) (by rw [htl];omega) ?_;intro v' w' hown hp)
       obtain⟨xo2,xc2,rfl⟩:∃xo2 xc2,v'=.slice xo2 (ln+(m+1)) xc2:=by
        obtain⟨a,b,e⟩:=hown.shape
        exact⟨a,b,by rw [e];congr 1;rw [List.length_append,htl];simp;omega⟩
       have Hnx:=Lib.hid (InO.push Hou.out Hin.out hown hp)
       have Hxb2:Hid (∃b,(Value.slice xo2 (ln+(m+1)) xc2).ownBlock=some b):=Lib.hid (by
        rcases hown.cases with ⟨_,e⟩|⟨g,cp,e,_⟩
        ·simp at e
        ·exact⟨g,by rw [e];rfl⟩)
       clear hown hp
       go_wp2_with fail
       go_roundw
       case rel=>exact⟨m+1,xo2,xc2,by go_num,by omega,rfl,Hnx.out,fun _=>Hxb2.out⟩
       case measure=>simp [intOf];omega
      ·obtain rfl:m=16:=by omega
       have Hown2:Hid (wr.ownsRow w.heap.size 26 1 (.slice lo i lc) i longs):=Lib.hid (by
        have h:=Hlg.out.own
        obtain⟨k1,k2⟩:=h
        refine⟨k1,?_⟩
        rcases k2 with k2|⟨g,cp,cur,e,q1,q2,q3⟩
        ·exact .inl k2
        ·refine .inr ⟨g,cp,cur,e,q1,?_,q3⟩
         rw [Hin.out.keep g (ownsRow_block Hlg.out.own (by rw [e];rfl)).2 (fun e2=>by have:=(Hub.out i _ Hu.out g e2).2;omega)]
         exact q2)
       have hxb:=Hxb.out (by omega)
       have Hxb3:=Lib.hid hxb
       clear hxb
       go_wp2_with (at_builtin;refine wpList_append_lies _ rfl _ _ _ rfl w.heap.size 26 i0 _ 1 24 Tryz.underlying34 hi0 hz0 hz1 hz2 rfl Nat.one_pos (.slice lo i lc) i longs rfl (ownsRow_olds Hown2.out (Olds.alloc _ _)) ⟨wr.heap.size,0,none⟩ 1 1 [.slice xo (ln+16) xc] rfl rfl (World.news_of_block (cs:=#[.slice xo (ln+16) xc]) (t:=26) (fr:=(0,0)) (heap_alloc_new wr _)) (by simp [Value.oneCell']) Nat.one_pos (by unfold maxLen;omega) (by omega) (by simp;omega) (wr.heap.size+1) (by simp) ?_;intro gg cap2 w4 hown4 hgrow hat hlt4)
       have Hlg2:=Lib.hid (Hlg.out.step Ha.out Hub.out Hu.out Hzs.out Hin.out Hxb3.out Hll.out hown4 hgrow hat)
       clear hown4 hgrow hat
       go_wp2_with fail
       go_roundw
       case rel=>exact⟨i+1,_,_,_,by go_num,by omega,rfl,by rw [List.length_append,Hll.out];rfl,Hlg2.out⟩
       case measure=>simp [intOf];omega
    ·obtain rfl:n=i:=by omega
     go_wp2_with fail
     go_loop [9] (fun iv=>∃i:Nat,iv=.int .i64 i∧i≤n) (fun iv=>n-(intOf iv).toNat)
     case atStart=>exact⟨0,rfl,Nat.zero_le _⟩
     case round =>
      obtain⟨i,rfl,hin3⟩:=hrel
      by_cases hlt3:i<n
      ·obtain⟨u,hu⟩:∃u,us[i]?=some u:=⟨_,List.getElem?_eq_getElem (by rw [Hul.out];exact hlt3)⟩
       obtain⟨zs,hzs⟩:∃zs,Zs[i]?=some zs:=⟨_,List.getElem?_eq_getElem (by rw [Hst.out.len,Ha.out.len,Hul.out];exact hlt3)⟩
       obtain⟨l,hl⟩:∃l,longs[i]?=some l:=⟨_,List.getElem?_eq_getElem (by rw [Hll.out];exact hlt3)⟩
       have hui:=Lib.hid (Hlg.out.rows i u zs hu hzs).1
       have hli:=(Hlg.out.done i u l zs hu hzs hl).1
       have hzm:=Lib.hid (Hdn.out i zs hlt3 hzs)
       have hzl:=Hst.out.small Ha.out.small hzs
       have hcu:wr.cell? ⟨gs,i,none⟩=some u:=by
        have:=Hlg.out.cell i _ hu
        rwa [Nat.zero_add] at this
       obtain⟨glv,rfl,hcl⟩:∃glv,lo=some ⟨glv,0,none⟩∧wr.cell? ⟨glv,i,none⟩=some l:=by
        rcases Hlg.out.own.2 with ⟨e,h0⟩|⟨g,cp,cur,e,q1,q2,q3,q4,q5,q6⟩
        ·omega
        ·simp only [Value.slice.injEq,true_and] at e
         refine⟨g,e.1,?_⟩
         have h1:=hl
         rw [← q6,List.getElem?_take] at h1
         split at h1
         ·simp only [Array.getElem?_toList] at h1
          simp [World.cell?,q2,h1]
         ·cases h1
       obtain⟨bl,offl,cl,rfl,hcells⟩:∃bl offl cl,l=.slice (some ⟨bl,offl,none⟩) (zs.length+16) cl∧UCells wr bl offl (zs++tailsO i 16):=by
        rcases hli.cases with ⟨_,_,_,e,_⟩|⟨bl,offl,cl,e,_,hc⟩
        ·have:=congrArg List.length e
         rw [List.length_append,tailsO_len] at this
         simp at this
        ·exact⟨bl,offl,cl,by rw [e,List.length_append,tailsO_len],hc⟩
       have Hcells:=Lib.hid hcells
       obtain⟨uo,uc,hu2,_⟩:=hui.out
       subst hu2
       clear hu hzs hl hli hcells
       generalize hln:zs.length=ln at *
       have Hln:=Lib.hid hln
       clear hln
       go_wp2_with fail
       go_loop [11] (fun kv=>∃k:Nat,kv=.int .i64 k∧k≤ln) (fun kv=>ln-(intOf kv).toNat)
       case atStart=>exact⟨0,rfl,Nat.zero_le _⟩
       case round =>
        obtain⟨k,rfl,hk3⟩:=hrel
        by_cases hkl:k<ln
        ·have hzk:zs[k]?=some (mk i k):=by rw [hzm.out];exact marksO_at hkl
         obtain⟨bu,offu,rfl,hcz⟩:∃bu offu,uo=some ⟨bu,offu,none⟩∧wr.cell? ⟨bu,offu+k,none⟩=some (.int .u8 (mk i k)):=by
          rcases hui.out.cases with ⟨_,_,_,e,_⟩|⟨bu,offu,c',e,_,hc⟩
          ·rw [e] at hzk;simp at hzk
          ·simp only [Value.slice.injEq] at e
           exact⟨bu,offu,e.1,hc k _ hzk⟩
         have hcz2:wr.cell? ⟨bl,offl+k,none⟩=some (.int .u8 (mk i k)):=Hcells.out k _ (by rw [List.getElem?_append_left (by rw [Hln.out];exact hkl)];exact hzk)
         unfold mk at hcz hcz2
         clear hzk
         go_wp2_with fail
         go_round
         case rel=>exact⟨k+1,by go_num,by omega⟩
         case measure=>simp [intOf];omega
        ·go_wp2_with fail
         go_loop [12] (fun kv=>∃k:Nat,kv=.int .i64 k∧k≤16) (fun kv=>16-(intOf kv).toNat)
         case atStart=>exact⟨0,rfl,by omega⟩
         case round =>
          obtain⟨k2,rfl,hk4⟩:=hrel
          by_cases hkl2:k2<16
          ·have hcz2:wr.cell? ⟨bl,offl+(ln+k2),none⟩=some (.int .u8 (tl i k2)):=Hcells.out (ln+k2) _ (by rw [List.getElem?_append_right (by rw [Hln.out];omega),Hln.out,Nat.add_sub_cancel_left];exact tailsO_at hkl2)
           unfold tl at hcz2
           go_wp2_with fail
           go_round
           case rel=>exact⟨k2+1,by go_num,by omega⟩
           case measure=>simp [intOf];omega
          ·go_wp2_with fail
           go_round
           case rel=>exact⟨i+1,by go_num,by omega⟩
           case measure=>simp [intOf];omega
      ·go_wp2_with fail
       go_ret
       exact⟨rfl,Hlg.out.bel,Hlg.out.oth⟩
end Go.Proofs.YtbecggfbblnglaaGreatDoor
