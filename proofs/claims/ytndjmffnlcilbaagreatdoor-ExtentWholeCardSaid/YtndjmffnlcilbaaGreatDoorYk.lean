/- Contracts over this program. Their conditions: the slices read as the lists that are named, and lie within the sizes that are named. -/
import Derived.Test.YtndjmffnlcilbaaGreatDoorYi
import Derived.Maps.RangeWalk
import Derived.Test.YtndjmffnlcilbaaGreatDoorYj
import Derived.Test.YtndjmffnlcilbaaGreatDoorYh
set_option linter.unusedSimpArgs false
set_option linter.unusedVariables false
set_option linter.deprecated false
set_option linter.unnecessarySimpa false
namespace Go.Proofs.YtndjmffnlcilbaaGreatDoor
open Go Go.RowKit Go.Ix Go.Ext Go.Maps
theorem key_inv {key:Value}{kl:Lit}(h:keyOf Tryz.prog 9 key=some kl):∃x:Txt,key=encStr x∧kl=.string x:=by
 cases key with
 | string s =>
  refine⟨s.data.toList,by simp [encStr],?_⟩
  simp [keyOf,Tryz.underlying9,mapKey] at h
  exact h.2.symm
 | _=>simp [keyOf,Tryz.underlying9,mapKey] at h
def NewRel (w A:World) (nb nm:Nat) (D:DataW Value) (now:Fs) (f:Fi) (cnt:Nat) (wr:World):Prop :=
 ∃left,wr.ranges Tryz.prog 9 RV nb A.heap.size nm D left cnt∧(∀p∈now,left (.string p.1)=false→meets f p.2=false)∧Below w.heap.size w wr∧Below A.heap.size A wr
theorem NewRel.left {w A:World}{nb nm:Nat}{D:DataW Value}{now:Fs}{f:Fi}{cnt:Nat}{wr:World}(h:NewRel w A nb nm D now f cnt wr):wr.rangeLeft nb A.heap.size=cnt:=by
 obtain⟨left,h,_⟩:=h
 exact h.left_eq
theorem NewRel.drewN {w A:World}{nb nm:Nat}{D:DataW Value}{now:Fs}{f:Fi}{cnt:Nat}{wr:World}(h:NewRel w A nb nm D now f cnt wr) (q:Nat):NewRel w A nb nm D now f cnt (wr.drewN q):=by
 obtain⟨left,h1,h2,h3,h4⟩:=h
 exact⟨left,h1,h2,below_drewN h3 q,below_drewN h4 q⟩
set_option maxRecDepth 20000 in
set_option maxHeartbeats 2000000 in
theorem isNew_any {w:World}{B tb nb nm sb:Nat}{now:Fs}{c0 c1 c2 c4 c5 c6 c8 v:Value}(f:Fi) (hsb:w.heap[sb]?=some (.cells #[c0,c1,c2,.map (some nb),c4,c5,c6,.bool false,c8] 69 (0,0))) (h:SMap w B tb nb nm now) (hnm:nm≤1000000) (hr:w.ownsRow B 3 1 v f.secs.length (nats f.secs)) :
  Calls Tryz.prog 43 #[.pointer (some ⟨sb,0,none⟩),fval f v] w fun e w'=>e=.returned (.bool (isNew now f))∧Below w.heap.size w w':=by
 obtain⟨fo,fc,rfl,_⟩:=ownsRow_shape hr
 have h3:w.cell? ⟨sb,3,none⟩=some (.map (some nb)):=by rw [cell_of_heap hsb];rfl
 have H:=Lib.hid h
 have Hr:=Lib.hid hr
 have Hsb:=Lib.hid hsb
 obtain⟨D,hown,hnd,hD⟩:=h
 have HD:=Lib.hid hD
 obtain⟨A,hA⟩:∃A:World,A=w.alloc (.cells #[.bool f.log,.int .i64 (f.size:Nat),.int .u32 f.sum,.slice fo f.secs.length fc] 91):=⟨_,rfl⟩
 have hoA:Olds w A:=by rw [hA];exact Olds.alloc _ _
 have hownA:A.ownsMap Tryz.prog 9 RV nb nm D:=by rw [hA];exact hown.alloc _
 have hAs:A.heap.size=w.heap.size+1:=by rw [hA];simp
 have hA3:A.cell? ⟨sb,3,none⟩=some (.map (some nb)):=hoA.cell h3
 have HA:=Lib.hid hA
 have HoA:=Lib.hid hoA
 clear hsb hr hD hA
 unfold fval
 go_enter Tryz.func43,Tryz.ntmps43
 go_upto_region 1 with fail
 rw [← HA.out]
 go_wp2_with (at_range;refine wpList_range_own _ rfl _ 65 rfl 9 91 Tryz.lawT Tryz.underlying65 RV nb nm D rfl hownA ?_;intro w0 hrg0 hg0 hs0)
 go_frame
 have HBA:Hid (Below w.heap.size w A):=Lib.hid (by rw [HA.out];exact (Below.refl _ _).alloc (Nat.le_refl _) _)
 have HB0:Hid (Below w.heap.size w w0):=Lib.hid (HBA.out.grown hg0 (by omega) (by simp))
 have HA0':Hid (Below A.heap.size A w0):=Lib.hid ((Below.refl _ A).grown hg0 (Nat.le_refl _) (by simp))
 have Hrg0:=Lib.hid hrg0
 clear hrg0 hg0
 go_loopw [6] (fun _ wr=>∃cnt,NewRel w A nb nm D now f cnt wr) (fun _ wr=>wr.rangeLeft nb A.heap.size)
 case atStart =>
  refine⟨_,_,Hrg0.out,fun p hp hl=>?_,HB0.out,HA0'.out⟩
  exfalso
  have hm:=mem_look hnd (show (p.1,p.2)∈now from hp)
  obtain⟨v,_,_,hat⟩:=(HD.out p.1).2 p.2 hm
  rw [has_true_of_atKey hat] at hl
  cases hl
 case round =>
  obtain⟨cnt,hrel⟩:=hrel
  have Hrel:=Lib.hid hrel
  obtain⟨left,hrg,hmt,hb,hb2⟩:=hrel
  have HBA0:=Lib.hid hb2
  have hsz2:=hb2.size
  have Hrg:=Lib.hid hrg
  have Hmt:=Lib.hid hmt
  have Hb:=Lib.hid hb
  have hsz:=hb.size
  clear hmt hb hb2
  go_wp2_with (at_next;refine wpList_next_ranges _ rfl _ rfl 9 Tryz.lawT RV encStr id (fun key kl h=>(key_inv h).imp fun x hx=>hx.1) (fun v y _=>⟨v,rfl⟩) nb A.heap.size nm D left cnt rfl hrg ?_ ?_)
  case refine_1 =>
   intro _ hl0
   have HT:Hid (isNew now f=true):=Lib.hid (by
    unfold isNew
    rw [List.all_eq_true]
    intro p hp
    rw [Hmt.out p hp (hl0 _)]
    rfl)
   clear hl0
   go_wp2_with fail
   go_ret
   exact⟨by rw [HT.out];rfl,Hb.out⟩
  case refine_2 =>
   intro x c kl y1 y2 w' cnt' hkey hlk hRV hat hrg1 hlt hg1 hs1 hen
   obtain⟨x',hxx,rfl⟩:=key_inv hkey
   obtain rfl:x=x':=by simpa [encStr] using hxx
   have hhas:=has_true_of_atKey hat
   obtain⟨g,hg⟩:∃g,Ext.look now x=some g:=by
    cases hl:Ext.look now x with
    | none =>
     rw [(HD.out x).1 hl] at hhas
     cases hhas
    | some g=>exact⟨g,rfl⟩
   obtain⟨r,hrr,hne,hat2⟩:=(HD.out x).2 g hg
   obtain rfl:c=fval g r:=by
    simp only [RV,Option.some.injEq,Prod.mk.injEq] at hRV
    have h1:=hat (.held c)
    rw [hat2,← hRV.1] at h1
    simpa using h1.symm
   obtain⟨ro,rc,rfl,_⟩:=ownsRow_shape hrr
   have hrgn:A.heap.size≤wr.heap.size:=by
    have:=hrg.lt
    omega
   have HBA1:Hid (Below A.heap.size A w'):=Lib.hid (HBA0.out.grown hg1 hsz2 (by intro b hb;cases hb;omega))
   have HB1:Hid (Below w.heap.size w w'):=Lib.hid (Hb.out.grown hg1 hsz (by intro b hb;cases hb;omega))
   have Hrr:=Lib.hid hrr
   have Hrg1:=Lib.hid hrg1
   have HM1:Hid (∀p∈now,(left (.string p.1) && !(Lit.string p.1).sameKey (.string x))=false→meets f g=false→meets f p.2=false):=Lib.hid (fun p hp hl hm=>by
    cases hlp:left (.string p.1) with
    | false=>exact Hmt.out p hp hlp
    | true =>
     rw [hlp] at hl
     have he:p.1=x:=by simpa [Lit.sameKey] using hl
     have h2:=mem_look hnd (show (p.1,p.2)∈now from hp)
     rw [he,hg] at h2
     cases h2
     exact hm)
   have HG:Hid ((x,g)∈now):=Lib.hid (look_mem hg)
   clear hkey hRV hat hat2 hrr hrg1 hhas hxx
   unfold fval at hen
   unfold fval
   obtain⟨X,hX⟩:∃X:World,X=w'.alloc (.cells #[.bool g.log,.int .i64 (g.size:Nat),.int .u32 g.sum,.slice ro g.secs.length rc] 91):=⟨_,rfl⟩
   have hXo:Olds w' X:=by rw [hX];exact Olds.alloc _ _
   have hXs:X.heap[w'.heap.size]?=some (.cells #[.bool g.log,.int .i64 (g.size:Nat),.int .u32 g.sum,.slice ro g.secs.length rc] 91 (0,0)):=by rw [hX];exact heap_alloc_new _ _
   have hX3:X.cell? ⟨w'.heap.size,3,none⟩=some (.slice ro g.secs.length rc):=by rw [cell_of_heap hXs];rfl
   have hw1:=HB1.out.size
   have hA0:X.cell? ⟨w.heap.size,3,none⟩=some (.slice fo f.secs.length fc):=by
    have h1:A.heap[w.heap.size]?=some (.cells #[.bool f.log,.int .i64 (f.size:Nat),.int .u32 f.sum,.slice fo f.secs.length fc] 91 (0,0)):=by rw [HA.out];exact heap_alloc_new _ _
    have h2:A.cell? ⟨w.heap.size,3,none⟩=some (.slice fo f.secs.length fc):=by rw [cell_of_heap h1];rfl
    exact hXo.cell ((HBA1.out.cell (by rw [hAs];exact Nat.lt_succ_self _)).trans h2)
   have HBX:Hid (Below w.heap.size w X):=Lib.hid (HB1.out.trans ((Below.refl _ w').alloc (Nat.le_refl _) _ |>.mono hw1 |> (by rw [hX];exact ·)))
   have HBAX:Hid (Below A.heap.size A X):=Lib.hid (HBA1.out.trans ((Below.refl _ w').alloc (Nat.le_refl _) _ |>.mono HBA1.out.size |> (by rw [hX];exact ·)))
   have HrX:Hid (X.ownsRow B 3 1 (.slice fo f.secs.length fc) f.secs.length (nats f.secs)):=Lib.hid (ownsRow_olds Hr.out (Olds.of_below HBX.out))
   have HgX:Hid (X.ownsRow B 3 1 (.slice ro g.secs.length rc) g.secs.length (nats g.secs)):=Lib.hid (ownsRow_olds Hrr.out (Olds.of_below HBX.out))
   have HrgX:Hid (X.ranges Tryz.prog 9 RV nb A.heap.size nm D (fun z=>left z && !z.sameKey (.string x)) cnt'):=Lib.hid (by rw [hX,hAs];exact Hrg1.out.alloc _)
   rw [hs1] at hX3
   have HX:=Lib.hid hX
   clear hX hXs hXo
   go_upto_region 4 with fail
   rw [← HX.out]
   generalize hfl:f.secs.length=fl at *
   generalize hgl:g.secs.length=gl at *
   by_cases hf0:fl=0
   ·have hmf:Hid (meets f g=false):=Lib.hid (by
     unfold meets
     rw [List.eq_nil_of_length_eq_zero (hfl.trans hf0)])
    subst hf0
    have HR:Hid (NewRel w A nb nm D now f cnt' X):=Lib.hid ⟨_,HrgX.out,fun p hp hl=>HM1.out p hp hl hmf.out,HBX.out,HBAX.out⟩
    go_quiet (fail)
    go_wp2_with fail
    go_roundw
    case rel=>exact⟨cnt',HR.out.drewN _⟩
    case measure =>
     have h1:=(HR.out.drewN nq).left
     have h2:=Hrel.out.left
     rw [hAs] at h1 h2
     try rw [hAs]
     rw [h1,h2]
     exact hlt
   ·by_cases hg0:gl=0
    ·have hmf:Hid (meets f g=false):=Lib.hid (by
      unfold meets
      rw [List.eq_nil_of_length_eq_zero (hgl.trans hg0)]
      cases f.secs<;>rfl)
     subst hg0
     have hfp:0<fl:=by omega
     have HR:Hid (NewRel w A nb nm D now f cnt' X):=Lib.hid ⟨_,HrgX.out,fun p hp hl=>HM1.out p hp hl hmf.out,HBX.out,HBAX.out⟩
     go_quiet (fail)
     go_wp2_with fail
     go_roundw
     case rel=>exact⟨cnt',HR.out.drewN _⟩
     case measure =>
      have h1:=(HR.out.drewN nq).left
      have h2:=Hrel.out.left
      rw [hAs] at h1 h2
      try rw [hAs]
      rw [h1,h2]
      exact hlt
    ·obtain⟨p,lp,hp⟩:∃p lp,f.secs=p :: lp:=by
      cases h:f.secs with
      | nil=>rw [h] at hfl;simp at hfl;omega
      | cons p lp=>exact⟨p,lp,rfl⟩
     obtain⟨q,lq,hq⟩:∃q lq,g.secs=q :: lq:=by
      cases h:g.secs with
      | nil=>rw [h] at hgl;simp at hgl;omega
      | cons p lp=>exact⟨p,lp,rfl⟩
     obtain⟨fb,rfl⟩:∃fb,fo=some ⟨fb,0,none⟩:=by
      rcases HrX.out.2 with ⟨_,h0⟩|⟨g,cap,cur,e,_⟩
      ·omega
      ·simp only [Value.slice.injEq] at e
       exact⟨g,e.1⟩
     obtain⟨gb,rfl⟩:∃gb,ro=some ⟨gb,0,none⟩:=by
      rcases HgX.out.2 with ⟨_,h0⟩|⟨g,cap,cur,e,_⟩
      ·omega
      ·simp only [Value.slice.injEq] at e
       exact⟨g,e.1⟩
     have hcf:X.cell? ⟨fb,0,none⟩=some (.int .i64 (p:Nat)):=by
      have h1:=ownsRow_cell HrX.out 0 (.int .i64 (p:Nat)) (by simp [nats,hp])
      simpa using h1
     have hcg:X.cell? ⟨gb,0,none⟩=some (.int .i64 (q:Nat)):=by
      have h1:=ownsRow_cell HgX.out 0 (.int .i64 (q:Nat)) (by simp [nats,hq])
      simpa using h1
     have hmm:Hid (meets f g=(p == q)):=Lib.hid (by unfold meets;rw [hp,hq])
     have hfp:0<fl:=by omega
     have hgp:0<gl:=by omega
     clear hp hq
     by_cases hpq:p=q
     ·have HF:Hid (isNew now f=false):=Lib.hid (by
       unfold isNew
       rw [List.all_eq_false]
       exact⟨_,HG.out,by rw [hmm.out,hpq];simp⟩)
      subst hpq
      go_quiet (fail)
      go_wp2_with fail
      go_ret
      exact⟨by rw [HF.out];rfl,below_drewN HBX.out _⟩
     ·have hmf:Hid (meets f g=false):=Lib.hid (by rw [hmm.out];simpa using hpq)
      have hpqi:((p:Int) == (q:Int))=false:=by simp;omega
      have HR:Hid (NewRel w A nb nm D now f cnt' X):=Lib.hid ⟨_,HrgX.out,fun p hp hl=>HM1.out p hp hl hmf.out,HBX.out,HBAX.out⟩
      go_quiet (fail)
      go_wp2_with fail
      simp only [hfl,hAs]
      go_roundw
      case rel=>exact⟨cnt',HR.out.drewN _⟩
      case measure =>
       have h1:=(HR.out.drewN nq).left
       have h2:=Hrel.out.left
       rw [hAs] at h1 h2
       try rw [hAs]
       rw [h1,h2]
       exact hlt
end Go.Proofs.YtndjmffnlcilbaaGreatDoor
namespace Go.Proofs.YtndjmffnlcilbaaGreatDoor
open Go Go.RowKit Go.Ix Go.Ext Go.Maps
abbrev TC:List Nat:=[3,30,91]
abbrev TS:List Nat:=[3,1,30,91]
def Clo (w:World) (B sb tb n:Nat) (f:Value) (p:List Nat×Int):Prop :=
 (∀a∈p.1,a<n)∧p.1.length≤1000∧∃(b1 b2:Nat) (lg:Bool) (z:Nat) (u:Int) (v:Value),
  ((p.2 = -1∧f=.func (.func 72) #[] #[.pointer (some ⟨b1,0,none⟩),.pointer (some ⟨b2,0,none⟩)])∨(p.2=1∧f=.func (.func 45) #[] #[.pointer (some ⟨b1,0,none⟩),.pointer (some ⟨b2,0,none⟩)]))∧
  w.heap[b1]?=some (.cells #[.pointer (some ⟨sb,0,none⟩)] 30 (0,0))∧w.heap[b2]?=some (.cells #[.bool lg,.int .i64 (z:Nat),.int .u32 u,v] 91 (0,0))∧
  w.ownsRow B 3 1 v p.1.length (nats p.1)∧v.ownBlock≠some tb
def UndoRow (w:World) (B sb tb n:Nat) (uv:Value) (us:List Value) (u:List (List Nat×Int)):Prop :=
 w.ownsRow B 1 1 uv u.length us∧us.length=u.length∧∀(i:Nat) (p:List Nat×Int),u[i]?=some p→∃f,us[i]?=some f∧Clo w B sb tb n f p
def UndoAt (w:World) (B sb tb n:Nat) (uv:Value) (u:List (List Nat×Int)):Prop:=∃us,UndoRow w B sb tb n uv us u
structure SR (w:World) (B sb tb tc nb xb nm:Nat) (uv dv:Value) (g:G):Prop where
 bnb:B≤nb
 bxb:B≤xb
 nx:nb≠xb
 now:SMap w B tb nb nm g.now
 next:SMap w B tb xb nm g.next
 taken:Taken w B tb g.n tc g.T
 dir:w.ownsRow B 3 1 dv g.dir.length (nats g.dir)
 dirne:dv.ownBlock≠some tb
 undo:UndoAt w B sb tb g.n uv g.undo
 fok:∀p∈g.now,FileOk p
 fokx:∀p∈g.next,FileOk p
section
variable {w W:World}{B sb tb tc nb xb nm n:Nat}{uv dv:Value}{g:G}
def CellsKept (ts:List Nat) (tb:Nat) (w W:World):Prop:=∀b cs ty fr,ty∈ts→b≠tb→w.heap[b]?=some (.cells cs ty fr)→W.heap[b]?=some (.cells cs ty fr)
theorem CellsKept.sub {ts:List Nat}(hc:CellsKept TS tb w W) (h:∀t∈ts,t∈TS):CellsKept ts tb w W:=fun b cs ty fr ht=>hc b cs ty fr (h ty ht)
theorem CellsKept.less (hc:CellsKept TS tb w W):CellsKept TC tb w W:=hc.sub (by simp)
theorem row_kept {ts:List Nat}{v:Value}{m:Nat}{xs:List Value}{e:Nat}(h:w.ownsRow B e 1 v m xs) (he:e∈ts) (hv:v.ownBlock≠some tb) (hc:CellsKept ts tb w W):W.ownsRow B e 1 v m xs:=ownsRow_blocks h fun k hk=>by
 obtain⟨cur,h1⟩:=own_kind h hk
 rw [h1]
 exact hc _ _ _ _ he (fun e=>hv (by rw [hk,e])) h1
theorem ne_taken {T:Nat→Int}(hT:Taken w B tb n tc T) {b:Nat}{cs:Array Value}{ty:TypeId}{fr:Nat×Nat}(h:w.heap[b]?=some (.cells cs ty fr)) (ht:ty≠3):b≠tb:=fun e=>by
 obtain⟨cur,hc⟩:=own_kind hT (g:=tb) rfl
 rw [← e,h] at hc
 simp only [Option.some.injEq,Obj.cells.injEq] at hc
 exact ht hc.2.1
theorem Clo.kept {T:Nat→Int}(hT:Taken w B tb n tc T) {f:Value}{p:List Nat×Int}(h:Clo w B sb tb n f p) (hc:CellsKept TC tb w W):Clo W B sb tb n f p:=by
 obtain⟨h1,h2,b1,b2,lg,z,u,v,h3,h4,h5,h6,h7⟩:=h
 exact⟨h1,h2,b1,b2,lg,z,u,v,h3,hc _ _ _ _ (by simp) (ne_taken hT h4 (by decide)) h4,hc _ _ _ _ (by simp) (ne_taken hT h5 (by decide)) h5,row_kept h6 (by simp) h7 hc,h7⟩
theorem UndoAt.kept {T:Nat→Int}(hT:Taken w B tb n tc T) {u:List (List Nat×Int)}(h:UndoAt w B sb tb n uv u) (hc:CellsKept TS tb w W):UndoAt W B sb tb n uv u:=by
 obtain⟨us,h1,h2,h3⟩:=h
 refine⟨us,row_kept h1 (by simp) (fun e=>?_) hc,h2,fun i p hp=>?_⟩
 ·obtain⟨cur,hc⟩:=own_kind h1 e
  exact ne_taken hT hc (by decide) rfl
 ·obtain⟨f,h4,h5⟩:=h3 i p hp
  exact⟨f,h4,h5.kept hT hc.less⟩
theorem SR.keep {T':Nat→Int}(h:SR w B sb tb tc nb xb nm uv dv g) (hm:W.heap[nb]?=w.heap[nb]?) (hx:W.heap[xb]?=w.heap[xb]?) (hc:CellsKept TS tb w W) (hT:Taken W B tb g.n tc T'):SR W B sb tb tc nb xb nm uv dv { g with T:=T' } :=
 ⟨h.bnb,h.bxb,h.nx,h.now.keep hm (fun b cs fr hb=>hc b cs _ fr (by simp) hb),h.next.keep hx (fun b cs fr hb=>hc b cs _ fr (by simp) hb),hT,row_kept h.dir (by simp) h.dirne hc,h.dirne,h.undo.kept h.taken hc,h.fok,h.fokx⟩
theorem SR.olds (h:SR w B sb tb tc nb xb nm uv dv g) (ho:Olds w W):SR W B sb tb tc nb xb nm uv dv g :=
 h.keep (T':=g.T) (ho.2 _ h.now.lt) (ho.2 _ h.next.lt) (fun b cs ty fr _ _ hb=>(ho.2 _ (heap_lt hb)).trans hb) (ownsRow_olds h.taken ho)
theorem SR.fr (h:SR w B sb tb tc nb xb nm uv dv g) {B':Nat}{T M:List Nat}(hf:Fr B' T M w W) (ht:∀t∈TS,t∉T) (hn:nb∉M) (hx:xb∉M) (hM:∀b∈M,∀cs ty fr,ty∈TS→w.heap[b]?≠some (.cells cs ty fr)):SR W B sb tb tc nb xb nm uv dv g:=by
 obtain⟨es,c,hk⟩:=h.now.kind
 obtain⟨es',c',hk'⟩:=h.next.kind
 refine h.keep (T':=g.T) ((hf.keepMap hk hn).trans hk.symm) ((hf.keepMap hk' hx).trans hk'.symm) (fun b cs ty fr hty _ hb=>hf.keep hb (fun hm=>hM b hm cs ty fr hty hb) (ht ty hty)) ?_
 exact hf.keepRow h.taken (ht _ (by simp)) (fun k hk=>fun hm=>by
  obtain⟨cur,hc⟩:=own_kind h.taken hk
  exact hM k hm _ _ _ (by simp) hc)
theorem SR.on {T':Nat→Int}(h:SR w B sb tb tc nb xb nm uv dv g) (ho:On tb w W) (hT:Taken W B tb g.n tc T'):SR W B sb tb tc nb xb nm uv dv { g with T:=T' }:=by
 have hne:∀{b:Nat}{es:Array MapEntry}{c:Nat},w.heap[b]?=some (.map es c)→b≠tb:=fun {b es c} hb e=>by
  obtain⟨cur,hc⟩:=own_kind h.taken (g:=tb) rfl
  rw [← e,hb] at hc
  cases hc
 obtain⟨es,c,hk⟩:=h.now.kind
 obtain⟨es',c',hk'⟩:=h.next.kind
 exact h.keep (ho.block _ (hne hk)) (ho.block _ (hne hk')) (fun b cs ty fr _ hb hc=>(ho.block b hb).trans hc) hT
theorem SR.put (h:SR w B sb tb tc nb xb nm uv dv g) {nm':Nat}{next':Fs}(hg:w.grownBy W (some xb)) (hN:SMap W B tb xb nm' next') (hnm:nm≤nm') (hfo:∀p∈next',FileOk p):SR W B sb tb tc nb xb nm' uv dv { g with next:=next' }:=by
 obtain⟨es,c,hk⟩:=h.next.kind
 have hc:CellsKept TS tb w W:=fun b cs ty fr _ _ hb=>(hg.block b (heap_lt hb) (fun e=>by cases e;rw [hk] at hb;cases hb)).trans hb
 have hr:Taken W B tb g.n tc g.T:=ownsRow_blocks h.taken fun k hk2=>by
  obtain⟨cur,h1⟩:=own_kind h.taken hk2
  exact hg.block k (heap_lt h1) (fun e=>by cases e;rw [hk] at h1;cases h1)
 exact⟨h.bnb,h.bxb,h.nx,(h.now.keep (hg.block _ h.now.lt (fun e=>h.nx (by cases e;rfl))) (fun b cs fr hb=>hc b cs _ fr (by simp) hb)).mono hnm,hN,hr,row_kept h.dir (by simp) h.dirne hc,h.dirne,h.undo.kept h.taken hc,h.fok,hfo⟩
theorem UndoRow.push {T:Nat→Int}{us:List Value}{u:List (List Nat×Int)}{uv' f:Value}{p:List Nat×Int}(hT:Taken w B tb n tc T) (h:UndoRow w B sb tb n uv us u) (hc:CellsKept TC tb w W) (hr:W.ownsRow B 1 1 uv' (u.length+1) (us++[f])) (hf:Clo W B sb tb n f p):UndoAt W B sb tb n uv' (u++[p]):=by
 obtain⟨_,h2,h3⟩:=h
 refine⟨us++[f],by rw [List.length_append];exact hr,by simp [h2],fun i q hq=>?_⟩
 rcases Nat.lt_or_ge i u.length with hi | hi
 ·rw [List.getElem?_append_left hi] at hq
  obtain⟨f',h4,h5⟩:=h3 i q hq
  exact⟨f',by rw [List.getElem?_append_left (by omega)];exact h4,h5.kept hT hc⟩
 ·have hi2:i=u.length:=by
   have:=(List.getElem?_eq_some_iff.1 hq).1
   simp at this
   omega
  subst hi2
  have:p=q:=by simpa using hq
  subst this
  exact⟨f,by rw [← h2];simp,hf⟩
theorem SR.push (h:SR w B sb tb tc nb xb nm uv dv g) {uv':Value}{u':List (List Nat×Int)}(hg:w.grownBy W uv.ownBlock) (hu:UndoAt W B sb tb g.n uv' u'):SR W B sb tb tc nb xb nm uv' dv { g with undo:=u' }:=by
 obtain⟨us,hr,_⟩:=h.undo
 have hne:∀{b:Nat}{o:Obj},w.heap[b]?=some o→(∀cs fr,o≠.cells cs 1 fr)→W.heap[b]?=some o:=fun {b o} hb ho=>(hg.block b (heap_lt hb) (fun e=>by
  obtain⟨cur,hc⟩:=own_kind hr e.symm
  rw [hc] at hb
  exact ho _ _ (Option.some.inj hb).symm)).trans hb
 obtain⟨es,c,hk⟩:=h.now.kind
 obtain⟨es',c',hk'⟩:=h.next.kind
 have hi:∀(b:Nat) (cs:Array Value) (fr:Nat×Nat),w.heap[b]?=some (.cells cs 3 fr)→W.heap[b]?=some (.cells cs 3 fr):=fun b cs fr hb=>hne hb (fun cs' fr' e=>by
  simp only [Obj.cells.injEq] at e
  exact absurd e.2.1 (by decide))
 have hrow:∀{v:Value}{m:Nat}{xs:List Value},w.ownsRow B 3 1 v m xs→W.ownsRow B 3 1 v m xs:=fun {v m xs} hr=>ownsRow_blocks hr fun k hk=>by
  obtain⟨cur,h1⟩:=own_kind hr hk
  rw [h1]
  exact hi _ _ _ h1
 exact⟨h.bnb,h.bxb,h.nx,h.now.keep ((hne hk (fun _ _ e=>by cases e)).trans hk.symm) (fun b cs fr _=>hi b cs fr),h.next.keep ((hne hk' (fun _ _ e=>by cases e)).trans hk'.symm) (fun b cs fr _=>hi b cs fr),hrow h.taken,hrow h.dir,h.dirne,hu,h.fok,h.fokx⟩
theorem cells_grown {us:List Value}{u:List (List Nat×Int)}(hr:UndoRow w B sb tb n uv us u) (hg:w.grownBy W uv.ownBlock):CellsKept TC tb w W:=fun b cs ty fr ht _ hb=>(hg.block b (heap_lt hb) (fun e=>by
 obtain⟨cur,hc⟩:=own_kind hr.1 e.symm
 rw [hc] at hb
 simp only [Option.some.injEq,Obj.cells.injEq] at hb
 rw [← hb.2.1] at ht
 exact absurd ht (by decide))).trans hb
theorem SR.but (h:SR w B sb tb tc nb xb nm uv dv g) {b0:Nat}{cs0:Array Value}{ty0:TypeId}{fr0:Nat×Nat}(h0:w.heap[b0]?=some (.cells cs0 ty0 fr0)) (ht:ty0∉TS) (hb:∀b,b≠b0→W.heap[b]?=w.heap[b]?):SR W B sb tb tc nb xb nm uv dv g:=by
 have hne:∀{b:Nat}{es:Array MapEntry}{c:Nat},w.heap[b]?=some (.map es c)→b≠b0:=fun {b es c} hb e=>by
  rw [e,h0] at hb
  cases hb
 have hne2:∀{b:Nat}{cs:Array Value}{ty:TypeId}{fr:Nat×Nat},w.heap[b]?=some (.cells cs ty fr)→ty∈TS→b≠b0:=fun {b cs ty fr} hb hty e=>by
  rw [e,h0] at hb
  simp only [Option.some.injEq,Obj.cells.injEq] at hb
  rw [hb.2.1] at ht
  exact ht hty
 obtain⟨es,c,hk⟩:=h.now.kind
 obtain⟨es',c',hk'⟩:=h.next.kind
 refine h.keep (T':=g.T) (hb _ (hne hk)) (hb _ (hne hk')) (fun b cs ty fr hty _ hc=>(hb b (hne2 hc hty)).trans hc) (ownsRow_blocks h.taken fun k hk2=>?_)
 obtain⟨cur,h1⟩:=own_kind h.taken hk2
 exact hb k (hne2 h1 (by simp))
end
abbrev SCell (w:World) (sb db tb tc nb xb n:Nat) (slot gen:Nat) (uv dv:Value):Prop :=
 w.heap[sb]?=some (.cells #[.pointer (some ⟨db,0,none⟩),.int .i64 (slot:Nat),.int .u64 (gen:Nat),.map (some nb),.map (some xb),uv,dv,.bool false,.slice (some ⟨tb,0,none⟩) n tc] 69 (0,0))
structure SIx (w:World) (B db sm sb k D:Nat) (t:Dk) (tb tc nb xb slot gen:Nat) (uv dv:Value) (g:G):Prop where
 bsb:B≤sb
 cell:SCell w sb db tb tc nb xb g.n slot gen uv dv
 rest:SR w B sb tb tc nb xb k uv dv g
 di:DK w B db sm g.n t
 ht:t.cac.length≤100 * k
 hslot:slot≤1
 hgen:gen≤k+1
 hu:g.undo.length≤k
 hd:dirLen g.now≤D
 hdx:dirLen g.next≤D
 smn:sm≠nb
 smx:sm≠xb
 inv:Inv g
def SI (w:World) (B db sm sb k D:Nat) (t:Dk) (slot gen:Nat) (g:G):Prop:=∃tb tc nb xb uv dv,SIx w B db sm sb k D t tb tc nb xb slot gen uv dv g
abbrev TL:List Nat:=[37,44]
structure Kp (B:Nat) (w w':World):Prop where
 below:Below B w w'
 kept:∀ty∈TL,∀(b:Nat) (cs:Array Value) (fr:Nat×Nat),w.heap[b]?=some (.cells cs ty fr)→w'.heap[b]?=some (.cells cs ty fr)
theorem Kp.ops {B:Nat}{w w':World}(h:Kp B w w') (b:Nat) (cs:Array Value) (fr:Nat×Nat) (hb:w.heap[b]?=some (.cells cs 37 fr)):w'.heap[b]?=some (.cells cs 37 fr):=h.kept _ (by simp) b cs fr hb
theorem Kp.refl (B:Nat) (w:World):Kp B w w:=⟨Below.refl _ _,fun _ _ _ _ _ h=>h⟩
theorem Kp.trans {B:Nat}{a b c:World}(h:Kp B a b) (k:Kp B b c):Kp B a c:=⟨h.below.trans k.below,fun ty hty x cs fr hx=>k.kept ty hty x cs fr (h.kept ty hty x cs fr hx)⟩
theorem no_ty {w:World}{b:Nat}{cs0 cs:Array Value}{T ty:TypeId}{fr0 fr:Nat×Nat}{l:List Nat}(h:w.heap[b]?=some (.cells cs0 T fr0)) (e:w.heap[b]?=some (.cells cs ty fr)) (hty:ty∈l) (hT:T∉l):False:=by
 rw [h] at e
 simp only [Option.some.injEq,Obj.cells.injEq] at e
 exact hT (e.2.1 ▸ hty)
theorem Kp.of_fr {B:Nat}{T M:List Nat}{w w':World}(h:Fr B T M w w') (ht:∀ty∈TL,ty∉T) (hM:∀ty∈TL,∀b∈M,∀(cs:Array Value) (fr:Nat×Nat),w.heap[b]?≠some (.cells cs ty fr)):Kp B w w':=⟨h.below,fun ty hty b cs fr hb=>h.keep hb (fun hm=>hM ty hty b hm cs fr hb) (ht ty hty)⟩
theorem Kp.of_below {B:Nat}{w w':World}(h:Below w.heap.size w w') (hB:B≤w.heap.size):Kp B w w':=Kp.of_fr (Fr.of_below h hB [] []) (by simp) (by simp)
theorem Kp.but {B b0:Nat}{w w':World}{cs0:Array Value}{ty0:TypeId}{fr0:Nat×Nat}(h0:w.heap[b0]?=some (.cells cs0 ty0 fr0)) (ht:ty0∉TL) (hbe:Below B w w') (hb:∀b,b≠b0→w'.heap[b]?=w.heap[b]?):Kp B w w':=⟨hbe,fun ty hty b cs fr hc=>(hb b (fun e=>by
 subst e
 exact no_ty h0 hc hty ht)).trans hc⟩
theorem Kp.grown {B b0:Nat}{w w':World}{o:Obj}(h0:w.heap[b0]?=some o) (ho:∀ty∈TL,∀cs fr,o≠.cells cs ty fr) (hB:B≤b0) (hB2:B≤w.heap.size) (hg:w.grownBy w' (some b0)):Kp B w w':=⟨(Below.refl _ _).grown hg hB2 (fun b hb=>by cases hb;exact hB),fun ty hty b cs fr hc=>(hg.block b (heap_lt hc) (fun e=>by
 cases e
 rw [h0] at hc
 exact ho ty hty _ _ (Option.some.inj hc))).trans hc⟩
def Mk (w:World) (bad M:List Nat):Prop:=∀b∈M,(∃es c,w.heap[b]?=some (.map es c))∨∃cs ty fr,w.heap[b]?=some (.cells cs ty fr)∧ty∉bad
theorem Mk.not {w:World}{bad M:List Nat}(h:Mk w bad M) {b:Nat}(hb:b∈M) {cs:Array Value}{ty:Nat}{fr:Nat×Nat}(ht:ty∈bad):w.heap[b]?≠some (.cells cs ty fr):=fun e=>by
 rcases h b hb with ⟨es,c,h1⟩|⟨cs',ty',fr',h1,h2⟩
 ·rw [h1] at e
  cases e
 ·rw [h1] at e
  simp only [Option.some.injEq,Obj.cells.injEq] at e
  rw [e.2.1] at h2
  exact h2 ht
theorem DK.fr {w W:World}{B B' db sm n:Nat}{t:Dk}{T M:List Nat}(h:DK w B db sm n t) (hf:Fr B' T M w W) (hT:∀x∈TD,x∉T) (hsm:sm∉M) (hM:Mk w TD M):DK W B db sm n t:=by
 obtain⟨lv,cv,q1,q2,q3,_,_,_,_,h3,_⟩:=h.cell
 exact h.keep hf hT ⟨fun hm=>hM.not hm (by simp) h3,hsm⟩ (fun g cs fr hc hm=>hM.not hm (by simp) hc) (fun g cs fr hc hm=>hM.not hm (by simp) hc)
theorem Kp.fr {B:Nat}{T M:List Nat}{w w':World}(h:Fr B T M w w') (ht:∀ty∈TL,ty∉T) (hM:Mk w TL M):Kp B w w':=Kp.of_fr h ht (fun ty hty b hb cs fr=>hM.not hb hty)
theorem SR.marks {w:World}{B sb tb tc nb xb nm:Nat}{uv dv:Value}{g:G}(h:SR w B sb tb tc nb xb nm uv dv g) {bad:List Nat}(hb:3∉bad):Mk w bad [nb,xb,tb]:=fun b hm=>by
 simp only [List.mem_cons,List.not_mem_nil,or_false] at hm
 rcases hm with rfl | rfl | rfl
 ·exact .inl h.now.kind
 ·exact .inl h.next.kind
 ·obtain⟨cur,hc⟩:=own_kind h.taken (g:=b) rfl
  exact .inr ⟨_,_,_,hc,hb⟩
theorem Mk.sub {w:World}{bad M M':List Nat}(h:Mk w bad M) (hs:∀b∈M',b∈M):Mk w bad M':=fun b hb=>h b (hs b hb)
theorem SR.btb {w:World}{B sb tb tc nb xb nm:Nat}{uv dv:Value}{g:G}(h:SR w B sb tb tc nb xb nm uv dv g):B≤tb:=(ownsRow_block h.taken (g:=tb) rfl).1
theorem SIx.smtb {w:World}{B db sm sb k D tb tc nb xb slot gen:Nat}{t:Dk}{uv dv:Value}{g:G}(h:SIx w B db sm sb k D t tb tc nb xb slot gen uv dv g):sm≠tb:=fun e=>by
 obtain⟨es,c,hk⟩:=h.di.seen.kind
 obtain⟨cur,hc⟩:=own_kind h.rest.taken (g:=tb) rfl
 rw [← e,hk] at hc
 cases hc
theorem UndoRow.olds {w W:World}{B sb tb tc n:Nat}{uv:Value}{us:List Value}{u:List (List Nat×Int)}{T:Nat→Int}(hT:Taken w B tb n tc T) (h:UndoRow w B sb tb n uv us u) (ho:Olds w W):UndoRow W B sb tb n uv us u :=
 ⟨ownsRow_olds h.1 ho,h.2.1,fun i p hp=>by
  obtain⟨f,h4,h5⟩:=h.2.2 i p hp
  exact⟨f,h4,h5.kept hT (fun b cs ty fr _ _ hb=>(ho.2 _ (heap_lt hb)).trans hb)⟩⟩
end Go.Proofs.YtndjmffnlcilbaaGreatDoor
