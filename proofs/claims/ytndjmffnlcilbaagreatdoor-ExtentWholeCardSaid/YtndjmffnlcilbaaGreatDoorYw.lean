/- Contracts over this program. Their conditions: the slices read as the lists that are named, and lie within the sizes that are named. -/
import Derived.Test.YtndjmffnlcilbaaGreatDoorYl
import Derived.Test.YtndjmffnlcilbaaGreatDoorYv
import Derived.Recover
import Derived.Defers
import Derived.Test.YtndjmffnlcilbaaGreatDoorYr
import Derived.Test.YtndjmffnlcilbaaGreatDoorYp
set_option linter.unusedSimpArgs false
set_option linter.unusedVariables false
set_option linter.deprecated false
set_option linter.unnecessarySimpa false
namespace Go.Proofs.YtndjmffnlcilbaaGreatDoor
open Go Go.RowKit Go.Ix Go.Ext Go.Maps
theorem bequal_any {w:World}{o1 o2:Option Addr}{n1 n2 c1 c2:Nat}{xs ys:List Nat}(h1:BytesAt w (.slice o1 n1 c1) xs) (h2:BytesAt w (.slice o2 n2 c2) ys) (l1:xs.length=n1) (l2:ys.length=n2) (x8:∀x∈xs,x<256) (y8:∀x∈ys,x<256) :
  Calls Tryz.prog 68 #[.slice o1 n1 c1,.slice o2 n2 c2] w fun e w'=>e=.returned (.bool (decide (xs=ys)))∧w=w':=by
 have hin:∀{o:Option Addr}{n c:Nat}{bs:List Nat},BytesAt w (.slice o n c) bs→bs.length=n→Lib.BytesIn w o n (bs.map fun (k:Nat)=>(k:Int)):=fun {o n c bs} h hl hn=>by
  obtain⟨o',c',e,_,hne⟩:=h
  simp only [Value.slice.injEq] at e
  obtain⟨rfl,_,_⟩:=e
  obtain⟨b,off,rfl,hc⟩:=hne (fun e=>by have:=congrArg List.length e;rw [octs_len,List.length_nil] at this;omega)
  refine⟨b,off,rfl,fun i hi=>?_⟩
  have hib:i<bs.length:=by omega
  have h9:=hc i (.int .u8 (bs[i]:Nat)) (by unfold octs;simp [hib])
  rw [h9]
  simp [List.getD,hib]
 have hcon:=Any.bytes_Equal_all Tryz.lays115 o1 o2 n1 c1 n2 c2 (xs.map fun (k:Nat)=>(k:Int)) (ys.map fun (k:Nat)=>(k:Int)) w (by rw [List.length_map,l1]) (by rw [List.length_map,l2]) (hin h1 l1) (hin h2 l2)
 change Calls Tryz.prog 68 _ _ _ at hcon
 refine hcon.mono fun e w' ⟨he,hw⟩=>⟨he.trans (ret_bool ?_),hw.symm⟩
 have hb:∀bs:List Nat,Lib.bytesOf (bs.map fun (k:Nat)=>(k:Int))=bs.map UInt8.ofNat:=fun bs=>by
  unfold Lib.bytesOf
  rw [List.map_map]
  rfl
 have hinj:∀(xs ys:List Nat),(∀x∈xs,x<256)→(∀x∈ys,x<256)→xs.map UInt8.ofNat=ys.map UInt8.ofNat→xs=ys:=by
  intro xs
  induction xs with
  | nil=>intro ys _ _ h;cases ys with
   | nil=>rfl
   | cons _ _=>simp at h
  | cons x xs ih=>intro ys hx hy h;cases ys with
   | nil=>simp at h
   | cons y ys =>
    simp only [List.map_cons,List.cons.injEq] at h
    have e:=congrArg UInt8.toNat h.1
    have h1:=hx x List.mem_cons_self
    have h2:=hy y List.mem_cons_self
    simp only [UInt8.toNat_ofNat'] at e
    rw [Nat.mod_eq_of_lt h1,Nat.mod_eq_of_lt h2] at e
    rw [e,ih ys (fun z hz=>hx z (List.mem_cons_of_mem _ hz)) (fun z hz=>hy z (List.mem_cons_of_mem _ hz)) h.2]
 rw [hb,hb]
 by_cases h:xs=ys
 ·subst h
  simp
 ·have h9:xs.map UInt8.ofNat≠ys.map UInt8.ofNat:=fun e=>h (hinj xs ys x8 y8 e)
  simp [h,h9]
theorem zerosB_iff (bs:List Nat):zerosB bs=true↔∀x∈bs,x=0:=by
 unfold zerosB
 simp [List.all_eq_true]
set_option maxRecDepth 20000 in
set_option maxHeartbeats 1000000 in
theorem trimR_any {w:World}{o:Option Addr}{n c:Nat}{bs:List Nat}(h:BytesAt w (.slice o n c) bs) (hl:bs.length=n) (h8:∀x∈bs,x<256) (hnc:n≤c) (hc:c≤9223372036854775807) :
  Calls Tryz.prog 81 #[.slice o n c,.int .u8 0] w fun e w'=>∃k,k≤n∧e=.returned (.slice o k c)∧(∀x∈bs.drop k,x=0)∧(0<k→∃x,bs[k-1]?=some x∧x≠0)∧w=w':=by
 have H:=Lib.hid h
 have Hl:=Lib.hid hl
 have H8:=Lib.hid h8
 clear h hl h8
 go_enter Tryz.func81,Tryz.ntmps81
 go_wp2_with fail
 go_loopw [0] (fun sv wr=>∃k:Nat,k≤n∧sv=.slice o k c∧(∀x∈bs.drop k,x=0)∧w=wr) (fun sv _=>match sv with | .slice _ k _=>k | _=>0)
 case atStart=>exact⟨n,Nat.le_refl _,rfl,(by rw [List.drop_of_length_le (by rw [Hl.out];exact Nat.le_refl _)];simp),rfl⟩
 case round =>
  obtain⟨k,hk,rfl,hz,rfl⟩:=hrel
  have Hz:=Lib.hid hz
  clear hz
  by_cases hk0:k=0
  ·subst hk0
   go_wp2_with fail
   go_ret
   exact⟨0,Nat.zero_le _,rfl,Hz.out,(fun h=>by omega),rfl⟩
  ·obtain⟨j,rfl⟩:∃j,k=j+1:=⟨k-1,by omega⟩
   obtain⟨b,off,x,rfl,hx,hcell⟩:=H.out.cell (k:=j) (by rw [Hl.out];omega)
   have Hx:=Lib.hid hx
   have hx8:=H8.out x (List.mem_of_getElem? hx)
   clear hx
   by_cases hx0:x=0
   ·subst hx0
    have hdr:∀x∈bs.drop j,x=0:=by
     intro y hy
     have hjl:j<bs.length:=by rw [Hl.out];omega
     rw [List.drop_eq_getElem_cons hjl] at hy
     rcases List.mem_cons.1 hy with rfl | hy
     ·have h9:=Hx.out
      rw [List.getElem?_eq_getElem hjl] at h9
      exact Option.some.inj h9
     ·exact Hz.out y hy
    have Hdr:=Lib.hid hdr
    clear hdr
    go_wp2_with fail
    go_roundw
    case rel=>exact⟨j,by omega,by first | rfl | (simp;omega),Hdr.out,trivial⟩
    case measure=>simp
   ·have hd:(((x:Nat):Int) == 0)=false:=by simp;omega
    go_wp2_with fail
    go_ret
    exact⟨j+1,hk,rfl,Hz.out,fun _=>⟨x,Hx.out,hx0⟩,rfl⟩
set_option maxRecDepth 20000 in
set_option maxHeartbeats 1000000 in
theorem trimL_any {w:World}{o:Option Addr}{n c:Nat}{bs:List Nat}(h:BytesAt w (.slice o n c) bs) (hl:bs.length=n) (h8:∀x∈bs,x<256) (hlast:0<n→∃x,bs[n-1]?=some x∧x≠0) (hnc:n≤c) (hc:c≤9223372036854775807) :
  Calls Tryz.prog 80 #[.slice o n c,.int .u8 0] w fun e w'=>∃o' m c',e=.returned (.slice o' m c')∧(m=0↔n=0)∧w=w':=by
 by_cases hn:n=0
 ·subst hn
  clear h hlast
  go_enter Tryz.func80,Tryz.ntmps80
  go_wp2_with fail
  go_loopw [0] (fun sv wr=>sv=.slice o 0 c∧w=wr) (fun _ _=>0)
  case atStart=>exact⟨rfl,rfl⟩
  case round =>
   obtain⟨rfl,rfl⟩:=hrel
   go_wp2_with fail
   go_ret
   exact⟨none,0,0,rfl,by simp,rfl⟩
 ·obtain⟨y,hy,hy0⟩:=hlast (by omega)
  obtain⟨b,off,_,rfl,_,_⟩:=h.cell (k:=0) (by omega)
  have H:=Lib.hid h
  have Hl:=Lib.hid hl
  have H8:=Lib.hid h8
  have Hy:=Lib.hid hy
  clear h hl h8 hy hlast
  go_enter Tryz.func80,Tryz.ntmps80
  go_wp2_with fail
  go_loopw [0] (fun sv wr=>∃k m d:Nat,k+m=n∧0<m∧k+d=c∧sv=.slice (some ⟨b,off+k,none⟩) m d∧w=wr) (fun sv _=>match sv with | .slice _ k _=>k | _=>0)
  case atStart=>exact⟨0,n,c,by omega,by omega,by omega,rfl,rfl⟩
  case round =>
   obtain⟨k,m,d,hk,hm,hd,rfl,rfl⟩:=hrel
   obtain⟨b',off',x,he,hx,hcell⟩:=H.out.cell (k:=k) (by rw [Hl.out];omega)
   simp only [Option.some.injEq,Addr.mk.injEq,and_true] at he
   obtain⟨rfl,rfl⟩:=he
   have Hx:=Lib.hid hx
   have hx8:=H8.out x (List.mem_of_getElem? hx)
   clear hx
   by_cases hx0:x=0
   ·subst hx0
    have hm0:1<m:=by
     rcases Nat.lt_or_ge 1 m with h0 | h0
     ·exact h0
     ·have e:n-1=k:=by omega
      have h9:=Hy.out
      rw [e,Hx.out] at h9
      exact absurd (Option.some.inj h9).symm hy0
    have hd1:¬ d=1:=by omega
    go_wp2_with fail
    go_roundw
    case rel=>exact⟨k+1,m-1,d-1,by omega,by omega,by omega,by first | rfl | (simp;omega),trivial⟩
    case measure=>simp;omega
   ·have hd2:(((x:Nat):Int) == 0)=false:=by simp;omega
    go_wp2_with fail
    go_ret
    exact⟨_,_,_,rfl,by omega,rfl⟩
set_option maxRecDepth 20000 in
set_option maxHeartbeats 1000000 in
theorem trim_any {w:World}{o:Option Addr}{n c:Nat}{bs:List Nat}(h:BytesAt w (.slice o n c) bs) (hl:bs.length=n) (h8:∀x∈bs,x<256) (hnc:n≤c) (hc:c≤9223372036854775807) :
  Calls Tryz.prog 66 #[.slice o n c,.string ⟨#[0]⟩] w fun e w'=>∃o' m c',e=.returned (.slice o' m c')∧(m=0↔zerosB bs=true)∧∃q,w'=w.drewN q:=by
 by_cases hn:n=0
 ·subst hn
  have hb:bs=[]:=List.eq_nil_of_length_eq_zero hl
  have hz:zerosB bs=true:=by rw [hb];rfl
  have Hz:=Lib.hid hz
  clear h hl h8 hb hz
  go_enter Tryz.func66,Tryz.ntmps66
  go_wp2_with fail
  go_ret
  exact⟨_,_,_,rfl,⟨fun _=>Hz.out,fun _=>rfl⟩,0,rfl⟩
 ·have HR:=Lib.hid (trimR_any (w:=w.drew) (show BytesAt w.drew _ _ from h.olds (Olds.drewN w 1)) hl h8 hnc hc)
  have HL:Hid (∀k,k≤n→(∀x∈bs.drop k,x=0)→(0<k→∃x,bs[k-1]?=some x∧x≠0)→Calls Tryz.prog 80 #[.slice o k c,.int .u8 0] w.drew fun e w'=>∃o' m c',e=.returned (.slice o' m c')∧(m=0↔zerosB bs=true)∧w.drew=w'):=Lib.hid (fun k hk hz hx=>by
   have hlk:(bs.take k).length=k:=by rw [List.length_take];omega
   have hb:BytesAt w.drew (.slice o k c) (bs.take k):=by
    obtain⟨o',c',e,h0,hne⟩:=h
    simp only [Value.slice.injEq] at e
    obtain⟨rfl,_,rfl⟩:=e
    refine⟨o,c,by rw [hlk],h0,fun hne2=>?_⟩
    obtain⟨b,off,e,hcl⟩:=hne (fun e=>by have:=congrArg List.length e;rw [octs_len,List.length_nil] at this;omega)
    refine⟨b,off,e,fun j u hu=>?_⟩
    have h9:=hcl j u (by
     unfold octs at hu ⊢
     rw [List.map_take] at hu
     have hj:j<k:=by
      have:=(List.getElem?_eq_some_iff.1 hu).1
      rw [List.length_take] at this
      omega
     rwa [List.getElem?_take_of_lt hj] at hu)
    exact h9
   refine (trimL_any hb hlk (fun x hx=>h8 x (List.mem_of_mem_take hx)) (fun h0=>by
    obtain⟨x,h1,h2⟩:=hx h0
    exact⟨x,by rw [List.getElem?_take_of_lt (by omega)];exact h1,h2⟩) (by omega) hc).mono fun e w' ⟨o',m,c',h1,h2,h3⟩=>⟨o',m,c',h1,h2.trans ?_,h3⟩
   rw [zerosB_iff]
   constructor
   ·intro h0
    subst h0
    simpa using hz
   ·intro hall
    rcases Nat.eq_zero_or_pos k with h0 | h0
    ·exact h0
    ·obtain⟨x,h1,h2⟩:=hx h0
     exact absurd (hall x (List.mem_of_getElem? h1)) h2)
  clear h hl h8
  go_enter Tryz.func66,Tryz.ntmps66
  go_upto_region 6 with fail
  go_region_with (first
   | (go_at_call 81;refine HR.out.mono ?_;clear HR;rintro e w1 ⟨k,hk,rfl,h1,h2,rfl⟩;have HLk:=Lib.hid (HL.out k hk h1 h2);clear h1 h2 HL)
   | (go_at_call 80;refine HLk.out.mono ?_;clear HLk;rintro e w2 ⟨o',m,c',rfl,h3,rfl⟩;have H3:=Lib.hid h3;clear h3))
  all_goals go_wp2_with fail
  all_goals go_ret
  all_goals exact⟨_,_,_,rfl,H3.out,1,rfl⟩
end Go.Proofs.YtndjmffnlcilbaaGreatDoor
namespace Go.Proofs.YtndjmffnlcilbaaGreatDoor
open Go Go.RowKit Go.Ix Go.Ext Go.Maps
set_option maxRecDepth 20000 in
theorem good1_idle (a b:Value) (w:World):CallsD Tryz.prog 62 #[a,b] .returning w fun e u' w'=>e=.returned (.tuple #[])∧u'=.returning∧w'=w:=by
 refine callsD_of_wpS Tryz.func62 rfl fun c₀ cs hu=>?_
 apply wpS_seq
 apply wpS_region
 simp [wpOpsS,go_sem,recoverD,hu,Tryz.ntmps62,Exit.thenS]
 apply wpS_seq
 apply wpS_region
 simp [wpOpsS,go_sem,Exit.thenS]
 refine wpS_cond (t:=false) (by simp [Act.eval,Array.replicate]) ?_
 simp only [Bool.false_eq_true,if_false]
 refine wpS_of_wp (wp_skip ?_)
 cases c₀
 simp_all [bodyPostS,results,Tryz.results62]
set_option maxRecDepth 20000 in
set_option maxHeartbeats 2000000 in
theorem good1_wrong {S E:Nat}{w:World}{v1 v2:Value}(hS:w.heap[S]?=some (.cells #[v1] 30 (0,0))) (hE:w.heap[E]?=some (.cells #[v2] 27 (0,0))) :
  CallsD Tryz.prog 62 #[.pointer (some ⟨S,0,none⟩),.pointer (some ⟨E,0,none⟩)] (.panicking ({ v:=.iface 118 (.agg #[]),recovered:=false } :: [])) w fun e u' w' =>
   e=.returned (.tuple #[])∧u'=.panicking ({ v:=.iface 118 (.agg #[]),recovered:=true } :: [])∧w'.heap[S]?=some (.cells #[.pointer none] 30 (0,0))∧w'.heap[E]?=some (.cells #[.int .u16 61] 27 (0,0))∧Fr 0 [] [S,E] w w':=by
 have hne:S≠E:=fun e=>by
  rw [e,hE] at hS
  simp at hS
 have hSl:=heap_lt hS
 have hEl:=heap_lt hE
 have hB:Below 0 w (w.alloc (.cells #[] 118)):=(Below.refl _ _).alloc (Nat.zero_le _) _
 have hA:∀b,b<w.heap.size→(w.alloc (.cells #[] 118)).heap[b]?=w.heap[b]?:=fun b hb=>Below.heap_alloc _ _ _ hb
 have hs1:(w.alloc (.cells #[] 118)).heap.size=w.heap.size+1:=by simp
 generalize hAA:w.alloc (.cells #[] 118)=A at *
 have HAA:=Lib.hid hAA
 clear hAA
 have h1:A.heap[S]?=some (.cells #[v1] 30 (0,0)):=(hA S hSl).trans hS
 have c1:A.cell? ⟨S,0,none⟩=some v1:=by rw [cell_of_heap h1];rfl
 have f1:A.frozen? ⟨S,0,none⟩=false:=by simp [World.frozen?,h1]
 have h2:(A.setCell ⟨S,0,none⟩ (.pointer none)).heap[E]?=some (.cells #[v2] 27 (0,0)):=(Below.heap_setCell _ _ _ _ (Ne.symm hne)).trans ((hA E hEl).trans hE)
 have c2:(A.setCell ⟨S,0,none⟩ (.pointer none)).cell? ⟨E,0,none⟩=some v2:=by rw [cell_of_heap h2];rfl
 have f2:(A.setCell ⟨S,0,none⟩ (.pointer none)).frozen? ⟨E,0,none⟩=false:=by simp [World.frozen?,h2]
 have HZ:Hid (∀Z:World,Z=(A.setCell ⟨S,0,none⟩ (.pointer none)).setCell ⟨E,0,none⟩ (.int .u16 61)→Z.heap[S]?=some (.cells #[.pointer none] 30 (0,0))∧Z.heap[E]?=some (.cells #[.int .u16 61] 27 (0,0))∧Fr 0 [] [S,E] w Z):=Lib.hid (fun Z hZ=>by
  subst hZ
  refine⟨(Below.heap_setCell _ _ _ _ hne).trans ?_,?_,⟨(hB.setCell (Nat.zero_le _) _).setCell (Nat.zero_le _) _,fun b o hb hm _=>?_⟩⟩
  ·simp [World.setCell,Array.getElem?_modify,h1]
  ·have h9:=h2
   simp only [World.setCell] at h9 ⊢
   simp [Array.getElem?_modify] at h9 ⊢
   simp [h9]
  ·simp only [List.mem_cons,List.not_mem_nil,or_false,not_or] at hm
   rw [Below.heap_setCell _ _ _ _ hm.2,Below.heap_setCell _ _ _ _ hm.1,hA b (heap_lt hb)]
   exact hb)
 clear hA hB h1 h2 hS hE
 have hta:∀W:World,(Instr.typeAssert (.iface 118 (.agg #[])) 20 118 true).run Tryz.prog W=.ok (.tuple #[.agg #[],.bool true]) W:=fun W=>by kernel_rfl
 refine callsD_of_wpS Tryz.func62 rfl fun c₀ cs hu=>?_
 apply wpS_seq
 apply wpS_region
 simp [wpOpsS,go_sem,recoverD,hu,Tryz.ntmps62,Exit.thenS]
 apply wpS_seq
 apply wpS_region
 simp [wpOpsS,go_sem,Exit.thenS]
 refine wpS_cond (t:=true) (by simp [Act.eval,Array.replicate]) ?_
 simp only [if_true]
 refine wpS_of_wp ?_
 go_upto_region 3 with fail
 rw [HAA.out]
 go_wp2_with fail
 have hz:=HZ.out _ rfl
 clear HZ c1 c2 f1 f2 hta
 generalize (A.setCell ⟨S,0,none⟩ (.pointer none)).setCell ⟨E,0,none⟩ (.int .u16 61)=Z at hz ⊢
 obtain⟨z1,z2,z3⟩:=hz
 cases c₀
 simp_all [bodyPostS,results,Tryz.results62]
end Go.Proofs.YtndjmffnlcilbaaGreatDoor
namespace Go.Proofs.YtndjmffnlcilbaaGreatDoor
open Go Go.RowKit Go.Ix Go.Ext Go.Maps
def Calm (R:Exit→Act→World→Prop):Exit→Act→World→Prop
 | .normal,a,w=>R .normal a w
 | _,_,_=>False
theorem wp_calm {P:Program}{c:Code}{R:Exit→Act→World→Prop}{a:Act}{w:World}(h:c.wp P (Calm R) a w):c.wp P R a w :=
 Code.wp_mono (fun e a w h=>by cases e<;>first | exact h | exact absurd h id) h
theorem Tryz.enters_sectors:∀(args:Array Value) (w:World),(callFunc 22 args).run Tryz.prog w=.ok (.enter 22 args) w:=enters_of Tryz.func22 (by kernel_rfl) rfl
theorem Tryz.enters_number:∀(args:Array Value) (w:World),(callFunc 64 args).run Tryz.prog w=.ok (.enter 64 args) w:=enters_of Tryz.func64 (by kernel_rfl) rfl
theorem Tryz.enters_sum:∀(args:Array Value) (w:World),(callFunc 42 args).run Tryz.prog w=.ok (.enter 42 args) w:=enters_of Tryz.func42 (by kernel_rfl) rfl
theorem Tryz.enters_need2:∀(args:Array Value) (w:World),(callFunc 63 args).run Tryz.prog w=.ok (.enter 63 args) w:=enters_of Tryz.func63 (by kernel_rfl) rfl
abbrev wrongs (r:Bool):List PanicEntry:=[{ v:=.iface 118 (.agg #[]),recovered:=r }]
abbrev defs (S E:Nat):List Deferred:=[{ target:=.fn (.func 62) #[.pointer (some ⟨S,0,none⟩),.pointer (some ⟨E,0,none⟩)],args:=#[] }]
theorem loadS {w:World}{a:Addr}{v:Value}(h:w.cell? a=some v):(loadVar 30 a).run Tryz.prog w=.ok v w:=by
 simp [loadVar,isAgg,run_underlying Tryz.underlying30,Sem.run_bind,h]
theorem loadE {w:World}{a:Addr}{v:Value}(h:w.cell? a=some v):(loadVar 27 a).run Tryz.prog w=.ok v w:=by
 simp [loadVar,isAgg,run_underlying Tryz.underlying27,Sem.run_bind,h]
theorem good_res {S E:Nat}{W:World}{tmps:Array Value}{v1 v2:Value}(h6:tmps[6]?=some (.pointer (some ⟨S,0,none⟩))) (h7:tmps[7]?=some (.pointer (some ⟨E,0,none⟩))) (hS:W.cell? ⟨S,0,none⟩=some v1) (hE:W.cell? ⟨E,0,none⟩=some v2) :
  (results Tryz.f35 tmps).run Tryz.prog W=.ok (.tuple #[v1,v2]) W:=by
 simp [results,Tryz.results35,h6,h7,asAddr,loadS hS,loadE hE]
theorem good_pan {S E:Nat}{W:World}{tmps:Array Value}{R:Ending→World→Prop}{v1 v2:Value}(h6:tmps[6]?=some (.pointer (some ⟨S,0,none⟩))) (h7:tmps[7]?=some (.pointer (some ⟨E,0,none⟩))) (hS:W.heap[S]?=some (.cells #[v1] 30 (0,0))) (hE:W.heap[E]?=some (.cells #[v2] 27 (0,0)))
  (hR:∀w',Fr 0 [] [S,E] W w'→R (.returned (.tuple #[.pointer none,.int .u16 61])) w'):Leaves Tryz.prog Tryz.f35 tmps R (defs S E) (.panicking (wrongs false)) W:=by
 refine leaves_cons (f:=62) (args:=#[.pointer (some ⟨S,0,none⟩),.pointer (some ⟨E,0,none⟩)]) (by simp) (by simp [go_sem]) ?_
 refine (good1_wrong hS hE).mono ?_
 rintro e u' w'' ⟨rfl,rfl,h1,h2,h3⟩
 have hr:=good_res (tmps:=tmps) (W:=w'') h6 h7 (by rw [cell_of_heap h1];rfl) (by rw [cell_of_heap h2];rfl)
 exact⟨_,hr,hR w'' h3⟩
theorem good_ret {S E:Nat}{W:World}{tmps:Array Value}{R:Ending→World→Prop}{v1 v2:Value}(h6:tmps[6]?=some (.pointer (some ⟨S,0,none⟩))) (h7:tmps[7]?=some (.pointer (some ⟨E,0,none⟩))) (hS:W.heap[S]?=some (.cells #[v1] 30 (0,0))) (hE:W.heap[E]?=some (.cells #[v2] 27 (0,0)))
  (hR:R (.returned (.tuple #[v1,v2])) W):Leaves Tryz.prog Tryz.f35 tmps R (defs S E) .returning W:=by
 refine leaves_cons (f:=62) (args:=#[.pointer (some ⟨S,0,none⟩),.pointer (some ⟨E,0,none⟩)]) (by simp) (by simp [go_sem]) ?_
 refine (good1_idle _ _ _).mono ?_
 rintro e u' w'' ⟨rfl,rfl,rfl⟩
 have hr:=good_res (tmps:=tmps) (W:=w'') h6 h7 (by rw [cell_of_heap hS];rfl) (by rw [cell_of_heap hE];rfl)
 exact⟨_,hr,hR⟩
def CalmD (S E:Nat) (R:Exit→Act→World→Prop) (N:World→Prop):Exit→Act→World→Prop
 | .normal,a,w=>R .normal a w
 | .panic ch,a,w=>ch=wrongs false∧a.tmps[6]?=some (.pointer (some ⟨S,0,none⟩))∧a.tmps[7]?=some (.pointer (some ⟨E,0,none⟩))∧a.defers=defs S E∧N w
 | _,_,_=>False
theorem wp_calmD {S E:Nat}{P:Program}{c:Code}{R:Exit→Act→World→Prop}(N:World→Prop) {a:Act}{w:World}(hR:∀(a:Act) (w:World),a.tmps[6]?=some (.pointer (some ⟨S,0,none⟩))→a.tmps[7]?=some (.pointer (some ⟨E,0,none⟩))→a.defers=defs S E→N w→R (.panic (wrongs false)) a w) (h:c.wp P (CalmD S E R N) a w):c.wp P R a w :=
 Code.wp_mono (fun e a w h=>by
  cases e<;>first | exact h | exact absurd h id | (obtain⟨rfl,h1,h2,h3,h4⟩:=h;exact hR a w h1 h2 h3 h4)) h
theorem CalmD.put {S E:Nat}{R:Exit→Act→World→Prop}{N:World→Prop}{d:Nat}{v:Value}{c:List PanicEntry}{a:Act}{w:World}(hd:d≠6∧d≠7) (h:CalmD S E R N (.panic c) (a.put (some d) v) w):CalmD S E R N (.panic c) a w:=by
 obtain⟨h1,h2,h3,h4,h5⟩:=h
 refine⟨h1,?_,?_,h4,h5⟩
 ·simpa [Act.put,Array.getElem?_setIfInBounds,hd.1] using h2
 ·simpa [Act.put,Array.getElem?_setIfInBounds,hd.2] using h3
theorem step_panic {P:Program}{ops:Array Oper}{o:Oper}{a:Act}{w:World}{K:Act→World→Prop}{Q:Exit→Act→World→Prop}{X:Prop}(hg:o.guard=none) (f:FuncId) (xs:Array Operand) (ts:Array TypeId)
  (hop:o.op=.call { callee:=.value (.func f),args:=xs,argTypes:=ts }) (us:Array Value) (hx:xs.map a.eval=us) (en:∀args w,(callFunc f args).run P w=.ok (.enter f args) w) {ch:List PanicEntry}{T:World→Prop}
  (hc:Calls P f us w fun e w'=>e=.panicked ch∧T w') (hK:∀w',T w'→Q (.panic ch) a w') :
  if Region.wanted o (yielded ops a.tmps)=true then Oper.wp P o a w K Q else X:=by
 have hw:Region.wanted o (yielded ops a.tmps)=true:=by simp [Region.wanted,hg]
 rw [if_pos hw]
 have hrun:(execOp a.eval o).run P w=.ok (.enter f us) w:=by
  have h1:=en us w
  simp only [execOp,hop]
  have ev:a.eval (.func f)=.func (.func f) #[] #[]:=rfl
  simp only [resolve,ev]
  show (invoke (.fn (.func f) #[]) (#[]++(xs.map a.eval))).run P w=_
  rw [hx]
  have e2:invoke (.fn (.func f) #[]) (#[]++us)=callFunc f ((#[]++us)++#[]):=rfl
  rw [e2,Array.empty_append,Array.append_empty]
  exact h1
 unfold Oper.wp
 rw [hrun,Oper.upon_enter]
 refine hc.mono ?_
 rintro e w' ⟨rfl,hS⟩
 exact hK w' hS
theorem Fr.same0 {M:List Nat}{w w':World}(hf:Fr 0 [] M w w') {b:Nat}(hb:b<w.heap.size) (hm:b∉M):w'.heap[b]?=w.heap[b]?:=by
 obtain⟨o,ho⟩:∃o,w.heap[b]?=some o:=⟨_,Array.getElem?_eq_getElem hb⟩
 rw [ho]
 exact hf.sp b o ho hm (fun _ _ _ _ k=>by cases k)
theorem or_gen (a b:Nat) (ha:a<4294967296) (hb:b<4294967296):bits .or .u64 (a:Int) ((b:Int) * 4294967296)=((a+4294967296 * b:Nat):Int):=by
 have e:((b:Int) * 4294967296)=((4294967296 * b:Nat):Int):=by omega
 rw [e,(bits_nat .u64 64 (by decide) (fun n h0 h1=>by rw [IntKind.wrap_u64];omega) a (4294967296 * b) (by omega) (by omega)).2]
 have h3:4294967296 * b+a=4294967296 * b ||| a:=Nat.two_pow_add_eq_or_of_lt (i:=32) (b:=a) ha b
 rw [Nat.or_comm,← h3,Nat.add_comm]
structure GP (w wr:World) (B db sm n S E:Nat) (t:Dk):Prop where
 cS:wr.heap[S]?=some (.cells #[.pointer none] 30 (0,0))
 cE:wr.heap[E]?=some (.cells #[.int .u16 0] 27 (0,0))
 dk:DK wr B db sm n t
 fr:Fr B TD [sm] w wr
 hS:w.heap.size=S
 hE:S+1=E
 hB:B≤w.heap.size
 hsz:S+2≤wr.heap.size
section
variable {w wr w':World}{B db sm n S E:Nat}{t:Dk}
theorem GP.go {M:List Nat}(h:GP w wr B db sm n S E t) (hf:Fr 0 [] M wr w') (hM:∀x∈M,S+2≤x∧∃cs ty fr,wr.heap[x]?=some (.cells cs ty fr)∧ty∉TD):GP w w' B db sm n S E t:=by
 have h1:=h.hS
 have h2:=h.hE
 have h3:=h.hsz
 have hne:∀x,x<S+2→x∉M:=fun x hx hm=>by
  have:=(hM x hm).1
  omega
 refine⟨(hf.same0 (by omega) (hne S (by omega))).trans h.cS,(hf.same0 (by omega) (hne E (by omega))).trans h.cE,h.dk.fr hf (by simp) (fun hm=>?_) (fun x hx=>.inr (hM x hx).2),⟨h.fr.below.trans ⟨hf.below.os,hf.below.tape,hf.below.output,hf.below.size,fun b hb=>?_⟩,fun b o hb hm ht=>?_⟩,h1,h2,h.hB,?_⟩
 ·obtain⟨_,cs,ty,fr,hc,_⟩:=hM _ hm
  obtain⟨es,c,hk⟩:=h.dk.seen.kind
  rw [hk] at hc
  cases hc
 ·have:=h.hB
  exact hf.same0 (by omega) (hne b (by omega))
 ·have hb2:=heap_lt hb
  exact (hf.same0 (by omega) (hne b (by omega))).trans (h.fr.sp b o hb hm ht)
 ·have:=hf.size
  omega
theorem GP.below (h:GP w wr B db sm n S E t) (hb:Below wr.heap.size wr w'):GP w w' B db sm n S E t:=h.go (M:=[]) (Fr.of_below0 hb) (fun x hx=>by cases hx)
theorem GP.drewN (h:GP w wr B db sm n S E t) (q:Nat):GP w (wr.drewN q) B db sm n S E t :=
 ⟨h.cS,h.cE,h.dk.olds (Olds.drewN wr q),h.fr.trans (Fr.drewN' q),h.hS,h.hE,h.hB,h.hsz⟩
theorem GP.read (h:GP w wr B db sm n S E t) (hd:DK w' B db sm n t) (hf:Fr B TD [sm] wr w'):GP w w' B db sm n S E t:=by
 obtain⟨es,c,hk⟩:=h.dk.seen.kind
 refine⟨hf.keep h.cS (fun hm=>?_) (by decide),hf.keep h.cE (fun hm=>?_) (by decide),hd,h.fr.trans hf,h.hS,h.hE,h.hB,by have:=h.hsz;have:=hf.size;omega⟩
 ·have h9:=h.cS
  rw [List.mem_singleton.1 hm,hk] at h9
  cases h9
 ·have h9:=h.cE
  rw [List.mem_singleton.1 hm,hk] at h9
  cases h9
theorem GP.pan (h:GP w wr B db sm n S E t) {tmps:Array Value}{R:Ending→World→Prop}(h6:tmps[6]?=some (.pointer (some ⟨S,0,none⟩))) (h7:tmps[7]?=some (.pointer (some ⟨E,0,none⟩)))
  (hR:∀w',DK w' B db sm n t→Fr B TD [sm] w w'→R (.returned (.tuple #[.pointer none,.int .u16 61])) w'):Leaves Tryz.prog Tryz.f35 tmps R (defs S E) (.panicking (wrongs false)) wr :=
 good_pan h6 h7 h.cS h.cE fun w' hf=>by
  have h1:=h.hS
  have h2:=h.hE
  have h3:=h.hB
  obtain⟨es,c,hk⟩:=h.dk.seen.kind
  have hlt:∀b,b<w.heap.size→w'.heap[b]?=wr.heap[b]?:=fun b hb=>hf.same0 (by have:=h.hsz;omega) (by simp only [List.mem_cons,List.not_mem_nil,or_false,not_or];omega)
  refine hR w' (h.dk.fr hf (by simp) (fun hm=>?_) (fun x hx=>.inr ?_)) ⟨h.fr.below.trans ⟨hf.below.os,hf.below.tape,hf.below.output,hf.below.size,fun b hb=>hlt b (by omega)⟩,fun b o hb hm ht=>(hlt b (heap_lt hb)).trans (h.fr.sp b o hb hm ht)⟩
  ·simp only [List.mem_cons,List.not_mem_nil,or_false] at hm
   rcases hm with e | e
   ·have h9:=h.cS
    rw [← e,hk] at h9
    cases h9
   ·have h9:=h.cE
    rw [← e,hk] at h9
    cases h9
  ·simp only [List.mem_cons,List.not_mem_nil,or_false] at hx
   rcases hx with e | e
   ·subst e
    exact⟨_,_,_,h.cS,by decide⟩
   ·subst e
    exact⟨_,_,_,h.cE,by decide⟩
end
structure GL (w wr:World) (B db sm n S E rb tb:Nat) (t:Dk) (T1:List Bool) (secs:List Nat) (L:Nat) (so:Option Addr) (sc:Nat):Prop where
 gp:GP w wr B db sm n S E t
 cr:∃rv,wr.heap[rb]?=some (.cells #[rv,.slice (some ⟨tb,0,none⟩) n n] 122 (0,0))
 mrk:Marks wr w.heap.size tb n n T1
 row:wr.ownsRow w.heap.size 3 1 (.slice so L sc) L (nats secs)
section
variable {w wr w':World}{B db sm n S E rb tb L sc:Nat}{t:Dk}{T1:List Bool}{secs:List Nat}{so:Option Addr}
theorem GL.go {M:List Nat}(h:GL w wr B db sm n S E rb tb t T1 secs L so sc) (hf:Fr 0 [] M wr w') (hM:∀x∈M,S+2≤x∧(∃cs ty fr,wr.heap[x]?=some (.cells cs ty fr)∧ty∉TD∧ty≠3)∧x≠rb∧x≠tb):GL w w' B db sm n S E rb tb t T1 secs L so sc:=by
 obtain⟨rv,hc⟩:=h.cr
 refine⟨h.gp.go hf (fun x hx=>⟨(hM x hx).1,?_⟩),⟨rv,(hf.same0 (heap_lt hc) (fun hm=>(hM _ hm).2.2.1 rfl)).trans hc⟩,h.mrk.keep (hf.same0 h.mrk.lt (fun hm=>(hM _ hm).2.2.2 rfl)),ownsRow_blocks h.row fun b hb=>hf.same0 (ownsRow_block h.row hb).2 (fun hm=>?_)⟩
 ·obtain⟨cs,ty,fr,h1,h2,_⟩:=(hM x hx).2.1
  exact⟨cs,ty,fr,h1,h2⟩
 ·obtain⟨cs,ty,fr,h1,_,h2⟩:=(hM _ hm).2.1
  obtain⟨cur,h3⟩:=own_kind h.row hb
  rw [h3] at h1
  simp only [Option.some.injEq,Obj.cells.injEq] at h1
  exact h2 h1.2.1.symm
theorem GL.below (h:GL w wr B db sm n S E rb tb t T1 secs L so sc) (hb:Below wr.heap.size wr w'):GL w w' B db sm n S E rb tb t T1 secs L so sc:=h.go (M:=[]) (Fr.of_below0 hb) (fun x hx=>by cases hx)
theorem GL.drewN (h:GL w wr B db sm n S E rb tb t T1 secs L so sc) (q:Nat):GL w (wr.drewN q) B db sm n S E rb tb t T1 secs L so sc:=⟨h.gp.drewN q,h.cr,h.mrk.keep rfl,ownsRow_olds h.row (Olds.drewN wr q)⟩
theorem GL.read (h:GL w wr B db sm n S E rb tb t T1 secs L so sc) (hd:DK w' B db sm n t) (hf:Fr B TD [sm] wr w'):GL w w' B db sm n S E rb tb t T1 secs L so sc:=by
 obtain⟨es,c,hk⟩:=h.gp.dk.seen.kind
 obtain⟨rv,hc⟩:=h.cr
 have hne:∀{b:Nat}{cs:Array Value}{ty:TypeId}{fr:Nat×Nat},wr.heap[b]?=some (.cells cs ty fr)→b∉[sm]:=fun {b cs ty fr} hb hm=>by
  rw [List.mem_singleton.1 hm,hk] at hb
  cases hb
 exact⟨h.gp.read hd hf,⟨rv,hf.keep hc (hne hc) (by decide)⟩,⟨h.mrk.1,hf.keepRow h.mrk.2 (by decide) fun k hk2=>by
  obtain⟨cur,h1⟩:=own_kind h.mrk.2 hk2
  exact hne h1⟩,hf.keepRow h.row (by decide) fun k hk2=>by
  obtain⟨cur,h1⟩:=own_kind h.row hk2
  exact hne h1⟩
theorem GL.grow (h:GL w wr B db sm n S E rb tb t T1 secs L so sc) {v:Value}{m:Nat}{xs:List Value}(hr:wr.ownsRow (S+2) 5 1 v m xs) (hg:wr.grownBy w' v.ownBlock):GL w w' B db sm n S E rb tb t T1 secs L so sc:=by
 obtain⟨rv,hc⟩:=h.cr
 obtain⟨cur2,hc2⟩:=own_kind h.mrk.2 (g:=tb) rfl
 have hb:Below 0 wr w':=(Below.refl _ _).grown hg (Nat.zero_le _) (fun _ _=>Nat.zero_le _)
 cases hv:v.ownBlock with
 | none =>
  refine h.go (M:=[]) ⟨hb,fun b o hb _ _=>(hg.block b (heap_lt hb) (by rw [hv];simp)).trans hb⟩ (fun x hx=>by cases hx)
 | some k =>
  obtain⟨cur,h1⟩:=own_kind hr hv
  refine h.go (M:=[k]) ⟨hb,fun b o hb hm _=>(hg.block b (heap_lt hb) (by rw [hv];simpa using hm)).trans hb⟩ (fun x hx=>?_)
  simp only [List.mem_singleton] at hx
  subst hx
  refine⟨(ownsRow_block hr hv).1,⟨_,_,_,h1,by decide,by decide⟩,fun e=>?_,fun e=>?_⟩
  ·rw [e,hc] at h1
   simp at h1
  ·rw [e,hc2] at h1
   simp at h1
end
theorem slice_from {dg dn dc z:Nat}(h1:z≤dn) (h2:dn≤dc) (W:World):∃o2:Option Addr,(dn-z≠0→o2=some ⟨dg,z,none⟩)∧o2≠none∧(Instr.slice 34 (.slice (some ⟨dg,0,none⟩) dn dc) (some (.int .i64 (z:Nat))) none none).run Tryz.prog W=.ok (.slice o2 (dn-z) (dc-z)) W:=by
 by_cases h:dc=z
 ·refine⟨some ⟨dg,0,none⟩,fun h9=>by omega,by simp,?_⟩
  have e1:((z:Nat):Int)≤(dn:Int):=by omega
  have e2:((dn:Nat):Int)≤(dc:Int):=by omega
  go_simp
 ·refine⟨some ⟨dg,z,none⟩,fun h9=>rfl,by simp,?_⟩
  have e1:((z:Nat):Int)≤(dn:Int):=by omega
  have e2:((dn:Nat):Int)≤(dc:Int):=by omega
  go_simp
theorem GP.leave {w wr w':World}{B db sm n S E:Nat}{t:Dk}(h:GP w wr B db sm n S E t) (hf:Fr 0 [] [S,E] wr w'):DK w' B db sm n t∧Fr B TD [sm] w w':=by
 have h1:=h.hS
 have h2:=h.hE
 have h3:=h.hB
 obtain⟨es,c,hk⟩:=h.dk.seen.kind
 have hlt:∀b,b<w.heap.size→w'.heap[b]?=wr.heap[b]?:=fun b hb=>hf.same0 (by have:=h.hsz;omega) (by simp only [List.mem_cons,List.not_mem_nil,or_false,not_or];omega)
 refine⟨h.dk.fr hf (by simp) (fun hm=>?_) (fun x hx=>.inr ?_),⟨h.fr.below.trans ⟨hf.below.os,hf.below.tape,hf.below.output,hf.below.size,fun b hb=>hlt b (by omega)⟩,fun b o hb hm ht=>(hlt b (heap_lt hb)).trans (h.fr.sp b o hb hm ht)⟩⟩
 ·simp only [List.mem_cons,List.not_mem_nil,or_false] at hm
  rcases hm with e | e
  ·have h9:=h.cS
   rw [← e,hk] at h9
   cases h9
  ·have h9:=h.cE
   rw [← e,hk] at h9
   cases h9
 ·simp only [List.mem_cons,List.not_mem_nil,or_false] at hx
  rcases hx with e | e
  ·subst e
   exact⟨_,_,_,h.cS,by decide⟩
  ·subst e
   exact⟨_,_,_,h.cE,by decide⟩
theorem SMap.low {w:World}{B B' tb mb nm:Nat}{l:Fs}(h:SMap w B tb mb nm l) (hB:B'≤B):SMap w B' tb mb nm l:=by
 obtain⟨D,h1,h2,h3⟩:=h
 exact⟨D,h1,h2,fun s=>⟨(h3 s).1,fun f hf=>by
  obtain⟨v,a1,a2,a3⟩:=(h3 s).2 f hf
  exact⟨v,ownsRow_mono a1 hB,a2,a3⟩⟩⟩
theorem store_fresh {w W:World}{B sb tb tc nb xb nm:Nat}{dv:Value}{g:G}(h:SR w B sb tb tc nb xb nm (.slice none 0 0) dv g) (hu:g.undo=[]) (hm:∀(b:Nat) (es:Array MapEntry) (c:Nat),w.heap[b]?=some (.map es c)→W.heap[b]?=some (.map es c)) (hc:∀(b:Nat) (cs:Array Value) (fr:Nat×Nat),w.heap[b]?=some (.cells cs 3 fr)→W.heap[b]?=some (.cells cs 3 fr)):SR W B sb tb tc nb xb nm (.slice none 0 0) dv g:=by
 obtain⟨es,c,hk⟩:=h.now.kind
 obtain⟨es',c',hk'⟩:=h.next.kind
 have hrow:∀{v:Value}{m:Nat}{xs:List Value},w.ownsRow B 3 1 v m xs→W.ownsRow B 3 1 v m xs:=fun {v m xs} hr=>ownsRow_blocks hr fun k hk=>by
  obtain⟨cur,h1⟩:=own_kind hr hk
  rw [h1]
  exact hc _ _ _ h1
 refine⟨h.bnb,h.bxb,h.nx,h.now.keep ((hm _ _ _ hk).trans hk.symm) (fun b cs fr _=>hc b cs fr),h.next.keep ((hm _ _ _ hk').trans hk'.symm) (fun b cs fr _=>hc b cs fr),hrow h.taken,hrow h.dir,h.dirne,?_,h.fok,h.fokx⟩
 rw [hu]
 exact⟨[],World.ownsRow_nil _ _ _ _,rfl,fun i p hp=>by simp at hp⟩
theorem good_fin {w wM W:World}{B db sm n S E sb tb nb xb nm which gen:Nat}{t:Dk}{dv:Value}{secs:List Nat}{F:Fs}(hG:GP w wM B db sm n S E t) (hsb:S+2≤sb) (hc:SCell wM sb db tb n nb xb n which gen (.slice none 0 0) dv) (hr:∀sb',SR wM B sb' tb n nb xb nm (.slice none 0 0) dv (opened n secs F)) (hW:W=(wM.setCell ⟨S,0,none⟩ (.pointer (some ⟨sb,0,none⟩))).setCell ⟨E,0,none⟩ (.int .u16 0)) :
  W.heap[S]?=some (.cells #[.pointer (some ⟨sb,0,none⟩)] 30 (0,0))∧W.heap[E]?=some (.cells #[.int .u16 0] 27 (0,0))∧DK W B db sm n t∧Fr B TD [sm] w W∧SCell W sb db tb n nb xb n which gen (.slice none 0 0) dv∧∀sb',SR W B sb' tb n nb xb nm (.slice none 0 0) dv (opened n secs F):=by
 have hE:=hG.hE
 have hne:S≠E:=by omega
 have hk:∀b,b≠S→b≠E→W.heap[b]?=wM.heap[b]?:=fun b h1 h2=>by
  rw [hW]
  exact (Below.heap_setCell _ _ _ _ h2).trans (Below.heap_setCell _ _ _ _ h1)
 have h1:W.heap[S]?=some (.cells #[.pointer (some ⟨sb,0,none⟩)] 30 (0,0)):=by
  rw [hW,Below.heap_setCell _ _ _ _ (show S≠E from hne)]
  simp [World.setCell,Array.getElem?_modify,hG.cS]
 have h2:W.heap[E]?=some (.cells #[.int .u16 0] 27 (0,0)):=by
  have h9:(wM.setCell ⟨S,0,none⟩ (.pointer (some ⟨sb,0,none⟩))).heap[E]?=some (.cells #[.int .u16 0] 27 (0,0)):=(Below.heap_setCell _ _ _ _ (Ne.symm hne)).trans hG.cE
  rw [hW]
  generalize wM.setCell ⟨S,0,none⟩ (.pointer (some ⟨sb,0,none⟩))=A at h9
  simp [World.setCell,Array.getElem?_modify,h9]
 have hf:Fr 0 [] [S,E] wM W:=by
  refine⟨?_,fun b o hb hm _=>?_⟩
  ·rw [hW]
   exact ((Below.refl _ _).setCell (Nat.zero_le _) _).setCell (Nat.zero_le _) _
  ·simp only [List.mem_cons,List.not_mem_nil,or_false,not_or] at hm
   rw [hk b hm.1 hm.2]
   exact hb
 obtain⟨h3,h4⟩:=hG.leave hf
 refine⟨h1,h2,h3,h4,(hk sb (by omega) (by omega)).trans hc,fun sb'=>store_fresh (hr sb') rfl (fun b es c hb=>?_) (fun b cs fr hb=>?_)⟩
 ·refine (hk b (fun e=>?_) (fun e=>?_)).trans hb
  ·rw [e,hG.cS] at hb
   cases hb
  ·rw [e,hG.cE] at hb
   cases hb
 ·refine (hk b (fun e=>?_) (fun e=>?_)).trans hb
  ·rw [e,hG.cS] at hb
   simp at hb
  ·rw [e,hG.cE] at hb
   simp at hb
end Go.Proofs.YtndjmffnlcilbaaGreatDoor
