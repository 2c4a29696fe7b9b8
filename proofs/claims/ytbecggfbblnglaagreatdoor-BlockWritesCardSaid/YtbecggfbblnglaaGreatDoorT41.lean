/- Contracts over this program. Their conditions: the slices read as the lists that are named, and lie within the sizes that are named. -/
import Derived.Test.YtbecggfbblnglaaGreatDoorT36
import Derived.Test.YtbecggfbblnglaaGreatDoorK39
import Derived.Test.YtbecggfbblnglaaGreatDoorT40
import Derived.Test.YtbecggfbblnglaaGreatDoorRows
import Derived.Test.YtbecggfbblnglaaGreatDoorCards
import Derived.Test.YtbecggfbblnglaaGreatDoorTie
import Derived.ProofKit
import Derived.SizedLaws
import Derived.LaidMore
import Derived.LaidHandle
import Derived.LaidLaws
import Derived.OpenShut
import Derived.Lay
import Derived.SevenTiedAt
set_option linter.unusedSimpArgs false
set_option linter.unusedVariables false
set_option linter.deprecated false
set_option linter.unnecessarySimpa false
namespace Go.Proofs.YtbecggfbblnglaaGreatDoor
open Go Go.ChangeShapes Go.WideShapes Go.ChangeAt Go.RowKit Go.Ix Go.Gor
theorem Tryz.own:ownKnob Tryz.prog.godebug=none:=by kernel_rfl
theorem Tryz.laidOut:laidOutB Tryz.prog=true:=by kernel_rfl
theorem begin_size:(begin Tryz.prog (fun _ _=>0) default).world.heap.size=11:=by kernel_rfl
theorem gsize:Tryz.prog.globals.size=6:=by kernel_rfl
theorem et:Tryz.prog.globalNamed "errors.errorType"=some 0:=by kernel_rfl
theorem rt:(Tryz.prog.cutTypes.find? (·.1 == "internal/reflectlite.rtype")).map (·.2)=some 325:=by kernel_rfl
theorem tsize:Tryz.prog.types.size=542:=by kernel_rfl
theorem oneRow:((List.range 542).filter fun t=>Tryz.prog.rowNamed t [101,114,114,111,114])=[82]:=by kernel_rfl
theorem open_big {w:World}(h:w.ShapedOpen Tryz.prog):11≤w.heap.size:=by
 obtain⟨o,_,h1,_⟩:=h.2 (11-1) (by rw [gsize];omega) (by rw [begin_size];omega)
 rcases Nat.lt_or_ge (11-1) w.heap.size with h2 | h2
 ·omega
 ·rw [Array.getElem?_eq_none h2] at h1;cases h1
noncomputable def lst:List (String×DataW Unit):=[("math/bits.deBruijn64tab",Rows.laid_math_bits_deBruijn64tab),("unicode/utf8.acceptRanges",Rows.laid_unicode_utf8_acceptRanges),("barograph/barographref10.buckets",Rows.laid_barograph_barographref10_buckets),("unicode/utf8.first",Rows.laid_unicode_utf8_first)]
noncomputable def hnd:List (String×DataW Unit):=[("errors.errorType",Rows.laid_errors_errorType)]
theorem laid_split {W:World}(h:laidMetH Tryz.prog Rows.blockWritesRow.laid W):laidMet Tryz.prog lst W∧handlesMet Tryz.prog hnd W:=h
theorem err_laid {W:World}(h:laidMetH Tryz.prog Rows.blockWritesRow.laid W):ErrG W:=by
 obtain⟨name,u,ty,e1,e2,e3,e4,e5⟩:=(laid_split h).2 _ (List.mem_singleton.2 rfl)
 have en:name=[101,114,114,111,114]:=(Option.some.inj e1).symm
 subst en
 obtain rfl:=Option.some.inj (rt.symm.trans e2)
 have hm:ty∈(List.range 542).filter fun t=>Tryz.prog.rowNamed t [101,114,114,111,114]:=List.mem_filter.2 ⟨List.mem_range.2 (by rw [← tsize];exact e3),e4⟩
 rw [oneRow] at hm
 obtain rfl:=List.mem_singleton.1 hm
 have hh:typeHandle Tryz.prog 82=.pointer (some ⟨6,82,none⟩):=by kernel_rfl
 rw [hh] at e5
 unfold ErrG
 simpa using World.var?_cell et e5 0
theorem tab_laid {W:World}(h:laidMetH Tryz.prog Rows.blockWritesRow.laid W):TabG W:=by
 obtain⟨ps,⟨g,t,cs,fuel,p,q,hg,ht,hv,hd,_,_⟩,_,_⟩:=(laid_split h).1
 obtain rfl:=Option.some.inj ((show Tryz.prog.globalNamed "math/bits.deBruijn64tab"=some 2 by kernel_rfl).symm.trans hg)
 obtain rfl:=Option.some.inj ((show (Tryz.prog.globals[2]?).map (·.type)=some 429 by kernel_rfl).symm.trans ht)
 obtain⟨xs,m,_,ex,_,hl,hel⟩:=DataW.trod_array Tryz.underlying429 hd
 intro r x hx
 have hr:r<64:=(List.getElem?_eq_some_iff.1 hx).1
 have hE:=hel r hr
 rw [Tryz.cells5,Nat.mul_one,List.getElem?_eq_getElem (by omega)] at hE
 obtain⟨z,e1,e2,_⟩:=DataW.trod_int Tryz.underlying5 hE
 have e3:(xs.map (·.1))=tab64.map fun (n:Nat)=>.lit (.int .u8 (n:Int)):=(DataW.agg.inj (Prod.mk.inj ex).1).symm
 have e4:(xs.map (·.1))[r]?=(tab64.map fun (n:Nat)=>(DataW.lit (.int .u8 (n:Int)):DataW Unit))[r]?:=by rw [e3]
 rw [List.getElem?_map,List.getElem?_map,List.getElem?_eq_getElem (by omega:r<xs.length),hx,e2] at e4
 simp only [Option.map_some,Option.some.injEq,DataW.lit.injEq,Lit.int.injEq,true_and] at e4
 rw [World.var?_cell hg hv r,← e4]
 have:cs.toList[r]?=some (.int .u8 z):=by
  have h0:((cs.toList.drop r).take 1)[0]?=some (.int .u8 z):=by rw [e1];rfl
  simpa using h0
 simpa using this
def rowD (x:Bk):DataW Unit:=.slice [.lit (.int .i64 (x.1:Nat)),.lit (.int .i64 (x.2.1:Nat)),.lit (.int .i64 x.2.2.1),.lit (.int .i64 x.2.2.2.1),.lit (.int .i64 (x.2.2.2.2:Nat))] []
theorem Tryz.cells182:Tryz.prog.cellsOf 182=1:=by kernel_rfl
theorem bk_laid {W:World}(h8:11≤W.heap.size) (h:laidMetH Tryz.prog Rows.blockWritesRow.laid W):BkG W W.heap.size:=by
 obtain⟨ps,⟨_,_,_,_,_,_,_,_,_,_,⟨_,_,_,_,_,_,_,_,_,_,⟨g,t,cs,fuel,p,q,hg,ht,hv,hd,_,_⟩,_⟩,_⟩,_,_⟩:=(laid_split h).1
 obtain rfl:=Option.some.inj ((show Tryz.prog.globalNamed "barograph/barographref10.buckets"=some 1 by kernel_rfl).symm.trans hg)
 obtain rfl:=Option.some.inj ((show (Tryz.prog.globals[1]?).map (·.type)=some 37 by kernel_rfl).symm.trans ht)
 have hd2:DataW.trod (fun _=>()) Tryz.prog W 0 (fun _=>true) false fuel 37 cs.toList=some (.slice (rowsB.map rowD) [],p):=hd
 obtain⟨b,off,c,hcs,hrow⟩:=slice_laid Tryz.underlying37 Tryz.cells182 hd2 (by simp [rowsB])
 have h1:W.cell? ⟨1,0,none⟩=some (.slice (some ⟨b,off,none⟩) 3 c):=by
  rw [World.var?_cell hg hv 0,← Array.getElem?_toList,hcs]
  rfl
 obtain⟨v0,_,_,hv0,_⟩:=hrow 0 _ rfl
 refine⟨b,off,c,by omega,cell_lt hv0,h1,fun k x hx=>?_⟩
 obtain⟨v,n,q2,hc,hty⟩:=hrow k (rowD x) (by rw [List.getElem?_map,hx];rfl)
 obtain⟨d,o2,e,hvs,hints⟩:=slice_laid Tryz.underlying182 Tryz.cells2 hty (by simp)
 obtain rfl:=(List.cons.inj hvs).1
 have hat:∀(j:Nat) (z:Int),([((x.1:Nat):Int),((x.2.1:Nat):Int),x.2.2.1,x.2.2.2.1,((x.2.2.2.2:Nat):Int)]:List Int)[j]?=some z→W.cell? ⟨d,o2+j,none⟩=some (.int .i64 z):=fun j z hz=>by
  obtain⟨u,m,q3,hu,htu⟩:=hints j (.lit (.int .i64 z)) (by
   match j,hz with
   | 0,hz=>cases hz;rfl
   | 1,hz=>cases hz;rfl
   | 2,hz=>cases hz;rfl
   | 3,hz=>cases hz;rfl
   | 4,hz=>cases hz;rfl)
  obtain⟨y,e1,e2,_⟩:=DataW.trod_int Tryz.underlying2 htu
  simp only [Prod.mk.injEq,DataW.lit.injEq,Lit.int.injEq,true_and] at e2
  rw [hu,(List.cons.inj e1).1,e2.1]
 have h0:=hat 0 _ rfl
 exact⟨d,o2,e,cell_lt h0,hc,h0,hat 1 _ rfl,hat 2 _ rfl,hat 3 _ rfl,hat 4 _ rfl⟩
noncomputable def laidW (os:Os):World :=
 let w0:=World.laidAll Tryz.prog os lst
 { w0 with heap:=w0.heap.modify 0 fun
   | .cells _ t frozen=>.cells #[.iface 325 (.agg #[.pointer (some ⟨6,82,none⟩)])] t frozen
   | o=>o }
theorem laidW_met (os:Os) (args:Array Value):laidMetH Tryz.prog Rows.blockWritesRow.laid ((laidW os).forCall (fun _ _=>0) ⟨#[],args,[]⟩).memory :=
 laidMetH_of_parts (show laidMet Tryz.prog lst _ from laidMet_of_run' 8 (by kernel_rfl) (by kernel_rfl)) (by kernel_rfl)
section
variable {H:Type}{enc:TypeId×Value→H}
theorem returns_of_change_big {C:Checked}{N:Nat}(big:∀w:World,w.ShapedOpen C.prog→N≤w.heap.size) {os:Os}{f:FuncId}{fn:Func}{s:ChangeSpec}{conds:List PathCond}{apart fresh handsOn again:Bool}{X:World→Array Value→Prop}
  (hX:∀(w w':World) (args:Array Value),w.heap=w'.heap→X w args→X w' args)
  (own:ownKnob C.prog.godebug=none) (started:os.Started) (noInit:C.prog.inits.idxOf? f=none) (hfn:C.prog.funcs[f]?=some fn)
  (witness:∃(w:World) (tape:Tape) (i:Input),w.os=os∧(w.forCall tape i).Shaped C.prog∧i.vars=[]∧Input.okWide C.prog (w.forCall tape i) .any w.heap.size f i∧
   ((s.pre enc C.prog fn conds apart (w.forCall tape i).memory i.args∧X (w.forCall tape i).memory i.args)∧sizedMet enc C.prog fn (OpenSpec.ofChange s) apart (w.forCall tape i).memory i.args)∧({}:Assume).holds C.prog (lone (Frame.enter C.prog f i.args .normal) [] (w.forCall tape i)))
  (contract:∀(W:World) (base:Nat) (args:Array Value) (ds gs:List (DataW H)) (before:List MemPlace),N≤W.heap.size →
   (∀(j:Nat) t v,fn.params[j]?=some t→args[j]?=some v→Value.okWide C.prog W .any base t v) →
   DataW.Whole enc C.prog fn.params.toList s.vars apart W args.toList ds gs before →
   (DataW.weightsEach C.prog (fn.params.toList++s.plain.varTypes C.prog) (ds++gs)).all (·≤reachBytes)=true→X W args →
   Calls C.prog f args W fun e W'=>∃v,e=.returned v∧s.post enc C.prog fn apart fresh handsOn again W args v W') :
  ReturnsInHanded {} C os f .any (fun w args=>(s.pre enc C.prog fn conds apart w args∧X w args)∧sizedMet enc C.prog fn (OpenSpec.ofChange s) apart w args) (s.post enc C.prog fn apart fresh handsOn again):=by
 refine returnsInHanded_of_calls own started noInit witness ?_
 intro w tape i _ hsh _ hok hpre hholds
 obtain⟨_,_,_,fn',hfn',_,_,_,_,hval⟩:=hok
 have e:fn'=fn:=Option.some.inj (hfn'.symm.trans hfn)
 subst e
 obtain⟨⟨⟨ds,gs,before,hw,hc⟩,hx⟩,hz⟩:=hpre
 have hw':=DataW.Whole.of_heap (w':=w.forCall tape i) (by rfl) hw
 refine (contract (w.forCall tape i) w.heap.size i.args ds gs before (big _ hsh) hval hw' (hz.weights hw) (hX _ _ _ (by rfl) hx)).mono fun e W' ⟨v,he,hp⟩=>?_
 subst he
 exact ChangeSpec.post_blind hp
end
theorem known_true:Go.Eng.KX.resL=.bool true:=by kernel_rfl
theorem known_ok {W:World}(hg:ErrG W) (ht:TabG W) (h8:11≤W.heap.size):Calls Tryz.prog 11 #[] W fun e W'=>e=.returned (.bool true)∧Below W.heap.size W W':=by
 rw [← known_true]
 exact Go.Eng.KX.known_calls W (by rw [Go.Eng.KX.gsize5];omega) ⟨hg,ht,h8⟩
set_option maxRecDepth 100000 in
set_option maxHeartbeats 2000000 in
theorem writes_lifted (os:Os) (started:os.Started) (H:Type) (enc:TypeId×Value→H) :
  ReturnsInHanded {} Tryz.checked os 3 .any (fun w args=>(Rows.blockWritesSpec.pre enc Tryz.prog Tryz.f3 [] false w args∧laidMetH Tryz.prog Rows.blockWritesRow.laid w)∧sizedMet enc Tryz.prog Tryz.f3 (OpenSpec.ofChange Rows.blockWritesSpec) false w args)
   (Rows.blockWritesSpec.post enc Tryz.prog Tryz.f3 false true false false):=by
 refine returns_of_change_big (C:=Tryz.checked) (N:=11) (fun w h=>open_big h) (X:=fun w _=>laidMetH Tryz.prog Rows.blockWritesRow.laid w) (fun _ _ _ hh h=>h.of_heap hh) Tryz.own started (by kernel_rfl) Tryz.func3
  (ChangeSpec.witness_shaped (enc:=enc) (C:=Tryz.checked) (os:=os) (X:=fun w _=>laidMetH Tryz.prog Rows.blockWritesRow.laid w) false (laidW os) #[.int .u32 0,.int .i64 0,.slice none 0 0] 8 (by first | rfl | exact World.laidAll_os _ _ _)
   (World.shaped_of_ZipB (by kernel_rfl) (by kernel_rfl)) (by kernel_rfl) (by kernel_rfl) (by kernel_rfl)
   (laidW_met os _)) ?_
 intro W base args ds gs before hbig hval0 hW hsz0 hL
 have hsz:(DataW.weightsEach Tryz.prog (Tryz.f3.params.toList++Rows.blockWritesSpec.plain.varTypes Tryz.prog) (ds++gs)).all (·≤reachBytes)=true:=hsz0
 clear hsz0
 have hval:∀(j:Nat) t v,Tryz.f3.params[j]?=some t→args[j]?=some v→Value.okWide Tryz.prog W .any base t v:=hval0
 have hW':=hW
 obtain⟨p,q,hA0,hV,rfl,_,_⟩:=hW
 have hA:DataW.TrodAll enc Tryz.prog W 0 (fun _=>true) true Tryz.f3.params.toList args.toList ds p:=hA0
 rw [Tryz.params3] at hA hval hsz
 obtain⟨v0,v1,v2,d0,d1,d2,p0,p1,p2,rfl,rfl,rfl,h0,h1,h2⟩:=trodAll_three hA
 obtain⟨rfl,rfl⟩:=trodVars_none hV
 obtain⟨x0,rfl⟩:=okWide_int Tryz.underlying22 (hval 0 22 v0 rfl rfl)
 obtain⟨x1,rfl⟩:=okWide_int Tryz.underlying3 (hval 1 3 v1 rfl rfl)
 obtain⟨a2,l2,c2,rfl⟩:=okWide_slice Tryz.underlying23 (hval 2 23 v2 rfl rfl)
 have h0k:=h0
 have h1k:=h1
 have h2k:=h2
 obtain⟨fu0,hf0⟩:=h0
 obtain⟨fu1,hf1⟩:=h1
 obtain⟨fu2,hf2⟩:=h2
 obtain⟨z0,e0,_,w0⟩:=DataW.trod_int Tryz.underlying22 hf0
 obtain⟨z1,e1,_,w1⟩:=DataW.trod_int Tryz.underlying3 hf1
 simp [Value.cells] at e0 e1
 subst e0 e1
 simp only [Lit.wf,Bool.and_eq_true,decide_eq_true_eq] at w0 w1
 have w0:(0:Int)≤x0∧x0≤(4294967295:Int):=w0
 have w1:(-9223372036854775808:Int)≤x1∧x1≤(9223372036854775807:Int):=w1
 obtain⟨id,rfl⟩:∃id:Nat,x0=(id:Int):=⟨x0.toNat,(Int.toNat_of_nonneg w0.1).symm⟩
 obtain⟨o,n,c,l,hcs,hl,hr,hv,h64⟩:=sers_in hf2 (fun n hn=>by
  have:=List.all_eq_true.1 hsz n (DataW.weights_mem_each (j:=2) rfl rfl n hn)
  simpa using this)
 simp [Value.cells] at hcs
 obtain⟨rfl,rfl,rfl⟩:=hcs
 clear hA0 hval0
 simp only [List.append_nil] at hW'
 have hlt0:∀x∈p0,x.block<W.heap.size:=fun x hx=>hW'.lt x (by simp [hx])
 have hlt1:∀x∈p1,x.block<W.heap.size:=fun x hx=>hW'.lt x (by simp [hx])
 have hlt2:∀x∈p2,x.block<W.heap.size:=fun x hx=>hW'.lt x (by simp [hx])
 have hE:=err_laid hL
 have hT:=tab_laid hL
 have hB:=bk_laid hbig hL
 refine (writes_any _ _ _ id _ l W hbig (by omega) w1 hl hv h64 hr hT hE hB Go.Eng.KX.halfOk (fun W2 e1 e2 e3=>known_ok e1 e2 e3)).mono fun e W' ⟨he,hnx⟩=>?_
 subst he
 exact⟨_,rfl,_,_,_,[],_,[],hW',trodAll_mk1 (shut_bool Tryz.underlying4 _),
  trodAll_mk3 (Below.trod Tryz.laidOut (by kernel_rfl) (of_decide_eq_true (by kernel_rfl)) h0k hnx hlt0) (Below.trod Tryz.laidOut (by kernel_rfl) (of_decide_eq_true (by kernel_rfl)) h1k hnx hlt1) (Below.trod Tryz.laidOut (by kernel_rfl) (of_decide_eq_true (by kernel_rfl)) h2k hnx hlt2),rfl,hnx.frame _,fun h=>by cases h⟩
theorem writes_holds:Rows.BlockWritesSaid :=
 OpenClaim.holds_of_wide 3 Tryz.f3 rfl rfl rfl rfl rfl rfl rfl ⟨rfl,rfl,rfl,rfl,rfl⟩ rfl rfl rfl rfl rfl (by kernel_rfl) Tryz.func3 row_facts
  (of_decide_eq_true (by kernel_rfl)) (by unfold Func.isWrapper;first | (rw [if_pos (by decide +kernel)];kernel_rfl) | (rw [if_neg (by decide +kernel)];exact⟨rfl,rfl⟩))
  (fun os started H enc _=>writes_lifted os started H enc)
end Go.Proofs.YtbecggfbblnglaaGreatDoor
