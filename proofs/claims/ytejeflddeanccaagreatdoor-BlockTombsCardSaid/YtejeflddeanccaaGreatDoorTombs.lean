/- The law BlockTombs of barographlaw15, for every input: it returns true, and its arguments read as before. No conditions of ours; the card ties the listed variables of the library. -/
import Derived.Test.YtejeflddeanccaaGreatDoorT4
import Derived.Test.YtejeflddeanccaaGreatDoorT13
import Derived.Test.YtejeflddeanccaaGreatDoorK16
import Derived.Test.YtejeflddeanccaaGreatDoorT17
import Derived.Test.YtejeflddeanccaaGreatDoorRows
import Derived.Test.YtejeflddeanccaaGreatDoorCards
import Derived.Test.YtejeflddeanccaaGreatDoorTie
import Derived.ProofKit
import Derived.SizedLaws
import Derived.LaidMore
import Derived.LaidHandle
import Derived.LaidLaws
import Derived.OpenShut
import Derived.Lay
import Derived.SevenTiedAt
set_option linter.unusedSimpArgs false
set_option linter.unusedVariables false
set_option linter.deprecated false
set_option linter.unnecessarySimpa false
namespace Go.Proofs.YtejeflddeanccaaGreatDoor
open Go Go.ChangeShapes Go.WideShapes Go.ChangeAt Go.RowKit Go.Ix Go.Tm
theorem Tryz.own:ownKnob Tryz.prog.godebug=none:=by kernel_rfl
theorem Tryz.laidOut:laidOutB Tryz.prog=true:=by kernel_rfl
theorem begin_size:(begin Tryz.prog (fun _ _=>0) default).world.heap.size=10:=by kernel_rfl
theorem gsize:Tryz.prog.globals.size=5:=by kernel_rfl
theorem et:Tryz.prog.globalNamed "errors.errorType"=some 0:=by kernel_rfl
theorem rt:(Tryz.prog.cutTypes.find? (·.1 == "internal/reflectlite.rtype")).map (·.2)=some 175:=by kernel_rfl
theorem tsize:Tryz.prog.types.size=433:=by kernel_rfl
theorem oneRow:((List.range 433).filter fun t=>Tryz.prog.rowNamed t [101,114,114,111,114])=[52]:=by kernel_rfl
theorem open_big {w:World}(h:w.ShapedOpen Tryz.prog):10≤w.heap.size:=by
 obtain⟨o,_,h1,_⟩:=h.2 (10-1) (by rw [gsize];omega) (by rw [begin_size];omega)
 rcases Nat.lt_or_ge (10-1) w.heap.size with h2 | h2
 ·omega
 ·rw [Array.getElem?_eq_none h2] at h1;cases h1
noncomputable def lst:List (String×DataW Unit):=[("math/bits.deBruijn64tab",Rows.laid_math_bits_deBruijn64tab),("unicode/utf8.acceptRanges",Rows.laid_unicode_utf8_acceptRanges),("unicode/utf8.first",Rows.laid_unicode_utf8_first)]
noncomputable def hnd:List (String×DataW Unit):=[("errors.errorType",Rows.laid_errors_errorType)]
theorem laid_split {W:World}(h:laidMetH Tryz.prog Rows.blockTombsRow.laid W):laidMet Tryz.prog lst W∧handlesMet Tryz.prog hnd W:=h
theorem err_laid {W:World}(h:laidMetH Tryz.prog Rows.blockTombsRow.laid W):ErrG W:=by
 obtain⟨name,u,ty,e1,e2,e3,e4,e5⟩:=(laid_split h).2 _ (List.mem_singleton.2 rfl)
 have en:name=[101,114,114,111,114]:=(Option.some.inj e1).symm
 subst en
 obtain rfl:=Option.some.inj (rt.symm.trans e2)
 have hm:ty∈(List.range 433).filter fun t=>Tryz.prog.rowNamed t [101,114,114,111,114]:=List.mem_filter.2 ⟨List.mem_range.2 (by rw [← tsize];exact e3),e4⟩
 rw [oneRow] at hm
 obtain rfl:=List.mem_singleton.1 hm
 have hh:typeHandle Tryz.prog 52=.pointer (some ⟨5,52,none⟩):=by kernel_rfl
 rw [hh] at e5
 unfold ErrG
 simpa using World.var?_cell et e5 0
theorem tab_laid {W:World}(h:laidMetH Tryz.prog Rows.blockTombsRow.laid W):TabG W:=by
 obtain⟨ps,⟨g,t,cs,fuel,p,q,hg,ht,hv,hd,_,_⟩,_,_⟩:=(laid_split h).1
 obtain rfl:=Option.some.inj ((show Tryz.prog.globalNamed "math/bits.deBruijn64tab"=some 2 by kernel_rfl).symm.trans hg)
 obtain rfl:=Option.some.inj ((show (Tryz.prog.globals[2]?).map (·.type)=some 340 by kernel_rfl).symm.trans ht)
 obtain⟨xs,m,_,ex,_,hl,hel⟩:=DataW.trod_array Tryz.underlying340 hd
 intro r x hx
 have hr:r<64:=(List.getElem?_eq_some_iff.1 hx).1
 have hE:=hel r hr
 rw [Tryz.cells5,Nat.mul_one,List.getElem?_eq_getElem (by omega)] at hE
 obtain⟨z,e1,e2,_⟩:=DataW.trod_int Tryz.underlying5 hE
 have e3:(xs.map (·.1))=tab64.map fun (n:Nat)=>.lit (.int .u8 (n:Int)):=(DataW.agg.inj (Prod.mk.inj ex).1).symm
 have e4:(xs.map (·.1))[r]?=(tab64.map fun (n:Nat)=>(DataW.lit (.int .u8 (n:Int)):DataW Unit))[r]?:=by rw [e3]
 rw [List.getElem?_map,List.getElem?_map,List.getElem?_eq_getElem (by omega:r<xs.length),hx,e2] at e4
 simp only [Option.map_some,Option.some.injEq,DataW.lit.injEq,Lit.int.injEq,true_and] at e4
 rw [World.var?_cell hg hv r,← e4]
 have:cs.toList[r]?=some (.int .u8 z):=by
  have h0:((cs.toList.drop r).take 1)[0]?=some (.int .u8 z):=by rw [e1];rfl
  simpa using h0
 simpa using this
noncomputable def laidW (os:Os):World :=
 let w0:=World.laidAll Tryz.prog os lst
 { w0 with heap:=w0.heap.modify 0 fun
   | .cells _ t frozen=>.cells #[.iface 175 (.agg #[.pointer (some ⟨5,52,none⟩)])] t frozen
   | o=>o }
theorem laidW_met (os:Os) (args:Array Value):laidMetH Tryz.prog Rows.blockTombsRow.laid ((laidW os).forCall (fun _ _=>0) ⟨#[],args,[]⟩).memory :=
 laidMetH_of_parts (show laidMet Tryz.prog lst _ from laidMet_of_run' 8 (by kernel_rfl) (by kernel_rfl)) (by kernel_rfl)
section
variable {H:Type}{enc:TypeId×Value→H}
theorem returns_of_change_big {C:Checked}{N:Nat}(big:∀w:World,w.ShapedOpen C.prog→N≤w.heap.size) {os:Os}{f:FuncId}{fn:Func}{s:ChangeSpec}{conds:List PathCond}{apart fresh handsOn again:Bool}{X:World→Array Value→Prop}
  (hX:∀(w w':World) (args:Array Value),w.heap=w'.heap→X w args→X w' args)
  (own:ownKnob C.prog.godebug=none) (started:os.Started) (noInit:C.prog.inits.idxOf? f=none) (hfn:C.prog.funcs[f]?=some fn)
  (witness:∃(w:World) (tape:Tape) (i:Input),w.os=os∧(w.forCall tape i).Shaped C.prog∧i.vars=[]∧Input.okWide C.prog (w.forCall tape i) .any w.heap.size f i∧
   ((s.pre enc C.prog fn conds apart (w.forCall tape i).memory i.args∧X (w.forCall tape i).memory i.args)∧sizedMet enc C.prog fn (OpenSpec.ofChange s) apart (w.forCall tape i).memory i.args)∧({}:Assume).holds C.prog (lone (Frame.enter C.prog f i.args .normal) [] (w.forCall tape i)))
  (contract:∀(W:World) (base:Nat) (args:Array Value) (ds gs:List (DataW H)) (before:List MemPlace),N≤W.heap.size →
   (∀(j:Nat) t v,fn.params[j]?=some t→args[j]?=some v→Value.okWide C.prog W .any base t v) →
   DataW.Whole enc C.prog fn.params.toList s.vars apart W args.toList ds gs before →
   (DataW.weightsEach C.prog (fn.params.toList++s.plain.varTypes C.prog) (ds++gs)).all (·≤reachBytes)=true→X W args →
   Calls C.prog f args W fun e W'=>∃v,e=.returned v∧s.post enc C.prog fn apart fresh handsOn again W args v W') :
  ReturnsInHanded {} C os f .any (fun w args=>(s.pre enc C.prog fn conds apart w args∧X w args)∧sizedMet enc C.prog fn (OpenSpec.ofChange s) apart w args) (s.post enc C.prog fn apart fresh handsOn again):=by
 refine returnsInHanded_of_calls own started noInit witness ?_
 intro w tape i _ hsh _ hok hpre hholds
 obtain⟨_,_,_,fn',hfn',_,_,_,_,hval⟩:=hok
 have e:fn'=fn:=Option.some.inj (hfn'.symm.trans hfn)
 subst e
 obtain⟨⟨⟨ds,gs,before,hw,hc⟩,hx⟩,hz⟩:=hpre
 have hw':=DataW.Whole.of_heap (w':=w.forCall tape i) (by rfl) hw
 refine (contract (w.forCall tape i) w.heap.size i.args ds gs before (big _ hsh) hval hw' (hz.weights hw) (hX _ _ _ (by rfl) hx)).mono fun e W' ⟨v,he,hp⟩=>?_
 subst he
 exact ChangeSpec.post_blind hp
end
theorem known_true:Go.Eng.KX.resL=.bool true:=by kernel_rfl
theorem known_ok {w W:World}(h8:10≤w.heap.size) (hg:ErrG w) (ht:TabG w) (hb:Below w.heap.size w W):Calls Tryz.prog 12 #[] W fun e W'=>e=.returned (.bool true)∧Below W.heap.size W W':=by
 have hs:=hb.size
 rw [← known_true]
 exact Go.Eng.KX.known_calls W (by rw [Go.Eng.KX.gsize5];omega) (Go.Eng.KX.good_keep ⟨hg,ht,h8⟩ hb hs)
set_option maxRecDepth 100000 in
set_option maxHeartbeats 2000000 in
theorem tombs_lifted (os:Os) (started:os.Started) (H:Type) (enc:TypeId×Value→H) :
  ReturnsInHanded {} Tryz.checked os 3 .any (fun w args=>(Rows.blockTombsSpec.pre enc Tryz.prog Tryz.f3 [] false w args∧laidMetH Tryz.prog Rows.blockTombsRow.laid w)∧sizedMet enc Tryz.prog Tryz.f3 (OpenSpec.ofChange Rows.blockTombsSpec) false w args)
   (Rows.blockTombsSpec.post enc Tryz.prog Tryz.f3 false true false false):=by
 refine returns_of_change_big (C:=Tryz.checked) (N:=10) (fun w h=>open_big h) (X:=fun w _=>laidMetH Tryz.prog Rows.blockTombsRow.laid w) (fun _ _ _ hh h=>h.of_heap hh) Tryz.own started (by kernel_rfl) Tryz.func3
  (ChangeSpec.witness_shaped (enc:=enc) (C:=Tryz.checked) (os:=os) (X:=fun w _=>laidMetH Tryz.prog Rows.blockTombsRow.laid w) false (laidW os) #[.slice none 0 0,.slice none 0 0] 8 (by first | rfl | exact World.laidAll_os _ _ _)
   (World.shaped_of_ZipB (by kernel_rfl) (by kernel_rfl)) (by kernel_rfl) (by kernel_rfl) (by kernel_rfl)
   (laidW_met os _)) ?_
 intro W base args ds gs before hbig hval0 hW hsz0 hL
 have hsz:(DataW.weightsEach Tryz.prog (Tryz.f3.params.toList++Rows.blockTombsSpec.plain.varTypes Tryz.prog) (ds++gs)).all (·≤reachBytes)=true:=hsz0
 clear hsz0
 have hval:∀(j:Nat) t v,Tryz.f3.params[j]?=some t→args[j]?=some v→Value.okWide Tryz.prog W .any base t v:=hval0
 have hW':=hW
 obtain⟨p,q,hA0,hV,rfl,_,_⟩:=hW
 have hA:DataW.TrodAll enc Tryz.prog W 0 (fun _=>true) true Tryz.f3.params.toList args.toList ds p:=hA0
 rw [Tryz.params3] at hA hval hsz
 obtain⟨v0,v1,d0,d1,p0,p1,rfl,rfl,rfl,h0,h1⟩:=trodAll_two hA
 obtain⟨rfl,rfl⟩:=trodVars_none hV
 obtain⟨a0,l0,c0,rfl⟩:=okWide_slice Tryz.underlying22 (hval 0 22 v0 rfl rfl)
 obtain⟨a1,l1,c1,rfl⟩:=okWide_slice Tryz.underlying23 (hval 1 23 v1 rfl rfl)
 have h0k:=h0
 have h1k:=h1
 obtain⟨fu0,hf0⟩:=h0
 obtain⟨fu1,hf1⟩:=h1
 obtain⟨o,n,c,l,hcs,hl,hr,hv,h64⟩:=tms_in hf0 (fun n hn=>by
  have:=List.all_eq_true.1 hsz n (DataW.weights_mem_each (j:=0) rfl rfl n hn)
  simpa using this)
 obtain⟨o2,n2,c2,bs,hcs2,hl2,hb8,hbc⟩:=octs_in hf1 (fun n hn=>by
  have:=List.all_eq_true.1 hsz n (DataW.weights_mem_each (j:=1) rfl rfl n hn)
  simpa using this)
 simp [Value.cells] at hcs
 obtain⟨rfl,rfl,rfl⟩:=hcs
 simp [Value.cells] at hcs2
 obtain⟨rfl,rfl,rfl⟩:=hcs2
 clear hA0 hval0
 simp only [List.append_nil] at hW'
 have hlt0:∀x∈p0,x.block<W.heap.size:=fun x hx=>hW'.lt x (by simp [hx])
 have hlt1:∀x∈p1,x.block<W.heap.size:=fun x hx=>hW'.lt x (by simp [hx])
 have hE:=err_laid hL
 have hT:=tab_laid hL
 refine (law_any _ _ _ _ _ _ l bs W hbig hl hv hr h64 hl2 hb8 hbc hE Go.Eng.KX.halfOk (fun W2 hb=>known_ok hbig hE hT hb)).mono fun e W' ⟨he,hnx⟩=>?_
 subst he
 exact⟨_,rfl,_,_,_,[],_,[],hW',trodAll_mk1 (shut_bool Tryz.underlying4 _),
  trodAll_mk2 (Below.trod Tryz.laidOut (by kernel_rfl) (of_decide_eq_true (by kernel_rfl)) h0k hnx hlt0) (Below.trod Tryz.laidOut (by kernel_rfl) (of_decide_eq_true (by kernel_rfl)) h1k hnx hlt1),rfl,hnx.frame _,fun h=>by cases h⟩
theorem tombs_holds:Rows.BlockTombsSaid :=
 OpenClaim.holds_of_wide 3 Tryz.f3 rfl rfl rfl rfl rfl rfl rfl ⟨rfl,rfl,rfl,rfl,rfl⟩ rfl rfl rfl rfl rfl (by kernel_rfl) Tryz.func3 row_facts
  (of_decide_eq_true (by kernel_rfl)) (by unfold Func.isWrapper;first | (rw [if_pos (by decide +kernel)];kernel_rfl) | (rw [if_neg (by decide +kernel)];exact⟨rfl,rfl⟩))
  (fun os started H enc _=>tombs_lifted os started H enc)
theorem tombs_card_holds:Rows.BlockTombsCardSaid :=
 Claim7.holds_tied_plain_at .later [] [.data,.data,.handle,.pinned] true (true,"1acc7a0cbf488135e04f9a5d552ecfe4cb65d46eda6f5cae95dfcec5711fc28f") true tombs_holds (fun _ h=>by cases h) (by kernel_rfl) (fun _ h=>by cases h) blockTombs_row_tie rfl ⟨rfl,rfl⟩ (by kernel_rfl) rfl
  (fun f fn hf hfn=>by
   obtain rfl:f=3:=Option.some.inj ((show Tryz.prog.funcNamed "barograph/barographlaw15.BlockTombs"=some 3 by kernel_rfl).symm.trans hf) |>.symm
   obtain rfl:fn=Tryz.f3:=(Option.some.inj (Tryz.func3.symm.trans hfn)).symm
   exact⟨by kernel_rfl,fun j t ht=>by
    rw [Tryz.params3] at ht
    have hm:t∈[22,23]:=by simpa using Array.mem_of_getElem? ht
    have hall:([22,23].all fun u=>!Tryz.prog.wantsStandIn u)=true:=by kernel_rfl
    exact (show Tryz.prog.wantsStandIn t=false by simpa using List.all_eq_true.1 hall t hm)⟩)
  (by kernel_rfl)
#print axioms tombs_card_holds
end Go.Proofs.YtejeflddeanccaaGreatDoor
