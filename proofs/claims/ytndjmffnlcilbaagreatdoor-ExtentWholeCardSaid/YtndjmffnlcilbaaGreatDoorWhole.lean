/- The law ExtentWhole of barographlaw06, for every input: it returns true, and its argument reads as before. No conditions of ours; the card ties the three listed variables of the library. -/
import Derived.Test.YtndjmffnlcilbaaGreatDoorZd
import Derived.Test.YtndjmffnlcilbaaGreatDoorKc
import Derived.Test.YtndjmffnlcilbaaGreatDoorRows
import Derived.Test.YtndjmffnlcilbaaGreatDoorCards
import Derived.Test.YtndjmffnlcilbaaGreatDoorTie
import Derived.ProofKit
import Derived.SizedLaws
import Derived.LaidMore
import Derived.Lay
import Derived.SevenTiedAt
set_option linter.unusedSimpArgs false
set_option linter.unusedVariables false
set_option linter.deprecated false
set_option linter.unnecessarySimpa false
namespace Go.Proofs.YtndjmffnlcilbaaGreatDoor
open Go Go.ChangeShapes Go.WideShapes Go.ChangeAt Go.RowKit Go.Ix
theorem Tryz.own:ownKnob Tryz.prog.godebug=none:=by kernel_rfl
theorem Tryz.laidOut:laidOutB Tryz.prog=true:=by kernel_rfl
theorem begin_size:(begin Tryz.prog (fun _ _=>0) default).world.heap.size=9:=by kernel_rfl
theorem gsize:Tryz.prog.globals.size=4:=by kernel_rfl
theorem open_big {w:World}(h:w.ShapedOpen Tryz.prog):9≤w.heap.size:=by
 obtain⟨o,_,h1,_⟩:=h.2 (9-1) (by rw [gsize];omega) (by rw [begin_size];omega)
 rcases Nat.lt_or_ge (9-1) w.heap.size with h2 | h2
 ·omega
 ·rw [Array.getElem?_eq_none h2] at h1;cases h1
section
variable {H:Type}{enc:TypeId×Value→H}
theorem returns_of_change_big {C:Checked}{N:Nat}(big:∀w:World,w.ShapedOpen C.prog→N≤w.heap.size) {os:Os}{f:FuncId}{fn:Func}{s:ChangeSpec}{conds:List PathCond}{apart fresh handsOn again:Bool}{X:World→Array Value→Prop}
  (hX:∀(w w':World) (args:Array Value),w.heap=w'.heap→X w args→X w' args)
  (own:ownKnob C.prog.godebug=none) (started:os.Started) (noInit:C.prog.inits.idxOf? f=none) (hfn:C.prog.funcs[f]?=some fn)
  (witness:∃(w:World) (tape:Tape) (i:Input),w.os=os∧(w.forCall tape i).Shaped C.prog∧i.vars=[]∧Input.okWide C.prog (w.forCall tape i) .any w.heap.size f i∧
   ((s.pre enc C.prog fn conds apart (w.forCall tape i).memory i.args∧X (w.forCall tape i).memory i.args)∧sizedMet enc C.prog fn (OpenSpec.ofChange s) apart (w.forCall tape i).memory i.args)∧({}:Assume).holds C.prog (lone (Frame.enter C.prog f i.args .normal) [] (w.forCall tape i)))
  (contract:∀(W:World) (base:Nat) (args:Array Value) (ds gs:List (DataW H)) (before:List MemPlace),N≤W.heap.size →
   (∀(j:Nat) t v,fn.params[j]?=some t→args[j]?=some v→Value.okWide C.prog W .any base t v) →
   DataW.Whole enc C.prog fn.params.toList s.vars apart W args.toList ds gs before →
   (DataW.weightsEach C.prog (fn.params.toList++s.plain.varTypes C.prog) (ds++gs)).all (·≤reachBytes)=true→X W args →
   Calls C.prog f args W fun e W'=>∃v,e=.returned v∧s.post enc C.prog fn apart fresh handsOn again W args v W') :
  ReturnsInHanded {} C os f .any (fun w args=>(s.pre enc C.prog fn conds apart w args∧X w args)∧sizedMet enc C.prog fn (OpenSpec.ofChange s) apart w args) (s.post enc C.prog fn apart fresh handsOn again):=by
 refine returnsInHanded_of_calls own started noInit witness ?_
 intro w tape i _ hsh _ hok hpre hholds
 obtain⟨_,_,_,fn',hfn',_,_,_,_,hval⟩:=hok
 have e:fn'=fn:=Option.some.inj (hfn'.symm.trans hfn)
 subst e
 obtain⟨⟨⟨ds,gs,before,hw,hc⟩,hx⟩,hz⟩:=hpre
 have hw':=DataW.Whole.of_heap (w':=w.forCall tape i) (by rfl) hw
 refine (contract (w.forCall tape i) w.heap.size i.args ds gs before (big _ hsh) hval hw' (hz.weights hw) (hX _ _ _ (by rfl) hx)).mono fun e W' ⟨v,he,hp⟩=>?_
 subst he
 exact ChangeSpec.post_blind hp
end
theorem known_ok (W:World) (hW:9≤W.heap.size):Calls Tryz.prog 4 #[] W fun e W'=>e=.returned (.bool true)∧Below W.heap.size W W':=Go.Eng.KX.known_calls W (by rw [Go.Eng.KX.gsize5];exact hW)
set_option maxRecDepth 100000 in
set_option maxHeartbeats 2000000 in
theorem whole_lifted (os:Os) (started:os.Started) (H:Type) (enc:TypeId×Value→H) :
  ReturnsInHanded {} Tryz.checked os 3 .any (fun w args=>(Rows.extentWholeSpec.pre enc Tryz.prog Tryz.f3 [] false w args∧laidMetH Tryz.prog Rows.extentWholeRow.laid w)∧sizedMet enc Tryz.prog Tryz.f3 (OpenSpec.ofChange Rows.extentWholeSpec) false w args)
   (Rows.extentWholeSpec.post enc Tryz.prog Tryz.f3 false true false false):=by
 refine returns_of_change_big (C:=Tryz.checked) (N:=9) (fun w h=>open_big h) (X:=fun w _=>laidMetH Tryz.prog Rows.extentWholeRow.laid w) (fun _ _ _ hh h=>h.of_heap hh) Tryz.own started (by kernel_rfl) Tryz.func3
  (ChangeSpec.witness_shaped (enc:=enc) (C:=Tryz.checked) (os:=os) (X:=fun w _=>laidMetH Tryz.prog Rows.extentWholeRow.laid w) false (World.laidAll Tryz.prog os Rows.extentWholeRow.laid) #[.int .u8 0,.slice none 0 0] 9 (World.laidAll_os _ _ _)
   (World.shaped_of_ZipB (by kernel_rfl) (by kernel_rfl)) (by kernel_rfl) (by kernel_rfl) (by kernel_rfl)
   (by rw [MakeChecks.laidMetH_plain _ _ _ (by kernel_rfl)];exact laidMet_laidAll _ (by kernel_rfl) (by kernel_rfl))) ?_
 intro W base args ds gs before hbig hval0 hW hsz0 _
 have hsz:(DataW.weightsEach Tryz.prog (Tryz.f3.params.toList++Rows.extentWholeSpec.plain.varTypes Tryz.prog) (ds++gs)).all (·≤reachBytes)=true:=hsz0
 clear hsz0
 have hval:∀(j:Nat) t v,Tryz.f3.params[j]?=some t→args[j]?=some v→Value.okWide Tryz.prog W .any base t v:=hval0
 have hW':=hW
 obtain⟨p,q,hA0,hV,rfl,_,_⟩:=hW
 have hA:DataW.TrodAll enc Tryz.prog W 0 (fun _=>true) true Tryz.f3.params.toList args.toList ds p:=hA0
 rw [Tryz.params3] at hA hval hsz
 obtain⟨v0,v1,d0,d1,p0,p1,rfl,rfl,rfl,h0,h1⟩:=trodAll_two hA
 obtain⟨rfl,rfl⟩:=trodVars_none hV
 obtain⟨a1,rfl,rfl,rfl,wn1⟩:=open_int Tryz.underlying5 (hval 0 5 v0 rfl rfl) h0
 obtain⟨a0,l0,c0,rfl⟩:=okWide_slice Tryz.underlying22 (hval 1 22 v1 rfl rfl)
 have hb1:0≤a1∧a1≤255:=by
  have h9:=wn1
  simp only [Lit.wf,Bool.and_eq_true,decide_eq_true_eq] at h9
  exact h9
 obtain⟨mk,rfl⟩:∃mk:Nat,a1=(mk:Int):=⟨a1.toNat,by omega⟩
 have h0k:=h1
 obtain⟨fu0,hf0⟩:=h1
 obtain⟨o,n,c,l,hcs,hl,hr,hr0,hin⟩:=ops_in hf0 (fun n hn=>by
  have:=List.all_eq_true.1 hsz n (DataW.weights_mem_each (j:=1) rfl rfl n hn)
  simpa using this)
 simp [Value.cells] at hcs
 obtain⟨rfl,rfl,rfl⟩:=hcs
 clear hA0 hval0
 simp only [List.append_nil] at hW'
 have hlt0:∀x∈p1,x.block<W.heap.size:=fun x hx=>hW'.lt x (by simp [hx])
 refine (whole_any Go.Eng.KX.halfOk known_ok mk (by omega) _ _ _ l W hbig hl hr0 hr hin).mono fun e W' ⟨he,hnx⟩=>?_
 subst he
 exact⟨_,rfl,_,_,_,[],_,[],hW',trodAll_mk1 (shut_bool Tryz.underlying4 _),
  trodAll_mk2 (shut_int Tryz.underlying5 wn1) (Below.trod Tryz.laidOut (by kernel_rfl) (of_decide_eq_true (by kernel_rfl)) h0k hnx hlt0),rfl,hnx.frame _,fun h=>by cases h⟩
theorem whole_holds:Rows.ExtentWholeSaid :=
 OpenClaim.holds_of_wide 3 Tryz.f3 rfl rfl rfl rfl rfl rfl rfl ⟨rfl,rfl,rfl,rfl,rfl⟩ rfl rfl rfl rfl rfl (by kernel_rfl) Tryz.func3 (by kernel_rfl)
  (of_decide_eq_true (by kernel_rfl)) (by unfold Func.isWrapper;first | (rw [if_pos (by decide +kernel)];kernel_rfl) | (rw [if_neg (by decide +kernel)];exact⟨rfl,rfl⟩))
  (fun os started H enc _=>whole_lifted os started H enc)
theorem whole_card_holds:Rows.ExtentWholeCardSaid :=
 Claim7.holds_tied_plain_at .later [] [.data,.sentinel,.pinned] true (true,"8011b6063fdd64e0b592724925c8e6d90a792ac2bea59c2615adffe58cfab7f9") true whole_holds (fun _ h=>by cases h) (by kernel_rfl) (fun _ h=>by cases h) extentWhole_row_tie rfl ⟨rfl,rfl⟩ (by kernel_rfl) rfl
  (fun f fn hf hfn=>by
   obtain rfl:f=3:=Option.some.inj ((show Tryz.prog.funcNamed "barograph/barographlaw06.ExtentWhole"=some 3 by kernel_rfl).symm.trans hf) |>.symm
   obtain rfl:fn=Tryz.f3:=(Option.some.inj (Tryz.func3.symm.trans hfn)).symm
   exact⟨by kernel_rfl,fun j t ht=>by
    rw [Tryz.params3] at ht
    have hm:t∈[5,22]:=by simpa using Array.mem_of_getElem? ht
    have hall:([5,22].all fun u=>!Tryz.prog.wantsStandIn u)=true:=by kernel_rfl
    exact (show Tryz.prog.wantsStandIn t=false by simpa using List.all_eq_true.1 hall t hm)⟩)
  (by kernel_rfl)
#print axioms whole_card_holds
end Go.Proofs.YtndjmffnlcilbaaGreatDoor
