/- Contracts over this program. Their conditions: the slices read as the lists that are named, and lie within the sizes that are named. -/
import Derived.Test.YtndjmffnlcilbaaGreatDoorYq
set_option linter.unusedSimpArgs false
set_option linter.unusedVariables false
set_option linter.deprecated false
set_option linter.unnecessarySimpa false
namespace Go.Proofs.YtndjmffnlcilbaaGreatDoor
open Go Go.RowKit Go.Ix Go.Ext Go.Maps
theorem step_make_full {P:Program}{ops:Array Oper}{o:Oper}{a:Act}{w:World}{K:Act→World→Prop}{Q:Exit→Act→World→Prop}{E:Prop}(hg:o.guard=none) (l c:Operand) (t:TypeId) (hop:o.op=Op.makeSlice t l c)
  (base:Nat) (e:TypeId) (i:TypeInfo) (z:Value) (size:Nat) (h1:P.underlying t=some (.slice e)) (h2:P.info? e=some i) (h3:i.zero=some z) (h4:i.size=size)
  (kl kc:IntKind) (n:Nat) (hl:a.eval l=.int kl n) (hc:a.eval c=.int kc n) (b2:i.bytes * n≤281474976710656) (b3:n≤maxLen) (b4:base≤w.heap.size)
  (hK:∀w',w'.ownsRow base e size (.slice (some ⟨w.heap.size,0,none⟩) n n) n (madeCells z.cells (n * size)).toList→w.grownBy w' none→K (a.put o.dst (.slice (some ⟨w.heap.size,0,none⟩) n n)) w') :
  if Region.wanted o (yielded ops a.tmps)=true then Oper.wp P o a w K Q else E:=by
 have hw:Region.wanted o (yielded ops a.tmps)=true:=by simp [Region.wanted,hg]
 rw [if_pos hw]
 obtain⟨w',hrun,r1,r2⟩:=run_make_full (P:=P) w base t e i z size h1 h2 h3 h4 kl kc n b2 b3 b4
 unfold Oper.wp
 simp [execOp,hop,hl,hc,hrun,Result.andThen]
 exact hK w' r1 r2
theorem step_call {P:Program}{ops:Array Oper}{o:Oper}{a:Act}{w:World}{K:Act→World→Prop}{Q:Exit→Act→World→Prop}{E:Prop}(hg:o.guard=none) (f:FuncId) (xs:Array Operand) (ts:Array TypeId)
  (hop:o.op=.call { callee:=.value (.func f),args:=xs,argTypes:=ts }) (us:Array Value) (hx:xs.map a.eval=us) (en:∀args w,(callFunc f args).run P w=.ok (.enter f args) w) {S:Value→World→Prop}
  (hc:Calls P f us w fun e w'=>∃v,e=.returned v∧S v w') (hK:∀v w',S v w'→K (a.put o.dst v) w') :
  if Region.wanted o (yielded ops a.tmps)=true then Oper.wp P o a w K Q else E:=by
 have hw:Region.wanted o (yielded ops a.tmps)=true:=by simp [Region.wanted,hg]
 rw [if_pos hw]
 have hrun:(execOp a.eval o).run P w=.ok (.enter f us) w:=by
  have h1:=en us w
  simp only [execOp,hop]
  have ev:a.eval (.func f)=.func (.func f) #[] #[]:=rfl
  simp only [resolve,ev]
  show (invoke (.fn (.func f) #[]) (#[]++(xs.map a.eval))).run P w=_
  rw [hx]
  have e2:invoke (.fn (.func f) #[]) (#[]++us)=callFunc f ((#[]++us)++#[]):=rfl
  rw [e2,Array.empty_append,Array.append_empty]
  exact h1
 unfold Oper.wp
 rw [hrun,Oper.upon_enter]
 refine hc.mono ?_
 rintro e w' ⟨v,rfl,hS⟩
 exact hK v w' hS
theorem Tryz.enters_dwrite:∀(args:Array Value) (w:World),(callFunc 29 args).run Tryz.prog w=.ok (.enter 29 args) w:=enters_of Tryz.func29 (by kernel_rfl) rfl
set_option maxRecDepth 20000 in
set_option maxHeartbeats 1000000 in
theorem format3_any {w:World}{B db sm n b1:Nat}{t:Dk}(h:DK w B db sm n t) (hcalm:t.calm) (hb1:w.heap[b1]?=some (.cells #[.pointer (some ⟨db,0,none⟩)] 25 (0,0))) (hB:B≤w.heap.size) (h2:2≤n) (hn:n≤1000) (ht:t.cac.length≤1000000) :
  Calls Tryz.prog 31 #[.pointer (some ⟨b1,0,none⟩)] w (OpEnd w B db sm n 0 (t.write 1 (List.replicate 256 0))):=by
 obtain⟨i5,hi5,hz5,hy5,hx5⟩:=info_parts Tryz.info5
 have q1:w.drew.cell? ⟨b1,0,none⟩=some (.pointer (some ⟨db,0,none⟩)):=by rw [cell_of_heap (show w.drew.heap[b1]?=_ from hb1)];rfl
 have HD:Hid (DK w.drew B db sm n t):=Lib.hid (h.olds (Olds.drewN w 1))
 obtain⟨es,cm,hkm⟩:=h.seen.kind
 have hne:b1∉[sm]:=fun hm=>by
  simp only [List.mem_singleton] at hm
  rw [hm,hkm] at hb1
  cases hb1
 have HW:Hid (∀w1:World,w1.ownsRow w.drew.heap.size 5 1 (.slice (some ⟨w.drew.heap.size,0,none⟩) 256 256) 256 (madeCells (Value.int .u8 0).cells (256 * 1)).toList→w.drew.grownBy w1 none→w1.cell? ⟨b1,0,none⟩=some (.pointer (some ⟨db,0,none⟩))∧
   Calls Tryz.prog 29 #[.pointer (some ⟨db,0,none⟩),.int .i64 1,.slice (some ⟨w.drew.heap.size,0,none⟩) 256 256] w1 fun e w2=>e=.returned (.int .u16 0)∧w2.cell? ⟨b1,0,none⟩=some (.pointer (some ⟨db,0,none⟩))∧OpEnd w B db sm n 0 (t.write 1 (List.replicate 256 0)) e w2):=Lib.hid (fun w1 hr hg=>by
  have ho:Olds w.drew w1:=⟨hg.size,fun b hb=>hg.block b hb (by simp)⟩
  have hb:Below w.drew.heap.size w.drew w1:=(Below.refl _ _).grown hg (Nat.le_refl _) (by simp)
  have hbr:RowB w1 w.drew.heap.size (.slice (some ⟨w.drew.heap.size,0,none⟩) 256 256) (List.replicate 256 0) 256:=by
   refine⟨?_,fun x hx=>by rw [List.mem_replicate] at hx;omega,by simp⟩
   have hz:(madeCells (Value.int .u8 0).cells (256 * 1)).toList=octs (List.replicate 256 0):=by
    show (madeCells #[Value.int .u8 0] 256).toList=_
    rw [toList_madeCells_one]
    unfold octs
    rw [List.map_replicate]
    rfl
   rw [hz] at hr
   unfold Row8
   rw [List.length_replicate]
   exact hr
  have hd:=dwrite_any 1 (HD.out.olds ho) (by omega) (by omega) ht (by have:=hb.size;have h9:w.drew.heap.size=w.heap.size:=rfl;omega) hbr
  rw [hcalm.ok,show ((codeOf true:Nat):Int)=0 from rfl] at hd
  refine⟨ho.cell q1,hd.mono ?_⟩
  rintro e w2 ⟨rfl,h1,h2⟩
  have hf:Fr B TD [sm] w w2:=((Fr.of_below hb hB _ _).trans h2).from_drew
  exact⟨rfl,by rw [cell_of_heap (hf.keep hb1 hne (by decide))];rfl,rfl,h1,hf⟩)
 clear h hb1 hkm hne
 go_enter Tryz.func31,Tryz.ntmps31
 go_upto_region 1 with fail
 refine wp_region_held_drew (S:=(fun W'=>W'.cell? ⟨b1,0,none⟩=some (.pointer (some ⟨db,0,none⟩)))) (by kernel_rfl) q1 (fun hHeld=>?_)
 refine wpAnyH_take (i:=0) (v:=?v0) rfl (by kernel_rfl) (by kernel_rfl) (by kernel_rfl) (fun _ _ _ h=>h) (Or.inl ⟨by rfl,?h0⟩) hHeld ?r0
 case h0 =>
  rintro W s1
  go_simp
  all_goals with_reducible rfl
 try simp only [Act.put,List.getElem_toArray,List.getElem_cons_succ,List.getElem_cons_zero,List.setIfInBounds_toArray,List.set_cons_zero,List.set_cons_succ]
 refine wpAnyH_ready (rs:=[1]) (by kernel_rfl) (by simp) (AllReadyH.cons rfl (fun K hK=>?_) AllReadyH.nil)
 refine step_make_full (by rfl) _ _ 34 (by rfl) w.drew.heap.size 5 i5 (.int .u8 0) 1 Tryz.underlying34 hi5 hz5 hy5 .i64 .i64 256 (by rfl) (by rfl) (by rw [hx5];decide) (by unfold maxLen;omega) (Nat.le_refl _) ?_
 intro w1 hr1 hg1
 have HX:=Lib.hid (HW.out w1 hr1 hg1)
 clear hr1 hg1
 refine hK.out _ _ HX.out.1 (fun hHeld2=>?_)
 clear hK K
 try simp only [Act.put,List.getElem_toArray,List.getElem_cons_succ,List.getElem_cons_zero,List.setIfInBounds_toArray,List.set_cons_zero,List.set_cons_succ]
 refine wpAnyH_ready (rs:=[2]) (by kernel_rfl) (by simp) (AllReadyH.cons rfl (fun K hK=>?_) AllReadyH.nil)
 refine step_call (by rfl) 29 _ _ (by rfl) _ (by simp only [List.map_toArray,List.map_cons,List.map_nil];rfl) Tryz.enters_dwrite (S:=fun v w2=>v=.int .u16 0∧w2.cell? ⟨b1,0,none⟩=some (.pointer (some ⟨db,0,none⟩))∧OpEnd w B db sm n 0 (t.write 1 (List.replicate 256 0)) (.returned (.int .u16 0)) w2) (HX.out.2.mono ?_) ?_
 ·rintro e w2 ⟨rfl,h1,h2⟩
  exact⟨_,rfl,rfl,h1,h2⟩
 rintro v w2 ⟨rfl,h1,h2⟩
 have H2:=Lib.hid h2
 clear h2
 refine hK.out _ _ h1 (fun hHeld3=>?_)
 clear hK K
 try simp only [Act.put,List.getElem_toArray,List.getElem_cons_succ,List.getElem_cons_zero,List.setIfInBounds_toArray,List.set_cons_zero,List.set_cons_succ]
 refine wpAnyH_take (i:=3) (v:=?v3) rfl (by kernel_rfl) (by kernel_rfl) (by kernel_rfl) (fun _ _ _ h=>h) (Or.inl ⟨by rfl,?h3⟩) hHeld3 ?r3
 case h3 =>
  rintro W s1
  go_simp
  all_goals with_reducible rfl
 try simp only [Act.put,List.getElem_toArray,List.getElem_cons_succ,List.getElem_cons_zero,List.setIfInBounds_toArray,List.set_cons_zero,List.set_cons_succ]
 refine wpAnyH_done (by kernel_rfl) ?_ _
 go_wp2_with fail
 go_ret
 exact⟨rfl,H2.out.2.1,H2.out.2.2⟩
theorem RowB.data {w:World}{B B' m c:Nat}{o:Option Addr}{bs:List Nat}(h:RowB w B' (.slice o m c) bs m):DataB w B bs o m c:=by
 obtain⟨h1,h2,h3⟩:=h
 unfold Row8 at h1
 rw [h3] at h1
 have hf:FlatAt w (.slice o m c) m (octs bs):=owns_flat h1
 refine⟨by unfold BytesAt;rw [h3];exact hf,h2,h3,?_,fun a ha hp=>.inr ?_⟩
 ·rcases h1.2 with ⟨e,h0⟩|⟨g,cap,cur,e,_,_,hc,_⟩
  ·omega
  ·simp only [Value.slice.injEq] at e
   omega
 ·rcases h1.2 with ⟨e,h0⟩|⟨g,cap,cur,e,_,hh,_⟩
  ·omega
  ·simp only [Value.slice.injEq] at e
   rw [ha] at e
   have e1:=Option.some.inj e.1
   subst e1
   exact⟨cur,_,hh⟩
def fmt1 (K:Dk):Dk:=(K.writes (pieces [2] (dirB []))).2
def fmt2 (K:Dk):Dk:=(fmt1 K).flush
def fmt3 (K:Dk):Dk:=(fmt2 K).write 0 (slotB 1 (dirB []) [2])
def fmt4 (K:Dk):Dk:=(fmt3 K).write 1 (List.replicate 256 0)
def fmt5 (K:Dk):Dk:=(fmt4 K).flush
def fmtK (K:Dk):Nat→Dk
 | 0=>K
 | 1=>fmt1 K
 | 2=>fmt2 K
 | 3=>fmt3 K
 | 4=>fmt4 K
 | _=>fmt5 K
theorem fmt_calm {K:Dk}(h:K.calm):(fmtK K 1).calm∧(fmtK K 2).calm∧(fmtK K 3).calm∧(fmtK K 4).calm∧(fmtK K 5).calm:=by
 have h1:(fmtK K 1).calm:=(Dk.calm.writes _ h).2
 have h2:(fmtK K 2).calm:=h1.flush.1
 have h3:(fmtK K 3).calm:=(h2.write _ _).1
 have h4:(fmtK K 4).calm:=(h3.write _ _).1
 exact⟨h1,h2,h3,h4,h4.flush.1⟩
theorem fmt_eq {K:Dk}(h:K.calm) (hc:K.cac=[]):(fmtK K 1).cac=[(2,piece (dirB []) 0)]∧(fmtK K 2).cac=[]∧(fmtK K 3).cac=[(0,slotB 1 (dirB []) [2])]∧(fmtK K 4).cac=[(0,slotB 1 (dirB []) [2]),(1,List.replicate 256 0)]∧(fmtK K 5).cac=[]∧(fmtK K 5).las=((K.las.set 2 (piece (dirB []) 0)).set 0 (slotB 1 (dirB []) [2])).set 1 (List.replicate 256 0):=by
 obtain⟨c1,c2,c3,c4,c5⟩:=fmt_calm h
 have e1:fmtK K 1={ K with cac:=[(2,piece (dirB []) 0)] }:=by
  show (K.writes [(2,piece (dirB []) 0)]).2=_
  have:K.writes [(2,piece (dirB []) 0)]=(true,K.write 2 (piece (dirB []) 0)):=by
   show (if K.ok then _ else _)=_
   rw [if_pos h.ok]
   rfl
  rw [this]
  show K.write 2 _=_
  rw [(h.write _ _).2,hc]
  rfl
 have e2:fmtK K 2={ fmtK K 1 with las:=(fmtK K 1).view,cac:=[] }:=c1.flush.2
 have e3:fmtK K 3={ fmtK K 2 with cac:=(fmtK K 2).cac++[(0,slotB 1 (dirB []) [2])] }:=(c2.write _ _).2
 have e4:fmtK K 4={ fmtK K 3 with cac:=(fmtK K 3).cac++[(1,List.replicate 256 0)] }:=(c3.write _ _).2
 have e5:fmtK K 5={ fmtK K 4 with las:=(fmtK K 4).view,cac:=[] }:=c4.flush.2
 have l1:(fmtK K 1).cac=[(2,piece (dirB []) 0)]:=by rw [e1]
 have l2:(fmtK K 2).cac=[]:=by rw [e2]
 have l3:(fmtK K 3).cac=[(0,slotB 1 (dirB []) [2])]:=by rw [e3,l2];rfl
 have l4:(fmtK K 4).cac=[(0,slotB 1 (dirB []) [2]),(1,List.replicate 256 0)]:=by rw [e4,l3];rfl
 refine⟨l1,l2,l3,l4,by rw [e5],?_⟩
 have v1:(fmtK K 1).las=K.las:=by rw [e1]
 have v2:(fmtK K 2).las=K.las.set 2 (piece (dirB []) 0):=by
  rw [e2]
  show laid (fmtK K 1).las (fmtK K 1).cac=_
  rw [l1,v1]
  rfl
 have v4:(fmtK K 4).las=(fmtK K 2).las:=by rw [e4,e3]
 rw [e5]
 show laid (fmtK K 4).las (fmtK K 4).cac=_
 rw [l4,v4,v2]
 rfl
theorem fmt_live {n:Nat}{K:Dk}(h3:3≤n) (h62:n≤62) (hk:K.Ok n) (h:K.calm) (hc:K.cac=[]) (hk5:(fmtK K 5).Ok n):Live isNm (fmtK K 5) (opened n [2] []) 0 1 [] []:=by
 obtain⟨_,_,_,_,c5⟩:=fmt_calm h
 obtain⟨_,_,_,_,l5,v5⟩:=fmt_eq h hc
 have hl:=hk.len
 refine live_new h3 h62 hk5 c5.1 l5 ?_ ?_ ?_
 ·rw [v5]
  unfold sec
  rw [List.getD_eq_getElem?_getD,List.getElem?_set_ne (by decide),List.getElem?_set_self (by simp;omega)]
  rfl
 ·rw [v5]
  unfold sec
  rw [List.getD_eq_getElem?_getD,List.getElem?_set_self (by simp;omega)]
  rfl
 ·rw [v5,List.getElem?_set_ne (by decide),List.getElem?_set_ne (by decide),List.getElem?_set_self (by omega)]
  rfl
def newG (n:Nat):G:={ n:=n,dir:=[2],now:=[],next:=[],T:=fun a=>(([2].count a:Nat):Int)+((cntF [] a:Nat):Int),undo:=[] }
def FormatEnd (w:World) (B db sm n:Nat) (K:Dk) (e:Ending) (w':World):Prop :=
 ∃sb:Nat,e=.returned (.tuple #[.pointer (some ⟨sb,0,none⟩),.int .u16 0])∧Kp B w w'∧w.heap.size≤sb∧SL w' B db sm sb 1 2 (fmtK K 5) 0 1 (newG n) [] []
set_option maxRecDepth 20000 in
set_option maxHeartbeats 4000000 in
theorem format_any (hH:HalfOk) {w:World}{B db sm n:Nat}{K:Dk}(h:DK w B db sm n K) (hcalm:K.calm) (hcac:K.cac=[]) (hB:B≤w.heap.size) (hG:9≤w.heap.size) (h3:3≤n) (hn:n≤62) :
  Calls Tryz.prog 7 #[.pointer (some ⟨db,0,none⟩)] w (FormatEnd w B db sm n K):=by
 obtain⟨kc1,kc2,kc3,kc4,kc5⟩:=fmt_calm hcalm
 obtain⟨kl1,kl2,kl3,kl4,kl5,_⟩:=fmt_eq hcalm hcac
 have Hfl:=Lib.hid (fmt_live h3 hn h.ok hcalm hcac)
 have Hkc:Hid ((fmtK K 1).calm∧(fmtK K 2).calm∧(fmtK K 3).calm∧(fmtK K 4).calm∧K.calm):=Lib.hid ⟨kc1,kc2,kc3,kc4,hcalm⟩
 have Hkl:Hid (K.cac.length=0∧(fmtK K 1).cac.length=1∧(fmtK K 2).cac.length=0∧(fmtK K 3).cac.length=1∧(fmtK K 4).cac.length=2∧(fmtK K 5).cac.length=0):=Lib.hid ⟨by rw [hcac];rfl,by rw [kl1];rfl,by rw [kl2];rfl,by rw [kl3];rfl,by rw [kl4];rfl,by rw [kl5];rfl⟩
 clear kc1 kc2 kc3 kc4 kc5 kl1 kl2 kl3 kl4 kl5 hcalm hcac
 obtain⟨X1,hX1⟩:∃X1:World,X1=w.alloc (.cells #[.pointer (some ⟨db,0,none⟩)] 25):=⟨_,rfl⟩
 obtain⟨X2,hX2⟩:∃X2:World,X2=X1.alloc (.map #[] 0):=⟨_,rfl⟩
 obtain⟨X3,hX3⟩:∃X3:World,X3=X2.alloc (.cells #[.int .i64 2] 3):=⟨_,rfl⟩
 have hs1:X1.heap.size=w.heap.size+1:=by rw [hX1];simp
 have hs2:X2.heap.size=w.heap.size+2:=by rw [hX2];simp [hs1]
 have hs3:X3.heap.size=w.heap.size+3:=by rw [hX3];simp [hs2]
 have o1:Olds w X1:=by rw [hX1];exact Olds.alloc _ _
 have o2:Olds X1 X2:=by rw [hX2];exact Olds.alloc _ _
 have o3:Olds X2 X3:=by rw [hX3];exact Olds.alloc _ _
 have b3:Below w.heap.size w X3:=by
  rw [hX3,hX2,hX1]
  exact (((Below.refl _ _).alloc (Nat.le_refl _) _).alloc (by simp) _).alloc (by simp;omega) _
 have hbx:X3.heap[w.heap.size]?=some (.cells #[.pointer (some ⟨db,0,none⟩)] 25 (0,0)):=by
  refine ((o2.trans o3).2 _ (by omega)).trans ?_
  rw [hX1]
  exact heap_alloc_new _ _
 have hm2:SMap X2 B 0 X1.heap.size 0 []:=by
  have:=SMap.made X1 B 0
  rw [← hX2] at this
  exact this
 have hm3:SMap X3 B 0 X1.heap.size 0 []:=hm2.olds o3
 have hs2':X2.heap.size=X1.heap.size+1:=by omega
 have hd3:X3.ownsRow B 3 1 (.slice (some ⟨X1.heap.size+1,0,none⟩) 1 1) [2].length (nats [2]):=by
  refine⟨rfl,.inr ⟨X1.heap.size+1,1,#[.int .i64 2],rfl,by omega,?_,Nat.le_refl _,by decide,rfl,rfl⟩⟩
  have:=heap_alloc_new X2 (.cells #[.int .i64 2] 3)
  rw [hs2',← hX3] at this
  exact this
 have hdi3:=((h.olds o1).olds o2).olds o3
 have hsm:=h.seen.lt
 obtain⟨es,cm,hkm⟩:=h.seen.kind
 have HM:Hid (Calls Tryz.prog 23 #[.pointer (some ⟨db,0,none⟩),.int .i64 (0:Nat),.int .u64 (1:Nat),.map (some X1.heap.size),.slice (some ⟨X1.heap.size+1,0,none⟩) 1 1] X3 (MadeEnd X3 B db X1.heap.size 0 n 0 1 (.slice (some ⟨X1.heap.size+1,0,none⟩) 1 1) [] [2])):=Lib.hid (made_any hdi3 (by omega) hn hm3 (by decide) (by omega) hd3 (fun a ha=>by simp at ha;omega) (by decide) (fun p hp=>by cases hp) (fun p hp=>by cases hp) (fun a=>by
  have:[2].count a≤1:=List.nodup_iff_count.1 (by simp) a
  simp only [cntF,List.map_nil,List.sum_nil]
  omega))
 rw [show ((0:Nat):Int)=0 from rfl,show ((1:Nat):Int)=1 from rfl] at HM
 have HSec:=Lib.hid (sectors_any (h.olds o1))
 have HX1:=Lib.hid hX1
 have HX2:=Lib.hid hX2
 have HX3:=Lib.hid hX3
 have Hb3:=Lib.hid b3
 have Hbx:=Lib.hid hbx
 have Hd3:=Lib.hid hd3
 have Hdi3:=Lib.hid hdi3
 have Hkm:=Lib.hid hkm
 have Hs1:=Lib.hid hs1
 have Hs2:=Lib.hid hs2
 have Hs3:=Lib.hid hs3
 have hbc1:X1.cell? ⟨w.heap.size,0,none⟩=some (.pointer (some ⟨db,0,none⟩)):=by rw [hX1,cell_of_heap (heap_alloc_new _ _)];rfl
 clear hX1 hX2 hX3 o1 o2 o3 b3 hbx hm2 hm3 hd3 hdi3 h hkm hs1 hs2 hs3
 go_enter Tryz.func7,Tryz.ntmps7
 go_upto_region 1 with fail
 rw [← HX1.out]
 go_upto_region 3 with (go_at_call 22;refine HSec.out.mono ?_;clear HSec;rintro e w1' ⟨rfl,hw1⟩;rw [hw1];clear hw1 w1')
 have hmm:=@run_makeMap Tryz.prog
 have hlt3:decide ((n:Int)<3)=false:=by simp;omega
 go_upto_region 4 with (go_at_call 23;rw [← HX2.out,← HX3.out];refine HM.out.mono ?_;clear HM;rintro e Y ⟨hby,sn,tn,xn,rfl,h1,h2,h3,h4,h5⟩;have Hby:=Lib.hid hby;have Hsn:=Lib.hid h4;have Hsr:=Lib.hid h5;have hns:=h1;have hnt:=h2;have hnx:=h3;clear hby h1 h2 h3 h4 h5)
 obtain⟨A0,hA0⟩:∃A0:World,A0=Y.alloc (.cells #[.pointer (some ⟨sn,0,none⟩)] 30):=⟨_,rfl⟩
 rw [← hA0]
 have oA0:Olds Y A0:=by rw [hA0];exact Olds.alloc _ _
 have hA0s:A0.heap.size=Y.heap.size+1:=by rw [hA0];simp
 have hA0b:Below X3.heap.size X3 A0:=by rw [hA0];exact Hby.out.trans ((Below.refl _ _).alloc Hby.out.size _)
 have hA0x:A0.heap[Y.heap.size]?=some (.cells #[.pointer (some ⟨sn,0,none⟩)] 30 (0,0)):=by rw [hA0];exact heap_alloc_new _ _
 have hA0n:=(oA0.2 _ (heap_lt Hsn.out)).trans Hsn.out
 have hq1:A0.cell? ⟨Y.heap.size,0,none⟩=some (.pointer (some ⟨sn,0,none⟩)):=by rw [cell_of_heap hA0x];rfl
 have hq2:A0.cell? ⟨sn,3,none⟩=some (.map (some X1.heap.size)):=by rw [cell_of_heap hA0n];rfl
 have HSB:=Lib.hid (sbytes_any (l:=[]) ((Hsr.out 0).now.olds oA0) (by decide) (fun p hp=>by cases hp) (by decide))
 have HA0:=Lib.hid hA0
 have HoA0:=Lib.hid oA0
 have HA0b:=Lib.hid hA0b
 have HA0x:=Lib.hid hA0x
 have HA0n:=Lib.hid hA0n
 obtain⟨ys,hys⟩:∃ys,ys=Y.heap.size:=⟨_,rfl⟩
 rw [← hys]
 rw [← hys] at hq1 HA0x hA0s
 have Hys:=Lib.hid hys
 rw [show dirLen []=2 from rfl] at HSB
 clear hA0 oA0 hA0b hA0x hA0n hys
 go_upto_region 5 with (go_at_call 24;refine HSB.out.mono ?_;clear HSB;rintro e A1 ⟨v,rfl,hrow,hb⟩;obtain⟨da,dc,rfl⟩:=hrow.shape;have Hrow:=Lib.hid hrow;have Hb:=Lib.hid hb;clear hrow hb)
 obtain⟨A2,hA2⟩:∃A2:World,A2=A1.alloc (.cells #[.slice da 2 dc] 34):=⟨_,rfl⟩
 obtain⟨av,hav⟩:∃av,av=A1.heap.size:=⟨_,rfl⟩
 rw [← hA2,← hav]
 obtain⟨A3,hA3⟩:∃A3:World,A3=A2.alloc (.cells #[.func (.func 25) #[] #[.pointer (some ⟨ys,0,none⟩),.pointer (some ⟨av,0,none⟩)],.func (.func 27) #[.pointer (some ⟨db,0,none⟩)] #[],.func (.func 28) #[] #[.pointer (some ⟨w.heap.size,0,none⟩),.pointer (some ⟨av,0,none⟩),.pointer (some ⟨ys,0,none⟩)],.func (.func 31) #[] #[.pointer (some ⟨w.heap.size,0,none⟩)],.func (.func 27) #[.pointer (some ⟨db,0,none⟩)] #[]] 47):=⟨_,rfl⟩
 have oA01:Olds A0 A1:=Olds.of_below Hb.out
 have oA12:Olds A1 A2:=by rw [hA2];exact Olds.alloc _ _
 have oA23:Olds A2 A3:=by rw [hA3];exact Olds.alloc _ _
 have hA2s:A2.heap.size=av+1:=by rw [hA2,hav];simp
 have hA3s:A3.heap.size=av+2:=by rw [hA3];simp [hA2s]
 have h01:=Hb.out.size
 have h00:=HA0b.out.size
 have hav0:A0.heap.size≤av:=by omega
 have g1:A3.heap[w.heap.size]?=some (.cells #[.pointer (some ⟨db,0,none⟩)] 25 (0,0)):=by
  have h3:=HA0b.out.block w.heap.size (by have:=Hs3.out;omega)
  exact (((oA01.trans oA12).trans oA23).2 _ (by have:=Hs3.out;omega)).trans (h3.trans Hbx.out)
 have g2:A3.heap[ys]?=some (.cells #[.pointer (some ⟨sn,0,none⟩)] 30 (0,0)):=(((oA01.trans oA12).trans oA23).2 _ (by omega)).trans HA0x.out
 have g3:A3.heap[av]?=some (.cells #[.slice da 2 dc] 34 (0,0)):=by
  refine (oA23.2 _ (by omega)).trans ?_
  rw [hA2,hav]
  exact heap_alloc_new _ _
 have g4:=(((oA01.trans oA12).trans oA23).2 _ (heap_lt HA0n.out)).trans HA0n.out
 have g5:A3.heap[av+1]?=some (.cells #[.func (.func 25) #[] #[.pointer (some ⟨ys,0,none⟩),.pointer (some ⟨av,0,none⟩)],.func (.func 27) #[.pointer (some ⟨db,0,none⟩)] #[],.func (.func 28) #[] #[.pointer (some ⟨w.heap.size,0,none⟩),.pointer (some ⟨av,0,none⟩),.pointer (some ⟨ys,0,none⟩)],.func (.func 31) #[] #[.pointer (some ⟨w.heap.size,0,none⟩)],.func (.func 27) #[.pointer (some ⟨db,0,none⟩)] #[]] 47 (0,0)):=by
  have:=heap_alloc_new A2 (.cells #[.func (.func 25) #[] #[.pointer (some ⟨ys,0,none⟩),.pointer (some ⟨av,0,none⟩)],.func (.func 27) #[.pointer (some ⟨db,0,none⟩)] #[],.func (.func 28) #[] #[.pointer (some ⟨w.heap.size,0,none⟩),.pointer (some ⟨av,0,none⟩),.pointer (some ⟨ys,0,none⟩)],.func (.func 31) #[] #[.pointer (some ⟨w.heap.size,0,none⟩)],.func (.func 27) #[.pointer (some ⟨db,0,none⟩)] #[]] 47)
  rw [hA2s,← hA3] at this
  exact this
 have g6:A3.ownsRow B 3 1 (.slice (some ⟨X1.heap.size+1,0,none⟩) 1 1) 1 (nats [2]):=ownsRow_olds Hd3.out ((Olds.of_below HA0b.out).trans ((oA01.trans oA12).trans oA23))
 have g7:DataB A3 B (dirB []) da 2 dc:=(Hrow.out.olds (oA12.trans oA23)).data
 have g8:∀sb',SR A3 B sb' tn n X1.heap.size xn 0 (.slice none 0 0) (.slice (some ⟨X1.heap.size+1,0,none⟩) 1 1) { n:=n,dir:=[2],now:=[],next:=[],T:=fun a=>(([2].count a:Nat):Int)+((cntF [] a:Nat):Int),undo:=[] }:=fun sb'=>(Hsr.out sb').olds (HoA0.out.trans ((oA01.trans oA12).trans oA23))
 have gB:Below w.heap.size w A3:=by
  have h2:Below w.heap.size A0 A1:=Hb.out.mono (by have:=Hs3.out;omega)
  have h3:Below w.heap.size A1 A2:=by rw [hA2];exact (Below.refl _ _).alloc (by have:=Hs3.out;omega) _
  have h4:Below w.heap.size A2 A3:=by rw [hA3];exact (Below.refl _ _).alloc (by have:=Hs3.out;omega) _
  exact ((Hb3.out.trans (HA0b.out.mono (by have:=Hs3.out;omega))).trans h2).trans (h3.trans h4)
 have gD:DK A3 B db sm n K:=Hdi3.out.olds ((Olds.of_below HA0b.out).trans ((oA01.trans oA12).trans oA23))
 have hkm3:A3.heap[sm]?=some (.map es cm):=(gB.block sm hsm).trans Hkm.out
 have hM:∀b∈[sm],∀cs ty fr,A3.heap[b]?≠some (.cells cs ty fr):=fun b hb cs ty fr e=>by
  simp only [List.mem_singleton] at hb
  rw [hb,hkm3] at e
  cases e
 have hne:∀{b:Nat}{cs:Array Value}{ty:TypeId}{fr:Nat×Nat},A3.heap[b]?=some (.cells cs ty fr)→b∉[sm]:=fun {b cs ty fr} hb hm=>hM b hm cs ty fr hb
 have HA:Hid (∀wr:World,Fr B TD [sm] A3 wr→wr.heap[w.heap.size]?=some (.cells #[.pointer (some ⟨db,0,none⟩)] 25 (0,0))∧wr.heap[ys]?=some (.cells #[.pointer (some ⟨sn,0,none⟩)] 30 (0,0))∧wr.heap[av]?=some (.cells #[.slice da 2 dc] 34 (0,0))∧SCell wr sn db tn n X1.heap.size xn n 0 1 (.slice none 0 0) (.slice (some ⟨X1.heap.size+1,0,none⟩) 1 1)∧
   wr.heap[av+1]?=some (.cells #[.func (.func 25) #[] #[.pointer (some ⟨ys,0,none⟩),.pointer (some ⟨av,0,none⟩)],.func (.func 27) #[.pointer (some ⟨db,0,none⟩)] #[],.func (.func 28) #[] #[.pointer (some ⟨w.heap.size,0,none⟩),.pointer (some ⟨av,0,none⟩),.pointer (some ⟨ys,0,none⟩)],.func (.func 31) #[] #[.pointer (some ⟨w.heap.size,0,none⟩)],.func (.func 27) #[.pointer (some ⟨db,0,none⟩)] #[]] 47 (0,0))∧wr.ownsRow B 3 1 (.slice (some ⟨X1.heap.size+1,0,none⟩) 1 1) 1 (nats [2])∧DataB wr B (dirB []) da 2 dc∧av+2≤wr.heap.size):=Lib.hid (fun wr hf=>by
  refine⟨hf.keep g1 (hne g1) (by decide),hf.keep g2 (hne g2) (by decide),hf.keep g3 (hne g3) (by decide),hf.keep g4 (hne g4) (by decide),hf.keep g5 (hne g5) (by decide),hf.keepRow g6 (by decide) (fun b hb=>?_),g7.fr hf (by decide) (fun b hb cs fr=>hM b hb cs _ fr),by have:=hf.size;omega⟩
  obtain⟨cur,hc⟩:=own_kind g6 hb
  exact hne hc)
 have Hg8:=Lib.hid g8
 have HgB:=Lib.hid gB
 have HgD:=Lib.hid gD
 have HgM:=Lib.hid hM
 have HA3:=Lib.hid hA3
 have hsnm:sn≠sm:=fun e=>by have:=hns;have:=Hs3.out;omega
 have hBsn:B≤sn:=by have:=hns;have:=Hs3.out;omega
 have hbox3:A2.cell? ⟨w.heap.size,0,none⟩=some (.pointer (some ⟨db,0,none⟩)):=by
  have h3:=HA0b.out.block w.heap.size (by have:=Hs3.out;omega)
  rw [cell_of_heap (((oA01.trans oA12).2 _ (by have:=Hs3.out;omega)).trans (h3.trans Hbx.out))]
  rfl
 have hwz:w.heap.size<av:=by have:=Hs3.out;omega
 have HavE:=Lib.hid hav
 clear g1 g2 g3 g4 g5 g6 g7 g8 gB gD hM hne hA2 hA3 hav oA01 oA12 oA23 hkm3 h01 h00
 go_wp2_with fail
 rw [← HA3.out]
 clear hbox3
 go_loopw [7,8,30] (fun _ _ iv wr=>∃k:Nat,k≤5∧iv=.int .i64 k∧DK wr B db sm n (fmtK K k)∧Fr B TD [sm] A3 wr) (fun _ _ iv _=>5-(intOf iv).toNat)
 case atStart=>exact⟨0,by decide,rfl,HgD.out,Fr.refl _ _ _ _⟩
 case round =>
  obtain⟨k,hk,rfl,hdi,hfr⟩:=hrel
  obtain⟨q1,q2,q3,q4,q5,q6,q7,q8⟩:=HA.out wr hfr
  have hBw:B≤wr.heap.size:=by omega
  have Hfr:=Lib.hid hfr
  rcases (show k=0∨k=1∨k=2∨k=3∨k=4∨k=5 by omega) with rfl | rfl | rfl | rfl | rfl | rfl
  ·have HC:Hid (Calls Tryz.prog 25 #[.pointer (some ⟨ys,0,none⟩),.pointer (some ⟨av,0,none⟩)] wr fun e w'=>e=.returned (.int .u16 0)∧DK w' B db sm n (fmtK K 1)∧Fr B TD [sm] wr w'):=Lib.hid ((format1_any [2] hdi q4 q2 q3 q6 rfl (fun a ha=>by simp at ha;omega) q7 hBw (by omega) (by have:=Hkl.out.1;show K.cac.length+1≤_;omega) (by decide) hsnm hBsn Hkc.out.2.2.2.2).mono fun e w' ⟨h0,h1,h2⟩=>⟨h0,h1,h2⟩)
   have hcf:wr.cell? ⟨av+1,0,none⟩=some (.func (.func 25) #[] #[.pointer (some ⟨ys,0,none⟩),.pointer (some ⟨av,0,none⟩)]):=by rw [cell_of_heap q5];rfl
   clear q1 q2 q3 q4 q5 q6 q7 hdi hfr
   go_wp2_with (go_at_call 25;refine HC.out.mono ?_;clear HC;rintro e w1 ⟨rfl,h1,h2⟩;have H1:=Lib.hid h1;have H2:=Lib.hid h2;clear h1 h2)
   go_roundw
   case rel=>exact⟨1,by decide,by rfl,H1.out,Hfr.out.trans H2.out⟩
   case measure=>simp [intOf]
  ·have HC:Hid (Calls Tryz.prog 27 #[.pointer (some ⟨db,0,none⟩)] wr fun e w'=>e=.returned (.int .u16 0)∧DK w' B db sm n (fmtK K 2)∧Fr B TD [sm] wr w'):=Lib.hid ((flush_any hdi (by omega) (by have:=Hkl.out.2.1;omega) hBw).mono fun e w' ⟨h0,h1,h2⟩=>⟨by rw [h0,Hkc.out.1.ok];rfl,h1,h2⟩)
   have hcf:wr.cell? ⟨av+1,1,none⟩=some (.func (.func 27) #[.pointer (some ⟨db,0,none⟩)] #[]):=by rw [cell_of_heap q5];rfl
   clear q1 q2 q3 q4 q5 q6 q7 hdi hfr
   go_wp2_with (go_at_call 27;refine HC.out.mono ?_;clear HC;rintro e w1 ⟨rfl,h1,h2⟩;have H1:=Lib.hid h1;have H2:=Lib.hid h2;clear h1 h2)
   go_roundw
   case rel=>exact⟨2,by decide,by rfl,H1.out,Hfr.out.trans H2.out⟩
   case measure=>simp [intOf]
  ·have HC:Hid (Calls Tryz.prog 28 #[.pointer (some ⟨w.heap.size,0,none⟩),.pointer (some ⟨av,0,none⟩),.pointer (some ⟨ys,0,none⟩)] wr fun e w'=>e=.returned (.int .u16 0)∧DK w' B db sm n (fmtK K 3)∧Fr B TD [sm] wr w'):=Lib.hid ((format2_any hH [2] hdi q4 q1 q2 q3 q6 rfl (fun a ha=>by simp at ha;omega) q7 (by omega) hBw (by omega) (by omega) (by decide) (by have:=Hkl.out.2.2.1;omega) (by decide) (by decide)).mono fun e w' ⟨h0,h1,h2⟩=>⟨by rw [h0,Hkc.out.2.1.ok];rfl,h1,h2⟩)
   have hcf:wr.cell? ⟨av+1,2,none⟩=some (.func (.func 28) #[] #[.pointer (some ⟨w.heap.size,0,none⟩),.pointer (some ⟨av,0,none⟩),.pointer (some ⟨ys,0,none⟩)]):=by rw [cell_of_heap q5];rfl
   clear q1 q2 q3 q4 q5 q6 q7 hdi hfr
   go_wp2_with (go_at_call 28;refine HC.out.mono ?_;clear HC;rintro e w1 ⟨rfl,h1,h2⟩;have H1:=Lib.hid h1;have H2:=Lib.hid h2;clear h1 h2)
   go_roundw
   case rel=>exact⟨3,by decide,by rfl,H1.out,Hfr.out.trans H2.out⟩
   case measure=>simp [intOf]
  ·have HC:Hid (Calls Tryz.prog 31 #[.pointer (some ⟨w.heap.size,0,none⟩)] wr fun e w'=>e=.returned (.int .u16 0)∧DK w' B db sm n (fmtK K 4)∧Fr B TD [sm] wr w'):=Lib.hid ((format3_any hdi Hkc.out.2.2.1 q1 hBw (by omega) (by omega) (by have:=Hkl.out.2.2.2.1;omega)).mono fun e w' ⟨h0,h1,h2⟩=>⟨h0,h1,h2⟩)
   have hcf:wr.cell? ⟨av+1,3,none⟩=some (.func (.func 31) #[] #[.pointer (some ⟨w.heap.size,0,none⟩)]):=by rw [cell_of_heap q5];rfl
   clear q1 q2 q3 q4 q5 q6 q7 hdi hfr
   go_wp2_with (go_at_call 31;refine HC.out.mono ?_;clear HC;rintro e w1 ⟨rfl,h1,h2⟩;have H1:=Lib.hid h1;have H2:=Lib.hid h2;clear h1 h2)
   go_roundw
   case rel=>exact⟨4,by decide,by rfl,H1.out,Hfr.out.trans H2.out⟩
   case measure=>simp [intOf]
  ·have HC:Hid (Calls Tryz.prog 27 #[.pointer (some ⟨db,0,none⟩)] wr fun e w'=>e=.returned (.int .u16 0)∧DK w' B db sm n (fmtK K 5)∧Fr B TD [sm] wr w'):=Lib.hid ((flush_any hdi (by omega) (by have:=Hkl.out.2.2.2.2.1;omega) hBw).mono fun e w' ⟨h0,h1,h2⟩=>⟨by rw [h0,Hkc.out.2.2.2.1.ok];rfl,h1,h2⟩)
   have hcf:wr.cell? ⟨av+1,4,none⟩=some (.func (.func 27) #[.pointer (some ⟨db,0,none⟩)] #[]):=by rw [cell_of_heap q5];rfl
   clear q1 q2 q3 q4 q5 q6 q7 hdi hfr
   go_wp2_with (go_at_call 27;refine HC.out.mono ?_;clear HC;rintro e w1 ⟨rfl,h1,h2⟩;have H1:=Lib.hid h1;have H2:=Lib.hid h2;clear h1 h2)
   go_roundw
   case rel=>exact⟨5,by decide,by rfl,H1.out,Hfr.out.trans H2.out⟩
   case measure=>simp [intOf]
  ·have hcs:wr.cell? ⟨ys,0,none⟩=some (.pointer (some ⟨sn,0,none⟩)):=by rw [cell_of_heap q2];rfl
   have Hq4:=Lib.hid q4
   have Hdi:=Lib.hid hdi
   clear q1 q2 q3 q4 q5 q6 q7 hdi hfr
   go_wp2_with fail
   refine bodyPost_ret (results_tmp2 rfl _ _ _) rfl ?_
   have hK:Kp B w wr:=(Kp.of_below HgB.out hB).trans (Kp.of_fr Hfr.out (by decide) (fun ty _ b hb cs fr=>HgM.out b hb cs ty fr))
   have hSR:SR wr B sn tn n X1.heap.size xn 0 (.slice none 0 0) (.slice (some ⟨X1.heap.size+1,0,none⟩) 1 1) (newG n):=(Hg8.out sn).fr Hfr.out (by decide) (by simp only [List.mem_singleton];have:=Hs1.out;omega) (by simp only [List.mem_singleton];have:=Hs3.out;omega) (fun b hb cs ty fr _=>HgM.out b hb cs ty fr)
   exact⟨sn,rfl,hK,by have:=Hs3.out;omega,⟨tn,n,X1.heap.size,xn,_,_,⟨hBsn,Hq4.out,hSR.mono (Nat.zero_le _),Hdi.out,by have:=Hkl.out.2.2.2.2.2;omega,by decide,by decide,Nat.zero_le _,(show dirLen []≤2 by decide),(show dirLen []≤2 by decide),by have:=Hs1.out;omega,by have:=Hs3.out;omega,inv_new h3 hn⟩⟩,Hfl.out Hdi.out.ok⟩
end Go.Proofs.YtndjmffnlcilbaaGreatDoor
