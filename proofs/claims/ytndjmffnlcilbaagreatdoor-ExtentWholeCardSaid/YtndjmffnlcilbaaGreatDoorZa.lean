/- Contracts over this program. Their conditions: the slices read as the lists that are named, and lie within the sizes that are named. -/
import Derived.Test.YtndjmffnlcilbaaGreatDoorYr
import Derived.Test.YtndjmffnlcilbaaGreatDoorYz
set_option linter.unusedSimpArgs false
set_option linter.unusedVariables false
set_option linter.deprecated false
set_option linter.unnecessarySimpa false
namespace Go.Proofs.YtndjmffnlcilbaaGreatDoor
open Go Go.RowKit Go.Ix Go.Ext Go.Maps
def TookAt (A:World) (T:Nat→Int) (n want:Nat) (t4 t5:Value) (wx:World):Prop :=
 Below A.heap.size A wx∧∃(b4:Nat) (o:Option Addr) (m cc c:Nat),t4=.pointer (some ⟨b4,0,none⟩)∧A.heap.size≤b4∧t5=.int .u16 c∧wx.heap[b4]?=some (.cells #[.slice o m cc] 66 (0,0))∧(c=0∨c=5)∧
  (c=0→m=want∧∃l k,wx.ownsRow A.heap.size 3 1 (.slice o want cc) want (nats l)∧l.length=want∧l=zeros T k∧k≤n∧(runsOf l).length≤48)
def TakeOf (W:World) (T:Nat→Int) (n want:Nat) (o:Option Addr) (m cc c:Nat) (w3:World):Prop :=
 Below W.heap.size W w3∧(c=0∨c=5)∧(c=0→m=want∧∃l k,w3.ownsRow W.heap.size 3 1 (.slice o want cc) want (nats l)∧l.length=want∧l=zeros T k∧k≤n∧(runsOf l).length≤48)
theorem TakeEnd.of {W w3:World}{T:Nat→Int}{n want:Nat}{e:Ending}(h:TakeEnd W T n want e w3):∃(o:Option Addr) (m cc c:Nat),e=.returned (.tuple #[.slice o m cc,.int .u16 c])∧TakeOf W T n want o m cc c w3:=by
 obtain⟨h1,o,m,cc,c,h2,h3,h4⟩:=h.all
 exact⟨o,m,cc,c,h2,h1,h3,h4⟩
theorem took_late {A w3:World}{T:Nat→Int}{n want m cc c:Nat}{o:Option Addr}(h:TakeOf A.drew T n want o m cc c w3) :
  TookAt A T n want (.pointer (some ⟨w3.heap.size,0,none⟩)) (.int .u16 c) (w3.alloc (.cells #[.slice o m cc] 66)):=by
 obtain⟨h1,h2,h3⟩:=h
 have hs:A.heap.size≤w3.heap.size:=h1.size
 refine⟨((Below.refl _ _).drew.trans h1).trans ((Below.refl _ _).alloc hs _),w3.heap.size,o,m,cc,c,rfl,hs,rfl,heap_alloc_new _ _,h2,fun h0=>?_⟩
 obtain⟨a,l,k,b,d⟩:=h3 h0
 exact⟨a,l,k,ownsRow_olds b (Olds.alloc _ _),d⟩
theorem took_soon {A w3:World}{T:Nat→Int}{n want m cc c:Nat}{o:Option Addr}(h:TakeOf (A.alloc (.cells #[.slice none 0 0] 66)).drew T n want o m cc c w3) :
  TookAt A T n want (.pointer (some ⟨A.heap.size,0,none⟩)) (.int .u16 c) (w3.setCell ⟨A.heap.size,0,none⟩ (.slice o m cc)):=by
 obtain⟨h1,h2,h3⟩:=h
 have hz:(A.alloc (.cells #[.slice none 0 0] 66)).drew.heap.size=A.heap.size+1:=World.size_alloc _ _
 rw [hz] at h1 h3
 have hs:A.heap.size+1≤w3.heap.size:=by have:=h1.size;rw [hz] at this;exact this
 have hb:w3.heap[A.heap.size]?=some (.cells #[.slice none 0 0] 66 (0,0)):=(h1.block _ (Nat.lt_succ_self _)).trans (heap_alloc_new A _)
 have h0:Below A.heap.size A (A.alloc (.cells #[.slice none 0 0] 66)).drew:=((Below.refl A.heap.size A).alloc (Nat.le_refl _) _).drew
 refine⟨(h0.trans (h1.mono (Nat.le_succ _))).trans ((Below.refl _ _).setCell (p:=⟨A.heap.size,0,none⟩) (Nat.le_refl _) _),A.heap.size,o,m,cc,c,rfl,Nat.le_refl _,rfl,heap_setCell_same w3 A.heap.size 0 _ _ _ hb,h2,fun h00=>?_⟩
 obtain⟨a,l,k,b,d⟩:=h3 h00
 refine⟨a,l,k,ownsRow_mono (ownsRow_blocks b fun g hg=>Below.heap_setCell _ _ _ _ (fun e=>?_)) (Nat.le_succ _),d⟩
 have:=(ownsRow_block b hg).1
 have e2:g=A.heap.size:=e
 omega
theorem took_cell {A w3:World}{T:Nat→Int}{n want m cc c:Nat}{o:Option Addr}(h:TakeOf (A.alloc (.cells #[.slice none 0 0] 66)).drew T n want o m cc c w3):w3.cell? ⟨A.heap.size,0,none⟩=some (.slice none 0 0):=by
 have hz:(A.alloc (.cells #[.slice none 0 0] 66)).drew.heap.size=A.heap.size+1:=World.size_alloc _ _
 rw [cell_of_heap ((h.1.block A.heap.size (by omega)).trans (heap_alloc_new A _))]
 rfl
theorem took_frozen {A w3:World}{T:Nat→Int}{n want m cc c:Nat}{o:Option Addr}(h:TakeOf (A.alloc (.cells #[.slice none 0 0] 66)).drew T n want o m cc c w3):w3.frozen? ⟨A.heap.size,0,none⟩=false:=by
 have hz:(A.alloc (.cells #[.slice none 0 0] 66)).drew.heap.size=A.heap.size+1:=World.size_alloc _ _
 have hb:w3.heap[A.heap.size]?=some (.cells #[.slice none 0 0] 66 (0,0)):=(h.1.block A.heap.size (by omega)).trans (heap_alloc_new A _)
 simp [World.frozen?,hb]
theorem Tryz.enters_made:∀(args:Array Value) (w:World),(callFunc 23 args).run Tryz.prog w=.ok (.enter 23 args) w:=enters_of Tryz.func23 (by kernel_rfl) rfl
def laid9 (w:World) (sb:Nat) (v0 v1 v2 v3 v4 v5 v6 v7 v8:Value):World:=((((((((w.setCell ⟨sb,0,none⟩ v0).setCell ⟨sb,1,none⟩ v1).setCell ⟨sb,2,none⟩ v2).setCell ⟨sb,3,none⟩ v3).setCell ⟨sb,4,none⟩ v4).setCell ⟨sb,5,none⟩ v5).setCell ⟨sb,6,none⟩ v6).setCell ⟨sb,7,none⟩ v7).setCell ⟨sb,8,none⟩ v8
theorem laid9_cell {w:World}{sb:Nat}{a0 a1 a2 a3 a4 a5 a6 a7 a8 v0 v1 v2 v3 v4 v5 v6 v7 v8:Value}{ty:TypeId}(h:w.heap[sb]?=some (.cells #[a0,a1,a2,a3,a4,a5,a6,a7,a8] ty (0,0))):(laid9 w sb v0 v1 v2 v3 v4 v5 v6 v7 v8).heap[sb]?=some (.cells #[v0,v1,v2,v3,v4,v5,v6,v7,v8] ty (0,0)):=by
 have h0:(w.setCell ⟨sb,0,none⟩ v0).heap[sb]?=some (.cells #[v0,a1,a2,a3,a4,a5,a6,a7,a8] ty (0,0)):=heap_setCell_same _ sb 0 _ _ _ h
 have h1:((w.setCell ⟨sb,0,none⟩ v0).setCell ⟨sb,1,none⟩ v1).heap[sb]?=some (.cells #[v0,v1,a2,a3,a4,a5,a6,a7,a8] ty (0,0)):=heap_setCell_same _ sb 1 _ _ _ h0
 have h2:(((w.setCell ⟨sb,0,none⟩ v0).setCell ⟨sb,1,none⟩ v1).setCell ⟨sb,2,none⟩ v2).heap[sb]?=some (.cells #[v0,v1,v2,a3,a4,a5,a6,a7,a8] ty (0,0)):=heap_setCell_same _ sb 2 _ _ _ h1
 have h3:((((w.setCell ⟨sb,0,none⟩ v0).setCell ⟨sb,1,none⟩ v1).setCell ⟨sb,2,none⟩ v2).setCell ⟨sb,3,none⟩ v3).heap[sb]?=some (.cells #[v0,v1,v2,v3,a4,a5,a6,a7,a8] ty (0,0)):=heap_setCell_same _ sb 3 _ _ _ h2
 have h4:(((((w.setCell ⟨sb,0,none⟩ v0).setCell ⟨sb,1,none⟩ v1).setCell ⟨sb,2,none⟩ v2).setCell ⟨sb,3,none⟩ v3).setCell ⟨sb,4,none⟩ v4).heap[sb]?=some (.cells #[v0,v1,v2,v3,v4,a5,a6,a7,a8] ty (0,0)):=heap_setCell_same _ sb 4 _ _ _ h3
 have h5:((((((w.setCell ⟨sb,0,none⟩ v0).setCell ⟨sb,1,none⟩ v1).setCell ⟨sb,2,none⟩ v2).setCell ⟨sb,3,none⟩ v3).setCell ⟨sb,4,none⟩ v4).setCell ⟨sb,5,none⟩ v5).heap[sb]?=some (.cells #[v0,v1,v2,v3,v4,v5,a6,a7,a8] ty (0,0)):=heap_setCell_same _ sb 5 _ _ _ h4
 have h6:(((((((w.setCell ⟨sb,0,none⟩ v0).setCell ⟨sb,1,none⟩ v1).setCell ⟨sb,2,none⟩ v2).setCell ⟨sb,3,none⟩ v3).setCell ⟨sb,4,none⟩ v4).setCell ⟨sb,5,none⟩ v5).setCell ⟨sb,6,none⟩ v6).heap[sb]?=some (.cells #[v0,v1,v2,v3,v4,v5,v6,a7,a8] ty (0,0)):=heap_setCell_same _ sb 6 _ _ _ h5
 have h7:((((((((w.setCell ⟨sb,0,none⟩ v0).setCell ⟨sb,1,none⟩ v1).setCell ⟨sb,2,none⟩ v2).setCell ⟨sb,3,none⟩ v3).setCell ⟨sb,4,none⟩ v4).setCell ⟨sb,5,none⟩ v5).setCell ⟨sb,6,none⟩ v6).setCell ⟨sb,7,none⟩ v7).heap[sb]?=some (.cells #[v0,v1,v2,v3,v4,v5,v6,v7,a8] ty (0,0)):=heap_setCell_same _ sb 7 _ _ _ h6
 have h8:(((((((((w.setCell ⟨sb,0,none⟩ v0).setCell ⟨sb,1,none⟩ v1).setCell ⟨sb,2,none⟩ v2).setCell ⟨sb,3,none⟩ v3).setCell ⟨sb,4,none⟩ v4).setCell ⟨sb,5,none⟩ v5).setCell ⟨sb,6,none⟩ v6).setCell ⟨sb,7,none⟩ v7).setCell ⟨sb,8,none⟩ v8).heap[sb]?=some (.cells #[v0,v1,v2,v3,v4,v5,v6,v7,v8] ty (0,0)):=heap_setCell_same _ sb 8 _ _ _ h7
 exact h8
theorem laid9_other {w:World}{sb:Nat}{v0 v1 v2 v3 v4 v5 v6 v7 v8:Value}{b:Nat}(hb:b≠sb):(laid9 w sb v0 v1 v2 v3 v4 v5 v6 v7 v8).heap[b]?=w.heap[b]?:=by
 unfold laid9
 repeat rw [Below.heap_setCell _ _ _ _ (show b≠sb from hb)]
theorem laid9_below {w:World}{B sb:Nat}{v0 v1 v2 v3 v4 v5 v6 v7 v8:Value}(hB:B≤sb):Below B w (laid9 w sb v0 v1 v2 v3 v4 v5 v6 v7 v8):=by
 unfold laid9
 exact (((((((((Below.refl B w).setCell (p:=⟨sb,0,none⟩) hB _).setCell (p:=⟨sb,1,none⟩) hB _).setCell (p:=⟨sb,2,none⟩) hB _).setCell (p:=⟨sb,3,none⟩) hB _).setCell (p:=⟨sb,4,none⟩) hB _).setCell (p:=⟨sb,5,none⟩) hB _).setCell (p:=⟨sb,6,none⟩) hB _).setCell (p:=⟨sb,7,none⟩) hB _).setCell (p:=⟨sb,8,none⟩) hB _
def cmAt (K:Dk) (l ds:List Nat) (cur gen:Nat):Nat→Dk
 | 0=>K
 | 1=>cm1 K l ds
 | 2=>cm2 K l ds
 | 3=>cm3 K l ds cur gen
 | _=>cm4 K l ds cur gen
theorem flush_len (K:Dk):K.flush.cac.length≤K.cac.length:=by
 unfold Dk.flush
 split
 ·exact Nat.zero_le _
 ·rw [tick_cac]
  exact Nat.le_refl _
theorem cm_len (K:Dk) (l ds:List Nat) (cur gen q:Nat):(cmAt K l ds cur gen q).cac.length≤K.cac.length+l.length+1:=by
 have h1:(cm1 K l ds).cac.length≤K.cac.length+l.length:=by
  have:=writes_len (pieces l ds) K
  rw [pieces_len] at this
  exact this
 have h2:(cm2 K l ds).cac.length≤K.cac.length+l.length:=Nat.le_trans (flush_len _) h1
 have h3:(cm3 K l ds cur gen).cac.length≤K.cac.length+l.length+1:=Nat.le_trans (write_len _ _ _) (by omega)
 have h4:(cm4 K l ds cur gen).cac.length≤K.cac.length+l.length+1:=Nat.le_trans (flush_len _) h3
 unfold cmAt
 split<;>omega
set_option maxRecDepth 20000 in
set_option maxHeartbeats 1000000 in
theorem did_fail {w:World}{B db sm n sb:Nat}{K:Dk}{c0 c1 c2 c3 c4 c5 c6 c8:Value}{dk:Bool}(hd:DK w B db sm n K) (hsb:w.heap[sb]?=some (.cells #[c0,c1,c2,c3,c4,c5,c6,.bool dk,c8] 69 (0,0))) (hBs:B≤sb) :
  Calls Tryz.prog 50 #[.pointer (some ⟨sb,0,none⟩),.int .u16 4] w fun e w'=>e=.returned (.int .u16 4)∧DK w' B db sm n K∧Fr B [] [sb] w w':=by
 have h7:w.cell? ⟨sb,7,none⟩=some (.bool dk):=by rw [cell_of_heap hsb];rfl
 have f7:w.frozen? ⟨sb,7,none⟩=false:=by simp [World.frozen?,hsb]
 have hF:Fr B [] [sb] w (w.setCell ⟨sb,7,none⟩ (.bool true)):=(Fr.refl _ _ _ _).cell (p:=⟨sb,7,none⟩) hsb hBs (.inl (by simp)) _
 have HE:Hid (DK (w.setCell ⟨sb,7,none⟩ (.bool true)) B db sm n K∧Fr B [] [sb] w (w.setCell ⟨sb,7,none⟩ (.bool true))):=Lib.hid ⟨hd.fr hF (by simp) (by
  simp only [List.mem_singleton]
  intro e
  obtain⟨es,c,hk⟩:=hd.seen.kind
  rw [e,hsb] at hk
  cases hk) (fun b hb=>by
   simp only [List.mem_singleton] at hb
   subst hb
   exact .inr ⟨_,_,_,hsb,by decide⟩),hF⟩
 clear hsb hd hF
 cases dk with
 | true =>
  go_enter Tryz.func50,Tryz.ntmps50
  go_wp2_with fail
  go_ret
  exact⟨rfl,HE.out⟩
 | false =>
  go_enter Tryz.func50,Tryz.ntmps50
  go_wp2_with fail
  go_ret
  exact⟨rfl,HE.out⟩
def CommitEnd (w:World) (B db sm sb k D:Nat) (t:Dk) (slot gen:Nat) (g:G) (ln lx:LF) (e:Ending) (w':World):Prop :=
 Kp B w w'∧∃c:Nat,e=.returned (.int .u16 c)∧((c=0∧∃t' slot' gen' g',gen'≤gen+1∧SL w' B db sm sb (k+1) D t' slot' gen' g' lx lx∧g'.n=g.n)∨(c=5∧∃g',SL w' B db sm sb (k+1) D t slot gen g' ln ln∧g'.n=g.n)∨(c=4∧∀m,gen+1≤m→DL w' B db sm g.n (k+1) m ln lx))
set_option maxRecDepth 20000 in
set_option maxHeartbeats 8000000 in
theorem commit_any (hH:HalfOk) {w:World}{B db sm sb k D tb tc nb xb slot gen:Nat}{t:Dk}{uv dv:Value}{g:G}{ln lx:LF}(h:SIx w B db sm sb k D t tb tc nb xb slot gen uv dv g) (hL:Live isNm t g slot gen ln lx) (hG:9≤w.heap.size) (hk:k≤900) (hD:D≤1000000) :
  Calls Tryz.prog 17 #[.pointer (some ⟨sb,0,none⟩)] w (CommitEnd w B db sm sb k D t slot gen g ln lx):=by
 have HL:=Lib.hid hL
 clear hL
 obtain⟨X1,hX1⟩:∃X1:World,X1=w.alloc (.cells #[.pointer (some ⟨sb,0,none⟩)] 30):=⟨_,rfl⟩
 have o1:Olds w X1:=by rw [hX1];exact Olds.alloc _ _
 have b1:Below w.heap.size w X1:=by rw [hX1];exact (Below.refl _ _).alloc (Nat.le_refl _) _
 have hs1:X1.heap.size=w.heap.size+1:=by rw [hX1];simp
 have hbx:X1.heap[w.heap.size]?=some (.cells #[.pointer (some ⟨sb,0,none⟩)] 30 (0,0)):=by rw [hX1];exact heap_alloc_new _ _
 have H1:=Lib.hid (h.olds o1)
 have c7:X1.cell? ⟨sb,7,none⟩=some (.bool false):=by rw [cell_of_heap H1.out.cell];rfl
 have c2:X1.cell? ⟨sb,2,none⟩=some (.int .u64 (gen:Nat)):=by rw [cell_of_heap H1.out.cell];rfl
 have c4:X1.cell? ⟨sb,4,none⟩=some (.map (some xb)):=by rw [cell_of_heap H1.out.cell];rfl
 have cb:X1.cell? ⟨w.heap.size,0,none⟩=some (.pointer (some ⟨sb,0,none⟩)):=by rw [cell_of_heap hbx];rfl
 have hgen:=h.hgen
 have hgd:decide (4611686018427387904≤(gen:Int))=false:=by simp;omega
 have HSB:=Lib.hid (sbytes_any H1.out.rest.next (by omega) h.rest.fokx (by have:=h.hdx;omega))
 have H:=Lib.hid h
 have HX1:=Lib.hid hX1
 have Hb1:=Lib.hid b1
 have Hbx:=Lib.hid hbx
 have Hs1:=Lib.hid hs1
 obtain⟨dn,hdn⟩:∃dn,dn=dirLen g.next:=⟨_,rfl⟩
 have hdn9:dn≤1000000:=by have:=h.hdx;omega
 rw [← hdn] at HSB
 have Hdn:=Lib.hid hdn
 clear hX1 o1 b1 hbx h hs1 hdn
 go_enter Tryz.func17,Tryz.ntmps17
 go_upto_region 1 with fail
 rw [← HX1.out]
 go_upto_region 7 with (go_at_call 24;refine HSB.out.mono ?_;clear HSB;rintro e A1 ⟨v,rfl,hrow,hb⟩;obtain⟨da,dc,rfl⟩:=hrow.shape;have Hrow:=Lib.hid hrow;have Hb:=Lib.hid hb;clear hrow hb)
 obtain⟨A2,hA2⟩:∃A2:World,A2=A1.alloc (.cells #[.slice da dn dc] 34):=⟨_,rfl⟩
 obtain⟨av,hav⟩:∃av,av=A1.heap.size:=⟨_,rfl⟩
 rw [← hA2,← hav]
 have o12:Olds A1 A2:=by rw [hA2];exact Olds.alloc _ _
 have b2:Below w.heap.size w A2:=by
  rw [hA2]
  have h1:=Hb.out.size
  have h2:=Hs1.out
  exact (Hb1.out.trans (Hb.out.mono (by omega))).trans ((Below.refl _ _).alloc (by omega) _)
 have hsz:w.heap.size<av:=by have h1:=Hb.out.size;have h2:=Hs1.out;omega
 have hA2s:A2.heap.size=av+1:=by rw [hA2,hav];simp
 have hbx2:A2.heap[w.heap.size]?=some (.cells #[.pointer (some ⟨sb,0,none⟩)] 30 (0,0)):=(o12.2 _ (by omega)).trans ((Hb.out.block _ (by have:=Hs1.out;omega)).trans Hbx.out)
 have hav2:A2.heap[av]?=some (.cells #[.slice da dn dc] 34 (0,0)):=by
  rw [hA2,hav]
  exact heap_alloc_new _ _
 have h2:=H.out.olds (Olds.of_below b2)
 have H2:=Lib.hid h2
 have Hb2:=Lib.hid b2
 have Hbx2:=Lib.hid hbx2
 have Hav2:=Lib.hid hav2
 have Hda:Hid (DataB A2 B (dirB g.next) da dn dc):=Lib.hid (Hrow.out.olds o12).data
 have HN:=Lib.hid (need_any dn (by omega))
 have hin:=H.out.inv.hi
 have hlo:=H.out.inv.lo
 have HT:Hid (∀W:World,Olds A2 W→Calls Tryz.prog 39 #[.pointer (some ⟨sb,0,none⟩),.int .i64 (need dn:Nat)] W (TakeEnd W g.T g.n (need dn))):=Lib.hid (fun W hW=>take_any (need dn) (h2.olds hW).cell rfl (h2.olds hW).rest.taken (by omega) (by omega) (by unfold need;omega))
 have p1:A2.drew.cell? ⟨w.heap.size,0,none⟩=some (.pointer (some ⟨sb,0,none⟩)):=by rw [cell_of_heap (show A2.drew.heap[w.heap.size]?=_ from hbx2)];rfl
 have p2:A2.drew.cell? ⟨av,0,none⟩=some (.slice da dn dc):=by rw [cell_of_heap (show A2.drew.heap[av]?=_ from hav2)];rfl
 have p3:(A2.alloc (.cells #[.slice none 0 0] 66)).drew.cell? ⟨w.heap.size,0,none⟩=some (.pointer (some ⟨sb,0,none⟩)):=(Olds.alloc A2 (.cells #[.slice none 0 0] 66)).cell p1
 have p4:(A2.alloc (.cells #[.slice none 0 0] 66)).drew.cell? ⟨av,0,none⟩=some (.slice da dn dc):=(Olds.alloc A2 (.cells #[.slice none 0 0] 66)).cell p2
 have HA2:=Lib.hid hA2
 have Hav:=Lib.hid hav
 have HA2s:=Lib.hid hA2s
 obtain⟨nd,hnd⟩:∃nd,nd=need dn:=⟨_,rfl⟩
 rw [← hnd] at HT HN
 have Hnd:=Lib.hid hnd
 clear hA2 hav o12 b2 hbx2 hav2 h2 c7 c2 c4 cb hgd hA2s hnd
 go_cut [4,5] from 25 to 32 (fun t4 t5 wx=>TookAt A2 g.T g.n nd t4 t5 wx)
 case first =>
  go_region_with (first
   | (go_at_call 40;refine (HN.out _).mono ?_;rintro e w3 ⟨rfl,hw3⟩;rw [hw3];clear hw3 w3)
   | (go_at_call 39;refine (HT.out _ (Olds.drewN A2 1)).mono ?_;intro e w3 ht;obtain⟨o,m,cc,c,rfl,ht2⟩:=ht.of;have Ht:=Lib.hid ht2;clear ht ht2)
   | (go_at_call 39;refine (HT.out _ ((Olds.alloc A2 _).trans (Olds.drewN _ 1))).mono ?_;intro e w3 ht;obtain⟨o,m,cc,c,rfl,ht2⟩:=ht.of;have hsn:=took_cell ht2;have hfn:=took_frozen ht2;have Hs:=Lib.hid ht2;clear ht ht2))
  all_goals (go_wp2_with fail;go_meet;case rel=>first | exact took_late Ht.out | exact took_soon Hs.out)
 case rest =>
 obtain⟨hb,b4,o,m,cc,c,rfl,hb4,rfl,hx4,hc,hrow⟩:=hcut
 generalize wc=Y at *
 have hYb:Below w.heap.size w Y:=Hb2.out.trans (hb.mono Hb2.out.size)
 have oY:=Olds.of_below hb
 have hY:=H2.out.olds oY
 have HYb:=Lib.hid hYb
 have HY:=Lib.hid hY
 have hbxY:=(oY.2 _ (heap_lt Hbx2.out)).trans Hbx2.out
 have HbxY:=Lib.hid hbxY
 have y1:Y.cell? ⟨w.heap.size,0,none⟩=some (.pointer (some ⟨sb,0,none⟩)):=by rw [cell_of_heap hbxY];rfl
 have Hx4:=Lib.hid hx4
 have Hrow4:=Lib.hid hrow
 have Hb4:=Lib.hid hb
 have Hb4s:=Lib.hid hb4
 have HoY:=Lib.hid oY
 clear hb hYb oY hY hbxY hx4 hrow hb4 p1 p2 p3 p4
 rcases hc with rfl | rfl
 case inr =>
  have HDr:=Lib.hid (drop_any HY.out (by omega))
  go_wp2_with (go_at_call 16;refine HDr.out.mono ?_;clear HDr;rintro e w3 ⟨rfl,hk3,xb3,h3⟩;have Hk3:=Lib.hid hk3;have H3:=Lib.hid h3;clear hk3 h3)
  go_ret
  exact⟨(Kp.of_below HYb.out H.out.hB).trans Hk3.out,5,rfl,.inr (.inl ⟨rfl,_,⟨⟨_,_,_,_,_,_,H3.out.mono (Nat.le_succ _) (Nat.le_refl _)⟩,HL.out.dropped⟩,rfl⟩)⟩
 case inl =>
  obtain⟨hm,l,kk,hrow,hll,hlz,hkn,hruns⟩:=Hrow4.out rfl
  subst hm
  have hroom:Room g l:=by rw [hlz];exact room_zeros hkn
  have hl62:m≤62:=by rw [← hll,hlz];have:=zeros_len g.T kk;omega
  obtain⟨V,hV⟩:∃V:World,V=(Y.alloc (.cells #[.func (.func 48) #[] #[.pointer (some ⟨w.heap.size,0,none⟩),.pointer (some ⟨b4,0,none⟩),.pointer (some ⟨av,0,none⟩)],.func (.func 27) #[.pointer (some ⟨db,0,none⟩)] #[],.func (.func 49) #[] #[.pointer (some ⟨w.heap.size,0,none⟩),.pointer (some ⟨av,0,none⟩),.pointer (some ⟨b4,0,none⟩)],.func (.func 27) #[.pointer (some ⟨db,0,none⟩)] #[]] 47)).drew:=⟨_,rfl⟩
  have y2:Y.cell? ⟨sb,0,none⟩=some (.pointer (some ⟨db,0,none⟩)):=by rw [cell_of_heap HY.out.cell];rfl
  have hS0:Y.drew.cell? ⟨w.heap.size,0,none⟩=some (.pointer (some ⟨sb,0,none⟩))∧Y.drew.cell? ⟨sb,0,none⟩=some (.pointer (some ⟨db,0,none⟩)):=⟨y1,y2⟩
  have HS0:=Lib.hid hS0
  have HVS:Hid (∀W:World,Olds Y W→W.cell? ⟨w.heap.size,0,none⟩=some (.pointer (some ⟨sb,0,none⟩))∧W.cell? ⟨sb,0,none⟩=some (.pointer (some ⟨db,0,none⟩))):=Lib.hid (fun W hW=>⟨hW.cell y1,hW.cell y2⟩)
  have HV:=Lib.hid hV
  have Hrow5:=Lib.hid hrow
  have Hlz:=Lib.hid hlz
  have Hll:=Lib.hid hll
  have Hroom:=Lib.hid hroom
  have Hruns:=Lib.hid hruns
  clear hV hS0 hrow hlz hll hroom hruns y1 y2
  go_upto_region 11 with fail
  refine wp_region_held_drew (S:=(fun W'=>W'.cell? ⟨w.heap.size,0,none⟩=some (.pointer (some ⟨sb,0,none⟩))∧W'.cell? ⟨sb,0,none⟩=some (.pointer (some ⟨db,0,none⟩)))) (by kernel_rfl) HS0.out (fun hHeld=>?_)
  refine wpAnyH_take (i:=0) (v:=?v0) rfl (by kernel_rfl) (by kernel_rfl) (by kernel_rfl) (fun _ _ _ h=>h) (Or.inl ⟨by rfl,?h0⟩) hHeld ?r0
  case h0 =>
   rintro W ⟨s1,s2⟩
   go_simp
   all_goals with_reducible rfl
  try simp only [Act.put,List.getElem_toArray,List.getElem_cons_succ,List.getElem_cons_zero,List.setIfInBounds_toArray,List.set_cons_zero,List.set_cons_succ]
  refine wpAnyH_take (i:=1) (v:=?v1) rfl (by kernel_rfl) (by kernel_rfl) (by kernel_rfl) (fun _ _ _ h=>h) (Or.inl ⟨by rfl,?h1⟩) hHeld ?r1
  case h1 =>
   rintro W ⟨s1,s2⟩
   go_simp
   all_goals with_reducible rfl
  try simp only [Act.put,List.getElem_toArray,List.getElem_cons_succ,List.getElem_cons_zero,List.setIfInBounds_toArray,List.set_cons_zero,List.set_cons_succ]
  refine wpAnyH_take (i:=2) (v:=?v2) rfl (by kernel_rfl) (by kernel_rfl) (by kernel_rfl) (fun _ _ _ h=>h) (Or.inl ⟨by rfl,?h2⟩) hHeld ?r2
  case h2 =>
   rintro W ⟨s1,s2⟩
   go_simp
   all_goals with_reducible rfl
  try simp only [Act.put,List.getElem_toArray,List.getElem_cons_succ,List.getElem_cons_zero,List.setIfInBounds_toArray,List.set_cons_zero,List.set_cons_succ]
  refine wpAnyH_take (i:=3) (v:=?v3) rfl (by kernel_rfl) (by kernel_rfl) (by kernel_rfl) (fun _ _ _ h=>h) (Or.inl ⟨by rfl,?h3⟩) hHeld ?r3
  case h3 =>
   rintro W ⟨s1,s2⟩
   go_simp
   all_goals with_reducible rfl
  try simp only [Act.put,List.getElem_toArray,List.getElem_cons_succ,List.getElem_cons_zero,List.setIfInBounds_toArray,List.set_cons_zero,List.set_cons_succ]
  refine wpAnyH_take (i:=4) (v:=?v4) rfl (by kernel_rfl) (by kernel_rfl) (by kernel_rfl) (fun _ _ _ h=>h) (Or.inl ⟨by rfl,?h4⟩) hHeld ?r4
  case h4 =>
   rintro W ⟨s1,s2⟩
   go_simp
   all_goals with_reducible rfl
  try simp only [Act.put,List.getElem_toArray,List.getElem_cons_succ,List.getElem_cons_zero,List.setIfInBounds_toArray,List.set_cons_zero,List.set_cons_succ]
  refine wpAnyH_take (i:=5) (v:=?v5) rfl (by kernel_rfl) (by kernel_rfl) (by kernel_rfl) (fun _ _ _ h=>h) (Or.inl ⟨by rfl,?h5⟩) hHeld ?r5
  case h5 =>
   rintro W ⟨s1,s2⟩
   go_simp
   all_goals with_reducible rfl
  try simp only [Act.put,List.getElem_toArray,List.getElem_cons_succ,List.getElem_cons_zero,List.setIfInBounds_toArray,List.set_cons_zero,List.set_cons_succ]
  refine wpAnyH_take (i:=6) (v:=?v6) rfl (by kernel_rfl) (by kernel_rfl) (by kernel_rfl) (fun _ _ _ h=>h) (Or.inl ⟨by rfl,?h6⟩) hHeld ?r6
  case h6 =>
   rintro W ⟨s1,s2⟩
   go_simp
   all_goals with_reducible rfl
  try simp only [Act.put,List.getElem_toArray,List.getElem_cons_succ,List.getElem_cons_zero,List.setIfInBounds_toArray,List.set_cons_zero,List.set_cons_succ]
  refine wpAnyH_take (i:=7) (v:=?v7) rfl (by kernel_rfl) (by kernel_rfl) (by kernel_rfl) (fun _ _ _ h=>h) (Or.inl ⟨by rfl,?h7⟩) hHeld ?r7
  case h7 =>
   rintro W ⟨s1,s2⟩
   go_simp
   all_goals with_reducible rfl
  try simp only [Act.put,List.getElem_toArray,List.getElem_cons_succ,List.getElem_cons_zero,List.setIfInBounds_toArray,List.set_cons_zero,List.set_cons_succ]
  refine wpAnyH_take (i:=8) (v:=?v8) rfl (by kernel_rfl) (by kernel_rfl) (by kernel_rfl) (fun _ _ _ h=>h) (Or.inl ⟨by rfl,?h8⟩) hHeld ?r8
  case h8 =>
   rintro W ⟨s1,s2⟩
   go_simp
   all_goals with_reducible rfl
  try simp only [Act.put,List.getElem_toArray,List.getElem_cons_succ,List.getElem_cons_zero,List.setIfInBounds_toArray,List.set_cons_zero,List.set_cons_succ]
  refine wpAnyH_take (i:=9) (v:=?v9) rfl (by kernel_rfl) (by kernel_rfl) (by kernel_rfl) (fun _ _ _ h=>h) (Or.inl ⟨by rfl,?h9⟩) hHeld ?r9
  case h9 =>
   rintro W ⟨s1,s2⟩
   go_simp
   all_goals with_reducible rfl
  try simp only [Act.put,List.getElem_toArray,List.getElem_cons_succ,List.getElem_cons_zero,List.setIfInBounds_toArray,List.set_cons_zero,List.set_cons_succ]
  refine wpAnyH_take (i:=10) (v:=?v10) rfl (by kernel_rfl) (by kernel_rfl) (by kernel_rfl) (fun _ _ _ h=>h) (Or.inl ⟨by rfl,?h10⟩) hHeld ?r10
  case h10 =>
   rintro W ⟨s1,s2⟩
   go_simp
   all_goals with_reducible rfl
  try simp only [Act.put,List.getElem_toArray,List.getElem_cons_succ,List.getElem_cons_zero,List.setIfInBounds_toArray,List.set_cons_zero,List.set_cons_succ]
  refine wpAnyH_take (i:=11) (v:=?v11) rfl (by kernel_rfl) (by kernel_rfl) (by kernel_rfl) (fun _ _ _ h=>h) (Or.inl ⟨by rfl,?h11⟩) hHeld ?r11
  case h11 =>
   rintro W ⟨s1,s2⟩
   go_simp
   all_goals with_reducible rfl
  try simp only [Act.put,List.getElem_toArray,List.getElem_cons_succ,List.getElem_cons_zero,List.setIfInBounds_toArray,List.set_cons_zero,List.set_cons_succ]
  refine wpAnyH_take (i:=14) (v:=?v14) rfl (by kernel_rfl) (by kernel_rfl) (by kernel_rfl) (fun _ _ _ h=>h) (Or.inl ⟨by rfl,?h14⟩) hHeld ?r14
  case h14 =>
   rintro W ⟨s1,s2⟩
   go_simp
   all_goals with_reducible rfl
  try simp only [Act.put,List.getElem_toArray,List.getElem_cons_succ,List.getElem_cons_zero,List.setIfInBounds_toArray,List.set_cons_zero,List.set_cons_succ]
  refine wpAnyH_ready (rs:=[12]) (by kernel_rfl) (by simp) (AllReadyH.cons rfl (fun K hK=>?_) AllReadyH.nil)
  go_simp
  rw [← HV.out]
  refine hK.out _ _ (by rw [HV.out];exact HVS.out _ ((Olds.alloc Y _).trans (Olds.drewN _ 1))) (fun hHeld2=>?_)
  clear hK K
  try simp only [Act.put,List.getElem_toArray,List.getElem_cons_succ,List.getElem_cons_zero,List.setIfInBounds_toArray,List.set_cons_zero,List.set_cons_succ]
  refine wpAnyH_take (i:=13) (v:=?v13) rfl (by kernel_rfl) (by kernel_rfl) (by kernel_rfl) (fun _ _ _ h=>h) (Or.inl ⟨by rfl,?h13⟩) hHeld2 ?r13
  case h13 =>
   rintro W ⟨s1,s2⟩
   go_simp
   all_goals with_reducible rfl
  try simp only [Act.put,List.getElem_toArray,List.getElem_cons_succ,List.getElem_cons_zero,List.setIfInBounds_toArray,List.set_cons_zero,List.set_cons_succ]
  refine wpAnyH_done (by kernel_rfl) ?_ _
  obtain⟨bf,hbf⟩:∃bf,bf=Y.heap.size:=⟨_,rfl⟩
  have oYV:Olds Y V:=by rw [HV.out];exact (Olds.alloc Y _).trans (Olds.drewN _ 1)
  have hVs:V.heap.size=bf+1:=by rw [HV.out,hbf];exact World.size_alloc _ _
  have hA2Y:=Hb4.out.size
  have hbfA:A2.heap.size≤bf:=by omega
  have g1:V.heap[w.heap.size]?=some (.cells #[.pointer (some ⟨sb,0,none⟩)] 30 (0,0)):=(oYV.2 _ (heap_lt HbxY.out)).trans HbxY.out
  have g2:V.heap[b4]?=some (.cells #[.slice o m cc] 66 (0,0)):=(oYV.2 _ (heap_lt Hx4.out)).trans Hx4.out
  have g3:V.heap[av]?=some (.cells #[.slice da dn dc] 34 (0,0)):=((HoY.out.trans oYV).2 _ (heap_lt Hav2.out)).trans Hav2.out
  have g4:=(oYV.2 _ (heap_lt HY.out.cell)).trans HY.out.cell
  have g5:V.heap[bf]?=some (.cells #[.func (.func 48) #[] #[.pointer (some ⟨w.heap.size,0,none⟩),.pointer (some ⟨b4,0,none⟩),.pointer (some ⟨av,0,none⟩)],.func (.func 27) #[.pointer (some ⟨db,0,none⟩)] #[],.func (.func 49) #[] #[.pointer (some ⟨w.heap.size,0,none⟩),.pointer (some ⟨av,0,none⟩),.pointer (some ⟨b4,0,none⟩)],.func (.func 27) #[.pointer (some ⟨db,0,none⟩)] #[]] 47 (0,0)):=by
   have:=heap_alloc_new Y (.cells #[.func (.func 48) #[] #[.pointer (some ⟨w.heap.size,0,none⟩),.pointer (some ⟨b4,0,none⟩),.pointer (some ⟨av,0,none⟩)],.func (.func 27) #[.pointer (some ⟨db,0,none⟩)] #[],.func (.func 49) #[] #[.pointer (some ⟨w.heap.size,0,none⟩),.pointer (some ⟨av,0,none⟩),.pointer (some ⟨b4,0,none⟩)],.func (.func 27) #[.pointer (some ⟨db,0,none⟩)] #[]] 47)
   rw [← hbf] at this
   rw [HV.out]
   exact this
  have g6:V.ownsRow B 3 1 (.slice o m cc) m (nats l):=ownsRow_mono (ownsRow_olds Hrow5.out oYV) H2.out.hB
  have g7:DataB V B (dirB g.next) da dn dc:=Hda.out.olds (HoY.out.trans oYV)
  have gB:Below w.heap.size w V:=HYb.out.trans (by
   rw [HV.out]
   exact ((Below.refl _ _).alloc HYb.out.size _).drew)
  have gI:=HY.out.olds oYV
  have hkmV:=gI.di.seen.kind
  obtain⟨es,cm,hkm3⟩:=hkmV
  have hM:∀b∈[sm],∀cs ty fr,V.heap[b]?≠some (.cells cs ty fr):=fun b hb cs ty fr e=>by
   simp only [List.mem_singleton] at hb
   rw [hb,hkm3] at e
   cases e
  have hne:∀{b:Nat}{cs:Array Value}{ty:TypeId}{fr:Nat×Nat},V.heap[b]?=some (.cells cs ty fr)→b∉[sm]:=fun {b cs ty fr} hb hm=>hM b hm cs ty fr hb
  have HA:Hid (∀wr:World,Fr B TD [sm] V wr→wr.heap[w.heap.size]?=some (.cells #[.pointer (some ⟨sb,0,none⟩)] 30 (0,0))∧wr.heap[b4]?=some (.cells #[.slice o m cc] 66 (0,0))∧wr.heap[av]?=some (.cells #[.slice da dn dc] 34 (0,0))∧SCell wr sb db tb tc nb xb g.n slot gen uv dv∧
    wr.heap[bf]?=some (.cells #[.func (.func 48) #[] #[.pointer (some ⟨w.heap.size,0,none⟩),.pointer (some ⟨b4,0,none⟩),.pointer (some ⟨av,0,none⟩)],.func (.func 27) #[.pointer (some ⟨db,0,none⟩)] #[],.func (.func 49) #[] #[.pointer (some ⟨w.heap.size,0,none⟩),.pointer (some ⟨av,0,none⟩),.pointer (some ⟨b4,0,none⟩)],.func (.func 27) #[.pointer (some ⟨db,0,none⟩)] #[]] 47 (0,0))∧wr.ownsRow B 3 1 (.slice o m cc) m (nats l)∧DataB wr B (dirB g.next) da dn dc∧bf+1≤wr.heap.size):=Lib.hid (fun wr hf=>by
   refine⟨hf.keep g1 (hne g1) (by decide),hf.keep g2 (hne g2) (by decide),hf.keep g3 (hne g3) (by decide),hf.keep g4 (hne g4) (by decide),hf.keep g5 (hne g5) (by decide),hf.keepRow g6 (by decide) (fun b hb=>?_),g7.fr hf (by decide) (fun b hb cs fr=>hM b hb cs _ fr),by have:=hf.size;omega⟩
   obtain⟨cur,hc⟩:=own_kind g6 hb
   exact hne hc)
  have HgB:=Lib.hid gB
  have HgI:=Lib.hid gI
  have HgM:=Lib.hid hM
  have hBA:=H2.out.hB
  have hsbsm:=H.out.hsm
  have hslot:=H.out.hslot
  have hht:=H.out.ht
  have Hbf:=Lib.hid hbf
  rw [← hbf]
  clear g1 g2 g3 g4 g5 g6 g7 gB gI hM hne hkm3 oYV hbf hHeld hHeld2
  have hA2s:=HA2s.out
  go_wp2_with fail
  go_loopw [7,8,52] (fun _ _ iv wr=>∃q:Nat,q≤4∧iv=.int .i64 q∧DK wr B db sm g.n (cmAt t l (dirB g.next) slot gen q)∧CmOk t l (dirB g.next) slot gen q∧Fr B TD [sm] V wr) (fun _ _ iv _=>4-(intOf iv).toNat)
  case atStart=>exact⟨0,by decide,rfl,HgI.out.di,trivial,Fr.refl _ _ _ _⟩
  case round =>
   obtain⟨q,hq,rfl,hdi,hcm,hfr⟩:=hrel
   have Hcm:=Lib.hid hcm
   have hcl:=cm_len t l (dirB g.next) slot gen q
   rw [Hll.out] at hcl
   clear hcm
   obtain⟨q1,q2,q3,q4,q5,q6,q7,q8⟩:=HA.out wr hfr
   have hBw:B≤wr.heap.size:=by omega
   have Hfr:=Lib.hid hfr
   have hsz9:9≤wr.heap.size:=by omega
   have c1:wr.drew.cell? ⟨w.heap.size,0,none⟩=some (.pointer (some ⟨sb,0,none⟩)):=by rw [cell_of_heap (show wr.drew.heap[w.heap.size]?=_ from q1)];rfl
   have HD:Hid (∀w1:World,Fr B TD [sm] wr w1→w1.cell? ⟨w.heap.size,0,none⟩=some (.pointer (some ⟨sb,0,none⟩))∧Calls Tryz.prog 50 #[.pointer (some ⟨sb,0,none⟩),.int .u16 0] w1 fun e w'=>e=.returned (.int .u16 0)∧Olds w1 w'∧∀B,Below B w1 w'):=Lib.hid (fun w1 hf=>by
    obtain⟨r1,_,_,r4,_⟩:=HA.out w1 (Hfr.out.trans hf)
    exact⟨by rw [cell_of_heap r1];rfl,did_any r4⟩)
   have Hcs:=Lib.hid (fun mm (hmm:gen+1≤mm)=>commit_steps (m:=mm) HL.out Hroom.out (by rw [Hll.out,dir_len _ HL.out.inv.kx,Hnd.out,Hdn.out]) Hruns.out (by have:=H.out.hgen;omega) hmm)
   have HDn:Hid (∀w1:World,Fr B TD [sm,sb] wr w1→w1.cell? ⟨w.heap.size,0,none⟩=some (.pointer (some ⟨sb,0,none⟩))):=Lib.hid (fun w1 hf=>by
    have h8:=hf.keep q1 (by
     simp only [List.mem_cons,List.not_mem_nil,or_false,not_or]
     obtain⟨es',cm',hk'⟩:=hdi.seen.kind
     exact⟨fun e=>(by rw [e,hk'] at q1;cases q1),fun e=>(by rw [e,q4] at q1;simp at q1)⟩) (by decide)
    rw [cell_of_heap h8];rfl)
   have HKp:Hid (∀w1:World,Fr B TD [sm,sb] wr w1→Kp B wr w1):=Lib.hid (fun w1 hf=>Kp.of_fr hf (by decide) (fun ty hty b hb cs fr e=>by
    simp only [List.mem_cons,List.not_mem_nil,or_false] at hb
    obtain⟨es',cm',hk'⟩:=hdi.seen.kind
    rcases hb with rfl | rfl
    ·rw [hk'] at e
     cases e
    ·exact no_ty q4 e hty (by decide)))
   have HKq:Hid (∀w1 w2:World,Fr B TD [sm,sb] wr w1→Fr B [] [sb] w1 w2→(∃cs fr,w1.heap[sb]?=some (.cells cs 69 fr))→Kp B w1 w2):=Lib.hid (fun w1 w2 hf hf2 hs=>Kp.of_fr hf2 (by decide) (fun ty hty b hb cs fr e=>by
    simp only [List.mem_singleton] at hb
    obtain⟨cs',fr',h9⟩:=hs
    subst hb
    exact no_ty h9 e hty (by decide)))
   rcases (show q=0∨q=1∨q=2∨q=3∨q=4 by omega) with rfl | rfl | rfl | rfl | rfl
   ·have hcall:Calls Tryz.prog 48 #[.pointer (some ⟨w.heap.size,0,none⟩),.pointer (some ⟨b4,0,none⟩),.pointer (some ⟨av,0,none⟩)] wr.drew _:=commit1_any l (hdi.olds (Olds.drewN wr 1)) q4 q1 q2 q3 (ownsRow_olds q6 (Olds.drewN wr 1)) Hll.out (fun a ha=>(Hroom.out.2 a ha).1.2) (q7.olds (Olds.drewN wr 1)) hBw (by omega) (by show t.cac.length+m≤_;have:=H.out.ht;omega) (by omega) hsbsm H.out.bsb
    cases hok:(t.writes (pieces l (dirB g.next))).1 with
    | true =>
     have HC:Hid (Calls Tryz.prog 48 #[.pointer (some ⟨w.heap.size,0,none⟩),.pointer (some ⟨b4,0,none⟩),.pointer (some ⟨av,0,none⟩)] wr.drew fun e w'=>e=.returned (.int .u16 0)∧DK w' B db sm g.n (cm1 t l (dirB g.next))∧Fr B TD [sm] wr w'):=Lib.hid (hcall.mono fun e w' h=>⟨h.1.trans (congrArg (fun b:Bool=>Ending.returned (.int .u16 (codeOf b:Nat))) hok),h.2.1,Fr.from_drew (h.2.2.1 hok)⟩)
     have Hok:Hid (CmOk t l (dirB g.next) slot gen 1):=Lib.hid hok
     clear hcall
     have hcf:wr.cell? ⟨bf,0,none⟩=some (.func (.func 48) #[] #[.pointer (some ⟨w.heap.size,0,none⟩),.pointer (some ⟨b4,0,none⟩),.pointer (some ⟨av,0,none⟩)]):=by rw [cell_of_heap q5];rfl
     clear q1 q2 q3 q4 q5 q6 q7 hdi hfr hcl hok HDn
     go_upto_region 14 with fail
     go_region_with (first
      | (go_at_call 48;refine HC.out.mono ?_;clear HC;rintro e w1 ⟨rfl,h1,h2⟩;obtain⟨c1',hd1⟩:=HD.out w1 h2;have HD1:=Lib.hid hd1;have H1:=Lib.hid h1;have H2:=Lib.hid h2;clear h1 h2 hd1)
      | (go_at_call 50;refine HD1.out.mono ?_;clear HD1;rintro e w2 ⟨rfl,h1,h2⟩;have H3:=Lib.hid h1;have H4:=Lib.hid h2;clear h1 h2))
     all_goals
      go_wp2_with fail
      go_roundw
      case rel=>exact⟨1,by decide,by rfl,(show DK w2 B db sm g.n (cmAt t l (dirB g.next) slot gen 1) from H1.out.olds H3.out),Hok.out,Hfr.out.trans (H2.out.trans ⟨H4.out B,fun b o hb _ _=>(H3.out.2 b (heap_lt hb)).trans hb⟩)⟩
      case measure=>simp [intOf]
    | false =>
     have HC:Hid (Calls Tryz.prog 48 #[.pointer (some ⟨w.heap.size,0,none⟩),.pointer (some ⟨b4,0,none⟩),.pointer (some ⟨av,0,none⟩)] wr.drew fun e w'=>e=.returned (.int .u16 4)∧DK w' B db sm g.n (cm1 t l (dirB g.next))∧Fr B TD [sm,sb] wr w'∧∃dk:Bool,w'.heap[sb]?=some (.cells #[.pointer (some ⟨db,0,none⟩),.int .i64 (slot:Nat),.int .u64 (gen:Nat),.map (some nb),.map (some xb),uv,dv,.bool dk,.slice (some ⟨tb,0,none⟩) g.n tc] 69 (0,0))):=Lib.hid (hcall.mono fun e w' h=>⟨h.1.trans (congrArg (fun b:Bool=>Ending.returned (.int .u16 (codeOf b:Nat))) hok),h.2.1,(h.2.2.2 hok).1.from_drew,true,(h.2.2.2 hok).2⟩)
     have Hok:=Lib.hid hok
     clear hcall
     have hcf:wr.cell? ⟨bf,0,none⟩=some (.func (.func 48) #[] #[.pointer (some ⟨w.heap.size,0,none⟩),.pointer (some ⟨b4,0,none⟩),.pointer (some ⟨av,0,none⟩)]):=by rw [cell_of_heap q5];rfl
     clear q1 q2 q3 q4 q5 q6 q7 hdi hfr hcl hok HD
     go_upto_region 14 with fail
     go_region_with (first
      | (go_at_call 48;refine HC.out.mono ?_;clear HC;rintro e w1 ⟨rfl,h1,h2,dk,h3⟩;have c1':=HDn.out w1 h2;have H1:=Lib.hid h1;have H2:=Lib.hid h2;have H5:Hid (∃cs fr,w1.heap[sb]?=some (.cells cs 69 fr)):=Lib.hid ⟨_,_,h3⟩;have HD1:=Lib.hid (did_fail h1 h3 H.out.bsb);clear h1 h2 h3)
      | (go_at_call 50;refine HD1.out.mono ?_;clear HD1;rintro e w2 ⟨rfl,h1,h2⟩;have H3:=Lib.hid h1;have H4:=Lib.hid h2;clear h1 h2))
     all_goals
      go_wp2_with fail
      go_ret
      refine⟨(((Kp.of_below HgB.out H.out.hB).trans (Kp.of_fr Hfr.out (by decide) (fun ty _ b hb cs fr=>HgM.out b hb cs ty fr))).trans (HKp.out w1 H2.out)).trans (HKq.out w1 w2 H2.out H4.out H5.out),4,rfl,.inr (.inr ⟨rfl,fun mm hmm=>⟨cm1 t l (dirB g.next),H3.out,?_,(Hcs.out mm hmm).1 Hok.out lx⟩⟩)⟩
      have h9:=cm_len t l (dirB g.next) slot gen 1
      rw [Hll.out] at h9
      show (cmAt t l (dirB g.next) slot gen 1).cac.length≤_
      omega
   ·have hcall:Calls Tryz.prog 27 #[.pointer (some ⟨db,0,none⟩)] wr.drew _:=flush_any (hdi.olds (Olds.drewN wr 1)) (by omega) (by omega) hBw
    cases hok:(cm1 t l (dirB g.next)).ok with
    | true =>
     have HC:Hid (Calls Tryz.prog 27 #[.pointer (some ⟨db,0,none⟩)] wr.drew fun e w'=>e=.returned (.int .u16 0)∧DK w' B db sm g.n (cm2 t l (dirB g.next))∧Fr B TD [sm] wr w'):=Lib.hid (hcall.mono fun e w' h=>⟨h.1.trans (congrArg (fun b:Bool=>Ending.returned (.int .u16 (codeOf b:Nat))) hok),h.2.1,Fr.from_drew h.2.2⟩)
     have Hok:Hid (CmOk t l (dirB g.next) slot gen 2):=Lib.hid ⟨Hcm.out,hok⟩
     clear hcall
     have hcf:wr.cell? ⟨bf,1,none⟩=some (.func (.func 27) #[.pointer (some ⟨db,0,none⟩)] #[]):=by rw [cell_of_heap q5];rfl
     clear q1 q2 q3 q4 q5 q6 q7 hdi hfr hcl hok HDn
     go_upto_region 14 with fail
     go_region_with (first
      | (go_at_call 27;refine HC.out.mono ?_;clear HC;rintro e w1 ⟨rfl,h1,h2⟩;obtain⟨c1',hd1⟩:=HD.out w1 h2;have HD1:=Lib.hid hd1;have H1:=Lib.hid h1;have H2:=Lib.hid h2;clear h1 h2 hd1)
      | (go_at_call 50;refine HD1.out.mono ?_;clear HD1;rintro e w2 ⟨rfl,h1,h2⟩;have H3:=Lib.hid h1;have H4:=Lib.hid h2;clear h1 h2))
     all_goals
      go_wp2_with fail
      go_roundw
      case rel=>exact⟨2,by decide,by rfl,(show DK w2 B db sm g.n (cmAt t l (dirB g.next) slot gen 2) from H1.out.olds H3.out),Hok.out,Hfr.out.trans (H2.out.trans ⟨H4.out B,fun b o hb _ _=>(H3.out.2 b (heap_lt hb)).trans hb⟩)⟩
      case measure=>simp [intOf]
    | false =>
     have HC:Hid (Calls Tryz.prog 27 #[.pointer (some ⟨db,0,none⟩)] wr.drew fun e w'=>e=.returned (.int .u16 4)∧DK w' B db sm g.n (cm2 t l (dirB g.next))∧Fr B TD [sm,sb] wr w'∧∃dk:Bool,w'.heap[sb]?=some (.cells #[.pointer (some ⟨db,0,none⟩),.int .i64 (slot:Nat),.int .u64 (gen:Nat),.map (some nb),.map (some xb),uv,dv,.bool dk,.slice (some ⟨tb,0,none⟩) g.n tc] 69 (0,0))):=Lib.hid (hcall.mono fun e w' h=>⟨h.1.trans (congrArg (fun b:Bool=>Ending.returned (.int .u16 (codeOf b:Nat))) hok),h.2.1,(Fr.from_drew h.2.2).mono (Nat.le_refl _) (fun _ h=>h) (by simp),false,(Fr.from_drew h.2.2).keep q4 (by simpa using hsbsm) (by decide)⟩)
     have Hok:=Lib.hid hok
     clear hcall
     have hcf:wr.cell? ⟨bf,1,none⟩=some (.func (.func 27) #[.pointer (some ⟨db,0,none⟩)] #[]):=by rw [cell_of_heap q5];rfl
     clear q1 q2 q3 q4 q5 q6 q7 hdi hfr hcl hok HD
     go_upto_region 14 with fail
     go_region_with (first
      | (go_at_call 27;refine HC.out.mono ?_;clear HC;rintro e w1 ⟨rfl,h1,h2,dk,h3⟩;have c1':=HDn.out w1 h2;have H1:=Lib.hid h1;have H2:=Lib.hid h2;have H5:Hid (∃cs fr,w1.heap[sb]?=some (.cells cs 69 fr)):=Lib.hid ⟨_,_,h3⟩;have HD1:=Lib.hid (did_fail h1 h3 H.out.bsb);clear h1 h2 h3)
      | (go_at_call 50;refine HD1.out.mono ?_;clear HD1;rintro e w2 ⟨rfl,h1,h2⟩;have H3:=Lib.hid h1;have H4:=Lib.hid h2;clear h1 h2))
     all_goals
      go_wp2_with fail
      go_ret
      refine⟨(((Kp.of_below HgB.out H.out.hB).trans (Kp.of_fr Hfr.out (by decide) (fun ty _ b hb cs fr=>HgM.out b hb cs ty fr))).trans (HKp.out w1 H2.out)).trans (HKq.out w1 w2 H2.out H4.out H5.out),4,rfl,.inr (.inr ⟨rfl,fun mm hmm=>⟨cm2 t l (dirB g.next),H3.out,?_,(Hcs.out mm hmm).2.1 Hcm.out Hok.out lx⟩⟩)⟩
      have h9:=cm_len t l (dirB g.next) slot gen 2
      rw [Hll.out] at h9
      show (cmAt t l (dirB g.next) slot gen 2).cac.length≤_
      omega
   ·have hcall:Calls Tryz.prog 49 #[.pointer (some ⟨w.heap.size,0,none⟩),.pointer (some ⟨av,0,none⟩),.pointer (some ⟨b4,0,none⟩)] wr.drew _:=commit2_any hH l (hdi.olds (Olds.drewN wr 1)) q4 q1 q2 q3 (ownsRow_olds q6 (Olds.drewN wr 1)) Hll.out (fun a ha=>(Hroom.out.2 a ha).1.2) (q7.olds (Olds.drewN wr 1)) hsz9 hBw (by omega) (by omega) (by omega) (by omega) (by omega) Hruns.out hslot (by omega)
    cases hok:(cm2 t l (dirB g.next)).ok with
    | true =>
     have HC:Hid (Calls Tryz.prog 49 #[.pointer (some ⟨w.heap.size,0,none⟩),.pointer (some ⟨av,0,none⟩),.pointer (some ⟨b4,0,none⟩)] wr.drew fun e w'=>e=.returned (.int .u16 0)∧DK w' B db sm g.n (cm3 t l (dirB g.next) slot gen)∧Fr B TD [sm] wr w'):=Lib.hid (hcall.mono fun e w' h=>⟨h.1.trans (congrArg (fun b:Bool=>Ending.returned (.int .u16 (codeOf b:Nat))) hok),h.2.1,Fr.from_drew h.2.2⟩)
     have Hok:Hid (CmOk t l (dirB g.next) slot gen 3):=Lib.hid ⟨Hcm.out,hok⟩
     clear hcall
     have hcf:wr.cell? ⟨bf,2,none⟩=some (.func (.func 49) #[] #[.pointer (some ⟨w.heap.size,0,none⟩),.pointer (some ⟨av,0,none⟩),.pointer (some ⟨b4,0,none⟩)]):=by rw [cell_of_heap q5];rfl
     clear q1 q2 q3 q4 q5 q6 q7 hdi hfr hcl hok HDn
     go_upto_region 14 with fail
     go_region_with (first
      | (go_at_call 49;refine HC.out.mono ?_;clear HC;rintro e w1 ⟨rfl,h1,h2⟩;obtain⟨c1',hd1⟩:=HD.out w1 h2;have HD1:=Lib.hid hd1;have H1:=Lib.hid h1;have H2:=Lib.hid h2;clear h1 h2 hd1)
      | (go_at_call 50;refine HD1.out.mono ?_;clear HD1;rintro e w2 ⟨rfl,h1,h2⟩;have H3:=Lib.hid h1;have H4:=Lib.hid h2;clear h1 h2))
     all_goals
      go_wp2_with fail
      go_roundw
      case rel=>exact⟨3,by decide,by rfl,(show DK w2 B db sm g.n (cmAt t l (dirB g.next) slot gen 3) from H1.out.olds H3.out),Hok.out,Hfr.out.trans (H2.out.trans ⟨H4.out B,fun b o hb _ _=>(H3.out.2 b (heap_lt hb)).trans hb⟩)⟩
      case measure=>simp [intOf]
    | false =>
     have HC:Hid (Calls Tryz.prog 49 #[.pointer (some ⟨w.heap.size,0,none⟩),.pointer (some ⟨av,0,none⟩),.pointer (some ⟨b4,0,none⟩)] wr.drew fun e w'=>e=.returned (.int .u16 4)∧DK w' B db sm g.n (cm3 t l (dirB g.next) slot gen)∧Fr B TD [sm,sb] wr w'∧∃dk:Bool,w'.heap[sb]?=some (.cells #[.pointer (some ⟨db,0,none⟩),.int .i64 (slot:Nat),.int .u64 (gen:Nat),.map (some nb),.map (some xb),uv,dv,.bool dk,.slice (some ⟨tb,0,none⟩) g.n tc] 69 (0,0))):=Lib.hid (hcall.mono fun e w' h=>⟨h.1.trans (congrArg (fun b:Bool=>Ending.returned (.int .u16 (codeOf b:Nat))) hok),h.2.1,(Fr.from_drew h.2.2).mono (Nat.le_refl _) (fun _ h=>h) (by simp),false,(Fr.from_drew h.2.2).keep q4 (by simpa using hsbsm) (by decide)⟩)
     have Hok:=Lib.hid hok
     clear hcall
     have hcf:wr.cell? ⟨bf,2,none⟩=some (.func (.func 49) #[] #[.pointer (some ⟨w.heap.size,0,none⟩),.pointer (some ⟨av,0,none⟩),.pointer (some ⟨b4,0,none⟩)]):=by rw [cell_of_heap q5];rfl
     clear q1 q2 q3 q4 q5 q6 q7 hdi hfr hcl hok HD
     go_upto_region 14 with fail
     go_region_with (first
      | (go_at_call 49;refine HC.out.mono ?_;clear HC;rintro e w1 ⟨rfl,h1,h2,dk,h3⟩;have c1':=HDn.out w1 h2;have H1:=Lib.hid h1;have H2:=Lib.hid h2;have H5:Hid (∃cs fr,w1.heap[sb]?=some (.cells cs 69 fr)):=Lib.hid ⟨_,_,h3⟩;have HD1:=Lib.hid (did_fail h1 h3 H.out.bsb);clear h1 h2 h3)
      | (go_at_call 50;refine HD1.out.mono ?_;clear HD1;rintro e w2 ⟨rfl,h1,h2⟩;have H3:=Lib.hid h1;have H4:=Lib.hid h2;clear h1 h2))
     all_goals
      go_wp2_with fail
      go_ret
      refine⟨(((Kp.of_below HgB.out H.out.hB).trans (Kp.of_fr Hfr.out (by decide) (fun ty _ b hb cs fr=>HgM.out b hb cs ty fr))).trans (HKp.out w1 H2.out)).trans (HKq.out w1 w2 H2.out H4.out H5.out),4,rfl,.inr (.inr ⟨rfl,fun mm hmm=>⟨cm3 t l (dirB g.next) slot gen,H3.out,?_,(Hcs.out mm hmm).2.2.1 Hcm.out Hok.out lx⟩⟩)⟩
      have h9:=cm_len t l (dirB g.next) slot gen 3
      rw [Hll.out] at h9
      show (cmAt t l (dirB g.next) slot gen 3).cac.length≤_
      omega
   ·have hcall:Calls Tryz.prog 27 #[.pointer (some ⟨db,0,none⟩)] wr.drew _:=flush_any (hdi.olds (Olds.drewN wr 1)) (by omega) (by omega) hBw
    cases hok:(cm3 t l (dirB g.next) slot gen).ok with
    | true =>
     have HC:Hid (Calls Tryz.prog 27 #[.pointer (some ⟨db,0,none⟩)] wr.drew fun e w'=>e=.returned (.int .u16 0)∧DK w' B db sm g.n (cm4 t l (dirB g.next) slot gen)∧Fr B TD [sm] wr w'):=Lib.hid (hcall.mono fun e w' h=>⟨h.1.trans (congrArg (fun b:Bool=>Ending.returned (.int .u16 (codeOf b:Nat))) hok),h.2.1,Fr.from_drew h.2.2⟩)
     have Hok:Hid (CmOk t l (dirB g.next) slot gen 4):=Lib.hid ⟨Hcm.out,hok⟩
     clear hcall
     have hcf:wr.cell? ⟨bf,3,none⟩=some (.func (.func 27) #[.pointer (some ⟨db,0,none⟩)] #[]):=by rw [cell_of_heap q5];rfl
     clear q1 q2 q3 q4 q5 q6 q7 hdi hfr hcl hok HDn
     go_upto_region 14 with fail
     go_region_with (first
      | (go_at_call 27;refine HC.out.mono ?_;clear HC;rintro e w1 ⟨rfl,h1,h2⟩;obtain⟨c1',hd1⟩:=HD.out w1 h2;have HD1:=Lib.hid hd1;have H1:=Lib.hid h1;have H2:=Lib.hid h2;clear h1 h2 hd1)
      | (go_at_call 50;refine HD1.out.mono ?_;clear HD1;rintro e w2 ⟨rfl,h1,h2⟩;have H3:=Lib.hid h1;have H4:=Lib.hid h2;clear h1 h2))
     all_goals
      go_wp2_with fail
      go_roundw
      case rel=>exact⟨4,by decide,by rfl,(show DK w2 B db sm g.n (cmAt t l (dirB g.next) slot gen 4) from H1.out.olds H3.out),Hok.out,Hfr.out.trans (H2.out.trans ⟨H4.out B,fun b o hb _ _=>(H3.out.2 b (heap_lt hb)).trans hb⟩)⟩
      case measure=>simp [intOf]
    | false =>
     have HC:Hid (Calls Tryz.prog 27 #[.pointer (some ⟨db,0,none⟩)] wr.drew fun e w'=>e=.returned (.int .u16 4)∧DK w' B db sm g.n (cm4 t l (dirB g.next) slot gen)∧Fr B TD [sm,sb] wr w'∧∃dk:Bool,w'.heap[sb]?=some (.cells #[.pointer (some ⟨db,0,none⟩),.int .i64 (slot:Nat),.int .u64 (gen:Nat),.map (some nb),.map (some xb),uv,dv,.bool dk,.slice (some ⟨tb,0,none⟩) g.n tc] 69 (0,0))):=Lib.hid (hcall.mono fun e w' h=>⟨h.1.trans (congrArg (fun b:Bool=>Ending.returned (.int .u16 (codeOf b:Nat))) hok),h.2.1,(Fr.from_drew h.2.2).mono (Nat.le_refl _) (fun _ h=>h) (by simp),false,(Fr.from_drew h.2.2).keep q4 (by simpa using hsbsm) (by decide)⟩)
     have Hok:=Lib.hid hok
     clear hcall
     have hcf:wr.cell? ⟨bf,3,none⟩=some (.func (.func 27) #[.pointer (some ⟨db,0,none⟩)] #[]):=by rw [cell_of_heap q5];rfl
     clear q1 q2 q3 q4 q5 q6 q7 hdi hfr hcl hok HD
     go_upto_region 14 with fail
     go_region_with (first
      | (go_at_call 27;refine HC.out.mono ?_;clear HC;rintro e w1 ⟨rfl,h1,h2,dk,h3⟩;have c1':=HDn.out w1 h2;have H1:=Lib.hid h1;have H2:=Lib.hid h2;have H5:Hid (∃cs fr,w1.heap[sb]?=some (.cells cs 69 fr)):=Lib.hid ⟨_,_,h3⟩;have HD1:=Lib.hid (did_fail h1 h3 H.out.bsb);clear h1 h2 h3)
      | (go_at_call 50;refine HD1.out.mono ?_;clear HD1;rintro e w2 ⟨rfl,h1,h2⟩;have H3:=Lib.hid h1;have H4:=Lib.hid h2;clear h1 h2))
     all_goals
      go_wp2_with fail
      go_ret
      refine⟨(((Kp.of_below HgB.out H.out.hB).trans (Kp.of_fr Hfr.out (by decide) (fun ty _ b hb cs fr=>HgM.out b hb cs ty fr))).trans (HKp.out w1 H2.out)).trans (HKq.out w1 w2 H2.out H4.out H5.out),4,rfl,.inr (.inr ⟨rfl,fun mm hmm=>⟨cm4 t l (dirB g.next) slot gen,H3.out,?_,(Hcs.out mm hmm).2.2.2.1 Hcm.out Hok.out⟩⟩)⟩
      have h9:=cm_len t l (dirB g.next) slot gen 4
      rw [Hll.out] at h9
      show (cmAt t l (dirB g.next) slot gen 4).cac.length≤_
      omega
   ·have HSS:Hid (∀W':World,Olds wr W'→W'.cell? ⟨w.heap.size,0,none⟩=some (.pointer (some ⟨sb,0,none⟩))∧W'.cell? ⟨sb,0,none⟩=some (.pointer (some ⟨db,0,none⟩))∧W'.cell? ⟨sb,1,none⟩=some (.int .i64 (slot:Nat))∧W'.cell? ⟨sb,2,none⟩=some (.int .u64 (gen:Nat))∧W'.cell? ⟨sb,4,none⟩=some (.map (some xb))∧W'.cell? ⟨b4,0,none⟩=some (.slice o m cc)):=Lib.hid (fun W' hW=>by
     refine⟨hW.cell ?_,hW.cell ?_,hW.cell ?_,hW.cell ?_,hW.cell ?_,hW.cell ?_⟩
     ·rw [cell_of_heap q1];rfl
     ·rw [cell_of_heap q4];rfl
     ·rw [cell_of_heap q4];rfl
     ·rw [cell_of_heap q4];rfl
     ·rw [cell_of_heap q4];rfl
     ·rw [cell_of_heap q2];rfl)
    have hSIw:=(HgI.out.mono (Nat.le_succ k) (Nat.le_refl D)).disk Hfr.out hdi (by omega)
    have HSIw:=Lib.hid hSIw
    have hroomw:Room g l:=Hroom.out
    have hcn:∀a,l.count a+cntF g.next a≤1000:=fun a=>by
     have h1:l.count a≤1:=List.nodup_iff_count.1 hroomw.1 a
     have h2:=H.out.inv.next_le a
     have h3:=H.out.inv.B a
     omega
    have HM:=Lib.hid (made_any (w:=wr.drew) (which:=1-slot) (gen:=gen+1) (hdi.olds (Olds.drewN wr 1)) hBw hin (hSIw.rest.next.olds (Olds.drewN wr 1)) (by omega) hSIw.rest.bxb (by have h:=ownsRow_olds q6 (Olds.drewN wr 1);rw [← Hll.out] at h;exact h) (fun a ha=>(hroomw.2 a ha).1.2) (by rw [Hll.out];omega) (fun p hp=>⟨fun a ha=>((H.out.inv.X p hp).1 a ha).2,Nat.le_trans (H.out.inv.short (mem_look H.out.inv.kx (show (p.1,p.2)∈g.next from hp))) (by decide)⟩) H.out.rest.fokx hcn)
    rw [Hll.out] at HM
    have hw1:IntKind.i64.wrap ((1:Int)-(slot:Int))=((1-slot:Nat):Int):=by rw [IntKind.wrap_i64];omega
    have hw2:IntKind.u64.wrap ((gen:Int)+1)=((gen+1:Nat):Int):=by
     have:=wrap_u64 (gen+1) (by omega)
     rw [← this]
     rfl
    have Hq4:=Lib.hid q4
    clear q1 q2 q3 q4 q5 q6 q7 hdi hfr hSIw hroomw hcn
    go_upto_region 18 with fail
    refine wp_region_last_drew (fun W'=>W'.cell? ⟨w.heap.size,0,none⟩=some (.pointer (some ⟨sb,0,none⟩))∧W'.cell? ⟨sb,0,none⟩=some (.pointer (some ⟨db,0,none⟩))∧W'.cell? ⟨sb,1,none⟩=some (.int .i64 (slot:Nat))∧W'.cell? ⟨sb,2,none⟩=some (.int .u64 (gen:Nat))∧W'.cell? ⟨sb,4,none⟩=some (.map (some xb))∧W'.cell? ⟨b4,0,none⟩=some (.slice o m cc)) 24 (by kernel_rfl) (HSS.out _ (Olds.drewN wr 1)) (fun hHeld=>?_)
    refine wpAnyZ_take (i:=0) (v:=?v0z) rfl (by kernel_rfl) (by kernel_rfl) (by kernel_rfl) (by kernel_rfl) (fun _ _ _ h=>h) (Or.inl ⟨by rfl,?h0z⟩) hHeld ?r0z
    case h0z =>
     rintro W ⟨s1,s2,s3,s4,s5,s6⟩
     go_simp
     all_goals with_reducible rfl
    try simp only [Act.put,List.getElem_toArray,List.getElem_cons_succ,List.getElem_cons_zero,List.setIfInBounds_toArray,List.set_cons_zero,List.set_cons_succ]
    refine wpAnyZ_take (i:=1) (v:=?v1z) rfl (by kernel_rfl) (by kernel_rfl) (by kernel_rfl) (by kernel_rfl) (fun _ _ _ h=>h) (Or.inl ⟨by rfl,?h1z⟩) hHeld ?r1z
    case h1z =>
     rintro W ⟨s1,s2,s3,s4,s5,s6⟩
     go_simp
     all_goals with_reducible rfl
    try simp only [Act.put,List.getElem_toArray,List.getElem_cons_succ,List.getElem_cons_zero,List.setIfInBounds_toArray,List.set_cons_zero,List.set_cons_succ]
    refine wpAnyZ_take (i:=2) (v:=?v2z) rfl (by kernel_rfl) (by kernel_rfl) (by kernel_rfl) (by kernel_rfl) (fun _ _ _ h=>h) (Or.inl ⟨by rfl,?h2z⟩) hHeld ?r2z
    case h2z =>
     rintro W ⟨s1,s2,s3,s4,s5,s6⟩
     go_simp
     all_goals with_reducible rfl
    try simp only [Act.put,List.getElem_toArray,List.getElem_cons_succ,List.getElem_cons_zero,List.setIfInBounds_toArray,List.set_cons_zero,List.set_cons_succ]
    refine wpAnyZ_take (i:=3) (v:=?v3z) rfl (by kernel_rfl) (by kernel_rfl) (by kernel_rfl) (by kernel_rfl) (fun _ _ _ h=>h) (Or.inl ⟨by rfl,?h3z⟩) hHeld ?r3z
    case h3z =>
     rintro W ⟨s1,s2,s3,s4,s5,s6⟩
     go_simp
     all_goals with_reducible rfl
    try simp only [Act.put,List.getElem_toArray,List.getElem_cons_succ,List.getElem_cons_zero,List.setIfInBounds_toArray,List.set_cons_zero,List.set_cons_succ]
    refine wpAnyZ_take (i:=4) (v:=?v4z) rfl (by kernel_rfl) (by kernel_rfl) (by kernel_rfl) (by kernel_rfl) (fun _ _ _ h=>h) (Or.inl ⟨by rfl,?h4z⟩) hHeld ?r4z
    case h4z =>
     rintro W ⟨s1,s2,s3,s4,s5,s6⟩
     go_simp
     all_goals with_reducible rfl
    try simp only [Act.put,List.getElem_toArray,List.getElem_cons_succ,List.getElem_cons_zero,List.setIfInBounds_toArray,List.set_cons_zero,List.set_cons_succ]
    refine wpAnyZ_take (i:=5) (v:=?v5z) rfl (by kernel_rfl) (by kernel_rfl) (by kernel_rfl) (by kernel_rfl) (fun _ _ _ h=>h) (Or.inl ⟨by rfl,?h5z⟩) hHeld ?r5z
    case h5z =>
     rintro W ⟨s1,s2,s3,s4,s5,s6⟩
     go_simp
     all_goals with_reducible rfl
    try simp only [Act.put,List.getElem_toArray,List.getElem_cons_succ,List.getElem_cons_zero,List.setIfInBounds_toArray,List.set_cons_zero,List.set_cons_succ]
    refine wpAnyZ_take (i:=6) (v:=?v6z) rfl (by kernel_rfl) (by kernel_rfl) (by kernel_rfl) (by kernel_rfl) (fun _ _ _ h=>h) (Or.inl ⟨by rfl,?h6z⟩) hHeld ?r6z
    case h6z =>
     rintro W ⟨s1,s2,s3,s4,s5,s6⟩
     go_simp
     all_goals with_reducible rfl
    try simp only [Act.put,List.getElem_toArray,List.getElem_cons_succ,List.getElem_cons_zero,List.setIfInBounds_toArray,List.set_cons_zero,List.set_cons_succ]
    refine wpAnyZ_take (i:=7) (v:=?v7z) rfl (by kernel_rfl) (by kernel_rfl) (by kernel_rfl) (by kernel_rfl) (fun _ _ _ h=>h) (Or.inl ⟨by rfl,?h7z⟩) hHeld ?r7z
    case h7z =>
     rintro W ⟨s1,s2,s3,s4,s5,s6⟩
     go_simp
     all_goals with_reducible rfl
    try simp only [Act.put,List.getElem_toArray,List.getElem_cons_succ,List.getElem_cons_zero,List.setIfInBounds_toArray,List.set_cons_zero,List.set_cons_succ]
    refine wpAnyZ_take (i:=8) (v:=?v8z) rfl (by kernel_rfl) (by kernel_rfl) (by kernel_rfl) (by kernel_rfl) (fun _ _ _ h=>h) (Or.inl ⟨by rfl,?h8z⟩) hHeld ?r8z
    case h8z =>
     rintro W ⟨s1,s2,s3,s4,s5,s6⟩
     go_simp
     all_goals with_reducible rfl
    try simp only [Act.put,List.getElem_toArray,List.getElem_cons_succ,List.getElem_cons_zero,List.setIfInBounds_toArray,List.set_cons_zero,List.set_cons_succ]
    refine wpAnyZ_take (i:=9) (v:=?v9z) rfl (by kernel_rfl) (by kernel_rfl) (by kernel_rfl) (by kernel_rfl) (fun _ _ _ h=>h) (Or.inl ⟨by rfl,?h9z⟩) hHeld ?r9z
    case h9z =>
     rintro W ⟨s1,s2,s3,s4,s5,s6⟩
     go_simp
     all_goals with_reducible rfl
    try simp only [Act.put,List.getElem_toArray,List.getElem_cons_succ,List.getElem_cons_zero,List.setIfInBounds_toArray,List.set_cons_zero,List.set_cons_succ]
    refine wpAnyZ_take (i:=10) (v:=?v10z) rfl (by kernel_rfl) (by kernel_rfl) (by kernel_rfl) (by kernel_rfl) (fun _ _ _ h=>h) (Or.inl ⟨by rfl,?h10z⟩) hHeld ?r10z
    case h10z =>
     rintro W ⟨s1,s2,s3,s4,s5,s6⟩
     go_simp
     all_goals with_reducible rfl
    try simp only [Act.put,List.getElem_toArray,List.getElem_cons_succ,List.getElem_cons_zero,List.setIfInBounds_toArray,List.set_cons_zero,List.set_cons_succ]
    refine wpAnyZ_take (i:=11) (v:=?v11z) rfl (by kernel_rfl) (by kernel_rfl) (by kernel_rfl) (by kernel_rfl) (fun _ _ _ h=>h) (Or.inl ⟨by rfl,?h11z⟩) hHeld ?r11z
    case h11z =>
     rintro W ⟨s1,s2,s3,s4,s5,s6⟩
     go_simp
     all_goals with_reducible rfl
    try simp only [Act.put,List.getElem_toArray,List.getElem_cons_succ,List.getElem_cons_zero,List.setIfInBounds_toArray,List.set_cons_zero,List.set_cons_succ]
    refine wpAnyZ_take (i:=12) (v:=?v12z) rfl (by kernel_rfl) (by kernel_rfl) (by kernel_rfl) (by kernel_rfl) (fun _ _ _ h=>h) (Or.inl ⟨by rfl,?h12z⟩) hHeld ?r12z
    case h12z =>
     rintro W ⟨s1,s2,s3,s4,s5,s6⟩
     go_simp
     all_goals with_reducible rfl
    try simp only [Act.put,List.getElem_toArray,List.getElem_cons_succ,List.getElem_cons_zero,List.setIfInBounds_toArray,List.set_cons_zero,List.set_cons_succ]
    refine wpAnyZ_take (i:=13) (v:=?v13z) rfl (by kernel_rfl) (by kernel_rfl) (by kernel_rfl) (by kernel_rfl) (fun _ _ _ h=>h) (Or.inl ⟨by rfl,?h13z⟩) hHeld ?r13z
    case h13z =>
     rintro W ⟨s1,s2,s3,s4,s5,s6⟩
     go_simp
     all_goals with_reducible rfl
    try simp only [Act.put,List.getElem_toArray,List.getElem_cons_succ,List.getElem_cons_zero,List.setIfInBounds_toArray,List.set_cons_zero,List.set_cons_succ]
    refine wpAnyZ_take (i:=14) (v:=?v14z) rfl (by kernel_rfl) (by kernel_rfl) (by kernel_rfl) (by kernel_rfl) (fun _ _ _ h=>h) (Or.inl ⟨by rfl,?h14z⟩) hHeld ?r14z
    case h14z =>
     rintro W ⟨s1,s2,s3,s4,s5,s6⟩
     go_simp
     all_goals with_reducible rfl
    try simp only [Act.put,List.getElem_toArray,List.getElem_cons_succ,List.getElem_cons_zero,List.setIfInBounds_toArray,List.set_cons_zero,List.set_cons_succ]
    refine wpAnyZ_take (i:=15) (v:=?v15z) rfl (by kernel_rfl) (by kernel_rfl) (by kernel_rfl) (by kernel_rfl) (fun _ _ _ h=>h) (Or.inl ⟨by rfl,?h15z⟩) hHeld ?r15z
    case h15z =>
     rintro W ⟨s1,s2,s3,s4,s5,s6⟩
     go_simp
     all_goals with_reducible rfl
    try simp only [Act.put,List.getElem_toArray,List.getElem_cons_succ,List.getElem_cons_zero,List.setIfInBounds_toArray,List.set_cons_zero,List.set_cons_succ]
    refine wpAnyZ_take (i:=16) (v:=?v16z) rfl (by kernel_rfl) (by kernel_rfl) (by kernel_rfl) (by kernel_rfl) (fun _ _ _ h=>h) (Or.inl ⟨by rfl,?h16z⟩) hHeld ?r16z
    case h16z =>
     rintro W ⟨s1,s2,s3,s4,s5,s6⟩
     go_simp
     all_goals with_reducible rfl
    try simp only [Act.put,List.getElem_toArray,List.getElem_cons_succ,List.getElem_cons_zero,List.setIfInBounds_toArray,List.set_cons_zero,List.set_cons_succ]
    refine wpAnyZ_take (i:=17) (v:=?v17z) rfl (by kernel_rfl) (by kernel_rfl) (by kernel_rfl) (by kernel_rfl) (fun _ _ _ h=>h) (Or.inl ⟨by rfl,?h17z⟩) hHeld ?r17z
    case h17z =>
     rintro W ⟨s1,s2,s3,s4,s5,s6⟩
     go_simp
     all_goals with_reducible rfl
    try simp only [Act.put,List.getElem_toArray,List.getElem_cons_succ,List.getElem_cons_zero,List.setIfInBounds_toArray,List.set_cons_zero,List.set_cons_succ]
    refine wpAnyZ_take (i:=18) (v:=?v18z) rfl (by kernel_rfl) (by kernel_rfl) (by kernel_rfl) (by kernel_rfl) (fun _ _ _ h=>h) (Or.inl ⟨by rfl,?h18z⟩) hHeld ?r18z
    case h18z =>
     rintro W ⟨s1,s2,s3,s4,s5,s6⟩
     go_simp
     all_goals with_reducible rfl
    try simp only [Act.put,List.getElem_toArray,List.getElem_cons_succ,List.getElem_cons_zero,List.setIfInBounds_toArray,List.set_cons_zero,List.set_cons_succ]
    refine wpAnyZ_take (i:=19) (v:=?v19z) rfl (by kernel_rfl) (by kernel_rfl) (by kernel_rfl) (by kernel_rfl) (fun _ _ _ h=>h) (Or.inl ⟨by rfl,?h19z⟩) hHeld ?r19z
    case h19z =>
     rintro W ⟨s1,s2,s3,s4,s5,s6⟩
     go_simp
     all_goals with_reducible rfl
    try simp only [Act.put,List.getElem_toArray,List.getElem_cons_succ,List.getElem_cons_zero,List.setIfInBounds_toArray,List.set_cons_zero,List.set_cons_succ]
    refine wpAnyZ_one (i:=20) (by kernel_rfl) rfl (fun K hK=>?_)
    refine step_call (by rfl) 23 _ _ (by rfl) #[.pointer (some ⟨db,0,none⟩),.int .i64 ((1-slot:Nat):Int),.int .u64 ((gen+1:Nat):Int),.map (some xb),.slice o m cc] ?hx Tryz.enters_made (S:=fun v w3=>MadeEnd wr.drew B db xb (k+1) g.n (1-slot) (gen+1) (.slice o m cc) g.next l (.returned v) w3) (HM.out.mono ?_) ?_
    case hx =>
     simp only [List.map_toArray,List.map_cons,List.map_nil]
     go_simp
    ·intro e w3 h3
     obtain⟨a1,sn,tn,xn,rfl,a2⟩:=h3
     exact⟨_,rfl,a1,sn,tn,xn,rfl,a2⟩
    intro v w3 h3
    obtain⟨hb3,sn,tn,xn,hv,n1,n2,n3,hsc,hsr⟩:=h3
    cases hv
    have ho3:Olds wr w3:=(Olds.drewN wr 1).trans (Olds.of_below hb3)
    refine hK.out _ _ (fun _=>HSS.out _ ho3) ?_
    clear hK K
    try simp only [Act.put,List.getElem_toArray,List.getElem_cons_succ,List.getElem_cons_zero,List.setIfInBounds_toArray,List.set_cons_zero,List.set_cons_succ]
    refine wpAnyZ_take (i:=21) (v:=?v21z) rfl (by kernel_rfl) (by kernel_rfl) (by kernel_rfl) (by kernel_rfl) (fun _ _ _ h=>h) (Or.inl ⟨by rfl,?h21z⟩) (HSS.out _ ho3) ?r21z
    case h21z =>
     rintro W ⟨s1,s2,s3,s4,s5,s6⟩
     go_simp
     all_goals with_reducible rfl
    try simp only [Act.put,List.getElem_toArray,List.getElem_cons_succ,List.getElem_cons_zero,List.setIfInBounds_toArray,List.set_cons_zero,List.set_cons_succ]
    refine wpAnyZ_one (i:=22) (by kernel_rfl) rfl (fun K hK=>?_)
    have d0:w3.cell? ⟨sn,0,none⟩=some (.pointer (some ⟨db,0,none⟩)):=by rw [cell_of_heap hsc];rfl
    have d1:w3.cell? ⟨sn,1,none⟩=some (.int .i64 ((1-slot:Nat):Int)):=by rw [cell_of_heap hsc];rfl
    have d2:w3.cell? ⟨sn,2,none⟩=some (.int .u64 ((gen+1:Nat):Int)):=by rw [cell_of_heap hsc];rfl
    have d3:w3.cell? ⟨sn,3,none⟩=some (.map (some xb)):=by rw [cell_of_heap hsc];rfl
    have d4:w3.cell? ⟨sn,4,none⟩=some (.map (some xn)):=by rw [cell_of_heap hsc];rfl
    have d5:w3.cell? ⟨sn,5,none⟩=some (.slice none 0 0):=by rw [cell_of_heap hsc];rfl
    have d6:w3.cell? ⟨sn,6,none⟩=some (.slice o m cc):=by rw [cell_of_heap hsc];rfl
    have d7:w3.cell? ⟨sn,7,none⟩=some (.bool false):=by rw [cell_of_heap hsc];rfl
    have d8:w3.cell? ⟨sn,8,none⟩=some (.slice (some ⟨tn,0,none⟩) g.n g.n):=by rw [cell_of_heap hsc];rfl
    go_simp
    refine hK.out _ _ (fun _=>HSS.out _ ho3) ?_
    clear hK K
    try simp only [Act.put,List.getElem_toArray,List.getElem_cons_succ,List.getElem_cons_zero,List.setIfInBounds_toArray,List.set_cons_zero,List.set_cons_succ]
    refine wpAnyZ_take (i:=23) (v:=?v23z) rfl (by kernel_rfl) (by kernel_rfl) (by kernel_rfl) (by kernel_rfl) (fun _ _ _ h=>h) (Or.inl ⟨by rfl,?h23z⟩) (HSS.out _ ho3) ?r23z
    case h23z =>
     rintro W ⟨s1,s2,s3,s4,s5,s6⟩
     go_simp
     all_goals with_reducible rfl
    try simp only [Act.put,List.getElem_toArray,List.getElem_cons_succ,List.getElem_cons_zero,List.setIfInBounds_toArray,List.set_cons_zero,List.set_cons_succ]
    refine wpAnyZ_one (i:=24) (by kernel_rfl) rfl (fun K hK=>?_)
    have hc3:=(ho3.2 _ (heap_lt Hq4.out)).trans Hq4.out
    have e0:w3.cell? ⟨sb,0,none⟩=some (.pointer (some ⟨db,0,none⟩)):=by rw [cell_of_heap hc3];rfl
    have f0:w3.frozen? ⟨sb,0,none⟩=false:=by simp [World.frozen?,hc3]
    have e1:w3.cell? ⟨sb,1,none⟩=some (.int .i64 (slot:Nat)):=by rw [cell_of_heap hc3];rfl
    have f1:w3.frozen? ⟨sb,1,none⟩=false:=by simp [World.frozen?,hc3]
    have e2:w3.cell? ⟨sb,2,none⟩=some (.int .u64 (gen:Nat)):=by rw [cell_of_heap hc3];rfl
    have f2:w3.frozen? ⟨sb,2,none⟩=false:=by simp [World.frozen?,hc3]
    have e3:w3.cell? ⟨sb,3,none⟩=some (.map (some nb)):=by rw [cell_of_heap hc3];rfl
    have f3:w3.frozen? ⟨sb,3,none⟩=false:=by simp [World.frozen?,hc3]
    have e4:w3.cell? ⟨sb,4,none⟩=some (.map (some xb)):=by rw [cell_of_heap hc3];rfl
    have f4:w3.frozen? ⟨sb,4,none⟩=false:=by simp [World.frozen?,hc3]
    have e5:w3.cell? ⟨sb,5,none⟩=some (uv):=by rw [cell_of_heap hc3];rfl
    have f5:w3.frozen? ⟨sb,5,none⟩=false:=by simp [World.frozen?,hc3]
    have e6:w3.cell? ⟨sb,6,none⟩=some (dv):=by rw [cell_of_heap hc3];rfl
    have f6:w3.frozen? ⟨sb,6,none⟩=false:=by simp [World.frozen?,hc3]
    have e7:w3.cell? ⟨sb,7,none⟩=some (.bool false):=by rw [cell_of_heap hc3];rfl
    have f7:w3.frozen? ⟨sb,7,none⟩=false:=by simp [World.frozen?,hc3]
    have e8:w3.cell? ⟨sb,8,none⟩=some (.slice (some ⟨tb,0,none⟩) g.n tc):=by rw [cell_of_heap hc3];rfl
    have f8:w3.frozen? ⟨sb,8,none⟩=false:=by simp [World.frozen?,hc3]
    go_simp
    refine hK.out _ _ (fun h=>absurd rfl h) ?_
    clear hK K
    refine wpAnyZ_done (by kernel_rfl) ?_ _
    try simp only [Act.put,List.getElem_toArray,List.getElem_cons_succ,List.getElem_cons_zero,List.setIfInBounds_toArray,List.set_cons_zero,List.set_cons_succ]
    clear d0 d1 d2 d3 d4 d5 d6 d7 d8 e0 e1 e2 e3 e4 e5 e6 e7 e8 f0 f1 f2 f3 f4 f5 f6 f7 f8
    have Hsc:=Lib.hid hsc
    have Hsr:=Lib.hid hsr
    have Hc3:=Lib.hid hc3
    have Ho3:=Lib.hid ho3
    have Hb3:=Lib.hid hb3
    clear hsc hsr hc3 ho3 hb3
    go_wp2_with fail
    go_ret
    obtain⟨Z,hZ⟩:∃Z:World,Z=laid9 w3 sb (.pointer (some ⟨db,0,none⟩)) (.int .i64 ((1-slot:Nat):Int)) (.int .u64 ((gen+1:Nat):Int)) (.map (some xb)) (.map (some xn)) (.slice none 0 0) (.slice o m cc) (.bool false) (.slice (some ⟨tn,0,none⟩) g.n g.n):=⟨_,rfl⟩
    have hz:CommitEnd w B db sm sb k D t slot gen g ln lx (.returned (.int .u16 ((0:Nat):Int))) Z:=by
     have hZc:SCell Z sb db tn g.n xb xn g.n (1-slot) (gen+1) (.slice none 0 0) (.slice o m cc):=by rw [hZ];exact laid9_cell Hc3.out
     have hZb:∀b,b≠sb→Z.heap[b]?=w3.heap[b]?:=fun b hb=>by rw [hZ];exact laid9_other hb
     have hZB:Below B w3 Z:=by rw [hZ];exact laid9_below H.out.bsb
     have hF:Fr B [] [sb] w3 Z:=⟨hZB,fun b ob hb hm _=>(hZb b (by simpa using hm)).trans hb⟩
     have hmk:Mk w3 TD [sb]:=fun b hb=>by
      simp only [List.mem_singleton] at hb
      subst hb
      exact .inr ⟨_,_,_,Hc3.out,by decide⟩
     have hdi3:=HSIw.out.di.olds Ho3.out
     refine⟨(((Kp.of_below HgB.out H.out.hB).trans (Kp.of_fr Hfr.out (by decide) (fun ty _ b hb cs fr=>HgM.out b hb cs ty fr))).trans (Kp.of_below (B:=B) (w:=wr) (w':=w3) ((Below.refl _ _).drew.trans Hb3.out) hBw)).trans (Kp.but Hc3.out (by decide) hZB hZb),0,rfl,.inl ⟨rfl,cm4 t l (dirB g.next) slot gen,1-slot,gen+1,committed g l,Nat.le_refl _,⟨⟨tn,g.n,xb,xn,_,_,⟨H.out.bsb,hZc,(Hsr.out sb).but Hc3.out (by decide) hZb,hdi3.fr hF (by simp) (by simpa using Ne.symm hsbsm) hmk,(by show (cmAt t l (dirB g.next) slot gen 4).cac.length≤_;omega),by omega,by omega,Nat.zero_le _,H.out.hdx,H.out.hdx,H.out.smx,?_,H.out.inv.made Hroom.out ?_⟩⟩,(Hcs.out (gen+1) (Nat.le_refl _)).2.2.2.2 Hcm.out⟩,rfl⟩⟩
     ·have h1:=H.out.di.seen.lt
      have h2:wr.heap.size≤xn:=n3
      omega
     ·show l.length=need (dirLen g.next)
      rw [Hll.out,Hnd.out,Hdn.out]
    rw [hZ] at hz
    exact hz
end Go.Proofs.YtndjmffnlcilbaaGreatDoor
