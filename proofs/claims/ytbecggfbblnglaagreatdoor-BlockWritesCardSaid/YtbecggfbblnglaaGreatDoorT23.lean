/- Contracts over this program. Their conditions: the slices read as the lists that are named, and lie within the sizes that are named. -/
import Derived.Test.YtbecggfbblnglaaGreatDoorT21
import Derived.Test.YtbecggfbblnglaaGreatDoorK22
set_option linter.unusedSimpArgs false
set_option linter.unusedVariables false
set_option linter.deprecated false
set_option linter.unnecessarySimpa false
namespace Go.Proofs.YtbecggfbblnglaaGreatDoor
open Go Go.RowKit Go.Ix
def bookCells (v:Value):Array Value:=#[v,.slice none 0 0,.slice none 0 0,.slice none 0 0,.slice none 0 0,.slice none 0 0,.slice none 0 0,.slice none 0 0,.slice none 0 0,.slice none 0 0,.slice none 0 0,.slice none 0 0,.slice none 0 0,.slice none 0 0,.slice none 0 0,.slice none 0 0,.slice none 0 0,.slice none 0 0,.slice none 0 0,.slice none 0 0,.slice none 0 0,.slice none 0 0,.slice none 0 0,.slice none 0 0,.slice none 0 0,.slice none 0 0,.slice none 0 0,.slice none 0 0,.slice none 0 0,.slice none 0 0,.slice none 0 0,.slice none 0 0]
def BookAt (W:World) (bk:Nat) (us:List Value):Prop :=
 ∃sv,W.heap[bk]?=some (.cells (bookCells sv) 67 (0,0))∧W.ownsRow (bk+1) 26 1 sv us.length us
theorem BookAt.lt {W:World}{bk:Nat}{us:List Value}(h:BookAt W bk us):bk<W.heap.size:=by
 obtain⟨sv,h1,_⟩:=h
 exact (Array.getElem?_eq_some_iff.1 h1).1
theorem BookAt.olds {W W':World}{bk:Nat}{us:List Value}(h:BookAt W bk us) (hb:Olds W W'):BookAt W' bk us:=by
 have hlt:=h.lt
 obtain⟨sv,h1,h2⟩:=h
 exact⟨sv,(hb.2 _ hlt).trans h1,ownsRow_olds h2 hb⟩
set_option maxRecDepth 20000 in
set_option maxHeartbeats 400000 in
theorem book_bytes {bk:Nat}{us:List Value}{xo:Option Addr}{xn xc:Nat}(w:World) (h:BookAt w bk us) (hl:us.length≤10) :
  Calls Tryz.prog 10 #[.pointer (some ⟨bk,0,none⟩),.slice xo xn xc] w fun e w'=>e=.returned (.tuple #[])∧BookAt w' bk (us++[.slice xo xn xc])∧Below bk w w':=by
 obtain⟨i0,hi0,hz0,hz1,hz2⟩:=info_parts Tryz.info26
 have hbk:=h.lt
 obtain⟨sv,hh,hown⟩:=h
 have hc:w.cell? ⟨bk,0,none⟩=some sv:=by simp [World.cell?,hh,bookCells]
 have hf:w.frozen? ⟨bk,0,none⟩=false:=by simp [World.frozen?,hh]
 have Hown:=Lib.hid hown
 have Hh:=Lib.hid hh
 obtain⟨so,sc,rfl,_⟩:=ownsRow_shape hown
 have hne:∀k,(Value.slice so us.length sc).ownBlock=some k→bk+1≤k:=fun k hk=>(ownsRow_block hown hk).1
 have Hne:=Lib.hid hne
 clear hown hh hne
 go_enter Tryz.func10,Tryz.ntmps10
 go_wp2_with (at_builtin;refine wpList_append_lies _ rfl _ _ _ rfl (bk+1) 26 i0 _ 1 24 Tryz.underlying34 hi0 hz0 hz1 hz2 rfl Nat.one_pos (.slice so us.length sc) us.length us rfl (ownsRow_olds Hown.out (Olds.alloc _ _)) ⟨w.heap.size,0,none⟩ 1 1 [.slice xo xn xc] rfl rfl (World.news_of_block (cs:=#[.slice xo xn xc]) (t:=26) (fr:=(0,0)) (heap_alloc_new w _)) (by simp [Value.oneCell']) Nat.one_pos (by unfold maxLen;omega) (by omega) (by simp;omega) (w.heap.size+1) (by simp) ?_;intro gg cap2 w4 hown4 hgrow hat hlt4;have hb4:w4.heap[bk]?=some (.cells (bookCells (.slice so us.length sc)) 67 (0,0)):=((hgrow.block bk (by simp;omega) (fun e=>by have:=Hne.out bk e.symm;omega)).trans (Below.heap_alloc _ _ bk hbk)).trans Hh.out;have hc4:w4.cell? ⟨bk,0,none⟩=some (.slice so us.length sc):=(by simp [World.cell?,hb4,bookCells]);have hf4:w4.frozen? ⟨bk,0,none⟩=false:=(by simp [World.frozen?,hb4]))
 have Hf:Hid (BookAt (w4.setCell ⟨bk,0,none⟩ (.slice (some ⟨gg,0,none⟩) (us.length+1) cap2)) bk (us++[.slice xo xn xc])):=Lib.hid (by
  have hgg:=(ownsRow_block hown4 (g:=gg) rfl).1
  refine⟨.slice (some ⟨gg,0,none⟩) (us.length+1) cap2,?_,?_⟩
  ·simp [World.setCell,Array.getElem?_modify,hb4,bookCells]
  ·rw [List.length_append]
   exact ownsRow_blocks hown4 fun g hg=>Below.heap_setCell _ _ _ _ (by cases hg;show gg≠bk;omega))
 have Hb:Hid (Below bk w (w4.setCell ⟨bk,0,none⟩ (.slice (some ⟨gg,0,none⟩) (us.length+1) cap2))):=Lib.hid ((((Below.refl bk w).alloc (by omega) _).grown hgrow (by simp;omega) (fun b hb=>by have:=Hne.out b hb;omega)).setCell (Nat.le_refl _) _)
 clear hown4 hgrow hat
 go_wp2_with fail
 go_end0
 exact⟨rfl,Hf.out,Hb.out⟩
theorem below_to {B:Nat}{a w w':World}(h:Below B a w) (hb:Below w.heap.size w w') (hB:B≤a.heap.size):Below B a w':=h.trans (hb.mono (Nat.le_trans hB h.size))
set_option maxRecDepth 20000 in
set_option maxHeartbeats 4000000 in
theorem own_book {B bk:Nat}{so:Option Addr}{sn sc:Nat}(w:World) (h8:11≤w.heap.size) (hB:B≤w.heap.size) (hh:w.heap[bk]?=some (.cells (bookCells (.slice so sn sc)) 67 (0,0)))
  (hi:∀W:World,Olds w W→Calls Tryz.prog 32 #[.slice so sn sc] W fun e w'=>e=.returned (.bool true)∧Below B W w'∧w'.heap[bk]?=W.heap[bk]?) :
  Calls Tryz.prog 13 #[.pointer (some ⟨bk,0,none⟩)] w fun e w'=>e=.returned (.bool true)∧Below B w w':=by
 have hbk:bk<w.heap.size:=(Array.getElem?_eq_some_iff.1 hh).1
 have Hi:=Lib.hid (hi w (Olds.refl _))
 have Hh0:=Lib.hid hh
 have hc:w.cell? ⟨bk,0,none⟩=some (.slice so sn sc):=by simp [World.cell?,hh,bookCells]
 clear hi hh
 go_enter Tryz.func13,Tryz.ntmps13
 go_wp2_with fail
 refine Hi.out.mono ?_
 rintro e w1 ⟨rfl,hb,hk⟩
 have HB1:Hid (Below B w w1):=Lib.hid hb
 have Hh1:Hid (w1.heap[bk]?=some (.cells (bookCells (.slice so sn sc)) 67 (0,0))):=Lib.hid (hk.trans Hh0.out)
 have hsz1:w.heap.size≤w1.heap.size:=hb.size
 clear hc
 have hc:w1.cell? ⟨bk,1,none⟩=some (.slice none 0 0):=by have h:=Hh1.out;simp [World.cell?,h,bookCells]
 clear hb hk
 go_wp2_with fail
 refine (Go.Eng.KX.own33 w1 (by have:=HB1.out.size;omega)).mono ?_
 rintro e w2 ⟨rfl,hb⟩
 have HB2:Hid (Below B w w2):=Lib.hid (below_to HB1.out hb hB)
 have Hh2:Hid (w2.heap[bk]?=some (.cells (bookCells (.slice so sn sc)) 67 (0,0))):=Lib.hid ((hb.block bk (by have:=HB1.out.size;omega)).trans Hh1.out)
 clear hc
 have hc:w2.cell? ⟨bk,2,none⟩=some (.slice none 0 0):=by have h:=Hh2.out;simp [World.cell?,h,bookCells]
 clear hb
 go_wp2_with fail
 refine (Go.Eng.KX.own34 w2 (by have:=HB2.out.size;omega)).mono ?_
 rintro e w3 ⟨rfl,hb⟩
 have HB3:Hid (Below B w w3):=Lib.hid (below_to HB2.out hb hB)
 have Hh3:Hid (w3.heap[bk]?=some (.cells (bookCells (.slice so sn sc)) 67 (0,0))):=Lib.hid ((hb.block bk (by have:=HB2.out.size;omega)).trans Hh2.out)
 clear hc
 have hc:w3.cell? ⟨bk,3,none⟩=some (.slice none 0 0):=by have h:=Hh3.out;simp [World.cell?,h,bookCells]
 clear hb
 go_wp2_with fail
 refine (Go.Eng.KX.own35 w3 (by have:=HB3.out.size;omega)).mono ?_
 rintro e w4 ⟨rfl,hb⟩
 have HB4:Hid (Below B w w4):=Lib.hid (below_to HB3.out hb hB)
 have Hh4:Hid (w4.heap[bk]?=some (.cells (bookCells (.slice so sn sc)) 67 (0,0))):=Lib.hid ((hb.block bk (by have:=HB3.out.size;omega)).trans Hh3.out)
 clear hc
 have hc:w4.cell? ⟨bk,4,none⟩=some (.slice none 0 0):=by have h:=Hh4.out;simp [World.cell?,h,bookCells]
 clear hb
 go_wp2_with fail
 refine (Go.Eng.KX.own36 w4 (by have:=HB4.out.size;omega)).mono ?_
 rintro e w5 ⟨rfl,hb⟩
 have HB5:Hid (Below B w w5):=Lib.hid (below_to HB4.out hb hB)
 have Hh5:Hid (w5.heap[bk]?=some (.cells (bookCells (.slice so sn sc)) 67 (0,0))):=Lib.hid ((hb.block bk (by have:=HB4.out.size;omega)).trans Hh4.out)
 clear hc
 have hc:w5.cell? ⟨bk,5,none⟩=some (.slice none 0 0):=by have h:=Hh5.out;simp [World.cell?,h,bookCells]
 clear hb
 go_wp2_with fail
 refine (Go.Eng.KX.own37 w5 (by have:=HB5.out.size;omega)).mono ?_
 rintro e w6 ⟨rfl,hb⟩
 have HB6:Hid (Below B w w6):=Lib.hid (below_to HB5.out hb hB)
 have Hh6:Hid (w6.heap[bk]?=some (.cells (bookCells (.slice so sn sc)) 67 (0,0))):=Lib.hid ((hb.block bk (by have:=HB5.out.size;omega)).trans Hh5.out)
 clear hc
 have hc:w6.cell? ⟨bk,6,none⟩=some (.slice none 0 0):=by have h:=Hh6.out;simp [World.cell?,h,bookCells]
 clear hb
 go_wp2_with fail
 refine (Go.Eng.KX.own38 w6 (by have:=HB6.out.size;omega)).mono ?_
 rintro e w7 ⟨rfl,hb⟩
 have HB7:Hid (Below B w w7):=Lib.hid (below_to HB6.out hb hB)
 have Hh7:Hid (w7.heap[bk]?=some (.cells (bookCells (.slice so sn sc)) 67 (0,0))):=Lib.hid ((hb.block bk (by have:=HB6.out.size;omega)).trans Hh6.out)
 clear hc
 have hc:w7.cell? ⟨bk,7,none⟩=some (.slice none 0 0):=by have h:=Hh7.out;simp [World.cell?,h,bookCells]
 clear hb
 go_wp2_with fail
 refine (Go.Eng.KX.own39 w7 (by have:=HB7.out.size;omega)).mono ?_
 rintro e w8 ⟨rfl,hb⟩
 have HB8:Hid (Below B w w8):=Lib.hid (below_to HB7.out hb hB)
 have Hh8:Hid (w8.heap[bk]?=some (.cells (bookCells (.slice so sn sc)) 67 (0,0))):=Lib.hid ((hb.block bk (by have:=HB7.out.size;omega)).trans Hh7.out)
 clear hc
 have hc:w8.cell? ⟨bk,8,none⟩=some (.slice none 0 0):=by have h:=Hh8.out;simp [World.cell?,h,bookCells]
 clear hb
 go_wp2_with fail
 refine (Go.Eng.KX.own40 w8 (by have:=HB8.out.size;omega)).mono ?_
 rintro e w9 ⟨rfl,hb⟩
 have HB9:Hid (Below B w w9):=Lib.hid (below_to HB8.out hb hB)
 have Hh9:Hid (w9.heap[bk]?=some (.cells (bookCells (.slice so sn sc)) 67 (0,0))):=Lib.hid ((hb.block bk (by have:=HB8.out.size;omega)).trans Hh8.out)
 clear hc
 have hc:w9.cell? ⟨bk,9,none⟩=some (.slice none 0 0):=by have h:=Hh9.out;simp [World.cell?,h,bookCells]
 clear hb
 go_wp2_with fail
 refine (Go.Eng.KX.own41 w9 (by have:=HB9.out.size;omega)).mono ?_
 rintro e w10 ⟨rfl,hb⟩
 have HB10:Hid (Below B w w10):=Lib.hid (below_to HB9.out hb hB)
 have Hh10:Hid (w10.heap[bk]?=some (.cells (bookCells (.slice so sn sc)) 67 (0,0))):=Lib.hid ((hb.block bk (by have:=HB9.out.size;omega)).trans Hh9.out)
 clear hc
 have hc:w10.cell? ⟨bk,10,none⟩=some (.slice none 0 0):=by have h:=Hh10.out;simp [World.cell?,h,bookCells]
 clear hb
 go_wp2_with fail
 refine (Go.Eng.KX.own42 w10 (by have:=HB10.out.size;omega)).mono ?_
 rintro e w11 ⟨rfl,hb⟩
 have HB11:Hid (Below B w w11):=Lib.hid (below_to HB10.out hb hB)
 have Hh11:Hid (w11.heap[bk]?=some (.cells (bookCells (.slice so sn sc)) 67 (0,0))):=Lib.hid ((hb.block bk (by have:=HB10.out.size;omega)).trans Hh10.out)
 clear hc
 have hc:w11.cell? ⟨bk,11,none⟩=some (.slice none 0 0):=by have h:=Hh11.out;simp [World.cell?,h,bookCells]
 clear hb
 go_wp2_with fail
 refine (Go.Eng.KX.own43 w11 (by have:=HB11.out.size;omega)).mono ?_
 rintro e w12 ⟨rfl,hb⟩
 have HB12:Hid (Below B w w12):=Lib.hid (below_to HB11.out hb hB)
 have Hh12:Hid (w12.heap[bk]?=some (.cells (bookCells (.slice so sn sc)) 67 (0,0))):=Lib.hid ((hb.block bk (by have:=HB11.out.size;omega)).trans Hh11.out)
 clear hc
 have hc:w12.cell? ⟨bk,12,none⟩=some (.slice none 0 0):=by have h:=Hh12.out;simp [World.cell?,h,bookCells]
 clear hb
 go_wp2_with fail
 refine (Go.Eng.KX.own44 w12 (by have:=HB12.out.size;omega)).mono ?_
 rintro e w13 ⟨rfl,hb⟩
 have HB13:Hid (Below B w w13):=Lib.hid (below_to HB12.out hb hB)
 have Hh13:Hid (w13.heap[bk]?=some (.cells (bookCells (.slice so sn sc)) 67 (0,0))):=Lib.hid ((hb.block bk (by have:=HB12.out.size;omega)).trans Hh12.out)
 clear hc
 have hc:w13.cell? ⟨bk,13,none⟩=some (.slice none 0 0):=by have h:=Hh13.out;simp [World.cell?,h,bookCells]
 clear hb
 go_wp2_with fail
 refine (Go.Eng.KX.own45 w13 (by have:=HB13.out.size;omega)).mono ?_
 rintro e w14 ⟨rfl,hb⟩
 have HB14:Hid (Below B w w14):=Lib.hid (below_to HB13.out hb hB)
 have Hh14:Hid (w14.heap[bk]?=some (.cells (bookCells (.slice so sn sc)) 67 (0,0))):=Lib.hid ((hb.block bk (by have:=HB13.out.size;omega)).trans Hh13.out)
 clear hc
 have hc:w14.cell? ⟨bk,14,none⟩=some (.slice none 0 0):=by have h:=Hh14.out;simp [World.cell?,h,bookCells]
 clear hb
 go_wp2_with fail
 refine (Go.Eng.KX.own46 w14 (by have:=HB14.out.size;omega)).mono ?_
 rintro e w15 ⟨rfl,hb⟩
 have HB15:Hid (Below B w w15):=Lib.hid (below_to HB14.out hb hB)
 have Hh15:Hid (w15.heap[bk]?=some (.cells (bookCells (.slice so sn sc)) 67 (0,0))):=Lib.hid ((hb.block bk (by have:=HB14.out.size;omega)).trans Hh14.out)
 clear hc
 have hc:w15.cell? ⟨bk,15,none⟩=some (.slice none 0 0):=by have h:=Hh15.out;simp [World.cell?,h,bookCells]
 clear hb
 go_wp2_with fail
 refine (Go.Eng.KX.own47 w15 (by have:=HB15.out.size;omega)).mono ?_
 rintro e w16 ⟨rfl,hb⟩
 have HB16:Hid (Below B w w16):=Lib.hid (below_to HB15.out hb hB)
 have Hh16:Hid (w16.heap[bk]?=some (.cells (bookCells (.slice so sn sc)) 67 (0,0))):=Lib.hid ((hb.block bk (by have:=HB15.out.size;omega)).trans Hh15.out)
 clear hc
 have hc:w16.cell? ⟨bk,16,none⟩=some (.slice none 0 0):=by have h:=Hh16.out;simp [World.cell?,h,bookCells]
 clear hb
 go_wp2_with fail
 refine (Go.Eng.KX.own48 w16 (by have:=HB16.out.size;omega)).mono ?_
 rintro e w17 ⟨rfl,hb⟩
 have HB17:Hid (Below B w w17):=Lib.hid (below_to HB16.out hb hB)
 have Hh17:Hid (w17.heap[bk]?=some (.cells (bookCells (.slice so sn sc)) 67 (0,0))):=Lib.hid ((hb.block bk (by have:=HB16.out.size;omega)).trans Hh16.out)
 clear hc
 have hc:w17.cell? ⟨bk,17,none⟩=some (.slice none 0 0):=by have h:=Hh17.out;simp [World.cell?,h,bookCells]
 clear hb
 go_wp2_with fail
 refine (Go.Eng.KX.own49 w17 (by have:=HB17.out.size;omega)).mono ?_
 rintro e w18 ⟨rfl,hb⟩
 have HB18:Hid (Below B w w18):=Lib.hid (below_to HB17.out hb hB)
 have Hh18:Hid (w18.heap[bk]?=some (.cells (bookCells (.slice so sn sc)) 67 (0,0))):=Lib.hid ((hb.block bk (by have:=HB17.out.size;omega)).trans Hh17.out)
 clear hc
 have hc:w18.cell? ⟨bk,18,none⟩=some (.slice none 0 0):=by have h:=Hh18.out;simp [World.cell?,h,bookCells]
 clear hb
 go_wp2_with fail
 refine (Go.Eng.KX.own50 w18 (by have:=HB18.out.size;omega)).mono ?_
 rintro e w19 ⟨rfl,hb⟩
 have HB19:Hid (Below B w w19):=Lib.hid (below_to HB18.out hb hB)
 have Hh19:Hid (w19.heap[bk]?=some (.cells (bookCells (.slice so sn sc)) 67 (0,0))):=Lib.hid ((hb.block bk (by have:=HB18.out.size;omega)).trans Hh18.out)
 clear hc
 have hc:w19.cell? ⟨bk,19,none⟩=some (.slice none 0 0):=by have h:=Hh19.out;simp [World.cell?,h,bookCells]
 clear hb
 go_wp2_with fail
 refine (Go.Eng.KX.own51 w19 (by have:=HB19.out.size;omega)).mono ?_
 rintro e w20 ⟨rfl,hb⟩
 have HB20:Hid (Below B w w20):=Lib.hid (below_to HB19.out hb hB)
 have Hh20:Hid (w20.heap[bk]?=some (.cells (bookCells (.slice so sn sc)) 67 (0,0))):=Lib.hid ((hb.block bk (by have:=HB19.out.size;omega)).trans Hh19.out)
 clear hc
 have hc:w20.cell? ⟨bk,20,none⟩=some (.slice none 0 0):=by have h:=Hh20.out;simp [World.cell?,h,bookCells]
 clear hb
 go_wp2_with fail
 refine (Go.Eng.KX.own52 w20 (by have:=HB20.out.size;omega)).mono ?_
 rintro e w21 ⟨rfl,hb⟩
 have HB21:Hid (Below B w w21):=Lib.hid (below_to HB20.out hb hB)
 have Hh21:Hid (w21.heap[bk]?=some (.cells (bookCells (.slice so sn sc)) 67 (0,0))):=Lib.hid ((hb.block bk (by have:=HB20.out.size;omega)).trans Hh20.out)
 clear hc
 have hc:w21.cell? ⟨bk,21,none⟩=some (.slice none 0 0):=by have h:=Hh21.out;simp [World.cell?,h,bookCells]
 clear hb
 go_wp2_with fail
 refine (Go.Eng.KX.own53 w21 (by have:=HB21.out.size;omega)).mono ?_
 rintro e w22 ⟨rfl,hb⟩
 have HB22:Hid (Below B w w22):=Lib.hid (below_to HB21.out hb hB)
 have Hh22:Hid (w22.heap[bk]?=some (.cells (bookCells (.slice so sn sc)) 67 (0,0))):=Lib.hid ((hb.block bk (by have:=HB21.out.size;omega)).trans Hh21.out)
 clear hc
 have hc:w22.cell? ⟨bk,22,none⟩=some (.slice none 0 0):=by have h:=Hh22.out;simp [World.cell?,h,bookCells]
 clear hb
 go_wp2_with fail
 refine (Go.Eng.KX.own54 w22 (by have:=HB22.out.size;omega)).mono ?_
 rintro e w23 ⟨rfl,hb⟩
 have HB23:Hid (Below B w w23):=Lib.hid (below_to HB22.out hb hB)
 have Hh23:Hid (w23.heap[bk]?=some (.cells (bookCells (.slice so sn sc)) 67 (0,0))):=Lib.hid ((hb.block bk (by have:=HB22.out.size;omega)).trans Hh22.out)
 clear hc
 have hc:w23.cell? ⟨bk,23,none⟩=some (.slice none 0 0):=by have h:=Hh23.out;simp [World.cell?,h,bookCells]
 clear hb
 go_wp2_with fail
 refine (Go.Eng.KX.own55 w23 (by have:=HB23.out.size;omega)).mono ?_
 rintro e w24 ⟨rfl,hb⟩
 have HB24:Hid (Below B w w24):=Lib.hid (below_to HB23.out hb hB)
 have Hh24:Hid (w24.heap[bk]?=some (.cells (bookCells (.slice so sn sc)) 67 (0,0))):=Lib.hid ((hb.block bk (by have:=HB23.out.size;omega)).trans Hh23.out)
 clear hc
 have hc:w24.cell? ⟨bk,24,none⟩=some (.slice none 0 0):=by have h:=Hh24.out;simp [World.cell?,h,bookCells]
 clear hb
 go_wp2_with fail
 refine (Go.Eng.KX.own56 w24 (by have:=HB24.out.size;omega)).mono ?_
 rintro e w25 ⟨rfl,hb⟩
 have HB25:Hid (Below B w w25):=Lib.hid (below_to HB24.out hb hB)
 have Hh25:Hid (w25.heap[bk]?=some (.cells (bookCells (.slice so sn sc)) 67 (0,0))):=Lib.hid ((hb.block bk (by have:=HB24.out.size;omega)).trans Hh24.out)
 clear hc
 have hc:w25.cell? ⟨bk,25,none⟩=some (.slice none 0 0):=by have h:=Hh25.out;simp [World.cell?,h,bookCells]
 clear hb
 go_wp2_with fail
 refine (Go.Eng.KX.own57 w25 (by have:=HB25.out.size;omega)).mono ?_
 rintro e w26 ⟨rfl,hb⟩
 have HB26:Hid (Below B w w26):=Lib.hid (below_to HB25.out hb hB)
 have Hh26:Hid (w26.heap[bk]?=some (.cells (bookCells (.slice so sn sc)) 67 (0,0))):=Lib.hid ((hb.block bk (by have:=HB25.out.size;omega)).trans Hh25.out)
 clear hc
 have hc:w26.cell? ⟨bk,26,none⟩=some (.slice none 0 0):=by have h:=Hh26.out;simp [World.cell?,h,bookCells]
 clear hb
 go_wp2_with fail
 refine (Go.Eng.KX.own58 w26 (by have:=HB26.out.size;omega)).mono ?_
 rintro e w27 ⟨rfl,hb⟩
 have HB27:Hid (Below B w w27):=Lib.hid (below_to HB26.out hb hB)
 have Hh27:Hid (w27.heap[bk]?=some (.cells (bookCells (.slice so sn sc)) 67 (0,0))):=Lib.hid ((hb.block bk (by have:=HB26.out.size;omega)).trans Hh26.out)
 clear hc
 have hc:w27.cell? ⟨bk,27,none⟩=some (.slice none 0 0):=by have h:=Hh27.out;simp [World.cell?,h,bookCells]
 clear hb
 go_wp2_with fail
 refine (Go.Eng.KX.own59 w27 (by have:=HB27.out.size;omega)).mono ?_
 rintro e w28 ⟨rfl,hb⟩
 have HB28:Hid (Below B w w28):=Lib.hid (below_to HB27.out hb hB)
 have Hh28:Hid (w28.heap[bk]?=some (.cells (bookCells (.slice so sn sc)) 67 (0,0))):=Lib.hid ((hb.block bk (by have:=HB27.out.size;omega)).trans Hh27.out)
 clear hc
 have hc:w28.cell? ⟨bk,28,none⟩=some (.slice none 0 0):=by have h:=Hh28.out;simp [World.cell?,h,bookCells]
 clear hb
 go_wp2_with fail
 refine (Go.Eng.KX.own60 w28 (by have:=HB28.out.size;omega)).mono ?_
 rintro e w29 ⟨rfl,hb⟩
 have HB29:Hid (Below B w w29):=Lib.hid (below_to HB28.out hb hB)
 have Hh29:Hid (w29.heap[bk]?=some (.cells (bookCells (.slice so sn sc)) 67 (0,0))):=Lib.hid ((hb.block bk (by have:=HB28.out.size;omega)).trans Hh28.out)
 clear hc
 have hc:w29.cell? ⟨bk,29,none⟩=some (.slice none 0 0):=by have h:=Hh29.out;simp [World.cell?,h,bookCells]
 clear hb
 go_wp2_with fail
 refine (Go.Eng.KX.own61 w29 (by have:=HB29.out.size;omega)).mono ?_
 rintro e w30 ⟨rfl,hb⟩
 have HB30:Hid (Below B w w30):=Lib.hid (below_to HB29.out hb hB)
 have Hh30:Hid (w30.heap[bk]?=some (.cells (bookCells (.slice so sn sc)) 67 (0,0))):=Lib.hid ((hb.block bk (by have:=HB29.out.size;omega)).trans Hh29.out)
 clear hc
 have hc:w30.cell? ⟨bk,30,none⟩=some (.slice none 0 0):=by have h:=Hh30.out;simp [World.cell?,h,bookCells]
 clear hb
 go_wp2_with fail
 refine (Go.Eng.KX.own62 w30 (by have:=HB30.out.size;omega)).mono ?_
 rintro e w31 ⟨rfl,hb⟩
 have HB31:Hid (Below B w w31):=Lib.hid (below_to HB30.out hb hB)
 have Hh31:Hid (w31.heap[bk]?=some (.cells (bookCells (.slice so sn sc)) 67 (0,0))):=Lib.hid ((hb.block bk (by have:=HB30.out.size;omega)).trans Hh30.out)
 clear hc
 have hc:w31.cell? ⟨bk,31,none⟩=some (.slice none 0 0):=by have h:=Hh31.out;simp [World.cell?,h,bookCells]
 clear hb
 go_wp2_with fail
 refine (Go.Eng.KX.own63 w31 (by have:=HB31.out.size;omega)).mono ?_
 rintro e w32 ⟨rfl,hb⟩
 have HB32:Hid (Below B w w32):=Lib.hid (below_to HB31.out hb hB)
 have Hh32:Hid (w32.heap[bk]?=some (.cells (bookCells (.slice so sn sc)) 67 (0,0))):=Lib.hid ((hb.block bk (by have:=HB31.out.size;omega)).trans Hh31.out)
 go_wp2_with fail
 go_ret
 exact⟨rfl,HB32.out⟩
theorem two {α:Type}{x y u:α}{j:Nat}(h:[x,y][j]?=some u):(j=0∧u=x)∨(j=1∧u=y):=by
 match j,h with
 | 0,h=>cases h;exact .inl ⟨rfl,rfl⟩
 | 1,h=>cases h;exact .inr ⟨rfl,rfl⟩
theorem own_two {W0:World}{B bk s1 s2 s3:Nat}{x y:Value}{X Y:List Int}(hb:BookAt W0 bk [x,y]) (hx:OwnsU W0 s1 x X) (hy:OwnsU W0 s2 y Y)
  (lx:∀k,x.ownBlock=some k→s1≤k∧k<s2) (ly:∀k,y.ownBlock=some k→s2≤k∧k<s3) (h3:s3≤bk) (hB:B≤s1) (h12:s1≤s2) (h23:s2≤s3)
  (l1:X.length≤30000000000) (l2:Y.length≤30000000000) (h8:11≤W0.heap.size) (hB0:B≤W0.heap.size) :
  Calls Tryz.prog 13 #[.pointer (some ⟨bk,0,none⟩)] W0 fun e w'=>e=.returned (.bool true)∧Below B W0 w':=by
 have hbk:=hb.lt
 obtain⟨sv,h1,h2⟩:=hb
 have hcells:=h2
 rcases h2.2 with ⟨_,h0⟩|⟨gs,cap,cur,rfl,q1,q2,q3,q4,q5,q6⟩
 ·simp at h0
 have hgs:gs<W0.heap.size:=(Array.getElem?_eq_some_iff.1 q2).1
 refine own_book W0 h8 hB0 h1 fun W hW=>?_
 have hus:∀(j:Nat) (u:Value),[x,y][j]?=some u→∀b,u.ownBlock=some b→B≤b∧b<s3:=by
  intro j u hu b hb
  rcases two hu with ⟨_,rfl⟩|⟨_,rfl⟩
  ·have:=lx b hb;omega
  ·have:=ly b hb;omega
 have ha:ApartO W B gs [x,y] [X,Y]:=by
  refine⟨rfl,?_,?_,?_,by have:=hW.1;omega,by have:=hW.1;omega⟩
  ·intro zs hz
   simp only [List.mem_cons,List.not_mem_nil,or_false] at hz
   rcases hz with rfl | rfl<;>assumption
  ·intro u hu e
   obtain⟨j,hj⟩:=List.getElem?_of_mem hu
   have:=(hus j u hj gs e).2
   omega
  ·intro j j' u u' hu hu' hne b hb hb'
   rcases two hu with ⟨e1,rfl⟩|⟨e1,rfl⟩<;>rcases two hu' with ⟨e2,rfl⟩|⟨e2,rfl⟩<;>first
    | (exfalso;omega)
    | (have a1:=lx b hb;have a2:=ly b hb';omega)
    | (have a1:=ly b hb;have a2:=lx b hb';omega)
 have hst:StO W W B gs [x,y] [X,Y] [X,Y]:=by
  refine⟨fun j v hv=>(ownsRow_cell (ownsRow_olds hcells hW) j v hv),fun j u zs hu hz'=>?_,rfl,Below.refl _ _,fun _ _ _=>rfl,rfl⟩
  rcases two hu with ⟨e1,rfl⟩|⟨e1,rfl⟩<;>subst e1<;>cases hz'
  ·exact (hx.olds hW).mono hB
  ·exact (hy.olds hW).mono (by omega)
 refine (own_ints (n:=2) (cap:=cap) W rfl (by omega) ha hst (fun j u hu b hb=>by have h:=hus j u hu b hb;have:=hW.1;exact⟨h.1,by omega⟩)).mono fun e w' h=>⟨h.1,h.2.1,h.2.2 bk (by have:=hW.1;omega) fun u hu e2=>?_⟩
 obtain⟨j,hj⟩:=List.getElem?_of_mem hu
 have:=(hus j u hj bk e2).2
 omega
end Go.Proofs.YtbecggfbblnglaaGreatDoor
