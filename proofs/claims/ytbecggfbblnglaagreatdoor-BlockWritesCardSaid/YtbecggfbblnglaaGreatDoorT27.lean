/- Contracts over this program. Their conditions: the slices read as the lists that are named, and lie within the sizes that are named. -/
import Derived.Test.YtbecggfbblnglaaGreatDoorT26
import Derived.Test.YtbecggfbblnglaaGreatDoorP1
import Derived.Deep.RegionHeldLaw
import Derived.Deep.RegionWith
set_option linter.unusedSimpArgs false
set_option linter.unusedVariables false
set_option linter.deprecated false
set_option linter.unnecessarySimpa false
namespace Go.Proofs.YtbecggfbblnglaaGreatDoor
open Go Go.RowKit Go.Ix Go.Gor
theorem ApAt.cells {w:World}{ab wb:Nat}{v:Value}{first:Int}{last:Smp}{n:Nat}{s:St}(h:ApAt w ab wb v first last n s) :
  w.cell? ⟨ab,0,none⟩=some (.pointer (some ⟨wb,0,none⟩))∧w.cell? ⟨ab,6,none⟩=some (.int .i64 (winL s.win:Nat))∧w.cell? ⟨ab,7,none⟩=some (.int .i64 (winR s.win:Nat))∧w.cell? ⟨ab,8,none⟩=some (.bool s.win.isSome) :=
 ⟨cell_of_heap h.heap,cell_of_heap h.heap,cell_of_heap h.heap,cell_of_heap h.heap⟩
theorem ApAt.setWin {w:World}{ab wb:Nat}{v:Value}{first:Int}{last:Smp}{n:Nat}{s:St}(h:ApAt w ab wb v first last n s) (l r:Nat) :
  ApAt (((w.setCell ⟨ab,6,none⟩ (.int .i64 (l:Nat))).setCell ⟨ab,7,none⟩ (.int .i64 (r:Nat))).setCell ⟨ab,8,none⟩ (.bool true)) ab wb v first last n ⟨s.bits,s.step,some (l,r)⟩:=by
 refine⟨?_,⟨?_,?_⟩,h.ne,h.own⟩
 ·simp [World.setCell,Array.getElem?_modify,h.heap,apCells,winL,winR]
 ·have:=h.wr.1
  simp only [World.setCell,Array.getElem?_modify]
  rw [if_neg (fun e=>h.ne e.symm),if_neg (fun e=>h.ne e.symm),if_neg (fun e=>h.ne e.symm)]
  exact this
 ·exact Row8.other (Row8.other (Row8.other h.wr.2 h.own _) h.own _) h.own _
theorem ApAt.frozen {w:World}{ab wb:Nat}{v:Value}{first:Int}{last:Smp}{n:Nat}{s:St}(h:ApAt w ab wb v first last n s) (i:Nat):w.frozen? ⟨ab,i,none⟩=false:=by simp [World.frozen?,h.heap]
set_option maxRecDepth 20000 in
set_option maxHeartbeats 4000000 in
theorem zero_any (ab wb:Nat) (v:Value) (first:Int) (last:Smp) (n:Nat) (s:St) (w:World) (h:ApAt w ab wb v first last n s) (hl:s.bits.length≤900000) :
  Calls Tryz.prog 150 #[.pointer (some ⟨ab,0,none⟩),.int .u64 0] w fun e w'=>e=.returned (.tuple #[])∧∃v',ApAt w' ab wb v' first last n ⟨s.bits++[false],s.step,s.win⟩∧Wrote (fun b=>b=wb∨b=ab) v v' w w':=by
 have c0:=h.cells.1
 have H:=Lib.hid h
 have HB:=Lib.hid (bit_any (X:=fun b=>b=wb) wb v s.bits false w H.out.wr (Nat.le_trans hl (by decide)) rfl)
 clear h
 go_enter Tryz.func150,Tryz.ntmps150
 go_wp2_with (go_at_call 183;refine HB.out.mono ?_;clear HB;rintro e w2 ⟨rfl,v2,hw2,ht2⟩;have A2:=Lib.hid (H.out.wrote hw2 ht2);have T2:=Lib.hid (ht2.both (ab:=ab));clear hw2 ht2)
 refine bodyPost_ret (results_none rfl _ _ _) rfl ?_
 exact⟨rfl,v2,A2.out,T2.out⟩
def WinC (W:World) (ab wb l r:Nat):Prop:=W.cell? ⟨ab,0,none⟩=some (.pointer (some ⟨wb,0,none⟩))∧W.cell? ⟨ab,6,none⟩=some (.int .i64 (l:Nat))∧W.cell? ⟨ab,7,none⟩=some (.int .i64 (r:Nat))∧W.cell? ⟨ab,8,none⟩=some (.bool true)
theorem win_cells {w:World}{ab wb:Nat}{v:Value}{first:Int}{last:Smp}{n step l r:Nat}{bits:List Bool}(h:ApAt w ab wb v first last n ⟨bits,step,some (l,r)⟩):WinC w ab wb l r:=h.cells
def rest (x r m:Nat):List Bool:=bitsOf (x / 2 ^ r) m
set_option maxRecDepth 20000 in
set_option maxHeartbeats 4000000 in
theorem fits_any (ab wb:Nat) (v:Value) (first:Int) (last:Smp) (n x step l r le tr ld:Nat) (bits:List Bool) (w:World) (h:ApAt w ab wb v first last n ⟨bits,step,some (l,r)⟩) (hT:TabG w) (h5:5≤wb) (hl:bits.length≤900000) (hx:x<18446744073709551616) (hx0:0<x)
  (hle:le=min 31 ld) (hld:ld=63-x.log2) (htr:tr=trail x) (h1:l≤le) (h2:r≤tr) (hw:l+r≤63) :
  Calls Tryz.prog 150 #[.pointer (some ⟨ab,0,none⟩),.int .u64 (x:Nat)] w fun e w'=>e=.returned (.tuple #[])∧∃v',ApAt w' ab wb v' first last n ⟨(bits++[true,false])++rest x r (64-l-r),step,some (l,r)⟩∧Wrote (fun b=>b=wb∨b=ab) v v' w w':=by
 have c0:=h.cells.1
 have H:=Lib.hid h
 have HT:=Lib.hid hT
 have HB:=Lib.hid (bit_any (X:=fun b=>b=wb) wb v bits true w H.out.wr (Nat.le_trans hl (by decide)) rfl)
 have hxz:¬ (x:Int)=0:=by omega
 have hxb:((x:Int) != 0)=true:=by simpa using hxz
 have HLd:Hid (∀W,Calls Tryz.prog 185 #[.int .u64 (x:Nat)] W fun e w'=>e=.returned (.int .i64 (ld:Nat))∧W=w'):=Lib.hid (fun W=>by rw [hld];exact lead_any x W hx0 hx)
 have HTr:Hid (∀W,TabG W→Calls Tryz.prog 186 #[.int .u64 (x:Nat)] W fun e w'=>e=.returned (.int .i64 (tr:Nat))∧W=w'):=Lib.hid (fun W hW=>by rw [htr];exact trail_any x W hW hx0 hx)
 have hmin:min 31 (ld:Int)=(le:Int):=by omega
 have HTG:Hid (∀W v2,Wrote (fun b=>b=wb) v v2 w W→TabG W):=Lib.hid (fun W v2 hW i y hy=>by
  rw [← HT.out i y hy]
  refine World.cell?_of_block (hW.block 2 ?_ ?_ ?_)
  ·have:=H.out.wr.lt;omega
  ·omega
  ·intro e;have:=(H.out.wr.own 2 e).1;omega)
 obtain⟨y,hy⟩:∃y,y=x / 2 ^ r:=⟨_,rfl⟩
 have hyi:(x:Int) / 2 ^ r=(y:Int):=by rw [hy];norm_cast
 have hyl:y<18446744073709551616:=by rw [hy];exact Nat.lt_of_le_of_lt (Nat.div_le_self _ _) hx
 have Hy:Hid (∀m,rest x r m=bitsOf y m):=Lib.hid (fun m=>by unfold rest;rw [hy])
 obtain⟨m,hm⟩:∃m,m=64-l-r:=⟨_,rfl⟩
 have hmi:64-(l:Int)-(r:Int)=(m:Int):=by omega
 have hm64:m≤64:=by omega
 have HM:Hid (∀W,Calls Tryz.prog 187 #[.agg #[.int .i64 (l:Nat),.int .i64 (r:Nat),.bool true]] W fun e w'=>e=.returned (.int .i64 (m:Nat))∧∃O,w'=W.alloc O):=Lib.hid (fun W=>by rw [hm];exact many_any l r true W (by omega))
 rw [Hy.out,← hm]
 clear h hT hy hm hle hld htr
 go_enter Tryz.func150,Tryz.ntmps150
 go_upto_region 9 with (first
  | (go_at_call 183;refine HB.out.mono ?_;clear HB;rintro e w2 ⟨rfl,v2,hw2,ht2⟩;have A2:=Lib.hid (H.out.wrote hw2 ht2);have T2:=Lib.hid (ht2.both (ab:=ab));have G2:=HTG.out w2 v2 ht2;obtain⟨d0,d6,d7,d8⟩:=A2.out.cells;simp only [winL,winR,Option.map_some,Option.getD_some,Option.isSome_some] at d6 d7 d8;have HB3:=Lib.hid (bit_any (X:=fun b=>b=wb) wb v2 (bits++[true]) false w2 hw2 (by rw [List.length_append];simp;omega) rfl);clear hw2 ht2)
  | (go_at_call 183;refine HB3.out.mono ?_;clear HB3;rintro e w4 ⟨rfl,v4,hw4,ht4⟩;have A4:=Lib.hid (A2.out.wrote hw4 ht4);have T4:=Lib.hid (T2.out.trans (ht4.both (ab:=ab)));have A5:=Lib.hid (A4.out.alloc (Olds.drewN w4 1));have HS5:=Lib.hid (win_cells A5.out);clear hw4 ht4 d0 d6 d7 d8)
  | (go_at_call 185;refine (HLd.out _).mono ?_;rintro e w3 ⟨rfl,rfl⟩)
  | (go_at_call 186;refine (HTr.out _ G2).mono ?_;rintro e w3 ⟨rfl,rfl⟩))
 have T5:Hid (Wrote (fun b=>b=wb∨b=ab) v v4 w (w4.drewN 1)):=Lib.hid (T4.out.drewN 1)
 have HB6:Hid (∀O,Calls Tryz.prog 148 #[.pointer (some ⟨wb,0,none⟩),.int .u64 (y:Nat),.int .i64 (m:Nat)] ((w4.drewN 1).alloc O) fun e w'=>e=.returned (.int .u16 0)∧∃v',WrAt w' wb v' ((bits++[true]++[false])++bitsOf y m)∧Wrote (fun b=>b=wb) v4 v' ((w4.drewN 1).alloc O) w'):=Lib.hid (fun O=>bits_any (X:=fun b=>b=wb) wb v4 _ y m _ (A5.out.alloc (Olds.alloc _ _)).wr (by rw [List.length_append,List.length_append];simp;omega) hm64 hyl rfl)
 have HS6:Hid (∀O,WinC ((w4.drewN 1).alloc O) ab wb l r):=Lib.hid (fun O=>win_cells (A5.out.alloc (Olds.alloc _ _)))
 go_region_held_law (fun W=>W.cell? ⟨ab,0,none⟩=some (.pointer (some ⟨wb,0,none⟩))∧W.cell? ⟨ab,6,none⟩=some (.int .i64 (l:Nat))∧W.cell? ⟨ab,7,none⟩=some (.int .i64 (r:Nat))∧W.cell? ⟨ab,8,none⟩=some (.bool true))
  (first | exact HS5.out | exact HS6.out _ | exact HS7.out)
  (first
   | (go_at_call 187;refine (HM.out _).mono ?_;rintro e w6 ⟨rfl,O,rfl⟩)
   | (go_at_call 148;refine (HB6.out _).mono ?_;rintro e w7 ⟨rfl,v7,hw7,ht7⟩;have A7:=Lib.hid ((A5.out.alloc (Olds.alloc _ _)).wrote hw7 ht7);have T7:=Lib.hid ((T5.out.alloc _).trans (ht7.both (ab:=ab)));have HS7:=Lib.hid (win_cells A7.out);clear hw7 ht7))
 go_wp2_with fail
 go_end0
 refine⟨rfl,v7,?_,T7.out⟩
 have h9:=A7.out
 rw [show bits++[true]++[false]=bits++[true,false] by simp] at h9
 exact h9
set_option maxRecDepth 20000 in
set_option maxHeartbeats 8000000 in
theorem fresh_any (ab wb:Nat) (v:Value) (first:Int) (last:Smp) (n x step le tr ld:Nat) (bits:List Bool) (win:Option (Nat×Nat)) (w:World) (h:ApAt w ab wb v first last n ⟨bits,step,win⟩) (hT:TabG w) (h5:5≤wb) (hl:bits.length≤900000) (hx:x<18446744073709551616) (hx0:0<x)
  (hle:le=min 31 ld) (hld:ld=63-x.log2) (htr:tr=trail x) (hlt:le+tr≤63) (hno:win.isSome=false∨(win.isSome=true∧¬ ((winL win:Nat):Int)≤(le:Int))∨(win.isSome=true∧((winL win:Nat):Int)≤(le:Int)∧¬ ((winR win:Nat):Int)≤(tr:Int))) :
  Calls Tryz.prog 150 #[.pointer (some ⟨ab,0,none⟩),.int .u64 (x:Nat)] w fun e w'=>e=.returned (.tuple #[])∧∃v',ApAt w' ab wb v' first last n ⟨(bits++[true,true])++(bitsOf le 5++bitsOf (63-le-tr) 6++rest x tr (64-le-tr)),step,some (le,tr)⟩∧Wrote (fun b=>b=wb∨b=ab) v v' w w':=by
 have c0:=h.cells.1
 have H:=Lib.hid h
 have HT:=Lib.hid hT
 have HB:=Lib.hid (bit_any (X:=fun b=>b=wb) wb v bits true w H.out.wr (Nat.le_trans hl (by decide)) rfl)
 have hxz:¬ (x:Int)=0:=by omega
 have hxb:((x:Int) != 0)=true:=by simpa using hxz
 have HLd:Hid (∀W,Calls Tryz.prog 185 #[.int .u64 (x:Nat)] W fun e w'=>e=.returned (.int .i64 (ld:Nat))∧W=w'):=Lib.hid (fun W=>by rw [hld];exact lead_any x W hx0 hx)
 have HTr:Hid (∀W,TabG W→Calls Tryz.prog 186 #[.int .u64 (x:Nat)] W fun e w'=>e=.returned (.int .i64 (tr:Nat))∧W=w'):=Lib.hid (fun W hW=>by rw [htr];exact trail_any x W hW hx0 hx)
 have hmin:min 31 (ld:Int)=(le:Int):=by omega
 have HTG:Hid (∀W v2,Wrote (fun b=>b=wb) v v2 w W→TabG W):=Lib.hid (fun W v2 hW i y hy=>by
  rw [← HT.out i y hy]
  refine World.cell?_of_block (hW.block 2 ?_ ?_ ?_)
  ·have:=H.out.wr.lt;omega
  ·omega
  ·intro e;have:=(H.out.wr.own 2 e).1;omega)
 obtain⟨y,hy⟩:∃y,y=x / 2 ^ tr:=⟨_,rfl⟩
 have hyi:(x:Int) / 2 ^ tr=(y:Int):=by rw [hy];norm_cast
 have hyl:y<18446744073709551616:=by rw [hy];exact Nat.lt_of_le_of_lt (Nat.div_le_self _ _) hx
 have Hy:Hid (∀m,rest x tr m=bitsOf y m):=Lib.hid (fun m=>by unfold rest;rw [hy])
 obtain⟨m,hm⟩:∃m,m=64-le-tr:=⟨_,rfl⟩
 obtain⟨m1,hm1⟩:∃m1,m1=63-le-tr:=⟨_,rfl⟩
 have hm64:m≤64:=by omega
 have hmm:(m:Int)-1=(m1:Int):=by omega
 have hm1u:IntKind.u64.wrap (m1:Int)=(m1:Int):=by rw [wrap_u64];omega
 have hm1i:IntKind.i64.wrap (m1:Int)=(m1:Int):=by rw [IntKind.wrap_i64];omega
 have hleu:IntKind.u64.wrap (le:Int)=(le:Int):=by rw [wrap_u64];omega
 have hm1l:m1<18446744073709551616:=by omega
 have hlel:le<18446744073709551616:=by omega
 have HM:Hid (∀W,Calls Tryz.prog 187 #[.agg #[.int .i64 (le:Nat),.int .i64 (tr:Nat),.bool true]] W fun e w'=>e=.returned (.int .i64 (m:Nat))∧∃O,w'=W.alloc O):=Lib.hid (fun W=>by rw [hm];exact many_any le tr true W (by omega))
 rw [Hy.out,← hm,← hm1]
 clear h hT hy hm hm1 hle hld htr
 generalize hwl:winL win=wl at *
 generalize hwr:winR win=wr at *
 have Hwl:=Lib.hid hwl
 have Hwr:=Lib.hid hwr
 clear hwl hwr
 rcases hno with hs|⟨hs,hn1⟩|⟨hs,hn1,hn2⟩
 all_goals
  try have hn3:¬ wr≤tr:=by omega
  try have hn4:decide (wr≤tr)=false:=decide_eq_false hn3
  go_enter Tryz.func150,Tryz.ntmps150
  go_upto_region 8 with (first
   | (go_at_call 183;refine HB.out.mono ?_;clear HB;rintro e w2 ⟨rfl,v2,hw2,ht2⟩;have A2:=Lib.hid (H.out.wrote hw2 ht2);have T2:=Lib.hid (ht2.both (ab:=ab));have G2:=HTG.out w2 v2 ht2;obtain⟨d0,d6,d7,d8⟩:=A2.out.cells;simp only [Hwl.out,Hwr.out,hs] at d6 d7 d8;have HB3:=Lib.hid (bit_any (X:=fun b=>b=wb) wb v2 (bits++[true]) true w2 hw2 (by rw [List.length_append];simp;omega) rfl);clear hw2 ht2)
   | (go_at_call 183;refine HB3.out.mono ?_;clear HB3;rintro e w4 ⟨rfl,v4,hw4,ht4⟩;have A4:=Lib.hid (A2.out.wrote hw4 ht4);have T4:=Lib.hid (T2.out.trans (ht4.both (ab:=ab)));clear d0 d6 d7 d8;obtain⟨d0,d6,d7,d8⟩:=A4.out.cells;simp only [Hwl.out,Hwr.out,hs] at d6 d7 d8;have f6:=A4.out.frozen 6;have f7:=A4.out.frozen 7;have f8:=A4.out.frozen 8;have A5:=Lib.hid (A4.out.setWin le tr);have T5:Hid (Wrote (fun b=>b=wb∨b=ab) v v4 w (((w4.setCell ⟨ab,6,none⟩ (.int .i64 (le:Nat))).setCell ⟨ab,7,none⟩ (.int .i64 (tr:Nat))).setCell ⟨ab,8,none⟩ (.bool true))):=(Lib.hid (((T4.out.setCell (p:=⟨ab,6,none⟩) (.inl (.inr rfl)) _).setCell (p:=⟨ab,7,none⟩) (.inl (.inr rfl)) _).setCell (p:=⟨ab,8,none⟩) (.inl (.inr rfl)) _));have HB7:=Lib.hid (bits_any (X:=fun b=>b=wb) wb v4 (bits++[true]++[true]) le 5 _ A5.out.wr (by rw [List.length_append,List.length_append];simp;omega) (by decide) hlel rfl);clear hw4 ht4)
   | (go_at_call 148;refine HB7.out.mono ?_;clear HB7;rintro e w6 ⟨rfl,v6,hw6,ht6⟩;have A6:=Lib.hid ((A5.out.wrote hw6 ht6).alloc (Olds.drewN w6 1));have T6:=Lib.hid ((T5.out.trans (ht6.both (ab:=ab))).drewN 1);have HS6:=Lib.hid (win_cells A6.out);have HS7:Hid (∀O,WinC ((w6.drewN 1).alloc O) ab wb le tr):=(Lib.hid (fun O=>win_cells (A6.out.alloc (Olds.alloc _ _))));have HB8:Hid (∀O,Calls Tryz.prog 148 #[.pointer (some ⟨wb,0,none⟩),.int .u64 (m1:Nat),.int .i64 ((6:Nat):Int)] ((w6.drewN 1).alloc O) fun e w'=>e=.returned (.int .u16 0)∧∃v',WrAt w' wb v' ((bits++[true]++[true]++bitsOf le 5)++bitsOf m1 6)∧Wrote (fun b=>b=wb) v6 v' ((w6.drewN 1).alloc O) w'):=(Lib.hid (fun O=>bits_any (X:=fun b=>b=wb) wb v6 _ m1 6 _ (A6.out.alloc (Olds.alloc _ _)).wr (by rw [List.length_append,List.length_append,List.length_append,bits_len];simp;omega) (by decide) hm1l rfl));clear hw6 ht6 d0 d6 d7 d8 f6 f7 f8)
   | (go_at_call 185;refine (HLd.out _).mono ?_;rintro e w3 ⟨rfl,rfl⟩)
   | (go_at_call 186;refine (HTr.out _ G2).mono ?_;rintro e w3 ⟨rfl,rfl⟩))
  try clear hn4
  try clear hn3
  try clear hn2
  try clear hn1
  try clear hs
  go_region_held_law (fun W=>W.cell? ⟨ab,0,none⟩=some (.pointer (some ⟨wb,0,none⟩))∧W.cell? ⟨ab,6,none⟩=some (.int .i64 (le:Nat))∧W.cell? ⟨ab,7,none⟩=some (.int .i64 (tr:Nat))∧W.cell? ⟨ab,8,none⟩=some (.bool true))
   (first | exact HS6.out | exact HS7.out _ | exact HS8.out)
   (first
    | (go_at_call 187;refine (HM.out _).mono ?_;rintro e w7 ⟨rfl,O,rfl⟩)
    | (go_at_call 148;refine (HB8.out _).mono ?_;rintro e w8 ⟨rfl,v8,hw8,ht8⟩;have A8:=Lib.hid ((A6.out.alloc (Olds.alloc _ _)).wrote hw8 ht8);have T8:=Lib.hid ((T6.out.alloc _).trans (ht8.both (ab:=ab)));have HS8:=Lib.hid (win_cells A8.out);clear hw8 ht8))
  have A9:=Lib.hid (A8.out.alloc (Olds.drewN w8 1))
  have T9:=Lib.hid (T8.out.drewN 1)
  have HS9:=Lib.hid (win_cells A9.out)
  have HS10:Hid (∀O,WinC ((w8.drewN 1).alloc O) ab wb le tr):=Lib.hid (fun O=>win_cells (A9.out.alloc (Olds.alloc _ _)))
  have HB10:Hid (∀O,Calls Tryz.prog 148 #[.pointer (some ⟨wb,0,none⟩),.int .u64 (y:Nat),.int .i64 (m:Nat)] ((w8.drewN 1).alloc O) fun e w'=>e=.returned (.int .u16 0)∧∃v',WrAt w' wb v' (((bits++[true]++[true]++bitsOf le 5)++bitsOf m1 6)++bitsOf y m)∧Wrote (fun b=>b=wb) v8 v' ((w8.drewN 1).alloc O) w'):=Lib.hid (fun O=>bits_any (X:=fun b=>b=wb) wb v8 _ y m _ (A9.out.alloc (Olds.alloc _ _)).wr (by rw [List.length_append,List.length_append,List.length_append,List.length_append,bits_len,bits_len];simp;omega) hm64 hyl rfl)
  go_upto_region 9 with fail
  go_region_held_law (fun W=>W.cell? ⟨ab,0,none⟩=some (.pointer (some ⟨wb,0,none⟩))∧W.cell? ⟨ab,6,none⟩=some (.int .i64 (le:Nat))∧W.cell? ⟨ab,7,none⟩=some (.int .i64 (tr:Nat))∧W.cell? ⟨ab,8,none⟩=some (.bool true))
   (first | exact HS9.out | exact HS10.out _ | exact HS11.out)
   (first
    | (go_at_call 187;refine (HM.out _).mono ?_;rintro e w9 ⟨rfl,O,rfl⟩)
    | (go_at_call 148;refine (HB10.out _).mono ?_;rintro e w11 ⟨rfl,v11,hw11,ht11⟩;have A11:=Lib.hid ((A9.out.alloc (Olds.alloc _ _)).wrote hw11 ht11);have T11:=Lib.hid ((T9.out.alloc _).trans (ht11.both (ab:=ab)));have HS11:=Lib.hid (win_cells A11.out);clear hw11 ht11))
  go_wp2_with fail
  go_end0
  refine⟨rfl,v11,?_,T11.out⟩
  have h9:=A11.out
  rw [show bits++[true]++[true]++bitsOf le 5++bitsOf m1 6++bitsOf y m=(bits++[true,true])++(bitsOf le 5++bitsOf m1 6++bitsOf y m) by simp] at h9
  exact h9
theorem fresh_bits (x:Nat):Gor.fresh x=[true,true]++(bitsOf (lead x) 5++bitsOf (63-lead x-trail x) 6++rest x (trail x) (64-lead x-trail x)):=rfl
theorem number_any (ab wb:Nat) (v:Value) (first:Int) (last:Smp) (n x:Nat) (s:St) (w:World) (h:ApAt w ab wb v first last n s) (hT:TabG w) (h5:5≤wb) (hl:s.bits.length≤900000) (hx:x<18446744073709551616) (hw:WinOkP s.win) :
  Calls Tryz.prog 150 #[.pointer (some ⟨ab,0,none⟩),.int .u64 (x:Nat)] w fun e w'=>e=.returned (.tuple #[])∧∃v',ApAt w' ab wb v' first last n ⟨s.bits++(numB x s.win).1,s.step,(numB x s.win).2⟩∧Wrote (fun b=>b=wb∨b=ab) v v' w w':=by
 by_cases h0:x=0
 ·subst h0
  have:=zero_any ab wb v first last n s w h hl
  rw [show numB 0 s.win=([false],s.win) from by unfold numB;rw [if_pos rfl]]
  exact this
 ·have hlt:=lead_trail (x:=x) (by omega) hx
  obtain⟨bits,step,win⟩:=s
  have hnew:(win.isSome=false∨(win.isSome=true∧¬ ((winL win:Nat):Int)≤(lead x:Int))∨(win.isSome=true∧((winL win:Nat):Int)≤(lead x:Int)∧¬ ((winR win:Nat):Int)≤(trail x:Int)))→numB x win=(Gor.fresh x,some (lead x,trail x)) →
    Calls Tryz.prog 150 #[.pointer (some ⟨ab,0,none⟩),.int .u64 (x:Nat)] w fun e w'=>e=.returned (.tuple #[])∧∃v',ApAt w' ab wb v' first last n ⟨bits++(numB x win).1,step,(numB x win).2⟩∧Wrote (fun b=>b=wb∨b=ab) v v' w w':=fun hno hb=>by
   rw [hb,fresh_bits]
   have:=fresh_any ab wb v first last n x step (lead x) (trail x) (63-x.log2) bits win w h hT h5 hl hx (by omega) rfl rfl rfl hlt hno
   rw [List.append_assoc] at this
   exact this
  cases win with
  | none=>exact hnew (.inl rfl) (by unfold numB;rw [if_neg h0])
  | some p =>
   obtain⟨l,r⟩:=p
   by_cases h1:l≤lead x
   ·by_cases h2:r≤trail x
    ·have:=fits_any ab wb v first last n x step l r (lead x) (trail x) (63-x.log2) bits w h hT h5 hl hx (by omega) rfl rfl rfl h1 h2 (hw l r rfl)
     rw [show numB x (some (l,r))=(true :: false :: bitsOf (x / 2 ^ r) (64-l-r),some (l,r)) from by unfold numB;rw [if_neg h0];exact if_pos ⟨h1,h2⟩]
     rw [List.append_assoc] at this
     exact this
    ·exact hnew (.inr (.inr ⟨rfl,by simp only [winL,Option.map_some,Option.getD_some];omega,by simp only [winR,Option.map_some,Option.getD_some];omega⟩)) (by unfold numB;rw [if_neg h0];exact if_neg (fun e=>h2 e.2))
   ·exact hnew (.inr (.inl ⟨rfl,by simp only [winL,Option.map_some,Option.getD_some];omega⟩)) (by unfold numB;rw [if_neg h0];exact if_neg (fun e=>h1 e.1))
end Go.Proofs.YtbecggfbblnglaaGreatDoor
namespace Go.Proofs.YtbecggfbblnglaaGreatDoor
open Go Go.RowKit Go.Ix Go.Gor
theorem ApAt.cell {w:World}{ab wb:Nat}{v:Value}{first:Int}{last:Smp}{n:Nat}{s:St}(h:ApAt w ab wb v first last n s) (i:Nat):w.cell? ⟨ab,i,none⟩=(apCells wb first last s.step n s.win)[i]?:=cell_of_heap h.heap
theorem ApAt.setFirst {w:World}{ab wb:Nat}{v:Value}{first:Int}{last:Smp}{n:Nat}{s:St}(h:ApAt w ab wb v first last n s) (t:Int):ApAt (w.setCell ⟨ab,1,none⟩ (.int .i64 t)) ab wb v t last n s:=by
 refine⟨?_,⟨?_,?_⟩,h.ne,h.own⟩
 ·simp [World.setCell,Array.getElem?_modify,h.heap,apCells]
 ·have:=h.wr.1
  simp only [World.setCell,Array.getElem?_modify]
  rw [if_neg (fun e=>h.ne e.symm)]
  exact this
 ·exact Row8.other h.wr.2 h.own _
theorem ApAt.setLast {w:World}{ab wb:Nat}{v:Value}{first:Int}{last:Smp}{n:Nat}{s:St}(h:ApAt w ab wb v first last n s) (x:Smp) (m:Nat) :
  ApAt (((w.setCell ⟨ab,2,none⟩ (.int .i64 x.1)).setCell ⟨ab,3,none⟩ (.int .u64 (x.2:Nat))).setCell ⟨ab,5,none⟩ (.int .i64 (m:Nat))) ab wb v first x m s:=by
 refine⟨?_,⟨?_,?_⟩,h.ne,h.own⟩
 ·simp [World.setCell,Array.getElem?_modify,h.heap,apCells]
 ·have:=h.wr.1
  simp only [World.setCell,Array.getElem?_modify]
  rw [if_neg (fun e=>h.ne e.symm),if_neg (fun e=>h.ne e.symm),if_neg (fun e=>h.ne e.symm)]
  exact this
 ·exact Row8.other (Row8.other (Row8.other h.wr.2 h.own _) h.own _) h.own _
theorem Wrote.apart {X:Nat→Prop}{v v':Value}{w w':World}{b:Nat}(h:Wrote X v v' w w') (hb:b<w.heap.size) (hv:v.ownBlock≠some b):v'.ownBlock≠some b:=fun e=>by
 rcases h.place with e2|⟨g,e2,hg⟩
 ·exact hv (e2 ▸ e)
 ·rw [e] at e2
  cases e2
  omega
set_option maxRecDepth 20000 in
set_option maxHeartbeats 4000000 in
theorem append_first (ab wb:Nat) (v:Value) (first:Int) (last:Smp) (s:St) (x1:Int) (x2:Nat) (w:World) (h:ApAt w ab wb v first last 0 s) (hl:s.bits.length≤800000) (hx:-9007199254740992≤x1∧x1≤9007199254740992) (hx2:x2<18446744073709551616) :
  Calls Tryz.prog 95 #[.pointer (some ⟨ab,0,none⟩),.agg #[.int .i64 x1,.int .u64 (x2:Nat)]] w fun e w'=>e=.returned (.int .u16 0)∧∃v',ApAt w' ab wb v' x1 (x1,x2) 1 ⟨(s.bits++vbits (zz x1))++bitsOf x2 64,s.step,s.win⟩∧Wrote (fun b=>b=wb∨b=ab) v v' w w':=by
 have HW:Hid (∀W,Calls Tryz.prog 92 #[.int .i64 x1] W fun e w'=>e=.returned (.bool true)∧W=w'):=Lib.hid (fun W=>by
  have:=within_any x1 W
  rwa [show decide (-9007199254740992≤x1∧x1≤9007199254740992)=true from decide_eq_true hx] at this)
 obtain⟨w1,hw1⟩:∃w1,w1=w.alloc (.cells #[.int .i64 x1,.int .u64 (x2:Nat)] 107):=⟨_,rfl⟩
 obtain⟨X1,hX1⟩:∃X1,X1=w1.drew.drew:=⟨_,rfl⟩
 have h0:ApAt X1 ab wb v first last 0 s:=h.alloc (by rw [hX1,hw1];exact ((Olds.alloc _ _).trans (Olds.drewN _ 1)).trans (Olds.drewN _ 1))
 have t0:Wrote (fun b=>b=wb∨b=ab) v v w X1:=by rw [hX1,hw1];exact (((Wrote.refl _ _ _).alloc _).drewN 1).drewN 1
 have hs0:w.heap.size<X1.heap.size:=by rw [hX1,hw1];exact Nat.lt_of_lt_of_le (Nat.lt_succ_self _) (Nat.le_of_eq (World.size_alloc _ _).symm)
 have hbx:X1.heap[w.heap.size]?=some (.cells #[.int .i64 x1,.int .u64 (x2:Nat)] 107 (0,0)):=by rw [hX1,hw1];exact heap_alloc_new _ _
 have hlt:=h.lt
 have hwl:=h.wr.lt
 have hob:v.ownBlock≠some w.heap.size:=fun e=>by have:=(h.wr.own _ e).2;omega
 have p5a:w.cell? ⟨ab,5,none⟩=some (.int .i64 0):=cell_of_heap h.heap
 have pb1:w1.cell? ⟨w.heap.size,0,none⟩=some (.int .i64 x1):=by rw [hw1];exact cell_new
 have q0:X1.cell? ⟨w.heap.size,0,none⟩=some (.int .i64 x1):=cell_of_heap hbx
 have z0:X1.cell? ⟨ab,0,none⟩=some (.pointer (some ⟨wb,0,none⟩)):=cell_of_heap h0.heap
 have HB:=Lib.hid (signed_any (X:=fun b=>b=wb) wb v s.bits x1 X1 h0.wr (by omega) hx rfl)
 have hv80:=v_len80 (zz_lt hx)
 have A0:=Lib.hid h0
 have T0:=Lib.hid t0
 have Q:=Lib.hid (And.intro hs0 (And.intro hob (And.intro (show w.heap.size≠wb by omega) hbx)))
 have HX:=Lib.hid hx
 clear h h0 t0 hob hx hbx
 generalize zz x1=zx at *
 go_enter Tryz.func95,Tryz.ntmps95
 go_wp2_with (go_at_call 92;refine (HW.out _).mono ?_;rintro e w2 ⟨rfl,rfl⟩)
 go_region
 go_wp2_with fail
 rw [← hw1]
 refine wp_region_still_tail 6 (by kernel_rfl) (by kernel_rfl) ?_
 simp only [List.take_succ_cons,List.take_zero,List.drop_succ_cons,List.drop_zero]
 change wpStill _ _ (World.drew _) (fun a'=>wpList _ _ _ _ a' (World.drew _)) _ _
 simp only [← hX1]
 clear hX1 hw1
 repeat still_step
 try refine wpStill_nil ?_
 go_wp2_with (go_at_call 147;refine HB.out.mono ?_;clear HB;rintro e w5 ⟨rfl,v5,hw5,ht5⟩;have A5:=Lib.hid (A0.out.wrote hw5 ht5);have T5:=Lib.hid (T0.out.trans ht5.both);have P5:=Lib.hid ((ht5.block _ Q.out.1 Q.out.2.2.1 Q.out.2.1).trans Q.out.2.2.2);have own6:=Lib.hid (ht5.apart Q.out.1 Q.out.2.1);have hs5:=ht5.size;clear hw5 ht5)
 obtain⟨X2,hX2⟩:∃X2,X2=w5.drew:=⟨_,rfl⟩
 have A6:Hid (ApAt X2 ab wb v5 first last 0 ⟨s.bits++vbits zx,s.step,s.win⟩):=Lib.hid (A5.out.alloc (by rw [hX2];exact Olds.drewN w5 1))
 have T6:Hid (Wrote (fun b=>b=wb∨b=ab) v v5 w X2):=Lib.hid (by rw [hX2];exact T5.out.drewN 1)
 have hs6:X1.heap.size≤X2.heap.size:=by rw [hX2];exact hs5
 have P6:Hid (X2.heap[w.heap.size]?=some (.cells #[.int .i64 x1,.int .u64 (x2:Nat)] 107 (0,0))):=Lib.hid (by rw [hX2];exact P5.out)
 have r2:X2.cell? ⟨w.heap.size,1,none⟩=some (.int .u64 (x2:Nat)):=cell_of_heap P6.out
 have z6:X2.cell? ⟨ab,0,none⟩=some (.pointer (some ⟨wb,0,none⟩)):=cell_of_heap A6.out.heap
 have HB2:=Lib.hid (bits_any (X:=fun b=>b=wb) wb v5 (s.bits++vbits zx) x2 64 X2 A6.out.wr (by rw [List.length_append];omega) (by decide) hx2 rfl)
 refine wp_region_still_tail 6 (by kernel_rfl) (by kernel_rfl) ?_
 simp only [List.take_succ_cons,List.take_zero,List.drop_succ_cons,List.drop_zero]
 change wpStill _ _ (World.drew _) (fun a'=>wpList _ _ _ _ a' (World.drew _)) _ _
 simp only [← hX2]
 clear hX2
 repeat still_step
 try refine wpStill_nil ?_
 go_wp2_with (go_at_call 148;refine HB2.out.mono ?_;clear HB2;rintro e w7 ⟨rfl,v7,hw7,ht7⟩;have A7:=Lib.hid (A6.out.wrote hw7 ht7);have T7:=Lib.hid (T6.out.trans ht7.both);have P7:Hid (w7.heap[w.heap.size]?=some (.cells #[.int .i64 x1,.int .u64 (x2:Nat)] 107 (0,0))):=(Lib.hid ((ht7.block _ (Nat.lt_of_lt_of_le Q.out.1 hs6) Q.out.2.2.1 own6.out).trans P6.out));have s0:w7.cell? ⟨w.heap.size,0,none⟩=some (.int .i64 x1):=(cell_of_heap P7.out);have s1:w7.frozen? ⟨ab,1,none⟩=false:=(by simp [World.frozen?,A7.out.heap]);have s2:w7.cell? ⟨ab,1,none⟩=some (.int .i64 first):=(cell_of_heap A7.out.heap);clear hw7 ht7)
 have b1:w7.cell? ⟨w.heap.size,1,none⟩=some (.int .u64 (x2:Nat)):=cell_of_heap P7.out
 have b2:w7.cell? ⟨ab,2,none⟩=some (.int .i64 last.1):=cell_of_heap A7.out.heap
 have b3:w7.cell? ⟨ab,3,none⟩=some (.int .u64 (last.2:Nat)):=cell_of_heap A7.out.heap
 have b5:w7.cell? ⟨ab,5,none⟩=some (.int .i64 0):=cell_of_heap A7.out.heap
 have f2:w7.frozen? ⟨ab,2,none⟩=false:=A7.out.frozen 2
 have f3:w7.frozen? ⟨ab,3,none⟩=false:=A7.out.frozen 3
 have f5:w7.frozen? ⟨ab,5,none⟩=false:=A7.out.frozen 5
 have hab1:¬ ab=w.heap.size:=by omega
 have hab2:¬ w.heap.size=ab:=by omega
 go_region
 go_wp2_with fail
 go_ret
 refine⟨rfl,v7,((A7.out.setFirst x1).setLast (x1,x2) 1).alloc (Olds.drewN _ 1),?_⟩
 exact ((((T7.out.setCell (p:=⟨ab,1,none⟩) (.inl (.inr rfl)) _).setCell (p:=⟨ab,2,none⟩) (.inl (.inr rfl)) _).setCell (p:=⟨ab,3,none⟩) (.inl (.inr rfl)) _).setCell (p:=⟨ab,5,none⟩) (.inl (.inr rfl)) _).drewN 1
theorem TabG.wrote {w w':World}{wb ab:Nat}{v v':Value}(h:TabG w) (ht:Wrote (fun b=>b=wb∨b=ab) v v' w w') (h1:5≤wb) (h2:5≤ab) (hv:∀g,v.ownBlock=some g→wb+1≤g) (hlt:wb<w.heap.size):TabG w':=fun i x hx=>by
 rw [← h i x hx]
 refine World.cell?_of_block (ht.block 2 (by omega) (by omega) (fun e=>?_))
 have:=hv 2 e
 omega
set_option maxRecDepth 20000 in
set_option maxHeartbeats 4000000 in
theorem append_more (ab wb:Nat) (v:Value) (first l1:Int) (l2:Nat) (n:Nat) (s:St) (x1:Int) (x2:Nat) (w:World) (h:ApAt w ab wb v first (l1,l2) n s) (hT:TabG w) (h5:5≤wb) (h6:5≤ab) (hl:s.bits.length≤800000) (hsp:s.step<18446744073709551616) (hw:WinOkP s.win) (hx:-9007199254740992≤x1∧x1≤9007199254740992) (hl1:-9007199254740992≤l1∧l1≤9007199254740992) (hx2:x2<18446744073709551616) (hl2:l2<18446744073709551616) (hlt:l1<x1) (hn0:0<n) (hn:n<120) :
  Calls Tryz.prog 95 #[.pointer (some ⟨ab,0,none⟩),.agg #[.int .i64 x1,.int .u64 (x2:Nat)]] w fun e w'=>e=.returned (.int .u16 0)∧∃v',ApAt w' ab wb v' first (x1,x2) (n+1) (nextS s n (l1,l2) (x1,x2))∧Wrote (fun b=>b=wb∨b=ab) v v' w w':=by
 have HW:Hid (∀W,Calls Tryz.prog 92 #[.int .i64 x1] W fun e w'=>e=.returned (.bool true)∧W=w'):=Lib.hid (fun W=>by
  have:=within_any x1 W
  rwa [show decide (-9007199254740992≤x1∧x1≤9007199254740992)=true from decide_eq_true hx] at this)
 obtain⟨a,ha⟩:∃a:Nat,(a:Int)=x1 % 18446744073709551616:=⟨(x1 % 18446744073709551616).toNat,by omega⟩
 obtain⟨b,hb⟩:∃b:Nat,(b:Int)=l1 % 18446744073709551616:=⟨(l1 % 18446744073709551616).toNat,by omega⟩
 have hst:=sub64_lt x1 l1
 have hu1:IntKind.u64.wrap x1=(a:Int):=by rw [wrap_u64];omega
 have hu2:IntKind.u64.wrap l1=(b:Int):=by rw [wrap_u64];omega
 have hu3:IntKind.u64.wrap ((a:Int)-(b:Int))=((sub64 x1 l1:Nat):Int):=by rw [wrap_u64];unfold sub64;omega
 have hxx:=xor64 hl2 hx2
 have hxo:bits .xor .u64 (x2:Int) (l2:Int)=((l2 ^^^ x2:Nat):Int):=by rw [xor_u64 _ _ hx2 hl2,Nat.xor_comm]
 have hS:Hid (∀st xx:Nat,st=sub64 x1 l1→xx=l2 ^^^ x2→nextS s n (l1,l2) (x1,x2)=⟨(s.bits++timeB s n st)++(numB xx s.win).1,st,(numB xx s.win).2⟩):=Lib.hid (fun st xx e1 e2=>by rw [e1,e2];rfl)
 have HS:=Lib.hid (hS.out _ _ rfl rfl)
 generalize sub64 x1 l1=st at *
 generalize l2 ^^^ x2=xx at *
 have htl:=time_len s n st hst
 obtain⟨w1,hw1⟩:∃w1,w1=w.alloc (.cells #[.int .i64 x1,.int .u64 (x2:Nat)] 107):=⟨_,rfl⟩
 obtain⟨X1,hX1⟩:∃X1,X1=w1.drew.drew:=⟨_,rfl⟩
 have h0:ApAt X1 ab wb v first (l1,l2) n s:=h.alloc (by rw [hX1,hw1];exact ((Olds.alloc _ _).trans (Olds.drewN _ 1)).trans (Olds.drewN _ 1))
 have t0:Wrote (fun b=>b=wb∨b=ab) v v w X1:=by rw [hX1,hw1];exact (((Wrote.refl _ _ _).alloc _).drewN 1).drewN 1
 have hs0:w.heap.size<X1.heap.size:=by rw [hX1,hw1];exact Nat.lt_of_lt_of_le (Nat.lt_succ_self _) (Nat.le_of_eq (World.size_alloc _ _).symm)
 have hbx:X1.heap[w.heap.size]?=some (.cells #[.int .i64 x1,.int .u64 (x2:Nat)] 107 (0,0)):=by rw [hX1,hw1];exact heap_alloc_new _ _
 have hablt:=h.lt
 have hwl:=h.wr.lt
 have hob:v.ownBlock≠some w.heap.size:=fun e=>by have:=(h.wr.own _ e).2;omega
 have p5a:w.cell? ⟨ab,5,none⟩=some (.int .i64 (n:Nat)):=cell_of_heap h.heap
 have p5c:w.cell? ⟨ab,2,none⟩=some (.int .i64 l1):=cell_of_heap h.heap
 have q0:X1.cell? ⟨w.heap.size,0,none⟩=some (.int .i64 x1):=cell_of_heap hbx
 have z0:X1.cell? ⟨ab,2,none⟩=some (.int .i64 l1):=cell_of_heap h0.heap
 have HB:=Lib.hid (time_any ab wb v first (l1,l2) n st s X1 h0 (by omega) hst hsp)
 have HTX:Hid (∀W v',Wrote (fun b=>b=wb∨b=ab) v v' X1 W→TabG W):=Lib.hid (fun W v' hW=>TabG.wrote (fun i x hx=>by rw [hX1,hw1];exact ((Olds.alloc _ _).trans ((Olds.drewN _ 1).trans (Olds.drewN _ 1))).cell (hT i x hx)) hW h5 h6 (fun g hg=>(h0.wr.own g hg).1) h0.wr.lt)
 have A0:=Lib.hid h0
 have T0:=Lib.hid t0
 have Q:=Lib.hid (And.intro hs0 (And.intro hob (And.intro (show w.heap.size≠wb by omega) (And.intro (show w.heap.size≠ab by omega) hbx))))
 have hle:¬ x1≤l1:=by omega
 have hnz:¬ n=0:=by omega
 have hn12:¬ n=120:=by omega
 clear h h0 t0 hob hx hbx hT hlt hl1 ha hb
 generalize timeB s n st=tb at *
 go_enter Tryz.func95,Tryz.ntmps95
 go_wp2_with (go_at_call 92;refine (HW.out _).mono ?_;rintro e w2 ⟨rfl,rfl⟩)
 go_region
 go_wp2_with fail
 rw [← hw1]
 refine wp_region_still_tail 11 (by kernel_rfl) (by kernel_rfl) ?_
 simp only [List.take_succ_cons,List.take_zero,List.drop_succ_cons,List.drop_zero]
 change wpStill _ _ (World.drew _) (fun a'=>wpList _ _ _ _ a' (World.drew _)) _ _
 simp only [← hX1]
 clear hX1 hw1
 repeat still_step
 try refine wpStill_nil ?_
 go_wp2_with (go_at_call 149;refine HB.out.mono ?_;clear HB;rintro e w5 ⟨rfl,v5,ha5,ht5⟩;have A5:=Lib.hid ha5;have T5:=Lib.hid (T0.out.trans ht5);have P5:=Lib.hid ((ht5.block _ Q.out.1 (fun e=>e.elim Q.out.2.2.1 Q.out.2.2.2.1) Q.out.2.1).trans Q.out.2.2.2.2);have own6:=Lib.hid (ht5.apart Q.out.1 Q.out.2.1);have hs5:=ht5.size;have HT5:=Lib.hid (HTX.out _ _ ht5);clear ha5 ht5)
 obtain⟨X2,hX2⟩:∃X2,X2=w5.drew:=⟨_,rfl⟩
 have A6:Hid (ApAt X2 ab wb v5 first (l1,l2) n ⟨s.bits++tb,st,s.win⟩):=Lib.hid (A5.out.alloc (by rw [hX2];exact Olds.drewN w5 1))
 have T6:Hid (Wrote (fun b=>b=wb∨b=ab) v v5 w X2):=Lib.hid (by rw [hX2];exact T5.out.drewN 1)
 have hs6:X1.heap.size≤X2.heap.size:=by rw [hX2];exact hs5
 have P6:Hid (X2.heap[w.heap.size]?=some (.cells #[.int .i64 x1,.int .u64 (x2:Nat)] 107 (0,0))):=Lib.hid (by rw [hX2];exact P5.out)
 have r2:X2.cell? ⟨w.heap.size,1,none⟩=some (.int .u64 (x2:Nat)):=cell_of_heap P6.out
 have z6:X2.cell? ⟨ab,3,none⟩=some (.int .u64 (l2:Nat)):=cell_of_heap A6.out.heap
 have HB2:=Lib.hid (number_any ab wb v5 first (l1,l2) n xx ⟨s.bits++tb,st,s.win⟩ X2 A6.out (by rw [hX2];exact HT5.out.olds (Olds.drewN w5 1)) h5 (by rw [List.length_append];omega) hxx hw)
 refine wp_region_still_tail 9 (by kernel_rfl) (by kernel_rfl) ?_
 simp only [List.take_succ_cons,List.take_zero,List.drop_succ_cons,List.drop_zero]
 change wpStill _ _ (World.drew _) (fun a'=>wpList _ _ _ _ a' (World.drew _)) _ _
 simp only [← hX2]
 clear hX2
 repeat still_step
 try refine wpStill_nil ?_
 go_wp2_with (go_at_call 150;refine HB2.out.mono ?_;clear HB2;rintro e w7 ⟨rfl,v7,ha7,ht7⟩;have A7:=Lib.hid ha7;have T7:=Lib.hid (T6.out.trans ht7);have P7:Hid (w7.heap[w.heap.size]?=some (.cells #[.int .i64 x1,.int .u64 (x2:Nat)] 107 (0,0))):=(Lib.hid ((ht7.block _ (Nat.lt_of_lt_of_le Q.out.1 hs6) (fun e=>e.elim Q.out.2.2.1 Q.out.2.2.2.1) own6.out).trans P6.out));clear ha7 ht7)
 have b0:w7.cell? ⟨w.heap.size,0,none⟩=some (.int .i64 x1):=cell_of_heap P7.out
 have b1:w7.cell? ⟨w.heap.size,1,none⟩=some (.int .u64 (x2:Nat)):=cell_of_heap P7.out
 have b2:w7.cell? ⟨ab,2,none⟩=some (.int .i64 l1):=cell_of_heap A7.out.heap
 have b3:w7.cell? ⟨ab,3,none⟩=some (.int .u64 (l2:Nat)):=cell_of_heap A7.out.heap
 have b5:w7.cell? ⟨ab,5,none⟩=some (.int .i64 (n:Nat)):=cell_of_heap A7.out.heap
 have f2:w7.frozen? ⟨ab,2,none⟩=false:=A7.out.frozen 2
 have f3:w7.frozen? ⟨ab,3,none⟩=false:=A7.out.frozen 3
 have f5:w7.frozen? ⟨ab,5,none⟩=false:=A7.out.frozen 5
 have hab1:¬ ab=w.heap.size:=by omega
 have hab2:¬ w.heap.size=ab:=by omega
 go_region
 go_wp2_with fail
 go_ret
 refine⟨rfl,v7,?_,?_⟩
 ·rw [HS.out]
  exact (A7.out.setLast (x1,x2) (n+1)).alloc (Olds.drewN _ 1)
 ·exact (((T7.out.setCell (p:=⟨ab,2,none⟩) (.inl (.inr rfl)) _).setCell (p:=⟨ab,3,none⟩) (.inl (.inr rfl)) _).setCell (p:=⟨ab,5,none⟩) (.inl (.inr rfl)) _).drewN 1
end Go.Proofs.YtbecggfbblnglaaGreatDoor
namespace Go.Proofs.YtbecggfbblnglaaGreatDoor
open Go Go.RowKit Go.Ix Go.Gor
theorem append_any (ab wb:Nat) (v:Value) (first l1:Int) (l2 n:Nat) (s:St) (x1:Int) (x2:Nat) (w:World) (h:ApAt w ab wb v first (l1,l2) n s) (hT:TabG w) (h5:5≤wb) (h6:5≤ab) (hl:s.bits.length≤800000) (hsp:s.step<18446744073709551616) (hw:WinOkP s.win) (hx:-9007199254740992≤x1∧x1≤9007199254740992) (hx2:x2<18446744073709551616) (hlast:0<n→(-9007199254740992≤l1∧l1≤9007199254740992)∧l2<18446744073709551616∧l1<x1) (hn:n<120) :
  Calls Tryz.prog 95 #[.pointer (some ⟨ab,0,none⟩),.agg #[.int .i64 x1,.int .u64 (x2:Nat)]] w fun e w'=>e=.returned (.int .u16 0)∧∃v',ApAt w' ab wb v' (if n=0 then x1 else first) (x1,x2) (n+1) (pushS s n (l1,l2) (x1,x2))∧Wrote (fun b=>b=wb∨b=ab) v v' w w':=by
 by_cases h0:n=0
 ·subst h0
  have:=append_first ab wb v first (l1,l2) s x1 x2 w h hl hx hx2
  rw [show pushS s 0 (l1,l2) (x1,x2)=⟨(s.bits++vbits (zz x1))++bitsOf x2 64,s.step,s.win⟩ from by
   unfold pushS firstB
   rw [if_pos rfl,List.append_assoc]]
  exact this
 ·obtain⟨k1,k2,k3⟩:=hlast (by omega)
  have:=append_more ab wb v first l1 l2 n s x1 x2 w h hT h5 h6 hl hsp hw hx k1 hx2 k2 k3 (by omega) hn
  rw [show pushS s n (l1,l2) (x1,x2)=nextS s n (l1,l2) (x1,x2) from if_neg h0,if_neg h0]
  exact this
theorem st_snoc (l:List Smp) (x:Smp):stAt (l++[x]) (l.length+1)=pushS (stAt l l.length) l.length (l.getD (l.length-1) (0,0)) x:=by
 rw [st_push (by rw [List.getElem?_append_right (Nat.le_refl _),Nat.sub_self];rfl:(l++[x])[l.length]?=some x),← st_prefix l.length (Nat.le_refl _) (List.prefix_append l [x])]
 unfold pushS
 split
 ·rfl
 ·rename_i h0
  congr 1
  rw [List.getD_eq_getElem?_getD,List.getD_eq_getElem?_getD,List.getElem?_append_left (by omega)]
theorem Wrote.below {X:Nat→Prop}{v v':Value}{w w':World}{B:Nat}(h:Wrote X v v' w w') (hX:∀b,X b→B≤b) (hv:∀g,v.ownBlock=some g→B≤g) (hB:B≤w.heap.size):Below B w w' :=
 ⟨h.os,h.tape,h.output,h.size,fun b hb=>h.block b (by omega) (fun hx=>by have:=hX b hx;omega) (fun e=>by have:=hv b e;omega)⟩
theorem row8_none (w:World) (B:Nat):Row8 w B (.slice none 0 0) []:=World.ownsRow_nil _ _ _ _
set_option maxRecDepth 20000 in
set_option maxHeartbeats 1000000 in
theorem clone8_any {B:Nat}(v:Value) (bs:List Nat) (w:World) (h:Row8 w B v bs) (hl:bs.length≤100000000) :
  Calls Tryz.prog 181 #[v] w fun e w'=>∃u,e=.returned u∧Row8 w' w.heap.size u bs∧Below w.heap.size w w':=by
 obtain⟨i0,hi0,hz0,hz1,hz2⟩:=info_parts Tryz.info5
 obtain⟨o,c,rfl,h0⟩:=h.shape
 have hf:FlatAt w (.slice o bs.length c) bs.length (octs bs):=owns_flat h
 have Hf:=Lib.hid hf
 have Hl:=Lib.hid (octs_len bs)
 clear h hf
 cases o with
 | none =>
  obtain⟨h1,rfl⟩:=h0 rfl
  have hb:bs=[]:=List.eq_nil_of_length_eq_zero h1
  subst hb
  have hcmp:(binOp .eql 26 (.slice none 0 0) (.slice none 0 0)).run Tryz.prog w=.ok (.bool true) w:=by kernel_rfl
  go_enter Tryz.func181,Tryz.ntmps181
  go_wp2_with fail
  go_ret
  exact⟨_,rfl,row8_none _ _,Below.refl _ _⟩
 | some p =>
  clear h0
  have hnew:(w.alloc (.cells #[] 5)).ownsRow w.heap.size 5 1 (.slice (some ⟨w.heap.size,0,none⟩) 0 0) 0 []:=⟨rfl,.inr ⟨w.heap.size,0,#[],rfl,Nat.le_refl _,heap_alloc_new _ _,Nat.le_refl _,Nat.zero_le _,rfl,rfl⟩⟩
  have hS:(Instr.buildSlice 26 0 #[]).run Tryz.prog w=.ok (.slice (some ⟨w.heap.size,0,none⟩) 0 0) (w.alloc (.cells #[] 5)):=by kernel_rfl
  generalize hn:bs.length=n at *
  have Hn:=Lib.hid hn
  clear hn
  have hcmp:(binOp .eql 26 (.slice (some p) n c) (.slice none 0 0)).run Tryz.prog w=.ok (.bool false) w:=by kernel_rfl
  go_enter Tryz.func181,Tryz.ntmps181
  go_wp2_with (at_builtin;(refine wpList_append_flat rfl _ _ rfl Tryz.underlying26 size5 hi0 hz0 hz1 hz2 rfl (by decide) (by decide) w.heap.size 0 n (.slice (some ⟨w.heap.size,0,none⟩) 0 0) (.slice (some p) n c) [] (octs bs) rfl rfl hnew (by simp) (Hf.out.olds (Olds.alloc _ _)) (by rw [Hl.out];omega) one_octs (by omega) ?_;intro v1 w1 hown1 hgrow1 hat1;rw [Nat.zero_add,List.nil_append] at hown1;obtain⟨o1,c1,rfl,_⟩:=ownsRow_shape hown1;have Hown1:=Lib.hid hown1;have B1:Hid (Below w.heap.size w w1):=(Lib.hid (((Below.refl _ w).alloc (Nat.le_refl _) _).grown hgrow1 (by simp) (fun k hk=>by cases hk;exact Nat.le_refl _)));clear hown1 hgrow1 hat1))
  go_ret
  refine⟨_,rfl,?_,B1.out⟩
  unfold Row8
  rw [Hn.out]
  exact Hown1.out
set_option maxRecDepth 20000 in
set_option maxHeartbeats 1000000 in
theorem wbytes_any (wb:Nat) (v:Value) (l:List Bool) (w:World) (h:WrAt w wb v l) (hl:l.length≤1000000) :
  Calls Tryz.prog 146 #[.pointer (some ⟨wb,0,none⟩)] w fun e w'=>∃u,e=.returned u∧Row8 w' w.heap.size u (pack l)∧Below w.heap.size w w':=by
 have hc:w.cell? ⟨wb,0,none⟩=some v:=cell_of_heap h.1
 have HC:=Lib.hid (clone8_any v (pack l) w h.2 (by rw [pack_len];omega))
 clear h
 go_enter Tryz.func146,Tryz.ntmps146
 go_wp2_with (go_at_call 181;refine HC.out.mono ?_;clear HC;rintro e w2 ⟨u,rfl,h2,hb2⟩;have H2:=Lib.hid h2;have B2:=Lib.hid hb2;clear h2 hb2)
 go_ret
 exact⟨_,rfl,H2.out,B2.out⟩
set_option maxRecDepth 20000 in
set_option maxHeartbeats 2000000 in
theorem chunk_any (ab wb:Nat) (v:Value) (first l1:Int) (l2 n:Nat) (s:St) (w:World) (h:ApAt w ab wb v first (l1,l2) n s) (hl:s.bits.length≤1000000) (hn:0<n) :
  Calls Tryz.prog 94 #[.pointer (some ⟨ab,0,none⟩)] w fun e w'=>∃u,e=.returned (.agg #[.int .i64 first,.int .i64 l1,.int .i64 (n:Nat),u])∧Row8 w' w.heap.size u (pack s.bits)∧Below w.heap.size w w':=by
 obtain⟨w1,hw1⟩:∃w1,w1=w.alloc (.cells #[.int .i64 0,.int .i64 0,.int .i64 0,.slice none 0 0] 98):=⟨_,rfl⟩
 have hb1:Below w.heap.size w w1.drew:=by rw [hw1];exact below_drewN ((Below.refl _ _).alloc (Nat.le_refl _) _) 1
 have h1:ApAt w1.drew ab wb v first (l1,l2) n s:=h.alloc (Olds.of_below hb1)
 have hs1:w1.drew.heap.size=w.heap.size+1:=by rw [hw1];simp
 have hc:w1.drew.heap[w.heap.size]?=some (.cells #[.int .i64 0,.int .i64 0,.int .i64 0,.slice none 0 0] 98 (0,0)):=by rw [hw1];exact heap_alloc_new _ _
 have HB:=Lib.hid (wbytes_any wb v s.bits w1.drew h1.wr hl)
 have p0:w.cell? ⟨ab,0,none⟩=some (.pointer (some ⟨wb,0,none⟩)):=cell_of_heap h.heap
 have p1:w.cell? ⟨ab,1,none⟩=some (.int .i64 first):=cell_of_heap h.heap
 have p2:w.cell? ⟨ab,2,none⟩=some (.int .i64 l1):=cell_of_heap h.heap
 have p5:w.cell? ⟨ab,5,none⟩=some (.int .i64 (n:Nat)):=cell_of_heap h.heap
 have H0:=Lib.hid h
 have Hb1:=Lib.hid hb1
 have Hc:=Lib.hid hc
 have hlt:=h.lt
 have hnz:¬ n=0:=by omega
 have hbig:¬ ab=w.heap.size:=by omega
 clear h h1 hb1 hc
 go_enter Tryz.func94,Tryz.ntmps94
 go_wp2_with fail
 rw [← hw1]
 have HS:Hid (∀W,Below w.heap.size w W→W.cell? ⟨ab,0,none⟩=some (.pointer (some ⟨wb,0,none⟩))∧W.cell? ⟨ab,1,none⟩=some (.int .i64 first)∧W.cell? ⟨ab,2,none⟩=some (.int .i64 l1)∧W.cell? ⟨ab,5,none⟩=some (.int .i64 (n:Nat))):=Lib.hid (fun W hW=>by
  have h':=H0.out.alloc (Olds.of_below hW)
  exact⟨cell_of_heap h'.heap,cell_of_heap h'.heap,cell_of_heap h'.heap,cell_of_heap h'.heap⟩)
 clear p0 p1 p2 p5 hw1
 go_region_held_law (fun W=>W.cell? ⟨ab,0,none⟩=some (.pointer (some ⟨wb,0,none⟩))∧W.cell? ⟨ab,1,none⟩=some (.int .i64 first)∧W.cell? ⟨ab,2,none⟩=some (.int .i64 l1)∧W.cell? ⟨ab,5,none⟩=some (.int .i64 (n:Nat)))
  (first | exact HS.out _ Hb1.out | exact HS.out _ HB2.out | exact HS.out _ ((((HB2.out.setCell (Nat.le_refl _) _).setCell (Nat.le_refl _) _).setCell (Nat.le_refl _) _).setCell (Nat.le_refl _) _))
  (first
   | (go_at_call 146;refine HB.out.mono ?_;rintro e w2 ⟨u,rfl,h2,hb2⟩;obtain⟨o2,c2,rfl,_⟩:=h2.shape;have H2:=Lib.hid h2;have HB2:=Lib.hid (Hb1.out.trans (hb2.mono (by rw [hs1];omega)));have k0:w2.heap[w.heap.size]?=some (.cells #[.int .i64 0,.int .i64 0,.int .i64 0,.slice none 0 0] 98 (0,0)):=((hb2.block _ (by rw [hs1];omega)).trans Hc.out);have K0:=Lib.hid k0;obtain⟨k1,k2,k3,k4,f1,f2,f3,f4⟩:w2.cell? ⟨w.heap.size,0,none⟩=some (.int .i64 0)∧w2.cell? ⟨w.heap.size,1,none⟩=some (.int .i64 0)∧w2.cell? ⟨w.heap.size,2,none⟩=some (.int .i64 0)∧w2.cell? ⟨w.heap.size,3,none⟩=some (.slice none 0 0)∧w2.frozen? ⟨w.heap.size,0,none⟩=false∧w2.frozen? ⟨w.heap.size,1,none⟩=false∧w2.frozen? ⟨w.heap.size,2,none⟩=false∧w2.frozen? ⟨w.heap.size,3,none⟩=false:=⟨cell_of_heap k0,cell_of_heap k0,cell_of_heap k0,cell_of_heap k0,by simp [World.frozen?,k0],by simp [World.frozen?,k0],by simp [World.frozen?,k0],by simp [World.frozen?,k0]⟩;clear k0;clear h2 hb2))
 go_wp2_with fail
 have k9:((((w2.setCell ⟨w.heap.size,0,none⟩ (.int .i64 first)).setCell ⟨w.heap.size,1,none⟩ (.int .i64 l1)).setCell ⟨w.heap.size,2,none⟩ (.int .i64 (n:Nat))).setCell ⟨w.heap.size,3,none⟩ (.slice o2 (pack s.bits).length c2)).heap[w.heap.size]?=some (.cells #[.int .i64 first,.int .i64 l1,.int .i64 (n:Nat),.slice o2 (pack s.bits).length c2] 98 (0,0)):=by
  simp [World.setCell,Array.getElem?_modify,K0.out]
 have B9:Below w.heap.size w ((((w2.setCell ⟨w.heap.size,0,none⟩ (.int .i64 first)).setCell ⟨w.heap.size,1,none⟩ (.int .i64 l1)).setCell ⟨w.heap.size,2,none⟩ (.int .i64 (n:Nat))).setCell ⟨w.heap.size,3,none⟩ (.slice o2 (pack s.bits).length c2)):=(((HB2.out.setCell (Nat.le_refl _) _).setCell (Nat.le_refl _) _).setCell (Nat.le_refl _) _).setCell (Nat.le_refl _) _
 have R9:Row8 ((((w2.setCell ⟨w.heap.size,0,none⟩ (.int .i64 first)).setCell ⟨w.heap.size,1,none⟩ (.int .i64 l1)).setCell ⟨w.heap.size,2,none⟩ (.int .i64 (n:Nat))).setCell ⟨w.heap.size,3,none⟩ (.slice o2 (pack s.bits).length c2)) w.heap.size (.slice o2 (pack s.bits).length c2) (pack s.bits):=by
  have hne:(Value.slice o2 (pack s.bits).length c2).ownBlock≠some w.heap.size:=fun e=>by have:=(ownsRow_block H2.out e).1;omega
  refine Row8.other (Row8.other (Row8.other (Row8.other ?_ hne _) hne _) hne _) hne _
  exact⟨H2.out.1,H2.out.2.imp id (fun⟨g,cap,cur,a1,a2,a3⟩=>⟨g,cap,cur,a1,by omega,a3⟩)⟩
 refine bodyPost_ret (results_cell0 (p:=2) (ty:=98) (by kernel_rfl) _ _ ⟨w.heap.size,0,none⟩ _ rfl (run_load_part _ w.heap.size 0 98 [.int .i64 first,.int .i64 l1,.int .i64 (n:Nat),.slice o2 (pack s.bits).length c2] _ (fun j v hv=>by
  rw [cell_of_heap k9,Nat.zero_add]
  simpa using hv) Tryz.underlying98 rfl (by kernel_rfl))) rfl ⟨_,rfl,R9,B9⟩
theorem gnew_any (w:World):Calls Tryz.prog 93 #[] w fun e w'=>e=.returned (.pointer (some ⟨w.heap.size+1,0,none⟩))∧ApAt w' (w.heap.size+1) w.heap.size (.slice none 0 0) 0 (0,0) 0 ⟨[],0,none⟩∧Below w.heap.size w w':=by
 have HN:Hid (Calls Tryz.prog 145 #[] w fun e w'=>e=.returned (.pointer (some ⟨w.heap.size,0,none⟩))∧w'=w.alloc (.cells #[.slice none 0 0,.int .i64 0] 378)):=Lib.hid (by
  go_enter Tryz.func145,Tryz.ntmps145
  go_wp2_with fail
  go_ret
  exact⟨rfl,rfl⟩)
 go_enter Tryz.func93,Tryz.ntmps93
 go_wp2_with (go_at_call 145;refine HN.out.mono ?_;clear HN;rintro e w2 ⟨rfl,rfl⟩)
 go_ret
 refine⟨rfl,⟨?_,⟨?_,by rw [pack_nil];exact row8_none _ _⟩,by omega,fun e=>by cases e⟩,((Below.refl _ _).alloc (Nat.le_refl _) _).alloc (by simp) _⟩
 ·have h9:=heap_alloc_new (w.alloc (.cells #[.slice none 0 0,.int .i64 0] 378)) (.cells #[.pointer (some ⟨w.heap.size,0,none⟩),.int .i64 0,.int .i64 0,.int .u64 0,.int .u64 0,.int .i64 0,.int .i64 0,.int .i64 0,.bool false] 231)
  rw [World.size_alloc] at h9
  exact h9
 ·exact ((Olds.alloc _ _).2 _ (by simp)).trans (heap_alloc_new w _)
end Go.Proofs.YtbecggfbblnglaaGreatDoor
