/- Calls within the closed call known of this law, answered by the closed run. No conditions. -/
import Derived.Test.YtndjmffnlcilbaaGreatDoorKa
set_option linter.unusedSimpArgs false
set_option linter.unusedVariables false
set_option linter.deprecated false
set_option linter.unnecessarySimpa false
namespace Go.Eng.KX
open Go Go.Eng Go.RowKit Go.Ix
set_option maxRecDepth 1000000
noncomputable def rep (n:Nat) (v:Value):List Value:=Nat.rec [] (fun _ l=>v :: l) n
noncomputable def app (a b:List Value):List Value:=List.rec b (fun v _ l=>v :: l) a
noncomputable def apO (a b:List (Option AObj)):List (Option AObj):=List.rec b (fun v _ l=>v :: l) a
noncomputable def cat (a:List (List (Option AObj))):List (Option AObj):=List.rec [] (fun v _ l=>apO v l) a
noncomputable def o0:Option AObj:=some (.row ⟨(rep 2048 (.int .u8 (0)))⟩ 112 0 0 false)
noncomputable def o1:Option AObj:=some (.rest (.map #[] 0))
noncomputable def o2:Option AObj:=some (.row #[(.slice (some ⟨9,0,none⟩) 8 8),(.slice none 0 0),(.map (some 10)),(.bool false),(.int .i64 (-1)),(.int .i64 (0)),(.int .i64 (0)),(.int .i64 (0))] 61 0 0 false)
noncomputable def o3:Option AObj:=some (.row #[(.pointer (some ⟨11,0,none⟩))] 25 0 0 false)
noncomputable def o4:Option AObj:=some (.row #[(.int .i64 (2))] 3 0 0 false)
noncomputable def from0:AState:=mkS 9 (cat [[o0,o1,o2,o3,o1,o4]])
noncomputable def es0:Array MapEntry:=#[]
noncomputable def to0:AState:=from0.push (.of (.map es0 0))
theorem hS0:runA P (laidA es0 0) from0=some (.map (some (from0.next)),to0):=by kernel_rfl
theorem hg0:from0.heap.get 13=some (.rest (.map es0 0)):=by kernel_rfl
noncomputable def O0:Orc P:=⟨(noOrc P).tab,⟨47,[.map (some 13)],from0,.map (some (from0.next)),to0⟩ :: (noOrc P).mem,Orc.mem_ok (noOrc P) (ans_clone clone_exact hS0 hg0),(noOrc P).ok⟩
noncomputable def from1:AState:=from0
noncomputable def o5:Option AObj:=some (.row #[(.int .i64 (0)),(.int .i64 (0)),(.int .i64 (1)),(.int .i64 (0)),(.int .i64 (0)),(.int .i64 (0)),(.int .i64 (0)),(.int .i64 (0))] 3 0 0 false)
noncomputable def c0:List (Option AObj):=[o0,o1,o2,o3,o1,o4,o1,o5]
noncomputable def o6:Option AObj:=some (.row #[(.pointer (some ⟨11,0,none⟩)),(.int .i64 (0)),(.int .u64 (1)),(.map (some 13)),(.map (some 15)),(.slice none 0 0),(.slice (some ⟨14,0,none⟩) 1 1),(.bool false),(.slice (some ⟨16,0,none⟩) 8 8)] 69 0 0 false)
noncomputable def to1:AState:=mkS 9 (cat [c0,[o6,none]])
noncomputable def args1:List Value:=[(.pointer (some ⟨11,0,none⟩)),(.int .i64 (0)),(.int .u64 (1)),(.map (some 13)),(.slice (some ⟨14,0,none⟩) 1 1)]
noncomputable def res1:Value:=(.pointer (some ⟨17,0,none⟩))
theorem run1:runP env (O0) 3228 23 (enterF P 23 args1.toArray .normal) [] from1 [] (isSP res1 to1 [18])=true:=by kernel_rfl
noncomputable def O1:Orc P:=⟨(O0).tab,⟨23,args1,from1,res1,to1⟩ :: (O0).mem,Orc.mem_ok (O0) (ans_of_runP env (O0) mixed run1),(O0).ok⟩
noncomputable def o7:Option AObj:=some (.row #[(.pointer (some ⟨17,0,none⟩))] 30 0 0 false)
noncomputable def from2:AState:=mkS 9 (cat [c0,[o6,none,o7]])
noncomputable def c1:List (Option AObj):=[o6,none,o7,none,none,none,some (.row #[(.int .u8 (0)),(.int .u8 (0))] 5 0 0 true),none]
noncomputable def to2:AState:=mkS 9 (cat [c0,c1,[none,none,none,none]])
noncomputable def args2:List Value:=[(.map (some 13))]
noncomputable def res2:Value:=(.slice (some ⟨23,0,none⟩) 2 2)
theorem run2:runP env (O1) 3658 24 (enterF P 24 args2.toArray .normal) [] from2 [] (isSP res2 to2 [20,22,24,25,26,27,28])=true:=by kernel_rfl
noncomputable def O2:Orc P:=⟨(O1).tab,⟨24,args2,from2,res2,to2⟩ :: (O1).mem,Orc.mem_ok (O1) (ans_of_runP env (O1) mixed run2),(O1).ok⟩
noncomputable def o8:Option AObj:=some (.row #[(.slice (some ⟨23,0,none⟩) 2 2)] 34 0 0 false)
noncomputable def o9:Option AObj:=some (.row #[(.func (.func 25) #[] #[(.pointer (some ⟨19,0,none⟩)),(.pointer (some ⟨29,0,none⟩))]),(.func (.func 27) #[(.pointer (some ⟨11,0,none⟩))] #[]),(.func (.func 28) #[] #[(.pointer (some ⟨12,0,none⟩)),(.pointer (some ⟨29,0,none⟩)),(.pointer (some ⟨19,0,none⟩))]),(.func (.func 31) #[] #[(.pointer (some ⟨12,0,none⟩))]),(.func (.func 27) #[(.pointer (some ⟨11,0,none⟩))] #[])] 47 0 0 false)
noncomputable def o10:Option AObj:=some (.row ⟨(rep 256 (.int .u8 (0)))⟩ 5 0 0 false)
noncomputable def from3:AState:=mkS 9 (cat [c0,c1,[none,none,none,none,o8,o9,o10]])
noncomputable def c2:List (Option AObj):=[o0,some (.rest (.map #[⟨(.int .i64 (2)),(.int .i64 (0)),0⟩] 1)),some (.row #[(.slice (some ⟨9,0,none⟩) 8 8),(.slice (some ⟨36,0,none⟩) 1 1),(.map (some 10)),(.bool false),(.int .i64 (-1)),(.int .i64 (0)),(.int .i64 (1)),(.int .i64 (0))] 61 0 0 false),o3,o1,o4,o1,o5]
noncomputable def o11:Option AObj:=some (.row ⟨(app ([(.int .i64 (2))]) (rep 256 (.int .u8 (0))))⟩ 114 0 0 true)
noncomputable def c3:List (Option AObj):=[none,none,none,o11]
noncomputable def to3:AState:=mkS 9 (cat [c2,c1,[none,none,none,none,o8,o9,o10,none],c3])
noncomputable def args3:List Value:=[(.pointer (some ⟨11,0,none⟩)),(.int .i64 (2)),(.slice (some ⟨31,0,none⟩) 256 256)]
noncomputable def res3:Value:=(.int .u16 (0))
theorem run3:runP env (O2) 3198 29 (enterF P 29 args3.toArray .normal) [] from3 [] (isSP res3 to3 [32,33,34,35])=true:=by kernel_rfl
noncomputable def O3:Orc P:=⟨(O2).tab,⟨29,args3,from3,res3,to3⟩ :: (O2).mem,Orc.mem_ok (O2) (ans_of_runP env (O2) mixed run3),(O2).ok⟩
noncomputable def from4:AState:=mkS 9 (cat [c0,c1,[none,none,none,none,o8,o9]])
noncomputable def c4:List (Option AObj):=[none,none,none,none,o8,o9,none,none]
noncomputable def to4:AState:=mkS 9 (cat [c2,c1,c4,c3])
noncomputable def args4:List Value:=[(.pointer (some ⟨17,0,none⟩)),(.slice (some ⟨14,0,none⟩) 1 1),(.slice (some ⟨23,0,none⟩) 2 2)]
noncomputable def res4:Value:=(.int .u16 (0))
theorem run4:runP env (O3) 3222 26 (enterF P 26 args4.toArray .normal) [] from4 [] (isSP res4 to4 [31])=true:=by kernel_rfl
noncomputable def O4:Orc P:=⟨(O3).tab,⟨26,args4,from4,res4,to4⟩ :: (O3).mem,Orc.mem_ok (O3) (ans_of_runP env (O3) mixed run4),(O3).ok⟩
noncomputable def from5:AState:=to4
noncomputable def c5:List (Option AObj):=[o0,some (.rest (.map #[] 1)),some (.row #[(.slice (some ⟨9,0,none⟩) 8 8),(.slice none 0 0),(.map (some 10)),(.bool false),(.int .i64 (-1)),(.int .i64 (0)),(.int .i64 (1)),(.int .i64 (1))] 61 0 0 false),o3,o1,o4,o1,o5]
noncomputable def to5:AState:=mkS 9 (cat [c5,c1,c4,[none,none,none,o11,none,none]])
noncomputable def args5:List Value:=[(.pointer (some ⟨11,0,none⟩))]
noncomputable def res5:Value:=(.int .u16 (0))
theorem run5:runP env (O4) 3312 27 (enterF P 27 args5.toArray .normal) [] from5 [] (isSP res5 to5 [37,38])=true:=by kernel_rfl
noncomputable def O5:Orc P:=⟨(O4).tab,⟨27,args5,from5,res5,to5⟩ :: (O4).mem,Orc.mem_ok (O4) (ans_of_runP env (O4) mixed run5),(O4).ok⟩
noncomputable def o12:Option AObj:=some (.row #[(.int .u8 (66)),(.int .u8 (71)),(.int .u8 (88)),(.int .u8 (49))] 5 0 0 false)
noncomputable def o13:Option AObj:=some (.row #[(.int .u8 (1))] 5 0 0 false)
noncomputable def c6:List (Option AObj):=[none,none,none,o11,none,none,o12,o13]
noncomputable def o14:Option AObj:=some (.row #[(.int .u8 (0))] 5 0 0 false)
noncomputable def c7:List (Option AObj):=[none,o14,none,o14,none,o14,none,o14]
noncomputable def o15:Option AObj:=some (.row #[(.int .u8 (2))] 5 0 0 false)
noncomputable def c8:List (Option AObj):=[none,o14,none,o14,none,o14,none,o15]
noncomputable def from6:AState:=mkS 9 (cat [c5,c1,c4,c6,c7,c8,[none,o14,none,o14,none,o14,some (.row #[(.int .u8 (66)),(.int .u8 (71)),(.int .u8 (88)),(.int .u8 (49)),(.int .u8 (1)),(.int .u8 (0)),(.int .u8 (0)),(.int .u8 (0)),(.int .u8 (0)),(.int .u8 (0)),(.int .u8 (0)),(.int .u8 (0)),(.int .u8 (2)),(.int .u8 (0)),(.int .u8 (0)),(.int .u8 (0))] 5 0 0 true)]])
def bs6:List Nat:=[0,0]
theorem sum6:((crc bs6:Nat):Int)=4049696722:=by kernel_rfl
theorem all6:bs6.all (fun x=>decide (x<256))=true:=by kernel_rfl
theorem len6:bs6.length=2:=by kernel_rfl
theorem in6:bytesInA from6 23 0 bs6=true:=by kernel_rfl
noncomputable def O6:Orc P:=⟨(O5).tab,⟨42,[.slice (some ⟨23,0,none⟩) 2 2],from6,.int .u32 4049696722,from6⟩ :: (O5).mem,Orc.mem_ok (O5) (ans_read (sum_read len6 (by decide) (by decide) all6 sum6) in6),(O5).ok⟩
noncomputable def o16:Option AObj:=some (.row #[(.int .i64 (2)),(.int .i64 (1))] 141 0 0 false)
noncomputable def from7:AState:=mkS 9 (cat [c5,c1,c4,c6,c7,c8,[none,o14,none,o14,none,o14,none,some (.row #[(.int .u8 (210))] 5 0 0 false)],[none,some (.row #[(.int .u8 (119))] 5 0 0 false),none,some (.row #[(.int .u8 (97))] 5 0 0 false),none,some (.row #[(.int .u8 (241))] 5 0 0 false),none,o16],[some (.row #[(.int .i64 (2)),(.int .i64 (1))] 141 0 0 true),o13,none,o14,none,o16,o15,none],[o14,none,o13,none,o14,none,some (.row ⟨(app ([(.int .u8 (66)),(.int .u8 (71)),(.int .u8 (88)),(.int .u8 (49)),(.int .u8 (1)),(.int .u8 (0)),(.int .u8 (0)),(.int .u8 (0)),(.int .u8 (0)),(.int .u8 (0)),(.int .u8 (0)),(.int .u8 (0)),(.int .u8 (2)),(.int .u8 (0)),(.int .u8 (0)),(.int .u8 (0)),(.int .u8 (210)),(.int .u8 (119)),(.int .u8 (97)),(.int .u8 (241)),(.int .u8 (1)),(.int .u8 (0)),(.int .u8 (2)),(.int .u8 (0)),(.int .u8 (1))]) (rep 227 (.int .u8 (0))))⟩ 5 0 0 true)]])
def bs7:List Nat:=[66,71,88,49,1,0,0,0,0,0,0,0,2,0,0,0,210,119,97,241,1,0,2,0,1]++(List.replicate 227 0)
theorem sum7:((crc bs7:Nat):Int)=271516956:=by kernel_rfl
theorem all7:bs7.all (fun x=>decide (x<256))=true:=by kernel_rfl
theorem len7:bs7.length=252:=by kernel_rfl
theorem in7:bytesInA from7 87 0 bs7=true:=by kernel_rfl
noncomputable def O7:Orc P:=⟨(O6).tab,⟨42,[.slice (some ⟨87,0,none⟩) 252 252],from7,.int .u32 271516956,from7⟩ :: (O6).mem,Orc.mem_ok (O6) (ans_read (sum_read len7 (by decide) (by decide) all7 sum7) in7),(O6).ok⟩
noncomputable def from8:AState:=to5
noncomputable def c9:List (Option AObj):=[none,none,none,o11,none,none,none,none]
noncomputable def c10:List (Option AObj):=[none,none,none,none,none,none,none,none]
noncomputable def o17:Option AObj:=some (.row ⟨(app ([(.int .u8 (66)),(.int .u8 (71)),(.int .u8 (88)),(.int .u8 (49)),(.int .u8 (1)),(.int .u8 (0)),(.int .u8 (0)),(.int .u8 (0)),(.int .u8 (0)),(.int .u8 (0)),(.int .u8 (0)),(.int .u8 (0)),(.int .u8 (2)),(.int .u8 (0)),(.int .u8 (0)),(.int .u8 (0)),(.int .u8 (210)),(.int .u8 (119)),(.int .u8 (97)),(.int .u8 (241)),(.int .u8 (1)),(.int .u8 (0)),(.int .u8 (2)),(.int .u8 (0)),(.int .u8 (1))]) (app (rep 227 (.int .u8 (0))) ([(.int .u8 (28)),(.int .u8 (5)),(.int .u8 (47)),(.int .u8 (16))])))⟩ 5 0 0 true)
noncomputable def to8:AState:=mkS 9 (cat [c5,c1,c4,c9,c10,c10,c10,c10,c10,c10,[none,none,none,none,none,none,o17]])
noncomputable def args8:List Value:=[(.int .u64 (1)),(.slice (some ⟨23,0,none⟩) 2 2),(.slice (some ⟨14,0,none⟩) 1 1)]
noncomputable def res8:Value:=(.slice (some ⟨95,0,none⟩) 256 256)
theorem run8:runP env (O7) 5238 30 (enterF P 30 args8.toArray .normal) [] from8 [] (isSP res8 to8 [39,40,42,44,46,48,50,52,54,56,58,60,62,64,66,68,70,72,73,74,76,78,79,81,83,85,88,90,92,94])=true:=by kernel_rfl
noncomputable def O8:Orc P:=⟨(O7).tab,⟨30,args8,from8,res8,to8⟩ :: (O7).mem,Orc.mem_ok (O7) (ans_of_runP env (O7) mixed run8),(O7).ok⟩
noncomputable def from9:AState:=to8
noncomputable def c11:List (Option AObj):=[o0,some (.rest (.map #[⟨(.int .i64 (0)),(.int .i64 (0)),1⟩] 2)),some (.row #[(.slice (some ⟨9,0,none⟩) 8 8),(.slice (some ⟨100,0,none⟩) 1 1),(.map (some 10)),(.bool false),(.int .i64 (-1)),(.int .i64 (0)),(.int .i64 (2)),(.int .i64 (1))] 61 0 0 false),o3,o1,o4,o1,o5]
noncomputable def c12:List (Option AObj):=[none,none,none,none,none,none,o17,none]
noncomputable def o18:Option AObj:=some (.row ⟨(app ([(.int .i64 (0)),(.int .u8 (66)),(.int .u8 (71)),(.int .u8 (88)),(.int .u8 (49)),(.int .u8 (1)),(.int .u8 (0)),(.int .u8 (0)),(.int .u8 (0)),(.int .u8 (0)),(.int .u8 (0)),(.int .u8 (0)),(.int .u8 (0)),(.int .u8 (2)),(.int .u8 (0)),(.int .u8 (0)),(.int .u8 (0)),(.int .u8 (210)),(.int .u8 (119)),(.int .u8 (97)),(.int .u8 (241)),(.int .u8 (1)),(.int .u8 (0)),(.int .u8 (2)),(.int .u8 (0)),(.int .u8 (1))]) (app (rep 227 (.int .u8 (0))) ([(.int .u8 (28)),(.int .u8 (5)),(.int .u8 (47)),(.int .u8 (16))])))⟩ 114 0 0 true)
noncomputable def to9:AState:=mkS 9 (cat [c11,c1,c4,c9,c10,c10,c10,c10,c10,c10,c12,[none,none,none,o18]])
noncomputable def args9:List Value:=[(.pointer (some ⟨11,0,none⟩)),(.int .i64 (0)),(.slice (some ⟨95,0,none⟩) 256 256)]
noncomputable def res9:Value:=(.int .u16 (0))
theorem run9:runP env (O8) 3198 29 (enterF P 29 args9.toArray .normal) [] from9 [] (isSP res9 to9 [96,97,98,99])=true:=by kernel_rfl
noncomputable def O9:Orc P:=⟨(O8).tab,⟨29,args9,from9,res9,to9⟩ :: (O8).mem,Orc.mem_ok (O8) (ans_of_runP env (O8) mixed run9),(O8).ok⟩
noncomputable def from10:AState:=mkS 9 (cat [c11,c1,c4,c9,c10,c10,c10,c10,c10,c10,c12,[none,none,none,o18,o10]])
noncomputable def c13:List (Option AObj):=[none,none,none,none,o10,none,none,none]
noncomputable def o19:Option AObj:=some (.row ⟨(app ([(.int .i64 (0)),(.int .u8 (66)),(.int .u8 (71)),(.int .u8 (88)),(.int .u8 (49)),(.int .u8 (1)),(.int .u8 (0)),(.int .u8 (0)),(.int .u8 (0)),(.int .u8 (0)),(.int .u8 (0)),(.int .u8 (0)),(.int .u8 (0)),(.int .u8 (2)),(.int .u8 (0)),(.int .u8 (0)),(.int .u8 (0)),(.int .u8 (210)),(.int .u8 (119)),(.int .u8 (97)),(.int .u8 (241)),(.int .u8 (1)),(.int .u8 (0)),(.int .u8 (2)),(.int .u8 (0)),(.int .u8 (1))]) (app (rep 227 (.int .u8 (0))) (app ([(.int .u8 (28)),(.int .u8 (5)),(.int .u8 (47)),(.int .u8 (16)),(.int .i64 (1))]) (rep 256 (.int .u8 (0))))))⟩ 114 0 0 true)
noncomputable def to10:AState:=mkS 9 (cat [[o0,some (.rest (.map #[⟨(.int .i64 (0)),(.int .i64 (0)),1⟩,⟨(.int .i64 (1)),(.int .i64 (1)),2⟩] 3)),some (.row #[(.slice (some ⟨9,0,none⟩) 8 8),(.slice (some ⟨106,0,none⟩) 2 2),(.map (some 10)),(.bool false),(.int .i64 (-1)),(.int .i64 (0)),(.int .i64 (3)),(.int .i64 (1))] 61 0 0 false),o3,o1,o4,o1,o5],c1,c4,c9,c10,c10,c10,c10,c10,c10,c12,c13,[none,o19]])
noncomputable def args10:List Value:=[(.pointer (some ⟨11,0,none⟩)),(.int .i64 (1)),(.slice (some ⟨101,0,none⟩) 256 256)]
noncomputable def res10:Value:=(.int .u16 (0))
theorem run10:runP env (O9) 3198 29 (enterF P 29 args10.toArray .normal) [] from10 [] (isSP res10 to10 [102,103,104,105])=true:=by kernel_rfl
noncomputable def O10:Orc P:=⟨(O9).tab,⟨29,args10,from10,res10,to10⟩ :: (O9).mem,Orc.mem_ok (O9) (ans_of_runP env (O9) mixed run10),(O9).ok⟩
noncomputable def from11:AState:=to10
noncomputable def o20:Option AObj:=some (.row ⟨(app ([(.int .u8 (66)),(.int .u8 (71)),(.int .u8 (88)),(.int .u8 (49)),(.int .u8 (1)),(.int .u8 (0)),(.int .u8 (0)),(.int .u8 (0)),(.int .u8 (0)),(.int .u8 (0)),(.int .u8 (0)),(.int .u8 (0)),(.int .u8 (2)),(.int .u8 (0)),(.int .u8 (0)),(.int .u8 (0)),(.int .u8 (210)),(.int .u8 (119)),(.int .u8 (97)),(.int .u8 (241)),(.int .u8 (1)),(.int .u8 (0)),(.int .u8 (2)),(.int .u8 (0)),(.int .u8 (1))]) (app (rep 227 (.int .u8 (0))) (app ([(.int .u8 (28)),(.int .u8 (5)),(.int .u8 (47)),(.int .u8 (16))]) (rep 1792 (.int .u8 (0))))))⟩ 112 0 0 false)
noncomputable def o21:Option AObj:=some (.rest (.map #[] 3))
noncomputable def o22:Option AObj:=some (.row #[(.slice (some ⟨9,0,none⟩) 8 8),(.slice none 0 0),(.map (some 10)),(.bool false),(.int .i64 (-1)),(.int .i64 (0)),(.int .i64 (3)),(.int .i64 (2))] 61 0 0 false)
noncomputable def to11:AState:=mkS 9 (cat [[o20,o21,o22,o3,o1,o4,o1,o5],c1,c4,c9,c10,c10,c10,c10,c10,c10,c12,c13,[none,o19,none,none,none]])
noncomputable def args11:List Value:=[(.pointer (some ⟨11,0,none⟩))]
noncomputable def res11:Value:=(.int .u16 (0))
theorem run11:runP env (O10) 3398 27 (enterF P 27 args11.toArray .normal) [] from11 [] (isSP res11 to11 [107,108,109])=true:=by kernel_rfl
noncomputable def O11:Orc P:=⟨(O10).tab,⟨27,args11,from11,res11,to11⟩ :: (O10).mem,Orc.mem_ok (O10) (ans_of_runP env (O10) mixed run11),(O10).ok⟩
noncomputable def from12:AState:=mkS 9 (cat [[o0,o1,o2]])
noncomputable def c14:List (Option AObj):=[o20,o21,o22,none,o1,o4,o1,o5]
noncomputable def c15:List (Option AObj):=[o6,none,none,none,none,none,none,none]
noncomputable def to12:AState:=mkS 9 (cat [c14,c15,c10,c10,c10,c10,c10,c10,c10,c10,c10,c10,[none,none,none,none,none]])
noncomputable def args12:List Value:=[(.pointer (some ⟨11,0,none⟩))]
noncomputable def res12:Value:=(.tuple #[(.pointer (some ⟨17,0,none⟩)),(.int .u16 (0))])
theorem run12:runP env (O11) 3562 7 (enterF P 7 args12.toArray .normal) [] from12 [] (isSP res12 to12 [12,19,23,29,30,36,95,101,106])=true:=by kernel_rfl
noncomputable def O12:Orc P:=⟨(O11).tab,⟨7,args12,from12,res12,to12⟩ :: (O11).mem,Orc.mem_ok (O11) (ans_of_runP env (O11) mixed run12),(O11).ok⟩
noncomputable def args13:List Value:=[(.int .i64 (300))]
noncomputable def res13:Value:=(.int .i64 (2))
theorem run13:runF env (O12) 3026 40 (enterF P 40 args13.toArray .normal) [] (S0 9) (isV res13)=true:=by kernel_rfl
noncomputable def O13:Orc P:=⟨(40,args13,res13) :: (O12).tab,(O12).mem,(O12).memOk,Orc.more_ok (O12) (by kernel_rfl) (calls_of_runZ env (O12) mixed gsize5 3026 40 args13 (by kernel_rfl) run13)⟩
noncomputable def o23:Option AObj:=some (.row ⟨(rep 300 (.int .u8 (0)))⟩ 5 0 0 false)
noncomputable def o24:Option AObj:=some (.row ⟨(app (rep 45 (.bool false)) (app ([(.bool true),(.bool true),(.bool false),(.bool true),(.bool true),(.bool true),(.bool true),(.bool true),(.bool true),(.bool true),(.bool true),(.bool true),(.bool true)]) (app (rep 39 (.bool false)) (app (rep 26 (.bool true)) (rep 133 (.bool false))))))⟩ 164 0 0 false)
noncomputable def c16:List (Option AObj):=[none,none,none,none,none,o23,some (.row #[(.bool false),(.int .i64 (0)),(.int .u32 (0)),(.slice none 0 0)] 91 0 0 false),o24]
noncomputable def o25:Option AObj:=some (.row #[(.int .i64 (3))] 3 0 0 false)
noncomputable def o26:Option AObj:=some (.row #[(.int .i64 (4))] 3 0 0 false)
noncomputable def o27:Option AObj:=some (.row #[(.int .i64 (3)),(.int .i64 (4))] 3 0 0 true)
noncomputable def o28:Option AObj:=some (.row #[(.int .i64 (3)),(.int .i64 (1))] 141 0 0 false)
noncomputable def o29:Option AObj:=some (.row #[(.int .i64 (3)),(.int .i64 (2))] 141 0 0 true)
noncomputable def c17:List (Option AObj):=[o24,o25,none,o26,o27,o28,o29,o10]
noncomputable def from14:AState:=mkS 9 (cat [c14,c15,c10,c10,c10,c10,c10,c10,c10,c10,c10,c10,c16,c17])
noncomputable def c18:List (Option AObj):=[o20,some (.rest (.map #[⟨(.int .i64 (3)),(.int .i64 (0)),3⟩] 4)),some (.row #[(.slice (some ⟨9,0,none⟩) 8 8),(.slice (some ⟨125,0,none⟩) 1 1),(.map (some 10)),(.bool false),(.int .i64 (-1)),(.int .i64 (0)),(.int .i64 (4)),(.int .i64 (2))] 61 0 0 false),none,o1,o4,o1,o5]
noncomputable def o30:Option AObj:=some (.row ⟨(app ([(.int .i64 (3))]) (rep 256 (.int .u8 (0))))⟩ 114 0 0 true)
noncomputable def to14:AState:=mkS 9 (cat [c18,c15,c10,c10,c10,c10,c10,c10,c10,c10,c10,c10,c16,c17,[none,none,none,none,o30]])
noncomputable def args14:List Value:=[(.pointer (some ⟨11,0,none⟩)),(.int .i64 (3)),(.slice (some ⟨120,0,none⟩) 256 256)]
noncomputable def res14:Value:=(.int .u16 (0))
theorem run14:runP env (O13) 3198 29 (enterF P 29 args14.toArray .normal) [] from14 [] (isSP res14 to14 [121,122,123,124])=true:=by kernel_rfl
noncomputable def O14:Orc P:=⟨(O13).tab,⟨29,args14,from14,res14,to14⟩ :: (O13).mem,Orc.mem_ok (O13) (ans_of_runP env (O13) mixed run14),(O13).ok⟩
noncomputable def from15:AState:=mkS 9 (cat [c18,c15,c10,c10,c10,c10,c10,c10,c10,c10,c10,c10,c16,c17,[none,none,none,none,o30,o10]])
noncomputable def o31:Option AObj:=some (.rest (.map #[⟨(.int .i64 (3)),(.int .i64 (0)),3⟩,⟨(.int .i64 (4)),(.int .i64 (1)),4⟩] 5))
noncomputable def o32:Option AObj:=some (.row #[(.slice (some ⟨9,0,none⟩) 8 8),(.slice (some ⟨131,0,none⟩) 2 2),(.map (some 10)),(.bool false),(.int .i64 (-1)),(.int .i64 (0)),(.int .i64 (5)),(.int .i64 (2))] 61 0 0 false)
noncomputable def c19:List (Option AObj):=[o20,o31,o32,none,o1,o4,o1,o5]
noncomputable def o33:Option AObj:=some (.row ⟨(app ([(.int .i64 (3))]) (app (rep 256 (.int .u8 (0))) (app ([(.int .i64 (4))]) (rep 256 (.int .u8 (0))))))⟩ 114 0 0 true)
noncomputable def c20:List (Option AObj):=[none,none,o33]
noncomputable def to15:AState:=mkS 9 (cat [c19,c15,c10,c10,c10,c10,c10,c10,c10,c10,c10,c10,c16,c17,[none,none,none,none,none,o10,none,none],c20])
noncomputable def args15:List Value:=[(.pointer (some ⟨11,0,none⟩)),(.int .i64 (4)),(.slice (some ⟨126,0,none⟩) 256 256)]
noncomputable def res15:Value:=(.int .u16 (0))
theorem run15:runP env (O14) 3198 29 (enterF P 29 args15.toArray .normal) [] from15 [] (isSP res15 to15 [127,128,129,130])=true:=by kernel_rfl
noncomputable def O15:Orc P:=⟨(O14).tab,⟨29,args15,from15,res15,to15⟩ :: (O14).mem,Orc.mem_ok (O14) (ans_of_runP env (O14) mixed run15),(O14).ok⟩
noncomputable def from16:AState:=mkS 9 (cat [c14,c15,c10,c10,c10,c10,c10,c10,c10,c10,c10,c10,c16,[o24,o25,none,o26,o27,o28,o29]])
noncomputable def to16:AState:=mkS 9 (cat [c19,c15,c10,c10,c10,c10,c10,c10,c10,c10,c10,c10,c16,[o24,o25,none,o26,o27,o28,o29,none],c10,c20])
noncomputable def args16:List Value:=[(.pointer (some ⟨17,0,none⟩)),(.slice (some ⟨117,0,none⟩) 2 2),(.slice (some ⟨110,0,none⟩) 300 300)]
noncomputable def res16:Value:=(.int .u16 (0))
theorem run16:runP env (O15) 3394 26 (enterF P 26 args16.toArray .normal) [] from16 [] (isSP res16 to16 [120,126])=true:=by kernel_rfl
noncomputable def O16:Orc P:=⟨(O15).tab,⟨26,args16,from16,res16,to16⟩ :: (O15).mem,Orc.mem_ok (O15) (ans_of_runP env (O15) mixed run16),(O15).ok⟩
noncomputable def from17:AState:=to16
def bs17:List Nat:=List.replicate 300 0
theorem sum17:((crc bs17:Nat):Int)=1683322640:=by kernel_rfl
theorem all17:bs17.all (fun x=>decide (x<256))=true:=by kernel_rfl
theorem len17:bs17.length=300:=by kernel_rfl
theorem in17:bytesInA from17 110 0 bs17=true:=by kernel_rfl
noncomputable def O17:Orc P:=⟨(O16).tab,⟨42,[.slice (some ⟨110,0,none⟩) 300 300],from17,.int .u32 1683322640,from17⟩ :: (O16).mem,Orc.mem_ok (O16) (ans_read (sum_read len17 (by decide) (by decide) all17 sum17) in17),(O16).ok⟩
noncomputable def from18:AState:=mkS 9 (cat [c14,c15,c10,c10,c10,c10,c10,c10,c10,c10,c10,c10,[none,none,none,none,none,o23]])
noncomputable def o34:Option AObj:=some (.rest (.map #[⟨(.string ⟨#[97]⟩),(.agg #[(.bool false),(.int .i64 (300)),(.int .u32 (1683322640)),(.slice (some ⟨117,0,none⟩) 2 2)]),0⟩] 1))
noncomputable def o35:Option AObj:=some (.row #[(.int .i64 (0)),(.int .i64 (0)),(.int .i64 (1)),(.int .i64 (1)),(.int .i64 (1)),(.int .i64 (0)),(.int .i64 (0)),(.int .i64 (0))] 3 0 0 false)
noncomputable def c21:List (Option AObj):=[o20,o31,o32,none,o1,o4,o34,o35]
noncomputable def c22:List (Option AObj):=[some (.row #[(.pointer (some ⟨11,0,none⟩)),(.int .i64 (0)),(.int .u64 (1)),(.map (some 13)),(.map (some 15)),(.slice (some ⟨135,0,none⟩) 1 1),(.slice (some ⟨14,0,none⟩) 1 1),(.bool false),(.slice (some ⟨16,0,none⟩) 8 8)] 69 0 0 false),none,none,none,none,none,none,none]
noncomputable def c23:List (Option AObj):=[none,none,none,none,none,o23,none,none]
noncomputable def c24:List (Option AObj):=[none,none,none,none,o27,none,none,none]
noncomputable def o36:Option AObj:=some (.row #[(.bool false),(.int .i64 (300)),(.int .u32 (1683322640)),(.slice (some ⟨117,0,none⟩) 2 2)] 91 0 0 false)
noncomputable def o37:Option AObj:=some (.row #[(.func (.func 72) #[] #[(.pointer (some ⟨132,0,none⟩)),(.pointer (some ⟨133,0,none⟩))])] 1 0 0 true)
noncomputable def to18:AState:=mkS 9 (cat [c21,c22,c10,c10,c10,c10,c10,c10,c10,c10,c10,c10,c23,c24,c10,[none,none,o33,o7,o36,none,o37]])
noncomputable def args18:List Value:=[(.pointer (some ⟨17,0,none⟩)),(.string ⟨#[97]⟩),(.slice (some ⟨110,0,none⟩) 300 300)]
noncomputable def res18:Value:=(.int .u16 (0))
theorem run18:runP env (O17) 7464 12 (enterF P 12 args18.toArray .normal) [] from18 [] (isSP res18 to18 [111,112,113,114,116,118,119,134])=true:=by kernel_rfl
noncomputable def O18:Orc P:=⟨(O17).tab,⟨12,args18,from18,res18,to18⟩ :: (O17).mem,Orc.mem_ok (O17) (ans_of_runP env (O17) mixed run18),(O17).ok⟩
noncomputable def c25:List (Option AObj):=[none,none,o33,o7,o36,none,o37,o7]
noncomputable def from19:AState:=mkS 9 (cat [c21,c22,c10,c10,c10,c10,c10,c10,c10,c10,c10,c10,c23,c24,c10,c25])
noncomputable def c26:List (Option AObj):=[none,none,none,none,none,none,none,some (.row #[(.int .u8 (1)),(.int .u8 (0)),(.int .u8 (1)),(.int .u8 (97)),(.int .u8 (0)),(.int .u8 (44)),(.int .u8 (1)),(.int .u8 (0)),(.int .u8 (0)),(.int .u8 (16)),(.int .u8 (119)),(.int .u8 (85)),(.int .u8 (100)),(.int .u8 (1)),(.int .u8 (0)),(.int .u8 (3)),(.int .u8 (0)),(.int .u8 (2)),(.int .u8 (0))] 5 0 0 true)]
noncomputable def to19:AState:=mkS 9 (cat [c21,c22,c10,c10,c10,c10,c10,c10,c10,c10,c10,c10,c23,c24,c10,c25,c10,c10,c10,c10,c10,c26])
noncomputable def args19:List Value:=[(.map (some 15))]
noncomputable def res19:Value:=(.slice (some ⟨184,0,none⟩) 19 19)
theorem run19:runP env (O18) 5282 24 (enterF P 24 args19.toArray .normal) [] from19 [] (isSP res19 to19 [137,139,141,142,143,144,145,146,147,148,149,152,154,156,158,160,162,164,166,168,170,171,172,174,176,177,179,181,183])=true:=by kernel_rfl
noncomputable def O19:Orc P:=⟨(O18).tab,⟨24,args19,from19,res19,to19⟩ :: (O18).mem,Orc.mem_ok (O18) (ans_of_runP env (O18) mixed run19),(O18).ok⟩
noncomputable def args20:List Value:=[(.int .i64 (19))]
noncomputable def res20:Value:=(.int .i64 (1))
theorem run20:runF env (O19) 3026 40 (enterF P 40 args20.toArray .normal) [] (S0 9) (isV res20)=true:=by kernel_rfl
noncomputable def O20:Orc P:=⟨(40,args20,res20) :: (O19).tab,(O19).mem,(O19).memOk,Orc.more_ok (O19) (by kernel_rfl) (calls_of_runZ env (O19) mixed gsize5 3026 40 args20 (by kernel_rfl) run20)⟩
noncomputable def o38:Option AObj:=some (.row #[(.slice (some ⟨184,0,none⟩) 19 19)] 34 0 0 false)
noncomputable def o39:Option AObj:=some (.row #[(.int .i64 (5))] 3 0 0 false)
noncomputable def o40:Option AObj:=some (.row #[(.int .i64 (5))] 3 0 0 true)
noncomputable def o41:Option AObj:=some (.row #[(.int .i64 (5)),(.int .i64 (1))] 141 0 0 false)
noncomputable def o42:Option AObj:=some (.row #[(.int .i64 (5)),(.int .i64 (1))] 141 0 0 true)
noncomputable def o43:Option AObj:=some (.row #[(.slice (some ⟨187,0,none⟩) 1 1)] 66 0 0 false)
noncomputable def o44:Option AObj:=some (.row #[(.func (.func 48) #[] #[(.pointer (some ⟨136,0,none⟩)),(.pointer (some ⟨190,0,none⟩)),(.pointer (some ⟨185,0,none⟩))]),(.func (.func 27) #[(.pointer (some ⟨11,0,none⟩))] #[]),(.func (.func 49) #[] #[(.pointer (some ⟨136,0,none⟩)),(.pointer (some ⟨185,0,none⟩)),(.pointer (some ⟨190,0,none⟩))]),(.func (.func 27) #[(.pointer (some ⟨11,0,none⟩))] #[])] 47 0 0 false)
noncomputable def o45:Option AObj:=some (.row ⟨(app ([(.int .u8 (1)),(.int .u8 (0)),(.int .u8 (1)),(.int .u8 (97)),(.int .u8 (0)),(.int .u8 (44)),(.int .u8 (1)),(.int .u8 (0)),(.int .u8 (0)),(.int .u8 (16)),(.int .u8 (119)),(.int .u8 (85)),(.int .u8 (100)),(.int .u8 (1)),(.int .u8 (0)),(.int .u8 (3)),(.int .u8 (0)),(.int .u8 (2))]) (rep 238 (.int .u8 (0))))⟩ 5 0 0 false)
noncomputable def c27:List (Option AObj):=[o38,o39,o40,o41,o42,o43,o44,o45]
noncomputable def from21:AState:=mkS 9 (cat [c21,c22,c10,c10,c10,c10,c10,c10,c10,c10,c10,c10,c23,c24,c10,c25,c10,c10,c10,c10,c10,c26,c27])
noncomputable def c28:List (Option AObj):=[o20,some (.rest (.map #[⟨(.int .i64 (3)),(.int .i64 (0)),3⟩,⟨(.int .i64 (4)),(.int .i64 (1)),4⟩,⟨(.int .i64 (5)),(.int .i64 (2)),5⟩] 6)),some (.row #[(.slice (some ⟨9,0,none⟩) 8 8),(.slice (some ⟨197,0,none⟩) 3 3),(.map (some 10)),(.bool false),(.int .i64 (-1)),(.int .i64 (0)),(.int .i64 (6)),(.int .i64 (2))] 61 0 0 false),none,o1,o4,o34,o35]
noncomputable def c29:List (Option AObj):=[none,none,none,o7,o36,none,o37,o7]
noncomputable def o46:Option AObj:=some (.row ⟨(app ([(.int .i64 (3))]) (app (rep 256 (.int .u8 (0))) (app ([(.int .i64 (4))]) (app (rep 256 (.int .u8 (0))) (app ([(.int .i64 (5)),(.int .u8 (1)),(.int .u8 (0)),(.int .u8 (1)),(.int .u8 (97)),(.int .u8 (0)),(.int .u8 (44)),(.int .u8 (1)),(.int .u8 (0)),(.int .u8 (0)),(.int .u8 (16)),(.int .u8 (119)),(.int .u8 (85)),(.int .u8 (100)),(.int .u8 (1)),(.int .u8 (0)),(.int .u8 (3)),(.int .u8 (0)),(.int .u8 (2))]) (rep 238 (.int .u8 (0))))))))⟩ 114 0 0 true)
noncomputable def c30:List (Option AObj):=[none,none,none,none,o46]
noncomputable def to21:AState:=mkS 9 (cat [c28,c22,c10,c10,c10,c10,c10,c10,c10,c10,c10,c10,c23,c24,c10,c29,c10,c10,c10,c10,c10,c26,c27,c30])
noncomputable def args21:List Value:=[(.pointer (some ⟨11,0,none⟩)),(.int .i64 (5)),(.slice (some ⟨192,0,none⟩) 256 256)]
noncomputable def res21:Value:=(.int .u16 (0))
theorem run21:runP env (O20) 3198 29 (enterF P 29 args21.toArray .normal) [] from21 [] (isSP res21 to21 [193,194,195,196])=true:=by kernel_rfl
noncomputable def O21:Orc P:=⟨(O20).tab,⟨29,args21,from21,res21,to21⟩ :: (O20).mem,Orc.mem_ok (O20) (ans_of_runP env (O20) mixed run21),(O20).ok⟩
noncomputable def from22:AState:=mkS 9 (cat [c21,c22,c10,c10,c10,c10,c10,c10,c10,c10,c10,c10,c23,c24,c10,c25,c10,c10,c10,c10,c10,c26,[o38,o39,o40,o41,o42,o43,o44]])
noncomputable def c31:List (Option AObj):=[o38,o39,o40,o41,o42,o43,o44,none]
noncomputable def to22:AState:=mkS 9 (cat [c28,c22,c10,c10,c10,c10,c10,c10,c10,c10,c10,c10,c23,c24,c10,c29,c10,c10,c10,c10,c10,c26,c31,c30])
noncomputable def args22:List Value:=[(.pointer (some ⟨17,0,none⟩)),(.slice (some ⟨187,0,none⟩) 1 1),(.slice (some ⟨184,0,none⟩) 19 19)]
noncomputable def res22:Value:=(.int .u16 (0))
theorem run22:runP env (O21) 3222 26 (enterF P 26 args22.toArray .normal) [] from22 [] (isSP res22 to22 [192])=true:=by kernel_rfl
noncomputable def O22:Orc P:=⟨(O21).tab,⟨26,args22,from22,res22,to22⟩ :: (O21).mem,Orc.mem_ok (O21) (ans_of_runP env (O21) mixed run22),(O21).ok⟩
noncomputable def from23:AState:=from22
noncomputable def to23:AState:=to22
noncomputable def args23:List Value:=[(.pointer (some ⟨136,0,none⟩)),(.pointer (some ⟨190,0,none⟩)),(.pointer (some ⟨185,0,none⟩))]
noncomputable def res23:Value:=(.int .u16 (0))
theorem run23:runP env (O22) 3026 48 (enterF P 48 args23.toArray .normal) [] from23 [] (isSP res23 to23 [])=true:=by kernel_rfl
noncomputable def O23:Orc P:=⟨(O22).tab,⟨48,args23,from23,res23,to23⟩ :: (O22).mem,Orc.mem_ok (O22) (ans_of_runP env (O22) mixed run23),(O22).ok⟩
noncomputable def from24:AState:=to22
noncomputable def o47:Option AObj:=some (.row ⟨(app ([(.int .u8 (66)),(.int .u8 (71)),(.int .u8 (88)),(.int .u8 (49)),(.int .u8 (1)),(.int .u8 (0)),(.int .u8 (0)),(.int .u8 (0)),(.int .u8 (0)),(.int .u8 (0)),(.int .u8 (0)),(.int .u8 (0)),(.int .u8 (2)),(.int .u8 (0)),(.int .u8 (0)),(.int .u8 (0)),(.int .u8 (210)),(.int .u8 (119)),(.int .u8 (97)),(.int .u8 (241)),(.int .u8 (1)),(.int .u8 (0)),(.int .u8 (2)),(.int .u8 (0)),(.int .u8 (1))]) (app (rep 227 (.int .u8 (0))) (app ([(.int .u8 (28)),(.int .u8 (5)),(.int .u8 (47)),(.int .u8 (16))]) (app (rep 1024 (.int .u8 (0))) (app ([(.int .u8 (1)),(.int .u8 (0)),(.int .u8 (1)),(.int .u8 (97)),(.int .u8 (0)),(.int .u8 (44)),(.int .u8 (1)),(.int .u8 (0)),(.int .u8 (0)),(.int .u8 (16)),(.int .u8 (119)),(.int .u8 (85)),(.int .u8 (100)),(.int .u8 (1)),(.int .u8 (0)),(.int .u8 (3)),(.int .u8 (0)),(.int .u8 (2))]) (rep 750 (.int .u8 (0))))))))⟩ 112 0 0 false)
noncomputable def c32:List (Option AObj):=[o47,some (.rest (.map #[] 6)),some (.row #[(.slice (some ⟨9,0,none⟩) 8 8),(.slice none 0 0),(.map (some 10)),(.bool false),(.int .i64 (-1)),(.int .i64 (0)),(.int .i64 (6)),(.int .i64 (3))] 61 0 0 false),none,o1,o4,o34,o35]
noncomputable def c33:List (Option AObj):=[none,none,none,none,o46,none,none,none]
noncomputable def c34:List (Option AObj):=[none]
noncomputable def to24:AState:=mkS 9 (cat [c32,c22,c10,c10,c10,c10,c10,c10,c10,c10,c10,c10,c23,c24,c10,c29,c10,c10,c10,c10,c10,c26,c31,c33,c34])
noncomputable def args24:List Value:=[(.pointer (some ⟨11,0,none⟩))]
noncomputable def res24:Value:=(.int .u16 (0))
theorem run24:runP env (O23) 3484 27 (enterF P 27 args24.toArray .normal) [] from24 [] (isSP res24 to24 [198,199,200,201])=true:=by kernel_rfl
noncomputable def O24:Orc P:=⟨(O23).tab,⟨27,args24,from24,res24,to24⟩ :: (O23).mem,Orc.mem_ok (O23) (ans_of_runP env (O23) mixed run24),(O23).ok⟩
noncomputable def c35:List (Option AObj):=[none,o12,o15,none,o14,none,o14,none]
noncomputable def c36:List (Option AObj):=[o14,none,o14,none,o14,none,o14,none]
noncomputable def c37:List (Option AObj):=[o14,none,some (.row #[(.int .u8 (19))] 5 0 0 false),none,o14,none,o14,none]
noncomputable def c38:List (Option AObj):=[o14,some (.row #[(.int .u8 (66)),(.int .u8 (71)),(.int .u8 (88)),(.int .u8 (49)),(.int .u8 (2)),(.int .u8 (0)),(.int .u8 (0)),(.int .u8 (0)),(.int .u8 (0)),(.int .u8 (0)),(.int .u8 (0)),(.int .u8 (0)),(.int .u8 (19)),(.int .u8 (0)),(.int .u8 (0)),(.int .u8 (0))] 5 0 0 true)]
noncomputable def from25:AState:=mkS 9 (cat [c32,c22,c10,c10,c10,c10,c10,c10,c10,c10,c10,c10,c23,c24,c10,c29,c10,c10,c10,c10,c10,c26,c31,c33,c35,c36,c37,c38])
def bs25:List Nat:=[1,0,1,97,0,44,1,0,0,16,119,85,100,1,0,3,0,2,0]
theorem sum25:((crc bs25:Nat):Int)=84120723:=by kernel_rfl
theorem all25:bs25.all (fun x=>decide (x<256))=true:=by kernel_rfl
theorem len25:bs25.length=19:=by kernel_rfl
theorem in25:bytesInA from25 184 0 bs25=true:=by kernel_rfl
noncomputable def O25:Orc P:=⟨(O24).tab,⟨42,[.slice (some ⟨184,0,none⟩) 19 19],from25,.int .u32 84120723,from25⟩ :: (O24).mem,Orc.mem_ok (O24) (ans_read (sum_read len25 (by decide) (by decide) all25 sum25) in25),(O24).ok⟩
noncomputable def c39:List (Option AObj):=[o14,none,some (.row #[(.int .u8 (147))] 5 0 0 false),none,some (.row #[(.int .u8 (148))] 5 0 0 false),none,some (.row #[(.int .u8 (3))] 5 0 0 false),none]
noncomputable def o48:Option AObj:=some (.row #[(.int .u8 (5))] 5 0 0 false)
noncomputable def c40:List (Option AObj):=[o48,none,o41,o42,o13,none,o14,none]
noncomputable def c41:List (Option AObj):=[o41,o48,none,o14,none,o13,none,o14]
noncomputable def c42:List (Option AObj):=[none,some (.row ⟨(app ([(.int .u8 (66)),(.int .u8 (71)),(.int .u8 (88)),(.int .u8 (49)),(.int .u8 (2)),(.int .u8 (0)),(.int .u8 (0)),(.int .u8 (0)),(.int .u8 (0)),(.int .u8 (0)),(.int .u8 (0)),(.int .u8 (0)),(.int .u8 (19)),(.int .u8 (0)),(.int .u8 (0)),(.int .u8 (0)),(.int .u8 (147)),(.int .u8 (148)),(.int .u8 (3)),(.int .u8 (5)),(.int .u8 (1)),(.int .u8 (0)),(.int .u8 (5)),(.int .u8 (0)),(.int .u8 (1))]) (rep 227 (.int .u8 (0))))⟩ 5 0 0 true)]
noncomputable def from26:AState:=mkS 9 (cat [c32,c22,c10,c10,c10,c10,c10,c10,c10,c10,c10,c10,c23,c24,c10,c29,c10,c10,c10,c10,c10,c26,c31,c33,c35,c36,c37,c39,c40,c41,c42])
def bs26:List Nat:=[66,71,88,49,2,0,0,0,0,0,0,0,19,0,0,0,147,148,3,5,1,0,5,0,1]++(List.replicate 227 0)
theorem sum26:((crc bs26:Nat):Int)=335659266:=by kernel_rfl
theorem all26:bs26.all (fun x=>decide (x<256))=true:=by kernel_rfl
theorem len26:bs26.length=252:=by kernel_rfl
theorem in26:bytesInA from26 250 0 bs26=true:=by kernel_rfl
noncomputable def O26:Orc P:=⟨(O25).tab,⟨42,[.slice (some ⟨250,0,none⟩) 252 252],from26,.int .u32 335659266,from26⟩ :: (O25).mem,Orc.mem_ok (O25) (ans_read (sum_read len26 (by decide) (by decide) all26 sum26) in26),(O25).ok⟩
noncomputable def from27:AState:=to24
noncomputable def o49:Option AObj:=some (.row ⟨(app ([(.int .u8 (66)),(.int .u8 (71)),(.int .u8 (88)),(.int .u8 (49)),(.int .u8 (2)),(.int .u8 (0)),(.int .u8 (0)),(.int .u8 (0)),(.int .u8 (0)),(.int .u8 (0)),(.int .u8 (0)),(.int .u8 (0)),(.int .u8 (19)),(.int .u8 (0)),(.int .u8 (0)),(.int .u8 (0)),(.int .u8 (147)),(.int .u8 (148)),(.int .u8 (3)),(.int .u8 (5)),(.int .u8 (1)),(.int .u8 (0)),(.int .u8 (5)),(.int .u8 (0)),(.int .u8 (1))]) (app (rep 227 (.int .u8 (0))) ([(.int .u8 (2)),(.int .u8 (193)),(.int .u8 (1)),(.int .u8 (20))])))⟩ 5 0 0 true)
noncomputable def c43:List (Option AObj):=[none,o49]
noncomputable def to27:AState:=mkS 9 (cat [c32,c22,c10,c10,c10,c10,c10,c10,c10,c10,c10,c10,c23,c24,c10,c29,c10,c10,c10,c10,c10,c26,c31,c33,c10,c10,c10,c10,c10,c10,c10,c43])
noncomputable def args27:List Value:=[(.int .u64 (2)),(.slice (some ⟨184,0,none⟩) 19 19),(.slice (some ⟨187,0,none⟩) 1 1)]
noncomputable def res27:Value:=(.slice (some ⟨258,0,none⟩) 256 256)
theorem run27:runP env (O26) 5238 30 (enterF P 30 args27.toArray .normal) [] from27 [] (isSP res27 to27 [202,203,205,207,209,211,213,215,217,219,221,223,225,227,229,231,233,235,236,237,239,241,242,244,246,248,251,253,255,257])=true:=by kernel_rfl
noncomputable def O27:Orc P:=⟨(O26).tab,⟨30,args27,from27,res27,to27⟩ :: (O26).mem,Orc.mem_ok (O26) (ans_of_runP env (O26) mixed run27),(O26).ok⟩
noncomputable def from28:AState:=to27
noncomputable def c44:List (Option AObj):=[o47,some (.rest (.map #[⟨(.int .i64 (1)),(.int .i64 (0)),6⟩] 7)),some (.row #[(.slice (some ⟨9,0,none⟩) 8 8),(.slice (some ⟨263,0,none⟩) 1 1),(.map (some 10)),(.bool false),(.int .i64 (-1)),(.int .i64 (0)),(.int .i64 (7)),(.int .i64 (3))] 61 0 0 false),none,o1,o4,o34,o35]
noncomputable def o50:Option AObj:=some (.row ⟨(app ([(.int .i64 (1)),(.int .u8 (66)),(.int .u8 (71)),(.int .u8 (88)),(.int .u8 (49)),(.int .u8 (2)),(.int .u8 (0)),(.int .u8 (0)),(.int .u8 (0)),(.int .u8 (0)),(.int .u8 (0)),(.int .u8 (0)),(.int .u8 (0)),(.int .u8 (19)),(.int .u8 (0)),(.int .u8 (0)),(.int .u8 (0)),(.int .u8 (147)),(.int .u8 (148)),(.int .u8 (3)),(.int .u8 (5)),(.int .u8 (1)),(.int .u8 (0)),(.int .u8 (5)),(.int .u8 (0)),(.int .u8 (1))]) (app (rep 227 (.int .u8 (0))) ([(.int .u8 (2)),(.int .u8 (193)),(.int .u8 (1)),(.int .u8 (20))])))⟩ 114 0 0 true)
noncomputable def c45:List (Option AObj):=[none,o49,none,none,none,none,o50]
noncomputable def to28:AState:=mkS 9 (cat [c44,c22,c10,c10,c10,c10,c10,c10,c10,c10,c10,c10,c23,c24,c10,c29,c10,c10,c10,c10,c10,c26,c31,c33,c10,c10,c10,c10,c10,c10,c10,c45])
noncomputable def args28:List Value:=[(.pointer (some ⟨11,0,none⟩)),(.int .i64 (1)),(.slice (some ⟨258,0,none⟩) 256 256)]
noncomputable def res28:Value:=(.int .u16 (0))
theorem run28:runP env (O27) 3198 29 (enterF P 29 args28.toArray .normal) [] from28 [] (isSP res28 to28 [259,260,261,262])=true:=by kernel_rfl
noncomputable def O28:Orc P:=⟨(O27).tab,⟨29,args28,from28,res28,to28⟩ :: (O27).mem,Orc.mem_ok (O27) (ans_of_runP env (O27) mixed run28),(O27).ok⟩
noncomputable def from29:AState:=to24
noncomputable def c46:List (Option AObj):=[none,none,none,none,none,none,o50]
noncomputable def to29:AState:=mkS 9 (cat [c44,c22,c10,c10,c10,c10,c10,c10,c10,c10,c10,c10,c23,c24,c10,c29,c10,c10,c10,c10,c10,c26,c31,c33,c10,c10,c10,c10,c10,c10,c10,c46])
noncomputable def args29:List Value:=[(.pointer (some ⟨136,0,none⟩)),(.pointer (some ⟨185,0,none⟩)),(.pointer (some ⟨190,0,none⟩))]
noncomputable def res29:Value:=(.int .u16 (0))
theorem run29:runP env (O28) 3020 49 (enterF P 49 args29.toArray .normal) [] from29 [] (isSP res29 to29 [258])=true:=by kernel_rfl
noncomputable def O29:Orc P:=⟨(O28).tab,⟨49,args29,from29,res29,to29⟩ :: (O28).mem,Orc.mem_ok (O28) (ans_of_runP env (O28) mixed run29),(O28).ok⟩
noncomputable def from30:AState:=to29
noncomputable def c47:List (Option AObj):=[some (.row ⟨(app ([(.int .u8 (66)),(.int .u8 (71)),(.int .u8 (88)),(.int .u8 (49)),(.int .u8 (1)),(.int .u8 (0)),(.int .u8 (0)),(.int .u8 (0)),(.int .u8 (0)),(.int .u8 (0)),(.int .u8 (0)),(.int .u8 (0)),(.int .u8 (2)),(.int .u8 (0)),(.int .u8 (0)),(.int .u8 (0)),(.int .u8 (210)),(.int .u8 (119)),(.int .u8 (97)),(.int .u8 (241)),(.int .u8 (1)),(.int .u8 (0)),(.int .u8 (2)),(.int .u8 (0)),(.int .u8 (1))]) (app (rep 227 (.int .u8 (0))) (app ([(.int .u8 (28)),(.int .u8 (5)),(.int .u8 (47)),(.int .u8 (16)),(.int .u8 (66)),(.int .u8 (71)),(.int .u8 (88)),(.int .u8 (49)),(.int .u8 (2)),(.int .u8 (0)),(.int .u8 (0)),(.int .u8 (0)),(.int .u8 (0)),(.int .u8 (0)),(.int .u8 (0)),(.int .u8 (0)),(.int .u8 (19)),(.int .u8 (0)),(.int .u8 (0)),(.int .u8 (0)),(.int .u8 (147)),(.int .u8 (148)),(.int .u8 (3)),(.int .u8 (5)),(.int .u8 (1)),(.int .u8 (0)),(.int .u8 (5)),(.int .u8 (0)),(.int .u8 (1))]) (app (rep 227 (.int .u8 (0))) (app ([(.int .u8 (2)),(.int .u8 (193)),(.int .u8 (1)),(.int .u8 (20))]) (app (rep 768 (.int .u8 (0))) (app ([(.int .u8 (1)),(.int .u8 (0)),(.int .u8 (1)),(.int .u8 (97)),(.int .u8 (0)),(.int .u8 (44)),(.int .u8 (1)),(.int .u8 (0)),(.int .u8 (0)),(.int .u8 (16)),(.int .u8 (119)),(.int .u8 (85)),(.int .u8 (100)),(.int .u8 (1)),(.int .u8 (0)),(.int .u8 (3)),(.int .u8 (0)),(.int .u8 (2))]) (rep 750 (.int .u8 (0))))))))))⟩ 112 0 0 false),some (.rest (.map #[] 7)),some (.row #[(.slice (some ⟨9,0,none⟩) 8 8),(.slice none 0 0),(.map (some 10)),(.bool false),(.int .i64 (-1)),(.int .i64 (0)),(.int .i64 (7)),(.int .i64 (4))] 61 0 0 false),none,o1,o4,o34,o35]
noncomputable def c48:List (Option AObj):=[none,none,none,none,none,none,o50,none]
noncomputable def to30:AState:=mkS 9 (cat [c47,c22,c10,c10,c10,c10,c10,c10,c10,c10,c10,c10,c23,c24,c10,c29,c10,c10,c10,c10,c10,c26,c31,c33,c10,c10,c10,c10,c10,c10,c10,c48,c34])
noncomputable def args30:List Value:=[(.pointer (some ⟨11,0,none⟩))]
noncomputable def res30:Value:=(.int .u16 (0))
theorem run30:runP env (O29) 3312 27 (enterF P 27 args30.toArray .normal) [] from30 [] (isSP res30 to30 [264,265])=true:=by kernel_rfl
noncomputable def O30:Orc P:=⟨(O29).tab,⟨27,args30,from30,res30,to30⟩ :: (O29).mem,Orc.mem_ok (O29) (ans_of_runP env (O29) mixed run30),(O29).ok⟩
noncomputable def from31:AState:=to30
noncomputable def es31:Array MapEntry:=#[⟨(.string ⟨#[97]⟩),(.agg #[(.bool false),(.int .i64 (300)),(.int .u32 (1683322640)),(.slice (some ⟨117,0,none⟩) 2 2)]),0⟩]
noncomputable def to31:AState:=from31.push (.of (.map es31 1))
theorem hS31:runA P (laidA es31 1) from31=some (.map (some (from31.next)),to31):=by kernel_rfl
theorem hg31:from31.heap.get 15=some (.rest (.map es31 1)):=by kernel_rfl
noncomputable def O31:Orc P:=⟨(O30).tab,⟨47,[.map (some 15)],from31,.map (some (from31.next)),to31⟩ :: (O30).mem,Orc.mem_ok (O30) (ans_clone clone_exact hS31 hg31),(O30).ok⟩
noncomputable def from32:AState:=to30
noncomputable def o51:Option AObj:=some (.row #[(.int .i64 (0)),(.int .i64 (0)),(.int .i64 (0)),(.int .i64 (1)),(.int .i64 (1)),(.int .i64 (1)),(.int .i64 (0)),(.int .i64 (0))] 3 0 0 false)
noncomputable def o52:Option AObj:=some (.row #[(.pointer (some ⟨11,0,none⟩)),(.int .i64 (1)),(.int .u64 (2)),(.map (some 15)),(.map (some 266)),(.slice none 0 0),(.slice (some ⟨187,0,none⟩) 1 1),(.bool false),(.slice (some ⟨267,0,none⟩) 8 8)] 69 0 0 false)
noncomputable def c49:List (Option AObj):=[none,o34,o51,o52,none,none]
noncomputable def to32:AState:=mkS 9 (cat [c47,c22,c10,c10,c10,c10,c10,c10,c10,c10,c10,c10,c23,c24,c10,c29,c10,c10,c10,c10,c10,c26,c31,c33,c10,c10,c10,c10,c10,c10,c10,c48,c49])
noncomputable def args32:List Value:=[(.pointer (some ⟨11,0,none⟩)),(.int .i64 (1)),(.int .u64 (2)),(.map (some 15)),(.slice (some ⟨187,0,none⟩) 1 1)]
noncomputable def res32:Value:=(.pointer (some ⟨268,0,none⟩))
theorem run32:runP env (O31) 3446 23 (enterF P 23 args32.toArray .normal) [] from32 [] (isSP res32 to32 [269,270])=true:=by kernel_rfl
noncomputable def O32:Orc P:=⟨(O31).tab,⟨23,args32,from32,res32,to32⟩ :: (O31).mem,Orc.mem_ok (O31) (ans_of_runP env (O31) mixed run32),(O31).ok⟩
noncomputable def c50:List (Option AObj):=[o52,none,none,none,none,none,none,none]
noncomputable def from33:AState:=mkS 9 (cat [c47,c50,c10,c10,c10,c10,c10,c10,c10,c10,c10,c10,c23,c24,c10,c29,c10,c10,c10,c10,c10,c26,c31,c33,c10,c10,c10,c10,c10,c10,c10,c48,c49])
noncomputable def c51:List (Option AObj):=[none,some (.row #[(.string ⟨#[97]⟩),(.bool false),(.int .i64 (300)),(.int .i64 (1))] 56 0 0 true)]
noncomputable def to33:AState:=mkS 9 (cat [c47,c50,c10,c10,c10,c10,c10,c10,c10,c10,c10,c10,c23,c24,c10,c29,c10,c10,c10,c10,c10,c26,c31,c33,c10,c10,c10,c10,c10,c10,c10,c48,[none,o34,o51,o52,none,none,none,none],c10,c51])
noncomputable def args33:List Value:=[(.pointer (some ⟨17,0,none⟩))]
noncomputable def res33:Value:=(.slice (some ⟨282,0,none⟩) 1 1)
theorem run33:runP env (O32) 3838 20 (enterF P 20 args33.toArray .normal) [] from33 [] (isSP res33 to33 [271,272,273,274,275,276,277,278,279,280,281])=true:=by kernel_rfl
noncomputable def O33:Orc P:=⟨(O32).tab,⟨20,args33,from33,res33,to33⟩ :: (O32).mem,Orc.mem_ok (O32) (ans_of_runP env (O32) mixed run33),(O32).ok⟩
noncomputable def o53:Option AObj:=some (.row #[(.slice (some ⟨188,0,none⟩) 1 1)] 66 0 0 false)
noncomputable def o54:Option AObj:=some (.row #[(.func (.func 48) #[] #[(.pointer (some ⟨136,0,none⟩)),(.pointer (some ⟨186,0,none⟩)),(.pointer (some ⟨185,0,none⟩))]),(.func (.func 27) #[(.pointer (some ⟨11,0,none⟩))] #[]),(.func (.func 49) #[] #[(.pointer (some ⟨136,0,none⟩)),(.pointer (some ⟨185,0,none⟩)),(.pointer (some ⟨186,0,none⟩))]),(.func (.func 27) #[(.pointer (some ⟨11,0,none⟩))] #[])] 47 0 0 false)
noncomputable def c52:List (Option AObj):=[o38,o53,o39,o40,o41,o42,o54,o45]
noncomputable def from34:AState:=mkS 9 (cat [c21,c22,c10,c10,c10,c10,c10,c10,c10,c10,c10,c10,c23,c24,c10,c25,c10,c10,c10,c10,c10,c26,c52])
noncomputable def to34:AState:=mkS 9 (cat [c28,c22,c10,c10,c10,c10,c10,c10,c10,c10,c10,c10,c23,c24,c10,c29,c10,c10,c10,c10,c10,c26,c52,c30])
noncomputable def args34:List Value:=[(.pointer (some ⟨11,0,none⟩)),(.int .i64 (5)),(.slice (some ⟨192,0,none⟩) 256 256)]
noncomputable def res34:Value:=(.int .u16 (0))
theorem run34:runP env (O33) 3198 29 (enterF P 29 args34.toArray .normal) [] from34 [] (isSP res34 to34 [193,194,195,196])=true:=by kernel_rfl
noncomputable def O34:Orc P:=⟨(O33).tab,⟨29,args34,from34,res34,to34⟩ :: (O33).mem,Orc.mem_ok (O33) (ans_of_runP env (O33) mixed run34),(O33).ok⟩
noncomputable def from35:AState:=mkS 9 (cat [c21,c22,c10,c10,c10,c10,c10,c10,c10,c10,c10,c10,c23,c24,c10,c25,c10,c10,c10,c10,c10,c26,[o38,o53,o39,o40,o41,o42,o54]])
noncomputable def c53:List (Option AObj):=[o38,o53,o39,o40,o41,o42,o54,none]
noncomputable def to35:AState:=mkS 9 (cat [c28,c22,c10,c10,c10,c10,c10,c10,c10,c10,c10,c10,c23,c24,c10,c29,c10,c10,c10,c10,c10,c26,c53,c30])
noncomputable def args35:List Value:=[(.pointer (some ⟨17,0,none⟩)),(.slice (some ⟨188,0,none⟩) 1 1),(.slice (some ⟨184,0,none⟩) 19 19)]
noncomputable def res35:Value:=(.int .u16 (0))
theorem run35:runP env (O34) 3222 26 (enterF P 26 args35.toArray .normal) [] from35 [] (isSP res35 to35 [192])=true:=by kernel_rfl
noncomputable def O35:Orc P:=⟨(O34).tab,⟨26,args35,from35,res35,to35⟩ :: (O34).mem,Orc.mem_ok (O34) (ans_of_runP env (O34) mixed run35),(O34).ok⟩
noncomputable def from36:AState:=from35
noncomputable def to36:AState:=to35
noncomputable def args36:List Value:=[(.pointer (some ⟨136,0,none⟩)),(.pointer (some ⟨186,0,none⟩)),(.pointer (some ⟨185,0,none⟩))]
noncomputable def res36:Value:=(.int .u16 (0))
theorem run36:runP env (O35) 3026 48 (enterF P 48 args36.toArray .normal) [] from36 [] (isSP res36 to36 [])=true:=by kernel_rfl
noncomputable def O36:Orc P:=⟨(O35).tab,⟨48,args36,from36,res36,to36⟩ :: (O35).mem,Orc.mem_ok (O35) (ans_of_runP env (O35) mixed run36),(O35).ok⟩
noncomputable def from37:AState:=to35
noncomputable def to37:AState:=mkS 9 (cat [c32,c22,c10,c10,c10,c10,c10,c10,c10,c10,c10,c10,c23,c24,c10,c29,c10,c10,c10,c10,c10,c26,c53,c33,c34])
noncomputable def args37:List Value:=[(.pointer (some ⟨11,0,none⟩))]
noncomputable def res37:Value:=(.int .u16 (0))
theorem run37:runP env (O36) 3484 27 (enterF P 27 args37.toArray .normal) [] from37 [] (isSP res37 to37 [198,199,200,201])=true:=by kernel_rfl
noncomputable def O37:Orc P:=⟨(O36).tab,⟨27,args37,from37,res37,to37⟩ :: (O36).mem,Orc.mem_ok (O36) (ans_of_runP env (O36) mixed run37),(O36).ok⟩
noncomputable def from38:AState:=mkS 9 (cat [c32,c22,c10,c10,c10,c10,c10,c10,c10,c10,c10,c10,c23,c24,c10,c29,c10,c10,c10,c10,c10,c26,c53,c33,c35,c36,c37,c38])
def bs38:List Nat:=[1,0,1,97,0,44,1,0,0,16,119,85,100,1,0,3,0,2,0]
theorem sum38:((crc bs38:Nat):Int)=84120723:=by kernel_rfl
theorem all38:bs38.all (fun x=>decide (x<256))=true:=by kernel_rfl
theorem len38:bs38.length=19:=by kernel_rfl
theorem in38:bytesInA from38 184 0 bs38=true:=by kernel_rfl
noncomputable def O38:Orc P:=⟨(O37).tab,⟨42,[.slice (some ⟨184,0,none⟩) 19 19],from38,.int .u32 84120723,from38⟩ :: (O37).mem,Orc.mem_ok (O37) (ans_read (sum_read len38 (by decide) (by decide) all38 sum38) in38),(O37).ok⟩
noncomputable def from39:AState:=mkS 9 (cat [c32,c22,c10,c10,c10,c10,c10,c10,c10,c10,c10,c10,c23,c24,c10,c29,c10,c10,c10,c10,c10,c26,c53,c33,c35,c36,c37,c39,c40,c41,c42])
def bs39:List Nat:=[66,71,88,49,2,0,0,0,0,0,0,0,19,0,0,0,147,148,3,5,1,0,5,0,1]++(List.replicate 227 0)
theorem sum39:((crc bs39:Nat):Int)=335659266:=by kernel_rfl
theorem all39:bs39.all (fun x=>decide (x<256))=true:=by kernel_rfl
theorem len39:bs39.length=252:=by kernel_rfl
theorem in39:bytesInA from39 250 0 bs39=true:=by kernel_rfl
noncomputable def O39:Orc P:=⟨(O38).tab,⟨42,[.slice (some ⟨250,0,none⟩) 252 252],from39,.int .u32 335659266,from39⟩ :: (O38).mem,Orc.mem_ok (O38) (ans_read (sum_read len39 (by decide) (by decide) all39 sum39) in39),(O38).ok⟩
noncomputable def from40:AState:=to37
noncomputable def to40:AState:=mkS 9 (cat [c32,c22,c10,c10,c10,c10,c10,c10,c10,c10,c10,c10,c23,c24,c10,c29,c10,c10,c10,c10,c10,c26,c53,c33,c10,c10,c10,c10,c10,c10,c10,c43])
noncomputable def args40:List Value:=[(.int .u64 (2)),(.slice (some ⟨184,0,none⟩) 19 19),(.slice (some ⟨188,0,none⟩) 1 1)]
noncomputable def res40:Value:=(.slice (some ⟨258,0,none⟩) 256 256)
theorem run40:runP env (O39) 5238 30 (enterF P 30 args40.toArray .normal) [] from40 [] (isSP res40 to40 [202,203,205,207,209,211,213,215,217,219,221,223,225,227,229,231,233,235,236,237,239,241,242,244,246,248,251,253,255,257])=true:=by kernel_rfl
noncomputable def O40:Orc P:=⟨(O39).tab,⟨30,args40,from40,res40,to40⟩ :: (O39).mem,Orc.mem_ok (O39) (ans_of_runP env (O39) mixed run40),(O39).ok⟩
noncomputable def from41:AState:=to40
noncomputable def to41:AState:=mkS 9 (cat [c44,c22,c10,c10,c10,c10,c10,c10,c10,c10,c10,c10,c23,c24,c10,c29,c10,c10,c10,c10,c10,c26,c53,c33,c10,c10,c10,c10,c10,c10,c10,c45])
noncomputable def args41:List Value:=[(.pointer (some ⟨11,0,none⟩)),(.int .i64 (1)),(.slice (some ⟨258,0,none⟩) 256 256)]
noncomputable def res41:Value:=(.int .u16 (0))
theorem run41:runP env (O40) 3198 29 (enterF P 29 args41.toArray .normal) [] from41 [] (isSP res41 to41 [259,260,261,262])=true:=by kernel_rfl
noncomputable def O41:Orc P:=⟨(O40).tab,⟨29,args41,from41,res41,to41⟩ :: (O40).mem,Orc.mem_ok (O40) (ans_of_runP env (O40) mixed run41),(O40).ok⟩
noncomputable def from42:AState:=to37
noncomputable def to42:AState:=mkS 9 (cat [c44,c22,c10,c10,c10,c10,c10,c10,c10,c10,c10,c10,c23,c24,c10,c29,c10,c10,c10,c10,c10,c26,c53,c33,c10,c10,c10,c10,c10,c10,c10,c46])
noncomputable def args42:List Value:=[(.pointer (some ⟨136,0,none⟩)),(.pointer (some ⟨185,0,none⟩)),(.pointer (some ⟨186,0,none⟩))]
noncomputable def res42:Value:=(.int .u16 (0))
theorem run42:runP env (O41) 3020 49 (enterF P 49 args42.toArray .normal) [] from42 [] (isSP res42 to42 [258])=true:=by kernel_rfl
noncomputable def O42:Orc P:=⟨(O41).tab,⟨49,args42,from42,res42,to42⟩ :: (O41).mem,Orc.mem_ok (O41) (ans_of_runP env (O41) mixed run42),(O41).ok⟩
noncomputable def from43:AState:=to42
noncomputable def to43:AState:=mkS 9 (cat [c47,c22,c10,c10,c10,c10,c10,c10,c10,c10,c10,c10,c23,c24,c10,c29,c10,c10,c10,c10,c10,c26,c53,c33,c10,c10,c10,c10,c10,c10,c10,c48,c34])
noncomputable def args43:List Value:=[(.pointer (some ⟨11,0,none⟩))]
noncomputable def res43:Value:=(.int .u16 (0))
theorem run43:runP env (O42) 3312 27 (enterF P 27 args43.toArray .normal) [] from43 [] (isSP res43 to43 [264,265])=true:=by kernel_rfl
noncomputable def O43:Orc P:=⟨(O42).tab,⟨27,args43,from43,res43,to43⟩ :: (O42).mem,Orc.mem_ok (O42) (ans_of_runP env (O42) mixed run43),(O42).ok⟩
noncomputable def from44:AState:=to43
noncomputable def es44:Array MapEntry:=#[⟨(.string ⟨#[97]⟩),(.agg #[(.bool false),(.int .i64 (300)),(.int .u32 (1683322640)),(.slice (some ⟨117,0,none⟩) 2 2)]),0⟩]
noncomputable def to44:AState:=from44.push (.of (.map es44 1))
theorem hS44:runA P (laidA es44 1) from44=some (.map (some (from44.next)),to44):=by kernel_rfl
theorem hg44:from44.heap.get 15=some (.rest (.map es44 1)):=by kernel_rfl
noncomputable def O44:Orc P:=⟨(O43).tab,⟨47,[.map (some 15)],from44,.map (some (from44.next)),to44⟩ :: (O43).mem,Orc.mem_ok (O43) (ans_clone clone_exact hS44 hg44),(O43).ok⟩
noncomputable def from45:AState:=to43
noncomputable def o55:Option AObj:=some (.row #[(.pointer (some ⟨11,0,none⟩)),(.int .i64 (1)),(.int .u64 (2)),(.map (some 15)),(.map (some 266)),(.slice none 0 0),(.slice (some ⟨188,0,none⟩) 1 1),(.bool false),(.slice (some ⟨267,0,none⟩) 8 8)] 69 0 0 false)
noncomputable def c54:List (Option AObj):=[none,o34,o51,o55,none,none]
noncomputable def to45:AState:=mkS 9 (cat [c47,c22,c10,c10,c10,c10,c10,c10,c10,c10,c10,c10,c23,c24,c10,c29,c10,c10,c10,c10,c10,c26,c53,c33,c10,c10,c10,c10,c10,c10,c10,c48,c54])
noncomputable def args45:List Value:=[(.pointer (some ⟨11,0,none⟩)),(.int .i64 (1)),(.int .u64 (2)),(.map (some 15)),(.slice (some ⟨188,0,none⟩) 1 1)]
noncomputable def res45:Value:=(.pointer (some ⟨268,0,none⟩))
theorem run45:runP env (O44) 3446 23 (enterF P 23 args45.toArray .normal) [] from45 [] (isSP res45 to45 [269,270])=true:=by kernel_rfl
noncomputable def O45:Orc P:=⟨(O44).tab,⟨23,args45,from45,res45,to45⟩ :: (O44).mem,Orc.mem_ok (O44) (ans_of_runP env (O44) mixed run45),(O44).ok⟩
noncomputable def c55:List (Option AObj):=[o55,none,none,none,none,none,none,none]
noncomputable def from46:AState:=mkS 9 (cat [c47,c55,c10,c10,c10,c10,c10,c10,c10,c10,c10,c10,c23,c24,c10,c29,c10,c10,c10,c10,c10,c26,c53,c33,c10,c10,c10,c10,c10,c10,c10,c48,c54])
noncomputable def to46:AState:=mkS 9 (cat [c47,c55,c10,c10,c10,c10,c10,c10,c10,c10,c10,c10,c23,c24,c10,c29,c10,c10,c10,c10,c10,c26,c53,c33,c10,c10,c10,c10,c10,c10,c10,c48,[none,o34,o51,o55,none,none,none,none],c10,c51])
noncomputable def args46:List Value:=[(.pointer (some ⟨17,0,none⟩))]
noncomputable def res46:Value:=(.slice (some ⟨282,0,none⟩) 1 1)
theorem run46:runP env (O45) 3838 20 (enterF P 20 args46.toArray .normal) [] from46 [] (isSP res46 to46 [271,272,273,274,275,276,277,278,279,280,281])=true:=by kernel_rfl
noncomputable def O46:Orc P:=⟨(O45).tab,⟨20,args46,from46,res46,to46⟩ :: (O45).mem,Orc.mem_ok (O45) (ans_of_runP env (O45) mixed run46),(O45).ok⟩
end Go.Eng.KX
