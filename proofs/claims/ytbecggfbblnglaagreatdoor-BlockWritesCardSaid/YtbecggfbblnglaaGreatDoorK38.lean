/- Closed calls of this program, answered by the closed run. Conditions: what the listed variables hold. -/
import Derived.Test.YtbecggfbblnglaaGreatDoorK37
set_option linter.unusedSimpArgs false
set_option linter.unusedVariables false
set_option linter.deprecated false
set_option linter.unnecessarySimpa false
namespace Go.Eng.KX
open Go Go.Eng Go.RowKit Go.Ix
set_option maxRecDepth 1000000
noncomputable def app (a b:List Value):List Value:=List.rec b (fun v _ l=>v :: l) a
noncomputable def apO (a b:List (Option AObj)):List (Option AObj):=List.rec b (fun v _ l=>v :: l) a
noncomputable def cat (a:List (List (Option AObj))):List (Option AObj):=List.rec [] (fun v _ l=>apO v l) a
noncomputable def o0:Option AObj:=some (.row #[(.string ⟨#[97]⟩),(.string ⟨#[49]⟩)] 80 0 0 false)
noncomputable def o1:Option AObj:=some (.row #[(.int .i64 (0)),(.int .u64 (1)),(.int .i64 (10)),(.int .u64 (2))] 107 0 0 false)
noncomputable def o2:Option AObj:=some (.row #[(.slice (some ⟨11,0,none⟩) 1 1),(.slice (some ⟨12,0,none⟩) 2 2)] 75 0 0 false)
noncomputable def o3:Option AObj:=some (.row #[(.int .i64 (0)),(.int .u64 (1))] 107 0 0 false)
noncomputable def o4:Option AObj:=some (.row #[(.int .i64 (10)),(.int .u64 (2))] 107 0 0 false)
noncomputable def o5:Option AObj:=some (.row #[(.slice none 0 0),(.int .i64 (0))] 378 0 0 false)
noncomputable def from0:AState:=mkS 11 (cat [[o0,o1,o2,o2,o3,o4,o5,some (.row #[(.pointer (some ⟨17,0,none⟩)),(.int .i64 (0)),(.int .i64 (0)),(.int .u64 (0)),(.int .u64 (0)),(.int .i64 (0)),(.int .i64 (0)),(.int .i64 (0)),(.bool false)] 231 0 0 false)],[o3]])
noncomputable def c0:List (Option AObj):=[o0,o1,o2,o2,o3,o4,some (.row #[(.slice (some ⟨38,0,none⟩) 9 9),(.int .i64 (72))] 378 0 0 false),some (.row #[(.pointer (some ⟨17,0,none⟩)),(.int .i64 (0)),(.int .i64 (0)),(.int .u64 (1)),(.int .u64 (0)),(.int .i64 (1)),(.int .i64 (0)),(.int .i64 (0)),(.bool false)] 231 0 0 false)]
noncomputable def c1:List (Option AObj):=[o3,none,none,none,none,none,none,none]
noncomputable def c2:List (Option AObj):=[none,none,none,none,none,none,none,none]
noncomputable def o6:Option AObj:=some (.row #[(.int .u8 (0)),(.int .u8 (0)),(.int .u8 (0)),(.int .u8 (0)),(.int .u8 (0)),(.int .u8 (0)),(.int .u8 (0)),(.int .u8 (0)),(.int .u8 (1))] 5 0 0 true)
noncomputable def to0:AState:=mkS 11 (cat [c0,c1,c2,[none,none,none,o6]])
noncomputable def args0:List Value:=[(.pointer (some ⟨18,0,none⟩)),(.agg #[(.int .i64 (0)),(.int .u64 (1))])]
noncomputable def res0:Value:=(.int .u16 (0))
theorem run0:runP env (noOrcG P goodK) 11784 95 (enterF P 95 args0.toArray .normal) [] from0 [] (isSP res0 to0 [20,21,23,25,27,29,31,33,35,37])=true:=by kernel_rfl
noncomputable def O0:Orc P:=⟨goodK,(noOrcG P goodK).tab,⟨95,args0,from0,res0,to0⟩ :: (noOrcG P goodK).mem,Orc.mem_ok (noOrcG P goodK) (ans_of_runP env (noOrcG P goodK) mixed run0),(noOrcG P goodK).ok⟩
noncomputable def args1:List Value:=[(.int .u64 (3))]
noncomputable def res1:Value:=(.int .i64 (2))
theorem run1:runF env (O0) 3078 215 (enterF P 215 args1.toArray .normal) [] (S0 11) (isV res1)=true:=by kernel_rfl
noncomputable def O1:Orc P:=⟨goodK,(215,args1,res1) :: (O0).tab,(O0).mem,(O0).memOk,Orc.more_ok (O0) (by kernel_rfl) (fun B w0 w hg hb hB hw=>calls_of_runZ env (O0) mixed gsize5 3078 215 args1 (by kernel_rfl) run1 w hw (good_keep hg hb hB))⟩
noncomputable def args2:List Value:=[(.int .u64 (3))]
noncomputable def res2:Value:=(.int .i64 (62))
theorem run2:runF env (O1) 3024 185 (enterF P 185 args2.toArray .normal) [] (S0 11) (isV res2)=true:=by kernel_rfl
noncomputable def O2:Orc P:=⟨goodK,(185,args2,res2) :: (O1).tab,(O1).mem,(O1).memOk,Orc.more_ok (O1) (by kernel_rfl) (fun B w0 w hg hb hB hw=>calls_of_runZ env (O1) mixed gsize5 3024 185 args2 (by kernel_rfl) run2 w hw (good_keep hg hb hB))⟩
noncomputable def args3:List Value:=[(.int .u64 (3))]
noncomputable def res3:Value:=(.int .i64 (0))
noncomputable def O3:Orc P:=⟨goodK,(186,args3,res3) :: (O2).tab,(O2).mem,(O2).memOk,Orc.more_ok (O2) (by kernel_rfl) x_tz3⟩
noncomputable def from4:AState:=mkS 11 (cat [c0,c1,c2,[none,none,none,o6,o4]])
noncomputable def o7:Option AObj:=some (.row #[(.int .u8 (0)),(.int .u8 (0)),(.int .u8 (0)),(.int .u8 (0)),(.int .u8 (0)),(.int .u8 (0)),(.int .u8 (0)),(.int .u8 (0)),(.int .u8 (1)),(.int .u8 (10)),(.int .u8 (255)),(.int .u8 (0)),(.int .u8 (0)),(.int .u8 (0)),(.int .u8 (0)),(.int .u8 (12))] 5 0 0 true)
noncomputable def to4:AState:=mkS 11 (cat [[o0,o1,o2,o2,o3,o4,some (.row #[(.slice (some ⟨56,0,none⟩) 16 16),(.int .i64 (126))] 378 0 0 false),some (.row #[(.pointer (some ⟨17,0,none⟩)),(.int .i64 (0)),(.int .i64 (10)),(.int .u64 (2)),(.int .u64 (10)),(.int .i64 (2)),(.int .i64 (31)),(.int .i64 (0)),(.bool true)] 231 0 0 false)],c1,c2,[none,none,none,none,o4,none,none,none],c2,[none,none,none,none,none,o7]])
noncomputable def args4:List Value:=[(.pointer (some ⟨18,0,none⟩)),(.agg #[(.int .i64 (10)),(.int .u64 (2))])]
noncomputable def res4:Value:=(.int .u16 (0))
theorem run4:runP env (O3) 10062 95 (enterF P 95 args4.toArray .normal) [] from4 [] (isSP res4 to4 [40,41,43,45,46,48,49,51,53,55])=true:=by kernel_rfl
noncomputable def O4:Orc P:=⟨goodK,(O3).tab,⟨95,args4,from4,res4,to4⟩ :: (O3).mem,Orc.mem_ok (O3) (ans_of_runP env (O3) mixed run4),(O3).ok⟩
noncomputable def from5:AState:=mkS 11 (cat [[o0,o1,o2,o2]])
noncomputable def c3:List (Option AObj):=[o0,o1,o2,o2,none,none,none,none]
noncomputable def o8:Option AObj:=some (.row #[(.int .i64 (0)),(.int .i64 (10)),(.int .i64 (2)),(.slice (some ⟨59,0,none⟩) 16 16)] 98 0 0 true)
noncomputable def to5:AState:=mkS 11 (cat [c3,c2,c2,c2,c2,c2,[o7,none,o8]])
noncomputable def args5:List Value:=[(.slice (some ⟨12,0,none⟩) 2 2)]
noncomputable def res5:Value:=(.tuple #[(.slice (some ⟨61,0,none⟩) 1 1),(.int .u16 (0))])
theorem run5:runP env (O4) 3696 65 (enterF P 65 args5.toArray .normal) [] from5 [] (isSP res5 to5 [15,16,17,18,19,39,56,57,58,60])=true:=by kernel_rfl
noncomputable def O5:Orc P:=⟨goodK,(O4).tab,⟨65,args5,from5,res5,to5⟩ :: (O4).mem,Orc.mem_ok (O4) (ans_of_runP env (O4) mixed run5),(O4).ok⟩
noncomputable def args6:List Value:=[(.string ⟨#[97]⟩)]
noncomputable def res6:Value:=(.bool true)
noncomputable def O6:Orc P:=⟨goodK,(124,args6,res6) :: (O5).tab,(O5).mem,(O5).memOk,Orc.more_ok (O5) (by kernel_rfl) x_name⟩
noncomputable def args7:List Value:=[(.int .u64 (2))]
noncomputable def res7:Value:=(.int .i64 (2))
theorem run7:runF env (O6) 3078 215 (enterF P 215 args7.toArray .normal) [] (S0 11) (isV res7)=true:=by kernel_rfl
noncomputable def O7:Orc P:=⟨goodK,(215,args7,res7) :: (O6).tab,(O6).mem,(O6).memOk,Orc.more_ok (O6) (by kernel_rfl) (fun B w0 w hg hb hB hw=>calls_of_runZ env (O6) mixed gsize5 3078 215 args7 (by kernel_rfl) run7 w hw (good_keep hg hb hB))⟩
noncomputable def args8:List Value:=[(.string ⟨#[49]⟩),(.string ⟨#[97]⟩)]
noncomputable def res8:Value:=(.bool true)
theorem run8:runF env (O7) 3068 244 (enterF P 244 args8.toArray .normal) [] (S0 11) (isV res8)=true:=by kernel_rfl
noncomputable def O8:Orc P:=⟨goodK,(244,args8,res8) :: (O7).tab,(O7).mem,(O7).memOk,Orc.more_ok (O7) (by kernel_rfl) (fun B w0 w hg hb hB hw=>calls_of_runZ env (O7) mixed gsize5 3068 244 args8 (by kernel_rfl) run8 w hw (good_keep hg hb hB))⟩
noncomputable def o9:Option AObj:=some (.row #[(.slice (some ⟨11,0,none⟩) 1 1),(.slice (some ⟨65,0,none⟩) 1 1)] 93 0 0 false)
noncomputable def o10:Option AObj:=some (.row #[(.int .i64 (0)),(.int .i64 (10)),(.int .i64 (2)),(.int .i64 (0)),(.int .i64 (16))] 100 0 0 false)
noncomputable def o11:Option AObj:=some (.row #[(.int .i64 (0)),(.int .i64 (10)),(.int .i64 (2)),(.int .i64 (0)),(.int .i64 (16))] 100 0 0 true)
noncomputable def c4:List (Option AObj):=[o7,none,o8,o9,some (.row #[(.int .i64 (0)),(.int .i64 (10)),(.int .i64 (2)),(.slice (some ⟨59,0,none⟩) 16 16)] 98 0 0 false),o10,o11,o7]
noncomputable def o12:Option AObj:=some (.row #[(.slice (some ⟨11,0,none⟩) 1 1),(.slice (some ⟨65,0,none⟩) 1 1)] 93 0 0 true)
noncomputable def o13:Option AObj:=some (.rest (.map #[⟨(.string ⟨#[97]⟩),(.bool true),0⟩] 1))
noncomputable def o14:Option AObj:=some (.row #[(.int .u8 (66)),(.int .u8 (71)),(.int .u8 (73)),(.int .u8 (88))] 5 0 0 false)
noncomputable def c5:List (Option AObj):=[o9,o12,o9,o0,o13,o0,o10,o14]
noncomputable def from9:AState:=mkS 11 (cat [c3,c2,c2,c2,c2,c2,c4,c5,[some (.row #[(.slice (some ⟨74,0,none⟩) 4 4),(.slice none 0 0),(.map none)] 239 0 0 false)]])
noncomputable def o15:Option AObj:=some (.row #[(.string ⟨#[49]⟩),(.string ⟨#[97]⟩)] 9 0 0 true)
noncomputable def o16:Option AObj:=some (.rest (.map #[⟨(.string ⟨#[49]⟩),(.int .i64 (0)),0⟩,⟨(.string ⟨#[97]⟩),(.int .i64 (1)),1⟩] 2))
noncomputable def c6:List (Option AObj):=[none,none,none,none,o15,o16,none,none]
noncomputable def o17:Option AObj:=some (.row #[(.int .u8 (66)),(.int .u8 (71)),(.int .u8 (73)),(.int .u8 (88)),(.int .u8 (2)),(.int .u8 (0)),(.int .u8 (0)),(.int .u8 (0)),(.int .u8 (1)),(.int .u8 (0)),(.int .u8 (49)),(.int .u8 (1)),(.int .u8 (0)),(.int .u8 (97))] 5 0 0 true)
noncomputable def to9:AState:=mkS 11 (cat [c3,c2,c2,c2,c2,c2,c4,c5,[some (.row #[(.slice (some ⟨106,0,none⟩) 14 14),(.slice (some ⟨87,0,none⟩) 2 2),(.map (some 88))] 239 0 0 false),none,none,none,none,none,none,none],c6,c2,[none,none,none,none,none,none,none,o17]])
noncomputable def args9:List Value:=[(.pointer (some ⟨75,0,none⟩)),(.slice (some ⟨68,0,none⟩) 1 1)]
noncomputable def res9:Value:=(.tuple #[])
theorem run9_0:runP env (O8) 4760 97 (enterF P 97 args9.toArray .normal) [] from9 [(0,2)] (isSP res9 to9 [76,77,78,79,80,81,82,83,84,86,89,91,93,95,97,99,102,104])=true:=by kernel_rfl
theorem run9_1:runP env (O8) 4760 97 (enterF P 97 args9.toArray .normal) [] from9 [(1,2)] (isSP res9 to9 [76,77,78,79,80,81,82,83,84,86,89,91,93,95,97,99,102,104])=true:=by kernel_rfl
theorem run9:runP env (O8) 4760 97 (enterF P 97 args9.toArray .normal) [] from9 [] (isSP res9 to9 [76,77,78,79,80,81,82,83,84,86,89,91,93,95,97,99,102,104])=true:=runP_twoS env (O8) (p:=[]) run9_0 run9_1
noncomputable def O9:Orc P:=⟨goodK,(O8).tab,⟨97,args9,from9,res9,to9⟩ :: (O8).mem,Orc.mem_ok (O8) (ans_of_runP env (O8) mixed run9),(O8).ok⟩
noncomputable def o18:Option AObj:=some (.row #[(.int .u8 (1))] 5 0 0 false)
noncomputable def o19:Option AObj:=some (.row #[(.int .u8 (0))] 5 0 0 false)
noncomputable def o20:Option AObj:=some (.row #[(.int .u8 (66)),(.int .u8 (71)),(.int .u8 (73)),(.int .u8 (88)),(.int .u8 (2)),(.int .u8 (0)),(.int .u8 (0)),(.int .u8 (0)),(.int .u8 (1)),(.int .u8 (0)),(.int .u8 (49)),(.int .u8 (1)),(.int .u8 (0)),(.int .u8 (97)),(.int .u8 (1)),(.int .u8 (0)),(.int .u8 (0)),(.int .u8 (0))] 5 0 0 true)
noncomputable def from10:AState:=mkS 11 (cat [c3,c2,c2,c2,c2,c2,c4,c5,[some (.row #[(.slice (some ⟨114,0,none⟩) 18 18),(.slice (some ⟨87,0,none⟩) 2 2),(.map (some 88))] 239 0 0 false),none,none,none,none,none,none,none],c6,c2,c2,[o18,none,o19,none,o19,none,o19,o20],[o9]])
noncomputable def c7:List (Option AObj):=[o18,none,o19,none,o19,none,o19,none]
noncomputable def c8:List (Option AObj):=[o9,none,none,none,none,none,none,none]
noncomputable def o21:Option AObj:=some (.row #[(.int .u8 (66)),(.int .u8 (71)),(.int .u8 (73)),(.int .u8 (88)),(.int .u8 (2)),(.int .u8 (0)),(.int .u8 (0)),(.int .u8 (0)),(.int .u8 (1)),(.int .u8 (0)),(.int .u8 (49)),(.int .u8 (1)),(.int .u8 (0)),(.int .u8 (97)),(.int .u8 (1)),(.int .u8 (0)),(.int .u8 (0)),(.int .u8 (0)),(.int .u8 (1)),(.int .u8 (1)),(.int .u8 (0)),(.int .u8 (0)),(.int .u8 (0)),(.int .u8 (0)),(.int .u8 (0)),(.int .u8 (0)),(.int .u8 (0)),(.int .u8 (1)),(.int .u8 (0)),(.int .u8 (0)),(.int .u8 (0)),(.int .u8 (0)),(.int .u8 (0)),(.int .u8 (0)),(.int .u8 (0)),(.int .u8 (0)),(.int .u8 (0)),(.int .u8 (0)),(.int .u8 (0)),(.int .u8 (10)),(.int .u8 (0)),(.int .u8 (0)),(.int .u8 (0)),(.int .u8 (0)),(.int .u8 (0)),(.int .u8 (0)),(.int .u8 (0)),(.int .u8 (2)),(.int .u8 (0)),(.int .u8 (0)),(.int .u8 (0)),(.int .u8 (0)),(.int .u8 (0)),(.int .u8 (16)),(.int .u8 (0)),(.int .u8 (0)),(.int .u8 (0))] 5 0 0 true)
noncomputable def to10:AState:=mkS 11 (cat [c3,c2,c2,c2,c2,c2,c4,c5,[some (.row #[(.slice (some ⟨196,0,none⟩) 57 57),(.slice (some ⟨87,0,none⟩) 2 2),(.map (some 88))] 239 0 0 false),none,none,none,none,none,none,none],c6,c2,c2,c7,c8,c2,c2,c2,c2,c2,c2,c2,c2,c2,[none,o21]])
noncomputable def args10:List Value:=[(.pointer (some ⟨75,0,none⟩)),(.agg #[(.slice (some ⟨11,0,none⟩) 1 1),(.slice (some ⟨65,0,none⟩) 1 1)])]
noncomputable def res10:Value:=(.tuple #[])
theorem run10:runP env (O9) 6346 99 (enterF P 99 args10.toArray .normal) [] from10 [] (isSP res10 to10 [116,117,119,120,122,124,126,128,130,132,134,136,138,140,142,144,145,147,149,151,153,155,157,159,161,163,165,167,169,171,173,175,177,179,181,183,185,187,189,191,193,195])=true:=by kernel_rfl
noncomputable def O10:Orc P:=⟨goodK,(O9).tab,⟨99,args10,from10,res10,to10⟩ :: (O9).mem,Orc.mem_ok (O9) (ans_of_runP env (O9) mixed run10),(O9).ok⟩
noncomputable def args11:List Value:=[(.int .u64 (1))]
noncomputable def res11:Value:=(.int .i64 (1))
theorem run11:runF env (O10) 3078 215 (enterF P 215 args11.toArray .normal) [] (S0 11) (isV res11)=true:=by kernel_rfl
noncomputable def O11:Orc P:=⟨goodK,(215,args11,res11) :: (O10).tab,(O10).mem,(O10).memOk,Orc.more_ok (O10) (by kernel_rfl) (fun B w0 w hg hb hB hw=>calls_of_runZ env (O10) mixed gsize5 3078 215 args11 (by kernel_rfl) run11 w hw (good_keep hg hb hB))⟩
noncomputable def from12:AState:=to10
noncomputable def o22:Option AObj:=some (.row #[(.int .u8 (66)),(.int .u8 (71)),(.int .u8 (73)),(.int .u8 (88)),(.int .u8 (2)),(.int .u8 (0)),(.int .u8 (0)),(.int .u8 (0)),(.int .u8 (1)),(.int .u8 (0)),(.int .u8 (49)),(.int .u8 (1)),(.int .u8 (0)),(.int .u8 (97)),(.int .u8 (1)),(.int .u8 (0)),(.int .u8 (0)),(.int .u8 (0)),(.int .u8 (1)),(.int .u8 (1)),(.int .u8 (0)),(.int .u8 (0)),(.int .u8 (0)),(.int .u8 (0)),(.int .u8 (0)),(.int .u8 (0)),(.int .u8 (0)),(.int .u8 (1)),(.int .u8 (0)),(.int .u8 (0)),(.int .u8 (0)),(.int .u8 (0)),(.int .u8 (0)),(.int .u8 (0)),(.int .u8 (0)),(.int .u8 (0)),(.int .u8 (0)),(.int .u8 (0)),(.int .u8 (0)),(.int .u8 (10)),(.int .u8 (0)),(.int .u8 (0)),(.int .u8 (0)),(.int .u8 (0)),(.int .u8 (0)),(.int .u8 (0)),(.int .u8 (0)),(.int .u8 (2)),(.int .u8 (0)),(.int .u8 (0)),(.int .u8 (0)),(.int .u8 (0)),(.int .u8 (0)),(.int .u8 (16)),(.int .u8 (0)),(.int .u8 (0)),(.int .u8 (0)),(.int .u8 (1)),(.int .u8 (0)),(.int .u8 (0)),(.int .u8 (0)),(.int .u8 (1)),(.int .u8 (0)),(.int .u8 (0)),(.int .u8 (0)),(.int .u8 (0)),(.int .u8 (0)),(.int .u8 (0)),(.int .u8 (0)),(.int .u8 (1)),(.int .u8 (0)),(.int .u8 (0)),(.int .u8 (0)),(.int .u8 (0)),(.int .u8 (0)),(.int .u8 (0)),(.int .u8 (0))] 5 0 0 true)
noncomputable def to12:AState:=mkS 11 (cat [c3,c2,c2,c2,c2,c2,c4,c5,[some (.row #[(.slice (some ⟨252,0,none⟩) 77 77),(.slice (some ⟨87,0,none⟩) 2 2),(.map (some 88))] 239 0 0 false),none,none,none,none,none,none,none],c6,c2,c2,c7,c8,c2,c2,c2,c2,c2,c2,c2,c2,c2,c2,c2,c2,c2,c2,c2,c2,[none,o22]])
noncomputable def args12:List Value:=[(.pointer (some ⟨75,0,none⟩)),(.slice (some ⟨68,0,none⟩) 1 1)]
noncomputable def res12:Value:=(.tuple #[])
theorem run12:runP env (O11) 5520 100 (enterF P 100 args12.toArray .normal) [] from12 [] (isSP res12 to12 [197,198,199,200,201,202,203,205,207,209,211,212,213,214,215,216,217,218,219,220,221,223,225,227,229,231,233,235,237,239,241,243,245,247,249,251])=true:=by kernel_rfl
noncomputable def O12:Orc P:=⟨goodK,(O11).tab,⟨100,args12,from12,res12,to12⟩ :: (O11).mem,Orc.mem_ok (O11) (ans_of_runP env (O11) mixed run12),(O11).ok⟩
noncomputable def from13:AState:=to12
def bs13:List Nat:=[66,71,73,88,2,0,0,0,1,0,49,1,0,97,1,0,0,0,1,1,0,0,0,0,0,0,0,1,0,0,0,0,0,0,0,0,0,0,0,10,0,0,0,0,0,0,0,2,0,0,0,0,0,16,0,0,0,1,0,0,0,1,0,0,0,0,0,0,0,1,0,0,0,0,0,0,0]
theorem sum13:((crc bs13:Nat):Int)=4075395254:=by kernel_rfl
theorem all13:bs13.all (fun x=>decide (x<256))=true:=by kernel_rfl
theorem len13:bs13.length=77:=by kernel_rfl
theorem in13:bytesInA from13 252 0 bs13=true:=by kernel_rfl
noncomputable def O13:Orc P:=⟨goodK,(O12).tab,⟨68,[.slice (some ⟨252,0,none⟩) 77 77],from13,.int .u32 4075395254,from13⟩ :: (O12).mem,Orc.mem_ok (O12) (fun B w0 ρ w a _=>ans_read (sum_read len13 (by decide) (by decide) all13 sum13) in13 B w0 ρ w a),(O12).ok⟩
noncomputable def from14:AState:=mkS 11 (cat [c3,c2,c2,c2,c2,c2,c4,[o9,o12]])
noncomputable def c9:List (Option AObj):=[o9,o12,none,none,none,none,none,none]
noncomputable def o23:Option AObj:=some (.row #[(.int .u8 (66)),(.int .u8 (71)),(.int .u8 (73)),(.int .u8 (88)),(.int .u8 (2)),(.int .u8 (0)),(.int .u8 (0)),(.int .u8 (0)),(.int .u8 (1)),(.int .u8 (0)),(.int .u8 (49)),(.int .u8 (1)),(.int .u8 (0)),(.int .u8 (97)),(.int .u8 (1)),(.int .u8 (0)),(.int .u8 (0)),(.int .u8 (0)),(.int .u8 (1)),(.int .u8 (1)),(.int .u8 (0)),(.int .u8 (0)),(.int .u8 (0)),(.int .u8 (0)),(.int .u8 (0)),(.int .u8 (0)),(.int .u8 (0)),(.int .u8 (1)),(.int .u8 (0)),(.int .u8 (0)),(.int .u8 (0)),(.int .u8 (0)),(.int .u8 (0)),(.int .u8 (0)),(.int .u8 (0)),(.int .u8 (0)),(.int .u8 (0)),(.int .u8 (0)),(.int .u8 (0)),(.int .u8 (10)),(.int .u8 (0)),(.int .u8 (0)),(.int .u8 (0)),(.int .u8 (0)),(.int .u8 (0)),(.int .u8 (0)),(.int .u8 (0)),(.int .u8 (2)),(.int .u8 (0)),(.int .u8 (0)),(.int .u8 (0)),(.int .u8 (0)),(.int .u8 (0)),(.int .u8 (16)),(.int .u8 (0)),(.int .u8 (0)),(.int .u8 (0)),(.int .u8 (1)),(.int .u8 (0)),(.int .u8 (0)),(.int .u8 (0)),(.int .u8 (1)),(.int .u8 (0)),(.int .u8 (0)),(.int .u8 (0)),(.int .u8 (0)),(.int .u8 (0)),(.int .u8 (0)),(.int .u8 (0)),(.int .u8 (1)),(.int .u8 (0)),(.int .u8 (0)),(.int .u8 (0)),(.int .u8 (0)),(.int .u8 (0)),(.int .u8 (0)),(.int .u8 (0)),(.int .u8 (182)),(.int .u8 (152)),(.int .u8 (233)),(.int .u8 (242))] 5 0 0 true)
noncomputable def to14:AState:=mkS 11 (cat [c3,c2,c2,c2,c2,c2,c4,c9,c2,c2,c2,c2,c2,c2,c2,c2,c2,c2,c2,c2,c2,c2,c2,c2,c2,c2,c2,c2,c2,c2,c2,[none,o23]])
noncomputable def args14:List Value:=[(.slice (some ⟨68,0,none⟩) 1 1)]
noncomputable def res14:Value:=(.tuple #[(.slice (some ⟨260,0,none⟩) 81 81),(.int .u16 (0))])
theorem run14:runP env (O13) 4646 66 (enterF P 66 args14.toArray .normal) [] from14 [] (isSP res14 to14 [69,70,71,72,73,74,75,87,88,107,109,111,113,115,253,255,257,259])=true:=by kernel_rfl
noncomputable def O14:Orc P:=⟨goodK,(O13).tab,⟨66,args14,from14,res14,to14⟩ :: (O13).mem,Orc.mem_ok (O13) (ans_of_runP env (O13) mixed run14),(O13).ok⟩
noncomputable def o24:Option AObj:=some (.row #[(.int .u8 (66)),(.int .u8 (71)),(.int .u8 (66)),(.int .u8 (76))] 5 0 0 false)
noncomputable def o25:Option AObj:=some (.row #[(.int .u8 (81))] 5 0 0 false)
noncomputable def o26:Option AObj:=some (.row #[(.int .u8 (66)),(.int .u8 (71)),(.int .u8 (66)),(.int .u8 (76)),(.int .u8 (1)),(.int .u8 (0)),(.int .u8 (0)),(.int .u8 (0)),(.int .u8 (1)),(.int .u8 (0)),(.int .u8 (81)),(.int .u8 (0)),(.int .u8 (0)),(.int .u8 (0)),(.int .u8 (66)),(.int .u8 (71)),(.int .u8 (73)),(.int .u8 (88)),(.int .u8 (2)),(.int .u8 (0)),(.int .u8 (0)),(.int .u8 (0)),(.int .u8 (1)),(.int .u8 (0)),(.int .u8 (49)),(.int .u8 (1)),(.int .u8 (0)),(.int .u8 (97)),(.int .u8 (1)),(.int .u8 (0)),(.int .u8 (0)),(.int .u8 (0)),(.int .u8 (1)),(.int .u8 (1)),(.int .u8 (0)),(.int .u8 (0)),(.int .u8 (0)),(.int .u8 (0)),(.int .u8 (0)),(.int .u8 (0)),(.int .u8 (0)),(.int .u8 (1)),(.int .u8 (0)),(.int .u8 (0)),(.int .u8 (0)),(.int .u8 (0)),(.int .u8 (0)),(.int .u8 (0)),(.int .u8 (0)),(.int .u8 (0)),(.int .u8 (0)),(.int .u8 (0)),(.int .u8 (0)),(.int .u8 (10)),(.int .u8 (0)),(.int .u8 (0)),(.int .u8 (0)),(.int .u8 (0)),(.int .u8 (0)),(.int .u8 (0)),(.int .u8 (0)),(.int .u8 (2)),(.int .u8 (0)),(.int .u8 (0)),(.int .u8 (0)),(.int .u8 (0)),(.int .u8 (0)),(.int .u8 (16)),(.int .u8 (0)),(.int .u8 (0)),(.int .u8 (0)),(.int .u8 (1)),(.int .u8 (0)),(.int .u8 (0)),(.int .u8 (0)),(.int .u8 (1)),(.int .u8 (0)),(.int .u8 (0)),(.int .u8 (0)),(.int .u8 (0)),(.int .u8 (0)),(.int .u8 (0)),(.int .u8 (0)),(.int .u8 (1)),(.int .u8 (0)),(.int .u8 (0)),(.int .u8 (0)),(.int .u8 (0)),(.int .u8 (0)),(.int .u8 (0)),(.int .u8 (0)),(.int .u8 (182)),(.int .u8 (152)),(.int .u8 (233)),(.int .u8 (242)),(.int .u8 (0)),(.int .u8 (0)),(.int .u8 (0)),(.int .u8 (0)),(.int .u8 (0)),(.int .u8 (0)),(.int .u8 (0)),(.int .u8 (0)),(.int .u8 (1)),(.int .u8 (10)),(.int .u8 (255)),(.int .u8 (0)),(.int .u8 (0)),(.int .u8 (0)),(.int .u8 (0)),(.int .u8 (12))] 5 0 0 true)
noncomputable def from15:AState:=mkS 11 (cat [c3,c2,c2,c2,c2,c2,c4,c9,c2,c2,c2,c2,c2,c2,c2,c2,c2,c2,c2,c2,c2,c2,c2,c2,c2,c2,c2,c2,c2,c2,c2,[none,o23,o24,o18,none,o19,none,o19],[none,o19,none,o18,none,o19,none,o25],[none,o19,none,o19,none,o19,none,none],[o26]])
def bs15:List Nat:=[66,71,66,76,1,0,0,0,1,0,81,0,0,0,66,71,73,88,2,0,0,0,1,0,49,1,0,97,1,0,0,0,1,1,0,0,0,0,0,0,0,1,0,0,0,0,0,0,0,0,0,0,0,10,0,0,0,0,0,0,0,2,0,0,0,0,0,16,0,0,0,1,0,0,0,1,0,0,0,0,0,0,0,1,0,0,0,0,0,0,0,182,152,233,242,0,0,0,0,0,0,0,0,1,10,255,0,0,0,0,12]
theorem sum15:((crc bs15:Nat):Int)=2958240707:=by kernel_rfl
theorem all15:bs15.all (fun x=>decide (x<256))=true:=by kernel_rfl
theorem len15:bs15.length=111:=by kernel_rfl
theorem in15:bytesInA from15 283 0 bs15=true:=by kernel_rfl
noncomputable def O15:Orc P:=⟨goodK,(O14).tab,⟨68,[.slice (some ⟨283,0,none⟩) 111 111],from15,.int .u32 2958240707,from15⟩ :: (O14).mem,Orc.mem_ok (O14) (fun B w0 ρ w a _=>ans_read (sum_read len15 (by decide) (by decide) all15 sum15) in15 B w0 ρ w a),(O14).ok⟩
noncomputable def from16:AState:=mkS 11 (cat [[o0,o1,o2]])
noncomputable def c10:List (Option AObj):=[o0,o1,o2,none,none,none,none,none]
noncomputable def o27:Option AObj:=some (.row #[(.int .u8 (66)),(.int .u8 (71)),(.int .u8 (66)),(.int .u8 (76)),(.int .u8 (1)),(.int .u8 (0)),(.int .u8 (0)),(.int .u8 (0)),(.int .u8 (1)),(.int .u8 (0)),(.int .u8 (81)),(.int .u8 (0)),(.int .u8 (0)),(.int .u8 (0)),(.int .u8 (66)),(.int .u8 (71)),(.int .u8 (73)),(.int .u8 (88)),(.int .u8 (2)),(.int .u8 (0)),(.int .u8 (0)),(.int .u8 (0)),(.int .u8 (1)),(.int .u8 (0)),(.int .u8 (49)),(.int .u8 (1)),(.int .u8 (0)),(.int .u8 (97)),(.int .u8 (1)),(.int .u8 (0)),(.int .u8 (0)),(.int .u8 (0)),(.int .u8 (1)),(.int .u8 (1)),(.int .u8 (0)),(.int .u8 (0)),(.int .u8 (0)),(.int .u8 (0)),(.int .u8 (0)),(.int .u8 (0)),(.int .u8 (0)),(.int .u8 (1)),(.int .u8 (0)),(.int .u8 (0)),(.int .u8 (0)),(.int .u8 (0)),(.int .u8 (0)),(.int .u8 (0)),(.int .u8 (0)),(.int .u8 (0)),(.int .u8 (0)),(.int .u8 (0)),(.int .u8 (0)),(.int .u8 (10)),(.int .u8 (0)),(.int .u8 (0)),(.int .u8 (0)),(.int .u8 (0)),(.int .u8 (0)),(.int .u8 (0)),(.int .u8 (0)),(.int .u8 (2)),(.int .u8 (0)),(.int .u8 (0)),(.int .u8 (0)),(.int .u8 (0)),(.int .u8 (0)),(.int .u8 (16)),(.int .u8 (0)),(.int .u8 (0)),(.int .u8 (0)),(.int .u8 (1)),(.int .u8 (0)),(.int .u8 (0)),(.int .u8 (0)),(.int .u8 (1)),(.int .u8 (0)),(.int .u8 (0)),(.int .u8 (0)),(.int .u8 (0)),(.int .u8 (0)),(.int .u8 (0)),(.int .u8 (0)),(.int .u8 (1)),(.int .u8 (0)),(.int .u8 (0)),(.int .u8 (0)),(.int .u8 (0)),(.int .u8 (0)),(.int .u8 (0)),(.int .u8 (0)),(.int .u8 (182)),(.int .u8 (152)),(.int .u8 (233)),(.int .u8 (242)),(.int .u8 (0)),(.int .u8 (0)),(.int .u8 (0)),(.int .u8 (0)),(.int .u8 (0)),(.int .u8 (0)),(.int .u8 (0)),(.int .u8 (0)),(.int .u8 (1)),(.int .u8 (10)),(.int .u8 (255)),(.int .u8 (0)),(.int .u8 (0)),(.int .u8 (0)),(.int .u8 (0)),(.int .u8 (12)),(.int .u8 (195)),(.int .u8 (43)),(.int .u8 (83)),(.int .u8 (176))] 5 0 0 true)
noncomputable def to16:AState:=mkS 11 (cat [c10,c2,c2,c2,c2,c2,c2,c2,c2,c2,c2,c2,c2,c2,c2,c2,c2,c2,c2,c2,c2,c2,c2,c2,c2,c2,c2,c2,c2,c2,c2,c2,c2,c2,c2,[o27]])
noncomputable def args16:List Value:=[(.int .u32 (1)),(.int .i64 (1)),(.slice (some ⟨13,0,none⟩) 1 1)]
noncomputable def res16:Value:=(.tuple #[(.slice (some ⟨291,0,none⟩) 115 115),(.int .u16 (0))])
theorem run16:runP env (O15) 4650 6 (enterF P 6 args16.toArray .normal) [] from16 [] (isSP res16 to16 [14,59,61,62,63,64,65,66,67,68,260,261,262,264,266,268,270,272,274,276,278,280,284,286,288,290])=true:=by kernel_rfl
noncomputable def O16:Orc P:=⟨goodK,(O15).tab,⟨6,args16,from16,res16,to16⟩ :: (O15).mem,Orc.mem_ok (O15) (ans_of_runP env (O15) mixed run16),(O15).ok⟩
noncomputable def o28:Option AObj:=some (.row #[(.slice (some ⟨291,95,none⟩) 0 20),(.slice none 0 0)] 342 0 0 false)
noncomputable def o29:Option AObj:=some (.row #[(.int .u8 (182)),(.int .u8 (152)),(.int .u8 (233)),(.int .u8 (242))] 5 0 0 true)
noncomputable def from17:AState:=mkS 11 (cat [c10,c2,c2,c2,c2,c2,c2,c2,c2,c2,c2,c2,c2,c2,c2,c2,c2,c2,c2,c2,c2,c2,c2,c2,c2,c2,c2,c2,c2,c2,c2,c2,c2,c2,c2,[o27,o28,o29]])
def bs17:List Nat:=[66,71,73,88,2,0,0,0,1,0,49,1,0,97,1,0,0,0,1,1,0,0,0,0,0,0,0,1,0,0,0,0,0,0,0,0,0,0,0,10,0,0,0,0,0,0,0,2,0,0,0,0,0,16,0,0,0,1,0,0,0,1,0,0,0,0,0,0,0,1,0,0,0,0,0,0,0]
theorem sum17:((crc bs17:Nat):Int)=4075395254:=by kernel_rfl
theorem all17:bs17.all (fun x=>decide (x<256))=true:=by kernel_rfl
theorem len17:bs17.length=77:=by kernel_rfl
theorem in17:bytesInA from17 291 14 bs17=true:=by kernel_rfl
noncomputable def O17:Orc P:=⟨goodK,(O16).tab,⟨68,[.slice (some ⟨291,14,none⟩) 77 101],from17,.int .u32 4075395254,from17⟩ :: (O16).mem,Orc.mem_ok (O16) (fun B w0 ρ w a _=>ans_read (sum_read len17 (by decide) (by decide) all17 sum17) in17 B w0 ρ w a),(O16).ok⟩
noncomputable def o30:Option AObj:=some (.row #[(.slice none 0 0)] 90 0 0 false)
noncomputable def o31:Option AObj:=some (.row #[(.bool false)] 4 0 0 false)
noncomputable def o32:Option AObj:=some (.row #[(.int .u8 (2)),(.int .u8 (0)),(.int .u8 (0)),(.int .u8 (0))] 5 0 0 true)
noncomputable def o33:Option AObj:=some (.row #[(.int .u8 (1)),(.int .u8 (0))] 5 0 0 true)
noncomputable def o34:Option AObj:=some (.row #[(.string ⟨#[49]⟩)] 9 0 0 false)
noncomputable def o35:Option AObj:=some (.row #[(.string ⟨#[97]⟩)] 9 0 0 false)
noncomputable def o36:Option AObj:=some (.row #[(.int .u8 (1)),(.int .u8 (0)),(.int .u8 (0)),(.int .u8 (0))] 5 0 0 true)
noncomputable def from18:AState:=mkS 11 (cat [c10,c2,c2,c2,c2,c2,c2,c2,c2,c2,c2,c2,c2,c2,c2,c2,c2,c2,c2,c2,c2,c2,c2,c2,c2,c2,c2,c2,c2,c2,c2,c2,c2,c2,c2,[o27,o28,o29,o30,o31,some (.row #[(.slice (some ⟨291,32,none⟩) 59 83),(.slice (some ⟨303,0,none⟩) 2 2)] 342 0 0 false),o32,o33],[o34,none,o33,o35,o15,o36]])
noncomputable def o37:Option AObj:=some (.row #[(.string ⟨#[97]⟩),(.string ⟨#[49]⟩)] 80 0 0 true)
noncomputable def c11:List (Option AObj):=[none,none,none,o37,none,none,none,none]
noncomputable def to18:AState:=mkS 11 (cat [c10,c2,c2,c2,c2,c2,c2,c2,c2,c2,c2,c2,c2,c2,c2,c2,c2,c2,c2,c2,c2,c2,c2,c2,c2,c2,c2,c2,c2,c2,c2,c2,c2,c2,c2,[o27,o28,o29,o30,o31,some (.row #[(.slice (some ⟨291,71,none⟩) 20 44),(.slice (some ⟨303,0,none⟩) 2 2)] 342 0 0 false),o32,o33],[o34,none,o33,o35,o15,o36,none,none],c11,[none,none,none,none,o11]])
noncomputable def args18:List Value:=[(.pointer (some ⟨296,0,none⟩))]
noncomputable def res18:Value:=(.agg #[(.slice (some ⟨310,0,none⟩) 1 1),(.slice (some ⟨319,0,none⟩) 1 1)])
theorem run18:runP env (O17) 7562 197 (enterF P 197 args18.toArray .normal) [] from18 [] (isSP res18 to18 [305,306,307,308,309,311,312,313,314,315,316,317,318])=true:=by kernel_rfl
noncomputable def O18:Orc P:=⟨goodK,(O17).tab,⟨197,args18,from18,res18,to18⟩ :: (O17).mem,Orc.mem_ok (O17) (ans_of_runP env (O17) mixed run18),(O17).ok⟩
noncomputable def from19:AState:=from17
noncomputable def c12:List (Option AObj):=[o27,o28,o29,none,none,none,none,none]
noncomputable def o38:Option AObj:=some (.row #[(.slice (some ⟨310,0,none⟩) 1 1),(.slice (some ⟨319,0,none⟩) 1 1)] 93 0 0 true)
noncomputable def to19:AState:=mkS 11 (cat [c10,c2,c2,c2,c2,c2,c2,c2,c2,c2,c2,c2,c2,c2,c2,c2,c2,c2,c2,c2,c2,c2,c2,c2,c2,c2,c2,c2,c2,c2,c2,c2,c2,c2,c2,c12,c2,c11,[none,none,none,none,o11,none,o38]])
noncomputable def args19:List Value:=[(.slice (some ⟨291,14,none⟩) 77 101)]
noncomputable def res19:Value:=(.tuple #[(.slice (some ⟨321,0,none⟩) 1 1),(.bool true)])
theorem run19:runP env (O18) 5064 162 (enterF P 162 args19.toArray .normal) [] from19 [] (isSP res19 to19 [294,295,296,297,298,299,301,302,303,304,320])=true:=by kernel_rfl
noncomputable def O19:Orc P:=⟨goodK,(O18).tab,⟨162,args19,from19,res19,to19⟩ :: (O18).mem,Orc.mem_ok (O18) (ans_of_runP env (O18) mixed run19),(O18).ok⟩
noncomputable def o39:Option AObj:=some (.row #[(.slice (some ⟨310,0,none⟩) 1 1),(.slice (some ⟨319,0,none⟩) 1 1)] 93 0 0 false)
noncomputable def c13:List (Option AObj):=[none,none,none,none,o11,none,o38,o39]
noncomputable def from20:AState:=mkS 11 (cat [c10,c2,c2,c2,c2,c2,c2,c2,c2,c2,c2,c2,c2,c2,c2,c2,c2,c2,c2,c2,c2,c2,c2,c2,c2,c2,c2,c2,c2,c2,c2,c2,c2,c2,c2,c12,c2,c11,c13,[o0,o13,o0,o10,o14,some (.row #[(.slice (some ⟨327,0,none⟩) 4 4),(.slice none 0 0),(.map none)] 239 0 0 false)]])
noncomputable def c14:List (Option AObj):=[none,o15,o16,none,none,none,none,none]
noncomputable def to20:AState:=mkS 11 (cat [c10,c2,c2,c2,c2,c2,c2,c2,c2,c2,c2,c2,c2,c2,c2,c2,c2,c2,c2,c2,c2,c2,c2,c2,c2,c2,c2,c2,c2,c2,c2,c2,c2,c2,c2,c12,c2,c11,c13,[o0,o13,o0,o10,o14,some (.row #[(.slice (some ⟨359,0,none⟩) 14 14),(.slice (some ⟨340,0,none⟩) 2 2),(.map (some 341))] 239 0 0 false),none,none],c2,c14,c2,[none,none,none,none,o17]])
noncomputable def args20:List Value:=[(.pointer (some ⟨328,0,none⟩)),(.slice (some ⟨321,0,none⟩) 1 1)]
noncomputable def res20:Value:=(.tuple #[])
theorem run20_0:runP env (O19) 4760 97 (enterF P 97 args20.toArray .normal) [] from20 [(0,2)] (isSP res20 to20 [329,330,331,332,333,334,335,336,337,339,342,344,346,348,350,352,355,357])=true:=by kernel_rfl
theorem run20_1:runP env (O19) 4760 97 (enterF P 97 args20.toArray .normal) [] from20 [(1,2)] (isSP res20 to20 [329,330,331,332,333,334,335,336,337,339,342,344,346,348,350,352,355,357])=true:=by kernel_rfl
theorem run20:runP env (O19) 4760 97 (enterF P 97 args20.toArray .normal) [] from20 [] (isSP res20 to20 [329,330,331,332,333,334,335,336,337,339,342,344,346,348,350,352,355,357])=true:=runP_twoS env (O19) (p:=[]) run20_0 run20_1
noncomputable def O20:Orc P:=⟨goodK,(O19).tab,⟨97,args20,from20,res20,to20⟩ :: (O19).mem,Orc.mem_ok (O19) (ans_of_runP env (O19) mixed run20),(O19).ok⟩
noncomputable def c15:List (Option AObj):=[none,none,none,none,none,o18,none,o19]
noncomputable def from21:AState:=mkS 11 (cat [c10,c2,c2,c2,c2,c2,c2,c2,c2,c2,c2,c2,c2,c2,c2,c2,c2,c2,c2,c2,c2,c2,c2,c2,c2,c2,c2,c2,c2,c2,c2,c2,c2,c2,c2,c12,c2,c11,c13,[o0,o13,o0,o10,o14,some (.row #[(.slice (some ⟨367,0,none⟩) 18 18),(.slice (some ⟨340,0,none⟩) 2 2),(.map (some 341))] 239 0 0 false),none,none],c2,c14,c2,c15,[none,o19,none,o19,o20,o39]])
noncomputable def c16:List (Option AObj):=[none,o19,none,o19,none,o39,none,none]
noncomputable def to21:AState:=mkS 11 (cat [c10,c2,c2,c2,c2,c2,c2,c2,c2,c2,c2,c2,c2,c2,c2,c2,c2,c2,c2,c2,c2,c2,c2,c2,c2,c2,c2,c2,c2,c2,c2,c2,c2,c2,c2,c12,c2,c11,c13,[o0,o13,o0,o10,o14,some (.row #[(.slice (some ⟨449,0,none⟩) 57 57),(.slice (some ⟨340,0,none⟩) 2 2),(.map (some 341))] 239 0 0 false),none,none],c2,c14,c2,c15,c16,c2,c2,c2,c2,c2,c2,c2,c2,c2,[none,none,none,none,none,none,o21]])
noncomputable def args21:List Value:=[(.pointer (some ⟨328,0,none⟩)),(.agg #[(.slice (some ⟨310,0,none⟩) 1 1),(.slice (some ⟨319,0,none⟩) 1 1)])]
noncomputable def res21:Value:=(.tuple #[])
theorem run21:runP env (O20) 6346 99 (enterF P 99 args21.toArray .normal) [] from21 [] (isSP res21 to21 [369,370,372,373,375,377,379,381,383,385,387,389,391,393,395,397,398,400,402,404,406,408,410,412,414,416,418,420,422,424,426,428,430,432,434,436,438,440,442,444,446,448])=true:=by kernel_rfl
noncomputable def O21:Orc P:=⟨goodK,(O20).tab,⟨99,args21,from21,res21,to21⟩ :: (O20).mem,Orc.mem_ok (O20) (ans_of_runP env (O20) mixed run21),(O20).ok⟩
noncomputable def from22:AState:=to21
noncomputable def to22:AState:=mkS 11 (cat [c10,c2,c2,c2,c2,c2,c2,c2,c2,c2,c2,c2,c2,c2,c2,c2,c2,c2,c2,c2,c2,c2,c2,c2,c2,c2,c2,c2,c2,c2,c2,c2,c2,c2,c2,c12,c2,c11,c13,[o0,o13,o0,o10,o14,some (.row #[(.slice (some ⟨505,0,none⟩) 77 77),(.slice (some ⟨340,0,none⟩) 2 2),(.map (some 341))] 239 0 0 false),none,none],c2,c14,c2,c15,c16,c2,c2,c2,c2,c2,c2,c2,c2,c2,c2,c2,c2,c2,c2,c2,c2,[none,none,none,none,none,none,o22]])
noncomputable def args22:List Value:=[(.pointer (some ⟨328,0,none⟩)),(.slice (some ⟨321,0,none⟩) 1 1)]
noncomputable def res22:Value:=(.tuple #[])
theorem run22:runP env (O21) 5520 100 (enterF P 100 args22.toArray .normal) [] from22 [] (isSP res22 to22 [450,451,452,453,454,455,456,458,460,462,464,465,466,467,468,469,470,471,472,473,474,476,478,480,482,484,486,488,490,492,494,496,498,500,502,504])=true:=by kernel_rfl
noncomputable def O22:Orc P:=⟨goodK,(O21).tab,⟨100,args22,from22,res22,to22⟩ :: (O21).mem,Orc.mem_ok (O21) (ans_of_runP env (O21) mixed run22),(O21).ok⟩
noncomputable def from23:AState:=to22
def bs23:List Nat:=[66,71,73,88,2,0,0,0,1,0,49,1,0,97,1,0,0,0,1,1,0,0,0,0,0,0,0,1,0,0,0,0,0,0,0,0,0,0,0,10,0,0,0,0,0,0,0,2,0,0,0,0,0,16,0,0,0,1,0,0,0,1,0,0,0,0,0,0,0,1,0,0,0,0,0,0,0]
theorem sum23:((crc bs23:Nat):Int)=4075395254:=by kernel_rfl
theorem all23:bs23.all (fun x=>decide (x<256))=true:=by kernel_rfl
theorem len23:bs23.length=77:=by kernel_rfl
theorem in23:bytesInA from23 505 0 bs23=true:=by kernel_rfl
noncomputable def O23:Orc P:=⟨goodK,(O22).tab,⟨68,[.slice (some ⟨505,0,none⟩) 77 77],from23,.int .u32 4075395254,from23⟩ :: (O22).mem,Orc.mem_ok (O22) (fun B w0 ρ w a _=>ans_read (sum_read len23 (by decide) (by decide) all23 sum23) in23 B w0 ρ w a),(O22).ok⟩
noncomputable def from24:AState:=to19
noncomputable def c17:List (Option AObj):=[none,none,none,none,o11,none,o38,none]
noncomputable def to24:AState:=mkS 11 (cat [c10,c2,c2,c2,c2,c2,c2,c2,c2,c2,c2,c2,c2,c2,c2,c2,c2,c2,c2,c2,c2,c2,c2,c2,c2,c2,c2,c2,c2,c2,c2,c2,c2,c2,c2,c12,c2,c11,c17,c2,c2,c2,c2,c2,c2,c2,c2,c2,c2,c2,c2,c2,c2,c2,c2,c2,c2,c2,c2,c2,c2,c2,[none,none,none,none,none,none,o23]])
noncomputable def args24:List Value:=[(.slice (some ⟨321,0,none⟩) 1 1)]
noncomputable def res24:Value:=(.tuple #[(.slice (some ⟨513,0,none⟩) 81 81),(.int .u16 (0))])
theorem run24:runP env (O23) 4646 66 (enterF P 66 args24.toArray .normal) [] from24 [] (isSP res24 to24 [322,323,324,325,326,327,328,340,341,360,362,364,366,368,506,508,510,512])=true:=by kernel_rfl
noncomputable def O24:Orc P:=⟨goodK,(O23).tab,⟨66,args24,from24,res24,to24⟩ :: (O23).mem,Orc.mem_ok (O23) (ans_of_runP env (O23) mixed run24),(O23).ok⟩
noncomputable def o40:Option AObj:=some (.rest (.map #[] 0))
noncomputable def c18:List (Option AObj):=[none,none,none,none,none,none,o23,o40]
noncomputable def o41:Option AObj:=some (.row #[(.slice none 0 0),(.map (some 514)),(.map (some 515))] 396 0 0 false)
noncomputable def o42:Option AObj:=some (.row #[(.slice (some ⟨321,0,none⟩) 1 1),(.slice none 0 0),(.pointer (some ⟨516,0,none⟩))] 349 0 0 false)
noncomputable def from25:AState:=mkS 11 (cat [c10,c2,c2,c2,c2,c2,c2,c2,c2,c2,c2,c2,c2,c2,c2,c2,c2,c2,c2,c2,c2,c2,c2,c2,c2,c2,c2,c2,c2,c2,c2,c2,c2,c2,c2,c12,c2,c11,c17,c2,c2,c2,c2,c2,c2,c2,c2,c2,c2,c2,c2,c2,c2,c2,c2,c2,c2,c2,c2,c2,c2,c2,c18,[o40,o41,o42,some (.row #[(.slice none 0 0),(.slice none 0 0),(.map none)] 239 0 0 false)]])
noncomputable def o43:Option AObj:=some (.row #[(.slice (some ⟨549,0,none⟩) 10 10),(.slice (some ⟨530,0,none⟩) 2 2),(.map (some 531))] 239 0 0 false)
noncomputable def c19:List (Option AObj):=[none,none,none,none,none,none,none,o15]
noncomputable def c20:List (Option AObj):=[o16,none,none,none,none,none,none,none]
noncomputable def o44:Option AObj:=some (.row #[(.int .u8 (2)),(.int .u8 (0)),(.int .u8 (0)),(.int .u8 (0)),(.int .u8 (1)),(.int .u8 (0)),(.int .u8 (49)),(.int .u8 (1)),(.int .u8 (0)),(.int .u8 (97))] 5 0 0 true)
noncomputable def to25:AState:=mkS 11 (cat [c10,c2,c2,c2,c2,c2,c2,c2,c2,c2,c2,c2,c2,c2,c2,c2,c2,c2,c2,c2,c2,c2,c2,c2,c2,c2,c2,c2,c2,c2,c2,c2,c2,c2,c2,c12,c2,c11,c17,c2,c2,c2,c2,c2,c2,c2,c2,c2,c2,c2,c2,c2,c2,c2,c2,c2,c2,c2,c2,c2,c2,c2,c18,[o40,o41,o42,o43,none,none,none,none],c19,c20,c2,[none,none,o44]])
noncomputable def args25:List Value:=[(.pointer (some ⟨518,0,none⟩)),(.slice (some ⟨321,0,none⟩) 1 1)]
noncomputable def res25:Value:=(.tuple #[])
theorem run25_0:runP env (O24) 4760 97 (enterF P 97 args25.toArray .normal) [] from25 [(0,2)] (isSP res25 to25 [519,520,521,522,523,524,525,526,527,529,532,534,536,538,540,542,545,547])=true:=by kernel_rfl
theorem run25_1:runP env (O24) 4760 97 (enterF P 97 args25.toArray .normal) [] from25 [(1,2)] (isSP res25 to25 [519,520,521,522,523,524,525,526,527,529,532,534,536,538,540,542,545,547])=true:=by kernel_rfl
theorem run25:runP env (O24) 4760 97 (enterF P 97 args25.toArray .normal) [] from25 [] (isSP res25 to25 [519,520,521,522,523,524,525,526,527,529,532,534,536,538,540,542,545,547])=true:=runP_twoS env (O24) (p:=[]) run25_0 run25_1
noncomputable def O25:Orc P:=⟨goodK,(O24).tab,⟨97,args25,from25,res25,to25⟩ :: (O24).mem,Orc.mem_ok (O24) (ans_of_runP env (O24) mixed run25),(O24).ok⟩
noncomputable def o45:Option AObj:=some (.row #[(.slice (some ⟨321,0,none⟩) 1 1),(.slice (some ⟨530,0,none⟩) 2 2),(.pointer (some ⟨516,0,none⟩))] 349 0 0 false)
noncomputable def c21:List (Option AObj):=[o40,o41,o45,o43,none,none,none,none]
noncomputable def from26:AState:=mkS 11 (cat [c10,c2,c2,c2,c2,c2,c2,c2,c2,c2,c2,c2,c2,c2,c2,c2,c2,c2,c2,c2,c2,c2,c2,c2,c2,c2,c2,c2,c2,c2,c2,c2,c2,c2,c2,c12,c2,c11,c17,c2,c2,c2,c2,c2,c2,c2,c2,c2,c2,c2,c2,c2,c2,c2,c2,c2,c2,c2,c2,c2,c2,c2,c18,c21,c19,c20,c2,[none,none,o44,o39]])
noncomputable def c22:List (Option AObj):=[none,none,o44,o39,none,none,none,none]
noncomputable def to26:AState:=mkS 11 (cat [c10,c2,c2,c2,c2,c2,c2,c2,c2,c2,c2,c2,c2,c2,c2,c2,c2,c2,c2,c2,c2,c2,c2,c2,c2,c2,c2,c2,c2,c2,c2,c2,c2,c2,c2,c12,c2,c11,c17,c2,c2,c2,c2,c2,c2,c2,c2,c2,c2,c2,c2,c2,c2,c2,c2,c2,c2,c2,c2,c2,c2,c2,c18,c21,c19,c20,c2,c22,[none,none,none,none,none,none,some (.row #[(.int .u8 (1)),(.int .u8 (1)),(.int .u8 (0)),(.int .u8 (97)),(.int .u8 (1)),(.int .u8 (0)),(.int .u8 (49))] 5 0 0 true)]])
noncomputable def args26:List Value:=[(.slice (some ⟨310,0,none⟩) 1 1)]
noncomputable def res26:Value:=(.tuple #[(.slice (some ⟨561,0,none⟩) 7 7),(.int .u16 (0))])
theorem run26:runP env (O25) 3722 198 (enterF P 198 args26.toArray .normal) [] from26 [] (isSP res26 to26 [551,552,553,554,555,556,559])=true:=by kernel_rfl
noncomputable def O26:Orc P:=⟨goodK,(O25).tab,⟨198,args26,from26,res26,to26⟩ :: (O25).mem,Orc.mem_ok (O25) (ans_of_runP env (O25) mixed run26),(O25).ok⟩
noncomputable def from27:AState:=from26
noncomputable def o46:Option AObj:=some (.rest (.map #[⟨(.string ⟨#[1,1,0,97,1,0,49]⟩),(.int .i64 (0)),0⟩] 1))
noncomputable def o47:Option AObj:=some (.rest (.map #[⟨(.string ⟨#[97]⟩),(.map (some 567)),0⟩] 1))
noncomputable def o48:Option AObj:=some (.row #[(.slice (some ⟨565,0,none⟩) 1 1),(.map (some 514)),(.map (some 515))] 396 0 0 false)
noncomputable def o49:Option AObj:=some (.row #[(.slice (some ⟨563,0,none⟩) 1 1)] 72 0 0 true)
noncomputable def o50:Option AObj:=some (.rest (.map #[⟨(.string ⟨#[49]⟩),(.slice (some ⟨569,0,none⟩) 1 1),0⟩] 1))
noncomputable def o51:Option AObj:=some (.row #[(.int .i64 (0))] 3 0 0 true)
noncomputable def c23:List (Option AObj):=[o37,none,o49,none,o50,none,o51]
noncomputable def to27:AState:=mkS 11 (cat [c10,c2,c2,c2,c2,c2,c2,c2,c2,c2,c2,c2,c2,c2,c2,c2,c2,c2,c2,c2,c2,c2,c2,c2,c2,c2,c2,c2,c2,c2,c2,c2,c2,c2,c2,c12,c2,c11,c17,c2,c2,c2,c2,c2,c2,c2,c2,c2,c2,c2,c2,c2,c2,c2,c2,c2,c2,c2,c2,c2,c2,c2,[none,none,none,none,none,none,o23,o46],[o47,o48,o45,o43,none,none,none,none],c19,c20,c2,c22,c2,c23])
noncomputable def args27:List Value:=[(.pointer (some ⟨516,0,none⟩)),(.slice (some ⟨310,0,none⟩) 1 1)]
noncomputable def res27:Value:=(.tuple #[(.int .i64 (0)),(.int .u16 (0))])
theorem run27:runP env (O26) 3256 164 (enterF P 164 args27.toArray .normal) [] from27 [] (isSP res27 to27 [561,562,564,566,568])=true:=by kernel_rfl
noncomputable def O27:Orc P:=⟨goodK,(O26).tab,⟨164,args27,from27,res27,to27⟩ :: (O26).mem,Orc.mem_ok (O26) (ans_of_runP env (O26) mixed run27),(O26).ok⟩
noncomputable def from28:AState:=to16
noncomputable def c24:List (Option AObj):=[o27,none,none,none,none,none,none,none]
noncomputable def c25:List (Option AObj):=[none,none,none,none,none,none,none,o46]
noncomputable def c26:List (Option AObj):=[o47,o48,o45,none,none,none,none,none]
noncomputable def to28:AState:=mkS 11 (cat [c10,c2,c2,c2,c2,c2,c2,c2,c2,c2,c2,c2,c2,c2,c2,c2,c2,c2,c2,c2,c2,c2,c2,c2,c2,c2,c2,c2,c2,c2,c2,c2,c2,c2,c2,c24,c2,c11,c17,c2,c2,c2,c2,c2,c2,c2,c2,c2,c2,c2,c2,c2,c2,c2,c2,c2,c2,c2,c2,c2,c2,c2,c25,c26,c19,c2,c2,c2,c2,c23])
noncomputable def args28:List Value:=[(.slice (some ⟨291,14,none⟩) 81 101)]
noncomputable def res28:Value:=(.tuple #[(.pointer (some ⟨517,0,none⟩)),(.int .u16 (0))])
theorem run28:runP env (O27) 3768 119 (enterF P 119 args28.toArray .normal) [] from28 [] (isSP res28 to28 [292,293,513,518,531,549,550])=true:=by kernel_rfl
noncomputable def O28:Orc P:=⟨goodK,(O27).tab,⟨119,args28,from28,res28,to28⟩ :: (O27).mem,Orc.mem_ok (O27) (ans_of_runP env (O27) mixed run28),(O27).ok⟩
noncomputable def o52:Option AObj:=some (.row #[(.slice (some ⟨572,0,none⟩) 1 1),(.slice (some ⟨574,0,none⟩) 1 1)] 93 0 0 false)
noncomputable def c27:List (Option AObj):=[o37,none,o49,none,o50,none,o51,o52]
noncomputable def o53:Option AObj:=some (.row #[(.int .i64 (0)),(.int .i64 (10)),(.int .i64 (2)),(.slice (some ⟨291,95,none⟩) 16 20)] 98 0 0 false)
noncomputable def c28:List (Option AObj):=[some (.row #[] 80 0 0 false),o37,some (.row #[] 100 0 0 false),o11,o52,o10,o53,some (.row #[(.int .i64 (0)),(.int .i64 (10)),(.int .i64 (2)),(.slice (some ⟨291,95,none⟩) 16 20)] 98 0 0 true)]
noncomputable def o54:Option AObj:=some (.row #[(.slice none 0 0)] 73 0 0 false)
noncomputable def o55:Option AObj:=some (.row #[] 5 0 0 false)
noncomputable def c29:List (Option AObj):=[o54,o53,o53,o53,o55,o7,some (.row #[(.slice (some ⟨584,0,none⟩) 16 16),(.int .i64 (126))] 468 0 0 false),some (.row #[(.pointer (some ⟨585,0,none⟩)),(.bool false),(.int .u64 (10)),(.int .i64 (31)),(.int .i64 (0)),(.bool false)] 441 0 0 false)]
noncomputable def o56:Option AObj:=some (.row #[(.pointer (some ⟨585,0,none⟩))] 438 0 0 false)
noncomputable def o57:Option AObj:=some (.row #[(.int .u64 (0))] 103 0 0 false)
noncomputable def o58:Option AObj:=some (.row #[(.int .u16 (0))] 28 0 0 false)
noncomputable def o59:Option AObj:=some (.row #[(.int .i64 (0))] 3 0 0 false)
noncomputable def o60:Option AObj:=some (.row #[(.int .u64 (10))] 103 0 0 false)
noncomputable def c30:List (Option AObj):=[o56,o57,o58,o59,o3,o3,o56,o60]
noncomputable def o61:Option AObj:=some (.row #[(.int .i64 (72))] 3 0 0 false)
noncomputable def o62:Option AObj:=some (.row #[(.int .i64 (31)),(.int .i64 (0)),(.bool false)] 229 0 0 false)
noncomputable def o63:Option AObj:=some (.row #[(.int .i64 (0)),(.int .u64 (1)),(.int .i64 (10)),(.int .u64 (2))] 107 0 0 true)
noncomputable def from29:AState:=mkS 11 (cat [c10,c2,c2,c2,c2,c2,c2,c2,c2,c2,c2,c2,c2,c2,c2,c2,c2,c2,c2,c2,c2,c2,c2,c2,c2,c2,c2,c2,c2,c2,c2,c2,c2,c2,c2,c24,c2,c11,c17,c2,c2,c2,c2,c2,c2,c2,c2,c2,c2,c2,c2,c2,c2,c2,c2,c2,c2,c2,c2,c2,c2,c2,c25,c26,c19,c2,c2,c2,c2,c27,c28,c29,c30,[o58,o61,o62,o4,o63,o5,some (.row #[(.pointer (some ⟨600,0,none⟩)),(.int .i64 (0)),(.int .i64 (0)),(.int .u64 (0)),(.int .u64 (0)),(.int .i64 (0)),(.int .i64 (0)),(.int .i64 (0)),(.bool false)] 231 0 0 false),o3]])
noncomputable def c31:List (Option AObj):=[o58,o61,o62,o4,o63,some (.row #[(.slice (some ⟨621,0,none⟩) 9 9),(.int .i64 (72))] 378 0 0 false),some (.row #[(.pointer (some ⟨600,0,none⟩)),(.int .i64 (0)),(.int .i64 (0)),(.int .u64 (1)),(.int .u64 (0)),(.int .i64 (1)),(.int .i64 (0)),(.int .i64 (0)),(.bool false)] 231 0 0 false),o3]
noncomputable def to29:AState:=mkS 11 (cat [c10,c2,c2,c2,c2,c2,c2,c2,c2,c2,c2,c2,c2,c2,c2,c2,c2,c2,c2,c2,c2,c2,c2,c2,c2,c2,c2,c2,c2,c2,c2,c2,c2,c2,c2,c24,c2,c11,c17,c2,c2,c2,c2,c2,c2,c2,c2,c2,c2,c2,c2,c2,c2,c2,c2,c2,c2,c2,c2,c2,c2,c2,c25,c26,c19,c2,c2,c2,c2,c27,c28,c29,c30,c31,c2,c2,[none,none,o6]])
noncomputable def args29:List Value:=[(.pointer (some ⟨601,0,none⟩)),(.agg #[(.int .i64 (0)),(.int .u64 (1))])]
noncomputable def res29:Value:=(.int .u16 (0))
theorem run29:runP env (O28) 11784 95 (enterF P 95 args29.toArray .normal) [] from29 [] (isSP res29 to29 [603,604,606,608,610,612,614,616,618,620])=true:=by kernel_rfl
noncomputable def O29:Orc P:=⟨goodK,(O28).tab,⟨95,args29,from29,res29,to29⟩ :: (O28).mem,Orc.mem_ok (O28) (ans_of_runP env (O28) mixed run29),(O28).ok⟩
noncomputable def from30:AState:=mkS 11 (cat [c10,c2,c2,c2,c2,c2,c2,c2,c2,c2,c2,c2,c2,c2,c2,c2,c2,c2,c2,c2,c2,c2,c2,c2,c2,c2,c2,c2,c2,c2,c2,c2,c2,c2,c2,c24,c2,c11,c17,c2,c2,c2,c2,c2,c2,c2,c2,c2,c2,c2,c2,c2,c2,c2,c2,c2,c2,c2,c2,c2,c2,c2,c25,c26,c19,c2,c2,c2,c2,c27,c28,c29,c30,c31,c2,c2,[none,none,o6,o4]])
noncomputable def to30:AState:=mkS 11 (cat [c10,c2,c2,c2,c2,c2,c2,c2,c2,c2,c2,c2,c2,c2,c2,c2,c2,c2,c2,c2,c2,c2,c2,c2,c2,c2,c2,c2,c2,c2,c2,c2,c2,c2,c2,c24,c2,c11,c17,c2,c2,c2,c2,c2,c2,c2,c2,c2,c2,c2,c2,c2,c2,c2,c2,c2,c2,c2,c2,c2,c2,c2,c25,c26,c19,c2,c2,c2,c2,c27,c28,c29,c30,[o58,o61,o62,o4,o63,some (.row #[(.slice (some ⟨639,0,none⟩) 16 16),(.int .i64 (126))] 378 0 0 false),some (.row #[(.pointer (some ⟨600,0,none⟩)),(.int .i64 (0)),(.int .i64 (10)),(.int .u64 (2)),(.int .u64 (10)),(.int .i64 (2)),(.int .i64 (31)),(.int .i64 (0)),(.bool true)] 231 0 0 false),o3],c2,c2,[none,none,none,o4,none,none,none,none],c2,[none,none,none,none,o7]])
noncomputable def args30:List Value:=[(.pointer (some ⟨601,0,none⟩)),(.agg #[(.int .i64 (10)),(.int .u64 (2))])]
noncomputable def res30:Value:=(.int .u16 (0))
theorem run30:runP env (O29) 10062 95 (enterF P 95 args30.toArray .normal) [] from30 [] (isSP res30 to30 [623,624,626,628,629,631,632,634,636,638])=true:=by kernel_rfl
noncomputable def O30:Orc P:=⟨goodK,(O29).tab,⟨95,args30,from30,res30,to30⟩ :: (O29).mem,Orc.mem_ok (O29) (ans_of_runP env (O29) mixed run30),(O29).ok⟩
noncomputable def from31:AState:=mkS 11 (cat [c10,c2,c2,c2,c2,c2,c2,c2,c2,c2,c2,c2,c2,c2,c2,c2,c2,c2,c2,c2,c2,c2,c2,c2,c2,c2,c2,c2,c2,c2,c2,c2,c2,c2,c2,c24,c2,c11,c17,c2,c2,c2,c2,c2,c2,c2,c2,c2,c2,c2,c2,c2,c2,c2,c2,c2,c2,c2,c2,c2,c2,c2,c25,c26,c19,c2,c2,c2,c2,c27,c28,[o54,o53,o53]])
noncomputable def c32:List (Option AObj):=[o54,o53,o53,none,none,none,none,none]
noncomputable def c33:List (Option AObj):=[none,none,none,none,o63,none,none,none]
noncomputable def to31:AState:=mkS 11 (cat [c10,c2,c2,c2,c2,c2,c2,c2,c2,c2,c2,c2,c2,c2,c2,c2,c2,c2,c2,c2,c2,c2,c2,c2,c2,c2,c2,c2,c2,c2,c2,c2,c2,c2,c2,c24,c2,c11,c17,c2,c2,c2,c2,c2,c2,c2,c2,c2,c2,c2,c2,c2,c2,c2,c2,c2,c2,c2,c2,c2,c2,c2,c25,c26,c19,c2,c2,c2,c2,c27,c28,c32,c2,c33,c2,c2,c2,c2,c2,[none]])
noncomputable def args31:List Value:=[(.agg #[(.int .i64 (0)),(.int .i64 (10)),(.int .i64 (2)),(.slice (some ⟨291,95,none⟩) 16 20)])]
noncomputable def res31:Value:=(.tuple #[(.slice (some ⟨599,0,none⟩) 2 2),(.bool true)])
theorem run31:runP env (O30) 12942 199 (enterF P 199 args31.toArray .normal) [] from31 [] (isSP res31 to31 [582,583,584,585,586,587,588,589,590,591,592,593,594,595,596,597,598,600,601,602,622,639,640,641,642,643])=true:=by kernel_rfl
noncomputable def O31:Orc P:=⟨goodK,(O30).tab,⟨199,args31,from31,res31,to31⟩ :: (O30).mem,Orc.mem_ok (O30) (ans_of_runP env (O30) mixed run31),(O30).ok⟩
noncomputable def o64:Option AObj:=some (.row #[(.pointer (some ⟨648,0,none⟩))] 438 0 0 false)
noncomputable def c34:List (Option AObj):=[none,o53,o53,o55,o7,some (.row #[(.slice (some ⟨647,0,none⟩) 16 16),(.int .i64 (126))] 468 0 0 false),some (.row #[(.pointer (some ⟨648,0,none⟩)),(.bool false),(.int .u64 (10)),(.int .i64 (31)),(.int .i64 (0)),(.bool false)] 441 0 0 false),o64]
noncomputable def c35:List (Option AObj):=[o57,o58,o59,o3,o3,o64,o60,o58]
noncomputable def from32:AState:=mkS 11 (cat [c10,c2,c2,c2,c2,c2,c2,c2,c2,c2,c2,c2,c2,c2,c2,c2,c2,c2,c2,c2,c2,c2,c2,c2,c2,c2,c2,c2,c2,c2,c2,c2,c2,c2,c2,c24,c2,c11,c17,c2,c2,c2,c2,c2,c2,c2,c2,c2,c2,c2,c2,c2,c2,c2,c2,c2,c2,c2,c2,c2,c2,c2,c25,c26,c19,c2,c2,c2,c2,c27,c28,c32,c2,c33,c2,c2,c2,c2,c2,c34,c35,[o61,o62,o4,o63,o5,some (.row #[(.pointer (some ⟨663,0,none⟩)),(.int .i64 (0)),(.int .i64 (0)),(.int .u64 (0)),(.int .u64 (0)),(.int .i64 (0)),(.int .i64 (0)),(.int .i64 (0)),(.bool false)] 231 0 0 false),o3]])
noncomputable def c36:List (Option AObj):=[o61,o62,o4,o63,some (.row #[(.slice (some ⟨684,0,none⟩) 9 9),(.int .i64 (72))] 378 0 0 false),some (.row #[(.pointer (some ⟨663,0,none⟩)),(.int .i64 (0)),(.int .i64 (0)),(.int .u64 (1)),(.int .u64 (0)),(.int .i64 (1)),(.int .i64 (0)),(.int .i64 (0)),(.bool false)] 231 0 0 false),o3,none]
noncomputable def to32:AState:=mkS 11 (cat [c10,c2,c2,c2,c2,c2,c2,c2,c2,c2,c2,c2,c2,c2,c2,c2,c2,c2,c2,c2,c2,c2,c2,c2,c2,c2,c2,c2,c2,c2,c2,c2,c2,c2,c2,c24,c2,c11,c17,c2,c2,c2,c2,c2,c2,c2,c2,c2,c2,c2,c2,c2,c2,c2,c2,c2,c2,c2,c2,c2,c2,c2,c25,c26,c19,c2,c2,c2,c2,c27,c28,c32,c2,c33,c2,c2,c2,c2,c2,c34,c35,c36,c2,c2,[none,o6]])
noncomputable def args32:List Value:=[(.pointer (some ⟨664,0,none⟩)),(.agg #[(.int .i64 (0)),(.int .u64 (1))])]
noncomputable def res32:Value:=(.int .u16 (0))
theorem run32:runP env (O31) 11784 95 (enterF P 95 args32.toArray .normal) [] from32 [] (isSP res32 to32 [666,667,669,671,673,675,677,679,681,683])=true:=by kernel_rfl
noncomputable def O32:Orc P:=⟨goodK,(O31).tab,⟨95,args32,from32,res32,to32⟩ :: (O31).mem,Orc.mem_ok (O31) (ans_of_runP env (O31) mixed run32),(O31).ok⟩
noncomputable def from33:AState:=mkS 11 (cat [c10,c2,c2,c2,c2,c2,c2,c2,c2,c2,c2,c2,c2,c2,c2,c2,c2,c2,c2,c2,c2,c2,c2,c2,c2,c2,c2,c2,c2,c2,c2,c2,c2,c2,c2,c24,c2,c11,c17,c2,c2,c2,c2,c2,c2,c2,c2,c2,c2,c2,c2,c2,c2,c2,c2,c2,c2,c2,c2,c2,c2,c2,c25,c26,c19,c2,c2,c2,c2,c27,c28,c32,c2,c33,c2,c2,c2,c2,c2,c34,c35,c36,c2,c2,[none,o6,o4]])
noncomputable def to33:AState:=mkS 11 (cat [c10,c2,c2,c2,c2,c2,c2,c2,c2,c2,c2,c2,c2,c2,c2,c2,c2,c2,c2,c2,c2,c2,c2,c2,c2,c2,c2,c2,c2,c2,c2,c2,c2,c2,c2,c24,c2,c11,c17,c2,c2,c2,c2,c2,c2,c2,c2,c2,c2,c2,c2,c2,c2,c2,c2,c2,c2,c2,c2,c2,c2,c2,c25,c26,c19,c2,c2,c2,c2,c27,c28,c32,c2,c33,c2,c2,c2,c2,c2,c34,c35,[o61,o62,o4,o63,some (.row #[(.slice (some ⟨702,0,none⟩) 16 16),(.int .i64 (126))] 378 0 0 false),some (.row #[(.pointer (some ⟨663,0,none⟩)),(.int .i64 (0)),(.int .i64 (10)),(.int .u64 (2)),(.int .u64 (10)),(.int .i64 (2)),(.int .i64 (31)),(.int .i64 (0)),(.bool true)] 231 0 0 false),o3,none],c2,c2,[none,none,o4,none,none,none,none,none],c2,[none,none,none,o7]])
noncomputable def args33:List Value:=[(.pointer (some ⟨664,0,none⟩)),(.agg #[(.int .i64 (10)),(.int .u64 (2))])]
noncomputable def res33:Value:=(.int .u16 (0))
theorem run33:runP env (O32) 10062 95 (enterF P 95 args33.toArray .normal) [] from33 [] (isSP res33 to33 [686,687,689,691,692,694,695,697,699,701])=true:=by kernel_rfl
noncomputable def O33:Orc P:=⟨goodK,(O32).tab,⟨95,args33,from33,res33,to33⟩ :: (O32).mem,Orc.mem_ok (O32) (ans_of_runP env (O32) mixed run33),(O32).ok⟩
noncomputable def from34:AState:=mkS 11 (cat [c10,c2,c2,c2,c2,c2,c2,c2,c2,c2,c2,c2,c2,c2,c2,c2,c2,c2,c2,c2,c2,c2,c2,c2,c2,c2,c2,c2,c2,c2,c2,c2,c2,c2,c2,c24,c2,c11,c17,c2,c2,c2,c2,c2,c2,c2,c2,c2,c2,c2,c2,c2,c2,c2,c2,c2,c2,c2,c2,c2,c2,c2,c25,c26,c19,c2,c2,c2,c2,c27,c28,c32,c2,c33,c2,c2,c2,c2,c2,[none,o53]])
noncomputable def to34:AState:=mkS 11 (cat [c10,c2,c2,c2,c2,c2,c2,c2,c2,c2,c2,c2,c2,c2,c2,c2,c2,c2,c2,c2,c2,c2,c2,c2,c2,c2,c2,c2,c2,c2,c2,c2,c2,c2,c2,c24,c2,c11,c17,c2,c2,c2,c2,c2,c2,c2,c2,c2,c2,c2,c2,c2,c2,c2,c2,c2,c2,c2,c2,c2,c2,c2,c25,c26,c19,c2,c2,c2,c2,c27,c28,c32,c2,c33,c2,c2,c2,c2,c2,[none,o53,none,none,none,none,none,none],c2,[none,none,none,o63,none,none,none,none],c2,c2,c2,c2,c2])
noncomputable def args34:List Value:=[(.agg #[(.int .i64 (0)),(.int .i64 (10)),(.int .i64 (2)),(.slice (some ⟨291,95,none⟩) 16 20)])]
noncomputable def res34:Value:=(.tuple #[(.slice (some ⟨662,0,none⟩) 2 2),(.bool true)])
theorem run34:runP env (O33) 12942 199 (enterF P 199 args34.toArray .normal) [] from34 [] (isSP res34 to34 [645,646,647,648,649,650,651,652,653,654,655,656,657,658,659,660,661,663,664,665,685,702,703,704,705,706])=true:=by kernel_rfl
noncomputable def O34:Orc P:=⟨goodK,(O33).tab,⟨199,args34,from34,res34,to34⟩ :: (O33).mem,Orc.mem_ok (O33) (ans_of_runP env (O33) mixed run34),(O33).ok⟩
noncomputable def from35:AState:=mkS 11 (cat [c10,c2,c2,c2,c2,c2,c2,c2,c2,c2,c2,c2,c2,c2,c2,c2,c2,c2,c2,c2,c2,c2,c2,c2,c2,c2,c2,c2,c2,c2,c2,c2,c2,c2,c2,c24,c2,c11,c17,c2,c2,c2,c2,c2,c2,c2,c2,c2,c2,c2,c2,c2,c2,c2,c2,c2,c2,c2,c2,c2,c2,c2,c25,c26,c19,c2,c2,c2,c2,c27,c28])
noncomputable def to35:AState:=mkS 11 (cat [c10,c2,c2,c2,c2,c2,c2,c2,c2,c2,c2,c2,c2,c2,c2,c2,c2,c2,c2,c2,c2,c2,c2,c2,c2,c2,c2,c2,c2,c2,c2,c2,c2,c2,c2,c24,c2,c11,c17,c2,c2,c2,c2,c2,c2,c2,c2,c2,c2,c2,c2,c2,c2,c2,c2,c2,c2,c2,c2,c2,c2,c2,c25,c26,c19,c2,c2,c2,c2,c27,c28,c2,c2,c2,c2,c2,c2,c2,c2,c2,c2,c2,c2,c2,c2,c2,c2,c2,[none,none,none,o63]])
noncomputable def args35:List Value:=[(.slice (some ⟨578,0,none⟩) 1 1)]
noncomputable def res35:Value:=(.tuple #[(.slice (some ⟨718,0,none⟩) 2 2),(.int .u16 (0))])
theorem run35:runP env (O34) 3524 122 (enterF P 122 args35.toArray .normal) [] from35 [] (isSP res35 to35 [579,580,581,599,644,662,707,708,709,710,711,712,713,715,716,717])=true:=by kernel_rfl
noncomputable def O35:Orc P:=⟨goodK,(O34).tab,⟨122,args35,from35,res35,to35⟩ :: (O34).mem,Orc.mem_ok (O34) (ans_of_runP env (O34) mixed run35),(O34).ok⟩
noncomputable def from36:AState:=to16
noncomputable def c37:List (Option AObj):=[none,o37,none,none,none,none,none,none]
noncomputable def o65:Option AObj:=some (.row #[(.slice (some ⟨572,0,none⟩) 1 1),(.slice (some ⟨718,0,none⟩) 2 2)] 75 0 0 true)
noncomputable def to36:AState:=mkS 11 (cat [c10,c2,c2,c2,c2,c2,c2,c2,c2,c2,c2,c2,c2,c2,c2,c2,c2,c2,c2,c2,c2,c2,c2,c2,c2,c2,c2,c2,c2,c2,c2,c2,c2,c2,c2,c24,c2,c2,c2,c2,c2,c2,c2,c2,c2,c2,c2,c2,c2,c2,c2,c2,c2,c2,c2,c2,c2,c2,c2,c2,c2,c2,c2,c2,c2,c2,c2,c2,c2,c2,c37,c2,c2,c2,c2,c2,c2,c2,c2,c2,c2,c2,c2,c2,c2,c2,c2,c2,[none,none,none,o63,none,o65]])
noncomputable def args36:List Value:=[(.slice (some ⟨291,0,none⟩) 115 115)]
noncomputable def res36:Value:=(.tuple #[(.slice (some ⟨720,0,none⟩) 1 1),.nilIface])
theorem run36:runP env (O35) 4016 82 (enterF P 82 args36.toArray .normal) [] from36 [] (isSP res36 to36 [310,319,321,514,515,516,517,530,563,565,567,569,570,571,573,574,575,576,577,578,719])=true:=by kernel_rfl
noncomputable def O36:Orc P:=⟨goodK,(O35).tab,⟨82,args36,from36,res36,to36⟩ :: (O35).mem,Orc.mem_ok (O35) (ans_of_runP env (O35) mixed run36),(O35).ok⟩
noncomputable def o66:Option AObj:=some (.row #[(.int .u32 (1)),(.int .i64 (0)),(.int .i64 (0)),(.int .i64 (0)),(.int .i64 (1)),(.slice (some ⟨720,0,none⟩) 1 1)] 169 0 0 false)
noncomputable def c38:List (Option AObj):=[none,none,none,o63,none,o65,o66,some (.row #[(.slice (some ⟨572,0,none⟩) 1 1),(.slice (some ⟨718,0,none⟩) 2 2)] 75 0 0 false)]
noncomputable def from37:AState:=mkS 11 (cat [c10,c2,c2,c2,c2,c2,c2,c2,c2,c2,c2,c2,c2,c2,c2,c2,c2,c2,c2,c2,c2,c2,c2,c2,c2,c2,c2,c2,c2,c2,c2,c2,c2,c2,c2,c24,c2,c2,c2,c2,c2,c2,c2,c2,c2,c2,c2,c2,c2,c2,c2,c2,c2,c2,c2,c2,c2,c2,c2,c2,c2,c2,c2,c2,c2,c2,c2,c2,c2,c2,c37,c2,c2,c2,c2,c2,c2,c2,c2,c2,c2,c2,c2,c2,c2,c2,c2,c2,c38,[o3,o4,o5,some (.row #[(.pointer (some ⟨725,0,none⟩)),(.int .i64 (0)),(.int .i64 (0)),(.int .u64 (0)),(.int .u64 (0)),(.int .i64 (0)),(.int .i64 (0)),(.int .i64 (0)),(.bool false)] 231 0 0 false),o3]])
noncomputable def c39:List (Option AObj):=[o3,o4,some (.row #[(.slice (some ⟨746,0,none⟩) 9 9),(.int .i64 (72))] 378 0 0 false),some (.row #[(.pointer (some ⟨725,0,none⟩)),(.int .i64 (0)),(.int .i64 (0)),(.int .u64 (1)),(.int .u64 (0)),(.int .i64 (1)),(.int .i64 (0)),(.int .i64 (0)),(.bool false)] 231 0 0 false),o3,none,none,none]
noncomputable def c40:List (Option AObj):=[none,none,none,none,none,none,none,o6]
noncomputable def to37:AState:=mkS 11 (cat [c10,c2,c2,c2,c2,c2,c2,c2,c2,c2,c2,c2,c2,c2,c2,c2,c2,c2,c2,c2,c2,c2,c2,c2,c2,c2,c2,c2,c2,c2,c2,c2,c2,c2,c2,c24,c2,c2,c2,c2,c2,c2,c2,c2,c2,c2,c2,c2,c2,c2,c2,c2,c2,c2,c2,c2,c2,c2,c2,c2,c2,c2,c2,c2,c2,c2,c2,c2,c2,c2,c37,c2,c2,c2,c2,c2,c2,c2,c2,c2,c2,c2,c2,c2,c2,c2,c2,c2,c38,c39,c2,c40])
noncomputable def args37:List Value:=[(.pointer (some ⟨726,0,none⟩)),(.agg #[(.int .i64 (0)),(.int .u64 (1))])]
noncomputable def res37:Value:=(.int .u16 (0))
theorem run37:runP env (O36) 11784 95 (enterF P 95 args37.toArray .normal) [] from37 [] (isSP res37 to37 [728,729,731,733,735,737,739,741,743,745])=true:=by kernel_rfl
noncomputable def O37:Orc P:=⟨goodK,(O36).tab,⟨95,args37,from37,res37,to37⟩ :: (O36).mem,Orc.mem_ok (O36) (ans_of_runP env (O36) mixed run37),(O36).ok⟩
noncomputable def from38:AState:=mkS 11 (cat [c10,c2,c2,c2,c2,c2,c2,c2,c2,c2,c2,c2,c2,c2,c2,c2,c2,c2,c2,c2,c2,c2,c2,c2,c2,c2,c2,c2,c2,c2,c2,c2,c2,c2,c2,c24,c2,c2,c2,c2,c2,c2,c2,c2,c2,c2,c2,c2,c2,c2,c2,c2,c2,c2,c2,c2,c2,c2,c2,c2,c2,c2,c2,c2,c2,c2,c2,c2,c2,c2,c37,c2,c2,c2,c2,c2,c2,c2,c2,c2,c2,c2,c2,c2,c2,c2,c2,c2,c38,c39,c2,c40,[o4]])
noncomputable def to38:AState:=mkS 11 (cat [c10,c2,c2,c2,c2,c2,c2,c2,c2,c2,c2,c2,c2,c2,c2,c2,c2,c2,c2,c2,c2,c2,c2,c2,c2,c2,c2,c2,c2,c2,c2,c2,c2,c2,c2,c24,c2,c2,c2,c2,c2,c2,c2,c2,c2,c2,c2,c2,c2,c2,c2,c2,c2,c2,c2,c2,c2,c2,c2,c2,c2,c2,c2,c2,c2,c2,c2,c2,c2,c2,c37,c2,c2,c2,c2,c2,c2,c2,c2,c2,c2,c2,c2,c2,c2,c2,c2,c2,c38,[o3,o4,some (.row #[(.slice (some ⟨764,0,none⟩) 16 16),(.int .i64 (126))] 378 0 0 false),some (.row #[(.pointer (some ⟨725,0,none⟩)),(.int .i64 (0)),(.int .i64 (10)),(.int .u64 (2)),(.int .u64 (10)),(.int .i64 (2)),(.int .i64 (31)),(.int .i64 (0)),(.bool true)] 231 0 0 false),o3,none,none,none],c2,c2,[o4,none,none,none,none,none,none,none],c2,[none,o7]])
noncomputable def args38:List Value:=[(.pointer (some ⟨726,0,none⟩)),(.agg #[(.int .i64 (10)),(.int .u64 (2))])]
noncomputable def res38:Value:=(.int .u16 (0))
theorem run38:runP env (O37) 10062 95 (enterF P 95 args38.toArray .normal) [] from38 [] (isSP res38 to38 [748,749,751,753,754,756,757,759,761,763])=true:=by kernel_rfl
noncomputable def O38:Orc P:=⟨goodK,(O37).tab,⟨95,args38,from38,res38,to38⟩ :: (O37).mem,Orc.mem_ok (O37) (ans_of_runP env (O37) mixed run38),(O37).ok⟩
noncomputable def from39:AState:=mkS 11 (cat [c10,c2,c2,c2,c2,c2,c2,c2,c2,c2,c2,c2,c2,c2,c2,c2,c2,c2,c2,c2,c2,c2,c2,c2,c2,c2,c2,c2,c2,c2,c2,c2,c2,c2,c2,c24,c2,c2,c2,c2,c2,c2,c2,c2,c2,c2,c2,c2,c2,c2,c2,c2,c2,c2,c2,c2,c2,c2,c2,c2,c2,c2,c2,c2,c2,c2,c2,c2,c2,c2,c37,c2,c2,c2,c2,c2,c2,c2,c2,c2,c2,c2,c2,c2,c2,c2,c2,c2,c38])
noncomputable def o67:Option AObj:=some (.row #[(.int .i64 (0)),(.int .i64 (10)),(.int .i64 (2)),(.slice (some ⟨767,0,none⟩) 16 16)] 98 0 0 true)
noncomputable def to39:AState:=mkS 11 (cat [c10,c2,c2,c2,c2,c2,c2,c2,c2,c2,c2,c2,c2,c2,c2,c2,c2,c2,c2,c2,c2,c2,c2,c2,c2,c2,c2,c2,c2,c2,c2,c2,c2,c2,c2,c24,c2,c2,c2,c2,c2,c2,c2,c2,c2,c2,c2,c2,c2,c2,c2,c2,c2,c2,c2,c2,c2,c2,c2,c2,c2,c2,c2,c2,c2,c2,c2,c2,c2,c2,c37,c2,c2,c2,c2,c2,c2,c2,c2,c2,c2,c2,c2,c2,c2,c2,c2,c2,c38,c2,c2,c2,c2,c2,[none,none,none,none,o7,none,o67]])
noncomputable def args39:List Value:=[(.slice (some ⟨718,0,none⟩) 2 2)]
noncomputable def res39:Value:=(.tuple #[(.slice (some ⟨769,0,none⟩) 1 1),(.int .u16 (0))])
theorem run39:runP env (O38) 3696 65 (enterF P 65 args39.toArray .normal) [] from39 [] (isSP res39 to39 [723,724,725,726,727,747,764,765,766,768])=true:=by kernel_rfl
noncomputable def O39:Orc P:=⟨goodK,(O38).tab,⟨65,args39,from39,res39,to39⟩ :: (O38).mem,Orc.mem_ok (O38) (ans_of_runP env (O38) mixed run39),(O38).ok⟩
noncomputable def o68:Option AObj:=some (.row #[(.slice (some ⟨572,0,none⟩) 1 1),(.slice (some ⟨773,0,none⟩) 1 1)] 93 0 0 false)
noncomputable def c41:List (Option AObj):=[none,none,none,none,o7,none,o67,o68]
noncomputable def o69:Option AObj:=some (.row #[(.int .i64 (0)),(.int .i64 (10)),(.int .i64 (2)),(.slice (some ⟨767,0,none⟩) 16 16)] 98 0 0 false)
noncomputable def o70:Option AObj:=some (.row #[(.slice (some ⟨572,0,none⟩) 1 1),(.slice (some ⟨773,0,none⟩) 1 1)] 93 0 0 true)
noncomputable def c42:List (Option AObj):=[o69,o10,o11,o7,o68,o70,o68,o0]
noncomputable def from40:AState:=mkS 11 (cat [c10,c2,c2,c2,c2,c2,c2,c2,c2,c2,c2,c2,c2,c2,c2,c2,c2,c2,c2,c2,c2,c2,c2,c2,c2,c2,c2,c2,c2,c2,c2,c2,c2,c2,c2,c24,c2,c2,c2,c2,c2,c2,c2,c2,c2,c2,c2,c2,c2,c2,c2,c2,c2,c2,c2,c2,c2,c2,c2,c2,c2,c2,c2,c2,c2,c2,c2,c2,c2,c2,c37,c2,c2,c2,c2,c2,c2,c2,c2,c2,c2,c2,c2,c2,c2,c2,c2,c2,c38,c2,c2,c2,c2,c2,c41,c42,[o13,o0,o10,o14,some (.row #[(.slice (some ⟨782,0,none⟩) 4 4),(.slice none 0 0),(.map none)] 239 0 0 false)]])
noncomputable def c43:List (Option AObj):=[o15,o16,none,none,none,none,none,none]
noncomputable def to40:AState:=mkS 11 (cat [c10,c2,c2,c2,c2,c2,c2,c2,c2,c2,c2,c2,c2,c2,c2,c2,c2,c2,c2,c2,c2,c2,c2,c2,c2,c2,c2,c2,c2,c2,c2,c2,c2,c2,c2,c24,c2,c2,c2,c2,c2,c2,c2,c2,c2,c2,c2,c2,c2,c2,c2,c2,c2,c2,c2,c2,c2,c2,c2,c2,c2,c2,c2,c2,c2,c2,c2,c2,c2,c2,c37,c2,c2,c2,c2,c2,c2,c2,c2,c2,c2,c2,c2,c2,c2,c2,c2,c2,c38,c2,c2,c2,c2,c2,c41,c42,[o13,o0,o10,o14,some (.row #[(.slice (some ⟨814,0,none⟩) 14 14),(.slice (some ⟨795,0,none⟩) 2 2),(.map (some 796))] 239 0 0 false),none,none,none],c2,c43,c2,[none,none,none,o17]])
noncomputable def args40:List Value:=[(.pointer (some ⟨783,0,none⟩)),(.slice (some ⟨776,0,none⟩) 1 1)]
noncomputable def res40:Value:=(.tuple #[])
theorem run40_0:runP env (O39) 4760 97 (enterF P 97 args40.toArray .normal) [] from40 [(0,2)] (isSP res40 to40 [784,785,786,787,788,789,790,791,792,794,797,799,801,803,805,807,810,812])=true:=by kernel_rfl
theorem run40_1:runP env (O39) 4760 97 (enterF P 97 args40.toArray .normal) [] from40 [(1,2)] (isSP res40 to40 [784,785,786,787,788,789,790,791,792,794,797,799,801,803,805,807,810,812])=true:=by kernel_rfl
theorem run40:runP env (O39) 4760 97 (enterF P 97 args40.toArray .normal) [] from40 [] (isSP res40 to40 [784,785,786,787,788,789,790,791,792,794,797,799,801,803,805,807,810,812])=true:=runP_twoS env (O39) (p:=[]) run40_0 run40_1
noncomputable def O40:Orc P:=⟨goodK,(O39).tab,⟨97,args40,from40,res40,to40⟩ :: (O39).mem,Orc.mem_ok (O39) (ans_of_runP env (O39) mixed run40),(O39).ok⟩
noncomputable def c44:List (Option AObj):=[none,none,none,none,o18,none,o19,none]
noncomputable def from41:AState:=mkS 11 (cat [c10,c2,c2,c2,c2,c2,c2,c2,c2,c2,c2,c2,c2,c2,c2,c2,c2,c2,c2,c2,c2,c2,c2,c2,c2,c2,c2,c2,c2,c2,c2,c2,c2,c2,c2,c24,c2,c2,c2,c2,c2,c2,c2,c2,c2,c2,c2,c2,c2,c2,c2,c2,c2,c2,c2,c2,c2,c2,c2,c2,c2,c2,c2,c2,c2,c2,c2,c2,c2,c2,c37,c2,c2,c2,c2,c2,c2,c2,c2,c2,c2,c2,c2,c2,c2,c2,c2,c2,c38,c2,c2,c2,c2,c2,c41,c42,[o13,o0,o10,o14,some (.row #[(.slice (some ⟨822,0,none⟩) 18 18),(.slice (some ⟨795,0,none⟩) 2 2),(.map (some 796))] 239 0 0 false),none,none,none],c2,c43,c2,c44,[o19,none,o19,o20,o68]])
noncomputable def c45:List (Option AObj):=[o19,none,o19,none,o68,none,none,none]
noncomputable def to41:AState:=mkS 11 (cat [c10,c2,c2,c2,c2,c2,c2,c2,c2,c2,c2,c2,c2,c2,c2,c2,c2,c2,c2,c2,c2,c2,c2,c2,c2,c2,c2,c2,c2,c2,c2,c2,c2,c2,c2,c24,c2,c2,c2,c2,c2,c2,c2,c2,c2,c2,c2,c2,c2,c2,c2,c2,c2,c2,c2,c2,c2,c2,c2,c2,c2,c2,c2,c2,c2,c2,c2,c2,c2,c2,c37,c2,c2,c2,c2,c2,c2,c2,c2,c2,c2,c2,c2,c2,c2,c2,c2,c2,c38,c2,c2,c2,c2,c2,c41,c42,[o13,o0,o10,o14,some (.row #[(.slice (some ⟨904,0,none⟩) 57 57),(.slice (some ⟨795,0,none⟩) 2 2),(.map (some 796))] 239 0 0 false),none,none,none],c2,c43,c2,c44,c45,c2,c2,c2,c2,c2,c2,c2,c2,c2,[none,none,none,none,none,o21]])
noncomputable def args41:List Value:=[(.pointer (some ⟨783,0,none⟩)),(.agg #[(.slice (some ⟨572,0,none⟩) 1 1),(.slice (some ⟨773,0,none⟩) 1 1)])]
noncomputable def res41:Value:=(.tuple #[])
theorem run41:runP env (O40) 6346 99 (enterF P 99 args41.toArray .normal) [] from41 [] (isSP res41 to41 [824,825,827,828,830,832,834,836,838,840,842,844,846,848,850,852,853,855,857,859,861,863,865,867,869,871,873,875,877,879,881,883,885,887,889,891,893,895,897,899,901,903])=true:=by kernel_rfl
noncomputable def O41:Orc P:=⟨goodK,(O40).tab,⟨99,args41,from41,res41,to41⟩ :: (O40).mem,Orc.mem_ok (O40) (ans_of_runP env (O40) mixed run41),(O40).ok⟩
noncomputable def from42:AState:=to41
noncomputable def to42:AState:=mkS 11 (cat [c10,c2,c2,c2,c2,c2,c2,c2,c2,c2,c2,c2,c2,c2,c2,c2,c2,c2,c2,c2,c2,c2,c2,c2,c2,c2,c2,c2,c2,c2,c2,c2,c2,c2,c2,c24,c2,c2,c2,c2,c2,c2,c2,c2,c2,c2,c2,c2,c2,c2,c2,c2,c2,c2,c2,c2,c2,c2,c2,c2,c2,c2,c2,c2,c2,c2,c2,c2,c2,c2,c37,c2,c2,c2,c2,c2,c2,c2,c2,c2,c2,c2,c2,c2,c2,c2,c2,c2,c38,c2,c2,c2,c2,c2,c41,c42,[o13,o0,o10,o14,some (.row #[(.slice (some ⟨960,0,none⟩) 77 77),(.slice (some ⟨795,0,none⟩) 2 2),(.map (some 796))] 239 0 0 false),none,none,none],c2,c43,c2,c44,c45,c2,c2,c2,c2,c2,c2,c2,c2,c2,c2,c2,c2,c2,c2,c2,c2,[none,none,none,none,none,o22]])
noncomputable def args42:List Value:=[(.pointer (some ⟨783,0,none⟩)),(.slice (some ⟨776,0,none⟩) 1 1)]
noncomputable def res42:Value:=(.tuple #[])
theorem run42:runP env (O41) 5520 100 (enterF P 100 args42.toArray .normal) [] from42 [] (isSP res42 to42 [905,906,907,908,909,910,911,913,915,917,919,920,921,922,923,924,925,926,927,928,929,931,933,935,937,939,941,943,945,947,949,951,953,955,957,959])=true:=by kernel_rfl
noncomputable def O42:Orc P:=⟨goodK,(O41).tab,⟨100,args42,from42,res42,to42⟩ :: (O41).mem,Orc.mem_ok (O41) (ans_of_runP env (O41) mixed run42),(O41).ok⟩
noncomputable def from43:AState:=to42
def bs43:List Nat:=[66,71,73,88,2,0,0,0,1,0,49,1,0,97,1,0,0,0,1,1,0,0,0,0,0,0,0,1,0,0,0,0,0,0,0,0,0,0,0,10,0,0,0,0,0,0,0,2,0,0,0,0,0,16,0,0,0,1,0,0,0,1,0,0,0,0,0,0,0,1,0,0,0,0,0,0,0]
theorem sum43:((crc bs43:Nat):Int)=4075395254:=by kernel_rfl
theorem all43:bs43.all (fun x=>decide (x<256))=true:=by kernel_rfl
theorem len43:bs43.length=77:=by kernel_rfl
theorem in43:bytesInA from43 960 0 bs43=true:=by kernel_rfl
noncomputable def O43:Orc P:=⟨goodK,(O42).tab,⟨68,[.slice (some ⟨960,0,none⟩) 77 77],from43,.int .u32 4075395254,from43⟩ :: (O42).mem,Orc.mem_ok (O42) (fun B w0 ρ w a _=>ans_read (sum_read len43 (by decide) (by decide) all43 sum43) in43 B w0 ρ w a),(O42).ok⟩
noncomputable def from44:AState:=mkS 11 (cat [c10,c2,c2,c2,c2,c2,c2,c2,c2,c2,c2,c2,c2,c2,c2,c2,c2,c2,c2,c2,c2,c2,c2,c2,c2,c2,c2,c2,c2,c2,c2,c2,c2,c2,c2,c24,c2,c2,c2,c2,c2,c2,c2,c2,c2,c2,c2,c2,c2,c2,c2,c2,c2,c2,c2,c2,c2,c2,c2,c2,c2,c2,c2,c2,c2,c2,c2,c2,c2,c2,c37,c2,c2,c2,c2,c2,c2,c2,c2,c2,c2,c2,c2,c2,c2,c2,c2,c2,c38,c2,c2,c2,c2,c2,c41,[o69,o10,o11,o7,o68,o70]])
noncomputable def c46:List (Option AObj):=[o69,o10,o11,o7,o68,o70,none,none]
noncomputable def to44:AState:=mkS 11 (cat [c10,c2,c2,c2,c2,c2,c2,c2,c2,c2,c2,c2,c2,c2,c2,c2,c2,c2,c2,c2,c2,c2,c2,c2,c2,c2,c2,c2,c2,c2,c2,c2,c2,c2,c2,c24,c2,c2,c2,c2,c2,c2,c2,c2,c2,c2,c2,c2,c2,c2,c2,c2,c2,c2,c2,c2,c2,c2,c2,c2,c2,c2,c2,c2,c2,c2,c2,c2,c2,c2,c37,c2,c2,c2,c2,c2,c2,c2,c2,c2,c2,c2,c2,c2,c2,c2,c2,c2,c38,c2,c2,c2,c2,c2,c41,c46,c2,c2,c2,c2,c2,c2,c2,c2,c2,c2,c2,c2,c2,c2,c2,c2,c2,c2,c2,c2,c2,c2,c2,[none,none,none,none,none,o23]])
noncomputable def args44:List Value:=[(.slice (some ⟨776,0,none⟩) 1 1)]
noncomputable def res44:Value:=(.tuple #[(.slice (some ⟨968,0,none⟩) 81 81),(.int .u16 (0))])
theorem run44:runP env (O43) 4646 66 (enterF P 66 args44.toArray .normal) [] from44 [] (isSP res44 to44 [777,778,779,780,781,782,783,795,796,815,817,819,821,823,961,963,965,967])=true:=by kernel_rfl
noncomputable def O44:Orc P:=⟨goodK,(O43).tab,⟨66,args44,from44,res44,to44⟩ :: (O43).mem,Orc.mem_ok (O43) (ans_of_runP env (O43) mixed run44),(O43).ok⟩
noncomputable def from45:AState:=mkS 11 (cat [c10,c2,c2,c2,c2,c2,c2,c2,c2,c2,c2,c2,c2,c2,c2,c2,c2,c2,c2,c2,c2,c2,c2,c2,c2,c2,c2,c2,c2,c2,c2,c2,c2,c2,c2,c24,c2,c2,c2,c2,c2,c2,c2,c2,c2,c2,c2,c2,c2,c2,c2,c2,c2,c2,c2,c2,c2,c2,c2,c2,c2,c2,c2,c2,c2,c2,c2,c2,c2,c2,c37,c2,c2,c2,c2,c2,c2,c2,c2,c2,c2,c2,c2,c2,c2,c2,c2,c2,c38,c2,c2,c2,c2,c2,c41,c46,c2,c2,c2,c2,c2,c2,c2,c2,c2,c2,c2,c2,c2,c2,c2,c2,c2,c2,c2,c2,c2,c2,c2,[none,none,none,none,none,o23,o24,o18],[none,o19,none,o19,none,o19,none,o18],[none,o19,none,o25,none,o19,none,o19],[none,o19,none,none,o26]])
def bs45:List Nat:=[66,71,66,76,1,0,0,0,1,0,81,0,0,0,66,71,73,88,2,0,0,0,1,0,49,1,0,97,1,0,0,0,1,1,0,0,0,0,0,0,0,1,0,0,0,0,0,0,0,0,0,0,0,10,0,0,0,0,0,0,0,2,0,0,0,0,0,16,0,0,0,1,0,0,0,1,0,0,0,0,0,0,0,1,0,0,0,0,0,0,0,182,152,233,242,0,0,0,0,0,0,0,0,1,10,255,0,0,0,0,12]
theorem sum45:((crc bs45:Nat):Int)=2958240707:=by kernel_rfl
theorem all45:bs45.all (fun x=>decide (x<256))=true:=by kernel_rfl
theorem len45:bs45.length=111:=by kernel_rfl
theorem in45:bytesInA from45 991 0 bs45=true:=by kernel_rfl
noncomputable def O45:Orc P:=⟨goodK,(O44).tab,⟨68,[.slice (some ⟨991,0,none⟩) 111 111],from45,.int .u32 2958240707,from45⟩ :: (O44).mem,Orc.mem_ok (O44) (fun B w0 ρ w a _=>ans_read (sum_read len45 (by decide) (by decide) all45 sum45) in45 B w0 ρ w a),(O44).ok⟩
noncomputable def from46:AState:=mkS 11 (cat [c10,c2,c2,c2,c2,c2,c2,c2,c2,c2,c2,c2,c2,c2,c2,c2,c2,c2,c2,c2,c2,c2,c2,c2,c2,c2,c2,c2,c2,c2,c2,c2,c2,c2,c2,c24,c2,c2,c2,c2,c2,c2,c2,c2,c2,c2,c2,c2,c2,c2,c2,c2,c2,c2,c2,c2,c2,c2,c2,c2,c2,c2,c2,c2,c2,c2,c2,c2,c2,c2,c37,c2,c2,c2,c2,c2,c2,c2,c2,c2,c2,c2,c2,c2,c2,c2,c2,c2,[none,none,none,o63,none,o65,o66]])
noncomputable def to46:AState:=mkS 11 (cat [c10,c2,c2,c2,c2,c2,c2,c2,c2,c2,c2,c2,c2,c2,c2,c2,c2,c2,c2,c2,c2,c2,c2,c2,c2,c2,c2,c2,c2,c2,c2,c2,c2,c2,c2,c24,c2,c2,c2,c2,c2,c2,c2,c2,c2,c2,c2,c2,c2,c2,c2,c2,c2,c2,c2,c2,c2,c2,c2,c2,c2,c2,c2,c2,c2,c2,c2,c2,c2,c2,c37,c2,c2,c2,c2,c2,c2,c2,c2,c2,c2,c2,c2,c2,c2,c2,c2,c2,[none,none,none,o63,none,o65,o66,none],c2,c2,c2,c2,c2,c2,c2,c2,c2,c2,c2,c2,c2,c2,c2,c2,c2,c2,c2,c2,c2,c2,c2,c2,c2,c2,c2,c2,c2,c2,c2,c2,c2,c2,[none,none,none,none,o27]])
noncomputable def args46:List Value:=[(.int .u32 (1)),(.int .i64 (1)),(.slice (some ⟨720,0,none⟩) 1 1)]
noncomputable def res46:Value:=(.tuple #[(.slice (some ⟨999,0,none⟩) 115 115),(.int .u16 (0))])
theorem run46:runP env (O45) 4650 6 (enterF P 6 args46.toArray .normal) [] from46 [] (isSP res46 to46 [722,767,769,770,771,772,773,774,775,776,968,969,970,972,974,976,978,980,982,984,986,988,992,994,996,998])=true:=by kernel_rfl
noncomputable def O46:Orc P:=⟨goodK,(O45).tab,⟨6,args46,from46,res46,to46⟩ :: (O45).mem,Orc.mem_ok (O45) (ans_of_runP env (O45) mixed run46),(O45).ok⟩
noncomputable def from47:AState:=to16
noncomputable def to47:AState:=mkS 11 (cat [c10,c2,c2,c2,c2,c2,c2,c2,c2,c2,c2,c2,c2,c2,c2,c2,c2,c2,c2,c2,c2,c2,c2,c2,c2,c2,c2,c2,c2,c2,c2,c2,c2,c2,c2,c24,c2,c2,c2,c2,c2,c2,c2,c2,c2,c2,c2,c2,c2,c2,c2,c2,c2,c2,c2,c2,c2,c2,c2,c2,c2,c2,c2,c2,c2,c2,c2,c2,c2,c2,c37,c2,c2,c2,c2,c2,c2,c2,c2,c2,c2,c2,c2,c2,c2,c2,c2,c2,[none,none,none,o63,none,o65,some (.row #[(.int .u32 (1)),(.int .i64 (0)),(.int .i64 (10)),(.int .i64 (2)),(.int .i64 (1)),(.slice (some ⟨720,0,none⟩) 1 1)] 169 0 0 false),none],c2,c2,c2,c2,c2,c2,c2,c2,c2,c2,c2,c2,c2,c2,c2,c2,c2,c2,c2,c2,c2,c2,c2,c2,c2,c2,c2,c2,c2,c2,c2,c2,c2,c2,[none,none,none,none,none,none]])
noncomputable def args47:List Value:=[(.slice (some ⟨291,0,none⟩) 115 115)]
noncomputable def res47:Value:=(.tuple #[(.pointer (some ⟨721,0,none⟩)),(.int .u16 (0))])
theorem run47:runP env (O46) 3828 28 (enterF P 28 args47.toArray .normal) [] from47 [] (isSP res47 to47 [999,1000])=true:=by kernel_rfl
noncomputable def O47:Orc P:=⟨goodK,(O46).tab,⟨28,args47,from47,res47,to47⟩ :: (O46).mem,Orc.mem_ok (O46) (ans_of_runP env (O46) mixed run47),(O46).ok⟩
noncomputable def args48:List Value:=[(.int .u32 (1)),(.int .i64 (1)),(.slice none 0 0)]
noncomputable def res48:Value:=(.tuple #[(.slice none 0 0),(.int .u16 (150))])
noncomputable def O48:Orc P:=⟨goodK,(6,args48,res48) :: (O47).tab,(O47).mem,(O47).memOk,Orc.more_ok (O47) (by kernel_rfl) x_write⟩
end Go.Eng.KX
