/- The law BlockWrites of barographlaw15, for every input: it returns true, and its arguments read as before. No conditions of ours; the card ties the listed variables. -/
import Derived.Test.YtbecggfbblnglaaGreatDoorT41
import Derived.Test.YtbecggfbblnglaaGreatDoorT42
import Derived.Test.YtbecggfbblnglaaGreatDoorT43
import Derived.Test.YtbecggfbblnglaaGreatDoorCards
import Derived.Test.YtbecggfbblnglaaGreatDoorTie
import Derived.SevenTiedAt
set_option linter.unusedSimpArgs false
set_option linter.unusedVariables false
set_option linter.deprecated false
set_option linter.unnecessarySimpa false
namespace Go.Proofs.YtbecggfbblnglaaGreatDoor
open Go
theorem writes_card_holds:Rows.BlockWritesCardSaid :=
 Claim7.holds_tied_plain_at .later [] [.data,.data,.handle,.widerDeep,.pinned] true (true,"f9401c71e60fa0b26d3276f15b01477146993ebcdc041441e09431a32cd869cf") true writes_holds (fun _ h=>by cases h) (by kernel_rfl) (fun _ h=>by cases h) blockWrites_row_tie rfl ⟨rfl,rfl⟩ (by kernel_rfl) rfl
  (fun f fn hf hfn=>by
   obtain rfl:f=3:=Option.some.inj ((show Tryz.prog.funcNamed "barograph/barographlaw15.BlockWrites"=some 3 by kernel_rfl).symm.trans hf) |>.symm
   obtain rfl:fn=Tryz.f3:=(Option.some.inj (Tryz.func3.symm.trans hfn)).symm
   exact⟨row_looks,fun j t ht=>by
    rw [Tryz.params3] at ht
    have hm:t∈[22,3,23]:=by simpa using Array.mem_of_getElem? ht
    have hall:([22,3,23].all fun u=>!Tryz.prog.wantsStandIn u)=true:=by kernel_rfl
    exact (show Tryz.prog.wantsStandIn t=false by simpa using List.all_eq_true.1 hall t hm)⟩)
  row_goes
#print axioms writes_card_holds
end Go.Proofs.YtbecggfbblnglaaGreatDoor
