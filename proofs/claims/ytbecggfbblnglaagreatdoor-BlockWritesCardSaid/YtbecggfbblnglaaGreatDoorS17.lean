/- The library contracts of the kit, laid at this program by the kit tool. No conditions of ours. -/
import Derived.Test.YtbecggfbblnglaaGreatDoorS9
import Derived.Shelf.Strings.Trim
import Derived.Shelf.Strings.SlTrimAscii
import Derived.Shelf.Strings.Search1
import Derived.Shelf.Strings.Search3
import Derived.Ground.NamesProg
import Derived.Test.YtbecggfbblnglaaGreatDoorProg
set_option linter.unusedSimpArgs false
set_option linter.unusedVariables false
set_option linter.deprecated false
set_option linter.unnecessarySimpa false
namespace Go.Proofs
open Go.Shelf Go.RowKit
theorem Tryz.contains_one (s:ByteArray) (c:UInt8) (w:World) :
  Calls Tryz.prog 171 #[.string s,.string ⟨#[c]⟩] w fun e w'=>e=.returned (.bool (decide (0≤Lib.indexByte s.data.toList c)))∧w'=w:=Any.strings_Contains_one Tryz.lays144 s c w
theorem Tryz.trim_set (s cutset:ByteArray) (w:World) (hs:s.size≤9223372036854775807) (hcs:cutset.size<4294967281) (hascii:∀(j:Nat) (b:UInt8),cutset.data.toList[j]?=some b→b.toNat<128) :
  Calls Tryz.prog 172 #[.string s,.string cutset] w fun e w'=>e=.returned (.string ⟨(Lib.trimS s.data.toList cutset.data.toList).toArray⟩)∧Below w.heap.size w w':=Any.strings_Trim_laid Tryz.lays160 (by kernel_rfl) s cutset w hs hcs hascii
end Go.Proofs
