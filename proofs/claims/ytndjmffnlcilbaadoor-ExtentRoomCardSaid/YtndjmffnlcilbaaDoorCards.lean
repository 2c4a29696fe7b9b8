/-
  DERIVED. GIVEN WITH THE SEED: THE CARDS: each row of YtndjmffnlcilbaaDoorRows.lean that lists a variable, with what it lists TIED to the program's text (the seventh form; the later family's looks); each row that meets fmt, with fmt's text TOLD by the authors' own Lean function (tested against real Go, not proved from fmt's source: count such statements apart). THE CARD IS WHAT COUNTS. Prove the row's statement (the work); the ties are given (YtndjmffnlcilbaaDoorTie.lean); close each card by the builder's one call (the guide's Derived/Test/ToyasCard.lean, 'card_holds'). Laid BY PROGRAM, IN A SANDBOX (cutbox-door.mjs). By AI agents, Wed Nov 11 2026. No macro, syntax, notation, axiom, sorry.
-/
import Derived.Test.YtndjmffnlcilbaaDoorRows
import GoSem.ClaimSeven
namespace Go.Proofs.YtndjmffnlcilbaaDoor
namespace Rows

/-- THE TIED CARD OF 'barographlaw06.ExtentRoom'. -/
def extentRoomCard : Claim7 := { stood := { row := extentRoomRow, standIns := [], harness := (true, "394ff16b7cec389d6bb18ce84d351b27d6e1128b4f95f119a132093afe49dacb"), looks := true }, kinds := [], alts := [], laidByText := true, laidKinds := [.data, .pinned], laidTests := true, laidLooks := .later }
def ExtentRoomCardSaid : Prop := Claim7.holds Tryd.pinned (.plain (OpenSpec.ofChange extentRoomSpec)) extentRoomCard

/-- THE SECOND FORM's CARD OF 'barographlaw06.ExtentRoom'. -/
def extentRoomUptoCard : Claim7 := { stood := { row := extentRoomUptoRow, standIns := [], harness := (true, "394ff16b7cec389d6bb18ce84d351b27d6e1128b4f95f119a132093afe49dacb"), looks := true }, kinds := [], alts := [], laidByText := true, laidKinds := [.data, .pinned], laidTests := true, laidLooks := .later }
def ExtentRoomUptoCardSaid : Prop := Claim7.holds Tryd.pinned (.plain (OpenSpec.upto extentRoomSpec)) extentRoomUptoCard
end Rows
end Go.Proofs.YtndjmffnlcilbaaDoor
