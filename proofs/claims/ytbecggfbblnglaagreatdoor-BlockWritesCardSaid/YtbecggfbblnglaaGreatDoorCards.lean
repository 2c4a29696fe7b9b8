/-
  DERIVED. GIVEN WITH THE SEED: THE CARDS: each row of YtbecggfbblnglaaGreatDoorRows.lean that lists a variable, with what it lists TIED to the program's text (the seventh form; the later family's looks); each row that meets fmt, with fmt's text TOLD by the authors' own Lean function (tested against real Go, not proved from fmt's source: count such statements apart). THE CARD IS WHAT COUNTS. Prove the row's statement (the work); the ties are given (YtbecggfbblnglaaGreatDoorTie.lean); close each card by the builder's one call (the guide's Derived/Test/ToyasCard.lean, 'card_holds'). Laid BY PROGRAM, IN A SANDBOX (cutbox-door.mjs). By AI agents, Wed Nov 11 2026. No macro, syntax, notation, axiom, sorry.
-/
import Derived.Test.YtbecggfbblnglaaGreatDoorRows
import GoSem.ClaimSeven
namespace Go.Proofs.YtbecggfbblnglaaGreatDoor
namespace Rows

/-- THE TIED CARD OF 'barographlaw15.BlockWrites'. -/
def blockWritesCard : Claim7 := { stood := { row := blockWritesRow, standIns := [], harness := (true, "f9401c71e60fa0b26d3276f15b01477146993ebcdc041441e09431a32cd869cf"), looks := true }, kinds := [], alts := [], laidByText := true, laidKinds := [.data, .data, .handle, .widerDeep, .pinned], laidTests := true, laidLooks := .later }
def BlockWritesCardSaid : Prop := Claim7.holds Tryz.pinned (.plain (OpenSpec.ofChange blockWritesSpec)) blockWritesCard

/-- THE SECOND FORM's CARD OF 'barographlaw15.BlockWrites'. -/
def blockWritesUptoCard : Claim7 := { stood := { row := blockWritesUptoRow, standIns := [], harness := (true, "f9401c71e60fa0b26d3276f15b01477146993ebcdc041441e09431a32cd869cf"), looks := true }, kinds := [], alts := [], laidByText := true, laidKinds := [.data, .data, .handle, .widerDeep, .pinned], laidTests := true, laidLooks := .later }
def BlockWritesUptoCardSaid : Prop := Claim7.holds Tryz.pinned (.plain (OpenSpec.upto blockWritesSpec)) blockWritesUptoCard
end Rows
end Go.Proofs.YtbecggfbblnglaaGreatDoor
