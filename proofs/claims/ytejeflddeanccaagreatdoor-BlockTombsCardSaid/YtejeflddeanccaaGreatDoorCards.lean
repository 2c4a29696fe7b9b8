/-
  DERIVED. GIVEN WITH THE SEED: THE CARDS: each row of YtejeflddeanccaaGreatDoorRows.lean that lists a variable, with what it lists TIED to the program's text (the seventh form; the later family's looks); each row that meets fmt, with fmt's text TOLD by the authors' own Lean function (tested against real Go, not proved from fmt's source: count such statements apart). THE CARD IS WHAT COUNTS. Prove the row's statement (the work); the ties are given (YtejeflddeanccaaGreatDoorTie.lean); close each card by the builder's one call (the guide's Derived/Test/ToyasCard.lean, 'card_holds'). Laid BY PROGRAM, IN A SANDBOX (cutbox-door.mjs). By AI agents, Wed Nov 11 2026. No macro, syntax, notation, axiom, sorry.
-/
import Derived.Test.YtejeflddeanccaaGreatDoorRows
import GoSem.ClaimSeven
namespace Go.Proofs.YtejeflddeanccaaGreatDoor
namespace Rows

/-- THE TIED CARD OF 'barographlaw15.BlockTombs'. -/
def blockTombsCard : Claim7 := { stood := { row := blockTombsRow, standIns := [], harness := (true, "1acc7a0cbf488135e04f9a5d552ecfe4cb65d46eda6f5cae95dfcec5711fc28f"), looks := true }, kinds := [], alts := [], laidByText := true, laidKinds := [.data, .data, .handle, .pinned], laidTests := true, laidLooks := .later }
def BlockTombsCardSaid : Prop := Claim7.holds Tryz.pinned (.plain (OpenSpec.ofChange blockTombsSpec)) blockTombsCard

/-- THE SECOND FORM's CARD OF 'barographlaw15.BlockTombs'. -/
def blockTombsUptoCard : Claim7 := { stood := { row := blockTombsUptoRow, standIns := [], harness := (true, "1acc7a0cbf488135e04f9a5d552ecfe4cb65d46eda6f5cae95dfcec5711fc28f"), looks := true }, kinds := [], alts := [], laidByText := true, laidKinds := [.data, .data, .handle, .pinned], laidTests := true, laidLooks := .later }
def BlockTombsUptoCardSaid : Prop := Claim7.holds Tryz.pinned (.plain (OpenSpec.upto blockTombsSpec)) blockTombsUptoCard
end Rows
end Go.Proofs.YtejeflddeanccaaGreatDoor
