/-
  DERIVED. GIVEN WITH THE SEED: THE CARDS: each row of YtndjmffnlcilbaaGreatDoorRows.lean that lists a variable, with what it lists TIED to the program's text (the seventh form; the later family's looks); each row that meets fmt, with fmt's text TOLD by the authors' own Lean function (tested against real Go, not proved from fmt's source: count such statements apart). THE CARD IS WHAT COUNTS. Prove the row's statement (the work); the ties are given (YtndjmffnlcilbaaGreatDoorTie.lean); close each card by the builder's one call (the guide's Derived/Test/ToyasCard.lean, 'card_holds'). Laid BY PROGRAM, IN A SANDBOX (cutbox-door.mjs). By AI agents, Wed Nov 11 2026. No macro, syntax, notation, axiom, sorry.
-/
import Derived.Test.YtndjmffnlcilbaaGreatDoorRows
import GoSem.ClaimSeven
namespace Go.Proofs.YtndjmffnlcilbaaGreatDoor
namespace Rows

/-- THE TIED CARD OF 'barographlaw06.ExtentWhole'. -/
def extentWholeCard : Claim7 := { stood := { row := extentWholeRow, standIns := [], harness := (true, "8011b6063fdd64e0b592724925c8e6d90a792ac2bea59c2615adffe58cfab7f9"), looks := true }, kinds := [], alts := [], laidByText := true, laidKinds := [.data, .sentinel, .pinned], laidTests := true, laidLooks := .later }
def ExtentWholeCardSaid : Prop := Claim7.holds Tryz.pinned (.plain (OpenSpec.ofChange extentWholeSpec)) extentWholeCard

/-- THE SECOND FORM's CARD OF 'barographlaw06.ExtentWhole'. -/
def extentWholeUptoCard : Claim7 := { stood := { row := extentWholeUptoRow, standIns := [], harness := (true, "8011b6063fdd64e0b592724925c8e6d90a792ac2bea59c2615adffe58cfab7f9"), looks := true }, kinds := [], alts := [], laidByText := true, laidKinds := [.data, .sentinel, .pinned], laidTests := true, laidLooks := .later }
def ExtentWholeUptoCardSaid : Prop := Claim7.holds Tryz.pinned (.plain (OpenSpec.upto extentWholeSpec)) extentWholeUptoCard
end Rows
end Go.Proofs.YtndjmffnlcilbaaGreatDoor
