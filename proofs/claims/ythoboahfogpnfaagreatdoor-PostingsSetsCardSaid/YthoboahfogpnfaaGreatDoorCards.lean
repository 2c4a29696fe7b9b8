/-
  DERIVED. GIVEN WITH THE SEED: THE CARDS: each row of YthoboahfogpnfaaGreatDoorRows.lean that lists a variable, with what it lists TIED to the program's text (the seventh form; the later family's looks); each row that meets fmt, with fmt's text TOLD by the authors' own Lean function (tested against real Go, not proved from fmt's source: count such statements apart). THE CARD IS WHAT COUNTS. Prove the row's statement (the work); the ties are given (YthoboahfogpnfaaGreatDoorTie.lean); close each card by the builder's one call (the guide's Derived/Test/ToyasCard.lean, 'card_holds'). Laid BY PROGRAM, IN A SANDBOX (cutbox-door.mjs). By AI agents, Wed Nov 11 2026. No macro, syntax, notation, axiom, sorry.
-/
import Derived.Test.YthoboahfogpnfaaGreatDoorRows
import GoSem.ClaimSeven
namespace Go.Proofs.YthoboahfogpnfaaGreatDoor
namespace Rows

/-- THE TIED CARD OF 'barographlaw13.PostingsAlgebra'. -/
def postingsAlgebraCard : Claim7 := { stood := { row := postingsAlgebraRow, standIns := [], harness := (true, "5e57bb73489df597c51062897f3201ed4c25d718112a824415c0ea689182f8ca"), looks := true }, kinds := [], alts := [], laidByText := true, laidKinds := [.data, .pinned], laidTests := true, laidLooks := .later }
def PostingsAlgebraCardSaid : Prop := Claim7.holds Tryz.pinned (.plain (OpenSpec.ofChange postingsAlgebraSpec)) postingsAlgebraCard

/-- THE TIED CARD OF 'barographlaw13.PostingsSets'. -/
def postingsSetsCard : Claim7 := { stood := { row := postingsSetsRow, standIns := [], harness := (true, "5e57bb73489df597c51062897f3201ed4c25d718112a824415c0ea689182f8ca"), looks := true }, kinds := [], alts := [], laidByText := true, laidKinds := [.data, .pinned], laidTests := true, laidLooks := .later }
def PostingsSetsCardSaid : Prop := Claim7.holds Tryz.pinned (.plain (OpenSpec.ofChange postingsSetsSpec)) postingsSetsCard

/-- THE SECOND FORM's CARD OF 'barographlaw13.PostingsAlgebra'. -/
def postingsAlgebraUptoCard : Claim7 := { stood := { row := postingsAlgebraUptoRow, standIns := [], harness := (true, "5e57bb73489df597c51062897f3201ed4c25d718112a824415c0ea689182f8ca"), looks := true }, kinds := [], alts := [], laidByText := true, laidKinds := [.data, .pinned], laidTests := true, laidLooks := .later }
def PostingsAlgebraUptoCardSaid : Prop := Claim7.holds Tryz.pinned (.plain (OpenSpec.upto postingsAlgebraSpec)) postingsAlgebraUptoCard

/-- THE SECOND FORM's CARD OF 'barographlaw13.PostingsSets'. -/
def postingsSetsUptoCard : Claim7 := { stood := { row := postingsSetsUptoRow, standIns := [], harness := (true, "5e57bb73489df597c51062897f3201ed4c25d718112a824415c0ea689182f8ca"), looks := true }, kinds := [], alts := [], laidByText := true, laidKinds := [.data, .pinned], laidTests := true, laidLooks := .later }
def PostingsSetsUptoCardSaid : Prop := Claim7.holds Tryz.pinned (.plain (OpenSpec.upto postingsSetsSpec)) postingsSetsUptoCard
end Rows
end Go.Proofs.YthoboahfogpnfaaGreatDoor
