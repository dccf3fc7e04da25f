/-
  DERIVED. GIVEN WITH THE SEED: THE CARDS: each row of YtkacgmbinkoojaaGreatDoorRows.lean that lists a variable, with what it lists TIED to the program's text (the seventh form; the later family's looks); each row that meets fmt, with fmt's text TOLD by the authors' own Lean function (tested against real Go, not proved from fmt's source: count such statements apart). THE CARD IS WHAT COUNTS. Prove the row's statement (the work); the ties are given (YtkacgmbinkoojaaGreatDoorTie.lean); close each card by the builder's one call (the guide's Derived/Test/ToyasCard.lean, 'card_holds'). Laid BY PROGRAM, IN A SANDBOX (cutbox-door.mjs). By AI agents, Wed Nov 11 2026. No macro, syntax, notation, axiom, sorry.
-/
import Derived.Test.YtkacgmbinkoojaaGreatDoorRows
import GoSem.ClaimSeven
namespace Go.Proofs.YtkacgmbinkoojaaGreatDoor
namespace Rows

/-- THE TIED CARD OF 'homesteadlaw06.RootsPlays'. -/
def rootsPlaysCard : Claim7 := { stood := { row := rootsPlaysRow, standIns := [], harness := (true, "5123deff66bca7ebc5390a3319a2b9b793b24d76fc43b69b3658404206d45d05"), looks := false }, kinds := [], alts := [], laidByText := true, laidKinds := [.data, .data, .data], laidTests := true, laidLooks := .later }
def RootsPlaysCardSaid : Prop := Claim7.holds Tryz.pinned (.plain (OpenSpec.ofChange rootsPlaysSpec)) rootsPlaysCard

/-- THE SECOND FORM's CARD OF 'homesteadlaw06.RootsPlays'. -/
def rootsPlaysUptoCard : Claim7 := { stood := { row := rootsPlaysUptoRow, standIns := [], harness := (true, "5123deff66bca7ebc5390a3319a2b9b793b24d76fc43b69b3658404206d45d05"), looks := false }, kinds := [], alts := [], laidByText := true, laidKinds := [.data, .data, .data], laidTests := true, laidLooks := .later }
def RootsPlaysUptoCardSaid : Prop := Claim7.holds Tryz.pinned (.plain (OpenSpec.upto rootsPlaysSpec)) rootsPlaysUptoCard
end Rows
end Go.Proofs.YtkacgmbinkoojaaGreatDoor
