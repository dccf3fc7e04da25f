/-
  DERIVED. GIVEN WITH THE SEED: THE CARDS: each row of YtnagejhpdhdpfaaGreatDoorRows.lean that lists a variable, with what it lists TIED to the program's text (the seventh form; the later family's looks); each row that meets fmt, with fmt's text TOLD by the authors' own Lean function (tested against real Go, not proved from fmt's source: count such statements apart). THE CARD IS WHAT COUNTS. Prove the row's statement (the work); the ties are given (YtnagejhpdhdpfaaGreatDoorTie.lean); close each card by the builder's one call (the guide's Derived/Test/ToyasCard.lean, 'card_holds'). Laid BY PROGRAM, IN A SANDBOX (cutbox-door.mjs). By AI agents, Wed Nov 11 2026. No macro, syntax, notation, axiom, sorry.
-/
import Derived.Test.YtnagejhpdhdpfaaGreatDoorRows
import GoSem.ClaimSeven
namespace Go.Proofs.YtnagejhpdhdpfaaGreatDoor
namespace Rows

/-- THE TIED CARD OF 'homesteadlaw06.RootsTells'. -/
def rootsTellsCard : Claim7 := { stood := { row := rootsTellsRow, standIns := [], harness := (true, "d5ac8ca70235d713db67c4f630b64e4cffaaac2b5c90ef730cc35815d944d4f2"), looks := false }, kinds := [], alts := [], laidByText := true, laidKinds := [.data, .data, .data], laidTests := true, laidLooks := .later }
def RootsTellsCardSaid : Prop := Claim7.holds Tryz.pinned (.plain (OpenSpec.ofChange rootsTellsSpec)) rootsTellsCard

/-- THE TIED CARD OF 'homesteadlaw06.RootsPlays'. -/
def rootsPlaysCard : Claim7 := { stood := { row := rootsPlaysRow, standIns := [], harness := (true, "d5ac8ca70235d713db67c4f630b64e4cffaaac2b5c90ef730cc35815d944d4f2"), looks := false }, kinds := [], alts := [], laidByText := true, laidKinds := [.data, .data, .data], laidTests := true, laidLooks := .later }
def RootsPlaysCardSaid : Prop := Claim7.holds Tryz.pinned (.plain (OpenSpec.ofChange rootsPlaysSpec)) rootsPlaysCard

/-- THE SECOND FORM's CARD OF 'homesteadlaw06.RootsTells'. -/
def rootsTellsUptoCard : Claim7 := { stood := { row := rootsTellsUptoRow, standIns := [], harness := (true, "d5ac8ca70235d713db67c4f630b64e4cffaaac2b5c90ef730cc35815d944d4f2"), looks := false }, kinds := [], alts := [], laidByText := true, laidKinds := [.data, .data, .data], laidTests := true, laidLooks := .later }
def RootsTellsUptoCardSaid : Prop := Claim7.holds Tryz.pinned (.plain (OpenSpec.upto rootsTellsSpec)) rootsTellsUptoCard

/-- THE SECOND FORM's CARD OF 'homesteadlaw06.RootsPlays'. -/
def rootsPlaysUptoCard : Claim7 := { stood := { row := rootsPlaysUptoRow, standIns := [], harness := (true, "d5ac8ca70235d713db67c4f630b64e4cffaaac2b5c90ef730cc35815d944d4f2"), looks := false }, kinds := [], alts := [], laidByText := true, laidKinds := [.data, .data, .data], laidTests := true, laidLooks := .later }
def RootsPlaysUptoCardSaid : Prop := Claim7.holds Tryz.pinned (.plain (OpenSpec.upto rootsPlaysSpec)) rootsPlaysUptoCard
end Rows
end Go.Proofs.YtnagejhpdhdpfaaGreatDoor
