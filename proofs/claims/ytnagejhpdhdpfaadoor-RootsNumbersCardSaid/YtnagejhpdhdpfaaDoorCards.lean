/-
  DERIVED. GIVEN WITH THE SEED: THE CARDS: each row of YtnagejhpdhdpfaaDoorRows.lean that lists a variable, with what it lists TIED to the program's text (the seventh form; the later family's looks); each row that meets fmt, with fmt's text TOLD by the authors' own Lean function (tested against real Go, not proved from fmt's source: count such statements apart). THE CARD IS WHAT COUNTS. Prove the row's statement (the work); the ties are given (YtnagejhpdhdpfaaDoorTie.lean); close each card by the builder's one call (the guide's Derived/Test/ToyasCard.lean, 'card_holds'). Laid BY PROGRAM, IN A SANDBOX (cutbox-door.mjs). By AI agents, Wed Nov 11 2026. No macro, syntax, notation, axiom, sorry.
-/
import Derived.Test.YtnagejhpdhdpfaaDoorRows
import GoSem.ClaimSeven
namespace Go.Proofs.YtnagejhpdhdpfaaDoor
namespace Rows

/-- THE TIED CARD OF 'homesteadlaw06.RootsBack'. -/
def rootsBackCard : Claim7 := { stood := { row := rootsBackRow, standIns := [], harness := (true, "31bc20dc7f7726204137be7a4d70242b127b27eafc8c8d3911b914a714c45cac"), looks := false }, kinds := [], alts := [], laidByText := true, laidKinds := [.data, .data, .data], laidTests := true, laidLooks := .later }
def RootsBackCardSaid : Prop := Claim7.holds Tryd.pinned (.plain (OpenSpec.ofChange rootsBackSpec)) rootsBackCard

/-- THE TIED CARD OF 'homesteadlaw06.RootsTurns'. -/
def rootsTurnsCard : Claim7 := { stood := { row := rootsTurnsRow, standIns := [], harness := (true, "31bc20dc7f7726204137be7a4d70242b127b27eafc8c8d3911b914a714c45cac"), looks := false }, kinds := [], alts := [], laidByText := true, laidKinds := [.data, .data, .data], laidTests := true, laidLooks := .later }
def RootsTurnsCardSaid : Prop := Claim7.holds Tryd.pinned (.plain (OpenSpec.ofChange rootsTurnsSpec)) rootsTurnsCard

/-- THE TIED CARD OF 'homesteadlaw06.RootsSpoilt'. -/
def rootsSpoiltCard : Claim7 := { stood := { row := rootsSpoiltRow, standIns := [], harness := (true, "31bc20dc7f7726204137be7a4d70242b127b27eafc8c8d3911b914a714c45cac"), looks := false }, kinds := [], alts := [], laidByText := true, laidKinds := [.data, .data, .data], laidTests := true, laidLooks := .later }
def RootsSpoiltCardSaid : Prop := Claim7.holds Tryd.pinned (.plain (OpenSpec.ofChange rootsSpoiltSpec)) rootsSpoiltCard

/-- THE TIED CARD OF 'homesteadlaw06.RootsNumbers'. -/
def rootsNumbersCard : Claim7 := { stood := { row := rootsNumbersRow, standIns := [], harness := (true, "31bc20dc7f7726204137be7a4d70242b127b27eafc8c8d3911b914a714c45cac"), looks := false }, kinds := [], alts := [], laidByText := true, laidKinds := [.data, .data, .data], laidTests := true, laidLooks := .later }
def RootsNumbersCardSaid : Prop := Claim7.holds Tryd.pinned (.plain (OpenSpec.ofChange rootsNumbersSpec)) rootsNumbersCard

/-- THE TIED CARD OF 'homesteadlaw06.RootsSwitch'. -/
def rootsSwitchCard : Claim7 := { stood := { row := rootsSwitchRow, standIns := [], harness := (true, "31bc20dc7f7726204137be7a4d70242b127b27eafc8c8d3911b914a714c45cac"), looks := false }, kinds := [], alts := [], laidByText := true, laidKinds := [.data, .data, .data], laidTests := true, laidLooks := .later }
def RootsSwitchCardSaid : Prop := Claim7.holds Tryd.pinned (.plain (OpenSpec.ofChange rootsSwitchSpec)) rootsSwitchCard

/-- THE SECOND FORM's CARD OF 'homesteadlaw06.RootsBack'. -/
def rootsBackUptoCard : Claim7 := { stood := { row := rootsBackUptoRow, standIns := [], harness := (true, "31bc20dc7f7726204137be7a4d70242b127b27eafc8c8d3911b914a714c45cac"), looks := false }, kinds := [], alts := [], laidByText := true, laidKinds := [.data, .data, .data], laidTests := true, laidLooks := .later }
def RootsBackUptoCardSaid : Prop := Claim7.holds Tryd.pinned (.plain (OpenSpec.upto rootsBackSpec)) rootsBackUptoCard

/-- THE SECOND FORM's CARD OF 'homesteadlaw06.RootsTurns'. -/
def rootsTurnsUptoCard : Claim7 := { stood := { row := rootsTurnsUptoRow, standIns := [], harness := (true, "31bc20dc7f7726204137be7a4d70242b127b27eafc8c8d3911b914a714c45cac"), looks := false }, kinds := [], alts := [], laidByText := true, laidKinds := [.data, .data, .data], laidTests := true, laidLooks := .later }
def RootsTurnsUptoCardSaid : Prop := Claim7.holds Tryd.pinned (.plain (OpenSpec.upto rootsTurnsSpec)) rootsTurnsUptoCard

/-- THE SECOND FORM's CARD OF 'homesteadlaw06.RootsSpoilt'. -/
def rootsSpoiltUptoCard : Claim7 := { stood := { row := rootsSpoiltUptoRow, standIns := [], harness := (true, "31bc20dc7f7726204137be7a4d70242b127b27eafc8c8d3911b914a714c45cac"), looks := false }, kinds := [], alts := [], laidByText := true, laidKinds := [.data, .data, .data], laidTests := true, laidLooks := .later }
def RootsSpoiltUptoCardSaid : Prop := Claim7.holds Tryd.pinned (.plain (OpenSpec.upto rootsSpoiltSpec)) rootsSpoiltUptoCard

/-- THE SECOND FORM's CARD OF 'homesteadlaw06.RootsNumbers'. -/
def rootsNumbersUptoCard : Claim7 := { stood := { row := rootsNumbersUptoRow, standIns := [], harness := (true, "31bc20dc7f7726204137be7a4d70242b127b27eafc8c8d3911b914a714c45cac"), looks := false }, kinds := [], alts := [], laidByText := true, laidKinds := [.data, .data, .data], laidTests := true, laidLooks := .later }
def RootsNumbersUptoCardSaid : Prop := Claim7.holds Tryd.pinned (.plain (OpenSpec.upto rootsNumbersSpec)) rootsNumbersUptoCard

/-- THE SECOND FORM's CARD OF 'homesteadlaw06.RootsSwitch'. -/
def rootsSwitchUptoCard : Claim7 := { stood := { row := rootsSwitchUptoRow, standIns := [], harness := (true, "31bc20dc7f7726204137be7a4d70242b127b27eafc8c8d3911b914a714c45cac"), looks := false }, kinds := [], alts := [], laidByText := true, laidKinds := [.data, .data, .data], laidTests := true, laidLooks := .later }
def RootsSwitchUptoCardSaid : Prop := Claim7.holds Tryd.pinned (.plain (OpenSpec.upto rootsSwitchSpec)) rootsSwitchUptoCard
end Rows
end Go.Proofs.YtnagejhpdhdpfaaDoor
