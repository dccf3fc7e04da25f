/-
  DERIVED. GIVEN WITH THE SEED: THE CARDS: each row of YtbiadclmonakkaaGreatDoorRows.lean that lists a variable, with what it lists TIED to the program's text (the seventh form; the later family's looks); each row that meets fmt, with fmt's text TOLD by the authors' own Lean function (tested against real Go, not proved from fmt's source: count such statements apart). THE CARD IS WHAT COUNTS. Prove the row's statement (the work); the ties are given (YtbiadclmonakkaaGreatDoorTie.lean); close each card by the builder's one call (the guide's Derived/Test/ToyasCard.lean, 'card_holds'). Laid BY PROGRAM, IN A SANDBOX (cutbox-door.mjs). By AI agents, Wed Nov 11 2026. No macro, syntax, notation, axiom, sorry.
-/
import Derived.Test.YtbiadclmonakkaaGreatDoorRows
import GoSem.ClaimSeven
namespace Go.Proofs.YtbiadclmonakkaaGreatDoor
namespace Rows

/-- THE TIED CARD OF 'homesteadlaw04.WalLess'. -/
def walLessCard : Claim7 := { stood := { row := walLessRow, standIns := [], harness := (true, "22436fdd18d8308d23f94189f542399f41f25401a8eac7ac8b9d4fcaacfba494"), looks := true }, kinds := [], alts := [], laidByText := true, laidKinds := [.data, .data, .data, .sentinel, .sentinel], laidTests := true, laidLooks := .later }
def WalLessCardSaid : Prop := Claim7.holds Tryz.pinned (.plain (OpenSpec.ofChange walLessSpec)) walLessCard

/-- THE TIED CARD OF 'homesteadlaw04.WalTrims'. -/
def walTrimsCard : Claim7 := { stood := { row := walTrimsRow, standIns := [], harness := (true, "22436fdd18d8308d23f94189f542399f41f25401a8eac7ac8b9d4fcaacfba494"), looks := true }, kinds := [], alts := [], laidByText := true, laidKinds := [.data, .data, .data, .sentinel, .sentinel], laidTests := true, laidLooks := .later }
def WalTrimsCardSaid : Prop := Claim7.holds Tryz.pinned (.plain (OpenSpec.ofChange walTrimsSpec)) walTrimsCard

/-- THE TIED CARD OF 'homesteadlaw04.WalNone'. -/
def walNoneCard : Claim7 := { stood := { row := walNoneRow, standIns := [], harness := (true, "22436fdd18d8308d23f94189f542399f41f25401a8eac7ac8b9d4fcaacfba494"), looks := true }, kinds := [], alts := [], laidByText := true, laidKinds := [.data, .data, .data, .sentinel, .sentinel], laidTests := true, laidLooks := .later }
def WalNoneCardSaid : Prop := Claim7.holds Tryz.pinned (.plain (OpenSpec.ofChange walNoneSpec)) walNoneCard

/-- THE TIED CARD OF 'homesteadlaw04.WalBack'. -/
def walBackCard : Claim7 := { stood := { row := walBackRow, standIns := [], harness := (true, "22436fdd18d8308d23f94189f542399f41f25401a8eac7ac8b9d4fcaacfba494"), looks := true }, kinds := [], alts := [], laidByText := true, laidKinds := [.data, .data, .data, .sentinel, .sentinel], laidTests := true, laidLooks := .later }
def WalBackCardSaid : Prop := Claim7.holds Tryz.pinned (.plain (OpenSpec.ofChange walBackSpec)) walBackCard

/-- THE TIED CARD OF 'homesteadlaw04.WalSizes'. -/
def walSizesCard : Claim7 := { stood := { row := walSizesRow, standIns := [], harness := (true, "22436fdd18d8308d23f94189f542399f41f25401a8eac7ac8b9d4fcaacfba494"), looks := true }, kinds := [], alts := [], laidByText := true, laidKinds := [.data, .data, .data, .sentinel, .sentinel], laidTests := true, laidLooks := .later }
def WalSizesCardSaid : Prop := Claim7.holds Tryz.pinned (.plain (OpenSpec.ofChange walSizesSpec)) walSizesCard

/-- THE TIED CARD OF 'homesteadlaw04.WalKeeps'. -/
def walKeepsCard : Claim7 := { stood := { row := walKeepsRow, standIns := [], harness := (true, "22436fdd18d8308d23f94189f542399f41f25401a8eac7ac8b9d4fcaacfba494"), looks := true }, kinds := [], alts := [], laidByText := true, laidKinds := [.data, .data, .data, .sentinel, .sentinel], laidTests := true, laidLooks := .later }
def WalKeepsCardSaid : Prop := Claim7.holds Tryz.pinned (.plain (OpenSpec.ofChange walKeepsSpec)) walKeepsCard

/-- THE TIED CARD OF 'homesteadlaw04.WalEnded'. -/
def walEndedCard : Claim7 := { stood := { row := walEndedRow, standIns := [], harness := (true, "22436fdd18d8308d23f94189f542399f41f25401a8eac7ac8b9d4fcaacfba494"), looks := true }, kinds := [], alts := [], laidByText := true, laidKinds := [.data, .data, .data, .sentinel, .sentinel], laidTests := true, laidLooks := .later }
def WalEndedCardSaid : Prop := Claim7.holds Tryz.pinned (.plain (OpenSpec.ofChange walEndedSpec)) walEndedCard

/-- THE TIED CARD OF 'homesteadlaw04.WalNumbers'. -/
def walNumbersCard : Claim7 := { stood := { row := walNumbersRow, standIns := [], harness := (true, "22436fdd18d8308d23f94189f542399f41f25401a8eac7ac8b9d4fcaacfba494"), looks := true }, kinds := [], alts := [], laidByText := true, laidKinds := [.data, .data, .data, .sentinel, .sentinel], laidTests := true, laidLooks := .later }
def WalNumbersCardSaid : Prop := Claim7.holds Tryz.pinned (.plain (OpenSpec.ofChange walNumbersSpec)) walNumbersCard

/-- THE SECOND FORM's CARD OF 'homesteadlaw04.WalLess'. -/
def walLessUptoCard : Claim7 := { stood := { row := walLessUptoRow, standIns := [], harness := (true, "22436fdd18d8308d23f94189f542399f41f25401a8eac7ac8b9d4fcaacfba494"), looks := true }, kinds := [], alts := [], laidByText := true, laidKinds := [.data, .data, .data, .sentinel, .sentinel], laidTests := true, laidLooks := .later }
def WalLessUptoCardSaid : Prop := Claim7.holds Tryz.pinned (.plain (OpenSpec.upto walLessSpec)) walLessUptoCard

/-- THE SECOND FORM's CARD OF 'homesteadlaw04.WalTrims'. -/
def walTrimsUptoCard : Claim7 := { stood := { row := walTrimsUptoRow, standIns := [], harness := (true, "22436fdd18d8308d23f94189f542399f41f25401a8eac7ac8b9d4fcaacfba494"), looks := true }, kinds := [], alts := [], laidByText := true, laidKinds := [.data, .data, .data, .sentinel, .sentinel], laidTests := true, laidLooks := .later }
def WalTrimsUptoCardSaid : Prop := Claim7.holds Tryz.pinned (.plain (OpenSpec.upto walTrimsSpec)) walTrimsUptoCard

/-- THE SECOND FORM's CARD OF 'homesteadlaw04.WalNone'. -/
def walNoneUptoCard : Claim7 := { stood := { row := walNoneUptoRow, standIns := [], harness := (true, "22436fdd18d8308d23f94189f542399f41f25401a8eac7ac8b9d4fcaacfba494"), looks := true }, kinds := [], alts := [], laidByText := true, laidKinds := [.data, .data, .data, .sentinel, .sentinel], laidTests := true, laidLooks := .later }
def WalNoneUptoCardSaid : Prop := Claim7.holds Tryz.pinned (.plain (OpenSpec.upto walNoneSpec)) walNoneUptoCard

/-- THE SECOND FORM's CARD OF 'homesteadlaw04.WalBack'. -/
def walBackUptoCard : Claim7 := { stood := { row := walBackUptoRow, standIns := [], harness := (true, "22436fdd18d8308d23f94189f542399f41f25401a8eac7ac8b9d4fcaacfba494"), looks := true }, kinds := [], alts := [], laidByText := true, laidKinds := [.data, .data, .data, .sentinel, .sentinel], laidTests := true, laidLooks := .later }
def WalBackUptoCardSaid : Prop := Claim7.holds Tryz.pinned (.plain (OpenSpec.upto walBackSpec)) walBackUptoCard

/-- THE SECOND FORM's CARD OF 'homesteadlaw04.WalSizes'. -/
def walSizesUptoCard : Claim7 := { stood := { row := walSizesUptoRow, standIns := [], harness := (true, "22436fdd18d8308d23f94189f542399f41f25401a8eac7ac8b9d4fcaacfba494"), looks := true }, kinds := [], alts := [], laidByText := true, laidKinds := [.data, .data, .data, .sentinel, .sentinel], laidTests := true, laidLooks := .later }
def WalSizesUptoCardSaid : Prop := Claim7.holds Tryz.pinned (.plain (OpenSpec.upto walSizesSpec)) walSizesUptoCard

/-- THE SECOND FORM's CARD OF 'homesteadlaw04.WalKeeps'. -/
def walKeepsUptoCard : Claim7 := { stood := { row := walKeepsUptoRow, standIns := [], harness := (true, "22436fdd18d8308d23f94189f542399f41f25401a8eac7ac8b9d4fcaacfba494"), looks := true }, kinds := [], alts := [], laidByText := true, laidKinds := [.data, .data, .data, .sentinel, .sentinel], laidTests := true, laidLooks := .later }
def WalKeepsUptoCardSaid : Prop := Claim7.holds Tryz.pinned (.plain (OpenSpec.upto walKeepsSpec)) walKeepsUptoCard

/-- THE SECOND FORM's CARD OF 'homesteadlaw04.WalEnded'. -/
def walEndedUptoCard : Claim7 := { stood := { row := walEndedUptoRow, standIns := [], harness := (true, "22436fdd18d8308d23f94189f542399f41f25401a8eac7ac8b9d4fcaacfba494"), looks := true }, kinds := [], alts := [], laidByText := true, laidKinds := [.data, .data, .data, .sentinel, .sentinel], laidTests := true, laidLooks := .later }
def WalEndedUptoCardSaid : Prop := Claim7.holds Tryz.pinned (.plain (OpenSpec.upto walEndedSpec)) walEndedUptoCard

/-- THE SECOND FORM's CARD OF 'homesteadlaw04.WalNumbers'. -/
def walNumbersUptoCard : Claim7 := { stood := { row := walNumbersUptoRow, standIns := [], harness := (true, "22436fdd18d8308d23f94189f542399f41f25401a8eac7ac8b9d4fcaacfba494"), looks := true }, kinds := [], alts := [], laidByText := true, laidKinds := [.data, .data, .data, .sentinel, .sentinel], laidTests := true, laidLooks := .later }
def WalNumbersUptoCardSaid : Prop := Claim7.holds Tryz.pinned (.plain (OpenSpec.upto walNumbersSpec)) walNumbersUptoCard
end Rows
end Go.Proofs.YtbiadclmonakkaaGreatDoor
