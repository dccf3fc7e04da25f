/-
  DERIVED. GIVEN WITH THE SEED: THE CARDS: each row of YtbepcjajbcecnaaGreatDoorRows.lean that lists a variable, with what it lists TIED to the program's text (the seventh form; the later family's looks); each row that meets fmt, with fmt's text TOLD by the authors' own Lean function (tested against real Go, not proved from fmt's source: count such statements apart). THE CARD IS WHAT COUNTS. Prove the row's statement (the work); the ties are given (YtbepcjajbcecnaaGreatDoorTie.lean); close each card by the builder's one call (the guide's Derived/Test/ToyasCard.lean, 'card_holds'). Laid BY PROGRAM, IN A SANDBOX (cutbox-door.mjs). By AI agents, Wed Nov 11 2026. No macro, syntax, notation, axiom, sorry.
-/
import Derived.Test.YtbepcjajbcecnaaGreatDoorRows
import GoSem.ClaimSeven
namespace Go.Proofs.YtbepcjajbcecnaaGreatDoor
namespace Rows

/-- THE TIED CARD OF 'homesteadlaw05.PagesBack'. -/
def pagesBackCard : Claim7 := { stood := { row := pagesBackRow, standIns := [], harness := (true, "6a393e45d2c984b39bb82e8e8437a1fc1301560bc29d1b7f26181bf2cdba945e"), looks := true }, kinds := [], alts := [], laidByText := true, laidKinds := [.data, .data, .data, .sentinel, .sentinel], laidTests := true, laidLooks := .later }
def PagesBackCardSaid : Prop := Claim7.holds Tryz.pinned (.plain (OpenSpec.ofChange pagesBackSpec)) pagesBackCard

/-- THE TIED CARD OF 'homesteadlaw05.PagesFiles'. -/
def pagesFilesCard : Claim7 := { stood := { row := pagesFilesRow, standIns := [], harness := (true, "6a393e45d2c984b39bb82e8e8437a1fc1301560bc29d1b7f26181bf2cdba945e"), looks := true }, kinds := [], alts := [], laidByText := true, laidKinds := [.data, .data, .data, .sentinel, .sentinel], laidTests := true, laidLooks := .later }
def PagesFilesCardSaid : Prop := Claim7.holds Tryz.pinned (.plain (OpenSpec.ofChange pagesFilesSpec)) pagesFilesCard

/-- THE TIED CARD OF 'homesteadlaw05.PagesOrder'. -/
def pagesOrderCard : Claim7 := { stood := { row := pagesOrderRow, standIns := [], harness := (true, "6a393e45d2c984b39bb82e8e8437a1fc1301560bc29d1b7f26181bf2cdba945e"), looks := true }, kinds := [], alts := [], laidByText := true, laidKinds := [.data, .data, .data, .sentinel, .sentinel], laidTests := true, laidLooks := .later }
def PagesOrderCardSaid : Prop := Claim7.holds Tryz.pinned (.plain (OpenSpec.ofChange pagesOrderSpec)) pagesOrderCard

/-- THE TIED CARD OF 'homesteadlaw05.PagesNone'. -/
def pagesNoneCard : Claim7 := { stood := { row := pagesNoneRow, standIns := [], harness := (true, "6a393e45d2c984b39bb82e8e8437a1fc1301560bc29d1b7f26181bf2cdba945e"), looks := true }, kinds := [], alts := [], laidByText := true, laidKinds := [.data, .data, .data, .sentinel, .sentinel], laidTests := true, laidLooks := .later }
def PagesNoneCardSaid : Prop := Claim7.holds Tryz.pinned (.plain (OpenSpec.ofChange pagesNoneSpec)) pagesNoneCard

/-- THE TIED CARD OF 'homesteadlaw05.PagesElder'. -/
def pagesElderCard : Claim7 := { stood := { row := pagesElderRow, standIns := [], harness := (true, "6a393e45d2c984b39bb82e8e8437a1fc1301560bc29d1b7f26181bf2cdba945e"), looks := true }, kinds := [], alts := [], laidByText := true, laidKinds := [.data, .data, .data, .sentinel, .sentinel], laidTests := true, laidLooks := .later }
def PagesElderCardSaid : Prop := Claim7.holds Tryz.pinned (.plain (OpenSpec.ofChange pagesElderSpec)) pagesElderCard

/-- THE TIED CARD OF 'homesteadlaw05.PagesEnded'. -/
def pagesEndedCard : Claim7 := { stood := { row := pagesEndedRow, standIns := [], harness := (true, "6a393e45d2c984b39bb82e8e8437a1fc1301560bc29d1b7f26181bf2cdba945e"), looks := true }, kinds := [], alts := [], laidByText := true, laidKinds := [.data, .data, .data, .sentinel, .sentinel], laidTests := true, laidLooks := .later }
def PagesEndedCardSaid : Prop := Claim7.holds Tryz.pinned (.plain (OpenSpec.ofChange pagesEndedSpec)) pagesEndedCard

/-- THE TIED CARD OF 'homesteadlaw05.PagesTells'. -/
def pagesTellsCard : Claim7 := { stood := { row := pagesTellsRow, standIns := [], harness := (true, "6a393e45d2c984b39bb82e8e8437a1fc1301560bc29d1b7f26181bf2cdba945e"), looks := true }, kinds := [], alts := [], laidByText := true, laidKinds := [.data, .data, .data, .sentinel, .sentinel], laidTests := true, laidLooks := .later }
def PagesTellsCardSaid : Prop := Claim7.holds Tryz.pinned (.plain (OpenSpec.ofChange pagesTellsSpec)) pagesTellsCard

/-- THE TIED CARD OF 'homesteadlaw05.PagesKeeps'. -/
def pagesKeepsCard : Claim7 := { stood := { row := pagesKeepsRow, standIns := [], harness := (true, "6a393e45d2c984b39bb82e8e8437a1fc1301560bc29d1b7f26181bf2cdba945e"), looks := true }, kinds := [], alts := [], laidByText := true, laidKinds := [.data, .data, .data, .sentinel, .sentinel], laidTests := true, laidLooks := .later }
def PagesKeepsCardSaid : Prop := Claim7.holds Tryz.pinned (.plain (OpenSpec.ofChange pagesKeepsSpec)) pagesKeepsCard

/-- THE TIED CARD OF 'homesteadlaw05.PagesNumbers'. -/
def pagesNumbersCard : Claim7 := { stood := { row := pagesNumbersRow, standIns := [], harness := (true, "6a393e45d2c984b39bb82e8e8437a1fc1301560bc29d1b7f26181bf2cdba945e"), looks := true }, kinds := [], alts := [], laidByText := true, laidKinds := [.data, .data, .data, .sentinel, .sentinel], laidTests := true, laidLooks := .later }
def PagesNumbersCardSaid : Prop := Claim7.holds Tryz.pinned (.plain (OpenSpec.ofChange pagesNumbersSpec)) pagesNumbersCard

/-- THE SECOND FORM's CARD OF 'homesteadlaw05.PagesBack'. -/
def pagesBackUptoCard : Claim7 := { stood := { row := pagesBackUptoRow, standIns := [], harness := (true, "6a393e45d2c984b39bb82e8e8437a1fc1301560bc29d1b7f26181bf2cdba945e"), looks := true }, kinds := [], alts := [], laidByText := true, laidKinds := [.data, .data, .data, .sentinel, .sentinel], laidTests := true, laidLooks := .later }
def PagesBackUptoCardSaid : Prop := Claim7.holds Tryz.pinned (.plain (OpenSpec.upto pagesBackSpec)) pagesBackUptoCard

/-- THE SECOND FORM's CARD OF 'homesteadlaw05.PagesFiles'. -/
def pagesFilesUptoCard : Claim7 := { stood := { row := pagesFilesUptoRow, standIns := [], harness := (true, "6a393e45d2c984b39bb82e8e8437a1fc1301560bc29d1b7f26181bf2cdba945e"), looks := true }, kinds := [], alts := [], laidByText := true, laidKinds := [.data, .data, .data, .sentinel, .sentinel], laidTests := true, laidLooks := .later }
def PagesFilesUptoCardSaid : Prop := Claim7.holds Tryz.pinned (.plain (OpenSpec.upto pagesFilesSpec)) pagesFilesUptoCard

/-- THE SECOND FORM's CARD OF 'homesteadlaw05.PagesOrder'. -/
def pagesOrderUptoCard : Claim7 := { stood := { row := pagesOrderUptoRow, standIns := [], harness := (true, "6a393e45d2c984b39bb82e8e8437a1fc1301560bc29d1b7f26181bf2cdba945e"), looks := true }, kinds := [], alts := [], laidByText := true, laidKinds := [.data, .data, .data, .sentinel, .sentinel], laidTests := true, laidLooks := .later }
def PagesOrderUptoCardSaid : Prop := Claim7.holds Tryz.pinned (.plain (OpenSpec.upto pagesOrderSpec)) pagesOrderUptoCard

/-- THE SECOND FORM's CARD OF 'homesteadlaw05.PagesNone'. -/
def pagesNoneUptoCard : Claim7 := { stood := { row := pagesNoneUptoRow, standIns := [], harness := (true, "6a393e45d2c984b39bb82e8e8437a1fc1301560bc29d1b7f26181bf2cdba945e"), looks := true }, kinds := [], alts := [], laidByText := true, laidKinds := [.data, .data, .data, .sentinel, .sentinel], laidTests := true, laidLooks := .later }
def PagesNoneUptoCardSaid : Prop := Claim7.holds Tryz.pinned (.plain (OpenSpec.upto pagesNoneSpec)) pagesNoneUptoCard

/-- THE SECOND FORM's CARD OF 'homesteadlaw05.PagesElder'. -/
def pagesElderUptoCard : Claim7 := { stood := { row := pagesElderUptoRow, standIns := [], harness := (true, "6a393e45d2c984b39bb82e8e8437a1fc1301560bc29d1b7f26181bf2cdba945e"), looks := true }, kinds := [], alts := [], laidByText := true, laidKinds := [.data, .data, .data, .sentinel, .sentinel], laidTests := true, laidLooks := .later }
def PagesElderUptoCardSaid : Prop := Claim7.holds Tryz.pinned (.plain (OpenSpec.upto pagesElderSpec)) pagesElderUptoCard

/-- THE SECOND FORM's CARD OF 'homesteadlaw05.PagesEnded'. -/
def pagesEndedUptoCard : Claim7 := { stood := { row := pagesEndedUptoRow, standIns := [], harness := (true, "6a393e45d2c984b39bb82e8e8437a1fc1301560bc29d1b7f26181bf2cdba945e"), looks := true }, kinds := [], alts := [], laidByText := true, laidKinds := [.data, .data, .data, .sentinel, .sentinel], laidTests := true, laidLooks := .later }
def PagesEndedUptoCardSaid : Prop := Claim7.holds Tryz.pinned (.plain (OpenSpec.upto pagesEndedSpec)) pagesEndedUptoCard

/-- THE SECOND FORM's CARD OF 'homesteadlaw05.PagesTells'. -/
def pagesTellsUptoCard : Claim7 := { stood := { row := pagesTellsUptoRow, standIns := [], harness := (true, "6a393e45d2c984b39bb82e8e8437a1fc1301560bc29d1b7f26181bf2cdba945e"), looks := true }, kinds := [], alts := [], laidByText := true, laidKinds := [.data, .data, .data, .sentinel, .sentinel], laidTests := true, laidLooks := .later }
def PagesTellsUptoCardSaid : Prop := Claim7.holds Tryz.pinned (.plain (OpenSpec.upto pagesTellsSpec)) pagesTellsUptoCard

/-- THE SECOND FORM's CARD OF 'homesteadlaw05.PagesKeeps'. -/
def pagesKeepsUptoCard : Claim7 := { stood := { row := pagesKeepsUptoRow, standIns := [], harness := (true, "6a393e45d2c984b39bb82e8e8437a1fc1301560bc29d1b7f26181bf2cdba945e"), looks := true }, kinds := [], alts := [], laidByText := true, laidKinds := [.data, .data, .data, .sentinel, .sentinel], laidTests := true, laidLooks := .later }
def PagesKeepsUptoCardSaid : Prop := Claim7.holds Tryz.pinned (.plain (OpenSpec.upto pagesKeepsSpec)) pagesKeepsUptoCard

/-- THE SECOND FORM's CARD OF 'homesteadlaw05.PagesNumbers'. -/
def pagesNumbersUptoCard : Claim7 := { stood := { row := pagesNumbersUptoRow, standIns := [], harness := (true, "6a393e45d2c984b39bb82e8e8437a1fc1301560bc29d1b7f26181bf2cdba945e"), looks := true }, kinds := [], alts := [], laidByText := true, laidKinds := [.data, .data, .data, .sentinel, .sentinel], laidTests := true, laidLooks := .later }
def PagesNumbersUptoCardSaid : Prop := Claim7.holds Tryz.pinned (.plain (OpenSpec.upto pagesNumbersSpec)) pagesNumbersUptoCard
end Rows
end Go.Proofs.YtbepcjajbcecnaaGreatDoor
