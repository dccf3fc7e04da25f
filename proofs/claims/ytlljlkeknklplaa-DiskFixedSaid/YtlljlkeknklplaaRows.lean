/-
  No cell of these rows narrows 'for every input' (looked for: loops, veiled, ifaces, maps, wideKeys, modest, calm, conditions, laid).
  DERIVED. THE GIVEN ROWS OF THIS SEAT. 9 by the template 'for every input the law returns true; each argument reads behind the call as it read before'; 0 by the template 'total and deterministic' (their statements: YtlljlkeknklplaaTotals.lean).
  GIVEN WITH THE SEED: the statements are not yours to turn. If you find one false, say at which input.
  Laid BY PROGRAM, IN A SANDBOX (cutbox-rows.mjs): the forced cells as the released guide's own fill.sh prints them over the translation 846478fc4d59ae68… (all of the seat's roots in one cut). By AI agents, Wed Nov 11 2026. No macro, syntax, notation, axiom, sorry.
-/
import Derived.Test.YtlljlkeknklplaaChecked
import GoSem.Claim
import GoSem.ClaimJoined
import GoSem.ClaimMapViews
import Derived.JoinedTies
import Derived.KernelRfl
namespace Go.Proofs.Ytlljlkeknklplaa
/- THE CELL 'sum', in the pinned program and in every row, IS THE sha256 OF THE DUMP (.gsa) THAT YtlljlkeknklplaaProg.lean LOADS. Nothing in Lean hashes anything: it is a label: what it is worth is what the hold of that sum in a sandbox is worth. -/
noncomputable def Try.pinned : Pinned := { name := "ytlljlkeknklplaa", sum := "846478fc4d59ae68735c69f837883993949c53cd8565539ec50a4c89ab2174c5", checked := Try.checked }
namespace Rows
def none {H : Type} : Left H := { results := [], args := [] }

/-- 'homesteadlaw03.DiskCalled': WHATEVER THE INPUT: true; the input reads as it did. -/
def diskCalledSpec : ChangeSpec := { name := "diskCalled", fn := fun _ => fun
  | [d1, d2] => { results := [.lit (.bool true)], args := [d1, d2] }
  | _ => none }
def diskCalledRow : OpenClaim := { program := "ytlljlkeknklplaa", sum := "846478fc4d59ae68735c69f837883993949c53cd8565539ec50a4c89ab2174c5", func := "homestead/homesteadlaw03.DiskCalled", spec := "diskCalled", inPlace := ["internal/abi.NoEscape", "internal/bytealg.MakeNoZero"], unfollowed := true, recurses := true, apart := false }
def DiskCalledSaid : Prop := diskCalledRow.holds Try.pinned (OpenSpec.ofChange diskCalledSpec)

/-- ITS FALSE NEIGHBOUR: 'it returns false'. Refute it at one input. -/
def diskCalledWrong : ChangeSpec := { name := "diskCalled", fn := fun _ => fun
  | [d1, d2] => { results := [.lit (.bool false)], args := [d1, d2] }
  | _ => none }
def DiskCalledWrongFalsely : Prop := diskCalledRow.holds Try.pinned (OpenSpec.ofChange diskCalledWrong)

/-- 'homesteadlaw03.DiskTells': WHATEVER THE INPUT: true; the input reads as it did. -/
def diskTellsSpec : ChangeSpec := { name := "diskTells", fn := fun _ => fun
  | [d1, d2] => { results := [.lit (.bool true)], args := [d1, d2] }
  | _ => none }
def diskTellsRow : OpenClaim := { program := "ytlljlkeknklplaa", sum := "846478fc4d59ae68735c69f837883993949c53cd8565539ec50a4c89ab2174c5", func := "homestead/homesteadlaw03.DiskTells", spec := "diskTells", inPlace := ["internal/abi.NoEscape", "internal/bytealg.MakeNoZero"], unfollowed := true, recurses := true, apart := false }
def DiskTellsSaid : Prop := diskTellsRow.holds Try.pinned (OpenSpec.ofChange diskTellsSpec)

/-- ITS FALSE NEIGHBOUR: 'it returns false'. Refute it at one input. -/
def diskTellsWrong : ChangeSpec := { name := "diskTells", fn := fun _ => fun
  | [d1, d2] => { results := [.lit (.bool false)], args := [d1, d2] }
  | _ => none }
def DiskTellsWrongFalsely : Prop := diskTellsRow.holds Try.pinned (OpenSpec.ofChange diskTellsWrong)

/-- 'homesteadlaw03.DiskNone': WHATEVER THE INPUT: true; the input reads as it did. -/
def diskNoneSpec : ChangeSpec := { name := "diskNone", fn := fun _ => fun
  | [d1, d2, d3] => { results := [.lit (.bool true)], args := [d1, d2, d3] }
  | _ => none }
def diskNoneRow : OpenClaim := { program := "ytlljlkeknklplaa", sum := "846478fc4d59ae68735c69f837883993949c53cd8565539ec50a4c89ab2174c5", func := "homestead/homesteadlaw03.DiskNone", spec := "diskNone", inPlace := ["internal/abi.NoEscape", "internal/bytealg.MakeNoZero"], unfollowed := true, recurses := true, apart := false }
def DiskNoneSaid : Prop := diskNoneRow.holds Try.pinned (OpenSpec.ofChange diskNoneSpec)

/-- ITS FALSE NEIGHBOUR: 'it returns false'. Refute it at one input. -/
def diskNoneWrong : ChangeSpec := { name := "diskNone", fn := fun _ => fun
  | [d1, d2, d3] => { results := [.lit (.bool false)], args := [d1, d2, d3] }
  | _ => none }
def DiskNoneWrongFalsely : Prop := diskNoneRow.holds Try.pinned (OpenSpec.ofChange diskNoneWrong)

/-- 'homesteadlaw03.DiskLives': WHATEVER THE INPUT: true; the input reads as it did. -/
def diskLivesSpec : ChangeSpec := { name := "diskLives", fn := fun _ => fun
  | [d1, d2, d3, d4] => { results := [.lit (.bool true)], args := [d1, d2, d3, d4] }
  | _ => none }
def diskLivesRow : OpenClaim := { program := "ytlljlkeknklplaa", sum := "846478fc4d59ae68735c69f837883993949c53cd8565539ec50a4c89ab2174c5", func := "homestead/homesteadlaw03.DiskLives", spec := "diskLives", inPlace := ["internal/abi.NoEscape", "internal/bytealg.MakeNoZero"], unfollowed := true, recurses := true, apart := false }
def DiskLivesSaid : Prop := diskLivesRow.holds Try.pinned (OpenSpec.ofChange diskLivesSpec)

/-- ITS FALSE NEIGHBOUR: 'it returns false'. Refute it at one input. -/
def diskLivesWrong : ChangeSpec := { name := "diskLives", fn := fun _ => fun
  | [d1, d2, d3, d4] => { results := [.lit (.bool false)], args := [d1, d2, d3, d4] }
  | _ => none }
def DiskLivesWrongFalsely : Prop := diskLivesRow.holds Try.pinned (OpenSpec.ofChange diskLivesWrong)

/-- 'homesteadlaw03.DiskFails': WHATEVER THE INPUT: true; the input reads as it did. -/
def diskFailsSpec : ChangeSpec := { name := "diskFails", fn := fun _ => fun
  | [d1, d2, d3] => { results := [.lit (.bool true)], args := [d1, d2, d3] }
  | _ => none }
def diskFailsRow : OpenClaim := { program := "ytlljlkeknklplaa", sum := "846478fc4d59ae68735c69f837883993949c53cd8565539ec50a4c89ab2174c5", func := "homestead/homesteadlaw03.DiskFails", spec := "diskFails", inPlace := ["internal/abi.NoEscape", "internal/bytealg.MakeNoZero"], unfollowed := true, recurses := true, apart := false }
def DiskFailsSaid : Prop := diskFailsRow.holds Try.pinned (OpenSpec.ofChange diskFailsSpec)

/-- ITS FALSE NEIGHBOUR: 'it returns false'. Refute it at one input. -/
def diskFailsWrong : ChangeSpec := { name := "diskFails", fn := fun _ => fun
  | [d1, d2, d3] => { results := [.lit (.bool false)], args := [d1, d2, d3] }
  | _ => none }
def DiskFailsWrongFalsely : Prop := diskFailsRow.holds Try.pinned (OpenSpec.ofChange diskFailsWrong)

/-- 'homesteadlaw03.DiskRoom': WHATEVER THE INPUT: true; the input reads as it did. -/
def diskRoomSpec : ChangeSpec := { name := "diskRoom", fn := fun _ => fun
  | [d1, d2] => { results := [.lit (.bool true)], args := [d1, d2] }
  | _ => none }
def diskRoomRow : OpenClaim := { program := "ytlljlkeknklplaa", sum := "846478fc4d59ae68735c69f837883993949c53cd8565539ec50a4c89ab2174c5", func := "homestead/homesteadlaw03.DiskRoom", spec := "diskRoom", inPlace := ["internal/abi.NoEscape", "internal/bytealg.MakeNoZero"], unfollowed := true, recurses := true, apart := false }
def DiskRoomSaid : Prop := diskRoomRow.holds Try.pinned (OpenSpec.ofChange diskRoomSpec)

/-- ITS FALSE NEIGHBOUR: 'it returns false'. Refute it at one input. -/
def diskRoomWrong : ChangeSpec := { name := "diskRoom", fn := fun _ => fun
  | [d1, d2] => { results := [.lit (.bool false)], args := [d1, d2] }
  | _ => none }
def DiskRoomWrongFalsely : Prop := diskRoomRow.holds Try.pinned (OpenSpec.ofChange diskRoomWrong)

/-- 'homesteadlaw03.DiskWoven': WHATEVER THE INPUT: true; the input reads as it did. -/
def diskWovenSpec : ChangeSpec := { name := "diskWoven", fn := fun _ => fun
  | [d1, d2, d3] => { results := [.lit (.bool true)], args := [d1, d2, d3] }
  | _ => none }
def diskWovenRow : OpenClaim := { program := "ytlljlkeknklplaa", sum := "846478fc4d59ae68735c69f837883993949c53cd8565539ec50a4c89ab2174c5", func := "homestead/homesteadlaw03.DiskWoven", spec := "diskWoven", inPlace := ["internal/abi.NoEscape", "internal/bytealg.MakeNoZero"], unfollowed := true, recurses := true, apart := false }
def DiskWovenSaid : Prop := diskWovenRow.holds Try.pinned (OpenSpec.ofChange diskWovenSpec)

/-- ITS FALSE NEIGHBOUR: 'it returns false'. Refute it at one input. -/
def diskWovenWrong : ChangeSpec := { name := "diskWoven", fn := fun _ => fun
  | [d1, d2, d3] => { results := [.lit (.bool false)], args := [d1, d2, d3] }
  | _ => none }
def DiskWovenWrongFalsely : Prop := diskWovenRow.holds Try.pinned (OpenSpec.ofChange diskWovenWrong)

/-- 'homesteadlaw03.DiskPieces': WHATEVER THE INPUT: true; the input reads as it did. -/
def diskPiecesSpec : ChangeSpec := { name := "diskPieces", fn := fun _ => fun
  | [d1, d2, d3] => { results := [.lit (.bool true)], args := [d1, d2, d3] }
  | _ => none }
def diskPiecesRow : OpenClaim := { program := "ytlljlkeknklplaa", sum := "846478fc4d59ae68735c69f837883993949c53cd8565539ec50a4c89ab2174c5", func := "homestead/homesteadlaw03.DiskPieces", spec := "diskPieces", inPlace := ["internal/abi.NoEscape", "internal/bytealg.MakeNoZero"], unfollowed := true, recurses := true, apart := false }
def DiskPiecesSaid : Prop := diskPiecesRow.holds Try.pinned (OpenSpec.ofChange diskPiecesSpec)

/-- ITS FALSE NEIGHBOUR: 'it returns false'. Refute it at one input. -/
def diskPiecesWrong : ChangeSpec := { name := "diskPieces", fn := fun _ => fun
  | [d1, d2, d3] => { results := [.lit (.bool false)], args := [d1, d2, d3] }
  | _ => none }
def DiskPiecesWrongFalsely : Prop := diskPiecesRow.holds Try.pinned (OpenSpec.ofChange diskPiecesWrong)

/-- 'homesteadlaw03.DiskFixed': WHATEVER THE INPUT: true; the input reads as it did. -/
def diskFixedSpec : ChangeSpec := { name := "diskFixed", fn := fun _ => fun
  | [] => { results := [.lit (.bool true)], args := [] }
  | _ => none }
def diskFixedRow : OpenClaim := { program := "ytlljlkeknklplaa", sum := "846478fc4d59ae68735c69f837883993949c53cd8565539ec50a4c89ab2174c5", func := "homestead/homesteadlaw03.DiskFixed", spec := "diskFixed", inPlace := ["internal/abi.NoEscape", "internal/bytealg.MakeNoZero"], unfollowed := true, recurses := true, apart := false }
def DiskFixedSaid : Prop := diskFixedRow.holds Try.pinned (OpenSpec.ofChange diskFixedSpec)

/-- ITS FALSE NEIGHBOUR: 'it returns false'. Refute it at one input. -/
def diskFixedWrong : ChangeSpec := { name := "diskFixed", fn := fun _ => fun
  | [] => { results := [.lit (.bool false)], args := [] }
  | _ => none }
def DiskFixedWrongFalsely : Prop := diskFixedRow.holds Try.pinned (OpenSpec.ofChange diskFixedWrong)

/- THE SECOND FORM. 'bulk': how many values and letters a reading holds, each counted each time it is reached (what is shared counts as often as it is met; a slice's spare places count too). A statement '..UptoSaid' is the law's where the arguments, and the package variables that the reading takes, are together of bulk at most 1048576: NARROWER than '..Said'. Prove '..Said' where nothing that the law and all that it calls make is longer than what came in: it says more and counts as full. Else prove '..UptoSaid'. A law counts once. -/
mutual
def uptoBulk {H : Type} : DataW H → Nat
  | .lit (.string bytes) => bytes.length + 1
  | .lit _ => 1
  | .nil => 1
  | .ptr d => uptoBulk d + 1
  | .slice elems spare => uptoBulkAll elems + uptoBulkAll spare + 1
  | .agg parts => uptoBulkAll parts + 1
  | .iface _ d => uptoBulk d + 1
  | .map entries => uptoBulkEntries entries + 1
  | .held _ => 1
def uptoBulkAll {H : Type} : List (DataW H) → Nat
  | [] => 0
  | d :: r => uptoBulk d + uptoBulkAll r
def uptoBulkEntries {H : Type} : List (Lit × DataW H) → Nat
  | [] => 0
  | x :: r => uptoBulkEntry x + uptoBulkEntries r
def uptoBulkEntry {H : Type} : Lit × DataW H → Nat
  | (.string bytes, d) => bytes.length + uptoBulk d + 1
  | (_, d) => uptoBulk d + 1
 end
def uptoSmall : (H : Type) → List (DataW H) → Bool := fun _ ds => decide (uptoBulkAll ds ≤ 1048576)
def OpenSpec.upto (s : _root_.Go.ChangeSpec) : _root_.Go.OpenSpec := { _root_.Go.OpenSpec.ofChange s with cond := some uptoSmall }

/-- 'homesteadlaw03.DiskCalled', WHERE WHAT IT READS IS OF BULK AT MOST 1048576: true; the input reads as it did. -/
def diskCalledUptoRow : OpenClaim := { program := "ytlljlkeknklplaa", sum := "846478fc4d59ae68735c69f837883993949c53cd8565539ec50a4c89ab2174c5", func := "homestead/homesteadlaw03.DiskCalled", spec := "diskCalled", inPlace := ["internal/abi.NoEscape", "internal/bytealg.MakeNoZero"], unfollowed := true, recurses := true, apart := false, narrowed := true }
def DiskCalledUptoSaid : Prop := diskCalledUptoRow.holds Try.pinned (OpenSpec.upto diskCalledSpec)

/-- 'homesteadlaw03.DiskTells', WHERE WHAT IT READS IS OF BULK AT MOST 1048576: true; the input reads as it did. -/
def diskTellsUptoRow : OpenClaim := { program := "ytlljlkeknklplaa", sum := "846478fc4d59ae68735c69f837883993949c53cd8565539ec50a4c89ab2174c5", func := "homestead/homesteadlaw03.DiskTells", spec := "diskTells", inPlace := ["internal/abi.NoEscape", "internal/bytealg.MakeNoZero"], unfollowed := true, recurses := true, apart := false, narrowed := true }
def DiskTellsUptoSaid : Prop := diskTellsUptoRow.holds Try.pinned (OpenSpec.upto diskTellsSpec)

/-- 'homesteadlaw03.DiskNone', WHERE WHAT IT READS IS OF BULK AT MOST 1048576: true; the input reads as it did. -/
def diskNoneUptoRow : OpenClaim := { program := "ytlljlkeknklplaa", sum := "846478fc4d59ae68735c69f837883993949c53cd8565539ec50a4c89ab2174c5", func := "homestead/homesteadlaw03.DiskNone", spec := "diskNone", inPlace := ["internal/abi.NoEscape", "internal/bytealg.MakeNoZero"], unfollowed := true, recurses := true, apart := false, narrowed := true }
def DiskNoneUptoSaid : Prop := diskNoneUptoRow.holds Try.pinned (OpenSpec.upto diskNoneSpec)

/-- 'homesteadlaw03.DiskLives', WHERE WHAT IT READS IS OF BULK AT MOST 1048576: true; the input reads as it did. -/
def diskLivesUptoRow : OpenClaim := { program := "ytlljlkeknklplaa", sum := "846478fc4d59ae68735c69f837883993949c53cd8565539ec50a4c89ab2174c5", func := "homestead/homesteadlaw03.DiskLives", spec := "diskLives", inPlace := ["internal/abi.NoEscape", "internal/bytealg.MakeNoZero"], unfollowed := true, recurses := true, apart := false, narrowed := true }
def DiskLivesUptoSaid : Prop := diskLivesUptoRow.holds Try.pinned (OpenSpec.upto diskLivesSpec)

/-- 'homesteadlaw03.DiskFails', WHERE WHAT IT READS IS OF BULK AT MOST 1048576: true; the input reads as it did. -/
def diskFailsUptoRow : OpenClaim := { program := "ytlljlkeknklplaa", sum := "846478fc4d59ae68735c69f837883993949c53cd8565539ec50a4c89ab2174c5", func := "homestead/homesteadlaw03.DiskFails", spec := "diskFails", inPlace := ["internal/abi.NoEscape", "internal/bytealg.MakeNoZero"], unfollowed := true, recurses := true, apart := false, narrowed := true }
def DiskFailsUptoSaid : Prop := diskFailsUptoRow.holds Try.pinned (OpenSpec.upto diskFailsSpec)

/-- 'homesteadlaw03.DiskRoom', WHERE WHAT IT READS IS OF BULK AT MOST 1048576: true; the input reads as it did. -/
def diskRoomUptoRow : OpenClaim := { program := "ytlljlkeknklplaa", sum := "846478fc4d59ae68735c69f837883993949c53cd8565539ec50a4c89ab2174c5", func := "homestead/homesteadlaw03.DiskRoom", spec := "diskRoom", inPlace := ["internal/abi.NoEscape", "internal/bytealg.MakeNoZero"], unfollowed := true, recurses := true, apart := false, narrowed := true }
def DiskRoomUptoSaid : Prop := diskRoomUptoRow.holds Try.pinned (OpenSpec.upto diskRoomSpec)

/-- 'homesteadlaw03.DiskWoven', WHERE WHAT IT READS IS OF BULK AT MOST 1048576: true; the input reads as it did. -/
def diskWovenUptoRow : OpenClaim := { program := "ytlljlkeknklplaa", sum := "846478fc4d59ae68735c69f837883993949c53cd8565539ec50a4c89ab2174c5", func := "homestead/homesteadlaw03.DiskWoven", spec := "diskWoven", inPlace := ["internal/abi.NoEscape", "internal/bytealg.MakeNoZero"], unfollowed := true, recurses := true, apart := false, narrowed := true }
def DiskWovenUptoSaid : Prop := diskWovenUptoRow.holds Try.pinned (OpenSpec.upto diskWovenSpec)

/-- 'homesteadlaw03.DiskPieces', WHERE WHAT IT READS IS OF BULK AT MOST 1048576: true; the input reads as it did. -/
def diskPiecesUptoRow : OpenClaim := { program := "ytlljlkeknklplaa", sum := "846478fc4d59ae68735c69f837883993949c53cd8565539ec50a4c89ab2174c5", func := "homestead/homesteadlaw03.DiskPieces", spec := "diskPieces", inPlace := ["internal/abi.NoEscape", "internal/bytealg.MakeNoZero"], unfollowed := true, recurses := true, apart := false, narrowed := true }
def DiskPiecesUptoSaid : Prop := diskPiecesUptoRow.holds Try.pinned (OpenSpec.upto diskPiecesSpec)

/-- 'homesteadlaw03.DiskFixed', WHERE WHAT IT READS IS OF BULK AT MOST 1048576: true; the input reads as it did. -/
def diskFixedUptoRow : OpenClaim := { program := "ytlljlkeknklplaa", sum := "846478fc4d59ae68735c69f837883993949c53cd8565539ec50a4c89ab2174c5", func := "homestead/homesteadlaw03.DiskFixed", spec := "diskFixed", inPlace := ["internal/abi.NoEscape", "internal/bytealg.MakeNoZero"], unfollowed := true, recurses := true, apart := false, narrowed := true }
def DiskFixedUptoSaid : Prop := diskFixedUptoRow.holds Try.pinned (OpenSpec.upto diskFixedSpec)

end Rows
end Go.Proofs.Ytlljlkeknklplaa
