/-
  The document's pages: which files go, plainly: the same as the program's. No program here.
-/
import Derived.Test.YtbepcjajbcecnaaGreatDoorMDcA
import Derived.Test.YtbepcjajbcecnaaGreatDoorMPmG
import Derived.Outline
import Derived.Deep.RegionHeld3
import Derived.Test.YtbepcjajbcecnaaGreatDoorMLoA
import Derived.Test.YtbepcjajbcecnaaGreatDoorMLwA
import Derived.Test.YtbepcjajbcecnaaGreatDoorMPmA
import Derived.Test.YtbepcjajbcecnaaGreatDoorMPmB
namespace Go.Proofs.YtbepcjajbcecnaaGreatDoor

/-- behind some files: the disk that is, the names that are left. -/
def FreeSo (k : Nat) (held : List Nat) (r : ADisk × Int) (d : ADisk) (ns : List ByteArray) : Prop := ((pFreeL k held d ns).1, (pFreeL k held d ns).2.2) = r
theorem FreeSo.skip {k : Nat} {held : List Nat} {r : ADisk × Int} {d : ADisk} {s : ByteArray} {ns : List ByteArray} (h : FreeSo k held r d (s :: ns)) (ho : pOther k held s = false) : FreeSo k held r d ns := by
  unfold FreeSo at h ⊢
  rw [← h]
  unfold pFreeL
  rw [if_neg (by simp [ho])]
  cases ns <;> rfl
theorem FreeSo.bad {k : Nat} {held : List Nat} {r : ADisk × Int} {d : ADisk} {s : ByteArray} {ns : List ByteArray} (h : FreeSo k held r d (s :: ns)) (ho : pOther k held s = true) (he : d.removeErr s ≠ 0) : r = (d.remove s, d.removeErr s) := by
  unfold FreeSo at h
  rw [← h]
  unfold pFreeL
  rw [if_pos ho, if_pos he]
theorem FreeSo.next {k : Nat} {held : List Nat} {r : ADisk × Int} {d : ADisk} {s : ByteArray} {ns : List ByteArray} (h : FreeSo k held r d (s :: ns)) (ho : pOther k held s = true) (he : d.removeErr s = 0) : FreeSo k held r (d.remove s) ns := by
  unfold FreeSo at h ⊢
  rw [← h]
  conv => rhs; unfold pFreeL
  rw [if_pos ho, if_neg (by simp [he])]
theorem FreeSo.done {k : Nat} {held : List Nat} {r : ADisk × Int} {d : ADisk} (h : FreeSo k held r d []) : r = (d, 0) := by
  unfold FreeSo at h
  rw [← h]
  rfl
end Go.Proofs.YtbepcjajbcecnaaGreatDoor

/-
  The document's pages: what Open answers, plainly. No program here.
-/
namespace Go.Proofs.YtbepcjajbcecnaaGreatDoor

theorem pOpen_num {d : ADisk} {k : Int} (hk : k < 0 ∨ 9007199254740992 < k) : pOpen d k = (d, ⟨0, [], [], false⟩, 2) := by
  unfold pOpen
  rw [if_pos hk]
end Go.Proofs.YtbepcjajbcecnaaGreatDoor

/-
  The document's pages: Names; a store that is as the document's.
-/
namespace Go.Proofs.YtbepcjajbcecnaaGreatDoor
open Go.RowKit Go.Maps Go.MapKept
set_option linter.unusedSimpArgs false

theorem SameTexts_yes (w : World) (va vb : Value) (a : List ByteArray) (ha : Rd w va (sCells a)) (hb : Rd w vb (sCells a)) (hl : a.length ≤ maxLen) :
    Calls Tryz.prog 25 #[va, vb] w fun e w' => e = .returned (.bool true) ∧ Below w.heap.size w w' :=
  (SameTexts_any w va vb a a ha hb hl hl).mono fun e w' h => ⟨by rw [h.1, decide_eq_true rfl], h.2⟩
section
variable {ex : Nat → Prop} {w : World} {q p m : Nat} {d : ADisk} {st : AStore}
end
end Go.Proofs.YtbepcjajbcecnaaGreatDoor
