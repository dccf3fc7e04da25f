/-
  Crash with whatever keeps, for the lives of a journal.
-/
import Derived.Test.YtbiadclmonakkaaGreatDoorMWmD
import Derived.Test.YtbiadclmonakkaaGreatDoorMOpn5
namespace Go.Proofs.YtbiadclmonakkaaGreatDoor
open Go.RowKit Go.Maps Go.MapKept

theorem Crash_at4 {ex : Nat → Prop} {w : World} {p m : Nat} {d : ADisk} (vk : Value) (keeps : List Int) (h : DiskAt ex w p m d) (hrd : Rd w vk (iCells keeps)) (hkl : keeps.length ≤ 9223372036854775807) (hki : ∀ x ∈ keeps, isI64 x) (hk : ∀ k, vk.ownBlock = some k → keeps ≠ [] → ex k) :
    Calls Tryz.prog 35 #[.pointer (some ⟨p, 0, none⟩), vk] w fun e w' => e = .returned (.tuple #[]) ∧ DiskAt ex w' p m (d.crash keeps) ∧ Keep ex w w' := by
  obtain ⟨g, hr, hx⟩ := h
  exact (Crash_any0 w p m g d vk keeps hr hrd hkl hki (fun k hv hn => (hx k (hk k hv hn)).2)).mono fun e w' he => ⟨he.1, DiskAt.post hr hx he.2⟩
/-- the keeps of a life, given as an argument of the first world. -/
theorem crash_life {ex : Nat → Prop} {W w : World} {p m : Nat} {d : ADisk} (vk : Value) (keeps : List Int) (h : DiskAt ex w p m d) (hB : Below W.heap.size W w) (hlow : ∀ k, k < W.heap.size → ex k) (hrd : Rd W vk (iCells keeps)) (hkl : keeps.length ≤ maxLen) (hki : ∀ x ∈ keeps, isI64 x) :
    Calls Tryz.prog 35 #[.pointer (some ⟨p, 0, none⟩), vk] w fun e w' => e = .returned (.tuple #[]) ∧ DiskAt ex w' p m (d.crash keeps) ∧ Keep ex w w' := by
  refine Crash_at4 vk keeps h (hrd.keepLow hB) (by simp only [maxLen] at hkl; omega) hki (fun k hk hn => hlow k ?_)
  exact rd_block hrd (by intro e; exact hn (by simpa [iCells] using e)) k hk
end Go.Proofs.YtbiadclmonakkaaGreatDoor
