/-
  Crash with whatever keeps; blocks of what came in.
-/
import Derived.Outline
import Derived.Test.YtnagejhpdhdpfaaDoorSw0
namespace Go.Proofs.YtnagejhpdhdpfaaDoor
open Go.RowKit Go.Maps Go.MapKept
theorem rd_blk {w : World} {v : Value} {xs : List Value} (h : Rd w v xs) (hx : xs ≠ []) : ∀ k, v.ownBlock = some k → k < w.heap.size := by
  intro k hk
  rcases h with ⟨_, rfl⟩ | ⟨b, off, n, c, rfl, hn, hc⟩
  · exact absurd rfl hx
  · cases hk
    cases xs with
    | nil => exact absurd rfl hx
    | cons x xs => exact cell_lt (hc 0 x rfl)
theorem Crash_atK {ex : Nat → Prop} {w : World} {p m : Nat} {d : ADisk} (vk : Value) (keeps : List Int) (h : DiskAt ex w p m d) (hrd : Rd w vk (iCells keeps)) (hkl : keeps.length ≤ 9223372036854775807) (hki : ∀ x ∈ keeps, isI64 x) (hk : ∀ k, vk.ownBlock = some k → keeps ≠ [] → ex k) :
    Calls Tryd.prog 29 #[.pointer (some ⟨p, 0, none⟩), vk] w fun e w' => e = .returned (.tuple #[]) ∧ DiskAt ex w' p m (d.crash keeps) ∧ Keep ex w w' := by
  obtain ⟨g, hr, hx⟩ := h
  exact (Crash_any0 w p m g d vk keeps hr hrd hkl hki (fun k hv hn => (hx k (hk k hv hn)).2)).mono fun e w' he => ⟨he.1, DiskAt.post hr hx he.2⟩
/-- an int of a slice that came in. -/
theorem ints_at {W w : World} {a : Option Addr} {n c : Nat} {l : List Int} (h : Rd W (.slice a n c) (iCells l)) (hb : Below W.heap.size W w) (k : Nat) (hk : k < l.length) : ∃ b off, a = some ⟨b, off, none⟩ ∧ b < W.heap.size ∧ w.cell? ⟨b, off + k, none⟩ = some (.int .i64 l[k]) := by
  rcases h with ⟨_, h0⟩ | ⟨b, off, n', c', he, _, hc⟩
  · simp [iCells] at h0; subst h0; simp at hk
  · cases he
    have := hc k (.int .i64 l[k]) (by simp [iCells, hk])
    exact ⟨b, off, rfl, cell_lt this, (hb.cell (p := ⟨b, off + k, none⟩) (cell_lt this)).trans this⟩
theorem sameR_ser {s t c s' t' c' : Int} {b b' : List UInt8} (h : s ≠ s') : sameR s t c b s' t' c' b' = false := by unfold sameR; simp [h]
theorem sameR_refl (s t c : Int) (b : List UInt8) : sameR s t c b s t c b = true := by unfold sameR; simp
end Go.Proofs.YtnagejhpdhdpfaaDoor
