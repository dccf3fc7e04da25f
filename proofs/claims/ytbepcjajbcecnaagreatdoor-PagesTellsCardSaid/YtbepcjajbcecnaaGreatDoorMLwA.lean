/-
  The statements' helpers in chapter 05: Pick, SameBytes (as Low1, Ref16).
-/
import Derived.Outline
import Derived.Test.YtbepcjajbcecnaaGreatDoorMLoA
import Derived.Test.YtbepcjajbcecnaaGreatDoorMByA
namespace Go.Proofs.YtbepcjajbcecnaaGreatDoor
open Go.RowKit Go.Maps Go.MapKept
set_option linter.unusedSimpArgs false

set_option maxRecDepth 100000 in
set_option maxHeartbeats 2000000 in
theorem sameB_yes (w : World) (va vb : Value) (a : List UInt8) (ha : Rd w va (bcells a)) (hb : Rd w vb (bcells a)) :
    Calls Tryz.prog 27 #[va, vb] w fun e w' => e = .returned (.bool true) ∧ w = w' := by
  have hc1 := run_bytes_str (P := Tryz.prog) ha Tryz.underlying25 Tryz.underlying5 Tryz.underlying9
  have hc2 := run_bytes_str (P := Tryz.prog) hb Tryz.underlying25 Tryz.underlying5 Tryz.underlying9
  clear ha hb
  have hq : (a == a) = true := by simp
  go_enter Tryz.func27, Tryz.ntmps27
  go_wp2
  go_ret
  exact ⟨rfl, rfl⟩

set_option maxRecDepth 100000 in
set_option maxHeartbeats 2000000 in
theorem SameBytes_any (w : World) (va vb : Value) (x y : List UInt8) (ha : Rd w va (bcells x)) (hb : Rd w vb (bcells y)) :
    Calls Tryz.prog 27 #[va, vb] w fun e w' => e = .returned (.bool (decide (x = y))) ∧ w = w' := by
  have h1 := run_bytes_str (P := Tryz.prog) ha Tryz.underlying25 Tryz.underlying5 Tryz.underlying9
  have h2 := run_bytes_str (P := Tryz.prog) hb Tryz.underlying25 Tryz.underlying5 Tryz.underlying9
  have hfin : ((⟨x.toArray⟩ : ByteArray).toList == (⟨y.toArray⟩ : ByteArray).toList) = decide (x = y) := by
    rw [ByteArray.toList_eq, ByteArray.toList_eq]
    by_cases h : x = y <;> simp [h]
  obtain ⟨S1, hS1⟩ : ∃ S1 : ByteArray, (⟨x.toArray⟩ : ByteArray) = S1 := ⟨_, rfl⟩
  obtain ⟨S2, hS2⟩ : ∃ S2 : ByteArray, (⟨y.toArray⟩ : ByteArray) = S2 := ⟨_, rfl⟩
  rw [hS1] at h1 hfin
  rw [hS2] at h2 hfin
  have Hfin := Lib.hid hfin
  clear hS1 hS2 hfin
  obtain ⟨a1, c1, rfl⟩ := ha.shape
  obtain ⟨a2, c2, rfl⟩ := hb.shape
  go_enter Tryz.func27, Tryz.ntmps27
  go_wp2
  go_ret
  exact ⟨by rw [← Hfin.out]; rfl, rfl⟩
theorem rd_blk5 {w : World} {v : Value} {xs : List Value} (h : Rd w v xs) (hx : xs ≠ []) : ∀ k, v.ownBlock = some k → k < w.heap.size := by
  intro k hk
  rcases h with ⟨_, rfl⟩ | ⟨b, off, n, c, rfl, hn, hc⟩
  · exact absurd rfl hx
  · cases hk
    cases xs with
    | nil => exact absurd rfl hx
    | cons x xs => exact cell_lt (hc 0 x rfl)
end Go.Proofs.YtbepcjajbcecnaaGreatDoor
