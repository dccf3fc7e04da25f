/-
  Package bytes: the sum (Crc), Seal, Unseal.
-/
import Derived.Outline
import Derived.Laws.BitsAllLaws
import Derived.Test.YtnagejhpdhdpfaaGreatDoorByt3
import Derived.Test.YtnagejhpdhdpfaaGreatDoorCrc0
namespace Go.Proofs.YtnagejhpdhdpfaaGreatDoor
open Go.RowKit Go.Maps Go.MapKept

def u32c (l : List Nat) : List Value := l.map fun (n : Nat) => Value.int .u32 n
/-- a table in memory, its first k entries filled. -/
def TabAt (w : World) (b k : Nat) : Prop := w.heap[b]? = some (.cells (u32c (tabL.take k) ++ List.replicate (16 - k) (Value.int .u32 0)).toArray 124 (0, 0))
theorem TabAt.next {w : World} {b k : Nat} (h : TabAt w b k) (hk : k < 16) (z : Int) (hz : z = (stepN 4 k : Nat)) : TabAt (w.setCell ⟨b, k, none⟩ (.int .u32 z)) b (k + 1) := by
  subst hz
  unfold TabAt at *
  rw [setCell_at h]
  congr 2
  apply Array.ext'
  simp only [Array.toList_setIfInBounds]
  have h1 : 16 - k = (16 - (k + 1)) + 1 := by omega
  have hl : (u32c (tabL.take k)).length = k := by simp [u32c, tabL_len]; omega
  rw [h1, List.replicate_succ, List.take_succ_eq_append_getElem (by rw [tabL_len]; exact hk)]
  have : tabL[k]'(by rw [tabL_len]; exact hk) = stepN 4 k := by simp [tabL]
  rw [this, List.set_append_right _ _ (by omega), hl, Nat.sub_self]
  simp [u32c]
theorem TabAt.upd {fp : Nat → Prop} {w w' : World} {b k : Nat} (h : TabAt w b k) (hu : Upd fp w w') (hn : ¬ fp b) : TabAt w' b k := hu.keep h hn

set_option maxRecDepth 100000 in
set_option maxHeartbeats 4000000 in
theorem bSteps_any (w : World) : Calls Tryz.prog 96 #[] w fun e w' => e = .returned (.agg (u32c tabL).toArray) ∧ Below w.heap.size w w' := by
  go_enter Tryz.func96, Tryz.ntmps96
  go_wp2
  go_loopw [2, 3, 4, 9] (fun a c i j wr => ∃ k : Nat, k ≤ 16 ∧ i = .int .i64 k ∧ TabAt wr (w.heap.size + 1) k ∧ wr.heap[w.heap.size]? = some (.cells #[.int .u32 0, .int .u32 0, .int .u32 0, .int .u32 0, .int .u32 0, .int .u32 0, .int .u32 0, .int .u32 0, .int .u32 0, .int .u32 0, .int .u32 0, .int .u32 0, .int .u32 0, .int .u32 0, .int .u32 0, .int .u32 0] 124 (0, 0)) ∧ Below w.heap.size w wr) (fun _ _ i _ _ => 16 - (intOf i).toNat)
  case atStart => exact ⟨0, by omega, rfl, alloc2_at _ _ _, alloc2_at0 _ _ _, ((Below.refl _ _).alloc (Nat.le_refl _) _).alloc (by simp) _⟩
  case round =>
    obtain ⟨k, hk, rfl, hT, h0, hB⟩ := hrel
    have hbl := blk_lt hT
    have HT := Lib.hid hT
    have H0 := Lib.hid h0
    clear hT h0
    by_cases hlt : k < 16
    · obtain ⟨hfz, u0, hcz⟩ : (wr.frozen? ⟨w.heap.size + 1, k, none⟩ = false) ∧ ∃ u, wr.cell? ⟨w.heap.size + 1, k, none⟩ = some u := by
        refine ⟨by have := HT.out; unfold TabAt at this; simp [World.frozen?, this], ?_⟩
        rw [cell_at HT.out]
        have : k < (u32c (tabL.take k) ++ List.replicate (16 - k) (Value.int .u32 0)).toArray.size := by simp [u32c, tabL_len]; omega
        exact ⟨_, Array.getElem?_eq_getElem this⟩
      go_wp2
      go_loop [3, 9] (fun c j => ∃ m x : Nat, m ≤ 4 ∧ j = .int .i64 m ∧ c = .int .u32 x ∧ x < 4294967296 ∧ x = stepN m k) (fun _ j => 4 - (intOf j).toNat)
      case atStart => exact ⟨0, k, by omega, rfl, rfl, by omega, rfl⟩
      case round =>
        obtain ⟨m, x, hm, rfl, rfl, hx, hxe⟩ := hrel
        have Hxe := Lib.hid hxe
        clear hxe
        by_cases hm4 : m < 4
        · go_wp2
          go_round
          case rel => exact ⟨m + 1, st1 x, by omega, by go_num, by rw [show ((3988292384 : Int) * ((x : Int) % 2)) = ((3988292384 * (x % 2) : Nat) : Int) by omega, show (x : Int) / 2 = ((x / 2 : Nat) : Int) by omega, u32_xor_nat _ _ (by omega) (by omega)]; rfl, st1_lt hx, by rw [Hxe.out]; rfl⟩
          case measure => simp [intOf]; omega
        · obtain rfl : m = 4 := by omega
          go_wp2
          go_roundw
          case rel => exact ⟨k + 1, by omega, by go_num, HT.out.next hlt _ (by rw [Hxe.out]), setCell_old H0.out (by omega) _ _, hB.setCell (by simp) _⟩
          case measure => simp [intOf]; omega
    · obtain rfl : k = 16 := by omega
      have hc : ∀ i x, tabL[i]? = some x → wr.cell? ⟨w.heap.size + 1, i, none⟩ = some (.int .u32 (x : Nat)) := by
        intro i x hx
        rw [cell_at HT.out]
        simp only [Nat.sub_self, List.replicate_zero, List.append_nil]
        rw [List.take_of_length_le (by rw [tabL_len]; omega)]
        simp [u32c, hx]
      rw [tabL_val] at hc
      have c0 := hc 0 _ rfl
      have c1 := hc 1 _ rfl
      have c2 := hc 2 _ rfl
      have c3 := hc 3 _ rfl
      have c4 := hc 4 _ rfl
      have c5 := hc 5 _ rfl
      have c6 := hc 6 _ rfl
      have c7 := hc 7 _ rfl
      have c8 := hc 8 _ rfl
      have c9 := hc 9 _ rfl
      have c10 := hc 10 _ rfl
      have c11 := hc 11 _ rfl
      have c12 := hc 12 _ rfl
      have c13 := hc 13 _ rfl
      have c14 := hc 14 _ rfl
      have c15 := hc 15 _ rfl
      have hz : ∀ i, i < 16 → wr.cell? ⟨w.heap.size, i, none⟩ = some (.int .u32 0) := by
        intro i hi
        rw [cell_at H0.out]
        have : i = 0 ∨ i = 1 ∨ i = 2 ∨ i = 3 ∨ i = 4 ∨ i = 5 ∨ i = 6 ∨ i = 7 ∨ i = 8 ∨ i = 9 ∨ i = 10 ∨ i = 11 ∨ i = 12 ∨ i = 13 ∨ i = 14 ∨ i = 15 := by omega
        rcases this with rfl | rfl | rfl | rfl | rfl | rfl | rfl | rfl | rfl | rfl | rfl | rfl | rfl | rfl | rfl | rfl <;> rfl
      have hf : ∀ i, wr.frozen? ⟨w.heap.size, i, none⟩ = false := fun i => by simp [World.frozen?, H0.out]
      have z0 := hz 0 (by omega)
      have z1 := hz 1 (by omega)
      have z2 := hz 2 (by omega)
      have z3 := hz 3 (by omega)
      have z4 := hz 4 (by omega)
      have z5 := hz 5 (by omega)
      have z6 := hz 6 (by omega)
      have z7 := hz 7 (by omega)
      have z8 := hz 8 (by omega)
      have z9 := hz 9 (by omega)
      have z10 := hz 10 (by omega)
      have z11 := hz 11 (by omega)
      have z12 := hz 12 (by omega)
      have z13 := hz 13 (by omega)
      have z14 := hz 14 (by omega)
      have z15 := hz 15 (by omega)
      have f0 := hf 0
      have f1 := hf 1
      have f2 := hf 2
      have f3 := hf 3
      have f4 := hf 4
      have f5 := hf 5
      have f6 := hf 6
      have f7 := hf 7
      have f8 := hf 8
      have f9 := hf 9
      have f10 := hf 10
      have f11 := hf 11
      have f12 := hf 12
      have f13 := hf 13
      have f14 := hf 14
      have f15 := hf 15
      clear hc hz hf
      go_wp2
      refine bodyPost_ret (v := .agg (u32c tabL).toArray) (by rw [tabL_val]; simp [u32c, results, Tryz.results96, go_sem, z0, z1, z2, z3, z4, z5, z6, z7, z8, z9, z10, z11, z12, z13, z14, z15]) rfl ⟨rfl, ?_⟩
      exact ((((((((((((((((hB.setCell (Nat.le_refl _) _).setCell (Nat.le_refl _) _).setCell (Nat.le_refl _) _).setCell (Nat.le_refl _) _).setCell (Nat.le_refl _) _).setCell (Nat.le_refl _) _).setCell (Nat.le_refl _) _).setCell (Nat.le_refl _) _).setCell (Nat.le_refl _) _).setCell (Nat.le_refl _) _).setCell (Nat.le_refl _) _).setCell (Nat.le_refl _) _).setCell (Nat.le_refl _) _).setCell (Nat.le_refl _) _).setCell (Nat.le_refl _) _).setCell (Nat.le_refl _) _)
end Go.Proofs.YtnagejhpdhdpfaaGreatDoor
