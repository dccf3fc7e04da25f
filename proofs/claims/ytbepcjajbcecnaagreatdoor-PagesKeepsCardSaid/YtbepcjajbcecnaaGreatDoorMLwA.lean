/-
  The statements' helpers in chapter 05: Pick, SameBytes (as Low1, Ref16).
-/
import Derived.Outline
import Derived.Test.YtbepcjajbcecnaaGreatDoorMLoA
import Derived.Test.YtbepcjajbcecnaaGreatDoorMByA
namespace Go.Proofs.YtbepcjajbcecnaaGreatDoor
open Go.RowKit Go.Maps Go.MapKept
set_option linter.unusedSimpArgs false

/-- any number as one of 0 to n - 1. -/
def pickI (x n : Int) : Int := if n ≤ 0 then 0 else x % n
set_option maxHeartbeats 2000000 in
theorem Pick_any (w : World) (x n : Int) (hn : isI64 n) : Calls Tryz.prog 22 #[.int .i64 x, .int .i64 n] w fun e w' => e = .returned (.int .i64 (pickI x n)) ∧ w = w' := by
  unfold isI64 at hn
  by_cases h : n ≤ 0
  · have hf : pickI x n = 0 := by unfold pickI; rw [if_pos h]
    rw [hf]
    clear hf
    go_enter Tryz.func22, Tryz.ntmps22
    go_wp2
    go_ret
    exact ⟨rfl, rfl⟩
  · have hf : pickI x n = x % n := by unfold pickI; rw [if_neg h]
    rw [hf]
    have hn0 : 0 < n := by omega
    have hne : n ≠ 0 := by omega
    obtain ⟨r, hr⟩ : ∃ r, x.tmod n = r := ⟨_, rfl⟩
    have hlt : r < n := by rw [← hr]; exact Int.tmod_lt_of_pos _ hn0
    have hgt : -n < r := by
      have := Int.tmod_lt_of_pos (-x) hn0
      rw [Int.neg_tmod] at this
      omega
    have hem : x % n = if r < 0 then n + r else r := by
      have hx0 : r + n * x.tdiv n = x := by rw [← hr]; exact Int.tmod_add_mul_tdiv x n
      obtain ⟨q, hq⟩ : ∃ q, x.tdiv n = q := ⟨_, rfl⟩
      rw [hq] at hx0
      split
      · have e1 : x = (n + r) + n * (q - 1) := by rw [Int.mul_sub, Int.mul_one]; omega
        rw [e1, Int.add_mul_emod_self_left, Int.emod_eq_of_lt (by omega) (by omega)]
      · rw [← hx0, Int.add_mul_emod_self_left, Int.emod_eq_of_lt (by omega) (by omega)]
    have Hem := Lib.hid hem
    have Hr := Lib.hid hr
    clear hem hf
    by_cases h0 : r < 0
    · go_enter Tryz.func22, Tryz.ntmps22
      go_wp2
      go_ret
      exact ⟨by rw [Hem.out, if_pos h0]; rfl, rfl⟩
    · go_enter Tryz.func22, Tryz.ntmps22
      go_wp2
      go_ret
      exact ⟨by rw [Hem.out, if_neg (by omega)]; rfl, rfl⟩
theorem pickI_lt (x n : Int) (h : 0 < n) : 0 ≤ pickI x n ∧ pickI x n < n := by
  unfold pickI
  rw [if_neg (by omega)]
  exact ⟨Int.emod_nonneg _ (by omega), Int.emod_lt_of_pos _ h⟩
set_option maxRecDepth 100000 in
set_option maxHeartbeats 2000000 in
theorem sameB_yes (w : World) (va vb : Value) (a : List UInt8) (ha : Rd w va (bcells a)) (hb : Rd w vb (bcells a)) :
    Calls Tryz.prog 27 #[va, vb] w fun e w' => e = .returned (.bool true) ∧ w = w' := by
  have hc1 := run_bytes_str (P := Tryz.prog) ha Tryz.underlying25 Tryz.underlying5 Tryz.underlying9
  have hc2 := run_bytes_str (P := Tryz.prog) hb Tryz.underlying25 Tryz.underlying5 Tryz.underlying9
  clear ha hb
  have hq : (a == a) = true := by simp
  go_enter Tryz.func27, Tryz.ntmps27
  go_wp2
  go_ret
  exact ⟨rfl, rfl⟩

set_option maxRecDepth 100000 in
set_option maxHeartbeats 2000000 in
theorem SameBytes_any (w : World) (va vb : Value) (x y : List UInt8) (ha : Rd w va (bcells x)) (hb : Rd w vb (bcells y)) :
    Calls Tryz.prog 27 #[va, vb] w fun e w' => e = .returned (.bool (decide (x = y))) ∧ w = w' := by
  have h1 := run_bytes_str (P := Tryz.prog) ha Tryz.underlying25 Tryz.underlying5 Tryz.underlying9
  have h2 := run_bytes_str (P := Tryz.prog) hb Tryz.underlying25 Tryz.underlying5 Tryz.underlying9
  have hfin : ((⟨x.toArray⟩ : ByteArray).toList == (⟨y.toArray⟩ : ByteArray).toList) = decide (x = y) := by
    rw [ByteArray.toList_eq, ByteArray.toList_eq]
    by_cases h : x = y <;> simp [h]
  obtain ⟨S1, hS1⟩ : ∃ S1 : ByteArray, (⟨x.toArray⟩ : ByteArray) = S1 := ⟨_, rfl⟩
  obtain ⟨S2, hS2⟩ : ∃ S2 : ByteArray, (⟨y.toArray⟩ : ByteArray) = S2 := ⟨_, rfl⟩
  rw [hS1] at h1 hfin
  rw [hS2] at h2 hfin
  have Hfin := Lib.hid hfin
  clear hS1 hS2 hfin
  obtain ⟨a1, c1, rfl⟩ := ha.shape
  obtain ⟨a2, c2, rfl⟩ := hb.shape
  go_enter Tryz.func27, Tryz.ntmps27
  go_wp2
  go_ret
  exact ⟨by rw [← Hfin.out]; rfl, rfl⟩
set_option maxRecDepth 100000 in
set_option maxHeartbeats 2000000 in
theorem copyB_any (w : World) (v : Value) (l : List UInt8) (hv : Rd w v (bcells l)) (hl : l.length ≤ 1000000000000) :
    Calls Tryz.prog 39 #[v] w fun e w' => ∃ a c, e = .returned (.slice a l.length c) ∧ w'.ownsRow w.heap.size 5 1 (.slice a l.length c) l.length (bcells l) ∧ Below w.heap.size w w' := by
  obtain ⟨ad, c, rfl⟩ := hv.shape
  rw [bcells_length] at hv ⊢
  have Hrd := Lib.hid hv
  clear hv
  go_enter Tryz.func39, Tryz.ntmps39
  go_wp2_with (at_builtin; refine append_u8 rfl (.tmp 3) (.tmp 4) rfl (.slice (some ⟨w.heap.size, 0, none⟩) 0 0) (.slice ad l.length c) [] l l rfl rfl (ownsRow_base0 (row_empty w 5 5 rfl)) rfl (Hrd.out.below ((Below.refl _ _).alloc (Nat.le_refl _) _)) (by simp; omega) ?_; intro v' w1 h1 h2 h3 _; obtain ⟨a', c', rfl, _, _, _⟩ := row_slice h1)
  go_ret
  have hB : Below w.heap.size w w1 := (((Upd.refl noFp w).alloc _).grown h2 (fun k hk => Or.inr (by cases hk; exact Nat.le_refl _))).below (fun _ h => h.elim) (Nat.le_refl _)
  refine ⟨a', c', rfl, ownsRow_from h1 (fun g hg => ?_), hB⟩
  rcases h3 with h3 | ⟨g', h3, hg'⟩
  · rw [h3] at hg; cases hg; exact Nat.le_refl _
  · rw [h3] at hg; cases hg; simp at hg'; omega
theorem rd_blk5 {w : World} {v : Value} {xs : List Value} (h : Rd w v xs) (hx : xs ≠ []) : ∀ k, v.ownBlock = some k → k < w.heap.size := by
  intro k hk
  rcases h with ⟨_, rfl⟩ | ⟨b, off, n, c, rfl, hn, hc⟩
  · exact absurd rfl hx
  · cases hk
    cases xs with
    | nil => exact absurd rfl hx
    | cons x xs => exact cell_lt (hc 0 x rfl)
end Go.Proofs.YtbepcjajbcecnaaGreatDoor
