/-
  The document's reading of a number is the same. No program here.
-/
import Derived.Test.YtnagejhpdhdpfaaGreatDoorByt2
namespace Go.Proofs.YtnagejhpdhdpfaaGreatDoor

theorem hi_none {l : List UInt8} {k : Nat} (hk : ∀ x ∈ l.take k, 128 ≤ x.toNat) (h : l.take 10 = l.take k) : (l.take 10).findIdx? (fun x => decide (x.toNat < 128)) = none := by
  rw [List.findIdx?_eq_none_iff, h]
  intro x hx
  have := hk x hx
  simp; omega
theorem gu_ten {l : List UInt8} (hk : ∀ x ∈ l.take 10, 128 ≤ x.toNat) (h : 10 ≤ l.length) : gU l = (10, 0, 0) := by
  rw [gu_none (hi_none hk rfl), if_neg (by omega)]
theorem gu_short {l : List UInt8} (hk : ∀ x ∈ l.take l.length, 128 ≤ x.toNat) (h : l.length < 10) : gU l = (11, 0, 0) := by
  rw [gu_none (hi_none hk (by rw [List.take_of_length_le (by omega), List.take_of_length_le (Nat.le_refl _)])), if_pos h]
theorem gu_some {l : List UInt8} {k : Nat} {y : UInt8} (hk : ∀ x ∈ l.take k, 128 ≤ x.toNat) (h10 : k < 10) (hl : k < l.length) (hy : l[k] = y) (hlo : y.toNat < 128) :
    gU l = if vint (vVal (l.take (k + 1)) % 18446744073709551616) = l.take (k + 1) then (0, vVal (l.take (k + 1)) % 18446744073709551616, k + 1) else (10, 0, 0) := by
  have ht : l.take (k + 1) = l.take k ++ [y] := by rw [List.take_succ_eq_append_getElem hl, hy]
  have hyl : (l.take k).length = k := by rw [List.length_take]; omega
  have hs : l = l.take k ++ y :: l.drop (k + 1) := by
    have h2 := List.take_append_drop (k + 1) l
    rw [ht] at h2
    simpa using h2.symm
  have hf : (l.take 10).findIdx? (fun x => decide (x.toNat < 128)) = some k := by
    have h10' : l.take 10 = l.take k ++ y :: (l.drop (k + 1)).take (10 - (k + 1)) := by
      conv => lhs; rw [hs]
      rw [List.take_append, hyl, List.take_of_length_le (by omega), show 10 - k = (10 - (k + 1)) + 1 by omega, List.take_succ_cons]
    rw [h10']
    have := findIdx_app (p := fun x : UInt8 => decide (x.toNat < 128)) (l.take k) y ((l.drop (k + 1)).take (10 - (k + 1))) (fun x hx => by have := hk x hx; simp; omega) (by simpa using hlo)
    rw [this, hyl]
  have hg : l.getD k 0 = y := by rw [List.getD_eq_getElem?_getD, List.getElem?_eq_getElem hl, hy]; rfl
  have h63 : (128 : Nat) ^ 9 = 9223372036854775808 := by decide
  generalize hys : l.take k = ys at hk ht hyl hs
  by_cases hb : (0 < k ∧ (l.getD k 0).toNat = 0) ∨ (k = 9 ∧ 1 < (l.getD k 0).toNat)
  · rw [gu_bad hf hb, if_neg]
    rw [hg] at hb
    rw [ht]
    intro he
    rcases hb with ⟨h0, hz⟩ | ⟨h9, h1⟩
    · obtain ⟨zs, z, e1, _, _, e4⟩ := vint_last (vVal (ys ++ [y]) % 18446744073709551616)
      rw [e1] at he
      obtain ⟨rfl, e2⟩ := List.append_inj' he rfl
      cases e2
      exact e4 (fun e => by rw [e] at hyl; simp at hyl; omega) hz
    · have hv := vint_val (vVal (ys ++ [y]) % 18446744073709551616)
      rw [he, vVal_app, hyl, h9, h63] at hv
      simp only [vVal] at hv
      have : (vVal ys + 9223372036854775808 * (y.toNat % 128 + 128 * 0)) % 18446744073709551616 < 18446744073709551616 := Nat.mod_lt _ (by decide)
      omega
  · rw [gu_good hf hb]
    rw [hg] at hb
    have hlt : vVal (ys ++ [y]) < 18446744073709551616 := by
      rw [vVal_app, hyl]
      simp only [vVal]
      have h1 := vVal_lt ys
      rw [hyl] at h1
      by_cases h9 : k = 9
      · subst h9
        rw [h63] at h1 ⊢
        omega
      · have h2 : (128 : Nat) ^ k ≤ 128 ^ 8 := Nat.pow_le_pow_right (by decide) (by omega)
        have h3 : (128 : Nat) ^ 8 = 72057594037927936 := by decide
        have h4 : 128 ^ k * (y.toNat % 128 + 128 * 0) ≤ 128 ^ 8 * 127 := Nat.mul_le_mul h2 (by omega)
        omega
    rw [ht, Nat.mod_eq_of_lt hlt, if_pos (vint_of hk hlo (fun hne => fun e => hb (Or.inl ⟨by rw [← hyl]; exact List.length_pos_iff.2 hne, e⟩)))]
end Go.Proofs.YtnagejhpdhdpfaaGreatDoor
