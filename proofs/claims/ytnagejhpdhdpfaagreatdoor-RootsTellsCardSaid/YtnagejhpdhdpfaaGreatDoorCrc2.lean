/-
  The document's sum, bit by bit from the top, is the same sum. No program here.
-/
import Derived.Test.YtnagejhpdhdpfaaGreatDoorCrc0
namespace Go.Proofs.YtnagejhpdhdpfaaGreatDoor
def refBit (l : Nat) (b : Bool) : Nat := (l * 2 % 4294967296) ^^^ (if (decide (2147483648 ≤ l) != b) then 79764919 else 0)
/-- bit k of a byte. -/
def bitOf (x : UInt8) (k : Nat) : Bool := decide (x.toNat / 2 ^ k % 2 = 1)
def refK (l : Nat) (x : UInt8) : Nat → Nat
  | 0 => l
  | k + 1 => refBit (refK l x k) (bitOf x k)
def refF (l : Nat) (b : List UInt8) : Nat := b.foldl (fun l x => refK l x 8) l
/-- the bits of a number, the other way round. -/
def rvS (l : Nat) : Nat → Nat
  | 0 => 0
  | k + 1 => rvS l k * 2 + l / 2 ^ k % 2
def refCrc (b : List UInt8) : Nat := rvS (4294967295 - refF 4294967295 b) 32

theorem rvS_bit (l k i : Nat) : (rvS l k).testBit i = (decide (i < k) && l.testBit (k - 1 - i)) := by
  induction k generalizing i with
  | zero => simp [rvS]
  | succ k ih =>
    have h2 : l / 2 ^ k % 2 < 2 := Nat.mod_lt _ (by decide)
    cases i with
    | zero =>
      rw [Nat.testBit_zero, rvS, show (rvS l k * 2 + l / 2 ^ k % 2) % 2 = l / 2 ^ k % 2 by omega]
      simp [Nat.testBit_eq_decide_div_mod_eq]
    | succ i =>
      rw [Nat.testBit_succ, rvS, show (rvS l k * 2 + l / 2 ^ k % 2) / 2 = rvS l k by omega, ih]
      simp only [Nat.add_lt_add_iff_right]
      rw [show k + 1 - 1 - (i + 1) = k - 1 - i by omega]
theorem rvS_lt (l k : Nat) : rvS l k < 2 ^ k := by
  induction k with
  | zero => simp [rvS]
  | succ k ih =>
    have h2 : l / 2 ^ k % 2 < 2 := Nat.mod_lt _ (by decide)
    rw [rvS, Nat.pow_succ]
    omega
theorem poly_bits : ∀ i, i < 32 → Nat.testBit 3988292384 i = Nat.testBit 79764919 (31 - i) := by decide +kernel
theorem top_bit {l : Nat} (h : l < 4294967296) : l.testBit 31 = decide (2147483648 ≤ l) := by
  rw [Nat.testBit_eq_decide_div_mod_eq]
  have : l / 2 ^ 31 % 2 = 1 ↔ 2147483648 ≤ l := by omega
  simp only [this]
theorem rev_step {l : Nat} (h : l < 4294967296) (b : Bool) : rvS (refBit l b) 32 = st1 (rvS l 32 ^^^ b.toNat) := by
  apply Nat.eq_of_testBit_eq
  intro i
  obtain ⟨t, ht⟩ : ∃ t, (decide (2147483648 ≤ l) != b) = t := ⟨_, rfl⟩
  have hc0 : (rvS l 32 ^^^ b.toNat) % 2 = t.toNat := by
    have h1 := Nat.testBit_zero (x := rvS l 32 ^^^ b.toNat)
    rw [Nat.testBit_xor, rvS_bit] at h1
    simp only [Nat.sub_zero, show (decide (0 < 32)) = true from rfl, Bool.true_and] at h1
    rw [show 32 - 1 = 31 from rfl, top_bit h] at h1
    have hb : b.toNat.testBit 0 = b := by cases b <;> rfl
    rw [hb] at h1
    have h2 : (decide (2147483648 ≤ l) ^^ b) = t := ht
    rw [h2] at h1
    have h3 := Nat.mod_two_eq_zero_or_one (rvS l 32 ^^^ b.toNat)
    cases t
    · rcases h3 with h3 | h3
      · exact h3
      · rw [h3] at h1; simp at h1
    · rcases h3 with h3 | h3
      · rw [h3] at h1; simp at h1
      · exact h3
  unfold st1 refBit
  rw [hc0, ht, rvS_bit, Nat.testBit_xor, Nat.testBit_xor]
  have hd : ∀ x : Nat, (x / 2).testBit i = x.testBit (i + 1) := fun x => (Nat.testBit_succ x i).symm
  rw [hd, Nat.testBit_xor, rvS_bit]
  have hbz : b.toNat.testBit (i + 1) = false := by
    cases b
    · exact Nat.zero_testBit _
    · rw [Nat.testBit_succ]; exact Nat.zero_testBit _
  rw [hbz, Bool.xor_false]
  have hm : (l * 2 % 4294967296).testBit (32 - 1 - i) = (decide (32 - 1 - i < 32) && (l * 2).testBit (32 - 1 - i)) := by
    rw [show (4294967296 : Nat) = 2 ^ 32 from rfl, Nat.testBit_mod_two_pow]
  rw [hm]
  by_cases hi : i < 32
  · have hp := poly_bits i hi
    have e1 : (if t = true then 79764919 else 0 : Nat).testBit (32 - 1 - i) = (3988292384 * t.toNat).testBit i := by
      cases t
      · simp
      · simpa using hp.symm
    rw [e1]
    congr 1
    by_cases h31 : i < 31
    · rw [show 32 - 1 - i = (30 - i) + 1 by omega, Nat.testBit_succ, show l * 2 / 2 = l by omega, show 32 - 1 - (i + 1) = 30 - i by omega]
      simp [show i < 32 by omega, show i + 1 < 32 by omega, show 30 - i + 1 < 32 by omega]
    · have : i = 31 := by omega
      subst this
      simp
  · have hq : (3988292384 * t.toNat).testBit i = false := Nat.testBit_lt_two_pow (Nat.lt_of_lt_of_le (show 3988292384 * t.toNat < 2 ^ 32 by cases t <;> simp) (Nat.pow_le_pow_right (by decide) (by omega)))
    rw [hq]
    simp [show ¬ i < 32 from hi, show ¬ i + 1 < 32 by omega]
theorem refBit_lt {l : Nat} (b : Bool) : refBit l b < 4294967296 := by
  unfold refBit
  have h1 : l * 2 % 4294967296 < 2 ^ 32 := Nat.mod_lt _ (by decide)
  have h2 : (if (decide (2147483648 ≤ l) != b) then 79764919 else 0 : Nat) < 2 ^ 32 := by split <;> decide
  exact Nat.xor_lt_two_pow h1 h2
theorem refK_lt {l : Nat} (h : l < 4294967296) (x : UInt8) (k : Nat) : refK l x k < 4294967296 := by
  cases k with
  | zero => exact h
  | succ k => exact refBit_lt _
theorem st1_two (a y : Nat) : st1 (a ^^^ 2 * y) = st1 a ^^^ y := by
  have h1 : (a ^^^ 2 * y) / 2 = a / 2 ^^^ y := by
    apply Nat.eq_of_testBit_eq
    intro i
    rw [← Nat.testBit_succ, Nat.testBit_xor, Nat.testBit_xor, Nat.testBit_succ, Nat.testBit_succ, show 2 * y / 2 = y by omega]
  have h2 : (a ^^^ 2 * y) % 2 = a % 2 := by
    have h := Nat.testBit_zero (x := a ^^^ 2 * y)
    rw [Nat.testBit_xor, Nat.testBit_zero, Nat.testBit_zero, show 2 * y % 2 = 0 by omega] at h
    have h3 := Nat.mod_two_eq_zero_or_one (a ^^^ 2 * y)
    have h4 := Nat.mod_two_eq_zero_or_one a
    rcases h3 with h3 | h3 <;> rcases h4 with h4 | h4 <;> rw [h3, h4] at h <;> first | (rw [h3, h4]; done) | (simp at h)
  unfold st1
  rw [h1, h2, Nat.xor_assoc, Nat.xor_comm y, ← Nat.xor_assoc]
/-- a byte, bit by bit. -/
def stB (c : Nat) (x : UInt8) : Nat → Nat
  | 0 => c
  | k + 1 => st1 (stB c x k ^^^ (bitOf x k).toNat)
theorem rev_byte {l : Nat} (h : l < 4294967296) (x : UInt8) (k : Nat) : rvS (refK l x k) 32 = stB (rvS l 32) x k := by
  induction k with
  | zero => rfl
  | succ k ih => rw [refK, rev_step (refK_lt h x k), ih]; rfl
theorem stB_step (c : Nat) (x : UInt8) (k : Nat) : stepN k (c ^^^ x.toNat) = stB c x k ^^^ (x.toNat / 2 ^ k) := by
  induction k with
  | zero => simp [stepN, stB]
  | succ k ih =>
    rw [stepN, ih, stB]
    have hx : x.toNat / 2 ^ k = (bitOf x k).toNat ^^^ 2 * (x.toNat / 2 ^ (k + 1)) := by
      rw [Nat.pow_succ, ← Nat.div_div_eq_div_mul]
      have hb : (bitOf x k).toNat = x.toNat / 2 ^ k % 2 := by
        unfold bitOf
        rcases Nat.mod_two_eq_zero_or_one (x.toNat / 2 ^ k) with h | h <;> rw [h] <;> rfl
      rw [hb]
      generalize x.toNat / 2 ^ k = y
      apply Nat.eq_of_testBit_eq
      intro i
      cases i with
      | zero => rw [Nat.testBit_xor, Nat.testBit_zero, Nat.testBit_zero, Nat.testBit_zero, show 2 * (y / 2) % 2 = 0 by omega, Nat.mod_mod]; simp
      | succ i => rw [Nat.testBit_xor, Nat.testBit_succ, Nat.testBit_succ, Nat.testBit_succ, show y % 2 / 2 = 0 by omega, show 2 * (y / 2) / 2 = y / 2 by omega]; simp
    rw [hx, ← Nat.xor_assoc, st1_two]
theorem nib_step (c : Nat) : nib c = stepN 4 c := by
  have hT : ∀ k, k < 16 → tabL.getD k 0 = stepN 4 k := by decide +kernel
  have hc : c = c % 16 ^^^ 2 * (2 * (2 * (2 * (c / 16)))) := by
    apply Nat.eq_of_testBit_eq
    intro i
    rw [show 2 * (2 * (2 * (2 * (c / 16)))) = 2 ^ 4 * (c / 2 ^ 4) by omega, show c % 16 = c % 2 ^ 4 from rfl, Nat.testBit_xor, Nat.testBit_mod_two_pow, Nat.testBit_two_pow_mul, Nat.testBit_div_two_pow]
    by_cases h : i < 4
    · simp [h, show ¬ 4 ≤ i by omega]
    · simp [h, show 4 ≤ i by omega, show i - 4 + 4 = i by omega]
  have h4 : stepN 4 c = stepN 4 (c % 16) ^^^ c / 16 := by
    conv => lhs; rw [hc]
    simp only [stepN]
    rw [st1_two, st1_two, st1_two, st1_two]
  rw [h4, nib, hT _ (Nat.mod_lt _ (by decide)), Nat.xor_comm]
theorem step8 (c : Nat) : stepN 8 c = nib (nib c) := by rw [nib_step, nib_step]; rfl
theorem rev_crc1 {l : Nat} (h : l < 4294967296) (x : UInt8) : rvS (refK l x 8) 32 = crc1 (rvS l 32) x := by
  rw [rev_byte h, crc1, ← step8, stB_step, show x.toNat / 2 ^ 8 = 0 by have := x.toNat_lt; omega, Nat.xor_zero]
theorem refF_lt (b : List UInt8) {l : Nat} (h : l < 4294967296) : refF l b < 4294967296 := by
  induction b generalizing l with
  | nil => exact h
  | cons x b ih => exact ih (refK_lt h x 8)
theorem rev_crcF (b : List UInt8) {l : Nat} (h : l < 4294967296) : rvS (refF l b) 32 = crcF (rvS l 32) b := by
  induction b generalizing l with
  | nil => rfl
  | cons x b ih =>
    show rvS (refF (refK l x 8) b) 32 = crcF (crc1 (rvS l 32) x) b
    rw [ih (refK_lt h x 8), rev_crc1 h]
theorem rev_not {l : Nat} (h : l < 4294967296) : rvS (4294967295 - l) 32 = 4294967295 - rvS l 32 := by
  have hl := rvS_lt l 32
  apply Nat.eq_of_testBit_eq
  intro i
  rw [rvS_bit, show (4294967295 : Nat) - l = 2 ^ 32 - (l + 1) by omega, show (4294967295 : Nat) - rvS l 32 = 2 ^ 32 - (rvS l 32 + 1) by omega, Nat.testBit_two_pow_sub_succ h, Nat.testBit_two_pow_sub_succ hl, rvS_bit]
  by_cases hi : i < 32
  · simp [hi, show 32 - 1 - i < 32 by omega]
  · simp [hi]
/-- the document's sum is the sum. -/
theorem refCrc_eq (b : List UInt8) : refCrc b = crcN b := by
  unfold refCrc crcN
  rw [rev_not (refF_lt b (by decide)), rev_crcF b (by decide)]
  congr 2
end Go.Proofs.YtnagejhpdhdpfaaGreatDoor
