/-
  The document's sum, bit by bit from the top, is the same sum. No program here.
-/
import Derived.Test.YtkacgmbinkoojaaGreatDoorMByA
import Derived.Outline
import Derived.Laws.BitsAllLaws
import Derived.Test.YtkacgmbinkoojaaGreatDoorMLoA
namespace Go.Proofs.YtkacgmbinkoojaaGreatDoor
def refBit (l : Nat) (b : Bool) : Nat := (l * 2 % 4294967296) ^^^ (if (decide (2147483648 ≤ l) != b) then 79764919 else 0)
/-- bit k of a byte. -/
def bitOf (x : UInt8) (k : Nat) : Bool := decide (x.toNat / 2 ^ k % 2 = 1)
def refK (l : Nat) (x : UInt8) : Nat → Nat
  | 0 => l
  | k + 1 => refBit (refK l x k) (bitOf x k)
def refF (l : Nat) (b : List UInt8) : Nat := b.foldl (fun l x => refK l x 8) l
/-- the bits of a number, the other way round. -/
def rvS (l : Nat) : Nat → Nat
  | 0 => 0
  | k + 1 => rvS l k * 2 + l / 2 ^ k % 2
def refCrc (b : List UInt8) : Nat := rvS (4294967295 - refF 4294967295 b) 32

theorem rvS_bit (l k i : Nat) : (rvS l k).testBit i = (decide (i < k) && l.testBit (k - 1 - i)) := by
  induction k generalizing i with
  | zero => simp [rvS]
  | succ k ih =>
    have h2 : l / 2 ^ k % 2 < 2 := Nat.mod_lt _ (by decide)
    cases i with
    | zero =>
      rw [Nat.testBit_zero, rvS, show (rvS l k * 2 + l / 2 ^ k % 2) % 2 = l / 2 ^ k % 2 by omega]
      simp [Nat.testBit_eq_decide_div_mod_eq]
    | succ i =>
      rw [Nat.testBit_succ, rvS, show (rvS l k * 2 + l / 2 ^ k % 2) / 2 = rvS l k by omega, ih]
      simp only [Nat.add_lt_add_iff_right]
      rw [show k + 1 - 1 - (i + 1) = k - 1 - i by omega]
theorem rvS_lt (l k : Nat) : rvS l k < 2 ^ k := by
  induction k with
  | zero => simp [rvS]
  | succ k ih =>
    have h2 : l / 2 ^ k % 2 < 2 := Nat.mod_lt _ (by decide)
    rw [rvS, Nat.pow_succ]
    omega
theorem poly_bits : ∀ i, i < 32 → Nat.testBit 3988292384 i = Nat.testBit 79764919 (31 - i) := by decide +kernel
theorem top_bit {l : Nat} (h : l < 4294967296) : l.testBit 31 = decide (2147483648 ≤ l) := by
  rw [Nat.testBit_eq_decide_div_mod_eq]
  have : l / 2 ^ 31 % 2 = 1 ↔ 2147483648 ≤ l := by omega
  simp only [this]
theorem rev_step {l : Nat} (h : l < 4294967296) (b : Bool) : rvS (refBit l b) 32 = st1 (rvS l 32 ^^^ b.toNat) := by
  apply Nat.eq_of_testBit_eq
  intro i
  obtain ⟨t, ht⟩ : ∃ t, (decide (2147483648 ≤ l) != b) = t := ⟨_, rfl⟩
  have hc0 : (rvS l 32 ^^^ b.toNat) % 2 = t.toNat := by
    have h1 := Nat.testBit_zero (x := rvS l 32 ^^^ b.toNat)
    rw [Nat.testBit_xor, rvS_bit] at h1
    simp only [Nat.sub_zero, show (decide (0 < 32)) = true from rfl, Bool.true_and] at h1
    rw [show 32 - 1 = 31 from rfl, top_bit h] at h1
    have hb : b.toNat.testBit 0 = b := by cases b <;> rfl
    rw [hb] at h1
    have h2 : (decide (2147483648 ≤ l) ^^ b) = t := ht
    rw [h2] at h1
    have h3 := Nat.mod_two_eq_zero_or_one (rvS l 32 ^^^ b.toNat)
    cases t
    · rcases h3 with h3 | h3
      · exact h3
      · rw [h3] at h1; simp at h1
    · rcases h3 with h3 | h3
      · rw [h3] at h1; simp at h1
      · exact h3
  unfold st1 refBit
  rw [hc0, ht, rvS_bit, Nat.testBit_xor, Nat.testBit_xor]
  have hd : ∀ x : Nat, (x / 2).testBit i = x.testBit (i + 1) := fun x => (Nat.testBit_succ x i).symm
  rw [hd, Nat.testBit_xor, rvS_bit]
  have hbz : b.toNat.testBit (i + 1) = false := by
    cases b
    · exact Nat.zero_testBit _
    · rw [Nat.testBit_succ]; exact Nat.zero_testBit _
  rw [hbz, Bool.xor_false]
  have hm : (l * 2 % 4294967296).testBit (32 - 1 - i) = (decide (32 - 1 - i < 32) && (l * 2).testBit (32 - 1 - i)) := by
    rw [show (4294967296 : Nat) = 2 ^ 32 from rfl, Nat.testBit_mod_two_pow]
  rw [hm]
  by_cases hi : i < 32
  · have hp := poly_bits i hi
    have e1 : (if t = true then 79764919 else 0 : Nat).testBit (32 - 1 - i) = (3988292384 * t.toNat).testBit i := by
      cases t
      · simp
      · simpa using hp.symm
    rw [e1]
    congr 1
    by_cases h31 : i < 31
    · rw [show 32 - 1 - i = (30 - i) + 1 by omega, Nat.testBit_succ, show l * 2 / 2 = l by omega, show 32 - 1 - (i + 1) = 30 - i by omega]
      simp [show i < 32 by omega, show i + 1 < 32 by omega, show 30 - i + 1 < 32 by omega]
    · have : i = 31 := by omega
      subst this
      simp
  · have hq : (3988292384 * t.toNat).testBit i = false := Nat.testBit_lt_two_pow (Nat.lt_of_lt_of_le (show 3988292384 * t.toNat < 2 ^ 32 by cases t <;> simp) (Nat.pow_le_pow_right (by decide) (by omega)))
    rw [hq]
    simp [show ¬ i < 32 from hi, show ¬ i + 1 < 32 by omega]
theorem refBit_lt {l : Nat} (b : Bool) : refBit l b < 4294967296 := by
  unfold refBit
  have h1 : l * 2 % 4294967296 < 2 ^ 32 := Nat.mod_lt _ (by decide)
  have h2 : (if (decide (2147483648 ≤ l) != b) then 79764919 else 0 : Nat) < 2 ^ 32 := by split <;> decide
  exact Nat.xor_lt_two_pow h1 h2
theorem refK_lt {l : Nat} (h : l < 4294967296) (x : UInt8) (k : Nat) : refK l x k < 4294967296 := by
  cases k with
  | zero => exact h
  | succ k => exact refBit_lt _
theorem st1_two (a y : Nat) : st1 (a ^^^ 2 * y) = st1 a ^^^ y := by
  have h1 : (a ^^^ 2 * y) / 2 = a / 2 ^^^ y := by
    apply Nat.eq_of_testBit_eq
    intro i
    rw [← Nat.testBit_succ, Nat.testBit_xor, Nat.testBit_xor, Nat.testBit_succ, Nat.testBit_succ, show 2 * y / 2 = y by omega]
  have h2 : (a ^^^ 2 * y) % 2 = a % 2 := by
    have h := Nat.testBit_zero (x := a ^^^ 2 * y)
    rw [Nat.testBit_xor, Nat.testBit_zero, Nat.testBit_zero, show 2 * y % 2 = 0 by omega] at h
    have h3 := Nat.mod_two_eq_zero_or_one (a ^^^ 2 * y)
    have h4 := Nat.mod_two_eq_zero_or_one a
    rcases h3 with h3 | h3 <;> rcases h4 with h4 | h4 <;> rw [h3, h4] at h <;> first | (rw [h3, h4]; done) | (simp at h)
  unfold st1
  rw [h1, h2, Nat.xor_assoc, Nat.xor_comm y, ← Nat.xor_assoc]
/-- a byte, bit by bit. -/
def stB (c : Nat) (x : UInt8) : Nat → Nat
  | 0 => c
  | k + 1 => st1 (stB c x k ^^^ (bitOf x k).toNat)
theorem rev_byte {l : Nat} (h : l < 4294967296) (x : UInt8) (k : Nat) : rvS (refK l x k) 32 = stB (rvS l 32) x k := by
  induction k with
  | zero => rfl
  | succ k ih => rw [refK, rev_step (refK_lt h x k), ih]; rfl
theorem stB_step (c : Nat) (x : UInt8) (k : Nat) : stepN k (c ^^^ x.toNat) = stB c x k ^^^ (x.toNat / 2 ^ k) := by
  induction k with
  | zero => simp [stepN, stB]
  | succ k ih =>
    rw [stepN, ih, stB]
    have hx : x.toNat / 2 ^ k = (bitOf x k).toNat ^^^ 2 * (x.toNat / 2 ^ (k + 1)) := by
      rw [Nat.pow_succ, ← Nat.div_div_eq_div_mul]
      have hb : (bitOf x k).toNat = x.toNat / 2 ^ k % 2 := by
        unfold bitOf
        rcases Nat.mod_two_eq_zero_or_one (x.toNat / 2 ^ k) with h | h <;> rw [h] <;> rfl
      rw [hb]
      generalize x.toNat / 2 ^ k = y
      apply Nat.eq_of_testBit_eq
      intro i
      cases i with
      | zero => rw [Nat.testBit_xor, Nat.testBit_zero, Nat.testBit_zero, Nat.testBit_zero, show 2 * (y / 2) % 2 = 0 by omega, Nat.mod_mod]; simp
      | succ i => rw [Nat.testBit_xor, Nat.testBit_succ, Nat.testBit_succ, Nat.testBit_succ, show y % 2 / 2 = 0 by omega, show 2 * (y / 2) / 2 = y / 2 by omega]; simp
    rw [hx, ← Nat.xor_assoc, st1_two]
theorem nib_step (c : Nat) : nib c = stepN 4 c := by
  have hT : ∀ k, k < 16 → tabL.getD k 0 = stepN 4 k := by decide +kernel
  have hc : c = c % 16 ^^^ 2 * (2 * (2 * (2 * (c / 16)))) := by
    apply Nat.eq_of_testBit_eq
    intro i
    rw [show 2 * (2 * (2 * (2 * (c / 16)))) = 2 ^ 4 * (c / 2 ^ 4) by omega, show c % 16 = c % 2 ^ 4 from rfl, Nat.testBit_xor, Nat.testBit_mod_two_pow, Nat.testBit_two_pow_mul, Nat.testBit_div_two_pow]
    by_cases h : i < 4
    · simp [h, show ¬ 4 ≤ i by omega]
    · simp [h, show 4 ≤ i by omega, show i - 4 + 4 = i by omega]
  have h4 : stepN 4 c = stepN 4 (c % 16) ^^^ c / 16 := by
    conv => lhs; rw [hc]
    simp only [stepN]
    rw [st1_two, st1_two, st1_two, st1_two]
  rw [h4, nib, hT _ (Nat.mod_lt _ (by decide)), Nat.xor_comm]
theorem step8 (c : Nat) : stepN 8 c = nib (nib c) := by rw [nib_step, nib_step]; rfl
theorem rev_crc1 {l : Nat} (h : l < 4294967296) (x : UInt8) : rvS (refK l x 8) 32 = crc1 (rvS l 32) x := by
  rw [rev_byte h, crc1, ← step8, stB_step, show x.toNat / 2 ^ 8 = 0 by have := x.toNat_lt; omega, Nat.xor_zero]
theorem refF_lt (b : List UInt8) {l : Nat} (h : l < 4294967296) : refF l b < 4294967296 := by
  induction b generalizing l with
  | nil => exact h
  | cons x b ih => exact ih (refK_lt h x 8)
theorem rev_crcF (b : List UInt8) {l : Nat} (h : l < 4294967296) : rvS (refF l b) 32 = crcF (rvS l 32) b := by
  induction b generalizing l with
  | nil => rfl
  | cons x b ih =>
    show rvS (refF (refK l x 8) b) 32 = crcF (crc1 (rvS l 32) x) b
    rw [ih (refK_lt h x 8), rev_crc1 h]
theorem rev_not {l : Nat} (h : l < 4294967296) : rvS (4294967295 - l) 32 = 4294967295 - rvS l 32 := by
  have hl := rvS_lt l 32
  apply Nat.eq_of_testBit_eq
  intro i
  rw [rvS_bit, show (4294967295 : Nat) - l = 2 ^ 32 - (l + 1) by omega, show (4294967295 : Nat) - rvS l 32 = 2 ^ 32 - (rvS l 32 + 1) by omega, Nat.testBit_two_pow_sub_succ h, Nat.testBit_two_pow_sub_succ hl, rvS_bit]
  by_cases hi : i < 32
  · simp [hi, show 32 - 1 - i < 32 by omega]
  · simp [hi]
/-- the document's sum is the sum. -/
theorem refCrc_eq (b : List UInt8) : refCrc b = crcN b := by
  unfold refCrc crcN
  rw [rev_not (refF_lt b (by decide)), rev_crcF b (by decide)]
  congr 2
end Go.Proofs.YtkacgmbinkoojaaGreatDoor

/-
  The document's bytes (homesteadref01): the sum.
-/
namespace Go.Proofs.YtkacgmbinkoojaaGreatDoor
open Go.RowKit Go.Maps Go.MapKept

theorem refF_snoc (c : Nat) (l : List UInt8) (x : UInt8) : refF c (l ++ [x]) = refK (refF c l) x 8 := by simp [refF]
theorem bit_int (x : UInt8) (q : Nat) : (((x.toNat : Int) / 2 ^ q).tmod 2 == 1) = bitOf x q := by
  unfold bitOf
  have h1 : ((x.toNat : Int) / 2 ^ q) = ((x.toNat / 2 ^ q : Nat) : Int) := by simp
  rw [h1]
  generalize x.toNat / 2 ^ q = y at *
  rw [Int.tmod_eq_emod_of_nonneg (Int.natCast_nonneg y)]
  rcases Nat.mod_two_eq_zero_or_one y with h | h
  · rw [h, show (y : Int) % 2 = 0 by omega]; rfl
  · rw [h, show (y : Int) % 2 = 1 by omega]; rfl
set_option maxRecDepth 100000 in
set_option maxHeartbeats 4000000 in
theorem x1Crc_any (w : World) (v : Value) (l : List UInt8) (hv : Rd w v (bcells l)) (hl : l.length ≤ 140737488355328) :
    Calls Tryz.prog 85 #[v] w fun e w' => e = .returned (.int .u32 (crcN l)) ∧ w = w' := by
  obtain ⟨a, c, rfl⟩ := hv.shape
  rw [bcells_length] at hv ⊢
  have Hv := Lib.hid hv
  clear hv
  go_enter Tryz.func85, Tryz.ntmps85
  go_wp2_with fail
  go_loop [3, 4] (fun x i => ∃ k s : Nat, k ≤ l.length ∧ i = .int .i64 k ∧ x = .int .u32 s ∧ s < 4294967296 ∧ s = refF 4294967295 (l.take k)) (fun _ i => l.length - (intOf i).toNat)
  case atStart => exact ⟨0, 4294967295, by omega, rfl, rfl, by omega, rfl⟩
  case round =>
    obtain ⟨k, s, hk, rfl, rfl, hs, hse⟩ := hrel
    have Hse := Lib.hid hse
    clear hse
    by_cases hlt : k < l.length
    · obtain ⟨b, o, rfl, hc⟩ : ∃ b o, a = some ⟨b, o, none⟩ ∧ w.cell? ⟨b, o + k, none⟩ = some (.int .u8 (l[k].toNat : Int)) := by
        rcases Hv.out with ⟨_, h0⟩ | ⟨b, o, n', cc, he, _, hc⟩
        · simp [bcells] at h0; subst h0; simp at hlt
        · cases he
          exact ⟨b, o, rfl, hc k _ (bcells_at hlt)⟩
      obtain ⟨x, hx⟩ : ∃ x, l[k] = x := ⟨_, rfl⟩
      rw [hx] at hc
      have hnext : refF 4294967295 (l.take (k + 1)) = refK s x 8 := by
        rw [List.take_succ_eq_append_getElem hlt, refF_snoc, ← Hse.out, hx]
      have Hnext := Lib.hid hnext
      clear hx hnext
      have hxl := x.toNat_lt
      obtain ⟨xn, hxn⟩ : ∃ xn, x.toNat = xn := ⟨_, rfl⟩
      rw [hxn] at hc hxl
      have Hxn := Lib.hid hxn
      clear hxn
      go_wp2_with fail
      go_loop [3, 5] (fun y j => ∃ (q r : Nat), q ≤ 8 ∧ j = .int .u64 q ∧ y = .int .u32 r ∧ r < 4294967296 ∧ r = refK s x q) (fun _ j => 8 - (intOf j).toNat)
      case atStart => exact ⟨0, s, by omega, rfl, rfl, hs, rfl⟩
      case round =>
        obtain ⟨q, r, hq, rfl, rfl, hr, hre⟩ := hrel
        by_cases hq8 : q < 8
        · obtain ⟨t, ht⟩ : ∃ t, (decide (2147483648 ≤ r) != bitOf x q) = t := ⟨_, rfl⟩
          have hone : (!decide (2147483648 ≤ (r : Int)) == (((xn : Int) / 2 ^ q).tmod 2 == 1)) = t := by
            rw [← ht, ← bit_int x q, Hxn.out]
            have : decide (2147483648 ≤ (r : Int)) = decide (2147483648 ≤ r) := by
              by_cases h : 2147483648 ≤ r
              · rw [decide_eq_true h, decide_eq_true (by omega)]
              · rw [decide_eq_false h, decide_eq_false (by omega)]
            rw [this]
            cases (decide (2147483648 ≤ r)) <;> cases (((xn : Int) / 2 ^ q).tmod 2 == 1) <;> rfl
          have hstep : refK s x (q + 1) = (r * 2 % 4294967296) ^^^ (if t then 79764919 else 0) := by rw [refK, ← hre, refBit, ht]
          have hlt2 : r * 2 % 4294967296 < 4294967296 := Nat.mod_lt _ (by decide)
          have hx32 : bits .xor .u32 ((r : Int) * 2 % 4294967296) 79764919 = (((r * 2 % 4294967296) ^^^ 79764919 : Nat) : Int) := by
            rw [show ((r : Int) * 2 % 4294967296) = ((r * 2 % 4294967296 : Nat) : Int) by omega]
            exact u32_xor_nat _ _ hlt2 (by decide)
          have Hre := Lib.hid hre
          have Hstep := Lib.hid hstep
          have hl3 : (r * 2 % 4294967296) ^^^ 79764919 < 4294967296 := by
            have h1 : r * 2 % 4294967296 < 2 ^ 32 := hlt2
            exact Nat.xor_lt_two_pow h1 (by decide)
          have Hl3 := Lib.hid hl3
          have Hx32 := Lib.hid hx32
          clear hre hstep ht hl3 hx32
          cases t
          · go_wp2
            go_round
            case rel => exact ⟨q + 1, r * 2 % 4294967296, by omega, by go_num, by go_num, hlt2, by rw [Hstep.out]; simp⟩
            case measure => simp [intOf]; omega
          · go_wp2
            go_round
            case rel => exact ⟨q + 1, (r * 2 % 4294967296) ^^^ 79764919, by omega, by go_num, by rw [Hx32.out], Hl3.out, by rw [Hstep.out]; simp⟩
            case measure => simp [intOf]; omega
        · have hq' : q = 8 := by omega
          subst hq'
          have hfin : r = refF 4294967295 (l.take (k + 1)) := by rw [Hnext.out]; exact hre
          have Hfin := Lib.hid hfin
          clear hre hfin
          go_wp2
          go_round
          case rel => exact ⟨k + 1, r, by omega, by go_num, rfl, hr, Hfin.out⟩
          case measure => simp [intOf]; omega
    · have hall : refF 4294967295 (l.take k) = refF 4294967295 l := by rw [List.take_of_length_le (by omega)]
      obtain ⟨m, hm⟩ : ∃ m, 4294967295 - s = m := ⟨_, rfl⟩
      have hmi : (4294967295 : Int) - (s : Int) = (m : Int) := by omega
      have hml : m < 4294967296 := by omega
      have hfin : crcN l = rvS m 32 := by rw [← refCrc_eq, refCrc, ← hall, ← Hse.out, hm]
      have Hfin := Lib.hid hfin
      clear hall hfin hm Hse
      go_wp2_with fail
      go_loop [3, 7, 8] (fun x y j => ∃ (q r g : Nat), q ≤ 32 ∧ j = .int .i64 q ∧ x = .int .u32 r ∧ y = .int .u32 g ∧ r < 4294967296 ∧ r = m / 2 ^ q ∧ g = rvS m q) (fun _ _ j => 32 - (intOf j).toNat)
      case atStart => exact ⟨0, m, 0, by omega, rfl, by go_num, rfl, hml, by simp, rfl⟩
      case round =>
        obtain ⟨q, r, g, hq, rfl, rfl, rfl, hr, hre, hge⟩ := hrel
        by_cases hq8 : q < 32
        · have hgl : g < 2147483648 := by
            have := rvS_lt m q
            have h2 : 2 ^ q ≤ 2 ^ 31 := Nat.pow_le_pow_right (by decide) (by omega)
            omega
          have hstep : rvS m (q + 1) = g * 2 + r % 2 := by rw [rvS, ← hge, ← hre]
          have hdiv : m / 2 ^ (q + 1) = r / 2 := by rw [Nat.pow_succ, ← Nat.div_div_eq_div_mul, ← hre]
          have Hstep := Lib.hid hstep
          have Hdiv := Lib.hid hdiv
          clear hre hge hstep hdiv
          go_wp2
          go_round
          case rel => exact ⟨q + 1, r / 2, g * 2 + r % 2, by omega, by go_num, by go_num, by go_num, by omega, Hdiv.out.symm, Hstep.out.symm⟩
          case measure => simp [intOf]; omega
        · have hq' : q = 32 := by omega
          subst hq'
          have hgf : g = crcN l := by rw [Hfin.out]; exact hge
          have Hgf := Lib.hid hgf
          clear hgf hge hre
          go_wp2
          go_ret
          exact ⟨by rw [← Hgf.out]; rfl, rfl⟩
end Go.Proofs.YtkacgmbinkoojaaGreatDoor

/-
  The document's bytes (homesteadref01): behind, Seal.
-/
namespace Go.Proofs.YtkacgmbinkoojaaGreatDoor
open Go.RowKit Go.Maps Go.MapKept

/-- an empty row with room. -/
theorem row_made (w : World) (m : Nat) (hm : m ≤ 140737488355332) : (w.alloc (.cells (Array.replicate m (Value.int .u8 0)) 5)).ownsRow w.heap.size 5 1 (.slice (some ⟨w.heap.size, 0, none⟩) 0 m) 0 [] :=
  ⟨by simp, .inr ⟨w.heap.size, m, _, rfl, Nat.le_refl _, alloc_at _ _, Nat.zero_le _, by simp only [maxLen]; omega, by simp, by simp⟩⟩
theorem grew_of {w w' : World} {v v' : Value} {l : List UInt8} (h1 : w'.ownsRow 0 5 1 v' l.length (bcells l)) (h2 : w.grownBy w' v.ownBlock) (h3 : v'.ownBlock = v.ownBlock ∨ ∃ g, v'.ownBlock = some g ∧ w.heap.size ≤ g) : Grew w v l v' w' :=
  ⟨h1, (Upd.refl _ w).grown h2 (fun _ hk => Or.inl hk), h3⟩
set_option maxRecDepth 100000 in
set_option maxHeartbeats 4000000 in
theorem x1behind_any (w : World) (va vb : Value) (a b : List UInt8) (ha : Rd w va (bcells a)) (hb : Rd w vb (bcells b)) (hla : a.length ≤ 1099511627776) (hlb : b.length ≤ 1099511627776) :
    Calls Tryz.prog 83 #[va, vb] w fun e w' => ∃ p c, e = .returned (.slice p (a ++ b).length c) ∧ w'.ownsRow w.heap.size 5 1 (.slice p (a ++ b).length c) (a ++ b).length (bcells (a ++ b)) ∧ Below w.heap.size w w' := by
  obtain ⟨pa, ca, rfl⟩ := ha.shape
  obtain ⟨pb, cb, rfl⟩ := hb.shape
  rw [bcells_length] at ha hb ⊢
  rw [bcells_length]
  obtain ⟨r, hr⟩ : ∃ r, a ++ b = r := ⟨_, rfl⟩
  rw [hr]
  have hmk := make_u8 0 (a.length + b.length) (by omega) (by omega)
  rw [show (((a.length + b.length : Nat) : Nat) : Int) = (a.length : Int) + (b.length : Int) from rfl, show ((0 : Nat) : Int) = 0 from rfl] at hmk
  have hrow := row_made w (a.length + b.length) (by omega)
  have hB0 : Below w.heap.size w (w.alloc (.cells (Array.replicate (a.length + b.length) (Value.int .u8 0)) 5)) := (Below.refl _ _).alloc (Nat.le_refl _) _
  have Ha := Lib.hid (ha.below hB0)
  have Hb := Lib.hid hb
  have Hr := Lib.hid hr
  have Hrow := Lib.hid hrow
  clear ha hb hr hrow
  go_enter Tryz.func83, Tryz.ntmps83
  go_wp2_with first
    | (at_builtin; refine append_u8 rfl (.tmp 12) (.tmp 13) rfl (.slice (some ⟨w.heap.size, 0, none⟩) 0 (a.length + b.length)) (.slice pa a.length ca) [] a a rfl rfl (ownsRow_base0 Hrow.out) rfl Ha.out (by simp; omega) ?_; intro v1 w1 h1 h2 h3 _; obtain ⟨a1, c1, rfl, _, _, _⟩ := row_slice h1; have HG1 := Lib.hid (Grew.own hB0 Hrow.out (grew_of h1 h2 h3)); clear h1 h2 h3)
    | (at_builtin; refine append_u8 rfl (.tmp 15) (.tmp 16) rfl (.slice a1 a.length c1) (.slice pb b.length cb) a b r Hr.out rfl (ownsRow_base0 HG1.out.1) rfl (Hb.out.below (HG1.out.2)) (by omega) ?_; intro v2 w2 h1 h2 h3 _; obtain ⟨a2, c2, rfl, _, _, _⟩ := row_slice h1; have HG2 := Lib.hid (Grew.own HG1.out.2 HG1.out.1 (grew_of h1 h2 h3)); clear h1 h2 h3)
  go_ret
  exact ⟨a2, c2, rfl, HG2.out.1, HG2.out.2⟩

set_option maxRecDepth 100000 in
set_option maxHeartbeats 4000000 in
theorem x1Seal_any (w : World) (v : Value) (l : List UInt8) (hv : Rd w v (bcells l)) (hl : l.length ≤ 1099511627776) :
    Calls Tryz.prog 67 #[v] w fun e w' => ∃ a c, e = .returned (.slice a (sealL sumL l).length c) ∧ w'.ownsRow w.heap.size 5 1 (.slice a (sealL sumL l).length c) (sealL sumL l).length (bcells (sealL sumL l)) ∧ Below w.heap.size w w' := by
  obtain ⟨a, c, rfl⟩ := hv.shape
  rw [bcells_length] at hv ⊢
  unfold sealL
  have hC := x1Crc_any w _ l hv (by omega)
  obtain ⟨s, hs⟩ : ∃ s, crcN l = s := ⟨_, rfl⟩
  have hs2 : s < 4294967296 := by rw [← hs]; unfold crcN; omega
  have hsum : sumL l = [UInt8.ofNat (s / 16777216), UInt8.ofNat (s / 65536), UInt8.ofNat (s / 256), UInt8.ofNat s] := by rw [← hs]; rfl
  rw [hs] at hC
  obtain ⟨m, hm⟩ : ∃ m, sumL l = m := ⟨_, rfl⟩
  rw [hm] at hsum ⊢
  have hml : m.length = 4 := by rw [hsum]; rfl
  obtain ⟨r, hr⟩ : ∃ r, l ++ m = r := ⟨_, rfl⟩
  rw [hr]
  have Hr := Lib.hid hr
  have Hsum := Lib.hid hsum
  have Hv := Lib.hid hv
  have HC := Lib.hid hC
  have Hml := Lib.hid hml
  clear hs hsum hm hv hC hml hr
  go_enter Tryz.func67, Tryz.ntmps67
  go_wp2_with (go_at_call 85; refine HC.out.mono ?_; rintro e w1 ⟨rfl, rfl⟩)
  have hrd : Rd (w.alloc (.cells #[.int .u8 ((s : Int) / 16777216), .int .u8 ((s : Int) / 65536 % 256), .int .u8 ((s : Int) / 256 % 256), .int .u8 ((s : Int) % 256)] 5)) (.slice (some ⟨w.heap.size, 0, none⟩) 4 4) (bcells m) := by
    refine Rd_new _ _ _ _ (bcells m) _ _ ?_ (by rw [bcells_length]; exact Hml.out.symm)
    rw [Hsum.out]
    simp [bcells]
    omega
  have Hrd := Lib.hid hrd
  have hB0 : Below w.heap.size w (w.alloc (.cells #[.int .u8 ((s : Int) / 16777216), .int .u8 ((s : Int) / 65536 % 256), .int .u8 ((s : Int) / 256 % 256), .int .u8 ((s : Int) % 256)] 5)) := (Below.refl _ _).alloc (Nat.le_refl _) _
  refine (x1behind_any _ (.slice a l.length c) (.slice (some ⟨w.heap.size, 0, none⟩) 4 4) l m (Hv.out.below hB0) Hrd.out (by omega) (by rw [Hml.out]; omega)).mono ?_
  rw [Hr.out]
  clear hrd
  rintro e w1 ⟨a1, c1, rfl, hR, hB⟩
  have HR := Lib.hid hR
  clear hR
  go_wp2
  go_ret
  exact ⟨a1, c1, rfl, ownsRow_from HR.out (fun g hg => Nat.le_trans hB0.size (row_from HR.out hg)), hB0.trans (hB.mono hB0.size)⟩
end Go.Proofs.YtkacgmbinkoojaaGreatDoor

/-
  The document's bytes (homesteadref01): Varint, Uint, Blob, equal.
-/
namespace Go.Proofs.YtkacgmbinkoojaaGreatDoor
open Go.RowKit Go.Maps Go.MapKept

/-- a full row of one byte. -/
theorem row_one (w : World) (x : UInt8) (z : Int) (hz : z = (x.toNat : Int)) : (w.alloc (.cells #[.int .u8 z] 5)).ownsRow w.heap.size 5 1 (.slice (some ⟨w.heap.size, 0, none⟩) 1 1) 1 (bcells [x]) := by
  subst hz
  exact ⟨by simp [bcells], .inr ⟨w.heap.size, 1, _, rfl, Nat.le_refl _, alloc_at _ _, Nat.le_refl _, by decide, by simp, by simp [bcells]⟩⟩
set_option maxRecDepth 100000 in
set_option maxHeartbeats 4000000 in
theorem x1Varint_any (n : Nat) : ∀ w : World, n < 18446744073709551616 →
    Calls Tryz.prog 84 #[.int .u64 n] w fun e w' => ∃ a c, e = .returned (.slice a (vint n).length c) ∧ w'.ownsRow w.heap.size 5 1 (.slice a (vint n).length c) (vint n).length (bcells (vint n)) ∧ Below w.heap.size w w' := by
  induction n using Nat.strongRecOn with
  | _ n ih =>
    intro w hn
    by_cases h : n < 128
    · rw [vint_small h]
      have hrow := row_one w (UInt8.ofNat n) n (by simp; omega)
      have Hrow := Lib.hid hrow
      have h' : (n : Int) < 128 := by omega
      clear hrow ih
      go_enter Tryz.func84, Tryz.ntmps84
      go_wp2
      go_ret
      exact ⟨_, _, rfl, Hrow.out, (Below.refl _ _).alloc (Nat.le_refl _) _⟩
    · have h' : (128 : Int) ≤ (n : Int) := by omega
      have hb := vint_big h
      have hI := ih (n / 128) (by omega)
      have hdiv : (n : Int) / 128 = ((n / 128 : Nat) : Int) := by omega
      have Hdiv := Lib.hid hdiv
      have hlen : (vint (n / 128)).length ≤ 10 := vint_len (by omega) (Nat.lt_of_le_of_lt (by omega : n / 128 ≤ 18446744073709551616) (by decide))
      obtain ⟨m, hm⟩ : ∃ m, vint (n / 128) = m := ⟨_, rfl⟩
      rw [hm] at hI hb hlen
      obtain ⟨r, hr⟩ : ∃ r, vint n = r := ⟨_, rfl⟩
      rw [hr] at hb ⊢
      have HI := Lib.hid (fun w' => hI w' (by omega))
      have hrr : [UInt8.ofNat (128 + n % 128)] ++ m = r := by rw [hb]; rfl
      have Hr := Lib.hid hrr
      have hrow := row_one w (UInt8.ofNat (128 + n % 128)) (128 + n % 128) (by simp; omega)
      have Hrow := Lib.hid hrow
      clear hI hm hr hb ih hrow hrr hdiv
      go_enter Tryz.func84, Tryz.ntmps84
      go_wp2_with first
        | (go_at_call 84; (try rw [Hdiv.out]); refine (HI.out _).mono ?_; rintro e w1 ⟨a1, c1, rfl, hR1, hB1⟩; have HR1 := Lib.hid hR1; clear hR1)
        | (at_builtin; refine append_u8 rfl (.tmp 12) (.tmp 15) rfl (.slice (some ⟨w.heap.size, 0, none⟩) 1 1) (.slice a1 m.length c1) [UInt8.ofNat (128 + n % 128)] m r Hr.out rfl (ownsRow_base0 ((Upd.ofBelow (fp := noFp) hB1).row Hrow.out (fun _ _ h => h))) rfl (Rd.ofOwns HR1.out) (by simp; omega) ?_; intro v2 w2 g1 g2 g3 _; obtain ⟨a2, c2, rfl, _, _, _⟩ := row_slice g1; have HG2 := Lib.hid (Grew.own ((Below.refl _ _).alloc (Nat.le_refl _) _ |>.trans (hB1.mono (by simp))) ((Upd.ofBelow (fp := noFp) hB1).row Hrow.out (fun _ _ h => h)) (grew_of g1 g2 g3)); clear g1 g2 g3)
      go_ret
      exact ⟨a2, c2, rfl, HG2.out.1, HG2.out.2⟩
set_option maxRecDepth 100000 in
set_option maxHeartbeats 4000000 in
theorem x1Uint_any (w : World) (v : Value) (l : List UInt8) (n : Nat) (hv : Rd w v (bcells l)) (hl : l.length ≤ 1099511627776) (hn : n < 18446744073709551616) :
    Calls Tryz.prog 66 #[v, .int .u64 n] w fun e w' => ∃ a c, e = .returned (.slice a (l ++ vint n).length c) ∧ w'.ownsRow w.heap.size 5 1 (.slice a (l ++ vint n).length c) (l ++ vint n).length (bcells (l ++ vint n)) ∧ Below w.heap.size w w' := by
  obtain ⟨a, c, rfl⟩ := hv.shape
  rw [bcells_length] at hv ⊢
  have hI := x1Varint_any n w hn
  have hlen : (vint n).length ≤ 10 := vint_len (by omega) (Nat.lt_trans hn (by decide))
  obtain ⟨m, hm⟩ : ∃ m, vint n = m := ⟨_, rfl⟩
  rw [hm] at hI hlen ⊢
  obtain ⟨r, hr⟩ : ∃ r, l ++ m = r := ⟨_, rfl⟩
  rw [hr]
  have HI := Lib.hid hI
  have Hr := Lib.hid hr
  have Hv := Lib.hid hv
  clear hI hm hr hv
  go_enter Tryz.func66, Tryz.ntmps66
  go_wp2_with first
    | (go_at_call 84; refine HI.out.mono ?_; rintro e w1 ⟨a1, c1, rfl, hR1, hB1⟩; have HR1 := Lib.hid hR1; clear hR1)
    | (go_at_call 83; refine (x1behind_any _ (.slice a l.length c) (.slice a1 m.length c1) l m (Hv.out.below hB1) (Rd.ofOwns HR1.out) hl (by omega)).mono ?_; rw [Hr.out]; rintro e w2 ⟨a2, c2, rfl, hR2, hB2⟩; have HR2 := Lib.hid hR2; clear hR2)
  go_ret
  exact ⟨a2, c2, rfl, ownsRow_from HR2.out (fun g hg => Nat.le_trans hB1.size (row_from HR2.out hg)), hB1.trans (hB2.mono hB1.size)⟩
set_option maxRecDepth 100000 in
set_option maxHeartbeats 4000000 in
theorem x1Blob_any (w : World) (v vb : Value) (l b : List UInt8) (hv : Rd w v (bcells l)) (hvb : Rd w vb (bcells b)) (hl : l.length ≤ 1000000000) (hb : b.length ≤ 1000000000) :
    Calls Tryz.prog 68 #[v, vb] w fun e w' => ∃ a c, e = .returned (.slice a (l ++ (vint b.length ++ b)).length c) ∧ w'.ownsRow w.heap.size 5 1 (.slice a (l ++ (vint b.length ++ b)).length c) (l ++ (vint b.length ++ b)).length (bcells (l ++ (vint b.length ++ b))) ∧ Below w.heap.size w w' := by
  obtain ⟨a, c, rfl⟩ := hv.shape
  obtain ⟨ab, cb, rfl⟩ := hvb.shape
  rw [bcells_length] at hv hvb ⊢
  rw [bcells_length]
  have hI := x1Uint_any w (.slice a l.length c) l b.length hv (by omega) (by omega)
  have hlen : (vint b.length).length ≤ 10 := vint_len (by omega) (Nat.lt_of_le_of_lt hb (by decide))
  obtain ⟨r, hr⟩ : ∃ r, l ++ (vint b.length ++ b) = r := ⟨_, rfl⟩
  rw [hr]
  obtain ⟨m, hm⟩ : ∃ m, l ++ vint b.length = m := ⟨_, rfl⟩
  have hmr : m ++ b = r := by rw [← hm, ← hr, List.append_assoc]
  have hml : m.length ≤ 1000000010 := by rw [← hm, List.length_append]; omega
  rw [hm] at hI
  have HI := Lib.hid hI
  have Hmr := Lib.hid hmr
  have Hvb := Lib.hid hvb
  clear hI hm hr hv hvb hmr hlen
  go_enter Tryz.func68, Tryz.ntmps68
  go_wp2_with first
    | (go_at_call 66; refine HI.out.mono ?_; rintro e w1 ⟨a1, c1, rfl, hR1, hB1⟩; have HR1 := Lib.hid hR1; clear hR1)
    | (go_at_call 83; refine (x1behind_any _ (.slice a1 m.length c1) (.slice ab b.length cb) m b (Rd.ofOwns HR1.out) (Hvb.out.below hB1) (by omega) (by omega)).mono ?_; rw [Hmr.out]; rintro e w2 ⟨a2, c2, rfl, hR2, hB2⟩; have HR2 := Lib.hid hR2; clear hR2)
  go_ret
  exact ⟨a2, c2, rfl, ownsRow_from HR2.out (fun g hg => Nat.le_trans hB1.size (row_from HR2.out hg)), hB1.trans (hB2.mono hB1.size)⟩
set_option maxRecDepth 100000 in
set_option maxHeartbeats 4000000 in
theorem x1equal_any (w : World) (va vb : Value) (a b : List UInt8) (ha : Rd w va (bcells a)) (hb : Rd w vb (bcells b)) :
    Calls Tryz.prog 100 #[va, vb] w fun e w' => e = .returned (.bool (decide (a = b))) ∧ w = w' := by
  obtain ⟨pa, ca, rfl⟩ := ha.shape
  obtain ⟨pb, cb, rfl⟩ := hb.shape
  rw [bcells_length] at ha hb
  rw [bcells_length, bcells_length]
  have h1 := run_bytes_str (P := Tryz.prog) ha Tryz.underlying33 Tryz.underlying5 Tryz.underlying9
  have h2 := run_bytes_str (P := Tryz.prog) hb Tryz.underlying33 Tryz.underlying5 Tryz.underlying9
  have hd : (a == b) = decide (a = b) := by rw [Bool.eq_iff_iff]; simp
  clear ha hb
  go_enter Tryz.func100, Tryz.ntmps100
  go_wp2
  go_ret
  exact ⟨by rw [← hd]; rfl, rfl⟩
end Go.Proofs.YtkacgmbinkoojaaGreatDoor

/-
  The document's reading of a number is the same. No program here.
-/
namespace Go.Proofs.YtkacgmbinkoojaaGreatDoor

theorem hi_none {l : List UInt8} {k : Nat} (hk : ∀ x ∈ l.take k, 128 ≤ x.toNat) (h : l.take 10 = l.take k) : (l.take 10).findIdx? (fun x => decide (x.toNat < 128)) = none := by
  rw [List.findIdx?_eq_none_iff, h]
  intro x hx
  have := hk x hx
  simp; omega
theorem gu_ten {l : List UInt8} (hk : ∀ x ∈ l.take 10, 128 ≤ x.toNat) (h : 10 ≤ l.length) : gU l = (10, 0, 0) := by
  rw [gu_none (hi_none hk rfl), if_neg (by omega)]
theorem gu_short {l : List UInt8} (hk : ∀ x ∈ l.take l.length, 128 ≤ x.toNat) (h : l.length < 10) : gU l = (11, 0, 0) := by
  rw [gu_none (hi_none hk (by rw [List.take_of_length_le (by omega), List.take_of_length_le (Nat.le_refl _)])), if_pos h]
theorem gu_some {l : List UInt8} {k : Nat} {y : UInt8} (hk : ∀ x ∈ l.take k, 128 ≤ x.toNat) (h10 : k < 10) (hl : k < l.length) (hy : l[k] = y) (hlo : y.toNat < 128) :
    gU l = if vint (vVal (l.take (k + 1)) % 18446744073709551616) = l.take (k + 1) then (0, vVal (l.take (k + 1)) % 18446744073709551616, k + 1) else (10, 0, 0) := by
  have ht : l.take (k + 1) = l.take k ++ [y] := by rw [List.take_succ_eq_append_getElem hl, hy]
  have hyl : (l.take k).length = k := by rw [List.length_take]; omega
  have hs : l = l.take k ++ y :: l.drop (k + 1) := by
    have h2 := List.take_append_drop (k + 1) l
    rw [ht] at h2
    simpa using h2.symm
  have hf : (l.take 10).findIdx? (fun x => decide (x.toNat < 128)) = some k := by
    have h10' : l.take 10 = l.take k ++ y :: (l.drop (k + 1)).take (10 - (k + 1)) := by
      conv => lhs; rw [hs]
      rw [List.take_append, hyl, List.take_of_length_le (by omega), show 10 - k = (10 - (k + 1)) + 1 by omega, List.take_succ_cons]
    rw [h10']
    have := findIdx_app (p := fun x : UInt8 => decide (x.toNat < 128)) (l.take k) y ((l.drop (k + 1)).take (10 - (k + 1))) (fun x hx => by have := hk x hx; simp; omega) (by simpa using hlo)
    rw [this, hyl]
  have hg : l.getD k 0 = y := by rw [List.getD_eq_getElem?_getD, List.getElem?_eq_getElem hl, hy]; rfl
  have h63 : (128 : Nat) ^ 9 = 9223372036854775808 := by decide
  generalize hys : l.take k = ys at hk ht hyl hs
  by_cases hb : (0 < k ∧ (l.getD k 0).toNat = 0) ∨ (k = 9 ∧ 1 < (l.getD k 0).toNat)
  · rw [gu_bad hf hb, if_neg]
    rw [hg] at hb
    rw [ht]
    intro he
    rcases hb with ⟨h0, hz⟩ | ⟨h9, h1⟩
    · obtain ⟨zs, z, e1, _, _, e4⟩ := vint_last (vVal (ys ++ [y]) % 18446744073709551616)
      rw [e1] at he
      obtain ⟨rfl, e2⟩ := List.append_inj' he rfl
      cases e2
      exact e4 (fun e => by rw [e] at hyl; simp at hyl; omega) hz
    · have hv := vint_val (vVal (ys ++ [y]) % 18446744073709551616)
      rw [he, vVal_app, hyl, h9, h63] at hv
      simp only [vVal] at hv
      have : (vVal ys + 9223372036854775808 * (y.toNat % 128 + 128 * 0)) % 18446744073709551616 < 18446744073709551616 := Nat.mod_lt _ (by decide)
      omega
  · rw [gu_good hf hb]
    rw [hg] at hb
    have hlt : vVal (ys ++ [y]) < 18446744073709551616 := by
      rw [vVal_app, hyl]
      simp only [vVal]
      have h1 := vVal_lt ys
      rw [hyl] at h1
      by_cases h9 : k = 9
      · subst h9
        rw [h63] at h1 ⊢
        omega
      · have h2 : (128 : Nat) ^ k ≤ 128 ^ 8 := Nat.pow_le_pow_right (by decide) (by omega)
        have h3 : (128 : Nat) ^ 8 = 72057594037927936 := by decide
        have h4 : 128 ^ k * (y.toNat % 128 + 128 * 0) ≤ 128 ^ 8 * 127 := Nat.mul_le_mul h2 (by omega)
        omega
    rw [ht, Nat.mod_eq_of_lt hlt, if_pos (vint_of hk hlo (fun hne => fun e => hb (Or.inl ⟨by rw [← hyl]; exact List.length_pos_iff.2 hne, e⟩)))]
end Go.Proofs.YtkacgmbinkoojaaGreatDoor

/-
  The document's bytes (homesteadref01): GetUint.
-/
namespace Go.Proofs.YtkacgmbinkoojaaGreatDoor
open Go.RowKit Go.Maps Go.MapKept

theorem cut_u8 (b o n c lo hi : Nat) (h : lo ≤ hi) (hc : hi ≤ c) (hne : ¬ c = lo) (w : World) :
    (Instr.slice 33 (.slice (some ⟨b, o, none⟩) n c) (some (.int .i64 lo)) (some (.int .i64 hi)) none).run Tryz.prog w = .ok (.slice (some ⟨b, o + lo, none⟩) (hi - lo) (c - lo)) w := by
  obtain ⟨i0, hi0, hz0, hz1, hz2⟩ := info_parts info_u8
  have he : Tryz.prog.elem 33 = 5 := by simp [Program.elem, Tryz.underlying33]
  rw [run_slice_lh (w := w) 33 (some ⟨b, o, none⟩) n c (by rw [he]; exact Tryz.underlying33) .i64 .i64 lo hi (by omega) (by omega) (by omega), he]
  simp [sizeOf, typeInfo, hi0, hz1, sliced, hne, Result.andThen, Addr.add_lit]
theorem gu_post {l : List UInt8} {at_ : Nat} {w w' : World} {er : Int} {n k : Nat} (h : gU l = (er, n, k)) (nx : Int) (hnx : nx = if er = 0 then (at_ : Int) + k else 0) (hB : Below w.heap.size w w') :
    GuPost l at_ w (.returned (.tuple #[.int .u64 n, .int .i64 nx, .int .i64 er])) w' := by
  refine ⟨?_, hB⟩
  unfold guVal guNext guErr
  rw [h, hnx]
set_option maxRecDepth 100000 in
set_option maxHeartbeats 8000000 in
theorem x1GetUint_any (w : World) (v : Value) (l : List UInt8) (at_ : Nat) (hv : Rd w v (bcells l)) (hcap : CapOk v) (hat : at_ ≤ l.length) (hl : l.length ≤ 1000000000000) :
    Calls Tryz.prog 93 #[v, .int .i64 at_] w (GuPost (l.drop at_) at_ w) := by
  obtain ⟨a, c, rfl⟩ := hv.shape
  obtain ⟨_, _, _, he, hnc, hcm⟩ := hcap
  cases he
  rw [bcells_length] at hv hnc ⊢
  obtain ⟨X, hX⟩ : ∃ X, l.drop at_ = X := ⟨_, rfl⟩
  have hXl : X.length = l.length - at_ := by rw [← hX, List.length_drop]
  have hXg : ∀ j, (h : at_ + j < l.length) → (h2 : j < X.length) → X[j] = l[at_ + j] := fun j h h2 => by subst hX; rw [List.getElem_drop]
  rw [hX]
  have Hv := Lib.hid hv
  have Hg := Lib.hid hXg
  have HX := Lib.hid hX
  clear hv hX hXg
  have h0 : ¬ (at_ : Int) < 0 := by omega
  have h1 : ¬ (l.length : Int) < (at_ : Int) := by omega
  go_enter Tryz.func93, Tryz.ntmps93
  go_wp2_with fail
  go_loop [7] (fun e => ∃ E k : Nat, E = at_ + k ∧ k ≤ 10 ∧ E ≤ l.length ∧ e = .int .i64 E ∧ ∀ x ∈ X.take k, 128 ≤ x.toNat) (fun e => l.length - (intOf e).toNat)
  case atStart => exact ⟨at_, 0, rfl, by omega, hat, rfl, by simp⟩
  case round =>
    obtain ⟨E, k, hE, hk, hEl, rfl, hhi⟩ := hrel
    have Hhi := Lib.hid hhi
    have HE := Lib.hid hE
    clear hhi
    by_cases hlt : E < l.length
    · have hlt' : (E : Int) < (l.length : Int) := by omega
      obtain ⟨b, o, rfl, hc⟩ : ∃ b o, a = some ⟨b, o, none⟩ ∧ w.cell? ⟨b, o + E, none⟩ = some (.int .u8 (l[E].toNat : Int)) := by
        rcases Hv.out with ⟨_, hz⟩ | ⟨b, o, n', cc, he, _, hc⟩
        · simp [bcells] at hz; subst hz; simp at hlt
        · cases he
          exact ⟨b, o, rfl, hc E _ (bcells_at hlt)⟩
      obtain ⟨x, hx⟩ : ∃ x, l[E] = x := ⟨_, rfl⟩
      have hXk : ∀ h2 : k < X.length, X[k] = x := fun h2 => by
        have hq := Hg.out k (by omega) h2
        rw [hq, ← hx]; congr 1; omega
      have HXk := Lib.hid hXk
      rw [hx] at hc
      have Hx := Lib.hid hx
      clear hx hXk
      have hxl := x.toNat_lt
      obtain ⟨xn, hxn⟩ : ∃ xn, x.toNat = xn := ⟨_, rfl⟩
      rw [hxn] at hc hxl
      have Hxn := Lib.hid hxn
      clear hxn
      by_cases h128 : 128 ≤ xn
      · have h128' : (128 : Int) ≤ (xn : Int) := by omega
        by_cases hk10 : k < 10
        · have hk10' : (E : Int) < (at_ : Int) + 10 := by omega
          clear hE
          go_wp2_with fail
          go_round
          case rel =>
            have hE := HE.out
            refine ⟨E + 1, k + 1, by omega, by omega, by omega, by go_num, fun y hy => ?_⟩
            rw [List.take_succ_eq_append_getElem (by omega : k < X.length), HXk.out] at hy
            rcases List.mem_append.1 hy with hy | hy
            · exact Hhi.out y hy
            · simp at hy; subst hy; rw [Hxn.out]; exact h128
          case measure => simp [intOf]; omega
        · obtain rfl : k = 10 := by omega
          have hk10' : ¬ (E : Int) < (at_ : Int) + 10 := by omega
          have hk11 : ((E : Int) == (at_ : Int) + 10) = true := by simp; omega
          have hgu := gu_ten Hhi.out (by omega)
          clear hE
          go_wp2_with fail
          go_ret3
          exact gu_post hgu 0 (by rw [if_neg (by decide)]) (Below.refl _ _)
      · have h128' : ¬ (128 : Int) ≤ (xn : Int) := by omega
        by_cases hk10 : k < 10
        · have hk11 : ((E : Int) == (at_ : Int) + 10) = false := by simp; omega
          have hk12 : ((E : Int) == (l.length : Int)) = false := by simp; omega
          have hkX : k < X.length := by omega
          have hgu := gu_some Hhi.out hk10 hkX (HXk.out hkX) (by rw [Hxn.out]; omega)
          obtain ⟨Y, hY⟩ : ∃ Y, X.take (k + 1) = Y := ⟨_, rfl⟩
          have hYl : Y.length = k + 1 := by rw [← hY, List.length_take]; omega
          have hYg : ∀ j (h : j < Y.length) (h2 : at_ + j < l.length), Y[j] = l[at_ + j] := fun j h h2 => by
            subst hY
            rw [List.getElem_take]
            exact Hg.out j h2 (by rw [List.length_take] at h; omega)
          rw [hY] at hgu
          obtain ⟨N, hN⟩ : ∃ N, vVal Y % 18446744073709551616 = N := ⟨_, rfl⟩
          have hNl : N < 18446744073709551616 := by rw [← hN]; exact Nat.mod_lt _ (by decide)
          rw [hN] at hgu
          have Hgu := Lib.hid hgu
          have HY := Lib.hid hY
          have HYl := Lib.hid hYl
          have HYg := Lib.hid hYg
          have HN := Lib.hid hN
          clear hE hgu hY hYl hYg hN
          go_wp2_with fail
          go_loop [8, 9] (fun n i => ∃ (j M : Nat) (ii : Int), j ≤ k + 1 ∧ ii = (at_ : Int) + j - 1 ∧ i = .int .i64 ii ∧ M = vVal (Y.drop j) % 18446744073709551616 ∧ n = .int .u64 M) (fun _ i => (intOf i + 1 - at_).toNat)
          case atStart => exact ⟨k + 1, 0, E, by omega, by have := HE.out; omega, rfl, by rw [List.drop_of_length_le (by rw [HYl.out]; omega)]; rfl, rfl⟩
          case round =>
            obtain ⟨j, M, ii, hj, hii, rfl, hM, rfl⟩ := hrel
            have HM := Lib.hid hM
            have hMl : M < 18446744073709551616 := by rw [hM]; exact Nat.mod_lt _ (by decide)
            clear hM
            by_cases hj0 : 0 < j
            · obtain ⟨i, hi⟩ : ∃ i, j = i + 1 := ⟨j - 1, by omega⟩
              obtain ⟨I, hI⟩ : ∃ I : Nat, I = at_ + i := ⟨_, rfl⟩
              have hIl : I < l.length := by have := HE.out; omega
              obtain rfl : ii = (I : Int) := by omega
              have hge : (at_ : Int) ≤ (I : Int) := by omega
              have hc2 : w.cell? ⟨b, o + I, none⟩ = some (.int .u8 (l[I].toNat : Int)) := by
                rcases Hv.out with ⟨_, hz⟩ | ⟨b', o', n', cc, he, _, hc⟩
                · simp [bcells] at hz; subst hz; simp at hlt
                · cases he
                  exact hc I _ (bcells_at hIl)
              obtain ⟨y, hy⟩ : ∃ y, l[I] = y := ⟨_, rfl⟩
              have hyY : Y[i]'(by rw [HYl.out]; omega) = y := by
                have hq := HYg.out i (by rw [HYl.out]; omega) (by omega)
                rw [hq, ← hy]; congr 1; omega
              have hdr : vVal (Y.drop i) = y.toNat % 128 + 128 * vVal (Y.drop (i + 1)) := by
                rw [List.drop_eq_getElem_cons (by rw [HYl.out]; omega), hyY]; rfl
              have hM2 : M = vVal (Y.drop (i + 1)) % 18446744073709551616 := by rw [← hi]; exact HM.out
              rw [hy] at hc2
              have hyl := y.toNat_lt
              generalize vVal (Y.drop (i + 1)) = V at hdr hM2
              have Hdr := Lib.hid hdr
              have HM2 := Lib.hid hM2
              have Hii := Lib.hid hii
              have HI := Lib.hid hI
              have Hi := Lib.hid hi
              clear hy hyY hdr hM2 hii hI hi
              go_wp2_with fail
              go_round
              case rel =>
                refine ⟨i, (M * 128 % 18446744073709551616 + y.toNat % 128) % 18446744073709551616, (I : Int) - 1, by have := Hi.out; omega, by have := HI.out; omega, by go_num, ?_, by go_num⟩
                rw [Hdr.out, HM2.out]; omega
              case measure => simp [intOf]; have := HI.out; omega
            · obtain rfl : j = 0 := by omega
              have hMN : M = N := by rw [HM.out, List.drop_zero, HN.out]
              subst hMN
              have hii2 : ii = (at_ : Int) - 1 := by omega
              have hlt3 : ¬ (at_ : Int) ≤ ii := by omega
              have hEk : E + 1 - at_ = k + 1 := by have := HE.out; omega
              have hEa : at_ ≤ E := by have := HE.out; omega
              have hca : ¬ c = at_ := by omega
              have hI1 : (at_ : Int) ≤ (E : Int) + 1 := by omega
              have hI2 : (E : Int) + 1 ≤ (c : Int) := by omega
              have hI3 : at_ ≤ E + 1 := by omega
              have hI4 : E + 1 ≤ c := by omega
              have hrun := fun w' => cut_u8 b o l.length c at_ (E + 1) hI3 hI4 hca w'
              rw [hEk, show (((E + 1 : Nat) : Nat) : Int) = (E : Int) + 1 from rfl] at hrun
              have hw5 : IntKind.i64.wrap ((E : Int) + 1) = (E : Int) + 1 := IntWalk.i64_in _ (by omega)
              have HM2 := Lib.hid HM
              clear hii2 hii HM
              have hsl : Rd w (.slice (some ⟨b, o + at_, none⟩) (k + 1) (c - at_)) (bcells Y) := by
                have h3 := rd_sub Hv.out at_ (k + 1) (by have := HE.out; omega) hca
                rw [← HY.out, ← HX.out, bcells_take, show bcells (l.drop at_) = (bcells l).drop at_ by simp [bcells]]
                simpa [Addr.add_lit] using h3
              obtain ⟨m, hm⟩ : ∃ m, vint M = m := ⟨_, rfl⟩
              have hV := x1Varint_any M
              rw [hm] at hV
              have hgu := Hgu.out
              rw [hm] at hgu
              have HV := Lib.hid hV
              have Hsl := Lib.hid hsl
              clear hm hV hsl
              by_cases hd : m = Y
              · rw [if_pos hd] at hgu
                have hdd : decide (m = Y) = true := by simpa using hd
                have HD := Lib.hid hdd
                have Hgu2 := Lib.hid hgu
                clear hd hdd hgu
                go_wp2_with fail
                go_region_held3 (fun w' => Below w.heap.size w w') (first | exact Below.refl _ _ | exact (Below.refl _ _).drew | exact S2 | exact S2.drew | go_keep)
                  (first
                  | (go_at_call 84; refine (HV.out _ hMl).mono ?_; rintro e w2 ⟨a2, c2, rfl, hR2, hB2⟩; have S2 : Below w.heap.size w w2 := ((Below.refl w.heap.size w).drew).trans hB2)
                  | (go_at_call 100; refine (x1equal_any _ _ _ m Y (Rd.ofOwns hR2) (Hsl.out.below S2)).mono ?_; rw [HD.out]; rintro e w3 ⟨rfl, rfl⟩))
                all_goals go_wp2
                go_ret3
                exact gu_post Hgu2.out _ (by rw [if_pos rfl]; have := HE.out; omega) S2
              · rw [if_neg hd] at hgu
                have hdd : decide (m = Y) = false := by simpa using hd
                have HD := Lib.hid hdd
                have Hgu2 := Lib.hid hgu
                clear hd hdd hgu
                go_wp2_with fail
                go_region_held3 (fun w' => Below w.heap.size w w') (first | exact Below.refl _ _ | exact (Below.refl _ _).drew | exact S2 | exact S2.drew | go_keep)
                  (first
                  | (go_at_call 84; refine (HV.out _ hMl).mono ?_; rintro e w2 ⟨a2, c2, rfl, hR2, hB2⟩; have S2 : Below w.heap.size w w2 := ((Below.refl w.heap.size w).drew).trans hB2)
                  | (go_at_call 100; refine (x1equal_any _ _ _ m Y (Rd.ofOwns hR2) (Hsl.out.below S2)).mono ?_; rw [HD.out]; rintro e w3 ⟨rfl, rfl⟩))
                all_goals go_wp2
                go_ret3
                exact gu_post Hgu2.out _ (by rw [if_neg (by decide)]) S2
        · obtain rfl : k = 10 := by omega
          have hk11 : ((E : Int) == (at_ : Int) + 10) = true := by simp; omega
          have hgu := gu_ten Hhi.out (by omega)
          clear hE
          go_wp2_with fail
          go_ret3
          exact gu_post hgu 0 (by rw [if_neg (by decide)]) (Below.refl _ _)
    · obtain rfl : E = l.length := by omega
      by_cases hk10 : k < 10
      · have hk11 : ((l.length : Int) == (at_ : Int) + 10) = false := by simp; omega
        have hXk : X.length = k := by omega
        have hgu := gu_short (l := X) (by rw [hXk]; exact Hhi.out) (by omega)
        clear hE
        go_wp2_with fail
        go_ret3
        exact gu_post hgu 0 (by rw [if_neg (by decide)]) (Below.refl _ _)
      · obtain rfl : k = 10 := by omega
        have hk11 : ((l.length : Int) == (at_ : Int) + 10) = true := by simp; omega
        have hgu := gu_ten Hhi.out (by omega)
        clear hE
        go_wp2_with fail
        go_ret3
        exact gu_post hgu 0 (by rw [if_neg (by decide)]) (Below.refl _ _)
end Go.Proofs.YtkacgmbinkoojaaGreatDoor

/-
  The document's bytes (homesteadref01): GetBlob, Unseal.
-/
namespace Go.Proofs.YtkacgmbinkoojaaGreatDoor
open Go.RowKit Go.Maps Go.MapKept

theorem behind_nil (w : World) (v : Value) (b : List UInt8) (hv : Rd w v (bcells b)) (hl : b.length ≤ 1099511627776) :
    Calls Tryz.prog 83 #[.slice none 0 0, v] w fun e w' => ∃ a c, e = .returned (.slice a b.length c) ∧ w'.ownsRow w.heap.size 5 1 (.slice a b.length c) b.length (bcells b) ∧ Below w.heap.size w w' :=
  x1behind_any w (.slice none 0 0) v [] b (rd_none _ _) hv (by simp) (by omega)
set_option maxRecDepth 100000 in
set_option maxHeartbeats 8000000 in
theorem x1GetBlob_any (w : World) (v : Value) (l : List UInt8) (at_ most : Nat) (hv : Rd w v (bcells l)) (hcap : CapOk v) (hat : at_ ≤ l.length) (hl : l.length ≤ 1000000000000) (hmo : most ≤ 9223372036854775807) :
    Calls Tryz.prog 94 #[v, .int .i64 at_, .int .i64 most] w (GbPost (l.drop at_) at_ most w) := by
  have hG := x1GetUint_any w v l at_ hv hcap hat hl
  obtain ⟨a, c, rfl⟩ := hv.shape
  obtain ⟨_, _, _, he, hnc, hcm⟩ := hcap
  cases he
  rw [bcells_length] at hv hnc hG ⊢
  simp only [maxLen] at hcm
  obtain ⟨er, n, k, hgu⟩ : ∃ er n k, gU (l.drop at_) = (er, n, k) := ⟨_, _, _, rfl⟩
  unfold GuPost guVal guNext guErr at hG
  rw [hgu] at hG
  simp only at hG
  have hm0 : ¬ (most : Int) < 0 := by omega
  have hmc : (most : Int) ≤ 9223372036854775807 := by omega
  by_cases h0 : er = 0
  · subst h0
    simp only [if_true] at hG
    obtain ⟨x1, x2, hk1, hk2, hn64⟩ := gU_ok hgu
    clear x1 x2
    rw [List.length_drop] at hk1
    have hgb : gB (l.drop at_) most = if most < n then (3, [], 0) else if (l.drop at_).length - k < n then (11, [], 0) else (0, ((l.drop at_).drop k).take n, k + n) := by
      unfold gB; rw [hgu]; simp only
    by_cases h1 : most < n
    · rw [if_pos h1] at hgb
      have hlt : (most : Int) < (n : Int) := by omega
      have Hgb := Lib.hid hgb
      have HG := Lib.hid hG
      clear hgb hgu hG hv
      go_enter Tryz.func94, Tryz.ntmps94
      go_wp2_with (go_at_call 93; refine HG.out.mono ?_; rintro e w1 ⟨rfl, hB⟩)
      go_ret3
      exact GbPost.bad Hgb.out (by decide) hB
    · rw [if_neg h1] at hgb
      have hnm : ¬ (most : Int) < (n : Int) := by omega
      obtain ⟨D, hD⟩ : ∃ D : Nat, (l.length : Int) - ((at_ : Int) + k) = D := ⟨l.length - (at_ + k), by omega⟩
      have hD2 : (l.drop at_).length - k = D := by rw [List.length_drop]; omega
      rw [hD2] at hgb
      by_cases h2 : D < n
      · rw [if_pos h2] at hgb
        have h2' : (D : Int) < (n : Int) := by omega
        have Hgb := Lib.hid hgb
        have HG := Lib.hid hG
        clear hgb hgu hG hv hD2
        go_enter Tryz.func94, Tryz.ntmps94
        go_wp2_with (go_at_call 93; refine HG.out.mono ?_; rintro e w1 ⟨rfl, hB⟩)
        all_goals
          go_ret3
          exact GbPost.bad Hgb.out (by decide) hB
      · rw [if_neg h2] at hgb
        have h2' : ¬ (D : Int) < (n : Int) := by omega
        obtain ⟨b, hb⟩ : ∃ b, ((l.drop at_).drop k).take n = b := ⟨_, rfl⟩
        rw [hb] at hgb
        have hbl : b.length = n := by rw [← hb]; simp; omega
        have hfit : at_ + k + n ≤ l.length := by omega
        have hbc : ((bcells l).drop (at_ + k)).take n = bcells b := by rw [← hb, List.drop_drop]; simp [bcells, List.map_drop, List.map_take]
        have Hgb := Lib.hid hgb
        have HG := Lib.hid hG
        have Hbl := Lib.hid hbl
        by_cases hca : c = at_ + k
        · obtain rfl : n = 0 := by omega
          subst hca
          have hb0 : b = [] := List.eq_nil_of_length_eq_zero hbl
          have hsub : ∀ w, Rd w (.slice a 0 0) (bcells b) := fun w => by rw [hb0]; exact rd_none w a
          have Hsub := Lib.hid hsub
          clear hgb hgu hG hv hD2 hb hbl hbc hb0 hsub
          go_enter Tryz.func94, Tryz.ntmps94
          go_wp2_with first
            | (go_at_call 93; refine HG.out.mono ?_; rintro e w1 ⟨rfl, hB⟩)
            | (go_at_call 83; refine (behind_nil _ _ b (Hsub.out _) (by rw [Hbl.out]; omega)).mono ?_; rw [Hbl.out]; rintro e w2 ⟨a2, c2, rfl, hrow, hB2⟩; have Hrow := Lib.hid hrow; clear hrow)
          go_ret3
          exact ⟨a2, c2, by rw [Hgb.out]; (simp [Hbl.out] <;> omega), by rw [Hgb.out]; simp only; rw [Hbl.out]; exact ownsRow_from Hrow.out (fun g hg => Nat.le_trans hB.size (row_from Hrow.out hg)), hB.trans (hB2.mono hB.size)⟩
        · have hsub := rd_sub hv (at_ + k) n hfit hca
          rw [hbc] at hsub
          have Hsub := Lib.hid hsub
          clear hgb hgu hG hv hD2 hb hbl hbc hsub
          go_enter Tryz.func94, Tryz.ntmps94
          go_wp2_with first
            | (go_at_call 93; refine HG.out.mono ?_; rintro e w1 ⟨rfl, hB⟩)
            | (go_at_call 83; refine (behind_nil _ _ b (Hsub.out.below hB) (by rw [Hbl.out]; omega)).mono ?_; rw [Hbl.out]; rintro e w2 ⟨a2, c2, rfl, hrow, hB2⟩; have Hrow := Lib.hid hrow; clear hrow)
          go_ret3
          exact ⟨a2, c2, by rw [Hgb.out]; (simp [Hbl.out] <;> omega), by rw [Hgb.out]; simp only; rw [Hbl.out]; exact ownsRow_from Hrow.out (fun g hg => Nat.le_trans hB.size (row_from Hrow.out hg)), hB.trans (hB2.mono hB.size)⟩
  · have hgb : gB (l.drop at_) most = (er, [], 0) := by
      unfold gB
      rw [hgu]
      split
      · rename_i heq; simp only [Prod.mk.injEq] at heq; exact absurd heq.1 h0
      · rename_i heq; simp only [Prod.mk.injEq] at heq; rw [heq.1]
    rw [if_neg h0] at hG
    have h0b : (er != 0) = true := by simpa using h0
    have Hgb := Lib.hid hgb
    have HG := Lib.hid hG
    have H0 := Lib.hid h0
    clear hgb hgu hG hv h0
    go_enter Tryz.func94, Tryz.ntmps94
    go_wp2_with (go_at_call 93; refine HG.out.mono ?_; rintro e w1 ⟨rfl, hB⟩)
    go_ret3
    exact GbPost.bad Hgb.out H0.out hB
end Go.Proofs.YtkacgmbinkoojaaGreatDoor

/-
  The document's bytes (homesteadref01): Unseal.
-/
namespace Go.Proofs.YtkacgmbinkoojaaGreatDoor
open Go.RowKit Go.Maps Go.MapKept

set_option maxRecDepth 100000 in
set_option maxHeartbeats 4000000 in
theorem x1Unseal_any (w : World) (v : Value) (l : List UInt8) (hv : Rd w v (bcells l)) (hcap : CapOk v) (hl : l.length ≤ 1099511627776) :
    Calls Tryz.prog 92 #[v] w (UnPost l w) := by
  obtain ⟨a, c, rfl⟩ := hv.shape
  obtain ⟨_, _, _, he, hnc, hcm⟩ := hcap
  cases he
  rw [bcells_length] at hv hnc ⊢
  simp only [maxLen] at hcm
  by_cases h4 : l.length < 4
  · have hun : unsealL sumL l = (11, []) := by unfold unsealL; rw [if_pos h4]
    have h4' : (l.length : Int) - 4 < 0 := by omega
    have Hun := Lib.hid hun
    clear hun hv
    go_enter Tryz.func92, Tryz.ntmps92
    go_wp2
    go_ret2
    exact UnPost.bad Hun.out (Below.refl _ _)
  · obtain ⟨k, hk⟩ : ∃ k : Nat, (l.length : Int) - 4 = k := ⟨l.length - 4, by omega⟩
    have hkl : l.length - 4 = k := by omega
    obtain ⟨b, hb⟩ : ∃ b, l.take k = b := ⟨_, rfl⟩
    have hbl : b.length = k := by rw [← hb]; simp; omega
    have hsub := rd_prefix hv k (by omega)
    rw [← bcells_take, hb] at hsub
    have hun : unsealL sumL l = if b ++ sumL b = l then (0, b) else (12, []) := by
      unfold unsealL sealL; rw [if_neg h4, hkl, hb]
    have hkc : (k : Int) ≤ c := by omega
    have hb1 : b.length ≤ 1099511627776 := by omega
    obtain ⟨r, hr⟩ : ∃ r, sealL sumL b = r := ⟨_, rfl⟩
    have hun2 : unsealL sumL l = if r = l then (0, b) else (12, []) := by rw [hun, ← hr]; rfl
    have hS : ∀ w' u, Rd w' u (bcells b) → _ := fun w' u hu => x1Seal_any w' u b hu hb1
    rw [hr] at hS
    have HS := Lib.hid hS
    have Hv := Lib.hid hv
    have Hsub := Lib.hid hsub
    have Hbl := Lib.hid hbl
    clear hv hsub hkl hb hbl hr hS hun
    by_cases hs : r = l
    · have hd : decide (r = l) = true := by simpa using hs
      rw [if_pos hs] at hun2
      have Hun := Lib.hid hun2
      have Hd := Lib.hid hd
      clear hun2 hs hd
      go_enter Tryz.func92, Tryz.ntmps92
      go_wp2_with first
        | (go_at_call 83; refine (behind_nil _ _ b Hsub.out (by omega)).mono ?_; rw [Hbl.out]; rintro e w1 ⟨a1, c1, rfl, hR1, hB1⟩; have HR1 := Lib.hid hR1; clear hR1)
        | (go_at_call 67; refine (HS.out _ _ (Rd.ofOwns HR1.out)).mono ?_; rintro e w2 ⟨a2, c2, rfl, hR2, hB2⟩; have HR2 := Lib.hid hR2; clear hR2)
        | (go_at_call 100; refine (x1equal_any w2 _ _ r l (Rd.ofOwns HR2.out) ((Hv.out.below hB1).below hB2)).mono ?_; rw [Hd.out]; rintro e w3 ⟨rfl, rfl⟩)
      go_ret2
      exact ⟨a1, c1, by rw [Hun.out]; simp only [Hbl.out]; rfl, by rw [Hun.out]; simp only [Hbl.out]; exact (Upd.ofBelow (fp := noFp) hB2).row HR1.out (fun _ _ h => h), hB1.trans (hB2.mono hB1.size)⟩
    · have hd : decide (r = l) = false := by simpa using hs
      rw [if_neg hs] at hun2
      have Hun := Lib.hid hun2
      have Hd := Lib.hid hd
      clear hun2 hs hd
      go_enter Tryz.func92, Tryz.ntmps92
      go_wp2_with first
        | (go_at_call 83; refine (behind_nil _ _ b Hsub.out (by omega)).mono ?_; rw [Hbl.out]; rintro e w1 ⟨a1, c1, rfl, hR1, hB1⟩; have HR1 := Lib.hid hR1; clear hR1)
        | (go_at_call 67; refine (HS.out _ _ (Rd.ofOwns HR1.out)).mono ?_; rintro e w2 ⟨a2, c2, rfl, hR2, hB2⟩; have HR2 := Lib.hid hR2; clear hR2)
        | (go_at_call 100; refine (x1equal_any w2 _ _ r l (Rd.ofOwns HR2.out) ((Hv.out.below hB1).below hB2)).mono ?_; rw [Hd.out]; rintro e w3 ⟨rfl, rfl⟩)
      go_ret2
      exact UnPost.bad Hun.out (hB1.trans (hB2.mono hB1.size))
end Go.Proofs.YtkacgmbinkoojaaGreatDoor
