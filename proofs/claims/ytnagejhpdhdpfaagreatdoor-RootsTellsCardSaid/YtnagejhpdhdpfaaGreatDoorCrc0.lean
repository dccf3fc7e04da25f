/-
  The sum of bytes, as plain numbers. No program here.
-/
import Std.Tactic
namespace Go.Proofs.YtnagejhpdhdpfaaGreatDoor
def st1 (c : Nat) : Nat := c / 2 ^^^ 3988292384 * (c % 2)
def stepN : Nat → Nat → Nat
  | 0, c => c
  | m + 1, c => st1 (stepN m c)
def tabL : List Nat := (List.range 16).map (stepN 4)
def nib (c : Nat) : Nat := c / 16 ^^^ tabL.getD (c % 16) 0
def crc1 (c : Nat) (x : UInt8) : Nat := nib (nib (c ^^^ x.toNat))
def crcF (c : Nat) (l : List UInt8) : Nat := l.foldl crc1 c
def crcN (l : List UInt8) : Nat := 4294967295 - crcF 4294967295 l
def sumL (l : List UInt8) : List UInt8 := [UInt8.ofNat (crcN l / 16777216), UInt8.ofNat (crcN l / 65536), UInt8.ofNat (crcN l / 256), UInt8.ofNat (crcN l)]
theorem sumL_len (l : List UInt8) : (sumL l).length = 4 := rfl
theorem st1_lt {c : Nat} (h : c < 4294967296) : st1 c < 4294967296 := by
  have h1 : c / 2 < 2 ^ 32 := by omega
  have h2 : 3988292384 * (c % 2) < 2 ^ 32 := by omega
  exact Nat.xor_lt_two_pow h1 h2
theorem stepN_lt (m : Nat) {c : Nat} (h : c < 4294967296) : stepN m c < 4294967296 := by
  induction m with
  | zero => exact h
  | succ m ih => exact st1_lt ih
theorem tabL_len : tabL.length = 16 := rfl
theorem tabL_val : tabL = [0, 498536548, 997073096, 651767980, 1994146192, 1802195444, 1303535960, 1342533948, 3988292384, 4027552580, 3604390888, 3412177804, 2607071920, 2262029012, 2685067896, 3183342108] := by decide +kernel
theorem tabL_lt (k : Nat) : tabL.getD k 0 < 4294967296 := by
  rw [tabL_val]
  match k with
  | 0 | 1 | 2 | 3 | 4 | 5 | 6 | 7 | 8 | 9 | 10 | 11 | 12 | 13 | 14 | 15 => simp
  | k + 16 => simp
theorem nib_lt {c : Nat} (h : c < 4294967296) : nib c < 4294967296 := by
  have h1 : c / 16 < 2 ^ 32 := by omega
  have h2 : tabL.getD (c % 16) 0 < 2 ^ 32 := tabL_lt _
  exact Nat.xor_lt_two_pow h1 h2
theorem x8_lt {c : Nat} (x : UInt8) (h : c < 4294967296) : c ^^^ x.toNat < 4294967296 := by
  have h1 : c < 2 ^ 32 := h
  have h2 : x.toNat < 2 ^ 32 := by have := x.toNat_lt; omega
  exact Nat.xor_lt_two_pow h1 h2
theorem crc1_lt {c : Nat} (x : UInt8) (h : c < 4294967296) : crc1 c x < 4294967296 := nib_lt (nib_lt (x8_lt x h))
theorem crcF_lt (l : List UInt8) {c : Nat} (h : c < 4294967296) : crcF c l < 4294967296 := by
  induction l generalizing c with
  | nil => exact h
  | cons x l ih => exact ih (crc1_lt x h)
theorem crcF_snoc (c : Nat) (l : List UInt8) (x : UInt8) : crcF c (l ++ [x]) = crc1 (crcF c l) x := by simp [crcF]
end Go.Proofs.YtnagejhpdhdpfaaGreatDoor
