/-
  The document's bytes (homesteadref01): the sum.
-/
import Derived.Outline
import Derived.Laws.BitsAllLaws
import Derived.Test.YtnagejhpdhdpfaaGreatDoorCrc2
import Derived.Test.YtnagejhpdhdpfaaGreatDoorByt5
namespace Go.Proofs.YtnagejhpdhdpfaaGreatDoor
open Go.RowKit Go.Maps Go.MapKept

theorem refF_snoc (c : Nat) (l : List UInt8) (x : UInt8) : refF c (l ++ [x]) = refK (refF c l) x 8 := by simp [refF]
theorem bit_int (x : UInt8) (q : Nat) : (((x.toNat : Int) / 2 ^ q).tmod 2 == 1) = bitOf x q := by
  unfold bitOf
  have h1 : ((x.toNat : Int) / 2 ^ q) = ((x.toNat / 2 ^ q : Nat) : Int) := by simp
  rw [h1]
  generalize x.toNat / 2 ^ q = y at *
  rw [Int.tmod_eq_emod_of_nonneg (Int.natCast_nonneg y)]
  rcases Nat.mod_two_eq_zero_or_one y with h | h
  · rw [h, show (y : Int) % 2 = 0 by omega]; rfl
  · rw [h, show (y : Int) % 2 = 1 by omega]; rfl
set_option maxRecDepth 100000 in
set_option maxHeartbeats 4000000 in
theorem x1Crc_any (w : World) (v : Value) (l : List UInt8) (hv : Rd w v (bcells l)) (hl : l.length ≤ 140737488355328) :
    Calls Tryz.prog 35 #[v] w fun e w' => e = .returned (.int .u32 (crcN l)) ∧ w = w' := by
  obtain ⟨a, c, rfl⟩ := hv.shape
  rw [bcells_length] at hv ⊢
  have Hv := Lib.hid hv
  clear hv
  go_enter Tryz.func35, Tryz.ntmps35
  go_wp2_with fail
  go_loop [3, 4] (fun x i => ∃ k s : Nat, k ≤ l.length ∧ i = .int .i64 k ∧ x = .int .u32 s ∧ s < 4294967296 ∧ s = refF 4294967295 (l.take k)) (fun _ i => l.length - (intOf i).toNat)
  case atStart => exact ⟨0, 4294967295, by omega, rfl, rfl, by omega, rfl⟩
  case round =>
    obtain ⟨k, s, hk, rfl, rfl, hs, hse⟩ := hrel
    have Hse := Lib.hid hse
    clear hse
    by_cases hlt : k < l.length
    · obtain ⟨b, o, rfl, hc⟩ : ∃ b o, a = some ⟨b, o, none⟩ ∧ w.cell? ⟨b, o + k, none⟩ = some (.int .u8 (l[k].toNat : Int)) := by
        rcases Hv.out with ⟨_, h0⟩ | ⟨b, o, n', cc, he, _, hc⟩
        · simp [bcells] at h0; subst h0; simp at hlt
        · cases he
          exact ⟨b, o, rfl, hc k _ (bcells_at hlt)⟩
      obtain ⟨x, hx⟩ : ∃ x, l[k] = x := ⟨_, rfl⟩
      rw [hx] at hc
      have hnext : refF 4294967295 (l.take (k + 1)) = refK s x 8 := by
        rw [List.take_succ_eq_append_getElem hlt, refF_snoc, ← Hse.out, hx]
      have Hnext := Lib.hid hnext
      clear hx hnext
      have hxl := x.toNat_lt
      obtain ⟨xn, hxn⟩ : ∃ xn, x.toNat = xn := ⟨_, rfl⟩
      rw [hxn] at hc hxl
      have Hxn := Lib.hid hxn
      clear hxn
      go_wp2_with fail
      go_loop [3, 5] (fun y j => ∃ (q r : Nat), q ≤ 8 ∧ j = .int .u64 q ∧ y = .int .u32 r ∧ r < 4294967296 ∧ r = refK s x q) (fun _ j => 8 - (intOf j).toNat)
      case atStart => exact ⟨0, s, by omega, rfl, rfl, hs, rfl⟩
      case round =>
        obtain ⟨q, r, hq, rfl, rfl, hr, hre⟩ := hrel
        by_cases hq8 : q < 8
        · obtain ⟨t, ht⟩ : ∃ t, (decide (2147483648 ≤ r) != bitOf x q) = t := ⟨_, rfl⟩
          have hone : (!decide (2147483648 ≤ (r : Int)) == (((xn : Int) / 2 ^ q).tmod 2 == 1)) = t := by
            rw [← ht, ← bit_int x q, Hxn.out]
            have : decide (2147483648 ≤ (r : Int)) = decide (2147483648 ≤ r) := by
              by_cases h : 2147483648 ≤ r
              · rw [decide_eq_true h, decide_eq_true (by omega)]
              · rw [decide_eq_false h, decide_eq_false (by omega)]
            rw [this]
            cases (decide (2147483648 ≤ r)) <;> cases (((xn : Int) / 2 ^ q).tmod 2 == 1) <;> rfl
          have hstep : refK s x (q + 1) = (r * 2 % 4294967296) ^^^ (if t then 79764919 else 0) := by rw [refK, ← hre, refBit, ht]
          have hlt2 : r * 2 % 4294967296 < 4294967296 := Nat.mod_lt _ (by decide)
          have hx32 : bits .xor .u32 ((r : Int) * 2 % 4294967296) 79764919 = (((r * 2 % 4294967296) ^^^ 79764919 : Nat) : Int) := by
            rw [show ((r : Int) * 2 % 4294967296) = ((r * 2 % 4294967296 : Nat) : Int) by omega]
            exact u32_xor_nat _ _ hlt2 (by decide)
          have Hre := Lib.hid hre
          have Hstep := Lib.hid hstep
          have hl3 : (r * 2 % 4294967296) ^^^ 79764919 < 4294967296 := by
            have h1 : r * 2 % 4294967296 < 2 ^ 32 := hlt2
            exact Nat.xor_lt_two_pow h1 (by decide)
          have Hl3 := Lib.hid hl3
          have Hx32 := Lib.hid hx32
          clear hre hstep ht hl3 hx32
          cases t
          · go_wp2
            go_round
            case rel => exact ⟨q + 1, r * 2 % 4294967296, by omega, by go_num, by go_num, hlt2, by rw [Hstep.out]; simp⟩
            case measure => simp [intOf]; omega
          · go_wp2
            go_round
            case rel => exact ⟨q + 1, (r * 2 % 4294967296) ^^^ 79764919, by omega, by go_num, by rw [Hx32.out], Hl3.out, by rw [Hstep.out]; simp⟩
            case measure => simp [intOf]; omega
        · have hq' : q = 8 := by omega
          subst hq'
          have hfin : r = refF 4294967295 (l.take (k + 1)) := by rw [Hnext.out]; exact hre
          have Hfin := Lib.hid hfin
          clear hre hfin
          go_wp2
          go_round
          case rel => exact ⟨k + 1, r, by omega, by go_num, rfl, hr, Hfin.out⟩
          case measure => simp [intOf]; omega
    · have hall : refF 4294967295 (l.take k) = refF 4294967295 l := by rw [List.take_of_length_le (by omega)]
      obtain ⟨m, hm⟩ : ∃ m, 4294967295 - s = m := ⟨_, rfl⟩
      have hmi : (4294967295 : Int) - (s : Int) = (m : Int) := by omega
      have hml : m < 4294967296 := by omega
      have hfin : crcN l = rvS m 32 := by rw [← refCrc_eq, refCrc, ← hall, ← Hse.out, hm]
      have Hfin := Lib.hid hfin
      clear hall hfin hm Hse
      go_wp2_with fail
      go_loop [3, 7, 8] (fun x y j => ∃ (q r g : Nat), q ≤ 32 ∧ j = .int .i64 q ∧ x = .int .u32 r ∧ y = .int .u32 g ∧ r < 4294967296 ∧ r = m / 2 ^ q ∧ g = rvS m q) (fun _ _ j => 32 - (intOf j).toNat)
      case atStart => exact ⟨0, m, 0, by omega, rfl, by go_num, rfl, hml, by simp, rfl⟩
      case round =>
        obtain ⟨q, r, g, hq, rfl, rfl, rfl, hr, hre, hge⟩ := hrel
        by_cases hq8 : q < 32
        · have hgl : g < 2147483648 := by
            have := rvS_lt m q
            have h2 : 2 ^ q ≤ 2 ^ 31 := Nat.pow_le_pow_right (by decide) (by omega)
            omega
          have hstep : rvS m (q + 1) = g * 2 + r % 2 := by rw [rvS, ← hge, ← hre]
          have hdiv : m / 2 ^ (q + 1) = r / 2 := by rw [Nat.pow_succ, ← Nat.div_div_eq_div_mul, ← hre]
          have Hstep := Lib.hid hstep
          have Hdiv := Lib.hid hdiv
          clear hre hge hstep hdiv
          go_wp2
          go_round
          case rel => exact ⟨q + 1, r / 2, g * 2 + r % 2, by omega, by go_num, by go_num, by go_num, by omega, Hdiv.out.symm, Hstep.out.symm⟩
          case measure => simp [intOf]; omega
        · have hq' : q = 32 := by omega
          subst hq'
          have hgf : g = crcN l := by rw [Hfin.out]; exact hge
          have Hgf := Lib.hid hgf
          clear hgf hge hre
          go_wp2
          go_ret
          exact ⟨by rw [← Hgf.out]; rfl, rfl⟩
end Go.Proofs.YtnagejhpdhdpfaaGreatDoor
