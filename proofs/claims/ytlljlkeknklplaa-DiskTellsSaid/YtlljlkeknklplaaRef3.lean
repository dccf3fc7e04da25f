/-
  The document's disk: Right.
-/
import Derived.Outline
import Derived.Test.YtlljlkeknklplaaRef2
namespace Go.Proofs.Ytlljlkeknklplaa
open Go.RowKit Go.Maps Go.MapKept

set_option maxRecDepth 100000 in
set_option maxHeartbeats 2000000 in
theorem refRight_any (w : World) (s : ByteArray) (hs : s.size ≤ maxLen) :
    Calls Try.prog 57 #[.string s] w fun e w' => e = .returned (.bool (okName s)) ∧ w = w' := by
  simp only [maxLen] at hs
  go_enter Try.func57, Try.ntmps57
  go_wp2_with fail
  go_loopw [3] (fun v wr => ∃ k : Nat, k ≤ s.size ∧ k ≤ 41 ∧ v = .int .i64 k ∧ (s.data.toList.take k).all okLetter = true ∧ wr = w) (fun v _ => s.size - (intOf v).toNat)
  case atStart => exact ⟨0, by omega, by omega, rfl, by simp, rfl⟩
  case round =>
    obtain ⟨k, hk, hk41, rfl, hall, rfl⟩ := hrel
    have Hall := Lib.hid hall
    clear hall
    by_cases h1 : k < s.size
    · by_cases h2 : k ≤ 40
      · have hb : byteAt s k = s[k] := by simp [byteAt, List.getD, h1]; rfl
        have hsucc := take_all_succ s k h1 Hall.out
        have hbad := okName_bad s k h1
        rw [hb] at hsucc hbad
        cases hok : okLetter s[k] with
        | true =>
          rw [hok] at hsucc
          go_wp2_with fail
          refine (refLetter_any _ s[k]).mono ?_
          rw [hok]
          rintro e w1 ⟨rfl, rfl⟩
          dsimp only
          go_wp2
          go_roundw
          case rel => exact ⟨k + 1, by omega, by omega, by go_num, hsucc, trivial⟩
          case measure => simp [intOf]; omega
        | false =>
          have hn := hbad hok
          have Hn := Lib.hid hn
          have hq : ((k : Int) == (s.size : Int)) = false := by simp; omega
          clear hbad hsucc hb hn
          go_wp2_with fail
          refine (refLetter_any _ s[k]).mono ?_
          rw [hok]
          rintro e w1 ⟨rfl, rfl⟩
          dsimp only
          go_wp2
          go_ret
          exact ⟨by rw [Hn.out]; rfl, rfl⟩
      · have hn : okName s = false := by simp [okName]; intros; omega
        have Hn := Lib.hid hn
        have hk : k = 41 := by omega
        clear hn
        have hq : ((k : Int) == (s.size : Int)) = false := by simp; omega
        go_wp2
        go_ret
        exact ⟨by rw [Hn.out]; rfl, rfl⟩
    · have hks : k = s.size := by omega
      have hq : ((k : Int) == (s.size : Int)) = true := by simp [hks]
      have hall : s.data.toList.all okLetter = true := by
        have := Hall.out
        rwa [List.take_of_length_le (by simp; omega)] at this
      have hfin : okName s = (decide (0 < (k : Int)) && decide ((k : Int) ≤ 40)) := by
        unfold okName
        rw [hall, Bool.true_and]
        congr 1
        all_goals (congr 1; exact propext (by omega))
      have Hfin := Lib.hid hfin
      clear hfin hall hks
      by_cases h3 : 0 < (k : Int)
      · by_cases h4 : (k : Int) ≤ 40
        · go_wp2
          go_ret
          exact ⟨by rw [Hfin.out, decide_eq_true h3, decide_eq_true h4]; rfl, rfl⟩
        · go_wp2
          go_ret
          exact ⟨by rw [Hfin.out, decide_eq_true h3, decide_eq_false (Int.not_le.2 h4)]; rfl, rfl⟩
      · go_wp2
        go_ret
        exact ⟨by rw [Hfin.out, decide_eq_false (Int.not_lt.2 h3)]; rfl, rfl⟩
end Go.Proofs.Ytlljlkeknklplaa
