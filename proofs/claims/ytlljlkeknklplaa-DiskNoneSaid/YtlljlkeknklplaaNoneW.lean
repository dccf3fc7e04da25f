/-
  The walk of DiskNone.
-/
import Derived.Outline
import Derived.Test.YtlljlkeknklplaaNone0
import Derived.Test.YtlljlkeknklplaaAwake
namespace Go.Proofs.Ytlljlkeknklplaa
open Go.RowKit Go.Maps Go.MapKept

set_option maxRecDepth 100000 in
set_option maxHeartbeats 8000000 in
theorem none_walk (w : World) (s : ByteArray) (n : Int) (a : Option Addr) (l c : Nat) (hs : s.size ≤ maxLen) :
    Calls Try.prog 5 #[.string s, .int .i64 n, .slice a l c] w fun e w' => e = .returned (.bool true) ∧ Below w.heap.size w w' := by
  go_enter Try.func5, Try.ntmps5
  go_wp2
  have hB := alloc2_at0 w (.cells #[.int .i64 0, .bool false, .map none, .int .i64 0] 67) (.cells #[.pointer none, .pointer (some ⟨w.heap.size, 0, none⟩)] 24)
  have hS := alloc2_at w (.cells #[.int .i64 0, .bool false, .map none, .int .i64 0] 67) (.cells #[.pointer none, .pointer (some ⟨w.heap.size, 0, none⟩)] 24)
  have hb0 : Below w.heap.size w ((w.alloc (.cells #[.int .i64 0, .bool false, .map none, .int .i64 0] 67)).alloc (.cells #[.pointer none, .pointer (some ⟨w.heap.size, 0, none⟩)] 24)) := ((Below.refl _ _).alloc (Nat.le_refl _) _).alloc (by simp) _
  go_loopw [14] (fun i wr => ∃ k : Nat, k ≤ 2 ∧ i = .int .i64 k ∧ wr.heap[w.heap.size + 1]? = some (.cells #[.pointer none, .pointer (some ⟨w.heap.size, 0, none⟩)] 24 (0, 0)) ∧ NoDisk wr (.pointer (some ⟨w.heap.size, 0, none⟩)) ∧ Below w.heap.size w wr) (fun i _ => 2 - (intOf i).toNat)
  case atStart => exact ⟨0, by omega, rfl, hS, Or.inr ⟨_, 0, 0, rfl, hB⟩, hb0⟩
  case round =>
    obtain ⟨k, hk, rfl, hSr, hno, hbr⟩ := hrel
    clear hB hS hb0
    by_cases hlt : k < 2
    · have hpv : ∃ pv, wr.cell? ⟨w.heap.size + 1, k, none⟩ = some pv ∧ NoDisk wr pv ∧ (∀ j, ptrBlk pv j → j = w.heap.size) := by
        rw [cell_at hSr]
        have : k = 0 ∨ k = 1 := by omega
        rcases this with rfl | rfl
        · exact ⟨_, rfl, Or.inl rfl, fun j hj => by obtain ⟨_, h, _⟩ := hj; cases h⟩
        · exact ⟨_, rfl, hno, fun j hj => by obtain ⟨_, h, e⟩ := hj; cases h; exact e⟩
      obtain ⟨pv, hcell, hnp, hpb⟩ := hpv
      have hki : (k : Int) < 2 := by omega
      have hSlt := blk_lt hSr
      go_wp2_with fail
      refine (Arm_no hnp n).mono ?_
      rintro e w' ⟨rfl, rfl⟩
      go_wp2_with fail
      refine (Crash_no (hnp.alloc _) _ _ _).mono ?_
      rintro e w1 ⟨rfl, hn1, hu1⟩
      have hs1 := hu1.size
      have hSr1 := hu1.keep (alloc_old hSr _) (fun hj => by have := hpb _ hj; omega)
      have hno1 : NoDisk w1 (.pointer (some ⟨w.heap.size, 0, none⟩)) := by
        have : k = 0 ∨ k = 1 := by omega
        rw [cell_at hSr] at hcell
        rcases this with rfl | rfl
        · simp at hcell
          subst hcell
          rcases hno with h | ⟨p, l1, x1, h1, h2⟩
          · cases h
          · exact Or.inr ⟨p, l1, x1, h1, hu1.keep (alloc_old h2 _) (fun hj => by obtain ⟨_, h, _⟩ := hj; cases h)⟩
        · simp at hcell
          subst hcell
          exact hn1
      have hbr1 : Below w.heap.size w w1 := by
        refine (hbr.alloc hbr.size _).trans (hu1.below (fun j hj => by rw [hpb j hj]; exact Nat.le_refl _) (by simp; have := hbr.size; omega))
      clear hu1 hno hnp hSr hcell hbr
      have hq : ∀ (wa wb : World), Below w1.heap.size w1 wa → Below wa.heap.size wa wb → Below w1.heap.size w1 wb := fun _ _ h1 h2 => h1.trans (h2.mono h1.size)
      have Hq := Lib.hid hq
      clear hq
      have hn1' := Lib.hid hn1
      have hno1' := Lib.hid hno1
      clear hn1 hno1
      go_wp2_with fail
      refine (Read_no hn1'.out s).mono ?_
      rintro e w2 ⟨rfl, b2⟩
      have hn2 := hn1'.out.below b2
      go_wp2_with fail
      refine (Append_no hn2 s _ _ _).mono ?_
      rintro e w3 ⟨rfl, b3⟩
      have hn3 := hn2.below b3
      have d3 := Hq.out _ _ b2 b3
      clear b2 b3 hn2
      go_wp2_with fail
      refine (Sync_no hn3 s).mono ?_
      rintro e w4 ⟨rfl, b4⟩
      have hn4 := hn3.below b4
      have d4 := Hq.out _ _ d3 b4
      clear b4 d3 hn3
      go_wp2_with fail
      refine (Cut_no hn4 s n).mono ?_
      rintro e w5 ⟨rfl, b5⟩
      have hn5 := hn4.below b5
      have d5 := Hq.out _ _ d4 b5
      clear b5 d4 hn4
      go_wp2_with fail
      refine (Remove_no hn5 s).mono ?_
      rintro e w6 ⟨rfl, b6⟩
      have hn6 := hn5.below b6
      have d6 := Hq.out _ _ d5 b6
      clear b6 d5 hn5
      go_wp2_with fail
      refine (Rename_no hn6 s s).mono ?_
      rintro e w7 ⟨rfl, b7⟩
      have hn7 := hn6.below b7
      have d7 := Hq.out _ _ d6 b7
      clear b7 d6 hn6
      go_wp2_with fail
      refine (tells_any _ 1 _ [1, 1, 1, 1, 1, 1] (Rd_new _ _ _ _ (iCells [1, 1, 1, 1, 1, 1]) _ _ rfl rfl) (by decide)).mono ?_
      rw [show ([1, 1, 1, 1, 1, 1] : List Int).all (fun x => x == 1) = true from rfl]
      rintro e w8 ⟨rfl, rfl⟩
      have hn8 := hn7.alloc (.cells #[.int .i64 1, .int .i64 1, .int .i64 1, .int .i64 1, .int .i64 1, .int .i64 1] 25)
      have d8 := Hq.out _ _ d7 ((Below.refl _ w7).alloc (Nat.le_refl _) (.cells #[.int .i64 1, .int .i64 1, .int .i64 1, .int .i64 1, .int .i64 1, .int .i64 1] 25))
      clear d7 hn7
      go_wp2_with fail
      refine (Down_no hn8).mono ?_
      rintro e w9 ⟨rfl, rfl⟩
      go_wp2_with fail
      refine (List_no hn8).mono ?_
      rintro e w10 ⟨rfl, b10⟩
      have hn10 := hn8.below b10
      have d10 := Hq.out _ _ d8 b10
      clear b10 d8 hn8
      go_wp2_with fail
      refine (Used_no hn10).mono ?_
      rintro e w11 ⟨rfl, b11⟩
      have hn11 := hn10.below b11
      have d11 := Hq.out _ _ d10 b11
      clear b11 d10 hn10
      go_wp2_with fail
      refine (Size_no hn11 s hs).mono ?_
      rintro e w12 ⟨rfl, b12⟩
      have hn12 := hn11.below b12
      have d12 := Hq.out _ _ d11 b12
      clear b12 d11 hn11
      go_wp2_with fail
      refine (Synced_no hn12 s hs).mono ?_
      rintro e w13 ⟨rfl, b13⟩
      have d13 := Hq.out _ _ d12 b13
      clear b13 d12 hn12
      go_wp2
      go_roundw
      case rel => exact ⟨k + 1, by omega, by go_num, (d13.block _ (blk_lt hSr1)).trans hSr1, hno1'.out.below d13, hbr1.trans (d13.mono hbr1.size)⟩
      case measure => simp [intOf]; omega
    · obtain rfl : k = 2 := by omega
      go_wp2_with (go_at_call 18; refine (awake_any _).mono ?_; rintro e w2 ⟨rfl, hb2⟩)
      go_ret
      exact ⟨rfl, hbr.trans (hb2.mono hbr.size)⟩
end Go.Proofs.Ytlljlkeknklplaa
