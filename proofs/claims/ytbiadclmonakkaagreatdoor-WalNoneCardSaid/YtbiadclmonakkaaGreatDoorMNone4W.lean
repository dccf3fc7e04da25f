/-
  WalNone: a log that Open did not make; the walk.
-/
import Derived.Outline
import Derived.Test.YtbiadclmonakkaaGreatDoorMWmD
namespace Go.Proofs.YtbiadclmonakkaaGreatDoor
open Go.RowKit Go.Maps Go.MapKept

/-- no log, or one that is empty. -/
def NoLog (w : World) (v : Value) : Prop := v = .pointer none ∨ ∃ q, v = .pointer (some ⟨q, 0, none⟩) ∧ w.heap[q]? = some (.cells #[.pointer none, .int .i64 0, .slice none 0 0, .int .i64 0, .int .i64 0, .int .i64 0, .bool false] 52 (0, 0))
theorem NoLog.below {w w' : World} {v : Value} (h : NoLog w v) (hb : Below w.heap.size w w') : NoLog w' v := by
  rcases h with h | ⟨q, h1, h2⟩
  · exact Or.inl h
  · exact Or.inr ⟨q, h1, (hb.block _ (blk_lt h2)).trans h2⟩
section
variable {w : World} {v : Value}
set_option maxRecDepth 100000 in
set_option maxHeartbeats 1000000 in
theorem nup_any (h : NoLog w v) : Calls Tryz.prog 60 #[v] w fun e w' => e = .returned (.int .i64 1) ∧ w = w' := by
  rcases h with rfl | ⟨q, rfl, h⟩
  · go_enter Tryz.func60, Tryz.ntmps60
    go_wp2
    go_ret
    exact ⟨rfl, rfl⟩
  · obtain ⟨c0, c1, c2, c3, c4, c5, c6, _⟩ := cells7 h
    clear h
    go_enter Tryz.func60, Tryz.ntmps60
    go_wp2
    go_ret
    exact ⟨rfl, rfl⟩
set_option maxRecDepth 100000 in
set_option maxHeartbeats 1000000 in
theorem nTrim_any (n : Int) (h : NoLog w v) : Calls Tryz.prog 19 #[v, .int .i64 n] w fun e w' => e = .returned (.tuple #[.slice none 0 0, .int .i64 1]) ∧ w = w' := by
  have hu := nup_any h
  have Hu := Lib.hid hu
  clear hu h
  go_enter Tryz.func19, Tryz.ntmps19
  go_wp2_with (go_at_call 60; refine Hu.out.mono ?_; rintro e w1 ⟨rfl, rfl⟩)
  go_ret2
  exact ⟨rfl, rfl⟩
set_option maxRecDepth 100000 in
set_option maxHeartbeats 1000000 in
theorem nAppend_any (n : Int) (a : Option Addr) (l c : Nat) (h : NoLog w v) : Calls Tryz.prog 22 #[v, .int .i64 n, .slice a l c] w fun e w' => e = .returned (.int .i64 1) ∧ w = w' := by
  have hu := nup_any h
  have Hu := Lib.hid hu
  clear hu h
  go_enter Tryz.func22, Tryz.ntmps22
  go_wp2_with (go_at_call 60; refine Hu.out.mono ?_; rintro e w1 ⟨rfl, rfl⟩)
  go_ret
  exact ⟨rfl, rfl⟩
set_option maxRecDepth 100000 in
set_option maxHeartbeats 1000000 in
theorem nSync_any (h : NoLog w v) : Calls Tryz.prog 23 #[v] w fun e w' => e = .returned (.int .i64 1) ∧ w = w' := by
  have hu := nup_any h
  have Hu := Lib.hid hu
  clear hu h
  go_enter Tryz.func23, Tryz.ntmps23
  go_wp2_with (go_at_call 60; refine Hu.out.mono ?_; rintro e w1 ⟨rfl, rfl⟩)
  go_ret
  exact ⟨rfl, rfl⟩
set_option maxRecDepth 100000 in
set_option maxHeartbeats 1000000 in
theorem nFiles_any (h : NoLog w v) : Calls Tryz.prog 13 #[v] w fun e w' => e = .returned (.slice none 0 0) ∧ w = w' := by
  rcases h with rfl | ⟨q, rfl, h⟩
  · go_enter Tryz.func13, Tryz.ntmps13
    go_wp2
    go_ret
    exact ⟨rfl, rfl⟩
  · obtain ⟨c0, c1, c2, c3, c4, c5, c6, _⟩ := cells7 h
    clear h
    go_enter Tryz.func13, Tryz.ntmps13
    go_wp2
    go_loop [3, 13] (fun vo i => vo = .slice none 0 0 ∧ i = .int .i64 0) (fun _ _ => 0)
    case atStart => exact ⟨rfl, rfl⟩
    case round =>
      obtain ⟨rfl, rfl⟩ := hrel
      go_wp2
      go_ret
      exact ⟨rfl, rfl⟩
set_option maxRecDepth 100000 in
set_option maxHeartbeats 1000000 in
theorem nFirst_any (h : NoLog w v) : Calls Tryz.prog 24 #[v] w fun e w' => e = .returned (.int .i64 0) ∧ w = w' := by
  rcases h with rfl | ⟨q, rfl, h⟩
  · go_enter Tryz.func24, Tryz.ntmps24
    go_wp2
    go_ret
    exact ⟨rfl, rfl⟩
  · obtain ⟨c0, c1, c2, c3, c4, c5, c6, _⟩ := cells7 h
    clear h
    go_enter Tryz.func24, Tryz.ntmps24
    go_wp2
    go_ret
    exact ⟨rfl, rfl⟩
set_option maxRecDepth 100000 in
set_option maxHeartbeats 1000000 in
theorem nLast_any (h : NoLog w v) : Calls Tryz.prog 21 #[v] w fun e w' => e = .returned (.int .i64 0) ∧ w = w' := by
  rcases h with rfl | ⟨q, rfl, h⟩
  · go_enter Tryz.func21, Tryz.ntmps21
    go_wp2
    go_ret
    exact ⟨rfl, rfl⟩
  · obtain ⟨c0, c1, c2, c3, c4, c5, c6, _⟩ := cells7 h
    clear h
    go_enter Tryz.func21, Tryz.ntmps21
    go_wp2
    go_ret
    exact ⟨rfl, rfl⟩
set_option maxRecDepth 100000 in
set_option maxHeartbeats 1000000 in
theorem nSynced_any (h : NoLog w v) : Calls Tryz.prog 25 #[v] w fun e w' => e = .returned (.int .i64 0) ∧ w = w' := by
  rcases h with rfl | ⟨q, rfl, h⟩
  · go_enter Tryz.func25, Tryz.ntmps25
    go_wp2
    go_ret
    exact ⟨rfl, rfl⟩
  · obtain ⟨c0, c1, c2, c3, c4, c5, c6, _⟩ := cells7 h
    clear h
    go_enter Tryz.func25, Tryz.ntmps25
    go_wp2
    go_ret
    exact ⟨rfl, rfl⟩
set_option maxRecDepth 100000 in
set_option maxHeartbeats 1000000 in
theorem nOver_any (h : NoLog w v) : Calls Tryz.prog 26 #[v] w fun e w' => e = .returned (.bool false) ∧ w = w' := by
  rcases h with rfl | ⟨q, rfl, h⟩
  · go_enter Tryz.func26, Tryz.ntmps26
    go_wp2
    go_ret
    exact ⟨rfl, rfl⟩
  · obtain ⟨c0, c1, c2, c3, c4, c5, c6, _⟩ := cells7 h
    clear h
    go_enter Tryz.func26, Tryz.ntmps26
    go_wp2
    go_ret
    exact ⟨rfl, rfl⟩
end
set_option maxRecDepth 100000 in
set_option maxHeartbeats 8000000 in
theorem none4_law (w : World) (hE : WEnv w) (n : Int) (_w0 : (Lit.int .i64 n).wf = true) {vb : Value} (b : List UInt8) (hb : Rd w vb (bcells b)) (_l1 : b.length ≤ maxLen) :
    Calls Tryz.prog 5 #[.int .i64 n, vb] w fun e w' => e = .returned (.bool true) ∧ Below w.heap.size w w' := by
  obtain ⟨ab, cb, rfl⟩ := hb.shape
  rw [bcells_length]
  obtain ⟨w1, hw1⟩ : ∃ w1, (w.alloc (.cells #[.pointer none, .int .i64 0, .slice none 0 0, .int .i64 0, .int .i64 0, .int .i64 0, .bool false] 52)).alloc (.cells #[.pointer none, .pointer (some ⟨w.heap.size, 0, none⟩)] 27) = w1 := ⟨_, rfl⟩
  have hB1 : Below w.heap.size w w1 := by rw [← hw1]; exact ((Below.refl _ _).alloc (Nat.le_refl _) _).alloc (by simp) _
  have hl1 : w1.heap[w.heap.size]? = some (.cells #[.pointer none, .int .i64 0, .slice none 0 0, .int .i64 0, .int .i64 0, .int .i64 0, .bool false] 52 (0, 0)) := by rw [← hw1]; exact alloc2_at0 _ _ _
  have hr1 : w1.heap[w.heap.size + 1]? = some (.cells #[.pointer none, .pointer (some ⟨w.heap.size, 0, none⟩)] 27 (0, 0)) := by rw [← hw1]; exact alloc2_at _ _ _
  obtain ⟨x0, x1, _⟩ := cells2 hr1
  have hN0 : NoLog w1 (.pointer none) := Or.inl rfl
  have hN1 : NoLog w1 (.pointer (some ⟨w.heap.size, 0, none⟩)) := Or.inr ⟨_, rfl, hl1⟩
  have Hw1 := Lib.hid hw1
  have H0 := Lib.hid hN0
  have H1 := Lib.hid hN1
  have HE1 := Lib.hid (hE.below hB1)
  clear hw1 hN0 hN1 hl1 hr1 hb hE
  go_enter Tryz.func5, Tryz.ntmps5
  go_upto_region 3 with fail
  rw [Hw1.out]
  go_loopw [15] (fun i wr => ∃ k : Nat, k ≤ 2 ∧ i = .int .i64 k ∧ wr = w1) (fun i _ => 2 - (intOf i).toNat)
  case atStart => exact ⟨0, by omega, rfl, rfl⟩
  case round =>
    obtain ⟨k, hk, rfl, rfl⟩ := hrel
    have hk3 : k = 0 ∨ k = 1 ∨ k = 2 := by omega
    rcases hk3 with rfl | rfl | rfl
    · go_wp2_with first
        | (go_at_call 19; refine (nTrim_any n H0.out).mono ?_; rintro e w2 ⟨rfl, rfl⟩)
        | (go_at_call 22; refine (nAppend_any n _ _ _ H0.out).mono ?_; rintro e w2 ⟨rfl, rfl⟩)
        | (go_at_call 23; refine (nSync_any H0.out).mono ?_; rintro e w2 ⟨rfl, rfl⟩)
        | (go_at_call 13; refine (nFiles_any H0.out).mono ?_; rintro e w2 ⟨rfl, rfl⟩)
        | (go_at_call 24; refine (nFirst_any H0.out).mono ?_; rintro e w2 ⟨rfl, rfl⟩)
        | (go_at_call 21; refine (nLast_any H0.out).mono ?_; rintro e w2 ⟨rfl, rfl⟩)
        | (go_at_call 25; refine (nSynced_any H0.out).mono ?_; rintro e w2 ⟨rfl, rfl⟩)
        | (go_at_call 26; refine (nOver_any H0.out).mono ?_; rintro e w2 ⟨rfl, rfl⟩)
      go_roundw
      case rel => exact ⟨1, by omega, rfl, trivial⟩
      case measure => simp [intOf]
    · go_wp2_with first
        | (go_at_call 19; refine (nTrim_any n H1.out).mono ?_; rintro e w2 ⟨rfl, rfl⟩)
        | (go_at_call 22; refine (nAppend_any n _ _ _ H1.out).mono ?_; rintro e w2 ⟨rfl, rfl⟩)
        | (go_at_call 23; refine (nSync_any H1.out).mono ?_; rintro e w2 ⟨rfl, rfl⟩)
        | (go_at_call 13; refine (nFiles_any H1.out).mono ?_; rintro e w2 ⟨rfl, rfl⟩)
        | (go_at_call 24; refine (nFirst_any H1.out).mono ?_; rintro e w2 ⟨rfl, rfl⟩)
        | (go_at_call 21; refine (nLast_any H1.out).mono ?_; rintro e w2 ⟨rfl, rfl⟩)
        | (go_at_call 25; refine (nSynced_any H1.out).mono ?_; rintro e w2 ⟨rfl, rfl⟩)
        | (go_at_call 26; refine (nOver_any H1.out).mono ?_; rintro e w2 ⟨rfl, rfl⟩)
      go_roundw
      case rel => exact ⟨2, by omega, rfl, trivial⟩
      case measure => simp [intOf]
    · go_wp2_with fail
      refine (awake4_any _ HE1.out).mono ?_
      rintro e w3 ⟨rfl, hB3⟩
      go_wp2
      go_ret
      exact ⟨rfl, hB1.trans (hB3.mono hB1.size)⟩
end Go.Proofs.YtbiadclmonakkaaGreatDoor
