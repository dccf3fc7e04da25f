/-
  The document's disk: Read, Arm.
-/
import Derived.Outline
import Derived.Deep.RegionHeld3
import Derived.Test.YtlljlkeknklplaaRef8
namespace Go.Proofs.Ytlljlkeknklplaa
open Go.RowKit Go.Maps Go.MapKept
variable {X : Nat → Prop}

set_option maxRecDepth 100000 in
set_option maxHeartbeats 4000000 in
theorem refRead_any (w : World) (a : Option Addr) (n c : Nat) (d : ADisk) (s : ByteArray) (h : RefAt X w a n c d) (hw : d.WF) :
    Calls Try.prog 33 #[refVal a n c d, .string s] w fun e w' => ∃ a' n' c', e = .returned (.tuple #[.slice a' n' c', .int .i64 (findErr d s)]) ∧ Rd w' (.slice a' n' c') (bcells (d.readBytes s)) ∧ Below w.heap.size w w' := by
  have hA := fun (w : World) (h : RefAt X w a n c d) => refAsk_any w a n c d s h hw
  have hD := alloc_at w (.cells #[.int .i64 d.most, .slice a n c, .int .i64 d.left, .bool d.down] 43)
  have hbW : Below w.heap.size w (w.alloc (.cells #[.int .i64 d.most, .slice a n c, .int .i64 d.left, .bool d.down] 43)) := (Below.refl _ _).alloc (Nat.le_refl _) _
  obtain ⟨W, hW⟩ : ∃ W, w.alloc (.cells #[.int .i64 d.most, .slice a n c, .int .i64 d.left, .bool d.down] 43) = W := ⟨_, rfl⟩
  rw [hW] at hD hbW
  have HW := Lib.hid hW
  clear hW
  have hRW := h.below hbW
  by_cases he : findErr d s = 0
  · obtain ⟨hd, f, hl⟩ := find_zero he
    obtain ⟨k, hk, hpl, hkn, hkf⟩ := place_some hw.sorted hl
    have h1 : d.readBytes s = f.firm ++ f.loose := by unfold ADisk.readBytes afile; rw [if_pos he, hl]; rfl
    obtain ⟨b, off, vb, rfl, c0, c1, c2, hrd⟩ := h.at k hk
    have hn : n = d.fs.length := h.len
    have hkn' : k < n := by omega
    rw [hkf] at hrd
    rw [h1, he]
    rw [he, hpl] at hA
    obtain ⟨av, cv, rfl⟩ := hrd.shape
    have Hc1 := Lib.hid c1
    clear h1 hkn hkf hl hpl he hn hd c0 c2 c1
    obtain ⟨x0, x1, x2, x3, _⟩ := cells4 hD
    unfold refVal at hA ⊢
    go_enter Try.func33, Try.ntmps33
    go_wp2_with fail
    rw [HW.out]
    refine (hA _ hRW).mono ?_
    rintro e w1 ⟨rfl, hb1⟩
    have hD1 := (hb1.block _ (blk_lt hD)).trans hD
    have hbw1 : Below w.heap.size w w1 := hbW.trans (hb1.mono hbW.size)
    obtain ⟨y0, y1, y2, y3, y4, y5, y6, y7⟩ := cells4 hD1
    have c1 := (hbw1.cell (p := ⟨b, off + k * 3 + 1, none⟩) (cell_lt Hc1.out)).trans Hc1.out
    dsimp only
    go_wp2
    go_ret2
    exact ⟨_, _, _, rfl, rd_low hrd hbw1, hbw1⟩
  · have h1 : d.readBytes s = [] := by unfold ADisk.readBytes; rw [if_neg he]
    rw [h1]
    obtain ⟨fe, hfe⟩ : ∃ fe, findErr d s = fe := ⟨_, rfl⟩
    rw [hfe] at hA he ⊢
    have hq : (fe == 0) = false := by simpa using he
    have hq2 : (fe != 0) = true := by simpa using he
    clear hfe h1 he
    obtain ⟨x0, x1, x2, x3, _⟩ := cells4 hD
    unfold refVal at hA ⊢
    go_enter Try.func33, Try.ntmps33
    go_wp2_with fail
    rw [HW.out]
    refine (hA _ hRW).mono ?_
    rintro e w1 ⟨rfl, hb1⟩
    dsimp only
    go_wp2
    go_ret2
    exact ⟨_, _, _, rfl, Or.inl ⟨Or.inl rfl, rfl⟩, hbW.trans (hb1.mono hbW.size)⟩

set_option maxRecDepth 100000 in
set_option maxHeartbeats 4000000 in
theorem refArm_any (w : World) (a : Option Addr) (n c : Nat) (d : ADisk) (x : Int) (h : RefAt X w a n c d) :
    Calls Try.prog 29 #[refVal a n c d, .int .i64 x] w fun e w' => e = .returned (refVal a n c (d.arm x)) ∧ RefAt X w' a n c (d.arm x) ∧ Below w.heap.size w w' := by
  obtain ⟨most, left, down, fs⟩ := d
  have hB : ∀ l : Int, Below w.heap.size w ((w.alloc (.cells #[.int .i64 most, .slice a n c, .int .i64 l, .bool down] 43)).alloc (.cells #[.int .i64 most, .slice a n c, .int .i64 l, .bool down] 43)) := fun l => ((Below.refl _ _).alloc (Nat.le_refl _) _).alloc (by simp) _
  have hp : ∀ (l : Int) (w' : World), Below w.heap.size w w' → RefAt X w' a n c ⟨most, l, down, fs⟩ := fun l w' hb => ⟨(h.below hb).files, h.len, h.inX⟩
  unfold refVal
  cases down with
  | true =>
    rw [show (⟨most, left, true, fs⟩ : ADisk).arm x = ⟨most, left, true, fs⟩ from rfl]
    go_enter Try.func29, Try.ntmps29
    go_wp2
    trace_state
    exact bodyPost_ret (v := .agg #[.int .i64 most, .slice a n c, .int .i64 left, .bool true]) (by simp [results, Try.results29, go_sem]) rfl ⟨rfl, hp _ _ (hB _), hB _⟩
  | false =>
    by_cases hx : x < 0
    · rw [show (⟨most, left, false, fs⟩ : ADisk).arm x = ⟨most, 0, false, fs⟩ by unfold ADisk.arm; simp; omega]
      go_enter Try.func29, Try.ntmps29
      go_wp2
      exact bodyPost_ret (v := .agg #[.int .i64 most, .slice a n c, .int .i64 0, .bool false]) (by simp [results, Try.results29, go_sem]) rfl ⟨rfl, hp _ _ (hB _), hB _⟩
    · rw [show (⟨most, left, false, fs⟩ : ADisk).arm x = ⟨most, x, false, fs⟩ by unfold ADisk.arm; simp; omega]
      go_enter Try.func29, Try.ntmps29
      go_wp2
      exact bodyPost_ret (v := .agg #[.int .i64 most, .slice a n c, .int .i64 x, .bool false]) (by simp [results, Try.results29, go_sem]) rfl ⟨rfl, hp _ _ (hB _), hB _⟩
end Go.Proofs.Ytlljlkeknklplaa
