/-
  The walk of awake (chapter 06).
-/
import Derived.Outline
import Derived.Test.YtnagejhpdhdpfaaGreatDoorRtA
namespace Go.Proofs.YtnagejhpdhdpfaaGreatDoor
open Go.RowKit Go.Maps Go.MapKept

set_option maxRecDepth 100000 in
set_option maxHeartbeats 4000000 in
theorem awake6_any (w : World) : Calls Tryz.prog 5 #[] w fun e w' => e = .returned (.bool true) ∧ Below w.heap.size w w' := by
  have kc := fun (w : World) (C : Array Value) (n c : Nat) => Lib.run_convert_bytes_const (P := Tryz.prog) w 22 5 C n c Tryz.underlying22 Tryz.underlying5
  obtain ⟨d1, d2, d3, d4, a0, a1, a2, b0, b1, b2, b3, b4, c0, c1, c2, c3, c4, p0, p1, p2, p3, q0, q1, q2, q3⟩ := aw_plain
  obtain ⟨ex, hex⟩ : ∃ ex : Nat → Prop, ex = fun k => k < w.heap.size := ⟨_, rfl⟩
  have Hex := Lib.hid hex
  have hx0 : ∀ k, ex k → k < w.heap.size := fun k hk => by rw [hex] at hk; exact hk
  have X1 := Lib.hid (And.intro a0 (And.intro a1 a2))
  have X2 := Lib.hid (And.intro b0 (And.intro b1 (And.intro b2 b3)))
  have X3 := Lib.hid (And.intro c0 (And.intro c1 (And.intro c2 c3)))
  have X4 := Lib.hid (And.intro p0 (And.intro p1 (And.intro p2 p3)))
  have X5 := Lib.hid (And.intro q0 (And.intro q1 (And.intro q2 q3)))
  have N1 := Lib.hid b4
  have N2 := Lib.hid c4
  clear hex a0 a1 a2 b0 b1 b2 b3 b4 c0 c1 c2 c3 c4 p0 p1 p2 p3 q0 q1 q2 q3
  go_enter Tryz.func5, Tryz.ntmps5
  go_wp2_with fail
  refine (New_at (ex := ex) 1000 (by decide) (by decide) hx0).mono ?_
  generalize hp : w.heap.size + 1 = p
  generalize hm : w.heap.size = m
  rintro e w0 ⟨rfl, h0, kk0⟩
  clear hp hm
  go_wp2_with fail
  refine (reads_yes w0 p m _ 0 0 h0 X1.out.1 X1.out.2.1 X1.out.2.2).mono ?_
  rintro e w1 ⟨rfl, hB1⟩
  go_wp2_with fail
  refine (writes_yes w1 p m _ d1 5 1 (h0.below hB1) (by unfold isI64; omega) X2.out.1 (by rw [X1.out.2.1]; rfl) X2.out.2.1 X2.out.2.2.1 X2.out.2.2.2).mono ?_
  rintro e w2 ⟨rfl, h2, k2⟩
  have kk2 := (kk0.trans (Keep.ofBelow hB1 (fun k hk => h0.lt hk))).trans k2
  clear h0 kk0 k2 hB1
  go_wp2_with fail
  refine (List_at h2).mono ?_
  rw [N1.out]
  rintro e w3 ⟨a3, c3, rfl, row3, _, hB3⟩
  have Row3 := Lib.hid row3
  clear row3
  go_wp2_with fail
  have ha3 : Rd (w3.alloc (.cells #[.string ⟨#[114, 111, 111, 116, 49]⟩] 9)) (.slice a3 1 c3) (sCells [rname 1]) := (Rd.ofOwns Row3.out).below ((Below.refl _ _).alloc (Nat.le_refl _) _)
  have hb3 : Rd (w3.alloc (.cells #[.string ⟨#[114, 111, 111, 116, 49]⟩] 9)) (.slice (some ⟨w3.heap.size, 0, none⟩) 1 1) (sCells [rname 1]) := Rd_new _ _ _ _ _ _ _ rfl rfl
  refine (SameTexts_any _ _ _ _ _ ha3 hb3 (by decide) (by decide)).mono ?_
  clear ha3 hb3
  rw [show decide (([rname 1] : List ByteArray) = [rname 1]) = true by simp]
  rintro e w4 ⟨rfl, hB4⟩
  have h24 := below_new h2 (hB3.trans (((Below.refl _ _).alloc (Nat.le_refl _) _).trans (hB4.mono (by simp)) |>.mono hB3.size))
  have h4 := h24.1
  have kk4 := kk2.trans h24.2
  clear h24 h2 kk2 hB3 hB4
  go_wp2_with fail
  refine (writes_yes w4 p m _ d2 6 2 h4 (by unfold isI64; omega) X3.out.1 (by rw [X2.out.2.2.1]; rfl) X3.out.2.1 X3.out.2.2.1 X3.out.2.2.2).mono ?_
  rintro e w5 ⟨rfl, h5, k5⟩
  have kk5 := kk4.trans k5
  clear h4 kk4 k5
  go_wp2_with fail
  refine (List_at h5).mono ?_
  rw [N2.out]
  rintro e w6 ⟨a6, c6, rfl, row6, _, hB6⟩
  have Row6 := Lib.hid row6
  clear row6
  go_wp2_with fail
  have ha6 : Rd (w6.alloc (.cells #[.string ⟨#[114, 111, 111, 116, 48]⟩, .string ⟨#[114, 111, 111, 116, 49]⟩] 9)) (.slice a6 2 c6) (sCells [rname 0, rname 1]) := (Rd.ofOwns Row6.out).below ((Below.refl _ _).alloc (Nat.le_refl _) _)
  have hb6 : Rd (w6.alloc (.cells #[.string ⟨#[114, 111, 111, 116, 48]⟩, .string ⟨#[114, 111, 111, 116, 49]⟩] 9)) (.slice (some ⟨w6.heap.size, 0, none⟩) 2 2) (sCells [rname 0, rname 1]) := Rd_new _ _ _ _ _ _ _ rfl rfl
  refine (SameTexts_any _ _ _ _ _ ha6 hb6 (by decide) (by decide)).mono ?_
  clear ha6 hb6
  rw [show decide (([rname 0, rname 1] : List ByteArray) = [rname 0, rname 1]) = true by simp]
  rintro e w7 ⟨rfl, hB7⟩
  have h57 := below_new h5 (hB6.trans (((Below.refl _ _).alloc (Nat.le_refl _) _).trans (hB7.mono (by simp)) |>.mono hB6.size))
  have h7 := h57.1
  have kk7 := kk5.trans h57.2
  clear h57 h5 kk5 hB6 hB7
  go_wp2_with fail
  refine (Append_at (rname 0) _ [120] (h7.alloc _) (by decide) (Rd_new _ _ _ _ (bcells [120]) _ _ rfl rfl) (by decide)).mono ?_
  rw [X4.out.1]
  rintro e w8 ⟨rfl, h8, k8⟩
  have kk8 := (kk7.trans (Keep.alloc _ _ (fun k hk => h7.lt hk))).trans k8
  clear h7 kk7 k8
  go_wp2_with fail
  refine (reads_yes w8 p m _ 1 5 h8 X4.out.2.1 X4.out.2.2.1 X4.out.2.2.2).mono ?_
  rintro e w9 ⟨rfl, hB9⟩
  go_wp2_with fail
  refine (writes_yes w9 p m _ d4 7 2 (h8.below hB9) (by unfold isI64; omega) X5.out.1 (by rw [X4.out.2.2.1]; rfl) X5.out.2.1 X5.out.2.2.1 X5.out.2.2.2).mono ?_
  rintro e w10 ⟨rfl, h10, k10⟩
  go_wp2
  go_ret
  exact ⟨rfl, ((kk8.trans (Keep.ofBelow hB9 (fun k hk => h8.lt hk))).trans k10).below (fun k hk => by rw [Hex.out]; exact hk)⟩
end Go.Proofs.YtnagejhpdhdpfaaGreatDoor
