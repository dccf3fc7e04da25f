/-
  RootsTells: the walk. (Printed by wip/gen/gen_tells6.py.)
-/
import Derived.Outline
import Derived.Test.YtnagejhpdhdpfaaGreatDoorRc7
import Derived.Test.YtnagejhpdhdpfaaGreatDoorRtW
import Derived.Test.YtnagejhpdhdpfaaGreatDoorOpn6
namespace Go.Proofs.YtnagejhpdhdpfaaGreatDoor
open Go.RowKit Go.Maps Go.MapKept

set_option maxRecDepth 100000 in
set_option maxHeartbeats 2000000 in
theorem copyB_any (w : World) (v : Value) (l : List UInt8) (hv : Rd w v (bcells l)) (hl : l.length ≤ 1000000000000) :
    Calls Tryz.prog 7 #[v] w fun e w' => ∃ a c, e = .returned (.slice a l.length c) ∧ w'.ownsRow w.heap.size 5 1 (.slice a l.length c) l.length (bcells l) ∧ Below w.heap.size w w' := by
  obtain ⟨ad, c, rfl⟩ := hv.shape
  rw [bcells_length] at hv ⊢
  have Hrd := Lib.hid hv
  clear hv
  go_enter Tryz.func7, Tryz.ntmps7
  go_wp2_with (at_builtin; refine append_u8 rfl (.tmp 3) (.tmp 4) rfl (.slice (some ⟨w.heap.size, 0, none⟩) 0 0) (.slice ad l.length c) [] l l rfl rfl (ownsRow_base0 (row_empty w 5 5 rfl)) rfl (Hrd.out.below ((Below.refl _ _).alloc (Nat.le_refl _) _)) (by simp; omega) ?_; intro v' w1 h1 h2 h3 _; obtain ⟨a', c', rfl, _, _, _⟩ := row_slice h1)
  go_ret
  have hB : Below w.heap.size w w1 := (((Upd.refl noFp w).alloc _).grown h2 (fun k hk => Or.inr (by cases hk; exact Nat.le_refl _))).below (fun _ h => h.elim) (Nat.le_refl _)
  refine ⟨a', c', rfl, ownsRow_from h1 (fun g hg => ?_), hB⟩
  rcases h3 with h3 | ⟨g', h3, hg'⟩
  · rw [h3] at hg; cases hg; exact Nat.le_refl _
  · rw [h3] at hg; cases hg; simp at hg'; omega
theorem bytes6_at {w : World} (s t c : Int) (vb : Value) (b L : List UInt8) (er : Int) (hs : isI64 s) (ht : isI64 t) (hc : isI64 c) (hv : Rd w vb (bcells b)) (hb : b.length ≤ 1000000000) (he : rbErr s t c b.length = er) (hL : rbOut s t c b = L) :
    Calls Tryz.prog 9 #[.agg #[.int .i64 s, .int .i64 t, .int .i64 c, vb]] w fun e w' => ∃ a cc, e = .returned (.tuple #[.slice a L.length cc, .int .i64 er]) ∧ w'.ownsRow w.heap.size 5 1 (.slice a L.length cc) L.length (bcells L) ∧ Below w.heap.size w w' := by
  have := x6Bytes_any w s t c vb b hs ht hc hv hb
  unfold RbPost rootV at this
  rw [he, hL] at this
  exact this
theorem parse6_by {w : World} (v : Value) (l : List UInt8) (P : ARoot) (er : Int) (hv : Rd w v (bcells l)) (hcap : CapOk v) (hl : l.length ≤ 1000000000000) (he : parseE l = er) (hP : parseR l = P) :
    Calls Tryz.prog 11 #[v] w fun e w' => ∃ a c, e = .returned (.tuple #[.agg #[.int .i64 P.serial, .int .i64 P.tick, .int .i64 P.commit, .slice a P.blob.length c], .int .i64 er]) ∧
      w'.ownsRow w.heap.size 5 1 (.slice a P.blob.length c) P.blob.length (bcells P.blob) ∧ Below w.heap.size w w' := by
  have := x6Parse_any w v l hv hcap hl
  unfold RpPost rootV at this
  rw [he, hP] at this
  exact this
theorem sameR_self (P : ARoot) : sameR P.serial P.tick P.commit P.blob P.serial P.tick P.commit P.blob = true := by unfold sameR; simp
theorem row_capB {w : World} {base : Nat} {a : Option Addr} {n c : Nat} {l : List UInt8} (h : w.ownsRow base 5 1 (.slice a n c) n (bcells l)) : CapOk (.slice a n c) := by
  obtain ⟨_, _, hv1, hnc1, hcm1, _⟩ := row_slice (ownsRow_base0 h)
  cases hv1
  exact ⟨_, _, _, rfl, hnc1, hcm1⟩
set_option maxRecDepth 100000 in
set_option maxHeartbeats 16000000 in
theorem tells6_law (w : World) (x : XRoot) (hx : RootOk w x) {v : Value} (b : List UInt8) (rb : Rd w v (bcells b)) (lb : b.length ≤ maxLen) (cb : CapOk v) (sealed : Bool) :
    Calls Tryz.prog 3 #[x.val, v, .bool sealed] w fun e w' => e = .returned (.bool true) ∧ Below w.heap.size w w' := by
  obtain ⟨s, t, c, vx, bx⟩ := x
  obtain ⟨hs, ht, hc, hrx, hlx⟩ := hx
  simp only at hs ht hc hrx hlx
  unfold XRoot.val
  simp only
  obtain ⟨ax, cx, rfl⟩ := hrx.shape
  obtain ⟨av, cv, rfl⟩ := rb.shape
  rw [bcells_length] at hrx rb cb ⊢
  rw [bcells_length]
  simp only [maxLen] at hlx lb
  obtain ⟨W, hW⟩ : ∃ W, w.alloc (.cells #[.int .i64 s, .int .i64 t, .int .i64 c, .slice ax bx.length cx] 24) = W := ⟨_, rfl⟩
  have hBW : Below w.heap.size w W := by rw [← hW]; exact (Below.refl _ _).alloc (Nat.le_refl _) _
  have hWx : W.heap[w.heap.size]? = some (.cells #[.int .i64 s, .int .i64 t, .int .i64 c, .slice ax bx.length cx] 24 (0, 0)) := by rw [← hW]; exact alloc_at _ _
  have HW := Lib.hid hW
  have HWx := Lib.hid hWx
  have HBx := Lib.hid hrx
  have HBb := Lib.hid rb
  have Hcb := Lib.hid cb
  clear hW hWx hrx rb cb
  by_cases hg : bx.length ≤ 1000 ∧ b.length ≤ 1000
  · obtain ⟨g1, g2⟩ := hg
    have g1' : ¬ (1000 : Int) < (bx.length : Int) := by omega
    have g2' : ¬ (1000 : Int) < (b.length : Int) := by omega
    obtain ⟨er, her⟩ : ∃ er, rbErr s t c bx.length = er := ⟨_, rfl⟩
    obtain ⟨L, hL⟩ : ∃ L, rbOut s t c bx = L := ⟨_, rfl⟩
    have Her := Lib.hid her
    have HL := Lib.hid hL
    clear her hL
    cases sealed with
    | false =>
      go_enter Tryz.func3, Tryz.ntmps3
      go_wp2_with fail
      rw [HW.out]
      obtain ⟨B, hB0⟩ : ∃ B, b = B := ⟨_, rfl⟩
      subst hB0
      have hBl : b.length ≤ 2000 := by omega
      have HX1 := HWx
      have HB1 := Lib.hid (HBb.out.below hBW)
      have HBx1 := Lib.hid (HBx.out.below hBW)
      have hBw1 := hBW
      have hBc := Hcb.out
      clear HW HWx hBW HBb HBx Hcb
      generalize hBB : b = B at *
      generalize W = w1 at *
      generalize av = aB at *
      generalize cv = cB at *
      clear hBB

      obtain ⟨P, hP⟩ : ∃ P, parseR B = P := ⟨_, rfl⟩
      obtain ⟨pe, hpe⟩ : ∃ pe, parseE B = pe := ⟨_, rfl⟩
      have HP := Lib.hid hP
      have Hpe := Lib.hid hpe
      clear hP hpe
      obtain ⟨q0, q1, q2, q3, _⟩ := cells4 HX1.out
      have hq1 := blk_lt HX1.out
      refine (copyB_any w1 (.slice aB B.length cB) B HB1.out (by omega)).mono ?_
      rintro e w2 ⟨a2, c2, rfl, hR2, hB2⟩
      have HR2 := Lib.hid hR2
      clear hR2
      have HX2 := Lib.hid ((hB2.block _ (blk_lt HX1.out)).trans HX1.out)
      have HB2 := Lib.hid (HB1.out.below hB2)
      have HBx2 := Lib.hid (HBx1.out.below hB2)
      have hBw2 := hBw1.trans (hB2.mono hBw1.size)
      clear hB2 q0 q1 q2 q3 hq1 HX1 HB1 HBx1
      obtain ⟨q0, q1, q2, q3, _⟩ := cells4 HX2.out
      go_wp2_with fail
      refine (bytes_at s t c (.slice ax bx.length cx) bx L er hs ht hc HBx2.out (by omega) Her.out HL.out).mono ?_
      rintro e w3 ⟨a3, c3, rfl, hR3, hB3⟩
      have HR3 := Lib.hid hR3
      clear hR3
      have HX3 := Lib.hid ((hB3.block _ (blk_lt HX2.out)).trans HX2.out)
      have HB3 := Lib.hid (HB2.out.below hB3)
      have HBx3 := Lib.hid (HBx2.out.below hB3)
      have HI3 := Lib.hid ((Rd.ofOwns HR2.out).below hB3)
      have hI := row_capB HR2.out
      have hBw3 := hBw2.trans (hB3.mono hBw2.size)
      clear hB3 q0 q1 q2 q3 HX2 HB2 HBx2 HR2
      obtain ⟨q0, q1, q2, q3, _⟩ := cells4 HX3.out
      go_wp2_with fail
      refine (bytes6_at s t c (.slice ax bx.length cx) bx L er hs ht hc HBx3.out (by omega) Her.out HL.out).mono ?_
      rintro e w4 ⟨a4, c4, rfl, hR4, hB4⟩
      have HR4 := Lib.hid (Rd.ofOwns hR4)
      clear hR4
      have HB4 := Lib.hid (HB3.out.below hB4)
      have HI4 := Lib.hid (HI3.out.below hB4)
      have HO4 := Lib.hid ((Rd.ofOwns HR3.out).below hB4)
      have hBw4 := hBw3.trans (hB4.mono hBw3.size)
      clear hB4 q0 q1 q2 q3 HX3 HB3 HBx3 HR3 HI3
      go_wp2_with fail
      refine (parse_by (.slice a2 B.length c2) B P pe HI4.out hI (by omega) Hpe.out HP.out).mono ?_
      rintro e w5 ⟨a5, c5, rfl, hR5, hB5⟩
      have hB5' : Below w4.heap.size w4 (w5.alloc (.cells #[.int .i64 P.serial, .int .i64 P.tick, .int .i64 P.commit, .slice a5 P.blob.length c5] 24)) := hB5.alloc hB5.size _
      have hU6 : (w5.alloc (.cells #[.int .i64 P.serial, .int .i64 P.tick, .int .i64 P.commit, .slice a5 P.blob.length c5] 24)).heap[w5.heap.size]? = some (.cells #[.int .i64 P.serial, .int .i64 P.tick, .int .i64 P.commit, .slice a5 P.blob.length c5] 24 (0, 0)) := alloc_at _ _
      have HR5 := Lib.hid ((Rd.ofOwns hR5).below ((Below.refl _ w5).alloc (Nat.le_refl _) (.cells #[.int .i64 P.serial, .int .i64 P.tick, .int .i64 P.commit, .slice a5 P.blob.length c5] 24)))
      clear hR5 hB5
      go_wp2_with fail
      generalize w5.alloc (.cells #[.int .i64 P.serial, .int .i64 P.tick, .int .i64 P.commit, .slice a5 P.blob.length c5] 24) = w6 at hB5' hU6 HR5 ⊢
      generalize w5.heap.size = ub at hU6 ⊢
      have HU6 := Lib.hid hU6
      have HB6 := Lib.hid (HB4.out.below hB5')
      have HI6 := Lib.hid (HI4.out.below hB5')
      have HO6 := Lib.hid (HO4.out.below hB5')
      have HR6 := Lib.hid (HR4.out.below hB5')
      have hBw6 := hBw4.trans (hB5'.mono hBw4.size)
      clear hB5' hU6 HB4 HI4 HO4 HR4
      refine (parse6_by (.slice aB B.length cB) B P pe HB6.out hBc (by omega) Hpe.out HP.out).mono ?_
      rintro e w7 ⟨a7, c7, rfl, hR7, hB7⟩
      have HU7 := Lib.hid ((hB7.block _ (blk_lt HU6.out)).trans HU6.out)
      have hul := blk_lt HU7.out
      have HB8 := Lib.hid (((HB6.out.below hB7)).below ((Below.refl _ w7).alloc (Nat.le_refl _) (.cells #[.int .i64 P.serial, .int .i64 P.tick, .int .i64 P.commit, .slice a7 P.blob.length c7] 24)))
      have HI8 := Lib.hid (((HI6.out.below hB7)).below ((Below.refl _ w7).alloc (Nat.le_refl _) (.cells #[.int .i64 P.serial, .int .i64 P.tick, .int .i64 P.commit, .slice a7 P.blob.length c7] 24)))
      have HO8 := Lib.hid (((HO6.out.below hB7)).below ((Below.refl _ w7).alloc (Nat.le_refl _) (.cells #[.int .i64 P.serial, .int .i64 P.tick, .int .i64 P.commit, .slice a7 P.blob.length c7] 24)))
      have HR8 := Lib.hid (((HR6.out.below hB7)).below ((Below.refl _ w7).alloc (Nat.le_refl _) (.cells #[.int .i64 P.serial, .int .i64 P.tick, .int .i64 P.commit, .slice a7 P.blob.length c7] 24)))
      have HP8 := Lib.hid ((HR5.out.below hB7).below ((Below.refl _ w7).alloc (Nat.le_refl _) (.cells #[.int .i64 P.serial, .int .i64 P.tick, .int .i64 P.commit, .slice a7 P.blob.length c7] 24)))
      have HQ8 := Lib.hid ((Rd.ofOwns hR7).below ((Below.refl _ w7).alloc (Nat.le_refl _) (.cells #[.int .i64 P.serial, .int .i64 P.tick, .int .i64 P.commit, .slice a7 P.blob.length c7] 24)))
      have hu8 := alloc_old HU7.out (.cells #[.int .i64 P.serial, .int .i64 P.tick, .int .i64 P.commit, .slice a7 P.blob.length c7] 24)
      have hv8 : (w7.alloc (.cells #[.int .i64 P.serial, .int .i64 P.tick, .int .i64 P.commit, .slice a7 P.blob.length c7] 24)).heap[w7.heap.size]? = some (.cells #[.int .i64 P.serial, .int .i64 P.tick, .int .i64 P.commit, .slice a7 P.blob.length c7] 24 (0, 0)) := alloc_at _ _
      have hBw8 : Below w.heap.size w (w7.alloc (.cells #[.int .i64 P.serial, .int .i64 P.tick, .int .i64 P.commit, .slice a7 P.blob.length c7] 24)) := (hBw6.trans (hB7.mono hBw6.size)).alloc (Nat.le_trans hBw6.size hB7.size) _
      clear hR7 hB7 HB6 HI6 HO6 HR6 HU6 HU7 HR5 hul
      go_wp2_with fail
      generalize w7.alloc (.cells #[.int .i64 P.serial, .int .i64 P.tick, .int .i64 P.commit, .slice a7 P.blob.length c7] 24) = w8 at HB8 HI8 HO8 HR8 HP8 HQ8 hu8 hv8 hBw8 ⊢
      generalize w7.heap.size = vb at hv8 ⊢
      obtain ⟨u0, u1, u2, u3, _⟩ := cells4 hu8
      obtain ⟨v0, v1, v2, v3, _⟩ := cells4 hv8
      clear hu8 hv8
      refine (sameB_any w8 (.slice a3 L.length c3) (.slice a4 L.length c4) L L HO8.out HR8.out).mono ?_
      rw [show decide (L = L) = true by simp]
      rintro e w9 ⟨rfl, rfl⟩
      go_wp2_with fail
      refine (sameR_any w8 P.serial P.tick P.commit P.serial P.tick P.commit (.slice a5 P.blob.length c5) (.slice a7 P.blob.length c7) P.blob P.blob HP8.out HQ8.out).mono ?_
      rw [sameR_self]
      rintro e w9 ⟨rfl, hB9⟩
      have HB9 := Lib.hid (HB8.out.below hB9)
      have HI9 := Lib.hid (HI8.out.below hB9)
      have hBw9 := hBw8.trans (hB9.mono hBw8.size)
      clear hB9
      go_wp2_with fail
      refine (sameB_any w9 (.slice a2 B.length c2) (.slice aB B.length cB) B B HI9.out HB9.out).mono ?_
      rw [show decide (B = B) = true by simp]
      rintro e w10 ⟨rfl, rfl⟩
      go_wp2_with fail
      refine (awake6_any w9).mono ?_
      rintro e w11 ⟨rfl, hB11⟩
      go_wp2
      go_ret
      exact ⟨rfl, hBw9.trans (hB11.mono hBw9.size)⟩
    | true =>
      go_enter Tryz.func3, Tryz.ntmps3
      go_wp2_with fail
      rw [HW.out]
      obtain ⟨B, hB0⟩ : ∃ B, sealL sumL b = B := ⟨_, rfl⟩
      have hBl : B.length ≤ 2000 := by rw [← hB0]; unfold sealL; rw [List.length_append, sumL_len]; omega
      refine (x1Seal_any W (.slice av b.length cv) b (HBb.out.below hBW) (by omega)).mono ?_
      rw [hB0]
      rintro e w1 ⟨aB, cB, rfl, hR1, hB1⟩
      have HX1 := Lib.hid ((hB1.block _ (blk_lt HWx.out)).trans HWx.out)
      have HB1 := Lib.hid (Rd.ofOwns hR1)
      have HBx1 := Lib.hid ((HBx.out.below hBW).below hB1)
      have hBc := row_capB hR1
      have hBw1 := hBW.trans (hB1.mono hBW.size)
      clear HW HWx hBW HBb HBx Hcb hR1 hB1 hB0
      go_wp2_with fail

      obtain ⟨P, hP⟩ : ∃ P, parseR B = P := ⟨_, rfl⟩
      obtain ⟨pe, hpe⟩ : ∃ pe, parseE B = pe := ⟨_, rfl⟩
      have HP := Lib.hid hP
      have Hpe := Lib.hid hpe
      clear hP hpe
      obtain ⟨q0, q1, q2, q3, _⟩ := cells4 HX1.out
      have hq1 := blk_lt HX1.out
      refine (copyB_any w1 (.slice aB B.length cB) B HB1.out (by omega)).mono ?_
      rintro e w2 ⟨a2, c2, rfl, hR2, hB2⟩
      have HR2 := Lib.hid hR2
      clear hR2
      have HX2 := Lib.hid ((hB2.block _ (blk_lt HX1.out)).trans HX1.out)
      have HB2 := Lib.hid (HB1.out.below hB2)
      have HBx2 := Lib.hid (HBx1.out.below hB2)
      have hBw2 := hBw1.trans (hB2.mono hBw1.size)
      clear hB2 q0 q1 q2 q3 hq1 HX1 HB1 HBx1
      obtain ⟨q0, q1, q2, q3, _⟩ := cells4 HX2.out
      go_wp2_with fail
      refine (bytes_at s t c (.slice ax bx.length cx) bx L er hs ht hc HBx2.out (by omega) Her.out HL.out).mono ?_
      rintro e w3 ⟨a3, c3, rfl, hR3, hB3⟩
      have HR3 := Lib.hid hR3
      clear hR3
      have HX3 := Lib.hid ((hB3.block _ (blk_lt HX2.out)).trans HX2.out)
      have HB3 := Lib.hid (HB2.out.below hB3)
      have HBx3 := Lib.hid (HBx2.out.below hB3)
      have HI3 := Lib.hid ((Rd.ofOwns HR2.out).below hB3)
      have hI := row_capB HR2.out
      have hBw3 := hBw2.trans (hB3.mono hBw2.size)
      clear hB3 q0 q1 q2 q3 HX2 HB2 HBx2 HR2
      obtain ⟨q0, q1, q2, q3, _⟩ := cells4 HX3.out
      go_wp2_with fail
      refine (bytes6_at s t c (.slice ax bx.length cx) bx L er hs ht hc HBx3.out (by omega) Her.out HL.out).mono ?_
      rintro e w4 ⟨a4, c4, rfl, hR4, hB4⟩
      have HR4 := Lib.hid (Rd.ofOwns hR4)
      clear hR4
      have HB4 := Lib.hid (HB3.out.below hB4)
      have HI4 := Lib.hid (HI3.out.below hB4)
      have HO4 := Lib.hid ((Rd.ofOwns HR3.out).below hB4)
      have hBw4 := hBw3.trans (hB4.mono hBw3.size)
      clear hB4 q0 q1 q2 q3 HX3 HB3 HBx3 HR3 HI3
      go_wp2_with fail
      refine (parse_by (.slice a2 B.length c2) B P pe HI4.out hI (by omega) Hpe.out HP.out).mono ?_
      rintro e w5 ⟨a5, c5, rfl, hR5, hB5⟩
      have hB5' : Below w4.heap.size w4 (w5.alloc (.cells #[.int .i64 P.serial, .int .i64 P.tick, .int .i64 P.commit, .slice a5 P.blob.length c5] 24)) := hB5.alloc hB5.size _
      have hU6 : (w5.alloc (.cells #[.int .i64 P.serial, .int .i64 P.tick, .int .i64 P.commit, .slice a5 P.blob.length c5] 24)).heap[w5.heap.size]? = some (.cells #[.int .i64 P.serial, .int .i64 P.tick, .int .i64 P.commit, .slice a5 P.blob.length c5] 24 (0, 0)) := alloc_at _ _
      have HR5 := Lib.hid ((Rd.ofOwns hR5).below ((Below.refl _ w5).alloc (Nat.le_refl _) (.cells #[.int .i64 P.serial, .int .i64 P.tick, .int .i64 P.commit, .slice a5 P.blob.length c5] 24)))
      clear hR5 hB5
      go_wp2_with fail
      generalize w5.alloc (.cells #[.int .i64 P.serial, .int .i64 P.tick, .int .i64 P.commit, .slice a5 P.blob.length c5] 24) = w6 at hB5' hU6 HR5 ⊢
      generalize w5.heap.size = ub at hU6 ⊢
      have HU6 := Lib.hid hU6
      have HB6 := Lib.hid (HB4.out.below hB5')
      have HI6 := Lib.hid (HI4.out.below hB5')
      have HO6 := Lib.hid (HO4.out.below hB5')
      have HR6 := Lib.hid (HR4.out.below hB5')
      have hBw6 := hBw4.trans (hB5'.mono hBw4.size)
      clear hB5' hU6 HB4 HI4 HO4 HR4
      refine (parse6_by (.slice aB B.length cB) B P pe HB6.out hBc (by omega) Hpe.out HP.out).mono ?_
      rintro e w7 ⟨a7, c7, rfl, hR7, hB7⟩
      have HU7 := Lib.hid ((hB7.block _ (blk_lt HU6.out)).trans HU6.out)
      have hul := blk_lt HU7.out
      have HB8 := Lib.hid (((HB6.out.below hB7)).below ((Below.refl _ w7).alloc (Nat.le_refl _) (.cells #[.int .i64 P.serial, .int .i64 P.tick, .int .i64 P.commit, .slice a7 P.blob.length c7] 24)))
      have HI8 := Lib.hid (((HI6.out.below hB7)).below ((Below.refl _ w7).alloc (Nat.le_refl _) (.cells #[.int .i64 P.serial, .int .i64 P.tick, .int .i64 P.commit, .slice a7 P.blob.length c7] 24)))
      have HO8 := Lib.hid (((HO6.out.below hB7)).below ((Below.refl _ w7).alloc (Nat.le_refl _) (.cells #[.int .i64 P.serial, .int .i64 P.tick, .int .i64 P.commit, .slice a7 P.blob.length c7] 24)))
      have HR8 := Lib.hid (((HR6.out.below hB7)).below ((Below.refl _ w7).alloc (Nat.le_refl _) (.cells #[.int .i64 P.serial, .int .i64 P.tick, .int .i64 P.commit, .slice a7 P.blob.length c7] 24)))
      have HP8 := Lib.hid ((HR5.out.below hB7).below ((Below.refl _ w7).alloc (Nat.le_refl _) (.cells #[.int .i64 P.serial, .int .i64 P.tick, .int .i64 P.commit, .slice a7 P.blob.length c7] 24)))
      have HQ8 := Lib.hid ((Rd.ofOwns hR7).below ((Below.refl _ w7).alloc (Nat.le_refl _) (.cells #[.int .i64 P.serial, .int .i64 P.tick, .int .i64 P.commit, .slice a7 P.blob.length c7] 24)))
      have hu8 := alloc_old HU7.out (.cells #[.int .i64 P.serial, .int .i64 P.tick, .int .i64 P.commit, .slice a7 P.blob.length c7] 24)
      have hv8 : (w7.alloc (.cells #[.int .i64 P.serial, .int .i64 P.tick, .int .i64 P.commit, .slice a7 P.blob.length c7] 24)).heap[w7.heap.size]? = some (.cells #[.int .i64 P.serial, .int .i64 P.tick, .int .i64 P.commit, .slice a7 P.blob.length c7] 24 (0, 0)) := alloc_at _ _
      have hBw8 : Below w.heap.size w (w7.alloc (.cells #[.int .i64 P.serial, .int .i64 P.tick, .int .i64 P.commit, .slice a7 P.blob.length c7] 24)) := (hBw6.trans (hB7.mono hBw6.size)).alloc (Nat.le_trans hBw6.size hB7.size) _
      clear hR7 hB7 HB6 HI6 HO6 HR6 HU6 HU7 HR5 hul
      go_wp2_with fail
      generalize w7.alloc (.cells #[.int .i64 P.serial, .int .i64 P.tick, .int .i64 P.commit, .slice a7 P.blob.length c7] 24) = w8 at HB8 HI8 HO8 HR8 HP8 HQ8 hu8 hv8 hBw8 ⊢
      generalize w7.heap.size = vb at hv8 ⊢
      obtain ⟨u0, u1, u2, u3, _⟩ := cells4 hu8
      obtain ⟨v0, v1, v2, v3, _⟩ := cells4 hv8
      clear hu8 hv8
      refine (sameB_any w8 (.slice a3 L.length c3) (.slice a4 L.length c4) L L HO8.out HR8.out).mono ?_
      rw [show decide (L = L) = true by simp]
      rintro e w9 ⟨rfl, rfl⟩
      go_wp2_with fail
      refine (sameR_any w8 P.serial P.tick P.commit P.serial P.tick P.commit (.slice a5 P.blob.length c5) (.slice a7 P.blob.length c7) P.blob P.blob HP8.out HQ8.out).mono ?_
      rw [sameR_self]
      rintro e w9 ⟨rfl, hB9⟩
      have HB9 := Lib.hid (HB8.out.below hB9)
      have HI9 := Lib.hid (HI8.out.below hB9)
      have hBw9 := hBw8.trans (hB9.mono hBw8.size)
      clear hB9
      go_wp2_with fail
      refine (sameB_any w9 (.slice a2 B.length c2) (.slice aB B.length cB) B B HI9.out HB9.out).mono ?_
      rw [show decide (B = B) = true by simp]
      rintro e w10 ⟨rfl, rfl⟩
      go_wp2_with fail
      refine (awake6_any w9).mono ?_
      rintro e w11 ⟨rfl, hB11⟩
      go_wp2
      go_ret
      exact ⟨rfl, hBw9.trans (hB11.mono hBw9.size)⟩
  · go_enter Tryz.func3, Tryz.ntmps3
    by_cases g1 : bx.length ≤ 1000
    · have g2 : (1000 : Int) < (b.length : Int) := by omega
      have g1' : ¬ (1000 : Int) < (bx.length : Int) := by omega
      go_wp2_with (go_at_call 5; rw [HW.out]; refine (awake6_any W).mono ?_; rintro e w1 ⟨rfl, hB1⟩)
      go_ret
      exact ⟨rfl, hBW.trans (hB1.mono hBW.size)⟩
    · have g1' : (1000 : Int) < (bx.length : Int) := by omega
      go_wp2_with (go_at_call 5; rw [HW.out]; refine (awake6_any W).mono ?_; rintro e w1 ⟨rfl, hB1⟩)
      go_ret
      exact ⟨rfl, hBW.trans (hB1.mono hBW.size)⟩
end Go.Proofs.YtnagejhpdhdpfaaGreatDoor
