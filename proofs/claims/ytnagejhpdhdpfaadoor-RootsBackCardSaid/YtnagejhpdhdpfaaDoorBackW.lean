/-
  RootsBack: the plain law and the walk (printed by wip/gen/gen_back.py).
-/
import Derived.Outline
import Derived.Test.YtnagejhpdhdpfaaDoorRtW
import Derived.Test.YtnagejhpdhdpfaaDoorOpn6
namespace Go.Proofs.YtnagejhpdhdpfaaDoor
open Go.RowKit Go.Maps Go.MapKept

theorem aroot_of {r : ARoot} : aroot (r.serial : Int) (r.tick : Int) (r.commit : Int) r.blob = r := by cases r; simp [aroot]
theorem rb_of_ok {r : ARoot} (h : r.Ok) : rbErr (r.serial : Int) (r.tick : Int) (r.commit : Int) r.blob.length = 0 := by
  obtain ⟨h0, h1, h2, h3, h4⟩ := h
  unfold rbErr; rw [if_neg (by omega), if_neg (by omega)]
theorem out_of_ok {r : ARoot} (h : r.Ok) : rbOut (r.serial : Int) (r.tick : Int) (r.commit : Int) r.blob = sealL sumL r.bytes := by
  unfold rbOut; rw [if_pos (rb_of_ok h), aroot_of]
theorem parse_full {l : List UInt8} (h : parseE l = 0) : l = sealL sumL (parseR l).bytes := by
  obtain ⟨er, b, hun⟩ : ∃ er b, unsealL sumL l = (er, b) := ⟨_, _, rfl⟩
  have hq := parse_un hun
  have h0 := h
  unfold parseE at h
  by_cases he : er = 0
  · rw [if_pos he] at hq
    cases hr : pRoot b with
    | none => rw [hr] at hq; rw [hq] at h; exact absurd h (by decide)
    | some r =>
      rw [hr] at hq
      have hp : parseR l = r := by unfold parseR; rw [hq]; rfl
      rw [hp]
      exact (parse_ok hq).2.2
  · rw [if_neg he] at hq
    rw [hq] at h
    exact absurd h he
theorem back1 {l : List UInt8} (h : parseE l = 0) : rbErr ((parseR l).serial : Int) ((parseR l).tick : Int) ((parseR l).commit : Int) (parseR l).blob.length = 0 ∧ rbOut ((parseR l).serial : Int) ((parseR l).tick : Int) ((parseR l).commit : Int) (parseR l).blob = l :=
  ⟨rb_of_ok (parse_good l h), (out_of_ok (parse_good l h)).trans (parse_full h).symm⟩
theorem rb_nums {s t c : Int} {n : Nat} (h : rbErr s t c n = 0) : 1 ≤ s ∧ 0 ≤ t ∧ 0 ≤ c := by
  unfold rbErr at h
  split at h
  · cases h
  · omega
theorem back3 {s t c : Int} {b : List UInt8} (h : rbErr s t c b.length = 0) : parseE (rbOut s t c b) = 0 ∧ parseR (rbOut s t c b) = aroot s t c b := by
  have : rbOut s t c b = sealL sumL (aroot s t c b).bytes := by unfold rbOut; rw [if_pos h]
  rw [this]
  exact parse_root (rb_ok h)
theorem back4 {s t c : Int} {b : List UInt8} (h : rbErr s t c b.length = 0) : sameR (aroot s t c b).serial (aroot s t c b).tick (aroot s t c b).commit (aroot s t c b).blob s t c b = true := by
  obtain ⟨h1, h2, h3⟩ := rb_nums h
  unfold sameR aroot
  simp only
  rw [Int.toNat_of_nonneg (by omega), Int.toNat_of_nonneg h2, Int.toNat_of_nonneg h3]
  simp
theorem back2 {s t c s' t' c' : Int} {b b' : List UInt8} (h : rbErr s t c b.length = 0) (h' : rbErr s' t' c' b'.length = 0) : sameR s t c b s' t' c' b' = decide (rbOut s t c b = rbOut s' t' c' b') := by
  obtain ⟨h1, h2, h3⟩ := rb_nums h
  obtain ⟨h1', h2', h3'⟩ := rb_nums h'
  rw [Bool.eq_iff_iff]
  unfold sameR
  simp only [Bool.and_eq_true, decide_eq_true_eq]
  constructor
  · rintro ⟨⟨⟨rfl, rfl⟩, rfl⟩, rfl⟩; rfl
  · intro e
    have e1 := (back3 h).2
    rw [e, (back3 h').2] at e1
    unfold aroot at e1
    simp only [ARoot.mk.injEq] at e1
    obtain ⟨x1, x2, x3, x4⟩ := e1
    exact ⟨⟨⟨by omega, by omega⟩, by omega⟩, x4.symm⟩

set_option maxRecDepth 100000 in
set_option maxHeartbeats 16000000 in
theorem back_law (w : World) (x : XRoot) (hx : RootOk w x) (y : XRoot) (hy : RootOk w y) {v : Value} (b : List UInt8) (rb : Rd w v (bcells b)) (lb : b.length ≤ maxLen) (cb : CapOk v) :
    Calls Tryd.prog 3 #[x.val, y.val, v] w fun e w' => e = .returned (.bool true) ∧ Below w.heap.size w w' := by
  obtain ⟨s, t, c, vx, bx⟩ := x
  obtain ⟨s', t', c', vy, by'⟩ := y
  obtain ⟨hs, ht, hc, hrx, hlx⟩ := hx
  obtain ⟨hs', ht', hc', hry, hly⟩ := hy
  simp only at hs ht hc hrx hlx hs' ht' hc' hry hly
  unfold XRoot.val
  simp only
  obtain ⟨ax, cx, rfl⟩ := hrx.shape
  obtain ⟨ay, cy, rfl⟩ := hry.shape
  obtain ⟨av, cv, rfl⟩ := rb.shape
  rw [bcells_length] at hrx hry rb cb ⊢
  rw [bcells_length]
  rw [bcells_length]
  simp only [maxLen] at hlx hly lb
  obtain ⟨W, hW⟩ : ∃ W, (w.alloc (.cells #[.int .i64 s, .int .i64 t, .int .i64 c, .slice ax bx.length cx] 24)).alloc (.cells #[.int .i64 s', .int .i64 t', .int .i64 c', .slice ay by'.length cy] 24) = W := ⟨_, rfl⟩
  have hBW : Below w.heap.size w W := by rw [← hW]; exact ((Below.refl _ _).alloc (Nat.le_refl _) _).alloc (by simp) _
  have hWx : W.heap[w.heap.size]? = some (.cells #[.int .i64 s, .int .i64 t, .int .i64 c, .slice ax bx.length cx] 24 (0, 0)) := by rw [← hW]; exact alloc2_at0 _ _ _
  have hWy : W.heap[w.heap.size + 1]? = some (.cells #[.int .i64 s', .int .i64 t', .int .i64 c', .slice ay by'.length cy] 24 (0, 0)) := by rw [← hW]; exact alloc2_at _ _ _
  have HW := Lib.hid hW
  have HWx := Lib.hid hWx
  have HWy := Lib.hid hWy
  have hAw := fun w' => awake6_any w'
  have HAw := Lib.hid hAw
  have HBx := Lib.hid hrx
  have HBy := Lib.hid hry
  have HBb := Lib.hid rb
  have Hcb := Lib.hid cb
  clear hW hWx hWy hAw hrx hry rb cb
  by_cases hg : bx.length ≤ 500 ∧ by'.length ≤ 500 ∧ b.length ≤ 1000
  · obtain ⟨g1, g2, g3⟩ := hg
    have g1' : ¬ (500 : Int) < (bx.length : Int) := by omega
    have g2' : ¬ (500 : Int) < (by'.length : Int) := by omega
    have g3' : ¬ (1000 : Int) < (b.length : Int) := by omega
    obtain ⟨P, hP⟩ : ∃ P, parseR b = P := ⟨_, rfl⟩
    obtain ⟨pe, hpe⟩ : ∃ pe, parseE b = pe := ⟨_, rfl⟩
    obtain ⟨er, her⟩ : ∃ er, rbErr s t c bx.length = er := ⟨_, rfl⟩
    obtain ⟨L, hL⟩ : ∃ L, rbOut s t c bx = L := ⟨_, rfl⟩
    obtain ⟨er', her'⟩ : ∃ er', rbErr s' t' c' by'.length = er' := ⟨_, rfl⟩
    obtain ⟨L', hL'⟩ : ∃ L', rbOut s' t' c' by' = L' := ⟨_, rfl⟩
    have hPl := parse_le b
    rw [hP] at hPl
    obtain ⟨l1, l2, l3, l4⟩ := hPl
    have hk1 : pe = 0 → rbErr (P.serial : Int) (P.tick : Int) (P.commit : Int) P.blob.length = 0 ∧ rbOut (P.serial : Int) (P.tick : Int) (P.commit : Int) P.blob = b := fun h => by
      have := back1 (hpe.trans h)
      rw [hP] at this
      exact this
    have hk2 : er = 0 → er' = 0 → sameR s t c bx s' t' c' by' = decide (L = L') := fun h h' => by rw [← hL, ← hL']; exact back2 (her.trans h) (her'.trans h')
    have hk3 : er = 0 → parseE L = 0 ∧ parseR L = aroot s t c bx := fun h => by rw [← hL]; exact back3 (her.trans h)
    have hk4 : er = 0 → sameR (aroot s t c bx).serial (aroot s t c bx).tick (aroot s t c bx).commit (aroot s t c bx).blob s t c bx = true := fun h => back4 (her.trans h)
    have hk5 : er ≠ 0 → er = 2 ∧ L = [] := fun h => by
      constructor
      · have := her
        unfold rbErr at this
        split at this
        · exact this.symm
        · rw [if_neg (by omega)] at this
          exact absurd this.symm h
      · rw [← hL]; unfold rbOut; rw [if_neg (by rw [her]; exact h)]
    have hLl : L.length ≤ 1000 := by
      rw [← hL]; unfold rbOut; split
      · rename_i h0; have := root_len48 (rb_ok h0); simp only [aroot] at this ⊢; omega
      · simp
    have hLl' : L'.length ≤ 1000 := by
      rw [← hL']; unfold rbOut; split
      · rename_i h0; have := root_len48 (rb_ok h0); simp only [aroot] at this ⊢; omega
      · simp
    have HP := Lib.hid hP
    have Hpe := Lib.hid hpe
    have Her := Lib.hid her
    have HL := Lib.hid hL
    have Her' := Lib.hid her'
    have HL' := Lib.hid hL'
    have K1 := Lib.hid hk1
    have K2 := Lib.hid hk2
    have K3 := Lib.hid hk3
    have K4 := Lib.hid hk4
    have K5 := Lib.hid hk5
    clear hP hpe her hL her' hL' hk1 hk2 hk3 hk4 hk5
    by_cases hp0 : pe = 0
    · subst hp0
      have J1 := Lib.hid (K1.out rfl)
      clear K1
      by_cases he : er = 0
      · subst he
        have J2 := Lib.hid (K2.out rfl)
        have J3 := Lib.hid (K3.out rfl)
        have J4 := Lib.hid (K4.out rfl)
        clear K2 K3 K4
        by_cases hf : er' = 0
        · subst hf
          have J5 := Lib.hid (J2.out rfl)
          clear J2
          go_enter Tryd.func3, Tryd.ntmps3
          go_wp2_with fail
          rw [HW.out]
          refine (parse_by _ b P _ (HBb.out.below hBW) Hcb.out (by omega) Hpe.out HP.out).mono ?_
          rintro e w1 ⟨a1, c1, rfl, hR1, hB1⟩
          have HR1 := Lib.hid hR1
          clear hR1
          have hBw1 : Below w.heap.size w w1 := hBW.trans (hB1.mono hBW.size)
          have hx1 := (hB1.block _ (blk_lt HWx.out)).trans HWx.out
          have hy1 := (hB1.block _ (blk_lt HWy.out)).trans HWy.out
          go_wp2_with fail
          refine (bytes_at P.serial P.tick P.commit (.slice a1 P.blob.length c1) P.blob b 0 (by unfold isI64; omega) (by unfold isI64; omega) (by unfold isI64; omega) ((Rd.ofOwns HR1.out).below ((Below.refl _ _).alloc (Nat.le_refl _) _)) (by omega) J1.out.1 J1.out.2).mono ?_
          rintro e w2 ⟨a2, c2, rfl, hR2, hB2⟩
          have HR2 := Lib.hid hR2
          clear hR2
          have hB12 : Below w1.heap.size w1 w2 := ((Below.refl _ _).alloc (Nat.le_refl _) _).trans (hB2.mono (by simp))
          have hBw2 : Below w.heap.size w w2 := hBw1.trans (hB12.mono hBw1.size)
          have hx2 := (hB12.block _ (blk_lt hx1)).trans hx1
          have hy2 := (hB12.block _ (blk_lt hy1)).trans hy1
          clear hB1 hB2 hB12 hx1 hy1
          go_wp2_with fail
          refine (sameB_any w2 _ _ b b (Rd.ofOwns HR2.out) (HBb.out.below hBw2)).mono ?_
          rw [show decide (b = b) = true by simp]
          rintro e w2' ⟨rfl, rfl⟩
          obtain ⟨q0, q1, q2, q3, _⟩ := rootC_at hx2
          obtain ⟨z0, z1, z2, z3, _⟩ := rootC_at hy2
          have hlt := blk_lt hx2
          have hlt1 := blk_lt hy2
          have Hx2 := Lib.hid hx2
          have Hy2 := Lib.hid hy2
          clear hx2 hy2
          go_wp2_with fail
          refine (bytes_at s t c _ bx L _ hs ht hc (HBx.out.below hBw2) (by omega) Her.out HL.out).mono ?_
          rintro e w3 ⟨a3, c3, rfl, hR3, hB3⟩
          have HR3 := Lib.hid hR3
          clear hR3
          have hBw3 : Below w.heap.size w w3 := hBw2.trans (hB3.mono hBw2.size)
          have Hx3 := Lib.hid ((hB3.block _ (blk_lt Hx2.out)).trans Hx2.out)
          have Hy3 := Lib.hid ((hB3.block _ (blk_lt Hy2.out)).trans Hy2.out)
          obtain ⟨q0, q1, q2, q3, _⟩ := rootC_at Hx3.out
          obtain ⟨z0, z1, z2, z3, _⟩ := rootC_at Hy3.out
          go_wp2_with fail
          refine (bytes_at s' t' c' _ by' L' _ hs' ht' hc' (HBy.out.below hBw3) (by omega) Her'.out HL'.out).mono ?_
          rintro e w4 ⟨a4, c4, rfl, hR4, hB4⟩
          have HR4 := Lib.hid hR4
          clear hR4
          have hBw4 : Below w.heap.size w w4 := hBw3.trans (hB4.mono hBw3.size)
          have Hx4 := Lib.hid ((hB4.block _ (blk_lt Hx3.out)).trans Hx3.out)
          have Hy4 := Lib.hid ((hB4.block _ (blk_lt Hy3.out)).trans Hy3.out)
          have HR34 := Lib.hid ((Upd.ofBelow (fp := noFp) hB4).row HR3.out (fun _ _ h => h))
          obtain ⟨q0, q1, q2, q3, _⟩ := rootC_at Hx4.out
          obtain ⟨z0, z1, z2, z3, _⟩ := rootC_at Hy4.out
          go_wp2_with fail
          refine (sameR_any w4 s t c s' t' c' _ _ bx by' (HBx.out.below hBw4) (HBy.out.below hBw4)).mono ?_
          rw [J5.out]
          rintro e w5 ⟨rfl, hB5⟩
          obtain ⟨bb, hbb⟩ : ∃ bb, decide (L = L') = bb := ⟨_, rfl⟩
          rw [hbb]
          have Hbb := Lib.hid hbb
          clear hbb
          have hBw5 : Below w.heap.size w w5 := hBw4.trans (hB5.mono hBw4.size)
          have Hx5 := Lib.hid ((hB5.block _ (blk_lt Hx4.out)).trans Hx4.out)
          have HR35 := Lib.hid ((Upd.ofBelow (fp := noFp) hB5).row HR34.out (fun _ _ h => h))
          have HR45 := Lib.hid ((Upd.ofBelow (fp := noFp) hB5).row HR4.out (fun _ _ h => h))
          obtain ⟨q0, q1, q2, q3, _⟩ := rootC_at Hx5.out
          go_wp2_with fail
          refine (sameB_any w5 _ _ L L' (Rd.ofOwns HR35.out) (Rd.ofOwns HR45.out)).mono ?_
          rw [Hbb.out]
          rintro e w5' ⟨rfl, rfl⟩
          have hbb2 : (bb != bb) = false := by simp
          go_wp2_with fail
          refine (parse_by _ L (aroot s t c bx) 0 (Rd.ofOwns HR35.out) (row_cap HR35.out) (by omega) J3.out.1 J3.out.2).mono ?_
          rintro e w6 ⟨a6, c6, rfl, hR6, hB6⟩
          have HR6 := Lib.hid hR6
          clear hR6
          have hBw6 : Below w.heap.size w w6 := hBw5.trans (hB6.mono hBw5.size)
          have Hx6 := Lib.hid ((hB6.block _ (blk_lt Hx5.out)).trans Hx5.out)
          obtain ⟨q0, q1, q2, q3, _⟩ := rootC_at Hx6.out
          have hlt6 := blk_lt Hx6.out
          obtain ⟨Q, hQ⟩ : ∃ Q, aroot s t c bx = Q := ⟨_, rfl⟩
          have hk4 := J4.out
          rw [hQ] at hk4 HR6 ⊢
          have HK4 := Lib.hid hk4
          clear hk4 hQ
          go_wp2_with fail
          refine (sameR_any _ Q.serial Q.tick Q.commit s t c _ _ Q.blob bx ((Rd.ofOwns HR6.out).below ((Below.refl _ _).alloc (Nat.le_refl _) _)) ((HBx.out.below hBw6).below ((Below.refl _ _).alloc (Nat.le_refl _) _))).mono ?_
          rw [HK4.out]
          rintro e w7 ⟨rfl, hB7⟩
          have hBw7 : Below w.heap.size w w7 := (hBw6.alloc hBw6.size _).trans (hB7.mono (by simp; have := hBw6.size; omega))
          go_wp2_with fail
          refine (HAw.out w7).mono ?_
          rintro e w8 ⟨rfl, hB8⟩
          go_wp2
          go_ret
          exact ⟨rfl, hBw7.trans (hB8.mono hBw7.size)⟩
        · have hfb : (er' == 0) = false := by simpa using hf
          clear hf
          go_enter Tryd.func3, Tryd.ntmps3
          go_wp2_with fail
          rw [HW.out]
          refine (parse_by _ b P _ (HBb.out.below hBW) Hcb.out (by omega) Hpe.out HP.out).mono ?_
          rintro e w1 ⟨a1, c1, rfl, hR1, hB1⟩
          have HR1 := Lib.hid hR1
          clear hR1
          have hBw1 : Below w.heap.size w w1 := hBW.trans (hB1.mono hBW.size)
          have hx1 := (hB1.block _ (blk_lt HWx.out)).trans HWx.out
          have hy1 := (hB1.block _ (blk_lt HWy.out)).trans HWy.out
          go_wp2_with fail
          refine (bytes_at P.serial P.tick P.commit (.slice a1 P.blob.length c1) P.blob b 0 (by unfold isI64; omega) (by unfold isI64; omega) (by unfold isI64; omega) ((Rd.ofOwns HR1.out).below ((Below.refl _ _).alloc (Nat.le_refl _) _)) (by omega) J1.out.1 J1.out.2).mono ?_
          rintro e w2 ⟨a2, c2, rfl, hR2, hB2⟩
          have HR2 := Lib.hid hR2
          clear hR2
          have hB12 : Below w1.heap.size w1 w2 := ((Below.refl _ _).alloc (Nat.le_refl _) _).trans (hB2.mono (by simp))
          have hBw2 : Below w.heap.size w w2 := hBw1.trans (hB12.mono hBw1.size)
          have hx2 := (hB12.block _ (blk_lt hx1)).trans hx1
          have hy2 := (hB12.block _ (blk_lt hy1)).trans hy1
          clear hB1 hB2 hB12 hx1 hy1
          go_wp2_with fail
          refine (sameB_any w2 _ _ b b (Rd.ofOwns HR2.out) (HBb.out.below hBw2)).mono ?_
          rw [show decide (b = b) = true by simp]
          rintro e w2' ⟨rfl, rfl⟩
          obtain ⟨q0, q1, q2, q3, _⟩ := rootC_at hx2
          obtain ⟨z0, z1, z2, z3, _⟩ := rootC_at hy2
          have hlt := blk_lt hx2
          have hlt1 := blk_lt hy2
          have Hx2 := Lib.hid hx2
          have Hy2 := Lib.hid hy2
          clear hx2 hy2
          go_wp2_with fail
          refine (bytes_at s t c _ bx L _ hs ht hc (HBx.out.below hBw2) (by omega) Her.out HL.out).mono ?_
          rintro e w3 ⟨a3, c3, rfl, hR3, hB3⟩
          have HR3 := Lib.hid hR3
          clear hR3
          have hBw3 : Below w.heap.size w w3 := hBw2.trans (hB3.mono hBw2.size)
          have Hx3 := Lib.hid ((hB3.block _ (blk_lt Hx2.out)).trans Hx2.out)
          have Hy3 := Lib.hid ((hB3.block _ (blk_lt Hy2.out)).trans Hy2.out)
          obtain ⟨q0, q1, q2, q3, _⟩ := rootC_at Hx3.out
          obtain ⟨z0, z1, z2, z3, _⟩ := rootC_at Hy3.out
          go_wp2_with fail
          refine (bytes_at s' t' c' _ by' L' _ hs' ht' hc' (HBy.out.below hBw3) (by omega) Her'.out HL'.out).mono ?_
          rintro e w4 ⟨a4, c4, rfl, hR4, hB4⟩
          have HR4 := Lib.hid hR4
          clear hR4
          have hBw4 : Below w.heap.size w w4 := hBw3.trans (hB4.mono hBw3.size)
          have Hx4 := Lib.hid ((hB4.block _ (blk_lt Hx3.out)).trans Hx3.out)
          have Hy4 := Lib.hid ((hB4.block _ (blk_lt Hy3.out)).trans Hy3.out)
          have HR34 := Lib.hid ((Upd.ofBelow (fp := noFp) hB4).row HR3.out (fun _ _ h => h))
          obtain ⟨q0, q1, q2, q3, _⟩ := rootC_at Hx4.out
          obtain ⟨z0, z1, z2, z3, _⟩ := rootC_at Hy4.out
          go_wp2_with fail
          refine (parse_by _ L (aroot s t c bx) 0 (Rd.ofOwns HR34.out) (row_cap HR34.out) (by omega) J3.out.1 J3.out.2).mono ?_
          rintro e w6 ⟨a6, c6, rfl, hR6, hB6⟩
          have HR6 := Lib.hid hR6
          clear hR6
          have hBw6 : Below w.heap.size w w6 := hBw4.trans (hB6.mono hBw4.size)
          have Hx6 := Lib.hid ((hB6.block _ (blk_lt Hx4.out)).trans Hx4.out)
          obtain ⟨q0, q1, q2, q3, _⟩ := rootC_at Hx6.out
          have hlt6 := blk_lt Hx6.out
          obtain ⟨Q, hQ⟩ : ∃ Q, aroot s t c bx = Q := ⟨_, rfl⟩
          have hk4 := J4.out
          rw [hQ] at hk4 HR6 ⊢
          have HK4 := Lib.hid hk4
          clear hk4 hQ
          go_wp2_with fail
          refine (sameR_any _ Q.serial Q.tick Q.commit s t c _ _ Q.blob bx ((Rd.ofOwns HR6.out).below ((Below.refl _ _).alloc (Nat.le_refl _) _)) ((HBx.out.below hBw6).below ((Below.refl _ _).alloc (Nat.le_refl _) _))).mono ?_
          rw [HK4.out]
          rintro e w7 ⟨rfl, hB7⟩
          have hBw7 : Below w.heap.size w w7 := (hBw6.alloc hBw6.size _).trans (hB7.mono (by simp; have := hBw6.size; omega))
          go_wp2_with fail
          refine (HAw.out w7).mono ?_
          rintro e w8 ⟨rfl, hB8⟩
          go_wp2
          go_ret
          exact ⟨rfl, hBw7.trans (hB8.mono hBw7.size)⟩
      · have heb : (er == 0) = false := by simpa using he
        have heb2 : (er != 0) = true := by simpa using he
        have He0 := Lib.hid he
        clear he
        have hk := K5.out He0.out
        obtain ⟨rfl, hL0⟩ := hk
        have hl0 : L.length = 0 := by rw [hL0]; rfl
        clear hL0
        go_enter Tryd.func3, Tryd.ntmps3
        go_wp2_with fail
        rw [HW.out]
        refine (parse_by _ b P _ (HBb.out.below hBW) Hcb.out (by omega) Hpe.out HP.out).mono ?_
        rintro e w1 ⟨a1, c1, rfl, hR1, hB1⟩
        have HR1 := Lib.hid hR1
        clear hR1
        have hBw1 : Below w.heap.size w w1 := hBW.trans (hB1.mono hBW.size)
        have hx1 := (hB1.block _ (blk_lt HWx.out)).trans HWx.out
        have hy1 := (hB1.block _ (blk_lt HWy.out)).trans HWy.out
        go_wp2_with fail
        refine (bytes_at P.serial P.tick P.commit (.slice a1 P.blob.length c1) P.blob b 0 (by unfold isI64; omega) (by unfold isI64; omega) (by unfold isI64; omega) ((Rd.ofOwns HR1.out).below ((Below.refl _ _).alloc (Nat.le_refl _) _)) (by omega) J1.out.1 J1.out.2).mono ?_
        rintro e w2 ⟨a2, c2, rfl, hR2, hB2⟩
        have HR2 := Lib.hid hR2
        clear hR2
        have hB12 : Below w1.heap.size w1 w2 := ((Below.refl _ _).alloc (Nat.le_refl _) _).trans (hB2.mono (by simp))
        have hBw2 : Below w.heap.size w w2 := hBw1.trans (hB12.mono hBw1.size)
        have hx2 := (hB12.block _ (blk_lt hx1)).trans hx1
        have hy2 := (hB12.block _ (blk_lt hy1)).trans hy1
        clear hB1 hB2 hB12 hx1 hy1
        go_wp2_with fail
        refine (sameB_any w2 _ _ b b (Rd.ofOwns HR2.out) (HBb.out.below hBw2)).mono ?_
        rw [show decide (b = b) = true by simp]
        rintro e w2' ⟨rfl, rfl⟩
        obtain ⟨q0, q1, q2, q3, _⟩ := rootC_at hx2
        obtain ⟨z0, z1, z2, z3, _⟩ := rootC_at hy2
        have hlt := blk_lt hx2
        have hlt1 := blk_lt hy2
        have Hx2 := Lib.hid hx2
        have Hy2 := Lib.hid hy2
        clear hx2 hy2
        go_wp2_with fail
        refine (bytes_at s t c _ bx L _ hs ht hc (HBx.out.below hBw2) (by omega) Her.out HL.out).mono ?_
        rintro e w3 ⟨a3, c3, rfl, hR3, hB3⟩
        have HR3 := Lib.hid hR3
        clear hR3
        have hBw3 : Below w.heap.size w w3 := hBw2.trans (hB3.mono hBw2.size)
        have Hx3 := Lib.hid ((hB3.block _ (blk_lt Hx2.out)).trans Hx2.out)
        have Hy3 := Lib.hid ((hB3.block _ (blk_lt Hy2.out)).trans Hy2.out)
        obtain ⟨q0, q1, q2, q3, _⟩ := rootC_at Hx3.out
        obtain ⟨z0, z1, z2, z3, _⟩ := rootC_at Hy3.out
        go_wp2_with fail
        refine (bytes_at s' t' c' _ by' L' _ hs' ht' hc' (HBy.out.below hBw3) (by omega) Her'.out HL'.out).mono ?_
        rintro e w4 ⟨a4, c4, rfl, hR4, hB4⟩
        have HR4 := Lib.hid hR4
        clear hR4
        have hBw4 : Below w.heap.size w w4 := hBw3.trans (hB4.mono hBw3.size)
        have Hx4 := Lib.hid ((hB4.block _ (blk_lt Hx3.out)).trans Hx3.out)
        have Hy4 := Lib.hid ((hB4.block _ (blk_lt Hy3.out)).trans Hy3.out)
        have HR34 := Lib.hid ((Upd.ofBelow (fp := noFp) hB4).row HR3.out (fun _ _ h => h))
        obtain ⟨q0, q1, q2, q3, _⟩ := rootC_at Hx4.out
        obtain ⟨z0, z1, z2, z3, _⟩ := rootC_at Hy4.out
        go_wp2_with fail
        refine (HAw.out w4).mono ?_
        rintro e w8 ⟨rfl, hB8⟩
        go_wp2
        go_ret
        exact ⟨rfl, hBw4.trans (hB8.mono hBw4.size)⟩
    · have hp0b : (pe == 0) = false := by simpa using hp0
      clear hp0
      by_cases he : er = 0
      · subst he
        have J2 := Lib.hid (K2.out rfl)
        have J3 := Lib.hid (K3.out rfl)
        have J4 := Lib.hid (K4.out rfl)
        clear K2 K3 K4
        by_cases hf : er' = 0
        · subst hf
          have J5 := Lib.hid (J2.out rfl)
          clear J2
          go_enter Tryd.func3, Tryd.ntmps3
          go_wp2_with fail
          rw [HW.out]
          refine (parse_by _ b P _ (HBb.out.below hBW) Hcb.out (by omega) Hpe.out HP.out).mono ?_
          rintro e w1 ⟨a1, c1, rfl, hR1, hB1⟩
          have HR1 := Lib.hid hR1
          clear hR1
          have hBw1 : Below w.heap.size w w1 := hBW.trans (hB1.mono hBW.size)
          have hx1 := (hB1.block _ (blk_lt HWx.out)).trans HWx.out
          have hy1 := (hB1.block _ (blk_lt HWy.out)).trans HWy.out
          have hB12 : Below w1.heap.size w1 (w1.alloc (.cells #[.int .i64 P.serial, .int .i64 P.tick, .int .i64 P.commit, .slice a1 P.blob.length c1] 24)) := (Below.refl _ _).alloc (Nat.le_refl _) _
          obtain ⟨w2, hw2⟩ : ∃ w2, w1.alloc (.cells #[.int .i64 P.serial, .int .i64 P.tick, .int .i64 P.commit, .slice a1 P.blob.length c1] 24) = w2 := ⟨_, rfl⟩
          rw [hw2] at hB12
          have hBw2 : Below w.heap.size w w2 := hBw1.trans (hB12.mono hBw1.size)
          have hx2 := (hB12.block _ (blk_lt hx1)).trans hx1
          have hy2 := (hB12.block _ (blk_lt hy1)).trans hy1
          have hlt0 := blk_lt hx1
          have hlt01 := blk_lt hy1
          obtain ⟨q0', q1', q2', q3', _⟩ := rootC_at hx1
          obtain ⟨z0', z1', z2', z3', _⟩ := rootC_at hy1
          have Hx2 := Lib.hid hx2
          have Hy2 := Lib.hid hy2
          have Hw2 := Lib.hid hw2
          obtain ⟨q0, q1, q2, q3, _⟩ := rootC_at hx2
          obtain ⟨z0, z1, z2, z3, _⟩ := rootC_at hy2
          have hlt := blk_lt hx2
          have hlt1 := blk_lt hy2
          clear hB1 hB12 hx1 hy1 hx2 hy2 hw2
          go_wp2_with fail
          rw [Hw2.out]
          refine (bytes_at s t c _ bx L _ hs ht hc (HBx.out.below hBw2) (by omega) Her.out HL.out).mono ?_
          rintro e w3 ⟨a3, c3, rfl, hR3, hB3⟩
          have HR3 := Lib.hid hR3
          clear hR3
          have hBw3 : Below w.heap.size w w3 := hBw2.trans (hB3.mono hBw2.size)
          have Hx3 := Lib.hid ((hB3.block _ (blk_lt Hx2.out)).trans Hx2.out)
          have Hy3 := Lib.hid ((hB3.block _ (blk_lt Hy2.out)).trans Hy2.out)
          obtain ⟨q0, q1, q2, q3, _⟩ := rootC_at Hx3.out
          obtain ⟨z0, z1, z2, z3, _⟩ := rootC_at Hy3.out
          go_wp2_with fail
          refine (bytes_at s' t' c' _ by' L' _ hs' ht' hc' (HBy.out.below hBw3) (by omega) Her'.out HL'.out).mono ?_
          rintro e w4 ⟨a4, c4, rfl, hR4, hB4⟩
          have HR4 := Lib.hid hR4
          clear hR4
          have hBw4 : Below w.heap.size w w4 := hBw3.trans (hB4.mono hBw3.size)
          have Hx4 := Lib.hid ((hB4.block _ (blk_lt Hx3.out)).trans Hx3.out)
          have Hy4 := Lib.hid ((hB4.block _ (blk_lt Hy3.out)).trans Hy3.out)
          have HR34 := Lib.hid ((Upd.ofBelow (fp := noFp) hB4).row HR3.out (fun _ _ h => h))
          obtain ⟨q0, q1, q2, q3, _⟩ := rootC_at Hx4.out
          obtain ⟨z0, z1, z2, z3, _⟩ := rootC_at Hy4.out
          go_wp2_with fail
          refine (sameR_any w4 s t c s' t' c' _ _ bx by' (HBx.out.below hBw4) (HBy.out.below hBw4)).mono ?_
          rw [J5.out]
          rintro e w5 ⟨rfl, hB5⟩
          obtain ⟨bb, hbb⟩ : ∃ bb, decide (L = L') = bb := ⟨_, rfl⟩
          rw [hbb]
          have Hbb := Lib.hid hbb
          clear hbb
          have hBw5 : Below w.heap.size w w5 := hBw4.trans (hB5.mono hBw4.size)
          have Hx5 := Lib.hid ((hB5.block _ (blk_lt Hx4.out)).trans Hx4.out)
          have HR35 := Lib.hid ((Upd.ofBelow (fp := noFp) hB5).row HR34.out (fun _ _ h => h))
          have HR45 := Lib.hid ((Upd.ofBelow (fp := noFp) hB5).row HR4.out (fun _ _ h => h))
          obtain ⟨q0, q1, q2, q3, _⟩ := rootC_at Hx5.out
          go_wp2_with fail
          refine (sameB_any w5 _ _ L L' (Rd.ofOwns HR35.out) (Rd.ofOwns HR45.out)).mono ?_
          rw [Hbb.out]
          rintro e w5' ⟨rfl, rfl⟩
          have hbb2 : (bb != bb) = false := by simp
          go_wp2_with fail
          refine (parse_by _ L (aroot s t c bx) 0 (Rd.ofOwns HR35.out) (row_cap HR35.out) (by omega) J3.out.1 J3.out.2).mono ?_
          rintro e w6 ⟨a6, c6, rfl, hR6, hB6⟩
          have HR6 := Lib.hid hR6
          clear hR6
          have hBw6 : Below w.heap.size w w6 := hBw5.trans (hB6.mono hBw5.size)
          have Hx6 := Lib.hid ((hB6.block _ (blk_lt Hx5.out)).trans Hx5.out)
          obtain ⟨q0, q1, q2, q3, _⟩ := rootC_at Hx6.out
          have hlt6 := blk_lt Hx6.out
          obtain ⟨Q, hQ⟩ : ∃ Q, aroot s t c bx = Q := ⟨_, rfl⟩
          have hk4 := J4.out
          rw [hQ] at hk4 HR6 ⊢
          have HK4 := Lib.hid hk4
          clear hk4 hQ
          go_wp2_with fail
          refine (sameR_any _ Q.serial Q.tick Q.commit s t c _ _ Q.blob bx ((Rd.ofOwns HR6.out).below ((Below.refl _ _).alloc (Nat.le_refl _) _)) ((HBx.out.below hBw6).below ((Below.refl _ _).alloc (Nat.le_refl _) _))).mono ?_
          rw [HK4.out]
          rintro e w7 ⟨rfl, hB7⟩
          have hBw7 : Below w.heap.size w w7 := (hBw6.alloc hBw6.size _).trans (hB7.mono (by simp; have := hBw6.size; omega))
          go_wp2_with fail
          refine (HAw.out w7).mono ?_
          rintro e w8 ⟨rfl, hB8⟩
          go_wp2
          go_ret
          exact ⟨rfl, hBw7.trans (hB8.mono hBw7.size)⟩
        · have hfb : (er' == 0) = false := by simpa using hf
          clear hf
          go_enter Tryd.func3, Tryd.ntmps3
          go_wp2_with fail
          rw [HW.out]
          refine (parse_by _ b P _ (HBb.out.below hBW) Hcb.out (by omega) Hpe.out HP.out).mono ?_
          rintro e w1 ⟨a1, c1, rfl, hR1, hB1⟩
          have HR1 := Lib.hid hR1
          clear hR1
          have hBw1 : Below w.heap.size w w1 := hBW.trans (hB1.mono hBW.size)
          have hx1 := (hB1.block _ (blk_lt HWx.out)).trans HWx.out
          have hy1 := (hB1.block _ (blk_lt HWy.out)).trans HWy.out
          have hB12 : Below w1.heap.size w1 (w1.alloc (.cells #[.int .i64 P.serial, .int .i64 P.tick, .int .i64 P.commit, .slice a1 P.blob.length c1] 24)) := (Below.refl _ _).alloc (Nat.le_refl _) _
          obtain ⟨w2, hw2⟩ : ∃ w2, w1.alloc (.cells #[.int .i64 P.serial, .int .i64 P.tick, .int .i64 P.commit, .slice a1 P.blob.length c1] 24) = w2 := ⟨_, rfl⟩
          rw [hw2] at hB12
          have hBw2 : Below w.heap.size w w2 := hBw1.trans (hB12.mono hBw1.size)
          have hx2 := (hB12.block _ (blk_lt hx1)).trans hx1
          have hy2 := (hB12.block _ (blk_lt hy1)).trans hy1
          have hlt0 := blk_lt hx1
          have hlt01 := blk_lt hy1
          obtain ⟨q0', q1', q2', q3', _⟩ := rootC_at hx1
          obtain ⟨z0', z1', z2', z3', _⟩ := rootC_at hy1
          have Hx2 := Lib.hid hx2
          have Hy2 := Lib.hid hy2
          have Hw2 := Lib.hid hw2
          obtain ⟨q0, q1, q2, q3, _⟩ := rootC_at hx2
          obtain ⟨z0, z1, z2, z3, _⟩ := rootC_at hy2
          have hlt := blk_lt hx2
          have hlt1 := blk_lt hy2
          clear hB1 hB12 hx1 hy1 hx2 hy2 hw2
          go_wp2_with fail
          rw [Hw2.out]
          refine (bytes_at s t c _ bx L _ hs ht hc (HBx.out.below hBw2) (by omega) Her.out HL.out).mono ?_
          rintro e w3 ⟨a3, c3, rfl, hR3, hB3⟩
          have HR3 := Lib.hid hR3
          clear hR3
          have hBw3 : Below w.heap.size w w3 := hBw2.trans (hB3.mono hBw2.size)
          have Hx3 := Lib.hid ((hB3.block _ (blk_lt Hx2.out)).trans Hx2.out)
          have Hy3 := Lib.hid ((hB3.block _ (blk_lt Hy2.out)).trans Hy2.out)
          obtain ⟨q0, q1, q2, q3, _⟩ := rootC_at Hx3.out
          obtain ⟨z0, z1, z2, z3, _⟩ := rootC_at Hy3.out
          go_wp2_with fail
          refine (bytes_at s' t' c' _ by' L' _ hs' ht' hc' (HBy.out.below hBw3) (by omega) Her'.out HL'.out).mono ?_
          rintro e w4 ⟨a4, c4, rfl, hR4, hB4⟩
          have HR4 := Lib.hid hR4
          clear hR4
          have hBw4 : Below w.heap.size w w4 := hBw3.trans (hB4.mono hBw3.size)
          have Hx4 := Lib.hid ((hB4.block _ (blk_lt Hx3.out)).trans Hx3.out)
          have Hy4 := Lib.hid ((hB4.block _ (blk_lt Hy3.out)).trans Hy3.out)
          have HR34 := Lib.hid ((Upd.ofBelow (fp := noFp) hB4).row HR3.out (fun _ _ h => h))
          obtain ⟨q0, q1, q2, q3, _⟩ := rootC_at Hx4.out
          obtain ⟨z0, z1, z2, z3, _⟩ := rootC_at Hy4.out
          go_wp2_with fail
          refine (parse_by _ L (aroot s t c bx) 0 (Rd.ofOwns HR34.out) (row_cap HR34.out) (by omega) J3.out.1 J3.out.2).mono ?_
          rintro e w6 ⟨a6, c6, rfl, hR6, hB6⟩
          have HR6 := Lib.hid hR6
          clear hR6
          have hBw6 : Below w.heap.size w w6 := hBw4.trans (hB6.mono hBw4.size)
          have Hx6 := Lib.hid ((hB6.block _ (blk_lt Hx4.out)).trans Hx4.out)
          obtain ⟨q0, q1, q2, q3, _⟩ := rootC_at Hx6.out
          have hlt6 := blk_lt Hx6.out
          obtain ⟨Q, hQ⟩ : ∃ Q, aroot s t c bx = Q := ⟨_, rfl⟩
          have hk4 := J4.out
          rw [hQ] at hk4 HR6 ⊢
          have HK4 := Lib.hid hk4
          clear hk4 hQ
          go_wp2_with fail
          refine (sameR_any _ Q.serial Q.tick Q.commit s t c _ _ Q.blob bx ((Rd.ofOwns HR6.out).below ((Below.refl _ _).alloc (Nat.le_refl _) _)) ((HBx.out.below hBw6).below ((Below.refl _ _).alloc (Nat.le_refl _) _))).mono ?_
          rw [HK4.out]
          rintro e w7 ⟨rfl, hB7⟩
          have hBw7 : Below w.heap.size w w7 := (hBw6.alloc hBw6.size _).trans (hB7.mono (by simp; have := hBw6.size; omega))
          go_wp2_with fail
          refine (HAw.out w7).mono ?_
          rintro e w8 ⟨rfl, hB8⟩
          go_wp2
          go_ret
          exact ⟨rfl, hBw7.trans (hB8.mono hBw7.size)⟩
      · have heb : (er == 0) = false := by simpa using he
        have heb2 : (er != 0) = true := by simpa using he
        have He0 := Lib.hid he
        clear he
        have hk := K5.out He0.out
        obtain ⟨rfl, hL0⟩ := hk
        have hl0 : L.length = 0 := by rw [hL0]; rfl
        clear hL0
        go_enter Tryd.func3, Tryd.ntmps3
        go_wp2_with fail
        rw [HW.out]
        refine (parse_by _ b P _ (HBb.out.below hBW) Hcb.out (by omega) Hpe.out HP.out).mono ?_
        rintro e w1 ⟨a1, c1, rfl, hR1, hB1⟩
        have HR1 := Lib.hid hR1
        clear hR1
        have hBw1 : Below w.heap.size w w1 := hBW.trans (hB1.mono hBW.size)
        have hx1 := (hB1.block _ (blk_lt HWx.out)).trans HWx.out
        have hy1 := (hB1.block _ (blk_lt HWy.out)).trans HWy.out
        have hB12 : Below w1.heap.size w1 (w1.alloc (.cells #[.int .i64 P.serial, .int .i64 P.tick, .int .i64 P.commit, .slice a1 P.blob.length c1] 24)) := (Below.refl _ _).alloc (Nat.le_refl _) _
        obtain ⟨w2, hw2⟩ : ∃ w2, w1.alloc (.cells #[.int .i64 P.serial, .int .i64 P.tick, .int .i64 P.commit, .slice a1 P.blob.length c1] 24) = w2 := ⟨_, rfl⟩
        rw [hw2] at hB12
        have hBw2 : Below w.heap.size w w2 := hBw1.trans (hB12.mono hBw1.size)
        have hx2 := (hB12.block _ (blk_lt hx1)).trans hx1
        have hy2 := (hB12.block _ (blk_lt hy1)).trans hy1
        have hlt0 := blk_lt hx1
        have hlt01 := blk_lt hy1
        obtain ⟨q0', q1', q2', q3', _⟩ := rootC_at hx1
        obtain ⟨z0', z1', z2', z3', _⟩ := rootC_at hy1
        have Hx2 := Lib.hid hx2
        have Hy2 := Lib.hid hy2
        have Hw2 := Lib.hid hw2
        obtain ⟨q0, q1, q2, q3, _⟩ := rootC_at hx2
        obtain ⟨z0, z1, z2, z3, _⟩ := rootC_at hy2
        have hlt := blk_lt hx2
        have hlt1 := blk_lt hy2
        clear hB1 hB12 hx1 hy1 hx2 hy2 hw2
        go_wp2_with fail
        rw [Hw2.out]
        refine (bytes_at s t c _ bx L _ hs ht hc (HBx.out.below hBw2) (by omega) Her.out HL.out).mono ?_
        rintro e w3 ⟨a3, c3, rfl, hR3, hB3⟩
        have HR3 := Lib.hid hR3
        clear hR3
        have hBw3 : Below w.heap.size w w3 := hBw2.trans (hB3.mono hBw2.size)
        have Hx3 := Lib.hid ((hB3.block _ (blk_lt Hx2.out)).trans Hx2.out)
        have Hy3 := Lib.hid ((hB3.block _ (blk_lt Hy2.out)).trans Hy2.out)
        obtain ⟨q0, q1, q2, q3, _⟩ := rootC_at Hx3.out
        obtain ⟨z0, z1, z2, z3, _⟩ := rootC_at Hy3.out
        go_wp2_with fail
        refine (bytes_at s' t' c' _ by' L' _ hs' ht' hc' (HBy.out.below hBw3) (by omega) Her'.out HL'.out).mono ?_
        rintro e w4 ⟨a4, c4, rfl, hR4, hB4⟩
        have HR4 := Lib.hid hR4
        clear hR4
        have hBw4 : Below w.heap.size w w4 := hBw3.trans (hB4.mono hBw3.size)
        have Hx4 := Lib.hid ((hB4.block _ (blk_lt Hx3.out)).trans Hx3.out)
        have Hy4 := Lib.hid ((hB4.block _ (blk_lt Hy3.out)).trans Hy3.out)
        have HR34 := Lib.hid ((Upd.ofBelow (fp := noFp) hB4).row HR3.out (fun _ _ h => h))
        obtain ⟨q0, q1, q2, q3, _⟩ := rootC_at Hx4.out
        obtain ⟨z0, z1, z2, z3, _⟩ := rootC_at Hy4.out
        go_wp2_with fail
        refine (HAw.out w4).mono ?_
        rintro e w8 ⟨rfl, hB8⟩
        go_wp2
        go_ret
        exact ⟨rfl, hBw4.trans (hB8.mono hBw4.size)⟩
  · have hcase : (500 : Int) < (bx.length : Int) ∨ (¬ (500 : Int) < (bx.length : Int) ∧ (500 : Int) < (by'.length : Int)) ∨ (¬ (500 : Int) < (bx.length : Int) ∧ ¬ (500 : Int) < (by'.length : Int) ∧ (1000 : Int) < (b.length : Int)) := by omega
    clear hg
    rcases hcase with h1 | ⟨h1, h2⟩ | ⟨h1, h2, h3⟩
    all_goals
      go_enter Tryd.func3, Tryd.ntmps3
      go_wp2_with fail
      rw [HW.out]
      refine (HAw.out W).mono ?_
      rintro e w8 ⟨rfl, hB8⟩
      go_wp2
      go_ret
      exact ⟨rfl, hBW.trans (hB8.mono hBW.size)⟩
end Go.Proofs.YtnagejhpdhdpfaaDoor
