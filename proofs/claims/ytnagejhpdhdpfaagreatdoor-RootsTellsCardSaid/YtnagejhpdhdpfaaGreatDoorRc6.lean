/-
  The document's roots (homesteadref06): may, Bytes.
-/
import Derived.Outline
import Derived.Test.YtnagejhpdhdpfaaGreatDoorRc5
namespace Go.Proofs.YtnagejhpdhdpfaaGreatDoor
open Go.RowKit Go.Maps Go.MapKept

set_option maxRecDepth 100000 in
set_option maxHeartbeats 4000000 in
theorem x6may_yes (w : World) (n : Int) (h0 : 0 ≤ n) (h1 : n ≤ 9007199254740992) : Calls Tryz.prog 40 #[.int .i64 n] w fun e w' => e = .returned (.bool true) ∧ w = w' := by
  go_enter Tryz.func40, Tryz.ntmps40
  go_wp2
  go_ret
  exact ⟨rfl, rfl⟩
set_option maxRecDepth 100000 in
set_option maxHeartbeats 4000000 in
theorem x6may_no (w : World) (n : Int) (h : n < 0 ∨ 9007199254740992 < n) : Calls Tryz.prog 40 #[.int .i64 n] w fun e w' => e = .returned (.bool false) ∧ w = w' := by
  rcases h with h | h
  · go_enter Tryz.func40, Tryz.ntmps40
    go_wp2
    go_ret
    exact ⟨rfl, rfl⟩
  · have h0 : 0 ≤ n := by omega
    have h1 : ¬ n ≤ 9007199254740992 := by omega
    go_enter Tryz.func40, Tryz.ntmps40
    go_wp2
    go_ret
    exact ⟨rfl, rfl⟩
theorem uint_int (w : World) (v : Value) (l : List UInt8) (n : Int) (r : List UInt8) (hr : l ++ vint n.toNat = r) (hv : Rd w v (bcells l)) (hl : l.length ≤ 1000) (h0 : 0 ≤ n) (hn : n ≤ 9007199254740992) :
    Calls Tryz.prog 41 #[v, .int .u64 n] w fun e w' => ∃ a c, e = .returned (.slice a r.length c) ∧ w'.ownsRow w.heap.size 5 1 (.slice a r.length c) r.length (bcells r) ∧ Below w.heap.size w w' := by
  have h := x1Uint_any w v l n.toNat hv (by omega) (by omega)
  rw [Int.toNat_of_nonneg h0, hr] at h
  exact h
theorem vint53 {n : Int} (hn : n ≤ 9007199254740992) : (vint n.toNat).length ≤ 10 := vint_len (by omega) (Nat.lt_of_le_of_lt (by omega : n.toNat ≤ 9007199254740992) (by decide))
set_option maxRecDepth 100000 in
set_option maxHeartbeats 8000000 in
theorem x6Bytes_any (w : World) (s t c : Int) (vb : Value) (b : List UInt8) (_hs : isI64 s) (_ht : isI64 t) (_hc : isI64 c) (hv : Rd w vb (bcells b)) (hb : b.length ≤ 1000000000) :
    Calls Tryz.prog 9 #[rootV s t c vb] w (RbPost s t c b w) := by
  obtain ⟨ab, cb, rfl⟩ := hv.shape
  rw [bcells_length] at hv ⊢
  unfold rootV
  have hB0 : Below w.heap.size w (w.alloc (.cells #[.int .i64 s, .int .i64 t, .int .i64 c, .slice ab b.length cb] 24)) := (Below.refl _ _).alloc (Nat.le_refl _) _
  by_cases hms : 0 ≤ s ∧ s ≤ 9007199254740992
  · by_cases h0 : s = 0
    · have h0' : (s == 0) = true := by simpa using h0
      have her : rbErr s t c b.length = 2 := by unfold rbErr; rw [if_pos (by omega)]
      have Her := Lib.hid her
      clear her h0
      go_enter Tryz.func9, Tryz.ntmps9
      go_wp2_with (go_at_call 40; (with_reducible refine (x6may_yes _ s hms.1 hms.2).mono ?_); rintro e w1 ⟨rfl, rfl⟩)
      go_ret2
      exact RbPost.bad 2 Her.out (by decide) hB0
    · have h0' : (s == 0) = false := by simpa using h0
      by_cases hmt : 0 ≤ t ∧ t ≤ 9007199254740992
      · by_cases hmc : 0 ≤ c ∧ c ≤ 9007199254740992
        · have her : rbErr s t c b.length = if 1048576 < b.length then 3 else 0 := by unfold rbErr; rw [if_neg (by omega)]
          by_cases hbl : 1048576 < b.length
          · rw [if_pos hbl] at her
            have hbl' : (1048576 : Int) < (b.length : Int) := by omega
            have Her := Lib.hid her
            clear her
            go_enter Tryz.func9, Tryz.ntmps9
            go_wp2_with first
              | (go_at_call 40; (with_reducible refine (x6may_yes _ s hms.1 hms.2).mono ?_); rintro e w1 ⟨rfl, rfl⟩)
              | (go_at_call 40; (with_reducible refine (x6may_yes _ t hmt.1 hmt.2).mono ?_); rintro e w1 ⟨rfl, rfl⟩)
              | (go_at_call 40; (with_reducible refine (x6may_yes _ c hmc.1 hmc.2).mono ?_); rintro e w1 ⟨rfl, rfl⟩)
            go_ret2
            exact RbPost.bad 3 Her.out (by decide) hB0
          · rw [if_neg hbl] at her
            have hbl' : ¬ (1048576 : Int) < (b.length : Int) := by omega
            obtain ⟨L1, hL1⟩ : ∃ L, magicL ++ vint s.toNat = L := ⟨_, rfl⟩
            obtain ⟨L2, hL2⟩ : ∃ L, L1 ++ vint t.toNat = L := ⟨_, rfl⟩
            obtain ⟨L3, hL3⟩ : ∃ L, L2 ++ vint c.toNat = L := ⟨_, rfl⟩
            obtain ⟨L4, hL4⟩ : ∃ L, L3 ++ (vint b.length ++ b) = L := ⟨_, rfl⟩
            have l1 : L1.length ≤ 14 := by rw [← hL1, List.length_append]; have := vint53 hms.2; have : magicL.length = 4 := rfl; omega
            have l2 : L2.length ≤ 24 := by rw [← hL2, List.length_append]; have := vint53 hmt.2; omega
            have l3 : L3.length ≤ 34 := by rw [← hL3, List.length_append]; have := vint53 hmc.2; omega
            have l4 : L4.length ≤ 1000000100 := by
              rw [← hL4, List.length_append, List.length_append]
              have := vint_len (n := b.length) (k := 10) (by omega) (Nat.lt_of_le_of_lt hb (by decide))
              omega
            have hLb : L4 = (aroot s t c b).bytes := by
              rw [← hL4, ← hL3, ← hL2, ← hL1]
              simp [ARoot.bytes, aroot, magicL]
            obtain ⟨O, hO⟩ : ∃ O, rbOut s t c b = O := ⟨_, rfl⟩
            have hout : sealL sumL L4 = O := by rw [← hO]; unfold rbOut; rw [if_pos her, hLb]
            have HL1 := Lib.hid hL1
            have HL2 := Lib.hid hL2
            have HL3 := Lib.hid hL3
            have HL4 := Lib.hid hL4
            have Hout := Lib.hid hout
            have HO := Lib.hid hO
            have Her := Lib.hid her
            have Hv := Lib.hid hv
            clear hL1 hL2 hL3 hL4 hout her hLb hv hO
            have h0s : 0 ≤ s := hms.1
            have h0t : 0 ≤ t := hmt.1
            have h0c : 0 ≤ c := hmc.1
            have hwt : IntKind.u64.wrap t = t := IntWalk.u64_in _ (by omega)
            have hwc : IntKind.u64.wrap c = c := IntWalk.u64_in _ (by omega)
            go_enter Tryz.func9, Tryz.ntmps9
            go_wp2_with first
              | (go_at_call 40; (with_reducible refine (x6may_yes _ s hms.1 hms.2).mono ?_); rintro e w1 ⟨rfl, rfl⟩)
              | (go_at_call 40; (with_reducible refine (x6may_yes _ t hmt.1 hmt.2).mono ?_); rintro e w1 ⟨rfl, rfl⟩)
              | (go_at_call 40; (with_reducible refine (x6may_yes _ c hmc.1 hmc.2).mono ?_); rintro e w1 ⟨rfl, rfl⟩)
            obtain ⟨W, hW⟩ : ∃ W, (w.alloc (.cells #[.int .i64 s, .int .i64 t, .int .i64 c, .slice ab b.length cb] 24)).alloc (.cells #[.int .u8 72, .int .u8 83, .int .u8 82, .int .u8 49] 5) = W := ⟨_, rfl⟩
            have hD : W.heap[w.heap.size]? = some (.cells #[.int .i64 s, .int .i64 t, .int .i64 c, .slice ab b.length cb] 24 (0, 0)) := by rw [← hW]; exact alloc2_at0 _ _ _
            have hBW : Below w.heap.size w W := by rw [← hW]; exact hB0.alloc (by simp) _
            have hM : Rd W (.slice (some ⟨w.heap.size + 1, 0, none⟩) 4 4) (bcells magicL) := by
              rw [← hW]
              have := Rd_new (w.alloc (.cells #[.int .i64 s, .int .i64 t, .int .i64 c, .slice ab b.length cb] 24)) #[.int .u8 72, .int .u8 83, .int .u8 82, .int .u8 49] 5 (0, 0) (bcells magicL) 4 4 rfl rfl
              rw [show (w.alloc (.cells #[.int .i64 s, .int .i64 t, .int .i64 c, .slice ab b.length cb] 24)).heap.size = w.heap.size + 1 by simp] at this
              exact this
            rw [hW]
            refine (uint_int W _ magicL s L1 HL1.out hM (by decide) hms.1 hms.2).mono ?_
            clear hM hW hB0
            rintro e w1 ⟨a1, c1, rfl, hR1, hB1⟩
            have HR1 := Lib.hid hR1
            have hD1 := (hB1.block _ (blk_lt hD)).trans hD
            have hBw1 := hBW.trans (hB1.mono hBW.size)
            have HD1 := Lib.hid hD1
            obtain ⟨y0, y1, y2, y3, _⟩ := cells4 hD1
            have hlt := blk_lt hD1
            clear hR1 hD hD1 hB1 hBW
            go_wp2_with fail
            go_region_held3 (fun w' => w'.cell? ⟨w.heap.size, 1, none⟩ = some (.int .i64 t) ∧ w'.cell? ⟨w.heap.size, 2, none⟩ = some (.int .i64 c)) (first | exact ⟨y1, y2⟩ | exact S2 | exact S3 | go_keep)
              (first
              | (go_at_call 41; (with_reducible refine (uint_int _ (.slice a1 L1.length c1) L1 t L2 HL2.out ((Rd.ofOwns HR1.out).below (Below.refl _ _).drew) (by omega) hmt.1 hmt.2).mono ?_); rintro e w2 ⟨a2, c2, rfl, hR2, hB2⟩; have HR2 := Lib.hid hR2; clear hR2; have S2 : w2.cell? ⟨w.heap.size, 1, none⟩ = some (.int .i64 t) ∧ w2.cell? ⟨w.heap.size, 2, none⟩ = some (.int .i64 c) := ⟨(hB2.cell (p := ⟨w.heap.size, 1, none⟩) hlt).trans y1, (hB2.cell (p := ⟨w.heap.size, 2, none⟩) hlt).trans y2⟩)
              | (go_at_call 41; (with_reducible refine (uint_int _ (.slice a2 L2.length c2) L2 c L3 HL3.out (Rd.ofOwns HR2.out) (by omega) hmc.1 hmc.2).mono ?_); rintro e w3 ⟨a3, c3, rfl, hR3, hB3⟩; have HR3 := Lib.hid hR3; clear hR3; have S3 : w3.cell? ⟨w.heap.size, 1, none⟩ = some (.int .i64 t) ∧ w3.cell? ⟨w.heap.size, 2, none⟩ = some (.int .i64 c) := ⟨(hB3.cell (p := ⟨w.heap.size, 1, none⟩) (Nat.lt_of_lt_of_le hlt hB2.size)).trans S2.1, (hB3.cell (p := ⟨w.heap.size, 2, none⟩) (Nat.lt_of_lt_of_le hlt hB2.size)).trans S2.2⟩))
            have hBw2 := hBw1.drew.trans (hB2.mono hBw1.drew.size)
            have hBw3 := hBw2.trans (hB3.mono hBw2.size)
            have y3' := (hB3.cell (p := ⟨w.heap.size, 3, none⟩) (Nat.lt_of_lt_of_le hlt hB2.size)).trans ((hB2.cell (p := ⟨w.heap.size, 3, none⟩) hlt).trans y3)
            go_wp2_with first
              | (go_at_call 42; (with_reducible refine (x1Blob_any _ (.slice a3 L3.length c3) (.slice ab b.length cb) L3 b (Rd.ofOwns HR3.out) (Hv.out.below hBw3) (by omega) (by omega)).mono ?_); rw [HL4.out]; rintro e w4 ⟨a4, c4, rfl, hR4, hB4⟩; have HR4 := Lib.hid hR4; clear hR4)
              | (go_at_call 6; (with_reducible refine (x1Seal_any _ (.slice a4 L4.length c4) L4 (Rd.ofOwns HR4.out) (by omega)).mono ?_); rw [Hout.out]; rintro e w5 ⟨a5, c5, rfl, hR5, hB5⟩; have HR5 := Lib.hid hR5; clear hR5)
            go_ret2
            have hBw4 := hBw3.trans (hB4.mono hBw3.size)
            exact ⟨a5, c5, by rw [Her.out, HO.out]; rfl, by rw [HO.out]; exact ownsRow_from HR5.out (fun g hg => Nat.le_trans hBw4.size (row_from HR5.out hg)), hBw4.trans (hB5.mono hBw4.size)⟩
        · have her := Lib.hid (show rbErr s t c b.length = 2 by unfold rbErr; rw [if_pos (by omega)])
          have hmc' : c < 0 ∨ 9007199254740992 < c := by omega
          go_enter Tryz.func9, Tryz.ntmps9
          go_wp2_with first
            | (go_at_call 40; (with_reducible refine (x6may_yes _ s hms.1 hms.2).mono ?_); rintro e w1 ⟨rfl, rfl⟩)
            | (go_at_call 40; (with_reducible refine (x6may_yes _ t hmt.1 hmt.2).mono ?_); rintro e w1 ⟨rfl, rfl⟩)
            | (go_at_call 40; (with_reducible refine (x6may_no _ c hmc').mono ?_); rintro e w1 ⟨rfl, rfl⟩)
          go_ret2
          exact RbPost.bad 2 her.out (by decide) hB0
      · have her := Lib.hid (show rbErr s t c b.length = 2 by unfold rbErr; rw [if_pos (by omega)])
        have hmt' : t < 0 ∨ 9007199254740992 < t := by omega
        go_enter Tryz.func9, Tryz.ntmps9
        go_wp2_with first
          | (go_at_call 40; (with_reducible refine (x6may_yes _ s hms.1 hms.2).mono ?_); rintro e w1 ⟨rfl, rfl⟩)
          | (go_at_call 40; (with_reducible refine (x6may_no _ t hmt').mono ?_); rintro e w1 ⟨rfl, rfl⟩)
        go_ret2
        exact RbPost.bad 2 her.out (by decide) hB0
  · have her := Lib.hid (show rbErr s t c b.length = 2 by unfold rbErr; rw [if_pos (by omega)])
    have hms' : s < 0 ∨ 9007199254740992 < s := by omega
    go_enter Tryz.func9, Tryz.ntmps9
    go_wp2_with (go_at_call 40; (with_reducible refine (x6may_no _ s hms').mono ?_); rintro e w1 ⟨rfl, rfl⟩)
    go_ret2
    exact RbPost.bad 2 her.out (by decide) hB0
end Go.Proofs.YtnagejhpdhdpfaaGreatDoor
