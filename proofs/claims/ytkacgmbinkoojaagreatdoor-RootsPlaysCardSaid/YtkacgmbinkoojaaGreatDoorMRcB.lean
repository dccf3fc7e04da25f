/-
  The document's roots (homesteadref06): may, Bytes.
-/
import Derived.Outline
import Derived.Test.YtkacgmbinkoojaaGreatDoorMGtA
import Derived.Test.YtkacgmbinkoojaaGreatDoorMRcA
namespace Go.Proofs.YtkacgmbinkoojaaGreatDoor
open Go.RowKit Go.Maps Go.MapKept

set_option maxRecDepth 100000 in
set_option maxHeartbeats 4000000 in
theorem x6may_yes (w : World) (n : Int) (h0 : 0 ≤ n) (h1 : n ≤ 9007199254740992) : Calls Tryz.prog 65 #[.int .i64 n] w fun e w' => e = .returned (.bool true) ∧ w = w' := by
  go_enter Tryz.func65, Tryz.ntmps65
  go_wp2
  go_ret
  exact ⟨rfl, rfl⟩
set_option maxRecDepth 100000 in
set_option maxHeartbeats 4000000 in
theorem x6may_no (w : World) (n : Int) (h : n < 0 ∨ 9007199254740992 < n) : Calls Tryz.prog 65 #[.int .i64 n] w fun e w' => e = .returned (.bool false) ∧ w = w' := by
  rcases h with h | h
  · go_enter Tryz.func65, Tryz.ntmps65
    go_wp2
    go_ret
    exact ⟨rfl, rfl⟩
  · have h0 : 0 ≤ n := by omega
    have h1 : ¬ n ≤ 9007199254740992 := by omega
    go_enter Tryz.func65, Tryz.ntmps65
    go_wp2
    go_ret
    exact ⟨rfl, rfl⟩
theorem uint_int (w : World) (v : Value) (l : List UInt8) (n : Int) (r : List UInt8) (hr : l ++ vint n.toNat = r) (hv : Rd w v (bcells l)) (hl : l.length ≤ 1000) (h0 : 0 ≤ n) (hn : n ≤ 9007199254740992) :
    Calls Tryz.prog 66 #[v, .int .u64 n] w fun e w' => ∃ a c, e = .returned (.slice a r.length c) ∧ w'.ownsRow w.heap.size 5 1 (.slice a r.length c) r.length (bcells r) ∧ Below w.heap.size w w' := by
  have h := x1Uint_any w v l n.toNat hv (by omega) (by omega)
  rw [Int.toNat_of_nonneg h0, hr] at h
  exact h
theorem vint53 {n : Int} (hn : n ≤ 9007199254740992) : (vint n.toNat).length ≤ 10 := vint_len (by omega) (Nat.lt_of_le_of_lt (by omega : n.toNat ≤ 9007199254740992) (by decide))
set_option maxRecDepth 100000 in
set_option maxHeartbeats 8000000 in
theorem x6Bytes_any (w : World) (s t c : Int) (vb : Value) (b : List UInt8) (_hs : isI64 s) (_ht : isI64 t) (_hc : isI64 c) (hv : Rd w vb (bcells b)) (hb : b.length ≤ 1000000000) :
    Calls Tryz.prog 35 #[rootV s t c vb] w (RbPost s t c b w) := by
  obtain ⟨ab, cb, rfl⟩ := hv.shape
  rw [bcells_length] at hv ⊢
  unfold rootV
  have hB0 : Below w.heap.size w (w.alloc (.cells #[.int .i64 s, .int .i64 t, .int .i64 c, .slice ab b.length cb] 35)) := (Below.refl _ _).alloc (Nat.le_refl _) _
  by_cases hms : 0 ≤ s ∧ s ≤ 9007199254740992
  · by_cases h0 : s = 0
    · have h0' : (s == 0) = true := by simpa using h0
      have her : rbErr s t c b.length = 2 := by unfold rbErr; rw [if_pos (by omega)]
      have Her := Lib.hid her
      clear her h0
      go_enter Tryz.func35, Tryz.ntmps35
      go_wp2_with (go_at_call 65; (with_reducible refine (x6may_yes _ s hms.1 hms.2).mono ?_); rintro e w1 ⟨rfl, rfl⟩)
      go_ret2
      exact RbPost.bad 2 Her.out (by decide) hB0
    · have h0' : (s == 0) = false := by simpa using h0
      by_cases hmt : 0 ≤ t ∧ t ≤ 9007199254740992
      · by_cases hmc : 0 ≤ c ∧ c ≤ 9007199254740992
        · have her : rbErr s t c b.length = if 1048576 < b.length then 3 else 0 := by unfold rbErr; rw [if_neg (by omega)]
          by_cases hbl : 1048576 < b.length
          · rw [if_pos hbl] at her
            have hbl' : (1048576 : Int) < (b.length : Int) := by omega
            have Her := Lib.hid her
            clear her
            go_enter Tryz.func35, Tryz.ntmps35
            go_wp2_with first
              | (go_at_call 65; (with_reducible refine (x6may_yes _ s hms.1 hms.2).mono ?_); rintro e w1 ⟨rfl, rfl⟩)
              | (go_at_call 65; (with_reducible refine (x6may_yes _ t hmt.1 hmt.2).mono ?_); rintro e w1 ⟨rfl, rfl⟩)
              | (go_at_call 65; (with_reducible refine (x6may_yes _ c hmc.1 hmc.2).mono ?_); rintro e w1 ⟨rfl, rfl⟩)
            go_ret2
            exact RbPost.bad 3 Her.out (by decide) hB0
          · rw [if_neg hbl] at her
            have hbl' : ¬ (1048576 : Int) < (b.length : Int) := by omega
            obtain ⟨L1, hL1⟩ : ∃ L, magicL ++ vint s.toNat = L := ⟨_, rfl⟩
            obtain ⟨L2, hL2⟩ : ∃ L, L1 ++ vint t.toNat = L := ⟨_, rfl⟩
            obtain ⟨L3, hL3⟩ : ∃ L, L2 ++ vint c.toNat = L := ⟨_, rfl⟩
            obtain ⟨L4, hL4⟩ : ∃ L, L3 ++ (vint b.length ++ b) = L := ⟨_, rfl⟩
            have l1 : L1.length ≤ 14 := by rw [← hL1, List.length_append]; have := vint53 hms.2; have : magicL.length = 4 := rfl; omega
            have l2 : L2.length ≤ 24 := by rw [← hL2, List.length_append]; have := vint53 hmt.2; omega
            have l3 : L3.length ≤ 34 := by rw [← hL3, List.length_append]; have := vint53 hmc.2; omega
            have l4 : L4.length ≤ 1000000100 := by
              rw [← hL4, List.length_append, List.length_append]
              have := vint_len (n := b.length) (k := 10) (by omega) (Nat.lt_of_le_of_lt hb (by decide))
              omega
            have hLb : L4 = (aroot s t c b).bytes := by
              rw [← hL4, ← hL3, ← hL2, ← hL1]
              simp [ARoot.bytes, aroot, magicL]
            obtain ⟨O, hO⟩ : ∃ O, rbOut s t c b = O := ⟨_, rfl⟩
            have hout : sealL sumL L4 = O := by rw [← hO]; unfold rbOut; rw [if_pos her, hLb]
            have HL1 := Lib.hid hL1
            have HL2 := Lib.hid hL2
            have HL3 := Lib.hid hL3
            have HL4 := Lib.hid hL4
            have Hout := Lib.hid hout
            have HO := Lib.hid hO
            have Her := Lib.hid her
            have Hv := Lib.hid hv
            clear hL1 hL2 hL3 hL4 hout her hLb hv hO
            have h0s : 0 ≤ s := hms.1
            have h0t : 0 ≤ t := hmt.1
            have h0c : 0 ≤ c := hmc.1
            have hwt : IntKind.u64.wrap t = t := IntWalk.u64_in _ (by omega)
            have hwc : IntKind.u64.wrap c = c := IntWalk.u64_in _ (by omega)
            go_enter Tryz.func35, Tryz.ntmps35
            go_wp2_with first
              | (go_at_call 65; (with_reducible refine (x6may_yes _ s hms.1 hms.2).mono ?_); rintro e w1 ⟨rfl, rfl⟩)
              | (go_at_call 65; (with_reducible refine (x6may_yes _ t hmt.1 hmt.2).mono ?_); rintro e w1 ⟨rfl, rfl⟩)
              | (go_at_call 65; (with_reducible refine (x6may_yes _ c hmc.1 hmc.2).mono ?_); rintro e w1 ⟨rfl, rfl⟩)
            obtain ⟨W, hW⟩ : ∃ W, (w.alloc (.cells #[.int .i64 s, .int .i64 t, .int .i64 c, .slice ab b.length cb] 35)).alloc (.cells #[.int .u8 72, .int .u8 83, .int .u8 82, .int .u8 49] 5) = W := ⟨_, rfl⟩
            have hD : W.heap[w.heap.size]? = some (.cells #[.int .i64 s, .int .i64 t, .int .i64 c, .slice ab b.length cb] 35 (0, 0)) := by rw [← hW]; exact alloc2_at0 _ _ _
            have hBW : Below w.heap.size w W := by rw [← hW]; exact hB0.alloc (by simp) _
            have hM : Rd W (.slice (some ⟨w.heap.size + 1, 0, none⟩) 4 4) (bcells magicL) := by
              rw [← hW]
              have := Rd_new (w.alloc (.cells #[.int .i64 s, .int .i64 t, .int .i64 c, .slice ab b.length cb] 35)) #[.int .u8 72, .int .u8 83, .int .u8 82, .int .u8 49] 5 (0, 0) (bcells magicL) 4 4 rfl rfl
              rw [show (w.alloc (.cells #[.int .i64 s, .int .i64 t, .int .i64 c, .slice ab b.length cb] 35)).heap.size = w.heap.size + 1 by simp] at this
              exact this
            rw [hW]
            refine (uint_int W _ magicL s L1 HL1.out hM (by decide) hms.1 hms.2).mono ?_
            clear hM hW hB0
            rintro e w1 ⟨a1, c1, rfl, hR1, hB1⟩
            have HR1 := Lib.hid hR1
            have hD1 := (hB1.block _ (blk_lt hD)).trans hD
            have hBw1 := hBW.trans (hB1.mono hBW.size)
            have HD1 := Lib.hid hD1
            obtain ⟨y0, y1, y2, y3, _⟩ := cells4 hD1
            have hlt := blk_lt hD1
            clear hR1 hD hD1 hB1 hBW
            go_wp2_with fail
            go_region_held3 (fun w' => w'.cell? ⟨w.heap.size, 1, none⟩ = some (.int .i64 t) ∧ w'.cell? ⟨w.heap.size, 2, none⟩ = some (.int .i64 c)) (first | exact ⟨y1, y2⟩ | exact S2 | exact S3 | go_keep)
              (first
              | (go_at_call 66; (with_reducible refine (uint_int _ (.slice a1 L1.length c1) L1 t L2 HL2.out ((Rd.ofOwns HR1.out).below (Below.refl _ _).drew) (by omega) hmt.1 hmt.2).mono ?_); rintro e w2 ⟨a2, c2, rfl, hR2, hB2⟩; have HR2 := Lib.hid hR2; clear hR2; have S2 : w2.cell? ⟨w.heap.size, 1, none⟩ = some (.int .i64 t) ∧ w2.cell? ⟨w.heap.size, 2, none⟩ = some (.int .i64 c) := ⟨(hB2.cell (p := ⟨w.heap.size, 1, none⟩) hlt).trans y1, (hB2.cell (p := ⟨w.heap.size, 2, none⟩) hlt).trans y2⟩)
              | (go_at_call 66; (with_reducible refine (uint_int _ (.slice a2 L2.length c2) L2 c L3 HL3.out (Rd.ofOwns HR2.out) (by omega) hmc.1 hmc.2).mono ?_); rintro e w3 ⟨a3, c3, rfl, hR3, hB3⟩; have HR3 := Lib.hid hR3; clear hR3; have S3 : w3.cell? ⟨w.heap.size, 1, none⟩ = some (.int .i64 t) ∧ w3.cell? ⟨w.heap.size, 2, none⟩ = some (.int .i64 c) := ⟨(hB3.cell (p := ⟨w.heap.size, 1, none⟩) (Nat.lt_of_lt_of_le hlt hB2.size)).trans S2.1, (hB3.cell (p := ⟨w.heap.size, 2, none⟩) (Nat.lt_of_lt_of_le hlt hB2.size)).trans S2.2⟩))
            have hBw2 := hBw1.drew.trans (hB2.mono hBw1.drew.size)
            have hBw3 := hBw2.trans (hB3.mono hBw2.size)
            have y3' := (hB3.cell (p := ⟨w.heap.size, 3, none⟩) (Nat.lt_of_lt_of_le hlt hB2.size)).trans ((hB2.cell (p := ⟨w.heap.size, 3, none⟩) hlt).trans y3)
            go_wp2_with first
              | (go_at_call 68; (with_reducible refine (x1Blob_any _ (.slice a3 L3.length c3) (.slice ab b.length cb) L3 b (Rd.ofOwns HR3.out) (Hv.out.below hBw3) (by omega) (by omega)).mono ?_); rw [HL4.out]; rintro e w4 ⟨a4, c4, rfl, hR4, hB4⟩; have HR4 := Lib.hid hR4; clear hR4)
              | (go_at_call 67; (with_reducible refine (x1Seal_any _ (.slice a4 L4.length c4) L4 (Rd.ofOwns HR4.out) (by omega)).mono ?_); rw [Hout.out]; rintro e w5 ⟨a5, c5, rfl, hR5, hB5⟩; have HR5 := Lib.hid hR5; clear hR5)
            go_ret2
            have hBw4 := hBw3.trans (hB4.mono hBw3.size)
            exact ⟨a5, c5, by rw [Her.out, HO.out]; rfl, by rw [HO.out]; exact ownsRow_from HR5.out (fun g hg => Nat.le_trans hBw4.size (row_from HR5.out hg)), hBw4.trans (hB5.mono hBw4.size)⟩
        · have her := Lib.hid (show rbErr s t c b.length = 2 by unfold rbErr; rw [if_pos (by omega)])
          have hmc' : c < 0 ∨ 9007199254740992 < c := by omega
          go_enter Tryz.func35, Tryz.ntmps35
          go_wp2_with first
            | (go_at_call 65; (with_reducible refine (x6may_yes _ s hms.1 hms.2).mono ?_); rintro e w1 ⟨rfl, rfl⟩)
            | (go_at_call 65; (with_reducible refine (x6may_yes _ t hmt.1 hmt.2).mono ?_); rintro e w1 ⟨rfl, rfl⟩)
            | (go_at_call 65; (with_reducible refine (x6may_no _ c hmc').mono ?_); rintro e w1 ⟨rfl, rfl⟩)
          go_ret2
          exact RbPost.bad 2 her.out (by decide) hB0
      · have her := Lib.hid (show rbErr s t c b.length = 2 by unfold rbErr; rw [if_pos (by omega)])
        have hmt' : t < 0 ∨ 9007199254740992 < t := by omega
        go_enter Tryz.func35, Tryz.ntmps35
        go_wp2_with first
          | (go_at_call 65; (with_reducible refine (x6may_yes _ s hms.1 hms.2).mono ?_); rintro e w1 ⟨rfl, rfl⟩)
          | (go_at_call 65; (with_reducible refine (x6may_no _ t hmt').mono ?_); rintro e w1 ⟨rfl, rfl⟩)
        go_ret2
        exact RbPost.bad 2 her.out (by decide) hB0
  · have her := Lib.hid (show rbErr s t c b.length = 2 by unfold rbErr; rw [if_pos (by omega)])
    have hms' : s < 0 ∨ 9007199254740992 < s := by omega
    go_enter Tryz.func35, Tryz.ntmps35
    go_wp2_with (go_at_call 65; (with_reducible refine (x6may_no _ s hms').mono ?_); rintro e w1 ⟨rfl, rfl⟩)
    go_ret2
    exact RbPost.bad 2 her.out (by decide) hB0
end Go.Proofs.YtkacgmbinkoojaaGreatDoor

/-
  The document's roots (homesteadref06): Parse. (Printed by wip/gen/gen_parse6.py.)
-/
namespace Go.Proofs.YtkacgmbinkoojaaGreatDoor
open Go.RowKit Go.Maps Go.MapKept

theorem four_bytes {w : World} {base : Nat} {a : Option Addr} {c : Nat} {b : List UInt8} (h : w.ownsRow base 5 1 (.slice a b.length c) b.length (bcells b)) (h4 : 4 ≤ b.length) :
    ∃ (g : Nat) (x0 x1 x2 x3 : UInt8), a = some ⟨g, 0, none⟩ ∧ w.cell? ⟨g, 0, none⟩ = some (.int .u8 (x0.toNat : Int)) ∧ w.cell? ⟨g, 1, none⟩ = some (.int .u8 (x1.toNat : Int)) ∧ w.cell? ⟨g, 2, none⟩ = some (.int .u8 (x2.toNat : Int)) ∧ w.cell? ⟨g, 3, none⟩ = some (.int .u8 (x3.toNat : Int)) ∧ b.take 4 = [x0, x1, x2, x3] := by
  have hr := Rd.ofOwns h
  rcases h.2 with ⟨hv, h0⟩ | ⟨g, cap, cur, hv, _⟩
  · omega
  · cases hv
    have hc : ∀ k (hk : k < b.length), w.cell? ⟨g, k, none⟩ = some (.int .u8 (b[k].toNat : Int)) := by
      intro k hk
      rcases hr with ⟨_, h0⟩ | ⟨b', o', n', c', he, _, hc⟩
      · simp [bcells] at h0; subst h0; simp at h4
      · cases he
        have := hc k _ (bcells_at hk)
        rwa [Nat.zero_add] at this
    refine ⟨g, b[0], b[1], b[2], b[3], rfl, hc 0 (by omega), hc 1 (by omega), hc 2 (by omega), hc 3 (by omega), ?_⟩
    match b, h4 with
    | y0 :: y1 :: y2 :: y3 :: r, _ => rfl
theorem row_capL {w : World} {base : Nat} {a : Option Addr} {c : Nat} {l : List UInt8} (h : w.ownsRow base 5 1 (.slice a l.length c) l.length (bcells l)) : CapOk (.slice a l.length c) := by
  obtain ⟨_, _, hv1, hnc1, hcm1, _⟩ := row_slice (ownsRow_base0 h)
  cases hv1
  exact ⟨_, _, _, rfl, hnc1, hcm1⟩
theorem not_magic {b : List UInt8} (h : isMagic b ≠ true) : pRoot b = none := by rw [pRoot_num, if_neg h]
theorem short_magic {b : List UInt8} (h : b.length < 4) : pRoot b = none := by
  refine not_magic (fun hm => ?_)
  unfold isMagic at hm
  have := congrArg List.length (of_decide_eq_true hm)
  simp at this; omega
theorem pEnd_bad {l : List UInt8} {at_ s t c : Nat} (h : ∃ (er : Int) (bb : List UInt8) (k : Nat), gB (l.drop at_) 1048576 = (er, bb, k) ∧ (er ≠ 0 ∨ at_ + k < l.length)) : pNum l 3 at_ s t c = none := by
  obtain ⟨er, bb, k, hg, hb⟩ := h
  show pEnd l at_ s t c = none
  unfold pEnd
  rw [hg]
  by_cases h0 : er = 0
  · subst h0
    simp only
    rw [if_pos (by rcases hb with h | h; exact absurd rfl h; exact h)]
  · split
    · rename_i heq; simp only [Prod.mk.injEq] at heq; exact absurd heq.1 h0
    · rfl
theorem pEnd_good {l bb : List UInt8} {at_ s t c k : Nat} (hg : gB (l.drop at_) 1048576 = (0, bb, k)) (h : ¬ at_ + k < l.length) : pNum l 3 at_ s t c = some ⟨s, t, c, bb⟩ := by
  show pEnd l at_ s t c = _
  unfold pEnd
  rw [hg]
  simp only
  rw [if_neg h]
theorem gu_at {w : World} {a : Option Addr} {c at_ : Nat} {b : List UInt8} (er : Int) (n j : Nat) (hv : Rd w (.slice a b.length c) (bcells b)) (hcap : CapOk (.slice a b.length c)) (hat : at_ ≤ b.length) (hl : b.length ≤ 1000000000000) (hg : gU (b.drop at_) = (er, n, j)) :
    Calls Tryz.prog 93 #[.slice a b.length c, .int .i64 at_] w fun e w' => e = .returned (.tuple #[.int .u64 n, .int .i64 (if er = 0 then (at_ : Int) + j else 0), .int .i64 er]) ∧ Below w.heap.size w w' := by
  have h := x1GetUint_any w (.slice a b.length c) b at_ hv hcap hat hl
  unfold GuPost guVal guNext guErr at h
  rw [hg] at h
  exact h

set_option maxRecDepth 100000 in
set_option maxHeartbeats 16000000 in
theorem x6Parse_any (w : World) (v : Value) (l : List UInt8) (hv : Rd w v (bcells l)) (hcap : CapOk v) (hl : l.length ≤ 1000000000000) :
    Calls Tryz.prog 74 #[v] w (RpPost l w) := by
  obtain ⟨er, b, hun⟩ : ∃ er b, unsealL sumL l = (er, b) := ⟨_, _, rfl⟩
  have hpar := parse_un hun
  have hbl : b.length ≤ l.length := by
    unfold unsealL at hun
    split at hun
    · cases hun; simp
    · split at hun
      · cases hun; simp
      · cases hun; simp
  obtain ⟨W, hW⟩ : ∃ W, w.alloc (.cells #[.int .i64 0, .int .i64 0, .int .i64 0, .slice none 0 0] 35) = W := ⟨_, rfl⟩
  have hz0 : W.heap[w.heap.size]? = some (.cells #[.int .i64 0, .int .i64 0, .int .i64 0, .slice none 0 0] 35 (0, 0)) := by rw [← hW]; exact alloc_at _ _
  have hBW : Below w.heap.size w W := by rw [← hW]; exact (Below.refl _ _).alloc (Nat.le_refl _) _
  have hU := x1Unseal_any W v l (hv.below hBW) hcap (by omega)
  unfold UnPost at hU
  rw [hun] at hU
  simp only at hU
  obtain ⟨a, c, rfl⟩ := hv.shape
  rw [bcells_length] at hU ⊢
  have Hz0 := Lib.hid hz0
  have HU := Lib.hid hU
  have HW := Lib.hid hW
  have Hpar := Lib.hid hpar
  clear hz0 hU hun hpar hv hcap hW
  have hb12 : b.length ≤ 1000000000000 := by omega
  by_cases h0 : er = 0
  · subst h0
    have hpar2 := Hpar.out
    rw [if_pos rfl] at hpar2
    have hten : pRoot b = none → parseL sumL l = (10, none) := fun h => by rw [hpar2, h]
    have Hten := Lib.hid hten
    have Hpar2 := Lib.hid hpar2
    clear hpar2 hten
    go_enter Tryz.func74, Tryz.ntmps74
    by_cases h4 : b.length < 4
    · have h4' : (b.length : Int) < 4 := by omega
      have Hp := Lib.hid (Hten.out (short_magic h4))
      go_wp2_with (go_at_call 92; rw [HW.out]; refine HU.out.mono ?_; rintro e w1 ⟨a1, c1, rfl, hR, hB1⟩; have HR := Lib.hid hR; clear hR; obtain ⟨q0, q1, q2, q3, f0, f1, f2, f3⟩ := cellsZ ((hB1.block w.heap.size (blk_lt Hz0.out)).trans Hz0.out))
      refine bodyPost_ret (v := .tuple #[.agg #[.int .i64 0, .int .i64 0, .int .i64 0, .slice none 0 0], .int .i64 10]) (by simp [results, Tryz.results74, go_sem, q0, q1, q2, q3]) rfl (RpPost.bad 10 Hp.out ?_)
      exact ((((hBW.trans (hB1.mono hBW.size)).setCell (Nat.le_refl _) _).setCell (Nat.le_refl _) _).setCell (Nat.le_refl _) _).setCell (Nat.le_refl _) _
    · have h4' : ¬ (b.length : Int) < 4 := by omega
      go_wp2_with fail
      rw [HW.out]
      refine HU.out.mono ?_
      rintro e w1 ⟨a1, c1, rfl, hR, hB1⟩
      have HR := Lib.hid hR
      have Hz1 := Lib.hid ((hB1.block w.heap.size (blk_lt Hz0.out)).trans Hz0.out)
      obtain ⟨q0, q1, q2, q3, f0, f1, f2, f3⟩ := cellsZ Hz1.out
      have hBw := hBW.trans (hB1.mono hBW.size)
      obtain ⟨g, x0, x1, x2, x3, rfl, c0, c1', c2, c3, htk⟩ := four_bytes hR (by omega)
      have hcap1 := row_capL hR
      clear hR hB1 hBW Hz0 HU HW
      have hmag : ∀ (h : x0.toNat = 72 ∧ x1.toNat = 83 ∧ x2.toNat = 82 ∧ x3.toNat = 49), isMagic b = true := fun h => by
        unfold isMagic
        rw [htk, show x0 = 72 from UInt8.toNat_inj.1 h.1, show x1 = 83 from UInt8.toNat_inj.1 h.2.1, show x2 = 82 from UInt8.toNat_inj.1 h.2.2.1, show x3 = 49 from UInt8.toNat_inj.1 h.2.2.2]
        rfl
      have hnot : (x0.toNat ≠ 72 ∨ x1.toNat ≠ 83 ∨ x2.toNat ≠ 82 ∨ x3.toNat ≠ 49) → pRoot b = none := fun h => by
        refine not_magic (fun hm => ?_)
        unfold isMagic at hm
        have he := of_decide_eq_true hm
        rw [htk] at he
        simp only [List.cons.injEq] at he
        obtain ⟨r0, r1, r2, r3, _⟩ := he
        subst r0 r1 r2 r3
        rcases h with h | h | h | h <;> exact h rfl
      obtain ⟨n0, hn0⟩ : ∃ n, x0.toNat = n := ⟨_, rfl⟩
      obtain ⟨n1, hn1⟩ : ∃ n, x1.toNat = n := ⟨_, rfl⟩
      obtain ⟨n2, hn2⟩ : ∃ n, x2.toNat = n := ⟨_, rfl⟩
      obtain ⟨n3, hn3⟩ : ∃ n, x3.toNat = n := ⟨_, rfl⟩
      rw [hn0, hn1, hn2, hn3] at hmag hnot
      rw [hn0] at c0
      rw [hn1] at c1'
      rw [hn2] at c2
      rw [hn3] at c3
      have Hmag := Lib.hid hmag
      have Hnot := Lib.hid hnot
      clear hmag hnot hn0 hn1 hn2 hn3 htk
      by_cases ne0 : n0 = 72
      rotate_left
      · have ne := ne0
        have nb : ((n0 : Int) != 72) = true := by simp; omega
        have Hp := Lib.hid (Hten.out (Hnot.out (Or.inl ne)))
        clear ne ne0
        go_wp2_with fail
        refine bodyPost_ret (v := .tuple #[.agg #[.int .i64 0, .int .i64 0, .int .i64 0, .slice none 0 0], .int .i64 10]) (by simp [results, Tryz.results74, go_sem, q0, q1, q2, q3]) rfl (RpPost.bad 10 Hp.out ?_)
        exact ((((hBw).setCell (Nat.le_refl _) _).setCell (Nat.le_refl _) _).setCell (Nat.le_refl _) _).setCell (Nat.le_refl _) _
      subst ne0
      by_cases ne1 : n1 = 83
      rotate_left
      · have ne := ne1
        have nb : ((n1 : Int) != 83) = true := by simp; omega
        have Hp := Lib.hid (Hten.out (Hnot.out (Or.inr (Or.inl ne))))
        clear ne ne1
        go_wp2_with fail
        refine bodyPost_ret (v := .tuple #[.agg #[.int .i64 0, .int .i64 0, .int .i64 0, .slice none 0 0], .int .i64 10]) (by simp [results, Tryz.results74, go_sem, q0, q1, q2, q3]) rfl (RpPost.bad 10 Hp.out ?_)
        exact ((((hBw).setCell (Nat.le_refl _) _).setCell (Nat.le_refl _) _).setCell (Nat.le_refl _) _).setCell (Nat.le_refl _) _
      subst ne1
      by_cases ne2 : n2 = 82
      rotate_left
      · have ne := ne2
        have nb : ((n2 : Int) != 82) = true := by simp; omega
        have Hp := Lib.hid (Hten.out (Hnot.out (Or.inr (Or.inr (Or.inl ne)))))
        clear ne ne2
        go_wp2_with fail
        refine bodyPost_ret (v := .tuple #[.agg #[.int .i64 0, .int .i64 0, .int .i64 0, .slice none 0 0], .int .i64 10]) (by simp [results, Tryz.results74, go_sem, q0, q1, q2, q3]) rfl (RpPost.bad 10 Hp.out ?_)
        exact ((((hBw).setCell (Nat.le_refl _) _).setCell (Nat.le_refl _) _).setCell (Nat.le_refl _) _).setCell (Nat.le_refl _) _
      subst ne2
      by_cases ne3 : n3 = 49
      rotate_left
      · have ne := ne3
        have nb : ((n3 : Int) != 49) = true := by simp; omega
        have Hp := Lib.hid (Hten.out (Hnot.out (Or.inr (Or.inr (Or.inr (ne))))))
        clear ne ne3
        go_wp2_with fail
        refine bodyPost_ret (v := .tuple #[.agg #[.int .i64 0, .int .i64 0, .int .i64 0, .slice none 0 0], .int .i64 10]) (by simp [results, Tryz.results74, go_sem, q0, q1, q2, q3]) rfl (RpPost.bad 10 Hp.out ?_)
        exact ((((hBw).setCell (Nat.le_refl _) _).setCell (Nat.le_refl _) _).setCell (Nat.le_refl _) _).setCell (Nat.le_refl _) _
      subst ne3
      have hnum : pRoot b = pNum b 0 4 0 0 0 := by rw [pRoot_num, if_pos (Hmag.out ⟨rfl, rfl, rfl, rfl⟩)]
      have Hnum := Lib.hid hnum
      clear hnum Hmag Hnot
      go_wp2_with fail
      clear c0 c1' c2 c3 q0 q1 q2 q3 f0 f1 f2 f3
      have HRd := Lib.hid (Rd.ofOwns HR.out)
      obtain ⟨er0, y0, j0, hgu0⟩ : ∃ er n j, gU (b.drop (4 : Nat)) = (er, n, j) := ⟨_, _, _, rfl⟩
      have hG0 := gu_at (w := w1) (a := some ⟨g, 0, none⟩) (c := c1) (at_ := (4 : Nat)) er0 y0 j0 HRd.out hcap1 (by omega) hb12 hgu0
      rw [show (((4 : Nat) : Nat) : Int) = 4 from rfl] at hG0
      have Hgu0 := Lib.hid hgu0
      have HG0 := Lib.hid hG0
      clear hG0 hgu0
      refine HG0.out.mono ?_
      rintro e w2 ⟨rfl, hB2⟩
      have hBw2 := hBw.trans (hB2.mono hBw.size)
      have Hz2 := Lib.hid ((hB2.block w.heap.size (blk_lt Hz1.out)).trans Hz1.out)
      have HRd2 := Lib.hid (HRd.out.below hB2)
      obtain ⟨q0, q1, q2, q3, f0, f1, f2, f3⟩ := cellsZ Hz2.out
      by_cases hz0 : er0 = 0
      rotate_left
      · have nb : (er0 != 0) = true := by simpa using hz0
        have Hp := Lib.hid (Hten.out (by rw [Hnum.out]; exact pNum_bad (by omega) ⟨_, Hgu0.out, Or.inl hz0⟩))
        rw [if_neg hz0]
        clear hz0
        go_wp2_with fail
        refine bodyPost_ret (v := .tuple #[.agg #[.int .i64 0, .int .i64 0, .int .i64 0, .slice none 0 0], .int .i64 10]) (by simp [results, Tryz.results74, go_sem, q0, q1, q2, q3]) rfl (RpPost.bad 10 Hp.out ?_)
        exact ((((hBw2).setCell (Nat.le_refl _) _).setCell (Nat.le_refl _) _).setCell (Nat.le_refl _) _).setCell (Nat.le_refl _) _
      subst hz0
      rw [if_pos rfl]
      obtain ⟨_, _, hj0, hj0', hn0⟩ := gU_ok Hgu0.out
      rw [List.length_drop] at hj0
      by_cases ho0 : y0 = 0
      · have Hp := Lib.hid (Hten.out (by rw [Hnum.out]; exact pNum_bad (by omega) ⟨_, Hgu0.out, Or.inr (Or.inr ⟨rfl, ho0⟩)⟩))
        have ho1 : (y0 : Int) < 1 := by omega
        clear ho0
        go_wp2_with fail
        refine bodyPost_ret (v := .tuple #[.agg #[.int .i64 0, .int .i64 0, .int .i64 0, .slice none 0 0], .int .i64 10]) (by simp [results, Tryz.results74, go_sem, q0, q1, q2, q3]) rfl (RpPost.bad 10 Hp.out ?_)
        exact ((((hBw2).setCell (Nat.le_refl _) _).setCell (Nat.le_refl _) _).setCell (Nat.le_refl _) _).setCell (Nat.le_refl _) _
      have ho1 : ¬ (y0 : Int) < 1 := by omega
      by_cases hg0 : 9007199254740992 < y0
      · have hg' : (9007199254740992 : Int) < (y0 : Int) := by omega
        have Hp := Lib.hid (Hten.out (by rw [Hnum.out]; exact pNum_bad (by omega) ⟨_, Hgu0.out, Or.inr (Or.inl hg0)⟩))
        go_wp2_with fail
        refine bodyPost_ret (v := .tuple #[.agg #[.int .i64 0, .int .i64 0, .int .i64 0, .slice none 0 0], .int .i64 10]) (by simp [results, Tryz.results74, go_sem, q0, q1, q2, q3]) rfl (RpPost.bad 10 Hp.out ?_)
        exact ((((hBw2).setCell (Nat.le_refl _) _).setCell (Nat.le_refl _) _).setCell (Nat.le_refl _) _).setCell (Nat.le_refl _) _
      have hg' : ¬ (9007199254740992 : Int) < (y0 : Int) := by omega
      have hnum0 := pNum_good0 Hgu0.out (by omega) ho0
      obtain ⟨at1, hat1⟩ : ∃ x : Nat, x = (4 : Nat) + j0 := ⟨_, rfl⟩
      have hai1 : (4 : Int) + (j0 : Int) = (at1 : Int) := by omega
      have hal1 : at1 ≤ b.length := by omega
      have Hnum1 := Lib.hid (Hnum.out.trans (hnum0.trans (by rw [← hat1])))
      rw [hai1]
      clear hnum0 hat1 hai1 hj0 hj0'
      go_wp2_with fail
      clear q0 q1 q2 q3 f0 f1 f2 f3
      obtain ⟨er1, y1, j1, hgu1⟩ : ∃ er n j, gU (b.drop at1) = (er, n, j) := ⟨_, _, _, rfl⟩
      have hG1 := gu_at (w := w2) (a := some ⟨g, 0, none⟩) (c := c1) (at_ := at1) er1 y1 j1 HRd2.out hcap1 hal1 hb12 hgu1
      have Hgu1 := Lib.hid hgu1
      have HG1 := Lib.hid hG1
      clear hG1 hgu1
      refine HG1.out.mono ?_
      rintro e w3 ⟨rfl, hB3⟩
      have hBw3 := hBw2.trans (hB3.mono hBw2.size)
      have Hz3 := Lib.hid ((hB3.block w.heap.size (blk_lt Hz2.out)).trans Hz2.out)
      have HRd3 := Lib.hid (HRd2.out.below hB3)
      obtain ⟨q0, q1, q2, q3, f0, f1, f2, f3⟩ := cellsZ Hz3.out
      by_cases hz1 : er1 = 0
      rotate_left
      · have nb : (er1 != 0) = true := by simpa using hz1
        have Hp := Lib.hid (Hten.out (by rw [Hnum1.out]; exact pNum_bad (by omega) ⟨_, Hgu1.out, Or.inl hz1⟩))
        rw [if_neg hz1]
        clear hz1
        go_wp2_with fail
        refine bodyPost_ret (v := .tuple #[.agg #[.int .i64 0, .int .i64 0, .int .i64 0, .slice none 0 0], .int .i64 10]) (by simp [results, Tryz.results74, go_sem, q0, q1, q2, q3]) rfl (RpPost.bad 10 Hp.out ?_)
        exact ((((hBw3).setCell (Nat.le_refl _) _).setCell (Nat.le_refl _) _).setCell (Nat.le_refl _) _).setCell (Nat.le_refl _) _
      subst hz1
      rw [if_pos rfl]
      obtain ⟨_, _, hj1, hj1', hn1⟩ := gU_ok Hgu1.out
      rw [List.length_drop] at hj1
      by_cases hg1 : 9007199254740992 < y1
      · have hg' : (9007199254740992 : Int) < (y1 : Int) := by omega
        have Hp := Lib.hid (Hten.out (by rw [Hnum1.out]; exact pNum_bad (by omega) ⟨_, Hgu1.out, Or.inr (Or.inl hg1)⟩))
        go_wp2_with fail
        refine bodyPost_ret (v := .tuple #[.agg #[.int .i64 0, .int .i64 0, .int .i64 0, .slice none 0 0], .int .i64 10]) (by simp [results, Tryz.results74, go_sem, q0, q1, q2, q3]) rfl (RpPost.bad 10 Hp.out ?_)
        exact ((((hBw3).setCell (Nat.le_refl _) _).setCell (Nat.le_refl _) _).setCell (Nat.le_refl _) _).setCell (Nat.le_refl _) _
      have hg' : ¬ (9007199254740992 : Int) < (y1 : Int) := by omega
      have hnum1 := pNum_good1 (s := y0) Hgu1.out (by omega)
      obtain ⟨at2, hat2⟩ : ∃ x : Nat, x = at1 + j1 := ⟨_, rfl⟩
      have hai2 : (at1 : Int) + (j1 : Int) = (at2 : Int) := by omega
      have hal2 : at2 ≤ b.length := by omega
      have Hnum2 := Lib.hid (Hnum1.out.trans (hnum1.trans (by rw [← hat2])))
      rw [hai2]
      clear hnum1 hat2 hai2 hj1 hj1'
      go_wp2_with fail
      clear q0 q1 q2 q3 f0 f1 f2 f3
      obtain ⟨er2, y2, j2, hgu2⟩ : ∃ er n j, gU (b.drop at2) = (er, n, j) := ⟨_, _, _, rfl⟩
      have hG2 := gu_at (w := w3) (a := some ⟨g, 0, none⟩) (c := c1) (at_ := at2) er2 y2 j2 HRd3.out hcap1 hal2 hb12 hgu2
      have Hgu2 := Lib.hid hgu2
      have HG2 := Lib.hid hG2
      clear hG2 hgu2
      refine HG2.out.mono ?_
      rintro e w4 ⟨rfl, hB4⟩
      have hBw4 := hBw3.trans (hB4.mono hBw3.size)
      have Hz4 := Lib.hid ((hB4.block w.heap.size (blk_lt Hz3.out)).trans Hz3.out)
      have HRd4 := Lib.hid (HRd3.out.below hB4)
      obtain ⟨q0, q1, q2, q3, f0, f1, f2, f3⟩ := cellsZ Hz4.out
      by_cases hz2 : er2 = 0
      rotate_left
      · have nb : (er2 != 0) = true := by simpa using hz2
        have Hp := Lib.hid (Hten.out (by rw [Hnum2.out]; exact pNum_bad (by omega) ⟨_, Hgu2.out, Or.inl hz2⟩))
        rw [if_neg hz2]
        clear hz2
        go_wp2_with fail
        refine bodyPost_ret (v := .tuple #[.agg #[.int .i64 0, .int .i64 0, .int .i64 0, .slice none 0 0], .int .i64 10]) (by simp [results, Tryz.results74, go_sem, q0, q1, q2, q3]) rfl (RpPost.bad 10 Hp.out ?_)
        exact ((((hBw4).setCell (Nat.le_refl _) _).setCell (Nat.le_refl _) _).setCell (Nat.le_refl _) _).setCell (Nat.le_refl _) _
      subst hz2
      rw [if_pos rfl]
      obtain ⟨_, _, hj2, hj2', hn2⟩ := gU_ok Hgu2.out
      rw [List.length_drop] at hj2
      by_cases hg2 : 9007199254740992 < y2
      · have hg' : (9007199254740992 : Int) < (y2 : Int) := by omega
        have Hp := Lib.hid (Hten.out (by rw [Hnum2.out]; exact pNum_bad (by omega) ⟨_, Hgu2.out, Or.inr (Or.inl hg2)⟩))
        go_wp2_with fail
        refine bodyPost_ret (v := .tuple #[.agg #[.int .i64 0, .int .i64 0, .int .i64 0, .slice none 0 0], .int .i64 10]) (by simp [results, Tryz.results74, go_sem, q0, q1, q2, q3]) rfl (RpPost.bad 10 Hp.out ?_)
        exact ((((hBw4).setCell (Nat.le_refl _) _).setCell (Nat.le_refl _) _).setCell (Nat.le_refl _) _).setCell (Nat.le_refl _) _
      have hg' : ¬ (9007199254740992 : Int) < (y2 : Int) := by omega
      have hnum2 := pNum_good2 (s := y0) (t := y1) Hgu2.out (by omega)
      obtain ⟨at3, hat3⟩ : ∃ x : Nat, x = at2 + j2 := ⟨_, rfl⟩
      have hai3 : (at2 : Int) + (j2 : Int) = (at3 : Int) := by omega
      have hal3 : at3 ≤ b.length := by omega
      have Hnum3 := Lib.hid (Hnum2.out.trans (hnum2.trans (by rw [← hat3])))
      rw [hai3]
      clear hnum2 hat3 hai3 hj2 hj2'
      go_wp2_with fail
      clear q0 q1 q2 q3 f0 f1 f2 f3
      obtain ⟨er3, bb, j3, hgb⟩ : ∃ er bb j, gB (b.drop at3) 1048576 = (er, bb, j) := ⟨_, _, _, rfl⟩
      have hG := x1GetBlob_any w4 (.slice (some ⟨g, 0, none⟩) b.length c1) b at3 1048576 HRd4.out hcap1 hal3 hb12 (by omega)
      unfold GbPost at hG
      rw [hgb, show (((1048576 : Nat) : Nat) : Int) = 1048576 from rfl] at hG
      simp only at hG
      have Hgb := Lib.hid hgb
      have HG := Lib.hid hG
      clear hG hgb
      refine HG.out.mono ?_
      rintro e w5 ⟨a5, c5, rfl, hR5, hB5⟩
      have HR5 := Lib.hid hR5
      have hBw5 := hBw4.trans (hB5.mono hBw4.size)
      obtain ⟨q0, q1, q2, q3, f0, f1, f2, f3⟩ := cellsZ ((hB5.block w.heap.size (blk_lt Hz4.out)).trans Hz4.out)
      clear hR5
      by_cases hz3 : er3 = 0
      rotate_left
      · have nb : (er3 != 0) = true := by simpa using hz3
        have Hp := Lib.hid (Hten.out (by rw [Hnum3.out]; exact pEnd_bad ⟨_, _, _, Hgb.out, Or.inl hz3⟩))
        rw [if_neg hz3]
        clear hz3
        go_wp2_with fail
        refine bodyPost_ret (v := .tuple #[.agg #[.int .i64 0, .int .i64 0, .int .i64 0, .slice none 0 0], .int .i64 10]) (by simp [results, Tryz.results74, go_sem, q0, q1, q2, q3]) rfl (RpPost.bad 10 Hp.out ?_)
        exact ((((hBw5).setCell (Nat.le_refl _) _).setCell (Nat.le_refl _) _).setCell (Nat.le_refl _) _).setCell (Nat.le_refl _) _
      subst hz3
      rw [if_pos rfl]
      have hbb := gB_len Hgb.out
      rw [List.length_drop] at hbb
      by_cases hlt : at3 + j3 < b.length
      · have nb : (((at3 : Int) + (j3 : Int)) != (b.length : Int)) = true := by simp; omega
        have Hp := Lib.hid (Hten.out (by rw [Hnum3.out]; exact pEnd_bad ⟨_, _, _, Hgb.out, Or.inr hlt⟩))
        go_wp2_with fail
        refine bodyPost_ret (v := .tuple #[.agg #[.int .i64 0, .int .i64 0, .int .i64 0, .slice none 0 0], .int .i64 10]) (by simp [results, Tryz.results74, go_sem, q0, q1, q2, q3]) rfl (RpPost.bad 10 Hp.out ?_)
        exact ((((hBw5).setCell (Nat.le_refl _) _).setCell (Nat.le_refl _) _).setCell (Nat.le_refl _) _).setCell (Nat.le_refl _) _
      have nb : (((at3 : Int) + (j3 : Int)) != (b.length : Int)) = false := by simp; omega
      have hp : parseL sumL l = (0, some ⟨y0, y1, y2, bb⟩) := by rw [Hpar2.out, Hnum3.out, pEnd_good Hgb.out hlt]
      have Hp := Lib.hid hp
      have hzl := blk_lt Hz4.out
      clear hp
      go_wp2_with fail
      refine bodyPost_ret (v := .tuple #[rootV y0 y1 y2 (.slice a5 bb.length c5), .int .i64 0]) (by simp [results, Tryz.results74, go_sem, rootV, q0, q1, q2, q3]) rfl (RpPost.good ⟨y0, y1, y2, bb⟩ Hp.out a5 c5 ?_ ?_)
      · have hU4 := setCell4_upd (w := w5) (b := w.heap.size) (.int .i64 y0) (.int .i64 y1) (.int .i64 y2) (.slice a5 bb.length c5)
        exact hU4.row (ownsRow_from HR5.out (fun g hg => Nat.le_trans hBw4.size (row_from HR5.out hg))) (fun g hg e => by have := row_from HR5.out hg; omega)
      · exact ((((hBw5).setCell (Nat.le_refl _) _).setCell (Nat.le_refl _) _).setCell (Nat.le_refl _) _).setCell (Nat.le_refl _) _
  · have hpar2 := Hpar.out
    rw [if_neg h0] at hpar2
    have nb : (er != 0) = true := by simpa using h0
    have Hpar2 := Lib.hid hpar2
    clear hpar2 h0
    go_enter Tryz.func74, Tryz.ntmps74
    go_wp2_with (go_at_call 92; rw [HW.out]; refine HU.out.mono ?_; rintro e w1 ⟨a1, c1, rfl, hR, hB1⟩; have HR := Lib.hid hR; clear hR; obtain ⟨q0, q1, q2, q3, f0, f1, f2, f3⟩ := cellsZ ((hB1.block w.heap.size (blk_lt Hz0.out)).trans Hz0.out))
    refine bodyPost_ret (v := .tuple #[.agg #[.int .i64 0, .int .i64 0, .int .i64 0, .slice none 0 0], .int .i64 er]) (by simp [results, Tryz.results74, go_sem, q0, q1, q2, q3]) rfl (RpPost.bad er Hpar2.out ?_)
    exact ((((hBW.trans (hB1.mono hBW.size)).setCell (Nat.le_refl _) _).setCell (Nat.le_refl _) _).setCell (Nat.le_refl _) _).setCell (Nat.le_refl _) _
end Go.Proofs.YtkacgmbinkoojaaGreatDoor
