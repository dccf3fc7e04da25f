/-
  Package bytes: what GetBlob tells.
-/
import Derived.Outline
import Derived.Test.YtnagejhpdhdpfaaGreatDoorByt2
namespace Go.Proofs.YtnagejhpdhdpfaaGreatDoor
open Go.RowKit Go.Maps Go.MapKept

theorem row_from {w : World} {base : Nat} {e : TypeId} {sz n : Nat} {v : Value} {xs : List Value} (h : w.ownsRow base e sz v n xs) {g : Nat} (hg : v.ownBlock = some g) : base ≤ g := (h.lt g hg).1
def GbPost (l : List UInt8) (at_ most : Nat) (w : World) (e : Ending) (w' : World) : Prop :=
  ∃ a c, e = .returned (.tuple #[.slice a (gB l most).2.1.length c, .int .i64 (if (gB l most).1 = 0 then at_ + (gB l most).2.2 else 0), .int .i64 (gB l most).1]) ∧
    w'.ownsRow w.heap.size 5 1 (.slice a (gB l most).2.1.length c) (gB l most).2.1.length (bcells (gB l most).2.1) ∧ Below w.heap.size w w'
theorem GbPost.bad {l : List UInt8} {at_ most : Nat} {w w' : World} {er : Int} (h : gB l most = (er, [], 0)) (h0 : er ≠ 0) (hB : Below w.heap.size w w') : GbPost l at_ most w (.returned (.tuple #[.slice none 0 0, .int .i64 0, .int .i64 er])) w' := by
  refine ⟨none, 0, ?_, ?_, hB⟩
  · rw [h]; simp [h0]
  · rw [h]; exact World.ownsRow_nil _ _ _ _

set_option maxRecDepth 100000 in
set_option maxHeartbeats 8000000 in
theorem bGetBlob_any (w : World) (v : Value) (l : List UInt8) (at_ most : Nat) (hv : Rd w v (bcells l)) (hcap : CapOk v) (hat : at_ ≤ l.length) (hl : l.length ≤ 140737488355328) (hmo : most ≤ 9223372036854775807) :
    Calls Tryz.prog 46 #[v, .int .i64 at_, .int .i64 most] w (GbPost (l.drop at_) at_ most w) := by
  have hG := bGetUint_any w v l at_ hv hcap hat hl
  obtain ⟨a, c, rfl⟩ := hv.shape
  obtain ⟨_, _, _, he, hnc, hcm⟩ := hcap
  cases he
  rw [bcells_length] at hv hnc hG ⊢
  simp only [maxLen] at hcm
  obtain ⟨er, n, k, hgu⟩ : ∃ er n k, gU (l.drop at_) = (er, n, k) := ⟨_, _, _, rfl⟩
  unfold GuPost guVal guNext guErr at hG
  rw [hgu] at hG
  simp only at hG
  have hm0 : ¬ (most : Int) < 0 := by omega
  have hmc : (most : Int) ≤ 9223372036854775807 := by omega
  by_cases h0 : er = 0
  · subst h0
    simp only [if_true] at hG
    obtain ⟨x1, x2, hk1, hk2, hn64⟩ := gU_ok hgu
    clear x1 x2
    rw [List.length_drop] at hk1
    have hgb : gB (l.drop at_) most = if most < n then (3, [], 0) else if (l.drop at_).length - k < n then (11, [], 0) else (0, ((l.drop at_).drop k).take n, k + n) := by
      unfold gB; rw [hgu]; simp only
    by_cases h1 : most < n
    · rw [if_pos h1] at hgb
      have hlt : (most : Int) < (n : Int) := by omega
      have Hgb := Lib.hid hgb
      have HG := Lib.hid hG
      clear hgb hgu hG hv
      go_enter Tryz.func46, Tryz.ntmps46
      go_wp2_with (go_at_call 45; refine HG.out.mono ?_; rintro e w1 ⟨rfl, hB⟩)
      go_ret3
      exact GbPost.bad Hgb.out (by decide) hB
    · rw [if_neg h1] at hgb
      have hnm : ¬ (most : Int) < (n : Int) := by omega
      obtain ⟨D, hD⟩ : ∃ D : Nat, (l.length : Int) - ((at_ : Int) + k) = D := ⟨l.length - (at_ + k), by omega⟩
      have hD2 : (l.drop at_).length - k = D := by rw [List.length_drop]; omega
      rw [hD2] at hgb
      by_cases h2 : D < n
      · rw [if_pos h2] at hgb
        have h2' : (D : Int) < (n : Int) := by omega
        have Hgb := Lib.hid hgb
        have HG := Lib.hid hG
        clear hgb hgu hG hv hD2
        go_enter Tryz.func46, Tryz.ntmps46
        go_wp2_with (go_at_call 45; refine HG.out.mono ?_; rintro e w1 ⟨rfl, hB⟩)
        go_ret3
        exact GbPost.bad Hgb.out (by decide) hB
      · rw [if_neg h2] at hgb
        have h2' : ¬ (D : Int) < (n : Int) := by omega
        obtain ⟨b, hb⟩ : ∃ b, ((l.drop at_).drop k).take n = b := ⟨_, rfl⟩
        rw [hb] at hgb
        have hbl : b.length = n := by rw [← hb]; simp; omega
        have hfit : at_ + k + n ≤ l.length := by omega
        have hbc : ((bcells l).drop (at_ + k)).take n = bcells b := by rw [← hb, List.drop_drop]; simp [bcells, List.map_drop, List.map_take]
        have Hgb := Lib.hid hgb
        have HG := Lib.hid hG
        have Hbl := Lib.hid hbl
        by_cases hca : c = at_ + k
        · obtain rfl : n = 0 := by omega
          subst hca
          have hb0 : b = [] := List.eq_nil_of_length_eq_zero hbl
          have hsub : ∀ w, Rd w (.slice a 0 0) (bcells b) := fun w => by rw [hb0]; exact rd_none w a
          have Hsub := Lib.hid hsub
          clear hgb hgu hG hv hD2 hb hbl hbc hb0 hsub
          go_enter Tryz.func46, Tryz.ntmps46
          go_wp2_with first
            | (go_at_call 45; refine HG.out.mono ?_; rintro e w1 ⟨rfl, hB⟩)
            | (go_at_call 83; refine (slClone_any _ _ b (Hsub.out _) (by rw [Hbl.out]; omega)).mono ?_; rw [Hbl.out]; rintro e w2 ⟨a2, c2, rfl, hrow, hB2⟩; have Hrow := Lib.hid hrow; clear hrow)
          go_ret3
          exact ⟨a2, c2, by rw [Hgb.out]; (simp [Hbl.out] <;> omega), by rw [Hgb.out]; simp only; rw [Hbl.out]; exact ownsRow_from Hrow.out (fun g hg => Nat.le_trans hB.size (row_from Hrow.out hg)), hB.trans (hB2.mono hB.size)⟩
        · have hsub := rd_sub hv (at_ + k) n hfit hca
          rw [hbc] at hsub
          have Hsub := Lib.hid hsub
          clear hgb hgu hG hv hD2 hb hbl hbc hsub
          go_enter Tryz.func46, Tryz.ntmps46
          go_wp2_with first
            | (go_at_call 45; refine HG.out.mono ?_; rintro e w1 ⟨rfl, hB⟩)
            | (go_at_call 83; refine (slClone_any _ _ b (Hsub.out.below hB) (by rw [Hbl.out]; omega)).mono ?_; rw [Hbl.out]; rintro e w2 ⟨a2, c2, rfl, hrow, hB2⟩; have Hrow := Lib.hid hrow; clear hrow)
          go_ret3
          exact ⟨a2, c2, by rw [Hgb.out]; (simp [Hbl.out] <;> omega), by rw [Hgb.out]; simp only; rw [Hbl.out]; exact ownsRow_from Hrow.out (fun g hg => Nat.le_trans hB.size (row_from Hrow.out hg)), hB.trans (hB2.mono hB.size)⟩
  · have hgb : gB (l.drop at_) most = (er, [], 0) := by
      unfold gB
      rw [hgu]
      split
      · rename_i heq; simp only [Prod.mk.injEq] at heq; exact absurd heq.1 h0
      · rename_i heq; simp only [Prod.mk.injEq] at heq; rw [heq.1]
    rw [if_neg h0] at hG
    have h0b : (er != 0) = true := by simpa using h0
    have Hgb := Lib.hid hgb
    have HG := Lib.hid hG
    have H0 := Lib.hid h0
    clear hgb hgu hG hv h0
    go_enter Tryz.func46, Tryz.ntmps46
    go_wp2_with (go_at_call 45; refine HG.out.mono ?_; rintro e w1 ⟨rfl, hB⟩)
    go_ret3
    exact GbPost.bad Hgb.out H0.out hB
end Go.Proofs.YtnagejhpdhdpfaaGreatDoor
