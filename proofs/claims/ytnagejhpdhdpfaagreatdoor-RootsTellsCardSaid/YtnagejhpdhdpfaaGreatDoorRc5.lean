/-
  The document's bytes (homesteadref01): Unseal.
-/
import Derived.Outline
import Derived.Test.YtnagejhpdhdpfaaGreatDoorRc4
namespace Go.Proofs.YtnagejhpdhdpfaaGreatDoor
open Go.RowKit Go.Maps Go.MapKept

set_option maxRecDepth 100000 in
set_option maxHeartbeats 4000000 in
theorem x1Unseal_any (w : World) (v : Value) (l : List UInt8) (hv : Rd w v (bcells l)) (hcap : CapOk v) (hl : l.length ≤ 1099511627776) :
    Calls Tryz.prog 47 #[v] w (UnPost l w) := by
  obtain ⟨a, c, rfl⟩ := hv.shape
  obtain ⟨_, _, _, he, hnc, hcm⟩ := hcap
  cases he
  rw [bcells_length] at hv hnc ⊢
  simp only [maxLen] at hcm
  by_cases h4 : l.length < 4
  · have hun : unsealL sumL l = (11, []) := by unfold unsealL; rw [if_pos h4]
    have h4' : (l.length : Int) - 4 < 0 := by omega
    have Hun := Lib.hid hun
    clear hun hv
    go_enter Tryz.func47, Tryz.ntmps47
    go_wp2
    go_ret2
    exact UnPost.bad Hun.out (Below.refl _ _)
  · obtain ⟨k, hk⟩ : ∃ k : Nat, (l.length : Int) - 4 = k := ⟨l.length - 4, by omega⟩
    have hkl : l.length - 4 = k := by omega
    obtain ⟨b, hb⟩ : ∃ b, l.take k = b := ⟨_, rfl⟩
    have hbl : b.length = k := by rw [← hb]; simp; omega
    have hsub := rd_prefix hv k (by omega)
    rw [← bcells_take, hb] at hsub
    have hun : unsealL sumL l = if b ++ sumL b = l then (0, b) else (12, []) := by
      unfold unsealL sealL; rw [if_neg h4, hkl, hb]
    have hkc : (k : Int) ≤ c := by omega
    have hb1 : b.length ≤ 1099511627776 := by omega
    obtain ⟨r, hr⟩ : ∃ r, sealL sumL b = r := ⟨_, rfl⟩
    have hun2 : unsealL sumL l = if r = l then (0, b) else (12, []) := by rw [hun, ← hr]; rfl
    have hS : ∀ w' u, Rd w' u (bcells b) → _ := fun w' u hu => x1Seal_any w' u b hu hb1
    rw [hr] at hS
    have HS := Lib.hid hS
    have Hv := Lib.hid hv
    have Hsub := Lib.hid hsub
    have Hbl := Lib.hid hbl
    clear hv hsub hkl hb hbl hr hS hun
    by_cases hs : r = l
    · have hd : decide (r = l) = true := by simpa using hs
      rw [if_pos hs] at hun2
      have Hun := Lib.hid hun2
      have Hd := Lib.hid hd
      clear hun2 hs hd
      go_enter Tryz.func47, Tryz.ntmps47
      go_wp2_with first
        | (go_at_call 36; refine (behind_nil _ _ b Hsub.out (by omega)).mono ?_; rw [Hbl.out]; rintro e w1 ⟨a1, c1, rfl, hR1, hB1⟩; have HR1 := Lib.hid hR1; clear hR1)
        | (go_at_call 6; refine (HS.out _ _ (Rd.ofOwns HR1.out)).mono ?_; rintro e w2 ⟨a2, c2, rfl, hR2, hB2⟩; have HR2 := Lib.hid hR2; clear hR2)
        | (go_at_call 87; refine (x1equal_any w2 _ _ r l (Rd.ofOwns HR2.out) ((Hv.out.below hB1).below hB2)).mono ?_; rw [Hd.out]; rintro e w3 ⟨rfl, rfl⟩)
      go_ret2
      exact ⟨a1, c1, by rw [Hun.out]; simp only [Hbl.out]; rfl, by rw [Hun.out]; simp only [Hbl.out]; exact (Upd.ofBelow (fp := noFp) hB2).row HR1.out (fun _ _ h => h), hB1.trans (hB2.mono hB1.size)⟩
    · have hd : decide (r = l) = false := by simpa using hs
      rw [if_neg hs] at hun2
      have Hun := Lib.hid hun2
      have Hd := Lib.hid hd
      clear hun2 hs hd
      go_enter Tryz.func47, Tryz.ntmps47
      go_wp2_with first
        | (go_at_call 36; refine (behind_nil _ _ b Hsub.out (by omega)).mono ?_; rw [Hbl.out]; rintro e w1 ⟨a1, c1, rfl, hR1, hB1⟩; have HR1 := Lib.hid hR1; clear hR1)
        | (go_at_call 6; refine (HS.out _ _ (Rd.ofOwns HR1.out)).mono ?_; rintro e w2 ⟨a2, c2, rfl, hR2, hB2⟩; have HR2 := Lib.hid hR2; clear hR2)
        | (go_at_call 87; refine (x1equal_any w2 _ _ r l (Rd.ofOwns HR2.out) ((Hv.out.below hB1).below hB2)).mono ?_; rw [Hd.out]; rintro e w3 ⟨rfl, rfl⟩)
      go_ret2
      exact UnPost.bad Hun.out (hB1.trans (hB2.mono hB1.size))
end Go.Proofs.YtnagejhpdhdpfaaGreatDoor
