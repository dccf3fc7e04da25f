/-
  Package bytes: Unseal.
-/
import Derived.Outline
import Derived.Test.YtnagejhpdhdpfaaGreatDoorByt6
namespace Go.Proofs.YtnagejhpdhdpfaaGreatDoor
open Go.RowKit Go.Maps Go.MapKept

def UnPost (l : List UInt8) (w : World) (e : Ending) (w' : World) : Prop :=
  ∃ a c, e = .returned (.tuple #[.slice a (unsealL sumL l).2.length c, .int .i64 (unsealL sumL l).1]) ∧
    w'.ownsRow w.heap.size 5 1 (.slice a (unsealL sumL l).2.length c) (unsealL sumL l).2.length (bcells (unsealL sumL l).2) ∧ Below w.heap.size w w'
theorem UnPost.bad {l : List UInt8} {w w' : World} {er : Int} (h : unsealL sumL l = (er, [])) (hB : Below w.heap.size w w') : UnPost l w (.returned (.tuple #[.slice none 0 0, .int .i64 er])) w' := by
  refine ⟨none, 0, ?_, ?_, hB⟩
  · rw [h]; rfl
  · rw [h]; exact World.ownsRow_nil _ _ _ _

set_option maxRecDepth 100000 in
set_option maxHeartbeats 4000000 in
theorem bUnseal_any (w : World) (v : Value) (l : List UInt8) (hv : Rd w v (bcells l)) (hcap : CapOk v) (hl : l.length ≤ 1099511627776) :
    Calls Tryz.prog 43 #[v] w (UnPost l w) := by
  obtain ⟨a, c, rfl⟩ := hv.shape
  obtain ⟨_, _, _, he, hnc, hcm⟩ := hcap
  cases he
  rw [bcells_length] at hv hnc ⊢
  simp only [maxLen] at hcm
  by_cases h4 : l.length < 4
  · have hun : unsealL sumL l = (11, []) := by unfold unsealL; rw [if_pos h4]
    have h4' : (l.length : Int) - 4 < 0 := by omega
    have Hun := Lib.hid hun
    clear hun hv
    go_enter Tryz.func43, Tryz.ntmps43
    go_wp2
    go_ret2
    exact UnPost.bad Hun.out (Below.refl _ _)
  · obtain ⟨k, hk⟩ : ∃ k : Nat, (l.length : Int) - 4 = k := ⟨l.length - 4, by omega⟩
    have hkl : l.length - 4 = k := by omega
    obtain ⟨b, hb⟩ : ∃ b, l.take k = b := ⟨_, rfl⟩
    have hbl : b.length = k := by rw [← hb]; simp; omega
    have hsub := rd_prefix hv k (by omega)
    rw [← bcells_take, hb] at hsub
    have hun : unsealL sumL l = if b ++ sumL b = l then (0, b) else (12, []) := by
      unfold unsealL sealL; rw [if_neg h4, hkl, hb]
    have hkc : (k : Int) ≤ c := by omega
    have hb1 : b.length ≤ 1099511627776 := by omega
    have hS := bSeal_any w _ b hsub hb1
    obtain ⟨r, hr⟩ : ∃ r, b ++ sumL b = r := ⟨_, rfl⟩
    rw [hr] at hS hun
    have hrl : r.length ≤ 140737488355328 := by rw [← hr, List.length_append, sumL_len]; omega
    have HS := Lib.hid hS
    have Hv := Lib.hid hv
    have Hsub := Lib.hid hsub
    have Hbl := Lib.hid hbl
    clear hv hsub hkl hb hbl hr hS
    by_cases hs : r = l
    · have hd : decide (r = l) = true := by simpa using hs
      rw [if_pos hs] at hun
      have Hun := Lib.hid hun
      have Hd := Lib.hid hd
      clear hun hs hd
      go_enter Tryz.func43, Tryz.ntmps43
      go_wp2_with first
        | (go_at_call 38; refine HS.out.mono ?_; rintro e w1 ⟨a1, c1, rfl, hR1, hB1⟩; have HR1 := Lib.hid hR1; clear hR1)
        | (go_at_call 82; refine (slEqual_any w1 _ _ r l (Rd.ofOwns HR1.out) (Hv.out.below hB1) hrl).mono ?_; rw [Hd.out]; rintro e w2 ⟨rfl, hB2⟩)
        | (go_at_call 83; refine (slClone_any w2 _ b ((Hsub.out.below hB1).below hB2) (by rw [Hbl.out]; omega)).mono ?_; rw [Hbl.out]; rintro e w3 ⟨a3, c3, rfl, hR3, hB3⟩; have HR3 := Lib.hid hR3; clear hR3)
      go_ret2
      exact ⟨a3, c3, by rw [Hun.out]; simp only [Hbl.out]; rfl, by rw [Hun.out]; simp only [Hbl.out]; exact ownsRow_from HR3.out (fun g hg => Nat.le_trans (Nat.le_trans hB1.size hB2.size) (row_from HR3.out hg)), (hB1.trans (hB2.mono hB1.size)).trans (hB3.mono (Nat.le_trans hB1.size hB2.size))⟩
    · have hd : decide (r = l) = false := by simpa using hs
      rw [if_neg hs] at hun
      have Hun := Lib.hid hun
      have Hd := Lib.hid hd
      clear hun hs hd
      go_enter Tryz.func43, Tryz.ntmps43
      go_wp2_with first
        | (go_at_call 38; refine HS.out.mono ?_; rintro e w1 ⟨a1, c1, rfl, hR1, hB1⟩; have HR1 := Lib.hid hR1; clear hR1)
        | (go_at_call 82; refine (slEqual_any w1 _ _ r l (Rd.ofOwns HR1.out) (Hv.out.below hB1) hrl).mono ?_; rw [Hd.out]; rintro e w2 ⟨rfl, hB2⟩)
      go_ret2
      exact UnPost.bad Hun.out (hB1.trans (hB2.mono hB1.size))
end Go.Proofs.YtnagejhpdhdpfaaGreatDoor
