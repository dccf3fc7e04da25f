/-
  The statements' helpers: SameBytes, SameRoot, Pick, reads, writes.
-/
import Derived.Outline
import Derived.Test.YtnagejhpdhdpfaaGreatDoorRt6
namespace Go.Proofs.YtnagejhpdhdpfaaGreatDoor
open Go.RowKit Go.Maps Go.MapKept

set_option maxRecDepth 100000 in
set_option maxHeartbeats 2000000 in
theorem sameB_any (w : World) (va vb : Value) (a b : List UInt8) (ha : Rd w va (bcells a)) (hb : Rd w vb (bcells b)) :
    Calls Tryz.prog 12 #[va, vb] w fun e w' => e = .returned (.bool (decide (a = b))) ∧ w = w' := by
  have hc1 := run_bytes_str (P := Tryz.prog) ha Tryz.underlying22 Tryz.underlying5 Tryz.underlying9
  have hc2 := run_bytes_str (P := Tryz.prog) hb Tryz.underlying22 Tryz.underlying5 Tryz.underlying9
  clear ha hb
  by_cases h : a = b
  · subst h
    have hq : (a == a) = true := by simp
    go_enter Tryz.func12, Tryz.ntmps12
    go_wp2
    go_ret
    exact ⟨by simp, rfl⟩
  · have hq : (a == b) = false := by simpa using h
    have hd : decide (a = b) = false := by simpa using h
    rw [hd]
    clear hd h
    go_enter Tryz.func12, Tryz.ntmps12
    go_wp2
    go_ret
    exact ⟨rfl, rfl⟩

def sameR (s t c : Int) (a : List UInt8) (s' t' c' : Int) (b : List UInt8) : Bool := decide (s = s') && decide (t = t') && decide (c = c') && decide (a = b)
set_option maxRecDepth 100000 in
set_option maxHeartbeats 4000000 in
theorem sameR_any (w : World) (s t c s' t' c' : Int) (va vb : Value) (a b : List UInt8) (ha : Rd w va (bcells a)) (hb : Rd w vb (bcells b)) :
    Calls Tryz.prog 13 #[rootV s t c va, rootV s' t' c' vb] w fun e w' => e = .returned (.bool (sameR s t c a s' t' c' b)) ∧ Below w.heap.size w w' := by
  obtain ⟨aa, ca, rfl⟩ := ha.shape
  obtain ⟨ab, cb, rfl⟩ := hb.shape
  rw [bcells_length] at ha hb ⊢
  rw [bcells_length]
  obtain ⟨W, hW⟩ : ∃ W, (w.alloc (.cells #[.int .i64 s, .int .i64 t, .int .i64 c, .slice aa a.length ca] 24)).alloc (.cells #[.int .i64 s', .int .i64 t', .int .i64 c', .slice ab b.length cb] 24) = W := ⟨_, rfl⟩
  have hB : Below w.heap.size w W := by rw [← hW]; exact ((Below.refl _ _).alloc (Nat.le_refl _) _).alloc (by simp) _
  have hS := sameB_any W _ _ a b (ha.below hB) (hb.below hB)
  have HS := Lib.hid hS
  have HW := Lib.hid hW
  clear ha hb hS hW
  unfold rootV
  have hfin : sameR s t c a s' t' c' b = (decide (s = s') && decide (t = t') && decide (c = c') && decide (a = b)) := rfl
  have Hfin := Lib.hid hfin
  clear hfin
  obtain ⟨bb, hbb⟩ : ∃ bb, decide (a = b) = bb := ⟨_, rfl⟩
  have hS := HS.out
  rw [hbb] at hS
  have HS2 := Lib.hid hS
  have Hbb := Lib.hid hbb
  clear hS hbb HS
  by_cases h1 : s = s'
  · have q1 : (s == s') = true := by simpa using h1
    by_cases h2 : t = t'
    · have q2 : (t == t') = true := by simpa using h2
      by_cases h3 : c = c'
      · have q3 : (c == c') = true := by simpa using h3
        have Hf2 := Lib.hid (show sameR s t c a s' t' c' b = bb by rw [Hfin.out, Hbb.out]; simp [h1, h2, h3])
        clear h1 h2 h3
        go_enter Tryz.func13, Tryz.ntmps13
        go_wp2_with (go_at_call 12; rw [HW.out]; refine HS2.out.mono ?_; rintro e w1 ⟨rfl, rfl⟩)
        go_ret
        exact ⟨by rw [Hf2.out]; rfl, hB⟩
      · have q3 : (c == c') = false := by simpa using h3
        have Hf2 := Lib.hid (show sameR s t c a s' t' c' b = false by rw [Hfin.out]; simp [h3])
        clear h1 h2 h3
        go_enter Tryz.func13, Tryz.ntmps13
        go_wp2
        go_ret
        exact ⟨by rw [Hf2.out]; rfl, HW.out ▸ hB⟩
    · have q2 : (t == t') = false := by simpa using h2
      have Hf2 := Lib.hid (show sameR s t c a s' t' c' b = false by rw [Hfin.out]; simp [h2])
      clear h1 h2
      go_enter Tryz.func13, Tryz.ntmps13
      go_wp2
      go_ret
      exact ⟨by rw [Hf2.out]; rfl, HW.out ▸ hB⟩
  · have q1 : (s == s') = false := by simpa using h1
    have Hf2 := Lib.hid (show sameR s t c a s' t' c' b = false by rw [Hfin.out]; simp [h1])
    clear h1
    go_enter Tryz.func13, Tryz.ntmps13
    go_wp2
    go_ret
    exact ⟨by rw [Hf2.out]; rfl, HW.out ▸ hB⟩

/-- any number as one of 0 to n - 1. -/
def pickI (x n : Int) : Int := if n ≤ 0 then 0 else x % n
/-- is that the root that counts? -/
def readsB (d : ADisk) (s t : Int) : Bool := decide (readE d = 0) && (decide (0 < (readR d).serial) == decide (0 < s)) && decide (((readR d).serial : Int) = s) && decide (((readR d).tick : Int) = t)
set_option maxRecDepth 100000 in
set_option maxHeartbeats 4000000 in
theorem reads_yes {ex : Nat → Prop} (w : World) (p m : Nat) (d : ADisk) (s t : Int) (h : DiskAt ex w p m d) (h0 : readE d = 0) (h1 : ((readR d).serial : Int) = s) (h2 : ((readR d).tick : Int) = t) :
    Calls Tryz.prog 31 #[.pointer (some ⟨p, 0, none⟩), .int .i64 s, .int .i64 t] w fun e w' => e = .returned (.bool true) ∧ Below w.heap.size w w' := by
  have hR := rRead_any w p m d h h.wf.most1
  unfold RrPost rootV at hR
  rw [h0, h1, h2] at hR
  have hb : decide (0 < (readR d).serial) = decide (0 < s) := by rw [Bool.eq_iff_iff]; simp; omega
  rw [hb] at hR
  obtain ⟨R, hr⟩ : ∃ R, readR d = R := ⟨_, rfl⟩
  rw [hr] at hR
  obtain ⟨bb, hbb⟩ : ∃ bb, decide (0 < s) = bb := ⟨_, rfl⟩
  have HR := Lib.hid hR
  clear hR h0 h1 h2 hb hr
  have hq1 : (s == s) = true := by simp
  have hq2 : (t == t) = true := by simp
  go_enter Tryz.func31, Tryz.ntmps31
  go_wp2_with (go_at_call 18; refine HR.out.mono ?_; rintro e w1 ⟨a1, c1, rfl, hrow, hB1⟩; clear hrow)
  go_ret
  exact ⟨rfl, hB1.alloc hB1.size _⟩

set_option maxRecDepth 100000 in
set_option maxHeartbeats 4000000 in
theorem writes_yes {ex : Nat → Prop} (w : World) (p m : Nat) (d d' : ADisk) (t s : Int) (h : DiskAt ex w p m d) (ht : isI64 t) (hw : wrAll d t 2 [] = (d', 0)) (hs : ((readR d).serial : Int) + 1 = s) (h0 : readE d' = 0) (h1 : ((readR d').serial : Int) = s) (h2 : ((readR d').tick : Int) = t) :
    Calls Tryz.prog 32 #[.pointer (some ⟨p, 0, none⟩), .int .i64 t, .int .i64 s] w fun e w' => e = .returned (.bool true) ∧ DiskAt ex w' p m d' ∧ Keep ex w w' := by
  have hR := rWrite_at (w := w) 99 t 2 (.slice none 0 0) [] h ht (by unfold isI64; omega) (Or.inl ⟨Or.inl rfl, rfl⟩) (by simp)
  unfold WrPost rootV at hR
  rw [hw, if_pos rfl, show (((readR d).serial + 1 : Nat) : Int) = s from hs] at hR
  have HR := Lib.hid hR
  have hrd : ∀ w', DiskAt ex w' p m d' → _ := fun w' hD => reads_yes w' p m d' s t hD h0 h1 h2
  have Hrd := Lib.hid hrd
  clear hR h0 h1 h2 hw hs hrd
  have hq1 : (s == s) = true := by simp
  have hq2 : (t == t) = true := by simp
  go_enter Tryz.func32, Tryz.ntmps32
  go_wp2_with first
    | (go_at_call 16; refine HR.out.mono ?_; rintro e w1 ⟨rfl, hD1, hK1⟩)
    | (go_at_call 31; refine (Hrd.out _ ?_).mono ?_; exact hD1.alloc _; rintro e w2 ⟨rfl, hB2⟩)
  go_ret
  have hX := below_new hD1 (((Below.refl _ _).alloc (Nat.le_refl _) _).trans (hB2.mono (by simp)))
  exact ⟨rfl, hX.1, hK1.trans hX.2⟩
end Go.Proofs.YtnagejhpdhdpfaaGreatDoor
