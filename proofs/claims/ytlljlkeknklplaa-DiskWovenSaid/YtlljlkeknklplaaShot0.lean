/-
  A shot of a disk: same.
-/
import Derived.Outline
import Derived.Test.YtlljlkeknklplaaLow0
import Derived.Test.YtlljlkeknklplaaLaw1
namespace Go.Proofs.Ytlljlkeknklplaa
open Go.RowKit Go.Maps Go.MapKept

structure Shot where
  names : List ByteArray
  bytes : List ByteArray
  firm : List Int
deriving DecidableEq

structure ShotAt (w : World) (vn vb vf : Value) (s : Shot) : Prop where
  n : Rd w vn (sCells s.names)
  b : Rd w vb (sCells s.bytes)
  f : Rd w vf (iCells s.firm)
  ln : s.names.length ≤ maxLen
  lb : s.bytes.length ≤ maxLen
  lf : s.firm.length ≤ maxLen
theorem ShotAt.below {W w : World} {vn vb vf : Value} {s : Shot} (h : ShotAt W vn vb vf s) (hb : Below W.heap.size W w) : ShotAt w vn vb vf s :=
  { h with n := h.n.keepLow hb, b := h.b.keepLow hb, f := h.f.keepLow hb }
theorem Keep.rdx {ex : Nat → Prop} {w w' : World} (h : Keep ex w w') {v : Value} {xs : List Value} (hr : Rd w v xs) (hb : ∀ g, v.ownBlock = some g → xs ≠ [] → ex g) : Rd w' v xs := by
  by_cases hn : xs = []
  · subst hn
    rcases hr with hr | ⟨bl, off, n, c, rfl, hn, hc⟩
    · exact Or.inl hr
    · exact Or.inr ⟨bl, off, n, c, rfl, hn, fun j u hj => by simp at hj⟩
  · exact h.rd hr (fun g hg => hb g hg hn)

theorem shot_eq (s t : Shot) : decide (s = t) = ((decide (s.names = t.names) && decide (s.bytes = t.bytes)) && decide (s.firm = t.firm)) := by
  obtain ⟨a, b, c⟩ := s
  obtain ⟨x, y, z⟩ := t
  simp [Bool.and_assoc]

set_option maxRecDepth 100000 in
set_option maxHeartbeats 2000000 in
theorem same_any (w : World) (an bn cn ab bb cb : Value) (s t : Shot) (hs : ShotAt w an bn cn s) (ht : ShotAt w ab bb cb t) :
    Calls Try.prog 43 #[.agg #[an, bn, cn], .agg #[ab, bb, cb]] w fun e w' => e = .returned (.bool (decide (s = t))) ∧ Below w.heap.size w w' := by
  have hfin := shot_eq s t
  have Hfin := Lib.hid hfin
  clear hfin
  obtain ⟨a1, c1, rfl⟩ := hs.n.shape
  obtain ⟨a2, c2, rfl⟩ := hs.b.shape
  obtain ⟨a3, c3, rfl⟩ := hs.f.shape
  obtain ⟨a4, c4, rfl⟩ := ht.n.shape
  obtain ⟨a5, c5, rfl⟩ := ht.b.shape
  obtain ⟨a6, c6, rfl⟩ := ht.f.shape
  simp only [sCells_length, iCells_length] at *
  obtain ⟨X, hX⟩ : ∃ X : Obj, Obj.cells #[.slice a1 s.names.length c1, .slice a2 s.bytes.length c2, .slice a3 s.firm.length c3] 76 = X := ⟨_, rfl⟩
  obtain ⟨Y, hY⟩ : ∃ Y : Obj, Obj.cells #[.slice a4 t.names.length c4, .slice a5 t.bytes.length c5, .slice a6 t.firm.length c6] 76 = Y := ⟨_, rfl⟩
  have hbW : Below w.heap.size w ((w.alloc X).alloc Y) := ((Below.refl _ _).alloc (Nat.le_refl _) _).alloc (by simp) _
  have hx : ((w.alloc X).alloc Y).heap[w.heap.size]? = some X := alloc2_at0 _ _ _
  have hy : ((w.alloc X).alloc Y).heap[w.heap.size + 1]? = some Y := alloc2_at _ _ _
  obtain ⟨W, hW⟩ : ∃ W, (w.alloc X).alloc Y = W := ⟨_, rfl⟩
  rw [hW] at hbW hx hy
  rw [← hX] at hx
  rw [← hY] at hy
  obtain ⟨x0, x1, x2, _⟩ := cells3 hx
  obtain ⟨y0, y1, y2, _⟩ := cells3 hy
  have hs' := hs.below hbW
  have ht' := ht.below hbW
  rw [← hX, ← hY] at hW
  have HW := Lib.hid hW
  have HX := Lib.hid hX
  have HY := Lib.hid hY
  clear hW hX hY hx hy
  cases h1 : decide (s.names = t.names) with
  | false =>
    go_enter Try.func43, Try.ntmps43
    go_wp2_with fail
    rw [HW.out]
    refine (SameTexts_any _ _ _ s.names t.names hs'.n ht'.n hs.ln ht.ln).mono ?_
    rw [h1]
    rintro e w1 ⟨rfl, hb1⟩
    go_wp2
    go_ret
    exact ⟨by rw [Hfin.out, h1]; rfl, hbW.trans (hb1.mono hbW.size)⟩
  | true =>
    cases h2 : decide (s.bytes = t.bytes) with
    | false =>
      go_enter Try.func43, Try.ntmps43
      go_wp2_with fail
      rw [HW.out]
      refine (SameTexts_any _ _ _ s.names t.names hs'.n ht'.n hs.ln ht.ln).mono ?_
      rw [h1]
      rintro e w1 ⟨rfl, hb1⟩
      have x1' := (hb1.cell (p := ⟨w.heap.size, 1, none⟩) (cell_lt x1)).trans x1
      have y1' := (hb1.cell (p := ⟨w.heap.size + 1, 1, none⟩) (cell_lt y1)).trans y1
      go_wp2_with fail
      refine (SameTexts_any _ _ _ s.bytes t.bytes (hs'.below hb1).b (ht'.below hb1).b hs.lb ht.lb).mono ?_
      rw [h2]
      rintro e w2 ⟨rfl, hb2⟩
      go_wp2
      go_ret
      exact ⟨by rw [Hfin.out, h1, h2]; rfl, (hbW.trans (hb1.mono hbW.size)).trans (hb2.mono (Nat.le_trans hbW.size hb1.size))⟩
    | true =>
      go_enter Try.func43, Try.ntmps43
      go_wp2_with fail
      rw [HW.out]
      refine (SameTexts_any _ _ _ s.names t.names hs'.n ht'.n hs.ln ht.ln).mono ?_
      rw [h1]
      rintro e w1 ⟨rfl, hb1⟩
      have x1' := (hb1.cell (p := ⟨w.heap.size, 1, none⟩) (cell_lt x1)).trans x1
      have y1' := (hb1.cell (p := ⟨w.heap.size + 1, 1, none⟩) (cell_lt y1)).trans y1
      go_wp2_with fail
      refine (SameTexts_any _ _ _ s.bytes t.bytes (hs'.below hb1).b (ht'.below hb1).b hs.lb ht.lb).mono ?_
      rw [h2]
      rintro e w2 ⟨rfl, hb2⟩
      have hb12 := hb1.trans (hb2.mono hb1.size)
      have x2' := (hb12.cell (p := ⟨w.heap.size, 2, none⟩) (cell_lt x2)).trans x2
      have y2' := (hb12.cell (p := ⟨w.heap.size + 1, 2, none⟩) (cell_lt y2)).trans y2
      go_wp2_with fail
      refine (SameInts_any _ _ _ s.firm t.firm (hs'.below hb12).f (ht'.below hb12).f hs.lf ht.lf).mono ?_
      rintro e w3 ⟨rfl, hb3⟩
      go_wp2
      go_ret
      exact ⟨by rw [Hfin.out, h1, h2]; rfl, (hbW.trans (hb12.mono hbW.size)).trans (hb3.mono (Nat.le_trans hbW.size hb12.size))⟩
end Go.Proofs.Ytlljlkeknklplaa
