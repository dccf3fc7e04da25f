/-
  The document's disk: a file's place; ask.
-/
import Derived.Outline
import Derived.Test.YtlljlkeknklplaaRef3
namespace Go.Proofs.Ytlljlkeknklplaa
open Go.RowKit Go.Maps Go.MapKept
variable {X : Nat → Prop}

/-- the place of a file, or -1. -/
def placeF (fs : List (ByteArray × AFile)) (s : ByteArray) : Int := match fs.findIdx? (fun p => decide (p.1 = s)) with
  | some k => (k : Int)
  | none => -1
theorem place_found {fs : List (ByteArray × AFile)} (hs : SortedF fs) {s : ByteArray} {k : Nat} (hk : k < fs.length) (h : fs[k].1 = s) : placeF fs s = k := by
  have : fs.findIdx? (fun p => decide (p.1 = s)) = some k := by
    rw [List.findIdx?_eq_some_iff_getElem]
    refine ⟨hk, by simpa using h, fun j hj => ?_⟩
    have := List.pairwise_iff_getElem.1 hs j k (by omega) hk hj
    have hne := ltS_ne this
    rw [h] at hne
    simpa using hne
  unfold placeF
  rw [this]
theorem place_none {fs : List (ByteArray × AFile)} {s : ByteArray} (h : lk fs s = none) : placeF fs s = -1 := by
  have : fs.findIdx? (fun p => decide (p.1 = s)) = none := by
    rw [List.findIdx?_eq_none_iff]
    intro p hp
    simpa using lk_none_not h p hp
  unfold placeF
  rw [this]
theorem place_some {fs : List (ByteArray × AFile)} (hs : SortedF fs) {s : ByteArray} {f : AFile} (h : lk fs s = some f) : ∃ (k : Nat) (hk : k < fs.length), placeF fs s = k ∧ fs[k].1 = s ∧ fs[k].2 = f := by
  obtain ⟨k, hk, he⟩ := List.getElem_of_mem (lk_some_mem h)
  exact ⟨k, hk, place_found hs hk (by rw [he]), by rw [he], by rw [he]⟩
theorem place_lt {fs : List (ByteArray × AFile)} (s : ByteArray) : -1 ≤ placeF fs s ∧ placeF fs s < fs.length := by
  unfold placeF
  split
  · rename_i k hk
    have := (List.findIdx?_eq_some_iff_getElem.1 hk).1
    omega
  · omega

theorem refFind_place (w : World) (a : Option Addr) (n c : Nat) (d : ADisk) (s : ByteArray) (h : RefAt X w a n c d) (hw : d.WF) :
    Calls Try.prog 35 #[refVal a n c d, .string s] w fun e w' => e = .returned (.int .i64 (placeF d.fs s)) ∧ Below w.heap.size w w' := by
  refine (refFind_any w a n c d s h hw).mono fun e w' he => ?_
  obtain ⟨⟨i, rfl, ⟨k, hk, rfl, hn⟩ | ⟨rfl, hl⟩⟩, hb⟩ := he
  · exact ⟨by rw [place_found hw.sorted hk hn], hb⟩
  · exact ⟨by rw [place_none hl], hb⟩

set_option maxRecDepth 100000 in
set_option maxHeartbeats 2000000 in
theorem refAsk_any (w : World) (a : Option Addr) (n c : Nat) (d : ADisk) (s : ByteArray) (h : RefAt X w a n c d) (hw : d.WF) :
    Calls Try.prog 56 #[refVal a n c d, .string s] w fun e w' => e = .returned (.tuple #[.int .i64 (placeF d.fs s), .int .i64 (findErr d s)]) ∧ Below w.heap.size w w' := by
  have hF := fun (w : World) (h : RefAt X w a n c d) => refFind_place w a n c d s h hw
  have hpl := place_lt (fs := d.fs) s
  have hcnt := hw.count
  unfold refVal at hF ⊢
  have hX := alloc_at w (.cells #[.int .i64 d.most, .slice a n c, .int .i64 d.left, .bool d.down] 43)
  have hbX : Below w.heap.size w (w.alloc (.cells #[.int .i64 d.most, .slice a n c, .int .i64 d.left, .bool d.down] 43)) := (Below.refl _ _).alloc (Nat.le_refl _) _
  obtain ⟨W, hW⟩ : ∃ W, w.alloc (.cells #[.int .i64 d.most, .slice a n c, .int .i64 d.left, .bool d.down] 43) = W := ⟨_, rfl⟩
  rw [hW] at hX hbX
  have hR := h.below hbX
  have HW := Lib.hid hW
  obtain ⟨x0, x1, x2, x3, _⟩ := cells4 hX
  clear hW
  have hlt := blk_lt hX
  obtain ⟨i, hi⟩ : ∃ i, placeF d.fs s = i := ⟨_, rfl⟩
  rw [hi] at hF hpl ⊢
  cases hdn : d.down with
  | true =>
    have he : findErr d s = 15 := by simp [findErr, hdn]
    rw [he]
    rw [hdn] at x3 HW hF
    clear he
    go_enter Try.func56, Try.ntmps56
    go_wp2_with fail
    rw [HW.out]
    refine (hF _ hR).mono ?_
    rintro e w1 ⟨rfl, hb1⟩
    have y0 := (hb1.cell (p := ⟨w.heap.size, 3, none⟩) hlt).trans x3
    dsimp only
    go_wp2
    go_ret2
    exact ⟨rfl, hbX.trans (hb1.mono hbX.size)⟩
  | false =>
    rw [hdn] at x3 HW hF
    by_cases hn : i < 0
    · have he : findErr d s = 13 := by
        simp only [findErr, hdn]
        cases hl : lk d.fs s with
        | none => rfl
        | some f =>
          obtain ⟨k, hk, e, _⟩ := place_some hw.sorted hl
          omega
      rw [he]
      clear he
      go_enter Try.func56, Try.ntmps56
      go_wp2_with fail
      rw [HW.out]
      refine (hF _ hR).mono ?_
      rintro e w1 ⟨rfl, hb1⟩
      have y0 := (hb1.cell (p := ⟨w.heap.size, 3, none⟩) hlt).trans x3
      dsimp only
      go_wp2
      go_ret2
      exact ⟨rfl, hbX.trans (hb1.mono hbX.size)⟩
    · have he : findErr d s = 0 := by
        simp only [findErr, hdn]
        cases hl : lk d.fs s with
        | none => have := place_none hl; omega
        | some f => rfl
      rw [he]
      clear he
      go_enter Try.func56, Try.ntmps56
      go_wp2_with fail
      rw [HW.out]
      refine (hF _ hR).mono ?_
      rintro e w1 ⟨rfl, hb1⟩
      have y0 := (hb1.cell (p := ⟨w.heap.size, 3, none⟩) hlt).trans x3
      dsimp only
      go_wp2
      go_ret2
      exact ⟨rfl, hbX.trans (hb1.mono hbX.size)⟩
end Go.Proofs.Ytlljlkeknklplaa
