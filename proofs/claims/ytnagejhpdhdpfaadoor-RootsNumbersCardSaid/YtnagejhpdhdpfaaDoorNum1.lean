/-
  RootsNumbers: a disk that is none; bytes that are no root.
-/
import Derived.Outline
import Derived.Test.YtnagejhpdhdpfaaDoorRc1
import Derived.Test.YtnagejhpdhdpfaaDoorNone0
import Derived.Test.YtnagejhpdhdpfaaDoorRt8
import Derived.Test.YtnagejhpdhdpfaaDoorNum0
namespace Go.Proofs.YtnagejhpdhdpfaaDoor
open Go.RowKit Go.Maps Go.MapKept

set_option maxRecDepth 100000 in
set_option maxHeartbeats 4000000 in
theorem rRead_nil (w : World) : Calls Tryd.prog 18 #[.pointer none] w fun e w' => e = .returned (.tuple #[.agg #[.int .i64 0, .int .i64 0, .int .i64 0, .slice none 0 0], .bool false, .int .i64 1]) ∧ Below w.heap.size w w' := by
  obtain ⟨V, hV⟩ : ∃ V, (w.alloc (.cells #[.int .i64 0, .int .i64 0, .int .i64 0, .slice none 0 0] 24)).alloc (.cells #[.int .i64 0, .int .i64 0, .int .i64 0, .slice none 0 0] 24) = V := ⟨_, rfl⟩
  have hz0 : V.heap[w.heap.size]? = some (.cells #[.int .i64 0, .int .i64 0, .int .i64 0, .slice none 0 0] 24 (0, 0)) := by rw [← hV]; exact alloc2_at0 _ _ _
  have hBV : Below w.heap.size w V := by rw [← hV]; exact ((Below.refl _ _).alloc (Nat.le_refl _) _).alloc (by simp) _
  have Hz0 := Lib.hid hz0
  have HV := Lib.hid hV
  clear hz0 hV
  go_enter Tryd.func18, Tryd.ntmps18
  go_wp2
  rw [HV.out]
  go_loopw [11] (fun i wr => i = .int .i64 0 ∧ Below V.heap.size V wr) (fun i _ => 2 - (intOf i).toNat)
  case atStart => exact ⟨rfl, Below.refl _ _⟩
  case round =>
    obtain ⟨rfl, hBr⟩ := hrel
    have hBw := hBV.trans (hBr.mono hBV.size)
    have Hz0r := Lib.hid ((hBr.block w.heap.size (blk_lt Hz0.out)).trans Hz0.out)
    have hnm := rName_any wr 0 (by omega)
    rw [show ((0 : Nat) : Int) = 0 from rfl] at hnm
    have Hnm := Lib.hid hnm
    have HRd := Lib.hid (Read_no (w := wr) (Or.inl rfl) (rname 0))
    clear hnm
    go_wp2_with first
      | (go_at_call 46; refine Hnm.out.mono ?_; rintro e w1 ⟨rfl, rfl⟩)
      | (go_at_call 14; refine HRd.out.mono ?_; rintro e w2 ⟨rfl, hB2⟩; obtain ⟨q0, q1, q2, q3, f0, f1, f2, f3⟩ := cellsZ ((hB2.block w.heap.size (blk_lt Hz0r.out)).trans Hz0r.out))
    refine bodyPost_ret (v := .tuple #[.agg #[.int .i64 0, .int .i64 0, .int .i64 0, .slice none 0 0], .bool false, .int .i64 1]) (by simp [results, Tryd.results18, go_sem, q0, q1, q2, q3]) rfl ⟨rfl, ?_⟩
    exact ((((hBw.trans (hB2.mono hBw.size)).setCell (Nat.le_refl _) _).setCell (Nat.le_refl _) _).setCell (Nat.le_refl _) _).setCell (Nat.le_refl _) _

set_option maxRecDepth 100000 in
set_option maxHeartbeats 4000000 in
theorem rWrite_nil (w : World) (s t c : Int) (a : Option Addr) (n k : Nat) : Calls Tryd.prog 15 #[.pointer none, .agg #[.int .i64 s, .int .i64 t, .int .i64 c, .slice a n k]] w fun e w' => e = .returned (.tuple #[.agg #[.int .i64 0, .int .i64 0, .int .i64 0, .slice none 0 0], .int .i64 1]) ∧ Below w.heap.size w w' := by
  obtain ⟨W, hW⟩ : ∃ W, ((w.alloc (.cells #[.pointer none] 35)).alloc (.cells #[.int .i64 s, .int .i64 t, .int .i64 c, .slice a n k] 24)).alloc (.cells #[.int .i64 0, .int .i64 0, .int .i64 0, .slice none 0 0] 24) = W := ⟨_, rfl⟩
  have hWz : W.heap[w.heap.size + 1 + 1]? = some (.cells #[.int .i64 0, .int .i64 0, .int .i64 0, .slice none 0 0] 24 (0, 0)) := by
    rw [← hW]
    have := alloc_at ((w.alloc (.cells #[.pointer none] 35)).alloc (.cells #[.int .i64 s, .int .i64 t, .int .i64 c, .slice a n k] 24)) (.cells #[.int .i64 0, .int .i64 0, .int .i64 0, .slice none 0 0] 24)
    simpa using this
  have hBW : Below w.heap.size w W := by rw [← hW]; exact (((Below.refl _ _).alloc (Nat.le_refl _) _).alloc (by simp) _).alloc (by simp; omega) _
  have HW := Lib.hid hW
  have HWz := Lib.hid hWz
  clear hW hWz
  go_enter Tryd.func15, Tryd.ntmps15
  go_wp2_with (go_at_call 18; rw [HW.out]; refine (rRead_nil W).mono ?_; rintro e w1 ⟨rfl, hB1⟩; have hlt := blk_lt HWz.out; obtain ⟨q0, q1, q2, q3, f0, f1, f2, f3⟩ := cellsZ ((hB1.block _ hlt).trans HWz.out); have hlt1 := Nat.lt_of_lt_of_le hlt hB1.size)
  have hX := (below4 (hBW.trans (hB1.mono hBW.size)) (b := w.heap.size + 1 + 1) (by omega) (.int .i64 0) (.int .i64 0) (.int .i64 0) (.slice none 0 0)).alloc (by simp only [World.size_setCell]; have := hB1.size; have := hBW.size; omega) (.cells #[.int .i64 0, .int .i64 0, .int .i64 0, .slice none 0 0] 24)
  obtain ⟨y0, y1, y2, y3, _⟩ := cellsZ (alloc_old (setCell4_at ((hB1.block _ (blk_lt HWz.out)).trans HWz.out) (.int .i64 0) (.int .i64 0) (.int .i64 0) (.slice none 0 0)) (.cells #[.int .i64 0, .int .i64 0, .int .i64 0, .slice none 0 0] 24))
  refine bodyPost_ret (v := .tuple #[.agg #[.int .i64 0, .int .i64 0, .int .i64 0, .slice none 0 0], .int .i64 1]) (by simp [results, Tryd.results15, go_sem, y0, y1, y2, y3]) rfl ⟨rfl, hX⟩

/-- Parse of what is no root. -/
theorem parse_none {w : World} (v : Value) (l : List UInt8) (er : Int) (hv : Rd w v (bcells l)) (hcap : CapOk v) (hl : l.length ≤ 1099511627776) (he : parseE l = er) (hP : parseR l = root0) :
    Calls Tryd.prog 9 #[v] w fun e w' => ∃ a c, e = .returned (.tuple #[.agg #[.int .i64 0, .int .i64 0, .int .i64 0, .slice a 0 c], .int .i64 er]) ∧ Rd w' (.slice a 0 c) [] ∧ Below w.heap.size w w' := by
  refine (parse_by v l root0 er hv hcap hl he hP).mono ?_
  rintro e w' ⟨a, c, h1, h2, h3⟩
  exact ⟨a, c, h1, Rd.ofOwns h2, h3⟩
set_option maxRecDepth 100000 in
set_option maxHeartbeats 4000000 in
theorem wrong_any (w : World) (v : Value) (b : List UInt8) (hv : Rd w v (bcells b)) (hl : b.length ≤ 1000) :
    Calls Tryd.prog 24 #[v] w fun e w' => e = .returned (.bool (pRoot b).isNone) ∧ Below w.heap.size w w' := by
  have hS := x1Seal_any w v b hv (by omega)
  obtain ⟨a, c, rfl⟩ := hv.shape
  rw [bcells_length] at hv hS ⊢
  obtain ⟨L, hL⟩ : ∃ L, sealL sumL b = L := ⟨_, rfl⟩
  have hLl : L.length ≤ 1004 := by rw [← hL]; unfold sealL; rw [List.length_append, sumL_len]; omega
  rw [hL] at hS
  cases hp : (pRoot b).isNone with
  | true =>
    obtain ⟨p1, p2⟩ := wrong_bad hp
    rw [hL] at p1 p2
    have HP1 := Lib.hid p1
    have HP2 := Lib.hid p2
    have HS := Lib.hid hS
    clear hp p1 p2 hS hL hv
    go_enter Tryd.func24, Tryd.ntmps24
    go_wp2_with first
      | (go_at_call 54; refine HS.out.mono ?_; rintro e w1 ⟨a1, c1, rfl, hR1, hB1⟩; have HR1 := Lib.hid hR1; clear hR1)
      | (go_at_call 9; refine (parse_none (.slice a1 L.length c1) L 10 (Rd.ofOwns HR1.out) (row_cap HR1.out) (by omega) HP1.out HP2.out).mono ?_; rintro e w2 ⟨a2, c2, rfl, hR2, hB2⟩)
      | (go_at_call 12; refine (sameR_any _ 0 0 0 0 0 0 (.slice a2 0 c2) (.slice none 0 0) [] [] (hR2.below ((Below.refl _ _).alloc (Nat.le_refl _) _)) (rd_none _ _)).mono ?_; rw [show sameR 0 0 0 [] 0 0 0 [] = true by decide]; rintro e w3 ⟨rfl, hB3⟩)
    go_ret
    exact ⟨rfl, (hB1.trans (hB2.mono hB1.size)).alloc (Nat.le_trans hB1.size hB2.size) _ |>.trans (hB3.mono (by simp; have := hB1.size; have := hB2.size; omega))⟩
  | false =>
    have p1 := wrong_not hp
    rw [hL] at p1
    obtain ⟨P, hP⟩ : ∃ P, parseR L = P := ⟨_, rfl⟩
    have HP1 := Lib.hid p1
    have HP2 := Lib.hid hP
    have HS := Lib.hid hS
    clear hp p1 hP hS hL hv
    go_enter Tryd.func24, Tryd.ntmps24
    go_wp2_with first
      | (go_at_call 54; refine HS.out.mono ?_; rintro e w1 ⟨a1, c1, rfl, hR1, hB1⟩; have HR1 := Lib.hid hR1; clear hR1)
      | (go_at_call 9; refine (parse_by (.slice a1 L.length c1) L P 0 (Rd.ofOwns HR1.out) (row_cap HR1.out) (by omega) HP1.out HP2.out).mono ?_; rintro e w2 ⟨a2, c2, rfl, hR2, hB2⟩; clear hR2)
    go_ret
    exact ⟨rfl, (hB1.trans (hB2.mono hB1.size)).alloc (Nat.le_trans hB1.size hB2.size) _⟩
end Go.Proofs.YtnagejhpdhdpfaaDoor
