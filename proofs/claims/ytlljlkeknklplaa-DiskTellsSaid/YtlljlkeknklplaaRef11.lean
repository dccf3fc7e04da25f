/-
  The document's disk: Sync (printed by wip/gen/gen_ref.py).
-/
import Derived.Outline
import Derived.Deep.RegionHeld3
import Derived.Test.YtlljlkeknklplaaRef10
namespace Go.Proofs.Ytlljlkeknklplaa
open Go.RowKit Go.Maps Go.MapKept
variable {X : Nat → Prop}
set_option maxRecDepth 100000 in
set_option maxHeartbeats 4000000 in
theorem refSync_any (w : World) (a : Option Addr) (n c : Nat) (d : ADisk) (s : ByteArray) (h : RefAt X w a n c d) (hw : d.WF) (hX : NewOk X w) :
    Calls Try.prog 22 #[refVal a n c d, .string s] w fun e w' => ∃ a' n' c', e = .returned (.tuple #[refVal a' n' c' (d.sync s), .int .i64 (d.syncErr s)]) ∧ RefAt X w' a' n' c' (d.sync s) ∧ Below w.heap.size w w' := by
  have hA := fun (w : World) (h : RefAt X w a n c d) => refAsk_any w a n c d s h hw
  have hD := alloc2_at0 w (.cells #[.int .i64 d.most, .slice a n c, .int .i64 d.left, .bool d.down] 43) (.cells #[.int .i64 0, .slice none 0 0, .int .i64 0, .bool false] 43)
  have hR := alloc2_at w (.cells #[.int .i64 d.most, .slice a n c, .int .i64 d.left, .bool d.down] 43) (.cells #[.int .i64 0, .slice none 0 0, .int .i64 0, .bool false] 43)
  have hbW : Below w.heap.size w ((w.alloc (.cells #[.int .i64 d.most, .slice a n c, .int .i64 d.left, .bool d.down] 43)).alloc (.cells #[.int .i64 0, .slice none 0 0, .int .i64 0, .bool false] 43)) := ((Below.refl _ _).alloc (Nat.le_refl _) _).alloc (by simp) _
  obtain ⟨W, hW⟩ : ∃ W, (w.alloc (.cells #[.int .i64 d.most, .slice a n c, .int .i64 d.left, .bool d.down] 43)).alloc (.cells #[.int .i64 0, .slice none 0 0, .int .i64 0, .bool false] 43) = W := ⟨_, rfl⟩
  rw [hW] at hD hR hbW
  have HW := Lib.hid hW
  clear hW
  have hRW := h.below hbW
  by_cases he : findErr d s = 0
  · obtain ⟨hd, f, hl⟩ := find_zero he
    obtain ⟨k, hk, hpl, hkn, hkf⟩ := place_some hw.sorted hl
    obtain ⟨b, off, vb, rfl, c0, c1, c2, hrd, hvX⟩ := h.atX k hk
    have hn : n = d.fs.length := h.len
    have hkn' : k < n := by omega
    rw [hkn] at c0
    rw [hkf] at c2 hrd
    rw [he, hpl] at hA
    have hbw := cell_lt c0
    have hbne : ¬ b = w.heap.size + 1 := by omega
    have hbne2 : ¬ w.heap.size + 1 = b := by omega
    have e0 := fun {w1 : World} (hb1 : Below w.heap.size w w1) => (hb1.cell (p := ⟨b, off + k * 3, none⟩) (cell_lt c0)).trans c0
    have e1 := fun {w1 : World} (hb1 : Below w.heap.size w w1) => (hb1.cell (p := ⟨b, off + k * 3 + 1, none⟩) (cell_lt c1)).trans c1
    have e2 := fun {w1 : World} (hb1 : Below w.heap.size w w1) => (hb1.cell (p := ⟨b, off + k * 3 + 2, none⟩) (cell_lt c2)).trans c2
    obtain ⟨av, cv, rfl⟩ := hrd.shape
    rw [bcells_length, List.length_append] at hrd e1 hvX
    have Hcl : Hid (∀ {w1 : World}, Below w.heap.size w w1 → w1.cell? ⟨b, off + k * 3, none⟩ = some (.string s) ∧ w1.cell? ⟨b, off + k * 3 + 1, none⟩ = some (.slice av (f.firm.length + f.loose.length) cv) ∧ w1.cell? ⟨b, off + k * 3 + 2, none⟩ = some (.int .i64 (f.firm.length : Nat))) := Lib.hid (fun hb => ⟨e0 hb, e1 hb, e2 hb⟩)
    obtain ⟨x0, x1, x2, x3, _⟩ := cells4 hD
    have hfl : f.firm.length + f.loose.length ≤ 16777216 := by
      have h1 := lk_len_le hl
      have h2 := hw.used
      have h3 := hw.most1
      unfold AFile.len at h1
      omega
    have hafl : afile d s = f := by unfold afile; rw [hl]; rfl
    have hbad : ¬ ((f.firm.length : Int) + (f.loose.length : Int) < 0 ∨ (f.len : Int) < (f.firm.length : Int) + (f.loose.length : Int)) := by unfold AFile.len; omega
    have htn : ((f.firm.length : Int) + (f.loose.length : Int)).toNat = f.len := by unfold AFile.len; omega
    have h1 : d.sync s = d.cut s ((f.firm.length : Int) + (f.loose.length : Int)) := by unfold ADisk.sync ADisk.cut; rw [hd, hl, hafl, if_neg hbad, htn]
    have h2 : d.syncErr s = d.cutErr s ((f.firm.length : Int) + (f.loose.length : Int)) := by unfold ADisk.syncErr ADisk.cutErr; rw [hd, hl, hafl, if_neg hbad]
    have hC := fun (w : World) (h : RefAt X w (some ⟨b, off, none⟩) n c d) (hX : NewOk X w) => refCut_any w (some ⟨b, off, none⟩) n c d s ((f.firm.length : Int) + (f.loose.length : Int)) h hw hX
    rw [h1, h2]
    obtain ⟨dd, hdd⟩ : ∃ dd, d.cut s ((f.firm.length : Int) + (f.loose.length : Int)) = dd := ⟨_, rfl⟩
    obtain ⟨de, hde⟩ : ∃ de, d.cutErr s ((f.firm.length : Int) + (f.loose.length : Int)) = de := ⟨_, rfl⟩
    simp only [hdd, hde] at hC ⊢
    clear h1 h2 e0 e1 e2 c0 c1 c2 hkn hkf hl hpl he hn hd hafl hbad htn hdd hde
    unfold refVal at hA hC ⊢
    go_enter Try.func22, Try.ntmps22
    go_wp2_with fail
    rw [HW.out]
    refine (hA _ hRW).mono ?_
    rintro e w1 ⟨rfl, hb1⟩
    have hD1 := (hb1.block _ (blk_lt hD)).trans hD
    have hR1 := (hb1.block _ (blk_lt hR)).trans hR
    have hbw1 : Below w.heap.size w w1 := hbW.trans (hb1.mono hbW.size)
    obtain ⟨y0, y1, y2, y3, y4, y5, y6, y7⟩ := cells4 hD1
    obtain ⟨c0, c1, c2⟩ := Hcl.out hbw1
    have hRef1d := (h.below hbw1).below ((Below.refl w1.heap.size w1).drew)
    have hDl := blk_lt hD1
    clear x0 x1 x2 x3 hRW
    dsimp only
    go_wp2_with fail
    go_region_held3 (fun w' => w'.cell? ⟨w.heap.size, 0, none⟩ = some (.int .i64 d.most) ∧ w'.cell? ⟨w.heap.size, 1, none⟩ = some (.slice (some ⟨b, off, none⟩) n c) ∧ w'.cell? ⟨w.heap.size, 2, none⟩ = some (.int .i64 d.left) ∧ w'.cell? ⟨w.heap.size, 3, none⟩ = some (.bool d.down) ∧ w'.cell? ⟨b, off + k * 3 + 1, none⟩ = some (.slice av (f.firm.length + f.loose.length) cv))
      (first | exact ⟨y0, y1, y2, y3, c1⟩ | exact S2 | go_keep)
      ((go_at_call 27; (with_reducible refine (hC _ hRef1d (hX.below hbw1.drew)).mono ?_); rintro e w2 ⟨a3, n3, c3, rfl, hR2, hb2⟩; have hbw2 := hbw1.drew.trans (hb2.mono hbw1.size); have S2 : w2.cell? ⟨w.heap.size, 0, none⟩ = some (.int .i64 d.most) ∧ w2.cell? ⟨w.heap.size, 1, none⟩ = some (.slice (some ⟨b, off, none⟩) n c) ∧ w2.cell? ⟨w.heap.size, 2, none⟩ = some (.int .i64 d.left) ∧ w2.cell? ⟨w.heap.size, 3, none⟩ = some (.bool d.down) ∧ w2.cell? ⟨b, off + k * 3 + 1, none⟩ = some (.slice av (f.firm.length + f.loose.length) cv) := ⟨(hb2.cell (p := ⟨w.heap.size, 0, none⟩) hDl).trans y0, (hb2.cell (p := ⟨w.heap.size, 1, none⟩) hDl).trans y1, (hb2.cell (p := ⟨w.heap.size, 2, none⟩) hDl).trans y2, (hb2.cell (p := ⟨w.heap.size, 3, none⟩) hDl).trans y3, (Hcl.out hbw2).2.1⟩; have hRB2 := (hb2.block _ (blk_lt hR1)).trans hR1; obtain ⟨z0, z1, z2, z3, z4, z5, z6, z7⟩ := cells4 hRB2))
    go_wp2
    obtain ⟨p1, p2⟩ := ref_answer hR2 hRB2 hbw2 (by omega) (.int .i64 dd.most) (.slice a3 n3 c3) (.int .i64 dd.left) (.bool dd.down)
    exact bodyPost_ret (v := .tuple #[.agg #[.int .i64 dd.most, .slice a3 n3 c3, .int .i64 dd.left, .bool dd.down], .int .i64 de]) (by simp [results, Try.results22, go_sem, z0, z1, z2, z3]) rfl ⟨_, _, _, rfl, p1, p2⟩
  · have h1 : d.sync s = d := by
      unfold findErr at he
      unfold ADisk.sync
      split
      · rfl
      · rename_i hd
        rw [if_neg hd] at he
        split
        · rfl
        · rename_i hl
          rw [if_neg hl] at he
          exact absurd rfl he
    have h2 : d.syncErr s = findErr d s := by
      unfold findErr at he ⊢
      unfold ADisk.syncErr
      split
      · rfl
      · rename_i hd
        rw [if_neg hd] at he
        split
        · rfl
        · rename_i hl
          rw [if_neg hl] at he
          exact absurd rfl he
    rw [h1, h2]
    obtain ⟨fe, hfe⟩ : ∃ fe, findErr d s = fe := ⟨_, rfl⟩
    rw [hfe] at hA he ⊢
    have hq : (fe == 0) = false := by simpa using he
    have hq2 : (fe != 0) = true := by simpa using he
    clear hfe h1 h2 he
    obtain ⟨x0, x1, x2, x3, _⟩ := cells4 hD
    unfold refVal at hA ⊢
    go_enter Try.func22, Try.ntmps22
    go_wp2_with fail
    rw [HW.out]
    refine (hA _ hRW).mono ?_
    rintro e w1 ⟨rfl, hb1⟩
    have hD1 := (hb1.block _ (blk_lt hD)).trans hD
    have hR1 := (hb1.block _ (blk_lt hR)).trans hR
    have hbw1 : Below w.heap.size w w1 := hbW.trans (hb1.mono hbW.size)
    obtain ⟨y0, y1, y2, y3, y4, y5, y6, y7⟩ := cells4 hD1
    obtain ⟨z0, z1, z2, z3, z4, z5, z6, z7⟩ := cells4 hR1
    dsimp only
    go_wp2
    obtain ⟨p1, p2⟩ := ref_answer (h.below hbw1) hR1 hbw1 (by omega) (.int .i64 d.most) (.slice a n c) (.int .i64 d.left) (.bool d.down)
    exact bodyPost_ret (v := .tuple #[.agg #[.int .i64 d.most, .slice a n c, .int .i64 d.left, .bool d.down], .int .i64 fe]) (by simp [results, Try.results22, go_sem, z0, z1, z2, z3]) rfl ⟨_, _, _, rfl, p1, p2⟩
end Go.Proofs.Ytlljlkeknklplaa

