/-
  The document's disk: Rename (printed by wip/gen/gen_ref.py).
-/
import Derived.Outline
import Derived.Deep.RegionHeld3
import Derived.Test.YtlljlkeknklplaaRef11
namespace Go.Proofs.Ytlljlkeknklplaa
open Go.RowKit Go.Maps Go.MapKept
variable {X : Nat → Prop}
set_option maxRecDepth 100000 in
set_option maxHeartbeats 4000000 in
theorem refRename_any (w : World) (a : Option Addr) (n c : Nat) (d : ADisk) (s t : ByteArray) (h : RefAt X w a n c d) (hw : d.WF) (hX : NewOk X w) (ht : t.size ≤ maxLen) :
    Calls Try.prog 23 #[refVal a n c d, .string s, .string t] w fun e w' => ∃ a' n' c', e = .returned (.tuple #[refVal a' n' c' (d.rename s t), .int .i64 (d.renameErr s t)]) ∧ RefAt X w' a' n' c' (d.rename s t) ∧ Below w.heap.size w w' := by
  have hA := fun (w : World) (h : RefAt X w a n c d) => refAsk_any w a n c d s h hw
  have hD := alloc2_at0 w (.cells #[.int .i64 d.most, .slice a n c, .int .i64 d.left, .bool d.down] 43) (.cells #[.int .i64 0, .slice none 0 0, .int .i64 0, .bool false] 43)
  have hR := alloc2_at w (.cells #[.int .i64 d.most, .slice a n c, .int .i64 d.left, .bool d.down] 43) (.cells #[.int .i64 0, .slice none 0 0, .int .i64 0, .bool false] 43)
  have hbW : Below w.heap.size w ((w.alloc (.cells #[.int .i64 d.most, .slice a n c, .int .i64 d.left, .bool d.down] 43)).alloc (.cells #[.int .i64 0, .slice none 0 0, .int .i64 0, .bool false] 43)) := ((Below.refl _ _).alloc (Nat.le_refl _) _).alloc (by simp) _
  obtain ⟨W, hW⟩ : ∃ W, (w.alloc (.cells #[.int .i64 d.most, .slice a n c, .int .i64 d.left, .bool d.down] 43)).alloc (.cells #[.int .i64 0, .slice none 0 0, .int .i64 0, .bool false] 43) = W := ⟨_, rfl⟩
  rw [hW] at hD hR hbW
  have HW := Lib.hid hW
  clear hW
  have hRW := h.below hbW
  by_cases he : findErr d s = 0
  · obtain ⟨hd, f, hl⟩ := find_zero he
    obtain ⟨k, hk, hpl, hkn, hkf⟩ := place_some hw.sorted hl
    obtain ⟨b, off, vb, rfl, c0, c1, c2, hrd, hvX⟩ := h.atX k hk
    have hn : n = d.fs.length := h.len
    have hkn' : k < n := by omega
    rw [hkn] at c0
    rw [hkf] at c2 hrd hvX
    rw [he, hpl] at hA
    have hbw := cell_lt c0
    have hbne : ¬ b = w.heap.size + 1 := by omega
    have hbne2 : ¬ w.heap.size + 1 = b := by omega
    have e0 := fun {w1 : World} (hb1 : Below w.heap.size w w1) => (hb1.cell (p := ⟨b, off + k * 3, none⟩) (cell_lt c0)).trans c0
    have e1 := fun {w1 : World} (hb1 : Below w.heap.size w w1) => (hb1.cell (p := ⟨b, off + k * 3 + 1, none⟩) (cell_lt c1)).trans c1
    have e2 := fun {w1 : World} (hb1 : Below w.heap.size w w1) => (hb1.cell (p := ⟨b, off + k * 3 + 2, none⟩) (cell_lt c2)).trans c2
    obtain ⟨av, cv, rfl⟩ := hrd.shape
    rw [bcells_length, List.length_append] at hrd e1 hvX
    have Hcl : Hid (∀ {w1 : World}, Below w.heap.size w w1 → w1.cell? ⟨b, off + k * 3, none⟩ = some (.string s) ∧ w1.cell? ⟨b, off + k * 3 + 1, none⟩ = some (.slice av (f.firm.length + f.loose.length) cv) ∧ w1.cell? ⟨b, off + k * 3 + 2, none⟩ = some (.int .i64 (f.firm.length : Nat))) := Lib.hid (fun hb => ⟨e0 hb, e1 hb, e2 hb⟩)
    obtain ⟨x0, x1, x2, x3, _⟩ := cells4 hD
    have hfl : f.firm.length + f.loose.length ≤ 16777216 := by
      have h1 := lk_len_le hl
      have h2 := hw.used
      have h3 := hw.most1
      unfold AFile.len at h1
      omega
    have hafl : afile d s = f := by unfold afile; rw [hl]; rfl
    have hT := fun (w : World) => refRight_any w t ht
    cases hbad : okName t with
    | false =>
      have h1 : d.rename s t = d := by unfold ADisk.rename; rw [hd, hl, if_pos hbad]; rfl
      have h2 : d.renameErr s t = 13 := by unfold ADisk.renameErr; rw [hd, hl, if_pos hbad]; rfl
      rw [h1, h2]
      rw [hbad] at hT
      clear h1 h2 e0 e1 e2 c0 c1 c2 hkn hkf hl hpl he hn hd hafl hbad
      unfold refVal at hA ⊢
      go_enter Try.func23, Try.ntmps23
      go_wp2_with fail
      rw [HW.out]
      refine (hA _ hRW).mono ?_
      rintro e w1 ⟨rfl, hb1⟩
      have hD1 := (hb1.block _ (blk_lt hD)).trans hD
      have hR1 := (hb1.block _ (blk_lt hR)).trans hR
      have hbw1 : Below w.heap.size w w1 := hbW.trans (hb1.mono hbW.size)
      obtain ⟨y0, y1, y2, y3, y4, y5, y6, y7⟩ := cells4 hD1
      dsimp only
      go_wp2_with fail
      refine (hT _).mono ?_
      rintro e w2 ⟨rfl, rfl⟩
      obtain ⟨z0, z1, z2, z3, z4, z5, z6, z7⟩ := cells4 hR1
      dsimp only
      go_wp2
      obtain ⟨p1, p2⟩ := ref_answer (h.below hbw1) hR1 hbw1 (by omega) (.int .i64 d.most) (.slice (some ⟨b, off, none⟩) n c) (.int .i64 d.left) (.bool d.down)
      exact bodyPost_ret (v := .tuple #[.agg #[.int .i64 d.most, .slice (some ⟨b, off, none⟩) n c, .int .i64 d.left, .bool d.down], .int .i64 13]) (by simp [results, Try.results23, go_sem, z0, z1, z2, z3]) rfl ⟨_, _, _, rfl, p1, p2⟩
    | true =>
      have h1 : d.rename s t = d.thenF (putF (delF d.fs s) t f) := by unfold ADisk.rename; rw [hd, hl, hbad, hafl]; rfl
      have h2 : d.renameErr s t = d.err := by unfold ADisk.renameErr; rw [hd, hl, hbad]; rfl
      have hS := fun (w : World) (h : RefAt X w (some ⟨b, off, none⟩) n c d) (a' n' c' h') => refStep_then w (some ⟨b, off, none⟩) n c d a' n' c' (putF (delF d.fs s) t f) h h' hw hd
      have hP := fun (w : World) (h : RefAt X w (some ⟨b, off, none⟩) n c d) (hX : NewOk X w) (vf : Value) (hf : Rd w vf (bcells (f.firm ++ f.loose))) (hfX : f.firm ++ f.loose ≠ [] → ∀ g, vf.ownBlock = some g → X g) => refPut_new w (some ⟨b, off, none⟩) n c d s vf f true h hw hX hf hfX
      have hP2 := fun (w : World) (a' : Option Addr) (n' c' : Nat) (h : RefAt X w a' n' c' { d with fs := delF d.fs s }) (hX : NewOk X w) (vf : Value) (hf : Rd w vf (bcells (f.firm ++ f.loose))) (hfX : f.firm ++ f.loose ≠ [] → ∀ g, vf.ownBlock = some g → X g) => refPut_any w a' n' c' { d with fs := delF d.fs s } t vf f false h (hw.del s) hX hf hfX
      simp only [if_true] at hP
      simp only [if_false, Bool.false_eq_true] at hP2
      rw [hbad] at hT
      rw [h1, h2]
      obtain ⟨dd, hdd⟩ : ∃ dd, d.thenF (putF (delF d.fs s) t f) = dd := ⟨_, rfl⟩
      simp only [hdd] at hS ⊢
      clear h1 h2 e0 e1 e2 c0 c1 c2 hkn hkf hl hpl he hn hd hafl hbad hdd
      unfold refVal at hA hS hP hP2 ⊢
      go_enter Try.func23, Try.ntmps23
      go_wp2_with fail
      rw [HW.out]
      refine (hA _ hRW).mono ?_
      rintro e w1 ⟨rfl, hb1⟩
      have hD1 := (hb1.block _ (blk_lt hD)).trans hD
      have hR1 := (hb1.block _ (blk_lt hR)).trans hR
      have hbw1 : Below w.heap.size w w1 := hbW.trans (hb1.mono hbW.size)
      obtain ⟨y0, y1, y2, y3, y4, y5, y6, y7⟩ := cells4 hD1
      have hRef1 := h.below hbw1
      have hrd1 := rd_low hrd hbw1
      have hDl := blk_lt hD1
      obtain ⟨c0, c1, c2⟩ := Hcl.out hbw1
      clear x0 x1 x2 x3 hRW
      dsimp only
      go_wp2_with fail
      refine (hT _).mono ?_
      rintro e w2 ⟨rfl, rfl⟩
      have hNX := hX
      have hX := alloc_at w1 (.cells #[.string s, .slice av (f.firm.length + f.loose.length) cv, .int .i64 (f.firm.length : Nat)] 107)
      have hbX : Below w1.heap.size w1 (w1.alloc (.cells #[.string s, .slice av (f.firm.length + f.loose.length) cv, .int .i64 (f.firm.length : Nat)] 107)) := (Below.refl _ _).alloc (Nat.le_refl _) _
      have hsX : (w1.alloc (.cells #[.string s, .slice av (f.firm.length + f.loose.length) cv, .int .i64 (f.firm.length : Nat)] 107)).heap.size = w1.heap.size + 1 := by simp
      dsimp only
      go_wp2_with fail
      refine (hP _ (hRef1.below hbX) ((hNX.below hbw1).below hbX) _ (rd_low hrd1 hbX) hvX).mono ?_
      rintro e w3 ⟨a', n', c', rfl, hR3, hb3, hnew⟩
      have hbX3 := hbX.trans (hb3.mono hbX.size)
      have hX3 := (hb3.block _ (blk_lt hX)).trans hX
      have hD3 := (hbX3.block _ (blk_lt hD1)).trans hD1
      have hRB3 := (hbX3.block _ (blk_lt hR1)).trans hR1
      have hbw3 := hbw1.trans (hbX3.mono hbw1.size)
      have hs3 := hb3.size
      rw [hsX] at hs3
      have hlt3 : w1.heap.size < w3.heap.size := by omega
      have hne3 : ¬ w1.heap.size = w3.heap.size := by omega
      have hne4 : ¬ w3.heap.size = w1.heap.size := by omega
      clear hbX hbX3 hb3 hX hRef1 hrd1
      dsimp only
      obtain ⟨f0, f1, f2, f3, f4, f5⟩ := cells3 hX3
      go_wp2_with fail
      have hU3 : Upd (· = w1.heap.size) w3 (w3.setCell ⟨w1.heap.size, 0, none⟩ (.string t)) := setCell_upd 0 _
      have hs4 : (w3.setCell ⟨w1.heap.size, 0, none⟩ (.string t)).heap.size = w3.heap.size := by simp [World.setCell]
      have hR4 := hR3.far (r := w1.heap.size) (fun g hg => by have := hnew g hg; rw [hsX] at this; omega) (fun o z hz => by
        rw [cell_at hX3] at hz
        match o, hz with
        | 0, hz => cases hz; exact fun n => by simp
        | 1, hz => cases hz; exact fun n => by simp
        | 2, hz => cases hz; exact fun n => by simp
        | o + 3, hz => simp at hz) hU3
      have hX4 := setCell_at hX3 0 (.string t)
      have hD4 := setCell_old hD3 (by omega : w.heap.size ≠ w1.heap.size) 0 (.string t)
      have hRB4 := setCell_old hRB3 (by have := blk_lt hR1; omega : w.heap.size + 1 ≠ w1.heap.size) 0 (.string t)
      have hb4 : Below w.heap.size w (w3.setCell ⟨w1.heap.size, 0, none⟩ (.string t)) := hbw3.trans (hU3.below (fun k hk => by have := hbw1.size; omega) hbw3.size)
      have hb45 : Below (w3.setCell ⟨w1.heap.size, 0, none⟩ (.string t)).heap.size (w3.setCell ⟨w1.heap.size, 0, none⟩ (.string t)) ((w3.setCell ⟨w1.heap.size, 0, none⟩ (.string t)).alloc (.cells #[.int .i64 d.most, .slice a' n' c', .int .i64 d.left, .bool d.down] 43)) := (Below.refl _ _).alloc (Nat.le_refl _) _
      have hT5 := alloc_at (w3.setCell ⟨w1.heap.size, 0, none⟩ (.string t)) (.cells #[.int .i64 d.most, .slice a' n' c', .int .i64 d.left, .bool d.down] 43)
      rw [hs4] at hT5
      have hR5 := hR4.below hb45
      have hX5 := (hb45.block _ (blk_lt hX4)).trans hX4
      have hD5 := (hb45.block _ (blk_lt hD4)).trans hD4
      have hRB5 := (hb45.block _ (blk_lt hRB4)).trans hRB4
      have hb5 := hb4.trans (hb45.mono hb4.size)
      obtain ⟨w5, hw5⟩ : ∃ w5, (w3.setCell ⟨w1.heap.size, 0, none⟩ (.string t)).alloc (.cells #[.int .i64 d.most, .slice a' n' c', .int .i64 d.left, .bool d.down] 43) = w5 := ⟨_, rfl⟩
      rw [hw5] at hT5 hR5 hX5 hD5 hRB5 hb5 ⊢
      clear hw5 hb45 hb4 hRB4 hD4 hX4 hR4 hs4 hU3 hbw3 hRB3 hD3 hX3 hR3 f0 f1 f2 f3 f4 f5 y0 y1 y2 y3 y4 y5 y6 y7 c0 c1 c2 hs3 hnew hsX
      obtain ⟨y0, y1, y2, y3, _⟩ := cells4 hD5
      obtain ⟨t0, t1, t2, t3, _⟩ := cells4 hT5
      obtain ⟨f0, f1, f2, _⟩ := cells3 hX5
      have hRef5d := (h.below hb5).below ((Below.refl w5.heap.size w5).drew)
      have hR5d := hR5.below ((Below.refl w5.heap.size w5).drew)
      have hrd5d := rd_low hrd hb5.drew
      have hDl := blk_lt hD5
      have hTl := blk_lt hT5
      have hXl := blk_lt hX5
      have hRl := blk_lt hR1
      have hn1 : ¬ w1.heap.size = w.heap.size + 1 := by omega
      have hn2 : ¬ w3.heap.size = w.heap.size + 1 := by omega
      have hn3 : ¬ w.heap.size + 1 = w1.heap.size := by omega
      have hn4 : ¬ w.heap.size + 1 = w3.heap.size := by omega
      go_region_held3 (fun w' => w'.cell? ⟨w.heap.size, 0, none⟩ = some (.int .i64 d.most) ∧ w'.cell? ⟨w.heap.size, 1, none⟩ = some (.slice (some ⟨b, off, none⟩) n c) ∧ w'.cell? ⟨w.heap.size, 2, none⟩ = some (.int .i64 d.left) ∧ w'.cell? ⟨w.heap.size, 3, none⟩ = some (.bool d.down) ∧ w'.cell? ⟨w3.heap.size, 0, none⟩ = some (.int .i64 d.most) ∧ w'.cell? ⟨w3.heap.size, 1, none⟩ = some (.slice a' n' c') ∧ w'.cell? ⟨w3.heap.size, 2, none⟩ = some (.int .i64 d.left) ∧ w'.cell? ⟨w3.heap.size, 3, none⟩ = some (.bool d.down) ∧ w'.cell? ⟨w1.heap.size, 0, none⟩ = some (.string t) ∧ w'.cell? ⟨w1.heap.size, 1, none⟩ = some (.slice av (f.firm.length + f.loose.length) cv) ∧ w'.cell? ⟨w1.heap.size, 2, none⟩ = some (.int .i64 (f.firm.length : Nat)))
        (first | exact ⟨y0, y1, y2, y3, t0, t1, t2, t3, f0, f1, f2⟩ | exact S2 | exact S3 | go_keep)
        (first
          | (go_at_call 60; (with_reducible refine (hP2 _ _ _ _ hR5d (hNX.below hb5.drew) _ hrd5d hvX).mono ?_); rintro e w6 ⟨a6, n6, c6, rfl, hR6, hb6⟩; have hbw6 := hb5.drew.trans (hb6.mono hb5.size); have S2 : w6.cell? ⟨w.heap.size, 0, none⟩ = some (.int .i64 d.most) ∧ w6.cell? ⟨w.heap.size, 1, none⟩ = some (.slice (some ⟨b, off, none⟩) n c) ∧ w6.cell? ⟨w.heap.size, 2, none⟩ = some (.int .i64 d.left) ∧ w6.cell? ⟨w.heap.size, 3, none⟩ = some (.bool d.down) ∧ w6.cell? ⟨w3.heap.size, 0, none⟩ = some (.int .i64 d.most) ∧ w6.cell? ⟨w3.heap.size, 1, none⟩ = some (.slice a' n' c') ∧ w6.cell? ⟨w3.heap.size, 2, none⟩ = some (.int .i64 d.left) ∧ w6.cell? ⟨w3.heap.size, 3, none⟩ = some (.bool d.down) ∧ w6.cell? ⟨w1.heap.size, 0, none⟩ = some (.string t) ∧ w6.cell? ⟨w1.heap.size, 1, none⟩ = some (.slice av (f.firm.length + f.loose.length) cv) ∧ w6.cell? ⟨w1.heap.size, 2, none⟩ = some (.int .i64 (f.firm.length : Nat)) := ⟨(hb6.cell (p := ⟨w.heap.size, 0, none⟩) hDl).trans y0, (hb6.cell (p := ⟨w.heap.size, 1, none⟩) hDl).trans y1, (hb6.cell (p := ⟨w.heap.size, 2, none⟩) hDl).trans y2, (hb6.cell (p := ⟨w.heap.size, 3, none⟩) hDl).trans y3, (hb6.cell (p := ⟨w3.heap.size, 0, none⟩) hTl).trans t0, (hb6.cell (p := ⟨w3.heap.size, 1, none⟩) hTl).trans t1, (hb6.cell (p := ⟨w3.heap.size, 2, none⟩) hTl).trans t2, (hb6.cell (p := ⟨w3.heap.size, 3, none⟩) hTl).trans t3, (hb6.cell (p := ⟨w1.heap.size, 0, none⟩) hXl).trans f0, (hb6.cell (p := ⟨w1.heap.size, 1, none⟩) hXl).trans f1, (hb6.cell (p := ⟨w1.heap.size, 2, none⟩) hXl).trans f2⟩; have hRef6 := hRef5d.below hb6; have hRB6 := (hb6.block _ (blk_lt hRB5)).trans hRB5)
          | (go_at_call 59; (with_reducible refine (hS _ hRef6 _ _ _ hR6).mono ?_); rintro e w7 ⟨a3, n3, c3, rfl, hR7, hb7⟩; have hbw7 := hbw6.trans (hb7.mono hbw6.size); have S3 : w7.cell? ⟨w.heap.size, 0, none⟩ = some (.int .i64 d.most) ∧ w7.cell? ⟨w.heap.size, 1, none⟩ = some (.slice (some ⟨b, off, none⟩) n c) ∧ w7.cell? ⟨w.heap.size, 2, none⟩ = some (.int .i64 d.left) ∧ w7.cell? ⟨w.heap.size, 3, none⟩ = some (.bool d.down) ∧ w7.cell? ⟨w3.heap.size, 0, none⟩ = some (.int .i64 d.most) ∧ w7.cell? ⟨w3.heap.size, 1, none⟩ = some (.slice a' n' c') ∧ w7.cell? ⟨w3.heap.size, 2, none⟩ = some (.int .i64 d.left) ∧ w7.cell? ⟨w3.heap.size, 3, none⟩ = some (.bool d.down) ∧ w7.cell? ⟨w1.heap.size, 0, none⟩ = some (.string t) ∧ w7.cell? ⟨w1.heap.size, 1, none⟩ = some (.slice av (f.firm.length + f.loose.length) cv) ∧ w7.cell? ⟨w1.heap.size, 2, none⟩ = some (.int .i64 (f.firm.length : Nat)) := ⟨(hb7.cell (p := ⟨w.heap.size, 0, none⟩) (cell_lt S2.1)).trans S2.1, (hb7.cell (p := ⟨w.heap.size, 1, none⟩) (cell_lt S2.1)).trans S2.2.1, (hb7.cell (p := ⟨w.heap.size, 2, none⟩) (cell_lt S2.1)).trans S2.2.2.1, (hb7.cell (p := ⟨w.heap.size, 3, none⟩) (cell_lt S2.1)).trans S2.2.2.2.1, (hb7.cell (p := ⟨w3.heap.size, 0, none⟩) (cell_lt S2.2.2.2.2.1)).trans S2.2.2.2.2.1, (hb7.cell (p := ⟨w3.heap.size, 1, none⟩) (cell_lt S2.2.2.2.2.1)).trans S2.2.2.2.2.2.1, (hb7.cell (p := ⟨w3.heap.size, 2, none⟩) (cell_lt S2.2.2.2.2.1)).trans S2.2.2.2.2.2.2.1, (hb7.cell (p := ⟨w3.heap.size, 3, none⟩) (cell_lt S2.2.2.2.2.1)).trans S2.2.2.2.2.2.2.2.1, (hb7.cell (p := ⟨w1.heap.size, 0, none⟩) (cell_lt S2.2.2.2.2.2.2.2.2.1)).trans S2.2.2.2.2.2.2.2.2.1, (hb7.cell (p := ⟨w1.heap.size, 1, none⟩) (cell_lt S2.2.2.2.2.2.2.2.2.1)).trans S2.2.2.2.2.2.2.2.2.2.1, (hb7.cell (p := ⟨w1.heap.size, 2, none⟩) (cell_lt S2.2.2.2.2.2.2.2.2.1)).trans S2.2.2.2.2.2.2.2.2.2.2⟩; have hRB7 := (hb7.block _ (blk_lt hRB6)).trans hRB6; obtain ⟨z0, z1, z2, z3, z4, z5, z6, z7⟩ := cells4 hRB7))
      go_wp2
      obtain ⟨p1, p2⟩ := ref_answer hR7 hRB7 hbw7 (by omega) (.int .i64 dd.most) (.slice a3 n3 c3) (.int .i64 dd.left) (.bool dd.down)
      exact bodyPost_ret (v := .tuple #[.agg #[.int .i64 dd.most, .slice a3 n3 c3, .int .i64 dd.left, .bool dd.down], .int .i64 d.err]) (by simp [results, Try.results23, go_sem, z0, z1, z2, z3]) rfl ⟨_, _, _, rfl, p1, p2⟩
  · have h1 : d.rename s t = d := by
      unfold findErr at he
      unfold ADisk.rename
      split
      · rfl
      · rename_i hd
        rw [if_neg hd] at he
        split
        · rfl
        · rename_i hl
          rw [if_neg hl] at he
          exact absurd rfl he
    have h2 : d.renameErr s t = findErr d s := by
      unfold findErr at he ⊢
      unfold ADisk.renameErr
      split
      · rfl
      · rename_i hd
        rw [if_neg hd] at he
        split
        · rfl
        · rename_i hl
          rw [if_neg hl] at he
          exact absurd rfl he
    rw [h1, h2]
    obtain ⟨fe, hfe⟩ : ∃ fe, findErr d s = fe := ⟨_, rfl⟩
    rw [hfe] at hA he ⊢
    have hq : (fe == 0) = false := by simpa using he
    have hq2 : (fe != 0) = true := by simpa using he
    clear hfe h1 h2 he
    obtain ⟨x0, x1, x2, x3, _⟩ := cells4 hD
    unfold refVal at hA ⊢
    go_enter Try.func23, Try.ntmps23
    go_wp2_with fail
    rw [HW.out]
    refine (hA _ hRW).mono ?_
    rintro e w1 ⟨rfl, hb1⟩
    have hD1 := (hb1.block _ (blk_lt hD)).trans hD
    have hR1 := (hb1.block _ (blk_lt hR)).trans hR
    have hbw1 : Below w.heap.size w w1 := hbW.trans (hb1.mono hbW.size)
    obtain ⟨y0, y1, y2, y3, y4, y5, y6, y7⟩ := cells4 hD1
    obtain ⟨z0, z1, z2, z3, z4, z5, z6, z7⟩ := cells4 hR1
    dsimp only
    go_wp2
    obtain ⟨p1, p2⟩ := ref_answer (h.below hbw1) hR1 hbw1 (by omega) (.int .i64 d.most) (.slice a n c) (.int .i64 d.left) (.bool d.down)
    exact bodyPost_ret (v := .tuple #[.agg #[.int .i64 d.most, .slice a n c, .int .i64 d.left, .bool d.down], .int .i64 fe]) (by simp [results, Try.results23, go_sem, z0, z1, z2, z3]) rfl ⟨_, _, _, rfl, p1, p2⟩
end Go.Proofs.Ytlljlkeknklplaa

