/-
  The document's disk: Cut (printed by wip/gen/gen_ref.py).
-/
import Derived.Outline
import Derived.Deep.RegionHeld3
import Derived.Test.YtlljlkeknklplaaRef9
namespace Go.Proofs.Ytlljlkeknklplaa
open Go.RowKit Go.Maps Go.MapKept
variable {X : Nat → Prop}
theorem refPut_as (w : World) (a : Option Addr) (n c : Nat) (d : ADisk) (s : ByteArray) (vf : Value) (g : AFile) (m : Int) (bs : List UInt8) (gone : Bool) (hm : (g.firm.length : Int) = m) (hbs : g.firm ++ g.loose = bs) (h : RefAt X w a n c d) (hw : d.WF) (hX : NewOk X w) (hf : Rd w vf (bcells bs)) (hfX : bs ≠ [] → ∀ g, vf.ownBlock = some g → X g) :
    Calls Try.prog 60 #[refVal a n c d, .agg #[.string s, vf, .int .i64 m], .bool gone] w fun e w' => ∃ a' n' c', e = .returned (refVal a' n' c' { d with fs := if gone then delF d.fs s else putF d.fs s g }) ∧ RefAt X w' a' n' c' { d with fs := if gone then delF d.fs s else putF d.fs s g } ∧ Below w.heap.size w w' := by
  subst hm hbs
  exact refPut_any w a n c d s vf g gone h hw hX hf hfX

set_option maxRecDepth 100000 in
set_option maxHeartbeats 4000000 in
theorem refCut_any (w : World) (a : Option Addr) (n c : Nat) (d : ADisk) (s : ByteArray) (x : Int) (h : RefAt X w a n c d) (hw : d.WF) (hX : NewOk X w) :
    Calls Try.prog 27 #[refVal a n c d, .string s, .int .i64 x] w fun e w' => ∃ a' n' c', e = .returned (.tuple #[refVal a' n' c' (d.cut s x), .int .i64 (d.cutErr s x)]) ∧ RefAt X w' a' n' c' (d.cut s x) ∧ Below w.heap.size w w' := by
  have hA := fun (w : World) (h : RefAt X w a n c d) => refAsk_any w a n c d s h hw
  have hD := alloc2_at0 w (.cells #[.int .i64 d.most, .slice a n c, .int .i64 d.left, .bool d.down] 43) (.cells #[.int .i64 0, .slice none 0 0, .int .i64 0, .bool false] 43)
  have hR := alloc2_at w (.cells #[.int .i64 d.most, .slice a n c, .int .i64 d.left, .bool d.down] 43) (.cells #[.int .i64 0, .slice none 0 0, .int .i64 0, .bool false] 43)
  have hbW : Below w.heap.size w ((w.alloc (.cells #[.int .i64 d.most, .slice a n c, .int .i64 d.left, .bool d.down] 43)).alloc (.cells #[.int .i64 0, .slice none 0 0, .int .i64 0, .bool false] 43)) := ((Below.refl _ _).alloc (Nat.le_refl _) _).alloc (by simp) _
  obtain ⟨W, hW⟩ : ∃ W, (w.alloc (.cells #[.int .i64 d.most, .slice a n c, .int .i64 d.left, .bool d.down] 43)).alloc (.cells #[.int .i64 0, .slice none 0 0, .int .i64 0, .bool false] 43) = W := ⟨_, rfl⟩
  rw [hW] at hD hR hbW
  have HW := Lib.hid hW
  clear hW
  have hRW := h.below hbW
  by_cases he : findErr d s = 0
  · obtain ⟨hd, f, hl⟩ := find_zero he
    obtain ⟨k, hk, hpl, hkn, hkf⟩ := place_some hw.sorted hl
    obtain ⟨b, off, vb, rfl, c0, c1, c2, hrd, hvX⟩ := h.atX k hk
    have hn : n = d.fs.length := h.len
    have hkn' : k < n := by omega
    rw [hkn] at c0
    rw [hkf] at c2 hrd
    rw [he, hpl] at hA
    have hbw := cell_lt c0
    have hbne : ¬ b = w.heap.size + 1 := by omega
    have hbne2 : ¬ w.heap.size + 1 = b := by omega
    have e0 := fun {w1 : World} (hb1 : Below w.heap.size w w1) => (hb1.cell (p := ⟨b, off + k * 3, none⟩) (cell_lt c0)).trans c0
    have e1 := fun {w1 : World} (hb1 : Below w.heap.size w w1) => (hb1.cell (p := ⟨b, off + k * 3 + 1, none⟩) (cell_lt c1)).trans c1
    have e2 := fun {w1 : World} (hb1 : Below w.heap.size w w1) => (hb1.cell (p := ⟨b, off + k * 3 + 2, none⟩) (cell_lt c2)).trans c2
    obtain ⟨av, cv, rfl⟩ := hrd.shape
    rw [bcells_length, List.length_append] at hrd e1 hvX
    have Hcl : Hid (∀ {w1 : World}, Below w.heap.size w w1 → w1.cell? ⟨b, off + k * 3, none⟩ = some (.string s) ∧ w1.cell? ⟨b, off + k * 3 + 1, none⟩ = some (.slice av (f.firm.length + f.loose.length) cv) ∧ w1.cell? ⟨b, off + k * 3 + 2, none⟩ = some (.int .i64 (f.firm.length : Nat))) := Lib.hid (fun hb => ⟨e0 hb, e1 hb, e2 hb⟩)
    obtain ⟨x0, x1, x2, x3, _⟩ := cells4 hD
    have hfl : f.firm.length + f.loose.length ≤ 16777216 := by
      have h1 := lk_len_le hl
      have h2 := hw.used
      have h3 := hw.most1
      unfold AFile.len at h1
      omega
    have hafl : afile d s = f := by unfold afile; rw [hl]; rfl
    have hlen : f.len = f.firm.length + f.loose.length := rfl
    by_cases hbad : x < 0 ∨ (f.len : Int) < x
    · have h1 : d.cut s x = d := by unfold ADisk.cut; rw [hd, hl, hafl, if_pos hbad]; rfl
      have h2 : d.cutErr s x = 2 := by unfold ADisk.cutErr; rw [hd, hl, hafl, if_pos hbad]; rfl
      rw [h1, h2]
      rw [hlen] at hbad
      clear h1 h2 e0 e1 e2 c0 c1 c2 hkn hkf hl hpl he hn hd hafl hlen
      unfold refVal at hA ⊢
      by_cases hx0 : x < 0
      · clear hbad
        go_enter Try.func27, Try.ntmps27
        go_wp2_with fail
        rw [HW.out]
        refine (hA _ hRW).mono ?_
        rintro e w1 ⟨rfl, hb1⟩
        have hD1 := (hb1.block _ (blk_lt hD)).trans hD
        have hR1 := (hb1.block _ (blk_lt hR)).trans hR
        have hbw1 : Below w.heap.size w w1 := hbW.trans (hb1.mono hbW.size)
        obtain ⟨y0, y1, y2, y3, y4, y5, y6, y7⟩ := cells4 hD1
        obtain ⟨z0, z1, z2, z3, z4, z5, z6, z7⟩ := cells4 hR1
        dsimp only
        go_wp2
        obtain ⟨p1, p2⟩ := ref_answer (h.below hbw1) hR1 hbw1 (by omega) (.int .i64 d.most) (.slice (some ⟨b, off, none⟩) n c) (.int .i64 d.left) (.bool d.down)
        exact bodyPost_ret (v := .tuple #[.agg #[.int .i64 d.most, .slice (some ⟨b, off, none⟩) n c, .int .i64 d.left, .bool d.down], .int .i64 2]) (by simp [results, Try.results27, go_sem, z0, z1, z2, z3]) rfl ⟨_, _, _, rfl, p1, p2⟩
      · have hx1 : ((f.firm.length + f.loose.length : Nat) : Int) < x := by omega
        clear hbad
        go_enter Try.func27, Try.ntmps27
        go_wp2_with fail
        rw [HW.out]
        refine (hA _ hRW).mono ?_
        rintro e w1 ⟨rfl, hb1⟩
        have hD1 := (hb1.block _ (blk_lt hD)).trans hD
        have hR1 := (hb1.block _ (blk_lt hR)).trans hR
        have hbw1 : Below w.heap.size w w1 := hbW.trans (hb1.mono hbW.size)
        obtain ⟨y0, y1, y2, y3, y4, y5, y6, y7⟩ := cells4 hD1
        obtain ⟨c0, c1, c2⟩ := Hcl.out hbw1
        obtain ⟨z0, z1, z2, z3, z4, z5, z6, z7⟩ := cells4 hR1
        dsimp only
        go_wp2
        obtain ⟨p1, p2⟩ := ref_answer (h.below hbw1) hR1 hbw1 (by omega) (.int .i64 d.most) (.slice (some ⟨b, off, none⟩) n c) (.int .i64 d.left) (.bool d.down)
        exact bodyPost_ret (v := .tuple #[.agg #[.int .i64 d.most, .slice (some ⟨b, off, none⟩) n c, .int .i64 d.left, .bool d.down], .int .i64 2]) (by simp [results, Try.results27, go_sem, z0, z1, z2, z3]) rfl ⟨_, _, _, rfl, p1, p2⟩
    · obtain ⟨m, rfl⟩ : ∃ m : Nat, x = m := ⟨x.toNat, by omega⟩
      have hm : m ≤ f.firm.length + f.loose.length := by omega
      have h1 : d.cut s m = d.thenF (putF d.fs s ⟨(f.firm ++ f.loose).take m, []⟩) := by unfold ADisk.cut ADisk.cutTo; rw [hd, hl, hafl, if_neg hbad, Int.toNat_natCast]; rfl
      have h2 : d.cutErr s m = d.err := by unfold ADisk.cutErr; rw [hd, hl, hafl, if_neg hbad]; rfl
      have hS := fun (w : World) (h : RefAt X w (some ⟨b, off, none⟩) n c d) (a' n' c' h') => refStep_then w (some ⟨b, off, none⟩) n c d a' n' c' (putF d.fs s ⟨(f.firm ++ f.loose).take m, []⟩) h h' hw hd
      have hP := fun (w : World) (h : RefAt X w (some ⟨b, off, none⟩) n c d) (hX : NewOk X w) (vf : Value) (hf : Rd w vf (bcells ((f.firm ++ f.loose).take m))) (hfX : (f.firm ++ f.loose).take m ≠ [] → ∀ g, vf.ownBlock = some g → X g) => refPut_as w (some ⟨b, off, none⟩) n c d s vf ⟨(f.firm ++ f.loose).take m, []⟩ m ((f.firm ++ f.loose).take m) false (by simp; omega) (by simp) h hw hX hf hfX
      have hF := fun (w : World) (hr : Rd w (.slice av (f.firm.length + f.loose.length) cv) (bcells (f.firm ++ f.loose))) => refFirst_at w s _ (f.firm ++ f.loose) m m hr (by simp; omega) (by simp; omega)
      simp only [if_false, Bool.false_eq_true] at hP
      rw [h1, h2]
      obtain ⟨dd, hdd⟩ : ∃ dd, d.thenF (putF d.fs s ⟨(f.firm ++ f.loose).take m, []⟩) = dd := ⟨_, rfl⟩
      simp only [hdd] at hS ⊢
      clear hdd
      have hx0 : ¬ (m : Int) < 0 := by omega
      have hx1 : ¬ ((f.firm.length + f.loose.length : Nat) : Int) < (m : Int) := by omega
      clear h1 h2 e0 e1 e2 c0 c1 c2 hkn hkf hl hpl he hn hd hafl hlen hbad
      unfold refVal at hA hS hP ⊢
      go_enter Try.func27, Try.ntmps27
      go_wp2_with fail
      rw [HW.out]
      refine (hA _ hRW).mono ?_
      rintro e w1 ⟨rfl, hb1⟩
      have hD1 := (hb1.block _ (blk_lt hD)).trans hD
      have hR1 := (hb1.block _ (blk_lt hR)).trans hR
      have hbw1 : Below w.heap.size w w1 := hbW.trans (hb1.mono hbW.size)
      obtain ⟨y0, y1, y2, y3, y4, y5, y6, y7⟩ := cells4 hD1
      obtain ⟨c0, c1, c2⟩ := Hcl.out hbw1
      have hRef1d := (h.below hbw1).below ((Below.refl w1.heap.size w1).drew)
      have hrd1d := rd_low hrd hbw1.drew
      have hDl := blk_lt hD1
      clear x0 x1 x2 x3 hRW
      dsimp only
      go_wp2_with fail
      go_region_held3 (fun w' => w'.cell? ⟨w.heap.size, 0, none⟩ = some (.int .i64 d.most) ∧ w'.cell? ⟨w.heap.size, 1, none⟩ = some (.slice (some ⟨b, off, none⟩) n c) ∧ w'.cell? ⟨w.heap.size, 2, none⟩ = some (.int .i64 d.left) ∧ w'.cell? ⟨w.heap.size, 3, none⟩ = some (.bool d.down) ∧ w'.cell? ⟨b, off + k * 3 + 1, none⟩ = some (.slice av (f.firm.length + f.loose.length) cv))
        (first | exact ⟨y0, y1, y2, y3, c1⟩ | exact S2 | exact S3 | exact S4 | go_keep)
        (first
          | (go_at_call 61; (with_reducible refine (hF _ hrd1d).mono ?_); rintro e w2 ⟨v2, rfl, hr2, hb2, ha2, _⟩; have hbw2 := hbw1.drew.trans (hb2.mono hbw1.size); have hv2 : (f.firm ++ f.loose).take m ≠ [] → ∀ g, (Value.slice (some ⟨v2, 0, none⟩) m m).ownBlock = some g → X g := fun _ g hg => (by cases hg; exact (hX.below hbw1.drew) _ ha2); have S2 : w2.cell? ⟨w.heap.size, 0, none⟩ = some (.int .i64 d.most) ∧ w2.cell? ⟨w.heap.size, 1, none⟩ = some (.slice (some ⟨b, off, none⟩) n c) ∧ w2.cell? ⟨w.heap.size, 2, none⟩ = some (.int .i64 d.left) ∧ w2.cell? ⟨w.heap.size, 3, none⟩ = some (.bool d.down) ∧ w2.cell? ⟨b, off + k * 3 + 1, none⟩ = some (.slice av (f.firm.length + f.loose.length) cv) := ⟨(hb2.cell (p := ⟨w.heap.size, 0, none⟩) hDl).trans y0, (hb2.cell (p := ⟨w.heap.size, 1, none⟩) hDl).trans y1, (hb2.cell (p := ⟨w.heap.size, 2, none⟩) hDl).trans y2, (hb2.cell (p := ⟨w.heap.size, 3, none⟩) hDl).trans y3, (Hcl.out hbw2).2.1⟩; have hRef2 := hRef1d.below hb2; have hRB2 := (hb2.block _ (blk_lt hR1)).trans hR1)
          | (go_at_call 60; (with_reducible refine (hP _ hRef2 (hX.below hbw2) _ hr2 hv2).mono ?_); rintro e w3 ⟨a', n', c', rfl, hR3, hb3⟩; have hbw3 := hbw2.trans (hb3.mono hbw2.size); have S3 : w3.cell? ⟨w.heap.size, 0, none⟩ = some (.int .i64 d.most) ∧ w3.cell? ⟨w.heap.size, 1, none⟩ = some (.slice (some ⟨b, off, none⟩) n c) ∧ w3.cell? ⟨w.heap.size, 2, none⟩ = some (.int .i64 d.left) ∧ w3.cell? ⟨w.heap.size, 3, none⟩ = some (.bool d.down) ∧ w3.cell? ⟨b, off + k * 3 + 1, none⟩ = some (.slice av (f.firm.length + f.loose.length) cv) := ⟨(hb3.cell (p := ⟨w.heap.size, 0, none⟩) (cell_lt S2.1)).trans S2.1, (hb3.cell (p := ⟨w.heap.size, 1, none⟩) (cell_lt S2.1)).trans S2.2.1, (hb3.cell (p := ⟨w.heap.size, 2, none⟩) (cell_lt S2.1)).trans S2.2.2.1, (hb3.cell (p := ⟨w.heap.size, 3, none⟩) (cell_lt S2.1)).trans S2.2.2.2.1, (Hcl.out hbw3).2.1⟩; have hRef3 := hRef2.below hb3; have hRB3 := (hb3.block _ (blk_lt hRB2)).trans hRB2)
          | (go_at_call 59; (with_reducible refine (hS _ hRef3 _ _ _ hR3).mono ?_); rintro e w4 ⟨a3, n3, c3, rfl, hR4, hb4⟩; have hbw4 := hbw3.trans (hb4.mono hbw3.size); have S4 : w4.cell? ⟨w.heap.size, 0, none⟩ = some (.int .i64 d.most) ∧ w4.cell? ⟨w.heap.size, 1, none⟩ = some (.slice (some ⟨b, off, none⟩) n c) ∧ w4.cell? ⟨w.heap.size, 2, none⟩ = some (.int .i64 d.left) ∧ w4.cell? ⟨w.heap.size, 3, none⟩ = some (.bool d.down) ∧ w4.cell? ⟨b, off + k * 3 + 1, none⟩ = some (.slice av (f.firm.length + f.loose.length) cv) := ⟨(hb4.cell (p := ⟨w.heap.size, 0, none⟩) (cell_lt S3.1)).trans S3.1, (hb4.cell (p := ⟨w.heap.size, 1, none⟩) (cell_lt S3.1)).trans S3.2.1, (hb4.cell (p := ⟨w.heap.size, 2, none⟩) (cell_lt S3.1)).trans S3.2.2.1, (hb4.cell (p := ⟨w.heap.size, 3, none⟩) (cell_lt S3.1)).trans S3.2.2.2.1, (Hcl.out hbw4).2.1⟩; have hRB4 := (hb4.block _ (blk_lt hRB3)).trans hRB3; obtain ⟨z0, z1, z2, z3, z4, z5, z6, z7⟩ := cells4 hRB4))
      go_wp2
      obtain ⟨p1, p2⟩ := ref_answer hR4 hRB4 hbw4 (by omega) (.int .i64 dd.most) (.slice a3 n3 c3) (.int .i64 dd.left) (.bool dd.down)
      exact bodyPost_ret (v := .tuple #[.agg #[.int .i64 dd.most, .slice a3 n3 c3, .int .i64 dd.left, .bool dd.down], .int .i64 d.err]) (by simp [results, Try.results27, go_sem, z0, z1, z2, z3]) rfl ⟨_, _, _, rfl, p1, p2⟩
  · have h1 : d.cut s x = d := by
      unfold findErr at he
      unfold ADisk.cut
      split
      · rfl
      · rename_i hd
        rw [if_neg hd] at he
        split
        · rfl
        · rename_i hl
          rw [if_neg hl] at he
          exact absurd rfl he
    have h2 : d.cutErr s x = findErr d s := by
      unfold findErr at he ⊢
      unfold ADisk.cutErr
      split
      · rfl
      · rename_i hd
        rw [if_neg hd] at he
        split
        · rfl
        · rename_i hl
          rw [if_neg hl] at he
          exact absurd rfl he
    rw [h1, h2]
    obtain ⟨fe, hfe⟩ : ∃ fe, findErr d s = fe := ⟨_, rfl⟩
    rw [hfe] at hA he ⊢
    have hq : (fe == 0) = false := by simpa using he
    have hq2 : (fe != 0) = true := by simpa using he
    clear hfe h1 h2 he
    obtain ⟨x0, x1, x2, x3, _⟩ := cells4 hD
    unfold refVal at hA ⊢
    go_enter Try.func27, Try.ntmps27
    go_wp2_with fail
    rw [HW.out]
    refine (hA _ hRW).mono ?_
    rintro e w1 ⟨rfl, hb1⟩
    have hD1 := (hb1.block _ (blk_lt hD)).trans hD
    have hR1 := (hb1.block _ (blk_lt hR)).trans hR
    have hbw1 : Below w.heap.size w w1 := hbW.trans (hb1.mono hbW.size)
    obtain ⟨y0, y1, y2, y3, y4, y5, y6, y7⟩ := cells4 hD1
    obtain ⟨z0, z1, z2, z3, z4, z5, z6, z7⟩ := cells4 hR1
    dsimp only
    go_wp2
    obtain ⟨p1, p2⟩ := ref_answer (h.below hbw1) hR1 hbw1 (by omega) (.int .i64 d.most) (.slice a n c) (.int .i64 d.left) (.bool d.down)
    exact bodyPost_ret (v := .tuple #[.agg #[.int .i64 d.most, .slice a n c, .int .i64 d.left, .bool d.down], .int .i64 fe]) (by simp [results, Try.results27, go_sem, z0, z1, z2, z3]) rfl ⟨_, _, _, rfl, p1, p2⟩
end Go.Proofs.Ytlljlkeknklplaa

