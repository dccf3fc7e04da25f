/-
  The document's disk: Cut (printed by wip/gen/gen_ref.py).
-/
import Derived.Outline
import Derived.Deep.RegionHeld3
import Derived.Test.YtkacgmbinkoojaaGreatDoorMRfB
import Derived.IntWalk
import Derived.Deep.RegionLaw
namespace Go.Proofs.YtkacgmbinkoojaaGreatDoor
open Go.RowKit Go.Maps Go.MapKept
variable {X : Nat → Prop}
theorem refPut_as (w : World) (a : Option Addr) (n c : Nat) (d : ADisk) (s : ByteArray) (vf : Value) (g : AFile) (m : Int) (bs : List UInt8) (gone : Bool) (hm : (g.firm.length : Int) = m) (hbs : g.firm ++ g.loose = bs) (h : RefAt X w a n c d) (hw : d.WF) (hX : NewOk X w) (hf : Rd w vf (bcells bs)) (hfX : InX X vf (bs)) :
    Calls Tryz.prog 52 #[refVal a n c d, .agg #[.string s, vf, .int .i64 m], .bool gone] w fun e w' => ∃ a' n' c', e = .returned (refVal a' n' c' { d with fs := if gone then delF d.fs s else putF d.fs s g }) ∧ RefAt X w' a' n' c' { d with fs := if gone then delF d.fs s else putF d.fs s g } ∧ Below w.heap.size w w' := by
  subst hm hbs
  exact refPut_any w a n c d s vf g gone h hw hX hf hfX

set_option maxRecDepth 100000 in
set_option maxHeartbeats 4000000 in
theorem refCut_any (w : World) (a : Option Addr) (n c : Nat) (d : ADisk) (s : ByteArray) (x : Int) (h : RefAt X w a n c d) (hw : d.WF) (hX : NewOk X w) :
    Calls Tryz.prog 18 #[refVal a n c d, .string s, .int .i64 x] w fun e w' => ∃ a' n' c', e = .returned (.tuple #[refVal a' n' c' (d.cut s x), .int .i64 (d.cutErr s x)]) ∧ RefAt X w' a' n' c' (d.cut s x) ∧ Below w.heap.size w w' := by
  have hA := fun (w : World) (h : RefAt X w a n c d) => refAsk_any w a n c d s h hw
  have hD := alloc2_at0 w (.cells #[.int .i64 d.most, .slice a n c, .int .i64 d.left, .bool d.down] 29) (.cells #[.int .i64 0, .slice none 0 0, .int .i64 0, .bool false] 29)
  have hR := alloc2_at w (.cells #[.int .i64 d.most, .slice a n c, .int .i64 d.left, .bool d.down] 29) (.cells #[.int .i64 0, .slice none 0 0, .int .i64 0, .bool false] 29)
  have hbW : Below w.heap.size w ((w.alloc (.cells #[.int .i64 d.most, .slice a n c, .int .i64 d.left, .bool d.down] 29)).alloc (.cells #[.int .i64 0, .slice none 0 0, .int .i64 0, .bool false] 29)) := ((Below.refl _ _).alloc (Nat.le_refl _) _).alloc (by simp) _
  obtain ⟨W, hW⟩ : ∃ W, (w.alloc (.cells #[.int .i64 d.most, .slice a n c, .int .i64 d.left, .bool d.down] 29)).alloc (.cells #[.int .i64 0, .slice none 0 0, .int .i64 0, .bool false] 29) = W := ⟨_, rfl⟩
  rw [hW] at hD hR hbW
  have HW := Lib.hid hW
  clear hW
  have hRW := h.below hbW
  by_cases he : findErr d s = 0
  · obtain ⟨hd, f, hl⟩ := find_zero he
    obtain ⟨k, hk, hpl, hkn, hkf⟩ := place_some hw.sorted hl
    obtain ⟨b, off, vb, rfl, c0, c1, c2, hrd, hvX⟩ := h.atX k hk
    have hn : n = d.fs.length := h.len
    have hkn' : k < n := by omega
    rw [hkn] at c0
    rw [hkf] at c2 hrd hvX
    rw [he, hpl] at hA
    have hbw := cell_lt c0
    have hbne : ¬ b = w.heap.size + 1 := by omega
    have hbne2 : ¬ w.heap.size + 1 = b := by omega
    have e0 := fun {w1 : World} (hb1 : Below w.heap.size w w1) => (hb1.cell (p := ⟨b, off + k * 3, none⟩) (cell_lt c0)).trans c0
    have e1 := fun {w1 : World} (hb1 : Below w.heap.size w w1) => (hb1.cell (p := ⟨b, off + k * 3 + 1, none⟩) (cell_lt c1)).trans c1
    have e2 := fun {w1 : World} (hb1 : Below w.heap.size w w1) => (hb1.cell (p := ⟨b, off + k * 3 + 2, none⟩) (cell_lt c2)).trans c2
    obtain ⟨av, cv, rfl⟩ := hrd.shape
    rw [bcells_length, List.length_append] at hrd e1 hvX
    have Hcl : Hid (∀ {w1 : World}, Below w.heap.size w w1 → w1.cell? ⟨b, off + k * 3, none⟩ = some (.string s) ∧ w1.cell? ⟨b, off + k * 3 + 1, none⟩ = some (.slice av (f.firm.length + f.loose.length) cv) ∧ w1.cell? ⟨b, off + k * 3 + 2, none⟩ = some (.int .i64 (f.firm.length : Nat))) := Lib.hid (fun hb => ⟨e0 hb, e1 hb, e2 hb⟩)
    obtain ⟨x0, x1, x2, x3, _⟩ := cells4 hD
    have hfl : f.firm.length + f.loose.length ≤ 16777216 := by
      have h1 := lk_len_le hl
      have h2 := hw.used
      have h3 := hw.most1
      unfold AFile.len at h1
      omega
    have hafl : afile d s = f := by unfold afile; rw [hl]; rfl
    have hlen : f.len = f.firm.length + f.loose.length := rfl
    by_cases hbad : x < 0 ∨ (f.len : Int) < x
    · have h1 : d.cut s x = d := by unfold ADisk.cut; rw [hd, hl, hafl, if_pos hbad]; rfl
      have h2 : d.cutErr s x = 2 := by unfold ADisk.cutErr; rw [hd, hl, hafl, if_pos hbad]; rfl
      rw [h1, h2]
      rw [hlen] at hbad
      clear h1 h2 e0 e1 e2 c0 c1 c2 hkn hkf hl hpl he hn hd hafl hlen
      unfold refVal at hA ⊢
      by_cases hx0 : x < 0
      · clear hbad
        go_enter Tryz.func18, Tryz.ntmps18
        go_wp2_with fail
        rw [HW.out]
        refine (hA _ hRW).mono ?_
        rintro e w1 ⟨rfl, hb1⟩
        have hD1 := (hb1.block _ (blk_lt hD)).trans hD
        have hR1 := (hb1.block _ (blk_lt hR)).trans hR
        have hbw1 : Below w.heap.size w w1 := hbW.trans (hb1.mono hbW.size)
        obtain ⟨y0, y1, y2, y3, y4, y5, y6, y7⟩ := cells4 hD1
        obtain ⟨z0, z1, z2, z3, z4, z5, z6, z7⟩ := cells4 hR1
        dsimp only
        go_wp2
        obtain ⟨p1, p2⟩ := ref_answer (h.below hbw1) hR1 hbw1 (by omega) (.int .i64 d.most) (.slice (some ⟨b, off, none⟩) n c) (.int .i64 d.left) (.bool d.down)
        exact bodyPost_ret (v := .tuple #[.agg #[.int .i64 d.most, .slice (some ⟨b, off, none⟩) n c, .int .i64 d.left, .bool d.down], .int .i64 2]) (by simp [results, Tryz.results18, go_sem, z0, z1, z2, z3]) rfl ⟨_, _, _, rfl, p1, p2⟩
      · have hx1 : ((f.firm.length + f.loose.length : Nat) : Int) < x := by omega
        clear hbad
        go_enter Tryz.func18, Tryz.ntmps18
        go_wp2_with fail
        rw [HW.out]
        refine (hA _ hRW).mono ?_
        rintro e w1 ⟨rfl, hb1⟩
        have hD1 := (hb1.block _ (blk_lt hD)).trans hD
        have hR1 := (hb1.block _ (blk_lt hR)).trans hR
        have hbw1 : Below w.heap.size w w1 := hbW.trans (hb1.mono hbW.size)
        obtain ⟨y0, y1, y2, y3, y4, y5, y6, y7⟩ := cells4 hD1
        obtain ⟨c0, c1, c2⟩ := Hcl.out hbw1
        obtain ⟨z0, z1, z2, z3, z4, z5, z6, z7⟩ := cells4 hR1
        dsimp only
        go_wp2
        obtain ⟨p1, p2⟩ := ref_answer (h.below hbw1) hR1 hbw1 (by omega) (.int .i64 d.most) (.slice (some ⟨b, off, none⟩) n c) (.int .i64 d.left) (.bool d.down)
        exact bodyPost_ret (v := .tuple #[.agg #[.int .i64 d.most, .slice (some ⟨b, off, none⟩) n c, .int .i64 d.left, .bool d.down], .int .i64 2]) (by simp [results, Tryz.results18, go_sem, z0, z1, z2, z3]) rfl ⟨_, _, _, rfl, p1, p2⟩
    · obtain ⟨m, rfl⟩ : ∃ m : Nat, x = m := ⟨x.toNat, by omega⟩
      have hm : m ≤ f.firm.length + f.loose.length := by omega
      have h1 : d.cut s m = d.thenF (putF d.fs s ⟨(f.firm ++ f.loose).take m, []⟩) := by unfold ADisk.cut ADisk.cutTo; rw [hd, hl, hafl, if_neg hbad, Int.toNat_natCast]; rfl
      have h2 : d.cutErr s m = d.err := by unfold ADisk.cutErr; rw [hd, hl, hafl, if_neg hbad]; rfl
      have hS := fun (w : World) (h : RefAt X w (some ⟨b, off, none⟩) n c d) (a' n' c' h') => refStep_then w (some ⟨b, off, none⟩) n c d a' n' c' (putF d.fs s ⟨(f.firm ++ f.loose).take m, []⟩) h h' hw hd
      have hP := fun (w : World) (h : RefAt X w (some ⟨b, off, none⟩) n c d) (hX : NewOk X w) (vf : Value) (hf : Rd w vf (bcells ((f.firm ++ f.loose).take m))) (hfX : InX X vf ((f.firm ++ f.loose).take m)) => refPut_as w (some ⟨b, off, none⟩) n c d s vf ⟨(f.firm ++ f.loose).take m, []⟩ m ((f.firm ++ f.loose).take m) false (by simp; omega) (by simp) h hw hX hf hfX
      have hF := fun (w : World) (hr : Rd w (.slice av (f.firm.length + f.loose.length) cv) (bcells (f.firm ++ f.loose))) => refFirst_at w s _ (f.firm ++ f.loose) m m hr (by simp; omega) (by simp; omega)
      simp only [if_false, Bool.false_eq_true] at hP
      rw [h1, h2]
      obtain ⟨dd, hdd⟩ : ∃ dd, d.thenF (putF d.fs s ⟨(f.firm ++ f.loose).take m, []⟩) = dd := ⟨_, rfl⟩
      simp only [hdd] at hS ⊢
      clear hdd
      have hx0 : ¬ (m : Int) < 0 := by omega
      have hx1 : ¬ ((f.firm.length + f.loose.length : Nat) : Int) < (m : Int) := by omega
      have Hmx := Lib.hid (show m ≤ maxLen by simp only [maxLen]; omega)
      clear h1 h2 e0 e1 e2 c0 c1 c2 hkn hkf hl hpl he hn hd hafl hlen hbad
      unfold refVal at hA hS hP ⊢
      go_enter Tryz.func18, Tryz.ntmps18
      go_wp2_with fail
      rw [HW.out]
      refine (hA _ hRW).mono ?_
      rintro e w1 ⟨rfl, hb1⟩
      have hD1 := (hb1.block _ (blk_lt hD)).trans hD
      have hR1 := (hb1.block _ (blk_lt hR)).trans hR
      have hbw1 : Below w.heap.size w w1 := hbW.trans (hb1.mono hbW.size)
      obtain ⟨y0, y1, y2, y3, y4, y5, y6, y7⟩ := cells4 hD1
      obtain ⟨c0, c1, c2⟩ := Hcl.out hbw1
      have hRef1d := (h.below hbw1).below ((Below.refl w1.heap.size w1).drew)
      have hrd1d := rd_low hrd hbw1.drew
      have hDl := blk_lt hD1
      clear x0 x1 x2 x3 hRW
      dsimp only
      go_wp2_with fail
      go_region_held3 (fun w' => w'.cell? ⟨w.heap.size, 0, none⟩ = some (.int .i64 d.most) ∧ w'.cell? ⟨w.heap.size, 1, none⟩ = some (.slice (some ⟨b, off, none⟩) n c) ∧ w'.cell? ⟨w.heap.size, 2, none⟩ = some (.int .i64 d.left) ∧ w'.cell? ⟨w.heap.size, 3, none⟩ = some (.bool d.down) ∧ w'.cell? ⟨b, off + k * 3 + 1, none⟩ = some (.slice av (f.firm.length + f.loose.length) cv))
        (first | exact ⟨y0, y1, y2, y3, c1⟩ | exact S2 | exact S3 | exact S4 | go_keep)
        (first
          | (go_at_call 43; (with_reducible refine (hF _ hrd1d).mono ?_); rintro e w2 ⟨v2, rfl, hr2, hb2, ha2, _⟩; have hbw2 := hbw1.drew.trans (hb2.mono hbw1.size); have hv2 : InX X (Value.slice (some ⟨v2, 0, none⟩) m m) ((f.firm ++ f.loose).take m) := ⟨fun _ g hg => (by cases hg; exact (hX.below hbw1.drew) _ ha2), _, _, _, rfl, Nat.le_refl _, Hmx.out⟩; have S2 : w2.cell? ⟨w.heap.size, 0, none⟩ = some (.int .i64 d.most) ∧ w2.cell? ⟨w.heap.size, 1, none⟩ = some (.slice (some ⟨b, off, none⟩) n c) ∧ w2.cell? ⟨w.heap.size, 2, none⟩ = some (.int .i64 d.left) ∧ w2.cell? ⟨w.heap.size, 3, none⟩ = some (.bool d.down) ∧ w2.cell? ⟨b, off + k * 3 + 1, none⟩ = some (.slice av (f.firm.length + f.loose.length) cv) := ⟨(hb2.cell (p := ⟨w.heap.size, 0, none⟩) hDl).trans y0, (hb2.cell (p := ⟨w.heap.size, 1, none⟩) hDl).trans y1, (hb2.cell (p := ⟨w.heap.size, 2, none⟩) hDl).trans y2, (hb2.cell (p := ⟨w.heap.size, 3, none⟩) hDl).trans y3, (Hcl.out hbw2).2.1⟩; have hRef2 := hRef1d.below hb2; have hRB2 := (hb2.block _ (blk_lt hR1)).trans hR1)
          | (go_at_call 52; (with_reducible refine (hP _ hRef2 (hX.below hbw2) _ hr2 hv2).mono ?_); rintro e w3 ⟨a', n', c', rfl, hR3, hb3⟩; have hbw3 := hbw2.trans (hb3.mono hbw2.size); have S3 : w3.cell? ⟨w.heap.size, 0, none⟩ = some (.int .i64 d.most) ∧ w3.cell? ⟨w.heap.size, 1, none⟩ = some (.slice (some ⟨b, off, none⟩) n c) ∧ w3.cell? ⟨w.heap.size, 2, none⟩ = some (.int .i64 d.left) ∧ w3.cell? ⟨w.heap.size, 3, none⟩ = some (.bool d.down) ∧ w3.cell? ⟨b, off + k * 3 + 1, none⟩ = some (.slice av (f.firm.length + f.loose.length) cv) := ⟨(hb3.cell (p := ⟨w.heap.size, 0, none⟩) (cell_lt S2.1)).trans S2.1, (hb3.cell (p := ⟨w.heap.size, 1, none⟩) (cell_lt S2.1)).trans S2.2.1, (hb3.cell (p := ⟨w.heap.size, 2, none⟩) (cell_lt S2.1)).trans S2.2.2.1, (hb3.cell (p := ⟨w.heap.size, 3, none⟩) (cell_lt S2.1)).trans S2.2.2.2.1, (Hcl.out hbw3).2.1⟩; have hRef3 := hRef2.below hb3; have hRB3 := (hb3.block _ (blk_lt hRB2)).trans hRB2)
          | (go_at_call 51; (with_reducible refine (hS _ hRef3 _ _ _ hR3).mono ?_); rintro e w4 ⟨a3, n3, c3, rfl, hR4, hb4⟩; have hbw4 := hbw3.trans (hb4.mono hbw3.size); have S4 : w4.cell? ⟨w.heap.size, 0, none⟩ = some (.int .i64 d.most) ∧ w4.cell? ⟨w.heap.size, 1, none⟩ = some (.slice (some ⟨b, off, none⟩) n c) ∧ w4.cell? ⟨w.heap.size, 2, none⟩ = some (.int .i64 d.left) ∧ w4.cell? ⟨w.heap.size, 3, none⟩ = some (.bool d.down) ∧ w4.cell? ⟨b, off + k * 3 + 1, none⟩ = some (.slice av (f.firm.length + f.loose.length) cv) := ⟨(hb4.cell (p := ⟨w.heap.size, 0, none⟩) (cell_lt S3.1)).trans S3.1, (hb4.cell (p := ⟨w.heap.size, 1, none⟩) (cell_lt S3.1)).trans S3.2.1, (hb4.cell (p := ⟨w.heap.size, 2, none⟩) (cell_lt S3.1)).trans S3.2.2.1, (hb4.cell (p := ⟨w.heap.size, 3, none⟩) (cell_lt S3.1)).trans S3.2.2.2.1, (Hcl.out hbw4).2.1⟩; have hRB4 := (hb4.block _ (blk_lt hRB3)).trans hRB3; obtain ⟨z0, z1, z2, z3, z4, z5, z6, z7⟩ := cells4 hRB4))
      go_wp2
      obtain ⟨p1, p2⟩ := ref_answer hR4 hRB4 hbw4 (by omega) (.int .i64 dd.most) (.slice a3 n3 c3) (.int .i64 dd.left) (.bool dd.down)
      exact bodyPost_ret (v := .tuple #[.agg #[.int .i64 dd.most, .slice a3 n3 c3, .int .i64 dd.left, .bool dd.down], .int .i64 d.err]) (by simp [results, Tryz.results18, go_sem, z0, z1, z2, z3]) rfl ⟨_, _, _, rfl, p1, p2⟩
  · have h1 : d.cut s x = d := by
      unfold findErr at he
      unfold ADisk.cut
      split
      · rfl
      · rename_i hd
        rw [if_neg hd] at he
        split
        · rfl
        · rename_i hl
          rw [if_neg hl] at he
          exact absurd rfl he
    have h2 : d.cutErr s x = findErr d s := by
      unfold findErr at he ⊢
      unfold ADisk.cutErr
      split
      · rfl
      · rename_i hd
        rw [if_neg hd] at he
        split
        · rfl
        · rename_i hl
          rw [if_neg hl] at he
          exact absurd rfl he
    rw [h1, h2]
    obtain ⟨fe, hfe⟩ : ∃ fe, findErr d s = fe := ⟨_, rfl⟩
    rw [hfe] at hA he ⊢
    have hq : (fe == 0) = false := by simpa using he
    have hq2 : (fe != 0) = true := by simpa using he
    clear hfe h1 h2 he
    obtain ⟨x0, x1, x2, x3, _⟩ := cells4 hD
    unfold refVal at hA ⊢
    go_enter Tryz.func18, Tryz.ntmps18
    go_wp2_with fail
    rw [HW.out]
    refine (hA _ hRW).mono ?_
    rintro e w1 ⟨rfl, hb1⟩
    have hD1 := (hb1.block _ (blk_lt hD)).trans hD
    have hR1 := (hb1.block _ (blk_lt hR)).trans hR
    have hbw1 : Below w.heap.size w w1 := hbW.trans (hb1.mono hbW.size)
    obtain ⟨y0, y1, y2, y3, y4, y5, y6, y7⟩ := cells4 hD1
    obtain ⟨z0, z1, z2, z3, z4, z5, z6, z7⟩ := cells4 hR1
    dsimp only
    go_wp2
    obtain ⟨p1, p2⟩ := ref_answer (h.below hbw1) hR1 hbw1 (by omega) (.int .i64 d.most) (.slice a n c) (.int .i64 d.left) (.bool d.down)
    exact bodyPost_ret (v := .tuple #[.agg #[.int .i64 d.most, .slice a n c, .int .i64 d.left, .bool d.down], .int .i64 fe]) (by simp [results, Tryz.results18, go_sem, z0, z1, z2, z3]) rfl ⟨_, _, _, rfl, p1, p2⟩
end Go.Proofs.YtkacgmbinkoojaaGreatDoor

/-
  The document's disk: Sync (printed by wip/gen/gen_ref.py).
-/
namespace Go.Proofs.YtkacgmbinkoojaaGreatDoor
open Go.RowKit Go.Maps Go.MapKept
variable {X : Nat → Prop}
set_option maxRecDepth 100000 in
set_option maxHeartbeats 4000000 in
theorem refSync_any (w : World) (a : Option Addr) (n c : Nat) (d : ADisk) (s : ByteArray) (h : RefAt X w a n c d) (hw : d.WF) (hX : NewOk X w) :
    Calls Tryz.prog 36 #[refVal a n c d, .string s] w fun e w' => ∃ a' n' c', e = .returned (.tuple #[refVal a' n' c' (d.sync s), .int .i64 (d.syncErr s)]) ∧ RefAt X w' a' n' c' (d.sync s) ∧ Below w.heap.size w w' := by
  have hA := fun (w : World) (h : RefAt X w a n c d) => refAsk_any w a n c d s h hw
  have hD := alloc2_at0 w (.cells #[.int .i64 d.most, .slice a n c, .int .i64 d.left, .bool d.down] 29) (.cells #[.int .i64 0, .slice none 0 0, .int .i64 0, .bool false] 29)
  have hR := alloc2_at w (.cells #[.int .i64 d.most, .slice a n c, .int .i64 d.left, .bool d.down] 29) (.cells #[.int .i64 0, .slice none 0 0, .int .i64 0, .bool false] 29)
  have hbW : Below w.heap.size w ((w.alloc (.cells #[.int .i64 d.most, .slice a n c, .int .i64 d.left, .bool d.down] 29)).alloc (.cells #[.int .i64 0, .slice none 0 0, .int .i64 0, .bool false] 29)) := ((Below.refl _ _).alloc (Nat.le_refl _) _).alloc (by simp) _
  obtain ⟨W, hW⟩ : ∃ W, (w.alloc (.cells #[.int .i64 d.most, .slice a n c, .int .i64 d.left, .bool d.down] 29)).alloc (.cells #[.int .i64 0, .slice none 0 0, .int .i64 0, .bool false] 29) = W := ⟨_, rfl⟩
  rw [hW] at hD hR hbW
  have HW := Lib.hid hW
  clear hW
  have hRW := h.below hbW
  by_cases he : findErr d s = 0
  · obtain ⟨hd, f, hl⟩ := find_zero he
    obtain ⟨k, hk, hpl, hkn, hkf⟩ := place_some hw.sorted hl
    obtain ⟨b, off, vb, rfl, c0, c1, c2, hrd, hvX⟩ := h.atX k hk
    have hn : n = d.fs.length := h.len
    have hkn' : k < n := by omega
    rw [hkn] at c0
    rw [hkf] at c2 hrd hvX
    rw [he, hpl] at hA
    have hbw := cell_lt c0
    have hbne : ¬ b = w.heap.size + 1 := by omega
    have hbne2 : ¬ w.heap.size + 1 = b := by omega
    have e0 := fun {w1 : World} (hb1 : Below w.heap.size w w1) => (hb1.cell (p := ⟨b, off + k * 3, none⟩) (cell_lt c0)).trans c0
    have e1 := fun {w1 : World} (hb1 : Below w.heap.size w w1) => (hb1.cell (p := ⟨b, off + k * 3 + 1, none⟩) (cell_lt c1)).trans c1
    have e2 := fun {w1 : World} (hb1 : Below w.heap.size w w1) => (hb1.cell (p := ⟨b, off + k * 3 + 2, none⟩) (cell_lt c2)).trans c2
    obtain ⟨av, cv, rfl⟩ := hrd.shape
    rw [bcells_length, List.length_append] at hrd e1 hvX
    have Hcl : Hid (∀ {w1 : World}, Below w.heap.size w w1 → w1.cell? ⟨b, off + k * 3, none⟩ = some (.string s) ∧ w1.cell? ⟨b, off + k * 3 + 1, none⟩ = some (.slice av (f.firm.length + f.loose.length) cv) ∧ w1.cell? ⟨b, off + k * 3 + 2, none⟩ = some (.int .i64 (f.firm.length : Nat))) := Lib.hid (fun hb => ⟨e0 hb, e1 hb, e2 hb⟩)
    obtain ⟨x0, x1, x2, x3, _⟩ := cells4 hD
    have hfl : f.firm.length + f.loose.length ≤ 16777216 := by
      have h1 := lk_len_le hl
      have h2 := hw.used
      have h3 := hw.most1
      unfold AFile.len at h1
      omega
    have hafl : afile d s = f := by unfold afile; rw [hl]; rfl
    have hbad : ¬ ((f.firm.length : Int) + (f.loose.length : Int) < 0 ∨ (f.len : Int) < (f.firm.length : Int) + (f.loose.length : Int)) := by unfold AFile.len; omega
    have htn : ((f.firm.length : Int) + (f.loose.length : Int)).toNat = f.len := by unfold AFile.len; omega
    have h1 : d.sync s = d.cut s ((f.firm.length : Int) + (f.loose.length : Int)) := by unfold ADisk.sync ADisk.cut; rw [hd, hl, hafl, if_neg hbad, htn]
    have h2 : d.syncErr s = d.cutErr s ((f.firm.length : Int) + (f.loose.length : Int)) := by unfold ADisk.syncErr ADisk.cutErr; rw [hd, hl, hafl, if_neg hbad]
    have hC := fun (w : World) (h : RefAt X w (some ⟨b, off, none⟩) n c d) (hX : NewOk X w) => refCut_any w (some ⟨b, off, none⟩) n c d s ((f.firm.length : Int) + (f.loose.length : Int)) h hw hX
    rw [h1, h2]
    obtain ⟨dd, hdd⟩ : ∃ dd, d.cut s ((f.firm.length : Int) + (f.loose.length : Int)) = dd := ⟨_, rfl⟩
    obtain ⟨de, hde⟩ : ∃ de, d.cutErr s ((f.firm.length : Int) + (f.loose.length : Int)) = de := ⟨_, rfl⟩
    simp only [hdd, hde] at hC ⊢
    clear h1 h2 e0 e1 e2 c0 c1 c2 hkn hkf hl hpl he hn hd hafl hbad htn hdd hde
    unfold refVal at hA hC ⊢
    go_enter Tryz.func36, Tryz.ntmps36
    go_wp2_with fail
    rw [HW.out]
    refine (hA _ hRW).mono ?_
    rintro e w1 ⟨rfl, hb1⟩
    have hD1 := (hb1.block _ (blk_lt hD)).trans hD
    have hR1 := (hb1.block _ (blk_lt hR)).trans hR
    have hbw1 : Below w.heap.size w w1 := hbW.trans (hb1.mono hbW.size)
    obtain ⟨y0, y1, y2, y3, y4, y5, y6, y7⟩ := cells4 hD1
    obtain ⟨c0, c1, c2⟩ := Hcl.out hbw1
    have hRef1d := (h.below hbw1).below ((Below.refl w1.heap.size w1).drew)
    have hDl := blk_lt hD1
    clear x0 x1 x2 x3 hRW
    dsimp only
    go_wp2_with fail
    go_region_held3 (fun w' => w'.cell? ⟨w.heap.size, 0, none⟩ = some (.int .i64 d.most) ∧ w'.cell? ⟨w.heap.size, 1, none⟩ = some (.slice (some ⟨b, off, none⟩) n c) ∧ w'.cell? ⟨w.heap.size, 2, none⟩ = some (.int .i64 d.left) ∧ w'.cell? ⟨w.heap.size, 3, none⟩ = some (.bool d.down) ∧ w'.cell? ⟨b, off + k * 3 + 1, none⟩ = some (.slice av (f.firm.length + f.loose.length) cv))
      (first | exact ⟨y0, y1, y2, y3, c1⟩ | exact S2 | go_keep)
      ((go_at_call 18; (with_reducible refine (hC _ hRef1d (hX.below hbw1.drew)).mono ?_); rintro e w2 ⟨a3, n3, c3, rfl, hR2, hb2⟩; have hbw2 := hbw1.drew.trans (hb2.mono hbw1.size); have S2 : w2.cell? ⟨w.heap.size, 0, none⟩ = some (.int .i64 d.most) ∧ w2.cell? ⟨w.heap.size, 1, none⟩ = some (.slice (some ⟨b, off, none⟩) n c) ∧ w2.cell? ⟨w.heap.size, 2, none⟩ = some (.int .i64 d.left) ∧ w2.cell? ⟨w.heap.size, 3, none⟩ = some (.bool d.down) ∧ w2.cell? ⟨b, off + k * 3 + 1, none⟩ = some (.slice av (f.firm.length + f.loose.length) cv) := ⟨(hb2.cell (p := ⟨w.heap.size, 0, none⟩) hDl).trans y0, (hb2.cell (p := ⟨w.heap.size, 1, none⟩) hDl).trans y1, (hb2.cell (p := ⟨w.heap.size, 2, none⟩) hDl).trans y2, (hb2.cell (p := ⟨w.heap.size, 3, none⟩) hDl).trans y3, (Hcl.out hbw2).2.1⟩; have hRB2 := (hb2.block _ (blk_lt hR1)).trans hR1; obtain ⟨z0, z1, z2, z3, z4, z5, z6, z7⟩ := cells4 hRB2))
    go_wp2
    obtain ⟨p1, p2⟩ := ref_answer hR2 hRB2 hbw2 (by omega) (.int .i64 dd.most) (.slice a3 n3 c3) (.int .i64 dd.left) (.bool dd.down)
    exact bodyPost_ret (v := .tuple #[.agg #[.int .i64 dd.most, .slice a3 n3 c3, .int .i64 dd.left, .bool dd.down], .int .i64 de]) (by simp [results, Tryz.results36, go_sem, z0, z1, z2, z3]) rfl ⟨_, _, _, rfl, p1, p2⟩
  · have h1 : d.sync s = d := by
      unfold findErr at he
      unfold ADisk.sync
      split
      · rfl
      · rename_i hd
        rw [if_neg hd] at he
        split
        · rfl
        · rename_i hl
          rw [if_neg hl] at he
          exact absurd rfl he
    have h2 : d.syncErr s = findErr d s := by
      unfold findErr at he ⊢
      unfold ADisk.syncErr
      split
      · rfl
      · rename_i hd
        rw [if_neg hd] at he
        split
        · rfl
        · rename_i hl
          rw [if_neg hl] at he
          exact absurd rfl he
    rw [h1, h2]
    obtain ⟨fe, hfe⟩ : ∃ fe, findErr d s = fe := ⟨_, rfl⟩
    rw [hfe] at hA he ⊢
    have hq : (fe == 0) = false := by simpa using he
    have hq2 : (fe != 0) = true := by simpa using he
    clear hfe h1 h2 he
    obtain ⟨x0, x1, x2, x3, _⟩ := cells4 hD
    unfold refVal at hA ⊢
    go_enter Tryz.func36, Tryz.ntmps36
    go_wp2_with fail
    rw [HW.out]
    refine (hA _ hRW).mono ?_
    rintro e w1 ⟨rfl, hb1⟩
    have hD1 := (hb1.block _ (blk_lt hD)).trans hD
    have hR1 := (hb1.block _ (blk_lt hR)).trans hR
    have hbw1 : Below w.heap.size w w1 := hbW.trans (hb1.mono hbW.size)
    obtain ⟨y0, y1, y2, y3, y4, y5, y6, y7⟩ := cells4 hD1
    obtain ⟨z0, z1, z2, z3, z4, z5, z6, z7⟩ := cells4 hR1
    dsimp only
    go_wp2
    obtain ⟨p1, p2⟩ := ref_answer (h.below hbw1) hR1 hbw1 (by omega) (.int .i64 d.most) (.slice a n c) (.int .i64 d.left) (.bool d.down)
    exact bodyPost_ret (v := .tuple #[.agg #[.int .i64 d.most, .slice a n c, .int .i64 d.left, .bool d.down], .int .i64 fe]) (by simp [results, Tryz.results36, go_sem, z0, z1, z2, z3]) rfl ⟨_, _, _, rfl, p1, p2⟩
end Go.Proofs.YtkacgmbinkoojaaGreatDoor

/-
  The document's disk: Rename (printed by wip/gen/gen_ref.py).
-/
namespace Go.Proofs.YtkacgmbinkoojaaGreatDoor
open Go.RowKit Go.Maps Go.MapKept
variable {X : Nat → Prop}
set_option maxRecDepth 100000 in
set_option maxHeartbeats 4000000 in
theorem refRename_any (w : World) (a : Option Addr) (n c : Nat) (d : ADisk) (s t : ByteArray) (h : RefAt X w a n c d) (hw : d.WF) (hX : NewOk X w) (ht : t.size ≤ maxLen) :
    Calls Tryz.prog 37 #[refVal a n c d, .string s, .string t] w fun e w' => ∃ a' n' c', e = .returned (.tuple #[refVal a' n' c' (d.rename s t), .int .i64 (d.renameErr s t)]) ∧ RefAt X w' a' n' c' (d.rename s t) ∧ Below w.heap.size w w' := by
  have hA := fun (w : World) (h : RefAt X w a n c d) => refAsk_any w a n c d s h hw
  have hD := alloc2_at0 w (.cells #[.int .i64 d.most, .slice a n c, .int .i64 d.left, .bool d.down] 29) (.cells #[.int .i64 0, .slice none 0 0, .int .i64 0, .bool false] 29)
  have hR := alloc2_at w (.cells #[.int .i64 d.most, .slice a n c, .int .i64 d.left, .bool d.down] 29) (.cells #[.int .i64 0, .slice none 0 0, .int .i64 0, .bool false] 29)
  have hbW : Below w.heap.size w ((w.alloc (.cells #[.int .i64 d.most, .slice a n c, .int .i64 d.left, .bool d.down] 29)).alloc (.cells #[.int .i64 0, .slice none 0 0, .int .i64 0, .bool false] 29)) := ((Below.refl _ _).alloc (Nat.le_refl _) _).alloc (by simp) _
  obtain ⟨W, hW⟩ : ∃ W, (w.alloc (.cells #[.int .i64 d.most, .slice a n c, .int .i64 d.left, .bool d.down] 29)).alloc (.cells #[.int .i64 0, .slice none 0 0, .int .i64 0, .bool false] 29) = W := ⟨_, rfl⟩
  rw [hW] at hD hR hbW
  have HW := Lib.hid hW
  clear hW
  have hRW := h.below hbW
  by_cases he : findErr d s = 0
  · obtain ⟨hd, f, hl⟩ := find_zero he
    obtain ⟨k, hk, hpl, hkn, hkf⟩ := place_some hw.sorted hl
    obtain ⟨b, off, vb, rfl, c0, c1, c2, hrd, hvX⟩ := h.atX k hk
    have hn : n = d.fs.length := h.len
    have hkn' : k < n := by omega
    rw [hkn] at c0
    rw [hkf] at c2 hrd hvX
    rw [he, hpl] at hA
    have hbw := cell_lt c0
    have hbne : ¬ b = w.heap.size + 1 := by omega
    have hbne2 : ¬ w.heap.size + 1 = b := by omega
    have e0 := fun {w1 : World} (hb1 : Below w.heap.size w w1) => (hb1.cell (p := ⟨b, off + k * 3, none⟩) (cell_lt c0)).trans c0
    have e1 := fun {w1 : World} (hb1 : Below w.heap.size w w1) => (hb1.cell (p := ⟨b, off + k * 3 + 1, none⟩) (cell_lt c1)).trans c1
    have e2 := fun {w1 : World} (hb1 : Below w.heap.size w w1) => (hb1.cell (p := ⟨b, off + k * 3 + 2, none⟩) (cell_lt c2)).trans c2
    obtain ⟨av, cv, rfl⟩ := hrd.shape
    rw [bcells_length, List.length_append] at hrd e1 hvX
    have Hcl : Hid (∀ {w1 : World}, Below w.heap.size w w1 → w1.cell? ⟨b, off + k * 3, none⟩ = some (.string s) ∧ w1.cell? ⟨b, off + k * 3 + 1, none⟩ = some (.slice av (f.firm.length + f.loose.length) cv) ∧ w1.cell? ⟨b, off + k * 3 + 2, none⟩ = some (.int .i64 (f.firm.length : Nat))) := Lib.hid (fun hb => ⟨e0 hb, e1 hb, e2 hb⟩)
    obtain ⟨x0, x1, x2, x3, _⟩ := cells4 hD
    have hfl : f.firm.length + f.loose.length ≤ 16777216 := by
      have h1 := lk_len_le hl
      have h2 := hw.used
      have h3 := hw.most1
      unfold AFile.len at h1
      omega
    have hafl : afile d s = f := by unfold afile; rw [hl]; rfl
    have hT := fun (w : World) => refRight_any w t ht
    cases hbad : okName t with
    | false =>
      have h1 : d.rename s t = d := by unfold ADisk.rename; rw [hd, hl, if_pos hbad]; rfl
      have h2 : d.renameErr s t = 13 := by unfold ADisk.renameErr; rw [hd, hl, if_pos hbad]; rfl
      rw [h1, h2]
      rw [hbad] at hT
      clear h1 h2 e0 e1 e2 c0 c1 c2 hkn hkf hl hpl he hn hd hafl hbad
      unfold refVal at hA ⊢
      go_enter Tryz.func37, Tryz.ntmps37
      go_wp2_with fail
      rw [HW.out]
      refine (hA _ hRW).mono ?_
      rintro e w1 ⟨rfl, hb1⟩
      have hD1 := (hb1.block _ (blk_lt hD)).trans hD
      have hR1 := (hb1.block _ (blk_lt hR)).trans hR
      have hbw1 : Below w.heap.size w w1 := hbW.trans (hb1.mono hbW.size)
      obtain ⟨y0, y1, y2, y3, y4, y5, y6, y7⟩ := cells4 hD1
      dsimp only
      go_wp2_with fail
      refine (hT _).mono ?_
      rintro e w2 ⟨rfl, rfl⟩
      obtain ⟨z0, z1, z2, z3, z4, z5, z6, z7⟩ := cells4 hR1
      dsimp only
      go_wp2
      obtain ⟨p1, p2⟩ := ref_answer (h.below hbw1) hR1 hbw1 (by omega) (.int .i64 d.most) (.slice (some ⟨b, off, none⟩) n c) (.int .i64 d.left) (.bool d.down)
      exact bodyPost_ret (v := .tuple #[.agg #[.int .i64 d.most, .slice (some ⟨b, off, none⟩) n c, .int .i64 d.left, .bool d.down], .int .i64 13]) (by simp [results, Tryz.results37, go_sem, z0, z1, z2, z3]) rfl ⟨_, _, _, rfl, p1, p2⟩
    | true =>
      have h1 : d.rename s t = d.thenF (putF (delF d.fs s) t f) := by unfold ADisk.rename; rw [hd, hl, hbad, hafl]; rfl
      have h2 : d.renameErr s t = d.err := by unfold ADisk.renameErr; rw [hd, hl, hbad]; rfl
      have hS := fun (w : World) (h : RefAt X w (some ⟨b, off, none⟩) n c d) (a' n' c' h') => refStep_then w (some ⟨b, off, none⟩) n c d a' n' c' (putF (delF d.fs s) t f) h h' hw hd
      have hP := fun (w : World) (h : RefAt X w (some ⟨b, off, none⟩) n c d) (hX : NewOk X w) (vf : Value) (hf : Rd w vf (bcells (f.firm ++ f.loose))) (hfX : InX X vf (f.firm ++ f.loose)) => refPut_new w (some ⟨b, off, none⟩) n c d s vf f true h hw hX hf hfX
      have hP2 := fun (w : World) (a' : Option Addr) (n' c' : Nat) (h : RefAt X w a' n' c' { d with fs := delF d.fs s }) (hX : NewOk X w) (vf : Value) (hf : Rd w vf (bcells (f.firm ++ f.loose))) (hfX : InX X vf (f.firm ++ f.loose)) => refPut_any w a' n' c' { d with fs := delF d.fs s } t vf f false h (hw.del s) hX hf hfX
      simp only [if_true] at hP
      simp only [if_false, Bool.false_eq_true] at hP2
      rw [hbad] at hT
      rw [h1, h2]
      obtain ⟨dd, hdd⟩ : ∃ dd, d.thenF (putF (delF d.fs s) t f) = dd := ⟨_, rfl⟩
      simp only [hdd] at hS ⊢
      clear h1 h2 e0 e1 e2 c0 c1 c2 hkn hkf hl hpl he hn hd hafl hbad hdd
      unfold refVal at hA hS hP hP2 ⊢
      go_enter Tryz.func37, Tryz.ntmps37
      go_wp2_with fail
      rw [HW.out]
      refine (hA _ hRW).mono ?_
      rintro e w1 ⟨rfl, hb1⟩
      have hD1 := (hb1.block _ (blk_lt hD)).trans hD
      have hR1 := (hb1.block _ (blk_lt hR)).trans hR
      have hbw1 : Below w.heap.size w w1 := hbW.trans (hb1.mono hbW.size)
      obtain ⟨y0, y1, y2, y3, y4, y5, y6, y7⟩ := cells4 hD1
      have hRef1 := h.below hbw1
      have hrd1 := rd_low hrd hbw1
      have hDl := blk_lt hD1
      obtain ⟨c0, c1, c2⟩ := Hcl.out hbw1
      clear x0 x1 x2 x3 hRW
      dsimp only
      go_wp2_with fail
      refine (hT _).mono ?_
      rintro e w2 ⟨rfl, rfl⟩
      have hNX := hX
      have hX := alloc_at w1 (.cells #[.string s, .slice av (f.firm.length + f.loose.length) cv, .int .i64 (f.firm.length : Nat)] 82)
      have hbX : Below w1.heap.size w1 (w1.alloc (.cells #[.string s, .slice av (f.firm.length + f.loose.length) cv, .int .i64 (f.firm.length : Nat)] 82)) := (Below.refl _ _).alloc (Nat.le_refl _) _
      have hsX : (w1.alloc (.cells #[.string s, .slice av (f.firm.length + f.loose.length) cv, .int .i64 (f.firm.length : Nat)] 82)).heap.size = w1.heap.size + 1 := by simp
      dsimp only
      go_wp2_with fail
      refine (hP _ (hRef1.below hbX) ((hNX.below hbw1).below hbX) _ (rd_low hrd1 hbX) hvX).mono ?_
      rintro e w3 ⟨a', n', c', rfl, hR3, hb3, hnew⟩
      have hbX3 := hbX.trans (hb3.mono hbX.size)
      have hX3 := (hb3.block _ (blk_lt hX)).trans hX
      have hD3 := (hbX3.block _ (blk_lt hD1)).trans hD1
      have hRB3 := (hbX3.block _ (blk_lt hR1)).trans hR1
      have hbw3 := hbw1.trans (hbX3.mono hbw1.size)
      have hs3 := hb3.size
      rw [hsX] at hs3
      have hlt3 : w1.heap.size < w3.heap.size := by omega
      have hne3 : ¬ w1.heap.size = w3.heap.size := by omega
      have hne4 : ¬ w3.heap.size = w1.heap.size := by omega
      clear hbX hbX3 hb3 hX hRef1 hrd1
      dsimp only
      obtain ⟨f0, f1, f2, f3, f4, f5⟩ := cells3 hX3
      go_wp2_with fail
      have hU3 : Upd (· = w1.heap.size) w3 (w3.setCell ⟨w1.heap.size, 0, none⟩ (.string t)) := setCell_upd 0 _
      have hs4 : (w3.setCell ⟨w1.heap.size, 0, none⟩ (.string t)).heap.size = w3.heap.size := by simp [World.setCell]
      have hR4 := hR3.far (r := w1.heap.size) (fun g hg => by have := hnew g hg; rw [hsX] at this; omega) (fun o z hz => by
        rw [cell_at hX3] at hz
        match o, hz with
        | 0, hz => cases hz; exact fun n => by simp
        | 1, hz => cases hz; exact fun n => by simp
        | 2, hz => cases hz; exact fun n => by simp
        | o + 3, hz => simp at hz) hU3
      have hX4 := setCell_at hX3 0 (.string t)
      have hD4 := setCell_old hD3 (by omega : w.heap.size ≠ w1.heap.size) 0 (.string t)
      have hRB4 := setCell_old hRB3 (by have := blk_lt hR1; omega : w.heap.size + 1 ≠ w1.heap.size) 0 (.string t)
      have hb4 : Below w.heap.size w (w3.setCell ⟨w1.heap.size, 0, none⟩ (.string t)) := hbw3.trans (hU3.below (fun k hk => by have := hbw1.size; omega) hbw3.size)
      have hb45 : Below (w3.setCell ⟨w1.heap.size, 0, none⟩ (.string t)).heap.size (w3.setCell ⟨w1.heap.size, 0, none⟩ (.string t)) ((w3.setCell ⟨w1.heap.size, 0, none⟩ (.string t)).alloc (.cells #[.int .i64 d.most, .slice a' n' c', .int .i64 d.left, .bool d.down] 29)) := (Below.refl _ _).alloc (Nat.le_refl _) _
      have hT5 := alloc_at (w3.setCell ⟨w1.heap.size, 0, none⟩ (.string t)) (.cells #[.int .i64 d.most, .slice a' n' c', .int .i64 d.left, .bool d.down] 29)
      rw [hs4] at hT5
      have hR5 := hR4.below hb45
      have hX5 := (hb45.block _ (blk_lt hX4)).trans hX4
      have hD5 := (hb45.block _ (blk_lt hD4)).trans hD4
      have hRB5 := (hb45.block _ (blk_lt hRB4)).trans hRB4
      have hb5 := hb4.trans (hb45.mono hb4.size)
      obtain ⟨w5, hw5⟩ : ∃ w5, (w3.setCell ⟨w1.heap.size, 0, none⟩ (.string t)).alloc (.cells #[.int .i64 d.most, .slice a' n' c', .int .i64 d.left, .bool d.down] 29) = w5 := ⟨_, rfl⟩
      rw [hw5] at hT5 hR5 hX5 hD5 hRB5 hb5 ⊢
      clear hw5 hb45 hb4 hRB4 hD4 hX4 hR4 hs4 hU3 hbw3 hRB3 hD3 hX3 hR3 f0 f1 f2 f3 f4 f5 y0 y1 y2 y3 y4 y5 y6 y7 c0 c1 c2 hs3 hnew hsX
      obtain ⟨y0, y1, y2, y3, _⟩ := cells4 hD5
      obtain ⟨t0, t1, t2, t3, _⟩ := cells4 hT5
      obtain ⟨f0, f1, f2, _⟩ := cells3 hX5
      have hRef5d := (h.below hb5).below ((Below.refl w5.heap.size w5).drew)
      have hR5d := hR5.below ((Below.refl w5.heap.size w5).drew)
      have hrd5d := rd_low hrd hb5.drew
      have hDl := blk_lt hD5
      have hTl := blk_lt hT5
      have hXl := blk_lt hX5
      have hRl := blk_lt hR1
      have hn1 : ¬ w1.heap.size = w.heap.size + 1 := by omega
      have hn2 : ¬ w3.heap.size = w.heap.size + 1 := by omega
      have hn3 : ¬ w.heap.size + 1 = w1.heap.size := by omega
      have hn4 : ¬ w.heap.size + 1 = w3.heap.size := by omega
      go_region_held3 (fun w' => w'.cell? ⟨w.heap.size, 0, none⟩ = some (.int .i64 d.most) ∧ w'.cell? ⟨w.heap.size, 1, none⟩ = some (.slice (some ⟨b, off, none⟩) n c) ∧ w'.cell? ⟨w.heap.size, 2, none⟩ = some (.int .i64 d.left) ∧ w'.cell? ⟨w.heap.size, 3, none⟩ = some (.bool d.down) ∧ w'.cell? ⟨w3.heap.size, 0, none⟩ = some (.int .i64 d.most) ∧ w'.cell? ⟨w3.heap.size, 1, none⟩ = some (.slice a' n' c') ∧ w'.cell? ⟨w3.heap.size, 2, none⟩ = some (.int .i64 d.left) ∧ w'.cell? ⟨w3.heap.size, 3, none⟩ = some (.bool d.down) ∧ w'.cell? ⟨w1.heap.size, 0, none⟩ = some (.string t) ∧ w'.cell? ⟨w1.heap.size, 1, none⟩ = some (.slice av (f.firm.length + f.loose.length) cv) ∧ w'.cell? ⟨w1.heap.size, 2, none⟩ = some (.int .i64 (f.firm.length : Nat)))
        (first | exact ⟨y0, y1, y2, y3, t0, t1, t2, t3, f0, f1, f2⟩ | exact S2 | exact S3 | go_keep)
        (first
          | (go_at_call 52; (with_reducible refine (hP2 _ _ _ _ hR5d (hNX.below hb5.drew) _ hrd5d hvX).mono ?_); rintro e w6 ⟨a6, n6, c6, rfl, hR6, hb6⟩; have hbw6 := hb5.drew.trans (hb6.mono hb5.size); have S2 : w6.cell? ⟨w.heap.size, 0, none⟩ = some (.int .i64 d.most) ∧ w6.cell? ⟨w.heap.size, 1, none⟩ = some (.slice (some ⟨b, off, none⟩) n c) ∧ w6.cell? ⟨w.heap.size, 2, none⟩ = some (.int .i64 d.left) ∧ w6.cell? ⟨w.heap.size, 3, none⟩ = some (.bool d.down) ∧ w6.cell? ⟨w3.heap.size, 0, none⟩ = some (.int .i64 d.most) ∧ w6.cell? ⟨w3.heap.size, 1, none⟩ = some (.slice a' n' c') ∧ w6.cell? ⟨w3.heap.size, 2, none⟩ = some (.int .i64 d.left) ∧ w6.cell? ⟨w3.heap.size, 3, none⟩ = some (.bool d.down) ∧ w6.cell? ⟨w1.heap.size, 0, none⟩ = some (.string t) ∧ w6.cell? ⟨w1.heap.size, 1, none⟩ = some (.slice av (f.firm.length + f.loose.length) cv) ∧ w6.cell? ⟨w1.heap.size, 2, none⟩ = some (.int .i64 (f.firm.length : Nat)) := ⟨(hb6.cell (p := ⟨w.heap.size, 0, none⟩) hDl).trans y0, (hb6.cell (p := ⟨w.heap.size, 1, none⟩) hDl).trans y1, (hb6.cell (p := ⟨w.heap.size, 2, none⟩) hDl).trans y2, (hb6.cell (p := ⟨w.heap.size, 3, none⟩) hDl).trans y3, (hb6.cell (p := ⟨w3.heap.size, 0, none⟩) hTl).trans t0, (hb6.cell (p := ⟨w3.heap.size, 1, none⟩) hTl).trans t1, (hb6.cell (p := ⟨w3.heap.size, 2, none⟩) hTl).trans t2, (hb6.cell (p := ⟨w3.heap.size, 3, none⟩) hTl).trans t3, (hb6.cell (p := ⟨w1.heap.size, 0, none⟩) hXl).trans f0, (hb6.cell (p := ⟨w1.heap.size, 1, none⟩) hXl).trans f1, (hb6.cell (p := ⟨w1.heap.size, 2, none⟩) hXl).trans f2⟩; have hRef6 := hRef5d.below hb6; have hRB6 := (hb6.block _ (blk_lt hRB5)).trans hRB5)
          | (go_at_call 51; (with_reducible refine (hS _ hRef6 _ _ _ hR6).mono ?_); rintro e w7 ⟨a3, n3, c3, rfl, hR7, hb7⟩; have hbw7 := hbw6.trans (hb7.mono hbw6.size); have S3 : w7.cell? ⟨w.heap.size, 0, none⟩ = some (.int .i64 d.most) ∧ w7.cell? ⟨w.heap.size, 1, none⟩ = some (.slice (some ⟨b, off, none⟩) n c) ∧ w7.cell? ⟨w.heap.size, 2, none⟩ = some (.int .i64 d.left) ∧ w7.cell? ⟨w.heap.size, 3, none⟩ = some (.bool d.down) ∧ w7.cell? ⟨w3.heap.size, 0, none⟩ = some (.int .i64 d.most) ∧ w7.cell? ⟨w3.heap.size, 1, none⟩ = some (.slice a' n' c') ∧ w7.cell? ⟨w3.heap.size, 2, none⟩ = some (.int .i64 d.left) ∧ w7.cell? ⟨w3.heap.size, 3, none⟩ = some (.bool d.down) ∧ w7.cell? ⟨w1.heap.size, 0, none⟩ = some (.string t) ∧ w7.cell? ⟨w1.heap.size, 1, none⟩ = some (.slice av (f.firm.length + f.loose.length) cv) ∧ w7.cell? ⟨w1.heap.size, 2, none⟩ = some (.int .i64 (f.firm.length : Nat)) := ⟨(hb7.cell (p := ⟨w.heap.size, 0, none⟩) (cell_lt S2.1)).trans S2.1, (hb7.cell (p := ⟨w.heap.size, 1, none⟩) (cell_lt S2.1)).trans S2.2.1, (hb7.cell (p := ⟨w.heap.size, 2, none⟩) (cell_lt S2.1)).trans S2.2.2.1, (hb7.cell (p := ⟨w.heap.size, 3, none⟩) (cell_lt S2.1)).trans S2.2.2.2.1, (hb7.cell (p := ⟨w3.heap.size, 0, none⟩) (cell_lt S2.2.2.2.2.1)).trans S2.2.2.2.2.1, (hb7.cell (p := ⟨w3.heap.size, 1, none⟩) (cell_lt S2.2.2.2.2.1)).trans S2.2.2.2.2.2.1, (hb7.cell (p := ⟨w3.heap.size, 2, none⟩) (cell_lt S2.2.2.2.2.1)).trans S2.2.2.2.2.2.2.1, (hb7.cell (p := ⟨w3.heap.size, 3, none⟩) (cell_lt S2.2.2.2.2.1)).trans S2.2.2.2.2.2.2.2.1, (hb7.cell (p := ⟨w1.heap.size, 0, none⟩) (cell_lt S2.2.2.2.2.2.2.2.2.1)).trans S2.2.2.2.2.2.2.2.2.1, (hb7.cell (p := ⟨w1.heap.size, 1, none⟩) (cell_lt S2.2.2.2.2.2.2.2.2.1)).trans S2.2.2.2.2.2.2.2.2.2.1, (hb7.cell (p := ⟨w1.heap.size, 2, none⟩) (cell_lt S2.2.2.2.2.2.2.2.2.1)).trans S2.2.2.2.2.2.2.2.2.2.2⟩; have hRB7 := (hb7.block _ (blk_lt hRB6)).trans hRB6; obtain ⟨z0, z1, z2, z3, z4, z5, z6, z7⟩ := cells4 hRB7))
      go_wp2
      obtain ⟨p1, p2⟩ := ref_answer hR7 hRB7 hbw7 (by omega) (.int .i64 dd.most) (.slice a3 n3 c3) (.int .i64 dd.left) (.bool dd.down)
      exact bodyPost_ret (v := .tuple #[.agg #[.int .i64 dd.most, .slice a3 n3 c3, .int .i64 dd.left, .bool dd.down], .int .i64 d.err]) (by simp [results, Tryz.results37, go_sem, z0, z1, z2, z3]) rfl ⟨_, _, _, rfl, p1, p2⟩
  · have h1 : d.rename s t = d := by
      unfold findErr at he
      unfold ADisk.rename
      split
      · rfl
      · rename_i hd
        rw [if_neg hd] at he
        split
        · rfl
        · rename_i hl
          rw [if_neg hl] at he
          exact absurd rfl he
    have h2 : d.renameErr s t = findErr d s := by
      unfold findErr at he ⊢
      unfold ADisk.renameErr
      split
      · rfl
      · rename_i hd
        rw [if_neg hd] at he
        split
        · rfl
        · rename_i hl
          rw [if_neg hl] at he
          exact absurd rfl he
    rw [h1, h2]
    obtain ⟨fe, hfe⟩ : ∃ fe, findErr d s = fe := ⟨_, rfl⟩
    rw [hfe] at hA he ⊢
    have hq : (fe == 0) = false := by simpa using he
    have hq2 : (fe != 0) = true := by simpa using he
    clear hfe h1 h2 he
    obtain ⟨x0, x1, x2, x3, _⟩ := cells4 hD
    unfold refVal at hA ⊢
    go_enter Tryz.func37, Tryz.ntmps37
    go_wp2_with fail
    rw [HW.out]
    refine (hA _ hRW).mono ?_
    rintro e w1 ⟨rfl, hb1⟩
    have hD1 := (hb1.block _ (blk_lt hD)).trans hD
    have hR1 := (hb1.block _ (blk_lt hR)).trans hR
    have hbw1 : Below w.heap.size w w1 := hbW.trans (hb1.mono hbW.size)
    obtain ⟨y0, y1, y2, y3, y4, y5, y6, y7⟩ := cells4 hD1
    obtain ⟨z0, z1, z2, z3, z4, z5, z6, z7⟩ := cells4 hR1
    dsimp only
    go_wp2
    obtain ⟨p1, p2⟩ := ref_answer (h.below hbw1) hR1 hbw1 (by omega) (.int .i64 d.most) (.slice a n c) (.int .i64 d.left) (.bool d.down)
    exact bodyPost_ret (v := .tuple #[.agg #[.int .i64 d.most, .slice a n c, .int .i64 d.left, .bool d.down], .int .i64 fe]) (by simp [results, Tryz.results37, go_sem, z0, z1, z2, z3]) rfl ⟨_, _, _, rfl, p1, p2⟩
end Go.Proofs.YtkacgmbinkoojaaGreatDoor

/-
  The document's disk: Append (printed by wip/gen/gen_ref.py).
-/
namespace Go.Proofs.YtkacgmbinkoojaaGreatDoor
open Go.RowKit Go.Maps Go.MapKept
variable {X : Nat → Prop}
set_option linter.unusedSimpArgs false
theorem refFirst_int (w : World) (s : ByteArray) (vb : Value) (b : List UInt8) (z : Int) (n : Nat) (k : Int) (hz : z = n) (hrd : Rd w vb (bcells b)) (hn : b.length = n) (hb : b.length ≤ 140737488355328 * 1) :
    Calls Tryz.prog 43 #[.string s, vb, .int .i64 z, .int .i64 k] w fun e w' => ∃ a8, e = .returned (.agg #[.string s, .slice (some ⟨a8, 0, none⟩) n n, .int .i64 k]) ∧ Rd w' (.slice (some ⟨a8, 0, none⟩) n n) (bcells (b.take b.length)) ∧ Below w.heap.size w w' ∧ w.heap.size ≤ a8 ∧ a8 < w'.heap.size := by
  subst hz
  subst hn
  exact (refFirst_new w s vb b b.length k hrd (Nat.le_refl _) (by omega)).mono fun _ _ h => ⟨_, h.1, h.2.1, h.2.2.1, by omega, h.2.2.2⟩
theorem Rd.apart8 {w w' : World} {v : Value} {bs : List UInt8} {r : Nat} (h : Rd w v (bcells bs)) (h8 : ∀ o z, w.cell? ⟨r, o, none⟩ = some z → ∀ n, z ≠ .int .u8 n) (hU : Upd (fun k => k = r) w w') : Rd w' v (bcells bs) := by
  rcases h with h | ⟨b2, o2, n2, c2, e2, l2, r2⟩
  · exact Or.inl h
  · refine Or.inr ⟨b2, o2, n2, c2, e2, l2, fun j u hj => ?_⟩
    have hb2 : ¬ b2 = r := fun e => by
      subst e
      have h5 := r2 j u hj
      simp only [bcells, List.getElem?_map, Option.map_eq_some_iff] at hj
      obtain ⟨z, _, rfl⟩ := hj
      exact h8 _ _ h5 _ rfl
    exact (hU.cell (cell_lt (r2 j u hj)) hb2 _).trans (r2 j u hj)
theorem mk_size (l : List UInt8) : (⟨l.toArray⟩ : ByteArray).size = l.length := by show l.toArray.size = _; simp
theorem mk_app (l m : List UInt8) : ((⟨l.toArray⟩ : ByteArray) ++ ⟨m.toArray⟩).data.toList = l ++ m := by simp
theorem mk_app_size (l m : List UInt8) : ((⟨l.toArray⟩ : ByteArray) ++ ⟨m.toArray⟩).size = l.length + m.length := by rw [← List.length_append, ← mk_app, Array.length_toList]; rfl
theorem conv_bytes (w : World) (S : ByteArray) (l : List UInt8) (m : Nat) (hm : S.size = m) (hl : S.data.toList = l) :
    ∃ w' c, (convert 9 33 (.string S)).run Tryz.prog w = .ok (.slice (some ⟨w.heap.size, 0, none⟩) m c) w' ∧ Below w.heap.size w w' ∧ Rd w' (.slice (some ⟨w.heap.size, 0, none⟩) m c) (bcells l) := by
  subst hm hl
  refine ⟨_, _, Lib.run_convert_string_bytes (P := Tryz.prog) w 9 33 5 S Tryz.underlying9 Tryz.underlying33 Tryz.underlying5, ⟨?_, ?_, ?_, ?_, fun k hk => Lib.bytesWorld_at_old w 5 S k hk⟩, Or.inr ⟨_, _, _, _, rfl, by rw [bcells_length, Array.length_toList]; rfl, fun j u hj => ?_⟩⟩
  · simp [Lib.bytesWorld, World.freeze, World.alloc, World.drew, -World.alloc_eq, -World.drew_eq]
  · simp [Lib.bytesWorld, World.freeze, World.alloc, World.drew, -World.alloc_eq, -World.drew_eq]
  · simp [Lib.bytesWorld, World.freeze, World.alloc, World.drew, -World.alloc_eq, -World.drew_eq]
  · rw [Lib.bytesWorld_size]; omega
  · simp only [bcells, List.getElem?_map, Option.map_eq_some_iff] at hj
    obtain ⟨x, hx, rfl⟩ := hj
    have hlt : j < S.size := by have := (List.getElem?_eq_some_iff.1 hx).1; rw [Array.length_toList] at this; exact this
    have := Lib.bytesWorld_cell w 5 S j hlt
    rw [Nat.zero_add]
    rw [this, List.getD_eq_getElem?_getD, hx]
    rfl

set_option maxRecDepth 100000 in
set_option maxHeartbeats 4000000 in
theorem refAppend_any (w : World) (a : Option Addr) (n c : Nat) (d : ADisk) (s : ByteArray) (vb : Value) (b : List UInt8) (h : RefAt X w a n c d) (hw : d.WF) (hX : NewOk X w) (hs : s.size ≤ maxLen) (hrb : Rd w vb (bcells b)) (hlb : b.length ≤ 140737488355328) :
    Calls Tryz.prog 16 #[refVal a n c d, .string s, vb] w fun e w' => ∃ a' n' c', e = .returned (.tuple #[refVal a' n' c' (d.append s b), .int .i64 (d.appendErr s b)]) ∧ RefAt X w' a' n' c' (d.append s b) ∧ Below w.heap.size w w' := by
  have hA := fun (w : World) (h : RefAt X w a n c d) => refAsk_any w a n c d s h hw
  have hD := alloc2_at0 w (.cells #[.int .i64 d.most, .slice a n c, .int .i64 d.left, .bool d.down] 29) (.cells #[.int .i64 0, .slice none 0 0, .int .i64 0, .bool false] 29)
  have hR := alloc2_at w (.cells #[.int .i64 d.most, .slice a n c, .int .i64 d.left, .bool d.down] 29) (.cells #[.int .i64 0, .slice none 0 0, .int .i64 0, .bool false] 29)
  have hbW : Below w.heap.size w ((w.alloc (.cells #[.int .i64 d.most, .slice a n c, .int .i64 d.left, .bool d.down] 29)).alloc (.cells #[.int .i64 0, .slice none 0 0, .int .i64 0, .bool false] 29)) := ((Below.refl _ _).alloc (Nat.le_refl _) _).alloc (by simp) _
  obtain ⟨W, hW⟩ : ∃ W, (w.alloc (.cells #[.int .i64 d.most, .slice a n c, .int .i64 d.left, .bool d.down] 29)).alloc (.cells #[.int .i64 0, .slice none 0 0, .int .i64 0, .bool false] 29) = W := ⟨_, rfl⟩
  rw [hW] at hD hR hbW
  have HW := Lib.hid hW
  clear hW
  have hRW := h.below hbW
  obtain ⟨ab, cb, rfl⟩ := hrb.shape
  rw [bcells_length] at hrb ⊢
  have hT := fun (w : World) => refRight_any w s hs
  have hUs := fun (w : World) (h : RefAt X w a n c d) => refUsed_any w a n c d h hw
  obtain ⟨x0, x1, x2, x3, _⟩ := cells4 hD
  have hus := hw.used
  have hms := hw.most1
  have hcnt := hw.count
  cases hd : d.down with
  | true =>
    have h1 : d.append s b = d := by unfold ADisk.append; rw [hd]; rfl
    have h2 : d.appendErr s b = 15 := by unfold ADisk.appendErr; rw [hd]; rfl
    have he : findErr d s = 15 := by unfold findErr; rw [hd]; rfl
    rw [h1, h2]
    rw [he] at hA
    clear h1 h2 he hd hT hUs
    unfold refVal at hA ⊢
    go_enter Tryz.func16, Tryz.ntmps16
    go_wp2_with fail
    rw [HW.out]
    refine (hA _ hRW).mono ?_
    rintro e w1 ⟨rfl, hb1⟩
    have hD1 := (hb1.block _ (blk_lt hD)).trans hD
    have hR1 := (hb1.block _ (blk_lt hR)).trans hR
    have hbw1 : Below w.heap.size w w1 := hbW.trans (hb1.mono hbW.size)
    obtain ⟨y0, y1, y2, y3, y4, y5, y6, y7⟩ := cells4 hD1
    obtain ⟨z0, z1, z2, z3, z4, z5, z6, z7⟩ := cells4 hR1
    dsimp only
    go_wp2
    obtain ⟨p1, p2⟩ := ref_answer (h.below hbw1) hR1 hbw1 (by omega) (.int .i64 d.most) (.slice a n c) (.int .i64 d.left) (.bool d.down)
    exact bodyPost_ret (v := .tuple #[.agg #[.int .i64 d.most, .slice a n c, .int .i64 d.left, .bool d.down], .int .i64 15]) (by simp [results, Tryz.results16, go_sem, z0, z1, z2, z3]) rfl ⟨_, _, _, rfl, p1, p2⟩
  | false =>
    obtain ⟨fe, hfe⟩ : ∃ fe, findErr d s = fe := ⟨_, rfl⟩
    have hq : (fe == 15) = false := by
      rw [← hfe]
      unfold findErr
      rw [hd]
      cases lk d.fs s <;> simp
    rw [hfe] at hA
    clear hfe
    cases hok : okName s with
    | false =>
      have h1 : d.append s b = d := by unfold ADisk.append; rw [hd, hok]; rfl
      have h2 : d.appendErr s b = 13 := by unfold ADisk.appendErr; rw [hd, hok]; rfl
      rw [h1, h2]
      rw [hok] at hT
      clear h1 h2 hd hok hUs
      unfold refVal at hA ⊢
      go_enter Tryz.func16, Tryz.ntmps16
      go_wp2_with fail
      rw [HW.out]
      refine (hA _ hRW).mono ?_
      rintro e w1 ⟨rfl, hb1⟩
      have hD1 := (hb1.block _ (blk_lt hD)).trans hD
      have hR1 := (hb1.block _ (blk_lt hR)).trans hR
      have hbw1 : Below w.heap.size w w1 := hbW.trans (hb1.mono hbW.size)
      obtain ⟨y0, y1, y2, y3, y4, y5, y6, y7⟩ := cells4 hD1
      dsimp only
      go_wp2_with fail
      refine (hT _).mono ?_
      rintro e w2 ⟨rfl, rfl⟩
      obtain ⟨z0, z1, z2, z3, z4, z5, z6, z7⟩ := cells4 hR1
      dsimp only
      go_wp2
      obtain ⟨p1, p2⟩ := ref_answer (h.below hbw1) hR1 hbw1 (by omega) (.int .i64 d.most) (.slice a n c) (.int .i64 d.left) (.bool d.down)
      exact bodyPost_ret (v := .tuple #[.agg #[.int .i64 d.most, .slice a n c, .int .i64 d.left, .bool d.down], .int .i64 13]) (by simp [results, Tryz.results16, go_sem, z0, z1, z2, z3]) rfl ⟨_, _, _, rfl, p1, p2⟩
    | true =>
      rw [hok] at hT
      have hw1 : IntKind.i64.wrap ((usedF d.fs : Int) + b.length) = (usedF d.fs : Int) + b.length := IntWalk.i64_in _ (by omega)
      have Hnl := Lib.hid h.len
      by_cases hfull : d.most < usedF d.fs + b.length
      · have h1 : d.append s b = d := by unfold ADisk.append; rw [hd, hok, if_pos hfull]; rfl
        have h2 : d.appendErr s b = 5 := by unfold ADisk.appendErr; rw [hd, hok, if_pos hfull]; rfl
        rw [h1, h2]
        clear h1 h2 hd hok
        unfold refVal at hA hUs ⊢
        go_enter Tryz.func16, Tryz.ntmps16
        go_wp2_with fail
        rw [HW.out]
        refine (hA _ hRW).mono ?_
        rintro e w1 ⟨rfl, hb1⟩
        have hD1 := (hb1.block _ (blk_lt hD)).trans hD
        have hR1 := (hb1.block _ (blk_lt hR)).trans hR
        have hbw1 : Below w.heap.size w w1 := hbW.trans (hb1.mono hbW.size)
        obtain ⟨y0, y1, y2, y3, y4, y5, y6, y7⟩ := cells4 hD1
        have hRef1 := h.below hbw1
        have hDl := blk_lt hD1
        dsimp only
        go_wp2_with fail
        refine (hT _).mono ?_
        rintro e w2 ⟨rfl, rfl⟩
        dsimp only
        have hRef1d := hRef1.below ((Below.refl w1.heap.size w1).drew)
        clear x0 x1 x2 x3 hRW
        go_wp2_with fail
        refine wp_region_held_drew (S := fun w' => w'.cell? ⟨w.heap.size, 0, none⟩ = some (.int .i64 d.most) ∧ w'.cell? ⟨w.heap.size, 1, none⟩ = some (.slice a n c) ∧ w'.cell? ⟨w.heap.size, 2, none⟩ = some (.int .i64 d.left) ∧ w'.cell? ⟨w.heap.size, 3, none⟩ = some (.bool d.down)) (by kernel_rfl) ⟨y0, y1, y2, y3⟩ (fun hHeld => ?_)
        refine wpAnyH_take (i := 0) (v := ?_) rfl (by kernel_rfl) (by kernel_rfl) (by kernel_rfl) (fun _ _ _ h => h) (Or.inl ⟨by rfl, ?_⟩) (by assumption) ?_
        rotate_left
        · (intro w hSw; (try dsimp only at hSw); go_simp) <;> with_reducible rfl
        simp only [Act.put, List.getElem_toArray, List.getElem_cons_zero, List.getElem_cons_succ, List.setIfInBounds_toArray, List.set_cons_zero, List.set_cons_succ]
        refine wpAnyH_take (i := 2) (v := ?_) rfl (by kernel_rfl) (by kernel_rfl) (by kernel_rfl) (fun _ _ _ h => h) (Or.inl ⟨by rfl, ?_⟩) (by assumption) ?_
        rotate_left
        · (intro w hSw; (try dsimp only at hSw); go_simp) <;> with_reducible rfl
        simp only [Act.put, List.getElem_toArray, List.getElem_cons_zero, List.getElem_cons_succ, List.setIfInBounds_toArray, List.set_cons_zero, List.set_cons_succ]
        refine wpAnyH_take (i := 3) (v := ?_) rfl (by kernel_rfl) (by kernel_rfl) (by kernel_rfl) (fun _ _ _ h => h) (Or.inl ⟨by rfl, ?_⟩) (by assumption) ?_
        rotate_left
        · (intro w hSw; (try dsimp only at hSw); go_simp) <;> with_reducible rfl
        simp only [Act.put, List.getElem_toArray, List.getElem_cons_zero, List.getElem_cons_succ, List.setIfInBounds_toArray, List.set_cons_zero, List.set_cons_succ]
        refine wpAnyH_take (i := 5) (v := ?_) rfl (by kernel_rfl) (by kernel_rfl) (by kernel_rfl) (fun _ _ _ h => h) (Or.inl ⟨by rfl, ?_⟩) (by assumption) ?_
        rotate_left
        · (intro w hSw; (try dsimp only at hSw); go_simp) <;> with_reducible rfl
        simp only [Act.put, List.getElem_toArray, List.getElem_cons_zero, List.getElem_cons_succ, List.setIfInBounds_toArray, List.set_cons_zero, List.set_cons_succ]
        refine wpAnyH_take (i := 6) (v := ?_) rfl (by kernel_rfl) (by kernel_rfl) (by kernel_rfl) (fun _ _ _ h => h) (Or.inl ⟨by rfl, ?_⟩) (by assumption) ?_
        rotate_left
        · (intro w hSw; (try dsimp only at hSw); go_simp) <;> with_reducible rfl
        simp only [Act.put, List.getElem_toArray, List.getElem_cons_zero, List.getElem_cons_succ, List.setIfInBounds_toArray, List.set_cons_zero, List.set_cons_succ]
        refine wpAnyH_ready (rs := [1]) (by kernel_rfl) (by simp) (AllReadyH.cons rfl (fun K hK => ?_) AllReadyH.nil)
        go_simp
        refine (hUs _ hRef1d).mono ?_
        rintro e w2 ⟨rfl, hb2⟩
        refine hK.out _ _ ⟨(hb2.cell (p := ⟨w.heap.size, 0, none⟩) hDl).trans y0, (hb2.cell (p := ⟨w.heap.size, 1, none⟩) hDl).trans y1, (hb2.cell (p := ⟨w.heap.size, 2, none⟩) hDl).trans y2, (hb2.cell (p := ⟨w.heap.size, 3, none⟩) hDl).trans y3⟩ (fun hHeld => ?_)
        clear hK K
        refine wpAnyH_take (i := 4) (v := ?_) rfl (by kernel_rfl) (by kernel_rfl) (by kernel_rfl) (fun _ _ _ h => h) (Or.inl ⟨by rfl, ?_⟩) (by assumption) ?_
        rotate_left
        · (intro w hSw; (try dsimp only at hSw); go_simp) <;> with_reducible rfl
        simp only [Act.put, List.getElem_toArray, List.getElem_cons_zero, List.getElem_cons_succ, List.setIfInBounds_toArray, List.set_cons_zero, List.set_cons_succ]
        refine wpAnyH_take (i := 7) (v := ?_) rfl (by kernel_rfl) (by kernel_rfl) (by kernel_rfl) (fun _ _ _ h => h) (Or.inl ⟨by rfl, ?_⟩) (by assumption) ?_
        rotate_left
        · (intro w hSw; (try dsimp only at hSw); go_simp) <;> with_reducible rfl
        simp only [Act.put, List.getElem_toArray, List.getElem_cons_zero, List.getElem_cons_succ, List.setIfInBounds_toArray, List.set_cons_zero, List.set_cons_succ]
        refine wpAnyH_take (i := 8) (v := ?_) rfl (by kernel_rfl) (by kernel_rfl) (by kernel_rfl) (fun _ _ _ h => h) (Or.inl ⟨by rfl, ?_⟩) (by assumption) ?_
        rotate_left
        · (intro w hSw; (try dsimp only at hSw); go_simp) <;> with_reducible rfl
        simp only [Act.put, List.getElem_toArray, List.getElem_cons_zero, List.getElem_cons_succ, List.setIfInBounds_toArray, List.set_cons_zero, List.set_cons_succ]
        refine wpAnyH_take (i := 9) (v := undef) rfl (by kernel_rfl) (by kernel_rfl) (by kernel_rfl) (fun _ _ _ h => h) (Or.inr ⟨by rfl, rfl⟩) (by assumption) ?_
        simp only [Act.put, List.getElem_toArray, List.getElem_cons_zero, List.getElem_cons_succ, List.setIfInBounds_toArray, List.set_cons_zero, List.set_cons_succ]
        refine wpAnyH_take (i := 10) (v := undef) rfl (by kernel_rfl) (by kernel_rfl) (by kernel_rfl) (fun _ _ _ h => h) (Or.inr ⟨by rfl, rfl⟩) (by assumption) ?_
        simp only [Act.put, List.getElem_toArray, List.getElem_cons_zero, List.getElem_cons_succ, List.setIfInBounds_toArray, List.set_cons_zero, List.set_cons_succ]
        refine wpAnyH_take (i := 11) (v := undef) rfl (by kernel_rfl) (by kernel_rfl) (by kernel_rfl) (fun _ _ _ h => h) (Or.inr ⟨by rfl, rfl⟩) (by assumption) ?_
        simp only [Act.put, List.getElem_toArray, List.getElem_cons_zero, List.getElem_cons_succ, List.setIfInBounds_toArray, List.set_cons_zero, List.set_cons_succ]
        refine wpAnyH_take (i := 12) (v := undef) rfl (by kernel_rfl) (by kernel_rfl) (by kernel_rfl) (fun _ _ _ h => h) (Or.inr ⟨by rfl, rfl⟩) (by assumption) ?_
        simp only [Act.put, List.getElem_toArray, List.getElem_cons_zero, List.getElem_cons_succ, List.setIfInBounds_toArray, List.set_cons_zero, List.set_cons_succ]
        refine wpAnyH_take (i := 13) (v := undef) rfl (by kernel_rfl) (by kernel_rfl) (by kernel_rfl) (fun _ _ _ h => h) (Or.inr ⟨by rfl, rfl⟩) (by assumption) ?_
        simp only [Act.put, List.getElem_toArray, List.getElem_cons_zero, List.getElem_cons_succ, List.setIfInBounds_toArray, List.set_cons_zero, List.set_cons_succ]
        refine wpAnyH_take (i := 14) (v := undef) rfl (by kernel_rfl) (by kernel_rfl) (by kernel_rfl) (fun _ _ _ h => h) (Or.inr ⟨by rfl, rfl⟩) (by assumption) ?_
        simp only [Act.put, List.getElem_toArray, List.getElem_cons_zero, List.getElem_cons_succ, List.setIfInBounds_toArray, List.set_cons_zero, List.set_cons_succ]
        refine wpAnyH_take (i := 15) (v := undef) rfl (by kernel_rfl) (by kernel_rfl) (by kernel_rfl) (fun _ _ _ h => h) (Or.inr ⟨by rfl, rfl⟩) (by assumption) ?_
        simp only [Act.put, List.getElem_toArray, List.getElem_cons_zero, List.getElem_cons_succ, List.setIfInBounds_toArray, List.set_cons_zero, List.set_cons_succ]
        refine wpAnyH_take (i := 16) (v := undef) rfl (by kernel_rfl) (by kernel_rfl) (by kernel_rfl) (fun _ _ _ h => h) (Or.inr ⟨by rfl, rfl⟩) (by assumption) ?_
        simp only [Act.put, List.getElem_toArray, List.getElem_cons_zero, List.getElem_cons_succ, List.setIfInBounds_toArray, List.set_cons_zero, List.set_cons_succ]
        refine wpAnyH_take (i := 17) (v := ?_) rfl (by kernel_rfl) (by kernel_rfl) (by kernel_rfl) (fun _ _ _ h => h) (Or.inl ⟨by rfl, ?_⟩) (by assumption) ?_
        rotate_left
        · (intro w hSw; (try dsimp only at hSw); go_simp) <;> with_reducible rfl
        simp only [Act.put, List.getElem_toArray, List.getElem_cons_zero, List.getElem_cons_succ, List.setIfInBounds_toArray, List.set_cons_zero, List.set_cons_succ]
        refine wpAnyH_done (by kernel_rfl) ?_ _
        have hR1' := (hb2.block _ (blk_lt hR1)).trans hR1
        have hbw2 := hbw1.drew.trans (hb2.mono hbw1.size)
        obtain ⟨q0, q1, q2, q3⟩ := hHeld
        obtain ⟨z0, z1, z2, z3, z4, z5, z6, z7⟩ := cells4 hR1'
        go_wp2
        obtain ⟨p1, p2⟩ := ref_answer (h.below hbw2) hR1' hbw2 (by omega) (.int .i64 d.most) (.slice a n c) (.int .i64 d.left) (.bool d.down)
        exact bodyPost_ret (v := .tuple #[.agg #[.int .i64 d.most, .slice a n c, .int .i64 d.left, .bool d.down], .int .i64 5]) (by simp [results, Tryz.results16, go_sem, z0, z1, z2, z3]) rfl ⟨_, _, _, rfl, p1, p2⟩
      · cases hl : lk d.fs s with
        | none =>
          have hpl := place_none hl
          rw [hpl] at hA
          have hi0 : (-1 : Int) < 0 := by omega
          by_cases hmany : 200 ≤ d.fs.length
          · have h1 : d.append s b = d := by unfold ADisk.append; rw [hd, hok, if_neg hfull, hl, if_pos (show (none : Option AFile).isNone = true ∧ 200 ≤ d.fs.length from ⟨rfl, hmany⟩)]; rfl
            have h2 : d.appendErr s b = 5 := by unfold ADisk.appendErr; rw [hd, hok, if_neg hfull, hl, if_pos (show (none : Option AFile).isNone = true ∧ 200 ≤ d.fs.length from ⟨rfl, hmany⟩)]; rfl
            rw [h1, h2]
            have hnq : ((n : Int) == 200) = true := by rw [Hnl.out]; simp; omega
            have hfd : decide (d.most < (usedF d.fs : Int) + (b.length : Int)) = false := decide_eq_false hfull
            clear h1 h2 hd hok hl hpl hmany
            unfold refVal at hA hUs ⊢
            go_enter Tryz.func16, Tryz.ntmps16
            go_wp2_with fail
            rw [HW.out]
            refine (hA _ hRW).mono ?_
            rintro e w1 ⟨rfl, hb1⟩
            have hD1 := (hb1.block _ (blk_lt hD)).trans hD
            have hR1 := (hb1.block _ (blk_lt hR)).trans hR
            have hbw1 : Below w.heap.size w w1 := hbW.trans (hb1.mono hbW.size)
            obtain ⟨y0, y1, y2, y3, y4, y5, y6, y7⟩ := cells4 hD1
            have hRef1 := h.below hbw1
            have hDl := blk_lt hD1
            dsimp only
            go_wp2_with fail
            refine (hT _).mono ?_
            rintro e w2 ⟨rfl, rfl⟩
            dsimp only
            have hRef1d := hRef1.below ((Below.refl w1.heap.size w1).drew)
            clear x0 x1 x2 x3 hRW
            go_wp2_with fail
            refine wp_region_held_drew (S := fun w' => w'.cell? ⟨w.heap.size, 0, none⟩ = some (.int .i64 d.most) ∧ w'.cell? ⟨w.heap.size, 1, none⟩ = some (.slice a n c) ∧ w'.cell? ⟨w.heap.size, 2, none⟩ = some (.int .i64 d.left) ∧ w'.cell? ⟨w.heap.size, 3, none⟩ = some (.bool d.down)) (by kernel_rfl) ⟨y0, y1, y2, y3⟩ (fun hHeld => ?_)
            refine wpAnyH_take (i := 0) (v := ?_) rfl (by kernel_rfl) (by kernel_rfl) (by kernel_rfl) (fun _ _ _ h => h) (Or.inl ⟨by rfl, ?_⟩) (by assumption) ?_
            rotate_left
            · (intro w hSw; (try dsimp only at hSw); go_simp) <;> with_reducible rfl
            simp only [Act.put, List.getElem_toArray, List.getElem_cons_zero, List.getElem_cons_succ, List.setIfInBounds_toArray, List.set_cons_zero, List.set_cons_succ]
            refine wpAnyH_take (i := 2) (v := ?_) rfl (by kernel_rfl) (by kernel_rfl) (by kernel_rfl) (fun _ _ _ h => h) (Or.inl ⟨by rfl, ?_⟩) (by assumption) ?_
            rotate_left
            · (intro w hSw; (try dsimp only at hSw); go_simp) <;> with_reducible rfl
            simp only [Act.put, List.getElem_toArray, List.getElem_cons_zero, List.getElem_cons_succ, List.setIfInBounds_toArray, List.set_cons_zero, List.set_cons_succ]
            refine wpAnyH_take (i := 3) (v := ?_) rfl (by kernel_rfl) (by kernel_rfl) (by kernel_rfl) (fun _ _ _ h => h) (Or.inl ⟨by rfl, ?_⟩) (by assumption) ?_
            rotate_left
            · (intro w hSw; (try dsimp only at hSw); go_simp) <;> with_reducible rfl
            simp only [Act.put, List.getElem_toArray, List.getElem_cons_zero, List.getElem_cons_succ, List.setIfInBounds_toArray, List.set_cons_zero, List.set_cons_succ]
            refine wpAnyH_take (i := 5) (v := ?_) rfl (by kernel_rfl) (by kernel_rfl) (by kernel_rfl) (fun _ _ _ h => h) (Or.inl ⟨by rfl, ?_⟩) (by assumption) ?_
            rotate_left
            · (intro w hSw; (try dsimp only at hSw); go_simp) <;> with_reducible rfl
            simp only [Act.put, List.getElem_toArray, List.getElem_cons_zero, List.getElem_cons_succ, List.setIfInBounds_toArray, List.set_cons_zero, List.set_cons_succ]
            refine wpAnyH_take (i := 6) (v := ?_) rfl (by kernel_rfl) (by kernel_rfl) (by kernel_rfl) (fun _ _ _ h => h) (Or.inl ⟨by rfl, ?_⟩) (by assumption) ?_
            rotate_left
            · (intro w hSw; (try dsimp only at hSw); go_simp) <;> with_reducible rfl
            simp only [Act.put, List.getElem_toArray, List.getElem_cons_zero, List.getElem_cons_succ, List.setIfInBounds_toArray, List.set_cons_zero, List.set_cons_succ]
            refine wpAnyH_ready (rs := [1]) (by kernel_rfl) (by simp) (AllReadyH.cons rfl (fun K hK => ?_) AllReadyH.nil)
            go_simp
            refine (hUs _ hRef1d).mono ?_
            rintro e w2 ⟨rfl, hb2⟩
            refine hK.out _ _ ⟨(hb2.cell (p := ⟨w.heap.size, 0, none⟩) hDl).trans y0, (hb2.cell (p := ⟨w.heap.size, 1, none⟩) hDl).trans y1, (hb2.cell (p := ⟨w.heap.size, 2, none⟩) hDl).trans y2, (hb2.cell (p := ⟨w.heap.size, 3, none⟩) hDl).trans y3⟩ (fun hHeld => ?_)
            clear hK K
            refine wpAnyH_take (i := 4) (v := ?_) rfl (by kernel_rfl) (by kernel_rfl) (by kernel_rfl) (fun _ _ _ h => h) (Or.inl ⟨by rfl, ?_⟩) (by assumption) ?_
            rotate_left
            · (intro w hSw; (try dsimp only at hSw); go_simp) <;> with_reducible rfl
            simp only [Act.put, List.getElem_toArray, List.getElem_cons_zero, List.getElem_cons_succ, List.setIfInBounds_toArray, List.set_cons_zero, List.set_cons_succ]
            refine wpAnyH_take (i := 7) (v := ?_) rfl (by kernel_rfl) (by kernel_rfl) (by kernel_rfl) (fun _ _ _ h => h) (Or.inl ⟨by rfl, ?_⟩) (by assumption) ?_
            rotate_left
            · (intro w hSw; (try dsimp only at hSw); go_simp) <;> with_reducible rfl
            simp only [Act.put, List.getElem_toArray, List.getElem_cons_zero, List.getElem_cons_succ, List.setIfInBounds_toArray, List.set_cons_zero, List.set_cons_succ]
            refine wpAnyH_take (i := 8) (v := ?_) rfl (by kernel_rfl) (by kernel_rfl) (by kernel_rfl) (fun _ _ _ h => h) (Or.inl ⟨by rfl, ?_⟩) (by assumption) ?_
            rotate_left
            · (intro w hSw; (try dsimp only at hSw); go_simp) <;> with_reducible rfl
            simp only [Act.put, List.getElem_toArray, List.getElem_cons_zero, List.getElem_cons_succ, List.setIfInBounds_toArray, List.set_cons_zero, List.set_cons_succ]
            refine wpAnyH_take (i := 9) (v := ?_) rfl (by kernel_rfl) (by kernel_rfl) (by kernel_rfl) (fun _ _ _ h => h) (Or.inl ⟨by rfl, ?_⟩) (by assumption) ?_
            rotate_left
            · (intro w hSw; (try dsimp only at hSw); go_simp) <;> with_reducible rfl
            simp only [Act.put, List.getElem_toArray, List.getElem_cons_zero, List.getElem_cons_succ, List.setIfInBounds_toArray, List.set_cons_zero, List.set_cons_succ]
            refine wpAnyH_take (i := 10) (v := ?_) rfl (by kernel_rfl) (by kernel_rfl) (by kernel_rfl) (fun _ _ _ h => h) (Or.inl ⟨by rfl, ?_⟩) (by assumption) ?_
            rotate_left
            · (intro w hSw; (try dsimp only at hSw); go_simp) <;> with_reducible rfl
            simp only [Act.put, List.getElem_toArray, List.getElem_cons_zero, List.getElem_cons_succ, List.setIfInBounds_toArray, List.set_cons_zero, List.set_cons_succ]
            refine wpAnyH_take (i := 11) (v := ?_) rfl (by kernel_rfl) (by kernel_rfl) (by kernel_rfl) (fun _ _ _ h => h) (Or.inl ⟨by rfl, ?_⟩) (by assumption) ?_
            rotate_left
            · (intro w hSw; (try dsimp only at hSw); go_simp) <;> with_reducible rfl
            simp only [Act.put, List.getElem_toArray, List.getElem_cons_zero, List.getElem_cons_succ, List.setIfInBounds_toArray, List.set_cons_zero, List.set_cons_succ]
            refine wpAnyH_take (i := 12) (v := ?_) rfl (by kernel_rfl) (by kernel_rfl) (by kernel_rfl) (fun _ _ _ h => h) (Or.inl ⟨by rfl, ?_⟩) (by assumption) ?_
            rotate_left
            · (intro w hSw; (try dsimp only at hSw); go_simp) <;> with_reducible rfl
            simp only [Act.put, List.getElem_toArray, List.getElem_cons_zero, List.getElem_cons_succ, List.setIfInBounds_toArray, List.set_cons_zero, List.set_cons_succ]
            refine wpAnyH_take (i := 13) (v := ?_) rfl (by kernel_rfl) (by kernel_rfl) (by kernel_rfl) (fun _ _ _ h => h) (Or.inl ⟨by rfl, ?_⟩) (by assumption) ?_
            rotate_left
            · (intro w hSw; (try dsimp only at hSw); go_simp) <;> with_reducible rfl
            simp only [Act.put, List.getElem_toArray, List.getElem_cons_zero, List.getElem_cons_succ, List.setIfInBounds_toArray, List.set_cons_zero, List.set_cons_succ]
            refine wpAnyH_take (i := 14) (v := ?_) rfl (by kernel_rfl) (by kernel_rfl) (by kernel_rfl) (fun _ _ _ h => h) (Or.inl ⟨by rfl, ?_⟩) (by assumption) ?_
            rotate_left
            · (intro w hSw; (try dsimp only at hSw); go_simp) <;> with_reducible rfl
            simp only [Act.put, List.getElem_toArray, List.getElem_cons_zero, List.getElem_cons_succ, List.setIfInBounds_toArray, List.set_cons_zero, List.set_cons_succ]
            refine wpAnyH_take (i := 15) (v := ?_) rfl (by kernel_rfl) (by kernel_rfl) (by kernel_rfl) (fun _ _ _ h => h) (Or.inl ⟨by rfl, ?_⟩) (by assumption) ?_
            rotate_left
            · (intro w hSw; (try dsimp only at hSw); go_simp) <;> with_reducible rfl
            simp only [Act.put, List.getElem_toArray, List.getElem_cons_zero, List.getElem_cons_succ, List.setIfInBounds_toArray, List.set_cons_zero, List.set_cons_succ]
            refine wpAnyH_take (i := 16) (v := ?_) rfl (by kernel_rfl) (by kernel_rfl) (by kernel_rfl) (fun _ _ _ h => h) (Or.inl ⟨by rfl, ?_⟩) (by assumption) ?_
            rotate_left
            · (intro w hSw; (try dsimp only at hSw); go_simp) <;> with_reducible rfl
            simp only [Act.put, List.getElem_toArray, List.getElem_cons_zero, List.getElem_cons_succ, List.setIfInBounds_toArray, List.set_cons_zero, List.set_cons_succ]
            refine wpAnyH_take (i := 17) (v := ?_) rfl (by kernel_rfl) (by kernel_rfl) (by kernel_rfl) (fun _ _ _ h => h) (Or.inl ⟨by rfl, ?_⟩) (by assumption) ?_
            rotate_left
            · (intro w hSw; (try dsimp only at hSw); go_simp) <;> with_reducible rfl
            simp only [Act.put, List.getElem_toArray, List.getElem_cons_zero, List.getElem_cons_succ, List.setIfInBounds_toArray, List.set_cons_zero, List.set_cons_succ]
            refine wpAnyH_done (by kernel_rfl) ?_ _
            have hR1' := (hb2.block _ (blk_lt hR1)).trans hR1
            have hbw2 := hbw1.drew.trans (hb2.mono hbw1.size)
            obtain ⟨q0, q1, q2, q3⟩ := hHeld
            obtain ⟨z0, z1, z2, z3, z4, z5, z6, z7⟩ := cells4 hR1'
            go_wp2
            obtain ⟨p1, p2⟩ := ref_answer (h.below hbw2) hR1' hbw2 (by omega) (.int .i64 d.most) (.slice a n c) (.int .i64 d.left) (.bool d.down)
            exact bodyPost_ret (v := .tuple #[.agg #[.int .i64 d.most, .slice a n c, .int .i64 d.left, .bool d.down], .int .i64 5]) (by simp [results, Tryz.results16, go_sem, z0, z1, z2, z3]) rfl ⟨_, _, _, rfl, p1, p2⟩
          · have h1 : d.append s b = d.thenF (putF d.fs s ⟨[], b⟩) := by unfold ADisk.append; rw [hd, hok, if_neg hfull, hl, if_neg (show ¬ ((none : Option AFile).isNone = true ∧ 200 ≤ d.fs.length) from fun hh => hmany hh.2)]; unfold afile; rw [hl]; rfl
            have h2 : d.appendErr s b = d.err := by unfold ADisk.appendErr; rw [hd, hok, if_neg hfull, hl, if_neg (show ¬ ((none : Option AFile).isNone = true ∧ 200 ≤ d.fs.length) from fun hh => hmany hh.2)]; rfl
            rw [h1, h2]
            have hnq : ((n : Int) == 200) = false := by rw [Hnl.out]; simp; omega
            have hfd : decide (d.most < (usedF d.fs : Int) + (b.length : Int)) = false := decide_eq_false hfull
            have hS := fun (w : World) (h : RefAt X w a n c d) (a' n' c' h') => refStep_then w a n c d a' n' c' (putF d.fs s ⟨[], b⟩) h h' hw hd
            have hP := fun (w : World) (h : RefAt X w a n c d) (hX : NewOk X w) (vf : Value) (hf : Rd w vf (bcells ((([] : List UInt8) ++ b).take (([] : List UInt8) ++ b).length))) (hfX : InX X vf (((([] : List UInt8) ++ b).take (([] : List UInt8) ++ b).length))) => refPut_as w a n c d s vf ⟨[], b⟩ (0 : Int) ((([] : List UInt8) ++ b).take (([] : List UInt8) ++ b).length) false (by simp) (by simp) h hw hX hf hfX
            simp only [if_false, Bool.false_eq_true] at hP
            obtain ⟨dd, hdd⟩ : ∃ dd, d.thenF (putF d.fs s ⟨[], b⟩) = dd := ⟨_, rfl⟩
            simp only [hdd] at hS ⊢
            clear hdd hd
            clear h1 h2 hok hl hpl hmany
            unfold refVal at hA hUs hS hP ⊢
            go_enter Tryz.func16, Tryz.ntmps16
            go_wp2_with fail
            rw [HW.out]
            refine (hA _ hRW).mono ?_
            rintro e w1 ⟨rfl, hb1⟩
            have hD1 := (hb1.block _ (blk_lt hD)).trans hD
            have hR1 := (hb1.block _ (blk_lt hR)).trans hR
            have hbw1 : Below w.heap.size w w1 := hbW.trans (hb1.mono hbW.size)
            obtain ⟨y0, y1, y2, y3, y4, y5, y6, y7⟩ := cells4 hD1
            have hRef1 := h.below hbw1
            have hDl := blk_lt hD1
            dsimp only
            go_wp2_with fail
            refine (hT _).mono ?_
            rintro e w2 ⟨rfl, rfl⟩
            dsimp only
            have hRef1d := hRef1.below ((Below.refl w1.heap.size w1).drew)
            clear x0 x1 x2 x3 hRW
            go_wp2_with fail
            refine wp_region_held_drew (S := fun w' => w'.cell? ⟨w.heap.size, 0, none⟩ = some (.int .i64 d.most) ∧ w'.cell? ⟨w.heap.size, 1, none⟩ = some (.slice a n c) ∧ w'.cell? ⟨w.heap.size, 2, none⟩ = some (.int .i64 d.left) ∧ w'.cell? ⟨w.heap.size, 3, none⟩ = some (.bool d.down)) (by kernel_rfl) ⟨y0, y1, y2, y3⟩ (fun hHeld => ?_)
            refine wpAnyH_take (i := 0) (v := ?_) rfl (by kernel_rfl) (by kernel_rfl) (by kernel_rfl) (fun _ _ _ h => h) (Or.inl ⟨by rfl, ?_⟩) (by assumption) ?_
            rotate_left
            · (intro w hSw; (try dsimp only at hSw); go_simp) <;> with_reducible rfl
            simp only [Act.put, List.getElem_toArray, List.getElem_cons_zero, List.getElem_cons_succ, List.setIfInBounds_toArray, List.set_cons_zero, List.set_cons_succ]
            refine wpAnyH_take (i := 2) (v := ?_) rfl (by kernel_rfl) (by kernel_rfl) (by kernel_rfl) (fun _ _ _ h => h) (Or.inl ⟨by rfl, ?_⟩) (by assumption) ?_
            rotate_left
            · (intro w hSw; (try dsimp only at hSw); go_simp) <;> with_reducible rfl
            simp only [Act.put, List.getElem_toArray, List.getElem_cons_zero, List.getElem_cons_succ, List.setIfInBounds_toArray, List.set_cons_zero, List.set_cons_succ]
            refine wpAnyH_take (i := 3) (v := ?_) rfl (by kernel_rfl) (by kernel_rfl) (by kernel_rfl) (fun _ _ _ h => h) (Or.inl ⟨by rfl, ?_⟩) (by assumption) ?_
            rotate_left
            · (intro w hSw; (try dsimp only at hSw); go_simp) <;> with_reducible rfl
            simp only [Act.put, List.getElem_toArray, List.getElem_cons_zero, List.getElem_cons_succ, List.setIfInBounds_toArray, List.set_cons_zero, List.set_cons_succ]
            refine wpAnyH_take (i := 5) (v := ?_) rfl (by kernel_rfl) (by kernel_rfl) (by kernel_rfl) (fun _ _ _ h => h) (Or.inl ⟨by rfl, ?_⟩) (by assumption) ?_
            rotate_left
            · (intro w hSw; (try dsimp only at hSw); go_simp) <;> with_reducible rfl
            simp only [Act.put, List.getElem_toArray, List.getElem_cons_zero, List.getElem_cons_succ, List.setIfInBounds_toArray, List.set_cons_zero, List.set_cons_succ]
            refine wpAnyH_take (i := 6) (v := ?_) rfl (by kernel_rfl) (by kernel_rfl) (by kernel_rfl) (fun _ _ _ h => h) (Or.inl ⟨by rfl, ?_⟩) (by assumption) ?_
            rotate_left
            · (intro w hSw; (try dsimp only at hSw); go_simp) <;> with_reducible rfl
            simp only [Act.put, List.getElem_toArray, List.getElem_cons_zero, List.getElem_cons_succ, List.setIfInBounds_toArray, List.set_cons_zero, List.set_cons_succ]
            refine wpAnyH_ready (rs := [1]) (by kernel_rfl) (by simp) (AllReadyH.cons rfl (fun K hK => ?_) AllReadyH.nil)
            go_simp
            refine (hUs _ hRef1d).mono ?_
            rintro e w2 ⟨rfl, hb2⟩
            refine hK.out _ _ ⟨(hb2.cell (p := ⟨w.heap.size, 0, none⟩) hDl).trans y0, (hb2.cell (p := ⟨w.heap.size, 1, none⟩) hDl).trans y1, (hb2.cell (p := ⟨w.heap.size, 2, none⟩) hDl).trans y2, (hb2.cell (p := ⟨w.heap.size, 3, none⟩) hDl).trans y3⟩ (fun hHeld => ?_)
            clear hK K
            refine wpAnyH_take (i := 4) (v := ?_) rfl (by kernel_rfl) (by kernel_rfl) (by kernel_rfl) (fun _ _ _ h => h) (Or.inl ⟨by rfl, ?_⟩) (by assumption) ?_
            rotate_left
            · (intro w hSw; (try dsimp only at hSw); go_simp) <;> with_reducible rfl
            simp only [Act.put, List.getElem_toArray, List.getElem_cons_zero, List.getElem_cons_succ, List.setIfInBounds_toArray, List.set_cons_zero, List.set_cons_succ]
            refine wpAnyH_take (i := 7) (v := ?_) rfl (by kernel_rfl) (by kernel_rfl) (by kernel_rfl) (fun _ _ _ h => h) (Or.inl ⟨by rfl, ?_⟩) (by assumption) ?_
            rotate_left
            · (intro w hSw; (try dsimp only at hSw); go_simp) <;> with_reducible rfl
            simp only [Act.put, List.getElem_toArray, List.getElem_cons_zero, List.getElem_cons_succ, List.setIfInBounds_toArray, List.set_cons_zero, List.set_cons_succ]
            refine wpAnyH_take (i := 8) (v := ?_) rfl (by kernel_rfl) (by kernel_rfl) (by kernel_rfl) (fun _ _ _ h => h) (Or.inl ⟨by rfl, ?_⟩) (by assumption) ?_
            rotate_left
            · (intro w hSw; (try dsimp only at hSw); go_simp) <;> with_reducible rfl
            simp only [Act.put, List.getElem_toArray, List.getElem_cons_zero, List.getElem_cons_succ, List.setIfInBounds_toArray, List.set_cons_zero, List.set_cons_succ]
            refine wpAnyH_take (i := 9) (v := ?_) rfl (by kernel_rfl) (by kernel_rfl) (by kernel_rfl) (fun _ _ _ h => h) (Or.inl ⟨by rfl, ?_⟩) (by assumption) ?_
            rotate_left
            · (intro w hSw; (try dsimp only at hSw); go_simp) <;> with_reducible rfl
            simp only [Act.put, List.getElem_toArray, List.getElem_cons_zero, List.getElem_cons_succ, List.setIfInBounds_toArray, List.set_cons_zero, List.set_cons_succ]
            refine wpAnyH_take (i := 10) (v := ?_) rfl (by kernel_rfl) (by kernel_rfl) (by kernel_rfl) (fun _ _ _ h => h) (Or.inl ⟨by rfl, ?_⟩) (by assumption) ?_
            rotate_left
            · (intro w hSw; (try dsimp only at hSw); go_simp) <;> with_reducible rfl
            simp only [Act.put, List.getElem_toArray, List.getElem_cons_zero, List.getElem_cons_succ, List.setIfInBounds_toArray, List.set_cons_zero, List.set_cons_succ]
            refine wpAnyH_take (i := 11) (v := ?_) rfl (by kernel_rfl) (by kernel_rfl) (by kernel_rfl) (fun _ _ _ h => h) (Or.inl ⟨by rfl, ?_⟩) (by assumption) ?_
            rotate_left
            · (intro w hSw; (try dsimp only at hSw); go_simp) <;> with_reducible rfl
            simp only [Act.put, List.getElem_toArray, List.getElem_cons_zero, List.getElem_cons_succ, List.setIfInBounds_toArray, List.set_cons_zero, List.set_cons_succ]
            refine wpAnyH_take (i := 12) (v := ?_) rfl (by kernel_rfl) (by kernel_rfl) (by kernel_rfl) (fun _ _ _ h => h) (Or.inl ⟨by rfl, ?_⟩) (by assumption) ?_
            rotate_left
            · (intro w hSw; (try dsimp only at hSw); go_simp) <;> with_reducible rfl
            simp only [Act.put, List.getElem_toArray, List.getElem_cons_zero, List.getElem_cons_succ, List.setIfInBounds_toArray, List.set_cons_zero, List.set_cons_succ]
            refine wpAnyH_take (i := 13) (v := ?_) rfl (by kernel_rfl) (by kernel_rfl) (by kernel_rfl) (fun _ _ _ h => h) (Or.inl ⟨by rfl, ?_⟩) (by assumption) ?_
            rotate_left
            · (intro w hSw; (try dsimp only at hSw); go_simp) <;> with_reducible rfl
            simp only [Act.put, List.getElem_toArray, List.getElem_cons_zero, List.getElem_cons_succ, List.setIfInBounds_toArray, List.set_cons_zero, List.set_cons_succ]
            refine wpAnyH_take (i := 14) (v := ?_) rfl (by kernel_rfl) (by kernel_rfl) (by kernel_rfl) (fun _ _ _ h => h) (Or.inl ⟨by rfl, ?_⟩) (by assumption) ?_
            rotate_left
            · (intro w hSw; (try dsimp only at hSw); go_simp) <;> with_reducible rfl
            simp only [Act.put, List.getElem_toArray, List.getElem_cons_zero, List.getElem_cons_succ, List.setIfInBounds_toArray, List.set_cons_zero, List.set_cons_succ]
            refine wpAnyH_take (i := 15) (v := ?_) rfl (by kernel_rfl) (by kernel_rfl) (by kernel_rfl) (fun _ _ _ h => h) (Or.inl ⟨by rfl, ?_⟩) (by assumption) ?_
            rotate_left
            · (intro w hSw; (try dsimp only at hSw); go_simp) <;> with_reducible rfl
            simp only [Act.put, List.getElem_toArray, List.getElem_cons_zero, List.getElem_cons_succ, List.setIfInBounds_toArray, List.set_cons_zero, List.set_cons_succ]
            refine wpAnyH_take (i := 16) (v := ?_) rfl (by kernel_rfl) (by kernel_rfl) (by kernel_rfl) (fun _ _ _ h => h) (Or.inl ⟨by rfl, ?_⟩) (by assumption) ?_
            rotate_left
            · (intro w hSw; (try dsimp only at hSw); go_simp) <;> with_reducible rfl
            simp only [Act.put, List.getElem_toArray, List.getElem_cons_zero, List.getElem_cons_succ, List.setIfInBounds_toArray, List.set_cons_zero, List.set_cons_succ]
            refine wpAnyH_take (i := 17) (v := ?_) rfl (by kernel_rfl) (by kernel_rfl) (by kernel_rfl) (fun _ _ _ h => h) (Or.inl ⟨by rfl, ?_⟩) (by assumption) ?_
            rotate_left
            · (intro w hSw; (try dsimp only at hSw); go_simp) <;> with_reducible rfl
            simp only [Act.put, List.getElem_toArray, List.getElem_cons_zero, List.getElem_cons_succ, List.setIfInBounds_toArray, List.set_cons_zero, List.set_cons_succ]
            refine wpAnyH_done (by kernel_rfl) ?_ _
            have hR1' := (hb2.block _ (blk_lt hR1)).trans hR1
            have hbw2 := hbw1.drew.trans (hb2.mono hbw1.size)
            obtain ⟨q0, q1, q2, q3⟩ := hHeld
            have hRB2 := hR1'
            go_wp2_with fail
            have hD2 := (hb2.block _ (blk_lt hD1)).trans hD1
            have hNX := hX
            have hX := alloc_at w2 (.cells #[.string s, .slice none 0 0, .int .i64 0] 82)
            have hbX : Below w2.heap.size w2 (w2.alloc (.cells #[.string s, .slice none 0 0, .int .i64 0] 82)) := (Below.refl _ _).alloc (Nat.le_refl _) _
            have hD6 := (hbX.block _ (blk_lt hD2)).trans hD2
            have hR6 := (hbX.block _ (blk_lt hR1')).trans hR1'
            have hb6 := hbw2.trans (hbX.mono hbw2.size)
            obtain ⟨w6, hw6⟩ : ∃ w6, w2.alloc (.cells #[.string s, .slice none 0 0, .int .i64 0] 82) = w6 := ⟨_, rfl⟩
            rw [hw6] at hX hD6 hR6 hb6 ⊢
            have hrV0 : Rd w6.drew (.slice none 0 0) (bcells ([] : List UInt8)) := Or.inl ⟨Or.inl rfl, rfl⟩
            obtain ⟨a0, L0, c0, hV0, hL0⟩ : ∃ a0 L0 c0, .slice none 0 0 = Value.slice a0 L0 c0 ∧ L0 = (([] : List UInt8)).length := ⟨_, _, _, rfl, by simp⟩
            rw [hV0] at hX hrV0
            have hrB : Rd w6.drew (.slice ab b.length cb) (bcells b) := rd_low hrb hb6.drew
            have hz1 : (⟨(([] : List UInt8)).toArray⟩ : ByteArray).size ≤ 16777216 := by rw [mk_size, ← hL0, hL0]; simp
            have hz2 : (⟨b.toArray⟩ : ByteArray).size ≤ 140737488355328 := by rw [mk_size]; exact hlb
            have hz3 : ((⟨(([] : List UInt8)).toArray⟩ : ByteArray) ++ ⟨b.toArray⟩).size = L0 + b.length := by rw [hL0, mk_app_size]
            have hz4 : ((⟨(([] : List UInt8)).toArray⟩ : ByteArray) ++ ⟨b.toArray⟩).data.toList = ([] : List UInt8) ++ b := mk_app _ _
            obtain ⟨S1, hS1⟩ : ∃ S1 : ByteArray, (⟨(([] : List UInt8)).toArray⟩ : ByteArray) = S1 := ⟨_, rfl⟩
            obtain ⟨S2, hS2⟩ : ∃ S2 : ByteArray, (⟨b.toArray⟩ : ByteArray) = S2 := ⟨_, rfl⟩
            rw [hS1] at hz1 hz3 hz4
            rw [hS2] at hz2 hz3 hz4
            obtain ⟨w7, c7, hcs, hb7, hr7⟩ := conv_bytes w6.drew (S1 ++ S2) (([] : List UInt8) ++ b) (L0 + b.length) hz3 hz4
            have hL0' : L0 ≤ 16777216 := by rw [hL0]; simp
            have Hmx := Lib.hid (show L0 + b.length ≤ maxLen by simp only [maxLen]; omega)
            have hz5 : ¬ 9223372036854775807 < S1.size + S2.size := by omega
            have hwr : IntKind.i64.wrap ((L0 : Int) + (b.length : Int)) = (L0 : Int) + (b.length : Int) := IntWalk.i64_in _ (by omega)
            have hF := fun (w : World) (hr : Rd w (.slice (some ⟨w6.heap.size, 0, none⟩) (L0 + b.length) c7) (bcells (([] : List UInt8) ++ b))) => refFirst_int w s _ (([] : List UInt8) ++ b) ((L0 : Int) + (b.length : Int)) (L0 + b.length) 0 (by omega) hr (by rw [List.length_append, ← hL0]) (by rw [List.length_append, ← hL0]; omega)
            have hRef6d := (h.below hb6).below ((Below.refl w6.heap.size w6).drew)
            have hRB7 : w6.drew.heap[w.heap.size + 1]? = some (.cells #[.int .i64 0, .slice none 0 0, .int .i64 0, .bool false] 29) := hR6
            have h8R := fun o z hz => (no_string hRB7 ⟨_, _, _, rfl⟩ ⟨_, rfl⟩ o z hz).2
            have hnD : ¬ w.heap.size = w.heap.size + 1 := by omega
            have hnX : ¬ w2.heap.size = w.heap.size + 1 := by have := blk_lt hR1'; omega
            have HS1 := Lib.hid hS1
            have HS2 := Lib.hid hS2
            clear hz3 hz4 hS1 hS2 hL0 hV0 hw6 hbX hD2 hR1' q0 q1 q2 q3
            obtain ⟨q0, q1, q2, q3, _⟩ := cells4 hD6
            obtain ⟨f0, f1, f2, _⟩ := cells3 hX
            have hDl6 : w.heap.size < w6.drew.heap.size := blk_lt hD6
            have hXl6 : w2.heap.size < w6.drew.heap.size := blk_lt hX
            refine wp_region_held_drew (S := fun w' => Upd (fun k => k = w.heap.size + 1) w6.drew w') (by kernel_rfl) (Upd.refl _ _) (fun hHeld => ?_)
            refine wpAnyH_take (i := 0) (v := ?_) rfl (by kernel_rfl) (by kernel_rfl) (by kernel_rfl) (fun _ _ _ h => h) (Or.inl ⟨by rfl, ?_⟩) (by assumption) ?_
            rotate_left
            · (intro wz hSz; (try dsimp only at hSz); have qz0 := (hSz.cell hDl6 hnD 0).trans q0; have qz1 := (hSz.cell hDl6 hnD 1).trans q1; have qz2 := (hSz.cell hDl6 hnD 2).trans q2; have qz3 := (hSz.cell hDl6 hnD 3).trans q3; go_simp) <;> with_reducible rfl
            simp only [Act.put, List.getElem_toArray, List.getElem_cons_zero, List.getElem_cons_succ, List.setIfInBounds_toArray, List.set_cons_zero, List.set_cons_succ]
            refine wpAnyH_take (i := 1) (v := ?_) rfl (by kernel_rfl) (by kernel_rfl) (by kernel_rfl) (fun _ _ _ h => h) (Or.inl ⟨by rfl, ?_⟩) (by assumption) ?_
            rotate_left
            · (intro wz hSz; (try dsimp only at hSz); have qz0 := (hSz.cell hDl6 hnD 0).trans q0; have qz1 := (hSz.cell hDl6 hnD 1).trans q1; have qz2 := (hSz.cell hDl6 hnD 2).trans q2; have qz3 := (hSz.cell hDl6 hnD 3).trans q3; go_simp) <;> with_reducible rfl
            simp only [Act.put, List.getElem_toArray, List.getElem_cons_zero, List.getElem_cons_succ, List.setIfInBounds_toArray, List.set_cons_zero, List.set_cons_succ]
            refine wpAnyH_take (i := 2) (v := ?_) rfl (by kernel_rfl) (by kernel_rfl) (by kernel_rfl) (fun _ _ _ h => h) (Or.inl ⟨by rfl, ?_⟩) (by assumption) ?_
            rotate_left
            · (intro wz hSz; (try dsimp only at hSz); go_simp) <;> with_reducible rfl
            simp only [Act.put, List.getElem_toArray, List.getElem_cons_zero, List.getElem_cons_succ, List.setIfInBounds_toArray, List.set_cons_zero, List.set_cons_succ]
            refine wpAnyH_take (i := 3) (v := ?_) rfl (by kernel_rfl) (by kernel_rfl) (by kernel_rfl) (fun _ _ _ h => h) (Or.inl ⟨by rfl, ?_⟩) (by assumption) ?_
            rotate_left
            · (intro wz hSz; (try dsimp only at hSz); go_simp) <;> with_reducible rfl
            simp only [Act.put, List.getElem_toArray, List.getElem_cons_zero, List.getElem_cons_succ, List.setIfInBounds_toArray, List.set_cons_zero, List.set_cons_succ]
            refine wpAnyH_take (i := 4) (v := ?_) rfl (by kernel_rfl) (by kernel_rfl) (by kernel_rfl) (fun _ _ _ h => h) (Or.inl ⟨by rfl, ?_⟩) (by assumption) ?_
            rotate_left
            · (intro wz hSz; (try dsimp only at hSz); have fz1 := (hSz.cell hXl6 hnX 1).trans f1; have fz2 := (hSz.cell hXl6 hnX 2).trans f2; go_simp) <;> with_reducible rfl
            simp only [Act.put, List.getElem_toArray, List.getElem_cons_zero, List.getElem_cons_succ, List.setIfInBounds_toArray, List.set_cons_zero, List.set_cons_succ]
            refine wpAnyH_take (i := 5) (v := ?_) rfl (by kernel_rfl) (by kernel_rfl) (by kernel_rfl) (fun _ _ _ h => h) (Or.inl ⟨by rfl, ?_⟩) (by assumption) ?_
            rotate_left
            · (intro wz hSz; (try dsimp only at hSz); have hcz := run_bytes_str (P := Tryz.prog) (Rd.apart8 hrV0 h8R hSz) Tryz.underlying33 Tryz.underlying5 Tryz.underlying9; rw [HS1.out] at hcz; go_simp) <;> with_reducible rfl
            simp only [Act.put, List.getElem_toArray, List.getElem_cons_zero, List.getElem_cons_succ, List.setIfInBounds_toArray, List.set_cons_zero, List.set_cons_succ]
            refine wpAnyH_take (i := 6) (v := ?_) rfl (by kernel_rfl) (by kernel_rfl) (by kernel_rfl) (fun _ _ _ h => h) (Or.inl ⟨by rfl, ?_⟩) (by assumption) ?_
            rotate_left
            · (intro wz hSz; (try dsimp only at hSz); go_simp) <;> with_reducible rfl
            simp only [Act.put, List.getElem_toArray, List.getElem_cons_zero, List.getElem_cons_succ, List.setIfInBounds_toArray, List.set_cons_zero, List.set_cons_succ]
            refine wpAnyH_take (i := 7) (v := ?_) rfl (by kernel_rfl) (by kernel_rfl) (by kernel_rfl) (fun _ _ _ h => h) (Or.inl ⟨by rfl, ?_⟩) (by assumption) ?_
            rotate_left
            · (intro wz hSz; (try dsimp only at hSz); have hcz := run_bytes_str (P := Tryz.prog) (Rd.apart8 hrB h8R hSz) Tryz.underlying33 Tryz.underlying5 Tryz.underlying9; rw [HS2.out] at hcz; go_simp) <;> with_reducible rfl
            simp only [Act.put, List.getElem_toArray, List.getElem_cons_zero, List.getElem_cons_succ, List.setIfInBounds_toArray, List.set_cons_zero, List.set_cons_succ]
            refine wpAnyH_take (i := 8) (v := ?_) rfl (by kernel_rfl) (by kernel_rfl) (by kernel_rfl) (fun _ _ _ h => h) (Or.inl ⟨by rfl, ?_⟩) (by assumption) ?_
            rotate_left
            · (intro wz hSz; (try dsimp only at hSz); go_simp) <;> with_reducible rfl
            simp only [Act.put, List.getElem_toArray, List.getElem_cons_zero, List.getElem_cons_succ, List.setIfInBounds_toArray, List.set_cons_zero, List.set_cons_succ]
            refine wpAnyH_take (i := 10) (v := ?_) rfl (by kernel_rfl) (by kernel_rfl) (by kernel_rfl) (fun _ _ _ h => h) (Or.inl ⟨by rfl, ?_⟩) (by assumption) ?_
            rotate_left
            · (intro wz hSz; (try dsimp only at hSz); go_simp) <;> with_reducible rfl
            simp only [Act.put, List.getElem_toArray, List.getElem_cons_zero, List.getElem_cons_succ, List.setIfInBounds_toArray, List.set_cons_zero, List.set_cons_succ]
            refine wpAnyH_take (i := 11) (v := ?_) rfl (by kernel_rfl) (by kernel_rfl) (by kernel_rfl) (fun _ _ _ h => h) (Or.inl ⟨by rfl, ?_⟩) (by assumption) ?_
            rotate_left
            · (intro wz hSz; (try dsimp only at hSz); have fz1 := (hSz.cell hXl6 hnX 1).trans f1; have fz2 := (hSz.cell hXl6 hnX 2).trans f2; go_simp) <;> with_reducible rfl
            simp only [Act.put, List.getElem_toArray, List.getElem_cons_zero, List.getElem_cons_succ, List.setIfInBounds_toArray, List.set_cons_zero, List.set_cons_succ]
            refine wpAnyH_take (i := 12) (v := ?_) rfl (by kernel_rfl) (by kernel_rfl) (by kernel_rfl) (fun _ _ _ h => h) (Or.inl ⟨by rfl, ?_⟩) (by assumption) ?_
            rotate_left
            · (intro wz hSz; (try dsimp only at hSz); go_simp) <;> with_reducible rfl
            simp only [Act.put, List.getElem_toArray, List.getElem_cons_zero, List.getElem_cons_succ, List.setIfInBounds_toArray, List.set_cons_zero, List.set_cons_succ]
            refine wpAnyH_take (i := 13) (v := ?_) rfl (by kernel_rfl) (by kernel_rfl) (by kernel_rfl) (fun _ _ _ h => h) (Or.inl ⟨by rfl, ?_⟩) (by assumption) ?_
            rotate_left
            · (intro wz hSz; (try dsimp only at hSz); go_simp) <;> with_reducible rfl
            simp only [Act.put, List.getElem_toArray, List.getElem_cons_zero, List.getElem_cons_succ, List.setIfInBounds_toArray, List.set_cons_zero, List.set_cons_succ]
            refine wpAnyH_take (i := 14) (v := ?_) rfl (by kernel_rfl) (by kernel_rfl) (by kernel_rfl) (fun _ _ _ h => h) (Or.inl ⟨by rfl, ?_⟩) (by assumption) ?_
            rotate_left
            · (intro wz hSz; (try dsimp only at hSz); go_simp) <;> with_reducible rfl
            simp only [Act.put, List.getElem_toArray, List.getElem_cons_zero, List.getElem_cons_succ, List.setIfInBounds_toArray, List.set_cons_zero, List.set_cons_succ]
            refine wpAnyH_take (i := 15) (v := ?_) rfl (by kernel_rfl) (by kernel_rfl) (by kernel_rfl) (fun _ _ _ h => h) (Or.inl ⟨by rfl, ?_⟩) (by assumption) ?_
            rotate_left
            · (intro wz hSz; (try dsimp only at hSz); go_simp) <;> with_reducible rfl
            simp only [Act.put, List.getElem_toArray, List.getElem_cons_zero, List.getElem_cons_succ, List.setIfInBounds_toArray, List.set_cons_zero, List.set_cons_succ]
            refine wpAnyH_take (i := 16) (v := ?_) rfl (by kernel_rfl) (by kernel_rfl) (by kernel_rfl) (fun _ _ _ h => h) (Or.inl ⟨by rfl, ?_⟩) (by assumption) ?_
            rotate_left
            · (intro wz hSz; (try dsimp only at hSz); go_simp) <;> with_reducible rfl
            simp only [Act.put, List.getElem_toArray, List.getElem_cons_zero, List.getElem_cons_succ, List.setIfInBounds_toArray, List.set_cons_zero, List.set_cons_succ]
            refine wpAnyH_take (i := 17) (v := ?_) rfl (by kernel_rfl) (by kernel_rfl) (by kernel_rfl) (fun _ _ _ h => h) (Or.inl ⟨by rfl, ?_⟩) (by assumption) ?_
            rotate_left
            · (intro wz hSz; (try dsimp only at hSz); have fz1 := (hSz.cell hXl6 hnX 1).trans f1; have fz2 := (hSz.cell hXl6 hnX 2).trans f2; go_simp) <;> with_reducible rfl
            simp only [Act.put, List.getElem_toArray, List.getElem_cons_zero, List.getElem_cons_succ, List.setIfInBounds_toArray, List.set_cons_zero, List.set_cons_succ]
            refine wpAnyH_ready (rs := [9]) (by kernel_rfl) (by simp) (AllReadyH.cons rfl (fun K hK => ?_) AllReadyH.nil)
            go_simp
            refine hK.out _ _ (Upd.ofBelow hb7) (fun hHeld => ?_)
            clear hK K
            refine wpAnyH_ready (rs := [18]) (by kernel_rfl) (by simp) (AllReadyH.cons rfl (fun K hK => ?_) AllReadyH.nil)
            go_simp
            refine (hF _ hr7).mono ?_
            rintro e w8 ⟨v8, rfl, hr8, hb8, ha8, _⟩
            have hb78 := hb7.trans (hb8.mono hb7.size)
            have hv8 : InX X (Value.slice (some ⟨v8, 0, none⟩) (L0 + b.length) (L0 + b.length)) ((([] : List UInt8) ++ b).take (([] : List UInt8) ++ b).length) := ⟨fun _ g hg => by cases hg; exact ((hNX.below hb6.drew).below hb7) _ ha8, _, _, _, rfl, Nat.le_refl _, Hmx.out⟩
            refine hK.out _ _ (Upd.ofBelow hb78) (fun hHeld => ?_)
            clear hK K
            refine wpAnyH_ready (rs := [19]) (by kernel_rfl) (by simp) (AllReadyH.cons rfl (fun K hK => ?_) AllReadyH.nil)
            go_simp
            refine (hP _ (hRef6d.below hb78) ((hNX.below hb6.drew).below hb78) _ hr8 hv8).mono ?_
            rintro e w9 ⟨a9, n9, c9, rfl, hR9, hb9⟩
            have hb79 := hb78.trans (hb9.mono hb78.size)
            refine hK.out _ _ (Upd.ofBelow hb79) (fun hHeld => ?_)
            clear hK K
            refine wpAnyH_ready (rs := [20]) (by kernel_rfl) (by simp) (AllReadyH.cons rfl (fun K hK => ?_) AllReadyH.nil)
            go_simp
            refine (hS _ (hRef6d.below hb79) _ _ _ hR9).mono ?_
            rintro e w10 ⟨a3, n3, c3, rfl, hR10, hb10⟩
            have hb710 := hb79.trans (hb10.mono hb79.size)
            have hRB10 := (hb710.block _ (blk_lt hRB7)).trans hRB7
            obtain ⟨z0, z1, z2, z3, z4, z5, z6, z7⟩ := cells4 hRB10
            refine hK.out _ _ (Upd.ofBelow hb710) (fun hHeld => ?_)
            clear hK K
            refine wpAnyH_take (i := 21) (v := ?_) rfl (by kernel_rfl) (by kernel_rfl) (by kernel_rfl) (fun _ _ _ h => h) (Or.inl ⟨by rfl, ?_⟩) (by assumption) ?_
            rotate_left
            · (intro wz hSz; (try dsimp only at hSz); go_simp) <;> with_reducible rfl
            simp only [Act.put, List.getElem_toArray, List.getElem_cons_zero, List.getElem_cons_succ, List.setIfInBounds_toArray, List.set_cons_zero, List.set_cons_succ]
            refine wpAnyH_take (i := 22) (v := ?_) rfl (by kernel_rfl) (by kernel_rfl) (by kernel_rfl) (fun _ _ _ h => h) (Or.inl ⟨by rfl, ?_⟩) (by assumption) ?_
            rotate_left
            · (intro wz hSz; (try dsimp only at hSz); go_simp) <;> with_reducible rfl
            simp only [Act.put, List.getElem_toArray, List.getElem_cons_zero, List.getElem_cons_succ, List.setIfInBounds_toArray, List.set_cons_zero, List.set_cons_succ]
            refine wpAnyH_ready (rs := [23]) (by kernel_rfl) (by simp) (AllReadyH.cons rfl (fun K hK => ?_) AllReadyH.nil)
            go_simp
            refine hK.out _ _ (((((Upd.ofBelow (fp := fun k => k = w.heap.size + 1) hb710).setCell (p := ⟨w.heap.size + 1, 0, none⟩) (Or.inl rfl) _).setCell (p := ⟨w.heap.size + 1, 1, none⟩) (Or.inl rfl) _).setCell (p := ⟨w.heap.size + 1, 2, none⟩) (Or.inl rfl) _).setCell (p := ⟨w.heap.size + 1, 3, none⟩) (Or.inl rfl) _) (fun hHeld => ?_)
            clear hK K
            refine wpAnyH_take (i := 24) (v := ?_) rfl (by kernel_rfl) (by kernel_rfl) (by kernel_rfl) (fun _ _ _ h => h) (Or.inl ⟨by rfl, ?_⟩) (by assumption) ?_
            rotate_left
            · (intro wz hSz; (try dsimp only at hSz); go_simp) <;> with_reducible rfl
            simp only [Act.put, List.getElem_toArray, List.getElem_cons_zero, List.getElem_cons_succ, List.setIfInBounds_toArray, List.set_cons_zero, List.set_cons_succ]
            refine wpAnyH_done (by kernel_rfl) ?_ _
            have hbw10 := hb6.drew.trans (hb710.mono hb6.size)
            go_wp2
            obtain ⟨p1, p2⟩ := ref_answer hR10 hRB10 hbw10 (by omega) (.int .i64 dd.most) (.slice a3 n3 c3) (.int .i64 dd.left) (.bool dd.down)
            exact bodyPost_ret (v := .tuple #[.agg #[.int .i64 dd.most, .slice a3 n3 c3, .int .i64 dd.left, .bool dd.down], .int .i64 d.err]) (by simp [results, Tryz.results16, go_sem, z0, z1, z2, z3]) rfl ⟨_, _, _, rfl, p1, p2⟩
        | some f =>
          obtain ⟨k, hk, hpl, hkn, hkf⟩ := place_some hw.sorted hl
          obtain ⟨bq, off, vf, rfl, c0, c1, c2, hrd⟩ := h.at k hk
          have hkn' : k < n := by have := Hnl.out; omega
          rw [hkn] at c0
          rw [hkf] at c2 hrd
          rw [hpl] at hA
          have hbw := cell_lt c0
          have hbne : ¬ bq = w.heap.size + 1 := by omega
          have hbne2 : ¬ w.heap.size + 1 = bq := by omega
          have e0 := fun {w1 : World} (hb1 : Below w.heap.size w w1) => (hb1.cell (p := ⟨bq, off + k * 3, none⟩) (cell_lt c0)).trans c0
          have e1 := fun {w1 : World} (hb1 : Below w.heap.size w w1) => (hb1.cell (p := ⟨bq, off + k * 3 + 1, none⟩) (cell_lt c1)).trans c1
          have e2 := fun {w1 : World} (hb1 : Below w.heap.size w w1) => (hb1.cell (p := ⟨bq, off + k * 3 + 2, none⟩) (cell_lt c2)).trans c2
          obtain ⟨av, cv, rfl⟩ := hrd.shape
          rw [bcells_length, List.length_append] at hrd e1
          have Hcl : Hid (∀ {w1 : World}, Below w.heap.size w w1 → w1.cell? ⟨bq, off + k * 3, none⟩ = some (.string s) ∧ w1.cell? ⟨bq, off + k * 3 + 1, none⟩ = some (.slice av (f.firm.length + f.loose.length) cv) ∧ w1.cell? ⟨bq, off + k * 3 + 2, none⟩ = some (.int .i64 (f.firm.length : Nat))) := Lib.hid (fun hb => ⟨e0 hb, e1 hb, e2 hb⟩)
          have hfl : f.firm.length + f.loose.length ≤ 16777216 := by
            have h1 := lk_len_le hl
            have h2 := hw.used
            have h3 := hw.most1
            unfold AFile.len at h1
            omega
          have h1 : d.append s b = d.thenF (putF d.fs s ⟨f.firm, f.loose ++ b⟩) := by unfold ADisk.append; rw [hd, hok, if_neg hfull, hl, if_neg (show ¬ ((some f).isNone = true ∧ 200 ≤ d.fs.length) from fun hh => by cases hh.1)]; unfold afile; rw [hl]; rfl
          have h2 : d.appendErr s b = d.err := by unfold ADisk.appendErr; rw [hd, hok, if_neg hfull, hl, if_neg (show ¬ ((some f).isNone = true ∧ 200 ≤ d.fs.length) from fun hh => by cases hh.1)]; rfl
          rw [h1, h2]
          have hi0 : ¬ (k : Int) < 0 := by omega
          have hfd : decide (d.most < (usedF d.fs : Int) + (b.length : Int)) = false := decide_eq_false hfull
          have hk0 : decide ((k : Int) < 0) = false := decide_eq_false hi0
          have hS := fun (w : World) (h : RefAt X w (some ⟨bq, off, none⟩) n c d) (a' n' c' h') => refStep_then w (some ⟨bq, off, none⟩) n c d a' n' c' (putF d.fs s ⟨f.firm, f.loose ++ b⟩) h h' hw hd
          have hP := fun (w : World) (h : RefAt X w (some ⟨bq, off, none⟩) n c d) (hX : NewOk X w) (vf : Value) (hf : Rd w vf (bcells ((f.firm ++ f.loose ++ b).take (f.firm ++ f.loose ++ b).length))) (hfX : InX X vf (((f.firm ++ f.loose ++ b).take (f.firm ++ f.loose ++ b).length))) => refPut_as w (some ⟨bq, off, none⟩) n c d s vf ⟨f.firm, f.loose ++ b⟩ (f.firm.length : Int) ((f.firm ++ f.loose ++ b).take (f.firm ++ f.loose ++ b).length) false (by simp) (by rw [List.take_length, List.append_assoc]) h hw hX hf hfX
          simp only [if_false, Bool.false_eq_true] at hP
          obtain ⟨dd, hdd⟩ : ∃ dd, d.thenF (putF d.fs s ⟨f.firm, f.loose ++ b⟩) = dd := ⟨_, rfl⟩
          simp only [hdd] at hS ⊢
          clear hdd hd
          clear h1 h2 hok hl hpl e0 e1 e2 c0 c1 c2 hkn hkf
          unfold refVal at hA hUs hS hP ⊢
          go_enter Tryz.func16, Tryz.ntmps16
          go_wp2_with fail
          rw [HW.out]
          refine (hA _ hRW).mono ?_
          rintro e w1 ⟨rfl, hb1⟩
          have hD1 := (hb1.block _ (blk_lt hD)).trans hD
          have hR1 := (hb1.block _ (blk_lt hR)).trans hR
          have hbw1 : Below w.heap.size w w1 := hbW.trans (hb1.mono hbW.size)
          obtain ⟨y0, y1, y2, y3, y4, y5, y6, y7⟩ := cells4 hD1
          have hRef1 := h.below hbw1
          have hDl := blk_lt hD1
          dsimp only
          go_wp2_with fail
          refine (hT _).mono ?_
          rintro e w2 ⟨rfl, rfl⟩
          dsimp only
          have hRef1d := hRef1.below ((Below.refl w1.heap.size w1).drew)
          clear x0 x1 x2 x3 hRW
          go_wp2_with fail
          refine wp_region_held_drew (S := fun w' => w'.cell? ⟨w.heap.size, 0, none⟩ = some (.int .i64 d.most) ∧ w'.cell? ⟨w.heap.size, 1, none⟩ = some (.slice (some ⟨bq, off, none⟩) n c) ∧ w'.cell? ⟨w.heap.size, 2, none⟩ = some (.int .i64 d.left) ∧ w'.cell? ⟨w.heap.size, 3, none⟩ = some (.bool d.down)) (by kernel_rfl) ⟨y0, y1, y2, y3⟩ (fun hHeld => ?_)
          refine wpAnyH_take (i := 0) (v := ?_) rfl (by kernel_rfl) (by kernel_rfl) (by kernel_rfl) (fun _ _ _ h => h) (Or.inl ⟨by rfl, ?_⟩) (by assumption) ?_
          rotate_left
          · (intro w hSw; (try dsimp only at hSw); go_simp) <;> with_reducible rfl
          simp only [Act.put, List.getElem_toArray, List.getElem_cons_zero, List.getElem_cons_succ, List.setIfInBounds_toArray, List.set_cons_zero, List.set_cons_succ]
          refine wpAnyH_take (i := 2) (v := ?_) rfl (by kernel_rfl) (by kernel_rfl) (by kernel_rfl) (fun _ _ _ h => h) (Or.inl ⟨by rfl, ?_⟩) (by assumption) ?_
          rotate_left
          · (intro w hSw; (try dsimp only at hSw); go_simp) <;> with_reducible rfl
          simp only [Act.put, List.getElem_toArray, List.getElem_cons_zero, List.getElem_cons_succ, List.setIfInBounds_toArray, List.set_cons_zero, List.set_cons_succ]
          refine wpAnyH_take (i := 3) (v := ?_) rfl (by kernel_rfl) (by kernel_rfl) (by kernel_rfl) (fun _ _ _ h => h) (Or.inl ⟨by rfl, ?_⟩) (by assumption) ?_
          rotate_left
          · (intro w hSw; (try dsimp only at hSw); go_simp) <;> with_reducible rfl
          simp only [Act.put, List.getElem_toArray, List.getElem_cons_zero, List.getElem_cons_succ, List.setIfInBounds_toArray, List.set_cons_zero, List.set_cons_succ]
          refine wpAnyH_take (i := 5) (v := ?_) rfl (by kernel_rfl) (by kernel_rfl) (by kernel_rfl) (fun _ _ _ h => h) (Or.inl ⟨by rfl, ?_⟩) (by assumption) ?_
          rotate_left
          · (intro w hSw; (try dsimp only at hSw); go_simp) <;> with_reducible rfl
          simp only [Act.put, List.getElem_toArray, List.getElem_cons_zero, List.getElem_cons_succ, List.setIfInBounds_toArray, List.set_cons_zero, List.set_cons_succ]
          refine wpAnyH_take (i := 6) (v := ?_) rfl (by kernel_rfl) (by kernel_rfl) (by kernel_rfl) (fun _ _ _ h => h) (Or.inl ⟨by rfl, ?_⟩) (by assumption) ?_
          rotate_left
          · (intro w hSw; (try dsimp only at hSw); go_simp) <;> with_reducible rfl
          simp only [Act.put, List.getElem_toArray, List.getElem_cons_zero, List.getElem_cons_succ, List.setIfInBounds_toArray, List.set_cons_zero, List.set_cons_succ]
          refine wpAnyH_ready (rs := [1]) (by kernel_rfl) (by simp) (AllReadyH.cons rfl (fun K hK => ?_) AllReadyH.nil)
          go_simp
          refine (hUs _ hRef1d).mono ?_
          rintro e w2 ⟨rfl, hb2⟩
          refine hK.out _ _ ⟨(hb2.cell (p := ⟨w.heap.size, 0, none⟩) hDl).trans y0, (hb2.cell (p := ⟨w.heap.size, 1, none⟩) hDl).trans y1, (hb2.cell (p := ⟨w.heap.size, 2, none⟩) hDl).trans y2, (hb2.cell (p := ⟨w.heap.size, 3, none⟩) hDl).trans y3⟩ (fun hHeld => ?_)
          clear hK K
          refine wpAnyH_take (i := 4) (v := ?_) rfl (by kernel_rfl) (by kernel_rfl) (by kernel_rfl) (fun _ _ _ h => h) (Or.inl ⟨by rfl, ?_⟩) (by assumption) ?_
          rotate_left
          · (intro w hSw; (try dsimp only at hSw); go_simp) <;> with_reducible rfl
          simp only [Act.put, List.getElem_toArray, List.getElem_cons_zero, List.getElem_cons_succ, List.setIfInBounds_toArray, List.set_cons_zero, List.set_cons_succ]
          refine wpAnyH_take (i := 7) (v := ?_) rfl (by kernel_rfl) (by kernel_rfl) (by kernel_rfl) (fun _ _ _ h => h) (Or.inl ⟨by rfl, ?_⟩) (by assumption) ?_
          rotate_left
          · (intro w hSw; (try dsimp only at hSw); go_simp) <;> with_reducible rfl
          simp only [Act.put, List.getElem_toArray, List.getElem_cons_zero, List.getElem_cons_succ, List.setIfInBounds_toArray, List.set_cons_zero, List.set_cons_succ]
          refine wpAnyH_take (i := 8) (v := ?_) rfl (by kernel_rfl) (by kernel_rfl) (by kernel_rfl) (fun _ _ _ h => h) (Or.inl ⟨by rfl, ?_⟩) (by assumption) ?_
          rotate_left
          · (intro w hSw; (try dsimp only at hSw); go_simp) <;> with_reducible rfl
          simp only [Act.put, List.getElem_toArray, List.getElem_cons_zero, List.getElem_cons_succ, List.setIfInBounds_toArray, List.set_cons_zero, List.set_cons_succ]
          refine wpAnyH_take (i := 9) (v := ?_) rfl (by kernel_rfl) (by kernel_rfl) (by kernel_rfl) (fun _ _ _ h => h) (Or.inl ⟨by rfl, ?_⟩) (by assumption) ?_
          rotate_left
          · (intro w hSw; (try dsimp only at hSw); go_simp) <;> with_reducible rfl
          simp only [Act.put, List.getElem_toArray, List.getElem_cons_zero, List.getElem_cons_succ, List.setIfInBounds_toArray, List.set_cons_zero, List.set_cons_succ]
          refine wpAnyH_take (i := 10) (v := ?_) rfl (by kernel_rfl) (by kernel_rfl) (by kernel_rfl) (fun _ _ _ h => h) (Or.inl ⟨by rfl, ?_⟩) (by assumption) ?_
          rotate_left
          · (intro w hSw; (try dsimp only at hSw); go_simp) <;> with_reducible rfl
          simp only [Act.put, List.getElem_toArray, List.getElem_cons_zero, List.getElem_cons_succ, List.setIfInBounds_toArray, List.set_cons_zero, List.set_cons_succ]
          refine wpAnyH_take (i := 11) (v := ?_) rfl (by kernel_rfl) (by kernel_rfl) (by kernel_rfl) (fun _ _ _ h => h) (Or.inl ⟨by rfl, ?_⟩) (by assumption) ?_
          rotate_left
          · (intro w hSw; (try dsimp only at hSw); go_simp) <;> with_reducible rfl
          simp only [Act.put, List.getElem_toArray, List.getElem_cons_zero, List.getElem_cons_succ, List.setIfInBounds_toArray, List.set_cons_zero, List.set_cons_succ]
          refine wpAnyH_take (i := 12) (v := undef) rfl (by kernel_rfl) (by kernel_rfl) (by kernel_rfl) (fun _ _ _ h => h) (Or.inr ⟨by rfl, rfl⟩) (by assumption) ?_
          simp only [Act.put, List.getElem_toArray, List.getElem_cons_zero, List.getElem_cons_succ, List.setIfInBounds_toArray, List.set_cons_zero, List.set_cons_succ]
          refine wpAnyH_take (i := 13) (v := undef) rfl (by kernel_rfl) (by kernel_rfl) (by kernel_rfl) (fun _ _ _ h => h) (Or.inr ⟨by rfl, rfl⟩) (by assumption) ?_
          simp only [Act.put, List.getElem_toArray, List.getElem_cons_zero, List.getElem_cons_succ, List.setIfInBounds_toArray, List.set_cons_zero, List.set_cons_succ]
          refine wpAnyH_take (i := 14) (v := undef) rfl (by kernel_rfl) (by kernel_rfl) (by kernel_rfl) (fun _ _ _ h => h) (Or.inr ⟨by rfl, rfl⟩) (by assumption) ?_
          simp only [Act.put, List.getElem_toArray, List.getElem_cons_zero, List.getElem_cons_succ, List.setIfInBounds_toArray, List.set_cons_zero, List.set_cons_succ]
          refine wpAnyH_take (i := 15) (v := undef) rfl (by kernel_rfl) (by kernel_rfl) (by kernel_rfl) (fun _ _ _ h => h) (Or.inr ⟨by rfl, rfl⟩) (by assumption) ?_
          simp only [Act.put, List.getElem_toArray, List.getElem_cons_zero, List.getElem_cons_succ, List.setIfInBounds_toArray, List.set_cons_zero, List.set_cons_succ]
          refine wpAnyH_take (i := 16) (v := ?_) rfl (by kernel_rfl) (by kernel_rfl) (by kernel_rfl) (fun _ _ _ h => h) (Or.inl ⟨by rfl, ?_⟩) (by assumption) ?_
          rotate_left
          · (intro w hSw; (try dsimp only at hSw); go_simp) <;> with_reducible rfl
          simp only [Act.put, List.getElem_toArray, List.getElem_cons_zero, List.getElem_cons_succ, List.setIfInBounds_toArray, List.set_cons_zero, List.set_cons_succ]
          refine wpAnyH_take (i := 17) (v := ?_) rfl (by kernel_rfl) (by kernel_rfl) (by kernel_rfl) (fun _ _ _ h => h) (Or.inl ⟨by rfl, ?_⟩) (by assumption) ?_
          rotate_left
          · (intro w hSw; (try dsimp only at hSw); go_simp) <;> with_reducible rfl
          simp only [Act.put, List.getElem_toArray, List.getElem_cons_zero, List.getElem_cons_succ, List.setIfInBounds_toArray, List.set_cons_zero, List.set_cons_succ]
          refine wpAnyH_done (by kernel_rfl) ?_ _
          have hR1' := (hb2.block _ (blk_lt hR1)).trans hR1
          have hbw2 := hbw1.drew.trans (hb2.mono hbw1.size)
          obtain ⟨q0, q1, q2, q3⟩ := hHeld
          obtain ⟨c0, c1, c2⟩ := Hcl.out hbw2
          have hl2 := cell_lt q0
          have hl3 := cell_lt c0
          have hRB2 := hR1'
          go_wp2_with fail
          have hD2 := (hb2.block _ (blk_lt hD1)).trans hD1
          have hNX := hX
          have hX := alloc_at w2 (.cells #[.string s, .slice av (f.firm.length + f.loose.length) cv, .int .i64 (f.firm.length : Nat)] 82)
          have hbX : Below w2.heap.size w2 (w2.alloc (.cells #[.string s, .slice av (f.firm.length + f.loose.length) cv, .int .i64 (f.firm.length : Nat)] 82)) := (Below.refl _ _).alloc (Nat.le_refl _) _
          have hD6 := (hbX.block _ (blk_lt hD2)).trans hD2
          have hR6 := (hbX.block _ (blk_lt hR1')).trans hR1'
          have hb6 := hbw2.trans (hbX.mono hbw2.size)
          obtain ⟨w6, hw6⟩ : ∃ w6, w2.alloc (.cells #[.string s, .slice av (f.firm.length + f.loose.length) cv, .int .i64 (f.firm.length : Nat)] 82) = w6 := ⟨_, rfl⟩
          rw [hw6] at hX hD6 hR6 hb6 ⊢
          have hrV0 : Rd w6.drew (.slice av (f.firm.length + f.loose.length) cv) (bcells (f.firm ++ f.loose)) := rd_low hrd hb6.drew
          obtain ⟨a0, L0, c0, hV0, hL0⟩ : ∃ a0 L0 c0, .slice av (f.firm.length + f.loose.length) cv = Value.slice a0 L0 c0 ∧ L0 = ((f.firm ++ f.loose)).length := ⟨_, _, _, rfl, by simp⟩
          rw [hV0] at hX hrV0
          have hrB : Rd w6.drew (.slice ab b.length cb) (bcells b) := rd_low hrb hb6.drew
          have hz1 : (⟨((f.firm ++ f.loose)).toArray⟩ : ByteArray).size ≤ 16777216 := by rw [mk_size, ← hL0, hL0]; simp; omega
          have hz2 : (⟨b.toArray⟩ : ByteArray).size ≤ 140737488355328 := by rw [mk_size]; exact hlb
          have hz3 : ((⟨((f.firm ++ f.loose)).toArray⟩ : ByteArray) ++ ⟨b.toArray⟩).size = L0 + b.length := by rw [hL0, mk_app_size]
          have hz4 : ((⟨((f.firm ++ f.loose)).toArray⟩ : ByteArray) ++ ⟨b.toArray⟩).data.toList = (f.firm ++ f.loose) ++ b := mk_app _ _
          obtain ⟨S1, hS1⟩ : ∃ S1 : ByteArray, (⟨((f.firm ++ f.loose)).toArray⟩ : ByteArray) = S1 := ⟨_, rfl⟩
          obtain ⟨S2, hS2⟩ : ∃ S2 : ByteArray, (⟨b.toArray⟩ : ByteArray) = S2 := ⟨_, rfl⟩
          rw [hS1] at hz1 hz3 hz4
          rw [hS2] at hz2 hz3 hz4
          obtain ⟨w7, c7, hcs, hb7, hr7⟩ := conv_bytes w6.drew (S1 ++ S2) ((f.firm ++ f.loose) ++ b) (L0 + b.length) hz3 hz4
          have hL0' : L0 ≤ 16777216 := by rw [hL0]; simp; omega
          have Hmx := Lib.hid (show L0 + b.length ≤ maxLen by simp only [maxLen]; omega)
          have hz5 : ¬ 9223372036854775807 < S1.size + S2.size := by omega
          have hwr : IntKind.i64.wrap ((L0 : Int) + (b.length : Int)) = (L0 : Int) + (b.length : Int) := IntWalk.i64_in _ (by omega)
          have hF := fun (w : World) (hr : Rd w (.slice (some ⟨w6.heap.size, 0, none⟩) (L0 + b.length) c7) (bcells ((f.firm ++ f.loose) ++ b))) => refFirst_int w s _ ((f.firm ++ f.loose) ++ b) ((L0 : Int) + (b.length : Int)) (L0 + b.length) (f.firm.length : Nat) (by omega) hr (by rw [List.length_append, ← hL0]) (by rw [List.length_append, ← hL0]; omega)
          have hRef6d := (h.below hb6).below ((Below.refl w6.heap.size w6).drew)
          have hRB7 : w6.drew.heap[w.heap.size + 1]? = some (.cells #[.int .i64 0, .slice none 0 0, .int .i64 0, .bool false] 29) := hR6
          have h8R := fun o z hz => (no_string hRB7 ⟨_, _, _, rfl⟩ ⟨_, rfl⟩ o z hz).2
          have hnD : ¬ w.heap.size = w.heap.size + 1 := by omega
          have hnX : ¬ w2.heap.size = w.heap.size + 1 := by have := blk_lt hR1'; omega
          have HS1 := Lib.hid hS1
          have HS2 := Lib.hid hS2
          clear hz3 hz4 hS1 hS2 hL0 hV0 hw6 hbX hD2 hR1' q0 q1 q2 q3
          obtain ⟨q0, q1, q2, q3, _⟩ := cells4 hD6
          obtain ⟨f0, f1, f2, _⟩ := cells3 hX
          have hDl6 : w.heap.size < w6.drew.heap.size := blk_lt hD6
          have hXl6 : w2.heap.size < w6.drew.heap.size := blk_lt hX
          refine wp_region_held_drew (S := fun w' => Upd (fun k => k = w.heap.size + 1) w6.drew w') (by kernel_rfl) (Upd.refl _ _) (fun hHeld => ?_)
          refine wpAnyH_take (i := 0) (v := ?_) rfl (by kernel_rfl) (by kernel_rfl) (by kernel_rfl) (fun _ _ _ h => h) (Or.inl ⟨by rfl, ?_⟩) (by assumption) ?_
          rotate_left
          · (intro wz hSz; (try dsimp only at hSz); have qz0 := (hSz.cell hDl6 hnD 0).trans q0; have qz1 := (hSz.cell hDl6 hnD 1).trans q1; have qz2 := (hSz.cell hDl6 hnD 2).trans q2; have qz3 := (hSz.cell hDl6 hnD 3).trans q3; go_simp) <;> with_reducible rfl
          simp only [Act.put, List.getElem_toArray, List.getElem_cons_zero, List.getElem_cons_succ, List.setIfInBounds_toArray, List.set_cons_zero, List.set_cons_succ]
          refine wpAnyH_take (i := 1) (v := ?_) rfl (by kernel_rfl) (by kernel_rfl) (by kernel_rfl) (fun _ _ _ h => h) (Or.inl ⟨by rfl, ?_⟩) (by assumption) ?_
          rotate_left
          · (intro wz hSz; (try dsimp only at hSz); have qz0 := (hSz.cell hDl6 hnD 0).trans q0; have qz1 := (hSz.cell hDl6 hnD 1).trans q1; have qz2 := (hSz.cell hDl6 hnD 2).trans q2; have qz3 := (hSz.cell hDl6 hnD 3).trans q3; go_simp) <;> with_reducible rfl
          simp only [Act.put, List.getElem_toArray, List.getElem_cons_zero, List.getElem_cons_succ, List.setIfInBounds_toArray, List.set_cons_zero, List.set_cons_succ]
          refine wpAnyH_take (i := 2) (v := ?_) rfl (by kernel_rfl) (by kernel_rfl) (by kernel_rfl) (fun _ _ _ h => h) (Or.inl ⟨by rfl, ?_⟩) (by assumption) ?_
          rotate_left
          · (intro wz hSz; (try dsimp only at hSz); go_simp) <;> with_reducible rfl
          simp only [Act.put, List.getElem_toArray, List.getElem_cons_zero, List.getElem_cons_succ, List.setIfInBounds_toArray, List.set_cons_zero, List.set_cons_succ]
          refine wpAnyH_take (i := 3) (v := ?_) rfl (by kernel_rfl) (by kernel_rfl) (by kernel_rfl) (fun _ _ _ h => h) (Or.inl ⟨by rfl, ?_⟩) (by assumption) ?_
          rotate_left
          · (intro wz hSz; (try dsimp only at hSz); go_simp) <;> with_reducible rfl
          simp only [Act.put, List.getElem_toArray, List.getElem_cons_zero, List.getElem_cons_succ, List.setIfInBounds_toArray, List.set_cons_zero, List.set_cons_succ]
          refine wpAnyH_take (i := 4) (v := ?_) rfl (by kernel_rfl) (by kernel_rfl) (by kernel_rfl) (fun _ _ _ h => h) (Or.inl ⟨by rfl, ?_⟩) (by assumption) ?_
          rotate_left
          · (intro wz hSz; (try dsimp only at hSz); have fz1 := (hSz.cell hXl6 hnX 1).trans f1; have fz2 := (hSz.cell hXl6 hnX 2).trans f2; go_simp) <;> with_reducible rfl
          simp only [Act.put, List.getElem_toArray, List.getElem_cons_zero, List.getElem_cons_succ, List.setIfInBounds_toArray, List.set_cons_zero, List.set_cons_succ]
          refine wpAnyH_take (i := 5) (v := ?_) rfl (by kernel_rfl) (by kernel_rfl) (by kernel_rfl) (fun _ _ _ h => h) (Or.inl ⟨by rfl, ?_⟩) (by assumption) ?_
          rotate_left
          · (intro wz hSz; (try dsimp only at hSz); have hcz := run_bytes_str (P := Tryz.prog) (Rd.apart8 hrV0 h8R hSz) Tryz.underlying33 Tryz.underlying5 Tryz.underlying9; rw [HS1.out] at hcz; go_simp) <;> with_reducible rfl
          simp only [Act.put, List.getElem_toArray, List.getElem_cons_zero, List.getElem_cons_succ, List.setIfInBounds_toArray, List.set_cons_zero, List.set_cons_succ]
          refine wpAnyH_take (i := 6) (v := ?_) rfl (by kernel_rfl) (by kernel_rfl) (by kernel_rfl) (fun _ _ _ h => h) (Or.inl ⟨by rfl, ?_⟩) (by assumption) ?_
          rotate_left
          · (intro wz hSz; (try dsimp only at hSz); go_simp) <;> with_reducible rfl
          simp only [Act.put, List.getElem_toArray, List.getElem_cons_zero, List.getElem_cons_succ, List.setIfInBounds_toArray, List.set_cons_zero, List.set_cons_succ]
          refine wpAnyH_take (i := 7) (v := ?_) rfl (by kernel_rfl) (by kernel_rfl) (by kernel_rfl) (fun _ _ _ h => h) (Or.inl ⟨by rfl, ?_⟩) (by assumption) ?_
          rotate_left
          · (intro wz hSz; (try dsimp only at hSz); have hcz := run_bytes_str (P := Tryz.prog) (Rd.apart8 hrB h8R hSz) Tryz.underlying33 Tryz.underlying5 Tryz.underlying9; rw [HS2.out] at hcz; go_simp) <;> with_reducible rfl
          simp only [Act.put, List.getElem_toArray, List.getElem_cons_zero, List.getElem_cons_succ, List.setIfInBounds_toArray, List.set_cons_zero, List.set_cons_succ]
          refine wpAnyH_take (i := 8) (v := ?_) rfl (by kernel_rfl) (by kernel_rfl) (by kernel_rfl) (fun _ _ _ h => h) (Or.inl ⟨by rfl, ?_⟩) (by assumption) ?_
          rotate_left
          · (intro wz hSz; (try dsimp only at hSz); go_simp) <;> with_reducible rfl
          simp only [Act.put, List.getElem_toArray, List.getElem_cons_zero, List.getElem_cons_succ, List.setIfInBounds_toArray, List.set_cons_zero, List.set_cons_succ]
          refine wpAnyH_take (i := 10) (v := ?_) rfl (by kernel_rfl) (by kernel_rfl) (by kernel_rfl) (fun _ _ _ h => h) (Or.inl ⟨by rfl, ?_⟩) (by assumption) ?_
          rotate_left
          · (intro wz hSz; (try dsimp only at hSz); go_simp) <;> with_reducible rfl
          simp only [Act.put, List.getElem_toArray, List.getElem_cons_zero, List.getElem_cons_succ, List.setIfInBounds_toArray, List.set_cons_zero, List.set_cons_succ]
          refine wpAnyH_take (i := 11) (v := ?_) rfl (by kernel_rfl) (by kernel_rfl) (by kernel_rfl) (fun _ _ _ h => h) (Or.inl ⟨by rfl, ?_⟩) (by assumption) ?_
          rotate_left
          · (intro wz hSz; (try dsimp only at hSz); have fz1 := (hSz.cell hXl6 hnX 1).trans f1; have fz2 := (hSz.cell hXl6 hnX 2).trans f2; go_simp) <;> with_reducible rfl
          simp only [Act.put, List.getElem_toArray, List.getElem_cons_zero, List.getElem_cons_succ, List.setIfInBounds_toArray, List.set_cons_zero, List.set_cons_succ]
          refine wpAnyH_take (i := 12) (v := ?_) rfl (by kernel_rfl) (by kernel_rfl) (by kernel_rfl) (fun _ _ _ h => h) (Or.inl ⟨by rfl, ?_⟩) (by assumption) ?_
          rotate_left
          · (intro wz hSz; (try dsimp only at hSz); go_simp) <;> with_reducible rfl
          simp only [Act.put, List.getElem_toArray, List.getElem_cons_zero, List.getElem_cons_succ, List.setIfInBounds_toArray, List.set_cons_zero, List.set_cons_succ]
          refine wpAnyH_take (i := 13) (v := ?_) rfl (by kernel_rfl) (by kernel_rfl) (by kernel_rfl) (fun _ _ _ h => h) (Or.inl ⟨by rfl, ?_⟩) (by assumption) ?_
          rotate_left
          · (intro wz hSz; (try dsimp only at hSz); go_simp) <;> with_reducible rfl
          simp only [Act.put, List.getElem_toArray, List.getElem_cons_zero, List.getElem_cons_succ, List.setIfInBounds_toArray, List.set_cons_zero, List.set_cons_succ]
          refine wpAnyH_take (i := 14) (v := ?_) rfl (by kernel_rfl) (by kernel_rfl) (by kernel_rfl) (fun _ _ _ h => h) (Or.inl ⟨by rfl, ?_⟩) (by assumption) ?_
          rotate_left
          · (intro wz hSz; (try dsimp only at hSz); go_simp) <;> with_reducible rfl
          simp only [Act.put, List.getElem_toArray, List.getElem_cons_zero, List.getElem_cons_succ, List.setIfInBounds_toArray, List.set_cons_zero, List.set_cons_succ]
          refine wpAnyH_take (i := 15) (v := ?_) rfl (by kernel_rfl) (by kernel_rfl) (by kernel_rfl) (fun _ _ _ h => h) (Or.inl ⟨by rfl, ?_⟩) (by assumption) ?_
          rotate_left
          · (intro wz hSz; (try dsimp only at hSz); go_simp) <;> with_reducible rfl
          simp only [Act.put, List.getElem_toArray, List.getElem_cons_zero, List.getElem_cons_succ, List.setIfInBounds_toArray, List.set_cons_zero, List.set_cons_succ]
          refine wpAnyH_take (i := 16) (v := ?_) rfl (by kernel_rfl) (by kernel_rfl) (by kernel_rfl) (fun _ _ _ h => h) (Or.inl ⟨by rfl, ?_⟩) (by assumption) ?_
          rotate_left
          · (intro wz hSz; (try dsimp only at hSz); go_simp) <;> with_reducible rfl
          simp only [Act.put, List.getElem_toArray, List.getElem_cons_zero, List.getElem_cons_succ, List.setIfInBounds_toArray, List.set_cons_zero, List.set_cons_succ]
          refine wpAnyH_take (i := 17) (v := ?_) rfl (by kernel_rfl) (by kernel_rfl) (by kernel_rfl) (fun _ _ _ h => h) (Or.inl ⟨by rfl, ?_⟩) (by assumption) ?_
          rotate_left
          · (intro wz hSz; (try dsimp only at hSz); have fz1 := (hSz.cell hXl6 hnX 1).trans f1; have fz2 := (hSz.cell hXl6 hnX 2).trans f2; go_simp) <;> with_reducible rfl
          simp only [Act.put, List.getElem_toArray, List.getElem_cons_zero, List.getElem_cons_succ, List.setIfInBounds_toArray, List.set_cons_zero, List.set_cons_succ]
          refine wpAnyH_ready (rs := [9]) (by kernel_rfl) (by simp) (AllReadyH.cons rfl (fun K hK => ?_) AllReadyH.nil)
          go_simp
          refine hK.out _ _ (Upd.ofBelow hb7) (fun hHeld => ?_)
          clear hK K
          refine wpAnyH_ready (rs := [18]) (by kernel_rfl) (by simp) (AllReadyH.cons rfl (fun K hK => ?_) AllReadyH.nil)
          go_simp
          refine (hF _ hr7).mono ?_
          rintro e w8 ⟨v8, rfl, hr8, hb8, ha8, _⟩
          have hb78 := hb7.trans (hb8.mono hb7.size)
          have hv8 : InX X (Value.slice (some ⟨v8, 0, none⟩) (L0 + b.length) (L0 + b.length)) (((f.firm ++ f.loose) ++ b).take ((f.firm ++ f.loose) ++ b).length) := ⟨fun _ g hg => by cases hg; exact ((hNX.below hb6.drew).below hb7) _ ha8, _, _, _, rfl, Nat.le_refl _, Hmx.out⟩
          refine hK.out _ _ (Upd.ofBelow hb78) (fun hHeld => ?_)
          clear hK K
          refine wpAnyH_ready (rs := [19]) (by kernel_rfl) (by simp) (AllReadyH.cons rfl (fun K hK => ?_) AllReadyH.nil)
          go_simp
          refine (hP _ (hRef6d.below hb78) ((hNX.below hb6.drew).below hb78) _ hr8 hv8).mono ?_
          rintro e w9 ⟨a9, n9, c9, rfl, hR9, hb9⟩
          have hb79 := hb78.trans (hb9.mono hb78.size)
          refine hK.out _ _ (Upd.ofBelow hb79) (fun hHeld => ?_)
          clear hK K
          refine wpAnyH_ready (rs := [20]) (by kernel_rfl) (by simp) (AllReadyH.cons rfl (fun K hK => ?_) AllReadyH.nil)
          go_simp
          refine (hS _ (hRef6d.below hb79) _ _ _ hR9).mono ?_
          rintro e w10 ⟨a3, n3, c3, rfl, hR10, hb10⟩
          have hb710 := hb79.trans (hb10.mono hb79.size)
          have hRB10 := (hb710.block _ (blk_lt hRB7)).trans hRB7
          obtain ⟨z0, z1, z2, z3, z4, z5, z6, z7⟩ := cells4 hRB10
          refine hK.out _ _ (Upd.ofBelow hb710) (fun hHeld => ?_)
          clear hK K
          refine wpAnyH_take (i := 21) (v := ?_) rfl (by kernel_rfl) (by kernel_rfl) (by kernel_rfl) (fun _ _ _ h => h) (Or.inl ⟨by rfl, ?_⟩) (by assumption) ?_
          rotate_left
          · (intro wz hSz; (try dsimp only at hSz); go_simp) <;> with_reducible rfl
          simp only [Act.put, List.getElem_toArray, List.getElem_cons_zero, List.getElem_cons_succ, List.setIfInBounds_toArray, List.set_cons_zero, List.set_cons_succ]
          refine wpAnyH_take (i := 22) (v := ?_) rfl (by kernel_rfl) (by kernel_rfl) (by kernel_rfl) (fun _ _ _ h => h) (Or.inl ⟨by rfl, ?_⟩) (by assumption) ?_
          rotate_left
          · (intro wz hSz; (try dsimp only at hSz); go_simp) <;> with_reducible rfl
          simp only [Act.put, List.getElem_toArray, List.getElem_cons_zero, List.getElem_cons_succ, List.setIfInBounds_toArray, List.set_cons_zero, List.set_cons_succ]
          refine wpAnyH_ready (rs := [23]) (by kernel_rfl) (by simp) (AllReadyH.cons rfl (fun K hK => ?_) AllReadyH.nil)
          go_simp
          refine hK.out _ _ (((((Upd.ofBelow (fp := fun k => k = w.heap.size + 1) hb710).setCell (p := ⟨w.heap.size + 1, 0, none⟩) (Or.inl rfl) _).setCell (p := ⟨w.heap.size + 1, 1, none⟩) (Or.inl rfl) _).setCell (p := ⟨w.heap.size + 1, 2, none⟩) (Or.inl rfl) _).setCell (p := ⟨w.heap.size + 1, 3, none⟩) (Or.inl rfl) _) (fun hHeld => ?_)
          clear hK K
          refine wpAnyH_take (i := 24) (v := ?_) rfl (by kernel_rfl) (by kernel_rfl) (by kernel_rfl) (fun _ _ _ h => h) (Or.inl ⟨by rfl, ?_⟩) (by assumption) ?_
          rotate_left
          · (intro wz hSz; (try dsimp only at hSz); go_simp) <;> with_reducible rfl
          simp only [Act.put, List.getElem_toArray, List.getElem_cons_zero, List.getElem_cons_succ, List.setIfInBounds_toArray, List.set_cons_zero, List.set_cons_succ]
          refine wpAnyH_done (by kernel_rfl) ?_ _
          have hbw10 := hb6.drew.trans (hb710.mono hb6.size)
          go_wp2
          obtain ⟨p1, p2⟩ := ref_answer hR10 hRB10 hbw10 (by omega) (.int .i64 dd.most) (.slice a3 n3 c3) (.int .i64 dd.left) (.bool dd.down)
          exact bodyPost_ret (v := .tuple #[.agg #[.int .i64 dd.most, .slice a3 n3 c3, .int .i64 dd.left, .bool dd.down], .int .i64 d.err]) (by simp [results, Tryz.results16, go_sem, z0, z1, z2, z3]) rfl ⟨_, _, _, rfl, p1, p2⟩
end Go.Proofs.YtkacgmbinkoojaaGreatDoor
