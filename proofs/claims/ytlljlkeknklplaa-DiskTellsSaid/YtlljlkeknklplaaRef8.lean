/-
  The document's disk: Remove, Read, Arm.
-/
import Derived.Outline
import Derived.Deep.RegionHeld3
import Derived.Test.YtlljlkeknklplaaRef7
namespace Go.Proofs.Ytlljlkeknklplaa
open Go.RowKit Go.Maps Go.MapKept
variable {X : Nat → Prop}

/-- files Y, unless the power fails. -/
def ADisk.thenF (d : ADisk) (Y : List (ByteArray × AFile)) : ADisk := if d.left = 0 then d.fail else { d.tick with fs := Y }
theorem refStep_then (w : World) (a : Option Addr) (n c : Nat) (d : ADisk) (a' : Option Addr) (n' c' : Nat) (Y : List (ByteArray × AFile)) (h : RefAt X w a n c d) (h' : RefAt X w a' n' c' { d with fs := Y }) (hw : d.WF) (hd : d.down = false) :
    Calls Try.prog 59 #[refVal a n c d, refVal a' n' c' { d with fs := Y }] w fun e w' => ∃ a2 n2 c2, e = .returned (.tuple #[refVal a2 n2 c2 (d.thenF Y), .int .i64 d.err]) ∧ RefAt X w' a2 n2 c2 (d.thenF Y) ∧ Below w.heap.size w w' := by
  refine (refStep_any w a n c d a' n' c' { d with fs := Y } hw.left1).mono fun e w' he => ?_
  obtain ⟨rfl, hb⟩ := he
  have hl := hw.left0
  unfold stepVal ADisk.thenF ADisk.err
  by_cases h0 : d.left = 0
  · rw [if_pos h0, if_pos h0, if_pos h0]
    exact ⟨a, n, c, rfl, ⟨(h.below hb).files, h.len, h.inX⟩, hb⟩
  · rw [if_neg h0, if_neg h0, if_neg h0]
    have : ({ most := d.most, left := (if 0 < d.left then d.left - 1 else d.left), down := d.down, fs := Y } : ADisk) = { d.tick with fs := Y } := by
      unfold ADisk.tick
      rw [hd]
      congr 1
      show (if 0 < d.left then d.left - 1 else d.left) = max (d.left - 1) (-1)
      split <;> omega
    refine ⟨a', n', c', ?_, ⟨(h'.below hb).files, h'.len, h'.inX⟩, hb⟩
    rw [← this]

/-- a disk's own block holds no file and no byte. -/
theorem no_string {w : World} {r : Nat} {x y : Int} {u v : Value} {T : TypeId} (hr : w.heap[r]? = some (.cells #[.int .i64 x, u, .int .i64 y, v] T)) (hu : ∃ p q t, u = .slice p q t) (hv : ∃ b, v = .bool b) (o : Nat) (z : Value) (hz : w.cell? ⟨r, o, none⟩ = some z) : (∀ s, z ≠ .string s) ∧ (∀ n, z ≠ .int .u8 n) := by
  rw [cell_at hr] at hz
  obtain ⟨p, q, t, rfl⟩ := hu
  obtain ⟨b, rfl⟩ := hv
  match o, hz with
  | 0, hz => cases hz; exact ⟨fun s => by simp, fun n => by simp⟩
  | 1, hz => cases hz; exact ⟨fun s => by simp, fun n => by simp⟩
  | 2, hz => cases hz; exact ⟨fun s => by simp, fun n => by simp⟩
  | 3, hz => cases hz; exact ⟨fun s => by simp, fun n => by simp⟩
  | o + 4, hz => simp at hz
theorem RefAt.apart {w w' : World} {a : Option Addr} {n c : Nat} {d : ADisk} {r : Nat} {x y : Int} {u v : Value} {T : TypeId} (h : RefAt X w a n c d) (hr : w.heap[r]? = some (.cells #[.int .i64 x, u, .int .i64 y, v] T)) (hu : ∃ p q t, u = .slice p q t) (hv : ∃ b, v = .bool b) (hU : Upd (· = r) w w') : RefAt X w' a n c d := by
  refine ⟨?_, h.len, h.inX⟩
  rcases h.files with h1 | ⟨b, off, n', c', e, hl, hm, hc⟩
  · exact Or.inl h1
  · refine Or.inr ⟨b, off, n', c', e, hl, hm, fun j q hj => ?_⟩
    obtain ⟨cs, h1, h2, vb, h3, h4, h6⟩ := hc j q hj
    have hb : ¬ b = r := fun e => by
      subst e
      have := h2 0 (.string q.1) (by rw [h3]; rfl)
      exact (no_string hr hu hv _ _ this).1 _ rfl
    refine ⟨cs, h1, fun i u hi => (hU.cell (cell_lt (h2 i u hi)) hb _).trans (h2 i u hi), vb, h3, ?_, h6⟩
    rcases h4 with h4 | ⟨b2, o2, n2, c2, e2, l2, r2⟩
    · exact Or.inl h4
    · refine Or.inr ⟨b2, o2, n2, c2, e2, l2, fun j u hj => ?_⟩
      have hb2 : ¬ b2 = r := fun e => by
        subst e
        have h5 := r2 j u hj
        simp only [bcells, List.getElem?_map, Option.map_eq_some_iff] at hj
        obtain ⟨z, _, rfl⟩ := hj
        exact (no_string hr hu hv _ _ h5).2 _ rfl
      exact (hU.cell (cell_lt (r2 j u hj)) hb2 _).trans (r2 j u hj)
/-- .. nor does a block without bytes that no row lies in. -/
theorem RefAt.far {w w' : World} {a : Option Addr} {n c : Nat} {d : ADisk} {r : Nat} (h : RefAt X w a n c d) (hn : ∀ g, (Value.slice a n c).ownBlock = some g → g ≠ r) (h8 : ∀ o z, w.cell? ⟨r, o, none⟩ = some z → ∀ n, z ≠ .int .u8 n) (hU : Upd (· = r) w w') : RefAt X w' a n c d := by
  refine ⟨?_, h.len, h.inX⟩
  rcases h.files with h1 | ⟨b, off, n', c', e, hl, hm, hc⟩
  · exact Or.inl h1
  · cases e
    refine Or.inr ⟨b, off, _, _, rfl, hl, hm, fun j q hj => ?_⟩
    obtain ⟨cs, h1, h2, vb, h3, h4, h6⟩ := hc j q hj
    have hb : ¬ b = r := hn b rfl
    refine ⟨cs, h1, fun i u hi => (hU.cell (cell_lt (h2 i u hi)) hb _).trans (h2 i u hi), vb, h3, ?_, h6⟩
    rcases h4 with h4 | ⟨b2, o2, n2, c2, e2, l2, r2⟩
    · exact Or.inl h4
    · refine Or.inr ⟨b2, o2, n2, c2, e2, l2, fun j u hj => ?_⟩
      have hb2 : ¬ b2 = r := fun e => by
        subst e
        have h5 := r2 j u hj
        simp only [bcells, List.getElem?_map, Option.map_eq_some_iff] at hj
        obtain ⟨z, _, rfl⟩ := hj
        exact h8 _ _ h5 _ rfl
      exact (hU.cell (cell_lt (r2 j u hj)) hb2 _).trans (r2 j u hj)
/-- an answer laid into its block. -/
theorem ref_answer {w w1 : World} {r N : Nat} {a : Option Addr} {n c : Nat} {d : ADisk} {x y : Int} {p : Option Addr} {q t : Nat} {b : Bool} {T : TypeId} (h : RefAt X w1 a n c d) (hr : w1.heap[r]? = some (.cells #[.int .i64 x, .slice p q t, .int .i64 y, .bool b] T)) (hb : Below N w w1) (hN : N ≤ r) (v0 v1 v2 v3 : Value) :
    RefAt X ((((w1.setCell ⟨r, 0, none⟩ v0).setCell ⟨r, 1, none⟩ v1).setCell ⟨r, 2, none⟩ v2).setCell ⟨r, 3, none⟩ v3) a n c d ∧ Below N w ((((w1.setCell ⟨r, 0, none⟩ v0).setCell ⟨r, 1, none⟩ v1).setCell ⟨r, 2, none⟩ v2).setCell ⟨r, 3, none⟩ v3) := by
  have hU : Upd (· = r) w1 ((((w1.setCell ⟨r, 0, none⟩ v0).setCell ⟨r, 1, none⟩ v1).setCell ⟨r, 2, none⟩ v2).setCell ⟨r, 3, none⟩ v3) := ((((Upd.refl (· = r) w1).setCell (p := ⟨r, 0, none⟩) (Or.inl rfl) _).setCell (p := ⟨r, 1, none⟩) (Or.inl rfl) _).setCell (p := ⟨r, 2, none⟩) (Or.inl rfl) _).setCell (p := ⟨r, 3, none⟩) (Or.inl rfl) _
  exact ⟨h.apart hr ⟨_, _, _, rfl⟩ ⟨_, rfl⟩ hU, hb.trans (hU.below (fun k hk => by omega) (by have := blk_lt hr; omega))⟩

theorem find_zero {d : ADisk} {s : ByteArray} (h : findErr d s = 0) : d.down = false ∧ ∃ f, lk d.fs s = some f := by
  unfold findErr at h
  cases hd : d.down with
  | true => rw [hd] at h; simp at h
  | false =>
    refine ⟨rfl, ?_⟩
    cases hl : lk d.fs s with
    | none => rw [hd, hl] at h; simp at h
    | some f => exact ⟨f, rfl⟩

set_option maxRecDepth 100000 in
set_option maxHeartbeats 4000000 in
theorem refRemove_any (w : World) (a : Option Addr) (n c : Nat) (d : ADisk) (s : ByteArray) (h : RefAt X w a n c d) (hw : d.WF) (hX : NewOk X w) :
    Calls Try.prog 25 #[refVal a n c d, .string s] w fun e w' => ∃ a' n' c', e = .returned (.tuple #[refVal a' n' c' (d.remove s), .int .i64 (d.removeErr s)]) ∧ RefAt X w' a' n' c' (d.remove s) ∧ Below w.heap.size w w' := by
  have hA := fun (w : World) (h : RefAt X w a n c d) => refAsk_any w a n c d s h hw
  have hD := alloc2_at0 w (.cells #[.int .i64 d.most, .slice a n c, .int .i64 d.left, .bool d.down] 43) (.cells #[.int .i64 0, .slice none 0 0, .int .i64 0, .bool false] 43)
  have hR := alloc2_at w (.cells #[.int .i64 d.most, .slice a n c, .int .i64 d.left, .bool d.down] 43) (.cells #[.int .i64 0, .slice none 0 0, .int .i64 0, .bool false] 43)
  have hbW : Below w.heap.size w ((w.alloc (.cells #[.int .i64 d.most, .slice a n c, .int .i64 d.left, .bool d.down] 43)).alloc (.cells #[.int .i64 0, .slice none 0 0, .int .i64 0, .bool false] 43)) := ((Below.refl _ _).alloc (Nat.le_refl _) _).alloc (by simp) _
  obtain ⟨W, hW⟩ : ∃ W, (w.alloc (.cells #[.int .i64 d.most, .slice a n c, .int .i64 d.left, .bool d.down] 43)).alloc (.cells #[.int .i64 0, .slice none 0 0, .int .i64 0, .bool false] 43) = W := ⟨_, rfl⟩
  rw [hW] at hD hR hbW
  have HW := Lib.hid hW
  clear hW
  have hRW := h.below hbW
  by_cases he : findErr d s = 0
  · obtain ⟨hd, f, hl⟩ := find_zero he
    obtain ⟨k, hk, hpl, hkn, hkf⟩ := place_some hw.sorted hl
    have h1 : d.remove s = d.thenF (delF d.fs s) := by unfold ADisk.remove ADisk.thenF; rw [hd, hl]; rfl
    have h2 : d.removeErr s = d.err := by unfold ADisk.removeErr; rw [hd, hl]; rfl
    have hS := fun (w : World) (h : RefAt X w a n c d) (a' n' c' h') => refStep_then w a n c d a' n' c' (delF d.fs s) h h' hw hd
    have hP := fun (w : World) (h : RefAt X w a n c d) (hX : NewOk X w) (vf : Value) (hf : Rd w vf (bcells (f.firm ++ f.loose))) (hfX : f.firm ++ f.loose ≠ [] → ∀ g, vf.ownBlock = some g → X g) => refPut_any w a n c d s vf f true h hw hX hf hfX
    obtain ⟨b, off, vb, rfl, c0, c1, c2, hrd, hvX⟩ := h.atX k hk
    have hn : n = d.fs.length := h.len
    have hkn' : k < n := by omega
    rw [hkn] at c0
    rw [hkf] at c2 hrd hvX
    rw [h1, h2]
    rw [he, hpl] at hA
    have hbw := cell_lt c0
    have hbne : ¬ b = w.heap.size + 1 := by omega
    have hbne2 : ¬ w.heap.size + 1 = b := by omega
    have e0 := fun {w1 : World} (hb1 : Below w.heap.size w w1) => (hb1.cell (p := ⟨b, off + k * 3, none⟩) (cell_lt c0)).trans c0
    have e1 := fun {w1 : World} (hb1 : Below w.heap.size w w1) => (hb1.cell (p := ⟨b, off + k * 3 + 1, none⟩) (cell_lt c1)).trans c1
    have e2 := fun {w1 : World} (hb1 : Below w.heap.size w w1) => (hb1.cell (p := ⟨b, off + k * 3 + 2, none⟩) (cell_lt c2)).trans c2
    obtain ⟨av, cv, rfl⟩ := hrd.shape
    rw [bcells_length, List.length_append] at hrd e1 hvX
    simp only [if_true] at hP
    obtain ⟨x0, x1, x2, x3, _⟩ := cells4 hD
    have Hcl : Hid (∀ {w1 : World}, Below w.heap.size w w1 → w1.cell? ⟨b, off + k * 3, none⟩ = some (.string s) ∧ w1.cell? ⟨b, off + k * 3 + 1, none⟩ = some (.slice av (f.firm.length + f.loose.length) cv) ∧ w1.cell? ⟨b, off + k * 3 + 2, none⟩ = some (.int .i64 (f.firm.length : Nat))) := Lib.hid (fun hb => ⟨e0 hb, e1 hb, e2 hb⟩)
    clear h1 h2 e0 e1 e2 c0 c1 c2 hkn hkf hl hpl he hn hd
    unfold refVal at hA hS hP ⊢
    go_enter Try.func25, Try.ntmps25
    go_wp2_with fail
    rw [HW.out]
    refine (hA _ hRW).mono ?_
    rintro e w1 ⟨rfl, hb1⟩
    have hD1 := (hb1.block _ (blk_lt hD)).trans hD
    have hR1 := (hb1.block _ (blk_lt hR)).trans hR
    have hbw1 : Below w.heap.size w w1 := hbW.trans (hb1.mono hbW.size)
    have hRef1 := h.below hbw1
    have hRef1d := hRef1.below ((Below.refl w1.heap.size w1).drew)
    have hrd1d := rd_low hrd hbw1.drew
    clear x0 x1 x2 x3 hRW
    obtain ⟨y0, y1, y2, y3, y4, y5, y6, y7⟩ := cells4 hD1
    obtain ⟨c0, c1, c2⟩ := Hcl.out hbw1
    have hDl := blk_lt hD1
    dsimp only
    go_wp2_with fail
    go_region_held3 (fun w' => w'.cell? ⟨w.heap.size, 0, none⟩ = some (.int .i64 d.most) ∧ w'.cell? ⟨w.heap.size, 1, none⟩ = some (.slice (some ⟨b, off, none⟩) n c) ∧ w'.cell? ⟨w.heap.size, 2, none⟩ = some (.int .i64 d.left) ∧ w'.cell? ⟨w.heap.size, 3, none⟩ = some (.bool d.down) ∧ w'.cell? ⟨b, off + k * 3, none⟩ = some (.string s) ∧ w'.cell? ⟨b, off + k * 3 + 1, none⟩ = some (.slice av (f.firm.length + f.loose.length) cv) ∧ w'.cell? ⟨b, off + k * 3 + 2, none⟩ = some (.int .i64 (f.firm.length : Nat)))
      (first | exact ⟨y0, y1, y2, y3, c0, c1, c2⟩ | exact S2 | exact S3 | go_keep)
      (first
        | (go_at_call 60; (with_reducible refine (hP _ hRef1d (hX.below hbw1.drew) _ hrd1d hvX).mono ?_); rintro e w2 ⟨a', n', c', rfl, hR2, hb2⟩; have S2 : w2.cell? ⟨w.heap.size, 0, none⟩ = some (.int .i64 d.most) ∧ w2.cell? ⟨w.heap.size, 1, none⟩ = some (.slice (some ⟨b, off, none⟩) n c) ∧ w2.cell? ⟨w.heap.size, 2, none⟩ = some (.int .i64 d.left) ∧ w2.cell? ⟨w.heap.size, 3, none⟩ = some (.bool d.down) ∧ w2.cell? ⟨b, off + k * 3, none⟩ = some (.string s) ∧ w2.cell? ⟨b, off + k * 3 + 1, none⟩ = some (.slice av (f.firm.length + f.loose.length) cv) ∧ w2.cell? ⟨b, off + k * 3 + 2, none⟩ = some (.int .i64 (f.firm.length : Nat)) := ⟨(hb2.cell (p := ⟨w.heap.size, 0, none⟩) hDl).trans y0, (hb2.cell (p := ⟨w.heap.size, 1, none⟩) hDl).trans y1, (hb2.cell (p := ⟨w.heap.size, 2, none⟩) hDl).trans y2, (hb2.cell (p := ⟨w.heap.size, 3, none⟩) hDl).trans y3, Hcl.out (hbw1.drew.trans (hb2.mono hbw1.size))⟩; have hRef2 := hRef1d.below hb2; have hRB2 := (hb2.block _ (blk_lt hR1)).trans hR1)
        | (go_at_call 59; (with_reducible refine (hS _ hRef2 _ _ _ hR2).mono ?_); rintro e w3 ⟨a3, n3, c3, rfl, hR3, hb3⟩; have S3 : w3.cell? ⟨w.heap.size, 0, none⟩ = some (.int .i64 d.most) ∧ w3.cell? ⟨w.heap.size, 1, none⟩ = some (.slice (some ⟨b, off, none⟩) n c) ∧ w3.cell? ⟨w.heap.size, 2, none⟩ = some (.int .i64 d.left) ∧ w3.cell? ⟨w.heap.size, 3, none⟩ = some (.bool d.down) ∧ w3.cell? ⟨b, off + k * 3, none⟩ = some (.string s) ∧ w3.cell? ⟨b, off + k * 3 + 1, none⟩ = some (.slice av (f.firm.length + f.loose.length) cv) ∧ w3.cell? ⟨b, off + k * 3 + 2, none⟩ = some (.int .i64 (f.firm.length : Nat)) := ⟨(hb3.cell (p := ⟨w.heap.size, 0, none⟩) (cell_lt S2.1)).trans S2.1, (hb3.cell (p := ⟨w.heap.size, 1, none⟩) (cell_lt S2.1)).trans S2.2.1, (hb3.cell (p := ⟨w.heap.size, 2, none⟩) (cell_lt S2.1)).trans S2.2.2.1, (hb3.cell (p := ⟨w.heap.size, 3, none⟩) (cell_lt S2.1)).trans S2.2.2.2.1, Hcl.out ((hbw1.drew.trans (hb2.mono hbw1.size)).trans (hb3.mono (Nat.le_trans hbw1.size hb2.size)))⟩; have hRB3 := (hb3.block _ (blk_lt hRB2)).trans hRB2; obtain ⟨z0, z1, z2, z3, z4, z5, z6, z7⟩ := cells4 hRB3))
    have hb03 : Below w.heap.size w w3 := (hbw1.drew.trans (hb2.mono hbw1.size)).trans (hb3.mono (Nat.le_trans hbw1.size hb2.size))
    go_wp2
    obtain ⟨p1, p2⟩ := ref_answer hR3 hRB3 hb03 (by omega) (.int .i64 (d.thenF (delF d.fs s)).most) (.slice a3 n3 c3) (.int .i64 (d.thenF (delF d.fs s)).left) (.bool (d.thenF (delF d.fs s)).down)
    exact bodyPost_ret (v := .tuple #[.agg #[.int .i64 (d.thenF (delF d.fs s)).most, .slice a3 n3 c3, .int .i64 (d.thenF (delF d.fs s)).left, .bool (d.thenF (delF d.fs s)).down], .int .i64 d.err]) (by simp [results, Try.results25, go_sem, z0, z1, z2, z3]) rfl ⟨_, _, _, rfl, p1, p2⟩
  · have h1 : d.remove s = d := by
      unfold findErr at he
      unfold ADisk.remove
      split
      · rfl
      · rename_i hd
        rw [if_neg hd] at he
        split
        · rfl
        · rename_i hl
          rw [if_neg hl] at he
          exact absurd rfl he
    have h2 : d.removeErr s = findErr d s := by
      unfold findErr at he ⊢
      unfold ADisk.removeErr
      split
      · rfl
      · rename_i hd
        rw [if_neg hd] at he
        split
        · rfl
        · rename_i hl
          rw [if_neg hl] at he
          exact absurd rfl he
    rw [h1, h2]
    obtain ⟨fe, hfe⟩ : ∃ fe, findErr d s = fe := ⟨_, rfl⟩
    rw [hfe] at hA he ⊢
    have hq : (fe == 0) = false := by simpa using he
    have hq2 : (fe != 0) = true := by simpa using he
    clear hfe h1 h2 he
    obtain ⟨x0, x1, x2, x3, _⟩ := cells4 hD
    unfold refVal at hA ⊢
    go_enter Try.func25, Try.ntmps25
    go_wp2_with fail
    rw [HW.out]
    refine (hA _ hRW).mono ?_
    rintro e w1 ⟨rfl, hb1⟩
    have hD1 := (hb1.block _ (blk_lt hD)).trans hD
    have hR1 := (hb1.block _ (blk_lt hR)).trans hR
    obtain ⟨y0, y1, y2, y3, y4, y5, y6, y7⟩ := cells4 hD1
    obtain ⟨z0, z1, z2, z3, z4, z5, z6, z7⟩ := cells4 hR1
    dsimp only
    go_wp2
    obtain ⟨p1, p2⟩ := ref_answer (h.below (hbW.trans (hb1.mono hbW.size))) hR1 (hbW.trans (hb1.mono hbW.size)) (by omega) (.int .i64 d.most) (.slice a n c) (.int .i64 d.left) (.bool d.down)
    exact bodyPost_ret (v := .tuple #[.agg #[.int .i64 d.most, .slice a n c, .int .i64 d.left, .bool d.down], .int .i64 fe]) (by simp [results, Try.results25, go_sem, z0, z1, z2, z3]) rfl ⟨_, _, _, rfl, p1, p2⟩
end Go.Proofs.Ytlljlkeknklplaa
