/-
  The document's disk, read as the same plain disk; the small functions.
-/
import Derived.Outline
import Derived.Test.YtlljlkeknklplaaOpen0
import Derived.Test.YtlljlkeknklplaaDisk9
namespace Go.Proofs.Ytlljlkeknklplaa
open Go.RowKit Go.Maps Go.MapKept

/-- a file of the document's; its bytes lie in X. -/
def RFileQ (X : Nat → Prop) (w : World) (l : List Value) (q : ByteArray × AFile) : Prop := ∃ vb, l = [.string q.1, vb, .int .i64 (q.2.firm.length : Nat)] ∧ Rd w vb (bcells (q.2.firm ++ q.2.loose)) ∧ (q.2.firm ++ q.2.loose ≠ [] → ∀ g, vb.ownBlock = some g → X g)
/-- the document's disk: it is never written; all that it reads lies in X. -/
structure RefAt (X : Nat → Prop) (w : World) (a : Option Addr) (n c : Nat) (d : ADisk) : Prop where
  files : SliceOf 3 (RFileQ X w) w (.slice a n c) d.fs
  len : n = d.fs.length
  inX : d.fs ≠ [] → ∀ g, (Value.slice a n c).ownBlock = some g → X g
def refVal (a : Option Addr) (n c : Nat) (d : ADisk) : Value := .agg #[.int .i64 d.most, .slice a n c, .int .i64 d.left, .bool d.down]
/-- new blocks are in X. -/
def NewOk (X : Nat → Prop) (w : World) : Prop := ∀ k, w.heap.size ≤ k → X k
theorem NewOk.below {X : Nat → Prop} {N : Nat} {w w' : World} (h : NewOk X w) (hb : Below N w w') : NewOk X w' := fun k hk => h k (Nat.le_trans hb.size hk)

theorem rd_low {W w : World} {v : Value} {xs : List Value} (h : Rd W v xs) (hk : Below W.heap.size W w) : Rd w v xs := h.below hk
variable {X : Nat → Prop}
theorem RefAt.below {W w : World} {a : Option Addr} {n c : Nat} {d : ADisk} (h : RefAt X W a n c d) (hb : Below W.heap.size W w) : RefAt X w a n c d := by
  refine ⟨?_, h.len, h.inX⟩
  rcases h.files with h1 | ⟨b, off, n', c', e, hl, hm, hc⟩
  · exact Or.inl h1
  · refine Or.inr ⟨b, off, n', c', e, hl, hm, fun j q hj => ?_⟩
    obtain ⟨cs, h1, h2, vb, h3, h4, h5⟩ := hc j q hj
    exact ⟨cs, h1, fun i u hu => (hb.cell (p := ⟨b, off + (j * 3 + i), none⟩) (cell_lt (h2 i u hu))).trans (h2 i u hu), vb, h3, rd_low h4 hb, h5⟩
theorem RefAt.keep {ex : Nat → Prop} {w w' : World} {a : Option Addr} {n c : Nat} {d : ADisk} (h : RefAt X w a n c d) (hk : Keep ex w w') (hx : ∀ k, X k → k < w.heap.size → ex k) : RefAt X w' a n c d := by
  refine ⟨?_, h.len, h.inX⟩
  rcases h.files with h1 | ⟨b, off, n', c', e, hl, hm, hc⟩
  · exact Or.inl h1
  · refine Or.inr ⟨b, off, n', c', e, hl, hm, fun j q hj => ?_⟩
    obtain ⟨cs, h1, h2, vb, h3, h4, h5⟩ := hc j q hj
    have hb := h.inX (fun e => by rw [e] at hj; cases hj) b (by rw [e]; rfl)
    refine ⟨cs, h1, fun i u hu => (hk.cell (hx b hb (cell_lt (h2 i u hu))) _).trans (h2 i u hu), vb, h3, ?_, h5⟩
    rcases h4 with h4 | ⟨b2, o2, n2, c2, e2, l2, r2⟩
    · exact Or.inl h4
    · refine Or.inr ⟨b2, o2, n2, c2, e2, l2, fun j u hj => ?_⟩
      exact (hk.cell (hx b2 (h5 (fun e => by rw [e] at hj; simp [bcells] at hj) b2 (by rw [e2]; rfl)) (cell_lt (r2 j u hj))) _).trans (r2 j u hj)
theorem RefAt.narrow {Y : Nat → Prop} {w : World} {a : Option Addr} {n c : Nat} {d : ADisk} (h : RefAt X w a n c d) (hy : ∀ k, X k → k < w.heap.size → Y k) : RefAt Y w a n c d := by
  rcases h.files with ⟨h1, h2⟩ | ⟨b, off, n', c', e, hl, hm, hc⟩
  · exact ⟨Or.inl ⟨h1, h2⟩, h.len, fun hne => absurd h2 hne⟩
  · refine ⟨Or.inr ⟨b, off, n', c', e, hl, hm, fun j q hj => ?_⟩, h.len, fun hne g hg => ?_⟩
    · obtain ⟨cs, h1, h2, vb, h3, h4, h5⟩ := hc j q hj
      refine ⟨cs, h1, h2, vb, h3, h4, fun hne g hg => hy g (h5 hne g hg) ?_⟩
      rcases h4 with ⟨_, h4⟩ | ⟨b2, o2, n2, c2, e2, l2, r2⟩
      · exact absurd (by simpa [bcells] using h4) hne
      · rw [e2] at hg
        cases hg
        cases hxs : q.2.firm ++ q.2.loose with
        | nil => exact absurd hxs hne
        | cons x xs => exact cell_lt (r2 0 (.int .u8 x.toNat) (by rw [hxs]; rfl))
    · refine hy g (h.inX hne g hg) ?_
      rw [e] at hg
      cases hg
      cases hxs : d.fs with
      | nil => exact absurd hxs hne
      | cons q qs =>
        obtain ⟨cs, h1, h2, vb, h3, _⟩ := hc 0 q (by rw [hxs]; rfl)
        exact cell_lt (h2 0 (.string q.1) (by rw [h3]; rfl))
theorem RefAt.atX {w : World} {a : Option Addr} {n c : Nat} {d : ADisk} (h : RefAt X w a n c d) (k : Nat) (hk : k < d.fs.length) :
    ∃ b off vb, a = some ⟨b, off, none⟩ ∧ w.cell? ⟨b, off + k * 3, none⟩ = some (.string d.fs[k].1) ∧ w.cell? ⟨b, off + k * 3 + 1, none⟩ = some vb ∧ w.cell? ⟨b, off + k * 3 + 2, none⟩ = some (.int .i64 (d.fs[k].2.firm.length : Nat)) ∧ Rd w vb (bcells (d.fs[k].2.firm ++ d.fs[k].2.loose)) ∧ (d.fs[k].2.firm ++ d.fs[k].2.loose ≠ [] → ∀ g, vb.ownBlock = some g → X g) := by
  obtain ⟨b, off, ha, l, _, hc, vb, rfl, hr⟩ := SliceOf.at h.files k hk
  have g0 := hc 0 _ rfl
  have g1 := hc 1 _ rfl
  have g2 := hc 2 _ rfl
  rw [Nat.add_zero] at g0
  rw [← Nat.add_assoc] at g1 g2
  exact ⟨b, off, vb, ha, g0, g1, g2, hr⟩
theorem RefAt.at {w : World} {a : Option Addr} {n c : Nat} {d : ADisk} (h : RefAt X w a n c d) (k : Nat) (hk : k < d.fs.length) :
    ∃ b off vb, a = some ⟨b, off, none⟩ ∧ w.cell? ⟨b, off + k * 3, none⟩ = some (.string d.fs[k].1) ∧ w.cell? ⟨b, off + k * 3 + 1, none⟩ = some vb ∧ w.cell? ⟨b, off + k * 3 + 2, none⟩ = some (.int .i64 (d.fs[k].2.firm.length : Nat)) ∧ Rd w vb (bcells (d.fs[k].2.firm ++ d.fs[k].2.loose)) := by
  obtain ⟨b, off, vb, h1, h2, h3, h4, h5, _⟩ := h.atX k hk
  exact ⟨b, off, vb, h1, h2, h3, h4, h5⟩

set_option maxRecDepth 100000 in
set_option maxHeartbeats 1000000 in
theorem refLetter_any (w : World) (c : UInt8) : Calls Try.prog 76 #[.int .u8 c.toNat] w fun e w' => e = .returned (.bool (okLetter c)) ∧ w = w' := by
  have hfin := okLetter_iff c
  have hc := c.toNat_lt
  generalize okLetter c = b at hfin ⊢
  have Hfin := Lib.hid hfin
  clear hfin
  obtain ⟨z, hz⟩ : ∃ z : Int, (c.toNat : Int) = z := ⟨_, rfl⟩
  rw [hz] at Hfin ⊢
  have hz0 : 0 ≤ z := by omega
  have hz1 : z ≤ 255 := by omega
  clear hz hc
  have hbf : ¬ ((97 ≤ z ∧ z ≤ 122) ∨ (48 ≤ z ∧ z ≤ 57) ∨ z = 46 ∨ z = 45) → b = false := fun h => by
    cases hb : b with
    | false => rfl
    | true => exact absurd ((Hfin.out).1 hb) h
  have tail : ¬ (48 ≤ z ∧ z ≤ 57) → Calls Try.prog 76 #[.int .u8 z] w fun e w' => e = .returned (.bool b) ∧ w = w' := by
    intro hn
    have hpart : ∀ (P : Prop), (¬ 48 ≤ z → P) → (48 ≤ z → ¬ z ≤ 57 → P) → P := fun P p1 p2 => by
      by_cases h1 : 48 ≤ z
      · exact p2 h1 (fun h2 => hn ⟨h1, h2⟩)
      · exact p1 h1
    by_cases h3 : 97 ≤ z
    · by_cases h4 : z ≤ 122
      · refine hpart _ (fun h1 => ?_) (fun h1 h2 => ?_)
        all_goals
          go_enter Try.func76, Try.ntmps76
          go_wp2
          go_ret
          exact ⟨by first | (rw [(Hfin.out).2 (by omega)]; rfl) | (rw [hbf (by omega)]; rfl), rfl⟩
      · have q1 : (z == 45) = false := by simp; omega
        have q2 : (z == 46) = false := by simp; omega
        refine hpart _ (fun h1 => ?_) (fun h1 h2 => ?_)
        all_goals
          go_enter Try.func76, Try.ntmps76
          go_wp2
          go_ret
          exact ⟨by first | (rw [(Hfin.out).2 (by omega)]; rfl) | (rw [hbf (by omega)]; rfl), rfl⟩
    · by_cases h5 : z = 45
      · have q1 : (z == 45) = true := by simp [h5]
        refine hpart _ (fun h1 => ?_) (fun h1 h2 => ?_)
        all_goals
          go_enter Try.func76, Try.ntmps76
          go_wp2
          go_ret
          exact ⟨by first | (rw [(Hfin.out).2 (by omega)]; rfl) | (rw [hbf (by omega)]; rfl), rfl⟩
      · have q1 : (z == 45) = false := by simp [h5]
        by_cases h6 : z = 46
        · have q2 : (z == 46) = true := by simp [h6]
          refine hpart _ (fun h1 => ?_) (fun h1 h2 => ?_)
          all_goals
            go_enter Try.func76, Try.ntmps76
            go_wp2
            go_ret
            exact ⟨by first | (rw [(Hfin.out).2 (by omega)]; rfl) | (rw [hbf (by omega)]; rfl), rfl⟩
        · have q2 : (z == 46) = false := by simp [h6]
          refine hpart _ (fun h1 => ?_) (fun h1 h2 => ?_)
          all_goals
            go_enter Try.func76, Try.ntmps76
            go_wp2
            go_ret
            exact ⟨by first | (rw [(Hfin.out).2 (by omega)]; rfl) | (rw [hbf (by omega)]; rfl), rfl⟩
  by_cases h1 : 48 ≤ z
  · by_cases h2 : z ≤ 57
    · clear tail
      go_enter Try.func76, Try.ntmps76
      go_wp2
      go_ret
      exact ⟨by first | (rw [(Hfin.out).2 (by omega)]; rfl) | (rw [hbf (by omega)]; rfl), rfl⟩
    · exact tail (fun h => h2 h.2)
  · exact tail (fun h => h1 h.1)
end Go.Proofs.Ytlljlkeknklplaa
