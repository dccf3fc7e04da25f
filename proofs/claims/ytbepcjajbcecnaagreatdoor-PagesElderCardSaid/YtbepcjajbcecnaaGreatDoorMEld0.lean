/-
  Lemmas for PagesElder: a row of slices of bytes and a row of numbers that grow.
-/
import Derived.Outline
import Derived.Test.YtbepcjajbcecnaaGreatDoorMPgm18
import Derived.Test.YtbepcjajbcecnaaGreatDoorMElder0
namespace Go.Proofs.YtbepcjajbcecnaaGreatDoor
open Go.RowKit Go.Maps Go.MapKept

theorem info_rows5 : (Tryz.prog.info? 25).map (fun i => (i.zero, i.size, i.bytes)) = some (some (.slice none 0 0), 1, 24) := by kernel_rfl
theorem info_ints5 : (Tryz.prog.info? 3).map (fun i => (i.zero, i.size, i.bytes)) = some (some (.int .i64 0), 1, 8) := by kernel_rfl
theorem append_rows5 {w : World} {ops : Array Oper} {rest : List Oper} {o : Oper} {a : Act} {Q : Exit → Act → World → Prop} (hgd : Region.wanted o (yielded ops a.tmps) = true) (s x : Operand)
    (ho : o.op = .call { callee := .builtin .append, args := #[s, x], argTypes := #[65, 65] })
    (v vx y : Value) (n : Nat) (xs : List Value) (hs : a.eval s = v) (hown : w.ownsRow 0 25 1 v n xs) (hx : a.eval x = vx) (hrd : Rd w vx [y]) (hy : y.oneCell' = true) (h63 : n ≤ 1000000)
    (h : ∀ v' w', w'.ownsRow 0 25 1 v' (n + 1) (xs ++ [y]) → w.grownBy w' v.ownBlock → (v'.ownBlock = v.ownBlock ∨ ∃ g, v'.ownBlock = some g ∧ w.heap.size ≤ g) → wpList Tryz.prog ops Q rest (a.put o.dst v') w') : wpList Tryz.prog ops Q (o :: rest) a w := by
  obtain ⟨i0, hi, hz0, hz1, hz2⟩ := info_parts info_rows5
  refine wpList_append_rd hgd s x 65 ho 25 i0 (.slice none 0 0) 24 Tryz.underlying65 hi hz0 hz1 hz2 rfl v vx n 1 xs [y] hs hown hx hrd rfl (fun u hu => by rw [List.mem_singleton.1 hu]; exact hy) (by simp only [maxLen]; omega) (by omega) ?_
  intro v' w' h1 h2 h3 _
  exact h v' w' h1 h2 h3
theorem append_ints5 {w : World} {ops : Array Oper} {rest : List Oper} {o : Oper} {a : Act} {Q : Exit → Act → World → Prop} (hgd : Region.wanted o (yielded ops a.tmps) = true) (s x : Operand)
    (ho : o.op = .call { callee := .builtin .append, args := #[s, x], argTypes := #[43, 43] })
    (v vx y : Value) (n : Nat) (xs : List Value) (hs : a.eval s = v) (hown : w.ownsRow 0 3 1 v n xs) (hx : a.eval x = vx) (hrd : Rd w vx [y]) (hy : y.oneCell' = true) (h63 : n ≤ 1000000)
    (h : ∀ v' w', w'.ownsRow 0 3 1 v' (n + 1) (xs ++ [y]) → w.grownBy w' v.ownBlock → (v'.ownBlock = v.ownBlock ∨ ∃ g, v'.ownBlock = some g ∧ w.heap.size ≤ g) → wpList Tryz.prog ops Q rest (a.put o.dst v') w') : wpList Tryz.prog ops Q (o :: rest) a w := by
  obtain ⟨i0, hi, hz0, hz1, hz2⟩ := info_parts info_ints5
  refine wpList_append_rd hgd s x 43 ho 3 i0 (.int .i64 0) 8 Tryz.underlying43 hi hz0 hz1 hz2 rfl v vx n 1 xs [y] hs hown hx hrd rfl (fun u hu => by rw [List.mem_singleton.1 hu]; exact hy) (by simp only [maxLen]; omega) (by omega) ?_
  intro v' w' h1 h2 h3 _
  exact h v' w' h1 h2 h3
/-- what was read of some files: rows in blocks that are new since w. -/
structure WasL (w wr : World) (vb vf : Value) (xs : List Value) (F : Nat → List UInt8) (G : Nat → Int) (j i : Nat) : Prop where
  bel : Below w.heap.size w wr
  rows : wr.ownsRow w.heap.size 25 1 vb j xs
  each : ∀ k, k < j → ∃ a c, xs[k]? = some (.slice a (F k).length c) ∧ Rd wr (.slice a (F k).length c) (bcells (F k)) ∧ ∀ g, (Value.slice a (F k).length c).ownBlock = some g → w.heap.size ≤ g ∧ g < wr.heap.size ∧ vb.ownBlock ≠ some g ∧ vf.ownBlock ≠ some g
  ints : wr.ownsRow w.heap.size 3 1 vf i ((List.range i).map fun k => .int .i64 (G k))
  ne : ∀ g, vb.ownBlock = some g → vf.ownBlock ≠ some g
section
variable {w wr wa w' : World} {vb vf v' : Value} {xs : List Value} {F : Nat → List UInt8} {G : Nat → Int} {j i : Nat}
theorem WasL.start (w : World) (F : Nat → List UInt8) (G : Nat → Int) : WasL w w (.slice none 0 0) (.slice none 0 0) [] F G 0 0 :=
  ⟨Below.refl _ _, World.ownsRow_nil _ _ _ _, fun k hk => absurd hk (by omega), World.ownsRow_nil _ _ _ _, fun g hg => by cases hg⟩
theorem WasL.below (h : WasL w wr vb vf xs F G j i) (hB : Below wr.heap.size wr w') : WasL w w' vb vf xs F G j i :=
  ⟨h.bel.trans (hB.mono h.bel.size), (Upd.ofBelow (fp := noFp) hB).row h.rows (fun _ _ h => h), fun k hk => by
    obtain ⟨a, c, h1, h2, h3⟩ := h.each k hk
    exact ⟨a, c, h1, h2.below hB, fun g hg => ⟨(h3 g hg).1, Nat.lt_of_lt_of_le (h3 g hg).2.1 hB.size, (h3 g hg).2.2⟩⟩, (Upd.ofBelow (fp := noFp) hB).row h.ints (fun _ _ h => h), h.ne⟩
theorem WasL.row {a : Option Addr} {c : Nat} (h : WasL w wr vb vf xs F G j i) (hB : Below wr.heap.size wr wa) (hrd : Rd wr (.slice a (F j).length c) (bcells (F j)))
    (hnew : ∀ g, (Value.slice a (F j).length c).ownBlock = some g → w.heap.size ≤ g ∧ g < wr.heap.size ∧ vb.ownBlock ≠ some g ∧ vf.ownBlock ≠ some g)
    (h1 : w'.ownsRow 0 25 1 v' (j + 1) (xs ++ [.slice a (F j).length c])) (h2 : wa.grownBy w' vb.ownBlock) (h3 : v'.ownBlock = vb.ownBlock ∨ ∃ g, v'.ownBlock = some g ∧ wa.heap.size ≤ g) :
    WasL w w' v' vf (xs ++ [.slice a (F j).length c]) F G (j + 1) i := by
  have hU : Upd (fun g => vb.ownBlock = some g) wr w' := (Upd.ofBelow hB).grown h2 (fun g hg => Or.inl hg)
  have hs := h.bel.size
  have hsa := hB.size
  have hsw := hU.size
  have hl : xs.length = j := by have := h.rows.1; simpa using this
  have hb0 : ∀ g, vb.ownBlock = some g → w.heap.size ≤ g ∧ g < wr.heap.size := fun g hg => h.rows.lt g hg
  have hf0 : ∀ g, vf.ownBlock = some g → w.heap.size ≤ g ∧ g < wr.heap.size := fun g hg => h.ints.lt g hg
  have hv : ∀ g, v'.ownBlock = some g → vb.ownBlock = some g ∨ wr.heap.size ≤ g := fun g hg => by
    rcases h3 with h3 | ⟨g', h3, hg'⟩
    · exact Or.inl (h3 ▸ hg)
    · rw [h3] at hg; cases hg; exact Or.inr (by omega)
  have hne : ∀ g, w.heap.size ≤ g ∧ g < wr.heap.size ∧ vb.ownBlock ≠ some g ∧ vf.ownBlock ≠ some g → w.heap.size ≤ g ∧ g < w'.heap.size ∧ v'.ownBlock ≠ some g ∧ vf.ownBlock ≠ some g := fun g hg =>
    ⟨hg.1, by omega, fun e => by rcases hv g e with e | e; exact hg.2.2.1 e; omega, hg.2.2.2⟩
  refine ⟨h.bel.trans (hU.below (fun k hk => (hb0 k hk).1) hs), ownsRow_from h1 (fun g hg => by rcases hv g hg with e | e; exact (hb0 g e).1; omega), fun k hk => ?_, hU.row h.ints (fun g hg e => h.ne g e hg), fun g hg e => by rcases hv g hg with e2 | e2; exact h.ne g e2 e; have := (hf0 g e).2; omega⟩
  by_cases hkj : k < j
  · obtain ⟨ak, ck, k1, k2, k3⟩ := h.each k hkj
    exact ⟨ak, ck, by rw [List.getElem?_append_left (by omega)]; exact k1, k2.keep hU (fun g hg e => (k3 g hg).2.2.1 e), fun g hg => hne g (k3 g hg)⟩
  · obtain rfl : k = j := by omega
    exact ⟨a, c, by rw [List.getElem?_append_right (by omega), hl, Nat.sub_self]; rfl, hrd.keep hU (fun g hg e => (hnew g hg).2.2.1 e), fun g hg => hne g (hnew g hg)⟩
theorem WasL.int (h : WasL w wr vb vf xs F G j i) (hB : Below wr.heap.size wr wa)
    (h1 : w'.ownsRow 0 3 1 v' (i + 1) (((List.range i).map fun k => Value.int .i64 (G k)) ++ [.int .i64 (G i)])) (h2 : wa.grownBy w' vf.ownBlock) (h3 : v'.ownBlock = vf.ownBlock ∨ ∃ g, v'.ownBlock = some g ∧ wa.heap.size ≤ g) :
    WasL w w' vb v' xs F G j (i + 1) := by
  have hU : Upd (fun g => vf.ownBlock = some g) wr w' := (Upd.ofBelow hB).grown h2 (fun g hg => Or.inl hg)
  have hs := h.bel.size
  have hsa := hB.size
  have hsw := hU.size
  have hb0 : ∀ g, vb.ownBlock = some g → w.heap.size ≤ g ∧ g < wr.heap.size := fun g hg => h.rows.lt g hg
  have hf0 : ∀ g, vf.ownBlock = some g → w.heap.size ≤ g ∧ g < wr.heap.size := fun g hg => h.ints.lt g hg
  have hv : ∀ g, v'.ownBlock = some g → vf.ownBlock = some g ∨ wr.heap.size ≤ g := fun g hg => by
    rcases h3 with h3 | ⟨g', h3, hg'⟩
    · exact Or.inl (h3 ▸ hg)
    · rw [h3] at hg; cases hg; exact Or.inr (by omega)
  refine ⟨h.bel.trans (hU.below (fun k hk => (hf0 k hk).1) hs), hU.row h.rows (fun g hg e => h.ne g hg e), fun k hk => ?_, ?_, fun g hg e => by rcases hv g e with e2 | e2; exact h.ne g hg e2; have := (hb0 g hg).2; omega⟩
  · obtain ⟨ak, ck, k1, k2, k3⟩ := h.each k hk
    exact ⟨ak, ck, k1, k2.keep hU (fun g hg e => (k3 g hg).2.2.2 e), fun g hg => ⟨(k3 g hg).1, by have := (k3 g hg).2.1; omega, (k3 g hg).2.2.1, fun e => by rcases hv g e with e2 | e2; exact (k3 g hg).2.2.2 e2; have := (k3 g hg).2.1; omega⟩⟩
  · rw [List.range_succ, List.map_append]
    exact ownsRow_from h1 (fun g hg => by rcases hv g hg with e | e; exact (hf0 g e).1; omega)
/-- the k-th ones. -/
theorem WasL.at (h : WasL w wr vb vf xs F G j i) (k : Nat) (hj : k < j) (hi : k < i) :
    ∃ gb cb gf cf a c, vb = .slice (some ⟨gb, 0, none⟩) j cb ∧ vf = .slice (some ⟨gf, 0, none⟩) i cf ∧ gb < wr.heap.size ∧ gf < wr.heap.size ∧ wr.cell? ⟨gb, k, none⟩ = some (.slice a (F k).length c) ∧ wr.cell? ⟨gf, k, none⟩ = some (.int .i64 (G k)) ∧ Rd wr (.slice a (F k).length c) (bcells (F k)) := by
  obtain ⟨gb, cb, h1, _, h3, h4⟩ := row_cell h.rows k hj
  obtain ⟨gf, cf, k1, _, k3, k4⟩ := row_cell h.ints k hi
  obtain ⟨a, c, e1, e2, _⟩ := h.each k hj
  refine ⟨gb, cb, gf, cf, a, c, h1, k1, h3, k3, (h4 k hj).trans e1, (k4 k hi).trans ?_, e2⟩
  rw [List.getElem?_map, List.getElem?_range hi]; rfl
/-- the k-th ones, behind calls that keep them. -/
theorem WasL.kept {ex : Nat → Prop} {wz : World} (h : WasL w wr vb vf xs F G j i) (hk : Keep ex wr wz) (hx : ∀ k, w.heap.size ≤ k → k < wr.heap.size → ex k) (k : Nat) (hj : k < j) (hi : k < i) :
    ∃ gb cb gf cf a c, vb = .slice (some ⟨gb, 0, none⟩) j cb ∧ vf = .slice (some ⟨gf, 0, none⟩) i cf ∧ wz.cell? ⟨gb, k, none⟩ = some (.slice a (F k).length c) ∧ wz.cell? ⟨gf, k, none⟩ = some (.int .i64 (G k)) ∧ Rd wz (.slice a (F k).length c) (bcells (F k)) := by
  obtain ⟨gb, cb, h1, h2, h3, h4⟩ := row_cell h.rows k hj
  obtain ⟨gf, cf, k1, k2, k3, k4⟩ := row_cell h.ints k hi
  obtain ⟨a, c, e1, e2, e3⟩ := h.each k hj
  refine ⟨gb, cb, gf, cf, a, c, h1, k1, (hk.cell (hx gb h2 h3) k).trans ((h4 k hj).trans e1), (hk.cell (hx gf k2 k3) k).trans ((k4 k hi).trans ?_), hk.rd e2 (fun g hg => hx g (e3 g hg).1 (e3 g hg).2.1)⟩
  rw [List.getElem?_map, List.getElem?_range hi]; rfl
end
def nmAt (l : List ByteArray) (k : Nat) : ByteArray := l.getD k ⟨#[]⟩
end Go.Proofs.YtbepcjajbcecnaaGreatDoor
