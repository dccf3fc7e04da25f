/-
  Frames with a footprint, slices that are read, maps as functions: the ground of this seat's walks. No program here.
-/
import Derived.WalkKit
import Derived.WalkSpells
import Derived.WalkLawsBesides
import Derived.Maps.Own
import Derived.Maps.OwnSet
import Derived.Sort.KeysCollected
import Derived.AtR
import Derived.StillTailTactics
import Derived.Lib.ConvBytes
import Derived.Lib.Hide
namespace Go.Proofs.YtnagejhpdhdpfaaGreatDoor
open Go.RowKit Go.Maps Go.MapKept

/-- Of what lay in w at most the blocks of fp have turned. -/
structure Upd (fp : Nat → Prop) (w w' : World) : Prop where
  os : w'.os = w.os
  tape : w'.tape = w.tape
  output : w'.output = w.output
  size : w.heap.size ≤ w'.heap.size
  block : ∀ k, k < w.heap.size → ¬ fp k → w'.heap[k]? = w.heap[k]?

namespace Upd
variable {fp fp' : Nat → Prop} {w w' w1 w2 : World}
theorem refl (fp : Nat → Prop) (w : World) : Upd fp w w := ⟨rfl, rfl, rfl, Nat.le_refl _, fun _ _ _ => rfl⟩
theorem mono (h : Upd fp w w') (hm : ∀ k, fp k → fp' k ∨ w.heap.size ≤ k) : Upd fp' w w' :=
  ⟨h.os, h.tape, h.output, h.size, fun k hk hn => h.block k hk (fun hf => by rcases hm k hf with h1 | h1; exact hn h1; omega)⟩
theorem trans (h : Upd fp w w1) (h2 : Upd fp' w1 w2) (hm : ∀ k, fp' k → fp k ∨ w.heap.size ≤ k) : Upd fp w w2 :=
  ⟨h2.os.trans h.os, h2.tape.trans h.tape, h2.output.trans h.output, Nat.le_trans h.size h2.size, fun k hk hn =>
    (h2.block k (Nat.lt_of_lt_of_le hk h.size) (fun hf => by rcases hm k hf with h1 | h1; exact hn h1; omega)).trans (h.block k hk hn)⟩
theorem grown {row : Option Nat} (h : Upd fp w w1) (hg : w1.grownBy w2 row) (hr : ∀ k, row = some k → fp k ∨ w.heap.size ≤ k) : Upd fp w w2 :=
  ⟨hg.os.trans h.os, hg.tape.trans h.tape, hg.output.trans h.output, Nat.le_trans h.size hg.size, fun k hk hn =>
    (hg.block k (Nat.lt_of_lt_of_le hk h.size) (fun e => by rcases hr k e.symm with h1 | h1; exact hn h1; omega)).trans (h.block k hk hn)⟩
theorem ofBelow (h : Below w.heap.size w w') : Upd fp w w' := ⟨h.os, h.tape, h.output, h.size, fun k hk _ => h.block k hk⟩
theorem below {N : Nat} (h : Upd fp w w') (hN : ∀ k, fp k → N ≤ k) (hs : N ≤ w.heap.size) : Below N w w' :=
  ⟨h.os, h.tape, h.output, h.size, fun k hk => h.block k (by omega) (fun hf => by have := hN k hf; omega)⟩
theorem thenBelow {N : Nat} (h : Upd fp w w1) (h2 : Below N w1 w2) (hN : w.heap.size ≤ N) : Upd fp w w2 :=
  ⟨h2.os.trans h.os, h2.tape.trans h.tape, h2.output.trans h.output, Nat.le_trans h.size h2.size, fun k hk hn => (h2.block k (by omega)).trans (h.block k hk hn)⟩
theorem alloc (h : Upd fp w w') (o : Obj) : Upd fp w (w'.alloc o) :=
  ⟨h.os, h.tape, h.output, Nat.le_trans h.size (by simp), fun k hk hn => (Below.heap_alloc _ _ _ (Nat.lt_of_lt_of_le hk h.size)).trans (h.block k hk hn)⟩
theorem drew (h : Upd fp w w') : Upd fp w w'.drew := ⟨h.os, h.tape, h.output, h.size, h.block⟩
theorem setCell (h : Upd fp w w') {p : Addr} (hp : fp p.block ∨ w.heap.size ≤ p.block) (u : Value) : Upd fp w (w'.setCell p u) :=
  ⟨h.os, h.tape, h.output, Nat.le_trans h.size (by simp [World.setCell]), fun k hk hn => (Below.heap_setCell _ _ _ _ (fun e => by subst e; rcases hp with h1 | h1; exact hn h1; omega)).trans (h.block k hk hn)⟩
theorem cell (h : Upd fp w w') {b : Nat} (hb : b < w.heap.size) (hn : ¬ fp b) (o : Nat) : w'.cell? ⟨b, o, none⟩ = w.cell? ⟨b, o, none⟩ :=
  World.cell?_of_block (a := ⟨b, o, none⟩) (h.block b hb hn)
theorem frozen (h : Upd fp w w') {b : Nat} (hb : b < w.heap.size) (hn : ¬ fp b) (o : Nat) : w'.frozen? ⟨b, o, none⟩ = w.frozen? ⟨b, o, none⟩ :=
  World.frozen?_of_block (a := ⟨b, o, none⟩) (h.block b hb hn)
theorem row (h : Upd fp w w') {base : Nat} {e : TypeId} {sz n : Nat} {v : Value} {xs : List Value} (hr : w.ownsRow base e sz v n xs) (hn : ∀ g, v.ownBlock = some g → ¬ fp g) : w'.ownsRow base e sz v n xs := by
  obtain ⟨h1, h2⟩ := hr
  refine ⟨h1, ?_⟩
  rcases h2 with h2 | ⟨g, cap, cur, hv, hg, hh, r⟩
  · exact Or.inl h2
  · subst hv
    have hlt : g < w.heap.size := (Array.getElem?_eq_some_iff.1 hh).1
    exact Or.inr ⟨g, cap, cur, rfl, hg, by rw [h.block g hlt (hn g rfl)]; exact hh, r⟩
end Upd

theorem Upd.keep {fp : Nat → Prop} {w w' : World} (h : Upd fp w w') {b : Nat} {o : Obj} (hb : w.heap[b]? = some o) (hn : ¬ fp b) : w'.heap[b]? = some o :=
  (h.block b (Array.getElem?_eq_some_iff.1 hb).1 hn).trans hb
theorem blk_lt {w : World} {b : Nat} {o : Obj} (hb : w.heap[b]? = some o) : b < w.heap.size := (Array.getElem?_eq_some_iff.1 hb).1
theorem alloc_at (w : World) (o : Obj) : (w.alloc o).heap[w.heap.size]? = some o := heap_alloc_new w o
theorem alloc_old {w : World} {b : Nat} {x : Obj} (hb : w.heap[b]? = some x) (o : Obj) : (w.alloc o).heap[b]? = some x := (Below.heap_alloc w o b (blk_lt hb)).trans hb
theorem alloc2_at (w : World) (o1 o2 : Obj) : ((w.alloc o1).alloc o2).heap[w.heap.size + 1]? = some o2 := by simpa using alloc_at (w.alloc o1) o2
theorem alloc2_at0 (w : World) (o1 o2 : Obj) : ((w.alloc o1).alloc o2).heap[w.heap.size]? = some o1 := alloc_old (alloc_at w o1) o2
theorem cell_at {w : World} {b : Nat} {cs : Array Value} {T : TypeId} {fr : Nat × Nat} (h : w.heap[b]? = some (.cells cs T fr)) (o : Nat) : w.cell? ⟨b, o, none⟩ = cs[o]? := by
  simp [World.cell?, h]
theorem cells1 {w : World} {b : Nat} {x : Value} {T : TypeId} (h : w.heap[b]? = some (.cells #[x] T (0, 0))) : w.cell? ⟨b, 0, none⟩ = some x ∧ w.frozen? ⟨b, 0, none⟩ = false := by
  refine ⟨by rw [cell_at h]; rfl, ?_⟩
  simp [World.frozen?, h]
theorem cells2 {w : World} {b : Nat} {x y : Value} {T : TypeId} (h : w.heap[b]? = some (.cells #[x, y] T (0, 0))) :
    w.cell? ⟨b, 0, none⟩ = some x ∧ w.cell? ⟨b, 1, none⟩ = some y ∧ w.frozen? ⟨b, 0, none⟩ = false ∧ w.frozen? ⟨b, 1, none⟩ = false := by
  refine ⟨by rw [cell_at h]; rfl, by rw [cell_at h]; rfl, ?_, ?_⟩ <;> simp [World.frozen?, h]
theorem cells3 {w : World} {b : Nat} {x y z : Value} {T : TypeId} (h : w.heap[b]? = some (.cells #[x, y, z] T (0, 0))) :
    w.cell? ⟨b, 0, none⟩ = some x ∧ w.cell? ⟨b, 1, none⟩ = some y ∧ w.cell? ⟨b, 2, none⟩ = some z ∧ w.frozen? ⟨b, 0, none⟩ = false ∧ w.frozen? ⟨b, 1, none⟩ = false ∧ w.frozen? ⟨b, 2, none⟩ = false := by
  refine ⟨by rw [cell_at h]; rfl, by rw [cell_at h]; rfl, by rw [cell_at h]; rfl, ?_, ?_, ?_⟩ <;> simp [World.frozen?, h]
theorem cells4 {w : World} {b : Nat} {x y z u : Value} {T : TypeId} (h : w.heap[b]? = some (.cells #[x, y, z, u] T (0, 0))) :
    w.cell? ⟨b, 0, none⟩ = some x ∧ w.cell? ⟨b, 1, none⟩ = some y ∧ w.cell? ⟨b, 2, none⟩ = some z ∧ w.cell? ⟨b, 3, none⟩ = some u ∧
      w.frozen? ⟨b, 0, none⟩ = false ∧ w.frozen? ⟨b, 1, none⟩ = false ∧ w.frozen? ⟨b, 2, none⟩ = false ∧ w.frozen? ⟨b, 3, none⟩ = false := by
  refine ⟨by rw [cell_at h]; rfl, by rw [cell_at h]; rfl, by rw [cell_at h]; rfl, by rw [cell_at h]; rfl, ?_, ?_, ?_, ?_⟩ <;> simp [World.frozen?, h]
theorem setCell_at {w : World} {b : Nat} {cs : Array Value} {T : TypeId} {fr : Nat × Nat} (h : w.heap[b]? = some (.cells cs T fr)) (o : Nat) (v : Value) :
    (w.setCell ⟨b, o, none⟩ v).heap[b]? = some (.cells (cs.setIfInBounds o v) T fr) := by
  simp [World.setCell, Array.getElem?_modify, h]
theorem setCell_old {w : World} {b c : Nat} {x : Obj} (h : w.heap[b]? = some x) (hne : b ≠ c) (o : Nat) (v : Value) : (w.setCell ⟨c, o, none⟩ v).heap[b]? = some x := by
  rw [Below.heap_setCell _ _ _ _ (by simpa using hne), h]
theorem setCell_upd {w : World} {b : Nat} (o : Nat) (v : Value) : Upd (· = b) w (w.setCell ⟨b, o, none⟩ v) := (Upd.refl (· = b) w).setCell (p := ⟨b, o, none⟩) (Or.inl rfl) v
theorem setCell2_upd {w : World} {b : Nat} (v u : Value) : Upd (· = b) w ((w.setCell ⟨b, 0, none⟩ v).setCell ⟨b, 1, none⟩ u) := (setCell_upd (w := w) 0 v).trans (setCell_upd 1 u) (fun _ hk => Or.inl hk)
theorem setCell2_at {w : World} {b : Nat} {x y : Value} {T : TypeId} {fr : Nat × Nat} (h : w.heap[b]? = some (.cells #[x, y] T fr)) (v u : Value) :
    ((w.setCell ⟨b, 0, none⟩ v).setCell ⟨b, 1, none⟩ u).heap[b]? = some (.cells #[v, u] T fr) := by
  rw [setCell_at (setCell_at h 0 v) 1 u]; rfl
theorem row_lt {w : World} {base : Nat} {e : TypeId} {sz n : Nat} {v : Value} {xs : List Value} (h : w.ownsRow base e sz v n xs) {g : Nat} (hg : v.ownBlock = some g) : g < w.heap.size := (h.lt g hg).2

theorem grown_drew {w w' : World} {r : Option Nat} (h : w.drew.grownBy w' r) : w.grownBy w' r := ⟨h.os, h.tape, h.output, h.size, h.block⟩

/-- the footprint of nothing. -/
abbrev noFp : Nat → Prop := fun _ => False

/-- A slice of one-cell elements that can be read. -/
def NoElems (v : Value) : Prop := v = .slice none 0 0 ∨ ∃ a c, v = .slice (some a) 0 c
def Rd (w : World) (v : Value) (xs : List Value) : Prop :=
  (NoElems v ∧ xs = []) ∨ ∃ b off n c, v = .slice (some ⟨b, off, none⟩) n c ∧ n = xs.length ∧ ∀ j u, xs[j]? = some u → w.cell? ⟨b, off + j, none⟩ = some u

theorem Rd.ofOwns {w : World} {base : Nat} {e : TypeId} {v : Value} {n : Nat} {xs : List Value} (h : w.ownsRow base e 1 v n xs) : Rd w v xs := by
  obtain ⟨h1, ⟨rfl, rfl⟩ | ⟨g, cap, cur, rfl, hb, hg, hn, hc, hs, ht⟩⟩ := h
  · exact Or.inl ⟨Or.inl rfl, List.eq_nil_of_length_eq_zero (by simpa using h1)⟩
  · refine Or.inr ⟨g, 0, n, cap, rfl, by omega, fun j u hu => ?_⟩
    have := (World.ownsRow.cellAt (w := w) (base := base) (e := e) (size := 1) (g := g) (n := n) (cap := cap) (xs := xs) ⟨h1, Or.inr ⟨g, cap, cur, rfl, hb, hg, hn, hc, hs, ht⟩⟩ j (by have := (List.getElem?_eq_some_iff.1 hu).1; omega))
    simpa [hu] using this

theorem ownsRow_base0 {w : World} {base : Nat} {e : TypeId} {sz : Nat} {v : Value} {n : Nat} {xs : List Value} (h : w.ownsRow base e sz v n xs) : w.ownsRow 0 e sz v n xs := by
  obtain ⟨h1, h2 | ⟨g, cap, cur, hv, hb, r⟩⟩ := h
  · exact ⟨h1, Or.inl h2⟩
  · exact ⟨h1, Or.inr ⟨g, cap, cur, hv, Nat.zero_le _, r⟩⟩

theorem ownsRow_from {w : World} {base base' : Nat} {e : TypeId} {sz : Nat} {v : Value} {n : Nat} {xs : List Value} (h : w.ownsRow base e sz v n xs) (hb : ∀ g, v.ownBlock = some g → base' ≤ g) : w.ownsRow base' e sz v n xs := by
  obtain ⟨h1, h2 | ⟨g, cap, cur, hv, _, r⟩⟩ := h
  · exact ⟨h1, Or.inl h2⟩
  · subst hv; exact ⟨h1, Or.inr ⟨g, cap, cur, rfl, hb g rfl, r⟩⟩

theorem Rd.upd {fp : Nat → Prop} {w w' : World} {v : Value} {xs : List Value} (h : Rd w v xs) (hu : Upd fp w w') (hn : ∀ g, v.ownBlock = some g → g < w.heap.size ∧ ¬ fp g) : Rd w' v xs := by
  rcases h with h | ⟨b, off, n, c, rfl, hl, hc⟩
  · exact Or.inl h
  · obtain ⟨h1, h2⟩ := hn b rfl
    exact Or.inr ⟨b, off, n, c, rfl, hl, fun j u hj => (hu.cell h1 h2 _).trans (hc j u hj)⟩

theorem cell_lt {w : World} {b o : Nat} {v : Value} (h : w.cell? ⟨b, o, none⟩ = some v) : b < w.heap.size := World.block_lt_of_cell? w ⟨b, o, none⟩ h
theorem Rd.keep {fp : Nat → Prop} {w w' : World} {v : Value} {xs : List Value} (h : Rd w v xs) (hu : Upd fp w w') (hn : ∀ g, v.ownBlock = some g → ¬ fp g) : Rd w' v xs := by
  rcases h with h | ⟨b, off, n, c, rfl, hl, hc⟩
  · exact Or.inl h
  · exact Or.inr ⟨b, off, n, c, rfl, hl, fun j u hj => (hu.cell (cell_lt (hc j u hj)) (hn b rfl) _).trans (hc j u hj)⟩
theorem Rd.below {w w' : World} {v : Value} {xs : List Value} (h : Rd w v xs) (hu : Below w.heap.size w w') : Rd w' v xs := h.keep (Upd.ofBelow (fp := noFp) hu) (fun _ _ h => h)
theorem Rd.shape {w : World} {v : Value} {xs : List Value} (h : Rd w v xs) : ∃ a c, v = .slice a xs.length c := by
  rcases h with ⟨rfl | ⟨a, c, rfl⟩, rfl⟩ | ⟨b, off, n, c, rfl, rfl, _⟩
  · exact ⟨_, _, rfl⟩
  · exact ⟨_, _, rfl⟩
  · exact ⟨_, _, rfl⟩

theorem wpList_on {P : Program} {w : World} {ops : Array Oper} {rest : List Oper} {o : Oper} {a : Act} {Q : Exit → Act → World → Prop} (hw : Region.wanted o (yielded ops a.tmps) = true)
    (h : ∀ K : Act → World → Prop, (∀ a w, wpList P ops Q rest a w → K a w) → o.wp P a w K Q) : wpList P ops Q (o :: rest) a w :=
  wpList_step fun K hK => by rw [if_pos hw]; exact h K hK
/-- the blocks of one that is appended to. -/
theorem run_append_rd {P : Program} (w : World) (t ty e : TypeId) (i : TypeInfo) (z : Value) (bytes : Nat) (ht : P.underlying t = some (.slice e)) (hi : P.info? e = some i) (hz : i.zero = some z)
    (hsize : i.size = 1) (hby : i.bytes = bytes) (hzs : z.cells.size = 1)
    (v x : Value) (n m : Nat) (xs news : List Value) (hown : w.ownsRow 0 e 1 v n xs) (hx : Rd w x news) (hm : m = news.length) (h1 : ∀ u ∈ news, u.oneCell' = true)
    (h63 : n + m ≤ maxLen) (hbytes : (n + m) * bytes ≤ 140737488355328) :
    ∃ v' w', (Builtin.append_ #[t, t] ty #[v, x]).run P w = .ok v' w' ∧ w'.ownsRow 0 e 1 v' (n + m) (xs ++ news) ∧ w.grownBy w' v.ownBlock ∧
      (v'.ownBlock = v.ownBlock ∨ ∃ g, v'.ownBlock = some g ∧ w.heap.size ≤ g) ∧ w'.ownsRow 0 e 1 v n xs := by
  subst hby
  have hsmall : n + m ≤ 9223372036854775807 := by simp only [maxLen] at h63; omega
  have hxl := hown.1
  rcases hx with ⟨rfl | ⟨ad, c0, rfl⟩, rfl⟩ | ⟨b, off, m', c, rfl, hl, hnews⟩
  rotate_left
  · subst hm
    refine ⟨v, w, ?_, by simpa using hown, ⟨rfl, rfl, rfl, Nat.le_refl _, fun _ _ _ => rfl⟩, Or.inl rfl, hown⟩
    have hnc : ∃ a cap, v = .slice a n cap ∧ n ≤ cap := by
      rcases hown.2 with ⟨rfl, rfl⟩ | ⟨g, cap, cur, rfl, _, _, hnc, _⟩
      · exact ⟨none, 0, rfl, Nat.le_refl _⟩
      · exact ⟨_, cap, rfl, hnc⟩
    obtain ⟨a, cap, rfl, hnc⟩ := hnc
    cases a <;> simp [Builtin.append_, run_underlying ht, sizeOf, typeInfo, hi, Builtin.lenOf, hnc, Builtin.firstCells, loadCells, loadCellsFrom, storeCells]
  rotate_left
  · subst hm
    refine ⟨v, w, run_append_owned_none (P := P) (w := w) 0 t ty e i 1 ht hi v n xs hown, by simpa using hown, ⟨rfl, rfl, rfl, Nat.le_refl _, fun _ _ _ => rfl⟩, Or.inl rfl, hown⟩
  · obtain rfl : m' = m := by omega
    clear hm
    rcases hown.2 with ⟨rfl, rfl⟩ | ⟨g, cap, cur, rfl, hbg, hg, hnc, hcm, hcs, htake⟩
    · have hx : xs = [] := List.eq_nil_of_length_eq_zero (by simpa using hown.1)
      subst hx
      have hown' : w.ownsRow w.heap.size e 1 (.slice none 0 0) 0 [] := World.ownsRow_nil w _ e 1
      obtain ⟨v', w', hr, ho, hg, hn⟩ := run_append_own (P := P) w w.heap.size t ty e i z 1 i.bytes ht hi hz hsize rfl hzs (by omega) (.slice none 0 0) 0 [] hown' ⟨b, off, none⟩ m' c news (by omega) (by simpa [Addr.add_lit] using hnews) h1 h63 hbytes (Nat.le_refl _)
      refine ⟨v', w', hr, ownsRow_base0 ho, hg, ?_, World.ownsRow_nil _ _ _ _⟩
      rcases ho.2 with ⟨rfl, _⟩ | ⟨g', _, _, rfl, hb', _⟩
      · exact Or.inl rfl
      · exact Or.inr ⟨g', rfl, hb'⟩
    · by_cases hroom : n + m' ≤ cap
      · have hfit : n * i.size + news.length ≤ cur.size := by rw [hsize, hcs]; omega
        have hr := run_append_room (P := P) w t ty e i ht hi g n cap cur hg ⟨b, off, none⟩ m' c news (by rw [hsize]; omega) (by simpa [Addr.add_lit] using hnews) h1 hroom hfit
        refine ⟨_, _, hr, ⟨by simp; omega, .inr ⟨g, cap, _, rfl, hbg, setRow_heap w g cur _ e _ hg, hroom, hcm, ?_, ?_⟩⟩, ⟨rfl, rfl, rfl, by simp, fun k _ hk => setRow_other w g k _ (fun e => hk (by simp [Value.ownBlock, e]))⟩, Or.inl rfl, ⟨hown.1, .inr ⟨g, cap, _, rfl, hbg, setRow_heap w g cur _ e _ hg, hnc, hcm, ?_, ?_⟩⟩⟩
        · simp only [List.size_toArray, List.length_append, List.length_take, List.length_drop, Array.length_toList]
          rw [hsize] at hfit ⊢
          omega
        · rw [hsize, htake, show (n + m') * 1 = (xs ++ news).length by simp; omega]
          exact List.take_left
        · simp only [List.size_toArray, List.length_append, List.length_take, List.length_drop, Array.length_toList]
          rw [hsize] at hfit ⊢
          omega
        · rw [hsize, htake, List.append_assoc, show n * 1 = xs.length by omega]
          exact List.take_left
      · have hown0 := hown
        have holds : ∀ j u, xs[j]? = some u → w.cell? ((⟨g, 0, none⟩ : Addr).add j) = some u := hown.cells (g := g) rfl
        have hr := run_append_grow (P := P) w t ty e i z ht hi hz ⟨g, 0, none⟩ n cap xs (by rw [hsize]; exact hown.1) holds ⟨b, off, none⟩ m' c news (by rw [hsize]; omega) (by simpa [Addr.add_lit] using hnews) (by omega) (by omega) (growslice_fits (by omega) hbytes)
        have hge := grownCap_ge w (n + m') cap e
        have hcm : grownCap w (n + m') cap e ≤ maxLen := grownCap_le_maxLen w (n + m') cap e h63
        refine ⟨_, _, hr, ⟨by simp; omega, .inr ⟨w.heap.size, _, _, rfl, Nat.zero_le _, heap_alloc_new w.drew _, hge, hcm, ?_, ?_⟩⟩, ⟨rfl, rfl, rfl, by simp, fun k hk _ => Below.heap_alloc w.drew _ k hk⟩, Or.inr ⟨w.heap.size, rfl, Nat.le_refl _⟩, (((Upd.refl noFp w).drew).alloc _).row hown (fun _ _ h => h)⟩
        · simp only [Array.size_append, List.size_toArray, size_zeroCells, hzs, hown.1]
          omega
        · simp only [Array.toList_append, List.append_assoc]
          rw [← List.append_assoc, show (n + m') * 1 = (xs ++ news).length by simp; omega]
          exact List.take_left

theorem wpList_append_rd {P : Program} {w : World} {ops : Array Oper} {rest : List Oper} {o : Oper} {a : Act} {Q : Exit → Act → World → Prop} (hgd : Region.wanted o (yielded ops a.tmps) = true) (s x : Operand) (t : TypeId)
    (ho : o.op = .call { callee := .builtin .append, args := #[s, x], argTypes := #[t, t] })
    (e : TypeId) (i : TypeInfo) (z : Value) (bytes : Nat) (ht : P.underlying t = some (.slice e)) (hi : P.info? e = some i) (hz : i.zero = some z)
    (hsize : i.size = 1) (hby : i.bytes = bytes) (hzs : z.cells.size = 1)
    (v vx : Value) (n m : Nat) (xs news : List Value) (hs : a.eval s = v) (hown : w.ownsRow 0 e 1 v n xs) (hx : a.eval x = vx) (hrd : Rd w vx news) (hm : m = news.length) (h1 : ∀ u ∈ news, u.oneCell' = true)
    (h63 : n + m ≤ maxLen) (hbytes : (n + m) * bytes ≤ 140737488355328)
    (h : ∀ v' w', w'.ownsRow 0 e 1 v' (n + m) (xs ++ news) → w.grownBy w' v.ownBlock → (v'.ownBlock = v.ownBlock ∨ ∃ g, v'.ownBlock = some g ∧ w.heap.size ≤ g) → w'.ownsRow 0 e 1 v n xs → wpList P ops Q rest (a.put o.dst v') w') : wpList P ops Q (o :: rest) a w := by
  refine wpList_on hgd fun K hK => ?_
  obtain ⟨v', w', hr, h2, h3, h4, h5⟩ := run_append_rd (P := P) w t o.type e i z bytes ht hi hz hsize hby hzs v vx n m xs news hown hrd hm h1 h63 hbytes
  unfold Oper.wp execOp
  simp only [ho, resolve, invoke, builtin, Sem.run_bind, Sem.run_pure, Result.andThen_ok, List.map_toArray, List.map_cons, List.map_nil, hs, hx, hr]
  exact hK _ _ (h v' w' h2 h3 h4 h5)

/-- A region that draws: reads ahead, n of them; then a forced tail. -/
theorem wp_region_tail {P : Program} {id : Nat} {Q : Exit → Act → World → Prop} {a : Act} {w : World} {l : List Oper} (n : Nat) (hm : P.follows .mixedOrders = true) (hB : Region.lexTailB .any l.toArray n = true)
    (h : wpStill P l.toArray w.drew (fun a' => wpList P l.toArray Q (l.drop n) a' w.drew) (l.take n) a) : (Code.region id l.toArray true).wp P Q a w :=
  wp_region_still_tail n hm hB h
theorem wp_region_reads {P : Program} {id : Nat} {Q : Exit → Act → World → Prop} {a : Act} {w : World} {l : List Oper} (hm : P.follows .mixedOrders = true) (hB : Region.lexB .any l.toArray = true)
    (h : wpStill P l.toArray w.drew (fun a' => Q .normal a' w.drew) l a) : (Code.region id l.toArray true).wp P Q a w :=
  wp_region_still_lit hm hB h

/-! ### maps as functions -/
/-- Block b is a map of n entries, whose value at a key is g's. -/
def MapIs (P : Program) (k : TypeId) (w : World) (b n : Nat) (g : Value → Option Value) : Prop :=
  ∃ es clock, w.heap[b]? = some (.map es clock) ∧ es.size = n ∧ n ≤ maxLen ∧ Stamped es clock ∧ (∀ x ∈ es.toList, ∃ l, keyOf P k x.key = some l) ∧
    ∀ key v, g key = some v ↔ ∃ x ∈ es.toList, x.key = key ∧ x.val = v

namespace MapIs
variable {P : Program} {k : TypeId} {w : World} {b n : Nat} {g : Value → Option Value}
theorem lt (h : MapIs P k w b n g) : b < w.heap.size := by
  obtain ⟨es, clock, hb, _⟩ := h
  exact (Array.getElem?_eq_some_iff.1 hb).1
theorem of_block {w' : World} (h : MapIs P k w b n g) (hb : w'.heap[b]? = w.heap[b]?) : MapIs P k w' b n g := by
  obtain ⟨es, clock, h1, r⟩ := h
  exact ⟨es, clock, hb.trans h1, r⟩
theorem upd {fp : Nat → Prop} {w' : World} (h : MapIs P k w b n g) (hu : Upd fp w w') (hn : ¬ fp b) : MapIs P k w' b n g := h.of_block (hu.block b h.lt hn)
theorem upd' {fp : Nat → Prop} {w' : World} (h : MapIs P k w b n g) (hu : Upd fp w w') (hn : fp b → False) : MapIs P k w' b n g := h.of_block (hu.block b h.lt hn)
theorem alloc (h : MapIs P k w b n g) (o : Obj) : MapIs P k (w.alloc o) b n g := h.of_block (Below.heap_alloc _ _ _ h.lt)
theorem drew (h : MapIs P k w b n g) : MapIs P k w.drew b n g := h
theorem made (P : Program) (k : TypeId) (w : World) : MapIs P k (w.alloc (.map #[] 0)) w.heap.size 0 (fun _ => none) :=
  ⟨#[], 0, (heap_alloc w _).1, rfl, Nat.zero_le _, stamped_empty 0, by simp, by simp⟩
theorem nodup_inj {l : List Value} (h : l.Nodup) {i j : Nat} (hi : i < l.length) (hj : j < l.length) (he : l[i] = l[j]) : i = j := by
  rcases Nat.lt_trichotomy i j with h1 | h1 | h1
  · exact absurd he (List.pairwise_iff_getElem.1 h i j hi hj h1)
  · exact h1
  · exact absurd he.symm (List.pairwise_iff_getElem.1 h j i hj hi h1)
theorem stamped_idx {es : Array MapEntry} {clock : Nat} (h : Stamped es clock) {i j : Nat} {hi : i < es.size} {hj : j < es.size} (he : es[i] = es[j]) : i = j := by
  obtain ⟨_, _, h3⟩ := h
  exact nodup_inj h3 (i := i) (j := j) (by simpa using hi) (by simpa using hj) (by simp [he])
theorem key_uniq {es : Array MapEntry} {clock : Nat} (h : Stamped es clock) {x y : MapEntry} (hx : x ∈ es.toList) (hy : y ∈ es.toList) (hk : x.key = y.key) : x = y := by
  obtain ⟨_, _, h3⟩ := h
  obtain ⟨i, hi, rfl⟩ := List.mem_iff_getElem.1 hx
  obtain ⟨j, hj, rfl⟩ := List.mem_iff_getElem.1 hy
  have := nodup_inj h3 (i := i) (j := j) (by simpa using hi) (by simpa using hj) (by simpa using hk)
  subst this
  rfl
theorem run_lookup (h : MapIs P k w b n g) (K : Keyed P k) {t e : TypeId} (ht : P.underlying t = some (.map k e)) {z : Value} (hz : (zeroValue e).run P w = .ok z w) {key : Value} {kl : Lit} (hkey : keyOf P k key = some kl) (ok : Bool) :
    (Instr.lookup t (.map (some b)) key ok).run P w = .ok (if ok then .tuple #[(g key).getD z, .bool (g key).isSome] else (g key).getD z) w := by
  obtain ⟨es, clock, hb, hn, _, hst, hks, hg⟩ := h
  rcases K.find w hkey es.toList hks with ⟨h1, h2⟩ | ⟨j, e0, h1, h2, h3⟩
  · have hgn : g key = none := by
      cases hgk : g key with
      | none => rfl
      | some v => obtain ⟨x, hx, hxk, _⟩ := (hg key v).1 hgk; exact absurd hxk (h2 x hx)
    cases ok <;> simp [Instr.lookup, run_underlying ht, MapKept.run_getObj_map hb, K.check w _ hkey, h1, hz, Result.andThen, hgn]
  · have hgs : g key = some e0.val := (hg key e0.val).2 ⟨e0, List.mem_of_getElem? h2, h3, rfl⟩
    cases ok <;> simp [Instr.lookup, run_underlying ht, MapKept.run_getObj_map hb, K.check w _ hkey, h1, Result.andThen, hgs]
open Classical in
theorem run_update (h : MapIs P k w b n g) (K : Keyed P k) {t e : TypeId} (ht : P.underlying t = some (.map k e)) {key val : Value} {kl : Lit} (hkey : keyOf P k key = some kl) (hroom : n < maxLen) :
    ∃ w', (Instr.mapUpdate t (.map (some b)) key val).run P w = .ok () w' ∧ MapIs P k w' b (if (g key).isSome then n else n + 1) (fun x => if x = key then some val else g x) ∧ w.grownBy w' (some b) ∧ w'.heap.size = w.heap.size := by
  obtain ⟨es, clock, hb, hn, hnm, hst, hks, hg⟩ := h
  rcases K.find w hkey es.toList hks with ⟨h1, h2⟩ | ⟨j, e0, h1, h2, h3⟩
  · have hgn : g key = none := by
      cases hgk : g key with
      | none => rfl
      | some v => obtain ⟨x, hx, hxk, _⟩ := (hg key v).1 hgk; exact absurd hxk (h2 x hx)
    refine ⟨{ w with heap := w.heap.setIfInBounds b (.map (es.push { key := key, val := val, born := clock }) (clock + 1)) }, by simp [Instr.mapUpdate, run_underlying ht, MapKept.run_getObj_map hb, K.check w _ hkey, h1, Result.andThen, MapKept.run_setObj_map _ hb], ⟨_, _, (heap_set hb).1, ?_, ?_, stamped_push hst h2, ?_, ?_⟩, ⟨rfl, rfl, rfl, by simp, fun r hr hne => (heap_set hb).2 r (fun e => hne (by rw [e]))⟩, by simp⟩
    · simp [hgn, hn]
    · simp [hgn]; omega
    · intro x hx
      simp only [Array.toList_push, List.mem_append, List.mem_singleton] at hx
      rcases hx with hx | rfl
      · exact hks x hx
      · exact ⟨kl, hkey⟩
    · intro key' v
      show (if key' = key then some val else g key') = some v ↔ _
      by_cases hkk : key' = key
      · subst hkk
        simp only [if_true, Array.toList_push, List.mem_append, List.mem_singleton]
        constructor
        · rintro ⟨⟩; exact ⟨_, Or.inr rfl, rfl, rfl⟩
        · rintro ⟨x, hx | rfl, hxk, rfl⟩
          · exact absurd hxk (h2 x hx)
          · rfl
      · rw [if_neg hkk, hg]
        simp only [Array.toList_push, List.mem_append, List.mem_singleton]
        constructor
        · rintro ⟨x, hx, r⟩; exact ⟨x, Or.inl hx, r⟩
        · rintro ⟨x, hx | rfl, r1, r2⟩
          · exact ⟨x, hx, r1, r2⟩
          · exact absurd r1.symm hkk
  · have hm0 : e0 ∈ es.toList := List.mem_of_getElem? h2
    have hgs : g key = some e0.val := (hg key e0.val).2 ⟨e0, hm0, h3, rfl⟩
    have hj : es[j]? = some e0 := by simpa using h2
    have hjk : (es[j]?.map (·.key)).getD key = key := by rw [hj]; simpa using h3
    have hstays := K.stays w hkey
    have hkeyf : ∀ e' ∈ es.toList, es[j]? = some e' → key = e'.key := fun e' _ he' => by rw [hj] at he'; cases he'; exact h3.symm
    refine ⟨{ w with heap := w.heap.setIfInBounds b (.map (es.modify j fun e' => { e' with key := key, val := val }) clock) }, ?_, ⟨es.modify j fun e' => { e' with key := key, val := val }, clock, (heap_set hb).1, ?_, ?_, stamped_modify hst _ _ (fun _ _ => rfl) (fun e' h1 h2 => hkeyf e' h1 h2), ?_, ?_⟩, ⟨rfl, rfl, rfl, by simp, fun r hr hne => (heap_set hb).2 r (fun e => hne (by rw [e]))⟩, by simp⟩
    · simp only [Instr.mapUpdate, run_underlying ht, Sem.run_bind, Result.andThen_ok, MapKept.run_getObj_map hb, K.check w _ hkey, h1]
      rw [hjk]
      simp [hstays, Result.andThen, MapKept.run_setObj_map _ hb]
    · simp [hgs, hn]
    · simpa [hgs] using hnm
    · intro x hx
      obtain ⟨i, hi, rfl⟩ := List.mem_iff_getElem.1 hx
      simp only [Array.getElem_toList, Array.getElem_modify] at *
      split
      · exact ⟨kl, hkey⟩
      · exact hks _ (by simp)
    · have hjlt : j < es.size := by have := (Array.getElem?_eq_some_iff.1 hj).1; exact this
      have hje : es[j] = e0 := (Array.getElem?_eq_some_iff.1 hj).2
      intro key' v
      show (if key' = key then some val else g key') = some v ↔ _
      constructor
      · intro hv
        split at hv
        · rename_i hkk
          cases hv
          exact ⟨{ e0 with key := key, val := val }, List.mem_iff_getElem.2 ⟨j, by simpa using hjlt, by simp [hje]⟩, hkk.symm, rfl⟩
        · rename_i hkk
          obtain ⟨x, hx, hxk, hxv⟩ := (hg key' v).1 hv
          obtain ⟨i, hi, rfl⟩ := List.mem_iff_getElem.1 hx
          have hij : j ≠ i := fun e => by subst e; apply hkk; rw [← hxk]; simp [hje, h3]
          exact ⟨_, List.mem_iff_getElem.2 ⟨i, by simpa using hi, by simp [hij]; rfl⟩, by simpa using hxk, by simpa using hxv⟩
      · rintro ⟨x, hx, hxk, hxv⟩
        obtain ⟨i, hi, rfl⟩ := List.mem_iff_getElem.1 hx
        have hi' : i < es.size := by simpa using hi
        simp only [Array.getElem_toList, Array.getElem_modify] at hxk hxv
        by_cases hij : j = i
        · simp only [hij, if_true] at hxk hxv
          rw [if_pos hxk.symm]
          exact congrArg _ hxv
        · simp only [hij, if_false] at hxk hxv
          have hne : key' ≠ key := fun e => by
            apply hij
            have := key_uniq hst (x := es[i]) (y := e0) (by simp) hm0 (by rw [hxk, e, h3])
            rw [← hje] at this
            exact (stamped_idx hst this).symm
          rw [if_neg hne]
          exact (hg key' v).2 ⟨es[i], by simp, hxk, hxv⟩
open Classical in
theorem run_delete (h : MapIs P k w b n g) (K : Keyed P k) {t e ty : TypeId} (ht : P.underlying t = some (.map k e)) {key : Value} {kl : Lit} (hkey : keyOf P k key = some kl) :
    ∃ w', (Builtin.delete_ #[t, k] ty #[.map (some b), key]).run P w = .ok (.tuple #[]) w' ∧ MapIs P k w' b (if (g key).isSome then n - 1 else n) (fun x => if x = key then none else g x) ∧ w.grownBy w' (some b) ∧ w'.heap.size = w.heap.size := by
  obtain ⟨es, clock, hb, hn, hnm, hst, hks, hg⟩ := h
  rcases K.find w hkey es.toList hks with ⟨h1, h2⟩ | ⟨j, e0, h1, h2, h3⟩
  · have hgn : g key = none := by
      cases hgk : g key with
      | none => rfl
      | some v => obtain ⟨x, hx, hxk, _⟩ := (hg key v).1 hgk; exact absurd hxk (h2 x hx)
    refine ⟨{ w with heap := w.heap.setIfInBounds b (.map es clock) }, by simp [Builtin.delete_, run_underlying ht, MapKept.run_getObj_map hb, K.check w _ hkey, h1, Result.andThen, MapKept.run_setObj_map _ hb], ⟨es, clock, (heap_set hb).1, ?_, ?_, hst, hks, ?_⟩, ⟨rfl, rfl, rfl, by simp, fun r hr hne => (heap_set hb).2 r (fun e => hne (by rw [e]))⟩, by simp⟩
    · simp [hgn, hn]
    · simpa [hgn] using hnm
    · intro key' v
      show (if key' = key then none else g key') = some v ↔ _
      by_cases hkk : key' = key
      · subst hkk
        simp only [if_true]
        constructor
        · intro e; cases e
        · rintro ⟨x, hx, hxk, _⟩; exact absurd hxk (h2 x hx)
      · rw [if_neg hkk, hg]
  · have hm0 : e0 ∈ es.toList := List.mem_of_getElem? h2
    have hgs : g key = some e0.val := (hg key e0.val).2 ⟨e0, hm0, h3, rfl⟩
    have hj : es[j]? = some e0 := by simpa using h2
    have hjlt : j < es.size := (Array.getElem?_eq_some_iff.1 hj).1
    have hje : es[j] = e0 := (Array.getElem?_eq_some_iff.1 hj).2
    have hsub : (es.eraseIdxIfInBounds j).toList = es.toList.eraseIdx j := by
      simp [Array.eraseIdxIfInBounds, hjlt]
    refine ⟨{ w with heap := w.heap.setIfInBounds b (.map (es.eraseIdxIfInBounds j) clock) }, ?_, ⟨es.eraseIdxIfInBounds j, clock, (heap_set hb).1, ?_, ?_, stamped_erase hst _, ?_, ?_⟩, ⟨rfl, rfl, rfl, by simp, fun r hr hne => (heap_set hb).2 r (fun e => hne (by rw [e]))⟩, by simp⟩
    · simp [Builtin.delete_, run_underlying ht, MapKept.run_getObj_map hb, K.check w _ hkey, h1, Result.andThen, MapKept.run_setObj_map _ hb]
    · rw [← Array.length_toList, hsub, List.length_eraseIdx, if_pos (by simpa using hjlt)]
      simp [hgs, hn]
    · simp [hgs]; omega
    · intro x hx
      rw [hsub] at hx
      exact hks x (List.mem_of_mem_eraseIdx hx)
    · intro key' v
      show (if key' = key then none else g key') = some v ↔ _
      rw [hsub]
      have hmem : ∀ x, x ∈ es.toList.eraseIdx j ↔ x ∈ es.toList ∧ x ≠ e0 := by
        intro x
        rw [List.mem_eraseIdx_iff_getElem]
        constructor
        · rintro ⟨i, hi, hij, rfl⟩
          exact ⟨by simp, fun e => hij (stamped_idx hst (i := i) (j := j) (hi := by simpa using hi) (hj := hjlt) (by simpa [hje] using e))⟩
        · rintro ⟨hx, hne⟩
          obtain ⟨i, hi, rfl⟩ := List.mem_iff_getElem.1 hx
          exact ⟨i, hi, fun e => hne (by subst e; simpa using hje), rfl⟩
      by_cases hkk : key' = key
      · subst hkk
        simp only [if_true]
        constructor
        · intro e; cases e
        · rintro ⟨x, hx, hxk, _⟩
          obtain ⟨hx1, hx2⟩ := (hmem x).1 hx
          exact absurd (key_uniq hst hx1 hm0 (by rw [hxk, h3])) hx2
      · rw [if_neg hkk, hg]
        constructor
        · rintro ⟨x, hx, hxk, r⟩
          exact ⟨x, (hmem x).2 ⟨hx, fun e => hkk (by rw [← hxk, e, h3])⟩, hxk, r⟩
        · rintro ⟨x, hx, r⟩
          exact ⟨x, ((hmem x).1 hx).1, r⟩
theorem run_len (h : MapIs P k w b n g) (t ty : TypeId) {e : TypeId} (ht : P.underlying t = some (.map k e)) : (Builtin.len_ #[t] ty #[.map (some b)]).run P w = .ok (.int .i64 n) w := by
  obtain ⟨es, clock, hb, hn, _⟩ := h
  subst hn
  simp [Builtin.len_, run_underlying ht, MapKept.run_getObj_map hb, Result.andThen, goInt]
end MapIs

section
variable {P : Program} {w : World} {ops : Array Oper} {rest : List Oper} {o : Oper} {a : Act} {Q : Exit → Act → World → Prop}
theorem wpList_map_lookup (hgd : Region.wanted o (yielded ops a.tmps) = true) (x ix : Operand) (t k e : TypeId) (ho : o.op = .lookup t x ix false) (ht : P.underlying t = some (.map k e)) (K : Keyed P k)
    (b n : Nat) (g : Value → Option Value) (hm : MapIs P k w b n g) (hx : a.eval x = .map (some b)) (key : Value) (hix : a.eval ix = key) (kl : Lit) (hkey : keyOf P k key = some kl)
    (z : Value) (hz : ∀ w, (zeroValue e).run P w = .ok z w) (v : Value) (hv : (g key).getD z = v)
    (h : wpList P ops Q rest (a.put o.dst v) w) : wpList P ops Q (o :: rest) a w := by
  refine wpList_on hgd fun K' hK => ?_
  have hr := hm.run_lookup K ht (hz w) hkey false
  unfold Oper.wp execOp
  simp only [ho, Sem.run_bind, hx, hix, hr, Result.andThen_ok, Sem.run_pure]
  simp only [Bool.false_eq_true, if_false, hv]
  exact hK _ _ h
theorem wpList_map_lookup_ok (hgd : Region.wanted o (yielded ops a.tmps) = true) (x ix : Operand) (t k e : TypeId) (ho : o.op = .lookup t x ix true) (ht : P.underlying t = some (.map k e)) (K : Keyed P k)
    (b n : Nat) (g : Value → Option Value) (hm : MapIs P k w b n g) (hx : a.eval x = .map (some b)) (key : Value) (hix : a.eval ix = key) (kl : Lit) (hkey : keyOf P k key = some kl)
    (z : Value) (hz : ∀ w, (zeroValue e).run P w = .ok z w) (v : Value) (hv : (g key).getD z = v) (there : Bool) (hb : (g key).isSome = there)
    (h : wpList P ops Q rest (a.put o.dst (.tuple #[v, .bool there])) w) : wpList P ops Q (o :: rest) a w := by
  refine wpList_on hgd fun K' hK => ?_
  have hr := hm.run_lookup K ht (hz w) hkey true
  unfold Oper.wp execOp
  simp only [ho, Sem.run_bind, hx, hix, hr, Result.andThen_ok, Sem.run_pure]
  simp only [if_true, hv, hb]
  exact hK _ _ h
open Classical in
theorem wpList_map_update (hgd : Region.wanted o (yielded ops a.tmps) = true) (x ix y : Operand) (t k e : TypeId) (ho : o.op = .mapUpdate t x ix y) (ht : P.underlying t = some (.map k e)) (K : Keyed P k)
    (b n : Nat) (g : Value → Option Value) (hm : MapIs P k w b n g) (hx : a.eval x = .map (some b)) (key : Value) (hix : a.eval ix = key) (kl : Lit) (hkey : keyOf P k key = some kl)
    (v : Value) (hy : a.eval y = v) (hroom : n < maxLen)
    (n' : Nat) (hn' : n' = if (g key).isSome then n else n + 1) (h : ∀ w', MapIs P k w' b n' (fun x => if x = key then some v else g x) → w.grownBy w' (some b) → w'.heap.size = w.heap.size → wpList P ops Q rest (a.put o.dst undef) w') : wpList P ops Q (o :: rest) a w := by
  refine wpList_on hgd fun K' hK => ?_
  obtain ⟨w', hr, h1, h2, h3⟩ := hm.run_update K ht hkey hroom (val := v)
  rw [← hn'] at h1
  unfold Oper.wp execOp
  simp only [ho, Sem.run_bind, hx, hix, hy, hr, Result.andThen_ok, Sem.run_pure]
  exact hK _ _ (h w' h1 h2 h3)
open Classical in
theorem wpList_map_delete (hgd : Region.wanted o (yielded ops a.tmps) = true) (x ix : Operand) (t k e : TypeId) (ho : o.op = .call { callee := .builtin .delete, args := #[x, ix], argTypes := #[t, k] }) (ht : P.underlying t = some (.map k e)) (K : Keyed P k)
    (b n : Nat) (g : Value → Option Value) (hm : MapIs P k w b n g) (hx : a.eval x = .map (some b)) (key : Value) (hix : a.eval ix = key) (kl : Lit) (hkey : keyOf P k key = some kl)
    (n' : Nat) (hn' : n' = if (g key).isSome then n - 1 else n) (h : ∀ w', MapIs P k w' b n' (fun x => if x = key then none else g x) → w.grownBy w' (some b) → w'.heap.size = w.heap.size → wpList P ops Q rest (a.put o.dst (.tuple #[])) w') : wpList P ops Q (o :: rest) a w := by
  refine wpList_on hgd fun K' hK => ?_
  obtain ⟨w', hr, h1, h2, h3⟩ := hm.run_delete K ht (ty := o.type) hkey
  rw [← hn'] at h1
  unfold Oper.wp execOp
  simp only [ho, resolve, invoke, builtin, Sem.run_bind, Sem.run_pure, Result.andThen_ok, List.map_toArray, List.map_cons, List.map_nil, hx, hix, hr]
  exact hK _ _ (h w' h1 h2 h3)
theorem wpList_map_len (hgd : Region.wanted o (yielded ops a.tmps) = true) (x : Operand) (t k e : TypeId) (ho : o.op = .call { callee := .builtin .len, args := #[x], argTypes := #[t] }) (ht : P.underlying t = some (.map k e))
    (b n : Nat) (g : Value → Option Value) (hm : MapIs P k w b n g) (hx : a.eval x = .map (some b))
    (h : wpList P ops Q rest (a.put o.dst (.int .i64 n)) w) : wpList P ops Q (o :: rest) a w := by
  refine wpList_on hgd fun K' hK => ?_
  have hr := hm.run_len (P := P) t o.type ht
  unfold Oper.wp execOp
  simp only [ho, resolve, invoke, builtin, Sem.run_bind, Sem.run_pure, Result.andThen_ok, List.map_toArray, List.map_cons, List.map_nil, hx, hr]
  exact hK _ _ h
/-- the byte of a string at a place. -/
def byteAt (s : ByteArray) (j : Nat) : UInt8 := s.data.toList.getD j 0
/-- '[]byte(s)': a new row that reads as the string's bytes. -/
theorem wpList_str_bytes (hgd : Region.wanted o (yielded ops a.tmps) = true) (x : Operand) (src dst e : TypeId) (ho : o.op = .convert src dst x) (s : ByteArray) (hx : a.eval x = .string s) {u : TypeDesc}
    (hs : P.underlying src = some u) (hd : P.underlying dst = some (.slice e)) (he : P.underlying e = some (.int .u8))
    (h : ∀ w' c, Below w.heap.size w w' → w'.heap.size = w.heap.size + 1 → s.size ≤ c → (∀ j, j < s.size → w'.cell? ⟨w.heap.size, j, none⟩ = some (.int .u8 (byteAt s j).toNat)) →
      wpList P ops Q rest (a.put o.dst (.slice (some ⟨w.heap.size, 0, none⟩) s.size c)) w') : wpList P ops Q (o :: rest) a w := by
  refine wpList_on hgd fun K' hK => ?_
  have hr := Lib.run_convert_string_bytes (P := P) w src dst e s hs hd he
  unfold Oper.wp execOp
  simp only [ho, Sem.run_bind, Sem.run_pure, Result.andThen_ok, hx, hr]
  refine hK _ _ (h _ _ ⟨?_, ?_, ?_, ?_, fun k hk => Lib.bytesWorld_at_old w e s k hk⟩ (Lib.bytesWorld_size w e s) (grownCap_ge _ _ _ _) (fun j hj => Lib.bytesWorld_cell w e s j hj))
  · simp [Lib.bytesWorld, World.freeze, World.alloc, World.drew, -World.alloc_eq, -World.drew_eq]
  · simp [Lib.bytesWorld, World.freeze, World.alloc, World.drew, -World.alloc_eq, -World.drew_eq]
  · simp [Lib.bytesWorld, World.freeze, World.alloc, World.drew, -World.alloc_eq, -World.drew_eq]
  · rw [Lib.bytesWorld_size]; omega
end
end Go.Proofs.YtnagejhpdhdpfaaGreatDoor
