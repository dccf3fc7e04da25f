/-
  Frames with a footprint, slices that are read, maps as functions: the ground of this seat's walks. No program here.
-/
import Derived.WalkKit
import Derived.WalkSpells
import Derived.WalkLawsBesides
import Derived.Maps.Own
import Derived.Maps.OwnSet
import Derived.Sort.KeysCollected
import Derived.AtR
import Derived.StillTailTactics
import Derived.Lib.ConvBytes
import Derived.Lib.Hide
import Std.Tactic
import Derived.Test.YtkacgmbinkoojaaGreatDoorProg
import Derived.BigQuiet
import Derived.Outline
import Derived.Deep.QuietTactic
namespace Go.Proofs.YtkacgmbinkoojaaGreatDoor
open Go.RowKit Go.Maps Go.MapKept

/-- Of what lay in w at most the blocks of fp have turned. -/
structure Upd (fp : Nat → Prop) (w w' : World) : Prop where
  os : w'.os = w.os
  tape : w'.tape = w.tape
  output : w'.output = w.output
  size : w.heap.size ≤ w'.heap.size
  block : ∀ k, k < w.heap.size → ¬ fp k → w'.heap[k]? = w.heap[k]?

namespace Upd
variable {fp fp' : Nat → Prop} {w w' w1 w2 : World}
theorem refl (fp : Nat → Prop) (w : World) : Upd fp w w := ⟨rfl, rfl, rfl, Nat.le_refl _, fun _ _ _ => rfl⟩
theorem mono (h : Upd fp w w') (hm : ∀ k, fp k → fp' k ∨ w.heap.size ≤ k) : Upd fp' w w' :=
  ⟨h.os, h.tape, h.output, h.size, fun k hk hn => h.block k hk (fun hf => by rcases hm k hf with h1 | h1; exact hn h1; omega)⟩
theorem trans (h : Upd fp w w1) (h2 : Upd fp' w1 w2) (hm : ∀ k, fp' k → fp k ∨ w.heap.size ≤ k) : Upd fp w w2 :=
  ⟨h2.os.trans h.os, h2.tape.trans h.tape, h2.output.trans h.output, Nat.le_trans h.size h2.size, fun k hk hn =>
    (h2.block k (Nat.lt_of_lt_of_le hk h.size) (fun hf => by rcases hm k hf with h1 | h1; exact hn h1; omega)).trans (h.block k hk hn)⟩
theorem grown {row : Option Nat} (h : Upd fp w w1) (hg : w1.grownBy w2 row) (hr : ∀ k, row = some k → fp k ∨ w.heap.size ≤ k) : Upd fp w w2 :=
  ⟨hg.os.trans h.os, hg.tape.trans h.tape, hg.output.trans h.output, Nat.le_trans h.size hg.size, fun k hk hn =>
    (hg.block k (Nat.lt_of_lt_of_le hk h.size) (fun e => by rcases hr k e.symm with h1 | h1; exact hn h1; omega)).trans (h.block k hk hn)⟩
theorem ofBelow (h : Below w.heap.size w w') : Upd fp w w' := ⟨h.os, h.tape, h.output, h.size, fun k hk _ => h.block k hk⟩
theorem below {N : Nat} (h : Upd fp w w') (hN : ∀ k, fp k → N ≤ k) (hs : N ≤ w.heap.size) : Below N w w' :=
  ⟨h.os, h.tape, h.output, h.size, fun k hk => h.block k (by omega) (fun hf => by have := hN k hf; omega)⟩
theorem thenBelow {N : Nat} (h : Upd fp w w1) (h2 : Below N w1 w2) (hN : w.heap.size ≤ N) : Upd fp w w2 :=
  ⟨h2.os.trans h.os, h2.tape.trans h.tape, h2.output.trans h.output, Nat.le_trans h.size h2.size, fun k hk hn => (h2.block k (by omega)).trans (h.block k hk hn)⟩
theorem alloc (h : Upd fp w w') (o : Obj) : Upd fp w (w'.alloc o) :=
  ⟨h.os, h.tape, h.output, Nat.le_trans h.size (by simp), fun k hk hn => (Below.heap_alloc _ _ _ (Nat.lt_of_lt_of_le hk h.size)).trans (h.block k hk hn)⟩
theorem drew (h : Upd fp w w') : Upd fp w w'.drew := ⟨h.os, h.tape, h.output, h.size, h.block⟩
theorem setCell (h : Upd fp w w') {p : Addr} (hp : fp p.block ∨ w.heap.size ≤ p.block) (u : Value) : Upd fp w (w'.setCell p u) :=
  ⟨h.os, h.tape, h.output, Nat.le_trans h.size (by simp [World.setCell]), fun k hk hn => (Below.heap_setCell _ _ _ _ (fun e => by subst e; rcases hp with h1 | h1; exact hn h1; omega)).trans (h.block k hk hn)⟩
theorem cell (h : Upd fp w w') {b : Nat} (hb : b < w.heap.size) (hn : ¬ fp b) (o : Nat) : w'.cell? ⟨b, o, none⟩ = w.cell? ⟨b, o, none⟩ :=
  World.cell?_of_block (a := ⟨b, o, none⟩) (h.block b hb hn)
theorem row (h : Upd fp w w') {base : Nat} {e : TypeId} {sz n : Nat} {v : Value} {xs : List Value} (hr : w.ownsRow base e sz v n xs) (hn : ∀ g, v.ownBlock = some g → ¬ fp g) : w'.ownsRow base e sz v n xs := by
  obtain ⟨h1, h2⟩ := hr
  refine ⟨h1, ?_⟩
  rcases h2 with h2 | ⟨g, cap, cur, hv, hg, hh, r⟩
  · exact Or.inl h2
  · subst hv
    have hlt : g < w.heap.size := (Array.getElem?_eq_some_iff.1 hh).1
    exact Or.inr ⟨g, cap, cur, rfl, hg, by rw [h.block g hlt (hn g rfl)]; exact hh, r⟩
end Upd

theorem Upd.keep {fp : Nat → Prop} {w w' : World} (h : Upd fp w w') {b : Nat} {o : Obj} (hb : w.heap[b]? = some o) (hn : ¬ fp b) : w'.heap[b]? = some o :=
  (h.block b (Array.getElem?_eq_some_iff.1 hb).1 hn).trans hb
theorem blk_lt {w : World} {b : Nat} {o : Obj} (hb : w.heap[b]? = some o) : b < w.heap.size := (Array.getElem?_eq_some_iff.1 hb).1
theorem alloc_at (w : World) (o : Obj) : (w.alloc o).heap[w.heap.size]? = some o := heap_alloc_new w o
theorem alloc_old {w : World} {b : Nat} {x : Obj} (hb : w.heap[b]? = some x) (o : Obj) : (w.alloc o).heap[b]? = some x := (Below.heap_alloc w o b (blk_lt hb)).trans hb
theorem alloc2_at (w : World) (o1 o2 : Obj) : ((w.alloc o1).alloc o2).heap[w.heap.size + 1]? = some o2 := by simpa using alloc_at (w.alloc o1) o2
theorem alloc2_at0 (w : World) (o1 o2 : Obj) : ((w.alloc o1).alloc o2).heap[w.heap.size]? = some o1 := alloc_old (alloc_at w o1) o2
theorem cell_at {w : World} {b : Nat} {cs : Array Value} {T : TypeId} {fr : Nat × Nat} (h : w.heap[b]? = some (.cells cs T fr)) (o : Nat) : w.cell? ⟨b, o, none⟩ = cs[o]? := by
  simp [World.cell?, h]
theorem cells1 {w : World} {b : Nat} {x : Value} {T : TypeId} (h : w.heap[b]? = some (.cells #[x] T (0, 0))) : w.cell? ⟨b, 0, none⟩ = some x ∧ w.frozen? ⟨b, 0, none⟩ = false := by
  refine ⟨by rw [cell_at h]; rfl, ?_⟩
  simp [World.frozen?, h]
theorem cells2 {w : World} {b : Nat} {x y : Value} {T : TypeId} (h : w.heap[b]? = some (.cells #[x, y] T (0, 0))) :
    w.cell? ⟨b, 0, none⟩ = some x ∧ w.cell? ⟨b, 1, none⟩ = some y ∧ w.frozen? ⟨b, 0, none⟩ = false ∧ w.frozen? ⟨b, 1, none⟩ = false := by
  refine ⟨by rw [cell_at h]; rfl, by rw [cell_at h]; rfl, ?_, ?_⟩ <;> simp [World.frozen?, h]
theorem cells3 {w : World} {b : Nat} {x y z : Value} {T : TypeId} (h : w.heap[b]? = some (.cells #[x, y, z] T (0, 0))) :
    w.cell? ⟨b, 0, none⟩ = some x ∧ w.cell? ⟨b, 1, none⟩ = some y ∧ w.cell? ⟨b, 2, none⟩ = some z ∧ w.frozen? ⟨b, 0, none⟩ = false ∧ w.frozen? ⟨b, 1, none⟩ = false ∧ w.frozen? ⟨b, 2, none⟩ = false := by
  refine ⟨by rw [cell_at h]; rfl, by rw [cell_at h]; rfl, by rw [cell_at h]; rfl, ?_, ?_, ?_⟩ <;> simp [World.frozen?, h]
theorem cells4 {w : World} {b : Nat} {x y z u : Value} {T : TypeId} (h : w.heap[b]? = some (.cells #[x, y, z, u] T (0, 0))) :
    w.cell? ⟨b, 0, none⟩ = some x ∧ w.cell? ⟨b, 1, none⟩ = some y ∧ w.cell? ⟨b, 2, none⟩ = some z ∧ w.cell? ⟨b, 3, none⟩ = some u ∧
      w.frozen? ⟨b, 0, none⟩ = false ∧ w.frozen? ⟨b, 1, none⟩ = false ∧ w.frozen? ⟨b, 2, none⟩ = false ∧ w.frozen? ⟨b, 3, none⟩ = false := by
  refine ⟨by rw [cell_at h]; rfl, by rw [cell_at h]; rfl, by rw [cell_at h]; rfl, by rw [cell_at h]; rfl, ?_, ?_, ?_, ?_⟩ <;> simp [World.frozen?, h]
theorem setCell_at {w : World} {b : Nat} {cs : Array Value} {T : TypeId} {fr : Nat × Nat} (h : w.heap[b]? = some (.cells cs T fr)) (o : Nat) (v : Value) :
    (w.setCell ⟨b, o, none⟩ v).heap[b]? = some (.cells (cs.setIfInBounds o v) T fr) := by
  simp [World.setCell, Array.getElem?_modify, h]
theorem setCell_old {w : World} {b c : Nat} {x : Obj} (h : w.heap[b]? = some x) (hne : b ≠ c) (o : Nat) (v : Value) : (w.setCell ⟨c, o, none⟩ v).heap[b]? = some x := by
  rw [Below.heap_setCell _ _ _ _ (by simpa using hne), h]
theorem setCell_upd {w : World} {b : Nat} (o : Nat) (v : Value) : Upd (· = b) w (w.setCell ⟨b, o, none⟩ v) := (Upd.refl (· = b) w).setCell (p := ⟨b, o, none⟩) (Or.inl rfl) v
theorem setCell2_upd {w : World} {b : Nat} (v u : Value) : Upd (· = b) w ((w.setCell ⟨b, 0, none⟩ v).setCell ⟨b, 1, none⟩ u) := (setCell_upd (w := w) 0 v).trans (setCell_upd 1 u) (fun _ hk => Or.inl hk)
theorem row_lt {w : World} {base : Nat} {e : TypeId} {sz n : Nat} {v : Value} {xs : List Value} (h : w.ownsRow base e sz v n xs) {g : Nat} (hg : v.ownBlock = some g) : g < w.heap.size := (h.lt g hg).2

theorem grown_drew {w w' : World} {r : Option Nat} (h : w.drew.grownBy w' r) : w.grownBy w' r := ⟨h.os, h.tape, h.output, h.size, h.block⟩

/-- the footprint of nothing. -/
abbrev noFp : Nat → Prop := fun _ => False

/-- A slice of one-cell elements that can be read. -/
def NoElems (v : Value) : Prop := v = .slice none 0 0 ∨ ∃ a c, v = .slice (some a) 0 c
def Rd (w : World) (v : Value) (xs : List Value) : Prop :=
  (NoElems v ∧ xs = []) ∨ ∃ b off n c, v = .slice (some ⟨b, off, none⟩) n c ∧ n = xs.length ∧ ∀ j u, xs[j]? = some u → w.cell? ⟨b, off + j, none⟩ = some u

theorem Rd.ofOwns {w : World} {base : Nat} {e : TypeId} {v : Value} {n : Nat} {xs : List Value} (h : w.ownsRow base e 1 v n xs) : Rd w v xs := by
  obtain ⟨h1, ⟨rfl, rfl⟩ | ⟨g, cap, cur, rfl, hb, hg, hn, hc, hs, ht⟩⟩ := h
  · exact Or.inl ⟨Or.inl rfl, List.eq_nil_of_length_eq_zero (by simpa using h1)⟩
  · refine Or.inr ⟨g, 0, n, cap, rfl, by omega, fun j u hu => ?_⟩
    have := (World.ownsRow.cellAt (w := w) (base := base) (e := e) (size := 1) (g := g) (n := n) (cap := cap) (xs := xs) ⟨h1, Or.inr ⟨g, cap, cur, rfl, hb, hg, hn, hc, hs, ht⟩⟩ j (by have := (List.getElem?_eq_some_iff.1 hu).1; omega))
    simpa [hu] using this

theorem ownsRow_base0 {w : World} {base : Nat} {e : TypeId} {sz : Nat} {v : Value} {n : Nat} {xs : List Value} (h : w.ownsRow base e sz v n xs) : w.ownsRow 0 e sz v n xs := by
  obtain ⟨h1, h2 | ⟨g, cap, cur, hv, hb, r⟩⟩ := h
  · exact ⟨h1, Or.inl h2⟩
  · exact ⟨h1, Or.inr ⟨g, cap, cur, hv, Nat.zero_le _, r⟩⟩

theorem ownsRow_from {w : World} {base base' : Nat} {e : TypeId} {sz : Nat} {v : Value} {n : Nat} {xs : List Value} (h : w.ownsRow base e sz v n xs) (hb : ∀ g, v.ownBlock = some g → base' ≤ g) : w.ownsRow base' e sz v n xs := by
  obtain ⟨h1, h2 | ⟨g, cap, cur, hv, _, r⟩⟩ := h
  · exact ⟨h1, Or.inl h2⟩
  · subst hv; exact ⟨h1, Or.inr ⟨g, cap, cur, rfl, hb g rfl, r⟩⟩

theorem Rd.upd {fp : Nat → Prop} {w w' : World} {v : Value} {xs : List Value} (h : Rd w v xs) (hu : Upd fp w w') (hn : ∀ g, v.ownBlock = some g → g < w.heap.size ∧ ¬ fp g) : Rd w' v xs := by
  rcases h with h | ⟨b, off, n, c, rfl, hl, hc⟩
  · exact Or.inl h
  · obtain ⟨h1, h2⟩ := hn b rfl
    exact Or.inr ⟨b, off, n, c, rfl, hl, fun j u hj => (hu.cell h1 h2 _).trans (hc j u hj)⟩

theorem cell_lt {w : World} {b o : Nat} {v : Value} (h : w.cell? ⟨b, o, none⟩ = some v) : b < w.heap.size := World.block_lt_of_cell? w ⟨b, o, none⟩ h
theorem Rd.keep {fp : Nat → Prop} {w w' : World} {v : Value} {xs : List Value} (h : Rd w v xs) (hu : Upd fp w w') (hn : ∀ g, v.ownBlock = some g → ¬ fp g) : Rd w' v xs := by
  rcases h with h | ⟨b, off, n, c, rfl, hl, hc⟩
  · exact Or.inl h
  · exact Or.inr ⟨b, off, n, c, rfl, hl, fun j u hj => (hu.cell (cell_lt (hc j u hj)) (hn b rfl) _).trans (hc j u hj)⟩
theorem Rd.below {w w' : World} {v : Value} {xs : List Value} (h : Rd w v xs) (hu : Below w.heap.size w w') : Rd w' v xs := h.keep (Upd.ofBelow (fp := noFp) hu) (fun _ _ h => h)
theorem Rd.shape {w : World} {v : Value} {xs : List Value} (h : Rd w v xs) : ∃ a c, v = .slice a xs.length c := by
  rcases h with ⟨rfl | ⟨a, c, rfl⟩, rfl⟩ | ⟨b, off, n, c, rfl, rfl, _⟩
  · exact ⟨_, _, rfl⟩
  · exact ⟨_, _, rfl⟩
  · exact ⟨_, _, rfl⟩

theorem wpList_on {P : Program} {w : World} {ops : Array Oper} {rest : List Oper} {o : Oper} {a : Act} {Q : Exit → Act → World → Prop} (hw : Region.wanted o (yielded ops a.tmps) = true)
    (h : ∀ K : Act → World → Prop, (∀ a w, wpList P ops Q rest a w → K a w) → o.wp P a w K Q) : wpList P ops Q (o :: rest) a w :=
  wpList_step fun K hK => by rw [if_pos hw]; exact h K hK
/-- the blocks of one that is appended to. -/
theorem run_append_rd {P : Program} (w : World) (t ty e : TypeId) (i : TypeInfo) (z : Value) (bytes : Nat) (ht : P.underlying t = some (.slice e)) (hi : P.info? e = some i) (hz : i.zero = some z)
    (hsize : i.size = 1) (hby : i.bytes = bytes) (hzs : z.cells.size = 1)
    (v x : Value) (n m : Nat) (xs news : List Value) (hown : w.ownsRow 0 e 1 v n xs) (hx : Rd w x news) (hm : m = news.length) (h1 : ∀ u ∈ news, u.oneCell' = true)
    (h63 : n + m ≤ maxLen) (hbytes : (n + m) * bytes ≤ 140737488355328) :
    ∃ v' w', (Builtin.append_ #[t, t] ty #[v, x]).run P w = .ok v' w' ∧ w'.ownsRow 0 e 1 v' (n + m) (xs ++ news) ∧ w.grownBy w' v.ownBlock ∧
      (v'.ownBlock = v.ownBlock ∨ ∃ g, v'.ownBlock = some g ∧ w.heap.size ≤ g) ∧ w'.ownsRow 0 e 1 v n xs := by
  subst hby
  have hsmall : n + m ≤ 9223372036854775807 := by simp only [maxLen] at h63; omega
  have hxl := hown.1
  rcases hx with ⟨rfl | ⟨ad, c0, rfl⟩, rfl⟩ | ⟨b, off, m', c, rfl, hl, hnews⟩
  rotate_left
  · subst hm
    refine ⟨v, w, ?_, by simpa using hown, ⟨rfl, rfl, rfl, Nat.le_refl _, fun _ _ _ => rfl⟩, Or.inl rfl, hown⟩
    have hnc : ∃ a cap, v = .slice a n cap ∧ n ≤ cap := by
      rcases hown.2 with ⟨rfl, rfl⟩ | ⟨g, cap, cur, rfl, _, _, hnc, _⟩
      · exact ⟨none, 0, rfl, Nat.le_refl _⟩
      · exact ⟨_, cap, rfl, hnc⟩
    obtain ⟨a, cap, rfl, hnc⟩ := hnc
    cases a <;> simp [Builtin.append_, run_underlying ht, sizeOf, typeInfo, hi, Builtin.lenOf, hnc, Builtin.firstCells, loadCells, loadCellsFrom, storeCells]
  rotate_left
  · subst hm
    refine ⟨v, w, run_append_owned_none (P := P) (w := w) 0 t ty e i 1 ht hi v n xs hown, by simpa using hown, ⟨rfl, rfl, rfl, Nat.le_refl _, fun _ _ _ => rfl⟩, Or.inl rfl, hown⟩
  · obtain rfl : m' = m := by omega
    clear hm
    rcases hown.2 with ⟨rfl, rfl⟩ | ⟨g, cap, cur, rfl, hbg, hg, hnc, hcm, hcs, htake⟩
    · have hx : xs = [] := List.eq_nil_of_length_eq_zero (by simpa using hown.1)
      subst hx
      have hown' : w.ownsRow w.heap.size e 1 (.slice none 0 0) 0 [] := World.ownsRow_nil w _ e 1
      obtain ⟨v', w', hr, ho, hg, hn⟩ := run_append_own (P := P) w w.heap.size t ty e i z 1 i.bytes ht hi hz hsize rfl hzs (by omega) (.slice none 0 0) 0 [] hown' ⟨b, off, none⟩ m' c news (by omega) (by simpa [Addr.add_lit] using hnews) h1 h63 hbytes (Nat.le_refl _)
      refine ⟨v', w', hr, ownsRow_base0 ho, hg, ?_, World.ownsRow_nil _ _ _ _⟩
      rcases ho.2 with ⟨rfl, _⟩ | ⟨g', _, _, rfl, hb', _⟩
      · exact Or.inl rfl
      · exact Or.inr ⟨g', rfl, hb'⟩
    · by_cases hroom : n + m' ≤ cap
      · have hfit : n * i.size + news.length ≤ cur.size := by rw [hsize, hcs]; omega
        have hr := run_append_room (P := P) w t ty e i ht hi g n cap cur hg ⟨b, off, none⟩ m' c news (by rw [hsize]; omega) (by simpa [Addr.add_lit] using hnews) h1 hroom hfit
        refine ⟨_, _, hr, ⟨by simp; omega, .inr ⟨g, cap, _, rfl, hbg, setRow_heap w g cur _ e _ hg, hroom, hcm, ?_, ?_⟩⟩, ⟨rfl, rfl, rfl, by simp, fun k _ hk => setRow_other w g k _ (fun e => hk (by simp [Value.ownBlock, e]))⟩, Or.inl rfl, ⟨hown.1, .inr ⟨g, cap, _, rfl, hbg, setRow_heap w g cur _ e _ hg, hnc, hcm, ?_, ?_⟩⟩⟩
        · simp only [List.size_toArray, List.length_append, List.length_take, List.length_drop, Array.length_toList]
          rw [hsize] at hfit ⊢
          omega
        · rw [hsize, htake, show (n + m') * 1 = (xs ++ news).length by simp; omega]
          exact List.take_left
        · simp only [List.size_toArray, List.length_append, List.length_take, List.length_drop, Array.length_toList]
          rw [hsize] at hfit ⊢
          omega
        · rw [hsize, htake, List.append_assoc, show n * 1 = xs.length by omega]
          exact List.take_left
      · have hown0 := hown
        have holds : ∀ j u, xs[j]? = some u → w.cell? ((⟨g, 0, none⟩ : Addr).add j) = some u := hown.cells (g := g) rfl
        have hr := run_append_grow (P := P) w t ty e i z ht hi hz ⟨g, 0, none⟩ n cap xs (by rw [hsize]; exact hown.1) holds ⟨b, off, none⟩ m' c news (by rw [hsize]; omega) (by simpa [Addr.add_lit] using hnews) (by omega) (by omega) (growslice_fits (by omega) hbytes)
        have hge := grownCap_ge w (n + m') cap e
        have hcm : grownCap w (n + m') cap e ≤ maxLen := grownCap_le_maxLen w (n + m') cap e h63
        refine ⟨_, _, hr, ⟨by simp; omega, .inr ⟨w.heap.size, _, _, rfl, Nat.zero_le _, heap_alloc_new w.drew _, hge, hcm, ?_, ?_⟩⟩, ⟨rfl, rfl, rfl, by simp, fun k hk _ => Below.heap_alloc w.drew _ k hk⟩, Or.inr ⟨w.heap.size, rfl, Nat.le_refl _⟩, (((Upd.refl noFp w).drew).alloc _).row hown (fun _ _ h => h)⟩
        · simp only [Array.size_append, List.size_toArray, size_zeroCells, hzs, hown.1]
          omega
        · simp only [Array.toList_append, List.append_assoc]
          rw [← List.append_assoc, show (n + m') * 1 = (xs ++ news).length by simp; omega]
          exact List.take_left

theorem wpList_append_rd {P : Program} {w : World} {ops : Array Oper} {rest : List Oper} {o : Oper} {a : Act} {Q : Exit → Act → World → Prop} (hgd : Region.wanted o (yielded ops a.tmps) = true) (s x : Operand) (t : TypeId)
    (ho : o.op = .call { callee := .builtin .append, args := #[s, x], argTypes := #[t, t] })
    (e : TypeId) (i : TypeInfo) (z : Value) (bytes : Nat) (ht : P.underlying t = some (.slice e)) (hi : P.info? e = some i) (hz : i.zero = some z)
    (hsize : i.size = 1) (hby : i.bytes = bytes) (hzs : z.cells.size = 1)
    (v vx : Value) (n m : Nat) (xs news : List Value) (hs : a.eval s = v) (hown : w.ownsRow 0 e 1 v n xs) (hx : a.eval x = vx) (hrd : Rd w vx news) (hm : m = news.length) (h1 : ∀ u ∈ news, u.oneCell' = true)
    (h63 : n + m ≤ maxLen) (hbytes : (n + m) * bytes ≤ 140737488355328)
    (h : ∀ v' w', w'.ownsRow 0 e 1 v' (n + m) (xs ++ news) → w.grownBy w' v.ownBlock → (v'.ownBlock = v.ownBlock ∨ ∃ g, v'.ownBlock = some g ∧ w.heap.size ≤ g) → w'.ownsRow 0 e 1 v n xs → wpList P ops Q rest (a.put o.dst v') w') : wpList P ops Q (o :: rest) a w := by
  refine wpList_on hgd fun K hK => ?_
  obtain ⟨v', w', hr, h2, h3, h4, h5⟩ := run_append_rd (P := P) w t o.type e i z bytes ht hi hz hsize hby hzs v vx n m xs news hown hrd hm h1 h63 hbytes
  unfold Oper.wp execOp
  simp only [ho, resolve, invoke, builtin, Sem.run_bind, Sem.run_pure, Result.andThen_ok, List.map_toArray, List.map_cons, List.map_nil, hs, hx, hr]
  exact hK _ _ (h v' w' h2 h3 h4 h5)

/-- A region that draws: reads ahead, n of them; then a forced tail. -/
theorem wp_region_tail {P : Program} {id : Nat} {Q : Exit → Act → World → Prop} {a : Act} {w : World} {l : List Oper} (n : Nat) (hm : P.follows .mixedOrders = true) (hB : Region.lexTailB .any l.toArray n = true)
    (h : wpStill P l.toArray w.drew (fun a' => wpList P l.toArray Q (l.drop n) a' w.drew) (l.take n) a) : (Code.region id l.toArray true).wp P Q a w :=
  wp_region_still_tail n hm hB h
theorem wp_region_reads {P : Program} {id : Nat} {Q : Exit → Act → World → Prop} {a : Act} {w : World} {l : List Oper} (hm : P.follows .mixedOrders = true) (hB : Region.lexB .any l.toArray = true)
    (h : wpStill P l.toArray w.drew (fun a' => Q .normal a' w.drew) l a) : (Code.region id l.toArray true).wp P Q a w :=
  wp_region_still_lit hm hB h

/-! ### maps as functions -/
/-- Block b is a map of n entries, whose value at a key is g's. -/
def MapIs (P : Program) (k : TypeId) (w : World) (b n : Nat) (g : Value → Option Value) : Prop :=
  ∃ es clock, w.heap[b]? = some (.map es clock) ∧ es.size = n ∧ n ≤ maxLen ∧ Stamped es clock ∧ (∀ x ∈ es.toList, ∃ l, keyOf P k x.key = some l) ∧
    ∀ key v, g key = some v ↔ ∃ x ∈ es.toList, x.key = key ∧ x.val = v

namespace MapIs
variable {P : Program} {k : TypeId} {w : World} {b n : Nat} {g : Value → Option Value}
theorem lt (h : MapIs P k w b n g) : b < w.heap.size := by
  obtain ⟨es, clock, hb, _⟩ := h
  exact (Array.getElem?_eq_some_iff.1 hb).1
theorem of_block {w' : World} (h : MapIs P k w b n g) (hb : w'.heap[b]? = w.heap[b]?) : MapIs P k w' b n g := by
  obtain ⟨es, clock, h1, r⟩ := h
  exact ⟨es, clock, hb.trans h1, r⟩
theorem upd {fp : Nat → Prop} {w' : World} (h : MapIs P k w b n g) (hu : Upd fp w w') (hn : ¬ fp b) : MapIs P k w' b n g := h.of_block (hu.block b h.lt hn)
theorem upd' {fp : Nat → Prop} {w' : World} (h : MapIs P k w b n g) (hu : Upd fp w w') (hn : fp b → False) : MapIs P k w' b n g := h.of_block (hu.block b h.lt hn)
theorem alloc (h : MapIs P k w b n g) (o : Obj) : MapIs P k (w.alloc o) b n g := h.of_block (Below.heap_alloc _ _ _ h.lt)
theorem drew (h : MapIs P k w b n g) : MapIs P k w.drew b n g := h
theorem made (P : Program) (k : TypeId) (w : World) : MapIs P k (w.alloc (.map #[] 0)) w.heap.size 0 (fun _ => none) :=
  ⟨#[], 0, (heap_alloc w _).1, rfl, Nat.zero_le _, stamped_empty 0, by simp, by simp⟩
theorem nodup_inj {l : List Value} (h : l.Nodup) {i j : Nat} (hi : i < l.length) (hj : j < l.length) (he : l[i] = l[j]) : i = j := by
  rcases Nat.lt_trichotomy i j with h1 | h1 | h1
  · exact absurd he (List.pairwise_iff_getElem.1 h i j hi hj h1)
  · exact h1
  · exact absurd he.symm (List.pairwise_iff_getElem.1 h j i hj hi h1)
theorem stamped_idx {es : Array MapEntry} {clock : Nat} (h : Stamped es clock) {i j : Nat} {hi : i < es.size} {hj : j < es.size} (he : es[i] = es[j]) : i = j := by
  obtain ⟨_, _, h3⟩ := h
  exact nodup_inj h3 (i := i) (j := j) (by simpa using hi) (by simpa using hj) (by simp [he])
theorem key_uniq {es : Array MapEntry} {clock : Nat} (h : Stamped es clock) {x y : MapEntry} (hx : x ∈ es.toList) (hy : y ∈ es.toList) (hk : x.key = y.key) : x = y := by
  obtain ⟨_, _, h3⟩ := h
  obtain ⟨i, hi, rfl⟩ := List.mem_iff_getElem.1 hx
  obtain ⟨j, hj, rfl⟩ := List.mem_iff_getElem.1 hy
  have := nodup_inj h3 (i := i) (j := j) (by simpa using hi) (by simpa using hj) (by simpa using hk)
  subst this
  rfl
theorem run_lookup (h : MapIs P k w b n g) (K : Keyed P k) {t e : TypeId} (ht : P.underlying t = some (.map k e)) {z : Value} (hz : (zeroValue e).run P w = .ok z w) {key : Value} {kl : Lit} (hkey : keyOf P k key = some kl) (ok : Bool) :
    (Instr.lookup t (.map (some b)) key ok).run P w = .ok (if ok then .tuple #[(g key).getD z, .bool (g key).isSome] else (g key).getD z) w := by
  obtain ⟨es, clock, hb, hn, _, hst, hks, hg⟩ := h
  rcases K.find w hkey es.toList hks with ⟨h1, h2⟩ | ⟨j, e0, h1, h2, h3⟩
  · have hgn : g key = none := by
      cases hgk : g key with
      | none => rfl
      | some v => obtain ⟨x, hx, hxk, _⟩ := (hg key v).1 hgk; exact absurd hxk (h2 x hx)
    cases ok <;> simp [Instr.lookup, run_underlying ht, MapKept.run_getObj_map hb, K.check w _ hkey, h1, hz, Result.andThen, hgn]
  · have hgs : g key = some e0.val := (hg key e0.val).2 ⟨e0, List.mem_of_getElem? h2, h3, rfl⟩
    cases ok <;> simp [Instr.lookup, run_underlying ht, MapKept.run_getObj_map hb, K.check w _ hkey, h1, Result.andThen, hgs]
open Classical in
theorem run_update (h : MapIs P k w b n g) (K : Keyed P k) {t e : TypeId} (ht : P.underlying t = some (.map k e)) {key val : Value} {kl : Lit} (hkey : keyOf P k key = some kl) (hroom : n < maxLen) :
    ∃ w', (Instr.mapUpdate t (.map (some b)) key val).run P w = .ok () w' ∧ MapIs P k w' b (if (g key).isSome then n else n + 1) (fun x => if x = key then some val else g x) ∧ w.grownBy w' (some b) ∧ w'.heap.size = w.heap.size := by
  obtain ⟨es, clock, hb, hn, hnm, hst, hks, hg⟩ := h
  rcases K.find w hkey es.toList hks with ⟨h1, h2⟩ | ⟨j, e0, h1, h2, h3⟩
  · have hgn : g key = none := by
      cases hgk : g key with
      | none => rfl
      | some v => obtain ⟨x, hx, hxk, _⟩ := (hg key v).1 hgk; exact absurd hxk (h2 x hx)
    refine ⟨{ w with heap := w.heap.setIfInBounds b (.map (es.push { key := key, val := val, born := clock }) (clock + 1)) }, by simp [Instr.mapUpdate, run_underlying ht, MapKept.run_getObj_map hb, K.check w _ hkey, h1, Result.andThen, MapKept.run_setObj_map _ hb], ⟨_, _, (heap_set hb).1, ?_, ?_, stamped_push hst h2, ?_, ?_⟩, ⟨rfl, rfl, rfl, by simp, fun r hr hne => (heap_set hb).2 r (fun e => hne (by rw [e]))⟩, by simp⟩
    · simp [hgn, hn]
    · simp [hgn]; omega
    · intro x hx
      simp only [Array.toList_push, List.mem_append, List.mem_singleton] at hx
      rcases hx with hx | rfl
      · exact hks x hx
      · exact ⟨kl, hkey⟩
    · intro key' v
      show (if key' = key then some val else g key') = some v ↔ _
      by_cases hkk : key' = key
      · subst hkk
        simp only [if_true, Array.toList_push, List.mem_append, List.mem_singleton]
        constructor
        · rintro ⟨⟩; exact ⟨_, Or.inr rfl, rfl, rfl⟩
        · rintro ⟨x, hx | rfl, hxk, rfl⟩
          · exact absurd hxk (h2 x hx)
          · rfl
      · rw [if_neg hkk, hg]
        simp only [Array.toList_push, List.mem_append, List.mem_singleton]
        constructor
        · rintro ⟨x, hx, r⟩; exact ⟨x, Or.inl hx, r⟩
        · rintro ⟨x, hx | rfl, r1, r2⟩
          · exact ⟨x, hx, r1, r2⟩
          · exact absurd r1.symm hkk
  · have hm0 : e0 ∈ es.toList := List.mem_of_getElem? h2
    have hgs : g key = some e0.val := (hg key e0.val).2 ⟨e0, hm0, h3, rfl⟩
    have hj : es[j]? = some e0 := by simpa using h2
    have hjk : (es[j]?.map (·.key)).getD key = key := by rw [hj]; simpa using h3
    have hstays := K.stays w hkey
    have hkeyf : ∀ e' ∈ es.toList, es[j]? = some e' → key = e'.key := fun e' _ he' => by rw [hj] at he'; cases he'; exact h3.symm
    refine ⟨{ w with heap := w.heap.setIfInBounds b (.map (es.modify j fun e' => { e' with key := key, val := val }) clock) }, ?_, ⟨es.modify j fun e' => { e' with key := key, val := val }, clock, (heap_set hb).1, ?_, ?_, stamped_modify hst _ _ (fun _ _ => rfl) (fun e' h1 h2 => hkeyf e' h1 h2), ?_, ?_⟩, ⟨rfl, rfl, rfl, by simp, fun r hr hne => (heap_set hb).2 r (fun e => hne (by rw [e]))⟩, by simp⟩
    · simp only [Instr.mapUpdate, run_underlying ht, Sem.run_bind, Result.andThen_ok, MapKept.run_getObj_map hb, K.check w _ hkey, h1]
      rw [hjk]
      simp [hstays, Result.andThen, MapKept.run_setObj_map _ hb]
    · simp [hgs, hn]
    · simpa [hgs] using hnm
    · intro x hx
      obtain ⟨i, hi, rfl⟩ := List.mem_iff_getElem.1 hx
      simp only [Array.getElem_toList, Array.getElem_modify] at *
      split
      · exact ⟨kl, hkey⟩
      · exact hks _ (by simp)
    · have hjlt : j < es.size := by have := (Array.getElem?_eq_some_iff.1 hj).1; exact this
      have hje : es[j] = e0 := (Array.getElem?_eq_some_iff.1 hj).2
      intro key' v
      show (if key' = key then some val else g key') = some v ↔ _
      constructor
      · intro hv
        split at hv
        · rename_i hkk
          cases hv
          exact ⟨{ e0 with key := key, val := val }, List.mem_iff_getElem.2 ⟨j, by simpa using hjlt, by simp [hje]⟩, hkk.symm, rfl⟩
        · rename_i hkk
          obtain ⟨x, hx, hxk, hxv⟩ := (hg key' v).1 hv
          obtain ⟨i, hi, rfl⟩ := List.mem_iff_getElem.1 hx
          have hij : j ≠ i := fun e => by subst e; apply hkk; rw [← hxk]; simp [hje, h3]
          exact ⟨_, List.mem_iff_getElem.2 ⟨i, by simpa using hi, by simp [hij]; rfl⟩, by simpa using hxk, by simpa using hxv⟩
      · rintro ⟨x, hx, hxk, hxv⟩
        obtain ⟨i, hi, rfl⟩ := List.mem_iff_getElem.1 hx
        have hi' : i < es.size := by simpa using hi
        simp only [Array.getElem_toList, Array.getElem_modify] at hxk hxv
        by_cases hij : j = i
        · simp only [hij, if_true] at hxk hxv
          rw [if_pos hxk.symm]
          exact congrArg _ hxv
        · simp only [hij, if_false] at hxk hxv
          have hne : key' ≠ key := fun e => by
            apply hij
            have := key_uniq hst (x := es[i]) (y := e0) (by simp) hm0 (by rw [hxk, e, h3])
            rw [← hje] at this
            exact (stamped_idx hst this).symm
          rw [if_neg hne]
          exact (hg key' v).2 ⟨es[i], by simp, hxk, hxv⟩
open Classical in
theorem run_delete (h : MapIs P k w b n g) (K : Keyed P k) {t e ty : TypeId} (ht : P.underlying t = some (.map k e)) {key : Value} {kl : Lit} (hkey : keyOf P k key = some kl) :
    ∃ w', (Builtin.delete_ #[t, k] ty #[.map (some b), key]).run P w = .ok (.tuple #[]) w' ∧ MapIs P k w' b (if (g key).isSome then n - 1 else n) (fun x => if x = key then none else g x) ∧ w.grownBy w' (some b) ∧ w'.heap.size = w.heap.size := by
  obtain ⟨es, clock, hb, hn, hnm, hst, hks, hg⟩ := h
  rcases K.find w hkey es.toList hks with ⟨h1, h2⟩ | ⟨j, e0, h1, h2, h3⟩
  · have hgn : g key = none := by
      cases hgk : g key with
      | none => rfl
      | some v => obtain ⟨x, hx, hxk, _⟩ := (hg key v).1 hgk; exact absurd hxk (h2 x hx)
    refine ⟨{ w with heap := w.heap.setIfInBounds b (.map es clock) }, by simp [Builtin.delete_, run_underlying ht, MapKept.run_getObj_map hb, K.check w _ hkey, h1, Result.andThen, MapKept.run_setObj_map _ hb], ⟨es, clock, (heap_set hb).1, ?_, ?_, hst, hks, ?_⟩, ⟨rfl, rfl, rfl, by simp, fun r hr hne => (heap_set hb).2 r (fun e => hne (by rw [e]))⟩, by simp⟩
    · simp [hgn, hn]
    · simpa [hgn] using hnm
    · intro key' v
      show (if key' = key then none else g key') = some v ↔ _
      by_cases hkk : key' = key
      · subst hkk
        simp only [if_true]
        constructor
        · intro e; cases e
        · rintro ⟨x, hx, hxk, _⟩; exact absurd hxk (h2 x hx)
      · rw [if_neg hkk, hg]
  · have hm0 : e0 ∈ es.toList := List.mem_of_getElem? h2
    have hgs : g key = some e0.val := (hg key e0.val).2 ⟨e0, hm0, h3, rfl⟩
    have hj : es[j]? = some e0 := by simpa using h2
    have hjlt : j < es.size := (Array.getElem?_eq_some_iff.1 hj).1
    have hje : es[j] = e0 := (Array.getElem?_eq_some_iff.1 hj).2
    have hsub : (es.eraseIdxIfInBounds j).toList = es.toList.eraseIdx j := by
      simp [Array.eraseIdxIfInBounds, hjlt]
    refine ⟨{ w with heap := w.heap.setIfInBounds b (.map (es.eraseIdxIfInBounds j) clock) }, ?_, ⟨es.eraseIdxIfInBounds j, clock, (heap_set hb).1, ?_, ?_, stamped_erase hst _, ?_, ?_⟩, ⟨rfl, rfl, rfl, by simp, fun r hr hne => (heap_set hb).2 r (fun e => hne (by rw [e]))⟩, by simp⟩
    · simp [Builtin.delete_, run_underlying ht, MapKept.run_getObj_map hb, K.check w _ hkey, h1, Result.andThen, MapKept.run_setObj_map _ hb]
    · rw [← Array.length_toList, hsub, List.length_eraseIdx, if_pos (by simpa using hjlt)]
      simp [hgs, hn]
    · simp [hgs]; omega
    · intro x hx
      rw [hsub] at hx
      exact hks x (List.mem_of_mem_eraseIdx hx)
    · intro key' v
      show (if key' = key then none else g key') = some v ↔ _
      rw [hsub]
      have hmem : ∀ x, x ∈ es.toList.eraseIdx j ↔ x ∈ es.toList ∧ x ≠ e0 := by
        intro x
        rw [List.mem_eraseIdx_iff_getElem]
        constructor
        · rintro ⟨i, hi, hij, rfl⟩
          exact ⟨by simp, fun e => hij (stamped_idx hst (i := i) (j := j) (hi := by simpa using hi) (hj := hjlt) (by simpa [hje] using e))⟩
        · rintro ⟨hx, hne⟩
          obtain ⟨i, hi, rfl⟩ := List.mem_iff_getElem.1 hx
          exact ⟨i, hi, fun e => hne (by subst e; simpa using hje), rfl⟩
      by_cases hkk : key' = key
      · subst hkk
        simp only [if_true]
        constructor
        · intro e; cases e
        · rintro ⟨x, hx, hxk, _⟩
          obtain ⟨hx1, hx2⟩ := (hmem x).1 hx
          exact absurd (key_uniq hst hx1 hm0 (by rw [hxk, h3])) hx2
      · rw [if_neg hkk, hg]
        constructor
        · rintro ⟨x, hx, hxk, r⟩
          exact ⟨x, (hmem x).2 ⟨hx, fun e => hkk (by rw [← hxk, e, h3])⟩, hxk, r⟩
        · rintro ⟨x, hx, r⟩
          exact ⟨x, ((hmem x).1 hx).1, r⟩
theorem run_len (h : MapIs P k w b n g) (t ty : TypeId) {e : TypeId} (ht : P.underlying t = some (.map k e)) : (Builtin.len_ #[t] ty #[.map (some b)]).run P w = .ok (.int .i64 n) w := by
  obtain ⟨es, clock, hb, hn, _⟩ := h
  subst hn
  simp [Builtin.len_, run_underlying ht, MapKept.run_getObj_map hb, Result.andThen, goInt]
end MapIs

section
variable {P : Program} {w : World} {ops : Array Oper} {rest : List Oper} {o : Oper} {a : Act} {Q : Exit → Act → World → Prop}
theorem wpList_map_lookup (hgd : Region.wanted o (yielded ops a.tmps) = true) (x ix : Operand) (t k e : TypeId) (ho : o.op = .lookup t x ix false) (ht : P.underlying t = some (.map k e)) (K : Keyed P k)
    (b n : Nat) (g : Value → Option Value) (hm : MapIs P k w b n g) (hx : a.eval x = .map (some b)) (key : Value) (hix : a.eval ix = key) (kl : Lit) (hkey : keyOf P k key = some kl)
    (z : Value) (hz : ∀ w, (zeroValue e).run P w = .ok z w) (v : Value) (hv : (g key).getD z = v)
    (h : wpList P ops Q rest (a.put o.dst v) w) : wpList P ops Q (o :: rest) a w := by
  refine wpList_on hgd fun K' hK => ?_
  have hr := hm.run_lookup K ht (hz w) hkey false
  unfold Oper.wp execOp
  simp only [ho, Sem.run_bind, hx, hix, hr, Result.andThen_ok, Sem.run_pure]
  simp only [Bool.false_eq_true, if_false, hv]
  exact hK _ _ h
theorem wpList_map_lookup_ok (hgd : Region.wanted o (yielded ops a.tmps) = true) (x ix : Operand) (t k e : TypeId) (ho : o.op = .lookup t x ix true) (ht : P.underlying t = some (.map k e)) (K : Keyed P k)
    (b n : Nat) (g : Value → Option Value) (hm : MapIs P k w b n g) (hx : a.eval x = .map (some b)) (key : Value) (hix : a.eval ix = key) (kl : Lit) (hkey : keyOf P k key = some kl)
    (z : Value) (hz : ∀ w, (zeroValue e).run P w = .ok z w) (v : Value) (hv : (g key).getD z = v) (there : Bool) (hb : (g key).isSome = there)
    (h : wpList P ops Q rest (a.put o.dst (.tuple #[v, .bool there])) w) : wpList P ops Q (o :: rest) a w := by
  refine wpList_on hgd fun K' hK => ?_
  have hr := hm.run_lookup K ht (hz w) hkey true
  unfold Oper.wp execOp
  simp only [ho, Sem.run_bind, hx, hix, hr, Result.andThen_ok, Sem.run_pure]
  simp only [if_true, hv, hb]
  exact hK _ _ h
open Classical in
theorem wpList_map_update (hgd : Region.wanted o (yielded ops a.tmps) = true) (x ix y : Operand) (t k e : TypeId) (ho : o.op = .mapUpdate t x ix y) (ht : P.underlying t = some (.map k e)) (K : Keyed P k)
    (b n : Nat) (g : Value → Option Value) (hm : MapIs P k w b n g) (hx : a.eval x = .map (some b)) (key : Value) (hix : a.eval ix = key) (kl : Lit) (hkey : keyOf P k key = some kl)
    (v : Value) (hy : a.eval y = v) (hroom : n < maxLen)
    (n' : Nat) (hn' : n' = if (g key).isSome then n else n + 1) (h : ∀ w', MapIs P k w' b n' (fun x => if x = key then some v else g x) → w.grownBy w' (some b) → w'.heap.size = w.heap.size → wpList P ops Q rest (a.put o.dst undef) w') : wpList P ops Q (o :: rest) a w := by
  refine wpList_on hgd fun K' hK => ?_
  obtain ⟨w', hr, h1, h2, h3⟩ := hm.run_update K ht hkey hroom (val := v)
  rw [← hn'] at h1
  unfold Oper.wp execOp
  simp only [ho, Sem.run_bind, hx, hix, hy, hr, Result.andThen_ok, Sem.run_pure]
  exact hK _ _ (h w' h1 h2 h3)
open Classical in
theorem wpList_map_delete (hgd : Region.wanted o (yielded ops a.tmps) = true) (x ix : Operand) (t k e : TypeId) (ho : o.op = .call { callee := .builtin .delete, args := #[x, ix], argTypes := #[t, k] }) (ht : P.underlying t = some (.map k e)) (K : Keyed P k)
    (b n : Nat) (g : Value → Option Value) (hm : MapIs P k w b n g) (hx : a.eval x = .map (some b)) (key : Value) (hix : a.eval ix = key) (kl : Lit) (hkey : keyOf P k key = some kl)
    (n' : Nat) (hn' : n' = if (g key).isSome then n - 1 else n) (h : ∀ w', MapIs P k w' b n' (fun x => if x = key then none else g x) → w.grownBy w' (some b) → w'.heap.size = w.heap.size → wpList P ops Q rest (a.put o.dst (.tuple #[])) w') : wpList P ops Q (o :: rest) a w := by
  refine wpList_on hgd fun K' hK => ?_
  obtain ⟨w', hr, h1, h2, h3⟩ := hm.run_delete K ht (ty := o.type) hkey
  rw [← hn'] at h1
  unfold Oper.wp execOp
  simp only [ho, resolve, invoke, builtin, Sem.run_bind, Sem.run_pure, Result.andThen_ok, List.map_toArray, List.map_cons, List.map_nil, hx, hix, hr]
  exact hK _ _ (h w' h1 h2 h3)
theorem wpList_map_len (hgd : Region.wanted o (yielded ops a.tmps) = true) (x : Operand) (t k e : TypeId) (ho : o.op = .call { callee := .builtin .len, args := #[x], argTypes := #[t] }) (ht : P.underlying t = some (.map k e))
    (b n : Nat) (g : Value → Option Value) (hm : MapIs P k w b n g) (hx : a.eval x = .map (some b))
    (h : wpList P ops Q rest (a.put o.dst (.int .i64 n)) w) : wpList P ops Q (o :: rest) a w := by
  refine wpList_on hgd fun K' hK => ?_
  have hr := hm.run_len (P := P) t o.type ht
  unfold Oper.wp execOp
  simp only [ho, resolve, invoke, builtin, Sem.run_bind, Sem.run_pure, Result.andThen_ok, List.map_toArray, List.map_cons, List.map_nil, hx, hr]
  exact hK _ _ h
/-- the byte of a string at a place. -/
def byteAt (s : ByteArray) (j : Nat) : UInt8 := s.data.toList.getD j 0
/-- '[]byte(s)': a new row that reads as the string's bytes. -/
theorem wpList_str_bytes (hgd : Region.wanted o (yielded ops a.tmps) = true) (x : Operand) (src dst e : TypeId) (ho : o.op = .convert src dst x) (s : ByteArray) (hx : a.eval x = .string s) {u : TypeDesc}
    (hs : P.underlying src = some u) (hd : P.underlying dst = some (.slice e)) (he : P.underlying e = some (.int .u8))
    (h : ∀ w' c, Below w.heap.size w w' → w'.heap.size = w.heap.size + 1 → s.size ≤ c → (∀ j, j < s.size → w'.cell? ⟨w.heap.size, j, none⟩ = some (.int .u8 (byteAt s j).toNat)) →
      wpList P ops Q rest (a.put o.dst (.slice (some ⟨w.heap.size, 0, none⟩) s.size c)) w') : wpList P ops Q (o :: rest) a w := by
  refine wpList_on hgd fun K' hK => ?_
  have hr := Lib.run_convert_string_bytes (P := P) w src dst e s hs hd he
  unfold Oper.wp execOp
  simp only [ho, Sem.run_bind, Sem.run_pure, Result.andThen_ok, hx, hr]
  refine hK _ _ (h _ _ ⟨?_, ?_, ?_, ?_, fun k hk => Lib.bytesWorld_at_old w e s k hk⟩ (Lib.bytesWorld_size w e s) (grownCap_ge _ _ _ _) (fun j hj => Lib.bytesWorld_cell w e s j hj))
  · simp [Lib.bytesWorld, World.freeze, World.alloc, World.drew, -World.alloc_eq, -World.drew_eq]
  · simp [Lib.bytesWorld, World.freeze, World.alloc, World.drew, -World.alloc_eq, -World.drew_eq]
  · simp [Lib.bytesWorld, World.freeze, World.alloc, World.drew, -World.alloc_eq, -World.drew_eq]
  · rw [Lib.bytesWorld_size]; omega
end
end Go.Proofs.YtkacgmbinkoojaaGreatDoor

/-
  A disk as plain data: files by rising names. No program here.
-/
namespace Go.Proofs.YtkacgmbinkoojaaGreatDoor

structure AFile where
  firm : List UInt8
  loose : List UInt8

def AFile.len (f : AFile) : Nat := f.firm.length + f.loose.length

/-- Go's '<' on strings. -/
def ltS (a b : ByteArray) : Bool := decide (a.data.toList < b.data.toList)

structure ADisk where
  most : Int
  left : Int
  down : Bool
  fs : List (ByteArray × AFile)

def lk (fs : List (ByteArray × AFile)) (s : ByteArray) : Option AFile := (fs.find? (fun p => decide (p.1 = s))).map (·.2)
def putF : List (ByteArray × AFile) → ByteArray → AFile → List (ByteArray × AFile)
  | [], s, f => [(s, f)]
  | p :: r, s, f => if p.1 = s then (s, f) :: r else if ltS s p.1 then (s, f) :: p :: r else p :: putF r s f
def delF (fs : List (ByteArray × AFile)) (s : ByteArray) : List (ByteArray × AFile) := fs.filter (fun p => !decide (p.1 = s))
def usedF (fs : List (ByteArray × AFile)) : Nat := (fs.map (·.2.len)).sum

def okLetter (c : UInt8) : Bool := (97 ≤ c && c ≤ 122) || (48 ≤ c && c ≤ 57) || c == 46 || c == 45
def okName (s : ByteArray) : Bool := s.data.toList.all okLetter && decide (0 < s.size) && decide (s.size ≤ 40)

structure ADisk.WF (d : ADisk) : Prop where
  sorted : d.fs.Pairwise (fun p q => ltS p.1 q.1 = true)
  names : ∀ p ∈ d.fs, okName p.1 = true
  used : (usedF d.fs : Int) ≤ d.most
  most0 : 0 ≤ d.most
  most1 : d.most ≤ 16777216
  left0 : -1 ≤ d.left
  left1 : d.left ≤ 9223372036854775807
  count : d.fs.length ≤ 200


theorem ltS_irrefl (a : ByteArray) : ltS a a = false := by simp [ltS, List.lt_irrefl]
theorem ltS_trans {a b c : ByteArray} (h1 : ltS a b = true) (h2 : ltS b c = true) : ltS a c = true := by
  simp only [ltS, decide_eq_true_eq] at *
  exact List.lt_trans h1 h2
theorem bytes_ext {a b : ByteArray} (h : a.data.toList = b.data.toList) : a = b := by
  cases a; cases b
  simpa using h
theorem ltS_total (a b : ByteArray) : ltS a b = true ∨ a = b ∨ ltS b a = true := by
  simp only [ltS, decide_eq_true_eq]
  by_cases h : a.data.toList < b.data.toList
  · exact Or.inl h
  · by_cases h2 : b.data.toList < a.data.toList
    · exact Or.inr (Or.inr h2)
    · exact Or.inr (Or.inl (bytes_ext (List.le_antisymm (List.not_lt.1 h2) (List.not_lt.1 h))))
theorem ltS_ne {a b : ByteArray} (h : ltS a b = true) : a ≠ b := fun e => by rw [e, ltS_irrefl] at h; cases h

theorem lk_nil (s : ByteArray) : lk [] s = none := rfl
theorem lk_cons (p : ByteArray × AFile) (r : List (ByteArray × AFile)) (s : ByteArray) : lk (p :: r) s = if p.1 = s then some p.2 else lk r s := by
  unfold lk
  by_cases h : p.1 = s <;> simp [h]
theorem lk_some_mem {fs : List (ByteArray × AFile)} {s : ByteArray} {f : AFile} (h : lk fs s = some f) : (s, f) ∈ fs := by
  induction fs with
  | nil => cases h
  | cons p r ih =>
    rw [lk_cons] at h
    split at h
    · rename_i e; cases h; subst e; exact List.mem_cons_self
    · exact List.mem_cons_of_mem _ (ih h)
theorem lk_none_not {fs : List (ByteArray × AFile)} {s : ByteArray} (h : lk fs s = none) : ∀ p ∈ fs, p.1 ≠ s := by
  induction fs with
  | nil => intro p hp; cases hp
  | cons q r ih =>
    rw [lk_cons] at h
    split at h
    · cases h
    · rename_i hne
      intro p hp
      rcases List.mem_cons.1 hp with rfl | hp
      · exact hne
      · exact ih h p hp
def SortedF (fs : List (ByteArray × AFile)) : Prop := fs.Pairwise (fun p q => ltS p.1 q.1 = true)
theorem mem_lk {fs : List (ByteArray × AFile)} (hs : SortedF fs) {s : ByteArray} {f : AFile} (h : (s, f) ∈ fs) : lk fs s = some f := by
  induction fs with
  | nil => cases h
  | cons p r ih =>
    obtain ⟨h1, h2⟩ := List.pairwise_cons.1 hs
    rw [lk_cons]
    rcases List.mem_cons.1 h with rfl | h
    · simp
    · have := ltS_ne (h1 _ h)
      rw [if_neg this]
      exact ih h2 h
theorem lk_putF (fs : List (ByteArray × AFile)) (s : ByteArray) (f : AFile) (t : ByteArray) : lk (putF fs s f) t = if t = s then some f else lk fs t := by
  induction fs with
  | nil => simp only [putF, lk_cons, lk_nil]; by_cases h : t = s <;> simp [h, Ne.symm]
  | cons p r ih =>
    simp only [putF]
    split
    · rename_i h
      simp only [lk_cons]
      by_cases ht : t = s
      · simp [ht]
      · rw [if_neg (fun e => ht e.symm), if_neg ht, if_neg (fun e => ht (by rw [← e, h]))]
    · split
      · simp only [lk_cons]
        by_cases ht : t = s
        · simp [ht]
        · rw [if_neg (fun e => ht e.symm), if_neg ht]
      · rename_i h _
        simp only [lk_cons, ih]
        by_cases ht : t = s
        · subst ht; simp [h]
        · simp [ht]
theorem lk_delF (fs : List (ByteArray × AFile)) (s t : ByteArray) : lk (delF fs s) t = if t = s then none else lk fs t := by
  induction fs with
  | nil => simp [delF, lk]
  | cons p r ih =>
    unfold delF at *
    by_cases hp : p.1 = s
    · rw [List.filter_cons_of_neg (by simp [hp]), ih, lk_cons]
      by_cases ht : t = s
      · simp [ht]
      · rw [if_neg ht, if_neg ht, if_neg (fun e => ht (by rw [← e, hp]))]
    · rw [List.filter_cons_of_pos (by simpa using hp), lk_cons, lk_cons, ih]
      by_cases ht : t = s
      · subst ht; simp [hp]
      · simp [ht]
theorem mem_putF {fs : List (ByteArray × AFile)} {s : ByteArray} {f : AFile} {p : ByteArray × AFile} (h : p ∈ putF fs s f) : p = (s, f) ∨ p ∈ fs := by
  induction fs with
  | nil => simp [putF] at h; exact Or.inl h
  | cons q r ih =>
    simp only [putF] at h
    split at h
    · rcases List.mem_cons.1 h with h | h
      · exact Or.inl h
      · exact Or.inr (List.mem_cons_of_mem _ h)
    · split at h
      · rcases List.mem_cons.1 h with h | h
        · exact Or.inl h
        · exact Or.inr h
      · rcases List.mem_cons.1 h with h | h
        · exact Or.inr (h ▸ List.mem_cons_self)
        · rcases ih h with h | h
          · exact Or.inl h
          · exact Or.inr (List.mem_cons_of_mem _ h)
theorem sorted_putF {fs : List (ByteArray × AFile)} (hs : SortedF fs) (s : ByteArray) (f : AFile) : SortedF (putF fs s f) := by
  induction fs with
  | nil => simp [putF, SortedF]
  | cons q r ih =>
    obtain ⟨h1, h2⟩ := List.pairwise_cons.1 hs
    simp only [putF]
    split
    · rename_i h
      exact List.pairwise_cons.2 ⟨fun p hp => by show ltS s p.1 = true; rw [← h]; exact h1 p hp, h2⟩
    · rename_i hne
      split
      · rename_i hlt
        refine List.pairwise_cons.2 ⟨fun p hp => ?_, hs⟩
        rcases List.mem_cons.1 hp with rfl | hp
        · exact hlt
        · exact ltS_trans hlt (h1 p hp)
      · rename_i hlt
        refine List.pairwise_cons.2 ⟨fun p hp => ?_, ih h2⟩
        rcases mem_putF hp with rfl | hp
        · rcases ltS_total q.1 s with h | h | h
          · exact h
          · exact absurd h hne
          · exact absurd h hlt
        · exact h1 p hp
theorem sorted_delF {fs : List (ByteArray × AFile)} (hs : SortedF fs) (s : ByteArray) : SortedF (delF fs s) := List.Pairwise.filter _ hs
theorem length_putF {fs : List (ByteArray × AFile)} (hs : SortedF fs) (s : ByteArray) (f : AFile) : (putF fs s f).length = if (lk fs s).isSome then fs.length else fs.length + 1 := by
  induction fs with
  | nil => simp [putF, lk]
  | cons q r ih =>
    obtain ⟨h1, h2⟩ := List.pairwise_cons.1 hs
    simp only [putF, lk_cons]
    split
    · simp
    · rename_i hne
      split
      · rename_i hlt
        have : lk r s = none := by
          cases hl : lk r s with
          | none => rfl
          | some f' => have := ltS_trans hlt (h1 _ (lk_some_mem hl)); rw [ltS_irrefl] at this; cases this
        simp [this]
      · simp only [List.length_cons, ih h2]
        split <;> rfl
theorem used_putF {fs : List (ByteArray × AFile)} (hs : SortedF fs) (s : ByteArray) (f : AFile) : usedF (putF fs s f) + ((lk fs s).map AFile.len).getD 0 = usedF fs + f.len := by
  induction fs with
  | nil => simp [putF, lk, usedF]
  | cons q r ih =>
    obtain ⟨h1, h2⟩ := List.pairwise_cons.1 hs
    simp only [putF, lk_cons]
    split
    · simp [usedF]; omega
    · rename_i hne
      split
      · rename_i hlt
        have : lk r s = none := by
          cases hl : lk r s with
          | none => rfl
          | some f' => have := ltS_trans hlt (h1 _ (lk_some_mem hl)); rw [ltS_irrefl] at this; cases this
        simp [this, usedF]; omega
      · have := ih h2
        simp only [usedF, List.map_cons, List.sum_cons] at this ⊢
        omega
theorem length_delF {fs : List (ByteArray × AFile)} (hs : SortedF fs) (s : ByteArray) : (delF fs s).length = if (lk fs s).isSome then fs.length - 1 else fs.length := by
  induction fs with
  | nil => simp [delF, lk]
  | cons q r ih =>
    obtain ⟨h1, h2⟩ := List.pairwise_cons.1 hs
    unfold delF at *
    rw [lk_cons]
    by_cases hq : q.1 = s
    · rw [List.filter_cons_of_neg (by simp [hq])]
      have : r.filter (fun p => !decide (p.1 = s)) = r := List.filter_eq_self.2 fun p hp => by
        have := ltS_ne (h1 p hp)
        simpa using fun e => this (by rw [hq, e])
      rw [this]
      simp [hq]
    · rw [List.filter_cons_of_pos (by simpa using hq), if_neg hq, List.length_cons, ih h2]
      cases hl : lk r s with
      | none => simp
      | some f =>
        have := List.length_pos_of_mem (lk_some_mem hl)
        simp; omega
theorem used_delF {fs : List (ByteArray × AFile)} (hs : SortedF fs) (s : ByteArray) : usedF (delF fs s) + ((lk fs s).map AFile.len).getD 0 = usedF fs := by
  induction fs with
  | nil => simp [delF, lk, usedF]
  | cons q r ih =>
    obtain ⟨h1, h2⟩ := List.pairwise_cons.1 hs
    unfold delF at *
    rw [lk_cons]
    by_cases hq : q.1 = s
    · rw [List.filter_cons_of_neg (by simp [hq])]
      have : r.filter (fun p => !decide (p.1 = s)) = r := List.filter_eq_self.2 fun p hp => by
        have := ltS_ne (h1 p hp)
        simpa using fun e => this (by rw [hq, e])
      rw [this]
      simp [hq, usedF]; omega
    · rw [List.filter_cons_of_pos (by simpa using hq), if_neg hq]
      have := ih h2
      simp only [usedF, List.map_cons, List.sum_cons] at this ⊢
      omega
theorem lk_len_le {fs : List (ByteArray × AFile)} {s : ByteArray} {f : AFile} (h : lk fs s = some f) : f.len ≤ usedF fs := by
  induction fs with
  | nil => cases h
  | cons q r ih =>
    rw [lk_cons] at h
    simp only [usedF, List.map_cons, List.sum_cons] at ih ⊢
    split at h
    · cases h; omega
    · have := ih h; omega
end Go.Proofs.YtkacgmbinkoojaaGreatDoor

/-
  The disk's files in memory, and the walks of file.size and file.first: what each call gives.
-/
namespace Go.Proofs.YtkacgmbinkoojaaGreatDoor
open Go.RowKit Go.Maps Go.MapKept

/-- bytes as cells. -/
def bcells (l : List UInt8) : List Value := l.map fun b => .int .u8 b.toNat
theorem bcells_length (l : List UInt8) : (bcells l).length = l.length := by simp [bcells]
theorem bcells_append (l m : List UInt8) : bcells (l ++ m) = bcells l ++ bcells m := by simp [bcells]
theorem bcells_take (l : List UInt8) (n : Nat) : bcells (l.take n) = (bcells l).take n := by simp [bcells, List.map_take]
theorem bcells_one (l : List UInt8) : ∀ u ∈ bcells l, u.oneCell' = true := by
  intro u hu
  obtain ⟨_, _, rfl⟩ := List.mem_map.1 hu
  rfl

theorem info_u8 : (Tryz.prog.info? 5).map (fun i => (i.zero, i.size, i.bytes)) = some (some (.int .u8 0), 1, 1) := by kernel_rfl
theorem append_u8 {w : World} {ops : Array Oper} {rest : List Oper} {o : Oper} {a : Act} {Q : Exit → Act → World → Prop} (hgd : Region.wanted o (yielded ops a.tmps) = true) (s x : Operand)
    (ho : o.op = .call { callee := .builtin .append, args := #[s, x], argTypes := #[33, 33] })
    (v vx : Value) (l m r : List UInt8) (hlm : l ++ m = r) (hs : a.eval s = v) (hown : w.ownsRow 0 5 1 v l.length (bcells l)) (hx : a.eval x = vx) (hrd : Rd w vx (bcells m))
    (h63 : l.length + m.length ≤ 140737488355328)
    (h : ∀ v' w', w'.ownsRow 0 5 1 v' r.length (bcells r) → w.grownBy w' v.ownBlock → (v'.ownBlock = v.ownBlock ∨ ∃ g, v'.ownBlock = some g ∧ w.heap.size ≤ g) → w'.ownsRow 0 5 1 v l.length (bcells l) → wpList Tryz.prog ops Q rest (a.put o.dst v') w') : wpList Tryz.prog ops Q (o :: rest) a w := by
  subst hlm
  obtain ⟨i0, hi, hz0, hz1, hz2⟩ := info_parts info_u8
  refine wpList_append_rd hgd s x 33 ho 5 i0 (.int .u8 0) 1 Tryz.underlying33 hi hz0 hz1 hz2 rfl v vx l.length m.length (bcells l) (bcells m) hs hown hx hrd (by simp [bcells_length]) (bcells_one m) (by simp only [maxLen]; omega) (by omega) ?_
  intro v' w' h1 h2 h3 h4
  rw [← bcells_append, ← List.length_append] at h1
  exact h v' w' h1 h2 h3 h4

/-- A file's two slices, each in a block of its own. -/
def FileAt (w : World) (v : Value) (f : AFile) : Prop :=
  ∃ v1 v2, v = .agg #[v1, v2] ∧ w.ownsRow 0 5 1 v1 f.firm.length (bcells f.firm) ∧ w.ownsRow 0 5 1 v2 f.loose.length (bcells f.loose) ∧
    (∀ g, v1.ownBlock = some g → v2.ownBlock ≠ some g) ∧ f.len ≤ 16777216

/-- the blocks of a file. -/
def fblocks (v : Value) (k : Nat) : Prop := ∃ x ∈ v.cells.toList, x.ownBlock = some k
theorem fblocks_agg (v1 v2 : Value) (k : Nat) : fblocks (.agg #[v1, v2]) k ↔ v1.ownBlock = some k ∨ v2.ownBlock = some k := by simp [fblocks, Value.cells]
theorem own_slice (a : Option Addr) (n c : Nat) : (Value.slice a n c).ownBlock = a.map (·.block) := by cases a <;> rfl

theorem row_slice {w : World} {e : TypeId} {v : Value} {n : Nat} {xs : List Value} (h : w.ownsRow 0 e 1 v n xs) : ∃ a c, v = .slice a n c ∧ n ≤ c ∧ c ≤ maxLen ∧ (a = none → c = 0) := by
  obtain ⟨h1, ⟨rfl, rfl⟩ | ⟨g, cap, cur, rfl, hb, hg, hn, hc, hs, ht⟩⟩ := h
  · exact ⟨none, 0, rfl, Nat.le_refl _, by simp [maxLen], fun _ => rfl⟩
  · exact ⟨_, cap, rfl, hn, hc, fun e => by cases e⟩

theorem row_take {w : World} {e : TypeId} {a : Option Addr} {n c : Nat} {xs : List Value} (h : w.ownsRow 0 e 1 (.slice a n c) n xs) (m : Nat) (hm : m ≤ n) : w.ownsRow 0 e 1 (.slice a m c) m (xs.take m) := by
  obtain ⟨h1, ⟨h2, rfl⟩ | ⟨g, cap, cur, h2, hb, hg, hn, hc, hs, ht⟩⟩ := h
  · cases h2
    obtain rfl : m = 0 := by omega
    exact ⟨by simp, Or.inl ⟨rfl, rfl⟩⟩
  · cases h2
    refine ⟨by simp at h1; simp; omega, Or.inr ⟨g, _, cur, rfl, hb, hg, by omega, hc, hs, ?_⟩⟩
    rw [← ht, List.take_take]
    congr 1
    omega

set_option maxHeartbeats 400000 in
theorem fsize_any (w : World) (v : Value) (f : AFile) (hf : FileAt w v f) :
    Calls Tryz.prog 53 #[v] w fun e w' => e = .returned (.int .i64 f.len) ∧ Below w.heap.size w w' := by
  obtain ⟨v1, v2, rfl, h1, h2, h3, hl⟩ := hf
  obtain ⟨a1, c1, rfl, _, _, _⟩ := row_slice h1
  obtain ⟨a2, c2, rfl, _, _, _⟩ := row_slice h2
  unfold AFile.len at hl
  have hl' : (f.firm.length : Int) + (f.loose.length : Int) ≤ 16777216 := by omega
  clear h1 h2 h3
  go_enter Tryz.func53, Tryz.ntmps53
  go_wp2
  go_ret
  exact ⟨by simp [AFile.len], (Below.refl _ _).alloc (Nat.le_refl _) _⟩

theorem FileAt.upd {w w' : World} {v : Value} {f : AFile} {fp : Nat → Prop} (h : FileAt w v f) (hu : Upd fp w w') (hn : ∀ k, fblocks v k → ¬ fp k) : FileAt w' v f := by
  obtain ⟨v1, v2, rfl, h1, h2, h3⟩ := h
  exact ⟨v1, v2, rfl, hu.row h1 (fun g hg => hn g ((fblocks_agg _ _ _).2 (Or.inl hg))), hu.row h2 (fun g hg => hn g ((fblocks_agg _ _ _).2 (Or.inr hg))), h3⟩

set_option maxHeartbeats 400000 in
theorem first_less (w : World) (v : Value) (f : AFile) (n : Nat) (hf : FileAt w v f) (hn : n ≤ f.firm.length) :
    Calls Tryz.prog 42 #[v, .int .i64 n] w fun e w' => ∃ v', e = .returned v' ∧ FileAt w' v' ⟨f.firm.take n, []⟩ ∧ Upd (fblocks v) w w' ∧ (∀ k, fblocks v' k → fblocks v k ∨ w.heap.size ≤ k) ∧ FileAt w' v f := by
  have hf0 := hf
  obtain ⟨v1, v2, rfl, h1, h2, h3, hl⟩ := hf
  obtain ⟨a1, c1, rfl, hc1, hm1, _⟩ := row_slice h1
  obtain ⟨a2, c2, rfl, _, _, _⟩ := row_slice h2
  unfold AFile.len at hl
  have Hf0 := Lib.hid hf0
  clear hf0
  have hn' : ¬ ((f.firm.length : Int) < n) := by omega
  have hnc : (n : Int) ≤ c1 := by omega
  clear h2 h3
  go_enter Tryz.func42, Tryz.ntmps42
  go_wp2
  have hU : Upd (fblocks (.agg #[.slice a1 f.firm.length c1, .slice a2 f.loose.length c2])) w ((w.alloc (Obj.cells #[Value.slice a1 f.firm.length c1, Value.slice a2 f.loose.length c2] 79)).alloc (Obj.cells #[Value.slice a1 n c1, Value.slice none 0 0] 79)) := ((Upd.refl _ _).alloc _).alloc _
  have hU0 : Upd noFp w ((w.alloc (Obj.cells #[Value.slice a1 f.firm.length c1, Value.slice a2 f.loose.length c2] 79)).alloc (Obj.cells #[Value.slice a1 n c1, Value.slice none 0 0] 79)) := ((Upd.refl _ _).alloc _).alloc _
  have hr := row_take h1 n hn
  rw [← bcells_take] at hr
  have hl2 : (f.firm.take n).length = n := by simp; omega
  refine bodyPost_ret (v := .agg #[.slice a1 n c1, .slice none 0 0]) (by simp [results, Tryz.results42, go_sem]) rfl ⟨_, rfl, ⟨_, _, rfl, ?_, World.ownsRow_nil _ _ _ _, by simp [Value.ownBlock], by simp [AFile.len]; omega⟩, hU, fun k hk => ?_, Hf0.out.upd hU0 (fun _ _ h => h)⟩
  · show World.ownsRow _ 0 _ 1 _ (f.firm.take n).length _
    rw [hl2]
    exact hU0.row hr (fun _ _ h => h)
  · left
    rw [fblocks_agg] at hk ⊢
    simp only [own_slice, Option.map_none, reduceCtorEq, or_false] at hk ⊢
    exact Or.inl hk
set_option maxRecDepth 100000 in
set_option maxHeartbeats 400000 in
theorem first_more (w : World) (v : Value) (f : AFile) (n : Nat) (hf : FileAt w v f) (hn : f.firm.length < n) (hn2 : n ≤ f.len) :
    Calls Tryz.prog 42 #[v, .int .i64 n] w fun e w' => ∃ v', e = .returned v' ∧ FileAt w' v' ⟨f.firm ++ f.loose.take (n - f.firm.length), []⟩ ∧ Upd (fblocks v) w w' ∧ (∀ k, fblocks v' k → fblocks v k ∨ w.heap.size ≤ k) ∧ FileAt w' v f := by
  obtain ⟨v1, v2, rfl, h1, h2, h3, hl⟩ := hf
  obtain ⟨a1, c1, rfl, hc1, hm1, _⟩ := row_slice h1
  obtain ⟨a2, c2, rfl, hc2, _, _⟩ := row_slice h2
  unfold AFile.len at hl hn2
  have hn' : (f.firm.length : Int) < n := by omega
  have hnc : (n : Int) - f.firm.length ≤ c2 := by omega
  obtain ⟨ys, hys⟩ : ∃ ys, f.firm ++ f.loose.take (n - f.firm.length) = ys := ⟨_, rfl⟩
  rw [hys]
  have hyl : ys.length = n := by rw [← hys]; simp; omega
  have Hys := Lib.hid hys
  have Hyl := Lib.hid hyl
  have H3 := Lib.hid h3
  clear h3 hys hyl
  go_enter Tryz.func42, Tryz.ntmps42
  go_wp2
  have hw1 : IntKind.i64.wrap ((n : Int) - f.firm.length) = (n : Int) - f.firm.length := IntWalk.i64_in _ (by omega)
  have hw2 : (0 : Int) ≤ (n : Int) - f.firm.length := by omega
  have hw3 : ((n : Int) - f.firm.length).toNat = n - f.firm.length := by omega
  have hw4 : f.firm.length ≤ n := by omega
  refine wp_region_tail 10 (by kernel_rfl) (by kernel_rfl) ?_
  simp only [List.take_succ_cons, List.take_zero, List.drop_succ_cons, List.drop_zero]
  repeat still_step
  refine wpStill_nil ?_
  have hr2 := row_take h2 (n - f.firm.length) (by omega)
  rw [← bcells_take] at hr2
  have hU0 : Upd noFp w ((w.alloc (Obj.cells #[Value.slice a1 f.firm.length c1, Value.slice a2 f.loose.length c2] 79)).alloc (Obj.cells #[Value.slice none 0 0, Value.slice none 0 0] 79)).drew := (((Upd.refl _ _).alloc _).alloc _).drew
  have hown1 := hU0.row h1 (fun _ _ h => h)
  have hrd2 := Rd.ofOwns (hU0.row hr2 (fun _ _ h => h))
  refine append_u8 rfl (.tmp 11) (.tmp 19) rfl (.slice a1 f.firm.length c1) (.slice a2 (n - f.firm.length) c2) f.firm (f.loose.take (n - f.firm.length)) ys Hys.out rfl hown1 rfl hrd2 (by simp; omega) ?_
  intro v' w1 hv' hg hb hold
  have hlt : ∀ g, (Value.slice a1 f.firm.length c1).ownBlock = some g → g < w.heap.size := fun g hg => row_lt h1 hg
  generalize hW : ((w.alloc (Obj.cells #[Value.slice a1 f.firm.length c1, Value.slice a2 f.loose.length c2] 79)).alloc (Obj.cells #[Value.slice none 0 0, Value.slice none 0 0] 79)).drew = W at *
  have hb2 : W.heap[w.heap.size + 1]? = some (Obj.cells #[Value.slice none 0 0, Value.slice none 0 0] 79 (0, 0)) := by rw [← hW]; exact alloc2_at _ _ _
  have hWs : w.heap.size ≤ W.heap.size := hU0.size
  have hU1 : Upd (fun k => (Value.slice a1 f.firm.length c1).ownBlock = some k) W w1 := (Upd.refl _ _).grown hg (fun k hk => Or.inl hk)
  have hb3 := hU1.keep hb2 (fun h => by have := hlt _ h; omega)
  obtain ⟨q1, q2, q3, q4⟩ := cells2 hb3
  obtain ⟨a', c', rfl, _, _, _⟩ := row_slice hv'
  clear hW
  go_wp2
  have hW2 := blk_lt hb2
  have hU2 : Upd (fun k => (Value.slice a1 f.firm.length c1).ownBlock = some k) w w1 := (hU0.mono (fun k h => h.elim)).trans hU1 (fun k hk => Or.inl hk)
  have hU3 := (hU2.setCell (p := ⟨w.heap.size + 1, 0, none⟩) (Or.inr (by simp)) (.slice a' ys.length c')).setCell (p := ⟨w.heap.size + 1, 1, none⟩) (Or.inr (by simp)) (.slice none 0 0)
  have hU4 : Upd (· = w.heap.size + 1) w1 ((w1.setCell ⟨w.heap.size + 1, 0, none⟩ (.slice a' ys.length c')).setCell ⟨w.heap.size + 1, 1, none⟩ (.slice none 0 0)) :=
    setCell2_upd _ _
  have hfin := hU4.row hv' (fun g hg e => by
    rcases hb with hb | ⟨g', hb, hg'⟩
    · have := hlt g (hb ▸ hg); omega
    · rw [hb] at hg; cases hg; omega)
  have hfold : FileAt ((w1.setCell ⟨w.heap.size + 1, 0, none⟩ (.slice a' ys.length c')).setCell ⟨w.heap.size + 1, 1, none⟩ (.slice none 0 0)) (.agg #[.slice a1 f.firm.length c1, .slice a2 f.loose.length c2]) f := by
    refine ⟨_, _, rfl, hU4.row hold (fun g hg e => by have := hlt g hg; omega), hU4.row (hU2.row h2 (fun g hg e => H3.out g e hg)) (fun g hg e => by have := row_lt h2 hg; omega), H3.out, by unfold AFile.len; omega⟩
  refine bodyPost_ret (v := .agg #[.slice a' ys.length c', .slice none 0 0]) (by simp [results, Tryz.results42, go_sem, q1, q2]) rfl ⟨_, rfl, ⟨_, _, rfl, hfin, World.ownsRow_nil _ _ _ _, by simp [Value.ownBlock], ?_⟩, hU3.mono ?_, fun k hk => ?_, hfold⟩
  · have := Hyl.out
    simp only [AFile.len]
    simp; omega
  · intro k hk
    exact Or.inl ((fblocks_agg _ _ _).2 (Or.inl hk))
  · rw [fblocks_agg] at hk ⊢
    rcases hk with hk | hk
    · rcases hb with hb | ⟨g', hb, hg'⟩
      · exact Or.inl (Or.inl (hb ▸ hk))
      · rw [hb] at hk; cases hk; exact Or.inr (by omega)
    · cases hk
end Go.Proofs.YtkacgmbinkoojaaGreatDoor

/-
  The disk in memory, and the walks of power.step, Disk.find, Disk.put.
-/
namespace Go.Proofs.YtkacgmbinkoojaaGreatDoor
open Go.RowKit Go.Maps Go.MapKept

/-- A disk at block p, its map at block m, the map's values by g. -/
structure DiskRep (w : World) (p m : Nat) (g : Value → Option Value) (d : ADisk) : Prop where
  head : w.heap[p]? = some (.cells #[.int .i64 d.left, .bool d.down, .map (some m), .int .i64 d.most] 63 (0, 0))
  map : MapIs Tryz.prog 9 w m d.fs.length g
  dom : ∀ key v, g key = some v → ∃ s f, key = .string s ∧ lk d.fs s = some f
  file : ∀ s f, lk d.fs s = some f → ∃ v, g (.string s) = some v ∧ FileAt w v f
  apart : ∀ s t v u, g (.string s) = some v → g (.string t) = some u → s ≠ t → ∀ k, fblocks v k → ¬ fblocks u k
  wf : d.WF

/-- the disk's blocks. -/
def dfp (p m : Nat) (g : Value → Option Value) (k : Nat) : Prop := k = p ∨ k = m ∨ ∃ s v, g (.string s) = some v ∧ fblocks v k

def zFile : Value := .agg #[.slice none 0 0, .slice none 0 0]
theorem keyed : Keyed Tryz.prog 9 := string_keyed Tryz.underlying9
theorem key_of {s : ByteArray} (hs : s.size ≤ maxLen) : keyOf Tryz.prog 9 (.string s) = some (.string s.data.toList) := Go.WideMaps.keyOf_string_mk Tryz.underlying9 hs
theorem zero_file (w : World) : (zeroValue 79).run Tryz.prog w = .ok zFile w := by kernel_rfl

set_option maxHeartbeats 400000 in
theorem step_any (b : Nat) (left : Int) (down : Bool) (x y : Value) (T : TypeId) (w : World) (hb : w.heap[b]? = some (.cells #[.int .i64 left, .bool down, x, y] T (0, 0))) (hlo : -1 ≤ left) (hhi : left ≤ 9223372036854775807) :
    Calls Tryz.prog 54 #[.pointer (some ⟨b, 0, none⟩)] w fun e w' => e = .returned (.bool (!(left == 0))) ∧ w'.heap[b]? = some (.cells #[.int .i64 (max (left - 1) (-1)), .bool (left == 0), x, y] T (0, 0)) ∧ Upd (· = b) w w' ∧ w'.heap.size = w.heap.size := by
  obtain ⟨q0, q1, _, _, z0, z1, _, _⟩ := cells4 hb
  have hfin : ∀ l' : Int, l' = max (left - 1) (-1) → ((w.setCell ⟨b, 1, none⟩ (.bool (left == 0))).setCell ⟨b, 0, none⟩ (.int .i64 l')).heap[b]? = some (.cells #[.int .i64 (max (left - 1) (-1)), .bool (left == 0), x, y] T (0, 0)) := by
    intro l' hl'
    rw [setCell_at (setCell_at hb 1 _) 0 _, hl']; rfl
  have hu : ∀ l' : Int, Upd (· = b) w ((w.setCell ⟨b, 1, none⟩ (.bool (left == 0))).setCell ⟨b, 0, none⟩ (.int .i64 l')) := fun l' => (setCell_upd (w := w) 1 _).trans (setCell_upd 0 _) (fun k hk => Or.inl hk)
  clear hb
  have hs : ∀ l' : Int, ((w.setCell ⟨b, 1, none⟩ (.bool (left == 0))).setCell ⟨b, 0, none⟩ (.int .i64 l')).heap.size = w.heap.size := fun l' => by simp [World.setCell]
  have Hf := Lib.hid hfin
  have Hu := Lib.hid hu
  have Hs := Lib.hid hs
  clear hfin hu hs
  go_enter Tryz.func54, Tryz.ntmps54
  go_wp2
  all_goals
    go_ret
    exact ⟨rfl, Hf.out _ (by omega), Hu.out _, Hs.out _⟩

def findErr (d : ADisk) (s : ByteArray) : Int := if d.down then 15 else if (lk d.fs s).isNone then 13 else 0

theorem DiskRep.fileAgg {w : World} {p m : Nat} {g : Value → Option Value} {d : ADisk} (h : DiskRep w p m g d) (s : ByteArray) : ∃ a1 n1 c1 a2 n2 c2, (g (.string s)).getD zFile = .agg #[.slice a1 n1 c1, .slice a2 n2 c2] ∧ (g (.string s)).isSome = (lk d.fs s).isSome := by
  cases hl : lk d.fs s with
  | none =>
    have : g (.string s) = none := by
      cases hg : g (.string s) with
      | none => rfl
      | some v => obtain ⟨t, f, ht, hf⟩ := h.dom _ _ hg; cases ht; rw [hl] at hf; cases hf
    exact ⟨none, 0, 0, none, 0, 0, by rw [this]; rfl, by simp [this]⟩
  | some f =>
    obtain ⟨v, hg, v1, v2, rfl, h1, h2, _⟩ := h.file s f hl
    obtain ⟨a1, c1, rfl, _⟩ := row_slice h1
    obtain ⟨a2, c2, rfl, _⟩ := row_slice h2
    exact ⟨_, _, _, _, _, _, by rw [hg]; rfl, by simp [hg]⟩

set_option maxRecDepth 100000 in
set_option maxHeartbeats 1000000 in
theorem find_any (w : World) (p m : Nat) (g : Value → Option Value) (d : ADisk) (s : ByteArray) (h : DiskRep w p m g d) (hs : s.size ≤ maxLen) :
    Calls Tryz.prog 44 #[.pointer (some ⟨p, 0, none⟩), .string s] w fun e w' => e = .returned (.tuple #[(g (.string s)).getD zFile, .int .i64 (findErr d s)]) ∧ Below w.heap.size w w' := by
  obtain ⟨q0, q1, q2, q3, z0, z1, z2, z3⟩ := cells4 h.head
  obtain ⟨a1, n1, c1, a2, n2, c2, hv, hb⟩ := h.fileAgg s
  have hlt := blk_lt h.head
  have hm := h.map
  rw [hv]
  have hk := key_of hs
  clear h
  have Hv := Lib.hid hv
  clear hv
  have hen := fun (w : World) => run_eql_map_nil (P := Tryz.prog) w 61 9 79 (some m) Tryz.underlying61
  have key : ∀ dn there : Bool, d.down = dn → (lk d.fs s).isSome = there → Calls Tryz.prog 44 #[.pointer (some ⟨p, 0, none⟩), .string s] w fun e w' => e = .returned (.tuple #[.agg #[.slice a1 n1 c1, .slice a2 n2 c2], .int .i64 (if dn then 15 else if there then 0 else 13)]) ∧ Below w.heap.size w w' := by
    intro dn there hdn hl
    rw [hdn] at q1
    rw [hl] at hb
    have Hb := Lib.hid hb
    clear hb hl hdn
    cases dn <;> cases there <;> simp only [if_true, if_false, Bool.false_eq_true]
    all_goals
      go_enter Tryz.func44, Tryz.ntmps44
      go_wp2_with (at_lookup; refine wpList_map_lookup_ok rfl (.tmp 22) (.tmp 23) 61 9 79 rfl Tryz.underlying61 keyed m _ g (hm.alloc _) rfl _ rfl _ hk zFile zero_file _ Hv.out _ Hb.out ?_)
      exact bodyPost_ret (v := .tuple #[.agg #[.slice a1 n1 c1, .slice a2 n2 c2], _]) (by simp [results, Tryz.results44, go_sem]) rfl ⟨rfl, ((Below.refl _ _).alloc (Nat.le_refl _) _).alloc (by simp) _⟩
  have := key d.down (lk d.fs s).isSome rfl rfl
  refine this.mono fun e w' he => ⟨?_, he.2⟩
  rw [he.1, findErr]
  cases d.down <;> cases lk d.fs s <;> rfl

theorem fblocks_row {w : World} {v : Value} {f : AFile} (h : FileAt w v f) {k : Nat} (hk : fblocks v k) : ∃ cur, w.heap[k]? = some (.cells cur 5 (0, 0)) := by
  obtain ⟨v1, v2, rfl, h1, h2, _⟩ := h
  rw [fblocks_agg] at hk
  rcases hk with hk | hk
  · rcases h1.2 with ⟨rfl, _⟩ | ⟨g, _, cur, rfl, _, hg, _⟩
    · cases hk
    · cases hk; exact ⟨cur, hg⟩
  · rcases h2.2 with ⟨rfl, _⟩ | ⟨g, _, cur, rfl, _, hg, _⟩
    · cases hk
    · cases hk; exact ⟨cur, hg⟩
theorem DiskRep.block_ne {w : World} {p m : Nat} {g : Value → Option Value} {d : ADisk} (h : DiskRep w p m g d) {v : Value} {f : AFile} (hf : FileAt w v f) {k : Nat} (hk : fblocks v k) : k ≠ p ∧ k ≠ m := by
  obtain ⟨cur, hc⟩ := fblocks_row hf hk
  constructor
  · rintro rfl
    have := h.head
    rw [hc] at this
    injection this with this
    injection this with _ h2
    exact absurd h2 (by decide)
  · rintro rfl
    obtain ⟨es, cl, hb, _⟩ := h.map
    rw [hc] at hb
    injection hb with hb
    cases hb
theorem DiskRep.p_ne_m {w : World} {p m : Nat} {g : Value → Option Value} {d : ADisk} (h : DiskRep w p m g d) : p ≠ m := by
  rintro rfl
  obtain ⟨es, cl, hb, _⟩ := h.map
  rw [h.head] at hb
  injection hb with hb
  cases hb
theorem DiskRep.lt {w : World} {p m : Nat} {g : Value → Option Value} {d : ADisk} (h : DiskRep w p m g d) {k : Nat} (hk : dfp p m g k) : k < w.heap.size := by
  rcases hk with rfl | rfl | ⟨s, v, hg, hv⟩
  · exact blk_lt h.head
  · exact h.map.lt
  · obtain ⟨t, f, ht, hl⟩ := h.dom _ _ hg
    cases ht
    obtain ⟨v', hg', hf⟩ := h.file _ _ hl
    rw [hg] at hg'; cases hg'
    obtain ⟨cur, hc⟩ := fblocks_row hf hv
    exact blk_lt hc
/-- A disk stays what it is while others are written. -/
theorem DiskRep.upd {w w' : World} {p m : Nat} {g : Value → Option Value} {d : ADisk} {fp : Nat → Prop} (h : DiskRep w p m g d) (hu : Upd fp w w') (hn : ∀ k, dfp p m g k → ¬ fp k) : DiskRep w' p m g d where
  head := hu.keep h.head (hn p (Or.inl rfl))
  map := h.map.upd hu (hn m (Or.inr (Or.inl rfl)))
  dom := h.dom
  file s f hl := by
    obtain ⟨v, hg, hf⟩ := h.file s f hl
    exact ⟨v, hg, hf.upd hu (fun k hk => hn k (Or.inr (Or.inr ⟨s, v, hg, hk⟩)))⟩
  apart := h.apart
  wf := h.wf
theorem DiskRep.below {w w' : World} {p m : Nat} {g : Value → Option Value} {d : ADisk} (h : DiskRep w p m g d) (hu : Below w.heap.size w w') : DiskRep w' p m g d :=
  h.upd (Upd.ofBelow (fp := noFp) hu) (fun _ _ h => h)

/-- the power behind a step. -/
def ADisk.fail (d : ADisk) : ADisk := { d with left := -1, down := true }
def ADisk.tick (d : ADisk) : ADisk := { d with left := max (d.left - 1) (-1), down := false }
theorem ADisk.WF.fail {d : ADisk} (h : d.WF) : d.fail.WF := { h with left0 := by simp [ADisk.fail], left1 := by simp [ADisk.fail] }
theorem ADisk.WF.tick {d : ADisk} (h : d.WF) : d.tick.WF := { h with left0 := by simp [ADisk.tick]; omega, left1 := by have := h.left1; simp [ADisk.tick]; omega }

/-- the power's cells alone have turned. -/
theorem DiskRep.power {w w' : World} {p m : Nat} {g : Value → Option Value} {d : ADisk} (h : DiskRep w p m g d) (hu : Upd (· = p) w w') {l : Int} {b : Bool}
    (hb : w'.heap[p]? = some (.cells #[.int .i64 l, .bool b, .map (some m), .int .i64 d.most] 63 (0, 0))) (hw : ({ d with left := l, down := b } : ADisk).WF) : DiskRep w' p m g { d with left := l, down := b } where
  head := hb
  map := h.map.upd hu (fun e => h.p_ne_m e.symm)
  dom := h.dom
  file s f hl := by
    obtain ⟨v, hg, hf⟩ := h.file s f hl
    exact ⟨v, hg, hf.upd hu (fun k hk => (h.block_ne hf hk).1)⟩
  apart := h.apart
  wf := hw

open Classical in
/-- a file is put into the map. -/
theorem DiskRep.stored {w w' : World} {p m n : Nat} {g : Value → Option Value} {d : ADisk} (h : DiskRep w p m g d) {s : ByteArray} {v : Value} {f : AFile} (hf : FileAt w v f)
    (hblk : ∀ k, fblocks v k → dfp p m g k → ∃ u, g (.string s) = some u ∧ fblocks u k)
    (hm : MapIs Tryz.prog 9 w' m n (fun x => if x = .string s then some v else g x)) (hg : w.grownBy w' (some m)) (hn : n = (putF d.fs s f).length)
    (hw : ({ d with fs := putF d.fs s f } : ADisk).WF) :
    DiskRep w' p m (fun x => if x = .string s then some v else g x) { d with fs := putF d.fs s f } where
  head := by rw [hg.block p (blk_lt h.head) (fun e => h.p_ne_m (by cases e; rfl))]; exact h.head
  map := by subst hn; exact hm
  dom key u hk := by
    split at hk
    · rename_i e; exact ⟨s, f, e, by rw [lk_putF, if_pos rfl]⟩
    · obtain ⟨t, f', ht, hl⟩ := h.dom key u hk
      by_cases hts : t = s
      · subst hts; exact ⟨t, f, ht, by rw [lk_putF, if_pos rfl]⟩
      · exact ⟨t, f', ht, by rw [lk_putF, if_neg hts]; exact hl⟩
  file t f' hl := by
    have hu : Upd (· = m) w w' := (Upd.refl _ _).grown hg (fun k hk => by cases hk; exact Or.inl rfl)
    simp only [lk_putF] at hl
    by_cases hts : t = s
    · subst hts
      rw [if_pos rfl] at hl; cases hl
      exact ⟨v, by simp, hf.upd hu (fun k hk => (h.block_ne hf hk).2)⟩
    · rw [if_neg hts] at hl
      obtain ⟨u, hgu, hfu⟩ := h.file t f' hl
      exact ⟨u, by simp [hts, hgu], hfu.upd hu (fun k hk => (h.block_ne hfu hk).2)⟩
  apart a b va vb ha hb hab k hka hkb := by
    simp only [Value.string.injEq] at ha hb
    by_cases has : a = s
    · rw [if_pos has] at ha; cases ha
      have hbs : b ≠ s := fun e => hab (by rw [has, e])
      rw [if_neg hbs] at hb
      obtain ⟨u, hu, hku⟩ := hblk k hka (Or.inr (Or.inr ⟨b, vb, hb, hkb⟩))
      exact h.apart b s vb u hb hu hbs k hkb hku
    · rw [if_neg has] at ha
      by_cases hbs : b = s
      · rw [if_pos hbs] at hb; cases hb
        obtain ⟨u, hu, hku⟩ := hblk k hkb (Or.inr (Or.inr ⟨a, va, ha, hka⟩))
        exact h.apart a s va u ha hu has k hka hku
      · rw [if_neg hbs] at hb
        exact h.apart a b va vb ha hb hab k hka hkb
  wf := hw

/-- what a put does, if the power holds. -/
def ADisk.put (d : ADisk) (s : ByteArray) (f : AFile) : ADisk := if d.left = 0 then d.fail else { d.tick with fs := putF d.fs s f }
def ADisk.err (d : ADisk) : Int := if d.left = 0 then 15 else 0

open Classical in
set_option maxRecDepth 100000 in
set_option maxHeartbeats 1000000 in
theorem put_any (w : World) (p m : Nat) (g : Value → Option Value) (d : ADisk) (s : ByteArray) (v : Value) (f : AFile) (h : DiskRep w p m g d) (hs : s.size ≤ maxLen) (hf : FileAt w v f)
    (hblk : ∀ k, fblocks v k → dfp p m g k → ∃ u, g (.string s) = some u ∧ fblocks u k) (hw : ({ d.tick with fs := putF d.fs s f } : ADisk).WF) :
    Calls Tryz.prog 47 #[.pointer (some ⟨p, 0, none⟩), .string s, v] w fun e w' => e = .returned (.int .i64 d.err) ∧ ∃ g', DiskRep w' p m g' (d.put s f) ∧ Upd (fun k => k = p ∨ k = m) w w' ∧ ∀ k, dfp p m g' k → dfp p m g k ∨ fblocks v k := by
  have hwf := h.wf
  have hl0 := hwf.left0
  have hl1 := hwf.left1
  obtain ⟨v1, v2, rfl, hf'⟩ := id hf
  obtain ⟨a1, c1, rfl, _⟩ := row_slice hf'.1
  obtain ⟨a2, c2, rfl, _⟩ := row_slice hf'.2.1
  clear hf'
  have hk := key_of hs
  have hlt := blk_lt h.head
  by_cases hz : d.left = 0
  · have Hz := Lib.hid hz
    have hzb : (!(d.left == 0)) = false := by simp [hz]
    have Hzb := Lib.hid hzb
    clear hz hzb
    go_enter Tryz.func47, Tryz.ntmps47
    go_wp2_with (go_at_call 54; refine (step_any p d.left d.down (.map (some m)) (.int .i64 d.most) 63 _ (alloc_old h.head _) hl0 hl1).mono ?_; rw [Hzb.out]; rintro e w1 ⟨rfl, hb1, hu1, hs1⟩)
    go_ret
    have hA : Upd noFp w (w.alloc (Obj.cells #[.slice a1 f.firm.length c1, .slice a2 f.loose.length c2] 79)) := (Upd.refl _ _).alloc _
    have h1 := (h.upd hA (fun _ _ h => h)).power (l := -1) (b := true) hu1 (by rw [hb1, Hz.out]; rfl) hwf.fail
    refine ⟨?_, g, ?_, (hA.mono (fun k h => h.elim)).trans hu1 (fun k hk => Or.inl (Or.inl hk)), fun k hk => Or.inl hk⟩
    · rw [ADisk.err, if_pos Hz.out]; rfl
    · rw [ADisk.put, if_pos Hz.out]; exact h1
  · have Hz := Lib.hid hz
    have hzb : (!(d.left == 0)) = true := by simp [hz]
    have Hzb := Lib.hid hzb
    clear hz hzb
    go_enter Tryz.func47, Tryz.ntmps47
    go_wp2_with (go_at_call 54; refine (step_any p d.left d.down (.map (some m)) (.int .i64 d.most) 63 _ (alloc_old h.head _) hl0 hl1).mono ?_; rw [Hzb.out]; rintro e w1 ⟨rfl, hb1, hu1, hs1⟩)
    have hA : Upd noFp w (w.alloc (Obj.cells #[.slice a1 f.firm.length c1, .slice a2 f.loose.length c2] 79)) := (Upd.refl _ _).alloc _
    have h1 := (h.upd hA (fun _ _ h => h)).power (l := max (d.left - 1) (-1)) (b := false) hu1 (by rw [hb1, show (d.left == 0) = false by simpa using Hz.out]) hwf.tick
    have hf1 : FileAt w1 (.agg #[.slice a1 f.firm.length c1, .slice a2 f.loose.length c2]) f := (hf.upd hA (fun _ _ h => h)).upd hu1 (fun k hk => (h.block_ne hf hk).1)
    obtain ⟨q0, q1, q2, q3, z0, z1, z2, z3⟩ := cells4 h1.head
    obtain ⟨y0, y1, _, _⟩ := cells2 (hu1.keep (alloc_at w _) (by omega))
    refine wp_region_tail 6 (by kernel_rfl) (by kernel_rfl) ?_
    simp only [List.take_succ_cons, List.take_zero, List.drop_succ_cons, List.drop_zero]
    repeat still_step
    refine wpStill_nil ?_
    refine wpList_map_update rfl (.tmp 15) (.tmp 16) (.tmp 17) 61 9 79 rfl Tryz.underlying61 keyed m _ g h1.map.drew rfl (.string s) rfl _ hk (.agg #[.slice a1 f.firm.length c1, .slice a2 f.loose.length c2]) rfl (by have := hwf.count; simp only [maxLen]; show d.fs.length < _; omega) (putF d.fs s f).length (by rw [length_putF hwf.sorted]; obtain ⟨_, _, _, _, _, _, _, hb⟩ := h.fileAgg s; simp only [hb]) ?_
    intro w2 hm2 hg2 hs2
    have h2 := h1.stored (w' := w2) (n := (putF d.fs s f).length) (s := s) (f := f) hf1 hblk hm2 (grown_drew hg2) rfl hw
    have hu2 : Upd (fun k => k = p ∨ k = m) w1 w2 := (Upd.refl _ _).drew.grown hg2 (fun k hk => by cases hk; exact Or.inl (Or.inr rfl))
    have Hg := Lib.hid hm2
    clear hm2
    go_wp2
    go_ret
    refine ⟨?_, fun x => if x = .string s then some (.agg #[.slice a1 f.firm.length c1, .slice a2 f.loose.length c2]) else g x, ?_, ((hA.mono (fun k h => h.elim)).trans hu1 (fun k hk => Or.inl (Or.inl hk))).trans hu2 (fun k hk => Or.inl hk), fun k hk => ?_⟩
    · rw [ADisk.err, if_neg Hz.out]; rfl
    · rw [ADisk.put, if_neg Hz.out]; exact h2
    · rcases hk with hk | hk | ⟨t, u, hu, hku⟩
      · exact Or.inl (Or.inl hk)
      · exact Or.inl (Or.inr (Or.inl hk))
      · replace hu : (if Value.string t = Value.string s then some (Value.agg #[.slice a1 f.firm.length c1, .slice a2 f.loose.length c2]) else g (.string t)) = some u := hu
        split at hu
        · cases hu; exact Or.inr hku
        · exact Or.inl (Or.inr (Or.inr ⟨t, u, hu, hku⟩))
end Go.Proofs.YtkacgmbinkoojaaGreatDoor

/-
  The walks of named, Disk.at, Size, Synced, Arm, Down, New.
-/
namespace Go.Proofs.YtkacgmbinkoojaaGreatDoor
open Go.RowKit Go.Maps Go.MapKept

theorem okLetter_iff (c : UInt8) : okLetter c = true ↔ ((97 ≤ (c.toNat : Int) ∧ (c.toNat : Int) ≤ 122) ∨ (48 ≤ (c.toNat : Int) ∧ (c.toNat : Int) ≤ 57) ∨ (c.toNat : Int) = 46 ∨ (c.toNat : Int) = 45) := by
  unfold okLetter
  simp only [Bool.or_eq_true, Bool.and_eq_true, decide_eq_true_eq, beq_iff_eq, UInt8.le_iff_toNat_le, ← UInt8.toNat_inj]
  simp
  omega
theorem take_all_succ (s : ByteArray) (k : Nat) (hk : k < s.size) (h : (s.data.toList.take k).all okLetter = true) : (s.data.toList.take (k + 1)).all okLetter = okLetter (byteAt s k) := by
  have hk' : k < s.data.toList.length := by simpa using hk
  rw [List.take_succ_eq_append_getElem hk', List.all_append, h]
  simp [byteAt, List.getD, hk]
theorem okName_bad (s : ByteArray) (k : Nat) (hk : k < s.size) (h : okLetter (byteAt s k) = false) : okName s = false := by
  have hk' : k < s.data.toList.length := by simpa using hk
  have : s.data.toList.all okLetter = false := by
    rw [List.all_eq_false]
    exact ⟨s.data.toList[k], List.getElem_mem _, by simpa [byteAt, List.getD, hk] using h⟩
  simp [okName, this]

set_option maxRecDepth 100000 in
set_option maxHeartbeats 1000000 in
theorem named_any (s : ByteArray) (w : World) (hs : s.size ≤ maxLen) :
    Calls Tryz.prog 45 #[.string s] w fun e w' => e = .returned (.bool (okName s)) ∧ Below w.heap.size w w' := by
  unfold maxLen at hs
  go_enter Tryz.func45, Tryz.ntmps45
  go_wp2_with (refine wpList_str_bytes rfl (.tmp 5) 9 33 5 rfl s rfl Tryz.underlying9 Tryz.underlying33 Tryz.underlying5 ?_)
  intro w1 c hb hs1 hc hcell
  have Hcell := Lib.hid hcell
  clear hcell
  go_wp2
  go_loop [8] (fun i => ∃ k : Nat, k ≤ s.size ∧ i = .int .i64 k ∧ (s.data.toList.take k).all okLetter = true) (fun i => s.size - (intOf i).toNat)
  case atStart => exact ⟨0, by omega, rfl, by simp⟩
  case round =>
    obtain ⟨k, hk, rfl, hall⟩ := hrel
    have Hall := Lib.hid hall
    clear hall
    by_cases hlt : k < s.size
    · have hcl := Hcell.out k hlt
      obtain ⟨ch, hch⟩ : ∃ ch, byteAt s k = ch := ⟨_, rfl⟩
      rw [hch] at hcl
      have hok := okLetter_iff ch
      have hsucc := take_all_succ s k hlt Hall.out
      have hbad := okName_bad s k hlt
      rw [hch] at hsucc hbad
      have Hok := Lib.hid hok
      have Hsucc := Lib.hid hsucc
      have Hbad := Lib.hid hbad
      clear hch hok hsucc hbad
      go_wp2
      all_goals first
        | (go_ret
           refine ⟨?_, hb⟩
           rw [Hbad.out (by rw [Bool.eq_false_iff, ne_eq, Hok.out]; (try simp at *) <;> omega)]
           rfl)
        | (go_round
           case rel => exact ⟨k + 1, by omega, by go_num, by rw [Hsucc.out, Hok.out]; (try simp at *) <;> omega⟩
           case measure => simp [intOf]; omega)
    · have hfull : s.data.toList.take k = s.data.toList := List.take_of_length_le (by simp; omega)
      have hall := Hall.out
      rw [hfull] at hall
      have hn : okName s = (decide (0 < s.size) && decide (s.size ≤ 40)) := by simp [okName, hall]
      have Hn := Lib.hid hn
      clear hfull hall hn
      by_cases h0 : 0 < s.size
      · by_cases h40 : s.size ≤ 40
        · go_wp2
          go_ret
          exact ⟨by rw [Hn.out]; simp [h0, h40]; omega, hb⟩
        · go_wp2
          go_ret
          exact ⟨by rw [Hn.out]; simp [h0, h40]; omega, hb⟩
      · go_wp2
        go_ret
        exact ⟨by rw [Hn.out]; simp [h0], hb⟩

/-- the value of a file of the disk. -/
def afile (d : ADisk) (s : ByteArray) : AFile := (lk d.fs s).getD ⟨[], []⟩
theorem DiskRep.fileOf {w : World} {p m : Nat} {g : Value → Option Value} {d : ADisk} (h : DiskRep w p m g d) (s : ByteArray) : FileAt w ((g (.string s)).getD zFile) (afile d s) := by
  unfold afile
  cases hl : lk d.fs s with
  | none =>
    obtain ⟨_, _, _, _, _, _, _, hb⟩ := h.fileAgg s
    rw [hl] at hb
    have : g (.string s) = none := by cases hg : g (.string s) <;> simp_all
    rw [this]
    exact ⟨_, _, rfl, World.ownsRow_nil _ _ _ _, World.ownsRow_nil _ _ _ _, by simp [Value.ownBlock], by simp [AFile.len]⟩
  | some f =>
    obtain ⟨v, hg, hf⟩ := h.file s f hl
    rw [hg]
    exact hf

set_option maxHeartbeats 1000000 in
theorem at_any (w : World) (p m : Nat) (g : Value → Option Value) (d : ADisk) (s : ByteArray) (h : DiskRep w p m g d) (hs : s.size ≤ maxLen) :
    Calls Tryz.prog 77 #[.pointer (some ⟨p, 0, none⟩), .string s] w fun e w' => e = .returned ((g (.string s)).getD zFile) ∧ Below w.heap.size w w' := by
  obtain ⟨q0, q1, q2, q3, z0, z1, z2, z3⟩ := cells4 h.head
  obtain ⟨a1, n1, c1, a2, n2, c2, hv, hb⟩ := h.fileAgg s
  have hlt := blk_lt h.head
  have hm := h.map
  rw [hv]
  have hk := key_of hs
  clear h
  have Hv := Lib.hid hv
  clear hv
  go_enter Tryz.func77, Tryz.ntmps77
  go_wp2_with (at_lookup; refine wpList_map_lookup rfl (.tmp 11) (.tmp 12) 61 9 79 rfl Tryz.underlying61 keyed m _ g (hm.alloc _) rfl _ rfl _ hk zFile zero_file _ Hv.out ?_)
  exact bodyPost_ret (v := .agg #[.slice a1 n1 c1, .slice a2 n2 c2]) (by simp [results, Tryz.results77, go_sem]) rfl ⟨rfl, (Below.refl _ _).alloc (Nat.le_refl _) _⟩

set_option maxHeartbeats 1000000 in
theorem Size_any (w : World) (p m : Nat) (g : Value → Option Value) (d : ADisk) (s : ByteArray) (h : DiskRep w p m g d) (hs : s.size ≤ maxLen) :
    Calls Tryz.prog 58 #[.pointer (some ⟨p, 0, none⟩), .string s] w fun e w' => e = .returned (.int .i64 (afile d s).len) ∧ Below w.heap.size w w' := by
  have hf := h.fileOf s
  generalize hv : (g (.string s)).getD zFile = v at hf
  have hA := at_any w p m g d s h hs
  rw [hv] at hA
  clear hv h
  go_enter Tryz.func58, Tryz.ntmps58
  go_wp2_with (first | (go_at_call 77; refine hA.mono ?_; rintro e w1 ⟨rfl, hb1⟩) | (go_at_call 53; refine (fsize_any _ _ _ (hf.upd (Upd.ofBelow (fp := noFp) hb1) (fun _ _ h => h))).mono ?_; rintro e w2 ⟨rfl, hb2⟩))
  go_ret
  exact ⟨rfl, hb1.trans (hb2.mono hb1.size)⟩

theorem field_firm (w : World) (x y : Value) : (Instr.field 79 (.agg #[x, y]) 0).run Tryz.prog w = .ok x w := by kernel_rfl
set_option maxRecDepth 100000 in
set_option maxHeartbeats 1000000 in
theorem Synced_any (w : World) (p m : Nat) (g : Value → Option Value) (d : ADisk) (s : ByteArray) (h : DiskRep w p m g d) (hs : s.size ≤ maxLen) :
    Calls Tryz.prog 57 #[.pointer (some ⟨p, 0, none⟩), .string s] w fun e w' => e = .returned (.int .i64 (afile d s).firm.length) ∧ Below w.heap.size w w' := by
  have hf := h.fileOf s
  generalize hv : (g (.string s)).getD zFile = v at hf
  have hA := at_any w p m g d s h hs
  rw [hv] at hA
  obtain ⟨v1, v2, rfl, h1, h2, _⟩ := hf
  obtain ⟨a1, c1, rfl, _⟩ := row_slice h1
  obtain ⟨a2, c2, rfl, _⟩ := row_slice h2
  clear hv h h1 h2
  have hfl := field_firm
  go_enter Tryz.func57, Tryz.ntmps57
  go_wp2_with (go_at_call 77; refine hA.mono ?_; rintro e w1 ⟨rfl, hb1⟩)
  go_ret
  exact ⟨rfl, hb1⟩

def ADisk.arm (d : ADisk) (n : Int) : ADisk := if d.down then d else { d with left := max n 0 }
set_option maxRecDepth 100000 in
set_option maxHeartbeats 1000000 in
theorem Arm_any (w : World) (p m : Nat) (g : Value → Option Value) (d : ADisk) (n : Int) (h : DiskRep w p m g d) (hn0 : -9223372036854775808 ≤ n) (hn1 : n ≤ 9223372036854775807) :
    Calls Tryz.prog 11 #[.pointer (some ⟨p, 0, none⟩), .int .i64 n] w fun e w' => e = .returned (.tuple #[]) ∧ DiskRep w' p m g (d.arm n) ∧ Upd (· = p) w w' ∧ w'.heap.size = w.heap.size := by
  obtain ⟨q0, q1, q2, q3, z0, z1, z2, z3⟩ := cells4 h.head
  have hen := fun (w : World) => run_neq_map_nil (P := Tryz.prog) w 61 9 79 (some m) Tryz.underlying61
  have hu : ∀ l' : Int, Upd (· = p) w (w.setCell ⟨p, 0, none⟩ (.int .i64 l')) := fun l' => setCell_upd 0 _
  have hs : ∀ l' : Int, (w.setCell ⟨p, 0, none⟩ (.int .i64 l')).heap.size = w.heap.size := fun l' => by simp [World.setCell]
  have Hu := Lib.hid hu
  have Hs := Lib.hid hs
  clear hu hs
  cases hd : d.down with
  | true =>
    rw [hd] at q1
    have Hd := Lib.hid hd
    clear hd
    go_enter Tryz.func11, Tryz.ntmps11
    go_wp2
    go_end0
    rw [ADisk.arm, if_pos Hd.out]
    exact ⟨rfl, h, Upd.refl _ _, rfl⟩
  | false =>
    have hfin : ∀ l' : Int, l' = max n 0 → DiskRep (w.setCell ⟨p, 0, none⟩ (.int .i64 l')) p m g { d with left := max n 0, down := false } := by
      intro l' hl'
      refine h.power (Hu.out l') (by rw [setCell_at h.head 0 _, hl', hd]; rfl) { h.wf with left0 := by simp; omega, left1 := by simp; omega }
    rw [hd] at q1
    have Hf := Lib.hid hfin
    have Hd := Lib.hid hd
    clear hd hfin
    go_enter Tryz.func11, Tryz.ntmps11
    go_wp2
    all_goals
      go_end0
      rw [ADisk.arm, if_neg (by rw [Hd.out]; simp)]
      refine ⟨rfl, ?_, Hu.out _, Hs.out _⟩
      first
        | (have h0 := Hf.out 0 (by omega); simpa [Hd.out] using h0)
        | (have h0 := Hf.out n (by omega); simpa [Hd.out] using h0)

set_option maxRecDepth 100000 in
set_option maxHeartbeats 1000000 in
theorem Down_any (w : World) (p m : Nat) (g : Value → Option Value) (d : ADisk) (h : DiskRep w p m g d) :
    Calls Tryz.prog 56 #[.pointer (some ⟨p, 0, none⟩)] w fun e w' => e = .returned (.bool d.down) ∧ w = w' := by
  obtain ⟨q0, q1, q2, q3, z0, z1, z2, z3⟩ := cells4 h.head
  have hen := fun (w : World) => run_neq_map_nil (P := Tryz.prog) w 61 9 79 (some m) Tryz.underlying61
  cases hd : d.down with
  | true =>
    rw [hd] at q1
    clear hd h
    go_enter Tryz.func56, Tryz.ntmps56
    go_wp2
    go_ret
    exact ⟨rfl, rfl⟩
  | false =>
    rw [hd] at q1
    clear hd h
    go_enter Tryz.func56, Tryz.ntmps56
    go_wp2
    go_ret
    exact ⟨rfl, rfl⟩

set_option maxHeartbeats 1000000 in
theorem New_bad (w : World) (n : Int) (hn : n < 0 ∨ 16777216 < n) :
    Calls Tryz.prog 4 #[.int .i64 n] w fun e w' => e = .returned (.tuple #[.pointer none, .int .i64 2]) ∧ w = w' := by
  rcases hn with hn | hn
  · go_enter Tryz.func4, Tryz.ntmps4
    go_wp2
    go_ret2
    exact ⟨rfl, rfl⟩
  · have hn' : ¬ n < 0 := by omega
    go_enter Tryz.func4, Tryz.ntmps4
    go_wp2
    go_ret2
    exact ⟨rfl, rfl⟩

set_option maxHeartbeats 1000000 in
theorem New_good (w : World) (n : Int) (hn : 0 ≤ n) (hn1 : n ≤ 16777216) :
    Calls Tryz.prog 4 #[.int .i64 n] w fun e w' => e = .returned (.tuple #[.pointer (some ⟨w.heap.size + 1, 0, none⟩), .int .i64 0]) ∧ DiskRep w' (w.heap.size + 1) w.heap.size (fun _ => none) ⟨n, -1, false, []⟩ ∧ Below w.heap.size w w' := by
  have hmm := @run_makeMap Tryz.prog
  go_enter Tryz.func4, Tryz.ntmps4
  go_wp2
  go_ret2
  refine ⟨rfl, ⟨alloc2_at _ _ _, (MapIs.made _ _ _).alloc _, (fun k v h => by cases h), (fun s f h => by cases h), (fun s t v u h => by cases h), ⟨by simp, by simp, by simpa [usedF] using hn, hn, hn1, by simp, by simp, by simp⟩⟩, ((Below.refl _ _).alloc (Nat.le_refl _) _).alloc (by simp) _⟩
end Go.Proofs.YtkacgmbinkoojaaGreatDoor
