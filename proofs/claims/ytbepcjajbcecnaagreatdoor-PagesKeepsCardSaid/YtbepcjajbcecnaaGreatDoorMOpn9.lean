/-
  Arguments opened: lives of a store.
-/
import Derived.Outline
import Derived.Test.YtbepcjajbcecnaaGreatDoorMLoA
namespace Go.Proofs.YtbepcjajbcecnaaGreatDoor
open Go.RowKit Go.ChangeShapes Go.WideShapes Go.Deep

structure ALife5 where
  vk : Value
  keys : List Int
  vb : Value
  rows : List (List UInt8)
  va : Value
  acts : List Int
  arm : Int
  vp : Value
  keeps : List Int
def ALife5.cells (x : ALife5) : List Value := [x.vk, x.vb, x.va, .int .i64 x.arm, x.vp]
structure LifeOk5 (w : World) (x : ALife5) : Prop where
  keys : Rd w x.vk (iCells x.keys)
  keysL : x.keys.length ≤ maxLen
  keysI : ∀ z ∈ x.keys, isI64 z
  rows : RowsAt w x.vb x.rows
  acts : Rd w x.va (iCells x.acts)
  actsL : x.acts.length ≤ maxLen
  actsI : ∀ z ∈ x.acts, isI64 z
  arm : isI64 x.arm
  keeps : Rd w x.vp (iCells x.keeps)
  keepsL : x.keeps.length ≤ maxLen
  keepsI : ∀ z ∈ x.keeps, isI64 z
def LifeQ5 (w : World) (l : List Value) (x : ALife5) : Prop := l = x.cells ∧ LifeOk5 w x
def LivesAt5 (w : World) (v : Value) (xs : List ALife5) : Prop := SliceOf 5 (LifeQ5 w) w v xs
theorem LivesAt5.at {W w : World} {a : Option Addr} {n c : Nat} {xs : List ALife5} (h : LivesAt5 W (.slice a n c) xs) (hb : Below W.heap.size W w) (k : Nat) (hk : k < xs.length) :
    ∃ b off, a = some ⟨b, off, none⟩ ∧ b < W.heap.size ∧ LifeOk5 W xs[k] ∧ w.cell? ⟨b, off + k * 5, none⟩ = some xs[k].vk ∧ w.cell? ⟨b, off + k * 5 + 1, none⟩ = some xs[k].vb ∧ w.cell? ⟨b, off + k * 5 + 2, none⟩ = some xs[k].va ∧
      w.cell? ⟨b, off + k * 5 + 3, none⟩ = some (.int .i64 xs[k].arm) ∧ w.cell? ⟨b, off + k * 5 + 4, none⟩ = some xs[k].vp := by
  obtain ⟨b, off, ha, l, _, hc, rfl, hok⟩ := SliceOf.at h k hk
  have hx : ∀ i u, xs[k].cells[i]? = some u → w.cell? ⟨b, off + k * 5 + i, none⟩ = some u := fun i u hu => by
    have h1 := hc i u hu
    rw [← Nat.add_assoc] at h1
    exact (hb.cell (p := ⟨b, off + k * 5 + i, none⟩) (cell_lt h1)).trans h1
  exact ⟨b, off, ha, cell_lt (hc 0 _ rfl), hok, hx 0 _ rfl, hx 1 _ rfl, hx 2 _ rfl, hx 3 _ rfl, hx 4 _ rfl⟩

section
variable {H : Type} {enc : TypeId × Value → H} {w : World} {base : Nat} {spare : Nat → Bool} {held : Bool}
set_option maxRecDepth 100000 in
theorem lifeQ5_of {n : Nat} {cs : List Value} {y : DataW H × List MemPlace} (hl : cs.length = Tryz.prog.cellsOf 89) (h : DataW.trod enc Tryz.prog w base spare held n 89 cs = some y) : ∃ c, LifeQ5 w cs c := by
  have h5 : Tryz.prog.cellsOf 89 = 5 := by kernel_rfl
  have oneI : Tryz.prog.cellsOf 3 = 1 := by kernel_rfl
  rw [h5] at hl
  obtain ⟨xs, m, _, _, _, hlen, hf⟩ := DataW.trod_struct Tryz.underlying89 h
  match cs, hl with
  | [c0, c1, c2, c3, c4], _ =>
    match xs, hlen with
    | [y0, y1, y2, y3, y4], _ =>
      have g0 := hf 0 _ rfl
      have g1 := hf 1 _ rfl
      have g2 := hf 2 _ rfl
      have g3 := hf 3 _ rfl
      have g4 := hf 4 _ rfl
      simp only [List.getElem?_cons_zero, List.getElem?_cons_succ] at g0 g1 g2 g3 g4
      obtain ⟨z0, r0, l0, i0⟩ := open_i64s Tryz.underlying43 Tryz.underlying3 oneI g0
      obtain ⟨rows, r1⟩ := open_rows g1
      obtain ⟨z2, r2, l2, i2⟩ := open_i64s Tryz.underlying43 Tryz.underlying3 oneI g2
      obtain ⟨z3, e3, _, w3⟩ := DataW.trod_int Tryz.underlying3 g3
      obtain ⟨z4, r4, l4, i4⟩ := open_i64s Tryz.underlying43 Tryz.underlying3 oneI g4
      cases e3
      have b3 := bounds_i64 w3
      have p3 : isI64 z3 := by unfold isI64; omega
      exact ⟨⟨c0, z0, c1, rows, c2, z2, z3, c4, z4⟩, rfl, ⟨r0, l0, i0, r1, r2, l2, i2, p3, r4, l4, i4⟩⟩
set_option maxRecDepth 100000 in
theorem open_lives5 {fuel : Nat} {v : Value} {y : DataW H × List MemPlace} (h : DataW.trod enc Tryz.prog w base spare held fuel 87 [v] = some y) : ∃ xs : List ALife5, LivesAt5 w v xs := by
  have h5 : Tryz.prog.cellsOf 89 = 5 := by kernel_rfl
  obtain ⟨xs, hx⟩ := open_of Tryz.underlying87 (by rw [h5]; omega) (LifeQ5 w) (fun n cs y hl ht => lifeQ5_of hl ht) h
  rw [h5] at hx
  exact ⟨xs, hx⟩
end
end Go.Proofs.YtbepcjajbcecnaaGreatDoor
