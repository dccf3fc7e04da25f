/-
  Arguments opened: lives of a journal.
-/
import Derived.Outline
import Derived.Test.YtbiadclmonakkaaGreatDoorMLoA
namespace Go.Proofs.YtbiadclmonakkaaGreatDoor
open Go.RowKit Go.ChangeShapes Go.WideShapes Go.Deep

structure ALife where
  vr : Value
  rows : List (List UInt8)
  va : Value
  acts : List Int
  arm : Int
  vk : Value
  keeps : List Int
  again : Int
  vl : Value
  left : List Int
def ALife.cells (x : ALife) : List Value := [x.vr, x.va, .int .i64 x.arm, x.vk, .int .i64 x.again, x.vl]
structure LifeOk (w : World) (x : ALife) : Prop where
  rows : RowsAt w x.vr x.rows
  acts : Rd w x.va (iCells x.acts)
  actsI : ∀ z ∈ x.acts, isI64 z
  arm : isI64 x.arm
  keeps : Rd w x.vk (iCells x.keeps)
  keepsL : x.keeps.length ≤ maxLen
  keepsI : ∀ z ∈ x.keeps, isI64 z
  again : isI64 x.again
  left : Rd w x.vl (iCells x.left)
  leftL : x.left.length ≤ maxLen
  leftI : ∀ z ∈ x.left, isI64 z
def LifeQ (w : World) (l : List Value) (x : ALife) : Prop := l = x.cells ∧ LifeOk w x
def LivesAt (w : World) (v : Value) (xs : List ALife) : Prop := SliceOf 6 (LifeQ w) w v xs
theorem LivesAt.at {W w : World} {a : Option Addr} {n c : Nat} {xs : List ALife} (h : LivesAt W (.slice a n c) xs) (hb : Below W.heap.size W w) (k : Nat) (hk : k < xs.length) :
    ∃ b off, a = some ⟨b, off, none⟩ ∧ b < W.heap.size ∧ LifeOk W xs[k] ∧ w.cell? ⟨b, off + k * 6, none⟩ = some xs[k].vr ∧ w.cell? ⟨b, off + k * 6 + 1, none⟩ = some xs[k].va ∧ w.cell? ⟨b, off + k * 6 + 2, none⟩ = some (.int .i64 xs[k].arm) ∧
      w.cell? ⟨b, off + k * 6 + 3, none⟩ = some xs[k].vk ∧ w.cell? ⟨b, off + k * 6 + 4, none⟩ = some (.int .i64 xs[k].again) ∧ w.cell? ⟨b, off + k * 6 + 5, none⟩ = some xs[k].vl := by
  obtain ⟨b, off, ha, l, _, hc, rfl, hok⟩ := SliceOf.at h k hk
  have hx : ∀ i u, xs[k].cells[i]? = some u → w.cell? ⟨b, off + k * 6 + i, none⟩ = some u := fun i u hu => by
    have h1 := hc i u hu
    rw [← Nat.add_assoc] at h1
    exact (hb.cell (p := ⟨b, off + k * 6 + i, none⟩) (cell_lt h1)).trans h1
  exact ⟨b, off, ha, cell_lt (hc 0 _ rfl), hok, hx 0 _ rfl, hx 1 _ rfl, hx 2 _ rfl, hx 3 _ rfl, hx 4 _ rfl, hx 5 _ rfl⟩

section
variable {H : Type} {enc : TypeId × Value → H} {w : World} {base : Nat} {spare : Nat → Bool} {held : Bool}
set_option maxRecDepth 100000 in
theorem lifeQ_of {n : Nat} {cs : List Value} {y : DataW H × List MemPlace} (hl : cs.length = Tryz.prog.cellsOf 67) (h : DataW.trod enc Tryz.prog w base spare held n 67 cs = some y) : ∃ c, LifeQ w cs c := by
  have h6 : Tryz.prog.cellsOf 67 = 6 := by kernel_rfl
  have oneI : Tryz.prog.cellsOf 3 = 1 := by kernel_rfl
  rw [h6] at hl
  obtain ⟨xs, m, _, _, _, hlen, hf⟩ := DataW.trod_struct Tryz.underlying67 h
  match cs, hl with
  | [c0, c1, c2, c3, c4, c5], _ =>
    match xs, hlen with
    | [y0, y1, y2, y3, y4, y5], _ =>
      have g0 := hf 0 _ rfl
      have g1 := hf 1 _ rfl
      have g2 := hf 2 _ rfl
      have g3 := hf 3 _ rfl
      have g4 := hf 4 _ rfl
      have g5 := hf 5 _ rfl
      simp only [List.getElem?_cons_zero, List.getElem?_cons_succ] at g0 g1 g2 g3 g4 g5
      obtain ⟨rows, r0⟩ := open_rows g0
      obtain ⟨z1, r1, l1, i1⟩ := open_i64s Tryz.underlying57 Tryz.underlying3 oneI g1
      obtain ⟨z2, e2, _, w2⟩ := DataW.trod_int Tryz.underlying3 g2
      obtain ⟨z3, r3, l3, i3⟩ := open_i64s Tryz.underlying57 Tryz.underlying3 oneI g3
      obtain ⟨z4, e4, _, w4⟩ := DataW.trod_int Tryz.underlying3 g4
      obtain ⟨z5, r5, l5, i5⟩ := open_i64s Tryz.underlying57 Tryz.underlying3 oneI g5
      cases e2; cases e4
      have b2 := bounds_i64 w2
      have b4 := bounds_i64 w4
      have p2 : isI64 z2 := by unfold isI64; omega
      have p4 : isI64 z4 := by unfold isI64; omega
      exact ⟨⟨c0, rows, c1, z1, z2, c3, z3, z4, c5, z5⟩, rfl, ⟨r0, r1, i1, p2, r3, l3, i3, p4, r5, l5, i5⟩⟩
set_option maxRecDepth 100000 in
theorem open_lives {fuel : Nat} {v : Value} {y : DataW H × List MemPlace} (h : DataW.trod enc Tryz.prog w base spare held fuel 63 [v] = some y) : ∃ xs : List ALife, LivesAt w v xs := by
  have h6 : Tryz.prog.cellsOf 67 = 6 := by kernel_rfl
  obtain ⟨xs, hx⟩ := open_of Tryz.underlying63 (by rw [h6]; omega) (LifeQ w) (fun n cs y hl ht => lifeQ_of hl ht) h
  rw [h6] at hx
  exact ⟨xs, hx⟩
end
end Go.Proofs.YtbiadclmonakkaaGreatDoor
