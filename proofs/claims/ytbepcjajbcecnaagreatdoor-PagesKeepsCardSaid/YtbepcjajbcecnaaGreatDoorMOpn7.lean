/-
  Arguments opened: steps of a store.
-/
import Derived.Outline
import Derived.Test.YtbepcjajbcecnaaGreatDoorMLoA
namespace Go.Proofs.YtbepcjajbcecnaaGreatDoor
open Go.RowKit Go.ChangeShapes Go.WideShapes Go.Deep

structure AStep5 where
  key : Int
  act : Int
  vb : Value
  b : List UInt8
def AStep5.cells (x : AStep5) : List Value := [.int .i64 x.key, .int .i64 x.act, x.vb]
structure StepOk5 (w : World) (x : AStep5) : Prop where
  key : isI64 x.key
  act : isI64 x.act
  rd : Rd w x.vb (bcells x.b)
  len : x.b.length ≤ maxLen
def StepQ5 (w : World) (l : List Value) (x : AStep5) : Prop := l = x.cells ∧ StepOk5 w x
def StepsAt (w : World) (v : Value) (xs : List AStep5) : Prop := SliceOf 3 (StepQ5 w) w v xs
theorem StepsAt.at {W w : World} {a : Option Addr} {n c : Nat} {xs : List AStep5} (h : StepsAt W (.slice a n c) xs) (hb : Below W.heap.size W w) (k : Nat) (hk : k < xs.length) :
    ∃ b off, a = some ⟨b, off, none⟩ ∧ b < W.heap.size ∧ StepOk5 W xs[k] ∧ w.cell? ⟨b, off + k * 3, none⟩ = some (.int .i64 xs[k].key) ∧ w.cell? ⟨b, off + k * 3 + 1, none⟩ = some (.int .i64 xs[k].act) ∧ w.cell? ⟨b, off + k * 3 + 2, none⟩ = some xs[k].vb := by
  obtain ⟨b, off, ha, l, _, hc, rfl, hok⟩ := SliceOf.at h k hk
  have hx : ∀ i u, xs[k].cells[i]? = some u → w.cell? ⟨b, off + k * 3 + i, none⟩ = some u := fun i u hu => by
    have h1 := hc i u hu
    rw [← Nat.add_assoc] at h1
    exact (hb.cell (p := ⟨b, off + k * 3 + i, none⟩) (cell_lt h1)).trans h1
  exact ⟨b, off, ha, cell_lt (hc 0 _ rfl), hok, hx 0 _ rfl, hx 1 _ rfl, hx 2 _ rfl⟩

section
variable {H : Type} {enc : TypeId × Value → H} {w : World} {base : Nat} {spare : Nat → Bool} {held : Bool}
set_option maxRecDepth 100000 in
theorem stepQ5_of {n : Nat} {cs : List Value} {y : DataW H × List MemPlace} (hl : cs.length = Tryz.prog.cellsOf 98) (h : DataW.trod enc Tryz.prog w base spare held n 98 cs = some y) : ∃ c, StepQ5 w cs c := by
  have h3 : Tryz.prog.cellsOf 98 = 3 := by kernel_rfl
  rw [h3] at hl
  obtain ⟨xs, m, _, _, _, hlen, hf⟩ := DataW.trod_struct Tryz.underlying98 h
  match cs, hl with
  | [c0, c1, c2], _ =>
    match xs, hlen with
    | [y0, y1, y2], _ =>
      have g0 := hf 0 _ rfl
      have g1 := hf 1 _ rfl
      have g2 := hf 2 _ rfl
      simp only [List.getElem?_cons_zero, List.getElem?_cons_succ] at g0 g1 g2
      obtain ⟨z0, e0, _, w0⟩ := DataW.trod_int Tryz.underlying3 g0
      obtain ⟨z1, e1, _, w1⟩ := DataW.trod_int Tryz.underlying3 g1
      obtain ⟨b, r, l⟩ := open_bytes Tryz.underlying25 Tryz.underlying5 (by kernel_rfl) g2
      cases e0; cases e1
      have b0 := bounds_i64 w0
      have b1 := bounds_i64 w1
      have p0 : isI64 z0 := by unfold isI64; omega
      have p1 : isI64 z1 := by unfold isI64; omega
      exact ⟨⟨z0, z1, c2, b⟩, rfl, ⟨p0, p1, r, l⟩⟩
set_option maxRecDepth 100000 in
theorem open_steps {fuel : Nat} {v : Value} {y : DataW H × List MemPlace} (h : DataW.trod enc Tryz.prog w base spare held fuel 22 [v] = some y) : ∃ xs : List AStep5, StepsAt w v xs := by
  have h3 : Tryz.prog.cellsOf 98 = 3 := by kernel_rfl
  obtain ⟨xs, hx⟩ := open_of Tryz.underlying22 (by rw [h3]; omega) (StepQ5 w) (fun n cs y hl ht => stepQ5_of hl ht) h
  rw [h3] at hx
  exact ⟨xs, hx⟩
end
end Go.Proofs.YtbepcjajbcecnaaGreatDoor
