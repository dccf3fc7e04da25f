/-
  Arguments opened: calls upon a disk.
-/
import Derived.Outline
import Derived.Test.YtlljlkeknklplaaLaw1
namespace Go.Proofs.Ytlljlkeknklplaa
open Go.RowKit Go.ChangeShapes Go.WideShapes Go.Deep

def CallQ (w : World) (l : List Value) (c : ACall) : Prop := l = c.cells ∧ CallOk w c
def CallsAt (w : World) (v : Value) (cs : List ACall) : Prop := SliceOf 6 (CallQ w) w v cs

theorem CallsAt.at {W w : World} {a : Option Addr} {n c : Nat} {cs : List ACall} (h : CallsAt W (.slice a n c) cs) (hb : Below W.heap.size W w) (k : Nat) (hk : k < cs.length) :
    ∃ b off, a = some ⟨b, off, none⟩ ∧ b < W.heap.size ∧ CallOk w cs[k] ∧ w.cell? ⟨b, off + k * 6, none⟩ = some (.int .u8 cs[k].what) ∧ w.cell? ⟨b, off + k * 6 + 1, none⟩ = some (.string cs[k].name) ∧ w.cell? ⟨b, off + k * 6 + 2, none⟩ = some (.string cs[k].to) ∧
      w.cell? ⟨b, off + k * 6 + 3, none⟩ = some cs[k].vb ∧ w.cell? ⟨b, off + k * 6 + 4, none⟩ = some (.int .i64 cs[k].n) ∧ w.cell? ⟨b, off + k * 6 + 5, none⟩ = some cs[k].vk := by
  obtain ⟨b, off, ha, l, _, hc, rfl, hok⟩ := SliceOf.at h k hk
  have hx : ∀ i u, cs[k].cells[i]? = some u → w.cell? ⟨b, off + k * 6 + i, none⟩ = some u := fun i u hu => by
    have h1 := hc i u hu
    rw [← Nat.add_assoc] at h1
    exact (hb.cell (p := ⟨b, off + k * 6 + i, none⟩) (cell_lt h1)).trans h1
  exact ⟨b, off, ha, cell_lt (hc 0 _ rfl), hok.below hb, hx 0 _ rfl, hx 1 _ rfl, hx 2 _ rfl, hx 3 _ rfl, hx 4 _ rfl, hx 5 _ rfl⟩

section
variable {H : Type} {enc : TypeId × Value → H} {w : World} {base : Nat} {spare : Nat → Bool} {held : Bool}

set_option maxRecDepth 100000 in
theorem callQ_of {n : Nat} {cs : List Value} {y : DataW H × List MemPlace} (hl : cs.length = Try.prog.cellsOf 48) (h : DataW.trod enc Try.prog w base spare held n 48 cs = some y) : ∃ c, CallQ w cs c := by
  have h6 : Try.prog.cellsOf 48 = 6 := by kernel_rfl
  have one5 : Try.prog.cellsOf 5 = 1 := by kernel_rfl
  have oneS : Try.prog.cellsOf 9 = 1 := by kernel_rfl
  have oneB : Try.prog.cellsOf 29 = 1 := by kernel_rfl
  have oneI : Try.prog.cellsOf 3 = 1 := by kernel_rfl
  have oneK : Try.prog.cellsOf 46 = 1 := by kernel_rfl
  rw [h6] at hl
  obtain ⟨xs, m, _, _, _, hlen, hf⟩ := DataW.trod_struct Try.underlying48 h
  match cs, hl with
  | [c0, c1, c2, c3, c4, c5], _ =>
    match xs, hlen with
    | [y0, y1, y2, y3, y4, y5], _ =>
      have g0 := hf 0 _ rfl
      have g1 := hf 1 _ rfl
      have g2 := hf 2 _ rfl
      have g3 := hf 3 _ rfl
      have g4 := hf 4 _ rfl
      have g5 := hf 5 _ rfl
      simp only [List.getElem?_cons_zero, List.getElem?_cons_succ] at g0 g1 g2 g3 g4 g5
      obtain ⟨z0, e0, _, w0⟩ := DataW.trod_int Try.underlying5 g0
      obtain ⟨z1, e1, _, w1⟩ := DataW.trod_string Try.underlying9 g1
      obtain ⟨z2, e2, _, w2⟩ := DataW.trod_string Try.underlying9 g2
      obtain ⟨z3, r3, l3⟩ := open_bytes Try.underlying29 Try.underlying5 one5 g3
      obtain ⟨z4, e4, _, w4⟩ := DataW.trod_int Try.underlying3 g4
      obtain ⟨z5, r5, l5, i5⟩ := open_i64s Try.underlying46 Try.underlying3 oneI g5
      cases e0; cases e1; cases e2; cases e4
      have b0 := bounds_u8 w0
      have b4 := bounds_i64 w4
      have p0 : 0 ≤ z0 ∧ z0 ≤ 255 := by omega
      have p4 : isI64 z4 := by unfold isI64; omega
      exact ⟨⟨z0, z1, z2, c3, z3, z4, c5, z5⟩, rfl, ⟨p0.1, p0.2, w1, w2, r3, l3, p4, r5, l5, i5⟩⟩

set_option maxRecDepth 100000 in
theorem open_calls {fuel : Nat} {v : Value} {y : DataW H × List MemPlace} (h : DataW.trod enc Try.prog w base spare held fuel 40 [v] = some y) : ∃ cs : List ACall, CallsAt w v cs := by
  have h6 : Try.prog.cellsOf 48 = 6 := by kernel_rfl
  obtain ⟨xs, hx⟩ := open_of Try.underlying40 (by rw [h6]; omega) (CallQ w) (fun n cs y hl ht => callQ_of hl ht) h
  rw [h6] at hx
  exact ⟨xs, hx⟩
end
end Go.Proofs.Ytlljlkeknklplaa
