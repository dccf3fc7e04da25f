/-
  Arguments opened: six slices of bytes, by value.
-/
import Derived.Outline
import Derived.Test.YtbepcjajbcecnaaGreatDoorMLoA
namespace Go.Proofs.YtbepcjajbcecnaaGreatDoor
open Go.RowKit Go.ChangeShapes Go.WideShapes Go.Deep

theorem okWide_arr5 {P : Program} {w : World} {r : Reach} {base n : Nat} {t e : TypeId} {v : Value} (ht : P.underlying t = some (.array n e)) (h : Value.okWide P w r base t v) : ∃ cs, v = .agg cs ∧ cs.size = P.cellsOf t := by
  unfold Value.okWide at h
  rw [ht] at h
  obtain ⟨cs, h1, h2, _⟩ := h
  exact ⟨cs, h1, h2⟩
/-- six slices of bytes. -/
structure SixB (w : World) (cs : List Value) (b : Nat → List UInt8) : Prop where
  len : cs.length = 6
  at_ : ∀ i, i < 6 → ∃ a c, cs[i]? = some (.slice a (b i).length c) ∧ Rd w (.slice a (b i).length c) (bcells (b i)) ∧ (b i).length ≤ maxLen
section
variable {H : Type} {enc : TypeId × Value → H} {w : World} {base : Nat} {spare : Nat → Bool} {held : Bool}
set_option maxRecDepth 100000 in
theorem open_sixb {fuel : Nat} {cs : List Value} {y : DataW H × List MemPlace} (h : DataW.trod enc Tryz.prog w base spare held fuel 26 cs = some y) : ∃ b, SixB w cs b := by
  have h6 : Tryz.prog.cellsOf 26 = 6 := by kernel_rfl
  have h1 : Tryz.prog.cellsOf 25 = 1 := by kernel_rfl
  obtain ⟨xs, m, _, _, hl, hlen, hx⟩ := DataW.trod_array Tryz.underlying26 h
  rw [h6] at hl
  rw [h1] at hx
  match cs, hl with
  | [c0, c1, c2, c3, c4, c5], _ =>
    match xs, hlen with
    | [y0, y1, y2, y3, y4, y5], _ =>
      have g0 := hx 0 (by omega)
      have g1 := hx 1 (by omega)
      have g2 := hx 2 (by omega)
      have g3 := hx 3 (by omega)
      have g4 := hx 4 (by omega)
      have g5 := hx 5 (by omega)
      obtain ⟨b0, r0, l0⟩ := open_bytes Tryz.underlying25 Tryz.underlying5 (by kernel_rfl) g0
      obtain ⟨b1, r1, l1⟩ := open_bytes Tryz.underlying25 Tryz.underlying5 (by kernel_rfl) g1
      obtain ⟨b2, r2, l2⟩ := open_bytes Tryz.underlying25 Tryz.underlying5 (by kernel_rfl) g2
      obtain ⟨b3, r3, l3⟩ := open_bytes Tryz.underlying25 Tryz.underlying5 (by kernel_rfl) g3
      obtain ⟨b4, r4, l4⟩ := open_bytes Tryz.underlying25 Tryz.underlying5 (by kernel_rfl) g4
      obtain ⟨b5, r5, l5⟩ := open_bytes Tryz.underlying25 Tryz.underlying5 (by kernel_rfl) g5
      have one : ∀ (c : Value) (b : List UInt8), Rd w c (bcells b) → b.length ≤ maxLen → ∃ a k, some c = some (.slice a b.length k) ∧ Rd w (.slice a b.length k) (bcells b) ∧ b.length ≤ maxLen := fun c b hr hl => by
        obtain ⟨a, k, e⟩ := hr.shape
        rw [bcells_length] at e
        exact ⟨a, k, congrArg some e, e ▸ hr, hl⟩
      refine ⟨fun i => [b0, b1, b2, b3, b4, b5].getD i [], rfl, fun i hi => ?_⟩
      obtain rfl | rfl | rfl | rfl | rfl | rfl : i = 0 ∨ i = 1 ∨ i = 2 ∨ i = 3 ∨ i = 4 ∨ i = 5 := by omega
      · exact one c0 b0 r0 l0
      · exact one c1 b1 r1 l1
      · exact one c2 b2 r2 l2
      · exact one c3 b3 r3 l3
      · exact one c4 b4 r4 l4
      · exact one c5 b5 r5 l5
end
end Go.Proofs.YtbepcjajbcecnaaGreatDoor
