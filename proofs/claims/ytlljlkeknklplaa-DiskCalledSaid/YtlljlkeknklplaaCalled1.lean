/-
  Arguments opened: six small numbers; pairs of small numbers.
-/
import Derived.Outline
import Derived.Test.YtlljlkeknklplaaMap1
import Derived.Test.YtlljlkeknklplaaCalled0
import Derived.Test.YtlljlkeknklplaaOpen1
namespace Go.Proofs.Ytlljlkeknklplaa
open Go.RowKit Go.ChangeShapes Go.WideShapes Go.Deep

theorem okWide_array {P : Program} {w : World} {r : Reach} {base n : Nat} {t e : TypeId} {v : Value} (ht : P.underlying t = some (.array n e)) (h : Value.okWide P w r base t v) : ∃ cs, v = .agg cs ∧ cs.size = P.cellsOf t := by
  unfold Value.okWide at h
  rw [ht] at h
  obtain ⟨cs, h1, h2, _⟩ := h
  exact ⟨cs, h1, h2⟩

structure Six where
  f : Nat → Nat
  le : ∀ i, f i ≤ 255
def Six.cells (x : Six) : List Value := [.int .u8 (x.f 0), .int .u8 (x.f 1), .int .u8 (x.f 2), .int .u8 (x.f 3), .int .u8 (x.f 4), .int .u8 (x.f 5)]
def Pair8 (l : List Value) (p : Nat × Nat) : Prop := l = [.int .u8 (p.1 : Nat), .int .u8 (p.2 : Nat)] ∧ p.1 ≤ 255 ∧ p.2 ≤ 255
def PairsAt (w : World) (v : Value) (ps : List (Nat × Nat)) : Prop := SliceOf 2 Pair8 w v ps

section
variable {H : Type} {enc : TypeId × Value → H} {w : World} {base : Nat} {spare : Nat → Bool} {held : Bool}
set_option maxRecDepth 100000 in
theorem open_arr6 {fuel : Nat} {cs : List Value} {y : DataW H × List MemPlace} (h : DataW.trod enc Try.prog w base spare held fuel 22 cs = some y) : ∃ x : Six, cs = x.cells := by
  have h6 : Try.prog.cellsOf 22 = 6 := by kernel_rfl
  have h1 : Try.prog.cellsOf 5 = 1 := by kernel_rfl
  obtain ⟨xs, m, _, _, hl, hlen, hx⟩ := DataW.trod_array Try.underlying22 h
  rw [h6] at hl
  rw [h1] at hx
  match cs, hl with
  | [c0, c1, c2, c3, c4, c5], _ =>
    match xs, hlen with
    | [y0, y1, y2, y3, y4, y5], _ =>
      have g0 := hx 0 (by omega)
      have g1 := hx 1 (by omega)
      have g2 := hx 2 (by omega)
      have g3 := hx 3 (by omega)
      have g4 := hx 4 (by omega)
      have g5 := hx 5 (by omega)
      obtain ⟨z0, e0, _, w0⟩ := DataW.trod_int Try.underlying5 g0
      obtain ⟨z1, e1, _, w1⟩ := DataW.trod_int Try.underlying5 g1
      obtain ⟨z2, e2, _, w2⟩ := DataW.trod_int Try.underlying5 g2
      obtain ⟨z3, e3, _, w3⟩ := DataW.trod_int Try.underlying5 g3
      obtain ⟨z4, e4, _, w4⟩ := DataW.trod_int Try.underlying5 g4
      obtain ⟨z5, e5, _, w5⟩ := DataW.trod_int Try.underlying5 g5
      cases e0; cases e1; cases e2; cases e3; cases e4; cases e5
      have b0 := bounds_u8 w0
      have b1 := bounds_u8 w1
      have b2 := bounds_u8 w2
      have b3 := bounds_u8 w3
      have b4 := bounds_u8 w4
      have b5 := bounds_u8 w5
      refine ⟨⟨fun i => ([z0, z1, z2, z3, z4, z5].getD i 0).toNat, fun i => ?_⟩, ?_⟩
      · match i with
        | 0 => simp; omega
        | 1 => simp; omega
        | 2 => simp; omega
        | 3 => simp; omega
        | 4 => simp; omega
        | 5 => simp; omega
        | i + 6 => simp
      · simp [Six.cells]
        omega
set_option maxRecDepth 100000 in
theorem open_pairs {fuel : Nat} {v : Value} {y : DataW H × List MemPlace} (h : DataW.trod enc Try.prog w base spare held fuel 23 [v] = some y) : ∃ bs, PairsAt w v bs := by
  have h2 : Try.prog.cellsOf 32 = 2 := by kernel_rfl
  have h1 : Try.prog.cellsOf 5 = 1 := by kernel_rfl
  obtain ⟨xs, hx⟩ := open_of Try.underlying23 (by rw [h2]; omega) Pair8 (fun n cs y hl ht => by
    obtain ⟨xs, m, _, _, _, hlen, hx⟩ := DataW.trod_array Try.underlying32 ht
    rw [h2] at hl
    rw [h1] at hx
    match cs, hl with
    | [c0, c1], _ =>
      match xs, hlen with
      | [y0, y1], _ =>
        have g0 := hx 0 (by omega)
        have g1 := hx 1 (by omega)
        obtain ⟨z0, e0, _, w0⟩ := DataW.trod_int Try.underlying5 g0
        obtain ⟨z1, e1, _, w1⟩ := DataW.trod_int Try.underlying5 g1
        cases e0; cases e1
        have b0 := bounds_u8 w0
        have b1 := bounds_u8 w1
        refine ⟨(z0.toNat, z1.toNat), ?_, by simp only; omega, by simp only; omega⟩
        simp
        omega) h
  rw [h2] at hx
  exact ⟨xs, hx⟩
end
theorem PairsAt.at {W w : World} {a : Option Addr} {n c : Nat} {ps : List (Nat × Nat)} (h : PairsAt W (.slice a n c) ps) (hb : Below W.heap.size W w) (k : Nat) (hk : k < ps.length) :
    ∃ b off, a = some ⟨b, off, none⟩ ∧ w.cell? ⟨b, off + k * 2, none⟩ = some (.int .u8 (ps[k].1 : Nat)) ∧ w.cell? ⟨b, off + k * 2 + 1, none⟩ = some (.int .u8 (ps[k].2 : Nat)) ∧ ps[k].1 ≤ 255 ∧ ps[k].2 ≤ 255 := by
  obtain ⟨b, off, ha, l, _, hc, rfl, h1, h2⟩ := SliceOf.at h k hk
  have g0 := hc 0 _ rfl
  have g1 := hc 1 _ rfl
  rw [Nat.add_zero] at g0
  rw [← Nat.add_assoc] at g1
  exact ⟨b, off, ha, (hb.cell (p := ⟨b, off + k * 2, none⟩) (cell_lt g0)).trans g0, (hb.cell (p := ⟨b, off + k * 2 + 1, none⟩) (cell_lt g1)).trans g1, h1, h2⟩
theorem _root_.Go.Proofs.Ytlljlkeknklplaa.MapIs.put {P : Program} {k : TypeId} {w : World} {b n : Nat} {g : Value → Option Value} (h : MapIs P k w b n g) (A : ByteArray → Option Nat) (s : ByteArray) (j : Nat) (h1 : g (.string s) = some (.int .i64 (j : Nat))) (h2 : ∀ x, x ≠ .string s → g x = gA A x) : MapIs P k w b n (gA (fun t => if t = s then some j else A t)) := by
  have e : g = gA (fun t => if t = s then some j else A t) := by
    funext x
    by_cases hx : x = .string s
    · subst hx; rw [h1]; simp [gA]
    · rw [h2 x hx]
      cases x <;> simp only [gA]
      rename_i t
      rw [if_neg (fun e => hx (by rw [e]))]
  rw [← e]
  exact h
theorem _root_.Go.Proofs.Ytlljlkeknklplaa.MapIs.del {P : Program} {k : TypeId} {w : World} {b n : Nat} {g : Value → Option Value} (h : MapIs P k w b n g) (A : ByteArray → Option Nat) (s : ByteArray) (h1 : g (.string s) = none) (h2 : ∀ x, x ≠ .string s → g x = gA A x) : MapIs P k w b n (gA (fun t => if t = s then none else A t)) := by
  have e : g = gA (fun t => if t = s then none else A t) := by
    funext x
    by_cases hx : x = .string s
    · subst hx; rw [h1]; simp [gA]
    · rw [h2 x hx]
      cases x <;> simp only [gA]
      rename_i t
      rw [if_neg (fun e => hx (by rw [e]))]
  rw [← e]
  exact h
theorem byts_cells : ∀ i, i < 6 → bcells (byts i) = [.int .u8 (i : Nat), .int .u8 (10 * (i : Nat) : Int), .int .u8 7] := by
  intro i hi
  match i, hi with
  | 0, _ => rfl
  | 1, _ => rfl
  | 2, _ => rfl
  | 3, _ => rfl
  | 4, _ => rfl
  | 5, _ => rfl
theorem nm_cut : ∀ a, a < 6 → ((⟨#[97, 98, 99, 100, 101, 102]⟩ : ByteArray).extract a 6).extract 0 1 = nm a := by decide +kernel
theorem CSt.names {f : Nat → Nat} {d : ADisk} {A : ByteArray → Option Nat} {n : Nat} (h : CSt f d A n) : d.names.length = n := by rw [← h.len]; simp [ADisk.names]
theorem upd_grown {w w' : World} {b : Nat} (hg : w.grownBy w' (some b)) : Upd (· = b) w w' := ⟨hg.os, hg.tape, hg.output, hg.size, fun k hk hn => hg.block k hk (by simpa using hn)⟩
end Go.Proofs.Ytlljlkeknklplaa
