/-
  Arguments opened: roots, slices of roots, bytes with their capacity.
-/
import Derived.Outline
import Derived.Test.YtkacgmbinkoojaaGreatDoorMLoA
import Derived.Test.YtkacgmbinkoojaaGreatDoorMGtA
namespace Go.Proofs.YtkacgmbinkoojaaGreatDoor
open Go.RowKit Go.ChangeShapes Go.WideShapes Go.Deep

/-- a root that came in. -/
structure XRoot where
  s : Int
  t : Int
  c : Int
  vb : Value
  b : List UInt8
def XRoot.cells (x : XRoot) : List Value := [.int .i64 x.s, .int .i64 x.t, .int .i64 x.c, x.vb]
def XRoot.val (x : XRoot) : Value := .agg #[.int .i64 x.s, .int .i64 x.t, .int .i64 x.c, x.vb]
structure RootOk (w : World) (x : XRoot) : Prop where
  s : isI64 x.s
  t : isI64 x.t
  c : isI64 x.c
  rb : Rd w x.vb (bcells x.b)
  lb : x.b.length ≤ maxLen
theorem RootOk.below {w w' : World} {x : XRoot} (h : RootOk w x) (hB : Below w.heap.size w w') : RootOk w' x := { h with rb := h.rb.below hB }

section
variable {H : Type} {enc : TypeId × Value → H} {w : World} {base : Nat} {spare : Nat → Bool} {held : Bool}
set_option maxRecDepth 100000 in
theorem rootQ_of {n : Nat} {cs : List Value} {y : DataW H × List MemPlace} (hl : cs.length = Tryz.prog.cellsOf 35) (h : DataW.trod enc Tryz.prog w base spare held n 35 cs = some y) : ∃ x : XRoot, cs = x.cells ∧ RootOk w x := by
  have h4 : Tryz.prog.cellsOf 35 = 4 := by kernel_rfl
  have oneI : Tryz.prog.cellsOf 3 = 1 := by kernel_rfl
  have oneB : Tryz.prog.cellsOf 33 = 1 := by kernel_rfl
  have one8 : Tryz.prog.cellsOf 5 = 1 := by kernel_rfl
  rw [h4] at hl
  obtain ⟨xs, m, _, _, _, hlen, hf⟩ := DataW.trod_struct Tryz.underlying35 h
  match cs, hl with
  | [c0, c1, c2, c3], _ =>
    match xs, hlen with
    | [y0, y1, y2, y3], _ =>
      have g0 := hf 0 _ rfl
      have g1 := hf 1 _ rfl
      have g2 := hf 2 _ rfl
      have g3 := hf 3 _ rfl
      simp only [List.getElem?_cons_zero, List.getElem?_cons_succ] at g0 g1 g2 g3
      obtain ⟨z0, e0, _, w0⟩ := DataW.trod_int Tryz.underlying3 g0
      obtain ⟨z1, e1, _, w1⟩ := DataW.trod_int Tryz.underlying3 g1
      obtain ⟨z2, e2, _, w2⟩ := DataW.trod_int Tryz.underlying3 g2
      obtain ⟨z3, r3, l3⟩ := open_bytes Tryz.underlying33 Tryz.underlying5 one8 g3
      cases e0; cases e1; cases e2
      have b0 := bounds_i64 w0
      have b1 := bounds_i64 w1
      have b2 := bounds_i64 w2
      exact ⟨⟨z0, z1, z2, c3, z3⟩, rfl, ⟨by unfold isI64; simp only; omega, by unfold isI64; simp only; omega, by unfold isI64; simp only; omega, r3, l3⟩⟩
/-- a slice of roots. -/
def RootsAt (w : World) (v : Value) (l : List XRoot) : Prop := SliceOf 4 (fun cs x => cs = x.cells ∧ RootOk w x) w v l
theorem RootsAt.at {W w : World} {a : Option Addr} {n c : Nat} {l : List XRoot} (h : RootsAt W (.slice a n c) l) (hb : Below W.heap.size W w) (k : Nat) (hk : k < l.length) :
    ∃ b off, a = some ⟨b, off, none⟩ ∧ b < W.heap.size ∧ RootOk W l[k] ∧ w.cell? ⟨b, off + k * 4, none⟩ = some (.int .i64 l[k].s) ∧ w.cell? ⟨b, off + k * 4 + 1, none⟩ = some (.int .i64 l[k].t) ∧ w.cell? ⟨b, off + k * 4 + 2, none⟩ = some (.int .i64 l[k].c) ∧
      w.cell? ⟨b, off + k * 4 + 3, none⟩ = some l[k].vb := by
  obtain ⟨b, off, ha, cs, _, hc, rfl, hok⟩ := SliceOf.at h k hk
  have hx : ∀ i u, l[k].cells[i]? = some u → w.cell? ⟨b, off + k * 4 + i, none⟩ = some u := fun i u hu => by
    have h1 := hc i u hu
    rw [← Nat.add_assoc] at h1
    exact (hb.cell (p := ⟨b, off + k * 4 + i, none⟩) (cell_lt h1)).trans h1
  exact ⟨b, off, ha, cell_lt (hc 0 _ rfl), hok, hx 0 _ rfl, hx 1 _ rfl, hx 2 _ rfl, hx 3 _ rfl⟩
end
end Go.Proofs.YtkacgmbinkoojaaGreatDoor

/-
  Arguments opened: calls upon a disk of roots.
-/
namespace Go.Proofs.YtkacgmbinkoojaaGreatDoor
open Go.RowKit Go.ChangeShapes Go.WideShapes Go.Deep

structure AOp6 where
  kind : Int
  n : Int
  name : ByteArray
  r : XRoot
  vb : Value
  b : List UInt8
def AOp6.cells (x : AOp6) : List Value := [.int .i64 x.kind, .int .i64 x.n, .string x.name, .int .i64 x.r.s, .int .i64 x.r.t, .int .i64 x.r.c, x.r.vb, x.vb]
structure OpOk6 (w : World) (x : AOp6) : Prop where
  kind : isI64 x.kind
  n : isI64 x.n
  name : x.name.size ≤ maxLen
  root : RootOk w x.r
  rd : Rd w x.vb (bcells x.b)
  len : x.b.length ≤ maxLen
theorem OpOk6.below {W w : World} {x : AOp6} (h : OpOk6 W x) (hb : Below W.heap.size W w) : OpOk6 w x := { h with root := h.root.below hb, rd := h.rd.below hb }
def OpQ6 (w : World) (l : List Value) (x : AOp6) : Prop := l = x.cells ∧ OpOk6 w x
def OpsAt6 (w : World) (v : Value) (xs : List AOp6) : Prop := SliceOf 8 (OpQ6 w) w v xs
theorem OpsAt6.at {W w : World} {a : Option Addr} {n c : Nat} {xs : List AOp6} (h : OpsAt6 W (.slice a n c) xs) (hb : Below W.heap.size W w) (k : Nat) (hk : k < xs.length) :
    ∃ b off, a = some ⟨b, off, none⟩ ∧ b < W.heap.size ∧ OpOk6 w xs[k] ∧ w.cell? ⟨b, off + k * 8, none⟩ = some (.int .i64 xs[k].kind) ∧ w.cell? ⟨b, off + k * 8 + 1, none⟩ = some (.int .i64 xs[k].n) ∧ w.cell? ⟨b, off + k * 8 + 2, none⟩ = some (.string xs[k].name) ∧
      w.cell? ⟨b, off + k * 8 + 3, none⟩ = some (.int .i64 xs[k].r.s) ∧ w.cell? ⟨b, off + k * 8 + 4, none⟩ = some (.int .i64 xs[k].r.t) ∧ w.cell? ⟨b, off + k * 8 + 5, none⟩ = some (.int .i64 xs[k].r.c) ∧ w.cell? ⟨b, off + k * 8 + 6, none⟩ = some xs[k].r.vb ∧ w.cell? ⟨b, off + k * 8 + 7, none⟩ = some xs[k].vb := by
  obtain ⟨b, off, ha, l, _, hc, rfl, hok⟩ := SliceOf.at h k hk
  have hx : ∀ i u, xs[k].cells[i]? = some u → w.cell? ⟨b, off + k * 8 + i, none⟩ = some u := fun i u hu => by
    have h1 := hc i u hu
    rw [← Nat.add_assoc] at h1
    exact (hb.cell (p := ⟨b, off + k * 8 + i, none⟩) (cell_lt h1)).trans h1
  exact ⟨b, off, ha, cell_lt (hc 0 _ rfl), hok.below hb, hx 0 _ rfl, hx 1 _ rfl, hx 2 _ rfl, hx 3 _ rfl, hx 4 _ rfl, hx 5 _ rfl, hx 6 _ rfl, hx 7 _ rfl⟩

section
variable {H : Type} {enc : TypeId × Value → H} {w : World} {base : Nat} {spare : Nat → Bool} {held : Bool}
set_option maxRecDepth 100000 in
theorem opQ6_of {n : Nat} {cs : List Value} {y : DataW H × List MemPlace} (hl : cs.length = Tryz.prog.cellsOf 37) (h : DataW.trod enc Tryz.prog w base spare held n 37 cs = some y) : ∃ c, OpQ6 w cs c := by
  have h8 : Tryz.prog.cellsOf 37 = 8 := by kernel_rfl
  rw [h8] at hl
  obtain ⟨xs, m, _, _, _, hlen, hf⟩ := DataW.trod_struct Tryz.underlying37 h
  match cs, hl with
  | [c0, c1, c2, c3, c4, c5, c6, c7], _ =>
    match xs, hlen with
    | [y0, y1, y2, y3, y4], _ =>
      have g0 := hf 0 _ rfl
      have g1 := hf 1 _ rfl
      have g2 := hf 2 _ rfl
      have g3 := hf 3 _ rfl
      have g4 := hf 4 _ rfl
      simp only [List.getElem?_cons_zero, List.getElem?_cons_succ] at g0 g1 g2 g3 g4
      obtain ⟨z0, e0, _, w0⟩ := DataW.trod_int Tryz.underlying3 g0
      obtain ⟨z1, e1, _, w1⟩ := DataW.trod_int Tryz.underlying3 g1
      obtain ⟨z2, e2, _, w2⟩ := DataW.trod_string Tryz.underlying9 g2
      have g3' : DataW.trod enc Tryz.prog w base spare held m 35 [c3, c4, c5, c6] = some y3 := g3
      obtain ⟨x, hx, hr⟩ := rootQ_of (by kernel_rfl) g3'
      obtain ⟨b, r, l⟩ := open_bytes Tryz.underlying33 Tryz.underlying5 (by kernel_rfl) g4
      cases e0; cases e1; cases e2
      have b0 := bounds_i64 w0
      have b1 := bounds_i64 w1
      have p0 : isI64 z0 := by unfold isI64; omega
      have p1 : isI64 z1 := by unfold isI64; omega
      refine ⟨⟨z0, z1, z2, x, c7, b⟩, ?_, ⟨p0, p1, w2, hr, r, l⟩⟩
      unfold XRoot.cells at hx
      cases hx
      rfl
set_option maxRecDepth 100000 in
theorem open_ops6 {fuel : Nat} {v : Value} {y : DataW H × List MemPlace} (h : DataW.trod enc Tryz.prog w base spare held fuel 22 [v] = some y) : ∃ xs : List AOp6, OpsAt6 w v xs := by
  have h8 : Tryz.prog.cellsOf 37 = 8 := by kernel_rfl
  obtain ⟨xs, hx⟩ := open_of Tryz.underlying22 (by rw [h8]; omega) (OpQ6 w) (fun n cs y hl ht => opQ6_of hl ht) h
  rw [h8] at hx
  exact ⟨xs, hx⟩
end
end Go.Proofs.YtkacgmbinkoojaaGreatDoor
