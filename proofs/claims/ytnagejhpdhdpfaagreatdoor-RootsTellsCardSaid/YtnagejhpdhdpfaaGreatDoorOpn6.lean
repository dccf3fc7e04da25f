/-
  Arguments opened: roots, slices of roots, bytes with their capacity.
-/
import Derived.Outline
import Derived.Test.YtnagejhpdhdpfaaGreatDoorOpen0
import Derived.Test.YtnagejhpdhdpfaaGreatDoorRt6
namespace Go.Proofs.YtnagejhpdhdpfaaGreatDoor
open Go.RowKit Go.ChangeShapes Go.WideShapes Go.Deep

/-- a root that came in. -/
structure XRoot where
  s : Int
  t : Int
  c : Int
  vb : Value
  b : List UInt8
def XRoot.cells (x : XRoot) : List Value := [.int .i64 x.s, .int .i64 x.t, .int .i64 x.c, x.vb]
def XRoot.val (x : XRoot) : Value := .agg #[.int .i64 x.s, .int .i64 x.t, .int .i64 x.c, x.vb]
structure RootOk (w : World) (x : XRoot) : Prop where
  s : isI64 x.s
  t : isI64 x.t
  c : isI64 x.c
  rb : Rd w x.vb (bcells x.b)
  lb : x.b.length ≤ maxLen
theorem RootOk.below {w w' : World} {x : XRoot} (h : RootOk w x) (hB : Below w.heap.size w w') : RootOk w' x := { h with rb := h.rb.below hB }

section
variable {H : Type} {enc : TypeId × Value → H} {w : World} {base : Nat} {spare : Nat → Bool} {held : Bool}
theorem cap_of {P : Program} {t e : TypeId} (ht : P.underlying t = some (.slice e)) {fuel : Nat} {v : Value} {y : DataW H × List MemPlace} (h : DataW.trod enc P w base spare held fuel t [v] = some y) : CapOk v := by
  rcases open_slice ht h with ⟨hcs, _⟩ | ⟨a, len, cap, m, n, D, Pl, hcs, _, hl, hm, _⟩
  · simp at hcs; subst hcs; exact ⟨_, _, _, rfl, Nat.le_refl _, Nat.zero_le _⟩
  · simp at hcs; subst hcs; exact ⟨_, _, _, rfl, hl, hm⟩
theorem open_capbytes {fuel : Nat} {v : Value} {y : DataW H × List MemPlace} (h : DataW.trod enc Tryz.prog w base spare held fuel 22 [v] = some y) : ∃ b : List UInt8, Rd w v (bcells b) ∧ b.length ≤ maxLen ∧ CapOk v := by
  obtain ⟨b, h1, h2⟩ := open_bytes Tryz.underlying22 Tryz.underlying5 (by kernel_rfl) h
  exact ⟨b, h1, h2, cap_of Tryz.underlying22 h⟩
set_option maxRecDepth 100000 in
theorem rootQ_of {n : Nat} {cs : List Value} {y : DataW H × List MemPlace} (hl : cs.length = Tryz.prog.cellsOf 24) (h : DataW.trod enc Tryz.prog w base spare held n 24 cs = some y) : ∃ x : XRoot, cs = x.cells ∧ RootOk w x := by
  have h4 : Tryz.prog.cellsOf 24 = 4 := by kernel_rfl
  have oneI : Tryz.prog.cellsOf 3 = 1 := by kernel_rfl
  have oneB : Tryz.prog.cellsOf 22 = 1 := by kernel_rfl
  have one8 : Tryz.prog.cellsOf 5 = 1 := by kernel_rfl
  rw [h4] at hl
  obtain ⟨xs, m, _, _, _, hlen, hf⟩ := DataW.trod_struct Tryz.underlying24 h
  match cs, hl with
  | [c0, c1, c2, c3], _ =>
    match xs, hlen with
    | [y0, y1, y2, y3], _ =>
      have g0 := hf 0 _ rfl
      have g1 := hf 1 _ rfl
      have g2 := hf 2 _ rfl
      have g3 := hf 3 _ rfl
      simp only [List.getElem?_cons_zero, List.getElem?_cons_succ] at g0 g1 g2 g3
      obtain ⟨z0, e0, _, w0⟩ := DataW.trod_int Tryz.underlying3 g0
      obtain ⟨z1, e1, _, w1⟩ := DataW.trod_int Tryz.underlying3 g1
      obtain ⟨z2, e2, _, w2⟩ := DataW.trod_int Tryz.underlying3 g2
      obtain ⟨z3, r3, l3⟩ := open_bytes Tryz.underlying22 Tryz.underlying5 one8 g3
      cases e0; cases e1; cases e2
      have b0 := bounds_i64 w0
      have b1 := bounds_i64 w1
      have b2 := bounds_i64 w2
      exact ⟨⟨z0, z1, z2, c3, z3⟩, rfl, ⟨by unfold isI64; simp only; omega, by unfold isI64; simp only; omega, by unfold isI64; simp only; omega, r3, l3⟩⟩
theorem open_root {fuel : Nat} {cs : List Value} {y : DataW H × List MemPlace} (hl : cs.length = Tryz.prog.cellsOf 24) (h : DataW.trod enc Tryz.prog w base spare held fuel 24 cs = some y) : ∃ x : XRoot, cs = x.cells ∧ RootOk w x := rootQ_of hl h

/-- a slice of roots. -/
def RootsAt (w : World) (v : Value) (l : List XRoot) : Prop := SliceOf 4 (fun cs x => cs = x.cells ∧ RootOk w x) w v l
theorem RootsAt.at {W w : World} {a : Option Addr} {n c : Nat} {l : List XRoot} (h : RootsAt W (.slice a n c) l) (hb : Below W.heap.size W w) (k : Nat) (hk : k < l.length) :
    ∃ b off, a = some ⟨b, off, none⟩ ∧ b < W.heap.size ∧ RootOk W l[k] ∧ w.cell? ⟨b, off + k * 4, none⟩ = some (.int .i64 l[k].s) ∧ w.cell? ⟨b, off + k * 4 + 1, none⟩ = some (.int .i64 l[k].t) ∧ w.cell? ⟨b, off + k * 4 + 2, none⟩ = some (.int .i64 l[k].c) ∧
      w.cell? ⟨b, off + k * 4 + 3, none⟩ = some l[k].vb := by
  obtain ⟨b, off, ha, cs, _, hc, rfl, hok⟩ := SliceOf.at h k hk
  have hx : ∀ i u, l[k].cells[i]? = some u → w.cell? ⟨b, off + k * 4 + i, none⟩ = some u := fun i u hu => by
    have h1 := hc i u hu
    rw [← Nat.add_assoc] at h1
    exact (hb.cell (p := ⟨b, off + k * 4 + i, none⟩) (cell_lt h1)).trans h1
  exact ⟨b, off, ha, cell_lt (hc 0 _ rfl), hok, hx 0 _ rfl, hx 1 _ rfl, hx 2 _ rfl, hx 3 _ rfl⟩
end
/-- Bytes, its answer by name. -/
theorem bytes_at {w : World} (s t c : Int) (vb : Value) (b L : List UInt8) (er : Int) (hs : isI64 s) (ht : isI64 t) (hc : isI64 c) (hv : Rd w vb (bcells b)) (hb : b.length ≤ 140737488355328) (he : rbErr s t c b.length = er) (hL : rbOut s t c b = L) :
    Calls Tryz.prog 8 #[.agg #[.int .i64 s, .int .i64 t, .int .i64 c, vb]] w fun e w' => ∃ a cc, e = .returned (.tuple #[.slice a L.length cc, .int .i64 er]) ∧ w'.ownsRow w.heap.size 5 1 (.slice a L.length cc) L.length (bcells L) ∧ Below w.heap.size w w' := by
  have := rBytes_any w s t c vb b hs ht hc hv hb
  unfold RbPost rootV at this
  rw [he, hL] at this
  exact this
/-- Parse, its answer by name. -/
theorem parse_by {w : World} (v : Value) (l : List UInt8) (P : ARoot) (er : Int) (hv : Rd w v (bcells l)) (hcap : CapOk v) (hl : l.length ≤ 1099511627776) (he : parseE l = er) (hP : parseR l = P) :
    Calls Tryz.prog 10 #[v] w fun e w' => ∃ a c, e = .returned (.tuple #[.agg #[.int .i64 P.serial, .int .i64 P.tick, .int .i64 P.commit, .slice a P.blob.length c], .int .i64 er]) ∧
      w'.ownsRow w.heap.size 5 1 (.slice a P.blob.length c) P.blob.length (bcells P.blob) ∧ Below w.heap.size w w' := by
  have := rParse_any w v l hv hcap hl
  unfold RpPost rootV at this
  rw [he, hP] at this
  exact this
theorem row_cap {w : World} {base : Nat} {a : Option Addr} {c : Nat} {l : List UInt8} (h : w.ownsRow base 5 1 (.slice a l.length c) l.length (bcells l)) : CapOk (.slice a l.length c) := by
  obtain ⟨_, _, hv1, hnc1, hcm1, _⟩ := row_slice (ownsRow_base0 h)
  cases hv1
  exact ⟨_, _, _, rfl, hnc1, hcm1⟩
end Go.Proofs.YtnagejhpdhdpfaaGreatDoor
