/-
  RootsPlays: lemmas for the walk: both disks side by side, and the boxes of a round.
-/
import Derived.Outline
import Derived.Test.YtkacgmbinkoojaaGreatDoorMRpC
import Derived.Test.YtkacgmbinkoojaaGreatDoorMGtB
import Derived.Test.YtkacgmbinkoojaaGreatDoorMOpA
import Derived.Test.YtkacgmbinkoojaaGreatDoorMRfD
namespace Go.Proofs.YtkacgmbinkoojaaGreatDoor
open Go.RowKit Go.Maps Go.MapKept
set_option linter.unusedSimpArgs false
set_option linter.unusedVariables false

set_option maxRecDepth 100000 in
set_option maxHeartbeats 2000000 in
theorem refNew_bad (w : World) (n : Int) (h : n < 0 ∨ 16777216 < n) :
    Calls Tryz.prog 5 #[.int .i64 n] w fun e w' => e = .returned (.tuple #[.agg #[.int .i64 0, .slice none 0 0, .int .i64 0, .bool false], .int .i64 2]) ∧ Below w.heap.size w w' := by
  have hb : Below w.heap.size w (w.alloc (.cells #[.int .i64 0, .slice none 0 0, .int .i64 0, .bool false] 29)) := (Below.refl _ _).alloc (Nat.le_refl _) _
  by_cases h1 : n < 0
  · clear h
    go_enter Tryz.func5, Tryz.ntmps5
    go_wp2
    exact bodyPost_ret (v := .tuple #[.agg #[.int .i64 0, .slice none 0 0, .int .i64 0, .bool false], .int .i64 2]) (by simp [results, Tryz.results5, go_sem]) rfl ⟨rfl, hb⟩
  · have h2 : 16777216 < n := by omega
    clear h
    go_enter Tryz.func5, Tryz.ntmps5
    go_wp2
    exact bodyPost_ret (v := .tuple #[.agg #[.int .i64 0, .slice none 0 0, .int .i64 0, .bool false], .int .i64 2]) (by simp [results, Tryz.results5, go_sem]) rfl ⟨rfl, hb⟩
theorem Crash_at1 {ex : Nat → Prop} {w : World} {p m : Nat} {d : ADisk} (vk : Value) (keeps : List Int) (h : DiskAt ex w p m d) (hrd : Rd w vk (iCells keeps)) (hkl : keeps.length ≤ 9223372036854775807) (hki : ∀ x ∈ keeps, isI64 x) (hk : ∀ k, vk.ownBlock = some k → keeps ≠ [] → ex k) :
    Calls Tryz.prog 13 #[.pointer (some ⟨p, 0, none⟩), vk] w fun e w' => e = .returned (.tuple #[]) ∧ DiskAt ex w' p m (d.crash keeps) ∧ Keep ex w w' := by
  obtain ⟨g, hr, hx⟩ := h
  exact (Crash_any0 w p m g d vk keeps hr hrd hkl hki (fun k hv hn => (hx k (hk k hv hn)).2)).mono fun e w' he => ⟨he.1, DiskAt.post hr hx he.2⟩

/-- the two disks, side by side; WB is the block in which the document's lies. -/
structure SideAt (ex0 : Nat → Prop) (w0 w : World) (p m WB : Nat) (exq : Nat → Prop) (d : ADisk) (a : Option Addr) (n c : Nat) : Prop where
  hx : ∀ k, ex0 k → exq k
  wb : exq WB
  far : ¬ ex0 WB
  disk : DiskAt exq w p m d
  ref : RefAt exq w a n c d
  cell : w.heap[WB]? = some (.cells #[.int .i64 d.most, .slice a n c, .int .i64 d.left, .bool d.down] 29)
  keep : Keep ex0 w0 w
namespace SideAt
variable {ex0 exq : Nat → Prop} {w0 w w1 w2 w3 : World} {p m WB : Nat} {d d' : ADisk} {a a' : Option Addr} {n c n' c' : Nat}
theorem wf (h : SideAt ex0 w0 w p m WB exq d a n c) : d.WF := h.disk.wf
theorem lt (h : SideAt ex0 w0 w p m WB exq d a n c) {k : Nat} (hk : exq k) : k < w.heap.size := h.disk.lt hk
theorem below (h : SideAt ex0 w0 w p m WB exq d a n c) (hb : Below w.heap.size w w1) : SideAt ex0 w0 w1 p m WB exq d a n c :=
  ⟨h.hx, h.wb, h.far, h.disk.below hb, h.ref.below hb, (hb.block _ (blk_lt h.cell)).trans h.cell, h.keep.trans (Keep.ofBelow hb (fun k hk => h.lt (h.hx k hk)))⟩
end SideAt
/-- the three boxes of a round. -/
def InBox (B0 k : Nat) : Prop := B0 ≤ k ∧ k < B0 + 3
/-- the two disks within a round. -/
structure PlAt (ex0 : Nat → Prop) (w0 w : World) (p m WB B0 : Nat) (exq : Nat → Prop) (d : ADisk) (a : Option Addr) (n c : Nat) : Prop where
  hx : ∀ k, ex0 k → exq k
  wb : exq WB
  far : ¬ ex0 WB
  nb : ∀ k, exq k → ¬ InBox B0 k
  sz : B0 + 3 ≤ w.heap.size
  disk : DiskAt (fun k => exq k ∨ InBox B0 k) w p m d
  ref : RefAt exq w a n c d
  cell : w.heap[WB]? = some (.cells #[.int .i64 d.most, .slice a n c, .int .i64 d.left, .bool d.down] 29)
  keep : Keep ex0 w0 w
namespace PlAt
variable {ex0 exq : Nat → Prop} {w0 w w1 w2 w3 : World} {p m WB B0 : Nat} {d d' : ADisk} {a a' : Option Addr} {n c n' c' : Nat}
theorem of (h : SideAt ex0 w0 w p m WB exq d a n c) (hb : Below w.heap.size w w1) (hs : w.heap.size + 3 ≤ w1.heap.size) : PlAt ex0 w0 w1 p m WB w.heap.size exq d a n c :=
  ⟨h.hx, h.wb, h.far, fun k hk e => by have := h.lt hk; have := e.1; omega, hs, h.disk.more hb (fun k hk => hk.elim Or.inl (fun e => Or.inr ⟨e.1, by have := e.2; omega⟩)), h.ref.below hb, (hb.block _ (blk_lt h.cell)).trans h.cell, h.keep.trans (Keep.ofBelow hb (fun k hk => h.lt (h.hx k hk)))⟩
theorem side (h : PlAt ex0 w0 w p m WB B0 exq d a n c) : SideAt ex0 w0 w p m WB exq d a n c := ⟨h.hx, h.wb, h.far, h.disk.mono (fun k hk => Or.inl hk), h.ref, h.cell, h.keep⟩
theorem wf (h : PlAt ex0 w0 w p m WB B0 exq d a n c) : d.WF := h.disk.wf
theorem lt (h : PlAt ex0 w0 w p m WB B0 exq d a n c) {k : Nat} (hk : exq k) : k < w.heap.size := h.disk.lt (Or.inl hk)
theorem below (h : PlAt ex0 w0 w p m WB B0 exq d a n c) (hb : Below w.heap.size w w1) : PlAt ex0 w0 w1 p m WB B0 exq d a n c :=
  ⟨h.hx, h.wb, h.far, h.nb, Nat.le_trans h.sz hb.size, h.disk.below hb, h.ref.below hb, (hb.block _ (blk_lt h.cell)).trans h.cell, h.keep.trans (Keep.ofBelow hb (fun k hk => h.lt (h.hx k hk)))⟩
/-- one block more that is kept. -/
theorem more (h : PlAt ex0 w0 w p m WB B0 exq d a n c) (hb : Below w.heap.size w w1) (B : Nat) (hB : w.heap.size ≤ B) (hB' : B < w1.heap.size) : PlAt ex0 w0 w1 p m WB B0 (fun k => exq k ∨ k = B) d a n c :=
  ⟨fun k hk => Or.inl (h.hx k hk), Or.inl h.wb, h.far, fun k hk e => hk.elim (fun h1 => h.nb k h1 e) (fun h1 => by have := h.sz; have := e.2; omega), Nat.le_trans h.sz hb.size,
    h.disk.more hb (fun k hk => by rcases hk with (h1 | h1) | h1; exact Or.inl (Or.inl h1); exact Or.inr ⟨by omega, by omega⟩; exact Or.inl (Or.inr h1)), (h.ref.below hb).narrow (fun _ hk _ => Or.inl hk), (hb.block _ (blk_lt h.cell)).trans h.cell, h.keep.trans (Keep.ofBelow hb (fun k hk => h.lt (h.hx k hk)))⟩
/-- a box of the round is written. -/
theorem box (h : PlAt ex0 w0 w p m WB B0 exq d a n c) (hU : Upd (InBox B0) w w2) : PlAt ex0 w0 w2 p m WB B0 exq d a n c :=
  ⟨h.hx, h.wb, h.far, h.nb, Nat.le_trans h.sz hU.size, h.disk.upd hU (fun k _ e => Or.inr e), h.ref.keep (ex := fun k => exq k) (Keep.ofUpd hU (fun k hk => ⟨h.lt hk, h.nb k hk⟩)) (fun k hk _ => hk), hU.keep h.cell (h.nb _ h.wb), h.keep.trans (Keep.ofUpd hU (fun k hk => ⟨h.lt (h.hx k hk), h.nb k (h.hx k hk)⟩))⟩
/-- behind a call upon the program's disk: the document's is where it was. -/
theorem mid (h : PlAt ex0 w0 w p m WB B0 exq d a n c) (hK : Keep exq w w2) : RefAt (fun k => exq k ∨ w2.heap.size ≤ k) w2 a n c d ∧ w2.heap[WB]? = some (.cells #[.int .i64 d.most, .slice a n c, .int .i64 d.left, .bool d.down] 29) :=
  ⟨(h.ref.keep hK (fun _ hk _ => hk)).narrow (fun _ hk _ => Or.inl hk), (hK.block _ h.wb).trans h.cell⟩
/-- behind a call upon both. -/
theorem step (h : PlAt ex0 w0 w p m WB B0 exq d a n c) (hD : DiskAt (fun k => exq k ∨ InBox B0 k) w2 p m d') (hK : Keep exq w w2) (hR : RefAt (fun k => exq k ∨ w2.heap.size ≤ k) w3 a' n' c' d') (hb : Below w2.heap.size w2 w3) :
    PlAt ex0 w0 ((((w3.setCell ⟨WB, 0, none⟩ (.int .i64 d'.most)).setCell ⟨WB, 1, none⟩ (.slice a' n' c')).setCell ⟨WB, 2, none⟩ (.int .i64 d'.left)).setCell ⟨WB, 3, none⟩ (.bool d'.down)) p m WB B0 (fun k => exq k ∨ w2.heap.size ≤ k ∧ k < w3.heap.size) d' a' n' c' := by
  obtain ⟨_, hc2⟩ := h.mid hK
  have hc3 := (hb.block _ (blk_lt hc2)).trans hc2
  have hU := setCell4_upd (w := w3) (b := WB) (.int .i64 d'.most) (.slice a' n' c') (.int .i64 d'.left) (.bool d'.down)
  have hc4 := setCell4_at hc3 (.int .i64 d'.most) (.slice a' n' c') (.int .i64 d'.left) (.bool d'.down)
  have hs2 : B0 + 3 ≤ w2.heap.size := Nat.le_trans h.sz hK.size
  have hD3 : DiskAt (fun k => (exq k ∨ w2.heap.size ≤ k ∧ k < w3.heap.size) ∨ InBox B0 k) w3 p m d' := hD.more hb (fun k hk => by rcases hk with (h1 | h1) | h1; exact Or.inl (Or.inl h1); exact Or.inr h1; exact Or.inl (Or.inr h1))
  have hR3 : RefAt (fun k => exq k ∨ w2.heap.size ≤ k ∧ k < w3.heap.size) w3 a' n' c' d' := hR.narrow (fun k hk hl => hk.elim Or.inl (fun e => Or.inr ⟨e, hl⟩))
  have hlt3 : ∀ k, exq k → k < w3.heap.size := fun k hk => hD3.lt (Or.inl (Or.inl hk))
  refine ⟨fun k hk => Or.inl (h.hx k hk), Or.inl h.wb, h.far, fun k hk e => hk.elim (fun h1 => h.nb k h1 e) (fun h1 => by have := h1.1; have := e.2; omega), Nat.le_trans (Nat.le_trans hs2 hb.size) hU.size, hD3.upd hU (fun k _ e => by rw [e]; exact Or.inl (Or.inl h.wb)), hR3.apart hc3 ⟨_, _, _, rfl⟩ ⟨_, rfl⟩ hU, hc4, ?_⟩
  exact ((h.keep.trans (hK.mono h.hx)).trans (Keep.ofBelow hb (fun k hk => hD.lt (Or.inl (h.hx k hk))))).trans (Keep.ofUpd hU (fun k hk => ⟨hlt3 k (h.hx k hk), fun e => h.far (by rw [← e]; exact hk)⟩))
end PlAt
theorem cells8 {w : World} {b : Nat} {x0 x1 x2 x3 x4 x5 x6 x7 : Value} {T : TypeId} (h : w.heap[b]? = some (.cells #[x0, x1, x2, x3, x4, x5, x6, x7] T (0, 0))) :
    w.cell? ⟨b, 0, none⟩ = some x0 ∧ w.cell? ⟨b, 1, none⟩ = some x1 ∧ w.cell? ⟨b, 2, none⟩ = some x2 ∧ w.cell? ⟨b, 3, none⟩ = some x3 ∧ w.cell? ⟨b, 4, none⟩ = some x4 ∧ w.cell? ⟨b, 5, none⟩ = some x5 ∧ w.cell? ⟨b, 6, none⟩ = some x6 ∧ w.cell? ⟨b, 7, none⟩ = some x7 := by
  refine ⟨by rw [cell_at h]; rfl, by rw [cell_at h]; rfl, by rw [cell_at h]; rfl, by rw [cell_at h]; rfl, by rw [cell_at h]; rfl, by rw [cell_at h]; rfl, by rw [cell_at h]; rfl, by rw [cell_at h]; rfl⟩
theorem box4 {w : World} {B0 b : Nat} (hb : InBox B0 b) (x y z u : Value) : Upd (InBox B0) w ((((w.setCell ⟨b, 0, none⟩ x).setCell ⟨b, 1, none⟩ y).setCell ⟨b, 2, none⟩ z).setCell ⟨b, 3, none⟩ u) :=
  (setCell4_upd x y z u).mono (fun k e => Or.inl (by rw [e]; exact hb))
/-- what both Writes tell of the root. -/
theorem wr_val (w : World) (er : Int) (s t c : Int) (vb : Value) (b : List UInt8) (hv : Rd w vb (bcells b)) :
    ∃ (s1 t1 c1 : Int) (a1 : Option Addr) (n1 k1 : Nat) (bb : List UInt8), (if er = 0 then rootV s t c vb else zeroV) = .agg #[.int .i64 s1, .int .i64 t1, .int .i64 c1, .slice a1 n1 k1] ∧ Rd w (.slice a1 n1 k1) (bcells bb) := by
  obtain ⟨ab, cb, rfl⟩ := hv.shape
  by_cases h : er = 0
  · rw [if_pos h]; exact ⟨s, t, c, ab, _, cb, b, rfl, hv⟩
  · rw [if_neg h]; exact ⟨0, 0, 0, none, 0, 0, [], rfl, Or.inl ⟨Or.inl rfl, rfl⟩⟩
theorem sameR_self (w : World) (s t c : Int) (va vb : Value) (a : List UInt8) (ha : Rd w va (bcells a)) (hb : Rd w vb (bcells a)) :
    Calls Tryz.prog 21 #[rootV s t c va, rootV s t c vb] w fun e w' => e = .returned (.bool true) ∧ Below w.heap.size w w' := by
  have := sameR_any w s t c s t c va vb a a ha hb
  rw [show sameR s t c a s t c a = true by simp [sameR]] at this
  exact this
end Go.Proofs.YtkacgmbinkoojaaGreatDoor
