/-
  Lemmas for the walk of DiskTells: the program's disk and the document's side by side.
-/
import Derived.Outline
import Derived.Test.YtlljlkeknklplaaRef16
import Derived.Test.YtlljlkeknklplaaRef15
import Derived.Test.YtlljlkeknklplaaRef13
import Derived.Test.YtlljlkeknklplaaOpen1
import Derived.Test.YtlljlkeknklplaaAwake
namespace Go.Proofs.Ytlljlkeknklplaa
open Go.RowKit Go.Maps Go.MapKept

set_option maxRecDepth 100000 in
set_option maxHeartbeats 2000000 in
theorem refNew_bad (w : World) (n : Int) (h : n < 0 ∨ 16777216 < n) :
    Calls Try.prog 19 #[.int .i64 n] w fun e w' => e = .returned (.tuple #[.agg #[.int .i64 0, .slice none 0 0, .int .i64 0, .bool false], .int .i64 2]) ∧ Below w.heap.size w w' := by
  have hb : Below w.heap.size w (w.alloc (.cells #[.int .i64 0, .slice none 0 0, .int .i64 0, .bool false] 43)) := (Below.refl _ _).alloc (Nat.le_refl _) _
  by_cases h1 : n < 0
  · clear h
    go_enter Try.func19, Try.ntmps19
    go_wp2
    exact bodyPost_ret (v := .tuple #[.agg #[.int .i64 0, .slice none 0 0, .int .i64 0, .bool false], .int .i64 2]) (by simp [results, Try.results19, go_sem]) rfl ⟨rfl, hb⟩
  · have h2 : 16777216 < n := by omega
    clear h
    go_enter Try.func19, Try.ntmps19
    go_wp2
    exact bodyPost_ret (v := .tuple #[.agg #[.int .i64 0, .slice none 0 0, .int .i64 0, .bool false], .int .i64 2]) (by simp [results, Try.results19, go_sem]) rfl ⟨rfl, hb⟩
theorem Crash_at1 {ex : Nat → Prop} {w : World} {p m : Nat} {d : ADisk} (vk : Value) (keeps : List Int) (h : DiskAt ex w p m d) (hrd : Rd w vk (iCells keeps)) (hkl : keeps.length ≤ 9223372036854775807) (hki : ∀ x ∈ keeps, isI64 x) (hk : ∀ k, vk.ownBlock = some k → keeps ≠ [] → ex k) :
    Calls Try.prog 30 #[.pointer (some ⟨p, 0, none⟩), vk] w fun e w' => e = .returned (.tuple #[]) ∧ DiskAt ex w' p m (d.crash keeps) ∧ Keep ex w w' := by
  obtain ⟨g, hr, hx⟩ := h
  exact (Crash_any0 w p m g d vk keeps hr hrd hkl hki (fun k hv hn => (hx k (hk k hv hn)).2)).mono fun e w' he => ⟨he.1, DiskAt.post hr hx he.2⟩

/-- the two disks, side by side; WB is the block in which the document's lies. -/
structure TellsAt (ex0 : Nat → Prop) (w0 w : World) (p m WB : Nat) (exq : Nat → Prop) (d : ADisk) (a : Option Addr) (n c : Nat) : Prop where
  hx : ∀ k, ex0 k → exq k
  wb : exq WB
  far : ¬ ex0 WB
  disk : DiskAt exq w p m d
  ref : RefAt exq w a n c d
  cell : w.heap[WB]? = some (.cells #[.int .i64 d.most, .slice a n c, .int .i64 d.left, .bool d.down] 43)
  keep : Keep ex0 w0 w
namespace TellsAt
variable {ex0 exq : Nat → Prop} {w0 w w1 w2 w3 : World} {p m WB : Nat} {d d' : ADisk} {a a' : Option Addr} {n c n' c' : Nat}
theorem wf (h : TellsAt ex0 w0 w p m WB exq d a n c) : d.WF := h.disk.wf
theorem lt (h : TellsAt ex0 w0 w p m WB exq d a n c) {k : Nat} (hk : exq k) : k < w.heap.size := h.disk.lt hk
theorem below (h : TellsAt ex0 w0 w p m WB exq d a n c) (hb : Below w.heap.size w w1) : TellsAt ex0 w0 w1 p m WB exq d a n c :=
  ⟨h.hx, h.wb, h.far, h.disk.below hb, h.ref.below hb, (hb.block _ (blk_lt h.cell)).trans h.cell, h.keep.trans (Keep.ofBelow hb (fun k hk => h.lt (h.hx k hk)))⟩
/-- one block more that is kept. -/
theorem more (h : TellsAt ex0 w0 w p m WB exq d a n c) (hb : Below w.heap.size w w1) (B : Nat) (hB : w.heap.size ≤ B) (hB' : B < w1.heap.size) : TellsAt ex0 w0 w1 p m WB (fun k => exq k ∨ k = B) d a n c :=
  ⟨fun k hk => Or.inl (h.hx k hk), Or.inl h.wb, h.far, h.disk.more hb (fun k hk => hk.elim Or.inl (fun e => Or.inr ⟨by omega, by omega⟩)), (h.ref.below hb).narrow (fun _ hk _ => Or.inl hk), (hb.block _ (blk_lt h.cell)).trans h.cell, h.keep.trans (Keep.ofBelow hb (fun k hk => h.lt (h.hx k hk)))⟩
/-- behind a call upon the program's disk: the document's is where it was. -/
theorem mid (h : TellsAt ex0 w0 w p m WB exq d a n c) (hK : Keep exq w w2) : RefAt (fun k => exq k ∨ w2.heap.size ≤ k) w2 a n c d ∧ w2.heap[WB]? = some (.cells #[.int .i64 d.most, .slice a n c, .int .i64 d.left, .bool d.down] 43) :=
  ⟨(h.ref.keep hK (fun _ hk _ => hk)).narrow (fun _ hk _ => Or.inl hk), (hK.block _ h.wb).trans h.cell⟩
/-- behind a call upon both. -/
theorem step (h : TellsAt ex0 w0 w p m WB exq d a n c) (hD : DiskAt exq w2 p m d') (hK : Keep exq w w2) (hR : RefAt (fun k => exq k ∨ w2.heap.size ≤ k) w3 a' n' c' d') (hb : Below w2.heap.size w2 w3) :
    TellsAt ex0 w0 ((((w3.setCell ⟨WB, 0, none⟩ (.int .i64 d'.most)).setCell ⟨WB, 1, none⟩ (.slice a' n' c')).setCell ⟨WB, 2, none⟩ (.int .i64 d'.left)).setCell ⟨WB, 3, none⟩ (.bool d'.down)) p m WB (fun k => exq k ∨ w2.heap.size ≤ k ∧ k < w3.heap.size) d' a' n' c' ∧
      Keep (fun k => exq k ∧ k ≠ WB) w ((((w3.setCell ⟨WB, 0, none⟩ (.int .i64 d'.most)).setCell ⟨WB, 1, none⟩ (.slice a' n' c')).setCell ⟨WB, 2, none⟩ (.int .i64 d'.left)).setCell ⟨WB, 3, none⟩ (.bool d'.down)) := by
  obtain ⟨_, hc2⟩ := h.mid hK
  have hc3 := (hb.block _ (blk_lt hc2)).trans hc2
  have hU : Upd (· = WB) w3 ((((w3.setCell ⟨WB, 0, none⟩ (.int .i64 d'.most)).setCell ⟨WB, 1, none⟩ (.slice a' n' c')).setCell ⟨WB, 2, none⟩ (.int .i64 d'.left)).setCell ⟨WB, 3, none⟩ (.bool d'.down)) := ((((Upd.refl (· = WB) w3).setCell (p := ⟨WB, 0, none⟩) (Or.inl rfl) _).setCell (p := ⟨WB, 1, none⟩) (Or.inl rfl) _).setCell (p := ⟨WB, 2, none⟩) (Or.inl rfl) _).setCell (p := ⟨WB, 3, none⟩) (Or.inl rfl) _
  have hc4 := setCell_at (setCell_at (setCell_at (setCell_at hc3 0 (.int .i64 d'.most)) 1 (.slice a' n' c')) 2 (.int .i64 d'.left)) 3 (.bool d'.down)
  have hD3 : DiskAt (fun k => exq k ∨ w2.heap.size ≤ k ∧ k < w3.heap.size) w3 p m d' := hD.more hb (fun k hk => hk)
  have hR3 : RefAt (fun k => exq k ∨ w2.heap.size ≤ k ∧ k < w3.heap.size) w3 a' n' c' d' := hR.narrow (fun k hk hl => hk.elim Or.inl (fun e => Or.inr ⟨e, hl⟩))
  have hlt3 : ∀ k, exq k → k < w3.heap.size := fun k hk => hD3.lt (Or.inl hk)
  refine ⟨⟨fun k hk => Or.inl (h.hx k hk), Or.inl h.wb, h.far, hD3.upd hU (fun k _ e => by rw [e]; exact Or.inl h.wb), hR3.apart hc3 ⟨_, _, _, rfl⟩ ⟨_, rfl⟩ hU, hc4, ?_⟩, ?_⟩
  · exact ((h.keep.trans (hK.mono h.hx)).trans (Keep.ofBelow hb (fun k hk => hD.lt (h.hx k hk)))).trans (Keep.ofUpd hU (fun k hk => ⟨hlt3 k (h.hx k hk), fun e => h.far (by rw [← e]; exact hk)⟩))
  · exact ((hK.mono (fun k hk => hk.1)).trans (Keep.ofBelow hb (fun k hk => hD.lt hk.1))).trans (Keep.ofUpd hU (fun k hk => ⟨hlt3 k hk.1, hk.2⟩))
end TellsAt
theorem findErr_does (d : ADisk) (s : ByteArray) : (lk d.fs s = none → ((afile d s).len : Int) = 0 ∧ ((afile d s).firm.length : Int) = 0) := fun h => by unfold afile; rw [h]; exact ⟨rfl, rfl⟩
end Go.Proofs.Ytlljlkeknklplaa
