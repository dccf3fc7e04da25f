/-
  Two disks in memory, apart from one another (as Two, Woven1; for chapter 05); what stands between the rounds of PagesOrder.
-/
import Derived.Outline
import Derived.Test.YtbepcjajbcecnaaGreatDoorMPgm18
import Derived.Test.YtbepcjajbcecnaaGreatDoorMOrder0
import Derived.Test.YtbepcjajbcecnaaGreatDoorMOpn8
namespace Go.Proofs.YtbepcjajbcecnaaGreatDoor
open Go.RowKit Go.Maps Go.MapKept

/-- two disks, apart from the blocks of ex, and from one another. -/
def TwoAt5 (ex : Nat → Prop) (w : World) (pa ma : Nat) (da : ADisk) (pb mb : Nat) (db : ADisk) : Prop :=
  ∃ ga gb, DiskRep w pa ma ga da ∧ DiskRep w pb mb gb db ∧ (∀ k, ex k → k < w.heap.size ∧ ¬ dfp pa ma ga k ∧ ¬ dfp pb mb gb k) ∧ ∀ k, dfp pa ma ga k → ¬ dfp pb mb gb k
namespace TwoAt5
variable {ex ex' : Nat → Prop} {w w' : World} {pa ma pb mb : Nat} {da db : ADisk}
theorem lt (h : TwoAt5 ex w pa ma da pb mb db) {k : Nat} (hk : ex k) : k < w.heap.size := let ⟨_, _, _, _, hx, _⟩ := h; (hx k hk).1
theorem fst (h : TwoAt5 ex w pa ma da pb mb db) : DiskAt ex w pa ma da := by
  obtain ⟨ga, gb, ra, rb, hx, hd⟩ := h
  exact ⟨ga, ra, fun k hk => ⟨(hx k hk).1, (hx k hk).2.1⟩⟩
theorem snd (h : TwoAt5 ex w pa ma da pb mb db) : DiskAt ex w pb mb db := by
  obtain ⟨ga, gb, ra, rb, hx, hd⟩ := h
  exact ⟨gb, rb, fun k hk => ⟨(hx k hk).1, (hx k hk).2.2⟩⟩
theorem grow {fp : Nat → Prop} (h : TwoAt5 ex w pa ma da pb mb db) (hu : Upd fp w w') (hb : ∀ k, k < w.heap.size → fp k → ex k) (hx : ∀ k, ex' k → ex k ∨ w.heap.size ≤ k ∧ k < w'.heap.size) : TwoAt5 ex' w' pa ma da pb mb db := by
  obtain ⟨ga, gb, ra, rb, hx0, hd⟩ := h
  refine ⟨ga, gb, ra.upd hu (fun k hk e => (hx0 k (hb k (ra.lt hk) e)).2.1 hk), rb.upd hu (fun k hk e => (hx0 k (hb k (rb.lt hk) e)).2.2 hk), fun k hk => ?_, hd⟩
  rcases hx k hk with hk | ⟨h1, h2⟩
  · exact ⟨Nat.lt_of_lt_of_le (hx0 k hk).1 hu.size, (hx0 k hk).2⟩
  · exact ⟨h2, fun hd => by have := ra.lt hd; omega, fun hd => by have := rb.lt hd; omega⟩
theorem below (h : TwoAt5 ex w pa ma da pb mb db) (hb : Below w.heap.size w w') : TwoAt5 ex w' pa ma da pb mb db := h.grow (Upd.ofBelow (fp := noFp) hb) (fun _ _ h => h.elim) (fun _ hk => Or.inl hk)
theorem ofOne (h : DiskAt ex w pa ma da) : ∃ ex1 : Nat → Prop, (∀ k, ex k → ex1 k) ∧ (∀ k, ex1 k → k < w.heap.size) ∧ ∀ w' pb mb db, DiskAt ex1 w' pb mb db → Keep ex1 w w' → TwoAt5 ex w' pa ma da pb mb db := by
  obtain ⟨ga, ra, hx⟩ := h
  refine ⟨fun k => ex k ∨ dfp pa ma ga k, fun k hk => Or.inl hk, fun k hk => ?_, fun w' pb mb db h' hk => ?_⟩
  · rcases hk with hk | hk
    · exact (hx k hk).1
    · exact ra.lt hk
  · obtain ⟨gb, rb, hx'⟩ := h'
    exact ⟨ga, gb, ra.upd hk.toUpd5 (fun k h1 h2 => h2 (Or.inr h1)), rb, fun k h1 => ⟨(hx' k (Or.inl h1)).1, (hx k h1).2, (hx' k (Or.inl h1)).2⟩, fun k h1 => (hx' k (Or.inr h1)).2⟩
end TwoAt5
def dOf (st : AStore) : ADisk := (pCommit (newD 1048576) st).1
def ptr1 (p : Nat) : Value := .pointer (some ⟨p, 0, none⟩)
/-- what stands between the rounds of PagesOrder. -/
def OrdR (ex : Nat → Prop) (B : Nat → List UInt8) (b7 : Nat) (k : Nat) (wr : World) : Prop :=
  match k with
  | 0 => (∀ j, ex j → j < wr.heap.size) ∧ wr.heap[b7]? = some (.cells #[.pointer none, .pointer none] 44 (0, 0))
  | 1 => ∃ p m st, Ord5 st B 30 ∧ DiskAt ex wr p m (dOf st) ∧ wr.heap[b7]? = some (.cells #[ptr1 p, .pointer none] 44 (0, 0))
  | _ => ∃ p m st p' m' st', Ord5 st B 30 ∧ Ord5 st' B 30 ∧ TwoAt5 ex wr p m (dOf st) p' m' (dOf st') ∧ wr.heap[b7]? = some (.cells #[ptr1 p, ptr1 p'] 44 (0, 0))
theorem OrdR.cells {ex : Nat → Prop} {B : Nat → List UInt8} {b7 k : Nat} {wr : World} (h : OrdR ex B b7 k wr) (hk : k ≤ 2) : ∃ v0 v1, wr.heap[b7]? = some (.cells #[v0, v1] 44 (0, 0)) := by
  obtain rfl | rfl | rfl : k = 0 ∨ k = 1 ∨ k = 2 := by omega
  · exact ⟨_, _, h.2⟩
  · obtain ⟨_, _, _, _, _, h⟩ := h; exact ⟨_, _, h⟩
  · obtain ⟨_, _, _, _, _, _, _, _, _, h⟩ := h; exact ⟨_, _, h⟩
theorem OrdR.round {ex : Nat → Prop} {B : Nat → List UInt8} {b7 k : Nat} {wr : World} (h : OrdR ex B b7 k wr) (hk : k < 2) (hb : ex b7) :
    ∃ exK : Nat → Prop, (∀ j, ex j → exK j) ∧ (∀ j, exK j → j < wr.heap.size) ∧ ∀ w' p m st, Ord5 st B 30 → DiskAt exK w' p m (dOf st) → Keep exK wr w' → OrdR ex B b7 (k + 1) (w'.setCell ⟨b7, k, none⟩ (ptr1 p)) := by
  obtain rfl | rfl : k = 0 ∨ k = 1 := by omega
  · obtain ⟨hlt, hb7⟩ := h
    refine ⟨ex, fun _ h => h, hlt, fun w' p m st ho hd hk => ⟨p, m, st, ho, hd.setCell hb 0 _, ?_⟩⟩
    exact setCell_at ((hk.block b7 hb).trans hb7) 0 _
  · obtain ⟨p, m, st, ho, hd, hb7⟩ := h
    obtain ⟨exK, e1, e2, e3⟩ := TwoAt5.ofOne hd
    refine ⟨exK, e1, e2, fun w' p' m' st' ho' hd' hk => ⟨p, m, st, p', m', st', ho, ho', ?_, ?_⟩⟩
    · exact (e3 w' p' m' (dOf st') hd' hk).grow (setCell_upd 1 _) (fun k _ hk => by rw [hk]; exact hb) (fun _ h => Or.inl h)
    · exact setCell_at ((hk.block b7 (e1 _ hb)).trans hb7) 1 _
theorem OrdR.done {ex : Nat → Prop} {B : Nat → List UInt8} {b7 : Nat} {wr : World} (h : OrdR ex B b7 2 wr) : ∃ p m p' m' d, TwoAt5 ex wr p m d p' m' d ∧ wr.heap[b7]? = some (.cells #[ptr1 p, ptr1 p'] 44 (0, 0)) := by
  obtain ⟨p, m, st, p', m', st', ho, ho', ht, hb⟩ := h
  obtain rfl := ho.same ho'
  exact ⟨p, m, p', m', _, ht, hb⟩
theorem ord_commit {st : AStore} {B : Nat → List UInt8} (h : Ord5 st B 30) : ∃ k st', pCommit (newD 1048576) st = (dOf st, st', k, 0) := by
  obtain ⟨d1, c1, _, _⟩ := h.stp.commit (by omega) (by omega)
  exact ⟨_, _, by unfold dOf; rw [c1]⟩
theorem run_idx2 (a0 : Option Addr) (n0 c0 : Nat) (a1 : Option Addr) (n1 c1 : Nat) (k : Nat) (hk : k < 2) (w : World) : (Instr.index 47 (.agg #[.slice a0 n0 c0, .slice a1 n1 c1]) (.int .i64 k)).run Tryz.prog w = .ok (if k = 0 then .slice a0 n0 c0 else .slice a1 n1 c1) w := by
  obtain rfl | rfl : k = 0 ∨ k = 1 := by omega
  · kernel_rfl
  · kernel_rfl
end Go.Proofs.YtbepcjajbcecnaaGreatDoor
