/-
  The disk's contracts as a caller uses them: 'ex' are the blocks that the caller keeps.
-/
import Derived.Outline
import Derived.Test.YtnagejhpdhdpfaaGreatDoorDisk8
namespace Go.Proofs.YtnagejhpdhdpfaaGreatDoor
open Go.RowKit Go.Maps Go.MapKept

/-- Of the blocks of ex none has turned. -/
structure Keep (ex : Nat → Prop) (w w' : World) : Prop where
  os : w'.os = w.os
  tape : w'.tape = w.tape
  output : w'.output = w.output
  size : w.heap.size ≤ w'.heap.size
  block : ∀ k, ex k → w'.heap[k]? = w.heap[k]?
namespace Keep
variable {ex ex' : Nat → Prop} {w w' w1 w2 : World}
theorem refl (ex : Nat → Prop) (w : World) : Keep ex w w := ⟨rfl, rfl, rfl, Nat.le_refl _, fun _ _ => rfl⟩
theorem trans (h : Keep ex w w1) (h2 : Keep ex w1 w2) : Keep ex w w2 :=
  ⟨h2.os.trans h.os, h2.tape.trans h.tape, h2.output.trans h.output, Nat.le_trans h.size h2.size, fun k hk => (h2.block k hk).trans (h.block k hk)⟩
theorem mono (h : Keep ex w w') (hm : ∀ k, ex' k → ex k) : Keep ex' w w' := ⟨h.os, h.tape, h.output, h.size, fun k hk => h.block k (hm k hk)⟩
theorem ofUpd {fp : Nat → Prop} (h : Upd fp w w') (hx : ∀ k, ex k → k < w.heap.size ∧ ¬ fp k) : Keep ex w w' := ⟨h.os, h.tape, h.output, h.size, fun k hk => h.block k (hx k hk).1 (hx k hk).2⟩
theorem ofBelow (h : Below w.heap.size w w') (hx : ∀ k, ex k → k < w.heap.size) : Keep ex w w' := ⟨h.os, h.tape, h.output, h.size, fun k hk => h.block k (hx k hk)⟩
theorem alloc (w : World) (o : Obj) (hx : ∀ k, ex k → k < w.heap.size) : Keep ex w (w.alloc o) := ofBelow ((Below.refl _ _).alloc (Nat.le_refl _) o) hx
theorem drew (h : Keep ex w w') : Keep ex w w'.drew := ⟨h.os, h.tape, h.output, h.size, h.block⟩
theorem below {N : Nat} (h : Keep ex w w') (hx : ∀ k, k < N → ex k) : Below N w w' := ⟨h.os, h.tape, h.output, h.size, fun k hk => h.block k (hx k hk)⟩
theorem cell (h : Keep ex w w') {b : Nat} (hb : ex b) (o : Nat) : w'.cell? ⟨b, o, none⟩ = w.cell? ⟨b, o, none⟩ := World.cell?_of_block (a := ⟨b, o, none⟩) (h.block b hb)
theorem rd (h : Keep ex w w') {v : Value} {xs : List Value} (hr : Rd w v xs) (hb : ∀ b, v.ownBlock = some b → ex b) : Rd w' v xs := by
  rcases hr with hr | ⟨b, off, n, c, rfl, hl, hc⟩
  · exact Or.inl hr
  · exact Or.inr ⟨b, off, n, c, rfl, hl, fun j u hj => (h.cell (hb b rfl) _).trans (hc j u hj)⟩
theorem row (h : Keep ex w w') {base : Nat} {e : TypeId} {sz n : Nat} {v : Value} {xs : List Value} (hr : w.ownsRow base e sz v n xs) (hb : ∀ b, v.ownBlock = some b → ex b) : w'.ownsRow base e sz v n xs := by
  obtain ⟨h1, h2⟩ := hr
  refine ⟨h1, ?_⟩
  rcases h2 with h2 | ⟨g, cap, cur, hv, hg, hh, r⟩
  · exact Or.inl h2
  · subst hv
    exact Or.inr ⟨g, cap, cur, rfl, hg, by rw [h.block g (hb g rfl)]; exact hh, r⟩
end Keep

/-- A disk in memory, apart from the blocks of ex. -/
def DiskAt (ex : Nat → Prop) (w : World) (p m : Nat) (d : ADisk) : Prop := ∃ g, DiskRep w p m g d ∧ ∀ k, ex k → k < w.heap.size ∧ ¬ dfp p m g k

namespace DiskAt
variable {ex ex' : Nat → Prop} {w w' : World} {p m : Nat} {d d' : ADisk}
theorem wf (h : DiskAt ex w p m d) : d.WF := let ⟨_, hr, _⟩ := h; hr.wf
theorem lt (h : DiskAt ex w p m d) {k : Nat} (hk : ex k) : k < w.heap.size := let ⟨_, _, hx⟩ := h; (hx k hk).1
theorem mono (h : DiskAt ex w p m d) (hm : ∀ k, ex' k → ex k) : DiskAt ex' w p m d := let ⟨g, hr, hx⟩ := h; ⟨g, hr, fun k hk => hx k (hm k hk)⟩
theorem below (h : DiskAt ex w p m d) (hb : Below w.heap.size w w') : DiskAt ex w' p m d := by
  obtain ⟨g, hr, hx⟩ := h
  exact ⟨g, hr.below hb, fun k hk => ⟨Nat.lt_of_lt_of_le (hx k hk).1 hb.size, (hx k hk).2⟩⟩
theorem alloc (h : DiskAt ex w p m d) (o : Obj) : DiskAt ex (w.alloc o) p m d := h.below ((Below.refl _ _).alloc (Nat.le_refl _) o)
theorem drew (h : DiskAt ex w p m d) : DiskAt ex w.drew p m d := h.below ((Below.refl _ _).drew)
/-- a block of the caller's is turned. -/
theorem setCell (h : DiskAt ex w p m d) {b : Nat} (hb : ex b) (o : Nat) (v : Value) : DiskAt ex (w.setCell ⟨b, o, none⟩ v) p m d := by
  obtain ⟨g, hr, hx⟩ := h
  refine ⟨g, hr.upd (setCell_upd o v) (fun k hk e => (hx b hb).2 (e ▸ hk)), fun k hk => ⟨?_, (hx k hk).2⟩⟩
  simpa [World.setCell] using (hx k hk).1
theorem upd {fp : Nat → Prop} (h : DiskAt ex w p m d) (hu : Upd fp w w') (hb : ∀ k, k < w.heap.size → fp k → ex k) : DiskAt ex w' p m d := by
  obtain ⟨g, hr, hx⟩ := h
  refine ⟨g, hr.upd hu (fun k hk e => (hx k (hb k (hr.lt hk) e)).2 hk), fun k hk => ⟨Nat.lt_of_lt_of_le (hx k hk).1 hu.size, (hx k hk).2⟩⟩
/-- one more block that the caller keeps: a new one. -/
theorem more (h : DiskAt ex w p m d) (hb : Below w.heap.size w w') (hx : ∀ k, ex' k → ex k ∨ w.heap.size ≤ k ∧ k < w'.heap.size) : DiskAt ex' w' p m d := by
  obtain ⟨g, hr, hx0⟩ := h
  refine ⟨g, hr.below hb, fun k hk => ?_⟩
  rcases hx k hk with hk | ⟨h1, h2⟩
  · exact ⟨Nat.lt_of_lt_of_le (hx0 k hk).1 hb.size, (hx0 k hk).2⟩
  · exact ⟨h2, fun hd => by have := hr.lt hd; omega⟩
theorem post {g : Value → Option Value} (_hr : DiskRep w p m g d) (hx : ∀ k, ex k → k < w.heap.size ∧ ¬ dfp p m g k) (hp : DiskPost w p m g d' w') : DiskAt ex w' p m d' ∧ Keep ex w w' := by
  obtain ⟨g', hr', hU, hfp⟩ := hp
  refine ⟨⟨g', hr', fun k hk => ⟨Nat.lt_of_lt_of_le (hx k hk).1 hU.size, fun hd => ?_⟩⟩, Keep.ofUpd hU hx⟩
  rcases hfp k hd with h1 | h1
  · exact (hx k hk).2 h1
  · have := (hx k hk).1; omega
end DiskAt

section
variable {ex : Nat → Prop} {w : World} {p m : Nat} {d : ADisk}

theorem Append_at (s : ByteArray) (vb : Value) (b : List UInt8) (h : DiskAt ex w p m d) (hs : s.size ≤ maxLen) (hrd : Rd w vb (bcells b)) (hnb : b.length ≤ 140737488355328) :
    Calls Tryz.prog 24 #[.pointer (some ⟨p, 0, none⟩), .string s, vb] w fun e w' => e = .returned (.int .i64 (d.appendErr s b)) ∧ DiskAt ex w' p m (d.append s b) ∧ Keep ex w w' := by
  obtain ⟨g, hr, hx⟩ := h
  exact (Append_any w p m g d s vb b hr hs hrd hnb).mono fun e w' he => ⟨he.1, DiskAt.post hr hx he.2⟩
theorem Sync_at (s : ByteArray) (h : DiskAt ex w p m d) (hs : s.size ≤ maxLen) :
    Calls Tryz.prog 53 #[.pointer (some ⟨p, 0, none⟩), .string s] w fun e w' => e = .returned (.int .i64 (d.syncErr s)) ∧ DiskAt ex w' p m (d.sync s) ∧ Keep ex w w' := by
  obtain ⟨g, hr, hx⟩ := h
  exact (Sync_any w p m g d s hr hs).mono fun e w' he => ⟨he.1, DiskAt.post hr hx he.2⟩
theorem Cut_at (s : ByteArray) (n : Int) (h : DiskAt ex w p m d) (hs : s.size ≤ maxLen) :
    Calls Tryz.prog 26 #[.pointer (some ⟨p, 0, none⟩), .string s, .int .i64 n] w fun e w' => e = .returned (.int .i64 (d.cutErr s n)) ∧ DiskAt ex w' p m (d.cut s n) ∧ Keep ex w w' := by
  obtain ⟨g, hr, hx⟩ := h
  exact (Cut_any w p m g d s n hr hs).mono fun e w' he => ⟨he.1, DiskAt.post hr hx he.2⟩
theorem Remove_at (s : ByteArray) (h : DiskAt ex w p m d) (hs : s.size ≤ maxLen) :
    Calls Tryz.prog 28 #[.pointer (some ⟨p, 0, none⟩), .string s] w fun e w' => e = .returned (.int .i64 (d.removeErr s)) ∧ DiskAt ex w' p m (d.remove s) ∧ Keep ex w w' := by
  obtain ⟨g, hr, hx⟩ := h
  exact (Remove_any w p m g d s hr hs).mono fun e w' he => ⟨he.1, DiskAt.post hr hx he.2⟩
theorem Rename_at (s t : ByteArray) (h : DiskAt ex w p m d) (hs : s.size ≤ maxLen) (ht : t.size ≤ maxLen) :
    Calls Tryz.prog 55 #[.pointer (some ⟨p, 0, none⟩), .string s, .string t] w fun e w' => e = .returned (.int .i64 (d.renameErr s t)) ∧ DiskAt ex w' p m (d.rename s t) ∧ Keep ex w w' := by
  obtain ⟨g, hr, hx⟩ := h
  exact (Rename_any w p m g d s t hr hs ht).mono fun e w' he => ⟨he.1, DiskAt.post hr hx he.2⟩
theorem Crash_at (vk : Value) (keeps : List Int) (h : DiskAt ex w p m d) (hrd : Rd w vk (iCells keeps)) (hkl : keeps.length ≤ 9223372036854775807) (hki : ∀ x ∈ keeps, isI64 x) (hk : ∀ k, vk.ownBlock = some k → ex k) :
    Calls Tryz.prog 22 #[.pointer (some ⟨p, 0, none⟩), vk] w fun e w' => e = .returned (.tuple #[]) ∧ DiskAt ex w' p m (d.crash keeps) ∧ Keep ex w w' := by
  obtain ⟨g, hr, hx⟩ := h
  exact (Crash_any w p m g d vk keeps hr hrd hkl hki (fun k hv => (hx k (hk k hv)).2)).mono fun e w' he => ⟨he.1, DiskAt.post hr hx he.2⟩
theorem Arm_at (n : Int) (h : DiskAt ex w p m d) (hn0 : -9223372036854775808 ≤ n) (hn1 : n ≤ 9223372036854775807) :
    Calls Tryz.prog 20 #[.pointer (some ⟨p, 0, none⟩), .int .i64 n] w fun e w' => e = .returned (.tuple #[]) ∧ DiskAt ex w' p m (d.arm n) ∧ Keep ex w w' := by
  obtain ⟨g, hr, hx⟩ := h
  exact (Arm_any w p m g d n hr hn0 hn1).mono fun e w' he => ⟨he.1, DiskAt.post hr hx ⟨g, he.2.1, he.2.2.1.mono (fun k hk => Or.inl (Or.inl hk)), fun k hk => Or.inl hk⟩⟩
theorem Down_at (h : DiskAt ex w p m d) :
    Calls Tryz.prog 75 #[.pointer (some ⟨p, 0, none⟩)] w fun e w' => e = .returned (.bool d.down) ∧ w = w' := by
  obtain ⟨g, hr, hx⟩ := h
  exact Down_any w p m g d hr
theorem Used_at (h : DiskAt ex w p m d) :
    Calls Tryz.prog 66 #[.pointer (some ⟨p, 0, none⟩)] w fun e w' => e = .returned (.int .i64 (usedF d.fs)) ∧ Below w.heap.size w w' := by
  obtain ⟨g, hr, hx⟩ := h
  exact Used_any w p m g d hr
theorem Size_at (s : ByteArray) (h : DiskAt ex w p m d) (hs : s.size ≤ maxLen) :
    Calls Tryz.prog 77 #[.pointer (some ⟨p, 0, none⟩), .string s] w fun e w' => e = .returned (.int .i64 (afile d s).len) ∧ Below w.heap.size w w' := by
  obtain ⟨g, hr, hx⟩ := h
  exact Size_any w p m g d s hr hs
theorem Synced_at (s : ByteArray) (h : DiskAt ex w p m d) (hs : s.size ≤ maxLen) :
    Calls Tryz.prog 76 #[.pointer (some ⟨p, 0, none⟩), .string s] w fun e w' => e = .returned (.int .i64 (afile d s).firm.length) ∧ Below w.heap.size w w' := by
  obtain ⟨g, hr, hx⟩ := h
  exact Synced_any w p m g d s hr hs
theorem List_at (h : DiskAt ex w p m d) :
    Calls Tryz.prog 34 #[.pointer (some ⟨p, 0, none⟩)] w fun e w' => ∃ a c, e = .returned (.slice a d.names.length c) ∧ w'.ownsRow w.heap.size 9 1 (.slice a d.names.length c) d.names.length (d.names.map Value.string) ∧ (a = none ↔ d.names = []) ∧ Below w.heap.size w w' := by
  obtain ⟨g, hr, hx⟩ := h
  exact List_any w p m g d hr
theorem Read_at (s : ByteArray) (h : DiskAt ex w p m d) (hs : s.size ≤ maxLen) :
    Calls Tryz.prog 59 #[.pointer (some ⟨p, 0, none⟩), .string s] w fun e w' => ∃ a c, e = .returned (.tuple #[.slice a (d.readBytes s).length c, .int .i64 (findErr d s)]) ∧ w'.ownsRow w.heap.size 5 1 (.slice a (d.readBytes s).length c) (d.readBytes s).length (bcells (d.readBytes s)) ∧ Below w.heap.size w w' := by
  obtain ⟨g, hr, hx⟩ := h
  exact Read_any w p m g d s hr hs
theorem New_at (n : Int) (hn : 0 ≤ n) (hn1 : n ≤ 16777216) (hx : ∀ k, ex k → k < w.heap.size) :
    Calls Tryz.prog 14 #[.int .i64 n] w fun e w' => e = .returned (.tuple #[.pointer (some ⟨w.heap.size + 1, 0, none⟩), .int .i64 0]) ∧ DiskAt ex w' (w.heap.size + 1) w.heap.size ⟨n, -1, false, []⟩ ∧ Keep ex w w' := by
  refine (New_good w n hn hn1).mono fun e w' he => ⟨he.1, ⟨_, he.2.1, fun k hk => ⟨?_, fun hd => ?_⟩⟩, Keep.ofBelow he.2.2 hx⟩
  · have := hx k hk; have := he.2.2.size; omega
  · have := hx k hk
    rcases hd with hd | hd | ⟨_, _, hd, _⟩
    · omega
    · omega
    · cases hd
end

/-- what 'file' tells. -/
def fileIs (d : ADisk) (s want : ByteArray) (firm : Int) : Bool :=
  decide (findErr d s = 0) && decide ((afile d s).firm ++ (afile d s).loose = want.data.toList) && decide (((afile d s).firm.length : Int) = firm)

/-- bytes that have just been laid. -/
theorem Rd_new (w : World) (cs : Array Value) (T : TypeId) (fr : Nat × Nat) (xs : List Value) (n c : Nat) (hx : cs.toList.take xs.length = xs) (hn : n = xs.length) : Rd (w.alloc (.cells cs T fr)) (.slice (some ⟨w.heap.size, 0, none⟩) n c) xs := by
  refine Or.inr ⟨w.heap.size, 0, n, c, rfl, hn, fun j u hj => ?_⟩
  rw [cell_at (alloc_at w _)]
  have hjl := (List.getElem?_eq_some_iff.1 hj).1
  rw [← hx, List.getElem?_take, if_pos (by rw [hx] at *; exact hjl)] at hj
  simpa using hj
end Go.Proofs.YtnagejhpdhdpfaaGreatDoor
