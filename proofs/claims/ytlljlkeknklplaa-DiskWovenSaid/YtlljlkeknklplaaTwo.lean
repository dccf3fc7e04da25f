/-
  Two disks in memory, apart from one another; the plain law of a power that fails.
-/
import Derived.Outline
import Derived.Test.YtlljlkeknklplaaTaken
import Derived.Test.YtlljlkeknklplaaRoomW
namespace Go.Proofs.Ytlljlkeknklplaa
open Go.RowKit Go.Maps Go.MapKept

theorem Keep.upd {ex : Nat → Prop} {w w' : World} (h : Keep ex w w') : Upd (fun k => ¬ ex k) w w' :=
  ⟨h.os, h.tape, h.output, h.size, fun k _ hk => h.block k (Classical.not_not.1 hk)⟩

/-- two disks, apart from the blocks of ex, and from one another. -/
def TwoAt (ex : Nat → Prop) (w : World) (pa ma : Nat) (da : ADisk) (pb mb : Nat) (db : ADisk) : Prop :=
  ∃ ga gb, DiskRep w pa ma ga da ∧ DiskRep w pb mb gb db ∧ (∀ k, ex k → k < w.heap.size ∧ ¬ dfp pa ma ga k ∧ ¬ dfp pb mb gb k) ∧ ∀ k, dfp pa ma ga k → ¬ dfp pb mb gb k

namespace TwoAt
variable {ex ex' : Nat → Prop} {w w' : World} {pa ma pb mb : Nat} {da db : ADisk}
theorem swap (h : TwoAt ex w pa ma da pb mb db) : TwoAt ex w pb mb db pa ma da := by
  obtain ⟨ga, gb, ra, rb, hx, hd⟩ := h
  exact ⟨gb, ga, rb, ra, fun k hk => ⟨(hx k hk).1, (hx k hk).2.2, (hx k hk).2.1⟩, fun k hb ha => hd k ha hb⟩
theorem lt (h : TwoAt ex w pa ma da pb mb db) {k : Nat} (hk : ex k) : k < w.heap.size := let ⟨_, _, _, _, hx, _⟩ := h; (hx k hk).1
theorem mono (h : TwoAt ex w pa ma da pb mb db) (hm : ∀ k, ex' k → ex k) : TwoAt ex' w pa ma da pb mb db :=
  let ⟨ga, gb, ra, rb, hx, hd⟩ := h; ⟨ga, gb, ra, rb, fun k hk => hx k (hm k hk), hd⟩
theorem more (h : TwoAt ex w pa ma da pb mb db) (hb : Below w.heap.size w w') (hx : ∀ k, ex' k → ex k ∨ w.heap.size ≤ k ∧ k < w'.heap.size) : TwoAt ex' w' pa ma da pb mb db := by
  obtain ⟨ga, gb, ra, rb, hx0, hd⟩ := h
  refine ⟨ga, gb, ra.below hb, rb.below hb, fun k hk => ?_, hd⟩
  rcases hx k hk with hk | ⟨h1, h2⟩
  · exact ⟨Nat.lt_of_lt_of_le (hx0 k hk).1 hb.size, (hx0 k hk).2⟩
  · exact ⟨h2, fun hd => by have := ra.lt hd; omega, fun hd => by have := rb.lt hd; omega⟩
theorem below (h : TwoAt ex w pa ma da pb mb db) (hb : Below w.heap.size w w') : TwoAt ex w' pa ma da pb mb db := h.more hb fun _ hk => Or.inl hk
theorem left (h : TwoAt ex w pa ma da pb mb db) : ∃ exa : Nat → Prop, (∀ k, ex k → exa k) ∧ DiskAt exa w pa ma da ∧ ∀ w' da', DiskAt exa w' pa ma da' → Keep exa w w' → TwoAt ex w' pa ma da' pb mb db := by
  obtain ⟨ga, gb, ra, rb, hx, hd⟩ := h
  refine ⟨fun k => ex k ∨ dfp pb mb gb k, fun k hk => Or.inl hk, ⟨ga, ra, fun k hk => ?_⟩, fun w' da' h' hk => ?_⟩
  · rcases hk with hk | hk
    · exact ⟨(hx k hk).1, (hx k hk).2.1⟩
    · exact ⟨rb.lt hk, fun ha => hd k ha hk⟩
  · obtain ⟨ga', ra', hx'⟩ := h'
    refine ⟨ga', gb, ra', rb.upd hk.upd (fun k h1 h2 => h2 (Or.inr h1)), fun k h1 => ⟨(hx' k (Or.inl h1)).1, (hx' k (Or.inl h1)).2, (hx k h1).2.2⟩, fun k h1 h2 => (hx' k (Or.inr h2)).2 h1⟩
theorem right (h : TwoAt ex w pa ma da pb mb db) : ∃ exb : Nat → Prop, (∀ k, ex k → exb k) ∧ DiskAt exb w pb mb db ∧ ∀ w' db', DiskAt exb w' pb mb db' → Keep exb w w' → TwoAt ex w' pa ma da pb mb db' := by
  obtain ⟨exb, h1, h2, h3⟩ := h.swap.left
  exact ⟨exb, h1, h2, fun w' db' h k => (h3 w' db' h k).swap⟩
theorem ofOne (h : DiskAt ex w pa ma da) : ∃ ex1 : Nat → Prop, (∀ k, ex k → ex1 k) ∧ (∀ k, ex1 k → k < w.heap.size) ∧ ∀ w' pb mb db, DiskAt ex1 w' pb mb db → Keep ex1 w w' → TwoAt ex w' pa ma da pb mb db := by
  obtain ⟨ga, ra, hx⟩ := h
  refine ⟨fun k => ex k ∨ dfp pa ma ga k, fun k hk => Or.inl hk, fun k hk => ?_, fun w' pb mb db h' hk => ?_⟩
  · rcases hk with hk | hk
    · exact (hx k hk).1
    · exact ra.lt hk
  · obtain ⟨gb, rb, hx'⟩ := h'
    exact ⟨ga, gb, ra.upd hk.upd (fun k h1 h2 => h2 (Or.inr h1)), rb, fun k h1 => ⟨(hx' k (Or.inl h1)).1, (hx k h1).2, (hx' k (Or.inl h1)).2⟩, fun k h1 => (hx' k (Or.inr h1)).2⟩
end TwoAt

theorem shot_lens (d : ADisk) : d.shot.names.length = d.fs.length ∧ d.shot.bytes.length = d.fs.length ∧ d.shot.firm.length = d.fs.length := by simp [ADisk.shot, ADisk.names]

/-- the same disk, bound to fail. -/
def ADisk.bound (d : ADisk) (n : Int) : ADisk := { d with left := n }
theorem bound_shot (d : ADisk) (n : Int) : (d.bound n).shot = d.shot := rfl

theorem does_calm {d : ADisk} (h : Calm d) (c : ACall) (n : Int) (hn : 0 ≤ n) :
    (d.doesErr c ≠ 0 ∧ d.does c = d ∧ (d.bound n).doesErr c = d.doesErr c ∧ (d.bound n).does c = d.bound n) ∨
    (d.doesErr c = 0 ∧ 0 < n ∧ (d.bound n).doesErr c = 0 ∧ (d.bound n).does c = (d.does c).bound (n - 1)) ∨
    (d.doesErr c = 0 ∧ n = 0 ∧ (d.bound n).doesErr c = 15 ∧ (d.bound n).does c = (d.bound n).fail) := by
  have h0 : d.left ≠ 0 := by rw [h.left]; decide
  have hd := h.down
  have hd' : (d.bound n).down = false := hd
  have he : d.err = 0 := by unfold ADisk.err; rw [if_neg h0]
  have hfs : (d.bound n).fs = d.fs := rfl
  have hms : (d.bound n).most = d.most := rfl
  have haf : ∀ s, afile (d.bound n) s = afile d s := fun _ => rfl
  have hstep : ∀ (X : List (ByteArray × AFile)), 
    (0 < n ∧ (d.bound n).err = 0 ∧ (if (d.bound n).left = 0 then (d.bound n).fail else { (d.bound n).tick with fs := X }) = ADisk.bound { d.tick with fs := X } (n - 1)) ∨
    (n = 0 ∧ (d.bound n).err = 15 ∧ (if (d.bound n).left = 0 then (d.bound n).fail else { (d.bound n).tick with fs := X }) = (d.bound n).fail) := by
    intro X
    by_cases hz : n = 0
    · refine Or.inr ⟨hz, ?_, ?_⟩
      · unfold ADisk.err; rw [if_pos (by exact hz)]
      · rw [if_pos (by exact hz)]
    · refine Or.inl ⟨by omega, ?_, ?_⟩
      · unfold ADisk.err; rw [if_neg (by exact hz)]
      · rw [if_neg (by exact hz)]
        have : max ((d.bound n).left - 1) (-1) = n - 1 := by show max (n - 1) (-1) = n - 1; omega
        simp [ADisk.tick, ADisk.bound]
        omega
  have hput : ∀ s f, (0 < n ∧ (d.bound n).err = 0 ∧ (d.bound n).put s f = (d.put s f).bound (n - 1)) ∨ (n = 0 ∧ (d.bound n).err = 15 ∧ (d.bound n).put s f = (d.bound n).fail) := by
    intro s f
    have := hstep (putF d.fs s f)
    unfold ADisk.put
    rw [if_neg h0]
    exact this
  have fin : ∀ {x y : Int} {D E : ADisk}, x = 0 → ((0 < n ∧ y = 0 ∧ E = D.bound (n - 1)) ∨ (n = 0 ∧ y = 15 ∧ E = (d.bound n).fail)) → ((x ≠ 0 ∧ D = d ∧ y = x ∧ E = d.bound n) ∨ (x = 0 ∧ 0 < n ∧ y = 0 ∧ E = D.bound (n - 1)) ∨ (x = 0 ∧ n = 0 ∧ y = 15 ∧ E = (d.bound n).fail)) := by
    intro x y D E hx hy
    rcases hy with ⟨h1, h2, h3⟩ | ⟨h1, h2, h3⟩
    · exact Or.inr (Or.inl ⟨hx, h1, h2, h3⟩)
    · exact Or.inr (Or.inr ⟨hx, h1, h2, h3⟩)
  have bad : ∀ {x y : Int} {D E : ADisk}, x ≠ 0 → y = x → D = d → E = d.bound n → ((x ≠ 0 ∧ D = d ∧ y = x ∧ E = d.bound n) ∨ (x = 0 ∧ 0 < n ∧ y = 0 ∧ E = D.bound (n - 1)) ∨ (x = 0 ∧ n = 0 ∧ y = 15 ∧ E = (d.bound n).fail)) := fun h1 h2 h3 h4 => Or.inl ⟨h1, h3, h2, h4⟩
  have happ : (d.appendErr c.name c.b ≠ 0 ∧ d.append c.name c.b = d ∧ (d.bound n).appendErr c.name c.b = d.appendErr c.name c.b ∧ (d.bound n).append c.name c.b = d.bound n) ∨ (d.appendErr c.name c.b = 0 ∧ 0 < n ∧ (d.bound n).appendErr c.name c.b = 0 ∧ (d.bound n).append c.name c.b = (d.append c.name c.b).bound (n - 1)) ∨
    (d.appendErr c.name c.b = 0 ∧ n = 0 ∧ (d.bound n).appendErr c.name c.b = 15 ∧ (d.bound n).append c.name c.b = (d.bound n).fail) := by
    unfold ADisk.appendErr ADisk.append
    simp only [hd, hd', hfs, hms, haf, if_false, Bool.false_eq_true, he]
    split
    · exact bad (by decide) rfl rfl rfl
    · split
      · exact bad (by decide) rfl rfl rfl
      · split
        · exact bad (by decide) rfl rfl rfl
        · exact fin rfl (hput _ _)
  unfold ADisk.doesErr ADisk.does
  split
  · exact happ
  split
  · exact happ
  split
  · unfold ADisk.syncErr ADisk.sync ADisk.cutTo
    simp only [hd, hd', hfs, haf, if_false, Bool.false_eq_true, he]
    split
    · exact bad (by decide) rfl rfl rfl
    · exact fin rfl (hput _ _)
  split
  · unfold ADisk.renameErr ADisk.rename
    simp only [hd, hd', hfs, haf, if_false, Bool.false_eq_true, he]
    split
    · exact bad (by decide) rfl rfl rfl
    · split
      · exact bad (by decide) rfl rfl rfl
      · exact fin rfl (hstep _)
  split
  · unfold ADisk.removeErr ADisk.remove
    simp only [hd, hd', hfs, if_false, Bool.false_eq_true, he]
    split
    · exact bad (by decide) rfl rfl rfl
    · exact fin rfl (hstep _)
  split
  · unfold ADisk.cutErr ADisk.cut ADisk.cutTo
    simp only [hd, hd', hfs, haf, if_false, Bool.false_eq_true, he]
    split
    · exact bad (by decide) rfl rfl rfl
    · split
      · exact bad (by decide) rfl rfl rfl
      · exact fin rfl (hput _ _)
  · exact bad (by decide) rfl rfl rfl

theorem does_down {d : ADisk} (h : d.down = true) (c : ACall) : d.does c = d ∧ (0 ≤ c.what → c.what ≤ 5 → d.doesErr c = 15) := by
  have e1 : ∀ s b, d.append s b = d := fun s b => by unfold ADisk.append; simp [h]
  have e2 : ∀ s, d.sync s = d := fun s => by unfold ADisk.sync; simp [h]
  have e3 : ∀ s t, d.rename s t = d := fun s t => by unfold ADisk.rename; simp [h]
  have e4 : ∀ s, d.remove s = d := fun s => by unfold ADisk.remove; simp [h]
  have e5 : ∀ s n, d.cut s n = d := fun s n => by unfold ADisk.cut; simp [h]
  have f1 : ∀ s b, d.appendErr s b = 15 := fun s b => by unfold ADisk.appendErr; simp [h]
  have f2 : ∀ s, d.syncErr s = 15 := fun s => by unfold ADisk.syncErr; simp [h]
  have f3 : ∀ s t, d.renameErr s t = 15 := fun s t => by unfold ADisk.renameErr; simp [h]
  have f4 : ∀ s, d.removeErr s = 15 := fun s => by unfold ADisk.removeErr; simp [h]
  have f5 : ∀ s n, d.cutErr s n = 15 := fun s n => by unfold ADisk.cutErr; simp [h]
  constructor
  · unfold ADisk.does
    rw [e1, e2, e3, e4, e5]
    repeat' split
    all_goals rfl
  · intro h0 h1
    unfold ADisk.doesErr
    rw [f1, f2, f3, f4, f5]
    repeat' split
    all_goals first | rfl | omega

/-- what a shot says of its k-th file, when the disk is up. -/
theorem shot_file {d : ADisk} (h : d.down = false) (k : Nat) (hk : k < d.names.length) (hb : k < d.shot.bytes.length) (hf : k < d.shot.firm.length) : d.shot.bytes[k].size = (afile d d.names[k]).len ∧ d.shot.firm[k] = ((afile d d.names[k]).firm.length : Int) := by
  have hm : d.names[k] ∈ d.names := List.getElem_mem _
  have h1 : d.shot.bytes[k] = ⟨(d.readBytes d.names[k]).toArray⟩ := by simp [ADisk.shot]
  have hne : (lk d.fs d.names[k]).isNone = false := by
    cases hl : lk d.fs d.names[k] with
    | some _ => rfl
    | none =>
      exfalso
      obtain ⟨q, hq, he⟩ := List.mem_map.1 hm
      exact lk_none_not hl q hq he
  refine ⟨?_, by simp [ADisk.shot]⟩
  rw [h1]
  have hr : d.readBytes d.names[k] = (afile d d.names[k]).firm ++ (afile d d.names[k]).loose := by
    unfold ADisk.readBytes findErr
    rw [h, hne]
    rfl
  rw [hr]
  simp [ByteArray.size, AFile.len]
end Go.Proofs.Ytlljlkeknklplaa
