/-
  The plain law of DiskCalled.
-/
import Derived.Outline
import Derived.Test.YtlljlkeknklplaaRoomW
namespace Go.Proofs.Ytlljlkeknklplaa
open Go.RowKit Go.Maps Go.MapKept

def cnames : ByteArray := ⟨#[97, 98, 99, 100, 101, 102]⟩
def nm (i : Nat) : ByteArray := cnames.extract i (i + 1)
theorem nm_ok : ∀ i, i < 6 → okName (nm i) = true ∧ (nm i).size = 1 := by decide +kernel
theorem nm_inj : ∀ i, i < 6 → ∀ j, j < 6 → nm i = nm j → i = j := by decide +kernel
def byts (k : Nat) : List UInt8 := [UInt8.ofNat k, UInt8.ofNat (10 * k), 7]
def fileK (f : Nat → Nat) (k : Nat) : AFile := ⟨(byts k).take (f k), (byts k).drop (f k)⟩
theorem fileK_len (f : Nat → Nat) (k : Nat) : (fileK f k).len = 3 := by
  simp only [fileK, AFile.len, ← List.length_append, List.take_append_drop]
  rfl

/-- the disk whose files are those that A names. -/
structure CSt (f : Nat → Nat) (d : ADisk) (A : ByteArray → Option Nat) (n : Nat) : Prop where
  calm : Calm d
  most : d.most = 100
  files : ∀ s, lk d.fs s = (A s).map (fileK f)
  len : d.fs.length = n
  dom : ∀ s k, A s = some k → k < 6 ∧ ∃ j, j < 6 ∧ s = nm j

theorem Calm.putAll {d : ADisk} (h : Calm d) (s : ByteArray) (x : AFile) (hs : SortedF d.fs) : Calm (d.put s x) ∧ (d.put s x).most = d.most ∧ SortedF (d.put s x).fs ∧ (∀ t, lk (d.put s x).fs t = if t = s then some x else lk d.fs t) ∧ (d.put s x).fs.length = (if (lk d.fs s).isSome then d.fs.length else d.fs.length + 1) ∧ usedF (d.put s x).fs + ((lk d.fs s).map AFile.len).getD 0 = usedF d.fs + x.len := by
  obtain ⟨h1, h2, h3, _⟩ := h.put s x
  refine ⟨h1, h2, by rw [h3]; exact sorted_putF hs s x, fun t => by rw [h3, lk_putF], by rw [h3, length_putF hs], by rw [h3]; exact used_putF hs s x⟩
theorem Calm.err0 {d : ADisk} (h : Calm d) : d.err = 0 := by
  have h0 : d.left ≠ 0 := by rw [h.left]; decide
  unfold ADisk.err; rw [if_neg h0]
theorem Calm.appends {d : ADisk} (h : Calm d) (s : ByteArray) (b : List UInt8) (hn : okName s = true) (hu : (usedF d.fs : Int) + b.length ≤ d.most) (hl : d.fs.length < 200) : d.appendErr s b = 0 ∧ d.append s b = d.put s ⟨(afile d s).firm, (afile d s).loose ++ b⟩ := by
  have hd := h.down
  unfold ADisk.appendErr ADisk.append
  simp only [hd, if_false, Bool.false_eq_true, h.err0]
  have g1 : ¬ d.most < (usedF d.fs : Int) + b.length := by omega
  have g2 : ¬ ((lk d.fs s).isNone = true ∧ 200 ≤ d.fs.length) := by omega
  simp only [hn, if_neg g1, if_neg g2]
  exact ⟨rfl, rfl⟩
theorem Calm.syncs {d : ADisk} (h : Calm d) (s : ByteArray) (x : AFile) (hl : lk d.fs s = some x) : d.syncErr s = 0 ∧ d.sync s = d.put s ⟨x.firm ++ x.loose, []⟩ := by
  have hd := h.down
  unfold ADisk.syncErr ADisk.sync ADisk.cutTo
  have haf : afile d s = x := by unfold afile; rw [hl]; rfl
  simp only [hd, if_false, Bool.false_eq_true, h.err0, hl, haf, Option.isNone_some]
  exact ⟨trivial, by rw [List.take_of_length_le (by simp [AFile.len])]⟩

def setA : Nat → ByteArray → Option Nat
  | 0 => fun _ => none
  | i + 1 => fun t => if t = nm i then some i else setA i t
theorem setA_dom (i : Nat) (hi : i ≤ 6) (s : ByteArray) (k : Nat) (h : setA i s = some k) : k < i ∧ s = nm k := by
  induction i with
  | zero => cases h
  | succ i ih =>
    unfold setA at h
    split at h
    · cases h; exact ⟨by omega, ‹_›⟩
    · obtain ⟨a, b⟩ := ih (by omega) h; exact ⟨by omega, b⟩
theorem setA_new (i : Nat) (hi : i < 6) : setA i (nm i) = none := by
  cases h : setA i (nm i) with
  | none => rfl
  | some k => obtain ⟨a, b⟩ := setA_dom i (by omega) _ _ h; have := nm_inj i hi k (by omega) b; omega

theorem called_step {f : Nat → Nat} {d : ADisk} {i : Nat} (h : CSt f d (setA i) i) (hs : SortedF d.fs) (hu : usedF d.fs ≤ 3 * i) (hi : i < 6) (b1 b2 : List UInt8) (hb1 : b1 = (byts i).take (f i)) (hb2 : b2 = (byts i).drop (f i)) :
    d.appendErr (nm i) b1 = 0 ∧ (d.append (nm i) b1).syncErr (nm i) = 0 ∧ ((d.append (nm i) b1).sync (nm i)).appendErr (nm i) b2 = 0 ∧
      CSt f (((d.append (nm i) b1).sync (nm i)).append (nm i) b2) (setA (i + 1)) (i + 1) ∧ usedF (((d.append (nm i) b1).sync (nm i)).append (nm i) b2).fs ≤ 3 * (i + 1) := by
  have hn := (nm_ok i hi).1
  have hl0 : lk d.fs (nm i) = none := by rw [h.files, setA_new i hi]; rfl
  have haf : afile d (nm i) = ⟨[], []⟩ := by unfold afile; rw [hl0]; rfl
  have hm := h.most
  have hlen := h.len
  have hb : b1.length + b2.length = 3 := by rw [hb1, hb2, ← List.length_append, List.take_append_drop]; rfl
  obtain ⟨e1, p1⟩ := h.calm.appends (nm i) b1 hn (by omega) (by omega)
  rw [haf, List.nil_append] at p1
  obtain ⟨c1, m1, s1, l1, n1, u1⟩ := h.calm.putAll (nm i) ⟨[], b1⟩ hs
  rw [← p1] at c1 m1 s1 l1 n1 u1
  generalize d.append (nm i) b1 = d1 at *
  have hl1 : lk d1.fs (nm i) = some ⟨[], b1⟩ := by rw [l1, if_pos rfl]
  obtain ⟨e2, p2⟩ := c1.syncs (nm i) _ hl1
  obtain ⟨c2, m2, s2, l2, n2, u2⟩ := c1.putAll (nm i) ⟨([] : List UInt8) ++ b1, []⟩ s1
  rw [← p2] at c2 m2 s2 l2 n2 u2
  generalize d1.sync (nm i) = d2 at *
  have hl2 : lk d2.fs (nm i) = some ⟨b1, []⟩ := by rw [l2, if_pos rfl]; rfl
  have haf2 : afile d2 (nm i) = ⟨b1, []⟩ := by unfold afile; rw [hl2]; rfl
  rw [hl0] at n1 u1
  rw [hl1] at n2 u2
  simp only [Option.map_none, Option.getD_none, Option.map_some, Option.getD_some, AFile.len, List.length_nil, Option.isSome_none, Option.isSome_some, if_true, if_false, Bool.false_eq_true, List.nil_append] at n1 u1 n2 u2
  obtain ⟨e3, p3⟩ := c2.appends (nm i) b2 hn (by omega) (by omega)
  rw [haf2, List.nil_append] at p3
  obtain ⟨c3, m3, s3, l3, n3, u3⟩ := c2.putAll (nm i) ⟨b1, b2⟩ s2
  rw [← p3] at c3 m3 s3 l3 n3 u3
  generalize d2.append (nm i) b2 = d3 at *
  rw [hl2] at n3 u3
  simp only [Option.map_some, Option.getD_some, AFile.len, List.length_nil, Option.isSome_some, if_true] at n3 u3
  refine ⟨e1, e2, e3, ⟨c3, by omega, fun s => ?_, by omega, fun s k hk => ?_⟩, by omega⟩
  · rw [l3, l2, l1]
    unfold setA
    by_cases e : s = nm i
    · simp only [if_pos e, Option.map_some, fileK, hb1, hb2]
    · simp only [if_neg e]; exact h.files s
  · obtain ⟨a, b⟩ := setA_dom (i + 1) (by omega) s k hk
    exact ⟨by omega, k, by omega, b⟩

/-- the names behind a renaming. -/
def renA (A : ByteArray → Option Nat) (s t : ByteArray) (k : Nat) : ByteArray → Option Nat := fun x => if x = t then some k else if x = s then none else A x
theorem called_none {f : Nat → Nat} {d : ADisk} {A : ByteArray → Option Nat} {n : Nat} (h : CSt f d A n) (s t : ByteArray) (hA : A s = none) : d.renameErr s t = 13 ∧ d.rename s t = d := by
  have hd := h.calm.down
  have hl : (lk d.fs s).isNone = true := by rw [h.files, hA]; rfl
  unfold ADisk.renameErr ADisk.rename
  simp [hd, hl]
theorem called_some {f : Nat → Nat} {d : ADisk} {A : ByteArray → Option Nat} {n : Nat} (h : CSt f d A n) (hs : SortedF d.fs) (s : ByteArray) (c : Nat) (hc : c < 6) (k : Nat) (hA : A s = some k) :
    d.renameErr s (nm c) = 0 ∧ CSt f (d.rename s (nm c)) (renA A s (nm c) k) (if ((if nm c = s then none else A (nm c)) : Option Nat).isSome then n - 1 else n - 1 + 1) := by
  have hd := h.calm.down
  have h0 : d.left ≠ 0 := by rw [h.calm.left]; decide
  have hok := (nm_ok c hc).1
  have hl : lk d.fs s = some (fileK f k) := by rw [h.files, hA]; rfl
  have haf : afile d s = fileK f k := by unfold afile; rw [hl]; rfl
  have e1 : d.renameErr s (nm c) = 0 := by
    unfold ADisk.renameErr
    simp [hd, hl, hok, h.calm.err0]
  have e2 : d.rename s (nm c) = { d.tick with fs := putF (delF d.fs s) (nm c) (fileK f k) } := by
    unfold ADisk.rename
    simp [hd, hl, hok, haf, h0]
  refine ⟨e1, ?_⟩
  rw [e2]
  have hsd := sorted_delF hs s
  refine ⟨⟨by simp [ADisk.tick, h.calm.left]; omega, rfl⟩, h.most, fun x => ?_, ?_, fun x j hj => ?_⟩
  · show lk (putF (delF d.fs s) (nm c) (fileK f k)) x = _
    rw [lk_putF, lk_delF]
    unfold renA
    split
    · rfl
    · split
      · rfl
      · exact h.files x
  · show (putF (delF d.fs s) (nm c) (fileK f k)).length = _
    rw [length_putF hsd, length_delF hs, lk_delF, hl, h.len]
    have hi : ((if nm c = s then none else lk d.fs (nm c)) : Option AFile).isSome = ((if nm c = s then none else A (nm c)) : Option Nat).isSome := by
      split
      · rfl
      · rw [h.files]; cases A (nm c) <;> rfl
    rw [hi]
    rfl
  · unfold renA at hj
    split at hj
    · cases hj; exact ⟨(h.dom s k hA).1, c, hc, ‹_›⟩
    · split at hj
      · cases hj
      · exact h.dom x j hj
theorem called_file {f : Nat → Nat} {d : ADisk} {A : ByteArray → Option Nat} {n : Nat} (h : CSt f d A n) (hf : ∀ k, f k ≤ 3) (s : ByteArray) (k : Nat) (hA : A s = some k) : fileIs d s ⟨(byts k).toArray⟩ (f k) = true := by
  have hd := h.calm.down
  have hl : lk d.fs s = some (fileK f k) := by rw [h.files, hA]; rfl
  have haf : afile d s = fileK f k := by unfold afile; rw [hl]; rfl
  have hfe : findErr d s = 0 := by unfold findErr; simp [hd, hl]
  have hlen : (byts k).length = 3 := rfl
  have := hf k
  simp [fileIs, hfe, haf, fileK, List.take_append_drop, hlen]
  omega
/-- the map of a table of names. -/
def gA (A : ByteArray → Option Nat) (key : Value) : Option Value := match key with
  | .string s => (A s).map (fun k => .int .i64 (k : Nat))
  | _ => none
theorem gA_put (A : ByteArray → Option Nat) (s : ByteArray) (k : Nat) (p : Value → Prop) [∀ x, Decidable (p x)] (hp : ∀ x, p x ↔ x = .string s) : (fun x => if p x then some (Value.int .i64 (k : Nat)) else gA A x) = gA (fun t => if t = s then some k else A t) := by
  funext x
  by_cases e : x = .string s
  · subst e; simp [hp, gA]
  · have h1 : ¬ p x := fun h => e ((hp x).1 h)
    rw [if_neg h1]
    cases x <;> simp only [gA]
    rename_i t
    rw [if_neg (fun h => e (by rw [h]))]
theorem gA_del (A : ByteArray → Option Nat) (s : ByteArray) (p : Value → Prop) [∀ x, Decidable (p x)] (hp : ∀ x, p x ↔ x = .string s) : (fun x => if p x then none else gA A x) = gA (fun t => if t = s then none else A t) := by
  funext x
  by_cases e : x = .string s
  · subst e; simp [hp, gA]
  · have h1 : ¬ p x := fun h => e ((hp x).1 h)
    rw [if_neg h1]
    cases x <;> simp only [gA]
    rename_i t
    rw [if_neg (fun h => e (by rw [h]))]
theorem gA_some {A : ByteArray → Option Nat} {key v : Value} (h : gA A key = some v) : ∃ s k, key = .string s ∧ v = .int .i64 (k : Nat) ∧ A s = some k := by
  cases key <;> simp only [gA] at h <;> try cases h
  rename_i s
  cases hA : A s with
  | none => rw [hA] at h; cases h
  | some k => rw [hA] at h; cases h; exact ⟨s, k, rfl, rfl, hA⟩
end Go.Proofs.Ytlljlkeknklplaa
