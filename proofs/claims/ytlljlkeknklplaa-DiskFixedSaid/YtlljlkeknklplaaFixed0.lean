/-
  Two hundred files: the plain law of DiskFixed's loops.
-/
import Derived.Test.YtlljlkeknklplaaDisk4
namespace Go.Proofs.Ytlljlkeknklplaa
open Go.RowKit Go.Maps Go.MapKept

def nmL (i : Nat) : List UInt8 := List.replicate (1 + i % 40) 45 ++ List.replicate (i / 40) 120
def nm (i : Nat) : ByteArray := ⟨(nmL i).toArray⟩
def mmL (i : Nat) : List UInt8 := 48 :: List.replicate i 57
def mm (i : Nat) : ByteArray := ⟨(mmL i).toArray⟩
theorem nm_data (i : Nat) : (nm i).data.toList = nmL i := by simp [nm]
theorem mm_data (i : Nat) : (mm i).data.toList = mmL i := by simp [mm]
theorem nm_size (i : Nat) : (nm i).size = 1 + i % 40 + i / 40 := by
  show (nm i).data.size = _
  rw [← Array.length_toList, nm_data]; simp [nmL]
theorem mm_size (i : Nat) : (mm i).size = 1 + i := by
  show (mm i).data.size = _
  rw [← Array.length_toList, mm_data]; simp [mmL]; omega
theorem nm_inj {i j : Nat} (h : nm i = nm j) : i = j := by
  have hl : nmL i = nmL j := by rw [← nm_data, ← nm_data, h]
  have h1 := congrArg (List.count 45) hl
  have h2 := congrArg (List.count 120) hl
  simp [nmL, List.count_append, List.count_replicate] at h1 h2
  omega
theorem mm_inj {i j : Nat} (h : mm i = mm j) : i = j := by
  have := congrArg ByteArray.size h
  rw [mm_size, mm_size] at this
  omega
theorem nm_mm {i j : Nat} : nm i ≠ mm j := fun h => by
  have hl : nmL i = mmL j := by rw [← nm_data, ← mm_data, h]
  have h1 := congrArg List.head? hl
  rw [show nmL i = 45 :: (List.replicate (i % 40) 45 ++ List.replicate (i / 40) 120) by unfold nmL; rw [Nat.add_comm, List.replicate_succ]; rfl] at h1
  simp [mmL] at h1
theorem nm_ok (i : Nat) : okName (nm i) = decide (i % 40 + i / 40 < 40) := by
  unfold okName
  rw [nm_data, nm_size]
  have h1 : (nmL i).all okLetter = true := by
    rw [List.all_eq_true]
    intro x hx
    simp only [nmL, List.mem_append, List.mem_replicate] at hx
    rcases hx with ⟨_, rfl⟩ | ⟨_, rfl⟩ <;> rfl
  rw [h1, Bool.true_and, decide_eq_true (by omega), Bool.true_and]
  exact decide_eq_decide.2 (by omega)
theorem mm_ok (i : Nat) (h : i < 40) : okName (mm i) = true := by
  unfold okName
  rw [mm_data, mm_size]
  have h1 : (mmL i).all okLetter = true := by
    rw [List.all_eq_true]
    intro x hx
    simp only [mmL, List.mem_cons, List.mem_replicate] at hx
    rcases hx with rfl | ⟨_, rfl⟩ <;> rfl
  rw [h1, Bool.true_and, decide_eq_true (by omega), Bool.true_and]
  exact decide_eq_true (by omega)

/-- an empty disk of no room, of which some files were made. -/
structure Bare (d : ADisk) (n : Nat) : Prop where
  most : d.most = 0
  left : d.left = -1
  down : d.down = false
  sorted : SortedF d.fs
  empty : ∀ p ∈ d.fs, p.2.len = 0
  len : d.fs.length = n
theorem Bare.used {d : ADisk} {n : Nat} (h : Bare d n) : usedF d.fs = 0 := by
  have := h.empty
  generalize d.fs = l at this
  induction l with
  | nil => rfl
  | cons p r ih =>
    have h1 := this p (by simp)
    have h2 := ih (fun q hq => this q (List.mem_cons_of_mem _ hq))
    simp only [usedF, List.map_cons, List.sum_cons] at h2 ⊢
    omega
theorem Bare.none {d : ADisk} {n : Nat} (h : Bare d n) (s : ByteArray) (hs : okName s = false) : d.append s [] = d ∧ d.appendErr s [] = 13 := by
  unfold ADisk.append ADisk.appendErr
  rw [h.down, hs]
  exact ⟨rfl, rfl⟩
theorem Bare.more {d : ADisk} {n : Nat} (h : Bare d n) (s : ByteArray) (hs : okName s = true) (hl : lk d.fs s = Option.none) (hn : n < 200) : Bare (d.append s []) (n + 1) ∧ d.appendErr s [] = 0 ∧ ∀ p ∈ (d.append s []).fs, p.1 = s ∨ p ∈ d.fs := by
  have hu := h.used
  have hln := h.len
  have h1 : d.append s [] = { d.tick with fs := putF d.fs s ⟨[], []⟩ } := by
    unfold ADisk.append ADisk.put
    rw [h.down, hs, if_neg (by simp), if_neg (by simp), if_neg (by rw [h.most, hu]; simp), if_neg (by omega), if_neg (by rw [h.left]; omega)]
    unfold afile
    rw [hl]
    rfl
  have h2 : d.appendErr s [] = 0 := by
    unfold ADisk.appendErr ADisk.err
    rw [h.down, hs, if_neg (by simp), if_neg (by simp), if_neg (by rw [h.most, hu]; simp), if_neg (by omega), if_neg (by rw [h.left]; omega)]
  rw [h1, h2]
  refine ⟨⟨h.most, by show max (d.left - 1) (-1) = -1; rw [h.left]; rfl, rfl, sorted_putF h.sorted _ _, fun p hp => ?_, ?_⟩, rfl, fun p hp => ?_⟩
  · rcases mem_putF hp with rfl | hp
    · rfl
    · exact h.empty p hp
  · show (putF d.fs s ⟨[], []⟩).length = n + 1
    rw [length_putF h.sorted, hl, h.len]
    rfl
  · rcases mem_putF hp with rfl | hp
    · exact Or.inl rfl
    · exact Or.inr hp

def fxn (i : Nat) : Nat := ((List.range i).filter (fun j => decide (j % 40 + j / 40 < 40))).length
theorem fxn_succ (i : Nat) : fxn (i + 1) = fxn i + if i % 40 + i / 40 < 40 then 1 else 0 := by
  unfold fxn
  rw [List.range_succ, List.filter_append, List.length_append]
  congr 1
  by_cases h : i % 40 + i / 40 < 40 <;> simp [h]
theorem fxn_le (i : Nat) : fxn i ≤ i := by unfold fxn; exact Nat.le_trans (List.length_filter_le _ _) (by simp)
theorem fxn_200 : fxn 200 = 190 := by decide +kernel
/-- the disk behind the first i of the first loop. -/
def fxD : Nat → ADisk
  | 0 => ⟨0, -1, false, []⟩
  | i + 1 => (fxD i).append (nm i) []
theorem fx_bare (i : Nat) (hi : i ≤ 200) : Bare (fxD i) (fxn i) ∧ ∀ p ∈ (fxD i).fs, ∃ j, j < i ∧ p.1 = nm j := by
  induction i with
  | zero => exact ⟨⟨rfl, rfl, rfl, List.Pairwise.nil, fun p hp => (by cases hp), rfl⟩, fun p hp => (by cases hp)⟩
  | succ i ih =>
    obtain ⟨h1, h2⟩ := ih (by omega)
    have hle := fxn_le i
    rw [fxn_succ]
    by_cases hok : i % 40 + i / 40 < 40
    · have hl : lk (fxD i).fs (nm i) = none := by
        cases hl : lk (fxD i).fs (nm i) with
        | none => rfl
        | some f =>
          obtain ⟨j, hj, he⟩ := h2 _ (lk_some_mem hl)
          have := nm_inj he
          omega
      obtain ⟨g1, _, g3⟩ := h1.more (nm i) (by rw [nm_ok, decide_eq_true hok]) hl (by omega)
      rw [if_pos hok]
      refine ⟨g1, fun p hp => ?_⟩
      rcases g3 p hp with e | hp
      · exact ⟨i, by omega, e⟩
      · obtain ⟨j, hj, he⟩ := h2 p hp
        exact ⟨j, by omega, he⟩
    · obtain ⟨g1, _⟩ := h1.none (nm i) (by rw [nm_ok, decide_eq_false hok])
      rw [if_neg hok]
      show Bare ((fxD i).append (nm i) []) _ ∧ ∀ p ∈ ((fxD i).append (nm i) []).fs, _
      rw [g1]
      exact ⟨h1, fun p hp => by obtain ⟨j, hj, he⟩ := h2 p hp; exact ⟨j, by omega, he⟩⟩
theorem fx_err (i : Nat) (hi : i < 200) : (fxD i).appendErr (nm i) [] = if i % 40 + i / 40 < 40 then 0 else 13 := by
  obtain ⟨h1, h2⟩ := fx_bare i (by omega)
  have hle := fxn_le i
  by_cases hok : i % 40 + i / 40 < 40
  · have hl : lk (fxD i).fs (nm i) = none := by
      cases hl : lk (fxD i).fs (nm i) with
      | none => rfl
      | some f =>
        obtain ⟨j, hj, he⟩ := h2 _ (lk_some_mem hl)
        have := nm_inj he
        omega
    rw [if_pos hok]
    exact (h1.more (nm i) (by rw [nm_ok, decide_eq_true hok]) hl (by omega)).2.1
  · rw [if_neg hok]
    exact (h1.none (nm i) (by rw [nm_ok, decide_eq_false hok])).2
/-- .. and behind the first i of the second. -/
def fyD : Nat → ADisk
  | 0 => fxD 200
  | i + 1 => (fyD i).append (mm i) []
theorem fy_bare (i : Nat) (hi : i ≤ 10) : Bare (fyD i) (190 + i) ∧ (∀ p ∈ (fyD i).fs, (∃ j, p.1 = nm j) ∨ ∃ j, j < i ∧ p.1 = mm j) ∧ (i < 10 → (fyD i).appendErr (mm i) [] = 0) := by
  have key : ∀ i, i < 10 → Bare (fyD i) (190 + i) → (∀ p ∈ (fyD i).fs, (∃ j, p.1 = nm j) ∨ ∃ j, j < i ∧ p.1 = mm j) → Bare (fyD (i + 1)) (190 + i + 1) ∧ (fyD i).appendErr (mm i) [] = 0 ∧ ∀ p ∈ (fyD (i + 1)).fs, p.1 = mm i ∨ p ∈ (fyD i).fs := by
    intro i hi h1 h2
    have hl : lk (fyD i).fs (mm i) = none := by
      cases hl : lk (fyD i).fs (mm i) with
      | none => rfl
      | some f =>
        rcases h2 _ (lk_some_mem hl) with ⟨j, he⟩ | ⟨j, hj, he⟩
        · exact absurd he.symm nm_mm
        · have := mm_inj he
          omega
    exact h1.more (mm i) (mm_ok i (by omega)) hl (by omega)
  have all : ∀ i, i ≤ 10 → Bare (fyD i) (190 + i) ∧ (∀ p ∈ (fyD i).fs, (∃ j, p.1 = nm j) ∨ ∃ j, j < i ∧ p.1 = mm j) := by
    intro i
    induction i with
    | zero =>
      intro _
      obtain ⟨h1, h2⟩ := fx_bare 200 (by omega)
      rw [fxn_200] at h1
      exact ⟨h1, fun p hp => by obtain ⟨j, _, he⟩ := h2 p hp; exact Or.inl ⟨j, he⟩⟩
    | succ i ih =>
      intro hi
      obtain ⟨h1, h2⟩ := ih (by omega)
      obtain ⟨g1, _, g3⟩ := key i (by omega) h1 h2
      refine ⟨g1, fun p hp => ?_⟩
      rcases g3 p hp with e | hp
      · exact Or.inr ⟨i, by omega, e⟩
      · rcases h2 p hp with ⟨j, he⟩ | ⟨j, hj, he⟩
        · exact Or.inl ⟨j, he⟩
        · exact Or.inr ⟨j, by omega, he⟩
  obtain ⟨h1, h2⟩ := all i hi
  exact ⟨h1, h2, fun hlt => (key i hlt h1 h2).2.1⟩
theorem lk_append_some {d : ADisk} {s t : ByteArray} {b : List UInt8} (h : (lk d.fs t).isSome = true) : (lk (d.append s b).fs t).isSome = true := by
  unfold ADisk.append ADisk.put
  split
  · exact h
  · split
    · exact h
    · split
      · exact h
      · split
        · exact h
        · split
          · exact h
          · show (lk (putF d.fs s _) t).isSome = true
            rw [lk_putF]
            split
            · rfl
            · exact h
theorem fx_has (i : Nat) (hi : 1 ≤ i) : (lk (fxD i).fs (nm 0)).isSome = true := by
  induction i with
  | zero => omega
  | succ i ih =>
    by_cases h0 : i = 0
    · subst h0
      decide +kernel
    · exact lk_append_some (ih (by omega))
theorem fy_has (i : Nat) : (lk (fyD i).fs (nm 0)).isSome = true := by
  induction i with
  | zero => exact fx_has 200 (by omega)
  | succ i ih => exact lk_append_some ih
/-- what the chapter asks of two hundred files. -/
theorem fy_end : (fyD 10).appendErr ⟨#[113]⟩ [] = 5 ∧ (fyD 10).append ⟨#[113]⟩ [] = fyD 10 ∧ (fyD 10).appendErr ⟨#[45]⟩ [113] = 5 ∧ (fyD 10).append ⟨#[45]⟩ [113] = fyD 10 ∧ (fyD 10).appendErr ⟨#[45]⟩ [] = 0 ∧ ((fyD 10).append ⟨#[45]⟩ []).fs.length = 200 := by
  obtain ⟨h, hn, _⟩ := fy_bare 10 (by omega)
  have hu := h.used
  have h0 : (lk (fyD 10).fs ⟨#[45]⟩).isSome = true := fy_has 10
  have hq : lk (fyD 10).fs ⟨#[113]⟩ = none := by
    cases hl : lk (fyD 10).fs ⟨#[113]⟩ with
    | none => rfl
    | some f =>
      rcases hn _ (lk_some_mem hl) with ⟨j, he⟩ | ⟨j, hj, he⟩
      · have := congrArg (fun x : ByteArray => x.data.toList.head?) he
        simp only [nm_data] at this
        rw [show nmL j = 45 :: (List.replicate (j % 40) 45 ++ List.replicate (j / 40) 120) by unfold nmL; rw [Nat.add_comm, List.replicate_succ]; rfl] at this
        simp at this
      · have := congrArg (fun x : ByteArray => x.data.toList.head?) he
        simp only [mm_data] at this
        simp [mmL] at this
  have o1 : okName ⟨#[113]⟩ = true := by decide +kernel
  have o2 : okName ⟨#[45]⟩ = true := by decide +kernel
  have hlen := h.len
  have hm := h.most
  have hd := h.down
  have hl := h.left
  obtain ⟨f, hf⟩ := Option.isSome_iff_exists.1 h0
  have hsort := h.sorted
  obtain ⟨D, hD⟩ : ∃ D, fyD 10 = D := ⟨_, rfl⟩
  rw [hD] at hf hq hu hlen hm hd hl hsort ⊢
  clear h hn h0 hD
  refine ⟨?_, ?_, ?_, ?_, ?_, ?_⟩
  · unfold ADisk.appendErr
    rw [hd, o1, hq, if_neg (by simp), if_neg (by simp), if_neg (by rw [hm, hu]; simp), if_pos ⟨rfl, by omega⟩]
  · unfold ADisk.append
    rw [hd, o1, hq, if_neg (by simp), if_neg (by simp), if_neg (by rw [hm, hu]; simp), if_pos ⟨rfl, by omega⟩]
  · unfold ADisk.appendErr
    rw [hd, o2, if_neg (by simp), if_neg (by simp), if_pos (by rw [hm, hu]; simp)]
  · unfold ADisk.append
    rw [hd, o2, if_neg (by simp), if_neg (by simp), if_pos (by rw [hm, hu]; simp)]
  · unfold ADisk.appendErr ADisk.err
    rw [hd, o2, hf, if_neg (by simp), if_neg (by simp), if_neg (by rw [hm, hu]; simp), if_neg (by simp), if_neg (by rw [hl]; omega)]
  · unfold ADisk.append ADisk.put
    rw [hd, o2, hf, if_neg (by simp), if_neg (by simp), if_neg (by rw [hm, hu]; simp), if_neg (by simp), if_neg (by rw [hl]; omega)]
    show (putF D.fs ⟨#[45]⟩ _).length = 200
    rw [length_putF hsort, hf]
    simp only [Option.isSome_some, if_true]
    omega
end Go.Proofs.Ytlljlkeknklplaa
