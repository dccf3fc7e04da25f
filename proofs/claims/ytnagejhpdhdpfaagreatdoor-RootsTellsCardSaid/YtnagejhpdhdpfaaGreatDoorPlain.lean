/-
  A disk as plain data: files by rising names. No program here.
-/
import Std.Tactic
namespace Go.Proofs.YtnagejhpdhdpfaaGreatDoor

structure AFile where
  firm : List UInt8
  loose : List UInt8

def AFile.len (f : AFile) : Nat := f.firm.length + f.loose.length

/-- Go's '<' on strings. -/
def ltS (a b : ByteArray) : Bool := decide (a.data.toList < b.data.toList)

structure ADisk where
  most : Int
  left : Int
  down : Bool
  fs : List (ByteArray × AFile)

def lk (fs : List (ByteArray × AFile)) (s : ByteArray) : Option AFile := (fs.find? (fun p => decide (p.1 = s))).map (·.2)
def putF : List (ByteArray × AFile) → ByteArray → AFile → List (ByteArray × AFile)
  | [], s, f => [(s, f)]
  | p :: r, s, f => if p.1 = s then (s, f) :: r else if ltS s p.1 then (s, f) :: p :: r else p :: putF r s f
def delF (fs : List (ByteArray × AFile)) (s : ByteArray) : List (ByteArray × AFile) := fs.filter (fun p => !decide (p.1 = s))
def usedF (fs : List (ByteArray × AFile)) : Nat := (fs.map (·.2.len)).sum

def okLetter (c : UInt8) : Bool := (97 ≤ c && c ≤ 122) || (48 ≤ c && c ≤ 57) || c == 46 || c == 45
def okName (s : ByteArray) : Bool := s.data.toList.all okLetter && decide (0 < s.size) && decide (s.size ≤ 40)

structure ADisk.WF (d : ADisk) : Prop where
  sorted : d.fs.Pairwise (fun p q => ltS p.1 q.1 = true)
  names : ∀ p ∈ d.fs, okName p.1 = true
  used : (usedF d.fs : Int) ≤ d.most
  most0 : 0 ≤ d.most
  most1 : d.most ≤ 16777216
  left0 : -1 ≤ d.left
  left1 : d.left ≤ 9223372036854775807
  count : d.fs.length ≤ 200


theorem ltS_irrefl (a : ByteArray) : ltS a a = false := by simp [ltS, List.lt_irrefl]
theorem ltS_trans {a b c : ByteArray} (h1 : ltS a b = true) (h2 : ltS b c = true) : ltS a c = true := by
  simp only [ltS, decide_eq_true_eq] at *
  exact List.lt_trans h1 h2
theorem bytes_ext {a b : ByteArray} (h : a.data.toList = b.data.toList) : a = b := by
  cases a; cases b
  simpa using h
theorem ltS_total (a b : ByteArray) : ltS a b = true ∨ a = b ∨ ltS b a = true := by
  simp only [ltS, decide_eq_true_eq]
  by_cases h : a.data.toList < b.data.toList
  · exact Or.inl h
  · by_cases h2 : b.data.toList < a.data.toList
    · exact Or.inr (Or.inr h2)
    · exact Or.inr (Or.inl (bytes_ext (List.le_antisymm (List.not_lt.1 h2) (List.not_lt.1 h))))
theorem ltS_ne {a b : ByteArray} (h : ltS a b = true) : a ≠ b := fun e => by rw [e, ltS_irrefl] at h; cases h

theorem lk_nil (s : ByteArray) : lk [] s = none := rfl
theorem lk_cons (p : ByteArray × AFile) (r : List (ByteArray × AFile)) (s : ByteArray) : lk (p :: r) s = if p.1 = s then some p.2 else lk r s := by
  unfold lk
  by_cases h : p.1 = s <;> simp [h]
theorem lk_some_mem {fs : List (ByteArray × AFile)} {s : ByteArray} {f : AFile} (h : lk fs s = some f) : (s, f) ∈ fs := by
  induction fs with
  | nil => cases h
  | cons p r ih =>
    rw [lk_cons] at h
    split at h
    · rename_i e; cases h; subst e; exact List.mem_cons_self
    · exact List.mem_cons_of_mem _ (ih h)
theorem lk_none_not {fs : List (ByteArray × AFile)} {s : ByteArray} (h : lk fs s = none) : ∀ p ∈ fs, p.1 ≠ s := by
  induction fs with
  | nil => intro p hp; cases hp
  | cons q r ih =>
    rw [lk_cons] at h
    split at h
    · cases h
    · rename_i hne
      intro p hp
      rcases List.mem_cons.1 hp with rfl | hp
      · exact hne
      · exact ih h p hp
def SortedF (fs : List (ByteArray × AFile)) : Prop := fs.Pairwise (fun p q => ltS p.1 q.1 = true)
theorem mem_lk {fs : List (ByteArray × AFile)} (hs : SortedF fs) {s : ByteArray} {f : AFile} (h : (s, f) ∈ fs) : lk fs s = some f := by
  induction fs with
  | nil => cases h
  | cons p r ih =>
    obtain ⟨h1, h2⟩ := List.pairwise_cons.1 hs
    rw [lk_cons]
    rcases List.mem_cons.1 h with rfl | h
    · simp
    · have := ltS_ne (h1 _ h)
      rw [if_neg this]
      exact ih h2 h
theorem lk_putF (fs : List (ByteArray × AFile)) (s : ByteArray) (f : AFile) (t : ByteArray) : lk (putF fs s f) t = if t = s then some f else lk fs t := by
  induction fs with
  | nil => simp only [putF, lk_cons, lk_nil]; by_cases h : t = s <;> simp [h, Ne.symm]
  | cons p r ih =>
    simp only [putF]
    split
    · rename_i h
      simp only [lk_cons]
      by_cases ht : t = s
      · simp [ht]
      · rw [if_neg (fun e => ht e.symm), if_neg ht, if_neg (fun e => ht (by rw [← e, h]))]
    · split
      · simp only [lk_cons]
        by_cases ht : t = s
        · simp [ht]
        · rw [if_neg (fun e => ht e.symm), if_neg ht]
      · rename_i h _
        simp only [lk_cons, ih]
        by_cases ht : t = s
        · subst ht; simp [h]
        · simp [ht]
theorem lk_delF (fs : List (ByteArray × AFile)) (s t : ByteArray) : lk (delF fs s) t = if t = s then none else lk fs t := by
  induction fs with
  | nil => simp [delF, lk]
  | cons p r ih =>
    unfold delF at *
    by_cases hp : p.1 = s
    · rw [List.filter_cons_of_neg (by simp [hp]), ih, lk_cons]
      by_cases ht : t = s
      · simp [ht]
      · rw [if_neg ht, if_neg ht, if_neg (fun e => ht (by rw [← e, hp]))]
    · rw [List.filter_cons_of_pos (by simpa using hp), lk_cons, lk_cons, ih]
      by_cases ht : t = s
      · subst ht; simp [hp]
      · simp [ht]
theorem mem_putF {fs : List (ByteArray × AFile)} {s : ByteArray} {f : AFile} {p : ByteArray × AFile} (h : p ∈ putF fs s f) : p = (s, f) ∨ p ∈ fs := by
  induction fs with
  | nil => simp [putF] at h; exact Or.inl h
  | cons q r ih =>
    simp only [putF] at h
    split at h
    · rcases List.mem_cons.1 h with h | h
      · exact Or.inl h
      · exact Or.inr (List.mem_cons_of_mem _ h)
    · split at h
      · rcases List.mem_cons.1 h with h | h
        · exact Or.inl h
        · exact Or.inr h
      · rcases List.mem_cons.1 h with h | h
        · exact Or.inr (h ▸ List.mem_cons_self)
        · rcases ih h with h | h
          · exact Or.inl h
          · exact Or.inr (List.mem_cons_of_mem _ h)
theorem sorted_putF {fs : List (ByteArray × AFile)} (hs : SortedF fs) (s : ByteArray) (f : AFile) : SortedF (putF fs s f) := by
  induction fs with
  | nil => simp [putF, SortedF]
  | cons q r ih =>
    obtain ⟨h1, h2⟩ := List.pairwise_cons.1 hs
    simp only [putF]
    split
    · rename_i h
      exact List.pairwise_cons.2 ⟨fun p hp => by show ltS s p.1 = true; rw [← h]; exact h1 p hp, h2⟩
    · rename_i hne
      split
      · rename_i hlt
        refine List.pairwise_cons.2 ⟨fun p hp => ?_, hs⟩
        rcases List.mem_cons.1 hp with rfl | hp
        · exact hlt
        · exact ltS_trans hlt (h1 p hp)
      · rename_i hlt
        refine List.pairwise_cons.2 ⟨fun p hp => ?_, ih h2⟩
        rcases mem_putF hp with rfl | hp
        · rcases ltS_total q.1 s with h | h | h
          · exact h
          · exact absurd h hne
          · exact absurd h hlt
        · exact h1 p hp
theorem sorted_delF {fs : List (ByteArray × AFile)} (hs : SortedF fs) (s : ByteArray) : SortedF (delF fs s) := List.Pairwise.filter _ hs
theorem length_putF {fs : List (ByteArray × AFile)} (hs : SortedF fs) (s : ByteArray) (f : AFile) : (putF fs s f).length = if (lk fs s).isSome then fs.length else fs.length + 1 := by
  induction fs with
  | nil => simp [putF, lk]
  | cons q r ih =>
    obtain ⟨h1, h2⟩ := List.pairwise_cons.1 hs
    simp only [putF, lk_cons]
    split
    · simp
    · rename_i hne
      split
      · rename_i hlt
        have : lk r s = none := by
          cases hl : lk r s with
          | none => rfl
          | some f' => have := ltS_trans hlt (h1 _ (lk_some_mem hl)); rw [ltS_irrefl] at this; cases this
        simp [this]
      · simp only [List.length_cons, ih h2]
        split <;> rfl
theorem used_putF {fs : List (ByteArray × AFile)} (hs : SortedF fs) (s : ByteArray) (f : AFile) : usedF (putF fs s f) + ((lk fs s).map AFile.len).getD 0 = usedF fs + f.len := by
  induction fs with
  | nil => simp [putF, lk, usedF]
  | cons q r ih =>
    obtain ⟨h1, h2⟩ := List.pairwise_cons.1 hs
    simp only [putF, lk_cons]
    split
    · simp [usedF]; omega
    · rename_i hne
      split
      · rename_i hlt
        have : lk r s = none := by
          cases hl : lk r s with
          | none => rfl
          | some f' => have := ltS_trans hlt (h1 _ (lk_some_mem hl)); rw [ltS_irrefl] at this; cases this
        simp [this, usedF]; omega
      · have := ih h2
        simp only [usedF, List.map_cons, List.sum_cons] at this ⊢
        omega
theorem length_delF {fs : List (ByteArray × AFile)} (hs : SortedF fs) (s : ByteArray) : (delF fs s).length = if (lk fs s).isSome then fs.length - 1 else fs.length := by
  induction fs with
  | nil => simp [delF, lk]
  | cons q r ih =>
    obtain ⟨h1, h2⟩ := List.pairwise_cons.1 hs
    unfold delF at *
    rw [lk_cons]
    by_cases hq : q.1 = s
    · rw [List.filter_cons_of_neg (by simp [hq])]
      have : r.filter (fun p => !decide (p.1 = s)) = r := List.filter_eq_self.2 fun p hp => by
        have := ltS_ne (h1 p hp)
        simpa using fun e => this (by rw [hq, e])
      rw [this]
      simp [hq]
    · rw [List.filter_cons_of_pos (by simpa using hq), if_neg hq, List.length_cons, ih h2]
      cases hl : lk r s with
      | none => simp
      | some f =>
        have := List.length_pos_of_mem (lk_some_mem hl)
        simp; omega
theorem used_delF {fs : List (ByteArray × AFile)} (hs : SortedF fs) (s : ByteArray) : usedF (delF fs s) + ((lk fs s).map AFile.len).getD 0 = usedF fs := by
  induction fs with
  | nil => simp [delF, lk, usedF]
  | cons q r ih =>
    obtain ⟨h1, h2⟩ := List.pairwise_cons.1 hs
    unfold delF at *
    rw [lk_cons]
    by_cases hq : q.1 = s
    · rw [List.filter_cons_of_neg (by simp [hq])]
      have : r.filter (fun p => !decide (p.1 = s)) = r := List.filter_eq_self.2 fun p hp => by
        have := ltS_ne (h1 p hp)
        simpa using fun e => this (by rw [hq, e])
      rw [this]
      simp [hq, usedF]; omega
    · rw [List.filter_cons_of_pos (by simpa using hq), if_neg hq]
      have := ih h2
      simp only [usedF, List.map_cons, List.sum_cons] at this ⊢
      omega
theorem lk_len_le {fs : List (ByteArray × AFile)} {s : ByteArray} {f : AFile} (h : lk fs s = some f) : f.len ≤ usedF fs := by
  induction fs with
  | nil => cases h
  | cons q r ih =>
    rw [lk_cons] at h
    simp only [usedF, List.map_cons, List.sum_cons] at ih ⊢
    split at h
    · cases h; omega
    · have := ih h; omega
end Go.Proofs.YtnagejhpdhdpfaaGreatDoor
