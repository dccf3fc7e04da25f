/-
  Sorting by insertion, plain: what the inner and the outer loop keep. No program here.
-/
import Derived.Test.YtbiadclmonakkaaGreatDoorMWal18
namespace Go.Proofs.YtbiadclmonakkaaGreatDoor

/-- not behind. -/
def leS (a b : ByteArray) : Prop := ltS b a = false
theorem leS_of_lt {a b : ByteArray} (h : ltS a b = true) : leS a b := by
  unfold leS
  cases hx : ltS b a with
  | false => rfl
  | true => have := ltS_trans h hx; rw [ltS_irrefl] at this; cases this
theorem ltS_of_not {a b : ByteArray} (h : ¬ leS a b) : ltS b a = true := by
  unfold leS at h
  cases hx : ltS b a with
  | false => exact absurd hx h
  | true => rfl
theorem eq_of_not_lt {a b : ByteArray} (h1 : ltS a b = false) (h2 : ltS b a = false) : a = b := by
  simp only [ltS, decide_eq_false_iff_not] at h1 h2
  have h := List.le_antisymm (List.not_lt.1 h2) (List.not_lt.1 h1)
  cases a; cases b
  simp only at h
  rw [Array.toList_inj] at h
  rw [h]
theorem leS_trans {a b c : ByteArray} (h1 : leS a b) (h2 : leS b c) : leS a c := by
  unfold leS at *
  cases hx : ltS c a with
  | false => rfl
  | true =>
    cases hy : ltS a b with
    | true => have := ltS_trans hx hy; rw [this] at h2; cases h2
    | false => have := eq_of_not_lt hy h1; rw [this, h2] at hx; cases hx
def Srt (l : List ByteArray) : Prop := l.Pairwise leS
/-- the outer loop. -/
def OutI (l xs : List ByteArray) (i : Nat) : Prop := xs.Perm l ∧ ∃ P C, xs = P ++ C ∧ P.length = i ∧ Srt P
/-- the inner loop. -/
def InsI (l xs : List ByteArray) (i k : Nat) : Prop := xs.Perm l ∧ ∃ A v B C, xs = A ++ v :: (B ++ C) ∧ A.length = k ∧ A.length + B.length = i ∧ Srt (A ++ B) ∧ ∀ b ∈ B, leS v b
theorem out1 {l : List ByteArray} (h : l ≠ []) : OutI l l 1 := by
  refine ⟨List.Perm.refl _, ?_⟩
  cases l with
  | nil => exact absurd rfl h
  | cons x r => exact ⟨[x], r, rfl, rfl, List.pairwise_singleton _ _⟩
theorem out_ins {l xs : List ByteArray} {i : Nat} (h : OutI l xs i) (hi : i < xs.length) : InsI l xs i i := by
  obtain ⟨hp, P, C, e, hl, hs⟩ := h
  refine ⟨hp, ?_⟩
  cases C with
  | nil => rw [e, List.append_nil] at hi; omega
  | cons v C => exact ⟨P, v, [], C, e, hl, by simpa using hl, by simpa using hs, fun b hb => absurd hb (by simp)⟩
theorem out_end {l xs : List ByteArray} {i : Nat} (h : OutI l xs i) (hi : ¬ i < xs.length) : xs.Perm l ∧ Srt xs := by
  obtain ⟨hp, P, C, e, hl, hs⟩ := h
  refine ⟨hp, ?_⟩
  have : C = [] := by
    rw [e, List.length_append] at hi
    exact List.eq_nil_of_length_eq_zero (by omega)
  rw [e, this, List.append_nil]
  exact hs
theorem ins_lt {l xs : List ByteArray} {i k : Nat} (h : InsI l xs i k) : k ≤ i ∧ i < xs.length := by
  obtain ⟨_, A, v, B, C, e, h1, h2, _⟩ := h
  rw [e]
  simp only [List.length_append, List.length_cons]
  omega
theorem srt_mid {A B : List ByteArray} {v : ByteArray} (hs : Srt (A ++ B)) (hA : ∀ a ∈ A, leS a v) (hB : ∀ b ∈ B, leS v b) : Srt (A ++ v :: B) := by
  unfold Srt at *
  rw [List.pairwise_append] at hs ⊢
  refine ⟨hs.1, List.pairwise_cons.2 ⟨hB, hs.2.1⟩, fun a ha b hb => ?_⟩
  rcases List.mem_cons.1 hb with rfl | hb
  · exact hA a ha
  · exact hs.2.2 a ha b hb
theorem ins_stop {l xs : List ByteArray} {i k : Nat} (h : InsI l xs i k) (hk : ∀ x y, 0 < k → xs[k - 1]? = some x → xs[k]? = some y → leS x y) : OutI l xs (i + 1) := by
  obtain ⟨hp, A, v, B, C, e, h1, h2, h3, h4⟩ := h
  refine ⟨hp, A ++ v :: B, C, by rw [e]; simp, by simp only [List.length_append, List.length_cons]; omega, srt_mid h3 (fun a ha => ?_) h4⟩
  rcases List.eq_nil_or_concat A with rfl | ⟨A', u, rfl⟩
  · cases ha
  · rw [List.concat_eq_append] at *
    have hlen : A'.length + 1 = k := by simpa using h1
    have hx : xs[k - 1]? = some u := by
      rw [e, ← hlen]; simp
    have hy : xs[k]? = some v := by
      rw [e, ← hlen, List.getElem?_append_right (by simp)]; simp
    have huv := hk u v (by omega) hx hy
    rcases List.mem_append.1 ha with ha | ha
    · unfold Srt at h3
      rw [List.append_assoc, List.pairwise_append] at h3
      exact leS_trans (h3.2.2 a ha u (by simp)) huv
    · rw [List.mem_singleton] at ha
      rw [ha]; exact huv
theorem ins_step {l xs : List ByteArray} {i k : Nat} (h : InsI l xs i (k + 1)) {x y : ByteArray} (hx : xs[k]? = some x) (hy : xs[k + 1]? = some y) (hlt : ltS y x = true) : InsI l ((xs.set k y).set (k + 1) x) i k := by
  obtain ⟨hp, A, v, B, C, e, h1, h2, h3, h4⟩ := h
  rcases List.eq_nil_or_concat A with rfl | ⟨A', u, rfl⟩
  · simp at h1
  · rw [List.concat_eq_append] at *
    have hlen : A'.length = k := by simpa using h1
    subst hlen
    have e2 : xs = A' ++ u :: v :: (B ++ C) := by rw [e]; simp
    have hxu : u = x := by
      have : xs[A'.length]? = some u := by rw [e2]; simp
      rw [hx] at this; exact (Option.some.inj this).symm
    have hyv : v = y := by
      have : xs[A'.length + 1]? = some v := by rw [e2, List.getElem?_append_right (by omega)]; simp
      rw [hy] at this; exact (Option.some.inj this).symm
    subst hxu hyv
    have e3 : (xs.set A'.length v).set (A'.length + 1) u = A' ++ v :: u :: (B ++ C) := by
      rw [e2, List.set_append, if_neg (by omega), Nat.sub_self, List.set_cons_zero, List.set_append, if_neg (by omega), Nat.add_sub_cancel_left]
      rfl
    refine ⟨?_, A', v, u :: B, C, ?_, rfl, ?_, ?_, ?_⟩
    · rw [e3]
      refine List.Perm.trans ?_ hp
      rw [e2]
      exact List.Perm.append_left _ (List.Perm.swap _ _ _)
    · rw [e3]; rfl
    · simp only [List.length_cons, List.length_append, List.length_nil] at h2 ⊢; omega
    · rw [List.append_assoc] at h3; exact h3
    · intro b hb
      rcases List.mem_cons.1 hb with rfl | hb
      · exact leS_of_lt hlt
      · exact h4 b hb
theorem set2_at {xs : List ByteArray} {k : Nat} {x y : ByteArray} (j : Nat) : ((xs.set k y).set (k + 1) x)[j]? = if j < xs.length then (if j = k + 1 then some x else if j = k then some y else xs[j]?) else none := by
  by_cases hj : j < xs.length
  · rw [if_pos hj]
    by_cases h1 : j = k + 1
    · subst h1; rw [if_pos rfl, List.getElem?_set_self (by simpa using hj)]
    · rw [if_neg h1, List.getElem?_set_ne (Ne.symm h1)]
      by_cases h2 : j = k
      · subst h2; rw [if_pos rfl, List.getElem?_set_self hj]
      · rw [if_neg h2, List.getElem?_set_ne (Ne.symm h2)]
  · rw [if_neg hj]
    exact List.getElem?_eq_none (by simpa using hj)
/-- two sorted rows with the same elements are one. -/
theorem srt_eq {a b : List ByteArray} (ha : Srt a) (hb : Srt b) (hp : a.Perm b) : a = b := by
  induction a generalizing b with
  | nil => exact (List.nil_perm.1 hp).symm
  | cons x a ih =>
    cases b with
    | nil => exact absurd (List.perm_nil.1 hp) (by simp)
    | cons y b =>
      obtain ⟨h1, h2⟩ := List.pairwise_cons.1 ha
      obtain ⟨h3, h4⟩ := List.pairwise_cons.1 hb
      have hxy : x = y := by
        have hx : x ∈ y :: b := hp.subset (by simp)
        have hy : y ∈ x :: a := hp.symm.subset (by simp)
        rcases List.mem_cons.1 hx with e | hx
        · exact e
        · rcases List.mem_cons.1 hy with e | hy
          · exact e.symm
          · exact eq_of_not_lt (h3 x hx) (h1 y hy)
      subst hxy
      rw [ih h2 h4 ((List.perm_cons x).1 hp)]
end Go.Proofs.YtbiadclmonakkaaGreatDoor
