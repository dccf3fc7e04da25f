/-
  WalLess, plain: the last file cut, and opened. No program here.
-/
import Derived.Test.YtbiadclmonakkaaGreatDoorMWlA
namespace Go.Proofs.YtbiadclmonakkaaGreatDoor

theorem numbered_take (n : Nat) (R : List (List UInt8)) (j : Nat) : numbered n (R.take j) = (numbered n R).take j := by
  induction R generalizing n j with
  | nil => simp [numbered]
  | cons b R ih =>
    cases j with
    | zero => rfl
    | succ j => simp only [List.take_succ_cons, numbered, ih]
theorem numbered_len4 (n : Nat) (R : List (List UInt8)) : (numbered n R).length = R.length := by
  induction R generalizing n with
  | nil => rfl
  | cons b R ih => simp [numbered, ih]
/-- how many records are told of the first k bytes of the last file. -/
def cutJ (x : Seg) (k : Nat) : Nat := if k < (hd4 x.1).length then 0 else fitN x.1 x.2 (k - (hd4 x.1).length)
def cutN (pre : List Seg) (x : Seg) (k : Nat) : Nat := (allRecs pre).length + cutJ x k
theorem cutJ_le (x : Seg) (k : Nat) : cutJ x k ≤ x.2.length := by
  unfold cutJ
  split
  · exact Nat.zero_le _
  · exact fitN_le _ _ _
theorem cutJ_mono (x : Seg) {k m : Nat} (h : k ≤ m) : cutJ x k ≤ cutJ x m := by
  unfold cutJ
  split
  · exact Nat.zero_le _
  · rw [if_neg (by omega)]
    exact fitN_mono _ _ _ _ (by omega)
theorem cutN_mono (pre : List Seg) (x : Seg) {k m : Nat} (h : k ≤ m) : cutN pre x k ≤ cutN pre x m := Nat.add_le_add_left (cutJ_mono x h) _
theorem cutN_le (pre : List Seg) (x : Seg) (k : Nat) : cutN pre x k ≤ (allRecs (pre ++ [x])).length := by
  rw [allRecs_last, List.length_append, numbered_len4]
  exact Nat.add_le_add_left (cutJ_le x k) _
theorem found_recs (pre : List Seg) (x : Seg) (k : Nat) : (foundOf pre x k).recs = (allRecs (pre ++ [x])).take (cutN pre x k) := by
  have h2 : (allRecs (pre ++ [x])).take (cutN pre x k) = allRecs pre ++ numbered x.1 (x.2.take (cutJ x k)) := by
    rw [allRecs_last, List.take_append, List.take_of_length_le (by unfold cutN; omega), numbered_take]
    congr 2
    unfold cutN; omega
  rw [h2]
  unfold foundOf cutJ
  split
  · simp [fPre, numbered]
  · show allRecs (pre ++ [(x.1, x.2.take (fitN x.1 x.2 (k - (hd4 x.1).length)))]) = _
    rw [allRecs_last]
theorem less_size {d : ADisk} {al : ALog} {pre : List Seg} {x : Seg} (h : J d al (pre ++ [x])) : (afile d (wName x.1)).len = (cont x).length := by
  obtain ⟨f, hf, hc, _⟩ := h.on.lies_of.last
  rw [List.take_of_length_le (Nat.le_refl _)] at hc
  unfold afile AFile.len
  rw [hf]
  have := congrArg List.length hc
  rw [List.length_append] at this
  simpa using this
theorem less_plain {d : ADisk} {al : ALog} {pre : List Seg} {x : Seg} (h : J d al (pre ++ [x])) (hl : d.left = -1) (k : Nat) (hk : k ≤ (cont x).length) :
    d.cutErr (wName x.1) k = 0 ∧ ∃ d' f, wOpen (d.cut (wName x.1) k) 64 = (d', f, 0) ∧ f.recs = (allRecs (pre ++ [x])).take (cutN pre x k) := by
  have hL := h.on.lies_of
  obtain ⟨f, hf, hc, _⟩ := hL.last
  rw [List.take_of_length_le (Nat.le_refl _)] at hc
  have hok := chain_ok hL.ch x (by simp)
  rcases cut_cases hL.sorted h.up hf k (by rw [hc]; exact hk) with ⟨a0, _⟩ | ⟨_, a1, a2, a3, a4, a5⟩
  · rw [hl] at a0; exact absurd a0 (by decide)
  · refine ⟨a1, ?_⟩
    rw [hc] at a4
    have hL' : Lies (d.cut (wName x.1) k) pre x k 0 := by
      refine ⟨a3, hL.ch, fun y hy => ?_, ⟨⟨(cont x).take k, []⟩, by rw [a4, if_pos rfl], by rw [List.append_nil], ?_⟩, hk, fun n n0 n1 n2 => ?_⟩
      · rw [a4, if_neg, hL.full y hy]
        intro e
        have e2 := wName_inj e
        have hcf := chain_firsts hL.ch
        rw [List.map_append, List.pairwise_append] at hcf
        have := hcf.2.2 y.1 (List.mem_map_of_mem hy) x.1 (by simp)
        omega
      · unfold need
        rw [if_pos (by have := hok.lo; omega)]
        exact Nat.zero_le _
      · by_cases e : wName n = wName x.1
        · rw [wName_inj e]; simp
        · rw [a4, if_neg e] at n2
          exact hL.only n n0 n1 n2
    obtain ⟨d', ss', _, hor⟩ := open_law hL' a2 64 (by decide) (by decide)
    rcases hor with ⟨e1, _⟩ | ⟨e1, _⟩
    · exact ⟨d', _, e1, found_recs pre x k⟩
    · exact absurd (a5 hl) e1
end Go.Proofs.YtbiadclmonakkaaGreatDoor
