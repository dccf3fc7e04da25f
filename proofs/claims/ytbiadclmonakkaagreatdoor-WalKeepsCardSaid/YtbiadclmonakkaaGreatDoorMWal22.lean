/-
  WalKeeps, plain: what an Open behind a crash finds is a run of what was appended. No program here.
-/
import Derived.Test.YtbiadclmonakkaaGreatDoorMWal21
namespace Go.Proofs.YtbiadclmonakkaaGreatDoor

theorem kr_cut {L : List (List UInt8)} {tr sy : Nat} {y y' : Seg} {r r' : List Seg} (h : Kr L tr sy (y :: r)) (hy : y'.1 = y.1) (j : Nat) (hr : allRecs (y' :: r') = (allRecs (y :: r)).take j) : Kr (L.take (y.1 - 1 + j)) tr sy (y' :: r') := by
  obtain ⟨a1, a2, a3, a4, a5⟩ := h.some y r rfl
  refine ⟨fun e => (by cases e), fun u q e => ?_⟩
  cases e
  rw [hy]
  refine ⟨a1, a2, a3, ?_, ?_⟩
  · rw [List.length_take]; omega
  · rw [hr, a5, numbered_take, List.drop_take, Nat.add_sub_cancel_left]
/-- Open behind a crash. -/
theorem Kr.opened {L : List (List UInt8)} {tr sy : Nat} {pre : List Seg} {x : Seg} {ss' : List Seg} (h : Kr L tr sy (pre ++ [x])) (hc : chain (pre ++ [x])) (hsy : sy ≤ L.length) (ht : Trunc pre x sy ss') :
    ∃ m, m ≤ L.length ∧ sy ≤ m ∧ Kr (L.take m) tr sy ss' := by
  have hall := allRecs_last pre x
  have hnx := h.next hc (by simp)
  rw [nextOf_last] at hnx
  rcases ht with ⟨rfl, hlt⟩ | ⟨k, rfl, hk, hmin⟩
  · cases ss' with
    | nil =>
      obtain ⟨a1, a2, a3, a4, a5⟩ := h.some x [] rfl
      exact ⟨0, Nat.zero_le _, by omega, by rw [List.take_zero]; exact kr_new⟩
    | cons y q =>
      obtain ⟨a1, a2, a3, a4, a5⟩ := h.some y (q ++ [x]) rfl
      have hx := chain_from (r := []) hc rfl
      have h2 := kr_cut (r := q ++ [x]) (y' := y) (r' := q) h rfl (allRecs (y :: q)).length (by
        show _ = (allRecs ((y :: q) ++ [x])).take _
        rw [hall, List.take_left])
      refine ⟨y.1 - 1 + (allRecs (y :: q)).length, by omega, by omega, h2⟩
  · have hall' := allRecs_last pre (x.1, x.2.take k)
    have ht2 : numbered x.1 (x.2.take k) = (numbered x.1 x.2).take k := numbered_take _ _ _
    have hmm : sy ≤ x.1 - 1 + k := by
      by_cases hx : x.1 ≤ sy
      · have := hmin hx
        omega
      · omega
    cases pre with
    | nil =>
      obtain ⟨a1, a2, a3, a4, a5⟩ := h.some x [] rfl
      have h2 := kr_cut (y' := (x.1, x.2.take k)) (r' := []) h rfl k (by
        show allRecs ([] ++ [(x.1, x.2.take k)]) = (allRecs ([] ++ [x])).take k
        rw [hall', hall, ht2]; rfl)
      exact ⟨x.1 - 1 + k, by omega, hmm, h2⟩
    | cons y q =>
      obtain ⟨a1, a2, a3, a4, a5⟩ := h.some y (q ++ [x]) rfl
      have hx := chain_from (r := []) hc rfl
      have h2 := kr_cut (y' := y) (r' := q ++ [(x.1, x.2.take k)]) h rfl ((allRecs (y :: q)).length + k) (by
        show allRecs ((y :: q) ++ [(x.1, x.2.take k)]) = (allRecs ((y :: q) ++ [x])).take _
        rw [hall', hall, ht2, List.take_length_add_append])
      exact ⟨y.1 - 1 + ((allRecs (y :: q)).length + k), by omega, by omega, h2⟩
/-- what is told behind it is a run as the statement asks. -/
theorem kr_run {L : List (List UInt8)} {tr sy m : Nat} {ss : List Seg} (h : Kr (L.take m) tr sy ss) (hm : m ≤ L.length) (hsy : sy ≤ m) (htr : 1 ≤ tr) :
    (allRecs ss = [] → sy < tr) ∧ (allRecs ss ≠ [] → ∃ a, 1 ≤ a ∧ a ≤ tr ∧ a - 1 + (allRecs ss).length = m ∧ allRecs ss = ((numbered 1 L).drop (a - 1)).take (allRecs ss).length) := by
  have hml : (L.take m).length = m := by rw [List.length_take]; omega
  cases ss with
  | nil =>
    have h0 := congrArg List.length (h.nil rfl)
    rw [hml] at h0
    simp only [List.length_nil] at h0
    exact ⟨fun _ => by omega, fun e => absurd rfl e⟩
  | cons y r =>
    obtain ⟨a1, a2, a3, a4, a5⟩ := h.some y r rfl
    rw [hml] at a4
    have hl := congrArg List.length a5
    rw [List.length_drop, numbered_len4, hml] at hl
    refine ⟨fun e => ?_, fun e => ⟨y.1, a1, a2, ?_, ?_⟩⟩
    · rw [e] at hl
      simp only [List.length_nil] at hl
      omega
    · have h0 : 0 < (allRecs (y :: r)).length := List.length_pos_iff.2 e
      omega
    · rw [hl]
      rw [a5, numbered_take, List.drop_take]
end Go.Proofs.YtbiadclmonakkaaGreatDoor
