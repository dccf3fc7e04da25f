/-
  WalKeeps, plain: a journal over its lives: what it holds of all that was appended. No program here.
-/
import Derived.Test.YtbiadclmonakkaaGreatDoorMWal20
import Derived.Test.YtbiadclmonakkaaGreatDoorMWal17
namespace Go.Proofs.YtbiadclmonakkaaGreatDoor

/-- the segments hold a run of what was appended, up to its end; tr: how far it may be trimmed; sy: what is synced. -/
structure Kr (L : List (List UInt8)) (tr sy : Nat) (ss : List Seg) : Prop where
  nil : ss = [] → L = []
  some : ∀ y r, ss = y :: r → 1 ≤ y.1 ∧ y.1 ≤ tr ∧ (y.1 = 1 ∨ y.1 ≤ sy) ∧ y.1 ≤ L.length + 1 ∧ allRecs ss = (numbered 1 L).drop (y.1 - 1)
theorem kr_new {tr sy : Nat} : Kr [] tr sy [] := ⟨fun _ => rfl, fun y r h => by cases h⟩
theorem Kr.more {L : List (List UInt8)} {tr sy tr' sy' : Nat} {ss : List Seg} (h : Kr L tr sy ss) (h1 : tr ≤ tr') (h2 : sy ≤ sy') : Kr L tr' sy' ss :=
  ⟨h.nil, fun y r e => by obtain ⟨a1, a2, a3, a4, a5⟩ := h.some y r e; exact ⟨a1, by omega, by omega, a4, a5⟩⟩
theorem Kr.next {L : List (List UInt8)} {tr sy : Nat} {ss : List Seg} (h : Kr L tr sy ss) (hc : chain ss) (hne : ss ≠ []) : nextOf ss = 1 + L.length := by
  cases ss with
  | nil => exact absurd rfl hne
  | cons y r =>
    obtain ⟨a1, _, _, a4, a5⟩ := h.some y r rfl
    rw [chain_total hc, a5, List.length_drop, numbered_len4]
    omega
/-- one record more, in a segment of its own or in the last one. -/
theorem Kr.append {L : List (List UInt8)} {tr sy sy' : Nat} {ss ss' : List Seg} {b : List UInt8} (h : Kr L tr sy ss) (h2 : sy ≤ sy') (htr : 1 ≤ tr)
    (hr : allRecs ss' = allRecs ss ++ [⟨1 + L.length, b⟩]) (how : ss' = ss ++ [(1 + L.length, [b])] ∨ ∃ pre x, ss = pre ++ [x] ∧ ss' = pre ++ [(x.1, x.2 ++ [b])]) : Kr (L ++ [b]) tr sy' ss' := by
  have hlen : (L ++ [b]).length = L.length + 1 := by simp
  refine ⟨fun e => ?_, fun y r e => ?_⟩
  · rw [e] at hr
    have := congrArg List.length hr
    simp [allRecs] at this
  · rw [hr, numbered_more]
    have hfirst : ss = [] ∨ ∃ u q, ss = u :: q ∧ u.1 = y.1 := by
      rcases how with rfl | ⟨pre, x, rfl, rfl⟩
      · cases ss with
        | nil => exact Or.inl rfl
        | cons u q => rw [List.cons_append] at e; cases e; exact Or.inr ⟨_, _, rfl, rfl⟩
      · cases pre with
        | nil => cases e; exact Or.inr ⟨x, [], rfl, rfl⟩
        | cons u q => rw [List.cons_append] at e; cases e; exact Or.inr ⟨_, _, rfl, rfl⟩
    rcases hfirst with rfl | ⟨u, q, rfl, hu⟩
    · have hL := h.nil rfl
      subst hL
      rcases how with rfl | ⟨pre, x, e1, _⟩
      · cases e
        refine ⟨by simp, by simpa using htr, Or.inl (by simp), by simp, ?_⟩
        simp [allRecs, numbered]
      · simp at e1
    · obtain ⟨a1, a2, a3, a4, a5⟩ := h.some u q rfl
      rw [hu] at a1 a2 a3 a4 a5
      refine ⟨a1, a2, by omega, by omega, ?_⟩
      rw [a5, List.drop_append_of_le_length (by rw [numbered_len4]; omega)]
/-- an empty segment more: what a failed Append may leave. -/
theorem Kr.empty {L : List (List UInt8)} {tr sy sy' : Nat} {ss : List Seg} (h : Kr L tr sy ss) (h2 : sy ≤ sy') (htr : 1 ≤ tr) : Kr L tr sy' (ss ++ [(1 + L.length, [])]) := by
  refine ⟨fun e => by simp at e, fun y r e => ?_⟩
  have hr : allRecs (ss ++ [(1 + L.length, [])]) = allRecs ss := by simp [allRecs, numbered]
  rw [hr]
  cases ss with
  | nil =>
    have hL := h.nil rfl
    subst hL
    cases e
    exact ⟨by simp, by simpa using htr, Or.inl (by simp), by simp, by simp [allRecs, numbered]⟩
  | cons u q =>
    rw [List.cons_append] at e
    cases e
    obtain ⟨a1, a2, a3, a4, a5⟩ := h.some _ _ rfl
    exact ⟨a1, a2, by omega, a4, a5⟩
theorem chain_from {g : List Seg} {y z : Seg} {q r : List Seg} (hc : chain (y :: q ++ z :: r)) (_hg : g = y :: q) : z.1 = y.1 + (allRecs (y :: q)).length := by
  have h1 := chain_next (dn := y :: q) (y := z) (r := r) hc (by simp)
  rw [h1]
  have hcy : chain (y :: q) := by
    have : ∀ (a b : List Seg), chain (a ++ b) → chain a := by
      intro a
      induction a with
      | nil => intro b _; trivial
      | cons x a ih =>
        intro b hb
        cases a with
        | nil =>
          cases b with
          | nil => exact hb
          | cons u b => exact hb.1
        | cons w a => exact ⟨hb.1, hb.2.1, hb.2.2.1, ih b hb.2.2.2⟩
    exact this (y :: q) (z :: r) hc
  exact chain_total hcy
/-- segments are gone from the front: the first one left is not above what is synced. -/
theorem Kr.trim {L : List (List UInt8)} {tr sy : Nat} {gone ss' : List Seg} (h : Kr L tr sy (gone ++ ss')) (hc : chain (gone ++ ss')) (below : Nat) (hb : below ≤ sy) (hg : gone ≠ [] → ∃ z r, ss' = z :: r ∧ z.1 ≤ below) : Kr L (max tr below) sy ss' := by
  cases gone with
  | nil => exact h.more (Nat.le_max_left _ _) (Nat.le_refl _)
  | cons y q =>
    obtain ⟨z, r, rfl, hz⟩ := hg (by simp)
    obtain ⟨a1, a2, a3, a4, a5⟩ := h.some y (q ++ z :: r) rfl
    have hzf := chain_from hc rfl
    refine ⟨fun e => by simp at e, fun u r' e => ?_⟩
    cases e
    have hlen := congrArg List.length a5
    rw [allRecs_app, List.length_append, List.length_drop, numbered_len4] at hlen
    refine ⟨by omega, by omega, Or.inr (by omega), by omega, ?_⟩
    have h5 : (allRecs (y :: q) ++ allRecs (z :: r)).drop (allRecs (y :: q)).length = allRecs (z :: r) := List.drop_left
    rw [← allRecs_app, a5, List.drop_drop] at h5
    rw [← h5]
    congr 1
    omega
/-- where Trim stands: the first one left is not above the number. -/
theorem trimL_head (al : ALog) (below : Int) (ss : List Seg) : ∀ d : ADisk, ∃ gone ss', ss = gone ++ ss' ∧ (wTrimL d al below (ss.map segV)).2.2.1 = gone.map (fun y => wName y.1) ∧ (gone ≠ [] → ∃ z r, ss' = z :: r ∧ (z.1 : Int) ≤ below) := by
  induction ss with
  | nil => exact fun d => ⟨[], [], rfl, rfl, fun h => absurd rfl h⟩
  | cons y r ih =>
    intro d
    cases r with
    | nil => exact ⟨[], [y], rfl, rfl, fun h => absurd rfl h⟩
    | cons z r =>
      show ∃ gone ss', y :: z :: r = gone ++ ss' ∧ (wTrimL d al below (segV y :: segV z :: r.map segV)).2.2.1 = _ ∧ _
      unfold wTrimL
      by_cases hz : ((segV z).1 : Int) ≤ below
      · rw [if_pos hz]
        by_cases he : d.removeErr (wName (segV y).1) ≠ 0
        · rw [if_pos he]
          exact ⟨[], y :: z :: r, rfl, rfl, fun h => absurd rfl h⟩
        · rw [if_neg he]
          obtain ⟨gone, ss', e1, e2, e3⟩ := ih (d.remove (wName (segV y).1))
          refine ⟨y :: gone, ss', by rw [e1]; rfl, ?_, fun _ => ?_⟩
          · show wName y.1 :: (wTrimL (d.remove (wName (segV y).1)) al below ((z :: r).map segV)).2.2.1 = _
            rw [e2]; rfl
          · by_cases hg : gone = []
            · subst hg
              exact ⟨z, r, e1.symm, hz⟩
            · exact e3 hg
      · rw [if_neg hz]
        exact ⟨[], y :: z :: r, rfl, rfl, fun h => absurd rfl h⟩
/-- the same of a log: any gone and left that the law tells are these. -/
theorem trim_head {d : ADisk} {al : ALog} {ss : List Seg} (h : J d al ss) (below : Int) {d' : ADisk} {al' : ALog} {e : Int} {gone ss' : List Seg} (he : wTrim d al below = (d', al', gone.map (fun y => wName y.1), e)) (hs : ss = gone ++ ss') : gone ≠ [] → ∃ z r, ss' = z :: r ∧ (z.1 : Int) ≤ below := by
  have hw : wTrim d al below = wTrimL d al below (ss.map segV) := by unfold wTrim; rw [if_neg (by simp [h.live]), h.segs]
  obtain ⟨gone2, ss2, e1, e2, e3⟩ := trimL_head al below ss d
  rw [← hw, he] at e2
  have hl : gone.length = gone2.length := by
    have := congrArg List.length e2
    simpa using this
  rw [hs] at e1
  have h2 := List.append_inj e1 hl
  rw [h2.1, h2.2]
  exact e3
end Go.Proofs.YtbiadclmonakkaaGreatDoor
