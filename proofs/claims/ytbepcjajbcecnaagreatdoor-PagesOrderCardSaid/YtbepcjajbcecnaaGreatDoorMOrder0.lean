/-
  PagesOrder, plain: in which order unlike keys are put says nothing. No program here.
-/
import Derived.Test.YtbepcjajbcecnaaGreatDoorMPgA
namespace Go.Proofs.YtbepcjajbcecnaaGreatDoor

def ordN (B : Nat → List UInt8) (k : Nat) : Option (List UInt8) := if (B k).length ≤ 30 then some (B k) else none
/-- a store behind i rounds of puts. -/
structure Ord5 (st : AStore) (B : Nat → List UInt8) (i : Nat) : Prop where
  stp : Stp (newD 1048576) st 30 0
  fresh : Fresh5 st.keys
  rest : st.k = 0 ∧ st.held = [] ∧ st.over = false
  now : ∃ M, Now6 st.keys M ∧ (∀ k, k < 6 → M k = none ∨ M k = ordN B k) ∧ ∀ k, k < 6 → 24 + k < i → M k = ordN B k
theorem Ord5.start (B : Nat → List UInt8) : Ord5 st05 B 0 :=
  ⟨stp_new 30, fun p hp => (by cases hp), ⟨rfl, rfl, rfl⟩, ⟨fun _ => none, fun s => by unfold now6; simp [st05, kB], fun _ _ => Or.inl rfl, fun k _ h => by omega⟩⟩
theorem Ord5.put {st : AStore} {B : Nat → List UInt8} {i key : Nat} (h : Ord5 st B i) (hk : key < 6) (hl : (B key).length ≤ 30) (hi : 24 ≤ i → i < 30 → key = i % 6) (hi30 : i < 30) :
    ∃ st', pPut st (nm6 key) (B key) = (st', 0) ∧ Ord5 st' B (i + 1) := by
  obtain ⟨M, m1, m2, m3⟩ := h.now
  have hlen : (putB st.keys (nm6 key) ⟨B key, 0, 0⟩).length ≤ 7 := by
    rw [length_putB h.stp.sits.sorted]
    have h1 := m1.len h.stp.sits.sorted
    have h2 := cnt6_le M
    split <;> omega
  obtain ⟨p1, p2⟩ := h.stp.put (nm6_ok hk) (b := B key) hl (by omega) hlen
  refine ⟨_, p1, p2, fresh_put h.fresh _ _, h.rest, ⟨_, put_now m1 hk ⟨B key, 0, 0⟩, fun k hk6 => ?_, fun k hk6 h24 => ?_⟩⟩
  · by_cases e : k = key
    · right; subst e; simp [ordN, hl]
    · simp only [e, if_false]; exact m2 k hk6
  · by_cases e : k = key
    · subst e; simp [ordN, hl]
    · simp only [e, if_false]
      refine m3 k hk6 ?_
      by_cases h4 : 24 + k < i
      · exact h4
      · exfalso
        have := hi (by omega) hi30
        omega
theorem Ord5.skip {st : AStore} {B : Nat → List UInt8} {i key : Nat} (h : Ord5 st B i) (hk : key < 6) (hl : ¬ (B key).length ≤ 30) (hi : 24 ≤ i → i < 30 → key = i % 6) (hi30 : i < 30) : Ord5 st B (i + 1) := by
  obtain ⟨M, m1, m2, m3⟩ := h.now
  refine ⟨h.stp, h.fresh, h.rest, ⟨M, m1, m2, fun k hk6 h24 => ?_⟩⟩
  by_cases h4 : 24 + k < i
  · exact m3 k hk6 h4
  · have hkk := hi (by omega) hi30
    have e : k = key := by omega
    subst e
    rcases m2 k hk6 with h0 | h0
    · rw [h0]; unfold ordN; rw [if_neg hl]
    · exact h0
theorem Ord5.same {st st' : AStore} {B : Nat → List UInt8} (h : Ord5 st B 30) (h' : Ord5 st' B 30) : st = st' := by
  obtain ⟨M, m1, _, m3⟩ := h.now
  obtain ⟨M', m1', _, m3'⟩ := h'.now
  have e : ∀ s, now6 M s = now6 M' s := fun s => by
    unfold now6
    rw [m3 0 (by omega) (by omega), m3 1 (by omega) (by omega), m3 2 (by omega) (by omega), m3 3 (by omega) (by omega), m3 4 (by omega) (by omega), m3 5 (by omega) (by omega),
      m3' 0 (by omega) (by omega), m3' 1 (by omega) (by omega), m3' 2 (by omega) (by omega), m3' 3 (by omega) (by omega), m3' 4 (by omega) (by omega), m3' 5 (by omega) (by omega)]
  have m2 : Now6 st.keys M' := fun s => (m1 s).trans (e s)
  have hc : contB st.keys = contB st'.keys := (m2.list h.stp.sits.sorted).trans (m1'.list h'.stp.sits.sorted).symm
  have hk := fresh_eq h.fresh h'.fresh hc
  obtain ⟨r1, r2, r3⟩ := h.rest
  obtain ⟨s1, s2, s3⟩ := h'.rest
  cases st; cases st'
  simp only at hk r1 r2 r3 s1 s2 s3
  subst hk; subst r1; subst r2; subst r3; subst s1; subst s2; subst s3
  rfl
end Go.Proofs.YtbepcjajbcecnaaGreatDoor
