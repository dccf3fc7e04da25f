/-
  Package roots: Parse.
-/
import Derived.Outline
import Derived.Test.YtnagejhpdhdpfaaGreatDoorLaw0
import Derived.Test.YtnagejhpdhdpfaaGreatDoorRt0
import Derived.Test.YtnagejhpdhdpfaaGreatDoorRt1
namespace Go.Proofs.YtnagejhpdhdpfaaGreatDoor
open Go.RowKit Go.Maps Go.MapKept

def pEnd (l : List UInt8) (at_ s t c : Nat) : Option ARoot :=
  match gB (l.drop at_) 1048576 with
  | (0, b, k4) => if at_ + k4 < l.length then none else some ⟨s, t, c, b⟩
  | _ => none
/-- what is still to be parsed, k numbers being known. -/
def pNum (l : List UInt8) (k at_ s t c : Nat) : Option ARoot :=
  match k with
  | 0 => match gU (l.drop at_) with
    | (0, x, k1) => if 9007199254740992 < x ∨ x = 0 then none else
      match gU (l.drop (at_ + k1)) with
      | (0, y, k2) => if 9007199254740992 < y then none else
        match gU (l.drop (at_ + k1 + k2)) with
        | (0, z, k3) => if 9007199254740992 < z then none else pEnd l (at_ + k1 + k2 + k3) x y z
        | _ => none
      | _ => none
    | _ => none
  | 1 => match gU (l.drop at_) with
      | (0, y, k2) => if 9007199254740992 < y then none else
        match gU (l.drop (at_ + k2)) with
        | (0, z, k3) => if 9007199254740992 < z then none else pEnd l (at_ + k2 + k3) s y z
        | _ => none
      | _ => none
  | 2 => match gU (l.drop at_) with
        | (0, z, k3) => if 9007199254740992 < z then none else pEnd l (at_ + k3) s t z
        | _ => none
  | _ => pEnd l at_ s t c
theorem pRoot_num (l : List UInt8) : pRoot l = if isMagic l = true then pNum l 0 4 0 0 0 else none := by
  unfold pRoot isMagic
  simp only [decide_eq_true_eq]
  rfl
/-- a number is read: it may be, or all is over. -/
theorem pNum_bad {l : List UInt8} {k at_ s t c n j : Nat} (hk : k ≤ 2) (h : ∃ er : Int, gU (l.drop at_) = (er, n, j) ∧ (er ≠ 0 ∨ 9007199254740992 < n ∨ (k = 0 ∧ n = 0))) : pNum l k at_ s t c = none := by
  obtain ⟨er, hg, hb⟩ := h
  have hk3 : k = 0 ∨ k = 1 ∨ k = 2 := by omega
  by_cases h0 : er = 0
  · subst h0
    rcases hk3 with rfl | rfl | rfl
    · simp only [pNum, hg]; rw [if_pos (by rcases hb with h | h | h; exact absurd rfl h; exact Or.inl h; exact Or.inr h.2)]
    · simp only [pNum, hg]; rw [if_pos (by rcases hb with h | h | h; exact absurd rfl h; exact h; exact absurd h.1 (by decide))]
    · simp only [pNum, hg]; rw [if_pos (by rcases hb with h | h | h; exact absurd rfl h; exact h; exact absurd h.1 (by decide))]
  · have : ∀ (A : Nat → Nat → Option ARoot), (match (er, n, j) with | (0, x, y) => A x y | _ => none) = none := by
      intro A
      split
      · rename_i heq; simp only [Prod.mk.injEq] at heq; exact absurd heq.1 h0
      · rfl
    rcases hk3 with rfl | rfl | rfl
    · simp only [pNum, hg]; exact this _
    · simp only [pNum, hg]; exact this _
    · simp only [pNum, hg]; exact this _
theorem pNum_good0 {l : List UInt8} {at_ n j : Nat} (hg : gU (l.drop at_) = (0, n, j)) (h1 : n ≤ 9007199254740992) (h0 : n ≠ 0) : pNum l 0 at_ 0 0 0 = pNum l 1 (at_ + j) n 0 0 := by
  simp only [pNum, hg]; rw [if_neg (by omega)]
theorem pNum_good1 {l : List UInt8} {at_ s n j : Nat} (hg : gU (l.drop at_) = (0, n, j)) (h1 : n ≤ 9007199254740992) : pNum l 1 at_ s 0 0 = pNum l 2 (at_ + j) s n 0 := by
  simp only [pNum, hg]; rw [if_neg (by omega)]
theorem pNum_good2 {l : List UInt8} {at_ s t n j : Nat} (hg : gU (l.drop at_) = (0, n, j)) (h1 : n ≤ 9007199254740992) : pNum l 2 at_ s t 0 = pNum l 3 (at_ + j) s t n := by
  simp only [pNum, hg]; rw [if_neg (by omega)]
theorem gB_len {l b : List UInt8} {most k : Nat} (h : gB l most = (0, b, k)) : b.length ≤ l.length ∧ k ≤ l.length := by
  unfold gB at h
  cases hu : gU l with
  | mk e nk =>
    obtain ⟨n, k'⟩ := nk
    rw [hu] at h
    by_cases h0 : e = 0
    · subst h0
      obtain ⟨_, _, hj, _, _⟩ := gU_ok hu
      simp only at h
      split at h
      · cases h
      · split at h
        · cases h
        · cases h
          simp only [List.length_take, List.length_drop]
          omega
    · split at h
      · rename_i heq; simp only [Prod.mk.injEq] at heq; exact absurd heq.1 h0
      · rename_i heq; simp only [Prod.mk.injEq] at heq h; exact absurd (heq.1.trans h.1) h0
end Go.Proofs.YtnagejhpdhdpfaaGreatDoor
