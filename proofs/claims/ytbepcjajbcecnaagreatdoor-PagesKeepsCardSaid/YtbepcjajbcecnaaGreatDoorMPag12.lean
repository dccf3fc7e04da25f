/-
  Pages, plain: an index's entry, number by number; entries one by one. No program here.
-/
import Derived.Test.YtbepcjajbcecnaaGreatDoorMPgA
namespace Go.Proofs.YtbepcjajbcecnaaGreatDoor

def entEnd (nm : List UInt8) (k at_ p a m : Nat) : Option (AEnt × Nat) := if 0 < nm.length ∧ 1 ≤ p ∧ p ≤ k ∧ m ≤ 1048576 then some (⟨⟨nm.toArray⟩, p, a, m⟩, at_) else none
def ent2 (nm l : List UInt8) (k at_ p a : Nat) : Option (AEnt × Nat) :=
  match gU (l.drop at_) with
  | (0, x, j) => if 9007199254740992 < x then none else entEnd nm k (at_ + j) p a x
  | _ => none
def ent1 (nm l : List UInt8) (k at_ p : Nat) : Option (AEnt × Nat) :=
  match gU (l.drop at_) with
  | (0, x, j) => if 9007199254740992 < x then none else ent2 nm l k (at_ + j) p x
  | _ => none
def ent0 (nm l : List UInt8) (k at_ : Nat) : Option (AEnt × Nat) :=
  match gU (l.drop at_) with
  | (0, x, j) => if 9007199254740992 < x then none else ent1 nm l k (at_ + j) x
  | _ => none
/-- an entry of which i numbers are known. -/
def entK (nm l : List UInt8) (k i at_ p a m : Nat) : Option (AEnt × Nat) :=
  match i with
  | 0 => ent0 nm l k at_
  | 1 => ent1 nm l k at_ p
  | 2 => ent2 nm l k at_ p a
  | _ => entEnd nm k at_ p a m
section
variable {nm l : List UInt8} {k at_ p a m x j : Nat} {er : Int}
theorem ent2_eq (h : gU (l.drop at_) = (er, x, j)) : ent2 nm l k at_ p a = if er = 0 then (if 9007199254740992 < x then none else entEnd nm k (at_ + j) p a x) else none := by
  unfold ent2; rw [h]
  by_cases h0 : er = 0
  · subst h0; rw [if_pos rfl]; rfl
  · rw [if_neg h0]
    split
    · rename_i heq; simp only [Prod.mk.injEq] at heq; exact absurd heq.1 h0
    · rfl
theorem ent1_eq (h : gU (l.drop at_) = (er, x, j)) : ent1 nm l k at_ p = if er = 0 then (if 9007199254740992 < x then none else ent2 nm l k (at_ + j) p x) else none := by
  unfold ent1; rw [h]
  by_cases h0 : er = 0
  · subst h0; rw [if_pos rfl]; rfl
  · rw [if_neg h0]
    split
    · rename_i heq; simp only [Prod.mk.injEq] at heq; exact absurd heq.1 h0
    · rfl
theorem ent0_eq (h : gU (l.drop at_) = (er, x, j)) : ent0 nm l k at_ = if er = 0 then (if 9007199254740992 < x then none else ent1 nm l k (at_ + j) x) else none := by
  unfold ent0; rw [h]
  by_cases h0 : er = 0
  · subst h0; rw [if_pos rfl]; rfl
  · rw [if_neg h0]
    split
    · rename_i heq; simp only [Prod.mk.injEq] at heq; exact absurd heq.1 h0
    · rfl
/-- a number is read that may not be: all is over. -/
theorem entK_bad {i : Nat} (hi : i < 3) (h : gU (l.drop at_) = (er, x, j)) (hb : er ≠ 0 ∨ 9007199254740992 < x) : entK nm l k i at_ p a m = none := by
  obtain rfl | rfl | rfl : i = 0 ∨ i = 1 ∨ i = 2 := by omega
  · show ent0 nm l k at_ = none
    rw [ent0_eq h]
    split
    · rename_i h0; rcases hb with hb | hb; exact absurd h0 hb; rw [if_pos hb]
    · rfl
  · show ent1 nm l k at_ p = none
    rw [ent1_eq h]
    split
    · rename_i h0; rcases hb with hb | hb; exact absurd h0 hb; rw [if_pos hb]
    · rfl
  · show ent2 nm l k at_ p a = none
    rw [ent2_eq h]
    split
    · rename_i h0; rcases hb with hb | hb; exact absurd h0 hb; rw [if_pos hb]
    · rfl
theorem entK_0 (h : gU (l.drop at_) = (0, x, j)) (hx : x ≤ 9007199254740992) : entK nm l k 0 at_ 0 0 0 = entK nm l k 1 (at_ + j) x 0 0 := by
  show ent0 nm l k at_ = ent1 nm l k (at_ + j) x
  rw [ent0_eq h, if_pos rfl, if_neg (by omega)]
theorem entK_1 (h : gU (l.drop at_) = (0, x, j)) (hx : x ≤ 9007199254740992) : entK nm l k 1 at_ p 0 0 = entK nm l k 2 (at_ + j) p x 0 := by
  show ent1 nm l k at_ p = ent2 nm l k (at_ + j) p x
  rw [ent1_eq h, if_pos rfl, if_neg (by omega)]
theorem entK_2 (h : gU (l.drop at_) = (0, x, j)) (hx : x ≤ 9007199254740992) : entK nm l k 2 at_ p a 0 = entK nm l k 3 (at_ + j) p a x := by
  show ent2 nm l k at_ p a = entEnd nm k (at_ + j) p a x
  rw [ent2_eq h, if_pos rfl, if_neg (by omega)]
theorem ent2_ge {z : AEnt × Nat} (h : ent2 nm l k at_ p a = some z) : at_ ≤ z.2 := by
  obtain ⟨er, x, j, hg⟩ : ∃ er x j, gU (l.drop at_) = (er, x, j) := ⟨_, _, _, rfl⟩
  rw [ent2_eq hg] at h
  unfold entEnd at h
  split at h
  · split at h
    · cases h
    · split at h
      · cases h; simp
      · cases h
  · cases h
theorem ent1_ge {z : AEnt × Nat} (h : ent1 nm l k at_ p = some z) : at_ ≤ z.2 := by
  obtain ⟨er, x, j, hg⟩ : ∃ er x j, gU (l.drop at_) = (er, x, j) := ⟨_, _, _, rfl⟩
  rw [ent1_eq hg] at h
  split at h
  · split at h
    · cases h
    · have := ent2_ge h; omega
  · cases h
theorem ent0_ge {z : AEnt × Nat} (h : ent0 nm l k at_ = some z) : at_ ≤ z.2 := by
  obtain ⟨er, x, j, hg⟩ : ∃ er x j, gU (l.drop at_) = (er, x, j) := ⟨_, _, _, rfl⟩
  rw [ent0_eq hg] at h
  split at h
  · split at h
    · cases h
    · have := ent1_ge h; omega
  · cases h
end
/-- the entry at a place: it, and the place behind it. -/
def pEntA (l : List UInt8) (at_ k : Nat) : Option (AEnt × Nat) :=
  match gB (l.drop at_) 60 with
  | (0, nm, j) => ent0 nm l k (at_ + j)
  | _ => none
theorem pEntA_eq {l nm : List UInt8} {at_ k j : Nat} {er : Int} (h : gB (l.drop at_) 60 = (er, nm, j)) : pEntA l at_ k = if er = 0 then ent0 nm l k (at_ + j) else none := by
  unfold pEntA; rw [h]
  by_cases h0 : er = 0
  · subst h0; rw [if_pos rfl]; rfl
  · rw [if_neg h0]
    split
    · rename_i heq; simp only [Prod.mk.injEq] at heq; exact absurd heq.1 h0
    · rfl
theorem pEntA_ge {l : List UInt8} {at_ k : Nat} {z : AEnt × Nat} (h : pEntA l at_ k = some z) : at_ ≤ z.2 := by
  obtain ⟨er, nm, j, hg⟩ : ∃ er nm j, gB (l.drop at_) 60 = (er, nm, j) := ⟨_, _, _, rfl⟩
  rw [pEntA_eq hg] at h
  split at h
  · have := ent0_ge h; omega
  · cases h
theorem pEnt_abs (l : List UInt8) (at_ k : Nat) : pEnt (l.drop at_) k = (pEntA l at_ k).map fun r => (r.1, r.2 - at_) := by
  obtain ⟨er, nm, j, hg⟩ : ∃ er nm j, gB (l.drop at_) 60 = (er, nm, j) := ⟨_, _, _, rfl⟩
  rw [pEntA_eq hg]
  unfold pEnt
  rw [hg]
  by_cases h0 : er = 0
  · subst h0
    rw [if_pos rfl]
    simp only
    obtain ⟨e1, p, j1, h1⟩ : ∃ er x y, gU (l.drop (at_ + j)) = (er, x, y) := ⟨_, _, _, rfl⟩
    rw [List.drop_drop, h1, ent0_eq h1]
    by_cases h10 : e1 = 0
    · subst h10
      rw [if_pos rfl]
      simp only
      obtain ⟨e2, a, j2, h2⟩ : ∃ er x y, gU (l.drop (at_ + j + j1)) = (er, x, y) := ⟨_, _, _, rfl⟩
      rw [List.drop_drop, ← Nat.add_assoc, h2, ent1_eq h2]
      by_cases h20 : e2 = 0
      · subst h20
        rw [if_pos rfl]
        simp only
        obtain ⟨e3, m, j3, h3⟩ : ∃ er x y, gU (l.drop (at_ + j + j1 + j2)) = (er, x, y) := ⟨_, _, _, rfl⟩
        rw [List.drop_drop, show at_ + (j + j1 + j2) = at_ + j + j1 + j2 by omega, h3, ent2_eq h3]
        by_cases h30 : e3 = 0
        · subst h30
          rw [if_pos rfl]
          simp only
          by_cases hp : 9007199254740992 < p
          · rw [if_pos hp, if_neg (by omega)]; rfl
          · rw [if_neg hp]
            by_cases ha : 9007199254740992 < a
            · rw [if_pos ha, if_neg (by omega)]; rfl
            · rw [if_neg ha]
              by_cases hm : 9007199254740992 < m
              · rw [if_pos hm, if_neg (by omega)]; rfl
              · rw [if_neg hm]
                unfold entEnd
                by_cases hz : 0 < nm.length ∧ 1 ≤ p ∧ p ≤ k ∧ m ≤ 1048576
                · rw [if_pos ⟨⟨by omega, by omega, by omega⟩, hz⟩, if_pos hz]
                  simp only [Option.map_some]
                  congr 2
                  omega
                · rw [if_neg (fun h => hz h.2), if_neg hz]; rfl
        · rw [if_neg h30]
          split
          · rename_i heq; simp only [Prod.mk.injEq] at heq; exact absurd heq.1 h30
          · split
            · rfl
            · split <;> rfl
      · rw [if_neg h20]
        split
        · rename_i heq; simp only [Prod.mk.injEq] at heq; exact absurd heq.1 h20
        · split <;> rfl
    · rw [if_neg h10]
      split
      · rename_i heq; simp only [Prod.mk.injEq] at heq; exact absurd heq.1 h10
      · rfl
  · rw [if_neg h0]
    split
    · rename_i heq; simp only [Prod.mk.injEq] at heq; exact absurd heq.1 h0
    · rfl
/-- entries, from a place on. -/
theorem pEnts_step (k n : Nat) (l : List UInt8) (at_ : Nat) (prev : Option ByteArray) :
    pEnts k (n + 1) (l.drop at_) prev = match pEntA l at_ k with
      | none => none
      | some (x, at2) => if nextOk prev x.name = false then none else (pEnts k n (l.drop at2) (some x.name)).map fun r => (x :: r.1, r.2) := by
  conv => lhs; unfold pEnts
  rw [pEnt_abs]
  cases h : pEntA l at_ k with
  | none => rfl
  | some z =>
    obtain ⟨x, at2⟩ := z
    have := pEntA_ge h
    simp only [Option.map_some]
    rw [List.drop_drop, show at_ + (at2 - at_) = at2 by simp only at this; omega]
end Go.Proofs.YtbepcjajbcecnaaGreatDoor
