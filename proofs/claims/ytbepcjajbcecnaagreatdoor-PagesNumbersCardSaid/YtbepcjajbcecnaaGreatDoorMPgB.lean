/-
  Pages, plain: an index's entry, number by number; entries one by one. No program here.
-/
import Derived.Test.YtbepcjajbcecnaaGreatDoorMPgA
namespace Go.Proofs.YtbepcjajbcecnaaGreatDoor

def entEnd (nm : List UInt8) (k at_ p a m : Nat) : Option (AEnt × Nat) := if 0 < nm.length ∧ 1 ≤ p ∧ p ≤ k ∧ m ≤ 1048576 then some (⟨⟨nm.toArray⟩, p, a, m⟩, at_) else none
def ent2 (nm l : List UInt8) (k at_ p a : Nat) : Option (AEnt × Nat) :=
  match gU (l.drop at_) with
  | (0, x, j) => if 9007199254740992 < x then none else entEnd nm k (at_ + j) p a x
  | _ => none
def ent1 (nm l : List UInt8) (k at_ p : Nat) : Option (AEnt × Nat) :=
  match gU (l.drop at_) with
  | (0, x, j) => if 9007199254740992 < x then none else ent2 nm l k (at_ + j) p x
  | _ => none
def ent0 (nm l : List UInt8) (k at_ : Nat) : Option (AEnt × Nat) :=
  match gU (l.drop at_) with
  | (0, x, j) => if 9007199254740992 < x then none else ent1 nm l k (at_ + j) x
  | _ => none
/-- an entry of which i numbers are known. -/
def entK (nm l : List UInt8) (k i at_ p a m : Nat) : Option (AEnt × Nat) :=
  match i with
  | 0 => ent0 nm l k at_
  | 1 => ent1 nm l k at_ p
  | 2 => ent2 nm l k at_ p a
  | _ => entEnd nm k at_ p a m
section
variable {nm l : List UInt8} {k at_ p a m x j : Nat} {er : Int}
theorem ent2_eq (h : gU (l.drop at_) = (er, x, j)) : ent2 nm l k at_ p a = if er = 0 then (if 9007199254740992 < x then none else entEnd nm k (at_ + j) p a x) else none := by
  unfold ent2; rw [h]
  by_cases h0 : er = 0
  · subst h0; rw [if_pos rfl]; rfl
  · rw [if_neg h0]
    split
    · rename_i heq; simp only [Prod.mk.injEq] at heq; exact absurd heq.1 h0
    · rfl
theorem ent1_eq (h : gU (l.drop at_) = (er, x, j)) : ent1 nm l k at_ p = if er = 0 then (if 9007199254740992 < x then none else ent2 nm l k (at_ + j) p x) else none := by
  unfold ent1; rw [h]
  by_cases h0 : er = 0
  · subst h0; rw [if_pos rfl]; rfl
  · rw [if_neg h0]
    split
    · rename_i heq; simp only [Prod.mk.injEq] at heq; exact absurd heq.1 h0
    · rfl
theorem ent0_eq (h : gU (l.drop at_) = (er, x, j)) : ent0 nm l k at_ = if er = 0 then (if 9007199254740992 < x then none else ent1 nm l k (at_ + j) x) else none := by
  unfold ent0; rw [h]
  by_cases h0 : er = 0
  · subst h0; rw [if_pos rfl]; rfl
  · rw [if_neg h0]
    split
    · rename_i heq; simp only [Prod.mk.injEq] at heq; exact absurd heq.1 h0
    · rfl
/-- a number is read that may not be: all is over. -/
theorem entK_bad {i : Nat} (hi : i < 3) (h : gU (l.drop at_) = (er, x, j)) (hb : er ≠ 0 ∨ 9007199254740992 < x) : entK nm l k i at_ p a m = none := by
  obtain rfl | rfl | rfl : i = 0 ∨ i = 1 ∨ i = 2 := by omega
  · show ent0 nm l k at_ = none
    rw [ent0_eq h]
    split
    · rename_i h0; rcases hb with hb | hb; exact absurd h0 hb; rw [if_pos hb]
    · rfl
  · show ent1 nm l k at_ p = none
    rw [ent1_eq h]
    split
    · rename_i h0; rcases hb with hb | hb; exact absurd h0 hb; rw [if_pos hb]
    · rfl
  · show ent2 nm l k at_ p a = none
    rw [ent2_eq h]
    split
    · rename_i h0; rcases hb with hb | hb; exact absurd h0 hb; rw [if_pos hb]
    · rfl
theorem entK_0 (h : gU (l.drop at_) = (0, x, j)) (hx : x ≤ 9007199254740992) : entK nm l k 0 at_ 0 0 0 = entK nm l k 1 (at_ + j) x 0 0 := by
  show ent0 nm l k at_ = ent1 nm l k (at_ + j) x
  rw [ent0_eq h, if_pos rfl, if_neg (by omega)]
theorem entK_1 (h : gU (l.drop at_) = (0, x, j)) (hx : x ≤ 9007199254740992) : entK nm l k 1 at_ p 0 0 = entK nm l k 2 (at_ + j) p x 0 := by
  show ent1 nm l k at_ p = ent2 nm l k (at_ + j) p x
  rw [ent1_eq h, if_pos rfl, if_neg (by omega)]
theorem entK_2 (h : gU (l.drop at_) = (0, x, j)) (hx : x ≤ 9007199254740992) : entK nm l k 2 at_ p a 0 = entK nm l k 3 (at_ + j) p a x := by
  show ent2 nm l k at_ p a = entEnd nm k (at_ + j) p a x
  rw [ent2_eq h, if_pos rfl, if_neg (by omega)]
theorem ent2_ge {z : AEnt × Nat} (h : ent2 nm l k at_ p a = some z) : at_ ≤ z.2 := by
  obtain ⟨er, x, j, hg⟩ : ∃ er x j, gU (l.drop at_) = (er, x, j) := ⟨_, _, _, rfl⟩
  rw [ent2_eq hg] at h
  unfold entEnd at h
  split at h
  · split at h
    · cases h
    · split at h
      · cases h; simp
      · cases h
  · cases h
theorem ent1_ge {z : AEnt × Nat} (h : ent1 nm l k at_ p = some z) : at_ ≤ z.2 := by
  obtain ⟨er, x, j, hg⟩ : ∃ er x j, gU (l.drop at_) = (er, x, j) := ⟨_, _, _, rfl⟩
  rw [ent1_eq hg] at h
  split at h
  · split at h
    · cases h
    · have := ent2_ge h; omega
  · cases h
theorem ent0_ge {z : AEnt × Nat} (h : ent0 nm l k at_ = some z) : at_ ≤ z.2 := by
  obtain ⟨er, x, j, hg⟩ : ∃ er x j, gU (l.drop at_) = (er, x, j) := ⟨_, _, _, rfl⟩
  rw [ent0_eq hg] at h
  split at h
  · split at h
    · cases h
    · have := ent1_ge h; omega
  · cases h
end
/-- the entry at a place: it, and the place behind it. -/
def pEntA (l : List UInt8) (at_ k : Nat) : Option (AEnt × Nat) :=
  match gB (l.drop at_) 60 with
  | (0, nm, j) => ent0 nm l k (at_ + j)
  | _ => none
theorem pEntA_eq {l nm : List UInt8} {at_ k j : Nat} {er : Int} (h : gB (l.drop at_) 60 = (er, nm, j)) : pEntA l at_ k = if er = 0 then ent0 nm l k (at_ + j) else none := by
  unfold pEntA; rw [h]
  by_cases h0 : er = 0
  · subst h0; rw [if_pos rfl]; rfl
  · rw [if_neg h0]
    split
    · rename_i heq; simp only [Prod.mk.injEq] at heq; exact absurd heq.1 h0
    · rfl
theorem pEntA_ge {l : List UInt8} {at_ k : Nat} {z : AEnt × Nat} (h : pEntA l at_ k = some z) : at_ ≤ z.2 := by
  obtain ⟨er, nm, j, hg⟩ : ∃ er nm j, gB (l.drop at_) 60 = (er, nm, j) := ⟨_, _, _, rfl⟩
  rw [pEntA_eq hg] at h
  split at h
  · have := ent0_ge h; omega
  · cases h
theorem pEnt_abs (l : List UInt8) (at_ k : Nat) : pEnt (l.drop at_) k = (pEntA l at_ k).map fun r => (r.1, r.2 - at_) := by
  obtain ⟨er, nm, j, hg⟩ : ∃ er nm j, gB (l.drop at_) 60 = (er, nm, j) := ⟨_, _, _, rfl⟩
  rw [pEntA_eq hg]
  unfold pEnt
  rw [hg]
  by_cases h0 : er = 0
  · subst h0
    rw [if_pos rfl]
    simp only
    obtain ⟨e1, p, j1, h1⟩ : ∃ er x y, gU (l.drop (at_ + j)) = (er, x, y) := ⟨_, _, _, rfl⟩
    rw [List.drop_drop, h1, ent0_eq h1]
    by_cases h10 : e1 = 0
    · subst h10
      rw [if_pos rfl]
      simp only
      obtain ⟨e2, a, j2, h2⟩ : ∃ er x y, gU (l.drop (at_ + j + j1)) = (er, x, y) := ⟨_, _, _, rfl⟩
      rw [List.drop_drop, ← Nat.add_assoc, h2, ent1_eq h2]
      by_cases h20 : e2 = 0
      · subst h20
        rw [if_pos rfl]
        simp only
        obtain ⟨e3, m, j3, h3⟩ : ∃ er x y, gU (l.drop (at_ + j + j1 + j2)) = (er, x, y) := ⟨_, _, _, rfl⟩
        rw [List.drop_drop, show at_ + (j + j1 + j2) = at_ + j + j1 + j2 by omega, h3, ent2_eq h3]
        by_cases h30 : e3 = 0
        · subst h30
          rw [if_pos rfl]
          simp only
          by_cases hp : 9007199254740992 < p
          · rw [if_pos hp, if_neg (by omega)]; rfl
          · rw [if_neg hp]
            by_cases ha : 9007199254740992 < a
            · rw [if_pos ha, if_neg (by omega)]; rfl
            · rw [if_neg ha]
              by_cases hm : 9007199254740992 < m
              · rw [if_pos hm, if_neg (by omega)]; rfl
              · rw [if_neg hm]
                unfold entEnd
                by_cases hz : 0 < nm.length ∧ 1 ≤ p ∧ p ≤ k ∧ m ≤ 1048576
                · rw [if_pos ⟨⟨by omega, by omega, by omega⟩, hz⟩, if_pos hz]
                  simp only [Option.map_some]
                  congr 2
                  omega
                · rw [if_neg (fun h => hz h.2), if_neg hz]; rfl
        · rw [if_neg h30]
          split
          · rename_i heq; simp only [Prod.mk.injEq] at heq; exact absurd heq.1 h30
          · split
            · rfl
            · split <;> rfl
      · rw [if_neg h20]
        split
        · rename_i heq; simp only [Prod.mk.injEq] at heq; exact absurd heq.1 h20
        · split <;> rfl
    · rw [if_neg h10]
      split
      · rename_i heq; simp only [Prod.mk.injEq] at heq; exact absurd heq.1 h10
      · rfl
  · rw [if_neg h0]
    split
    · rename_i heq; simp only [Prod.mk.injEq] at heq; exact absurd heq.1 h0
    · rfl
/-- entries, from a place on. -/
theorem pEnts_step (k n : Nat) (l : List UInt8) (at_ : Nat) (prev : Option ByteArray) :
    pEnts k (n + 1) (l.drop at_) prev = match pEntA l at_ k with
      | none => none
      | some (x, at2) => if nextOk prev x.name = false then none else (pEnts k n (l.drop at2) (some x.name)).map fun r => (x :: r.1, r.2) := by
  conv => lhs; unfold pEnts
  rw [pEnt_abs]
  cases h : pEntA l at_ k with
  | none => rfl
  | some z =>
    obtain ⟨x, at2⟩ := z
    have := pEntA_ge h
    simp only [Option.map_some]
    rw [List.drop_drop, show at_ + (at2 - at_) = at2 by simp only at this; omega]
end Go.Proofs.YtbepcjajbcecnaaGreatDoor

/-
  Pages, plain: an index, entry by entry; what is known of its entries. No program here.
-/
namespace Go.Proofs.YtbepcjajbcecnaaGreatDoor

/-- what an entry that was read keeps to. -/
structure EntB (k : Nat) (x : AEnt) : Prop where
  n0 : 0 < x.name.size
  n1 : x.name.size ≤ 60
  p0 : 1 ≤ x.pack
  p1 : x.pack ≤ k
  pg : x.pack ≤ 9007199254740992
  a1 : x.pos ≤ 9007199254740992
  l1 : x.long ≤ 1048576
theorem gB_most {l b : List UInt8} {most k : Nat} (h : gB l most = (0, b, k)) : b.length ≤ most := by
  unfold gB at h
  cases hu : gU l with
  | mk e nk =>
    obtain ⟨n, k'⟩ := nk
    rw [hu] at h
    by_cases h0 : e = 0
    · subst h0
      simp only at h
      split at h
      · cases h
      · split at h
        · cases h
        · cases h
          simp only [List.length_take, List.length_drop]
          omega
    · split at h
      · rename_i heq; simp only [Prod.mk.injEq] at heq; exact absurd heq.1 h0
      · rename_i heq; simp only [Prod.mk.injEq] at heq h; exact absurd (heq.1.trans h.1) h0
theorem gB_drop {l b : List UInt8} {most k : Nat} (h : gB l most = (0, b, k)) : k ≤ l.length := by
  unfold gB at h
  cases hu : gU l with
  | mk e nk =>
    obtain ⟨n, k'⟩ := nk
    rw [hu] at h
    by_cases h0 : e = 0
    · subst h0
      obtain ⟨_, _, hj, _, _⟩ := gU_ok hu
      simp only at h
      split at h
      · cases h
      · split at h
        · cases h
        · cases h
          omega
    · split at h
      · rename_i heq; simp only [Prod.mk.injEq] at heq; exact absurd heq.1 h0
      · rename_i heq; simp only [Prod.mk.injEq] at heq h; exact absurd (heq.1.trans h.1) h0
theorem pEnt_bnd {l : List UInt8} {k j : Nat} {x : AEnt} (h : pEnt l k = some (x, j)) : EntB k x := by
  unfold pEnt at h
  split at h
  · rename_i nm j0 hg
    have hm := gB_most hg
    split at h
    · split at h
      · split at h
        · split at h
          · rename_i hc
            obtain ⟨⟨c1, c2, c3⟩, c4, c5, c6, c7⟩ := hc
            cases h
            exact ⟨by show 0 < nm.toArray.size; simpa using c4, by show nm.toArray.size ≤ 60; simpa using hm, c5, c6, c1, c2, c7⟩
          · cases h
        · cases h
      · cases h
    · cases h
  · cases h
theorem pEnts_ok {k n : Nat} {l r : List UInt8} {prev : Option ByteArray} {es : List AEnt} (h : pEnts k n l prev = some (es, r)) :
    es.length = n ∧ (∀ x ∈ es, EntB k x) ∧ es.Pairwise (fun x y => ltS x.name y.name = true) ∧ ∀ t, prev = some t → ∀ x ∈ es, ltS t x.name = true := by
  induction n generalizing l prev es with
  | zero => unfold pEnts at h; cases h; exact ⟨rfl, fun x hx => (by cases hx), List.Pairwise.nil, fun _ _ x hx => (by cases hx)⟩
  | succ n ih =>
    unfold pEnts at h
    cases he : pEnt l k with
    | none => rw [he] at h; cases h
    | some z =>
      obtain ⟨x, j⟩ := z
      rw [he] at h
      simp only at h
      split at h
      · cases h
      · rename_i hno
        cases hr : pEnts k n (l.drop j) (some x.name) with
        | none => rw [hr] at h; cases h
        | some q =>
          rw [hr] at h
          simp only [Option.map_some, Option.some.injEq, Prod.mk.injEq] at h
          obtain ⟨h1, h2⟩ := h
          obtain ⟨i1, i2, i3, i4⟩ := ih (es := q.1) (by rw [hr, ← h2])
          subst h1
          have hb := pEnt_bnd he
          refine ⟨by rw [List.length_cons, i1], fun y hy => ?_, List.pairwise_cons.2 ⟨fun y hy => i4 _ rfl y hy, i3⟩, fun t ht y hy => ?_⟩
          · rcases List.mem_cons.1 hy with rfl | hy
            · exact hb
            · exact i2 y hy
          · subst ht
            have ht : ltS t x.name = true := by
              have : ¬ nextOk (some t) x.name = false := hno
              simpa [nextOk] using this
            rcases List.mem_cons.1 hy with rfl | hy
            · exact ht
            · exact ltS_trans ht (i4 _ rfl y hy)
/-- what an index's bytes, unsealed, say. -/
def pIdx (inn : List UInt8) (k : Nat) : Option (List AEnt) :=
  if inn.take 4 ≠ magicI then none else
  match gU (inn.drop 4) with
  | (0, x, j) =>
    if x ≠ k then none else
    match gU (inn.drop (4 + j)) with
    | (0, n, j2) =>
      if 4096 < n then none else
      match pEnts k n (inn.drop (4 + j + j2)) none with
      | some (es, []) => some es
      | _ => none
    | _ => none
  | _ => none
theorem pIndex_un {b inn : List UInt8} {k : Nat} {er : Int} (h : unsealL sumL b = (er, inn)) : pIndex b k = if er = 0 then pIdx inn k else none := by
  unfold pIndex
  rw [h]
  by_cases h0 : er = 0
  · subst h0; rw [if_pos rfl]; rfl
  · rw [if_neg h0]
    split
    · rename_i heq; simp only [Prod.mk.injEq] at heq; exact absurd heq.1 h0
    · rfl
theorem pIdx_bad0 {inn : List UInt8} {k : Nat} (h : inn.take 4 ≠ magicI) : pIdx inn k = none := by unfold pIdx; rw [if_pos h]
theorem pIdx_bad1 {inn : List UInt8} {k x j : Nat} {er : Int} (h : gU (inn.drop 4) = (er, x, j)) (hb : er ≠ 0 ∨ x ≠ k) : pIdx inn k = none := by
  unfold pIdx
  split
  · rfl
  · rw [h]
    by_cases h0 : er = 0
    · subst h0
      simp only
      rw [if_pos (by rcases hb with hb | hb; exact absurd rfl hb; exact hb)]
    · split
      · rename_i heq; simp only [Prod.mk.injEq] at heq; exact absurd heq.1 h0
      · rfl
theorem pIdx_bad2 {inn : List UInt8} {k j n j2 : Nat} {er : Int} (h : gU (inn.drop 4) = (0, k, j)) (h2 : gU (inn.drop (4 + j)) = (er, n, j2)) (hb : er ≠ 0 ∨ 4096 < n) : pIdx inn k = none := by
  unfold pIdx
  split
  · rfl
  · rw [h]
    simp only
    rw [if_neg (by simp), h2]
    by_cases h0 : er = 0
    · subst h0
      simp only
      rw [if_pos (by rcases hb with hb | hb; exact absurd rfl hb; exact hb)]
    · split
      · rename_i heq; simp only [Prod.mk.injEq] at heq; exact absurd heq.1 h0
      · rfl
theorem pIdx_go {inn : List UInt8} {k j n j2 : Nat} (h0 : inn.take 4 = magicI) (h : gU (inn.drop 4) = (0, k, j)) (h2 : gU (inn.drop (4 + j)) = (0, n, j2)) (hn : n ≤ 4096) : pIdx inn k = match pEnts k n (inn.drop (4 + j + j2)) none with | some (es, []) => some es | _ => none := by
  unfold pIdx
  rw [if_neg (by simp [h0]), h]
  simp only
  rw [if_neg (by simp), h2]
  simp only
  rw [if_neg (by omega)]
def lastN (es : List AEnt) : Option ByteArray := es.getLast?.map (·.name)
/-- behind some entries: n are left, from a place on. -/
structure IdxSo (inn : List UInt8) (k : Nat) (o : Option (List AEnt)) (n at_ : Nat) (es : List AEnt) : Prop where
  le : at_ ≤ inn.length
  so : o = match (pEnts k n (inn.drop at_) (lastN es)).map (fun r => (es ++ r.1, r.2)) with | some (es, []) => some es | _ => none
theorem IdxSo.bad {inn : List UInt8} {k n at_ : Nat} {o : Option (List AEnt)} {es : List AEnt} (h : IdxSo inn k o (n + 1) at_ es) (hb : pEntA inn at_ k = none ∨ ∃ x a2, pEntA inn at_ k = some (x, a2) ∧ nextOk (lastN es) x.name = false) : o = none := by
  rw [h.so, pEnts_step]
  rcases hb with hb | ⟨x, a2, hb, h2⟩
  · rw [hb]; rfl
  · rw [hb]; simp only; rw [if_pos h2]; rfl
theorem IdxSo.next {inn : List UInt8} {k n at_ a2 : Nat} {o : Option (List AEnt)} {es : List AEnt} {x : AEnt} (h : IdxSo inn k o (n + 1) at_ es) (hb : pEntA inn at_ k = some (x, a2)) (hn : nextOk (lastN es) x.name = true) (hle : a2 ≤ inn.length) : IdxSo inn k o n a2 (es ++ [x]) := by
  refine ⟨hle, ?_⟩
  rw [h.so, pEnts_step, hb]
  simp only
  rw [if_neg (by simp [hn])]
  have hl : lastN (es ++ [x]) = some x.name := by simp [lastN]
  rw [hl]
  cases pEnts k n (inn.drop a2) (some x.name) with
  | none => rfl
  | some r => simp only [Option.map_some, List.append_assoc, List.cons_append, List.nil_append]
theorem IdxSo.done {inn : List UInt8} {k at_ : Nat} {o : Option (List AEnt)} {es : List AEnt} (h : IdxSo inn k o 0 at_ es) : o = if at_ = inn.length then some es else none := by
  rw [h.so]
  have hle := h.le
  unfold pEnts
  simp only [Option.map_some, List.append_nil]
  by_cases he : at_ = inn.length
  · rw [if_pos he, he, List.drop_length]
  · rw [if_neg he]
    cases hd : inn.drop at_ with
    | nil => have := congrArg List.length hd; rw [List.length_drop] at this; simp at this; omega
    | cons _ _ => rfl
theorem pEntA_le {l : List UInt8} {at_ k a2 : Nat} {x : AEnt} (hat : at_ ≤ l.length) (h : pEntA l at_ k = some (x, a2)) : a2 ≤ l.length := by
  obtain ⟨er, nm, j, hg⟩ : ∃ er nm j, gB (l.drop at_) 60 = (er, nm, j) := ⟨_, _, _, rfl⟩
  have hd : ∀ {at_ x j : Nat}, at_ ≤ l.length → gU (l.drop at_) = (0, x, j) → at_ + j ≤ l.length := fun h1 h2 => by
    have := (gU_ok h2).2.2.1
    rw [List.length_drop] at this
    omega
  rw [pEntA_eq hg] at h
  split at h
  · rename_i h0
    subst h0
    have hj : at_ + j ≤ l.length := by
      have hq := gB_drop hg
      rw [List.length_drop] at hq
      omega
    obtain ⟨e1, p, j1, h1⟩ : ∃ er x y, gU (l.drop (at_ + j)) = (er, x, y) := ⟨_, _, _, rfl⟩
    rw [ent0_eq h1] at h
    split at h
    · rename_i h10
      subst h10
      split at h
      · cases h
      · obtain ⟨e2, a, j2, h2⟩ : ∃ er x y, gU (l.drop (at_ + j + j1)) = (er, x, y) := ⟨_, _, _, rfl⟩
        rw [ent1_eq h2] at h
        split at h
        · rename_i h20
          subst h20
          split at h
          · cases h
          · obtain ⟨e3, m, j3, h3⟩ : ∃ er x y, gU (l.drop (at_ + j + j1 + j2)) = (er, x, y) := ⟨_, _, _, rfl⟩
            rw [ent2_eq h3] at h
            split at h
            · rename_i h30
              subst h30
              split at h
              · cases h
              · unfold entEnd at h
                split at h
                · cases h
                  exact hd (hd (hd hj h1) h2) h3
                · cases h
            · cases h
        · cases h
    · cases h
  · cases h
end Go.Proofs.YtbepcjajbcecnaaGreatDoor

/-
  Pages, plain: a commit's blobs are loaded one by one. No program here.
-/
namespace Go.Proofs.YtbepcjajbcecnaaGreatDoor

def okB (d : ADisk) (x : AEnt) : Prop := findErr d (cName x.pack) = 0 ∧ x.pos + x.long ≤ (d.readBytes (cName x.pack)).length
def blobB (d : ADisk) (x : AEnt) : ABlob := ⟨((d.readBytes (cName x.pack)).drop x.pos).take x.long, x.pack, x.pos⟩
def blobsB (d : ADisk) (es : List AEnt) : List (ByteArray × ABlob) := es.map fun x => (x.name, blobB d x)
theorem pBlobs_all {d : ADisk} {es : List AEnt} (h : ∀ x ∈ es, okB d x) : pBlobs d es = some (blobsB d es) := by
  induction es with
  | nil => rfl
  | cons x es ih =>
    obtain ⟨h1, h2⟩ := h x (by simp)
    unfold pBlobs
    rw [if_neg (by rintro (e | e); exact e h1; omega), ih (fun y hy => h y (by simp [hy]))]
    rfl
theorem pBlobs_no {d : ADisk} {es : List AEnt} {x : AEnt} (hx : x ∈ es) (h : ¬ okB d x) : pBlobs d es = none := by
  induction es with
  | nil => cases hx
  | cons y es ih =>
    unfold pBlobs
    by_cases hy : findErr d (cName y.pack) ≠ 0 ∨ (d.readBytes (cName y.pack)).length < y.pos + y.long
    · rw [if_pos hy]
    · rw [if_neg hy]
      rcases List.mem_cons.1 hx with rfl | hx
      · exact absurd ⟨by by_cases e : findErr d (cName x.pack) = 0; exact e; exact absurd (Or.inl e) hy, by by_cases e : (d.readBytes (cName x.pack)).length < x.pos + x.long; exact absurd (Or.inr e) hy; omega⟩ h
      · rw [ih hx]; rfl
/-- an index's entries as they come. -/
structure EntsB (k : Nat) (es : List AEnt) : Prop where
  len : es.length ≤ 4096
  bnd : ∀ x ∈ es, EntB k x
  rise : es.Pairwise (fun x y => ltS x.name y.name = true)
theorem pIdx_ents {inn : List UInt8} {k : Nat} {es : List AEnt} (h : pIdx inn k = some es) : EntsB k es := by
  unfold pIdx at h
  split at h
  · cases h
  · split at h
    · split at h
      · cases h
      · split at h
        · rename_i n _ _
          split at h
          · cases h
          · rename_i hn
            split at h
            · rename_i hp
              cases h
              obtain ⟨h1, h2, h3, _⟩ := pEnts_ok hp
              exact ⟨by omega, h2, h3⟩
            · cases h
        · cases h
    · cases h
theorem pIndex_ents {b : List UInt8} {k : Nat} {es : List AEnt} (h : pIndex b k = some es) : EntsB k es := by
  obtain ⟨er, inn, hun⟩ : ∃ er inn, unsealL sumL b = (er, inn) := ⟨_, _, rfl⟩
  rw [pIndex_un hun] at h
  split at h
  · exact pIdx_ents h
  · cases h
theorem EntsB.sorted {k : Nat} {es : List AEnt} (h : EntsB k es) (d : ADisk) : SortedB (blobsB d es) := by
  unfold SortedB blobsB
  rw [List.pairwise_map]
  exact h.rise
theorem take_succ_B {d : ADisk} {k : Nat} {es : List AEnt} (h : EntsB k es) {j : Nat} (hj : j < es.length) : blobsB d (es.take (j + 1)) = putB (blobsB d (es.take j)) es[j].name (blobB d es[j]) := by
  have hl : ∀ p ∈ blobsB d (es.take j), ltS p.1 es[j].name = true := fun p hp => by
    obtain ⟨x, hx, rfl⟩ := List.mem_map.1 hp
    obtain ⟨i, hi, rfl⟩ := List.getElem_of_mem hx
    rw [List.length_take] at hi
    rw [List.getElem_take]
    exact List.pairwise_iff_getElem.1 h.rise i j (by omega) hj (by omega)
  rw [putB_last _ hl, List.take_succ_eq_append_getElem hj]
  unfold blobsB
  rw [List.map_append]
  rfl
theorem kB_take_none {d : ADisk} {k : Nat} {es : List AEnt} (h : EntsB k es) {j : Nat} (hj : j < es.length) : kB (blobsB d (es.take j)) es[j].name = none := by
  cases hk : kB (blobsB d (es.take j)) es[j].name with
  | none => rfl
  | some f =>
    exfalso
    have hm := kB_some_mem hk
    obtain ⟨x, hx, he⟩ := List.mem_map.1 hm
    obtain ⟨i, hi, rfl⟩ := List.getElem_of_mem hx
    rw [List.length_take] at hi
    rw [List.getElem_take] at he
    have h2 := List.pairwise_iff_getElem.1 h.rise i j (by omega) hj (by omega)
    simp only [Prod.mk.injEq] at he
    exact absurd he.1 (ltS_ne h2)
theorem pLoad_err {d : ADisk} {k : Nat} (h : findErr d (iName k) ≠ 0) : pLoad d k = ([], if findErr d (iName k) = 13 then (if k = 0 then 0 else 14) else findErr d (iName k)) := by
  unfold pLoad
  by_cases h13 : findErr d (iName k) = 13
  · rw [if_pos h13, if_pos h13]
  · rw [if_neg h13, if_pos h, if_neg h13]
theorem pLoad_zero {d : ADisk} (h : findErr d (iName 0) = 0) : pLoad d 0 = ([], 0) := by
  unfold pLoad
  rw [if_neg (by rw [h]; decide), if_neg (by rw [h]; simp), if_pos rfl]
theorem pLoad_none {d : ADisk} {k : Nat} (h : findErr d (iName k) = 0) (hk : k ≠ 0) (hi : pIndex (d.readBytes (iName k)) k = none) : pLoad d k = ([], 14) := by
  unfold pLoad
  rw [if_neg (by rw [h]; decide), if_neg (by rw [h]; simp), if_neg hk, hi]
theorem pLoad_bad {d : ADisk} {k : Nat} {es : List AEnt} (h : findErr d (iName k) = 0) (hk : k ≠ 0) (hi : pIndex (d.readBytes (iName k)) k = some es) {x : AEnt} (hx : x ∈ es) (hb : ¬ okB d x) : pLoad d k = ([], 14) := by
  unfold pLoad
  rw [if_neg (by rw [h]; decide), if_neg (by rw [h]; simp), if_neg hk, hi]
  simp only
  rw [pBlobs_no hx hb]
theorem pLoad_all {d : ADisk} {k : Nat} {es : List AEnt} (h : findErr d (iName k) = 0) (hk : k ≠ 0) (hi : pIndex (d.readBytes (iName k)) k = some es) (hb : ∀ x ∈ es, okB d x) : pLoad d k = (blobsB d es, 0) := by
  unfold pLoad
  rw [if_neg (by rw [h]; decide), if_neg (by rw [h]; simp), if_neg hk, hi]
  simp only
  rw [pBlobs_all hb]
theorem readBytes_le {d : ADisk} (h : d.WF) (s : ByteArray) : (d.readBytes s).length ≤ 16777216 := by
  unfold ADisk.readBytes
  split
  · have h1 := afile_le h s
    have h2 := h.used
    have h3 := h.most1
    unfold AFile.len at h1
    rw [List.length_append]
    omega
  · simp
end Go.Proofs.YtbepcjajbcecnaaGreatDoor
