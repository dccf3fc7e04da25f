/-
  Pages, plain: an index, entry by entry; what is known of its entries. No program here.
-/
import Derived.Test.YtbepcjajbcecnaaGreatDoorMPag12
namespace Go.Proofs.YtbepcjajbcecnaaGreatDoor

/-- what an entry that was read keeps to. -/
structure EntB (k : Nat) (x : AEnt) : Prop where
  n0 : 0 < x.name.size
  n1 : x.name.size ≤ 60
  p0 : 1 ≤ x.pack
  p1 : x.pack ≤ k
  pg : x.pack ≤ 9007199254740992
  a1 : x.pos ≤ 9007199254740992
  l1 : x.long ≤ 1048576
theorem gB_most {l b : List UInt8} {most k : Nat} (h : gB l most = (0, b, k)) : b.length ≤ most := by
  unfold gB at h
  cases hu : gU l with
  | mk e nk =>
    obtain ⟨n, k'⟩ := nk
    rw [hu] at h
    by_cases h0 : e = 0
    · subst h0
      simp only at h
      split at h
      · cases h
      · split at h
        · cases h
        · cases h
          simp only [List.length_take, List.length_drop]
          omega
    · split at h
      · rename_i heq; simp only [Prod.mk.injEq] at heq; exact absurd heq.1 h0
      · rename_i heq; simp only [Prod.mk.injEq] at heq h; exact absurd (heq.1.trans h.1) h0
theorem gB_drop {l b : List UInt8} {most k : Nat} (h : gB l most = (0, b, k)) : k ≤ l.length := by
  unfold gB at h
  cases hu : gU l with
  | mk e nk =>
    obtain ⟨n, k'⟩ := nk
    rw [hu] at h
    by_cases h0 : e = 0
    · subst h0
      obtain ⟨_, _, hj, _, _⟩ := gU_ok hu
      simp only at h
      split at h
      · cases h
      · split at h
        · cases h
        · cases h
          omega
    · split at h
      · rename_i heq; simp only [Prod.mk.injEq] at heq; exact absurd heq.1 h0
      · rename_i heq; simp only [Prod.mk.injEq] at heq h; exact absurd (heq.1.trans h.1) h0
theorem pEnt_bnd {l : List UInt8} {k j : Nat} {x : AEnt} (h : pEnt l k = some (x, j)) : EntB k x := by
  unfold pEnt at h
  split at h
  · rename_i nm j0 hg
    have hm := gB_most hg
    split at h
    · split at h
      · split at h
        · split at h
          · rename_i hc
            obtain ⟨⟨c1, c2, c3⟩, c4, c5, c6, c7⟩ := hc
            cases h
            exact ⟨by show 0 < nm.toArray.size; simpa using c4, by show nm.toArray.size ≤ 60; simpa using hm, c5, c6, c1, c2, c7⟩
          · cases h
        · cases h
      · cases h
    · cases h
  · cases h
theorem pEnts_ok {k n : Nat} {l r : List UInt8} {prev : Option ByteArray} {es : List AEnt} (h : pEnts k n l prev = some (es, r)) :
    es.length = n ∧ (∀ x ∈ es, EntB k x) ∧ es.Pairwise (fun x y => ltS x.name y.name = true) ∧ ∀ t, prev = some t → ∀ x ∈ es, ltS t x.name = true := by
  induction n generalizing l prev es with
  | zero => unfold pEnts at h; cases h; exact ⟨rfl, fun x hx => (by cases hx), List.Pairwise.nil, fun _ _ x hx => (by cases hx)⟩
  | succ n ih =>
    unfold pEnts at h
    cases he : pEnt l k with
    | none => rw [he] at h; cases h
    | some z =>
      obtain ⟨x, j⟩ := z
      rw [he] at h
      simp only at h
      split at h
      · cases h
      · rename_i hno
        cases hr : pEnts k n (l.drop j) (some x.name) with
        | none => rw [hr] at h; cases h
        | some q =>
          rw [hr] at h
          simp only [Option.map_some, Option.some.injEq, Prod.mk.injEq] at h
          obtain ⟨h1, h2⟩ := h
          obtain ⟨i1, i2, i3, i4⟩ := ih (es := q.1) (by rw [hr, ← h2])
          subst h1
          have hb := pEnt_bnd he
          refine ⟨by rw [List.length_cons, i1], fun y hy => ?_, List.pairwise_cons.2 ⟨fun y hy => i4 _ rfl y hy, i3⟩, fun t ht y hy => ?_⟩
          · rcases List.mem_cons.1 hy with rfl | hy
            · exact hb
            · exact i2 y hy
          · subst ht
            have ht : ltS t x.name = true := by
              have : ¬ nextOk (some t) x.name = false := hno
              simpa [nextOk] using this
            rcases List.mem_cons.1 hy with rfl | hy
            · exact ht
            · exact ltS_trans ht (i4 _ rfl y hy)
/-- what an index's bytes, unsealed, say. -/
def pIdx (inn : List UInt8) (k : Nat) : Option (List AEnt) :=
  if inn.take 4 ≠ magicI then none else
  match gU (inn.drop 4) with
  | (0, x, j) =>
    if x ≠ k then none else
    match gU (inn.drop (4 + j)) with
    | (0, n, j2) =>
      if 4096 < n then none else
      match pEnts k n (inn.drop (4 + j + j2)) none with
      | some (es, []) => some es
      | _ => none
    | _ => none
  | _ => none
theorem pIndex_un {b inn : List UInt8} {k : Nat} {er : Int} (h : unsealL sumL b = (er, inn)) : pIndex b k = if er = 0 then pIdx inn k else none := by
  unfold pIndex
  rw [h]
  by_cases h0 : er = 0
  · subst h0; rw [if_pos rfl]; rfl
  · rw [if_neg h0]
    split
    · rename_i heq; simp only [Prod.mk.injEq] at heq; exact absurd heq.1 h0
    · rfl
theorem pIdx_bad0 {inn : List UInt8} {k : Nat} (h : inn.take 4 ≠ magicI) : pIdx inn k = none := by unfold pIdx; rw [if_pos h]
theorem pIdx_bad1 {inn : List UInt8} {k x j : Nat} {er : Int} (h : gU (inn.drop 4) = (er, x, j)) (hb : er ≠ 0 ∨ x ≠ k) : pIdx inn k = none := by
  unfold pIdx
  split
  · rfl
  · rw [h]
    by_cases h0 : er = 0
    · subst h0
      simp only
      rw [if_pos (by rcases hb with hb | hb; exact absurd rfl hb; exact hb)]
    · split
      · rename_i heq; simp only [Prod.mk.injEq] at heq; exact absurd heq.1 h0
      · rfl
theorem pIdx_bad2 {inn : List UInt8} {k j n j2 : Nat} {er : Int} (h : gU (inn.drop 4) = (0, k, j)) (h2 : gU (inn.drop (4 + j)) = (er, n, j2)) (hb : er ≠ 0 ∨ 4096 < n) : pIdx inn k = none := by
  unfold pIdx
  split
  · rfl
  · rw [h]
    simp only
    rw [if_neg (by simp), h2]
    by_cases h0 : er = 0
    · subst h0
      simp only
      rw [if_pos (by rcases hb with hb | hb; exact absurd rfl hb; exact hb)]
    · split
      · rename_i heq; simp only [Prod.mk.injEq] at heq; exact absurd heq.1 h0
      · rfl
theorem pIdx_go {inn : List UInt8} {k j n j2 : Nat} (h0 : inn.take 4 = magicI) (h : gU (inn.drop 4) = (0, k, j)) (h2 : gU (inn.drop (4 + j)) = (0, n, j2)) (hn : n ≤ 4096) : pIdx inn k = match pEnts k n (inn.drop (4 + j + j2)) none with | some (es, []) => some es | _ => none := by
  unfold pIdx
  rw [if_neg (by simp [h0]), h]
  simp only
  rw [if_neg (by simp), h2]
  simp only
  rw [if_neg (by omega)]
def lastN (es : List AEnt) : Option ByteArray := es.getLast?.map (·.name)
/-- behind some entries: n are left, from a place on. -/
structure IdxSo (inn : List UInt8) (k : Nat) (o : Option (List AEnt)) (n at_ : Nat) (es : List AEnt) : Prop where
  le : at_ ≤ inn.length
  so : o = match (pEnts k n (inn.drop at_) (lastN es)).map (fun r => (es ++ r.1, r.2)) with | some (es, []) => some es | _ => none
theorem IdxSo.bad {inn : List UInt8} {k n at_ : Nat} {o : Option (List AEnt)} {es : List AEnt} (h : IdxSo inn k o (n + 1) at_ es) (hb : pEntA inn at_ k = none ∨ ∃ x a2, pEntA inn at_ k = some (x, a2) ∧ nextOk (lastN es) x.name = false) : o = none := by
  rw [h.so, pEnts_step]
  rcases hb with hb | ⟨x, a2, hb, h2⟩
  · rw [hb]; rfl
  · rw [hb]; simp only; rw [if_pos h2]; rfl
theorem IdxSo.next {inn : List UInt8} {k n at_ a2 : Nat} {o : Option (List AEnt)} {es : List AEnt} {x : AEnt} (h : IdxSo inn k o (n + 1) at_ es) (hb : pEntA inn at_ k = some (x, a2)) (hn : nextOk (lastN es) x.name = true) (hle : a2 ≤ inn.length) : IdxSo inn k o n a2 (es ++ [x]) := by
  refine ⟨hle, ?_⟩
  rw [h.so, pEnts_step, hb]
  simp only
  rw [if_neg (by simp [hn])]
  have hl : lastN (es ++ [x]) = some x.name := by simp [lastN]
  rw [hl]
  cases pEnts k n (inn.drop a2) (some x.name) with
  | none => rfl
  | some r => simp only [Option.map_some, List.append_assoc, List.cons_append, List.nil_append]
theorem IdxSo.done {inn : List UInt8} {k at_ : Nat} {o : Option (List AEnt)} {es : List AEnt} (h : IdxSo inn k o 0 at_ es) : o = if at_ = inn.length then some es else none := by
  rw [h.so]
  have hle := h.le
  unfold pEnts
  simp only [Option.map_some, List.append_nil]
  by_cases he : at_ = inn.length
  · rw [if_pos he, he, List.drop_length]
  · rw [if_neg he]
    cases hd : inn.drop at_ with
    | nil => have := congrArg List.length hd; rw [List.length_drop] at this; simp at this; omega
    | cons _ _ => rfl
theorem pEntA_le {l : List UInt8} {at_ k a2 : Nat} {x : AEnt} (hat : at_ ≤ l.length) (h : pEntA l at_ k = some (x, a2)) : a2 ≤ l.length := by
  obtain ⟨er, nm, j, hg⟩ : ∃ er nm j, gB (l.drop at_) 60 = (er, nm, j) := ⟨_, _, _, rfl⟩
  have hd : ∀ {at_ x j : Nat}, at_ ≤ l.length → gU (l.drop at_) = (0, x, j) → at_ + j ≤ l.length := fun h1 h2 => by
    have := (gU_ok h2).2.2.1
    rw [List.length_drop] at this
    omega
  rw [pEntA_eq hg] at h
  split at h
  · rename_i h0
    subst h0
    have hj : at_ + j ≤ l.length := by
      have hq := gB_drop hg
      rw [List.length_drop] at hq
      omega
    obtain ⟨e1, p, j1, h1⟩ : ∃ er x y, gU (l.drop (at_ + j)) = (er, x, y) := ⟨_, _, _, rfl⟩
    rw [ent0_eq h1] at h
    split at h
    · rename_i h10
      subst h10
      split at h
      · cases h
      · obtain ⟨e2, a, j2, h2⟩ : ∃ er x y, gU (l.drop (at_ + j + j1)) = (er, x, y) := ⟨_, _, _, rfl⟩
        rw [ent1_eq h2] at h
        split at h
        · rename_i h20
          subst h20
          split at h
          · cases h
          · obtain ⟨e3, m, j3, h3⟩ : ∃ er x y, gU (l.drop (at_ + j + j1 + j2)) = (er, x, y) := ⟨_, _, _, rfl⟩
            rw [ent2_eq h3] at h
            split at h
            · rename_i h30
              subst h30
              split at h
              · cases h
              · unfold entEnd at h
                split at h
                · cases h
                  exact hd (hd (hd hj h1) h2) h3
                · cases h
            · cases h
        · cases h
    · cases h
  · cases h
end Go.Proofs.YtbepcjajbcecnaaGreatDoor
