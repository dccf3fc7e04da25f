/-
  The document's disk: files as rows of three cells; a file put in its place, as plain lists.
-/
import Derived.Outline
import Derived.Deep.AppendLies
import Derived.Test.YtlljlkeknklplaaRef4
namespace Go.Proofs.Ytlljlkeknklplaa
open Go.RowKit Go.Maps Go.MapKept
variable {X : Nat → Prop}

/-- a file of the document's, with the slice that has its bytes. -/
structure REnt where
  name : ByteArray
  v : Value
  f : AFile
def REnt.cells (x : REnt) : List Value := [.string x.name, x.v, .int .i64 (x.f.firm.length : Nat)]
def REnt.plain (x : REnt) : ByteArray × AFile := (x.name, x.f)
def REnt.ok (X : Nat → Prop) (w : World) (x : REnt) : Prop := Rd w x.v (bcells (x.f.firm ++ x.f.loose)) ∧ (x.f.firm ++ x.f.loose ≠ [] → ∀ g, x.v.ownBlock = some g → X g)
def flatR (l : List REnt) : List Value := l.flatMap REnt.cells
theorem flatR_cons (a : REnt) (l : List REnt) : flatR (a :: l) = a.cells ++ flatR l := by simp [flatR]
theorem flatR_len (l : List REnt) : (flatR l).length = l.length * 3 := by
  induction l with
  | nil => rfl
  | cons a l ih =>
    rw [flatR_cons, List.length_append, ih, List.length_cons, show a.cells.length = 3 from rfl]
    omega
theorem flatR_append (l m : List REnt) : flatR (l ++ m) = flatR l ++ flatR m := by simp [flatR]
theorem flatR_one (c : REnt) : flatR [c] = c.cells := by simp [flatR]
theorem flatR_at (l : List REnt) (k : Nat) (hk : k < l.length) (j : Nat) (hj : j < 3) : (flatR l)[k * 3 + j]? = l[k].cells[j]? := by
  induction l generalizing k with
  | nil => simp at hk
  | cons a l ih =>
    rw [flatR_cons]
    have ha : a.cells.length = 3 := rfl
    cases k with
    | zero => rw [List.getElem?_append_left (by rw [ha]; omega)]; simp
    | succ k =>
      rw [List.getElem?_append_right (by rw [ha]; omega), ha, show (k + 1) * 3 + j - 3 = k * 3 + j by omega, ih k (by simpa using hk)]
      simp
theorem flatR_one' (l : List REnt) : ∀ u ∈ flatR l, u.oneCell' = true → True := fun _ _ _ => trivial
theorem REnt.ok.below {W w : World} {x : REnt} (h : x.ok X W) (hb : Below W.heap.size W w) : x.ok X w := ⟨rd_low h.1 hb, h.2⟩

/-- what a disk of the document's is made of. -/
theorem RefAt.ents {w : World} {a : Option Addr} {n c : Nat} {d : ADisk} (h : RefAt X w a n c d) :
    ∃ es : List REnt, es.map REnt.plain = d.fs ∧ (∀ x ∈ es, x.ok X w) ∧ ∀ k (hk : k < es.length), ∃ b off, a = some ⟨b, off, none⟩ ∧ ∀ j u, (es[k]'hk).cells[j]? = some u → w.cell? ⟨b, off + k * 3 + j, none⟩ = some u := by
  have each : ∀ k (hk : k < d.fs.length), ∃ x : REnt, x.plain = d.fs[k] ∧ x.ok X w ∧ ∃ b off, a = some ⟨b, off, none⟩ ∧ ∀ j u, x.cells[j]? = some u → w.cell? ⟨b, off + k * 3 + j, none⟩ = some u := by
    intro k hk
    obtain ⟨b, off, vb, ha, c0, c1, c2, hr⟩ := h.atX k hk
    refine ⟨⟨d.fs[k].1, vb, d.fs[k].2⟩, rfl, hr, b, off, ha, fun j u hu => ?_⟩
    match j, hu with
    | 0, hu => cases hu; exact c0
    | 1, hu => cases hu; exact c1
    | 2, hu => cases hu; exact c2
  have : ∀ m, m ≤ d.fs.length → ∃ es : List REnt, es.map REnt.plain = d.fs.take m ∧ (∀ x ∈ es, x.ok X w) ∧ ∀ k (hk : k < es.length), ∃ b off, a = some ⟨b, off, none⟩ ∧ ∀ j u, (es[k]'hk).cells[j]? = some u → w.cell? ⟨b, off + k * 3 + j, none⟩ = some u := by
    intro m
    induction m with
    | zero => exact fun _ => ⟨[], by simp, by simp, fun k hk => by simp at hk⟩
    | succ m ih =>
      intro hm
      obtain ⟨es, h1, h2, h3⟩ := ih (by omega)
      obtain ⟨x, g1, g2, g3⟩ := each m (by omega)
      have hl : es.length = m := by have := congrArg List.length h1; simp at this; omega
      refine ⟨es ++ [x], by rw [List.map_append, h1, List.take_succ_eq_append_getElem (by omega : m < d.fs.length)]; simp [g1], fun y hy => ?_, fun k hk => ?_⟩
      · rcases List.mem_append.1 hy with hy | hy
        · exact h2 y hy
        · rw [List.mem_singleton.1 hy]; exact g2
      · by_cases hkm : k < es.length
        · rw [List.getElem_append_left hkm]
          exact h3 k hkm
        · have : k = m := by simp at hk; omega
          subst this
          rw [List.getElem_append_right (by omega)]
          simp only [hl, Nat.sub_self, List.getElem_cons_zero]
          exact g3
  obtain ⟨es, h1, h2, h3⟩ := this d.fs.length (Nat.le_refl _)
  exact ⟨es, by rw [h1, List.take_length], h2, h3⟩

/-- .. and back. -/
theorem RefAt.of_row {w : World} {base : Nat} {T : TypeId} {a : Option Addr} {n c : Nat} {es : List REnt} {d : ADisk} (h : w.ownsRow base T 3 (.slice a n c) n (flatR es)) (hn : n = es.length) (hm : n ≤ maxLen) (hok : ∀ x ∈ es, x.ok X w) (hd : d.fs = es.map REnt.plain) (hX : ∀ g, (Value.slice a n c).ownBlock = some g → X g) : RefAt X w a n c d := by
  refine ⟨?_, by rw [hd, List.length_map, hn], fun _ => hX⟩
  rcases h.2 with ⟨h1, h0⟩ | ⟨g, cap, cur, hv, hb, hg, hnc, hcm, hcs, ht⟩
  · subst h0
    have : es = [] := List.eq_nil_of_length_eq_zero hn.symm
    rw [hd, this]
    exact Or.inl ⟨Or.inl h1, rfl⟩
  · refine Or.inr ⟨g, 0, n, cap, hv, by rw [hd, List.length_map, hn], hm, fun j q hj => ?_⟩
    rw [hd, List.getElem?_map] at hj
    have hjl : j < es.length := by
      rcases Nat.lt_or_ge j es.length with h | h
      · exact h
      · rw [List.getElem?_eq_none h] at hj; cases hj
    rw [List.getElem?_eq_getElem hjl] at hj
    simp only [Option.map_some, Option.some.injEq] at hj
    subst hj
    refine ⟨es[j].cells, rfl, fun i u hu => ?_, es[j].v, rfl, hok _ (List.getElem_mem hjl)⟩
    have hi : i < 3 := (List.getElem?_eq_some_iff.1 hu).1
    have h1 := flatR_at es j hjl i hi
    rw [hu, ← ht, List.getElem?_take] at h1
    split at h1
    · rw [cell_at hg, Nat.zero_add]
      simpa using h1
    · cases h1

/-! ### put, plainly -/
def aheadF (fs : List (ByteArray × AFile)) (s : ByteArray) : List (ByteArray × AFile) := fs.filter (fun p => ltS p.1 s)
def behindF (fs : List (ByteArray × AFile)) (s : ByteArray) : List (ByteArray × AFile) := fs.filter (fun p => ltS s p.1)
theorem behind_all {p : ByteArray × AFile} {r : List (ByteArray × AFile)} {s : ByteArray} (h1 : ∀ q ∈ r, ltS p.1 q.1 = true) (hp : p.1 = s ∨ ltS s p.1 = true) : aheadF r s = [] ∧ behindF r s = r := by
  have hall : ∀ q ∈ r, ltS s q.1 = true := fun q hq => by
    rcases hp with hp | hp
    · rw [← hp]; exact h1 q hq
    · exact ltS_trans hp (h1 q hq)
  refine ⟨List.filter_eq_nil_iff.2 fun q hq => ?_, List.filter_eq_self.2 fun q hq => hall q hq⟩
  intro h
  have := ltS_trans h (hall q hq)
  rw [ltS_irrefl] at this
  cases this
theorem ltS_asymm {a b : ByteArray} (h : ltS a b = true) : ltS b a = false := by
  cases h2 : ltS b a with
  | false => rfl
  | true => have := ltS_trans h h2; rw [ltS_irrefl] at this; cases this
theorem aheadF_cons (p : ByteArray × AFile) (r : List (ByteArray × AFile)) (s : ByteArray) : aheadF (p :: r) s = if ltS p.1 s = true then p :: aheadF r s else aheadF r s := by unfold aheadF; rw [List.filter_cons]
theorem behindF_cons (p : ByteArray × AFile) (r : List (ByteArray × AFile)) (s : ByteArray) : behindF (p :: r) s = if ltS s p.1 = true then p :: behindF r s else behindF r s := by unfold behindF; rw [List.filter_cons]
theorem putF_parts {fs : List (ByteArray × AFile)} (hs : SortedF fs) (s : ByteArray) (f : AFile) : putF fs s f = (aheadF fs s ++ [(s, f)]) ++ behindF fs s := by
  induction fs with
  | nil => rfl
  | cons p r ih =>
    obtain ⟨h1, h2⟩ := List.pairwise_cons.1 hs
    rw [aheadF_cons, behindF_cons]
    simp only [putF]
    split
    · rename_i h
      obtain ⟨e1, e2⟩ := behind_all h1 (Or.inl h)
      rw [h, ltS_irrefl, if_neg (by simp), if_neg (by simp), e1, e2]
      rfl
    · split
      · rename_i h
        obtain ⟨e1, e2⟩ := behind_all h1 (Or.inr h)
        rw [ltS_asymm h, if_neg (by simp), e1, e2]
        rfl
      · rename_i hne hlt
        have hp : ltS p.1 s = true := by
          rcases ltS_total p.1 s with h | h | h
          · exact h
          · exact absurd h hne
          · exact absurd h hlt
        rw [ih h2, if_pos hp]
        rfl
theorem delF_parts {fs : List (ByteArray × AFile)} (hs : SortedF fs) (s : ByteArray) : delF fs s = aheadF fs s ++ behindF fs s := by
  induction fs with
  | nil => rfl
  | cons p r ih =>
    obtain ⟨h1, h2⟩ := List.pairwise_cons.1 hs
    have ih := ih h2
    rw [aheadF_cons, behindF_cons]
    unfold delF at *
    rcases ltS_total p.1 s with h | h | h
    · rw [List.filter_cons_of_pos (by simpa using ltS_ne h), ih, if_pos h, if_neg (by rw [ltS_asymm h]; simp)]
      rfl
    · rw [List.filter_cons_of_neg (by simp [h]), ih, h, ltS_irrefl, if_neg (by simp), if_neg (by simp)]
    · obtain ⟨e1, e2⟩ := behind_all h1 (Or.inr h)
      rw [List.filter_cons_of_pos (by simpa using (ltS_ne h).symm), ih, e1, e2, if_neg (by rw [ltS_asymm h]; simp), if_pos h]
      rfl
end Go.Proofs.Ytlljlkeknklplaa
