/-
  WalSizes, plain: the files of a journal that was built, their order and their sizes. No program here.
-/
import Derived.Test.YtbiadclmonakkaaGreatDoorMWal19
namespace Go.Proofs.YtbiadclmonakkaaGreatDoor

theorem numbered_bs (n : Nat) (L : List (List UInt8)) : (numbered n L).map (·.b) = L := by
  induction L generalizing n with
  | nil => rfl
  | cons b L ih => simp only [numbered, List.map_cons, ih]
theorem numbered_nth {n : Nat} {R : List (List UInt8)} {k : Nat} {x : ARec} (h : (numbered n R)[k]? = some x) : x.n = n + k := by
  induction R generalizing n k with
  | nil => simp [numbered] at h
  | cons b R ih =>
    cases k with
    | zero => simp [numbered] at h; rw [← h]; rfl
    | succ k => have := ih (n := n + 1) (k := k) (by simpa [numbered] using h); omega
def maxX (XL : List XRec) : Nat := XL.foldl (fun m x => max m (x.b.length + 20)) 0
theorem maxX_take (XL : List XRec) (k : Nat) (hk : k < XL.length) : maxX (XL.take (k + 1)) = max (maxX (XL.take k)) (XL[k].b.length + 20) := by
  unfold maxX
  rw [List.take_succ_eq_append_getElem hk, List.foldl_append]
  rfl
theorem foldl_ge (XL : List XRec) (z : Nat) : z ≤ XL.foldl (fun m x => max m (x.b.length + 20)) z ∧ ∀ x ∈ XL, x.b.length + 20 ≤ XL.foldl (fun m x => max m (x.b.length + 20)) z := by
  induction XL generalizing z with
  | nil => exact ⟨Nat.le_refl _, fun x hx => by cases hx⟩
  | cons y r ih =>
    obtain ⟨h1, h2⟩ := ih (max z (y.b.length + 20))
    refine ⟨Nat.le_trans (Nat.le_max_left _ _) h1, fun x hx => ?_⟩
    rcases List.mem_cons.1 hx with rfl | hx
    · exact Nat.le_trans (Nat.le_max_right _ _) h1
    · exact h2 x hx
theorem foldl_le (XL : List XRec) (z B : Nat) (hz : z ≤ B) (h : ∀ x ∈ XL, x.b.length + 20 ≤ B) : XL.foldl (fun m x => max m (x.b.length + 20)) z ≤ B := by
  induction XL generalizing z with
  | nil => exact hz
  | cons y r ih => exact ih _ (Nat.max_le.2 ⟨hz, h y (by simp)⟩) (fun x hx => h x (by simp [hx]))
theorem maxX_ge {XL : List XRec} {n : Nat} {L : List (List UInt8)} (h : XL.map XRec.rec4 = numbered n L) : ∀ b ∈ L, b.length + 20 ≤ maxX XL := by
  intro b hb
  have e : (XL.map XRec.rec4).map (·.b) = L := by rw [h, numbered_bs]
  rw [← e, List.map_map] at hb
  obtain ⟨x, hx, rfl⟩ := List.mem_map.1 hb
  exact (foldl_ge XL 0).2 x hx
theorem maxX_le {XL : List XRec} {n : Nat} {L : List (List UInt8)} (h : XL.map XRec.rec4 = numbered n L) (hl : ∀ b ∈ L, b.length ≤ 40) (k : Nat) : maxX (XL.take k) ≤ 60 := by
  refine foldl_le _ 0 60 (by omega) (fun x hx => ?_)
  have e : (XL.map XRec.rec4).map (·.b) = L := by rw [h, numbered_bs]
  have : x.b ∈ L := by
    rw [← e, List.map_map]
    exact List.mem_map.2 ⟨x, List.mem_of_mem_take hx, rfl⟩
  have := hl _ this
  omega
/-- what WalSizes asks. -/
structure Sz (n0 size : Nat) (L : List (List UInt8)) (d : ADisk) (al : ALog) : Prop where
  perm : al.names.Perm d.names
  srt : Srt d.names
  first : al.first = n0
  pre : ∀ i s, i + 1 < al.names.length → al.names[i]? = some s → size ≤ (afile d s).len ∧ (afile d s).firm.length = (afile d s).len
  small : ∀ s ∈ al.names, ∃ b ∈ L, (afile d s).len < size + b.length + 20
theorem srt_names {d : ADisk} (h : SortedF d.fs) : Srt d.names := by
  unfold Srt ADisk.names
  rw [List.pairwise_map]
  exact h.imp fun h => leS_of_lt h
theorem nodup_names {d : ADisk} (h : SortedF d.fs) : d.names.Nodup := by
  unfold List.Nodup ADisk.names
  rw [List.pairwise_map]
  exact h.imp fun h => ltS_ne h
theorem perm_of {a b : List ByteArray} (ha : a.Nodup) (hb : b.Nodup) (h : ∀ x, x ∈ a ↔ x ∈ b) : a.Perm b := by
  rw [List.perm_ext_iff_of_nodup ha hb]
  exact h
theorem sizes_plain {n0 size : Nat} {L : List (List UInt8)} {d : ADisk} {al : ALog} {ss : List Seg} (h : Built n0 size L d al ss) (hL : L ≠ []) : Sz n0 size L d al := by
  have hnm : al.names = ss.map (fun y => wName y.1) := names_map h.j.segs
  have hon := h.j.on
  have hch := hon.on
  cases hon with
  | bare hb =>
    exfalso
    have := h.recs_len
    apply hL
    exact List.eq_nil_of_length_eq_zero this.symm
  | @some pre x sy hl =>
    have hfull : ∀ y ∈ pre ++ [x], ∃ f, lk d.fs (wName y.1) = some f ∧ f.firm ++ f.loose = cont y ∧ (y ∈ pre → f.loose = []) := by
      intro y hy
      rcases List.mem_append.1 hy with hy | hy
      · exact ⟨_, hl.full y hy, by simp, fun _ => rfl⟩
      · rw [List.mem_singleton] at hy
        subst hy
        by_cases hp : y ∈ pre
        · exact ⟨_, hl.full y hp, by simp, fun _ => rfl⟩
        · obtain ⟨f, h1, h2, _⟩ := hl.last
          exact ⟨f, h1, by rw [h2, List.take_of_length_le (Nat.le_refl _)], fun h => absurd h hp⟩
    have hlen : ∀ y ∈ pre ++ [x], (afile d (wName y.1)).len = (cont y).length := by
      intro y hy
      obtain ⟨f, h1, h2, _⟩ := hfull y hy
      unfold afile
      rw [h1, ← h2, List.length_append]
      rfl
    have hfirst := chain_firsts hl.ch
    have hnd : al.names.Nodup := by
      rw [hnm]
      unfold List.Nodup
      rw [List.pairwise_map]
      rw [List.pairwise_map] at hfirst
      exact hfirst.imp fun h e => by have := wName_inj e; omega
    refine ⟨perm_of hnd (nodup_names h.sorted) (fun u => ⟨fun hu => ?_, fun hu => ?_⟩), srt_names h.sorted, ?_, fun i s hi hs => ?_, fun s hs => ?_⟩
    · rw [hnm] at hu
      obtain ⟨y, hy, rfl⟩ := List.mem_map.1 hu
      obtain ⟨f, h1, _⟩ := hfull y hy
      exact List.mem_map.2 ⟨_, lk_some_mem h1, rfl⟩
    · obtain ⟨⟨u', f⟩, hm, rfl⟩ := List.mem_map.1 hu
      have h1 := mem_lk h.sorted hm
      obtain ⟨n, hn, rfl⟩ := h.only u' (by rw [h1]; simp)
      have h2 := hl.only n hn.1 hn.2 (by rw [h1]; simp)
      rw [hnm]
      obtain ⟨y, hy, e⟩ := List.mem_map.1 h2
      exact List.mem_map.2 ⟨y, hy, by rw [e]⟩
    · have h1 := h.first hL
      unfold ALog.first
      rw [h.j.segs, List.head?_map, Option.map_map]
      have e : (fun x => x.1) ∘ segV = fun y : Seg => y.1 := rfl
      show (Option.map ((fun x => x.1) ∘ segV) _).getD 0 = n0
      rw [e, h1]; rfl
    · rw [hnm, List.length_map, List.length_append, List.length_singleton] at hi
      rw [hnm, List.getElem?_map, List.getElem?_append_left (by omega), List.getElem?_eq_getElem (by omega)] at hs
      have hm : pre[i]'(by omega) ∈ pre := List.getElem_mem _
      cases hs
      rw [hlen _ (by simp [hm])]
      refine ⟨h.full pre x rfl _ hm, ?_⟩
      unfold afile
      rw [hl.full _ hm]
      rfl
    · rw [hnm] at hs
      obtain ⟨y, hy, rfl⟩ := List.mem_map.1 hs
      rw [hlen y hy]
      exact h.small y hy
end Go.Proofs.YtbiadclmonakkaaGreatDoor
