/-
  Pages, plain: a commit's blobs are loaded one by one. No program here.
-/
import Derived.Test.YtbepcjajbcecnaaGreatDoorMPag13
namespace Go.Proofs.YtbepcjajbcecnaaGreatDoor

def okB (d : ADisk) (x : AEnt) : Prop := findErr d (cName x.pack) = 0 ∧ x.pos + x.long ≤ (d.readBytes (cName x.pack)).length
def blobB (d : ADisk) (x : AEnt) : ABlob := ⟨((d.readBytes (cName x.pack)).drop x.pos).take x.long, x.pack, x.pos⟩
def blobsB (d : ADisk) (es : List AEnt) : List (ByteArray × ABlob) := es.map fun x => (x.name, blobB d x)
theorem pBlobs_all {d : ADisk} {es : List AEnt} (h : ∀ x ∈ es, okB d x) : pBlobs d es = some (blobsB d es) := by
  induction es with
  | nil => rfl
  | cons x es ih =>
    obtain ⟨h1, h2⟩ := h x (by simp)
    unfold pBlobs
    rw [if_neg (by rintro (e | e); exact e h1; omega), ih (fun y hy => h y (by simp [hy]))]
    rfl
theorem pBlobs_no {d : ADisk} {es : List AEnt} {x : AEnt} (hx : x ∈ es) (h : ¬ okB d x) : pBlobs d es = none := by
  induction es with
  | nil => cases hx
  | cons y es ih =>
    unfold pBlobs
    by_cases hy : findErr d (cName y.pack) ≠ 0 ∨ (d.readBytes (cName y.pack)).length < y.pos + y.long
    · rw [if_pos hy]
    · rw [if_neg hy]
      rcases List.mem_cons.1 hx with rfl | hx
      · exact absurd ⟨by by_cases e : findErr d (cName x.pack) = 0; exact e; exact absurd (Or.inl e) hy, by by_cases e : (d.readBytes (cName x.pack)).length < x.pos + x.long; exact absurd (Or.inr e) hy; omega⟩ h
      · rw [ih hx]; rfl
/-- an index's entries as they come. -/
structure EntsB (k : Nat) (es : List AEnt) : Prop where
  len : es.length ≤ 4096
  bnd : ∀ x ∈ es, EntB k x
  rise : es.Pairwise (fun x y => ltS x.name y.name = true)
theorem pIdx_ents {inn : List UInt8} {k : Nat} {es : List AEnt} (h : pIdx inn k = some es) : EntsB k es := by
  unfold pIdx at h
  split at h
  · cases h
  · split at h
    · split at h
      · cases h
      · split at h
        · rename_i n _ _
          split at h
          · cases h
          · rename_i hn
            split at h
            · rename_i hp
              cases h
              obtain ⟨h1, h2, h3, _⟩ := pEnts_ok hp
              exact ⟨by omega, h2, h3⟩
            · cases h
        · cases h
    · cases h
theorem pIndex_ents {b : List UInt8} {k : Nat} {es : List AEnt} (h : pIndex b k = some es) : EntsB k es := by
  obtain ⟨er, inn, hun⟩ : ∃ er inn, unsealL sumL b = (er, inn) := ⟨_, _, rfl⟩
  rw [pIndex_un hun] at h
  split at h
  · exact pIdx_ents h
  · cases h
theorem EntsB.sorted {k : Nat} {es : List AEnt} (h : EntsB k es) (d : ADisk) : SortedB (blobsB d es) := by
  unfold SortedB blobsB
  rw [List.pairwise_map]
  exact h.rise
theorem take_succ_B {d : ADisk} {k : Nat} {es : List AEnt} (h : EntsB k es) {j : Nat} (hj : j < es.length) : blobsB d (es.take (j + 1)) = putB (blobsB d (es.take j)) es[j].name (blobB d es[j]) := by
  have hl : ∀ p ∈ blobsB d (es.take j), ltS p.1 es[j].name = true := fun p hp => by
    obtain ⟨x, hx, rfl⟩ := List.mem_map.1 hp
    obtain ⟨i, hi, rfl⟩ := List.getElem_of_mem hx
    rw [List.length_take] at hi
    rw [List.getElem_take]
    exact List.pairwise_iff_getElem.1 h.rise i j (by omega) hj (by omega)
  rw [putB_last _ hl, List.take_succ_eq_append_getElem hj]
  unfold blobsB
  rw [List.map_append]
  rfl
theorem kB_take_none {d : ADisk} {k : Nat} {es : List AEnt} (h : EntsB k es) {j : Nat} (hj : j < es.length) : kB (blobsB d (es.take j)) es[j].name = none := by
  cases hk : kB (blobsB d (es.take j)) es[j].name with
  | none => rfl
  | some f =>
    exfalso
    have hm := kB_some_mem hk
    obtain ⟨x, hx, he⟩ := List.mem_map.1 hm
    obtain ⟨i, hi, rfl⟩ := List.getElem_of_mem hx
    rw [List.length_take] at hi
    rw [List.getElem_take] at he
    have h2 := List.pairwise_iff_getElem.1 h.rise i j (by omega) hj (by omega)
    simp only [Prod.mk.injEq] at he
    exact absurd he.1 (ltS_ne h2)
theorem pLoad_err {d : ADisk} {k : Nat} (h : findErr d (iName k) ≠ 0) : pLoad d k = ([], if findErr d (iName k) = 13 then (if k = 0 then 0 else 14) else findErr d (iName k)) := by
  unfold pLoad
  by_cases h13 : findErr d (iName k) = 13
  · rw [if_pos h13, if_pos h13]
  · rw [if_neg h13, if_pos h, if_neg h13]
theorem pLoad_zero {d : ADisk} (h : findErr d (iName 0) = 0) : pLoad d 0 = ([], 0) := by
  unfold pLoad
  rw [if_neg (by rw [h]; decide), if_neg (by rw [h]; simp), if_pos rfl]
theorem pLoad_none {d : ADisk} {k : Nat} (h : findErr d (iName k) = 0) (hk : k ≠ 0) (hi : pIndex (d.readBytes (iName k)) k = none) : pLoad d k = ([], 14) := by
  unfold pLoad
  rw [if_neg (by rw [h]; decide), if_neg (by rw [h]; simp), if_neg hk, hi]
theorem pLoad_bad {d : ADisk} {k : Nat} {es : List AEnt} (h : findErr d (iName k) = 0) (hk : k ≠ 0) (hi : pIndex (d.readBytes (iName k)) k = some es) {x : AEnt} (hx : x ∈ es) (hb : ¬ okB d x) : pLoad d k = ([], 14) := by
  unfold pLoad
  rw [if_neg (by rw [h]; decide), if_neg (by rw [h]; simp), if_neg hk, hi]
  simp only
  rw [pBlobs_no hx hb]
theorem pLoad_all {d : ADisk} {k : Nat} {es : List AEnt} (h : findErr d (iName k) = 0) (hk : k ≠ 0) (hi : pIndex (d.readBytes (iName k)) k = some es) (hb : ∀ x ∈ es, okB d x) : pLoad d k = (blobsB d es, 0) := by
  unfold pLoad
  rw [if_neg (by rw [h]; decide), if_neg (by rw [h]; simp), if_neg hk, hi]
  simp only
  rw [pBlobs_all hb]
theorem readBytes_le {d : ADisk} (h : d.WF) (s : ByteArray) : (d.readBytes s).length ≤ 16777216 := by
  unfold ADisk.readBytes
  split
  · have h1 := afile_le h s
    have h2 := h.used
    have h3 := h.most1
    unfold AFile.len at h1
    rw [List.length_append]
    omega
  · simp
end Go.Proofs.YtbepcjajbcecnaaGreatDoor
