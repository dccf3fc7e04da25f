/-
  The plain law of a crash, in shots.
-/
import Derived.Outline
import Derived.Test.YtlljlkeknklplaaKept
import Derived.Test.YtlljlkeknklplaaTwo
namespace Go.Proofs.Ytlljlkeknklplaa
open Go.RowKit Go.Maps Go.MapKept

theorem putF_mid (A B : List (ByteArray × AFile)) (s : ByteArray) (g f : AFile) (h : ∀ p ∈ A, ltS p.1 s = true) : putF (A ++ (s, g) :: B) s f = A ++ (s, f) :: B := by
  induction A with
  | nil => simp [putF]
  | cons a A ih =>
    have ha := h a (List.mem_cons_self ..)
    have hne : a.1 ≠ s := ltS_ne ha
    have hng : ltS s a.1 = false := by
      cases hx : ltS s a.1 with
      | false => rfl
      | true => have := ltS_trans ha hx; rw [ltS_irrefl] at this; cases this
    simp only [List.cons_append, putF]
    rw [ih (fun p hp => h p (List.mem_cons_of_mem _ hp))]
    simp [hne, hng]

theorem crashK_map {fs : List (ByteArray × AFile)} (h : SortedF fs) (keeps : List Int) (k : Nat) (hk : k ≤ fs.length) :
    crashK fs keeps k = (fs.take k).mapIdx (fun i q => (q.1, q.2.kept (keeps.getD i 0))) ++ fs.drop k := by
  induction k with
  | zero => simp [crashK]
  | succ k ih =>
    have hlt : k < fs.length := by omega
    simp only [crashK]
    rw [List.getElem?_eq_getElem hlt, ih (by omega)]
    simp only
    rw [List.take_succ_eq_append_getElem hlt, List.mapIdx_concat, List.drop_eq_getElem_cons hlt]
    have hl : (fs.take k).length = k := by rw [List.length_take]; omega
    rw [hl, List.append_assoc]
    refine putF_mid _ _ _ fs[k].2 _ (fun p hp => ?_)
    obtain ⟨i, hi, rfl⟩ := List.getElem_of_mem hp
    have hik : i < k := by simpa [hl] using hi
    simp only [List.getElem_mapIdx, List.getElem_take]
    exact List.pairwise_iff_getElem.1 h i k (by omega) hlt hik
theorem crashK_all {fs : List (ByteArray × AFile)} (h : SortedF fs) (keeps : List Int) : crashK fs keeps fs.length = fs.mapIdx (fun i q => (q.1, q.2.kept (keeps.getD i 0))) := by
  rw [crashK_map h keeps _ (Nat.le_refl _)]; simp

/-- the shot of a disk, as if its power were there. -/
def ADisk.upShot (d : ADisk) : Shot := ({ d with left := -1, down := false } : ADisk).shot
theorem upShot_up {d : ADisk} (h : d.down = false) : d.shot = d.upShot := by
  obtain ⟨m, l, dn, fs⟩ := d
  simp only at h
  subst h
  rfl
theorem upShot_fail (d : ADisk) : d.fail.upShot = d.upShot := rfl
theorem upShot_arm (d : ADisk) (n : Int) : (d.arm n).upShot = d.upShot := by
  unfold ADisk.arm; split <;> rfl

theorem shot_up_at {d : ADisk} (hd : d.down = false) (hs : SortedF d.fs) (i : Nat) (hi : i < d.fs.length) :
    d.shot.names.getD i ⟨#[]⟩ = d.fs[i].1 ∧ d.shot.bytes.getD i ⟨#[]⟩ = ⟨(d.fs[i].2.firm ++ d.fs[i].2.loose).toArray⟩ ∧ d.shot.firm.getD i 0 = (d.fs[i].2.firm.length : Int) := by
  have hn : d.names.length = d.fs.length := by simp [ADisk.names]
  have hl : lk d.fs d.fs[i].1 = some d.fs[i].2 := mem_lk hs (List.getElem_mem hi)
  have hni : d.names[i]'(by omega) = d.fs[i].1 := by simp [ADisk.names]
  have haf : afile d d.fs[i].1 = d.fs[i].2 := by unfold afile; rw [hl]; rfl
  have hrd : d.readBytes d.fs[i].1 = d.fs[i].2.firm ++ d.fs[i].2.loose := by
    unfold ADisk.readBytes findErr
    rw [hd, hl, haf]; rfl
  simp only [ADisk.shot, List.getD_eq_getElem?_getD, List.getElem?_map, List.getElem?_eq_getElem (show i < d.names.length by omega), Option.map_some, Option.getD_some, hni, haf, hrd]
  exact ⟨trivial, trivial, trivial⟩

theorem shot_ext {s t : Shot} (n : Nat) (h1 : s.names.length = n) (h2 : t.names.length = n) (h3 : s.bytes.length = n) (h4 : t.bytes.length = n) (h5 : s.firm.length = n) (h6 : t.firm.length = n)
    (h : ∀ i, i < n → s.names.getD i ⟨#[]⟩ = t.names.getD i ⟨#[]⟩ ∧ s.bytes.getD i ⟨#[]⟩ = t.bytes.getD i ⟨#[]⟩ ∧ s.firm.getD i 0 = t.firm.getD i 0) : s = t := by
  obtain ⟨a, b, c⟩ := s
  obtain ⟨x, y, z⟩ := t
  simp only at *
  have e1 : a = x := List.ext_getElem (by omega) fun i hi hi' => by
    have := (h i (by omega)).1
    rwa [List.getD_eq_getElem?_getD, List.getD_eq_getElem?_getD, List.getElem?_eq_getElem hi, List.getElem?_eq_getElem hi'] at this
  have e2 : b = y := List.ext_getElem (by omega) fun i hi hi' => by
    have := (h i (by omega)).2.1
    rwa [List.getD_eq_getElem?_getD, List.getD_eq_getElem?_getD, List.getElem?_eq_getElem hi, List.getElem?_eq_getElem hi'] at this
  have e3 : c = z := List.ext_getElem (by omega) fun i hi hi' => by
    have := (h i (by omega)).2.2
    rwa [List.getD_eq_getElem?_getD, List.getD_eq_getElem?_getD, List.getElem?_eq_getElem hi, List.getElem?_eq_getElem hi'] at this
  rw [e1, e2, e3]


theorem extract_take (l : List UInt8) (n : Nat) : (⟨l.toArray⟩ : ByteArray).extract 0 n = ⟨(l.take n).toArray⟩ := by
  refine bytes_ext ?_
  simp

/-- the law of a crash. -/
theorem crash_shot {d : ADisk} (hs : SortedF d.fs) (keeps : List Int) : (d.crash keeps).shot = d.upShot.kept keeps := by
  have hc := crashK_all hs keeps
  have hlen : (d.crash keeps).fs.length = d.fs.length := by show (crashK d.fs keeps d.fs.length).length = _; rw [hc]; simp
  have hsc : SortedF (d.crash keeps).fs := crashK_sorted hs keeps _
  obtain ⟨l1, l2, l3⟩ := shot_lens (d.crash keeps)
  obtain ⟨m1, m2, m3⟩ := shot_lens ({ d with left := -1, down := false } : ADisk)
  change d.upShot.names.length = d.fs.length at m1
  change d.upShot.bytes.length = d.fs.length at m2
  change d.upShot.firm.length = d.fs.length at m3
  refine shot_ext d.fs.length (l1.trans hlen) m1 (l2.trans hlen) (by simp [Shot.kept, Shot.keptB_len, m2]) (l3.trans hlen) (by simp [Shot.kept, Shot.keptF_len, m2]) (fun i hi => ?_)
  obtain ⟨a1, a2, a3⟩ := shot_up_at (d := d.crash keeps) rfl hsc i (by omega)
  obtain ⟨b1, b2, b3⟩ := shot_up_at (d := ({ d with left := -1, down := false } : ADisk)) rfl hs i hi
  change d.upShot.names.getD i ⟨#[]⟩ = d.fs[i].1 at b1
  change d.upShot.bytes.getD i ⟨#[]⟩ = ⟨(d.fs[i].2.firm ++ d.fs[i].2.loose).toArray⟩ at b2
  change d.upShot.firm.getD i 0 = (d.fs[i].2.firm.length : Int) at b3
  have hi' : (d.crash keeps).fs[i]'(by omega) = (d.fs[i].1, d.fs[i].2.kept (keeps.getD i 0)) := by
    have : (d.crash keeps).fs = d.fs.mapIdx (fun i q => (q.1, q.2.kept (keeps.getD i 0))) := hc
    simp only [this, List.getElem_mapIdx]
  rw [hi'] at a1 a2 a3
  have hN : d.upShot.keptN keeps i = d.fs[i].2.firm.length + (min (max (keeps.getD i 0) 0) (d.fs[i].2.loose.length : Int)).toNat := by
    unfold Shot.keptN
    rw [b2, b3]
    have : ((⟨(d.fs[i].2.firm ++ d.fs[i].2.loose).toArray⟩ : ByteArray).size : Int) = d.fs[i].2.firm.length + d.fs[i].2.loose.length := by simp [ByteArray.size]
    rw [this]
    generalize keeps.getD i 0 = x
    omega
  refine ⟨by rw [a1]; exact b1.symm, ?_, ?_⟩
  · rw [a2]
    simp only [Shot.kept, Shot.keptB, List.getD_eq_getElem?_getD, List.getElem?_map]
    rw [m2, List.getElem?_range hi]
    simp only [Option.map_some, Option.getD_some]
    rw [List.getD_eq_getElem?_getD] at b2
    rw [b2, hN, extract_take]
    simp [AFile.kept]
  · rw [a3]
    simp only [Shot.kept, Shot.keptF, List.getD_eq_getElem?_getD, List.getElem?_map]
    rw [m2, List.getElem?_range hi]
    simp only [Option.map_some, Option.getD_some]
    rw [hN]
    simp [AFile.kept]
    omega

theorem upShot_ok {d : ADisk} (h : d.WF) : d.upShot.Ok := by
  obtain ⟨m1, m2, m3⟩ := shot_lens ({ d with left := -1, down := false } : ADisk)
  change d.upShot.bytes.length = d.fs.length at m2
  change d.upShot.firm.length = d.fs.length at m3
  refine ⟨by rw [m2]; exact h.count, by rw [m2, m3], fun i hi => ?_⟩
  rw [m2] at hi
  obtain ⟨b1, b2, b3⟩ := shot_up_at (d := ({ d with left := -1, down := false } : ADisk)) rfl h.sorted i hi
  change d.upShot.bytes.getD i ⟨#[]⟩ = ⟨(d.fs[i].2.firm ++ d.fs[i].2.loose).toArray⟩ at b2
  change d.upShot.firm.getD i 0 = (d.fs[i].2.firm.length : Int) at b3
  rw [b2, b3]
  have hl : lk d.fs d.fs[i].1 = some d.fs[i].2 := mem_lk h.sorted (List.getElem_mem hi)
  have h1 := lk_len_le hl
  have h2 := h.used
  have h3 := h.most1
  have : ((⟨(d.fs[i].2.firm ++ d.fs[i].2.loose).toArray⟩ : ByteArray).size) = d.fs[i].2.len := by simp [ByteArray.size, AFile.len]
  rw [this]
  simp only [AFile.len] at *
  omega

/-- a call upon a disk whose power is there. -/
theorem does_up {d : ADisk} (hd : d.down = false) (c : ACall) : ((d.does c).down = false ∧ d.doesErr c ≠ 15) ∨ (d.does c = d.fail ∧ d.doesErr c = 15) := by
  have hs : ∀ (X : List (ByteArray × AFile)), ((if d.left = 0 then d.fail else { d.tick with fs := X }).down = false ∧ d.err ≠ 15) ∨ ((if d.left = 0 then d.fail else { d.tick with fs := X }) = d.fail ∧ d.err = 15) := by
    intro X
    unfold ADisk.err
    by_cases hz : d.left = 0
    · rw [if_pos hz, if_pos hz]; exact Or.inr ⟨rfl, rfl⟩
    · rw [if_neg hz, if_neg hz]; exact Or.inl ⟨rfl, by decide⟩
  have hp : ∀ s f, ((d.put s f).down = false ∧ d.err ≠ 15) ∨ (d.put s f = d.fail ∧ d.err = 15) := fun s f => hs _
  have bad : ∀ {x : Int}, x ≠ 15 → (d.down = false ∧ x ≠ 15) ∨ (d = d.fail ∧ x = 15) := fun h => Or.inl ⟨hd, h⟩
  have happ : ((d.append c.name c.b).down = false ∧ d.appendErr c.name c.b ≠ 15) ∨ (d.append c.name c.b = d.fail ∧ d.appendErr c.name c.b = 15) := by
    unfold ADisk.appendErr ADisk.append
    simp only [hd, if_false, Bool.false_eq_true]
    split
    · exact bad (by decide)
    · split
      · exact bad (by decide)
      · split
        · exact bad (by decide)
        · exact hp _ _
  unfold ADisk.doesErr ADisk.does
  split
  · exact happ
  split
  · exact happ
  split
  · unfold ADisk.syncErr ADisk.sync ADisk.cutTo
    simp only [hd, if_false, Bool.false_eq_true]
    split
    · exact bad (by decide)
    · exact hp _ _
  split
  · unfold ADisk.renameErr ADisk.rename
    simp only [hd, if_false, Bool.false_eq_true]
    split
    · exact bad (by decide)
    · split
      · exact bad (by decide)
      · exact hs _
  split
  · unfold ADisk.removeErr ADisk.remove
    simp only [hd, if_false, Bool.false_eq_true]
    split
    · exact bad (by decide)
    · exact hs _
  split
  · unfold ADisk.cutErr ADisk.cut ADisk.cutTo
    simp only [hd, if_false, Bool.false_eq_true]
    split
    · exact bad (by decide)
    · split
      · exact bad (by decide)
      · exact hp _ _
  · exact bad (by decide)
end Go.Proofs.Ytlljlkeknklplaa
