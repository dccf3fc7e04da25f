/-
  Roots on a plain disk: what Write makes of it. No program here.
-/
import Derived.Test.YtnagejhpdhdpfaaGreatDoorRt6
namespace Go.Proofs.YtnagejhpdhdpfaaGreatDoor

theorem rname_01 : rname 0 ≠ rname 1 := by decide
theorem rname_fresh (k : Nat) : rname k ≠ freshN := by unfold rname; split <;> decide
theorem rname_ok (k : Nat) : okName (rname k) = true := by unfold rname; split <;> decide
theorem fresh_ok : okName freshN = true := by decide
theorem rname_cases (k : Nat) : rname k = rname 0 ∨ rname k = rname 1 := by
  rcases Nat.mod_two_eq_zero_or_one k with h | h
  · left; unfold rname; rw [if_pos h, if_pos rfl]
  · right; unfold rname; rw [if_neg (by omega), if_neg (by decide)]
theorem rname_mod (k : Nat) : rname (k % 2) = rname k := by unfold rname; rw [Nat.mod_mod]
theorem rname_succ (k : Nat) : rname (k + 1) ≠ rname k := by
  unfold rname
  rcases Nat.mod_two_eq_zero_or_one k with h | h
  · rw [if_neg (by omega), if_pos h]; decide
  · rw [if_pos (by omega), if_neg (by omega)]; decide
/-- no other files than the three, each of them small. -/
structure Three (d : ADisk) : Prop where
  none : ∀ s, s ≠ rname 0 → s ≠ rname 1 → s ≠ freshN → lk d.fs s = none
  len : ∀ s f, lk d.fs s = some f → f.len ≤ 200
theorem lk_nil_of (fs : List (ByteArray × AFile)) (h : ∀ s, lk fs s = none) : fs = [] := by
  cases fs with
  | nil => rfl
  | cons p r => have := h p.1; rw [lk_cons, if_pos rfl] at this; cases this
def lenO (o : Option AFile) : Nat := (o.map AFile.len).getD 0
def cntO (o : Option AFile) : Nat := if o.isSome then 1 else 0
theorem three_del {d : ADisk} (h : Three d) : delF (delF (delF d.fs (rname 0)) (rname 1)) freshN = [] := by
  apply lk_nil_of
  intro s
  rw [lk_delF, lk_delF, lk_delF]
  by_cases h1 : s = freshN
  · rw [if_pos h1]
  · rw [if_neg h1]
    by_cases h2 : s = rname 1
    · rw [if_pos h2]
    · rw [if_neg h2]
      by_cases h3 : s = rname 0
      · rw [if_pos h3]
      · rw [if_neg h3]; exact h.none s h3 h2 h1
theorem three_used {d : ADisk} (h : Three d) (hs : SortedF d.fs) : usedF d.fs = lenO (lk d.fs (rname 0)) + lenO (lk d.fs (rname 1)) + lenO (lk d.fs freshN) := by
  have h1 := used_delF hs (rname 0)
  have h2 := used_delF (sorted_delF hs (rname 0)) (rname 1)
  have h3 := used_delF (sorted_delF (sorted_delF hs (rname 0)) (rname 1)) freshN
  rw [three_del h] at h3
  rw [lk_delF, if_neg rname_01.symm] at h2
  rw [lk_delF, if_neg (rname_fresh 1).symm, lk_delF, if_neg (rname_fresh 0).symm] at h3
  have h0 : usedF [] = 0 := rfl
  unfold lenO
  omega
theorem three_len {d : ADisk} (h : Three d) (hs : SortedF d.fs) : d.fs.length = cntO (lk d.fs (rname 0)) + cntO (lk d.fs (rname 1)) + cntO (lk d.fs freshN) := by
  have hc : ∀ fs : List (ByteArray × AFile), SortedF fs → ∀ s, fs.length = (delF fs s).length + cntO (lk fs s) := by
    intro fs hf s
    have h1 := length_delF hf s
    unfold cntO
    cases hl : lk fs s with
    | none => rw [hl] at h1; simp at h1 ⊢; omega
    | some f =>
      rw [hl] at h1
      have := List.length_pos_of_mem (lk_some_mem hl)
      simp at h1 ⊢; omega
  have h1 := hc _ hs (rname 0)
  have h2 := hc _ (sorted_delF hs (rname 0)) (rname 1)
  have h3 := hc _ (sorted_delF (sorted_delF hs (rname 0)) (rname 1)) freshN
  rw [three_del h] at h3
  rw [lk_delF, if_neg rname_01.symm] at h2
  rw [lk_delF, if_neg (rname_fresh 1).symm, lk_delF, if_neg (rname_fresh 0).symm] at h3
  simp only [List.length_nil] at h3
  omega
theorem lenO_le {d : ADisk} (h : Three d) (s : ByteArray) : lenO (lk d.fs s) ≤ 200 := by
  unfold lenO
  cases hl : lk d.fs s with
  | none => simp
  | some f => simpa using h.len s f hl
theorem cntO_le (o : Option AFile) : cntO o ≤ 1 := by unfold cntO; split <;> omega
theorem three_room {d : ADisk} (h : Three d) (hs : SortedF d.fs) : usedF d.fs ≤ 600 ∧ d.fs.length ≤ 3 := by
  have h1 := three_used h hs
  have h2 := three_len h hs
  have a := lenO_le h (rname 0)
  have b := lenO_le h (rname 1)
  have c := lenO_le h freshN
  have a' := cntO_le (lk d.fs (rname 0))
  have b' := cntO_le (lk d.fs (rname 1))
  have c' := cntO_le (lk d.fs freshN)
  omega

/-- behind a step of Write: the roots' files as they were. -/
structure Mid (d d' : ADisk) : Prop where
  most : d'.most = d.most
  three : Three d'
  same : ∀ k, lk d'.fs (rname k) = lk d.fs (rname k)
  sorted : SortedF d'.fs
  free : d.left = -1 → d'.left = -1
theorem Mid.refl {d : ADisk} (h : Three d) (hs : SortedF d.fs) : Mid d d := ⟨rfl, h, fun _ => rfl, hs, fun h => h⟩
theorem Mid.trans {d d1 d2 : ADisk} (h : Mid d d1) (h2 : Mid d1 d2) : Mid d d2 := ⟨h2.most.trans h.most, h2.three, fun k => (h2.same k).trans (h.same k), h2.sorted, fun e => h2.free (h.free e)⟩
theorem fail_mid {d : ADisk} (h : Three d) (hs : SortedF d.fs) : Mid d d.fail ∧ d.fail.down = true := ⟨⟨rfl, ⟨h.none, h.len⟩, fun _ => rfl, hs, fun _ => rfl⟩, rfl⟩
/-- the first step. -/
theorem step_gone {d : ADisk} (h : Three d) (hs : SortedF d.fs) (hd : d.down = false) :
    (goneE d = 0 ∧ Mid d (d.remove freshN) ∧ (d.remove freshN).down = false ∧ lk (d.remove freshN).fs freshN = none) ∨ (d.left ≠ -1 ∧ goneE d = 15 ∧ Mid d (d.remove freshN) ∧ (d.remove freshN).down = true) := by
  have hdn : ¬ d.down = true := by simp [hd]
  have e1 : d.removeErr freshN = if (lk d.fs freshN).isNone = true then 13 else d.err := by unfold ADisk.removeErr; rw [if_neg hdn]
  have e2 : d.remove freshN = if (lk d.fs freshN).isNone = true then d else if d.left = 0 then d.fail else { d.tick with fs := delF d.fs freshN } := by unfold ADisk.remove; rw [if_neg hdn]
  by_cases hf : (lk d.fs freshN).isNone = true
  · left
    rw [if_pos hf] at e1 e2
    rw [e2]
    exact ⟨by unfold goneE; rw [e1, if_pos rfl], Mid.refl h hs, hd, by simpa using hf⟩
  · rw [if_neg hf] at e1 e2
    by_cases h0 : d.left = 0
    · right
      have he : d.err = 15 := by unfold ADisk.err; rw [if_pos h0]
      rw [if_pos h0] at e2
      rw [e2]
      exact ⟨by omega, by unfold goneE; rw [e1, he]; decide, fail_mid h hs⟩
    · left
      have he : d.err = 0 := by unfold ADisk.err; rw [if_neg h0]
      rw [if_neg h0] at e2
      rw [e2]
      refine ⟨by unfold goneE; rw [e1, he]; decide, ⟨rfl, ⟨fun s a b c => ?_, fun s f hl => ?_⟩, fun k => ?_, sorted_delF hs _, fun hl => ?_⟩, rfl, ?_⟩
      · show lk (delF d.fs freshN) s = none
        rw [lk_delF, if_neg c]; exact h.none s a b c
      · replace hl : lk (delF d.fs freshN) s = some f := hl
        rw [lk_delF] at hl
        split at hl
        · cases hl
        · exact h.len s f hl
      · show lk (delF d.fs freshN) (rname k) = _
        rw [lk_delF, if_neg (rname_fresh k)]
      · show max (d.left - 1) (-1) = -1
        rw [hl]; rfl
      · show lk (delF d.fs freshN) freshN = none
        rw [lk_delF, if_pos rfl]
theorem put_fresh {d : ADisk} (h : Three d) (hs : SortedF d.fs) (f : AFile) (hf : f.len ≤ 200) : (d.left ≠ 0 ∧ d.put freshN f = { d.tick with fs := putF d.fs freshN f } ∧ d.err = 0 ∧ Mid d (d.put freshN f) ∧ (d.put freshN f).down = false ∧ lk (d.put freshN f).fs freshN = some f) ∨ (d.left = 0 ∧ d.err = 15 ∧ Mid d (d.put freshN f) ∧ (d.put freshN f).down = true) := by
  unfold ADisk.put
  by_cases h0 : d.left = 0
  · right
    rw [if_pos h0]
    exact ⟨h0, by unfold ADisk.err; rw [if_pos h0], fail_mid h hs⟩
  · left
    rw [if_neg h0]
    refine ⟨h0, rfl, by unfold ADisk.err; rw [if_neg h0], ⟨rfl, ⟨fun s a b c => ?_, fun s g hl => ?_⟩, fun k => ?_, sorted_putF hs _ _, fun hl => ?_⟩, rfl, ?_⟩
    · show lk (putF d.fs freshN f) s = none
      rw [lk_putF, if_neg c]; exact h.none s a b c
    · replace hl : lk (putF d.fs freshN f) s = some g := hl
      rw [lk_putF] at hl
      split at hl
      · cases hl; exact hf
      · exact h.len s g hl
    · show lk (putF d.fs freshN f) (rname k) = _
      rw [lk_putF, if_neg (rname_fresh k)]
    · show max (d.left - 1) (-1) = -1
      rw [hl]; rfl
    · show lk (putF d.fs freshN f) freshN = some f
      rw [lk_putF, if_pos rfl]
/-- the second step. -/
theorem step_app {d : ADisk} (h : Three d) (hs : SortedF d.fs) (hd : d.down = false) (hn : lk d.fs freshN = none) (hm : 1000 ≤ d.most) (L : List UInt8) (hL : L.length ≤ 200) :
    (d.appendErr freshN L = 0 ∧ Mid d (d.append freshN L) ∧ (d.append freshN L).down = false ∧ lk (d.append freshN L).fs freshN = some ⟨[], L⟩) ∨ (d.left ≠ -1 ∧ d.appendErr freshN L = 15 ∧ Mid d (d.append freshN L) ∧ (d.append freshN L).down = true) := by
  obtain ⟨r1, r2⟩ := three_room h hs
  have hdn : ¬ d.down = true := by simp [hd]
  have ha : afile d freshN = ⟨[], []⟩ := by unfold afile; rw [hn]; rfl
  have e1 : d.appendErr freshN L = d.err := by
    unfold ADisk.appendErr
    rw [if_neg hdn, if_neg (by simp [fresh_ok]), if_neg (by omega), if_neg (by omega)]
  have e2 : d.append freshN L = d.put freshN ⟨[], L⟩ := by
    unfold ADisk.append
    rw [if_neg hdn, if_neg (by simp [fresh_ok]), if_neg (by omega), if_neg (by omega), ha]
    rfl
  rw [e1, e2]
  rcases put_fresh h hs ⟨[], L⟩ (by simpa [AFile.len] using hL) with ⟨_, _, a, b, c, e⟩ | ⟨h0, a, b, c⟩
  · exact Or.inl ⟨a, b, c, e⟩
  · exact Or.inr ⟨by omega, a, b, c⟩
/-- the third step. -/
theorem step_sync {d : ADisk} (h : Three d) (hs : SortedF d.fs) (hd : d.down = false) {L : List UInt8} (hn : lk d.fs freshN = some ⟨[], L⟩) (hL : L.length ≤ 200) :
    (d.syncErr freshN = 0 ∧ Mid d (d.sync freshN) ∧ (d.sync freshN).down = false ∧ lk (d.sync freshN).fs freshN = some ⟨L, []⟩) ∨ (d.left ≠ -1 ∧ d.syncErr freshN = 15 ∧ Mid d (d.sync freshN) ∧ (d.sync freshN).down = true) := by
  have hdn : ¬ d.down = true := by simp [hd]
  have ha : afile d freshN = ⟨[], L⟩ := by unfold afile; rw [hn]; rfl
  have hnn : ¬ (lk d.fs freshN).isNone = true := by rw [hn]; simp
  have e1 : d.syncErr freshN = d.err := by unfold ADisk.syncErr; rw [if_neg hdn, if_neg hnn]
  have e2 : d.sync freshN = d.put freshN ⟨L, []⟩ := by
    unfold ADisk.sync ADisk.cutTo
    rw [if_neg hdn, if_neg hnn, ha]
    simp [AFile.len]
  rw [e1, e2]
  rcases put_fresh h hs ⟨L, []⟩ (by simpa [AFile.len] using hL) with ⟨_, _, a, b, c, e⟩ | ⟨h0, a, b, c⟩
  · exact Or.inl ⟨a, b, c, e⟩
  · exact Or.inr ⟨by omega, a, b, c⟩
/-- the last step. -/
theorem step_ren {d : ADisk} (h : Three d) (hs : SortedF d.fs) (hd : d.down = false) {L : List UInt8} (hn : lk d.fs freshN = some ⟨L, []⟩) (n : Nat) :
    (d.renameErr freshN (rname n) = 0 ∧ (d.rename freshN (rname n)).down = false ∧ (d.rename freshN (rname n)).most = d.most ∧ (d.left = -1 → (d.rename freshN (rname n)).left = -1) ∧ SortedF (d.rename freshN (rname n)).fs ∧
        ∀ s, lk (d.rename freshN (rname n)).fs s = if s = rname n then some ⟨L, []⟩ else if s = freshN then none else lk d.fs s) ∨
      (d.left ≠ -1 ∧ d.renameErr freshN (rname n) = 15 ∧ Mid d (d.rename freshN (rname n)) ∧ (d.rename freshN (rname n)).down = true) := by
  have hdn : ¬ d.down = true := by simp [hd]
  have ha : afile d freshN = ⟨L, []⟩ := by unfold afile; rw [hn]; rfl
  have hnn : ¬ (lk d.fs freshN).isNone = true := by rw [hn]; simp
  have hok : ¬ okName (rname n) = false := by simp [rname_ok]
  have e1 : d.renameErr freshN (rname n) = d.err := by unfold ADisk.renameErr; rw [if_neg hdn, if_neg hnn, if_neg hok]
  have e2 : d.rename freshN (rname n) = if d.left = 0 then d.fail else { d.tick with fs := putF (delF d.fs freshN) (rname n) ⟨L, []⟩ } := by
    unfold ADisk.rename; rw [if_neg hdn, if_neg hnn, if_neg hok, ha]
  rw [e1, e2]
  by_cases h0 : d.left = 0
  · right
    rw [if_pos h0]
    exact ⟨by omega, by unfold ADisk.err; rw [if_pos h0], fail_mid h hs⟩
  · left
    rw [if_neg h0]
    refine ⟨by unfold ADisk.err; rw [if_neg h0], rfl, rfl, fun hl => ?_, sorted_putF (sorted_delF hs _) _ _, fun s => ?_⟩
    · show max (d.left - 1) (-1) = -1
      rw [hl]; rfl
    · show lk (putF (delF d.fs freshN) (rname n) ⟨L, []⟩) s = _
      rw [lk_putF, lk_delF]
/-- what Write makes of a disk of roots. -/
theorem wr_law {d : ADisk} (h : Three d) (hs : SortedF d.fs) (hd : d.down = false) (hm : 1000 ≤ d.most) (n : Nat) (L : List UInt8) (hL : L.length ≤ 200) :
    (∃ d', wrSteps d n L = (d', 0) ∧ d'.down = false ∧ d'.most = d.most ∧ (d.left = -1 → d'.left = -1) ∧ SortedF d'.fs ∧ lk d'.fs (rname n) = some ⟨L, []⟩ ∧ lk d'.fs freshN = none ∧ ∀ s, s ≠ rname n → s ≠ freshN → lk d'.fs s = lk d.fs s) ∨
      (d.left ≠ -1 ∧ ∃ d', wrSteps d n L = (d', 15) ∧ d'.down = true ∧ Mid d d') := by
  unfold wrSteps
  rcases step_gone h hs hd with ⟨a1, m1, b1, f1⟩ | ⟨a0, a1, m1, b1⟩
  · rw [if_neg (by simp [a1])]
    rcases step_app m1.three m1.sorted b1 f1 (by rw [m1.most]; exact hm) L hL with ⟨a2, m2, b2, f2⟩ | ⟨a0, a2, m2, b2⟩
    · rw [if_neg (by simp [a2])]
      rcases step_sync m2.three m2.sorted b2 f2 hL with ⟨a3, m3, b3, f3⟩ | ⟨a0, a3, m3, b3⟩
      · rw [if_neg (by simp [a3])]
        have m := (m1.trans m2).trans m3
        rcases step_ren m3.three m3.sorted b3 f3 n with ⟨a4, b4, c4, e4, s4, g4⟩ | ⟨a0, a4, m4, b4⟩
        · left
          refine ⟨_, by rw [a4], b4, c4.trans m.most, fun hl => e4 (m.free hl), s4, ?_, ?_, fun s x y => ?_⟩
          · rw [g4, if_pos rfl]
          · rw [g4, if_neg (rname_fresh n).symm, if_pos rfl]
          · rw [g4, if_neg x, if_neg y]
            by_cases h0 : s = rname 0
            · subst h0; exact m.same 0
            · by_cases h1 : s = rname 1
              · subst h1; exact m.same 1
              · rw [m.three.none s h0 h1 y, h.none s h0 h1 y]
        · right
          exact ⟨fun hl => a0 (m.free hl), _, by rw [a4], b4, m.trans m4⟩
      · right
        rw [if_pos (by rw [a3]; decide), a3]
        exact ⟨fun hl => a0 ((m1.trans m2).free hl), _, rfl, b3, (m1.trans m2).trans m3⟩
    · right
      rw [if_pos (by rw [a2]; decide), a2]
      exact ⟨fun hl => a0 (m1.free hl), _, rfl, b2, m1.trans m2⟩
  · right
    rw [if_pos (by rw [a1]; decide), a1]
    exact ⟨a0, _, rfl, b1, m1⟩
end Go.Proofs.YtnagejhpdhdpfaaGreatDoor
