/-
  The statements' helpers: SameBytes, SameRoot, Pick, reads, writes.
-/
import Derived.Outline
import Derived.Test.YtkacgmbinkoojaaGreatDoorMGtA
import Derived.Lib.SlBytesConst
import Derived.Test.YtkacgmbinkoojaaGreatDoorMLoA
import Derived.Test.YtkacgmbinkoojaaGreatDoorMOpA
namespace Go.Proofs.YtkacgmbinkoojaaGreatDoor
open Go.RowKit Go.Maps Go.MapKept

set_option maxRecDepth 100000 in
set_option maxHeartbeats 2000000 in
theorem sameB_any (w : World) (va vb : Value) (a b : List UInt8) (ha : Rd w va (bcells a)) (hb : Rd w vb (bcells b)) :
    Calls Tryz.prog 55 #[va, vb] w fun e w' => e = .returned (.bool (decide (a = b))) ∧ w = w' := by
  have hc1 := run_bytes_str (P := Tryz.prog) ha Tryz.underlying33 Tryz.underlying5 Tryz.underlying9
  have hc2 := run_bytes_str (P := Tryz.prog) hb Tryz.underlying33 Tryz.underlying5 Tryz.underlying9
  clear ha hb
  by_cases h : a = b
  · subst h
    have hq : (a == a) = true := by simp
    go_enter Tryz.func55, Tryz.ntmps55
    go_wp2
    go_ret
    exact ⟨by simp, rfl⟩
  · have hq : (a == b) = false := by simpa using h
    have hd : decide (a = b) = false := by simpa using h
    rw [hd]
    clear hd h
    go_enter Tryz.func55, Tryz.ntmps55
    go_wp2
    go_ret
    exact ⟨rfl, rfl⟩

def sameR (s t c : Int) (a : List UInt8) (s' t' c' : Int) (b : List UInt8) : Bool := decide (s = s') && decide (t = t') && decide (c = c') && decide (a = b)
set_option maxRecDepth 100000 in
set_option maxHeartbeats 4000000 in
theorem sameR_any (w : World) (s t c s' t' c' : Int) (va vb : Value) (a b : List UInt8) (ha : Rd w va (bcells a)) (hb : Rd w vb (bcells b)) :
    Calls Tryz.prog 21 #[rootV s t c va, rootV s' t' c' vb] w fun e w' => e = .returned (.bool (sameR s t c a s' t' c' b)) ∧ Below w.heap.size w w' := by
  obtain ⟨aa, ca, rfl⟩ := ha.shape
  obtain ⟨ab, cb, rfl⟩ := hb.shape
  rw [bcells_length] at ha hb ⊢
  rw [bcells_length]
  obtain ⟨W, hW⟩ : ∃ W, (w.alloc (.cells #[.int .i64 s, .int .i64 t, .int .i64 c, .slice aa a.length ca] 35)).alloc (.cells #[.int .i64 s', .int .i64 t', .int .i64 c', .slice ab b.length cb] 35) = W := ⟨_, rfl⟩
  have hB : Below w.heap.size w W := by rw [← hW]; exact ((Below.refl _ _).alloc (Nat.le_refl _) _).alloc (by simp) _
  have hS := sameB_any W _ _ a b (ha.below hB) (hb.below hB)
  have HS := Lib.hid hS
  have HW := Lib.hid hW
  clear ha hb hS hW
  unfold rootV
  have hfin : sameR s t c a s' t' c' b = (decide (s = s') && decide (t = t') && decide (c = c') && decide (a = b)) := rfl
  have Hfin := Lib.hid hfin
  clear hfin
  obtain ⟨bb, hbb⟩ : ∃ bb, decide (a = b) = bb := ⟨_, rfl⟩
  have hS := HS.out
  rw [hbb] at hS
  have HS2 := Lib.hid hS
  have Hbb := Lib.hid hbb
  clear hS hbb HS
  by_cases h1 : s = s'
  · have q1 : (s == s') = true := by simpa using h1
    by_cases h2 : t = t'
    · have q2 : (t == t') = true := by simpa using h2
      by_cases h3 : c = c'
      · have q3 : (c == c') = true := by simpa using h3
        have Hf2 := Lib.hid (show sameR s t c a s' t' c' b = bb by rw [Hfin.out, Hbb.out]; simp [h1, h2, h3])
        clear h1 h2 h3
        go_enter Tryz.func21, Tryz.ntmps21
        go_wp2_with (go_at_call 55; rw [HW.out]; refine HS2.out.mono ?_; rintro e w1 ⟨rfl, rfl⟩)
        go_ret
        exact ⟨by rw [Hf2.out]; rfl, hB⟩
      · have q3 : (c == c') = false := by simpa using h3
        have Hf2 := Lib.hid (show sameR s t c a s' t' c' b = false by rw [Hfin.out]; simp [h3])
        clear h1 h2 h3
        go_enter Tryz.func21, Tryz.ntmps21
        go_wp2
        go_ret
        exact ⟨by rw [Hf2.out]; rfl, HW.out ▸ hB⟩
    · have q2 : (t == t') = false := by simpa using h2
      have Hf2 := Lib.hid (show sameR s t c a s' t' c' b = false by rw [Hfin.out]; simp [h2])
      clear h1 h2
      go_enter Tryz.func21, Tryz.ntmps21
      go_wp2
      go_ret
      exact ⟨by rw [Hf2.out]; rfl, HW.out ▸ hB⟩
  · have q1 : (s == s') = false := by simpa using h1
    have Hf2 := Lib.hid (show sameR s t c a s' t' c' b = false by rw [Hfin.out]; simp [h1])
    clear h1
    go_enter Tryz.func21, Tryz.ntmps21
    go_wp2
    go_ret
    exact ⟨by rw [Hf2.out]; rfl, HW.out ▸ hB⟩

set_option maxRecDepth 100000 in
set_option maxHeartbeats 4000000 in
theorem reads_yes {ex : Nat → Prop} (w : World) (p m : Nat) (d : ADisk) (s t : Int) (h : DiskAt ex w p m d) (h0 : readE d = 0) (h1 : ((readR d).serial : Int) = s) (h2 : ((readR d).tick : Int) = t) :
    Calls Tryz.prog 23 #[.pointer (some ⟨p, 0, none⟩), .int .i64 s, .int .i64 t] w fun e w' => e = .returned (.bool true) ∧ Below w.heap.size w w' := by
  have hR := rRead_any w p m d h h.wf.most1
  unfold RrPost rootV at hR
  rw [h0, h1, h2] at hR
  have hb : decide (0 < (readR d).serial) = decide (0 < s) := by rw [Bool.eq_iff_iff]; simp; omega
  rw [hb] at hR
  obtain ⟨R, hr⟩ : ∃ R, readR d = R := ⟨_, rfl⟩
  rw [hr] at hR
  obtain ⟨bb, hbb⟩ : ∃ bb, decide (0 < s) = bb := ⟨_, rfl⟩
  have HR := Lib.hid hR
  clear hR h0 h1 h2 hb hr
  have hq1 : (s == s) = true := by simp
  have hq2 : (t == t) = true := by simp
  go_enter Tryz.func23, Tryz.ntmps23
  go_wp2_with (go_at_call 9; refine HR.out.mono ?_; rintro e w1 ⟨a1, c1, rfl, hrow, hB1⟩; clear hrow)
  go_ret
  exact ⟨rfl, hB1.alloc hB1.size _⟩

set_option maxRecDepth 100000 in
set_option maxHeartbeats 4000000 in
theorem writes_yes {ex : Nat → Prop} (w : World) (p m : Nat) (d d' : ADisk) (t s : Int) (h : DiskAt ex w p m d) (ht : isI64 t) (hw : wrAll d t 2 [] = (d', 0)) (hs : ((readR d).serial : Int) + 1 = s) (h0 : readE d' = 0) (h1 : ((readR d').serial : Int) = s) (h2 : ((readR d').tick : Int) = t) :
    Calls Tryz.prog 24 #[.pointer (some ⟨p, 0, none⟩), .int .i64 t, .int .i64 s] w fun e w' => e = .returned (.bool true) ∧ DiskAt ex w' p m d' ∧ Keep ex w w' := by
  have hR := rWrite_at (w := w) 99 t 2 (.slice none 0 0) [] h ht (by unfold isI64; omega) (Or.inl ⟨Or.inl rfl, rfl⟩) (by simp)
  unfold WrPost rootV at hR
  rw [hw, if_pos rfl, show (((readR d).serial + 1 : Nat) : Int) = s from hs] at hR
  have HR := Lib.hid hR
  have hrd : ∀ w', DiskAt ex w' p m d' → _ := fun w' hD => reads_yes w' p m d' s t hD h0 h1 h2
  have Hrd := Lib.hid hrd
  clear hR h0 h1 h2 hw hs hrd
  have hq1 : (s == s) = true := by simp
  have hq2 : (t == t) = true := by simp
  go_enter Tryz.func24, Tryz.ntmps24
  go_wp2_with first
    | (go_at_call 7; refine HR.out.mono ?_; rintro e w1 ⟨rfl, hD1, hK1⟩)
    | (go_at_call 23; refine (Hrd.out _ ?_).mono ?_; exact hD1.alloc _; rintro e w2 ⟨rfl, hB2⟩)
  go_ret
  have hX := below_new hD1 (((Below.refl _ _).alloc (Nat.le_refl _) _).trans (hB2.mono (by simp)))
  exact ⟨rfl, hX.1, hK1.trans hX.2⟩
end Go.Proofs.YtkacgmbinkoojaaGreatDoor

/-
  Roots on a plain disk: what Write makes of it. No program here.
-/
namespace Go.Proofs.YtkacgmbinkoojaaGreatDoor

theorem rname_01 : rname 0 ≠ rname 1 := by decide
theorem rname_fresh (k : Nat) : rname k ≠ freshN := by unfold rname; split <;> decide
theorem rname_ok (k : Nat) : okName (rname k) = true := by unfold rname; split <;> decide
theorem fresh_ok : okName freshN = true := by decide
theorem rname_cases (k : Nat) : rname k = rname 0 ∨ rname k = rname 1 := by
  rcases Nat.mod_two_eq_zero_or_one k with h | h
  · left; unfold rname; rw [if_pos h, if_pos rfl]
  · right; unfold rname; rw [if_neg (by omega), if_neg (by decide)]
theorem rname_mod (k : Nat) : rname (k % 2) = rname k := by unfold rname; rw [Nat.mod_mod]
/-- no other files than the three, each of them small. -/
structure Three (d : ADisk) : Prop where
  none : ∀ s, s ≠ rname 0 → s ≠ rname 1 → s ≠ freshN → lk d.fs s = none
  len : ∀ s f, lk d.fs s = some f → f.len ≤ 200
theorem lk_nil_of (fs : List (ByteArray × AFile)) (h : ∀ s, lk fs s = none) : fs = [] := by
  cases fs with
  | nil => rfl
  | cons p r => have := h p.1; rw [lk_cons, if_pos rfl] at this; cases this
def lenO (o : Option AFile) : Nat := (o.map AFile.len).getD 0
def cntO (o : Option AFile) : Nat := if o.isSome then 1 else 0
theorem three_del {d : ADisk} (h : Three d) : delF (delF (delF d.fs (rname 0)) (rname 1)) freshN = [] := by
  apply lk_nil_of
  intro s
  rw [lk_delF, lk_delF, lk_delF]
  by_cases h1 : s = freshN
  · rw [if_pos h1]
  · rw [if_neg h1]
    by_cases h2 : s = rname 1
    · rw [if_pos h2]
    · rw [if_neg h2]
      by_cases h3 : s = rname 0
      · rw [if_pos h3]
      · rw [if_neg h3]; exact h.none s h3 h2 h1
theorem three_used {d : ADisk} (h : Three d) (hs : SortedF d.fs) : usedF d.fs = lenO (lk d.fs (rname 0)) + lenO (lk d.fs (rname 1)) + lenO (lk d.fs freshN) := by
  have h1 := used_delF hs (rname 0)
  have h2 := used_delF (sorted_delF hs (rname 0)) (rname 1)
  have h3 := used_delF (sorted_delF (sorted_delF hs (rname 0)) (rname 1)) freshN
  rw [three_del h] at h3
  rw [lk_delF, if_neg rname_01.symm] at h2
  rw [lk_delF, if_neg (rname_fresh 1).symm, lk_delF, if_neg (rname_fresh 0).symm] at h3
  have h0 : usedF [] = 0 := rfl
  unfold lenO
  omega
theorem three_len {d : ADisk} (h : Three d) (hs : SortedF d.fs) : d.fs.length = cntO (lk d.fs (rname 0)) + cntO (lk d.fs (rname 1)) + cntO (lk d.fs freshN) := by
  have hc : ∀ fs : List (ByteArray × AFile), SortedF fs → ∀ s, fs.length = (delF fs s).length + cntO (lk fs s) := by
    intro fs hf s
    have h1 := length_delF hf s
    unfold cntO
    cases hl : lk fs s with
    | none => rw [hl] at h1; simp at h1 ⊢; omega
    | some f =>
      rw [hl] at h1
      have := List.length_pos_of_mem (lk_some_mem hl)
      simp at h1 ⊢; omega
  have h1 := hc _ hs (rname 0)
  have h2 := hc _ (sorted_delF hs (rname 0)) (rname 1)
  have h3 := hc _ (sorted_delF (sorted_delF hs (rname 0)) (rname 1)) freshN
  rw [three_del h] at h3
  rw [lk_delF, if_neg rname_01.symm] at h2
  rw [lk_delF, if_neg (rname_fresh 1).symm, lk_delF, if_neg (rname_fresh 0).symm] at h3
  simp only [List.length_nil] at h3
  omega
theorem lenO_le {d : ADisk} (h : Three d) (s : ByteArray) : lenO (lk d.fs s) ≤ 200 := by
  unfold lenO
  cases hl : lk d.fs s with
  | none => simp
  | some f => simpa using h.len s f hl
theorem cntO_le (o : Option AFile) : cntO o ≤ 1 := by unfold cntO; split <;> omega
theorem three_room {d : ADisk} (h : Three d) (hs : SortedF d.fs) : usedF d.fs ≤ 600 ∧ d.fs.length ≤ 3 := by
  have h1 := three_used h hs
  have h2 := three_len h hs
  have a := lenO_le h (rname 0)
  have b := lenO_le h (rname 1)
  have c := lenO_le h freshN
  have a' := cntO_le (lk d.fs (rname 0))
  have b' := cntO_le (lk d.fs (rname 1))
  have c' := cntO_le (lk d.fs freshN)
  omega

/-- behind a step of Write: the roots' files as they were. -/
structure Mid (d d' : ADisk) : Prop where
  most : d'.most = d.most
  three : Three d'
  same : ∀ k, lk d'.fs (rname k) = lk d.fs (rname k)
  sorted : SortedF d'.fs
  free : d.left = -1 → d'.left = -1
theorem Mid.refl {d : ADisk} (h : Three d) (hs : SortedF d.fs) : Mid d d := ⟨rfl, h, fun _ => rfl, hs, fun h => h⟩
theorem Mid.trans {d d1 d2 : ADisk} (h : Mid d d1) (h2 : Mid d1 d2) : Mid d d2 := ⟨h2.most.trans h.most, h2.three, fun k => (h2.same k).trans (h.same k), h2.sorted, fun e => h2.free (h.free e)⟩
theorem fail_mid {d : ADisk} (h : Three d) (hs : SortedF d.fs) : Mid d d.fail ∧ d.fail.down = true := ⟨⟨rfl, ⟨h.none, h.len⟩, fun _ => rfl, hs, fun _ => rfl⟩, rfl⟩
/-- the first step. -/
theorem step_gone {d : ADisk} (h : Three d) (hs : SortedF d.fs) (hd : d.down = false) :
    (goneE d = 0 ∧ Mid d (d.remove freshN) ∧ (d.remove freshN).down = false ∧ lk (d.remove freshN).fs freshN = none) ∨ (d.left ≠ -1 ∧ goneE d = 15 ∧ Mid d (d.remove freshN) ∧ (d.remove freshN).down = true) := by
  have hdn : ¬ d.down = true := by simp [hd]
  have e1 : d.removeErr freshN = if (lk d.fs freshN).isNone = true then 13 else d.err := by unfold ADisk.removeErr; rw [if_neg hdn]
  have e2 : d.remove freshN = if (lk d.fs freshN).isNone = true then d else if d.left = 0 then d.fail else { d.tick with fs := delF d.fs freshN } := by unfold ADisk.remove; rw [if_neg hdn]
  by_cases hf : (lk d.fs freshN).isNone = true
  · left
    rw [if_pos hf] at e1 e2
    rw [e2]
    exact ⟨by unfold goneE; rw [e1, if_pos rfl], Mid.refl h hs, hd, by simpa using hf⟩
  · rw [if_neg hf] at e1 e2
    by_cases h0 : d.left = 0
    · right
      have he : d.err = 15 := by unfold ADisk.err; rw [if_pos h0]
      rw [if_pos h0] at e2
      rw [e2]
      exact ⟨by omega, by unfold goneE; rw [e1, he]; decide, fail_mid h hs⟩
    · left
      have he : d.err = 0 := by unfold ADisk.err; rw [if_neg h0]
      rw [if_neg h0] at e2
      rw [e2]
      refine ⟨by unfold goneE; rw [e1, he]; decide, ⟨rfl, ⟨fun s a b c => ?_, fun s f hl => ?_⟩, fun k => ?_, sorted_delF hs _, fun hl => ?_⟩, rfl, ?_⟩
      · show lk (delF d.fs freshN) s = none
        rw [lk_delF, if_neg c]; exact h.none s a b c
      · replace hl : lk (delF d.fs freshN) s = some f := hl
        rw [lk_delF] at hl
        split at hl
        · cases hl
        · exact h.len s f hl
      · show lk (delF d.fs freshN) (rname k) = _
        rw [lk_delF, if_neg (rname_fresh k)]
      · show max (d.left - 1) (-1) = -1
        rw [hl]; rfl
      · show lk (delF d.fs freshN) freshN = none
        rw [lk_delF, if_pos rfl]
theorem put_fresh {d : ADisk} (h : Three d) (hs : SortedF d.fs) (f : AFile) (hf : f.len ≤ 200) : (d.left ≠ 0 ∧ d.put freshN f = { d.tick with fs := putF d.fs freshN f } ∧ d.err = 0 ∧ Mid d (d.put freshN f) ∧ (d.put freshN f).down = false ∧ lk (d.put freshN f).fs freshN = some f) ∨ (d.left = 0 ∧ d.err = 15 ∧ Mid d (d.put freshN f) ∧ (d.put freshN f).down = true) := by
  unfold ADisk.put
  by_cases h0 : d.left = 0
  · right
    rw [if_pos h0]
    exact ⟨h0, by unfold ADisk.err; rw [if_pos h0], fail_mid h hs⟩
  · left
    rw [if_neg h0]
    refine ⟨h0, rfl, by unfold ADisk.err; rw [if_neg h0], ⟨rfl, ⟨fun s a b c => ?_, fun s g hl => ?_⟩, fun k => ?_, sorted_putF hs _ _, fun hl => ?_⟩, rfl, ?_⟩
    · show lk (putF d.fs freshN f) s = none
      rw [lk_putF, if_neg c]; exact h.none s a b c
    · replace hl : lk (putF d.fs freshN f) s = some g := hl
      rw [lk_putF] at hl
      split at hl
      · cases hl; exact hf
      · exact h.len s g hl
    · show lk (putF d.fs freshN f) (rname k) = _
      rw [lk_putF, if_neg (rname_fresh k)]
    · show max (d.left - 1) (-1) = -1
      rw [hl]; rfl
    · show lk (putF d.fs freshN f) freshN = some f
      rw [lk_putF, if_pos rfl]
/-- the second step. -/
theorem step_app {d : ADisk} (h : Three d) (hs : SortedF d.fs) (hd : d.down = false) (hn : lk d.fs freshN = none) (hm : 1000 ≤ d.most) (L : List UInt8) (hL : L.length ≤ 200) :
    (d.appendErr freshN L = 0 ∧ Mid d (d.append freshN L) ∧ (d.append freshN L).down = false ∧ lk (d.append freshN L).fs freshN = some ⟨[], L⟩) ∨ (d.left ≠ -1 ∧ d.appendErr freshN L = 15 ∧ Mid d (d.append freshN L) ∧ (d.append freshN L).down = true) := by
  obtain ⟨r1, r2⟩ := three_room h hs
  have hdn : ¬ d.down = true := by simp [hd]
  have ha : afile d freshN = ⟨[], []⟩ := by unfold afile; rw [hn]; rfl
  have e1 : d.appendErr freshN L = d.err := by
    unfold ADisk.appendErr
    rw [if_neg hdn, if_neg (by simp [fresh_ok]), if_neg (by omega), if_neg (by omega)]
  have e2 : d.append freshN L = d.put freshN ⟨[], L⟩ := by
    unfold ADisk.append
    rw [if_neg hdn, if_neg (by simp [fresh_ok]), if_neg (by omega), if_neg (by omega), ha]
    rfl
  rw [e1, e2]
  rcases put_fresh h hs ⟨[], L⟩ (by simpa [AFile.len] using hL) with ⟨_, _, a, b, c, e⟩ | ⟨h0, a, b, c⟩
  · exact Or.inl ⟨a, b, c, e⟩
  · exact Or.inr ⟨by omega, a, b, c⟩
/-- the third step. -/
theorem step_sync {d : ADisk} (h : Three d) (hs : SortedF d.fs) (hd : d.down = false) {L : List UInt8} (hn : lk d.fs freshN = some ⟨[], L⟩) (hL : L.length ≤ 200) :
    (d.syncErr freshN = 0 ∧ Mid d (d.sync freshN) ∧ (d.sync freshN).down = false ∧ lk (d.sync freshN).fs freshN = some ⟨L, []⟩) ∨ (d.left ≠ -1 ∧ d.syncErr freshN = 15 ∧ Mid d (d.sync freshN) ∧ (d.sync freshN).down = true) := by
  have hdn : ¬ d.down = true := by simp [hd]
  have ha : afile d freshN = ⟨[], L⟩ := by unfold afile; rw [hn]; rfl
  have hnn : ¬ (lk d.fs freshN).isNone = true := by rw [hn]; simp
  have e1 : d.syncErr freshN = d.err := by unfold ADisk.syncErr; rw [if_neg hdn, if_neg hnn]
  have e2 : d.sync freshN = d.put freshN ⟨L, []⟩ := by
    unfold ADisk.sync ADisk.cutTo
    rw [if_neg hdn, if_neg hnn, ha]
    simp [AFile.len]
  rw [e1, e2]
  rcases put_fresh h hs ⟨L, []⟩ (by simpa [AFile.len] using hL) with ⟨_, _, a, b, c, e⟩ | ⟨h0, a, b, c⟩
  · exact Or.inl ⟨a, b, c, e⟩
  · exact Or.inr ⟨by omega, a, b, c⟩
/-- the last step. -/
theorem step_ren {d : ADisk} (h : Three d) (hs : SortedF d.fs) (hd : d.down = false) {L : List UInt8} (hn : lk d.fs freshN = some ⟨L, []⟩) (n : Nat) :
    (d.renameErr freshN (rname n) = 0 ∧ (d.rename freshN (rname n)).down = false ∧ (d.rename freshN (rname n)).most = d.most ∧ (d.left = -1 → (d.rename freshN (rname n)).left = -1) ∧ SortedF (d.rename freshN (rname n)).fs ∧
        ∀ s, lk (d.rename freshN (rname n)).fs s = if s = rname n then some ⟨L, []⟩ else if s = freshN then none else lk d.fs s) ∨
      (d.left ≠ -1 ∧ d.renameErr freshN (rname n) = 15 ∧ Mid d (d.rename freshN (rname n)) ∧ (d.rename freshN (rname n)).down = true) := by
  have hdn : ¬ d.down = true := by simp [hd]
  have ha : afile d freshN = ⟨L, []⟩ := by unfold afile; rw [hn]; rfl
  have hnn : ¬ (lk d.fs freshN).isNone = true := by rw [hn]; simp
  have hok : ¬ okName (rname n) = false := by simp [rname_ok]
  have e1 : d.renameErr freshN (rname n) = d.err := by unfold ADisk.renameErr; rw [if_neg hdn, if_neg hnn, if_neg hok]
  have e2 : d.rename freshN (rname n) = if d.left = 0 then d.fail else { d.tick with fs := putF (delF d.fs freshN) (rname n) ⟨L, []⟩ } := by
    unfold ADisk.rename; rw [if_neg hdn, if_neg hnn, if_neg hok, ha]
  rw [e1, e2]
  by_cases h0 : d.left = 0
  · right
    rw [if_pos h0]
    exact ⟨by omega, by unfold ADisk.err; rw [if_pos h0], fail_mid h hs⟩
  · left
    rw [if_neg h0]
    refine ⟨by unfold ADisk.err; rw [if_neg h0], rfl, rfl, fun hl => ?_, sorted_putF (sorted_delF hs _) _ _, fun s => ?_⟩
    · show max (d.left - 1) (-1) = -1
      rw [hl]; rfl
    · show lk (putF (delF d.fs freshN) (rname n) ⟨L, []⟩) s = _
      rw [lk_putF, lk_delF]
/-- what Write makes of a disk of roots. -/
theorem wr_law {d : ADisk} (h : Three d) (hs : SortedF d.fs) (hd : d.down = false) (hm : 1000 ≤ d.most) (n : Nat) (L : List UInt8) (hL : L.length ≤ 200) :
    (∃ d', wrSteps d n L = (d', 0) ∧ d'.down = false ∧ d'.most = d.most ∧ (d.left = -1 → d'.left = -1) ∧ SortedF d'.fs ∧ lk d'.fs (rname n) = some ⟨L, []⟩ ∧ lk d'.fs freshN = none ∧ ∀ s, s ≠ rname n → s ≠ freshN → lk d'.fs s = lk d.fs s) ∨
      (d.left ≠ -1 ∧ ∃ d', wrSteps d n L = (d', 15) ∧ d'.down = true ∧ Mid d d') := by
  unfold wrSteps
  rcases step_gone h hs hd with ⟨a1, m1, b1, f1⟩ | ⟨a0, a1, m1, b1⟩
  · rw [if_neg (by simp [a1])]
    rcases step_app m1.three m1.sorted b1 f1 (by rw [m1.most]; exact hm) L hL with ⟨a2, m2, b2, f2⟩ | ⟨a0, a2, m2, b2⟩
    · rw [if_neg (by simp [a2])]
      rcases step_sync m2.three m2.sorted b2 f2 hL with ⟨a3, m3, b3, f3⟩ | ⟨a0, a3, m3, b3⟩
      · rw [if_neg (by simp [a3])]
        have m := (m1.trans m2).trans m3
        rcases step_ren m3.three m3.sorted b3 f3 n with ⟨a4, b4, c4, e4, s4, g4⟩ | ⟨a0, a4, m4, b4⟩
        · left
          refine ⟨_, by rw [a4], b4, c4.trans m.most, fun hl => e4 (m.free hl), s4, ?_, ?_, fun s x y => ?_⟩
          · rw [g4, if_pos rfl]
          · rw [g4, if_neg (rname_fresh n).symm, if_pos rfl]
          · rw [g4, if_neg x, if_neg y]
            by_cases h0 : s = rname 0
            · subst h0; exact m.same 0
            · by_cases h1 : s = rname 1
              · subst h1; exact m.same 1
              · rw [m.three.none s h0 h1 y, h.none s h0 h1 y]
        · right
          exact ⟨fun hl => a0 (m.free hl), _, by rw [a4], b4, m.trans m4⟩
      · right
        rw [if_pos (by rw [a3]; decide), a3]
        exact ⟨fun hl => a0 ((m1.trans m2).free hl), _, rfl, b3, (m1.trans m2).trans m3⟩
    · right
      rw [if_pos (by rw [a2]; decide), a2]
      exact ⟨fun hl => a0 (m1.free hl), _, rfl, b2, m1.trans m2⟩
  · right
    rw [if_pos (by rw [a1]; decide), a1]
    exact ⟨a0, _, rfl, b1, m1⟩
end Go.Proofs.YtkacgmbinkoojaaGreatDoor

/-
  Roots on a plain disk: the root that counts, behind Write, behind a crash. No program here.
-/
namespace Go.Proofs.YtkacgmbinkoojaaGreatDoor

theorem parse_root {r : ARoot} (h : r.Ok) : parseE (sealL sumL r.bytes) = 0 ∧ parseR (sealL sumL r.bytes) = r := by
  have := parse_seal (S := sumL) sumL_len h
  unfold parseE parseR
  rw [this]
  exact ⟨rfl, rfl⟩
theorem cand_zero {d : ADisk} {k : Nat} (h : (cand d k).serial = 0) : cand d k = root0 := by
  unfold cand at h ⊢
  split
  · rename_i hc
    rw [if_pos hc] at h
    have := (parse_good _ hc.2.1).s0
    omega
  · rfl
theorem readR_eq {d : ADisk} (hd : d.down = false) : readR d = if (cand d 0).serial < (cand d 1).serial then cand d 1 else cand d 0 := by
  have h1 : readK d 1 = cand d 0 := by
    show (if (readK d 0).serial < (cand d 0).serial then cand d 0 else readK d 0) = _
    split
    · rfl
    · rename_i h
      have hz : (readK d 0).serial = 0 := rfl
      rw [hz] at h
      exact (cand_zero (by omega)).symm
  unfold readR
  rw [if_neg (by simp [hd])]
  show (if (readK d 1).serial < (cand d 1).serial then cand d 1 else readK d 1) = _
  rw [h1]
theorem cand_le_read {d : ADisk} (hd : d.down = false) (k : Nat) (hk : k < 2) : (cand d k).serial ≤ (readR d).serial := by
  rw [readR_eq hd]
  have : k = 0 ∨ k = 1 := by omega
  rcases this with rfl | rfl <;> split <;> omega
theorem readR_win {d : ADisk} (hd : d.down = false) {r : ARoot} {k : Nat} (hk : k < 2) (h1 : cand d k = r) (h2 : (cand d (1 - k)).serial < r.serial) : readR d = r := by
  rw [readR_eq hd]
  have : k = 0 ∨ k = 1 := by omega
  rcases this with rfl | rfl
  · rw [h1, if_neg (by simp only [Nat.sub_zero] at h2; omega)]
  · rw [h1, if_pos (by simpa using h2)]
/-- what a file tells depends on that file alone. -/
theorem cand_lk {d d' : ADisk} (hd : d.down = false) (hd' : d'.down = false) {k : Nat} (h : lk d'.fs (rname k) = lk d.fs (rname k)) : cand d' k = cand d k := by
  have hf : findErr d' (rname k) = findErr d (rname k) := by unfold findErr; rw [h, hd, hd']
  have ha : afile d' (rname k) = afile d (rname k) := by unfold afile; rw [h]
  have hr : d'.readBytes (rname k) = d.readBytes (rname k) := by unfold ADisk.readBytes; rw [hf, ha]
  unfold cand
  rw [hf, hr]
theorem cand_file {d : ADisk} (hd : d.down = false) {k : Nat} {f : AFile} (hl : lk d.fs (rname k) = some f) {r : ARoot} (hb : f.firm ++ f.loose = sealL sumL r.bytes) (hr : r.Ok) (hk : r.serial % 2 = k) : cand d k = r := by
  have hf : findErr d (rname k) = 0 := by unfold findErr; rw [hl, if_neg (by simp [hd])]; rfl
  have ha : afile d (rname k) = f := by unfold afile; rw [hl]; rfl
  have hrb : d.readBytes (rname k) = sealL sumL r.bytes := by unfold ADisk.readBytes; rw [if_pos hf, ha, hb]
  obtain ⟨p1, p2⟩ := parse_root hr
  unfold cand
  rw [hrb, p1, p2, if_pos ⟨hf, rfl, hk⟩]

/-- a disk of roots. -/
structure Fair (d : ADisk) : Prop where
  up : d.down = false
  three : Three d
  most : 1000 ≤ d.most
  sorted : SortedF d.fs
/-- a disk of roots between two writes. -/
structure Good (d : ADisk) : Prop extends Fair d where
  firm : ∀ k f, lk d.fs (rname k) = some f → f.loose = []
theorem readE_good {d : ADisk} (g : Fair d) : readE d = 0 := by unfold readE; rw [if_neg (by simp [g.up])]
theorem root_len48 {r : ARoot} (h : r.Ok) : (sealL sumL r.bytes).length ≤ 48 + r.blob.length := by
  have v1 : ∀ n, n ≤ 9007199254740992 → (vint n).length ≤ 10 := fun n hn => vint_len (by omega) (Nat.lt_of_le_of_lt hn (by decide))
  have h1 := v1 _ h.s1
  have h2 := v1 _ h.t1
  have h3 := v1 _ h.c1
  have h4 := v1 r.blob.length (by have := h.b1; omega)
  unfold sealL ARoot.bytes
  simp only [List.length_append, sumL_len, List.length_cons, List.length_nil]
  omega

theorem root_len {r : ARoot} (h : r.Ok) (hb : r.blob.length ≤ 120) : (sealL sumL r.bytes).length ≤ 200 := by have := root_len48 h; omega
/-- what Write makes of a disk between two writes. -/
theorem write_law {d : ADisk} (g : Fair d) {t c : Int} {b : List UInt8} (he : rbErr ((readR d).serial + 1 : Nat) t c b.length = 0) (hb : b.length ≤ 120) :
    (∃ d', wrAll d t c b = (d', 0) ∧ Fair d' ∧ ((∀ k f, lk d.fs (rname k) = some f → f.loose = []) → Good d') ∧ readR d' = aroot ((readR d).serial + 1 : Nat) t c b ∧ (d.left = -1 → d'.left = -1) ∧ d'.most = d.most ∧
        (∃ f, lk d'.fs (rname ((readR d).serial + 1)) = some f ∧ f.firm = sealL sumL (aroot ((readR d).serial + 1 : Nat) t c b).bytes) ∧ lk d'.fs freshN = none ∧ ∀ s, s ≠ rname ((readR d).serial + 1) → s ≠ freshN → lk d'.fs s = lk d.fs s) ∨
      (d.left ≠ -1 ∧ ∃ d', wrAll d t c b = (d', 15) ∧ d'.down = true ∧ Mid d d') := by
  have hok := rb_ok he
  have hout : rbOut ((readR d).serial + 1 : Nat) t c b = sealL sumL (aroot ((readR d).serial + 1 : Nat) t c b).bytes := by unfold rbOut; rw [if_pos he]
  have hL := root_len hok hb
  have hall : wrAll d t c b = wrSteps d ((readR d).serial + 1) (sealL sumL (aroot ((readR d).serial + 1 : Nat) t c b).bytes) := by
    unfold wrAll
    rw [if_neg (by simp [g.up]), he, if_neg (fun h => h rfl), hout]
  rw [hall]
  obtain ⟨n, hn⟩ : ∃ n, (readR d).serial + 1 = n := ⟨_, rfl⟩
  rw [hn] at hok hL ⊢
  have hser : (aroot (n : Nat) t c b).serial = n := by simp [aroot]
  generalize hr : aroot (n : Nat) t c b = r at hok hL hser ⊢
  rcases wr_law g.three g.sorted g.up g.most n (sealL sumL r.bytes) hL with ⟨d', e1, e2, e3, e4, e5, e6, e7, e8⟩ | ⟨e0, d', e1, e2, e3⟩
  · left
    have hc1 : cand d' (n % 2) = r := cand_file e2 (by rw [rname_mod]; exact e6) (by simp) hok (by rw [hser])
    have ho : rname (1 - n % 2) ≠ rname n := by
      unfold rname
      rcases Nat.mod_two_eq_zero_or_one n with h | h
      · rw [h, if_neg (by decide), if_pos rfl]; decide
      · rw [h, if_pos (by decide), if_neg (by decide)]; decide
    have hc2 : cand d' (1 - n % 2) = cand d (1 - n % 2) := cand_lk g.up e2 (e8 _ ho (rname_fresh _))
    have hlt : (cand d' (1 - n % 2)).serial < r.serial := by
      rw [hc2, hser]
      have := cand_le_read g.up (1 - n % 2) (by omega)
      omega
    have hF : Fair d' := by
      refine ⟨e2, ⟨fun s a b' c' => ?_, fun s f hl => ?_⟩, by rw [e3]; exact g.most, e5⟩
      · rw [e8 s (fun e => by rcases rname_cases n with h | h; exact a (e.trans h); exact b' (e.trans h)) c']
        exact g.three.none s a b' c'
      · by_cases h1 : s = rname n
        · subst h1; rw [e6] at hl; cases hl; simpa [AFile.len] using hL
        · by_cases h2 : s = freshN
          · subst h2; rw [e7] at hl; cases hl
          · rw [e8 s h1 h2] at hl; exact g.three.len s f hl
    refine ⟨d', e1, hF, fun hfirm => ⟨hF, fun k f hl => ?_⟩, readR_win e2 (by omega) hc1 hlt, e4, e3, ⟨_, e6, rfl⟩, e7, e8⟩
    · by_cases h1 : rname k = rname n
      · rw [h1, e6] at hl; cases hl; rfl
      · rw [e8 _ h1 (rname_fresh k)] at hl; exact hfirm k f hl
  · right
    exact ⟨e0, d', e1, e2, e3⟩
/-- a new disk. -/
theorem new_good (n : Int) (h : 1000 ≤ n) : Good ⟨n, -1, false, []⟩ ∧ readR ⟨n, -1, false, []⟩ = root0 := by
  have hl : ∀ s, lk ([] : List (ByteArray × AFile)) s = none := fun s => rfl
  refine ⟨⟨⟨rfl, ⟨fun s _ _ _ => hl s, fun s f h => (by cases h)⟩, h, List.Pairwise.nil⟩, fun k f h => (by cases h)⟩, ?_⟩
  rw [readR_eq rfl]
  have hc : ∀ k, cand ⟨n, -1, false, []⟩ k = root0 := by
    intro k
    unfold cand
    rw [if_neg]
    rintro ⟨h0, _⟩
    exact absurd h0 (by unfold findErr; rw [hl]; simp)
  rw [hc, hc]; rfl
/-- a root's bytes with others behind them are none. -/
theorem parse_more {r : ARoot} (h : r.Ok) (z : List UInt8) (hz : z ≠ []) : parseE (sealL sumL r.bytes ++ z) ≠ 0 := by
  intro h0
  have hp : ∃ r', parseL sumL (sealL sumL r.bytes ++ z) = (0, some r') := by
    obtain ⟨er, b, hun⟩ : ∃ er b, unsealL sumL (sealL sumL r.bytes ++ z) = (er, b) := ⟨_, _, rfl⟩
    have hq := parse_un hun
    unfold parseE at h0
    by_cases he : er = 0
    · rw [if_pos he] at hq
      cases hr : pRoot b with
      | none => rw [hr] at hq; rw [hq] at h0; exact absurd h0 (by decide)
      | some r' => rw [hr] at hq; exact ⟨r', hq⟩
    · rw [if_neg he] at hq
      rw [hq] at h0
      exact absurd h0 he
  obtain ⟨r', hp⟩ := hp
  obtain ⟨_, h1, h2⟩ := parse_ok hp
  unfold sealL at h2
  have hlen := congrArg List.length h2
  simp only [List.length_append, sumL_len] at hlen
  have ht := congrArg (List.take r'.bytes.length) h2
  rw [List.take_left, List.append_assoc, List.take_append, List.take_of_length_le (by omega)] at ht
  have := root_prefix h1 h ht
  have hl := congrArg List.length this
  simp only [List.length_take, List.length_append, sumL_len, List.length_nil] at hl
  have := List.length_pos_iff.2 hz
  omega
/-- two lists in strict order with the same members are one. -/
theorem sorted_ext {l1 l2 : List ByteArray} (h1 : l1.Pairwise (fun a b => ltS a b = true)) (h2 : l2.Pairwise (fun a b => ltS a b = true)) (h : ∀ s, s ∈ l1 ↔ s ∈ l2) : l1 = l2 := by
  induction l1 generalizing l2 with
  | nil =>
    cases l2 with
    | nil => rfl
    | cons b r => exact absurd ((h b).2 List.mem_cons_self) (by simp)
  | cons a r ih =>
    cases l2 with
    | nil => exact absurd ((h a).1 List.mem_cons_self) (by simp)
    | cons b q =>
      obtain ⟨a1, a2⟩ := List.pairwise_cons.1 h1
      obtain ⟨b1, b2⟩ := List.pairwise_cons.1 h2
      have hab : a = b := by
        rcases List.mem_cons.1 ((h a).1 List.mem_cons_self) with e | e
        · exact e
        · rcases List.mem_cons.1 ((h b).2 List.mem_cons_self) with e2 | e2
          · exact e2.symm
          · have x := ltS_trans (b1 a e) (a1 b e2)
            rw [ltS_irrefl] at x; cases x
      subst hab
      congr 1
      refine ih a2 b2 (fun s => ⟨fun hs => ?_, fun hs => ?_⟩)
      · rcases List.mem_cons.1 ((h s).1 (List.mem_cons_of_mem _ hs)) with e | e
        · subst e; have := a1 s hs; rw [ltS_irrefl] at this; cases this
        · exact e
      · rcases List.mem_cons.1 ((h s).2 (List.mem_cons_of_mem _ hs)) with e | e
        · subst e; have := b1 s hs; rw [ltS_irrefl] at this; cases this
        · exact e
theorem names_mem {d : ADisk} (hs : SortedF d.fs) (s : ByteArray) : s ∈ d.names ↔ (lk d.fs s).isSome = true := by
  unfold ADisk.names
  constructor
  · intro h
    obtain ⟨p, hp, rfl⟩ := List.mem_map.1 h
    rw [mem_lk hs hp]; rfl
  · intro h
    cases hl : lk d.fs s with
    | none => rw [hl] at h; cases h
    | some f => exact List.mem_map.2 ⟨_, lk_some_mem hl, rfl⟩
theorem names_eq {d : ADisk} (hs : SortedF d.fs) {l : List ByteArray} (hl : l.Pairwise (fun a b => ltS a b = true)) (h : ∀ s, s ∈ l ↔ (lk d.fs s).isSome = true) : d.names = l :=
  sorted_ext (List.pairwise_map.2 hs) hl (fun s => (names_mem hs s).trans (h s).symm)
end Go.Proofs.YtkacgmbinkoojaaGreatDoor

/-
  The chapter's examples (awake).
-/
namespace Go.Proofs.YtkacgmbinkoojaaGreatDoor
open Go.RowKit Go.Maps Go.MapKept

theorem rb_small (s t c : Nat) (hs : 0 < s) (h1 : s ≤ 1000) (h2 : t ≤ 1000) (h3 : c ≤ 1000) (b : List UInt8) (hb : b.length ≤ 1000) : rbErr (s : Int) (t : Int) (c : Int) b.length = 0 := by
  unfold rbErr; rw [if_neg (by omega), if_neg (by omega)]
/-- what the walk of awake asks of disks. -/
theorem aw_plain : ∃ d1 d2 d3 d4 : ADisk,
    readE ⟨1000, -1, false, []⟩ = 0 ∧ ((readR ⟨1000, -1, false, []⟩).serial : Int) = 0 ∧ ((readR ⟨1000, -1, false, []⟩).tick : Int) = 0 ∧
    wrAll ⟨1000, -1, false, []⟩ 5 2 [] = (d1, 0) ∧ readE d1 = 0 ∧ ((readR d1).serial : Int) = 1 ∧ ((readR d1).tick : Int) = 5 ∧ d1.names = [rname 1] ∧
    wrAll d1 6 2 [] = (d2, 0) ∧ readE d2 = 0 ∧ ((readR d2).serial : Int) = 2 ∧ ((readR d2).tick : Int) = 6 ∧ d2.names = [rname 0, rname 1] ∧
    d2.append (rname 0) [120] = d3 ∧ readE d3 = 0 ∧ ((readR d3).serial : Int) = 1 ∧ ((readR d3).tick : Int) = 5 ∧
    wrAll d3 7 2 [] = (d4, 0) ∧ readE d4 = 0 ∧ ((readR d4).serial : Int) = 2 ∧ ((readR d4).tick : Int) = 7 := by
  obtain ⟨g0, r0⟩ := new_good 1000 (by omega)
  have e0 := readE_good g0.toFair
  have s0 : (readR ⟨1000, -1, false, []⟩).serial = 0 := by rw [r0]; rfl
  have w1 := write_law g0.toFair (t := 5) (c := 2) (b := []) (by rw [s0]; exact rb_small 1 5 2 (by omega) (by omega) (by omega) (by omega) [] (by simp)) (by simp)
  rw [s0] at w1
  rcases w1 with ⟨d1, a1, g1, f1, r1, l1, m1, ⟨x1, k1, b1⟩, n1, o1⟩ | ⟨h, _⟩
  rotate_left
  · exact absurd rfl h
  have s1 : (readR d1).serial = 1 := by rw [r1]; rfl
  have t1 : (readR d1).tick = 5 := by rw [r1]; rfl
  have w2 := write_law g1 (t := 6) (c := 2) (b := []) (by rw [s1]; exact rb_small 2 6 2 (by omega) (by omega) (by omega) (by omega) [] (by simp)) (by simp)
  rw [s1] at w2
  rcases w2 with ⟨d2, a2, g2, f2, r2, l2, m2, ⟨x2, k2, b2⟩, n2, o2⟩ | ⟨h, _⟩
  rotate_left
  · exact absurd (l1 rfl) h
  have s2 : (readR d2).serial = 2 := by rw [r2]; rfl
  have t2 : (readR d2).tick = 6 := by rw [r2]; rfl
  have hle1 : d1.left = -1 := l1 rfl
  have hle2 : d2.left = -1 := l2 hle1
  have k1' : lk d1.fs (rname 1) = some x1 := k1
  have k2' : lk d2.fs (rname 0) = some x2 := k2
  have h01 := rname_01
  have k21 : lk d2.fs (rname 1) = some x1 := by rw [o2 (rname 1) (fun e => h01 e.symm) (rname_fresh 1), k1']
  have k10 : lk d1.fs (rname 0) = none := by rw [o1 (rname 0) h01 (rname_fresh 0)]; rfl
  have nm1 : d1.names = [rname 1] := by
    refine names_eq g1.sorted (by simp) (fun s => ?_)
    simp only [List.mem_singleton]
    constructor
    · rintro rfl; rw [k1']; rfl
    · intro h
      by_cases e1 : s = rname 1
      · exact e1
      · exfalso
        by_cases e2 : s = freshN
        · subst e2; rw [n1] at h; cases h
        · rw [o1 s e1 e2] at h; cases h
  have nm2 : d2.names = [rname 0, rname 1] := by
    refine names_eq g2.sorted (by simp; decide +kernel) (fun s => ?_)
    simp only [List.mem_cons, List.not_mem_nil, or_false]
    constructor
    · rintro (rfl | rfl)
      · rw [k2']; rfl
      · rw [k21]; rfl
    · intro h
      by_cases e1 : s = rname 0
      · exact Or.inl e1
      · by_cases e3 : s = rname 1
        · exact Or.inr e3
        · exfalso
          by_cases e2 : s = freshN
          · subst e2; rw [n2] at h; cases h
          · rw [o2 s e1 e2, g1.three.none s e1 e3 e2] at h; cases h
  -- the spoilt file
  have g0f : Good d1 := f1 (fun k f h => by cases h)
  have g2f : Good d2 := f2 g0f.firm
  have hx2 : x2.loose = [] := g2f.firm 0 x2 k2'
  have ok2 : (aroot (2 : Int) 6 2 []).Ok := rb_ok (rb_small 2 6 2 (by omega) (by omega) (by omega) (by omega) [] (by simp))
  have b2' : x2.firm = sealL sumL (aroot (2 : Int) 6 2 []).bytes := b2
  have hL2 := root_len48 ok2
  rw [← b2'] at hL2
  have hroom := three_room g2.three g2.sorted
  have hmo : d2.most = 1000 := m2.trans m1
  have ha2 : afile d2 (rname 0) = x2 := by unfold afile; rw [k2']; rfl
  obtain ⟨d3, hd3⟩ : ∃ d3, d2.append (rname 0) [120] = d3 := ⟨_, rfl⟩
  have hd3' : d3 = { d2.tick with fs := putF d2.fs (rname 0) ⟨x2.firm, x2.loose ++ [120]⟩ } := by
    rw [← hd3]
    unfold ADisk.append ADisk.put
    rw [if_neg (by simp [g2.up]), if_neg (by simp [rname_ok]), if_neg (by simp; omega), if_neg (by rw [k2']; simp), ha2, if_neg (by omega)]
  have u3 : d3.down = false := by rw [hd3']; rfl
  have lk3 : ∀ s, lk d3.fs s = if s = rname 0 then some ⟨x2.firm, x2.loose ++ [120]⟩ else lk d2.fs s := fun s => by
    rw [hd3']; exact lk_putF _ _ _ _
  have le3 : d3.left = -1 := by
    rw [hd3']
    show max (d2.left - 1) (-1) = -1
    rw [hle2]; rfl
  have g3 : Fair d3 := by
    refine ⟨u3, ⟨fun s a b c => ?_, fun s f hl => ?_⟩, by rw [hd3']; show 1000 ≤ d2.most; omega, by rw [hd3']; exact sorted_putF g2.sorted _ _⟩
    · rw [lk3, if_neg a]; exact g2.three.none s a b c
    · rw [lk3] at hl
      split at hl
      · cases hl
        simp only [AFile.len, hx2, List.nil_append, List.length_cons, List.length_nil]
        have : (aroot (2 : Int) 6 2 []).blob.length = 0 := rfl
        omega
      · exact g2.three.len s f hl
  have c1 : cand d3 1 = readR d1 := by
    have ok1 : (aroot (1 : Int) 5 2 []).Ok := rb_ok (rb_small 1 5 2 (by omega) (by omega) (by omega) (by omega) [] (by simp))
    refine cand_file u3 (f := x1) (by rw [lk3, if_neg h01.symm, k21]) ?_ ?_ (by rw [s1])
    · rw [g0f.firm 1 x1 k1', List.append_nil, b1, r1]
    · rw [r1]; exact ok1
  have c0 : cand d3 0 = root0 := by
    unfold cand
    rw [if_neg]
    rintro ⟨hf, hp, _⟩
    have ha3 : afile d3 (rname 0) = ⟨x2.firm, x2.loose ++ [120]⟩ := by unfold afile; rw [lk3, if_pos rfl]; rfl
    have hrb : d3.readBytes (rname 0) = sealL sumL (aroot (2 : Int) 6 2 []).bytes ++ [120] := by
      unfold ADisk.readBytes; rw [if_pos hf, ha3, b2', hx2]; rfl
    rw [hrb] at hp
    exact parse_more ok2 [120] (by simp) hp
  have r3 : readR d3 = readR d1 := readR_win u3 (k := 1) (by omega) c1 (by rw [show 1 - 1 = 0 from rfl, c0, s1]; decide)
  have w4 := write_law g3 (t := 7) (c := 2) (b := []) (by rw [r3, s1]; exact rb_small 2 7 2 (by omega) (by omega) (by omega) (by omega) [] (by simp)) (by simp)
  rw [r3, s1] at w4
  rcases w4 with ⟨d4, a4, g4, f4, r4, l4, m4, _⟩ | ⟨h, _⟩
  rotate_left
  · exact absurd le3 h
  refine ⟨d1, d2, d3, d4, e0, by rw [s0]; rfl, by rw [r0]; rfl, a1, readE_good g1, by rw [s1]; rfl, by rw [t1]; rfl, nm1, a2, readE_good g2, by rw [s2]; rfl, by rw [t2]; rfl, nm2, hd3, readE_good g3, by rw [r3, s1]; rfl, by rw [r3, t1]; rfl, a4, readE_good g4, by rw [r4]; rfl, by rw [r4]; rfl⟩
end Go.Proofs.YtkacgmbinkoojaaGreatDoor

/-
  The walk of awake (chapter 06).
-/
namespace Go.Proofs.YtkacgmbinkoojaaGreatDoor
open Go.RowKit Go.Maps Go.MapKept

set_option maxRecDepth 100000 in
set_option maxHeartbeats 4000000 in
theorem awake6_any (w : World) : Calls Tryz.prog 6 #[] w fun e w' => e = .returned (.bool true) ∧ Below w.heap.size w w' := by
  have kc := fun (w : World) (C : Array Value) (n c : Nat) => Lib.run_convert_bytes_const (P := Tryz.prog) w 33 5 C n c Tryz.underlying33 Tryz.underlying5
  obtain ⟨d1, d2, d3, d4, a0, a1, a2, b0, b1, b2, b3, b4, c0, c1, c2, c3, c4, p0, p1, p2, p3, q0, q1, q2, q3⟩ := aw_plain
  obtain ⟨ex, hex⟩ : ∃ ex : Nat → Prop, ex = fun k => k < w.heap.size := ⟨_, rfl⟩
  have Hex := Lib.hid hex
  have hx0 : ∀ k, ex k → k < w.heap.size := fun k hk => by rw [hex] at hk; exact hk
  have X1 := Lib.hid (And.intro a0 (And.intro a1 a2))
  have X2 := Lib.hid (And.intro b0 (And.intro b1 (And.intro b2 b3)))
  have X3 := Lib.hid (And.intro c0 (And.intro c1 (And.intro c2 c3)))
  have X4 := Lib.hid (And.intro p0 (And.intro p1 (And.intro p2 p3)))
  have X5 := Lib.hid (And.intro q0 (And.intro q1 (And.intro q2 q3)))
  have N1 := Lib.hid b4
  have N2 := Lib.hid c4
  clear hex a0 a1 a2 b0 b1 b2 b3 b4 c0 c1 c2 c3 c4 p0 p1 p2 p3 q0 q1 q2 q3
  go_enter Tryz.func6, Tryz.ntmps6
  go_wp2_with fail
  refine (New_at (ex := ex) 1000 (by decide) (by decide) hx0).mono ?_
  generalize hp : w.heap.size + 1 = p
  generalize hm : w.heap.size = m
  rintro e w0 ⟨rfl, h0, kk0⟩
  clear hp hm
  go_wp2_with fail
  refine (reads_yes w0 p m _ 0 0 h0 X1.out.1 X1.out.2.1 X1.out.2.2).mono ?_
  rintro e w1 ⟨rfl, hB1⟩
  go_wp2_with fail
  refine (writes_yes w1 p m _ d1 5 1 (h0.below hB1) (by unfold isI64; omega) X2.out.1 (by rw [X1.out.2.1]; rfl) X2.out.2.1 X2.out.2.2.1 X2.out.2.2.2).mono ?_
  rintro e w2 ⟨rfl, h2, k2⟩
  have kk2 := (kk0.trans (Keep.ofBelow hB1 (fun k hk => h0.lt hk))).trans k2
  clear h0 kk0 k2 hB1
  go_wp2_with fail
  refine (List_at h2).mono ?_
  rw [N1.out]
  rintro e w3 ⟨a3, c3, rfl, row3, _, hB3⟩
  have Row3 := Lib.hid row3
  clear row3
  go_wp2_with fail
  have ha3 : Rd (w3.alloc (.cells #[.string ⟨#[114, 111, 111, 116, 49]⟩] 9)) (.slice a3 1 c3) (sCells [rname 1]) := (Rd.ofOwns Row3.out).below ((Below.refl _ _).alloc (Nat.le_refl _) _)
  have hb3 : Rd (w3.alloc (.cells #[.string ⟨#[114, 111, 111, 116, 49]⟩] 9)) (.slice (some ⟨w3.heap.size, 0, none⟩) 1 1) (sCells [rname 1]) := Rd_new _ _ _ _ _ _ _ rfl rfl
  refine (SameTexts_any _ _ _ _ _ ha3 hb3 (by decide) (by decide)).mono ?_
  clear ha3 hb3
  rw [show decide (([rname 1] : List ByteArray) = [rname 1]) = true by simp]
  rintro e w4 ⟨rfl, hB4⟩
  have h24 := below_new h2 (hB3.trans (((Below.refl _ _).alloc (Nat.le_refl _) _).trans (hB4.mono (by simp)) |>.mono hB3.size))
  have h4 := h24.1
  have kk4 := kk2.trans h24.2
  clear h24 h2 kk2 hB3 hB4
  go_wp2_with fail
  refine (writes_yes w4 p m _ d2 6 2 h4 (by unfold isI64; omega) X3.out.1 (by rw [X2.out.2.2.1]; rfl) X3.out.2.1 X3.out.2.2.1 X3.out.2.2.2).mono ?_
  rintro e w5 ⟨rfl, h5, k5⟩
  have kk5 := kk4.trans k5
  clear h4 kk4 k5
  go_wp2_with fail
  refine (List_at h5).mono ?_
  rw [N2.out]
  rintro e w6 ⟨a6, c6, rfl, row6, _, hB6⟩
  have Row6 := Lib.hid row6
  clear row6
  go_wp2_with fail
  have ha6 : Rd (w6.alloc (.cells #[.string ⟨#[114, 111, 111, 116, 48]⟩, .string ⟨#[114, 111, 111, 116, 49]⟩] 9)) (.slice a6 2 c6) (sCells [rname 0, rname 1]) := (Rd.ofOwns Row6.out).below ((Below.refl _ _).alloc (Nat.le_refl _) _)
  have hb6 : Rd (w6.alloc (.cells #[.string ⟨#[114, 111, 111, 116, 48]⟩, .string ⟨#[114, 111, 111, 116, 49]⟩] 9)) (.slice (some ⟨w6.heap.size, 0, none⟩) 2 2) (sCells [rname 0, rname 1]) := Rd_new _ _ _ _ _ _ _ rfl rfl
  refine (SameTexts_any _ _ _ _ _ ha6 hb6 (by decide) (by decide)).mono ?_
  clear ha6 hb6
  rw [show decide (([rname 0, rname 1] : List ByteArray) = [rname 0, rname 1]) = true by simp]
  rintro e w7 ⟨rfl, hB7⟩
  have h57 := below_new h5 (hB6.trans (((Below.refl _ _).alloc (Nat.le_refl _) _).trans (hB7.mono (by simp)) |>.mono hB6.size))
  have h7 := h57.1
  have kk7 := kk5.trans h57.2
  clear h57 h5 kk5 hB6 hB7
  go_wp2_with fail
  refine (Append_at (rname 0) _ [120] (h7.alloc _) (by decide) (Rd_new _ _ _ _ (bcells [120]) _ _ rfl rfl) (by decide)).mono ?_
  rw [X4.out.1]
  rintro e w8 ⟨rfl, h8, k8⟩
  have kk8 := (kk7.trans (Keep.alloc _ _ (fun k hk => h7.lt hk))).trans k8
  clear h7 kk7 k8
  go_wp2_with fail
  refine (reads_yes w8 p m _ 1 5 h8 X4.out.2.1 X4.out.2.2.1 X4.out.2.2.2).mono ?_
  rintro e w9 ⟨rfl, hB9⟩
  go_wp2_with fail
  refine (writes_yes w9 p m _ d4 7 2 (h8.below hB9) (by unfold isI64; omega) X5.out.1 (by rw [X4.out.2.2.1]; rfl) X5.out.2.1 X5.out.2.2.1 X5.out.2.2.2).mono ?_
  rintro e w10 ⟨rfl, h10, k10⟩
  go_wp2
  go_ret
  exact ⟨rfl, ((kk8.trans (Keep.ofBelow hB9 (fun k hk => h8.lt hk))).trans k10).below (fun k hk => by rw [Hex.out]; exact hk)⟩
end Go.Proofs.YtkacgmbinkoojaaGreatDoor

/-
  Write, Read, their answers by name.
-/
namespace Go.Proofs.YtkacgmbinkoojaaGreatDoor
open Go.RowKit Go.Maps Go.MapKept

section
variable {ex : Nat → Prop} {w : World} {p m : Nat} {d d' : ADisk}
end
end Go.Proofs.YtkacgmbinkoojaaGreatDoor
