/-
  The document's disk, read as the same plain disk; the small functions.
-/
import Derived.Outline
import Derived.Test.YtkacgmbinkoojaaGreatDoorMLoA
import Derived.Test.YtkacgmbinkoojaaGreatDoorMDkB
import Derived.Test.YtkacgmbinkoojaaGreatDoorMByA
import Derived.Deep.AppendLies
import Derived.Deep.OwnRows
namespace Go.Proofs.YtkacgmbinkoojaaGreatDoor
open Go.RowKit Go.Maps Go.MapKept

/-- a file's bytes lie in X; their slice can be sliced. -/
def InX (X : Nat → Prop) (v : Value) (xs : List UInt8) : Prop := (xs ≠ [] → ∀ g, v.ownBlock = some g → X g) ∧ CapOk v
/-- a file of the document's; its bytes lie in X. -/
def RFileQ (X : Nat → Prop) (w : World) (l : List Value) (q : ByteArray × AFile) : Prop := ∃ vb, l = [.string q.1, vb, .int .i64 (q.2.firm.length : Nat)] ∧ Rd w vb (bcells (q.2.firm ++ q.2.loose)) ∧ InX X vb (q.2.firm ++ q.2.loose)
/-- the document's disk: it is never written; all that it reads lies in X. -/
structure RefAt (X : Nat → Prop) (w : World) (a : Option Addr) (n c : Nat) (d : ADisk) : Prop where
  files : SliceOf 3 (RFileQ X w) w (.slice a n c) d.fs
  len : n = d.fs.length
  inX : d.fs ≠ [] → ∀ g, (Value.slice a n c).ownBlock = some g → X g
def refVal (a : Option Addr) (n c : Nat) (d : ADisk) : Value := .agg #[.int .i64 d.most, .slice a n c, .int .i64 d.left, .bool d.down]
/-- new blocks are in X. -/
def NewOk (X : Nat → Prop) (w : World) : Prop := ∀ k, w.heap.size ≤ k → X k
theorem NewOk.below {X : Nat → Prop} {N : Nat} {w w' : World} (h : NewOk X w) (hb : Below N w w') : NewOk X w' := fun k hk => h k (Nat.le_trans hb.size hk)

theorem rd_low {W w : World} {v : Value} {xs : List Value} (h : Rd W v xs) (hk : Below W.heap.size W w) : Rd w v xs := h.below hk
variable {X : Nat → Prop}
theorem RefAt.below {W w : World} {a : Option Addr} {n c : Nat} {d : ADisk} (h : RefAt X W a n c d) (hb : Below W.heap.size W w) : RefAt X w a n c d := by
  refine ⟨?_, h.len, h.inX⟩
  rcases h.files with h1 | ⟨b, off, n', c', e, hl, hm, hc⟩
  · exact Or.inl h1
  · refine Or.inr ⟨b, off, n', c', e, hl, hm, fun j q hj => ?_⟩
    obtain ⟨cs, h1, h2, vb, h3, h4, h5⟩ := hc j q hj
    exact ⟨cs, h1, fun i u hu => (hb.cell (p := ⟨b, off + (j * 3 + i), none⟩) (cell_lt (h2 i u hu))).trans (h2 i u hu), vb, h3, rd_low h4 hb, h5⟩
theorem RefAt.keep {ex : Nat → Prop} {w w' : World} {a : Option Addr} {n c : Nat} {d : ADisk} (h : RefAt X w a n c d) (hk : Keep ex w w') (hx : ∀ k, X k → k < w.heap.size → ex k) : RefAt X w' a n c d := by
  refine ⟨?_, h.len, h.inX⟩
  rcases h.files with h1 | ⟨b, off, n', c', e, hl, hm, hc⟩
  · exact Or.inl h1
  · refine Or.inr ⟨b, off, n', c', e, hl, hm, fun j q hj => ?_⟩
    obtain ⟨cs, h1, h2, vb, h3, h4, h5⟩ := hc j q hj
    have hb := h.inX (fun e => by rw [e] at hj; cases hj) b (by rw [e]; rfl)
    refine ⟨cs, h1, fun i u hu => (hk.cell (hx b hb (cell_lt (h2 i u hu))) _).trans (h2 i u hu), vb, h3, ?_, h5⟩
    rcases h4 with h4 | ⟨b2, o2, n2, c2, e2, l2, r2⟩
    · exact Or.inl h4
    · refine Or.inr ⟨b2, o2, n2, c2, e2, l2, fun j u hj => ?_⟩
      exact (hk.cell (hx b2 (h5.1 (fun e => by rw [e] at hj; simp [bcells] at hj) b2 (by rw [e2]; rfl)) (cell_lt (r2 j u hj))) _).trans (r2 j u hj)
theorem RefAt.narrow {Y : Nat → Prop} {w : World} {a : Option Addr} {n c : Nat} {d : ADisk} (h : RefAt X w a n c d) (hy : ∀ k, X k → k < w.heap.size → Y k) : RefAt Y w a n c d := by
  rcases h.files with ⟨h1, h2⟩ | ⟨b, off, n', c', e, hl, hm, hc⟩
  · exact ⟨Or.inl ⟨h1, h2⟩, h.len, fun hne => absurd h2 hne⟩
  · refine ⟨Or.inr ⟨b, off, n', c', e, hl, hm, fun j q hj => ?_⟩, h.len, fun hne g hg => ?_⟩
    · obtain ⟨cs, h1, h2, vb, h3, h4, h5⟩ := hc j q hj
      refine ⟨cs, h1, h2, vb, h3, h4, fun hne g hg => hy g (h5.1 hne g hg) ?_, h5.2⟩
      rcases h4 with ⟨_, h4⟩ | ⟨b2, o2, n2, c2, e2, l2, r2⟩
      · exact absurd (by simpa [bcells] using h4) hne
      · rw [e2] at hg
        cases hg
        cases hxs : q.2.firm ++ q.2.loose with
        | nil => exact absurd hxs hne
        | cons x xs => exact cell_lt (r2 0 (.int .u8 x.toNat) (by rw [hxs]; rfl))
    · refine hy g (h.inX hne g hg) ?_
      rw [e] at hg
      cases hg
      cases hxs : d.fs with
      | nil => exact absurd hxs hne
      | cons q qs =>
        obtain ⟨cs, h1, h2, vb, h3, _⟩ := hc 0 q (by rw [hxs]; rfl)
        exact cell_lt (h2 0 (.string q.1) (by rw [h3]; rfl))
theorem RefAt.atX {w : World} {a : Option Addr} {n c : Nat} {d : ADisk} (h : RefAt X w a n c d) (k : Nat) (hk : k < d.fs.length) :
    ∃ b off vb, a = some ⟨b, off, none⟩ ∧ w.cell? ⟨b, off + k * 3, none⟩ = some (.string d.fs[k].1) ∧ w.cell? ⟨b, off + k * 3 + 1, none⟩ = some vb ∧ w.cell? ⟨b, off + k * 3 + 2, none⟩ = some (.int .i64 (d.fs[k].2.firm.length : Nat)) ∧ Rd w vb (bcells (d.fs[k].2.firm ++ d.fs[k].2.loose)) ∧ InX X vb (d.fs[k].2.firm ++ d.fs[k].2.loose) := by
  obtain ⟨b, off, ha, l, _, hc, vb, rfl, hr⟩ := SliceOf.at h.files k hk
  have g0 := hc 0 _ rfl
  have g1 := hc 1 _ rfl
  have g2 := hc 2 _ rfl
  rw [Nat.add_zero] at g0
  rw [← Nat.add_assoc] at g1 g2
  exact ⟨b, off, vb, ha, g0, g1, g2, hr⟩
theorem RefAt.at {w : World} {a : Option Addr} {n c : Nat} {d : ADisk} (h : RefAt X w a n c d) (k : Nat) (hk : k < d.fs.length) :
    ∃ b off vb, a = some ⟨b, off, none⟩ ∧ w.cell? ⟨b, off + k * 3, none⟩ = some (.string d.fs[k].1) ∧ w.cell? ⟨b, off + k * 3 + 1, none⟩ = some vb ∧ w.cell? ⟨b, off + k * 3 + 2, none⟩ = some (.int .i64 (d.fs[k].2.firm.length : Nat)) ∧ Rd w vb (bcells (d.fs[k].2.firm ++ d.fs[k].2.loose)) := by
  obtain ⟨b, off, vb, h1, h2, h3, h4, h5, _⟩ := h.atX k hk
  exact ⟨b, off, vb, h1, h2, h3, h4, h5⟩

set_option maxRecDepth 100000 in
set_option maxHeartbeats 1000000 in
theorem refLetter_any (w : World) (c : UInt8) : Calls Tryz.prog 76 #[.int .u8 c.toNat] w fun e w' => e = .returned (.bool (okLetter c)) ∧ w = w' := by
  have hfin := okLetter_iff c
  have hc := c.toNat_lt
  generalize okLetter c = b at hfin ⊢
  have Hfin := Lib.hid hfin
  clear hfin
  obtain ⟨z, hz⟩ : ∃ z : Int, (c.toNat : Int) = z := ⟨_, rfl⟩
  rw [hz] at Hfin ⊢
  have hz0 : 0 ≤ z := by omega
  have hz1 : z ≤ 255 := by omega
  clear hz hc
  have hbf : ¬ ((97 ≤ z ∧ z ≤ 122) ∨ (48 ≤ z ∧ z ≤ 57) ∨ z = 46 ∨ z = 45) → b = false := fun h => by
    cases hb : b with
    | false => rfl
    | true => exact absurd ((Hfin.out).1 hb) h
  have tail : ¬ (48 ≤ z ∧ z ≤ 57) → Calls Tryz.prog 76 #[.int .u8 z] w fun e w' => e = .returned (.bool b) ∧ w = w' := by
    intro hn
    have hpart : ∀ (P : Prop), (¬ 48 ≤ z → P) → (48 ≤ z → ¬ z ≤ 57 → P) → P := fun P p1 p2 => by
      by_cases h1 : 48 ≤ z
      · exact p2 h1 (fun h2 => hn ⟨h1, h2⟩)
      · exact p1 h1
    by_cases h3 : 97 ≤ z
    · by_cases h4 : z ≤ 122
      · refine hpart _ (fun h1 => ?_) (fun h1 h2 => ?_)
        all_goals
          go_enter Tryz.func76, Tryz.ntmps76
          go_wp2
          go_ret
          exact ⟨by first | (rw [(Hfin.out).2 (by omega)]; rfl) | (rw [hbf (by omega)]; rfl), rfl⟩
      · have q1 : (z == 45) = false := by simp; omega
        have q2 : (z == 46) = false := by simp; omega
        refine hpart _ (fun h1 => ?_) (fun h1 h2 => ?_)
        all_goals
          go_enter Tryz.func76, Tryz.ntmps76
          go_wp2
          go_ret
          exact ⟨by first | (rw [(Hfin.out).2 (by omega)]; rfl) | (rw [hbf (by omega)]; rfl), rfl⟩
    · by_cases h5 : z = 45
      · have q1 : (z == 45) = true := by simp [h5]
        refine hpart _ (fun h1 => ?_) (fun h1 h2 => ?_)
        all_goals
          go_enter Tryz.func76, Tryz.ntmps76
          go_wp2
          go_ret
          exact ⟨by first | (rw [(Hfin.out).2 (by omega)]; rfl) | (rw [hbf (by omega)]; rfl), rfl⟩
      · have q1 : (z == 45) = false := by simp [h5]
        by_cases h6 : z = 46
        · have q2 : (z == 46) = true := by simp [h6]
          refine hpart _ (fun h1 => ?_) (fun h1 h2 => ?_)
          all_goals
            go_enter Tryz.func76, Tryz.ntmps76
            go_wp2
            go_ret
            exact ⟨by first | (rw [(Hfin.out).2 (by omega)]; rfl) | (rw [hbf (by omega)]; rfl), rfl⟩
        · have q2 : (z == 46) = false := by simp [h6]
          refine hpart _ (fun h1 => ?_) (fun h1 h2 => ?_)
          all_goals
            go_enter Tryz.func76, Tryz.ntmps76
            go_wp2
            go_ret
            exact ⟨by first | (rw [(Hfin.out).2 (by omega)]; rfl) | (rw [hbf (by omega)]; rfl), rfl⟩
  by_cases h1 : 48 ≤ z
  · by_cases h2 : z ≤ 57
    · clear tail
      go_enter Tryz.func76, Tryz.ntmps76
      go_wp2
      go_ret
      exact ⟨by first | (rw [(Hfin.out).2 (by omega)]; rfl) | (rw [hbf (by omega)]; rfl), rfl⟩
    · exact tail (fun h => h2 h.2)
  · exact tail (fun h => h1 h.1)
end Go.Proofs.YtkacgmbinkoojaaGreatDoor

/-
  The document's disk: Right, Used, Find.
-/
namespace Go.Proofs.YtkacgmbinkoojaaGreatDoor
open Go.RowKit Go.Maps Go.MapKept
variable {X : Nat → Prop}

theorem usedF_app (x y : List (ByteArray × AFile)) : usedF (x ++ y) = usedF x + usedF y := by unfold usedF; rw [List.map_append, List.sum_append]
set_option maxRecDepth 100000 in
set_option maxHeartbeats 2000000 in
theorem refUsed_any (w : World) (a : Option Addr) (n c : Nat) (d : ADisk) (h : RefAt X w a n c d) (hw : d.WF) :
    Calls Tryz.prog 50 #[refVal a n c d] w fun e w' => e = .returned (.int .i64 (usedF d.fs)) ∧ Below w.heap.size w w' := by
  have hu := hw.used
  have hm := hw.most1
  have hcnt := hw.count
  obtain rfl := h.len
  unfold refVal
  have hX := alloc_at w (.cells #[.int .i64 d.most, .slice a d.fs.length c, .int .i64 d.left, .bool d.down] 29)
  have hbX : Below w.heap.size w (w.alloc (.cells #[.int .i64 d.most, .slice a d.fs.length c, .int .i64 d.left, .bool d.down] 29)) := (Below.refl _ _).alloc (Nat.le_refl _) _
  obtain ⟨W, hW⟩ : ∃ W, w.alloc (.cells #[.int .i64 d.most, .slice a d.fs.length c, .int .i64 d.left, .bool d.down] 29) = W := ⟨_, rfl⟩
  rw [hW] at hX hbX
  have hR := h.below hbX
  have HW := Lib.hid hW
  clear hW
  go_enter Tryz.func50, Tryz.ntmps50
  go_wp2_with fail
  rw [HW.out]
  go_loopw [3, 4] (fun s i wr => ∃ k : Nat, k ≤ d.fs.length ∧ i = .int .i64 k ∧ s = .int .i64 (usedF (d.fs.take k)) ∧ wr = W) (fun _ i _ => d.fs.length - (intOf i).toNat)
  case atStart => exact ⟨0, by omega, rfl, rfl, rfl⟩
  case round =>
    obtain ⟨k, hk, rfl, rfl, rfl⟩ := hrel
    obtain ⟨x0, x1, x2, x3, _⟩ := cells4 hX
    by_cases hlt : k < d.fs.length
    · obtain ⟨b, off, vb, rfl, c0, c1, c2, hr⟩ := hR.at k hlt
      obtain ⟨ab, cb, rfl⟩ := hr.shape
      have hlen : (bcells (d.fs[k].2.firm ++ d.fs[k].2.loose)).length = d.fs[k].2.len := by simp [bcells, AFile.len]
      rw [hlen] at c1
      have hsucc : usedF (d.fs.take (k + 1)) = usedF (d.fs.take k) + d.fs[k].2.len := by
        rw [List.take_succ_eq_append_getElem hlt, usedF_app]; rfl
      have hle : usedF (d.fs.take (k + 1)) ≤ usedF d.fs := by
        have := congrArg usedF (List.take_append_drop (k + 1) d.fs)
        rw [usedF_app] at this
        omega
      obtain ⟨m, hm2⟩ : ∃ m, d.fs[k].2.len = m := ⟨_, rfl⟩
      rw [hm2] at c1 hsucc
      have Hsucc := Lib.hid hsucc
      have hb1 : usedF (d.fs.take k) + m ≤ 16777216 := by omega
      clear hsucc hle hm2 hlen
      go_wp2
      go_roundw
      case rel => exact ⟨k + 1, by omega, by go_num, by rw [Hsucc.out]; go_num, trivial⟩
      case measure => simp [intOf]; omega
    · obtain rfl : k = d.fs.length := by omega
      have ht : usedF (d.fs.take d.fs.length) = usedF d.fs := by rw [List.take_length]
      rw [ht]
      go_wp2
      go_ret
      exact ⟨rfl, hbX⟩
set_option maxRecDepth 100000 in
set_option maxHeartbeats 2000000 in
theorem refFind_any (w : World) (a : Option Addr) (n c : Nat) (d : ADisk) (s : ByteArray) (h : RefAt X w a n c d) (hw : d.WF) :
    Calls Tryz.prog 75 #[refVal a n c d, .string s] w fun e w' => (∃ i : Int, e = .returned (.int .i64 i) ∧ ((∃ (k : Nat) (hk : k < d.fs.length), i = k ∧ d.fs[k].1 = s) ∨ (i = -1 ∧ lk d.fs s = none))) ∧ Below w.heap.size w w' := by
  have hcnt := hw.count
  obtain rfl := h.len
  unfold refVal
  have hX := alloc_at w (.cells #[.int .i64 d.most, .slice a d.fs.length c, .int .i64 d.left, .bool d.down] 29)
  have hbX : Below w.heap.size w (w.alloc (.cells #[.int .i64 d.most, .slice a d.fs.length c, .int .i64 d.left, .bool d.down] 29)) := (Below.refl _ _).alloc (Nat.le_refl _) _
  obtain ⟨W, hW⟩ : ∃ W, w.alloc (.cells #[.int .i64 d.most, .slice a d.fs.length c, .int .i64 d.left, .bool d.down] 29) = W := ⟨_, rfl⟩
  rw [hW] at hX hbX
  have hR := h.below hbX
  have HW := Lib.hid hW
  obtain ⟨x0, x1, x2, x3, _⟩ := cells4 hX
  clear hW
  go_enter Tryz.func75, Tryz.ntmps75
  go_wp2_with fail
  rw [HW.out]
  go_loopw [5] (fun v wr => ∃ t : Nat, t ≤ d.fs.length ∧ v = .int .i64 ((t : Int) - 1) ∧ (∀ q ∈ d.fs.drop t, q.1 ≠ s) ∧ wr = W) (fun v _ => (intOf v + 1).toNat)
  case atStart => exact ⟨d.fs.length, by omega, rfl, by simp, rfl⟩
  case round =>
    obtain ⟨t, ht, rfl, hall, rfl⟩ := hrel
    cases t with
    | zero =>
      have hnone : lk d.fs s = none := by
        cases hl : lk d.fs s with
        | none => rfl
        | some f => exact absurd rfl (hall _ (by simpa using lk_some_mem hl))
      have Hnone := Lib.hid hnone
      clear hnone hall
      go_wp2
      go_ret
      exact ⟨⟨-1, rfl, Or.inr ⟨rfl, Hnone.out⟩⟩, hbX⟩
    | succ k =>
      have hlt : k < d.fs.length := by omega
      obtain ⟨b, off, vb, rfl, c0, c1, c2, hr⟩ := hR.at k hlt
      have hdrop : d.fs.drop k = d.fs[k] :: d.fs.drop (k + 1) := List.drop_eq_getElem_cons hlt
      have e1 : ((k + 1 : Nat) : Int) - 1 = (k : Int) := by omega
      rw [e1]
      obtain ⟨nm1, hnm⟩ : ∃ z, d.fs[k].1 = z := ⟨_, rfl⟩
      rw [hnm] at c0
      have Hall := Lib.hid hall
      have Hdrop := Lib.hid hdrop
      have Hnm := Lib.hid hnm
      clear hall hdrop hnm e1
      by_cases he : nm1 = s
      · have hq : (nm1.toList == s.toList) = true := by rw [strEq]; simp [he]
        have He := Lib.hid he
        clear he
        go_wp2
        go_ret
        exact ⟨⟨k, rfl, Or.inl ⟨k, hlt, rfl, by rw [Hnm.out, He.out]⟩⟩, hbX⟩
      · have hq : (nm1.toList == s.toList) = false := by rw [strEq]; simp [he]
        have He := Lib.hid he
        clear he
        go_wp2
        go_roundw
        case rel =>
          refine ⟨k, by omega, by go_num, fun q hq => ?_, trivial⟩
          rw [Hdrop.out] at hq
          rcases List.mem_cons.1 hq with rfl | hq
          · rw [Hnm.out]; exact He.out
          · exact Hall.out q hq
        case measure => simp [intOf]
end Go.Proofs.YtkacgmbinkoojaaGreatDoor

/-
  The document's disk: New, ask.
-/
namespace Go.Proofs.YtkacgmbinkoojaaGreatDoor
open Go.RowKit Go.Maps Go.MapKept
variable {X : Nat → Prop}

set_option maxRecDepth 100000 in
set_option maxHeartbeats 2000000 in
theorem refNew_good (w : World) (n : Int) (h0 : 0 ≤ n) (h1 : n ≤ 16777216) :
    Calls Tryz.prog 5 #[.int .i64 n] w fun e w' => e = .returned (.tuple #[refVal none 0 0 ⟨n, -1, false, []⟩, .int .i64 0]) ∧ Below w.heap.size w w' := by
  go_enter Tryz.func5, Tryz.ntmps5
  go_wp2_with fail
  have hX := alloc_at w (.cells #[.int .i64 n, .slice none 0 0, .int .i64 (-1), .bool false] 29)
  have hb : Below w.heap.size w (w.alloc (.cells #[.int .i64 n, .slice none 0 0, .int .i64 (-1), .bool false] 29)) := (Below.refl _ _).alloc (Nat.le_refl _) _
  obtain ⟨x0, x1, x2, x3, _⟩ := cells4 hX
  refine bodyPost_ret (v := .tuple #[.agg #[.int .i64 n, .slice none 0 0, .int .i64 (-1), .bool false], .int .i64 0]) (by simp [results, Tryz.results5, go_sem, x0, x1, x2, x3]) rfl ⟨rfl, hb⟩
end Go.Proofs.YtkacgmbinkoojaaGreatDoor

/-
  The document's disk: Right.
-/
namespace Go.Proofs.YtkacgmbinkoojaaGreatDoor
open Go.RowKit Go.Maps Go.MapKept

set_option maxRecDepth 100000 in
set_option maxHeartbeats 2000000 in
theorem refRight_any (w : World) (s : ByteArray) (hs : s.size ≤ maxLen) :
    Calls Tryz.prog 49 #[.string s] w fun e w' => e = .returned (.bool (okName s)) ∧ w = w' := by
  simp only [maxLen] at hs
  go_enter Tryz.func49, Tryz.ntmps49
  go_wp2_with fail
  go_loopw [3] (fun v wr => ∃ k : Nat, k ≤ s.size ∧ k ≤ 41 ∧ v = .int .i64 k ∧ (s.data.toList.take k).all okLetter = true ∧ wr = w) (fun v _ => s.size - (intOf v).toNat)
  case atStart => exact ⟨0, by omega, by omega, rfl, by simp, rfl⟩
  case round =>
    obtain ⟨k, hk, hk41, rfl, hall, rfl⟩ := hrel
    have Hall := Lib.hid hall
    clear hall
    by_cases h1 : k < s.size
    · by_cases h2 : k ≤ 40
      · have hb : byteAt s k = s[k] := by simp [byteAt, List.getD, h1]; rfl
        have hsucc := take_all_succ s k h1 Hall.out
        have hbad := okName_bad s k h1
        rw [hb] at hsucc hbad
        cases hok : okLetter s[k] with
        | true =>
          rw [hok] at hsucc
          go_wp2_with fail
          refine (refLetter_any _ s[k]).mono ?_
          rw [hok]
          rintro e w1 ⟨rfl, rfl⟩
          dsimp only
          go_wp2
          go_roundw
          case rel => exact ⟨k + 1, by omega, by omega, by go_num, hsucc, trivial⟩
          case measure => simp [intOf]; omega
        | false =>
          have hn := hbad hok
          have Hn := Lib.hid hn
          have hq : ((k : Int) == (s.size : Int)) = false := by simp; omega
          clear hbad hsucc hb hn
          go_wp2_with fail
          refine (refLetter_any _ s[k]).mono ?_
          rw [hok]
          rintro e w1 ⟨rfl, rfl⟩
          dsimp only
          go_wp2
          go_ret
          exact ⟨by rw [Hn.out]; rfl, rfl⟩
      · have hn : okName s = false := by simp [okName]; intros; omega
        have Hn := Lib.hid hn
        have hk : k = 41 := by omega
        clear hn
        have hq : ((k : Int) == (s.size : Int)) = false := by simp; omega
        go_wp2
        go_ret
        exact ⟨by rw [Hn.out]; rfl, rfl⟩
    · have hks : k = s.size := by omega
      have hq : ((k : Int) == (s.size : Int)) = true := by simp [hks]
      have hall : s.data.toList.all okLetter = true := by
        have := Hall.out
        rwa [List.take_of_length_le (by simp; omega)] at this
      have hfin : okName s = (decide (0 < (k : Int)) && decide ((k : Int) ≤ 40)) := by
        unfold okName
        rw [hall, Bool.true_and]
        congr 1
        all_goals (congr 1; exact propext (by omega))
      have Hfin := Lib.hid hfin
      clear hfin hall hks
      by_cases h3 : 0 < (k : Int)
      · by_cases h4 : (k : Int) ≤ 40
        · go_wp2
          go_ret
          exact ⟨by rw [Hfin.out, decide_eq_true h3, decide_eq_true h4]; rfl, rfl⟩
        · go_wp2
          go_ret
          exact ⟨by rw [Hfin.out, decide_eq_true h3, decide_eq_false (Int.not_le.2 h4)]; rfl, rfl⟩
      · go_wp2
        go_ret
        exact ⟨by rw [Hfin.out, decide_eq_false (Int.not_lt.2 h3)]; rfl, rfl⟩
end Go.Proofs.YtkacgmbinkoojaaGreatDoor

/-
  The document's disk: a file's place; ask.
-/
namespace Go.Proofs.YtkacgmbinkoojaaGreatDoor
open Go.RowKit Go.Maps Go.MapKept
variable {X : Nat → Prop}

/-- the place of a file, or -1. -/
def placeF (fs : List (ByteArray × AFile)) (s : ByteArray) : Int := match fs.findIdx? (fun p => decide (p.1 = s)) with
  | some k => (k : Int)
  | none => -1
theorem place_found {fs : List (ByteArray × AFile)} (hs : SortedF fs) {s : ByteArray} {k : Nat} (hk : k < fs.length) (h : fs[k].1 = s) : placeF fs s = k := by
  have : fs.findIdx? (fun p => decide (p.1 = s)) = some k := by
    rw [List.findIdx?_eq_some_iff_getElem]
    refine ⟨hk, by simpa using h, fun j hj => ?_⟩
    have := List.pairwise_iff_getElem.1 hs j k (by omega) hk hj
    have hne := ltS_ne this
    rw [h] at hne
    simpa using hne
  unfold placeF
  rw [this]
theorem place_none {fs : List (ByteArray × AFile)} {s : ByteArray} (h : lk fs s = none) : placeF fs s = -1 := by
  have : fs.findIdx? (fun p => decide (p.1 = s)) = none := by
    rw [List.findIdx?_eq_none_iff]
    intro p hp
    simpa using lk_none_not h p hp
  unfold placeF
  rw [this]
theorem place_some {fs : List (ByteArray × AFile)} (hs : SortedF fs) {s : ByteArray} {f : AFile} (h : lk fs s = some f) : ∃ (k : Nat) (hk : k < fs.length), placeF fs s = k ∧ fs[k].1 = s ∧ fs[k].2 = f := by
  obtain ⟨k, hk, he⟩ := List.getElem_of_mem (lk_some_mem h)
  exact ⟨k, hk, place_found hs hk (by rw [he]), by rw [he], by rw [he]⟩
theorem place_lt {fs : List (ByteArray × AFile)} (s : ByteArray) : -1 ≤ placeF fs s ∧ placeF fs s < fs.length := by
  unfold placeF
  split
  · rename_i k hk
    have := (List.findIdx?_eq_some_iff_getElem.1 hk).1
    omega
  · omega

theorem refFind_place (w : World) (a : Option Addr) (n c : Nat) (d : ADisk) (s : ByteArray) (h : RefAt X w a n c d) (hw : d.WF) :
    Calls Tryz.prog 75 #[refVal a n c d, .string s] w fun e w' => e = .returned (.int .i64 (placeF d.fs s)) ∧ Below w.heap.size w w' := by
  refine (refFind_any w a n c d s h hw).mono fun e w' he => ?_
  obtain ⟨⟨i, rfl, ⟨k, hk, rfl, hn⟩ | ⟨rfl, hl⟩⟩, hb⟩ := he
  · exact ⟨by rw [place_found hw.sorted hk hn], hb⟩
  · exact ⟨by rw [place_none hl], hb⟩

set_option maxRecDepth 100000 in
set_option maxHeartbeats 2000000 in
theorem refAsk_any (w : World) (a : Option Addr) (n c : Nat) (d : ADisk) (s : ByteArray) (h : RefAt X w a n c d) (hw : d.WF) :
    Calls Tryz.prog 48 #[refVal a n c d, .string s] w fun e w' => e = .returned (.tuple #[.int .i64 (placeF d.fs s), .int .i64 (findErr d s)]) ∧ Below w.heap.size w w' := by
  have hF := fun (w : World) (h : RefAt X w a n c d) => refFind_place w a n c d s h hw
  have hpl := place_lt (fs := d.fs) s
  have hcnt := hw.count
  unfold refVal at hF ⊢
  have hX := alloc_at w (.cells #[.int .i64 d.most, .slice a n c, .int .i64 d.left, .bool d.down] 29)
  have hbX : Below w.heap.size w (w.alloc (.cells #[.int .i64 d.most, .slice a n c, .int .i64 d.left, .bool d.down] 29)) := (Below.refl _ _).alloc (Nat.le_refl _) _
  obtain ⟨W, hW⟩ : ∃ W, w.alloc (.cells #[.int .i64 d.most, .slice a n c, .int .i64 d.left, .bool d.down] 29) = W := ⟨_, rfl⟩
  rw [hW] at hX hbX
  have hR := h.below hbX
  have HW := Lib.hid hW
  obtain ⟨x0, x1, x2, x3, _⟩ := cells4 hX
  clear hW
  have hlt := blk_lt hX
  obtain ⟨i, hi⟩ : ∃ i, placeF d.fs s = i := ⟨_, rfl⟩
  rw [hi] at hF hpl ⊢
  cases hdn : d.down with
  | true =>
    have he : findErr d s = 15 := by simp [findErr, hdn]
    rw [he]
    rw [hdn] at x3 HW hF
    clear he
    go_enter Tryz.func48, Tryz.ntmps48
    go_wp2_with fail
    rw [HW.out]
    refine (hF _ hR).mono ?_
    rintro e w1 ⟨rfl, hb1⟩
    have y0 := (hb1.cell (p := ⟨w.heap.size, 3, none⟩) hlt).trans x3
    dsimp only
    go_wp2
    go_ret2
    exact ⟨rfl, hbX.trans (hb1.mono hbX.size)⟩
  | false =>
    rw [hdn] at x3 HW hF
    by_cases hn : i < 0
    · have he : findErr d s = 13 := by
        simp only [findErr, hdn]
        cases hl : lk d.fs s with
        | none => rfl
        | some f =>
          obtain ⟨k, hk, e, _⟩ := place_some hw.sorted hl
          omega
      rw [he]
      clear he
      go_enter Tryz.func48, Tryz.ntmps48
      go_wp2_with fail
      rw [HW.out]
      refine (hF _ hR).mono ?_
      rintro e w1 ⟨rfl, hb1⟩
      have y0 := (hb1.cell (p := ⟨w.heap.size, 3, none⟩) hlt).trans x3
      dsimp only
      go_wp2
      go_ret2
      exact ⟨rfl, hbX.trans (hb1.mono hbX.size)⟩
    · have he : findErr d s = 0 := by
        simp only [findErr, hdn]
        cases hl : lk d.fs s with
        | none => have := place_none hl; omega
        | some f => rfl
      rw [he]
      clear he
      go_enter Tryz.func48, Tryz.ntmps48
      go_wp2_with fail
      rw [HW.out]
      refine (hF _ hR).mono ?_
      rintro e w1 ⟨rfl, hb1⟩
      have y0 := (hb1.cell (p := ⟨w.heap.size, 3, none⟩) hlt).trans x3
      dsimp only
      go_wp2
      go_ret2
      exact ⟨rfl, hbX.trans (hb1.mono hbX.size)⟩
end Go.Proofs.YtkacgmbinkoojaaGreatDoor

/-
  The document's disk: files as rows of three cells; a file put in its place, as plain lists.
-/
namespace Go.Proofs.YtkacgmbinkoojaaGreatDoor
open Go.RowKit Go.Maps Go.MapKept
variable {X : Nat → Prop}

/-- a file of the document's, with the slice that has its bytes. -/
structure REnt where
  name : ByteArray
  v : Value
  f : AFile
def REnt.cells (x : REnt) : List Value := [.string x.name, x.v, .int .i64 (x.f.firm.length : Nat)]
def REnt.plain (x : REnt) : ByteArray × AFile := (x.name, x.f)
def REnt.ok (X : Nat → Prop) (w : World) (x : REnt) : Prop := Rd w x.v (bcells (x.f.firm ++ x.f.loose)) ∧ InX X x.v (x.f.firm ++ x.f.loose)
def flatR (l : List REnt) : List Value := l.flatMap REnt.cells
theorem flatR_cons (a : REnt) (l : List REnt) : flatR (a :: l) = a.cells ++ flatR l := by simp [flatR]
theorem flatR_append (l m : List REnt) : flatR (l ++ m) = flatR l ++ flatR m := by simp [flatR]
theorem flatR_one (c : REnt) : flatR [c] = c.cells := by simp [flatR]
theorem flatR_at (l : List REnt) (k : Nat) (hk : k < l.length) (j : Nat) (hj : j < 3) : (flatR l)[k * 3 + j]? = l[k].cells[j]? := by
  induction l generalizing k with
  | nil => simp at hk
  | cons a l ih =>
    rw [flatR_cons]
    have ha : a.cells.length = 3 := rfl
    cases k with
    | zero => rw [List.getElem?_append_left (by rw [ha]; omega)]; simp
    | succ k =>
      rw [List.getElem?_append_right (by rw [ha]; omega), ha, show (k + 1) * 3 + j - 3 = k * 3 + j by omega, ih k (by simpa using hk)]
      simp
theorem REnt.ok.below {W w : World} {x : REnt} (h : x.ok X W) (hb : Below W.heap.size W w) : x.ok X w := ⟨rd_low h.1 hb, h.2⟩

/-- what a disk of the document's is made of. -/
theorem RefAt.ents {w : World} {a : Option Addr} {n c : Nat} {d : ADisk} (h : RefAt X w a n c d) :
    ∃ es : List REnt, es.map REnt.plain = d.fs ∧ (∀ x ∈ es, x.ok X w) ∧ ∀ k (hk : k < es.length), ∃ b off, a = some ⟨b, off, none⟩ ∧ ∀ j u, (es[k]'hk).cells[j]? = some u → w.cell? ⟨b, off + k * 3 + j, none⟩ = some u := by
  have each : ∀ k (hk : k < d.fs.length), ∃ x : REnt, x.plain = d.fs[k] ∧ x.ok X w ∧ ∃ b off, a = some ⟨b, off, none⟩ ∧ ∀ j u, x.cells[j]? = some u → w.cell? ⟨b, off + k * 3 + j, none⟩ = some u := by
    intro k hk
    obtain ⟨b, off, vb, ha, c0, c1, c2, hr⟩ := h.atX k hk
    refine ⟨⟨d.fs[k].1, vb, d.fs[k].2⟩, rfl, hr, b, off, ha, fun j u hu => ?_⟩
    match j, hu with
    | 0, hu => cases hu; exact c0
    | 1, hu => cases hu; exact c1
    | 2, hu => cases hu; exact c2
  have : ∀ m, m ≤ d.fs.length → ∃ es : List REnt, es.map REnt.plain = d.fs.take m ∧ (∀ x ∈ es, x.ok X w) ∧ ∀ k (hk : k < es.length), ∃ b off, a = some ⟨b, off, none⟩ ∧ ∀ j u, (es[k]'hk).cells[j]? = some u → w.cell? ⟨b, off + k * 3 + j, none⟩ = some u := by
    intro m
    induction m with
    | zero => exact fun _ => ⟨[], by simp, by simp, fun k hk => by simp at hk⟩
    | succ m ih =>
      intro hm
      obtain ⟨es, h1, h2, h3⟩ := ih (by omega)
      obtain ⟨x, g1, g2, g3⟩ := each m (by omega)
      have hl : es.length = m := by have := congrArg List.length h1; simp at this; omega
      refine ⟨es ++ [x], by rw [List.map_append, h1, List.take_succ_eq_append_getElem (by omega : m < d.fs.length)]; simp [g1], fun y hy => ?_, fun k hk => ?_⟩
      · rcases List.mem_append.1 hy with hy | hy
        · exact h2 y hy
        · rw [List.mem_singleton.1 hy]; exact g2
      · by_cases hkm : k < es.length
        · rw [List.getElem_append_left hkm]
          exact h3 k hkm
        · have : k = m := by simp at hk; omega
          subst this
          rw [List.getElem_append_right (by omega)]
          simp only [hl, Nat.sub_self, List.getElem_cons_zero]
          exact g3
  obtain ⟨es, h1, h2, h3⟩ := this d.fs.length (Nat.le_refl _)
  exact ⟨es, by rw [h1, List.take_length], h2, h3⟩

/-- .. and back. -/
theorem RefAt.of_row {w : World} {base : Nat} {T : TypeId} {a : Option Addr} {n c : Nat} {es : List REnt} {d : ADisk} (h : w.ownsRow base T 3 (.slice a n c) n (flatR es)) (hn : n = es.length) (hm : n ≤ maxLen) (hok : ∀ x ∈ es, x.ok X w) (hd : d.fs = es.map REnt.plain) (hX : ∀ g, (Value.slice a n c).ownBlock = some g → X g) : RefAt X w a n c d := by
  refine ⟨?_, by rw [hd, List.length_map, hn], fun _ => hX⟩
  rcases h.2 with ⟨h1, h0⟩ | ⟨g, cap, cur, hv, hb, hg, hnc, hcm, hcs, ht⟩
  · subst h0
    have : es = [] := List.eq_nil_of_length_eq_zero hn.symm
    rw [hd, this]
    exact Or.inl ⟨Or.inl h1, rfl⟩
  · refine Or.inr ⟨g, 0, n, cap, hv, by rw [hd, List.length_map, hn], hm, fun j q hj => ?_⟩
    rw [hd, List.getElem?_map] at hj
    have hjl : j < es.length := by
      rcases Nat.lt_or_ge j es.length with h | h
      · exact h
      · rw [List.getElem?_eq_none h] at hj; cases hj
    rw [List.getElem?_eq_getElem hjl] at hj
    simp only [Option.map_some, Option.some.injEq] at hj
    subst hj
    refine ⟨es[j].cells, rfl, fun i u hu => ?_, es[j].v, rfl, hok _ (List.getElem_mem hjl)⟩
    have hi : i < 3 := (List.getElem?_eq_some_iff.1 hu).1
    have h1 := flatR_at es j hjl i hi
    rw [hu, ← ht, List.getElem?_take] at h1
    split at h1
    · rw [cell_at hg, Nat.zero_add]
      simpa using h1
    · cases h1

/-! ### put, plainly -/
def aheadF (fs : List (ByteArray × AFile)) (s : ByteArray) : List (ByteArray × AFile) := fs.filter (fun p => ltS p.1 s)
def behindF (fs : List (ByteArray × AFile)) (s : ByteArray) : List (ByteArray × AFile) := fs.filter (fun p => ltS s p.1)
theorem behind_all {p : ByteArray × AFile} {r : List (ByteArray × AFile)} {s : ByteArray} (h1 : ∀ q ∈ r, ltS p.1 q.1 = true) (hp : p.1 = s ∨ ltS s p.1 = true) : aheadF r s = [] ∧ behindF r s = r := by
  have hall : ∀ q ∈ r, ltS s q.1 = true := fun q hq => by
    rcases hp with hp | hp
    · rw [← hp]; exact h1 q hq
    · exact ltS_trans hp (h1 q hq)
  refine ⟨List.filter_eq_nil_iff.2 fun q hq => ?_, List.filter_eq_self.2 fun q hq => hall q hq⟩
  intro h
  have := ltS_trans h (hall q hq)
  rw [ltS_irrefl] at this
  cases this
theorem ltS_asymm {a b : ByteArray} (h : ltS a b = true) : ltS b a = false := by
  cases h2 : ltS b a with
  | false => rfl
  | true => have := ltS_trans h h2; rw [ltS_irrefl] at this; cases this
theorem aheadF_cons (p : ByteArray × AFile) (r : List (ByteArray × AFile)) (s : ByteArray) : aheadF (p :: r) s = if ltS p.1 s = true then p :: aheadF r s else aheadF r s := by unfold aheadF; rw [List.filter_cons]
theorem behindF_cons (p : ByteArray × AFile) (r : List (ByteArray × AFile)) (s : ByteArray) : behindF (p :: r) s = if ltS s p.1 = true then p :: behindF r s else behindF r s := by unfold behindF; rw [List.filter_cons]
theorem putF_parts {fs : List (ByteArray × AFile)} (hs : SortedF fs) (s : ByteArray) (f : AFile) : putF fs s f = (aheadF fs s ++ [(s, f)]) ++ behindF fs s := by
  induction fs with
  | nil => rfl
  | cons p r ih =>
    obtain ⟨h1, h2⟩ := List.pairwise_cons.1 hs
    rw [aheadF_cons, behindF_cons]
    simp only [putF]
    split
    · rename_i h
      obtain ⟨e1, e2⟩ := behind_all h1 (Or.inl h)
      rw [h, ltS_irrefl, if_neg (by simp), if_neg (by simp), e1, e2]
      rfl
    · split
      · rename_i h
        obtain ⟨e1, e2⟩ := behind_all h1 (Or.inr h)
        rw [ltS_asymm h, if_neg (by simp), e1, e2]
        rfl
      · rename_i hne hlt
        have hp : ltS p.1 s = true := by
          rcases ltS_total p.1 s with h | h | h
          · exact h
          · exact absurd h hne
          · exact absurd h hlt
        rw [ih h2, if_pos hp]
        rfl
theorem delF_parts {fs : List (ByteArray × AFile)} (hs : SortedF fs) (s : ByteArray) : delF fs s = aheadF fs s ++ behindF fs s := by
  induction fs with
  | nil => rfl
  | cons p r ih =>
    obtain ⟨h1, h2⟩ := List.pairwise_cons.1 hs
    have ih := ih h2
    rw [aheadF_cons, behindF_cons]
    unfold delF at *
    rcases ltS_total p.1 s with h | h | h
    · rw [List.filter_cons_of_pos (by simpa using ltS_ne h), ih, if_pos h, if_neg (by rw [ltS_asymm h]; simp)]
      rfl
    · rw [List.filter_cons_of_neg (by simp [h]), ih, h, ltS_irrefl, if_neg (by simp), if_neg (by simp)]
    · obtain ⟨e1, e2⟩ := behind_all h1 (Or.inr h)
      rw [List.filter_cons_of_pos (by simpa using (ltS_ne h).symm), ih, e1, e2, if_neg (by rw [ltS_asymm h]; simp), if_pos h]
      rfl
end Go.Proofs.YtkacgmbinkoojaaGreatDoor

/-
  The document's disk: first, step.
-/
namespace Go.Proofs.YtkacgmbinkoojaaGreatDoor
open Go.RowKit Go.Maps Go.MapKept
variable {X : Nat → Prop}

theorem set_row {cs : Array Value} {xs : List Value} {k : Nat} {v : Value} (hk : k < cs.size) (hx : cs.toList.take k = xs) : (cs.setIfInBounds k v).toList.take (k + 1) = xs ++ [v] := by
  subst hx
  have hk' : k < (cs.setIfInBounds k v).toList.length := by simpa using hk
  rw [List.take_succ_eq_append_getElem hk']
  simp
  apply List.ext_getElem?
  intro i
  simp only [List.getElem?_take]
  split
  · rw [List.getElem?_set_ne (by omega)]
  · rfl

set_option maxRecDepth 100000 in
set_option maxHeartbeats 2000000 in
theorem refFirst_new (w : World) (s : ByteArray) (vb : Value) (b : List UInt8) (n : Nat) (k : Int) (hrd : Rd w vb (bcells b)) (hn : n ≤ b.length) (hb : b.length ≤ 140737488355328) :
    Calls Tryz.prog 43 #[.string s, vb, .int .i64 n, .int .i64 k] w fun e w' => e = .returned (.agg #[.string s, .slice (some ⟨w.heap.size + 1, 0, none⟩) n n, .int .i64 k]) ∧ Rd w' (.slice (some ⟨w.heap.size + 1, 0, none⟩) n n) (bcells (b.take n)) ∧ Below w.heap.size w w' ∧ w.heap.size + 1 < w'.heap.size := by
  obtain ⟨av, cv, rfl⟩ := hrd.shape
  rw [bcells_length]
  have hmk := run_make_row' (P := Tryz.prog) 33 5 (.int .u8 0) 1 Tryz.underlying33 info_u8 rfl .i64 .i64 n (by omega) (by omega)
  go_enter Tryz.func43, Tryz.ntmps43
  go_wp2_with fail
  have hm := alloc_at (w.alloc (.cells #[.string ⟨#[]⟩, .slice none 0 0, .int .i64 0] 82)) (.cells (madeCells #[.int .u8 0] n) 5)
  have hz := alloc_old (alloc_at w (.cells #[.string ⟨#[]⟩, .slice none 0 0, .int .i64 0] 82)) (.cells (madeCells #[.int .u8 0] n) 5)
  have hbl : Below w.heap.size w ((w.alloc (.cells #[.string ⟨#[]⟩, .slice none 0 0, .int .i64 0] 82)).alloc (.cells (madeCells #[.int .u8 0] n) 5)) := ((Below.refl _ _).alloc (Nat.le_refl _) _).alloc (by simp) _
  have hsz : (w.alloc (.cells #[.string ⟨#[]⟩, .slice none 0 0, .int .i64 0] 82)).heap.size = w.heap.size + 1 := by simp
  rw [hsz] at hm
  clear hsz
  obtain ⟨W, hW⟩ : ∃ W, (w.alloc (.cells #[.string ⟨#[]⟩, .slice none 0 0, .int .i64 0] 82)).alloc (.cells (madeCells #[.int .u8 0] n) 5) = W := ⟨_, rfl⟩
  rw [hW] at hm hz hbl ⊢
  clear hW hmk
  go_loopw [10] (fun i wr => ∃ (j : Nat) (cs : Array Value), j ≤ n ∧ i = .int .i64 j ∧ cs.size = n ∧ cs.toList.take j = bcells (b.take j) ∧ wr.heap[w.heap.size + 1]? = some (.cells cs 5) ∧ wr.heap[w.heap.size]? = some (.cells #[.string ⟨#[]⟩, .slice none 0 0, .int .i64 0] 82) ∧ Below w.heap.size w wr) (fun i _ => n - (intOf i).toNat)
  case atStart => exact ⟨0, _, by omega, rfl, by simp [madeCells], by simp [bcells], hm, hz, hbl⟩
  case round =>
    obtain ⟨j, cs, hj, rfl, hcs, htk, hB, hF, hbr⟩ := hrel
    clear hm hz hbl
    have Hcs := Lib.hid hcs
    have Htk := Lib.hid htk
    clear hcs htk
    by_cases hlt : j < n
    · obtain ⟨bb, ob, rfl, cb⟩ := hrd.at j (by rw [bcells_length]; omega)
      have cb' := (hbr.cell (p := ⟨bb, ob + j, none⟩) (cell_lt cb)).trans cb
      simp only [bcells, List.getElem_map] at cb'
      have hbj : b.take (j + 1) = b.take j ++ [b[j]] := List.take_succ_eq_append_getElem (by omega)
      obtain ⟨x, hx⟩ : ∃ x, b[j] = x := ⟨_, rfl⟩
      rw [hx] at cb' hbj
      have cc := (cell_at hB j).trans (Array.getElem?_eq_getElem (by rw [Hcs.out]; omega))
      have fz : wr.frozen? ⟨w.heap.size + 1, j, none⟩ = false := by simp [World.frozen?, hB]
      have Hbj := Lib.hid hbj
      have Hset := Lib.hid (set_row (v := .int .u8 x.toNat) (by rw [Hcs.out]; exact hlt) Htk.out)
      clear hbj hx cb
      go_wp2
      go_roundw
      case rel =>
        refine ⟨j + 1, cs.setIfInBounds j (.int .u8 x.toNat), by omega, by go_num, by rw [Array.size_setIfInBounds]; exact Hcs.out, ?_, setCell_at hB j _, setCell_old hF (by omega) j _, hbr.setCell (p := ⟨w.heap.size + 1, j, none⟩) (by simp) _⟩
        rw [Hset.out, Hbj.out]
        simp [bcells]
      case measure => simp [intOf]; omega
    · obtain rfl : j = n := by omega
      obtain ⟨f0, f1, f2, f3, f4, f5⟩ := cells3 hF
      go_wp2
      have hB' := setCell_old (setCell_old (setCell_old hB (by omega : w.heap.size + 1 ≠ w.heap.size) 0 (.string s)) (by omega : w.heap.size + 1 ≠ w.heap.size) 1 (.slice (some ⟨w.heap.size + 1, 0, none⟩) j j)) (by omega : w.heap.size + 1 ≠ w.heap.size) 2 (.int .i64 k)
      have hF' := setCell_at (setCell_at (setCell_at hF 0 (.string s)) 1 (.slice (some ⟨w.heap.size + 1, 0, none⟩) j j)) 2 (.int .i64 k)
      obtain ⟨g0, g1, g2, _⟩ := cells3 hF'
      refine bodyPost_ret (v := .agg #[.string s, .slice (some ⟨w.heap.size + 1, 0, none⟩) j j, .int .i64 k]) (by simp [results, Tryz.results43, go_sem, g0, g1, g2]) rfl ⟨rfl, ?_, ?_, ?_⟩
      · refine Or.inr ⟨_, _, _, _, rfl, by rw [bcells_length, List.length_take]; omega, fun i u hu => ?_⟩
        rw [cell_at hB', Nat.zero_add, ← Array.getElem?_toList]
        rw [← Htk.out, List.getElem?_take] at hu
        split at hu
        · exact hu
        · cases hu
      · exact ((hbr.setCell (p := ⟨w.heap.size, 0, none⟩) (by simp) _).setCell (p := ⟨w.heap.size, 1, none⟩) (by simp) _).setCell (p := ⟨w.heap.size, 2, none⟩) (by simp) _
      · exact blk_lt hB'
theorem refFirst_at (w : World) (s : ByteArray) (vb : Value) (b : List UInt8) (n k : Nat) (hrd : Rd w vb (bcells b)) (hn : n ≤ b.length) (hb : b.length ≤ 140737488355328) :
    Calls Tryz.prog 43 #[.string s, vb, .int .i64 n, .int .i64 k] w fun e w' => ∃ a8, e = .returned (.agg #[.string s, .slice (some ⟨a8, 0, none⟩) n n, .int .i64 k]) ∧ Rd w' (.slice (some ⟨a8, 0, none⟩) n n) (bcells (b.take n)) ∧ Below w.heap.size w w' ∧ w.heap.size ≤ a8 ∧ a8 < w'.heap.size :=
  (refFirst_new w s vb b n k hrd hn hb).mono fun _ _ h => ⟨_, h.1, h.2.1, h.2.2.1, by omega, h.2.2.2⟩

def stepVal (a : Option Addr) (n c : Nat) (d : ADisk) (a' : Option Addr) (n' c' : Nat) (d' : ADisk) : Value :=
  if d.left = 0 then .tuple #[refVal a n c d.fail, .int .i64 15] else .tuple #[refVal a' n' c' { d' with left := if 0 < d.left then d.left - 1 else d'.left }, .int .i64 0]

set_option maxRecDepth 100000 in
set_option maxHeartbeats 2000000 in
theorem refStep_any (w : World) (a : Option Addr) (n c : Nat) (d : ADisk) (a' : Option Addr) (n' c' : Nat) (d' : ADisk) (h1 : d.left ≤ 9223372036854775807) :
    Calls Tryz.prog 51 #[refVal a n c d, refVal a' n' c' d'] w fun e w' => e = .returned (stepVal a n c d a' n' c' d') ∧ Below w.heap.size w w' := by
  obtain ⟨most, left, down, fs⟩ := d
  obtain ⟨most', left', down', fs'⟩ := d'
  unfold stepVal
  simp only at h1 ⊢
  by_cases h0 : left = 0
  · subst h0
    rw [if_pos rfl]
    unfold refVal
    simp only [ADisk.fail]
    go_enter Tryz.func51, Tryz.ntmps51
    go_wp2
    exact bodyPost_ret (v := .tuple #[.agg #[.int .i64 most, .slice a n c, .int .i64 (-1), .bool true], .int .i64 15]) (by simp [results, Tryz.results51, go_sem]) rfl ⟨rfl, (((Below.refl _ _).alloc (Nat.le_refl _) _).alloc (by simp) _).alloc (by simp; omega) _⟩
  · rw [if_neg h0]
    have hq : (left == 0) = false := by simpa using h0
    unfold refVal
    simp only
    by_cases h2 : 0 < left
    · rw [if_pos h2]
      go_enter Tryz.func51, Tryz.ntmps51
      go_wp2
      exact bodyPost_ret (v := .tuple #[.agg #[.int .i64 most', .slice a' n' c', .int .i64 (left - 1), .bool down'], .int .i64 0]) (by simp [results, Tryz.results51, go_sem]) rfl ⟨rfl, (((Below.refl _ _).alloc (Nat.le_refl _) _).alloc (by simp) _).alloc (by simp; omega) _⟩
    · rw [if_neg h2]
      go_enter Tryz.func51, Tryz.ntmps51
      go_wp2
      exact bodyPost_ret (v := .tuple #[.agg #[.int .i64 most', .slice a' n' c', .int .i64 left', .bool down'], .int .i64 0]) (by simp [results, Tryz.results51, go_sem]) rfl ⟨rfl, (((Below.refl _ _).alloc (Nat.le_refl _) _).alloc (by simp) _).alloc (by simp; omega) _⟩
end Go.Proofs.YtkacgmbinkoojaaGreatDoor
