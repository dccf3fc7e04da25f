/-
  The walks of Append whole, Sync, Cut, Remove, Rename.
-/
import Derived.Outline
import Derived.Test.YtnagejhpdhdpfaaGreatDoorDisk4
namespace Go.Proofs.YtnagejhpdhdpfaaGreatDoor
open Go.RowKit Go.Maps Go.MapKept

theorem Append_any (w : World) (p m : Nat) (g : Value → Option Value) (d : ADisk) (s : ByteArray) (vb : Value) (b : List UInt8) (h : DiskRep w p m g d) (hs : s.size ≤ maxLen)
    (hrd : Rd w vb (bcells b)) (hnb : b.length ≤ 140737488355328) :
    Calls Tryz.prog 24 #[.pointer (some ⟨p, 0, none⟩), .string s, vb] w fun e w' => e = .returned (.int .i64 (d.appendErr s b)) ∧ DiskPost w p m g (d.append s b) w' := by
  obtain ⟨ab, cb, rfl⟩ := hrd.shape
  unfold ADisk.append ADisk.appendErr
  by_cases hd : d.down = true
  · rw [if_pos hd, if_pos hd]; exact Append_down w p m g d s _ _ _ h hs hd
  rw [if_neg hd, if_neg hd]
  have hd' : d.down = false := by simpa using hd
  by_cases hn : okName s = false
  · rw [if_pos hn, if_pos hn]; exact Append_name w p m g d s _ _ _ h hs hd' hn
  rw [if_neg hn, if_neg hn]
  have hn' : okName s = true := by simpa using hn
  by_cases hu : d.most < usedF d.fs + b.length
  · rw [if_pos hu, if_pos hu]; rw [bcells_length]; exact Append_full w p m g d s _ _ _ h hs hd' hn' hnb hu
  rw [if_neg hu, if_neg hu]
  by_cases hc : (lk d.fs s).isNone ∧ 200 ≤ d.fs.length
  · rw [if_pos hc, if_pos hc]; rw [bcells_length]; exact Append_many w p m g d s _ _ _ h hs hd' hn' hnb hu (by simpa using hc.1) hc.2
  · rw [if_neg hc, if_neg hc]
    refine Append_ok w p m g d s _ b h hs hd' hn' hrd hnb hu ?_
    cases hl : lk d.fs s with
    | none => rw [hl] at hc; simp at hc; right; omega
    | some f => left; rfl

theorem first_any (w : World) (v : Value) (f : AFile) (n : Nat) (hf : FileAt w v f) (hn : n ≤ f.len) :
    Calls Tryz.prog 62 #[v, .int .i64 n] w fun e w' => ∃ v', e = .returned v' ∧ FileAt w' v' ⟨(f.firm ++ f.loose).take n, []⟩ ∧ Upd (fblocks v) w w' ∧ (∀ k, fblocks v' k → fblocks v k ∨ w.heap.size ≤ k) ∧ FileAt w' v f := by
  by_cases h : n ≤ f.firm.length
  · rw [List.take_append_of_le_length h]; exact first_less w v f n hf h
  · rw [List.take_append, List.take_of_length_le (by omega : f.firm.length ≤ n)]; exact first_more w v f n hf (by omega) hn

theorem DiskRep.blk0 {w : World} {p m : Nat} {g : Value → Option Value} {d : ADisk} (_h : DiskRep w p m g d) (s : ByteArray) : ∀ k, fblocks ((g (.string s)).getD zFile) k → ∃ u, g (.string s) = some u ∧ fblocks u k := by
  intro k hk
  cases hgs : g (.string s) with
  | none => rw [hgs] at hk; simp [zFile, fblocks_agg, Value.ownBlock] at hk
  | some u => rw [hgs] at hk; exact ⟨u, rfl, hk⟩

/-- the first n bytes, firm. -/
def ADisk.cutTo (d : ADisk) (s : ByteArray) (n : Nat) : ADisk := d.put s ⟨((afile d s).firm ++ (afile d s).loose).take n, []⟩
theorem ADisk.WF.cutTo {d : ADisk} (h : d.WF) {s : ByteArray} {f : AFile} (hl : lk d.fs s = some f) (n : Nat) :
    ({ d.tick with fs := putF d.fs s ⟨((afile d s).firm ++ (afile d s).loose).take n, []⟩ } : ADisk).WF := by
  refine h.put (s := s) (h.names _ (lk_some_mem hl)) _ ?_ (Or.inl (by rw [hl]; rfl))
  have := h.used
  have e : ((AFile.mk (((afile d s).firm ++ (afile d s).loose).take n) []).len) ≤ (afile d s).len := by simp [AFile.len]; omega
  omega

def ADisk.sync (d : ADisk) (s : ByteArray) : ADisk := if d.down then d else if (lk d.fs s).isNone then d else d.cutTo s (afile d s).len
def ADisk.syncErr (d : ADisk) (s : ByteArray) : Int := if d.down then 15 else if (lk d.fs s).isNone then 13 else d.err

set_option maxRecDepth 100000 in
set_option maxHeartbeats 1000000 in
theorem Sync_bad (w : World) (p m : Nat) (g : Value → Option Value) (d : ADisk) (s : ByteArray) (h : DiskRep w p m g d) (hs : s.size ≤ maxLen) (fe : Int) (hfe : findErr d s = fe) (h0 : fe = 13 ∨ fe = 15) :
    Calls Tryz.prog 53 #[.pointer (some ⟨p, 0, none⟩), .string s] w fun e w' => e = .returned (.int .i64 fe) ∧ DiskPost w p m g d w' := by
  have hF := find_any w p m g d s h hs
  obtain ⟨a1, n1, c1, a2, n2, c2, hv, hb⟩ := h.fileAgg s
  rw [hv, hfe] at hF
  clear hv hfe
  rcases h0 with rfl | rfl
  all_goals
    go_enter Tryz.func53, Tryz.ntmps53
    go_wp2_with (go_at_call 64; refine hF.mono ?_; rintro e w1 ⟨rfl, hb1⟩)
    go_ret
    exact ⟨rfl, DiskPost.same h (hb1.alloc hb1.size _)⟩

set_option maxRecDepth 100000 in
set_option maxHeartbeats 4000000 in
theorem Sync_ok (w : World) (p m : Nat) (g : Value → Option Value) (d : ADisk) (s : ByteArray) (f : AFile) (h : DiskRep w p m g d) (hs : s.size ≤ maxLen) (hd : d.down = false) (hl : lk d.fs s = some f) :
    Calls Tryz.prog 53 #[.pointer (some ⟨p, 0, none⟩), .string s] w fun e w' => e = .returned (.int .i64 d.err) ∧ DiskPost w p m g (d.cutTo s (afile d s).len) w' := by
  have hF := find_any w p m g d s h hs
  have hfile := h.fileOf s
  have hblk0 := h.blk0 s
  have hwf' := h.wf.cutTo hl (afile d s).len
  rw [show findErr d s = 0 by simp [findErr, hd, hl]] at hF
  generalize hv : (g (.string s)).getD zFile = v at hF hfile hblk0
  obtain ⟨v1, v2, rfl, hr1, hr2, hap, hfl⟩ := id hfile
  obtain ⟨a1, c1, rfl, _⟩ := row_slice hr1
  obtain ⟨a2, c2, rfl, _⟩ := row_slice hr2
  have Hv := Lib.hid hv
  clear hv hd hl
  go_enter Tryz.func53, Tryz.ntmps53
  go_wp2_with (go_at_call 64; refine hF.mono ?_; rintro e w1 ⟨rfl, hb1⟩)
  have hs1 := hb1.size
  have hB := hb1.alloc hb1.size (.cells #[.slice a1 (afile d s).firm.length c1, .slice a2 (afile d s).loose.length c2] 95)
  have hbox := alloc_at w1 (.cells #[.slice a1 (afile d s).firm.length c1, .slice a2 (afile d s).loose.length c2] 95)
  generalize hW : w1.alloc (.cells #[.slice a1 (afile d s).firm.length c1, .slice a2 (afile d s).loose.length c2] 95) = W at *
  have hL : W.heap.size = w1.heap.size + 1 := by rw [← hW]; simp
  clear hW
  obtain ⟨x0, x1, _, _⟩ := cells2 hbox
  have hfW := (hfile.upd (Upd.ofBelow (fp := noFp) hB) (fun _ _ h => h)).upd ((Upd.refl noFp W).drew) (fun _ _ h => h)
  have hrepW := (h.below hB).drew
  have hLd : ∀ k, dfp p m g k → k < w1.heap.size := fun k hk => by have := h.lt hk; omega
  have hLb : ∀ k, fblocks (.agg #[.slice a1 (afile d s).firm.length c1, .slice a2 (afile d s).loose.length c2]) k → k < w1.heap.size := fun k hk => by
    obtain ⟨u, hu, hku⟩ := hblk0 k hk
    exact hLd k (Or.inr (Or.inr ⟨s, u, hu, hku⟩))
  go_region_held3 (fun w' => w'.cell? ⟨w1.heap.size, 0, none⟩ = some (.slice a1 (afile d s).firm.length c1) ∧ w'.cell? ⟨w1.heap.size, 1, none⟩ = some (.slice a2 (afile d s).loose.length c2)) (first | exact ⟨x0, x1⟩ | exact S2 | exact S3 | exact S4 | go_keep)
    (first
      | (go_at_call 73; refine (fsize_any _ _ _ hfW).mono ?_; rintro e w2 ⟨rfl, hb2⟩; have S2 : w2.cell? ⟨w1.heap.size, 0, none⟩ = some (.slice a1 (afile d s).firm.length c1) ∧ w2.cell? ⟨w1.heap.size, 1, none⟩ = some (.slice a2 (afile d s).loose.length c2) := ⟨(hb2.cell (p := ⟨w1.heap.size, 0, none⟩) (by show w1.heap.size < W.heap.size; omega)).trans x0, (hb2.cell (p := ⟨w1.heap.size, 1, none⟩) (by show w1.heap.size < W.heap.size; omega)).trans x1⟩)
      | (go_at_call 62; refine (first_any _ _ _ (afile d s).len (hfW.upd (Upd.ofBelow (fp := noFp) hb2) (fun _ _ h => h)) (Nat.le_refl _)).mono ?_; rintro e w3 ⟨v', rfl, hv3, hU3, hfp3, hold3⟩; have S3 : w3.cell? ⟨w1.heap.size, 0, none⟩ = some (.slice a1 (afile d s).firm.length c1) ∧ w3.cell? ⟨w1.heap.size, 1, none⟩ = some (.slice a2 (afile d s).loose.length c2) := ⟨(hU3.cell (by have := hb2.size; change W.heap.size ≤ _ at this; omega) (fun hk => by have := hLb _ hk; omega) 0).trans S2.1, (hU3.cell (by have := hb2.size; change W.heap.size ≤ _ at this; omega) (fun hk => by have := hLb _ hk; omega) 1).trans S2.2⟩)
      | (go_at_call 67; refine (put_any _ p m g d s v' _ ((hrepW.below hb2).touch Hv.out hU3 (fun k _ hk => hk) hold3) hs hv3 (fun k hk hd => (hfp3 k hk).elim (fun h1 => hblk0 k h1) (fun h1 => by have := hLd k hd; have := hb2.size; change W.heap.size ≤ _ at this; omega)) hwf').mono ?_; rintro e w4 ⟨rfl, hp4⟩; have S4 : w4.cell? ⟨w1.heap.size, 0, none⟩ = some (.slice a1 (afile d s).firm.length c1) ∧ w4.cell? ⟨w1.heap.size, 1, none⟩ = some (.slice a2 (afile d s).loose.length c2) := ⟨(hp4.choose_spec.2.1.cell (by have := hb2.size; have := hU3.size; change W.heap.size ≤ _ at *; omega) (fun hk => by rcases hk with hk | hk; have := hLd p (Or.inl rfl); omega; have := hLd m (Or.inr (Or.inl rfl)); omega) 0).trans S3.1, (hp4.choose_spec.2.1.cell (by have := hb2.size; have := hU3.size; change W.heap.size ≤ _ at *; omega) (fun hk => by rcases hk with hk | hk; have := hLd p (Or.inl rfl); omega; have := hLd m (Or.inr (Or.inl rfl)); omega) 1).trans S3.2⟩))
  go_wp2
  go_ret
  refine ⟨rfl, ?_⟩
  obtain ⟨g', hrep4, hU4, hfp4⟩ := hp4
  have hs2 : W.heap.size ≤ w2.heap.size := hb2.size
  have hB2 : Below w.heap.size w w2 := hB.drew.trans (hb2.mono hB.size)
  have hfd : ∀ k, fblocks (.agg #[.slice a1 (afile d s).firm.length c1, .slice a2 (afile d s).loose.length c2]) k → dfp p m g k := fun k hk => by
    obtain ⟨u, hu, hku⟩ := hblk0 k hk
    exact Or.inr (Or.inr ⟨s, u, hu, hku⟩)
  refine ⟨g', hrep4, ((Upd.ofBelow hB2).trans hU3 (fun k hk => Or.inl (hfd k hk))).trans hU4 (fun k hk => ?_), fun k hk => ?_⟩
  · rcases hk with hk | hk
    · exact Or.inl (Or.inl hk)
    · exact Or.inl (Or.inr (Or.inl hk))
  · rcases hfp4 k hk with hk | hk
    · exact Or.inl hk
    · rcases hfp3 k hk with hk | hk
      · exact Or.inl (hfd k hk)
      · exact Or.inr (by have := hB2.size; omega)

theorem Sync_any (w : World) (p m : Nat) (g : Value → Option Value) (d : ADisk) (s : ByteArray) (h : DiskRep w p m g d) (hs : s.size ≤ maxLen) :
    Calls Tryz.prog 53 #[.pointer (some ⟨p, 0, none⟩), .string s] w fun e w' => e = .returned (.int .i64 (d.syncErr s)) ∧ DiskPost w p m g (d.sync s) w' := by
  unfold ADisk.sync ADisk.syncErr
  by_cases hd : d.down = true
  · rw [if_pos hd, if_pos hd]; exact Sync_bad w p m g d s h hs 15 (by simp [findErr, hd]) (Or.inr rfl)
  rw [if_neg hd, if_neg hd]
  have hd' : d.down = false := by simpa using hd
  cases hl : lk d.fs s with
  | none => exact Sync_bad w p m g d s h hs 13 (by simp [findErr, hd', hl]) (Or.inl rfl)
  | some f => exact Sync_ok w p m g d s f h hs hd' hl

def ADisk.cut (d : ADisk) (s : ByteArray) (n : Int) : ADisk := if d.down then d else if (lk d.fs s).isNone then d else if n < 0 ∨ (afile d s).len < n then d else d.cutTo s n.toNat
def ADisk.cutErr (d : ADisk) (s : ByteArray) (n : Int) : Int := if d.down then 15 else if (lk d.fs s).isNone then 13 else if n < 0 ∨ (afile d s).len < n then 2 else d.err

set_option maxRecDepth 100000 in
set_option maxHeartbeats 1000000 in
theorem Cut_bad (w : World) (p m : Nat) (g : Value → Option Value) (d : ADisk) (s : ByteArray) (n : Int) (h : DiskRep w p m g d) (hs : s.size ≤ maxLen) (fe : Int) (hfe : findErr d s = fe) (h0 : fe = 13 ∨ fe = 15) :
    Calls Tryz.prog 26 #[.pointer (some ⟨p, 0, none⟩), .string s, .int .i64 n] w fun e w' => e = .returned (.int .i64 fe) ∧ DiskPost w p m g d w' := by
  have hF := find_any w p m g d s h hs
  obtain ⟨a1, n1, c1, a2, n2, c2, hv, hb⟩ := h.fileAgg s
  rw [hv, hfe] at hF
  clear hv hfe
  rcases h0 with rfl | rfl
  all_goals
    go_enter Tryz.func26, Tryz.ntmps26
    go_wp2_with (go_at_call 64; refine hF.mono ?_; rintro e w1 ⟨rfl, hb1⟩)
    go_ret
    exact ⟨rfl, DiskPost.same h (hb1.alloc hb1.size _)⟩

set_option maxRecDepth 100000 in
set_option maxHeartbeats 4000000 in
theorem Cut_arg (w : World) (p m : Nat) (g : Value → Option Value) (d : ADisk) (s : ByteArray) (n : Int) (f : AFile) (h : DiskRep w p m g d) (hs : s.size ≤ maxLen) (hd : d.down = false) (hl : lk d.fs s = some f) (hn : n < 0 ∨ (afile d s).len < n) :
    Calls Tryz.prog 26 #[.pointer (some ⟨p, 0, none⟩), .string s, .int .i64 n] w fun e w' => e = .returned (.int .i64 2) ∧ DiskPost w p m g d w' := by
  have hF := find_any w p m g d s h hs
  have hfile := h.fileOf s
  rw [show findErr d s = 0 by simp [findErr, hd, hl]] at hF
  generalize hv : (g (.string s)).getD zFile = v at hF hfile
  obtain ⟨v1, v2, rfl, hr1, hr2, hap, hfl⟩ := id hfile
  obtain ⟨a1, c1, rfl, _⟩ := row_slice hr1
  obtain ⟨a2, c2, rfl, _⟩ := row_slice hr2
  clear hv hd hl
  by_cases h0 : n < 0
  · go_enter Tryz.func26, Tryz.ntmps26
    go_wp2_with (go_at_call 64; refine hF.mono ?_; rintro e w1 ⟨rfl, hb1⟩)
    go_ret
    exact ⟨rfl, DiskPost.same h (hb1.alloc hb1.size _)⟩
  · have hgt : ((afile d s).len : Int) < n := by omega
    clear hn
    go_enter Tryz.func26, Tryz.ntmps26
    go_wp2_with (first | (go_at_call 64; refine hF.mono ?_; rintro e w1 ⟨rfl, hb1⟩) | (go_at_call 73; refine (fsize_any _ _ _ (hfile.upd ((Upd.ofBelow (fp := noFp) hb1).alloc _) (fun _ _ h => h))).mono ?_; rintro e w2 ⟨rfl, hb2⟩))
    go_ret
    exact ⟨rfl, DiskPost.same h ((hb1.alloc hb1.size _).trans (hb2.mono (by simp; have := hb1.size; omega)))⟩

set_option maxRecDepth 100000 in
set_option maxHeartbeats 4000000 in
theorem Cut_ok (w : World) (p m : Nat) (g : Value → Option Value) (d : ADisk) (s : ByteArray) (n : Nat) (f : AFile) (h : DiskRep w p m g d) (hs : s.size ≤ maxLen) (hd : d.down = false) (hl : lk d.fs s = some f) (hn : n ≤ (afile d s).len) :
    Calls Tryz.prog 26 #[.pointer (some ⟨p, 0, none⟩), .string s, .int .i64 n] w fun e w' => e = .returned (.int .i64 d.err) ∧ DiskPost w p m g (d.cutTo s n) w' := by
  have hF := find_any w p m g d s h hs
  have hfile := h.fileOf s
  have hblk0 := h.blk0 s
  have hwf' := h.wf.cutTo hl n
  rw [show findErr d s = 0 by simp [findErr, hd, hl]] at hF
  generalize hv : (g (.string s)).getD zFile = v at hF hfile hblk0
  obtain ⟨v1, v2, rfl, hr1, hr2, hap, hfl⟩ := id hfile
  obtain ⟨a1, c1, rfl, _⟩ := row_slice hr1
  obtain ⟨a2, c2, rfl, _⟩ := row_slice hr2
  have Hv := Lib.hid hv
  have hn' : ¬ ((afile d s).len : Int) < n := by omega
  clear hv hd hl
  go_enter Tryz.func26, Tryz.ntmps26
  go_wp2_with (first
    | (go_at_call 64; refine hF.mono ?_; rintro e w1 ⟨rfl, hb1⟩)
    | (go_at_call 73; refine (fsize_any _ _ _ (hfile.upd ((Upd.ofBelow (fp := noFp) hb1).alloc _) (fun _ _ h => h))).mono ?_; rintro e w2 ⟨rfl, hb2⟩; obtain ⟨x0, x1, y0, y1⟩ := cells2 ((hb2.block w1.heap.size (by simp)).trans (alloc_at w1 _)))
    | (go_at_call 62; refine (first_any _ _ _ n ((hfile.upd ((Upd.ofBelow (fp := noFp) hb1).alloc _) (fun _ _ h => h)).upd (Upd.ofBelow (fp := noFp) hb2) (fun _ _ h => h)) hn).mono ?_; rintro e w3 ⟨v', rfl, hv3, hU3, hfp3, hold3⟩)
    | (go_at_call 67; refine (put_any _ p m g d s v' _ ((((h.below hb1).alloc _).below hb2).touch Hv.out hU3 (fun k _ hk => hk) hold3) hs hv3 (fun k hk hd => (hfp3 k hk).elim (fun h1 => hblk0 k h1) (fun h1 => by have := h.lt hd; have := hb1.size; have := hb2.size; simp at *; omega)) hwf').mono ?_; rintro e w4 ⟨rfl, hp4⟩))
  go_ret
  refine ⟨rfl, ?_⟩
  obtain ⟨g', hrep4, hU4, hfp4⟩ := hp4
  have hB2 : Below w.heap.size w w2 := (hb1.alloc hb1.size _).trans (hb2.mono (by simp; have := hb1.size; omega))
  have hfd : ∀ k, fblocks (.agg #[.slice a1 (afile d s).firm.length c1, .slice a2 (afile d s).loose.length c2]) k → dfp p m g k := fun k hk => by
    obtain ⟨u, hu, hku⟩ := hblk0 k hk
    exact Or.inr (Or.inr ⟨s, u, hu, hku⟩)
  refine ⟨g', hrep4, ((Upd.ofBelow hB2).trans hU3 (fun k hk => Or.inl (hfd k hk))).trans hU4 (fun k hk => ?_), fun k hk => ?_⟩
  · rcases hk with hk | hk
    · exact Or.inl (Or.inl hk)
    · exact Or.inl (Or.inr (Or.inl hk))
  · rcases hfp4 k hk with hk | hk
    · exact Or.inl hk
    · rcases hfp3 k hk with hk | hk
      · exact Or.inl (hfd k hk)
      · exact Or.inr (by have := hB2.size; omega)

theorem Cut_any (w : World) (p m : Nat) (g : Value → Option Value) (d : ADisk) (s : ByteArray) (n : Int) (h : DiskRep w p m g d) (hs : s.size ≤ maxLen) :
    Calls Tryz.prog 26 #[.pointer (some ⟨p, 0, none⟩), .string s, .int .i64 n] w fun e w' => e = .returned (.int .i64 (d.cutErr s n)) ∧ DiskPost w p m g (d.cut s n) w' := by
  unfold ADisk.cut ADisk.cutErr
  by_cases hd : d.down = true
  · rw [if_pos hd, if_pos hd]; exact Cut_bad w p m g d s n h hs 15 (by simp [findErr, hd]) (Or.inr rfl)
  rw [if_neg hd, if_neg hd]
  have hd' : d.down = false := by simpa using hd
  cases hl : lk d.fs s with
  | none => exact Cut_bad w p m g d s n h hs 13 (by simp [findErr, hd', hl]) (Or.inl rfl)
  | some f =>
    simp only [Option.isNone_some, Bool.false_eq_true, if_false]
    by_cases hn : n < 0 ∨ (afile d s).len < n
    · rw [if_pos hn, if_pos hn]; exact Cut_arg w p m g d s n f h hs hd' hl hn
    · rw [if_neg hn, if_neg hn]
      have e : n = ((n.toNat : Nat) : Int) := by omega
      have := Cut_ok w p m g d s n.toNat f h hs hd' hl (by omega)
      rwa [← e] at this
end Go.Proofs.YtnagejhpdhdpfaaGreatDoor
