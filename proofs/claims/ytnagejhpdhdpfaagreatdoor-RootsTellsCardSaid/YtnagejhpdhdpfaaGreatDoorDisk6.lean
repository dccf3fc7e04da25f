/-
  The walks of Remove and Rename.
-/
import Derived.Outline
import Derived.Test.YtnagejhpdhdpfaaGreatDoorDisk5
namespace Go.Proofs.YtnagejhpdhdpfaaGreatDoor
open Go.RowKit Go.Maps Go.MapKept

open Classical in
theorem DiskRep.deleted {w w' : World} {p m n : Nat} {g g' : Value → Option Value} {d : ADisk} (h : DiskRep w p m g d) {s : ByteArray}
    (hg' : ∀ x, g' x = if x = .string s then none else g x)
    (hm : MapIs Tryz.prog 9 w' m n g') (hg : w.grownBy w' (some m)) (hn : n = (delF d.fs s).length)
    (hw : ({ d with fs := delF d.fs s } : ADisk).WF) : DiskRep w' p m g' { d with fs := delF d.fs s } where
  head := by rw [hg.block p (blk_lt h.head) (fun e => h.p_ne_m (by cases e; rfl))]; exact h.head
  map := by subst hn; exact hm
  dom key u hk := by
    rw [hg'] at hk
    split at hk
    · cases hk
    · rename_i hne
      obtain ⟨t, f', ht, hl⟩ := h.dom key u hk
      have hts : t ≠ s := fun e => hne (by rw [ht, e])
      exact ⟨t, f', ht, by rw [lk_delF, if_neg hts]; exact hl⟩
  file t f' hl := by
    have hu : Upd (· = m) w w' := (Upd.refl _ _).grown hg (fun k hk => by cases hk; exact Or.inl rfl)
    simp only [lk_delF] at hl
    by_cases hts : t = s
    · rw [if_pos hts] at hl; cases hl
    · rw [if_neg hts] at hl
      obtain ⟨u, hgu, hfu⟩ := h.file t f' hl
      exact ⟨u, by rw [hg', if_neg (by simpa using hts)]; exact hgu, hfu.upd hu (fun k hk => (h.block_ne hfu hk).2)⟩
  apart a b va vb ha hb hab k hka hkb := by
    rw [hg'] at ha hb
    split at ha
    · cases ha
    · split at hb
      · cases hb
      · exact h.apart a b va vb ha hb hab k hka hkb
  wf := hw

theorem ADisk.WF.del {d : ADisk} (h : d.WF) (s : ByteArray) : ({ d with fs := delF d.fs s } : ADisk).WF where
  sorted := sorted_delF h.sorted s
  names p hp := h.names p ((List.mem_filter.1 hp).1)
  used := by
    have := used_delF h.sorted s
    have := h.used
    show ((usedF (delF d.fs s) : Nat) : Int) ≤ d.most
    omega
  most0 := h.most0
  most1 := h.most1
  left0 := h.left0
  left1 := h.left1
  count := by
    show (delF d.fs s).length ≤ 200
    rw [length_delF h.sorted]
    have := h.count
    split <;> omega

def ADisk.remove (d : ADisk) (s : ByteArray) : ADisk := if d.down then d else if (lk d.fs s).isNone then d else if d.left = 0 then d.fail else { d.tick with fs := delF d.fs s }
def ADisk.removeErr (d : ADisk) (s : ByteArray) : Int := if d.down then 15 else if (lk d.fs s).isNone then 13 else d.err

set_option maxRecDepth 100000 in
set_option maxHeartbeats 1000000 in
theorem Remove_bad (w : World) (p m : Nat) (g : Value → Option Value) (d : ADisk) (s : ByteArray) (h : DiskRep w p m g d) (hs : s.size ≤ maxLen) (fe : Int) (hfe : findErr d s = fe) (h0 : fe = 13 ∨ fe = 15) :
    Calls Tryz.prog 28 #[.pointer (some ⟨p, 0, none⟩), .string s] w fun e w' => e = .returned (.int .i64 fe) ∧ Below w.heap.size w w' := by
  have hF := find_any w p m g d s h hs
  obtain ⟨a1, n1, c1, a2, n2, c2, hv, hb⟩ := h.fileAgg s
  rw [hv, hfe] at hF
  clear hv hfe
  rcases h0 with rfl | rfl
  all_goals
    go_enter Tryz.func28, Tryz.ntmps28
    go_wp2_with (go_at_call 64; refine hF.mono ?_; rintro e w1 ⟨rfl, hb1⟩)
    go_ret
    exact ⟨rfl, hb1.alloc hb1.size _⟩

set_option maxRecDepth 100000 in
set_option maxHeartbeats 1000000 in
theorem Remove_fail (w : World) (p m : Nat) (g : Value → Option Value) (d : ADisk) (s : ByteArray) (h : DiskRep w p m g d) (hs : s.size ≤ maxLen) (hfe : findErr d s = 0) (hz : d.left = 0) :
    Calls Tryz.prog 28 #[.pointer (some ⟨p, 0, none⟩), .string s] w fun e w' => e = .returned (.int .i64 15) ∧ DiskRep w' p m g d.fail ∧ Upd (fun k => k = p ∨ k = m) w w' := by
  have hF := find_any w p m g d s h hs
  obtain ⟨a1, n1, c1, a2, n2, c2, hv, hb⟩ := h.fileAgg s
  rw [hv, hfe] at hF
  have hwf := h.wf
  have hl0 := hwf.left0
  have hl1 := hwf.left1
  have hzb : (!(d.left == 0)) = false := by simp [hz]
  have Hz := Lib.hid hz
  have Hzb := Lib.hid hzb
  clear hv hfe hz hzb
  go_enter Tryz.func28, Tryz.ntmps28
  go_wp2_with (first
    | (go_at_call 64; refine hF.mono ?_; rintro e w1 ⟨rfl, hb1⟩)
    | (go_at_call 74; refine (step_any p d.left d.down (.map (some m)) (.int .i64 d.most) 86 _ (((h.below hb1).alloc _).head) hl0 hl1).mono ?_; rw [Hzb.out]; rintro e w2 ⟨rfl, hb2, hu2, hs2⟩))
  go_ret
  refine ⟨rfl, ?_, ?_⟩
  · exact ((h.below hb1).alloc _).power (l := -1) (b := true) hu2 (by rw [hb2, Hz.out]; rfl) hwf.fail
  · exact ((Upd.ofBelow hb1).alloc _).trans hu2 (fun k hk => Or.inl (Or.inl hk))

open Classical in
set_option maxRecDepth 100000 in
set_option maxHeartbeats 1000000 in
theorem Remove_ok (w : World) (p m : Nat) (g : Value → Option Value) (d : ADisk) (s : ByteArray) (h : DiskRep w p m g d) (hs : s.size ≤ maxLen) (hfe : findErr d s = 0) (hz : d.left ≠ 0) :
    Calls Tryz.prog 28 #[.pointer (some ⟨p, 0, none⟩), .string s] w fun e w' => e = .returned (.int .i64 0) ∧ DiskRep w' p m (fun x => if x = .string s then none else g x) { d.tick with fs := delF d.fs s } ∧ Upd (fun k => k = p ∨ k = m) w w' := by
  have hF := find_any w p m g d s h hs
  obtain ⟨a1, n1, c1, a2, n2, c2, hv, hb⟩ := h.fileAgg s
  rw [hv, hfe] at hF
  have hwf := h.wf
  have hl0 := hwf.left0
  have hl1 := hwf.left1
  have hzb : (!(d.left == 0)) = true := by simp [hz]
  have Hz := Lib.hid hz
  have Hzb := Lib.hid hzb
  have hk := key_of hs
  have Hb := Lib.hid hb
  clear hv hfe hz hzb hb
  go_enter Tryz.func28, Tryz.ntmps28
  go_wp2_with (first
    | (go_at_call 64; refine hF.mono ?_; rintro e w1 ⟨rfl, hb1⟩)
    | (go_at_call 74; refine (step_any p d.left d.down (.map (some m)) (.int .i64 d.most) 86 _ (((h.below hb1).alloc _).head) hl0 hl1).mono ?_; rw [Hzb.out]; rintro e w2 ⟨rfl, hb2, hu2, hs2⟩; have hrep2 := ((h.below hb1).alloc _).power (l := max (d.left - 1) (-1)) (b := false) hu2 (by rw [hb2, show (d.left == 0) = false by simpa using Hz.out]) hwf.tick; obtain ⟨q0, q1, q2, q3, _⟩ := cells4 hrep2.head)
    | (refine wpList_map_delete rfl (.tmp 24) (.tmp 25) 84 9 95 rfl Tryz.underlying84 keyed m _ g hrep2.map rfl (.string s) rfl _ hk (delF d.fs s).length (by rw [length_delF hwf.sorted, Hb.out]) ?_))
  intro w3 hm3 hg3 hs3
  have hrep3 := hrep2.deleted (fun x => rfl) hm3 hg3 rfl (hwf.tick.del s)
  have hu3 : Upd (fun k => k = p ∨ k = m) w2 w3 := (Upd.refl _ _).grown hg3 (fun k hk => by cases hk; exact Or.inl (Or.inr rfl))
  have Hm3 := Lib.hid hm3
  clear hm3
  go_wp2
  go_ret
  exact ⟨rfl, hrep3, (((Upd.ofBelow hb1).alloc _).trans hu2 (fun k hk => Or.inl (Or.inl hk))).trans hu3 (fun k hk => Or.inl hk)⟩

open Classical in
theorem Remove_any (w : World) (p m : Nat) (g : Value → Option Value) (d : ADisk) (s : ByteArray) (h : DiskRep w p m g d) (hs : s.size ≤ maxLen) :
    Calls Tryz.prog 28 #[.pointer (some ⟨p, 0, none⟩), .string s] w fun e w' => e = .returned (.int .i64 (d.removeErr s)) ∧ DiskPost w p m g (d.remove s) w' := by
  unfold ADisk.remove ADisk.removeErr
  by_cases hd : d.down = true
  · rw [if_pos hd, if_pos hd]
    exact (Remove_bad w p m g d s h hs 15 (by simp [findErr, hd]) (Or.inr rfl)).mono fun e w' he => ⟨he.1, DiskPost.same h he.2⟩
  rw [if_neg hd, if_neg hd]
  have hd' : d.down = false := by simpa using hd
  cases hl : lk d.fs s with
  | none => exact (Remove_bad w p m g d s h hs 13 (by simp [findErr, hd', hl]) (Or.inl rfl)).mono fun e w' he => ⟨he.1, DiskPost.same h he.2⟩
  | some f =>
    simp only [Option.isNone_some, Bool.false_eq_true, if_false]
    have hfe : findErr d s = 0 := by simp [findErr, hd', hl]
    have hsub : ∀ k, k = p ∨ k = m → dfp p m g k ∨ w.heap.size ≤ k := fun k hk => by rcases hk with hk | hk; exact Or.inl (Or.inl hk); exact Or.inl (Or.inr (Or.inl hk))
    by_cases hz : d.left = 0
    · rw [if_pos hz, ADisk.err, if_pos hz]
      exact (Remove_fail w p m g d s h hs hfe hz).mono fun e w' he => ⟨he.1, g, he.2.1, he.2.2.mono hsub, fun k hk => Or.inl hk⟩
    · rw [if_neg hz, ADisk.err, if_neg hz]
      refine (Remove_ok w p m g d s h hs hfe hz).mono fun e w' he => ⟨he.1, _, he.2.1, he.2.2.mono hsub, fun k hk => ?_⟩
      rcases hk with hk | hk | ⟨t, u, hu, hku⟩
      · exact Or.inl (Or.inl hk)
      · exact Or.inl (Or.inr (Or.inl hk))
      · replace hu : (if Value.string t = Value.string s then none else g (.string t)) = some u := hu
        split at hu
        · cases hu
        · exact Or.inl (Or.inr (Or.inr ⟨t, u, hu, hku⟩))

def ADisk.rename (d : ADisk) (s t : ByteArray) : ADisk := if d.down then d else if (lk d.fs s).isNone then d else if okName t = false then d else if d.left = 0 then d.fail else { d.tick with fs := putF (delF d.fs s) t (afile d s) }
def ADisk.renameErr (d : ADisk) (s t : ByteArray) : Int := if d.down then 15 else if (lk d.fs s).isNone then 13 else if okName t = false then 13 else d.err

set_option maxRecDepth 100000 in
set_option maxHeartbeats 1000000 in
theorem Rename_bad (w : World) (p m : Nat) (g : Value → Option Value) (d : ADisk) (s t : ByteArray) (h : DiskRep w p m g d) (hs : s.size ≤ maxLen) (fe : Int) (hfe : findErr d s = fe) (h0 : fe = 13 ∨ fe = 15) :
    Calls Tryz.prog 55 #[.pointer (some ⟨p, 0, none⟩), .string s, .string t] w fun e w' => e = .returned (.int .i64 fe) ∧ Below w.heap.size w w' := by
  have hF := find_any w p m g d s h hs
  obtain ⟨a1, n1, c1, a2, n2, c2, hv, hb⟩ := h.fileAgg s
  rw [hv, hfe] at hF
  clear hv hfe
  rcases h0 with rfl | rfl
  all_goals
    go_enter Tryz.func55, Tryz.ntmps55
    go_wp2_with (go_at_call 64; refine hF.mono ?_; rintro e w1 ⟨rfl, hb1⟩)
    go_ret
    exact ⟨rfl, hb1.alloc hb1.size _⟩

set_option maxRecDepth 100000 in
set_option maxHeartbeats 1000000 in
theorem Rename_name (w : World) (p m : Nat) (g : Value → Option Value) (d : ADisk) (s t : ByteArray) (h : DiskRep w p m g d) (hs : s.size ≤ maxLen) (ht : t.size ≤ maxLen) (hfe : findErr d s = 0) (hn : okName t = false) :
    Calls Tryz.prog 55 #[.pointer (some ⟨p, 0, none⟩), .string s, .string t] w fun e w' => e = .returned (.int .i64 13) ∧ Below w.heap.size w w' := by
  have hF := find_any w p m g d s h hs
  obtain ⟨a1, n1, c1, a2, n2, c2, hv, hb⟩ := h.fileAgg s
  rw [hv, hfe] at hF
  have hN := fun w => named_any t w ht
  rw [hn] at hN
  clear hv hfe hn
  go_enter Tryz.func55, Tryz.ntmps55
  go_wp2_with (first | (go_at_call 64; refine hF.mono ?_; rintro e w1 ⟨rfl, hb1⟩) | (go_at_call 65; refine (hN _).mono ?_; rintro e w2 ⟨rfl, hb2⟩))
  go_ret
  exact ⟨rfl, (hb1.alloc hb1.size _).trans (hb2.mono (by simp; have := hb1.size; omega))⟩

set_option maxRecDepth 100000 in
set_option maxHeartbeats 1000000 in
theorem Rename_fail (w : World) (p m : Nat) (g : Value → Option Value) (d : ADisk) (s t : ByteArray) (h : DiskRep w p m g d) (hs : s.size ≤ maxLen) (ht : t.size ≤ maxLen) (hfe : findErr d s = 0) (hn : okName t = true) (hz : d.left = 0) :
    Calls Tryz.prog 55 #[.pointer (some ⟨p, 0, none⟩), .string s, .string t] w fun e w' => e = .returned (.int .i64 15) ∧ DiskRep w' p m g d.fail ∧ Upd (fun k => k = p ∨ k = m) w w' := by
  have hF := find_any w p m g d s h hs
  obtain ⟨a1, n1, c1, a2, n2, c2, hv, hb⟩ := h.fileAgg s
  rw [hv, hfe] at hF
  have hN := fun w => named_any t w ht
  rw [hn] at hN
  have Hfe := Lib.hid hfe
  have Hz := Lib.hid hz
  clear hv hfe hn hz
  go_enter Tryz.func55, Tryz.ntmps55
  go_wp2_with (first
    | (go_at_call 64; refine hF.mono ?_; rintro e w1 ⟨rfl, hb1⟩)
    | (go_at_call 65; refine (hN _).mono ?_; rintro e w2 ⟨rfl, hb2⟩)
    | (go_at_call 28; refine (Remove_fail _ p m g d s (((h.below hb1).alloc _).below hb2) hs Hfe.out Hz.out).mono ?_; rintro e w3 ⟨rfl, hrep3, hU3⟩))
  go_ret
  exact ⟨rfl, hrep3, (((Upd.ofBelow hb1).alloc _).trans (Upd.ofBelow (fp := noFp) hb2) (fun k hk => hk.elim)).trans hU3 (fun k hk => Or.inl hk)⟩

open Classical in
set_option maxRecDepth 100000 in
set_option maxHeartbeats 4000000 in
theorem Rename_ok (w : World) (p m : Nat) (g : Value → Option Value) (d : ADisk) (s t : ByteArray) (f : AFile) (h : DiskRep w p m g d) (hs : s.size ≤ maxLen) (ht : t.size ≤ maxLen) (hd : d.down = false) (hl : lk d.fs s = some f) (hn : okName t = true) (hz : d.left ≠ 0) :
    Calls Tryz.prog 55 #[.pointer (some ⟨p, 0, none⟩), .string s, .string t] w fun e w' => e = .returned (.int .i64 0) ∧ ∃ g', DiskRep w' p m g' { d.tick with fs := putF (delF d.fs s) t f } ∧ Upd (fun k => k = p ∨ k = m) w w' ∧ ∀ k, dfp p m g' k → dfp p m g k := by
  have hF := find_any w p m g d s h hs
  have hfe : findErr d s = 0 := by simp [findErr, hd, hl]
  obtain ⟨v, hg, hfile⟩ := h.file s f hl
  rw [hfe, hg, Option.getD_some] at hF
  have hNm := fun w => named_any t w ht
  rw [hn] at hNm
  have hwf1 := h.wf.tick.del s
  have hwf2 : ({ d.tick with fs := putF (delF d.fs s) t f } : ADisk).WF := by
    have h0 := (h.wf.tick.del s)
    have hu := used_delF h.wf.sorted s
    have hlen := length_delF h.wf.sorted s
    rw [hl] at hu hlen
    have hpos := List.length_pos_of_mem (lk_some_mem hl)
    have hc := h.wf.count
    have hus := h.wf.used
    refine { h0 with sorted := sorted_putF h0.sorted t f, names := fun q hq => ?_, used := ?_, count := ?_ }
    · rcases mem_putF hq with rfl | hq
      · exact hn
      · exact h0.names q hq
    · have := used_putF h0.sorted t f
      show ((usedF (putF (delF d.fs s) t f) : Nat) : Int) ≤ d.most
      change usedF (putF (delF d.fs s) t f) + _ = usedF (delF d.fs s) + f.len at this
      simp only [Option.map_some, Option.getD_some] at hu
      omega
    · show (putF (delF d.fs s) t f).length ≤ 200
      rw [length_putF (fs := delF d.fs s) h0.sorted t f]
      change (delF d.fs s).length = _ at hlen
      simp only [Option.isSome_some, if_true] at hlen
      split <;> omega
  obtain ⟨v1, v2, rfl, hr1, hr2, hap, hfl⟩ := id hfile
  obtain ⟨a1, c1, rfl, _⟩ := row_slice hr1
  obtain ⟨a2, c2, rfl, _⟩ := row_slice hr2
  have Hfe := Lib.hid hfe
  have Hg := Lib.hid hg
  have Hl := Lib.hid hl
  have hk := key_of ht
  clear hfe hn hd hg hl
  go_enter Tryz.func55, Tryz.ntmps55
  go_wp2_with (first
    | (go_at_call 64; refine hF.mono ?_; rintro e w1 ⟨rfl, hb1⟩)
    | (go_at_call 65; refine (hNm _).mono ?_; rintro e w2 ⟨rfl, hb2⟩; obtain ⟨x0, x1, y0, y1⟩ := cells2 ((hb2.block w1.heap.size (by simp)).trans (alloc_at w1 _)))
    | (go_at_call 28; refine (Remove_ok _ p m g d s (((h.below hb1).alloc _).below hb2) hs Hfe.out hz).mono ?_; rintro e w3 ⟨rfl, hp3⟩; have hU3 := hp3.2; have hL : w1.heap.size < w2.heap.size := by (have := hb2.size; simp at this; omega)))
  have hB2 : Below w.heap.size w w2 := (hb1.alloc hb1.size _).trans (hb2.mono (by simp; have := hb1.size; omega))
  have hrep3 := hp3.1
  have hs1 := hb1.size
  have hboxL : w3.heap[w1.heap.size]? = some (.cells #[.slice a1 f.firm.length c1, .slice a2 f.loose.length c2] 95) := hU3.keep ((hb2.block w1.heap.size (by simp)).trans (alloc_at w1 _)) (fun hk => by rcases hk with hk | hk; have := blk_lt h.head; omega; have := h.map.lt; omega)
  have hfile2 : FileAt w2 (.agg #[.slice a1 f.firm.length c1, .slice a2 f.loose.length c2]) f := hfile.upd (Upd.ofBelow (fp := noFp) hB2) (fun _ _ h => h)
  have hfile3 : FileAt w3 (.agg #[.slice a1 f.firm.length c1, .slice a2 f.loose.length c2]) f := hfile2.upd hU3 (fun k hk e => by have := (h.below hB2).block_ne hfile2 hk; omega)
  have hblk3 : ∀ k, fblocks (.agg #[.slice a1 f.firm.length c1, .slice a2 f.loose.length c2]) k → dfp p m (fun x => if x = .string s then none else g x) k → ∃ u, (if Value.string t = Value.string s then none else g (.string t)) = some u ∧ fblocks u k := by
    intro k hk hdk
    exfalso
    have hne := h.block_ne hfile hk
    rcases hdk with hdk | hdk | ⟨r, u, hu, hku⟩
    · exact hne.1 hdk
    · exact hne.2 hdk
    · replace hu : (if Value.string r = Value.string s then none else g (.string r)) = some u := hu
      split at hu
      · cases hu
      · rename_i hrs
        exact h.apart s r _ u Hg.out hu (fun e => hrs (by rw [e])) k hk hku
  obtain ⟨q0, q1, q2, q3, _⟩ := cells4 hrep3.head
  obtain ⟨x0', x1', y0', y1'⟩ := cells2 hboxL
  have hcount := h.wf.count
  refine wp_region_tail 6 (by kernel_rfl) (by kernel_rfl) ?_
  simp only [List.take_succ_cons, List.take_zero, List.drop_succ_cons, List.drop_zero]
  repeat still_step
  refine wpStill_nil ?_
  refine wpList_map_update rfl (.tmp 32) (.tmp 33) (.tmp 34) 84 9 95 rfl Tryz.underlying84 keyed m _ _ hrep3.map.drew rfl (.string t) rfl _ hk (.agg #[.slice a1 f.firm.length c1, .slice a2 f.loose.length c2]) rfl ?_ (putF (delF d.fs s) t f).length ?_ ?_
  · have hc3 : (delF d.fs s).length ≤ 200 := hrep3.wf.count
    show (delF d.fs s).length < maxLen
    simp only [maxLen]
    omega
  · rw [length_putF (fs := delF d.fs s) hwf1.sorted t f]
    obtain ⟨_, _, _, _, _, _, _, hb⟩ := hrep3.fileAgg t
    simp only [hb]
  intro w4 hm4 hg4 hs4
  have hrep4 := hrep3.stored (s := t) (f := f) hfile3 hblk3 hm4 (grown_drew hg4) rfl hwf2
  have hu4 : Upd (fun k => k = p ∨ k = m) w3 w4 := (Upd.refl _ _).drew.grown hg4 (fun k hk => by cases hk; exact Or.inl (Or.inr rfl))
  have Hm4 := Lib.hid hm4
  have Hb3 := Lib.hid hblk3
  clear hm4 hblk3
  go_wp2
  go_ret
  refine ⟨rfl, _, hrep4, ((Upd.ofBelow hB2).trans hU3 (fun k hk => Or.inl hk)).trans hu4 (fun k hk => Or.inl hk), fun k hk => ?_⟩
  rcases hk with hk | hk | ⟨r, u, hu, hku⟩
  · exact Or.inl hk
  · exact Or.inr (Or.inl hk)
  · replace hu : (if Value.string r = Value.string t then some (.agg #[.slice a1 f.firm.length c1, .slice a2 f.loose.length c2]) else if Value.string r = Value.string s then none else g (.string r)) = some u := hu
    split at hu
    · cases hu
      exact Or.inr (Or.inr ⟨s, _, Hg.out, hku⟩)
    · split at hu
      · cases hu
      · exact Or.inr (Or.inr ⟨r, u, hu, hku⟩)

theorem Rename_any (w : World) (p m : Nat) (g : Value → Option Value) (d : ADisk) (s t : ByteArray) (h : DiskRep w p m g d) (hs : s.size ≤ maxLen) (ht : t.size ≤ maxLen) :
    Calls Tryz.prog 55 #[.pointer (some ⟨p, 0, none⟩), .string s, .string t] w fun e w' => e = .returned (.int .i64 (d.renameErr s t)) ∧ DiskPost w p m g (d.rename s t) w' := by
  unfold ADisk.rename ADisk.renameErr
  by_cases hd : d.down = true
  · rw [if_pos hd, if_pos hd]
    exact (Rename_bad w p m g d s t h hs 15 (by simp [findErr, hd]) (Or.inr rfl)).mono fun e w' he => ⟨he.1, DiskPost.same h he.2⟩
  rw [if_neg hd, if_neg hd]
  have hd' : d.down = false := by simpa using hd
  cases hl : lk d.fs s with
  | none => exact (Rename_bad w p m g d s t h hs 13 (by simp [findErr, hd', hl]) (Or.inl rfl)).mono fun e w' he => ⟨he.1, DiskPost.same h he.2⟩
  | some f =>
    simp only [Option.isNone_some, Bool.false_eq_true, if_false]
    have hfe : findErr d s = 0 := by simp [findErr, hd', hl]
    by_cases hn : okName t = false
    · rw [if_pos hn, if_pos hn]
      exact (Rename_name w p m g d s t h hs ht hfe hn).mono fun e w' he => ⟨he.1, DiskPost.same h he.2⟩
    rw [if_neg hn, if_neg hn]
    have hn' : okName t = true := by simpa using hn
    have hsub : ∀ k, k = p ∨ k = m → dfp p m g k ∨ w.heap.size ≤ k := fun k hk => by rcases hk with hk | hk; exact Or.inl (Or.inl hk); exact Or.inl (Or.inr (Or.inl hk))
    by_cases hz : d.left = 0
    · rw [if_pos hz, ADisk.err, if_pos hz]
      exact (Rename_fail w p m g d s t h hs ht hfe hn' hz).mono fun e w' he => ⟨he.1, g, he.2.1, he.2.2.mono hsub, fun k hk => Or.inl hk⟩
    · rw [if_neg hz, ADisk.err, if_neg hz]
      refine (Rename_ok w p m g d s t f h hs ht hd' hl hn' hz).mono fun e w' he => ⟨he.1, ?_⟩
      obtain ⟨g', h1, h2, h3⟩ := he.2
      refine ⟨g', ?_, h2.mono hsub, fun k hk => Or.inl (h3 k hk)⟩
      simpa [afile, hl] using h1
end Go.Proofs.YtnagejhpdhdpfaaGreatDoor
