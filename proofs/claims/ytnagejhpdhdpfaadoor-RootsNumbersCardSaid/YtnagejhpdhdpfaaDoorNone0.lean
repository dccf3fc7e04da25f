/-
  What New did not make: nil, or a disk of zeros: the walks of each call.
-/
import Derived.Outline
import Derived.Test.YtnagejhpdhdpfaaDoorLaw0
namespace Go.Proofs.YtnagejhpdhdpfaaDoor
open Go.RowKit Go.Maps Go.MapKept

/-- no disk: nil, or one without a map. -/
def NoDisk (w : World) (pv : Value) : Prop :=
  pv = .pointer none ∨ ∃ p l x, pv = .pointer (some ⟨p, 0, none⟩) ∧ w.heap[p]? = some (.cells #[.int .i64 l, .bool false, .map none, .int .i64 x] 75 (0, 0))
def ptrBlk (pv : Value) (k : Nat) : Prop := ∃ a, pv = .pointer (some a) ∧ k = a.block

theorem NoDisk.below {w w' : World} {pv : Value} (h : NoDisk w pv) (hb : Below w.heap.size w w') : NoDisk w' pv := by
  rcases h with h | ⟨p, l, x, h1, h2⟩
  · exact Or.inl h
  · exact Or.inr ⟨p, l, x, h1, (hb.block p (blk_lt h2)).trans h2⟩
theorem NoDisk.alloc {w : World} {pv : Value} (h : NoDisk w pv) (o : Obj) : NoDisk (w.alloc o) pv := h.below ((Below.refl _ _).alloc (Nat.le_refl _) o)

theorem run_lookup_nil (w : World) (s : ByteArray) (hs : s.size ≤ maxLen) : (Instr.lookup 73 (.map none) (.string s) false).run Tryd.prog w = .ok zFile w := by
  simp [Instr.lookup, run_underlying Tryd.underlying73, keyed.check w _ (key_of hs), Instr.findKey, Instr.findNow, run_underlying Tryd.underlying9, zero_file w, Result.andThen]

section
variable {w : World} {pv : Value}

set_option maxRecDepth 100000 in
set_option maxHeartbeats 2000000 in
theorem find_no (h : NoDisk w pv) (s : ByteArray) : Calls Tryd.prog 38 #[pv, .string s] w fun e w' => e = .returned (.tuple #[zFile, .int .i64 1]) ∧ Below w.heap.size w w' := by
  have hen := fun (w : World) => run_eql_map_nil (P := Tryd.prog) w 73 9 77 none Tryd.underlying73
  rcases h with rfl | ⟨p, l, x, rfl, hp⟩
  · go_enter Tryd.func38, Tryd.ntmps38
    go_wp2
    exact bodyPost_ret (v := .tuple #[zFile, .int .i64 1]) (by simp [results, Tryd.results38, go_sem, zFile]) rfl ⟨rfl, (Below.refl _ _).alloc (Nat.le_refl _) _⟩
  · obtain ⟨q0, q1, q2, q3, _⟩ := cells4 hp
    have hlt := blk_lt hp
    clear hp
    go_enter Tryd.func38, Tryd.ntmps38
    go_wp2
    exact bodyPost_ret (v := .tuple #[zFile, .int .i64 1]) (by simp [results, Tryd.results38, go_sem, zFile]) rfl ⟨rfl, (Below.refl _ _).alloc (Nat.le_refl _) _⟩

set_option maxRecDepth 100000 in
set_option maxHeartbeats 2000000 in
theorem Append_no (h : NoDisk w pv) (s : ByteArray) (a : Option Addr) (n c : Nat) : Calls Tryd.prog 25 #[pv, .string s, .slice a n c] w fun e w' => e = .returned (.int .i64 1) ∧ Below w.heap.size w w' := by
  have hF := find_no h s
  unfold zFile at hF
  go_enter Tryd.func25, Tryd.ntmps25
  go_wp2_with (go_at_call 38; refine hF.mono ?_; rintro e w1 ⟨rfl, hb1⟩)
  go_ret
  exact ⟨rfl, hb1.alloc hb1.size _⟩
set_option maxRecDepth 100000 in
set_option maxHeartbeats 2000000 in
theorem Sync_no (h : NoDisk w pv) (s : ByteArray) : Calls Tryd.prog 43 #[pv, .string s] w fun e w' => e = .returned (.int .i64 1) ∧ Below w.heap.size w w' := by
  have hF := find_no h s
  unfold zFile at hF
  go_enter Tryd.func43, Tryd.ntmps43
  go_wp2_with (go_at_call 38; refine hF.mono ?_; rintro e w1 ⟨rfl, hb1⟩)
  go_ret
  exact ⟨rfl, hb1.alloc hb1.size _⟩
set_option maxRecDepth 100000 in
set_option maxHeartbeats 2000000 in
theorem Cut_no (h : NoDisk w pv) (s : ByteArray) (n : Int) : Calls Tryd.prog 21 #[pv, .string s, .int .i64 n] w fun e w' => e = .returned (.int .i64 1) ∧ Below w.heap.size w w' := by
  have hF := find_no h s
  unfold zFile at hF
  go_enter Tryd.func21, Tryd.ntmps21
  go_wp2_with (go_at_call 38; refine hF.mono ?_; rintro e w1 ⟨rfl, hb1⟩)
  go_ret
  exact ⟨rfl, hb1.alloc hb1.size _⟩
set_option maxRecDepth 100000 in
set_option maxHeartbeats 2000000 in
theorem Remove_no (h : NoDisk w pv) (s : ByteArray) : Calls Tryd.prog 20 #[pv, .string s] w fun e w' => e = .returned (.int .i64 1) ∧ Below w.heap.size w w' := by
  have hF := find_no h s
  unfold zFile at hF
  go_enter Tryd.func20, Tryd.ntmps20
  go_wp2_with (go_at_call 38; refine hF.mono ?_; rintro e w1 ⟨rfl, hb1⟩)
  go_ret
  exact ⟨rfl, hb1.alloc hb1.size _⟩
set_option maxRecDepth 100000 in
set_option maxHeartbeats 2000000 in
theorem Rename_no (h : NoDisk w pv) (s t : ByteArray) : Calls Tryd.prog 45 #[pv, .string s, .string t] w fun e w' => e = .returned (.int .i64 1) ∧ Below w.heap.size w w' := by
  have hF := find_no h s
  unfold zFile at hF
  go_enter Tryd.func45, Tryd.ntmps45
  go_wp2_with (go_at_call 38; refine hF.mono ?_; rintro e w1 ⟨rfl, hb1⟩)
  go_ret
  exact ⟨rfl, hb1.alloc hb1.size _⟩
set_option maxRecDepth 100000 in
set_option maxHeartbeats 2000000 in
theorem Read_no (h : NoDisk w pv) (s : ByteArray) : Calls Tryd.prog 14 #[pv, .string s] w fun e w' => e = .returned (.tuple #[.slice none 0 0, .int .i64 1]) ∧ Below w.heap.size w w' := by
  have hF := find_no h s
  unfold zFile at hF
  go_enter Tryd.func14, Tryd.ntmps14
  go_wp2_with (go_at_call 38; refine hF.mono ?_; rintro e w1 ⟨rfl, hb1⟩)
  go_ret2
  exact ⟨rfl, hb1.alloc hb1.size _⟩
set_option maxRecDepth 100000 in
set_option maxHeartbeats 2000000 in
theorem at_no (h : NoDisk w pv) (s : ByteArray) (hs : s.size ≤ maxLen) : Calls Tryd.prog 53 #[pv, .string s] w fun e w' => e = .returned zFile ∧ Below w.heap.size w w' := by
  rcases h with rfl | ⟨p, l, x, rfl, hp⟩
  · go_enter Tryd.func53, Tryd.ntmps53
    go_wp2
    exact bodyPost_ret (v := zFile) (by simp [results, Tryd.results53, go_sem, zFile]) rfl ⟨rfl, (Below.refl _ _).alloc (Nat.le_refl _) _⟩
  · obtain ⟨q0, q1, q2, q3, _⟩ := cells4 hp
    have hlt := blk_lt hp
    have hlk := fun w => run_lookup_nil w s hs
    unfold zFile at hlk
    clear hp
    go_enter Tryd.func53, Tryd.ntmps53
    go_wp2
    exact bodyPost_ret (v := zFile) (by simp [results, Tryd.results53, go_sem, zFile]) rfl ⟨rfl, (Below.refl _ _).alloc (Nat.le_refl _) _⟩
set_option maxRecDepth 100000 in
set_option maxHeartbeats 2000000 in
theorem Size_no (h : NoDisk w pv) (s : ByteArray) (hs : s.size ≤ maxLen) : Calls Tryd.prog 23 #[pv, .string s] w fun e w' => e = .returned (.int .i64 0) ∧ Below w.heap.size w w' := by
  have hF := at_no h s hs
  unfold zFile at hF
  go_enter Tryd.func23, Tryd.ntmps23
  go_wp2_with (first | (go_at_call 53; refine hF.mono ?_; rintro e w1 ⟨rfl, hb1⟩) | (go_at_call 50; refine (fsize_any _ _ ⟨[], []⟩ ⟨_, _, rfl, World.ownsRow_nil _ _ _ _, World.ownsRow_nil _ _ _ _, by simp [Value.ownBlock], by simp [AFile.len]⟩).mono ?_; rintro e w2 ⟨rfl, hb2⟩))
  go_ret
  exact ⟨rfl, hb1.trans (hb2.mono hb1.size)⟩
set_option maxRecDepth 100000 in
set_option maxHeartbeats 2000000 in
theorem Arm_no (h : NoDisk w pv) (n : Int) : Calls Tryd.prog 28 #[pv, .int .i64 n] w fun e w' => e = .returned (.tuple #[]) ∧ w = w' := by
  have hen := fun (w : World) => run_neq_map_nil (P := Tryd.prog) w 73 9 77 none Tryd.underlying73
  rcases h with rfl | ⟨p, l, x, rfl, hp⟩
  · go_enter Tryd.func28, Tryd.ntmps28
    go_wp2
    go_end0
    exact ⟨rfl, rfl⟩
  · obtain ⟨q0, q1, q2, q3, _⟩ := cells4 hp
    clear hp
    go_enter Tryd.func28, Tryd.ntmps28
    go_wp2
    go_end0
    exact ⟨rfl, rfl⟩
set_option maxRecDepth 100000 in
set_option maxHeartbeats 2000000 in
theorem List_no (h : NoDisk w pv) : Calls Tryd.prog 17 #[pv] w fun e w' => e = .returned (.slice none 0 0) ∧ Below w.heap.size w w' := by
  rcases h with rfl | ⟨p, l, x, rfl, hp⟩
  · go_enter Tryd.func17, Tryd.ntmps17
    go_wp2
    go_ret
    exact ⟨rfl, Below.refl _ _⟩
  · obtain ⟨q0, q1, q2, q3, _⟩ := cells4 hp
    clear hp
    refine (callsIn_wide (n := 6)).1 ?_
    have hfK : Fence.wide.fn 48 := trivial
    have hfS : Fence.wide.fn 47 := trivial
    refine callsIn_of_wp Tryd.func17 rfl trivial ?_ rfl
    simp only [Tryd.ntmps17, List.size_toArray, List.length_cons, List.length_nil, Nat.reduceAdd, Nat.reduceSub, Array.replicate_succ, Array.replicate_zero, List.push_toArray, List.append_toArray, List.nil_append, List.cons_append]
    gi_wp2_with (first
     | (gi_at_call 48; refine (Tryd.maps_Keys_48 _ _).mono ?_; rintro e w' ⟨rfl, rfl⟩)
     | (gi_at_call 47; refine (Tryd.slices_Sorted_keys_nil_47_48 w).mono ?_; rintro e w' ⟨v, ss, rfl, hS, hrow, hnil, hb⟩))
    go_ret
    exact ⟨by rw [hnil.2 hS]; rfl, ((Below.refl _ w).alloc (Nat.le_refl _) _).trans (hb.mono (by simp))⟩
set_option maxRecDepth 100000 in
set_option maxHeartbeats 2000000 in
theorem Used_no (h : NoDisk w pv) : Calls Tryd.prog 16 #[pv] w fun e w' => e = .returned (.int .i64 0) ∧ Below w.heap.size w w' := by
  have hL := List_no h
  go_enter Tryd.func16, Tryd.ntmps16
  go_wp2_with (go_at_call 17; refine hL.mono ?_; rintro e w1 ⟨rfl, hb1⟩)
  refine wp_loop_once ?_
  go_wp2
  go_ret
  exact ⟨rfl, hb1⟩
set_option maxRecDepth 100000 in
set_option maxHeartbeats 2000000 in
theorem Crash_no (h : NoDisk w pv) (a : Option Addr) (n c : Nat) : Calls Tryd.prog 29 #[pv, .slice a n c] w fun e w' => e = .returned (.tuple #[]) ∧ NoDisk w' pv ∧ Upd (ptrBlk pv) w w' := by
  have hL := List_no h
  rcases h with rfl | ⟨p, l, x, rfl, hp⟩
  · go_enter Tryd.func29, Tryd.ntmps29
    go_wp2_with (go_at_call 17; refine hL.mono ?_; rintro e w1 ⟨rfl, hb1⟩)
    refine wp_loop_once ?_
    go_wp2
    go_end0
    exact ⟨rfl, Or.inl rfl, Upd.ofBelow hb1⟩
  · have Hp := Lib.hid hp
    clear hp
    go_enter Tryd.func29, Tryd.ntmps29
    go_wp2_with (go_at_call 17; refine hL.mono ?_; rintro e w1 ⟨rfl, hb1⟩)
    have hp1 := (hb1.block p (blk_lt Hp.out)).trans Hp.out
    obtain ⟨q0, q1, q2, q3, z0, z1, _, _⟩ := cells4 hp1
    refine wp_loop_once ?_
    have hfin : NoDisk ((w1.setCell ⟨p, 0, none⟩ (.int .i64 (-1))).setCell ⟨p, 1, none⟩ (.bool false)) (.pointer (some ⟨p, 0, none⟩)) := Or.inr ⟨p, -1, x, rfl, by rw [setCell_at (setCell_at hp1 0 _) 1 _]; rfl⟩
    have hu : Upd (ptrBlk (.pointer (some ⟨p, 0, none⟩))) w ((w1.setCell ⟨p, 0, none⟩ (.int .i64 (-1))).setCell ⟨p, 1, none⟩ (.bool false)) := (Upd.ofBelow hb1).trans (setCell2_upd _ _) (fun k hk => Or.inl ⟨_, rfl, hk⟩)
    have Hfin := Lib.hid hfin
    have Hu := Lib.hid hu
    clear hfin hu hp1
    go_wp2
    go_end0
    exact ⟨rfl, Hfin.out, Hu.out⟩
end
end Go.Proofs.YtnagejhpdhdpfaaDoor
