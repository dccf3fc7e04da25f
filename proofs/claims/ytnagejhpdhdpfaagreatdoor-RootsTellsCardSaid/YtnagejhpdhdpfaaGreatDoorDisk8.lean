/-
  The walks of slices.Grow, slices.Concat, Disk.Read.
-/
import Derived.Outline
import Derived.Lib.AppendZeros
import Derived.Test.YtnagejhpdhdpfaaGreatDoorDisk7
namespace Go.Proofs.YtnagejhpdhdpfaaGreatDoor
open Go.RowKit Go.Maps Go.MapKept

set_option maxRecDepth 100000 in
set_option maxHeartbeats 1000000 in
theorem Grow_nil (w : World) (n : Nat) (hn : n ≤ 140737488355328) :
    Calls Tryz.prog 98 #[.slice none 0 0, .int .i64 n] w fun e w' => ∃ a c, e = .returned (.slice a 0 c) ∧ w'.ownsRow w.heap.size 5 1 (.slice a 0 c) 0 [] ∧ Below w.heap.size w w' := by
  by_cases h0 : n = 0
  · subst h0
    go_enter Tryz.func98, Tryz.ntmps98
    go_wp2
    go_ret
    exact ⟨none, 0, rfl, World.ownsRow_nil _ _ _ _, Below.refl _ _⟩
  · have hpos : 0 < n := by omega
    obtain ⟨i0, hi, hz0, hz1, hz2⟩ := info_parts info_u8
    have hrun := Lib.run_append_nil_zeros (P := Tryz.prog) w 22 3 22 5 i0 (.int .u8 0) .i64 .i64 Tryz.underlying22 Tryz.underlying3 hi hz0 n hpos (by omega) (by omega) (by rw [hz2]; omega)
    have hge := grownCap_ge w n 0 5
    have hle := grownCap_le_maxLen w n 0 5 (by simp only [maxLen]; omega)
    have hfin : (w.drew.alloc (.cells (Builtin.zeroCells (Value.int IntKind.u8 0).cells n ++ Builtin.zeroCells (Value.int IntKind.u8 0).cells (grownCap w n 0 5 - n)) 5)).ownsRow w.heap.size 5 1 (.slice (some ⟨w.heap.size, 0, none⟩) 0 (grownCap w n 0 5)) 0 [] := by
      refine ⟨rfl, Or.inr ⟨w.heap.size, _, _, rfl, Nat.le_refl _, alloc_at w.drew _, Nat.zero_le _, hle, ?_, by simp⟩⟩
      rw [Array.size_append, size_zeroCells, size_zeroCells]
      show n * 1 + (grownCap w n 0 5 - n) * 1 = grownCap w n 0 5 * 1
      omega
    have hb : Below w.heap.size w (w.drew.alloc (.cells (Builtin.zeroCells (Value.int IntKind.u8 0).cells n ++ Builtin.zeroCells (Value.int IntKind.u8 0).cells (grownCap w n 0 5 - n)) 5)) := ((Below.refl _ _).drew).alloc (Nat.le_refl _) _
    generalize hW : w.drew.alloc (.cells (Builtin.zeroCells (Value.int IntKind.u8 0).cells n ++ Builtin.zeroCells (Value.int IntKind.u8 0).cells (grownCap w n 0 5 - n)) 5) = W at hrun hfin hb
    generalize hC : grownCap w n 0 5 = C at hrun hfin hge hle
    have hni : (0 : Int) < n := by omega
    have hcc : (0 : Int) ≤ (C : Int) := by omega
    have Hrun := Lib.hid hrun
    clear hW hC hrun
    go_enter Tryz.func98, Tryz.ntmps98
    go_wp2_with (at_builtin; refine Lib.wpList_append_run _ rfl (.tmp 20) (.tmp 21) _ _ rfl _ _ rfl rfl _ _ Hrun.out ?_)
    go_ret
    exact ⟨_, _, rfl, hfin, hb⟩

def upTo (bs : List (List UInt8)) (k : Nat) : List UInt8 := (bs.take k).flatten
theorem upTo_succ (bs : List (List UInt8)) (k : Nat) (hk : k < bs.length) : upTo bs (k + 1) = upTo bs k ++ bs[k] := by
  unfold upTo
  rw [List.take_succ_eq_append_getElem hk, List.flatten_append, List.flatten_cons, List.flatten_nil, List.append_nil]
theorem upTo_le (bs : List (List UInt8)) (k : Nat) : (upTo bs k).length ≤ bs.flatten.length := by
  unfold upTo
  have h : bs.flatten = (bs.take k).flatten ++ (bs.drop k).flatten := by rw [← List.flatten_append, List.take_append_drop]
  rw [h, List.length_append]
  omega

set_option maxRecDepth 100000 in
set_option maxHeartbeats 2000000 in
theorem Concat_any (w : World) (b off c : Nat) (vs : List Value) (bs : List (List UInt8)) (hl : vs.length = bs.length) (hvl : vs.length ≤ 1000000) (hcell : ∀ j (h : j < vs.length), w.cell? ⟨b, off + j, none⟩ = some vs[j])
    (hrd : ∀ j (h : j < vs.length) (h' : j < bs.length), Rd w vs[j] (bcells bs[j])) (htot : bs.flatten.length ≤ 70368744177664) :
    Calls Tryz.prog 89 #[.slice (some ⟨b, off, none⟩) vs.length c] w fun e w' => ∃ a cc, e = .returned (.slice a bs.flatten.length cc) ∧ w'.ownsRow w.heap.size 5 1 (.slice a bs.flatten.length cc) bs.flatten.length (bcells bs.flatten) ∧ Below w.heap.size w w' := by
  have Hcell := Lib.hid hcell
  have Hrd := Lib.hid hrd
  have Hl := Lib.hid hl
  obtain ⟨tot, ht⟩ : ∃ tot, bs.flatten.length = tot := ⟨_, rfl⟩
  obtain ⟨N, hN⟩ : ∃ N, vs.length = N := ⟨_, rfl⟩
  have Ht := Lib.hid ht
  have HN := Lib.hid hN
  rw [ht] at htot ⊢
  rw [hN] at hvl ⊢
  clear hcell hrd hl ht hN
  go_enter Tryz.func89, Tryz.ntmps89
  go_wp2
  go_loop [3, 11] (fun t i => ∃ k : Nat, k ≤ N ∧ i = .int .i64 k ∧ t = .int .i64 (upTo bs k).length) (fun _ i => N - (intOf i).toNat)
  case atStart => exact ⟨0, by omega, rfl, rfl⟩
  case round =>
    obtain ⟨k, hk, rfl, rfl⟩ := hrel
    have hle := upTo_le bs k
    rw [Ht.out] at hle
    by_cases hlt : k < N
    · have hkv : k < vs.length := by rw [HN.out]; exact hlt
      have hkb : k < bs.length := by rw [← Hl.out, HN.out]; exact hlt
      have hc := Hcell.out k hkv
      obtain ⟨a1, c1, hv⟩ := (Hrd.out k hkv hkb).shape
      rw [hv, bcells_length] at hc
      have hs := congrArg List.length (upTo_succ bs k hkb)
      rw [List.length_append] at hs
      have hle2 := upTo_le bs (k + 1)
      rw [Ht.out] at hle2
      obtain ⟨L1, hL1⟩ : ∃ L1, bs[k].length = L1 := ⟨_, rfl⟩
      rw [hL1] at hc hs
      have hle3 : (upTo bs k).length + L1 ≤ tot := by omega
      have Hs := Lib.hid hs
      clear hv hs hL1 hle2
      go_wp2
      go_round
      case rel => exact ⟨k + 1, by omega, by go_num, by rw [Hs.out]; go_num⟩
      case measure => simp [intOf]; omega
    · obtain rfl : k = N := by omega
      have hfull : upTo bs k = bs.flatten := by
        unfold upTo
        rw [List.take_of_length_le (by rw [← Hl.out, HN.out]; exact Nat.le_refl _)]
      have hfl : (upTo bs k).length = tot := by rw [hfull, Ht.out]
      rw [hfl]
      have Hfull := Lib.hid hfull
      clear hfull hfl hle
      go_wp2_with (go_at_call 98; refine (Grow_nil _ tot (by omega)).mono ?_; rintro e w1 ⟨a0, c0, rfl, hown0, hb0⟩)
      have hown0' := ownsRow_base0 hown0
      go_loopw [6, 27] (fun t i wr => ∃ (j : Nat) (a c : _), j ≤ k ∧ i = .int .i64 j ∧ t = .slice a (upTo bs j).length c ∧ wr.ownsRow w.heap.size 5 1 (.slice a (upTo bs j).length c) (upTo bs j).length (bcells (upTo bs j)) ∧ Below w.heap.size w wr) (fun _ i _ => k - (intOf i).toNat)
      case atStart => exact ⟨0, a0, c0, by omega, rfl, rfl, hown0, hb0⟩
      case round =>
        obtain ⟨j, a, cc, hj, rfl, rfl, hown, hbr⟩ := hrel
        have Hown := Lib.hid hown
        clear hown hown0 hown0'
        by_cases hjl : j < k
        · have hkv : j < vs.length := by rw [HN.out]; exact hjl
          have hkb : j < bs.length := by rw [← Hl.out, HN.out]; exact hjl
          have hc := Hcell.out j hkv
          have hrdj := Hrd.out j hkv hkb
          obtain ⟨a1, c1, hv⟩ := hrdj.shape
          rw [hv] at hc hrdj
          rw [bcells_length] at hc hrdj
          have hcr : wr.cell? ⟨b, off + j, none⟩ = some (.slice a1 bs[j].length c1) := (hbr.cell (p := ⟨b, off + j, none⟩) (cell_lt hc)).trans hc
          have hrr := hrdj.below hbr
          have hs := upTo_succ bs j hkb
          have hle2 := upTo_le bs (j + 1)
          rw [Ht.out, hs, List.length_append] at hle2
          obtain ⟨B, hB⟩ : ∃ B, bs[j] = B := ⟨_, rfl⟩
          rw [hB] at hs hle2 hcr hrr
          have Hs := Lib.hid hs
          clear hs hB hv hc hrdj
          go_wp2_with (refine append_u8 rfl (.tmp 31) (.tmp 32) rfl (.slice a (upTo bs j).length cc) (.slice a1 B.length c1) (upTo bs j) B (upTo bs (j + 1)) Hs.out.symm rfl (ownsRow_base0 Hown.out) rfl hrr (by omega) ?_)
          intro v' w4 hv' hg4 hb4 hold4
          obtain ⟨a', c', rfl, _⟩ := row_slice hv'
          have hbase : ∀ g, (Value.slice a (upTo bs j).length cc).ownBlock = some g → w.heap.size ≤ g := fun g hg => (Hown.out.lt g hg).1
          have hb4' : Below w.heap.size w w4 := hbr.grown hg4 hbr.size (fun g hg => hbase g hg)
          have hown4 : w4.ownsRow w.heap.size 5 1 (.slice a' (upTo bs (j + 1)).length c') (upTo bs (j + 1)).length (bcells (upTo bs (j + 1))) := by
            refine ownsRow_from hv' (fun g hg => ?_)
            rcases hb4 with hb4 | ⟨g4, hb4, hg4'⟩
            · exact hbase g (hb4 ▸ hg)
            · rw [hb4] at hg; cases hg; have := hbr.size; omega
          have Hown4 := Lib.hid hown4
          clear hown4 hv' hold4 hb4
          go_wp2
          go_roundw
          case rel => exact ⟨j + 1, a', c', by omega, by go_num, rfl, Hown4.out, hb4'⟩
          case measure => simp [intOf]; omega
        · obtain rfl : j = k := by omega
          have hfl : (upTo bs j).length = tot := by rw [Hfull.out, Ht.out]
          have hown := Hown.out
          rw [hfl, Hfull.out] at hown
          rw [hfl]
          have Hown2 := Lib.hid hown
          clear hfl hown
          go_wp2
          go_ret
          exact ⟨a, cc, rfl, Hown2.out, hbr⟩

def ADisk.readBytes (d : ADisk) (s : ByteArray) : List UInt8 := if findErr d s = 0 then (afile d s).firm ++ (afile d s).loose else []

set_option maxRecDepth 100000 in
set_option maxHeartbeats 2000000 in
theorem Read_any (w : World) (p m : Nat) (g : Value → Option Value) (d : ADisk) (s : ByteArray) (h : DiskRep w p m g d) (hs : s.size ≤ maxLen) :
    Calls Tryz.prog 59 #[.pointer (some ⟨p, 0, none⟩), .string s] w fun e w' => ∃ a c, e = .returned (.tuple #[.slice a (d.readBytes s).length c, .int .i64 (findErr d s)]) ∧ w'.ownsRow w.heap.size 5 1 (.slice a (d.readBytes s).length c) (d.readBytes s).length (bcells (d.readBytes s)) ∧ Below w.heap.size w w' := by
  have hF := find_any w p m g d s h hs
  have hfile := h.fileOf s
  have key : ∀ fe : Int, findErr d s = fe → (fe = 0 ∨ fe = 13 ∨ fe = 15) → Calls Tryz.prog 59 #[.pointer (some ⟨p, 0, none⟩), .string s] w fun e w' => ∃ a c, e = .returned (.tuple #[.slice a (d.readBytes s).length c, .int .i64 fe]) ∧ w'.ownsRow w.heap.size 5 1 (.slice a (d.readBytes s).length c) (d.readBytes s).length (bcells (d.readBytes s)) ∧ Below w.heap.size w w' := by
    intro fe hfe hcase
    have hbytes : d.readBytes s = if fe = 0 then (afile d s).firm ++ (afile d s).loose else [] := by rw [ADisk.readBytes, hfe]
    rw [hfe] at hF
    generalize hv : (g (.string s)).getD zFile = v at hF hfile
    obtain ⟨v1, v2, rfl, hr1, hr2, hap, hfl⟩ := id hfile
    obtain ⟨a1, c1, rfl, _⟩ := row_slice hr1
    obtain ⟨a2, c2, rfl, _⟩ := row_slice hr2
    rcases hcase with rfl | hcase
    · rw [if_pos rfl] at hbytes
      rw [hbytes]
      clear hv hfe hbytes
      obtain ⟨ys, hys⟩ : ∃ ys, [(afile d s).firm, (afile d s).loose].flatten = ys := ⟨_, rfl⟩
      have hys' : (afile d s).firm ++ (afile d s).loose = ys := by rw [← hys]; simp
      rw [hys']
      have hyl : ys.length ≤ 16777216 := by rw [← hys']; simpa [AFile.len] using hfl
      have Hys := Lib.hid hys
      clear hys hys'
      go_enter Tryz.func59, Tryz.ntmps59
      go_wp2_with (go_at_call 64; refine hF.mono ?_; rintro e w1 ⟨rfl, hb1⟩)
      have hU : Upd noFp w ((w1.alloc (.cells #[.slice a1 (afile d s).firm.length c1, .slice a2 (afile d s).loose.length c2] 95)).alloc (.cells #[.slice a1 (afile d s).firm.length c1, .slice a2 (afile d s).loose.length c2] 22)) := ((Upd.ofBelow hb1).alloc _).alloc _
      have hB : Below w.heap.size w ((w1.alloc (.cells #[.slice a1 (afile d s).firm.length c1, .slice a2 (afile d s).loose.length c2] 95)).alloc (.cells #[.slice a1 (afile d s).firm.length c1, .slice a2 (afile d s).loose.length c2] 22)) := (hb1.alloc hb1.size _).alloc (by simp; have := hb1.size; omega) _
      have hx := alloc2_at w1 (.cells #[.slice a1 (afile d s).firm.length c1, .slice a2 (afile d s).loose.length c2] 95) (.cells #[.slice a1 (afile d s).firm.length c1, .slice a2 (afile d s).loose.length c2] 22)
      have hC := Concat_any ((w1.alloc (.cells #[.slice a1 (afile d s).firm.length c1, .slice a2 (afile d s).loose.length c2] 95)).alloc (.cells #[.slice a1 (afile d s).firm.length c1, .slice a2 (afile d s).loose.length c2] 22)) (w1.heap.size + 1) 0 2 [.slice a1 (afile d s).firm.length c1, .slice a2 (afile d s).loose.length c2] [(afile d s).firm, (afile d s).loose] rfl (by simp)
        (fun j hj => by
          rw [cell_at hx]
          match j, hj with
          | 0, _ => rfl
          | 1, _ => rfl)
        (fun j hj hj' => by
          match j, hj with
          | 0, _ => exact Rd.ofOwns (hU.row hr1 (fun _ _ h => h))
          | 1, _ => exact Rd.ofOwns (hU.row hr2 (fun _ _ h => h)))
        (by rw [Hys.out]; omega)
      rw [Hys.out] at hC
      refine hC.mono ?_
      rintro e w2 ⟨a, cc, rfl, hown, hb2⟩
      go_wp2
      go_ret2
      exact ⟨a, cc, rfl, ownsRow_from hown (fun g hg => by have := (hown.lt g hg).1; have := hB.size; omega), hB.trans (hb2.mono hB.size)⟩
    · have hne : fe ≠ 0 := by omega
      rw [if_neg hne] at hbytes
      rw [hbytes]
      clear hv hfe hbytes hne
      rcases hcase with rfl | rfl
      all_goals
        go_enter Tryz.func59, Tryz.ntmps59
        go_wp2_with (go_at_call 64; refine hF.mono ?_; rintro e w1 ⟨rfl, hb1⟩)
        go_ret2
        exact ⟨none, 0, rfl, World.ownsRow_nil _ _ _ _, hb1.alloc hb1.size _⟩
  refine key _ rfl ?_
  unfold findErr
  cases d.down <;> cases lk d.fs s <;> simp
end Go.Proofs.YtnagejhpdhdpfaaGreatDoor
