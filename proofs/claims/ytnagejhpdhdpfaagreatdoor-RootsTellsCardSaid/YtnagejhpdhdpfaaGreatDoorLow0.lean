/-
  The walks of SameTexts, SameInts.
-/
import Derived.Outline
import Derived.Test.YtnagejhpdhdpfaaGreatDoorLaw0
namespace Go.Proofs.YtnagejhpdhdpfaaGreatDoor
open Go.RowKit Go.Maps Go.MapKept

def sCells (l : List ByteArray) : List Value := l.map Value.string
theorem sCells_length (l : List ByteArray) : (sCells l).length = l.length := by simp [sCells]
theorem iCells_length (l : List Int) : (iCells l).length = l.length := by simp [iCells]
theorem Rd.at {w : World} {a : Option Addr} {n c : Nat} {xs : List Value} (h : Rd w (.slice a n c) xs) (k : Nat) (hk : k < xs.length) : ∃ b o, a = some ⟨b, o, none⟩ ∧ w.cell? ⟨b, o + k, none⟩ = some xs[k] := by
  rcases h with ⟨_, h0⟩ | ⟨b, o, n, cc, he, _, hc⟩
  · subst h0; simp at hk
  · cases he
    exact ⟨b, o, rfl, hc k _ (List.getElem?_eq_getElem hk)⟩

theorem strEq (x y : ByteArray) : (x.toList == y.toList) = decide (x = y) := by
  rw [ByteArray.toList_eq, ByteArray.toList_eq]
  by_cases h : x = y
  · simp [h]
  · simp only [h, decide_false, beq_eq_false_iff_ne, ne_eq]
    exact fun e => h (bytes_ext e)

set_option maxRecDepth 100000 in
set_option maxHeartbeats 2000000 in
theorem SameTexts_any (w : World) (va vb : Value) (a b : List ByteArray) (ha : Rd w va (sCells a)) (hb : Rd w vb (sCells b)) (hla : a.length ≤ maxLen) (hlb : b.length ≤ maxLen) :
    Calls Tryz.prog 33 #[va, vb] w fun e w' => e = .returned (.bool (decide (a = b))) ∧ Below w.heap.size w w' := by
  obtain ⟨aa, ca, rfl⟩ := ha.shape
  obtain ⟨ab, cb, rfl⟩ := hb.shape
  simp only [sCells_length, maxLen] at *
  by_cases hl : a.length = b.length
  · have hln : ((a.length : Int) == (b.length : Int)) = true := by simp [hl]
    have Hl := Lib.hid hl
    clear hl
    go_enter Tryz.func33, Tryz.ntmps33
    go_wp2
    go_loopw [5, 6] (fun s i wr => ∃ (k : Nat) (sm : Bool), k ≤ a.length ∧ i = .int .i64 k ∧ s = .bool sm ∧ sm = decide (a.take k = b.take k) ∧ Below w.heap.size w wr) (fun _ i _ => a.length - (intOf i).toNat)
    case atStart => exact ⟨0, true, by omega, rfl, rfl, by simp, Below.refl _ _⟩
    case round =>
      obtain ⟨k, sm, hk, rfl, rfl, hsm, hbr⟩ := hrel
      have Hsm := Lib.hid hsm
      clear hsm
      cases sm with
      | false =>
        go_wp2
        go_ret
        refine ⟨?_, hbr⟩
        have : a ≠ b := by rintro rfl; have := Hsm.out; simp at this
        simp [this]
      | true =>
        by_cases hlt : k < a.length
        · have hltb : k < b.length := by have := Hl.out; omega
          obtain ⟨b0, o0, rfl, c0⟩ := ha.at k (by rw [sCells_length]; exact hlt)
          obtain ⟨b1, o1, rfl, c1⟩ := hb.at k (by rw [sCells_length]; exact hltb)
          simp only [sCells, List.getElem_map] at c0 c1
          have d0 := (hbr.cell (p := ⟨b0, o0 + k, none⟩) (cell_lt c0)).trans c0
          have d1 := (hbr.cell (p := ⟨b1, o1 + k, none⟩) (cell_lt c1)).trans c1
          have hs : decide (a.take (k + 1) = b.take (k + 1)) = decide (a[k] = b[k]) := by
            have h0 : a.take k = b.take k := by have := Hsm.out; simpa using this.symm
            rw [List.take_succ_eq_append_getElem hlt, List.take_succ_eq_append_getElem hltb, h0]
            exact decide_eq_decide.2 ⟨fun h => by simpa using List.append_cancel_left h, fun h => by rw [h]⟩
          obtain ⟨x, hx⟩ : ∃ x, a[k] = x := ⟨_, rfl⟩
          obtain ⟨y, hy⟩ : ∃ y, b[k] = y := ⟨_, rfl⟩
          rw [hx] at d0 hs
          rw [hy] at d1 hs
          have Hs := Lib.hid hs
          clear c0 c1 hx hy hs
          go_wp2
          refine wp_region_reads (by kernel_rfl) (by kernel_rfl) ?_
          repeat still_step
          refine wpStill_nil ?_
          go_wp2
          go_roundw
          case rel => exact ⟨k + 1, _, by omega, by go_num, rfl, by rw [Hs.out]; exact strEq x y, hbr.drew⟩
          case measure => simp [intOf]; omega
        · have hkl : k = a.length := by omega
          have heq : a = b := by
            have h0 : a.take k = b.take k := by have := Hsm.out; simpa using this.symm
            rwa [List.take_of_length_le (by omega), List.take_of_length_le (by have := Hl.out; omega)] at h0
          have Heq := Lib.hid heq
          clear heq
          go_wp2
          go_ret
          exact ⟨by simp [Heq.out], hbr⟩
  · have hln : ((a.length : Int) == (b.length : Int)) = false := by simp; omega
    have hne : a ≠ b := fun e => hl (by rw [e])
    have Hne := Lib.hid hne
    clear hl hne
    go_enter Tryz.func33, Tryz.ntmps33
    go_wp2
    go_loopw [5, 6] (fun s i wr => i = .int .i64 0 ∧ s = .bool false ∧ Below w.heap.size w wr) (fun _ _ _ => 0)
    case atStart => exact ⟨rfl, rfl, Below.refl _ _⟩
    case round =>
      obtain ⟨rfl, rfl, hbr⟩ := hrel
      go_wp2
      go_ret
      exact ⟨by simp [Hne.out], hbr⟩

end Go.Proofs.YtnagejhpdhdpfaaGreatDoor
