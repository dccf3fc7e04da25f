/-
  Package bytes: the sum (Crc), Seal, Unseal.
-/
import Derived.Outline
import Derived.Laws.BitsAllLaws
import Derived.Test.YtnagejhpdhdpfaaGreatDoorByt4
namespace Go.Proofs.YtnagejhpdhdpfaaGreatDoor
open Go.RowKit Go.Maps Go.MapKept

theorem tab_cells : (u32c tabL).toArray = #[.int .u32 0, .int .u32 498536548, .int .u32 997073096, .int .u32 651767980, .int .u32 1994146192, .int .u32 1802195444, .int .u32 1303535960, .int .u32 1342533948, .int .u32 3988292384, .int .u32 4027552580, .int .u32 3604390888, .int .u32 3412177804, .int .u32 2607071920, .int .u32 2262029012, .int .u32 2685067896, .int .u32 3183342108] := by
  rw [tabL_val]; rfl

theorem ones_xor (s : Nat) (hs : s < 4294967296) : 4294967295 ^^^ s = 4294967295 - s := by
  have h := congrArg BitVec.toNat (BitVec.allOnes_xor (x := BitVec.ofNat 32 s))
  simp only [BitVec.toNat_xor, BitVec.toNat_allOnes, BitVec.toNat_ofNat, BitVec.toNat_not] at h
  rw [Nat.mod_eq_of_lt (by omega)] at h
  exact h
theorem not_u32 (s : Nat) (hs : s < 4294967296) : bits .xor .u32 IntKind.u32.max (s : Int) = ((4294967295 - s : Nat) : Int) := by
  rw [show IntKind.u32.max = ((4294967295 : Nat) : Int) by decide, u32_xor_nat _ _ (by omega) hs, ones_xor s hs]
set_option maxRecDepth 100000 in
set_option maxHeartbeats 4000000 in
theorem bCrc_any (w : World) (v : Value) (l : List UInt8) (hv : Rd w v (bcells l)) (hl : l.length ≤ 140737488355328) :
    Calls Tryz.prog 80 #[v] w fun e w' => e = .returned (.int .u32 (crcN l)) ∧ Below w.heap.size w w' := by
  obtain ⟨a, c, rfl⟩ := hv.shape
  rw [bcells_length] at hv ⊢
  have Hv := Lib.hid hv
  clear hv
  have hS := bSteps_any w
  rw [tab_cells] at hS
  go_enter Tryz.func80, Tryz.ntmps80
  go_wp2_with (go_at_call 96; refine hS.mono ?_; rintro e w1 ⟨rfl, hB⟩)
  clear hS
  have hcell : ∀ j, j < 16 → (w1.alloc (Obj.cells #[.int .u32 0, .int .u32 498536548, .int .u32 997073096, .int .u32 651767980, .int .u32 1994146192, .int .u32 1802195444, .int .u32 1303535960, .int .u32 1342533948, .int .u32 3988292384, .int .u32 4027552580, .int .u32 3604390888, .int .u32 3412177804, .int .u32 2607071920, .int .u32 2262029012, .int .u32 2685067896, .int .u32 3183342108] 124)).cell? ⟨w1.heap.size, j, none⟩ = some (.int .u32 (tabL.getD j 0 : Nat)) := by
    intro j hj
    rw [cell_at (alloc_at _ _), tabL_val]
    have : j = 0 ∨ j = 1 ∨ j = 2 ∨ j = 3 ∨ j = 4 ∨ j = 5 ∨ j = 6 ∨ j = 7 ∨ j = 8 ∨ j = 9 ∨ j = 10 ∨ j = 11 ∨ j = 12 ∨ j = 13 ∨ j = 14 ∨ j = 15 := by omega
    rcases this with rfl | rfl | rfl | rfl | rfl | rfl | rfl | rfl | rfl | rfl | rfl | rfl | rfl | rfl | rfl | rfl <;> rfl
  have hrd := Hv.out.below (hB.trans ((Below.refl _ _).alloc hB.size (Obj.cells #[.int .u32 0, .int .u32 498536548, .int .u32 997073096, .int .u32 651767980, .int .u32 1994146192, .int .u32 1802195444, .int .u32 1303535960, .int .u32 1342533948, .int .u32 3988292384, .int .u32 4027552580, .int .u32 3604390888, .int .u32 3412177804, .int .u32 2607071920, .int .u32 2262029012, .int .u32 2685067896, .int .u32 3183342108] 124)))
  have hB1 : Below w.heap.size w (w1.alloc (Obj.cells #[.int .u32 0, .int .u32 498536548, .int .u32 997073096, .int .u32 651767980, .int .u32 1994146192, .int .u32 1802195444, .int .u32 1303535960, .int .u32 1342533948, .int .u32 3988292384, .int .u32 4027552580, .int .u32 3604390888, .int .u32 3412177804, .int .u32 2607071920, .int .u32 2262029012, .int .u32 2685067896, .int .u32 3183342108] 124)) := hB.trans ((Below.refl _ _).alloc hB.size _)
  generalize hW : w1.alloc (Obj.cells #[.int .u32 0, .int .u32 498536548, .int .u32 997073096, .int .u32 651767980, .int .u32 1994146192, .int .u32 1802195444, .int .u32 1303535960, .int .u32 1342533948, .int .u32 3988292384, .int .u32 4027552580, .int .u32 3604390888, .int .u32 3412177804, .int .u32 2607071920, .int .u32 2262029012, .int .u32 2685067896, .int .u32 3183342108] 124) = W at hcell hrd hB1 ⊢
  clear hW
  have Hcell := Lib.hid hcell
  have Hrd := Lib.hid hrd
  clear hcell hrd
  go_loop [4, 10] (fun x i => ∃ k s : Nat, k ≤ l.length ∧ i = .int .i64 k ∧ x = .int .u32 s ∧ s < 4294967296 ∧ s = crcF 4294967295 (l.take k)) (fun _ i => l.length - (intOf i).toNat)
  case atStart => exact ⟨0, 4294967295, by omega, rfl, rfl, by omega, rfl⟩
  case round =>
    obtain ⟨k, s, hk, rfl, rfl, hs, hse⟩ := hrel
    have Hse := Lib.hid hse
    clear hse
    by_cases hlt : k < l.length
    · obtain ⟨b, o, rfl, hc⟩ : ∃ b o, a = some ⟨b, o, none⟩ ∧ W.cell? ⟨b, o + k, none⟩ = some (.int .u8 (l[k].toNat : Int)) := by
        rcases Hrd.out with ⟨_, h0⟩ | ⟨b, o, n', cc, he, _, hc⟩
        · simp [bcells] at h0; subst h0; simp at hlt
        · cases he
          exact ⟨b, o, rfl, hc k _ (bcells_at hlt)⟩
      have hnext : crcF 4294967295 (l.take (k + 1)) = crc1 s l[k] := by
        rw [List.take_succ_eq_append_getElem hlt, crcF_snoc, ← Hse.out]
      obtain ⟨x, hx⟩ : ∃ x, l[k] = x := ⟨_, rfl⟩
      rw [hx] at hc hnext
      have Hnext := Lib.hid hnext
      clear hx hnext
      have hxl := x.toNat_lt
      have h8 := x8_lt x hs
      have h8b : bits .xor .u32 (s : Int) (x.toNat : Int) = ((s ^^^ x.toNat : Nat) : Int) := u32_xor_nat _ _ hs (by omega)
      have hn1 : bits .xor .u32 (((s ^^^ x.toNat : Nat) : Int) / 16) ((tabL.getD ((s ^^^ x.toNat) % 16) 0 : Nat) : Int) = ((nib (s ^^^ x.toNat) : Nat) : Int) := by
        rw [show (((s ^^^ x.toNat : Nat) : Int) / 16) = (((s ^^^ x.toNat) / 16 : Nat) : Int) by omega, u32_xor_nat _ _ (by omega) (tabL_lt _)]; rfl
      have hc1 := Hcell.out ((s ^^^ x.toNat) % 16) (by omega)
      have hl1 := nib_lt h8
      have hn2 : bits .xor .u32 (((nib (s ^^^ x.toNat) : Nat) : Int) / 16) ((tabL.getD ((nib (s ^^^ x.toNat)) % 16) 0 : Nat) : Int) = ((crc1 s x : Nat) : Int) := by
        rw [show (((nib (s ^^^ x.toNat) : Nat) : Int) / 16) = (((nib (s ^^^ x.toNat)) / 16 : Nat) : Int) by omega, u32_xor_nat _ _ (by omega) (tabL_lt _)]; rfl
      have hc2 := Hcell.out ((nib (s ^^^ x.toNat)) % 16) (by omega)
      have hl2 := crc1_lt x hs
      have t1 := tabL_lt ((s ^^^ x.toNat) % 16)
      have t2 := tabL_lt ((nib (s ^^^ x.toNat)) % 16)
      generalize crc1 s x = S at hn2 hl2 Hnext
      generalize tabL.getD ((nib (s ^^^ x.toNat)) % 16) 0 = T2 at hn2 hc2 t2
      generalize tabL.getD ((s ^^^ x.toNat) % 16) 0 = T1 at hn1 hc1 t1
      generalize nib (s ^^^ x.toNat) = N at hn1 hn2 hc2 hl1
      generalize s ^^^ x.toNat = M at hn1 hc1 h8b h8
      go_wp2
      go_round
      case rel => exact ⟨k + 1, S, by omega, by go_num, rfl, hl2, Hnext.out.symm⟩
      case measure => simp [intOf]; omega
    · have hall : crcF 4294967295 (l.take k) = crcF 4294967295 l := by rw [List.take_of_length_le (by omega)]
      have hfin : ((4294967295 - s : Nat) : Int) = (crcN l : Nat) := by rw [Hse.out, hall]; rfl
      have Hfin := Lib.hid hfin
      clear hall hfin
      go_wp2
      go_ret
      exact ⟨by rw [← Hfin.out, ← not_u32 s hs]; rfl, hB1⟩
end Go.Proofs.YtnagejhpdhdpfaaGreatDoor
