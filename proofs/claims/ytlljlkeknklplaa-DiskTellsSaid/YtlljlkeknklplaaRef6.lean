/-
  The document's disk: first, step.
-/
import Derived.Outline
import Derived.Deep.OwnRows
import Derived.Test.YtlljlkeknklplaaRef5
namespace Go.Proofs.Ytlljlkeknklplaa
open Go.RowKit Go.Maps Go.MapKept
variable {X : Nat → Prop}

theorem set_row {cs : Array Value} {xs : List Value} {k : Nat} {v : Value} (hk : k < cs.size) (hx : cs.toList.take k = xs) : (cs.setIfInBounds k v).toList.take (k + 1) = xs ++ [v] := by
  subst hx
  have hk' : k < (cs.setIfInBounds k v).toList.length := by simpa using hk
  rw [List.take_succ_eq_append_getElem hk']
  simp
  apply List.ext_getElem?
  intro i
  simp only [List.getElem?_take]
  split
  · rw [List.getElem?_set_ne (by omega)]
  · rfl

set_option maxRecDepth 100000 in
set_option maxHeartbeats 2000000 in
theorem refFirst_new (w : World) (s : ByteArray) (vb : Value) (b : List UInt8) (n : Nat) (k : Int) (hrd : Rd w vb (bcells b)) (hn : n ≤ b.length) (hb : b.length ≤ 140737488355328) :
    Calls Try.prog 61 #[.string s, vb, .int .i64 n, .int .i64 k] w fun e w' => e = .returned (.agg #[.string s, .slice (some ⟨w.heap.size + 1, 0, none⟩) n n, .int .i64 k]) ∧ Rd w' (.slice (some ⟨w.heap.size + 1, 0, none⟩) n n) (bcells (b.take n)) ∧ Below w.heap.size w w' ∧ w.heap.size + 1 < w'.heap.size := by
  obtain ⟨av, cv, rfl⟩ := hrd.shape
  rw [bcells_length]
  have hmk := run_make_row' (P := Try.prog) 29 5 (.int .u8 0) 1 Try.underlying29 info_u8 rfl .i64 .i64 n (by omega) (by omega)
  go_enter Try.func61, Try.ntmps61
  go_wp2_with fail
  have hm := alloc_at (w.alloc (.cells #[.string ⟨#[]⟩, .slice none 0 0, .int .i64 0] 107)) (.cells (madeCells #[.int .u8 0] n) 5)
  have hz := alloc_old (alloc_at w (.cells #[.string ⟨#[]⟩, .slice none 0 0, .int .i64 0] 107)) (.cells (madeCells #[.int .u8 0] n) 5)
  have hbl : Below w.heap.size w ((w.alloc (.cells #[.string ⟨#[]⟩, .slice none 0 0, .int .i64 0] 107)).alloc (.cells (madeCells #[.int .u8 0] n) 5)) := ((Below.refl _ _).alloc (Nat.le_refl _) _).alloc (by simp) _
  have hsz : (w.alloc (.cells #[.string ⟨#[]⟩, .slice none 0 0, .int .i64 0] 107)).heap.size = w.heap.size + 1 := by simp
  rw [hsz] at hm
  clear hsz
  obtain ⟨W, hW⟩ : ∃ W, (w.alloc (.cells #[.string ⟨#[]⟩, .slice none 0 0, .int .i64 0] 107)).alloc (.cells (madeCells #[.int .u8 0] n) 5) = W := ⟨_, rfl⟩
  rw [hW] at hm hz hbl ⊢
  clear hW hmk
  go_loopw [10] (fun i wr => ∃ (j : Nat) (cs : Array Value), j ≤ n ∧ i = .int .i64 j ∧ cs.size = n ∧ cs.toList.take j = bcells (b.take j) ∧ wr.heap[w.heap.size + 1]? = some (.cells cs 5) ∧ wr.heap[w.heap.size]? = some (.cells #[.string ⟨#[]⟩, .slice none 0 0, .int .i64 0] 107) ∧ Below w.heap.size w wr) (fun i _ => n - (intOf i).toNat)
  case atStart => exact ⟨0, _, by omega, rfl, by simp [madeCells], by simp [bcells], hm, hz, hbl⟩
  case round =>
    obtain ⟨j, cs, hj, rfl, hcs, htk, hB, hF, hbr⟩ := hrel
    clear hm hz hbl
    have Hcs := Lib.hid hcs
    have Htk := Lib.hid htk
    clear hcs htk
    by_cases hlt : j < n
    · obtain ⟨bb, ob, rfl, cb⟩ := hrd.at j (by rw [bcells_length]; omega)
      have cb' := (hbr.cell (p := ⟨bb, ob + j, none⟩) (cell_lt cb)).trans cb
      simp only [bcells, List.getElem_map] at cb'
      have hbj : b.take (j + 1) = b.take j ++ [b[j]] := List.take_succ_eq_append_getElem (by omega)
      obtain ⟨x, hx⟩ : ∃ x, b[j] = x := ⟨_, rfl⟩
      rw [hx] at cb' hbj
      have cc := (cell_at hB j).trans (Array.getElem?_eq_getElem (by rw [Hcs.out]; omega))
      have fz : wr.frozen? ⟨w.heap.size + 1, j, none⟩ = false := by simp [World.frozen?, hB]
      have Hbj := Lib.hid hbj
      have Hset := Lib.hid (set_row (v := .int .u8 x.toNat) (by rw [Hcs.out]; exact hlt) Htk.out)
      clear hbj hx cb
      go_wp2
      go_roundw
      case rel =>
        refine ⟨j + 1, cs.setIfInBounds j (.int .u8 x.toNat), by omega, by go_num, by rw [Array.size_setIfInBounds]; exact Hcs.out, ?_, setCell_at hB j _, setCell_old hF (by omega) j _, hbr.setCell (p := ⟨w.heap.size + 1, j, none⟩) (by simp) _⟩
        rw [Hset.out, Hbj.out]
        simp [bcells]
      case measure => simp [intOf]; omega
    · obtain rfl : j = n := by omega
      obtain ⟨f0, f1, f2, f3, f4, f5⟩ := cells3 hF
      go_wp2
      have hB' := setCell_old (setCell_old (setCell_old hB (by omega : w.heap.size + 1 ≠ w.heap.size) 0 (.string s)) (by omega : w.heap.size + 1 ≠ w.heap.size) 1 (.slice (some ⟨w.heap.size + 1, 0, none⟩) j j)) (by omega : w.heap.size + 1 ≠ w.heap.size) 2 (.int .i64 k)
      have hF' := setCell_at (setCell_at (setCell_at hF 0 (.string s)) 1 (.slice (some ⟨w.heap.size + 1, 0, none⟩) j j)) 2 (.int .i64 k)
      obtain ⟨g0, g1, g2, _⟩ := cells3 hF'
      refine bodyPost_ret (v := .agg #[.string s, .slice (some ⟨w.heap.size + 1, 0, none⟩) j j, .int .i64 k]) (by simp [results, Try.results61, go_sem, g0, g1, g2]) rfl ⟨rfl, ?_, ?_, ?_⟩
      · refine Or.inr ⟨_, _, _, _, rfl, by rw [bcells_length, List.length_take]; omega, fun i u hu => ?_⟩
        rw [cell_at hB', Nat.zero_add, ← Array.getElem?_toList]
        rw [← Htk.out, List.getElem?_take] at hu
        split at hu
        · exact hu
        · cases hu
      · exact ((hbr.setCell (p := ⟨w.heap.size, 0, none⟩) (by simp) _).setCell (p := ⟨w.heap.size, 1, none⟩) (by simp) _).setCell (p := ⟨w.heap.size, 2, none⟩) (by simp) _
      · exact blk_lt hB'
theorem refFirst_any (w : World) (s : ByteArray) (vb : Value) (b : List UInt8) (n : Nat) (k : Int) (hrd : Rd w vb (bcells b)) (hn : n ≤ b.length) (hb : b.length ≤ 140737488355328) :
    Calls Try.prog 61 #[.string s, vb, .int .i64 n, .int .i64 k] w fun e w' => ∃ v', e = .returned (.agg #[.string s, v', .int .i64 k]) ∧ Rd w' v' (bcells (b.take n)) ∧ Below w.heap.size w w' :=
  (refFirst_new w s vb b n k hrd hn hb).mono fun _ _ h => ⟨_, h.1, h.2.1, h.2.2.1⟩

theorem refFirst_at (w : World) (s : ByteArray) (vb : Value) (b : List UInt8) (n k : Nat) (hrd : Rd w vb (bcells b)) (hn : n ≤ b.length) (hb : b.length ≤ 140737488355328) :
    Calls Try.prog 61 #[.string s, vb, .int .i64 n, .int .i64 k] w fun e w' => ∃ a8, e = .returned (.agg #[.string s, .slice (some ⟨a8, 0, none⟩) n n, .int .i64 k]) ∧ Rd w' (.slice (some ⟨a8, 0, none⟩) n n) (bcells (b.take n)) ∧ Below w.heap.size w w' ∧ w.heap.size ≤ a8 ∧ a8 < w'.heap.size :=
  (refFirst_new w s vb b n k hrd hn hb).mono fun _ _ h => ⟨_, h.1, h.2.1, h.2.2.1, by omega, h.2.2.2⟩

def stepVal (a : Option Addr) (n c : Nat) (d : ADisk) (a' : Option Addr) (n' c' : Nat) (d' : ADisk) : Value :=
  if d.left = 0 then .tuple #[refVal a n c d.fail, .int .i64 15] else .tuple #[refVal a' n' c' { d' with left := if 0 < d.left then d.left - 1 else d'.left }, .int .i64 0]

set_option maxRecDepth 100000 in
set_option maxHeartbeats 2000000 in
theorem refStep_any (w : World) (a : Option Addr) (n c : Nat) (d : ADisk) (a' : Option Addr) (n' c' : Nat) (d' : ADisk) (h1 : d.left ≤ 9223372036854775807) :
    Calls Try.prog 59 #[refVal a n c d, refVal a' n' c' d'] w fun e w' => e = .returned (stepVal a n c d a' n' c' d') ∧ Below w.heap.size w w' := by
  obtain ⟨most, left, down, fs⟩ := d
  obtain ⟨most', left', down', fs'⟩ := d'
  unfold stepVal
  simp only at h1 ⊢
  by_cases h0 : left = 0
  · subst h0
    rw [if_pos rfl]
    unfold refVal
    simp only [ADisk.fail]
    go_enter Try.func59, Try.ntmps59
    go_wp2
    exact bodyPost_ret (v := .tuple #[.agg #[.int .i64 most, .slice a n c, .int .i64 (-1), .bool true], .int .i64 15]) (by simp [results, Try.results59, go_sem]) rfl ⟨rfl, (((Below.refl _ _).alloc (Nat.le_refl _) _).alloc (by simp) _).alloc (by simp; omega) _⟩
  · rw [if_neg h0]
    have hq : (left == 0) = false := by simpa using h0
    unfold refVal
    simp only
    by_cases h2 : 0 < left
    · rw [if_pos h2]
      go_enter Try.func59, Try.ntmps59
      go_wp2
      exact bodyPost_ret (v := .tuple #[.agg #[.int .i64 most', .slice a' n' c', .int .i64 (left - 1), .bool down'], .int .i64 0]) (by simp [results, Try.results59, go_sem]) rfl ⟨rfl, (((Below.refl _ _).alloc (Nat.le_refl _) _).alloc (by simp) _).alloc (by simp; omega) _⟩
    · rw [if_neg h2]
      go_enter Try.func59, Try.ntmps59
      go_wp2
      exact bodyPost_ret (v := .tuple #[.agg #[.int .i64 most', .slice a' n' c', .int .i64 left', .bool down'], .int .i64 0]) (by simp [results, Try.results59, go_sem]) rfl ⟨rfl, (((Below.refl _ _).alloc (Nat.le_refl _) _).alloc (by simp) _).alloc (by simp; omega) _⟩
end Go.Proofs.Ytlljlkeknklplaa
