/-
  The document's bytes (homesteadref01): Varint, Uint, Blob, equal.
-/
import Derived.Outline
import Derived.Test.YtnagejhpdhdpfaaGreatDoorRc1
import Derived.Test.YtnagejhpdhdpfaaGreatDoorLaw0
import Derived.Test.YtnagejhpdhdpfaaGreatDoorLow0
namespace Go.Proofs.YtnagejhpdhdpfaaGreatDoor
open Go.RowKit Go.Maps Go.MapKept

/-- a full row of one byte. -/
theorem row_one (w : World) (x : UInt8) (z : Int) (hz : z = (x.toNat : Int)) : (w.alloc (.cells #[.int .u8 z] 5)).ownsRow w.heap.size 5 1 (.slice (some ⟨w.heap.size, 0, none⟩) 1 1) 1 (bcells [x]) := by
  subst hz
  exact ⟨by simp [bcells], .inr ⟨w.heap.size, 1, _, rfl, Nat.le_refl _, alloc_at _ _, Nat.le_refl _, by decide, by simp, by simp [bcells]⟩⟩
set_option maxRecDepth 100000 in
set_option maxHeartbeats 4000000 in
theorem x1Varint_any (n : Nat) : ∀ w : World, n < 18446744073709551616 →
    Calls Tryz.prog 81 #[.int .u64 n] w fun e w' => ∃ a c, e = .returned (.slice a (vint n).length c) ∧ w'.ownsRow w.heap.size 5 1 (.slice a (vint n).length c) (vint n).length (bcells (vint n)) ∧ Below w.heap.size w w' := by
  induction n using Nat.strongRecOn with
  | _ n ih =>
    intro w hn
    by_cases h : n < 128
    · rw [vint_small h]
      have hrow := row_one w (UInt8.ofNat n) n (by simp; omega)
      have Hrow := Lib.hid hrow
      have h' : (n : Int) < 128 := by omega
      clear hrow ih
      go_enter Tryz.func81, Tryz.ntmps81
      go_wp2
      go_ret
      exact ⟨_, _, rfl, Hrow.out, (Below.refl _ _).alloc (Nat.le_refl _) _⟩
    · have h' : (128 : Int) ≤ (n : Int) := by omega
      have hb := vint_big h
      have hI := ih (n / 128) (by omega)
      have hdiv : (n : Int) / 128 = ((n / 128 : Nat) : Int) := by omega
      have Hdiv := Lib.hid hdiv
      have hlen : (vint (n / 128)).length ≤ 10 := vint_len (by omega) (Nat.lt_of_le_of_lt (by omega : n / 128 ≤ 18446744073709551616) (by decide))
      obtain ⟨m, hm⟩ : ∃ m, vint (n / 128) = m := ⟨_, rfl⟩
      rw [hm] at hI hb hlen
      obtain ⟨r, hr⟩ : ∃ r, vint n = r := ⟨_, rfl⟩
      rw [hr] at hb ⊢
      have HI := Lib.hid (fun w' => hI w' (by omega))
      have hrr : [UInt8.ofNat (128 + n % 128)] ++ m = r := by rw [hb]; rfl
      have Hr := Lib.hid hrr
      have hrow := row_one w (UInt8.ofNat (128 + n % 128)) (128 + n % 128) (by simp; omega)
      have Hrow := Lib.hid hrow
      clear hI hm hr hb ih hrow hrr hdiv
      go_enter Tryz.func81, Tryz.ntmps81
      go_wp2_with first
        | (go_at_call 81; (try rw [Hdiv.out]); refine (HI.out _).mono ?_; rintro e w1 ⟨a1, c1, rfl, hR1, hB1⟩; have HR1 := Lib.hid hR1; clear hR1)
        | (at_builtin; refine append_u8 rfl (.tmp 12) (.tmp 15) rfl (.slice (some ⟨w.heap.size, 0, none⟩) 1 1) (.slice a1 m.length c1) [UInt8.ofNat (128 + n % 128)] m r Hr.out rfl (ownsRow_base0 ((Upd.ofBelow (fp := noFp) hB1).row Hrow.out (fun _ _ h => h))) rfl (Rd.ofOwns HR1.out) (by simp; omega) ?_; intro v2 w2 g1 g2 g3 _; obtain ⟨a2, c2, rfl, _, _, _⟩ := row_slice g1; have HG2 := Lib.hid (Grew.own ((Below.refl _ _).alloc (Nat.le_refl _) _ |>.trans (hB1.mono (by simp))) ((Upd.ofBelow (fp := noFp) hB1).row Hrow.out (fun _ _ h => h)) (grew_of g1 g2 g3)); clear g1 g2 g3)
      go_ret
      exact ⟨a2, c2, rfl, HG2.out.1, HG2.out.2⟩
set_option maxRecDepth 100000 in
set_option maxHeartbeats 4000000 in
theorem x1Uint_any (w : World) (v : Value) (l : List UInt8) (n : Nat) (hv : Rd w v (bcells l)) (hl : l.length ≤ 1099511627776) (hn : n < 18446744073709551616) :
    Calls Tryz.prog 41 #[v, .int .u64 n] w fun e w' => ∃ a c, e = .returned (.slice a (l ++ vint n).length c) ∧ w'.ownsRow w.heap.size 5 1 (.slice a (l ++ vint n).length c) (l ++ vint n).length (bcells (l ++ vint n)) ∧ Below w.heap.size w w' := by
  obtain ⟨a, c, rfl⟩ := hv.shape
  rw [bcells_length] at hv ⊢
  have hI := x1Varint_any n w hn
  have hlen : (vint n).length ≤ 10 := vint_len (by omega) (Nat.lt_trans hn (by decide))
  obtain ⟨m, hm⟩ : ∃ m, vint n = m := ⟨_, rfl⟩
  rw [hm] at hI hlen ⊢
  obtain ⟨r, hr⟩ : ∃ r, l ++ m = r := ⟨_, rfl⟩
  rw [hr]
  have HI := Lib.hid hI
  have Hr := Lib.hid hr
  have Hv := Lib.hid hv
  clear hI hm hr hv
  go_enter Tryz.func41, Tryz.ntmps41
  go_wp2_with first
    | (go_at_call 81; refine HI.out.mono ?_; rintro e w1 ⟨a1, c1, rfl, hR1, hB1⟩; have HR1 := Lib.hid hR1; clear hR1)
    | (go_at_call 36; refine (x1behind_any _ (.slice a l.length c) (.slice a1 m.length c1) l m (Hv.out.below hB1) (Rd.ofOwns HR1.out) hl (by omega)).mono ?_; rw [Hr.out]; rintro e w2 ⟨a2, c2, rfl, hR2, hB2⟩; have HR2 := Lib.hid hR2; clear hR2)
  go_ret
  exact ⟨a2, c2, rfl, ownsRow_from HR2.out (fun g hg => Nat.le_trans hB1.size (row_from HR2.out hg)), hB1.trans (hB2.mono hB1.size)⟩
set_option maxRecDepth 100000 in
set_option maxHeartbeats 4000000 in
theorem x1Blob_any (w : World) (v vb : Value) (l b : List UInt8) (hv : Rd w v (bcells l)) (hvb : Rd w vb (bcells b)) (hl : l.length ≤ 1000000000) (hb : b.length ≤ 1000000000) :
    Calls Tryz.prog 42 #[v, vb] w fun e w' => ∃ a c, e = .returned (.slice a (l ++ (vint b.length ++ b)).length c) ∧ w'.ownsRow w.heap.size 5 1 (.slice a (l ++ (vint b.length ++ b)).length c) (l ++ (vint b.length ++ b)).length (bcells (l ++ (vint b.length ++ b))) ∧ Below w.heap.size w w' := by
  obtain ⟨a, c, rfl⟩ := hv.shape
  obtain ⟨ab, cb, rfl⟩ := hvb.shape
  rw [bcells_length] at hv hvb ⊢
  rw [bcells_length]
  have hI := x1Uint_any w (.slice a l.length c) l b.length hv (by omega) (by omega)
  have hlen : (vint b.length).length ≤ 10 := vint_len (by omega) (Nat.lt_of_le_of_lt hb (by decide))
  obtain ⟨r, hr⟩ : ∃ r, l ++ (vint b.length ++ b) = r := ⟨_, rfl⟩
  rw [hr]
  obtain ⟨m, hm⟩ : ∃ m, l ++ vint b.length = m := ⟨_, rfl⟩
  have hmr : m ++ b = r := by rw [← hm, ← hr, List.append_assoc]
  have hml : m.length ≤ 1000000010 := by rw [← hm, List.length_append]; omega
  rw [hm] at hI
  have HI := Lib.hid hI
  have Hmr := Lib.hid hmr
  have Hvb := Lib.hid hvb
  clear hI hm hr hv hvb hmr hlen
  go_enter Tryz.func42, Tryz.ntmps42
  go_wp2_with first
    | (go_at_call 41; refine HI.out.mono ?_; rintro e w1 ⟨a1, c1, rfl, hR1, hB1⟩; have HR1 := Lib.hid hR1; clear hR1)
    | (go_at_call 36; refine (x1behind_any _ (.slice a1 m.length c1) (.slice ab b.length cb) m b (Rd.ofOwns HR1.out) (Hvb.out.below hB1) (by omega) (by omega)).mono ?_; rw [Hmr.out]; rintro e w2 ⟨a2, c2, rfl, hR2, hB2⟩; have HR2 := Lib.hid hR2; clear hR2)
  go_ret
  exact ⟨a2, c2, rfl, ownsRow_from HR2.out (fun g hg => Nat.le_trans hB1.size (row_from HR2.out hg)), hB1.trans (hB2.mono hB1.size)⟩
set_option maxRecDepth 100000 in
set_option maxHeartbeats 4000000 in
theorem x1equal_any (w : World) (va vb : Value) (a b : List UInt8) (ha : Rd w va (bcells a)) (hb : Rd w vb (bcells b)) :
    Calls Tryz.prog 87 #[va, vb] w fun e w' => e = .returned (.bool (decide (a = b))) ∧ w = w' := by
  obtain ⟨pa, ca, rfl⟩ := ha.shape
  obtain ⟨pb, cb, rfl⟩ := hb.shape
  rw [bcells_length] at ha hb
  rw [bcells_length, bcells_length]
  have h1 := run_bytes_str (P := Tryz.prog) ha Tryz.underlying22 Tryz.underlying5 Tryz.underlying9
  have h2 := run_bytes_str (P := Tryz.prog) hb Tryz.underlying22 Tryz.underlying5 Tryz.underlying9
  have hd : (a == b) = decide (a = b) := by rw [Bool.eq_iff_iff]; simp
  clear ha hb
  go_enter Tryz.func87, Tryz.ntmps87
  go_wp2
  go_ret
  exact ⟨by rw [← hd]; rfl, rfl⟩
end Go.Proofs.YtnagejhpdhdpfaaGreatDoor
