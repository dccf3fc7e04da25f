/-
  The document's bytes (homesteadref01): behind, Seal.
-/
import Derived.Outline
import Derived.Test.YtnagejhpdhdpfaaGreatDoorRc0
import Derived.Test.YtnagejhpdhdpfaaGreatDoorRt1
namespace Go.Proofs.YtnagejhpdhdpfaaGreatDoor
open Go.RowKit Go.Maps Go.MapKept

/-- an empty row with room. -/
theorem row_made (w : World) (m : Nat) (hm : m ≤ 140737488355332) : (w.alloc (.cells (Array.replicate m (Value.int .u8 0)) 5)).ownsRow w.heap.size 5 1 (.slice (some ⟨w.heap.size, 0, none⟩) 0 m) 0 [] :=
  ⟨by simp, .inr ⟨w.heap.size, m, _, rfl, Nat.le_refl _, alloc_at _ _, Nat.zero_le _, by simp only [maxLen]; omega, by simp, by simp⟩⟩
theorem grew_of {w w' : World} {v v' : Value} {l : List UInt8} (h1 : w'.ownsRow 0 5 1 v' l.length (bcells l)) (h2 : w.grownBy w' v.ownBlock) (h3 : v'.ownBlock = v.ownBlock ∨ ∃ g, v'.ownBlock = some g ∧ w.heap.size ≤ g) : Grew w v l v' w' :=
  ⟨h1, (Upd.refl _ w).grown h2 (fun _ hk => Or.inl hk), h3⟩
set_option maxRecDepth 100000 in
set_option maxHeartbeats 4000000 in
theorem x1behind_any (w : World) (va vb : Value) (a b : List UInt8) (ha : Rd w va (bcells a)) (hb : Rd w vb (bcells b)) (hla : a.length ≤ 1099511627776) (hlb : b.length ≤ 1099511627776) :
    Calls Tryz.prog 36 #[va, vb] w fun e w' => ∃ p c, e = .returned (.slice p (a ++ b).length c) ∧ w'.ownsRow w.heap.size 5 1 (.slice p (a ++ b).length c) (a ++ b).length (bcells (a ++ b)) ∧ Below w.heap.size w w' := by
  obtain ⟨pa, ca, rfl⟩ := ha.shape
  obtain ⟨pb, cb, rfl⟩ := hb.shape
  rw [bcells_length] at ha hb ⊢
  rw [bcells_length]
  obtain ⟨r, hr⟩ : ∃ r, a ++ b = r := ⟨_, rfl⟩
  rw [hr]
  have hmk := make_u8 0 (a.length + b.length) (by omega) (by omega)
  rw [show (((a.length + b.length : Nat) : Nat) : Int) = (a.length : Int) + (b.length : Int) from rfl, show ((0 : Nat) : Int) = 0 from rfl] at hmk
  have hrow := row_made w (a.length + b.length) (by omega)
  have hB0 : Below w.heap.size w (w.alloc (.cells (Array.replicate (a.length + b.length) (Value.int .u8 0)) 5)) := (Below.refl _ _).alloc (Nat.le_refl _) _
  have Ha := Lib.hid (ha.below hB0)
  have Hb := Lib.hid hb
  have Hr := Lib.hid hr
  have Hrow := Lib.hid hrow
  clear ha hb hr hrow
  go_enter Tryz.func36, Tryz.ntmps36
  go_wp2_with first
    | (at_builtin; refine append_u8 rfl (.tmp 12) (.tmp 13) rfl (.slice (some ⟨w.heap.size, 0, none⟩) 0 (a.length + b.length)) (.slice pa a.length ca) [] a a rfl rfl (ownsRow_base0 Hrow.out) rfl Ha.out (by simp; omega) ?_; intro v1 w1 h1 h2 h3 _; obtain ⟨a1, c1, rfl, _, _, _⟩ := row_slice h1; have HG1 := Lib.hid (Grew.own hB0 Hrow.out (grew_of h1 h2 h3)); clear h1 h2 h3)
    | (at_builtin; refine append_u8 rfl (.tmp 15) (.tmp 16) rfl (.slice a1 a.length c1) (.slice pb b.length cb) a b r Hr.out rfl (ownsRow_base0 HG1.out.1) rfl (Hb.out.below (HG1.out.2)) (by omega) ?_; intro v2 w2 h1 h2 h3 _; obtain ⟨a2, c2, rfl, _, _, _⟩ := row_slice h1; have HG2 := Lib.hid (Grew.own HG1.out.2 HG1.out.1 (grew_of h1 h2 h3)); clear h1 h2 h3)
  go_ret
  exact ⟨a2, c2, rfl, HG2.out.1, HG2.out.2⟩

set_option maxRecDepth 100000 in
set_option maxHeartbeats 4000000 in
theorem x1Seal_any (w : World) (v : Value) (l : List UInt8) (hv : Rd w v (bcells l)) (hl : l.length ≤ 1099511627776) :
    Calls Tryz.prog 6 #[v] w fun e w' => ∃ a c, e = .returned (.slice a (sealL sumL l).length c) ∧ w'.ownsRow w.heap.size 5 1 (.slice a (sealL sumL l).length c) (sealL sumL l).length (bcells (sealL sumL l)) ∧ Below w.heap.size w w' := by
  obtain ⟨a, c, rfl⟩ := hv.shape
  rw [bcells_length] at hv ⊢
  unfold sealL
  have hC := x1Crc_any w _ l hv (by omega)
  obtain ⟨s, hs⟩ : ∃ s, crcN l = s := ⟨_, rfl⟩
  have hs2 : s < 4294967296 := by rw [← hs]; unfold crcN; omega
  have hsum : sumL l = [UInt8.ofNat (s / 16777216), UInt8.ofNat (s / 65536), UInt8.ofNat (s / 256), UInt8.ofNat s] := by rw [← hs]; rfl
  rw [hs] at hC
  obtain ⟨m, hm⟩ : ∃ m, sumL l = m := ⟨_, rfl⟩
  rw [hm] at hsum ⊢
  have hml : m.length = 4 := by rw [hsum]; rfl
  obtain ⟨r, hr⟩ : ∃ r, l ++ m = r := ⟨_, rfl⟩
  rw [hr]
  have Hr := Lib.hid hr
  have Hsum := Lib.hid hsum
  have Hv := Lib.hid hv
  have HC := Lib.hid hC
  have Hml := Lib.hid hml
  clear hs hsum hm hv hC hml hr
  go_enter Tryz.func6, Tryz.ntmps6
  go_wp2_with (go_at_call 35; refine HC.out.mono ?_; rintro e w1 ⟨rfl, rfl⟩)
  have hrd : Rd (w.alloc (.cells #[.int .u8 ((s : Int) / 16777216), .int .u8 ((s : Int) / 65536 % 256), .int .u8 ((s : Int) / 256 % 256), .int .u8 ((s : Int) % 256)] 5)) (.slice (some ⟨w.heap.size, 0, none⟩) 4 4) (bcells m) := by
    refine Rd_new _ _ _ _ (bcells m) _ _ ?_ (by rw [bcells_length]; exact Hml.out.symm)
    rw [Hsum.out]
    simp [bcells]
    omega
  have Hrd := Lib.hid hrd
  have hB0 : Below w.heap.size w (w.alloc (.cells #[.int .u8 ((s : Int) / 16777216), .int .u8 ((s : Int) / 65536 % 256), .int .u8 ((s : Int) / 256 % 256), .int .u8 ((s : Int) % 256)] 5)) := (Below.refl _ _).alloc (Nat.le_refl _) _
  refine (x1behind_any _ (.slice a l.length c) (.slice (some ⟨w.heap.size, 0, none⟩) 4 4) l m (Hv.out.below hB0) Hrd.out (by omega) (by rw [Hml.out]; omega)).mono ?_
  rw [Hr.out]
  clear hrd
  rintro e w1 ⟨a1, c1, rfl, hR, hB⟩
  have HR := Lib.hid hR
  clear hR
  go_wp2
  go_ret
  exact ⟨a1, c1, rfl, ownsRow_from HR.out (fun g hg => Nat.le_trans hB0.size (row_from HR.out hg)), hB0.trans (hB.mono hB0.size)⟩
end Go.Proofs.YtnagejhpdhdpfaaGreatDoor
