/-
  Package bytes: Seal, Unseal.
-/
import Derived.Outline
import Derived.Laws.CopyOwn
import Derived.Test.YtnagejhpdhdpfaaGreatDoorByt5
namespace Go.Proofs.YtnagejhpdhdpfaaGreatDoor
open Go.RowKit Go.Maps Go.MapKept

theorem make_u8 (n m : Nat) (h : n ≤ m) (hm : m ≤ 140737488355332) (w : World) : (Instr.makeSlice 22 (.int .i64 n) (.int .i64 m)).run Tryz.prog w = .ok (.slice (some ⟨w.heap.size, 0, none⟩) n m) (w.alloc (.cells (Array.replicate m (Value.int .u8 0)) 5)) := by
  obtain ⟨i0, hi, hz0, hz1, hz2⟩ := info_parts info_u8
  have hr := run_make (P := Tryz.prog) w 22 5 i0 (.int .u8 0) Tryz.underlying22 hi hz0 .i64 .i64 n m (by omega) (by omega) (by rw [hz2]; omega) (by omega)
  rw [hz1] at hr
  simp only [Int.toNat_natCast, Nat.mul_one] at hr
  rw [hr]
  have e1 : madeCells (Value.int .u8 0).cells m = Array.replicate m (Value.int .u8 0) := by
    apply Array.ext'
    rw [Array.toList_replicate]
    exact toList_madeCells_one _ _
  rw [e1]

theorem rd_byte (w : World) (x : UInt8) (z : Int) (hz : z = (x.toNat : Int)) (T : TypeId) : Rd (w.alloc (.cells #[.int .u8 z] T)) (.slice (some ⟨w.heap.size, 0, none⟩) 1 1) (bcells [x]) := by
  subst hz
  exact Rd_new _ _ _ _ (bcells [x]) _ _ rfl rfl
theorem grow_own {w wr w3 : World} {o : Obj} {v v' : Value} {n m : Nat} {xs ys : List Value} (hB : Below w.heap.size w wr) (hR : wr.ownsRow w.heap.size 5 1 v n xs) (h1 : w3.ownsRow 0 5 1 v' m ys) (h2 : (wr.alloc o).grownBy w3 v.ownBlock)
    (h3 : v'.ownBlock = v.ownBlock ∨ ∃ g, v'.ownBlock = some g ∧ (wr.alloc o).heap.size ≤ g) : w3.ownsRow w.heap.size 5 1 v' m ys ∧ Below w.heap.size w w3 := by
  have hs := hB.size
  refine ⟨ownsRow_from h1 (fun g hg => ?_), ?_⟩
  · rcases h3 with h3 | ⟨g', h3, hg'⟩
    · exact row_from hR (h3 ▸ hg)
    · rw [h3] at hg; cases hg; simp at hg'; omega
  · have hU : Upd (fun k => w.heap.size ≤ k) wr w3 := ((Upd.refl _ wr).alloc o).grown h2 (fun k hk => Or.inl (row_from hR hk))
    exact hB.trans (hU.below (fun k hk => hk) hs)
set_option maxRecDepth 100000 in
set_option maxHeartbeats 4000000 in
theorem bSeal_any (w : World) (v : Value) (l : List UInt8) (hv : Rd w v (bcells l)) (hl : l.length ≤ 1099511627776) :
    Calls Tryz.prog 38 #[v] w fun e w' => ∃ a c, e = .returned (.slice a (l ++ sumL l).length c) ∧ w'.ownsRow w.heap.size 5 1 (.slice a (l ++ sumL l).length c) (l ++ sumL l).length (bcells (l ++ sumL l)) ∧ Below w.heap.size w w' := by
  obtain ⟨a, c, rfl⟩ := hv.shape
  rw [bcells_length] at hv ⊢
  obtain ⟨r, hr⟩ : ∃ r, l ++ sumL l = r := ⟨_, rfl⟩
  rw [hr]
  have hmk := make_u8 l.length (l.length + 4) (by omega) (by omega)
  rw [show (((l.length + 4 : Nat) : Nat) : Int) = (l.length : Int) + 4 from rfl] at hmk
  have Hr := Lib.hid hr
  have Hv := Lib.hid hv
  clear hv hr
  obtain ⟨cs, hcs⟩ : ∃ cs, bcells l = cs := ⟨_, rfl⟩
  have hcl : cs.length = l.length := by rw [← hcs, bcells_length]
  have hv2 := Hv.out
  rw [hcs] at hv2
  have hc1 : ∀ u ∈ cs, u.oneCell' = true := by rw [← hcs]; exact bcells_one l
  have hn : cs.length = Nat.min l.length l.length := by rw [hcl]; simp
  have hfit : 0 + cs.length ≤ (List.replicate (l.length + 4) (Value.int .u8 0)).length := by rw [hcl]; simp
  have hpos : 0 < cs.length → (some (⟨w.heap.size, 0, none⟩ : Addr) = some ⟨w.heap.size, 0, none⟩) ∧ ∃ ad, a = some ad ∧ ∀ j u, cs[j]? = some u → (w.alloc (.cells (Array.replicate (l.length + 4) (Value.int .u8 0)) 5)).cell? (ad.add j) = some u := by
    intro h0
    rcases hv2 with ⟨_, h⟩ | ⟨b, o, n', c', he, _, hc⟩
    · rw [h] at h0; simp at h0
    · cases he
      refine ⟨rfl, ⟨b, o, none⟩, rfl, fun j u hj => ?_⟩
      rw [Addr.add_lit]
      exact (((Below.refl _ _).alloc (Nat.le_refl w.heap.size) _).cell (p := ⟨b, o + j, none⟩) (cell_lt (hc j u hj))).trans (hc j u hj)
  have hblk : (w.alloc (.cells (Array.replicate (l.length + 4) (Value.int .u8 0)) 5)).heap[w.heap.size]? = some (.cells (List.replicate (l.length + 4) (Value.int .u8 0)).toArray 5 (0, 0)) := by
    rw [alloc_at]; congr 2
  have Hcs := Lib.hid hcs
  have Hcl := Lib.hid hcl
  have H1 := Lib.hid hc1
  have Hn := Lib.hid hn
  have Hfit := Lib.hid hfit
  have Hpos := Lib.hid hpos
  have Hblk := Lib.hid hblk
  clear hcs hcl hv2 hc1 hn hfit hpos hblk
  go_enter Tryz.func38, Tryz.ntmps38
  go_wp2_with first
    | (with_reducible refine wpList_copy_splice rfl (.tmp 12) (.tmp 13) 22 22 rfl 5 Tryz.underlying22 (by kernel_rfl) (some ⟨w.heap.size, 0, none⟩) a l.length (l.length + 4) l.length c rfl rfl w.heap.size 0 (List.replicate (l.length + 4) (Value.int .u8 0)) 5 Hblk.out cs Hn.out Hpos.out Hfit.out H1.out w.heap.size w ((Below.refl _ _).alloc (Nat.le_refl _) _) (Nat.le_refl _) ?_; intro w1 HG1 hB1)
    | (go_at_call 80; refine (bCrc_any w1 _ l (Hv.out.below hB1) (by omega)).mono ?_; rintro e w2 ⟨rfl, hB2⟩)
  have hrow : w2.ownsRow w.heap.size 5 1 (.slice (some ⟨w.heap.size, 0, none⟩) l.length (l.length + 4)) l.length (bcells l) := by
    refine ⟨by rw [bcells_length, Nat.mul_one], .inr ⟨w.heap.size, l.length + 4, _, rfl, Nat.le_refl _, (hB2.block w.heap.size (blk_lt HG1.out)).trans HG1.out, by omega, by simp only [maxLen]; omega, ?_, ?_⟩⟩
    · simp only [List.size_toArray]
      rw [length_splice _ _ _ Hfit.out]
      simp
    · simp only [splice, List.take_zero, List.nil_append]
      rw [Nat.mul_one, ← Hcl.out, List.take_left, ← Hcs.out]
  have hBw : Below w.heap.size w w2 := hB1.trans (hB2.mono hB1.size)
  have hs := crcF_lt l (c := 4294967295) (by omega)
  have hs2 : crcN l < 4294967296 := by unfold crcN; omega
  have Hrow := Lib.hid hrow
  clear hrow hs HG1 hB1 hB2
  obtain ⟨s, hsd⟩ : ∃ s, crcN l = s := ⟨_, rfl⟩
  have hsum : sumL l = [UInt8.ofNat (s / 16777216), UInt8.ofNat (s / 65536), UInt8.ofNat (s / 256), UInt8.ofNat s] := by rw [← hsd]; rfl
  rw [hsd] at hs2 ⊢
  have Hsum := Lib.hid hsum
  clear hsd hsum
  go_loopw [3, 5] (fun o k wr => ∃ (j : Nat) (kk : Int) (y : List UInt8) (a' : Option Addr) (c' : Nat), j ≤ 4 ∧ kk = 24 - 8 * (j : Int) ∧ k = .int .i64 kk ∧ y = l ++ (sumL l).take j ∧ o = .slice a' y.length c' ∧ wr.ownsRow w.heap.size 5 1 (.slice a' y.length c') y.length (bcells y) ∧ Below w.heap.size w wr) (fun _ k _ => (intOf k + 8).toNat)
  case atStart => exact ⟨0, 24, l, _, _, by omega, rfl, rfl, by simp, rfl, Hrow.out, hBw⟩
  case round =>
    obtain ⟨j, kk, y, a', c', hj, hkk, rfl, hy, rfl, hR, hB⟩ := hrel
    have hyl : y.length ≤ 1099511627780 := by rw [hy]; simp; omega
    have HR := Lib.hid hR
    have Hy := Lib.hid hy
    clear hR hBw hy
    have hj5 : j = 0 ∨ j = 1 ∨ j = 2 ∨ j = 3 ∨ j = 4 := by omega
    rcases hj5 with rfl | rfl | rfl | rfl | rfl
    · obtain rfl : kk = 24 := by omega
      clear hkk
      go_wp2_with (at_builtin; refine append_u8 rfl (.tmp 21) (.tmp 26) rfl (.slice a' y.length c') (.slice (some ⟨wr.heap.size, 0, none⟩) 1 1) y [UInt8.ofNat (s / 16777216)] (y ++ [UInt8.ofNat (s / 16777216)]) rfl rfl (((Upd.refl noFp wr).alloc _).row (ownsRow_base0 HR.out) (fun _ _ h => h)) rfl (rd_byte wr _ _ (by simp <;> omega) _) (by simp; omega) ?_; intro v' w3 h1 h2 h3 _; obtain ⟨a2, c2, rfl, _, _, _⟩ := row_slice h1; have HG := Lib.hid (grow_own hB HR.out h1 h2 h3); clear h1 h2 h3)
      go_roundw
      case rel => exact ⟨1, 16, _, a2, c2, by omega, rfl, rfl, by rw [Hy.out, Hsum.out]; simp, by simp, HG.out.1, HG.out.2⟩
      case measure => simp [intOf]
    · obtain rfl : kk = 16 := by omega
      clear hkk
      go_wp2_with (at_builtin; refine append_u8 rfl (.tmp 21) (.tmp 26) rfl (.slice a' y.length c') (.slice (some ⟨wr.heap.size, 0, none⟩) 1 1) y [UInt8.ofNat (s / 65536)] (y ++ [UInt8.ofNat (s / 65536)]) rfl rfl (((Upd.refl noFp wr).alloc _).row (ownsRow_base0 HR.out) (fun _ _ h => h)) rfl (rd_byte wr _ _ (by simp <;> omega) _) (by simp; omega) ?_; intro v' w3 h1 h2 h3 _; obtain ⟨a2, c2, rfl, _, _, _⟩ := row_slice h1; have HG := Lib.hid (grow_own hB HR.out h1 h2 h3); clear h1 h2 h3)
      go_roundw
      case rel => exact ⟨2, 8, _, a2, c2, by omega, rfl, rfl, by rw [Hy.out, Hsum.out]; simp, by simp, HG.out.1, HG.out.2⟩
      case measure => simp [intOf]
    · obtain rfl : kk = 8 := by omega
      clear hkk
      go_wp2_with (at_builtin; refine append_u8 rfl (.tmp 21) (.tmp 26) rfl (.slice a' y.length c') (.slice (some ⟨wr.heap.size, 0, none⟩) 1 1) y [UInt8.ofNat (s / 256)] (y ++ [UInt8.ofNat (s / 256)]) rfl rfl (((Upd.refl noFp wr).alloc _).row (ownsRow_base0 HR.out) (fun _ _ h => h)) rfl (rd_byte wr _ _ (by simp <;> omega) _) (by simp; omega) ?_; intro v' w3 h1 h2 h3 _; obtain ⟨a2, c2, rfl, _, _, _⟩ := row_slice h1; have HG := Lib.hid (grow_own hB HR.out h1 h2 h3); clear h1 h2 h3)
      go_roundw
      case rel => exact ⟨3, 0, _, a2, c2, by omega, rfl, rfl, by rw [Hy.out, Hsum.out]; simp, by simp, HG.out.1, HG.out.2⟩
      case measure => simp [intOf]
    · obtain rfl : kk = 0 := by omega
      clear hkk
      go_wp2_with (at_builtin; refine append_u8 rfl (.tmp 21) (.tmp 26) rfl (.slice a' y.length c') (.slice (some ⟨wr.heap.size, 0, none⟩) 1 1) y [UInt8.ofNat s] (y ++ [UInt8.ofNat s]) rfl rfl (((Upd.refl noFp wr).alloc _).row (ownsRow_base0 HR.out) (fun _ _ h => h)) rfl (rd_byte wr _ _ (by simp <;> omega) _) (by simp; omega) ?_; intro v' w3 h1 h2 h3 _; obtain ⟨a2, c2, rfl, _, _, _⟩ := row_slice h1; have HG := Lib.hid (grow_own hB HR.out h1 h2 h3); clear h1 h2 h3)
      go_roundw
      case rel => exact ⟨4, -8, _, a2, c2, by omega, rfl, rfl, by rw [Hy.out, Hsum.out]; simp, by simp, HG.out.1, HG.out.2⟩
      case measure => simp [intOf]
    · obtain rfl : kk = -8 := by omega
      have hyr : y = r := by rw [Hy.out, ← Hr.out, Hsum.out]; rfl
      subst hyr
      clear hkk
      go_wp2
      go_ret
      exact ⟨a', c', rfl, HR.out, hB⟩
end Go.Proofs.YtnagejhpdhdpfaaGreatDoor
