/-
  Two disks held against each other: SameBytes, SameDisk (printed by wip/gen/gen_same.py).
-/
import Derived.Outline
import Derived.Deep.RegionHeld3
import Derived.Test.YtlljlkeknklplaaRef9
import Derived.Test.YtlljlkeknklplaaLaw0
namespace Go.Proofs.Ytlljlkeknklplaa
open Go.RowKit Go.Maps Go.MapKept
variable {X : Nat → Prop}
set_option linter.unusedSimpArgs false

set_option maxRecDepth 100000 in
set_option maxHeartbeats 2000000 in
theorem SameBytes_any (w : World) (va vb : Value) (x y : List UInt8) (ha : Rd w va (bcells x)) (hb : Rd w vb (bcells y)) :
    Calls Try.prog 64 #[va, vb] w fun e w' => e = .returned (.bool (decide (x = y))) ∧ w = w' := by
  have h1 := run_bytes_str (P := Try.prog) ha Try.underlying29 Try.underlying5 Try.underlying9
  have h2 := run_bytes_str (P := Try.prog) hb Try.underlying29 Try.underlying5 Try.underlying9
  have hfin : ((⟨x.toArray⟩ : ByteArray).toList == (⟨y.toArray⟩ : ByteArray).toList) = decide (x = y) := by
    rw [ByteArray.toList_eq, ByteArray.toList_eq]
    by_cases h : x = y <;> simp [h]
  obtain ⟨S1, hS1⟩ : ∃ S1 : ByteArray, (⟨x.toArray⟩ : ByteArray) = S1 := ⟨_, rfl⟩
  obtain ⟨S2, hS2⟩ : ∃ S2 : ByteArray, (⟨y.toArray⟩ : ByteArray) = S2 := ⟨_, rfl⟩
  rw [hS1] at h1 hfin
  rw [hS2] at h2 hfin
  have Hfin := Lib.hid hfin
  clear hS1 hS2 hfin
  obtain ⟨a1, c1, rfl⟩ := ha.shape
  obtain ⟨a2, c2, rfl⟩ := hb.shape
  go_enter Try.func64, Try.ntmps64
  go_wp2
  go_ret
  exact ⟨by rw [← Hfin.out]; rfl, rfl⟩
theorem SameBytes_eq (w : World) (va vb : Value) (x : List UInt8) (ha : Rd w va (bcells x)) (hb : Rd w vb (bcells x)) :
    Calls Try.prog 64 #[va, vb] w fun e w' => e = .returned (.bool true) ∧ w = w' := by
  have := SameBytes_any w va vb x x ha hb
  rwa [decide_eq_true (rfl : x = x)] at this

set_option maxRecDepth 100000 in
set_option maxHeartbeats 8000000 in
theorem SameDisk_any {ex : Nat → Prop} (w : World) (p m : Nat) (a : Option Addr) (n c : Nat) (d : ADisk) (h : DiskAt ex w p m d) (hr : RefAt X w a n c d) :
    Calls Try.prog 34 #[.pointer (some ⟨p, 0, none⟩), refVal a n c d] w fun e w' => e = .returned (.bool true) ∧ Below w.heap.size w w' := by
  have hw := h.wf
  have hcnt := hw.count
  have hnl : d.names.length = d.fs.length := by simp [ADisk.names]
  have hlen := hr.len
  have hUs := fun (w : World) (h : RefAt X w a n c d) => refUsed_any w a n c d h hw
  unfold refVal at hUs ⊢
  have hD := alloc_at w (.cells #[.int .i64 d.most, .slice a n c, .int .i64 d.left, .bool d.down] 43)
  have hbW : Below w.heap.size w (w.alloc (.cells #[.int .i64 d.most, .slice a n c, .int .i64 d.left, .bool d.down] 43)) := (Below.refl _ _).alloc (Nat.le_refl _) _
  obtain ⟨W, hW⟩ : ∃ W, w.alloc (.cells #[.int .i64 d.most, .slice a n c, .int .i64 d.left, .bool d.down] 43) = W := ⟨_, rfl⟩
  rw [hW] at hD hbW
  have HW := Lib.hid hW
  clear hW
  have hDW := h.below hbW
  have hrW := hr.below hbW
  have Hlen := Lib.hid hlen
  have Hnl := Lib.hid hnl
  have hnn : ((d.names.length : Int) == (n : Int)) = true := by rw [hnl, hlen]; simp
  clear hlen hnl
  go_enter Try.func34, Try.ntmps34
  go_wp2_with fail
  rw [HW.out]
  refine (List_at hDW).mono ?_
  rintro e w1 ⟨la, lc, rfl, hrow, _, hb1⟩
  have hD1 := (hb1.block _ (blk_lt hD)).trans hD
  have hbw1 := hbW.trans (hb1.mono hbW.size)
  have hd1 := hDW.below hb1
  have hr1 := hrW.below hb1
  have hrn : Rd w1 (.slice la d.names.length lc) (d.names.map Value.string) := Rd.ofOwns hrow
  have hd1d := hd1.below ((Below.refl w1.heap.size w1).drew)
  have hr1d := hr1.below ((Below.refl w1.heap.size w1).drew)
  obtain ⟨y0, y1, y2, y3, _⟩ := cells4 hD1
  have hDl1 := blk_lt hD1
  dsimp only
  go_wp2_with fail
  go_region_held3 (fun w' => w'.cell? ⟨w.heap.size, 0, none⟩ = some (.int .i64 d.most) ∧ w'.cell? ⟨w.heap.size, 1, none⟩ = some (.slice a n c) ∧ w'.cell? ⟨w.heap.size, 2, none⟩ = some (.int .i64 d.left) ∧ w'.cell? ⟨w.heap.size, 3, none⟩ = some (.bool d.down))
    (first | exact ⟨y0, y1, y2, y3⟩ | exact S2 | exact S3 | go_keep)
    (first
      | (go_at_call 39; (with_reducible refine (Down_at hd1d).mono ?_); rintro e wq ⟨rfl, rfl⟩)
      | (go_at_call 40; (with_reducible refine (Used_at hd1d).mono ?_); rintro e w2 ⟨rfl, hb2⟩; have S2 : w2.cell? ⟨w.heap.size, 0, none⟩ = some (.int .i64 d.most) ∧ w2.cell? ⟨w.heap.size, 1, none⟩ = some (.slice a n c) ∧ w2.cell? ⟨w.heap.size, 2, none⟩ = some (.int .i64 d.left) ∧ w2.cell? ⟨w.heap.size, 3, none⟩ = some (.bool d.down) := ⟨(hb2.cell (p := ⟨w.heap.size, 0, none⟩) hDl1).trans y0, (hb2.cell (p := ⟨w.heap.size, 1, none⟩) hDl1).trans y1, (hb2.cell (p := ⟨w.heap.size, 2, none⟩) hDl1).trans y2, (hb2.cell (p := ⟨w.heap.size, 3, none⟩) hDl1).trans y3⟩; have hr2 := hr1d.below hb2)
      | (go_at_call 58; (with_reducible refine (hUs _ hr2).mono ?_); rintro e w3 ⟨rfl, hb3⟩; have S3 : w3.cell? ⟨w.heap.size, 0, none⟩ = some (.int .i64 d.most) ∧ w3.cell? ⟨w.heap.size, 1, none⟩ = some (.slice a n c) ∧ w3.cell? ⟨w.heap.size, 2, none⟩ = some (.int .i64 d.left) ∧ w3.cell? ⟨w.heap.size, 3, none⟩ = some (.bool d.down) := ⟨(hb3.cell (p := ⟨w.heap.size, 0, none⟩) (cell_lt S2.1)).trans S2.1, (hb3.cell (p := ⟨w.heap.size, 1, none⟩) (cell_lt S2.1)).trans S2.2.1, (hb3.cell (p := ⟨w.heap.size, 2, none⟩) (cell_lt S2.1)).trans S2.2.2.1, (hb3.cell (p := ⟨w.heap.size, 3, none⟩) (cell_lt S2.1)).trans S2.2.2.2⟩))
  have hb13 : Below w1.heap.size w1 w3 := (((Below.refl w1.heap.size w1).drew).trans hb2).trans (hb3.mono hb2.size)
  have hb03 := hbw1.trans (hb13.mono hbw1.size)
  clear S2 S3 hr2 hr1d hd1d y0 y1 y2 y3
  go_wp2_with fail
  go_loopw [6, 7] (fun sm i wr => ∃ k : Nat, k ≤ d.names.length ∧ i = .int .i64 k ∧ sm = .bool true ∧ Below w.heap.size w wr ∧ Below w1.heap.size w1 wr) (fun _ i _ => d.names.length - (intOf i).toNat)
  case atStart => exact ⟨0, by omega, rfl, rfl, hb03, hb13⟩
  case round =>
    obtain ⟨k, hk, rfl, rfl, hbr, hbr1⟩ := hrel
    by_cases hlt : k < d.names.length
    · have hkf : k < d.fs.length := by rw [← Hnl.out]; exact hlt
      have hrr := hr.below hbr
      obtain ⟨b, off, vb, rfl, c0, c1, c2, hrf0⟩ := hrr.at k hkf
      obtain ⟨bn, on, rfl, cn⟩ := hrn.at k (by simpa using hlt)
      have hnk : (d.names.map Value.string)[k]'(by simpa using hlt) = .string d.fs[k].1 := by simp [ADisk.names]
      rw [hnk] at cn
      have cn' := (hbr1.cell (p := ⟨bn, on + k, none⟩) (cell_lt cn)).trans cn
      have hlk := mem_lk hw.sorted (f := d.fs[k].2) (s := d.fs[k].1) (List.getElem_mem hkf)
      have hns0 := hw.names _ (List.getElem_mem hkf)
      have hkn : (k : Int) < (n : Int) := by rw [Hlen.out]; omega
      obtain ⟨nm, hnm⟩ : ∃ nm, d.fs[k].1 = nm := ⟨_, rfl⟩
      obtain ⟨f, hf⟩ : ∃ f, d.fs[k].2 = f := ⟨_, rfl⟩
      rw [hnm] at c0 cn' hlk hns0
      rw [hf] at c2 hrf0 hlk
      clear hnk cn hnm hf
      have hns : nm.size ≤ maxLen := by
        simp only [okName, Bool.and_eq_true, decide_eq_true_eq] at hns0
        have := hns0.2
        simp only [maxLen]; omega
      have haf : afile d nm = f := by unfold afile; rw [hlk]; rfl
      have hsy : ((afile d nm).firm.length : Int) = (f.firm.length : Int) := by rw [haf]
      have hsi : ((afile d nm).len : Int) = (f.firm.length : Int) + (f.loose.length : Int) := by rw [haf]; unfold AFile.len; omega
      obtain ⟨avb, cvb, rfl⟩ := hrf0.shape
      rw [bcells_length, List.length_append] at hrf0 c1
      have hbl := cell_lt c0
      have hDr := (hbr1.block _ (blk_lt hD1)).trans hD1
      obtain ⟨q0, q1, q2, q3, _⟩ := cells4 hDr
      have hDl := blk_lt hDr
      have hnl := cell_lt cn'
      go_wp2_with fail
      go_region_held3 (fun w' => w'.cell? ⟨w.heap.size, 1, none⟩ = some (.slice (some ⟨b, off, none⟩) n c) ∧ w'.cell? ⟨b, off + k * 3, none⟩ = some (.string nm) ∧ w'.cell? ⟨b, off + k * 3 + 1, none⟩ = some (.slice avb (f.firm.length + f.loose.length) cvb) ∧ w'.cell? ⟨b, off + k * 3 + 2, none⟩ = some (.int .i64 (f.firm.length : Nat)) ∧ w'.cell? ⟨bn, on + k, none⟩ = some (.string nm))
        (first | exact ⟨q1, c0, c1, c2, cn'⟩ | go_keep) (fail)
      have hX := alloc_at wr (.cells #[.string nm, .slice avb (f.firm.length + f.loose.length) cvb, .int .i64 (f.firm.length : Nat)] 107)
      have hX4 : (wr.alloc (.cells #[.string nm, .slice avb (f.firm.length + f.loose.length) cvb, .int .i64 (f.firm.length : Nat)] 107)).drew.heap[wr.heap.size]? = some (.cells #[.string nm, .slice avb (f.firm.length + f.loose.length) cvb, .int .i64 (f.firm.length : Nat)] 107) := hX
      have hb4 : Below wr.heap.size wr (wr.alloc (.cells #[.string nm, .slice avb (f.firm.length + f.loose.length) cvb, .int .i64 (f.firm.length : Nat)] 107)).drew := ((Below.refl _ _).alloc (Nat.le_refl _) _).drew
      clear hX
      obtain ⟨w4, hw4⟩ : ∃ w4, (wr.alloc (.cells #[.string nm, .slice avb (f.firm.length + f.loose.length) cvb, .int .i64 (f.firm.length : Nat)] 107)).drew = w4 := ⟨_, rfl⟩
      rw [hw4] at hX4 hb4 ⊢
      clear hw4
      have hbw4 := hbr.trans (hb4.mono hbr.size)
      have hbw41 := hbr1.trans (hb4.mono hbr1.size)
      have hD4 := (hb4.block _ (blk_lt hDr)).trans hDr
      have hd4 := h.below hbw4
      have hrf4 := rd_low hrf0 hb4
      have hR := Read_at nm hd4 hns
      clear c0 c1 c2 cn' q0 q1 q2 q3 hDl hDr hb4 hbl
      have hdn : d.down = true ∨ d.down = false := by cases d.down <;> simp
      rcases hdn with hdn | hdn
      · have he : findErr d nm = 15 := by simp [findErr, hdn]
        have hby : d.readBytes nm = [] := by unfold ADisk.readBytes; rw [he]; rfl
        rw [he, hby] at hR
        clear he hby
        have Hdn := Lib.hid hdn
        have hdq : (d.down == true) = true := by simp [hdn]
        clear hdn
        go_wp2_with fail
        refine hR.mono ?_
        rintro e w5 ⟨ra, rc, rfl, hrow5, hb45⟩
        have hb5 := hbw4.trans (hb45.mono hbw4.size)
        have hb51 := hbw41.trans (hb45.mono hbw41.size)
        have hD5 : DiskAt ex w5.drew p m d := (hd4.below hb45).drew
        have hDr5 := (hb45.block _ (blk_lt hD4)).trans hD4
        have hX5 := (hb45.block _ (blk_lt hX4)).trans hX4
        obtain ⟨q0, q1, q2, q3, _⟩ := cells4 hDr5
        obtain ⟨f0, f1, f2, _⟩ := cells3 hX5
        rw [Hdn.out] at q3
        have hDl : w.heap.size < w5.drew.heap.size := blk_lt hDr5
        have hXl : wr.heap.size < w5.drew.heap.size := blk_lt hX5
        clear hR
        dsimp only
        go_wp2_with fail
        refine wp_region_held_drew (S := fun w' => Below w5.drew.heap.size w5.drew w') (by kernel_rfl) (Below.refl _ _) (fun hHeld => ?_)
        refine wpAnyH_take (i := 0) (v := ?_) rfl (by kernel_rfl) (by kernel_rfl) (by kernel_rfl) (fun _ _ _ h => h) (Or.inl ⟨by rfl, ?_⟩) (by assumption) ?_
        rotate_left
        · (intro wz hSz; (try dsimp only at hSz); go_simp) <;> with_reducible rfl
        simp only [Act.put, List.getElem_toArray, List.getElem_cons_zero, List.getElem_cons_succ, List.setIfInBounds_toArray, List.set_cons_zero, List.set_cons_succ]
        refine wpAnyH_take (i := 1) (v := ?_) rfl (by kernel_rfl) (by kernel_rfl) (by kernel_rfl) (fun _ _ _ h => h) (Or.inl ⟨by rfl, ?_⟩) (by assumption) ?_
        rotate_left
        · (intro wz hSz; (try dsimp only at hSz); go_simp) <;> with_reducible rfl
        simp only [Act.put, List.getElem_toArray, List.getElem_cons_zero, List.getElem_cons_succ, List.setIfInBounds_toArray, List.set_cons_zero, List.set_cons_succ]
        refine wpAnyH_take (i := 2) (v := ?_) rfl (by kernel_rfl) (by kernel_rfl) (by kernel_rfl) (fun _ _ _ h => h) (Or.inl ⟨by rfl, ?_⟩) (by assumption) ?_
        rotate_left
        · (intro wz hSz; (try dsimp only at hSz); have sz0 := (hSz.cell (p := ⟨wr.heap.size, 0, none⟩) hXl).trans f0; have sz1 := (hSz.cell (p := ⟨wr.heap.size, 1, none⟩) hXl).trans f1; have sz2 := (hSz.cell (p := ⟨wr.heap.size, 2, none⟩) hXl).trans f2; go_simp) <;> with_reducible rfl
        simp only [Act.put, List.getElem_toArray, List.getElem_cons_zero, List.getElem_cons_succ, List.setIfInBounds_toArray, List.set_cons_zero, List.set_cons_succ]
        refine wpAnyH_take (i := 3) (v := ?_) rfl (by kernel_rfl) (by kernel_rfl) (by kernel_rfl) (fun _ _ _ h => h) (Or.inl ⟨by rfl, ?_⟩) (by assumption) ?_
        rotate_left
        · (intro wz hSz; (try dsimp only at hSz); go_simp) <;> with_reducible rfl
        simp only [Act.put, List.getElem_toArray, List.getElem_cons_zero, List.getElem_cons_succ, List.setIfInBounds_toArray, List.set_cons_zero, List.set_cons_succ]
        refine wpAnyH_take (i := 4) (v := ?_) rfl (by kernel_rfl) (by kernel_rfl) (by kernel_rfl) (fun _ _ _ h => h) (Or.inl ⟨by rfl, ?_⟩) (by assumption) ?_
        rotate_left
        · (intro wz hSz; (try dsimp only at hSz); go_simp) <;> with_reducible rfl
        simp only [Act.put, List.getElem_toArray, List.getElem_cons_zero, List.getElem_cons_succ, List.setIfInBounds_toArray, List.set_cons_zero, List.set_cons_succ]
        refine wpAnyH_take (i := 5) (v := ?_) rfl (by kernel_rfl) (by kernel_rfl) (by kernel_rfl) (fun _ _ _ h => h) (Or.inl ⟨by rfl, ?_⟩) (by assumption) ?_
        rotate_left
        · (intro wz hSz; (try dsimp only at hSz); go_simp) <;> with_reducible rfl
        simp only [Act.put, List.getElem_toArray, List.getElem_cons_zero, List.getElem_cons_succ, List.setIfInBounds_toArray, List.set_cons_zero, List.set_cons_succ]
        refine wpAnyH_take (i := 6) (v := ?_) rfl (by kernel_rfl) (by kernel_rfl) (by kernel_rfl) (fun _ _ _ h => h) (Or.inl ⟨by rfl, ?_⟩) (by assumption) ?_
        rotate_left
        · (intro wz hSz; (try dsimp only at hSz); go_simp) <;> with_reducible rfl
        simp only [Act.put, List.getElem_toArray, List.getElem_cons_zero, List.getElem_cons_succ, List.setIfInBounds_toArray, List.set_cons_zero, List.set_cons_succ]
        refine wpAnyH_take (i := 7) (v := ?_) rfl (by kernel_rfl) (by kernel_rfl) (by kernel_rfl) (fun _ _ _ h => h) (Or.inl ⟨by rfl, ?_⟩) (by assumption) ?_
        rotate_left
        · (intro wz hSz; (try dsimp only at hSz); have sd3 := (hSz.cell (p := ⟨w.heap.size, 3, none⟩) hDl).trans q3; go_simp) <;> with_reducible rfl
        simp only [Act.put, List.getElem_toArray, List.getElem_cons_zero, List.getElem_cons_succ, List.setIfInBounds_toArray, List.set_cons_zero, List.set_cons_succ]
        refine wpAnyH_take (i := 8) (v := ?_) rfl (by kernel_rfl) (by kernel_rfl) (by kernel_rfl) (fun _ _ _ h => h) (Or.inl ⟨by rfl, ?_⟩) (by assumption) ?_
        rotate_left
        · (intro wz hSz; (try dsimp only at hSz); go_simp) <;> with_reducible rfl
        simp only [Act.put, List.getElem_toArray, List.getElem_cons_zero, List.getElem_cons_succ, List.setIfInBounds_toArray, List.set_cons_zero, List.set_cons_succ]
        refine wpAnyH_take (i := 9) (v := ?_) rfl (by kernel_rfl) (by kernel_rfl) (by kernel_rfl) (fun _ _ _ h => h) (Or.inl ⟨by rfl, ?_⟩) (by assumption) ?_
        rotate_left
        · (intro wz hSz; (try dsimp only at hSz); go_simp) <;> with_reducible rfl
        simp only [Act.put, List.getElem_toArray, List.getElem_cons_zero, List.getElem_cons_succ, List.setIfInBounds_toArray, List.set_cons_zero, List.set_cons_succ]
        refine wpAnyH_take (i := 10) (v := ?_) rfl (by kernel_rfl) (by kernel_rfl) (by kernel_rfl) (fun _ _ _ h => h) (Or.inl ⟨by rfl, ?_⟩) (by assumption) ?_
        rotate_left
        · (intro wz hSz; (try dsimp only at hSz); go_simp) <;> with_reducible rfl
        simp only [Act.put, List.getElem_toArray, List.getElem_cons_zero, List.getElem_cons_succ, List.setIfInBounds_toArray, List.set_cons_zero, List.set_cons_succ]
        refine wpAnyH_take (i := 11) (v := ?_) rfl (by kernel_rfl) (by kernel_rfl) (by kernel_rfl) (fun _ _ _ h => h) (Or.inl ⟨by rfl, ?_⟩) (by assumption) ?_
        rotate_left
        · (intro wz hSz; (try dsimp only at hSz); go_simp) <;> with_reducible rfl
        simp only [Act.put, List.getElem_toArray, List.getElem_cons_zero, List.getElem_cons_succ, List.setIfInBounds_toArray, List.set_cons_zero, List.set_cons_succ]
        refine wpAnyH_take (i := 12) (v := ?_) rfl (by kernel_rfl) (by kernel_rfl) (by kernel_rfl) (fun _ _ _ h => h) (Or.inl ⟨by rfl, ?_⟩) (by assumption) ?_
        rotate_left
        · (intro wz hSz; (try dsimp only at hSz); go_simp) <;> with_reducible rfl
        simp only [Act.put, List.getElem_toArray, List.getElem_cons_zero, List.getElem_cons_succ, List.setIfInBounds_toArray, List.set_cons_zero, List.set_cons_succ]
        refine wpAnyH_take (i := 13) (v := undef) rfl (by kernel_rfl) (by kernel_rfl) (by kernel_rfl) (fun _ _ _ h => h) (Or.inr ⟨by rfl, rfl⟩) (by assumption) ?_
        simp only [Act.put, List.getElem_toArray, List.getElem_cons_zero, List.getElem_cons_succ, List.setIfInBounds_toArray, List.set_cons_zero, List.set_cons_succ]
        refine wpAnyH_take (i := 14) (v := undef) rfl (by kernel_rfl) (by kernel_rfl) (by kernel_rfl) (fun _ _ _ h => h) (Or.inr ⟨by rfl, rfl⟩) (by assumption) ?_
        simp only [Act.put, List.getElem_toArray, List.getElem_cons_zero, List.getElem_cons_succ, List.setIfInBounds_toArray, List.set_cons_zero, List.set_cons_succ]
        refine wpAnyH_take (i := 15) (v := undef) rfl (by kernel_rfl) (by kernel_rfl) (by kernel_rfl) (fun _ _ _ h => h) (Or.inr ⟨by rfl, rfl⟩) (by assumption) ?_
        simp only [Act.put, List.getElem_toArray, List.getElem_cons_zero, List.getElem_cons_succ, List.setIfInBounds_toArray, List.set_cons_zero, List.set_cons_succ]
        refine wpAnyH_take (i := 16) (v := undef) rfl (by kernel_rfl) (by kernel_rfl) (by kernel_rfl) (fun _ _ _ h => h) (Or.inr ⟨by rfl, rfl⟩) (by assumption) ?_
        simp only [Act.put, List.getElem_toArray, List.getElem_cons_zero, List.getElem_cons_succ, List.setIfInBounds_toArray, List.set_cons_zero, List.set_cons_succ]
        refine wpAnyH_take (i := 17) (v := ?_) rfl (by kernel_rfl) (by kernel_rfl) (by kernel_rfl) (fun _ _ _ h => h) (Or.inl ⟨by rfl, ?_⟩) (by assumption) ?_
        rotate_left
        · (intro wz hSz; (try dsimp only at hSz); go_simp) <;> with_reducible rfl
        simp only [Act.put, List.getElem_toArray, List.getElem_cons_zero, List.getElem_cons_succ, List.setIfInBounds_toArray, List.set_cons_zero, List.set_cons_succ]
        refine wpAnyH_take (i := 18) (v := ?_) rfl (by kernel_rfl) (by kernel_rfl) (by kernel_rfl) (fun _ _ _ h => h) (Or.inl ⟨by rfl, ?_⟩) (by assumption) ?_
        rotate_left
        · (intro wz hSz; (try dsimp only at hSz); go_simp) <;> with_reducible rfl
        simp only [Act.put, List.getElem_toArray, List.getElem_cons_zero, List.getElem_cons_succ, List.setIfInBounds_toArray, List.set_cons_zero, List.set_cons_succ]
        refine wpAnyH_take (i := 19) (v := ?_) rfl (by kernel_rfl) (by kernel_rfl) (by kernel_rfl) (fun _ _ _ h => h) (Or.inl ⟨by rfl, ?_⟩) (by assumption) ?_
        rotate_left
        · (intro wz hSz; (try dsimp only at hSz); go_simp) <;> with_reducible rfl
        simp only [Act.put, List.getElem_toArray, List.getElem_cons_zero, List.getElem_cons_succ, List.setIfInBounds_toArray, List.set_cons_zero, List.set_cons_succ]
        refine wpAnyH_take (i := 20) (v := ?_) rfl (by kernel_rfl) (by kernel_rfl) (by kernel_rfl) (fun _ _ _ h => h) (Or.inl ⟨by rfl, ?_⟩) (by assumption) ?_
        rotate_left
        · (intro wz hSz; (try dsimp only at hSz); go_simp) <;> with_reducible rfl
        simp only [Act.put, List.getElem_toArray, List.getElem_cons_zero, List.getElem_cons_succ, List.setIfInBounds_toArray, List.set_cons_zero, List.set_cons_succ]
        refine wpAnyH_take (i := 21) (v := ?_) rfl (by kernel_rfl) (by kernel_rfl) (by kernel_rfl) (fun _ _ _ h => h) (Or.inl ⟨by rfl, ?_⟩) (by assumption) ?_
        rotate_left
        · (intro wz hSz; (try dsimp only at hSz); go_simp) <;> with_reducible rfl
        simp only [Act.put, List.getElem_toArray, List.getElem_cons_zero, List.getElem_cons_succ, List.setIfInBounds_toArray, List.set_cons_zero, List.set_cons_succ]
        refine wpAnyH_take (i := 23) (v := ?_) rfl (by kernel_rfl) (by kernel_rfl) (by kernel_rfl) (fun _ _ _ h => h) (Or.inl ⟨by rfl, ?_⟩) (by assumption) ?_
        rotate_left
        · (intro wz hSz; (try dsimp only at hSz); go_simp) <;> with_reducible rfl
        simp only [Act.put, List.getElem_toArray, List.getElem_cons_zero, List.getElem_cons_succ, List.setIfInBounds_toArray, List.set_cons_zero, List.set_cons_succ]
        refine wpAnyH_take (i := 24) (v := ?_) rfl (by kernel_rfl) (by kernel_rfl) (by kernel_rfl) (fun _ _ _ h => h) (Or.inl ⟨by rfl, ?_⟩) (by assumption) ?_
        rotate_left
        · (intro wz hSz; (try dsimp only at hSz); have sz0 := (hSz.cell (p := ⟨wr.heap.size, 0, none⟩) hXl).trans f0; have sz1 := (hSz.cell (p := ⟨wr.heap.size, 1, none⟩) hXl).trans f1; have sz2 := (hSz.cell (p := ⟨wr.heap.size, 2, none⟩) hXl).trans f2; go_simp) <;> with_reducible rfl
        simp only [Act.put, List.getElem_toArray, List.getElem_cons_zero, List.getElem_cons_succ, List.setIfInBounds_toArray, List.set_cons_zero, List.set_cons_succ]
        refine wpAnyH_ready (rs := [22]) (by kernel_rfl) (by simp) (AllReadyH.cons rfl (fun K hK => ?_) AllReadyH.nil)
        go_simp
        refine (Synced_at nm hD5 hns).mono ?_
        rw [hsy]
        rintro e w9 ⟨rfl, hb9⟩
        have hb59 : Below w5.drew.heap.size w5.drew w9 := hb9
        refine hK.out _ _ hb59 (fun hHeld => ?_)
        clear hK K
        (try simp only [Act.put, List.getElem_toArray, List.getElem_cons_zero, List.getElem_cons_succ, List.setIfInBounds_toArray, List.set_cons_zero, List.set_cons_succ])
        refine wpAnyH_take (i := 25) (v := ?_) rfl (by kernel_rfl) (by kernel_rfl) (by kernel_rfl) (fun _ _ _ h => h) (Or.inl ⟨by rfl, ?_⟩) (by assumption) ?_
        rotate_left
        · (intro wz hSz; (try dsimp only at hSz); go_simp) <;> with_reducible rfl
        simp only [Act.put, List.getElem_toArray, List.getElem_cons_zero, List.getElem_cons_succ, List.setIfInBounds_toArray, List.set_cons_zero, List.set_cons_succ]
        refine wpAnyH_take (i := 26) (v := ?_) rfl (by kernel_rfl) (by kernel_rfl) (by kernel_rfl) (fun _ _ _ h => h) (Or.inl ⟨by rfl, ?_⟩) (by assumption) ?_
        rotate_left
        · (intro wz hSz; (try dsimp only at hSz); go_simp) <;> with_reducible rfl
        simp only [Act.put, List.getElem_toArray, List.getElem_cons_zero, List.getElem_cons_succ, List.setIfInBounds_toArray, List.set_cons_zero, List.set_cons_succ]
        refine wpAnyH_take (i := 27) (v := ?_) rfl (by kernel_rfl) (by kernel_rfl) (by kernel_rfl) (fun _ _ _ h => h) (Or.inl ⟨by rfl, ?_⟩) (by assumption) ?_
        rotate_left
        · (intro wz hSz; (try dsimp only at hSz); go_simp) <;> with_reducible rfl
        simp only [Act.put, List.getElem_toArray, List.getElem_cons_zero, List.getElem_cons_succ, List.setIfInBounds_toArray, List.set_cons_zero, List.set_cons_succ]
        refine wpAnyH_take (i := 28) (v := ?_) rfl (by kernel_rfl) (by kernel_rfl) (by kernel_rfl) (fun _ _ _ h => h) (Or.inl ⟨by rfl, ?_⟩) (by assumption) ?_
        rotate_left
        · (intro wz hSz; (try dsimp only at hSz); go_simp) <;> with_reducible rfl
        simp only [Act.put, List.getElem_toArray, List.getElem_cons_zero, List.getElem_cons_succ, List.setIfInBounds_toArray, List.set_cons_zero, List.set_cons_succ]
        refine wpAnyH_take (i := 29) (v := ?_) rfl (by kernel_rfl) (by kernel_rfl) (by kernel_rfl) (fun _ _ _ h => h) (Or.inl ⟨by rfl, ?_⟩) (by assumption) ?_
        rotate_left
        · (intro wz hSz; (try dsimp only at hSz); go_simp) <;> with_reducible rfl
        simp only [Act.put, List.getElem_toArray, List.getElem_cons_zero, List.getElem_cons_succ, List.setIfInBounds_toArray, List.set_cons_zero, List.set_cons_succ]
        refine wpAnyH_take (i := 31) (v := ?_) rfl (by kernel_rfl) (by kernel_rfl) (by kernel_rfl) (fun _ _ _ h => h) (Or.inl ⟨by rfl, ?_⟩) (by assumption) ?_
        rotate_left
        · (intro wz hSz; (try dsimp only at hSz); go_simp) <;> with_reducible rfl
        simp only [Act.put, List.getElem_toArray, List.getElem_cons_zero, List.getElem_cons_succ, List.setIfInBounds_toArray, List.set_cons_zero, List.set_cons_succ]
        refine wpAnyH_take (i := 32) (v := ?_) rfl (by kernel_rfl) (by kernel_rfl) (by kernel_rfl) (fun _ _ _ h => h) (Or.inl ⟨by rfl, ?_⟩) (by assumption) ?_
        rotate_left
        · (intro wz hSz; (try dsimp only at hSz); have sz0 := (hSz.cell (p := ⟨wr.heap.size, 0, none⟩) hXl).trans f0; have sz1 := (hSz.cell (p := ⟨wr.heap.size, 1, none⟩) hXl).trans f1; have sz2 := (hSz.cell (p := ⟨wr.heap.size, 2, none⟩) hXl).trans f2; go_simp) <;> with_reducible rfl
        simp only [Act.put, List.getElem_toArray, List.getElem_cons_zero, List.getElem_cons_succ, List.setIfInBounds_toArray, List.set_cons_zero, List.set_cons_succ]
        refine wpAnyH_take (i := 33) (v := ?_) rfl (by kernel_rfl) (by kernel_rfl) (by kernel_rfl) (fun _ _ _ h => h) (Or.inl ⟨by rfl, ?_⟩) (by assumption) ?_
        rotate_left
        · (intro wz hSz; (try dsimp only at hSz); go_simp) <;> with_reducible rfl
        simp only [Act.put, List.getElem_toArray, List.getElem_cons_zero, List.getElem_cons_succ, List.setIfInBounds_toArray, List.set_cons_zero, List.set_cons_succ]
        refine wpAnyH_ready (rs := [30]) (by kernel_rfl) (by simp) (AllReadyH.cons rfl (fun K hK => ?_) AllReadyH.nil)
        go_simp
        refine (Size_at nm (hD5.below hb59) hns).mono ?_
        rw [hsi]
        rintro e w10 ⟨rfl, hb10⟩
        have hb510 : Below w5.drew.heap.size w5.drew w10 := hb59.trans (hb10.mono hb59.size)
        refine hK.out _ _ hb510 (fun hHeld => ?_)
        clear hK K
        (try simp only [Act.put, List.getElem_toArray, List.getElem_cons_zero, List.getElem_cons_succ, List.setIfInBounds_toArray, List.set_cons_zero, List.set_cons_succ])
        refine wpAnyH_take (i := 34) (v := ?_) rfl (by kernel_rfl) (by kernel_rfl) (by kernel_rfl) (fun _ _ _ h => h) (Or.inl ⟨by rfl, ?_⟩) (by assumption) ?_
        rotate_left
        · (intro wz hSz; (try dsimp only at hSz); go_simp) <;> with_reducible rfl
        simp only [Act.put, List.getElem_toArray, List.getElem_cons_zero, List.getElem_cons_succ, List.setIfInBounds_toArray, List.set_cons_zero, List.set_cons_succ]
        refine wpAnyH_take (i := 35) (v := ?_) rfl (by kernel_rfl) (by kernel_rfl) (by kernel_rfl) (fun _ _ _ h => h) (Or.inl ⟨by rfl, ?_⟩) (by assumption) ?_
        rotate_left
        · (intro wz hSz; (try dsimp only at hSz); go_simp) <;> with_reducible rfl
        simp only [Act.put, List.getElem_toArray, List.getElem_cons_zero, List.getElem_cons_succ, List.setIfInBounds_toArray, List.set_cons_zero, List.set_cons_succ]
        refine wpAnyH_take (i := 36) (v := ?_) rfl (by kernel_rfl) (by kernel_rfl) (by kernel_rfl) (fun _ _ _ h => h) (Or.inl ⟨by rfl, ?_⟩) (by assumption) ?_
        rotate_left
        · (intro wz hSz; (try dsimp only at hSz); go_simp) <;> with_reducible rfl
        simp only [Act.put, List.getElem_toArray, List.getElem_cons_zero, List.getElem_cons_succ, List.setIfInBounds_toArray, List.set_cons_zero, List.set_cons_succ]
        refine wpAnyH_done (by kernel_rfl) ?_ _
        have hbE := hb5.drew.trans (hb510.mono hb5.size)
        clear f0 f1 f2 q0 q1 q2 q3
        go_wp2
        go_roundw
        case rel => exact ⟨k + 1, by omega, by go_num, rfl, hbE, hb51.drew.trans (hb510.mono hb51.size)⟩
        case measure => simp [intOf]; omega
      · have he : findErr d nm = 0 := by simp [findErr, hdn, hlk]
        have hby : d.readBytes nm = f.firm ++ f.loose := by unfold ADisk.readBytes; rw [he, haf]; rfl
        rw [he, hby] at hR
        clear he hby
        have Hdn := Lib.hid hdn
        clear hdn
        go_wp2_with fail
        refine hR.mono ?_
        rintro e w5 ⟨ra, rc, rfl, hrow5, hb45⟩
        have hb5 := hbw4.trans (hb45.mono hbw4.size)
        have hb51 := hbw41.trans (hb45.mono hbw41.size)
        have hD5 : DiskAt ex w5.drew p m d := (hd4.below hb45).drew
        have hDr5 := (hb45.block _ (blk_lt hD4)).trans hD4
        have hX5 := (hb45.block _ (blk_lt hX4)).trans hX4
        have hrb0 : Rd w5 (.slice ra (f.firm ++ f.loose).length rc) (bcells (f.firm ++ f.loose)) := Rd.ofOwns hrow5
        have hrb : Rd w5.drew (.slice ra (f.firm.length + f.loose.length) rc) (bcells (f.firm ++ f.loose)) := by rw [List.length_append] at hrb0; exact hrb0
        have hrf : Rd w5.drew (.slice avb (f.firm.length + f.loose.length) cvb) (bcells (f.firm ++ f.loose)) := rd_low hrf4 hb45.drew
        obtain ⟨q0, q1, q2, q3, _⟩ := cells4 hDr5
        obtain ⟨f0, f1, f2, _⟩ := cells3 hX5
        rw [Hdn.out] at q3
        have hDl : w.heap.size < w5.drew.heap.size := blk_lt hDr5
        have hXl : wr.heap.size < w5.drew.heap.size := blk_lt hX5
        clear hR hrb0 hrow5
        dsimp only
        go_wp2_with fail
        refine wp_region_held_drew (S := fun w' => Below w5.drew.heap.size w5.drew w') (by kernel_rfl) (Below.refl _ _) (fun hHeld => ?_)
        refine wpAnyH_take (i := 0) (v := ?_) rfl (by kernel_rfl) (by kernel_rfl) (by kernel_rfl) (fun _ _ _ h => h) (Or.inl ⟨by rfl, ?_⟩) (by assumption) ?_
        rotate_left
        · (intro wz hSz; (try dsimp only at hSz); go_simp) <;> with_reducible rfl
        simp only [Act.put, List.getElem_toArray, List.getElem_cons_zero, List.getElem_cons_succ, List.setIfInBounds_toArray, List.set_cons_zero, List.set_cons_succ]
        refine wpAnyH_take (i := 1) (v := ?_) rfl (by kernel_rfl) (by kernel_rfl) (by kernel_rfl) (fun _ _ _ h => h) (Or.inl ⟨by rfl, ?_⟩) (by assumption) ?_
        rotate_left
        · (intro wz hSz; (try dsimp only at hSz); go_simp) <;> with_reducible rfl
        simp only [Act.put, List.getElem_toArray, List.getElem_cons_zero, List.getElem_cons_succ, List.setIfInBounds_toArray, List.set_cons_zero, List.set_cons_succ]
        refine wpAnyH_take (i := 2) (v := ?_) rfl (by kernel_rfl) (by kernel_rfl) (by kernel_rfl) (fun _ _ _ h => h) (Or.inl ⟨by rfl, ?_⟩) (by assumption) ?_
        rotate_left
        · (intro wz hSz; (try dsimp only at hSz); have sz0 := (hSz.cell (p := ⟨wr.heap.size, 0, none⟩) hXl).trans f0; have sz1 := (hSz.cell (p := ⟨wr.heap.size, 1, none⟩) hXl).trans f1; have sz2 := (hSz.cell (p := ⟨wr.heap.size, 2, none⟩) hXl).trans f2; go_simp) <;> with_reducible rfl
        simp only [Act.put, List.getElem_toArray, List.getElem_cons_zero, List.getElem_cons_succ, List.setIfInBounds_toArray, List.set_cons_zero, List.set_cons_succ]
        refine wpAnyH_take (i := 3) (v := ?_) rfl (by kernel_rfl) (by kernel_rfl) (by kernel_rfl) (fun _ _ _ h => h) (Or.inl ⟨by rfl, ?_⟩) (by assumption) ?_
        rotate_left
        · (intro wz hSz; (try dsimp only at hSz); go_simp) <;> with_reducible rfl
        simp only [Act.put, List.getElem_toArray, List.getElem_cons_zero, List.getElem_cons_succ, List.setIfInBounds_toArray, List.set_cons_zero, List.set_cons_succ]
        refine wpAnyH_take (i := 4) (v := ?_) rfl (by kernel_rfl) (by kernel_rfl) (by kernel_rfl) (fun _ _ _ h => h) (Or.inl ⟨by rfl, ?_⟩) (by assumption) ?_
        rotate_left
        · (intro wz hSz; (try dsimp only at hSz); go_simp) <;> with_reducible rfl
        simp only [Act.put, List.getElem_toArray, List.getElem_cons_zero, List.getElem_cons_succ, List.setIfInBounds_toArray, List.set_cons_zero, List.set_cons_succ]
        refine wpAnyH_take (i := 5) (v := ?_) rfl (by kernel_rfl) (by kernel_rfl) (by kernel_rfl) (fun _ _ _ h => h) (Or.inl ⟨by rfl, ?_⟩) (by assumption) ?_
        rotate_left
        · (intro wz hSz; (try dsimp only at hSz); go_simp) <;> with_reducible rfl
        simp only [Act.put, List.getElem_toArray, List.getElem_cons_zero, List.getElem_cons_succ, List.setIfInBounds_toArray, List.set_cons_zero, List.set_cons_succ]
        refine wpAnyH_take (i := 6) (v := ?_) rfl (by kernel_rfl) (by kernel_rfl) (by kernel_rfl) (fun _ _ _ h => h) (Or.inl ⟨by rfl, ?_⟩) (by assumption) ?_
        rotate_left
        · (intro wz hSz; (try dsimp only at hSz); go_simp) <;> with_reducible rfl
        simp only [Act.put, List.getElem_toArray, List.getElem_cons_zero, List.getElem_cons_succ, List.setIfInBounds_toArray, List.set_cons_zero, List.set_cons_succ]
        refine wpAnyH_take (i := 7) (v := ?_) rfl (by kernel_rfl) (by kernel_rfl) (by kernel_rfl) (fun _ _ _ h => h) (Or.inl ⟨by rfl, ?_⟩) (by assumption) ?_
        rotate_left
        · (intro wz hSz; (try dsimp only at hSz); have sd3 := (hSz.cell (p := ⟨w.heap.size, 3, none⟩) hDl).trans q3; go_simp) <;> with_reducible rfl
        simp only [Act.put, List.getElem_toArray, List.getElem_cons_zero, List.getElem_cons_succ, List.setIfInBounds_toArray, List.set_cons_zero, List.set_cons_succ]
        refine wpAnyH_take (i := 8) (v := ?_) rfl (by kernel_rfl) (by kernel_rfl) (by kernel_rfl) (fun _ _ _ h => h) (Or.inl ⟨by rfl, ?_⟩) (by assumption) ?_
        rotate_left
        · (intro wz hSz; (try dsimp only at hSz); go_simp) <;> with_reducible rfl
        simp only [Act.put, List.getElem_toArray, List.getElem_cons_zero, List.getElem_cons_succ, List.setIfInBounds_toArray, List.set_cons_zero, List.set_cons_succ]
        refine wpAnyH_take (i := 9) (v := ?_) rfl (by kernel_rfl) (by kernel_rfl) (by kernel_rfl) (fun _ _ _ h => h) (Or.inl ⟨by rfl, ?_⟩) (by assumption) ?_
        rotate_left
        · (intro wz hSz; (try dsimp only at hSz); go_simp) <;> with_reducible rfl
        simp only [Act.put, List.getElem_toArray, List.getElem_cons_zero, List.getElem_cons_succ, List.setIfInBounds_toArray, List.set_cons_zero, List.set_cons_succ]
        refine wpAnyH_take (i := 10) (v := ?_) rfl (by kernel_rfl) (by kernel_rfl) (by kernel_rfl) (fun _ _ _ h => h) (Or.inl ⟨by rfl, ?_⟩) (by assumption) ?_
        rotate_left
        · (intro wz hSz; (try dsimp only at hSz); go_simp) <;> with_reducible rfl
        simp only [Act.put, List.getElem_toArray, List.getElem_cons_zero, List.getElem_cons_succ, List.setIfInBounds_toArray, List.set_cons_zero, List.set_cons_succ]
        refine wpAnyH_take (i := 11) (v := ?_) rfl (by kernel_rfl) (by kernel_rfl) (by kernel_rfl) (fun _ _ _ h => h) (Or.inl ⟨by rfl, ?_⟩) (by assumption) ?_
        rotate_left
        · (intro wz hSz; (try dsimp only at hSz); go_simp) <;> with_reducible rfl
        simp only [Act.put, List.getElem_toArray, List.getElem_cons_zero, List.getElem_cons_succ, List.setIfInBounds_toArray, List.set_cons_zero, List.set_cons_succ]
        refine wpAnyH_take (i := 12) (v := ?_) rfl (by kernel_rfl) (by kernel_rfl) (by kernel_rfl) (fun _ _ _ h => h) (Or.inl ⟨by rfl, ?_⟩) (by assumption) ?_
        rotate_left
        · (intro wz hSz; (try dsimp only at hSz); go_simp) <;> with_reducible rfl
        simp only [Act.put, List.getElem_toArray, List.getElem_cons_zero, List.getElem_cons_succ, List.setIfInBounds_toArray, List.set_cons_zero, List.set_cons_succ]
        refine wpAnyH_take (i := 13) (v := ?_) rfl (by kernel_rfl) (by kernel_rfl) (by kernel_rfl) (fun _ _ _ h => h) (Or.inl ⟨by rfl, ?_⟩) (by assumption) ?_
        rotate_left
        · (intro wz hSz; (try dsimp only at hSz); go_simp) <;> with_reducible rfl
        simp only [Act.put, List.getElem_toArray, List.getElem_cons_zero, List.getElem_cons_succ, List.setIfInBounds_toArray, List.set_cons_zero, List.set_cons_succ]
        refine wpAnyH_take (i := 14) (v := ?_) rfl (by kernel_rfl) (by kernel_rfl) (by kernel_rfl) (fun _ _ _ h => h) (Or.inl ⟨by rfl, ?_⟩) (by assumption) ?_
        rotate_left
        · (intro wz hSz; (try dsimp only at hSz); go_simp) <;> with_reducible rfl
        simp only [Act.put, List.getElem_toArray, List.getElem_cons_zero, List.getElem_cons_succ, List.setIfInBounds_toArray, List.set_cons_zero, List.set_cons_succ]
        refine wpAnyH_take (i := 15) (v := ?_) rfl (by kernel_rfl) (by kernel_rfl) (by kernel_rfl) (fun _ _ _ h => h) (Or.inl ⟨by rfl, ?_⟩) (by assumption) ?_
        rotate_left
        · (intro wz hSz; (try dsimp only at hSz); have sz0 := (hSz.cell (p := ⟨wr.heap.size, 0, none⟩) hXl).trans f0; have sz1 := (hSz.cell (p := ⟨wr.heap.size, 1, none⟩) hXl).trans f1; have sz2 := (hSz.cell (p := ⟨wr.heap.size, 2, none⟩) hXl).trans f2; go_simp) <;> with_reducible rfl
        simp only [Act.put, List.getElem_toArray, List.getElem_cons_zero, List.getElem_cons_succ, List.setIfInBounds_toArray, List.set_cons_zero, List.set_cons_succ]
        refine wpAnyH_ready (rs := [16]) (by kernel_rfl) (by simp) (AllReadyH.cons rfl (fun K hK => ?_) AllReadyH.nil)
        go_simp
        refine (SameBytes_eq _ _ _ (f.firm ++ f.loose) hrb hrf).mono ?_
        rintro e w8 ⟨rfl, rfl⟩
        refine hK.out _ _ (Below.refl _ _) (fun hHeld => ?_)
        clear hK K
        (try simp only [Act.put, List.getElem_toArray, List.getElem_cons_zero, List.getElem_cons_succ, List.setIfInBounds_toArray, List.set_cons_zero, List.set_cons_succ])
        refine wpAnyH_take (i := 17) (v := ?_) rfl (by kernel_rfl) (by kernel_rfl) (by kernel_rfl) (fun _ _ _ h => h) (Or.inl ⟨by rfl, ?_⟩) (by assumption) ?_
        rotate_left
        · (intro wz hSz; (try dsimp only at hSz); go_simp) <;> with_reducible rfl
        simp only [Act.put, List.getElem_toArray, List.getElem_cons_zero, List.getElem_cons_succ, List.setIfInBounds_toArray, List.set_cons_zero, List.set_cons_succ]
        refine wpAnyH_take (i := 18) (v := ?_) rfl (by kernel_rfl) (by kernel_rfl) (by kernel_rfl) (fun _ _ _ h => h) (Or.inl ⟨by rfl, ?_⟩) (by assumption) ?_
        rotate_left
        · (intro wz hSz; (try dsimp only at hSz); go_simp) <;> with_reducible rfl
        simp only [Act.put, List.getElem_toArray, List.getElem_cons_zero, List.getElem_cons_succ, List.setIfInBounds_toArray, List.set_cons_zero, List.set_cons_succ]
        refine wpAnyH_take (i := 19) (v := ?_) rfl (by kernel_rfl) (by kernel_rfl) (by kernel_rfl) (fun _ _ _ h => h) (Or.inl ⟨by rfl, ?_⟩) (by assumption) ?_
        rotate_left
        · (intro wz hSz; (try dsimp only at hSz); go_simp) <;> with_reducible rfl
        simp only [Act.put, List.getElem_toArray, List.getElem_cons_zero, List.getElem_cons_succ, List.setIfInBounds_toArray, List.set_cons_zero, List.set_cons_succ]
        refine wpAnyH_take (i := 20) (v := ?_) rfl (by kernel_rfl) (by kernel_rfl) (by kernel_rfl) (fun _ _ _ h => h) (Or.inl ⟨by rfl, ?_⟩) (by assumption) ?_
        rotate_left
        · (intro wz hSz; (try dsimp only at hSz); go_simp) <;> with_reducible rfl
        simp only [Act.put, List.getElem_toArray, List.getElem_cons_zero, List.getElem_cons_succ, List.setIfInBounds_toArray, List.set_cons_zero, List.set_cons_succ]
        refine wpAnyH_take (i := 21) (v := ?_) rfl (by kernel_rfl) (by kernel_rfl) (by kernel_rfl) (fun _ _ _ h => h) (Or.inl ⟨by rfl, ?_⟩) (by assumption) ?_
        rotate_left
        · (intro wz hSz; (try dsimp only at hSz); go_simp) <;> with_reducible rfl
        simp only [Act.put, List.getElem_toArray, List.getElem_cons_zero, List.getElem_cons_succ, List.setIfInBounds_toArray, List.set_cons_zero, List.set_cons_succ]
        refine wpAnyH_take (i := 23) (v := ?_) rfl (by kernel_rfl) (by kernel_rfl) (by kernel_rfl) (fun _ _ _ h => h) (Or.inl ⟨by rfl, ?_⟩) (by assumption) ?_
        rotate_left
        · (intro wz hSz; (try dsimp only at hSz); go_simp) <;> with_reducible rfl
        simp only [Act.put, List.getElem_toArray, List.getElem_cons_zero, List.getElem_cons_succ, List.setIfInBounds_toArray, List.set_cons_zero, List.set_cons_succ]
        refine wpAnyH_take (i := 24) (v := ?_) rfl (by kernel_rfl) (by kernel_rfl) (by kernel_rfl) (fun _ _ _ h => h) (Or.inl ⟨by rfl, ?_⟩) (by assumption) ?_
        rotate_left
        · (intro wz hSz; (try dsimp only at hSz); have sz0 := (hSz.cell (p := ⟨wr.heap.size, 0, none⟩) hXl).trans f0; have sz1 := (hSz.cell (p := ⟨wr.heap.size, 1, none⟩) hXl).trans f1; have sz2 := (hSz.cell (p := ⟨wr.heap.size, 2, none⟩) hXl).trans f2; go_simp) <;> with_reducible rfl
        simp only [Act.put, List.getElem_toArray, List.getElem_cons_zero, List.getElem_cons_succ, List.setIfInBounds_toArray, List.set_cons_zero, List.set_cons_succ]
        refine wpAnyH_ready (rs := [22]) (by kernel_rfl) (by simp) (AllReadyH.cons rfl (fun K hK => ?_) AllReadyH.nil)
        go_simp
        refine (Synced_at nm hD5 hns).mono ?_
        rw [hsy]
        rintro e w9 ⟨rfl, hb9⟩
        have hb59 : Below w5.drew.heap.size w5.drew w9 := hb9
        refine hK.out _ _ hb59 (fun hHeld => ?_)
        clear hK K
        (try simp only [Act.put, List.getElem_toArray, List.getElem_cons_zero, List.getElem_cons_succ, List.setIfInBounds_toArray, List.set_cons_zero, List.set_cons_succ])
        refine wpAnyH_take (i := 25) (v := ?_) rfl (by kernel_rfl) (by kernel_rfl) (by kernel_rfl) (fun _ _ _ h => h) (Or.inl ⟨by rfl, ?_⟩) (by assumption) ?_
        rotate_left
        · (intro wz hSz; (try dsimp only at hSz); go_simp) <;> with_reducible rfl
        simp only [Act.put, List.getElem_toArray, List.getElem_cons_zero, List.getElem_cons_succ, List.setIfInBounds_toArray, List.set_cons_zero, List.set_cons_succ]
        refine wpAnyH_take (i := 26) (v := ?_) rfl (by kernel_rfl) (by kernel_rfl) (by kernel_rfl) (fun _ _ _ h => h) (Or.inl ⟨by rfl, ?_⟩) (by assumption) ?_
        rotate_left
        · (intro wz hSz; (try dsimp only at hSz); go_simp) <;> with_reducible rfl
        simp only [Act.put, List.getElem_toArray, List.getElem_cons_zero, List.getElem_cons_succ, List.setIfInBounds_toArray, List.set_cons_zero, List.set_cons_succ]
        refine wpAnyH_take (i := 27) (v := ?_) rfl (by kernel_rfl) (by kernel_rfl) (by kernel_rfl) (fun _ _ _ h => h) (Or.inl ⟨by rfl, ?_⟩) (by assumption) ?_
        rotate_left
        · (intro wz hSz; (try dsimp only at hSz); go_simp) <;> with_reducible rfl
        simp only [Act.put, List.getElem_toArray, List.getElem_cons_zero, List.getElem_cons_succ, List.setIfInBounds_toArray, List.set_cons_zero, List.set_cons_succ]
        refine wpAnyH_take (i := 28) (v := ?_) rfl (by kernel_rfl) (by kernel_rfl) (by kernel_rfl) (fun _ _ _ h => h) (Or.inl ⟨by rfl, ?_⟩) (by assumption) ?_
        rotate_left
        · (intro wz hSz; (try dsimp only at hSz); go_simp) <;> with_reducible rfl
        simp only [Act.put, List.getElem_toArray, List.getElem_cons_zero, List.getElem_cons_succ, List.setIfInBounds_toArray, List.set_cons_zero, List.set_cons_succ]
        refine wpAnyH_take (i := 29) (v := ?_) rfl (by kernel_rfl) (by kernel_rfl) (by kernel_rfl) (fun _ _ _ h => h) (Or.inl ⟨by rfl, ?_⟩) (by assumption) ?_
        rotate_left
        · (intro wz hSz; (try dsimp only at hSz); go_simp) <;> with_reducible rfl
        simp only [Act.put, List.getElem_toArray, List.getElem_cons_zero, List.getElem_cons_succ, List.setIfInBounds_toArray, List.set_cons_zero, List.set_cons_succ]
        refine wpAnyH_take (i := 31) (v := ?_) rfl (by kernel_rfl) (by kernel_rfl) (by kernel_rfl) (fun _ _ _ h => h) (Or.inl ⟨by rfl, ?_⟩) (by assumption) ?_
        rotate_left
        · (intro wz hSz; (try dsimp only at hSz); go_simp) <;> with_reducible rfl
        simp only [Act.put, List.getElem_toArray, List.getElem_cons_zero, List.getElem_cons_succ, List.setIfInBounds_toArray, List.set_cons_zero, List.set_cons_succ]
        refine wpAnyH_take (i := 32) (v := ?_) rfl (by kernel_rfl) (by kernel_rfl) (by kernel_rfl) (fun _ _ _ h => h) (Or.inl ⟨by rfl, ?_⟩) (by assumption) ?_
        rotate_left
        · (intro wz hSz; (try dsimp only at hSz); have sz0 := (hSz.cell (p := ⟨wr.heap.size, 0, none⟩) hXl).trans f0; have sz1 := (hSz.cell (p := ⟨wr.heap.size, 1, none⟩) hXl).trans f1; have sz2 := (hSz.cell (p := ⟨wr.heap.size, 2, none⟩) hXl).trans f2; go_simp) <;> with_reducible rfl
        simp only [Act.put, List.getElem_toArray, List.getElem_cons_zero, List.getElem_cons_succ, List.setIfInBounds_toArray, List.set_cons_zero, List.set_cons_succ]
        refine wpAnyH_take (i := 33) (v := ?_) rfl (by kernel_rfl) (by kernel_rfl) (by kernel_rfl) (fun _ _ _ h => h) (Or.inl ⟨by rfl, ?_⟩) (by assumption) ?_
        rotate_left
        · (intro wz hSz; (try dsimp only at hSz); go_simp) <;> with_reducible rfl
        simp only [Act.put, List.getElem_toArray, List.getElem_cons_zero, List.getElem_cons_succ, List.setIfInBounds_toArray, List.set_cons_zero, List.set_cons_succ]
        refine wpAnyH_ready (rs := [30]) (by kernel_rfl) (by simp) (AllReadyH.cons rfl (fun K hK => ?_) AllReadyH.nil)
        go_simp
        refine (Size_at nm (hD5.below hb59) hns).mono ?_
        rw [hsi]
        rintro e w10 ⟨rfl, hb10⟩
        have hb510 : Below w5.drew.heap.size w5.drew w10 := hb59.trans (hb10.mono hb59.size)
        refine hK.out _ _ hb510 (fun hHeld => ?_)
        clear hK K
        (try simp only [Act.put, List.getElem_toArray, List.getElem_cons_zero, List.getElem_cons_succ, List.setIfInBounds_toArray, List.set_cons_zero, List.set_cons_succ])
        refine wpAnyH_take (i := 34) (v := ?_) rfl (by kernel_rfl) (by kernel_rfl) (by kernel_rfl) (fun _ _ _ h => h) (Or.inl ⟨by rfl, ?_⟩) (by assumption) ?_
        rotate_left
        · (intro wz hSz; (try dsimp only at hSz); go_simp) <;> with_reducible rfl
        simp only [Act.put, List.getElem_toArray, List.getElem_cons_zero, List.getElem_cons_succ, List.setIfInBounds_toArray, List.set_cons_zero, List.set_cons_succ]
        refine wpAnyH_take (i := 35) (v := ?_) rfl (by kernel_rfl) (by kernel_rfl) (by kernel_rfl) (fun _ _ _ h => h) (Or.inl ⟨by rfl, ?_⟩) (by assumption) ?_
        rotate_left
        · (intro wz hSz; (try dsimp only at hSz); go_simp) <;> with_reducible rfl
        simp only [Act.put, List.getElem_toArray, List.getElem_cons_zero, List.getElem_cons_succ, List.setIfInBounds_toArray, List.set_cons_zero, List.set_cons_succ]
        refine wpAnyH_take (i := 36) (v := ?_) rfl (by kernel_rfl) (by kernel_rfl) (by kernel_rfl) (fun _ _ _ h => h) (Or.inl ⟨by rfl, ?_⟩) (by assumption) ?_
        rotate_left
        · (intro wz hSz; (try dsimp only at hSz); go_simp) <;> with_reducible rfl
        simp only [Act.put, List.getElem_toArray, List.getElem_cons_zero, List.getElem_cons_succ, List.setIfInBounds_toArray, List.set_cons_zero, List.set_cons_succ]
        refine wpAnyH_done (by kernel_rfl) ?_ _
        have hbE := hb5.drew.trans (hb510.mono hb5.size)
        clear f0 f1 f2 q0 q1 q2 q3
        go_wp2
        go_roundw
        case rel => exact ⟨k + 1, by omega, by go_num, rfl, hbE, hb51.drew.trans (hb510.mono hb51.size)⟩
        case measure => simp [intOf]; omega
    · go_wp2
      go_ret
      exact ⟨rfl, hbr⟩
end Go.Proofs.Ytlljlkeknklplaa
