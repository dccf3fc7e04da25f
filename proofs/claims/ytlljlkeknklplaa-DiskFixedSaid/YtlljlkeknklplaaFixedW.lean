/-
  The walk of DiskFixed (printed by wip/gen/gen_fixed.py).
-/
import Derived.Outline
import Derived.Deep.OwnRows
import Derived.Deep.CutRange
import Derived.Deep.CutBlock
import Derived.Deep.RegionHeld3
import Derived.Lib.SlBytesConst
import Derived.Test.YtlljlkeknklplaaFixed0
import Derived.Test.YtlljlkeknklplaaAwake
namespace Go.Proofs.Ytlljlkeknklplaa
open Go.RowKit Go.Maps Go.MapKept
set_option linter.unusedSimpArgs false

theorem rd_made (w : World) (T : TypeId) (n : Nat) : Rd (w.alloc (.cells (madeCells #[.int .u8 0] n) T)) (.slice (some ⟨w.heap.size, 0, none⟩) n n) (bcells (List.replicate n 0)) := by
  refine Rd_new _ _ _ _ _ _ _ ?_ (by rw [bcells_length, List.length_replicate])
  rw [toList_madeCells_one, bcells_length, List.length_replicate, List.take_of_length_le (by simp)]
  simp [bcells]
theorem repeatL_one (b : UInt8) (c : Nat) : Lib.repeatL [b] c = List.replicate c b := by
  induction c with
  | zero => rfl
  | succ c ih => rw [Lib.repeatL, ih]; rfl
theorem rep_any (w : World) (b : UInt8) (c : Nat) (hc : c ≤ 1000) :
    Calls Try.prog 47 #[.string ⟨#[b]⟩, .int .i64 c] w fun e w' => e = .returned (.string ⟨(List.replicate c b).toArray⟩) ∧ Below w.heap.size w w' := by
  match c, hc with
  | 0, _ => exact (Try.strings_Repeat_zero ⟨#[b]⟩ w).mono fun e w' he => ⟨he.1, by rw [he.2]; exact Below.refl _ _⟩
  | 1, _ => exact (Try.strings_Repeat_one ⟨#[b]⟩ w).mono fun e w' he => ⟨he.1, by rw [he.2]; exact Below.refl _ _⟩
  | c + 2, hc =>
    refine (Try.strings_Repeat_main ⟨#[b]⟩ (c + 2) w (by omega) (by omega) (by show 1 * (c + 2) ≤ _; omega) (by show 0 < 1; omega)).mono fun e w' he => ⟨?_, he.2⟩
    rw [he.1]
    show Ending.returned (.string ⟨(Lib.repeatL [b] (c + 2)).toArray⟩) = _
    rw [repeatL_one]
theorem rep_int (w : World) (b : UInt8) (z : Int) (c : Nat) (hz : z = c) (hc : c ≤ 1000) :
    Calls Try.prog 47 #[.string ⟨#[b]⟩, .int .i64 z] w fun e w' => e = .returned (.string ⟨(List.replicate c b).toArray⟩) ∧ Below w.heap.size w w' := by
  subst hz; exact rep_any w b c hc

def fd0 : ADisk := ⟨9, -1, false, []⟩
def fd1 : ADisk := fd0.append ⟨#[111, 110, 101]⟩ [112, 113]
def fd2 : ADisk := fd1.append ⟨#[116, 119, 111]⟩ (List.replicate 8 0)
def fd3 : ADisk := fd2.append ⟨#[111, 110, 101]⟩ (List.replicate 8 0)
def fd4 : ADisk := fd3.append ⟨#[116, 119, 111]⟩ (List.replicate 7 0)
def fd5 : ADisk := fd4.append ⟨#[111, 110, 101]⟩ []
def fd6 : ADisk := fd5.cut ⟨#[111, 110, 101]⟩ (-1)
def fd7 : ADisk := fd6.cut ⟨#[111, 110, 101]⟩ (3)
def fd8 : ADisk := fd7.cut ⟨#[111, 110, 101]⟩ (1)
def fd9 : ADisk := fd8.sync ⟨#[115, 105, 120]⟩
def fd10 : ADisk := fd9.cut ⟨#[115, 105, 120]⟩ (0)
def fd11 : ADisk := fd10.remove ⟨#[115, 105, 120]⟩
def fd12 : ADisk := fd11.rename ⟨#[115, 105, 120]⟩ ⟨#[111, 110, 101]⟩
def fd13 : ADisk := fd12.rename ⟨#[111, 110, 101]⟩ ⟨#[83, 73, 88]⟩
def fd14 : ADisk := fd13.rename ⟨#[111, 110, 101]⟩ ⟨#[]⟩
def fd15 : ADisk := fd14.rename ⟨#[111, 110, 101]⟩ ⟨#[111, 110, 101]⟩
def fdNames : List ByteArray := [⟨#[]⟩, ⟨#[90]⟩, ⟨#[97, 32, 97]⟩, ⟨#[97, 47, 97]⟩, ⟨#[97, 95, 97]⟩, ⟨#[128]⟩, ⟨#[122, 122, 122, 122, 122, 122, 122, 122, 122, 122, 122, 122, 122, 122, 122, 122, 122, 122, 122, 122, 122, 122, 122, 122, 122, 122, 122, 122, 122, 122, 122, 122, 122, 122, 122, 122, 122, 122, 122, 122, 122]⟩]
def fd16 : ADisk := fd15.arm (-3)
def fd17 : ADisk := fd16.append ⟨#[116, 119, 111]⟩ [0, 0]
def fd18 : ADisk := fd17.rename ⟨#[116, 119, 111]⟩ ⟨#[111, 110, 101]⟩
def fd19 : ADisk := fd18.arm (9)
def fd20 : ADisk := fd19.sync ⟨#[111, 110, 101]⟩
def fd21 : ADisk := fd20.append ⟨#[90]⟩ []
def fd22 : ADisk := fd21.cut ⟨#[115, 105, 120]⟩ (0)
def fd23 : ADisk := fd22.remove ⟨#[115, 105, 120]⟩
def fd24 : ADisk := fd23.crash [5, 3]
def fd25 : ADisk := fd24.sync ⟨#[111, 110, 101]⟩
theorem fd_l0 : fd0.appendErr ⟨#[111, 110, 101]⟩ [112, 113] = 0 := by decide +kernel
theorem fd_l1 : findErr fd1 ⟨#[111, 110, 101]⟩ = 0 := by decide +kernel
theorem fd_l2 : fd1.readBytes ⟨#[111, 110, 101]⟩ = [112, 113] := by decide +kernel
theorem fd_l3 : fileIs fd1 ⟨#[111, 110, 101]⟩ ⟨#[112, 113]⟩ 0 = true := by decide +kernel
theorem fd_l4 : fd1.appendErr ⟨#[116, 119, 111]⟩ (List.replicate 8 0) = 5 := by decide +kernel
theorem fd_l5 : fd2.appendErr ⟨#[111, 110, 101]⟩ (List.replicate 8 0) = 5 := by decide +kernel
theorem fd_l6 : fd3.appendErr ⟨#[116, 119, 111]⟩ (List.replicate 7 0) = 0 := by decide +kernel
theorem fd_l7 : fd4.appendErr ⟨#[111, 110, 101]⟩ [] = 0 := by decide +kernel
theorem fd_l8 : ((usedF fd5.fs : Nat) : Int) = 9 := by decide +kernel
theorem fd_l9 : fd5.cutErr ⟨#[111, 110, 101]⟩ (-1) = 2 := by decide +kernel
theorem fd_l10 : fd6.cutErr ⟨#[111, 110, 101]⟩ (3) = 2 := by decide +kernel
theorem fd_l11 : fd7.cutErr ⟨#[111, 110, 101]⟩ (1) = 0 := by decide +kernel
theorem fd_l12 : fileIs fd8 ⟨#[111, 110, 101]⟩ ⟨#[112]⟩ 1 = true := by decide +kernel
theorem fd_l13 : fd8.syncErr ⟨#[115, 105, 120]⟩ = 13 := by decide +kernel
theorem fd_l14 : fd9.cutErr ⟨#[115, 105, 120]⟩ (0) = 13 := by decide +kernel
theorem fd_l15 : fd10.removeErr ⟨#[115, 105, 120]⟩ = 13 := by decide +kernel
theorem fd_l16 : fd11.renameErr ⟨#[115, 105, 120]⟩ ⟨#[111, 110, 101]⟩ = 13 := by decide +kernel
theorem fd_l17 : fd12.renameErr ⟨#[111, 110, 101]⟩ ⟨#[83, 73, 88]⟩ = 13 := by decide +kernel
theorem fd_l18 : fd13.renameErr ⟨#[111, 110, 101]⟩ ⟨#[]⟩ = 13 := by decide +kernel
theorem fd_l19 : fd14.renameErr ⟨#[111, 110, 101]⟩ ⟨#[111, 110, 101]⟩ = 0 := by decide +kernel
theorem fd_l20 : fileIs fd15 ⟨#[111, 110, 101]⟩ ⟨#[112]⟩ 1 = true := by decide +kernel
theorem fd_bad : ∀ s ∈ fdNames, okName s = false ∧ s.size ≤ 41 := by decide +kernel
theorem fd_up : fd15.down = false := by decide +kernel
theorem fd_l23 : fd16.appendErr ⟨#[116, 119, 111]⟩ [0, 0] = 5 := by decide +kernel
theorem fd_l24 : fd17.down = false := by decide +kernel
theorem fd_l25 : fd17.renameErr ⟨#[116, 119, 111]⟩ ⟨#[111, 110, 101]⟩ = 15 := by decide +kernel
theorem fd_l26 : fd18.down = true := by decide +kernel
theorem fd_l27 : fd18.names = [⟨#[111, 110, 101]⟩, ⟨#[116, 119, 111]⟩] := by decide +kernel
theorem fd_l28 : Lib.join (([⟨#[111, 110, 101]⟩, ⟨#[116, 119, 111]⟩] : List ByteArray).map (·.data.toList)) [32] = [111, 110, 101, 32, 116, 119, 111] := by decide +kernel
theorem fd_l29 : fd19.syncErr ⟨#[111, 110, 101]⟩ = 15 := by decide +kernel
theorem fd_l30 : fd20.appendErr ⟨#[90]⟩ [] = 15 := by decide +kernel
theorem fd_l31 : fd21.cutErr ⟨#[115, 105, 120]⟩ (0) = 15 := by decide +kernel
theorem fd_l32 : fd22.removeErr ⟨#[115, 105, 120]⟩ = 15 := by decide +kernel
theorem fd_l33 : fileIs fd24 ⟨#[111, 110, 101]⟩ ⟨#[112]⟩ 1 = true := by decide +kernel
theorem fd_l34 : fileIs fd24 ⟨#[116, 119, 111]⟩ ⟨#[0, 0, 0]⟩ 3 = true := by decide +kernel
theorem fd_l35 : fd24.syncErr ⟨#[111, 110, 101]⟩ = 0 := by decide +kernel

set_option maxRecDepth 100000 in
set_option maxHeartbeats 8000000 in
theorem fixed_walk (w : World) : Calls Try.prog 11 #[] w fun e w' => e = .returned (.bool true) ∧ Below w.heap.size w w' := by
  have kc := fun (w : World) (C : Array Value) (n c : Nat) => Lib.run_convert_bytes_const (P := Try.prog) w 29 5 C n c Try.underlying29 Try.underlying5
  have hm8 : ∀ w : World, (Instr.makeSlice 29 (.int .i64 8) (.int .i64 8)).run Try.prog w = .ok (.slice (some ⟨w.heap.size, 0, none⟩) 8 8) (w.alloc (.cells (madeCells #[.int .u8 0] 8) 5)) := fun w => run_make_row' (P := Try.prog) 29 5 (.int .u8 0) 1 Try.underlying29 info_u8 rfl .i64 .i64 8 (by decide) (by decide) w
  have hm7 : ∀ w : World, (Instr.makeSlice 29 (.int .i64 7) (.int .i64 7)).run Try.prog w = .ok (.slice (some ⟨w.heap.size, 0, none⟩) 7 7) (w.alloc (.cells (madeCells #[.int .u8 0] 7) 5)) := fun w => run_make_row' (P := Try.prog) 29 5 (.int .u8 0) 1 Try.underlying29 info_u8 rfl .i64 .i64 7 (by decide) (by decide) w
  have hm2 : ∀ w : World, (Instr.makeSlice 29 (.int .i64 2) (.int .i64 2)).run Try.prog w = .ok (.slice (some ⟨w.heap.size, 0, none⟩) 2 2) (w.alloc (.cells (madeCells #[.int .u8 0] 2) 5)) := fun w => run_make_row' (P := Try.prog) 29 5 (.int .u8 0) 1 Try.underlying29 info_u8 rfl .i64 .i64 2 (by decide) (by decide) w
  obtain ⟨ex, hex⟩ : ∃ ex : Nat → Prop, ex = fun k => k < w.heap.size := ⟨_, rfl⟩
  have Hex := Lib.hid hex
  have hx0 : ∀ k, ex k → k < w.heap.size := fun k hk => by rw [hex] at hk; exact hk
  clear hex
  go_enter Try.func11, Try.ntmps11
  go_wp2_with fail
  refine (New_bad _ (-1) (Or.inl (by decide))).mono ?_
  rintro e wa ⟨rfl, hwa⟩
  subst hwa
  go_wp2_with fail
  refine (New_bad _ 16777217 (Or.inr (by decide))).mono ?_
  rintro e wa ⟨rfl, hwa⟩
  subst hwa
  go_wp2_with fail
  refine (New_good _ 16777216 (by decide) (by decide)).mono ?_
  rintro e wb ⟨rfl, _, hbb⟩
  go_wp2_with fail
  refine (New_at (ex := ex) 9 (by decide) (by decide) (fun k hk => Nat.lt_of_lt_of_le (hx0 k hk) hbb.size)).mono ?_
  generalize hp : wb.heap.size + 1 = p
  generalize hm : wb.heap.size = m
  rintro e w0 ⟨rfl, h0, kk0⟩
  clear hp hm
  replace h0 : DiskAt ex w0 p m fd0 := h0
  replace kk0 := (Keep.ofBelow hbb hx0).trans kk0
  clear hbb
  go_wp2_with fail
  refine (tells_any _ 2 _ [2, 2] (Rd_new _ _ _ _ (iCells [2, 2]) _ _ rfl rfl) (by decide)).mono ?_
  rw [show (([2, 2] : List Int).all (fun x => x == 2)) = true from rfl]
  rintro e w1 ⟨rfl, hw1⟩
  have h1 : DiskAt ex w1 p m fd0 := by rw [← hw1]; exact h0.alloc _
  have kk1 : Keep ex w w1 := by rw [← hw1]; exact kk0.trans (Keep.alloc _ _ (fun k hk => h0.lt hk))
  clear hw1 h0 kk0
  go_wp2_with fail
  refine (Append_at (ex := fun k => ex k ∨ k = w1.heap.size) ⟨#[111, 110, 101]⟩ _ [112, 113] (h1.more ((Below.refl _ _).alloc (Nat.le_refl _) _) (fun k hk => hk.imp_right (fun e => by subst e; simp))) (by decide) (Rd_new _ _ _ _ (bcells [112, 113]) _ _ rfl rfl) (by decide)).mono ?_
  rw [fd_l0]
  rintro e w2 ⟨rfl, g2, k2⟩
  have hB2 := (k2.block _ (Or.inr rfl)).trans (alloc_at w1 (.cells #[.int .u8 112, .int .u8 113] 5 (2, 3)))
  have x1 : w2.cell? ⟨w1.heap.size, 1, none⟩ = some (.int .u8 113) := by rw [cell_at hB2]; rfl
  have z1 : w2.frozen? ⟨w1.heap.size, 1, none⟩ = false := by simp [World.frozen?, hB2]
  have hs2 : (w1.alloc (.cells #[.int .u8 112, .int .u8 113] 5 (2, 3))).heap.size = w1.heap.size + 1 := by simp
  have hU2 : Upd (fun k => k = w1.heap.size) w2 (w2.setCell ⟨w1.heap.size, 1, none⟩ (.int .u8 33)) := setCell_upd 1 _
  have kq2 := (kk1.trans (Keep.alloc _ (.cells #[.int .u8 112, .int .u8 113] 5 (2, 3)) (fun k hk => h1.lt hk))).trans (k2.mono (fun k hk => Or.inl hk))
  have gq2 : DiskAt ex (w2.setCell ⟨w1.heap.size, 1, none⟩ (.int .u8 33)) p m fd1 := (DiskAt.setCell (ex := fun k => ex k ∨ k = w1.heap.size) (show DiskAt _ w2 p m fd1 from g2) (Or.inr rfl) 1 _).mono (fun k hk => Or.inl hk)
  have kr2 := kq2.trans (Keep.ofUpd hU2 (fun k hk => ⟨g2.lt (Or.inl hk), fun e => by have := h1.lt hk; omega⟩))
  have hR2 := Read_at ⟨#[111, 110, 101]⟩ gq2 (by decide)
  rw [fd_l1, fd_l2] at hR2
  clear k2 hU2 kq2 hB2 h1 kk1
  go_wp2_with fail
  refine hR2.mono ?_
  rintro e w3 ⟨ra, rc, rfl, row3, b3⟩
  have gq3 := gq2.below b3
  have kr3 := kr2.trans (Keep.ofBelow b3 (fun k hk => gq2.lt hk))
  have hcv3 : (convert 29 9 (.slice ra 2 rc)).run Try.prog w3 = .ok (.string ⟨#[112, 113]⟩) w3 := run_bytes_str (P := Try.prog) (Rd.ofOwns row3) Try.underlying29 Try.underlying5 Try.underlying9
  obtain ⟨rg, rcap, rcur, hrv, hrb, hrh, hrn, _, hrs, hrt⟩ : ∃ g cap cur, Value.slice ra ([112, 113] : List UInt8).length rc = .slice (some ⟨g, 0, none⟩) 2 cap ∧ (w2.setCell ⟨w1.heap.size, 1, none⟩ (.int .u8 33)).heap.size ≤ g ∧ w3.heap[g]? = some (.cells cur 5) ∧ 2 ≤ cap ∧ cap ≤ maxLen ∧ cur.size = cap * 1 ∧ cur.toList.take (2 * 1) = bcells [112, 113] := by
    rcases row3.2 with ⟨_, h0⟩ | hh
    · cases h0
    · exact hh
  cases hrv
  have hr0 : w3.cell? ⟨rg, 0, none⟩ = some (.int .u8 112) := by
    rw [cell_at hrh, ← Array.getElem?_toList]
    have := congrArg (fun l => l[0]?) hrt
    simp only [List.getElem?_take] at this
    simpa [bcells] using this
  have hf0 : w3.frozen? ⟨rg, 0, none⟩ = false := by simp [World.frozen?, hrh]
  have hU3 : Upd (fun k => k = rg) w3 (w3.setCell ⟨rg, 0, none⟩ (.int .u8 33)) := setCell_upd 0 _
  have hlt3 := blk_lt hrh
  have h3 : DiskAt ex (w3.setCell ⟨rg, 0, none⟩ (.int .u8 33)) p m fd1 := (DiskAt.setCell (ex := fun k => ex k ∨ k = rg) (gq2.more b3 (fun k hk => hk.imp_right (fun e => ⟨by omega, by omega⟩))) (Or.inr rfl) 0 _).mono (fun k hk => Or.inl hk)
  have kk3 : Keep ex w (w3.setCell ⟨rg, 0, none⟩ (.int .u8 33)) := kr3.trans (Keep.ofUpd hU3 (fun k hk => ⟨gq3.lt hk, fun e => by have := gq2.lt hk; omega⟩))
  clear row3 b3 gq3 kr3 gq2 kr2 hR2 hU3 g2 hrt hrs hrn hrb
  go_upto_region 15 with fail
  obtain ⟨w4, hw4⟩ : ∃ w', w3.setCell ⟨rg, 0, none⟩ (.int .u8 33) = w' := ⟨_, rfl⟩
  rw [hw4] at h3 kk3 ⊢
  have h4 := h3
  have kk4 := kk3
  clear h3 kk3 hw4 hrh hr0 hf0 hlt3 hcv3 x1 z1 hs2
  go_cut [95] from 66 to 95 (fun t wx => t = .bool false ∧ DiskAt ex wx p m fd5 ∧ Keep ex w wx)
  case first =>
    refine wp_region_held_drew (S := fun _ => True) (by kernel_rfl) trivial (fun hHeld => ?_)
    have hZ := h4.drew
    have kZ := kk4.drew
    refine wpAnyH_take (i := 0) (v := ?_) rfl (by kernel_rfl) (by kernel_rfl) (by kernel_rfl) (fun _ _ _ h => h) (Or.inl ⟨by rfl, ?_⟩) (by assumption) ?_
    rotate_left
    · (intro wz hSz; go_simp) <;> with_reducible rfl
    simp only [Act.put, List.getElem_toArray, List.getElem_cons_zero, List.getElem_cons_succ, List.setIfInBounds_toArray, List.set_cons_zero, List.set_cons_succ]
    refine wpAnyH_ready (rs := [1]) (by kernel_rfl) (by simp) (AllReadyH.cons rfl (fun K hK => ?_) AllReadyH.nil)
    go_simp
    refine (file_at ⟨#[111, 110, 101]⟩ ⟨#[112, 113]⟩ 0 hZ (by decide) (by decide)).mono ?_
    rw [fd_l3]
    rintro e wF ⟨rfl, bF⟩
    have hF := hZ.below bF
    have kF := kZ.trans (Keep.ofBelow bF (fun k hk => hZ.lt hk))
    clear bF hZ kZ
    refine hK.out _ _ trivial (fun _ => ?_)
    clear hK K
    (try simp only [Act.put, List.getElem_toArray, List.getElem_cons_zero, List.getElem_cons_succ, List.setIfInBounds_toArray, List.set_cons_zero, List.set_cons_succ])
    refine wpAnyH_take (i := 2) (v := ?_) rfl (by kernel_rfl) (by kernel_rfl) (by kernel_rfl) (fun _ _ _ h => h) (Or.inl ⟨by rfl, ?_⟩) (by assumption) ?_
    rotate_left
    · (intro wz hSz; go_simp) <;> with_reducible rfl
    simp only [Act.put, List.getElem_toArray, List.getElem_cons_zero, List.getElem_cons_succ, List.setIfInBounds_toArray, List.set_cons_zero, List.set_cons_succ]
    refine wpAnyH_take (i := 3) (v := ?_) rfl (by kernel_rfl) (by kernel_rfl) (by kernel_rfl) (fun _ _ _ h => h) (Or.inl ⟨by rfl, ?_⟩) (by assumption) ?_
    rotate_left
    · (intro wz hSz; go_simp) <;> with_reducible rfl
    simp only [Act.put, List.getElem_toArray, List.getElem_cons_zero, List.getElem_cons_succ, List.setIfInBounds_toArray, List.set_cons_zero, List.set_cons_succ]
    refine wpAnyH_take (i := 4) (v := ?_) rfl (by kernel_rfl) (by kernel_rfl) (by kernel_rfl) (fun _ _ _ h => h) (Or.inl ⟨by rfl, ?_⟩) (by assumption) ?_
    rotate_left
    · (intro wz hSz; go_simp) <;> with_reducible rfl
    simp only [Act.put, List.getElem_toArray, List.getElem_cons_zero, List.getElem_cons_succ, List.setIfInBounds_toArray, List.set_cons_zero, List.set_cons_succ]
    refine wpAnyH_take (i := 7) (v := ?_) rfl (by kernel_rfl) (by kernel_rfl) (by kernel_rfl) (fun _ _ _ h => h) (Or.inl ⟨by rfl, ?_⟩) (by assumption) ?_
    rotate_left
    · (intro wz hSz; go_simp) <;> with_reducible rfl
    simp only [Act.put, List.getElem_toArray, List.getElem_cons_zero, List.getElem_cons_succ, List.setIfInBounds_toArray, List.set_cons_zero, List.set_cons_succ]
    refine wpAnyH_ready (rs := [5, 8]) (by kernel_rfl) (by simp) (AllReadyH.cons rfl (fun K hK => ?_) (AllReadyH.cons rfl (fun K hK => ?_) AllReadyH.nil))
    · go_simp
      refine hK.out _ _ trivial (fun _ => ?_)
      clear hK K
      (try simp only [Act.put, List.getElem_toArray, List.getElem_cons_zero, List.getElem_cons_succ, List.setIfInBounds_toArray, List.set_cons_zero, List.set_cons_succ])
      refine wpAnyH_ready (rs := [6, 8]) (by kernel_rfl) (by simp) (AllReadyH.cons rfl (fun K hK => ?_) (AllReadyH.cons rfl (fun K hK => ?_) AllReadyH.nil))
      · go_simp
        refine (Append_at ⟨#[116, 119, 111]⟩ _ (List.replicate 8 0) (hF.alloc _) (by decide) (rd_made _ _ _) (by decide)).mono ?_
        rw [fd_l4]
        rintro e wG ⟨rfl, gG, kG⟩
        have hG : DiskAt ex wG p m fd2 := gG
        have kkG := (kF.trans (Keep.alloc _ _ (fun k hk => hF.lt hk))).trans kG
        clear gG kG hF kF
        refine hK.out _ _ trivial (fun _ => ?_)
        clear hK K
        (try simp only [Act.put, List.getElem_toArray, List.getElem_cons_zero, List.getElem_cons_succ, List.setIfInBounds_toArray, List.set_cons_zero, List.set_cons_succ])
        refine wpAnyH_ready (rs := [8]) (by kernel_rfl) (by simp) (AllReadyH.cons rfl (fun K hK => ?_) AllReadyH.nil)
        go_simp
        refine hK.out _ _ trivial (fun _ => ?_)
        clear hK K
        (try simp only [Act.put, List.getElem_toArray, List.getElem_cons_zero, List.getElem_cons_succ, List.setIfInBounds_toArray, List.set_cons_zero, List.set_cons_succ])
        refine wpAnyH_ready (rs := [9]) (by kernel_rfl) (by simp) (AllReadyH.cons rfl (fun K hK => ?_) AllReadyH.nil)
        go_simp
        refine (Append_at ⟨#[111, 110, 101]⟩ _ (List.replicate 8 0) (hG.alloc _) (by decide) (rd_made _ _ _) (by decide)).mono ?_
        rw [fd_l5]
        rintro e wH ⟨rfl, gH, kH0⟩
        have hH : DiskAt ex wH p m fd3 := gH
        have kH := (kkG.trans (Keep.alloc _ _ (fun k hk => hG.lt hk))).trans kH0
        clear gH kH0 hG kkG
        refine hK.out _ _ trivial (fun _ => ?_)
        clear hK K
        (try simp only [Act.put, List.getElem_toArray, List.getElem_cons_zero, List.getElem_cons_succ, List.setIfInBounds_toArray, List.set_cons_zero, List.set_cons_succ])
        refine wpAnyH_ready (rs := [10]) (by kernel_rfl) (by simp) (AllReadyH.cons rfl (fun K hK => ?_) AllReadyH.nil)
        go_simp
        refine hK.out _ _ trivial (fun _ => ?_)
        clear hK K
        (try simp only [Act.put, List.getElem_toArray, List.getElem_cons_zero, List.getElem_cons_succ, List.setIfInBounds_toArray, List.set_cons_zero, List.set_cons_succ])
        refine wpAnyH_ready (rs := [11]) (by kernel_rfl) (by simp) (AllReadyH.cons rfl (fun K hK => ?_) AllReadyH.nil)
        go_simp
        refine (tells_any _ 5 _ [5, 5] (Rd_new _ _ _ _ (iCells [5, 5]) _ _ rfl rfl) (by decide)).mono ?_
        rw [show (([5, 5] : List Int).all (fun x => x == 5)) = true from rfl]
        rintro e wI ⟨rfl, hwI⟩
        have hI : DiskAt ex wI p m fd3 := by rw [← hwI]; exact hH.alloc _
        have kI : Keep ex w wI := by rw [← hwI]; exact kH.trans (Keep.alloc _ _ (fun k hk => hH.lt hk))
        clear hwI hH kH
        refine hK.out _ _ trivial (fun _ => ?_)
        clear hK K
        (try simp only [Act.put, List.getElem_toArray, List.getElem_cons_zero, List.getElem_cons_succ, List.setIfInBounds_toArray, List.set_cons_zero, List.set_cons_succ])
        refine wpAnyH_take (i := 12) (v := ?_) rfl (by kernel_rfl) (by kernel_rfl) (by kernel_rfl) (fun _ _ _ h => h) (Or.inl ⟨by rfl, ?_⟩) (by assumption) ?_
        rotate_left
        · (intro wz hSz; go_simp) <;> with_reducible rfl
        simp only [Act.put, List.getElem_toArray, List.getElem_cons_zero, List.getElem_cons_succ, List.setIfInBounds_toArray, List.set_cons_zero, List.set_cons_succ]
        refine wpAnyH_take (i := 13) (v := ?_) rfl (by kernel_rfl) (by kernel_rfl) (by kernel_rfl) (fun _ _ _ h => h) (Or.inl ⟨by rfl, ?_⟩) (by assumption) ?_
        rotate_left
        · (intro wz hSz; go_simp) <;> with_reducible rfl
        simp only [Act.put, List.getElem_toArray, List.getElem_cons_zero, List.getElem_cons_succ, List.setIfInBounds_toArray, List.set_cons_zero, List.set_cons_succ]
        refine wpAnyH_take (i := 14) (v := ?_) rfl (by kernel_rfl) (by kernel_rfl) (by kernel_rfl) (fun _ _ _ h => h) (Or.inl ⟨by rfl, ?_⟩) (by assumption) ?_
        rotate_left
        · (intro wz hSz; go_simp) <;> with_reducible rfl
        simp only [Act.put, List.getElem_toArray, List.getElem_cons_zero, List.getElem_cons_succ, List.setIfInBounds_toArray, List.set_cons_zero, List.set_cons_succ]
        refine wpAnyH_take (i := 15) (v := ?_) rfl (by kernel_rfl) (by kernel_rfl) (by kernel_rfl) (fun _ _ _ h => h) (Or.inl ⟨by rfl, ?_⟩) (by assumption) ?_
        rotate_left
        · (intro wz hSz; go_simp) <;> with_reducible rfl
        simp only [Act.put, List.getElem_toArray, List.getElem_cons_zero, List.getElem_cons_succ, List.setIfInBounds_toArray, List.set_cons_zero, List.set_cons_succ]
        refine wpAnyH_ready (rs := [16]) (by kernel_rfl) (by simp) (AllReadyH.cons rfl (fun K hK => ?_) AllReadyH.nil)
        go_simp
        refine hK.out _ _ trivial (fun _ => ?_)
        clear hK K
        (try simp only [Act.put, List.getElem_toArray, List.getElem_cons_zero, List.getElem_cons_succ, List.setIfInBounds_toArray, List.set_cons_zero, List.set_cons_succ])
        refine wpAnyH_ready (rs := [17]) (by kernel_rfl) (by simp) (AllReadyH.cons rfl (fun K hK => ?_) AllReadyH.nil)
        go_simp
        refine (Append_at ⟨#[116, 119, 111]⟩ _ (List.replicate 7 0) (hI.alloc _) (by decide) (rd_made _ _ _) (by decide)).mono ?_
        rw [fd_l6]
        rintro e wJ ⟨rfl, gJ, kJ⟩
        have hJ : DiskAt ex wJ p m fd4 := gJ
        have kkJ := (kI.trans (Keep.alloc _ _ (fun k hk => hI.lt hk))).trans kJ
        clear gJ kJ hI kI
        refine hK.out _ _ trivial (fun _ => ?_)
        clear hK K
        (try simp only [Act.put, List.getElem_toArray, List.getElem_cons_zero, List.getElem_cons_succ, List.setIfInBounds_toArray, List.set_cons_zero, List.set_cons_succ])
        refine wpAnyH_take (i := 18) (v := ?_) rfl (by kernel_rfl) (by kernel_rfl) (by kernel_rfl) (fun _ _ _ h => h) (Or.inl ⟨by rfl, ?_⟩) (by assumption) ?_
        rotate_left
        · (intro wz hSz; go_simp) <;> with_reducible rfl
        simp only [Act.put, List.getElem_toArray, List.getElem_cons_zero, List.getElem_cons_succ, List.setIfInBounds_toArray, List.set_cons_zero, List.set_cons_succ]
        refine wpAnyH_take (i := 19) (v := ?_) rfl (by kernel_rfl) (by kernel_rfl) (by kernel_rfl) (fun _ _ _ h => h) (Or.inl ⟨by rfl, ?_⟩) (by assumption) ?_
        rotate_left
        · (intro wz hSz; go_simp) <;> with_reducible rfl
        simp only [Act.put, List.getElem_toArray, List.getElem_cons_zero, List.getElem_cons_succ, List.setIfInBounds_toArray, List.set_cons_zero, List.set_cons_succ]
        refine wpAnyH_take (i := 20) (v := ?_) rfl (by kernel_rfl) (by kernel_rfl) (by kernel_rfl) (fun _ _ _ h => h) (Or.inl ⟨by rfl, ?_⟩) (by assumption) ?_
        rotate_left
        · (intro wz hSz; go_simp) <;> with_reducible rfl
        simp only [Act.put, List.getElem_toArray, List.getElem_cons_zero, List.getElem_cons_succ, List.setIfInBounds_toArray, List.set_cons_zero, List.set_cons_succ]
        refine wpAnyH_take (i := 21) (v := ?_) rfl (by kernel_rfl) (by kernel_rfl) (by kernel_rfl) (fun _ _ _ h => h) (Or.inl ⟨by rfl, ?_⟩) (by assumption) ?_
        rotate_left
        · (intro wz hSz; go_simp) <;> with_reducible rfl
        simp only [Act.put, List.getElem_toArray, List.getElem_cons_zero, List.getElem_cons_succ, List.setIfInBounds_toArray, List.set_cons_zero, List.set_cons_succ]
        refine wpAnyH_ready (rs := [22]) (by kernel_rfl) (by simp) (AllReadyH.cons rfl (fun K hK => ?_) AllReadyH.nil)
        go_simp
        refine (Append_at ⟨#[111, 110, 101]⟩ _ [] hJ (by decide) (Or.inl ⟨Or.inl rfl, rfl⟩) (by decide)).mono ?_
        rw [fd_l7]
        rintro e wL ⟨rfl, gL, kL⟩
        have hL : DiskAt ex wL p m fd5 := gL
        have kkL := kkJ.trans kL
        clear gL kL hJ kkJ
        refine hK.out _ _ trivial (fun _ => ?_)
        clear hK K
        (try simp only [Act.put, List.getElem_toArray, List.getElem_cons_zero, List.getElem_cons_succ, List.setIfInBounds_toArray, List.set_cons_zero, List.set_cons_succ])
        refine wpAnyH_take (i := 23) (v := ?_) rfl (by kernel_rfl) (by kernel_rfl) (by kernel_rfl) (fun _ _ _ h => h) (Or.inl ⟨by rfl, ?_⟩) (by assumption) ?_
        rotate_left
        · (intro wz hSz; go_simp) <;> with_reducible rfl
        simp only [Act.put, List.getElem_toArray, List.getElem_cons_zero, List.getElem_cons_succ, List.setIfInBounds_toArray, List.set_cons_zero, List.set_cons_succ]
        refine wpAnyH_take (i := 24) (v := ?_) rfl (by kernel_rfl) (by kernel_rfl) (by kernel_rfl) (fun _ _ _ h => h) (Or.inl ⟨by rfl, ?_⟩) (by assumption) ?_
        rotate_left
        · (intro wz hSz; go_simp) <;> with_reducible rfl
        simp only [Act.put, List.getElem_toArray, List.getElem_cons_zero, List.getElem_cons_succ, List.setIfInBounds_toArray, List.set_cons_zero, List.set_cons_succ]
        refine wpAnyH_take (i := 25) (v := ?_) rfl (by kernel_rfl) (by kernel_rfl) (by kernel_rfl) (fun _ _ _ h => h) (Or.inl ⟨by rfl, ?_⟩) (by assumption) ?_
        rotate_left
        · (intro wz hSz; go_simp) <;> with_reducible rfl
        simp only [Act.put, List.getElem_toArray, List.getElem_cons_zero, List.getElem_cons_succ, List.setIfInBounds_toArray, List.set_cons_zero, List.set_cons_succ]
        refine wpAnyH_take (i := 26) (v := ?_) rfl (by kernel_rfl) (by kernel_rfl) (by kernel_rfl) (fun _ _ _ h => h) (Or.inl ⟨by rfl, ?_⟩) (by assumption) ?_
        rotate_left
        · (intro wz hSz; go_simp) <;> with_reducible rfl
        simp only [Act.put, List.getElem_toArray, List.getElem_cons_zero, List.getElem_cons_succ, List.setIfInBounds_toArray, List.set_cons_zero, List.set_cons_succ]
        refine wpAnyH_ready (rs := [27]) (by kernel_rfl) (by simp) (AllReadyH.cons rfl (fun K hK => ?_) AllReadyH.nil)
        go_simp
        refine (Used_at hL).mono ?_
        rw [fd_l8]
        rintro e wM ⟨rfl, bM⟩
        have hM := hL.below bM
        have kM := kkL.trans (Keep.ofBelow bM (fun k hk => hL.lt hk))
        clear bM hL kkL
        refine hK.out _ _ trivial (fun _ => ?_)
        clear hK K
        (try simp only [Act.put, List.getElem_toArray, List.getElem_cons_zero, List.getElem_cons_succ, List.setIfInBounds_toArray, List.set_cons_zero, List.set_cons_succ])
        refine wpAnyH_take (i := 28) (v := ?_) rfl (by kernel_rfl) (by kernel_rfl) (by kernel_rfl) (fun _ _ _ h => h) (Or.inl ⟨by rfl, ?_⟩) (by assumption) ?_
        rotate_left
        · (intro wz hSz; go_simp) <;> with_reducible rfl
        simp only [Act.put, List.getElem_toArray, List.getElem_cons_zero, List.getElem_cons_succ, List.setIfInBounds_toArray, List.set_cons_zero, List.set_cons_succ]
        refine wpAnyH_take (i := 29) (v := ?_) rfl (by kernel_rfl) (by kernel_rfl) (by kernel_rfl) (fun _ _ _ h => h) (Or.inl ⟨by rfl, ?_⟩) (by assumption) ?_
        rotate_left
        · (intro wz hSz; go_simp) <;> with_reducible rfl
        simp only [Act.put, List.getElem_toArray, List.getElem_cons_zero, List.getElem_cons_succ, List.setIfInBounds_toArray, List.set_cons_zero, List.set_cons_succ]
        refine wpAnyH_done (by kernel_rfl) ?_ _
        go_wp2_with fail
        go_meet
        case rel => exact ⟨rfl, hM, kM⟩
      · go_simp
        refine hK.out _ _ trivial (fun _ => ?_)
        clear hK K
        (try simp only [Act.put, List.getElem_toArray, List.getElem_cons_zero, List.getElem_cons_succ, List.setIfInBounds_toArray, List.set_cons_zero, List.set_cons_succ])
        refine wpAnyH_ready (rs := [6]) (by kernel_rfl) (by simp) (AllReadyH.cons rfl (fun K hK => ?_) AllReadyH.nil)
        go_simp
        have hWW : DiskAt (fun k => ex k ∨ k = wF.heap.size + 1) ((wF.alloc (.cells (madeCells #[.int .u8 0] 8) 5)).alloc (.cells (madeCells #[.int .u8 0] 8) 5)) p m fd1 := hF.more (((Below.refl _ _).alloc (Nat.le_refl _) _).alloc (by simp) _) (fun k hk => hk.imp_right (fun e => by subst e; constructor <;> simp <;> omega))
        have kWW : Keep ex wF ((wF.alloc (.cells (madeCells #[.int .u8 0] 8) 5)).alloc (.cells (madeCells #[.int .u8 0] 8) 5)) := Keep.ofBelow (((Below.refl _ _).alloc (Nat.le_refl _) _).alloc (by simp) _) (fun k hk => hF.lt hk)
        have rA : Rd ((wF.alloc (.cells (madeCells #[.int .u8 0] 8) 5)).alloc (.cells (madeCells #[.int .u8 0] 8) 5)) (.slice (some ⟨wF.heap.size, 0, none⟩) 8 8) (bcells (List.replicate 8 0)) := (rd_made wF 5 8).below ((Below.refl _ _).alloc (Nat.le_refl _) _)
        have rB : Rd ((wF.alloc (.cells (madeCells #[.int .u8 0] 8) 5)).alloc (.cells (madeCells #[.int .u8 0] 8) 5)) (.slice (some ⟨wF.heap.size + 1, 0, none⟩) 8 8) (bcells (List.replicate 8 0)) := by have := rd_made (wF.alloc (.cells (madeCells #[.int .u8 0] 8) 5)) 5 8; rwa [show (wF.alloc (.cells (madeCells #[.int .u8 0] 8) 5)).heap.size = wF.heap.size + 1 by simp] at this
        refine (Append_at ⟨#[116, 119, 111]⟩ _ (List.replicate 8 0) hWW (by decide) rA (by decide)).mono ?_
        rw [fd_l4]
        rintro e wG ⟨rfl, gG, kG⟩
        have rG := Keep.rd kG rB (fun b hb => by cases hb; exact Or.inr rfl)
        have hG : DiskAt ex wG p m fd2 := gG.mono (fun k hk => Or.inl hk)
        have kkG := (kF.trans kWW).trans (kG.mono (fun k hk => Or.inl hk))
        clear gG kG hF kF hWW kWW rA rB
        refine hK.out _ _ trivial (fun _ => ?_)
        clear hK K
        (try simp only [Act.put, List.getElem_toArray, List.getElem_cons_zero, List.getElem_cons_succ, List.setIfInBounds_toArray, List.set_cons_zero, List.set_cons_succ])
        refine wpAnyH_ready (rs := [9]) (by kernel_rfl) (by simp) (AllReadyH.cons rfl (fun K hK => ?_) AllReadyH.nil)
        go_simp
        refine (Append_at ⟨#[111, 110, 101]⟩ _ (List.replicate 8 0) hG (by decide) rG (by decide)).mono ?_
        rw [fd_l5]
        rintro e wH ⟨rfl, gH, kH0⟩
        have hH : DiskAt ex wH p m fd3 := gH
        have kH := kkG.trans kH0
        clear gH kH0 hG kkG rG
        refine hK.out _ _ trivial (fun _ => ?_)
        clear hK K
        (try simp only [Act.put, List.getElem_toArray, List.getElem_cons_zero, List.getElem_cons_succ, List.setIfInBounds_toArray, List.set_cons_zero, List.set_cons_succ])
        refine wpAnyH_ready (rs := [10]) (by kernel_rfl) (by simp) (AllReadyH.cons rfl (fun K hK => ?_) AllReadyH.nil)
        go_simp
        refine hK.out _ _ trivial (fun _ => ?_)
        clear hK K
        (try simp only [Act.put, List.getElem_toArray, List.getElem_cons_zero, List.getElem_cons_succ, List.setIfInBounds_toArray, List.set_cons_zero, List.set_cons_succ])
        refine wpAnyH_ready (rs := [11]) (by kernel_rfl) (by simp) (AllReadyH.cons rfl (fun K hK => ?_) AllReadyH.nil)
        go_simp
        refine (tells_any _ 5 _ [5, 5] (Rd_new _ _ _ _ (iCells [5, 5]) _ _ rfl rfl) (by decide)).mono ?_
        rw [show (([5, 5] : List Int).all (fun x => x == 5)) = true from rfl]
        rintro e wI ⟨rfl, hwI⟩
        have hI : DiskAt ex wI p m fd3 := by rw [← hwI]; exact hH.alloc _
        have kI : Keep ex w wI := by rw [← hwI]; exact kH.trans (Keep.alloc _ _ (fun k hk => hH.lt hk))
        clear hwI hH kH
        refine hK.out _ _ trivial (fun _ => ?_)
        clear hK K
        (try simp only [Act.put, List.getElem_toArray, List.getElem_cons_zero, List.getElem_cons_succ, List.setIfInBounds_toArray, List.set_cons_zero, List.set_cons_succ])
        refine wpAnyH_take (i := 12) (v := ?_) rfl (by kernel_rfl) (by kernel_rfl) (by kernel_rfl) (fun _ _ _ h => h) (Or.inl ⟨by rfl, ?_⟩) (by assumption) ?_
        rotate_left
        · (intro wz hSz; go_simp) <;> with_reducible rfl
        simp only [Act.put, List.getElem_toArray, List.getElem_cons_zero, List.getElem_cons_succ, List.setIfInBounds_toArray, List.set_cons_zero, List.set_cons_succ]
        refine wpAnyH_take (i := 13) (v := ?_) rfl (by kernel_rfl) (by kernel_rfl) (by kernel_rfl) (fun _ _ _ h => h) (Or.inl ⟨by rfl, ?_⟩) (by assumption) ?_
        rotate_left
        · (intro wz hSz; go_simp) <;> with_reducible rfl
        simp only [Act.put, List.getElem_toArray, List.getElem_cons_zero, List.getElem_cons_succ, List.setIfInBounds_toArray, List.set_cons_zero, List.set_cons_succ]
        refine wpAnyH_take (i := 14) (v := ?_) rfl (by kernel_rfl) (by kernel_rfl) (by kernel_rfl) (fun _ _ _ h => h) (Or.inl ⟨by rfl, ?_⟩) (by assumption) ?_
        rotate_left
        · (intro wz hSz; go_simp) <;> with_reducible rfl
        simp only [Act.put, List.getElem_toArray, List.getElem_cons_zero, List.getElem_cons_succ, List.setIfInBounds_toArray, List.set_cons_zero, List.set_cons_succ]
        refine wpAnyH_take (i := 15) (v := ?_) rfl (by kernel_rfl) (by kernel_rfl) (by kernel_rfl) (fun _ _ _ h => h) (Or.inl ⟨by rfl, ?_⟩) (by assumption) ?_
        rotate_left
        · (intro wz hSz; go_simp) <;> with_reducible rfl
        simp only [Act.put, List.getElem_toArray, List.getElem_cons_zero, List.getElem_cons_succ, List.setIfInBounds_toArray, List.set_cons_zero, List.set_cons_succ]
        refine wpAnyH_ready (rs := [16]) (by kernel_rfl) (by simp) (AllReadyH.cons rfl (fun K hK => ?_) AllReadyH.nil)
        go_simp
        refine hK.out _ _ trivial (fun _ => ?_)
        clear hK K
        (try simp only [Act.put, List.getElem_toArray, List.getElem_cons_zero, List.getElem_cons_succ, List.setIfInBounds_toArray, List.set_cons_zero, List.set_cons_succ])
        refine wpAnyH_ready (rs := [17]) (by kernel_rfl) (by simp) (AllReadyH.cons rfl (fun K hK => ?_) AllReadyH.nil)
        go_simp
        refine (Append_at ⟨#[116, 119, 111]⟩ _ (List.replicate 7 0) (hI.alloc _) (by decide) (rd_made _ _ _) (by decide)).mono ?_
        rw [fd_l6]
        rintro e wJ ⟨rfl, gJ, kJ⟩
        have hJ : DiskAt ex wJ p m fd4 := gJ
        have kkJ := (kI.trans (Keep.alloc _ _ (fun k hk => hI.lt hk))).trans kJ
        clear gJ kJ hI kI
        refine hK.out _ _ trivial (fun _ => ?_)
        clear hK K
        (try simp only [Act.put, List.getElem_toArray, List.getElem_cons_zero, List.getElem_cons_succ, List.setIfInBounds_toArray, List.set_cons_zero, List.set_cons_succ])
        refine wpAnyH_take (i := 18) (v := ?_) rfl (by kernel_rfl) (by kernel_rfl) (by kernel_rfl) (fun _ _ _ h => h) (Or.inl ⟨by rfl, ?_⟩) (by assumption) ?_
        rotate_left
        · (intro wz hSz; go_simp) <;> with_reducible rfl
        simp only [Act.put, List.getElem_toArray, List.getElem_cons_zero, List.getElem_cons_succ, List.setIfInBounds_toArray, List.set_cons_zero, List.set_cons_succ]
        refine wpAnyH_take (i := 19) (v := ?_) rfl (by kernel_rfl) (by kernel_rfl) (by kernel_rfl) (fun _ _ _ h => h) (Or.inl ⟨by rfl, ?_⟩) (by assumption) ?_
        rotate_left
        · (intro wz hSz; go_simp) <;> with_reducible rfl
        simp only [Act.put, List.getElem_toArray, List.getElem_cons_zero, List.getElem_cons_succ, List.setIfInBounds_toArray, List.set_cons_zero, List.set_cons_succ]
        refine wpAnyH_take (i := 20) (v := ?_) rfl (by kernel_rfl) (by kernel_rfl) (by kernel_rfl) (fun _ _ _ h => h) (Or.inl ⟨by rfl, ?_⟩) (by assumption) ?_
        rotate_left
        · (intro wz hSz; go_simp) <;> with_reducible rfl
        simp only [Act.put, List.getElem_toArray, List.getElem_cons_zero, List.getElem_cons_succ, List.setIfInBounds_toArray, List.set_cons_zero, List.set_cons_succ]
        refine wpAnyH_take (i := 21) (v := ?_) rfl (by kernel_rfl) (by kernel_rfl) (by kernel_rfl) (fun _ _ _ h => h) (Or.inl ⟨by rfl, ?_⟩) (by assumption) ?_
        rotate_left
        · (intro wz hSz; go_simp) <;> with_reducible rfl
        simp only [Act.put, List.getElem_toArray, List.getElem_cons_zero, List.getElem_cons_succ, List.setIfInBounds_toArray, List.set_cons_zero, List.set_cons_succ]
        refine wpAnyH_ready (rs := [22]) (by kernel_rfl) (by simp) (AllReadyH.cons rfl (fun K hK => ?_) AllReadyH.nil)
        go_simp
        refine (Append_at ⟨#[111, 110, 101]⟩ _ [] hJ (by decide) (Or.inl ⟨Or.inl rfl, rfl⟩) (by decide)).mono ?_
        rw [fd_l7]
        rintro e wL ⟨rfl, gL, kL⟩
        have hL : DiskAt ex wL p m fd5 := gL
        have kkL := kkJ.trans kL
        clear gL kL hJ kkJ
        refine hK.out _ _ trivial (fun _ => ?_)
        clear hK K
        (try simp only [Act.put, List.getElem_toArray, List.getElem_cons_zero, List.getElem_cons_succ, List.setIfInBounds_toArray, List.set_cons_zero, List.set_cons_succ])
        refine wpAnyH_take (i := 23) (v := ?_) rfl (by kernel_rfl) (by kernel_rfl) (by kernel_rfl) (fun _ _ _ h => h) (Or.inl ⟨by rfl, ?_⟩) (by assumption) ?_
        rotate_left
        · (intro wz hSz; go_simp) <;> with_reducible rfl
        simp only [Act.put, List.getElem_toArray, List.getElem_cons_zero, List.getElem_cons_succ, List.setIfInBounds_toArray, List.set_cons_zero, List.set_cons_succ]
        refine wpAnyH_take (i := 24) (v := ?_) rfl (by kernel_rfl) (by kernel_rfl) (by kernel_rfl) (fun _ _ _ h => h) (Or.inl ⟨by rfl, ?_⟩) (by assumption) ?_
        rotate_left
        · (intro wz hSz; go_simp) <;> with_reducible rfl
        simp only [Act.put, List.getElem_toArray, List.getElem_cons_zero, List.getElem_cons_succ, List.setIfInBounds_toArray, List.set_cons_zero, List.set_cons_succ]
        refine wpAnyH_take (i := 25) (v := ?_) rfl (by kernel_rfl) (by kernel_rfl) (by kernel_rfl) (fun _ _ _ h => h) (Or.inl ⟨by rfl, ?_⟩) (by assumption) ?_
        rotate_left
        · (intro wz hSz; go_simp) <;> with_reducible rfl
        simp only [Act.put, List.getElem_toArray, List.getElem_cons_zero, List.getElem_cons_succ, List.setIfInBounds_toArray, List.set_cons_zero, List.set_cons_succ]
        refine wpAnyH_take (i := 26) (v := ?_) rfl (by kernel_rfl) (by kernel_rfl) (by kernel_rfl) (fun _ _ _ h => h) (Or.inl ⟨by rfl, ?_⟩) (by assumption) ?_
        rotate_left
        · (intro wz hSz; go_simp) <;> with_reducible rfl
        simp only [Act.put, List.getElem_toArray, List.getElem_cons_zero, List.getElem_cons_succ, List.setIfInBounds_toArray, List.set_cons_zero, List.set_cons_succ]
        refine wpAnyH_ready (rs := [27]) (by kernel_rfl) (by simp) (AllReadyH.cons rfl (fun K hK => ?_) AllReadyH.nil)
        go_simp
        refine (Used_at hL).mono ?_
        rw [fd_l8]
        rintro e wM ⟨rfl, bM⟩
        have hM := hL.below bM
        have kM := kkL.trans (Keep.ofBelow bM (fun k hk => hL.lt hk))
        clear bM hL kkL
        refine hK.out _ _ trivial (fun _ => ?_)
        clear hK K
        (try simp only [Act.put, List.getElem_toArray, List.getElem_cons_zero, List.getElem_cons_succ, List.setIfInBounds_toArray, List.set_cons_zero, List.set_cons_succ])
        refine wpAnyH_take (i := 28) (v := ?_) rfl (by kernel_rfl) (by kernel_rfl) (by kernel_rfl) (fun _ _ _ h => h) (Or.inl ⟨by rfl, ?_⟩) (by assumption) ?_
        rotate_left
        · (intro wz hSz; go_simp) <;> with_reducible rfl
        simp only [Act.put, List.getElem_toArray, List.getElem_cons_zero, List.getElem_cons_succ, List.setIfInBounds_toArray, List.set_cons_zero, List.set_cons_succ]
        refine wpAnyH_take (i := 29) (v := ?_) rfl (by kernel_rfl) (by kernel_rfl) (by kernel_rfl) (fun _ _ _ h => h) (Or.inl ⟨by rfl, ?_⟩) (by assumption) ?_
        rotate_left
        · (intro wz hSz; go_simp) <;> with_reducible rfl
        simp only [Act.put, List.getElem_toArray, List.getElem_cons_zero, List.getElem_cons_succ, List.setIfInBounds_toArray, List.set_cons_zero, List.set_cons_succ]
        refine wpAnyH_done (by kernel_rfl) ?_ _
        go_wp2_with fail
        go_meet
        case rel => exact ⟨rfl, hM, kM⟩
    · go_simp
      refine hK.out _ _ trivial (fun _ => ?_)
      clear hK K
      (try simp only [Act.put, List.getElem_toArray, List.getElem_cons_zero, List.getElem_cons_succ, List.setIfInBounds_toArray, List.set_cons_zero, List.set_cons_succ])
      refine wpAnyH_ready (rs := [5]) (by kernel_rfl) (by simp) (AllReadyH.cons rfl (fun K hK => ?_) AllReadyH.nil)
      go_simp
      refine hK.out _ _ trivial (fun _ => ?_)
      clear hK K
      (try simp only [Act.put, List.getElem_toArray, List.getElem_cons_zero, List.getElem_cons_succ, List.setIfInBounds_toArray, List.set_cons_zero, List.set_cons_succ])
      refine wpAnyH_ready (rs := [6]) (by kernel_rfl) (by simp) (AllReadyH.cons rfl (fun K hK => ?_) AllReadyH.nil)
      go_simp
      have hWW : DiskAt (fun k => ex k ∨ k = wF.heap.size) ((wF.alloc (.cells (madeCells #[.int .u8 0] 8) 5)).alloc (.cells (madeCells #[.int .u8 0] 8) 5)) p m fd1 := hF.more (((Below.refl _ _).alloc (Nat.le_refl _) _).alloc (by simp) _) (fun k hk => hk.imp_right (fun e => by subst e; constructor <;> simp <;> omega))
      have kWW : Keep ex wF ((wF.alloc (.cells (madeCells #[.int .u8 0] 8) 5)).alloc (.cells (madeCells #[.int .u8 0] 8) 5)) := Keep.ofBelow (((Below.refl _ _).alloc (Nat.le_refl _) _).alloc (by simp) _) (fun k hk => hF.lt hk)
      have rA : Rd ((wF.alloc (.cells (madeCells #[.int .u8 0] 8) 5)).alloc (.cells (madeCells #[.int .u8 0] 8) 5)) (.slice (some ⟨wF.heap.size, 0, none⟩) 8 8) (bcells (List.replicate 8 0)) := (rd_made wF 5 8).below ((Below.refl _ _).alloc (Nat.le_refl _) _)
      have rB : Rd ((wF.alloc (.cells (madeCells #[.int .u8 0] 8) 5)).alloc (.cells (madeCells #[.int .u8 0] 8) 5)) (.slice (some ⟨wF.heap.size + 1, 0, none⟩) 8 8) (bcells (List.replicate 8 0)) := by have := rd_made (wF.alloc (.cells (madeCells #[.int .u8 0] 8) 5)) 5 8; rwa [show (wF.alloc (.cells (madeCells #[.int .u8 0] 8) 5)).heap.size = wF.heap.size + 1 by simp] at this
      refine (Append_at ⟨#[116, 119, 111]⟩ _ (List.replicate 8 0) hWW (by decide) rB (by decide)).mono ?_
      rw [fd_l4]
      rintro e wG ⟨rfl, gG, kG⟩
      have rG := Keep.rd kG rA (fun b hb => by cases hb; exact Or.inr rfl)
      have hG : DiskAt ex wG p m fd2 := gG.mono (fun k hk => Or.inl hk)
      have kkG := (kF.trans kWW).trans (kG.mono (fun k hk => Or.inl hk))
      clear gG kG hF kF hWW kWW rA rB
      refine hK.out _ _ trivial (fun _ => ?_)
      clear hK K
      (try simp only [Act.put, List.getElem_toArray, List.getElem_cons_zero, List.getElem_cons_succ, List.setIfInBounds_toArray, List.set_cons_zero, List.set_cons_succ])
      refine wpAnyH_ready (rs := [9]) (by kernel_rfl) (by simp) (AllReadyH.cons rfl (fun K hK => ?_) AllReadyH.nil)
      go_simp
      refine (Append_at ⟨#[111, 110, 101]⟩ _ (List.replicate 8 0) hG (by decide) rG (by decide)).mono ?_
      rw [fd_l5]
      rintro e wH ⟨rfl, gH, kH0⟩
      have hH : DiskAt ex wH p m fd3 := gH
      have kH := kkG.trans kH0
      clear gH kH0 hG kkG rG
      refine hK.out _ _ trivial (fun _ => ?_)
      clear hK K
      (try simp only [Act.put, List.getElem_toArray, List.getElem_cons_zero, List.getElem_cons_succ, List.setIfInBounds_toArray, List.set_cons_zero, List.set_cons_succ])
      refine wpAnyH_ready (rs := [10]) (by kernel_rfl) (by simp) (AllReadyH.cons rfl (fun K hK => ?_) AllReadyH.nil)
      go_simp
      refine hK.out _ _ trivial (fun _ => ?_)
      clear hK K
      (try simp only [Act.put, List.getElem_toArray, List.getElem_cons_zero, List.getElem_cons_succ, List.setIfInBounds_toArray, List.set_cons_zero, List.set_cons_succ])
      refine wpAnyH_ready (rs := [11]) (by kernel_rfl) (by simp) (AllReadyH.cons rfl (fun K hK => ?_) AllReadyH.nil)
      go_simp
      refine (tells_any _ 5 _ [5, 5] (Rd_new _ _ _ _ (iCells [5, 5]) _ _ rfl rfl) (by decide)).mono ?_
      rw [show (([5, 5] : List Int).all (fun x => x == 5)) = true from rfl]
      rintro e wI ⟨rfl, hwI⟩
      have hI : DiskAt ex wI p m fd3 := by rw [← hwI]; exact hH.alloc _
      have kI : Keep ex w wI := by rw [← hwI]; exact kH.trans (Keep.alloc _ _ (fun k hk => hH.lt hk))
      clear hwI hH kH
      refine hK.out _ _ trivial (fun _ => ?_)
      clear hK K
      (try simp only [Act.put, List.getElem_toArray, List.getElem_cons_zero, List.getElem_cons_succ, List.setIfInBounds_toArray, List.set_cons_zero, List.set_cons_succ])
      refine wpAnyH_take (i := 12) (v := ?_) rfl (by kernel_rfl) (by kernel_rfl) (by kernel_rfl) (fun _ _ _ h => h) (Or.inl ⟨by rfl, ?_⟩) (by assumption) ?_
      rotate_left
      · (intro wz hSz; go_simp) <;> with_reducible rfl
      simp only [Act.put, List.getElem_toArray, List.getElem_cons_zero, List.getElem_cons_succ, List.setIfInBounds_toArray, List.set_cons_zero, List.set_cons_succ]
      refine wpAnyH_take (i := 13) (v := ?_) rfl (by kernel_rfl) (by kernel_rfl) (by kernel_rfl) (fun _ _ _ h => h) (Or.inl ⟨by rfl, ?_⟩) (by assumption) ?_
      rotate_left
      · (intro wz hSz; go_simp) <;> with_reducible rfl
      simp only [Act.put, List.getElem_toArray, List.getElem_cons_zero, List.getElem_cons_succ, List.setIfInBounds_toArray, List.set_cons_zero, List.set_cons_succ]
      refine wpAnyH_take (i := 14) (v := ?_) rfl (by kernel_rfl) (by kernel_rfl) (by kernel_rfl) (fun _ _ _ h => h) (Or.inl ⟨by rfl, ?_⟩) (by assumption) ?_
      rotate_left
      · (intro wz hSz; go_simp) <;> with_reducible rfl
      simp only [Act.put, List.getElem_toArray, List.getElem_cons_zero, List.getElem_cons_succ, List.setIfInBounds_toArray, List.set_cons_zero, List.set_cons_succ]
      refine wpAnyH_take (i := 15) (v := ?_) rfl (by kernel_rfl) (by kernel_rfl) (by kernel_rfl) (fun _ _ _ h => h) (Or.inl ⟨by rfl, ?_⟩) (by assumption) ?_
      rotate_left
      · (intro wz hSz; go_simp) <;> with_reducible rfl
      simp only [Act.put, List.getElem_toArray, List.getElem_cons_zero, List.getElem_cons_succ, List.setIfInBounds_toArray, List.set_cons_zero, List.set_cons_succ]
      refine wpAnyH_ready (rs := [16]) (by kernel_rfl) (by simp) (AllReadyH.cons rfl (fun K hK => ?_) AllReadyH.nil)
      go_simp
      refine hK.out _ _ trivial (fun _ => ?_)
      clear hK K
      (try simp only [Act.put, List.getElem_toArray, List.getElem_cons_zero, List.getElem_cons_succ, List.setIfInBounds_toArray, List.set_cons_zero, List.set_cons_succ])
      refine wpAnyH_ready (rs := [17]) (by kernel_rfl) (by simp) (AllReadyH.cons rfl (fun K hK => ?_) AllReadyH.nil)
      go_simp
      refine (Append_at ⟨#[116, 119, 111]⟩ _ (List.replicate 7 0) (hI.alloc _) (by decide) (rd_made _ _ _) (by decide)).mono ?_
      rw [fd_l6]
      rintro e wJ ⟨rfl, gJ, kJ⟩
      have hJ : DiskAt ex wJ p m fd4 := gJ
      have kkJ := (kI.trans (Keep.alloc _ _ (fun k hk => hI.lt hk))).trans kJ
      clear gJ kJ hI kI
      refine hK.out _ _ trivial (fun _ => ?_)
      clear hK K
      (try simp only [Act.put, List.getElem_toArray, List.getElem_cons_zero, List.getElem_cons_succ, List.setIfInBounds_toArray, List.set_cons_zero, List.set_cons_succ])
      refine wpAnyH_take (i := 18) (v := ?_) rfl (by kernel_rfl) (by kernel_rfl) (by kernel_rfl) (fun _ _ _ h => h) (Or.inl ⟨by rfl, ?_⟩) (by assumption) ?_
      rotate_left
      · (intro wz hSz; go_simp) <;> with_reducible rfl
      simp only [Act.put, List.getElem_toArray, List.getElem_cons_zero, List.getElem_cons_succ, List.setIfInBounds_toArray, List.set_cons_zero, List.set_cons_succ]
      refine wpAnyH_take (i := 19) (v := ?_) rfl (by kernel_rfl) (by kernel_rfl) (by kernel_rfl) (fun _ _ _ h => h) (Or.inl ⟨by rfl, ?_⟩) (by assumption) ?_
      rotate_left
      · (intro wz hSz; go_simp) <;> with_reducible rfl
      simp only [Act.put, List.getElem_toArray, List.getElem_cons_zero, List.getElem_cons_succ, List.setIfInBounds_toArray, List.set_cons_zero, List.set_cons_succ]
      refine wpAnyH_take (i := 20) (v := ?_) rfl (by kernel_rfl) (by kernel_rfl) (by kernel_rfl) (fun _ _ _ h => h) (Or.inl ⟨by rfl, ?_⟩) (by assumption) ?_
      rotate_left
      · (intro wz hSz; go_simp) <;> with_reducible rfl
      simp only [Act.put, List.getElem_toArray, List.getElem_cons_zero, List.getElem_cons_succ, List.setIfInBounds_toArray, List.set_cons_zero, List.set_cons_succ]
      refine wpAnyH_take (i := 21) (v := ?_) rfl (by kernel_rfl) (by kernel_rfl) (by kernel_rfl) (fun _ _ _ h => h) (Or.inl ⟨by rfl, ?_⟩) (by assumption) ?_
      rotate_left
      · (intro wz hSz; go_simp) <;> with_reducible rfl
      simp only [Act.put, List.getElem_toArray, List.getElem_cons_zero, List.getElem_cons_succ, List.setIfInBounds_toArray, List.set_cons_zero, List.set_cons_succ]
      refine wpAnyH_ready (rs := [22]) (by kernel_rfl) (by simp) (AllReadyH.cons rfl (fun K hK => ?_) AllReadyH.nil)
      go_simp
      refine (Append_at ⟨#[111, 110, 101]⟩ _ [] hJ (by decide) (Or.inl ⟨Or.inl rfl, rfl⟩) (by decide)).mono ?_
      rw [fd_l7]
      rintro e wL ⟨rfl, gL, kL⟩
      have hL : DiskAt ex wL p m fd5 := gL
      have kkL := kkJ.trans kL
      clear gL kL hJ kkJ
      refine hK.out _ _ trivial (fun _ => ?_)
      clear hK K
      (try simp only [Act.put, List.getElem_toArray, List.getElem_cons_zero, List.getElem_cons_succ, List.setIfInBounds_toArray, List.set_cons_zero, List.set_cons_succ])
      refine wpAnyH_take (i := 23) (v := ?_) rfl (by kernel_rfl) (by kernel_rfl) (by kernel_rfl) (fun _ _ _ h => h) (Or.inl ⟨by rfl, ?_⟩) (by assumption) ?_
      rotate_left
      · (intro wz hSz; go_simp) <;> with_reducible rfl
      simp only [Act.put, List.getElem_toArray, List.getElem_cons_zero, List.getElem_cons_succ, List.setIfInBounds_toArray, List.set_cons_zero, List.set_cons_succ]
      refine wpAnyH_take (i := 24) (v := ?_) rfl (by kernel_rfl) (by kernel_rfl) (by kernel_rfl) (fun _ _ _ h => h) (Or.inl ⟨by rfl, ?_⟩) (by assumption) ?_
      rotate_left
      · (intro wz hSz; go_simp) <;> with_reducible rfl
      simp only [Act.put, List.getElem_toArray, List.getElem_cons_zero, List.getElem_cons_succ, List.setIfInBounds_toArray, List.set_cons_zero, List.set_cons_succ]
      refine wpAnyH_take (i := 25) (v := ?_) rfl (by kernel_rfl) (by kernel_rfl) (by kernel_rfl) (fun _ _ _ h => h) (Or.inl ⟨by rfl, ?_⟩) (by assumption) ?_
      rotate_left
      · (intro wz hSz; go_simp) <;> with_reducible rfl
      simp only [Act.put, List.getElem_toArray, List.getElem_cons_zero, List.getElem_cons_succ, List.setIfInBounds_toArray, List.set_cons_zero, List.set_cons_succ]
      refine wpAnyH_take (i := 26) (v := ?_) rfl (by kernel_rfl) (by kernel_rfl) (by kernel_rfl) (fun _ _ _ h => h) (Or.inl ⟨by rfl, ?_⟩) (by assumption) ?_
      rotate_left
      · (intro wz hSz; go_simp) <;> with_reducible rfl
      simp only [Act.put, List.getElem_toArray, List.getElem_cons_zero, List.getElem_cons_succ, List.setIfInBounds_toArray, List.set_cons_zero, List.set_cons_succ]
      refine wpAnyH_ready (rs := [27]) (by kernel_rfl) (by simp) (AllReadyH.cons rfl (fun K hK => ?_) AllReadyH.nil)
      go_simp
      refine (Used_at hL).mono ?_
      rw [fd_l8]
      rintro e wM ⟨rfl, bM⟩
      have hM := hL.below bM
      have kM := kkL.trans (Keep.ofBelow bM (fun k hk => hL.lt hk))
      clear bM hL kkL
      refine hK.out _ _ trivial (fun _ => ?_)
      clear hK K
      (try simp only [Act.put, List.getElem_toArray, List.getElem_cons_zero, List.getElem_cons_succ, List.setIfInBounds_toArray, List.set_cons_zero, List.set_cons_succ])
      refine wpAnyH_take (i := 28) (v := ?_) rfl (by kernel_rfl) (by kernel_rfl) (by kernel_rfl) (fun _ _ _ h => h) (Or.inl ⟨by rfl, ?_⟩) (by assumption) ?_
      rotate_left
      · (intro wz hSz; go_simp) <;> with_reducible rfl
      simp only [Act.put, List.getElem_toArray, List.getElem_cons_zero, List.getElem_cons_succ, List.setIfInBounds_toArray, List.set_cons_zero, List.set_cons_succ]
      refine wpAnyH_take (i := 29) (v := ?_) rfl (by kernel_rfl) (by kernel_rfl) (by kernel_rfl) (fun _ _ _ h => h) (Or.inl ⟨by rfl, ?_⟩) (by assumption) ?_
      rotate_left
      · (intro wz hSz; go_simp) <;> with_reducible rfl
      simp only [Act.put, List.getElem_toArray, List.getElem_cons_zero, List.getElem_cons_succ, List.setIfInBounds_toArray, List.set_cons_zero, List.set_cons_succ]
      refine wpAnyH_done (by kernel_rfl) ?_ _
      go_wp2_with fail
      go_meet
      case rel => exact ⟨rfl, hM, kM⟩
  case rest =>
    obtain ⟨rfl, h5, kk5⟩ := hcut
    obtain ⟨w5, hwc⟩ : ∃ x, x = wc := ⟨_, rfl⟩
    subst hwc
    clear h4 kk4
    go_wp2_with fail
    refine (Cut_at ⟨#[111, 110, 101]⟩ (-1) h5 (by decide)).mono ?_
    rw [fd_l9]
    rintro e w6 ⟨rfl, g6, k6⟩
    have h6 : DiskAt ex w6 p m fd6 := g6
    have kk6 := kk5.trans k6
    clear g6 k6 h5 kk5
    go_wp2_with fail
    refine (Cut_at ⟨#[111, 110, 101]⟩ (3) h6 (by decide)).mono ?_
    rw [fd_l10]
    rintro e w7 ⟨rfl, g7, k7⟩
    have h7 : DiskAt ex w7 p m fd7 := g7
    have kk7 := kk6.trans k7
    clear g7 k7 h6 kk6
    go_wp2_with fail
    refine (tells_any _ 2 _ [2, 2] (Rd_new _ _ _ _ (iCells [2, 2]) _ _ rfl rfl) (by decide)).mono ?_
    rw [show (([2, 2] : List Int).all (fun x => x == 2)) = true from rfl]
    rintro e w8 ⟨rfl, hw8⟩
    have h8 : DiskAt ex w8 p m fd7 := by rw [← hw8]; exact h7.alloc _
    have kk8 : Keep ex w w8 := by rw [← hw8]; exact kk7.trans (Keep.alloc _ _ (fun k hk => h7.lt hk))
    clear hw8 h7 kk7
    go_wp2_with fail
    refine (Cut_at ⟨#[111, 110, 101]⟩ (1) h8 (by decide)).mono ?_
    rw [fd_l11]
    rintro e w9 ⟨rfl, g9, k9⟩
    have h9 : DiskAt ex w9 p m fd8 := g9
    have kk9 := kk8.trans k9
    clear g9 k9 h8 kk8
    go_wp2_with fail
    refine (file_at ⟨#[111, 110, 101]⟩ ⟨#[112]⟩ 1 h9 (by decide) (by decide)).mono ?_
    rw [fd_l12]
    rintro e w10 ⟨rfl, b10⟩
    have h10 := h9.below b10
    have kk10 := kk9.trans (Keep.ofBelow b10 (fun k hk => h9.lt hk))
    clear b10 h9 kk9
    go_wp2_with fail
    refine (Sync_at ⟨#[115, 105, 120]⟩ h10 (by decide)).mono ?_
    rw [fd_l13]
    rintro e w11 ⟨rfl, g11, k11⟩
    have h11 : DiskAt ex w11 p m fd9 := g11
    have kk11 := kk10.trans k11
    clear g11 k11 h10 kk10
    go_wp2_with fail
    refine (Cut_at ⟨#[115, 105, 120]⟩ (0) h11 (by decide)).mono ?_
    rw [fd_l14]
    rintro e w12 ⟨rfl, g12, k12⟩
    have h12 : DiskAt ex w12 p m fd10 := g12
    have kk12 := kk11.trans k12
    clear g12 k12 h11 kk11
    go_wp2_with fail
    refine (Remove_at ⟨#[115, 105, 120]⟩ h12 (by decide)).mono ?_
    rw [fd_l15]
    rintro e w13 ⟨rfl, g13, k13⟩
    have h13 : DiskAt ex w13 p m fd11 := g13
    have kk13 := kk12.trans k13
    clear g13 k13 h12 kk12
    go_wp2_with fail
    refine (Rename_at ⟨#[115, 105, 120]⟩ ⟨#[111, 110, 101]⟩ h13 (by decide) (by decide)).mono ?_
    rw [fd_l16]
    rintro e w14 ⟨rfl, g14, k14⟩
    have h14 : DiskAt ex w14 p m fd12 := g14
    have kk14 := kk13.trans k14
    clear g14 k14 h13 kk13
    go_wp2_with fail
    refine (Rename_at ⟨#[111, 110, 101]⟩ ⟨#[83, 73, 88]⟩ h14 (by decide) (by decide)).mono ?_
    rw [fd_l17]
    rintro e w15 ⟨rfl, g15, k15⟩
    have h15 : DiskAt ex w15 p m fd13 := g15
    have kk15 := kk14.trans k15
    clear g15 k15 h14 kk14
    go_wp2_with fail
    refine (Rename_at ⟨#[111, 110, 101]⟩ ⟨#[]⟩ h15 (by decide) (by decide)).mono ?_
    rw [fd_l18]
    rintro e w16 ⟨rfl, g16, k16⟩
    have h16 : DiskAt ex w16 p m fd14 := g16
    have kk16 := kk15.trans k16
    clear g16 k16 h15 kk15
    go_wp2_with fail
    refine (tells_any _ 13 _ [13, 13, 13, 13, 13, 13] (Rd_new _ _ _ _ (iCells [13, 13, 13, 13, 13, 13]) _ _ rfl rfl) (by decide)).mono ?_
    rw [show (([13, 13, 13, 13, 13, 13] : List Int).all (fun x => x == 13)) = true from rfl]
    rintro e w17 ⟨rfl, hw17⟩
    have h17 : DiskAt ex w17 p m fd14 := by rw [← hw17]; exact h16.alloc _
    have kk17 : Keep ex w w17 := by rw [← hw17]; exact kk16.trans (Keep.alloc _ _ (fun k hk => h16.lt hk))
    clear hw17 h16 kk16
    go_wp2_with fail
    refine (Rename_at ⟨#[111, 110, 101]⟩ ⟨#[111, 110, 101]⟩ h17 (by decide) (by decide)).mono ?_
    rw [fd_l19]
    rintro e w18 ⟨rfl, g18, k18⟩
    have h18 : DiskAt ex w18 p m fd15 := g18
    have kk18 := kk17.trans k18
    clear g18 k18 h17 kk17
    go_wp2_with fail
    refine (file_at ⟨#[111, 110, 101]⟩ ⟨#[112]⟩ 1 h18 (by decide) (by decide)).mono ?_
    rw [fd_l20]
    rintro e w19 ⟨rfl, b19⟩
    have h19 := h18.below b19
    have kk19 := kk18.trans (Keep.ofBelow b19 (fun k hk => h18.lt hk))
    clear b19 h18 kk18
    go_wp2_with fail
    refine (rep_any _ 122 41 (by decide)).mono ?_
    rintro e w20 ⟨rfl, b20⟩
    have h20 := h19.below b20
    have kk20 := kk19.trans (Keep.ofBelow b20 (fun k hk => h19.lt hk))
    clear b20 h19 kk19
    go_wp2_with fail
    have hNB := alloc_at w20 (.cells #[.string ⟨#[]⟩, .string ⟨#[90]⟩, .string ⟨#[97, 32, 97]⟩, .string ⟨#[97, 47, 97]⟩, .string ⟨#[97, 95, 97]⟩, .string ⟨#[128]⟩, .string ⟨#[122, 122, 122, 122, 122, 122, 122, 122, 122, 122, 122, 122, 122, 122, 122, 122, 122, 122, 122, 122, 122, 122, 122, 122, 122, 122, 122, 122, 122, 122, 122, 122, 122, 122, 122, 122, 122, 122, 122, 122, 122]⟩] 9)
    have hb21 : Below w20.heap.size w20 (w20.alloc (.cells #[.string ⟨#[]⟩, .string ⟨#[90]⟩, .string ⟨#[97, 32, 97]⟩, .string ⟨#[97, 47, 97]⟩, .string ⟨#[97, 95, 97]⟩, .string ⟨#[128]⟩, .string ⟨#[122, 122, 122, 122, 122, 122, 122, 122, 122, 122, 122, 122, 122, 122, 122, 122, 122, 122, 122, 122, 122, 122, 122, 122, 122, 122, 122, 122, 122, 122, 122, 122, 122, 122, 122, 122, 122, 122, 122, 122, 122]⟩] 9)) := (Below.refl _ _).alloc (Nat.le_refl _) _
    have hq21 : DiskAt (fun k => ex k ∨ k = w20.heap.size) (w20.alloc (.cells #[.string ⟨#[]⟩, .string ⟨#[90]⟩, .string ⟨#[97, 32, 97]⟩, .string ⟨#[97, 47, 97]⟩, .string ⟨#[97, 95, 97]⟩, .string ⟨#[128]⟩, .string ⟨#[122, 122, 122, 122, 122, 122, 122, 122, 122, 122, 122, 122, 122, 122, 122, 122, 122, 122, 122, 122, 122, 122, 122, 122, 122, 122, 122, 122, 122, 122, 122, 122, 122, 122, 122, 122, 122, 122, 122, 122, 122]⟩] 9)) p m fd15 := h20.more hb21 (fun k hk => hk.imp_right (fun e => by subst e; simp))
    have kq21 := kk20.trans (Keep.ofBelow hb21 (fun k hk => h20.lt hk))
    have hNB' : (w20.alloc (.cells #[.string ⟨#[]⟩, .string ⟨#[90]⟩, .string ⟨#[97, 32, 97]⟩, .string ⟨#[97, 47, 97]⟩, .string ⟨#[97, 95, 97]⟩, .string ⟨#[128]⟩, .string ⟨#[122, 122, 122, 122, 122, 122, 122, 122, 122, 122, 122, 122, 122, 122, 122, 122, 122, 122, 122, 122, 122, 122, 122, 122, 122, 122, 122, 122, 122, 122, 122, 122, 122, 122, 122, 122, 122, 122, 122, 122, 122]⟩] 9)).heap[w20.heap.size]? = some (.cells (fdNames.map Value.string).toArray 9) := hNB
    have hnb0 : ∀ k, ex k → k ≠ w20.heap.size := fun k hk e => by have := h20.lt hk; omega
    obtain ⟨NB, hNBe⟩ : ∃ NB, w20.heap.size = NB := ⟨_, rfl⟩
    obtain ⟨w21, hw21⟩ : ∃ x, w20.alloc (.cells #[.string ⟨#[]⟩, .string ⟨#[90]⟩, .string ⟨#[97, 32, 97]⟩, .string ⟨#[97, 47, 97]⟩, .string ⟨#[97, 95, 97]⟩, .string ⟨#[128]⟩, .string ⟨#[122, 122, 122, 122, 122, 122, 122, 122, 122, 122, 122, 122, 122, 122, 122, 122, 122, 122, 122, 122, 122, 122, 122, 122, 122, 122, 122, 122, 122, 122, 122, 122, 122, 122, 122, 122, 122, 122, 122, 122, 122]⟩] 9) = x := ⟨_, rfl⟩
    rw [hw21] at hq21 kq21 hNB' ⊢
    rw [hNBe] at hNB' hq21 hnb0 ⊢
    clear hNB hb21 hw21 hNBe h20 kk20
    go_loopw [143] (fun t wr => ∃ k : Nat, k ≤ 7 ∧ t = .int .i64 k ∧ DiskAt (fun k => ex k ∨ k = NB) wr p m fd15 ∧ Keep ex w wr ∧ wr.heap[NB]? = some (.cells (fdNames.map Value.string).toArray 9)) (fun t _ => 7 - (intOf t).toNat)
    case atStart => exact ⟨0, by omega, rfl, hq21, kq21, hNB'⟩
    case round =>
      obtain ⟨k, hk, rfl, hD, hK, hN⟩ := hrel
      clear hq21 kq21 hNB'
      by_cases hlt : k < 7
      · have hkl : k < fdNames.length := hlt
        obtain ⟨hs1, hs2⟩ := fd_bad _ (List.getElem_mem hkl)
        have hc : wr.cell? ⟨NB, k, none⟩ = some (.string fdNames[k]) := by rw [cell_at hN]; simp [hkl]
        obtain ⟨s, hs⟩ : ∃ s, fdNames[k] = s := ⟨_, rfl⟩
        rw [hs] at hs1 hs2 hc
        have ha1 : fd15.append s [] = fd15 := by unfold ADisk.append; rw [fd_up, hs1, if_neg (by simp), if_pos rfl]
        have ha2 : fd15.appendErr s [] = 13 := by unfold ADisk.appendErr; rw [fd_up, hs1, if_neg (by simp), if_pos rfl]
        clear hs hs1
        go_wp2_with fail
        refine (Append_at s _ [] hD (by simp only [maxLen]; omega) (Or.inl ⟨Or.inl rfl, rfl⟩) (by decide)).mono ?_
        rw [ha1, ha2]
        rintro e wx ⟨rfl, hD1, hK1⟩
        have hN1 := (hK1.block _ (Or.inr rfl)).trans hN
        have hKx := hK.trans (hK1.mono (fun k hk => Or.inl hk))
        clear ha1 ha2 hc
        go_wp2_with fail
        refine (tells_any _ 13 _ [13] (Rd_new _ _ _ _ (iCells [13]) _ _ rfl rfl) (by decide)).mono ?_
        rw [show (([13] : List Int).all (fun x => x == 13)) = true from rfl]
        rintro e wy ⟨rfl, hwy⟩
        have hby : Below wx.heap.size wx wy := by rw [← hwy]; exact (Below.refl _ _).alloc (Nat.le_refl _) _
        clear hwy
        go_wp2
        go_roundw
        case rel => exact ⟨k + 1, by omega, by go_num, hD1.below hby, hKx.trans (Keep.ofBelow hby (fun k hk => hD1.lt (Or.inl hk))), (hby.block _ (blk_lt hN1)).trans hN1⟩
        case measure => simp [intOf]; omega
      · have h21 : DiskAt ex wr p m fd15 := hD.mono (fun k hk => Or.inl hk)
        obtain ⟨w21, hwr⟩ : ∃ x, x = wr := ⟨_, rfl⟩
        subst hwr
        have kk21 := hK
        clear hN hD hK
        go_wp2_with fail
        refine (Arm_at (-3) h21 (by decide) (by decide)).mono ?_
        rintro e w22 ⟨rfl, g22, k22⟩
        have h22 : DiskAt ex w22 p m fd16 := g22
        have kk22 := kk21.trans k22
        clear g22 k22 h21 kk21
        go_wp2_with fail
        refine (Append_at ⟨#[116, 119, 111]⟩ _ (List.replicate 2 0) (h22.alloc _) (by decide) (rd_made _ _ _) (by decide)).mono ?_
        rw [show fd16.appendErr ⟨#[116, 119, 111]⟩ (List.replicate 2 0) = 5 from fd_l23]
        rintro e w23 ⟨rfl, g23, k23⟩
        have h23 : DiskAt ex w23 p m fd17 := g23
        have kk23 := (kk22.trans (Keep.alloc _ _ (fun k hk => h22.lt hk))).trans k23
        clear g23 k23 h22 kk22
        go_wp2_with fail
        refine (tells_any _ 5 _ [5] (Rd_new _ _ _ _ (iCells [5]) _ _ rfl rfl) (by decide)).mono ?_
        rw [show (([5] : List Int).all (fun x => x == 5)) = true from rfl]
        rintro e w24 ⟨rfl, hw24⟩
        have h24 : DiskAt ex w24 p m fd17 := by rw [← hw24]; exact h23.alloc _
        have kk24 : Keep ex w w24 := by rw [← hw24]; exact kk23.trans (Keep.alloc _ _ (fun k hk => h23.lt hk))
        clear hw24 h23 kk23
        go_wp2_with fail
        refine (Down_at h24).mono ?_
        rw [fd_l24]
        rintro e w' ⟨rfl, rfl⟩
        go_wp2_with fail
        refine (Rename_at ⟨#[116, 119, 111]⟩ ⟨#[111, 110, 101]⟩ h24 (by decide) (by decide)).mono ?_
        rw [fd_l25]
        rintro e w25 ⟨rfl, g25, k25⟩
        have h25 : DiskAt ex w25 p m fd18 := g25
        have kk25 := kk24.trans k25
        clear g25 k25 h24 kk24
        go_wp2_with fail
        refine (tells_any _ 15 _ [15] (Rd_new _ _ _ _ (iCells [15]) _ _ rfl rfl) (by decide)).mono ?_
        rw [show (([15] : List Int).all (fun x => x == 15)) = true from rfl]
        rintro e w26 ⟨rfl, hw26⟩
        have h26 : DiskAt ex w26 p m fd18 := by rw [← hw26]; exact h25.alloc _
        have kk26 : Keep ex w w26 := by rw [← hw26]; exact kk25.trans (Keep.alloc _ _ (fun k hk => h25.lt hk))
        clear hw26 h25 kk25
        go_wp2_with fail
        refine (Down_at h26).mono ?_
        rw [fd_l26]
        rintro e w' ⟨rfl, rfl⟩
        go_wp2_with fail
        refine (List_at h26).mono ?_
        rw [fd_l27]
        rintro e w27 ⟨la27, lc27, rfl, row27, _, b27⟩
        obtain ⟨gb27, c27, hv27, _, hgl27, hc27⟩ := row_cell row27 0 (by decide)
        cases hv27
        have hcap27 : 2 ≤ lc27 := by obtain ⟨_, _, he, hle, _⟩ := row_slice (ownsRow_base0 row27); cases he; exact hle
        have h27 := h26.below b27
        have kk27 := kk26.trans (Keep.ofBelow b27 (fun k hk => h26.lt hk))
        have Hc27 := Lib.hid hc27
        clear b27 h26 kk26 row27 hc27
        go_wp2_with fail
        refine (Try.strings_Join gb27 0 lc27 [⟨#[111, 110, 101]⟩, ⟨#[116, 119, 111]⟩] ⟨#[32]⟩ _ (fun j x hx => by rw [Nat.zero_add, Hc27.out j (by have := (List.getElem?_eq_some_iff.1 hx).1; simpa using this), List.getElem?_map, hx]; rfl) hgl27 (by decide) hcap27 (by rw [fd_l28]; decide)).mono ?_
        rw [fd_l28]
        rintro e w28 ⟨rfl, b28⟩
        have h28 := h27.below b28
        have kk28 := kk27.trans (Keep.ofBelow b28 (fun k hk => h27.lt hk))
        clear b28 h27 kk27 Hc27
        go_wp2_with fail
        refine (Arm_at (9) h28 (by decide) (by decide)).mono ?_
        rintro e w29 ⟨rfl, g29, k29⟩
        have h29 : DiskAt ex w29 p m fd19 := g29
        have kk29 := kk28.trans k29
        clear g29 k29 h28 kk28
        go_wp2_with fail
        refine (Sync_at ⟨#[111, 110, 101]⟩ h29 (by decide)).mono ?_
        rw [fd_l29]
        rintro e w30 ⟨rfl, g30, k30⟩
        have h30 : DiskAt ex w30 p m fd20 := g30
        have kk30 := kk29.trans k30
        clear g30 k30 h29 kk29
        go_wp2_with fail
        refine (Append_at ⟨#[90]⟩ _ [] h30 (by decide) (Or.inl ⟨Or.inl rfl, rfl⟩) (by decide)).mono ?_
        rw [fd_l30]
        rintro e w31 ⟨rfl, g31, k31⟩
        have h31 : DiskAt ex w31 p m fd21 := g31
        have kk31 := kk30.trans k31
        clear g31 k31 h30 kk30
        go_wp2_with fail
        refine (Cut_at ⟨#[115, 105, 120]⟩ (0) h31 (by decide)).mono ?_
        rw [fd_l31]
        rintro e w32 ⟨rfl, g32, k32⟩
        have h32 : DiskAt ex w32 p m fd22 := g32
        have kk32 := kk31.trans k32
        clear g32 k32 h31 kk31
        go_wp2_with fail
        refine (Remove_at ⟨#[115, 105, 120]⟩ h32 (by decide)).mono ?_
        rw [fd_l32]
        rintro e w33 ⟨rfl, g33, k33⟩
        have h33 : DiskAt ex w33 p m fd23 := g33
        have kk33 := kk32.trans k33
        clear g33 k33 h32 kk32
        go_wp2_with fail
        refine (tells_any _ 15 _ [15, 15, 15, 15] (Rd_new _ _ _ _ (iCells [15, 15, 15, 15]) _ _ rfl rfl) (by decide)).mono ?_
        rw [show (([15, 15, 15, 15] : List Int).all (fun x => x == 15)) = true from rfl]
        rintro e w34 ⟨rfl, hw34⟩
        have h34 : DiskAt ex w34 p m fd23 := by rw [← hw34]; exact h33.alloc _
        have kk34 : Keep ex w w34 := by rw [← hw34]; exact kk33.trans (Keep.alloc _ _ (fun k hk => h33.lt hk))
        clear hw34 h33 kk33
        go_wp2_with fail
        refine (Crash_at (ex := fun k => ex k ∨ k = w34.heap.size) _ [5, 3] (h34.more ((Below.refl _ _).alloc (Nat.le_refl _) _) (fun k hk => hk.imp_right (fun e => by subst e; simp))) (Rd_new _ _ _ _ (iCells [5, 3]) _ _ rfl rfl) (by decide) (by simp [isI64]) (by intro k hk; cases hk; exact Or.inr rfl)).mono ?_
        rintro e w35 ⟨rfl, g35, k35⟩
        have h35 : DiskAt ex w35 p m fd24 := g35.mono (fun k hk => Or.inl hk)
        have kk35 := (kk34.trans (Keep.alloc _ _ (fun k hk => h34.lt hk))).trans (k35.mono (fun k hk => Or.inl hk))
        clear g35 k35 h34 kk34
        go_wp2_with fail
        refine (file_at ⟨#[111, 110, 101]⟩ ⟨#[112]⟩ 1 h35 (by decide) (by decide)).mono ?_
        rw [fd_l33]
        rintro e w36 ⟨rfl, b36⟩
        have h36 := h35.below b36
        have kk36 := kk35.trans (Keep.ofBelow b36 (fun k hk => h35.lt hk))
        clear b36 h35 kk35
        go_wp2_with fail
        refine (file_at ⟨#[116, 119, 111]⟩ ⟨#[0, 0, 0]⟩ 3 h36 (by decide) (by decide)).mono ?_
        rw [fd_l34]
        rintro e w37 ⟨rfl, b37⟩
        have h37 := h36.below b37
        have kk37 := kk36.trans (Keep.ofBelow b37 (fun k hk => h36.lt hk))
        clear b37 h36 kk36
        go_wp2_with fail
        refine (Sync_at ⟨#[111, 110, 101]⟩ h37 (by decide)).mono ?_
        rw [fd_l35]
        rintro e w38 ⟨rfl, g38, k38⟩
        have h38 : DiskAt ex w38 p m fd25 := g38
        have kk38 := kk37.trans k38
        clear g38 k38 h37 kk37
        go_wp2_with fail
        refine (New_at (ex := ex) 0 (by decide) (by decide) (fun k hk => h38.lt hk)).mono ?_
        generalize hp2 : w38.heap.size + 1 = p2
        generalize hm2 : w38.heap.size = m2
        rintro e wN ⟨rfl, hN0, kN⟩
        have kN0 := kk38.trans kN
        have hN : DiskAt ex wN p2 m2 (fxD 0) := hN0
        clear hp2 hm2 h38 kk38 kN hN0
        go_wp2_with fail
        go_loopw [16] (fun t wr => ∃ k : Nat, k ≤ 200 ∧ t = .int .i64 k ∧ DiskAt ex wr p2 m2 (fxD k) ∧ Keep ex w wr) (fun t _ => 200 - (intOf t).toNat)
        case atStart => exact ⟨0, by omega, rfl, hN, kN0⟩
        case round =>
          obtain ⟨k, hk, rfl, hD, hK⟩ := hrel
          clear hN kN0
          by_cases hlt : k < 200
          · have her := fx_err k hlt
            have hnx : (fxD k).append (nm k) [] = fxD (k + 1) := rfl
            have hns := nm_size k
            have hcat : (⟨(List.replicate (1 + k % 40) 45).toArray⟩ : ByteArray) ++ ⟨(List.replicate (k / 40) 120).toArray⟩ = nm k := bytes_ext (by rw [nm_data]; simp [nmL])
            have hsz1 : (⟨(List.replicate (1 + k % 40) 45).toArray⟩ : ByteArray).size ≤ 40 := by show (List.replicate (1 + k % 40) 45).toArray.size ≤ 40; simp; omega
            have hsz2 : (⟨(List.replicate (k / 40) 120).toArray⟩ : ByteArray).size ≤ 40 := by show (List.replicate (k / 40) 120).toArray.size ≤ 40; simp; omega
            have hr1 := fun w => rep_int w 45 (1 + (k : Int) % 40) (1 + k % 40) (by omega) (by omega)
            have hr2 := fun w => rep_int w 120 ((k : Int) / 40) (k / 40) (by omega) (by omega)
            obtain ⟨S1, hS1⟩ : ∃ S1 : ByteArray, (⟨(List.replicate (1 + k % 40) 45).toArray⟩ : ByteArray) = S1 := ⟨_, rfl⟩
            obtain ⟨S2, hS2⟩ : ∃ S2 : ByteArray, (⟨(List.replicate (k / 40) 120).toArray⟩ : ByteArray) = S2 := ⟨_, rfl⟩
            rw [hS1] at hcat hsz1
            rw [hS2] at hcat hsz2
            simp only [hS1] at hr1
            simp only [hS2] at hr2
            have Hcat := Lib.hid hcat
            have Hnx := Lib.hid hnx
            have hns' : (nm k).size ≤ maxLen := by simp only [maxLen]; omega
            clear hS1 hS2 hcat hnx hns
            go_wp2_with fail
            refine (hr1 _).mono ?_
            rintro e wa ⟨rfl, ba⟩
            have hDa := hD.below ba
            go_wp2_with fail
            refine (hr2 _).mono ?_
            rintro e wb2 ⟨rfl, bb⟩
            have hDb := hDa.below bb
            have hKb := (hK.trans (Keep.ofBelow ba (fun k hk => hD.lt hk))).trans (Keep.ofBelow bb (fun k hk => hDa.lt hk))
            clear hr1 hr2 ba bb hD hDa hK
            go_wp2_with fail
            rw [Hcat.out]
            refine (Append_at (nm k) _ [] hDb hns' (Or.inl ⟨Or.inl rfl, rfl⟩) (by decide)).mono ?_
            rw [her, Hnx.out]
            by_cases hok : k % 40 + k / 40 < 40
            · rw [if_pos hok]
              rintro e wx ⟨rfl, hD1, hK1⟩
              clear her
              go_wp2
              go_roundw
              case rel => exact ⟨k + 1, by omega, by go_num, hD1, hKb.trans hK1⟩
              case measure => simp [intOf]; omega
            · rw [if_neg hok]
              rintro e wx ⟨rfl, hD1, hK1⟩
              have hok' : ¬ (k : Int) % 40 + (k : Int) / 40 < 40 := by omega
              clear her hok
              go_wp2
              go_roundw
              case rel => exact ⟨k + 1, by omega, by go_num, hD1, hKb.trans hK1⟩
              case measure => simp [intOf]; omega
          · obtain rfl : k = 200 := by omega
            have hB := (fx_bare 200 (by omega)).1
            rw [fxn_200] at hB
            have hnl : (fxD 200).names.length = 190 := by show ((fxD 200).fs.map (·.1)).length = 190; rw [List.length_map]; exact hB.len
            have hL := List_at hD
            rw [hnl] at hL
            clear hB hnl
            go_wp2_with fail
            refine hL.mono ?_
            rintro e wl ⟨la, lc, rfl, _, _, bl⟩
            have hDl : DiskAt ex wl p2 m2 (fyD 0) := hD.below bl
            have hKl := hK.trans (Keep.ofBelow bl (fun k hk => hD.lt hk))
            clear hL bl hD hK
            go_wp2_with fail
            go_loopw [18] (fun t wr => ∃ k : Nat, k ≤ 10 ∧ t = .int .i64 k ∧ DiskAt ex wr p2 m2 (fyD k) ∧ Keep ex w wr) (fun t _ => 10 - (intOf t).toNat)
            case atStart => exact ⟨0, by omega, rfl, hDl, hKl⟩
            case round =>
              obtain ⟨k, hk, rfl, hD, hK⟩ := hrel
              clear hDl hKl
              by_cases hlt : k < 10
              · have her := (fy_bare k hk).2.2 hlt
                have hnx : (fyD k).append (mm k) [] = fyD (k + 1) := rfl
                have hns := mm_size k
                have hcat : (⟨#[48]⟩ : ByteArray) ++ ⟨(List.replicate k 57).toArray⟩ = mm k := bytes_ext (by rw [mm_data]; simp [mmL])
                have hsz2 : (⟨(List.replicate k 57).toArray⟩ : ByteArray).size ≤ 40 := by show (List.replicate k 57).toArray.size ≤ 40; simp; omega
                have hr2 := fun w => rep_any w 57 k (by omega)
                obtain ⟨S2, hS2⟩ : ∃ S2 : ByteArray, (⟨(List.replicate k 57).toArray⟩ : ByteArray) = S2 := ⟨_, rfl⟩
                rw [hS2] at hcat hsz2
                simp only [hS2] at hr2
                have hsz3 : (⟨#[48]⟩ : ByteArray).size = 1 := rfl
                have Hcat := Lib.hid hcat
                have Hnx := Lib.hid hnx
                have hns' : (mm k).size ≤ maxLen := by simp only [maxLen]; omega
                clear hS2 hcat hnx hns
                go_wp2_with fail
                refine (hr2 _).mono ?_
                rintro e wb2 ⟨rfl, bb⟩
                have hDb := hD.below bb
                have hKb := hK.trans (Keep.ofBelow bb (fun k hk => hD.lt hk))
                clear hr2 bb hD hK
                go_wp2_with fail
                rw [Hcat.out]
                refine (Append_at (mm k) _ [] hDb hns' (Or.inl ⟨Or.inl rfl, rfl⟩) (by decide)).mono ?_
                rw [her, Hnx.out]
                rintro e wx ⟨rfl, hD1, hK1⟩
                clear her
                go_wp2
                go_roundw
                case rel => exact ⟨k + 1, by omega, by go_num, hD1, hKb.trans hK1⟩
                case measure => simp [intOf]; omega
              · obtain rfl : k = 10 := by omega
                obtain ⟨q1, q2, q3, q4, q5, q6⟩ := fy_end
                obtain ⟨D, hDD⟩ : ∃ D, fyD 10 = D := ⟨_, rfl⟩
                rw [hDD] at q1 q2 q3 q4 q5 q6 hD
                clear hDD
                have q7 : (D.append ⟨#[45]⟩ []).names.length = 200 := by show ((D.append ⟨#[45]⟩ []).fs.map (·.1)).length = 200; rw [List.length_map]; exact q6
                obtain ⟨D', hD'⟩ : ∃ D', D.append ⟨#[45]⟩ [] = D' := ⟨_, rfl⟩
                rw [hD'] at q7
                have Q1 := Lib.hid q1
                have Q2 := Lib.hid q2
                have Q3 := Lib.hid q3
                have Q4 := Lib.hid q4
                have Q5 := Lib.hid q5
                have Q7 := Lib.hid q7
                have QD := Lib.hid hD'
                clear q1 q2 q3 q4 q5 q6 q7 hD'
                go_wp2_with fail
                refine (Append_at ⟨#[113]⟩ _ [] hD (by decide) (Or.inl ⟨Or.inl rfl, rfl⟩) (by decide)).mono ?_
                rw [Q1.out, Q2.out]
                rintro e wx ⟨rfl, hD1, hK1⟩
                go_wp2_with fail
                refine (Append_at ⟨#[45]⟩ _ [113] (hD1.alloc _) (by decide) (Rd_new _ _ _ _ (bcells [113]) _ _ rfl rfl) (by decide)).mono ?_
                rw [Q3.out, Q4.out]
                rintro e wy ⟨rfl, hD2, hK2⟩
                have kY := ((hK.trans hK1).trans (Keep.alloc _ _ (fun k hk => hD1.lt hk))).trans hK2
                clear hD hK hD1 hK1 hK2
                go_wp2_with fail
                refine (tells_any _ 5 _ [5, 5] (Rd_new _ _ _ _ (iCells [5, 5]) _ _ rfl rfl) (by decide)).mono ?_
                rw [show (([5, 5] : List Int).all (fun x => x == 5)) = true from rfl]
                rintro e wz ⟨rfl, hwz⟩
                have bz : Below wy.heap.size wy wz := by rw [← hwz]; exact (Below.refl _ _).alloc (Nat.le_refl _) _
                have hD3 := hD2.below bz
                have kZ2 := kY.trans (Keep.ofBelow bz (fun k hk => hD2.lt hk))
                clear hwz bz hD2 kY
                go_wp2_with fail
                refine (Append_at ⟨#[45]⟩ _ [] hD3 (by decide) (Or.inl ⟨Or.inl rfl, rfl⟩) (by decide)).mono ?_
                rw [Q5.out, QD.out]
                rintro e wu ⟨rfl, hD4, hK4⟩
                have kU := kZ2.trans hK4
                have hL := List_at hD4
                rw [Q7.out] at hL
                clear hD3 kZ2 hK4
                go_wp2_with fail
                refine hL.mono ?_
                rintro e wv ⟨la2, lc2, rfl, _, _, bv⟩
                have kV := kU.trans (Keep.ofBelow bv (fun k hk => hD4.lt hk))
                have hD5 := hD4.below bv
                clear hL bv hD4 kU
                go_wp2_with fail
                refine (awake_any _).mono ?_
                rintro e w7 ⟨rfl, hb7⟩
                have kW := kV.trans (Keep.ofBelow hb7 (fun k hk => hD5.lt hk))
                go_wp2
                go_ret
                exact ⟨rfl, kW.below (fun k hk => by rw [Hex.out]; exact hk)⟩
end Go.Proofs.Ytlljlkeknklplaa
