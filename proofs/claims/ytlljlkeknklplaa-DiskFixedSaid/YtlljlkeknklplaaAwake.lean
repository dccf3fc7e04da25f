/-
  The walk of awake (the chapter's examples): written by gen_awake.py.
-/
import Derived.Outline
import Derived.Lib.SlBytesConst
import Derived.Test.YtlljlkeknklplaaLaw0
import Derived.Test.YtlljlkeknklplaaShelf
namespace Go.Proofs.Ytlljlkeknklplaa
open Go.RowKit Go.Maps Go.MapKept

def aw0 : ADisk := ⟨100, -1, false, []⟩
def aw1 : ADisk := aw0.append ⟨#[97]⟩ [120, 121, 122]
def aw2 : ADisk := aw1.sync ⟨#[97]⟩
def aw3 : ADisk := aw2.append ⟨#[97]⟩ [117, 118]
def aw4 : ADisk := aw3.append ⟨#[98]⟩ [119]
def aw5 : ADisk := aw4.crash [1]
def aw6 : ADisk := aw5.rename ⟨#[97]⟩ ⟨#[98]⟩
def aw7 : ADisk := aw6.arm (1)
def aw8 : ADisk := aw7.sync ⟨#[98]⟩
def aw9 : ADisk := aw8.remove ⟨#[98]⟩
def aw10 : ADisk := aw9.crash []
def aw11 : ADisk := aw10.append ⟨#[65]⟩ []
theorem aw_l0 : aw0.appendErr ⟨#[97]⟩ [120, 121, 122] = 0 := by decide +kernel
theorem aw_l1 : aw1.syncErr ⟨#[97]⟩ = 0 := by decide +kernel
theorem aw_l2 : aw2.appendErr ⟨#[97]⟩ [117, 118] = 0 := by decide +kernel
theorem aw_l3 : aw3.appendErr ⟨#[98]⟩ [119] = 0 := by decide +kernel
theorem aw_l4 : fileIs aw4 ⟨#[97]⟩ ⟨#[120, 121, 122, 117, 118]⟩ 3 = true := by decide +kernel
theorem aw_l5 : fileIs aw4 ⟨#[98]⟩ ⟨#[119]⟩ 0 = true := by decide +kernel
theorem aw_l6 : ((usedF aw4.fs : Nat) : Int) = 6 := by decide +kernel
theorem aw_l7 : fileIs aw5 ⟨#[97]⟩ ⟨#[120, 121, 122, 117]⟩ 4 = true := by decide +kernel
theorem aw_l8 : fileIs aw5 ⟨#[98]⟩ ⟨#[]⟩ 0 = true := by decide +kernel
theorem aw_l9 : aw5.renameErr ⟨#[97]⟩ ⟨#[98]⟩ = 0 := by decide +kernel
theorem aw_l10 : fileIs aw6 ⟨#[98]⟩ ⟨#[120, 121, 122, 117]⟩ 4 = true := by decide +kernel
theorem aw_l11 : aw6.names = [⟨#[98]⟩] := by decide +kernel
theorem aw_l12 : Lib.join (([⟨#[98]⟩] : List ByteArray).map (·.data.toList)) [32] = [98] := by decide +kernel
theorem aw_l13 : aw7.syncErr ⟨#[98]⟩ = 0 := by decide +kernel
theorem aw_l14 : aw8.down = false := by decide +kernel
theorem aw_l15 : aw8.removeErr ⟨#[98]⟩ = 15 := by decide +kernel
theorem aw_l16 : aw9.down = true := by decide +kernel
theorem aw_l17 : findErr aw9 ⟨#[98]⟩ = 15 := by decide +kernel
theorem aw_l18 : aw9.readBytes ⟨#[98]⟩ = [] := by decide +kernel
theorem aw_l19 : fileIs aw10 ⟨#[98]⟩ ⟨#[120, 121, 122, 117]⟩ 4 = true := by decide +kernel
theorem aw_l20 : aw10.appendErr ⟨#[65]⟩ [] = 13 := by decide +kernel

set_option maxRecDepth 100000 in
set_option maxHeartbeats 1000000 in
theorem awake_any (w : World) : Calls Try.prog 18 #[] w fun e w' => e = .returned (.bool true) ∧ Below w.heap.size w w' := by
  have kc := fun (w : World) (C : Array Value) (n c : Nat) => Lib.run_convert_bytes_const (P := Try.prog) w 29 5 C n c Try.underlying29 Try.underlying5
  obtain ⟨ex, hex⟩ : ∃ ex : Nat → Prop, ex = fun k => k < w.heap.size := ⟨_, rfl⟩
  have Hex := Lib.hid hex
  have hx0 : ∀ k, ex k → k < w.heap.size := fun k hk => by rw [hex] at hk; exact hk
  clear hex
  go_enter Try.func18, Try.ntmps18
  go_wp2_with fail
  refine (New_at (ex := ex) 100 (by decide) (by decide) hx0).mono ?_
  generalize hp : w.heap.size + 1 = p
  generalize hm : w.heap.size = m
  rintro e w0 ⟨rfl, h0, kk0⟩
  clear hp hm
  replace h0 : DiskAt ex w0 p m aw0 := h0
  go_wp2_with fail
  refine (Append_at ⟨#[97]⟩ _ [120, 121, 122] (h0.alloc _) (by decide) (Rd_new _ _ _ _ (bcells [120, 121, 122]) _ _ rfl rfl) (by decide)).mono ?_
  rw [aw_l0]
  rintro e w1 ⟨rfl, g1, k1⟩
  have h1 : DiskAt ex w1 p m aw1 := g1
  have kk1 := (kk0.trans (Keep.alloc _ _ (fun k hk => h0.lt hk))).trans k1
  clear g1 k1 h0 kk0
  go_wp2_with fail
  refine (Sync_at ⟨#[97]⟩ h1 (by decide)).mono ?_
  rw [aw_l1]
  rintro e w2 ⟨rfl, g2, k2⟩
  have h2 : DiskAt ex w2 p m aw2 := g2
  have kk2 := kk1.trans k2
  clear g2 k2 h1 kk1
  go_wp2_with fail
  refine (Append_at ⟨#[97]⟩ _ [117, 118] (h2.alloc _) (by decide) (Rd_new _ _ _ _ (bcells [117, 118]) _ _ rfl rfl) (by decide)).mono ?_
  rw [aw_l2]
  rintro e w3 ⟨rfl, g3, k3⟩
  have h3 : DiskAt ex w3 p m aw3 := g3
  have kk3 := (kk2.trans (Keep.alloc _ _ (fun k hk => h2.lt hk))).trans k3
  clear g3 k3 h2 kk2
  go_wp2_with fail
  refine (Append_at ⟨#[98]⟩ _ [119] (h3.alloc _) (by decide) (Rd_new _ _ _ _ (bcells [119]) _ _ rfl rfl) (by decide)).mono ?_
  rw [aw_l3]
  rintro e w4 ⟨rfl, g4, k4⟩
  have h4 : DiskAt ex w4 p m aw4 := g4
  have kk4 := (kk3.trans (Keep.alloc _ _ (fun k hk => h3.lt hk))).trans k4
  clear g4 k4 h3 kk3
  go_wp2_with fail
  refine (file_at ⟨#[97]⟩ ⟨#[120, 121, 122, 117, 118]⟩ 3 h4 (by decide) (by decide)).mono ?_
  rw [aw_l4]
  rintro e w5 ⟨rfl, b5⟩
  have h5 := h4.below b5
  have kk5 := kk4.trans (Keep.ofBelow b5 (fun k hk => h4.lt hk))
  clear b5 h4 kk4
  go_wp2_with fail
  refine (file_at ⟨#[98]⟩ ⟨#[119]⟩ 0 h5 (by decide) (by decide)).mono ?_
  rw [aw_l5]
  rintro e w6 ⟨rfl, b6⟩
  have h6 := h5.below b6
  have kk6 := kk5.trans (Keep.ofBelow b6 (fun k hk => h5.lt hk))
  clear b6 h5 kk5
  go_wp2_with fail
  refine (Used_at h6).mono ?_
  rw [aw_l6]
  rintro e w7 ⟨rfl, b7⟩
  have h7 := h6.below b7
  have kk7 := kk6.trans (Keep.ofBelow b7 (fun k hk => h6.lt hk))
  clear b7 h6 kk6
  go_wp2_with fail
  refine (Crash_at (ex := fun k => ex k ∨ k = w7.heap.size) _ [1] (h7.more ((Below.refl _ _).alloc (Nat.le_refl _) _) (fun k hk => hk.imp_right (fun e => by subst e; simp))) (Rd_new _ _ _ _ (iCells [1]) _ _ rfl rfl) (by decide) (by simp [isI64]) (by intro k hk; cases hk; exact Or.inr rfl)).mono ?_
  rintro e w8 ⟨rfl, g8, k8⟩
  have h8 : DiskAt ex w8 p m aw5 := g8.mono (fun k hk => Or.inl hk)
  have kk8 := (kk7.trans (Keep.alloc _ _ (fun k hk => h7.lt hk))).trans (k8.mono (fun k hk => Or.inl hk))
  clear g8 k8 h7 kk7
  go_wp2_with fail
  refine (file_at ⟨#[97]⟩ ⟨#[120, 121, 122, 117]⟩ 4 h8 (by decide) (by decide)).mono ?_
  rw [aw_l7]
  rintro e w9 ⟨rfl, b9⟩
  have h9 := h8.below b9
  have kk9 := kk8.trans (Keep.ofBelow b9 (fun k hk => h8.lt hk))
  clear b9 h8 kk8
  go_wp2_with fail
  refine (file_at ⟨#[98]⟩ ⟨#[]⟩ 0 h9 (by decide) (by decide)).mono ?_
  rw [aw_l8]
  rintro e w10 ⟨rfl, b10⟩
  have h10 := h9.below b10
  have kk10 := kk9.trans (Keep.ofBelow b10 (fun k hk => h9.lt hk))
  clear b10 h9 kk9
  go_wp2_with fail
  refine (Rename_at ⟨#[97]⟩ ⟨#[98]⟩ h10 (by decide) (by decide)).mono ?_
  rw [aw_l9]
  rintro e w11 ⟨rfl, g11, k11⟩
  have h11 : DiskAt ex w11 p m aw6 := g11
  have kk11 := kk10.trans k11
  clear g11 k11 h10 kk10
  go_wp2_with fail
  refine (file_at ⟨#[98]⟩ ⟨#[120, 121, 122, 117]⟩ 4 h11 (by decide) (by decide)).mono ?_
  rw [aw_l10]
  rintro e w12 ⟨rfl, b12⟩
  have h12 := h11.below b12
  have kk12 := kk11.trans (Keep.ofBelow b12 (fun k hk => h11.lt hk))
  clear b12 h11 kk11
  go_wp2_with fail
  refine (List_at h12).mono ?_
  rw [aw_l11]
  rintro e w13 ⟨la13, lc13, rfl, row13, _, b13⟩
  obtain ⟨gb13, c13, hv13, _, hgl13, hc13⟩ := row_cell row13 0 (by decide)
  cases hv13
  have hcap13 : 1 ≤ lc13 := by obtain ⟨_, _, he, hle, _⟩ := row_slice (ownsRow_base0 row13); cases he; exact hle
  have h13 := h12.below b13
  have kk13 := kk12.trans (Keep.ofBelow b13 (fun k hk => h12.lt hk))
  have Hc13 := Lib.hid hc13
  clear b13 h12 kk12 row13 hc13
  go_wp2_with fail
  refine (Try.strings_Join gb13 0 lc13 [⟨#[98]⟩] ⟨#[32]⟩ _ (fun j x hx => by rw [Nat.zero_add, Hc13.out j (by have := (List.getElem?_eq_some_iff.1 hx).1; simpa using this), List.getElem?_map, hx]; rfl) hgl13 (by decide) hcap13 (by rw [aw_l12]; decide)).mono ?_
  rw [aw_l12]
  rintro e w14 ⟨rfl, b14⟩
  have h14 := h13.below b14
  have kk14 := kk13.trans (Keep.ofBelow b14 (fun k hk => h13.lt hk))
  clear b14 h13 kk13 Hc13
  go_wp2_with fail
  refine (Arm_at (1) h14 (by decide) (by decide)).mono ?_
  rintro e w15 ⟨rfl, g15, k15⟩
  have h15 : DiskAt ex w15 p m aw7 := g15
  have kk15 := kk14.trans k15
  clear g15 k15 h14 kk14
  go_wp2_with fail
  refine (Sync_at ⟨#[98]⟩ h15 (by decide)).mono ?_
  rw [aw_l13]
  rintro e w16 ⟨rfl, g16, k16⟩
  have h16 : DiskAt ex w16 p m aw8 := g16
  have kk16 := kk15.trans k16
  clear g16 k16 h15 kk15
  go_wp2_with fail
  refine (Down_at h16).mono ?_
  rw [aw_l14]
  rintro e w' ⟨rfl, rfl⟩
  go_wp2_with fail
  refine (Remove_at ⟨#[98]⟩ h16 (by decide)).mono ?_
  rw [aw_l15]
  rintro e w17 ⟨rfl, g17, k17⟩
  have h17 : DiskAt ex w17 p m aw9 := g17
  have kk17 := kk16.trans k17
  clear g17 k17 h16 kk16
  go_wp2_with fail
  refine (Down_at h17).mono ?_
  rw [aw_l16]
  rintro e w' ⟨rfl, rfl⟩
  go_wp2_with fail
  refine (Read_at ⟨#[98]⟩ h17 (by decide)).mono ?_
  rw [aw_l17, aw_l18]
  rintro e w18 ⟨ra18, rc18, rfl, _, b18⟩
  have h18 := h17.below b18
  have kk18 := kk17.trans (Keep.ofBelow b18 (fun k hk => h17.lt hk))
  clear b18 h17 kk17
  go_wp2_with fail
  refine (Crash_at _ [] h18 (Or.inl ⟨Or.inl rfl, rfl⟩) (by decide) (by simp) (by intro k hk; cases hk)).mono ?_
  rintro e w19 ⟨rfl, g19, k19⟩
  have h19 : DiskAt ex w19 p m aw10 := g19
  have kk19 := kk18.trans k19
  clear g19 k19 h18 kk18
  go_wp2_with fail
  refine (file_at ⟨#[98]⟩ ⟨#[120, 121, 122, 117]⟩ 4 h19 (by decide) (by decide)).mono ?_
  rw [aw_l19]
  rintro e w20 ⟨rfl, b20⟩
  have h20 := h19.below b20
  have kk20 := kk19.trans (Keep.ofBelow b20 (fun k hk => h19.lt hk))
  clear b20 h19 kk19
  go_wp2_with fail
  refine (Append_at ⟨#[65]⟩ _ [] h20 (by decide) (Or.inl ⟨Or.inl rfl, rfl⟩) (by decide)).mono ?_
  rw [aw_l20]
  rintro e w21 ⟨rfl, g21, k21⟩
  have h21 : DiskAt ex w21 p m aw11 := g21
  have kk21 := kk20.trans k21
  clear g21 k21 h20 kk20
  go_wp2
  go_ret
  exact ⟨rfl, kk21.below (fun k hk => by rw [Hex.out]; exact hk)⟩
end Go.Proofs.Ytlljlkeknklplaa
