/-
  Package roots: the four steps of Write.
-/
import Derived.Outline
import Derived.BigQuiet
import Derived.Deep.QuietTactic
import Derived.Deep.RegionHeld3
import Derived.Test.YtnagejhpdhdpfaaGreatDoorRt4
namespace Go.Proofs.YtnagejhpdhdpfaaGreatDoor
open Go.RowKit Go.Maps Go.MapKept

def freshN : ByteArray := ⟨#[114, 111, 111, 116, 46, 110, 101, 119]⟩
theorem fresh_size : freshN.size ≤ maxLen := by decide
/-- the error of the first step. -/
def goneE (d : ADisk) : Int := if d.removeErr freshN = 13 then 0 else d.removeErr freshN

set_option maxRecDepth 100000 in
set_option maxHeartbeats 4000000 in
theorem rWrite1_at {ex : Nat → Prop} {w : World} {p m : Nat} {d : ADisk} (bd : Nat) (h : DiskAt ex w p m d) (hc : w.cell? ⟨bd, 0, none⟩ = some (.pointer (some ⟨p, 0, none⟩))) :
    Calls Tryz.prog 50 #[.pointer (some ⟨bd, 0, none⟩)] w fun e w' => e = .returned (.int .i64 (goneE d)) ∧ DiskAt ex w' p m (d.remove freshN) ∧ Keep ex w w' := by
  have hR := Remove_at freshN h fresh_size
  obtain ⟨fe, hfe⟩ : ∃ fe, d.removeErr freshN = fe := ⟨_, rfl⟩
  have hg : goneE d = if fe = 13 then 0 else fe := by unfold goneE; rw [hfe]
  rw [hfe] at hR
  have Hg := Lib.hid hg
  clear hfe hg
  unfold freshN at hR
  by_cases h13 : fe = 13
  · subst h13
    have Hg2 := Lib.hid (Hg.out.trans (if_pos rfl))
    go_enter Tryz.func50, Tryz.ntmps50
    go_wp2_with (go_at_call 28; refine hR.mono ?_; rintro e w1 ⟨rfl, hD, hK⟩)
    go_ret
    exact ⟨by rw [Hg2.out]; rfl, hD, hK⟩
  · have h13b : (fe != 13) = true := by simpa using h13
    have Hg2 := Lib.hid (Hg.out.trans (if_neg h13))
    clear h13
    go_enter Tryz.func50, Tryz.ntmps50
    go_wp2_with (go_at_call 28; refine hR.mono ?_; rintro e w1 ⟨rfl, hD, hK⟩)
    go_ret
    exact ⟨by rw [Hg2.out]; rfl, hD, hK⟩

set_option maxRecDepth 100000 in
set_option maxHeartbeats 4000000 in
theorem rWrite2_at {ex : Nat → Prop} {w : World} {p m : Nat} {d : ADisk} (bd bb : Nat) (vb : Value) (b : List UInt8) (h : DiskAt ex w p m d) (hc : w.cell? ⟨bd, 0, none⟩ = some (.pointer (some ⟨p, 0, none⟩))) (hcb : w.cell? ⟨bb, 0, none⟩ = some vb) (hrd : Rd w vb (bcells b)) (hb : b.length ≤ 140737488355328) :
    Calls Tryz.prog 51 #[.pointer (some ⟨bd, 0, none⟩), .pointer (some ⟨bb, 0, none⟩)] w fun e w' => e = .returned (.int .i64 (d.appendErr freshN b)) ∧ DiskAt ex w' p m (d.append freshN b) ∧ Keep ex w w' := by
  have hR := Append_at freshN vb b h fresh_size hrd hb
  obtain ⟨a, c, rfl⟩ := hrd.shape
  have HR := Lib.hid hR
  clear hrd hR
  go_enter Tryz.func51, Tryz.ntmps51
  go_wp2_with (go_at_call 24; refine HR.out.mono ?_; rintro e w1 ⟨rfl, hD, hK⟩)
  go_ret
  exact ⟨rfl, hD, hK⟩

set_option maxRecDepth 100000 in
set_option maxHeartbeats 4000000 in
theorem rWrite3_at {ex : Nat → Prop} {w : World} {p m : Nat} {d : ADisk} (bd : Nat) (h : DiskAt ex w p m d) (hc : w.cell? ⟨bd, 0, none⟩ = some (.pointer (some ⟨p, 0, none⟩))) :
    Calls Tryz.prog 52 #[.pointer (some ⟨bd, 0, none⟩)] w fun e w' => e = .returned (.int .i64 (d.syncErr freshN)) ∧ DiskAt ex w' p m (d.sync freshN) ∧ Keep ex w w' := by
  have hR := Sync_at freshN h fresh_size
  have HR := Lib.hid hR
  clear hR
  go_enter Tryz.func52, Tryz.ntmps52
  go_wp2_with (go_at_call 53; refine HR.out.mono ?_; rintro e w1 ⟨rfl, hD, hK⟩)
  go_ret
  exact ⟨rfl, hD, hK⟩

set_option maxRecDepth 100000 in
set_option maxHeartbeats 4000000 in
theorem rWrite4_at {ex : Nat → Prop} {w : World} {p m : Nat} {d : ADisk} (bd br n : Nat) (h : DiskAt ex w p m d) (hc : w.cell? ⟨bd, 0, none⟩ = some (.pointer (some ⟨p, 0, none⟩))) (hcr : w.cell? ⟨br, 0, none⟩ = some (.int .i64 n)) (hn : n ≤ 9223372036854775807) (hxd : ex bd) (hxr : ex br) :
    Calls Tryz.prog 54 #[.pointer (some ⟨bd, 0, none⟩), .pointer (some ⟨br, 0, none⟩)] w fun e w' => e = .returned (.int .i64 (d.renameErr freshN (rname n))) ∧ DiskAt ex w' p m (d.rename freshN (rname n)) ∧ Keep ex w w' := by
  have hR := Rename_at freshN (rname n) h.drew fresh_size (rname_size n)
  have HR := Lib.hid hR
  clear hR
  go_enter Tryz.func54, Tryz.ntmps54
  go_wp2
  go_region_held3 (fun w' => w'.cell? ⟨bd, 0, none⟩ = some (.pointer (some ⟨p, 0, none⟩)) ∧ w'.cell? ⟨br, 0, none⟩ = some (.int .i64 n)) (first | exact ⟨hc, hcr⟩ | exact S4 | go_keep)
    (first
      | (go_at_call 56; refine (rName_any _ n hn).mono ?_; rintro e w1 ⟨rfl, rfl⟩)
      | (go_at_call 55; refine HR.out.mono ?_; rintro e w2 ⟨rfl, hD, hK⟩; have S4 : w2.cell? ⟨bd, 0, none⟩ = some (.pointer (some ⟨p, 0, none⟩)) ∧ w2.cell? ⟨br, 0, none⟩ = some (.int .i64 n) := ⟨(hK.cell hxd 0).trans hc, (hK.cell hxr 0).trans hcr⟩))
  go_wp2
  go_ret
  exact ⟨rfl, hD, hK.os, hK.tape, hK.output, hK.size, hK.block⟩
end Go.Proofs.YtnagejhpdhdpfaaGreatDoor
