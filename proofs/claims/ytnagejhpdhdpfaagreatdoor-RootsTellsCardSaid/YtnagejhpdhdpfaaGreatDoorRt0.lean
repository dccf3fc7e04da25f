/-
  Package roots: the names; strings.HasPrefix.
-/
import Derived.Outline
import Derived.Test.YtnagejhpdhdpfaaGreatDoorByt1
namespace Go.Proofs.YtnagejhpdhdpfaaGreatDoor
open Go.RowKit Go.Maps Go.MapKept

/-- the file of a serial number. -/
def rname (n : Nat) : ByteArray := if n % 2 = 0 then ⟨#[114, 111, 111, 116, 48]⟩ else ⟨#[114, 111, 111, 116, 49]⟩
set_option maxRecDepth 100000 in
set_option maxHeartbeats 4000000 in
theorem Itoa_0 (w : World) : Calls Tryz.prog 88 #[.int .i64 0] w fun e w' => e = .returned (.string ⟨#[48]⟩) ∧ w = w' := by
  go_enter Tryz.func88, Tryz.ntmps88
  go_wp2
  go_ret
  exact ⟨rfl, rfl⟩
set_option maxRecDepth 100000 in
set_option maxHeartbeats 4000000 in
theorem Itoa_1 (w : World) : Calls Tryz.prog 88 #[.int .i64 1] w fun e w' => e = .returned (.string ⟨#[49]⟩) ∧ w = w' := by
  go_enter Tryz.func88, Tryz.ntmps88
  go_wp2
  go_ret
  exact ⟨rfl, rfl⟩
set_option maxRecDepth 100000 in
set_option maxHeartbeats 4000000 in
theorem rName_any (w : World) (n : Nat) (hn : n ≤ 9223372036854775807) :
    Calls Tryz.prog 56 #[.int .i64 n] w fun e w' => e = .returned (.string (rname n)) ∧ w = w' := by
  by_cases h : n % 2 = 0
  · have h2 : (n : Int) % 2 = 0 := by omega
    have hr : rname n = ⟨#[114, 111, 111, 116, 48]⟩ := by unfold rname; rw [if_pos h]
    rw [hr]
    clear h hr
    go_enter Tryz.func56, Tryz.ntmps56
    go_wp2_with (go_at_call 88; refine (Itoa_0 _).mono ?_; rintro e w1 ⟨rfl, rfl⟩)
    go_ret
    exact ⟨rfl, rfl⟩
  · have h2 : (n : Int) % 2 = 1 := by omega
    have hr : rname n = ⟨#[114, 111, 111, 116, 49]⟩ := by unfold rname; rw [if_neg h]
    rw [hr]
    clear h hr
    go_enter Tryz.func56, Tryz.ntmps56
    go_wp2_with (go_at_call 88; refine (Itoa_1 _).mono ?_; rintro e w1 ⟨rfl, rfl⟩)
    go_ret
    exact ⟨rfl, rfl⟩

/-- does it begin with 'HSR1'? -/
def isMagic (l : List UInt8) : Bool := decide (l.take 4 = [72, 83, 82, 49])
set_option maxRecDepth 100000 in
set_option maxHeartbeats 4000000 in
theorem magic_any (w : World) (l : List UInt8) (hl : l.length ≤ 9223372036854775807) :
    Calls Tryz.prog 44 #[.string ⟨l.toArray⟩, .string ⟨#[72, 83, 82, 49]⟩] w fun e w' => e = .returned (.bool (isMagic l)) ∧ w = w' := by
  have hx : (({ data := l.toArray } : ByteArray).extract 0 4).toList = l.take 4 := by
    rw [ByteArray.toList_eq]; simp
  by_cases h : (l.length : Int) < 4
  · have hfin : isMagic l = false := by
      unfold isMagic
      simp only [decide_eq_false_iff_not]
      intro e
      have := congrArg List.length e
      simp at this; omega
    have Hfin := Lib.hid hfin
    clear hfin hx
    go_enter Tryz.func44, Tryz.ntmps44
    go_wp2
    go_ret
    exact ⟨by rw [Hfin.out]; rfl, rfl⟩
  · have hfin : isMagic l = (l.take 4 == [72, 83, 82, 49]) := by unfold isMagic; rw [Bool.eq_iff_iff]; simp
    have Hfin := Lib.hid hfin
    clear hfin
    go_enter Tryz.func44, Tryz.ntmps44
    go_wp2
    go_ret
    exact ⟨by rw [Hfin.out]; rfl, rfl⟩
end Go.Proofs.YtnagejhpdhdpfaaGreatDoor
