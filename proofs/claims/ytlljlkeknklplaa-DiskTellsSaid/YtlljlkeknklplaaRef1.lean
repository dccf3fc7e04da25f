/-
  The document's disk: Right, Used, Find.
-/
import Derived.Outline
import Derived.Test.YtlljlkeknklplaaRef0
import Derived.Test.YtlljlkeknklplaaLow0
namespace Go.Proofs.Ytlljlkeknklplaa
open Go.RowKit Go.Maps Go.MapKept
variable {X : Nat → Prop}

theorem usedF_app (x y : List (ByteArray × AFile)) : usedF (x ++ y) = usedF x + usedF y := by unfold usedF; rw [List.map_append, List.sum_append]
set_option maxRecDepth 100000 in
set_option maxHeartbeats 2000000 in
theorem refUsed_any (w : World) (a : Option Addr) (n c : Nat) (d : ADisk) (h : RefAt X w a n c d) (hw : d.WF) :
    Calls Try.prog 58 #[refVal a n c d] w fun e w' => e = .returned (.int .i64 (usedF d.fs)) ∧ Below w.heap.size w w' := by
  have hu := hw.used
  have hm := hw.most1
  have hcnt := hw.count
  obtain rfl := h.len
  unfold refVal
  have hX := alloc_at w (.cells #[.int .i64 d.most, .slice a d.fs.length c, .int .i64 d.left, .bool d.down] 43)
  have hbX : Below w.heap.size w (w.alloc (.cells #[.int .i64 d.most, .slice a d.fs.length c, .int .i64 d.left, .bool d.down] 43)) := (Below.refl _ _).alloc (Nat.le_refl _) _
  obtain ⟨W, hW⟩ : ∃ W, w.alloc (.cells #[.int .i64 d.most, .slice a d.fs.length c, .int .i64 d.left, .bool d.down] 43) = W := ⟨_, rfl⟩
  rw [hW] at hX hbX
  have hR := h.below hbX
  have HW := Lib.hid hW
  clear hW
  go_enter Try.func58, Try.ntmps58
  go_wp2_with fail
  rw [HW.out]
  go_loopw [3, 4] (fun s i wr => ∃ k : Nat, k ≤ d.fs.length ∧ i = .int .i64 k ∧ s = .int .i64 (usedF (d.fs.take k)) ∧ wr = W) (fun _ i _ => d.fs.length - (intOf i).toNat)
  case atStart => exact ⟨0, by omega, rfl, rfl, rfl⟩
  case round =>
    obtain ⟨k, hk, rfl, rfl, rfl⟩ := hrel
    obtain ⟨x0, x1, x2, x3, _⟩ := cells4 hX
    by_cases hlt : k < d.fs.length
    · obtain ⟨b, off, vb, rfl, c0, c1, c2, hr⟩ := hR.at k hlt
      obtain ⟨ab, cb, rfl⟩ := hr.shape
      have hlen : (bcells (d.fs[k].2.firm ++ d.fs[k].2.loose)).length = d.fs[k].2.len := by simp [bcells, AFile.len]
      rw [hlen] at c1
      have hsucc : usedF (d.fs.take (k + 1)) = usedF (d.fs.take k) + d.fs[k].2.len := by
        rw [List.take_succ_eq_append_getElem hlt, usedF_app]; rfl
      have hle : usedF (d.fs.take (k + 1)) ≤ usedF d.fs := by
        have := congrArg usedF (List.take_append_drop (k + 1) d.fs)
        rw [usedF_app] at this
        omega
      obtain ⟨m, hm2⟩ : ∃ m, d.fs[k].2.len = m := ⟨_, rfl⟩
      rw [hm2] at c1 hsucc
      have Hsucc := Lib.hid hsucc
      have hb1 : usedF (d.fs.take k) + m ≤ 16777216 := by omega
      clear hsucc hle hm2 hlen
      go_wp2
      go_roundw
      case rel => exact ⟨k + 1, by omega, by go_num, by rw [Hsucc.out]; go_num, trivial⟩
      case measure => simp [intOf]; omega
    · obtain rfl : k = d.fs.length := by omega
      have ht : usedF (d.fs.take d.fs.length) = usedF d.fs := by rw [List.take_length]
      rw [ht]
      go_wp2
      go_ret
      exact ⟨rfl, hbX⟩
set_option maxRecDepth 100000 in
set_option maxHeartbeats 2000000 in
theorem refFind_any (w : World) (a : Option Addr) (n c : Nat) (d : ADisk) (s : ByteArray) (h : RefAt X w a n c d) (hw : d.WF) :
    Calls Try.prog 35 #[refVal a n c d, .string s] w fun e w' => (∃ i : Int, e = .returned (.int .i64 i) ∧ ((∃ (k : Nat) (hk : k < d.fs.length), i = k ∧ d.fs[k].1 = s) ∨ (i = -1 ∧ lk d.fs s = none))) ∧ Below w.heap.size w w' := by
  have hcnt := hw.count
  obtain rfl := h.len
  unfold refVal
  have hX := alloc_at w (.cells #[.int .i64 d.most, .slice a d.fs.length c, .int .i64 d.left, .bool d.down] 43)
  have hbX : Below w.heap.size w (w.alloc (.cells #[.int .i64 d.most, .slice a d.fs.length c, .int .i64 d.left, .bool d.down] 43)) := (Below.refl _ _).alloc (Nat.le_refl _) _
  obtain ⟨W, hW⟩ : ∃ W, w.alloc (.cells #[.int .i64 d.most, .slice a d.fs.length c, .int .i64 d.left, .bool d.down] 43) = W := ⟨_, rfl⟩
  rw [hW] at hX hbX
  have hR := h.below hbX
  have HW := Lib.hid hW
  obtain ⟨x0, x1, x2, x3, _⟩ := cells4 hX
  clear hW
  go_enter Try.func35, Try.ntmps35
  go_wp2_with fail
  rw [HW.out]
  go_loopw [5] (fun v wr => ∃ t : Nat, t ≤ d.fs.length ∧ v = .int .i64 ((t : Int) - 1) ∧ (∀ q ∈ d.fs.drop t, q.1 ≠ s) ∧ wr = W) (fun v _ => (intOf v + 1).toNat)
  case atStart => exact ⟨d.fs.length, by omega, rfl, by simp, rfl⟩
  case round =>
    obtain ⟨t, ht, rfl, hall, rfl⟩ := hrel
    cases t with
    | zero =>
      have hnone : lk d.fs s = none := by
        cases hl : lk d.fs s with
        | none => rfl
        | some f => exact absurd rfl (hall _ (by simpa using lk_some_mem hl))
      have Hnone := Lib.hid hnone
      clear hnone hall
      go_wp2
      go_ret
      exact ⟨⟨-1, rfl, Or.inr ⟨rfl, Hnone.out⟩⟩, hbX⟩
    | succ k =>
      have hlt : k < d.fs.length := by omega
      obtain ⟨b, off, vb, rfl, c0, c1, c2, hr⟩ := hR.at k hlt
      have hdrop : d.fs.drop k = d.fs[k] :: d.fs.drop (k + 1) := List.drop_eq_getElem_cons hlt
      have e1 : ((k + 1 : Nat) : Int) - 1 = (k : Int) := by omega
      rw [e1]
      obtain ⟨nm1, hnm⟩ : ∃ z, d.fs[k].1 = z := ⟨_, rfl⟩
      rw [hnm] at c0
      have Hall := Lib.hid hall
      have Hdrop := Lib.hid hdrop
      have Hnm := Lib.hid hnm
      clear hall hdrop hnm e1
      by_cases he : nm1 = s
      · have hq : (nm1.toList == s.toList) = true := by rw [strEq]; simp [he]
        have He := Lib.hid he
        clear he
        go_wp2
        go_ret
        exact ⟨⟨k, rfl, Or.inl ⟨k, hlt, rfl, by rw [Hnm.out, He.out]⟩⟩, hbX⟩
      · have hq : (nm1.toList == s.toList) = false := by rw [strEq]; simp [he]
        have He := Lib.hid he
        clear he
        go_wp2
        go_roundw
        case rel =>
          refine ⟨k, by omega, by go_num, fun q hq => ?_, trivial⟩
          rw [Hdrop.out] at hq
          rcases List.mem_cons.1 hq with rfl | hq
          · rw [Hnm.out]; exact He.out
          · exact Hall.out q hq
        case measure => simp [intOf]
end Go.Proofs.Ytlljlkeknklplaa
