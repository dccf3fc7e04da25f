/-
  PagesNone: a store that Open did not make; the walk.
-/
import Derived.Outline
import Derived.Test.YtbepcjajbcecnaaGreatDoorMPmD
namespace Go.Proofs.YtbepcjajbcecnaaGreatDoor
open Go.RowKit Go.Maps Go.MapKept

/-- no store, or one that is empty. -/
def NoSt (w : World) (v : Value) : Prop := v = .pointer none ∨ ∃ q, v = .pointer (some ⟨q, 0, none⟩) ∧ w.heap[q]? = some (.cells #[.pointer none, .int .i64 0, .map none, .map none, .bool false] 59 (0, 0))
theorem NoSt.below {w w' : World} {v : Value} (h : NoSt w v) (hb : Below w.heap.size w w') : NoSt w' v := by
  rcases h with h | ⟨q, h1, h2⟩
  · exact Or.inl h
  · exact Or.inr ⟨q, h1, (hb.block _ (blk_lt h2)).trans h2⟩
theorem look_nil5 (w : World) (s : ByteArray) (hs : s.size ≤ maxLen) : (Instr.lookup 56 (.map none) (.string s) true).run Tryz.prog w = .ok (.tuple #[.agg #[.slice none 0 0, .int .i64 0, .int .i64 0], .bool false]) w := by
  have hz : (zeroValue 104).run Tryz.prog w = .ok (.agg #[.slice none 0 0, .int .i64 0, .int .i64 0]) w := zero_blob w
  exact Maps.look_nil (w := w) true keyed Tryz.underlying56 hz (key_of hs)
section
variable {w : World} {v : Value}
set_option maxRecDepth 100000 in
set_option maxHeartbeats 1000000 in
theorem n5up_any (h : NoSt w v) : Calls Tryz.prog 47 #[v] w fun e w' => e = .returned (.int .i64 1) ∧ w = w' := by
  rcases h with rfl | ⟨q, rfl, h⟩
  · go_enter Tryz.func47, Tryz.ntmps47
    go_wp2
    go_ret
    exact ⟨rfl, rfl⟩
  · obtain ⟨c0, c1, c2, c3, c4, _⟩ := cells5 h
    clear h
    go_enter Tryz.func47, Tryz.ntmps47
    go_wp2
    go_ret
    exact ⟨rfl, rfl⟩
set_option maxRecDepth 100000 in
set_option maxHeartbeats 1000000 in
theorem n5Get_any (s : ByteArray) (hs : s.size ≤ maxLen) (h : NoSt w v) : Calls Tryz.prog 28 #[v, .string s] w fun e w' => (∃ a c, e = .returned (.tuple #[.slice a 0 c, .bool false])) ∧ Below w.heap.size w w' := by
  rcases h with rfl | ⟨q, rfl, h⟩
  · go_enter Tryz.func28, Tryz.ntmps28
    go_wp2
    go_ret2
    exact ⟨⟨none, 0, rfl⟩, Below.refl _ _⟩
  · obtain ⟨c0, c1, c2, c3, c4, _⟩ := cells5 h
    clear h
    have hk := look_nil5 w s hs
    have hB : Below w.heap.size w (w.alloc (.cells #[.slice none 0 0, .int .i64 0, .int .i64 0] 104)) := (Below.refl _ _).alloc (Nat.le_refl _) _
    have hC := slClone_any (w.alloc (.cells #[.slice none 0 0, .int .i64 0, .int .i64 0] 104)) (.slice none 0 0) [] (rd_none _ _) (by decide)
    have HC := Lib.hid hC
    clear hC
    go_enter Tryz.func28, Tryz.ntmps28
    go_wp2_with (go_at_call 68; refine HC.out.mono ?_; rintro e w2 ⟨a2, c2, rfl, hrow, hB2⟩; have H2 := Lib.hid hB2; clear hrow hB2)
    go_ret2
    exact ⟨⟨a2, _, rfl⟩, hB.trans (H2.out.mono hB.size)⟩
set_option maxRecDepth 100000 in
set_option maxHeartbeats 1000000 in
theorem n5Commit_any (h : NoSt w v) : Calls Tryz.prog 14 #[v] w fun e w' => e = .returned (.tuple #[.int .i64 0, .int .i64 1]) ∧ Below w.heap.size w w' := by
  have hB : ∀ o : Obj, Below w.heap.size w (w.alloc o) := fun o => (Below.refl _ _).alloc (Nat.le_refl _) _
  have hu := fun o : Obj => n5up_any (h.below (hB o))
  have Hu := Lib.hid hu
  have HB := Lib.hid hB
  have H := Lib.hid h
  clear hu hB h
  rcases H.out with rfl | ⟨q, rfl, _⟩
  all_goals
    go_enter Tryz.func14, Tryz.ntmps14
    go_wp2_with (go_at_call 47; refine (Hu.out _).mono ?_; rintro e w1 ⟨rfl, rfl⟩)
    go_ret2
    exact ⟨rfl, HB.out _⟩
set_option maxRecDepth 100000 in
set_option maxHeartbeats 1000000 in
theorem n5Free_any (h : NoSt w v) : Calls Tryz.prog 19 #[v] w fun e w' => e = .returned (.tuple #[.slice none 0 0, .int .i64 1]) ∧ w = w' := by
  have hu := n5up_any h
  have Hu := Lib.hid hu
  clear hu h
  go_enter Tryz.func19, Tryz.ntmps19
  go_wp2_with (go_at_call 47; refine Hu.out.mono ?_; rintro e w1 ⟨rfl, rfl⟩)
  go_ret2
  exact ⟨rfl, rfl⟩
set_option maxRecDepth 100000 in
set_option maxHeartbeats 1000000 in
theorem n5Put_any (s : ByteArray) (a : Option Addr) (l c : Nat) (h : NoSt w v) : Calls Tryz.prog 23 #[v, .string s, .slice a l c] w fun e w' => e = .returned (.int .i64 1) ∧ w = w' := by
  have hu := n5up_any h
  have Hu := Lib.hid hu
  clear hu h
  go_enter Tryz.func23, Tryz.ntmps23
  go_wp2_with (go_at_call 47; refine Hu.out.mono ?_; rintro e w1 ⟨rfl, rfl⟩)
  go_ret
  exact ⟨rfl, rfl⟩
set_option maxRecDepth 100000 in
set_option maxHeartbeats 1000000 in
theorem n5Drop_any (s : ByteArray) (h : NoSt w v) : Calls Tryz.prog 29 #[v, .string s] w fun e w' => e = .returned (.int .i64 1) ∧ w = w' := by
  have hu := n5up_any h
  have Hu := Lib.hid hu
  clear hu h
  go_enter Tryz.func29, Tryz.ntmps29
  go_wp2_with (go_at_call 47; refine Hu.out.mono ?_; rintro e w1 ⟨rfl, rfl⟩)
  go_ret
  exact ⟨rfl, rfl⟩
set_option maxRecDepth 100000 in
set_option maxHeartbeats 1000000 in
theorem n5Number_any (h : NoSt w v) : Calls Tryz.prog 17 #[v] w fun e w' => e = .returned (.int .i64 0) ∧ w = w' := by
  rcases h with rfl | ⟨q, rfl, h⟩
  · go_enter Tryz.func17, Tryz.ntmps17
    go_wp2
    go_ret
    exact ⟨rfl, rfl⟩
  · obtain ⟨c0, c1, c2, c3, c4, _⟩ := cells5 h
    clear h
    go_enter Tryz.func17, Tryz.ntmps17
    go_wp2
    go_ret
    exact ⟨rfl, rfl⟩
set_option maxRecDepth 100000 in
set_option maxHeartbeats 1000000 in
theorem n5Over_any (h : NoSt w v) : Calls Tryz.prog 30 #[v] w fun e w' => e = .returned (.bool false) ∧ w = w' := by
  rcases h with rfl | ⟨q, rfl, h⟩
  · go_enter Tryz.func30, Tryz.ntmps30
    go_wp2
    go_ret
    exact ⟨rfl, rfl⟩
  · obtain ⟨c0, c1, c2, c3, c4, _⟩ := cells5 h
    clear h
    go_enter Tryz.func30, Tryz.ntmps30
    go_wp2
    go_ret
    exact ⟨rfl, rfl⟩
set_option maxRecDepth 100000 in
set_option maxHeartbeats 1000000 in
theorem n5Keys_any (h : NoSt w v) : Calls Tryz.prog 20 #[v] w fun e w' => (∃ a c, e = .returned (.slice a 0 c)) ∧ Below w.heap.size w w' := by
  rcases h with rfl | ⟨q, rfl, h⟩
  · go_enter Tryz.func20, Tryz.ntmps20
    go_wp2
    go_ret
    exact ⟨⟨none, 0, rfl⟩, Below.refl _ _⟩
  · obtain ⟨c0, c1, c2, c3, c4, _⟩ := cells5 h
    clear h
    refine (callsIn_wide (n := 6)).1 ?_
    have hfK : Fence.wide.fn 63 := trivial
    have hfS : Fence.wide.fn 58 := trivial
    refine callsIn_of_wp Tryz.func20 rfl trivial ?_ rfl
    simp only [Tryz.ntmps20, List.size_toArray, List.length_cons, List.length_nil, Nat.reduceAdd, Nat.reduceSub, Array.replicate_succ, Array.replicate_zero, List.push_toArray, List.append_toArray, List.nil_append, List.cons_append]
    gi_wp2_with (first
       | (gi_at_call 63; refine (Tryz.maps_Keys_63 _ _).mono ?_; rintro e w' ⟨rfl, rfl⟩)
       | (gi_at_call 58; refine (Tryz.slices_Sorted_keys_nil_58_63 w).mono ?_; rintro e w' ⟨v', ss, rfl, rfl, hrow, hnil, hb⟩; obtain rfl := hnil.2 rfl; clear hrow hnil))
    go_ret
    exact ⟨⟨none, 0, rfl⟩, ((Below.refl _ w).alloc (Nat.le_refl _) _).trans (hb.mono (by simp))⟩
end
set_option maxRecDepth 100000 in
set_option maxHeartbeats 8000000 in
theorem none5_law (w : World) (hE : WEnv w) (s : ByteArray) (hs : s.size ≤ maxLen) {vb : Value} (b : List UInt8) (hb : Rd w vb (bcells b)) (_l1 : b.length ≤ maxLen) :
    Calls Tryz.prog 6 #[.string s, vb] w fun e w' => e = .returned (.bool true) ∧ Below w.heap.size w w' := by
  obtain ⟨ab, cb, rfl⟩ := hb.shape
  rw [bcells_length]
  obtain ⟨w1, hw1⟩ : ∃ w1, (w.alloc (.cells #[.pointer none, .int .i64 0, .map none, .map none, .bool false] 59)).alloc (.cells #[.pointer none, .pointer (some ⟨w.heap.size, 0, none⟩)] 24) = w1 := ⟨_, rfl⟩
  have hB1 : Below w.heap.size w w1 := by rw [← hw1]; exact ((Below.refl _ _).alloc (Nat.le_refl _) _).alloc (by simp) _
  have hl1 : w1.heap[w.heap.size]? = some (.cells #[.pointer none, .int .i64 0, .map none, .map none, .bool false] 59 (0, 0)) := by rw [← hw1]; exact alloc2_at0 _ _ _
  have hr1 : w1.heap[w.heap.size + 1]? = some (.cells #[.pointer none, .pointer (some ⟨w.heap.size, 0, none⟩)] 24 (0, 0)) := by rw [← hw1]; exact alloc2_at _ _ _
  obtain ⟨x0, x1, _⟩ := cells2 hr1
  have hN0 : NoSt w1 (.pointer none) := Or.inl rfl
  have hN1 : NoSt w1 (.pointer (some ⟨w.heap.size, 0, none⟩)) := Or.inr ⟨_, rfl, hl1⟩
  have Hw1 := Lib.hid hw1
  have H0 := Lib.hid hN0
  have H1 := Lib.hid hN1
  have HE1 := Lib.hid (hE.below hB1)
  have hs1 : w.heap.size + 1 < w1.heap.size := blk_lt hr1
  have hx : ∀ w', Below w1.heap.size w1 w' → w'.cell? ⟨w.heap.size + 1, 0, none⟩ = some (.pointer none) ∧ w'.cell? ⟨w.heap.size + 1, 1, none⟩ = some (.pointer (some ⟨w.heap.size, 0, none⟩)) := fun w' hB => ⟨(hB.cell (p := ⟨w.heap.size + 1, 0, none⟩) hs1).trans x0, (hB.cell (p := ⟨w.heap.size + 1, 1, none⟩) hs1).trans x1⟩
  have Hx := Lib.hid hx
  clear hw1 hN0 hN1 hl1 hr1 hb hE hx x0 x1
  go_enter Tryz.func6, Tryz.ntmps6
  go_upto_region 3 with fail
  rw [Hw1.out]
  go_loopw [19] (fun i wr => ∃ k : Nat, k ≤ 2 ∧ i = .int .i64 k ∧ Below w1.heap.size w1 wr) (fun i _ => 2 - (intOf i).toNat)
  case atStart => exact ⟨0, by omega, rfl, Below.refl _ _⟩
  case round =>
    obtain ⟨k, hk, rfl, hBr⟩ := hrel
    obtain ⟨x0, x1⟩ := Hx.out wr hBr
    have hk3 : k = 0 ∨ k = 1 ∨ k = 2 := by omega
    rcases hk3 with rfl | rfl | rfl
    · have hN := H0.out.below hBr
      have HN := Lib.hid hN
      have HBr := Lib.hid hBr
      clear hN hBr
      go_wp2_with first
        | (go_at_call 28; refine (n5Get_any s hs HN.out).mono ?_; rintro e w2 ⟨⟨a2, c2, rfl⟩, hB2⟩; have HB2 := Lib.hid hB2; clear hB2)
        | (go_at_call 14; refine (n5Commit_any (HN.out.below HB2.out)).mono ?_; rintro e w3 ⟨rfl, hB3⟩; have HN3 := Lib.hid ((HN.out.below HB2.out).below hB3); have HB3 := Lib.hid hB3; clear hB3)
        | (go_at_call 19; refine (n5Free_any HN3.out).mono ?_; rintro e w4 ⟨rfl, rfl⟩)
        | (go_at_call 20; refine (n5Keys_any HN3.out).mono ?_; rintro e w5 ⟨⟨a5, c5, rfl⟩, hB5⟩; have HN5 := Lib.hid (HN3.out.below hB5); have HB5 := Lib.hid hB5; clear hB5)
        | (go_at_call 17; refine (n5Number_any HN5.out).mono ?_; rintro e w6 ⟨rfl, rfl⟩)
        | (go_at_call 23; refine (n5Put_any s _ _ _ HN5.out).mono ?_; rintro e w7 ⟨rfl, rfl⟩)
        | (go_at_call 29; refine (n5Drop_any s HN5.out).mono ?_; rintro e w8 ⟨rfl, rfl⟩)
        | (go_at_call 30; refine (n5Over_any HN5.out).mono ?_; rintro e w9 ⟨rfl, rfl⟩)
      go_roundw
      case rel => exact ⟨1, by omega, rfl, HBr.out.trans (HB2.out.mono HBr.out.size |>.trans (HB3.out.mono (Nat.le_trans HBr.out.size HB2.out.size)) |>.trans (HB5.out.mono (Nat.le_trans (Nat.le_trans HBr.out.size HB2.out.size) HB3.out.size)))⟩
      case measure => simp [intOf]
    · have hN := H1.out.below hBr
      have HN := Lib.hid hN
      have HBr := Lib.hid hBr
      clear hN hBr
      go_wp2_with first
        | (go_at_call 28; refine (n5Get_any s hs HN.out).mono ?_; rintro e w2 ⟨⟨a2, c2, rfl⟩, hB2⟩; have HB2 := Lib.hid hB2; clear hB2)
        | (go_at_call 14; refine (n5Commit_any (HN.out.below HB2.out)).mono ?_; rintro e w3 ⟨rfl, hB3⟩; have HN3 := Lib.hid ((HN.out.below HB2.out).below hB3); have HB3 := Lib.hid hB3; clear hB3)
        | (go_at_call 19; refine (n5Free_any HN3.out).mono ?_; rintro e w4 ⟨rfl, rfl⟩)
        | (go_at_call 20; refine (n5Keys_any HN3.out).mono ?_; rintro e w5 ⟨⟨a5, c5, rfl⟩, hB5⟩; have HN5 := Lib.hid (HN3.out.below hB5); have HB5 := Lib.hid hB5; clear hB5)
        | (go_at_call 17; refine (n5Number_any HN5.out).mono ?_; rintro e w6 ⟨rfl, rfl⟩)
        | (go_at_call 23; refine (n5Put_any s _ _ _ HN5.out).mono ?_; rintro e w7 ⟨rfl, rfl⟩)
        | (go_at_call 29; refine (n5Drop_any s HN5.out).mono ?_; rintro e w8 ⟨rfl, rfl⟩)
        | (go_at_call 30; refine (n5Over_any HN5.out).mono ?_; rintro e w9 ⟨rfl, rfl⟩)
      go_roundw
      case rel => exact ⟨2, by omega, rfl, HBr.out.trans (HB2.out.mono HBr.out.size |>.trans (HB3.out.mono (Nat.le_trans HBr.out.size HB2.out.size)) |>.trans (HB5.out.mono (Nat.le_trans (Nat.le_trans HBr.out.size HB2.out.size) HB3.out.size)))⟩
      case measure => simp [intOf]
    · go_wp2_with fail
      refine (awake5_any _ (HE1.out.below hBr)).mono ?_
      rintro e w3 ⟨rfl, hB3⟩
      go_wp2
      go_ret
      exact ⟨rfl, hB1.trans ((hBr.trans (hB3.mono hBr.size)).mono hB1.size)⟩
end Go.Proofs.YtbepcjajbcecnaaGreatDoor
