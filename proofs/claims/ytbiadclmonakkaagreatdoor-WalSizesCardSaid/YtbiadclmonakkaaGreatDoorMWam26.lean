/-
  The statements' helper sorted: an insertion sort; its contract.
-/
import Derived.Outline
import Derived.BigQuiet
import Derived.BigRegion
import Derived.Deep.QuietTactic
import Derived.Deep.RegionHeld3
import Derived.Test.YtbiadclmonakkaaGreatDoorMWmD
import Derived.Test.YtbiadclmonakkaaGreatDoorMWal19
namespace Go.Proofs.YtbiadclmonakkaaGreatDoor
open Go.RowKit Go.Maps Go.MapKept

/-- a block whose first cells are these strings. -/
structure RowS (w : World) (g n : Nat) (xs : List ByteArray) : Prop where
  blk : ∃ (cs : Array Value) (T : TypeId), w.heap[g]? = some (.cells cs T (0, 0)) ∧ ∀ (j : Nat) (u : ByteArray), xs[j]? = some u → cs[j]? = some (Value.string u)
  len : xs.length = n
namespace RowS
variable {w w' : World} {g n : Nat} {xs : List ByteArray}
theorem cell (h : RowS w g n xs) {j : Nat} {u : ByteArray} (hu : xs[j]? = some u) : w.cell? ⟨g, j, none⟩ = some (.string u) := by
  obtain ⟨cs, T, h1, h2⟩ := h.blk
  rw [cell_at h1]
  exact h2 j u hu
theorem fr (h : RowS w g n xs) (j : Nat) : w.frozen? ⟨g, j, none⟩ = false := by
  obtain ⟨cs, T, h1, h2⟩ := h.blk
  simp [World.frozen?, h1]
theorem lt (h : RowS w g n xs) : g < w.heap.size := by
  obtain ⟨cs, T, h1, h2⟩ := h.blk
  exact blk_lt h1
theorem below (h : RowS w g n xs) (hb : Below w.heap.size w w') : RowS w' g n xs := by
  obtain ⟨cs, T, h1, h2⟩ := h.blk
  exact ⟨⟨cs, T, (hb.block g h.lt).trans h1, h2⟩, h.len⟩
theorem swap (h : RowS w g n xs) {k : Nat} {x y : ByteArray} (hx : xs[k]? = some x) (hy : xs[k + 1]? = some y) :
    RowS ((w.setCell ⟨g, k, none⟩ (.string y)).setCell ⟨g, k + 1, none⟩ (.string x)) g n ((xs.set k y).set (k + 1) x) := by
  obtain ⟨cs, T, h1, h2⟩ := h.blk
  refine ⟨⟨_, T, setCell_at (setCell_at h1 _ _) _ _, fun j u hu => ?_⟩, by simpa using h.len⟩
  rw [set2_at] at hu
  have lx := (Array.getElem?_eq_some_iff.1 (h2 k x hx)).1
  have ly := (Array.getElem?_eq_some_iff.1 (h2 (k + 1) y hy)).1
  split at hu
  · by_cases h3 : j = k + 1
    · rw [if_pos h3] at hu
      cases hu
      rw [h3, Array.getElem?_setIfInBounds_self, if_pos (by simpa using ly)]
    · rw [if_neg h3] at hu
      rw [Array.getElem?_setIfInBounds_ne (Ne.symm h3)]
      by_cases h4 : j = k
      · rw [if_pos h4] at hu
        cases hu
        rw [h4, Array.getElem?_setIfInBounds_self, if_pos lx]
      · rw [if_neg h4] at hu
        rw [Array.getElem?_setIfInBounds_ne (Ne.symm h4)]
        exact h2 j u hu
  · cases hu
theorem rd (h : RowS w g n xs) (c : Nat) : Rd w (.slice (some ⟨g, 0, none⟩) n c) (sCells xs) := by
  refine Or.inr ⟨g, 0, n, c, rfl, by rw [sCells_length, h.len], fun j u hu => ?_⟩
  unfold sCells at hu
  rw [List.getElem?_map] at hu
  cases hq : xs[j]? with
  | none => rw [hq] at hu; cases hu
  | some v => rw [hq] at hu; cases hu; rw [Nat.zero_add]; exact h.cell hq
end RowS
theorem gtr_is (x y : ByteArray) : (!(Op.bytesLess x.toList y.toList || x.toList == y.toList)) = ltS y x := by
  rw [Go.Proofs.bytesLess_eq, ByteArray.toList_eq, ByteArray.toList_eq]
  unfold ltS
  by_cases h1 : x.data.toList < y.data.toList
  · have h2 : ¬ y.data.toList < x.data.toList := List.lt_asymm h1
    simp [h1, h2]
  · by_cases h3 : x.data.toList = y.data.toList
    · simp [h3, List.lt_irrefl]
    · have h4 : y.data.toList < x.data.toList := by
        cases hx : decide (y.data.toList < x.data.toList) with
        | true => exact of_decide_eq_true hx
        | false =>
          exfalso
          have e := List.le_antisymm (List.not_lt.1 (of_decide_eq_false hx)) (List.not_lt.1 h1)
          exact h3 e
      have h5 : (x.data.toList == y.data.toList) = false := by rw [beq_eq_false_iff_ne]; exact h3
      rw [h5]
      simp [h1, h4]
set_option linter.unusedSimpArgs false in
set_option maxRecDepth 100000 in
set_option maxHeartbeats 4000000 in
theorem sorted4_any (w : World) (a : Option Addr) (n c : Nat) (l : List ByteArray) (h : Rd w (.slice a n c) (sCells l)) (hl : l.length = n) (hn : n ≤ 1000) :
    Calls Tryz.prog 30 #[.slice a n c] w fun e w' => ∃ a' c' xs, e = .returned (.slice a' n c') ∧ xs.Perm l ∧ Srt xs ∧ Rd w' (.slice a' n c') (sCells xs) ∧ Below w.heap.size w w' := by
  have H := Lib.hid h
  have Hl := Lib.hid hl
  clear h hl
  go_enter Tryz.func30, Tryz.ntmps30
  go_upto_region 2 with fail
  go_wp2_with (at_builtin; refine append_str4 rfl (.tmp 6) (.tmp 7) rfl (.slice none 0 0) (.slice a n c) [] l l 0 rfl rfl rfl ⟨rfl, Or.inl ⟨rfl, rfl⟩⟩ rfl H.out (by rw [Hl.out]; simp only [List.length_nil]; omega) ?_; intro v1 w1 hrow1 hgr1 hown1)
  have hB1 : Below w.heap.size w w1 := ((Upd.refl noFp w).grown hgr1 (fun k hk => by cases hk)).below (fun _ hk => hk.elim) (Nat.le_refl _)
  obtain ⟨hrl, ⟨rfl, h0⟩ | ⟨g, cap, cur, rfl, _, hg, hnc, _, hcs, htk⟩⟩ := hrow1
  · rw [Hl.out] at h0
    subst h0
    go_loopw [4, 5] (fun i k wr => i = .int .i64 1 ∧ Below w.heap.size w wr) (fun _ _ _ => 0)
    case atStart => exact ⟨rfl, hB1⟩
    case round =>
      obtain ⟨rfl, hB⟩ := hrel
      go_wp2
      go_ret
      have hnil : l = [] := List.eq_nil_of_length_eq_zero Hl.out
      exact ⟨none, 0, rfl, [], by rw [hnil], List.Pairwise.nil, Or.inl ⟨Or.inl rfl, rfl⟩, hB⟩
  · rw [Hl.out] at hnc htk ⊢
    have hgw : w.heap.size ≤ g := by
      rcases hown1 with h | ⟨g', h, h'⟩
      · cases h
      · cases h; exact h'
    have hR1 : RowS w1 g n l := by
      refine ⟨⟨cur, _, hg, fun j u hu => ?_⟩, Hl.out⟩
      have hj : j < n := by rw [← Hl.out]; exact (List.getElem?_eq_some_iff.1 hu).1
      have h1 : (sCells l)[j]? = some (Value.string u) := by unfold sCells; rw [List.getElem?_map, hu]; rfl
      rw [← htk, List.getElem?_take, if_pos (by omega), Array.getElem?_toList] at h1
      exact h1
    clear hrl hg hcs htk hown1 hgr1 hnc
    by_cases hn0 : n = 0
    · subst hn0
      go_loopw [4, 5] (fun i k wr => i = .int .i64 1 ∧ Below w.heap.size w wr) (fun _ _ _ => 0)
      case atStart => exact ⟨rfl, hB1⟩
      case round =>
        obtain ⟨rfl, hB⟩ := hrel
        go_wp2
        go_ret
        have hnil : l = [] := List.eq_nil_of_length_eq_zero Hl.out
        exact ⟨_, _, [], rfl, by rw [hnil], List.Pairwise.nil, Or.inl ⟨Or.inr ⟨_, _, rfl⟩, rfl⟩, hB⟩
    · have hne : l ≠ [] := fun e => hn0 (by rw [← Hl.out, e]; rfl)
      go_loopw [4, 5] (fun i k wr => ∃ (j : Nat) (xs : List ByteArray), i = .int .i64 j ∧ OutI l xs j ∧ RowS wr g n xs ∧ Below w.heap.size w wr) (fun i _ _ => n - (intOf i).toNat)
      case atStart => exact ⟨1, l, rfl, out1 hne, hR1, hB1⟩
      case round =>
        obtain ⟨j, xs, rfl, hO, hR, hB⟩ := hrel
        have hjn : j ≤ n := by
          obtain ⟨_, P, C, e, hp, _⟩ := hO
          rw [← hR.len, e, List.length_append]; omega
        have HO := Lib.hid hO
        have HR := Lib.hid hR
        clear hO hR
        by_cases hlt : j < n
        · have hI : InsI l xs j j := out_ins HO.out (by rw [HR.out.len]; exact hlt)
          go_wp2
          go_loopw [5] (fun k w2 => ∃ (m : Nat) (ys : List ByteArray), k = .int .i64 m ∧ InsI l ys j m ∧ RowS w2 g n ys ∧ Below w.heap.size w w2) (fun k _ => (intOf k).toNat)
          case atStart => exact ⟨j, xs, rfl, hI, HR.out, hB⟩
          case round =>
            clear hI hB
            obtain ⟨m, ys, rfl, hI, hR, hB⟩ := hrel
            have hmj := ins_lt hI
            have HI := Lib.hid hI
            have HR2 := Lib.hid hR
            clear hI hR
            cases m with
            | zero =>
              go_wp2
              refine wp_region_held_drew (S := fun _ => True) (by kernel_rfl) trivial (fun hHeld => ?_)
              refine wpAnyH_take (i := 0) (v := ?_) rfl (by kernel_rfl) (by kernel_rfl) (by kernel_rfl) (fun _ _ _ h => h) (Or.inl ⟨by rfl, ?_⟩) (by assumption) ?_
              rotate_left
              · (intro wz hSz; go_simp) <;> with_reducible rfl
              simp only [Act.put, List.getElem_toArray, List.getElem_cons_zero, List.getElem_cons_succ, List.setIfInBounds_toArray, List.set_cons_zero, List.set_cons_succ]
              refine wpAnyH_take (i := 1) (v := ?_) rfl (by kernel_rfl) (by kernel_rfl) (by kernel_rfl) (fun _ _ _ h => h) (Or.inl ⟨by rfl, ?_⟩) (by assumption) ?_
              rotate_left
              · (intro wz hSz; go_simp) <;> with_reducible rfl
              simp only [Act.put, List.getElem_toArray, List.getElem_cons_zero, List.getElem_cons_succ, List.setIfInBounds_toArray, List.set_cons_zero, List.set_cons_succ]
              refine wpAnyH_take (i := 2) (v := ?_) rfl (by kernel_rfl) (by kernel_rfl) (by kernel_rfl) (fun _ _ _ h => h) (Or.inl ⟨by rfl, ?_⟩) (by assumption) ?_
              rotate_left
              · (intro wz hSz; go_simp) <;> with_reducible rfl
              simp only [Act.put, List.getElem_toArray, List.getElem_cons_zero, List.getElem_cons_succ, List.setIfInBounds_toArray, List.set_cons_zero, List.set_cons_succ]
              refine wpAnyH_take (i := 3) (v := undef) rfl (by kernel_rfl) (by kernel_rfl) (by kernel_rfl) (fun _ _ _ h => h) (Or.inr ⟨by rfl, rfl⟩) (by assumption) ?_
              simp only [Act.put, List.getElem_toArray, List.getElem_cons_zero, List.getElem_cons_succ, List.setIfInBounds_toArray, List.set_cons_zero, List.set_cons_succ]
              refine wpAnyH_take (i := 4) (v := undef) rfl (by kernel_rfl) (by kernel_rfl) (by kernel_rfl) (fun _ _ _ h => h) (Or.inr ⟨by rfl, rfl⟩) (by assumption) ?_
              simp only [Act.put, List.getElem_toArray, List.getElem_cons_zero, List.getElem_cons_succ, List.setIfInBounds_toArray, List.set_cons_zero, List.set_cons_succ]
              refine wpAnyH_take (i := 5) (v := undef) rfl (by kernel_rfl) (by kernel_rfl) (by kernel_rfl) (fun _ _ _ h => h) (Or.inr ⟨by rfl, rfl⟩) (by assumption) ?_
              simp only [Act.put, List.getElem_toArray, List.getElem_cons_zero, List.getElem_cons_succ, List.setIfInBounds_toArray, List.set_cons_zero, List.set_cons_succ]
              refine wpAnyH_take (i := 6) (v := undef) rfl (by kernel_rfl) (by kernel_rfl) (by kernel_rfl) (fun _ _ _ h => h) (Or.inr ⟨by rfl, rfl⟩) (by assumption) ?_
              simp only [Act.put, List.getElem_toArray, List.getElem_cons_zero, List.getElem_cons_succ, List.setIfInBounds_toArray, List.set_cons_zero, List.set_cons_succ]
              refine wpAnyH_take (i := 7) (v := undef) rfl (by kernel_rfl) (by kernel_rfl) (by kernel_rfl) (fun _ _ _ h => h) (Or.inr ⟨by rfl, rfl⟩) (by assumption) ?_
              simp only [Act.put, List.getElem_toArray, List.getElem_cons_zero, List.getElem_cons_succ, List.setIfInBounds_toArray, List.set_cons_zero, List.set_cons_succ]
              refine wpAnyH_take (i := 8) (v := undef) rfl (by kernel_rfl) (by kernel_rfl) (by kernel_rfl) (fun _ _ _ h => h) (Or.inr ⟨by rfl, rfl⟩) (by assumption) ?_
              simp only [Act.put, List.getElem_toArray, List.getElem_cons_zero, List.getElem_cons_succ, List.setIfInBounds_toArray, List.set_cons_zero, List.set_cons_succ]
              refine wpAnyH_take (i := 9) (v := undef) rfl (by kernel_rfl) (by kernel_rfl) (by kernel_rfl) (fun _ _ _ h => h) (Or.inr ⟨by rfl, rfl⟩) (by assumption) ?_
              simp only [Act.put, List.getElem_toArray, List.getElem_cons_zero, List.getElem_cons_succ, List.setIfInBounds_toArray, List.set_cons_zero, List.set_cons_succ]
              refine wpAnyH_take (i := 10) (v := undef) rfl (by kernel_rfl) (by kernel_rfl) (by kernel_rfl) (fun _ _ _ h => h) (Or.inr ⟨by rfl, rfl⟩) (by assumption) ?_
              simp only [Act.put, List.getElem_toArray, List.getElem_cons_zero, List.getElem_cons_succ, List.setIfInBounds_toArray, List.set_cons_zero, List.set_cons_succ]
              refine wpAnyH_take (i := 11) (v := undef) rfl (by kernel_rfl) (by kernel_rfl) (by kernel_rfl) (fun _ _ _ h => h) (Or.inr ⟨by rfl, rfl⟩) (by assumption) ?_
              simp only [Act.put, List.getElem_toArray, List.getElem_cons_zero, List.getElem_cons_succ, List.setIfInBounds_toArray, List.set_cons_zero, List.set_cons_succ]
              refine wpAnyH_take (i := 12) (v := undef) rfl (by kernel_rfl) (by kernel_rfl) (by kernel_rfl) (fun _ _ _ h => h) (Or.inr ⟨by rfl, rfl⟩) (by assumption) ?_
              simp only [Act.put, List.getElem_toArray, List.getElem_cons_zero, List.getElem_cons_succ, List.setIfInBounds_toArray, List.set_cons_zero, List.set_cons_succ]
              refine wpAnyH_take (i := 13) (v := ?_) rfl (by kernel_rfl) (by kernel_rfl) (by kernel_rfl) (fun _ _ _ h => h) (Or.inl ⟨by rfl, ?_⟩) (by assumption) ?_
              rotate_left
              · (intro wz hSz; go_simp) <;> with_reducible rfl
              simp only [Act.put, List.getElem_toArray, List.getElem_cons_zero, List.getElem_cons_succ, List.setIfInBounds_toArray, List.set_cons_zero, List.set_cons_succ]
              refine wpAnyH_done (by kernel_rfl) ?_ _
              go_wp2
              go_roundw
              case rel => exact ⟨j + 1, ys, by go_num, ins_stop HI.out (fun _ _ h => absurd h (by omega)), HR2.out.below (Below.refl _ _).drew, hB.drew⟩
              case measure => simp [intOf]; omega
            | succ m =>
              obtain ⟨x, hx⟩ : ∃ x, ys[m]? = some x := ⟨_, List.getElem?_eq_getElem (by omega)⟩
              obtain ⟨y, hy⟩ : ∃ y, ys[m + 1]? = some y := ⟨_, List.getElem?_eq_getElem (by omega)⟩
              have hyl := HR2.out.len
              have x0 := HR2.out.cell hx
              have y0 := HR2.out.cell hy
              have f0 := HR2.out.fr m
              have f1 := HR2.out.fr (m + 1)
              have hgl := HR2.out.lt
              have hk1 : (((m + 1 : Nat) : Nat) : Int) = (m : Int) + 1 := rfl
              have hmn : m + 1 < n := by omega
              have hw0 : (m : Int) < (n : Int) := by omega
              have hw1 : (m : Int) + 1 < (n : Int) := by omega
              have hw2 : (0 : Int) ≤ (m : Int) := by omega
              have hw3 : (0 : Int) ≤ (m : Int) + 1 := by omega
              have hwk : IntKind.i64.wrap (m : Int) = (m : Int) := IntWalk.i64_in _ (by omega)
              have hw4 : (0 : Int) < (m : Int) + 1 := by omega
              have hgt := gtr_is x y
              have Hx := Lib.hid hx
              have Hy := Lib.hid hy
              clear hx hy hyl
              rw [hk1]
              cases hb1 : Op.bytesLess x.toList y.toList with
              | true =>
                rw [hb1, Bool.true_or, Bool.not_true] at hgt
                have Hgt := Lib.hid hgt
                clear hgt
                go_wp2
                go_quiet (fail)
                go_wp2
                go_roundw
                case rel => exact ⟨j + 1, ys, by go_num, ins_stop HI.out (fun x' y' _ h1 h2 => by simp only [Nat.add_sub_cancel] at h1; rw [Hx.out] at h1; rw [Hy.out] at h2; cases h1; cases h2; exact Hgt.out.symm), HR2.out.below (below_drewN (Below.refl _ _) _), below_drewN hB _⟩
                case measure => simp [intOf]; omega
              | false =>
                cases hb2 : (x.toList == y.toList) with
                | true =>
                  rw [hb1, hb2, Bool.false_or, Bool.not_true] at hgt
                  have Hgt := Lib.hid hgt
                  clear hgt
                  go_wp2
                  go_quiet (fail)
                  go_wp2
                  go_roundw
                  case rel => exact ⟨j + 1, ys, by go_num, ins_stop HI.out (fun x' y' _ h1 h2 => by simp only [Nat.add_sub_cancel] at h1; rw [Hx.out] at h1; rw [Hy.out] at h2; cases h1; cases h2; exact Hgt.out.symm), HR2.out.below (below_drewN (Below.refl _ _) _), below_drewN hB _⟩
                  case measure => simp [intOf]; omega
                | false =>
                  rw [hb1, hb2, Bool.false_or, Bool.not_false] at hgt
                  have Hgt := Lib.hid hgt
                  clear hgt
                  go_wp2
                  go_quiet (fail)
                  go_wp2
                  generalize hwq : World.drewN wr _ = wq
                  have hRq : RowS wq g n ys := by rw [← hwq]; exact HR2.out.below (below_drewN (Below.refl _ _) _)
                  have hBq : Below w.heap.size w wq := by rw [← hwq]; exact below_drewN hB _
                  clear x0 y0 f0 f1 hgl
                  have x0 := hRq.cell Hx.out
                  have y0 := hRq.cell Hy.out
                  have f0 := hRq.fr m
                  have f1 := hRq.fr (m + 1)
                  have hgl := hRq.lt
                  have HRq := Lib.hid hRq
                  clear hRq hB hwq
                  go_region
                  go_wp2
                  go_roundw
                  case rel => exact ⟨m, _, by go_num, ins_step HI.out Hx.out Hy.out Hgt.out.symm, (HRq.out.swap Hx.out Hy.out).below (Below.refl _ _).drew, ((hBq.setCell hgw _).setCell hgw _).drew⟩
                  case measure => simp [intOf]
        · go_wp2
          go_ret
          obtain ⟨hp, hs⟩ := out_end HO.out (by rw [HR.out.len]; exact hlt)
          exact ⟨_, _, xs, rfl, hp, hs, HR.out.rd _, hB⟩
end Go.Proofs.YtbiadclmonakkaaGreatDoor
