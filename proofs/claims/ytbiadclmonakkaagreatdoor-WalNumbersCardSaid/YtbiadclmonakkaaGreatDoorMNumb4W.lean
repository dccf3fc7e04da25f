/-
  WalNumbers: the main walk (printed by wip/gen/n4main.py).
-/
import Derived.Outline
import Derived.Test.YtbiadclmonakkaaGreatDoorMWnA
import Derived.Test.YtbiadclmonakkaaGreatDoorMWmD
namespace Go.Proofs.YtbiadclmonakkaaGreatDoor
open Go.RowKit Go.Maps Go.MapKept
set_option linter.unusedSimpArgs false

set_option maxRecDepth 100000 in
set_option maxHeartbeats 60000000 in
theorem numbers4_law (w : World) (hE : WEnv w) : Calls Tryz.prog 10 #[] w fun e w' => e = .returned (.bool true) ∧ Below w.heap.size w w' := by
  have kc := fun (w : World) (C : Array Value) (n c : Nat) => Lib.run_convert_bytes_const (P := Tryz.prog) w 45 5 C n c Tryz.underlying45 Tryz.underlying5
  have fl1 := field_W1
  have HE := Lib.hid hE
  clear hE
  go_enter Tryz.func10, Tryz.ntmps10
  go_upto_region 2 with (go_at_call 37; refine (f53 _).mono ?_; rintro e w1 ⟨a1, c1, rfl, hr1, hb1, hc1, hc1'⟩)
  have hB0 := alloc_at w1 (.cells #[.string ⟨#[119, 53]⟩, .slice a1 36 c1] 74)
  have hbA : Below w1.heap.size w1 (w1.alloc (.cells #[.string ⟨#[119, 53]⟩, .slice a1 36 c1] 74)) := (Below.refl _ _).alloc (Nat.le_refl _) _
  obtain ⟨w2, hw2⟩ : ∃ y, w1.alloc (.cells #[.string ⟨#[119, 53]⟩, .slice a1 36 c1] 74) = y := ⟨_, rfl⟩
  obtain ⟨B1, hB1⟩ : ∃ b, w1.heap.size = b := ⟨_, rfl⟩
  rw [hw2] at hB0 hbA ⊢
  have H2 := Lib.hid (And.intro ((Rd.ofOwns hr1).below hbA) (hb1.trans (hbA.mono hb1.size)))
  rw [hB1] at hB0 ⊢
  have HB0 := Lib.hid hB0
  clear hw2 hB1 hbA hr1 hb1 hB0
  go_wp2_with fail
  go_loopw [2] (fun nv wr => ∃ n : Nat, n ≤ 37 ∧ nv = .int .i64 n ∧ Below w2.heap.size w2 wr) (fun nv _ => 37 - (intOf nv).toNat)
  case atStart => exact ⟨0, by omega, rfl, Below.refl _ _⟩
  case round =>
    obtain ⟨n, hn, rfl, hBr⟩ := hrel
    obtain ⟨wq, rfl⟩ : ∃ x, x = wr := ⟨_, rfl⟩
    have hC := (hBr.block _ (blk_lt HB0.out)).trans HB0.out
    obtain ⟨y0, y1, _⟩ := cells2 hC
    have HBr := Lib.hid (And.intro hBr (H2.out.2.trans (hBr.mono H2.out.2.size)))
    clear hBr hC
    by_cases hlt : n ≤ 36
    · obtain ⟨d', f, ht⟩ := torn_fact n hlt
      have hnI : (n : Int) ≤ 36 := by omega
      have hn0 : (0 : Int) ≤ (n : Int) := by omega
      have hcI : (n : Int) ≤ (c1 : Int) := by omega
      have hrt := (H2.out.1.below HBr.out.1).takeB n (by rw [f53_len]; omega)
      have hok : ∀ x ∈ ([⟨⟨#[119, 53]⟩, .slice a1 n c1, (wFileB 5 3 []).take n⟩] : List AFile5), FileOk5 wq x := by
        intro x hx
        rw [List.mem_singleton.1 hx]
        exact file_okw (by decide) (by rw [List.length_take, f53_len]; omega) hrt
      have hFl := files_row wq [⟨⟨#[119, 53]⟩, .slice a1 n c1, (wFileB 5 3 []).take n⟩] #[.string ⟨#[119, 53]⟩, .slice a1 n c1] 74 1 rfl rfl (by decide) hok
      have hbF : Below wq.heap.size wq (wq.alloc (.cells #[.string ⟨#[119, 53]⟩, .slice a1 n c1] 74)) := (Below.refl _ _).alloc (Nat.le_refl _) _
      go_wp2_with fail
      obtain ⟨wF, hwF⟩ : ∃ y, wq.alloc (.cells #[.string ⟨#[119, 53]⟩, .slice a1 n c1] 74) = y := ⟨_, rfl⟩
      rw [hwF] at hFl hbF ⊢
      obtain ⟨ex0, hex0⟩ : ∃ ex0 : Nat → Prop, ex0 = fun k => k < wF.heap.size := ⟨_, rfl⟩
      have hx0 : ∀ k, ex0 k → k < wF.heap.size := fun k hk => by rw [hex0] at hk; exact hk
      have hx1 : ∀ k, k < wF.heap.size → ex0 k := fun k hk => by rw [hex0]; exact hk
      have hM := made4_any wF ex0 _ _ hFl hx0 hx1 (fun x hx => by rw [List.mem_singleton.1 hx]; show ((wFileB 5 3 []).take n).length ≤ 3000; rw [List.length_take, f53_len]; omega)
      unfold MadePost refVal at hM
      rw [madeD_W _ [(w5n, (wFileB 5 3 []).take n)] rfl] at hM
      have hop := ht.opens
      obtain ⟨d0, hd0⟩ : ∃ d, madeW [(w5n, (wFileB 5 3 []).take n)] = d := ⟨_, rfl⟩
      rw [hd0] at hM hop
      refine hM.mono ?_
      rintro e w3 ⟨p, m, a3, n3, c3, exq, rfl, hqx, hD3, -, hK3⟩
      have HF := Lib.hid (And.intro (HBr.out.1.trans (hbF.mono HBr.out.1.size)) (HBr.out.2.trans (hbF.mono HBr.out.2.size)))
      have HX := Lib.hid (And.intro hx0 (And.intro hx1 (And.intro hqx hop)))
      have HT := Lib.hid ht
      clear hM hFl hok hrt hbF hwF hex0 hx0 hx1 hqx hd0 hop ht y0 y1
      go_wp2_with fail
      have hb4 : Below w3.heap.size w3 (w3.alloc (.cells #[.int .i64 d0.most, .slice a3 n3 c3, .int .i64 d0.left, .bool d0.down] 78)) := (Below.refl _ _).alloc (Nat.le_refl _) _
      obtain ⟨w4, hw4⟩ : ∃ y, w3.alloc (.cells #[.int .i64 d0.most, .slice a3 n3 c3, .int .i64 d0.left, .bool d0.down] 78) = y := ⟨_, rfl⟩
      rw [hw4] at hb4 ⊢
      have hD4 := (hD3.below hb4).mono (ex' := ex0) HX.out.2.2.1
      have hK4 : Keep ex0 wF w4 := hK3.trans (Keep.ofBelow hb4 (fun k hk => hD3.lt (HX.out.2.2.1 k hk)))
      have hG : GlIn ex0 := HE.out.lt.mono (fun k hk => HX.out.2.1 k (Nat.lt_of_lt_of_le hk HF.out.2.size))
      have hE4 := HE.out.below (HF.out.2.trans ((hK4.below HX.out.2.1).mono HF.out.2.size))
      refine (open_by (n := wantW n) 64 hD4 hE4 hG HX.out.2.2.2 HT.out.recs).mono ?_
      rintro e w5 ⟨k5, q, ar, cr, XL, rfl, hF⟩
      have h5 := hF.log.mono (ex' := ex0) (fun k hk => Or.inl hk)
      have hb5 : Below w2.heap.size w2 w5 := HF.out.1.trans (((hK4.trans k5).below HX.out.2.1).mono HF.out.1.size)
      have H5 := Lib.hid (And.intro h5 hb5)
      clear hb4 hw4 hD3 hK3 hD4 hK4 hG hE4 k5 hF h5 hb5
      go_wp2_with fail
      go_loopw [8, 9] (fun wv kv wr => ∃ j : Nat, j ≤ 3 ∧ kv = .int .i64 ((j : Int) + 1) ∧ wv = .int .i64 (wTo n j : Nat) ∧ Below w5.heap.size w5 wr) (fun _ kv _ => 4 - (intOf kv).toNat)
      case atStart => exact ⟨0, by omega, rfl, rfl, Below.refl _ _⟩
      case round =>
        obtain ⟨j, hj, rfl, rfl, hB6⟩ := hrel
        obtain ⟨w6, rfl⟩ : ∃ x, x = wr := ⟨_, rfl⟩
        have HB6 := Lib.hid hB6
        clear hB6
        by_cases hj3 : j < 3
        · have hstep : wTo n (j + 1) = if 9 + 9 * (j + 1) ≤ n then j + 1 else wTo n j := rfl
          have hFk := fun w => f5k w j hj3
          obtain ⟨L, hL⟩ : ∃ L, 9 + 9 * (j + 1) = L := ⟨_, rfl⟩
          obtain ⟨t0, ht0⟩ : ∃ t, wTo n j = t := ⟨_, rfl⟩
          rw [hL] at hFk hstep
          rw [ht0] at hstep ⊢
          have Hst := Lib.hid hstep
          have hjI : (j : Int) + 1 ≤ 3 := by omega
          clear hstep hL ht0
          by_cases hc : L ≤ n
          · have hcL : (L : Int) ≤ (n : Int) := by omega
            go_wp2_with (go_at_call 37; refine (hFk _).mono ?_; rintro e w7 ⟨a7, c7, rfl, -, hb7, -, -⟩)
            go_roundw
            case rel => exact ⟨j + 1, by omega, by go_num, by rw [Hst.out, if_pos hc]; go_num, HB6.out.trans (hb7.mono HB6.out.size)⟩
            case measure => simp [intOf]; omega
          · have hcL : ¬ (L : Int) ≤ (n : Int) := by omega
            go_wp2_with (go_at_call 37; refine (hFk _).mono ?_; rintro e w7 ⟨a7, c7, rfl, -, hb7, -, -⟩)
            go_roundw
            case rel => exact ⟨j + 1, by omega, by go_num, by rw [Hst.out, if_neg hc], HB6.out.trans (hb7.mono HB6.out.size)⟩
            case measure => simp [intOf]; omega
        · obtain rfl : j = 3 := by omega
          rw [wTo_want]
          have hnm := HT.out.names
          have hla := HT.out.last
          have hsy := HT.out.synced
          obtain ⟨W, hW⟩ : ∃ W, wantW n = W := ⟨_, rfl⟩
          rw [hW] at hla hsy ⊢
          obtain ⟨N, hN⟩ : ∃ N, d'.names.length = N := ⟨_, rfl⟩
          rw [hN] at hnm
          have hLi := fun (v : World) (hb : Below w5.heap.size w5 v) => List_at (H5.out.1.below hb).disk
          rw [hN] at hLi
          have hok := HT.out.ok
          have h9 : ¬ W = 0 → ¬ n < 9 := fun h => by
            intro hlt9
            apply h
            rw [← hW]
            unfold wantW
            rw [if_neg (by omega), if_neg (by omega), if_neg (by omega)]
          have hB6' := fun (v : World) (hb : Below w6.heap.size w6 v) => HB6.out.trans (hb.mono HB6.out.size)
          have HB' := Lib.hid hB6'
          clear hN hB6'
          by_cases hn9 : n < 9
          · have hN0 : N = 0 := by simpa [hn9] using hnm
            subst hN0
            have hW0 : W = 0 := Classical.byContradiction fun h => h9 h hn9
            subst hW0
            have hn9I : (n : Int) < 9 := by omega
            clear hla hsy h9 hnm hW
            go_wp2_with (first
              | (go_at_call 37; refine (f50 _).mono ?_; rintro e w7 ⟨a7, c7, rfl, -, hb7, -, -⟩)
              | (go_at_call 28; refine (hLi _ (HB'.out _ hb7)).mono ?_; rintro e w8 ⟨a8, c8, rfl, -, -, hb8⟩))
            go_roundw
            case rel => exact ⟨n + 1, by omega, by go_num, H5.out.2.trans ((HB'.out _ (hb7.trans (hb8.mono hb7.size))).mono H5.out.2.size)⟩
            case measure => simp [intOf]; omega
          · have hn9I : ¬ (n : Int) < 9 := by omega
            have hN0 : ¬ N = 0 := by simpa [hn9] using hnm
            have hN0I : ¬ (N : Int) = 0 := by omega
            have db1 : decide ((n : Int) < 9) = false := decide_eq_false hn9I
            have db2 : ((N : Int) == 0) = false := by simpa using hN0
            by_cases hW0 : W = 0
            · subst hW0
              clear hla hsy h9 hnm hW
              go_wp2_with (first
                | (go_at_call 37; refine (f50 _).mono ?_; rintro e w7 ⟨a7, c7, rfl, -, hb7, -, -⟩)
                | (go_at_call 28; refine (hLi _ (HB'.out _ hb7)).mono ?_; rintro e w8 ⟨a8, c8, rfl, -, -, hb8⟩))
              go_roundw
              case rel => exact ⟨n + 1, by omega, by go_num, H5.out.2.trans ((HB'.out _ (hb7.trans (hb8.mono hb7.size))).mono H5.out.2.size)⟩
              case measure => simp only [intOf]; omega
            · have hWI : (0 : Int) < (W : Int) := by omega
              have hW3 : (W : Int) ≤ 3 := by
                have h3 : wantW n ≤ 3 := by
                  unfold wantW
                  repeat' split
                  all_goals omega
                omega
              have hl1 := fun (v : World) (hb : Below w5.heap.size w5 v) => last_by (4 + W) (H5.out.1.below hb) HT.out.ok (hla hW0)
              have hs1 := fun (v : World) (hb : Below w5.heap.size w5 v) => synced_by (4 + W) (H5.out.1.below hb) (hsy hW0)
              rw [show ((4 + W : Nat) : Int) = 4 + (W : Int) from by omega] at hl1 hs1
              have Hl := Lib.hid (And.intro hl1 hs1)
              clear hla hsy h9 hnm hW hl1 hs1
              go_wp2_with (first
                | (go_at_call 37; refine (f50 _).mono ?_; rintro e w7 ⟨a7, c7, rfl, -, hb7, -, -⟩)
                | (go_at_call 28; refine (hLi _ (HB'.out _ hb7)).mono ?_; rintro e w8 ⟨a8, c8, rfl, -, -, hb8⟩; have hb78 := HB'.out _ (hb7.trans (hb8.mono hb7.size)))
                | (go_at_call 21; refine (Hl.out.1 _ hb78).mono ?_; rintro e w9 ⟨rfl, rfl⟩)
                | (go_at_call 25; refine (Hl.out.2 _ hb78).mono ?_; rintro e w9 ⟨rfl, rfl⟩))
              go_roundw
              case rel => exact ⟨n + 1, by omega, by go_num, H5.out.2.trans (hb78.mono H5.out.2.size)⟩
              case measure => simp only [intOf]; omega
    · obtain rfl : n = 37 := by omega
      have K0 := Lib.hid HBr.out.2
      clear HBr y0
      have ps1' := Rd_new wq #[.string ⟨#[119, 49, 48]⟩, .string ⟨#[119, 56]⟩] 9 (0, 0) (sCells [⟨#[119, 49, 48]⟩, ⟨#[119, 56]⟩]) 2 2 rfl rfl
      have ps1 := ps1'
      clear ps1'
      go_wp2_with fail
      refine (f82 _).mono ?_
      rintro e pu2 ⟨pa2, pc2, rfl, pr2', hb, -, -⟩
      have ps1 := ps1.below hb
      have pK2 := Lib.hid (show Below w.heap.size w pu2 from ((K0.out.alloc (by have := K0.out.size; simp; omega) _)).trans (hb.mono (by have := K0.out.size; simp; omega)))
      clear K0 hb
      have pr2 := Rd.ofOwns pr2'
      clear pr2'
      go_wp2_with fail
      refine (f103 _).mono ?_
      rintro e pu3 ⟨pa3, pc3, rfl, pr3', hb, -, -⟩
      have ps1 := ps1.below hb
      have pr2 := pr2.below hb
      have pK3 := Lib.hid (show Below w.heap.size w pu3 from pK2.out.trans (hb.mono pK2.out.size))
      clear pK2 hb
      have pr3 := Rd.ofOwns pr3'
      clear pr3'
      have hok : ∀ x ∈ ([⟨⟨#[119, 56]⟩, .slice pa2 27 pc2, wFileB 8 2 []⟩, ⟨⟨#[119, 49, 48]⟩, .slice pa3 39 pc3, wFileB 10 3 [120, 121, 122]⟩] : List AFile5), FileOk5 pu3 x := by
        intro x hx
        simp only [List.mem_cons, List.not_mem_nil, or_false] at hx
        rcases hx with rfl | rfl
        · exact file_okw (by decide) (by rw [f82_len]; decide) pr2
        · exact file_okw (by decide) (by rw [f103_len]; decide) pr3
      have pf4' := files_row pu3 [⟨⟨#[119, 56]⟩, .slice pa2 27 pc2, wFileB 8 2 []⟩, ⟨⟨#[119, 49, 48]⟩, .slice pa3 39 pc3, wFileB 10 3 [120, 121, 122]⟩] #[.string ⟨#[119, 56]⟩, .slice pa2 27 pc2, .string ⟨#[119, 49, 48]⟩, .slice pa3 39 pc3] 74 2 rfl rfl (by decide) hok
      have ps1 := ps1.below ((Below.refl pu3.heap.size pu3).alloc (Nat.le_refl _) (.cells #[.string ⟨#[119, 56]⟩, .slice pa2 27 pc2, .string ⟨#[119, 49, 48]⟩, .slice pa3 39 pc3] 74))
      have pr2 := pr2.below ((Below.refl pu3.heap.size pu3).alloc (Nat.le_refl _) (.cells #[.string ⟨#[119, 56]⟩, .slice pa2 27 pc2, .string ⟨#[119, 49, 48]⟩, .slice pa3 39 pc3] 74))
      have pr3 := pr3.below ((Below.refl pu3.heap.size pu3).alloc (Nat.le_refl _) (.cells #[.string ⟨#[119, 56]⟩, .slice pa2 27 pc2, .string ⟨#[119, 49, 48]⟩, .slice pa3 39 pc3] 74))
      have pf4 := pf4'
      clear pf4' hok
      go_wp2_with fail
      have hl : ∀ x ∈ ([⟨⟨#[119, 56]⟩, .slice pa2 27 pc2, wFileB 8 2 []⟩, ⟨⟨#[119, 49, 48]⟩, .slice pa3 39 pc3, wFileB 10 3 [120, 121, 122]⟩] : List AFile5), x.b.length ≤ 3000 := by
        intro x hx
        simp only [List.mem_cons, List.not_mem_nil, or_false] at hx
        rcases hx with rfl | rfl
        · rw [f82_len]; decide
        · rw [f103_len]; decide
      refine (tells4_yes _ (HE.out.below (show Below w.heap.size w (pu3.alloc (.cells #[.string ⟨#[119, 56]⟩, .slice pa2 27 pc2, .string ⟨#[119, 49, 48]⟩, .slice pa3 39 pc3] 74)) from (pK3.out.alloc (by have := pK3.out.size; simp; omega) _))) 5 [⟨#[119, 49, 48]⟩, ⟨#[119, 56]⟩] _ _ [⟨⟨#[119, 56]⟩, .slice pa2 27 pc2, wFileB 8 2 []⟩, ⟨⟨#[119, 49, 48]⟩, .slice pa3 39 pc3, wFileB 10 3 [120, 121, 122]⟩] pf4 _ rfl hl ps1 (by decide) (tells_open tw1 ms2)).mono ?_
      rintro e pu5 ⟨rfl, hb⟩
      have pK5 := Lib.hid (show Below w.heap.size w pu5 from ((pK3.out.alloc (by have := pK3.out.size; simp; omega) _)).trans (hb.mono (by have := pK3.out.size; simp; omega)))
      clear pK3 hb
      clear hl ps1 pr2 pr3 pf4
      have ps6' := Rd_new pu5 #[.string ⟨#[119, 56]⟩] 9 (0, 0) (sCells [⟨#[119, 56]⟩]) 1 1 rfl rfl
      have ps6 := ps6'
      clear ps6'
      go_wp2_with fail
      refine (f82 _).mono ?_
      rintro e pu7 ⟨pa7, pc7, rfl, pr7', hb, -, -⟩
      have ps6 := ps6.below hb
      have pK7 := Lib.hid (show Below w.heap.size w pu7 from ((pK5.out.alloc (by have := pK5.out.size; simp; omega) _)).trans (hb.mono (by have := pK5.out.size; simp; omega)))
      clear pK5 hb
      have pr7 := Rd.ofOwns pr7'
      clear pr7'
      have pb8' := Rd_new pu7 #[.int .u8 72, .int .u8 83, .int .u8 87] 5 (3, 4) (bcells [72, 83, 87]) 3 3 rfl rfl
      have ps6 := ps6.below ((Below.refl pu7.heap.size pu7).alloc (Nat.le_refl _) (.cells #[.int .u8 72, .int .u8 83, .int .u8 87] 5 (3, 4)))
      have pr7 := pr7.below ((Below.refl pu7.heap.size pu7).alloc (Nat.le_refl _) (.cells #[.int .u8 72, .int .u8 83, .int .u8 87] 5 (3, 4)))
      have pb8 := pb8'
      clear pb8'
      have hok : ∀ x ∈ ([⟨⟨#[119, 56]⟩, .slice pa7 27 pc7, wFileB 8 2 []⟩, ⟨⟨#[119, 49, 48]⟩, .slice (some ⟨pu7.heap.size, 0, none⟩) 3 3, [72, 83, 87]⟩] : List AFile5), FileOk5 (pu7.alloc (.cells #[.int .u8 72, .int .u8 83, .int .u8 87] 5 (3, 4))) x := by
        intro x hx
        simp only [List.mem_cons, List.not_mem_nil, or_false] at hx
        rcases hx with rfl | rfl
        · exact file_okw (by decide) (by rw [f82_len]; decide) pr7
        · exact file_okw (by decide) (by decide) pb8
      have pf9' := files_row (pu7.alloc (.cells #[.int .u8 72, .int .u8 83, .int .u8 87] 5 (3, 4))) [⟨⟨#[119, 56]⟩, .slice pa7 27 pc7, wFileB 8 2 []⟩, ⟨⟨#[119, 49, 48]⟩, .slice (some ⟨pu7.heap.size, 0, none⟩) 3 3, [72, 83, 87]⟩] #[.string ⟨#[119, 56]⟩, .slice pa7 27 pc7, .string ⟨#[119, 49, 48]⟩, .slice (some ⟨pu7.heap.size, 0, none⟩) 3 3] 74 2 rfl rfl (by decide) hok
      rw [show (pu7.alloc (.cells #[.int .u8 72, .int .u8 83, .int .u8 87] 5 (3, 4))).heap.size = pu7.heap.size + 1 from by simp] at pf9'
      have ps6 := ps6.below ((Below.refl (pu7.alloc (.cells #[.int .u8 72, .int .u8 83, .int .u8 87] 5 (3, 4))).heap.size (pu7.alloc (.cells #[.int .u8 72, .int .u8 83, .int .u8 87] 5 (3, 4)))).alloc (Nat.le_refl _) (.cells #[.string ⟨#[119, 56]⟩, .slice pa7 27 pc7, .string ⟨#[119, 49, 48]⟩, .slice (some ⟨pu7.heap.size, 0, none⟩) 3 3] 74))
      have pr7 := pr7.below ((Below.refl (pu7.alloc (.cells #[.int .u8 72, .int .u8 83, .int .u8 87] 5 (3, 4))).heap.size (pu7.alloc (.cells #[.int .u8 72, .int .u8 83, .int .u8 87] 5 (3, 4)))).alloc (Nat.le_refl _) (.cells #[.string ⟨#[119, 56]⟩, .slice pa7 27 pc7, .string ⟨#[119, 49, 48]⟩, .slice (some ⟨pu7.heap.size, 0, none⟩) 3 3] 74))
      have pb8 := pb8.below ((Below.refl (pu7.alloc (.cells #[.int .u8 72, .int .u8 83, .int .u8 87] 5 (3, 4))).heap.size (pu7.alloc (.cells #[.int .u8 72, .int .u8 83, .int .u8 87] 5 (3, 4)))).alloc (Nat.le_refl _) (.cells #[.string ⟨#[119, 56]⟩, .slice pa7 27 pc7, .string ⟨#[119, 49, 48]⟩, .slice (some ⟨pu7.heap.size, 0, none⟩) 3 3] 74))
      have pf9 := pf9'
      clear pf9' hok
      go_wp2_with fail
      have hl : ∀ x ∈ ([⟨⟨#[119, 56]⟩, .slice pa7 27 pc7, wFileB 8 2 []⟩, ⟨⟨#[119, 49, 48]⟩, .slice (some ⟨pu7.heap.size, 0, none⟩) 3 3, [72, 83, 87]⟩] : List AFile5), x.b.length ≤ 3000 := by
        intro x hx
        simp only [List.mem_cons, List.not_mem_nil, or_false] at hx
        rcases hx with rfl | rfl
        · rw [f82_len]; decide
        · exact (by decide : ([72, 83, 87] : List UInt8).length ≤ 3000)
      refine (tells4_yes _ (HE.out.below (show Below w.heap.size w ((pu7.alloc (.cells #[.int .u8 72, .int .u8 83, .int .u8 87] 5 (3, 4))).alloc (.cells #[.string ⟨#[119, 56]⟩, .slice pa7 27 pc7, .string ⟨#[119, 49, 48]⟩, .slice (some ⟨pu7.heap.size, 0, none⟩) 3 3] 74)) from ((pK7.out.alloc (by have := pK7.out.size; simp; omega) _).alloc (by have := pK7.out.size; simp; omega) _))) 2 [⟨#[119, 56]⟩] _ _ [⟨⟨#[119, 56]⟩, .slice pa7 27 pc7, wFileB 8 2 []⟩, ⟨⟨#[119, 49, 48]⟩, .slice (some ⟨pu7.heap.size, 0, none⟩) 3 3, [72, 83, 87]⟩] pf9 _ rfl hl ps6 (by decide) (tells_open tw2 ms2)).mono ?_
      rintro e pu10 ⟨rfl, hb⟩
      have pK10 := Lib.hid (show Below w.heap.size w pu10 from (((pK7.out.alloc (by have := pK7.out.size; simp; omega) _).alloc (by have := pK7.out.size; simp; omega) _)).trans (hb.mono (by have := pK7.out.size; simp; omega)))
      clear pK7 hb
      clear hl ps6 pr7 pb8 pf9
      have ps11' := Rd_new pu10 #[.string ⟨#[119, 49, 48]⟩, .string ⟨#[119, 56]⟩] 9 (0, 0) (sCells [⟨#[119, 49, 48]⟩, ⟨#[119, 56]⟩]) 2 2 rfl rfl
      have ps11 := ps11'
      clear ps11'
      go_wp2_with fail
      refine (f82 _).mono ?_
      rintro e pu12 ⟨pa12, pc12, rfl, pr12', hb, -, -⟩
      have ps11 := ps11.below hb
      have pK12 := Lib.hid (show Below w.heap.size w pu12 from ((pK10.out.alloc (by have := pK10.out.size; simp; omega) _)).trans (hb.mono (by have := pK10.out.size; simp; omega)))
      clear pK10 hb
      have pr12 := Rd.ofOwns pr12'
      clear pr12'
      go_wp2_with fail
      refine (f100 _).mono ?_
      rintro e pu13 ⟨pa13, pc13, rfl, pr13', hb, -, -⟩
      have ps11 := ps11.below hb
      have pr12 := pr12.below hb
      have pK13 := Lib.hid (show Below w.heap.size w pu13 from pK12.out.trans (hb.mono pK12.out.size))
      clear pK12 hb
      have pr13 := Rd.ofOwns pr13'
      clear pr13'
      have hok : ∀ x ∈ ([⟨⟨#[119, 56]⟩, .slice pa12 27 pc12, wFileB 8 2 []⟩, ⟨⟨#[119, 49, 48]⟩, .slice pa13 9 pc13, wFileB 10 0 []⟩] : List AFile5), FileOk5 pu13 x := by
        intro x hx
        simp only [List.mem_cons, List.not_mem_nil, or_false] at hx
        rcases hx with rfl | rfl
        · exact file_okw (by decide) (by rw [f82_len]; decide) pr12
        · exact file_okw (by decide) (by rw [f100_len]; decide) pr13
      have pf14' := files_row pu13 [⟨⟨#[119, 56]⟩, .slice pa12 27 pc12, wFileB 8 2 []⟩, ⟨⟨#[119, 49, 48]⟩, .slice pa13 9 pc13, wFileB 10 0 []⟩] #[.string ⟨#[119, 56]⟩, .slice pa12 27 pc12, .string ⟨#[119, 49, 48]⟩, .slice pa13 9 pc13] 74 2 rfl rfl (by decide) hok
      have ps11 := ps11.below ((Below.refl pu13.heap.size pu13).alloc (Nat.le_refl _) (.cells #[.string ⟨#[119, 56]⟩, .slice pa12 27 pc12, .string ⟨#[119, 49, 48]⟩, .slice pa13 9 pc13] 74))
      have pr12 := pr12.below ((Below.refl pu13.heap.size pu13).alloc (Nat.le_refl _) (.cells #[.string ⟨#[119, 56]⟩, .slice pa12 27 pc12, .string ⟨#[119, 49, 48]⟩, .slice pa13 9 pc13] 74))
      have pr13 := pr13.below ((Below.refl pu13.heap.size pu13).alloc (Nat.le_refl _) (.cells #[.string ⟨#[119, 56]⟩, .slice pa12 27 pc12, .string ⟨#[119, 49, 48]⟩, .slice pa13 9 pc13] 74))
      have pf14 := pf14'
      clear pf14' hok
      go_wp2_with fail
      have hl : ∀ x ∈ ([⟨⟨#[119, 56]⟩, .slice pa12 27 pc12, wFileB 8 2 []⟩, ⟨⟨#[119, 49, 48]⟩, .slice pa13 9 pc13, wFileB 10 0 []⟩] : List AFile5), x.b.length ≤ 3000 := by
        intro x hx
        simp only [List.mem_cons, List.not_mem_nil, or_false] at hx
        rcases hx with rfl | rfl
        · rw [f82_len]; decide
        · rw [f100_len]; decide
      refine (tells4_yes _ (HE.out.below (show Below w.heap.size w (pu13.alloc (.cells #[.string ⟨#[119, 56]⟩, .slice pa12 27 pc12, .string ⟨#[119, 49, 48]⟩, .slice pa13 9 pc13] 74)) from (pK13.out.alloc (by have := pK13.out.size; simp; omega) _))) 2 [⟨#[119, 49, 48]⟩, ⟨#[119, 56]⟩] _ _ [⟨⟨#[119, 56]⟩, .slice pa12 27 pc12, wFileB 8 2 []⟩, ⟨⟨#[119, 49, 48]⟩, .slice pa13 9 pc13, wFileB 10 0 []⟩] pf14 _ rfl hl ps11 (by decide) (tells_open tw3 ms2)).mono ?_
      rintro e pu15 ⟨rfl, hb⟩
      have pK15 := Lib.hid (show Below w.heap.size w pu15 from ((pK13.out.alloc (by have := pK13.out.size; simp; omega) _)).trans (hb.mono (by have := pK13.out.size; simp; omega)))
      clear pK13 hb
      clear hl ps11 pr12 pr13 pf14
      have ps16' := Rd_new pu15 #[.string ⟨#[119]⟩, .string ⟨#[119, 48]⟩, .string ⟨#[119, 48, 53]⟩, .string ⟨#[119, 57, 48, 48, 55, 49, 57, 57, 50, 53, 52, 55, 52, 48, 57, 57, 51]⟩, .string ⟨#[119, 120]⟩] 9 (0, 0) (sCells [⟨#[119]⟩, ⟨#[119, 48]⟩, ⟨#[119, 48, 53]⟩, ⟨#[119, 57, 48, 48, 55, 49, 57, 57, 50, 53, 52, 55, 52, 48, 57, 57, 51]⟩, ⟨#[119, 120]⟩]) 5 5 rfl rfl
      have ps16 := ps16'
      clear ps16'
      have hok : ∀ x ∈ ([⟨⟨#[119]⟩, .slice none 0 0, []⟩, ⟨⟨#[119, 48]⟩, .slice none 0 0, []⟩, ⟨⟨#[119, 48, 53]⟩, .slice none 0 0, []⟩, ⟨⟨#[119, 57, 48, 48, 55, 49, 57, 57, 50, 53, 52, 55, 52, 48, 57, 57, 51]⟩, .slice none 0 0, []⟩, ⟨⟨#[119, 120]⟩, .slice none 0 0, []⟩] : List AFile5), FileOk5 (pu15.alloc (.cells #[.string ⟨#[119]⟩, .string ⟨#[119, 48]⟩, .string ⟨#[119, 48, 53]⟩, .string ⟨#[119, 57, 48, 48, 55, 49, 57, 57, 50, 53, 52, 55, 52, 48, 57, 57, 51]⟩, .string ⟨#[119, 120]⟩] 9)) x := by
        intro x hx
        simp only [List.mem_cons, List.not_mem_nil, or_false] at hx
        rcases hx with rfl | rfl | rfl | rfl | rfl
        · exact file_okw (by decide) (by decide) (Or.inl ⟨Or.inl rfl, rfl⟩)
        · exact file_okw (by decide) (by decide) (Or.inl ⟨Or.inl rfl, rfl⟩)
        · exact file_okw (by decide) (by decide) (Or.inl ⟨Or.inl rfl, rfl⟩)
        · exact file_okw (by decide) (by decide) (Or.inl ⟨Or.inl rfl, rfl⟩)
        · exact file_okw (by decide) (by decide) (Or.inl ⟨Or.inl rfl, rfl⟩)
      have pf17' := files_row (pu15.alloc (.cells #[.string ⟨#[119]⟩, .string ⟨#[119, 48]⟩, .string ⟨#[119, 48, 53]⟩, .string ⟨#[119, 57, 48, 48, 55, 49, 57, 57, 50, 53, 52, 55, 52, 48, 57, 57, 51]⟩, .string ⟨#[119, 120]⟩] 9)) [⟨⟨#[119]⟩, .slice none 0 0, []⟩, ⟨⟨#[119, 48]⟩, .slice none 0 0, []⟩, ⟨⟨#[119, 48, 53]⟩, .slice none 0 0, []⟩, ⟨⟨#[119, 57, 48, 48, 55, 49, 57, 57, 50, 53, 52, 55, 52, 48, 57, 57, 51]⟩, .slice none 0 0, []⟩, ⟨⟨#[119, 120]⟩, .slice none 0 0, []⟩] #[.string ⟨#[119]⟩, .slice none 0 0, .string ⟨#[119, 48]⟩, .slice none 0 0, .string ⟨#[119, 48, 53]⟩, .slice none 0 0, .string ⟨#[119, 57, 48, 48, 55, 49, 57, 57, 50, 53, 52, 55, 52, 48, 57, 57, 51]⟩, .slice none 0 0, .string ⟨#[119, 120]⟩, .slice none 0 0] 74 5 rfl rfl (by decide) hok
      rw [show (pu15.alloc (.cells #[.string ⟨#[119]⟩, .string ⟨#[119, 48]⟩, .string ⟨#[119, 48, 53]⟩, .string ⟨#[119, 57, 48, 48, 55, 49, 57, 57, 50, 53, 52, 55, 52, 48, 57, 57, 51]⟩, .string ⟨#[119, 120]⟩] 9)).heap.size = pu15.heap.size + 1 from by simp] at pf17'
      have ps16 := ps16.below ((Below.refl (pu15.alloc (.cells #[.string ⟨#[119]⟩, .string ⟨#[119, 48]⟩, .string ⟨#[119, 48, 53]⟩, .string ⟨#[119, 57, 48, 48, 55, 49, 57, 57, 50, 53, 52, 55, 52, 48, 57, 57, 51]⟩, .string ⟨#[119, 120]⟩] 9)).heap.size (pu15.alloc (.cells #[.string ⟨#[119]⟩, .string ⟨#[119, 48]⟩, .string ⟨#[119, 48, 53]⟩, .string ⟨#[119, 57, 48, 48, 55, 49, 57, 57, 50, 53, 52, 55, 52, 48, 57, 57, 51]⟩, .string ⟨#[119, 120]⟩] 9))).alloc (Nat.le_refl _) (.cells #[.string ⟨#[119]⟩, .slice none 0 0, .string ⟨#[119, 48]⟩, .slice none 0 0, .string ⟨#[119, 48, 53]⟩, .slice none 0 0, .string ⟨#[119, 57, 48, 48, 55, 49, 57, 57, 50, 53, 52, 55, 52, 48, 57, 57, 51]⟩, .slice none 0 0, .string ⟨#[119, 120]⟩, .slice none 0 0] 74))
      have pf17 := pf17'
      clear pf17' hok
      go_wp2_with fail
      have hl : ∀ x ∈ ([⟨⟨#[119]⟩, .slice none 0 0, []⟩, ⟨⟨#[119, 48]⟩, .slice none 0 0, []⟩, ⟨⟨#[119, 48, 53]⟩, .slice none 0 0, []⟩, ⟨⟨#[119, 57, 48, 48, 55, 49, 57, 57, 50, 53, 52, 55, 52, 48, 57, 57, 51]⟩, .slice none 0 0, []⟩, ⟨⟨#[119, 120]⟩, .slice none 0 0, []⟩] : List AFile5), x.b.length ≤ 3000 := by
        intro x hx
        simp only [List.mem_cons, List.not_mem_nil, or_false] at hx
        rcases hx with rfl | rfl | rfl | rfl | rfl
        · exact (by decide : ([] : List UInt8).length ≤ 3000)
        · exact (by decide : ([] : List UInt8).length ≤ 3000)
        · exact (by decide : ([] : List UInt8).length ≤ 3000)
        · exact (by decide : ([] : List UInt8).length ≤ 3000)
        · exact (by decide : ([] : List UInt8).length ≤ 3000)
      refine (tells4_yes _ (HE.out.below (show Below w.heap.size w ((pu15.alloc (.cells #[.string ⟨#[119]⟩, .string ⟨#[119, 48]⟩, .string ⟨#[119, 48, 53]⟩, .string ⟨#[119, 57, 48, 48, 55, 49, 57, 57, 50, 53, 52, 55, 52, 48, 57, 57, 51]⟩, .string ⟨#[119, 120]⟩] 9)).alloc (.cells #[.string ⟨#[119]⟩, .slice none 0 0, .string ⟨#[119, 48]⟩, .slice none 0 0, .string ⟨#[119, 48, 53]⟩, .slice none 0 0, .string ⟨#[119, 57, 48, 48, 55, 49, 57, 57, 50, 53, 52, 55, 52, 48, 57, 57, 51]⟩, .slice none 0 0, .string ⟨#[119, 120]⟩, .slice none 0 0] 74)) from ((pK15.out.alloc (by have := pK15.out.size; simp; omega) _).alloc (by have := pK15.out.size; simp; omega) _))) 0 [⟨#[119]⟩, ⟨#[119, 48]⟩, ⟨#[119, 48, 53]⟩, ⟨#[119, 57, 48, 48, 55, 49, 57, 57, 50, 53, 52, 55, 52, 48, 57, 57, 51]⟩, ⟨#[119, 120]⟩] _ _ [⟨⟨#[119]⟩, .slice none 0 0, []⟩, ⟨⟨#[119, 48]⟩, .slice none 0 0, []⟩, ⟨⟨#[119, 48, 53]⟩, .slice none 0 0, []⟩, ⟨⟨#[119, 57, 48, 48, 55, 49, 57, 57, 50, 53, 52, 55, 52, 48, 57, 57, 51]⟩, .slice none 0 0, []⟩, ⟨⟨#[119, 120]⟩, .slice none 0 0, []⟩] pf17 _ rfl hl ps16 (by decide) (tells_open tw4 ms0)).mono ?_
      rintro e pu18 ⟨rfl, hb⟩
      have pK18 := Lib.hid (show Below w.heap.size w pu18 from (((pK15.out.alloc (by have := pK15.out.size; simp; omega) _).alloc (by have := pK15.out.size; simp; omega) _)).trans (hb.mono (by have := pK15.out.size; simp; omega)))
      clear pK15 hb
      clear hl ps16 pf17
      have ps19' := Rd_new pu18 #[.string ⟨#[119, 57, 48, 48, 55, 49, 57, 57, 50, 53, 52, 55, 52, 48, 57, 57, 50]⟩] 9 (0, 0) (sCells [⟨#[119, 57, 48, 48, 55, 49, 57, 57, 50, 53, 52, 55, 52, 48, 57, 57, 50]⟩]) 1 1 rfl rfl
      have ps19 := ps19'
      clear ps19'
      go_wp2_with fail
      refine (fgt _).mono ?_
      rintro e pu20 ⟨pa20, pc20, rfl, pr20', hb, -, -⟩
      have ps19 := ps19.below hb
      have pK20 := Lib.hid (show Below w.heap.size w pu20 from ((pK18.out.alloc (by have := pK18.out.size; simp; omega) _)).trans (hb.mono (by have := pK18.out.size; simp; omega)))
      clear pK18 hb
      have pr20 := Rd.ofOwns pr20'
      clear pr20'
      have hok : ∀ x ∈ ([⟨⟨#[119, 57, 48, 48, 55, 49, 57, 57, 50, 53, 52, 55, 52, 48, 57, 57, 50]⟩, .slice pa20 32 pc20, wFileB 9007199254740992 1 []⟩] : List AFile5), FileOk5 pu20 x := by
        intro x hx
        simp only [List.mem_cons, List.not_mem_nil, or_false] at hx
        subst hx
        · exact file_okw (by decide) (by rw [fgt_len]; decide) pr20
      have pf21' := files_row pu20 [⟨⟨#[119, 57, 48, 48, 55, 49, 57, 57, 50, 53, 52, 55, 52, 48, 57, 57, 50]⟩, .slice pa20 32 pc20, wFileB 9007199254740992 1 []⟩] #[.string ⟨#[119, 57, 48, 48, 55, 49, 57, 57, 50, 53, 52, 55, 52, 48, 57, 57, 50]⟩, .slice pa20 32 pc20] 74 1 rfl rfl (by decide) hok
      have ps19 := ps19.below ((Below.refl pu20.heap.size pu20).alloc (Nat.le_refl _) (.cells #[.string ⟨#[119, 57, 48, 48, 55, 49, 57, 57, 50, 53, 52, 55, 52, 48, 57, 57, 50]⟩, .slice pa20 32 pc20] 74))
      have pr20 := pr20.below ((Below.refl pu20.heap.size pu20).alloc (Nat.le_refl _) (.cells #[.string ⟨#[119, 57, 48, 48, 55, 49, 57, 57, 50, 53, 52, 55, 52, 48, 57, 57, 50]⟩, .slice pa20 32 pc20] 74))
      have pf21 := pf21'
      clear pf21' hok
      go_wp2_with fail
      have hl : ∀ x ∈ ([⟨⟨#[119, 57, 48, 48, 55, 49, 57, 57, 50, 53, 52, 55, 52, 48, 57, 57, 50]⟩, .slice pa20 32 pc20, wFileB 9007199254740992 1 []⟩] : List AFile5), x.b.length ≤ 3000 := by
        intro x hx
        simp only [List.mem_cons, List.not_mem_nil, or_false] at hx
        subst hx
        · rw [fgt_len]; decide
      refine (tells4_yes _ (HE.out.below (show Below w.heap.size w (pu20.alloc (.cells #[.string ⟨#[119, 57, 48, 48, 55, 49, 57, 57, 50, 53, 52, 55, 52, 48, 57, 57, 50]⟩, .slice pa20 32 pc20] 74)) from (pK20.out.alloc (by have := pK20.out.size; simp; omega) _))) 1 [⟨#[119, 57, 48, 48, 55, 49, 57, 57, 50, 53, 52, 55, 52, 48, 57, 57, 50]⟩] _ _ [⟨⟨#[119, 57, 48, 48, 55, 49, 57, 57, 50, 53, 52, 55, 52, 48, 57, 57, 50]⟩, .slice pa20 32 pc20, wFileB 9007199254740992 1 []⟩] pf21 _ rfl hl ps19 (by decide) (tells_open tw5 (ms1 _))).mono ?_
      rintro e pu22 ⟨rfl, hb⟩
      have pK22 := Lib.hid (show Below w.heap.size w pu22 from ((pK20.out.alloc (by have := pK20.out.size; simp; omega) _)).trans (hb.mono (by have := pK20.out.size; simp; omega)))
      clear pK20 hb
      clear hl ps19 pr20 pf21
      have ps23' := Rd_new pu22 #[.string ⟨#[119, 57]⟩] 9 (0, 0) (sCells [⟨#[119, 57]⟩]) 1 1 rfl rfl
      have ps23 := ps23'
      clear ps23'
      go_wp2_with fail
      have own0 : w.heap.size ≤ (pu22.alloc (.cells #[.string ⟨#[119, 57]⟩] 9)).heap.size := by have := pK22.out.size; simp; omega
      refine (f91 _).mono ?_
      rintro e pu24 ⟨pa24, pc24, rfl, pr24', hb, -, -⟩
      have ps23 := ps23.below hb
      have pK24 := Lib.hid (show Below w.heap.size w pu24 from ((pK22.out.alloc (by have := pK22.out.size; simp; omega) _)).trans (hb.mono (by have := pK22.out.size; simp; omega)))
      clear pK22 hb
      have pr24 := Rd.ofOwns pr24'
      have own91 := pr24'
      go_wp2_with fail
      refine (fr11 _).mono ?_
      rintro e pu25 ⟨pa25, pc25, rfl, pr25, hb⟩
      have own91 := (Upd.ofBelow (fp := noFp) hb).row own91 (fun _ _ h => h)
      have ps23 := ps23.below hb
      have pr24 := pr24.below hb
      have pK25 := Lib.hid (show Below w.heap.size w pu25 from pK24.out.trans (hb.mono pK24.out.size))
      clear pK24 hb
      have own91b : pu25.ownsRow 0 5 1 (.slice pa24 18 pc24) (wFileB 9 1 []).length (bcells (wFileB 9 1 [])) := by rw [f91_len]; exact ownsRow_base0 own91
      go_wp2_with (at_builtin; refine append_u8 rfl (.tmp 152) (.tmp 153) rfl (.slice pa24 18 pc24) (.slice pa25 6 pc25) (wFileB 9 1 []) (wFrame sumL 11 []) (wFileB 9 1 [] ++ wFrame sumL 11 []) rfl rfl own91b rfl pr25 (by rw [f91_len, fr11_len]; decide) ?_; intro v' pu26 g1 g2 g3 _; obtain ⟨pa26, pc26, rfl, _, _, _⟩ := row_slice g1; have hGr := grew_of g1 g2 g3; rw [show (wFileB 9 1 [] ++ wFrame sumL 11 []).length = 24 from by rw [List.length_append, f91_len, fr11_len]] at g1 ⊢)
      have pK26 := Lib.hid (show Below w.heap.size w pu26 from (Grew.own pK25.out (ownsRow_from own91 (fun g hg => Nat.le_trans own0 (row_from own91 hg))) hGr).2)
      have hUp := (Upd.refl _ pu25).grown g2 (fun _ hk => Or.inl hk)
      have pr26 := Rd.ofOwns g1
      have ps23 := ps23.keep hUp (fun k hk e => by have h1 := row_from own91 e; have h2 : k = pu22.heap.size := (by cases hk; rfl); simp at h1; omega)
      clear pK25 g1 g2 g3 own91 own91b own0 hUp hGr
      have hok : ∀ x ∈ ([⟨⟨#[119, 57]⟩, .slice pa26 24 pc26, wFileB 9 1 [] ++ wFrame sumL 11 []⟩] : List AFile5), FileOk5 pu26 x := by
        intro x hx
        simp only [List.mem_cons, List.not_mem_nil, or_false] at hx
        subst hx
        · exact file_okw (by decide) (by rw [List.length_append, f91_len, fr11_len]; decide) pr26
      have pf27' := files_row pu26 [⟨⟨#[119, 57]⟩, .slice pa26 24 pc26, wFileB 9 1 [] ++ wFrame sumL 11 []⟩] #[.string ⟨#[119, 57]⟩, .slice pa26 24 pc26] 74 1 rfl rfl (by decide) hok
      have ps23 := ps23.below ((Below.refl pu26.heap.size pu26).alloc (Nat.le_refl _) (.cells #[.string ⟨#[119, 57]⟩, .slice pa26 24 pc26] 74))
      have pr26 := pr26.below ((Below.refl pu26.heap.size pu26).alloc (Nat.le_refl _) (.cells #[.string ⟨#[119, 57]⟩, .slice pa26 24 pc26] 74))
      have pf27 := pf27'
      clear pf27' hok
      have hl : ∀ x ∈ ([⟨⟨#[119, 57]⟩, .slice pa26 24 pc26, wFileB 9 1 [] ++ wFrame sumL 11 []⟩] : List AFile5), x.b.length ≤ 3000 := by
        intro x hx
        simp only [List.mem_cons, List.not_mem_nil, or_false] at hx
        subst hx
        · rw [List.length_append, f91_len, fr11_len]; decide
      refine (tells4_yes _ (HE.out.below (show Below w.heap.size w (pu26.alloc (.cells #[.string ⟨#[119, 57]⟩, .slice pa26 24 pc26] 74)) from (pK26.out.alloc (by have := pK26.out.size; simp; omega) _))) 1 [⟨#[119, 57]⟩] _ _ [⟨⟨#[119, 57]⟩, .slice pa26 24 pc26, wFileB 9 1 [] ++ wFrame sumL 11 []⟩] pf27 _ rfl hl ps23 (by decide) (tells_open tw6 (ms1 _))).mono ?_
      rintro e pu28 ⟨rfl, hb⟩
      have pK28 := Lib.hid (show Below w.heap.size w pu28 from ((pK26.out.alloc (by have := pK26.out.size; simp; omega) _)).trans (hb.mono (by have := pK26.out.size; simp; omega)))
      clear pK26 hb
      clear hl ps23 pr26 pf27
      go_wp2_with fail
      refine (f82 _).mono ?_
      rintro e qu1 ⟨qa1, qc1, rfl, qr1', hb, -, -⟩
      have qK1 := Lib.hid (show Below w.heap.size w qu1 from pK28.out.trans (hb.mono pK28.out.size))
      clear pK28 hb
      have qr1 := Rd.ofOwns qr1'
      clear qr1'
      go_wp2_with fail
      refine (f111 _).mono ?_
      rintro e qu2 ⟨qa2, qc2, rfl, qr2', hb, -, -⟩
      have qr1 := qr1.below hb
      have qK2 := Lib.hid (show Below w.heap.size w qu2 from qK1.out.trans (hb.mono qK1.out.size))
      clear qK1 hb
      have qr2 := Rd.ofOwns qr2'
      clear qr2'
      have hok : ∀ x ∈ ([⟨⟨#[119, 56]⟩, .slice qa1 27 qc1, wFileB 8 2 []⟩, ⟨⟨#[119, 49, 49]⟩, .slice qa2 18 qc2, wFileB 11 1 []⟩] : List AFile5), FileOk5 qu2 x := by
        intro x hx
        simp only [List.mem_cons, List.not_mem_nil, or_false] at hx
        rcases hx with rfl | rfl
        · exact file_okw (by decide) (by rw [f82_len]; decide) qr1
        · exact file_okw (by decide) (by rw [f111_len]; decide) qr2
      have qf3' := files_row qu2 [⟨⟨#[119, 56]⟩, .slice qa1 27 qc1, wFileB 8 2 []⟩, ⟨⟨#[119, 49, 49]⟩, .slice qa2 18 qc2, wFileB 11 1 []⟩] #[.string ⟨#[119, 56]⟩, .slice qa1 27 qc1, .string ⟨#[119, 49, 49]⟩, .slice qa2 18 qc2] 74 2 rfl rfl (by decide) hok
      have qr1 := qr1.below ((Below.refl qu2.heap.size qu2).alloc (Nat.le_refl _) (.cells #[.string ⟨#[119, 56]⟩, .slice qa1 27 qc1, .string ⟨#[119, 49, 49]⟩, .slice qa2 18 qc2] 74))
      have qr2 := qr2.below ((Below.refl qu2.heap.size qu2).alloc (Nat.le_refl _) (.cells #[.string ⟨#[119, 56]⟩, .slice qa1 27 qc1, .string ⟨#[119, 49, 49]⟩, .slice qa2 18 qc2] 74))
      have qf3 := qf3'
      clear qf3' hok
      go_wp2_with fail
      have hl : ∀ x ∈ ([⟨⟨#[119, 56]⟩, .slice qa1 27 qc1, wFileB 8 2 []⟩, ⟨⟨#[119, 49, 49]⟩, .slice qa2 18 qc2, wFileB 11 1 []⟩] : List AFile5), x.b.length ≤ 3000 := by
        intro x hx
        simp only [List.mem_cons, List.not_mem_nil, or_false] at hx
        rcases hx with rfl | rfl
        · rw [f82_len]; decide
        · rw [f111_len]; decide
      refine (none4_yes _ (HE.out.below (show Below w.heap.size w (qu2.alloc (.cells #[.string ⟨#[119, 56]⟩, .slice qa1 27 qc1, .string ⟨#[119, 49, 49]⟩, .slice qa2 18 qc2] 74)) from (qK2.out.alloc (by have := qK2.out.size; simp; omega) _))) _ [⟨⟨#[119, 56]⟩, .slice qa1 27 qc1, wFileB 8 2 []⟩, ⟨⟨#[119, 49, 49]⟩, .slice qa2 18 qc2, wFileB 11 1 []⟩] qf3 _ rfl hl (none_open nw1 ms3)).mono ?_
      rintro e qu4 ⟨rfl, hb⟩
      have qK4 := Lib.hid (show Below w.heap.size w qu4 from ((qK2.out.alloc (by have := qK2.out.size; simp; omega) _)).trans (hb.mono (by have := qK2.out.size; simp; omega)))
      clear qK2 hb
      clear hl qr1 qr2 qf3
      go_wp2_with fail
      refine (f82x _).mono ?_
      rintro e qu5 ⟨qa5, qc5, rfl, qr5', hb, -, -⟩
      have qK5 := Lib.hid (show Below w.heap.size w qu5 from qK4.out.trans (hb.mono qK4.out.size))
      clear qK4 hb
      have qr5 := Rd.ofOwns qr5'
      clear qr5'
      go_wp2_with fail
      refine (f101 _).mono ?_
      rintro e qu6 ⟨qa6, qc6, rfl, qr6', hb, -, -⟩
      have qr5 := qr5.below hb
      have qK6 := Lib.hid (show Below w.heap.size w qu6 from qK5.out.trans (hb.mono qK5.out.size))
      clear qK5 hb
      have qr6 := Rd.ofOwns qr6'
      clear qr6'
      have hok : ∀ x ∈ ([⟨⟨#[119, 56]⟩, .slice qa5 28 qc5, wFileB 8 2 [120]⟩, ⟨⟨#[119, 49, 48]⟩, .slice qa6 18 qc6, wFileB 10 1 []⟩] : List AFile5), FileOk5 qu6 x := by
        intro x hx
        simp only [List.mem_cons, List.not_mem_nil, or_false] at hx
        rcases hx with rfl | rfl
        · exact file_okw (by decide) (by rw [f82x_len]; decide) qr5
        · exact file_okw (by decide) (by rw [f101_len]; decide) qr6
      have qf7' := files_row qu6 [⟨⟨#[119, 56]⟩, .slice qa5 28 qc5, wFileB 8 2 [120]⟩, ⟨⟨#[119, 49, 48]⟩, .slice qa6 18 qc6, wFileB 10 1 []⟩] #[.string ⟨#[119, 56]⟩, .slice qa5 28 qc5, .string ⟨#[119, 49, 48]⟩, .slice qa6 18 qc6] 74 2 rfl rfl (by decide) hok
      have qr5 := qr5.below ((Below.refl qu6.heap.size qu6).alloc (Nat.le_refl _) (.cells #[.string ⟨#[119, 56]⟩, .slice qa5 28 qc5, .string ⟨#[119, 49, 48]⟩, .slice qa6 18 qc6] 74))
      have qr6 := qr6.below ((Below.refl qu6.heap.size qu6).alloc (Nat.le_refl _) (.cells #[.string ⟨#[119, 56]⟩, .slice qa5 28 qc5, .string ⟨#[119, 49, 48]⟩, .slice qa6 18 qc6] 74))
      have qf7 := qf7'
      clear qf7' hok
      go_wp2_with fail
      have hl : ∀ x ∈ ([⟨⟨#[119, 56]⟩, .slice qa5 28 qc5, wFileB 8 2 [120]⟩, ⟨⟨#[119, 49, 48]⟩, .slice qa6 18 qc6, wFileB 10 1 []⟩] : List AFile5), x.b.length ≤ 3000 := by
        intro x hx
        simp only [List.mem_cons, List.not_mem_nil, or_false] at hx
        rcases hx with rfl | rfl
        · rw [f82x_len]; decide
        · rw [f101_len]; decide
      refine (none4_yes _ (HE.out.below (show Below w.heap.size w (qu6.alloc (.cells #[.string ⟨#[119, 56]⟩, .slice qa5 28 qc5, .string ⟨#[119, 49, 48]⟩, .slice qa6 18 qc6] 74)) from (qK6.out.alloc (by have := qK6.out.size; simp; omega) _))) _ [⟨⟨#[119, 56]⟩, .slice qa5 28 qc5, wFileB 8 2 [120]⟩, ⟨⟨#[119, 49, 48]⟩, .slice qa6 18 qc6, wFileB 10 1 []⟩] qf7 _ rfl hl (none_open nw2 ms2)).mono ?_
      rintro e qu8 ⟨rfl, hb⟩
      have qK8 := Lib.hid (show Below w.heap.size w qu8 from ((qK6.out.alloc (by have := qK6.out.size; simp; omega) _)).trans (hb.mono (by have := qK6.out.size; simp; omega)))
      clear qK6 hb
      clear hl qr5 qr6 qf7
      go_wp2_with fail
      refine (f80 _).mono ?_
      rintro e qu9 ⟨qa9, qc9, rfl, qr9', hb, -, -⟩
      have qK9 := Lib.hid (show Below w.heap.size w qu9 from qK8.out.trans (hb.mono qK8.out.size))
      clear qK8 hb
      have qr9 := Rd.ofOwns qr9'
      clear qr9'
      go_wp2_with fail
      refine (f91 _).mono ?_
      rintro e qu10 ⟨qa10, qc10, rfl, qr10', hb, -, -⟩
      have qr9 := qr9.below hb
      have qK10 := Lib.hid (show Below w.heap.size w qu10 from qK9.out.trans (hb.mono qK9.out.size))
      clear qK9 hb
      have qr10 := Rd.ofOwns qr10'
      have hok : ∀ x ∈ ([⟨⟨#[119, 56]⟩, .slice qa9 9 qc9, wFileB 8 0 []⟩, ⟨⟨#[119, 57]⟩, .slice qa10 18 qc10, wFileB 9 1 []⟩] : List AFile5), FileOk5 qu10 x := by
        intro x hx
        simp only [List.mem_cons, List.not_mem_nil, or_false] at hx
        rcases hx with rfl | rfl
        · exact file_okw (by decide) (by rw [f80_len]; decide) qr9
        · exact file_okw (by decide) (by rw [f91_len]; decide) qr10
      have qf11' := files_row qu10 [⟨⟨#[119, 56]⟩, .slice qa9 9 qc9, wFileB 8 0 []⟩, ⟨⟨#[119, 57]⟩, .slice qa10 18 qc10, wFileB 9 1 []⟩] #[.string ⟨#[119, 56]⟩, .slice qa9 9 qc9, .string ⟨#[119, 57]⟩, .slice qa10 18 qc10] 74 2 rfl rfl (by decide) hok
      have qr9 := qr9.below ((Below.refl qu10.heap.size qu10).alloc (Nat.le_refl _) (.cells #[.string ⟨#[119, 56]⟩, .slice qa9 9 qc9, .string ⟨#[119, 57]⟩, .slice qa10 18 qc10] 74))
      have qr10 := qr10.below ((Below.refl qu10.heap.size qu10).alloc (Nat.le_refl _) (.cells #[.string ⟨#[119, 56]⟩, .slice qa9 9 qc9, .string ⟨#[119, 57]⟩, .slice qa10 18 qc10] 74))
      have qf11 := qf11'
      clear qf11' hok
      go_wp2_with fail
      have hl : ∀ x ∈ ([⟨⟨#[119, 56]⟩, .slice qa9 9 qc9, wFileB 8 0 []⟩, ⟨⟨#[119, 57]⟩, .slice qa10 18 qc10, wFileB 9 1 []⟩] : List AFile5), x.b.length ≤ 3000 := by
        intro x hx
        simp only [List.mem_cons, List.not_mem_nil, or_false] at hx
        rcases hx with rfl | rfl
        · rw [f80_len]; decide
        · rw [f91_len]; decide
      refine (none4_yes _ (HE.out.below (show Below w.heap.size w (qu10.alloc (.cells #[.string ⟨#[119, 56]⟩, .slice qa9 9 qc9, .string ⟨#[119, 57]⟩, .slice qa10 18 qc10] 74)) from (qK10.out.alloc (by have := qK10.out.size; simp; omega) _))) _ [⟨⟨#[119, 56]⟩, .slice qa9 9 qc9, wFileB 8 0 []⟩, ⟨⟨#[119, 57]⟩, .slice qa10 18 qc10, wFileB 9 1 []⟩] qf11 _ rfl hl (none_open nw3 ms4)).mono ?_
      rintro e qu12 ⟨rfl, hb⟩
      have qK12 := Lib.hid (show Below w.heap.size w qu12 from ((qK10.out.alloc (by have := qK10.out.size; simp; omega) _)).trans (hb.mono (by have := qK10.out.size; simp; omega)))
      clear qK10 hb
      clear hl qr9 qr10 qf11
      go_wp2_with fail
      refine (f91 _).mono ?_
      rintro e qu13 ⟨qa13, qc13, rfl, qr13', hb, -, -⟩
      have qK13 := Lib.hid (show Below w.heap.size w qu13 from qK12.out.trans (hb.mono qK12.out.size))
      clear qK12 hb
      have qr13 := Rd.ofOwns qr13'
      have hok : ∀ x ∈ ([⟨⟨#[119, 56]⟩, .slice none 0 0, []⟩, ⟨⟨#[119, 57]⟩, .slice qa13 18 qc13, wFileB 9 1 []⟩] : List AFile5), FileOk5 qu13 x := by
        intro x hx
        simp only [List.mem_cons, List.not_mem_nil, or_false] at hx
        rcases hx with rfl | rfl
        · exact file_okw (by decide) (by decide) (Or.inl ⟨Or.inl rfl, rfl⟩)
        · exact file_okw (by decide) (by rw [f91_len]; decide) qr13
      have qf14' := files_row qu13 [⟨⟨#[119, 56]⟩, .slice none 0 0, []⟩, ⟨⟨#[119, 57]⟩, .slice qa13 18 qc13, wFileB 9 1 []⟩] #[.string ⟨#[119, 56]⟩, .slice none 0 0, .string ⟨#[119, 57]⟩, .slice qa13 18 qc13] 74 2 rfl rfl (by decide) hok
      have qr13 := qr13.below ((Below.refl qu13.heap.size qu13).alloc (Nat.le_refl _) (.cells #[.string ⟨#[119, 56]⟩, .slice none 0 0, .string ⟨#[119, 57]⟩, .slice qa13 18 qc13] 74))
      have qf14 := qf14'
      clear qf14' hok
      go_wp2_with fail
      have hl : ∀ x ∈ ([⟨⟨#[119, 56]⟩, .slice none 0 0, []⟩, ⟨⟨#[119, 57]⟩, .slice qa13 18 qc13, wFileB 9 1 []⟩] : List AFile5), x.b.length ≤ 3000 := by
        intro x hx
        simp only [List.mem_cons, List.not_mem_nil, or_false] at hx
        rcases hx with rfl | rfl
        · exact (by decide : ([] : List UInt8).length ≤ 3000)
        · rw [f91_len]; decide
      refine (none4_yes _ (HE.out.below (show Below w.heap.size w (qu13.alloc (.cells #[.string ⟨#[119, 56]⟩, .slice none 0 0, .string ⟨#[119, 57]⟩, .slice qa13 18 qc13] 74)) from (qK13.out.alloc (by have := qK13.out.size; simp; omega) _))) _ [⟨⟨#[119, 56]⟩, .slice none 0 0, []⟩, ⟨⟨#[119, 57]⟩, .slice qa13 18 qc13, wFileB 9 1 []⟩] qf14 _ rfl hl (none_open nw4 ms4)).mono ?_
      rintro e qu15 ⟨rfl, hb⟩
      have qK15 := Lib.hid (show Below w.heap.size w qu15 from ((qK13.out.alloc (by have := qK13.out.size; simp; omega) _)).trans (hb.mono (by have := qK13.out.size; simp; omega)))
      clear qK13 hb
      clear hl qr13 qf14
      go_wp2_with fail
      refine (f72 _).mono ?_
      rintro e qu16 ⟨qa16, qc16, rfl, qr16', hb, -, -⟩
      have qK16 := Lib.hid (show Below w.heap.size w qu16 from qK15.out.trans (hb.mono qK15.out.size))
      clear qK15 hb
      have qr16 := Rd.ofOwns qr16'
      clear qr16'
      go_wp2_with fail
      refine (f91 _).mono ?_
      rintro e qu17 ⟨qa17, qc17, rfl, qr17', hb, -, -⟩
      have qr16 := qr16.below hb
      have qK17 := Lib.hid (show Below w.heap.size w qu17 from qK16.out.trans (hb.mono qK16.out.size))
      clear qK16 hb
      have qr17 := Rd.ofOwns qr17'
      have hok : ∀ x ∈ ([⟨⟨#[119, 56]⟩, .slice qa16 27 qc16, wFileB 7 2 []⟩, ⟨⟨#[119, 57]⟩, .slice qa17 18 qc17, wFileB 9 1 []⟩] : List AFile5), FileOk5 qu17 x := by
        intro x hx
        simp only [List.mem_cons, List.not_mem_nil, or_false] at hx
        rcases hx with rfl | rfl
        · exact file_okw (by decide) (by rw [f72_len]; decide) qr16
        · exact file_okw (by decide) (by rw [f91_len]; decide) qr17
      have qf18' := files_row qu17 [⟨⟨#[119, 56]⟩, .slice qa16 27 qc16, wFileB 7 2 []⟩, ⟨⟨#[119, 57]⟩, .slice qa17 18 qc17, wFileB 9 1 []⟩] #[.string ⟨#[119, 56]⟩, .slice qa16 27 qc16, .string ⟨#[119, 57]⟩, .slice qa17 18 qc17] 74 2 rfl rfl (by decide) hok
      have qr16 := qr16.below ((Below.refl qu17.heap.size qu17).alloc (Nat.le_refl _) (.cells #[.string ⟨#[119, 56]⟩, .slice qa16 27 qc16, .string ⟨#[119, 57]⟩, .slice qa17 18 qc17] 74))
      have qr17 := qr17.below ((Below.refl qu17.heap.size qu17).alloc (Nat.le_refl _) (.cells #[.string ⟨#[119, 56]⟩, .slice qa16 27 qc16, .string ⟨#[119, 57]⟩, .slice qa17 18 qc17] 74))
      have qf18 := qf18'
      clear qf18' hok
      go_wp2_with fail
      have hl : ∀ x ∈ ([⟨⟨#[119, 56]⟩, .slice qa16 27 qc16, wFileB 7 2 []⟩, ⟨⟨#[119, 57]⟩, .slice qa17 18 qc17, wFileB 9 1 []⟩] : List AFile5), x.b.length ≤ 3000 := by
        intro x hx
        simp only [List.mem_cons, List.not_mem_nil, or_false] at hx
        rcases hx with rfl | rfl
        · rw [f72_len]; decide
        · rw [f91_len]; decide
      refine (none4_yes _ (HE.out.below (show Below w.heap.size w (qu17.alloc (.cells #[.string ⟨#[119, 56]⟩, .slice qa16 27 qc16, .string ⟨#[119, 57]⟩, .slice qa17 18 qc17] 74)) from (qK17.out.alloc (by have := qK17.out.size; simp; omega) _))) _ [⟨⟨#[119, 56]⟩, .slice qa16 27 qc16, wFileB 7 2 []⟩, ⟨⟨#[119, 57]⟩, .slice qa17 18 qc17, wFileB 9 1 []⟩] qf18 _ rfl hl (none_open nw5 ms4)).mono ?_
      rintro e qu19 ⟨rfl, hb⟩
      have qK19 := Lib.hid (show Below w.heap.size w qu19 from ((qK17.out.alloc (by have := qK17.out.size; simp; omega) _)).trans (hb.mono (by have := qK17.out.size; simp; omega)))
      clear qK17 hb
      clear hl qr16 qr17 qf18
      go_wp2_with fail
      obtain ⟨ex0, hex0⟩ : ∃ ex0 : Nat → Prop, ex0 = fun k => k < qu19.heap.size := ⟨_, rfl⟩
      have hx0 : ∀ k, ex0 k → k < qu19.heap.size := fun k hk => by rw [hex0] at hk; exact hk
      have hx1 : ∀ k, k < qu19.heap.size → ex0 k := fun k hk => by rw [hex0]; exact hk
      have hM := made4_any qu19 ex0 (.slice none 0 0) [] (Or.inl ⟨Or.inl rfl, rfl⟩) hx0 hx1 (fun x hx => by cases hx)
      unfold MadePost refVal at hM
      rw [show madeD [] = dW0 from rfl] at hM
      refine hM.mono ?_
      clear hM
      rintro e w3 ⟨p, m, a3, n3, c3, exq, rfl, hqx, hD3, -, hK3⟩
      have HX := Lib.hid (And.intro hx0 (And.intro hx1 hqx))
      clear hex0 hx0 hx1 hqx
      go_wp2_with fail
      have hb4 : Below w3.heap.size w3 (w3.alloc (.cells #[.int .i64 dW0.most, .slice a3 n3 c3, .int .i64 dW0.left, .bool dW0.down] 78)) := (Below.refl _ _).alloc (Nat.le_refl _) _
      obtain ⟨w4, hw4⟩ : ∃ y, w3.alloc (.cells #[.int .i64 dW0.most, .slice a3 n3 c3, .int .i64 dW0.left, .bool dW0.down] 78) = y := ⟨_, rfl⟩
      rw [hw4] at hb4 ⊢
      have hD4 := (hD3.below hb4).mono (ex' := ex0) HX.out.2.2
      have hK4 : Keep ex0 qu19 w4 := hK3.trans (Keep.ofBelow hb4 (fun k hk => hD3.lt (HX.out.2.2 k hk)))
      have hG : GlIn ex0 := HE.out.lt.mono (fun k hk => HX.out.2.1 k (Nat.lt_of_lt_of_le hk qK19.out.size))
      have HG := Lib.hid hG
      have HKW := Lib.hid (fun (v : World) (hk : Keep ex0 qu19 v) => (show Below w.heap.size w v from qK19.out.trans ((hk.below HX.out.2.1).mono qK19.out.size)))
      clear hb4 hw4 hD3 hK3 hG
      refine (open_err 63 2 hD4 (HE.out.below (HKW.out _ hK4)) HG.out (d' := dW0) (by rw [wOpen_size (by decide)]) (by decide) (by rw [wOpen_size (by decide)])).mono ?_
      rintro e w5 ⟨rfl, hD5, k5⟩
      have hK5 := hK4.trans k5
      clear hD4 hK4 k5
      go_wp2_with fail
      refine (open_err 16777217 2 hD5 (HE.out.below (HKW.out _ hK5)) HG.out (d' := dW0) (by rw [wOpen_size (by decide)]) (by decide) (by rw [wOpen_size (by decide)])).mono ?_
      rintro e w6 ⟨rfl, hD6, k6⟩
      have hK6 := hK5.trans k6
      clear hD5 hK5 k6
      go_wp2_with fail
      refine (wOpen_nil _ 64 (by decide) (by decide)).mono ?_
      rintro e w7 ⟨rfl, hb7⟩
      have hD7 := hD6.below hb7
      have hK7 := hK6.trans (Keep.ofBelow hb7 (fun k hk => hD6.lt hk))
      clear hD6 hK6 hb7
      go_wp2_with fail
      refine (open_by (n := 0) 16777216 hD7 (HE.out.below (HKW.out _ hK7)) HG.out openW0 rfl).mono ?_
      rintro e w8 ⟨k8, q, ar, cr, XL, rfl, hF⟩
      have h8 := hF.log.mono (ex' := ex0) (fun k hk => Or.inl hk)
      have hK8 := hK7.trans k8
      rw [show f0.log 16777216 = alW0 from rfl] at h8
      clear hD7 hK7 k8 hF
      obtain ⟨C, C2, Z, Z2, hZ, hZ2, mk1, rd1, mk2, rd2⟩ := make4_most
      have HZ := Lib.hid (And.intro hZ (And.intro hZ2 (And.intro rd1 rd2)))
      clear hZ hZ2 rd1 rd2
      have hnil : ∀ wX : World, Rd wX (.slice none 0 0) (bcells ([] : List UInt8)) := fun wX => Or.inl ⟨Or.inl rfl, rfl⟩
      have Hnil := Lib.hid hnil
      clear hnil
      go_wp2_with fail
      refine (sync_by 0 h8 (HE.out.below (HKW.out _ hK8)) okW0 limW.1).mono ?_
      rintro e w9 ⟨rfl, h9, k9⟩
      have hK9 := hK8.trans k9
      clear h8 hK8 k9
      go_wp2_with fail
      refine (append_by 0 (.slice none 0 0) [] 2 h9 (Below.refl _ _) (HE.out.below (HKW.out _ hK9)) HG.out okW0 (by unfold isI64; decide) (Hnil.out _) (fun g hg => by cases hg) (by simp) limW.2.1).mono ?_
      rintro e w10 ⟨rfl, h10, k10⟩
      have hK10 := hK9.trans k10
      clear h9 hK9 k10
      go_wp2_with fail
      refine (append_by 9007199254740993 (.slice none 0 0) [] 2 h10 (Below.refl _ _) (HE.out.below (HKW.out _ hK10)) HG.out okW0 (by unfold isI64; decide) (Hnil.out _) (fun g hg => by cases hg) (by simp) limW.2.2).mono ?_
      rintro e w11 ⟨rfl, h11, k11⟩
      have hK11 := hK10.trans k11
      clear h10 hK10 k11
      go_wp2_with fail
      have hbC : Below w11.heap.size w11 (w11.alloc (.cells C2 5)) := (Below.refl _ _).alloc (Nat.le_refl _) _
      refine (append_by 1 _ Z2 3 h11 hbC (HE.out.below ((HKW.out _ hK11).trans (hbC.mono (HKW.out _ hK11).size))) HG.out okW0 (by unfold isI64; decide) (HZ.out.2.2.2 _) (fun g hg => by cases hg; exact ⟨Nat.le_refl _, by simp⟩) (by rw [HZ.out.2.1]; omega) (longW Z2 HZ.out.2.1)).mono ?_
      rintro e w12 ⟨rfl, h12, k12⟩
      have hK12 := hK11.trans k12
      clear h11 hK11 k12 hbC
      go_wp2_with fail
      have hbC : Below w12.heap.size w12 (w12.alloc (.cells C 5)) := (Below.refl _ _).alloc (Nat.le_refl _) _
      refine (append_by 1 _ Z 0 h12 hbC (HE.out.below ((HKW.out _ hK12).trans (hbC.mono (HKW.out _ hK12).size))) HG.out okW0 (by unfold isI64; decide) (HZ.out.2.2.1 _) (fun g hg => by cases hg; exact ⟨Nat.le_refl _, by simp⟩) (by rw [HZ.out.1]; omega) (appW Z HZ.out.1)).mono ?_
      rintro e w13 ⟨rfl, h13, k13⟩
      have hK13 := hK12.trans k13
      clear h12 hK12 k13 hbC
      go_wp2_with fail
      refine (append_by 1 (.slice none 0 0) [] 18 h13 (Below.refl _ _) (HE.out.below (HKW.out _ hK13)) HG.out (okWZ Z HZ.out.1) (by unfold isI64; decide) (Hnil.out _) (fun g hg => by cases hg) (by simp) (againW Z).1).mono ?_
      rintro e w14 ⟨rfl, h14, k14⟩
      have hK14 := hK13.trans k14
      clear h13 hK13 k14
      go_wp2_with fail
      refine (over_byW false h14 (againW Z).2).mono ?_
      rintro e w14' ⟨rfl, rfl⟩
      have hD14 := h14.disk
      have HD14 := Lib.hid hD14
      have HK14 := Lib.hid hK14
      clear h14 hK14 hD14 mk1 mk2
      obtain ⟨ex1, hex1⟩ : ∃ ex1 : Nat → Prop, ex1 = fun k => k < w14.heap.size := ⟨_, rfl⟩
      have hx0 : ∀ k, ex1 k → k < w14.heap.size := fun k hk => by rw [hex1] at hk; exact hk
      have hx1 : ∀ k, k < w14.heap.size → ex1 k := fun k hk => by rw [hex1]; exact hk
      have HX1 := Lib.hid (And.intro hx0 hx1)
      clear hex1 hx0 hx1
      have HB14 := Lib.hid (HKW.out _ HK14.out)
      have HG1 := Lib.hid (show GlIn ex1 from HE.out.lt.mono (fun k hk => HX1.out.2 k (Nat.lt_of_lt_of_le hk HB14.out.size)))
      have HKV := Lib.hid (fun (v : World) (hk : Keep ex1 w14 v) => (show Below w.heap.size w v from HB14.out.trans ((hk.below HX1.out.2).mono HB14.out.size)))
      go_wp2_with fail
      refine (New_at (ex := ex1) 30 (by decide) (by decide) HX1.out.1).mono ?_
      generalize hp2 : w14.heap.size + 1 = p2
      generalize hm2 : w14.heap.size = m2
      rintro e w15 ⟨rfl, hD15, hK15⟩
      rw [show (⟨30, -1, false, []⟩ : ADisk) = dW30 from rfl] at hD15
      clear hp2 hm2
      go_wp2_with fail
      refine (open_by (n := 0) 64 hD15 (HE.out.below (HKV.out _ hK15)) HG1.out openW30 rfl).mono ?_
      rintro e w16 ⟨k16, q2, ar2, cr2, XL2, rfl, hF⟩
      have h16 := hF.log.mono (ex' := ex1) (fun k hk => Or.inl hk)
      have hK16 := hK15.trans k16
      rw [show f0.log 64 = alW30 from rfl] at h16
      clear hD15 hK15 k16 hF
      go_wp2_with fail
      have hRep := rep4_30
      obtain ⟨SX, hSX⟩ : ∃ s, (⟨x30.toArray⟩ : ByteArray) = s := ⟨_, rfl⟩
      rw [hSX] at hRep
      have HSX := Lib.hid hSX
      have HRep := Lib.hid hRep
      clear hSX hRep
      refine (HRep.out _).mono ?_
      rintro e w17 ⟨rfl, hb17⟩
      go_wp2_with (refine wpList_str_bytes rfl (.tmp 278) 9 45 5 rfl SX rfl Tryz.underlying9 Tryz.underlying45 Tryz.underlying5 ?_; intro w18 cc hb18 hs18 hc18 hcl18)
      have hr18 := str_rdW (cc := cc) (s := SX) hcl18
      rw [show SX.data.toList = x30 from by rw [← HSX.out]] at hr18
      have hB18 : Below w16.heap.size w16 w18 := hb17.trans (hb18.mono hb17.size)
      have hE18 := HE.out.below ((HKV.out _ hK16).trans (hB18.mono (HKV.out _ hK16).size))
      have hl17 := hb17.size
      have HA := append_by 1 _ x30 5 h16 hB18 hE18 HG1.out okW30 (by unfold isI64; decide) hr18 (fun g hg => by cases hg; exact ⟨hl17, by show w17.heap.size < w18.heap.size; omega⟩) (by decide) fullW
      clear hb17 hb18 hs18 hc18 hcl18 hr18 hB18 hE18 hl17 h16
      go_wp2_with fail
      refine HA.mono ?_
      clear HA
      rintro e w19 ⟨rfl, h19, k19⟩
      have hK19 := hK16.trans k19
      clear hK16 k19
      go_wp2_with fail
      refine (sync_by 16 h19 (HE.out.below (HKV.out _ hK19)) okW31 over2W.1).mono ?_
      rintro e w20 ⟨rfl, h20, k20⟩
      have hK20 := hK19.trans k20
      clear h19 hK19 k20
      go_wp2_with fail
      refine (trim_by 9 [] 0 16 h20 (HE.out.below (HKV.out _ hK20)) HG1.out (by unfold isI64; decide) okW31 over2W.2 rfl).mono ?_
      rintro e w21 ⟨a21, c21, rfl, -, h21, k21⟩
      have h21 := h21.mono (ex' := ex1) (fun k hk => Or.inl hk)
      have hK21 := hK20.trans k21
      have hO21 := h21.overAt
      have hq1 : w14.heap.size ≤ q2 := by
        rcases Nat.lt_or_ge q2 w14.heap.size with h | h
        · obtain ⟨_, hv⟩ := h21
          exact absurd (HX1.out.2 q2 h) hv.own
        · exact h
      have hq2 := hO21.lt
      rw [overW] at hO21
      have hB21 := HKV.out _ hK21
      have hD21 : DiskAt (fun k => ex0 k ∨ w14.heap.size ≤ k ∧ k < w21.heap.size) w21 p m (dWZ Z) := HD14.out.more (hK21.below HX1.out.2) (fun k hk => hk)
      have hE21 := HE.out.below hB21
      have hG2 : GlIn (fun k => ex0 k ∨ w14.heap.size ≤ k ∧ k < w21.heap.size) := HG.out.mono (fun _ hk => Or.inl hk)
      have HO := Lib.hid (And.intro hO21 (And.intro hq1 hq2))
      have HB21 := Lib.hid (And.intro hB21 (And.intro hE21 hG2))
      clear h20 hK20 k21 h21 hK21 hO21 hq1 hq2 hB21 hE21 hG2
      go_wp2_with fail
      refine (Arm_at 0 hD21 (by decide) (by decide)).mono ?_
      rintro e w22 ⟨rfl, hD22, k22⟩
      clear hD21
      go_wp2_with fail
      refine (Sync_at ⟨#[119, 49]⟩ hD22 (by decide)).mono ?_
      rintro e w23 ⟨rfl, hD23, k23⟩
      have hK23 := k22.trans k23
      clear hD22 k22 k23
      go_wp2_with fail
      refine (open_err 64 15 hD23 (HB21.out.2.1.keep hK23 HB21.out.2.2) HB21.out.2.2 (d' := _) ((powerW Z HZ.out.1).2 64 (by decide) (by decide)) (by decide) rfl).mono ?_
      rintro e w24 ⟨rfl, hD24, k24⟩
      have hK24 := hK23.trans k24
      have hO24 := HO.out.1.keep hK24 (Or.inr ⟨HO.out.2.1, HO.out.2.2⟩)
      have hE24 := HB21.out.2.1.keep hK24 HB21.out.2.2
      have HB24 := Lib.hid (HB21.out.1.trans (hK24.below (N := w.heap.size) (fun k hk => Or.inl (HX.out.2.1 k (Nat.lt_of_lt_of_le hk qK19.out.size)))))
      clear hD23 hD24 hK23 k24 hK24
      go_wp2_with fail
      refine (over_cells hO24).mono ?_
      rintro e w25 ⟨rfl, rfl⟩
      go_wp2_with fail
      refine (awake4_any _ hE24).mono ?_
      rintro e w26 ⟨rfl, hb26⟩
      go_wp2_with fail
      go_ret
      exact ⟨rfl, HB24.out.trans (hb26.mono HB24.out.size)⟩
end Go.Proofs.YtbiadclmonakkaaGreatDoor
