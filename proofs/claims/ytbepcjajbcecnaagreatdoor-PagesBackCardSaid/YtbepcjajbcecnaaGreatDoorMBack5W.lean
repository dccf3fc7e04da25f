/-
  PagesBack: the walk.
-/
import Derived.Outline
import Derived.Test.YtbepcjajbcecnaaGreatDoorMPgm22
namespace Go.Proofs.YtbepcjajbcecnaaGreatDoor
open Go.RowKit Go.Maps Go.MapKept
set_option linter.unusedSimpArgs false

theorem Stp.nameHead {d : ADisk} {st : AStore} {m c : Nat} (h : Stp d st m c) : ∀ s ∈ d.names, ∃ x r, s.data.toList = x :: r := fun s hs => by
  obtain ⟨n, _, _, hn⟩ := h.names s (names_lk hs)
  rcases hn with rfl | rfl
  · exact ⟨_, _, rfl⟩
  · exact ⟨_, _, rfl⟩
theorem back_plain {d : ADisk} {st : AStore} {N : Nat → Option (List UInt8)} (h : Stp d st 30 40) (hn : Now6 st.keys N) :
    ∃ d1 s1 d2 s2 d3 s3 n, pCommit d st = (d1, s1, n, 0) ∧ pCommit d1 s1 = (d2, s2, n + 1, 0) ∧ pOpen d2 (((n + 1 : Nat)) : Int) = (d3, s3, 0) ∧ Stp d1 s1 30 41 ∧ Stp d2 s2 30 42 ∧ Now6 s2.keys N ∧ s3.Ok ∧ Now6 s3.keys N ∧ s3.k = n + 1 ∧ (d2.names.filter isC5).length = (d1.names.filter isC5).length ∧ n ≤ 100 := by
  obtain ⟨d1, s1, d2, s2, c1, c2, k1, k2, t1, t2, n1, n2, hh, hp⟩ := h.twice hn (by omega) (by omega)
  obtain ⟨d3, out, o1, _, _, _, _⟩ := hh.open t2.sits.ds t2.sits.up t2.left
  have hok := t2.sits.ok
  refine ⟨d1, s1, d2, s2, d3, _, st.k + 1, c1, c2, o1, t1, t2, n2, ⟨by show st.k + 2 ≤ _; have := hok.k; omega, hok.count, hok.sorted, hok.blob⟩, n2, rfl, by rw [show d2.names.filter isC5 = packs5 d2 from rfl, hp]; rfl, by have := h.kc; omega⟩
theorem StoreV.other {ex : Nat → Prop} {w w' : World} {q p m mk mh : Nat} {d d' : ADisk} {st : AStore} {S : Nat → Prop} {g : Value → Option Value} (h : StoreV ex w q p m d st mk mh S g) {q2 : Nat} {st2 : AStore} (h2 : StoreAt (fun k => ex k ∨ k = q ∨ k = mk ∨ k = mh ∨ S k) w' q2 p m d' st2) (hk : Keep (fun k => ex k ∨ k = q ∨ k = mk ∨ k = mh ∨ S k) w w') : StoreAt ex w' q p m d' st :=
  ⟨mk, mh, S, g, (h.disk_turned h2.disk hk).1⟩
set_option maxRecDepth 100000 in
set_option maxHeartbeats 8000000 in
theorem back5_law (w : World) (hE : WEnv w) {va : Value} (L : List AStep5) (hL : StepsAt w va L) :
    Calls Tryz.prog 3 #[va] w fun e w' => e = .returned (.bool true) ∧ Below w.heap.size w w' := by
  have hSt := stepped5_any w hE L hL
  obtain ⟨av, cv, rfl⟩ := SliceOf.shape hL
  have HSt := Lib.hid hSt
  have HE := Lib.hid hE
  clear hSt hL hE
  go_enter Tryz.func3, Tryz.ntmps3
  go_wp2_with fail
  refine HSt.out.mono ?_
  rintro e w1 ⟨p, m, q, d, st, N, vs, exX, rfl, hx, hS, hB, hk, ho, hst, hn⟩
  obtain ⟨a0, n0, c0, a1, n1, c1, a2, n2, c2, a3, n3, c3, a4, n4, c4, a5, n5, c5, hvs⟩ := hk.six
  obtain ⟨d1, s1, d2, s2, d3, s3, nn, pc, pd, po, t1, t2, hn2, ok3, hn3, hk3, hcnt, hnn⟩ := back_plain hst hn
  have hG : GlIn exX := ⟨hx _ HE.out.lt.tab, hx _ HE.out.lt.syn, hx _ HE.out.lt.rng⟩
  obtain ⟨n1', hn1'⟩ : ∃ y, nn + 1 = y := ⟨_, rfl⟩
  rw [hn1'] at pd po hk3
  have hn1I : (nn : Int) + 1 = (n1' : Int) := by omega
  have hn1N : n1' ≤ 101 := by omega
  have HP := Lib.hid (And.intro pc (And.intro pd po))
  have HT := Lib.hid (And.intro hst (And.intro hn (And.intro t1 (And.intro t2 hn2))))
  have H3 := Lib.hid (And.intro ok3 (And.intro hn3 hk3))
  have Hcnt := Lib.hid hcnt
  have HS := Lib.hid (And.intro hS (And.intro hB (And.intro hk ho)))
  have Hx := Lib.hid hx
  have Hvs := Lib.hid hvs
  rw [show vs.toArray = #[.slice a0 n0 c0, .slice a1 n1 c1, .slice a2 n2 c2, .slice a3 n3 c3, .slice a4 n4 c4, .slice a5 n5 c5] by rw [hvs]]
  clear hn1' pc pd po hst hn t1 t2 hn2 ok3 hn3 hk3 hcnt hS hB hk ho hx hvs
  go_upto_region 2 with fail
  have hb2 := alloc_at w1 (.cells #[.slice a0 n0 c0, .slice a1 n1 c1, .slice a2 n2 c2, .slice a3 n3 c3, .slice a4 n4 c4, .slice a5 n5 c5] 27)
  have hB2 : Below w1.heap.size w1 (w1.alloc (.cells #[.slice a0 n0 c0, .slice a1 n1 c1, .slice a2 n2 c2, .slice a3 n3 c3, .slice a4 n4 c4, .slice a5 n5 c5] 27)) := (Below.refl _ _).alloc (Nat.le_refl _) _
  obtain ⟨B, hBB⟩ : ∃ y, w1.heap.size = y := ⟨_, rfl⟩
  have h2 : StoreAt (fun k => exX k ∨ k = B) (w1.alloc (.cells #[.slice a0 n0 c0, .slice a1 n1 c1, .slice a2 n2 c2, .slice a3 n3 c3, .slice a4 n4 c4, .slice a5 n5 c5] 27)) q p m d st := HS.out.1.more hB2 (fun k hk => hk.imp id (fun h => ⟨by omega, by simp; omega⟩))
  have hk2 := HS.out.2.2.1.keep (Keep.ofBelow hB2 (fun k hk => HS.out.1.lt hk)) HS.out.2.2.2
  have hBw2 : Below w.heap.size w _ := HS.out.2.1.trans (hB2.mono HS.out.2.1.size)
  obtain ⟨w2, hw2⟩ : ∃ x, w1.alloc (.cells #[.slice a0 n0 c0, .slice a1 n1 c1, .slice a2 n2 c2, .slice a3 n3 c3, .slice a4 n4 c4, .slice a5 n5 c5] 27) = x := ⟨_, rfl⟩
  rw [hw2] at hb2 h2 hk2 hBw2 ⊢
  rw [hBB] at hb2 ⊢
  obtain ⟨exY, hexY⟩ : ∃ exY : Nat → Prop, exY = fun k => exX k ∨ k = B := ⟨_, rfl⟩
  rw [← hexY] at h2
  have hxY : ∀ k, k < w.heap.size → exY k := fun k hk => by rw [hexY]; exact Or.inl (Hx.out k hk)
  have hBY : exY B := by rw [hexY]; exact Or.inr rfl
  have hoY : ∀ (j : Nat) (v : Value), vs[j]? = some v → ∀ g, v.ownBlock = some g → exY g := fun j v hv g hg => by rw [hexY]; exact Or.inl (HS.out.2.2.2 j v hv g hg)
  have hGY : GlIn exY := ⟨hxY _ HE.out.lt.tab, hxY _ HE.out.lt.syn, hxY _ HE.out.lt.rng⟩
  have H2 := Lib.hid (And.intro hk2 (And.intro hb2 hBw2))
  have HxY := Lib.hid hxY
  have HoY := Lib.hid hoY
  have HS2 := Lib.hid h2
  -- what is kept, in a later world
  have hkept : ∀ w', Keep exY w2 w' → KeptAt w' [.slice a0 n0 c0, .slice a1 n1 c1, .slice a2 n2 c2, .slice a3 n3 c3, .slice a4 n4 c4, .slice a5 n5 c5] N := fun w' hK => by
    have := hk2.keep hK hoY
    rw [Hvs.out] at this
    exact this
  have hsix : ∀ w', Keep exY w2 w' → w'.cell? ⟨B, 0, none⟩ = some (.slice a0 n0 c0) ∧ w'.cell? ⟨B, 1, none⟩ = some (.slice a1 n1 c1) ∧ w'.cell? ⟨B, 2, none⟩ = some (.slice a2 n2 c2) ∧ w'.cell? ⟨B, 3, none⟩ = some (.slice a3 n3 c3) ∧ w'.cell? ⟨B, 4, none⟩ = some (.slice a4 n4 c4) ∧ w'.cell? ⟨B, 5, none⟩ = some (.slice a5 n5 c5) := fun w' hK => (cells6 ((hK.block B hBY).trans hb2)).1
  have hbel : ∀ w', Keep exY w2 w' → Below w.heap.size w w' := fun w' hK => hBw2.trans ((hK.mono hxY (ex' := fun k => k < w.heap.size)).below (fun _ h => h))
  have Hkept := Lib.hid hkept
  have Hsix := Lib.hid hsix
  have Hbel := Lib.hid hbel
  clear hk2 hb2 hBw2 hB2 hBB hw2 hexY hxY hoY HS h2 hkept hsix hbel
  have hH := has5_yes HS2.out HT.out.1.sits.ok HT.out.2.1 (Hkept.out w2 (Keep.refl _ _))
  obtain ⟨g0, g1, g2, g3, g4, g5⟩ := Hsix.out w2 (Keep.refl _ _)
  have HH := Lib.hid hH
  clear hH
  go_upto_region 4 with (go_at_call 13; refine HH.out.mono ?_; rintro e w3 ⟨rfl, hB3⟩; have h3 := Lib.hid (And.intro (HS2.out.below hB3) (Keep.ofBelow hB3 (fun k hk => HS2.out.lt hk))); clear hB3)
  clear g0 g1 g2 g3 g4 g5
  have hC := commit_by2 0 h3.out.1 HT.out.1.sits.ok (HE.out.below (Hbel.out _ h3.out.2)) hGY HP.out.1
  have HC := Lib.hid hC
  clear hC
  go_upto_region 6 with (go_at_call 14; refine HC.out.mono ?_; rintro e w4 ⟨rfl, hS4, hK4⟩; have h4 := Lib.hid (And.intro hS4 (h3.out.2.trans hK4)); clear hS4 hK4)
  have hL1 := List_at h4.out.1.disk
  obtain ⟨nms, hnms⟩ : ∃ y, d1.names = y := ⟨_, rfl⟩
  have hnl : nms.length ≤ 200 := by rw [← hnms]; unfold ADisk.names; rw [List.length_map]; exact h4.out.1.disk.wf.count
  have hhd := HT.out.2.2.1.nameHead
  have hcnt := Hcnt.out
  rw [hnms] at hL1 hhd hcnt
  have HL1 := Lib.hid hL1
  have Hhd := Lib.hid hhd
  have Hcnt2 := Lib.hid hcnt
  clear hL1 hhd hcnt hnms Hcnt
  obtain ⟨ln, hln⟩ : ∃ y, nms.length = y := ⟨_, rfl⟩
  rw [hln] at HL1
  rw [hln] at hnl
  have Hln := Lib.hid hln
  clear hln
  go_upto_region 7 with (go_at_call 15; refine HL1.out.mono ?_; rintro e w5 ⟨a7, c7, rfl, row5, _, hB5⟩; have h5 := Lib.hid (And.intro (h4.out.1.below hB5) (h4.out.2.trans (Keep.ofBelow hB5 (fun k hk => h4.out.1.lt hk)))); have Hrd5 := Lib.hid (Rd.ofOwns row5); clear row5 hB5)
  go_loopw [9, 11, 41] (fun pv _ jv wr => ∃ j : Nat, j ≤ ln ∧ jv = .int .i64 j ∧ pv = .int .i64 ((nms.take j).filter isC5).length ∧ wr = w5) (fun _ _ jv _ => ln - (intOf jv).toNat)
  case atStart => exact ⟨0, by omega, rfl, rfl, rfl⟩
  case round =>
    obtain ⟨j, hj, rfl, rfl, rfl⟩ := hrel
    by_cases hlt : j < ln
    · skip
      have hjl : j < nms.length := by rw [Hln.out]; exact hlt
      obtain ⟨bb, oo, rfl, hcl⟩ := Hrd5.out.at j (by rw [List.length_map, Hln.out]; exact hlt)
      obtain ⟨s, hs⟩ : ∃ s, nms[j] = s := ⟨_, rfl⟩
      rw [List.getElem_map, hs] at hcl
      obtain ⟨x, r, hxr⟩ := Hhd.out s (by rw [← hs]; exact List.getElem_mem hjl)
      have htk : nms.take (j + 1) = nms.take j ++ [s] := by rw [List.take_succ_eq_append_getElem hjl, hs]
      have hf1 : ((nms.take (j + 1)).filter isC5).length = ((nms.take j).filter isC5).length + (if x = 99 then 1 else 0) := by
        rw [htk, List.filter_append, List.length_append]
        congr 1
        unfold isC5
        rw [List.filter_cons, hxr]
        by_cases h : x = 99 <;> simp [h]
      have hji : (j : Int) < (ln : Int) := by omega
      have hj0 : (0 : Int) ≤ (j : Int) := by omega
      obtain ⟨i1, hi1⟩ : ∃ y, ((nms.take j).filter isC5).length = y := ⟨_, rfl⟩
      rw [hi1] at hf1 ⊢
      have hb1 : i1 ≤ j := by rw [← hi1]; exact Nat.le_trans (List.length_filter_le _ _) (by rw [List.length_take]; omega)
      have Hf := Lib.hid hf1
      have Hxr := Lib.hid hxr
      clear hf1 hi1 htk hxr hs
      have hs0 : 0 < s.size := by have := congrArg List.length Hxr.out; simp at this; omega
      have hs0I : (0 : Int) < (s.size : Int) := by omega
      have hsx : s[0]'hs0 = x := by
        have h1 : s.data.toList[0]? = some x := by rw [Hxr.out]; rfl
        rw [Array.getElem?_toList] at h1
        have h2 : s.data[0]? = some (s[0]'hs0) := by rw [Array.getElem?_eq_getElem (by simpa using hs0)]; rfl
        rw [h2] at h1
        exact Option.some.inj h1
      by_cases h99 : x = 99
      · have hq : (((s[0]'hs0).toNat : Int) == 99) = true := by rw [hsx, h99]; rfl
        have H99 := Lib.hid h99
        clear h99 hsx
        go_wp2_with fail
        go_roundw
        case rel => exact ⟨j + 1, by omega, by go_num, by rw [Hf.out, if_pos H99.out]; go_num, trivial⟩
        case measure => simp [intOf]; omega
      · have hq : (((s[0]'hs0).toNat : Int) == 99) = false := by
          rw [hsx]
          have : (x.toNat : Int) ≠ 99 := fun e => h99 (UInt8.toNat_inj.1 (by show x.toNat = 99; omega))
          simpa using this
        have H99 := Lib.hid h99
        clear h99 hsx
        go_wp2_with fail
        go_roundw
        case rel => exact ⟨j + 1, by omega, by go_num, by rw [Hf.out, if_neg H99.out]; rfl, trivial⟩
        case measure => simp [intOf]; omega
    · obtain rfl : j = ln := by omega
      have hji : ¬ (j : Int) < (j : Int) := by omega
      have htk : nms.take j = nms := List.take_of_length_le (by rw [Hln.out]; exact Nat.le_refl _)
      rw [htk]
      obtain ⟨K, hK⟩ : ∃ y, (nms.filter isC5).length = y := ⟨_, rfl⟩
      have hK2 := Hcnt2.out
      rw [hK] at hK2 ⊢
      have hKle : K ≤ 200 := by rw [← hK]; exact Nat.le_trans (List.length_filter_le _ _) (by rw [Hln.out]; exact hnl)
      have HK2 := Lib.hid hK2
      clear hlt htk hK hK2
      have hC2 := commit_by2 0 h5.out.1 HT.out.2.2.1.sits.ok (HE.out.below (Hbel.out _ h5.out.2)) hGY HP.out.2.1
      have HC2 := Lib.hid hC2
      clear hC2
      go_upto_region 13 with (go_at_call 14; refine HC2.out.mono ?_; rintro e w6 ⟨rfl, hS6, hK6⟩; have h6 := Lib.hid (And.intro hS6 (h5.out.2.trans hK6)); clear hS6 hK6)
      have hL2 := List_at h6.out.1.disk
      obtain ⟨nm2, hnm2⟩ : ∃ y, d2.names = y := ⟨_, rfl⟩
      have hnl2 : nm2.length ≤ 200 := by rw [← hnm2]; unfold ADisk.names; rw [List.length_map]; exact h6.out.1.disk.wf.count
      have hhd2 := HT.out.2.2.2.1.nameHead
      have hcn := HK2.out
      rw [hnm2] at hL2 hhd2 hcn
      have HL2 := Lib.hid hL2
      have Hhd2 := Lib.hid hhd2
      have Hcn := Lib.hid hcn
      clear hL2 hhd2 hcn hnm2 HK2
      obtain ⟨l2, hl2⟩ : ∃ y, nm2.length = y := ⟨_, rfl⟩
      rw [hl2] at HL2
      rw [hl2] at hnl2
      have Hl2 := Lib.hid hl2
      clear hl2
      go_upto_region 14 with (go_at_call 15; refine HL2.out.mono ?_; rintro e w7 ⟨a8, c8, rfl, row7, _, hB7⟩; have h7 := Lib.hid (And.intro (h6.out.1.below hB7) (h6.out.2.trans (Keep.ofBelow hB7 (fun k hk => h6.out.1.lt hk)))); have Hrd7 := Lib.hid (Rd.ofOwns row7); clear row7 hB7)
      go_loopw [9, 15, 59] (fun pv _ jv wr => ∃ i : Nat, i ≤ l2 ∧ jv = .int .i64 i ∧ pv = .int .i64 ((K : Int) - (((nm2.take i).filter isC5).length : Nat)) ∧ wr = w7) (fun _ _ jv _ => l2 - (intOf jv).toNat)
      case atStart => exact ⟨0, by omega, rfl, by simp, rfl⟩
      case round =>
        obtain ⟨i, hi, rfl, rfl, rfl⟩ := hrel
        by_cases hlt : i < l2
        · skip
          have hjl : i < nm2.length := by rw [Hl2.out]; exact hlt
          obtain ⟨bb, oo, rfl, hcl⟩ := Hrd7.out.at i (by rw [List.length_map, Hl2.out]; exact hlt)
          obtain ⟨s, hs⟩ : ∃ s, nm2[i] = s := ⟨_, rfl⟩
          rw [List.getElem_map, hs] at hcl
          obtain ⟨x, r, hxr⟩ := Hhd2.out s (by rw [← hs]; exact List.getElem_mem hjl)
          have htk : nm2.take (i + 1) = nm2.take i ++ [s] := by rw [List.take_succ_eq_append_getElem hjl, hs]
          have hf1 : ((nm2.take (i + 1)).filter isC5).length = ((nm2.take i).filter isC5).length + (if x = 99 then 1 else 0) := by
            rw [htk, List.filter_append, List.length_append]
            congr 1
            unfold isC5
            rw [List.filter_cons, hxr]
            by_cases h : x = 99 <;> simp [h]
          have hji : (i : Int) < (l2 : Int) := by omega
          have hj0 : (0 : Int) ≤ (i : Int) := by omega
          obtain ⟨i1, hi1⟩ : ∃ y, ((nm2.take i).filter isC5).length = y := ⟨_, rfl⟩
          rw [hi1] at hf1 ⊢
          have hb1 : i1 ≤ i := by rw [← hi1]; exact Nat.le_trans (List.length_filter_le _ _) (by rw [List.length_take]; omega)
          have Hf := Lib.hid hf1
          have Hxr := Lib.hid hxr
          clear hf1 hi1 htk hxr hs
          have hs0 : 0 < s.size := by have := congrArg List.length Hxr.out; simp at this; omega
          have hs0I : (0 : Int) < (s.size : Int) := by omega
          have hsx : s[0]'hs0 = x := by
            have h1 : s.data.toList[0]? = some x := by rw [Hxr.out]; rfl
            rw [Array.getElem?_toList] at h1
            have h2 : s.data[0]? = some (s[0]'hs0) := by rw [Array.getElem?_eq_getElem (by simpa using hs0)]; rfl
            rw [h2] at h1
            exact Option.some.inj h1
          by_cases h99 : x = 99
          · have hq : (((s[0]'hs0).toNat : Int) == 99) = true := by rw [hsx, h99]; rfl
            have H99 := Lib.hid h99
            clear h99 hsx
            go_wp2_with fail
            go_roundw
            case rel => exact ⟨i + 1, by omega, by go_num, by rw [Hf.out, if_pos H99.out]; congr 1; omega, trivial⟩
            case measure => simp [intOf]; omega
          · have hq : (((s[0]'hs0).toNat : Int) == 99) = false := by
              rw [hsx]
              have : (x.toNat : Int) ≠ 99 := fun e => h99 (UInt8.toNat_inj.1 (by show x.toNat = 99; omega))
              simpa using this
            have H99 := Lib.hid h99
            clear h99 hsx
            go_wp2_with fail
            go_roundw
            case rel => exact ⟨i + 1, by omega, by go_num, by rw [Hf.out, if_neg H99.out]; rfl, trivial⟩
            case measure => simp [intOf]; omega
        · obtain rfl : i = l2 := by omega
          have hii : ¬ (i : Int) < (i : Int) := by omega
          have htk : nm2.take i = nm2 := List.take_of_length_le (by rw [Hl2.out]; exact Nat.le_refl _)
          rw [htk, Hcn.out, Int.sub_self]
          clear hlt htk hji
          obtain ⟨mk, mh, S, g, hv⟩ := h7.out.1
          obtain ⟨exS, hexS⟩ : ∃ exS : Nat → Prop, exS = fun k => exY k ∨ k = q ∨ k = mk ∨ k = mh ∨ S k := ⟨_, rfl⟩
          have hGS : GlIn exS := by rw [hexS]; exact hGY.mono (fun _ h => Or.inl h)
          have hO := pgOpen_at (ex := exS) (by rw [hexS]; exact hv.disk) (HE.out.below (Hbel.out _ h7.out.2)) hGS (n1' : Int) (by unfold isI64; omega)
          rw [HP.out.2.2] at hO
          unfold OpenPost at hO
          simp only [if_true] at hO
          have HO := Lib.hid hO
          have Hv := Lib.hid hv
          have HexS := Lib.hid hexS
          clear hO hv hexS
          go_upto_region 20 with (go_at_call 16; refine HO.out.mono ?_; rintro e w8 ⟨q2, rfl, hS8, hK8, _⟩; have h8 := Lib.hid (And.intro hS8 hK8); clear hS8 hK8)
          have hs8 : StoreAt exY w8 q p m d3 s2 := Hv.out.other (by rw [← HexS.out]; exact h8.out.1) (by rw [← HexS.out]; exact h8.out.2)
          have hK8 : Keep exY w2 w8 := h7.out.2.trans (h8.out.2.mono (fun k hk => by rw [HexS.out]; exact Or.inl hk))
          have hHs := has5_yes hs8 HT.out.2.2.2.1.sits.ok HT.out.2.2.2.2 (Hkept.out w8 hK8)
          have Hs8 := Lib.hid (And.intro hs8 hK8)
          have HHs := Lib.hid hHs
          have Hk3 := Lib.hid H3.out.2.2
          obtain ⟨g0, g1, g2, g3, g4, g5⟩ := Hsix.out w8 hK8
          clear hs8 hHs hK8
          have hadd : IntKind.i64.wrap ((nn : Int) + 1) = (nn : Int) + 1 := IntWalk.i64_in _ (by omega)
          go_wp2_with first
            | (go_at_call 13; with_reducible refine HHs.out.mono ?_; rintro e w9 ⟨rfl, hB9⟩; have hK9 := Hs8.out.2.trans (Keep.ofBelow hB9 (fun k hk => Hs8.out.1.lt hk)); have h9 := h8.out.1.below hB9; have H9 := Lib.hid (And.intro h9 hK9); obtain ⟨y0, y1, y2, y3, y4, y5⟩ := Hsix.out w9 hK9; clear hB9 h9 hK9)
            | (go_at_call 13; refine (has5_yes H9.out.1 H3.out.1 H3.out.2.1 (Hkept.out w9 H9.out.2)).mono ?_; rintro e w10 ⟨rfl, hB10⟩; have H10 := Lib.hid (And.intro (H9.out.1.below hB10) (H9.out.2.trans (Keep.ofBelow hB10 (fun k hk => H9.out.1.lt (by rw [HexS.out]; exact Or.inl hk))))); clear hB10)
            | (go_at_call 17; refine (pgNumber_at H10.out.1).mono ?_; rw [Hk3.out]; rintro e w11 ⟨rfl, rfl⟩)
            | (go_at_call 18; refine (awake5_any _ (HE.out.below (Hbel.out _ H10.out.2))).mono ?_; rintro e w12 ⟨rfl, hB12⟩; have Hb12 := Lib.hid ((Hbel.out _ H10.out.2).trans (hB12.mono (Hbel.out _ H10.out.2).size)); clear hB12)
          go_ret
          exact ⟨rfl, Hb12.out⟩
end Go.Proofs.YtbepcjajbcecnaaGreatDoor
