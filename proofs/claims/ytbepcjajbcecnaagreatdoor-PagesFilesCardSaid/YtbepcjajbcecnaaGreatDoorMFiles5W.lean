/-
  PagesFiles: the walk.
-/
import Derived.Outline
import Derived.Test.YtbepcjajbcecnaaGreatDoorMPgm18
namespace Go.Proofs.YtbepcjajbcecnaaGreatDoor
open Go.RowKit Go.Maps Go.MapKept
set_option linter.unusedSimpArgs false

def isI5 (s : ByteArray) : Bool := decide (s.data.toList.head? = some 105)
/-- what PagesFiles asks, plain. -/
theorem files_plain {d : ADisk} {st : AStore} {N : Nat → Option (List UInt8)} (h : Stp d st 30 40) (hn : Now6 st.keys N) :
    ∃ d1 d2 d3 s1 k ns, pCommit d st = (d1, s1, k, 0) ∧ pFreeC d1 s1 = (d2, s1, ns, 0) ∧ pFreeC d2 s1 = (d3, s1, [], 0) ∧ Stp d1 s1 30 41 ∧ Stp d3 s1 30 41 ∧ Now6 s1.keys N ∧
      (d3.names.filter isI5).length = 1 ∧ (d3.names.filter fun s => !isI5 s).length ≤ s1.keys.length ∧ s1.keys.length ≤ 6 ∧ (∀ s ∈ d3.names, ∃ x r, s.data.toList = x :: r) := by
  obtain ⟨d1, c1, _, t1⟩ := h.commit (by omega) (by omega)
  have hn1 : Now6 (cmOf st).1 N := hn.cont (cm_ok _ _ _ _).cont
  obtain ⟨d2, f2, r2, t2⟩ := t1.free
  have hk0 : (⟨st.k + 1, (cmOf st).1, packsOf (cmOf st).1, false⟩ : AStore).k ≠ 0 := Nat.succ_ne_zero _
  obtain ⟨_, hnil⟩ := Stp.freed hk0 t2 r2 (by omega)
  obtain ⟨d3, f3, r3, t3⟩ := t2.free
  rw [hnil] at f3
  obtain ⟨hf3, _⟩ := Stp.freed hk0 t3 r3 (by omega)
  obtain ⟨n1, n2⟩ := hf3.count t3.sits.ds
  refine ⟨d1, d2, d3, _, _, _, c1, f2, f3, t1, t3, hn1, n1, Nat.le_trans n2 (packsOf_le _), ?_, fun s hs => ?_⟩
  · have h1 : (cmOf st).1.length = cnt6 N := hn1.len t1.sits.sorted
    have h2 := cnt6_le N
    show (cmOf st).1.length ≤ 6
    omega
  · rcases hf3.only s hs with rfl | ⟨n, _, rfl⟩
    · exact ⟨_, _, rfl⟩
    · exact ⟨_, _, rfl⟩
set_option maxRecDepth 100000 in
set_option maxHeartbeats 8000000 in
theorem files5_law (w : World) (hE : WEnv w) {va : Value} (L : List AStep5) (hL : StepsAt w va L) :
    Calls Tryz.prog 4 #[va] w fun e w' => e = .returned (.bool true) ∧ Below w.heap.size w w' := by
  have hSt := stepped5_any w hE L hL
  obtain ⟨av, cv, rfl⟩ := SliceOf.shape hL
  have HSt := Lib.hid hSt
  have HE := Lib.hid hE
  clear hSt hL hE
  go_enter Tryz.func4, Tryz.ntmps4
  go_wp2_with fail
  refine HSt.out.mono ?_
  rintro e w1 ⟨p, m, q, d, st, N, vs, exX, rfl, hx, hS, hB, hk, ho, hst, hn⟩
  obtain ⟨a0, n0, c0, a1, n1, c1, a2, n2, c2, a3, n3, c3, a4, n4, c4, a5, n5, c5, hvs⟩ := hk.six
  obtain ⟨d1, d2, d3, s1, k, ns, pc, pf, pg, t1, t3, hn1, hi1, hpk, hk6, hne⟩ := files_plain hst hn
  have hG : GlIn exX := ⟨hx _ HE.out.lt.tab, hx _ HE.out.lt.syn, hx _ HE.out.lt.rng⟩
  have HP := Lib.hid (And.intro pc (And.intro pf pg))
  have HT := Lib.hid (And.intro hst (And.intro t1 (And.intro t3 hn1)))
  have HC := Lib.hid (And.intro hi1 (And.intro hpk (And.intro hk6 hne)))
  have HS := Lib.hid (And.intro hS (And.intro hB (And.intro hk ho)))
  have Hx := Lib.hid hx
  have Hvs := Lib.hid hvs
  rw [show vs.toArray = #[.slice a0 n0 c0, .slice a1 n1 c1, .slice a2 n2 c2, .slice a3 n3 c3, .slice a4 n4 c4, .slice a5 n5 c5] by rw [hvs]]
  clear pc pf pg hst t1 t3 hn1 hi1 hpk hk6 hne hS hB hk ho hx hvs hn
  go_wp2_with fail
  have hb2 := alloc_at w1 (.cells #[.slice a0 n0 c0, .slice a1 n1 c1, .slice a2 n2 c2, .slice a3 n3 c3, .slice a4 n4 c4, .slice a5 n5 c5] 27)
  have hB2 : Below w1.heap.size w1 (w1.alloc (.cells #[.slice a0 n0 c0, .slice a1 n1 c1, .slice a2 n2 c2, .slice a3 n3 c3, .slice a4 n4 c4, .slice a5 n5 c5] 27)) := (Below.refl _ _).alloc (Nat.le_refl _) _
  obtain ⟨B, hBB⟩ : ∃ y, w1.heap.size = y := ⟨_, rfl⟩
  have h2 : StoreAt (fun k => exX k ∨ k = B) (w1.alloc (.cells #[.slice a0 n0 c0, .slice a1 n1 c1, .slice a2 n2 c2, .slice a3 n3 c3, .slice a4 n4 c4, .slice a5 n5 c5] 27)) q p m d st := HS.out.1.more hB2 (fun k hk => hk.imp id (fun h => ⟨by omega, by simp; omega⟩))
  have hk2 := HS.out.2.2.1.keep (Keep.ofBelow hB2 (fun k hk => HS.out.1.lt hk)) HS.out.2.2.2
  have hBw2 : Below w.heap.size w _ := HS.out.2.1.trans (hB2.mono HS.out.2.1.size)
  obtain ⟨w2, hw2⟩ : ∃ x, w1.alloc (.cells #[.slice a0 n0 c0, .slice a1 n1 c1, .slice a2 n2 c2, .slice a3 n3 c3, .slice a4 n4 c4, .slice a5 n5 c5] 27) = x := ⟨_, rfl⟩
  rw [hw2] at hb2 h2 hk2 hBw2 ⊢
  rw [hBB] at hb2 ⊢
  obtain ⟨exY, hexY⟩ : ∃ exY : Nat → Prop, exY = fun k => exX k ∨ k = B := ⟨_, rfl⟩
  rw [← hexY] at h2
  have hxY : ∀ k, k < w.heap.size → exY k := fun k hk => by rw [hexY]; exact Or.inl (Hx.out k hk)
  have hBY : exY B := by rw [hexY]; exact Or.inr rfl
  have hoY : ∀ (j : Nat) (v : Value), vs[j]? = some v → ∀ g, v.ownBlock = some g → exY g := fun j v hv g hg => by rw [hexY]; exact Or.inl (HS.out.2.2.2 j v hv g hg)
  have hGY : GlIn exY := ⟨hxY _ HE.out.lt.tab, hxY _ HE.out.lt.syn, hxY _ HE.out.lt.rng⟩
  have H2 := Lib.hid (And.intro hk2 (And.intro hb2 hBw2))
  have HxY := Lib.hid hxY
  have HoY := Lib.hid hoY
  clear hk2 hb2 hBw2 hB2 hBB hw2 hexY hxY hoY HS
  refine (commit_by2 0 h2 HT.out.1.sits.ok (HE.out.below H2.out.2.2) hGY HP.out.1).mono ?_
  rintro e w3 ⟨rfl, h3, k3⟩
  clear h2
  have hb3 : Below w.heap.size w w3 := H2.out.2.2.trans ((k3.mono (fun k hk => HxY.out k hk) (ex' := fun k => k < w.heap.size)).below (fun _ h => h))
  have Hb3 := Lib.hid hb3
  clear hb3
  go_wp2_with fail
  refine (free_by 0 h3 (HE.out.below Hb3.out) hGY HP.out.2.1).mono ?_
  rintro e w4 ⟨x4, y4, rfl, _, h4', k4⟩
  have h4 := h4'.mono (ex' := exY) (fun k hk => Or.inl hk)
  have Hb4 := Lib.hid (Hb3.out.trans ((k4.mono (fun k hk => HxY.out k hk) (ex' := fun k => k < w.heap.size)).below (fun _ h => h)))
  clear h3 h4'
  go_wp2_with fail
  refine (free_by 0 h4 (HE.out.below Hb4.out) hGY HP.out.2.2).mono ?_
  rintro e w5 ⟨x5, y5, rfl, _, h5', k5⟩
  have h5 := h5'.mono (ex' := exY) (fun k hk => Or.inl hk)
  have Hb5 := Lib.hid (Hb4.out.trans ((k5.mono (fun k hk => HxY.out k hk) (ex' := fun k => k < w.heap.size)).below (fun _ h => h)))
  have hk5 : Keep exY w2 w5 := (k3.trans k4).trans k5
  have hb5 := (hk5.block B hBY).trans H2.out.2.1
  obtain ⟨⟨g0, g1, g2, g3, g4, g5⟩, _⟩ := cells6 hb5
  have hkept := H2.out.1.keep hk5 HoY.out
  rw [Hvs.out] at hkept
  have hH := has5_yes h5 HT.out.2.2.1.sits.ok HT.out.2.2.2 hkept
  have HH := Lib.hid hH
  clear h4 h5' k3 k4 k5 hk5 hb5 hkept hH
  go_wp2_with fail
  refine HH.out.mono ?_
  rintro e w6 ⟨rfl, hB6⟩
  have h6 := h5.below hB6
  have Hb6 := Lib.hid (Hb5.out.trans (hB6.mono Hb5.out.size))
  clear h5 hB6 g0 g1 g2 g3 g4 g5
  go_wp2_with fail
  refine (List_at h6.disk).mono ?_
  obtain ⟨nms, hnms⟩ : ∃ y, d3.names = y := ⟨_, rfl⟩
  have hnl : nms.length ≤ 200 := by rw [← hnms]; unfold ADisk.names; rw [List.length_map]; exact h6.disk.wf.count
  have hcnt := HC.out
  rw [hnms] at hcnt ⊢
  have Hcnt := Lib.hid hcnt
  rintro e w7 ⟨a7, c7, rfl, row7, _, hB7⟩
  have h7 := h6.below hB7
  have Hb7 := Lib.hid (Hb6.out.trans (hB7.mono Hb6.out.size))
  have Hrd7 := Lib.hid (Rd.ofOwns row7)
  obtain ⟨nn, hnn⟩ : ∃ y, nms.length = y := ⟨_, rfl⟩
  rw [hnn] at Hrd7 ⊢
  clear h6 hB7 row7 hcnt HC hnms
  have Hnn := Lib.hid hnn
  rw [hnn] at hnl
  clear hnn
  go_upto_region 9 with fail
  go_loopw [13, 14, 67] (fun iv pv jv wr => ∃ j : Nat, j ≤ nn ∧ jv = .int .i64 j ∧ iv = .int .i64 ((nms.take j).filter isI5).length ∧ pv = .int .i64 ((nms.take j).filter fun s => !isI5 s).length ∧ wr = w7) (fun _ _ jv _ => nn - (intOf jv).toNat)
  case atStart => exact ⟨0, by omega, rfl, rfl, rfl, rfl⟩
  case round =>
    obtain ⟨j, hj, rfl, rfl, rfl, rfl⟩ := hrel
    by_cases hlt : j < nn
    · have hjl : j < nms.length := by rw [Hnn.out]; exact hlt
      obtain ⟨bb, oo, rfl, hcl⟩ := Hrd7.out.at j (by rw [List.length_map, Hnn.out]; exact hlt)
      obtain ⟨s, hs⟩ : ∃ s, nms[j] = s := ⟨_, rfl⟩
      rw [List.getElem_map, hs] at hcl
      obtain ⟨x, r, hxr⟩ := Hcnt.out.2.2.2 s (by rw [← hs]; exact List.getElem_mem hjl)
      have htk : nms.take (j + 1) = nms.take j ++ [s] := by rw [List.take_succ_eq_append_getElem hjl, hs]
      have hf1 : ((nms.take (j + 1)).filter isI5).length = ((nms.take j).filter isI5).length + (if x = 105 then 1 else 0) := by
        rw [htk, List.filter_append, List.length_append]
        congr 1
        unfold isI5
        rw [List.filter_cons, hxr]
        by_cases h : x = 105 <;> simp [h]
      have hf2 : ((nms.take (j + 1)).filter fun s => !isI5 s).length = ((nms.take j).filter fun s => !isI5 s).length + (if x = 105 then 0 else 1) := by
        rw [htk, List.filter_append, List.length_append]
        congr 1
        unfold isI5
        rw [List.filter_cons, hxr]
        by_cases h : x = 105 <;> simp [h]
      have hji : (j : Int) < (nn : Int) := by omega
      have hj0 : (0 : Int) ≤ (j : Int) := by omega
      obtain ⟨i1, hi1⟩ : ∃ y, ((nms.take j).filter isI5).length = y := ⟨_, rfl⟩
      obtain ⟨i2, hi2⟩ : ∃ y, ((nms.take j).filter fun s => !isI5 s).length = y := ⟨_, rfl⟩
      rw [hi1] at hf1 ⊢
      rw [hi2] at hf2 ⊢
      have hb1 : i1 ≤ j ∧ i2 ≤ j := ⟨by rw [← hi1]; exact Nat.le_trans (List.length_filter_le _ _) (by rw [List.length_take]; omega), by rw [← hi2]; exact Nat.le_trans (List.length_filter_le _ _) (by rw [List.length_take]; omega)⟩
      have Hf := Lib.hid (And.intro hf1 hf2)
      have Hxr := Lib.hid hxr
      clear hf1 hf2 hi1 hi2 htk hxr hs
      have hs0 : 0 < s.size := by have := congrArg List.length Hxr.out; simp at this; omega
      have hs0I : (0 : Int) < (s.size : Int) := by omega
      have hsx : s[0]'hs0 = x := by
        have h1 : s.data.toList[0]? = some x := by rw [Hxr.out]; rfl
        rw [Array.getElem?_toList] at h1
        have h2 : s.data[0]? = some (s[0]'hs0) := by rw [Array.getElem?_eq_getElem (by simpa using hs0)]; rfl
        rw [h2] at h1
        exact Option.some.inj h1
      by_cases h105 : x = 105
      · have hq : (((s[0]'hs0).toNat : Int) == 105) = true := by rw [hsx, h105]; rfl
        have H105 := Lib.hid h105
        clear h105 hsx
        go_wp2_with fail
        go_roundw
        case rel => exact ⟨j + 1, by omega, by go_num, by rw [Hf.out.1, if_pos H105.out]; go_num, by rw [Hf.out.2, if_pos H105.out]; rfl, trivial⟩
        case measure => simp [intOf]; omega
      · have hq : (((s[0]'hs0).toNat : Int) == 105) = false := by
          rw [hsx]
          have : (x.toNat : Int) ≠ 105 := fun e => h105 (UInt8.toNat_inj.1 (by show x.toNat = 105; omega))
          simpa using this
        have H105 := Lib.hid h105
        clear h105 hsx
        go_wp2_with fail
        go_roundw
        case rel => exact ⟨j + 1, by omega, by go_num, by rw [Hf.out.1, if_neg H105.out]; rfl, by rw [Hf.out.2, if_neg H105.out]; go_num, trivial⟩
        case measure => simp [intOf]; omega
    · have hjn : j = nn := by omega
      subst hjn
      have hji : ¬ (j : Int) < (j : Int) := by omega
      have htk : nms.take j = nms := List.take_of_length_le (by rw [Hnn.out]; exact Nat.le_refl _)
      rw [htk, Hcnt.out.1]
      obtain ⟨i2, hi2⟩ : ∃ y, (nms.filter fun s => !isI5 s).length = y := ⟨_, rfl⟩
      have hp := Hcnt.out.2.1
      have hk6 := Hcnt.out.2.2.1
      rw [hi2] at hp ⊢
      have hKy := pgKeys_at h7 HT.out.2.2.1.sits.ok
      obtain ⟨kl, hkl⟩ : ∃ y, s1.names.length = y := ⟨_, rfl⟩
      have hkl2 : s1.keys.length = kl := by rw [← hkl]; unfold AStore.names; rw [List.length_map]
      unfold KeysPost at hKy
      rw [hkl] at hKy
      rw [hkl2] at hp hk6
      have HKy := Lib.hid hKy
      have i16 : (i2 : Int) ≤ 16 := by omega
      have ikl : (i2 : Int) ≤ (kl : Int) := by omega
      clear hKy hkl hkl2 hi2 htk hlt hji
      have hji : ¬ (j : Int) < (j : Int) := by omega
      go_wp2_with first
        | (go_at_call 20; refine HKy.out.mono ?_; rintro e w8 ⟨a8, c8, rfl, hrow, hB8⟩; have Hb8 := Lib.hid (Hb7.out.trans (hB8.mono Hb7.out.size)); clear hrow hB8)
        | (go_at_call 18; refine (awake5_any _ (HE.out.below Hb8.out)).mono ?_; rintro e w9 ⟨rfl, hB9⟩; have Hb9 := Lib.hid (Hb8.out.trans (hB9.mono Hb8.out.size)); clear hB9)
      go_ret
      exact ⟨rfl, Hb9.out⟩
end Go.Proofs.YtbepcjajbcecnaaGreatDoor
