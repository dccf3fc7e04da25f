/-
  PagesElder: the walk.
-/
import Derived.Outline
import Derived.BigRegion
import Derived.Test.YtbepcjajbcecnaaGreatDoorMEld0
namespace Go.Proofs.YtbepcjajbcecnaaGreatDoor
open Go.RowKit Go.Maps Go.MapKept
set_option linter.unusedSimpArgs false

theorem Stp.notFresh {d : ADisk} {st : AStore} {m c : Nat} (h : Stp d st m c) {u : ByteArray} (hu : u ∈ d.names) : u ≠ freshI := by
  have hkG := h.sits.kG
  obtain ⟨n, n1, n2, n3⟩ := h.names u (names_lk hu)
  rintro rfl
  have hf := pgNum_fresh
  rcases n3 with e | e
  · have := pgNum_name (c := 105) (n := n) (Or.inl rfl) (by omega) (by omega)
    rw [show pgName 105 n = iName n from rfl, ← e, hf] at this
    cases this
  · have := pgNum_name (c := 99) (n := n) (Or.inr rfl) (by omega) (by omega)
    rw [show pgName 99 n = cName n from rfl, ← e, hf] at this
    cases this
theorem read_same {d d2 : ADisk} {u : ByteArray} (h : lk d2.fs u = lk d.fs u) (hd : d.down = false) (hd2 : d2.down = false) (hu : lk d.fs u ≠ none) : d2.readBytes u = d.readBytes u ∧ findErr d2 u = 0 ∧ (afile d2 u).firm.length = (afile d u).firm.length := by
  have e1 : findErr d2 u = findErr d u := by unfold findErr; rw [h, hd, hd2]
  have e2 : afile d2 u = afile d u := by unfold afile; rw [h]
  refine ⟨by unfold ADisk.readBytes; rw [e1, e2], ?_, by rw [e2]⟩
  rw [e1]; unfold findErr; rw [hd]
  cases hl : lk d.fs u with
  | none => exact absurd hl hu
  | some f => simp
set_option maxRecDepth 100000 in
set_option maxHeartbeats 8000000 in
theorem elder5_law (w : World) (hE : WEnv w) {va : Value} (L : List AStep5) (hL : StepsAt w va L) {vb : Value} (b : List UInt8) (hb : Rd w vb (bcells b)) (_l1 : b.length ≤ maxLen) :
    Calls Tryz.prog 7 #[va, vb] w fun e w' => e = .returned (.bool true) ∧ Below w.heap.size w w' := by
  have hSt := stepped5_any w hE L hL
  obtain ⟨av, cv, rfl⟩ := SliceOf.shape hL
  obtain ⟨ab, cb, rfl⟩ := hb.shape
  rw [bcells_length] at hb ⊢
  have HSt := Lib.hid hSt
  have HE := Lib.hid hE
  have Hb := Lib.hid hb
  clear hSt hL hE hb
  go_enter Tryz.func7, Tryz.ntmps7
  go_wp2_with fail
  refine HSt.out.mono ?_
  rintro e w1 ⟨p, m, q, d, st, N, vs, exX, rfl, hx, hS, hB, hk, ho, hst, hn⟩
  obtain ⟨a0, n0, c0, a1, n1, c1, a2, n2, c2, a3, n3, c3, a4, n4, c4, a5, n5, c5, hvs⟩ := hk.six
  have hG : GlIn exX := ⟨hx _ HE.out.lt.tab, hx _ HE.out.lt.syn, hx _ HE.out.lt.rng⟩
  have HT := Lib.hid (And.intro hst hn)
  have HS := Lib.hid (And.intro hS hB)
  have Hx := Lib.hid hx
  rw [show vs.toArray = #[.slice a0 n0 c0, .slice a1 n1 c1, .slice a2 n2 c2, .slice a3 n3 c3, .slice a4 n4 c4, .slice a5 n5 c5] by rw [hvs]]
  clear hst hS hB hk ho hx hvs hn
  by_cases h100 : 100 < b.length
  · have h100I : (100 : Int) < (b.length : Int) := by omega
    go_upto_region 5 with fail
    have hB2 : Below w1.heap.size w1 (w1.alloc (.cells #[.slice a0 n0 c0, .slice a1 n1 c1, .slice a2 n2 c2, .slice a3 n3 c3, .slice a4 n4 c4, .slice a5 n5 c5] 27)) := (Below.refl _ _).alloc (Nat.le_refl _) _
    have hBw2 : Below w.heap.size w _ := HS.out.2.trans (hB2.mono HS.out.2.size)
    have Hbw2 := Lib.hid hBw2
    clear hB2 hBw2
    go_wp2_with (go_at_call 18; refine (awake5_any _ (HE.out.below Hbw2.out)).mono ?_; rintro e w9 ⟨rfl, hB9⟩; have Hb9 := Lib.hid (Hbw2.out.trans (hB9.mono Hbw2.out.size)); clear hB9)
    go_ret
    exact ⟨rfl, Hb9.out⟩
  · have h100I : ¬ (100 : Int) < (b.length : Int) := by omega
    have h100N : b.length ≤ 100 := by omega
    clear h100
    go_upto_region 6 with fail
    have hB2 : Below w1.heap.size w1 (w1.alloc (.cells #[.slice a0 n0 c0, .slice a1 n1 c1, .slice a2 n2 c2, .slice a3 n3 c3, .slice a4 n4 c4, .slice a5 n5 c5] 27)) := (Below.refl _ _).alloc (Nat.le_refl _) _
    have h2 : StoreAt exX (w1.alloc (.cells #[.slice a0 n0 c0, .slice a1 n1 c1, .slice a2 n2 c2, .slice a3 n3 c3, .slice a4 n4 c4, .slice a5 n5 c5] 27)) q p m d st := HS.out.1.below hB2
    have hBw2 : Below w.heap.size w _ := HS.out.2.trans (hB2.mono HS.out.2.size)
    obtain ⟨w2, hw2⟩ : ∃ x, w1.alloc (.cells #[.slice a0 n0 c0, .slice a1 n1 c1, .slice a2 n2 c2, .slice a3 n3 c3, .slice a4 n4 c4, .slice a5 n5 c5] 27) = x := ⟨_, rfl⟩
    rw [hw2] at h2 hBw2 ⊢
    have Hb2 := Lib.hid hBw2
    have HS2 := Lib.hid h2
    clear hB2 hw2 h2 hBw2 HS
    obtain ⟨s1, d2, s2, k, pp, pc, t1, t2, hmore, hoth⟩ := elder_plain HT.out.1 HT.out.2 h100N
    have hnf := fun u hu => HT.out.1.notFresh (u := u) hu
    obtain ⟨nms, hnms⟩ : ∃ y, d.names = y := ⟨_, rfl⟩
    rw [hnms] at hnf hoth
    have hnl : nms.length ≤ 200 := by rw [← hnms]; unfold ADisk.names; rw [List.length_map]; exact HS2.out.disk.wf.count
    have hns : ∀ u ∈ nms, u.size ≤ 40 := fun u hu => HS2.out.disk.wf.name_size (by rw [hnms]; exact hu)
    have hread : ∀ u ∈ nms, d2.readBytes u = d.readBytes u ∧ findErr d2 u = 0 ∧ (afile d2 u).firm.length = (afile d u).firm.length := fun u hu =>
      read_same (hoth u hu (hnf u hu)) HT.out.1.sits.up t2.sits.up (names_lk (by rw [hnms]; exact hu))
    have HP := Lib.hid (And.intro pp (And.intro pc (And.intro t1 t2)))
    have Hmore := Lib.hid hmore
    have Hread := Lib.hid hread
    have Hns := Lib.hid hns
    have Hnf := Lib.hid hnf
    clear pp pc t1 t2 hmore hoth hread hns hnf
    go_wp2_with fail
    refine (List_at HS2.out.disk).mono ?_
    rw [hnms]
    rintro e w3 ⟨a3', c3', rfl, row3, _, hB3⟩
    have Hnm := Lib.hid hnms
    clear hnms
    have h3 := HS2.out.below hB3
    have Hb3 := Lib.hid (Hb2.out.trans (hB3.mono Hb2.out.size))
    have Hrd3 := Lib.hid (Rd.ofOwns row3)
    have Hrow3 := Lib.hid row3
    have HS3 := Lib.hid h3
    obtain ⟨nn, hnn⟩ : ∃ y, nms.length = y := ⟨_, rfl⟩
    rw [hnn] at Hrd3 Hrow3 ⊢
    have Hb23 := Lib.hid hB3
    clear hB3 row3 h3
    have Hnn := Lib.hid hnn
    rw [hnn] at hnl
    clear hnn
    obtain ⟨F, hF⟩ : ∃ F : Nat → List UInt8, ∀ k, F k = d.readBytes (nmAt nms k) := ⟨_, fun _ => rfl⟩
    obtain ⟨G, hGf⟩ : ∃ G : Nat → Int, ∀ k, G k = ((afile d (nmAt nms k)).firm.length : Int) := ⟨_, fun _ => rfl⟩
    have HF := Lib.hid (And.intro hF hGf)
    clear hF hGf
    go_upto_region 10 with fail
    go_loopw [10, 11, 41] (fun bv fv jv wr => ∃ (j : Nat) (ar : Option Addr) (cr : Nat) (ai : Option Addr) (ci : Nat) (xs : List Value), j ≤ nn ∧ jv = .int .i64 j ∧ bv = .slice ar j cr ∧ fv = .slice ai j ci ∧ WasL w3 wr (.slice ar j cr) (.slice ai j ci) xs F G j j) (fun _ _ jv _ => nn - (intOf jv).toNat)
    case atStart => exact ⟨0, none, 0, none, 0, [], by omega, rfl, rfl, rfl, WasL.start _ _ _⟩
    case round =>
      obtain ⟨j, ar, cr, ai, ci, xs, hj, rfl, rfl, rfl, hW⟩ := hrel
      have HW := Lib.hid hW
      clear hW
      by_cases hlt : j < nn
      · have hjl : j < nms.length := by rw [Hnn.out]; exact hlt
        obtain ⟨bb, oo, rfl, hcl⟩ := Hrd3.out.at j (by rw [List.length_map, Hnn.out]; exact hlt)
        obtain ⟨s, hs⟩ : ∃ s, nms[j] = s := ⟨_, rfl⟩
        rw [List.getElem_map, hs] at hcl
        have hsz : s.size ≤ maxLen := by have := Hns.out s (by rw [← hs]; exact List.getElem_mem hjl); simp only [maxLen]; omega
        have hat : nmAt nms j = s := by unfold nmAt; rw [List.getD_eq_getElem?_getD, List.getElem?_eq_getElem hjl, hs]; rfl
        have hFj : d.readBytes s = F j := by rw [HF.out.1, hat]
        have hGj : ((afile d s).firm.length : Int) = G j := by rw [HF.out.2, hat]
        have hcr := (HW.out.bel.cell (p := ⟨bb, oo + j, none⟩) (cell_lt hcl)).trans hcl
        have hji : (j : Int) < (nn : Int) := by omega
        have hj0 : (0 : Int) ≤ (j : Int) := by omega
        have hRd := fun wX hX => Read_at s (HS3.out.disk.below (w' := wX) hX) hsz
        have hSy := fun wX hX => Synced_at s (HS3.out.disk.below (w' := wX) hX) hsz
        rw [hFj] at hRd
        rw [hGj] at hSy
        have HRd := Lib.hid hRd
        have HSy := Lib.hid hSy
        clear hRd hSy hs hat hFj hGj hcl
        go_upto_region 13 with first
          | (go_at_call 26; refine (HRd.out wr HW.out.bel).mono ?_; rintro e w4 ⟨a4, c4, rfl, row4, hB4⟩; have Hr4 := Lib.hid (And.intro row4 hB4); clear row4 hB4)
        have hW4 := HW.out.below Hr4.out.2
        have hnew4 : ∀ g, (Value.slice a4 (F j).length c4).ownBlock = some g → w3.heap.size ≤ g ∧ g < w4.heap.size ∧ (Value.slice ar j cr).ownBlock ≠ some g ∧ (Value.slice ai j ci).ownBlock ≠ some g := fun g hg => by
          have h1 := row_from Hr4.out.1 hg
          have h2 := row_lt Hr4.out.1 hg
          have h3 := HW.out.bel.size
          exact ⟨by omega, h2, fun e => by have := (HW.out.rows.lt g e).2; omega, fun e => by have := (HW.out.ints.lt g e).2; omega⟩
        have hxs4 := ((Upd.refl noFp w4).alloc (.cells #[.slice a4 (F j).length c4] 25)).row (ownsRow_base0 hW4.rows) (fun _ _ h => h)
        have HW4 := Lib.hid (And.intro hW4 (And.intro hnew4 hxs4))
        clear hW4 hnew4 hxs4
        have hBa4 : Below w4.heap.size w4 (w4.alloc (.cells #[.slice a4 (F j).length c4] 25)) := (Below.refl _ _).alloc (Nat.le_refl _) _
        have Hba4 := Lib.hid hBa4
        clear hBa4
        go_upto_region 14 with first
          | (at_builtin; refine append_rows5 rfl (.tmp 51) (.tmp 53) rfl (.slice ar j cr) (.slice (some ⟨w4.heap.size, 0, none⟩) 1 1) (.slice a4 (F j).length c4) j xs rfl HW4.out.2.2 rfl (Rd_new _ _ _ _ [_] _ _ rfl rfl) rfl (by omega) ?_; intro v' w5 g1 g2 g3; obtain ⟨a5', c5', rfl, _⟩ := row_slice g1; have Hg := Lib.hid (And.intro g1 (And.intro g2 g3)); clear g1 g2 g3)
        have hW5 := HW4.out.1.row Hba4.out (Rd.ofOwns Hr4.out.1) HW4.out.2.1 Hg.out.1 Hg.out.2.1 Hg.out.2.2
        have HW5 := Lib.hid hW5
        clear hW5
        have hx6 : ∀ w6 : World, Below w5.heap.size w5 w6 → (w6.alloc (.cells #[.int .i64 (G j)] 3)).ownsRow 0 3 1 (.slice ai j ci) j ((List.range j).map fun k => .int .i64 (G k)) := fun w6 hB6 =>
          ((Upd.refl noFp w6).alloc (.cells #[.int .i64 (G j)] 3)).row (ownsRow_base0 (HW5.out.below hB6).ints) (fun _ _ h => h)
        have Hx6 := Lib.hid hx6
        clear hx6
        go_wp2_with first
          | (go_at_call 31; refine (HSy.out w5 HW5.out.bel).mono ?_; rintro e w6 ⟨rfl, hB6⟩; have Hr6 := Lib.hid hB6; have hi6 := Hx6.out w6 hB6; have Hi6 := Lib.hid hi6; clear hi6 hB6)
          | (at_builtin; refine append_ints5 rfl (.tmp 55) (.tmp 59) rfl (.slice ai j ci) (.slice (some ⟨w6.heap.size, 0, none⟩) 1 1) (.int .i64 (G j)) j ((List.range j).map fun k => Value.int .i64 (G k)) rfl Hi6.out rfl (Rd_new _ _ _ _ [_] _ _ rfl rfl) rfl (by omega) ?_; intro v' w7 g1 g2 g3; obtain ⟨a7', c7', rfl, _⟩ := row_slice g1; have Hg7 := Lib.hid (And.intro g1 (And.intro g2 g3)); clear g1 g2 g3)
        have hBa6 : Below w6.heap.size w6 (w6.alloc (.cells #[.int .i64 (G j)] 3)) := (Below.refl _ _).alloc (Nat.le_refl _) _
        have hW7 := (HW5.out.below Hr6.out).int hBa6 Hg7.out.1 Hg7.out.2.1 Hg7.out.2.2
        have HW7 := Lib.hid hW7
        clear hW7 hBa6
        go_roundw
        case rel => exact ⟨j + 1, _, _, _, _, _, by omega, by go_num, rfl, rfl, HW7.out⟩
        case measure => simp [intOf]; omega
      · obtain rfl : j = nn := by omega
        have hji : ¬ (j : Int) < (j : Int) := by omega
        clear hlt
        have hWz := HW.out
        obtain ⟨exZ, hexZ⟩ : ∃ exZ : Nat → Prop, exZ = fun k => exX k ∨ (w2.heap.size ≤ k ∧ k < wr.heap.size) := ⟨_, rfl⟩
        have hb2r : Below w2.heap.size w2 wr := Hb23.out.trans (HW.out.bel.mono Hb23.out.size)
        have hSr : StoreAt exZ wr q p m d st := by rw [hexZ]; exact HS2.out.more hb2r (fun k hk => hk)
        have hxZ : ∀ k, w2.heap.size ≤ k → k < wr.heap.size → exZ k := fun k h1 h2 => by rw [hexZ]; exact Or.inr ⟨h1, h2⟩
        have hxZ0 : ∀ k, k < w.heap.size → exZ k := fun k hk => by rw [hexZ]; exact Or.inl (Hx.out k hk)
        have hGZ : GlIn exZ := ⟨hxZ0 _ HE.out.lt.tab, hxZ0 _ HE.out.lt.syn, hxZ0 _ HE.out.lt.rng⟩
        have hbr : Below w.heap.size w wr := Hb2.out.trans (hb2r.mono Hb2.out.size)
        have hrdr : Rd wr (.slice ab b.length cb) (bcells b) := Hb.out.keep (Upd.ofBelow (fp := noFp) hbr) (fun _ _ h => h)
        have hPut := put_by (s := kMore) 0 hSr HT.out.1.sits.ok (by decide) hrdr (by omega) HP.out.1
        have HPut := Lib.hid hPut
        have HZ := Lib.hid (And.intro hxZ (And.intro hxZ0 hbr))
        have HWz := Lib.hid hWz
        clear hPut hSr hxZ hxZ0 hbr hrdr hb2r hWz hexZ
        go_upto_region 17 with (go_at_call 23; refine HPut.out.mono ?_; rintro e wp ⟨rfl, hSp, hKp⟩)
        have hEp : WEnv wp := HE.out.below (HZ.out.2.2.trans ((hKp.mono HZ.out.2.1 (ex' := fun k => k < w.heap.size)).below (fun _ h => h)))
        have hCm := commit_by2 0 hSp HP.out.2.2.1.sits.ok hEp hGZ HP.out.2.1
        have HCm := Lib.hid hCm
        have HKp := Lib.hid hKp
        clear hCm hSp hEp hKp
        go_upto_region 21 with (go_at_call 14; refine HCm.out.mono ?_; rintro e wz ⟨rfl, hSz, hKz'⟩; have hKz := HKp.out.trans hKz'; have Hz := Lib.hid (And.intro hSz hKz); clear hSz hKz hKz')
        have hbz : Below w.heap.size w wz := HZ.out.2.2.trans ((Hz.out.2.mono HZ.out.2.1 (ex' := fun k => k < w.heap.size)).below (fun _ h => h))
        have hrdz : Rd wz (.slice a3' j c3') (nms.map Value.string) := Hz.out.2.rd (Hrd3.out.keep (Upd.ofBelow (fp := noFp) HWz.out.bel) (fun _ _ h => h)) (fun g hg => HZ.out.1 g (row_from Hrow3.out hg) (Nat.lt_of_lt_of_le (row_lt Hrow3.out hg) HWz.out.bel.size))
        have hat := HWz.out.kept Hz.out.2 (fun k h1 h2 => HZ.out.1 k (Nat.le_trans Hb23.out.size h1) h2)
        have Hbz := Lib.hid (And.intro hbz hrdz)
        have Hat := Lib.hid hat
        have hgot : s2.got kMore = b := by
          obtain ⟨x, hx1, hx2⟩ := Hmore.out
          unfold AStore.got; rw [hx1]; exact hx2
        have hiss : (kB s2.keys kMore).isSome = true := by
          obtain ⟨x, hx1, hx2⟩ := Hmore.out
          rw [hx1]; rfl
        have Hgot := Lib.hid (And.intro hgot hiss)
        clear hbz hrdz hat hgot hiss
        go_loopw [74] (fun kv wq => ∃ k : Nat, k ≤ j ∧ kv = .int .i64 k ∧ Below wz.heap.size wz wq) (fun kv _ => j - (intOf kv).toNat)
        case atStart => exact ⟨0, by omega, rfl, Below.refl _ _⟩
        case round =>
          obtain ⟨k', hk', rfl, hBq⟩ := hrel
          obtain ⟨wq, rfl⟩ : ∃ x, x = wr := ⟨_, rfl⟩
          by_cases hlt : k' < j
          · have hjl : k' < nms.length := by rw [Hnn.out]; exact hlt
            obtain ⟨bb, oo, rfl, hcl⟩ := Hbz.out.2.at k' (by rw [List.length_map, Hnn.out]; exact hlt)
            obtain ⟨s, hs⟩ : ∃ s, nms[k'] = s := ⟨_, rfl⟩
            rw [List.getElem_map, hs] at hcl
            have hmem : s ∈ nms := by rw [← hs]; exact List.getElem_mem hjl
            have hsz : s.size ≤ maxLen := by have := Hns.out s hmem; simp only [maxLen]; omega
            have hatk : nmAt nms k' = s := by unfold nmAt; rw [List.getD_eq_getElem?_getD, List.getElem?_eq_getElem hjl, hs]; rfl
            obtain ⟨r1, r2, r3⟩ := Hread.out s hmem
            have hFj : d2.readBytes s = F k' := by rw [HF.out.1, hatk, r1]
            have hGj : ((afile d2 s).firm.length : Int) = G k' := by rw [HF.out.2, hatk, r3]
            obtain ⟨gb, cb', gf, cf', ae, ce, e1, e2, e3, e4, e5⟩ := Hat.out k' hlt hlt
            cases e1
            cases e2
            have hcr := (hBq.cell (p := ⟨bb, oo + k', none⟩) (cell_lt hcl)).trans hcl
            have hji : (k' : Int) < (j : Int) := by omega
            have hj0 : (0 : Int) ≤ (k' : Int) := by omega
            have hRd := Read_at s (Hz.out.1.disk.below hBq) hsz
            have hSy := fun wX hX => Synced_at s (Hz.out.1.disk.below (w' := wX) hX) hsz
            rw [hFj, r2] at hRd
            rw [hGj] at hSy
            have hne := strEq s freshI
            rw [decide_eq_false (Hnf.out s hmem), show freshI.toList = [105, 46, 110, 101, 119] by rw [ByteArray.toList_eq]; rfl] at hne
            have HRd := Lib.hid hRd
            have HSy := Lib.hid hSy
            have Hq := Lib.hid hBq
            have He := Lib.hid (And.intro e3 (And.intro e4 e5))
            clear hRd hSy hs hatk hFj hGj hcl hBq e3 e4 e5 r1 r2 r3 hmem
            go_upto_region 24 with first
              | (go_at_call 26; refine HRd.out.mono ?_; rintro e w4 ⟨a4, c4, rfl, row4, hB4⟩; have Hr4 := Lib.hid (And.intro row4 hB4); clear row4 hB4)
            have hB4 : Below wz.heap.size wz w4.drew := (Hq.out.trans (Hr4.out.2.mono Hq.out.size)).drew
            have c1 : w4.drew.cell? ⟨gb, k', none⟩ = some (.slice ae (F k').length ce) ∧ w4.drew.cell? ⟨gf, k', none⟩ = some (.int .i64 (G k')) := ⟨(hB4.cell (p := ⟨gb, k', none⟩) (cell_lt He.out.1)).trans He.out.1, (hB4.cell (p := ⟨gf, k', none⟩) (cell_lt He.out.2.1)).trans He.out.2.1⟩
            have hsb := sameB_yes w4.drew (.slice a4 (F k').length c4) (.slice ae (F k').length ce) (F k') ((Rd.ofOwns Hr4.out.1).below ((Below.refl _ _).drew)) (He.out.2.2.keep (Upd.ofBelow (fp := noFp) hB4) (fun _ _ h => h))
            have Hsb := Lib.hid hsb
            have HB4 := Lib.hid hB4
            clear hsb hB4
            go_region_held3 (fun w'' => w''.cell? ⟨gb, k', none⟩ = some (.slice ae (F k').length ce) ∧ w''.cell? ⟨gf, k', none⟩ = some (.int .i64 (G k'))) (first | with_reducible exact c1 | with_reducible exact S6 | go_keep)
              (first
                | (go_at_call 27; refine Hsb.out.mono ?_; rintro e w5 ⟨rfl, rfl⟩)
                | (go_at_call 31; refine (HSy.out _ HB4.out).mono ?_; rintro e w6 ⟨rfl, hB6⟩; have S6 : w6.cell? ⟨gb, k', none⟩ = some (.slice ae (F k').length ce) ∧ w6.cell? ⟨gf, k', none⟩ = some (.int .i64 (G k')) := ⟨(hB6.cell (p := ⟨gb, k', none⟩) (cell_lt c1.1)).trans c1.1, (hB6.cell (p := ⟨gf, k', none⟩) (cell_lt c1.2)).trans c1.2⟩; have Hb6 := Lib.hid (HB4.out.trans (hB6.mono HB4.out.size)); clear hB6))
            go_wp2_with fail
            go_roundw
            case rel => exact ⟨k' + 1, by omega, by go_num, Hb6.out⟩
            case measure => simp [intOf]; omega
          · obtain rfl : k' = j := by omega
            have hji : ¬ (k' : Int) < (k' : Int) := by omega
            clear hlt
            have hGe := pgGet_at (s := kMore) (Hz.out.1.below hBq) (by decide) (by rw [Hgot.out.1]; omega)
            rw [Hgot.out.1, Hgot.out.2] at hGe
            have hbq : Below w.heap.size w wq := Hbz.out.1.trans (hBq.mono Hbz.out.1.size)
            have HGe := Lib.hid hGe
            have Hbq := Lib.hid hbq
            clear hGe hbq hBq
            go_wp2_with first
              | (go_at_call 28; refine HGe.out.mono ?_; rintro e w8 ⟨a8, c8, rfl, row8, hB8⟩; have Hb8 := Lib.hid (Hbq.out.trans (hB8.mono Hbq.out.size)); have Hr8 := Lib.hid row8; clear row8 hB8)
              | (go_at_call 27; refine (sameB_yes w8 _ _ b (Rd.ofOwns Hr8.out) (Hb.out.keep (Upd.ofBelow (fp := noFp) Hb8.out) (fun _ _ h => h))).mono ?_; rintro e w9 ⟨rfl, rfl⟩)
              | (go_at_call 18; refine (awake5_any _ (HE.out.below Hb8.out)).mono ?_; rintro e w10 ⟨rfl, hB10⟩; have Hb10 := Lib.hid (Hb8.out.trans (hB10.mono Hb8.out.size)); clear hB10)
            go_ret
            exact ⟨rfl, Hb10.out⟩
end Go.Proofs.YtbepcjajbcecnaaGreatDoor
