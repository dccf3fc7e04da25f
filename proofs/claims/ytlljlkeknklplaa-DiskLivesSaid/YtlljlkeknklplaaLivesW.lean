/-
  The walk of DiskLives.
-/
import Derived.Outline
import Derived.Deep.OwnRows
import Derived.Deep.RegionHeld3
import Derived.Deep.CutRange
import Derived.Deep.CutBlock
import Derived.Test.YtlljlkeknklplaaLives1
import Derived.Test.YtlljlkeknklplaaAwake
namespace Go.Proofs.Ytlljlkeknklplaa
open Go.RowKit Go.Maps Go.MapKept

set_option maxRecDepth 100000 in
set_option maxHeartbeats 8000000 in
theorem lives_walk (w : World) (room : Int) (vl va vk : Value) (ls : List (List ACall)) (arms : List Int) (ks : List (List Int)) (hr0 : 0 ≤ room) (hr1 : room ≤ 65535) (hls : LivesAt w vl ls) (ha : Rd w va (iCells arms)) (_hal : arms.length ≤ maxLen) (hai : ∀ x ∈ arms, isI64 x) (hks : IntsAt w vk ks) :
    Calls Try.prog 6 #[.int .u16 room, vl, va, vk] w fun e w' => e = .returned (.bool true) ∧ Below w.heap.size w w' := by
  obtain ⟨al, cl, rfl⟩ := SliceOf.shape hls
  obtain ⟨ak, ck, rfl⟩ := SliceOf.shape hks
  obtain ⟨aa, ca, rfl⟩ := ha.shape
  have hll := SliceOf.len_le hls
  have hkl := SliceOf.len_le hks
  simp only [maxLen, iCells_length] at *
  have hm0 : 0 ≤ room % 2001 := by omega
  have hm1 : room % 2001 < 2001 := by omega
  obtain ⟨ex, hex⟩ : ∃ ex : Nat → Prop, ex = fun k => k < w.heap.size := ⟨_, rfl⟩
  have Hex := Lib.hid hex
  have hx0 : ∀ k, ex k → k < w.heap.size := fun k hk => by rw [hex] at hk; exact hk
  clear hex
  have hxx : ∀ k, k < w.heap.size → ex k := fun k hk => by rw [Hex.out]; exact hk
  go_enter Try.func6, Try.ntmps6
  go_wp2_with (go_at_call 12; refine (New_at (ex := ex) (room % 2001) hm0 (by omega) hx0).mono ?_; generalize hp : w.heap.size + 1 = p; generalize hm : w.heap.size = m; rintro e w0 ⟨rfl, h0, kk0⟩; clear hp hm)
  go_loopw [11] (fun i wr => ∃ (q : Nat) (d : ADisk), q ≤ ls.length ∧ q ≤ 5 ∧ i = .int .i64 q ∧ DiskAt ex wr p m d ∧ Keep ex w wr ∧ d.down = false) (fun i _ => ls.length - (intOf i).toNat)
  case atStart => exact ⟨0, _, by omega, by omega, rfl, h0, kk0, rfl⟩
  case round =>
    obtain ⟨q, d, hq, hq5, rfl, hD, hK, hd⟩ := hrel
    clear h0 kk0
    have hbr : Below w.heap.size w wr := hK.below hxx
    by_cases hlt : q < ls.length
    · by_cases h5 : q < 5
      · obtain ⟨bl, ol, vcs, rfl, hblW, cq, hcs⟩ := hls.at hbr q hlt
        obtain ⟨cs, hcse⟩ : ∃ cs, ls[q] = cs := ⟨_, rfl⟩
        rw [hcse] at hcs
        obtain ⟨acs, ccs, rfl⟩ := SliceOf.shape hcs
        have hq0 : ∀ {wx : World}, Below w.heap.size w wx → wx.cell? ⟨bl, ol + q, none⟩ = some (.slice acs cs.length ccs) := fun hbx => (hbx.cell (p := ⟨bl, ol + q, none⟩) hblW).trans ((hbr.cell (p := ⟨bl, ol + q, none⟩) hblW).symm.trans cq)
        have hcl := SliceOf.len_le hcs
        simp only [maxLen] at hcl
        clear hcse
        go_upto_region 7 with fail
        go_cut [45] from 25 to 129 (fun b wx => b = .bool (decide (q < arms.length ∧ 0 ≤ arms.getD q 0)) ∧ wx = wr)
        case first =>
          by_cases h1 : q < arms.length
          · obtain ⟨ba, oa, rfl, da⟩ := ha.at q (by rw [iCells_length]; exact h1)
            simp only [iCells, List.getElem_map] at da
            have ea := (hbr.cell (p := ⟨ba, oa + q, none⟩) (cell_lt da)).trans da
            have hg : arms.getD q 0 = arms[q] := by rw [List.getD_eq_getElem?_getD, List.getElem?_eq_getElem h1]; rfl
            go_wp2_with fail
            go_meet
            case rel => exact ⟨by simp [h1], rfl⟩
          · go_wp2_with fail
            go_meet
            case rel => exact ⟨by simp [h1], rfl⟩
        case rest =>
          obtain ⟨rfl, rfl⟩ := hcut
          obtain ⟨bb, hbb⟩ : ∃ bb, decide (q < arms.length ∧ 0 ≤ arms.getD q 0) = bb := ⟨_, rfl⟩
          rw [hbb]
          go_upto_if 45 with fail
          go_cut [] from 25 to 129 (fun wx => ∃ d1, DiskAt ex wx p m d1 ∧ Keep ex w wx ∧ d1.down = false)
          case first =>
            cases bb with
            | true =>
              obtain ⟨h1, h2⟩ := of_decide_eq_true hbb
              obtain ⟨ba, oa, rfl, da⟩ := ha.at q (by rw [iCells_length]; exact h1)
              simp only [iCells, List.getElem_map] at da
              have ea := (hbr.cell (p := ⟨ba, oa + q, none⟩) (cell_lt da)).trans da
              have hia := hai _ (List.getElem_mem h1)
              unfold isI64 at hia
              go_wp2_with (go_at_call 28; refine (Arm_at arms[q] hD hia.1 hia.2).mono ?_; rintro e w1 ⟨rfl, hD1, hK1⟩)
              go_meet
              case rel => exact ⟨d.arm arms[q], hD1, hK.trans hK1, by simp [ADisk.arm, hd]⟩
            | false =>
              go_wp2
              go_meet
              case rel => exact ⟨d, hD, hK, hd⟩
          case rest =>
            obtain ⟨d1, hD1, hK1, hd1⟩ := hcut
            clear hD hK hd hbr hbb cq
            go_wp2_with fail
            refine (taken_at hD1).mono ?_
            rintro e w2 ⟨vn, vb, vf, rfl, hsh, hb2⟩
            obtain ⟨an, cn, rfl, _⟩ := row_slice (ownsRow_base0 hsh.n)
            obtain ⟨ab, cb, rfl, _⟩ := row_slice (ownsRow_base0 hsh.b)
            obtain ⟨af, cf, rfl, _⟩ := row_slice (ownsRow_base0 hsh.f)
            have hs2 := hb2.size
            have hB3 := alloc_at w2 (.cells #[.slice an d1.shot.names.length cn, .slice ab d1.shot.bytes.length cb, .slice af d1.shot.firm.length cf] 76)
            have hb23 : Below w2.heap.size w2 (w2.alloc (.cells #[.slice an d1.shot.names.length cn, .slice ab d1.shot.bytes.length cb, .slice af d1.shot.firm.length cf] 76)) := (Below.refl _ _).alloc (Nat.le_refl _) _
            have hs3 : (w2.alloc (.cells #[.slice an d1.shot.names.length cn, .slice ab d1.shot.bytes.length cb, .slice af d1.shot.firm.length cf] 76)).heap.size = w2.heap.size + 1 := by simp
            dsimp only
            go_upto_block 2 with fail
            obtain ⟨w3, hw3⟩ : ∃ w3, w2.alloc (.cells #[.slice an d1.shot.names.length cn, .slice ab d1.shot.bytes.length cb, .slice af d1.shot.firm.length cf] 76) = w3 := ⟨_, rfl⟩
            rw [hw3] at hB3 hb23 hs3 ⊢
            have hb13 : Below wc.heap.size wc w3 := hb2.trans (hb23.mono hs2)
            have hK3 := hK1.trans (Keep.ofBelow hb13 (fun k hk => hD1.lt hk))
            have hBw : w.heap.size ≤ w2.heap.size := Nat.le_trans hK1.size hs2
            have hstart : ∃ (d2 : ADisk) (exq : Nat → Prop), (∀ k, ex k → exq k) ∧ DiskAt exq w3 p m d2 ∧ Keep ex w w3 ∧ WasAt exq w3 w2.heap.size d2.upShot := by
              refine ⟨d1, fun k => ex k ∨ wc.heap.size ≤ k ∧ k < w3.heap.size, fun k hk => Or.inl hk, hD1.more hb13 (fun k hk => hk), hK3, ?_⟩
              rw [← upShot_up hd1]
              exact hsh.was hB3 (Keep.ofBelow hb23 (fun k hk => hk.2)) (Or.inr ⟨hs2, by omega⟩) (fun k h1 h2 => Or.inr ⟨h1, by omega⟩)
            clear hD1 hK1 hsh hb2 hb23 hw3 hs2 hs3 hb13 hK3 hB3
            go_cut [] from 25 to 129 (fun wx => ∃ (d2 : ADisk) (exq : Nat → Prop), (∀ k, ex k → exq k) ∧ DiskAt exq wx p m d2 ∧ Keep ex w wx ∧ WasAt exq wx w2.heap.size d2.upShot)
            case first =>
              go_wp2_with fail
              go_loopw [13] (fun i wr => ∃ (k : Nat) (d2 : ADisk) (exq : Nat → Prop), k ≤ cs.length ∧ k ≤ 30 ∧ i = .int .i64 k ∧ (∀ k, ex k → exq k) ∧ DiskAt exq wr p m d2 ∧ Keep ex w wr ∧ WasAt exq wr w2.heap.size d2.upShot) (fun i _ => cs.length - (intOf i).toNat)
              case atStart =>
                obtain ⟨d2, exq, y1, y2, y3, y4⟩ := hstart
                exact ⟨0, d2, exq, by omega, by omega, rfl, y1, y2, y3, y4⟩
              case round =>
                obtain ⟨k, d2, exq, hk, hk30, rfl, hxq, hD, hK, hwas⟩ := hrel
                have hbr : Below w.heap.size w wr := hK.below hxx
                have cq := hq0 hbr
                clear hstart
                by_cases hkl : k < cs.length
                · by_cases hk3 : k < 30
                  · cases hdn : d2.down with
                    | true =>
                      go_wp2_with (go_at_call 39; refine (Down_at hD).mono ?_; rw [hdn]; rintro e wz ⟨rfl, rfl⟩)
                      go_meet
                      case rel => exact ⟨d2, exq, hxq, hD, hK, hwas⟩
                    | false =>
                      obtain ⟨b, off, rfl, hbW, hok, c0, c1, c2, c3, c4, c5⟩ := hcs.at hbr k hkl
                      have hexb : exq b := hxq _ (hxx _ hbW)
                      have hexl : exq bl := hxq _ (hxx _ hblW)
                      obtain ⟨cc, hcc⟩ : ∃ cc, cs[k] = cc := ⟨_, rfl⟩
                      rw [hcc] at hok c0 c1 c2 c3 c4 c5
                      clear hcc
                      have hw0 := hok.what0
                      have hw1 := hok.what1
                      go_wp2_with fail
                      refine (Down_at hD).mono ?_
                      rw [hdn]
                      rintro e wz ⟨rfl, rfl⟩
                      cases hfit : fitsB cc with
                      | false =>
                        dsimp only
                        go_wp2_with (go_at_call 20; refine (fits_any _ cc hok).mono ?_; rw [hfit]; rintro e w1 ⟨rfl, hb1⟩)
                        go_roundw
                        case rel => exact ⟨k + 1, d2, exq, by omega, by omega, by go_num, hxq, hD.below hb1, hK.trans (Keep.ofBelow hb1 (fun k hk => hD.lt (hxq k hk))), hwas.keep (Keep.ofBelow hb1 (fun k hk => hD.lt hk))⟩
                        case measure => simp [intOf]; omega
                      | true =>
                        have hlb : cc.b.length ≤ 150 := by
                          simp only [fitsB, Bool.and_eq_true, decide_eq_true_eq] at hfit
                          exact hfit.1.2
                        dsimp only
                        go_wp2_with fail
                        refine (fits_any _ cc hok).mono ?_
                        rw [hfit]
                        rintro e w1 ⟨rfl, hb1⟩
                        have e0 := (hb1.cell (p := ⟨_, _, none⟩) (cell_lt c0)).trans c0
                        have e1 := (hb1.cell (p := ⟨_, _, none⟩) (cell_lt c1)).trans c1
                        have e2 := (hb1.cell (p := ⟨_, _, none⟩) (cell_lt c2)).trans c2
                        have e3 := (hb1.cell (p := ⟨_, _, none⟩) (cell_lt c3)).trans c3
                        have e4 := (hb1.cell (p := ⟨_, _, none⟩) (cell_lt c4)).trans c4
                        have e5 := (hb1.cell (p := ⟨_, _, none⟩) (cell_lt c5)).trans c5
                        have e6 := (hb1.cell (p := ⟨_, _, none⟩) (cell_lt cq)).trans cq
                        have hok1 := hok.below hb1
                        have hD1 := hD.below hb1
                        have hK1 := hK.trans (Keep.ofBelow hb1 (fun k hk => hD.lt (hxq k hk)))
                        have hwas1 := hwas.keep (Keep.ofBelow hb1 (fun k hk => hD.lt hk))
                        clear hD hK hwas c0 c1 c2 c3 c4 c5 cq hb1 hok hbr
                        have hdu := does_up hdn cc
                        obtain ⟨fe, hfe⟩ : ∃ fe, d2.doesErr cc = fe := ⟨_, rfl⟩
                        obtain ⟨d3, hd3⟩ : ∃ d3, d2.does cc = d3 := ⟨_, rfl⟩
                        rw [hfe, hd3] at hdu
                        have Hfe := Lib.hid hfe
                        have Hd3 := Lib.hid hd3
                        clear hfe hd3
                        dsimp only
                        go_wp2_with fail
                        refine (does_at cc hD1 hok1 (by omega)).mono ?_
                        rw [Hfe.out, Hd3.out]
                        rintro e w4 ⟨rfl, hD4, hK4⟩
                        have hwas4 := hwas1.keep hK4
                        have hKw4 := hK1.trans (hK4.mono hxq)
                        rcases hdu with ⟨u1, u2⟩ | ⟨u1, u2⟩
                        · have u3 : (fe == 15) = false := by simpa using u2
                          dsimp only
                          go_wp2_with fail
                          refine (Down_at hD4).mono ?_
                          rw [u1]
                          rintro e wz ⟨rfl, rfl⟩
                          dsimp only
                          go_wp2_with fail
                          refine (Down_at hD4).mono ?_
                          rw [u1]
                          rintro e wz ⟨rfl, rfl⟩
                          dsimp only
                          go_wp2_with fail
                          refine (taken_at hD4).mono ?_
                          rintro e w5 ⟨vn, vb, vf, rfl, hsh, hb5⟩
                          obtain ⟨an', cn', rfl, _⟩ := row_slice (ownsRow_base0 hsh.n)
                          obtain ⟨ab', cb', rfl, _⟩ := row_slice (ownsRow_base0 hsh.b)
                          obtain ⟨af', cf', rfl, _⟩ := row_slice (ownsRow_base0 hsh.f)
                          obtain ⟨a1, n1, c1, a2, n2, c2, a3, n3, c3, hB4, _, hxB, _⟩ := hwas4
                          have hB5 := (hb5.block _ (blk_lt hB4)).trans hB4
                          obtain ⟨x0, x1, x2, z0, z1, z2⟩ := cells3 hB5
                          have hs5 := hb5.size
                          have hBl := blk_lt hB4
                          dsimp only
                          go_wp2
                          have hU : Upd (· = w2.heap.size) w5 (((w5.setCell ⟨w2.heap.size, 0, none⟩ (.slice an' d3.shot.names.length cn')).setCell ⟨w2.heap.size, 1, none⟩ (.slice ab' d3.shot.bytes.length cb')).setCell ⟨w2.heap.size, 2, none⟩ (.slice af' d3.shot.firm.length cf')) := ((setCell_upd 0 _).trans (setCell_upd 1 _) (fun _ hk => Or.inl hk)).trans (setCell_upd 2 _) (fun _ hk => Or.inl hk)
                          have hB6 := setCell_at (setCell_at (setCell_at hB5 0 (.slice an' d3.shot.names.length cn')) 1 (.slice ab' d3.shot.bytes.length cb')) 2 (.slice af' d3.shot.firm.length cf')
                          go_roundw
                          case rel =>
                            refine ⟨k + 1, d3, fun k => exq k ∨ w4.heap.size ≤ k ∧ k < w5.heap.size, by omega, by omega, by go_num, fun k hk => Or.inl (hxq k hk), (hD4.more hb5 (fun k hk => hk)).upd hU (fun k _ hk => Or.inl (hk ▸ hxB)), (hKw4.trans (Keep.ofBelow hb5 (fun k hk => hD4.lt (hxq k hk)))).trans (Keep.ofUpd hU (fun k hk => ⟨by have := hx0 k hk; omega, fun e => by have := hx0 k hk; omega⟩)), ?_⟩
                            rw [← upShot_up u1]
                            exact hsh.was hB6 (Keep.ofUpd hU (fun k hk => ⟨hk.2, fun e => by have := hk.1; omega⟩)) (Or.inl hxB) (fun k h1 h2 => Or.inr ⟨h1, h2⟩)
                          case measure => simp [intOf]; omega
                        · subst u2
                          have u4 : d3.down = true := by rw [u1]; rfl
                          dsimp only
                          go_wp2_with fail
                          refine (Down_at hD4).mono ?_
                          rw [u4]
                          rintro e wz ⟨rfl, rfl⟩
                          dsimp only
                          go_wp2_with fail
                          refine (Down_at hD4).mono ?_
                          rw [u4]
                          rintro e wz ⟨rfl, rfl⟩
                          dsimp only
                          go_wp2
                          go_roundw
                          case rel => exact ⟨k + 1, d3, exq, by omega, by omega, by go_num, hxq, hD4, hKw4, by rw [u1, upShot_fail]; exact hwas4⟩
                          case measure => simp [intOf]; omega
                  · go_wp2
                    go_meet
                    case rel => exact ⟨d2, exq, hxq, hD, hK, hwas⟩
                · go_wp2
                  go_meet
                  case rel => exact ⟨d2, exq, hxq, hD, hK, hwas⟩
            case rest =>
              obtain ⟨d2, exq, hxq, hD2, hK2, hwas2⟩ := hcut
              have hbr2 : Below w.heap.size w wc := hK2.below hxx
              go_upto_region 20 with fail
              go_cut [111] from 25 to 129 (fun b wx => b = .bool (decide (q < ks.length ∧ (ks.getD q []).length ≤ 250)) ∧ DiskAt exq wx p m d2 ∧ Keep ex w wx ∧ WasAt exq wx w2.heap.size d2.upShot)
              case first =>
                by_cases h1 : q < ks.length
                · obtain ⟨bk, ok, vkk, rfl, ck2, rk, ik, gk⟩ := hks.at hbr2 q h1
                  obtain ⟨akk, ckk, rfl⟩ := rk.shape
                  rw [iCells_length] at ck2
                  have hg : ks.getD q [] = ks[q] := by rw [List.getD_eq_getElem?_getD, List.getElem?_eq_getElem h1]; rfl
                  obtain ⟨nk, hnk⟩ : ∃ nk, ks[q].length = nk := ⟨_, rfl⟩
                  rw [hnk] at ck2
                  by_cases h2 : (nk : Int) ≤ 250
                  · have h2' : nk ≤ 250 := by omega
                    go_wp2_with fail
                    go_meet
                    case rel => exact ⟨by rw [hg, hnk]; simp [h1, h2'], hD2, hK2, hwas2⟩
                  · have h2' : ¬ nk ≤ 250 := by omega
                    go_wp2_with fail
                    go_meet
                    case rel => exact ⟨by rw [hg, hnk]; simp; omega, hD2, hK2, hwas2⟩
                · go_wp2_with fail
                  go_meet
                  case rel => exact ⟨by simp [h1], hD2, hK2, hwas2⟩
              case rest =>
                obtain ⟨rfl, hD3, hK3, hwas3⟩ := hcut
                have hbr3 : Below w.heap.size w wc := hK3.below hxx
                clear hD2 hK2 hwas2 hbr2
                obtain ⟨bb, hbb⟩ : ∃ bb, decide (q < ks.length ∧ (ks.getD q []).length ≤ 250) = bb := ⟨_, rfl⟩
                rw [hbb]
                go_upto_if 111 with fail
                go_cut [15] from 25 to 129 (fun l wx => (DiskAt exq wx p m d2 ∧ Keep ex w wx ∧ WasAt exq wx w2.heap.size d2.upShot) ∧ ∃ kk : List Int, Rd wx l (iCells kk) ∧ kk.length ≤ 250 ∧ (∀ x ∈ kk, isI64 x) ∧ (∀ g, l.ownBlock = some g → kk ≠ [] → exq g))
                case first =>
                  cases bb with
                  | true =>
                    obtain ⟨h1, h2⟩ := of_decide_eq_true hbb
                    obtain ⟨bk, ok, vkk, rfl, ck2, rk, ik, gk⟩ := hks.at hbr3 q h1
                    have hg : ks.getD q [] = ks[q] := by rw [List.getD_eq_getElem?_getD, List.getElem?_eq_getElem h1]; rfl
                    rw [hg] at h2
                    go_wp2
                    go_meet
                    case rel => exact ⟨⟨hD3, hK3, hwas3⟩, _, rk, h2, ik, fun g hg hn => hxq _ (hxx _ (gk g hg hn))⟩
                  | false =>
                    go_wp2
                    go_meet
                    case rel => exact ⟨⟨hD3, hK3, hwas3⟩, [], Or.inl ⟨Or.inl rfl, rfl⟩, by simp, by simp, by simp⟩
                case rest =>
                  obtain ⟨⟨hD4, hK4, hwas4⟩, kk, rk, hkk, hik, hgk⟩ := hcut
                  clear hD3 hK3 hwas3 hbr3 hbb
                  go_wp2_with fail
                  refine (Crash_at0 _ kk hD4 rk (by omega) hik hgk).mono ?_
                  rintro e w5 ⟨rfl, hD5, hK5⟩
                  have hsh := crash_shot hD4.wf.sorted kk
                  have hdn : (d2.crash kk).down = false := rfl
                  have hok := upShot_ok hD4.wf
                  have hwas5 := hwas4.keep hK5
                  have hKw5 := hK4.trans (hK5.mono hxq)
                  have rk5 := hK5.rdx rk (fun g hg hn => hgk g hg (by intro e; rw [e] at hn; exact hn rfl))
                  obtain ⟨d5, hd5⟩ : ∃ d5, d2.crash kk = d5 := ⟨_, rfl⟩
                  rw [hd5] at hsh hdn hD5
                  obtain ⟨sh, hse⟩ : ∃ sh, d2.upShot = sh := ⟨_, rfl⟩
                  rw [hse] at hsh hok hwas5
                  obtain ⟨a1, n1, c1, a2, n2, c2, a3, n3, c3, hB5, hs5, _, _⟩ := hwas5
                  obtain ⟨x0, x1, x2, z0, z1, z2⟩ := cells3 hB5
                  clear hd5 hse hwas4 hK4 hD4 rk hgk
                  have hs5d := hs5.below ((Below.refl w5.heap.size w5).drew)
                  have rk5d := rk5.keepLow ((Below.refl w5.heap.size w5).drew)
                  have hD5d := hD5.drew
                  dsimp only
                  go_wp2_with fail
                  go_region_held3 (fun w' => w'.cell? ⟨w2.heap.size, 0, none⟩ = some (.slice a1 n1 c1) ∧ w'.cell? ⟨w2.heap.size, 1, none⟩ = some (.slice a2 n2 c2) ∧ w'.cell? ⟨w2.heap.size, 2, none⟩ = some (.slice a3 n3 c3)) (first | exact ⟨x0, x1, x2⟩ | exact S6 | exact S7 | exact S8 | go_keep)
                    (first
                      | (go_at_call 39; refine (Down_at hD5d).mono ?_; rw [hdn]; rintro e w6 ⟨rfl, rfl⟩)
                      | (go_at_call 41; refine (taken_at hD5d).mono ?_; rw [hsh]; rintro e w6 ⟨va1, va2, va3, rfl, hsa, hb6⟩; have S6 : w6.cell? ⟨w2.heap.size, 0, none⟩ = some (.slice a1 n1 c1) ∧ w6.cell? ⟨w2.heap.size, 1, none⟩ = some (.slice a2 n2 c2) ∧ w6.cell? ⟨w2.heap.size, 2, none⟩ = some (.slice a3 n3 c3) := ⟨(hb6.cell (p := ⟨w2.heap.size, 0, none⟩) (blk_lt hB5)).trans x0, (hb6.cell (p := ⟨w2.heap.size, 1, none⟩) (blk_lt hB5)).trans x1, (hb6.cell (p := ⟨w2.heap.size, 2, none⟩) (blk_lt hB5)).trans x2⟩; have hs6 := hs5d.below hb6; have rk6 := rk5d.keepLow hb6)
                      | (go_at_call 44; refine (kept_any _ _ _ _ _ sh kk hs6 hok rk6 (by omega) hik).mono ?_; rintro e w7 ⟨vk2, vk3, rfl, hsk, hb7⟩; have S7 : w7.cell? ⟨w2.heap.size, 0, none⟩ = some (.slice a1 n1 c1) ∧ w7.cell? ⟨w2.heap.size, 1, none⟩ = some (.slice a2 n2 c2) ∧ w7.cell? ⟨w2.heap.size, 2, none⟩ = some (.slice a3 n3 c3) := ⟨(hb7.cell (p := ⟨w2.heap.size, 0, none⟩) (cell_lt S6.1)).trans S6.1, (hb7.cell (p := ⟨w2.heap.size, 1, none⟩) (cell_lt S6.2.1)).trans S6.2.1, (hb7.cell (p := ⟨w2.heap.size, 2, none⟩) (cell_lt S6.2.2)).trans S6.2.2⟩; have hsa7 := hsa.at.below hb7)
                      | (go_at_call 43; refine (same_any _ _ _ _ _ _ _ (sh.kept kk) (sh.kept kk) hsa7 hsk).mono ?_; rw [decide_eq_true (rfl : sh.kept kk = sh.kept kk)]; rintro e w8 ⟨rfl, hb8⟩; have S8 : w8.cell? ⟨w2.heap.size, 0, none⟩ = some (.slice a1 n1 c1) ∧ w8.cell? ⟨w2.heap.size, 1, none⟩ = some (.slice a2 n2 c2) ∧ w8.cell? ⟨w2.heap.size, 2, none⟩ = some (.slice a3 n3 c3) := ⟨(hb8.cell (p := ⟨w2.heap.size, 0, none⟩) (cell_lt S7.1)).trans S7.1, (hb8.cell (p := ⟨w2.heap.size, 1, none⟩) (cell_lt S7.2.1)).trans S7.2.1, (hb8.cell (p := ⟨w2.heap.size, 2, none⟩) (cell_lt S7.2.2)).trans S7.2.2⟩))
                  have hb58 : Below w5.heap.size w5 w8 := ((((Below.refl w5.heap.size w5).drew).trans hb6).trans (hb7.mono hb6.size)).trans (hb8.mono (Nat.le_trans hb6.size hb7.size))
                  go_wp2
                  go_roundw
                  case rel => exact ⟨q + 1, d5, by omega, by omega, by go_num, (hD5.below hb58).mono hxq, hKw5.trans (Keep.ofBelow hb58 (fun k hk => hD5.lt (hxq k hk))), hdn⟩
                  case measure => simp [intOf]; omega
      · go_wp2_with fail
        refine (awake_any _).mono ?_
        rintro e w7 ⟨rfl, hb7⟩
        go_wp2
        go_ret
        exact ⟨rfl, hbr.trans (hb7.mono hbr.size)⟩
    · go_wp2_with fail
      refine (awake_any _).mono ?_
      rintro e w7 ⟨rfl, hb7⟩
      go_wp2
      go_ret
      exact ⟨rfl, hbr.trans (hb7.mono hbr.size)⟩
/-- .. as the frame hands it. -/
theorem lives_law (w : World) (a0 : Int) (w0 : (Lit.int .u16 a0).wf = true) {v1 v2 v3 : Value} (b1 : List (List ACall)) (r1 : LivesAt w v1 b1) (b2 : List Int) (r2 : Rd w v2 (iCells b2)) (l2 : b2.length ≤ maxLen) (i2 : ∀ x ∈ b2, isI64 x) (b3 : List (List Int)) (r3 : IntsAt w v3 b3) :
    Calls Try.prog 6 #[.int .u16 a0, v1, v2, v3] w fun e w' => e = .returned (.bool true) ∧ Below w.heap.size w w' := by
  have hb := bounds_u16 w0
  exact lives_walk w a0 v1 v2 v3 b1 b2 b3 (by omega) (by omega) r1 r2 l2 i2 r3
end Go.Proofs.Ytlljlkeknklplaa
