/-
  WalSizes: the walk.
-/
import Derived.Outline
import Derived.BigQuiet
import Derived.Deep.QuietTactic
import Derived.Deep.RegionHeld3
import Derived.Test.YtbiadclmonakkaaGreatDoorMWmD
import Derived.Test.YtbiadclmonakkaaGreatDoorMWam26
import Derived.Test.YtbiadclmonakkaaGreatDoorMWal20
namespace Go.Proofs.YtbiadclmonakkaaGreatDoor
open Go.RowKit Go.Maps Go.MapKept
set_option linter.unusedSimpArgs false
set_option maxRecDepth 100000 in
set_option maxHeartbeats 16000000 in
theorem sizes4_law (w : World) (hE : WEnv w) (vr : Value) (rows : List (List UInt8)) (first : Nat) (size : Int) (hW : RowsAt w vr rows) (hf : first ≤ 65535) (hs : isI64 size) :
    Calls Tryz.prog 7 #[.agg #[vr, .int .u16 first, .int .i64 size]] w fun e w' => e = .returned (.bool true) ∧ Below w.heap.size w w' := by
  obtain ⟨ar, cr, rfl⟩ := SliceOf.shape hW
  obtain ⟨N, hN⟩ : ∃ N, rows.length = N := ⟨_, rfl⟩
  rw [hN] at hW ⊢
  have hB1 : Below w.heap.size w (w.alloc (.cells #[.slice ar N cr, .int .u16 first, .int .i64 size] 25)) := (Below.refl _ _).alloc (Nat.le_refl _) _
  have hbx := alloc_at w (.cells #[.slice ar N cr, .int .u16 first, .int .i64 size] 25)
  obtain ⟨w1, hw1⟩ : ∃ w1, w.alloc (.cells #[.slice ar N cr, .int .u16 first, .int .i64 size] 25) = w1 := ⟨_, rfl⟩
  rw [hw1] at hB1 hbx
  obtain ⟨x0, x1, x2, _⟩ := cells3 hbx
  have Hw1 := Lib.hid hw1
  obtain ⟨ex, hex⟩ : ∃ ex : Nat → Prop, ex = fun k => k < w1.heap.size := ⟨_, rfl⟩
  have hlt : ∀ k, ex k → k < w1.heap.size := fun k hk => by rw [hex] at hk; exact hk
  have hlow : ∀ k, k < w.heap.size → ex k := fun k hk => by rw [hex]; have := hB1.size; show k < w1.heap.size; omega
  have hG : GlIn ex := hE.lt.mono hlow
  have hE1 := hE.below hB1
  have hBu := built_any (ex := ex) (.slice ar N cr) rows first size hW hB1 hE1 hG hlt hlow hf hs
  obtain ⟨L, hL⟩ : ∃ L, builtL rows = L := ⟨_, rfl⟩
  obtain ⟨n0, hn0⟩ : ∃ n0, builtN first = n0 := ⟨_, rfl⟩
  obtain ⟨sz, hsz⟩ : ∃ n0, builtS size = n0 := ⟨_, rfl⟩
  have hL40 : L.length ≤ 40 := by rw [← hL]; exact builtL_le rows
  have hn01 : 1 ≤ n0 ∧ n0 ≤ 70000 := by rw [← hn0]; unfold builtN; omega
  have hszb : 64 ≤ sz ∧ sz ≤ 1000 := by rw [← hsz]; have := builtS_le size; omega
  unfold BuiltPost at hBu
  rw [hL, hn0, hsz] at hBu
  have HBu := Lib.hid hBu
  have Hex := Lib.hid hex
  have HE := Lib.hid hE
  have HE1 := Lib.hid hE1
  have Hlow := Lib.hid hlow
  have HB1 := Lib.hid hB1
  have Hsz := Lib.hid hsz
  clear hBu hex hE hE1 hL hn0 hsz hw1 hN hlt
  have hfin : ∀ wX, Keep ex w1 wX → ∀ wY, Below wX.heap.size wX wY → Below w.heap.size w wY := fun wX hK wY hY =>
    HB1.out.trans ((hK.below (N := w1.heap.size) (fun k hk => by rw [Hex.out]; exact hk)).trans (hY.mono hK.size) |>.mono HB1.out.size)
  have Hfin := Lib.hid hfin
  clear hfin hB1
  go_enter Tryz.func7, Tryz.ntmps7
  go_wp2_with fail
  rw [Hw1.out]
  refine HBu.out.mono ?_
  rintro e w2 ⟨q, p, m, a, c, n, XL, d, al, ss, rfl, hK1, hF⟩
  have HF := Lib.hid hF
  have hE2 := HE1.out.keep hK1 hG
  have HE2 := Lib.hid hE2
  obtain ⟨pk, hpk⟩ : ∃ k : Nat, pickI size 200 = k := ⟨(pickI size 200).toNat, by have := pickI_lt size 200 (by omega); omega⟩
  have hpk2 : (64 : Int) + (pk : Int) = (sz : Int) := by rw [← hpk, ← Hsz.out]; exact (builtS_le size).2.2.symm
  have hwz : IntKind.i64.wrap (sz : Int) = (sz : Int) := IntWalk.i64_in _ (by omega)
  have hoka := hF.built.alOk hn01.2 hszb.2 (by omega)
  have hok1 : al.Ok ∧ al.segs.length ≤ 500 := ⟨hoka.1, by omega⟩
  have hln : L.length = n := by
    have := congrArg List.length hF.map
    rw [List.length_map, numbered_len, hF.len] at this
    exact this.symm
  have hnl : al.names.length ≤ 50 := by unfold ALog.names; rw [List.length_map]; omega
  obtain ⟨K, hK⟩ : ∃ K, al.names.length = K := ⟨_, rfl⟩
  have Hln := Lib.hid hln
  have HK := Lib.hid hK
  have Hok1 := Lib.hid hok1
  have hK50 : K ≤ 50 := by omega
  have hn40 : n ≤ 40 := by omega
  have hbx2 := (hK1.block w.heap.size (by rw [Hex.out]; exact blk_lt hbx)).trans hbx
  obtain ⟨y0, y1, y2, _⟩ := cells3 hbx2
  have HP := Pick_any w2 size 200 (by unfold isI64; omega)
  rw [hpk] at HP
  have HP' := Lib.hid HP
  clear hF hE2 hok1 hln hK hnl HP hpk hoka x0 x1 x2 hbx hbx2
  go_wp2_with fail
  refine HP'.out.mono ?_
  rintro e w' ⟨rfl, rfl⟩
  go_wp2_with fail
  refine (files_by _ K HF.out.log HE2.out Hok1.out rfl HK.out).mono ?_
  unfold FilesPost
  rintro e w3 ⟨a3, c3, rfl, row3, hB3⟩
  have hL3 := HF.out.log.below hB3
  have hall3 := ((Upd.refl noFp w2).thenBelow hB3 (Nat.le_refl _)).row HF.out.row (fun _ _ h => h)
  have hK3 : Keep ex w1 w3 := hK1.trans (Keep.ofBelow hB3 (fun k hk => HF.out.log.lt (Or.inl hk)))
  have hB03 : Below w.heap.size w w3 := Hfin.out w3 hK3 w3 (Below.refl _ _)
  have hrdA : RecRd w3 a XL := RecRd.ofOwns hall3 HF.out.len.symm (fun x hx => (HF.out.low x hx).keepLow hB03)
  have HE3 := Lib.hid (HE2.out.below hB3)
  have Row3 := Lib.hid row3
  have HL3 := Lib.hid hL3
  have HRA := Lib.hid hrdA
  have hfin3 : ∀ wY, Below w3.heap.size w3 wY → Below w.heap.size w wY := fun wY hY => Hfin.out w3 hK3 wY hY
  have Hfin3 := Lib.hid hfin3
  clear row3 hall3 hB03 hrdA hL3 hfin3 hB3
  by_cases hn0 : n = 0
  · subst hn0
    have hL0 : L = [] := List.eq_nil_of_length_eq_zero Hln.out
    have hK0 : K = 0 := by
      have h1 := HF.out.built.nil0 hL0
      have hnm : al.names = ss.map (fun y => wName y.1) := names_map HF.out.built.j.segs
      rw [← HK.out, hnm, h1]; rfl
    clear hL0
    subst hK0
    go_wp2_with fail
    refine (awake4_any _ HE3.out).mono ?_
    rintro e w4 ⟨rfl, hB4⟩
    go_wp2
    go_ret
    exact ⟨rfl, Hfin3.out _ hB4⟩
  · have hLne : L ≠ [] := fun e => hn0 (by rw [← Hln.out, e]; rfl)
    have hSz := sizes_plain HF.out.built hLne
    have HSz := Lib.hid hSz
    have hK0 : 0 < K := by
      apply Nat.pos_of_ne_zero
      intro e
      apply hLne
      have h1 := HF.out.built.recs_len
      have h2 : ss = [] := by
        apply List.eq_nil_of_length_eq_zero
        have h3 := HK.out
        have hnm : al.names = ss.map (fun y => wName y.1) := names_map HF.out.built.j.segs
        rw [hnm, List.length_map] at h3
        omega
      rw [h2] at h1
      exact List.eq_nil_of_length_eq_zero h1.symm
    have hdl : d.names.length = K := by rw [← hSz.perm.length_eq, HK.out]
    have hrd3 := Rd.ofOwns Row3.out
    obtain ⟨bf, of, rfl, zz⟩ := hrd3.at 0 (by rw [sCells_length, HK.out]; exact hK0)
    obtain ⟨bR, oR, rfl, za, zb, zc⟩ := HRA.out.at 0 (by rw [HF.out.len]; omega)
    clear zz za zb zc
    have hfc : ∀ k s, al.names[k]? = some s → ∀ wX, Below w3.heap.size w3 wX → wX.cell? ⟨bf, of + k, none⟩ = some (.string s) := by
      intro k s hk wX hX
      have h1 := (List.getElem?_eq_some_iff.1 hk)
      obtain ⟨h2, h3⟩ := h1
      obtain ⟨b', o', e', h4⟩ := (hrd3.below hX).at k (by rw [sCells_length]; exact h2)
      cases e'
      rw [h4]
      simp only [sCells, List.getElem_map, h3]
    have hDn : ∀ wX, Below w3.heap.size w3 wX → LogAt _ wX q p m d al := fun wX hX => HL3.out.below hX
    have HSo : ∀ wX, Below w3.heap.size w3 wX → Calls Tryz.prog 30 #[.slice (some ⟨bf, of, none⟩) K c3] wX fun e w' => ∃ a' c', e = .returned (.slice a' K c') ∧ Rd w' (.slice a' K c') (sCells d.names) ∧ Below w3.heap.size w3 w' := by
      intro wX hX
      refine (sorted4_any wX (some ⟨bf, of, none⟩) K c3 al.names (hrd3.below hX) HK.out (by omega)).mono ?_
      rintro e w' ⟨a', c', xs, h1, h2, h3, h4, h5⟩
      have hx : xs = d.names := srt_eq h3 HSz.out.srt (h2.trans HSz.out.perm)
      rw [hx] at h4
      exact ⟨a', c', h1, h4, hX.trans (h5.mono hX.size)⟩
    have HLi : ∀ wX, Below w3.heap.size w3 wX → Calls Tryz.prog 28 #[.pointer (some ⟨p, 0, none⟩)] wX fun e w' => ∃ a' c', e = .returned (.slice a' K c') ∧ Rd w' (.slice a' K c') (sCells d.names) ∧ Below wX.heap.size wX w' := by
      intro wX hX
      obtain ⟨v, hv⟩ := hDn wX hX
      refine (List_at hv.disk).mono ?_
      rw [hdl]
      rintro e w' ⟨a', c', h1, h2, _, h3⟩
      exact ⟨a', c', h1, Rd.ofOwns h2, h3⟩
    have HSt : ∀ (wX wY wZ : World) v1 v2, Below w3.heap.size w3 wX → Rd wX v1 (sCells d.names) → Below wX.heap.size wX wY → Rd wY v2 (sCells d.names) → Calls Tryz.prog 20 #[v1, v2] wY fun e w' => e = .returned (.bool true) ∧ Below w3.heap.size w3 w' := by
      intro wX wY wZ v1 v2 hX h1 hXY h2
      refine (SameTexts_any wY v1 v2 d.names d.names (h1.below hXY) h2 (by rw [hdl]; simp only [maxLen]; omega) (by rw [hdl]; simp only [maxLen]; omega)).mono ?_
      rw [show decide (d.names = d.names) = true by simp]
      rintro e w' ⟨h3, h4⟩
      have h5 := hX.trans (hXY.mono hX.size)
      exact ⟨h3, h5.trans (h4.mono h5.size)⟩
    have HFi : ∀ wX, Below w3.heap.size w3 wX → Calls Tryz.prog 24 #[.pointer (some ⟨q, 0, none⟩)] wX fun e w' => e = .returned (.int .i64 (n0 : Nat)) ∧ wX = w' := fun wX hX => first_by n0 (hDn wX hX) HSz.out.first
    obtain ⟨bZ, oZ, e0, x0, za, zb⟩ := HRA.out.at 0 (by rw [HF.out.len]; omega)
    cases e0
    clear za zb
    have hx0n : (XL[0]'(by rw [HF.out.len]; omega)).n = n0 := by
      have h0l : 0 < XL.length := by rw [HF.out.len]; omega
      have h1 : (XL.map XRec.rec4)[0]? = some (XL[0].rec4) := by rw [List.getElem?_map, List.getElem?_eq_getElem h0l]; rfl
      rw [HF.out.map] at h1
      have := numbered_nth h1
      simpa [XRec.rec4] using this
    rw [hx0n, show oR + 0 * 2 = oR by omega] at x0
    have H1 := Lib.hid HSo
    have H2 := Lib.hid HLi
    have H3 := Lib.hid HSt
    have H4 := Lib.hid HFi
    have H5 := Lib.hid hfc
    have H6 := Lib.hid hDn
    have H7 := Lib.hid hdl
    have hnz : ((n : Int) == 0) = false := by rw [beq_eq_false_iff_ne]; omega
    have hnn : ((n0 : Int) != (n0 : Int)) = false := by simp
    have hn1 : (0 : Int) < (n : Int) := by omega
    have hn2 : 0 < n := by omega
    clear HSo HLi HSt HFi hfc hDn hdl hLne hn0 hSz hrd3 hx0n
    go_wp2_with fail
    go_region_held3 (fun w' => w'.cell? ⟨bR, oR, none⟩ = some (.int .i64 (n0 : Int))) (first | exact x0 | exact SA | exact SB | exact SC | go_keep)
      (first
        | (go_at_call 30; (have hBd := (Below.refl w3.heap.size w3).drew); ((with_reducible refine (H1.out _ hBd).mono ?_); rintro e wA ⟨aS, cS, rfl, hrA, hBA⟩; have SA := (hBA.cell (p := ⟨bR, oR, none⟩) (cell_lt x0)).trans x0))
        | (go_at_call 28; ((with_reducible refine (H2.out wA hBA).mono ?_); rintro e wB ⟨aL, cL, rfl, hrB, hBB⟩; have SB := (hBB.cell (p := ⟨bR, oR, none⟩) (cell_lt SA)).trans SA))
        | (go_at_call 20; ((with_reducible refine (H3.out wA wB wB _ _ hBA hrA hBB hrB).mono ?_); rintro e wC ⟨rfl, hBC⟩; have SC := (hBC.cell (p := ⟨bR, oR, none⟩) (cell_lt x0)).trans x0))
        | (go_at_call 24; ((with_reducible refine (H4.out wC hBC).mono ?_); rintro e wD ⟨rfl, rfl⟩)))
    have HBC := Lib.hid hBC
    clear SA SB SC hrA hrB hBA hBB hBC hBd hnn hn1 x0
    have hsl : ∀ s ∈ al.names, s.size ≤ maxLen := by
      intro s hs
      have hnm : al.names = ss.map (fun y => wName y.1) := names_map HF.out.built.j.segs
      rw [hnm] at hs
      obtain ⟨y, hy, rfl⟩ := List.mem_map.1 hs
      have h1 := chain_ok HF.out.built.j.on.chain y hy
      have h2 := wName_len (n := y.1) (by have := h1.hi; omega)
      exact Nat.le_trans h2 (by decide)
    have HSi : ∀ s ∈ al.names, ∀ wX, Below w3.heap.size w3 wX → Calls Tryz.prog 14 #[.pointer (some ⟨p, 0, none⟩), .string s] wX fun e w' => e = .returned (.int .i64 (afile d s).len) ∧ Below w3.heap.size w3 w' := by
      intro s hs wX hX
      obtain ⟨v, hv⟩ := H6.out wX hX
      exact (Size_at s hv.disk (hsl s hs)).mono fun e w' h => ⟨h.1, hX.trans (h.2.mono hX.size)⟩
    have HSy : ∀ s ∈ al.names, ∀ wX, Below w3.heap.size w3 wX → Calls Tryz.prog 31 #[.pointer (some ⟨p, 0, none⟩), .string s] wX fun e w' => e = .returned (.int .i64 (afile d s).firm.length) ∧ Below w3.heap.size w3 w' := by
      intro s hs wX hX
      obtain ⟨v, hv⟩ := H6.out wX hX
      exact (Synced_at s hv.disk (hsl s hs)).mono fun e w' h => ⟨h.1, hX.trans (h.2.mono hX.size)⟩
    have hkn : ∀ j, j < K → ∃ s, al.names[j]? = some s ∧ s ∈ al.names := by
      intro j hj
      have hj' : j < al.names.length := by rw [HK.out]; exact hj
      exact ⟨_, List.getElem?_eq_getElem hj', List.getElem_mem hj'⟩
    have P1 := Lib.hid HSi
    have P2 := Lib.hid HSy
    have P3 := Lib.hid hkn
    clear HSi HSy hkn hsl
    go_wp2
    go_loopw [9] (fun i wr => ∃ j : Nat, i = .int .i64 j ∧ j + 1 ≤ K ∧ Below w3.heap.size w3 wr) (fun i _ => K - (intOf i).toNat)
    case atStart => exact ⟨0, rfl, by omega, HBC.out⟩
    case round =>
      obtain ⟨j, rfl, hj, hB⟩ := hrel
      have HB := Lib.hid hB
      clear hB
      have hwj : IntKind.i64.wrap ((j : Int) + 1) = (j : Int) + 1 := IntWalk.i64_in _ (by omega)
      by_cases hlt : j + 1 < K
      · obtain ⟨s, hs1, hs2⟩ := P3.out j (by omega)
        obtain ⟨hge, hfm⟩ := HSz.out.pre j s (by rw [HK.out]; exact hlt) hs1
        have x0 := H5.out j s hs1 wr HB.out
        have Hc := Lib.hid (H5.out j s hs1)
        have hSi := P1.out s hs2
        have hSy := P2.out s hs2
        rw [hfm] at hSy
        obtain ⟨A, hA⟩ : ∃ A, (afile d s).len = A := ⟨_, rfl⟩
        rw [hA] at hSi hSy hge
        have HSi := Lib.hid hSi
        have HSy := Lib.hid hSy
        have hlI : (j : Int) + 1 < (K : Int) := by omega
        have hjI : (j : Int) < (K : Int) := by omega
        have hj0 : (0 : Int) ≤ (j : Int) := by omega
        have hAs : ¬ A < sz := by omega
        have hAA : ((A : Int) != (A : Int)) = false := by simp
        clear hSi hSy hfm hA hs1 hs2 hge
        go_wp2_with fail
        go_region_held3 (fun w' => w'.cell? ⟨bf, of + j, none⟩ = some (.string s)) (first | exact x0 | exact SA | exact SB | exact SC | go_keep)
          (first
            | (go_at_call 14; (have hBd := HB.out.drew); ((with_reducible refine (HSi.out wr.drew hBd).mono ?_); rintro e wA ⟨rfl, hBA⟩; have SA := Hc.out wA hBA))
            | (go_at_call 31; ((with_reducible refine (HSy.out wA hBA).mono ?_); rintro e wB ⟨rfl, hBB⟩; have SB := Hc.out wB hBB))
            | (go_at_call 14; ((with_reducible refine (HSi.out wB hBB).mono ?_); rintro e wD ⟨rfl, hBD⟩; have SC := Hc.out wD hBD)))
        have HBD := Lib.hid hBD
        clear SA SB SC hBA hBB hBD x0 hAA hAs
        go_wp2
        go_roundw
        case rel => exact ⟨j + 1, by go_num, by omega, HBD.out⟩
        case measure => simp [intOf]; omega
      · have hlI : ¬ ((j : Int) + 1 < (K : Int)) := by omega
        go_wp2
        go_loopw [10, 11] (fun z i w2 => ∃ k : Nat, k ≤ n ∧ i = .int .i64 k ∧ z = .int .i64 (maxX (XL.take k) : Nat) ∧ Below w3.heap.size w3 w2) (fun _ i _ => n - (intOf i).toNat)
        case atStart => exact ⟨0, by omega, rfl, rfl, HB.out⟩
        case round =>
          obtain ⟨k, hk, rfl, rfl, hB2⟩ := hrel
          have HB2 := Lib.hid hB2
          clear hB2
          by_cases hkn : k < n
          · obtain ⟨bZ, oZ, e0, _, x1, xr⟩ := (HRA.out.below HB2.out).at k (by rw [HF.out.len]; exact hkn)
            cases e0
            obtain ⟨av, cv, hv⟩ := xr.shape
            rw [hv] at x1
            have hmx := maxX_take XL k (by rw [HF.out.len]; exact hkn)
            obtain ⟨bl, hbl⟩ : ∃ bl, (XL[k]'(by rw [HF.out.len]; exact hkn)).b.length = bl := ⟨_, rfl⟩
            rw [bcells_length, hbl] at x1
            rw [hbl] at hmx
            have hM1 := maxX_le HF.out.map HF.out.built.lens k
            have hM2 := maxX_le HF.out.map HF.out.built.lens (k + 1)
            obtain ⟨M1, hM1e⟩ : ∃ M, maxX (XL.take k) = M := ⟨_, rfl⟩
            obtain ⟨M2, hM2e⟩ : ∃ M, maxX (XL.take (k + 1)) = M := ⟨_, rfl⟩
            rw [hM1e] at hM1 hmx ⊢
            rw [hM2e] at hM2 hmx
            have hbl60 : bl ≤ 60 := by omega
            have hwb : IntKind.i64.wrap ((bl : Int) + 20) = (bl : Int) + 20 := IntWalk.i64_in _ (by omega)
            have hmxI : max (M1 : Int) ((bl : Int) + 20) = (M2 : Int) := by omega
            have hk0 : (0 : Int) ≤ (k : Int) := by omega
            have hk1 : (k : Int) < (n : Int) := by omega
            have HM2 := Lib.hid hM2e
            clear hM1e hM2e hmx hM1 hv xr hbl
            go_wp2
            go_roundw
            case rel => exact ⟨k + 1, by omega, by go_num, by rw [HM2.out], HB2.out⟩
            case measure => simp [intOf]; omega
          · obtain rfl : k = n := by omega
            have htk : XL.take k = XL := List.take_of_length_le (by rw [HF.out.len]; exact Nat.le_refl _)
            have hM := maxX_le HF.out.map HF.out.built.lens k
            have hge := maxX_ge HF.out.map
            rw [htk] at hM ⊢
            obtain ⟨M, hMe⟩ : ∃ M, maxX XL = M := ⟨_, rfl⟩
            rw [hMe] at hM hge ⊢
            have hsm : ∀ s ∈ al.names, (afile d s).len < sz + M := by
              intro s hs
              obtain ⟨b, hb1, hb2⟩ := HSz.out.small s hs
              have := hge b hb1
              omega
            have Hsm := Lib.hid hsm
            clear hsm hge htk hMe
            go_wp2
            go_loopw [12] (fun i w2 => ∃ t : Nat, t ≤ K ∧ i = .int .i64 t ∧ Below w3.heap.size w3 w2) (fun i _ => K - (intOf i).toNat)
            case atStart => exact ⟨0, by omega, rfl, HB2.out⟩
            case round =>
              obtain ⟨t, ht, rfl, hB3⟩ := hrel
              have HB3 := Lib.hid hB3
              clear hB3
              by_cases htn : t < K
              · obtain ⟨s, hs1, hs2⟩ := P3.out t htn
                have x0 := H5.out t s hs1 _ HB3.out
                have hSi := P1.out s hs2 _ HB3.out
                have hlt2 := Hsm.out s hs2
                obtain ⟨A, hA⟩ : ∃ A, (afile d s).len = A := ⟨_, rfl⟩
                rw [hA] at hSi hlt2
                have HSi := Lib.hid hSi
                have ht0 : (0 : Int) ≤ (t : Int) := by omega
                have ht1 : (t : Int) < (K : Int) := by omega
                have hwM : IntKind.i64.wrap ((sz : Int) + (M : Int)) = (sz : Int) + (M : Int) := IntWalk.i64_in _ (by omega)
                have hge1 : ¬ ((sz : Int) + (M : Int) ≤ (A : Int)) := by omega
                have hge2 : ¬ (sz + M ≤ A) := by omega
                clear hSi hA hs1 hs2 hlt2
                go_wp2_with fail
                refine HSi.out.mono ?_
                rintro e w5 ⟨rfl, hB5⟩
                go_wp2
                go_roundw
                case rel => exact ⟨t + 1, by omega, by go_num, hB5⟩
                case measure => simp [intOf]; omega
              · obtain rfl : t = K := by omega
                go_wp2_with fail
                refine (awake4_any _ (HE3.out.below HB3.out)).mono ?_
                rintro e w5 ⟨rfl, hB5⟩
                go_wp2
                go_ret
                exact ⟨rfl, Hfin3.out _ (HB3.out.trans (hB5.mono HB3.out.size))⟩
end Go.Proofs.YtbiadclmonakkaaGreatDoor
