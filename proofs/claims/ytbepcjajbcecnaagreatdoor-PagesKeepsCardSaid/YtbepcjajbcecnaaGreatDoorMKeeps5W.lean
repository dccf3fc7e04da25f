/-
  PagesKeeps: the walk.
-/
import Derived.Outline
import Derived.BigRegion
import Derived.Deep.CutRange
import Derived.Test.YtbepcjajbcecnaaGreatDoorMKee0
namespace Go.Proofs.YtbepcjajbcecnaaGreatDoor
open Go.RowKit Go.Maps Go.MapKept
set_option linter.unusedSimpArgs false

set_option maxRecDepth 100000 in
set_option maxHeartbeats 16000000 in
theorem keeps5_law (w : World) (hE : WEnv w) {va : Value} (L : List ALife5) (hL : LivesAt5 w va L) :
    Calls Tryz.prog 10 #[va] w fun e w' => e = .returned (.bool true) ∧ Below w.heap.size w w' := by
  have hLm := SliceOf.len_le hL
  obtain ⟨av, cv, rfl⟩ := SliceOf.shape hL
  obtain ⟨n, hn⟩ : ∃ n, L.length = n := ⟨_, rfl⟩
  rw [hn] at hL hLm ⊢
  obtain ⟨ex0, hex0⟩ : ∃ ex0 : Nat → Prop, ex0 = fun k => k < w.heap.size := ⟨_, rfl⟩
  have hx0 : ∀ k, ex0 k → k < w.heap.size := fun k hk => by rw [hex0] at hk; exact hk
  have hx1 : ∀ k, k < w.heap.size → ex0 k := fun k hk => by rw [hex0]; exact hk
  have Hx0 := Lib.hid (And.intro hx0 hx1)
  have HE := Lib.hid hE
  have HL := Lib.hid hL
  have Hn := Lib.hid hn
  clear hE hL hn hx0 hx1 hex0
  go_enter Tryz.func10, Tryz.ntmps10
  go_upto_region 5 with (go_at_call 21; refine (New_at (ex := ex0) 1048576 (by decide) (by decide) Hx0.out.1).mono ?_; generalize hp : w.heap.size + 1 = p; generalize hm : w.heap.size = m; rintro e w1 ⟨rfl, hD1, hK1⟩; clear hp hm)
  have hB2 : Below w1.heap.size w1 (w1.alloc (.cells #[.slice none 0 0, .slice none 0 0, .slice none 0 0, .slice none 0 0, .slice none 0 0, .slice none 0 0] 27)) := (Below.refl _ _).alloc (Nat.le_refl _) _
  have hb2 := alloc_at w1 (.cells #[.slice none 0 0, .slice none 0 0, .slice none 0 0, .slice none 0 0, .slice none 0 0, .slice none 0 0] 27)
  obtain ⟨B6, hB6⟩ : ∃ y, w1.heap.size = y := ⟨_, rfl⟩
  have hO2 : OutK w (w1.alloc (.cells #[.slice none 0 0, .slice none 0 0, .slice none 0 0, .slice none 0 0, .slice none 0 0, .slice none 0 0] 27)) B6 p m (fun k => ex0 k ∨ k = B6) (newD 1048576) (fun _ => none) nil6 :=
    ⟨fun k hk => Or.inl (Hx0.out.2 k hk), Or.inr rfl, hD1.more hB2 (fun k hk => hk.imp id (fun h => ⟨by omega, by simp; omega⟩)), (hK1.below (fun k h => Hx0.out.2 k h)).trans (hB2.mono hK1.size), by rw [← hB6]; exact hb2, kept_nil _, fun j v hv g hg => (own_nil j v hv g hg).elim⟩
  have hw6 : w.heap.size ≤ B6 := by rw [← hB6]; exact hK1.size
  have HO2 := Lib.hid hO2
  clear hD1 hK1 hB2 hb2 hO2
  go_upto_region 6 with fail
  (try rw [hB6])
  go_upto_region 7 with fail
  clear hB6
  go_loopw [5, 7, 8, 9, 10, 11, 12, 13, 14, 15, 16, 17] (fun av iv _ _ _ _ _ _ _ _ _ _ wr => ∃ (i at_ : Nat) (exX : Nat → Prop) (d : ADisk) (T : Nat → Option (List UInt8)) (vsT : List Value), i ≤ 6 ∧ i ≤ n ∧ iv = .int .i64 i ∧ av = .int .i64 at_ ∧ OutK w wr B6 p m exX d T vsT ∧ At5 d at_ T ∧ d.down = false ∧ d.left = -1 ∧ Small5 T ∧ at_ ≤ 30 * i) (fun _ iv _ _ _ _ _ _ _ _ _ _ _ => 6 - (intOf iv).toNat)
  case atStart => exact ⟨0, 0, _, _, _, _, by omega, by omega, rfl, rfl, HO2.out, at5_new _, rfl, rfl, fun i b h => (by cases h), by omega⟩
  case round =>
    obtain ⟨i, at_, exX, d, T, vsT, hi6, hin, rfl, rfl, hO, hA, hdn, hlf, hsT, hat⟩ := hrel
    obtain ⟨wo, rfl⟩ : ∃ x, x = wr := ⟨_, rfl⟩
    have HO := Lib.hid hO
    have HA := Lib.hid (And.intro hA (And.intro hdn (And.intro hlf hsT)))
    clear hO hA hdn hlf hsT HO2
    by_cases hlt : i < n ∧ i < 6
    · obtain ⟨hl1, hl2⟩ := hlt
      obtain ⟨bl, ol, hel, hbl, hok, y0, y1, y2, y3, y4⟩ := HL.out.at HO.out.bel i (by rw [Hn.out]; exact hl1)
      cases hel
      obtain ⟨x, hx⟩ : ∃ x, L[i]'(by rw [Hn.out]; exact hl1) = x := ⟨_, rfl⟩
      rw [hx] at hok y0 y1 y2 y3 y4
      obtain ⟨vk, keys, vb, rows, vac, acts, arm, vp, keeps⟩ := x
      simp only at y0 y1 y2 y3 y4
      have hkr := hok.keys
      have hrr := hok.rows
      have har := hok.acts
      have hpr := hok.keeps
      simp only at hkr hrr har hpr
      obtain ⟨a1, c1, rfl⟩ := hkr.shape
      obtain ⟨a2, c2, rfl⟩ := SliceOf.shape hrr
      obtain ⟨a3, c3, rfl⟩ := har.shape
      obtain ⟨a4, c4, rfl⟩ := hpr.shape
      simp only [iCells_length] at hkr har hpr y0 y2 y4
      have l1I : (i : Int) < (n : Int) := by omega
      have l2I : (i : Int) < 6 := by omega
      have l0I : (0 : Int) ≤ (i : Int) := by omega
      have Hok := Lib.hid hok
      have Hr := Lib.hid (And.intro hkr (And.intro hrr (And.intro har hpr)))
      clear hok hkr hrr har hpr hx
      -- the life's copy
      obtain ⟨w2, hw2⟩ : ∃ y, wo.alloc (.cells #[.slice a1 keys.length c1, .slice a2 rows.length c2, .slice a3 acts.length c3, .int .i64 arm, .slice a4 keeps.length c4] 89) = y := ⟨_, rfl⟩
      have hb8 : w2.heap[wo.heap.size]? = some (.cells #[.slice a1 keys.length c1, .slice a2 rows.length c2, .slice a3 acts.length c3, .int .i64 arm, .slice a4 keeps.length c4] 89 (0, 0)) := by rw [← hw2]; exact alloc_at _ _
      have hB2 : Below wo.heap.size wo w2 := by rw [← hw2]; exact (Below.refl _ _).alloc (Nat.le_refl _) _
      have hs2 : w2.heap.size = wo.heap.size + 1 := by rw [← hw2]; simp
      obtain ⟨B8, hB8⟩ : ∃ y, wo.heap.size = y := ⟨_, rfl⟩
      rw [hB8] at hb8
      have h68 : B6 ≠ B8 := fun e => by have := HO.out.disk.lt HO.out.x6; omega
      have hO2 := HO.out.more (exY := fun k => exX k ∨ k = B8) hB2 (fun k hk => Or.inl hk) (fun k hk => hk.imp id (fun h => ⟨by omega, by omega⟩))
      obtain ⟨ex1, hex1⟩ : ∃ ex1 : Nat → Prop, ex1 = fun k => exX k ∨ k = B8 := ⟨_, rfl⟩
      rw [← hex1] at hO2
      have x8 : ex1 B8 := by rw [hex1]; exact Or.inr rfl
      have hG1 : GlIn ex1 := ⟨hO2.low _ HE.out.lt.tab, hO2.low _ HE.out.lt.syn, hO2.low _ HE.out.lt.rng⟩
      obtain ⟨d', st, po, hlf, hsk, hl', _⟩ := HA.out.1.open HA.out.2.1 HA.out.2.2.1 hat HA.out.2.2.2
      have hOp := pgOpen_at hO2.disk (HE.out.below hO2.bel) hG1 (at_ : Int) (by unfold isI64; omega)
      rw [po] at hOp
      unfold OpenPost at hOp
      simp only [if_true] at hOp
      have H2 := Lib.hid (And.intro hO2 (And.intro hb8 hw2))
      have HOp := Lib.hid hOp
      have Hlf := Lib.hid (And.intro hlf hsk)
      have HB8 := Lib.hid hB8
      clear hO2 hb8 hB2 hs2 hex1 hOp hlf hsk hw2 hB8 po
      go_upto_region 10 with fail
      rw [H2.out.2.2, HB8.out]
      clear y0 y1 y2 y3 y4
      go_upto_region 11 with (go_at_call 16; refine HOp.out.mono ?_; rintro e w3 ⟨q, rfl, hS3, hK3, _⟩; have H3 := Lib.hid (And.intro hS3 hK3); clear hS3 hK3)
      have hkT3 := H2.out.1.kT.keep H3.out.2 (fun j v hv g hg => (H2.out.1.oT j v hv g hg).1)
      have hb63 := (H3.out.2.block _ H2.out.1.x6).trans H2.out.1.b6
      obtain ⟨a10, n10, c10, a11, n11, c11, a12, n12, c12, a13, n13, c13, a14, n14, c14, a15, n15, c15, hvs⟩ := hkT3.six
      have hHas := has5_yes H3.out.1 Hlf.out.1.sits.ok Hlf.out.1.now hkT3
      rw [hvs] at hHas hb63
      obtain ⟨⟨b0, b1, b2, b3, b4, b5⟩, _⟩ := cells6 hb63
      have hNum := pgNumber_at H3.out.1
      rw [Hlf.out.2] at hNum
      have HHas := Lib.hid hHas
      have HNum := Lib.hid hNum
      have Hvs := Lib.hid hvs
      clear hHas hNum hkT3 hvs
      go_upto_region 13 with first
        | (go_at_call 17; refine HNum.out.mono ?_; rintro e w4' ⟨rfl, rfl⟩)
        | (go_at_call 13; refine HHas.out.mono ?_; rintro e w4 ⟨rfl, hB4⟩; have H4 := Lib.hid (And.intro (H3.out.1.below hB4) (H3.out.2.trans (Keep.ofBelow hB4 (fun k hk => H3.out.1.lt hk)))); have hb64 := (hB4.block _ (blk_lt hb63)).trans hb63; clear hB4)
      clear b0 b1 b2 b3 b4 b5 hb63
      obtain ⟨⟨b0, b1, b2, b3, b4, b5⟩, _⟩ := cells6 hb64
      obtain ⟨w5, hw5⟩ : ∃ y, w4.alloc (.cells #[.slice a10 n10 c10, .slice a11 n11 c11, .slice a12 n12 c12, .slice a13 n13 c13, .slice a14 n14 c14, .slice a15 n15 c15] 27) = y := ⟨_, rfl⟩
      obtain ⟨B11, hB11⟩ : ∃ y, w4.heap.size = y := ⟨_, rfl⟩
      obtain ⟨ex2, hex2⟩ : ∃ ex2 : Nat → Prop, ex2 = fun k => ex1 k ∨ k = B11 := ⟨_, rfl⟩
      have hK5 : StK w w5 B6 B8 B11 q p m ex2 d' st [.slice a1 keys.length c1, .slice a2 rows.length c2, .slice a3 acts.length c3, .int .i64 arm, .slice a4 keeps.length c4] T vsT T vsT := by
        rw [hex2]
        exact StK.enter H2.out.1 H4.out.1 H4.out.2 H2.out.2.1 x8 h68 hw6 hB11 (by rw [Hvs.out]; exact hw5)
      have HK5 := Lib.hid hK5
      have Hw5 := Lib.hid hw5
      have HB11 := Lib.hid hB11
      clear hK5 hw5 hB11 hex2 hb64
      go_upto_region 14 with fail
      clear b0 b1 b2 b3 b4 b5
      rw [Hw5.out, HB11.out]
      have z3 : w5.cell? ⟨B8, 3, none⟩ = some (.int .i64 arm) := by rw [cell_at HK5.out.b8]; rfl
      obtain ⟨zz, hzz⟩ : ∃ z, pickI arm 80 = z := ⟨_, rfl⟩
      have hzb := pickI_lt arm 80 (by omega)
      rw [hzz] at hzb
      have hPk := fun wX => Pick_any wX arm 80 (by unfold isI64; omega)
      rw [hzz] at hPk
      have hAr := arm_by zz HK5.out.sto (by omega) (by omega)
      have HPk := Lib.hid hPk
      have HAr := Lib.hid hAr
      clear hPk hAr hzz
      go_upto_region 16 with first
        | (go_at_call 22; refine (HPk.out _).mono ?_; rintro e w6' ⟨rfl, rfl⟩)
        | (go_at_call 34; refine HAr.out.mono ?_; rintro e w6 ⟨rfl, hS6, hK6⟩; have H6 := Lib.hid (HK5.out.step hS6 hK6); clear hS6 hK6)
      clear z3
      have hR6 : Run5 (d'.arm zz) st at_ T T (30 * i) := (Hlf.out.1.arm zz).run HA.out.2.2.2 HA.out.2.2.2
      have HR6 := Lib.hid hR6
      clear hR6
      go_loopw [5, 12, 13, 14, 15, 16, 17] (fun av kv _ _ _ _ _ wk => ∃ (k a : Nat) (exY : Nat → Prop) (d : ADisk) (st : AStore) (T : Nat → Option (List UInt8)) (vsT : List Value) (N : Nat → Option (List UInt8)) (vsN : List Value), k ≤ 25 ∧ kv = .int .i64 k ∧ av = .int .i64 a ∧ StK w wk B6 B8 B11 q p m exY d st [.slice a1 keys.length c1, .slice a2 rows.length c2, .slice a3 acts.length c3, .int .i64 arm, .slice a4 keeps.length c4] T vsT N vsN ∧ Run5 d st a T N (30 * i + k)) (fun _ kv _ _ _ _ _ _ => 25 - (intOf kv).toNat)
      case atStart => exact ⟨0, at_, _, _, _, _, _, _, _, by omega, rfl, rfl, H6.out, HR6.out⟩
      case round =>
        obtain ⟨k, a, exY, dk, sk, Tk, vsTk, Nk, vsNk, hk25, rfl, rfl, hS, hR⟩ := hrel
        obtain ⟨wk, rfl⟩ : ∃ x, x = wr := ⟨_, rfl⟩
        have HS := Lib.hid hS
        have HR := Lib.hid hR
        clear hS hR H6 HR6 HK5 HAr HPk H4 H3 HNum HHas HOp Hlf H2 HO HA
        have hGY : GlIn exY := ⟨HS.out.low _ HE.out.lt.tab, HS.out.low _ HE.out.lt.syn, HS.out.low _ HE.out.lt.rng⟩
        have z8 : ∀ wX : World, wX.heap[B8]? = some (.cells #[.slice a1 keys.length c1, .slice a2 rows.length c2, .slice a3 acts.length c3, .int .i64 arm, .slice a4 keeps.length c4] 89 (0, 0)) → wX.cell? ⟨B8, 0, none⟩ = some (.slice a1 keys.length c1) ∧ wX.cell? ⟨B8, 1, none⟩ = some (.slice a2 rows.length c2) ∧ wX.cell? ⟨B8, 2, none⟩ = some (.slice a3 acts.length c3) ∧ wX.cell? ⟨B8, 3, none⟩ = some (.int .i64 arm) ∧ wX.cell? ⟨B8, 4, none⟩ = some (.slice a4 keeps.length c4) := fun wX h => ⟨(cell_at h 0).trans rfl, (cell_at h 1).trans rfl, (cell_at h 2).trans rfl, (cell_at h 3).trans rfl, (cell_at h 4).trans rfl⟩
        have Hz8 := Lib.hid z8
        obtain ⟨u0, u1, u2, u3, u4⟩ := z8 wk HS.out.b8
        clear z8
        obtain ⟨bc, hbc⟩ : ∃ b, decide (k < keys.length ∧ k < 25 ∧ k < rows.length ∧ k < acts.length ∧ sk.over = false) = b := ⟨_, rfl⟩
        have hOv := pgOver_at HS.out.sto
        obtain ⟨ov, hov⟩ : ∃ b, sk.over = b := ⟨_, rfl⟩
        rw [hov] at hOv hbc
        have HOv := Lib.hid hOv
        have Hov := Lib.hid hov
        clear hOv hov
        go_upto_region 16 with fail
        go_cut [93] from 66 to 165 (fun bv wx => bv = .bool bc ∧ wx = wk)
        case first =>
          --<
          by_cases q1 : k < keys.length
          · have q1I : (k : Int) < (keys.length : Int) := by omega
            by_cases q2 : k < 25
            · have q2I : (k : Int) < 25 := by omega
              by_cases q3 : k < rows.length
              · have q3I : (k : Int) < (rows.length : Int) := by omega
                by_cases q4 : k < acts.length
                · have q4I : (k : Int) < (acts.length : Int) := by omega
                  have hbc2 : bc = !ov := by rw [← hbc]; cases ov <;> simp [q1, q2, q3, q4]
                  clear hbc
                  go_wp2_with (go_at_call 30; refine HOv.out.mono ?_; rintro e w7' ⟨rfl, rfl⟩)
                  go_meet
                  case rel => first | exact ⟨by rw [hbc2], rfl⟩ | ((repeat apply Exists.intro); exact ⟨⟨by rw [hbc2], rfl⟩, rfl⟩)
                · have q4I : ¬ (k : Int) < (acts.length : Int) := by omega
                  rw [decide_eq_false (fun h => q4 h.2.2.2.1)] at hbc
                  subst hbc
                  go_wp2_with fail
                  go_meet
                  case rel => first | exact ⟨rfl, rfl⟩ | ((repeat apply Exists.intro); exact ⟨⟨rfl, rfl⟩, rfl⟩)
              · have q3I : ¬ (k : Int) < (rows.length : Int) := by omega
                rw [decide_eq_false (fun h => q3 h.2.2.1)] at hbc
                subst hbc
                go_wp2_with fail
                go_meet
                case rel => first | exact ⟨rfl, rfl⟩ | ((repeat apply Exists.intro); exact ⟨⟨rfl, rfl⟩, rfl⟩)
            · have q2I : ¬ (k : Int) < 25 := by omega
              rw [decide_eq_false (fun h => q2 h.2.1)] at hbc
              subst hbc
              go_wp2_with fail
              go_meet
              case rel => first | exact ⟨rfl, rfl⟩ | ((repeat apply Exists.intro); exact ⟨⟨rfl, rfl⟩, rfl⟩)
          · have q1I : ¬ (k : Int) < (keys.length : Int) := by omega
            rw [decide_eq_false (fun h => q1 h.1)] at hbc
            subst hbc
            go_wp2_with fail
            go_meet
            case rel => first | exact ⟨rfl, rfl⟩ | ((repeat apply Exists.intro); exact ⟨⟨rfl, rfl⟩, rfl⟩)
          -->
        case rest =>
          obtain ⟨rfl, rfl⟩ := hcut
          obtain ⟨wl, rfl⟩ : ∃ x, x = wc := ⟨_, rfl⟩
          cases bc with
          | true =>
            --<
            obtain ⟨q1, q2, q3, q4, q5⟩ := of_decide_eq_true hbc
            have q1I : (k : Int) < (keys.length : Int) := by omega
            have q3I : (k : Int) < (rows.length : Int) := by omega
            have q4I : (k : Int) < (acts.length : Int) := by omega
            have hk0 : (0 : Int) ≤ (k : Int) := by omega
            have hlv : sk.over = false := by rw [Hov.out]; exact q5
            have hlf : Lf5 dk sk a Tk Nk (30 * i + k) := by
              rcases HR.out.so with h | h
              · exact h.2
              · rw [hlv] at h; cases h
            have hbl : Below w.heap.size w wl := HS.out.bel
            -- the key, the act
            obtain ⟨bk, okk, hek, hck⟩ := (Hr.out.1).at k (by rw [iCells_length]; exact q1)
            cases hek
            obtain ⟨zk, hzk⟩ : ∃ z, keys[k] = z := ⟨_, rfl⟩
            have hck2 : (iCells keys)[k]'(by rw [iCells_length]; exact q1) = .int .i64 zk := by simp [iCells, hzk]
            rw [hck2] at hck
            obtain ⟨ba, oka, hea, hca⟩ := (Hr.out.2.2.1).at k (by rw [iCells_length]; exact q4)
            cases hea
            obtain ⟨za, hza⟩ : ∃ z, acts[k] = z := ⟨_, rfl⟩
            have hca2 : (iCells acts)[k]'(by rw [iCells_length]; exact q4) = .int .i64 za := by simp [iCells, hza]
            rw [hca2] at hca
            have cc1 : wl.drew.cell? ⟨B8, 0, none⟩ = some (.slice (some ⟨bk, okk, none⟩) keys.length c1) ∧ wl.drew.cell? ⟨bk, okk + k, none⟩ = some (.int .i64 zk) ∧ wl.drew.cell? ⟨B8, 2, none⟩ = some (.slice (some ⟨ba, oka, none⟩) acts.length c3) ∧ wl.drew.cell? ⟨ba, oka + k, none⟩ = some (.int .i64 za) :=
              ⟨u0, (hbl.cell (p := ⟨bk, okk + k, none⟩) (cell_lt hck)).trans hck, u2, (hbl.cell (p := ⟨ba, oka + k, none⟩) (cell_lt hca)).trans hca⟩
            obtain ⟨kp0, kp1⟩ := pickI_lt zk 6 (by omega)
            obtain ⟨kk, hkk⟩ : ∃ k : Nat, pickI zk 6 = k := ⟨(pickI zk 6).toNat, by omega⟩
            obtain ⟨aa, haa⟩ : ∃ z : Int, pickI za 1000003 = z := ⟨_, rfl⟩
            have hPk := fun wX => Pick_any wX zk 6 (by unfold isI64; omega)
            have hPa := fun wX => Pick_any wX za 1000003 (by unfold isI64; omega)
            rw [hkk] at hPk kp0 kp1
            rw [haa] at hPa
            have hkk6 : kk < 6 := by omega
            have hkI : (kk : Int) < 6 := by omega
            have hkk0 : (0 : Int) ≤ (kk : Int) := by omega
            have HPk2 := Lib.hid hPk
            have HPa2 := Lib.hid hPa
            have Hlf2 := Lib.hid hlf
            have Hbl := Lib.hid hbl
            clear hPk hPa hkk haa hck hck2 hca hca2 hzk hza hbc hlf hbl HOv kp0 kp1
            go_upto_region 18 with fail
            go_region_held3 (fun w'' => w''.cell? ⟨B8, 0, none⟩ = some (.slice (some ⟨bk, okk, none⟩) keys.length c1) ∧ w''.cell? ⟨bk, okk + k, none⟩ = some (.int .i64 zk) ∧ w''.cell? ⟨B8, 2, none⟩ = some (.slice (some ⟨ba, oka, none⟩) acts.length c3) ∧ w''.cell? ⟨ba, oka + k, none⟩ = some (.int .i64 za)) (first | with_reducible exact cc1 | go_keep)
              (first
                | (go_at_call 22; (with_reducible refine (HPk2.out _).mono ?_); rintro e w7 ⟨rfl, rfl⟩)
                | (go_at_call 22; (with_reducible refine (HPa2.out _).mono ?_); rintro e w8 ⟨rfl, rfl⟩))
            clear cc1 u0 u1 u2 u3 u4
            have hSm := HS.out.below (w2 := wl.drew) ((Below.refl _ _).drew)
            obtain ⟨wm, hwm⟩ : ∃ y, wl.drew = y := ⟨_, rfl⟩
            rw [hwm] at hSm ⊢
            clear hwm
            have HSm := Lib.hid hSm
            obtain ⟨u0, u1, u2, u3, u4⟩ := Hz8.out wm hSm.b8
            clear hSm
            obtain ⟨bb, ob, vbb, heb, hblt, hcb, hrdb, hownb⟩ := (Hr.out.2.1).at HSm.out.bel k q3
            cases heb
            obtain ⟨xb, hxb⟩ : ∃ z, rows[k] = z := ⟨_, rfl⟩
            rw [hxb] at hrdb hownb
            obtain ⟨ab, cb, rfl⟩ := hrdb.shape
            rw [bcells_length] at hrdb hownb hcb
            have Hrdb := Lib.hid (And.intro hrdb hownb)
            clear hrdb hownb hxb hblt
            by_cases h30 : 30 < xb.length
            · have h30I : (30 : Int) < (xb.length : Int) := by omega
              go_wp2_with fail
              go_roundw
              case rel => exact ⟨k + 1, a, exY, dk, sk, Tk, vsTk, Nk, vsNk, by omega, by go_num, rfl, HSm.out, HR.out.more (by omega)⟩
              case measure => simp [intOf]; omega
            · have h30I : ¬ (30 : Int) < (xb.length : Int) := by omega
              go_upto_if 118 with fail
              have Hq := Lib.hid (And.intro hat (And.intro hlv h68))
              clear hcb u0 u1 u2 u3 u4 hlv q5 q1I q3I q4I hat h68 hk0
              go_cut [] from 118 to 133 (fun wx => ∃ (exZ : Nat → Prop) (st1 : AStore) (N1 : Nat → Option (List UInt8)) (vsN1 : List Value), StK w wx B6 B8 B11 q p m exZ dk st1 [.slice (some ⟨bk, okk, none⟩) keys.length c1, .slice (some ⟨bb, ob, none⟩) rows.length c2, .slice (some ⟨ba, oka, none⟩) acts.length c3, .int .i64 arm, .slice a4 keeps.length c4] Tk vsTk N1 vsN1 ∧ Lf5 dk st1 a Tk N1 (30 * i + k) ∧ Small5 N1)
              case first =>
                have hsz : (nm6 kk).size ≤ maxLen := by have : (nm6 kk).size = 1 := rfl; simp only [maxLen]; omega
                by_cases h0 : xb = []
                · subst h0
                  obtain ⟨hdp, hlf2⟩ := Hlf2.out.drop hkk6
                  have hD := drop_by 0 HSm.out.sto Hlf2.out.sits.ok hsz hdp
                  have HD := Lib.hid hD
                  have H2 := Lib.hid (And.intro hlf2 (small_drop HR.out.smN (key := kk)))
                  clear hD hdp hlf2 h30 h30I
                  go_wp2_with first
                    | (go_at_call 24; refine (name5_any _ kk hkk6).mono ?_; rintro e w7 ⟨rfl, rfl⟩)
                    | (go_at_call 29; refine HD.out.mono ?_; rintro e w8 ⟨rfl, hS8, hK8⟩; have hz := HSm.out.step hS8 hK8; obtain ⟨⟨v8, z8⟩, f8⟩ := hz.cell11 hkk6; have Hz := Lib.hid hz; clear hz hS8 hK8)
                  have Hz2 := Lib.hid (Hz.out.note (key := kk) (v := .slice none 0 0) (o := none) hkk6 rfl (fun g hg => by cases hg))
                  go_meet
                  case rel => exact ⟨exY, _, _, _, Hz2.out, H2.out.1, H2.out.2⟩
                · have hx0 : 0 < xb.length := by cases xb with | nil => exact absurd rfl h0 | cons _ _ => simp
                  have hq0 : ((xb.length : Int) == 0) = false := by simp; exact h0
                  obtain ⟨hdp, hlf2⟩ := Hlf2.out.put hkk6 (b := xb) (by omega)
                  have hD := put_by 0 HSm.out.sto Hlf2.out.sits.ok hsz Hrdb.out.1 (by omega) hdp
                  have HD := Lib.hid hD
                  have H2 := Lib.hid (And.intro hlf2 (small_put HR.out.smN (key := kk) (b := xb) (by omega)))
                  have hown : ∀ g, (Value.slice ab xb.length cb).ownBlock = some g → g < w.heap.size := fun g hg => Hrdb.out.2 g hg h0
                  have Hown := Lib.hid hown
                  clear hD hdp hlf2 hown
                  go_wp2_with first
                    | (go_at_call 24; refine (name5_any _ kk hkk6).mono ?_; rintro e w7 ⟨rfl, rfl⟩)
                    | (go_at_call 23; refine HD.out.mono ?_; rintro e w8 ⟨rfl, hS8, hK8⟩; have hz := HSm.out.step hS8 hK8; have hr8 := hK8.rd Hrdb.out.1 (fun g hg => HSm.out.low g (Hown.out g hg)); have Hz := Lib.hid (And.intro hz hr8); clear hz hS8 hK8 hr8)
                    | (go_at_call 39; refine (copyB_any w8 _ xb Hz.out.2 (by omega)).mono ?_; rintro e w9 ⟨a9, c9, rfl, hrow, hB9⟩; obtain ⟨ad, rfl⟩ := row_some hrow hx0; have hz9 := Hz.out.1.more (exY := fun k => exY k ∨ (Value.slice (some ad) xb.length c9).ownBlock = some k) hB9 (fun k hk => Or.inl hk) (fun k hk => hk.imp id (fun h => ⟨row_from hrow h, row_lt hrow h⟩)); obtain ⟨⟨v9, z9⟩, f9⟩ := hz9.cell11 hkk6; have Hz9 := Lib.hid hz9; have Hr9 := Lib.hid hrow; clear hz9 hrow hB9)
                  have Hz10 := Lib.hid (Hz9.out.note (key := kk) (o := some xb) (v := .slice (some ad) xb.length c9) hkk6 ⟨ad, c9, rfl, Rd.ofOwns Hr9.out, by omega⟩ (fun g hg => ⟨Or.inr hg, by have h1 := row_from Hr9.out hg; have h2 := blk_lt Hz.out.1.b6; omega, by have h1 := row_from Hr9.out hg; have h2 := blk_lt Hz.out.1.b11; omega⟩))
                  go_meet
                  case rel => exact ⟨_, _, _, _, Hz10.out, H2.out.1, H2.out.2⟩
              case rest =>
                obtain ⟨exZ, s1, N1, vsN1, hS1, hlf1, hsm1⟩ := hcut
                obtain ⟨wf, rfl⟩ : ∃ x, x = wc := ⟨_, rfl⟩
                have HS1 := Lib.hid hS1
                have Hlf1 := Lib.hid (And.intro hlf1 hsm1)
                clear hS1 hlf1 hsm1 HSm Hrdb
                have hGZ : GlIn exZ := ⟨HS1.out.low _ HE.out.lt.tab, HS1.out.low _ HE.out.lt.syn, HS1.out.low _ HE.out.lt.rng⟩
                obtain ⟨d0, m0, e0, d1, m1, e1, d2, m2, e2, d3, m3, e3, d4, m4, e4, d5, m5, e5, rfl⟩ := HS1.out.kN.six
                obtain ⟨⟨g0, g1, g2, g3, g4, g5⟩, _⟩ := cells6 HS1.out.b11
                have hHas := has5_yes HS1.out.sto Hlf1.out.1.sits.ok Hlf1.out.1.now HS1.out.kN
                have HHas := Lib.hid hHas
                clear hHas
                go_upto_region 28 with (go_at_call 13; refine HHas.out.mono ?_; rintro e wh ⟨rfl, hBh⟩; have HSh := Lib.hid (HS1.out.below hBh); clear hBh)
                clear g0 g1 g2 g3 g4 g5 HHas HS1
                by_cases h3 : aa.tmod 3 = 0
                · have h3b : (aa.tmod 3 != 0) = false := by simp [h3]
                  have h3c : (aa.tmod 3 == 0) = true := by simp [h3]
                  have H3 := Lib.hid h3
                  clear h3
                  have hEh : WEnv wh := HE.out.below HSh.out.bel
                  rcases Hlf1.out.1.commits (by omega) HR.out.smT Hlf1.out.2 with ⟨d', s2, pc, hk2, r1, r2, ok2, hk9, dF, out, fe, pf, rF⟩ | ⟨d', er, e0', pc, r1⟩
                  · obtain ⟨nn, hnn⟩ : ∃ y, s1.k + 1 = y := ⟨_, rfl⟩
                    rw [hnn] at pc hk2 r2 hk9 rF
                    have hC := commit_by2 0 HSh.out.sto Hlf1.out.1.sits.ok hEh hGZ pc
                    have hn1 : ¬ (nn : Int) < 1 := by omega
                    have HC := Lib.hid hC
                    have HP := Lib.hid (And.intro r1 (And.intro r2 (And.intro ok2 (And.intro pf rF))))
                    have Hk2 := Lib.hid hk2
                    clear hC pc hk2 r1 r2 ok2 pf rF hnn hEh
                    go_upto_region 33 with first
                      | (go_at_call 14; refine HC.out.mono ?_; rintro e wp ⟨rfl, hSp, hKp⟩; have HSp := Lib.hid (HSh.out.step hSp hKp); clear hSp hKp)
                      | (go_at_call 17; refine (pgNumber_at HSp.out.sto).mono ?_; rw [Hk2.out]; rintro e wp' ⟨rfl, rfl⟩)
                    clear HC HSh
                    by_cases h2 : aa.tmod 2 = 0
                    · have h2b : (aa.tmod 2 == 0) = true := by simp [h2]
                      clear h2
                      obtain ⟨t0, k0, f0, t1, k1, f1, t2, k2, f2, t3, k3, f3, t4, k4, f4, t5, k5, f5, hvT⟩ := HSp.out.kT.six
                      have hb6 := HSp.out.b6
                      rw [hvT] at hb6
                      obtain ⟨⟨g0, g1, g2, g3, g4, g5⟩, _⟩ := cells6 (w := wp) HSp.out.b11
                      obtain ⟨⟨g0d, g1d, g2d, g3d, g4d, g5d⟩, _⟩ := cells6 (w := wp.drew) HSp.out.b11
                      obtain ⟨⟨x0, x1, x2, x3, x4, x5⟩, z0, z1, z2, z3, z4, z5⟩ := cells6 (w := wp) hb6
                      obtain ⟨⟨x0d, x1d, x2d, x3d, x4d, x5d⟩, z0d, z1d, z2d, z3d, z4d, z5d⟩ := cells6 (w := wp.drew) hb6
                      obtain ⟨wF, hF1, hF2, hF3⟩ : ∃ x, x = ((((((wp.setCell ⟨B6, 0, none⟩ (.slice d0 m0 e0)).setCell ⟨B6, 1, none⟩ (.slice d1 m1 e1)).setCell ⟨B6, 2, none⟩ (.slice d2 m2 e2)).setCell ⟨B6, 3, none⟩ (.slice d3 m3 e3)).setCell ⟨B6, 4, none⟩ (.slice d4 m4 e4)).setCell ⟨B6, 5, none⟩ (.slice d5 m5 e5)) ∧ x.heap[B6]? = some (.cells #[.slice d0 m0 e0, .slice d1 m1 e1, .slice d2 m2 e2, .slice d3 m3 e3, .slice d4 m4 e4, .slice d5 m5 e5] 27 (0, 0)) ∧ Upd (· = B6) wp x := ⟨_, rfl, (set6 hb6 _ _ _ _ _ _).1, (set6 hb6 _ _ _ _ _ _).2⟩
                      have hTold := HSp.out.told (w2 := wF.drew) hF3.drew hF2
                      have HTold := Lib.hid hTold
                      have HF := Lib.hid hF1
                      clear hTold hF1 hF2 hF3 hb6 hvT
                      go_upto_region 34 with fail
                      go_region
                      all_goals
                        rw [← HF.out]
                        clear g0 g1 g2 g3 g4 g5 g0d g1d g2d g3d g4d g5d x0 x1 x2 x3 x4 x5 x0d x1d x2d x3d x4d x5d z0 z1 z2 z3 z4 z5 z0d z1d z2d z3d z4d z5d
                        by_cases h4 : aa.tmod 4 = 0
                        · have h4b : (aa.tmod 4 == 0) = true := by simp [h4]
                          clear h4
                          have hFr := free_by fe HTold.out.sto (HE.out.below HTold.out.bel) hGZ HP.out.2.2.2.1
                          have HFr := Lib.hid hFr
                          clear hFr
                          go_wp2_with (go_at_call 19; refine HFr.out.mono ?_; rintro e wz ⟨az, cz, rfl, _, hSz, hKz⟩; have HSz := Lib.hid (HTold.out.step (hSz.mono (fun k hk => Or.inl hk)) hKz); clear hSz hKz)
                          go_roundw
                          case rel => exact ⟨k + 1, nn, exZ, dF, s2.ends fe, N1, _, N1, _, by omega, by go_num, rfl, HSz.out, HP.out.2.2.2.2⟩
                          case measure => simp [intOf]; omega
                        · have h4b : (aa.tmod 4 == 0) = false := by simpa using h4
                          clear h4
                          go_wp2_with fail
                          go_roundw
                          case rel => exact ⟨k + 1, nn, exZ, d', s2, N1, _, N1, _, by omega, by go_num, rfl, HTold.out, HP.out.2.1⟩
                          case measure => simp [intOf]; omega
                    · have h2b : (aa.tmod 2 == 0) = false := by simpa using h2
                      clear h2
                      go_wp2_with fail
                      go_roundw
                      case rel => exact ⟨k + 1, a, exZ, d', s2, Tk, vsTk, N1, _, by omega, by go_num, rfl, HSp.out, HP.out.1⟩
                      case measure => simp [intOf]; omega
                  · have e0b : (er != 0) = true := by simpa using e0'
                    have hC := commit_by2 er HSh.out.sto Hlf1.out.1.sits.ok hEh hGZ pc
                    have HC := Lib.hid hC
                    have HP := Lib.hid r1
                    clear hC pc r1 e0' hEh
                    go_wp2_with (go_at_call 14; refine HC.out.mono ?_; rintro e wp ⟨rfl, hSp, hKp⟩; have HSp := Lib.hid (HSh.out.step hSp hKp); clear hSp hKp)
                    go_roundw
                    case rel => exact ⟨k + 1, a, exZ, d', s1.ends er, Tk, vsTk, N1, _, by omega, by go_num, rfl, HSp.out, HP.out⟩
                    case measure => simp [intOf]; omega
                · have h3b : (aa.tmod 3 != 0) = true := by simpa using h3
                  have h3c : (aa.tmod 3 == 0) = false := by simpa using h3
                  clear h3
                  go_wp2_with fail
                  go_roundw
                  case rel => exact ⟨k + 1, a, exZ, dk, s1, Tk, vsTk, N1, _, by omega, by go_num, rfl, HSh.out, (Hlf1.out.1.run HR.out.smT Hlf1.out.2).more (by omega)⟩
                  case measure => simp [intOf]; omega
            -->
          | false =>
            clear hbc HOv
            have hCr := Crash_at5 (.slice a4 keeps.length c4) keeps HS.out.sto.disk HS.out.bel HS.out.low Hr.out.2.2.2 Hok.out.keepsL Hok.out.keepsI
            have HCr := Lib.hid hCr
            clear hCr
            go_wp2_with (go_at_call 40; refine HCr.out.mono ?_; rintro e wz ⟨rfl, hDz, hKz⟩; have HOz := Lib.hid (HS.out.out hDz hKz); clear hDz hKz)
            go_roundw
            case rel => exact ⟨i + 1, a, exY, dk.crash keeps, Tk, vsTk, by omega, by omega, by go_num, rfl, HOz.out, HR.out.at5.crash keeps, rfl, rfl, HR.out.smT, by have := HR.out.le; omega⟩
            case measure => simp [intOf]; omega
    · have hend : ¬ (i : Int) < (n : Int) ∨ ((i : Int) < (n : Int) ∧ ¬ (i : Int) < 6) := by omega
      clear hlt
      obtain ⟨d', st, po, hlf, hsk, hl', hf7⟩ := HA.out.1.open HA.out.2.1 HA.out.2.2.1 hat HA.out.2.2.2
      have hGx : GlIn exX := ⟨HO.out.low _ HE.out.lt.tab, HO.out.low _ HE.out.lt.syn, HO.out.low _ HE.out.lt.rng⟩
      have hOp := pgOpen_at HO.out.disk (HE.out.below HO.out.bel) hGx (at_ : Int) (by unfold isI64; omega)
      rw [po] at hOp
      unfold OpenPost at hOp
      simp only [if_true] at hOp
      have HOp := Lib.hid hOp
      have Hlf := Lib.hid (And.intro hlf hsk)
      have hnm : d'.names.length ≤ 17 := by unfold ADisk.names; rw [List.length_map]; omega
      obtain ⟨nms, hnms⟩ : ∃ y, d'.names = y := ⟨_, rfl⟩
      rw [hnms] at hnm
      have Hnms := Lib.hid hnms
      obtain ⟨ln, hln⟩ : ∃ y, nms.length = y := ⟨_, rfl⟩
      rw [hln] at hnm
      have Hln := Lib.hid hln
      have hnmI : (ln : Int) ≤ 17 := by omega
      clear hOp hlf hsk po hl' hf7 hnms hln
      rcases hend with hI1 | ⟨hI1, hI2⟩
      all_goals
        go_upto_region 39 with (go_at_call 16; refine HOp.out.mono ?_; rintro e w3 ⟨q, rfl, hS3, hK3, _⟩; have H3 := Lib.hid (And.intro hS3 hK3); clear hS3 hK3)
        have hkT3 := HO.out.kT.keep H3.out.2 (fun j v hv g hg => (HO.out.oT j v hv g hg).1)
        have hb63 := (H3.out.2.block _ HO.out.x6).trans HO.out.b6
        have hb3 := keep_bel HO.out.bel HO.out.low H3.out.2
        obtain ⟨a10, n10, c10, a11, n11, c11, a12, n12, c12, a13, n13, c13, a14, n14, c14, a15, n15, c15, hvs⟩ := hkT3.six
        have hHas := has5_yes H3.out.1 Hlf.out.1.sits.ok Hlf.out.1.now hkT3
        rw [hvs] at hHas hb63
        obtain ⟨⟨b0, b1, b2, b3, b4, b5⟩, _⟩ := cells6 hb63
        have hNum := pgNumber_at H3.out.1
        rw [Hlf.out.2] at hNum
        have HHas := Lib.hid hHas
        have HNum := Lib.hid hNum
        have Hb3 := Lib.hid hb3
        clear hHas hNum hkT3 hvs hb63 hb3
        go_wp2_with first
          | (go_at_call 17; refine HNum.out.mono ?_; rintro e w4' ⟨rfl, rfl⟩)
          | (go_at_call 13; refine HHas.out.mono ?_; rintro e w4 ⟨rfl, hB4⟩; have H4 := Lib.hid (And.intro (H3.out.1.below hB4) (Hb3.out.trans (hB4.mono Hb3.out.size))); clear hB4)
          | (go_at_call 15; refine (List_at H4.out.1.disk).mono ?_; rw [Hnms.out, Hln.out]; rintro e w5 ⟨a5, c5, rfl, _, _, hB5⟩; have H5 := Lib.hid (H4.out.2.trans (hB5.mono H4.out.2.size)); clear hB5)
          | (go_at_call 18; refine (awake5_any _ (HE.out.below H5.out)).mono ?_; rintro e w6 ⟨rfl, hB6⟩; have H6 := Lib.hid (H5.out.trans (hB6.mono H5.out.size)); clear hB6)
        go_ret
        exact ⟨rfl, H6.out⟩
end Go.Proofs.YtbepcjajbcecnaaGreatDoor
