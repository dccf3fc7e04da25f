/-
  PagesOrder: the walk.
-/
import Derived.Outline
import Derived.BigRegion
import Derived.BigQuiet
import Derived.Deep.QuietTactic
import Derived.Deep.CutRange
import Derived.Test.YtbepcjajbcecnaaGreatDoorMTwoB
namespace Go.Proofs.YtbepcjajbcecnaaGreatDoor
open Go.RowKit Go.Maps Go.MapKept
set_option linter.unusedSimpArgs false

set_option maxRecDepth 100000 in
set_option maxHeartbeats 8000000 in
theorem order5_law (w : World) (hE : WEnv w) {cs : List Value} (B : Nat → List UInt8) (hB : SixB w cs B) {v1 v2 : Value} (one : List Int) (h1 : Rd w v1 (iCells one)) (l1 : one.length ≤ maxLen) (i1 : ∀ x ∈ one, isI64 x) (two : List Int) (h2 : Rd w v2 (iCells two)) (l2 : two.length ≤ maxLen) (i2 : ∀ x ∈ two, isI64 x) :
    Calls Tryz.prog 5 #[.agg cs.toArray, v1, v2] w fun e w' => e = .returned (.bool true) ∧ Below w.heap.size w w' := by
  obtain ⟨a1, c1, rfl⟩ := h1.shape
  obtain ⟨a2, c2, rfl⟩ := h2.shape
  simp only [iCells_length] at h1 h2 ⊢
  obtain ⟨x0, x1, x2, x3, x4, x5, rfl⟩ : ∃ x0 x1 x2 x3 x4 x5, cs = [x0, x1, x2, x3, x4, x5] := by
    have := hB.len
    match cs, this with
    | [x0, x1, x2, x3, x4, x5], _ => exact ⟨x0, x1, x2, x3, x4, x5, rfl⟩
  obtain ⟨W, hW⟩ : ∃ W, (w.alloc (.cells #[x0, x1, x2, x3, x4, x5] 26)).alloc (.cells #[.pointer none, .pointer none] 44) = W := ⟨_, rfl⟩
  have hb0 : W.heap[w.heap.size]? = some (.cells #[x0, x1, x2, x3, x4, x5] 26 (0, 0)) := by rw [← hW]; exact alloc2_at0 _ _ _
  have hb7 : W.heap[w.heap.size + 1]? = some (.cells #[.pointer none, .pointer none] 44 (0, 0)) := by rw [← hW]; exact alloc2_at _ _ _
  have hBW : Below w.heap.size w W := by rw [← hW]; exact ((Below.refl _ _).alloc (Nat.le_refl _) _).alloc (by simp) _
  obtain ⟨ex, hex⟩ : ∃ ex : Nat → Prop, ex = fun k => k < w.heap.size ∨ k = w.heap.size ∨ k = w.heap.size + 1 := ⟨_, rfl⟩
  have hs7 := blk_lt hb7
  have hxW : ∀ k, ex k → k < W.heap.size := fun k hk => by rw [hex] at hk; omega
  have hx0 : ∀ k, k < w.heap.size → ex k := fun k hk => by rw [hex]; exact Or.inl hk
  have hxb0 : ex w.heap.size := by rw [hex]; exact Or.inr (Or.inl rfl)
  have hxb7 : ex (w.heap.size + 1) := by rw [hex]; exact Or.inr (Or.inr rfl)
  have hG : GlIn ex := ⟨hx0 _ hE.lt.tab, hx0 _ hE.lt.syn, hx0 _ hE.lt.rng⟩
  have hR0 : OrdR ex B (w.heap.size + 1) 0 W := ⟨hxW, hb7⟩
  have HE := Lib.hid hE
  have HW := Lib.hid hW
  have HB := Lib.hid hB
  have H12 := Lib.hid (And.intro (And.intro h1 i1) (And.intro h2 i2))
  have HR0 := Lib.hid hR0
  have Hx := Lib.hid (And.intro hx0 (And.intro hxb0 (And.intro hxb7 hxW)))
  have HBW := Lib.hid (And.intro hBW hb0)
  clear hE hW hB h1 h2 i1 i2 hR0 hx0 hxb0 hxb7 hxW hBW hb0 hb7 hs7 hex
  go_enter Tryz.func5, Tryz.ntmps5
  go_upto_region 3 with fail
  rw [HW.out]
  -- a cell of the caller's
  obtain ⟨exC, hexC⟩ : ∃ exC : Nat → Prop, exC = fun k => k < w.heap.size ∨ k = w.heap.size := ⟨_, rfl⟩
  have hCx : ∀ k, exC k → ex k := fun k hk => by
    rw [hexC] at hk
    rcases hk with hk | rfl
    · exact Hx.out.1 k hk
    · exact Hx.out.2.1
  have HexC := Lib.hid (And.intro hexC hCx)
  clear hexC hCx
  go_loopw [8, 9, 10, 11, 12, 13, 14, 15, 16, 17] (fun kv _ _ _ _ _ _ _ _ _ wr => ∃ k : Nat, k ≤ 2 ∧ kv = .int .i64 k ∧ OrdR ex B (w.heap.size + 1) k wr ∧ Keep exC W wr) (fun kv _ _ _ _ _ _ _ _ _ _ => 2 - (intOf kv).toNat)
  case atStart => exact ⟨0, by omega, rfl, HR0.out, Keep.refl _ _⟩
  case round =>
    obtain ⟨k, hk, rfl, hR, hK⟩ := hrel
    obtain ⟨wo, rfl⟩ : ∃ x, x = wr := ⟨_, rfl⟩
    by_cases hk2 : k < 2
    · have hkI : (k : Int) < 2 := by omega
      have hk0 : (0 : Int) ≤ (k : Int) := by omega
      obtain ⟨exK, e1, e2, e3⟩ := hR.round hk2 Hx.out.2.2.1
      have hGK : GlIn exK := hG.mono e1
      have hix := fun wX => run_idx2 a1 one.length c1 a2 two.length c2 k hk2 wX
      obtain ⟨al, l, cl, hv, hrl, hil, hll⟩ : ∃ (al : Option Addr) (l : List Int) (cl : Nat), (if k = 0 then (.slice a1 one.length c1 : Value) else .slice a2 two.length c2) = .slice al l.length cl ∧ Rd w (.slice al l.length cl) (iCells l) ∧ (∀ x ∈ l, isI64 x) ∧ l.length ≤ maxLen := by
        split
        · exact ⟨a1, one, c1, rfl, H12.out.1.1, H12.out.1.2, l1⟩
        · exact ⟨a2, two, c2, rfl, H12.out.2.1, H12.out.2.2, l2⟩
      rw [hv] at hix
      have hbr : Below w.heap.size w wo := HBW.out.1.trans ((hK.mono (fun j hj => by rw [HexC.out.1]; exact Or.inl hj) (ex' := fun j => j < w.heap.size)).below (fun _ h => h))
      have Hl := Lib.hid (And.intro hrl (And.intro hil hll))
      have He := Lib.hid (And.intro e1 (And.intro e2 e3))
      have HR := Lib.hid hR
      have HK := Lib.hid (And.intro hK hbr)
      have Hix := Lib.hid hix
      clear hv hrl hil hll e1 e2 e3 hK hbr hix hR
      go_upto_region 6 with (go_at_call 21; refine (New_at (ex := exK) 1048576 (by decide) (by decide) He.out.2.1).mono ?_; generalize hp : wo.heap.size + 1 = p; generalize hm : wo.heap.size = m; rintro e w1 ⟨rfl, hD1, hK1⟩; clear hp hm)
      have hE1 : WEnv w1 := (HE.out.below HK.out.2).keep hK1 hGK
      go_upto_region 10 with (go_at_call 16; refine (pgOpen0_at hD1 hE1 hGK rfl rfl).mono ?_; rintro e w2 ⟨q, rfl, hS2, hK2, _⟩; have H2 := Lib.hid (And.intro hS2 (hK1.trans hK2)); clear hS2 hK2)
      clear hD1 hK1 hE1
      go_loopw [13, 14, 15] (fun iv _ _ wi => ∃ (i : Nat) (st : AStore), i ≤ 30 ∧ iv = .int .i64 i ∧ StoreAt exK wi q p m (newD 1048576) st ∧ Ord5 st B i ∧ Keep exK wo wi) (fun iv _ _ _ => 30 - (intOf iv).toNat)
      case atStart => exact ⟨0, _, by omega, rfl, H2.out.1, Ord5.start B, H2.out.2⟩
      case round =>
        obtain ⟨i, st, hi, rfl, hS, ho, hKi⟩ := hrel
        obtain ⟨wi, rfl⟩ : ∃ x, x = wr := ⟨_, rfl⟩
        have hbi : Below w.heap.size w wi := HK.out.2.trans ((hKi.mono (fun j hj => He.out.1 j (Hx.out.1 j hj)) (ex' := fun j => j < w.heap.size)).below (fun _ h => h)  |>.mono (Nat.le_refl _))
        have HS := Lib.hid hS
        have Ho := Lib.hid ho
        have HKi := Lib.hid (And.intro hKi hbi)
        clear hS ho hKi hbi H2
        by_cases hi30 : i < 30
        · have hiI : (i : Int) < 30 := by omega
          have hi0 : (0 : Int) ≤ (i : Int) := by omega
          have hmod : (i : Int).tmod 6 = ((i % 6 : Nat) : Int) := by
            rw [Int.tmod_eq_emod_of_nonneg (by omega)]; omega
          obtain ⟨i6, hi6⟩ : ∃ x, i % 6 = x := ⟨_, rfl⟩
          rw [hi6] at hmod
          have h66 : i6 < 6 := by omega
          have hix := Hix.out wi
          go_upto_region 14 with fail
          clear hix
          obtain ⟨bA, hbA⟩ : ∃ x, decide (i < l.length ∧ i < 24) = x := ⟨_, rfl⟩
          go_cut [62] from 55 to 82 (fun bv wx => bv = .bool bA ∧ wx = wi)
          case first =>
            by_cases hA : i < l.length ∧ i < 24
            · obtain ⟨hA1, hA2⟩ := hA
              have hA1I : (i : Int) < (l.length : Int) := by omega
              have hA2I : (i : Int) < 24 := by omega
              rw [decide_eq_true ⟨hA1, hA2⟩] at hbA
              subst hbA
              go_wp2_with fail
              go_meet
              case rel => first | exact ⟨rfl, rfl⟩ | ((repeat apply Exists.intro); exact ⟨⟨rfl, rfl⟩, rfl⟩)
            · rw [decide_eq_false hA] at hbA
              subst hbA
              have hAI : ¬ (i : Int) < (l.length : Int) ∨ ((i : Int) < (l.length : Int) ∧ ¬ (i : Int) < 24) := by omega
              clear hA
              rcases hAI with hA1 | ⟨hA1, hA2⟩
              all_goals
                go_wp2_with fail
                go_meet
                case rel => first | exact ⟨rfl, rfl⟩ | ((repeat apply Exists.intro); exact ⟨⟨rfl, rfl⟩, rfl⟩)
          case rest =>
          obtain ⟨rfl, rfl⟩ := hcut
          obtain ⟨wc0, rfl⟩ : ∃ x, x = wc := ⟨_, rfl⟩
          go_upto_if 62 with fail
          go_cut [14] from 63 to 82 (fun kv wx => ∃ key : Nat, kv = .int .i64 key ∧ key < 6 ∧ (24 ≤ i → key = i % 6) ∧ wx = wc0)
          case first =>
            cases bA with
            | true =>
              have hA := of_decide_eq_true hbA
              obtain ⟨hA1, hA2⟩ := hA
              have hA1I : (i : Int) < (l.length : Int) := by omega
              obtain ⟨bb, oo, he, hcl⟩ := Hl.out.1.at i (by rw [iCells_length]; exact hA1)
              cases he
              obtain ⟨z, hz⟩ : ∃ z, l[i] = z := ⟨_, rfl⟩
              have hzi : isI64 z := by rw [← hz]; exact Hl.out.2.1 _ (List.getElem_mem hA1)
              have hcl2 : (iCells l)[i]'(by rw [iCells_length]; exact hA1) = .int .i64 z := by simp [iCells, hz]
              rw [hcl2] at hcl
              have hcr : wc0.cell? ⟨bb, oo + i, none⟩ = some (.int .i64 z) := (HKi.out.2.cell (p := ⟨bb, oo + i, none⟩) (cell_lt hcl)).trans hcl
              have hP := fun wX => Pick_any wX z 6 (by unfold isI64; omega)
              obtain ⟨p0, p1⟩ := pickI_lt z 6 (by omega)
              obtain ⟨kk, hkk⟩ : ∃ k : Nat, pickI z 6 = k := ⟨(pickI z 6).toNat, by omega⟩
              rw [hkk] at hP p0 p1
              have HP := Lib.hid hP
              clear hP hcl hcl2 hz hkk hzi hbA
              go_wp2_with (go_at_call 22; refine (HP.out _).mono ?_; rintro e w5 ⟨rfl, rfl⟩)
              go_meet
              case rel => first | exact ⟨kk, rfl, by omega, fun h => by omega, rfl⟩ | ((repeat apply Exists.intro); exact ⟨rfl, by omega, fun h => by omega, rfl⟩)
            | false =>
              clear hbA
              go_wp2_with fail
              go_meet
              case rel => first | exact ⟨i6, rfl, h66, fun _ => hi6.symm, rfl⟩ | ((repeat apply Exists.intro); exact ⟨rfl, h66, fun _ => hi6.symm, rfl⟩)
          case rest =>
            obtain ⟨key, rfl, hk6, hkey, rfl⟩ := hcut
            obtain ⟨wd, rfl⟩ : ∃ x, x = wc := ⟨_, rfl⟩
            have hkeyI : (key : Int) < 6 := by omega
            have hkey0 : (0 : Int) ≤ (key : Int) := by omega
            obtain ⟨ab, cb, hcs, hrb, hbl⟩ := HB.out.at_ key hk6
            obtain ⟨bl, hbl2⟩ : ∃ x, B key = x := ⟨_, rfl⟩
            have hblk : wd.heap[w.heap.size]? = some (.cells #[x0, x1, x2, x3, x4, x5] 26 (0, 0)) := (HKi.out.1.block _ (He.out.1 _ Hx.out.2.1)).trans ((HK.out.1.block _ (by rw [HexC.out.1]; exact Or.inr rfl)).trans HBW.out.2)
            have hcell : wd.cell? ⟨w.heap.size, key, none⟩ = some (.slice ab bl.length cb) := (cell_at hblk key).trans (by rw [← hbl2]; simpa using hcs)
            have hrd : Rd wd (.slice ab bl.length cb) (bcells bl) := by rw [← hbl2]; exact hrb.keep (Upd.ofBelow (fp := noFp) HKi.out.2) (fun _ _ h => h)
            rw [hbl2] at hbl
            have Hbl2 := Lib.hid hbl2
            have Hrd := Lib.hid hrd
            have Hkey := Lib.hid hkey
            clear hcs hrb hblk hbl2 hrd hkey hmod hi6
            by_cases h30 : bl.length ≤ 30
            · have h30I : (bl.length : Int) ≤ 30 := by omega
              obtain ⟨st', hpp, ho'⟩ := Ho.out.put hk6 (by rw [Hbl2.out]; exact h30) (fun h _ => Hkey.out h) hi30
              rw [Hbl2.out] at hpp
              have hsz : (nm6 key).size ≤ maxLen := by have : (nm6 key).size = 1 := rfl; simp only [maxLen]; omega
              have hD := put_by 0 (HS.out.below ((Below.refl _ _).drew)) Ho.out.stp.sits.ok hsz (Hrd.out.below ((Below.refl _ _).drew)) (by omega) hpp
              have HD := Lib.hid hD
              have Ho' := Lib.hid ho'
              have c1 : wd.drew.cell? ⟨w.heap.size, key, none⟩ = some (.slice ab bl.length cb) := hcell
              clear hD hpp ho'
              go_upto_region 16 with fail
              go_region_held3 (fun w'' => w''.cell? ⟨w.heap.size, key, none⟩ = some (.slice ab bl.length cb)) (first | with_reducible exact c1 | with_reducible exact S7 | go_keep)
                (first
                  | (go_at_call 24; refine (name5_any _ key hk6).mono ?_; rintro e w6 ⟨rfl, rfl⟩)
                  | (go_at_call 23; refine HD.out.mono ?_; rintro e w7 ⟨rfl, hS7, hK7⟩; have S7 : w7.cell? ⟨w.heap.size, key, none⟩ = some (.slice ab bl.length cb) := (hK7.cell (He.out.1 _ Hx.out.2.1) key).trans c1; have Hz := Lib.hid (And.intro hS7 ((HKi.out.1.drew).trans hK7)); clear hS7 hK7))
              go_wp2_with fail
              go_roundw
              case rel => exact ⟨i + 1, st', by omega, by go_num, Hz.out.1, Ho'.out, Hz.out.2⟩
              case measure => simp [intOf]; omega
            · have h30I : ¬ (bl.length : Int) ≤ 30 := by omega
              have h30d : decide ((bl.length : Int) ≤ 30) = false := decide_eq_false h30I
              have ho' := Ho.out.skip hk6 (by rw [Hbl2.out]; exact h30) (fun h _ => Hkey.out h) hi30
              have Ho' := Lib.hid ho'
              clear ho'
              go_wp2_with fail
              go_quiet (fail)
              go_wp2_with fail
              go_roundw
              case rel => exact ⟨i + 1, st, by omega, by go_num, HS.out.below (below_drewN (Below.refl _ _) _), Ho'.out, HKi.out.1.trans (Keep.ofBelow (below_drewN (Below.refl _ _) _) (fun k hk => HS.out.lt hk))⟩
              case measure => simp [intOf]; omega
        · obtain rfl : i = 30 := by omega
          have hiI : ¬ ((30 : Nat) : Int) < 30 := by omega
          obtain ⟨kc, stc, hcm⟩ := ord_commit Ho.out
          have hEi : WEnv wi := HE.out.below HKi.out.2
          have hC := commit_by2 0 HS.out Ho.out.stp.sits.ok hEi hGK hcm
          have HC := Lib.hid hC
          clear hC hEi hcm hi30
          obtain ⟨v0, v1, hv7⟩ := HR.out.cells (by omega)
          go_upto_region 21 with (go_at_call 14; refine HC.out.mono ?_; rintro e wf ⟨rfl, hSf, hKf⟩; have Hf := Lib.hid (And.intro hSf (HKi.out.1.trans hKf)); clear hSf hKf)
          have hb7 : wf.heap[w.heap.size + 1]? = some (.cells #[v0, v1] 44 (0, 0)) := (Hf.out.2.block _ (He.out.1 _ Hx.out.2.2.1)).trans hv7
          have f7 : wf.frozen? ⟨w.heap.size + 1, k, none⟩ = false := by simp [World.frozen?, hb7]
          obtain ⟨v7, c7⟩ : ∃ v, wf.cell? ⟨w.heap.size + 1, k, none⟩ = some v := ⟨_, (cell_at hb7 k).trans (Array.getElem?_eq_getElem (by simpa using hk2))⟩
          have hRn := He.out.2.2 wf p m st Ho.out Hf.out.1.disk Hf.out.2
          have HRn := Lib.hid hRn
          have hKn : Keep exC W (wf.setCell ⟨w.heap.size + 1, k, none⟩ (ptr1 p)) := (HK.out.1.trans (Hf.out.2.mono (fun j hj => He.out.1 j (HexC.out.2 j hj)))).trans (Keep.ofUpd (setCell_upd k _) (fun j hj => ⟨Hf.out.1.lt (He.out.1 j (HexC.out.2 j hj)), fun e => by rw [HexC.out.1] at hj; omega⟩))
          have HKn := Lib.hid hKn
          clear hRn hKn hb7
          go_wp2_with fail
          go_roundw
          case rel => exact ⟨k + 1, by omega, by go_num, HRn.out, HKn.out⟩
          case measure => simp [intOf]; omega
    · obtain rfl : k = 2 := by omega
      have hkI : ¬ ((2 : Nat) : Int) < 2 := by omega
      obtain ⟨p0, m0, p1, m1, d, hT, hb7⟩ := hR.done
      have hbr : Below w.heap.size w wo := HBW.out.1.trans ((hK.mono (fun j hj => by rw [HexC.out.1]; exact Or.inl hj) (ex' := fun j => j < w.heap.size)).below (fun _ h => h))
      obtain ⟨nms, hnms⟩ : ∃ y, d.names = y := ⟨_, rfl⟩
      have hnl : nms.length ≤ 200 := by rw [← hnms]; unfold ADisk.names; rw [List.length_map]; exact hT.fst.wf.count
      have hns : ∀ u ∈ nms, u.size ≤ 40 := fun u hu => hT.fst.wf.name_size (by rw [hnms]; exact hu)
      have hcell : ∀ wX, Below wo.heap.size wo wX → wX.cell? ⟨w.heap.size + 1, 0, none⟩ = some (.pointer (some ⟨p0, 0, none⟩)) ∧ wX.cell? ⟨w.heap.size + 1, 1, none⟩ = some (.pointer (some ⟨p1, 0, none⟩)) := fun wX hX =>
        have h := (hX.block _ (blk_lt hb7)).trans hb7
        ⟨(cell_at h 0).trans rfl, (cell_at h 1).trans rfl⟩
      obtain ⟨c0, c1⟩ := hcell wo (Below.refl _ _)
      have hL0 := List_at hT.fst
      have hL1 := fun wX hX => List_at (hT.below (w' := wX) hX).snd
      rw [hnms] at hL0 hL1
      have HT := Lib.hid hT
      have Hb := Lib.hid hbr
      have HL0 := Lib.hid hL0
      have HL1 := Lib.hid hL1
      have Hns := Lib.hid hns
      have Hcell := Lib.hid hcell
      obtain ⟨nn, hnn⟩ : ∃ y, nms.length = y := ⟨_, rfl⟩
      rw [hnn] at hnl HL0 HL1
      have Hnn := Lib.hid hnn
      clear hT hbr hL0 hL1 hns hcell hR hK hk2 hk hb7 hnms hnn
      go_upto_region 23 with (go_at_call 15; refine HL0.out.mono ?_; rintro e w3 ⟨a3, c3, rfl, row3, _, hB3⟩; have H3 := Lib.hid (And.intro row3 hB3); clear row3 hB3)
      obtain ⟨d0, d1⟩ := Hcell.out w3 H3.out.2
      clear c0 c1
      go_upto_region 26 with first
        | (go_at_call 15; refine (HL1.out w3 H3.out.2).mono ?_; rintro e w4 ⟨a4, c4, rfl, row4, _, hB4⟩; have H4 := Lib.hid (And.intro row4 hB4); clear row4 hB4)
        | (go_at_call 25; refine (SameTexts_any _ _ _ nms nms ((Rd.ofOwns H3.out.1).below H4.out.2) (Rd.ofOwns H4.out.1) (by rw [Hnn.out]; simp only [maxLen]; omega) (by rw [Hnn.out]; simp only [maxLen]; omega)).mono ?_; rw [decide_eq_true rfl]; rintro e w5 ⟨rfl, hB5⟩; have H5 := Lib.hid hB5; clear hB5)
      clear d0 d1
      have hB5 : Below wo.heap.size wo w5 := H3.out.2.trans ((H4.out.2.trans (H5.out.mono H4.out.2.size)).mono H3.out.2.size)
      have hrd5 : Rd w5 (.slice a3 nn c3) (nms.map Value.string) := ((Rd.ofOwns H3.out.1).below H4.out.2).below H5.out
      have Hb5 := Lib.hid (And.intro hB5 hrd5)
      clear hB5 hrd5
      go_loopw [104] (fun jv wq => ∃ j : Nat, j ≤ nn ∧ jv = .int .i64 j ∧ Below w5.heap.size w5 wq) (fun jv _ => nn - (intOf jv).toNat)
      case atStart => exact ⟨0, by omega, rfl, Below.refl _ _⟩
      case round =>
        obtain ⟨j, hj, rfl, hBq⟩ := hrel
        obtain ⟨wq, rfl⟩ : ∃ x, x = wr := ⟨_, rfl⟩
        have hbq : Below wo.heap.size wo wq := Hb5.out.1.trans (hBq.mono Hb5.out.1.size)
        by_cases hlt : j < nn
        · have hjl : j < nms.length := by rw [Hnn.out]; exact hlt
          obtain ⟨bb, oo, rfl, hcl⟩ := Hb5.out.2.at j (by rw [List.length_map, Hnn.out]; exact hlt)
          obtain ⟨s, hs⟩ : ∃ s, nms[j] = s := ⟨_, rfl⟩
          rw [List.getElem_map, hs] at hcl
          have hsz : s.size ≤ maxLen := by have := Hns.out s (by rw [← hs]; exact List.getElem_mem hjl); simp only [maxLen]; omega
          have hcr := (hBq.cell (p := ⟨bb, oo + j, none⟩) (cell_lt hcl)).trans hcl
          have hji : (j : Int) < (nn : Int) := by omega
          have hj0 : (0 : Int) ≤ (j : Int) := by omega
          obtain ⟨bs, hbs⟩ : ∃ x, d.readBytes s = x := ⟨_, rfl⟩
          obtain ⟨er, her⟩ : ∃ x, findErr d s = x := ⟨_, rfl⟩
          have hR0 := fun wX (hX : Below wo.heap.size wo wX) => Read_at s (HT.out.below hX).fst hsz
          have hR1 := fun wX (hX : Below wo.heap.size wo wX) => Read_at s (HT.out.below hX).snd hsz
          rw [hbs, her] at hR0 hR1
          have HR0' := Lib.hid hR0
          have HR1 := Lib.hid hR1
          have hne : (er != er) = false := by simp
          obtain ⟨f0, f1⟩ := Hcell.out wq hbq
          have Hq := Lib.hid (And.intro hBq hbq)
          clear hR0 hR1 hcl hs hbs her hBq hbq
          go_upto_region 29 with (go_at_call 26; refine (HR0'.out wq Hq.out.2).mono ?_; rintro e w6 ⟨a6, c6, rfl, row6, hB6⟩; have H6 := Lib.hid (And.intro row6 (And.intro hB6 (Hq.out.2.trans (hB6.mono Hq.out.2.size)))); clear row6 hB6)
          obtain ⟨g0, g1⟩ := Hcell.out w6 H6.out.2.2
          clear f0 f1
          go_wp2_with first
            | (go_at_call 26; refine (HR1.out w6 H6.out.2.2).mono ?_; rintro e w7 ⟨a7, c7, rfl, row7, hB7⟩; have H7 := Lib.hid (And.intro row7 hB7); clear row7 hB7)
            | (go_at_call 27; refine (sameB_yes w7 _ _ bs ((Rd.ofOwns H6.out.1).below H7.out.2) (Rd.ofOwns H7.out.1)).mono ?_; rintro e w8 ⟨rfl, rfl⟩)
          go_roundw
          case rel => exact ⟨j + 1, by omega, by go_num, Hq.out.1.trans ((H6.out.2.1.trans (H7.out.2.mono H6.out.2.1.size)).mono Hq.out.1.size)⟩
          case measure => simp [intOf]; omega
        · obtain rfl : j = nn := by omega
          have hji : ¬ (j : Int) < (j : Int) := by omega
          have Hbf := Lib.hid (Hb.out.trans (hbq.mono Hb.out.size))
          clear hlt hbq hBq
          go_wp2_with (go_at_call 18; refine (awake5_any _ (HE.out.below Hbf.out)).mono ?_; rintro e w10 ⟨rfl, hB10⟩; have Hb10 := Lib.hid (Hbf.out.trans (hB10.mono Hbf.out.size)); clear hB10)
          go_ret
          exact ⟨rfl, Hb10.out⟩
end Go.Proofs.YtbepcjajbcecnaaGreatDoor
