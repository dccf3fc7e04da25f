/-
  RootsSwitch: the walk.
-/
import Derived.Outline
import Derived.Test.YtnagejhpdhdpfaaDoorSw1
namespace Go.Proofs.YtnagejhpdhdpfaaDoor
open Go.RowKit Go.Maps Go.MapKept

theorem pick_act (x : Int) : 0 ≤ pickI x 1000003 ∧ pickI x 1000003 < 1000003 := by
  unfold pickI
  rw [if_neg (by omega)]
  omega

set_option maxRecDepth 100000 in
set_option maxHeartbeats 32000000 in
theorem switch_law (w : World) {v0 : Value} (l : List XRoot) (hl : RootsAt w v0 l) {v1 : Value} (acts : List Int) (ra : Rd w v1 (iCells acts)) (la : acts.length ≤ maxLen) (ia : ∀ x ∈ acts, isI64 x)
    {v2 : Value} (keeps : List Int) (rk : Rd w v2 (iCells keeps)) (lk_ : keeps.length ≤ maxLen) (ik : ∀ x ∈ keeps, isI64 x) :
    Calls Tryd.prog 7 #[v0, v1, v2] w fun e w' => e = .returned (.bool true) ∧ Below w.heap.size w w' := by
  obtain ⟨a, c, rfl⟩ := SliceOf.shape hl
  have hcl := SliceOf.len_le hl
  obtain ⟨aa, ca, rfl⟩ := ra.shape
  obtain ⟨ak, ck, rfl⟩ := rk.shape
  have hicl : ∀ l : List Int, (iCells l).length = l.length := fun l => by simp [iCells]
  rw [hicl] at ra rk ⊢
  rw [hicl]
  simp only [maxLen] at hcl la lk_
  have hkb : ∀ g, (Value.slice ak keeps.length ck).ownBlock = some g → keeps ≠ [] → g < w.heap.size := fun g hg hne => rd_blk rk (fun e => hne (by simpa [iCells] using e)) g hg
  have Hl := Lib.hid hl
  have Hra := Lib.hid ra
  have Hia := Lib.hid ia
  have Hrk := Lib.hid rk
  have Hik := Lib.hid ik
  have Hkb := Lib.hid hkb
  clear hl ra ia rk ik hkb hicl
  obtain ⟨ex0, hex0⟩ : ∃ ex : Nat → Prop, ex = fun k => k < w.heap.size := ⟨_, rfl⟩
  have hx0 : ∀ k, ex0 k → k < w.heap.size := fun k hk => by rw [hex0] at hk; exact hk
  have Hex0 := Lib.hid hex0
  clear hex0
  go_enter Tryd.func7, Tryd.ntmps7
  go_wp2_with fail
  refine (New_at (ex := ex0) 1048576 (by decide) (by decide) hx0).mono ?_
  generalize hp : w.heap.size + 1 = p
  generalize hm : w.heap.size = m
  rintro e w0 ⟨rfl, h0, kk0⟩
  subst hm
  clear hp
  go_wp2_with fail
  have hn0 := alloc_at w0 (.cells #[.int .i64 0, .int .i64 0, .int .i64 0, .slice none 0 0] 24)
  have hB1 : Below w0.heap.size w0 (w0.alloc (.cells #[.int .i64 0, .int .i64 0, .int .i64 0, .slice none 0 0] 24)) := (Below.refl _ _).alloc (Nat.le_refl _) _
  obtain ⟨w1, hw1⟩ : ∃ w1, w0.alloc (.cells #[.int .i64 0, .int .i64 0, .int .i64 0, .slice none 0 0] 24) = w1 := ⟨_, rfl⟩
  rw [hw1] at hn0 hB1 ⊢
  obtain ⟨ex, hex⟩ : ∃ ex : Nat → Prop, ex = fun k => ex0 k ∨ k = w0.heap.size := ⟨_, rfl⟩
  have hexx : ∀ k, k < w.heap.size → ex k := fun k hk => by rw [hex, Hex0.out]; exact Or.inl hk
  have hexn : ex w0.heap.size := by rw [hex]; exact Or.inr rfl
  have h1 : DiskAt ex w1 p w.heap.size ⟨1048576, -1, false, []⟩ := h0.more hB1 (fun k hk => by
    rw [hex] at hk
    rcases hk with hk | rfl
    · exact Or.inl hk
    · exact Or.inr ⟨Nat.le_refl _, blk_lt hn0⟩)
  have hBw1 : Below w.heap.size w w1 := (kk0.below (fun k hk => by rw [Hex0.out]; exact hk)).trans (hB1.mono kk0.size)
  have hNw : w.heap.size ≤ w0.heap.size := kk0.size
  have Hn0 := Lib.hid hn0
  have Hexx := Lib.hid hexx
  have Hexn := Lib.hid hexn
  have h1g := new_good 1048576 (by omega)
  have Hg1 := Lib.hid h1g
  clear h0 kk0 hn0 hB1 hw1 hex hexx hexn h1g
  go_loopw [10] (fun i wr => ∃ (k : Nat) (d : ADisk) (R : ARoot) (a' : Option Addr) (c' : Nat) (exr : Nat → Prop), k ≤ l.length ∧ k ≤ 30 ∧ k ≤ acts.length ∧ i = .int .i64 k ∧ DiskAt exr wr p w.heap.size d ∧ (∀ j, j < w.heap.size → exr j) ∧ exr w0.heap.size ∧
    wr.heap[w0.heap.size]? = some (.cells #[.int .i64 R.serial, .int .i64 R.tick, .int .i64 R.commit, .slice a' R.blob.length c'] 24 (0, 0)) ∧ wr.ownsRow 0 5 1 (.slice a' R.blob.length c') R.blob.length (bcells R.blob) ∧
    (∀ g, (Value.slice a' R.blob.length c').ownBlock = some g → exr g ∧ g ≠ w0.heap.size) ∧ Good d ∧ readR d = R ∧ Below w.heap.size w wr ∧ w0.heap.size < wr.heap.size) (fun i _ => l.length - (intOf i).toNat)
  case atStart => exact ⟨0, _, root0, none, 0, ex, by omega, by omega, by omega, rfl, h1, Hexx.out, Hexn.out, Hn0.out, World.ownsRow_nil _ _ _ _, fun g hg => (by cases hg), Hg1.out.1, Hg1.out.2, hBw1, blk_lt Hn0.out⟩
  case round =>
    obtain ⟨k, d, R, a', c', exr, hk, hk30, hka, rfl, hD, hxx, hxn, hnow, hrow, hxg, hG, hR, hbr, hlt0⟩ := hrel
    clear h1 hBw1
    have hRl := readR_le d
    rw [hR] at hRl
    obtain ⟨hR1, hR2, hR3, hR4⟩ := hRl
    have Hxx := Lib.hid hxx
    have Hxn := Lib.hid hxn
    have Hnow := Lib.hid hnow
    have Hrow := Lib.hid hrow
    have Hxg := Lib.hid hxg
    have HG := Lib.hid hG
    have HR := Lib.hid hR
    clear hxx hxn hnow hrow hxg hG hR
    by_cases hlt : k < l.length ∧ k < 30 ∧ k < acts.length
    · obtain ⟨hlt1, hlt2, hlt3⟩ := hlt
      obtain ⟨b, off, rfl, hbW, hok, c0, c1, c2_, c3⟩ := Hl.out.at hbr k hlt1
      obtain ⟨ba, oa, rfl, hbaW, cact⟩ := ints_at Hra.out hbr k hlt3
      have hact := Hia.out _ (List.getElem_mem hlt3)
      obtain ⟨act, hacte⟩ : ∃ act, acts[k] = act := ⟨_, rfl⟩
      rw [hacte] at cact hact
      obtain ⟨x, hx⟩ : ∃ x, l[k] = x := ⟨_, rfl⟩
      rw [hx] at hok c0 c1 c2_ c3
      obtain ⟨xs, xt, xc, xv, xb⟩ := x
      obtain ⟨hs, ht, hc, hrx, hlx⟩ := hok
      simp only at c0 c1 c2_ c3 hs ht hc hrx hlx
      obtain ⟨ax, cx, rfl⟩ := hrx.shape
      rw [bcells_length] at hrx c3
      simp only [maxLen] at hlx
      have Hrx := Lib.hid hrx
      clear hx hrx hacte
      by_cases hbl : xb.length ≤ 100
      · have hbl' : ¬ (100 : Int) < (xb.length : Int) := by omega
        obtain ⟨hA0, hA1⟩ := pick_act act
        have hpk := fun w' => Pick_any w' act 1000003 hact (by unfold isI64; omega)
        obtain ⟨A, hA⟩ : ∃ A, pickI act 1000003 = A := ⟨_, rfl⟩
        rw [hA] at hA0 hA1 hpk
        have Hpk := Lib.hid hpk
        clear hpk hA
        have hser : (readR d).serial = R.serial := by rw [HR.out]
        obtain ⟨hGa, hRa⟩ := arm_good HG.out (A / 2 % 5)
        rw [HR.out] at hRa
        have hArm0 : 0 ≤ A / 2 % 5 := Int.emod_nonneg _ (by omega)
        have hArm1 : A / 2 % 5 < 5 := Int.emod_lt_of_pos _ (by omega)
        have hGa' := Lib.hid hGa
        have hRa' := Lib.hid hRa
        clear hGa hRa hser
        go_wp2_with fail
        refine (Hpk.out _).mono ?_
        rintro e w2 ⟨rfl, rfl⟩
        have harm : ∃ (d1 : ADisk), (A % 2 = 0 → d.arm (A / 2 % 5) = d1) ∧ (A % 2 = 1 → d = d1) ∧ Good d1 ∧ readR d1 = R := by
          rcases Int.emod_two_eq A with h | h
          · exact ⟨_, fun _ => rfl, fun h' => by omega, hGa'.out, hRa'.out⟩
          · exact ⟨_, fun h' => by omega, fun _ => rfl, HG.out, HR.out⟩
        obtain ⟨d1, hd10, hd11, hG1, hR1_⟩ := harm
        have hser1 : (readR d1).serial = R.serial := by rw [hR1_]
        have hsi : ((R.serial + 1 : Nat) : Int) = (R.serial : Int) + 1 := rfl
        have Hsi := Lib.hid hsi
        have hbl1 : xb.length ≤ 1000 := by omega
        have hbl2 : xb.length ≤ 120 := by omega
        have hbl3 : xb.length ≤ 140737488355328 := by omega
        have Hd10 := Lib.hid hd10
        have Hd11 := Lib.hid hd11
        have HG1 := Lib.hid hG1
        have HR1 := Lib.hid hR1_
        have Hser1 := Lib.hid hser1
        clear hd10 hd11 hG1 hR1_ hser1 hGa' hRa' hsi
        rcases Int.emod_two_eq A with hA2 | hA2
        · go_wp2_with fail
          refine (Arm_at (A / 2 % 5) hD (by omega) (by omega)).mono ?_
          rw [Hd10.out hA2]
          rintro e w3 ⟨rfl, D3, K3⟩
          have c0' := (K3.cell (Hxx.out b hbW) _).trans c0
          have c1' := (K3.cell (Hxx.out b hbW) _).trans c1
          have c2' := (K3.cell (Hxx.out b hbW) _).trans c2_
          have c3' := (K3.cell (Hxx.out b hbW) _).trans c3
          have hbr3 : Below w.heap.size w w3 := hbr.trans (K3.below (fun j hj => Hxx.out j hj))
          go_wp2_with fail
          rcases rb_write R.serial xt xc (b := xb) hbl1 with her | her
          · rcases switch_step HG1.out Hser1.out her hbl2 with ⟨d', hw, hG', hR', hcr⟩ | ⟨d', hw, hcr⟩
            · refine (write_ok xs xt xc ((R.serial : Int) + 1) _ xb D3 ht hc (Hrx.out.below hbr3) hbl3 hw (by rw [Hser1.out])).mono ?_
              rintro e w4 ⟨rfl, D4, K4⟩
              have K4' := K3.trans K4
              have hbr4 : Below w.heap.size w w4 := hbr.trans (K4'.below (fun j hj => Hxx.out j hj))
              have hlt4 : w0.heap.size < w4.heap.size := D4.lt Hxn.out
              have Hnow4 := Lib.hid ((K4'.block _ Hxn.out).trans Hnow.out)
              have Hrow4 := Lib.hid (K4'.row Hrow.out (fun g hg => (Hxg.out g hg).1))
              obtain ⟨q0, q1, q2, q3, _⟩ := rootC_at Hnow4.out
              have c0'' := (K4'.cell (Hxx.out b hbW) _).trans c0
              have c1'' := (K4'.cell (Hxx.out b hbW) _).trans c1
              have c2'' := (K4'.cell (Hxx.out b hbW) _).trans c2_
              have c3'' := (K4'.cell (Hxx.out b hbW) _).trans c3
              have hltb := cell_lt c0''
              clear K4' K3 K4 D3
              obtain ⟨R2, hR2e⟩ : ∃ R2, aroot ((R.serial + 1 : Nat) : Int) xt xc xb = R2 := ⟨_, rfl⟩
              have hk4 := back4 (s := ((R.serial + 1 : Nat) : Int)) her
              have hre : R2.serial = R.serial + 1 := by rw [← hR2e]; simp [aroot]
              rw [hR2e] at hR' hk4
              rw [hR2e] at hcr
              rw [Hsi.out] at hk4
              have hpos : decide (0 < R2.serial) = true := by simp; omega
              have hpi : (0 : Int) < (R2.serial : Int) := by omega
              have hpn : 0 < R2.serial := by omega
              have hRl2 := readR_le d'
              rw [hR'] at hRl2
              have HG7 := Lib.hid hG'
              have HR7 := Lib.hid hR'
              have Hcr := Lib.hid hcr
              have Hk4 := Lib.hid hk4
              have Hpos := Lib.hid hpos
              have HRl2 := Lib.hid hRl2
              clear hw hG' hR' hcr hR2e hk4 hre hpos hRl2 her
              go_wp2_with fail
              have hB46 := ((Below.refl w4.heap.size w4).alloc (Nat.le_refl _) (.cells #[.int .i64 ((R.serial : Int) + 1), .int .i64 xt, .int .i64 xc, .slice ax xb.length cx] 24))
              have hB47 := hB46.alloc hB46.size (.cells #[.int .i64 ((R.serial : Int) + 1), .int .i64 xt, .int .i64 xc, .slice ax xb.length cx] 24)
              have hnx := alloc_at (w4.alloc (.cells #[.int .i64 ((R.serial : Int) + 1), .int .i64 xt, .int .i64 xc, .slice ax xb.length cx] 24)) (.cells #[.int .i64 ((R.serial : Int) + 1), .int .i64 xt, .int .i64 xc, .slice ax xb.length cx] 24)
              rw [World.size_alloc] at hnx
              obtain ⟨w6, hw6⟩ : ∃ w6, (w4.alloc (.cells #[.int .i64 ((R.serial : Int) + 1), .int .i64 xt, .int .i64 xc, .slice ax xb.length cx] 24)).alloc (.cells #[.int .i64 ((R.serial : Int) + 1), .int .i64 xt, .int .i64 xc, .slice ax xb.length cx] 24) = w6 := ⟨_, rfl⟩
              rw [hw6] at hB47 hnx ⊢
              obtain ⟨ex2, hex2⟩ : ∃ ex2 : Nat → Prop, ex2 = fun k => exr k ∨ (w4.heap.size ≤ k ∧ k < w6.heap.size) := ⟨_, rfl⟩
              have D6 : DiskAt ex2 w6 p w.heap.size d' := D4.more hB47 (fun k hk => by rw [hex2] at hk; exact hk)
              have HX2 := Lib.hid (show ∀ k, exr k → ex2 k from fun k hk => by rw [hex2]; exact Or.inl hk)
              have Hnb2 := Lib.hid (show ex2 (w4.heap.size + 1) by rw [hex2]; exact Or.inr ⟨by omega, blk_lt hnx⟩)
              have Hnx6 := Lib.hid hnx
              have Hnow6 := Lib.hid ((hB47.block _ hlt4).trans Hnow4.out)
              have Hrow6 := Lib.hid ((Upd.ofBelow (fp := noFp) hB47).row Hrow4.out (fun _ _ h => h))
              have hbr6 := hbr4.trans (hB47.mono hbr4.size)
              clear hB46 hB47 hnx hw6 hex2 D4 q0 q1 q2 q3 c0'' c1'' c2'' c3'' hltb Hnow4 Hrow4
              refine (sameR_any _ ((R.serial : Int) + 1) xt xc ((R.serial : Int) + 1) xt xc _ _ xb xb (Hrx.out.below hbr6) (Hrx.out.below hbr6)).mono ?_
              rw [sameR_refl]
              rintro e w7 ⟨rfl, hB7⟩
              have D7 := D6.below hB7
              have Hnx7 := Lib.hid ((hB7.block _ (blk_lt Hnx6.out)).trans Hnx6.out)
              have Hnow7 := Lib.hid ((hB7.block _ (blk_lt Hnow6.out)).trans Hnow6.out)
              have hbr7 := hbr6.trans (hB7.mono hbr6.size)
              clear Hnx6 Hnow6 hB7 D6 Hrow6
              rcases Decidable.em (A % 3 = 0) with hA3 | hA3
              · go_wp2_with fail
                refine (Crash_atK _ keeps D7 (Hrk.out.below hbr7) (by omega) Hik.out (fun k hk hne => HX2.out k (Hxx.out k (Hkb.out k hk hne)))).mono ?_
                rintro e w8 ⟨rfl, D8, K8⟩
                obtain ⟨d8, hd8⟩ : ∃ d8, d'.crash keeps = d8 := ⟨_, rfl⟩
                have HG8 := Lib.hid (Hcr.out keeps).1
                have HR8 := Lib.hid (Hcr.out keeps).2
                rw [hd8] at HG8 HR8 D8
                have Hnx8 := Lib.hid ((K8.block _ Hnb2.out).trans Hnx7.out)
                have Hnow8 := Lib.hid ((K8.block _ (HX2.out _ Hxn.out)).trans Hnow7.out)
                have hbr8 := hbr7.trans (K8.below (fun j hj => HX2.out j (Hxx.out j hj)))
                clear K8 D7 Hnx7 Hnow7 hd8 Hcr HG7 HR7
                go_wp2_with fail
                refine (read_by R2 0 D8 HR8.out (readE_good HG8.out.toFair)).mono ?_
                rw [Hpos.out]
                rintro e w9 ⟨a9, c9, rfl, hR9, hB9⟩
                have HR9 := Lib.hid hR9
                clear hR9
                have Hnx9 := Lib.hid ((hB9.block _ (blk_lt Hnx8.out)).trans Hnx8.out)
                have Hnow9 := Lib.hid ((hB9.block _ (blk_lt Hnow8.out)).trans Hnow8.out)
                obtain ⟨n0, n1, n2, n3, _⟩ := rootC_at Hnx9.out
                have hltx := blk_lt Hnx9.out
                have hlt9 := blk_lt Hnow9.out
                obtain ⟨m0, m1, m2, m3, _⟩ := rootC_at Hnow9.out
                have hbr9 := hbr8.trans (hB9.mono hbr8.size)
                have hx9 := alloc_at w9 (.cells #[.int .i64 R2.serial, .int .i64 R2.tick, .int .i64 R2.commit, .slice a9 R2.blob.length c9] 24)
                go_wp2_with fail
                have hB910 := (Below.refl w9.heap.size w9).alloc (Nat.le_refl _) (.cells #[.int .i64 R2.serial, .int .i64 R2.tick, .int .i64 R2.commit, .slice a9 R2.blob.length c9] 24)
                obtain ⟨w10, hw10⟩ : ∃ w10, w9.alloc (.cells #[.int .i64 R2.serial, .int .i64 R2.tick, .int .i64 R2.commit, .slice a9 R2.blob.length c9] 24) = w10 := ⟨_, rfl⟩
                rw [hw10] at hB910 hx9 ⊢
                have hB810 := hB9.trans (hB910.mono hB9.size)
                have Hrow10 := Lib.hid ((Upd.ofBelow (fp := noFp) hB910).row HR9.out (fun _ _ h => h))
                have hbr10 := hbr9.trans (hB910.mono hbr9.size)
                have Hnow10 := Lib.hid ((hB910.block _ hlt9).trans Hnow9.out)
                have Hx10 := Lib.hid hx9
                clear hB9 hw10 hx9 hB910 hbr9 HR9 n0 n1 n2 n3 m0 m1 m2 m3
                refine (sameR_any _ R2.serial R2.tick R2.commit ((R.serial : Int) + 1) xt xc _ _ R2.blob xb (Rd.ofOwns Hrow10.out) (Hrx.out.below hbr10)).mono ?_
                rw [Hk4.out]
                rintro e w11 ⟨rfl, hB11⟩
                have Hnow11 := Lib.hid ((hB11.block _ (blk_lt Hnow10.out)).trans Hnow10.out)
                obtain ⟨m0, m1, m2, m3, f0, f1, f2, f3⟩ := rootC_at Hnow11.out
                obtain ⟨n0, n1, n2, n3, _⟩ := rootC_at ((hB11.block _ (blk_lt Hx10.out)).trans Hx10.out)
                have hltm := cell_lt m0
                have hltn := cell_lt n0
                have Hrow11 := Lib.hid ((Upd.ofBelow (fp := noFp) hB11).row Hrow10.out (fun _ _ h => h))
                have hbr11 := hbr10.trans (hB11.mono hbr10.size)
                have hB811 := hB810.trans (hB11.mono hB810.size)
                clear hB11 hB810 Hrow10 hbr10 Hnow10 Hx10
                go_wp2
                have hU := setCell4_upd (w := w11) (b := w0.heap.size) (.int .i64 R2.serial) (.int .i64 R2.tick) (.int .i64 R2.commit) (.slice a9 R2.blob.length c9)
                have hhn := setCell4_at Hnow11.out (.int .i64 R2.serial) (.int .i64 R2.tick) (.int .i64 R2.commit) (.slice a9 R2.blob.length c9)
                go_roundw
                case rel =>
                  have hw8 : w0.heap.size < w8.heap.size := D8.lt (HX2.out _ Hxn.out)
                  have hx3 : ∀ g, (Value.slice a9 R2.blob.length c9).ownBlock = some g → w8.heap.size ≤ g ∧ g < w11.heap.size := fun g hg => ⟨row_from Hrow11.out hg, row_lt Hrow11.out hg⟩
                  have D11 : DiskAt (fun k => exr k ∨ (w8.heap.size ≤ k ∧ k < w11.heap.size)) w11 p w.heap.size d8 := D8.more hB811 (fun k hk => hk.elim (fun h => Or.inl (HX2.out k h)) Or.inr)
                  have D12 := D11.upd hU (fun k _ hk => by rw [hk]; exact Or.inl Hxn.out)
                  refine ⟨k + 1, d8, R2, a9, c9, _, by omega, by omega, by omega, by go_num, D12, fun j hj => Or.inl (Hxx.out j hj), Or.inl Hxn.out, hhn, ?_, fun g hg => ⟨Or.inr (hx3 g hg), by have := (hx3 g hg).1; omega⟩, HG8.out, HR8.out, ?_, ?_⟩
                  · exact hU.row (ownsRow_base0 Hrow11.out) (fun g hg h => by have h1 := (hx3 g hg).1; have h2 : g = w0.heap.size := h; omega) 
                  · exact hbr11.trans (hU.below (fun k hk => by rw [hk]; exact hNw) hbr11.size)
                  · exact Nat.lt_of_lt_of_le (blk_lt Hnow11.out) hU.size
                case measure => simp [intOf]; omega
              · have D8 := D7
                have HG8 := HG7
                have HR8 := HR7
                have Hnx8 := Hnx7
                have Hnow8 := Hnow7
                have hbr8 := hbr7
                clear Hcr HG7 HR7 D7 Hnx7 Hnow7 hbr7
                go_wp2_with fail
                refine (read_by R2 0 D8 HR8.out (readE_good HG8.out.toFair)).mono ?_
                rw [Hpos.out]
                rintro e w9 ⟨a9, c9, rfl, hR9, hB9⟩
                have HR9 := Lib.hid hR9
                clear hR9
                have Hnx9 := Lib.hid ((hB9.block _ (blk_lt Hnx8.out)).trans Hnx8.out)
                have Hnow9 := Lib.hid ((hB9.block _ (blk_lt Hnow8.out)).trans Hnow8.out)
                obtain ⟨n0, n1, n2, n3, _⟩ := rootC_at Hnx9.out
                have hltx := blk_lt Hnx9.out
                have hlt9 := blk_lt Hnow9.out
                obtain ⟨m0, m1, m2, m3, _⟩ := rootC_at Hnow9.out
                have hbr9 := hbr8.trans (hB9.mono hbr8.size)
                have hx9 := alloc_at w9 (.cells #[.int .i64 R2.serial, .int .i64 R2.tick, .int .i64 R2.commit, .slice a9 R2.blob.length c9] 24)
                go_wp2_with fail
                have hB910 := (Below.refl w9.heap.size w9).alloc (Nat.le_refl _) (.cells #[.int .i64 R2.serial, .int .i64 R2.tick, .int .i64 R2.commit, .slice a9 R2.blob.length c9] 24)
                obtain ⟨w10, hw10⟩ : ∃ w10, w9.alloc (.cells #[.int .i64 R2.serial, .int .i64 R2.tick, .int .i64 R2.commit, .slice a9 R2.blob.length c9] 24) = w10 := ⟨_, rfl⟩
                rw [hw10] at hB910 hx9 ⊢
                have hB810 := hB9.trans (hB910.mono hB9.size)
                have Hrow10 := Lib.hid ((Upd.ofBelow (fp := noFp) hB910).row HR9.out (fun _ _ h => h))
                have hbr10 := hbr9.trans (hB910.mono hbr9.size)
                have Hnow10 := Lib.hid ((hB910.block _ hlt9).trans Hnow9.out)
                have Hx10 := Lib.hid hx9
                clear hB9 hw10 hx9 hB910 hbr9 HR9 n0 n1 n2 n3 m0 m1 m2 m3
                refine (sameR_any _ R2.serial R2.tick R2.commit ((R.serial : Int) + 1) xt xc _ _ R2.blob xb (Rd.ofOwns Hrow10.out) (Hrx.out.below hbr10)).mono ?_
                rw [Hk4.out]
                rintro e w11 ⟨rfl, hB11⟩
                have Hnow11 := Lib.hid ((hB11.block _ (blk_lt Hnow10.out)).trans Hnow10.out)
                obtain ⟨m0, m1, m2, m3, f0, f1, f2, f3⟩ := rootC_at Hnow11.out
                obtain ⟨n0, n1, n2, n3, _⟩ := rootC_at ((hB11.block _ (blk_lt Hx10.out)).trans Hx10.out)
                have hltm := cell_lt m0
                have hltn := cell_lt n0
                have Hrow11 := Lib.hid ((Upd.ofBelow (fp := noFp) hB11).row Hrow10.out (fun _ _ h => h))
                have hbr11 := hbr10.trans (hB11.mono hbr10.size)
                have hB811 := hB810.trans (hB11.mono hB810.size)
                clear hB11 hB810 Hrow10 hbr10 Hnow10 Hx10
                go_wp2
                have hU := setCell4_upd (w := w11) (b := w0.heap.size) (.int .i64 R2.serial) (.int .i64 R2.tick) (.int .i64 R2.commit) (.slice a9 R2.blob.length c9)
                have hhn := setCell4_at Hnow11.out (.int .i64 R2.serial) (.int .i64 R2.tick) (.int .i64 R2.commit) (.slice a9 R2.blob.length c9)
                go_roundw
                case rel =>
                  have hw8 : w0.heap.size < w7.heap.size := D8.lt (HX2.out _ Hxn.out)
                  have hx3 : ∀ g, (Value.slice a9 R2.blob.length c9).ownBlock = some g → w7.heap.size ≤ g ∧ g < w11.heap.size := fun g hg => ⟨row_from Hrow11.out hg, row_lt Hrow11.out hg⟩
                  have D11 : DiskAt (fun k => exr k ∨ (w7.heap.size ≤ k ∧ k < w11.heap.size)) w11 p w.heap.size d' := D8.more hB811 (fun k hk => hk.elim (fun h => Or.inl (HX2.out k h)) Or.inr)
                  have D12 := D11.upd hU (fun k _ hk => by rw [hk]; exact Or.inl Hxn.out)
                  refine ⟨k + 1, d', R2, a9, c9, _, by omega, by omega, by omega, by go_num, D12, fun j hj => Or.inl (Hxx.out j hj), Or.inl Hxn.out, hhn, ?_, fun g hg => ⟨Or.inr (hx3 g hg), by have := (hx3 g hg).1; omega⟩, HG8.out, HR8.out, ?_, ?_⟩
                  · exact hU.row (ownsRow_base0 Hrow11.out) (fun g hg h => by have h1 := (hx3 g hg).1; have h2 : g = w0.heap.size := h; omega) 
                  · exact hbr11.trans (hU.below (fun k hk => by rw [hk]; exact hNw) hbr11.size)
                  · exact Nat.lt_of_lt_of_le (blk_lt Hnow11.out) hU.size
                case measure => simp [intOf]; omega
            · refine (write_err xs xt xc _ xb 15 D3 ht hc (Hrx.out.below hbr3) hbl3 hw (by decide)).mono ?_
              rintro e w4 ⟨rfl, D4, K4⟩
              have K4' := K3.trans K4
              have hbr4 : Below w.heap.size w w4 := hbr.trans (K4'.below (fun j hj => Hxx.out j hj))
              have hlt4 : w0.heap.size < w4.heap.size := D4.lt Hxn.out
              have Hnow4 := Lib.hid ((K4'.block _ Hxn.out).trans Hnow.out)
              have Hrow4 := Lib.hid (K4'.row Hrow.out (fun g hg => (Hxg.out g hg).1))
              obtain ⟨q0, q1, q2, q3, _⟩ := rootC_at Hnow4.out
              have c0'' := (K4'.cell (Hxx.out b hbW) _).trans c0
              have c1'' := (K4'.cell (Hxx.out b hbW) _).trans c1
              have c2'' := (K4'.cell (Hxx.out b hbW) _).trans c2_
              have c3'' := (K4'.cell (Hxx.out b hbW) _).trans c3
              have hltb := cell_lt c0''
              clear K4' K3 K4 D3
              have Hcr := Lib.hid hcr
              clear hw hcr her
              go_wp2_with fail
              have hB46 := ((Below.refl w4.heap.size w4).alloc (Nat.le_refl _) (.cells #[.int .i64 0, .int .i64 0, .int .i64 0, .slice none 0 0] 24))
              have hB47 := hB46.alloc hB46.size (.cells #[.int .i64 ((R.serial : Int) + 1), .int .i64 xt, .int .i64 xc, .slice ax xb.length cx] 24)
              have hnx := alloc_at (w4.alloc (.cells #[.int .i64 0, .int .i64 0, .int .i64 0, .slice none 0 0] 24)) (.cells #[.int .i64 ((R.serial : Int) + 1), .int .i64 xt, .int .i64 xc, .slice ax xb.length cx] 24)
              rw [World.size_alloc] at hnx
              obtain ⟨w6, hw6⟩ : ∃ w6, (w4.alloc (.cells #[.int .i64 0, .int .i64 0, .int .i64 0, .slice none 0 0] 24)).alloc (.cells #[.int .i64 ((R.serial : Int) + 1), .int .i64 xt, .int .i64 xc, .slice ax xb.length cx] 24) = w6 := ⟨_, rfl⟩
              rw [hw6] at hB47 hnx ⊢
              obtain ⟨ex2, hex2⟩ : ∃ ex2 : Nat → Prop, ex2 = fun k => exr k ∨ (w4.heap.size ≤ k ∧ k < w6.heap.size) := ⟨_, rfl⟩
              have D6 : DiskAt ex2 w6 p w.heap.size d' := D4.more hB47 (fun k hk => by rw [hex2] at hk; exact hk)
              have HX2 := Lib.hid (show ∀ k, exr k → ex2 k from fun k hk => by rw [hex2]; exact Or.inl hk)
              have Hnb2 := Lib.hid (show ex2 (w4.heap.size + 1) by rw [hex2]; exact Or.inr ⟨by omega, blk_lt hnx⟩)
              have Hnx6 := Lib.hid hnx
              have Hnow6 := Lib.hid ((hB47.block _ hlt4).trans Hnow4.out)
              have Hrow6 := Lib.hid ((Upd.ofBelow (fp := noFp) hB47).row Hrow4.out (fun _ _ h => h))
              have hbr6 := hbr4.trans (hB47.mono hbr4.size)
              clear hB46 hB47 hnx hw6 hex2 D4 q0 q1 q2 q3 c0'' c1'' c2'' c3'' hltb Hnow4 Hrow4
              refine (Crash_atK _ keeps D6 (Hrk.out.below hbr6) (by omega) Hik.out (fun k hk hne => HX2.out k (Hxx.out k (Hkb.out k hk hne)))).mono ?_
              rintro e w8 ⟨rfl, D8, K8⟩
              obtain ⟨d8, hd8⟩ : ∃ d8, d'.crash keeps = d8 := ⟨_, rfl⟩
              have HG8 := Lib.hid (Hcr.out keeps).1
              have HR8 := Lib.hid ((Hcr.out keeps).2.trans HR1.out)
              rw [hd8] at HG8 HR8 D8
              have Hnx8 := Lib.hid ((K8.block _ Hnb2.out).trans Hnx6.out)
              have Hnow8 := Lib.hid ((K8.block _ (HX2.out _ Hxn.out)).trans Hnow6.out)
              have Hrow8 := Lib.hid (K8.row Hrow6.out (fun g hg => HX2.out g (Hxg.out g hg).1))
              have hbr8 := hbr6.trans (K8.below (fun j hj => HX2.out j (Hxx.out j hj)))
              clear K8 D6 Hnx6 Hnow6 Hrow6 hd8 Hcr
              go_wp2_with fail
              rcases (show R.serial = 0 ∨ 0 < R.serial by omega) with hz | hz
              · have hpd : decide (0 < R.serial) = false := by simp; omega
                have hpi : ¬ (0 : Int) < (R.serial : Int) := by omega
                refine (read_by R 0 D8 HR8.out (readE_good HG8.out.toFair)).mono ?_
                rw [hpd]
                clear hpd hz
                rintro e w9 ⟨a9, c9, rfl, hR9, hB9⟩
                have HR9 := Lib.hid hR9
                clear hR9
                have Hnx9 := Lib.hid ((hB9.block _ (blk_lt Hnx8.out)).trans Hnx8.out)
                have Hnow9 := Lib.hid ((hB9.block _ (blk_lt Hnow8.out)).trans Hnow8.out)
                obtain ⟨n0, n1, n2, n3, _⟩ := rootC_at Hnx9.out
                have hltx := blk_lt Hnx9.out
                have hlt9 := blk_lt Hnow9.out
                obtain ⟨m0, m1, m2, m3, _⟩ := rootC_at Hnow9.out
                have hbr9 := hbr8.trans (hB9.mono hbr8.size)
                have hx9 := alloc_at w9 (.cells #[.int .i64 R.serial, .int .i64 R.tick, .int .i64 R.commit, .slice a9 R.blob.length c9] 24)
                go_wp2_with fail
                have hB910 := (Below.refl w9.heap.size w9).alloc (Nat.le_refl _) (.cells #[.int .i64 R.serial, .int .i64 R.tick, .int .i64 R.commit, .slice a9 R.blob.length c9] 24)
                obtain ⟨w10, hw10⟩ : ∃ w10, w9.alloc (.cells #[.int .i64 R.serial, .int .i64 R.tick, .int .i64 R.commit, .slice a9 R.blob.length c9] 24) = w10 := ⟨_, rfl⟩
                rw [hw10] at hB910 hx9 ⊢
                have hB810 := hB9.trans (hB910.mono hB9.size)
                have Hrow10 := Lib.hid ((Upd.ofBelow (fp := noFp) hB910).row HR9.out (fun _ _ h => h))
                have hbr10 := hbr9.trans (hB910.mono hbr9.size)
                have Hnow10 := Lib.hid ((hB910.block _ hlt9).trans Hnow9.out)
                have Hx10 := Lib.hid hx9
                clear hB9 hw10 hx9 hB910 hbr9 HR9 n0 n1 n2 n3 m0 m1 m2 m3
                refine (sameR_any _ R.serial R.tick R.commit ((R.serial : Int) + 1) xt xc _ _ R.blob xb (Rd.ofOwns Hrow10.out) (Hrx.out.below hbr10)).mono ?_
                rw [sameR_ser (by omega)]
                rintro e w10a ⟨rfl, hB10a⟩
                have hrow8 := (Upd.ofBelow (fp := noFp) hB810).row Hrow8.out (fun _ _ h => h)
                have Hrow10a := Lib.hid (Rd.ofOwns ((Upd.ofBelow (fp := noFp) hB10a).row Hrow10.out (fun _ _ h => h)))
                have Hold10a := Lib.hid (Rd.ofOwns ((Upd.ofBelow (fp := noFp) hB10a).row hrow8 (fun _ _ h => h)))
                obtain ⟨m0, m1, m2, m3, _⟩ := rootC_at ((hB10a.block _ (blk_lt Hnow10.out)).trans Hnow10.out)
                obtain ⟨n0, n1, n2, n3, _⟩ := rootC_at ((hB10a.block _ (blk_lt Hx10.out)).trans Hx10.out)
                have hltm := cell_lt m0
                have hltn := cell_lt n0
                clear hrow8
                go_wp2_with fail
                refine (sameR_any _ R.serial R.tick R.commit R.serial R.tick R.commit _ _ R.blob R.blob Hrow10a.out Hold10a.out).mono ?_
                rw [sameR_refl]
                rintro e w11 ⟨rfl, hB11'⟩
                have hB11 := hB10a.trans (hB11'.mono hB10a.size)
                clear hB10a hB11' Hold10a Hrow10a m0 m1 m2 m3 n0 n1 n2 n3 hltm hltn
                have Hnow11 := Lib.hid ((hB11.block _ (blk_lt Hnow10.out)).trans Hnow10.out)
                obtain ⟨m0, m1, m2, m3, f0, f1, f2, f3⟩ := rootC_at Hnow11.out
                obtain ⟨n0, n1, n2, n3, _⟩ := rootC_at ((hB11.block _ (blk_lt Hx10.out)).trans Hx10.out)
                have hltm := cell_lt m0
                have hltn := cell_lt n0
                have Hrow11 := Lib.hid ((Upd.ofBelow (fp := noFp) hB11).row Hrow10.out (fun _ _ h => h))
                have hbr11 := hbr10.trans (hB11.mono hbr10.size)
                have hB811 := hB810.trans (hB11.mono hB810.size)
                clear hB11 hB810 Hrow10 hbr10 Hnow10 Hx10
                go_wp2
                have hU := setCell4_upd (w := w11) (b := w0.heap.size) (.int .i64 R.serial) (.int .i64 R.tick) (.int .i64 R.commit) (.slice a9 R.blob.length c9)
                have hhn := setCell4_at Hnow11.out (.int .i64 R.serial) (.int .i64 R.tick) (.int .i64 R.commit) (.slice a9 R.blob.length c9)
                go_roundw
                case rel =>
                  have hw8 : w0.heap.size < w8.heap.size := D8.lt (HX2.out _ Hxn.out)
                  have hx3 : ∀ g, (Value.slice a9 R.blob.length c9).ownBlock = some g → w8.heap.size ≤ g ∧ g < w11.heap.size := fun g hg => ⟨row_from Hrow11.out hg, row_lt Hrow11.out hg⟩
                  have D11 : DiskAt (fun k => exr k ∨ (w8.heap.size ≤ k ∧ k < w11.heap.size)) w11 p w.heap.size d8 := D8.more hB811 (fun k hk => hk.elim (fun h => Or.inl (HX2.out k h)) Or.inr)
                  have D12 := D11.upd hU (fun k _ hk => by rw [hk]; exact Or.inl Hxn.out)
                  refine ⟨k + 1, d8, R, a9, c9, _, by omega, by omega, by omega, by go_num, D12, fun j hj => Or.inl (Hxx.out j hj), Or.inl Hxn.out, hhn, ?_, fun g hg => ⟨Or.inr (hx3 g hg), by have := (hx3 g hg).1; omega⟩, HG8.out, HR8.out, ?_, ?_⟩
                  · exact hU.row (ownsRow_base0 Hrow11.out) (fun g hg h => by have h1 := (hx3 g hg).1; have h2 : g = w0.heap.size := h; omega) 
                  · exact hbr11.trans (hU.below (fun k hk => by rw [hk]; exact hNw) hbr11.size)
                  · exact Nat.lt_of_lt_of_le (blk_lt Hnow11.out) hU.size
                case measure => simp [intOf]; omega
              · have hpd : decide (0 < R.serial) = true := by simp; omega
                have hpi : (0 : Int) < (R.serial : Int) := by omega
                refine (read_by R 0 D8 HR8.out (readE_good HG8.out.toFair)).mono ?_
                rw [hpd]
                clear hpd
                rintro e w9 ⟨a9, c9, rfl, hR9, hB9⟩
                have HR9 := Lib.hid hR9
                clear hR9
                have Hnx9 := Lib.hid ((hB9.block _ (blk_lt Hnx8.out)).trans Hnx8.out)
                have Hnow9 := Lib.hid ((hB9.block _ (blk_lt Hnow8.out)).trans Hnow8.out)
                obtain ⟨n0, n1, n2, n3, _⟩ := rootC_at Hnx9.out
                have hltx := blk_lt Hnx9.out
                have hlt9 := blk_lt Hnow9.out
                obtain ⟨m0, m1, m2, m3, _⟩ := rootC_at Hnow9.out
                have hbr9 := hbr8.trans (hB9.mono hbr8.size)
                have hx9 := alloc_at w9 (.cells #[.int .i64 R.serial, .int .i64 R.tick, .int .i64 R.commit, .slice a9 R.blob.length c9] 24)
                go_wp2_with fail
                have hB910 := (Below.refl w9.heap.size w9).alloc (Nat.le_refl _) (.cells #[.int .i64 R.serial, .int .i64 R.tick, .int .i64 R.commit, .slice a9 R.blob.length c9] 24)
                obtain ⟨w10, hw10⟩ : ∃ w10, w9.alloc (.cells #[.int .i64 R.serial, .int .i64 R.tick, .int .i64 R.commit, .slice a9 R.blob.length c9] 24) = w10 := ⟨_, rfl⟩
                rw [hw10] at hB910 hx9 ⊢
                have hB810 := hB9.trans (hB910.mono hB9.size)
                have Hrow10 := Lib.hid ((Upd.ofBelow (fp := noFp) hB910).row HR9.out (fun _ _ h => h))
                have hbr10 := hbr9.trans (hB910.mono hbr9.size)
                have Hnow10 := Lib.hid ((hB910.block _ hlt9).trans Hnow9.out)
                have Hx10 := Lib.hid hx9
                clear hB9 hw10 hx9 hB910 hbr9 HR9 n0 n1 n2 n3 m0 m1 m2 m3
                refine (sameR_any _ R.serial R.tick R.commit ((R.serial : Int) + 1) xt xc _ _ R.blob xb (Rd.ofOwns Hrow10.out) (Hrx.out.below hbr10)).mono ?_
                rw [sameR_ser (by omega)]
                rintro e w10a ⟨rfl, hB10a⟩
                have hrow8 := (Upd.ofBelow (fp := noFp) hB810).row Hrow8.out (fun _ _ h => h)
                have Hrow10a := Lib.hid (Rd.ofOwns ((Upd.ofBelow (fp := noFp) hB10a).row Hrow10.out (fun _ _ h => h)))
                have Hold10a := Lib.hid (Rd.ofOwns ((Upd.ofBelow (fp := noFp) hB10a).row hrow8 (fun _ _ h => h)))
                obtain ⟨m0, m1, m2, m3, _⟩ := rootC_at ((hB10a.block _ (blk_lt Hnow10.out)).trans Hnow10.out)
                obtain ⟨n0, n1, n2, n3, _⟩ := rootC_at ((hB10a.block _ (blk_lt Hx10.out)).trans Hx10.out)
                have hltm := cell_lt m0
                have hltn := cell_lt n0
                clear hrow8
                go_wp2_with fail
                refine (sameR_any _ R.serial R.tick R.commit R.serial R.tick R.commit _ _ R.blob R.blob Hrow10a.out Hold10a.out).mono ?_
                rw [sameR_refl]
                rintro e w11 ⟨rfl, hB11'⟩
                have hB11 := hB10a.trans (hB11'.mono hB10a.size)
                clear hB10a hB11' Hold10a Hrow10a m0 m1 m2 m3 n0 n1 n2 n3 hltm hltn
                have Hnow11 := Lib.hid ((hB11.block _ (blk_lt Hnow10.out)).trans Hnow10.out)
                obtain ⟨m0, m1, m2, m3, f0, f1, f2, f3⟩ := rootC_at Hnow11.out
                obtain ⟨n0, n1, n2, n3, _⟩ := rootC_at ((hB11.block _ (blk_lt Hx10.out)).trans Hx10.out)
                have hltm := cell_lt m0
                have hltn := cell_lt n0
                have Hrow11 := Lib.hid ((Upd.ofBelow (fp := noFp) hB11).row Hrow10.out (fun _ _ h => h))
                have hbr11 := hbr10.trans (hB11.mono hbr10.size)
                have hB811 := hB810.trans (hB11.mono hB810.size)
                clear hB11 hB810 Hrow10 hbr10 Hnow10 Hx10
                go_wp2
                have hU := setCell4_upd (w := w11) (b := w0.heap.size) (.int .i64 R.serial) (.int .i64 R.tick) (.int .i64 R.commit) (.slice a9 R.blob.length c9)
                have hhn := setCell4_at Hnow11.out (.int .i64 R.serial) (.int .i64 R.tick) (.int .i64 R.commit) (.slice a9 R.blob.length c9)
                go_roundw
                case rel =>
                  have hw8 : w0.heap.size < w8.heap.size := D8.lt (HX2.out _ Hxn.out)
                  have hx3 : ∀ g, (Value.slice a9 R.blob.length c9).ownBlock = some g → w8.heap.size ≤ g ∧ g < w11.heap.size := fun g hg => ⟨row_from Hrow11.out hg, row_lt Hrow11.out hg⟩
                  have D11 : DiskAt (fun k => exr k ∨ (w8.heap.size ≤ k ∧ k < w11.heap.size)) w11 p w.heap.size d8 := D8.more hB811 (fun k hk => hk.elim (fun h => Or.inl (HX2.out k h)) Or.inr)
                  have D12 := D11.upd hU (fun k _ hk => by rw [hk]; exact Or.inl Hxn.out)
                  refine ⟨k + 1, d8, R, a9, c9, _, by omega, by omega, by omega, by go_num, D12, fun j hj => Or.inl (Hxx.out j hj), Or.inl Hxn.out, hhn, ?_, fun g hg => ⟨Or.inr (hx3 g hg), by have := (hx3 g hg).1; omega⟩, HG8.out, HR8.out, ?_, ?_⟩
                  · exact hU.row (ownsRow_base0 Hrow11.out) (fun g hg h => by have h1 := (hx3 g hg).1; have h2 : g = w0.heap.size := h; omega) 
                  · exact hbr11.trans (hU.below (fun k hk => by rw [hk]; exact hNw) hbr11.size)
                  · exact Nat.lt_of_lt_of_le (blk_lt Hnow11.out) hU.size
                case measure => simp [intOf]; omega
          · have hw := switch_no HG1.out Hser1.out her
            refine (write_err xs xt xc _ xb 2 D3 ht hc (Hrx.out.below hbr3) hbl3 hw (by decide)).mono ?_
            rintro e w4 ⟨rfl, D4, K4⟩
            have K4' := K3.trans K4
            have hbr4 : Below w.heap.size w w4 := hbr.trans (K4'.below (fun j hj => Hxx.out j hj))
            have hlt4 : w0.heap.size < w4.heap.size := D4.lt Hxn.out
            have Hnow4 := Lib.hid ((K4'.block _ Hxn.out).trans Hnow.out)
            have Hrow4 := Lib.hid (K4'.row Hrow.out (fun g hg => (Hxg.out g hg).1))
            have HK4 := Lib.hid K4'
            clear hw K4' K3 K4 D3
            go_wp2
            go_roundw
            case rel =>
              have hB5 := (Below.refl w4.heap.size w4).alloc (Nat.le_refl _) (.cells #[.int .i64 0, .int .i64 0, .int .i64 0, .slice none 0 0] 24)
              exact ⟨k + 1, d1, R, a', c', exr, by omega, by omega, by omega, by go_num, D4.alloc _, Hxx.out, Hxn.out, (hB5.block _ hlt4).trans Hnow4.out, (Upd.ofBelow (fp := noFp) hB5).row Hrow4.out (fun _ _ h => h), Hxg.out, HG1.out, HR1.out, hbr4.trans (hB5.mono hbr4.size), Nat.lt_of_lt_of_le hlt4 hB5.size⟩
            case measure => simp [intOf]; omega
        · have D3 := hD
          rw [Hd11.out hA2] at D3
          have K3 := Keep.refl exr wr
          have hbr3 := hbr
          go_wp2_with fail
          rcases rb_write R.serial xt xc (b := xb) hbl1 with her | her
          · rcases switch_step HG1.out Hser1.out her hbl2 with ⟨d', hw, hG', hR', hcr⟩ | ⟨d', hw, hcr⟩
            · refine (write_ok xs xt xc ((R.serial : Int) + 1) _ xb D3 ht hc (Hrx.out.below hbr3) hbl3 hw (by rw [Hser1.out])).mono ?_
              rintro e w4 ⟨rfl, D4, K4⟩
              have K4' := K3.trans K4
              have hbr4 : Below w.heap.size w w4 := hbr.trans (K4'.below (fun j hj => Hxx.out j hj))
              have hlt4 : w0.heap.size < w4.heap.size := D4.lt Hxn.out
              have Hnow4 := Lib.hid ((K4'.block _ Hxn.out).trans Hnow.out)
              have Hrow4 := Lib.hid (K4'.row Hrow.out (fun g hg => (Hxg.out g hg).1))
              obtain ⟨q0, q1, q2, q3, _⟩ := rootC_at Hnow4.out
              have c0'' := (K4'.cell (Hxx.out b hbW) _).trans c0
              have c1'' := (K4'.cell (Hxx.out b hbW) _).trans c1
              have c2'' := (K4'.cell (Hxx.out b hbW) _).trans c2_
              have c3'' := (K4'.cell (Hxx.out b hbW) _).trans c3
              have hltb := cell_lt c0''
              clear K4' K3 K4 D3
              obtain ⟨R2, hR2e⟩ : ∃ R2, aroot ((R.serial + 1 : Nat) : Int) xt xc xb = R2 := ⟨_, rfl⟩
              have hk4 := back4 (s := ((R.serial + 1 : Nat) : Int)) her
              have hre : R2.serial = R.serial + 1 := by rw [← hR2e]; simp [aroot]
              rw [hR2e] at hR' hk4
              rw [hR2e] at hcr
              rw [Hsi.out] at hk4
              have hpos : decide (0 < R2.serial) = true := by simp; omega
              have hpi : (0 : Int) < (R2.serial : Int) := by omega
              have hpn : 0 < R2.serial := by omega
              have hRl2 := readR_le d'
              rw [hR'] at hRl2
              have HG7 := Lib.hid hG'
              have HR7 := Lib.hid hR'
              have Hcr := Lib.hid hcr
              have Hk4 := Lib.hid hk4
              have Hpos := Lib.hid hpos
              have HRl2 := Lib.hid hRl2
              clear hw hG' hR' hcr hR2e hk4 hre hpos hRl2 her
              go_wp2_with fail
              have hB46 := ((Below.refl w4.heap.size w4).alloc (Nat.le_refl _) (.cells #[.int .i64 ((R.serial : Int) + 1), .int .i64 xt, .int .i64 xc, .slice ax xb.length cx] 24))
              have hB47 := hB46.alloc hB46.size (.cells #[.int .i64 ((R.serial : Int) + 1), .int .i64 xt, .int .i64 xc, .slice ax xb.length cx] 24)
              have hnx := alloc_at (w4.alloc (.cells #[.int .i64 ((R.serial : Int) + 1), .int .i64 xt, .int .i64 xc, .slice ax xb.length cx] 24)) (.cells #[.int .i64 ((R.serial : Int) + 1), .int .i64 xt, .int .i64 xc, .slice ax xb.length cx] 24)
              rw [World.size_alloc] at hnx
              obtain ⟨w6, hw6⟩ : ∃ w6, (w4.alloc (.cells #[.int .i64 ((R.serial : Int) + 1), .int .i64 xt, .int .i64 xc, .slice ax xb.length cx] 24)).alloc (.cells #[.int .i64 ((R.serial : Int) + 1), .int .i64 xt, .int .i64 xc, .slice ax xb.length cx] 24) = w6 := ⟨_, rfl⟩
              rw [hw6] at hB47 hnx ⊢
              obtain ⟨ex2, hex2⟩ : ∃ ex2 : Nat → Prop, ex2 = fun k => exr k ∨ (w4.heap.size ≤ k ∧ k < w6.heap.size) := ⟨_, rfl⟩
              have D6 : DiskAt ex2 w6 p w.heap.size d' := D4.more hB47 (fun k hk => by rw [hex2] at hk; exact hk)
              have HX2 := Lib.hid (show ∀ k, exr k → ex2 k from fun k hk => by rw [hex2]; exact Or.inl hk)
              have Hnb2 := Lib.hid (show ex2 (w4.heap.size + 1) by rw [hex2]; exact Or.inr ⟨by omega, blk_lt hnx⟩)
              have Hnx6 := Lib.hid hnx
              have Hnow6 := Lib.hid ((hB47.block _ hlt4).trans Hnow4.out)
              have Hrow6 := Lib.hid ((Upd.ofBelow (fp := noFp) hB47).row Hrow4.out (fun _ _ h => h))
              have hbr6 := hbr4.trans (hB47.mono hbr4.size)
              clear hB46 hB47 hnx hw6 hex2 D4 q0 q1 q2 q3 c0'' c1'' c2'' c3'' hltb Hnow4 Hrow4
              refine (sameR_any _ ((R.serial : Int) + 1) xt xc ((R.serial : Int) + 1) xt xc _ _ xb xb (Hrx.out.below hbr6) (Hrx.out.below hbr6)).mono ?_
              rw [sameR_refl]
              rintro e w7 ⟨rfl, hB7⟩
              have D7 := D6.below hB7
              have Hnx7 := Lib.hid ((hB7.block _ (blk_lt Hnx6.out)).trans Hnx6.out)
              have Hnow7 := Lib.hid ((hB7.block _ (blk_lt Hnow6.out)).trans Hnow6.out)
              have hbr7 := hbr6.trans (hB7.mono hbr6.size)
              clear Hnx6 Hnow6 hB7 D6 Hrow6
              rcases Decidable.em (A % 3 = 0) with hA3 | hA3
              · go_wp2_with fail
                refine (Crash_atK _ keeps D7 (Hrk.out.below hbr7) (by omega) Hik.out (fun k hk hne => HX2.out k (Hxx.out k (Hkb.out k hk hne)))).mono ?_
                rintro e w8 ⟨rfl, D8, K8⟩
                obtain ⟨d8, hd8⟩ : ∃ d8, d'.crash keeps = d8 := ⟨_, rfl⟩
                have HG8 := Lib.hid (Hcr.out keeps).1
                have HR8 := Lib.hid (Hcr.out keeps).2
                rw [hd8] at HG8 HR8 D8
                have Hnx8 := Lib.hid ((K8.block _ Hnb2.out).trans Hnx7.out)
                have Hnow8 := Lib.hid ((K8.block _ (HX2.out _ Hxn.out)).trans Hnow7.out)
                have hbr8 := hbr7.trans (K8.below (fun j hj => HX2.out j (Hxx.out j hj)))
                clear K8 D7 Hnx7 Hnow7 hd8 Hcr HG7 HR7
                go_wp2_with fail
                refine (read_by R2 0 D8 HR8.out (readE_good HG8.out.toFair)).mono ?_
                rw [Hpos.out]
                rintro e w9 ⟨a9, c9, rfl, hR9, hB9⟩
                have HR9 := Lib.hid hR9
                clear hR9
                have Hnx9 := Lib.hid ((hB9.block _ (blk_lt Hnx8.out)).trans Hnx8.out)
                have Hnow9 := Lib.hid ((hB9.block _ (blk_lt Hnow8.out)).trans Hnow8.out)
                obtain ⟨n0, n1, n2, n3, _⟩ := rootC_at Hnx9.out
                have hltx := blk_lt Hnx9.out
                have hlt9 := blk_lt Hnow9.out
                obtain ⟨m0, m1, m2, m3, _⟩ := rootC_at Hnow9.out
                have hbr9 := hbr8.trans (hB9.mono hbr8.size)
                have hx9 := alloc_at w9 (.cells #[.int .i64 R2.serial, .int .i64 R2.tick, .int .i64 R2.commit, .slice a9 R2.blob.length c9] 24)
                go_wp2_with fail
                have hB910 := (Below.refl w9.heap.size w9).alloc (Nat.le_refl _) (.cells #[.int .i64 R2.serial, .int .i64 R2.tick, .int .i64 R2.commit, .slice a9 R2.blob.length c9] 24)
                obtain ⟨w10, hw10⟩ : ∃ w10, w9.alloc (.cells #[.int .i64 R2.serial, .int .i64 R2.tick, .int .i64 R2.commit, .slice a9 R2.blob.length c9] 24) = w10 := ⟨_, rfl⟩
                rw [hw10] at hB910 hx9 ⊢
                have hB810 := hB9.trans (hB910.mono hB9.size)
                have Hrow10 := Lib.hid ((Upd.ofBelow (fp := noFp) hB910).row HR9.out (fun _ _ h => h))
                have hbr10 := hbr9.trans (hB910.mono hbr9.size)
                have Hnow10 := Lib.hid ((hB910.block _ hlt9).trans Hnow9.out)
                have Hx10 := Lib.hid hx9
                clear hB9 hw10 hx9 hB910 hbr9 HR9 n0 n1 n2 n3 m0 m1 m2 m3
                refine (sameR_any _ R2.serial R2.tick R2.commit ((R.serial : Int) + 1) xt xc _ _ R2.blob xb (Rd.ofOwns Hrow10.out) (Hrx.out.below hbr10)).mono ?_
                rw [Hk4.out]
                rintro e w11 ⟨rfl, hB11⟩
                have Hnow11 := Lib.hid ((hB11.block _ (blk_lt Hnow10.out)).trans Hnow10.out)
                obtain ⟨m0, m1, m2, m3, f0, f1, f2, f3⟩ := rootC_at Hnow11.out
                obtain ⟨n0, n1, n2, n3, _⟩ := rootC_at ((hB11.block _ (blk_lt Hx10.out)).trans Hx10.out)
                have hltm := cell_lt m0
                have hltn := cell_lt n0
                have Hrow11 := Lib.hid ((Upd.ofBelow (fp := noFp) hB11).row Hrow10.out (fun _ _ h => h))
                have hbr11 := hbr10.trans (hB11.mono hbr10.size)
                have hB811 := hB810.trans (hB11.mono hB810.size)
                clear hB11 hB810 Hrow10 hbr10 Hnow10 Hx10
                go_wp2
                have hU := setCell4_upd (w := w11) (b := w0.heap.size) (.int .i64 R2.serial) (.int .i64 R2.tick) (.int .i64 R2.commit) (.slice a9 R2.blob.length c9)
                have hhn := setCell4_at Hnow11.out (.int .i64 R2.serial) (.int .i64 R2.tick) (.int .i64 R2.commit) (.slice a9 R2.blob.length c9)
                go_roundw
                case rel =>
                  have hw8 : w0.heap.size < w8.heap.size := D8.lt (HX2.out _ Hxn.out)
                  have hx3 : ∀ g, (Value.slice a9 R2.blob.length c9).ownBlock = some g → w8.heap.size ≤ g ∧ g < w11.heap.size := fun g hg => ⟨row_from Hrow11.out hg, row_lt Hrow11.out hg⟩
                  have D11 : DiskAt (fun k => exr k ∨ (w8.heap.size ≤ k ∧ k < w11.heap.size)) w11 p w.heap.size d8 := D8.more hB811 (fun k hk => hk.elim (fun h => Or.inl (HX2.out k h)) Or.inr)
                  have D12 := D11.upd hU (fun k _ hk => by rw [hk]; exact Or.inl Hxn.out)
                  refine ⟨k + 1, d8, R2, a9, c9, _, by omega, by omega, by omega, by go_num, D12, fun j hj => Or.inl (Hxx.out j hj), Or.inl Hxn.out, hhn, ?_, fun g hg => ⟨Or.inr (hx3 g hg), by have := (hx3 g hg).1; omega⟩, HG8.out, HR8.out, ?_, ?_⟩
                  · exact hU.row (ownsRow_base0 Hrow11.out) (fun g hg h => by have h1 := (hx3 g hg).1; have h2 : g = w0.heap.size := h; omega) 
                  · exact hbr11.trans (hU.below (fun k hk => by rw [hk]; exact hNw) hbr11.size)
                  · exact Nat.lt_of_lt_of_le (blk_lt Hnow11.out) hU.size
                case measure => simp [intOf]; omega
              · have D8 := D7
                have HG8 := HG7
                have HR8 := HR7
                have Hnx8 := Hnx7
                have Hnow8 := Hnow7
                have hbr8 := hbr7
                clear Hcr HG7 HR7 D7 Hnx7 Hnow7 hbr7
                go_wp2_with fail
                refine (read_by R2 0 D8 HR8.out (readE_good HG8.out.toFair)).mono ?_
                rw [Hpos.out]
                rintro e w9 ⟨a9, c9, rfl, hR9, hB9⟩
                have HR9 := Lib.hid hR9
                clear hR9
                have Hnx9 := Lib.hid ((hB9.block _ (blk_lt Hnx8.out)).trans Hnx8.out)
                have Hnow9 := Lib.hid ((hB9.block _ (blk_lt Hnow8.out)).trans Hnow8.out)
                obtain ⟨n0, n1, n2, n3, _⟩ := rootC_at Hnx9.out
                have hltx := blk_lt Hnx9.out
                have hlt9 := blk_lt Hnow9.out
                obtain ⟨m0, m1, m2, m3, _⟩ := rootC_at Hnow9.out
                have hbr9 := hbr8.trans (hB9.mono hbr8.size)
                have hx9 := alloc_at w9 (.cells #[.int .i64 R2.serial, .int .i64 R2.tick, .int .i64 R2.commit, .slice a9 R2.blob.length c9] 24)
                go_wp2_with fail
                have hB910 := (Below.refl w9.heap.size w9).alloc (Nat.le_refl _) (.cells #[.int .i64 R2.serial, .int .i64 R2.tick, .int .i64 R2.commit, .slice a9 R2.blob.length c9] 24)
                obtain ⟨w10, hw10⟩ : ∃ w10, w9.alloc (.cells #[.int .i64 R2.serial, .int .i64 R2.tick, .int .i64 R2.commit, .slice a9 R2.blob.length c9] 24) = w10 := ⟨_, rfl⟩
                rw [hw10] at hB910 hx9 ⊢
                have hB810 := hB9.trans (hB910.mono hB9.size)
                have Hrow10 := Lib.hid ((Upd.ofBelow (fp := noFp) hB910).row HR9.out (fun _ _ h => h))
                have hbr10 := hbr9.trans (hB910.mono hbr9.size)
                have Hnow10 := Lib.hid ((hB910.block _ hlt9).trans Hnow9.out)
                have Hx10 := Lib.hid hx9
                clear hB9 hw10 hx9 hB910 hbr9 HR9 n0 n1 n2 n3 m0 m1 m2 m3
                refine (sameR_any _ R2.serial R2.tick R2.commit ((R.serial : Int) + 1) xt xc _ _ R2.blob xb (Rd.ofOwns Hrow10.out) (Hrx.out.below hbr10)).mono ?_
                rw [Hk4.out]
                rintro e w11 ⟨rfl, hB11⟩
                have Hnow11 := Lib.hid ((hB11.block _ (blk_lt Hnow10.out)).trans Hnow10.out)
                obtain ⟨m0, m1, m2, m3, f0, f1, f2, f3⟩ := rootC_at Hnow11.out
                obtain ⟨n0, n1, n2, n3, _⟩ := rootC_at ((hB11.block _ (blk_lt Hx10.out)).trans Hx10.out)
                have hltm := cell_lt m0
                have hltn := cell_lt n0
                have Hrow11 := Lib.hid ((Upd.ofBelow (fp := noFp) hB11).row Hrow10.out (fun _ _ h => h))
                have hbr11 := hbr10.trans (hB11.mono hbr10.size)
                have hB811 := hB810.trans (hB11.mono hB810.size)
                clear hB11 hB810 Hrow10 hbr10 Hnow10 Hx10
                go_wp2
                have hU := setCell4_upd (w := w11) (b := w0.heap.size) (.int .i64 R2.serial) (.int .i64 R2.tick) (.int .i64 R2.commit) (.slice a9 R2.blob.length c9)
                have hhn := setCell4_at Hnow11.out (.int .i64 R2.serial) (.int .i64 R2.tick) (.int .i64 R2.commit) (.slice a9 R2.blob.length c9)
                go_roundw
                case rel =>
                  have hw8 : w0.heap.size < w7.heap.size := D8.lt (HX2.out _ Hxn.out)
                  have hx3 : ∀ g, (Value.slice a9 R2.blob.length c9).ownBlock = some g → w7.heap.size ≤ g ∧ g < w11.heap.size := fun g hg => ⟨row_from Hrow11.out hg, row_lt Hrow11.out hg⟩
                  have D11 : DiskAt (fun k => exr k ∨ (w7.heap.size ≤ k ∧ k < w11.heap.size)) w11 p w.heap.size d' := D8.more hB811 (fun k hk => hk.elim (fun h => Or.inl (HX2.out k h)) Or.inr)
                  have D12 := D11.upd hU (fun k _ hk => by rw [hk]; exact Or.inl Hxn.out)
                  refine ⟨k + 1, d', R2, a9, c9, _, by omega, by omega, by omega, by go_num, D12, fun j hj => Or.inl (Hxx.out j hj), Or.inl Hxn.out, hhn, ?_, fun g hg => ⟨Or.inr (hx3 g hg), by have := (hx3 g hg).1; omega⟩, HG8.out, HR8.out, ?_, ?_⟩
                  · exact hU.row (ownsRow_base0 Hrow11.out) (fun g hg h => by have h1 := (hx3 g hg).1; have h2 : g = w0.heap.size := h; omega) 
                  · exact hbr11.trans (hU.below (fun k hk => by rw [hk]; exact hNw) hbr11.size)
                  · exact Nat.lt_of_lt_of_le (blk_lt Hnow11.out) hU.size
                case measure => simp [intOf]; omega
            · refine (write_err xs xt xc _ xb 15 D3 ht hc (Hrx.out.below hbr3) hbl3 hw (by decide)).mono ?_
              rintro e w4 ⟨rfl, D4, K4⟩
              have K4' := K3.trans K4
              have hbr4 : Below w.heap.size w w4 := hbr.trans (K4'.below (fun j hj => Hxx.out j hj))
              have hlt4 : w0.heap.size < w4.heap.size := D4.lt Hxn.out
              have Hnow4 := Lib.hid ((K4'.block _ Hxn.out).trans Hnow.out)
              have Hrow4 := Lib.hid (K4'.row Hrow.out (fun g hg => (Hxg.out g hg).1))
              obtain ⟨q0, q1, q2, q3, _⟩ := rootC_at Hnow4.out
              have c0'' := (K4'.cell (Hxx.out b hbW) _).trans c0
              have c1'' := (K4'.cell (Hxx.out b hbW) _).trans c1
              have c2'' := (K4'.cell (Hxx.out b hbW) _).trans c2_
              have c3'' := (K4'.cell (Hxx.out b hbW) _).trans c3
              have hltb := cell_lt c0''
              clear K4' K3 K4 D3
              have Hcr := Lib.hid hcr
              clear hw hcr her
              go_wp2_with fail
              have hB46 := ((Below.refl w4.heap.size w4).alloc (Nat.le_refl _) (.cells #[.int .i64 0, .int .i64 0, .int .i64 0, .slice none 0 0] 24))
              have hB47 := hB46.alloc hB46.size (.cells #[.int .i64 ((R.serial : Int) + 1), .int .i64 xt, .int .i64 xc, .slice ax xb.length cx] 24)
              have hnx := alloc_at (w4.alloc (.cells #[.int .i64 0, .int .i64 0, .int .i64 0, .slice none 0 0] 24)) (.cells #[.int .i64 ((R.serial : Int) + 1), .int .i64 xt, .int .i64 xc, .slice ax xb.length cx] 24)
              rw [World.size_alloc] at hnx
              obtain ⟨w6, hw6⟩ : ∃ w6, (w4.alloc (.cells #[.int .i64 0, .int .i64 0, .int .i64 0, .slice none 0 0] 24)).alloc (.cells #[.int .i64 ((R.serial : Int) + 1), .int .i64 xt, .int .i64 xc, .slice ax xb.length cx] 24) = w6 := ⟨_, rfl⟩
              rw [hw6] at hB47 hnx ⊢
              obtain ⟨ex2, hex2⟩ : ∃ ex2 : Nat → Prop, ex2 = fun k => exr k ∨ (w4.heap.size ≤ k ∧ k < w6.heap.size) := ⟨_, rfl⟩
              have D6 : DiskAt ex2 w6 p w.heap.size d' := D4.more hB47 (fun k hk => by rw [hex2] at hk; exact hk)
              have HX2 := Lib.hid (show ∀ k, exr k → ex2 k from fun k hk => by rw [hex2]; exact Or.inl hk)
              have Hnb2 := Lib.hid (show ex2 (w4.heap.size + 1) by rw [hex2]; exact Or.inr ⟨by omega, blk_lt hnx⟩)
              have Hnx6 := Lib.hid hnx
              have Hnow6 := Lib.hid ((hB47.block _ hlt4).trans Hnow4.out)
              have Hrow6 := Lib.hid ((Upd.ofBelow (fp := noFp) hB47).row Hrow4.out (fun _ _ h => h))
              have hbr6 := hbr4.trans (hB47.mono hbr4.size)
              clear hB46 hB47 hnx hw6 hex2 D4 q0 q1 q2 q3 c0'' c1'' c2'' c3'' hltb Hnow4 Hrow4
              refine (Crash_atK _ keeps D6 (Hrk.out.below hbr6) (by omega) Hik.out (fun k hk hne => HX2.out k (Hxx.out k (Hkb.out k hk hne)))).mono ?_
              rintro e w8 ⟨rfl, D8, K8⟩
              obtain ⟨d8, hd8⟩ : ∃ d8, d'.crash keeps = d8 := ⟨_, rfl⟩
              have HG8 := Lib.hid (Hcr.out keeps).1
              have HR8 := Lib.hid ((Hcr.out keeps).2.trans HR1.out)
              rw [hd8] at HG8 HR8 D8
              have Hnx8 := Lib.hid ((K8.block _ Hnb2.out).trans Hnx6.out)
              have Hnow8 := Lib.hid ((K8.block _ (HX2.out _ Hxn.out)).trans Hnow6.out)
              have Hrow8 := Lib.hid (K8.row Hrow6.out (fun g hg => HX2.out g (Hxg.out g hg).1))
              have hbr8 := hbr6.trans (K8.below (fun j hj => HX2.out j (Hxx.out j hj)))
              clear K8 D6 Hnx6 Hnow6 Hrow6 hd8 Hcr
              go_wp2_with fail
              rcases (show R.serial = 0 ∨ 0 < R.serial by omega) with hz | hz
              · have hpd : decide (0 < R.serial) = false := by simp; omega
                have hpi : ¬ (0 : Int) < (R.serial : Int) := by omega
                refine (read_by R 0 D8 HR8.out (readE_good HG8.out.toFair)).mono ?_
                rw [hpd]
                clear hpd hz
                rintro e w9 ⟨a9, c9, rfl, hR9, hB9⟩
                have HR9 := Lib.hid hR9
                clear hR9
                have Hnx9 := Lib.hid ((hB9.block _ (blk_lt Hnx8.out)).trans Hnx8.out)
                have Hnow9 := Lib.hid ((hB9.block _ (blk_lt Hnow8.out)).trans Hnow8.out)
                obtain ⟨n0, n1, n2, n3, _⟩ := rootC_at Hnx9.out
                have hltx := blk_lt Hnx9.out
                have hlt9 := blk_lt Hnow9.out
                obtain ⟨m0, m1, m2, m3, _⟩ := rootC_at Hnow9.out
                have hbr9 := hbr8.trans (hB9.mono hbr8.size)
                have hx9 := alloc_at w9 (.cells #[.int .i64 R.serial, .int .i64 R.tick, .int .i64 R.commit, .slice a9 R.blob.length c9] 24)
                go_wp2_with fail
                have hB910 := (Below.refl w9.heap.size w9).alloc (Nat.le_refl _) (.cells #[.int .i64 R.serial, .int .i64 R.tick, .int .i64 R.commit, .slice a9 R.blob.length c9] 24)
                obtain ⟨w10, hw10⟩ : ∃ w10, w9.alloc (.cells #[.int .i64 R.serial, .int .i64 R.tick, .int .i64 R.commit, .slice a9 R.blob.length c9] 24) = w10 := ⟨_, rfl⟩
                rw [hw10] at hB910 hx9 ⊢
                have hB810 := hB9.trans (hB910.mono hB9.size)
                have Hrow10 := Lib.hid ((Upd.ofBelow (fp := noFp) hB910).row HR9.out (fun _ _ h => h))
                have hbr10 := hbr9.trans (hB910.mono hbr9.size)
                have Hnow10 := Lib.hid ((hB910.block _ hlt9).trans Hnow9.out)
                have Hx10 := Lib.hid hx9
                clear hB9 hw10 hx9 hB910 hbr9 HR9 n0 n1 n2 n3 m0 m1 m2 m3
                refine (sameR_any _ R.serial R.tick R.commit ((R.serial : Int) + 1) xt xc _ _ R.blob xb (Rd.ofOwns Hrow10.out) (Hrx.out.below hbr10)).mono ?_
                rw [sameR_ser (by omega)]
                rintro e w10a ⟨rfl, hB10a⟩
                have hrow8 := (Upd.ofBelow (fp := noFp) hB810).row Hrow8.out (fun _ _ h => h)
                have Hrow10a := Lib.hid (Rd.ofOwns ((Upd.ofBelow (fp := noFp) hB10a).row Hrow10.out (fun _ _ h => h)))
                have Hold10a := Lib.hid (Rd.ofOwns ((Upd.ofBelow (fp := noFp) hB10a).row hrow8 (fun _ _ h => h)))
                obtain ⟨m0, m1, m2, m3, _⟩ := rootC_at ((hB10a.block _ (blk_lt Hnow10.out)).trans Hnow10.out)
                obtain ⟨n0, n1, n2, n3, _⟩ := rootC_at ((hB10a.block _ (blk_lt Hx10.out)).trans Hx10.out)
                have hltm := cell_lt m0
                have hltn := cell_lt n0
                clear hrow8
                go_wp2_with fail
                refine (sameR_any _ R.serial R.tick R.commit R.serial R.tick R.commit _ _ R.blob R.blob Hrow10a.out Hold10a.out).mono ?_
                rw [sameR_refl]
                rintro e w11 ⟨rfl, hB11'⟩
                have hB11 := hB10a.trans (hB11'.mono hB10a.size)
                clear hB10a hB11' Hold10a Hrow10a m0 m1 m2 m3 n0 n1 n2 n3 hltm hltn
                have Hnow11 := Lib.hid ((hB11.block _ (blk_lt Hnow10.out)).trans Hnow10.out)
                obtain ⟨m0, m1, m2, m3, f0, f1, f2, f3⟩ := rootC_at Hnow11.out
                obtain ⟨n0, n1, n2, n3, _⟩ := rootC_at ((hB11.block _ (blk_lt Hx10.out)).trans Hx10.out)
                have hltm := cell_lt m0
                have hltn := cell_lt n0
                have Hrow11 := Lib.hid ((Upd.ofBelow (fp := noFp) hB11).row Hrow10.out (fun _ _ h => h))
                have hbr11 := hbr10.trans (hB11.mono hbr10.size)
                have hB811 := hB810.trans (hB11.mono hB810.size)
                clear hB11 hB810 Hrow10 hbr10 Hnow10 Hx10
                go_wp2
                have hU := setCell4_upd (w := w11) (b := w0.heap.size) (.int .i64 R.serial) (.int .i64 R.tick) (.int .i64 R.commit) (.slice a9 R.blob.length c9)
                have hhn := setCell4_at Hnow11.out (.int .i64 R.serial) (.int .i64 R.tick) (.int .i64 R.commit) (.slice a9 R.blob.length c9)
                go_roundw
                case rel =>
                  have hw8 : w0.heap.size < w8.heap.size := D8.lt (HX2.out _ Hxn.out)
                  have hx3 : ∀ g, (Value.slice a9 R.blob.length c9).ownBlock = some g → w8.heap.size ≤ g ∧ g < w11.heap.size := fun g hg => ⟨row_from Hrow11.out hg, row_lt Hrow11.out hg⟩
                  have D11 : DiskAt (fun k => exr k ∨ (w8.heap.size ≤ k ∧ k < w11.heap.size)) w11 p w.heap.size d8 := D8.more hB811 (fun k hk => hk.elim (fun h => Or.inl (HX2.out k h)) Or.inr)
                  have D12 := D11.upd hU (fun k _ hk => by rw [hk]; exact Or.inl Hxn.out)
                  refine ⟨k + 1, d8, R, a9, c9, _, by omega, by omega, by omega, by go_num, D12, fun j hj => Or.inl (Hxx.out j hj), Or.inl Hxn.out, hhn, ?_, fun g hg => ⟨Or.inr (hx3 g hg), by have := (hx3 g hg).1; omega⟩, HG8.out, HR8.out, ?_, ?_⟩
                  · exact hU.row (ownsRow_base0 Hrow11.out) (fun g hg h => by have h1 := (hx3 g hg).1; have h2 : g = w0.heap.size := h; omega) 
                  · exact hbr11.trans (hU.below (fun k hk => by rw [hk]; exact hNw) hbr11.size)
                  · exact Nat.lt_of_lt_of_le (blk_lt Hnow11.out) hU.size
                case measure => simp [intOf]; omega
              · have hpd : decide (0 < R.serial) = true := by simp; omega
                have hpi : (0 : Int) < (R.serial : Int) := by omega
                refine (read_by R 0 D8 HR8.out (readE_good HG8.out.toFair)).mono ?_
                rw [hpd]
                clear hpd
                rintro e w9 ⟨a9, c9, rfl, hR9, hB9⟩
                have HR9 := Lib.hid hR9
                clear hR9
                have Hnx9 := Lib.hid ((hB9.block _ (blk_lt Hnx8.out)).trans Hnx8.out)
                have Hnow9 := Lib.hid ((hB9.block _ (blk_lt Hnow8.out)).trans Hnow8.out)
                obtain ⟨n0, n1, n2, n3, _⟩ := rootC_at Hnx9.out
                have hltx := blk_lt Hnx9.out
                have hlt9 := blk_lt Hnow9.out
                obtain ⟨m0, m1, m2, m3, _⟩ := rootC_at Hnow9.out
                have hbr9 := hbr8.trans (hB9.mono hbr8.size)
                have hx9 := alloc_at w9 (.cells #[.int .i64 R.serial, .int .i64 R.tick, .int .i64 R.commit, .slice a9 R.blob.length c9] 24)
                go_wp2_with fail
                have hB910 := (Below.refl w9.heap.size w9).alloc (Nat.le_refl _) (.cells #[.int .i64 R.serial, .int .i64 R.tick, .int .i64 R.commit, .slice a9 R.blob.length c9] 24)
                obtain ⟨w10, hw10⟩ : ∃ w10, w9.alloc (.cells #[.int .i64 R.serial, .int .i64 R.tick, .int .i64 R.commit, .slice a9 R.blob.length c9] 24) = w10 := ⟨_, rfl⟩
                rw [hw10] at hB910 hx9 ⊢
                have hB810 := hB9.trans (hB910.mono hB9.size)
                have Hrow10 := Lib.hid ((Upd.ofBelow (fp := noFp) hB910).row HR9.out (fun _ _ h => h))
                have hbr10 := hbr9.trans (hB910.mono hbr9.size)
                have Hnow10 := Lib.hid ((hB910.block _ hlt9).trans Hnow9.out)
                have Hx10 := Lib.hid hx9
                clear hB9 hw10 hx9 hB910 hbr9 HR9 n0 n1 n2 n3 m0 m1 m2 m3
                refine (sameR_any _ R.serial R.tick R.commit ((R.serial : Int) + 1) xt xc _ _ R.blob xb (Rd.ofOwns Hrow10.out) (Hrx.out.below hbr10)).mono ?_
                rw [sameR_ser (by omega)]
                rintro e w10a ⟨rfl, hB10a⟩
                have hrow8 := (Upd.ofBelow (fp := noFp) hB810).row Hrow8.out (fun _ _ h => h)
                have Hrow10a := Lib.hid (Rd.ofOwns ((Upd.ofBelow (fp := noFp) hB10a).row Hrow10.out (fun _ _ h => h)))
                have Hold10a := Lib.hid (Rd.ofOwns ((Upd.ofBelow (fp := noFp) hB10a).row hrow8 (fun _ _ h => h)))
                obtain ⟨m0, m1, m2, m3, _⟩ := rootC_at ((hB10a.block _ (blk_lt Hnow10.out)).trans Hnow10.out)
                obtain ⟨n0, n1, n2, n3, _⟩ := rootC_at ((hB10a.block _ (blk_lt Hx10.out)).trans Hx10.out)
                have hltm := cell_lt m0
                have hltn := cell_lt n0
                clear hrow8
                go_wp2_with fail
                refine (sameR_any _ R.serial R.tick R.commit R.serial R.tick R.commit _ _ R.blob R.blob Hrow10a.out Hold10a.out).mono ?_
                rw [sameR_refl]
                rintro e w11 ⟨rfl, hB11'⟩
                have hB11 := hB10a.trans (hB11'.mono hB10a.size)
                clear hB10a hB11' Hold10a Hrow10a m0 m1 m2 m3 n0 n1 n2 n3 hltm hltn
                have Hnow11 := Lib.hid ((hB11.block _ (blk_lt Hnow10.out)).trans Hnow10.out)
                obtain ⟨m0, m1, m2, m3, f0, f1, f2, f3⟩ := rootC_at Hnow11.out
                obtain ⟨n0, n1, n2, n3, _⟩ := rootC_at ((hB11.block _ (blk_lt Hx10.out)).trans Hx10.out)
                have hltm := cell_lt m0
                have hltn := cell_lt n0
                have Hrow11 := Lib.hid ((Upd.ofBelow (fp := noFp) hB11).row Hrow10.out (fun _ _ h => h))
                have hbr11 := hbr10.trans (hB11.mono hbr10.size)
                have hB811 := hB810.trans (hB11.mono hB810.size)
                clear hB11 hB810 Hrow10 hbr10 Hnow10 Hx10
                go_wp2
                have hU := setCell4_upd (w := w11) (b := w0.heap.size) (.int .i64 R.serial) (.int .i64 R.tick) (.int .i64 R.commit) (.slice a9 R.blob.length c9)
                have hhn := setCell4_at Hnow11.out (.int .i64 R.serial) (.int .i64 R.tick) (.int .i64 R.commit) (.slice a9 R.blob.length c9)
                go_roundw
                case rel =>
                  have hw8 : w0.heap.size < w8.heap.size := D8.lt (HX2.out _ Hxn.out)
                  have hx3 : ∀ g, (Value.slice a9 R.blob.length c9).ownBlock = some g → w8.heap.size ≤ g ∧ g < w11.heap.size := fun g hg => ⟨row_from Hrow11.out hg, row_lt Hrow11.out hg⟩
                  have D11 : DiskAt (fun k => exr k ∨ (w8.heap.size ≤ k ∧ k < w11.heap.size)) w11 p w.heap.size d8 := D8.more hB811 (fun k hk => hk.elim (fun h => Or.inl (HX2.out k h)) Or.inr)
                  have D12 := D11.upd hU (fun k _ hk => by rw [hk]; exact Or.inl Hxn.out)
                  refine ⟨k + 1, d8, R, a9, c9, _, by omega, by omega, by omega, by go_num, D12, fun j hj => Or.inl (Hxx.out j hj), Or.inl Hxn.out, hhn, ?_, fun g hg => ⟨Or.inr (hx3 g hg), by have := (hx3 g hg).1; omega⟩, HG8.out, HR8.out, ?_, ?_⟩
                  · exact hU.row (ownsRow_base0 Hrow11.out) (fun g hg h => by have h1 := (hx3 g hg).1; have h2 : g = w0.heap.size := h; omega) 
                  · exact hbr11.trans (hU.below (fun k hk => by rw [hk]; exact hNw) hbr11.size)
                  · exact Nat.lt_of_lt_of_le (blk_lt Hnow11.out) hU.size
                case measure => simp [intOf]; omega
          · have hw := switch_no HG1.out Hser1.out her
            refine (write_err xs xt xc _ xb 2 D3 ht hc (Hrx.out.below hbr3) hbl3 hw (by decide)).mono ?_
            rintro e w4 ⟨rfl, D4, K4⟩
            have K4' := K3.trans K4
            have hbr4 : Below w.heap.size w w4 := hbr.trans (K4'.below (fun j hj => Hxx.out j hj))
            have hlt4 : w0.heap.size < w4.heap.size := D4.lt Hxn.out
            have Hnow4 := Lib.hid ((K4'.block _ Hxn.out).trans Hnow.out)
            have Hrow4 := Lib.hid (K4'.row Hrow.out (fun g hg => (Hxg.out g hg).1))
            have HK4 := Lib.hid K4'
            clear hw K4' K3 K4 D3
            go_wp2
            go_roundw
            case rel =>
              have hB5 := (Below.refl w4.heap.size w4).alloc (Nat.le_refl _) (.cells #[.int .i64 0, .int .i64 0, .int .i64 0, .slice none 0 0] 24)
              exact ⟨k + 1, d1, R, a', c', exr, by omega, by omega, by omega, by go_num, D4.alloc _, Hxx.out, Hxn.out, (hB5.block _ hlt4).trans Hnow4.out, (Upd.ofBelow (fp := noFp) hB5).row Hrow4.out (fun _ _ h => h), Hxg.out, HG1.out, HR1.out, hbr4.trans (hB5.mono hbr4.size), Nat.lt_of_lt_of_le hlt4 hB5.size⟩
            case measure => simp [intOf]; omega
      · have hbl' : (100 : Int) < (xb.length : Int) := by omega
        go_wp2
        go_roundw
        case rel => exact ⟨k + 1, d, R, a', c', exr, by omega, by omega, by omega, by go_num, hD, Hxx.out, Hxn.out, Hnow.out, Hrow.out, Hxg.out, HG.out, HR.out, hbr, hlt0⟩
        case measure => simp [intOf]; omega
    · have hstop : ¬ ((k : Int) < (l.length : Int)) ∨ ((k : Int) < (l.length : Int) ∧ ¬ ((k : Int) < 30)) ∨ ((k : Int) < (l.length : Int) ∧ ((k : Int) < 30) ∧ ¬ ((k : Int) < (acts.length : Int))) := by omega
      clear hlt
      rcases hstop with h1 | ⟨h1, h2⟩ | ⟨h1, h2, h3⟩
      all_goals
        go_wp2_with fail
        refine (awake6_any wr).mono ?_
        rintro e w8 ⟨rfl, hB8⟩
        go_wp2
        go_ret
        exact ⟨rfl, hbr.trans (hB8.mono hbr.size)⟩
end Go.Proofs.YtnagejhpdhdpfaaDoor
