/-
  RootsTurns: the walk.
-/
import Derived.Outline
import Derived.Test.YtnagejhpdhdpfaaDoorTurn0
namespace Go.Proofs.YtnagejhpdhdpfaaDoor
open Go.RowKit Go.Maps Go.MapKept

set_option maxRecDepth 100000 in
set_option maxHeartbeats 16000000 in
theorem turns_law (w : World) {v : Value} (l : List XRoot) (hl : RootsAt w v l) :
    Calls Tryd.prog 4 #[v] w fun e w' => e = .returned (.bool true) ∧ Below w.heap.size w w' := by
  obtain ⟨a, c, rfl⟩ := SliceOf.shape hl
  have hcl := SliceOf.len_le hl
  simp only [maxLen] at hcl
  obtain ⟨ex0, hex0⟩ : ∃ ex : Nat → Prop, ex = fun k => k < w.heap.size := ⟨_, rfl⟩
  have hx0 : ∀ k, ex0 k → k < w.heap.size := fun k hk => by rw [hex0] at hk; exact hk
  have Hex0 := Lib.hid hex0
  clear hex0
  go_enter Tryd.func4, Tryd.ntmps4
  go_wp2_with fail
  refine (New_at (ex := ex0) 1048576 (by decide) (by decide) hx0).mono ?_
  generalize hp : w.heap.size + 1 = p
  generalize hm : w.heap.size = m
  rintro e w0 ⟨rfl, h0, kk0⟩
  subst hm
  clear hp
  go_wp2_with fail
  have hn0 := alloc_at w0 (.cells #[.string ⟨#[114, 111, 111, 116, 48]⟩, .string ⟨#[114, 111, 111, 116, 49]⟩] 9)
  have hB1 : Below w0.heap.size w0 (w0.alloc (.cells #[.string ⟨#[114, 111, 111, 116, 48]⟩, .string ⟨#[114, 111, 111, 116, 49]⟩] 9)) := (Below.refl _ _).alloc (Nat.le_refl _) _
  obtain ⟨w1, hw1⟩ : ∃ w1, w0.alloc (.cells #[.string ⟨#[114, 111, 111, 116, 48]⟩, .string ⟨#[114, 111, 111, 116, 49]⟩] 9) = w1 := ⟨_, rfl⟩
  rw [hw1] at hn0 hB1 ⊢
  obtain ⟨ex, hex⟩ : ∃ ex : Nat → Prop, ex = fun k => ex0 k ∨ k = w0.heap.size := ⟨_, rfl⟩
  have hexx : ∀ k, k < w.heap.size → ex k := fun k hk => by rw [hex, Hex0.out]; exact Or.inl hk
  have hexn : ex w0.heap.size := by rw [hex]; exact Or.inr rfl
  have h1 : DiskAt ex w1 p w.heap.size ⟨1048576, -1, false, []⟩ := h0.more hB1 (fun k hk => by
    rw [hex] at hk
    rcases hk with hk | rfl
    · exact Or.inl hk
    · exact Or.inr ⟨Nat.le_refl _, blk_lt hn0⟩)
  have hBw1 : Below w.heap.size w w1 := (kk0.below (fun k hk => by rw [Hex0.out]; exact hk)).trans (hB1.mono kk0.size)
  have Hn0 := Lib.hid hn0
  have Hexx := Lib.hid hexx
  have Hexn := Lib.hid hexn
  clear h0 kk0 hn0 hB1 hw1 hex hexx hexn
  go_loopw [6, 7] (fun nn i wr => ∃ (k n : Nat) (d : ADisk), k ≤ l.length ∧ k ≤ 20 ∧ n ≤ k ∧ i = .int .i64 k ∧ nn = .int .i64 n ∧ DiskAt ex wr p w.heap.size d ∧ Keep ex w1 wr ∧ TurnIs d n) (fun _ i _ => l.length - (intOf i).toNat)
  case atStart => exact ⟨0, 0, _, by omega, by omega, by omega, rfl, rfl, h1, Keep.refl _ _, turn_new 1048576 (by omega)⟩
  case round =>
    obtain ⟨k, n, d, hk, hk20, hnk, rfl, rfl, hD, hK, hT⟩ := hrel
    clear h1
    have hbr : Below w.heap.size w wr := hBw1.trans (hK.below (fun k hk => Hexx.out k hk))
    have HT := Lib.hid hT
    clear hT
    by_cases hlt : k < l.length ∧ k < 20
    · obtain ⟨hlt1, hlt2⟩ := hlt
      obtain ⟨b, off, rfl, hbW, hok, c0, c1, c2_, c3⟩ := hl.at hbr k hlt1
      obtain ⟨x, hx⟩ : ∃ x, l[k] = x := ⟨_, rfl⟩
      rw [hx] at hok c0 c1 c2_ c3
      obtain ⟨xs, xt, xc, xv, xb⟩ := x
      obtain ⟨hs, ht, hc, hrx, hlx⟩ := hok
      simp only at c0 c1 c2_ c3 hs ht hc hrx hlx
      obtain ⟨ax, cx, rfl⟩ := hrx.shape
      rw [bcells_length] at hrx c3
      simp only [maxLen] at hlx
      have hexb : ex b := Hexx.out b hbW
      have Hrx := Lib.hid hrx
      clear hx hrx
      by_cases hbl : xb.length ≤ 100
      · have hbl' : ¬ (100 : Int) < (xb.length : Int) := by omega
        obtain ⟨s0, hs0e⟩ : ∃ s0, rname n = s0 := ⟨_, rfl⟩
        have hs0 : s0.size ≤ maxLen := by rw [← hs0e]; exact rname_size n
        have hnm := (hK.block _ Hexn.out).trans Hn0.out
        have hpar : ((n : Int) % 2 = 0 ∧ wr.cell? ⟨w0.heap.size, 0, none⟩ = some (.string s0)) ∨ ((n : Int) % 2 = 1 ∧ wr.cell? ⟨w0.heap.size, 1, none⟩ = some (.string s0)) := by
          rcases Nat.mod_two_eq_zero_or_one n with hp | hp
          · left
            refine ⟨by omega, ?_⟩
            rw [cell_at hnm, ← hs0e]
            unfold rname; rw [if_pos hp]; rfl
          · right
            refine ⟨by omega, ?_⟩
            rw [cell_at hnm, ← hs0e]
            unfold rname; rw [if_neg (by omega)]; rfl
        obtain ⟨fe, hfe⟩ : ∃ fe, findErr d s0 = fe := ⟨_, rfl⟩
        obtain ⟨B, hB⟩ : ∃ B, d.readBytes s0 = B := ⟨_, rfl⟩
        have Hs0e := Lib.hid hs0e
        have Hfe := Lib.hid hfe
        have HB := Lib.hid hB
        clear hs0e hfe hB hnm
        rcases rb_write n xt xc (b := xb) (by omega) with her | her
        · obtain ⟨d', hw, hT', hrd, hfe', hB', hmo⟩ := turn_step HT.out her (by omega)
          rw [Hs0e.out, Hfe.out] at hfe'
          rw [Hs0e.out, HB.out] at hB'
          have hk4 := back4 (s := ((n + 1 : Nat) : Int)) her
          have hlen := turn_len hT'
          obtain ⟨M, hM⟩ : ∃ M, min (n + 1) 2 = M := ⟨_, rfl⟩
          rw [hM] at hlen
          have hMi : min ((n : Int) + 1) 2 = (M : Int) := by omega
          have hser := HT.out.serial
          have hE' := readE_good hT'.toFair
          have hre := hT'.serial
          obtain ⟨R, hR⟩ : ∃ R, aroot ((n + 1 : Nat) : Int) xt xc xb = R := ⟨_, rfl⟩
          rw [hR] at hrd hk4
          rw [hrd] at hre
          have hpos : decide (0 < R.serial) = true := by simp; omega
          have hRb : R.blob = xb := by rw [← hR]; rfl
          rw [show (((n + 1 : Nat) : Nat) : Int) = (n : Int) + 1 from rfl] at hk4
          have Hw := Lib.hid hw
          have HT' := Lib.hid hT'
          have Hrd := Lib.hid hrd
          have Hfe' := Lib.hid hfe'
          have HB' := Lib.hid hB'
          have Hk4 := Lib.hid hk4
          have Hlen := Lib.hid hlen
          have Hser := Lib.hid hser
          have HE' := Lib.hid hE'
          have Hpos := Lib.hid hpos
          have HRb := Lib.hid hRb
          clear hw hT' hrd hfe' hB' hk4 hlen hM hser hE' hre hR hpos her hmo hRb
          rcases hpar with ⟨hpa, hcs⟩ | ⟨hpa, hcs⟩
          all_goals
            go_wp2_with fail
            refine (Read_at s0 hD hs0).mono ?_
            rw [Hfe.out, HB.out]
            rintro e w2 ⟨a2, c2, rfl, hR2, hB2⟩
            have HR2 := Lib.hid hR2
            clear hR2
            have hBw2 : Below w.heap.size w w2 := hbr.trans (hB2.mono hbr.size)
            have c0' := (hB2.cell (p := ⟨_, _, none⟩) (cell_lt c0)).trans c0
            have c1' := (hB2.cell (p := ⟨_, _, none⟩) (cell_lt c1)).trans c1
            have c2' := (hB2.cell (p := ⟨_, _, none⟩) (cell_lt c2_)).trans c2_
            have c3' := (hB2.cell (p := ⟨_, _, none⟩) (cell_lt c3)).trans c3
            obtain ⟨ex2, hex2⟩ : ∃ ex2 : Nat → Prop, ex2 = fun k => ex k ∨ (wr.heap.size ≤ k ∧ k < w2.heap.size) := ⟨_, rfl⟩
            have hD2 : DiskAt ex2 w2 p w.heap.size d := hD.more hB2 (fun k hk => by rw [hex2] at hk; exact hk)
            have hxx2 : ∀ k, ex k → ex2 k := fun k hk => by rw [hex2]; exact Or.inl hk
            have hxr2 : ∀ g, (Value.slice a2 B.length c2).ownBlock = some g → ex2 g := fun g hg => by rw [hex2]; exact Or.inr ⟨row_from HR2.out hg, row_lt HR2.out hg⟩
            have Hxx2 := Lib.hid hxx2
            have Hxr2 := Lib.hid hxr2
            clear hex2 hxx2 hxr2
            go_wp2_with fail
            refine (write_ok xs xt xc ((n : Int) + 1) _ xb hD2 ht hc (Hrx.out.below hBw2) (by omega) Hw.out (by rw [Hser.out])).mono ?_
            rintro e w3 ⟨rfl, hD3, hK3⟩
            have hBw3 : Below w.heap.size w w3 := hBw2.trans (hK3.below (fun k hk => Hxx2.out k (Hexx.out k hk)))
            have hr11 := alloc_at w3 (.cells #[.int .i64 ((n : Int) + 1), .int .i64 xt, .int .i64 xc, .slice ax xb.length cx] 24)
            have hB34 : Below w3.heap.size w3 (w3.alloc (.cells #[.int .i64 ((n : Int) + 1), .int .i64 xt, .int .i64 xc, .slice ax xb.length cx] 24)) := (Below.refl _ _).alloc (Nat.le_refl _) _
            have hrow3 := hK3.row HR2.out Hxr2.out
            have hD3e := hD3.mono (fun k hk => Hxx2.out k hk)
            have hK3e := (hK.trans (Keep.ofBelow hB2 (fun k hk => hD.lt hk))).trans (hK3.mono (fun k hk => Hxx2.out k hk))
            go_wp2_with fail
            obtain ⟨w4, hw4⟩ : ∃ w4, w3.alloc (.cells #[.int .i64 ((n : Int) + 1), .int .i64 xt, .int .i64 xc, .slice ax xb.length cx] 24) = w4 := ⟨_, rfl⟩
            rw [hw4] at hr11 hB34 ⊢
            have hD4 := hD3e.below hB34
            have hrow4 := (Upd.ofBelow (fp := noFp) hB34).row hrow3 (fun _ _ h => h)
            have hBw4 := hBw3.trans (hB34.mono hBw3.size)
            have hK4 := hK3e.trans (Keep.ofBelow hB34 (fun k hk => hD3e.lt hk))
            have Hr4 := Lib.hid hr11
            have HX4 := Lib.hid (fun k (hk : ex k) => hD4.lt hk)
            have Hrow4 := Lib.hid hrow4
            clear hw4 hr11 hrow4 hrow3 hB34 hD3e hK3e hD3 hK3 hD2 hBw3
            refine (Read_at s0 hD4 hs0).mono ?_
            rw [Hfe'.out, HB'.out]
            rintro e w5 ⟨a5, c5, rfl, hR5, hB5⟩
            have HR5 := Lib.hid hR5
            clear hR5
            have hD5 := hD4.below hB5
            have Hr5 := Lib.hid ((hB5.block _ (blk_lt Hr4.out)).trans Hr4.out)
            have Hrow5 := Lib.hid ((Upd.ofBelow (fp := noFp) hB5).row Hrow4.out (fun _ _ h => h))
            have hB45 := hB5
            go_wp2_with fail
            refine (Used_at hD5).mono ?_
            rintro e w6 ⟨rfl, hB6⟩
            have hD6 := hD5.below hB6
            have hB46 := hB45.trans (hB6.mono hB45.size)
            go_wp2_with fail
            refine (List_at hD6).mono ?_
            rw [Hlen.out]
            rintro e w7 ⟨a7, c7, rfl, hR7, _, hB7⟩
            clear hR7
            have hD7 := hD6.below hB7
            have hB47 := hB46.trans (hB7.mono hB46.size)
            go_wp2_with fail
            refine (read_by R 0 hD7 Hrd.out HE'.out).mono ?_
            rw [Hpos.out]
            rintro e w8 ⟨a8, c8, rfl, hR8, hB8⟩
            have HR8 := Lib.hid hR8
            clear hR8
            have hD8 := hD7.below hB8
            have hB48 := hB47.trans (hB8.mono hB47.size)
            have hB49 := hB48.alloc hB48.size (.cells #[.int .i64 R.serial, .int .i64 R.tick, .int .i64 R.commit, .slice a8 R.blob.length c8] 24)
            have Hr8 := Lib.hid ((hB48.block _ (blk_lt Hr4.out)).trans Hr4.out)
            obtain ⟨q0, q1, q2, q3, _⟩ := rootC_at Hr8.out
            have hlt8 := blk_lt Hr8.out
            have hxn : (((n : Int) + 1) != ((n : Int) + 1)) = false := by simp
            have hfn : (fe != fe) = false := by simp
            have hun : ((usedF d'.fs : Int) != (usedF d'.fs : Int)) = false := by simp
            have hMn : ((M : Int) != (M : Int)) = false := by simp
            have hB58 := (hB6.trans (hB7.mono hB6.size)).trans (hB8.mono (Nat.le_trans hB6.size hB7.size))
            have hB59 := hB58.alloc hB58.size (.cells #[.int .i64 R.serial, .int .i64 R.tick, .int .i64 R.commit, .slice a8 R.blob.length c8] 24)
            have hrd1 := Rd.ofOwns ((Upd.ofBelow (fp := noFp) hB49).row Hrow4.out (fun _ _ h => h))
            have hrd2 := Rd.ofOwns ((Upd.ofBelow (fp := noFp) hB59).row HR5.out (fun _ _ h => h))
            have hrd3 := (Rd.ofOwns HR8.out).below ((Below.refl w8.heap.size w8).alloc (Nat.le_refl _) (.cells #[.int .i64 R.serial, .int .i64 R.tick, .int .i64 R.commit, .slice a8 R.blob.length c8] 24))
            have hBw9 := hBw4.trans (hB49.mono hBw4.size)
            have hrd4 := Hrx.out.below hBw9
            have hD9 := hD8.alloc (.cells #[.int .i64 R.serial, .int .i64 R.tick, .int .i64 R.commit, .slice a8 R.blob.length c8] 24)
            have Hrd1 := Lib.hid hrd1
            have Hrd2 := Lib.hid hrd2
            have Hrd3 := Lib.hid hrd3
            have Hrd4 := Lib.hid hrd4
            clear hrd1 hrd2 hrd3 hrd4 hB58 hB59 hBw9 hB5 hB45 hB46 hB47 hB48 hD4 hD5 hD6 hD7 hD8 hB6 hB7 hB8
            go_wp2_with fail
            refine (sameB_any _ _ _ B B Hrd1.out Hrd2.out).mono ?_
            rw [show decide (B = B) = true by simp]
            rintro e w9' ⟨rfl, rfl⟩
            go_wp2_with fail
            refine (sameR_any _ R.serial R.tick R.commit ((n : Int) + 1) xt xc _ _ R.blob xb Hrd3.out Hrd4.out).mono ?_
            rw [Hk4.out]
            rintro e w10 ⟨rfl, hB10⟩
            have hD10 := hD9.below hB10
            have hB410 := hB49.trans (hB10.mono hB49.size)
            clear hB10 hB49 hD9
            go_wp2_with fail
            refine (Used_at hD10).mono ?_
            rintro e w11 ⟨rfl, hB11⟩
            have hD11 := hD10.below hB11
            have hB411 := hB410.trans (hB11.mono hB410.size)
            clear hB11 hB410 hD10
            go_wp2_with fail
            refine (List_at hD11).mono ?_
            rw [Hlen.out]
            rintro e w12 ⟨a12, c12, rfl, hR12, _, hB12⟩
            clear hR12
            have hD12 := hD11.below hB12
            have hB412 := hB411.trans (hB12.mono hB411.size)
            clear hB12 hB411 hD11
            go_wp2
            go_roundw
            case rel => exact ⟨k + 1, n + 1, d', by omega, by omega, by omega, by go_num, by go_num, hD12, hK4.trans (Keep.ofBelow hB412 HX4.out), HT'.out⟩
            case measure => simp [intOf]; omega
        · have hw := turn_bad HT.out her
          have Hw := Lib.hid hw
          clear hw her
          rcases hpar with ⟨hpa, hcs⟩ | ⟨hpa, hcs⟩
          all_goals
            go_wp2_with fail
            refine (Read_at s0 hD hs0).mono ?_
            rw [Hfe.out, HB.out]
            rintro e w2 ⟨a2, c2, rfl, hR2, hB2⟩
            clear hR2
            have hBw2 : Below w.heap.size w w2 := hbr.trans (hB2.mono hbr.size)
            have c0' := (hB2.cell (p := ⟨_, _, none⟩) (cell_lt c0)).trans c0
            have c1' := (hB2.cell (p := ⟨_, _, none⟩) (cell_lt c1)).trans c1
            have c2' := (hB2.cell (p := ⟨_, _, none⟩) (cell_lt c2_)).trans c2_
            have c3' := (hB2.cell (p := ⟨_, _, none⟩) (cell_lt c3)).trans c3
            go_wp2_with fail
            refine (write_err xs xt xc _ xb 2 (hD.below hB2) ht hc (Hrx.out.below hBw2) (by omega) Hw.out (by decide)).mono ?_
            rintro e w3 ⟨rfl, hD3, hK3⟩
            have hK3' := (hK.trans (Keep.ofBelow hB2 (fun k hk => hD.lt hk))).trans hK3
            go_wp2
            go_roundw
            case rel => exact ⟨k + 1, n, d, by omega, by omega, by omega, by go_num, rfl, hD3.alloc _, hK3'.trans (Keep.alloc _ _ (fun k hk => hD3.lt hk)), HT.out⟩
            case measure => simp [intOf]; omega
      · have hbl' : (100 : Int) < (xb.length : Int) := by omega
        go_wp2
        go_roundw
        case rel => exact ⟨k + 1, n, d, by omega, by omega, by omega, by go_num, rfl, hD, hK, HT.out⟩
        case measure => simp [intOf]; omega
    · have hstop : ¬ ((k : Int) < (l.length : Int)) ∨ ((k : Int) < (l.length : Int) ∧ ¬ ((k : Int) < 20)) := by omega
      clear hlt
      rcases hstop with h1 | ⟨h1, h2⟩
      all_goals
        go_wp2_with fail
        refine (awake6_any wr).mono ?_
        rintro e w8 ⟨rfl, hB8⟩
        go_wp2
        go_ret
        exact ⟨rfl, hbr.trans (hB8.mono hbr.size)⟩
end Go.Proofs.YtnagejhpdhdpfaaDoor
