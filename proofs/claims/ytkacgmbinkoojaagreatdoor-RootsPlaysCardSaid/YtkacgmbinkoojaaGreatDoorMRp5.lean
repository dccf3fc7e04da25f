/-
  The walk of RootsPlays (printed by wip/gen/gen_plays.py).
-/
import Derived.Outline
import Derived.Deep.CutRange
import Derived.Deep.CutBlock
import Derived.Test.YtkacgmbinkoojaaGreatDoorMRpD
namespace Go.Proofs.YtkacgmbinkoojaaGreatDoor
open Go.RowKit Go.Maps Go.MapKept
set_option linter.unusedSimpArgs false
set_option linter.unusedVariables false

set_option maxRecDepth 100000 in
set_option maxHeartbeats 8000000 in
theorem plays_walk (w : World) (room : Int) (vl : Value) (cs : List AOp6) (hr0 : -9223372036854775808 ≤ room) (hr1 : room ≤ 9223372036854775807) (hcs : OpsAt6 w vl cs) :
    Calls Tryz.prog 3 #[.int .i64 room, vl] w fun e w' => e = .returned (.bool true) ∧ Below w.heap.size w w' := by
  obtain ⟨al, cl, rfl⟩ := SliceOf.shape hcs
  have hcl := SliceOf.len_le hcs
  simp only [maxLen] at hcl
  obtain ⟨ex, hex⟩ : ∃ ex : Nat → Prop, ex = fun k => k < w.heap.size := ⟨_, rfl⟩
  have Hex := Lib.hid hex
  have hx0 : ∀ k, ex k → k < w.heap.size := fun k hk => by rw [hex] at hk; exact hk
  clear hex
  have hxx : ∀ k, k < w.heap.size → ex k := fun k hk => by rw [Hex.out]; exact hk
  go_enter Tryz.func3, Tryz.ntmps3
  go_upto_if 19 with fail
  go_cut [0] from 20 to 21 (fun r wx => ∃ z : Int, r = .int .i64 z ∧ -9223372036854775808 ≤ z ∧ z ≤ 16777216 ∧ wx = w)
  case first =>
    by_cases hbig : 1048576 < room
    · go_wp2_with fail
      go_meet
      case rel => exact ⟨room % 3000, rfl, by omega, by omega, rfl⟩
    · go_wp2_with fail
      go_meet
      case rel => exact ⟨room, rfl, hr0, by omega, rfl⟩
  case rest =>
    obtain ⟨z, rfl, hz0, hz1, rfl⟩ := hcut
    obtain ⟨w, hww⟩ : ∃ w, w = wc := ⟨_, rfl⟩
    subst hww
    clear hr0 hr1
    by_cases hneg : z < 0
    · go_wp2_with fail
      refine (New_bad _ z (Or.inl hneg)).mono ?_
      rintro e w1 ⟨rfl, hb1⟩
      dsimp only
      go_wp2_with fail
      refine (refNew_bad _ z (Or.inl hneg)).mono ?_
      rintro e w2 ⟨rfl, hb2⟩
      dsimp only
      go_wp2_with fail
      refine (awake6_any _).mono ?_
      rintro e w7 ⟨rfl, hb7⟩
      subst hb1
      have hbA : Below w.heap.size w (w2.alloc (.cells #[.int .i64 0, .slice none 0 0, .int .i64 0, .bool false] 29)) := hb2.alloc hb2.size _
      go_wp2
      go_ret
      exact ⟨rfl, hbA.trans (hb7.mono hbA.size)⟩
    · go_wp2_with fail
      refine (New_at (ex := ex) z (by omega) hz1 hx0).mono ?_
      generalize hp : w.heap.size + 1 = p
      generalize hm : w.heap.size = m
      rintro e w1 ⟨rfl, h1, k1⟩
      clear hp hm
      dsimp only
      go_wp2_with fail
      refine (refNew_good _ z (by omega) hz1).mono ?_
      rintro e w2 ⟨rfl, hb2⟩
      unfold refVal
      have hWB := alloc_at w2 (.cells #[.int .i64 z, .slice none 0 0, .int .i64 (-1), .bool false] 29)
      have hbA : Below w2.heap.size w2 (w2.alloc (.cells #[.int .i64 z, .slice none 0 0, .int .i64 (-1), .bool false] 29)) := (Below.refl _ _).alloc (Nat.le_refl _) _
      have hbA1 := hb2.trans (hbA.mono hb2.size)
      have hszA : (w2.alloc (.cells #[.int .i64 z, .slice none 0 0, .int .i64 (-1), .bool false] 29)).heap.size = w2.heap.size + 1 := by simp
      have hs01 := k1.size
      have hs12 := hb2.size
      have hstart : SideAt ex w (w2.alloc (.cells #[.int .i64 z, .slice none 0 0, .int .i64 (-1), .bool false] 29)) p m w2.heap.size (fun k => ex k ∨ k = w2.heap.size) ⟨z, -1, false, []⟩ none 0 0 :=
        ⟨fun k hk => Or.inl hk, Or.inr rfl, fun hk => by have := hx0 _ hk; omega, h1.more hbA1 (fun k hk => hk.elim Or.inl (fun e => Or.inr ⟨by omega, by omega⟩)), ⟨Or.inl ⟨Or.inl rfl, rfl⟩, rfl, fun h => absurd rfl h⟩, hWB, k1.trans (Keep.ofBelow hbA1 (fun k hk => h1.lt hk))⟩
      obtain ⟨w4, hw4⟩ : ∃ w4, w2.alloc (.cells #[.int .i64 z, .slice none 0 0, .int .i64 (-1), .bool false] 29) = w4 := ⟨_, rfl⟩
      rw [hw4] at hstart
      have Hw4 := Lib.hid hw4
      obtain ⟨WB, hWBe⟩ : ∃ WB, w2.heap.size = WB := ⟨_, rfl⟩
      rw [hWBe] at hstart
      have HWBe := Lib.hid hWBe
      clear hw4 hWB hbA hbA1 hszA hs01 hs12 hWBe
      dsimp only
      go_wp2_with fail
      rw [Hw4.out, HWBe.out]
      go_loopw [9] (fun i wr => ∃ (k : Nat) (d : ADisk) (a : Option Addr) (n c : Nat) (exq : Nat → Prop), k ≤ cs.length ∧ k ≤ 40 ∧ i = .int .i64 k ∧ SideAt ex w wr p m WB exq d a n c) (fun i _ => cs.length - (intOf i).toNat)
      case atStart => exact ⟨0, _, _, _, _, _, by omega, by omega, rfl, hstart⟩
      case round =>
        obtain ⟨k, d, a, n, c, exq, hk, hk60, rfl, hT⟩ := hrel
        clear hstart h1 k1
        have hbr : Below w.heap.size w wr := hT.keep.below hxx
        have hend : ∀ w7, Below wr.heap.size wr w7 → Below w.heap.size w w7 := fun w7 hb => hbr.trans (hb.mono hbr.size)
        by_cases hlt : k < cs.length
        · by_cases h60 : k < 40
          · obtain ⟨b, off, rfl, hbl, hok, c0, c1, c2, c3, c4, c5, c6, c7⟩ := hcs.at hbr k hlt
            have hokW : OpOk6 w cs[k] := by obtain ⟨_, _, _, _, h, _⟩ := hcs.at (Below.refl _ _) k hlt; exact h
            have h60i : (k : Int) < 40 := by omega
            obtain ⟨cc, hcc⟩ : ∃ cc, cs[k] = cc := ⟨_, rfl⟩
            rw [hcc] at hok hokW c0 c1 c2 c3 c4 c5 c6 c7
            clear hcc
            obtain ⟨ab, cb, hvb⟩ := hok.rd.shape
            obtain ⟨ar, cr, hvr⟩ := hok.root.rb.shape
            obtain ⟨kind, nn, name, ⟨rs, rt, rc, vr, rb⟩, vb, b'⟩ := cc
            simp only at c0 c1 c2 c3 c4 c5 c6 c7 hvb hvr
            rw [bcells_length] at hvb hvr
            subst hvb
            subst hvr
            have Hok := Lib.hid hokW
            have hend := Lib.hid hend
            have HT := Lib.hid hT
            have Hbr := Lib.hid hbr
            clear hok hokW hT hbr
            by_cases hg : 200 < b'.length ∨ 60 < name.size ∨ 200 < rb.length
            · have hgB : (200 : Int) < (b'.length : Int) ∨ ¬ (200 : Int) < (b'.length : Int) := by omega
              have HX := Lib.hid hg
              have hX := alloc_at wr (.cells #[.int .i64 kind, .int .i64 nn, .string name, .int .i64 rs, .int .i64 rt, .int .i64 rc, .slice ar rb.length cr, .slice ab b'.length cb] 37)
              have hbX : Below wr.heap.size wr (wr.alloc (.cells #[.int .i64 kind, .int .i64 nn, .string name, .int .i64 rs, .int .i64 rt, .int .i64 rc, .slice ar rb.length cr, .slice ab b'.length cb] 37)) := (Below.refl _ _).alloc (Nat.le_refl _) _
              have hT1 := HT.out.below hbX
              have HT1 := Lib.hid hT1
              clear hX hbX hT1
              by_cases g1 : 200 < b'.length
              · have g1' : (200 : Int) < (b'.length : Int) := by omega
                clear hg hgB
                go_wp2_with fail
                go_roundw
                case rel => exact ⟨k + 1, d, a, n, c, exq, by omega, by omega, by go_num, HT1.out⟩
                case measure => simp [intOf]; omega
              · have g1' : ¬ (200 : Int) < (b'.length : Int) := by omega
                by_cases g2 : 60 < name.size
                · have g2' : (60 : Int) < (name.size : Int) := by omega
                  clear hg hgB
                  go_wp2_with fail
                  go_roundw
                  case rel => exact ⟨k + 1, d, a, n, c, exq, by omega, by omega, by go_num, HT1.out⟩
                  case measure => simp [intOf]; omega
                · have g2' : ¬ (60 : Int) < (name.size : Int) := by omega
                  have g3' : (200 : Int) < (rb.length : Int) := by omega
                  clear hg hgB
                  go_wp2_with fail
                  go_roundw
                  case rel => exact ⟨k + 1, d, a, n, c, exq, by omega, by omega, by go_num, HT1.out⟩
                  case measure => simp [intOf]; omega
            · have hlb : b'.length ≤ 200 := by omega
              have hln : name.size ≤ 60 := by omega
              have hlr : rb.length ≤ 200 := by omega
              have g1' : ¬ (200 : Int) < (b'.length : Int) := by omega
              have g2' : ¬ (60 : Int) < (name.size : Int) := by omega
              have g3' : ¬ (200 : Int) < (rb.length : Int) := by omega
              clear hg
              go_upto_block 2 with fail
              obtain ⟨w1, hw1⟩ : ∃ x, ((wr.alloc (.cells #[.int .i64 kind, .int .i64 nn, .string name, .int .i64 rs, .int .i64 rt, .int .i64 rc, .slice ar rb.length cr, .slice ab b'.length cb] 37)).alloc (.cells #[.int .i64 0, .int .i64 0, .int .i64 0, .slice none 0 0] 35)).alloc (.cells #[.int .i64 0, .int .i64 0, .int .i64 0, .slice none 0 0] 35) = x := ⟨_, rfl⟩
              have hb1 : Below wr.heap.size wr w1 := by rw [← hw1]; exact (((Below.refl _ _).alloc (Nat.le_refl _) _).alloc (by simp) _).alloc (by simp; omega) _
              have hO1 : w1.heap[wr.heap.size]? = some (.cells #[.int .i64 kind, .int .i64 nn, .string name, .int .i64 rs, .int .i64 rt, .int .i64 rc, .slice ar rb.length cr, .slice ab b'.length cb] 37 (0, 0)) := by rw [← hw1]; exact alloc_old (alloc2_at0 _ _ _) _
              have hP1 : w1.heap[(wr.heap.size + 1)]? = some (.cells #[.int .i64 0, .int .i64 0, .int .i64 0, .slice none 0 0] 35 (0, 0)) := by rw [← hw1]; exact alloc_old (alloc2_at _ _ _) _
              have hQ1 : w1.heap[(wr.heap.size + 1 + 1)]? = some (.cells #[.int .i64 0, .int .i64 0, .int .i64 0, .slice none 0 0] 35 (0, 0)) := by
                rw [← hw1]
                have := alloc_at ((wr.alloc (.cells #[.int .i64 kind, .int .i64 nn, .string name, .int .i64 rs, .int .i64 rt, .int .i64 rc, .slice ar rb.length cr, .slice ab b'.length cb] 37)).alloc (.cells #[.int .i64 0, .int .i64 0, .int .i64 0, .slice none 0 0] 35)) (.cells #[.int .i64 0, .int .i64 0, .int .i64 0, .slice none 0 0] 35)
                simpa using this
              have hs1 : wr.heap.size + 3 ≤ w1.heap.size := by rw [← hw1]; simp
              rw [hw1]
              have h1 := PlAt.of HT.out hb1 hs1
              have hL1 : Below w.heap.size w w1 := h1.keep.below hxx
              have H1 := Lib.hid (And.intro hL1 (And.intro hO1 (And.intro hP1 hQ1)))
              have HiP := Lib.hid (show InBox wr.heap.size (wr.heap.size + 1) from ⟨by omega, by omega⟩)
              have HiQ := Lib.hid (show InBox wr.heap.size (wr.heap.size + 1 + 1) from ⟨by omega, by omega⟩)
              have HbO := Lib.hid (show exq wr.heap.size ∨ InBox wr.heap.size wr.heap.size from Or.inr ⟨by omega, by omega⟩)
              have HbP := Lib.hid (show exq (wr.heap.size + 1) ∨ InBox wr.heap.size (wr.heap.size + 1) from Or.inr HiP.out)
              have HbQ := Lib.hid (show exq (wr.heap.size + 1 + 1) ∨ InBox wr.heap.size (wr.heap.size + 1 + 1) from Or.inr HiQ.out)
              have hWBl := HT.out.lt HT.out.wb
              have Hne := Lib.hid (show (wr.heap.size + 1) ≠ WB ∧ (wr.heap.size + 1 + 1) ≠ WB from ⟨by omega, by omega⟩)
              have n1' : WB ≠ (wr.heap.size + 1 + 1) := by omega
              have n2' : (wr.heap.size + 1 + 1) ≠ WB := by omega
              clear c0 c1 c2 c3 c4 c5 c6 c7 hw1
              obtain ⟨o0, o1, o2, o3, o4, o5, o6, o7⟩ := cells8 hO1
              obtain ⟨m0, m1, m2, m3, m4, m5, m6, m7⟩ := cells4 h1.cell
              obtain ⟨p0, p1, p2, p3, p4, p5, p6, p7⟩ := cells4 hP1
              obtain ⟨q0, q1, q2, q3, q4, q5, q6, q7⟩ := cells4 hQ1
              clear hO1 hP1 hQ1
              go_cut [11, 12, 15, 16, 17] from 78 to 184 (fun x y okv isv kv wx => ∃ (fe : Int) (o' : Bool) (d' : ADisk) (a' : Option Addr) (n' c' : Nat) (exq' : Nat → Prop) (s1 t1 c1 : Int) (vp vq : Value) (bb : List UInt8), x = .int .i64 fe ∧ y = .int .i64 fe ∧ okv = .bool o' ∧ isv = .bool o' ∧
                SideAt ex w wx p m WB exq' d' a' n' c' ∧ wx.heap[(wr.heap.size + 1)]? = some (.cells #[.int .i64 s1, .int .i64 t1, .int .i64 c1, vp] 35 (0, 0)) ∧ wx.heap[(wr.heap.size + 1 + 1)]? = some (.cells #[.int .i64 s1, .int .i64 t1, .int .i64 c1, vq] 35 (0, 0)) ∧ Rd wx vp (bcells bb) ∧ Rd wx vq (bcells bb))
              case first =>
                by_cases h1x : kind = 1
                · subst h1x
                  have hv1 := Hok.out.root.rb.below hL1
                  obtain ⟨er, D', hall⟩ : ∃ er D', wrAll d rt rc rb = (D', er) := ⟨_, _, rfl⟩
                  obtain ⟨s1, t1, c1, a1, n1, k1, bb, hval, hbb⟩ := wr_val w er ((readR d).serial + 1 : Nat) rt rc (.slice ar rb.length cr) rb Hok.out.root.rb
                  have hPw := rWrite_at rs rt rc (.slice ar rb.length cr) rb h1.disk Hok.out.root.t Hok.out.root.c hv1 (by omega)
                  have hXw := fun (wX : World) (a : Option Addr) (n c : Nat) (Y : Nat → Prop) (hR : RefAt Y wX a n c d) (hN : NewOk Y wX) (hv : Rd wX (.slice ar rb.length cr) (bcells rb)) => x6Write_any wX a n c d rs rt rc (.slice ar rb.length cr) rb hR h1.wf hN Hok.out.root.t Hok.out.root.c hv (by omega)
                  unfold WrPost at hPw
                  unfold XwPost at hXw
                  rw [hall] at hPw hXw
                  dsimp only at hPw hXw
                  rw [hval] at hPw hXw
                  unfold rootV at hPw hXw
                  unfold refVal at hXw
                  have HPw := Lib.hid hPw
                  have HXw := Lib.hid hXw
                  have Hbb := Lib.hid hbb
                  clear hPw hXw hval hall hbb hv1
                  go_upto_region 20 with (go_at_call 7; (with_reducible refine HPw.out.mono ?_); rintro e w2 ⟨rfl, hD2, hK2⟩; clear o0 o1 o2 o3 o4 o5 o6 o7 m0 m1 m2 m3 m4 m5 m6 m7 p0 p1 p2 p3 p4 p5 p6 p7 q0 q1 q2 q3 q4 q5 q6 q7; obtain ⟨p0, p1, p2, p3, p4, p5, p6, p7⟩ := cells4 ((hK2.block _ HbP.out).trans H1.out.2.2.1))
                  have hU2 := box4 (w := w2) (B0 := wr.heap.size) (b := (wr.heap.size + 1)) HiP.out (.int .i64 s1) (.int .i64 t1) (.int .i64 c1) (.slice a1 n1 k1)
                  have hP3 := setCell4_at ((hK2.block _ HbP.out).trans H1.out.2.2.1) (.int .i64 s1) (.int .i64 t1) (.int .i64 c1) (.slice a1 n1 k1)
                  have hO3 := set4w_old ((hK2.block _ HbO.out).trans H1.out.2.1) (show wr.heap.size ≠ (wr.heap.size + 1) by omega) (.int .i64 s1) (.int .i64 t1) (.int .i64 c1) (.slice a1 n1 k1)
                  have hQ3 := set4w_old ((hK2.block _ HbQ.out).trans H1.out.2.2.2) (show (wr.heap.size + 1 + 1) ≠ (wr.heap.size + 1) by omega) (.int .i64 s1) (.int .i64 t1) (.int .i64 c1) (.slice a1 n1 k1)
                  have hD3 := hD2.upd hU2 (fun k _ e => Or.inr e)
                  have hK3 : Keep exq w1 ((((w2.setCell ⟨(wr.heap.size + 1), 0, none⟩ (.int .i64 s1)).setCell ⟨(wr.heap.size + 1), 1, none⟩ (.int .i64 t1)).setCell ⟨(wr.heap.size + 1), 2, none⟩ (.int .i64 c1)).setCell ⟨(wr.heap.size + 1), 3, none⟩ (.slice a1 n1 k1)) := (hK2.mono (fun k hk => Or.inl hk)).trans (Keep.ofUpd hU2 (fun k hk => ⟨hD2.lt (Or.inl hk), h1.nb k hk⟩))
                  obtain ⟨w3, hw3⟩ : ∃ x, ((((w2.setCell ⟨(wr.heap.size + 1), 0, none⟩ (.int .i64 s1)).setCell ⟨(wr.heap.size + 1), 1, none⟩ (.int .i64 t1)).setCell ⟨(wr.heap.size + 1), 2, none⟩ (.int .i64 c1)).setCell ⟨(wr.heap.size + 1), 3, none⟩ (.slice a1 n1 k1)) = x := ⟨_, rfl⟩
                  rw [hw3] at hP3 hO3 hQ3 hD3 hK3 ⊢
                  obtain ⟨hR3, hW3⟩ := h1.mid hK3
                  have hL3 : Below w.heap.size w w3 := (h1.keep.trans (hK3.mono h1.hx)).below hxx
                  have hs3 := hK3.size
                  have H3 := Lib.hid (And.intro hD3 (And.intro hK3 (And.intro hR3 (And.intro hW3 (And.intro hP3 (And.intro hQ3 hL3))))))
                  clear hD2 hK2 hU2 hw3 p0 p1 p2 p3 p4 p5 p6 p7
                  obtain ⟨o0, o1, o2, o3, o4, o5, o6, o7⟩ := cells8 hO3
                  obtain ⟨m0, m1, m2, m3, m4, m5, m6, m7⟩ := cells4 hW3
                  have hXc := HXw.out w3 a n c (fun k => exq k ∨ w3.heap.size ≤ k) hR3 (fun k hk => Or.inr hk) (Hok.out.root.rb.below hL3)
                  have HXc := Lib.hid hXc
                  clear hP3 hO3 hQ3 hD3 hK3 hR3 hW3 hL3 hXc
                  go_wp2_with (go_at_call 8; (with_reducible refine HXc.out.mono ?_); rintro e w4 ⟨a', n', c', rfl, hR4, hb4⟩; clear o0 o1 o2 o3 o4 o5 o6 o7 m0 m1 m2 m3 m4 m5 m6 m7; obtain ⟨m0, m1, m2, m3, m4, m5, m6, m7⟩ := cells4 ((hb4.block _ (blk_lt H3.out.2.2.2.1)).trans H3.out.2.2.2.1); obtain ⟨q0, q1, q2, q3, q4, q5, q6, q7⟩ := cells4 ((hb4.block _ (blk_lt H3.out.2.2.2.2.2.1)).trans H3.out.2.2.2.2.2.1))
                  go_meet
                  case rel =>
                    have hS := h1.step H3.out.1 H3.out.2.1 hR4 hb4
                    have hU5 := box4 (w := ((((w4.setCell ⟨WB, 0, none⟩ (.int .i64 D'.most)).setCell ⟨WB, 1, none⟩ (.slice a' n' c')).setCell ⟨WB, 2, none⟩ (.int .i64 D'.left)).setCell ⟨WB, 3, none⟩ (.bool D'.down))) (B0 := wr.heap.size) (b := (wr.heap.size + 1 + 1)) HiQ.out (.int .i64 s1) (.int .i64 t1) (.int .i64 c1) (.slice a1 n1 k1)
                    have hS5 := hS.box hU5
                    have hP5 := set4w_old (set4w_old ((hb4.block _ (blk_lt H3.out.2.2.2.2.1)).trans H3.out.2.2.2.2.1) Hne.out.1 (.int .i64 D'.most) (.slice a' n' c') (.int .i64 D'.left) (.bool D'.down)) (show (wr.heap.size + 1) ≠ (wr.heap.size + 1 + 1) by omega) (.int .i64 s1) (.int .i64 t1) (.int .i64 c1) (.slice a1 n1 k1)
                    have hQ5 := setCell4_at (set4w_old ((hb4.block _ (blk_lt H3.out.2.2.2.2.2.1)).trans H3.out.2.2.2.2.2.1) Hne.out.2 (.int .i64 D'.most) (.slice a' n' c') (.int .i64 D'.left) (.bool D'.down)) (.int .i64 s1) (.int .i64 t1) (.int .i64 c1) (.slice a1 n1 k1)
                    have hL5 := Hbb.out.below (hS5.keep.below hxx)
                    exact ⟨er, true, D', a', n', c', _, s1, t1, c1, _, _, bb, rfl, rfl, rfl, rfl, hS5.side, hP5, hQ5, hL5, hL5⟩
                by_cases h2 : kind = 2
                · subst h2
                  have hv1 := Hok.out.root.rb.below hL1
                  obtain ⟨er, D', hall⟩ : ∃ er D', wrAll d rt rc rb = (D', er) := ⟨_, _, rfl⟩
                  obtain ⟨s1, t1, c1, a1, n1, k1, bb, hval, hbb⟩ := wr_val w er ((readR d).serial + 1 : Nat) rt rc (.slice ar rb.length cr) rb Hok.out.root.rb
                  have hPw := rWrite_at rs rt rc (.slice ar rb.length cr) rb h1.disk Hok.out.root.t Hok.out.root.c hv1 (by omega)
                  have hXw := fun (wX : World) (a : Option Addr) (n c : Nat) (Y : Nat → Prop) (hR : RefAt Y wX a n c d) (hN : NewOk Y wX) (hv : Rd wX (.slice ar rb.length cr) (bcells rb)) => x6Write_any wX a n c d rs rt rc (.slice ar rb.length cr) rb hR h1.wf hN Hok.out.root.t Hok.out.root.c hv (by omega)
                  unfold WrPost at hPw
                  unfold XwPost at hXw
                  rw [hall] at hPw hXw
                  dsimp only at hPw hXw
                  rw [hval] at hPw hXw
                  unfold rootV at hPw hXw
                  unfold refVal at hXw
                  have HPw := Lib.hid hPw
                  have HXw := Lib.hid hXw
                  have Hbb := Lib.hid hbb
                  clear hPw hXw hval hall hbb hv1
                  go_upto_region 20 with (go_at_call 7; (with_reducible refine HPw.out.mono ?_); rintro e w2 ⟨rfl, hD2, hK2⟩; clear o0 o1 o2 o3 o4 o5 o6 o7 m0 m1 m2 m3 m4 m5 m6 m7 p0 p1 p2 p3 p4 p5 p6 p7 q0 q1 q2 q3 q4 q5 q6 q7; obtain ⟨p0, p1, p2, p3, p4, p5, p6, p7⟩ := cells4 ((hK2.block _ HbP.out).trans H1.out.2.2.1))
                  have hU2 := box4 (w := w2) (B0 := wr.heap.size) (b := (wr.heap.size + 1)) HiP.out (.int .i64 s1) (.int .i64 t1) (.int .i64 c1) (.slice a1 n1 k1)
                  have hP3 := setCell4_at ((hK2.block _ HbP.out).trans H1.out.2.2.1) (.int .i64 s1) (.int .i64 t1) (.int .i64 c1) (.slice a1 n1 k1)
                  have hO3 := set4w_old ((hK2.block _ HbO.out).trans H1.out.2.1) (show wr.heap.size ≠ (wr.heap.size + 1) by omega) (.int .i64 s1) (.int .i64 t1) (.int .i64 c1) (.slice a1 n1 k1)
                  have hQ3 := set4w_old ((hK2.block _ HbQ.out).trans H1.out.2.2.2) (show (wr.heap.size + 1 + 1) ≠ (wr.heap.size + 1) by omega) (.int .i64 s1) (.int .i64 t1) (.int .i64 c1) (.slice a1 n1 k1)
                  have hD3 := hD2.upd hU2 (fun k _ e => Or.inr e)
                  have hK3 : Keep exq w1 ((((w2.setCell ⟨(wr.heap.size + 1), 0, none⟩ (.int .i64 s1)).setCell ⟨(wr.heap.size + 1), 1, none⟩ (.int .i64 t1)).setCell ⟨(wr.heap.size + 1), 2, none⟩ (.int .i64 c1)).setCell ⟨(wr.heap.size + 1), 3, none⟩ (.slice a1 n1 k1)) := (hK2.mono (fun k hk => Or.inl hk)).trans (Keep.ofUpd hU2 (fun k hk => ⟨hD2.lt (Or.inl hk), h1.nb k hk⟩))
                  obtain ⟨w3, hw3⟩ : ∃ x, ((((w2.setCell ⟨(wr.heap.size + 1), 0, none⟩ (.int .i64 s1)).setCell ⟨(wr.heap.size + 1), 1, none⟩ (.int .i64 t1)).setCell ⟨(wr.heap.size + 1), 2, none⟩ (.int .i64 c1)).setCell ⟨(wr.heap.size + 1), 3, none⟩ (.slice a1 n1 k1)) = x := ⟨_, rfl⟩
                  rw [hw3] at hP3 hO3 hQ3 hD3 hK3 ⊢
                  obtain ⟨hR3, hW3⟩ := h1.mid hK3
                  have hL3 : Below w.heap.size w w3 := (h1.keep.trans (hK3.mono h1.hx)).below hxx
                  have hs3 := hK3.size
                  have H3 := Lib.hid (And.intro hD3 (And.intro hK3 (And.intro hR3 (And.intro hW3 (And.intro hP3 (And.intro hQ3 hL3))))))
                  clear hD2 hK2 hU2 hw3 p0 p1 p2 p3 p4 p5 p6 p7
                  obtain ⟨o0, o1, o2, o3, o4, o5, o6, o7⟩ := cells8 hO3
                  obtain ⟨m0, m1, m2, m3, m4, m5, m6, m7⟩ := cells4 hW3
                  have hXc := HXw.out w3 a n c (fun k => exq k ∨ w3.heap.size ≤ k) hR3 (fun k hk => Or.inr hk) (Hok.out.root.rb.below hL3)
                  have HXc := Lib.hid hXc
                  clear hP3 hO3 hQ3 hD3 hK3 hR3 hW3 hL3 hXc
                  go_wp2_with (go_at_call 8; (with_reducible refine HXc.out.mono ?_); rintro e w4 ⟨a', n', c', rfl, hR4, hb4⟩; clear o0 o1 o2 o3 o4 o5 o6 o7 m0 m1 m2 m3 m4 m5 m6 m7; obtain ⟨m0, m1, m2, m3, m4, m5, m6, m7⟩ := cells4 ((hb4.block _ (blk_lt H3.out.2.2.2.1)).trans H3.out.2.2.2.1); obtain ⟨q0, q1, q2, q3, q4, q5, q6, q7⟩ := cells4 ((hb4.block _ (blk_lt H3.out.2.2.2.2.2.1)).trans H3.out.2.2.2.2.2.1))
                  go_meet
                  case rel =>
                    have hS := h1.step H3.out.1 H3.out.2.1 hR4 hb4
                    have hU5 := box4 (w := ((((w4.setCell ⟨WB, 0, none⟩ (.int .i64 D'.most)).setCell ⟨WB, 1, none⟩ (.slice a' n' c')).setCell ⟨WB, 2, none⟩ (.int .i64 D'.left)).setCell ⟨WB, 3, none⟩ (.bool D'.down))) (B0 := wr.heap.size) (b := (wr.heap.size + 1 + 1)) HiQ.out (.int .i64 s1) (.int .i64 t1) (.int .i64 c1) (.slice a1 n1 k1)
                    have hS5 := hS.box hU5
                    have hP5 := set4w_old (set4w_old ((hb4.block _ (blk_lt H3.out.2.2.2.2.1)).trans H3.out.2.2.2.2.1) Hne.out.1 (.int .i64 D'.most) (.slice a' n' c') (.int .i64 D'.left) (.bool D'.down)) (show (wr.heap.size + 1) ≠ (wr.heap.size + 1 + 1) by omega) (.int .i64 s1) (.int .i64 t1) (.int .i64 c1) (.slice a1 n1 k1)
                    have hQ5 := setCell4_at (set4w_old ((hb4.block _ (blk_lt H3.out.2.2.2.2.2.1)).trans H3.out.2.2.2.2.2.1) Hne.out.2 (.int .i64 D'.most) (.slice a' n' c') (.int .i64 D'.left) (.bool D'.down)) (.int .i64 s1) (.int .i64 t1) (.int .i64 c1) (.slice a1 n1 k1)
                    have hL5 := Hbb.out.below (hS5.keep.below hxx)
                    exact ⟨er, true, D', a', n', c', _, s1, t1, c1, _, _, bb, rfl, rfl, rfl, rfl, hS5.side, hP5, hQ5, hL5, hL5⟩
                by_cases h3 : kind = 3
                · subst h3
                  have hv1 := Hok.out.root.rb.below hL1
                  obtain ⟨er, D', hall⟩ : ∃ er D', wrAll d rt rc rb = (D', er) := ⟨_, _, rfl⟩
                  obtain ⟨s1, t1, c1, a1, n1, k1, bb, hval, hbb⟩ := wr_val w er ((readR d).serial + 1 : Nat) rt rc (.slice ar rb.length cr) rb Hok.out.root.rb
                  have hPw := rWrite_at rs rt rc (.slice ar rb.length cr) rb h1.disk Hok.out.root.t Hok.out.root.c hv1 (by omega)
                  have hXw := fun (wX : World) (a : Option Addr) (n c : Nat) (Y : Nat → Prop) (hR : RefAt Y wX a n c d) (hN : NewOk Y wX) (hv : Rd wX (.slice ar rb.length cr) (bcells rb)) => x6Write_any wX a n c d rs rt rc (.slice ar rb.length cr) rb hR h1.wf hN Hok.out.root.t Hok.out.root.c hv (by omega)
                  unfold WrPost at hPw
                  unfold XwPost at hXw
                  rw [hall] at hPw hXw
                  dsimp only at hPw hXw
                  rw [hval] at hPw hXw
                  unfold rootV at hPw hXw
                  unfold refVal at hXw
                  have HPw := Lib.hid hPw
                  have HXw := Lib.hid hXw
                  have Hbb := Lib.hid hbb
                  clear hPw hXw hval hall hbb hv1
                  go_upto_region 20 with (go_at_call 7; (with_reducible refine HPw.out.mono ?_); rintro e w2 ⟨rfl, hD2, hK2⟩; clear o0 o1 o2 o3 o4 o5 o6 o7 m0 m1 m2 m3 m4 m5 m6 m7 p0 p1 p2 p3 p4 p5 p6 p7 q0 q1 q2 q3 q4 q5 q6 q7; obtain ⟨p0, p1, p2, p3, p4, p5, p6, p7⟩ := cells4 ((hK2.block _ HbP.out).trans H1.out.2.2.1))
                  have hU2 := box4 (w := w2) (B0 := wr.heap.size) (b := (wr.heap.size + 1)) HiP.out (.int .i64 s1) (.int .i64 t1) (.int .i64 c1) (.slice a1 n1 k1)
                  have hP3 := setCell4_at ((hK2.block _ HbP.out).trans H1.out.2.2.1) (.int .i64 s1) (.int .i64 t1) (.int .i64 c1) (.slice a1 n1 k1)
                  have hO3 := set4w_old ((hK2.block _ HbO.out).trans H1.out.2.1) (show wr.heap.size ≠ (wr.heap.size + 1) by omega) (.int .i64 s1) (.int .i64 t1) (.int .i64 c1) (.slice a1 n1 k1)
                  have hQ3 := set4w_old ((hK2.block _ HbQ.out).trans H1.out.2.2.2) (show (wr.heap.size + 1 + 1) ≠ (wr.heap.size + 1) by omega) (.int .i64 s1) (.int .i64 t1) (.int .i64 c1) (.slice a1 n1 k1)
                  have hD3 := hD2.upd hU2 (fun k _ e => Or.inr e)
                  have hK3 : Keep exq w1 ((((w2.setCell ⟨(wr.heap.size + 1), 0, none⟩ (.int .i64 s1)).setCell ⟨(wr.heap.size + 1), 1, none⟩ (.int .i64 t1)).setCell ⟨(wr.heap.size + 1), 2, none⟩ (.int .i64 c1)).setCell ⟨(wr.heap.size + 1), 3, none⟩ (.slice a1 n1 k1)) := (hK2.mono (fun k hk => Or.inl hk)).trans (Keep.ofUpd hU2 (fun k hk => ⟨hD2.lt (Or.inl hk), h1.nb k hk⟩))
                  obtain ⟨w3, hw3⟩ : ∃ x, ((((w2.setCell ⟨(wr.heap.size + 1), 0, none⟩ (.int .i64 s1)).setCell ⟨(wr.heap.size + 1), 1, none⟩ (.int .i64 t1)).setCell ⟨(wr.heap.size + 1), 2, none⟩ (.int .i64 c1)).setCell ⟨(wr.heap.size + 1), 3, none⟩ (.slice a1 n1 k1)) = x := ⟨_, rfl⟩
                  rw [hw3] at hP3 hO3 hQ3 hD3 hK3 ⊢
                  obtain ⟨hR3, hW3⟩ := h1.mid hK3
                  have hL3 : Below w.heap.size w w3 := (h1.keep.trans (hK3.mono h1.hx)).below hxx
                  have hs3 := hK3.size
                  have H3 := Lib.hid (And.intro hD3 (And.intro hK3 (And.intro hR3 (And.intro hW3 (And.intro hP3 (And.intro hQ3 hL3))))))
                  clear hD2 hK2 hU2 hw3 p0 p1 p2 p3 p4 p5 p6 p7
                  obtain ⟨o0, o1, o2, o3, o4, o5, o6, o7⟩ := cells8 hO3
                  obtain ⟨m0, m1, m2, m3, m4, m5, m6, m7⟩ := cells4 hW3
                  have hXc := HXw.out w3 a n c (fun k => exq k ∨ w3.heap.size ≤ k) hR3 (fun k hk => Or.inr hk) (Hok.out.root.rb.below hL3)
                  have HXc := Lib.hid hXc
                  clear hP3 hO3 hQ3 hD3 hK3 hR3 hW3 hL3 hXc
                  go_wp2_with (go_at_call 8; (with_reducible refine HXc.out.mono ?_); rintro e w4 ⟨a', n', c', rfl, hR4, hb4⟩; clear o0 o1 o2 o3 o4 o5 o6 o7 m0 m1 m2 m3 m4 m5 m6 m7; obtain ⟨m0, m1, m2, m3, m4, m5, m6, m7⟩ := cells4 ((hb4.block _ (blk_lt H3.out.2.2.2.1)).trans H3.out.2.2.2.1); obtain ⟨q0, q1, q2, q3, q4, q5, q6, q7⟩ := cells4 ((hb4.block _ (blk_lt H3.out.2.2.2.2.2.1)).trans H3.out.2.2.2.2.2.1))
                  go_meet
                  case rel =>
                    have hS := h1.step H3.out.1 H3.out.2.1 hR4 hb4
                    have hU5 := box4 (w := ((((w4.setCell ⟨WB, 0, none⟩ (.int .i64 D'.most)).setCell ⟨WB, 1, none⟩ (.slice a' n' c')).setCell ⟨WB, 2, none⟩ (.int .i64 D'.left)).setCell ⟨WB, 3, none⟩ (.bool D'.down))) (B0 := wr.heap.size) (b := (wr.heap.size + 1 + 1)) HiQ.out (.int .i64 s1) (.int .i64 t1) (.int .i64 c1) (.slice a1 n1 k1)
                    have hS5 := hS.box hU5
                    have hP5 := set4w_old (set4w_old ((hb4.block _ (blk_lt H3.out.2.2.2.2.1)).trans H3.out.2.2.2.2.1) Hne.out.1 (.int .i64 D'.most) (.slice a' n' c') (.int .i64 D'.left) (.bool D'.down)) (show (wr.heap.size + 1) ≠ (wr.heap.size + 1 + 1) by omega) (.int .i64 s1) (.int .i64 t1) (.int .i64 c1) (.slice a1 n1 k1)
                    have hQ5 := setCell4_at (set4w_old ((hb4.block _ (blk_lt H3.out.2.2.2.2.2.1)).trans H3.out.2.2.2.2.2.1) Hne.out.2 (.int .i64 D'.most) (.slice a' n' c') (.int .i64 D'.left) (.bool D'.down)) (.int .i64 s1) (.int .i64 t1) (.int .i64 c1) (.slice a1 n1 k1)
                    have hL5 := Hbb.out.below (hS5.keep.below hxx)
                    exact ⟨er, true, D', a', n', c', _, s1, t1, c1, _, _, bb, rfl, rfl, rfl, rfl, hS5.side, hP5, hQ5, hL5, hL5⟩
                by_cases h4 : kind = 4
                · subst h4
                  have hPr := rRead_any w1 p m d h1.disk h1.wf.most1
                  have hXr := fun (wX : World) (a : Option Addr) (n c : Nat) (hR : RefAt exq wX a n c d) => x6Read_any wX a n c d hR h1.wf (fun s => read_most h1.wf s)
                  obtain ⟨R, hR⟩ : ∃ R, readR d = R := ⟨_, rfl⟩
                  unfold RrPost rootV at hPr
                  unfold RrPost rootV refVal at hXr
                  rw [hR] at hPr hXr
                  have HPr := Lib.hid hPr
                  have HXr := Lib.hid hXr
                  clear hPr hXr hR
                  go_upto_region 23 with (go_at_call 9; (with_reducible refine HPr.out.mono ?_); rintro e w2 ⟨a1, c1, rfl, hr2, hb2⟩; clear o0 o1 o2 o3 o4 o5 o6 o7 m0 m1 m2 m3 m4 m5 m6 m7 p0 p1 p2 p3 p4 p5 p6 p7 q0 q1 q2 q3 q4 q5 q6 q7; obtain ⟨p0, p1, p2, p3, p4, p5, p6, p7⟩ := cells4 ((hb2.block _ (blk_lt H1.out.2.2.1)).trans H1.out.2.2.1))
                  have hU2 := box4 (w := w2) (B0 := wr.heap.size) (b := (wr.heap.size + 1)) HiP.out (.int .i64 R.serial) (.int .i64 R.tick) (.int .i64 R.commit) (.slice a1 R.blob.length c1)
                  have hP3 := setCell4_at ((hb2.block _ (blk_lt H1.out.2.2.1)).trans H1.out.2.2.1) (.int .i64 R.serial) (.int .i64 R.tick) (.int .i64 R.commit) (.slice a1 R.blob.length c1)
                  have hQ3 := set4w_old ((hb2.block _ (blk_lt H1.out.2.2.2)).trans H1.out.2.2.2) (show (wr.heap.size + 1 + 1) ≠ (wr.heap.size + 1) by omega) (.int .i64 R.serial) (.int .i64 R.tick) (.int .i64 R.commit) (.slice a1 R.blob.length c1)
                  have hS3 := (h1.below hb2).box hU2
                  have hv3 := (Rd.ofOwns hr2).keep hU2 (fun g hg e => by have := row_from hr2 hg; have := h1.sz; have := e.2; omega)
                  have hg3 : ∀ g, (Value.slice a1 R.blob.length c1).ownBlock = some g → (wr.heap.size + 1 + 1) < g := fun g hg => by have := row_from hr2 hg; have := h1.sz; omega
                  obtain ⟨w3, hw3⟩ : ∃ x, ((((w2.setCell ⟨(wr.heap.size + 1), 0, none⟩ (.int .i64 R.serial)).setCell ⟨(wr.heap.size + 1), 1, none⟩ (.int .i64 R.tick)).setCell ⟨(wr.heap.size + 1), 2, none⟩ (.int .i64 R.commit)).setCell ⟨(wr.heap.size + 1), 3, none⟩ (.slice a1 R.blob.length c1)) = x := ⟨_, rfl⟩
                  rw [hw3] at hP3 hQ3 hS3 hv3 ⊢
                  have H3 := Lib.hid (And.intro hS3 (And.intro hP3 (And.intro hQ3 (And.intro hv3 hg3))))
                  obtain ⟨m0, m1, m2, m3, m4, m5, m6, m7⟩ := cells4 hS3.cell
                  clear hr2 hb2 hU2 hw3 hP3 hQ3 hS3 hv3 hg3 p0 p1 p2 p3 p4 p5 p6 p7
                  go_wp2_with (go_at_call 10; (with_reducible refine (HXr.out _ _ _ _ H3.out.1.ref).mono ?_); rintro e w4 ⟨a2, c2, rfl, hr4, hb4⟩; clear m0 m1 m2 m3 m4 m5 m6 m7; obtain ⟨q0, q1, q2, q3, q4, q5, q6, q7⟩ := cells4 ((hb4.block _ (blk_lt H3.out.2.2.1)).trans H3.out.2.2.1))
                  go_meet
                  case rel =>
                    have hU5 := box4 (w := w4) (B0 := wr.heap.size) (b := (wr.heap.size + 1 + 1)) HiQ.out (.int .i64 R.serial) (.int .i64 R.tick) (.int .i64 R.commit) (.slice a2 R.blob.length c2)
                    have hS5 := (H3.out.1.below hb4).box hU5
                    have hP5 := set4w_old ((hb4.block _ (blk_lt H3.out.2.1)).trans H3.out.2.1) (show (wr.heap.size + 1) ≠ (wr.heap.size + 1 + 1) by omega) (.int .i64 R.serial) (.int .i64 R.tick) (.int .i64 R.commit) (.slice a2 R.blob.length c2)
                    have hQ5 := setCell4_at ((hb4.block _ (blk_lt H3.out.2.2.1)).trans H3.out.2.2.1) (.int .i64 R.serial) (.int .i64 R.tick) (.int .i64 R.commit) (.slice a2 R.blob.length c2)
                    have hU6 := setCell4_upd (w := w4) (b := (wr.heap.size + 1 + 1)) (.int .i64 R.serial) (.int .i64 R.tick) (.int .i64 R.commit) (.slice a2 R.blob.length c2)
                    have hvP := (H3.out.2.2.2.1.below hb4).keep hU6 (fun g hg e => by have := H3.out.2.2.2.2 g hg; omega)
                    have hvQ := (Rd.ofOwns hr4).keep hU6 (fun g hg e => by have := row_from hr4 hg; have := H3.out.1.sz; omega)
                    exact ⟨readE d, decide (0 < R.serial), d, _, _, _, _, R.serial, R.tick, R.commit, _, _, R.blob, rfl, rfl, rfl, rfl, hS5.side, hP5, hQ5, hvP, hvQ⟩
                by_cases h5 : kind = 5
                · subst h5
                  have hPc := Arm_at nn h1.disk Hok.out.n.1 Hok.out.n.2
                  have HPc := Lib.hid hPc
                  clear hPc
                  go_upto_region 26 with (go_at_call 11; (with_reducible refine HPc.out.mono ?_); rintro e w2 ⟨rfl, hD2, hK2⟩; clear o0 o1 o2 o3 o4 o5 o6 o7 m0 m1 m2 m3 m4 m5 m6 m7 p0 p1 p2 p3 p4 p5 p6 p7 q0 q1 q2 q3 q4 q5 q6 q7)
                  have hK2q := hK2.mono (fun k hk => Or.inl hk)
                  obtain ⟨hR2, hW2⟩ := h1.mid hK2q
                  have hL2 : Below w.heap.size w w2 := (h1.keep.trans (hK2q.mono h1.hx)).below hxx
                  have hO2 := (hK2.block _ HbO.out).trans H1.out.2.1
                  have hP2 := (hK2.block _ HbP.out).trans H1.out.2.2.1
                  have hQ2 := (hK2.block _ HbQ.out).trans H1.out.2.2.2
                  obtain ⟨o0, o1, o2, o3, o4, o5, o6, o7⟩ := cells8 hO2
                  obtain ⟨m0, m1, m2, m3, m4, m5, m6, m7⟩ := cells4 hW2
                  have hRc := refArm_any w2 a n c d nn hR2
                  unfold refVal at hRc
                  have HRc := Lib.hid hRc
                  have H2 := Lib.hid (And.intro hD2 (And.intro hK2q (And.intro hW2 (And.intro hP2 hQ2))))
                  clear hRc hD2 hK2 hK2q hW2 hP2 hQ2 hO2 hR2
                  go_wp2_with (go_at_call 12; (with_reducible refine HRc.out.mono ?_); rintro e w3 ⟨rfl, hR3, hb3⟩; clear o0 o1 o2 o3 o4 o5 o6 o7 m0 m1 m2 m3 m4 m5 m6 m7; obtain ⟨m0, m1, m2, m3, m4, m5, m6, m7⟩ := cells4 ((hb3.block _ (blk_lt H2.out.2.2.1)).trans H2.out.2.2.1))
                  go_meet
                  case rel =>
                    have hS := h1.step H2.out.1 H2.out.2.1 hR3 hb3
                    exact ⟨0, true, d.arm nn, _, _, _, _, 0, 0, 0, _, _, [], rfl, rfl, rfl, rfl, hS.side, set4w_old ((hb3.block _ (blk_lt H2.out.2.2.2.1)).trans H2.out.2.2.2.1) Hne.out.1 _ _ _ _, set4w_old ((hb3.block _ (blk_lt H2.out.2.2.2.2)).trans H2.out.2.2.2.2) Hne.out.2 _ _ _ _, Or.inl ⟨Or.inl rfl, rfl⟩, Or.inl ⟨Or.inl rfl, rfl⟩⟩
                by_cases h6 : kind = 6
                · subst h6
                  have hA := alloc_at w1 (.cells #[.int .i64 nn, .int .i64 nn, .int .i64 nn, .int .i64 nn] 3)
                  have hbA : Below w1.heap.size w1 (w1.alloc (.cells #[.int .i64 nn, .int .i64 nn, .int .i64 nn, .int .i64 nn] 3)) := (Below.refl _ _).alloc (Nat.le_refl _) _
                  have hrdA : Rd (w1.alloc (.cells #[.int .i64 nn, .int .i64 nn, .int .i64 nn, .int .i64 nn] 3)) (.slice (some ⟨w1.heap.size, 0, none⟩) 4 4) (iCells [nn, nn, nn, nn]) := Rd_new w1 #[.int .i64 nn, .int .i64 nn, .int .i64 nn, .int .i64 nn] 3 (0, 0) (iCells [nn, nn, nn, nn]) 4 4 rfl rfl
                  have hA1 := h1.more hbA w1.heap.size (Nat.le_refl _) (by simp)
                  go_upto_region 29 with fail
                  obtain ⟨wA, hwA⟩ : ∃ x, w1.alloc (.cells #[.int .i64 nn, .int .i64 nn, .int .i64 nn, .int .i64 nn] 3) = x := ⟨_, rfl⟩
                  obtain ⟨KB, hKB⟩ : ∃ x, w1.heap.size = x := ⟨_, rfl⟩
                  rw [hwA] at hA hbA hrdA hA1 ⊢
                  rw [hKB] at hrdA hA1 ⊢
                  have HA := Lib.hid (And.intro ((hbA.block _ (blk_lt H1.out.2.1)).trans H1.out.2.1) (And.intro ((hbA.block _ (blk_lt H1.out.2.2.1)).trans H1.out.2.2.1) ((hbA.block _ (blk_lt H1.out.2.2.2)).trans H1.out.2.2.2)))
                  have HrdA := Lib.hid hrdA
                  have HA1 := Lib.hid hA1
                  have hki : ∀ x ∈ [nn, nn, nn, nn], isI64 x := by
                    intro x hx
                    have : x = nn := by simpa using hx
                    rw [this]; exact Hok.out.n
                  clear hA hwA hKB
                  clear o0 o1 o2 o3 o4 o5 o6 o7 m0 m1 m2 m3 m4 m5 m6 m7 p0 p1 p2 p3 p4 p5 p6 p7 q0 q1 q2 q3 q4 q5 q6 q7
                  have hPc := Crash_at1 (.slice (some ⟨KB, 0, none⟩) 4 4) [nn, nn, nn, nn] HA1.out.disk HrdA.out (by simp) hki (fun k hk _ => by cases hk; exact Or.inl (Or.inr rfl))
                  have HPc := Lib.hid hPc
                  clear hPc
                  go_upto_region 30 with (go_at_call 13; (with_reducible refine HPc.out.mono ?_); rintro e w2 ⟨rfl, hD2, hK2⟩)
                  have hK2q := hK2.mono (fun k hk => Or.inl hk)
                  obtain ⟨hR2, hW2⟩ := HA1.out.mid hK2q
                  have hL2 : Below w.heap.size w w2 := (HA1.out.keep.trans (hK2q.mono HA1.out.hx)).below hxx
                  have hO2 := (hK2.block _ (HbO.out.elim (fun h => Or.inl (Or.inl h)) Or.inr)).trans HA.out.1
                  have hP2 := (hK2.block _ (HbP.out.elim (fun h => Or.inl (Or.inl h)) Or.inr)).trans HA.out.2.1
                  have hQ2 := (hK2.block _ (HbQ.out.elim (fun h => Or.inl (Or.inl h)) Or.inr)).trans HA.out.2.2
                  have hrd2 := hK2q.rd HrdA.out (fun k hk => by cases hk; exact Or.inr rfl)
                  obtain ⟨o0, o1, o2, o3, o4, o5, o6, o7⟩ := cells8 hO2
                  obtain ⟨m0, m1, m2, m3, m4, m5, m6, m7⟩ := cells4 hW2
                  have hRc := refCrash_any w2 a n c d (.slice (some ⟨KB, 0, none⟩) 4 4) [nn, nn, nn, nn] hR2 h1.wf (fun k hk => Or.inr hk) hrd2 hki
                  unfold refVal at hRc
                  have HRc := Lib.hid hRc
                  have H2 := Lib.hid (And.intro hD2 (And.intro hK2q (And.intro hW2 (And.intro hP2 hQ2))))
                  clear hRc hD2 hK2 hK2q hW2 hP2 hQ2 hO2 hR2
                  go_wp2_with (go_at_call 14; (with_reducible refine HRc.out.mono ?_); rintro e w3 ⟨a', n', c', rfl, hR3, hb3⟩; clear o0 o1 o2 o3 o4 o5 o6 o7 m0 m1 m2 m3 m4 m5 m6 m7; obtain ⟨m0, m1, m2, m3, m4, m5, m6, m7⟩ := cells4 ((hb3.block _ (blk_lt H2.out.2.2.1)).trans H2.out.2.2.1))
                  go_meet
                  case rel =>
                    have hS := HA1.out.step H2.out.1 H2.out.2.1 hR3 hb3
                    exact ⟨0, true, d.crash [nn, nn, nn, nn], _, _, _, _, 0, 0, 0, _, _, [], rfl, rfl, rfl, rfl, hS.side, set4w_old ((hb3.block _ (blk_lt H2.out.2.2.2.1)).trans H2.out.2.2.2.1) Hne.out.1 _ _ _ _, set4w_old ((hb3.block _ (blk_lt H2.out.2.2.2.2)).trans H2.out.2.2.2.2) Hne.out.2 _ _ _ _, Or.inl ⟨Or.inl rfl, rfl⟩, Or.inl ⟨Or.inl rfl, rfl⟩⟩
                by_cases h7 : kind = 7
                · subst h7
                  have hPc := Append_at name (.slice ab b'.length cb) b' h1.disk Hok.out.name (Hok.out.rd.below hL1) (by omega)
                  have HPc := Lib.hid hPc
                  clear hPc
                  go_upto_region 33 with (go_at_call 15; (with_reducible refine HPc.out.mono ?_); rintro e w2 ⟨rfl, hD2, hK2⟩; clear o0 o1 o2 o3 o4 o5 o6 o7 m0 m1 m2 m3 m4 m5 m6 m7 p0 p1 p2 p3 p4 p5 p6 p7 q0 q1 q2 q3 q4 q5 q6 q7)
                  have hK2q := hK2.mono (fun k hk => Or.inl hk)
                  obtain ⟨hR2, hW2⟩ := h1.mid hK2q
                  have hL2 : Below w.heap.size w w2 := (h1.keep.trans (hK2q.mono h1.hx)).below hxx
                  have hO2 := (hK2.block _ HbO.out).trans H1.out.2.1
                  have hP2 := (hK2.block _ HbP.out).trans H1.out.2.2.1
                  have hQ2 := (hK2.block _ HbQ.out).trans H1.out.2.2.2
                  obtain ⟨o0, o1, o2, o3, o4, o5, o6, o7⟩ := cells8 hO2
                  obtain ⟨m0, m1, m2, m3, m4, m5, m6, m7⟩ := cells4 hW2
                  have hRc := refAppend_any w2 a n c d name (.slice ab b'.length cb) b' hR2 h1.wf (fun k hk => Or.inr hk) Hok.out.name (Hok.out.rd.below hL2) (by omega)
                  unfold refVal at hRc
                  have HRc := Lib.hid hRc
                  have H2 := Lib.hid (And.intro hD2 (And.intro hK2q (And.intro hW2 (And.intro hP2 hQ2))))
                  clear hRc hD2 hK2 hK2q hW2 hP2 hQ2 hO2 hR2
                  go_wp2_with (go_at_call 16; (with_reducible refine HRc.out.mono ?_); rintro e w3 ⟨a', n', c', rfl, hR3, hb3⟩; clear o0 o1 o2 o3 o4 o5 o6 o7 m0 m1 m2 m3 m4 m5 m6 m7; obtain ⟨m0, m1, m2, m3, m4, m5, m6, m7⟩ := cells4 ((hb3.block _ (blk_lt H2.out.2.2.1)).trans H2.out.2.2.1))
                  go_meet
                  case rel =>
                    have hS := h1.step H2.out.1 H2.out.2.1 hR3 hb3
                    exact ⟨d.appendErr name b', true, d.append name b', _, _, _, _, 0, 0, 0, _, _, [], rfl, rfl, rfl, rfl, hS.side, set4w_old ((hb3.block _ (blk_lt H2.out.2.2.2.1)).trans H2.out.2.2.2.1) Hne.out.1 _ _ _ _, set4w_old ((hb3.block _ (blk_lt H2.out.2.2.2.2)).trans H2.out.2.2.2.2) Hne.out.2 _ _ _ _, Or.inl ⟨Or.inl rfl, rfl⟩, Or.inl ⟨Or.inl rfl, rfl⟩⟩
                by_cases h8 : kind = 8
                · subst h8
                  have hPc := Cut_at name nn h1.disk Hok.out.name
                  have HPc := Lib.hid hPc
                  clear hPc
                  go_upto_region 36 with (go_at_call 17; (with_reducible refine HPc.out.mono ?_); rintro e w2 ⟨rfl, hD2, hK2⟩; clear o0 o1 o2 o3 o4 o5 o6 o7 m0 m1 m2 m3 m4 m5 m6 m7 p0 p1 p2 p3 p4 p5 p6 p7 q0 q1 q2 q3 q4 q5 q6 q7)
                  have hK2q := hK2.mono (fun k hk => Or.inl hk)
                  obtain ⟨hR2, hW2⟩ := h1.mid hK2q
                  have hL2 : Below w.heap.size w w2 := (h1.keep.trans (hK2q.mono h1.hx)).below hxx
                  have hO2 := (hK2.block _ HbO.out).trans H1.out.2.1
                  have hP2 := (hK2.block _ HbP.out).trans H1.out.2.2.1
                  have hQ2 := (hK2.block _ HbQ.out).trans H1.out.2.2.2
                  obtain ⟨o0, o1, o2, o3, o4, o5, o6, o7⟩ := cells8 hO2
                  obtain ⟨m0, m1, m2, m3, m4, m5, m6, m7⟩ := cells4 hW2
                  have hRc := refCut_any w2 a n c d name nn hR2 h1.wf (fun k hk => Or.inr hk)
                  unfold refVal at hRc
                  have HRc := Lib.hid hRc
                  have H2 := Lib.hid (And.intro hD2 (And.intro hK2q (And.intro hW2 (And.intro hP2 hQ2))))
                  clear hRc hD2 hK2 hK2q hW2 hP2 hQ2 hO2 hR2
                  go_wp2_with (go_at_call 18; (with_reducible refine HRc.out.mono ?_); rintro e w3 ⟨a', n', c', rfl, hR3, hb3⟩; clear o0 o1 o2 o3 o4 o5 o6 o7 m0 m1 m2 m3 m4 m5 m6 m7; obtain ⟨m0, m1, m2, m3, m4, m5, m6, m7⟩ := cells4 ((hb3.block _ (blk_lt H2.out.2.2.1)).trans H2.out.2.2.1))
                  go_meet
                  case rel =>
                    have hS := h1.step H2.out.1 H2.out.2.1 hR3 hb3
                    exact ⟨d.cutErr name nn, true, d.cut name nn, _, _, _, _, 0, 0, 0, _, _, [], rfl, rfl, rfl, rfl, hS.side, set4w_old ((hb3.block _ (blk_lt H2.out.2.2.2.1)).trans H2.out.2.2.2.1) Hne.out.1 _ _ _ _, set4w_old ((hb3.block _ (blk_lt H2.out.2.2.2.2)).trans H2.out.2.2.2.2) Hne.out.2 _ _ _ _, Or.inl ⟨Or.inl rfl, rfl⟩, Or.inl ⟨Or.inl rfl, rfl⟩⟩
                by_cases h9 : kind = 9
                · subst h9
                  have hPc := Remove_at name h1.disk Hok.out.name
                  have HPc := Lib.hid hPc
                  clear hPc
                  go_upto_region 39 with (go_at_call 19; (with_reducible refine HPc.out.mono ?_); rintro e w2 ⟨rfl, hD2, hK2⟩; clear o0 o1 o2 o3 o4 o5 o6 o7 m0 m1 m2 m3 m4 m5 m6 m7 p0 p1 p2 p3 p4 p5 p6 p7 q0 q1 q2 q3 q4 q5 q6 q7)
                  have hK2q := hK2.mono (fun k hk => Or.inl hk)
                  obtain ⟨hR2, hW2⟩ := h1.mid hK2q
                  have hL2 : Below w.heap.size w w2 := (h1.keep.trans (hK2q.mono h1.hx)).below hxx
                  have hO2 := (hK2.block _ HbO.out).trans H1.out.2.1
                  have hP2 := (hK2.block _ HbP.out).trans H1.out.2.2.1
                  have hQ2 := (hK2.block _ HbQ.out).trans H1.out.2.2.2
                  obtain ⟨o0, o1, o2, o3, o4, o5, o6, o7⟩ := cells8 hO2
                  obtain ⟨m0, m1, m2, m3, m4, m5, m6, m7⟩ := cells4 hW2
                  have hRc := refRemove_any w2 a n c d name hR2 h1.wf (fun k hk => Or.inr hk)
                  unfold refVal at hRc
                  have HRc := Lib.hid hRc
                  have H2 := Lib.hid (And.intro hD2 (And.intro hK2q (And.intro hW2 (And.intro hP2 hQ2))))
                  clear hRc hD2 hK2 hK2q hW2 hP2 hQ2 hO2 hR2
                  go_wp2_with (go_at_call 20; (with_reducible refine HRc.out.mono ?_); rintro e w3 ⟨a', n', c', rfl, hR3, hb3⟩; clear o0 o1 o2 o3 o4 o5 o6 o7 m0 m1 m2 m3 m4 m5 m6 m7; obtain ⟨m0, m1, m2, m3, m4, m5, m6, m7⟩ := cells4 ((hb3.block _ (blk_lt H2.out.2.2.1)).trans H2.out.2.2.1))
                  go_meet
                  case rel =>
                    have hS := h1.step H2.out.1 H2.out.2.1 hR3 hb3
                    exact ⟨d.removeErr name, true, d.remove name, _, _, _, _, 0, 0, 0, _, _, [], rfl, rfl, rfl, rfl, hS.side, set4w_old ((hb3.block _ (blk_lt H2.out.2.2.2.1)).trans H2.out.2.2.2.1) Hne.out.1 _ _ _ _, set4w_old ((hb3.block _ (blk_lt H2.out.2.2.2.2)).trans H2.out.2.2.2.2) Hne.out.2 _ _ _ _, Or.inl ⟨Or.inl rfl, rfl⟩, Or.inl ⟨Or.inl rfl, rfl⟩⟩
                have b1 : (kind == 1) = false := by simpa using h1x
                have b2 : (kind == 2) = false := by simpa using h2
                have b3 : (kind == 3) = false := by simpa using h3
                have b4 : (kind == 4) = false := by simpa using h4
                have b5 : (kind == 5) = false := by simpa using h5
                have b6 : (kind == 6) = false := by simpa using h6
                have b7 : (kind == 7) = false := by simpa using h7
                have b8 : (kind == 8) = false := by simpa using h8
                have b9 : (kind == 9) = false := by simpa using h9
                clear h1x h2 h3 h4 h5 h6 h7 h8 h9
                go_wp2_with fail
                go_meet
                case rel => exact ⟨0, true, d, _, _, _, _, 0, 0, 0, _, _, [], rfl, rfl, rfl, rfl, h1.side, H1.out.2.2.1, H1.out.2.2.2, Or.inl ⟨Or.inl rfl, rfl⟩, Or.inl ⟨Or.inl rfl, rfl⟩⟩
              case rest =>
                obtain ⟨fe, o', d', a', n', c', exq', s1, t1, c1, vp, vq, bb, rfl, rfl, rfl, rfl, hT2, hP2, hQ2, hvp, hvq⟩ := hcut
                obtain ⟨w2, rfl⟩ : ∃ x, x = wc := ⟨_, rfl⟩
                clear o0 o1 o2 o3 o4 o5 o6 o7 m0 m1 m2 m3 m4 m5 m6 m7 p0 p1 p2 p3 p4 p5 p6 p7 q0 q1 q2 q3 q4 q5 q6 q7
                clear h1 hb1 hL1
                have HT2 := Lib.hid hT2
                have Hv := Lib.hid (And.intro hvp hvq)
                obtain ⟨m0, m1, m2, m3, m4, m5, m6, m7⟩ := cells4 hT2.cell
                obtain ⟨p0, p1, p2, p3, p4, p5, p6, p7⟩ := cells4 hP2
                obtain ⟨q0, q1, q2, q3, q4, q5, q6, q7⟩ := cells4 hQ2
                have hSr := sameR_self w2 s1 t1 c1 vp vq bb hvp hvq
                unfold rootV at hSr
                have HSr := Lib.hid hSr
                clear hT2 hP2 hQ2 hvp hvq hSr
                go_wp2_with first
                  | (go_at_call 21; (with_reducible refine HSr.out.mono ?_); rintro e w3 ⟨rfl, hb3⟩; have HT3 := Lib.hid (HT2.out.below hb3); clear m0 m1 m2 m3 m4 m5 m6 m7 p0 p1 p2 p3 p4 p5 p6 p7 q0 q1 q2 q3 q4 q5 q6 q7 hb3; obtain ⟨m0, m1, m2, m3, m4, m5, m6, m7⟩ := cells4 HT3.out.cell; have hSd := SameDisk_any w3 p m a' n' c' d' HT3.out.disk HT3.out.ref; unfold refVal at hSd; have HSd := Lib.hid hSd; clear hSd)
                  | (go_at_call 22; (with_reducible refine HSd.out.mono ?_); rintro e w4 ⟨rfl, hb4⟩; have HT4 := Lib.hid (HT3.out.below hb4))
                go_roundw
                case rel => exact ⟨k + 1, d', a', n', c', exq', by omega, by omega, by go_num, HT4.out⟩
                case measure => simp [intOf]; omega
          · go_wp2_with fail
            refine (awake6_any _).mono ?_
            rintro e w7 ⟨rfl, hb7⟩
            go_wp2
            go_ret
            exact ⟨rfl, hend _ hb7⟩
        · go_wp2_with fail
          refine (awake6_any _).mono ?_
          rintro e w7 ⟨rfl, hb7⟩
          go_wp2
          go_ret
          exact ⟨rfl, hend _ hb7⟩
/-- .. as the frame hands it. -/
theorem plays_law (w : World) (a0 : Int) (w0 : (Lit.int .i64 a0).wf = true) {v1 : Value} (b1 : List AOp6) (r1 : OpsAt6 w v1 b1) :
    Calls Tryz.prog 3 #[.int .i64 a0, v1] w fun e w' => e = .returned (.bool true) ∧ Below w.heap.size w w' := by
  have hb := bounds_i64 w0
  exact plays_walk w a0 v1 b1 (by omega) (by omega) r1
end Go.Proofs.YtkacgmbinkoojaaGreatDoor
