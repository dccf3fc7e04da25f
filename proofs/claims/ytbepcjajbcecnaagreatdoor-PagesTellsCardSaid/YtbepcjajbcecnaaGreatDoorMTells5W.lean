/-
  PagesTells: the walk.
-/
import Derived.Outline
import Derived.Deep.CutRange
import Derived.Deep.CutBlock
import Derived.Test.YtbepcjajbcecnaaGreatDoorMPmD
import Derived.Test.YtbepcjajbcecnaaGreatDoorMPmG
import Derived.Test.YtbepcjajbcecnaaGreatDoorMDcD
import Derived.Test.YtbepcjajbcecnaaGreatDoorMTlA
namespace Go.Proofs.YtbepcjajbcecnaaGreatDoor
open Go.RowKit Go.Maps Go.MapKept
set_option linter.unusedSimpArgs false

theorem StoreAt.more_upd {ex ex' fp : Nat → Prop} {w w' : World} {q p m : Nat} {d : ADisk} {st : AStore} (h : StoreAt ex w q p m d st) (hu : Upd fp w w') (hf : ∀ k, k < w.heap.size → fp k → ex k) (hx : ∀ k, ex' k → ex k ∨ w.heap.size ≤ k ∧ k < w'.heap.size) : StoreAt ex' w' q p m d st := let ⟨a, b, c, e, hv⟩ := h; ⟨a, b, c, e, hv.more_upd hu hf hx⟩
/-- behind Open on both: the document's answers are stored. -/
theorem tells_mid {X : Nat → Prop} {w2 w3 : World} {WB : Nat} {a a' : Option Addr} {n c n' c' : Nat} {d d' : ADisk} {al : Option Addr} {nl cl : Nat} {l : List (ByteArray × ABlob)} (hW : w2.heap[WB]? = some (.cells #[.int .i64 d.most, .slice a n c, .int .i64 d.left, .bool d.down] 74)) (hb : Below w2.heap.size w2 w3) (hR : RefAt X w3 a' n' c' d') (hK : DKeys w3 al nl cl l) (v0 v1 v2 v3 : Value) (k : Int) :
    let W := set4 (set4 (w3.alloc (.cells #[.int .i64 0, .slice none 0 0, .slice none 0 0, .bool false] 81)) WB v0 v1 v2 v3) w3.heap.size (.int .i64 k) (.slice al nl cl) (.slice al nl cl) (.bool false)
    RefAt X W a' n' c' d' ∧ DKeys W al nl cl l ∧ W.heap[WB]? = some (.cells #[v0, v1, v2, v3] 74) ∧ W.heap[w3.heap.size]? = some (.cells #[.int .i64 k, .slice al nl cl, .slice al nl cl, .bool false] 81) ∧ Upd (fun k => k = WB ∨ k = w3.heap.size) w2 W := by
  have hB : Below w3.heap.size w3 (w3.alloc (.cells #[.int .i64 0, .slice none 0 0, .slice none 0 0, .bool false] 81)) := (Below.refl _ _).alloc (Nat.le_refl _) _
  have hW3 := (hb.block _ (blk_lt hW)).trans hW
  have hW4 := alloc_old hW3 (.cells #[.int .i64 0, .slice none 0 0, .slice none 0 0, .bool false] 81)
  have hN4 := alloc_at w3 (.cells #[.int .i64 0, .slice none 0 0, .slice none 0 0, .bool false] 81)
  have hlt := blk_lt hW3
  have U1 := set4_upd (w3.alloc (.cells #[.int .i64 0, .slice none 0 0, .slice none 0 0, .bool false] 81)) WB v0 v1 v2 v3
  have hN5 := U1.keep hN4 (by omega)
  have U2 := set4_upd (set4 (w3.alloc (.cells #[.int .i64 0, .slice none 0 0, .slice none 0 0, .bool false] 81)) WB v0 v1 v2 v3) w3.heap.size (.int .i64 k) (.slice al nl cl) (.slice al nl cl) (.bool false)
  refine ⟨((hR.below hB).bare (bare_disk hW4) U1).bare (bare_store hN5) U2, ((hK.below hB).bare (bare_disk hW4) U1).bare (bare_store hN5) U2, U2.keep (set4_at hW4 v0 v1 v2 v3) (by omega), set4_at hN5 _ _ _ _, ?_⟩
  exact (((Upd.ofBelow (fp := fun k => k = WB ∨ k = w3.heap.size) (hb.trans (hB.mono hb.size))).trans U1 (fun k hk => Or.inl (Or.inl hk))).trans U2 (fun k hk => Or.inl (Or.inr hk)))

set_option maxRecDepth 100000 in
set_option maxHeartbeats 8000000 in
theorem tells5_law (w : World) (hE : WEnv w) {va : Value} (L : List AFile5) (hL : FilesAt5 w va L) (cm arm : Int) (hc : isI64 cm) (ha : isI64 arm) :
    Calls Tryz.prog 9 #[va, .int .i64 cm, .int .i64 arm] w fun e w' => e = .returned (.bool true) ∧ Below w.heap.size w w' := by
  have hLm := SliceOf.len_le hL
  obtain ⟨av, cv, rfl⟩ := SliceOf.shape hL
  simp only [maxLen] at hLm
  have HE := Lib.hid hE
  have HL := Lib.hid hL
  clear hE hL
  by_cases h10 : 10 < L.length
  · have hI : (10 : Int) < (L.length : Int) := by omega
    clear h10
    go_enter Tryz.func9, Tryz.ntmps9
    go_wp2_with (go_at_call 18; refine (awake5_any _ HE.out).mono ?_; rintro e w1 ⟨rfl, hb1⟩)
    go_ret
    exact ⟨rfl, hb1⟩
  · have hI : ¬ (10 : Int) < (L.length : Int) := by omega
    go_enter Tryz.func9, Tryz.ntmps9
    go_upto_region 4 with fail
    go_loopw [7] (fun iv wr => ∃ i : Nat, i ≤ L.length ∧ iv = .int .i64 i ∧ (∀ x ∈ L.take i, x.name.size ≤ 60 ∧ x.b.length ≤ 3000) ∧ wr = w) (fun iv _ => L.length - (intOf iv).toNat)
    case atStart => exact ⟨0, by omega, rfl, fun x hx => (by simp at hx), rfl⟩
    case round =>
      obtain ⟨i, hi, rfl, hall, rfl⟩ := hrel
      by_cases hlt : i < L.length
      · obtain ⟨b, off, rfl, hbl, hok, c0, c1⟩ := HL.out.at (Below.refl _ _) i hlt
        have hnx : L.take (i + 1) = L.take i ++ [L[i]] := List.take_succ_eq_append_getElem hlt
        obtain ⟨x, hx⟩ : ∃ x, L[i] = x := ⟨_, rfl⟩
        rw [hx] at hok c0 c1 hnx
        obtain ⟨name, vb, bb⟩ := x
        obtain ⟨ab, cb, hvb⟩ := hok.rd.shape
        simp only [bcells_length] at c0 c1 hvb
        subst hvb
        have hltI : (i : Int) < (L.length : Int) := by omega
        have Hnx := Lib.hid hnx
        have Hall := Lib.hid hall
        clear hx hnx hok hall
        by_cases h1 : name.size ≤ 60
        · have h1I : ¬ (60 : Int) < (name.size : Int) := by omega
          by_cases h2 : bb.length ≤ 3000
          · have h2I : ¬ (3000 : Int) < (bb.length : Int) := by omega
            have Hn := Lib.hid (show ∀ x ∈ L.take (i + 1), x.name.size ≤ 60 ∧ x.b.length ≤ 3000 from fun x hx => by
              rw [Hnx.out, List.mem_append] at hx
              rcases hx with hx | hx
              · exact Hall.out x hx
              · rw [List.mem_singleton.1 hx]; exact ⟨h1, h2⟩)
            clear h1 h2
            go_wp2_with fail
            go_roundw
            case rel => exact ⟨i + 1, by omega, by go_num, Hn.out, by first | trivial | rfl⟩
            case measure => simp [intOf]; omega
          · have h2I : (3000 : Int) < (bb.length : Int) := by omega
            clear h1 h2
            go_wp2_with (go_at_call 18; refine (awake5_any _ HE.out).mono ?_; rintro e w1 ⟨rfl, hb1⟩)
            go_ret
            exact ⟨rfl, hb1⟩
        · have h1I : (60 : Int) < (name.size : Int) := by omega
          clear h1
          go_wp2_with (go_at_call 18; refine (awake5_any _ HE.out).mono ?_; rintro e w1 ⟨rfl, hb1⟩)
          go_ret
          exact ⟨rfl, hb1⟩
      · obtain rfl : i = L.length := by omega
        rw [List.take_length] at hall
        obtain ⟨ex0, hex0⟩ : ∃ ex0 : Nat → Prop, ex0 = fun k => k < wr.heap.size := ⟨_, rfl⟩
        have hx0 : ∀ k, ex0 k → k < wr.heap.size := fun k hk => by rw [hex0] at hk; exact hk
        have hx1 : ∀ k, k < wr.heap.size → ex0 k := fun k hk => by rw [hex0]; exact hk
        have Hx0 := Lib.hid (And.intro hx0 hx1)
        have hM := made5_any wr ex0 _ L HL.out hx0 hx1 (fun x hx => (hall x hx).2)
        unfold MadePost at hM
        obtain ⟨d0, hd0⟩ : ∃ d, madeD L = d := ⟨_, rfl⟩
        rw [hd0] at hM
        clear hx0 hx1 hex0 hall hd0
        go_upto_region 8 with fail
        unfold refVal at hM
        go_upto_region 9 with (go_at_call 33; refine hM.mono ?_; rintro e w1 ⟨p, m, a, n, c, exq, rfl, hqx, hD1, hR1, hK1⟩)
        have hW2 := alloc_at w1 (.cells #[.int .i64 d0.most, .slice a n c, .int .i64 d0.left, .bool d0.down] 74)
        have hb2 : Below w1.heap.size w1 (w1.alloc (.cells #[.int .i64 d0.most, .slice a n c, .int .i64 d0.left, .bool d0.down] 74)) := (Below.refl _ _).alloc (Nat.le_refl _) _
        have hs2 : (w1.alloc (.cells #[.int .i64 d0.most, .slice a n c, .int .i64 d0.left, .bool d0.down] 74)).heap.size = w1.heap.size + 1 := by simp
        obtain ⟨w2, hw2⟩ : ∃ y, w1.alloc (.cells #[.int .i64 d0.most, .slice a n c, .int .i64 d0.left, .bool d0.down] 74) = y := ⟨_, rfl⟩
        obtain ⟨WB, hWB⟩ : ∃ y, w1.heap.size = y := ⟨_, rfl⟩
        rw [hw2] at hW2 hb2 hs2
        have hsz := hK1.size
        have hT2 : PairAt ex0 wr w2 p m WB (fun k => exq k ∨ k = WB) d0 a n c :=
          ⟨fun k hk => Or.inl (hqx k hk), Or.inr rfl, fun hk => by have := Hx0.out.1 _ hk; omega, hD1.more hb2 (fun k hk => hk.elim Or.inl (fun e => Or.inr ⟨by omega, by omega⟩)), (hR1.below hb2).narrow (fun _ hk _ => Or.inl hk), by rw [← hWB]; exact hW2, hK1.trans (Keep.ofBelow hb2 (fun k hk => hD1.lt (hqx k hk)))⟩
        have HT2 := Lib.hid hT2
        have Hw2 := Lib.hid hw2
        have HWB := Lib.hid hWB
        clear hW2 hb2 hs2 hw2 hWB hsz hT2 hqx hD1 hR1 hK1 hM
        go_upto_if 47 with fail
        rw [Hw2.out, HWB.out]
        obtain ⟨bA, hbA⟩ : ∃ b, decide (0 ≤ arm) = b := ⟨_, rfl⟩
        rw [hbA]
        clear hbA
        go_cut [] from 48 to 53 (fun wx => ∃ (d : ADisk) (a : Option Addr) (n c : Nat) (exq : Nat → Prop), PairAt ex0 wr wx p m WB exq d a n c)
        case first =>
          cases bA with
          | true =>
            have hAr := Arm_at arm HT2.out.disk (by unfold isI64 at ha; omega) (by unfold isI64 at ha; omega)
            go_upto_region 11 with (go_at_call 34; refine hAr.mono ?_; rintro e w3 ⟨rfl, hD3, hK3⟩)
            obtain ⟨hRm, hWm⟩ := HT2.out.mid hK3
            have hRA := refArm_any w3 a n c d0 arm hRm
            unfold refVal at hRA
            have H3 := Lib.hid (And.intro hD3 (And.intro hK3 hWm))
            obtain ⟨m0, m1, m2, m3, m4, m5, m6, m7⟩ := cells4 hWm
            clear hAr hD3 hK3 hRm hWm
            go_wp2_with (go_at_call 35; refine hRA.mono ?_; rintro e w4 ⟨rfl, hR4, hb4⟩; obtain ⟨r0, r1, r2, r3, r4, r5, r6, r7⟩ := cells4 ((hb4.block _ (blk_lt H3.out.2.2)).trans H3.out.2.2))
            have HSt := Lib.hid (HT2.out.step H3.out.1 H3.out.2.1 hR4 hb4)
            clear hR4 hb4 r0 r1 r2 r3 r4 r5 r6 r7 m0 m1 m2 m3 m4 m5 m6 m7
            go_meet
            case rel => first | exact ⟨_, _, _, _, _, HSt.out⟩ | ((repeat apply Exists.intro); exact ⟨⟨_, _, _, _, _, HSt.out⟩, rfl⟩)
          | false =>
            go_wp2_with fail
            go_meet
            case rel => first | exact ⟨_, _, _, _, _, HT2.out⟩ | ((repeat apply Exists.intro); exact ⟨⟨_, _, _, _, _, HT2.out⟩, rfl⟩)
        case rest =>
          obtain ⟨d, a3, n3, c3, exr, hT3⟩ := hcut
          obtain ⟨w3, rfl⟩ : ∃ x, x = wc := ⟨_, rfl⟩
          have hbel : Below wr.heap.size wr w3 := hT3.keep.below (fun k hk => Hx0.out.2 k hk)
          have hG : GlIn exr := HE.out.lt.mono (fun k hk => hT3.hx _ (Hx0.out.2 k hk))
          obtain ⟨r, hr⟩ : ∃ r, pOpen d cm = r := ⟨_, rfl⟩
          have hOp := pgOpen_at hT3.disk (HE.out.below hbel) hG cm hc
          have hRO := fun (w4 : World) (hK : Keep exr w3 w4) => r5Open_any w4 a3 n3 c3 d cm hc (hT3.mid hK).1 hT3.wf (fun k hk => Or.inr hk)
          have hok := pOpen_ok d cm
          rw [hr] at hOp hRO hok
          have HT3 := Lib.hid (And.intro hT3 hbel)
          have Hok := Lib.hid hok
          have HRO := Lib.hid hRO
          unfold OpenPost at hOp
          clear hr hT3 hbel hG hok hRO HT2
          obtain ⟨d4, st, er⟩ := r
          simp only at hOp
          by_cases her : er = 0
          · subst her
            simp only [if_pos (rfl : (0 : Int) = 0)] at hOp
            go_upto_region 13 with (go_at_call 16; refine hOp.mono ?_; rintro e w4 ⟨q, rfl, hS4, hK4, hq4⟩)
            have hWm := (HT3.out.1.mid hK4).2
            have hRO := HRO.out w4 hK4
            unfold ROpen refVal at hRO
            simp only at hRO
            obtain ⟨y0, y1, y2, y3, _⟩ := cells4 hWm
            go_upto_region 14 with (go_at_call 36; refine hRO.mono ?_; rintro e w5 ⟨a5, n5, c5, al, nl, cl, rfl, hR5, hK5, hb5⟩; have hW5 := (hb5.block _ (blk_lt hWm)).trans hWm; have hlt5 := blk_lt hW5; have hne1 : ¬ WB = w5.heap.size := (fun e => by omega); have hne2 : ¬ w5.heap.size = WB := (fun e => by omega); obtain ⟨r0, r1, r2, r3, r4, r5, r6, r7⟩ := cells4 (alloc_old hW5 (.cells #[.int .i64 0, .slice none 0 0, .slice none 0 0, .bool false] 81)); obtain ⟨q0, q1, q2, q3, q4, q5, q6, q7⟩ := cells4 (alloc_at w5 (.cells #[.int .i64 0, .slice none 0 0, .slice none 0 0, .bool false] 81)); clear hlt5)
            obtain ⟨t1, t2, t3, t4, t5⟩ := tells_mid hWm hb5 hR5 hK5 (.int .i64 d4.most) (.slice a5 n5 c5) (.int .i64 d4.left) (.bool d4.down) st.k
            obtain ⟨w6, hw6⟩ : ∃ y, set4 (set4 (w5.alloc (.cells #[.int .i64 0, .slice none 0 0, .slice none 0 0, .bool false] 81)) WB (.int .i64 d4.most) (.slice a5 n5 c5) (.int .i64 d4.left) (.bool d4.down)) w5.heap.size (.int .i64 st.k) (.slice al nl cl) (.slice al nl cl) (.bool false) = y := ⟨_, rfl⟩
            (try simp only at t1 t2 t3 t4 t5)
            rw [hw6] at t1 t2 t3 t4 t5
            unfold set4 at hw6
            rw [hw6]
            have hs45 := hb5.size
            have hS6 := hS4.more_upd (ex' := exr) t5 (fun k hk e => by rcases e with rfl | rfl; exact HT3.out.1.wb; omega) (fun k hk => Or.inl hk)
            have hkp : Keep ex0 wr w6 := (HT3.out.1.keep.trans (hK4.mono HT3.out.1.hx)).trans (Keep.ofUpd t5 (fun k hk => ⟨hS4.lt (HT3.out.1.hx _ hk), fun e => by rcases e with rfl | rfl; exact HT3.out.1.far hk; have := hS4.lt (HT3.out.1.hx _ hk); omega⟩))
            have hbel6 : Below wr.heap.size wr w6 := hkp.below (fun k hk => Hx0.out.2 k hk)
            have hSm := same5_yes hS6 Hok.out.1 Hok.out.2 (ah := al) (nh := nl) (ch := cl) t2
            have H6 := Lib.hid (And.intro hS6 (And.intro t1 (And.intro t3 hbel6)))
            clear r0 r1 r2 r3 r4 r5 r6 r7 q0 q1 q2 q3 q4 q5 q6 q7 y0 y1 y2 y3 hw6 hs45 hS6 hkp hbel6 t1 t2 t5 hne1 hne2 hW5 hS4 hK4 hq4 hR5 hK5 hb5 hWm hRO hOp
            obtain ⟨x0, x1, x2, x3, _⟩ := cells4 t3
            obtain ⟨z0, z1, z2, z3, _⟩ := cells4 t4
            clear t3 t4
            go_wp2_with (first
              | (go_at_call 37; (with_reducible refine hSm.mono ?_); rintro e w7 ⟨rfl, hb7⟩; have hW7 := (hb7.block _ (blk_lt H6.out.2.2.1)).trans H6.out.2.2.1; obtain ⟨v0, v1, v2, v3, _⟩ := cells4 hW7; have hSd := SameDisk_any w7 p m a5 n5 c5 d4 (H6.out.1.disk.below hb7) (H6.out.2.1.below hb7); unfold refVal at hSd; have hB7 := H6.out.2.2.2.trans (hb7.mono H6.out.2.2.2.size); clear x0 x1 x2 x3 z0 z1 z2 z3)
              | (go_at_call 38; (with_reducible refine hSd.mono ?_); rintro e w8 ⟨rfl, hb8⟩; have hB8 := hB7.trans (hb8.mono hB7.size); have hAw := awake5_any w8 (HE.out.below hB8))
              | (go_at_call 18; (with_reducible refine hAw.mono ?_); rintro e w9 ⟨rfl, hb9⟩; have hB9 := hB8.trans (hb9.mono hB8.size)))
            go_ret
            exact ⟨rfl, hB9⟩
          · simp only [if_neg her] at hOp
            have hI1 : (er != 0) = true := by simpa using her
            clear her
            go_upto_region 13 with (go_at_call 16; refine hOp.mono ?_; rintro e w4 ⟨rfl, hD4, hK4⟩)
            have hWm := (HT3.out.1.mid hK4).2
            have hRO := HRO.out w4 hK4
            unfold ROpen refVal at hRO
            simp only at hRO
            obtain ⟨y0, y1, y2, y3, _⟩ := cells4 hWm
            go_upto_region 14 with (go_at_call 36; refine hRO.mono ?_; rintro e w5 ⟨a5, n5, c5, al, nl, cl, rfl, hR5, hK5, hb5⟩; have hW5 := (hb5.block _ (blk_lt hWm)).trans hWm; have hlt5 := blk_lt hW5; have hne1 : ¬ WB = w5.heap.size := (fun e => by omega); have hne2 : ¬ w5.heap.size = WB := (fun e => by omega); obtain ⟨r0, r1, r2, r3, r4, r5, r6, r7⟩ := cells4 (alloc_old hW5 (.cells #[.int .i64 0, .slice none 0 0, .slice none 0 0, .bool false] 81)); obtain ⟨q0, q1, q2, q3, q4, q5, q6, q7⟩ := cells4 (alloc_at w5 (.cells #[.int .i64 0, .slice none 0 0, .slice none 0 0, .bool false] 81)); clear hlt5)
            obtain ⟨t1, t2, t3, t4, t5⟩ := tells_mid hWm hb5 hR5 hK5 (.int .i64 d4.most) (.slice a5 n5 c5) (.int .i64 d4.left) (.bool d4.down) st.k
            obtain ⟨w6, hw6⟩ : ∃ y, set4 (set4 (w5.alloc (.cells #[.int .i64 0, .slice none 0 0, .slice none 0 0, .bool false] 81)) WB (.int .i64 d4.most) (.slice a5 n5 c5) (.int .i64 d4.left) (.bool d4.down)) w5.heap.size (.int .i64 st.k) (.slice al nl cl) (.slice al nl cl) (.bool false) = y := ⟨_, rfl⟩
            (try simp only at t1 t2 t3 t4 t5)
            rw [hw6] at t1 t2 t3 t4 t5
            unfold set4 at hw6
            rw [hw6]
            have hs45 := hb5.size
            have hD6 := hD4.more_upd5 (ex' := exr) t5 (fun k hk e => by rcases e with rfl | rfl; exact HT3.out.1.wb; omega) (fun k hk => Or.inl hk)
            have hkp : Keep ex0 wr w6 := (HT3.out.1.keep.trans (hK4.mono HT3.out.1.hx)).trans (Keep.ofUpd t5 (fun k hk => ⟨hD4.lt (HT3.out.1.hx _ hk), fun e => by rcases e with rfl | rfl; exact HT3.out.1.far hk; have := hD4.lt (HT3.out.1.hx _ hk); omega⟩))
            have hB7 : Below wr.heap.size wr w6 := hkp.below (fun k hk => Hx0.out.2 k hk)
            have hSd := SameDisk_any w6 p m a5 n5 c5 d4 hD6 t1
            unfold refVal at hSd
            clear r0 r1 r2 r3 r4 r5 r6 r7 q0 q1 q2 q3 q4 q5 q6 q7 y0 y1 y2 y3 hw6 hs45 hD6 hkp t1 t2 t5 hne1 hne2 hW5 hD4 hK4 hR5 hK5 hb5 hWm hRO hOp
            obtain ⟨x0, x1, x2, x3, _⟩ := cells4 t3
            obtain ⟨z0, z1, z2, z3, _⟩ := cells4 t4
            clear t3 t4
            go_wp2_with (first
              | (go_at_call 38; (with_reducible refine hSd.mono ?_); rintro e w8 ⟨rfl, hb8⟩; have hB8 := hB7.trans (hb8.mono hB7.size); have hAw := awake5_any w8 (HE.out.below hB8))
              | (go_at_call 18; (with_reducible refine hAw.mono ?_); rintro e w9 ⟨rfl, hb9⟩; have hB9 := hB8.trans (hb9.mono hB8.size)))
            go_ret
            exact ⟨rfl, hB9⟩
theorem tells5_row (w : World) (hE : WEnv w) {va : Value} (L : List AFile5) (hL : FilesAt5 w va L) (cm : Int) (hc : (Lit.int .i64 cm).wf = true) (arm : Int) (ha : (Lit.int .i64 arm).wf = true) :
    Calls Tryz.prog 9 #[va, .int .i64 cm, .int .i64 arm] w fun e w' => e = .returned (.bool true) ∧ Below w.heap.size w w' := by
  have b0 := bounds_i64 hc
  have b1 := bounds_i64 ha
  exact tells5_law w hE L hL cm arm (by unfold isI64; omega) (by unfold isI64; omega)
end Go.Proofs.YtbepcjajbcecnaaGreatDoor
