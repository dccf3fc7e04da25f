/-
  The walk of DiskTells (printed by wip/gen/gen_tells.py).
-/
import Derived.Outline
import Derived.Deep.CutRange
import Derived.Deep.CutBlock
import Derived.Test.YtlljlkeknklplaaTells0
namespace Go.Proofs.Ytlljlkeknklplaa
open Go.RowKit Go.Maps Go.MapKept

theorem cells6 {w : World} {b : Nat} {x0 x1 x2 x3 x4 x5 : Value} {T : TypeId} (h : w.heap[b]? = some (.cells #[x0, x1, x2, x3, x4, x5] T (0, 0))) :
    w.cell? ⟨b, 0, none⟩ = some x0 ∧ w.cell? ⟨b, 1, none⟩ = some x1 ∧ w.cell? ⟨b, 2, none⟩ = some x2 ∧ w.cell? ⟨b, 3, none⟩ = some x3 ∧ w.cell? ⟨b, 4, none⟩ = some x4 ∧ w.cell? ⟨b, 5, none⟩ = some x5 := by
  refine ⟨by rw [cell_at h]; rfl, by rw [cell_at h]; rfl, by rw [cell_at h]; rfl, by rw [cell_at h]; rfl, by rw [cell_at h]; rfl, by rw [cell_at h]; rfl⟩

set_option maxRecDepth 100000 in
set_option maxHeartbeats 8000000 in
theorem tells_walk (w : World) (room : Int) (vl : Value) (cs : List ACall) (hr0 : -9223372036854775808 ≤ room) (hr1 : room ≤ 9223372036854775807) (hcs : CallsAt w vl cs) :
    Calls Try.prog 4 #[.int .i64 room, vl] w fun e w' => e = .returned (.bool true) ∧ Below w.heap.size w w' := by
  obtain ⟨al, cl, rfl⟩ := SliceOf.shape hcs
  have hcl := SliceOf.len_le hcs
  simp only [maxLen] at hcl
  obtain ⟨ex, hex⟩ : ∃ ex : Nat → Prop, ex = fun k => k < w.heap.size := ⟨_, rfl⟩
  have Hex := Lib.hid hex
  have hx0 : ∀ k, ex k → k < w.heap.size := fun k hk => by rw [hex] at hk; exact hk
  clear hex
  have hxx : ∀ k, k < w.heap.size → ex k := fun k hk => by rw [Hex.out]; exact hk
  go_enter Try.func4, Try.ntmps4
  go_upto_if 16 with fail
  go_cut [0] from 17 to 18 (fun r wx => ∃ z : Int, r = .int .i64 z ∧ -9223372036854775808 ≤ z ∧ z ≤ 16777216 ∧ wx = w)
  case first =>
    by_cases hbig : 16777216 < room
    · go_wp2_with fail
      go_meet
      case rel => exact ⟨room % 500, rfl, by omega, by omega, rfl⟩
    · go_wp2_with fail
      go_meet
      case rel => exact ⟨room, rfl, hr0, by omega, rfl⟩
  case rest =>
    obtain ⟨z, rfl, hz0, hz1, rfl⟩ := hcut
    obtain ⟨w, hww⟩ : ∃ w, w = wc := ⟨_, rfl⟩
    subst hww
    clear hr0 hr1
    by_cases hneg : z < 0
    · go_wp2_with fail
      refine (New_bad _ z (Or.inl hneg)).mono ?_
      rintro e w1 ⟨rfl, hb1⟩
      dsimp only
      go_wp2_with fail
      refine (refNew_bad _ z (Or.inl hneg)).mono ?_
      rintro e w2 ⟨rfl, hb2⟩
      dsimp only
      go_wp2_with fail
      refine (awake_any _).mono ?_
      rintro e w7 ⟨rfl, hb7⟩
      subst hb1
      have hbA : Below w.heap.size w (w2.alloc (.cells #[.int .i64 0, .slice none 0 0, .int .i64 0, .bool false] 43)) := hb2.alloc hb2.size _
      go_wp2
      go_ret
      exact ⟨rfl, hbA.trans (hb7.mono hbA.size)⟩
    · go_wp2_with fail
      refine (New_at (ex := ex) z (by omega) hz1 hx0).mono ?_
      generalize hp : w.heap.size + 1 = p
      generalize hm : w.heap.size = m
      rintro e w1 ⟨rfl, h1, k1⟩
      clear hp hm
      dsimp only
      go_wp2_with fail
      refine (refNew_good _ z (by omega) hz1).mono ?_
      rintro e w2 ⟨rfl, hb2⟩
      unfold refVal
      have hWB := alloc_at w2 (.cells #[.int .i64 z, .slice none 0 0, .int .i64 (-1), .bool false] 43)
      have hbA : Below w2.heap.size w2 (w2.alloc (.cells #[.int .i64 z, .slice none 0 0, .int .i64 (-1), .bool false] 43)) := (Below.refl _ _).alloc (Nat.le_refl _) _
      have hbA1 := hb2.trans (hbA.mono hb2.size)
      have hszA : (w2.alloc (.cells #[.int .i64 z, .slice none 0 0, .int .i64 (-1), .bool false] 43)).heap.size = w2.heap.size + 1 := by simp
      have hs01 := k1.size
      have hs12 := hb2.size
      have hstart : TellsAt ex w (w2.alloc (.cells #[.int .i64 z, .slice none 0 0, .int .i64 (-1), .bool false] 43)) p m w2.heap.size (fun k => ex k ∨ k = w2.heap.size) ⟨z, -1, false, []⟩ none 0 0 :=
        ⟨fun k hk => Or.inl hk, Or.inr rfl, fun hk => by have := hx0 _ hk; omega, h1.more hbA1 (fun k hk => hk.elim Or.inl (fun e => Or.inr ⟨by omega, by omega⟩)), ⟨Or.inl ⟨Or.inl rfl, rfl⟩, rfl, fun h => absurd rfl h⟩, hWB, k1.trans (Keep.ofBelow hbA1 (fun k hk => h1.lt hk))⟩
      obtain ⟨w4, hw4⟩ : ∃ w4, w2.alloc (.cells #[.int .i64 z, .slice none 0 0, .int .i64 (-1), .bool false] 43) = w4 := ⟨_, rfl⟩
      rw [hw4] at hstart
      have Hw4 := Lib.hid hw4
      obtain ⟨WB, hWBe⟩ : ∃ WB, w2.heap.size = WB := ⟨_, rfl⟩
      rw [hWBe] at hstart
      have HWBe := Lib.hid hWBe
      clear hw4 hWB hbA hbA1 hszA hs01 hs12 hWBe
      dsimp only
      go_wp2_with fail
      rw [Hw4.out, HWBe.out]
      go_loopw [9] (fun i wr => ∃ (k : Nat) (d : ADisk) (a : Option Addr) (n c : Nat) (exq : Nat → Prop), k ≤ cs.length ∧ k ≤ 60 ∧ i = .int .i64 k ∧ TellsAt ex w wr p m WB exq d a n c) (fun i _ => cs.length - (intOf i).toNat)
      case atStart => exact ⟨0, _, _, _, _, _, by omega, by omega, rfl, hstart⟩
      case round =>
        obtain ⟨k, d, a, n, c, exq, hk, hk60, rfl, hT⟩ := hrel
        clear hstart h1 k1
        have hbr : Below w.heap.size w wr := hT.keep.below hxx
        have hend : ∀ w7, Below wr.heap.size wr w7 → Below w.heap.size w w7 := fun w7 hb => hbr.trans (hb.mono hbr.size)
        by_cases hlt : k < cs.length
        · by_cases h60 : k < 60
          · obtain ⟨b, off, rfl, hbl, hok, c0, c1, c2, c3, c4, c5⟩ := hcs.at hbr k hlt
            have hokW : CallOk w cs[k] := by obtain ⟨_, _, _, _, h, _⟩ := hcs.at (Below.refl _ _) k hlt; exact h
            obtain ⟨cc, hcc⟩ : ∃ cc, cs[k] = cc := ⟨_, rfl⟩
            rw [hcc] at hok hokW c0 c1 c2 c3 c4 c5
            clear hcc
            obtain ⟨ab, cb, hvb⟩ := hok.rb.shape
            obtain ⟨ak, ck, hvk⟩ := hok.rk.shape
            have hw0 := hok.what0
            have hw1 := hok.what1
            obtain ⟨what, name, tt, vb, b', nn, vk, keeps⟩ := cc
            simp only at c0 c1 c2 c3 c4 c5 hvb hvk hw0 hw1
            rw [bcells_length] at hvb
            rw [show (iCells keeps).length = keeps.length by simp [iCells]] at hvk
            subst hvb
            subst hvk
            have hX := alloc_at wr (.cells #[.int .u8 what, .string name, .string tt, .slice ab b'.length cb, .int .i64 nn, .slice ak keeps.length ck] 48)
            have hbX : Below wr.heap.size wr (wr.alloc (.cells #[.int .u8 what, .string name, .string tt, .slice ab b'.length cb, .int .i64 nn, .slice ak keeps.length ck] 48)) := (Below.refl _ _).alloc (Nat.le_refl _) _
            have hsX : (wr.alloc (.cells #[.int .u8 what, .string name, .string tt, .slice ab b'.length cb, .int .i64 nn, .slice ak keeps.length ck] 48)).heap.size = wr.heap.size + 1 := by simp
            have hokX := hok.below hbX
            obtain ⟨wA, hwA⟩ : ∃ wA, wr.alloc (.cells #[.int .u8 what, .string name, .string tt, .slice ab b'.length cb, .int .i64 nn, .slice ak keeps.length ck] 48) = wA := ⟨_, rfl⟩
            rw [hwA] at hX hbX hokX hsX
            have HwA := Lib.hid hwA
            clear hwA
            cases hfit : fitsB ⟨what, name, tt, .slice ab b'.length cb, b', nn, .slice ak keeps.length ck, keeps⟩ with
            | false =>
              go_wp2_with fail
              rw [HwA.out]
              refine (fits_any _ _ hokX).mono ?_
              rw [hfit]
              rintro e w1 ⟨rfl, hb1⟩
              have hT1 := hT.below (hbX.trans (hb1.mono hbX.size))
              dsimp only
              go_wp2
              go_roundw
              case rel => exact ⟨k + 1, d, a, n, c, exq, by omega, by omega, by go_num, hT1⟩
              case measure => simp [intOf]; omega
            | true =>
              have hlb : b'.length ≤ 150 := by
                simp only [fitsB, Bool.and_eq_true, decide_eq_true_eq] at hfit
                exact hfit.1.2
              go_wp2_with fail
              rw [HwA.out]
              refine (fits_any _ _ hokX).mono ?_
              rw [hfit]
              rintro e w1 ⟨rfl, hb1⟩
              have hb01 : Below wr.heap.size wr w1 := hbX.trans (hb1.mono hbX.size)
              have hT1 := hT.more hb01 wr.heap.size (Nat.le_refl _) (by have := hb1.size; omega)
              have hok1 := hokX.below hb1
              have hC1 := (hb1.block _ (blk_lt hX)).trans hX
              have hCW : wr.heap.size ≠ WB := fun e => by have := hT.lt hT.wb; omega
              have hvkx : ∀ j, (Value.slice ak keeps.length ck).ownBlock = some j → keeps ≠ [] → (exq j ∨ j = wr.heap.size) := fun j hj hne => Or.inl (hT.hx _ (hxx _ (rd_block hokW.rk (fun e => hne (by simpa [iCells] using e)) j hj)))
              clear hX hbX hokX hsX hfit hb1 c0 c1 c2 c3 c4 c5 hbl hok hb01
              obtain ⟨c0, c1, c2, c3, c4, c5⟩ := cells6 hC1
              obtain ⟨t0, t1, t2, t3, t4, t5, t6, t7⟩ := cells4 hT1.cell
              dsimp only
              go_upto_block 2 with fail
              go_cut [11, 12, 13, 14] from 65 to 178 (fun x y av bv wx => ∃ (fe : Int) (d' : ADisk) (a' : Option Addr) (n' c' : Nat) (exq' : Nat → Prop) (sa : Option Addr) (la2 ca2 : Nat) (sb : Option Addr) (lb2 cb2 : Nat) (bytes : List UInt8), x = .int .i64 fe ∧ y = .int .i64 fe ∧ av = .slice sa la2 ca2 ∧ bv = .slice sb lb2 cb2 ∧
                Rd wx av (bcells bytes) ∧ Rd wx bv (bcells bytes) ∧ TellsAt ex w wx p m WB exq' d' a' n' c' ∧ wx.heap[wr.heap.size]? = some (.cells #[.int .u8 what, .string name, .string tt, .slice ab b'.length cb, .int .i64 nn, .slice ak keeps.length ck] 48))
              case first =>
                by_cases h0 : what = 0
                · subst h0
                  go_wp2_with fail
                  refine (Append_at name (.slice ab b'.length cb) b' hT1.disk hokW.name hok1.rb (by omega)).mono ?_
                  rintro e w2 ⟨rfl, hD2, hK2⟩
                  obtain ⟨hRm, hWm⟩ := hT1.mid hK2
                  have hbz := (hT1.keep.trans (hK2.mono hT1.hx)).below hxx
                  have hok2 := hokW.below hbz
                  have hC2 := (hK2.block _ (Or.inr rfl)).trans hC1
                  obtain ⟨e0, e1, e2, e3, e4, e5⟩ := cells6 hC2
                  obtain ⟨m0, m1, m2, m3, m4, m5, m6, m7⟩ := cells4 hWm
                  have hNew : NewOk (fun k => (exq k ∨ k = wr.heap.size) ∨ w2.heap.size ≤ k) w2 := fun k hk => Or.inr hk
                  have hRef := refAppend_any w2 a n c d name (.slice ab b'.length cb) b' hRm hT1.wf hNew hokW.name hok2.rb (by omega)
                  unfold refVal at hRef
                  clear c0 c1 c2 c3 c4 c5 t0 t1 t2 t3 t4 t5 t6 t7
                  dsimp only
                  go_wp2_with fail
                  refine hRef.mono ?_
                  rintro e w3 ⟨a', n', c', rfl, hR3, hb3⟩
                  have hSt := hT1.step hD2 hK2 hR3 hb3
                  have hC4 := (hSt.2.block _ ⟨Or.inr rfl, hCW⟩).trans hC1
                  have hWm3 := (hb3.block _ (blk_lt hWm)).trans hWm
                  obtain ⟨r0, r1, r2, r3, r4, r5, r6, r7⟩ := cells4 hWm3
                  clear m0 m1 m2 m3 m4 m5 m6 m7 e0 e1 e2 e3 e4 e5 hRef
                  dsimp only
                  go_wp2_with fail
                  go_meet
                  case rel => exact ⟨d.appendErr name b', d.append name b', _, _, _, _, none, 0, 0, none, 0, 0, [], rfl, rfl, rfl, rfl, Or.inl ⟨Or.inl rfl, rfl⟩, Or.inl ⟨Or.inl rfl, rfl⟩, hSt.1, hC4⟩
                by_cases h1 : what = 1
                · subst h1
                  go_wp2_with fail
                  refine (Append_at name (.slice ab b'.length cb) b' hT1.disk hokW.name hok1.rb (by omega)).mono ?_
                  rintro e w2 ⟨rfl, hD2, hK2⟩
                  obtain ⟨hRm, hWm⟩ := hT1.mid hK2
                  have hbz := (hT1.keep.trans (hK2.mono hT1.hx)).below hxx
                  have hok2 := hokW.below hbz
                  have hC2 := (hK2.block _ (Or.inr rfl)).trans hC1
                  obtain ⟨e0, e1, e2, e3, e4, e5⟩ := cells6 hC2
                  obtain ⟨m0, m1, m2, m3, m4, m5, m6, m7⟩ := cells4 hWm
                  have hNew : NewOk (fun k => (exq k ∨ k = wr.heap.size) ∨ w2.heap.size ≤ k) w2 := fun k hk => Or.inr hk
                  have hRef := refAppend_any w2 a n c d name (.slice ab b'.length cb) b' hRm hT1.wf hNew hokW.name hok2.rb (by omega)
                  unfold refVal at hRef
                  clear c0 c1 c2 c3 c4 c5 t0 t1 t2 t3 t4 t5 t6 t7
                  dsimp only
                  go_wp2_with fail
                  refine hRef.mono ?_
                  rintro e w3 ⟨a', n', c', rfl, hR3, hb3⟩
                  have hSt := hT1.step hD2 hK2 hR3 hb3
                  have hC4 := (hSt.2.block _ ⟨Or.inr rfl, hCW⟩).trans hC1
                  have hWm3 := (hb3.block _ (blk_lt hWm)).trans hWm
                  obtain ⟨r0, r1, r2, r3, r4, r5, r6, r7⟩ := cells4 hWm3
                  clear m0 m1 m2 m3 m4 m5 m6 m7 e0 e1 e2 e3 e4 e5 hRef
                  dsimp only
                  go_wp2_with fail
                  go_meet
                  case rel => exact ⟨d.appendErr name b', d.append name b', _, _, _, _, none, 0, 0, none, 0, 0, [], rfl, rfl, rfl, rfl, Or.inl ⟨Or.inl rfl, rfl⟩, Or.inl ⟨Or.inl rfl, rfl⟩, hSt.1, hC4⟩
                by_cases h2 : what = 2
                · subst h2
                  go_wp2_with fail
                  refine (Sync_at name hT1.disk hokW.name).mono ?_
                  rintro e w2 ⟨rfl, hD2, hK2⟩
                  obtain ⟨hRm, hWm⟩ := hT1.mid hK2
                  have hbz := (hT1.keep.trans (hK2.mono hT1.hx)).below hxx
                  have hok2 := hokW.below hbz
                  have hC2 := (hK2.block _ (Or.inr rfl)).trans hC1
                  obtain ⟨e0, e1, e2, e3, e4, e5⟩ := cells6 hC2
                  obtain ⟨m0, m1, m2, m3, m4, m5, m6, m7⟩ := cells4 hWm
                  have hNew : NewOk (fun k => (exq k ∨ k = wr.heap.size) ∨ w2.heap.size ≤ k) w2 := fun k hk => Or.inr hk
                  have hRef := refSync_any w2 a n c d name hRm hT1.wf hNew
                  unfold refVal at hRef
                  clear c0 c1 c2 c3 c4 c5 t0 t1 t2 t3 t4 t5 t6 t7
                  dsimp only
                  go_wp2_with fail
                  refine hRef.mono ?_
                  rintro e w3 ⟨a', n', c', rfl, hR3, hb3⟩
                  have hSt := hT1.step hD2 hK2 hR3 hb3
                  have hC4 := (hSt.2.block _ ⟨Or.inr rfl, hCW⟩).trans hC1
                  have hWm3 := (hb3.block _ (blk_lt hWm)).trans hWm
                  obtain ⟨r0, r1, r2, r3, r4, r5, r6, r7⟩ := cells4 hWm3
                  clear m0 m1 m2 m3 m4 m5 m6 m7 e0 e1 e2 e3 e4 e5 hRef
                  dsimp only
                  go_wp2_with fail
                  go_meet
                  case rel => exact ⟨d.syncErr name, d.sync name, _, _, _, _, none, 0, 0, none, 0, 0, [], rfl, rfl, rfl, rfl, Or.inl ⟨Or.inl rfl, rfl⟩, Or.inl ⟨Or.inl rfl, rfl⟩, hSt.1, hC4⟩
                by_cases h3 : what = 3
                · subst h3
                  go_wp2_with fail
                  refine (Rename_at name tt hT1.disk hokW.name hokW.to).mono ?_
                  rintro e w2 ⟨rfl, hD2, hK2⟩
                  obtain ⟨hRm, hWm⟩ := hT1.mid hK2
                  have hbz := (hT1.keep.trans (hK2.mono hT1.hx)).below hxx
                  have hok2 := hokW.below hbz
                  have hC2 := (hK2.block _ (Or.inr rfl)).trans hC1
                  obtain ⟨e0, e1, e2, e3, e4, e5⟩ := cells6 hC2
                  obtain ⟨m0, m1, m2, m3, m4, m5, m6, m7⟩ := cells4 hWm
                  have hNew : NewOk (fun k => (exq k ∨ k = wr.heap.size) ∨ w2.heap.size ≤ k) w2 := fun k hk => Or.inr hk
                  have hRef := refRename_any w2 a n c d name tt hRm hT1.wf hNew hokW.to
                  unfold refVal at hRef
                  clear c0 c1 c2 c3 c4 c5 t0 t1 t2 t3 t4 t5 t6 t7
                  dsimp only
                  go_wp2_with fail
                  refine hRef.mono ?_
                  rintro e w3 ⟨a', n', c', rfl, hR3, hb3⟩
                  have hSt := hT1.step hD2 hK2 hR3 hb3
                  have hC4 := (hSt.2.block _ ⟨Or.inr rfl, hCW⟩).trans hC1
                  have hWm3 := (hb3.block _ (blk_lt hWm)).trans hWm
                  obtain ⟨r0, r1, r2, r3, r4, r5, r6, r7⟩ := cells4 hWm3
                  clear m0 m1 m2 m3 m4 m5 m6 m7 e0 e1 e2 e3 e4 e5 hRef
                  dsimp only
                  go_wp2_with fail
                  go_meet
                  case rel => exact ⟨d.renameErr name tt, d.rename name tt, _, _, _, _, none, 0, 0, none, 0, 0, [], rfl, rfl, rfl, rfl, Or.inl ⟨Or.inl rfl, rfl⟩, Or.inl ⟨Or.inl rfl, rfl⟩, hSt.1, hC4⟩
                by_cases h4 : what = 4
                · subst h4
                  go_wp2_with fail
                  refine (Remove_at name hT1.disk hokW.name).mono ?_
                  rintro e w2 ⟨rfl, hD2, hK2⟩
                  obtain ⟨hRm, hWm⟩ := hT1.mid hK2
                  have hbz := (hT1.keep.trans (hK2.mono hT1.hx)).below hxx
                  have hok2 := hokW.below hbz
                  have hC2 := (hK2.block _ (Or.inr rfl)).trans hC1
                  obtain ⟨e0, e1, e2, e3, e4, e5⟩ := cells6 hC2
                  obtain ⟨m0, m1, m2, m3, m4, m5, m6, m7⟩ := cells4 hWm
                  have hNew : NewOk (fun k => (exq k ∨ k = wr.heap.size) ∨ w2.heap.size ≤ k) w2 := fun k hk => Or.inr hk
                  have hRef := refRemove_any w2 a n c d name hRm hT1.wf hNew
                  unfold refVal at hRef
                  clear c0 c1 c2 c3 c4 c5 t0 t1 t2 t3 t4 t5 t6 t7
                  dsimp only
                  go_wp2_with fail
                  refine hRef.mono ?_
                  rintro e w3 ⟨a', n', c', rfl, hR3, hb3⟩
                  have hSt := hT1.step hD2 hK2 hR3 hb3
                  have hC4 := (hSt.2.block _ ⟨Or.inr rfl, hCW⟩).trans hC1
                  have hWm3 := (hb3.block _ (blk_lt hWm)).trans hWm
                  obtain ⟨r0, r1, r2, r3, r4, r5, r6, r7⟩ := cells4 hWm3
                  clear m0 m1 m2 m3 m4 m5 m6 m7 e0 e1 e2 e3 e4 e5 hRef
                  dsimp only
                  go_wp2_with fail
                  go_meet
                  case rel => exact ⟨d.removeErr name, d.remove name, _, _, _, _, none, 0, 0, none, 0, 0, [], rfl, rfl, rfl, rfl, Or.inl ⟨Or.inl rfl, rfl⟩, Or.inl ⟨Or.inl rfl, rfl⟩, hSt.1, hC4⟩
                by_cases h5 : what = 5
                · subst h5
                  go_wp2_with fail
                  refine (Cut_at name nn hT1.disk hokW.name).mono ?_
                  rintro e w2 ⟨rfl, hD2, hK2⟩
                  obtain ⟨hRm, hWm⟩ := hT1.mid hK2
                  have hbz := (hT1.keep.trans (hK2.mono hT1.hx)).below hxx
                  have hok2 := hokW.below hbz
                  have hC2 := (hK2.block _ (Or.inr rfl)).trans hC1
                  obtain ⟨e0, e1, e2, e3, e4, e5⟩ := cells6 hC2
                  obtain ⟨m0, m1, m2, m3, m4, m5, m6, m7⟩ := cells4 hWm
                  have hNew : NewOk (fun k => (exq k ∨ k = wr.heap.size) ∨ w2.heap.size ≤ k) w2 := fun k hk => Or.inr hk
                  have hRef := refCut_any w2 a n c d name nn hRm hT1.wf hNew
                  unfold refVal at hRef
                  clear c0 c1 c2 c3 c4 c5 t0 t1 t2 t3 t4 t5 t6 t7
                  dsimp only
                  go_wp2_with fail
                  refine hRef.mono ?_
                  rintro e w3 ⟨a', n', c', rfl, hR3, hb3⟩
                  have hSt := hT1.step hD2 hK2 hR3 hb3
                  have hC4 := (hSt.2.block _ ⟨Or.inr rfl, hCW⟩).trans hC1
                  have hWm3 := (hb3.block _ (blk_lt hWm)).trans hWm
                  obtain ⟨r0, r1, r2, r3, r4, r5, r6, r7⟩ := cells4 hWm3
                  clear m0 m1 m2 m3 m4 m5 m6 m7 e0 e1 e2 e3 e4 e5 hRef
                  dsimp only
                  go_wp2_with fail
                  go_meet
                  case rel => exact ⟨d.cutErr name nn, d.cut name nn, _, _, _, _, none, 0, 0, none, 0, 0, [], rfl, rfl, rfl, rfl, Or.inl ⟨Or.inl rfl, rfl⟩, Or.inl ⟨Or.inl rfl, rfl⟩, hSt.1, hC4⟩
                by_cases h6 : what = 6
                · subst h6
                  go_wp2_with fail
                  refine (Arm_at nn hT1.disk hokW.n.1 hokW.n.2).mono ?_
                  rintro e w2 ⟨rfl, hD2, hK2⟩
                  obtain ⟨hRm, hWm⟩ := hT1.mid hK2
                  have hbz := (hT1.keep.trans (hK2.mono hT1.hx)).below hxx
                  have hok2 := hokW.below hbz
                  have hC2 := (hK2.block _ (Or.inr rfl)).trans hC1
                  obtain ⟨e0, e1, e2, e3, e4, e5⟩ := cells6 hC2
                  obtain ⟨m0, m1, m2, m3, m4, m5, m6, m7⟩ := cells4 hWm
                  have hNew : NewOk (fun k => (exq k ∨ k = wr.heap.size) ∨ w2.heap.size ≤ k) w2 := fun k hk => Or.inr hk
                  have hRef := refArm_any w2 a n c d nn hRm
                  unfold refVal at hRef
                  clear c0 c1 c2 c3 c4 c5 t0 t1 t2 t3 t4 t5 t6 t7
                  dsimp only
                  go_wp2_with fail
                  refine hRef.mono ?_
                  rintro e w3 ⟨rfl, hR3, hb3⟩
                  have hSt := hT1.step hD2 hK2 hR3 hb3
                  have hC4 := (hSt.2.block _ ⟨Or.inr rfl, hCW⟩).trans hC1
                  have hWm3 := (hb3.block _ (blk_lt hWm)).trans hWm
                  obtain ⟨r0, r1, r2, r3, r4, r5, r6, r7⟩ := cells4 hWm3
                  clear m0 m1 m2 m3 m4 m5 m6 m7 e0 e1 e2 e3 e4 e5 hRef
                  dsimp only
                  go_wp2_with fail
                  go_meet
                  case rel => exact ⟨0, d.arm nn, _, _, _, _, none, 0, 0, none, 0, 0, [], rfl, rfl, rfl, rfl, Or.inl ⟨Or.inl rfl, rfl⟩, Or.inl ⟨Or.inl rfl, rfl⟩, hSt.1, hC4⟩
                by_cases h7 : what = 7
                · subst h7
                  go_wp2_with fail
                  refine (Crash_at1 (.slice ak keeps.length ck) keeps hT1.disk hok1.rk hokW.lk hokW.ik hvkx).mono ?_
                  rintro e w2 ⟨rfl, hD2, hK2⟩
                  obtain ⟨hRm, hWm⟩ := hT1.mid hK2
                  have hbz := (hT1.keep.trans (hK2.mono hT1.hx)).below hxx
                  have hok2 := hokW.below hbz
                  have hC2 := (hK2.block _ (Or.inr rfl)).trans hC1
                  obtain ⟨e0, e1, e2, e3, e4, e5⟩ := cells6 hC2
                  obtain ⟨m0, m1, m2, m3, m4, m5, m6, m7⟩ := cells4 hWm
                  have hNew : NewOk (fun k => (exq k ∨ k = wr.heap.size) ∨ w2.heap.size ≤ k) w2 := fun k hk => Or.inr hk
                  have hRef := refCrash_any w2 a n c d (.slice ak keeps.length ck) keeps hRm hT1.wf hNew hok2.rk hokW.ik
                  unfold refVal at hRef
                  clear c0 c1 c2 c3 c4 c5 t0 t1 t2 t3 t4 t5 t6 t7
                  dsimp only
                  go_wp2_with fail
                  refine hRef.mono ?_
                  rintro e w3 ⟨a', n', c', rfl, hR3, hb3⟩
                  have hSt := hT1.step hD2 hK2 hR3 hb3
                  have hC4 := (hSt.2.block _ ⟨Or.inr rfl, hCW⟩).trans hC1
                  have hWm3 := (hb3.block _ (blk_lt hWm)).trans hWm
                  obtain ⟨r0, r1, r2, r3, r4, r5, r6, r7⟩ := cells4 hWm3
                  clear m0 m1 m2 m3 m4 m5 m6 m7 e0 e1 e2 e3 e4 e5 hRef
                  dsimp only
                  go_wp2_with fail
                  go_meet
                  case rel => exact ⟨0, d.crash keeps, _, _, _, _, none, 0, 0, none, 0, 0, [], rfl, rfl, rfl, rfl, Or.inl ⟨Or.inl rfl, rfl⟩, Or.inl ⟨Or.inl rfl, rfl⟩, hSt.1, hC4⟩
                by_cases h8 : what = 8
                · subst h8
                  have hRd1 := Read_at name hT1.disk hokW.name
                  have hT1c := hT1.cell
                  clear c0 c1 c2 c3 c4 c5 t0 t1 t2 t3 t4 t5 t6 t7
                  obtain ⟨c0, c1, c2, c3, c4, c5⟩ := cells6 hC1
                  go_wp2_with fail
                  refine hRd1.mono ?_
                  rintro e w2 ⟨ra, rc, rfl, hrow2, hb2⟩
                  have hT2 := hT1.below hb2
                  have hC2 := (hb2.block _ (blk_lt hC1)).trans hC1
                  obtain ⟨e0, e1, e2, e3, e4, e5⟩ := cells6 hC2
                  obtain ⟨m0, m1, m2, m3, m4, m5, m6, m7⟩ := cells4 hT2.cell
                  have hRef := refRead_any w2 a n c d name hT2.ref hT2.wf
                  unfold refVal at hRef
                  clear c0 c1 c2 c3 c4 c5 hRd1 hT1c
                  dsimp only
                  go_wp2_with fail
                  refine hRef.mono ?_
                  rintro e w3 ⟨a', n', c', rfl, hR3, hb3⟩
                  have hT3 := hT2.below hb3
                  have hC4 := (hb3.block _ (blk_lt hC2)).trans hC2
                  have hrA := rd_low (Rd.ofOwns hrow2) hb3
                  clear m0 m1 m2 m3 m4 m5 m6 m7 e0 e1 e2 e3 e4 e5 hRef
                  dsimp only
                  go_wp2_with fail
                  go_meet
                  case rel => exact ⟨findErr d name, d, _, _, _, _, ra, (d.readBytes name).length, rc, a', n', c', d.readBytes name, rfl, rfl, rfl, rfl, hrA, hR3, hT3, hC4⟩
                have b0 : (what == 0) = false := by simpa using h0
                have b1 : (what == 1) = false := by simpa using h1
                have b2 : (what == 2) = false := by simpa using h2
                have b3 : (what == 3) = false := by simpa using h3
                have b4 : (what == 4) = false := by simpa using h4
                have b5 : (what == 5) = false := by simpa using h5
                have b6 : (what == 6) = false := by simpa using h6
                have b7 : (what == 7) = false := by simpa using h7
                have b8 : (what == 8) = false := by simpa using h8
                clear h0 h1 h2 h3 h4 h5 h6 h7 h8
                go_wp2_with fail
                go_meet
                case rel => exact ⟨0, d, _, _, _, _, none, 0, 0, none, 0, 0, [], rfl, rfl, rfl, rfl, Or.inl ⟨Or.inl rfl, rfl⟩, Or.inl ⟨Or.inl rfl, rfl⟩, hT1, hC1⟩
              case rest =>
                obtain ⟨fe, d', a', n', c', exq', sa, la, ca, sb, lb', cb', bytes, rfl, rfl, rfl, rfl, hrA, hrB, hT2, hC2⟩ := hcut
                have hcvA := run_bytes_str (P := Try.prog) hrA Try.underlying29 Try.underlying5 Try.underlying9
                have hcvB := run_bytes_str (P := Try.prog) hrB Try.underlying29 Try.underlying5 Try.underlying9
                obtain ⟨S1, hS1⟩ : ∃ S1 : ByteArray, (⟨bytes.toArray⟩ : ByteArray) = S1 := ⟨_, rfl⟩
                rw [hS1] at hcvA hcvB
                have hSame := SameDisk_any wc p m a' n' c' d' hT2.disk hT2.ref
                unfold refVal at hSame
                clear hS1 hT hT1 hok1 hC1 c0 c1 c2 c3 c4 c5 t0 t1 t2 t3 t4 t5 t6 t7 hend hvkx hbr
                obtain ⟨t0, t1, t2, t3, t4, t5, t6, t7⟩ := cells4 hT2.cell
                obtain ⟨c0, c1, c2, c3, c4, c5⟩ := cells6 hC2
                go_wp2_with fail
                refine hSame.mono ?_
                rintro e w5 ⟨rfl, hb5⟩
                have hT3 := hT2.below hb5
                have hC3 := (hb5.block _ (blk_lt hC2)).trans hC2
                have hFind := refFind_place w5 a' n' c' d' name hT3.ref hT3.wf
                have hSz := fun (w : World) (h : DiskAt exq' w p m d') => Size_at name h hokW.name
                have hSy := fun (w : World) (h : DiskAt exq' w p m d') => Synced_at name h hokW.name
                unfold refVal at hFind
                clear t0 t1 t2 t3 t4 t5 t6 t7 c0 c1 c2 c3 c4 c5 hcvA hcvB hrA hrB hT2 hC2 hSame
                obtain ⟨t0, t1, t2, t3, t4, t5, t6, t7⟩ := cells4 hT3.cell
                obtain ⟨c0, c1, c2, c3, c4, c5⟩ := cells6 hC3
                cases hl : lk d'.fs name with
                | none =>
                  obtain ⟨hz1', hz2'⟩ := findErr_does d' name hl
                  rw [place_none hl] at hFind
                  rw [hz1'] at hSz
                  rw [hz2'] at hSy
                  clear hl hz1' hz2'
                  dsimp only
                  go_wp2_with fail
                  refine hFind.mono ?_
                  rintro e w6 ⟨rfl, hb6⟩
                  have hT4 := hT3.below hb6
                  have hC4 := (hb6.block _ (blk_lt hC3)).trans hC3
                  clear t0 t1 t2 t3 t4 t5 t6 t7 c0 c1 c2 c3 c4 c5
                  obtain ⟨c0, c1, c2, c3, c4, c5⟩ := cells6 hC4
                  dsimp only
                  go_wp2_with fail
                  refine (hSz _ hT4.disk).mono ?_
                  rintro e w7 ⟨rfl, hb7⟩
                  have hT5 := hT4.below hb7
                  have hC5 := (hb7.block _ (blk_lt hC4)).trans hC4
                  clear c0 c1 c2 c3 c4 c5
                  obtain ⟨c0, c1, c2, c3, c4, c5⟩ := cells6 hC5
                  dsimp only
                  go_wp2_with fail
                  refine (hSy _ hT5.disk).mono ?_
                  rintro e w8 ⟨rfl, hb8⟩
                  have hT6 := hT5.below hb8
                  dsimp only
                  go_wp2
                  go_roundw
                  case rel => exact ⟨k + 1, d', a', n', c', exq', by omega, by omega, by go_num, hT6⟩
                  case measure => simp [intOf]; omega
                | some f =>
                  obtain ⟨j, hj, hpj, _, _⟩ := place_some hT3.wf.sorted hl
                  rw [hpj] at hFind
                  clear hl hpj
                  dsimp only
                  go_wp2_with fail
                  refine hFind.mono ?_
                  rintro e w6 ⟨rfl, hb6⟩
                  have hT4 := hT3.below hb6
                  have hj0 : ¬ (j : Int) < 0 := by omega
                  dsimp only
                  go_wp2
                  go_roundw
                  case rel => exact ⟨k + 1, d', a', n', c', exq', by omega, by omega, by go_num, hT4⟩
                  case measure => simp [intOf]; omega
          · go_wp2_with fail
            refine (awake_any _).mono ?_
            rintro e w7 ⟨rfl, hb7⟩
            go_wp2
            go_ret
            exact ⟨rfl, hend _ hb7⟩
        · go_wp2_with fail
          refine (awake_any _).mono ?_
          rintro e w7 ⟨rfl, hb7⟩
          go_wp2
          go_ret
          exact ⟨rfl, hend _ hb7⟩
/-- .. as the frame hands it. -/
theorem tells_law (w : World) (a0 : Int) (w0 : (Lit.int .i64 a0).wf = true) {v1 : Value} (b1 : List ACall) (r1 : CallsAt w v1 b1) :
    Calls Try.prog 4 #[.int .i64 a0, v1] w fun e w' => e = .returned (.bool true) ∧ Below w.heap.size w w' := by
  have hb := bounds_i64 w0
  exact tells_walk w a0 v1 b1 (by omega) (by omega) r1
end Go.Proofs.Ytlljlkeknklplaa

