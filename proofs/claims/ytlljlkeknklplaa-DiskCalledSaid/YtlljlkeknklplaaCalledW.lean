/-
  The walk of DiskCalled.
-/
import Derived.Outline
import Derived.Deep.OwnRows
import Derived.Deep.RegionHeld3
import Derived.Deep.CutRange
import Derived.BigQuiet
import Derived.Test.YtlljlkeknklplaaCalled1
import Derived.Test.YtlljlkeknklplaaPiecesW
import Derived.Test.YtlljlkeknklplaaAwake
namespace Go.Proofs.Ytlljlkeknklplaa
open Go.RowKit Go.Maps Go.MapKept

theorem zero_int (w : World) : (zeroValue 3).run Try.prog w = .ok (.int .i64 0) w := by kernel_rfl

set_option maxRecDepth 100000 in
set_option maxHeartbeats 8000000 in
theorem called_walk (w : World) (x : Six) (vg : Value) (ps : List (Nat × Nat)) (hps : PairsAt w vg ps) :
    Calls Try.prog 3 #[.agg #[.int .u8 (x.f 0), .int .u8 (x.f 1), .int .u8 (x.f 2), .int .u8 (x.f 3), .int .u8 (x.f 4), .int .u8 (x.f 5)], vg] w fun e w' => e = .returned (.bool true) ∧ Below w.heap.size w w' := by
  obtain ⟨ag, cg, rfl⟩ := SliceOf.shape hps
  have hgl := SliceOf.len_le hps
  simp only [maxLen] at hgl
  obtain ⟨z0, hz0⟩ : ∃ z : Int, ((x.f 0 : Nat) : Int) = z := ⟨_, rfl⟩
  obtain ⟨z1, hz1⟩ : ∃ z : Int, ((x.f 1 : Nat) : Int) = z := ⟨_, rfl⟩
  obtain ⟨z2, hz2⟩ : ∃ z : Int, ((x.f 2 : Nat) : Int) = z := ⟨_, rfl⟩
  obtain ⟨z3, hz3⟩ : ∃ z : Int, ((x.f 3 : Nat) : Int) = z := ⟨_, rfl⟩
  obtain ⟨z4, hz4⟩ : ∃ z : Int, ((x.f 4 : Nat) : Int) = z := ⟨_, rfl⟩
  obtain ⟨z5, hz5⟩ : ∃ z : Int, ((x.f 5 : Nat) : Int) = z := ⟨_, rfl⟩
  rw [hz0, hz1, hz2, hz3, hz4, hz5]
  have Hz0 := Lib.hid hz0
  have Hz1 := Lib.hid hz1
  have Hz2 := Lib.hid hz2
  have Hz3 := Lib.hid hz3
  have Hz4 := Lib.hid hz4
  have Hz5 := Lib.hid hz5
  clear hz0 hz1 hz2 hz3 hz4 hz5
  obtain ⟨ex, hex⟩ : ∃ ex : Nat → Prop, ex = fun k => k < w.heap.size + 1 := ⟨_, rfl⟩
  have Hex := Lib.hid hex
  have hx0 : ∀ k, ex k → k < w.heap.size + 1 := fun k hk => by rw [hex] at hk; exact hk
  clear hex
  have hxx : ∀ k, k < w.heap.size + 1 → ex k := fun k hk => by rw [Hex.out]; exact hk
  have hmm := @run_makeMap Try.prog
  have hdec : ∀ i, i < 6 → (Utf8.decode cnames i).2 = 1 := by decide +kernel
  have hz6 : cnames.size = 6 := rfl
  obtain ⟨f, hf⟩ : ∃ f : Nat → Nat, f = fun k => x.f k % 4 := ⟨_, rfl⟩
  have hf3 : ∀ k, f k ≤ 3 := fun k => by rw [hf]; simp only; omega
  have hfx : ∀ k, (x.f k : Int) % 4 = (f k : Int) := fun k => by rw [hf]; simp only; omega
  clear hf
  go_enter Try.func3, Try.ntmps3
  go_wp2_with fail
  obtain ⟨X, hX⟩ : ∃ X : Obj, Obj.cells #[.int .u8 z0, .int .u8 z1, .int .u8 z2, .int .u8 z3, .int .u8 z4, .int .u8 z5] 22 = X := ⟨_, rfl⟩
  rw [hX]
  have hbX : Below w.heap.size w (w.alloc X) := (Below.refl _ _).alloc (Nat.le_refl _) _
  have hXat : (w.alloc X).heap[w.heap.size]? = some X := alloc_at _ _
  have hXs : (w.alloc X).heap.size = w.heap.size + 1 := by simp
  generalize w.alloc X = W at hbX hXat hXs ⊢
  have hXc : ∀ i, i < 6 → W.cell? ⟨w.heap.size, i, none⟩ = some (.int .u8 (x.f i)) := by
    intro i hi
    rw [← hX] at hXat
    rw [cell_at hXat]
    match i, hi with
    | 0, _ => rw [Hz0.out]; rfl
    | 1, _ => rw [Hz1.out]; rfl
    | 2, _ => rw [Hz2.out]; rfl
    | 3, _ => rw [Hz3.out]; rfl
    | 4, _ => rw [Hz4.out]; rfl
    | 5, _ => rw [Hz5.out]; rfl
  refine (New_at (ex := ex) 100 (by decide) (by decide) (fun k hk => by rw [hXs]; exact hx0 k hk)).mono ?_
  generalize W.heap.size + 1 = p
  generalize hm : W.heap.size = m
  rintro e w0 ⟨rfl, h0, kk0⟩
  clear hm
  dsimp only
  go_wp2_with fail
  obtain ⟨bm, hbm⟩ : ∃ bm, w0.heap.size = bm := ⟨_, rfl⟩
  have hM0 := MapIs.made Try.prog 9 w0
  have hw1 : ((w0.alloc (.map #[] 0)).iter ⟨#[97, 98, 99, 100, 101, 102]⟩ 0) = (w0.alloc (.map #[] 0)).alloc (.stringIter cnames 0) := rfl
  rw [hw1]
  have hb1 : Below w0.heap.size w0 ((w0.alloc (.map #[] 0)).alloc (.stringIter cnames 0)) := ((Below.refl _ _).alloc (Nat.le_refl _) _).alloc (by simp) _
  have hM1 := hM0.alloc (.stringIter cnames 0)
  have hI1 := alloc2_at w0 (.map #[] 0) (.stringIter cnames 0)
  have hs1 : ((w0.alloc (.map #[] 0)).alloc (.stringIter cnames 0)).heap.size = w0.heap.size + 2 := by simp
  generalize (w0.alloc (.map #[] 0)).alloc (.stringIter cnames 0) = w1 at hb1 hM1 hI1 hs1 ⊢
  have hex1 : ∃ ex1 : Nat → Prop, (∀ k, ex1 k ↔ ex k ∨ k = bm ∨ k = bm + 1) := ⟨fun k => ex k ∨ k = bm ∨ k = bm + 1, fun k => Iff.rfl⟩
  obtain ⟨ex1, hex1⟩ := hex1
  have hD1 : DiskAt ex1 w1 p m ⟨100, -1, false, []⟩ := h0.more hb1 (fun k hk => by
    rcases (hex1 k).1 hk with h | h | h
    · exact Or.inl h
    · exact Or.inr (by omega)
    · exact Or.inr (by omega))
  have hK1 : Keep ex W w1 := kk0.trans (Keep.ofBelow hb1 (fun k hk => h0.lt hk))
  have hg0 : (fun _ => none : Value → Option Value) = gA (setA 0) := by funext k; cases k <;> rfl
  rw [hg0] at hM1
  rw [hbm] at hM1 hI1 ⊢
  have hWb : W.heap.size ≤ bm := by rw [← hbm]; exact kk0.size
  have hx1 : ∀ k, ex k → ex1 k := fun k hk => (hex1 k).2 (Or.inl hk)
  have hxm : ex1 bm := (hex1 _).2 (Or.inr (Or.inl rfl))
  have hxi : ex1 (bm + 1) := (hex1 _).2 (Or.inr (Or.inr rfl))
  clear hM0 hw1 hb1 hg0 h0 kk0 hs1 hbm hex1
  go_wp2_with fail
  go_loopw [8] (fun _ wr => ∃ (i : Nat) (d : ADisk), i ≤ 6 ∧ wr.heap[bm + 1]? = some (.stringIter cnames i) ∧ MapIs Try.prog 9 wr bm i (gA (setA i)) ∧ DiskAt ex1 wr p m d ∧ Keep ex W wr ∧ CSt f d (setA i) i ∧ usedF d.fs ≤ 3 * i) (fun _ wr => 6 - wr.iterPos (bm + 1))
  case atStart => exact ⟨0, _, by omega, hI1, hM1, hD1, hK1, ⟨⟨rfl, rfl⟩, rfl, fun s => rfl, rfl, fun s k h => by cases h⟩, by simp [usedF]⟩
  case round =>
    obtain ⟨i, d, hi, hI, hM, hD, hK, hst, hu⟩ := hrel
    clear hI1 hM1 hD1 hK1
    have hIm := hI
    go_wp2_with (refine wpList_next_str rfl (.tmp 27) rfl cnames i rfl hI (fun h => hdec i h) ?_ ?_)
    · intro hdone
      obtain rfl : i = 6 := by omega
      have hst0 := hst
      have hM0 := hM
      have hD0 := hD
      have hK0 := hK
      clear hu hI hIm hdone hst hM hD hK hi hxi hdec
      go_wp2_with fail
      go_loopw [12] (fun t wr => ∃ (j n : Nat) (A : ByteArray → Option Nat) (d : ADisk), j ≤ ps.length ∧ j ≤ 40 ∧ t = .int .i64 j ∧ MapIs Try.prog 9 wr bm n (gA A) ∧ DiskAt ex1 wr p m d ∧ Keep ex W wr ∧ CSt f d A n) (fun t _ => ps.length - (intOf t).toNat)
      case atStart => exact ⟨0, 6, _, _, by omega, by omega, rfl, hM0, hD0, hK0, hst0⟩
      case round =>
        clear hM0 hD0 hK0 hst0
        obtain ⟨j, n, A, d, hj, hj40, rfl, hM, hD, hK, hst⟩ := hrel
        have hbr : Below w.heap.size w wr := hbX.trans ((hK.below (N := w.heap.size + 1) hxx).mono (by omega))
        by_cases hlt : j < ps.length
        · by_cases h40 : j < 40
          · obtain ⟨bg, og, rfl, c0, c1, l0, l1⟩ := hps.at hbr j hlt
            obtain ⟨p1, hp1⟩ : ∃ p1, ps[j].1 = p1 := ⟨_, rfl⟩
            obtain ⟨p2, hp2⟩ : ∃ p2, ps[j].2 = p2 := ⟨_, rfl⟩
            rw [hp1] at c0 l0
            rw [hp2] at c1 l1
            clear hp1 hp2
            obtain ⟨a1, ha1⟩ : ∃ a : Nat, ((p1 : Nat) : Int) % 6 = (a : Nat) := ⟨p1 % 6, by omega⟩
            obtain ⟨a2, ha2⟩ : ∃ a : Nat, ((p2 : Nat) : Int) % 6 = (a : Nat) := ⟨p2 % 6, by omega⟩
            have hl1 : a1 < 6 := by omega
            have hl2 : a2 < 6 := by omega
            have hl1' : a1 ≤ 6 := by omega
            have hl2' : a2 ≤ 6 := by omega
            go_wp2_with fail
            go_quiet (fail)
            rw [nm_cut a1 hl1, nm_cut a2 hl2]
            have hns1 : (nm a1).size ≤ maxLen := by rw [(nm_ok a1 hl1).2]; decide
            have hns2 : (nm a2).size ≤ maxLen := by rw [(nm_ok a2 hl2).2]; decide
            have hbN : Below wr.heap.size wr (wr.drewN nq) := ⟨rfl, rfl, rfl, Nat.le_refl _, fun _ _ => rfl⟩
            have hDd := hD.below hbN
            have hMd : MapIs Try.prog 9 (wr.drewN nq) bm n (gA A) := hM.of_block rfl
            have hKd := hK.trans (Keep.ofBelow hbN (fun k hk => hD.lt (hx1 k hk)))
            have hbrd := hbr.trans (hbN.mono hbr.size)
            clear hbN
            generalize wr.drewN nq = wd at hDd hMd hKd hbrd ⊢
            cases hA : A (nm a1) with
            | none =>
              obtain ⟨r1, r2⟩ := called_none hst (nm a1) (nm a2) hA
              go_wp2_with (refine wpList_map_lookup_ok rfl (.tmp 98) (.tmp 99) 28 9 3 rfl Try.underlying28 keyed bm n (gA A) hMd rfl (.string (nm a1)) rfl _ (key_of hns1) (.int .i64 0) zero_int (.int .i64 0) (by simp [gA, hA]) false (by simp [gA, hA]) ?_)
              refine (Rename_at (nm a1) (nm a2) hDd hns1 hns2).mono ?_
              rw [r1, r2]
              rintro e w6 ⟨rfl, hD6, hK56⟩
              have hM6 := hMd.of_block (hK56.block bm hxm)
              have hK6 := hKd.trans (hK56.mono hx1)
              have hst6 := hst
              obtain ⟨A', hA'⟩ : ∃ A', A = A' := ⟨_, rfl⟩
              obtain ⟨n', hn'⟩ : ∃ n', n = n' := ⟨_, rfl⟩
              obtain ⟨d', hd'⟩ : ∃ d', d = d' := ⟨_, rfl⟩
              rw [hA', hn'] at hM6 hst6
              rw [hd'] at hst6 hD6
              clear hA' hn' hd' hMd hKd hDd hK56 r1 r2 hA
              dsimp only
              go_wp2_with fail
              have hnl := hst6.names
              have hn200 : n' ≤ 200 := by rw [← hst6.len]; exact hD6.wf.count
              have hbr6 : Below w.heap.size w w6 := hbX.trans ((hK6.below (N := w.heap.size + 1) hxx).mono (by omega))
              have HM6 := Lib.hid hM6
              clear hM6 hst hM hD hK hbr hps c0 c1
              refine (List_at hD6).mono ?_
              rw [hnl]
              rintro e w9 ⟨la, lc, rfl, _, _, hb9⟩
              have hM9 := HM6.out.upd (Upd.ofBelow (fp := fun _ => False) hb9) (fun h => h)
              have hD9 := hD6.below hb9
              have hK9 := hK6.trans (Keep.ofBelow hb9 (fun k hk => hD6.lt (hx1 k hk)))
              dsimp only
              go_wp2_with (first
                | (refine wpList_map_len rfl (.tmp 128) 28 9 3 rfl Try.underlying28 bm _ _ hM9 rfl ?_)
                | (refine wpList_range_is rfl (.tmp 131) 28 rfl 3 Try.underlying28 rfl hM9 ?_; intro w10 hR10 hb10 hs10))
              go_frame
              obtain ⟨r, hr⟩ : ∃ r, w9.heap.size = r := ⟨_, rfl⟩
              rw [hr] at hR10 hs10 ⊢
              have hD10 : DiskAt (fun k => ex1 k ∨ k = r) w10 p m d' := hD9.more hb10 (fun k hk => hk.imp id (fun e => by omega))
              have hK10 := hK9.trans (Keep.ofBelow hb10 (fun k hk => hD9.lt (hx1 k hk)))
              have hrx : ¬ ex r := fun h => by have := hx0 r h; have := hK9.size; omega
              clear hM9 hD9 hK9 hb9 hb10 hs10 hD6 hK6 hbr6 HM6
              go_loopw [18] (fun _ wr => ∃ cnt, RangeIs Try.prog 9 wr bm r n' (gA A') cnt ∧ DiskAt (fun k => ex1 k ∨ k = r) wr p m d' ∧ Keep ex W wr) (fun _ wr => wr.rangeLeft bm r)
              case atStart => exact ⟨_, hR10, hD10, hK10⟩
              case round =>
                clear hR10 hD10 hK10
                obtain ⟨cnt, hR, hD, hK⟩ := hrel
                go_wp2_with (refine wpList_next_is rfl (.tmp 132) rfl rfl hR ?_ ?_)
                · intro _
                  go_wp2
                  go_roundw
                  case rel => exact ⟨j + 1, n', A', d', by omega, by omega, by go_num, hR.isMap, hD.mono (fun k hk => Or.inl hk), hK, hst6⟩
                  case measure => simp [intOf]; omega
                · intro key v w11 cnt' hgk hR11 hlt11 hU11 hen
                  obtain ⟨s, kk, rfl, rfl, hAs⟩ := gA_some hgk
                  have hk6 : kk < 6 := (hst6.dom s kk hAs).1
                  have hss : s.size ≤ maxLen := by
                    obtain ⟨_, q, hq, rfl⟩ := hst6.dom s kk hAs
                    rw [(nm_ok q hq).2]; decide
                  have hfile := called_file hst6 hf3 s kk hAs
                  have hD11 := hD.upd hU11 (fun k _ hk => Or.inr hk)
                  have hK11 := hK.trans (Keep.ofUpd hU11 (fun k hk => ⟨hD.lt (Or.inl (hx1 k hk)), fun e => hrx (e ▸ hk)⟩))
                  have q0 := (hK11.cell (hxx w.heap.size (by omega)) kk).trans (hXc kk hk6)
                  have hbw : Below w11.heap.size w11 (w11.alloc (.cells #[.int .u8 (kk : Nat), .int .u8 (10 * (kk : Nat) : Int), .int .u8 7] 5)) := (Below.refl _ _).alloc (Nat.le_refl _) _
                  have q2 := (hbw.cell (p := ⟨w.heap.size, kk, none⟩) (cell_lt q0)).trans q0
                  have hrdk : Rd ((w11.alloc (.cells #[.int .u8 (kk : Nat), .int .u8 (10 * (kk : Nat) : Int), .int .u8 7] 5)).drew) (.slice (some ⟨w11.heap.size, 0, none⟩) 3 3) (bcells (byts kk)) := by
                    refine Rd.below (Rd_new _ _ _ _ _ _ _ ?_ (by rw [bcells_length]; rfl)) ((Below.refl _ _).drew)
                    rw [byts_cells kk hk6]
                    rfl
                  have hcv := run_bytes_str (P := Try.prog) hrdk Try.underlying29 Try.underlying5 Try.underlying9
                  have hbd : Below w11.heap.size w11 ((w11.alloc (.cells #[.int .u8 (kk : Nat), .int .u8 (10 * (kk : Nat) : Int), .int .u8 7] 5)).drew) := hbw.drew
                  have hDd := hD11.below hbd
                  have hki : (kk : Int) < 6 := by omega
                  have hw4 : ((x.f kk : Nat) : Int).tmod 4 = (f kk : Int) := by rw [Int.tmod_eq_emod_of_nonneg (by omega), hfx]
                  have hf3k := hf3 kk
                  have hw5 : IntKind.i64.wrap (f kk : Int) = (f kk : Int) := IntWalk.i64_in _ (by omega)
                  have hw1 : IntKind.u8.wrap (kk : Int) = (kk : Int) := by
                    match kk, hk6 with
                    | 0, _ => rfl
                    | 1, _ => rfl
                    | 2, _ => rfl
                    | 3, _ => rfl
                    | 4, _ => rfl
                    | 5, _ => rfl
                  have hw2 : IntKind.i64.wrap (10 * (kk : Int)) = 10 * (kk : Int) := IntWalk.i64_in _ (by omega)
                  have hw3 : IntKind.u8.wrap (10 * (kk : Int)) = 10 * (kk : Int) := by
                    match kk, hk6 with
                    | 0, _ => rfl
                    | 1, _ => rfl
                    | 2, _ => rfl
                    | 3, _ => rfl
                    | 4, _ => rfl
                    | 5, _ => rfl
                  have hws : (⟨(byts kk).toArray⟩ : ByteArray).size ≤ maxLen := by show 3 ≤ maxLen; decide
                  have Hfile := Lib.hid hfile
                  clear hfile hgk
                  go_wp2_with fail
                  have hrdk2 : Rd (w11.drew.alloc (.cells #[.int .u8 (kk : Nat), .int .u8 (10 * (kk : Nat) : Int), .int .u8 7] 5)) (.slice (some ⟨w11.heap.size, 0, none⟩) 3 3) (bcells (byts kk)) := hrdk
                  have hcv2 := run_bytes_str (P := Try.prog) hrdk2 Try.underlying29 Try.underlying5 Try.underlying9
                  go_region_law (first | (go_simp; go_at_call 17; refine (file_at s ⟨(byts kk).toArray⟩ (f kk) hDd hss hws).mono ?_; rw [Hfile.out]; rintro e w12 ⟨rfl, hb12⟩; have q12 := (hb12.cell (p := ⟨w.heap.size, kk, none⟩) (cell_lt q2)).trans q2))
                  all_goals
                    have hbt : Below w11.heap.size w11 w12 := hbd.trans (hb12.mono hbd.size)
                    have hR12 := hR11.upd (Upd.ofBelow (fp := fun _ => False) hbt) (fun h => h) (fun h => h)
                    have hD12 := hD11.below hbt
                    have hK12 := hK11.trans (Keep.ofBelow hbt (fun k hk => hD11.lt (Or.inl (hx1 k hk))))
                    go_wp2
                    go_roundw
                    case rel => first | exact ⟨cnt', hR12, hD12, hK12⟩ | ((repeat apply Exists.intro); exact ⟨⟨cnt', hR12, hD12, hK12⟩, rfl⟩)
                    case measure => rw [hR12.left, hR.left]; exact hlt11
            | some k =>
              have hk6 : k < 6 := (hst.dom _ k hA).1
              obtain ⟨r1, hst6⟩ := called_some hst hD.wf.sorted (nm a1) a2 hl2 k hA
              have hn0 : n ≤ 200 := by rw [← hst.len]; exact hD.wf.count
              obtain ⟨n2, hn2⟩ : ∃ n2, (if ((if nm a2 = nm a1 then none else A (nm a2)) : Option Nat).isSome then n - 1 else n - 1 + 1) = n2 := ⟨_, rfl⟩
              rw [hn2] at hst6
              have Hn2 := Lib.hid hn2
              have HgA : Hid ((gA (fun t => if t = nm a1 then none else A t) (.string (nm a2))).isSome = ((if nm a2 = nm a1 then none else A (nm a2)) : Option Nat).isSome) := Lib.hid (by simp only [gA, Option.isSome_map])
              clear hn2
              go_wp2_with (refine wpList_map_lookup_ok rfl (.tmp 98) (.tmp 99) 28 9 3 rfl Try.underlying28 keyed bm n (gA A) hMd rfl (.string (nm a1)) rfl _ (key_of hns1) (.int .i64 0) zero_int (.int .i64 (k : Nat)) (by simp [gA, hA]) true (by simp [gA, hA]) ?_)
              refine (Rename_at (nm a1) (nm a2) hDd hns1 hns2).mono ?_
              rw [r1]
              rintro e w5 ⟨rfl, hD5, hK5⟩
              have hM5 := hMd.of_block (hK5.block bm hxm)
              have hgone : (n - 1 : Nat) = if (gA A (.string (nm a1))).isSome then n - 1 else n := by simp [gA, hA]
              have Hgone := Lib.hid hgone
              clear hgone
              dsimp only
              go_wp2_with (first
                | (refine wpList_map_delete rfl (.tmp 120) (.tmp 121) 28 9 3 rfl Try.underlying28 keyed bm n (gA A) hM5 rfl (.string (nm a1)) rfl _ (key_of hns1) (n - 1) Hgone.out ?_; intro w7 hM7 hg7 hs7; have hM7' : MapIs Try.prog 9 w7 bm (n - 1) (gA (fun t => if t = nm a1 then none else A t)) := hM7.del A (nm a1) (by simp) (fun y hy => by simp [hy]))
                | (refine wpList_map_update rfl (.tmp 122) (.tmp 123) (.tmp 124) 28 9 3 rfl Try.underlying28 keyed bm (n - 1) _ hM7' rfl (.string (nm a2)) rfl _ (key_of hns2) (.int .i64 (k : Nat)) rfl (by simp only [maxLen]; omega) n2 (by rw [HgA.out]; exact Hn2.out.symm) ?_; intro w6 hM8 hg8 hs8))
              have hM6 : MapIs Try.prog 9 w6 bm n2 (gA (renA A (nm a1) (nm a2) k)) := hM8.put (fun t => if t = nm a1 then none else A t) (nm a2) k (by simp) (fun y hy => by simp [hy])
              have hU7 := upd_grown hg7
              have hU6 := upd_grown hg8
              have hD6 := (hD5.upd hU7 (fun q _ hq => by rw [hq]; exact hxm)).upd hU6 (fun q _ hq => by rw [hq]; exact hxm)
              have hxnm : ∀ q, ex q → ¬ q = bm := fun q hq e => by have := hx0 q hq; omega
              have hK6 := ((hKd.trans (hK5.mono hx1)).trans (Keep.ofUpd hU7 (fun q hq => ⟨hD5.lt (hx1 q hq), hxnm q hq⟩))).trans (Keep.ofUpd hU6 (fun q hq => ⟨by have := hD5.lt (hx1 q hq); omega, hxnm q hq⟩))
              obtain ⟨A', hA'⟩ : ∃ A', renA A (nm a1) (nm a2) k = A' := ⟨_, rfl⟩
              obtain ⟨n', hn'⟩ : ∃ n', n2 = n' := ⟨_, rfl⟩
              obtain ⟨d', hd'⟩ : ∃ d', d.rename (nm a1) (nm a2) = d' := ⟨_, rfl⟩
              rw [hA', hn'] at hM6 hst6
              rw [hd'] at hst6 hD6
              clear hA' hn' hd' hMd hKd hDd hK5 r1 hA hM5 hM7 hM7' hM8 hg7 hg8 hU7 hU6 hxnm Hn2 HgA Hgone hD5
              have hnl := hst6.names
              have hn200 : n' ≤ 200 := by rw [← hst6.len]; exact hD6.wf.count
              have hbr6 : Below w.heap.size w w6 := hbX.trans ((hK6.below (N := w.heap.size + 1) hxx).mono (by omega))
              have HM6 := Lib.hid hM6
              clear hM6 hst hM hD hK hbr hps c0 c1
              refine (List_at hD6).mono ?_
              rw [hnl]
              rintro e w9 ⟨la, lc, rfl, _, _, hb9⟩
              have hM9 := HM6.out.upd (Upd.ofBelow (fp := fun _ => False) hb9) (fun h => h)
              have hD9 := hD6.below hb9
              have hK9 := hK6.trans (Keep.ofBelow hb9 (fun k hk => hD6.lt (hx1 k hk)))
              dsimp only
              go_wp2_with (first
                | (refine wpList_map_len rfl (.tmp 128) 28 9 3 rfl Try.underlying28 bm _ _ hM9 rfl ?_)
                | (refine wpList_range_is rfl (.tmp 131) 28 rfl 3 Try.underlying28 rfl hM9 ?_; intro w10 hR10 hb10 hs10))
              go_frame
              obtain ⟨r, hr⟩ : ∃ r, w9.heap.size = r := ⟨_, rfl⟩
              rw [hr] at hR10 hs10 ⊢
              have hD10 : DiskAt (fun k => ex1 k ∨ k = r) w10 p m d' := hD9.more hb10 (fun k hk => hk.imp id (fun e => by omega))
              have hK10 := hK9.trans (Keep.ofBelow hb10 (fun k hk => hD9.lt (hx1 k hk)))
              have hrx : ¬ ex r := fun h => by have := hx0 r h; have := hK9.size; omega
              clear hM9 hD9 hK9 hb9 hb10 hs10 hD6 hK6 hbr6 HM6
              go_loopw [18] (fun _ wr => ∃ cnt, RangeIs Try.prog 9 wr bm r n' (gA A') cnt ∧ DiskAt (fun k => ex1 k ∨ k = r) wr p m d' ∧ Keep ex W wr) (fun _ wr => wr.rangeLeft bm r)
              case atStart => exact ⟨_, hR10, hD10, hK10⟩
              case round =>
                clear hR10 hD10 hK10
                obtain ⟨cnt, hR, hD, hK⟩ := hrel
                go_wp2_with (refine wpList_next_is rfl (.tmp 132) rfl rfl hR ?_ ?_)
                · intro _
                  go_wp2
                  go_roundw
                  case rel => exact ⟨j + 1, n', A', d', by omega, by omega, by go_num, hR.isMap, hD.mono (fun k hk => Or.inl hk), hK, hst6⟩
                  case measure => simp [intOf]; omega
                · intro key v w11 cnt' hgk hR11 hlt11 hU11 hen
                  obtain ⟨s, kk, rfl, rfl, hAs⟩ := gA_some hgk
                  have hk6 : kk < 6 := (hst6.dom s kk hAs).1
                  have hss : s.size ≤ maxLen := by
                    obtain ⟨_, q, hq, rfl⟩ := hst6.dom s kk hAs
                    rw [(nm_ok q hq).2]; decide
                  have hfile := called_file hst6 hf3 s kk hAs
                  have hD11 := hD.upd hU11 (fun k _ hk => Or.inr hk)
                  have hK11 := hK.trans (Keep.ofUpd hU11 (fun k hk => ⟨hD.lt (Or.inl (hx1 k hk)), fun e => hrx (e ▸ hk)⟩))
                  have q0 := (hK11.cell (hxx w.heap.size (by omega)) kk).trans (hXc kk hk6)
                  have hbw : Below w11.heap.size w11 (w11.alloc (.cells #[.int .u8 (kk : Nat), .int .u8 (10 * (kk : Nat) : Int), .int .u8 7] 5)) := (Below.refl _ _).alloc (Nat.le_refl _) _
                  have q2 := (hbw.cell (p := ⟨w.heap.size, kk, none⟩) (cell_lt q0)).trans q0
                  have hrdk : Rd ((w11.alloc (.cells #[.int .u8 (kk : Nat), .int .u8 (10 * (kk : Nat) : Int), .int .u8 7] 5)).drew) (.slice (some ⟨w11.heap.size, 0, none⟩) 3 3) (bcells (byts kk)) := by
                    refine Rd.below (Rd_new _ _ _ _ _ _ _ ?_ (by rw [bcells_length]; rfl)) ((Below.refl _ _).drew)
                    rw [byts_cells kk hk6]
                    rfl
                  have hcv := run_bytes_str (P := Try.prog) hrdk Try.underlying29 Try.underlying5 Try.underlying9
                  have hbd : Below w11.heap.size w11 ((w11.alloc (.cells #[.int .u8 (kk : Nat), .int .u8 (10 * (kk : Nat) : Int), .int .u8 7] 5)).drew) := hbw.drew
                  have hDd := hD11.below hbd
                  have hki : (kk : Int) < 6 := by omega
                  have hw4 : ((x.f kk : Nat) : Int).tmod 4 = (f kk : Int) := by rw [Int.tmod_eq_emod_of_nonneg (by omega), hfx]
                  have hf3k := hf3 kk
                  have hw5 : IntKind.i64.wrap (f kk : Int) = (f kk : Int) := IntWalk.i64_in _ (by omega)
                  have hw1 : IntKind.u8.wrap (kk : Int) = (kk : Int) := by
                    match kk, hk6 with
                    | 0, _ => rfl
                    | 1, _ => rfl
                    | 2, _ => rfl
                    | 3, _ => rfl
                    | 4, _ => rfl
                    | 5, _ => rfl
                  have hw2 : IntKind.i64.wrap (10 * (kk : Int)) = 10 * (kk : Int) := IntWalk.i64_in _ (by omega)
                  have hw3 : IntKind.u8.wrap (10 * (kk : Int)) = 10 * (kk : Int) := by
                    match kk, hk6 with
                    | 0, _ => rfl
                    | 1, _ => rfl
                    | 2, _ => rfl
                    | 3, _ => rfl
                    | 4, _ => rfl
                    | 5, _ => rfl
                  have hws : (⟨(byts kk).toArray⟩ : ByteArray).size ≤ maxLen := by show 3 ≤ maxLen; decide
                  have Hfile := Lib.hid hfile
                  clear hfile hgk
                  go_wp2_with fail
                  have hrdk2 : Rd (w11.drew.alloc (.cells #[.int .u8 (kk : Nat), .int .u8 (10 * (kk : Nat) : Int), .int .u8 7] 5)) (.slice (some ⟨w11.heap.size, 0, none⟩) 3 3) (bcells (byts kk)) := hrdk
                  have hcv2 := run_bytes_str (P := Try.prog) hrdk2 Try.underlying29 Try.underlying5 Try.underlying9
                  go_region_law (first | (go_simp; go_at_call 17; refine (file_at s ⟨(byts kk).toArray⟩ (f kk) hDd hss hws).mono ?_; rw [Hfile.out]; rintro e w12 ⟨rfl, hb12⟩; have q12 := (hb12.cell (p := ⟨w.heap.size, kk, none⟩) (cell_lt q2)).trans q2))
                  all_goals
                    have hbt : Below w11.heap.size w11 w12 := hbd.trans (hb12.mono hbd.size)
                    have hR12 := hR11.upd (Upd.ofBelow (fp := fun _ => False) hbt) (fun h => h) (fun h => h)
                    have hD12 := hD11.below hbt
                    have hK12 := hK11.trans (Keep.ofBelow hbt (fun k hk => hD11.lt (Or.inl (hx1 k hk))))
                    go_wp2
                    go_roundw
                    case rel => first | exact ⟨cnt', hR12, hD12, hK12⟩ | ((repeat apply Exists.intro); exact ⟨⟨cnt', hR12, hD12, hK12⟩, rfl⟩)
                    case measure => rw [hR12.left, hR.left]; exact hlt11
          · go_wp2_with fail
            refine (awake_any _).mono ?_
            rintro e w7 ⟨rfl, hb7⟩
            go_wp2
            go_ret
            exact ⟨rfl, hbr.trans (hb7.mono hbr.size)⟩
        · go_wp2_with fail
          refine (awake_any _).mono ?_
          rintro e w7 ⟨rfl, hb7⟩
          go_wp2
          go_ret
          exact ⟨rfl, hbr.trans (hb7.mono hbr.size)⟩
    · intro hlt cr w2 hI2 hU2
      have hlt6 : i < 6 := hlt
      have hgt : W.heap.size ≤ wr.heap.size := hK.size
      have hlt2 : bm + 1 < w2.heap.size := blk_lt hI2
      have hxw : ex w.heap.size := hxx _ (by omega)
      have hcX := (hU2.cell (by omega) (fun e => by omega) i).trans ((hK.cell hxw i).trans (hXc i hlt6))
      have hM2 := hM.upd hU2 (fun e => by omega)
      have hD2 := hD.upd hU2 (fun k _ hk => by rw [hk]; exact hxi)
      have hK2 : Keep ex W w2 := hK.trans (Keep.ofUpd hU2 (fun k hk => ⟨by have := hx0 k hk; omega, fun e => by have := hx0 k hk; omega⟩))
      obtain ⟨e1, e2, e3, hst', hu'⟩ := called_step hst hD.wf.sorted hu hlt6 ((byts i).take (f i)) ((byts i).drop (f i)) rfl rfl
      obtain ⟨d1, hd1⟩ : ∃ d1, d.append (nm i) ((byts i).take (f i)) = d1 := ⟨_, rfl⟩
      rw [hd1] at e2 e3 hst' hu'
      obtain ⟨d2, hd2⟩ : ∃ d2, d1.sync (nm i) = d2 := ⟨_, rfl⟩
      rw [hd2] at e3 hst' hu'
      obtain ⟨d3, hd3⟩ : ∃ d3, d2.append (nm i) ((byts i).drop (f i)) = d3 := ⟨_, rfl⟩
      rw [hd3] at hst' hu'
      have hns : (nm i).size ≤ maxLen := by rw [(nm_ok i hlt6).2]; decide
      have hkk : key_of hns = key_of hns := rfl
      have hbR : Below w2.heap.size w2 (w2.alloc (.cells #[.int .u8 (i : Nat), .int .u8 (10 * (i : Nat) : Int), .int .u8 7] 5)) := (Below.refl _ _).alloc (Nat.le_refl _) _
      have hRat := alloc_at w2 (.cells #[.int .u8 (i : Nat), .int .u8 (10 * (i : Nat) : Int), .int .u8 7] 5)
      have hRs : (w2.alloc (.cells #[.int .u8 (i : Nat), .int .u8 (10 * (i : Nat) : Int), .int .u8 7] 5)).heap.size = w2.heap.size + 1 := by simp
      have hcR := (hbR.cell (p := ⟨w.heap.size, i, none⟩) (cell_lt hcX)).trans hcX
      have hbl : (byts i).length = 3 := rfl
      have hf3i := hf3 i
      have hbc := byts_cells i hlt6
      have hRd1 : Rd (w2.alloc (.cells #[.int .u8 (i : Nat), .int .u8 (10 * (i : Nat) : Int), .int .u8 7] 5)) (.slice (some ⟨w2.heap.size, 0, none⟩) (f i) 3) (bcells ((byts i).take (f i))) := by
        refine Rd_new _ _ _ _ _ _ _ ?_ (by rw [bcells_length, List.length_take, hbl]; omega)
        rw [show (#[.int .u8 (i : Nat), .int .u8 (10 * (i : Nat) : Int), .int .u8 7] : Array Value).toList = bcells (byts i) from hbc.symm, bcells_length, List.length_take, hbl, Nat.min_eq_left hf3i, bcells_take]
      have hcells : ∀ j v, (bcells (byts i))[j]? = some v → (w2.alloc (.cells #[.int .u8 (i : Nat), .int .u8 (10 * (i : Nat) : Int), .int .u8 7] 5)).cell? ⟨w2.heap.size, j, none⟩ = some v := fun j v hj => by rw [cell_at hRat]; rw [hbc] at hj; simpa using hj
      have hDR : DiskAt (fun k => ex1 k ∨ k = w2.heap.size) (w2.alloc (.cells #[.int .u8 (i : Nat), .int .u8 (10 * (i : Nat) : Int), .int .u8 7] 5)) p m d := hD2.more hbR (fun k hk => hk.imp id (fun e => by omega))
      have HRd1 := Lib.hid hRd1
      have Hcells := Lib.hid hcells
      have Hbc := Lib.hid hbc
      have Hd1 := Lib.hid hd1
      have Hd2 := Lib.hid hd2
      have Hd3 := Lib.hid hd3
      clear hRd1 hcells hbc hkk hd1 hd2 hd3 hRat
      go_wp2_with fail
      refine (Append_at (nm i) _ ((byts i).take (f i)) hDR hns HRd1.out (by rw [List.length_take, hbl]; omega)).mono ?_
      rw [e1, Hd1.out]
      rintro e w3 ⟨rfl, hD3, hK3⟩
      dsimp only
      go_wp2_with fail
      refine (Sync_at (nm i) hD3 hns).mono ?_
      rw [e2, Hd2.out]
      rintro e w4 ⟨rfl, hD4, hK4⟩
      have hK24 := hK3.trans hK4
      have hc4 : ∀ j v, (bcells (byts i))[j]? = some v → w4.cell? ⟨w2.heap.size, j, none⟩ = some v := fun j v hj => (hK24.cell (Or.inr rfl) j).trans (Hcells.out j v hj)
      have HRdA : Hid (Rd w4 (.slice (some ⟨w2.heap.size, f i, none⟩) (3 - f i) (3 - f i)) (bcells ((byts i).drop (f i)))) := Lib.hid (by
        refine Or.inr ⟨w2.heap.size, f i, 3 - f i, 3 - f i, rfl, by rw [bcells_length, List.length_drop, hbl], fun j u hj => ?_⟩
        refine hc4 (f i + j) u ?_
        simp only [bcells, List.map_drop, List.getElem?_drop] at hj ⊢
        exact hj)
      have HRdB : Hid (f i = 3 → Rd w4 (.slice (some ⟨w2.heap.size, 0, none⟩) 0 0) (bcells ((byts i).drop (f i)))) := Lib.hid (fun h => by
        refine Or.inl ⟨Or.inr ⟨_, _, rfl⟩, ?_⟩
        rw [h, List.drop_eq_nil_of_le (by rw [hbl]; omega)]
        rfl)
      have hM5 := fun (w5 : World) (h : Keep (fun k => ex1 k ∨ k = w2.heap.size) w4 w5) => (hM2.alloc (.cells #[.int .u8 (i : Nat), .int .u8 (10 * (i : Nat) : Int), .int .u8 7] 5)).of_block ((hK24.trans h).block bm (Or.inl hxm))
      have hI5 := fun (w5 : World) (h : Keep (fun k => ex1 k ∨ k = w2.heap.size) w4 w5) => ((hK24.trans h).block (bm + 1) (Or.inl hxi)).trans (alloc_old hI2 (.cells #[.int .u8 (i : Nat), .int .u8 (10 * (i : Nat) : Int), .int .u8 7] 5))
      have hK24' := (hK2.trans (Keep.ofBelow hbR (fun k hk => hD2.lt (hx1 k hk)))).trans (hK24.mono (fun k hk => Or.inl (hx1 k hk)))
      have HM5 := Lib.hid hM5
      have HI5 := Lib.hid hI5
      have hnew : gA (setA i) (.string (nm i)) = none := by simp [gA, setA_new i hlt6]
      have Hnew := Lib.hid hnew
      clear hc4 hM5 hI5 hcX hcR hM2 hI2 hM hI hnew
      dsimp only
      go_wp2_with fail
      · have hf3e : f i = 3 := by omega
        refine (Append_at (nm i) (.slice (some ⟨w2.heap.size, 0, none⟩) 0 0) ((byts i).drop (f i)) hD4 hns (HRdB.out hf3e) (by rw [List.length_drop, hbl]; omega)).mono ?_
        rw [e3, Hd3.out]
        rintro e w5 ⟨rfl, hD5, hK5⟩
        dsimp only
        go_wp2_with (refine wpList_map_update rfl (.tmp 68) (.tmp 69) (.tmp 70) 28 9 3 rfl Try.underlying28 keyed bm i (gA (setA i)) (HM5.out w5 hK5) rfl (.string (nm i)) rfl _ (key_of hns) (.int .i64 (i : Nat)) rfl (by simp only [maxLen]; omega) (i + 1) (by rw [Hnew.out]; rfl) ?_)
        intro w6 hM6 hg6 hs6
        have hU6 : Upd (· = bm) w5 w6 := ⟨hg6.os, hg6.tape, hg6.output, hg6.size, fun k hk hn => hg6.block k hk (by simpa using hn)⟩
        have hI6 := hU6.keep (HI5.out w5 hK5) (by omega)
        have hM6' : MapIs Try.prog 9 w6 bm (i + 1) (gA (setA (i + 1))) := hM6.put (setA i) (nm i) i (by simp) (fun y hy => by simp [hy])
        have hD6 : DiskAt ex1 w6 p m d3 := (hD5.upd hU6 (fun k _ hk => Or.inl (hk ▸ hxm))).mono (fun k hk => Or.inl hk)
        have hK6 : Keep ex W w6 := (hK24'.trans (hK5.mono (fun k hk => Or.inl (hx1 k hk)))).trans (Keep.ofUpd hU6 (fun k hk => ⟨by have := hx0 k hk; have := hK5.size; have := hK24.size; omega, fun e => by have := hx0 k hk; omega⟩))
        clear hM6 hg6
        go_wp2
        go_roundw
        case rel => (repeat apply Exists.intro); exact ⟨⟨i + 1, d3, by omega, hI6, hM6', hD6, hK6, hst', hu'⟩, rfl⟩
        case measure => simp [World.iterPos, hI6, hIm]; omega
      · refine (Append_at (nm i) (.slice (some ⟨w2.heap.size, f i, none⟩) (3 - f i) (3 - f i)) ((byts i).drop (f i)) hD4 hns HRdA.out (by rw [List.length_drop, hbl]; omega)).mono ?_
        rw [e3, Hd3.out]
        rintro e w5 ⟨rfl, hD5, hK5⟩
        dsimp only
        go_wp2_with (refine wpList_map_update rfl (.tmp 68) (.tmp 69) (.tmp 70) 28 9 3 rfl Try.underlying28 keyed bm i (gA (setA i)) (HM5.out w5 hK5) rfl (.string (nm i)) rfl _ (key_of hns) (.int .i64 (i : Nat)) rfl (by simp only [maxLen]; omega) (i + 1) (by rw [Hnew.out]; rfl) ?_)
        intro w6 hM6 hg6 hs6
        have hU6 : Upd (· = bm) w5 w6 := ⟨hg6.os, hg6.tape, hg6.output, hg6.size, fun k hk hn => hg6.block k hk (by simpa using hn)⟩
        have hI6 := hU6.keep (HI5.out w5 hK5) (by omega)
        have hM6' : MapIs Try.prog 9 w6 bm (i + 1) (gA (setA (i + 1))) := hM6.put (setA i) (nm i) i (by simp) (fun y hy => by simp [hy])
        have hD6 : DiskAt ex1 w6 p m d3 := (hD5.upd hU6 (fun k _ hk => Or.inl (hk ▸ hxm))).mono (fun k hk => Or.inl hk)
        have hK6 : Keep ex W w6 := (hK24'.trans (hK5.mono (fun k hk => Or.inl (hx1 k hk)))).trans (Keep.ofUpd hU6 (fun k hk => ⟨by have := hx0 k hk; have := hK5.size; have := hK24.size; omega, fun e => by have := hx0 k hk; omega⟩))
        clear hM6 hg6
        go_wp2
        go_roundw
        case rel => exact ⟨i + 1, d3, by omega, hI6, hM6', hD6, hK6, hst', hu'⟩
        case measure => simp [World.iterPos, hI6, hIm]; omega
/-- .. as the frame hands it. -/
theorem called_law (w : World) {cs0 : Array Value} (b0 : Six) (r0 : cs0.toList = b0.cells) {v1 : Value} (b1 : List (Nat × Nat)) (r1 : PairsAt w v1 b1) :
    Calls Try.prog 3 #[.agg cs0, v1] w fun e w' => e = .returned (.bool true) ∧ Below w.heap.size w w' := by
  have h : cs0 = #[.int .u8 (b0.f 0), .int .u8 (b0.f 1), .int .u8 (b0.f 2), .int .u8 (b0.f 3), .int .u8 (b0.f 4), .int .u8 (b0.f 5)] := by
    have := congrArg List.toArray r0
    simpa [Six.cells] using this
  rw [h]
  exact called_walk w b0 v1 b1 r1
end Go.Proofs.Ytlljlkeknklplaa
