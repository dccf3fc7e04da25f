/-
  The document's bytes (homesteadref01): GetUint.
-/
import Derived.Outline
import Derived.Test.YtnagejhpdhdpfaaGreatDoorRc2
import Derived.Test.YtnagejhpdhdpfaaGreatDoorTel0
namespace Go.Proofs.YtnagejhpdhdpfaaGreatDoor
open Go.RowKit Go.Maps Go.MapKept

theorem cut_u8 (b o n c lo hi : Nat) (h : lo ≤ hi) (hc : hi ≤ c) (hne : ¬ c = lo) (w : World) :
    (Instr.slice 22 (.slice (some ⟨b, o, none⟩) n c) (some (.int .i64 lo)) (some (.int .i64 hi)) none).run Tryz.prog w = .ok (.slice (some ⟨b, o + lo, none⟩) (hi - lo) (c - lo)) w := by
  obtain ⟨i0, hi0, hz0, hz1, hz2⟩ := info_parts info_u8
  have he : Tryz.prog.elem 22 = 5 := by simp [Program.elem, Tryz.underlying22]
  rw [run_slice_lh (w := w) 22 (some ⟨b, o, none⟩) n c (by rw [he]; exact Tryz.underlying22) .i64 .i64 lo hi (by omega) (by omega) (by omega), he]
  simp [sizeOf, typeInfo, hi0, hz1, sliced, hne, Result.andThen, Addr.add_lit]
theorem gu_post {l : List UInt8} {at_ : Nat} {w w' : World} {er : Int} {n k : Nat} (h : gU l = (er, n, k)) (nx : Int) (hnx : nx = if er = 0 then (at_ : Int) + k else 0) (hB : Below w.heap.size w w') :
    GuPost l at_ w (.returned (.tuple #[.int .u64 n, .int .i64 nx, .int .i64 er])) w' := by
  refine ⟨?_, hB⟩
  unfold guVal guNext guErr
  rw [h, hnx]
set_option maxRecDepth 100000 in
set_option maxHeartbeats 8000000 in
theorem x1GetUint_any (w : World) (v : Value) (l : List UInt8) (at_ : Nat) (hv : Rd w v (bcells l)) (hcap : CapOk v) (hat : at_ ≤ l.length) (hl : l.length ≤ 1000000000000) :
    Calls Tryz.prog 48 #[v, .int .i64 at_] w (GuPost (l.drop at_) at_ w) := by
  obtain ⟨a, c, rfl⟩ := hv.shape
  obtain ⟨_, _, _, he, hnc, hcm⟩ := hcap
  cases he
  rw [bcells_length] at hv hnc ⊢
  obtain ⟨X, hX⟩ : ∃ X, l.drop at_ = X := ⟨_, rfl⟩
  have hXl : X.length = l.length - at_ := by rw [← hX, List.length_drop]
  have hXg : ∀ j, (h : at_ + j < l.length) → (h2 : j < X.length) → X[j] = l[at_ + j] := fun j h h2 => by subst hX; rw [List.getElem_drop]
  rw [hX]
  have Hv := Lib.hid hv
  have Hg := Lib.hid hXg
  have HX := Lib.hid hX
  clear hv hX hXg
  have h0 : ¬ (at_ : Int) < 0 := by omega
  have h1 : ¬ (l.length : Int) < (at_ : Int) := by omega
  go_enter Tryz.func48, Tryz.ntmps48
  go_wp2_with fail
  go_loop [7] (fun e => ∃ E k : Nat, E = at_ + k ∧ k ≤ 10 ∧ E ≤ l.length ∧ e = .int .i64 E ∧ ∀ x ∈ X.take k, 128 ≤ x.toNat) (fun e => l.length - (intOf e).toNat)
  case atStart => exact ⟨at_, 0, rfl, by omega, hat, rfl, by simp⟩
  case round =>
    obtain ⟨E, k, hE, hk, hEl, rfl, hhi⟩ := hrel
    have Hhi := Lib.hid hhi
    have HE := Lib.hid hE
    clear hhi
    by_cases hlt : E < l.length
    · have hlt' : (E : Int) < (l.length : Int) := by omega
      obtain ⟨b, o, rfl, hc⟩ : ∃ b o, a = some ⟨b, o, none⟩ ∧ w.cell? ⟨b, o + E, none⟩ = some (.int .u8 (l[E].toNat : Int)) := by
        rcases Hv.out with ⟨_, hz⟩ | ⟨b, o, n', cc, he, _, hc⟩
        · simp [bcells] at hz; subst hz; simp at hlt
        · cases he
          exact ⟨b, o, rfl, hc E _ (bcells_at hlt)⟩
      obtain ⟨x, hx⟩ : ∃ x, l[E] = x := ⟨_, rfl⟩
      have hXk : ∀ h2 : k < X.length, X[k] = x := fun h2 => by
        have hq := Hg.out k (by omega) h2
        rw [hq, ← hx]; congr 1; omega
      have HXk := Lib.hid hXk
      rw [hx] at hc
      have Hx := Lib.hid hx
      clear hx hXk
      have hxl := x.toNat_lt
      obtain ⟨xn, hxn⟩ : ∃ xn, x.toNat = xn := ⟨_, rfl⟩
      rw [hxn] at hc hxl
      have Hxn := Lib.hid hxn
      clear hxn
      by_cases h128 : 128 ≤ xn
      · have h128' : (128 : Int) ≤ (xn : Int) := by omega
        by_cases hk10 : k < 10
        · have hk10' : (E : Int) < (at_ : Int) + 10 := by omega
          clear hE
          go_wp2_with fail
          go_round
          case rel =>
            have hE := HE.out
            refine ⟨E + 1, k + 1, by omega, by omega, by omega, by go_num, fun y hy => ?_⟩
            rw [List.take_succ_eq_append_getElem (by omega : k < X.length), HXk.out] at hy
            rcases List.mem_append.1 hy with hy | hy
            · exact Hhi.out y hy
            · simp at hy; subst hy; rw [Hxn.out]; exact h128
          case measure => simp [intOf]; omega
        · obtain rfl : k = 10 := by omega
          have hk10' : ¬ (E : Int) < (at_ : Int) + 10 := by omega
          have hk11 : ((E : Int) == (at_ : Int) + 10) = true := by simp; omega
          have hgu := gu_ten Hhi.out (by omega)
          clear hE
          go_wp2_with fail
          go_ret3
          exact gu_post hgu 0 (by rw [if_neg (by decide)]) (Below.refl _ _)
      · have h128' : ¬ (128 : Int) ≤ (xn : Int) := by omega
        by_cases hk10 : k < 10
        · have hk11 : ((E : Int) == (at_ : Int) + 10) = false := by simp; omega
          have hk12 : ((E : Int) == (l.length : Int)) = false := by simp; omega
          have hkX : k < X.length := by omega
          have hgu := gu_some Hhi.out hk10 hkX (HXk.out hkX) (by rw [Hxn.out]; omega)
          obtain ⟨Y, hY⟩ : ∃ Y, X.take (k + 1) = Y := ⟨_, rfl⟩
          have hYl : Y.length = k + 1 := by rw [← hY, List.length_take]; omega
          have hYg : ∀ j (h : j < Y.length) (h2 : at_ + j < l.length), Y[j] = l[at_ + j] := fun j h h2 => by
            subst hY
            rw [List.getElem_take]
            exact Hg.out j h2 (by rw [List.length_take] at h; omega)
          rw [hY] at hgu
          obtain ⟨N, hN⟩ : ∃ N, vVal Y % 18446744073709551616 = N := ⟨_, rfl⟩
          have hNl : N < 18446744073709551616 := by rw [← hN]; exact Nat.mod_lt _ (by decide)
          rw [hN] at hgu
          have Hgu := Lib.hid hgu
          have HY := Lib.hid hY
          have HYl := Lib.hid hYl
          have HYg := Lib.hid hYg
          have HN := Lib.hid hN
          clear hE hgu hY hYl hYg hN
          go_wp2_with fail
          go_loop [8, 9] (fun n i => ∃ (j M : Nat) (ii : Int), j ≤ k + 1 ∧ ii = (at_ : Int) + j - 1 ∧ i = .int .i64 ii ∧ M = vVal (Y.drop j) % 18446744073709551616 ∧ n = .int .u64 M) (fun _ i => (intOf i + 1 - at_).toNat)
          case atStart => exact ⟨k + 1, 0, E, by omega, by have := HE.out; omega, rfl, by rw [List.drop_of_length_le (by rw [HYl.out]; omega)]; rfl, rfl⟩
          case round =>
            obtain ⟨j, M, ii, hj, hii, rfl, hM, rfl⟩ := hrel
            have HM := Lib.hid hM
            have hMl : M < 18446744073709551616 := by rw [hM]; exact Nat.mod_lt _ (by decide)
            clear hM
            by_cases hj0 : 0 < j
            · obtain ⟨i, hi⟩ : ∃ i, j = i + 1 := ⟨j - 1, by omega⟩
              obtain ⟨I, hI⟩ : ∃ I : Nat, I = at_ + i := ⟨_, rfl⟩
              have hIl : I < l.length := by have := HE.out; omega
              obtain rfl : ii = (I : Int) := by omega
              have hge : (at_ : Int) ≤ (I : Int) := by omega
              have hc2 : w.cell? ⟨b, o + I, none⟩ = some (.int .u8 (l[I].toNat : Int)) := by
                rcases Hv.out with ⟨_, hz⟩ | ⟨b', o', n', cc, he, _, hc⟩
                · simp [bcells] at hz; subst hz; simp at hlt
                · cases he
                  exact hc I _ (bcells_at hIl)
              obtain ⟨y, hy⟩ : ∃ y, l[I] = y := ⟨_, rfl⟩
              have hyY : Y[i]'(by rw [HYl.out]; omega) = y := by
                have hq := HYg.out i (by rw [HYl.out]; omega) (by omega)
                rw [hq, ← hy]; congr 1; omega
              have hdr : vVal (Y.drop i) = y.toNat % 128 + 128 * vVal (Y.drop (i + 1)) := by
                rw [List.drop_eq_getElem_cons (by rw [HYl.out]; omega), hyY]; rfl
              have hM2 : M = vVal (Y.drop (i + 1)) % 18446744073709551616 := by rw [← hi]; exact HM.out
              rw [hy] at hc2
              have hyl := y.toNat_lt
              generalize vVal (Y.drop (i + 1)) = V at hdr hM2
              have Hdr := Lib.hid hdr
              have HM2 := Lib.hid hM2
              have Hii := Lib.hid hii
              have HI := Lib.hid hI
              have Hi := Lib.hid hi
              clear hy hyY hdr hM2 hii hI hi
              go_wp2_with fail
              go_round
              case rel =>
                refine ⟨i, (M * 128 % 18446744073709551616 + y.toNat % 128) % 18446744073709551616, (I : Int) - 1, by have := Hi.out; omega, by have := HI.out; omega, by go_num, ?_, by go_num⟩
                rw [Hdr.out, HM2.out]; omega
              case measure => simp [intOf]; have := HI.out; omega
            · obtain rfl : j = 0 := by omega
              have hMN : M = N := by rw [HM.out, List.drop_zero, HN.out]
              subst hMN
              have hii2 : ii = (at_ : Int) - 1 := by omega
              have hlt3 : ¬ (at_ : Int) ≤ ii := by omega
              have hEk : E + 1 - at_ = k + 1 := by have := HE.out; omega
              have hEa : at_ ≤ E := by have := HE.out; omega
              have hca : ¬ c = at_ := by omega
              have hI1 : (at_ : Int) ≤ (E : Int) + 1 := by omega
              have hI2 : (E : Int) + 1 ≤ (c : Int) := by omega
              have hI3 : at_ ≤ E + 1 := by omega
              have hI4 : E + 1 ≤ c := by omega
              have hrun := fun w' => cut_u8 b o l.length c at_ (E + 1) hI3 hI4 hca w'
              rw [hEk, show (((E + 1 : Nat) : Nat) : Int) = (E : Int) + 1 from rfl] at hrun
              have hw5 : IntKind.i64.wrap ((E : Int) + 1) = (E : Int) + 1 := IntWalk.i64_in _ (by omega)
              have HM2 := Lib.hid HM
              clear hii2 hii HM
              have hsl : Rd w (.slice (some ⟨b, o + at_, none⟩) (k + 1) (c - at_)) (bcells Y) := by
                have h3 := rd_sub Hv.out at_ (k + 1) (by have := HE.out; omega) hca
                rw [← HY.out, ← HX.out, bcells_take, show bcells (l.drop at_) = (bcells l).drop at_ by simp [bcells]]
                simpa [Addr.add_lit] using h3
              obtain ⟨m, hm⟩ : ∃ m, vint M = m := ⟨_, rfl⟩
              have hV := x1Varint_any M
              rw [hm] at hV
              have hgu := Hgu.out
              rw [hm] at hgu
              have HV := Lib.hid hV
              have Hsl := Lib.hid hsl
              clear hm hV hsl
              by_cases hd : m = Y
              · rw [if_pos hd] at hgu
                have hdd : decide (m = Y) = true := by simpa using hd
                have HD := Lib.hid hdd
                have Hgu2 := Lib.hid hgu
                clear hd hdd hgu
                go_wp2_with fail
                go_region_held3 (fun w' => Below w.heap.size w w') (first | exact Below.refl _ _ | exact (Below.refl _ _).drew | exact S2 | exact S2.drew | go_keep)
                  (first
                  | (go_at_call 81; refine (HV.out _ hMl).mono ?_; rintro e w2 ⟨a2, c2, rfl, hR2, hB2⟩; have S2 : Below w.heap.size w w2 := ((Below.refl w.heap.size w).drew).trans hB2)
                  | (go_at_call 87; refine (x1equal_any _ _ _ m Y (Rd.ofOwns hR2) (Hsl.out.below S2)).mono ?_; rw [HD.out]; rintro e w3 ⟨rfl, rfl⟩))
                all_goals go_wp2
                go_ret3
                exact gu_post Hgu2.out _ (by rw [if_pos rfl]; have := HE.out; omega) S2
              · rw [if_neg hd] at hgu
                have hdd : decide (m = Y) = false := by simpa using hd
                have HD := Lib.hid hdd
                have Hgu2 := Lib.hid hgu
                clear hd hdd hgu
                go_wp2_with fail
                go_region_held3 (fun w' => Below w.heap.size w w') (first | exact Below.refl _ _ | exact (Below.refl _ _).drew | exact S2 | exact S2.drew | go_keep)
                  (first
                  | (go_at_call 81; refine (HV.out _ hMl).mono ?_; rintro e w2 ⟨a2, c2, rfl, hR2, hB2⟩; have S2 : Below w.heap.size w w2 := ((Below.refl w.heap.size w).drew).trans hB2)
                  | (go_at_call 87; refine (x1equal_any _ _ _ m Y (Rd.ofOwns hR2) (Hsl.out.below S2)).mono ?_; rw [HD.out]; rintro e w3 ⟨rfl, rfl⟩))
                all_goals go_wp2
                go_ret3
                exact gu_post Hgu2.out _ (by rw [if_neg (by decide)]) S2
        · obtain rfl : k = 10 := by omega
          have hk11 : ((E : Int) == (at_ : Int) + 10) = true := by simp; omega
          have hgu := gu_ten Hhi.out (by omega)
          clear hE
          go_wp2_with fail
          go_ret3
          exact gu_post hgu 0 (by rw [if_neg (by decide)]) (Below.refl _ _)
    · obtain rfl : E = l.length := by omega
      by_cases hk10 : k < 10
      · have hk11 : ((l.length : Int) == (at_ : Int) + 10) = false := by simp; omega
        have hXk : X.length = k := by omega
        have hgu := gu_short (l := X) (by rw [hXk]; exact Hhi.out) (by omega)
        clear hE
        go_wp2_with fail
        go_ret3
        exact gu_post hgu 0 (by rw [if_neg (by decide)]) (Below.refl _ _)
      · obtain rfl : k = 10 := by omega
        have hk11 : ((l.length : Int) == (at_ : Int) + 10) = true := by simp; omega
        have hgu := gu_ten Hhi.out (by omega)
        clear hE
        go_wp2_with fail
        go_ret3
        exact gu_post hgu 0 (by rw [if_neg (by decide)]) (Below.refl _ _)
end Go.Proofs.YtnagejhpdhdpfaaGreatDoor
