/-
  The statements' helper run: its contract, where the records are such a run.
-/
import Derived.Outline
import Derived.BigQuiet
import Derived.Deep.QuietTactic
import Derived.Test.YtbiadclmonakkaaGreatDoorMWmD
import Derived.Test.YtbiadclmonakkaaGreatDoorMWal20
namespace Go.Proofs.YtbiadclmonakkaaGreatDoor
open Go.RowKit Go.Maps Go.MapKept
set_option linter.unusedSimpArgs false

theorem RecRd.dropT {w : World} {a aD : Option Addr} {L : List XRec} (h : RecRd w a L) (j c : Nat) (hnc : L.length ≤ c) (haD : (if c = j then a else Option.map (fun x => x.add (j * 2)) a) = aD) : RecRd w aD (L.drop j) := by
  refine ⟨fun hn => ?_, fun x hx => h.rd x (List.mem_of_mem_drop hx)⟩
  have hj : j < L.length := by
    apply Nat.lt_of_not_le
    intro hle
    exact hn (List.drop_eq_nil_of_le hle)
  obtain ⟨b, o, e, hc⟩ := h.at_ (fun e => by rw [e] at hj; exact absurd hj (Nat.not_lt_zero _))
  rw [if_neg (by omega), e] at haD
  refine ⟨b, o + j * 2, by rw [← haD]; simp [Addr.add_lit], fun i u hu => ?_⟩
  have e2 : recX L = recX (L.take j) ++ recX (L.drop j) := by rw [← recX_app, List.take_append_drop]
  have el : (recX (L.take j)).length = j * 2 := by rw [recX_length, List.length_take, Nat.min_eq_left (by omega)]
  rw [Nat.add_assoc]
  apply hc
  rw [e2, List.getElem?_append_right (by omega), el, Nat.add_sub_cancel_left]
  exact hu
set_option maxRecDepth 100000 in
set_option maxHeartbeats 4000000 in
theorem run4_yes (w : World) (aR aA : Option Addr) (n N cR cA sy tr : Nat) (XR XA : List XRec) (L : List (List UInt8)) (hR : RecRd w aR XR) (hA : RecRd w aA XA) (hlR : XR.length = n) (hlA : XA.length = N) (hcA : N ≤ cA)
    (hN : 0 < N) (hNs : N ≤ 1000) (hsy : sy ≤ 100000) (htr : tr ≤ 100000) (hmA : XA.map XRec.rec4 = numbered 1 L) (h0 : n = 0 → sy < tr)
    (h1 : n ≠ 0 → ∃ a, 1 ≤ a ∧ a ≤ tr ∧ a - 1 + n ≤ N ∧ sy ≤ a - 1 + n ∧ XR.map XRec.rec4 = ((numbered 1 L).drop (a - 1)).take n) :
    Calls Tryz.prog 33 #[.slice aR n cR, .slice aA N cA, .int .i64 sy, .int .i64 tr] w fun e w' => e = .returned (.bool true) ∧ Below w.heap.size w w' := by
  have HlR := Lib.hid hlR
  have HlA := Lib.hid hlA
  have HmA := Lib.hid hmA
  by_cases hn : n = 0
  · subst hn
    have hlt := h0 rfl
    clear h0 h1 hlR hlA hmA
    go_enter Tryz.func33, Tryz.ntmps33
    go_wp2
    go_ret
    exact ⟨rfl, Below.refl _ _⟩
  · obtain ⟨a, g1, g2, g3, g4, g5⟩ := h1 hn
    obtain ⟨F, hF⟩ : ∃ F, a - 1 = F := ⟨_, rfl⟩
    rw [hF] at g3 g4 g5
    have hnL : N = L.length := by
      have := congrArg List.length hmA
      rw [List.length_map, hlA, numbered_len4] at this
      exact this
    have hRn : ∀ k (hk : k < XR.length), XR[k].n = a + k := by
      intro k hk
      have e1 : (XR.map XRec.rec4)[k]? = some (XR[k].rec4) := by rw [List.getElem?_map, List.getElem?_eq_getElem hk]; rfl
      rw [g5, List.getElem?_take, if_pos (by omega), List.getElem?_drop] at e1
      have e2 : XR[k].n = 1 + (F + k) := numbered_nth e1
      omega
    have hA0 : (XA[0]'(by omega)).n = 1 := by
      have h0l : 0 < XA.length := by omega
      have e1 : (XA.map XRec.rec4)[0]? = some (XA[0].rec4) := by rw [List.getElem?_map, List.getElem?_eq_getElem h0l]; rfl
      rw [hmA] at e1
      have e2 : XA[0].n = 1 + 0 := numbered_nth e1
      exact e2
    obtain ⟨n1, hn1⟩ : ∃ n1, n - 1 = n1 := ⟨_, rfl⟩
    obtain ⟨bR, oR, rfl, x0, xa, xb⟩ := hR.at 0 (by omega)
    obtain ⟨bZ, oZ, e2, x1, xc, xd⟩ := hR.at n1 (by omega)
    cases e2
    obtain ⟨bA, oA, rfl, y0, ya, yb⟩ := hA.at 0 (by omega)
    rw [hRn] at x0
    simp only [Nat.zero_mul, Nat.add_zero] at x0
    rw [hRn] at x1
    rw [hA0] at y0
    simp only [Nat.zero_mul, Nat.add_zero] at y0
    obtain ⟨Z, hZ⟩ : ∃ Z, a + n1 = Z := ⟨_, rfl⟩
    rw [hZ] at x1
    clear xa xb xc xd ya yb
    have i1 : (n : Int) - 1 = (n1 : Int) := by omega
    have i2 : IntKind.i64.wrap (n1 : Int) = (n1 : Int) := IntWalk.i64_in _ (by omega)
    have i3 : (0 : Int) ≤ (n1 : Int) := by omega
    have i4 : (n1 : Int) < (n : Int) := by omega
    have i5 : (a : Int) - 1 = (F : Int) := by omega
    have i6 : IntKind.i64.wrap (F : Int) = (F : Int) := IntWalk.i64_in _ (by omega)
    have i7 : IntKind.i64.wrap ((F : Int) + (n : Int)) = (F : Int) + (n : Int) := IntWalk.i64_in _ (by omega)
    have i8 : ¬ ((N : Int) < (F : Int) + (n : Int)) := by omega
    have i9 : ¬ (Z < sy) := by omega
    have i10 : max (tr : Int) 1 = (tr : Int) := by omega
    have i11 : ¬ (tr < a) := by omega
    have i12 : (0 : Int) < (n : Int) := by omega
    have i13 : (0 : Int) < (N : Int) := by omega
    have i14 : (F : Int) ≤ (F : Int) + (n : Int) := by omega
    have i15 : (F : Int) + (n : Int) ≤ (cA : Int) := by omega
    have i16 : 0 < n := by omega
    have i17 : ((F : Int) + (n : Int)).toNat = F + n := by omega
    have i18 : ((n : Int) == 0) = false := by rw [beq_eq_false_iff_ne]; omega
    have i19 : ¬ ((F : Int) < 0) := by omega
    have i20 : ¬ (N < F + n) := by omega
    have G5 := Lib.hid g5
    have HR := Lib.hid hR
    have HA := Lib.hid hA
    clear h0 h1 hlR hlA hmA hRn hA0 hF hn1 hZ g5 hR hA hnL hn
    go_enter Tryz.func33, Tryz.ntmps33
    go_wp2
    go_quiet (fail)
    go_wp2
    generalize hwq : World.drewN w _ = wq
    have hBq : Below w.heap.size w wq := by rw [← hwq]; exact below_drewN (Below.refl _ _) _
    have x0' := (hBq.cell (p := ⟨bR, oR, none⟩) (cell_lt x0)).trans x0
    have x1' := (hBq.cell (p := ⟨bR, oR + n1 * 2, none⟩) (cell_lt x1)).trans x1
    have y0' := (hBq.cell (p := ⟨bA, oA, none⟩) (cell_lt y0)).trans y0
    clear x0 x1 y0 hwq
    go_quiet (fail)
    go_wp2_with fail
    generalize hwv : World.drewN wq _ = wv
    have hBv : Below w.heap.size w wv := by rw [← hwv]; exact below_drewN hBq _
    have hdr : RecRd wv (some ⟨bA, oA + F * 2, none⟩) ((XA.drop F).take n) := ((HA.out.dropT F cA (by rw [HlA.out]; exact hcA) (by rw [if_neg (by omega)]; simp [Addr.add_lit])).take n).below hBv
    refine (SameRecs_yes wv (some ⟨bR, oR, none⟩) (some ⟨bA, oA + F * 2, none⟩) n cR (cA - F) XR ((XA.drop F).take n) (HR.out.below hBv) hdr HlR.out (by rw [List.length_take, List.length_drop, HlA.out]; omega) (by omega) (by rw [G5.out, List.map_take, List.map_drop, HmA.out])).mono ?_
    rintro e w' ⟨rfl, hB⟩
    go_wp2
    go_ret
    exact ⟨rfl, hBv.trans (hB.mono hBv.size)⟩
end Go.Proofs.YtbiadclmonakkaaGreatDoor
