/-
  Package bytes: what GetUint, GetBlob tell.
-/
import Derived.Outline
import Derived.BigQuiet
import Derived.Deep.RegionHeld3
import Derived.Test.YtnagejhpdhdpfaaGreatDoorByt1
import Derived.Test.YtnagejhpdhdpfaaGreatDoorRoot0
namespace Go.Proofs.YtnagejhpdhdpfaaGreatDoor
open Go.RowKit Go.Maps Go.MapKept

/-- a part of a slice. -/
theorem rd_none (w : World) (a : Option Addr) : Rd w (.slice a 0 0) [] := by
  cases a with
  | none => exact Or.inl ⟨Or.inl rfl, rfl⟩
  | some ad => exact Or.inl ⟨Or.inr ⟨_, _, rfl⟩, rfl⟩
theorem rd_sub {w : World} {a : Option Addr} {n c : Nat} {xs : List Value} (hr : Rd w (.slice a n c) xs) (lo m : Nat) (h : lo + m ≤ n) (hne : ¬ c = lo) : Rd w (.slice (a.map (fun x => x.add lo)) m (c - lo)) ((xs.drop lo).take m) := by
  rcases hr with ⟨h1 | ⟨ad, c', h1⟩, h0⟩ | ⟨b, off, n', c', h1, hl, hcell⟩
  · cases h1; exact absurd (by omega : (0 : Nat) = lo) hne
  · cases h1
    obtain rfl : m = 0 := by omega
    exact Or.inl ⟨Or.inr ⟨_, _, rfl⟩, by simp⟩
  · cases h1
    refine Or.inr ⟨b, off + lo, m, c - lo, by simp [Addr.add_lit], by simp; omega, fun j u hj => ?_⟩
    rw [List.getElem?_take] at hj
    split at hj
    · rw [List.getElem?_drop] at hj
      rw [Nat.add_assoc]; exact hcell _ _ hj
    · cases hj
theorem rd_prefix {w : World} {a : Option Addr} {n c : Nat} {xs : List Value} (hr : Rd w (.slice a n c) xs) (m : Nat) (h : m ≤ n) : Rd w (.slice a m c) (xs.take m) := by
  rcases hr with ⟨h1 | ⟨ad, c', h1⟩, h0⟩ | ⟨b, off, n', c', h1, hl, hcell⟩
  · cases h1
    obtain rfl : m = 0 := by omega
    exact Or.inl ⟨Or.inl rfl, by simp⟩
  · cases h1
    obtain rfl : m = 0 := by omega
    exact Or.inl ⟨Or.inr ⟨_, _, rfl⟩, by simp⟩
  · cases h1
    refine Or.inr ⟨b, off, m, _, rfl, by simp; omega, fun j u hj => ?_⟩
    rw [List.getElem?_take] at hj
    split at hj
    · exact hcell _ _ hj
    · cases hj

theorem vVal_drop_le (l : List UInt8) (k : Nat) : vVal (l.drop k) ≤ vVal l := by
  have h := vVal_app (l.take k) (l.drop k)
  rw [List.take_append_drop] at h
  have : 1 * vVal (l.drop k) ≤ 128 ^ (l.take k).length * vVal (l.drop k) := Nat.mul_le_mul_right _ (Nat.pow_pos (by omega))
  omega
def guErr (l : List UInt8) : Int := (gU l).1
def guVal (l : List UInt8) : Nat := (gU l).2.1
def guNext (l : List UInt8) (at_ : Nat) : Int := if (gU l).1 = 0 then at_ + (gU l).2.2 else 0
theorem gu_none {l : List UInt8} (h : (l.take 10).findIdx? (fun x => decide (x.toNat < 128)) = none) : gU l = (if l.length < 10 then 11 else 10, 0, 0) := by
  unfold gU; rw [h]; simp only; split <;> rfl
theorem gu_bad {l : List UInt8} {e : Nat} (h : (l.take 10).findIdx? (fun x => decide (x.toNat < 128)) = some e) (hb : (0 < e ∧ (l.getD e 0).toNat = 0) ∨ (e = 9 ∧ 1 < (l.getD e 0).toNat)) : gU l = (10, 0, 0) := by
  unfold gU; rw [h]; simp only; rw [if_pos hb]
theorem gu_good {l : List UInt8} {e : Nat} (h : (l.take 10).findIdx? (fun x => decide (x.toNat < 128)) = some e) (hb : ¬ ((0 < e ∧ (l.getD e 0).toNat = 0) ∨ (e = 9 ∧ 1 < (l.getD e 0).toNat))) : gU l = (0, vVal (l.take (e + 1)), e + 1) := by
  unfold gU; rw [h]; simp only; rw [if_neg hb]

def GuPost (l : List UInt8) (at_ : Nat) (w : World) (e : Ending) (w' : World) : Prop :=
  e = .returned (.tuple #[.int .u64 (guVal l), .int .i64 (guNext l at_), .int .i64 (guErr l)]) ∧ Below w.heap.size w w'

set_option maxRecDepth 100000 in
set_option maxHeartbeats 4000000 in
theorem gu_end (w : World) (v : Value) (l : List UInt8) (hv : Rd w v (bcells l)) (hcap : CapOk v) (hl : l.length ≤ 140737488355328) :
    Calls Tryz.prog 45 #[v, .int .i64 l.length] w (GuPost [] l.length w) := by
  obtain ⟨a, c, rfl⟩ := hv.shape
  obtain ⟨_, _, _, he, hnc, hcm⟩ := hcap
  cases he
  rw [bcells_length] at hv hnc ⊢
  simp only [maxLen] at hcm
  have hno : ∀ (x : Option Addr) (cc : Nat), (x = none → cc = 0) → Rd w (.slice x 0 cc) (bcells []) := fun x cc hx => by
    cases x with
    | none => rw [hx rfl]; exact Or.inl ⟨Or.inl rfl, rfl⟩
    | some ad => exact Or.inl ⟨Or.inr ⟨_, _, rfl⟩, rfl⟩
  have hc0 : a = none → c = 0 := by
    rintro rfl
    rcases hv with ⟨h | ⟨_, _, h⟩, _⟩ | ⟨_, _, _, _, h, _⟩
    · simp only [Value.slice.injEq] at h; exact h.2.2
    · cases h
    · cases h
  have hmin : min ((l.length : Int) + 10) (l.length : Int) = l.length := by omega
  clear hv
  by_cases hca : c = l.length
  · subst hca
    go_enter Tryz.func45, Tryz.ntmps45
    go_wp2_with (go_at_call 85; refine (slIndexFunc_any _ _ [] (hno _ _ (fun h => by have := hc0 h; omega)) (by simp)).mono ?_; rintro e w1 ⟨rfl, rfl⟩)
    go_ret3
    exact ⟨rfl, Below.refl _ _⟩
  · go_enter Tryz.func45, Tryz.ntmps45
    go_wp2_with (go_at_call 85; refine (slIndexFunc_any _ _ [] (hno _ _ (fun h => by have := hc0 (by simpa using h); omega)) (by simp)).mono ?_; rintro e w1 ⟨rfl, rfl⟩)
    go_ret3
    exact ⟨rfl, Below.refl _ _⟩

set_option maxRecDepth 100000 in
set_option maxHeartbeats 8000000 in
theorem gu_more (w : World) (b off c at_ : Nat) (l : List UInt8) (hv : Rd w (.slice (some ⟨b, off, none⟩) l.length c) (bcells l)) (hnc : l.length ≤ c) (hat : at_ < l.length) (hl : l.length ≤ 140737488355328) :
    Calls Tryz.prog 45 #[.slice (some ⟨b, off, none⟩) l.length c, .int .i64 at_] w (GuPost (l.drop at_) at_ w) := by
  obtain ⟨hi, hhi, hhi1, hhi2⟩ : ∃ hi : Nat, min ((at_ : Int) + 10) (l.length : Int) = hi ∧ at_ < hi ∧ hi ≤ l.length := by
    by_cases h : at_ + 10 ≤ l.length
    · exact ⟨at_ + 10, by omega, by omega, by omega⟩
    · exact ⟨l.length, by omega, by omega, by omega⟩
  obtain ⟨N, hN⟩ : ∃ N, hi - at_ = N := ⟨_, rfl⟩
  obtain ⟨r, hr⟩ : ∃ r, (l.drop at_).take 10 = r := ⟨_, rfl⟩
  have hrN : r.length = N := by rw [← hr]; simp; omega
  have hr0 : Rd w (.slice (some ⟨b, off + at_, none⟩) N (c - at_)) (bcells r) := by
    rcases hv with ⟨h | ⟨_, _, h⟩, h0⟩ | ⟨b', o', n', c', h, _, hc⟩
    · cases h
    · simp [bcells] at h0; subst h0; simp at hat
    · cases h
      refine Or.inr ⟨b, off + at_, N, c - at_, rfl, by rw [bcells_length, hrN], fun j u hj => ?_⟩
      rw [Nat.add_assoc]
      apply hc
      rw [← hr, bcells_take, show bcells (l.drop at_) = (bcells l).drop at_ by simp [bcells]] at hj
      rw [List.getElem?_take] at hj
      split at hj
      · rwa [List.getElem?_drop] at hj
      · cases hj
  have hN10 : N ≤ 10 := by omega
  have hN0 : 0 < N := by omega
  have hca : ¬ c = at_ := by omega
  have hlong : (l.drop at_).length < 10 ↔ N < 10 := by rw [← hrN, ← hr]; simp; omega
  have Hr0 := Lib.hid hr0
  have Hlong := Lib.hid hlong
  have Hr := Lib.hid hr
  have HrN := Lib.hid hrN
  clear hv hr0 hr hrN hlong
  obtain ⟨ix, hix⟩ : ∃ ix, idxF r = ix := ⟨_, rfl⟩
  cases hfi : r.findIdx? (fun x => decide (x.toNat < 128)) with
  | none =>
    have hi1 : ix = -1 := by rw [← hix]; unfold idxF; rw [hfi]
    have hgu := gu_none (l := l.drop at_) (by rw [Hr.out]; exact hfi)
    subst hi1
    have Hix := Lib.hid hix
    have Hgu := Lib.hid hgu
    clear hix hgu hfi
    by_cases h10 : (N : Int) < 10
    · have hfin : gU (l.drop at_) = (11, 0, 0) := by rw [Hgu.out, if_pos (Hlong.out.2 (by omega))]
      have Hfin := Lib.hid hfin
      clear hfin
      go_enter Tryz.func45, Tryz.ntmps45
      go_wp2_with (go_at_call 85; refine (slIndexFunc_any _ _ r Hr0.out (by rw [HrN.out]; omega)).mono ?_; rw [Hix.out]; rintro e w1 ⟨rfl, rfl⟩)
      go_ret3
      exact ⟨by unfold guVal guNext guErr; rw [Hfin.out]; rfl, Below.refl _ _⟩
    · have hfin : gU (l.drop at_) = (10, 0, 0) := by rw [Hgu.out, if_neg (fun h => by have := Hlong.out.1 h; omega)]
      have Hfin := Lib.hid hfin
      clear hfin
      go_enter Tryz.func45, Tryz.ntmps45
      go_wp2_with (go_at_call 85; refine (slIndexFunc_any _ _ r Hr0.out (by rw [HrN.out]; omega)).mono ?_; rw [Hix.out]; rintro e w1 ⟨rfl, rfl⟩)
      go_ret3
      exact ⟨by unfold guVal guNext guErr; rw [Hfin.out]; rfl, Below.refl _ _⟩
  | some e =>
    have hi1 : ix = e := by rw [← hix]; unfold idxF; rw [hfi]
    have hfi' : ((l.drop at_).take 10).findIdx? (fun x => decide (x.toNat < 128)) = some e := by rw [Hr.out]; exact hfi
    have heN : e < N := by
      have := (List.findIdx?_eq_some_iff_getElem.1 hfi).1
      rw [HrN.out] at this
      exact this
    have her : e < r.length := by rw [HrN.out]; exact heN
    have hcells : ∀ j (hj : j < r.length), w.cell? ⟨b, off + at_ + j, none⟩ = some (.int .u8 (r[j].toNat : Int)) := by
      intro j hj
      rcases Hr0.out with ⟨_, h0⟩ | ⟨b', o', n', c', h, _, hc⟩
      · simp [bcells] at h0; subst h0; simp at hj
      · cases h; exact hc j _ (bcells_at hj)
    have hre : (l.drop at_).getD e 0 = r[e] := by
      have : (l.drop at_)[e]? = r[e]? := by rw [← Hr.out, List.getElem?_take, if_pos (by omega)]
      rw [List.getD_eq_getElem?_getD, this, List.getElem?_eq_getElem her]; rfl
    have htake : (l.drop at_).take (e + 1) = r.take (e + 1) := by rw [← Hr.out, List.take_take, Nat.min_eq_left (by omega)]
    have Hcells := Lib.hid hcells
    have hce := hcells e her
    obtain ⟨y, hy⟩ : ∃ y, r[e] = y := ⟨_, rfl⟩
    rw [hy] at hce hre
    have hbad := gu_bad hfi'
    have hgood := gu_good hfi'
    rw [hre] at hbad hgood
    subst hi1
    have Hix := Lib.hid hix
    have Hbad := Lib.hid hbad
    have Hgood := Lib.hid hgood
    have Htake := Lib.hid htake
    clear hix hfi hfi' hy hre hbad hgood hcells htake
    have hyl := y.toNat_lt
    by_cases hb1 : 0 < e ∧ y.toNat = 0
    · have hfin := Hbad.out (Or.inl hb1)
      obtain ⟨he0, hy0⟩ := hb1
      have hyb : ((y.toNat : Int) == 0) = true := by simp [hy0]
      have Hfin := Lib.hid hfin
      clear hfin hy0
      go_enter Tryz.func45, Tryz.ntmps45
      go_wp2_with (go_at_call 85; refine (slIndexFunc_any _ _ r Hr0.out (by rw [HrN.out]; omega)).mono ?_; rw [Hix.out]; rintro e w1 ⟨rfl, rfl⟩)
      go_ret3
      exact ⟨by unfold guVal guNext guErr; rw [Hfin.out]; rfl, Below.refl _ _⟩
    · by_cases hb2 : e = 9 ∧ 1 < y.toNat
      · have hfin := Hbad.out (Or.inr hb2)
        obtain ⟨rfl, hy1⟩ := hb2
        have hy1' : (1 : Int) < (y.toNat : Int) := by omega
        have hyb : ((y.toNat : Int) == 0) = false := by
          simp only [beq_eq_false_iff_ne, ne_eq]; omega
        have Hfin := Lib.hid hfin
        clear hfin hb1
        go_enter Tryz.func45, Tryz.ntmps45
        go_wp2_with (go_at_call 85; refine (slIndexFunc_any _ _ r Hr0.out (by rw [HrN.out]; omega)).mono ?_; rw [Hix.out]; rintro e w1 ⟨rfl, rfl⟩)
        go_ret3
        exact ⟨by unfold guVal guNext guErr; rw [Hfin.out]; rfl, Below.refl _ _⟩
      · have hfin := Hgood.out (by rintro (h | h); exact hb1 h; exact hb2 h)
        rw [Htake.out] at hfin
        obtain ⟨l2, hl2⟩ : ∃ l2, r.take (e + 1) = l2 := ⟨_, rfl⟩
        rw [hl2] at hfin
        have hl2l : l2.length = e + 1 := by rw [← hl2]; simp; omega
        have hl2c : ∀ j (hj : j < l2.length), w.cell? ⟨b, off + at_ + j, none⟩ = some (.int .u8 (l2[j].toNat : Int)) := by
          intro j hj
          have : l2[j] = r[j]'(by omega) := by simp only [← hl2, List.getElem_take]
          rw [this]
          exact Hcells.out j _
        have hlt64 : vVal l2 < 18446744073709551616 := (gU_ok hfin).2.2.2.2
        have Hl2c := Lib.hid hl2c
        have Hfin := Lib.hid hfin
        have Hl2l := Lib.hid hl2l
        clear hl2 hl2c hl2l
        have hcases : (¬ (0 : Int) < (e : Int) ∧ ((e : Int) == 9) = false) ∨ ((0 : Int) < (e : Int) ∧ ((y.toNat : Int) == 0) = false ∧ ((e : Int) == 9) = false) ∨ ((0 : Int) < (e : Int) ∧ ((y.toNat : Int) == 0) = false ∧ ((e : Int) == 9) = true ∧ ¬ (1 : Int) < (y.toNat : Int)) := by
          have hy0 : 0 < e → ((y.toNat : Int) == 0) = false := fun h => by
            simp only [beq_eq_false_iff_ne, ne_eq]
            intro e0
            exact hb1 ⟨h, by omega⟩
          by_cases h0 : e = 0
          · exact Or.inl ⟨by omega, by subst h0; rfl⟩
          · by_cases h9 : e = 9
            · exact Or.inr (Or.inr ⟨by omega, hy0 (by omega), by subst h9; rfl, fun h => hb2 ⟨h9, by omega⟩⟩)
            · exact Or.inr (Or.inl ⟨by omega, hy0 (by omega), by simp only [beq_eq_false_iff_ne, ne_eq]; omega⟩)
        clear hb1 hb2
        rcases hcases with ⟨h0, h9⟩ | ⟨h0, hy0, h9⟩ | ⟨h0, hy0, h9, hy1⟩
        all_goals
          go_enter Tryz.func45, Tryz.ntmps45
          go_wp2_with (go_at_call 85; refine (slIndexFunc_any _ _ r Hr0.out (by rw [HrN.out]; omega)).mono ?_; rw [Hix.out]; rintro e w1 ⟨rfl, rfl⟩)
          go_loop [9, 60] (fun n i => ∃ k : Nat, k ≤ e + 1 ∧ i = .int .i64 k ∧ n = .int .u64 (vVal (l2.drop (e + 1 - k)))) (fun _ i => e + 1 - (intOf i).toNat)
          case atStart => exact ⟨0, by omega, rfl, by rw [List.drop_of_length_le (by rw [Hl2l.out]; omega)]; rfl⟩
          case round =>
            obtain ⟨k, hk, rfl, rfl⟩ := hrel
            by_cases hlt : k < e + 1
            · obtain ⟨j, hj⟩ : ∃ j : Nat, (e : Int) - k = j := ⟨e - k, by omega⟩
              have hjl : j < l2.length := by rw [Hl2l.out]; omega
              have hcj := Hl2c.out j hjl
              have hd1 : vVal (l2.drop j) = l2[j].toNat % 128 + 128 * vVal (l2.drop (j + 1)) := by rw [List.drop_eq_getElem_cons hjl]; rfl
              have hd2 := vVal_drop_le l2 j
              obtain ⟨x, hx⟩ : ∃ x, l2[j] = x := ⟨_, rfl⟩
              rw [hx] at hcj hd1
              have hk1 : e + 1 - k = j + 1 := by omega
              have hk2 : e + 1 - (k + 1) = j := by omega
              rw [hk1]
              obtain ⟨V, hV⟩ : ∃ V, vVal (l2.drop (j + 1)) = V := ⟨_, rfl⟩
              obtain ⟨V', hV'⟩ : ∃ V', vVal (l2.drop j) = V' := ⟨_, rfl⟩
              rw [hV] at hd1 ⊢
              rw [hV'] at hd1 hd2
              have hb1 : V * 128 + x.toNat % 128 < 18446744073709551616 := by omega
              have hb2 : (V : Int) * 128 + (x.toNat : Int) % 128 = V' := by omega
              have Hb2 := Lib.hid hb2
              have HV' := Lib.hid hV'
              have Hk2 := Lib.hid hk2
              clear hx hV hV' hk1 hk2 hd1 hd2 hb2
              go_wp2
              go_round
              case rel => exact ⟨k + 1, by omega, by go_num, by rw [Hk2.out, HV'.out, ← Hb2.out]⟩
              case measure => simp [intOf]; omega
            · obtain rfl : k = e + 1 := by omega
              have hall : vVal (l2.drop (e + 1 - (e + 1))) = vVal l2 := by simp
              rw [hall]
              clear hall
              go_wp2
              go_ret3
              exact ⟨by unfold guVal guNext guErr; rw [Hfin.out]; simp; omega, Below.refl _ _⟩

theorem bGetUint_any (w : World) (v : Value) (l : List UInt8) (at_ : Nat) (hv : Rd w v (bcells l)) (hcap : CapOk v) (hat : at_ ≤ l.length) (hl : l.length ≤ 140737488355328) :
    Calls Tryz.prog 45 #[v, .int .i64 at_] w (GuPost (l.drop at_) at_ w) := by
  by_cases h : at_ = l.length
  · subst h
    rw [List.drop_length]
    exact gu_end w v l hv hcap hl
  · obtain ⟨a, c, rfl⟩ := hv.shape
    obtain ⟨_, _, _, he, hnc, hcm⟩ := hcap
    cases he
    rw [bcells_length] at hv hnc ⊢
    have : ∃ b off, a = some ⟨b, off, none⟩ := by
      rcases hv with ⟨h1 | ⟨ad, c', h1⟩, h0⟩ | ⟨b, off, n', c', h1, _⟩
      · simp [bcells] at h0; subst h0; exact absurd (by simpa using hat) h
      · simp [bcells] at h0; subst h0; exact absurd (by simpa using hat) h
      · cases h1; exact ⟨b, off, rfl⟩
    obtain ⟨b, off, rfl⟩ := this
    exact gu_more w b off c at_ l hv hnc (by omega) hl

end Go.Proofs.YtnagejhpdhdpfaaGreatDoor
