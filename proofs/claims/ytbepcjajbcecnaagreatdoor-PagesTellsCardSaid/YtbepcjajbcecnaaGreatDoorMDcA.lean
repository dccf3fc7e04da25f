/-
  The document's digits: Dec.
-/
import Derived.Outline
import Derived.Test.YtbepcjajbcecnaaGreatDoorMPmA
import Derived.Test.YtbepcjajbcecnaaGreatDoorMPgB
import Derived.Deep.AppendLies
import Derived.Test.YtbepcjajbcecnaaGreatDoorMRfB
import Derived.Test.YtbepcjajbcecnaaGreatDoorMRcA
namespace Go.Proofs.YtbepcjajbcecnaaGreatDoor
open Go.RowKit Go.Maps Go.MapKept

def ten10 : ByteArray := ⟨#[48, 49, 50, 51, 52, 53, 54, 55, 56, 57]⟩
theorem ten10_cut (d : Nat) (h : d < 10) : ten10.extract d (d + 1) = ⟨#[UInt8.ofNat (48 + d)]⟩ := by
  rcases (by omega : d = 0 ∨ d = 1 ∨ d = 2 ∨ d = 3 ∨ d = 4 ∨ d = 5 ∨ d = 6 ∨ d = 7 ∨ d = 8 ∨ d = 9) with rfl | rfl | rfl | rfl | rfl | rfl | rfl | rfl | rfl | rfl <;> decide
theorem dec_step (k : Nat) : Lib.decDigits k = (if k / 10 = 0 then [] else Lib.decDigits (k / 10)) ++ [UInt8.ofNat (48 + k % 10)] := by
  by_cases h : k < 10
  · rw [Lib.decDigits_one h, if_pos (by omega), Nat.mod_eq_of_lt h]; rfl
  · rw [if_neg (by omega)]
    conv => lhs; rw [Lib.decDigits, dif_neg h]
def DecSt (n k : Nat) (s : List UInt8) : Prop := Lib.decDigits n = (if k = 0 then [] else Lib.decDigits k) ++ s
theorem DecSt.first (n : Nat) : DecSt n (n / 10) [UInt8.ofNat (48 + n % 10)] := dec_step n
theorem DecSt.next {n k : Nat} {s : List UInt8} (h : DecSt n k s) (hk : k ≠ 0) : DecSt n (k / 10) (UInt8.ofNat (48 + k % 10) :: s) := by
  unfold DecSt at h ⊢
  rw [h, if_neg hk]
  conv => lhs; rw [dec_step k]
  simp
theorem DecSt.done {n : Nat} {s : List UInt8} (h : DecSt n 0 s) : s = Lib.decDigits n := by
  unfold DecSt at h
  rw [h, if_pos rfl]; rfl
theorem cons_bytes (c : UInt8) (y : ByteArray) : ((⟨#[c]⟩ : ByteArray) ++ y).data.toList = c :: y.data.toList := by
  simp
theorem DecSt.short {n k : Nat} {s : List UInt8} (h : DecSt n k s) (hn : n ≤ 9007199254740993) : s.length ≤ 16 := by
  have h1 := congrArg List.length h
  have h2 := nDig_le n 16 (by omega) (Nat.lt_of_le_of_lt hn (by decide))
  rw [List.length_append, Lib.decDigits_length] at h1
  omega
set_option maxRecDepth 100000 in
set_option maxHeartbeats 2000000 in
theorem x4Dec_any (w : World) (n : Nat) (hn : n ≤ 9007199254740993) : Calls Tryz.prog 112 #[.int .i64 n] w fun e w' => e = .returned (.string ⟨(Lib.decDigits n).toArray⟩) ∧ w = w' := by
  have h0 := DecSt.first n
  obtain ⟨d, hd⟩ : ∃ d, n % 10 = d := ⟨_, rfl⟩
  have hd10 : d < 10 := by omega
  have hm : (n : Int) % 10 = d := by omega
  have hdi : (d : Int) < 10 := by omega
  have hc := ten10_cut d hd10
  unfold ten10 at hc
  rw [hd] at h0
  have H0 := Lib.hid h0
  have Hc := Lib.hid hc
  clear hc h0
  go_enter Tryz.func112, Tryz.ntmps112
  go_wp2
  clear hm hdi
  go_loop [0, 3] (fun nv sv => ∃ (k : Nat) (y : ByteArray), k ≤ n ∧ nv = .int .i64 k ∧ sv = .string y ∧ DecSt n k y.data.toList) (fun nv _ => (intOf nv).toNat)
  case atStart => exact ⟨n / 10, _, by omega, rfl, by rw [Hc.out], H0.out⟩
  case round =>
    obtain ⟨k, y, hk, rfl, rfl, hst⟩ := hrel
    have hsz : y.size ≤ 100 := Nat.le_trans (show y.data.toList.length ≤ 16 from hst.short hn) (by omega)
    have Hst := Lib.hid hst
    clear hst
    by_cases hk0 : k = 0
    · subst hk0
      go_wp2
      go_ret
      refine ⟨?_, rfl⟩
      show Ending.returned (Value.string y) = _
      rw [← Hst.out.done]
    · obtain ⟨d', hd'⟩ : ∃ d', k % 10 = d' := ⟨_, rfl⟩
      have hd10' : d' < 10 := by omega
      have hm' : (k : Int) % 10 = d' := by omega
      have hdi' : (d' : Int) < 10 := by omega
      have hkp : (0 : Int) < k := by omega
      have hc' := ten10_cut d' hd10'
      have hnx := Hst.out.next hk0
      rw [hd'] at hnx
      obtain ⟨cc, hcc⟩ : ∃ cc, UInt8.ofNat (48 + d') = cc := ⟨_, rfl⟩
      rw [hcc] at hc' hnx
      unfold ten10 at hc'
      rw [← cons_bytes cc y] at hnx
      obtain ⟨x, hx⟩ : ∃ x, (⟨#[cc]⟩ : ByteArray) = x := ⟨_, rfl⟩
      have hx1 : x.size = 1 := by rw [← hx]; rfl
      rw [hx] at hc' hnx
      have Hnx := Lib.hid hnx
      clear hd' hcc hx hnx
      go_wp2
      go_round
      case rel => exact ⟨k / 10, x ++ y, by omega, rfl, rfl, Hnx.out⟩
      case measure => simp [intOf]; omega
end Go.Proofs.YtbepcjajbcecnaaGreatDoor

/-
  The document's pages: the number of a file's name, plainly. No program here.
-/
namespace Go.Proofs.YtbepcjajbcecnaaGreatDoor
open Go.Lib

/-- the number of a file whose name is that letter and digits. -/
def rNum (s : ByteArray) (c : UInt8) : Nat := match pgNum s with | some (x, n) => if x = c then n else 0 | none => 0
theorem rNum_zero {s : ByteArray} {c : UInt8} (h : ∀ n, 1 ≤ n → n ≤ 9007199254740992 → s ≠ pgName c n) : rNum s c = 0 := by
  unfold rNum
  split
  · rename_i x n hp
    obtain ⟨h1, h2, h3, h4⟩ := pgNum_some hp
    split
    · rename_i hx; subst hx; exact absurd h1 (h n h3 h4)
    · rfl
  · rfl
theorem rNum_name {c : UInt8} {n : Nat} (hc : c = 105 ∨ c = 99) (h0 : 1 ≤ n) (h1 : n ≤ 9007199254740992) : rNum (pgName c n) c = n := by
  unfold rNum; rw [pgNum_name hc h0 h1]; simp
theorem dec_head (n : Nat) (h : 1 ≤ n) : ∀ c r, decDigits n = c :: r → c ≠ 48 := by
  induction n using Nat.strongRecOn with
  | _ n ih =>
    intro c r hc
    rw [dec_step] at hc
    by_cases h10 : n / 10 = 0
    · rw [if_pos h10] at hc
      simp only [List.nil_append, List.cons.injEq] at hc
      rw [← hc.1]
      intro e
      have := congrArg UInt8.toNat e
      simp at this
      omega
    · rw [if_neg h10] at hc
      cases hd : decDigits (n / 10) with
      | nil => exact absurd hd (dec_ne _)
      | cons a b =>
        rw [hd] at hc
        simp only [List.cons_append, List.cons.injEq] at hc
        rw [← hc.1]
        exact ih (n / 10) (by omega) (by omega) a b hd
/-- digits that have been read: n is their number. -/
structure NumSt (r : List UInt8) (i n : Nat) : Prop where
  one : i = 1 → n = 0
  dec : 1 < i → 0 < n ∧ decDigits n = r.take (i - 1)
  lt : n < 10 ^ (i - 1)
theorem NumSt.start (r : List UInt8) : NumSt r 1 0 := ⟨fun _ => rfl, fun h => by omega, by simp⟩
theorem NumSt.next {r : List UInt8} {i n : Nat} {x : UInt8} (h : NumSt r i n) (hi : 1 ≤ i) (hx : r[i - 1]? = some x) (h0 : 48 ≤ x.toNat) (h9 : x.toNat ≤ 57) (hz : ¬ (i = 1 ∧ x.toNat = 48)) : NumSt r (i + 1) (10 * n + (x.toNat - 48)) := by
  have hp : 10 ^ (i + 1 - 1) = 10 * 10 ^ (i - 1) := by rw [show i + 1 - 1 = (i - 1) + 1 by omega, Nat.pow_succ, Nat.mul_comm]
  have hxx : UInt8.ofNat (48 + (x.toNat - 48)) = x := by rw [show 48 + (x.toNat - 48) = x.toNat by omega]; simp
  refine ⟨fun e => by omega, fun _ => ?_, by have := h.lt; rw [hp]; omega⟩
  have hlt : i - 1 < r.length := by
    rcases Nat.lt_or_ge (i - 1) r.length with h | h
    · exact h
    · rw [List.getElem?_eq_none h] at hx; cases hx
  have htk : r.take (i + 1 - 1) = r.take (i - 1) ++ [x] := by
    rw [show i + 1 - 1 = (i - 1) + 1 by omega, List.take_add_one, hx]; rfl
  by_cases h1 : i = 1
  · subst h1
    have := h.one rfl
    subst this
    refine ⟨by omega, ?_⟩
    rw [htk, dec_step, if_pos (by omega), show (10 * 0 + (x.toNat - 48)) % 10 = x.toNat - 48 by omega, hxx]
    simp
  · obtain ⟨g1, g2⟩ := h.dec (by omega)
    refine ⟨by omega, ?_⟩
    rw [htk, dec_step, if_neg (by omega), show (10 * n + (x.toNat - 48)) / 10 = n by omega, show (10 * n + (x.toNat - 48)) % 10 = x.toNat - 48 by omega, hxx, g2]
theorem NumSt.fin {s : ByteArray} {c : UInt8} {n : Nat} {r : List UInt8} (hc : c = 105 ∨ c = 99) (hs : s.data.toList = c :: r) (h : NumSt r s.size n) (h2 : 2 ≤ s.size) : rNum s c = if 9007199254740992 < n then 0 else n := by
  obtain ⟨h0, hd⟩ := h.dec (by omega)
  have hl : s.size = r.length + 1 := by rw [← size_list, hs]; rfl
  rw [hl, Nat.add_sub_cancel, List.take_length] at hd
  have hn : s = pgName c n := by
    unfold pgName
    rw [hd, ← hs]
  split
  · refine rNum_zero fun m h3 h4 e => ?_
    have := (pgName_inj (hn.symm.trans e)).2
    omega
  · rw [hn]; exact rNum_name hc h0 (by omega)
theorem rNum_len {s : ByteArray} {c : UInt8} (h : s.size < 2 ∨ 17 < s.size) : rNum s c = 0 := by
  refine rNum_zero fun n h1 h2 e => ?_
  subst e
  have := pgName_size (c := c) h2
  rcases h with h | h
  · have h3 : (decDigits n).length = 0 := by
      have : (pgName c n).size = (decDigits n).length + 1 := by rw [← size_list]; rfl
      omega
    exact dec_ne _ (List.eq_nil_of_length_eq_zero h3)
  · omega
theorem rNum_first {s : ByteArray} {c x : UInt8} {r : List UInt8} (hs : s.data.toList = x :: r) (h : x ≠ c) : rNum s c = 0 := by
  refine rNum_zero fun n h1 h2 e => ?_
  subst e
  have : c :: decDigits n = x :: r := hs
  exact h (List.cons.inj this).1.symm
theorem rNum_digit {s : ByteArray} {c x y : UInt8} {r : List UInt8} {i : Nat} (hs : s.data.toList = y :: r) (hi : 1 ≤ i) (hx : r[i - 1]? = some x) (h : ¬ (48 ≤ x.toNat ∧ x.toNat ≤ 57) ∨ (i = 1 ∧ x.toNat = 48)) : rNum s c = 0 := by
  refine rNum_zero fun n h1 h2 e => ?_
  subst e
  have h3 : c :: decDigits n = y :: r := hs
  have h4 := (List.cons.inj h3).2
  rw [← h4] at hx
  rcases h with h | ⟨rfl, h⟩
  · exact h (dec_digit (List.mem_of_getElem? hx))
  · cases hd : decDigits n with
    | nil => exact dec_ne _ hd
    | cons a b =>
      rw [hd] at hx
      simp at hx
      subst hx
      exact dec_head n h1 a b hd (by apply UInt8.toNat.inj; simpa using h)
end Go.Proofs.YtbepcjajbcecnaaGreatDoor

/-
  The document's pages: names of files, their numbers.
-/
namespace Go.Proofs.YtbepcjajbcecnaaGreatDoor
open Go.RowKit Go.Maps Go.MapKept

set_option maxRecDepth 100000 in
set_option maxHeartbeats 2000000 in
theorem r5Index_any (w : World) (n : Nat) (hn : n ≤ 9007199254740992) : Calls Tryz.prog 75 #[.int .i64 n] w fun e w' => e = .returned (.string (iName n)) ∧ w = w' := by
  have hD := x4Dec_any w n (by omega)
  have hl : (⟨(Lib.decDigits n).toArray⟩ : ByteArray).size ≤ 17 := by
    have := dec_len hn
    show (Lib.decDigits n).toArray.size ≤ 17
    simp only [List.size_toArray]; omega
  have hc := pgName_cat 105 n
  obtain ⟨x, hx⟩ : ∃ x, (⟨(Lib.decDigits n).toArray⟩ : ByteArray) = x := ⟨_, rfl⟩
  rw [hx] at hc hD hl
  have Hc := Lib.hid hc
  clear hx hc
  go_enter Tryz.func75, Tryz.ntmps75
  go_wp2_with fail
  refine hD.mono ?_
  rintro e w1 ⟨rfl, rfl⟩
  dsimp only
  go_wp2
  go_ret
  exact ⟨by unfold iName; rw [← Hc.out]; rfl, rfl⟩
set_option maxRecDepth 100000 in
set_option maxHeartbeats 2000000 in
theorem r5Pack_any (w : World) (n : Nat) (hn : n ≤ 9007199254740992) : Calls Tryz.prog 116 #[.int .i64 n] w fun e w' => e = .returned (.string (cName n)) ∧ w = w' := by
  have hD := x4Dec_any w n (by omega)
  have hl : (⟨(Lib.decDigits n).toArray⟩ : ByteArray).size ≤ 17 := by
    have := dec_len hn
    show (Lib.decDigits n).toArray.size ≤ 17
    simp only [List.size_toArray]; omega
  have hc := pgName_cat 99 n
  obtain ⟨x, hx⟩ : ∃ x, (⟨(Lib.decDigits n).toArray⟩ : ByteArray) = x := ⟨_, rfl⟩
  rw [hx] at hc hD hl
  have Hc := Lib.hid hc
  clear hx hc
  go_enter Tryz.func116, Tryz.ntmps116
  go_wp2_with fail
  refine hD.mono ?_
  rintro e w1 ⟨rfl, rfl⟩
  dsimp only
  go_wp2
  go_ret
  exact ⟨by unfold cName; rw [← Hc.out]; rfl, rfl⟩
set_option maxRecDepth 100000 in
set_option maxHeartbeats 2000000 in
theorem r5number_any (w : World) (s : ByteArray) (c : UInt8) (hc : c = 105 ∨ c = 99) (_hs : s.size ≤ maxLen) : Calls Tryz.prog 118 #[.string s, .int .u8 (c.toNat : Int)] w fun e w' => e = .returned (.int .i64 (rNum s c)) ∧ w = w' := by
  have hcl := c.toNat_lt
  by_cases h2 : s.size < 2
  · have h2i : (s.size : Int) < 2 := by omega
    rw [rNum_len (Or.inl h2)]
    clear h2
    go_enter Tryz.func118, Tryz.ntmps118
    go_wp2
    go_ret
    exact ⟨rfl, rfl⟩
  · by_cases h17 : 17 < s.size
    · have h2i : ¬ (s.size : Int) < 2 := by omega
      have h3i : 17 < (s.size : Int) := by omega
      rw [rNum_len (Or.inr h17)]
      clear h2 h17
      go_enter Tryz.func118, Tryz.ntmps118
      go_wp2
      go_ret
      exact ⟨rfl, rfl⟩
    · have h2i : ¬ (s.size : Int) < 2 := by omega
      have h3i : ¬ 17 < (s.size : Int) := by omega
      have hb0 : byteAt s 0 = s[0] := by simp [byteAt, List.getD, show 0 < s.size by omega]; rfl
      obtain ⟨x, hx⟩ : ∃ x, s[0] = x := ⟨_, rfl⟩
      obtain ⟨r, hr⟩ : ∃ r, s.data.toList.drop 1 = r := ⟨_, rfl⟩
      have hsl : s.data.toList = x :: r := by
        rw [← hr, ← hx]
        have := List.drop_eq_getElem_cons (l := s.data.toList) (i := 0) (by simp; omega)
        rw [List.drop_zero] at this
        exact this
      have hxl := x.toNat_lt
      by_cases hxc : x = c
      · subst hxc
        have H2 := Lib.hid h2
        have Hsl := Lib.hid hsl
        have hq : ((s[0].toNat : Int) != (x.toNat : Int)) = false := by rw [hx]; simp
        clear hsl hr hx hb0
        go_enter Tryz.func118, Tryz.ntmps118
        go_wp2
        clear hq
        go_loopw [5, 6] (fun nv iv wr => ∃ n i : Nat, 1 ≤ i ∧ i ≤ s.size ∧ nv = .int .i64 n ∧ iv = .int .i64 i ∧ NumSt r i n ∧ wr = w) (fun _ iv _ => s.size - (intOf iv).toNat)
        case atStart => exact ⟨0, 1, by omega, by omega, rfl, rfl, NumSt.start r, rfl⟩
        case round =>
          obtain ⟨n, i, hi, his, rfl, rfl, hst, rfl⟩ := hrel
          have Hst := Lib.hid hst
          have hn16 : n < 10 ^ 16 := Nat.lt_of_lt_of_le hst.lt (Nat.pow_le_pow_right (by omega) (by omega))
          have hn16' : n < 10000000000000000 := hn16
          clear hst hn16
          by_cases hlt : i < s.size
          · obtain ⟨y, hy⟩ : ∃ y, s[i] = y := ⟨_, rfl⟩
            have hry : r[i - 1]? = some y := by
              have h1 : s.data.toList[i]? = some y := by rw [← hy]; exact List.getElem?_eq_getElem (by simpa using hlt)
              rw [Hsl.out, show i = (i - 1) + 1 by omega, List.getElem?_cons_succ] at h1
              exact h1
            have hyl := y.toNat_lt
            have Hnx := Lib.hid (fun h0 h9 hz => Hst.out.next hi hry h0 h9 hz)
            have Hbad := Lib.hid (fun h => rNum_digit (c := x) Hsl.out hi hry h)
            clear hry
            by_cases h48 : y.toNat < 48
            · have q1 : (s[i].toNat : Int) < 48 := by rw [hy]; omega
              have Hz := Lib.hid (Hbad.out (Or.inl (by omega)))
              go_wp2
              go_ret
              exact ⟨by rw [Hz.out]; rfl, rfl⟩
            · by_cases h57 : 57 < y.toNat
              · have q1 : ¬ (s[i].toNat : Int) < 48 := by rw [hy]; omega
                have q2 : 57 < (s[i].toNat : Int) := by rw [hy]; omega
                have Hz := Lib.hid (Hbad.out (Or.inl (by omega)))
                go_wp2
                go_ret
                exact ⟨by rw [Hz.out]; rfl, rfl⟩
              · have q1 : ¬ (s[i].toNat : Int) < 48 := by rw [hy]; omega
                have q2 : ¬ 57 < (s[i].toNat : Int) := by rw [hy]; omega
                by_cases h1 : i = 1
                · subst h1
                  by_cases hz : y.toNat = 48
                  · have q3 : ((s[1].toNat : Int) == 48) = true := by rw [hy]; simp; omega
                    have Hz := Lib.hid (Hbad.out (Or.inr ⟨rfl, hz⟩))
                    go_wp2
                    go_ret
                    exact ⟨by rw [Hz.out]; rfl, rfl⟩
                  · have q3 : ((s[1].toNat : Int) == 48) = false := by rw [hy]; simp; omega
                    have q4 : ¬ ((y.toNat : Int) = 48) := by omega
                    have q5 : ((y.toNat : Int) == 48) = false := by simp; omega
                    have hnx := Hnx.out (by omega) (by omega) (fun h => hz h.2)
                    go_wp2
                    go_roundw
                    case rel => exact ⟨10 * n + (y.toNat - 48), 2, by omega, by omega, by congr 1; omega, rfl, hnx, trivial⟩
                    case measure => simp [intOf]; omega
                · have q3 : ((i : Int) == 1) = false := by simp; omega
                  have hnx := Hnx.out (by omega) (by omega) (fun h => h1 h.1)
                  go_wp2
                  go_roundw
                  case rel => exact ⟨10 * n + (y.toNat - 48), i + 1, by omega, by omega, by congr 1; omega, by go_num, hnx, trivial⟩
                  case measure => simp [intOf]; omega
          · obtain rfl : i = s.size := by omega
            have hfin := Hst.out.fin hc Hsl.out (by have := H2.out; omega)
            have Hfin := Lib.hid hfin
            clear hfin
            by_cases hg : 9007199254740992 < n
            · have q1 : 9007199254740992 < (n : Int) := by omega
              go_wp2
              go_ret
              exact ⟨by rw [Hfin.out, if_pos hg]; rfl, rfl⟩
            · have q1 : ¬ 9007199254740992 < (n : Int) := by omega
              go_wp2
              go_ret
              exact ⟨by rw [Hfin.out, if_neg hg]; rfl, rfl⟩
      · have hn := rNum_first (s := s) (c := c) hsl hxc
        have hz : ¬ ((x.toNat : Int) = (c.toNat : Int)) := fun e => hxc (UInt8.toNat.inj (by omega))
        rw [hn]
        have hq : ((s[0].toNat : Int) != (c.toNat : Int)) = true := by rw [hx]; simpa using hz
        clear hn hsl hr hx hb0 hz
        go_enter Tryz.func118, Tryz.ntmps118
        go_wp2
        go_ret
        exact ⟨rfl, rfl⟩
end Go.Proofs.YtbepcjajbcecnaaGreatDoor

/-
  The document's pages: rows of keys; an index's bytes.
-/
namespace Go.Proofs.YtbepcjajbcecnaaGreatDoor
open Go.RowKit Go.Maps Go.MapKept
set_option linter.unusedSimpArgs false

/-- a key of the document's, with the slice of its blob. -/
structure DKey where
  name : ByteArray
  v : Value
  b : List UInt8
  pack : Nat
  pos : Nat
def DKey.cells (x : DKey) : List Value := [.string x.name, x.v, .int .i64 (x.pack : Nat), .int .i64 (x.pos : Nat)]
def DKey.plain (x : DKey) : ByteArray × ABlob := (x.name, ⟨x.b, x.pack, x.pos⟩)
def DKey.ok (w : World) (x : DKey) : Prop := Rd w x.v (bcells x.b)
def flatD (l : List DKey) : List Value := l.flatMap DKey.cells
theorem flatD_cons (a : DKey) (l : List DKey) : flatD (a :: l) = a.cells ++ flatD l := by simp [flatD]
theorem flatD_append (l m : List DKey) : flatD (l ++ m) = flatD l ++ flatD m := by simp [flatD]
theorem flatD_one (c : DKey) : flatD [c] = c.cells := by simp [flatD]
theorem flatD_at (l : List DKey) (k : Nat) (hk : k < l.length) (j : Nat) (hj : j < 4) : (flatD l)[k * 4 + j]? = l[k].cells[j]? := by
  induction l generalizing k with
  | nil => simp at hk
  | cons a l ih =>
    rw [flatD_cons]
    have ha : a.cells.length = 4 := rfl
    cases k with
    | zero => rw [List.getElem?_append_left (by rw [ha]; omega)]; simp
    | succ k =>
      rw [List.getElem?_append_right (by rw [ha]; omega), ha, show (k + 1) * 4 + j - 4 = k * 4 + j by omega, ih k (by simpa using hk)]
      simp
def DKeyQ (w : World) (cs : List Value) (p : ByteArray × ABlob) : Prop := ∃ vb, cs = [.string p.1, vb, .int .i64 (p.2.pack : Nat), .int .i64 (p.2.pos : Nat)] ∧ Rd w vb (bcells p.2.b)
/-- a row of keys of the document's. -/
structure DKeys (w : World) (a : Option Addr) (n c : Nat) (l : List (ByteArray × ABlob)) : Prop where
  row : SliceOf 4 (DKeyQ w) w (.slice a n c) l
  len : n = l.length
theorem DKeys.below {W w : World} {a : Option Addr} {n c : Nat} {l : List (ByteArray × ABlob)} (h : DKeys W a n c l) (hb : Below W.heap.size W w) : DKeys w a n c l := by
  refine ⟨?_, h.len⟩
  rcases h.row with h1 | ⟨b, off, n', c', e, hl, hm, hc⟩
  · exact Or.inl h1
  · refine Or.inr ⟨b, off, n', c', e, hl, hm, fun j q hj => ?_⟩
    obtain ⟨cs, h1, h2, vb, h3, h4⟩ := hc j q hj
    exact ⟨cs, h1, fun i u hu => (hb.cell (p := ⟨b, off + (j * 4 + i), none⟩) (cell_lt (h2 i u hu))).trans (h2 i u hu), vb, h3, rd_low h4 hb⟩
theorem DKeys.nil (w : World) (a : Option Addr) : DKeys w a 0 0 [] := ⟨Or.inl ⟨by cases a <;> first | exact Or.inl rfl | exact Or.inr ⟨_, _, rfl⟩, rfl⟩, rfl⟩
theorem DKeys.at {w : World} {a : Option Addr} {n c : Nat} {l : List (ByteArray × ABlob)} (h : DKeys w a n c l) (k : Nat) (hk : k < l.length) :
    ∃ b off vb, a = some ⟨b, off, none⟩ ∧ w.cell? ⟨b, off + k * 4, none⟩ = some (.string l[k].1) ∧ w.cell? ⟨b, off + k * 4 + 1, none⟩ = some vb ∧ w.cell? ⟨b, off + k * 4 + 2, none⟩ = some (.int .i64 (l[k].2.pack : Nat)) ∧ w.cell? ⟨b, off + k * 4 + 3, none⟩ = some (.int .i64 (l[k].2.pos : Nat)) ∧ Rd w vb (bcells l[k].2.b) := by
  obtain ⟨b, off, ha, cs, _, hc, vb, rfl, hr⟩ := SliceOf.at h.row k hk
  have g0 := hc 0 _ rfl
  have g1 := hc 1 _ rfl
  have g2 := hc 2 _ rfl
  have g3 := hc 3 _ rfl
  rw [Nat.add_zero] at g0
  rw [← Nat.add_assoc] at g1 g2 g3
  exact ⟨b, off, vb, ha, g0, g1, g2, g3, hr⟩
theorem DKeys.of_row {w : World} {base : Nat} {T : TypeId} {a : Option Addr} {n c : Nat} {es : List DKey} {l : List (ByteArray × ABlob)} (h : w.ownsRow base T 4 (.slice a n c) n (flatD es)) (hn : n = es.length) (hm : n ≤ maxLen) (hok : ∀ x ∈ es, x.ok w) (hd : l = es.map DKey.plain) : DKeys w a n c l := by
  refine ⟨?_, by rw [hd, List.length_map, hn]⟩
  rcases h.2 with ⟨h1, h0⟩ | ⟨g, cap, cur, hv, hb, hg, hnc, hcm, hcs, ht⟩
  · subst h0
    have : es = [] := List.eq_nil_of_length_eq_zero hn.symm
    rw [hd, this]
    exact Or.inl ⟨Or.inl h1, rfl⟩
  · refine Or.inr ⟨g, 0, n, cap, hv, by rw [hd, List.length_map, hn], hm, fun j q hj => ?_⟩
    rw [hd, List.getElem?_map] at hj
    have hjl : j < es.length := by
      rcases Nat.lt_or_ge j es.length with h | h
      · exact h
      · rw [List.getElem?_eq_none h] at hj; cases hj
    rw [List.getElem?_eq_getElem hjl] at hj
    simp only [Option.map_some, Option.some.injEq] at hj
    subst hj
    refine ⟨es[j].cells, rfl, fun i u hu => ?_, es[j].v, rfl, hok _ (List.getElem_mem hjl)⟩
    have hi : i < 4 := (List.getElem?_eq_some_iff.1 hu).1
    have h1 := flatD_at es j hjl i hi
    rw [hu, ← ht, List.getElem?_take] at h1
    split at h1
    · rw [cell_at hg, Nat.zero_add]
      simpa using h1
    · cases h1
theorem info_DKey : (Tryz.prog.info? 140).map (fun i => (i.zero, i.size, i.bytes)) = some (some (.agg #[.string ⟨#[]⟩, .slice none 0 0, .int .i64 0, .int .i64 0]), 4, 56) := by kernel_rfl
theorem step_append_key {w : World} {ops : Array Oper} {o : Oper} {a : Act} {K : Act → World → Prop} {Q : Exit → Act → World → Prop} {E : Prop} (hgd : o.guard = none) (s x : Operand)
    (ho : o.op = .call { callee := .builtin .append, args := #[s, x], argTypes := #[79, 79] })
    (base : Nat) (v : Value) (xs : List DKey) (e : DKey) (B m c : Nat) (hm : m = 1) (hs : a.eval s = v) (hown : w.ownsRow base 140 4 v xs.length (flatD xs)) (hx : a.eval x = .slice (some ⟨B, 0, none⟩) m c) (hB : w.heap[B]? = some (.cells ⟨e.cells⟩ 140))
    (h1 : e.v.oneCell' = true) (hl : xs.length ≤ 100000) (hbase : base ≤ w.heap.size) (n' : Nat) (hn' : xs.length + m = n') (H : Nat) (hH : w.heap.size = H)
    (h : ∀ g cap w', w'.ownsRow base 140 4 (.slice (some ⟨g, 0, none⟩) n' cap) n' (flatD (xs ++ [e])) → w.grownBy w' v.ownBlock → (v.ownBlock = some g ∨ g = H) → K (a.put o.dst (.slice (some ⟨g, 0, none⟩) n' cap)) w') :
    if Region.wanted o (yielded ops a.tmps) = true then Oper.wp Tryz.prog o a w K Q else E := by
  subst hm hn'
  obtain ⟨i0, hi, hz0, hz1, hz2⟩ := info_parts info_DKey
  refine step_append_lies (P := Tryz.prog) _ hgd s x 79 ho base 140 i0 (.agg #[.string ⟨#[]⟩, .slice none 0 0, .int .i64 0, .int .i64 0]) 4 56 Tryz.underlying79 hi hz0 hz1 hz2 rfl (by omega) v xs.length (flatD xs) hs hown ⟨B, 0, none⟩ 1 c e.cells hx rfl (World.news_of_block hB) ?_ (by omega) (by simp only [maxLen]; omega) (by omega) hbase H hH ?_
  · intro u hu
    simp only [DKey.cells, List.mem_cons, List.not_mem_nil, or_false] at hu
    rcases hu with rfl | rfl | rfl | rfl
    · rfl
    · exact h1
    · rfl
    · rfl
  · intro g cap w' h2 h3 h4 _
    refine h g cap w' ?_ h3 h4
    rw [flatD_append, flatD_one]
    exact h2
/-- numbers and bytes behind bytes. -/
theorem uint_rd (w : World) (v : Value) (l r : List UInt8) (n : Nat) (hr : l ++ vint n = r) (hv : Rd w v (bcells l)) (hl : l.length ≤ 1099511627776) (hn : n < 18446744073709551616) :
    Calls Tryz.prog 82 #[v, .int .u64 n] w fun e w' => ∃ a c, e = .returned (.slice a r.length c) ∧ Rd w' (.slice a r.length c) (bcells r) ∧ Below w.heap.size w w' := by
  subst hr
  exact (x1Uint_any w v l n hv hl hn).mono fun e w' ⟨a, c, h1, h2, h3⟩ => ⟨a, c, h1, Rd.ofOwns h2, h3⟩
theorem blob_rd (w : World) (v vb : Value) (l b r : List UInt8) (hr : l ++ (vint b.length ++ b) = r) (hv : Rd w v (bcells l)) (hvb : Rd w vb (bcells b)) (hl : l.length ≤ 1000000000) (hb : b.length ≤ 1000000000) :
    Calls Tryz.prog 83 #[v, vb] w fun e w' => ∃ a c, e = .returned (.slice a r.length c) ∧ Rd w' (.slice a r.length c) (bcells r) ∧ Below w.heap.size w w' := by
  subst hr
  exact (x1Blob_any w v vb l b hv hvb hl hb).mono fun e w' ⟨a, c, h1, h2, h3⟩ => ⟨a, c, h1, Rd.ofOwns h2, h3⟩
/-- what an index's keys keep to. -/
def KeyB (p : ByteArray × ABlob) : Prop := p.1.size ≤ 60 ∧ p.2.pack ≤ 9007199254740992 ∧ p.2.pos ≤ 9007199254740992 ∧ p.2.b.length ≤ 1048576
theorem entBytes_len {s : ByteArray} {pack pos long : Nat} (h1 : s.size ≤ 60) (h2 : pack ≤ 9007199254740992) (h3 : pos ≤ 9007199254740992) (h4 : long ≤ 1048576) : (entBytes s pack pos long).length ≤ 100 := by
  have e1 : (vint s.size).length ≤ 10 := vint_len (by omega) (Nat.lt_of_le_of_lt h1 (by decide))
  have e2 : (vint pack).length ≤ 10 := vint_len (by omega) (Nat.lt_of_le_of_lt h2 (by decide))
  have e3 : (vint pos).length ≤ 10 := vint_len (by omega) (Nat.lt_of_le_of_lt h3 (by decide))
  have e4 : (vint long).length ≤ 10 := vint_len (by omega) (Nat.lt_of_le_of_lt h4 (by decide))
  unfold entBytes
  simp only [List.length_append, size_list]
  omega
end Go.Proofs.YtbepcjajbcecnaaGreatDoor

/-
  The document's pages: an index's bytes.
-/
namespace Go.Proofs.YtbepcjajbcecnaaGreatDoor
open Go.RowKit Go.Maps Go.MapKept
set_option linter.unusedSimpArgs false

theorem entsOf_take {l : List (ByteArray × ABlob)} {i : Nat} (hi : i < l.length) : entsOf (l.take (i + 1)) = entsOf (l.take i) ++ entBytes l[i].1 l[i].2.pack l[i].2.pos l[i].2.b.length := by
  rw [List.take_succ_eq_append_getElem hi]
  unfold entsOf
  rw [List.flatMap_append]
  simp only [List.flatMap_cons, List.flatMap_nil, List.append_nil]
theorem entsOf_len {l : List (ByteArray × ABlob)} (hb : ∀ p ∈ l, KeyB p) : (entsOf l).length ≤ l.length * 100 := by
  induction l with
  | nil => simp [entsOf]
  | cons p r ih =>
    obtain ⟨h1, h2, h3, h4⟩ := hb p (by simp)
    have := ih (fun q hq => hb q (by simp [hq]))
    have := entBytes_len h1 h2 h3 h4
    rw [entsOf_cons, List.length_append, List.length_cons]
    omega
/-- bytes of an index of which i keys are written. -/
def idxTo (k : Nat) (l : List (ByteArray × ABlob)) (i : Nat) : List UInt8 := magicI ++ (vint k ++ (vint l.length ++ entsOf (l.take i)))
theorem idxTo_len {k : Nat} {l : List (ByteArray × ABlob)} {i : Nat} (hb : ∀ p ∈ l, KeyB p) (hl : l.length ≤ 5000) (hk : k ≤ 9007199254740992) : (idxTo k l i).length ≤ 600000 := by
  have h1 := entsOf_len (l := l.take i) (fun p hp => hb p (List.mem_of_mem_take hp))
  have h2 : (l.take i).length ≤ l.length := by rw [List.length_take]; omega
  have e1 : (vint k).length ≤ 10 := vint_len (by omega) (Nat.lt_of_le_of_lt hk (by decide))
  have e2 : (vint l.length).length ≤ 10 := vint_len (by omega) (Nat.lt_of_le_of_lt hl (by decide))
  unfold idxTo
  simp only [List.length_append, show magicI.length = 4 from rfl]
  omega
theorem idxTo_next {k : Nat} {l : List (ByteArray × ABlob)} {i : Nat} (hi : i < l.length) : (((idxTo k l i ++ (vint l[i].1.data.toList.length ++ l[i].1.data.toList)) ++ vint l[i].2.pack) ++ vint l[i].2.pos) ++ vint l[i].2.b.length = idxTo k l (i + 1) := by
  unfold idxTo
  rw [entsOf_take hi]
  unfold entBytes
  simp only [List.append_assoc, size_list]
theorem magicI_rd (w : World) : Rd (w.alloc (.cells #[.int .u8 72, .int .u8 83, .int .u8 73, .int .u8 49] 5)) (.slice (some ⟨w.heap.size, 0, none⟩) 4 4) (bcells magicI) := by
  refine Or.inr ⟨w.heap.size, 0, 4, 4, rfl, rfl, fun j u hu => ?_⟩
  have hj : j < 4 := (List.getElem?_eq_some_iff.1 hu).1
  rw [Nat.zero_add, cell_at (alloc_at _ _) j]
  rcases (by omega : j = 0 ∨ j = 1 ∨ j = 2 ∨ j = 3) with rfl | rfl | rfl | rfl <;> exact hu
theorem str_rd {w6 : World} {g cc : Nat} {s : ByteArray} (hc : ∀ j, j < s.size → w6.cell? ⟨g, j, none⟩ = some (.int .u8 (byteAt s j).toNat)) : Rd w6 (.slice (some ⟨g, 0, none⟩) s.size cc) (bcells s.data.toList) := by
  refine Or.inr ⟨g, 0, s.size, cc, rfl, by rw [bcells_length]; exact (size_list s).symm, fun j u hu => ?_⟩
  have hj : j < s.data.toList.length := by have := (List.getElem?_eq_some_iff.1 hu).1; rwa [bcells_length] at this
  rw [bcells_at hj] at hu
  cases hu
  rw [Nat.zero_add, hc j (by rwa [size_list] at hj)]
  unfold byteAt
  rw [List.getD_eq_getElem?_getD, List.getElem?_eq_getElem hj]
  rfl
set_option maxRecDepth 100000 in
set_option maxHeartbeats 4000000 in
theorem r5Bytes_any (w : World) (k : Nat) (a : Option Addr) (n c : Nat) (l : List (ByteArray × ABlob)) (h : DKeys w a n c l) (hk : k ≤ 9007199254740992) (hl : l.length ≤ 5000) (hb : ∀ p ∈ l, KeyB p) :
    Calls Tryz.prog 117 #[.int .i64 k, .slice a n c] w fun e w' => ∃ a' c', e = .returned (.slice a' (indexOf k l).length c') ∧ Rd w' (.slice a' (indexOf k l).length c') (bcells (indexOf k l)) ∧ Below w.heap.size w w' := by
  have hn := h.len
  subst hn
  have hlen := fun i => idxTo_len (i := i) hb hl hk
  have hU1 := fun (w : World) (v : Value) (hv : Rd w v (bcells magicI)) => uint_rd w v magicI (magicI ++ vint k) k rfl hv (by decide) (by omega)
  have hm1 : (magicI ++ vint k).length ≤ 1000 := by
    have e1 : (vint k).length ≤ 10 := vint_len (by omega) (Nat.lt_of_le_of_lt hk (by decide))
    rw [List.length_append, show magicI.length = 4 from rfl]; omega
  have h00 : (magicI ++ vint k) ++ vint l.length = idxTo k l 0 := by unfold idxTo; simp [entsOf]
  have hU2 := fun (w : World) (v : Value) (hv : Rd w v (bcells (magicI ++ vint k))) => uint_rd w v (magicI ++ vint k) (idxTo k l 0) l.length h00 hv (by omega) (by omega)
  obtain ⟨m1, hm1e⟩ : ∃ m, magicI ++ vint k = m := ⟨_, rfl⟩
  rw [hm1e] at hU1 hU2
  have hki : (0 : Int) ≤ k := by omega
  clear h00 hm1 hm1e
  go_enter Tryz.func117, Tryz.ntmps117
  go_wp2_with fail
  refine (hU1 _ _ (magicI_rd w)).mono ?_
  rintro e w1 ⟨a1, c1, rfl, hr1, hb1⟩
  have hB1 : Below w.heap.size w w1 := ((Below.refl _ _).alloc (Nat.le_refl _) _).trans (hb1.mono (by simp))
  dsimp only
  go_wp2_with fail
  refine (hU2 _ _ hr1).mono ?_
  rintro e w2 ⟨a2, c2, rfl, hr2, hb2⟩
  have hB2 := hB1.trans (hb2.mono hB1.size)
  dsimp only
  clear hU1 hU2 hr1 hb1 hb2
  go_wp2_with fail
  go_loopw [5, 6] (fun ov iv wr => ∃ (i : Nat) (a5 : Option Addr) (c5 : Nat), i ≤ l.length ∧ ov = .slice a5 (idxTo k l i).length c5 ∧ iv = .int .i64 i ∧ Rd wr ov (bcells (idxTo k l i)) ∧ Below w.heap.size w wr) (fun _ iv _ => l.length - (intOf iv).toNat)
  case atStart => exact ⟨0, a2, c2, by omega, rfl, rfl, hr2, hB2⟩
  case round =>
    obtain ⟨i, a5, c5, hi, rfl, rfl, hr5, hB5⟩ := hrel
    clear hr2 hB2 hB1
    by_cases hlt : i < l.length
    · obtain ⟨b, off, vb, rfl, e0, e1, e2, e3, hrd⟩ := (h.below hB5).at i hlt
      obtain ⟨kb1, kb2, kb3, kb4⟩ := hb _ (List.getElem_mem hlt)
      have hnx := idxTo_next (k := k) hlt
      have hl0 := hlen i
      have hl1 := hlen (i + 1)
      obtain ⟨x, hx⟩ : ∃ x, l[i] = x := ⟨_, rfl⟩
      rw [hx] at e0 e2 e3 hrd kb1 kb2 kb3 kb4 hnx
      obtain ⟨nm, bl, pk, ps⟩ := x
      obtain ⟨av, cv, rfl⟩ := hrd.shape
      rw [bcells_length] at hrd e1
      simp only at e0 e2 e3 hrd kb1 kb2 kb3 kb4 hnx e1
      obtain ⟨o0, ho0⟩ : ∃ o, idxTo k l i = o := ⟨_, rfl⟩
      obtain ⟨o4, ho4⟩ : ∃ o, idxTo k l (i + 1) = o := ⟨_, rfl⟩
      rw [ho0] at hl0 hnx hr5 ⊢
      rw [ho4] at hl1 hnx
      obtain ⟨o1, ho1⟩ : ∃ o, o0 ++ (vint nm.data.toList.length ++ nm.data.toList) = o := ⟨_, rfl⟩
      rw [ho1] at hnx
      obtain ⟨o2, ho2⟩ : ∃ o, o1 ++ vint pk = o := ⟨_, rfl⟩
      rw [ho2] at hnx
      obtain ⟨o3, ho3⟩ : ∃ o, o2 ++ vint ps = o := ⟨_, rfl⟩
      rw [ho3] at hnx
      have q3 : o3.length ≤ 600000 := by have := congrArg List.length hnx; rw [List.length_append] at this; omega
      have q2 : o2.length ≤ 600000 := by have := congrArg List.length ho3; rw [List.length_append] at this; omega
      have q1 : o1.length ≤ 600000 := by have := congrArg List.length ho2; rw [List.length_append] at this; omega
      have qn : nm.data.toList.length ≤ 60 := by rw [size_list]; exact kb1
      have hA := fun (w : World) (v vb : Value) (hv : Rd w v (bcells o0)) (hvb : Rd w vb (bcells nm.data.toList)) => blob_rd w v vb o0 nm.data.toList o1 ho1 hv hvb (by omega) (by omega)
      have hC := fun (w : World) (v : Value) (hv : Rd w v (bcells o1)) => uint_rd w v o1 o2 pk ho2 hv (by omega) (by omega)
      have hD := fun (w : World) (v : Value) (hv : Rd w v (bcells o2)) => uint_rd w v o2 o3 ps ho3 hv (by omega) (by omega)
      have hE := fun (w : World) (v : Value) (hv : Rd w v (bcells o3)) => uint_rd w v o3 o4 bl.length hnx hv (by omega) (by omega)
      have Ho4 := Lib.hid ho4
      clear ho0 ho1 ho2 ho3 hnx hx ho4
      go_wp2_with (refine wpList_str_bytes rfl (.tmp 26) 9 25 5 rfl nm rfl Tryz.underlying9 Tryz.underlying25 Tryz.underlying5 ?_; intro w6 cc hB6 hs6 hc6 hcl6)
      have hb6 : Below w.heap.size w w6 := hB5.trans (hB6.mono hB5.size)
      refine (hA w6 _ _ (hr5.below hB6) (str_rd hcl6)).mono ?_
      rintro e w7 ⟨a7, c7, rfl, hr7, hb7⟩
      have hb67 := hB6.trans (hb7.mono hB6.size)
      have hB7 := hB5.trans (hb67.mono hB5.size)
      have g2 := (hb67.cell (p := ⟨b, off + i * 4 + 2, none⟩) (cell_lt e2)).trans e2
      have g3 := (hb67.cell (p := ⟨b, off + i * 4 + 3, none⟩) (cell_lt e3)).trans e3
      have g1 := (hb67.cell (p := ⟨b, off + i * 4 + 1, none⟩) (cell_lt e1)).trans e1
      dsimp only
      clear hA hr5 hcl6 hB6 hb6 hb7 hs6 hc6
      go_wp2_with fail
      refine (hC _ _ hr7).mono ?_
      rintro e w8 ⟨a8, c8, rfl, hr8, hb8⟩
      have hB8 := hB7.trans (hb8.mono hB7.size)
      have k3 := (hb8.cell (p := ⟨b, off + i * 4 + 3, none⟩) (cell_lt g3)).trans g3
      have k1 := (hb8.cell (p := ⟨b, off + i * 4 + 1, none⟩) (cell_lt g1)).trans g1
      dsimp only
      clear hC hr7 g1 g2 g3 hb8 hb67
      go_wp2_with fail
      refine (hD _ _ hr8).mono ?_
      rintro e w9 ⟨a9, c9, rfl, hr9, hb9⟩
      have hB9 := hB8.trans (hb9.mono hB8.size)
      have m1 := (hb9.cell (p := ⟨b, off + i * 4 + 1, none⟩) (cell_lt k1)).trans k1
      dsimp only
      clear hD hr8 k1 k3 hb9
      go_wp2_with fail
      refine (hE _ _ hr9).mono ?_
      rintro e w10 ⟨a10, c10, rfl, hr10, hb10⟩
      have hB10 := hB9.trans (hb10.mono hB9.size)
      dsimp only
      clear hE hr9 m1 hb10 e0 e1 e2 e3
      go_wp2
      go_roundw
      case rel => exact ⟨i + 1, a10, c10, by omega, by rw [Ho4.out], by go_num, by rw [Ho4.out]; exact hr10, hB10⟩
      case measure => simp [intOf]; omega
    · obtain rfl : i = l.length := by omega
      have hl0 := hlen l.length
      have hix : sealL sumL (idxTo k l l.length) = indexOf k l := by unfold idxTo indexOf; rw [List.take_length]
      have hS := x1Seal_any wr _ _ hr5 (by omega)
      rw [hix] at hS
      clear hix
      go_wp2_with fail
      refine hS.mono ?_
      rintro e w6 ⟨a6, c6, rfl, hr6, hb6⟩
      dsimp only
      go_wp2
      go_ret
      exact ⟨_, _, rfl, Rd.ofOwns hr6, hB5.trans (hb6.mono hB5.size)⟩
end Go.Proofs.YtbepcjajbcecnaaGreatDoor

/-
  The document's pages: what commit answers, plainly; it is what the program loads. No program here.
-/
namespace Go.Proofs.YtbepcjajbcecnaaGreatDoor

instance okB_dec (d : ADisk) (x : AEnt) : Decidable (okB d x) := by unfold okB; infer_instance
/-- entries that were read: their blobs, if all of them lie there and the bytes are the one form. -/
def rKeep (d : ADisk) (k : Nat) (b : List UInt8) (q : Option (List AEnt × List UInt8)) : Option (List (ByteArray × ABlob)) :=
  match q with
  | none => none
  | some (es, _) => if (∀ x ∈ es, okB d x) ∧ indexOf k (blobsB d es) = b then some (blobsB d es) else none
def rIdx (d : ADisk) (k : Nat) (b inn : List UInt8) : Option (List (ByteArray × ABlob)) :=
  if inn.length < 4 then none else
  match gU (inn.drop 4) with
  | (0, _, j) =>
    match gU (inn.drop (4 + j)) with
    | (0, n, j2) => if 4096 < n then none else rKeep d k b (pEnts k n (inn.drop (4 + j + j2)) none)
    | _ => none
  | _ => none
def rCommit (d : ADisk) (k : Nat) : Option (List (ByteArray × ABlob)) :=
  if k = 0 then some [] else if findErr d (iName k) ≠ 0 then none
  else if (unsealL sumL (d.readBytes (iName k))).1 ≠ 0 then none else rIdx d k (d.readBytes (iName k)) (unsealL sumL (d.readBytes (iName k))).2

/-! ### bytes that were read are the one form -/
theorem unseal_form {l inn : List UInt8} (h : unsealL sumL l = (0, inn)) : sealL sumL inn = l := by
  unfold unsealL at h
  split at h
  · simp at h
  · split at h
    · rename_i hs
      simp only [Prod.mk.injEq, true_and] at h
      rw [← h]; exact hs
    · simp at h
theorem gU_form {l : List UInt8} {x j : Nat} (h : gU l = (0, x, j)) : l = vint x ++ l.drop j := by
  obtain ⟨h1, _⟩ := gU_ok h
  rw [← h1, List.take_append_drop]
theorem gB_form {l b : List UInt8} {most j : Nat} (h : gB l most = (0, b, j)) : l = vint b.length ++ (b ++ l.drop j) := by
  unfold gB at h
  cases hu : gU l with
  | mk e nk =>
    obtain ⟨n, k'⟩ := nk
    rw [hu] at h
    by_cases h0 : e = 0
    · subst h0
      have hf := gU_form hu
      simp only at h
      split at h
      · simp at h
      · split at h
        · simp at h
        · rename_i hn
          simp only [Prod.mk.injEq, true_and] at h
          obtain ⟨h1, h2⟩ := h
          have hb : b.length = n := by rw [← h1, List.length_take, List.length_drop]; omega
          rw [hb, ← h2]
          conv => lhs; rw [hf]
          rw [← h1, ← List.drop_drop, List.take_append_drop]
    · split at h
      · rename_i heq; simp only [Prod.mk.injEq] at heq; exact absurd heq.1 h0
      · rename_i heq; simp only [Prod.mk.injEq] at heq h; exact absurd (heq.1.trans h.1) h0
def formE (x : AEnt) : List UInt8 := entBytes x.name x.pack x.pos x.long
theorem pEnt_form {l : List UInt8} {k j : Nat} {x : AEnt} (h : pEnt l k = some (x, j)) : l = formE x ++ l.drop j := by
  unfold pEnt at h
  split at h
  · rename_i nm j0 hg
    have f0 := gB_form hg
    split at h
    · rename_i p j1 h1
      have f1 := gU_form h1
      split at h
      · rename_i a j2 h2
        have f2 := gU_form h2
        split at h
        · rename_i m j3 h3
          have f3 := gU_form h3
          split at h
          · cases h
            unfold formE entBytes
            rw [List.drop_drop] at f1 f2 f3
            have hn : (⟨nm.toArray⟩ : ByteArray).size = nm.length := by rw [← size_list]
            simp only [hn, List.append_assoc]
            rw [← f3, ← f2, ← f1, ← f0]
          · cases h
        · cases h
      · cases h
    · cases h
  · cases h
theorem pEnts_form {k n : Nat} {l r : List UInt8} {prev : Option ByteArray} {es : List AEnt} (h : pEnts k n l prev = some (es, r)) : l = es.flatMap formE ++ r := by
  induction n generalizing l prev es with
  | zero => unfold pEnts at h; cases h; simp
  | succ n ih =>
    unfold pEnts at h
    cases he : pEnt l k with
    | none => rw [he] at h; cases h
    | some z =>
      obtain ⟨x, j⟩ := z
      rw [he] at h
      simp only at h
      split at h
      · cases h
      · cases hr : pEnts k n (l.drop j) (some x.name) with
        | none => rw [hr] at h; cases h
        | some q =>
          rw [hr] at h
          simp only [Option.map_some, Option.some.injEq, Prod.mk.injEq] at h
          obtain ⟨h1, h2⟩ := h
          have hi := ih (es := q.1) (by rw [hr, ← h2])
          rw [← h1, List.flatMap_cons, List.append_assoc, ← hi]
          exact pEnt_form he
theorem blobB_len {d : ADisk} {x : AEnt} (h : okB d x) : (blobB d x).b.length = x.long := by
  have := h.2
  unfold blobB
  simp only [List.length_take, List.length_drop]
  omega
theorem entsOf_blobs {d : ADisk} {es : List AEnt} (h : ∀ x ∈ es, okB d x) : entsOf (blobsB d es) = es.flatMap formE := by
  induction es with
  | nil => rfl
  | cons x r ih =>
    show entsOf ((x.name, blobB d x) :: blobsB d r) = _
    rw [entsOf_cons, ih (fun y hy => h y (by simp [hy])), List.flatMap_cons, blobB_len (h x (by simp))]
    rfl
theorem entOf_blobs {d : ADisk} {es : List AEnt} (h : ∀ x ∈ es, okB d x) : (blobsB d es).map entOf = es := by
  unfold blobsB
  rw [List.map_map]
  conv => rhs; rw [← List.map_id es]
  refine List.map_congr_left fun x hx => ?_
  show (⟨x.name, (blobB d x).pack, (blobB d x).pos, (blobB d x).b.length⟩ : AEnt) = x
  rw [blobB_len (h x hx)]
  rfl
theorem pIndex_form {d : ADisk} {b : List UInt8} {k : Nat} {es : List AEnt} (h : pIndex b k = some es) (ho : ∀ x ∈ es, okB d x) : (unsealL sumL b).1 = 0 ∧ rIdx d k b (unsealL sumL b).2 = some (blobsB d es) := by
  obtain ⟨er, inn, hun⟩ : ∃ er inn, unsealL sumL b = (er, inn) := ⟨_, _, rfl⟩
  rw [pIndex_un hun] at h
  split at h
  · rename_i h0
    subst h0
    have hs := unseal_form hun
    rw [hun]
    refine ⟨rfl, ?_⟩
    simp only
    unfold pIdx at h
    split at h
    · cases h
    · rename_i hm
      have hm : inn.take 4 = magicI := by
        by_cases e : inn.take 4 = magicI
        · exact e
        · exact absurd e hm
      split at h
      · rename_i x j hx
        split at h
        · cases h
        · rename_i hxk
          have hxk : x = k := by
            by_cases e : x = k
            · exact e
            · exact absurd e hxk
          subst hxk
          split at h
          · rename_i n j2 hn
            split at h
            · cases h
            · rename_i h4
              split at h
              · rename_i es' hp
                cases h
                have hf := pEnts_form hp
                have hl := (pEnts_ok hp).1
                have f1 := gU_form hx
                have f2 := gU_form hn
                rw [List.drop_drop] at f1 f2
                have hi : inn = magicI ++ (vint x ++ (vint n ++ es.flatMap formE)) := by
                  rw [List.append_nil] at hf
                  rw [← hf, ← f2, ← f1, ← hm, List.take_append_drop]
                unfold rIdx
                have h4l : ¬ inn.length < 4 := by
                  have := congrArg List.length hm
                  rw [List.length_take] at this
                  have h5 : magicI.length = 4 := rfl
                  omega
                rw [if_neg h4l, hx]
                simp only
                rw [hn]
                simp only
                rw [if_neg h4, hp]
                unfold rKeep
                simp only
                have hix : indexOf x (blobsB d es) = b := by
                  unfold indexOf
                  rw [entsOf_blobs ho, ← hs]
                  congr 1
                  have : (blobsB d es).length = n := by unfold blobsB; rw [List.length_map]; exact hl
                  rw [this]
                  exact hi.symm
                rw [if_pos ⟨ho, hix⟩]
              · cases h
          · cases h
      · cases h
  · cases h
theorem rIdx_index {d : ADisk} {k : Nat} {b inn : List UInt8} {l : List (ByteArray × ABlob)} (h : rIdx d k b inn = some l) (hk : k ≤ 9007199254740992) : ∃ es, pIndex b k = some es ∧ (∀ x ∈ es, okB d x) ∧ l = blobsB d es := by
  unfold rIdx at h
  split at h
  · cases h
  · split at h
    · split at h
      · rename_i n j2 hn
        split at h
        · cases h
        · rename_i h4
          unfold rKeep at h
          split at h
          · cases h
          · rename_i es r hp
            split at h
            · rename_i ho
              obtain ⟨ho, hf⟩ := ho
              obtain ⟨h1, h2, h3, _⟩ := pEnts_ok hp
              have hE : EntsB k es := ⟨by omega, h2, h3⟩
              refine ⟨es, ?_, ho, (Option.some.inj h).symm⟩
              rw [← hf, pIndex_put (fun p hp2 => ?_) (hE.sorted d) (by unfold blobsB; rw [List.length_map]; omega) hk, entOf_blobs ho]
              unfold blobsB at hp2
              obtain ⟨x, hx, rfl⟩ := List.mem_map.1 hp2
              have hb := h2 x hx
              exact ⟨hb.n0, hb.n1, hb.p0, hb.p1, hb.pg, hb.a1, by show (blobB d x).b.length ≤ 1048576; rw [blobB_len (ho x hx)]; exact hb.l1⟩
            · cases h
      · cases h
    · cases h
theorem rIdx_bad1 {d : ADisk} {k x j : Nat} {b inn : List UInt8} {er : Int} (h4 : ¬ inn.length < 4) (h : gU (inn.drop 4) = (er, x, j)) (h0 : er ≠ 0) : rIdx d k b inn = none := by
  unfold rIdx
  rw [if_neg h4, h]
  split
  · rename_i heq; simp only [Prod.mk.injEq] at heq; exact absurd heq.1 h0
  · rfl
theorem rIdx_bad2 {d : ADisk} {k x j n j2 : Nat} {b inn : List UInt8} {er : Int} (h4 : ¬ inn.length < 4) (h : gU (inn.drop 4) = (0, x, j)) (h2 : gU (inn.drop (4 + j)) = (er, n, j2)) (hb : er ≠ 0 ∨ 4096 < n) : rIdx d k b inn = none := by
  unfold rIdx
  rw [if_neg h4, h]
  simp only
  rw [h2]
  by_cases h0 : er = 0
  · subst h0
    simp only
    rw [if_pos (by rcases hb with hb | hb; exact absurd rfl hb; exact hb)]
  · split
    · rename_i heq; simp only [Prod.mk.injEq] at heq; exact absurd heq.1 h0
    · rfl
theorem rIdx_go {d : ADisk} {k x j n j2 : Nat} {b inn : List UInt8} (h4 : ¬ inn.length < 4) (h : gU (inn.drop 4) = (0, x, j)) (h2 : gU (inn.drop (4 + j)) = (0, n, j2)) (hn : n ≤ 4096) : rIdx d k b inn = rKeep d k b (pEnts k n (inn.drop (4 + j + j2)) none) := by
  unfold rIdx
  rw [if_neg h4, h]
  simp only
  rw [h2]
  simp only
  rw [if_neg (by omega)]
section
variable {nm l : List UInt8} {k at_ p a m j0 j1 j2 j3 : Nat} {er : Int}
theorem ent2_off (h : ¬ (0 < nm.length ∧ 1 ≤ p ∧ p ≤ k)) : ent2 nm l k at_ p a = none := by
  unfold ent2
  split
  · split
    · rfl
    · unfold entEnd
      rw [if_neg (fun e => h ⟨e.1, e.2.1, e.2.2.1⟩)]
  · rfl
theorem ent1_off (h : ¬ (0 < nm.length ∧ 1 ≤ p ∧ p ≤ k)) : ent1 nm l k at_ p = none := by
  unfold ent1
  split
  · split
    · rfl
    · exact ent2_off h
  · rfl
theorem pEntA_err (hB : gB (l.drop at_) 60 = (er, nm, j0)) (h0 : er ≠ 0) : pEntA l at_ k = none := by rw [pEntA_eq hB, if_neg h0]
theorem pEntA_empty (hB : gB (l.drop at_) 60 = (0, nm, j0)) (h0 : nm.length = 0) : pEntA l at_ k = none := by
  rw [pEntA_eq hB, if_pos rfl]
  unfold ent0
  split
  · split
    · rfl
    · exact ent1_off (fun e => by omega)
  · rfl
theorem pEntA_1bad (hB : gB (l.drop at_) 60 = (0, nm, j0)) (h1 : gU (l.drop (at_ + j0)) = (er, p, j1)) (hb : er ≠ 0 ∨ p < 1 ∨ k < p) : pEntA l at_ k = none := by
  rw [pEntA_eq hB, if_pos rfl, ent0_eq h1]
  split
  · rename_i h0
    split
    · rfl
    · refine ent1_off (fun e => ?_)
      rcases hb with hb | hb | hb
      · exact hb h0
      · omega
      · omega
  · rfl
theorem pEntA_2bad (hB : gB (l.drop at_) 60 = (0, nm, j0)) (h1 : gU (l.drop (at_ + j0)) = (0, p, j1)) (h2 : gU (l.drop (at_ + j0 + j1)) = (er, a, j2)) (hb : er ≠ 0 ∨ 9007199254740992 < a) : pEntA l at_ k = none := by
  rw [pEntA_eq hB, if_pos rfl, ent0_eq h1, if_pos rfl]
  split
  · rfl
  · rw [ent1_eq h2]
    split
    · rename_i h0
      rw [if_pos (by rcases hb with hb | hb; exact absurd h0 hb; exact hb)]
    · rfl
theorem pEntA_3bad (hB : gB (l.drop at_) 60 = (0, nm, j0)) (h1 : gU (l.drop (at_ + j0)) = (0, p, j1)) (h2 : gU (l.drop (at_ + j0 + j1)) = (0, a, j2)) (h3 : gU (l.drop (at_ + j0 + j1 + j2)) = (er, m, j3)) (hb : er ≠ 0 ∨ 1048576 < m) : pEntA l at_ k = none := by
  rw [pEntA_eq hB, if_pos rfl, ent0_eq h1, if_pos rfl]
  split
  · rfl
  · rw [ent1_eq h2, if_pos rfl]
    split
    · rfl
    · rw [ent2_eq h3]
      split
      · rename_i h0
        split
        · rfl
        · unfold entEnd
          rw [if_neg (fun e => by rcases hb with hb | hb; exact hb h0; omega)]
      · rfl
theorem pEntA_all (hB : gB (l.drop at_) 60 = (0, nm, j0)) (h1 : gU (l.drop (at_ + j0)) = (0, p, j1)) (h2 : gU (l.drop (at_ + j0 + j1)) = (0, a, j2)) (h3 : gU (l.drop (at_ + j0 + j1 + j2)) = (0, m, j3)) (hk : k ≤ 9007199254740992) (hn : 0 < nm.length) (hp1 : 1 ≤ p) (hp2 : p ≤ k) (ha : a ≤ 9007199254740992) (hm : m ≤ 1048576) :
    pEntA l at_ k = some (⟨⟨nm.toArray⟩, p, a, m⟩, at_ + j0 + j1 + j2 + j3) := by
  rw [pEntA_eq hB, if_pos rfl, ent0_eq h1, if_pos rfl, if_neg (by omega), ent1_eq h2, if_pos rfl, if_neg (by omega), ent2_eq h3, if_pos rfl, if_neg (by omega)]
  unfold entEnd
  rw [if_pos ⟨hn, hp1, hp2, hm⟩]
theorem pEntA_name {x : AEnt} {a2 : Nat} (hB : gB (l.drop at_) 60 = (0, nm, j0)) (h : pEntA l at_ k = some (x, a2)) : x.name = ⟨nm.toArray⟩ := by
  rw [pEntA_eq hB, if_pos rfl] at h
  unfold ent0 at h
  split at h
  · split at h
    · cases h
    · unfold ent1 at h
      split at h
      · split at h
        · cases h
        · unfold ent2 at h
          split at h
          · split at h
            · cases h
            · unfold entEnd at h
              split at h
              · cases h; rfl
              · cases h
          · cases h
      · cases h
  · cases h
end
/-- behind some entries: n are left, from a place on. -/
structure RSo (d : ADisk) (inn b : List UInt8) (k : Nat) (o : Option (List (ByteArray × ABlob))) (n at_ : Nat) (es : List AEnt) : Prop where
  le : at_ ≤ inn.length
  ok : ∀ x ∈ es, okB d x
  bnd : ∀ x ∈ es, EntB k x
  len : es.length + n ≤ 4096
  so : o = rKeep d k b ((pEnts k n (inn.drop at_) (lastN es)).map fun r => (es ++ r.1, r.2))
section
variable {d : ADisk} {inn b : List UInt8} {k n at_ a2 : Nat} {o : Option (List (ByteArray × ABlob))} {es : List AEnt} {x : AEnt}
theorem RSo.start (hj : at_ ≤ inn.length) (hn : n ≤ 4096) (h : o = rKeep d k b (pEnts k n (inn.drop at_) none)) : RSo d inn b k o n at_ [] := by
  refine ⟨hj, by simp, by simp, by simpa using hn, ?_⟩
  rw [h]
  show _ = rKeep d k b ((pEnts k n (inn.drop at_) none).map fun r => ([] ++ r.1, r.2))
  cases pEnts k n (inn.drop at_) none <;> rfl
theorem RSo.bad (h : RSo d inn b k o (n + 1) at_ es) (hb : pEntA inn at_ k = none ∨ ∃ x a2, pEntA inn at_ k = some (x, a2) ∧ (nextOk (lastN es) x.name = false ∨ ¬ okB d x)) : o = none := by
  rw [h.so, pEnts_step]
  rcases hb with hb | ⟨x, a2, hb, h2⟩
  · rw [hb]; rfl
  · rw [hb]
    simp only
    by_cases hn : nextOk (lastN es) x.name = false
    · rw [if_pos hn]; rfl
    · rw [if_neg hn]
      cases pEnts k n (inn.drop a2) (some x.name) with
      | none => rfl
      | some r =>
        simp only [Option.map_some, rKeep]
        rw [if_neg]
        rintro ⟨h3, _⟩
        rcases h2 with h2 | h2
        · exact hn h2
        · exact h2 (h3 x (by simp))
theorem RSo.next (h : RSo d inn b k o (n + 1) at_ es) (hb : pEntA inn at_ k = some (x, a2)) (hn : nextOk (lastN es) x.name = true) (hx : okB d x) : RSo d inn b k o n a2 (es ++ [x]) := by
  have hxb : EntB k x := by
    have h1 := pEnt_abs inn at_ k
    rw [hb] at h1
    exact pEnt_bnd h1
  refine ⟨pEntA_le h.le hb, fun y hy => ?_, fun y hy => ?_, by have := h.len; rw [List.length_append]; simp only [List.length_singleton]; omega, ?_⟩
  · rcases List.mem_append.1 hy with hy | hy
    · exact h.ok y hy
    · rw [List.mem_singleton.1 hy]; exact hx
  · rcases List.mem_append.1 hy with hy | hy
    · exact h.bnd y hy
    · rw [List.mem_singleton.1 hy]; exact hxb
  · rw [h.so, pEnts_step, hb]
    simp only
    rw [if_neg (by simp [hn])]
    have hl : lastN (es ++ [x]) = some x.name := by simp [lastN]
    rw [hl]
    cases pEnts k n (inn.drop a2) (some x.name) with
    | none => rfl
    | some r => simp only [Option.map_some, List.append_assoc, List.cons_append, List.nil_append]
theorem RSo.done (h : RSo d inn b k o 0 at_ es) : o = if indexOf k (blobsB d es) = b then some (blobsB d es) else none := by
  rw [h.so]
  unfold pEnts
  simp only [Option.map_some, List.append_nil, rKeep]
  by_cases hi : indexOf k (blobsB d es) = b
  · rw [if_pos ⟨h.ok, hi⟩, if_pos hi]
  · rw [if_neg (fun e => hi e.2), if_neg hi]
end
/-- what the program loads is what the document's commit has. -/
theorem rCommit_load {d : ADisk} {k : Nat} (hk : k ≤ 9007199254740992) (hf : findErr d (iName k) = 0 ∨ findErr d (iName k) = 13) : pLoad d k = match rCommit d k with | some l => (l, 0) | none => ([], 14) := by
  by_cases h0 : k = 0
  · subst h0
    rw [show rCommit d 0 = some [] from rfl]
    rcases hf with hf | hf
    · exact pLoad_zero hf
    · rw [pLoad_err (by rw [hf]; decide), if_pos hf]; rfl
  · unfold rCommit
    rw [if_neg h0]
    rcases hf with hf | hf
    · rw [if_neg (by simp [hf])]
      cases hi : pIndex (d.readBytes (iName k)) k with
      | none =>
        rw [pLoad_none hf h0 hi]
        split
        · rename_i l heq
          split at heq
          · cases heq
          · obtain ⟨es, h1, _⟩ := rIdx_index heq hk
            rw [hi] at h1; cases h1
        · rfl
      | some es =>
        by_cases ho : ∀ x ∈ es, okB d x
        · obtain ⟨h1, h2⟩ := pIndex_form hi ho
          rw [pLoad_all hf h0 hi ho, if_neg (by simp [h1]), h2]
        · have : ∃ x, x ∈ es ∧ ¬ okB d x := by
            refine Classical.byContradiction fun hno => ho fun x hx => Classical.byContradiction fun hb => hno ⟨x, hx, hb⟩
          obtain ⟨x, hx, hb⟩ := this
          rw [pLoad_bad hf h0 hi hx hb]
          split
          · rename_i l heq
            split at heq
            · cases heq
            · obtain ⟨es2, h1, h2, _⟩ := rIdx_index heq hk
              rw [hi] at h1; cases h1
              exact absurd (h2 x hx) hb
          · rfl
    · rw [if_pos (by rw [hf]; decide), pLoad_err (by rw [hf]; decide), if_pos hf, if_neg h0]
end Go.Proofs.YtbepcjajbcecnaaGreatDoor
