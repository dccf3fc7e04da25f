/-
  The document's digits: Dec.
-/
import Derived.Outline
import Derived.Test.YtbiadclmonakkaaGreatDoorMWmA
import Derived.BigQuiet
import Derived.Deep.QuietTactic
import Derived.Test.YtbiadclmonakkaaGreatDoorMLoA
import Derived.Test.YtbiadclmonakkaaGreatDoorMWmF
namespace Go.Proofs.YtbiadclmonakkaaGreatDoor
open Go.RowKit Go.Maps Go.MapKept

def ten10 : ByteArray := ⟨#[48, 49, 50, 51, 52, 53, 54, 55, 56, 57]⟩
theorem ten10_cut (d : Nat) (h : d < 10) : ten10.extract d (d + 1) = ⟨#[UInt8.ofNat (48 + d)]⟩ := by
  rcases (by omega : d = 0 ∨ d = 1 ∨ d = 2 ∨ d = 3 ∨ d = 4 ∨ d = 5 ∨ d = 6 ∨ d = 7 ∨ d = 8 ∨ d = 9) with rfl | rfl | rfl | rfl | rfl | rfl | rfl | rfl | rfl | rfl <;> decide
theorem dec_step (k : Nat) : Lib.decDigits k = (if k / 10 = 0 then [] else Lib.decDigits (k / 10)) ++ [UInt8.ofNat (48 + k % 10)] := by
  by_cases h : k < 10
  · rw [Lib.decDigits_one h, if_pos (by omega), Nat.mod_eq_of_lt h]; rfl
  · rw [if_neg (by omega)]
    conv => lhs; rw [Lib.decDigits, dif_neg h]
def DecSt (n k : Nat) (s : List UInt8) : Prop := Lib.decDigits n = (if k = 0 then [] else Lib.decDigits k) ++ s
theorem DecSt.first (n : Nat) : DecSt n (n / 10) [UInt8.ofNat (48 + n % 10)] := dec_step n
theorem DecSt.next {n k : Nat} {s : List UInt8} (h : DecSt n k s) (hk : k ≠ 0) : DecSt n (k / 10) (UInt8.ofNat (48 + k % 10) :: s) := by
  unfold DecSt at h ⊢
  rw [h, if_neg hk]
  conv => lhs; rw [dec_step k]
  simp
theorem DecSt.done {n : Nat} {s : List UInt8} (h : DecSt n 0 s) : s = Lib.decDigits n := by
  unfold DecSt at h
  rw [h, if_pos rfl]; rfl
theorem cons_bytes (c : UInt8) (y : ByteArray) : ((⟨#[c]⟩ : ByteArray) ++ y).data.toList = c :: y.data.toList := by
  simp
theorem DecSt.short {n k : Nat} {s : List UInt8} (h : DecSt n k s) (hn : n ≤ 9007199254740993) : s.length ≤ 16 := by
  have h1 := congrArg List.length h
  have h2 := nDig_le n 16 (by omega) (Nat.lt_of_le_of_lt hn (by decide))
  rw [List.length_append, Lib.decDigits_length] at h1
  omega
set_option maxRecDepth 100000 in
set_option maxHeartbeats 2000000 in
theorem x4Dec_any (w : World) (n : Nat) (hn : n ≤ 9007199254740993) : Calls Tryz.prog 78 #[.int .i64 n] w fun e w' => e = .returned (.string ⟨(Lib.decDigits n).toArray⟩) ∧ w = w' := by
  have h0 := DecSt.first n
  obtain ⟨d, hd⟩ : ∃ d, n % 10 = d := ⟨_, rfl⟩
  have hd10 : d < 10 := by omega
  have hm : (n : Int) % 10 = d := by omega
  have hdi : (d : Int) < 10 := by omega
  have hc := ten10_cut d hd10
  unfold ten10 at hc
  rw [hd] at h0
  have H0 := Lib.hid h0
  have Hc := Lib.hid hc
  clear hc h0
  go_enter Tryz.func78, Tryz.ntmps78
  go_wp2
  clear hm hdi
  go_loop [0, 3] (fun nv sv => ∃ (k : Nat) (y : ByteArray), k ≤ n ∧ nv = .int .i64 k ∧ sv = .string y ∧ DecSt n k y.data.toList) (fun nv _ => (intOf nv).toNat)
  case atStart => exact ⟨n / 10, _, by omega, rfl, by rw [Hc.out], H0.out⟩
  case round =>
    obtain ⟨k, y, hk, rfl, rfl, hst⟩ := hrel
    have hsz : y.size ≤ 100 := Nat.le_trans (show y.data.toList.length ≤ 16 from hst.short hn) (by omega)
    have Hst := Lib.hid hst
    clear hst
    by_cases hk0 : k = 0
    · subst hk0
      go_wp2
      go_ret
      refine ⟨?_, rfl⟩
      show Ending.returned (Value.string y) = _
      rw [← Hst.out.done]
    · obtain ⟨d', hd'⟩ : ∃ d', k % 10 = d' := ⟨_, rfl⟩
      have hd10' : d' < 10 := by omega
      have hm' : (k : Int) % 10 = d' := by omega
      have hdi' : (d' : Int) < 10 := by omega
      have hkp : (0 : Int) < k := by omega
      have hc' := ten10_cut d' hd10'
      have hnx := Hst.out.next hk0
      rw [hd'] at hnx
      obtain ⟨cc, hcc⟩ : ∃ cc, UInt8.ofNat (48 + d') = cc := ⟨_, rfl⟩
      rw [hcc] at hc' hnx
      unfold ten10 at hc'
      rw [← cons_bytes cc y] at hnx
      obtain ⟨x, hx⟩ : ∃ x, (⟨#[cc]⟩ : ByteArray) = x := ⟨_, rfl⟩
      have hx1 : x.size = 1 := by rw [← hx]; rfl
      rw [hx] at hc' hnx
      have Hnx := Lib.hid hnx
      clear hd' hcc hx hnx
      go_wp2
      go_round
      case rel => exact ⟨k / 10, x ++ y, by omega, rfl, rfl, Hnx.out⟩
      case measure => simp [intOf]; omega
end Go.Proofs.YtbiadclmonakkaaGreatDoor

/-
  The statements' helpers: Pick, SameBytes, SameRecs.
-/
namespace Go.Proofs.YtbiadclmonakkaaGreatDoor
open Go.RowKit Go.Maps Go.MapKept

/-- a slice of records reads so. -/
structure RecRd (w : World) (a : Option Addr) (L : List XRec) : Prop where
  at_ : L ≠ [] → ∃ b o, a = some ⟨b, o, none⟩ ∧ ∀ j u, (recX L)[j]? = some u → w.cell? ⟨b, o + j, none⟩ = some u
  rd : ∀ x ∈ L, Rd w x.vb (bcells x.b)
theorem RecRd.below {w w' : World} {a : Option Addr} {L : List XRec} (h : RecRd w a L) (hb : Below w.heap.size w w') : RecRd w' a L :=
  ⟨fun hn => let ⟨b, o, e, hc⟩ := h.at_ hn; ⟨b, o, e, fun j u hu => (hb.cell (p := ⟨b, o + j, none⟩) (cell_lt (hc j u hu))).trans (hc j u hu)⟩, fun x hx => (h.rd x hx).below hb⟩
theorem RecRd.at {w : World} {a : Option Addr} {L : List XRec} (h : RecRd w a L) (k : Nat) (hk : k < L.length) :
    ∃ b o, a = some ⟨b, o, none⟩ ∧ w.cell? ⟨b, o + k * 2, none⟩ = some (.int .i64 (L[k].n : Int)) ∧ w.cell? ⟨b, o + k * 2 + 1, none⟩ = some L[k].vb ∧ Rd w L[k].vb (bcells L[k].b) := by
  obtain ⟨b, o, e, hc⟩ := h.at_ (fun e => by rw [e] at hk; exact absurd hk (Nat.not_lt_zero k))
  obtain ⟨g0, g1⟩ := recX_get L k hk
  exact ⟨b, o, e, hc _ _ g0, hc _ _ g1, h.rd _ (List.getElem_mem hk)⟩
theorem RecRd.ofOwns {w : World} {base : Nat} {a : Option Addr} {n c : Nat} {L : List XRec} (h : w.ownsRow base 47 2 (.slice a n c) n (recX L)) (hn : n = L.length) (hrd : ∀ x ∈ L, Rd w x.vb (bcells x.b)) : RecRd w a L := by
  refine ⟨fun hne => ?_, hrd⟩
  rcases h.2 with ⟨he, h0⟩ | ⟨g, cap, cur, he, _⟩
  · exact absurd (List.eq_nil_of_length_eq_zero (by omega)) hne
  · cases he
    exact ⟨g, 0, rfl, fun j u hu => by
      have := h.cells (g := g) rfl j u hu
      simpa [Addr.add_lit] using this⟩
end Go.Proofs.YtbiadclmonakkaaGreatDoor

/-
  The document's names of segments: Dec, Name.
-/
namespace Go.Proofs.YtbiadclmonakkaaGreatDoor
open Go.RowKit Go.Maps Go.MapKept

set_option maxRecDepth 100000 in
set_option maxHeartbeats 2000000 in
theorem x4Name_any (w : World) (n : Nat) (hn : n ≤ 9007199254740993) : Calls Tryz.prog 44 #[.int .i64 n] w fun e w' => e = .returned (.string (wName n)) ∧ w = w' := by
  have hD := x4Dec_any w n hn
  have hc := wName_cat n
  have hsz : (⟨(Lib.decDigits n).toArray⟩ : ByteArray).size ≤ 100 := by
    have := nDig_le n 16 (by omega) (Nat.lt_of_le_of_lt hn (by decide))
    show (Lib.decDigits n).toArray.size ≤ 100
    rw [List.size_toArray, Lib.decDigits_length]; omega
  generalize (⟨(Lib.decDigits n).toArray⟩ : ByteArray) = x at hc hsz hD
  have HD := Lib.hid hD
  have HC := Lib.hid hc
  clear hD hc
  go_enter Tryz.func44, Tryz.ntmps44
  go_wp2_with (go_at_call 78; refine HD.out.mono ?_; rintro e w1 ⟨rfl, rfl⟩)
  go_ret
  exact ⟨by rw [← HC.out]; rfl, rfl⟩
end Go.Proofs.YtbiadclmonakkaaGreatDoor
