/-
  The statements' helpers: Pick, SameBytes, SameRecs.
-/
import Derived.Outline
import Derived.BigQuiet
import Derived.Deep.QuietTactic
import Derived.Test.YtbiadclmonakkaaGreatDoorMLoA
import Derived.Test.YtbiadclmonakkaaGreatDoorMWmB
import Derived.Test.YtbiadclmonakkaaGreatDoorMWmA
import Derived.Deep.RegionHeld3
import Derived.Test.YtbiadclmonakkaaGreatDoorMWmC
import Derived.Test.YtbiadclmonakkaaGreatDoorMWlA
import Derived.Lib.SlBytesConst
namespace Go.Proofs.YtbiadclmonakkaaGreatDoor
open Go.RowKit Go.Maps Go.MapKept

/-- any number as one of 0 to n - 1. -/
def pickI (x n : Int) : Int := if n ≤ 0 then 0 else x % n
set_option maxHeartbeats 2000000 in
theorem Pick_any (w : World) (x n : Int) (hn : isI64 n) : Calls Tryz.prog 15 #[.int .i64 x, .int .i64 n] w fun e w' => e = .returned (.int .i64 (pickI x n)) ∧ w = w' := by
  unfold isI64 at hn
  by_cases h : n ≤ 0
  · have hf : pickI x n = 0 := by unfold pickI; rw [if_pos h]
    rw [hf]
    clear hf
    go_enter Tryz.func15, Tryz.ntmps15
    go_wp2
    go_ret
    exact ⟨rfl, rfl⟩
  · have hf : pickI x n = x % n := by unfold pickI; rw [if_neg h]
    rw [hf]
    have hn0 : 0 < n := by omega
    have hne : n ≠ 0 := by omega
    obtain ⟨r, hr⟩ : ∃ r, x.tmod n = r := ⟨_, rfl⟩
    have hlt : r < n := by rw [← hr]; exact Int.tmod_lt_of_pos _ hn0
    have hgt : -n < r := by
      have := Int.tmod_lt_of_pos (-x) hn0
      rw [Int.neg_tmod] at this
      omega
    have hem : x % n = if r < 0 then n + r else r := by
      have hx0 : r + n * x.tdiv n = x := by rw [← hr]; exact Int.tmod_add_mul_tdiv x n
      obtain ⟨q, hq⟩ : ∃ q, x.tdiv n = q := ⟨_, rfl⟩
      rw [hq] at hx0
      split
      · have e1 : x = (n + r) + n * (q - 1) := by rw [Int.mul_sub, Int.mul_one]; omega
        rw [e1, Int.add_mul_emod_self_left, Int.emod_eq_of_lt (by omega) (by omega)]
      · rw [← hx0, Int.add_mul_emod_self_left, Int.emod_eq_of_lt (by omega) (by omega)]
    have Hem := Lib.hid hem
    have Hr := Lib.hid hr
    clear hem hf
    by_cases h0 : r < 0
    · go_enter Tryz.func15, Tryz.ntmps15
      go_wp2
      go_ret
      exact ⟨by rw [Hem.out, if_pos h0]; rfl, rfl⟩
    · go_enter Tryz.func15, Tryz.ntmps15
      go_wp2
      go_ret
      exact ⟨by rw [Hem.out, if_neg (by omega)]; rfl, rfl⟩
theorem pickI_lt (x n : Int) (h : 0 < n) : 0 ≤ pickI x n ∧ pickI x n < n := by
  unfold pickI
  rw [if_neg (by omega)]
  exact ⟨Int.emod_nonneg _ (by omega), Int.emod_lt_of_pos _ h⟩
set_option maxRecDepth 100000 in
set_option maxHeartbeats 2000000 in
theorem sameB_yes (w : World) (va vb : Value) (a : List UInt8) (ha : Rd w va (bcells a)) (hb : Rd w vb (bcells a)) :
    Calls Tryz.prog 59 #[va, vb] w fun e w' => e = .returned (.bool true) ∧ w = w' := by
  have hc1 := run_bytes_str (P := Tryz.prog) ha Tryz.underlying45 Tryz.underlying5 Tryz.underlying9
  have hc2 := run_bytes_str (P := Tryz.prog) hb Tryz.underlying45 Tryz.underlying5 Tryz.underlying9
  clear ha hb
  have hq : (a == a) = true := by simp
  go_enter Tryz.func59, Tryz.ntmps59
  go_wp2
  go_ret
  exact ⟨rfl, rfl⟩

/-- a slice of records reads so. -/
structure RecRd (w : World) (a : Option Addr) (L : List XRec) : Prop where
  at_ : L ≠ [] → ∃ b o, a = some ⟨b, o, none⟩ ∧ ∀ j u, (recX L)[j]? = some u → w.cell? ⟨b, o + j, none⟩ = some u
  rd : ∀ x ∈ L, Rd w x.vb (bcells x.b)
theorem RecRd.below {w w' : World} {a : Option Addr} {L : List XRec} (h : RecRd w a L) (hb : Below w.heap.size w w') : RecRd w' a L :=
  ⟨fun hn => let ⟨b, o, e, hc⟩ := h.at_ hn; ⟨b, o, e, fun j u hu => (hb.cell (p := ⟨b, o + j, none⟩) (cell_lt (hc j u hu))).trans (hc j u hu)⟩, fun x hx => (h.rd x hx).below hb⟩
theorem RecRd.at {w : World} {a : Option Addr} {L : List XRec} (h : RecRd w a L) (k : Nat) (hk : k < L.length) :
    ∃ b o, a = some ⟨b, o, none⟩ ∧ w.cell? ⟨b, o + k * 2, none⟩ = some (.int .i64 (L[k].n : Int)) ∧ w.cell? ⟨b, o + k * 2 + 1, none⟩ = some L[k].vb ∧ Rd w L[k].vb (bcells L[k].b) := by
  obtain ⟨b, o, e, hc⟩ := h.at_ (fun e => by rw [e] at hk; exact absurd hk (Nat.not_lt_zero k))
  obtain ⟨g0, g1⟩ := recX_get L k hk
  exact ⟨b, o, e, hc _ _ g0, hc _ _ g1, h.rd _ (List.getElem_mem hk)⟩
theorem RecRd.ofOwns {w : World} {base : Nat} {a : Option Addr} {n c : Nat} {L : List XRec} (h : w.ownsRow base 47 2 (.slice a n c) n (recX L)) (hn : n = L.length) (hrd : ∀ x ∈ L, Rd w x.vb (bcells x.b)) : RecRd w a L := by
  refine ⟨fun hne => ?_, hrd⟩
  rcases h.2 with ⟨he, h0⟩ | ⟨g, cap, cur, he, _⟩
  · exact absurd (List.eq_nil_of_length_eq_zero (by omega)) hne
  · cases he
    exact ⟨g, 0, rfl, fun j u hu => by
      have := h.cells (g := g) rfl j u hu
      simpa [Addr.add_lit] using this⟩
theorem rec4_eq {x y : XRec} (h : x.rec4 = y.rec4) : x.n = y.n ∧ x.b = y.b := by
  unfold XRec.rec4 at h
  injection h with h1 h2
  exact ⟨h1, h2⟩
set_option maxRecDepth 100000 in
set_option maxHeartbeats 4000000 in
theorem SameRecs_yes (w : World) (a a' : Option Addr) (n c c' : Nat) (L M : List XRec) (hL : RecRd w a L) (hM : RecRd w a' M) (hnL : L.length = n) (hnM : M.length = n) (hn : n ≤ 1099511627776) (hLM : L.map XRec.rec4 = M.map XRec.rec4) :
    Calls Tryz.prog 18 #[.slice a n c, .slice a' n c'] w fun e w' => e = .returned (.bool true) ∧ Below w.heap.size w w' := by
  have hkk : ∀ k (h1 : k < L.length) (h2 : k < M.length), L[k].n = M[k].n ∧ L[k].b = M[k].b := by
    intro k h1 h2
    refine rec4_eq ?_
    have := congrArg (fun l => l[k]?) hLM
    simpa [List.getElem?_eq_getElem h1, List.getElem?_eq_getElem h2] using this
  have HL := Lib.hid hL
  have HM := Lib.hid hM
  have HnL := Lib.hid hnL
  have HnM := Lib.hid hnM
  have Hkk := Lib.hid hkk
  have hne : ((n : Int) != (n : Int)) = false := by simp
  clear hL hM hnL hnM hLM hkk
  go_enter Tryz.func18, Tryz.ntmps18
  go_wp2
  go_loopw [5] (fun i wr => ∃ k : Nat, k ≤ n ∧ i = .int .i64 k ∧ Below w.heap.size w wr) (fun i _ => n - (intOf i).toNat)
  case atStart => exact ⟨0, by omega, rfl, Below.refl _ _⟩
  case round =>
    obtain ⟨k, hk, rfl, hB⟩ := hrel
    by_cases hlt : k < n
    · obtain ⟨b, o, rfl, x0, x1, rx⟩ := (HL.out.below hB).at k (by rw [HnL.out]; exact hlt)
      obtain ⟨b', o', rfl, y0, y1, ry⟩ := (HM.out.below hB).at k (by rw [HnM.out]; exact hlt)
      obtain ⟨e1, e2⟩ := Hkk.out k (by rw [HnL.out]; exact hlt) (by rw [HnM.out]; exact hlt)
      obtain ⟨X, hX⟩ : ∃ X, L[k]'(by rw [HnL.out]; exact hlt) = X := ⟨_, rfl⟩
      obtain ⟨Y, hY⟩ : ∃ Y, M[k]'(by rw [HnM.out]; exact hlt) = Y := ⟨_, rfl⟩
      rw [hX] at x0 x1 rx e1 e2
      rw [hY] at y0 y1 ry e1 e2
      obtain ⟨xn, xb, xv⟩ := X
      obtain ⟨yn, yb, yv⟩ := Y
      simp only at x0 x1 rx y0 y1 ry e1 e2
      subst e1
      subst e2
      have hxn : ((xn : Int) != (xn : Int)) = false := by simp
      have HB := Lib.hid hB
      have Hrx := Lib.hid rx
      have Hry := Lib.hid ry
      clear hX hY hB rx ry
      go_wp2
      go_quiet ((go_at_call 59; exact Calls.quiet_of_same ((sameB_yes _ _ _ xb (Hrx.out.below (below_drewN (Below.refl _ _) _)) (Hry.out.below (below_drewN (Below.refl _ _) _))).mono fun _ _ h => ⟨h.1, h.2.symm⟩)))
      go_wp2
      go_roundw
      case rel => exact ⟨k + 1, by omega, by go_num, below_drewN HB.out _⟩
      case measure => simp [intOf]; omega
    · obtain rfl : k = n := by omega
      go_wp2
      go_ret
      exact ⟨rfl, hB⟩
end Go.Proofs.YtbiadclmonakkaaGreatDoor

/-
  The document's names of segments: Dec, Name.
-/
namespace Go.Proofs.YtbiadclmonakkaaGreatDoor
open Go.RowKit Go.Maps Go.MapKept

def ten10 : ByteArray := ⟨#[48, 49, 50, 51, 52, 53, 54, 55, 56, 57]⟩
theorem ten10_cut (d : Nat) (h : d < 10) : ten10.extract d (d + 1) = ⟨#[UInt8.ofNat (48 + d)]⟩ := by
  rcases (by omega : d = 0 ∨ d = 1 ∨ d = 2 ∨ d = 3 ∨ d = 4 ∨ d = 5 ∨ d = 6 ∨ d = 7 ∨ d = 8 ∨ d = 9) with rfl | rfl | rfl | rfl | rfl | rfl | rfl | rfl | rfl | rfl <;> decide
theorem dec_step (k : Nat) : Lib.decDigits k = (if k / 10 = 0 then [] else Lib.decDigits (k / 10)) ++ [UInt8.ofNat (48 + k % 10)] := by
  by_cases h : k < 10
  · rw [Lib.decDigits_one h, if_pos (by omega), Nat.mod_eq_of_lt h]; rfl
  · rw [if_neg (by omega)]
    conv => lhs; rw [Lib.decDigits, dif_neg h]
def DecSt (n k : Nat) (s : List UInt8) : Prop := Lib.decDigits n = (if k = 0 then [] else Lib.decDigits k) ++ s
theorem DecSt.first (n : Nat) : DecSt n (n / 10) [UInt8.ofNat (48 + n % 10)] := dec_step n
theorem DecSt.next {n k : Nat} {s : List UInt8} (h : DecSt n k s) (hk : k ≠ 0) : DecSt n (k / 10) (UInt8.ofNat (48 + k % 10) :: s) := by
  unfold DecSt at h ⊢
  rw [h, if_neg hk]
  conv => lhs; rw [dec_step k]
  simp
theorem DecSt.done {n : Nat} {s : List UInt8} (h : DecSt n 0 s) : s = Lib.decDigits n := by
  unfold DecSt at h
  rw [h, if_pos rfl]; rfl
theorem cons_bytes (c : UInt8) (y : ByteArray) : ((⟨#[c]⟩ : ByteArray) ++ y).data.toList = c :: y.data.toList := by
  simp
theorem DecSt.short {n k : Nat} {s : List UInt8} (h : DecSt n k s) (hn : n ≤ 9007199254740993) : s.length ≤ 16 := by
  have h1 := congrArg List.length h
  have h2 := nDig_le n 16 (by omega) (Nat.lt_of_le_of_lt hn (by decide))
  rw [List.length_append, Lib.decDigits_length] at h1
  omega
set_option maxRecDepth 100000 in
set_option maxHeartbeats 2000000 in
theorem x4Dec_any (w : World) (n : Nat) (hn : n ≤ 9007199254740993) : Calls Tryz.prog 78 #[.int .i64 n] w fun e w' => e = .returned (.string ⟨(Lib.decDigits n).toArray⟩) ∧ w = w' := by
  have h0 := DecSt.first n
  obtain ⟨d, hd⟩ : ∃ d, n % 10 = d := ⟨_, rfl⟩
  have hd10 : d < 10 := by omega
  have hm : (n : Int) % 10 = d := by omega
  have hdi : (d : Int) < 10 := by omega
  have hc := ten10_cut d hd10
  unfold ten10 at hc
  rw [hd] at h0
  have H0 := Lib.hid h0
  have Hc := Lib.hid hc
  clear hc h0
  go_enter Tryz.func78, Tryz.ntmps78
  go_wp2
  clear hm hdi
  go_loop [0, 3] (fun nv sv => ∃ (k : Nat) (y : ByteArray), k ≤ n ∧ nv = .int .i64 k ∧ sv = .string y ∧ DecSt n k y.data.toList) (fun nv _ => (intOf nv).toNat)
  case atStart => exact ⟨n / 10, _, by omega, rfl, by rw [Hc.out], H0.out⟩
  case round =>
    obtain ⟨k, y, hk, rfl, rfl, hst⟩ := hrel
    have hsz : y.size ≤ 100 := Nat.le_trans (show y.data.toList.length ≤ 16 from hst.short hn) (by omega)
    have Hst := Lib.hid hst
    clear hst
    by_cases hk0 : k = 0
    · subst hk0
      go_wp2
      go_ret
      refine ⟨?_, rfl⟩
      show Ending.returned (Value.string y) = _
      rw [← Hst.out.done]
    · obtain ⟨d', hd'⟩ : ∃ d', k % 10 = d' := ⟨_, rfl⟩
      have hd10' : d' < 10 := by omega
      have hm' : (k : Int) % 10 = d' := by omega
      have hdi' : (d' : Int) < 10 := by omega
      have hkp : (0 : Int) < k := by omega
      have hc' := ten10_cut d' hd10'
      have hnx := Hst.out.next hk0
      rw [hd'] at hnx
      obtain ⟨cc, hcc⟩ : ∃ cc, UInt8.ofNat (48 + d') = cc := ⟨_, rfl⟩
      rw [hcc] at hc' hnx
      unfold ten10 at hc'
      rw [← cons_bytes cc y] at hnx
      obtain ⟨x, hx⟩ : ∃ x, (⟨#[cc]⟩ : ByteArray) = x := ⟨_, rfl⟩
      have hx1 : x.size = 1 := by rw [← hx]; rfl
      rw [hx] at hc' hnx
      have Hnx := Lib.hid hnx
      clear hd' hcc hx hnx
      go_wp2
      go_round
      case rel => exact ⟨k / 10, x ++ y, by omega, rfl, rfl, Hnx.out⟩
      case measure => simp [intOf]; omega
set_option maxRecDepth 100000 in
set_option maxHeartbeats 2000000 in
theorem x4Name_any (w : World) (n : Nat) (hn : n ≤ 9007199254740993) : Calls Tryz.prog 44 #[.int .i64 n] w fun e w' => e = .returned (.string (wName n)) ∧ w = w' := by
  have hD := x4Dec_any w n hn
  have hc := wName_cat n
  have hsz : (⟨(Lib.decDigits n).toArray⟩ : ByteArray).size ≤ 100 := by
    have := nDig_le n 16 (by omega) (Nat.lt_of_le_of_lt hn (by decide))
    show (Lib.decDigits n).toArray.size ≤ 100
    rw [List.size_toArray, Lib.decDigits_length]; omega
  generalize (⟨(Lib.decDigits n).toArray⟩ : ByteArray) = x at hc hsz hD
  have HD := Lib.hid hD
  have HC := Lib.hid hc
  clear hD hc
  go_enter Tryz.func44, Tryz.ntmps44
  go_wp2_with (go_at_call 78; refine HD.out.mono ?_; rintro e w1 ⟨rfl, rfl⟩)
  go_ret
  exact ⟨by rw [← HC.out]; rfl, rfl⟩
end Go.Proofs.YtbiadclmonakkaaGreatDoor

/-
  A journal that is built (the statements' helper).
-/
namespace Go.Proofs.YtbiadclmonakkaaGreatDoor
open Go.RowKit Go.Maps Go.MapKept
set_option linter.unusedSimpArgs false

theorem Built.alOk {n0 size : Nat} {L : List (List UInt8)} {d : ADisk} {al : ALog} {ss : List Seg} (h : Built n0 size L d al ss) (h1 : n0 ≤ 70000) (h2 : size ≤ 1000) (h3 : L.length ≤ 50) : al.Ok ∧ al.segs.length ≤ 50 := by
  have a1 := h.nextOf_le
  have a2 := h.lenOf_le
  have a3 := h.synced_le
  have a4 := h.count
  have a5 := h.j.next
  have a6 := h.j.bytes
  have a7 : al.segs.length = ss.length := by rw [h.j.segs, List.length_map]
  exact ⟨⟨by rw [h.sz]; omega, by omega, by omega, by omega, fun x hx => Nat.le_succ_of_le (h.firsts x hx), by omega⟩, by omega⟩
section
variable {ex : Nat → Prop} {w : World} {q p m : Nat} {d : ADisk} {al : ALog}
/-- what Append of a journal that is built leaves. -/
def BAppPost (ex : Nat → Prop) (w : World) (q p m n0 size : Nat) (L : List (List UInt8)) (e : Ending) (w' : World) : Prop :=
  e = .returned (.int .i64 0) ∧ Keep ex w w' ∧ ∃ d al ss, LogAt ex w' q p m d al ∧ Built n0 size L d al ss
theorem wAppend_built {n0 size : Nat} {L : List (List UInt8)} {ss : List Seg} (n : Int) (vb : Value) (b : List UInt8) (h : LogAt ex w q p m d al) (hB : Built n0 size L d al ss) (hE : WEnv w) (hG : GlIn ex) (hn : n = ((n0 + L.length : Nat) : Int)) (hv : ∀ w', Keep ex w w' → Rd w' vb (bcells b)) (hb : b.length ≤ 40) (hL : L.length ≤ 40) (hn0 : 1 ≤ n0) (hn1 : n0 ≤ 70000) (h64 : 64 ≤ size) (h1000 : size ≤ 1000) :
    Calls Tryz.prog 22 #[.pointer (some ⟨q, 0, none⟩), .int .i64 n, vb] w (BAppPost ex w q p m n0 size (L ++ [b])) := by
  obtain ⟨hok, hml⟩ := hB.alOk hn1 h1000 (by omega)
  obtain ⟨d', al', ss', he, hB'⟩ := built_more hB b hb hL hn0 hn1 h64
  have hA := wAppend_at n vb b h hE hG (by unfold isI64; omega) hv (by omega) hok (by omega)
  rw [hn, he] at hA
  rw [hn]
  exact hA.mono fun e w' hw => ⟨hw.1, hw.2.2, d', al', ss', hw.2.1, hB'⟩
end
/-- one record is appended, as the program builds it. -/
theorem recs_one1 (w : World) (v : Value) (L : List XRec) (x : XRec) (z : Int) (hz : z = x.n) (n : Nat) (hn : n = L.length) (hown : w.ownsRow 0 47 2 v n (recX L)) (h1 : x.vb.oneCell' = true) (h63 : n ≤ 1073741823) :
    ∃ v' w', (Builtin.append_ #[28, 28] 28 #[v, .slice (some ⟨w.heap.size, 0, none⟩) 1 1]).run Tryz.prog (w.alloc (.cells #[.int .i64 z, x.vb] 47)) = .ok v' w' ∧ w'.ownsRow 0 47 2 v' (n + 1) (recX (L ++ [x])) ∧
      (w.alloc (.cells #[.int .i64 z, x.vb] 47)).grownBy w' v.ownBlock ∧ (v'.ownBlock = v.ownBlock ∨ ∃ g, v'.ownBlock = some g ∧ w.heap.size ≤ g) := by
  subst hz
  obtain ⟨b0, b1, _⟩ := cells2 (alloc_at w (.cells #[.int .i64 (x.n : Int), x.vb] 47))
  obtain ⟨v', w', h2, h3, h4, h5⟩ := run_append_recs (w.alloc (.cells #[.int .i64 (x.n : Int), x.vb] 47)) v n L [x] hn (((Upd.refl noFp w).alloc _).row hown (fun _ _ h => h)) w.heap.size 0 1 1 rfl
    (fun j u hu => by
      match j, hu with
      | 0, h => cases h; exact b0
      | 1, h => cases h; exact b1) (fun u hu => by
      have : u = .int .i64 (x.n : Int) ∨ u = x.vb := by simpa [recX] using hu
      rcases this with rfl | rfl
      · rfl
      · exact h1) (by omega)
  refine ⟨v', w', h2, h3, h4, ?_⟩
  rcases h5 with h5 | ⟨g, h5, h6⟩
  · exact Or.inl h5
  · exact Or.inr ⟨g, h5, by simp at h6; omega⟩
/-- the records that are taken of those that are given. -/
def short40 (b : List UInt8) : Bool := decide (b.length ≤ 40)
def builtL (rows : List (List UInt8)) : List (List UInt8) := (rows.take 40).filter short40
def builtN (first : Nat) : Nat := 1 + first
def builtS (size : Int) : Nat := (64 + pickI size 200).toNat
theorem builtS_le (size : Int) : 64 ≤ builtS size ∧ builtS size < 264 ∧ ((builtS size : Nat) : Int) = 64 + pickI size 200 := by
  have := pickI_lt size 200 (by omega)
  unfold builtS
  omega
theorem builtL_le (rows : List (List UInt8)) : (builtL rows).length ≤ 40 := by
  unfold builtL
  refine Nat.le_trans (List.length_filter_le _ _) ?_
  rw [List.length_take]; omega
/-- what built leaves: W is where the arguments were read. -/
structure BuiltFin (ex : Nat → Prop) (bs : Nat) (W w' : World) (q p m : Nat) (a : Option Addr) (c n : Nat) (XL : List XRec) (n0 size : Nat) (L : List (List UInt8)) (d : ADisk) (al : ALog) (ss : List Seg) : Prop where
  log : LogAt (fun k => ex k ∨ (Value.slice a n c).ownBlock = some k) w' q p m d al
  row : w'.ownsRow bs 47 2 (.slice a n c) n (recX XL)
  low : ∀ x ∈ XL, Rd W x.vb (bcells x.b)
  map : XL.map XRec.rec4 = numbered n0 L
  len : XL.length = n
  built : Built n0 size L d al ss
  new : bs ≤ q
def BuiltPost (ex : Nat → Prop) (W w : World) (first : Nat) (size : Int) (rows : List (List UInt8)) (e : Ending) (w' : World) : Prop :=
  ∃ q p m a c n XL d al ss, e = .returned (.tuple #[.pointer (some ⟨p, 0, none⟩), .pointer (some ⟨q, 0, none⟩), .slice a n c, .bool true]) ∧ Keep ex w w' ∧
    BuiltFin ex w.heap.size W w' q p m a c n XL (builtN first) (builtS size) (builtL rows) d al ss

section
variable {ex : Nat → Prop}
set_option maxRecDepth 100000 in
set_option maxHeartbeats 8000000 in
theorem built_any {W w : World} (vr : Value) (rows : List (List UInt8)) (first : Nat) (size : Int) (hW : RowsAt W vr rows) (hB : Below W.heap.size W w) (hE : WEnv w) (hG : GlIn ex) (hlt : ∀ k, ex k → k < w.heap.size) (hlow : ∀ k, k < W.heap.size → ex k) (hf : first ≤ 65535) (_hs : isI64 size) :
    Calls Tryz.prog 11 #[.agg #[vr, .int .u16 first, .int .i64 size]] w (BuiltPost ex W w first size rows) := by
  obtain ⟨ar, cr, rfl⟩ := SliceOf.shape hW
  have hrl := SliceOf.len_le hW
  simp only [maxLen] at hrl
  obtain ⟨s1, s2, s3⟩ := builtS_le size
  have hbx := alloc_at w (.cells #[.slice ar rows.length cr, .int .u16 first, .int .i64 size] 25)
  obtain ⟨w1, hw1⟩ : ∃ w1, w.alloc (.cells #[.slice ar rows.length cr, .int .u16 first, .int .i64 size] 25) = w1 := ⟨_, rfl⟩
  have hB1 : Below w.heap.size w w1 := by rw [← hw1]; exact (Below.refl _ _).alloc (Nat.le_refl _) _
  rw [hw1] at hbx
  have Hw1 := Lib.hid hw1
  obtain ⟨x0, x1, x2, _⟩ := cells3 hbx
  obtain ⟨ex1, hex1⟩ : ∃ ex1 : Nat → Prop, ex1 = fun k => ex k ∨ k = w.heap.size := ⟨_, rfl⟩
  have hx1 : ∀ k, ex1 k → k < w1.heap.size := fun k hk => by
    rw [hex1] at hk
    have := blk_lt hbx
    rcases hk with hk | rfl
    · have := hlt k hk; omega
    · exact this
  have hNew := New_at (w := w1) (ex := ex1) 1048576 (by decide) (by decide) hx1
  obtain ⟨p, hp⟩ : ∃ p, w1.heap.size + 1 = p := ⟨_, rfl⟩
  obtain ⟨m, hm⟩ : ∃ m, w1.heap.size = m := ⟨_, rfl⟩
  rw [hp, hm] at hNew
  have hG1 : GlIn ex1 := hG.mono (fun k hk => by rw [hex1]; exact Or.inl hk)
  have hpk := fun wX => Pick_any wX size 200 (by unfold isI64; omega)
  obtain ⟨pk, hpke⟩ : ∃ pk, pickI size 200 = pk := ⟨_, rfl⟩
  rw [hpke] at hpk s3
  obtain ⟨sz, hsz⟩ : ∃ sz, builtS size = sz := ⟨_, rfl⟩
  rw [hsz] at s1 s2 s3
  have hO := fun wX dX (hX : DiskAt ex1 wX p m dX) (hEX : WEnv wX) => wOpen_at (64 + pk) hX hEX hG1
  rw [← s3] at hO
  have hnew0 := open_bare (d := ⟨1048576, -1, false, []⟩) ⟨List.Pairwise.nil, fun _ _ _ => rfl⟩ rfl (sz : Int) (by omega) (by omega)
  have hO0 := fun wX (hX : DiskAt ex1 wX p m ⟨1048576, -1, false, []⟩) (hEX : WEnv wX) => hO wX _ hX hEX
  rw [hnew0.1] at hO0
  unfold OpenPost at hO0
  simp only at hO0
  have HNew := Lib.hid hNew
  have Hpk := Lib.hid hpk
  have HO := Lib.hid hO0
  have Hsz := Lib.hid hsz
  have Hex1 := Lib.hid hex1
  have Hs3 := Lib.hid s3
  obtain ⟨n0, hn0⟩ : ∃ n0, builtN first = n0 := ⟨_, rfl⟩
  have hn1 : 1 ≤ n0 ∧ n0 ≤ 70000 := by rw [← hn0]; unfold builtN; omega
  have Hn0 := Lib.hid hn0
  clear hNew hpk hO hO0 hsz hex1 hp hm hpke hnew0 hw1 s3 hn0
  have hE1 : WEnv w1 := hE.below hB1
  have HE1 := Lib.hid hE1
  have hp0 : 0 ≤ pk := by have := Hs3.out; omega
  have hp1 : pk < 200 := by have := Hs3.out; omega
  go_enter Tryz.func11, Tryz.ntmps11
  go_wp2_with first
    | (rw [Hw1.out]; go_at_call 32; refine HNew.out.mono ?_; rintro e w2 ⟨rfl, hD2, hK2⟩; have hE2 := HE1.out.keep hK2 hG1; have y0 := (hK2.cell (b := w.heap.size) (by rw [Hex1.out]; exact Or.inr rfl) 0).trans x0; have y1 := (hK2.cell (b := w.heap.size) (by rw [Hex1.out]; exact Or.inr rfl) 1).trans x1; have y2 := (hK2.cell (b := w.heap.size) (by rw [Hex1.out]; exact Or.inr rfl) 2).trans x2)
    | (go_at_call 15; refine (Hpk.out _).mono ?_; rintro e w3 ⟨rfl, rfl⟩)
    | (go_at_call 17; rw [← Hs3.out]; refine (HO.out w2 hD2 hE2).mono ?_; rintro e w3 ⟨hK3, hor⟩; obtain ⟨_, q, a3, c3, XL, rfl, hF⟩ := hor.resolve_left (fun h => h.1 rfl); have z0 := (hK3.cell (b := w.heap.size) (by rw [Hex1.out]; exact Or.inr rfl) 0).trans y0; have z1 := (hK3.cell (b := w.heap.size) (by rw [Hex1.out]; exact Or.inr rfl) 1).trans y1)
  obtain rfl : XL = [] := List.map_eq_nil_iff.1 hF.map
  have hlow1 : ∀ k, k < W.heap.size → ex1 k := fun k hk => by rw [Hex1.out]; exact Or.inl (hlow k hk)
  have hexx : ∀ k, ex k → ex1 k := fun k hk => by rw [Hex1.out]; exact Or.inl hk
  have hexb : ex1 w.heap.size := by rw [Hex1.out]; exact Or.inr rfl
  have hKw : Keep ex w w3 := (Keep.ofBelow hB1 hlt).trans ((hK2.trans hK3).mono hexx)
  have hB3 : Below W.heap.size W w3 := hB.trans ((hKw.below (N := W.heap.size) hlow))
  have hE3 := HE1.out.keep (hK2.trans hK3) hG1
  have hst : ∀ d al ss, LogAt ex1 w3 q p m d al → Built n0 sz [] d al ss → BuiltFin ex1 w.heap.size W w3 q p m none 0 0 [] n0 sz [] d al ss := fun d al ss h1 h2 =>
    ⟨h1.mono (fun k hk => hk.elim id (fun e => (by cases e))), World.ownsRow_nil _ _ _ _, fun x hx => (by cases hx), rfl, rfl, h2, by have := hF.new.1; have := hK2.size; have := hB1.size; omega⟩
  have hst0 := hst _ _ _ (hF.log.mono (fun k hk => Or.inl hk)) (built_new n0 sz)
  have Hst0 := Lib.hid hst0
  have HKw := Lib.hid hKw
  have HB3 := Lib.hid hB3
  have HE3 := Lib.hid hE3
  have Hlow1 := Lib.hid hlow1
  have Hexx := Lib.hid hexx
  have Hexb := Lib.hid hexb
  clear hst hst0 hKw hB3 hE3 hlow1 hexx hexb hF x0 x1 x2 y0 y1 y2 hD2 hE2
  go_wp2
  go_loopw [11, 12, 13] (fun va n i wr => ∃ (k cnt : Nat) (a : Option Addr) (c : Nat) (XL : List XRec) (d : ADisk) (al : ALog) (ss : List Seg), k ≤ rows.length ∧ k ≤ 40 ∧ cnt ≤ k ∧ i = .int .i64 k ∧ n = .int .i64 ((n0 + cnt : Nat) : Int) ∧ va = .slice a cnt c ∧
    BuiltFin ex1 w.heap.size W wr q p m a c cnt XL n0 sz ((rows.take k).filter short40) d al ss ∧ Keep ex1 w3 wr ∧ ∀ g, (Value.slice a cnt c).ownBlock = some g → w3.heap.size ≤ g) (fun _ _ i _ => rows.length - (intOf i).toNat)
  case atStart => exact ⟨0, 0, none, 0, [], _, _, _, by omega, by omega, by omega, rfl, by rw [← Hn0.out]; unfold builtN; congr 1, rfl, Hst0.out, Keep.refl _ _, fun g hg => (by cases hg)⟩
  case round =>
    obtain ⟨k, cnt, a, c, XL, d, al, ss, hk, hk40, hck, rfl, rfl, rfl, hF, hK, hnr⟩ := hrel
    have hz0 := (hK.cell Hexb.out 0).trans z0
    have hBr := HB3.out.trans ((hK.below (N := W.heap.size) Hlow1.out))
    have hEr := HE3.out.keep hK hG1
    obtain ⟨Lk, hLk⟩ : ∃ l, (rows.take k).filter short40 = l := ⟨_, rfl⟩
    rw [hLk] at hF
    have hcnt : Lk.length = cnt := by
      have := congrArg List.length hF.map
      rw [List.length_map, numbered_len, hF.len] at this
      exact this.symm
    by_cases hlk : k < rows.length ∧ k < 40
    · obtain ⟨hl1, hl2⟩ := hlk
      obtain ⟨b, off, v, rfl, hblk, hcW, hrdW, _⟩ := hW.at (Below.refl _ _) k hl1
      have hc := (hBr.cell (p := ⟨b, off + k, none⟩) (cell_lt hcW)).trans hcW
      obtain ⟨av, cv, rfl⟩ := hrdW.shape
      rw [bcells_length] at hrdW hc hcW
      have hLk1 : (rows.take (k + 1)).filter short40 = Lk ++ [rows[k]].filter short40 := by rw [List.take_succ_eq_append_getElem hl1, List.filter_append, hLk]
      obtain ⟨B, hBe⟩ : ∃ B, rows[k] = B := ⟨_, rfl⟩
      rw [hBe] at hrdW hc hcW hLk1
      by_cases hbl : B.length ≤ 40
      · have hLk2 : (rows.take (k + 1)).filter short40 = Lk ++ [B] := by rw [hLk1]; simp [short40, hbl]
        have hb40 : ¬ (40 : Int) < (B.length : Int) := by omega
        have hv : ∀ w', Keep (fun j => ex1 j ∨ (Value.slice a cnt c).ownBlock = some j) wr w' → Rd w' (.slice av B.length cv) (bcells B) := fun w' hw' => hrdW.keepLow (hBr.trans (hw'.below (N := W.heap.size) (fun j hj => Or.inl (Hlow1.out j hj))))
        have hA := wAppend_built ((n0 + cnt : Nat) : Int) (.slice av B.length cv) B hF.log hF.built hEr (hG1.mono (fun _ hj => Or.inl hj)) (by rw [hcnt]) hv hbl (by omega) hn1.1 hn1.2 s1 (by omega)
        have HA := Lib.hid hA
        have HF := Lib.hid hF
        have HLk2 := Lib.hid hLk2
        have HrdW := Lib.hid hrdW
        have Hcnt := Lib.hid hcnt
        have HBr := Lib.hid hBr
        have Hnr := Lib.hid hnr
        clear hA hF hLk2 hrdW hcnt hLk1 hBe hLk hv hEr hBr hnr hcW
        go_wp2_with first
          | (go_at_call 22; refine HA.out.mono ?_; rintro e w5 ⟨rfl, hK5, d5, al5, ss5, hLog5, hB5⟩; have hc5 := (hK5.cell (b := b) (Or.inl (Hlow1.out b hblk)) (off + k)).trans hc; have hz5 := (hK5.cell (b := w.heap.size) (Or.inl Hexb.out) 0).trans hz0; obtain ⟨v', w6, hrun, hro, hg6, hb6⟩ := recs_one1 w5 (.slice a cnt c) XL ⟨n0 + cnt, B, .slice av B.length cv⟩ ((n0 + cnt : Nat) : Int) rfl cnt HF.out.len.symm (ownsRow_base0 (hK5.row HF.out.row (fun g hg => Or.inr hg))) rfl (by omega); obtain ⟨a', c', rfl⟩ := row_rec hro; have Hrun := Lib.hid hrun; have Hro := Lib.hid hro; have Hg6 := Lib.hid hg6; have Hb6 := Lib.hid hb6; have HLog5 := Lib.hid hLog5; have HB5 := Lib.hid hB5; clear hrun hro hg6 hb6 hLog5 hB5)
          | (at_builtin; refine Lib.wpList_append_run _ rfl (.tmp 69) (.tmp 77) _ _ rfl _ _ rfl rfl _ _ Hrun.out ?_)
        have hU : Upd (fun g => (Value.slice a cnt c).ownBlock = some g) w5 w6 := ((Upd.refl _ w5).alloc _).grown Hg6.out (fun g hg => Or.inl hg)
        have hs5 := hK5.size
        have hsr := hK.size
        have hnew : ∀ g, (Value.slice a' (cnt + 1) c').ownBlock = some g → w3.heap.size ≤ g := by
          intro g hg
          rcases Hb6.out with e | ⟨g', e, hge⟩
          · exact Hnr.out g (e ▸ hg)
          · rw [e] at hg; cases hg; omega
        have hs3w : w.heap.size ≤ w3.heap.size := HKw.out.size
        have hexlt : ∀ j, ex1 j → j < w3.heap.size := fun j hj => by
          have := (HLog5.out.lt (Or.inl hj) : j < w5.heap.size)
          have := hx1 j hj
          have := hK2.size
          have := hK3.size
          omega
        have hF6 : BuiltFin ex1 w.heap.size W w6 q p m a' c' (cnt + 1) (XL ++ [⟨n0 + cnt, B, .slice av B.length cv⟩]) n0 sz (Lk ++ [B]) d5 al5 ss5 := by
          obtain ⟨vL, hvL⟩ := HLog5.out
          refine ⟨⟨vL, hvL.more_upd hU (fun j _ hj => Or.inr hj) (fun j hj => ?_)⟩, ownsRow_from Hro.out (fun g hg => by have := hnew g hg; omega), fun x hx => ?_, ?_, ?_, HB5.out, HF.out.new⟩
          · rcases hj with hj | hj
            · exact Or.inl (Or.inl hj)
            · rcases Hb6.out with e | ⟨g', e, hge⟩
              · exact Or.inl (Or.inr (e ▸ hj))
              · rw [e] at hj; cases hj; exact Or.inr ⟨hge, row_lt Hro.out e⟩
          · rcases List.mem_append.1 hx with hx | hx
            · exact HF.out.low x hx
            · simp only [List.mem_singleton] at hx; subst hx; exact HrdW.out
          · rw [List.map_append, HF.out.map, numbered_snoc, Hcnt.out]; rfl
          · rw [List.length_append, HF.out.len]; rfl
        have hK6 : Keep ex1 w3 w6 := (hK.trans (hK5.mono (fun _ hj => Or.inl hj))).trans (Keep.ofUpd hU (fun j hj => ⟨by have := hexlt j hj; omega, fun e => by have := hexlt j hj; have := Hnr.out j e; omega⟩))
        have HF6 := Lib.hid hF6
        have Hnew := Lib.hid hnew
        clear hF6 hU hexlt hnew
        go_roundw
        case rel => exact ⟨k + 1, cnt + 1, a', c', _, _, _, _, by omega, by omega, by omega, by go_num, by go_num, rfl, by rw [HLk2.out]; exact HF6.out, hK6, Hnew.out⟩
        case measure => simp [intOf]; omega
      · have hLk2 : (rows.take (k + 1)).filter short40 = Lk := by rw [hLk1]; simp [short40, hbl]
        have hb40 : (40 : Int) < (B.length : Int) := by omega
        have HF := Lib.hid hF
        have HLk2 := Lib.hid hLk2
        clear hF hLk2 hrdW hcnt hLk1 hBe hLk hEr hBr hcW
        go_wp2
        go_roundw
        case rel => exact ⟨k + 1, cnt, a, c, _, _, _, _, by omega, by omega, by omega, by go_num, rfl, rfl, by rw [HLk2.out]; exact HF.out, hK, hnr⟩
        case measure => simp [intOf]; omega
    · have hall : builtL rows = Lk := by
        rw [← hLk]
        unfold builtL
        rcases (by omega : k = rows.length ∨ k = 40) with e | e
        · rw [e, List.take_of_length_le (Nat.le_refl _), List.take_of_length_le (by omega)]
        · rw [e]
      rcases (by omega : ¬ ((k : Int) < rows.length) ∨ ((k : Int) < rows.length ∧ ¬ (k : Int) < 40)) with h1 | ⟨h1, h2⟩
      all_goals
        have HF := Lib.hid hF
        have Hall := Lib.hid hall
        clear hF hall hLk hcnt hlk hEr hBr
        go_wp2
        refine bodyPost_ret (v := .tuple #[.pointer (some ⟨p, 0, none⟩), .pointer (some ⟨q, 0, none⟩), .slice a cnt c, .bool true]) (by simp [results, Tryz.results11, go_sem]) rfl ?_
        refine ⟨q, p, m, a, c, cnt, XL, d, al, ss, rfl, HKw.out.trans (hK.mono Hexx.out), ?_⟩
        rw [Hn0.out, Hsz.out, Hall.out]
        have hF := HF.out
        exact ⟨hF.log.mono (fun j hj => hj.imp (Hexx.out j) id), hF.row, hF.low, hF.map, hF.len, hF.built, hF.new⟩
end
end Go.Proofs.YtbiadclmonakkaaGreatDoor

/-
  The calls of a log, their answers by name.
-/
namespace Go.Proofs.YtbiadclmonakkaaGreatDoor
open Go.RowKit Go.Maps Go.MapKept

theorem J.alOk {d : ADisk} {al : ALog} {ss : List Seg} (h : J d al ss) (hs : al.size ≤ 16777216) (hn : nextOf ss ≤ 9007199254740993) (hb : lenOf ss ≤ 1099511627776) (hc : ss.length ≤ 500) : al.Ok ∧ al.segs.length ≤ 500 := by
  have a1 := h.next
  have a2 := h.bytes
  have a7 : al.segs.length = ss.length := by rw [h.segs, List.length_map]
  have a3 : al.synced ≤ 9007199254740993 := by rcases h.sync with h1 | ⟨_, h1⟩ <;> omega
  exact ⟨⟨hs, by omega, by omega, a3, fun x hx => Nat.le_succ_of_le (h.inR x hx).2, by omega⟩, by omega⟩
section
variable {ex : Nat → Prop} {w w0 : World} {q p m : Nat} {d d' : ADisk} {al al' : ALog}
def OpenYes (ex : Nat → Prop) (w : World) (p m : Nat) (d : ADisk) (f : AFound) (size : Int) (n : Nat) (e : Ending) (w' : World) : Prop :=
  Keep ex w w' ∧ ∃ q a c XL, e = .returned (.tuple #[.pointer (some ⟨q, 0, none⟩), .slice a n c, .int .i64 0]) ∧ OpenFin ex w w' q p m d (f.log size) (.slice a n c) f.recs XL
theorem open_by (size : Int) {f : AFound} {n : Nat} (h : DiskAt ex w p m d) (hE : WEnv w) (hG : GlIn ex) (he : wOpen d size = (d', f, 0)) (hn : f.recs.length = n) :
    Calls Tryz.prog 17 #[.pointer (some ⟨p, 0, none⟩), .int .i64 size] w (OpenYes ex w p m d' f size n) := by
  have hO := wOpen_at size h hE hG
  rw [he] at hO
  subst hn
  refine hO.mono fun e w' hw => ?_
  obtain ⟨h1, ⟨h2, _⟩ | ⟨_, q, a, c, XL, h3, h4⟩⟩ := hw
  · exact absurd rfl h2
  · exact ⟨h1, q, a, c, XL, h3, h4⟩
/-- Append, of bytes in new memory, or of none. -/
theorem append_by (n : Int) (vb : Value) (b : List UInt8) (er : Int) (h : LogAt ex w0 q p m d al) (hB : Below w0.heap.size w0 w) (hE : WEnv w) (hG : GlIn ex) (hok : al.Ok ∧ al.segs.length ≤ 500) (hn : isI64 n) (hr : Rd w vb (bcells b)) (hv : ∀ g, vb.ownBlock = some g → w0.heap.size ≤ g ∧ g < w.heap.size) (hb : b.length ≤ 140737488355328) (he : wAppend d al n b = (d', al', er)) :
    Calls Tryz.prog 22 #[.pointer (some ⟨q, 0, none⟩), .int .i64 n, vb] w fun e w' => e = .returned (.int .i64 er) ∧ LogAt ex w' q p m d' al' ∧ Keep ex w0 w' := by
  have h1 : LogAt (fun k => ex k ∨ w0.heap.size ≤ k ∧ k < w.heap.size) w q p m d al := h.more hB (fun k hk => hk)
  have hA := wAppend_at n vb b h1 hE (hG.mono (fun _ hk => Or.inl hk)) hn (fun w' hK => hK.rd hr (fun g hg => Or.inr (hv g hg))) hb hok.1 (by omega)
  rw [he] at hA
  exact hA.mono fun e w' hw => ⟨hw.1, hw.2.1.mono (fun _ hk => Or.inl hk), (Keep.ofBelow hB (fun k hk => h.lt hk)).trans (hw.2.2.mono (fun _ hk => Or.inl hk))⟩
theorem sync_by (er : Int) (h : LogAt ex w q p m d al) (hE : WEnv w) (hok : al.Ok ∧ al.segs.length ≤ 500) (he : wSync d al = (d', al', er)) :
    Calls Tryz.prog 23 #[.pointer (some ⟨q, 0, none⟩)] w fun e w' => e = .returned (.int .i64 er) ∧ LogAt ex w' q p m d' al' ∧ Keep ex w w' := by
  have hA := wSync_at h hE hok.1
  rw [he] at hA
  exact hA
theorem last_by (z : Nat) (h : LogAt ex w q p m d al) (hok : al.Ok ∧ al.segs.length ≤ 500) (he : al.last = z) :
    Calls Tryz.prog 21 #[.pointer (some ⟨q, 0, none⟩)] w fun e w' => e = .returned (.int .i64 z) ∧ w = w' := by
  have hA := wLast_at h hok.1
  rw [he] at hA
  exact hA
theorem first_by (z : Nat) (h : LogAt ex w q p m d al) (he : al.first = z) :
    Calls Tryz.prog 24 #[.pointer (some ⟨q, 0, none⟩)] w fun e w' => e = .returned (.int .i64 z) ∧ w = w' := by
  have hA := wFirst_at h
  rw [he] at hA
  exact hA
theorem synced_by (z : Nat) (h : LogAt ex w q p m d al) (he : al.synced = z) :
    Calls Tryz.prog 25 #[.pointer (some ⟨q, 0, none⟩)] w fun e w' => e = .returned (.int .i64 z) ∧ w = w' := by
  have hA := wSynced_at h
  rw [he] at hA
  exact hA
def FilesPost (w : World) (ns : List ByteArray) (n : Nat) (e : Ending) (w' : World) : Prop := ∃ a c, e = .returned (.slice a n c) ∧ w'.ownsRow w.heap.size 9 1 (.slice a n c) n (sCells ns) ∧ Below w.heap.size w w'
theorem files_by (ns : List ByteArray) (n : Nat) (h : LogAt ex w q p m d al) (hE : WEnv w) (hok : al.Ok ∧ al.segs.length ≤ 500) (he : al.names = ns) (hn : ns.length = n) :
    Calls Tryz.prog 13 #[.pointer (some ⟨q, 0, none⟩)] w (FilesPost w ns n) := by
  have hA := wFiles_at h hE hok.1
  rw [he, hn] at hA
  exact hA
def TrimBy (ex : Nat → Prop) (w : World) (q p m : Nat) (d : ADisk) (al : ALog) (ns : List ByteArray) (n : Nat) (er : Int) (e : Ending) (w' : World) : Prop :=
  ∃ a c, e = .returned (.tuple #[.slice a n c, .int .i64 er]) ∧ w'.ownsRow w.heap.size 9 1 (.slice a n c) n (sCells ns) ∧ LogAt (fun j => ex j ∨ (Value.slice a n c).ownBlock = some j) w' q p m d al ∧ Keep ex w w'
theorem trim_by (below : Int) (ns : List ByteArray) (n : Nat) (er : Int) (h : LogAt ex w q p m d al) (hE : WEnv w) (hG : GlIn ex) (hb : isI64 below) (hok : al.Ok ∧ al.segs.length ≤ 500) (he : wTrim d al below = (d', al', ns, er)) (hn : ns.length = n) :
    Calls Tryz.prog 19 #[.pointer (some ⟨q, 0, none⟩), .int .i64 below] w (TrimBy ex w q p m d' al' ns n er) := by
  have hA := wTrim_at below h hE hG hb hok.1
  unfold TrimPost at hA
  rw [he] at hA
  subst hn
  exact hA
end
end Go.Proofs.YtbiadclmonakkaaGreatDoor

/-
  The walk of awake (chapter 04).
-/
namespace Go.Proofs.YtbiadclmonakkaaGreatDoor
open Go.RowKit Go.Maps Go.MapKept

theorem wName7 : wName 7 = ⟨#[119, 55]⟩ := by unfold wName; rw [Lib.decDigits_one (by omega)]; rfl
set_option maxRecDepth 100000 in
set_option maxHeartbeats 8000000 in
theorem awake4_any (w : World) (hE : WEnv w) : Calls Tryz.prog 12 #[] w fun e w' => e = .returned (.bool true) ∧ Below w.heap.size w w' := by
  have kc := fun (w : World) (C : Array Value) (n c : Nat) => Lib.run_convert_bytes_const (P := Tryz.prog) w 45 5 C n c Tryz.underlying45 Tryz.underlying5
  obtain ⟨d1, al1, d2, al2, d3, al3, a1, A1, a2, a3, A3, a4, A4, AN⟩ := aw_head
  obtain ⟨ex, hex⟩ : ∃ ex : Nat → Prop, ex = fun k => k < w.heap.size := ⟨_, rfl⟩
  have hx0 : ∀ k, ex k → k < w.heap.size := fun k hk => by rw [hex] at hk; exact hk
  have hG : GlIn ex := by rw [hex]; exact hE.lt
  have Hex := Lib.hid hex
  have HE := Lib.hid hE
  have hJ0 : J ⟨1000, -1, false, []⟩ (f0.log 64) [] := (open_bare (d := ⟨1000, -1, false, []⟩) ⟨List.Pairwise.nil, fun _ _ _ => rfl⟩ rfl 64 (by decide) (by decide)).2
  have hop := (open_bare (d := ⟨1000, -1, false, []⟩) ⟨List.Pairwise.nil, fun _ _ _ => rfl⟩ rfl 64 (by decide) (by decide)).1
  have ok0 := hJ0.alOk (by decide) (by decide) (by decide) (by decide)
  have ok1 := A1.j.alOk A1.small_ok.1 A1.small_ok.2.1 A1.small_ok.2.2.1 A1.small_ok.2.2.2
  have ok2 := A3.j.alOk A3.small_ok.1 A3.small_ok.2.1 A3.small_ok.2.2.1 A3.small_ok.2.2.2
  have ok3 := A4.j.alOk A4.small_ok.1 A4.small_ok.2.1 A4.small_ok.2.2.1 A4.small_ok.2.2.2
  have X1 := Lib.hid (And.intro a1 (And.intro a2 (And.intro a3 a4)))
  have XA := Lib.hid A1
  have X3 := Lib.hid A3
  have X4 := Lib.hid A4
  have XN := Lib.hid AN
  have K0 := Lib.hid ok0
  have K1 := Lib.hid ok1
  have K2 := Lib.hid ok2
  have K3 := Lib.hid ok3
  have Hop := Lib.hid hop
  clear hex hE a1 a2 a3 a4 A1 A3 A4 AN ok0 ok1 ok2 ok3 hop hJ0
  go_enter Tryz.func12, Tryz.ntmps12
  go_wp2_with fail
  refine (New_at (ex := ex) 1000 (by decide) (by decide) hx0).mono ?_
  generalize hp : w.heap.size + 1 = p
  generalize hm : w.heap.size = m
  rintro e w0 ⟨rfl, h0, kk0⟩
  clear hp
  go_wp2_with fail
  refine (open_by 64 h0 (HE.out.keep kk0 hG) hG Hop.out rfl).mono ?_
  rintro e w1 ⟨k1, q, ar, cr, XL, rfl, hF⟩
  have h1 := hF.log.mono (ex' := ex) (fun k hk => Or.inl hk)
  have kk1 := kk0.trans k1
  clear hF h0 kk0 k1
  go_wp2_with fail
  refine (last_by 0 h1 K0.out rfl).mono ?_
  rintro e w1' ⟨rfl, rfl⟩
  go_wp2_with fail
  have hBa : Below w1.heap.size w1 (w1.alloc (.cells #[.int .u8 97] 5 (1, 2))) := (Below.refl _ _).alloc (Nat.le_refl _) _
  have hE1 := HE.out.keep kk1 hG
  refine (append_by ((7 : Nat) : Int) _ [97] 0 h1 hBa (hE1.below hBa) hG K0.out (by unfold isI64; omega) (Rd_new _ _ _ _ (bcells [97]) _ _ rfl rfl) (fun g hg => by cases hg; exact ⟨Nat.le_refl _, by simp⟩) (by simp) X1.out.1).mono ?_
  rintro e w2 ⟨rfl, h2, k2⟩
  have kk2 := kk1.trans k2
  clear h1 kk1 k2 hBa hE1
  go_wp2_with fail
  refine (List_at h2.disk).mono ?_
  rw [aw_disk1 XA.out]
  rintro e w3 ⟨a3, c3, rfl, row3, _, hB3⟩
  have Row3 := Lib.hid row3
  clear row3
  go_wp2_with fail
  have ha3 : Rd (w3.alloc (.cells #[.string ⟨#[119, 55]⟩] 9)) (.slice a3 1 c3) (sCells [wName 7]) := (Rd.ofOwns Row3.out).below ((Below.refl _ _).alloc (Nat.le_refl _) _)
  have hb3 : Rd (w3.alloc (.cells #[.string ⟨#[119, 55]⟩] 9)) (.slice (some ⟨w3.heap.size, 0, none⟩) 1 1) (sCells [wName 7]) := by rw [wName7]; exact Rd_new _ _ _ _ _ _ _ rfl rfl
  refine (SameTexts_any _ _ _ _ _ ha3 hb3 (by simp [maxLen]) (by simp [maxLen])).mono ?_
  clear ha3 hb3
  rw [show decide (([wName 7] : List ByteArray) = [wName 7]) = true by simp]
  rintro e w4 ⟨rfl, hB4⟩
  have hB24 := hB3.trans (((Below.refl _ _).alloc (Nat.le_refl _) (.cells #[.string ⟨#[119, 55]⟩] 9)).trans (hB4.mono (by simp)) |>.mono hB3.size)
  have h4 := h2.below hB24
  have kk4 := kk2.trans (Keep.ofBelow hB24 (fun k hk => h2.lt hk))
  clear h2 kk2 hB3 hB4 hB24
  go_wp2_with fail
  have hnil : ∀ wX : World, Rd wX (.slice none 0 0) (bcells ([] : List UInt8)) := fun wX => Or.inl ⟨Or.inl rfl, rfl⟩
  have Hnil := Lib.hid hnil
  clear hnil
  refine (append_by ((9 : Nat) : Int) _ [] 18 h4 (Below.refl _ _) (HE.out.keep kk4 hG) hG K1.out (by unfold isI64; omega) (Hnil.out _) (fun g hg => by cases hg) (by simp) X1.out.2.1).mono ?_
  rintro e w5 ⟨rfl, h5, k5⟩
  have kk5 := kk4.trans k5
  clear h4 kk4 k5
  go_wp2_with fail
  refine (append_by ((8 : Nat) : Int) _ [] 0 h5 (Below.refl _ _) (HE.out.keep kk5 hG) hG K1.out (by unfold isI64; omega) (Hnil.out _) (fun g hg => by cases hg) (by simp) X1.out.2.2.1).mono ?_
  rintro e w6 ⟨rfl, h6, k6⟩
  have kk6 := kk5.trans k6
  clear h5 kk5 k6
  go_wp2_with fail
  refine (synced_by 6 h6 X3.out.sync).mono ?_
  rintro e w6' ⟨rfl, rfl⟩
  go_wp2_with fail
  refine (sync_by 0 h6 (HE.out.keep kk6 hG) K2.out X1.out.2.2.2).mono ?_
  rintro e w7 ⟨rfl, h7, k7⟩
  have kk7 := kk6.trans k7
  clear h6 kk6 k7
  go_wp2_with fail
  refine (synced_by 8 h7 X4.out.sync).mono ?_
  rintro e w7' ⟨rfl, rfl⟩
  go_wp2_with fail
  go_loopw [6] (fun nv wr => ∃ (n : Nat) (d : ADisk) (al : ALog), nv = .int .i64 n ∧ n ≤ 16 ∧ LogAt ex wr q p m d al ∧ Keep ex w wr ∧ (AwN n d al ∨ (n = 16 ∧ AwE d al))) (fun nv _ => 40 - (intOf nv).toNat)
  case atStart => exact ⟨9, d3, al3, rfl, by omega, h7, kk7, Or.inl XN.out⟩
  case round =>
    clear h7 kk7
    obtain ⟨n, d, al, rfl, hn16, hL, hK, hor⟩ := hrel
    have hEr := HE.out.keep hK hG
    rcases hor with hN | ⟨rfl, hE2⟩
    · have hnm : al.names = [wName 7] := by obtain ⟨R, h1, _⟩ := hN; exact aw_names1 h1
      have hokr : al.Ok ∧ al.segs.length ≤ 500 := by obtain ⟨R, h1, _⟩ := hN; exact h1.j.alOk h1.small_ok.1 h1.small_ok.2.1 h1.small_ok.2.2.1 h1.small_ok.2.2.2
      have hn9 : 9 ≤ n ∧ n ≤ 15 := by obtain ⟨R, _, _, h3, h4⟩ := hN; exact ⟨h3, h4⟩
      have hnx : ∃ d' al', wAppend d al n [98] = (d', al', 0) ∧ (AwN (n + 1) d' al' ∨ (n + 1 = 16 ∧ AwE d' al')) := by
        rcases (by omega : n < 15 ∨ n = 15) with h | rfl
        · obtain ⟨d', al', e1, e2⟩ := hN.next h; exact ⟨d', al', e1, Or.inl e2⟩
        · obtain ⟨d', al', e1, e2⟩ := hN.ends; exact ⟨d', al', e1, Or.inr ⟨rfl, e2⟩⟩
      obtain ⟨d', al', e1, e2⟩ := hnx
      have h40 : (n : Int) < 40 := by omega
      have HX := Lib.hid (And.intro e1 e2)
      have Hok := Lib.hid hokr
      have Hnm := Lib.hid hnm
      clear hN e1 e2 hokr hnm
      go_wp2_with fail
      refine (files_by [wName 7] 1 hL hEr Hok.out Hnm.out rfl).mono ?_
      unfold FilesPost
      rintro e wa ⟨aa, ca, rfl, hrow, hBa⟩
      clear hrow
      have hLa := hL.below hBa
      have hKa := hK.trans (Keep.ofBelow hBa (fun k hk => hL.lt hk))
      clear hL hK
      go_wp2_with fail
      have hBb : Below wa.heap.size wa (wa.alloc (.cells #[.int .u8 98] 5 (1, 2))) := (Below.refl _ _).alloc (Nat.le_refl _) _
      refine (append_by (n : Int) _ [98] 0 hLa hBb ((HE.out.keep hKa hG).below hBb) hG Hok.out (by unfold isI64; omega) (Rd_new _ _ _ _ (bcells [98]) _ _ rfl rfl) (fun g hg => by cases hg; exact ⟨Nat.le_refl _, by simp⟩) (by simp) HX.out.1).mono ?_
      rintro e wb ⟨rfl, hLb, kb⟩
      have hKb := hKa.trans kb
      clear hLa hKa kb hBa
      go_wp2
      go_roundw
      case rel => exact ⟨n + 1, d', al', by go_num, by omega, hLb, hKb, HX.out.2⟩
      case measure => simp [intOf]; omega
    · obtain ⟨ss, s1, s2, s3, s4, s5⟩ := hE2.small_ok
      have hokr := s1.alOk s2 s3 s4 s5
      obtain ⟨d5, al5, d6, f, t1, t2, t3, t4, t5, t6, t7⟩ := hE2.tail
      have hok6 := t7.alOk (by show (64 : Int).toNat ≤ 16777216; decide) (by decide) (by show (cont (15, [])).length ≤ 1099511627776; rw [cont_new, hd4_exact (by omega)]; decide) (by decide)
      have Hok := Lib.hid hokr
      have Hok6 := Lib.hid hok6
      have T1 := Lib.hid t1
      have T2 := Lib.hid (And.intro t2 t3)
      have T4 := Lib.hid (And.intro t4 (And.intro t5 t6))
      clear s1 s2 s3 s4 s5 hokr hok6 t1 t2 t3 t4 t5 t6 t7 hE2
      go_wp2_with fail
      refine (files_by [wName 7, wName 15] 2 hL hEr Hok.out T1.out rfl).mono ?_
      unfold FilesPost
      rintro e wa ⟨aa, ca, rfl, hrow, hBa⟩
      clear hrow
      have hLa := hL.below hBa
      have hKa := hK.trans (Keep.ofBelow hBa (fun k hk => hL.lt hk))
      clear hL hK hBa
      go_wp2_with fail
      refine (files_by [wName 7, wName 15] 2 hLa (HE.out.keep hKa hG) Hok.out T1.out rfl).mono ?_
      unfold FilesPost
      rintro e wb ⟨ab, cb, rfl, hrow, hBb⟩
      have Hrow := Lib.hid hrow
      have hLb := hLa.below hBb
      have hKb := hKa.trans (Keep.ofBelow hBb (fun k hk => hLa.lt hk))
      clear hrow hLa hKa hBb
      go_wp2_with fail
      refine (x4Name_any wb 15 (by omega)).mono ?_
      rintro e wb' ⟨rfl, rfl⟩
      go_wp2_with fail
      have hBc : Below wb.heap.size wb (wb.alloc (.cells #[.string ⟨#[119, 55]⟩, .string (wName 15)] 9)) := (Below.refl _ _).alloc (Nat.le_refl _) _
      have hac : Rd (wb.alloc (.cells #[.string ⟨#[119, 55]⟩, .string (wName 15)] 9)) (.slice ab 2 cb) (sCells [wName 7, wName 15]) := (Rd.ofOwns Hrow.out).below hBc
      have hbc : Rd (wb.alloc (.cells #[.string ⟨#[119, 55]⟩, .string (wName 15)] 9)) (.slice (some ⟨wb.heap.size, 0, none⟩) 2 2) (sCells [wName 7, wName 15]) := by rw [wName7]; exact Rd_new _ _ _ _ _ _ _ rfl rfl
      refine (SameTexts_any _ _ _ _ _ hac hbc (by simp [maxLen]) (by simp [maxLen])).mono ?_
      clear hac hbc
      rw [show decide (([wName 7, wName 15] : List ByteArray) = [wName 7, wName 15]) = true by simp]
      rintro e wc ⟨rfl, hBc2⟩
      have hBbc := hBc.trans (hBc2.mono hBc.size)
      have hLc := hLb.below hBbc
      have hKc := hKb.trans (Keep.ofBelow hBbc (fun k hk => hLb.lt hk))
      clear hLb hKb hBc hBc2 hBbc
      go_wp2_with fail
      refine (trim_by 15 [wName 7] 1 0 hLc (HE.out.keep hKc hG) hG (by unfold isI64; omega) Hok.out T2.out.1 rfl).mono ?_
      unfold TrimBy
      rintro e wd ⟨ag, cg, rfl, hrowg, hLd, kd⟩
      have hKd := hKc.trans kd
      have hexlt : ∀ k, ex k → k < wd.heap.size := fun k hk => hLd.lt (Or.inl hk)
      have hgl : ∀ g, (Value.slice ag 1 cg).ownBlock = some g → g < wd.heap.size := fun g hg => row_lt hrowg hg
      have Hgl := Lib.hid hgl
      have Hrg := Lib.hid hrowg
      have Hxl := Lib.hid hexlt
      clear hLc hKc kd hrowg hgl hexlt
      go_wp2_with fail
      have hBd : Below wd.heap.size wd (wd.alloc (.cells #[.int .i64 6] 3)) := (Below.refl _ _).alloc (Nat.le_refl _) _
      have hDd : DiskAt (fun k => (ex k ∨ (Value.slice ag 1 cg).ownBlock = some k) ∨ k = wd.heap.size) (wd.alloc (.cells #[.int .i64 6] 3)) p m d5 := hLd.disk.more hBd (fun k hk => hk.imp id (fun e => ⟨by omega, by simp; omega⟩))
      refine (Crash_at _ [6] hDd (Rd_new _ _ _ _ (iCells [6]) _ _ rfl rfl) (by simp) (fun x hx => by simp at hx; subst hx; unfold isI64; omega) (fun k hk => by cases hk; exact Or.inr rfl)).mono ?_
      rintro e we ⟨rfl, hDe, ke⟩
      have hKe : Keep (fun k => ex k ∨ (Value.slice ag 1 cg).ownBlock = some k) wd we := (Keep.ofBelow hBd (fun k hk => hk.elim (Hxl.out k) (Hgl.out k))).trans (ke.mono (fun k hk => Or.inl hk))
      have hrge : we.ownsRow wc.heap.size 9 1 (.slice ag 1 cg) 1 (sCells [wName 7]) := hKe.row Hrg.out (fun g hg => Or.inr hg)
      have hDe2 := hDe.mono (ex' := fun k => ex k ∨ (Value.slice ag 1 cg).ownBlock = some k) (fun k hk => Or.inl hk)
      have hKe2 := hKd.trans (hKe.mono (fun k hk => Or.inl hk))
      have Hre := Lib.hid hrge
      clear hLd hDd hDe ke hBd hKe hrge hKd
      go_wp2_with fail
      refine (open_by 64 hDe2 (HE.out.keep hKe2 hG) (hG.mono (fun k hk => Or.inl hk)) T2.out.2 T4.out.1).mono ?_
      rintro e wf ⟨kf, q2, af, cf, XL2, rfl, hF⟩
      have hLf := hF.log.mono (ex' := ex) (fun k hk => Or.inl (Or.inl hk))
      have hrf := kf.row Hre.out (fun g hg => Or.inr hg)
      have hKf := hKe2.trans (kf.mono (fun k hk => Or.inl hk))
      have Hrf := Lib.hid hrf
      clear hF hDe2 hKe2 kf hrf
      go_wp2_with fail
      have hBg : Below wf.heap.size wf (wf.alloc (.cells #[.string ⟨#[119, 55]⟩] 9)) := (Below.refl _ _).alloc (Nat.le_refl _) _
      have hag : Rd (wf.alloc (.cells #[.string ⟨#[119, 55]⟩] 9)) (.slice ag 1 cg) (sCells [wName 7]) := (Rd.ofOwns Hrf.out).below hBg
      have hbg : Rd (wf.alloc (.cells #[.string ⟨#[119, 55]⟩] 9)) (.slice (some ⟨wf.heap.size, 0, none⟩) 1 1) (sCells [wName 7]) := by rw [wName7]; exact Rd_new _ _ _ _ _ _ _ rfl rfl
      refine (SameTexts_any _ _ _ _ _ hag hbg (by simp [maxLen]) (by simp [maxLen])).mono ?_
      clear hag hbg
      rw [show decide (([wName 7] : List ByteArray) = [wName 7]) = true by simp]
      rintro e wg ⟨rfl, hBg2⟩
      have hBfg := hBg.trans (hBg2.mono hBg.size)
      have hLg := hLf.below hBfg
      have hKg := hKf.trans (Keep.ofBelow hBfg (fun k hk => hLf.lt hk))
      clear hLf hKf hBg hBg2 hBfg
      go_wp2_with fail
      refine (last_by 14 hLg Hok6.out T4.out.2.1).mono ?_
      rintro e wg' ⟨rfl, rfl⟩
      go_wp2_with fail
      refine (first_by 15 hLg T4.out.2.2).mono ?_
      rintro e wg' ⟨rfl, rfl⟩
      go_wp2
      go_ret
      exact ⟨rfl, hKg.below (fun k hk => by rw [Hex.out]; exact hk)⟩
end Go.Proofs.YtbiadclmonakkaaGreatDoor

/-
  The statements' helpers of chapter 04: sizes, sameInts.
-/
namespace Go.Proofs.YtbiadclmonakkaaGreatDoor
open Go.RowKit Go.Maps Go.MapKept

def sizesOf (d : ADisk) (l : List ByteArray) : List Int := l.flatMap fun s => [((afile d s).len : Int), ((afile d s).firm.length : Int)]
theorem sizesOf_len (d : ADisk) (l : List ByteArray) : (sizesOf d l).length = l.length * 2 := by
  induction l with
  | nil => rfl
  | cons s l ih => simp only [sizesOf, List.flatMap_cons, List.length_append, List.length_cons, List.length_nil] at ih ⊢; omega
theorem sizesOf_take (d : ADisk) (l : List ByteArray) (k : Nat) (hk : k < l.length) : sizesOf d (l.take (k + 1)) = sizesOf d (l.take k) ++ [((afile d l[k]).len : Int), ((afile d l[k]).firm.length : Int)] := by
  unfold sizesOf
  rw [List.take_succ_eq_append_getElem hk, List.flatMap_append]
  simp only [List.flatMap_cons, List.flatMap_nil, List.append_nil]
def IntsPost (w : World) (l : List Int) (n : Nat) (e : Ending) (w' : World) : Prop := ∃ a c, e = .returned (.slice a n c) ∧ w'.ownsRow w.heap.size 3 1 (.slice a n c) n (iCells l) ∧ Below w.heap.size w w'
set_option maxRecDepth 100000 in
set_option maxHeartbeats 8000000 in
theorem sizes4_any {ex : Nat → Prop} {w : World} {p m : Nat} {d : ADisk} (h : DiskAt ex w p m d) (n : Nat) (hn : d.names.length * 2 = n) :
    Calls Tryz.prog 27 #[.pointer (some ⟨p, 0, none⟩)] w (IntsPost w (sizesOf d d.names) n) := by
  have hwf := h.wf
  have hnl : d.names.length ≤ 200 := by simpa [ADisk.names] using hwf.count
  have hns : ∀ s ∈ d.names, s.size ≤ 40 := fun s hs => hwf.name_size hs
  have hL := List_at h
  obtain ⟨l, hl⟩ : ∃ l, d.names = l := ⟨_, rfl⟩
  rw [hl] at hL hnl hns hn ⊢
  obtain ⟨N, hN⟩ : ∃ N, l.length = N := ⟨_, rfl⟩
  rw [hN] at hL hnl hn
  have HL := Lib.hid hL
  have Hns := Lib.hid hns
  have HN := Lib.hid hN
  have Hn := Lib.hid hn
  clear hL hns hN hl hwf hn
  go_enter Tryz.func27, Tryz.ntmps27
  go_wp2_with (go_at_call 28; refine HL.out.mono ?_; rintro e w1 ⟨a1, c1, rfl, hrow1, _, hB1⟩)
  have hrd1 : Rd w1 (.slice a1 N c1) (sCells l) := Rd.ofOwns hrow1
  have Hrd1 := Lib.hid hrd1
  clear hrow1 hrd1
  go_loopw [3, 9] (fun vo i wr => ∃ (k : Nat) (a : Option Addr) (c : Nat), k ≤ N ∧ i = .int .i64 k ∧ vo = .slice a (k * 2) c ∧ wr.ownsRow w1.heap.size 3 1 (.slice a (k * 2) c) (k * 2) (iCells (sizesOf d (l.take k))) ∧ Below w1.heap.size w1 wr) (fun _ i _ => N - (intOf i).toNat)
  case atStart => exact ⟨0, none, 0, by omega, rfl, rfl, (by have h9 := World.ownsRow_nil w1 w1.heap.size 3 1; exact h9), Below.refl _ _⟩
  case round =>
    obtain ⟨k, a, c, hk, rfl, rfl, hrow, hB⟩ := hrel
    have Hrow := Lib.hid hrow
    clear hrow
    by_cases hlt : k < N
    · obtain ⟨b, o, rfl, hc⟩ := Hrd1.out.at k (by rw [sCells_length, HN.out]; exact hlt)
      have hkl : k < l.length := by rw [HN.out]; exact hlt
      simp only [sCells, List.getElem_map] at hc
      have hcr := (hB.cell (p := ⟨b, o + k, none⟩) (cell_lt hc)).trans hc
      have hss := Hns.out _ (List.getElem_mem hkl)
      have htk := sizesOf_take d l k hkl
      have htl := sizesOf_len d (l.take k)
      have htl1 := sizesOf_len d (l.take (k + 1))
      rw [List.length_take, HN.out, Nat.min_eq_left (by omega)] at htl htl1
      obtain ⟨s, hs⟩ : ∃ s, l[k] = s := ⟨_, rfl⟩
      rw [hs] at hcr hss htk
      have hBr := hB1.trans (hB.mono hB1.size)
      have hSz := fun wX (hX : Below w.heap.size w wX) => Size_at s (h.below hX) (Nat.le_trans hss (by decide))
      have hSy := fun wX (hX : Below w.heap.size w wX) => Synced_at s (h.below hX) (Nat.le_trans hss (by decide))
      obtain ⟨z1, hz1⟩ : ∃ z, (afile d s).len = z := ⟨_, rfl⟩
      obtain ⟨z2, hz2⟩ : ∃ z, (afile d s).firm.length = z := ⟨_, rfl⟩
      rw [hz1] at hSz htk
      rw [hz2] at hSy htk
      have HSz := Lib.hid hSz
      have HSy := Lib.hid hSy
      have Htk := Lib.hid htk
      have Htl := Lib.hid htl
      have Htl1 := Lib.hid htl1
      clear hs hc hSz hSy hz1 hz2 htk htl htl1
      go_wp2_with first
        | (go_at_call 14; refine (HSz.out wr hBr).mono ?_; rintro e w2 ⟨rfl, hB2⟩)
        | (go_at_call 31; refine (HSy.out w2 (hBr.trans (hB2.mono hBr.size))).mono ?_; rintro e w3 ⟨rfl, hB3⟩)
        | (at_builtin; refine append_i644 rfl (.tmp 13) (.tmp 20) rfl (.slice a (k * 2) c) (.slice (some ⟨w3.heap.size, 0, none⟩) 2 2) (sizesOf d (l.take k)) [(z1 : Int), (z2 : Int)] (sizesOf d (l.take (k + 1))) (k * 2) Htl.out.symm Htk.out.symm rfl (((Upd.refl noFp wr).thenBelow ((hB2.trans (hB3.mono hB2.size)).alloc (by have := hB2.size; have := hB3.size; omega) _) (Nat.le_refl _)).row (ownsRow_base0 Hrow.out) (fun _ _ h => h)) rfl (Rd_new _ _ _ _ (iCells [(z1 : Int), (z2 : Int)]) _ _ rfl rfl) (by rw [Htl.out]; simp; omega) ?_; intro v' w4 h1 h2 h3)
      rw [Htl1.out] at h1
      obtain ⟨a', c', rfl⟩ := row_int h1
      have hB23 := hB2.trans (hB3.mono hB2.size)
      have hU : Upd (fun g => (Value.slice a (k * 2) c).ownBlock = some g) wr w4 := ((Upd.refl _ wr).thenBelow (hB23.alloc hB23.size _) (Nat.le_refl _)).grown h2 (fun g hg => Or.inl hg)
      have hB4 : Below w1.heap.size w1 w4 := hB.trans (hU.below (fun g hg => row_from Hrow.out hg) hB.size)
      have h4 : w4.ownsRow w1.heap.size 3 1 (.slice a' ((k + 1) * 2) c') ((k + 1) * 2) (iCells (sizesOf d (l.take (k + 1)))) := by
        refine ownsRow_from h1 (fun g hg => ?_)
        rcases h3 with h3 | ⟨g', h3, hg'⟩
        · exact row_from Hrow.out (h3 ▸ hg)
        · rw [h3] at hg; cases hg; have := hB.size; have := hB23.size; simp at hg'; omega
      have H4 := Lib.hid h4
      clear h1 h2 h3 h4 hU
      go_roundw
      case rel => exact ⟨k + 1, a', c', by omega, by go_num, rfl, H4.out, hB4⟩
      case measure => simp [intOf]; omega
    · obtain rfl : k = N := by omega
      have hall : l.take k = l := List.take_of_length_le (by rw [HN.out]; exact Nat.le_refl _)
      have hrow := Hrow.out
      rw [hall] at hrow
      have Hr := Lib.hid hrow
      clear hrow hall
      have hnn := Hn.out
      subst hnn
      go_wp2
      go_ret
      exact ⟨a, c, rfl, ownsRow_from Hr.out (fun g hg => Nat.le_trans hB1.size (row_from Hr.out hg)), hB1.trans (hB.mono hB1.size)⟩
set_option maxRecDepth 100000 in
set_option maxHeartbeats 4000000 in
theorem sameInts4_yes (w : World) (a a' : Option Addr) (n c c' : Nat) (L : List Int) (hL : Rd w (.slice a n c) (iCells L)) (hM : Rd w (.slice a' n c') (iCells L)) (hnL : L.length = n) (hn : n ≤ 1099511627776) :
    Calls Tryz.prog 29 #[.slice a n c, .slice a' n c'] w fun e w' => e = .returned (.bool true) ∧ Below w.heap.size w w' := by
  have HL := Lib.hid hL
  have HM := Lib.hid hM
  have HnL := Lib.hid hnL
  have hne : ((n : Int) != (n : Int)) = false := by simp
  clear hL hM hnL
  go_enter Tryz.func29, Tryz.ntmps29
  go_wp2
  go_loopw [5] (fun i wr => ∃ k : Nat, k ≤ n ∧ i = .int .i64 k ∧ Below w.heap.size w wr) (fun i _ => n - (intOf i).toNat)
  case atStart => exact ⟨0, by omega, rfl, Below.refl _ _⟩
  case round =>
    obtain ⟨k, hk, rfl, hB⟩ := hrel
    by_cases hlt : k < n
    · obtain ⟨b, o, rfl, x0⟩ := (HL.out.below hB).at k (by rw [iCells_length, HnL.out]; exact hlt)
      obtain ⟨b', o', rfl, y0⟩ := (HM.out.below hB).at k (by rw [iCells_length, HnL.out]; exact hlt)
      simp only [iCells, List.getElem_map] at x0 y0
      obtain ⟨z, hz⟩ : ∃ z, L[k]'(by rw [HnL.out]; exact hlt) = z := ⟨_, rfl⟩
      rw [hz] at x0 y0
      have hzn : (z != z) = false := by simp
      have HB := Lib.hid hB
      clear hz hB
      go_wp2
      go_quiet (fail)
      go_wp2
      go_roundw
      case rel => exact ⟨k + 1, by omega, by go_num, below_drewN HB.out _⟩
      case measure => simp [intOf]; omega
    · obtain rfl : k = n := by omega
      go_wp2
      go_ret
      exact ⟨rfl, hB⟩
end Go.Proofs.YtbiadclmonakkaaGreatDoor

/-
  Records that are told, where they read; Append of bytes that were there.
-/
namespace Go.Proofs.YtbiadclmonakkaaGreatDoor
open Go.RowKit Go.Maps Go.MapKept

section
variable {ex : Nat → Prop} {w : World} {q p m : Nat} {d d' : ADisk} {al al' : ALog}
/-- Append, of bytes that were there from the beginning. -/
theorem append_low (n : Int) (vb : Value) (b : List UInt8) (er : Int) (h : LogAt ex w q p m d al) (hE : WEnv w) (hG : GlIn ex) (hok : al.Ok ∧ al.segs.length ≤ 500) (hn : isI64 n) (hv : ∀ w', Keep ex w w' → Rd w' vb (bcells b)) (hb : b.length ≤ 140737488355328) (he : wAppend d al n b = (d', al', er)) :
    Calls Tryz.prog 22 #[.pointer (some ⟨q, 0, none⟩), .int .i64 n, vb] w fun e w' => e = .returned (.int .i64 er) ∧ LogAt ex w' q p m d' al' ∧ Keep ex w w' := by
  have hA := wAppend_at n vb b h hE hG hn hv hb hok.1 (by omega)
  rw [he] at hA
  exact hA
/-- where records that are told read. -/
theorem OpenFin.rd {w' : World} {vr : Option Addr} {c n : Nat} {recs : List ARec} {XL : List XRec} (h : OpenFin ex w w' q p m d al (.slice vr n c) recs XL) (hn : recs.length = n) : RecRd w' vr XL := by
  have hr := h.row
  rw [hn] at hr
  exact RecRd.ofOwns hr (by rw [← hn, ← h.map, List.length_map]) h.ok.rd
theorem RecRd.keep {w' : World} {a : Option Addr} {n c : Nat} {L : List XRec} (h : RecRd w a L) (hk : Keep ex w w') (hb : ∀ g, RBlk (.slice a n c) L g → ex g) : RecRd w' a L := by
  refine ⟨fun hn => ?_, fun x hx => hk.rd (h.rd x hx) (fun g hg => hb g (Or.inr ⟨x, hx, hg⟩))⟩
  obtain ⟨b, o, rfl, hc⟩ := h.at_ hn
  exact ⟨b, o, rfl, fun j u hu => (hk.cell (hb b (Or.inl rfl)) (o + j)).trans (hc j u hu)⟩
end
theorem Keep.toUpd {ex : Nat → Prop} {w w' : World} (h : Keep ex w w') : Upd (fun k => ¬ ex k) w w' := ⟨h.os, h.tape, h.output, h.size, fun k _ hn => h.block k (Classical.not_not.1 hn)⟩
theorem RecRd.take {w : World} {a : Option Addr} {L : List XRec} (h : RecRd w a L) (j : Nat) : RecRd w a (L.take j) := by
  refine ⟨fun hn => ?_, fun x hx => h.rd x (List.mem_of_mem_take hx)⟩
  obtain ⟨b, o, e, hc⟩ := h.at_ (fun e => hn (by rw [e, List.take_nil]))
  refine ⟨b, o, e, fun i u hu => hc i u ?_⟩
  have e2 : recX L = recX (L.take j) ++ recX (L.drop j) := by rw [← recX_app, List.take_append_drop]
  rw [e2, List.getElem?_append_left (List.getElem?_eq_some_iff.1 hu).1]
  exact hu
theorem row_le_cap {w : World} {base : Nat} {e : TypeId} {sz n : Nat} {a : Option Addr} {c : Nat} {xs : List Value} (h : w.ownsRow base e sz (.slice a n c) n xs) : n ≤ c := by
  rcases h.2 with ⟨he, hz⟩ | ⟨g, cap, cur, he, _, _, hnc, _⟩
  · cases he; omega
  · cases he; exact hnc
theorem recs_len {XL : List XRec} {l : List ARec} (h : XL.map XRec.rec4 = l) : XL.length = l.length := by rw [← h, List.length_map]
end Go.Proofs.YtbiadclmonakkaaGreatDoor
