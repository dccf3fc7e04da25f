/-
  The journal's walks: the library's tables; a segment's name and number.
-/
import Derived.Outline
import Derived.BigQuiet
import Derived.Deep.QuietTactic
import Derived.Deep.RegionHeld3
import Derived.Lib.LaidTab
import Derived.Lib.AppendIntMem
import Derived.Shelf.Strconv.ErrVarAll
import Derived.Test.YtbiadclmonakkaaGreatDoorMShA
import Derived.Test.YtbiadclmonakkaaGreatDoorMWlA
import Derived.Test.YtbiadclmonakkaaGreatDoorMLoA
import Derived.Test.YtbiadclmonakkaaGreatDoorMByA
import Derived.ArgAppend
import Derived.Lib.SlBytesConst
import Derived.Deep.RegionLaw
namespace Go.Proofs.YtbiadclmonakkaaGreatDoor
open Go.RowKit Go.Maps Go.MapKept

/-- the library's tables, as their initialisers lay them. -/
structure WEnv (w : World) : Prop where
  tab : Lib.TabIs Tryz.prog w "internal/strconv.uint64pow10" .u64 Lib.pow10Tab
  syn : ∃ tp p, w.var? Tryz.prog "strconv.ErrSyntax" = some #[.iface tp p]
  rng : ∃ tp p, w.var? Tryz.prog "strconv.ErrRange" = some #[.iface tp p]
theorem gTab_is : Tryz.prog.globalNamed "internal/strconv.uint64pow10" = some 1 := by kernel_rfl
theorem gSyn_is : Tryz.prog.globalNamed "strconv.ErrSyntax" = some 2 := by kernel_rfl
theorem gRng_is : Tryz.prog.globalNamed "strconv.ErrRange" = some 3 := by kernel_rfl
/-- the tables are among the blocks that are kept. -/
structure GlIn (ex : Nat → Prop) : Prop where
  tab : ex 1
  syn : ex 2
  rng : ex 3
theorem GlIn.mono {ex ex' : Nat → Prop} (h : GlIn ex) (hm : ∀ k, ex k → ex' k) : GlIn ex' := ⟨hm _ h.tab, hm _ h.syn, hm _ h.rng⟩
theorem var_keep {ex : Nat → Prop} {w w' : World} (h : Keep ex w w') {n : String} {g : Nat} (hg : Tryz.prog.globalNamed n = some g) (hx : ex g) : w'.var? Tryz.prog n = w.var? Tryz.prog n := by
  unfold World.var?
  rw [hg]
  simp only [Option.bind_some]
  rw [h.block g hx]
theorem WEnv.keep {ex : Nat → Prop} {w w' : World} (h : WEnv w) (hk : Keep ex w w') (hg : GlIn ex) : WEnv w' := by
  refine ⟨?_, ?_, ?_⟩
  · unfold Lib.TabIs; rw [var_keep hk gTab_is hg.tab]; exact h.tab
  · rw [var_keep hk gSyn_is hg.syn]; exact h.syn
  · rw [var_keep hk gRng_is hg.rng]; exact h.rng
theorem var_lt {w : World} {n : String} {g : Nat} {x : Array Value} (hg : Tryz.prog.globalNamed n = some g) (h : w.var? Tryz.prog n = some x) : g < w.heap.size := by
  unfold World.var? at h
  rw [hg] at h
  simp only [Option.bind_some] at h
  rcases Nat.lt_or_ge g w.heap.size with h' | h'
  · exact h'
  · rw [Array.getElem?_eq_none h'] at h; cases h
theorem WEnv.lt {w : World} (h : WEnv w) : GlIn (fun k => k < w.heap.size) := by
  obtain ⟨_, _, hs⟩ := h.syn
  obtain ⟨_, _, hr⟩ := h.rng
  exact ⟨var_lt gTab_is h.tab, var_lt gSyn_is hs, var_lt gRng_is hr⟩
theorem WEnv.below {w w' : World} (h : WEnv w) (hb : Below w.heap.size w w') : WEnv w' := h.keep (Keep.ofBelow hb (fun _ hk => hk)) h.lt
theorem WEnv.drew {w : World} (h : WEnv w) : WEnv w.drew := h.below ((Below.refl _ _).drew)
theorem WEnv.alloc {w : World} (h : WEnv w) (o : Obj) : WEnv (w.alloc o) := h.below ((Below.refl _ _).alloc (Nat.le_refl _) o)

theorem wName_cat (n : Nat) : (⟨#[119]⟩ : ByteArray) ++ ⟨(Lib.decDigits n).toArray⟩ = wName n := by
  have := ByteArray.mk_append_mk [119] (Lib.decDigits n)
  rw [show (⟨#[119]⟩ : ByteArray) = ByteArray.mk [119].toArray from rfl, this]
  rfl

set_option maxRecDepth 100000 in
set_option maxHeartbeats 4000000 in
theorem wname_any (w : World) (n : Nat) (hn : n ≤ 9007199254740993) (hE : WEnv w) :
    Calls Tryz.prog 45 #[.int .i64 n] w fun e w' => e = .returned (.string (wName n)) ∧ Below w.heap.size w w' := by
  have hI := Tryz.strconv_Itoa (n : Int) (by omega) (by omega) w hE.tab
  rw [Lib.itoa_nonneg] at hI
  have HI := Lib.hid hI
  have hc := wName_cat n
  have hsz : (⟨(Lib.decDigits n).toArray⟩ : ByteArray).size ≤ 100 := by
    have := nDig_le n 16 (by omega) (Nat.lt_of_le_of_lt hn (by decide))
    show (Lib.decDigits n).toArray.size ≤ 100
    rw [List.size_toArray, Lib.decDigits_length]; omega
  generalize (⟨(Lib.decDigits n).toArray⟩ : ByteArray) = x at hc hsz HI
  have HC := Lib.hid hc
  clear hI hc
  go_enter Tryz.func45, Tryz.ntmps45
  go_wp2_with (go_at_call 79; refine HI.out.mono ?_; rintro e w1 ⟨rfl, k, os, rfl⟩)
  go_ret
  exact ⟨by rw [← HC.out]; rfl, Lib.below_grow _ _ (Nat.le_refl _) _ _⟩

theorem trim_is (s : ByteArray) : (⟨(Lib.trimPrefix s.data.toList [119]).toArray⟩ : ByteArray) = ⟨(trimW s).toArray⟩ := by
  unfold Lib.trimPrefix trimW
  congr 2
  have hp : Lib.hasPrefix s.data.toList [119] = decide (s.data.toList.take 1 = [119]) := by
    unfold Lib.hasPrefix
    cases s.data.toList with
    | nil => rfl
    | cons c r =>
      by_cases hc : c = 119
      · subst hc; simp [List.isPrefixOf]
      · have : ¬ (119 : UInt8) = c := fun e => hc e.symm
        simp [List.isPrefixOf, hc, this]
  rw [hp]
  by_cases h : s.data.toList.take 1 = [119]
  · rw [if_pos h, if_pos (by simpa using h)]; rfl
  · rw [if_neg h, if_neg (by simpa using h)]
set_option maxRecDepth 100000 in
set_option maxHeartbeats 4000000 in
theorem wnumber_any (w : World) (s : ByteArray) (hs : s.size ≤ 1000) (hE : WEnv w) :
    Calls Tryz.prog 111 #[.string s] w fun e w' => ∃ n : Int, e = .returned (.tuple #[.int .i64 n, .bool (wNum s).isSome]) ∧ isI64 n ∧ (∀ k : Nat, wNum s = some k → n = k) ∧ Below w.heap.size w w' := by
  have hT := Tryz.strings_TrimPrefix s ⟨#[119]⟩ w
  rw [trim_is s] at hT
  have htl : (trimW s).length ≤ 1000 := by
    unfold trimW
    have : s.data.toList.length = s.size := by simp
    split
    · rw [List.length_drop]; omega
    · omega
  obtain ⟨t, ht⟩ : ∃ t : ByteArray, (⟨(trimW s).toArray⟩ : ByteArray) = t := ⟨_, rfl⟩
  have htd : t.data.toList = trimW s := by rw [← ht]
  have hts : t.size ≤ 1000 := by rw [← ht]; simpa [ByteArray.size] using htl
  rw [ht] at hT
  obtain ⟨b, hb⟩ : ∃ b, (wNum s).isSome = b := ⟨_, rfl⟩
  obtain ⟨tp, pv, hsyn⟩ := hE.syn
  obtain ⟨tr, pr, hrng⟩ := hE.rng
  have HT := Lib.hid hT
  clear hT ht
  rcases ha : Lib.atoiAll (trimW s) with v | _ | _
  · -- a number
    have hw : wNum s = if 1 ≤ v ∧ v ≤ 9007199254740992 ∧ s = wName v.toNat then some v.toNat else none := by unfold wNum; rw [ha]
    have hA := Tryz.strconv_Atoi_ok t (by omega) v (by rw [htd, ha]) w
    obtain ⟨v0, v1⟩ := Lib.atoiAll_bounds ha
    have HA := Lib.hid hA
    have HW := Lib.hid hw
    clear hA hw ha hsyn hrng
    by_cases h1 : v < 1
    · have hn := HW.out.trans (if_neg (by omega))
      have Hn := Lib.hid hn
      clear hn hb
      go_enter Tryz.func111, Tryz.ntmps111
      go_wp2_with first
        | (go_at_call 125; (with_reducible refine HT.out.mono ?_); rintro e w1 ⟨rfl, rfl⟩)
        | (go_at_call 124; (with_reducible refine HA.out.mono ?_); rintro e w2 ⟨rfl, hB⟩)
      go_ret2
      refine ⟨v, by rw [Hn.out]; rfl, ⟨v0, v1⟩, fun k hk => (by rw [Hn.out] at hk; cases hk), ?_⟩
      rcases hB with rfl | ⟨t, rfl⟩
      · exact Below.refl _ _
      · exact Lib.bytesWorld_below _ _ _
    · by_cases h2 : 9007199254740992 < v
      · have hn := HW.out.trans (if_neg (by omega))
        have Hn := Lib.hid hn
        clear hn hb
        go_enter Tryz.func111, Tryz.ntmps111
        go_wp2_with first
          | (go_at_call 125; (with_reducible refine HT.out.mono ?_); rintro e w1 ⟨rfl, rfl⟩)
          | (go_at_call 124; (with_reducible refine HA.out.mono ?_); rintro e w2 ⟨rfl, hB⟩)
        go_ret2
        refine ⟨v, by rw [Hn.out]; rfl, ⟨v0, v1⟩, fun k hk => (by rw [Hn.out] at hk; cases hk), ?_⟩
        rcases hB with rfl | ⟨t, rfl⟩
        · exact Below.refl _ _
        · exact Lib.bytesWorld_below _ _ _
      · obtain ⟨n, rfl⟩ : ∃ n : Nat, v = n := ⟨v.toNat, by omega⟩
        have hn : wNum s = if s = wName n then some n else none := by
          rw [HW.out]
          by_cases he : s = wName n
          · rw [if_pos he, if_pos ⟨by omega, by omega, by simpa using he⟩]; simp
          · rw [if_neg he, if_neg (by rintro ⟨_, _, h⟩; exact he (by simpa using h))]
        have hN := fun wX (hX : WEnv wX) => wname_any wX n (by omega) hX
        obtain ⟨x, hx⟩ : ∃ x, wName n = x := ⟨_, rfl⟩
        rw [hx] at hn hN
        have hse := strEq s x
        have h3 : (n : Int) ≤ 9007199254740992 := by omega
        have h4 : (1 : Int) ≤ n := by omega
        have HN := Lib.hid hN
        have Hn := Lib.hid hn
        have Hb := Lib.hid hb
        have Hse := Lib.hid hse
        clear hN hn hb h1 h2 HW hx hse
        go_enter Tryz.func111, Tryz.ntmps111
        go_wp2_with first
          | (go_at_call 125; (with_reducible refine HT.out.mono ?_); rintro e w1 ⟨rfl, rfl⟩)
          | (go_at_call 124; (with_reducible refine HA.out.mono ?_); rintro e w2 ⟨rfl, hB⟩; have hB : Below w1.heap.size w1 w2 := (by rcases hB with rfl | ⟨t, rfl⟩; exact Below.refl _ _; exact Lib.bytesWorld_below _ _ _))
          | (go_at_call 45; refine (HN.out w2 (hE.below hB)).mono ?_; rintro e w3 ⟨rfl, hB3⟩)
        go_ret2
        refine ⟨n, ?_, by unfold isI64; omega, fun k hk => ?_, hB.trans (hB3.mono hB.size)⟩
        · show Ending.returned (.tuple #[.int .i64 n, .bool (s.toList == x.toList)]) = _
          rw [Hse.out, Hn.out]
          by_cases h : s = x
          · rw [if_pos h, decide_eq_true h]; rfl
          · rw [if_neg h, decide_eq_false h]; rfl
        · rw [Hn.out] at hk
          split at hk
          · cases hk; rfl
          · cases hk
  · -- no numeral
    have hw : wNum s = none := by unfold wNum; rw [ha]
    have hA : Calls Tryz.prog 124 #[.string t] w fun e w' => ∃ N, e = .returned (.tuple #[.int .i64 0, .iface 216 (.pointer (some ⟨N, 0, none⟩))]) ∧ w.heap.size ≤ N ∧ w'.heap[N]? = some (.cells #[.string ⟨#[65, 116, 111, 105]⟩, .string t, .iface tp pv] 228 (0, 0)) ∧ Below w.heap.size w w' := Any.strconv_Atoi_syntax_var Tryz.laysC172 t (by omega) (by rw [htd, ha]) tp pv w hsyn
    have HA := Lib.hid hA
    have Hn := Lib.hid hw
    clear hA ha hsyn hrng hb hw
    go_enter Tryz.func111, Tryz.ntmps111
    go_wp2_with first
      | (go_at_call 125; (with_reducible refine HT.out.mono ?_); rintro e w1 ⟨rfl, rfl⟩)
      | (go_at_call 124; (with_reducible refine HA.out.mono ?_); rintro e w2 ⟨N, rfl, hN, hcell, hB⟩)
    go_ret2
    exact ⟨0, by rw [Hn.out]; rfl, by unfold isI64; omega, fun k hk => (by rw [Hn.out] at hk; cases hk), hB⟩
  · -- too great
    have hw : wNum s = none := by unfold wNum; rw [ha]
    have hA := Tryz.strconv_Atoi_range_var t (by omega) (by rw [htd, ha]) tr pr w hrng
    obtain ⟨s0, s1⟩ := Lib.atoiSat_bounds t.data.toList
    have HA := Lib.hid hA
    have Hn := Lib.hid hw
    generalize Lib.atoiSat t.data.toList = z at s0 s1 HA
    clear hA ha hsyn hrng hb hw
    go_enter Tryz.func111, Tryz.ntmps111
    go_wp2_with first
      | (go_at_call 125; (with_reducible refine HT.out.mono ?_); rintro e w1 ⟨rfl, rfl⟩)
      | (go_at_call 124; (with_reducible refine HA.out.mono ?_); rintro e w2 ⟨N, rfl, hN, hcell, hB⟩)
    go_ret2
    exact ⟨z, by rw [Hn.out]; rfl, ⟨s0, s1⟩, fun k hk => (by rw [Hn.out] at hk; cases hk), hB⟩
end Go.Proofs.YtbiadclmonakkaaGreatDoor

/-
  A log's segments in memory: a slice of pairs that is appended to, and cut ahead.
-/
namespace Go.Proofs.YtbiadclmonakkaaGreatDoor
open Go.RowKit Go.Maps Go.MapKept

def segCells (l : List (Nat × Bool)) : List Value := l.flatMap fun x => [.int .i64 (x.1 : Int), .bool x.2]
theorem segCells_length (l : List (Nat × Bool)) : (segCells l).length = l.length * 2 := by
  induction l with
  | nil => rfl
  | cons x l ih => unfold segCells at ih ⊢; rw [List.flatMap_cons, List.length_append, ih]; simp only [List.length_cons, List.length_nil]; omega
theorem segCells_app (l m : List (Nat × Bool)) : segCells (l ++ m) = segCells l ++ segCells m := by simp [segCells]
theorem segCells_get (l : List (Nat × Bool)) (i : Nat) (h : i < l.length) : (segCells l)[i * 2]? = some (.int .i64 (l[i].1 : Int)) ∧ (segCells l)[i * 2 + 1]? = some (.bool l[i].2) := by
  induction l generalizing i with
  | nil => simp at h
  | cons x l ih =>
    have he : segCells (x :: l) = [.int .i64 (x.1 : Int), .bool x.2] ++ segCells l := by simp [segCells]
    rw [he]
    cases i with
    | zero => exact ⟨rfl, rfl⟩
    | succ i =>
      have := ih i (by simpa using h)
      rw [List.getElem?_append_right (by simp; omega), List.getElem?_append_right (by simp; omega)]
      simp only [List.length_cons, List.length_nil, List.getElem_cons_succ]
      rw [show (i + 1) * 2 - 2 = i * 2 by omega, show (i + 1) * 2 + 1 - (0 + 1 + 1) = i * 2 + 1 by omega]
      exact this
/-- segments from a place of a block on. -/
structure SegIs (w : World) (g off c : Nat) (l : List (Nat × Bool)) : Prop where
  room : l.length ≤ c
  most : c ≤ maxLen
  blk : ∃ cs : Array Value, w.heap[g]? = some (.cells cs 89 (0, 0)) ∧ cs.size = off + c * 2 ∧ ∀ i u, (segCells l)[i]? = some u → cs[off + i]? = some u
def SegAt (w : World) (v : Value) (l : List (Nat × Bool)) : Prop := (v = .slice none 0 0 ∧ l = []) ∨ ∃ g off c, v = .slice (some ⟨g, off, none⟩) l.length c ∧ SegIs w g off c l
theorem SegAt.shape {w : World} {v : Value} {l : List (Nat × Bool)} (h : SegAt w v l) : ∃ a c, v = .slice a l.length c ∧ l.length ≤ c ∧ c ≤ maxLen := by
  rcases h with ⟨rfl, rfl⟩ | ⟨g, off, c, rfl, hs⟩
  · exact ⟨_, _, rfl, Nat.le_refl _, Nat.zero_le _⟩
  · exact ⟨_, _, rfl, hs.room, hs.most⟩
theorem SegAt.lt {w : World} {v : Value} {l : List (Nat × Bool)} (h : SegAt w v l) {g : Nat} (hg : v.ownBlock = some g) : g < w.heap.size := by
  rcases h with ⟨rfl, rfl⟩ | ⟨g', off, c, rfl, hs⟩
  · cases hg
  · cases hg
    obtain ⟨cs, h1, _⟩ := hs.blk
    exact blk_lt h1
theorem SegAt.of_block {w w' : World} {v : Value} {l : List (Nat × Bool)} (h : SegAt w v l) (hb : ∀ g, v.ownBlock = some g → w'.heap[g]? = w.heap[g]?) : SegAt w' v l := by
  rcases h with h | ⟨g, off, c, rfl, hs⟩
  · exact Or.inl h
  · obtain ⟨cs, h1, h2⟩ := hs.blk
    exact Or.inr ⟨g, off, c, rfl, hs.room, hs.most, cs, by rw [hb g rfl]; exact h1, h2⟩
theorem SegAt.upd {fp : Nat → Prop} {w w' : World} {v : Value} {l : List (Nat × Bool)} (h : SegAt w v l) (hu : Upd fp w w') (hn : ∀ g, v.ownBlock = some g → ¬ fp g) : SegAt w' v l :=
  h.of_block (fun g hg => hu.block g (h.lt hg) (hn g hg))
theorem SegAt.below {w w' : World} {v : Value} {l : List (Nat × Bool)} (h : SegAt w v l) (hb : Below w.heap.size w w') : SegAt w' v l := h.of_block (fun g hg => hb.block g (h.lt hg))
theorem SegAt.keep {ex : Nat → Prop} {w w' : World} {v : Value} {l : List (Nat × Bool)} (h : SegAt w v l) (hk : Keep ex w w') (hn : ∀ g, v.ownBlock = some g → ex g) : SegAt w' v l := h.of_block (fun g hg => hk.block g (hn g hg))
theorem SegAt.ofOwns {w : World} {base n : Nat} {v : Value} {l : List (Nat × Bool)} (h : w.ownsRow base 89 2 v n (segCells l)) (hn : n = l.length) : SegAt w v l := by
  subst hn
  obtain ⟨h1, ⟨rfl, h0⟩ | ⟨g, cap, cur, rfl, hb, hg, hc, hm, hs, ht⟩⟩ := h
  · exact Or.inl ⟨rfl, List.eq_nil_of_length_eq_zero h0⟩
  · refine Or.inr ⟨g, 0, cap, rfl, hc, hm, cur, hg, by omega, fun i u hu => ?_⟩
    rw [← ht, List.getElem?_take] at hu
    split at hu
    · rw [Nat.zero_add]; simpa using hu
    · cases hu
/-- a segment's two cells. -/
theorem SegIs.at {w : World} {g off c : Nat} {l : List (Nat × Bool)} (h : SegIs w g off c l) (i : Nat) (hi : i < l.length) :
    w.cell? ⟨g, off + i * 2, none⟩ = some (.int .i64 (l[i].1 : Int)) ∧ w.cell? ⟨g, off + i * 2 + 1, none⟩ = some (.bool l[i].2) ∧ w.frozen? ⟨g, off + i * 2, none⟩ = false ∧ w.frozen? ⟨g, off + i * 2 + 1, none⟩ = false := by
  obtain ⟨cs, h1, h2, h3⟩ := h.blk
  obtain ⟨e1, e2⟩ := segCells_get l i hi
  refine ⟨by rw [cell_at h1]; exact h3 _ _ e1, by rw [cell_at h1, Nat.add_assoc]; exact h3 _ _ e2, ?_, ?_⟩ <;> simp [World.frozen?, h1]
/-- the first one is left out. -/
theorem SegIs.tail {w : World} {g off c : Nat} {x : Nat × Bool} {l : List (Nat × Bool)} (h : SegIs w g off c (x :: l)) : SegIs w g (off + 2) (c - 1) l := by
  obtain ⟨cs, h1, h2, h3⟩ := h.blk
  have hr := h.room
  have hm := h.most
  simp only [List.length_cons] at hr
  refine ⟨by omega, by omega, cs, h1, by omega, fun i u hu => ?_⟩
  rw [Nat.add_assoc]
  refine h3 (2 + i) u ?_
  have he : segCells (x :: l) = [.int .i64 (x.1 : Int), .bool x.2] ++ segCells l := by simp [segCells]
  rw [he, List.getElem?_append_right (by simp)]
  simpa using hu
/-- the last one has records. -/
theorem SegIs.set {w : World} {g off c : Nat} {l : List (Nat × Bool)} {x : Nat × Bool} (h : SegIs w g off c (l ++ [x])) (b : Bool) : SegIs (w.setCell ⟨g, off + l.length * 2 + 1, none⟩ (.bool b)) g off c (l ++ [(x.1, b)]) := by
  obtain ⟨cs, h1, h2, h3⟩ := h.blk
  have hr := h.room
  simp only [List.length_append, List.length_cons, List.length_nil] at hr
  refine ⟨by simpa using h.room, h.most, _, setCell_at h1 _ _, by simpa using h2, fun i u hu => ?_⟩
  rw [segCells_app] at hu
  have hx : segCells [(x.1, b)] = [.int .i64 (x.1 : Int), .bool b] := rfl
  rw [hx] at hu
  have hlen := segCells_length l
  have h3' : ∀ i u, (segCells l ++ [Value.int .i64 (x.1 : Int), .bool x.2])[i]? = some u → cs[off + i]? = some u := by
    intro i u hu
    exact h3 i u (by rw [segCells_app]; exact hu)
  have hil := (List.getElem?_eq_some_iff.1 hu).1
  simp only [List.length_append, List.length_cons, List.length_nil, hlen] at hil
  rw [Array.getElem?_setIfInBounds]
  by_cases hi : i = l.length * 2 + 1
  · subst hi
    rw [if_pos (by omega), if_pos (by omega)]
    rw [List.getElem?_append_right (by omega), hlen] at hu
    simpa using hu
  · rw [if_neg (by omega)]
    refine h3' i u ?_
    by_cases hi2 : i < (segCells l).length
    · rw [List.getElem?_append_left hi2] at hu ⊢; exact hu
    · rw [List.getElem?_append_right (by omega)] at hu ⊢
      have h0 : i - (segCells l).length = 0 := by omega
      rw [h0] at hu ⊢
      exact hu
theorem info_seg : (Tryz.prog.info? 89).map (fun i => (i.zero, i.size, i.bytes)) = some (some (.agg #[.int .i64 0, .bool false]), 2, 16) := by kernel_rfl
theorem grown_none {w w' : World} {r : Option Nat} (h : w.grownBy w' none) : w.grownBy w' r := ⟨h.os, h.tape, h.output, h.size, fun k hk _ => h.block k hk (by simp)⟩
/-- a segment is appended. -/
theorem run_append_seg (w : World) (v : Value) (l : List (Nat × Bool)) (n : Int) (m : Nat) (b : Bool) (hnm : n = m) (hS : SegAt w v l) (hl : l.length ≤ 1000000) :
    ∃ a' c' w', (Builtin.append_ #[50, 50] 50 #[v, .slice (some ⟨w.heap.size, 0, none⟩) 1 1]).run Tryz.prog (w.alloc (.cells #[.int .i64 n, .bool b] 89)) = .ok (.slice a' (l.length + 1) c') w' ∧
      SegAt w' (.slice a' (l.length + 1) c') (l ++ [(m, b)]) ∧ (w.alloc (.cells #[.int .i64 n, .bool b] 89)).grownBy w' v.ownBlock ∧ ((Value.slice a' (l.length + 1) c').ownBlock = v.ownBlock ∨ ∃ g, (Value.slice a' (l.length + 1) c').ownBlock = some g ∧ w.heap.size ≤ g) := by
  subst hnm
  obtain ⟨i0, hi, hz0, hz1, hz2⟩ := info_parts info_seg
  obtain ⟨b0, b1, _⟩ := cells2 (alloc_at w (.cells #[.int .i64 (m : Int), .bool b] 89))
  have hnews : ∀ j u, [Value.int .i64 (m : Int), .bool b][j]? = some u → (w.alloc (.cells #[.int .i64 (m : Int), .bool b] 89)).cell? ((⟨w.heap.size, 0, none⟩ : Addr).add j) = some u := by
    intro j u hu
    match j, hu with
    | 0, h => cases h; exact b0
    | 1, h => cases h; exact b1
  have hone : ∀ u ∈ [Value.int .i64 (m : Int), .bool b], u.oneCell' = true := by
    intro u hu
    simp only [List.mem_cons, List.not_mem_nil, or_false] at hu
    rcases hu with rfl | rfl <;> rfl
  have hcat : segCells l ++ [Value.int .i64 (m : Int), .bool b] = segCells (l ++ [(m, b)]) := by rw [segCells_app]; rfl
  have hmx : (1000001 : Nat) ≤ maxLen := by decide
  rcases hS with ⟨rfl, rfl⟩ | ⟨g, off, c, rfl, hs⟩
  · obtain ⟨v', w', h1, h2, h3, _⟩ := run_append_own (P := Tryz.prog) (w.alloc (.cells #[.int .i64 (m : Int), .bool b] 89)) (w.alloc (.cells #[.int .i64 (m : Int), .bool b] 89)).heap.size 50 50 89 i0 _ 2 16 Tryz.underlying50 hi hz0 hz1 hz2 rfl (by omega) (.slice none 0 0) 0 [] (World.ownsRow_nil _ _ _ _) ⟨w.heap.size, 0, none⟩ 1 1 [.int .i64 (m : Int), .bool b] rfl hnews hone (by omega) (by omega) (Nat.le_refl _)
    have h2' : w'.ownsRow (w.alloc (.cells #[.int .i64 (m : Int), .bool b] 89)).heap.size 89 2 v' 1 (segCells [(m, b)]) := h2
    have hSeg := SegAt.ofOwns h2' rfl
    obtain ⟨a', c', rfl, _⟩ := hSeg.shape
    refine ⟨a', c', w', h1, hSeg, h3, ?_⟩
    rcases h2'.2 with ⟨_, h0⟩ | ⟨g', _, _, he, hb', _⟩
    · exact absurd h0 (by omega)
    · cases he
      exact Or.inr ⟨g', rfl, by simp only [World.size_alloc] at hb'; omega⟩
  · obtain ⟨cs, k1, k2, k3⟩ := hs.blk
    have hglt := blk_lt k1
    have k1' := alloc_old k1 (.cells #[.int .i64 (m : Int), .bool b] 89)
    by_cases hroom : l.length + 1 ≤ c
    · have hr := run_append_room_cells (P := Tryz.prog) (w.alloc (.cells #[.int .i64 (m : Int), .bool b] 89)) 50 50 89 i0 Tryz.underlying50 hi g off l.length c ⟨w.heap.size, 0, none⟩ 1 1 [.int .i64 (m : Int), .bool b] (by rw [hz1]; rfl) hnews hone hroom
        (fun j hj => by
          rw [cell_at k1']
          simp only [List.length_cons, List.length_nil] at hj
          rw [Array.getElem?_eq_getElem (by rw [k2, hz1]; omega)]; rfl)
        (fun j hj => by simp [World.frozen?, k1'])
      rw [hz1] at hr
      refine ⟨_, _, _, hr, ?_, ?_, Or.inl rfl⟩
      · have hu : (w.alloc (.cells #[.int .i64 (m : Int), .bool b] 89)).setCells g (off + l.length * 2) [.int .i64 (m : Int), .bool b] = ((w.alloc (.cells #[.int .i64 (m : Int), .bool b] 89)).setCell ⟨g, off + l.length * 2, none⟩ (.int .i64 (m : Int))).setCell ⟨g, off + l.length * 2 + 1, none⟩ (.bool b) := rfl
        rw [hu]
        refine Or.inr ⟨g, off, c, by simp, by simpa using hroom, hs.most, _, setCell_at (setCell_at k1' _ _) _ _, by simpa using k2, fun i u hi2 => ?_⟩
        rw [← hcat] at hi2
        have hlen := segCells_length l
        have hil := (List.getElem?_eq_some_iff.1 hi2).1
        simp only [List.length_append, List.length_cons, List.length_nil, hlen] at hil
        rw [Array.getElem?_setIfInBounds]
        by_cases e1 : i = l.length * 2 + 1
        · subst e1
          rw [if_pos (by omega), if_pos (by rw [Array.size_setIfInBounds]; omega)]
          rw [List.getElem?_append_right (by omega), hlen] at hi2
          simpa using hi2
        · rw [if_neg (by omega), Array.getElem?_setIfInBounds]
          by_cases e2 : i = l.length * 2
          · subst e2
            rw [if_pos (by omega), if_pos (by omega)]
            rw [List.getElem?_append_right (by omega), hlen] at hi2
            simpa using hi2
          · rw [if_neg (by omega)]
            rw [List.getElem?_append_left (by omega)] at hi2
            exact k3 i u hi2
      · refine ⟨rfl, rfl, rfl, by simp [World.setCells, World.setCell], fun k hk hne => ?_⟩
        have hne2 : k ≠ g := fun e => by subst e; exact hne rfl
        show ((_ : World).setCell _ _).heap[k]? = _
        rw [Below.heap_setCell _ _ _ _ (by simpa using hne2), Below.heap_setCell _ _ _ _ (by simpa using hne2)]
    · obtain ⟨v', w', h1, h2, h3⟩ := run_append_arg_grows (P := Tryz.prog) (w.alloc (.cells #[.int .i64 (m : Int), .bool b] 89)) 50 50 89 i0 _ 2 16 Tryz.underlying50 hi hz0 hz1 hz2 rfl (by omega) ⟨g, off, none⟩ l.length c (segCells l) (segCells_length l)
        (fun j u hu => by rw [Addr.add_lit, cell_at k1']; exact k3 j u hu) ⟨w.heap.size, 0, none⟩ 1 1 [.int .i64 (m : Int), .bool b] rfl hnews (by omega) (by omega) (by omega)
      rw [hcat] at h2
      have hSeg := SegAt.ofOwns h2 (by simp)
      obtain ⟨a', c', rfl, _⟩ := hSeg.shape
      rw [List.length_append, List.length_cons, List.length_nil] at *
      refine ⟨a', c', w', h1, hSeg, grown_none h3, ?_⟩
      rcases h2.2 with ⟨_, h0⟩ | ⟨g', _, _, he, hb', _⟩
      · exact absurd h0 (by omega)
      · cases he
        exact Or.inr ⟨g', rfl, by simp only [World.size_alloc] at hb'; omega⟩
end Go.Proofs.YtbiadclmonakkaaGreatDoor

/-
  The journal's walks: a segment's head, a record's frame.
-/
namespace Go.Proofs.YtbiadclmonakkaaGreatDoor
open Go.RowKit Go.Maps Go.MapKept

theorem Grew.own0' {w wr w3 : World} {v v' : Value} {l : List UInt8} (hB : Below w.heap.size w wr) (hv : ∀ g, v.ownBlock = some g → w.heap.size ≤ g) (hG : Grew wr v l v' w3) : w3.ownsRow w.heap.size 5 1 v' l.length (bcells l) ∧ Below w.heap.size w w3 := by
  have hs := hB.size
  refine ⟨ownsRow_from hG.row (fun g hg => ?_), ?_⟩
  · rcases hG.blk with h3 | ⟨g', h3, hg'⟩
    · exact hv g (h3 ▸ hg)
    · rw [h3] at hg; cases hg; omega
  · have hU : Upd (fun k => w.heap.size ≤ k) wr w3 := hG.upd.mono (fun k hk => Or.inl (hv k hk))
    exact hB.trans (hU.below (fun k hk => hk) hs)
def magic4 : List UInt8 := [72, 83, 87, 49]
theorem magic4_run (w : World) : (convert 45 45 (.slice (some ⟨w.heap.size, 0, none⟩) 4 4)).run Tryz.prog (w.alloc (.cells #[.int .u8 72, .int .u8 83, .int .u8 87, .int .u8 49] 5)) =
    .ok (.slice (some ⟨w.heap.size, 0, none⟩) 4 4) (w.alloc (.cells #[.int .u8 72, .int .u8 83, .int .u8 87, .int .u8 49] 5 (4, 5))) :=
  Lib.run_convert_bytes_const (P := Tryz.prog) w 45 5 #[.int .u8 72, .int .u8 83, .int .u8 87, .int .u8 49] 4 4 Tryz.underlying45 Tryz.underlying5
theorem hd4_len (n : Nat) (hn : n ≤ 9007199254740993) : 9 ≤ (hd4 n).length ∧ (hd4 n).length ≤ 18 := by
  have h1 := vint_len (n := n) (k := 10) (by omega) (Nat.lt_of_le_of_lt hn (by decide))
  have h2 := vint_pos n
  unfold hd4 wHead sealL
  simp only [List.length_append, sumL_len, List.length_cons, List.length_nil]
  omega

set_option maxRecDepth 100000 in
set_option maxHeartbeats 4000000 in
theorem whead_any (w : World) (n : Nat) (hn : n ≤ 9007199254740993) :
    Calls Tryz.prog 84 #[.int .i64 n] w fun e w' => ∃ a c, e = .returned (.slice a (hd4 n).length c) ∧ w'.ownsRow w.heap.size 5 1 (.slice a (hd4 n).length c) (hd4 n).length (bcells (hd4 n)) ∧ Below w.heap.size w w' := by
  have kc := magic4_run w
  have hstart : Rd (w.alloc (.cells #[.int .u8 72, .int .u8 83, .int .u8 87, .int .u8 49] 5 (4, 5))) (.slice (some ⟨w.heap.size, 0, none⟩) 4 4) (bcells magic4) := Rd_new _ _ _ _ (bcells magic4) _ _ rfl rfl
  have hB0 : Below w.heap.size w (w.alloc (.cells #[.int .u8 72, .int .u8 83, .int .u8 87, .int .u8 49] 5 (4, 5))) := (Below.refl _ _).alloc (Nat.le_refl _) _
  have hU := bUint_any (w.alloc (.cells #[.int .u8 72, .int .u8 83, .int .u8 87, .int .u8 49] 5 (4, 5))) (.slice (some ⟨w.heap.size, 0, none⟩) 4 4) magic4 n (Or.inr ⟨hstart, _, rfl, by decide⟩) (Nat.lt_of_le_of_lt hn (by decide)) (by decide)
  obtain ⟨x, hx⟩ : ∃ x, magic4 ++ vint n = x := ⟨_, rfl⟩
  have hxl : x.length ≤ 20 := by
    have h1 := vint_len (n := n) (k := 10) (by omega) (Nat.lt_of_le_of_lt hn (by decide))
    have : magic4.length = 4 := rfl
    rw [← hx, List.length_append]; omega
  have hr : x ++ sumL x = hd4 n := by rw [← hx]; rfl
  rw [hx] at hU
  have hS := fun wX v (hv : Rd wX v (bcells x)) => bSeal_any wX v x hv (by omega)
  rw [hr] at hS
  obtain ⟨r, hr0⟩ : ∃ r, hd4 n = r := ⟨_, rfl⟩
  rw [hr0] at hS ⊢
  have HU := Lib.hid hU
  have HS := Lib.hid hS
  clear hU hx hr hstart hS hr0
  go_enter Tryz.func84, Tryz.ntmps84
  go_wp2_with first
    | (go_at_call 89; (with_reducible refine HU.out.mono ?_); rintro e w1 ⟨a1, c1, rfl, hG⟩; obtain ⟨hrow1, hB1⟩ := Grew.own0' hB0 (fun g hg => by cases hg; exact Nat.le_refl _) hG; have HR := Lib.hid hrow1; clear hrow1 hG)
    | (go_at_call 90; refine (HS.out w1 _ (Rd.ofOwns HR.out)).mono ?_; rintro e w2 ⟨a2, c2, rfl, hrow2, hB2⟩)
  go_ret
  exact ⟨a2, c2, rfl, ownsRow_from hrow2 (fun g hg => Nat.le_trans hB1.size (row_from hrow2 hg)), hB1.trans (hB2.mono hB1.size)⟩

set_option maxRecDepth 100000 in
set_option maxHeartbeats 4000000 in
theorem wframe_any (w : World) (n : Nat) (vb : Value) (b : List UInt8) (hn : n ≤ 9007199254740993) (hv : Rd w vb (bcells b)) (hb : b.length ≤ 1048576) :
    Calls Tryz.prog 63 #[.int .i64 n, vb] w fun e w' => ∃ a c, e = .returned (.slice a (fr4 n b).length c) ∧ w'.ownsRow w.heap.size 5 1 (.slice a (fr4 n b).length c) (fr4 n b).length (bcells (fr4 n b)) ∧ Below w.heap.size w w' := by
  obtain ⟨ab, cb, rfl⟩ := hv.shape
  rw [bcells_length] at hv ⊢
  have hvl := vint_len (n := n) (k := 10) (by omega) (Nat.lt_of_le_of_lt hn (by decide))
  have hU := bUint_any w (.slice none 0 0) [] n (Or.inl (World.ownsRow_nil _ _ _ _)) (Nat.lt_of_le_of_lt hn (by decide)) (by decide)
  rw [List.nil_append] at hU
  obtain ⟨y, hy⟩ : ∃ y, vint n = y := ⟨_, rfl⟩
  obtain ⟨x, hx⟩ : ∃ x, y ++ b = x := ⟨_, rfl⟩
  rw [hy] at hU hvl
  have hxl : x.length ≤ 1048600 := by rw [← hx, List.length_append]; omega
  obtain ⟨z, hz⟩ : ∃ z, vint x.length = z := ⟨_, rfl⟩
  have hzl : z.length ≤ 10 := by rw [← hz]; exact vint_len (by omega) (Nat.lt_of_le_of_lt hxl (by decide))
  obtain ⟨q, hq⟩ : ∃ q, x ++ sumL x = q := ⟨_, rfl⟩
  have hql : q.length ≤ 1048604 := by rw [← hq, List.length_append, sumL_len]; omega
  have hr : z ++ q = fr4 n b := by rw [← hz, ← hq, ← hx, ← hy]; rfl
  have hU2 : ∀ w', Calls Tryz.prog 89 #[.slice none 0 0, .int .u64 x.length] w' fun e w2 => ∃ a c, e = .returned (.slice a z.length c) ∧ Grew w' (.slice none 0 0) z (.slice a z.length c) w2 := by
    intro w'
    have := bUint_any w' (.slice none 0 0) [] x.length (Or.inl (World.ownsRow_nil _ _ _ _)) (Nat.lt_of_le_of_lt hxl (by decide)) (by decide)
    rw [List.nil_append, hz] at this
    exact this
  obtain ⟨r, hr0⟩ : ∃ r, fr4 n b = r := ⟨_, rfl⟩
  rw [hr0] at hr ⊢
  have HU := Lib.hid hU
  have HU2 := Lib.hid hU2
  have hS := fun wX v (hv : Rd wX v (bcells x)) => bSeal_any wX v x hv (by omega)
  rw [hq] at hS
  have HS := Lib.hid hS
  have Hx := Lib.hid hx
  have Hr := Lib.hid hr
  have Hq := Lib.hid hq
  have Hv := Lib.hid hv
  clear hU hU2 hx hy hz hq hr hr0 hv hS
  go_enter Tryz.func63, Tryz.ntmps63
  go_wp2_with first
    | (go_at_call 89; (with_reducible refine HU.out.mono ?_); rintro e w1 ⟨a1, c1, rfl, hG⟩; obtain ⟨hrow1, hB1⟩ := Grew.own0' (Below.refl _ _) (fun g hg => by cases hg) hG; have HR1 := Lib.hid hrow1; clear hrow1 hG)
    | (go_at_call 89; (with_reducible refine (HU2.out _).mono ?_); rintro e w3 ⟨a3, c3, rfl, hG3⟩; obtain ⟨hrow3, hB3⟩ := Grew.own0' (Below.refl _ _) (fun g hg => by cases hg) hG3; have HR3 := Lib.hid hrow3; clear hrow3 hG3)
    | (go_at_call 90; refine (HS.out w3 _ ((Rd.ofOwns HR2.out).below hB3)).mono ?_; rintro e w4 ⟨a4, c4, rfl, hrow4, hB4⟩; have HR4 := Lib.hid hrow4; clear hrow4)
    | (at_builtin; refine append_u8 rfl (.tmp 8) (.tmp 9) rfl (.slice a1 y.length c1) (.slice ab b.length cb) y b x Hx.out rfl (ownsRow_base0 HR1.out) rfl (Hv.out.below hB1) (by omega) ?_; intro v' w2 h1 h2 h3 h4; obtain ⟨a2, c2, rfl, _, _, _⟩ := row_slice h1; obtain ⟨hB2, HR2⟩ := (⟨hB1.trans (((Upd.refl (fun k => w.heap.size ≤ k) w1).grown h2 (fun k hk => Or.inl (row_from HR1.out hk))).below (fun k hk => hk) hB1.size), Lib.hid h1⟩ : Below w.heap.size w w2 ∧ Hid _); clear h1)
    | (at_builtin; refine append_u8 rfl (.tmp 14) (.tmp 16) rfl (.slice a3 z.length c3) (.slice a4 q.length c4) z q r Hr.out rfl (((Upd.refl noFp w3).thenBelow hB4 (Nat.le_refl _)).row (ownsRow_base0 HR3.out) (fun _ _ h => h)) rfl (Rd.ofOwns HR4.out) (by omega) ?_; intro v' w5 k1 k2 k3 k4; obtain ⟨a5, c5, rfl, _, _, _⟩ := row_slice k1)
  go_ret
  have hB24 : Below w.heap.size w w4 := hB2.trans ((hB3.trans (hB4.mono hB3.size)).mono hB2.size)
  have hz3 : ∀ g, (Value.slice a3 z.length c3).ownBlock = some g → w.heap.size ≤ g := fun g hg => Nat.le_trans hB2.size (row_from HR3.out hg)
  refine ⟨a5, c5, rfl, ownsRow_from k1 (fun g hg => ?_), hB24.trans (((Upd.refl (fun k => w.heap.size ≤ k) w4).grown k2 (fun k hk => Or.inl (hz3 k hk))).below (fun k hk => hk) hB24.size)⟩
  rcases k3 with k3 | ⟨g', k3, hg'⟩
  · exact hz3 g (k3 ▸ hg)
  · rw [k3] at hg; cases hg; have := hB24.size; omega
end Go.Proofs.YtbiadclmonakkaaGreatDoor

/-
  A log in memory; what it tells of itself.
-/
namespace Go.Proofs.YtbiadclmonakkaaGreatDoor
open Go.RowKit Go.Maps Go.MapKept

def logCells (p : Nat) (al : ALog) (v : Value) : Array Value := #[.pointer (some ⟨p, 0, none⟩), .int .i64 al.size, v, .int .i64 al.next, .int .i64 al.bytes, .int .i64 al.synced, .bool al.over]
/-- a log: its block, its segments' slice, its disk; apart from the blocks of ex. -/
structure LogV (ex : Nat → Prop) (w : World) (q p m : Nat) (d : ADisk) (al : ALog) (v : Value) : Prop where
  blk : w.heap[q]? = some (.cells (logCells p al v) 52 (0, 0))
  seg : SegAt w v al.segs
  disk : DiskAt (fun k => ex k ∨ k = q ∨ v.ownBlock = some k) w p m d
  own : ¬ ex q
  ownS : ∀ g, v.ownBlock = some g → ¬ ex g ∧ g ≠ q
def LogAt (ex : Nat → Prop) (w : World) (q p m : Nat) (d : ADisk) (al : ALog) : Prop := ∃ v, LogV ex w q p m d al v
/-- numbers that may be. -/
structure ALog.Ok (al : ALog) : Prop where
  size : al.size ≤ 16777216
  next : al.next ≤ 9007199254740993
  bytes : al.bytes ≤ 1099511627776
  synced : al.synced ≤ 9007199254740993
  segs : ∀ x ∈ al.segs, x.1 ≤ 9007199254740993
  many : al.segs.length ≤ 1000
theorem cells7 {w : World} {b : Nat} {x0 x1 x2 x3 x4 x5 x6 : Value} {T : TypeId} (h : w.heap[b]? = some (.cells #[x0, x1, x2, x3, x4, x5, x6] T (0, 0))) :
    w.cell? ⟨b, 0, none⟩ = some x0 ∧ w.cell? ⟨b, 1, none⟩ = some x1 ∧ w.cell? ⟨b, 2, none⟩ = some x2 ∧ w.cell? ⟨b, 3, none⟩ = some x3 ∧ w.cell? ⟨b, 4, none⟩ = some x4 ∧ w.cell? ⟨b, 5, none⟩ = some x5 ∧ w.cell? ⟨b, 6, none⟩ = some x6 ∧
      w.frozen? ⟨b, 2, none⟩ = false ∧ w.frozen? ⟨b, 3, none⟩ = false ∧ w.frozen? ⟨b, 4, none⟩ = false ∧ w.frozen? ⟨b, 5, none⟩ = false ∧ w.frozen? ⟨b, 6, none⟩ = false := by
  refine ⟨by rw [cell_at h]; rfl, by rw [cell_at h]; rfl, by rw [cell_at h]; rfl, by rw [cell_at h]; rfl, by rw [cell_at h]; rfl, by rw [cell_at h]; rfl, by rw [cell_at h]; rfl, ?_, ?_, ?_, ?_, ?_⟩ <;> simp [World.frozen?, h]
namespace LogV
variable {ex ex' : Nat → Prop} {w w' : World} {q p m : Nat} {d : ADisk} {al : ALog} {v : Value}
theorem lt (h : LogV ex w q p m d al v) {k : Nat} (hk : ex k) : k < w.heap.size := h.disk.lt (Or.inl hk)
theorem q_lt (h : LogV ex w q p m d al v) : q < w.heap.size := blk_lt h.blk
theorem below (h : LogV ex w q p m d al v) (hb : Below w.heap.size w w') : LogV ex w' q p m d al v :=
  ⟨(hb.block q h.q_lt).trans h.blk, h.seg.below hb, h.disk.below hb, h.own, h.ownS⟩
/-- blocks of the caller's are turned; more are new. -/
theorem upd {fp : Nat → Prop} (h : LogV ex w q p m d al v) (hu : Upd fp w w') (hf : ∀ k, fp k → ex k) : LogV ex w' q p m d al v :=
  ⟨(hu.block q h.q_lt (fun e => h.own (hf q e))).trans h.blk, h.seg.upd hu (fun _ hg e => (h.ownS _ hg).1 (hf _ e)), h.disk.upd hu (fun k _ hk => Or.inl (hf k hk)), h.own, h.ownS⟩
theorem mono (h : LogV ex w q p m d al v) (hm : ∀ k, ex' k → ex k) : LogV ex' w q p m d al v :=
  ⟨h.blk, h.seg, h.disk.mono (fun k hk => hk.imp_left (hm k)), fun e => h.own (hm q e), fun g hg => ⟨fun e => (h.ownS g hg).1 (hm g e), (h.ownS g hg).2⟩⟩
/-- the caller keeps new blocks, too. -/
theorem more (h : LogV ex w q p m d al v) (hb : Below w.heap.size w w') (hx : ∀ k, ex' k → ex k ∨ w.heap.size ≤ k ∧ k < w'.heap.size) : LogV ex' w' q p m d al v := by
  refine ⟨(hb.block q h.q_lt).trans h.blk, h.seg.below hb, h.disk.more hb (fun k hk => ?_), fun e => ?_, fun g hg => ⟨fun e => ?_, (h.ownS g hg).2⟩⟩
  · rcases hk with hk | hk
    · rcases hx k hk with hk | hk
      · exact Or.inl (Or.inl hk)
      · exact Or.inr hk
    · exact Or.inl (Or.inr hk)
  · rcases hx q e with hk | hk
    · exact h.own hk
    · have := h.q_lt; omega
  · rcases hx g e with hk | hk
    · exact (h.ownS g hg).1 hk
    · have := h.seg.lt hg; omega
/-- the disk has turned alone. -/
theorem disk_turned {d' : ADisk} (h : LogV ex w q p m d al v) (hd : DiskAt (fun k => ex k ∨ k = q ∨ v.ownBlock = some k) w' p m d') (hk : Keep (fun k => ex k ∨ k = q ∨ v.ownBlock = some k) w w') : LogV ex w' q p m d' al v ∧ Keep ex w w' :=
  ⟨⟨(hk.block q (Or.inr (Or.inl rfl))).trans h.blk, h.seg.keep hk (fun _ hg => Or.inr (Or.inr hg)), hd, h.own, h.ownS⟩, hk.mono (fun _ hk => Or.inl hk)⟩
end LogV
namespace LogAt
variable {ex ex' : Nat → Prop} {w w' : World} {q p m : Nat} {d : ADisk} {al : ALog}
theorem lt (h : LogAt ex w q p m d al) {k : Nat} (hk : ex k) : k < w.heap.size := let ⟨_, hv⟩ := h; hv.lt hk
theorem below (h : LogAt ex w q p m d al) (hb : Below w.heap.size w w') : LogAt ex w' q p m d al := let ⟨v, hv⟩ := h; ⟨v, hv.below hb⟩
theorem mono (h : LogAt ex w q p m d al) (hm : ∀ k, ex' k → ex k) : LogAt ex' w q p m d al := let ⟨v, hv⟩ := h; ⟨v, hv.mono hm⟩
theorem more (h : LogAt ex w q p m d al) (hb : Below w.heap.size w w') (hx : ∀ k, ex' k → ex k ∨ w.heap.size ≤ k ∧ k < w'.heap.size) : LogAt ex' w' q p m d al := let ⟨v, hv⟩ := h; ⟨v, hv.more hb hx⟩
theorem upd {fp : Nat → Prop} (h : LogAt ex w q p m d al) (hu : Upd fp w w') (hf : ∀ k, fp k → ex k) : LogAt ex w' q p m d al := let ⟨v, hv⟩ := h; ⟨v, hv.upd hu hf⟩
theorem disk (h : LogAt ex w q p m d al) : DiskAt ex w p m d := let ⟨_, hv⟩ := h; hv.disk.mono (fun _ hk => Or.inl hk)
theorem wf (h : LogAt ex w q p m d al) : d.WF := h.disk.wf
end LogAt

section
variable {ex : Nat → Prop} {w : World} {q p m : Nat} {d : ADisk} {al : ALog}
set_option maxRecDepth 100000 in
set_option maxHeartbeats 1000000 in
theorem wup_at (h : LogAt ex w q p m d al) :
    Calls Tryz.prog 60 #[.pointer (some ⟨q, 0, none⟩)] w fun e w' => e = .returned (.int .i64 (if al.over then 16 else 0)) ∧ w = w' := by
  obtain ⟨v, hv⟩ := h
  obtain ⟨c0, c1, c2, c3, c4, c5, c6, _⟩ := cells7 hv.blk
  clear hv
  cases ho : al.over with
  | true =>
    rw [ho] at c6
    clear ho
    go_enter Tryz.func60, Tryz.ntmps60
    go_wp2
    go_ret
    exact ⟨rfl, rfl⟩
  | false =>
    rw [ho] at c6
    clear ho
    go_enter Tryz.func60, Tryz.ntmps60
    go_wp2
    go_ret
    exact ⟨rfl, rfl⟩
/-- the log's block is turned. -/
theorem LogV.turned {al' : ALog} {v : Value} {w' : World} (hv : LogV ex w q p m d al v) (hu : Upd (· = q) w w') (hb : w'.heap[q]? = some (.cells (logCells p al' v) 52 (0, 0))) (hs : al'.segs = al.segs) : LogV ex w' q p m d al' v ∧ Keep ex w w' := by
  refine ⟨⟨hb, ?_, hv.disk.upd hu (fun k _ hk => Or.inr (Or.inl hk)), hv.own, hv.ownS⟩, Keep.ofUpd hu (fun k hk => ⟨hv.lt hk, fun e => hv.own (e ▸ hk)⟩)⟩
  rw [hs]
  exact hv.seg.upd hu (fun _ hg e => (hv.ownS _ hg).2 e)
set_option maxRecDepth 100000 in
set_option maxHeartbeats 1000000 in
theorem wends_at (er : Int) (h : LogAt ex w q p m d al) :
    Calls Tryz.prog 61 #[.pointer (some ⟨q, 0, none⟩), .int .i64 er] w fun e w' => e = .returned (.int .i64 er) ∧ LogAt ex w' q p m d (al.ends er) ∧ Keep ex w w' := by
  obtain ⟨v, hv⟩ := h
  obtain ⟨c0, c1, c2, c3, c4, c5, c6, f2, f3, f4, f5, f6⟩ := cells7 hv.blk
  have hb : (w.setCell ⟨q, 6, none⟩ (.bool (decide (er ≠ 0)))).heap[q]? = some (.cells (logCells p (al.ends er) v) 52 (0, 0)) := by
    rw [setCell_at hv.blk]
    rfl
  have hT := hv.turned (setCell_upd 6 (.bool (decide (er ≠ 0)))) hb rfl
  have HT := Lib.hid hT
  clear hv hb hT
  go_enter Tryz.func61, Tryz.ntmps61
  go_wp2
  go_ret
  refine ⟨rfl, ?_⟩
  have hbne : (er != 0) = decide (er ≠ 0) := by
    by_cases h0 : er = 0 <;> simp [h0]
  rw [hbne]
  exact ⟨⟨v, HT.out.1⟩, HT.out.2⟩
set_option maxRecDepth 100000 in
set_option maxHeartbeats 1000000 in
theorem wLast_at (h : LogAt ex w q p m d al) (hok : al.Ok) :
    Calls Tryz.prog 21 #[.pointer (some ⟨q, 0, none⟩)] w fun e w' => e = .returned (.int .i64 al.last) ∧ w = w' := by
  obtain ⟨v, hv⟩ := h
  obtain ⟨c0, c1, c2, c3, c4, c5, c6, _⟩ := cells7 hv.blk
  have hn := hok.next
  have hl : al.last = al.next - 1 := rfl
  rw [hl]
  generalize al.next = n at c3 hn
  clear hv hok hl
  cases n with
  | zero =>
    go_enter Tryz.func21, Tryz.ntmps21
    go_wp2
    go_ret
    exact ⟨rfl, rfl⟩
  | succ n =>
    have hz : (((n + 1 : Nat) : Int) == 0) = false := by
      rw [beq_eq_false_iff_ne]; omega
    go_enter Tryz.func21, Tryz.ntmps21
    go_wp2
    go_ret
    exact ⟨by first | rfl | (congr 2; omega), rfl⟩
set_option maxRecDepth 100000 in
set_option maxHeartbeats 1000000 in
theorem wSynced_at (h : LogAt ex w q p m d al) :
    Calls Tryz.prog 25 #[.pointer (some ⟨q, 0, none⟩)] w fun e w' => e = .returned (.int .i64 al.synced) ∧ w = w' := by
  obtain ⟨v, hv⟩ := h
  obtain ⟨c0, c1, c2, c3, c4, c5, c6, _⟩ := cells7 hv.blk
  clear hv
  go_enter Tryz.func25, Tryz.ntmps25
  go_wp2
  go_ret
  exact ⟨rfl, rfl⟩
set_option maxRecDepth 100000 in
set_option maxHeartbeats 1000000 in
theorem wOver_at (h : LogAt ex w q p m d al) :
    Calls Tryz.prog 26 #[.pointer (some ⟨q, 0, none⟩)] w fun e w' => e = .returned (.bool al.over) ∧ w = w' := by
  obtain ⟨v, hv⟩ := h
  obtain ⟨c0, c1, c2, c3, c4, c5, c6, _⟩ := cells7 hv.blk
  clear hv
  go_enter Tryz.func26, Tryz.ntmps26
  go_wp2
  go_ret
  exact ⟨rfl, rfl⟩
end
end Go.Proofs.YtbiadclmonakkaaGreatDoor

/-
  A log's last file, its first number, its files; a file is removed, if there is one.
-/
namespace Go.Proofs.YtbiadclmonakkaaGreatDoor
open Go.RowKit Go.Maps Go.MapKept

section
variable {ex : Nat → Prop} {w : World} {q p m : Nat} {d : ADisk} {al : ALog}
theorem al_last {pre : List (Nat × Bool)} {x : Nat × Bool} (h : al.segs = pre ++ [x]) : al.lastN = x.1 ∧ al.lastSome = x.2 := by
  unfold ALog.lastN ALog.lastSome
  rw [h]; simp
set_option maxRecDepth 100000 in
set_option maxHeartbeats 2000000 in
theorem wfile_at (h : LogAt ex w q p m d al) (hE : WEnv w) (hok : al.Ok) (hne : al.segs ≠ []) :
    Calls Tryz.prog 57 #[.pointer (some ⟨q, 0, none⟩)] w fun e w' => e = .returned (.string al.file) ∧ Below w.heap.size w w' := by
  obtain ⟨v, hv⟩ := h
  obtain ⟨c0, c1, c2, c3, c4, c5, c6, _⟩ := cells7 hv.blk
  rcases List.eq_nil_or_concat al.segs with h0 | ⟨pre, x, hsg⟩
  · exact absurd h0 hne
  · rw [List.concat_eq_append] at hsg
    have hf : al.file = wName x.1 := by unfold ALog.file; rw [(al_last hsg).1]
    have hx := hok.segs x (by rw [hsg]; simp)
    have hml := hok.many
    have hseg := hv.seg
    rw [hsg] at hseg hml
    simp only [List.length_append, List.length_cons, List.length_nil] at hml
    rw [hf]
    rcases hseg with ⟨_, h0⟩ | ⟨g, off, c, rfl, hs⟩
    · simp at h0
    · obtain ⟨k, hk⟩ : ∃ k, pre.length = k := ⟨_, rfl⟩
      obtain ⟨s0, s1, _⟩ := hs.at pre.length (by simp)
      have hr := hs.room
      rw [List.getElem_append_right (Nat.le_refl _)] at s0
      simp only [Nat.sub_self, List.getElem_cons_zero, hk] at s0
      simp only [List.length_append, List.length_cons, List.length_nil, hk, Nat.zero_add] at hml hr c2
      have hN := fun wX (hX : WEnv wX) => wname_any wX x.1 hx hX
      obtain ⟨s, hs0⟩ : ∃ s, wName x.1 = s := ⟨_, rfl⟩
      rw [hs0] at hN ⊢
      obtain ⟨n, hn⟩ : ∃ n, x.1 = n := ⟨_, rfl⟩
      rw [hn] at hN s0
      obtain ⟨L, hL⟩ : ∃ L, k + 1 = L := ⟨_, rfl⟩
      have hL1 : (L : Int) - 1 = k := by omega
      have hwk : IntKind.i64.wrap (k : Int) = (k : Int) := IntWalk.i64_in _ (by omega)
      have hi0 : (0 : Int) ≤ k := by omega
      have hi1 : (k : Int) < (L : Int) := by omega
      rw [hL] at c2 hml hr
      have HN := Lib.hid hN
      have HE := Lib.hid hE
      clear hN hs hk s1 hs0 hn hf hsg hx hok hne hv hE hL
      go_enter Tryz.func57, Tryz.ntmps57
      go_wp2
      go_region_held3 (fun w' => w'.cell? ⟨q, 2, none⟩ = some (.slice (some ⟨g, off, none⟩) L c) ∧ w'.cell? ⟨g, off + k * 2, none⟩ = some (.int .i64 n)) (first | exact ⟨c2, s0⟩ | exact S4 | go_keep)
        (first | (go_at_call 45; refine (HN.out _ HE.out.drew).mono ?_; rintro e w1 ⟨rfl, hB⟩; have S4 : w1.cell? ⟨q, 2, none⟩ = some (.slice (some ⟨g, off, none⟩) L c) ∧ w1.cell? ⟨g, off + k * 2, none⟩ = some (.int .i64 n) := ⟨(hB.cell (p := ⟨q, 2, none⟩) (cell_lt c2)).trans c2, (hB.cell (p := ⟨g, off + k * 2, none⟩) (cell_lt s0)).trans s0⟩))
      go_wp2
      go_ret
      exact ⟨rfl, ((Below.refl _ _).drew).trans hB⟩
def ALog.names (al : ALog) : List ByteArray := al.segs.map fun x => wName x.1
set_option maxRecDepth 100000 in
set_option maxHeartbeats 2000000 in
theorem wFirst_at (h : LogAt ex w q p m d al) :
    Calls Tryz.prog 24 #[.pointer (some ⟨q, 0, none⟩)] w fun e w' => e = .returned (.int .i64 al.first) ∧ w = w' := by
  obtain ⟨v, hv⟩ := h
  obtain ⟨c0, c1, c2, c3, c4, c5, c6, _⟩ := cells7 hv.blk
  have hseg := hv.seg
  have hf : al.first = (al.segs.head?.map (·.1)).getD 0 := rfl
  rw [hf]
  generalize al.segs = l at hseg
  clear hv hf
  rcases hseg with ⟨rfl, rfl⟩ | ⟨g, off, c, rfl, hs⟩
  · go_enter Tryz.func24, Tryz.ntmps24
    go_wp2
    go_ret
    exact ⟨rfl, rfl⟩
  · cases l with
    | nil =>
      clear hs
      go_enter Tryz.func24, Tryz.ntmps24
      go_wp2
      go_ret
      exact ⟨rfl, rfl⟩
    | cons x r =>
      obtain ⟨s0, s1, _⟩ := hs.at 0 (by simp)
      rw [Nat.zero_mul, Nat.add_zero] at s0
      simp only [List.getElem_cons_zero] at s0
      obtain ⟨n, hn⟩ : ∃ n, x.1 = n := ⟨_, rfl⟩
      obtain ⟨L, hL⟩ : ∃ L, (x :: r).length = L := ⟨_, rfl⟩
      have hgoal : ((x :: r).head?.map (·.1)).getD 0 = n := hn
      rw [hgoal]
      rw [hn] at s0
      have hL0 : L ≠ 0 := by rw [← hL]; simp
      have hL1 : (0 : Int) < L := by omega
      have hL2 : 0 < L := by omega
      have hLz : ((L : Int) == 0) = false := by rw [beq_eq_false_iff_ne]; omega
      rw [hL] at c2
      clear hs hn hL s1 hgoal
      go_enter Tryz.func24, Tryz.ntmps24
      go_wp2
      go_ret
      exact ⟨rfl, rfl⟩
theorem gone4 (d : ADisk) (s : ByteArray) (fe : Int) (h : d.removeErr s = fe) : goneE4 d s = if fe = 13 then 0 else fe := by unfold goneE4; rw [h]
set_option maxRecDepth 100000 in
set_option maxHeartbeats 2000000 in
theorem wgone_at (s : ByteArray) (h : DiskAt ex w p m d) (hs : s.size ≤ maxLen) :
    Calls Tryz.prog 86 #[.pointer (some ⟨p, 0, none⟩), .string s] w fun e w' => e = .returned (.int .i64 (goneE4 d s)) ∧ DiskAt ex w' p m (d.remove s) ∧ Keep ex w w' := by
  have hR := Remove_at s h hs
  obtain ⟨fe, hfe⟩ : ∃ fe, d.removeErr s = fe := ⟨_, rfl⟩
  have hg := gone4 d s fe hfe
  rw [hfe] at hR
  have HR := Lib.hid hR
  have Hg := Lib.hid hg
  clear hfe hg hR hs
  by_cases h13 : fe = 13
  · subst h13
    have Hg2 := Lib.hid (Hg.out.trans (if_pos rfl))
    go_enter Tryz.func86, Tryz.ntmps86
    go_wp2_with (go_at_call 55; refine HR.out.mono ?_; rintro e w1 ⟨rfl, hD, hK⟩)
    go_ret
    exact ⟨by rw [Hg2.out]; rfl, hD, hK⟩
  · have h13b : (fe != 13) = true := by simpa using h13
    have Hg2 := Lib.hid (Hg.out.trans (if_neg h13))
    clear h13
    go_enter Tryz.func86, Tryz.ntmps86
    go_wp2_with (go_at_call 55; refine HR.out.mono ?_; rintro e w1 ⟨rfl, hD, hK⟩)
    go_ret
    exact ⟨by rw [Hg2.out]; rfl, hD, hK⟩
end
end Go.Proofs.YtbiadclmonakkaaGreatDoor

/-
  Sync; the three steps of another segment.
-/
namespace Go.Proofs.YtbiadclmonakkaaGreatDoor
open Go.RowKit Go.Maps Go.MapKept

theorem wName_len {n : Nat} (h : n ≤ 9007199254740993) : (wName n).size ≤ 17 := by
  show (119 :: Lib.decDigits n).toArray.size ≤ 17
  have := nDig_le n 16 (by omega) (Nat.lt_of_le_of_lt h (by decide))
  rw [List.size_toArray, List.length_cons, Lib.decDigits_length]
  omega
theorem ALog.Ok.last_le {al : ALog} (hok : al.Ok) : al.lastN ≤ 9007199254740993 := by
  rcases List.eq_nil_or_concat al.segs with h0 | ⟨pre, x, hsg⟩
  · unfold ALog.lastN; rw [h0]; exact Nat.zero_le _
  · rw [List.concat_eq_append] at hsg
    rw [(al_last hsg).1]
    exact hok.segs x (by rw [hsg]; simp)
theorem ALog.Ok.file_size {al : ALog} (hok : al.Ok) : al.file.size ≤ maxLen := Nat.le_trans (wName_len hok.last_le) (by decide)

section
variable {ex : Nat → Prop} {w : World} {q p m : Nat} {d : ADisk} {al : ALog}
/-- the last file is synced. -/
theorem sync_file {v : Value} (hv : LogV ex w q p m d al v) (s : ByteArray) (hs : s.size ≤ maxLen) :
    Calls Tryz.prog 43 #[.pointer (some ⟨p, 0, none⟩), .string s] w fun e w' => e = .returned (.int .i64 (d.syncErr s)) ∧ LogV ex w' q p m (d.sync s) al v ∧ Keep ex w w' ∧ w'.heap[q]? = w.heap[q]? := by
  refine (Sync_at s hv.disk hs).mono fun e w' he => ?_
  obtain ⟨e1, e2, e3⟩ := he
  obtain ⟨f1, f2⟩ := hv.disk_turned e2 e3
  exact ⟨e1, f1, f2, e3.block q (Or.inr (Or.inl rfl))⟩
set_option maxRecDepth 100000 in
set_option maxHeartbeats 4000000 in
theorem wSync_at (h : LogAt ex w q p m d al) (hE : WEnv w) (hok : al.Ok) :
    Calls Tryz.prog 23 #[.pointer (some ⟨q, 0, none⟩)] w fun e w' => e = .returned (.int .i64 (wSync d al).2.2) ∧ LogAt ex w' q p m (wSync d al).1 (wSync d al).2.1 ∧ Keep ex w w' := by
  have hup := wup_at h
  obtain ⟨v, hv⟩ := h
  have hsl := hv.seg.shape
  obtain ⟨a, c, rfl, _⟩ := hsl
  obtain ⟨c0, c1, c2, c3, c4, c5, c6, f2, f3, f4, f5, f6⟩ := cells7 hv.blk
  cases ho : al.over with
  | true =>
    have hw : wSync d al = (d, al, 16) := by unfold wSync; rw [if_pos ho]
    rw [ho] at hup
    rw [hw]
    have Hv := Lib.hid hv
    have Hup := Lib.hid hup
    clear hw ho hup hv hE hok c0 c1 c2 c3 c4 c5 c6 f2 f3 f4 f5 f6
    go_enter Tryz.func23, Tryz.ntmps23
    go_wp2_with (go_at_call 60; refine Hup.out.mono ?_; rintro e w1 ⟨rfl, rfl⟩)
    go_ret
    exact ⟨rfl, ⟨_, Hv.out⟩, Keep.refl _ _⟩
  | false =>
    rw [ho] at hup
    by_cases hs : al.segs = []
    · have hw : wSync d al = (d, al, 0) := by unfold wSync; rw [if_neg (by simp [ho]), if_pos hs]
      rw [hw]
      rw [hs] at c2
      have Hv := Lib.hid hv
      have Hup := Lib.hid hup
      clear hw ho hup hv hE hok c0 c1 c3 c4 c5 c6 f2 f3 f4 f5 f6 hs
      go_enter Tryz.func23, Tryz.ntmps23
      go_wp2_with (go_at_call 60; refine Hup.out.mono ?_; rintro e w1 ⟨rfl, rfl⟩)
      go_ret
      exact ⟨rfl, ⟨_, Hv.out⟩, Keep.refl _ _⟩
    · obtain ⟨L, hL⟩ : ∃ L, al.segs.length = L := ⟨_, rfl⟩
      have hL0 : 0 < L := by rw [← hL]; exact List.length_pos_iff.2 hs
      have hLz : ((L : Int) == 0) = false := by rw [beq_eq_false_iff_ne]; omega
      have hfz := hok.file_size
      have hF := wfile_at (w := w.drew) ⟨_, hv.below ((Below.refl _ _).drew)⟩ hE.drew hok hs
      have hvl := fun wX dX (hX : LogAt ex wX q p m dX al) => wLast_at hX hok
      have hvE := fun wX dX (er : Int) (hX : LogAt ex wX q p m dX al) => wends_at er hX
      have hwD : wSync d al = if d.syncErr al.file ≠ 0 then (d.sync al.file, al.ends (d.syncErr al.file), d.syncErr al.file) else (d.sync al.file, { al with synced := al.last }, 0) := by unfold wSync; rw [if_neg (by simp [ho]), if_neg hs]
      obtain ⟨s, hfs⟩ : ∃ s, al.file = s := ⟨_, rfl⟩
      rw [hfs] at hF hfz hwD
      have hSy := fun wX (hX : LogV ex wX q p m d al (.slice a al.segs.length c)) => sync_file hX s hfz
      obtain ⟨er, her⟩ : ∃ er, d.syncErr s = er := ⟨_, rfl⟩
      rw [her] at hwD hSy
      rw [hL] at c2
      have Hv := Lib.hid hv
      rw [hL] at Hv
      have Hup := Lib.hid hup
      have HF := Lib.hid hF
      have Hvl := Lib.hid hvl
      have HvE := Lib.hid hvE
      have HSy := Lib.hid hSy
      have hql := hv.q_lt
      have Hbl := Lib.hid hv.blk
      rw [hL] at HSy Hbl
      by_cases h0 : er = 0
      · have hw := hwD.trans (if_neg (by simp [h0]))
        rw [hw]
        subst h0
        clear hw hwD ho hup hv hE hok hs hL hF hvl hvE hSy hfs her hfz c1 c3 c4 c5 c6 f2 f3 f4 f6 f5
        go_enter Tryz.func23, Tryz.ntmps23
        go_wp2_with (go_at_call 60; refine Hup.out.mono ?_; rintro e w1 ⟨rfl, rfl⟩)
        go_region_held3 (fun w' => w'.cell? ⟨q, 0, none⟩ = some (.pointer (some ⟨p, 0, none⟩))) (first | exact c0 | exact S2 | exact S3 | go_keep)
          (first
            | (go_at_call 57; refine HF.out.mono ?_; rintro e w2 ⟨rfl, hB⟩; have S2 : w2.cell? ⟨q, 0, none⟩ = some (.pointer (some ⟨p, 0, none⟩)) := (hB.cell (p := ⟨q, 0, none⟩) hql).trans c0)
            | (go_at_call 43; refine (HSy.out w2 (Hv.out.below (((Below.refl _ _).drew).trans hB))).mono ?_; rintro e w3 ⟨rfl, hV3, hK3, hb3⟩; have S3 : w3.cell? ⟨q, 0, none⟩ = some (.pointer (some ⟨p, 0, none⟩)) := (World.cell?_of_block (a := ⟨q, 0, none⟩) hb3).trans S2))
        obtain ⟨k0, k1, k2, k3, k4, k5, k6, g2, g3, g4, g5, g6⟩ := cells7 hV3.blk
        have HV3 := Lib.hid hV3
        clear hV3 k0 k1 k2 k3 k4 k6 g2 g3 g4 g6
        go_wp2_with (go_at_call 21; refine (Hvl.out _ _ ⟨_, HV3.out⟩).mono ?_; rintro e w4 ⟨rfl, rfl⟩)
        go_ret
        obtain ⟨j1, j2⟩ := HV3.out.turned (al' := { al with synced := al.last }) (setCell_upd 5 (.int .i64 al.last)) (setCell_at HV3.out.blk _ _) rfl
        exact ⟨rfl, ⟨_, j1⟩, ((Keep.ofBelow (((Below.refl _ _).drew).trans hB) (fun k hk => Hv.out.lt hk)).trans hK3).trans j2⟩
      · have hw := hwD.trans (if_pos h0)
        rw [hw]
        have h0b : (er != 0) = true := by simpa using h0
        clear hw hwD ho hup hv hE hok hs hL hF hvl hvE hSy hfs her hfz h0 c1 c3 c4 c5 c6 f2 f3 f4 f6 f5
        go_enter Tryz.func23, Tryz.ntmps23
        go_wp2_with (go_at_call 60; refine Hup.out.mono ?_; rintro e w1 ⟨rfl, rfl⟩)
        go_region_held3 (fun w' => w'.cell? ⟨q, 0, none⟩ = some (.pointer (some ⟨p, 0, none⟩))) (first | exact c0 | exact S2 | exact S3 | go_keep)
          (first
            | (go_at_call 57; refine HF.out.mono ?_; rintro e w2 ⟨rfl, hB⟩; have S2 : w2.cell? ⟨q, 0, none⟩ = some (.pointer (some ⟨p, 0, none⟩)) := (hB.cell (p := ⟨q, 0, none⟩) hql).trans c0)
            | (go_at_call 43; refine (HSy.out w2 (Hv.out.below (((Below.refl _ _).drew).trans hB))).mono ?_; rintro e w3 ⟨rfl, hV3, hK3, hb3⟩; have S3 : w3.cell? ⟨q, 0, none⟩ = some (.pointer (some ⟨p, 0, none⟩)) := (World.cell?_of_block (a := ⟨q, 0, none⟩) hb3).trans S2))
        have HV3 := Lib.hid hV3
        clear hV3
        go_wp2_with (go_at_call 61; refine (HvE.out _ _ _ ⟨_, HV3.out⟩).mono ?_; rintro e w4 ⟨rfl, hL4, hK4⟩)
        go_ret
        exact ⟨rfl, hL4, ((Keep.ofBelow (((Below.refl _ _).drew).trans hB) (fun k hk => Hv.out.lt hk)).trans hK3).trans hK4⟩
end
end Go.Proofs.YtbiadclmonakkaaGreatDoor
