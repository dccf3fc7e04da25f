/-
  The walks of the statements' own helpers: file, tells.
-/
import Derived.Outline
import Derived.Laws.BytesArg
import Derived.Test.YtbiadclmonakkaaGreatDoorMDkB
import Derived.ProofKit
import Derived.OpenShut
import Derived.Deep.Slices
import Derived.Deep.Fields
import Derived.ChangeSame
namespace Go.Proofs.YtbiadclmonakkaaGreatDoor
open Go.RowKit Go.Maps Go.MapKept

theorem run_bytes_str {P : Program} {w : World} {v : Value} {b : List UInt8} (h : Rd w v (bcells b)) {src dst e : TypeId} (hs : P.underlying src = some (.slice e)) (he : P.underlying e = some (.int .u8)) (hd : P.underlying dst = some .string) :
    (convert src dst v).run P w = .ok (.string ⟨b.toArray⟩) w := by
  rcases h with ⟨rfl | ⟨a, c, rfl⟩, hb⟩ | ⟨bl, off, n, c, rfl, hn, hc⟩
  · have : b = [] := by simpa [bcells] using hb
    subst this
    exact run_convert_bytes_nil w src e hs he 0 0 dst hd
  · have : b = [] := by simpa [bcells] using hb
    subst this
    rw [run_convert_bytes_string w src dst e _ 0 c hs he hd, run_bytesToString w a 0 c [] (by simp [loadCells, loadCellsFrom])]
    rfl
  · have hl : (b.map fun x => (x.toNat : Int)).length = n := by rw [hn, bcells_length]; simp
    have := run_convert_bytes_arg (P := P) w src e hs he bl off n c (b.map fun x => (x.toNat : Int)) hl (fun i hi => by
      have hib : i < b.length := by rw [hn, bcells_length] at hi; exact hi
      rw [hc i (.int .u8 (b[i].toNat : Int)) (by simp [bcells, hib])]
      simp [List.getD, hib]) dst hd
    rw [this]
    congr 2
    have : b.map (fun x => UInt8.ofNat ((x.toNat : Int)).toNat) = b := by
      rw [List.map_congr_left (g := id) (fun x _ => by simp), List.map_id]
    simp only [strOfNums, List.map_map]
    rw [← this]
    simp [Function.comp_def]

end Go.Proofs.YtbiadclmonakkaaGreatDoor

/-
  Arguments opened: what a slice that came in reads as.
-/
namespace Go.Proofs.YtbiadclmonakkaaGreatDoor
open Go.RowKit Go.ChangeShapes Go.WideShapes Go.Deep

/-- A slice of elements of sz cells each, of which each stands for an x by Q. -/
def SliceOf {α : Type} (sz : Nat) (Q : List Value → α → Prop) (w : World) (v : Value) (xs : List α) : Prop :=
  (NoElems v ∧ xs = []) ∨ ∃ b off n c, v = .slice (some ⟨b, off, none⟩) n c ∧ n = xs.length ∧ n ≤ maxLen ∧
    ∀ j x, xs[j]? = some x → ∃ cs : List Value, cs.length = sz ∧ (∀ i u, cs[i]? = some u → w.cell? ⟨b, off + (j * sz + i), none⟩ = some u) ∧ Q cs x

section
variable {H : Type} {enc : TypeId × Value → H} {P : Program} {w : World} {base : Nat} {spare : Nat → Bool} {held : Bool}

theorem SliceOf.shape {α : Type} {sz : Nat} {Q : List Value → α → Prop} {v : Value} {xs : List α} (h : SliceOf sz Q w v xs) : ∃ a c, v = .slice a xs.length c := by
  rcases h with ⟨rfl | ⟨a, c, rfl⟩, rfl⟩ | ⟨b, off, n, c, rfl, rfl, _⟩
  · exact ⟨_, _, rfl⟩
  · exact ⟨_, _, rfl⟩
  · exact ⟨_, _, rfl⟩
theorem SliceOf.len_le {α : Type} {sz : Nat} {Q : List Value → α → Prop} {v : Value} {xs : List α} (h : SliceOf sz Q w v xs) : xs.length ≤ maxLen := by
  rcases h with ⟨_, rfl⟩ | ⟨b, off, n, c, _, rfl, hm, _⟩
  · simp
  · exact hm
theorem SliceOf.at {α : Type} {sz : Nat} {Q : List Value → α → Prop} {a : Option Addr} {n c : Nat} {xs : List α} (h : SliceOf sz Q w (.slice a n c) xs) (j : Nat) (hj : j < xs.length) :
    ∃ b off, a = some ⟨b, off, none⟩ ∧ ∃ cs : List Value, cs.length = sz ∧ (∀ i u, cs[i]? = some u → w.cell? ⟨b, off + (j * sz + i), none⟩ = some u) ∧ Q cs xs[j] := by
  rcases h with ⟨_, rfl⟩ | ⟨b, off, n, c, he, rfl, hm, hc⟩
  · simp at hj
  · cases he
    exact ⟨b, off, rfl, hc j xs[j] (List.getElem?_eq_getElem hj)⟩

end
end Go.Proofs.YtbiadclmonakkaaGreatDoor

/-
  Calls upon a disk, as plain data; the walks of fits and does.
-/
namespace Go.Proofs.YtbiadclmonakkaaGreatDoor
open Go.RowKit Go.Maps Go.MapKept

structure ACall where
  what : Int
  name : ByteArray
  to : ByteArray
  vb : Value
  b : List UInt8
  n : Int
  vk : Value
  keeps : List Int

def ACall.cells (c : ACall) : List Value := [.int .u8 c.what, .string c.name, .string c.to, c.vb, .int .i64 c.n, c.vk]
def ACall.val (c : ACall) : Value := .agg #[.int .u8 c.what, .string c.name, .string c.to, c.vb, .int .i64 c.n, c.vk]
/-- what is known of a call that came in. -/
structure CallOk (w : World) (c : ACall) : Prop where
  what0 : 0 ≤ c.what
  what1 : c.what ≤ 255
  name : c.name.size ≤ maxLen
  to : c.to.size ≤ maxLen
  rb : Rd w c.vb (bcells c.b)
  lb : c.b.length ≤ maxLen
  n : isI64 c.n
  rk : Rd w c.vk (iCells c.keeps)
  lk : c.keeps.length ≤ maxLen
  ik : ∀ x ∈ c.keeps, isI64 x

theorem rd_block {w : World} {v : Value} {xs : List Value} (h : Rd w v xs) (hx : xs ≠ []) : ∀ k, v.ownBlock = some k → k < w.heap.size := by
  intro k hk
  rcases h with ⟨_, rfl⟩ | ⟨b, off, n, c, rfl, hn, hc⟩
  · exact absurd rfl hx
  · cases hk
    cases xs with
    | nil => exact absurd rfl hx
    | cons x xs => exact cell_lt (hc 0 x rfl)
theorem Rd.keepLow {W w : World} {v : Value} {xs : List Value} (h : Rd W v xs) (hk : Below W.heap.size W w) : Rd w v xs := by
  rcases h with h | ⟨b, off, n, c, rfl, hl, hc⟩
  · exact Or.inl h
  · exact Or.inr ⟨b, off, n, c, rfl, hl, fun j u hj => (hk.cell (p := ⟨b, off + j, none⟩) (cell_lt (hc j u hj))).trans (hc j u hj)⟩
theorem CallOk.below {W w : World} {c : ACall} (h : CallOk W c) (hb : Below W.heap.size W w) : CallOk w c :=
  { h with rb := h.rb.keepLow hb, rk := h.rk.keepLow hb }

end Go.Proofs.YtbiadclmonakkaaGreatDoor

/-
  Arguments opened: calls upon a disk.
-/
namespace Go.Proofs.YtbiadclmonakkaaGreatDoor
open Go.RowKit Go.ChangeShapes Go.WideShapes Go.Deep

def CallQ (w : World) (l : List Value) (c : ACall) : Prop := l = c.cells ∧ CallOk w c
def CallsAt (w : World) (v : Value) (cs : List ACall) : Prop := SliceOf 6 (CallQ w) w v cs

theorem CallsAt.at {W w : World} {a : Option Addr} {n c : Nat} {cs : List ACall} (h : CallsAt W (.slice a n c) cs) (hb : Below W.heap.size W w) (k : Nat) (hk : k < cs.length) :
    ∃ b off, a = some ⟨b, off, none⟩ ∧ b < W.heap.size ∧ CallOk w cs[k] ∧ w.cell? ⟨b, off + k * 6, none⟩ = some (.int .u8 cs[k].what) ∧ w.cell? ⟨b, off + k * 6 + 1, none⟩ = some (.string cs[k].name) ∧ w.cell? ⟨b, off + k * 6 + 2, none⟩ = some (.string cs[k].to) ∧
      w.cell? ⟨b, off + k * 6 + 3, none⟩ = some cs[k].vb ∧ w.cell? ⟨b, off + k * 6 + 4, none⟩ = some (.int .i64 cs[k].n) ∧ w.cell? ⟨b, off + k * 6 + 5, none⟩ = some cs[k].vk := by
  obtain ⟨b, off, ha, l, _, hc, rfl, hok⟩ := SliceOf.at h k hk
  have hx : ∀ i u, cs[k].cells[i]? = some u → w.cell? ⟨b, off + k * 6 + i, none⟩ = some u := fun i u hu => by
    have h1 := hc i u hu
    rw [← Nat.add_assoc] at h1
    exact (hb.cell (p := ⟨b, off + k * 6 + i, none⟩) (cell_lt h1)).trans h1
  exact ⟨b, off, ha, cell_lt (hc 0 _ rfl), hok.below hb, hx 0 _ rfl, hx 1 _ rfl, hx 2 _ rfl, hx 3 _ rfl, hx 4 _ rfl, hx 5 _ rfl⟩

section
variable {H : Type} {enc : TypeId × Value → H} {w : World} {base : Nat} {spare : Nat → Bool} {held : Bool}

end
end Go.Proofs.YtbiadclmonakkaaGreatDoor

/-
  DiskPieces: the disk of one file, as plain data; its arguments opened.
-/
namespace Go.Proofs.YtbiadclmonakkaaGreatDoor
open Go.RowKit Go.ChangeShapes Go.WideShapes Go.Deep

section
variable {H : Type} {enc : TypeId × Value → H} {w : World} {base : Nat} {spare : Nat → Bool} {held : Bool}
def BytesQ (w : World) (l : List Value) (b : List UInt8) : Prop := ∃ v, l = [v] ∧ Rd w v (bcells b) ∧ b.length ≤ maxLen
def RowsAt (w : World) (v : Value) (bs : List (List UInt8)) : Prop := SliceOf 1 (BytesQ w) w v bs
def BoolsAt (w : World) (v : Value) (bs : List Bool) : Prop := SliceOf 1 (fun l b => l = [.bool b]) w v bs
end
theorem RowsAt.at {W w : World} {a : Option Addr} {n c : Nat} {bs : List (List UInt8)} (h : RowsAt W (.slice a n c) bs) (hb : Below W.heap.size W w) (k : Nat) (hk : k < bs.length) :
    ∃ b off v, a = some ⟨b, off, none⟩ ∧ b < W.heap.size ∧ w.cell? ⟨b, off + k, none⟩ = some v ∧ Rd w v (bcells bs[k]) ∧ (∀ g, v.ownBlock = some g → bs[k] ≠ [] → g < W.heap.size) := by
  obtain ⟨b, off, ha, l, _, hc, v, rfl, hr, hl⟩ := SliceOf.at h k hk
  have h1 := hc 0 v rfl
  rw [Nat.mul_one, Nat.add_zero] at h1
  refine ⟨b, off, v, ha, cell_lt h1, (hb.cell (p := ⟨b, off + k, none⟩) (cell_lt h1)).trans h1, hr.keepLow hb, fun g hg hne => ?_⟩
  exact rd_block hr (by intro e; exact hne (by simpa [bcells] using e)) g hg
theorem BoolsAt.at {W w : World} {a : Option Addr} {n c : Nat} {bs : List Bool} (h : BoolsAt W (.slice a n c) bs) (hb : Below W.heap.size W w) (k : Nat) (hk : k < bs.length) :
    ∃ b off, a = some ⟨b, off, none⟩ ∧ w.cell? ⟨b, off + k, none⟩ = some (.bool bs[k]) := by
  obtain ⟨b, off, ha, l, _, hc, rfl⟩ := SliceOf.at h k hk
  have h1 := hc 0 _ rfl
  rw [Nat.mul_one, Nat.add_zero] at h1
  exact ⟨b, off, ha, (hb.cell (p := ⟨b, off + k, none⟩) (cell_lt h1)).trans h1⟩
end Go.Proofs.YtbiadclmonakkaaGreatDoor

/-
  The walks of SameTexts, SameInts.
-/
namespace Go.Proofs.YtbiadclmonakkaaGreatDoor
open Go.RowKit Go.Maps Go.MapKept

def sCells (l : List ByteArray) : List Value := l.map Value.string
theorem sCells_length (l : List ByteArray) : (sCells l).length = l.length := by simp [sCells]
theorem iCells_length (l : List Int) : (iCells l).length = l.length := by simp [iCells]
theorem Rd.at {w : World} {a : Option Addr} {n c : Nat} {xs : List Value} (h : Rd w (.slice a n c) xs) (k : Nat) (hk : k < xs.length) : ∃ b o, a = some ⟨b, o, none⟩ ∧ w.cell? ⟨b, o + k, none⟩ = some xs[k] := by
  rcases h with ⟨_, h0⟩ | ⟨b, o, n, cc, he, _, hc⟩
  · subst h0; simp at hk
  · cases he
    exact ⟨b, o, rfl, hc k _ (List.getElem?_eq_getElem hk)⟩

theorem strEq (x y : ByteArray) : (x.toList == y.toList) = decide (x = y) := by
  rw [ByteArray.toList_eq, ByteArray.toList_eq]
  by_cases h : x = y
  · simp [h]
  · simp only [h, decide_false, beq_eq_false_iff_ne, ne_eq]
    exact fun e => h (bytes_ext e)

set_option maxRecDepth 100000 in
set_option maxHeartbeats 2000000 in
theorem SameTexts_any (w : World) (va vb : Value) (a b : List ByteArray) (ha : Rd w va (sCells a)) (hb : Rd w vb (sCells b)) (hla : a.length ≤ maxLen) (hlb : b.length ≤ maxLen) :
    Calls Tryz.prog 20 #[va, vb] w fun e w' => e = .returned (.bool (decide (a = b))) ∧ Below w.heap.size w w' := by
  obtain ⟨aa, ca, rfl⟩ := ha.shape
  obtain ⟨ab, cb, rfl⟩ := hb.shape
  simp only [sCells_length, maxLen] at *
  by_cases hl : a.length = b.length
  · have hln : ((a.length : Int) == (b.length : Int)) = true := by simp [hl]
    have Hl := Lib.hid hl
    clear hl
    go_enter Tryz.func20, Tryz.ntmps20
    go_wp2
    go_loopw [5, 6] (fun s i wr => ∃ (k : Nat) (sm : Bool), k ≤ a.length ∧ i = .int .i64 k ∧ s = .bool sm ∧ sm = decide (a.take k = b.take k) ∧ Below w.heap.size w wr) (fun _ i _ => a.length - (intOf i).toNat)
    case atStart => exact ⟨0, true, by omega, rfl, rfl, by simp, Below.refl _ _⟩
    case round =>
      obtain ⟨k, sm, hk, rfl, rfl, hsm, hbr⟩ := hrel
      have Hsm := Lib.hid hsm
      clear hsm
      cases sm with
      | false =>
        go_wp2
        go_ret
        refine ⟨?_, hbr⟩
        have : a ≠ b := by rintro rfl; have := Hsm.out; simp at this
        simp [this]
      | true =>
        by_cases hlt : k < a.length
        · have hltb : k < b.length := by have := Hl.out; omega
          obtain ⟨b0, o0, rfl, c0⟩ := ha.at k (by rw [sCells_length]; exact hlt)
          obtain ⟨b1, o1, rfl, c1⟩ := hb.at k (by rw [sCells_length]; exact hltb)
          simp only [sCells, List.getElem_map] at c0 c1
          have d0 := (hbr.cell (p := ⟨b0, o0 + k, none⟩) (cell_lt c0)).trans c0
          have d1 := (hbr.cell (p := ⟨b1, o1 + k, none⟩) (cell_lt c1)).trans c1
          have hs : decide (a.take (k + 1) = b.take (k + 1)) = decide (a[k] = b[k]) := by
            have h0 : a.take k = b.take k := by have := Hsm.out; simpa using this.symm
            rw [List.take_succ_eq_append_getElem hlt, List.take_succ_eq_append_getElem hltb, h0]
            exact decide_eq_decide.2 ⟨fun h => by simpa using List.append_cancel_left h, fun h => by rw [h]⟩
          obtain ⟨x, hx⟩ : ∃ x, a[k] = x := ⟨_, rfl⟩
          obtain ⟨y, hy⟩ : ∃ y, b[k] = y := ⟨_, rfl⟩
          rw [hx] at d0 hs
          rw [hy] at d1 hs
          have Hs := Lib.hid hs
          clear c0 c1 hx hy hs
          go_wp2
          refine wp_region_reads (by kernel_rfl) (by kernel_rfl) ?_
          repeat still_step
          refine wpStill_nil ?_
          go_wp2
          go_roundw
          case rel => exact ⟨k + 1, _, by omega, by go_num, rfl, by rw [Hs.out]; exact strEq x y, hbr.drew⟩
          case measure => simp [intOf]; omega
        · have hkl : k = a.length := by omega
          have heq : a = b := by
            have h0 : a.take k = b.take k := by have := Hsm.out; simpa using this.symm
            rwa [List.take_of_length_le (by omega), List.take_of_length_le (by have := Hl.out; omega)] at h0
          have Heq := Lib.hid heq
          clear heq
          go_wp2
          go_ret
          exact ⟨by simp [Heq.out], hbr⟩
  · have hln : ((a.length : Int) == (b.length : Int)) = false := by simp; omega
    have hne : a ≠ b := fun e => hl (by rw [e])
    have Hne := Lib.hid hne
    clear hl hne
    go_enter Tryz.func20, Tryz.ntmps20
    go_wp2
    go_loopw [5, 6] (fun s i wr => i = .int .i64 0 ∧ s = .bool false ∧ Below w.heap.size w wr) (fun _ _ _ => 0)
    case atStart => exact ⟨rfl, rfl, Below.refl _ _⟩
    case round =>
      obtain ⟨rfl, rfl, hbr⟩ := hrel
      go_wp2
      go_ret
      exact ⟨by simp [Hne.out], hbr⟩

end Go.Proofs.YtbiadclmonakkaaGreatDoor
