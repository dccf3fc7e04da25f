/-
  The walks of the statements' own helpers: file, tells.
-/
import Derived.Outline
import Derived.Laws.BytesArg
import Derived.Test.YtkacgmbinkoojaaGreatDoorMDkB
import Derived.ProofKit
import Derived.OpenShut
import Derived.Deep.Slices
import Derived.Deep.Fields
import Derived.ChangeSame
namespace Go.Proofs.YtkacgmbinkoojaaGreatDoor
open Go.RowKit Go.Maps Go.MapKept

theorem run_bytes_str {P : Program} {w : World} {v : Value} {b : List UInt8} (h : Rd w v (bcells b)) {src dst e : TypeId} (hs : P.underlying src = some (.slice e)) (he : P.underlying e = some (.int .u8)) (hd : P.underlying dst = some .string) :
    (convert src dst v).run P w = .ok (.string ⟨b.toArray⟩) w := by
  rcases h with ⟨rfl | ⟨a, c, rfl⟩, hb⟩ | ⟨bl, off, n, c, rfl, hn, hc⟩
  · have : b = [] := by simpa [bcells] using hb
    subst this
    exact run_convert_bytes_nil w src e hs he 0 0 dst hd
  · have : b = [] := by simpa [bcells] using hb
    subst this
    rw [run_convert_bytes_string w src dst e _ 0 c hs he hd, run_bytesToString w a 0 c [] (by simp [loadCells, loadCellsFrom])]
    rfl
  · have hl : (b.map fun x => (x.toNat : Int)).length = n := by rw [hn, bcells_length]; simp
    have := run_convert_bytes_arg (P := P) w src e hs he bl off n c (b.map fun x => (x.toNat : Int)) hl (fun i hi => by
      have hib : i < b.length := by rw [hn, bcells_length] at hi; exact hi
      rw [hc i (.int .u8 (b[i].toNat : Int)) (by simp [bcells, hib])]
      simp [List.getD, hib]) dst hd
    rw [this]
    congr 2
    have : b.map (fun x => UInt8.ofNat ((x.toNat : Int)).toNat) = b := by
      rw [List.map_congr_left (g := id) (fun x _ => by simp), List.map_id]
    simp only [strOfNums, List.map_map]
    rw [← this]
    simp [Function.comp_def]

end Go.Proofs.YtkacgmbinkoojaaGreatDoor

/-
  Arguments opened: what a slice that came in reads as.
-/
namespace Go.Proofs.YtkacgmbinkoojaaGreatDoor
open Go.RowKit Go.ChangeShapes Go.WideShapes Go.Deep

/-- A slice of elements of sz cells each, of which each stands for an x by Q. -/
def SliceOf {α : Type} (sz : Nat) (Q : List Value → α → Prop) (w : World) (v : Value) (xs : List α) : Prop :=
  (NoElems v ∧ xs = []) ∨ ∃ b off n c, v = .slice (some ⟨b, off, none⟩) n c ∧ n = xs.length ∧ n ≤ maxLen ∧
    ∀ j x, xs[j]? = some x → ∃ cs : List Value, cs.length = sz ∧ (∀ i u, cs[i]? = some u → w.cell? ⟨b, off + (j * sz + i), none⟩ = some u) ∧ Q cs x

section
variable {H : Type} {enc : TypeId × Value → H} {P : Program} {w : World} {base : Nat} {spare : Nat → Bool} {held : Bool}

theorem SliceOf.shape {α : Type} {sz : Nat} {Q : List Value → α → Prop} {v : Value} {xs : List α} (h : SliceOf sz Q w v xs) : ∃ a c, v = .slice a xs.length c := by
  rcases h with ⟨rfl | ⟨a, c, rfl⟩, rfl⟩ | ⟨b, off, n, c, rfl, rfl, _⟩
  · exact ⟨_, _, rfl⟩
  · exact ⟨_, _, rfl⟩
  · exact ⟨_, _, rfl⟩
theorem SliceOf.len_le {α : Type} {sz : Nat} {Q : List Value → α → Prop} {v : Value} {xs : List α} (h : SliceOf sz Q w v xs) : xs.length ≤ maxLen := by
  rcases h with ⟨_, rfl⟩ | ⟨b, off, n, c, _, rfl, hm, _⟩
  · simp
  · exact hm
theorem SliceOf.at {α : Type} {sz : Nat} {Q : List Value → α → Prop} {a : Option Addr} {n c : Nat} {xs : List α} (h : SliceOf sz Q w (.slice a n c) xs) (j : Nat) (hj : j < xs.length) :
    ∃ b off, a = some ⟨b, off, none⟩ ∧ ∃ cs : List Value, cs.length = sz ∧ (∀ i u, cs[i]? = some u → w.cell? ⟨b, off + (j * sz + i), none⟩ = some u) ∧ Q cs xs[j] := by
  rcases h with ⟨_, rfl⟩ | ⟨b, off, n, c, he, rfl, hm, hc⟩
  · simp at hj
  · cases he
    exact ⟨b, off, rfl, hc j xs[j] (List.getElem?_eq_getElem hj)⟩

theorem open_of {α : Type} {t e : TypeId} (ht : P.underlying t = some (.slice e)) (hsz : 0 < P.cellsOf e) (Q : List Value → α → Prop)
    (hQ : ∀ n cs y, cs.length = P.cellsOf e → DataW.trod enc P w base spare held n e cs = some y → ∃ x, Q cs x)
    {fuel : Nat} {v : Value} {y : DataW H × List MemPlace} (h : DataW.trod enc P w base spare held fuel t [v] = some y) : ∃ xs : List α, SliceOf (P.cellsOf e) Q w v xs := by
  rcases open_slice ht h with ⟨hcs, _⟩ | ⟨a, len, cap, m, n, D, Pl, hcs, hb, hl, hm, hmm, hx, hi⟩
  · simp at hcs
    exact ⟨[], Or.inl ⟨Or.inl hcs, rfl⟩⟩
  · simp at hcs
    subst hcs
    have hlm : len ≤ m := by rw [hmm]; split <;> omega
    by_cases h0 : len = 0
    · subst h0
      exact ⟨[], Or.inl ⟨Or.inr ⟨a, cap, rfl⟩, rfl⟩⟩
    · have each : ∀ i, i < len → ∃ x : α, ∃ cs : List Value, cs.length = P.cellsOf e ∧ (∀ k u, cs[k]? = some u → w.cell? (a.add (i * P.cellsOf e + k)) = some u) ∧ Q cs x := by
        intro i hil
        obtain ⟨cs, hc, htr⟩ := hi i (by omega)
        obtain ⟨_, hcl, hat⟩ := World.cells?_some hc
        obtain ⟨x, hx⟩ := hQ n cs _ hcl htr
        refine ⟨x, cs, hcl, fun k u hu => ?_, hx⟩
        have hk := (List.getElem?_eq_some_iff.1 hu).1
        have := hat k (by omega)
        rw [Go.Deep.add_add] at this
        rw [this, hu]
      obtain ⟨b, off, rfl⟩ : ∃ b off, a = ⟨b, off, none⟩ := by
        obtain ⟨x, cs, hcl, hk, _⟩ := each 0 (by omega)
        have h1 := hk 0 (cs[0]'(by omega)) (List.getElem?_eq_getElem (by omega))
        obtain ⟨b, off, sp⟩ := a
        cases sp with
        | none => exact ⟨b, off, rfl⟩
        | some s =>
          exfalso
          simp only [Nat.zero_mul, Nat.add_zero, Addr.add, if_true] at h1
          unfold World.cell? at h1
          split at h1 <;> simp at h1
      have : ∃ xs : List α, xs.length = len ∧ ∀ i x, xs[i]? = some x → ∃ cs : List Value, cs.length = P.cellsOf e ∧ (∀ k u, cs[k]? = some u → w.cell? ((⟨b, off, none⟩ : Addr).add (i * P.cellsOf e + k)) = some u) ∧ Q cs x := by
        clear h hx hi hmm hlm h0 hl
        induction len with
        | zero => exact ⟨[], rfl, by simp⟩
        | succ k ih =>
          obtain ⟨xs, hxl, hxs⟩ := ih (fun i hi => each i (by omega))
          obtain ⟨x, hx⟩ := each k (by omega)
          refine ⟨xs ++ [x], by simp [hxl], fun i u hu => ?_⟩
          by_cases hik : i < xs.length
          · rw [List.getElem?_append_left hik] at hu; exact hxs i u hu
          · rw [List.getElem?_append_right (by omega)] at hu
            have : i = k := by have := (List.getElem?_eq_some_iff.1 hu).1; simp at this; omega
            subst this
            rw [hxl, Nat.sub_self] at hu
            simp at hu
            subst hu
            exact hx
      obtain ⟨xs, hxl, hxs⟩ := this
      refine ⟨xs, Or.inr ⟨b, off, len, cap, rfl, hxl.symm, by omega, fun j x hj => ?_⟩⟩
      obtain ⟨cs, h1, h2, h3⟩ := hxs j x hj
      exact ⟨cs, h1, fun i u hu => by have := h2 i u hu; rwa [Addr.add_lit] at this, h3⟩

/-- a slice of bytes. -/
theorem open_bytes {t e : TypeId} (ht : P.underlying t = some (.slice e)) (he : P.underlying e = some (.int .u8)) (hc : P.cellsOf e = 1) {fuel : Nat} {v : Value} {y : DataW H × List MemPlace}
    (h : DataW.trod enc P w base spare held fuel t [v] = some y) : ∃ b : List UInt8, Rd w v (bcells b) ∧ b.length ≤ maxLen := by
  obtain ⟨xs, hx⟩ := open_of ht (by omega) (fun cs (x : UInt8) => cs = [.int .u8 x.toNat]) (fun n cs y _ htr => by
    obtain ⟨z, rfl, _, hw⟩ := DataW.trod_int he htr
    have hb := bounds_u8 hw
    exact ⟨UInt8.ofNat z.toNat, by congr 2; simp; omega⟩) h
  refine ⟨xs, ?_, hx.len_le⟩
  rcases hx with ⟨h0, rfl⟩ | ⟨b, off, n, c, rfl, rfl, hm, hcs⟩
  · exact Or.inl ⟨h0, rfl⟩
  · refine Or.inr ⟨b, off, _, c, rfl, by rw [bcells_length], fun j u hu => ?_⟩
    simp only [bcells, List.getElem?_map, Option.map_eq_some_iff] at hu
    obtain ⟨x, hxj, rfl⟩ := hu
    obtain ⟨cs, _, h2, rfl⟩ := hcs j x hxj
    have := h2 0 _ rfl
    rwa [hc, Nat.mul_one, Nat.add_zero] at this
end
end Go.Proofs.YtkacgmbinkoojaaGreatDoor

/-
  The walks of SameTexts, SameInts.
-/
namespace Go.Proofs.YtkacgmbinkoojaaGreatDoor
open Go.RowKit Go.Maps Go.MapKept

def sCells (l : List ByteArray) : List Value := l.map Value.string
theorem sCells_length (l : List ByteArray) : (sCells l).length = l.length := by simp [sCells]
theorem iCells_length (l : List Int) : (iCells l).length = l.length := by simp [iCells]
theorem Rd.at {w : World} {a : Option Addr} {n c : Nat} {xs : List Value} (h : Rd w (.slice a n c) xs) (k : Nat) (hk : k < xs.length) : ∃ b o, a = some ⟨b, o, none⟩ ∧ w.cell? ⟨b, o + k, none⟩ = some xs[k] := by
  rcases h with ⟨_, h0⟩ | ⟨b, o, n, cc, he, _, hc⟩
  · subst h0; simp at hk
  · cases he
    exact ⟨b, o, rfl, hc k _ (List.getElem?_eq_getElem hk)⟩

theorem strEq (x y : ByteArray) : (x.toList == y.toList) = decide (x = y) := by
  rw [ByteArray.toList_eq, ByteArray.toList_eq]
  by_cases h : x = y
  · simp [h]
  · simp only [h, decide_false, beq_eq_false_iff_ne, ne_eq]
    exact fun e => h (bytes_ext e)

set_option maxRecDepth 100000 in
set_option maxHeartbeats 2000000 in
theorem SameTexts_any (w : World) (va vb : Value) (a b : List ByteArray) (ha : Rd w va (sCells a)) (hb : Rd w vb (sCells b)) (hla : a.length ≤ maxLen) (hlb : b.length ≤ maxLen) :
    Calls Tryz.prog 25 #[va, vb] w fun e w' => e = .returned (.bool (decide (a = b))) ∧ Below w.heap.size w w' := by
  obtain ⟨aa, ca, rfl⟩ := ha.shape
  obtain ⟨ab, cb, rfl⟩ := hb.shape
  simp only [sCells_length, maxLen] at *
  by_cases hl : a.length = b.length
  · have hln : ((a.length : Int) == (b.length : Int)) = true := by simp [hl]
    have Hl := Lib.hid hl
    clear hl
    go_enter Tryz.func25, Tryz.ntmps25
    go_wp2
    go_loopw [5, 6] (fun s i wr => ∃ (k : Nat) (sm : Bool), k ≤ a.length ∧ i = .int .i64 k ∧ s = .bool sm ∧ sm = decide (a.take k = b.take k) ∧ Below w.heap.size w wr) (fun _ i _ => a.length - (intOf i).toNat)
    case atStart => exact ⟨0, true, by omega, rfl, rfl, by simp, Below.refl _ _⟩
    case round =>
      obtain ⟨k, sm, hk, rfl, rfl, hsm, hbr⟩ := hrel
      have Hsm := Lib.hid hsm
      clear hsm
      cases sm with
      | false =>
        go_wp2
        go_ret
        refine ⟨?_, hbr⟩
        have : a ≠ b := by rintro rfl; have := Hsm.out; simp at this
        simp [this]
      | true =>
        by_cases hlt : k < a.length
        · have hltb : k < b.length := by have := Hl.out; omega
          obtain ⟨b0, o0, rfl, c0⟩ := ha.at k (by rw [sCells_length]; exact hlt)
          obtain ⟨b1, o1, rfl, c1⟩ := hb.at k (by rw [sCells_length]; exact hltb)
          simp only [sCells, List.getElem_map] at c0 c1
          have d0 := (hbr.cell (p := ⟨b0, o0 + k, none⟩) (cell_lt c0)).trans c0
          have d1 := (hbr.cell (p := ⟨b1, o1 + k, none⟩) (cell_lt c1)).trans c1
          have hs : decide (a.take (k + 1) = b.take (k + 1)) = decide (a[k] = b[k]) := by
            have h0 : a.take k = b.take k := by have := Hsm.out; simpa using this.symm
            rw [List.take_succ_eq_append_getElem hlt, List.take_succ_eq_append_getElem hltb, h0]
            exact decide_eq_decide.2 ⟨fun h => by simpa using List.append_cancel_left h, fun h => by rw [h]⟩
          obtain ⟨x, hx⟩ : ∃ x, a[k] = x := ⟨_, rfl⟩
          obtain ⟨y, hy⟩ : ∃ y, b[k] = y := ⟨_, rfl⟩
          rw [hx] at d0 hs
          rw [hy] at d1 hs
          have Hs := Lib.hid hs
          clear c0 c1 hx hy hs
          go_wp2
          refine wp_region_reads (by kernel_rfl) (by kernel_rfl) ?_
          repeat still_step
          refine wpStill_nil ?_
          go_wp2
          go_roundw
          case rel => exact ⟨k + 1, _, by omega, by go_num, rfl, by rw [Hs.out]; exact strEq x y, hbr.drew⟩
          case measure => simp [intOf]; omega
        · have hkl : k = a.length := by omega
          have heq : a = b := by
            have h0 : a.take k = b.take k := by have := Hsm.out; simpa using this.symm
            rwa [List.take_of_length_le (by omega), List.take_of_length_le (by have := Hl.out; omega)] at h0
          have Heq := Lib.hid heq
          clear heq
          go_wp2
          go_ret
          exact ⟨by simp [Heq.out], hbr⟩
  · have hln : ((a.length : Int) == (b.length : Int)) = false := by simp; omega
    have hne : a ≠ b := fun e => hl (by rw [e])
    have Hne := Lib.hid hne
    clear hl hne
    go_enter Tryz.func25, Tryz.ntmps25
    go_wp2
    go_loopw [5, 6] (fun s i wr => i = .int .i64 0 ∧ s = .bool false ∧ Below w.heap.size w wr) (fun _ _ _ => 0)
    case atStart => exact ⟨rfl, rfl, Below.refl _ _⟩
    case round =>
      obtain ⟨rfl, rfl, hbr⟩ := hrel
      go_wp2
      go_ret
      exact ⟨by simp [Hne.out], hbr⟩

end Go.Proofs.YtkacgmbinkoojaaGreatDoor
