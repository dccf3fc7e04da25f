/-
  Arguments opened: what a slice that came in reads as.
-/
import Derived.ProofKit
import Derived.OpenShut
import Derived.Deep.Slices
import Derived.Deep.Fields
import Derived.ChangeSame
import Derived.Test.YtnagejhpdhdpfaaGreatDoorDisk7
namespace Go.Proofs.YtnagejhpdhdpfaaGreatDoor
open Go.RowKit Go.ChangeShapes Go.WideShapes Go.Deep

/-- A slice of elements of sz cells each, of which each stands for an x by Q. -/
def SliceOf {α : Type} (sz : Nat) (Q : List Value → α → Prop) (w : World) (v : Value) (xs : List α) : Prop :=
  (NoElems v ∧ xs = []) ∨ ∃ b off n c, v = .slice (some ⟨b, off, none⟩) n c ∧ n = xs.length ∧ n ≤ maxLen ∧
    ∀ j x, xs[j]? = some x → ∃ cs : List Value, cs.length = sz ∧ (∀ i u, cs[i]? = some u → w.cell? ⟨b, off + (j * sz + i), none⟩ = some u) ∧ Q cs x

section
variable {H : Type} {enc : TypeId × Value → H} {P : Program} {w : World} {base : Nat} {spare : Nat → Bool} {held : Bool}

theorem SliceOf.shape {α : Type} {sz : Nat} {Q : List Value → α → Prop} {v : Value} {xs : List α} (h : SliceOf sz Q w v xs) : ∃ a c, v = .slice a xs.length c := by
  rcases h with ⟨rfl | ⟨a, c, rfl⟩, rfl⟩ | ⟨b, off, n, c, rfl, rfl, _⟩
  · exact ⟨_, _, rfl⟩
  · exact ⟨_, _, rfl⟩
  · exact ⟨_, _, rfl⟩
theorem SliceOf.len_le {α : Type} {sz : Nat} {Q : List Value → α → Prop} {v : Value} {xs : List α} (h : SliceOf sz Q w v xs) : xs.length ≤ maxLen := by
  rcases h with ⟨_, rfl⟩ | ⟨b, off, n, c, _, rfl, hm, _⟩
  · simp
  · exact hm
theorem SliceOf.at {α : Type} {sz : Nat} {Q : List Value → α → Prop} {a : Option Addr} {n c : Nat} {xs : List α} (h : SliceOf sz Q w (.slice a n c) xs) (j : Nat) (hj : j < xs.length) :
    ∃ b off, a = some ⟨b, off, none⟩ ∧ ∃ cs : List Value, cs.length = sz ∧ (∀ i u, cs[i]? = some u → w.cell? ⟨b, off + (j * sz + i), none⟩ = some u) ∧ Q cs xs[j] := by
  rcases h with ⟨_, rfl⟩ | ⟨b, off, n, c, he, rfl, hm, hc⟩
  · simp at hj
  · cases he
    exact ⟨b, off, rfl, hc j xs[j] (List.getElem?_eq_getElem hj)⟩

theorem open_of {α : Type} {t e : TypeId} (ht : P.underlying t = some (.slice e)) (hsz : 0 < P.cellsOf e) (Q : List Value → α → Prop)
    (hQ : ∀ n cs y, cs.length = P.cellsOf e → DataW.trod enc P w base spare held n e cs = some y → ∃ x, Q cs x)
    {fuel : Nat} {v : Value} {y : DataW H × List MemPlace} (h : DataW.trod enc P w base spare held fuel t [v] = some y) : ∃ xs : List α, SliceOf (P.cellsOf e) Q w v xs := by
  rcases open_slice ht h with ⟨hcs, _⟩ | ⟨a, len, cap, m, n, D, Pl, hcs, hb, hl, hm, hmm, hx, hi⟩
  · simp at hcs
    exact ⟨[], Or.inl ⟨Or.inl hcs, rfl⟩⟩
  · simp at hcs
    subst hcs
    have hlm : len ≤ m := by rw [hmm]; split <;> omega
    by_cases h0 : len = 0
    · subst h0
      exact ⟨[], Or.inl ⟨Or.inr ⟨a, cap, rfl⟩, rfl⟩⟩
    · have each : ∀ i, i < len → ∃ x : α, ∃ cs : List Value, cs.length = P.cellsOf e ∧ (∀ k u, cs[k]? = some u → w.cell? (a.add (i * P.cellsOf e + k)) = some u) ∧ Q cs x := by
        intro i hil
        obtain ⟨cs, hc, htr⟩ := hi i (by omega)
        obtain ⟨_, hcl, hat⟩ := World.cells?_some hc
        obtain ⟨x, hx⟩ := hQ n cs _ hcl htr
        refine ⟨x, cs, hcl, fun k u hu => ?_, hx⟩
        have hk := (List.getElem?_eq_some_iff.1 hu).1
        have := hat k (by omega)
        rw [Go.Deep.add_add] at this
        rw [this, hu]
      obtain ⟨b, off, rfl⟩ : ∃ b off, a = ⟨b, off, none⟩ := by
        obtain ⟨x, cs, hcl, hk, _⟩ := each 0 (by omega)
        have h1 := hk 0 (cs[0]'(by omega)) (List.getElem?_eq_getElem (by omega))
        obtain ⟨b, off, sp⟩ := a
        cases sp with
        | none => exact ⟨b, off, rfl⟩
        | some s =>
          exfalso
          simp only [Nat.zero_mul, Nat.add_zero, Addr.add, if_true] at h1
          unfold World.cell? at h1
          split at h1 <;> simp at h1
      have : ∃ xs : List α, xs.length = len ∧ ∀ i x, xs[i]? = some x → ∃ cs : List Value, cs.length = P.cellsOf e ∧ (∀ k u, cs[k]? = some u → w.cell? ((⟨b, off, none⟩ : Addr).add (i * P.cellsOf e + k)) = some u) ∧ Q cs x := by
        clear h hx hi hmm hlm h0 hl
        induction len with
        | zero => exact ⟨[], rfl, by simp⟩
        | succ k ih =>
          obtain ⟨xs, hxl, hxs⟩ := ih (fun i hi => each i (by omega))
          obtain ⟨x, hx⟩ := each k (by omega)
          refine ⟨xs ++ [x], by simp [hxl], fun i u hu => ?_⟩
          by_cases hik : i < xs.length
          · rw [List.getElem?_append_left hik] at hu; exact hxs i u hu
          · rw [List.getElem?_append_right (by omega)] at hu
            have : i = k := by have := (List.getElem?_eq_some_iff.1 hu).1; simp at this; omega
            subst this
            rw [hxl, Nat.sub_self] at hu
            simp at hu
            subst hu
            exact hx
      obtain ⟨xs, hxl, hxs⟩ := this
      refine ⟨xs, Or.inr ⟨b, off, len, cap, rfl, hxl.symm, by omega, fun j x hj => ?_⟩⟩
      obtain ⟨cs, h1, h2, h3⟩ := hxs j x hj
      exact ⟨cs, h1, fun i u hu => by have := h2 i u hu; rwa [Addr.add_lit] at this, h3⟩

/-- a slice of bytes. -/
theorem open_bytes {t e : TypeId} (ht : P.underlying t = some (.slice e)) (he : P.underlying e = some (.int .u8)) (hc : P.cellsOf e = 1) {fuel : Nat} {v : Value} {y : DataW H × List MemPlace}
    (h : DataW.trod enc P w base spare held fuel t [v] = some y) : ∃ b : List UInt8, Rd w v (bcells b) ∧ b.length ≤ maxLen := by
  obtain ⟨xs, hx⟩ := open_of ht (by omega) (fun cs (x : UInt8) => cs = [.int .u8 x.toNat]) (fun n cs y _ htr => by
    obtain ⟨z, rfl, _, hw⟩ := DataW.trod_int he htr
    have hb := bounds_u8 hw
    exact ⟨UInt8.ofNat z.toNat, by congr 2; simp; omega⟩) h
  refine ⟨xs, ?_, hx.len_le⟩
  rcases hx with ⟨h0, rfl⟩ | ⟨b, off, n, c, rfl, rfl, hm, hcs⟩
  · exact Or.inl ⟨h0, rfl⟩
  · refine Or.inr ⟨b, off, _, c, rfl, by rw [bcells_length], fun j u hu => ?_⟩
    simp only [bcells, List.getElem?_map, Option.map_eq_some_iff] at hu
    obtain ⟨x, hxj, rfl⟩ := hu
    obtain ⟨cs, _, h2, rfl⟩ := hcs j x hxj
    have := h2 0 _ rfl
    rwa [hc, Nat.mul_one, Nat.add_zero] at this
/-- a slice of ints. -/
theorem open_i64s {t e : TypeId} (ht : P.underlying t = some (.slice e)) (he : P.underlying e = some (.int .i64)) (hc : P.cellsOf e = 1) {fuel : Nat} {v : Value} {y : DataW H × List MemPlace}
    (h : DataW.trod enc P w base spare held fuel t [v] = some y) : ∃ b : List Int, Rd w v (iCells b) ∧ b.length ≤ maxLen ∧ ∀ x ∈ b, isI64 x := by
  obtain ⟨xs, hx⟩ := open_of ht (by omega) (fun cs (x : { z : Int // isI64 z }) => cs = [.int .i64 x.1]) (fun n cs y _ htr => by
    obtain ⟨z, rfl, _, hw⟩ := DataW.trod_int he htr
    have hb := bounds_i64 hw
    exact ⟨⟨z, by unfold isI64; omega⟩, rfl⟩) h
  refine ⟨xs.map (·.1), ?_, by rw [List.length_map]; exact hx.len_le, fun x hx => by obtain ⟨y, _, rfl⟩ := List.mem_map.1 hx; exact y.2⟩
  rcases hx with ⟨h0, rfl⟩ | ⟨b, off, n, c, rfl, rfl, hm, hcs⟩
  · exact Or.inl ⟨h0, rfl⟩
  · refine Or.inr ⟨b, off, _, c, rfl, by simp [iCells], fun j u hu => ?_⟩
    simp only [iCells, List.getElem?_map, Option.map_eq_some_iff] at hu
    obtain ⟨_, ⟨x, hxj, rfl⟩, rfl⟩ := hu
    obtain ⟨cs, _, h2, rfl⟩ := hcs j x hxj
    have := h2 0 _ rfl
    rwa [hc, Nat.mul_one, Nat.add_zero] at this
end
end Go.Proofs.YtnagejhpdhdpfaaGreatDoor
