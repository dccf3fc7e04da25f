/-
  Varints as plain lists. No program here.
-/
import Std.Tactic
namespace Go.Proofs.YtnagejhpdhdpfaaGreatDoor

/-- the bytes of a number. -/
def vint (n : Nat) : List UInt8 := if n < 128 then [UInt8.ofNat n] else UInt8.ofNat (128 + n % 128) :: vint (n / 128)
termination_by n
decreasing_by omega
/-- what bytes say. -/
def vVal : List UInt8 → Nat
  | [] => 0
  | x :: r => x.toNat % 128 + 128 * vVal r
theorem vint_small {n : Nat} (h : n < 128) : vint n = [UInt8.ofNat n] := by rw [vint, if_pos h]
theorem vint_big {n : Nat} (h : ¬ n < 128) : vint n = UInt8.ofNat (128 + n % 128) :: vint (n / 128) := by rw [vint, if_neg h]
theorem vint_val (n : Nat) : vVal (vint n) = n := by
  induction n using Nat.strongRecOn with
  | _ n ih =>
    by_cases h : n < 128
    · rw [vint_small h]
      simp only [vVal, UInt8.toNat_ofNat']
      omega
    · rw [vint_big h]
      simp only [vVal, UInt8.toNat_ofNat']
      rw [ih (n / 128) (by omega)]
      omega
theorem vint_inj {m n : Nat} (h : vint m = vint n) : m = n := by rw [← vint_val m, ← vint_val n, h]
theorem vint_pos (n : Nat) : 0 < (vint n).length := by
  by_cases h : n < 128
  · rw [vint_small h]; simp
  · rw [vint_big h]; simp
theorem vint_len {n k : Nat} (hk : 0 < k) (h : n < 128 ^ k) : (vint n).length ≤ k := by
  induction k generalizing n with
  | zero => omega
  | succ k ih =>
    by_cases hs : n < 128
    · rw [vint_small hs]; simp
    · rw [vint_big hs]
      have hk0 : 0 < k := by
        rcases Nat.eq_zero_or_pos k with e | e
        · subst e; simp at h; omega
        · exact e
      have := ih hk0 (n := n / 128) (by rw [Nat.pow_succ] at h; omega)
      simp; omega
/-- a varint's last byte is below 128, all ahead of it are not. -/
theorem vint_last (n : Nat) : ∃ ys y, vint n = ys ++ [y] ∧ (∀ x ∈ ys, 128 ≤ x.toNat) ∧ y.toNat < 128 ∧ (ys ≠ [] → y.toNat ≠ 0) := by
  induction n using Nat.strongRecOn with
  | _ n ih =>
    by_cases h : n < 128
    · refine ⟨[], UInt8.ofNat n, by rw [vint_small h]; rfl, by simp, ?_, by simp⟩
      simp only [UInt8.toNat_ofNat']; omega
    · obtain ⟨ys, y, h1, h2, h3, h4⟩ := ih (n / 128) (by omega)
      refine ⟨UInt8.ofNat (128 + n % 128) :: ys, y, by rw [vint_big h, h1]; rfl, ?_, h3, fun _ => ?_⟩
      · intro x hx
        rcases List.mem_cons.1 hx with rfl | hx
        · simp only [UInt8.toNat_ofNat']; omega
        · exact h2 x hx
      · by_cases hy : ys = []
        · subst hy
          have := vint_val (n / 128)
          rw [h1] at this
          simp only [List.nil_append, vVal] at this
          omega
        · exact h4 hy
theorem vVal_pos (ys : List UInt8) {y : UInt8} (h3 : y.toNat ≠ 0) (h2 : y.toNat < 128) : 0 < vVal (ys ++ [y]) := by
  induction ys with
  | nil => simp only [List.nil_append, vVal]; omega
  | cons z zs ih => simp only [List.cons_append, vVal]; omega
/-- bytes of the form of a varint are one. -/
theorem vint_of {ys : List UInt8} {y : UInt8} (h1 : ∀ x ∈ ys, 128 ≤ x.toNat) (h2 : y.toNat < 128) (h3 : ys ≠ [] → y.toNat ≠ 0) : vint (vVal (ys ++ [y])) = ys ++ [y] := by
  induction ys with
  | nil =>
    simp only [List.nil_append, vVal]
    rw [show y.toNat % 128 + 128 * 0 = y.toNat by omega, vint_small h2]
    simp
  | cons x ys ih =>
    have ih := ih (fun z hz => h1 z (List.mem_cons_of_mem _ hz)) (fun hne => h3 (by simp))
    have hx := h1 x (by simp)
    have hxl := x.toNat_lt
    have hv := vVal_pos ys (h3 (by simp)) h2
    rw [List.cons_append, vVal, vint_big (by omega)]
    rw [show (x.toNat % 128 + 128 * vVal (ys ++ [y])) / 128 = vVal (ys ++ [y]) by omega, ih]
    congr 1
    rw [show 128 + (x.toNat % 128 + 128 * vVal (ys ++ [y])) % 128 = x.toNat by omega]
    simp

/-- what GetUint tells of bytes from its place on: the error, the number, how many bytes it has. -/
def gU (l : List UInt8) : Int × Nat × Nat :=
  match (l.take 10).findIdx? (fun x => decide (x.toNat < 128)) with
  | none => if l.length < 10 then (11, 0, 0) else (10, 0, 0)
  | some e => if (0 < e ∧ (l.getD e 0).toNat = 0) ∨ (e = 9 ∧ 1 < (l.getD e 0).toNat) then (10, 0, 0) else (0, vVal (l.take (e + 1)), e + 1)
theorem vVal_app (a b : List UInt8) : vVal (a ++ b) = vVal a + 128 ^ a.length * vVal b := by
  induction a with
  | nil => simp [vVal]
  | cons x a ih => simp only [List.cons_append, vVal, ih, List.length_cons, Nat.pow_succ]; rw [Nat.mul_add, ← Nat.add_assoc]; congr 1; rw [Nat.mul_comm (128 ^ a.length) 128, Nat.mul_assoc]
theorem vVal_lt (a : List UInt8) : vVal a < 128 ^ a.length := by
  induction a with
  | nil => simp [vVal]
  | cons x a ih => simp only [vVal, List.length_cons, Nat.pow_succ]; omega
theorem findIdx_app {α : Type} {p : α → Bool} (xs : List α) (y : α) (r : List α) (h1 : ∀ x ∈ xs, p x = false) (h2 : p y = true) : (xs ++ y :: r).findIdx? p = some xs.length := by
  rw [List.findIdx?_eq_some_iff_getElem]
  refine ⟨by simp, by simp [h2], fun j hj => ?_⟩
  rw [List.getElem_append_left hj, h1 _ (List.getElem_mem hj)]
  simp
/-- a number's bytes are read back, whatever is behind them. -/
theorem gU_vint (n : Nat) (r : List UInt8) (hn : n < 18446744073709551616) : gU (vint n ++ r) = (0, n, (vint n).length) := by
  obtain ⟨ys, y, h1, h2, h3, h4⟩ := vint_last n
  have hv := vint_val n
  have hlen : (vint n).length ≤ 10 := vint_len (by omega) (Nat.lt_trans hn (by decide))
  have hl : (vint n).length = ys.length + 1 := by rw [h1]; simp
  have htk : (vint n ++ r).take 10 = ys ++ y :: r.take (10 - (ys.length + 1)) := by
    rw [List.take_append, hl, List.take_of_length_le (by omega), h1]
    simp
  have hf : ((vint n ++ r).take 10).findIdx? (fun x => decide (x.toNat < 128)) = some ys.length := by
    rw [htk]
    exact findIdx_app ys y _ (fun x hx => by have := h2 x hx; simp; omega) (by simpa using h3)
  have hy : (vint n ++ r).getD ys.length 0 = y := by rw [h1, List.append_assoc, List.getD_eq_getElem?_getD, List.getElem?_append_right (Nat.le_refl _)]; simp
  have ht2 : (vint n ++ r).take (ys.length + 1) = vint n := by rw [← hl, List.take_left]
  unfold gU
  rw [hf]
  simp only [hy]
  rw [if_neg, ht2, hv, hl]
  rintro (⟨hp, h0⟩ | ⟨h9, hb⟩)
  · exact h4 (fun e => by rw [e] at hp; simp at hp) h0
  · rw [h1, vVal_app, h9] at hv
    simp only [vVal] at hv
    have : (128 : Nat) ^ 9 = 9223372036854775808 := by decide
    omega
/-- .. and what is read are a number's bytes. -/
theorem gU_ok {l : List UInt8} {v k : Nat} (h : gU l = (0, v, k)) : l.take k = vint v ∧ k = (vint v).length ∧ k ≤ l.length ∧ k ≤ 10 ∧ v < 18446744073709551616 := by
  unfold gU at h
  cases hf : (l.take 10).findIdx? (fun x => decide (x.toNat < 128)) with
  | none => rw [hf] at h; simp only at h; split at h <;> simp at h
  | some e =>
    rw [hf] at h
    simp only at h
    split at h
    · simp at h
    · rename_i hbad
      simp only [Prod.mk.injEq, true_and] at h
      obtain ⟨rfl, rfl⟩ := h
      obtain ⟨he, hp, hb⟩ := List.findIdx?_eq_some_iff_getElem.1 hf
      have he' : e < l.length ∧ e < 10 := by simp at he; omega
      have hge : ∀ j (hj : j < e), 128 ≤ (l[j]'(by omega)).toNat := fun j hj => by
        have := hb j hj
        rw [List.getElem_take] at this
        simpa using this
      have hle : (l[e]'he'.1).toNat < 128 := by
        rw [List.getElem_take] at hp
        simpa using hp
      have hgd : l.getD e 0 = l[e]'he'.1 := by rw [List.getD_eq_getElem?_getD, List.getElem?_eq_getElem he'.1]; rfl
      rw [hgd] at hbad
      have hsplit : l.take (e + 1) = l.take e ++ [l[e]'he'.1] := List.take_succ_eq_append_getElem he'.1
      have hv : vint (vVal (l.take e ++ [l[e]'he'.1])) = l.take e ++ [l[e]'he'.1] := by
        refine vint_of (fun x hx => ?_) hle (fun hne => ?_)
        · obtain ⟨j, hj, rfl⟩ := List.getElem_of_mem hx
          rw [List.getElem_take]
          exact hge j (by simp at hj; omega)
        · intro h0
          exact hbad (Or.inl ⟨by rcases Nat.eq_zero_or_pos e with e0 | e0; (subst e0; simp at hne); exact e0, h0⟩)
      rw [hsplit, hv]
      have hl2 : (l.take e ++ [l[e]'he'.1]).length = e + 1 := by simp; omega
      refine ⟨rfl, hl2.symm, by omega, by omega, ?_⟩
      rw [vVal_app]
      have h1 := vVal_lt (l.take e)
      have h2 : (l.take e).length = e := by simp; omega
      rw [h2] at h1 ⊢
      simp only [vVal]
      by_cases h9 : e = 9
      · subst h9
        have : ¬ 1 < (l[9]'he'.1).toNat := fun hgt => hbad (Or.inr ⟨rfl, hgt⟩)
        have e9 : (128 : Nat) ^ 9 = 9223372036854775808 := by decide
        rw [e9] at h1 ⊢
        omega
      · have hp8 : (128 : Nat) ^ e ≤ 128 ^ 8 := Nat.pow_le_pow_right (by omega) (by omega)
        have e8 : (128 : Nat) ^ 8 = 72057594037927936 := by decide
        rw [e8] at hp8
        have hm : (128 : Nat) ^ e * ((l[e]'he'.1).toNat % 128 + 128 * 0) ≤ 72057594037927936 * 127 := Nat.mul_le_mul hp8 (by omega)
        omega
end Go.Proofs.YtnagejhpdhdpfaaGreatDoor
