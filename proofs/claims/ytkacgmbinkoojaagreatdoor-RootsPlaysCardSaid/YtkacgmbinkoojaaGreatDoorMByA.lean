/-
  Varints as plain lists. No program here.
-/
import Std.Tactic
import Derived.Outline
import Derived.Deep.RegionHeld3
import Derived.Test.YtkacgmbinkoojaaGreatDoorMDkA
import Derived.BigQuiet
import Derived.Laws.Cover3
import Derived.Test.YtkacgmbinkoojaaGreatDoorMDkB
import Derived.Laws.BitsAllLaws
import Derived.Laws.CopyOwn
namespace Go.Proofs.YtkacgmbinkoojaaGreatDoor

/-- the bytes of a number. -/
def vint (n : Nat) : List UInt8 := if n < 128 then [UInt8.ofNat n] else UInt8.ofNat (128 + n % 128) :: vint (n / 128)
termination_by n
decreasing_by omega
/-- what bytes say. -/
def vVal : List UInt8 → Nat
  | [] => 0
  | x :: r => x.toNat % 128 + 128 * vVal r
theorem vint_small {n : Nat} (h : n < 128) : vint n = [UInt8.ofNat n] := by rw [vint, if_pos h]
theorem vint_big {n : Nat} (h : ¬ n < 128) : vint n = UInt8.ofNat (128 + n % 128) :: vint (n / 128) := by rw [vint, if_neg h]
theorem vint_val (n : Nat) : vVal (vint n) = n := by
  induction n using Nat.strongRecOn with
  | _ n ih =>
    by_cases h : n < 128
    · rw [vint_small h]
      simp only [vVal, UInt8.toNat_ofNat']
      omega
    · rw [vint_big h]
      simp only [vVal, UInt8.toNat_ofNat']
      rw [ih (n / 128) (by omega)]
      omega
theorem vint_pos (n : Nat) : 0 < (vint n).length := by
  by_cases h : n < 128
  · rw [vint_small h]; simp
  · rw [vint_big h]; simp
theorem vint_len {n k : Nat} (hk : 0 < k) (h : n < 128 ^ k) : (vint n).length ≤ k := by
  induction k generalizing n with
  | zero => omega
  | succ k ih =>
    by_cases hs : n < 128
    · rw [vint_small hs]; simp
    · rw [vint_big hs]
      have hk0 : 0 < k := by
        rcases Nat.eq_zero_or_pos k with e | e
        · subst e; simp at h; omega
        · exact e
      have := ih hk0 (n := n / 128) (by rw [Nat.pow_succ] at h; omega)
      simp; omega
/-- a varint's last byte is below 128, all ahead of it are not. -/
theorem vint_last (n : Nat) : ∃ ys y, vint n = ys ++ [y] ∧ (∀ x ∈ ys, 128 ≤ x.toNat) ∧ y.toNat < 128 ∧ (ys ≠ [] → y.toNat ≠ 0) := by
  induction n using Nat.strongRecOn with
  | _ n ih =>
    by_cases h : n < 128
    · refine ⟨[], UInt8.ofNat n, by rw [vint_small h]; rfl, by simp, ?_, by simp⟩
      simp only [UInt8.toNat_ofNat']; omega
    · obtain ⟨ys, y, h1, h2, h3, h4⟩ := ih (n / 128) (by omega)
      refine ⟨UInt8.ofNat (128 + n % 128) :: ys, y, by rw [vint_big h, h1]; rfl, ?_, h3, fun _ => ?_⟩
      · intro x hx
        rcases List.mem_cons.1 hx with rfl | hx
        · simp only [UInt8.toNat_ofNat']; omega
        · exact h2 x hx
      · by_cases hy : ys = []
        · subst hy
          have := vint_val (n / 128)
          rw [h1] at this
          simp only [List.nil_append, vVal] at this
          omega
        · exact h4 hy
theorem vVal_pos (ys : List UInt8) {y : UInt8} (h3 : y.toNat ≠ 0) (h2 : y.toNat < 128) : 0 < vVal (ys ++ [y]) := by
  induction ys with
  | nil => simp only [List.nil_append, vVal]; omega
  | cons z zs ih => simp only [List.cons_append, vVal]; omega
/-- bytes of the form of a varint are one. -/
theorem vint_of {ys : List UInt8} {y : UInt8} (h1 : ∀ x ∈ ys, 128 ≤ x.toNat) (h2 : y.toNat < 128) (h3 : ys ≠ [] → y.toNat ≠ 0) : vint (vVal (ys ++ [y])) = ys ++ [y] := by
  induction ys with
  | nil =>
    simp only [List.nil_append, vVal]
    rw [show y.toNat % 128 + 128 * 0 = y.toNat by omega, vint_small h2]
    simp
  | cons x ys ih =>
    have ih := ih (fun z hz => h1 z (List.mem_cons_of_mem _ hz)) (fun hne => h3 (by simp))
    have hx := h1 x (by simp)
    have hxl := x.toNat_lt
    have hv := vVal_pos ys (h3 (by simp)) h2
    rw [List.cons_append, vVal, vint_big (by omega)]
    rw [show (x.toNat % 128 + 128 * vVal (ys ++ [y])) / 128 = vVal (ys ++ [y]) by omega, ih]
    congr 1
    rw [show 128 + (x.toNat % 128 + 128 * vVal (ys ++ [y])) % 128 = x.toNat by omega]
    simp

/-- what GetUint tells of bytes from its place on: the error, the number, how many bytes it has. -/
def gU (l : List UInt8) : Int × Nat × Nat :=
  match (l.take 10).findIdx? (fun x => decide (x.toNat < 128)) with
  | none => if l.length < 10 then (11, 0, 0) else (10, 0, 0)
  | some e => if (0 < e ∧ (l.getD e 0).toNat = 0) ∨ (e = 9 ∧ 1 < (l.getD e 0).toNat) then (10, 0, 0) else (0, vVal (l.take (e + 1)), e + 1)
theorem vVal_app (a b : List UInt8) : vVal (a ++ b) = vVal a + 128 ^ a.length * vVal b := by
  induction a with
  | nil => simp [vVal]
  | cons x a ih => simp only [List.cons_append, vVal, ih, List.length_cons, Nat.pow_succ]; rw [Nat.mul_add, ← Nat.add_assoc]; congr 1; rw [Nat.mul_comm (128 ^ a.length) 128, Nat.mul_assoc]
theorem vVal_lt (a : List UInt8) : vVal a < 128 ^ a.length := by
  induction a with
  | nil => simp [vVal]
  | cons x a ih => simp only [vVal, List.length_cons, Nat.pow_succ]; omega
theorem findIdx_app {α : Type} {p : α → Bool} (xs : List α) (y : α) (r : List α) (h1 : ∀ x ∈ xs, p x = false) (h2 : p y = true) : (xs ++ y :: r).findIdx? p = some xs.length := by
  rw [List.findIdx?_eq_some_iff_getElem]
  refine ⟨by simp, by simp [h2], fun j hj => ?_⟩
  rw [List.getElem_append_left hj, h1 _ (List.getElem_mem hj)]
  simp
/-- a number's bytes are read back, whatever is behind them. -/
theorem gU_vint (n : Nat) (r : List UInt8) (hn : n < 18446744073709551616) : gU (vint n ++ r) = (0, n, (vint n).length) := by
  obtain ⟨ys, y, h1, h2, h3, h4⟩ := vint_last n
  have hv := vint_val n
  have hlen : (vint n).length ≤ 10 := vint_len (by omega) (Nat.lt_trans hn (by decide))
  have hl : (vint n).length = ys.length + 1 := by rw [h1]; simp
  have htk : (vint n ++ r).take 10 = ys ++ y :: r.take (10 - (ys.length + 1)) := by
    rw [List.take_append, hl, List.take_of_length_le (by omega), h1]
    simp
  have hf : ((vint n ++ r).take 10).findIdx? (fun x => decide (x.toNat < 128)) = some ys.length := by
    rw [htk]
    exact findIdx_app ys y _ (fun x hx => by have := h2 x hx; simp; omega) (by simpa using h3)
  have hy : (vint n ++ r).getD ys.length 0 = y := by rw [h1, List.append_assoc, List.getD_eq_getElem?_getD, List.getElem?_append_right (Nat.le_refl _)]; simp
  have ht2 : (vint n ++ r).take (ys.length + 1) = vint n := by rw [← hl, List.take_left]
  unfold gU
  rw [hf]
  simp only [hy]
  rw [if_neg, ht2, hv, hl]
  rintro (⟨hp, h0⟩ | ⟨h9, hb⟩)
  · exact h4 (fun e => by rw [e] at hp; simp at hp) h0
  · rw [h1, vVal_app, h9] at hv
    simp only [vVal] at hv
    have : (128 : Nat) ^ 9 = 9223372036854775808 := by decide
    omega
/-- .. and what is read are a number's bytes. -/
theorem gU_ok {l : List UInt8} {v k : Nat} (h : gU l = (0, v, k)) : l.take k = vint v ∧ k = (vint v).length ∧ k ≤ l.length ∧ k ≤ 10 ∧ v < 18446744073709551616 := by
  unfold gU at h
  cases hf : (l.take 10).findIdx? (fun x => decide (x.toNat < 128)) with
  | none => rw [hf] at h; simp only at h; split at h <;> simp at h
  | some e =>
    rw [hf] at h
    simp only at h
    split at h
    · simp at h
    · rename_i hbad
      simp only [Prod.mk.injEq, true_and] at h
      obtain ⟨rfl, rfl⟩ := h
      obtain ⟨he, hp, hb⟩ := List.findIdx?_eq_some_iff_getElem.1 hf
      have he' : e < l.length ∧ e < 10 := by simp at he; omega
      have hge : ∀ j (hj : j < e), 128 ≤ (l[j]'(by omega)).toNat := fun j hj => by
        have := hb j hj
        rw [List.getElem_take] at this
        simpa using this
      have hle : (l[e]'he'.1).toNat < 128 := by
        rw [List.getElem_take] at hp
        simpa using hp
      have hgd : l.getD e 0 = l[e]'he'.1 := by rw [List.getD_eq_getElem?_getD, List.getElem?_eq_getElem he'.1]; rfl
      rw [hgd] at hbad
      have hsplit : l.take (e + 1) = l.take e ++ [l[e]'he'.1] := List.take_succ_eq_append_getElem he'.1
      have hv : vint (vVal (l.take e ++ [l[e]'he'.1])) = l.take e ++ [l[e]'he'.1] := by
        refine vint_of (fun x hx => ?_) hle (fun hne => ?_)
        · obtain ⟨j, hj, rfl⟩ := List.getElem_of_mem hx
          rw [List.getElem_take]
          exact hge j (by simp at hj; omega)
        · intro h0
          exact hbad (Or.inl ⟨by rcases Nat.eq_zero_or_pos e with e0 | e0; (subst e0; simp at hne); exact e0, h0⟩)
      rw [hsplit, hv]
      have hl2 : (l.take e ++ [l[e]'he'.1]).length = e + 1 := by simp; omega
      refine ⟨rfl, hl2.symm, by omega, by omega, ?_⟩
      rw [vVal_app]
      have h1 := vVal_lt (l.take e)
      have h2 : (l.take e).length = e := by simp; omega
      rw [h2] at h1 ⊢
      simp only [vVal]
      by_cases h9 : e = 9
      · subst h9
        have : ¬ 1 < (l[9]'he'.1).toNat := fun hgt => hbad (Or.inr ⟨rfl, hgt⟩)
        have e9 : (128 : Nat) ^ 9 = 9223372036854775808 := by decide
        rw [e9] at h1 ⊢
        omega
      · have hp8 : (128 : Nat) ^ e ≤ 128 ^ 8 := Nat.pow_le_pow_right (by omega) (by omega)
        have e8 : (128 : Nat) ^ 8 = 72057594037927936 := by decide
        rw [e8] at hp8
        have hm : (128 : Nat) ^ e * ((l[e]'he'.1).toNat % 128 + 128 * 0) ≤ 72057594037927936 * 127 := Nat.mul_le_mul hp8 (by omega)
        omega
end Go.Proofs.YtkacgmbinkoojaaGreatDoor

/-
  Roots as plain data: their bytes, and what is parsed of bytes. No program here. S is the sum of bytes: four bytes.
-/
namespace Go.Proofs.YtkacgmbinkoojaaGreatDoor

structure ARoot where
  serial : Nat
  tick : Nat
  commit : Nat
  blob : List UInt8

def ARoot.bytes (r : ARoot) : List UInt8 := [72, 83, 82, 49] ++ (vint r.serial ++ (vint r.tick ++ (vint r.commit ++ (vint r.blob.length ++ r.blob))))
/-- numbers that may be. -/
structure ARoot.Ok (r : ARoot) : Prop where
  s0 : 0 < r.serial
  s1 : r.serial ≤ 9007199254740992
  t1 : r.tick ≤ 9007199254740992
  c1 : r.commit ≤ 9007199254740992
  b1 : r.blob.length ≤ 1048576

/-- what GetBlob tells: the error, the bytes, how many bytes it has in all. -/
def gB (l : List UInt8) (most : Nat) : Int × List UInt8 × Nat :=
  match gU l with
  | (0, n, k) => if most < n then (3, [], 0) else if l.length - k < n then (11, [], 0) else (0, (l.drop k).take n, k + n)
  | (e, _, _) => (e, [], 0)
/-- what Parse tells of the bytes within the seal. -/
def pRoot (l : List UInt8) : Option ARoot :=
  if l.take 4 = [72, 83, 82, 49] then
    match gU (l.drop 4) with
    | (0, s, k1) => if 9007199254740992 < s ∨ s = 0 then none else
      match gU (l.drop (4 + k1)) with
      | (0, t, k2) => if 9007199254740992 < t then none else
        match gU (l.drop (4 + k1 + k2)) with
        | (0, c, k3) => if 9007199254740992 < c then none else
          match gB (l.drop (4 + k1 + k2 + k3)) 1048576 with
          | (0, b, k4) => if 4 + k1 + k2 + k3 + k4 < l.length then none else some ⟨s, t, c, b⟩
          | _ => none
        | _ => none
      | _ => none
    | _ => none
  else none
theorem gB_put (b r : List UInt8) (most : Nat) (h : b.length ≤ most) (hb : b.length < 18446744073709551616) : gB (vint b.length ++ (b ++ r)) most = (0, b, (vint b.length).length + b.length) := by
  unfold gB
  rw [gU_vint _ _ hb]
  simp only
  rw [if_neg (by omega), if_neg (by simp), List.drop_left, List.take_left]
theorem pRoot_bytes (r : ARoot) (h : r.Ok) : pRoot r.bytes = some r := by
  obtain ⟨serial, tick, commit, blob⟩ := r
  obtain ⟨h1, h2, h3, h4, h5⟩ := h
  simp only at h1 h2 h3 h4 h5
  unfold pRoot ARoot.bytes
  simp only
  have d0 : ([72, 83, 82, 49] ++ (vint serial ++ (vint tick ++ (vint commit ++ (vint blob.length ++ blob))))).drop 4 = vint serial ++ (vint tick ++ (vint commit ++ (vint blob.length ++ blob))) := rfl
  have d1 : ([72, 83, 82, 49] ++ (vint serial ++ (vint tick ++ (vint commit ++ (vint blob.length ++ blob))))).drop (4 + (vint serial).length) = vint tick ++ (vint commit ++ (vint blob.length ++ blob)) := by
    rw [← List.drop_drop, d0, List.drop_left]
  have d2 : ([72, 83, 82, 49] ++ (vint serial ++ (vint tick ++ (vint commit ++ (vint blob.length ++ blob))))).drop (4 + (vint serial).length + (vint tick).length) = vint commit ++ (vint blob.length ++ blob) := by
    rw [← List.drop_drop, d1, List.drop_left]
  have d3 : ([72, 83, 82, 49] ++ (vint serial ++ (vint tick ++ (vint commit ++ (vint blob.length ++ blob))))).drop (4 + (vint serial).length + (vint tick).length + (vint commit).length) = vint blob.length ++ blob := by
    rw [← List.drop_drop, d2, List.drop_left]
  have hg := gB_put blob [] 1048576 h5 (by omega)
  rw [List.append_nil] at hg
  have ht0 : ([72, 83, 82, 49] ++ (vint serial ++ (vint tick ++ (vint commit ++ (vint blob.length ++ blob))))).take 4 = [72, 83, 82, 49] := rfl
  rw [if_pos ht0, d0, gU_vint _ _ (by omega)]
  simp only
  rw [if_neg (by omega), d1, gU_vint _ _ (by omega)]
  simp only
  rw [if_neg (by omega), d2, gU_vint _ _ (by omega)]
  simp only
  rw [if_neg (by omega), d3, hg]
  simp only
  rw [if_neg (by simp; omega)]
theorem drop_split {l : List UInt8} {k : Nat} {x : List UInt8} (h : l.take k = x) : l = x ++ l.drop k := by rw [← h, List.take_append_drop]
theorem pRoot_ok {l : List UInt8} {r : ARoot} (h : pRoot l = some r) : r.Ok ∧ l = r.bytes := by
  unfold pRoot at h
  split at h
  · rename_i h4
    split at h
    · rename_i s k1 hs
      split at h
      · cases h
      · rename_i hs1
        split at h
        · rename_i t k2 ht
          split at h
          · cases h
          · rename_i ht1
            split at h
            · rename_i c k3 hc
              split at h
              · cases h
              · rename_i hc1
                split at h
                · rename_i b k4 hb
                  split at h
                  · cases h
                  · rename_i hend
                    cases h
                    obtain ⟨s1, s2, s3, _, _⟩ := gU_ok hs
                    obtain ⟨t1, t2, t3, _, _⟩ := gU_ok ht
                    obtain ⟨c1, c2, c3, _, _⟩ := gU_ok hc
                    unfold gB at hb
                    cases hu : gU (l.drop (4 + k1 + k2 + k3)) with
                    | mk e nk =>
                      obtain ⟨n, k⟩ := nk
                      rw [hu] at hb
                      split at hb
                      · rename_i n' k' heq
                        simp only [Prod.mk.injEq] at heq
                        obtain ⟨rfl, rfl, rfl⟩ := heq
                        obtain ⟨u1, u2, u3, _, _⟩ := gU_ok hu
                        split at hb
                        · simp at hb
                        · rename_i hm
                          split at hb
                          · simp at hb
                          · rename_i hlen
                            simp only [Prod.mk.injEq, true_and] at hb
                            obtain ⟨rfl, rfl⟩ := hb
                            have hbl : (((l.drop (4 + k1 + k2 + k3)).drop k).take n).length = n := by simp at hlen ⊢; omega
                            refine ⟨⟨show 0 < s by omega, show s ≤ 9007199254740992 by omega, show t ≤ 9007199254740992 by omega, show c ≤ 9007199254740992 by omega, show (((l.drop (4 + k1 + k2 + k3)).drop k).take n).length ≤ 1048576 by rw [hbl]; omega⟩, ?_⟩
                            have e0 := drop_split h4
                            have e1 := drop_split s1
                            have e2 := drop_split t1
                            have e3 := drop_split c1
                            have e4 := drop_split u1
                            rw [List.drop_drop] at e1 e2 e3
                            have e5 : (l.drop (4 + k1 + k2 + k3)).drop k = ((l.drop (4 + k1 + k2 + k3)).drop k).take n := by
                              rw [List.take_of_length_le]
                              simp at hend hlen ⊢
                              omega
                            unfold ARoot.bytes
                            simp only
                            rw [hbl, ← e5, ← e4, ← e3, ← e2, ← e1]
                            exact e0
                      · exfalso
                        simp only [Prod.mk.injEq] at hb
                        simp_all
                · cases h
            · cases h
        · cases h
    · cases h
  · cases h
/-- no root's bytes begin another's. -/
theorem root_prefix {r r' : ARoot} (h : r.Ok) (h' : r'.Ok) {z : List UInt8} (e : r'.bytes ++ z = r.bytes) : z = [] := by
  obtain ⟨serial, tick, commit, blob⟩ := r
  obtain ⟨serial', tick', commit', blob'⟩ := r'
  obtain ⟨h1, h2, h3, h4, h5⟩ := h
  obtain ⟨g1, g2, g3, g4, g5⟩ := h'
  simp only at h1 h2 h3 h4 h5 g1 g2 g3 g4 g5
  unfold ARoot.bytes at e
  simp only [List.append_assoc] at e
  have step : ∀ (m n : Nat) (x y : List UInt8), m < 18446744073709551616 → n < 18446744073709551616 → vint m ++ x = vint n ++ y → m = n ∧ x = y := by
    intro m n x y hm hn he
    have q1 := gU_vint m x hm
    have q2 := gU_vint n y hn
    rw [he, q2] at q1
    simp only [Prod.mk.injEq, true_and] at q1
    obtain ⟨rfl, _⟩ := q1
    exact ⟨rfl, List.append_cancel_left he⟩
  have e1 := List.append_cancel_left e
  obtain ⟨_, e2⟩ := step _ _ _ _ (by omega) (by omega) e1
  obtain ⟨_, e3⟩ := step _ _ _ _ (by omega) (by omega) e2
  obtain ⟨_, e4⟩ := step _ _ _ _ (by omega) (by omega) e3
  obtain ⟨hl, e5⟩ := step _ _ _ _ (by omega) (by omega) e4
  have := congrArg List.length e5
  simp only [List.length_append] at this
  exact List.eq_nil_of_length_eq_zero (by omega)
/-- bytes and their sum. -/
def sealL (S : List UInt8 → List UInt8) (b : List UInt8) : List UInt8 := b ++ S b
/-- what Unseal tells. -/
def unsealL (S : List UInt8 → List UInt8) (l : List UInt8) : Int × List UInt8 :=
  if l.length < 4 then (11, []) else if sealL S (l.take (l.length - 4)) = l then (0, l.take (l.length - 4)) else (12, [])
/-- what Parse tells. -/
def parseL (S : List UInt8 → List UInt8) (l : List UInt8) : Int × Option ARoot :=
  match unsealL S l with
  | (0, b) => match pRoot b with
    | some r => (0, some r)
    | none => (10, none)
  | (e, _) => (e, none)
theorem unseal_seal {S : List UInt8 → List UInt8} (hS : ∀ b, (S b).length = 4) (b : List UInt8) : unsealL S (sealL S b) = (0, b) := by
  have hl : (sealL S b).length = b.length + 4 := by simp [sealL, hS]
  have ht : (sealL S b).take ((sealL S b).length - 4) = b := by rw [hl, Nat.add_sub_cancel]; unfold sealL; rw [List.take_left]
  unfold unsealL
  rw [if_neg (by omega), ht, if_pos rfl]
theorem parse_seal {S : List UInt8 → List UInt8} (hS : ∀ b, (S b).length = 4) {r : ARoot} (h : r.Ok) : parseL S (sealL S r.bytes) = (0, some r) := by
  unfold parseL
  rw [unseal_seal hS]
  simp only
  rw [pRoot_bytes r h]
theorem parse_ok {S : List UInt8 → List UInt8} {l : List UInt8} {r : ARoot} {e : Int} (h : parseL S l = (e, some r)) : e = 0 ∧ r.Ok ∧ l = sealL S r.bytes := by
  unfold parseL unsealL at h
  split at h
  · rename_i b hu
    split at hu
    · simp at hu
    · split at hu
      · rename_i hs
        simp only [Prod.mk.injEq, true_and] at hu
        split at h
        · rename_i r' hp
          simp only [Prod.mk.injEq, Option.some.injEq] at h
          obtain ⟨rfl, rfl⟩ := h
          obtain ⟨h1, h2⟩ := pRoot_ok hp
          exact ⟨rfl, h1, by rw [← h2, ← hu]; exact hs.symm⟩
        · simp at h
      · simp at hu
  · simp at h
end Go.Proofs.YtkacgmbinkoojaaGreatDoor

/-
  The sum of bytes, as plain numbers. No program here.
-/
namespace Go.Proofs.YtkacgmbinkoojaaGreatDoor
def st1 (c : Nat) : Nat := c / 2 ^^^ 3988292384 * (c % 2)
def stepN : Nat → Nat → Nat
  | 0, c => c
  | m + 1, c => st1 (stepN m c)
def tabL : List Nat := (List.range 16).map (stepN 4)
def nib (c : Nat) : Nat := c / 16 ^^^ tabL.getD (c % 16) 0
def crc1 (c : Nat) (x : UInt8) : Nat := nib (nib (c ^^^ x.toNat))
def crcF (c : Nat) (l : List UInt8) : Nat := l.foldl crc1 c
def crcN (l : List UInt8) : Nat := 4294967295 - crcF 4294967295 l
def sumL (l : List UInt8) : List UInt8 := [UInt8.ofNat (crcN l / 16777216), UInt8.ofNat (crcN l / 65536), UInt8.ofNat (crcN l / 256), UInt8.ofNat (crcN l)]
theorem sumL_len (l : List UInt8) : (sumL l).length = 4 := rfl
theorem st1_lt {c : Nat} (h : c < 4294967296) : st1 c < 4294967296 := by
  have h1 : c / 2 < 2 ^ 32 := by omega
  have h2 : 3988292384 * (c % 2) < 2 ^ 32 := by omega
  exact Nat.xor_lt_two_pow h1 h2
theorem tabL_len : tabL.length = 16 := rfl
theorem tabL_val : tabL = [0, 498536548, 997073096, 651767980, 1994146192, 1802195444, 1303535960, 1342533948, 3988292384, 4027552580, 3604390888, 3412177804, 2607071920, 2262029012, 2685067896, 3183342108] := by decide +kernel
theorem tabL_lt (k : Nat) : tabL.getD k 0 < 4294967296 := by
  rw [tabL_val]
  match k with
  | 0 | 1 | 2 | 3 | 4 | 5 | 6 | 7 | 8 | 9 | 10 | 11 | 12 | 13 | 14 | 15 => simp
  | k + 16 => simp
theorem nib_lt {c : Nat} (h : c < 4294967296) : nib c < 4294967296 := by
  have h1 : c / 16 < 2 ^ 32 := by omega
  have h2 : tabL.getD (c % 16) 0 < 2 ^ 32 := tabL_lt _
  exact Nat.xor_lt_two_pow h1 h2
theorem x8_lt {c : Nat} (x : UInt8) (h : c < 4294967296) : c ^^^ x.toNat < 4294967296 := by
  have h1 : c < 2 ^ 32 := h
  have h2 : x.toNat < 2 ^ 32 := by have := x.toNat_lt; omega
  exact Nat.xor_lt_two_pow h1 h2
theorem crc1_lt {c : Nat} (x : UInt8) (h : c < 4294967296) : crc1 c x < 4294967296 := nib_lt (nib_lt (x8_lt x h))
theorem crcF_lt (l : List UInt8) {c : Nat} (h : c < 4294967296) : crcF c l < 4294967296 := by
  induction l generalizing c with
  | nil => exact h
  | cons x l ih => exact ih (crc1_lt x h)
theorem crcF_snoc (c : Nat) (l : List UInt8) (x : UInt8) : crcF c (l ++ [x]) = crc1 (crcF c l) x := by simp [crcF]
end Go.Proofs.YtkacgmbinkoojaaGreatDoor

/-
  Package bytes: what Uint, Blob give.
-/
namespace Go.Proofs.YtkacgmbinkoojaaGreatDoor
open Go.RowKit Go.Maps Go.MapKept

/-- a slice's length is within its capacity. -/
def CapOk (v : Value) : Prop := ∃ a n c, v = .slice a n c ∧ n ≤ c ∧ c ≤ maxLen
/-- what a call that appends leaves: the bytes, in the old row or in a new one. -/
structure Grew (w : World) (v : Value) (l : List UInt8) (v' : Value) (w' : World) : Prop where
  row : w'.ownsRow 0 5 1 v' l.length (bcells l)
  upd : Upd (fun k => v.ownBlock = some k) w w'
  blk : v'.ownBlock = v.ownBlock ∨ ∃ g, v'.ownBlock = some g ∧ w.heap.size ≤ g

theorem bcells_at {l : List UInt8} {j : Nat} (h : j < l.length) : (bcells l)[j]? = some (.int .u8 (l[j].toNat : Int)) := by simp [bcells, h]

/-- what may be appended to: a row of one's own, or a full slice that can be read. -/
def Src (w : World) (v : Value) (l : List UInt8) : Prop :=
  w.ownsRow 0 5 1 v l.length (bcells l) ∨ (Rd w v (bcells l) ∧ ∃ ad, v = .slice (some ad) l.length l.length ∧ l.length ≤ maxLen)
theorem Src.shape {w : World} {v : Value} {l : List UInt8} (h : Src w v l) : ∃ a c, v = .slice a l.length c ∧ l.length ≤ c ∧ c ≤ maxLen := by
  rcases h with h | ⟨_, ad, h, hm⟩
  · obtain ⟨a, c, h1, h2, h3, _⟩ := row_slice h; exact ⟨a, c, h1, h2, h3⟩
  · exact ⟨_, _, h, Nat.le_refl _, hm⟩
theorem Src.upd {fp : Nat → Prop} {w w' : World} {v : Value} {l : List UInt8} (h : Src w v l) (hu : Upd fp w w') (hn : ∀ g, v.ownBlock = some g → ¬ fp g) : Src w' v l := by
  rcases h with h | ⟨h, r⟩
  · exact Or.inl (hu.row h hn)
  · exact Or.inr ⟨h.keep hu hn, r⟩
theorem append_src {w : World} {ops : Array Oper} {rest : List Oper} {o : Oper} {a : Act} {Q : Exit → Act → World → Prop} (hgd : Region.wanted o (yielded ops a.tmps) = true) (s x : Operand)
    (ho : o.op = .call { callee := .builtin .append, args := #[s, x], argTypes := #[33, 33] })
    (v vx : Value) (l m r : List UInt8) (hlm : l ++ m = r) (hs : a.eval s = v) (hown : Src w v l) (hx : a.eval x = vx) (hrd : Rd w vx (bcells m)) (hpos : 0 < m.length)
    (h63 : l.length + m.length ≤ 140737488355328)
    (h : ∀ v' w', w'.ownsRow 0 5 1 v' r.length (bcells r) → w.grownBy w' v.ownBlock → (v'.ownBlock = v.ownBlock ∨ ∃ g, v'.ownBlock = some g ∧ w.heap.size ≤ g) → wpList Tryz.prog ops Q rest (a.put o.dst v') w') : wpList Tryz.prog ops Q (o :: rest) a w := by
  rcases hown with hown | ⟨hr0, ad, rfl, hmx⟩
  · exact append_u8 hgd s x ho v vx l m r hlm hs hown hx hrd h63 (fun v' w' h1 h2 h3 _ => h v' w' h1 h2 h3)
  · subst hlm
    obtain ⟨i0, hi, hz0, hz1, hz2⟩ := info_parts info_u8
    obtain ⟨b, off, c, rfl, hnews⟩ : ∃ b off c, vx = .slice (some ⟨b, off, none⟩) m.length c ∧ ∀ j u, (bcells m)[j]? = some u → w.cell? ⟨b, off + j, none⟩ = some u := by
      rcases hrd with ⟨_, h0⟩ | ⟨b, off, n, c, h1, h2, h3⟩
      · simp [bcells] at h0; subst h0; simp at hpos
      · rw [bcells_length] at h2; subst h2; exact ⟨b, off, c, h1, h3⟩
    have holds : ∀ j u, (bcells l)[j]? = some u → w.cell? (ad.add j) = some u := by
      intro j u hj
      rcases hr0 with ⟨_, h0⟩ | ⟨b', o', n', c', he, _, hc⟩
      · rw [h0] at hj; simp at hj
      · cases he; rw [Addr.add_lit]; exact hc j u hj
    have hge := grownCap_ge w (l.length + m.length) l.length 5
    have hcm : grownCap w (l.length + m.length) l.length 5 ≤ maxLen := grownCap_le_maxLen w (l.length + m.length) l.length 5 (by simp only [maxLen]; omega)
    have hr := run_append_grow (P := Tryz.prog) w 33 o.type 5 i0 (.int .u8 0) Tryz.underlying33 hi hz0 ad l.length l.length (bcells l) (by rw [hz1, bcells_length, Nat.mul_one]) holds ⟨b, off, none⟩ m.length c (bcells m) (by rw [hz1, bcells_length, Nat.mul_one]) (by simpa [Addr.add_lit] using hnews) (by omega) (by omega) (growslice_fits (by omega) (by rw [hz2]; omega))
    refine wpList_on hgd fun K hK => ?_
    unfold Oper.wp execOp
    simp only [ho, resolve, invoke, builtin, Sem.run_bind, Sem.run_pure, Result.andThen_ok, List.map_toArray, List.map_cons, List.map_nil, hs, hx, hr]
    refine hK _ _ (h _ _ ⟨by rw [bcells_length, Nat.mul_one], .inr ⟨w.heap.size, _, _, by rw [List.length_append], Nat.zero_le _, heap_alloc_new w.drew _, by rw [List.length_append]; exact hge, hcm, ?_, ?_⟩⟩ ⟨rfl, rfl, rfl, by simp, fun k hk _ => Below.heap_alloc w.drew _ k hk⟩ (Or.inr ⟨w.heap.size, rfl, Nat.le_refl _⟩))
    · simp only [Array.size_append, List.size_toArray, size_zeroCells, bcells_length, Value.cells, List.size_toArray, List.length_cons, List.length_nil]
      omega
    · simp only [Array.toList_append, List.append_assoc]
      rw [bcells_append, ← List.append_assoc, show (l ++ m).length * 1 = (bcells l ++ bcells m).length by simp [bcells_length]]
      exact List.take_left
/-- 'b[:h]' of an array of one-cell elements. -/
theorem run_arr_h {P : Program} {t e : TypeId} {N : Nat} (ht : P.underlying t = some (.array N e)) (hsz : (P.info? e).map (·.size) = some 1) (b o h : Nat) (hh : h ≤ N) (w : World) :
    (Instr.sliceAt t (.pointer (some ⟨b, o, none⟩)) none (some (.int .i64 h)) none).run P w = .ok (.slice (some ⟨b, o, none⟩) h N) w := by
  have hl : P.arrayLen t = N := by simp [Program.arrayLen, ht]
  have he : P.elem t = e := by simp [Program.elem, ht]
  rw [run_sliceAt_array_h w t ⟨b, o, none⟩ (by rw [hl, he]; exact ht) .i64 h (by omega) (by rw [hl]; omega), hl, he]
  cases hi : P.info? e with
  | none => rw [hi] at hsz; cases hsz
  | some i => simp [sizeOf, typeInfo, hi, slicedAt, Result.andThen, Addr.add_lit]

set_option maxRecDepth 100000 in
set_option maxHeartbeats 2000000 in
theorem bUint_any (w : World) (v : Value) (l : List UInt8) (n : Nat) (hown : Src w v l) (hn : n < 18446744073709551616) (hl : l.length ≤ 1099511627776) :
    Calls Tryz.prog 61 #[v, .int .u64 n] w fun e w' => ∃ a c, e = .returned (.slice a (l ++ vint n).length c) ∧ Grew w v (l ++ vint n) (.slice a (l ++ vint n).length c) w' := by
  obtain ⟨a, c, rfl, hnc, hcm⟩ := hown.shape
  obtain ⟨r, hr⟩ : ∃ r, l ++ vint n = r := ⟨_, rfl⟩
  rw [hr]
  have Hr := Lib.hid hr
  have Hown := Lib.hid hown
  clear hown hr
  go_enter Tryz.func61, Tryz.ntmps61
  go_wp2
  have hlen10 : (vint n).length ≤ 10 := vint_len (by omega) (Nat.lt_trans hn (by decide))
  go_loopw [1, 6] (fun q k wr => ∃ (ys : List UInt8) (m : Nat), vint n = ys ++ vint m ∧ m < 18446744073709551616 ∧ q = .int .u64 m ∧ k = .int .i64 ys.length ∧
      wr.heap[w.heap.size]? = some (.cells (bcells ys ++ List.replicate (10 - ys.length) (Value.int .u8 0)).toArray 117 (0, 0)) ∧ Below w.heap.size w wr) (fun q _ _ => (intOf q).toNat)
  case atStart => exact ⟨[], n, rfl, hn, rfl, rfl, alloc_at _ _, (Below.refl _ _).alloc (Nat.le_refl _) _⟩
  case round =>
    obtain ⟨ys, m, hv, hm, rfl, rfl, hb, hB⟩ := hrel
    have hp := vint_pos m
    have hl2 : ys.length + (vint m).length ≤ 10 := by rw [← List.length_append, ← hv]; exact hlen10
    have hbl := blk_lt hb
    have hcellz : (wr.frozen? ⟨w.heap.size, ys.length, none⟩ = false) ∧ ∃ u, wr.cell? ⟨w.heap.size, ys.length, none⟩ = some u := by
      refine ⟨by simp [World.frozen?, hb], ?_⟩
      rw [cell_at hb]
      have : ys.length < (bcells ys ++ List.replicate (10 - ys.length) (Value.int .u8 0)).toArray.size := by simp [bcells_length]; omega
      exact ⟨_, Array.getElem?_eq_getElem this⟩
    obtain ⟨hfz, u0, hcz⟩ := hcellz
    have Hv := Lib.hid hv
    have Hb := Lib.hid hb
    clear hv hb
    have hset : ∀ (y : UInt8) (z : Int), z = (y.toNat : Int) → (wr.setCell ⟨w.heap.size, ys.length, none⟩ (.int .u8 z)).heap[w.heap.size]? = some (.cells (bcells (ys ++ [y]) ++ List.replicate (10 - (ys ++ [y]).length) (Value.int .u8 0)).toArray 117 (0, 0)) := by
      rintro y z rfl
      rw [setCell_at Hb.out]
      congr 2
      apply Array.ext'
      simp only [Array.toList_setIfInBounds]
      have h1 : 10 - ys.length = (10 - (ys ++ [y]).length) + 1 := by simp; omega
      rw [h1, List.replicate_succ, show bcells (ys ++ [y]) = bcells ys ++ [.int .u8 (y.toNat : Int)] by simp [bcells]]
      simp [bcells_length]
    by_cases h128 : m < 128
    · have h128' : (m : Int) < 128 := by omega
      have hl9 : ys.length < 10 := by omega
      have hl9' : (ys.length : Int) + 1 ≤ 10 := by omega
      have hy := hset (UInt8.ofNat m) m (by simp; omega)
      have hvm := vint_small h128
      have hvn : vint n = ys ++ [UInt8.ofNat m] := by rw [Hv.out, hvm]
      have hU : Upd noFp w (wr.setCell ⟨w.heap.size, ys.length, none⟩ (.int .u8 m)) := Upd.ofBelow (hB.setCell (Nat.le_refl _) _)
      have Hown2 := Lib.hid (Hown.out.upd hU (fun _ _ h => h))
      have Hy := Lib.hid hy
      have Hvn := Lib.hid hvn
      have Hset := Lib.hid hset
      clear hvm hvn hy hset
      generalize hW : wr.setCell ⟨w.heap.size, ys.length, none⟩ (.int .u8 m) = W at *
      have HW := Lib.hid hW
      clear hW
      have hsl := run_arr_h (P := Tryz.prog) Tryz.underlying117 (by kernel_rfl) w.heap.size 0 (ys.length + 1) (by omega)
      rw [show (((ys.length + 1 : Nat) : Nat) : Int) = (ys.length : Int) + 1 from rfl] at hsl
      have hrd : Rd W (.slice (some ⟨w.heap.size, 0, none⟩) (ys.length + 1) 10) (bcells (ys ++ [UInt8.ofNat m])) := by
        refine Or.inr ⟨_, _, _, _, rfl, by simp [bcells_length], fun j u hu => ?_⟩
        rw [Nat.zero_add, cell_at Hy.out]
        simp only [List.getElem?_toArray]
        rw [List.getElem?_append_left (List.getElem?_eq_some_iff.1 hu).1, hu]
      have Hrd := Lib.hid hrd
      clear hrd
      go_wp2_with (at_builtin; rw [HW.out]; refine append_src rfl (.tmp 23) (.tmp 26) rfl (.slice a l.length c) (.slice (some ⟨w.heap.size, 0, none⟩) (ys.length + 1) 10) l (ys ++ [UInt8.ofNat m]) r (by rw [← Hr.out, Hvn.out]) rfl Hown2.out rfl Hrd.out (by simp) (by simp; omega) ?_; intro v' w1 h1 h2 h3; obtain ⟨a', c', rfl, _, _, _⟩ := row_slice h1)
      go_ret
      exact ⟨a', c', rfl, h1, (hU.mono (fun _ h => h.elim)).grown h2 (fun k hk => Or.inl hk), h3.imp_right (fun ⟨g, hg, hg2⟩ => ⟨g, hg, Nat.le_trans hU.size hg2⟩)⟩
    · have h128' : (128 : Int) ≤ (m : Int) := by omega
      have hl3 : ys.length < 9 := by
        rw [vint_big h128] at hl2
        have := vint_pos (m / 128)
        simp only [List.length_cons] at hl2
        omega
      go_wp2
      go_roundw
      case rel => exact ⟨ys ++ [UInt8.ofNat (128 + m % 128)], m / 128, by rw [Hv.out, vint_big h128]; simp, by omega, by go_num, by simp, hset _ _ (by simp; omega), hB.setCell (Nat.le_refl _) _⟩
      case measure => simp [intOf]; omega
end Go.Proofs.YtkacgmbinkoojaaGreatDoor

/-
  Package bytes: Blob; package slices: Clone, Equal, IndexFunc at bytes.
-/
namespace Go.Proofs.YtkacgmbinkoojaaGreatDoor
open Go.RowKit Go.Maps Go.MapKept

theorem below_drewN {N : Nat} {w0 w : World} (h : Below N w0 w) (n : Nat) : Below N w0 (w.drewN n) := ⟨h.os, h.tape, h.output, h.size, h.block⟩

set_option maxRecDepth 100000 in
set_option maxHeartbeats 2000000 in
theorem bBlob_any (w : World) (v vb : Value) (l b : List UInt8) (hown : Src w v l) (hrd : Rd w vb (bcells b)) (hap : ∀ w', Upd (fun k => v.ownBlock = some k) w w' → Rd w' vb (bcells b)) (hl : l.length ≤ 1099511627776) (hb : b.length ≤ 1099511627776) :
    Calls Tryz.prog 63 #[v, vb] w fun e w' => ∃ a c, e = .returned (.slice a (l ++ (vint b.length ++ b)).length c) ∧ Grew w v (l ++ (vint b.length ++ b)) (.slice a (l ++ (vint b.length ++ b)).length c) w' := by
  obtain ⟨a, c, rfl, hnc, hcm⟩ := hown.shape
  obtain ⟨ab, cb, rfl⟩ := hrd.shape
  rw [bcells_length] at hrd hap ⊢
  obtain ⟨r, hr⟩ : ∃ r, l ++ (vint b.length ++ b) = r := ⟨_, rfl⟩
  obtain ⟨r1, hr1⟩ : ∃ r1, l ++ vint b.length = r1 := ⟨_, rfl⟩
  have hr2 : r1 ++ b = r := by rw [← hr1, ← hr, List.append_assoc]
  have hl1 : r1.length ≤ 1099511627786 := by
    rw [← hr1, List.length_append]
    have : (vint b.length).length ≤ 10 := vint_len (by omega) (Nat.lt_of_le_of_lt hb (by decide))
    omega
  have hU := bUint_any w (.slice a l.length c) l b.length hown (by omega) hl
  rw [hr1] at hU
  rw [hr]
  have Hr2 := Lib.hid hr2
  have Hap := Lib.hid hap
  clear hown hr hr1 hr2 hrd hap
  go_enter Tryz.func63, Tryz.ntmps63
  go_wp2_with first
    | (go_at_call 61; refine hU.mono ?_; rintro e w1 ⟨a1, c1, rfl, hG⟩)
    | (at_builtin; refine append_u8 rfl (.tmp 9) (.tmp 10) rfl (.slice a1 r1.length c1) (.slice ab b.length cb) r1 b r Hr2.out rfl hG.row rfl (Hap.out _ hG.upd) (by omega) ?_; intro v' w2 h1 h2 h3 h4; obtain ⟨a', c', rfl, _, _, _⟩ := row_slice h1)
  go_ret
  refine ⟨a', c', rfl, h1, hG.upd.grown h2 (fun k hk => ?_), ?_⟩
  · rcases hG.blk with hk1 | ⟨g, hk1, hg⟩
    · exact Or.inl (hk1 ▸ hk)
    · rw [hk1] at hk; cases hk; exact Or.inr hg
  · rcases h3 with h3 | ⟨g, h3, hg⟩
    · rw [h3]; exact hG.blk
    · exact Or.inr ⟨g, h3, Nat.le_trans hG.upd.size hg⟩

theorem run_eql_slice_nil {P : Program} {t e : TypeId} (h : P.underlying t = some (.slice e)) (a : Option Addr) (l c : Nat) (w : World) : (binOp .eql t (.slice a l c) (.slice none 0 0)).run P w = .ok (.bool a.isNone) w := by
  simp only [binOp]
  simp [run_equal_slice_nil w t e a l c h]
theorem row_empty (w : World) (e T : TypeId) (hT : T = e) : (w.alloc (.cells #[] T)).ownsRow w.heap.size e 1 (.slice (some ⟨w.heap.size, 0, none⟩) 0 0) 0 [] := by
  subst hT
  exact ⟨by simp, .inr ⟨w.heap.size, 0, #[], rfl, Nat.le_refl _, alloc_at _ _, Nat.le_refl _, by simp, by simp, by simp⟩⟩
set_option maxRecDepth 100000 in
set_option maxHeartbeats 2000000 in
theorem slClone_any (w : World) (v : Value) (l : List UInt8) (hrd : Rd w v (bcells l)) (hl : l.length ≤ 140737488355328) :
    Calls Tryz.prog 88 #[v] w fun e w' => ∃ a c, e = .returned (.slice a l.length c) ∧ w'.ownsRow w.heap.size 5 1 (.slice a l.length c) l.length (bcells l) ∧ Below w.heap.size w w' := by
  obtain ⟨a, c, rfl⟩ := hrd.shape
  rw [bcells_length] at hrd ⊢
  cases a with
  | none =>
    have hl0 : l = [] := by
      rcases hrd with ⟨h | ⟨_, _, h⟩, h0⟩ | ⟨_, _, _, _, h, _⟩
      · simpa [bcells] using h0
      · cases h
      · cases h
    subst hl0
    clear hrd
    have hq := run_eql_slice_nil (P := Tryz.prog) Tryz.underlying33 none 0 c
    go_enter Tryz.func88, Tryz.ntmps88
    go_wp2
    go_ret
    exact ⟨none, 0, rfl, World.ownsRow_nil _ _ _ _, Below.refl _ _⟩
  | some ad =>
    have Hrd := Lib.hid hrd
    clear hrd
    go_enter Tryz.func88, Tryz.ntmps88
    have hq := run_eql_slice_nil (P := Tryz.prog) Tryz.underlying33 (some ad) l.length c
    go_wp2_with (at_builtin; refine append_u8 rfl (.tmp 5) (.tmp 6) rfl (.slice (some ⟨w.heap.size, 0, none⟩) 0 0) (.slice (some ad) l.length c) [] l l rfl rfl (ownsRow_base0 (row_empty w 5 5 rfl)) rfl (Hrd.out.below ((Below.refl _ _).alloc (Nat.le_refl _) _)) (by simp; omega) ?_; intro v' w1 h1 h2 h3 _; obtain ⟨a', c', rfl, _, _, _⟩ := row_slice h1)
    go_ret
    have hB : Below w.heap.size w w1 := (((Upd.refl noFp w).alloc _).grown h2 (fun k hk => Or.inr (by cases hk; exact Nat.le_refl _))).below (fun _ h => h.elim) (Nat.le_refl _)
    refine ⟨a', c', rfl, ownsRow_from h1 (fun g hg => ?_), hB⟩
    rcases h3 with h3 | ⟨g', h3, hg'⟩
    · rw [h3] at hg; cases hg; exact Nat.le_refl _
    · rw [h3] at hg; cases hg; simp at hg'; omega

set_option maxRecDepth 100000 in
set_option maxHeartbeats 2000000 in
theorem slEqual_any (w : World) (v u : Value) (l m : List UInt8) (hv : Rd w v (bcells l)) (hu : Rd w u (bcells m)) (hl : l.length ≤ 140737488355328) :
    Calls Tryz.prog 87 #[v, u] w fun e w' => e = .returned (.bool (decide (l = m))) ∧ Below w.heap.size w w' := by
  obtain ⟨a, c, rfl⟩ := hv.shape
  obtain ⟨a2, c2, rfl⟩ := hu.shape
  rw [bcells_length] at hv hu ⊢
  rw [bcells_length]
  have Hv := Lib.hid hv
  have Hu := Lib.hid hu
  clear hv hu
  by_cases hlen : l.length = m.length
  · have hle : m.length = l.length := hlen.symm
    obtain ⟨n, hn⟩ : ∃ n, l.length = n := ⟨_, rfl⟩
    rw [hle]
    rw [hle] at Hu
    rw [hn] at Hu Hv hl ⊢
    have Hlen := Lib.hid hlen
    have Hn := Lib.hid hn
    clear hlen hle hn
    go_enter Tryz.func87, Tryz.ntmps87
    go_wp2
    go_loopw [13] (fun i wr => ∃ k : Nat, k ≤ n ∧ i = .int .i64 k ∧ l.take k = m.take k ∧ Below w.heap.size w wr) (fun i _ => n - (intOf i).toNat)
    case atStart => exact ⟨0, by omega, rfl, rfl, Below.refl _ _⟩
    case round =>
      obtain ⟨k, hk, rfl, heq, hB⟩ := hrel
      have Heq := Lib.hid heq
      clear heq
      by_cases hlt : k < n
      · have hcell : ∀ (a : Option Addr) (x : List UInt8) (c : Nat), Rd w (.slice a n c) (bcells x) → (hx : x.length = n) → ∃ b o, a = some ⟨b, o, none⟩ ∧ wr.cell? ⟨b, o + k, none⟩ = some (.int .u8 ((x[k]'(by omega)).toNat : Int)) := by
          intro a x c hr hx
          rcases hr with ⟨he, h0⟩ | ⟨b, o, n', cc, he, _, hc⟩
          · simp [bcells] at h0; subst h0; simp at hx; omega
          · cases he
            have := hc k _ (bcells_at (by omega))
            exact ⟨b, o, rfl, (hB.cell (p := ⟨b, o + k, none⟩) (cell_lt this)).trans this⟩
        obtain ⟨b1, o1, rfl, hc1⟩ := hcell a l c Hv.out Hn.out
        obtain ⟨b2, o2, rfl, hc2⟩ := hcell a2 m c2 Hu.out (Hlen.out ▸ Hn.out)
        have hkl : k < l.length := by rw [Hn.out]; exact hlt
        have hkm : k < m.length := by rw [← Hlen.out, Hn.out]; exact hlt
        obtain ⟨x, hx⟩ : ∃ x, l[k] = x := ⟨_, rfl⟩
        obtain ⟨y, hy⟩ : ∃ y, m[k] = y := ⟨_, rfl⟩
        rw [hx] at hc1
        rw [hy] at hc2
        have hno : x ≠ y → l ≠ m := by
          intro h e
          subst e
          exact h (hx.symm.trans hy)
        have hyes : x = y → l.take (k + 1) = m.take (k + 1) := by
          intro h
          rw [List.take_succ_eq_append_getElem hkl, List.take_succ_eq_append_getElem hkm, Heq.out, hx, hy, h]
        have Hno := Lib.hid hno
        have Hyes := Lib.hid hyes
        clear hno hyes hx hy hcell
        by_cases hxy : x = y
        · subst hxy
          have hne : ((x.toNat : Int) != (x.toNat : Int)) = false := by simp
          go_wp2
          go_quiet (fail)
          go_wp2
          go_roundw
          case rel => exact ⟨k + 1, by omega, by go_num, Hyes.out trivial, below_drewN hB _⟩
          case measure => simp [intOf]; omega
        · have hne : ((x.toNat : Int) != (y.toNat : Int)) = true := by
            simp only [bne_iff_ne, ne_eq]
            exact fun e => hxy (UInt8.toNat_inj.1 (by omega))
          have Hno2 := Lib.hid (Hno.out hxy)
          clear hxy
          go_wp2
          go_quiet (fail)
          go_wp2
          go_ret
          exact ⟨by simp [Hno2.out], below_drewN hB _⟩
      · go_wp2
        go_ret
        have : l = m := by
          have h := Heq.out
          rwa [List.take_of_length_le (by rw [Hn.out]; omega), List.take_of_length_le (by rw [← Hlen.out, Hn.out]; omega)] at h
        exact ⟨by simp [this], hB⟩
  · have hne : ((l.length : Int) != (m.length : Int)) = true := by simpa using fun e : (l.length : Int) = m.length => hlen (by omega)
    have hfin : decide (l = m) = false := by simpa using fun e : l = m => hlen (by rw [e])
    rw [hfin]
    clear hlen hfin
    go_enter Tryz.func87, Tryz.ntmps87
    go_wp2
    go_ret
    exact ⟨rfl, Below.refl _ _⟩

/-- where the first byte below 128 stands; -1: nowhere. -/
def idxF (l : List UInt8) : Int := match l.findIdx? (fun x => decide (x.toNat < 128)) with
  | some e => e
  | none => -1
set_option maxHeartbeats 400000 in
theorem below128_yes (x : UInt8) (w : World) (h : (x.toNat : Int) < 128) : Calls Tryz.prog 91 #[.int .u8 x.toNat] w fun e w' => e = .returned (.bool true) ∧ w = w' := by
  go_enter Tryz.func91, Tryz.ntmps91
  go_wp2
  go_ret
  exact ⟨rfl, rfl⟩
set_option maxHeartbeats 400000 in
theorem below128_no (x : UInt8) (w : World) (h : ¬ (x.toNat : Int) < 128) : Calls Tryz.prog 91 #[.int .u8 x.toNat] w fun e w' => e = .returned (.bool false) ∧ w = w' := by
  go_enter Tryz.func91, Tryz.ntmps91
  go_wp2
  go_ret
  exact ⟨rfl, rfl⟩
set_option maxRecDepth 100000 in
set_option maxHeartbeats 2000000 in
theorem slIndexFunc_any (w : World) (v : Value) (l : List UInt8) (hv : Rd w v (bcells l)) (hl : l.length ≤ 140737488355328) :
    Calls Tryz.prog 90 #[v, .func (.func 91) #[] #[]] w fun e w' => e = .returned (.int .i64 (idxF l)) ∧ w = w' := by
  obtain ⟨a, c, rfl⟩ := hv.shape
  rw [bcells_length] at hv ⊢
  have Hv := Lib.hid hv
  clear hv
  go_enter Tryz.func90, Tryz.ntmps90
  go_wp2
  go_loop [8] (fun i => ∃ k : Nat, k ≤ l.length ∧ i = .int .i64 k ∧ ∀ j (hj : j < l.length), j < k → ¬ l[j].toNat < 128) (fun i => l.length - (intOf i).toNat)
  case atStart => exact ⟨0, by omega, rfl, fun j _ h => by omega⟩
  case round =>
    obtain ⟨k, hk, rfl, hall⟩ := hrel
    have Hall := Lib.hid hall
    clear hall
    by_cases hlt : k < l.length
    · obtain ⟨b, o, rfl, hc⟩ : ∃ b o, a = some ⟨b, o, none⟩ ∧ w.cell? ⟨b, o + k, none⟩ = some (.int .u8 (l[k].toNat : Int)) := by
        rcases Hv.out with ⟨_, h0⟩ | ⟨b, o, n', cc, he, _, hc⟩
        · simp [bcells] at h0; subst h0; simp at hlt
        · cases he
          exact ⟨b, o, rfl, hc k _ (bcells_at hlt)⟩
      by_cases hx : (l[k].toNat : Int) < 128
      · have hfin : idxF l = k := by
          unfold idxF
          have : l.findIdx? (fun x => decide (x.toNat < 128)) = some k := List.findIdx?_eq_some_iff_getElem.2 ⟨hlt, by simp; omega, fun j hj => by simpa using Hall.out j (by omega) hj⟩
          rw [this]
        have Hfin := Lib.hid hfin
        clear hfin
        obtain ⟨x, hx0⟩ : ∃ x, l[k] = x := ⟨_, rfl⟩
        rw [hx0] at hx hc
        clear hx0
        go_wp2_with (go_at_call 91; refine (below128_yes _ _ hx).mono ?_; rintro e w1 ⟨rfl, rfl⟩)
        go_ret
        exact ⟨by rw [Hfin.out]; rfl, rfl⟩
      · have hnext : ∀ j (hj : j < l.length), j < k + 1 → ¬ l[j].toNat < 128 := fun j hj h => by
          by_cases e : j = k
          · subst e; omega
          · exact Hall.out j hj (by omega)
        have Hnext := Lib.hid hnext
        clear hnext
        obtain ⟨x, hx0⟩ : ∃ x, l[k] = x := ⟨_, rfl⟩
        rw [hx0] at hx hc
        clear hx0
        go_wp2_with (go_at_call 91; refine (below128_no _ _ hx).mono ?_; rintro e w1 ⟨rfl, rfl⟩)
        go_round
        case rel => exact ⟨k + 1, by omega, by go_num, Hnext.out⟩
        case measure => simp [intOf]; omega
    · have hfin : idxF l = -1 := by
        unfold idxF
        have : l.findIdx? (fun x => decide (x.toNat < 128)) = none := List.findIdx?_eq_none_iff.2 fun x hx => by
          obtain ⟨j, hj, rfl⟩ := List.getElem_of_mem hx
          simpa using Hall.out j hj (by omega)
        rw [this]
      have Hfin := Lib.hid hfin
      clear hfin
      go_wp2
      go_ret
      exact ⟨by rw [Hfin.out]; rfl, rfl⟩
end Go.Proofs.YtkacgmbinkoojaaGreatDoor

/-
  Package bytes: what GetUint, GetBlob tell.
-/
namespace Go.Proofs.YtkacgmbinkoojaaGreatDoor
open Go.RowKit Go.Maps Go.MapKept

/-- a part of a slice. -/
theorem rd_none (w : World) (a : Option Addr) : Rd w (.slice a 0 0) [] := by
  cases a with
  | none => exact Or.inl ⟨Or.inl rfl, rfl⟩
  | some ad => exact Or.inl ⟨Or.inr ⟨_, _, rfl⟩, rfl⟩
theorem rd_sub {w : World} {a : Option Addr} {n c : Nat} {xs : List Value} (hr : Rd w (.slice a n c) xs) (lo m : Nat) (h : lo + m ≤ n) (hne : ¬ c = lo) : Rd w (.slice (a.map (fun x => x.add lo)) m (c - lo)) ((xs.drop lo).take m) := by
  rcases hr with ⟨h1 | ⟨ad, c', h1⟩, h0⟩ | ⟨b, off, n', c', h1, hl, hcell⟩
  · cases h1; exact absurd (by omega : (0 : Nat) = lo) hne
  · cases h1
    obtain rfl : m = 0 := by omega
    exact Or.inl ⟨Or.inr ⟨_, _, rfl⟩, by simp⟩
  · cases h1
    refine Or.inr ⟨b, off + lo, m, c - lo, by simp [Addr.add_lit], by simp; omega, fun j u hj => ?_⟩
    rw [List.getElem?_take] at hj
    split at hj
    · rw [List.getElem?_drop] at hj
      rw [Nat.add_assoc]; exact hcell _ _ hj
    · cases hj
theorem rd_prefix {w : World} {a : Option Addr} {n c : Nat} {xs : List Value} (hr : Rd w (.slice a n c) xs) (m : Nat) (h : m ≤ n) : Rd w (.slice a m c) (xs.take m) := by
  rcases hr with ⟨h1 | ⟨ad, c', h1⟩, h0⟩ | ⟨b, off, n', c', h1, hl, hcell⟩
  · cases h1
    obtain rfl : m = 0 := by omega
    exact Or.inl ⟨Or.inl rfl, by simp⟩
  · cases h1
    obtain rfl : m = 0 := by omega
    exact Or.inl ⟨Or.inr ⟨_, _, rfl⟩, by simp⟩
  · cases h1
    refine Or.inr ⟨b, off, m, _, rfl, by simp; omega, fun j u hj => ?_⟩
    rw [List.getElem?_take] at hj
    split at hj
    · exact hcell _ _ hj
    · cases hj

theorem vVal_drop_le (l : List UInt8) (k : Nat) : vVal (l.drop k) ≤ vVal l := by
  have h := vVal_app (l.take k) (l.drop k)
  rw [List.take_append_drop] at h
  have : 1 * vVal (l.drop k) ≤ 128 ^ (l.take k).length * vVal (l.drop k) := Nat.mul_le_mul_right _ (Nat.pow_pos (by omega))
  omega
def guErr (l : List UInt8) : Int := (gU l).1
def guVal (l : List UInt8) : Nat := (gU l).2.1
def guNext (l : List UInt8) (at_ : Nat) : Int := if (gU l).1 = 0 then at_ + (gU l).2.2 else 0
theorem gu_none {l : List UInt8} (h : (l.take 10).findIdx? (fun x => decide (x.toNat < 128)) = none) : gU l = (if l.length < 10 then 11 else 10, 0, 0) := by
  unfold gU; rw [h]; simp only; split <;> rfl
theorem gu_bad {l : List UInt8} {e : Nat} (h : (l.take 10).findIdx? (fun x => decide (x.toNat < 128)) = some e) (hb : (0 < e ∧ (l.getD e 0).toNat = 0) ∨ (e = 9 ∧ 1 < (l.getD e 0).toNat)) : gU l = (10, 0, 0) := by
  unfold gU; rw [h]; simp only; rw [if_pos hb]
theorem gu_good {l : List UInt8} {e : Nat} (h : (l.take 10).findIdx? (fun x => decide (x.toNat < 128)) = some e) (hb : ¬ ((0 < e ∧ (l.getD e 0).toNat = 0) ∨ (e = 9 ∧ 1 < (l.getD e 0).toNat))) : gU l = (0, vVal (l.take (e + 1)), e + 1) := by
  unfold gU; rw [h]; simp only; rw [if_neg hb]

def GuPost (l : List UInt8) (at_ : Nat) (w : World) (e : Ending) (w' : World) : Prop :=
  e = .returned (.tuple #[.int .u64 (guVal l), .int .i64 (guNext l at_), .int .i64 (guErr l)]) ∧ Below w.heap.size w w'

set_option maxRecDepth 100000 in
set_option maxHeartbeats 4000000 in
theorem gu_end (w : World) (v : Value) (l : List UInt8) (hv : Rd w v (bcells l)) (hcap : CapOk v) (hl : l.length ≤ 140737488355328) :
    Calls Tryz.prog 72 #[v, .int .i64 l.length] w (GuPost [] l.length w) := by
  obtain ⟨a, c, rfl⟩ := hv.shape
  obtain ⟨_, _, _, he, hnc, hcm⟩ := hcap
  cases he
  rw [bcells_length] at hv hnc ⊢
  simp only [maxLen] at hcm
  have hno : ∀ (x : Option Addr) (cc : Nat), (x = none → cc = 0) → Rd w (.slice x 0 cc) (bcells []) := fun x cc hx => by
    cases x with
    | none => rw [hx rfl]; exact Or.inl ⟨Or.inl rfl, rfl⟩
    | some ad => exact Or.inl ⟨Or.inr ⟨_, _, rfl⟩, rfl⟩
  have hc0 : a = none → c = 0 := by
    rintro rfl
    rcases hv with ⟨h | ⟨_, _, h⟩, _⟩ | ⟨_, _, _, _, h, _⟩
    · simp only [Value.slice.injEq] at h; exact h.2.2
    · cases h
    · cases h
  have hmin : min ((l.length : Int) + 10) (l.length : Int) = l.length := by omega
  clear hv
  by_cases hca : c = l.length
  · subst hca
    go_enter Tryz.func72, Tryz.ntmps72
    go_wp2_with (go_at_call 90; refine (slIndexFunc_any _ _ [] (hno _ _ (fun h => by have := hc0 h; omega)) (by simp)).mono ?_; rintro e w1 ⟨rfl, rfl⟩)
    go_ret3
    exact ⟨rfl, Below.refl _ _⟩
  · go_enter Tryz.func72, Tryz.ntmps72
    go_wp2_with (go_at_call 90; refine (slIndexFunc_any _ _ [] (hno _ _ (fun h => by have := hc0 (by simpa using h); omega)) (by simp)).mono ?_; rintro e w1 ⟨rfl, rfl⟩)
    go_ret3
    exact ⟨rfl, Below.refl _ _⟩

set_option maxRecDepth 100000 in
set_option maxHeartbeats 8000000 in
theorem gu_more (w : World) (b off c at_ : Nat) (l : List UInt8) (hv : Rd w (.slice (some ⟨b, off, none⟩) l.length c) (bcells l)) (hnc : l.length ≤ c) (hat : at_ < l.length) (hl : l.length ≤ 140737488355328) :
    Calls Tryz.prog 72 #[.slice (some ⟨b, off, none⟩) l.length c, .int .i64 at_] w (GuPost (l.drop at_) at_ w) := by
  obtain ⟨hi, hhi, hhi1, hhi2⟩ : ∃ hi : Nat, min ((at_ : Int) + 10) (l.length : Int) = hi ∧ at_ < hi ∧ hi ≤ l.length := by
    by_cases h : at_ + 10 ≤ l.length
    · exact ⟨at_ + 10, by omega, by omega, by omega⟩
    · exact ⟨l.length, by omega, by omega, by omega⟩
  obtain ⟨N, hN⟩ : ∃ N, hi - at_ = N := ⟨_, rfl⟩
  obtain ⟨r, hr⟩ : ∃ r, (l.drop at_).take 10 = r := ⟨_, rfl⟩
  have hrN : r.length = N := by rw [← hr]; simp; omega
  have hr0 : Rd w (.slice (some ⟨b, off + at_, none⟩) N (c - at_)) (bcells r) := by
    rcases hv with ⟨h | ⟨_, _, h⟩, h0⟩ | ⟨b', o', n', c', h, _, hc⟩
    · cases h
    · simp [bcells] at h0; subst h0; simp at hat
    · cases h
      refine Or.inr ⟨b, off + at_, N, c - at_, rfl, by rw [bcells_length, hrN], fun j u hj => ?_⟩
      rw [Nat.add_assoc]
      apply hc
      rw [← hr, bcells_take, show bcells (l.drop at_) = (bcells l).drop at_ by simp [bcells]] at hj
      rw [List.getElem?_take] at hj
      split at hj
      · rwa [List.getElem?_drop] at hj
      · cases hj
  have hN10 : N ≤ 10 := by omega
  have hN0 : 0 < N := by omega
  have hca : ¬ c = at_ := by omega
  have hlong : (l.drop at_).length < 10 ↔ N < 10 := by rw [← hrN, ← hr]; simp; omega
  have Hr0 := Lib.hid hr0
  have Hlong := Lib.hid hlong
  have Hr := Lib.hid hr
  have HrN := Lib.hid hrN
  clear hv hr0 hr hrN hlong
  obtain ⟨ix, hix⟩ : ∃ ix, idxF r = ix := ⟨_, rfl⟩
  cases hfi : r.findIdx? (fun x => decide (x.toNat < 128)) with
  | none =>
    have hi1 : ix = -1 := by rw [← hix]; unfold idxF; rw [hfi]
    have hgu := gu_none (l := l.drop at_) (by rw [Hr.out]; exact hfi)
    subst hi1
    have Hix := Lib.hid hix
    have Hgu := Lib.hid hgu
    clear hix hgu hfi
    by_cases h10 : (N : Int) < 10
    · have hfin : gU (l.drop at_) = (11, 0, 0) := by rw [Hgu.out, if_pos (Hlong.out.2 (by omega))]
      have Hfin := Lib.hid hfin
      clear hfin
      go_enter Tryz.func72, Tryz.ntmps72
      go_wp2_with (go_at_call 90; refine (slIndexFunc_any _ _ r Hr0.out (by rw [HrN.out]; omega)).mono ?_; rw [Hix.out]; rintro e w1 ⟨rfl, rfl⟩)
      go_ret3
      exact ⟨by unfold guVal guNext guErr; rw [Hfin.out]; rfl, Below.refl _ _⟩
    · have hfin : gU (l.drop at_) = (10, 0, 0) := by rw [Hgu.out, if_neg (fun h => by have := Hlong.out.1 h; omega)]
      have Hfin := Lib.hid hfin
      clear hfin
      go_enter Tryz.func72, Tryz.ntmps72
      go_wp2_with (go_at_call 90; refine (slIndexFunc_any _ _ r Hr0.out (by rw [HrN.out]; omega)).mono ?_; rw [Hix.out]; rintro e w1 ⟨rfl, rfl⟩)
      go_ret3
      exact ⟨by unfold guVal guNext guErr; rw [Hfin.out]; rfl, Below.refl _ _⟩
  | some e =>
    have hi1 : ix = e := by rw [← hix]; unfold idxF; rw [hfi]
    have hfi' : ((l.drop at_).take 10).findIdx? (fun x => decide (x.toNat < 128)) = some e := by rw [Hr.out]; exact hfi
    have heN : e < N := by
      have := (List.findIdx?_eq_some_iff_getElem.1 hfi).1
      rw [HrN.out] at this
      exact this
    have her : e < r.length := by rw [HrN.out]; exact heN
    have hcells : ∀ j (hj : j < r.length), w.cell? ⟨b, off + at_ + j, none⟩ = some (.int .u8 (r[j].toNat : Int)) := by
      intro j hj
      rcases Hr0.out with ⟨_, h0⟩ | ⟨b', o', n', c', h, _, hc⟩
      · simp [bcells] at h0; subst h0; simp at hj
      · cases h; exact hc j _ (bcells_at hj)
    have hre : (l.drop at_).getD e 0 = r[e] := by
      have : (l.drop at_)[e]? = r[e]? := by rw [← Hr.out, List.getElem?_take, if_pos (by omega)]
      rw [List.getD_eq_getElem?_getD, this, List.getElem?_eq_getElem her]; rfl
    have htake : (l.drop at_).take (e + 1) = r.take (e + 1) := by rw [← Hr.out, List.take_take, Nat.min_eq_left (by omega)]
    have Hcells := Lib.hid hcells
    have hce := hcells e her
    obtain ⟨y, hy⟩ : ∃ y, r[e] = y := ⟨_, rfl⟩
    rw [hy] at hce hre
    have hbad := gu_bad hfi'
    have hgood := gu_good hfi'
    rw [hre] at hbad hgood
    subst hi1
    have Hix := Lib.hid hix
    have Hbad := Lib.hid hbad
    have Hgood := Lib.hid hgood
    have Htake := Lib.hid htake
    clear hix hfi hfi' hy hre hbad hgood hcells htake
    have hyl := y.toNat_lt
    by_cases hb1 : 0 < e ∧ y.toNat = 0
    · have hfin := Hbad.out (Or.inl hb1)
      obtain ⟨he0, hy0⟩ := hb1
      have hyb : ((y.toNat : Int) == 0) = true := by simp [hy0]
      have Hfin := Lib.hid hfin
      clear hfin hy0
      go_enter Tryz.func72, Tryz.ntmps72
      go_wp2_with (go_at_call 90; refine (slIndexFunc_any _ _ r Hr0.out (by rw [HrN.out]; omega)).mono ?_; rw [Hix.out]; rintro e w1 ⟨rfl, rfl⟩)
      go_ret3
      exact ⟨by unfold guVal guNext guErr; rw [Hfin.out]; rfl, Below.refl _ _⟩
    · by_cases hb2 : e = 9 ∧ 1 < y.toNat
      · have hfin := Hbad.out (Or.inr hb2)
        obtain ⟨rfl, hy1⟩ := hb2
        have hy1' : (1 : Int) < (y.toNat : Int) := by omega
        have hyb : ((y.toNat : Int) == 0) = false := by
          simp only [beq_eq_false_iff_ne, ne_eq]; omega
        have Hfin := Lib.hid hfin
        clear hfin hb1
        go_enter Tryz.func72, Tryz.ntmps72
        go_wp2_with (go_at_call 90; refine (slIndexFunc_any _ _ r Hr0.out (by rw [HrN.out]; omega)).mono ?_; rw [Hix.out]; rintro e w1 ⟨rfl, rfl⟩)
        go_ret3
        exact ⟨by unfold guVal guNext guErr; rw [Hfin.out]; rfl, Below.refl _ _⟩
      · have hfin := Hgood.out (by rintro (h | h); exact hb1 h; exact hb2 h)
        rw [Htake.out] at hfin
        obtain ⟨l2, hl2⟩ : ∃ l2, r.take (e + 1) = l2 := ⟨_, rfl⟩
        rw [hl2] at hfin
        have hl2l : l2.length = e + 1 := by rw [← hl2]; simp; omega
        have hl2c : ∀ j (hj : j < l2.length), w.cell? ⟨b, off + at_ + j, none⟩ = some (.int .u8 (l2[j].toNat : Int)) := by
          intro j hj
          have : l2[j] = r[j]'(by omega) := by simp only [← hl2, List.getElem_take]
          rw [this]
          exact Hcells.out j _
        have hlt64 : vVal l2 < 18446744073709551616 := (gU_ok hfin).2.2.2.2
        have Hl2c := Lib.hid hl2c
        have Hfin := Lib.hid hfin
        have Hl2l := Lib.hid hl2l
        clear hl2 hl2c hl2l
        have hcases : (¬ (0 : Int) < (e : Int) ∧ ((e : Int) == 9) = false) ∨ ((0 : Int) < (e : Int) ∧ ((y.toNat : Int) == 0) = false ∧ ((e : Int) == 9) = false) ∨ ((0 : Int) < (e : Int) ∧ ((y.toNat : Int) == 0) = false ∧ ((e : Int) == 9) = true ∧ ¬ (1 : Int) < (y.toNat : Int)) := by
          have hy0 : 0 < e → ((y.toNat : Int) == 0) = false := fun h => by
            simp only [beq_eq_false_iff_ne, ne_eq]
            intro e0
            exact hb1 ⟨h, by omega⟩
          by_cases h0 : e = 0
          · exact Or.inl ⟨by omega, by subst h0; rfl⟩
          · by_cases h9 : e = 9
            · exact Or.inr (Or.inr ⟨by omega, hy0 (by omega), by subst h9; rfl, fun h => hb2 ⟨h9, by omega⟩⟩)
            · exact Or.inr (Or.inl ⟨by omega, hy0 (by omega), by simp only [beq_eq_false_iff_ne, ne_eq]; omega⟩)
        clear hb1 hb2
        rcases hcases with ⟨h0, h9⟩ | ⟨h0, hy0, h9⟩ | ⟨h0, hy0, h9, hy1⟩
        all_goals
          go_enter Tryz.func72, Tryz.ntmps72
          go_wp2_with (go_at_call 90; refine (slIndexFunc_any _ _ r Hr0.out (by rw [HrN.out]; omega)).mono ?_; rw [Hix.out]; rintro e w1 ⟨rfl, rfl⟩)
          go_loop [9, 60] (fun n i => ∃ k : Nat, k ≤ e + 1 ∧ i = .int .i64 k ∧ n = .int .u64 (vVal (l2.drop (e + 1 - k)))) (fun _ i => e + 1 - (intOf i).toNat)
          case atStart => exact ⟨0, by omega, rfl, by rw [List.drop_of_length_le (by rw [Hl2l.out]; omega)]; rfl⟩
          case round =>
            obtain ⟨k, hk, rfl, rfl⟩ := hrel
            by_cases hlt : k < e + 1
            · obtain ⟨j, hj⟩ : ∃ j : Nat, (e : Int) - k = j := ⟨e - k, by omega⟩
              have hjl : j < l2.length := by rw [Hl2l.out]; omega
              have hcj := Hl2c.out j hjl
              have hd1 : vVal (l2.drop j) = l2[j].toNat % 128 + 128 * vVal (l2.drop (j + 1)) := by rw [List.drop_eq_getElem_cons hjl]; rfl
              have hd2 := vVal_drop_le l2 j
              obtain ⟨x, hx⟩ : ∃ x, l2[j] = x := ⟨_, rfl⟩
              rw [hx] at hcj hd1
              have hk1 : e + 1 - k = j + 1 := by omega
              have hk2 : e + 1 - (k + 1) = j := by omega
              rw [hk1]
              obtain ⟨V, hV⟩ : ∃ V, vVal (l2.drop (j + 1)) = V := ⟨_, rfl⟩
              obtain ⟨V', hV'⟩ : ∃ V', vVal (l2.drop j) = V' := ⟨_, rfl⟩
              rw [hV] at hd1 ⊢
              rw [hV'] at hd1 hd2
              have hb1 : V * 128 + x.toNat % 128 < 18446744073709551616 := by omega
              have hb2 : (V : Int) * 128 + (x.toNat : Int) % 128 = V' := by omega
              have Hb2 := Lib.hid hb2
              have HV' := Lib.hid hV'
              have Hk2 := Lib.hid hk2
              clear hx hV hV' hk1 hk2 hd1 hd2 hb2
              go_wp2
              go_round
              case rel => exact ⟨k + 1, by omega, by go_num, by rw [Hk2.out, HV'.out, ← Hb2.out]⟩
              case measure => simp [intOf]; omega
            · obtain rfl : k = e + 1 := by omega
              have hall : vVal (l2.drop (e + 1 - (e + 1))) = vVal l2 := by simp
              rw [hall]
              clear hall
              go_wp2
              go_ret3
              exact ⟨by unfold guVal guNext guErr; rw [Hfin.out]; simp; omega, Below.refl _ _⟩

theorem bGetUint_any (w : World) (v : Value) (l : List UInt8) (at_ : Nat) (hv : Rd w v (bcells l)) (hcap : CapOk v) (hat : at_ ≤ l.length) (hl : l.length ≤ 140737488355328) :
    Calls Tryz.prog 72 #[v, .int .i64 at_] w (GuPost (l.drop at_) at_ w) := by
  by_cases h : at_ = l.length
  · subst h
    rw [List.drop_length]
    exact gu_end w v l hv hcap hl
  · obtain ⟨a, c, rfl⟩ := hv.shape
    obtain ⟨_, _, _, he, hnc, hcm⟩ := hcap
    cases he
    rw [bcells_length] at hv hnc ⊢
    have : ∃ b off, a = some ⟨b, off, none⟩ := by
      rcases hv with ⟨h1 | ⟨ad, c', h1⟩, h0⟩ | ⟨b, off, n', c', h1, _⟩
      · simp [bcells] at h0; subst h0; exact absurd (by simpa using hat) h
      · simp [bcells] at h0; subst h0; exact absurd (by simpa using hat) h
      · cases h1; exact ⟨b, off, rfl⟩
    obtain ⟨b, off, rfl⟩ := this
    exact gu_more w b off c at_ l hv hnc (by omega) hl

end Go.Proofs.YtkacgmbinkoojaaGreatDoor

/-
  Package bytes: what GetBlob tells.
-/
namespace Go.Proofs.YtkacgmbinkoojaaGreatDoor
open Go.RowKit Go.Maps Go.MapKept

theorem row_from {w : World} {base : Nat} {e : TypeId} {sz n : Nat} {v : Value} {xs : List Value} (h : w.ownsRow base e sz v n xs) {g : Nat} (hg : v.ownBlock = some g) : base ≤ g := (h.lt g hg).1
def GbPost (l : List UInt8) (at_ most : Nat) (w : World) (e : Ending) (w' : World) : Prop :=
  ∃ a c, e = .returned (.tuple #[.slice a (gB l most).2.1.length c, .int .i64 (if (gB l most).1 = 0 then at_ + (gB l most).2.2 else 0), .int .i64 (gB l most).1]) ∧
    w'.ownsRow w.heap.size 5 1 (.slice a (gB l most).2.1.length c) (gB l most).2.1.length (bcells (gB l most).2.1) ∧ Below w.heap.size w w'
theorem GbPost.bad {l : List UInt8} {at_ most : Nat} {w w' : World} {er : Int} (h : gB l most = (er, [], 0)) (h0 : er ≠ 0) (hB : Below w.heap.size w w') : GbPost l at_ most w (.returned (.tuple #[.slice none 0 0, .int .i64 0, .int .i64 er])) w' := by
  refine ⟨none, 0, ?_, ?_, hB⟩
  · rw [h]; simp [h0]
  · rw [h]; exact World.ownsRow_nil _ _ _ _

set_option maxRecDepth 100000 in
set_option maxHeartbeats 8000000 in
theorem bGetBlob_any (w : World) (v : Value) (l : List UInt8) (at_ most : Nat) (hv : Rd w v (bcells l)) (hcap : CapOk v) (hat : at_ ≤ l.length) (hl : l.length ≤ 140737488355328) (hmo : most ≤ 9223372036854775807) :
    Calls Tryz.prog 73 #[v, .int .i64 at_, .int .i64 most] w (GbPost (l.drop at_) at_ most w) := by
  have hG := bGetUint_any w v l at_ hv hcap hat hl
  obtain ⟨a, c, rfl⟩ := hv.shape
  obtain ⟨_, _, _, he, hnc, hcm⟩ := hcap
  cases he
  rw [bcells_length] at hv hnc hG ⊢
  simp only [maxLen] at hcm
  obtain ⟨er, n, k, hgu⟩ : ∃ er n k, gU (l.drop at_) = (er, n, k) := ⟨_, _, _, rfl⟩
  unfold GuPost guVal guNext guErr at hG
  rw [hgu] at hG
  simp only at hG
  have hm0 : ¬ (most : Int) < 0 := by omega
  have hmc : (most : Int) ≤ 9223372036854775807 := by omega
  by_cases h0 : er = 0
  · subst h0
    simp only [if_true] at hG
    obtain ⟨x1, x2, hk1, hk2, hn64⟩ := gU_ok hgu
    clear x1 x2
    rw [List.length_drop] at hk1
    have hgb : gB (l.drop at_) most = if most < n then (3, [], 0) else if (l.drop at_).length - k < n then (11, [], 0) else (0, ((l.drop at_).drop k).take n, k + n) := by
      unfold gB; rw [hgu]; simp only
    by_cases h1 : most < n
    · rw [if_pos h1] at hgb
      have hlt : (most : Int) < (n : Int) := by omega
      have Hgb := Lib.hid hgb
      have HG := Lib.hid hG
      clear hgb hgu hG hv
      go_enter Tryz.func73, Tryz.ntmps73
      go_wp2_with (go_at_call 72; refine HG.out.mono ?_; rintro e w1 ⟨rfl, hB⟩)
      go_ret3
      exact GbPost.bad Hgb.out (by decide) hB
    · rw [if_neg h1] at hgb
      have hnm : ¬ (most : Int) < (n : Int) := by omega
      obtain ⟨D, hD⟩ : ∃ D : Nat, (l.length : Int) - ((at_ : Int) + k) = D := ⟨l.length - (at_ + k), by omega⟩
      have hD2 : (l.drop at_).length - k = D := by rw [List.length_drop]; omega
      rw [hD2] at hgb
      by_cases h2 : D < n
      · rw [if_pos h2] at hgb
        have h2' : (D : Int) < (n : Int) := by omega
        have Hgb := Lib.hid hgb
        have HG := Lib.hid hG
        clear hgb hgu hG hv hD2
        go_enter Tryz.func73, Tryz.ntmps73
        go_wp2_with (go_at_call 72; refine HG.out.mono ?_; rintro e w1 ⟨rfl, hB⟩)
        go_ret3
        exact GbPost.bad Hgb.out (by decide) hB
      · rw [if_neg h2] at hgb
        have h2' : ¬ (D : Int) < (n : Int) := by omega
        obtain ⟨b, hb⟩ : ∃ b, ((l.drop at_).drop k).take n = b := ⟨_, rfl⟩
        rw [hb] at hgb
        have hbl : b.length = n := by rw [← hb]; simp; omega
        have hfit : at_ + k + n ≤ l.length := by omega
        have hbc : ((bcells l).drop (at_ + k)).take n = bcells b := by rw [← hb, List.drop_drop]; simp [bcells, List.map_drop, List.map_take]
        have Hgb := Lib.hid hgb
        have HG := Lib.hid hG
        have Hbl := Lib.hid hbl
        by_cases hca : c = at_ + k
        · obtain rfl : n = 0 := by omega
          subst hca
          have hb0 : b = [] := List.eq_nil_of_length_eq_zero hbl
          have hsub : ∀ w, Rd w (.slice a 0 0) (bcells b) := fun w => by rw [hb0]; exact rd_none w a
          have Hsub := Lib.hid hsub
          clear hgb hgu hG hv hD2 hb hbl hbc hb0 hsub
          go_enter Tryz.func73, Tryz.ntmps73
          go_wp2_with first
            | (go_at_call 72; refine HG.out.mono ?_; rintro e w1 ⟨rfl, hB⟩)
            | (go_at_call 88; refine (slClone_any _ _ b (Hsub.out _) (by rw [Hbl.out]; omega)).mono ?_; rw [Hbl.out]; rintro e w2 ⟨a2, c2, rfl, hrow, hB2⟩; have Hrow := Lib.hid hrow; clear hrow)
          go_ret3
          exact ⟨a2, c2, by rw [Hgb.out]; (simp [Hbl.out] <;> omega), by rw [Hgb.out]; simp only; rw [Hbl.out]; exact ownsRow_from Hrow.out (fun g hg => Nat.le_trans hB.size (row_from Hrow.out hg)), hB.trans (hB2.mono hB.size)⟩
        · have hsub := rd_sub hv (at_ + k) n hfit hca
          rw [hbc] at hsub
          have Hsub := Lib.hid hsub
          clear hgb hgu hG hv hD2 hb hbl hbc hsub
          go_enter Tryz.func73, Tryz.ntmps73
          go_wp2_with first
            | (go_at_call 72; refine HG.out.mono ?_; rintro e w1 ⟨rfl, hB⟩)
            | (go_at_call 88; refine (slClone_any _ _ b (Hsub.out.below hB) (by rw [Hbl.out]; omega)).mono ?_; rw [Hbl.out]; rintro e w2 ⟨a2, c2, rfl, hrow, hB2⟩; have Hrow := Lib.hid hrow; clear hrow)
          go_ret3
          exact ⟨a2, c2, by rw [Hgb.out]; (simp [Hbl.out] <;> omega), by rw [Hgb.out]; simp only; rw [Hbl.out]; exact ownsRow_from Hrow.out (fun g hg => Nat.le_trans hB.size (row_from Hrow.out hg)), hB.trans (hB2.mono hB.size)⟩
  · have hgb : gB (l.drop at_) most = (er, [], 0) := by
      unfold gB
      rw [hgu]
      split
      · rename_i heq; simp only [Prod.mk.injEq] at heq; exact absurd heq.1 h0
      · rename_i heq; simp only [Prod.mk.injEq] at heq; rw [heq.1]
    rw [if_neg h0] at hG
    have h0b : (er != 0) = true := by simpa using h0
    have Hgb := Lib.hid hgb
    have HG := Lib.hid hG
    have H0 := Lib.hid h0
    clear hgb hgu hG hv h0
    go_enter Tryz.func73, Tryz.ntmps73
    go_wp2_with (go_at_call 72; refine HG.out.mono ?_; rintro e w1 ⟨rfl, hB⟩)
    go_ret3
    exact GbPost.bad Hgb.out H0.out hB
end Go.Proofs.YtkacgmbinkoojaaGreatDoor

/-
  Package bytes: the sum (Crc), Seal, Unseal.
-/
namespace Go.Proofs.YtkacgmbinkoojaaGreatDoor
open Go.RowKit Go.Maps Go.MapKept

def u32c (l : List Nat) : List Value := l.map fun (n : Nat) => Value.int .u32 n
/-- a table in memory, its first k entries filled. -/
def TabAt (w : World) (b k : Nat) : Prop := w.heap[b]? = some (.cells (u32c (tabL.take k) ++ List.replicate (16 - k) (Value.int .u32 0)).toArray 128 (0, 0))
theorem TabAt.next {w : World} {b k : Nat} (h : TabAt w b k) (hk : k < 16) (z : Int) (hz : z = (stepN 4 k : Nat)) : TabAt (w.setCell ⟨b, k, none⟩ (.int .u32 z)) b (k + 1) := by
  subst hz
  unfold TabAt at *
  rw [setCell_at h]
  congr 2
  apply Array.ext'
  simp only [Array.toList_setIfInBounds]
  have h1 : 16 - k = (16 - (k + 1)) + 1 := by omega
  have hl : (u32c (tabL.take k)).length = k := by simp [u32c, tabL_len]; omega
  rw [h1, List.replicate_succ, List.take_succ_eq_append_getElem (by rw [tabL_len]; exact hk)]
  have : tabL[k]'(by rw [tabL_len]; exact hk) = stepN 4 k := by simp [tabL]
  rw [this, List.set_append_right _ _ (by omega), hl, Nat.sub_self]
  simp [u32c]
theorem TabAt.upd {fp : Nat → Prop} {w w' : World} {b k : Nat} (h : TabAt w b k) (hu : Upd fp w w') (hn : ¬ fp b) : TabAt w' b k := hu.keep h hn

set_option maxRecDepth 100000 in
set_option maxHeartbeats 4000000 in
theorem bSteps_any (w : World) : Calls Tryz.prog 98 #[] w fun e w' => e = .returned (.agg (u32c tabL).toArray) ∧ Below w.heap.size w w' := by
  go_enter Tryz.func98, Tryz.ntmps98
  go_wp2
  go_loopw [2, 3, 4, 9] (fun a c i j wr => ∃ k : Nat, k ≤ 16 ∧ i = .int .i64 k ∧ TabAt wr (w.heap.size + 1) k ∧ wr.heap[w.heap.size]? = some (.cells #[.int .u32 0, .int .u32 0, .int .u32 0, .int .u32 0, .int .u32 0, .int .u32 0, .int .u32 0, .int .u32 0, .int .u32 0, .int .u32 0, .int .u32 0, .int .u32 0, .int .u32 0, .int .u32 0, .int .u32 0, .int .u32 0] 128 (0, 0)) ∧ Below w.heap.size w wr) (fun _ _ i _ _ => 16 - (intOf i).toNat)
  case atStart => exact ⟨0, by omega, rfl, alloc2_at _ _ _, alloc2_at0 _ _ _, ((Below.refl _ _).alloc (Nat.le_refl _) _).alloc (by simp) _⟩
  case round =>
    obtain ⟨k, hk, rfl, hT, h0, hB⟩ := hrel
    have hbl := blk_lt hT
    have HT := Lib.hid hT
    have H0 := Lib.hid h0
    clear hT h0
    by_cases hlt : k < 16
    · obtain ⟨hfz, u0, hcz⟩ : (wr.frozen? ⟨w.heap.size + 1, k, none⟩ = false) ∧ ∃ u, wr.cell? ⟨w.heap.size + 1, k, none⟩ = some u := by
        refine ⟨by have := HT.out; unfold TabAt at this; simp [World.frozen?, this], ?_⟩
        rw [cell_at HT.out]
        have : k < (u32c (tabL.take k) ++ List.replicate (16 - k) (Value.int .u32 0)).toArray.size := by simp [u32c, tabL_len]; omega
        exact ⟨_, Array.getElem?_eq_getElem this⟩
      go_wp2
      go_loop [3, 9] (fun c j => ∃ m x : Nat, m ≤ 4 ∧ j = .int .i64 m ∧ c = .int .u32 x ∧ x < 4294967296 ∧ x = stepN m k) (fun _ j => 4 - (intOf j).toNat)
      case atStart => exact ⟨0, k, by omega, rfl, rfl, by omega, rfl⟩
      case round =>
        obtain ⟨m, x, hm, rfl, rfl, hx, hxe⟩ := hrel
        have Hxe := Lib.hid hxe
        clear hxe
        by_cases hm4 : m < 4
        · go_wp2
          go_round
          case rel => exact ⟨m + 1, st1 x, by omega, by go_num, by rw [show ((3988292384 : Int) * ((x : Int) % 2)) = ((3988292384 * (x % 2) : Nat) : Int) by omega, show (x : Int) / 2 = ((x / 2 : Nat) : Int) by omega, u32_xor_nat _ _ (by omega) (by omega)]; rfl, st1_lt hx, by rw [Hxe.out]; rfl⟩
          case measure => simp [intOf]; omega
        · obtain rfl : m = 4 := by omega
          go_wp2
          go_roundw
          case rel => exact ⟨k + 1, by omega, by go_num, HT.out.next hlt _ (by rw [Hxe.out]), setCell_old H0.out (by omega) _ _, hB.setCell (by simp) _⟩
          case measure => simp [intOf]; omega
    · obtain rfl : k = 16 := by omega
      have hc : ∀ i x, tabL[i]? = some x → wr.cell? ⟨w.heap.size + 1, i, none⟩ = some (.int .u32 (x : Nat)) := by
        intro i x hx
        rw [cell_at HT.out]
        simp only [Nat.sub_self, List.replicate_zero, List.append_nil]
        rw [List.take_of_length_le (by rw [tabL_len]; omega)]
        simp [u32c, hx]
      rw [tabL_val] at hc
      have c0 := hc 0 _ rfl
      have c1 := hc 1 _ rfl
      have c2 := hc 2 _ rfl
      have c3 := hc 3 _ rfl
      have c4 := hc 4 _ rfl
      have c5 := hc 5 _ rfl
      have c6 := hc 6 _ rfl
      have c7 := hc 7 _ rfl
      have c8 := hc 8 _ rfl
      have c9 := hc 9 _ rfl
      have c10 := hc 10 _ rfl
      have c11 := hc 11 _ rfl
      have c12 := hc 12 _ rfl
      have c13 := hc 13 _ rfl
      have c14 := hc 14 _ rfl
      have c15 := hc 15 _ rfl
      have hz : ∀ i, i < 16 → wr.cell? ⟨w.heap.size, i, none⟩ = some (.int .u32 0) := by
        intro i hi
        rw [cell_at H0.out]
        have : i = 0 ∨ i = 1 ∨ i = 2 ∨ i = 3 ∨ i = 4 ∨ i = 5 ∨ i = 6 ∨ i = 7 ∨ i = 8 ∨ i = 9 ∨ i = 10 ∨ i = 11 ∨ i = 12 ∨ i = 13 ∨ i = 14 ∨ i = 15 := by omega
        rcases this with rfl | rfl | rfl | rfl | rfl | rfl | rfl | rfl | rfl | rfl | rfl | rfl | rfl | rfl | rfl | rfl <;> rfl
      have hf : ∀ i, wr.frozen? ⟨w.heap.size, i, none⟩ = false := fun i => by simp [World.frozen?, H0.out]
      have z0 := hz 0 (by omega)
      have z1 := hz 1 (by omega)
      have z2 := hz 2 (by omega)
      have z3 := hz 3 (by omega)
      have z4 := hz 4 (by omega)
      have z5 := hz 5 (by omega)
      have z6 := hz 6 (by omega)
      have z7 := hz 7 (by omega)
      have z8 := hz 8 (by omega)
      have z9 := hz 9 (by omega)
      have z10 := hz 10 (by omega)
      have z11 := hz 11 (by omega)
      have z12 := hz 12 (by omega)
      have z13 := hz 13 (by omega)
      have z14 := hz 14 (by omega)
      have z15 := hz 15 (by omega)
      have f0 := hf 0
      have f1 := hf 1
      have f2 := hf 2
      have f3 := hf 3
      have f4 := hf 4
      have f5 := hf 5
      have f6 := hf 6
      have f7 := hf 7
      have f8 := hf 8
      have f9 := hf 9
      have f10 := hf 10
      have f11 := hf 11
      have f12 := hf 12
      have f13 := hf 13
      have f14 := hf 14
      have f15 := hf 15
      clear hc hz hf
      go_wp2
      refine bodyPost_ret (v := .agg (u32c tabL).toArray) (by rw [tabL_val]; simp [u32c, results, Tryz.results98, go_sem, z0, z1, z2, z3, z4, z5, z6, z7, z8, z9, z10, z11, z12, z13, z14, z15]) rfl ⟨rfl, ?_⟩
      exact ((((((((((((((((hB.setCell (Nat.le_refl _) _).setCell (Nat.le_refl _) _).setCell (Nat.le_refl _) _).setCell (Nat.le_refl _) _).setCell (Nat.le_refl _) _).setCell (Nat.le_refl _) _).setCell (Nat.le_refl _) _).setCell (Nat.le_refl _) _).setCell (Nat.le_refl _) _).setCell (Nat.le_refl _) _).setCell (Nat.le_refl _) _).setCell (Nat.le_refl _) _).setCell (Nat.le_refl _) _).setCell (Nat.le_refl _) _).setCell (Nat.le_refl _) _).setCell (Nat.le_refl _) _)
end Go.Proofs.YtkacgmbinkoojaaGreatDoor

/-
  Package bytes: the sum (Crc), Seal, Unseal.
-/
namespace Go.Proofs.YtkacgmbinkoojaaGreatDoor
open Go.RowKit Go.Maps Go.MapKept

theorem tab_cells : (u32c tabL).toArray = #[.int .u32 0, .int .u32 498536548, .int .u32 997073096, .int .u32 651767980, .int .u32 1994146192, .int .u32 1802195444, .int .u32 1303535960, .int .u32 1342533948, .int .u32 3988292384, .int .u32 4027552580, .int .u32 3604390888, .int .u32 3412177804, .int .u32 2607071920, .int .u32 2262029012, .int .u32 2685067896, .int .u32 3183342108] := by
  rw [tabL_val]; rfl

theorem ones_xor (s : Nat) (hs : s < 4294967296) : 4294967295 ^^^ s = 4294967295 - s := by
  have h := congrArg BitVec.toNat (BitVec.allOnes_xor (x := BitVec.ofNat 32 s))
  simp only [BitVec.toNat_xor, BitVec.toNat_allOnes, BitVec.toNat_ofNat, BitVec.toNat_not] at h
  rw [Nat.mod_eq_of_lt (by omega)] at h
  exact h
theorem not_u32 (s : Nat) (hs : s < 4294967296) : bits .xor .u32 IntKind.u32.max (s : Int) = ((4294967295 - s : Nat) : Int) := by
  rw [show IntKind.u32.max = ((4294967295 : Nat) : Int) by decide, u32_xor_nat _ _ (by omega) hs, ones_xor s hs]
set_option maxRecDepth 100000 in
set_option maxHeartbeats 4000000 in
theorem bCrc_any (w : World) (v : Value) (l : List UInt8) (hv : Rd w v (bcells l)) (hl : l.length ≤ 140737488355328) :
    Calls Tryz.prog 81 #[v] w fun e w' => e = .returned (.int .u32 (crcN l)) ∧ Below w.heap.size w w' := by
  obtain ⟨a, c, rfl⟩ := hv.shape
  rw [bcells_length] at hv ⊢
  have Hv := Lib.hid hv
  clear hv
  have hS := bSteps_any w
  rw [tab_cells] at hS
  go_enter Tryz.func81, Tryz.ntmps81
  go_wp2_with (go_at_call 98; refine hS.mono ?_; rintro e w1 ⟨rfl, hB⟩)
  clear hS
  have hcell : ∀ j, j < 16 → (w1.alloc (Obj.cells #[.int .u32 0, .int .u32 498536548, .int .u32 997073096, .int .u32 651767980, .int .u32 1994146192, .int .u32 1802195444, .int .u32 1303535960, .int .u32 1342533948, .int .u32 3988292384, .int .u32 4027552580, .int .u32 3604390888, .int .u32 3412177804, .int .u32 2607071920, .int .u32 2262029012, .int .u32 2685067896, .int .u32 3183342108] 128)).cell? ⟨w1.heap.size, j, none⟩ = some (.int .u32 (tabL.getD j 0 : Nat)) := by
    intro j hj
    rw [cell_at (alloc_at _ _), tabL_val]
    have : j = 0 ∨ j = 1 ∨ j = 2 ∨ j = 3 ∨ j = 4 ∨ j = 5 ∨ j = 6 ∨ j = 7 ∨ j = 8 ∨ j = 9 ∨ j = 10 ∨ j = 11 ∨ j = 12 ∨ j = 13 ∨ j = 14 ∨ j = 15 := by omega
    rcases this with rfl | rfl | rfl | rfl | rfl | rfl | rfl | rfl | rfl | rfl | rfl | rfl | rfl | rfl | rfl | rfl <;> rfl
  have hrd := Hv.out.below (hB.trans ((Below.refl _ _).alloc hB.size (Obj.cells #[.int .u32 0, .int .u32 498536548, .int .u32 997073096, .int .u32 651767980, .int .u32 1994146192, .int .u32 1802195444, .int .u32 1303535960, .int .u32 1342533948, .int .u32 3988292384, .int .u32 4027552580, .int .u32 3604390888, .int .u32 3412177804, .int .u32 2607071920, .int .u32 2262029012, .int .u32 2685067896, .int .u32 3183342108] 128)))
  have hB1 : Below w.heap.size w (w1.alloc (Obj.cells #[.int .u32 0, .int .u32 498536548, .int .u32 997073096, .int .u32 651767980, .int .u32 1994146192, .int .u32 1802195444, .int .u32 1303535960, .int .u32 1342533948, .int .u32 3988292384, .int .u32 4027552580, .int .u32 3604390888, .int .u32 3412177804, .int .u32 2607071920, .int .u32 2262029012, .int .u32 2685067896, .int .u32 3183342108] 128)) := hB.trans ((Below.refl _ _).alloc hB.size _)
  generalize hW : w1.alloc (Obj.cells #[.int .u32 0, .int .u32 498536548, .int .u32 997073096, .int .u32 651767980, .int .u32 1994146192, .int .u32 1802195444, .int .u32 1303535960, .int .u32 1342533948, .int .u32 3988292384, .int .u32 4027552580, .int .u32 3604390888, .int .u32 3412177804, .int .u32 2607071920, .int .u32 2262029012, .int .u32 2685067896, .int .u32 3183342108] 128) = W at hcell hrd hB1 ⊢
  clear hW
  have Hcell := Lib.hid hcell
  have Hrd := Lib.hid hrd
  clear hcell hrd
  go_loop [4, 10] (fun x i => ∃ k s : Nat, k ≤ l.length ∧ i = .int .i64 k ∧ x = .int .u32 s ∧ s < 4294967296 ∧ s = crcF 4294967295 (l.take k)) (fun _ i => l.length - (intOf i).toNat)
  case atStart => exact ⟨0, 4294967295, by omega, rfl, rfl, by omega, rfl⟩
  case round =>
    obtain ⟨k, s, hk, rfl, rfl, hs, hse⟩ := hrel
    have Hse := Lib.hid hse
    clear hse
    by_cases hlt : k < l.length
    · obtain ⟨b, o, rfl, hc⟩ : ∃ b o, a = some ⟨b, o, none⟩ ∧ W.cell? ⟨b, o + k, none⟩ = some (.int .u8 (l[k].toNat : Int)) := by
        rcases Hrd.out with ⟨_, h0⟩ | ⟨b, o, n', cc, he, _, hc⟩
        · simp [bcells] at h0; subst h0; simp at hlt
        · cases he
          exact ⟨b, o, rfl, hc k _ (bcells_at hlt)⟩
      have hnext : crcF 4294967295 (l.take (k + 1)) = crc1 s l[k] := by
        rw [List.take_succ_eq_append_getElem hlt, crcF_snoc, ← Hse.out]
      obtain ⟨x, hx⟩ : ∃ x, l[k] = x := ⟨_, rfl⟩
      rw [hx] at hc hnext
      have Hnext := Lib.hid hnext
      clear hx hnext
      have hxl := x.toNat_lt
      have h8 := x8_lt x hs
      have h8b : bits .xor .u32 (s : Int) (x.toNat : Int) = ((s ^^^ x.toNat : Nat) : Int) := u32_xor_nat _ _ hs (by omega)
      have hn1 : bits .xor .u32 (((s ^^^ x.toNat : Nat) : Int) / 16) ((tabL.getD ((s ^^^ x.toNat) % 16) 0 : Nat) : Int) = ((nib (s ^^^ x.toNat) : Nat) : Int) := by
        rw [show (((s ^^^ x.toNat : Nat) : Int) / 16) = (((s ^^^ x.toNat) / 16 : Nat) : Int) by omega, u32_xor_nat _ _ (by omega) (tabL_lt _)]; rfl
      have hc1 := Hcell.out ((s ^^^ x.toNat) % 16) (by omega)
      have hl1 := nib_lt h8
      have hn2 : bits .xor .u32 (((nib (s ^^^ x.toNat) : Nat) : Int) / 16) ((tabL.getD ((nib (s ^^^ x.toNat)) % 16) 0 : Nat) : Int) = ((crc1 s x : Nat) : Int) := by
        rw [show (((nib (s ^^^ x.toNat) : Nat) : Int) / 16) = (((nib (s ^^^ x.toNat)) / 16 : Nat) : Int) by omega, u32_xor_nat _ _ (by omega) (tabL_lt _)]; rfl
      have hc2 := Hcell.out ((nib (s ^^^ x.toNat)) % 16) (by omega)
      have hl2 := crc1_lt x hs
      have t1 := tabL_lt ((s ^^^ x.toNat) % 16)
      have t2 := tabL_lt ((nib (s ^^^ x.toNat)) % 16)
      generalize crc1 s x = S at hn2 hl2 Hnext
      generalize tabL.getD ((nib (s ^^^ x.toNat)) % 16) 0 = T2 at hn2 hc2 t2
      generalize tabL.getD ((s ^^^ x.toNat) % 16) 0 = T1 at hn1 hc1 t1
      generalize nib (s ^^^ x.toNat) = N at hn1 hn2 hc2 hl1
      generalize s ^^^ x.toNat = M at hn1 hc1 h8b h8
      go_wp2
      go_round
      case rel => exact ⟨k + 1, S, by omega, by go_num, rfl, hl2, Hnext.out.symm⟩
      case measure => simp [intOf]; omega
    · have hall : crcF 4294967295 (l.take k) = crcF 4294967295 l := by rw [List.take_of_length_le (by omega)]
      have hfin : ((4294967295 - s : Nat) : Int) = (crcN l : Nat) := by rw [Hse.out, hall]; rfl
      have Hfin := Lib.hid hfin
      clear hall hfin
      go_wp2
      go_ret
      exact ⟨by rw [← Hfin.out, ← not_u32 s hs]; rfl, hB1⟩
end Go.Proofs.YtkacgmbinkoojaaGreatDoor

/-
  Package bytes: Seal, Unseal.
-/
namespace Go.Proofs.YtkacgmbinkoojaaGreatDoor
open Go.RowKit Go.Maps Go.MapKept

theorem make_u8 (n m : Nat) (h : n ≤ m) (hm : m ≤ 140737488355332) (w : World) : (Instr.makeSlice 33 (.int .i64 n) (.int .i64 m)).run Tryz.prog w = .ok (.slice (some ⟨w.heap.size, 0, none⟩) n m) (w.alloc (.cells (Array.replicate m (Value.int .u8 0)) 5)) := by
  obtain ⟨i0, hi, hz0, hz1, hz2⟩ := info_parts info_u8
  have hr := run_make (P := Tryz.prog) w 33 5 i0 (.int .u8 0) Tryz.underlying33 hi hz0 .i64 .i64 n m (by omega) (by omega) (by rw [hz2]; omega) (by omega)
  rw [hz1] at hr
  simp only [Int.toNat_natCast, Nat.mul_one] at hr
  rw [hr]
  have e1 : madeCells (Value.int .u8 0).cells m = Array.replicate m (Value.int .u8 0) := by
    apply Array.ext'
    rw [Array.toList_replicate]
    exact toList_madeCells_one _ _
  rw [e1]

theorem rd_byte (w : World) (x : UInt8) (z : Int) (hz : z = (x.toNat : Int)) (T : TypeId) : Rd (w.alloc (.cells #[.int .u8 z] T)) (.slice (some ⟨w.heap.size, 0, none⟩) 1 1) (bcells [x]) := by
  subst hz
  exact Rd_new _ _ _ _ (bcells [x]) _ _ rfl rfl
theorem grow_own {w wr w3 : World} {o : Obj} {v v' : Value} {n m : Nat} {xs ys : List Value} (hB : Below w.heap.size w wr) (hR : wr.ownsRow w.heap.size 5 1 v n xs) (h1 : w3.ownsRow 0 5 1 v' m ys) (h2 : (wr.alloc o).grownBy w3 v.ownBlock)
    (h3 : v'.ownBlock = v.ownBlock ∨ ∃ g, v'.ownBlock = some g ∧ (wr.alloc o).heap.size ≤ g) : w3.ownsRow w.heap.size 5 1 v' m ys ∧ Below w.heap.size w w3 := by
  have hs := hB.size
  refine ⟨ownsRow_from h1 (fun g hg => ?_), ?_⟩
  · rcases h3 with h3 | ⟨g', h3, hg'⟩
    · exact row_from hR (h3 ▸ hg)
    · rw [h3] at hg; cases hg; simp at hg'; omega
  · have hU : Upd (fun k => w.heap.size ≤ k) wr w3 := ((Upd.refl _ wr).alloc o).grown h2 (fun k hk => Or.inl (row_from hR hk))
    exact hB.trans (hU.below (fun k hk => hk) hs)
set_option maxRecDepth 100000 in
set_option maxHeartbeats 4000000 in
theorem bSeal_any (w : World) (v : Value) (l : List UInt8) (hv : Rd w v (bcells l)) (hl : l.length ≤ 1099511627776) :
    Calls Tryz.prog 62 #[v] w fun e w' => ∃ a c, e = .returned (.slice a (l ++ sumL l).length c) ∧ w'.ownsRow w.heap.size 5 1 (.slice a (l ++ sumL l).length c) (l ++ sumL l).length (bcells (l ++ sumL l)) ∧ Below w.heap.size w w' := by
  obtain ⟨a, c, rfl⟩ := hv.shape
  rw [bcells_length] at hv ⊢
  obtain ⟨r, hr⟩ : ∃ r, l ++ sumL l = r := ⟨_, rfl⟩
  rw [hr]
  have hmk := make_u8 l.length (l.length + 4) (by omega) (by omega)
  rw [show (((l.length + 4 : Nat) : Nat) : Int) = (l.length : Int) + 4 from rfl] at hmk
  have Hr := Lib.hid hr
  have Hv := Lib.hid hv
  clear hv hr
  obtain ⟨cs, hcs⟩ : ∃ cs, bcells l = cs := ⟨_, rfl⟩
  have hcl : cs.length = l.length := by rw [← hcs, bcells_length]
  have hv2 := Hv.out
  rw [hcs] at hv2
  have hc1 : ∀ u ∈ cs, u.oneCell' = true := by rw [← hcs]; exact bcells_one l
  have hn : cs.length = Nat.min l.length l.length := by rw [hcl]; simp
  have hfit : 0 + cs.length ≤ (List.replicate (l.length + 4) (Value.int .u8 0)).length := by rw [hcl]; simp
  have hpos : 0 < cs.length → (some (⟨w.heap.size, 0, none⟩ : Addr) = some ⟨w.heap.size, 0, none⟩) ∧ ∃ ad, a = some ad ∧ ∀ j u, cs[j]? = some u → (w.alloc (.cells (Array.replicate (l.length + 4) (Value.int .u8 0)) 5)).cell? (ad.add j) = some u := by
    intro h0
    rcases hv2 with ⟨_, h⟩ | ⟨b, o, n', c', he, _, hc⟩
    · rw [h] at h0; simp at h0
    · cases he
      refine ⟨rfl, ⟨b, o, none⟩, rfl, fun j u hj => ?_⟩
      rw [Addr.add_lit]
      exact (((Below.refl _ _).alloc (Nat.le_refl w.heap.size) _).cell (p := ⟨b, o + j, none⟩) (cell_lt (hc j u hj))).trans (hc j u hj)
  have hblk : (w.alloc (.cells (Array.replicate (l.length + 4) (Value.int .u8 0)) 5)).heap[w.heap.size]? = some (.cells (List.replicate (l.length + 4) (Value.int .u8 0)).toArray 5 (0, 0)) := by
    rw [alloc_at]; congr 2
  have Hcs := Lib.hid hcs
  have Hcl := Lib.hid hcl
  have H1 := Lib.hid hc1
  have Hn := Lib.hid hn
  have Hfit := Lib.hid hfit
  have Hpos := Lib.hid hpos
  have Hblk := Lib.hid hblk
  clear hcs hcl hv2 hc1 hn hfit hpos hblk
  go_enter Tryz.func62, Tryz.ntmps62
  go_wp2_with first
    | (with_reducible refine wpList_copy_splice rfl (.tmp 12) (.tmp 13) 33 33 rfl 5 Tryz.underlying33 (by kernel_rfl) (some ⟨w.heap.size, 0, none⟩) a l.length (l.length + 4) l.length c rfl rfl w.heap.size 0 (List.replicate (l.length + 4) (Value.int .u8 0)) 5 Hblk.out cs Hn.out Hpos.out Hfit.out H1.out w.heap.size w ((Below.refl _ _).alloc (Nat.le_refl _) _) (Nat.le_refl _) ?_; intro w1 HG1 hB1)
    | (go_at_call 81; refine (bCrc_any w1 _ l (Hv.out.below hB1) (by omega)).mono ?_; rintro e w2 ⟨rfl, hB2⟩)
  have hrow : w2.ownsRow w.heap.size 5 1 (.slice (some ⟨w.heap.size, 0, none⟩) l.length (l.length + 4)) l.length (bcells l) := by
    refine ⟨by rw [bcells_length, Nat.mul_one], .inr ⟨w.heap.size, l.length + 4, _, rfl, Nat.le_refl _, (hB2.block w.heap.size (blk_lt HG1.out)).trans HG1.out, by omega, by simp only [maxLen]; omega, ?_, ?_⟩⟩
    · simp only [List.size_toArray]
      rw [length_splice _ _ _ Hfit.out]
      simp
    · simp only [splice, List.take_zero, List.nil_append]
      rw [Nat.mul_one, ← Hcl.out, List.take_left, ← Hcs.out]
  have hBw : Below w.heap.size w w2 := hB1.trans (hB2.mono hB1.size)
  have hs := crcF_lt l (c := 4294967295) (by omega)
  have hs2 : crcN l < 4294967296 := by unfold crcN; omega
  have Hrow := Lib.hid hrow
  clear hrow hs HG1 hB1 hB2
  obtain ⟨s, hsd⟩ : ∃ s, crcN l = s := ⟨_, rfl⟩
  have hsum : sumL l = [UInt8.ofNat (s / 16777216), UInt8.ofNat (s / 65536), UInt8.ofNat (s / 256), UInt8.ofNat s] := by rw [← hsd]; rfl
  rw [hsd] at hs2 ⊢
  have Hsum := Lib.hid hsum
  clear hsd hsum
  go_loopw [3, 5] (fun o k wr => ∃ (j : Nat) (kk : Int) (y : List UInt8) (a' : Option Addr) (c' : Nat), j ≤ 4 ∧ kk = 24 - 8 * (j : Int) ∧ k = .int .i64 kk ∧ y = l ++ (sumL l).take j ∧ o = .slice a' y.length c' ∧ wr.ownsRow w.heap.size 5 1 (.slice a' y.length c') y.length (bcells y) ∧ Below w.heap.size w wr) (fun _ k _ => (intOf k + 8).toNat)
  case atStart => exact ⟨0, 24, l, _, _, by omega, rfl, rfl, by simp, rfl, Hrow.out, hBw⟩
  case round =>
    obtain ⟨j, kk, y, a', c', hj, hkk, rfl, hy, rfl, hR, hB⟩ := hrel
    have hyl : y.length ≤ 1099511627780 := by rw [hy]; simp; omega
    have HR := Lib.hid hR
    have Hy := Lib.hid hy
    clear hR hBw hy
    have hj5 : j = 0 ∨ j = 1 ∨ j = 2 ∨ j = 3 ∨ j = 4 := by omega
    rcases hj5 with rfl | rfl | rfl | rfl | rfl
    · obtain rfl : kk = 24 := by omega
      clear hkk
      go_wp2_with (at_builtin; refine append_u8 rfl (.tmp 21) (.tmp 26) rfl (.slice a' y.length c') (.slice (some ⟨wr.heap.size, 0, none⟩) 1 1) y [UInt8.ofNat (s / 16777216)] (y ++ [UInt8.ofNat (s / 16777216)]) rfl rfl (((Upd.refl noFp wr).alloc _).row (ownsRow_base0 HR.out) (fun _ _ h => h)) rfl (rd_byte wr _ _ (by simp <;> omega) _) (by simp; omega) ?_; intro v' w3 h1 h2 h3 _; obtain ⟨a2, c2, rfl, _, _, _⟩ := row_slice h1; have HG := Lib.hid (grow_own hB HR.out h1 h2 h3); clear h1 h2 h3)
      go_roundw
      case rel => exact ⟨1, 16, _, a2, c2, by omega, rfl, rfl, by rw [Hy.out, Hsum.out]; simp, by simp, HG.out.1, HG.out.2⟩
      case measure => simp [intOf]
    · obtain rfl : kk = 16 := by omega
      clear hkk
      go_wp2_with (at_builtin; refine append_u8 rfl (.tmp 21) (.tmp 26) rfl (.slice a' y.length c') (.slice (some ⟨wr.heap.size, 0, none⟩) 1 1) y [UInt8.ofNat (s / 65536)] (y ++ [UInt8.ofNat (s / 65536)]) rfl rfl (((Upd.refl noFp wr).alloc _).row (ownsRow_base0 HR.out) (fun _ _ h => h)) rfl (rd_byte wr _ _ (by simp <;> omega) _) (by simp; omega) ?_; intro v' w3 h1 h2 h3 _; obtain ⟨a2, c2, rfl, _, _, _⟩ := row_slice h1; have HG := Lib.hid (grow_own hB HR.out h1 h2 h3); clear h1 h2 h3)
      go_roundw
      case rel => exact ⟨2, 8, _, a2, c2, by omega, rfl, rfl, by rw [Hy.out, Hsum.out]; simp, by simp, HG.out.1, HG.out.2⟩
      case measure => simp [intOf]
    · obtain rfl : kk = 8 := by omega
      clear hkk
      go_wp2_with (at_builtin; refine append_u8 rfl (.tmp 21) (.tmp 26) rfl (.slice a' y.length c') (.slice (some ⟨wr.heap.size, 0, none⟩) 1 1) y [UInt8.ofNat (s / 256)] (y ++ [UInt8.ofNat (s / 256)]) rfl rfl (((Upd.refl noFp wr).alloc _).row (ownsRow_base0 HR.out) (fun _ _ h => h)) rfl (rd_byte wr _ _ (by simp <;> omega) _) (by simp; omega) ?_; intro v' w3 h1 h2 h3 _; obtain ⟨a2, c2, rfl, _, _, _⟩ := row_slice h1; have HG := Lib.hid (grow_own hB HR.out h1 h2 h3); clear h1 h2 h3)
      go_roundw
      case rel => exact ⟨3, 0, _, a2, c2, by omega, rfl, rfl, by rw [Hy.out, Hsum.out]; simp, by simp, HG.out.1, HG.out.2⟩
      case measure => simp [intOf]
    · obtain rfl : kk = 0 := by omega
      clear hkk
      go_wp2_with (at_builtin; refine append_u8 rfl (.tmp 21) (.tmp 26) rfl (.slice a' y.length c') (.slice (some ⟨wr.heap.size, 0, none⟩) 1 1) y [UInt8.ofNat s] (y ++ [UInt8.ofNat s]) rfl rfl (((Upd.refl noFp wr).alloc _).row (ownsRow_base0 HR.out) (fun _ _ h => h)) rfl (rd_byte wr _ _ (by simp <;> omega) _) (by simp; omega) ?_; intro v' w3 h1 h2 h3 _; obtain ⟨a2, c2, rfl, _, _, _⟩ := row_slice h1; have HG := Lib.hid (grow_own hB HR.out h1 h2 h3); clear h1 h2 h3)
      go_roundw
      case rel => exact ⟨4, -8, _, a2, c2, by omega, rfl, rfl, by rw [Hy.out, Hsum.out]; simp, by simp, HG.out.1, HG.out.2⟩
      case measure => simp [intOf]
    · obtain rfl : kk = -8 := by omega
      have hyr : y = r := by rw [Hy.out, ← Hr.out, Hsum.out]; rfl
      subst hyr
      clear hkk
      go_wp2
      go_ret
      exact ⟨a', c', rfl, HR.out, hB⟩
end Go.Proofs.YtkacgmbinkoojaaGreatDoor

/-
  Package bytes: Unseal.
-/
namespace Go.Proofs.YtkacgmbinkoojaaGreatDoor
open Go.RowKit Go.Maps Go.MapKept

def UnPost (l : List UInt8) (w : World) (e : Ending) (w' : World) : Prop :=
  ∃ a c, e = .returned (.tuple #[.slice a (unsealL sumL l).2.length c, .int .i64 (unsealL sumL l).1]) ∧
    w'.ownsRow w.heap.size 5 1 (.slice a (unsealL sumL l).2.length c) (unsealL sumL l).2.length (bcells (unsealL sumL l).2) ∧ Below w.heap.size w w'
theorem UnPost.bad {l : List UInt8} {w w' : World} {er : Int} (h : unsealL sumL l = (er, [])) (hB : Below w.heap.size w w') : UnPost l w (.returned (.tuple #[.slice none 0 0, .int .i64 er])) w' := by
  refine ⟨none, 0, ?_, ?_, hB⟩
  · rw [h]; rfl
  · rw [h]; exact World.ownsRow_nil _ _ _ _

set_option maxRecDepth 100000 in
set_option maxHeartbeats 4000000 in
theorem bUnseal_any (w : World) (v : Value) (l : List UInt8) (hv : Rd w v (bcells l)) (hcap : CapOk v) (hl : l.length ≤ 1099511627776) :
    Calls Tryz.prog 70 #[v] w (UnPost l w) := by
  obtain ⟨a, c, rfl⟩ := hv.shape
  obtain ⟨_, _, _, he, hnc, hcm⟩ := hcap
  cases he
  rw [bcells_length] at hv hnc ⊢
  simp only [maxLen] at hcm
  by_cases h4 : l.length < 4
  · have hun : unsealL sumL l = (11, []) := by unfold unsealL; rw [if_pos h4]
    have h4' : (l.length : Int) - 4 < 0 := by omega
    have Hun := Lib.hid hun
    clear hun hv
    go_enter Tryz.func70, Tryz.ntmps70
    go_wp2
    go_ret2
    exact UnPost.bad Hun.out (Below.refl _ _)
  · obtain ⟨k, hk⟩ : ∃ k : Nat, (l.length : Int) - 4 = k := ⟨l.length - 4, by omega⟩
    have hkl : l.length - 4 = k := by omega
    obtain ⟨b, hb⟩ : ∃ b, l.take k = b := ⟨_, rfl⟩
    have hbl : b.length = k := by rw [← hb]; simp; omega
    have hsub := rd_prefix hv k (by omega)
    rw [← bcells_take, hb] at hsub
    have hun : unsealL sumL l = if b ++ sumL b = l then (0, b) else (12, []) := by
      unfold unsealL sealL; rw [if_neg h4, hkl, hb]
    have hkc : (k : Int) ≤ c := by omega
    have hb1 : b.length ≤ 1099511627776 := by omega
    have hS := bSeal_any w _ b hsub hb1
    obtain ⟨r, hr⟩ : ∃ r, b ++ sumL b = r := ⟨_, rfl⟩
    rw [hr] at hS hun
    have hrl : r.length ≤ 140737488355328 := by rw [← hr, List.length_append, sumL_len]; omega
    have HS := Lib.hid hS
    have Hv := Lib.hid hv
    have Hsub := Lib.hid hsub
    have Hbl := Lib.hid hbl
    clear hv hsub hkl hb hbl hr hS
    by_cases hs : r = l
    · have hd : decide (r = l) = true := by simpa using hs
      rw [if_pos hs] at hun
      have Hun := Lib.hid hun
      have Hd := Lib.hid hd
      clear hun hs hd
      go_enter Tryz.func70, Tryz.ntmps70
      go_wp2_with first
        | (go_at_call 62; refine HS.out.mono ?_; rintro e w1 ⟨a1, c1, rfl, hR1, hB1⟩; have HR1 := Lib.hid hR1; clear hR1)
        | (go_at_call 87; refine (slEqual_any w1 _ _ r l (Rd.ofOwns HR1.out) (Hv.out.below hB1) hrl).mono ?_; rw [Hd.out]; rintro e w2 ⟨rfl, hB2⟩)
        | (go_at_call 88; refine (slClone_any w2 _ b ((Hsub.out.below hB1).below hB2) (by rw [Hbl.out]; omega)).mono ?_; rw [Hbl.out]; rintro e w3 ⟨a3, c3, rfl, hR3, hB3⟩; have HR3 := Lib.hid hR3; clear hR3)
      go_ret2
      exact ⟨a3, c3, by rw [Hun.out]; simp only [Hbl.out]; rfl, by rw [Hun.out]; simp only [Hbl.out]; exact ownsRow_from HR3.out (fun g hg => Nat.le_trans (Nat.le_trans hB1.size hB2.size) (row_from HR3.out hg)), (hB1.trans (hB2.mono hB1.size)).trans (hB3.mono (Nat.le_trans hB1.size hB2.size))⟩
    · have hd : decide (r = l) = false := by simpa using hs
      rw [if_neg hs] at hun
      have Hun := Lib.hid hun
      have Hd := Lib.hid hd
      clear hun hs hd
      go_enter Tryz.func70, Tryz.ntmps70
      go_wp2_with first
        | (go_at_call 62; refine HS.out.mono ?_; rintro e w1 ⟨a1, c1, rfl, hR1, hB1⟩; have HR1 := Lib.hid hR1; clear hR1)
        | (go_at_call 87; refine (slEqual_any w1 _ _ r l (Rd.ofOwns HR1.out) (Hv.out.below hB1) hrl).mono ?_; rw [Hd.out]; rintro e w2 ⟨rfl, hB2⟩)
      go_ret2
      exact UnPost.bad Hun.out (hB1.trans (hB2.mono hB1.size))
end Go.Proofs.YtkacgmbinkoojaaGreatDoor

/-
  Bytes that grew are one's own.
-/
namespace Go.Proofs.YtkacgmbinkoojaaGreatDoor
open Go.RowKit Go.Maps Go.MapKept

theorem Grew.own {w wr w3 : World} {v v' : Value} {n : Nat} {xs : List Value} {l : List UInt8} (hB : Below w.heap.size w wr) (hR : wr.ownsRow w.heap.size 5 1 v n xs) (hG : Grew wr v l v' w3) : w3.ownsRow w.heap.size 5 1 v' l.length (bcells l) ∧ Below w.heap.size w w3 := by
  have hs := hB.size
  refine ⟨ownsRow_from hG.row (fun g hg => ?_), ?_⟩
  · rcases hG.blk with h3 | ⟨g', h3, hg'⟩
    · exact row_from hR (h3 ▸ hg)
    · rw [h3] at hg; cases hg; omega
  · have hU : Upd (fun k => w.heap.size ≤ k) wr w3 := hG.upd.mono (fun k hk => Or.inl (row_from hR hk))
    exact hB.trans (hU.below (fun k hk => hk) hs)
theorem Grew.own0 {w wr w3 : World} {v v' : Value} {l : List UInt8} (hB : Below w.heap.size w wr) (hv : ∀ g, v.ownBlock = some g → w.heap.size ≤ g) (hG : Grew wr v l v' w3) : w3.ownsRow w.heap.size 5 1 v' l.length (bcells l) ∧ Below w.heap.size w w3 := by
  have hs := hB.size
  refine ⟨ownsRow_from hG.row (fun g hg => ?_), ?_⟩
  · rcases hG.blk with h3 | ⟨g', h3, hg'⟩
    · exact hv g (h3 ▸ hg)
    · rw [h3] at hg; cases hg; omega
  · have hU : Upd (fun k => w.heap.size ≤ k) wr w3 := hG.upd.mono (fun k hk => Or.inl (hv k hk))
    exact hB.trans (hU.below (fun k hk => hk) hs)
end Go.Proofs.YtkacgmbinkoojaaGreatDoor
