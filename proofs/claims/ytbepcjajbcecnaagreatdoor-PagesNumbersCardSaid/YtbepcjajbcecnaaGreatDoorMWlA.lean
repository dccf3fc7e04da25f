/-
  A journal's bytes as plain data: heads, records, what is read of bytes. No program here. S is the sum of bytes: four bytes.
-/
import Derived.Test.YtbepcjajbcecnaaGreatDoorMByA
import Derived.Lib.ItoaNum
import Derived.Lib.ItoaMem
import Derived.Lib.AtoiTie
import Derived.Lib.AtoiAll
import Derived.Test.YtbepcjajbcecnaaGreatDoorMDkB
namespace Go.Proofs.YtbepcjajbcecnaaGreatDoor

section
variable (S : List UInt8 → List UInt8)
def wHead (n : Nat) : List UInt8 := sealL S ([72, 83, 87, 49] ++ vint n)
def wBody (n : Nat) (b : List UInt8) : List UInt8 := vint n ++ b
def wFrame (n : Nat) (b : List UInt8) : List UInt8 := vint (wBody n b).length ++ sealL S (wBody n b)
/-- the record at the beginning of bytes: its number, its bytes, how many bytes it takes. -/
def wRec (l : List UInt8) : Option (Nat × List UInt8 × Nat) :=
  match gU l with
  | (0, m, k) => if l.length - k < m then none else if l.length - k - m < 4 then none else
    match unsealL S ((l.drop k).take (m + 4)) with
    | (0, body) => match gU body with
      | (0, n, j) => if 9007199254740992 < n then none else if 1048576 < body.length - j then none else some (n, body.drop j, k + m + 4)
      | _ => none
    | _ => none
  | _ => none
theorem wRec_len {l b : List UInt8} {n t : Nat} (h : wRec S l = some (n, b, t)) : 4 ≤ t ∧ t ≤ l.length ∧ n ≤ 9007199254740992 ∧ b.length ≤ 1048576 := by
  unfold wRec at h
  split at h
  · rename_i m k hg
    split at h
    · cases h
    · split at h
      · cases h
      · split at h
        · split at h
          · split at h
            · cases h
            · split at h
              · cases h
              · simp only [Option.some.injEq, Prod.mk.injEq] at h
                obtain ⟨rfl, rfl, rfl⟩ := h
                have := (gU_ok hg).2.2.1
                refine ⟨by omega, by omega, by omega, ?_⟩
                rw [List.length_drop]; omega
          · cases h
        · cases h
  · cases h
/-- the records from a number on: their bytes, and how many bytes they take in all. -/
def wRecs (l : List UInt8) (n : Nat) : List (List UInt8) × Nat :=
  match _h : wRec S l with
  | some (k, b, t) => if k = n then (b :: (wRecs (l.drop t) (n + 1)).1, t + (wRecs (l.drop t) (n + 1)).2) else ([], 0)
  | none => ([], 0)
termination_by l.length
decreasing_by all_goals (have := wRec_len S _h; simp; omega)
theorem wRecs_none {l : List UInt8} {n : Nat} (h : wRec S l = none) : wRecs S l n = ([], 0) := by
  rw [wRecs]
  split
  · rename_i h2; rw [h] at h2; cases h2
  · rfl
theorem wRecs_some {l b : List UInt8} {n t : Nat} (h : wRec S l = some (n, b, t)) : wRecs S l n = (b :: (wRecs S (l.drop t) (n + 1)).1, t + (wRecs S (l.drop t) (n + 1)).2) := by
  rw [wRecs]
  split
  · rename_i k' b' t' h2
    rw [h] at h2
    cases h2
    rw [if_pos rfl]
  · rename_i h2; rw [h] at h2; cases h2
variable {S} (hS : ∀ b, (S b).length = 4)
include hS
theorem wFrame_len (n : Nat) (b : List UInt8) : (wFrame S n b).length = (vint (wBody n b).length).length + ((wBody n b).length + 4) := by
  unfold wFrame sealL
  simp only [List.length_append, hS]
theorem wRec_frame (n : Nat) (b r : List UInt8) (hn : n ≤ 9007199254740992) (hb : b.length ≤ 1048576) : wRec S (wFrame S n b ++ r) = some (n, b, (wFrame S n b).length) := by
  have hv := vint_len (n := n) (k := 10) (by omega) (Nat.lt_of_le_of_lt hn (by decide))
  have hbl : (wBody n b).length = (vint n).length + b.length := by simp [wBody]
  have hm : (wBody n b).length < 18446744073709551616 := by omega
  have hfl := wFrame_len hS n b
  have hgu := gU_vint (wBody n b).length (sealL S (wBody n b) ++ r) hm
  have hgn := gU_vint n b (by omega)
  have hsl : (sealL S (wBody n b)).length = (wBody n b).length + 4 := by unfold sealL; rw [List.length_append, hS]
  have he : wFrame S n b ++ r = vint (wBody n b).length ++ (sealL S (wBody n b) ++ r) := by unfold wFrame; rw [List.append_assoc]
  have hun := unseal_seal hS (wBody n b)
  unfold wRec
  rw [he, hgu]
  simp only
  rw [List.drop_left, List.length_append, List.length_append, hsl, if_neg (by omega), if_neg (by omega)]
  rw [show (sealL S (wBody n b) ++ r).take ((wBody n b).length + 4) = sealL S (wBody n b) by rw [← hsl, List.take_left], hun]
  simp only
  rw [show wBody n b = vint n ++ b from rfl, hgn]
  simp only
  rw [if_neg (by omega), List.length_append, Nat.add_sub_cancel_left, if_neg (by omega), List.drop_left]
  congr 3
  rw [hfl, show wBody n b = vint n ++ b from rfl, List.length_append]
  omega
omit hS in
theorem gU_cut (m t : Nat) (hm : m < 18446744073709551616) (h : t < (vint m).length) : gU ((vint m).take t) = (11, 0, 0) := by
  obtain ⟨ys, y, h1, h2, h3, h4⟩ := vint_last m
  have hl10 := vint_len (n := m) (k := 10) (by omega) (Nat.lt_trans hm (by decide))
  rw [h1] at h hl10 ⊢
  rw [List.length_append] at h hl10
  simp only [List.length_cons, List.length_nil] at h hl10
  rw [List.take_append_of_le_length (by omega)]
  have hall : ∀ x ∈ (ys.take t).take 10, 128 ≤ x.toNat := fun x hx => h2 x (List.mem_of_mem_take (List.mem_of_mem_take hx))
  have hf : ((ys.take t).take 10).findIdx? (fun x => decide (x.toNat < 128)) = none := by
    rw [List.findIdx?_eq_none_iff]
    intro x hx
    have := hall x hx
    simp; omega
  unfold gU
  rw [hf]
  simp only
  rw [if_pos (by rw [List.length_take]; omega)]
/-- bytes that lack some of a record's are none. -/
theorem wRec_torn (n : Nat) (b : List UInt8) (hn : n ≤ 9007199254740992) (hb : b.length ≤ 1048576) (t : Nat) (ht : t < (wFrame S n b).length) : wRec S ((wFrame S n b).take t) = none := by
  have hv := vint_len (n := n) (k := 10) (by omega) (Nat.lt_of_le_of_lt hn (by decide))
  have hbl : (wBody n b).length = (vint n).length + b.length := by simp [wBody]
  have hm : (wBody n b).length < 18446744073709551616 := by omega
  rw [wFrame_len hS] at ht
  by_cases hk : t < (vint (wBody n b).length).length
  · have he : (wFrame S n b).take t = (vint (wBody n b).length).take t := by unfold wFrame; rw [List.take_append_of_le_length (by omega)]
    unfold wRec
    rw [he, gU_cut _ t hm hk]
    rfl
  · have he : (wFrame S n b).take t = vint (wBody n b).length ++ (sealL S (wBody n b)).take (t - (vint (wBody n b).length).length) := by
      unfold wFrame
      rw [List.take_append, List.take_of_length_le (by omega)]
    have hgu := gU_vint (wBody n b).length ((sealL S (wBody n b)).take (t - (vint (wBody n b).length).length)) hm
    have hsl : (sealL S (wBody n b)).length = (wBody n b).length + 4 := by unfold sealL; rw [List.length_append, hS]
    unfold wRec
    rw [he, hgu]
    simp only
    rw [List.length_append, List.length_take, hsl, Nat.add_sub_cancel_left]
    by_cases h1 : min (t - (vint (wBody n b).length).length) ((wBody n b).length + 4) < (wBody n b).length
    · rw [if_pos h1]
    · rw [if_neg h1]
      exact if_pos (by omega)
end
/-- records one behind the other. -/
def wFrames (S : List UInt8 → List UInt8) : Nat → List (List UInt8) → List UInt8
  | _, [] => []
  | n, b :: R => wFrame S n b ++ wFrames S (n + 1) R
theorem wFrames_app (S : List UInt8 → List UInt8) (n : Nat) (R Q : List (List UInt8)) : wFrames S n (R ++ Q) = wFrames S n R ++ wFrames S (n + R.length) Q := by
  induction R generalizing n with
  | nil => simp [wFrames]
  | cons b R ih => simp only [List.cons_append, wFrames, ih, List.length_cons, List.append_assoc, show n + 1 + R.length = n + (R.length + 1) by omega]
theorem wRec_nil (S : List UInt8 → List UInt8) : wRec S [] = none := rfl
theorem wRecs_frames {S : List UInt8 → List UInt8} (hS : ∀ b, (S b).length = 4) (n : Nat) (R : List (List UInt8)) (hn : n + R.length ≤ 9007199254740993) (hR : ∀ b ∈ R, b.length ≤ 1048576) (r : List UInt8) :
    wRecs S (wFrames S n R ++ r) n = (R ++ (wRecs S r (n + R.length)).1, (wFrames S n R).length + (wRecs S r (n + R.length)).2) := by
  induction R generalizing n with
  | nil => simp [wFrames]
  | cons b R ih =>
    have h1 := wRec_frame hS n b (wFrames S (n + 1) R ++ r) (by simp only [List.length_cons] at hn; omega) (hR b (by simp))
    rw [wFrames, List.append_assoc, wRecs_some S h1, List.drop_left, ih (n + 1) (by simp only [List.length_cons] at hn; omega) (fun b hb => hR b (List.mem_cons_of_mem _ hb))]
    simp only [List.cons_append, List.length_cons, List.length_append, show n + 1 + R.length = n + (R.length + 1) by omega]
    congr 1
    omega
end Go.Proofs.YtbepcjajbcecnaaGreatDoor

/-
  A journal's names: 'w' and a number. No program here.
-/
namespace Go.Proofs.YtbepcjajbcecnaaGreatDoor
open Go.Lib

theorem decFrom_app (l r : List UInt8) (acc : Nat) : decFrom acc (l ++ r) = (decFrom acc l).bind fun m => decFrom m r := by
  induction l generalizing acc with
  | nil => rfl
  | cons b l ih =>
    simp only [List.cons_append, decFrom]
    cases digitVal b with
    | none => rfl
    | some d => exact ih _
theorem digit_ofNat {k : Nat} (h : k < 10) : digitVal (UInt8.ofNat (48 + k)) = some k := by
  unfold digitVal
  have : (UInt8.ofNat (48 + k)).toNat = 48 + k := by simp; omega
  rw [this, if_pos (by omega)]
  congr 1; omega
theorem dec_val (n : Nat) : decFrom 0 (decDigits n) = some n := by
  induction n using Nat.strongRecOn with
  | _ n ih =>
    by_cases h : n < 10
    · rw [decDigits_one h]
      simp only [decFrom, digit_ofNat h]
      congr 1; omega
    · rw [decDigits, dif_neg h, decFrom_app, ih (n / 10) (by omega)]
      simp only [Option.bind_some, decFrom, digit_ofNat (show n % 10 < 10 by omega)]
      congr 1; omega
theorem dec_ne (n : Nat) : decDigits n ≠ [] := by
  rw [decDigits]
  split <;> simp
theorem dec_inj {m n : Nat} (h : decDigits m = decDigits n) : m = n := by
  have := dec_val m
  rw [h, dec_val] at this
  exact (Option.some.inj this).symm
theorem nDig_le (n k : Nat) (hk : 0 < k) (h : n < 10 ^ k) : nDigits n ≤ k := by
  induction k generalizing n with
  | zero => omega
  | succ k ih =>
    by_cases h10 : n < 10
    · rw [nDigits_small h10]; omega
    · rw [nDigits, dif_neg h10]
      have hk0 : 0 < k := by
        rcases Nat.eq_zero_or_pos k with e | e
        · subst e; simp at h; omega
        · exact e
      have := ih (n / 10) hk0 (by rw [Nat.pow_succ] at h; omega)
      omega
theorem dec_len {n : Nat} (h : n ≤ 9007199254740992) : (decDigits n).length ≤ 16 := by
  rw [decDigits_length]
  exact nDig_le n 16 (by omega) (Nat.lt_of_le_of_lt h (by decide))
/-- every byte of a numeral is a digit. -/
theorem dec_digit {n : Nat} {b : UInt8} (h : b ∈ decDigits n) : 48 ≤ b.toNat ∧ b.toNat ≤ 57 := by
  obtain ⟨k, hk, rfl⟩ := List.getElem_of_mem h
  obtain ⟨d, hd⟩ := digit_of_decFrom (decDigits n) 0 n (dec_val n) k _ (List.getElem?_eq_getElem hk)
  have := digitVal_eq hd
  omega
theorem atoi_dec (n : Nat) : atoi (decDigits n) = some (n : Int) := by
  have hv := dec_val n
  have hne := dec_ne n
  cases hl : decDigits n with
  | nil => exact absurd hl hne
  | cons b r =>
    have hb := dec_digit (n := n) (b := b) (by rw [hl]; simp)
    unfold atoi
    have h45 : (b == 45) = false := by
      rw [beq_eq_false_iff_ne]; rintro rfl; simp at hb
    have h43 : (b == 43) = false := by
      rw [beq_eq_false_iff_ne]; rintro rfl; simp at hb
    simp only [h45, h43]
    rw [hl] at hv
    unfold decNat
    simp [hv]
theorem atoiAll_dec {n : Nat} (h : n ≤ 9007199254740992) : atoiAll (decDigits n) = .ok (n : Int) := by
  rw [atoiAll_short _ (by have := dec_len h; omega), atoi_dec]
  rfl

/-- a segment's file. -/
def wName (n : Nat) : ByteArray := ⟨(119 :: decDigits n).toArray⟩
/-- what is behind a 'w' ahead. -/
def trimW (s : ByteArray) : List UInt8 := if s.data.toList.take 1 = [119] then s.data.toList.drop 1 else s.data.toList
theorem trim_name (n : Nat) : trimW (wName n) = decDigits n := by
  unfold trimW wName
  simp
/-- a file's number. -/
def wNum (s : ByteArray) : Option Nat :=
  match atoiAll (trimW s) with
  | .ok v => if 1 ≤ v ∧ v ≤ 9007199254740992 ∧ s = wName v.toNat then some v.toNat else none
  | _ => none
theorem wNum_name {n : Nat} (h0 : 1 ≤ n) (h1 : n ≤ 9007199254740992) : wNum (wName n) = some n := by
  unfold wNum
  rw [trim_name, atoiAll_dec h1]
  simp only
  rw [if_pos ⟨by omega, by omega, by simp⟩]
  simp
theorem wNum_some {s : ByteArray} {n : Nat} (h : wNum s = some n) : s = wName n ∧ 1 ≤ n ∧ n ≤ 9007199254740992 := by
  unfold wNum at h
  split at h
  · split at h
    · rename_i v _ hc
      obtain ⟨h1, h2, h3⟩ := hc
      cases h
      exact ⟨h3, by omega, by omega⟩
    · cases h
  · cases h
end Go.Proofs.YtbepcjajbcecnaaGreatDoor

/-
  The journal on a plain disk: what each call does. No program here.
-/
namespace Go.Proofs.YtbepcjajbcecnaaGreatDoor

/-- a record: its number, its bytes. -/
structure ARec where
  n : Nat
  b : List UInt8
/-- what a log holds beside its disk. -/
structure ALog where
  size : Nat
  segs : List (Nat × Bool)
  next : Nat
  bytes : Nat
  synced : Nat
  over : Bool
def ALog.lastN (al : ALog) : Nat := (al.segs.getLast?.map (·.1)).getD 0
def ALog.file (al : ALog) : ByteArray := wName al.lastN
def ALog.last (al : ALog) : Nat := al.next - 1
def ALog.first (al : ALog) : Nat := (al.segs.head?.map (·.1)).getD 0
def hd4 (n : Nat) : List UInt8 := wHead sumL n
def fr4 (n : Nat) (b : List UInt8) : List UInt8 := wFrame sumL n b

def ALog.ends (al : ALog) (e : Int) : ALog := { al with over := decide (e ≠ 0) }
/-- what a disk's files tell. -/
structure AFound where
  segs : List (Nat × Bool)
  next : Nat
  bytes : Nat
  good : Nat
  recs : List ARec
  none : Nat
def isHead4 (b : List UInt8) (n : Nat) : Bool := decide (b.take (hd4 n).length = hd4 n)
def recsOf (b : List UInt8) (n : Nat) : List (List UInt8) := (wRecs sumL (b.drop (hd4 n).length) n).1
def goodOf (b : List UInt8) (n : Nat) : Nat := (hd4 n).length + (wRecs sumL (b.drop (hd4 n).length) n).2
def numbered (n : Nat) : List (List UInt8) → List ARec
  | [] => []
  | b :: R => ⟨n, b⟩ :: numbered (n + 1) R
def AFound.add (f : AFound) (b : List UInt8) (n : Nat) : AFound :=
  { f with segs := f.segs ++ [(n, !(recsOf b n).isEmpty)], next := n + (recsOf b n).length, bytes := b.length, good := goodOf b n, recs := f.recs ++ numbered n (recsOf b n) }
def wLook (d : ADisk) (f : AFound) : List Nat → AFound × Int
  | [] => (f, 0)
  | n :: r =>
    if findErr d (wName n) ≠ 0 then (f, findErr d (wName n))
    else
      let b := d.readBytes (wName n)
      if isHead4 b n = false ∧ r = [] then ({ f with none := n }, 0)
      else if isHead4 b n = false ∨ (f.segs ≠ [] ∧ n ≠ f.next) ∨ (r ≠ [] ∧ (recsOf b n = [] ∨ goodOf b n < b.length)) then (f, 14)
      else wLook d (f.add b n) r
def leN (a b : Nat) : Bool := decide (a ≤ b)
/-- a disk's segments, by rising numbers. -/
def segsOf (d : ADisk) : List Nat := (d.names.filterMap wNum).mergeSort leN
def AFound.lastN (f : AFound) : Nat := (f.segs.getLast?.map (·.1)).getD 0
def f0 : AFound := ⟨[], 0, 0, 0, [], 0⟩
end Go.Proofs.YtbepcjajbcecnaaGreatDoor

/-
  The journal's files, plain: how many records the first bytes of a file tell; segments that follow one another. No program here.
-/
namespace Go.Proofs.YtbepcjajbcecnaaGreatDoor

/-- how many records lie whole within the first t bytes. -/
def fitN : Nat → List (List UInt8) → Nat → Nat
  | _, [], _ => 0
  | n, b :: R, t => if (fr4 n b).length ≤ t then 1 + fitN (n + 1) R (t - (fr4 n b).length) else 0
theorem wRecs_take (n : Nat) (R : List (List UInt8)) (t : Nat) (hn : n + R.length ≤ 9007199254740993) (hR : ∀ b ∈ R, b.length ≤ 1048576) :
    wRecs sumL ((wFrames sumL n R).take t) n = (R.take (fitN n R t), (wFrames sumL n (R.take (fitN n R t))).length) := by
  induction R generalizing n t with
  | nil =>
    simp only [wFrames, List.take_nil]
    rw [wRecs_none sumL (wRec_nil sumL)]
    rfl
  | cons b R ih =>
    simp only [List.length_cons] at hn
    have hb := hR b (by simp)
    unfold fitN
    by_cases ht : (fr4 n b).length ≤ t
    · rw [if_pos ht]
      have he : (wFrames sumL n (b :: R)).take t = wFrame sumL n b ++ (wFrames sumL (n + 1) R).take (t - (fr4 n b).length) := by
        rw [wFrames, List.take_append, show (wFrame sumL n b).take t = wFrame sumL n b from List.take_of_length_le ht]; rfl
      rw [he, wRecs_some sumL (wRec_frame sumL_len n b _ (by omega) hb), List.drop_left, ih (n + 1) (t - (fr4 n b).length) (by omega) (fun b hb => hR b (List.mem_cons_of_mem _ hb))]
      rw [Nat.add_comm 1, List.take_succ_cons, wFrames, List.length_append]
    · rw [if_neg ht]
      have he : (wFrames sumL n (b :: R)).take t = (wFrame sumL n b).take t := by
        rw [wFrames, List.take_append_of_le_length (by unfold fr4 at ht; omega)]
      rw [he, wRecs_none sumL (wRec_torn sumL_len n b (by omega) hb t (by unfold fr4 at ht; omega))]
      rfl

abbrev Seg := Nat × List (List UInt8)
/-- what a segment's file holds. -/
def cont (x : Seg) : List UInt8 := hd4 x.1 ++ wFrames sumL x.1 x.2
/-- numbers that may be. -/
structure SegOk (x : Seg) : Prop where
  lo : 1 ≤ x.1
  hi : x.1 ≤ 9007199254740992
  top : x.1 + x.2.length ≤ 9007199254740993
  small : ∀ b ∈ x.2, b.length ≤ 1048576
/-- each segment begins where the one ahead of it ends; none but the last lacks records. -/
def chain : List Seg → Prop
  | [] => True
  | [x] => SegOk x
  | x :: y :: r => SegOk x ∧ x.2 ≠ [] ∧ y.1 = x.1 + x.2.length ∧ chain (y :: r)
theorem chain_ok {ss : List Seg} (h : chain ss) : ∀ x ∈ ss, SegOk x := by
  induction ss with
  | nil => intro x hx; cases hx
  | cons x r ih =>
    cases r with
    | nil => intro y hy; simp at hy; subst hy; exact h
    | cons y r =>
      intro z hz
      rcases List.mem_cons.1 hz with rfl | hz
      · exact h.1
      · exact ih h.2.2.2 z hz
theorem chain_tail {x : Seg} {r : List Seg} (h : chain (x :: r)) : chain r := by
  cases r with
  | nil => trivial
  | cons y r => exact h.2.2.2
/-- the numbers rise. -/
theorem chain_lt {x : Seg} {r : List Seg} (h : chain (x :: r)) : ∀ y ∈ r, x.1 + x.2.length ≤ y.1 ∧ x.1 < y.1 := by
  induction r generalizing x with
  | nil => intro y hy; cases hy
  | cons z r ih =>
    obtain ⟨h1, h2, h3, h4⟩ := h
    have hp : 0 < x.2.length := List.length_pos_iff.2 h2
    intro y hy
    rcases List.mem_cons.1 hy with rfl | hy
    · omega
    · have := ih h4 y hy
      omega
theorem chain_firsts {ss : List Seg} (h : chain ss) : (ss.map (·.1)).Pairwise (· < ·) := by
  induction ss with
  | nil => exact List.Pairwise.nil
  | cons x r ih =>
    rw [List.map_cons, List.pairwise_cons]
    refine ⟨fun n hn => ?_, ih (chain_tail h)⟩
    obtain ⟨y, hy, rfl⟩ := List.mem_map.1 hn
    exact (chain_lt h y hy).2
/-- two rising lists of the same numbers are one. -/
theorem rise_ext {l1 l2 : List Nat} (h1 : l1.Pairwise (· < ·)) (h2 : l2.Pairwise (· < ·)) (h : ∀ s, s ∈ l1 ↔ s ∈ l2) : l1 = l2 := by
  induction l1 generalizing l2 with
  | nil =>
    cases l2 with
    | nil => rfl
    | cons y r => exact absurd ((h y).2 (by simp)) (by simp)
  | cons x r ih =>
    rw [List.pairwise_cons] at h1
    cases l2 with
    | nil => exact absurd ((h x).1 (by simp)) (by simp)
    | cons y q =>
      rw [List.pairwise_cons] at h2
      have hxy : x = y := by
        rcases List.mem_cons.1 ((h x).1 (by simp)) with e | e
        · exact e
        · rcases List.mem_cons.1 ((h y).2 (by simp)) with e' | e'
          · exact e'.symm
          · have a := h1.1 y e'
            have b := h2.1 x e
            omega
      subst hxy
      rw [ih h1.2 h2.2 (fun s => ?_)]
      constructor
      · intro hs
        rcases List.mem_cons.1 ((h s).1 (List.mem_cons_of_mem _ hs)) with e | e
        · subst e; exact absurd (h1.1 s hs) (Nat.lt_irrefl _)
        · exact e
      · intro hs
        rcases List.mem_cons.1 ((h s).2 (List.mem_cons_of_mem _ hs)) with e | e
        · subst e; exact absurd (h2.1 s hs) (Nat.lt_irrefl _)
        · exact e
end Go.Proofs.YtbepcjajbcecnaaGreatDoor

/-
  Segments on a plain disk; what a crash leaves of them; what is found of them. No program here.
-/
namespace Go.Proofs.YtbepcjajbcecnaaGreatDoor

/-- no segment lies on the disk. -/
structure Bare (d : ADisk) : Prop where
  sorted : SortedF d.fs
  only : ∀ n, 1 ≤ n → n ≤ 9007199254740992 → lk d.fs (wName n) = none
/-- how many bytes hold the records up to a number. -/
def need (x : Seg) (sy : Nat) : Nat := if sy < x.1 then 0 else (hd4 x.1 ++ wFrames sumL x.1 (x.2.take (sy + 1 - x.1))).length
/-- segments on a disk: of the last one its first t bytes, all others whole; what is up to sy is firm. -/
structure Lies (d : ADisk) (pre : List Seg) (x : Seg) (t sy : Nat) : Prop where
  sorted : SortedF d.fs
  ch : chain (pre ++ [x])
  full : ∀ y ∈ pre, lk d.fs (wName y.1) = some ⟨cont y, []⟩
  last : ∃ f, lk d.fs (wName x.1) = some f ∧ f.firm ++ f.loose = (cont x).take t ∧ need x sy ≤ f.firm.length
  fits : t ≤ (cont x).length
  only : ∀ n, 1 ≤ n → n ≤ 9007199254740992 → lk d.fs (wName n) ≠ none → n ∈ (pre ++ [x]).map (·.1)

/-- the numbers of a disk's segments. -/
theorem mem_segs {d : ADisk} (hs : SortedF d.fs) (n : Nat) : n ∈ segsOf d ↔ 1 ≤ n ∧ n ≤ 9007199254740992 ∧ lk d.fs (wName n) ≠ none := by
  unfold segsOf
  rw [List.mem_mergeSort, List.mem_filterMap]
  constructor
  · rintro ⟨s, hs1, hs2⟩
    obtain ⟨rfl, h0, h1⟩ := wNum_some hs2
    refine ⟨h0, h1, ?_⟩
    unfold ADisk.names at hs1
    obtain ⟨p, hp, e⟩ := List.mem_map.1 hs1
    obtain ⟨q, f⟩ := p
    simp only at e
    subst e
    rw [mem_lk hs hp]
    simp
  · rintro ⟨h0, h1, h2⟩
    cases hl : lk d.fs (wName n) with
    | none => exact absurd hl h2
    | some f => exact ⟨wName n, List.mem_map.2 ⟨_, lk_some_mem hl, rfl⟩, wNum_name h0 h1⟩
theorem segs_rise {d : ADisk} (hs : SortedF d.fs) : (segsOf d).Pairwise (· < ·) := by
  have h1 : (segsOf d).Pairwise (fun a b => leN a b = true) := by
    unfold segsOf
    exact List.pairwise_mergeSort (fun a b c h1 h2 => by simp only [leN, decide_eq_true_eq] at *; omega) (fun a b => by simp only [leN, Bool.or_eq_true, decide_eq_true_eq]; omega) _
  have h2 : (segsOf d).Nodup := by
    unfold segsOf
    refine (List.mergeSort_perm _ _).nodup_iff.2 ?_
    unfold ADisk.names
    rw [List.Nodup, List.pairwise_filterMap]
    rw [List.pairwise_map]
    refine hs.imp fun {a b} hab n hn m hm e => ?_
    subst e
    rw [(wNum_some hn).1, (wNum_some hm).1] at hab
    simp only [ltS, decide_eq_true_eq] at hab
    exact List.lt_irrefl _ hab
  refine (h1.and h2).imp fun {a b} hab => ?_
  have := hab.1
  simp only [leN, decide_eq_true_eq] at this
  have := hab.2
  omega
theorem Lies.segs {d : ADisk} {pre : List Seg} {x : Seg} {t sy : Nat} (h : Lies d pre x t sy) : segsOf d = (pre ++ [x]).map (·.1) := by
  refine rise_ext (segs_rise h.sorted) (chain_firsts h.ch) (fun n => ?_)
  rw [mem_segs h.sorted]
  constructor
  · rintro ⟨h0, h1, h2⟩
    exact h.only n h0 h1 h2
  · intro hn
    obtain ⟨y, hy, rfl⟩ := List.mem_map.1 hn
    have hok := chain_ok h.ch y hy
    refine ⟨hok.lo, hok.hi, ?_⟩
    rcases List.mem_append.1 hy with hy | hy
    · rw [h.full y hy]; simp
    · simp at hy; subst hy
      obtain ⟨f, hf, _⟩ := h.last
      rw [hf]; simp
theorem Bare.segs {d : ADisk} (h : Bare d) : segsOf d = [] := by
  refine rise_ext (segs_rise h.sorted) List.Pairwise.nil (fun n => ?_)
  rw [mem_segs h.sorted]
  constructor
  · rintro ⟨h0, h1, h2⟩; exact absurd (h.only n h0 h1) h2
  · intro hn; cases hn

/-- a segment, as a log has it. -/
def segV (y : Seg) : Nat × Bool := (y.1, !y.2.isEmpty)
def allRecs (ss : List Seg) : List ARec := ss.flatMap fun y => numbered y.1 y.2
def nextOf (ss : List Seg) : Nat := (ss.getLast?.map fun y => y.1 + y.2.length).getD 0
def lenOf (ss : List Seg) : Nat := (ss.getLast?.map fun y => (cont y).length).getD 0
/-- what is found of whole segments. -/
def fPre (ss : List Seg) : AFound := ⟨ss.map segV, nextOf ss, lenOf ss, lenOf ss, allRecs ss, 0⟩
theorem nextOf_last (pre : List Seg) (x : Seg) : nextOf (pre ++ [x]) = x.1 + x.2.length := by simp [nextOf]
theorem lenOf_last (pre : List Seg) (x : Seg) : lenOf (pre ++ [x]) = (cont x).length := by simp [lenOf]
theorem allRecs_last (pre : List Seg) (x : Seg) : allRecs (pre ++ [x]) = allRecs pre ++ numbered x.1 x.2 := by simp [allRecs]
theorem head_cont (x : Seg) : isHead4 (cont x) x.1 = true := by unfold isHead4 cont; rw [List.take_left]; simp
theorem recs_cont {x : Seg} (h : SegOk x) : recsOf (cont x) x.1 = x.2 ∧ goodOf (cont x) x.1 = (cont x).length := by
  have h1 := wRecs_frames sumL_len x.1 x.2 h.top h.small []
  rw [List.append_nil, wRecs_none sumL (wRec_nil sumL)] at h1
  unfold recsOf goodOf cont
  rw [List.drop_left, h1]
  simp
/-- of the first bytes of a segment. -/
theorem recs_take {x : Seg} (h : SegOk x) (t : Nat) (ht : (hd4 x.1).length ≤ t) :
    isHead4 ((cont x).take t) x.1 = true ∧ recsOf ((cont x).take t) x.1 = x.2.take (fitN x.1 x.2 (t - (hd4 x.1).length)) ∧
      goodOf ((cont x).take t) x.1 = (cont (x.1, x.2.take (fitN x.1 x.2 (t - (hd4 x.1).length)))).length := by
  have he : (cont x).take t = hd4 x.1 ++ (wFrames sumL x.1 x.2).take (t - (hd4 x.1).length) := by
    unfold cont
    rw [List.take_append, List.take_of_length_le ht]
  have h1 := wRecs_take x.1 x.2 (t - (hd4 x.1).length) h.top h.small
  unfold isHead4 recsOf goodOf
  rw [he, List.take_left, List.drop_left, h1]
  refine ⟨by simp, rfl, ?_⟩
  unfold cont
  rw [List.length_append]
theorem head_short {x : Seg} (t : Nat) (ht : t < (hd4 x.1).length) : isHead4 ((cont x).take t) x.1 = false := by
  unfold isHead4
  rw [decide_eq_false_iff_not]
  intro e
  have := congrArg List.length e
  rw [List.length_take, List.length_take] at this
  omega
theorem read_of {d : ADisk} (hd : d.down = false) {s : ByteArray} {f : AFile} (h : lk d.fs s = some f) : findErr d s = 0 ∧ d.readBytes s = f.firm ++ f.loose := by
  have h1 : findErr d s = 0 := by unfold findErr; rw [h, if_neg (by simp [hd])]; rfl
  refine ⟨h1, ?_⟩
  unfold ADisk.readBytes afile
  rw [if_pos h1, h]
  rfl
theorem fPre_add (dn : List Seg) (y : Seg) (hok : SegOk y) : (fPre dn).add (cont y) y.1 = fPre (dn ++ [y]) := by
  obtain ⟨r1, r2⟩ := recs_cont hok
  unfold AFound.add fPre
  simp only [r1, r2, nextOf_last, lenOf_last, allRecs_last, List.map_append, List.map_cons, List.map_nil]
  rfl
theorem chain_next {dn : List Seg} {y : Seg} {r : List Seg} (h : chain (dn ++ y :: r)) (hd : dn ≠ []) : y.1 = nextOf dn := by
  induction dn with
  | nil => exact absurd rfl hd
  | cons x dn ih =>
    cases dn with
    | nil => exact h.2.2.1
    | cons z dn =>
      have := ih h.2.2.2 (by simp)
      rw [this]
      simp [nextOf]
theorem chain_some {dn : List Seg} {y z : Seg} {r : List Seg} (h : chain (dn ++ y :: z :: r)) : y.2 ≠ [] := by
  induction dn with
  | nil => exact h.2.1
  | cons x dn ih =>
    cases dn with
    | nil => exact h.2.2.2.2.1
    | cons u dn => exact ih h.2.2.2
/-- whole segments are found, one behind the other. -/
theorem look_whole {d : ADisk} (hd : d.down = false) (dn ys : List Seg) (x : Seg) (hc : chain (dn ++ ys ++ [x])) (hf : ∀ y ∈ ys, lk d.fs (wName y.1) = some ⟨cont y, []⟩) :
    wLook d (fPre dn) ((ys ++ [x]).map (·.1)) = wLook d (fPre (dn ++ ys)) [x.1] := by
  induction ys generalizing dn with
  | nil => simp
  | cons y ys ih =>
    have hy := hf y (by simp)
    have hok : SegOk y := chain_ok hc y (by simp)
    obtain ⟨e1, e2⟩ := read_of hd hy
    obtain ⟨r1, r2⟩ := recs_cont hok
    have hne : (ys ++ [x]).map (·.1) ≠ [] := by simp
    have hc2 : chain (dn ++ y :: (ys ++ [x])) := by simpa using hc
    have hsome : y.2 ≠ [] := by
      cases ys with
      | nil => exact chain_some hc2
      | cons z ys => exact chain_some (r := ys ++ [x]) (by simpa using hc2)
    have hnx : (fPre dn).segs ≠ [] → y.1 = (fPre dn).next := fun h => chain_next hc2 (fun e => h (by rw [e]; rfl))
    rw [List.cons_append, List.map_cons, wLook, if_neg (by simp [e1]), e2]
    simp only [List.append_nil]
    rw [if_neg (by rintro ⟨h1, _⟩; rw [head_cont] at h1; cases h1), if_neg, fPre_add dn y hok, ih (dn ++ [y]) (by simpa using hc) (fun z hz => hf z (List.mem_cons_of_mem _ hz))]
    · simp
    · rintro (h1 | ⟨h1, h2⟩ | ⟨_, h1 | h1⟩)
      · rw [head_cont] at h1; cases h1
      · exact h2 (hnx h1)
      · rw [r1] at h1; exact hsome h1
      · rw [r2] at h1; exact Nat.lt_irrefl _ h1
/-- what is found where a journal lies. -/
def foundOf (pre : List Seg) (x : Seg) (t : Nat) : AFound :=
  if t < (hd4 x.1).length then { fPre pre with none := x.1 }
  else { fPre (pre ++ [(x.1, x.2.take (fitN x.1 x.2 (t - (hd4 x.1).length)))]) with bytes := t }
theorem Lies.look {d : ADisk} {pre : List Seg} {x : Seg} {t sy : Nat} (h : Lies d pre x t sy) (hd : d.down = false) : wLook d f0 (segsOf d) = (foundOf pre x t, 0) := by
  obtain ⟨f, hf, hc, _⟩ := h.last
  obtain ⟨e1, e2⟩ := read_of hd hf
  rw [hc] at e2
  have hok : SegOk x := chain_ok h.ch x (by simp)
  have hnx : (fPre pre).segs ≠ [] → x.1 = (fPre pre).next := fun h0 => chain_next (r := []) h.ch (fun e => h0 (by rw [e]; rfl))
  rw [h.segs, show f0 = fPre [] from rfl, look_whole hd [] pre x (by simpa using h.ch) h.full, List.nil_append]
  rw [wLook, if_neg (by simp [e1]), e2]
  simp only
  unfold foundOf
  by_cases ht : t < (hd4 x.1).length
  · rw [if_pos ht, if_pos ⟨head_short t ht, trivial⟩]
  · obtain ⟨r0, r1, r2⟩ := recs_take hok t (by omega)
    have hl : ((cont x).take t).length = t := by rw [List.length_take]; have := h.fits; omega
    rw [if_neg ht, if_neg (by rintro ⟨h1, _⟩; rw [r0] at h1; cases h1), if_neg, wLook]
    · congr 1
      unfold AFound.add fPre
      simp only [r1, r2, hl, nextOf_last, lenOf_last, allRecs_last, List.map_append, List.map_cons, List.map_nil]
      rfl
    · rintro (h1 | ⟨h1, h2⟩ | ⟨h1, _⟩)
      · rw [r0] at h1; cases h1
      · exact h2 (hnx h1)
      · exact h1 rfl
theorem Bare.look {d : ADisk} (h : Bare d) : wLook d f0 (segsOf d) = (f0, 0) := by rw [h.segs]; rfl
end Go.Proofs.YtbepcjajbcecnaaGreatDoor

/-
  Open on a plain disk. No program here.
-/
namespace Go.Proofs.YtbepcjajbcecnaaGreatDoor

/-- how much a disk has grown at most. -/
structure Grow (d d' : ADisk) (a k : Nat) : Prop where
  most : d'.most = d.most
  used : usedF d'.fs ≤ usedF d.fs + a
  len : d'.fs.length ≤ d.fs.length + k
theorem Grow.refl (d : ADisk) : Grow d d 0 0 := ⟨rfl, Nat.le_refl _, Nat.le_refl _⟩
theorem Grow.fail (d : ADisk) : Grow d d.fail 0 0 := ⟨rfl, Nat.le_refl _, Nat.le_refl _⟩
theorem Grow.trans {d d1 d2 : ADisk} {a k b j : Nat} (h : Grow d d1 a k) (g : Grow d1 d2 b j) : Grow d d2 (a + b) (k + j) :=
  ⟨g.most.trans h.most, by have := h.used; have := g.used; omega, by have := h.len; have := g.len; omega⟩
theorem Grow.mono {d d' : ADisk} {a k b j : Nat} (h : Grow d d' a k) (ha : a ≤ b) (hk : k ≤ j) : Grow d d' b j :=
  ⟨h.most, by have := h.used; omega, by have := h.len; omega⟩
theorem putF_len (fs : List (ByteArray × AFile)) (s : ByteArray) (f : AFile) : (putF fs s f).length ≤ fs.length + 1 := by
  induction fs with
  | nil => simp [putF]
  | cons q r ih =>
    simp only [putF]
    split
    · simp
    · split
      · simp
      · simp only [List.length_cons]; omega
theorem putF_len0 {fs : List (ByteArray × AFile)} {s : ByteArray} (f : AFile) (h : (lk fs s).isSome = true) (hs : SortedF fs) : (putF fs s f).length ≤ fs.length := by
  induction fs with
  | nil => simp [lk] at h
  | cons q r ih =>
    simp only [putF]
    split
    · simp
    · rename_i hq
      split
      · rename_i hlt
        exfalso
        have hne : q.1 ≠ s := hq
        rw [lk_cons, if_neg hne] at h
        cases hl : lk r s with
        | none => rw [hl] at h; cases h
        | some g =>
          have hm := lk_some_mem hl
          have hp := (List.pairwise_cons.1 hs).1 _ hm
          simp only [ltS, decide_eq_true_eq] at hlt hp
          exact absurd (List.lt_trans hlt hp) (List.lt_irrefl _)
      · have hne : q.1 ≠ s := hq
        rw [lk_cons, if_neg hne] at h
        have := ih h (List.pairwise_cons.1 hs).2
        simp only [List.length_cons]; omega
theorem delF_len (fs : List (ByteArray × AFile)) (s : ByteArray) : (delF fs s).length ≤ fs.length := List.length_filter_le _ _
theorem put_grow {d : ADisk} (hs : SortedF d.fs) {s : ByteArray} {f : AFile} {a k : Nat} (hl : f.len ≤ (afile d s).len + a) (hk : (lk d.fs s).isSome = true ∨ 1 ≤ k) : Grow d (d.put s f) a k := by
  unfold ADisk.put
  split
  · exact (Grow.fail d).mono (Nat.zero_le _) (Nat.zero_le _)
  · refine ⟨rfl, ?_, ?_⟩
    · show usedF (putF d.fs s f) ≤ _
      have h1 := used_putF hs s f
      have h2 : ((lk d.fs s).map AFile.len).getD 0 = (afile d s).len := by
        unfold afile
        cases lk d.fs s <;> rfl
      rw [h2] at h1
      omega
    · show (putF d.fs s f).length ≤ _
      rcases hk with hk | hk
      · have := putF_len0 f hk hs; omega
      · have := putF_len d.fs s f; omega
theorem sync_grow {d : ADisk} (hs : SortedF d.fs) (s : ByteArray) : Grow d (d.sync s) 0 0 := by
  unfold ADisk.sync
  split
  · exact Grow.refl d
  · split
    · exact Grow.refl d
    · rename_i h1 h2
      unfold ADisk.cutTo
      refine put_grow hs ?_ (Or.inl ?_)
      · simp only [AFile.len, List.length_take, List.length_nil, List.length_append]; omega
      · cases hl : lk d.fs s with
        | none => rw [hl] at h2; exact absurd rfl h2
        | some f => rfl
theorem append_grow {d : ADisk} (hs : SortedF d.fs) (s : ByteArray) (b : List UInt8) : Grow d (d.append s b) b.length 1 := by
  unfold ADisk.append
  split
  · exact (Grow.refl d).mono (Nat.zero_le _) (Nat.zero_le _)
  · split
    · exact (Grow.refl d).mono (Nat.zero_le _) (Nat.zero_le _)
    · split
      · exact (Grow.refl d).mono (Nat.zero_le _) (Nat.zero_le _)
      · split
        · exact (Grow.refl d).mono (Nat.zero_le _) (Nat.zero_le _)
        · refine put_grow hs ?_ (Or.inr (Nat.le_refl _))
          simp only [AFile.len, List.length_append]; omega
theorem remove_grow {d : ADisk} (hs : SortedF d.fs) (s : ByteArray) : Grow d (d.remove s) 0 0 := by
  unfold ADisk.remove
  split
  · exact Grow.refl d
  · split
    · exact Grow.refl d
    · split
      · exact Grow.fail d
      · refine ⟨rfl, ?_, delF_len _ _⟩
        show usedF (delF d.fs s) ≤ _
        have := used_delF hs s
        omega
/-- why something may have failed. -/
def Why (d : ADisk) (a k : Nat) : Prop := d.left ≠ -1 ∨ d.most < (usedF d.fs + a : Nat) ∨ 200 ≤ d.fs.length + k
theorem Why.mono {d : ADisk} {a k b j : Nat} (h : Why d a k) (ha : a ≤ b) (hk : k ≤ j) : Why d b j := by
  rcases h with h | h | h
  · exact Or.inl h
  · exact Or.inr (Or.inl (by omega))
  · exact Or.inr (Or.inr (by omega))
theorem Why.of {d d1 : ADisk} {a k b j : Nat} (h : Why d1 b j) (g : Grow d d1 a k) (hl : d.left = -1 → d1.left = -1) : Why d (a + b) (k + j) := by
  rcases h with h | h | h
  · exact Or.inl (fun e => h (hl e))
  · refine Or.inr (Or.inl ?_)
    have := g.most
    have := g.used
    omega
  · refine Or.inr (Or.inr ?_)
    have := g.len
    omega
/-- one file is put. -/
theorem put_cases {d : ADisk} (hs : SortedF d.fs) (s : ByteArray) (f : AFile) :
    (d.left = 0 ∧ d.put s f = d.fail ∧ d.err = 15) ∨ (d.left ≠ 0 ∧ d.err = 0 ∧ (d.put s f).down = false ∧ SortedF (d.put s f).fs ∧ (∀ u, lk (d.put s f).fs u = if u = s then some f else lk d.fs u) ∧ (d.left = -1 → (d.put s f).left = -1)) := by
  unfold ADisk.put ADisk.err
  by_cases h0 : d.left = 0
  · left; rw [if_pos h0, if_pos h0]; exact ⟨h0, rfl, rfl⟩
  · right
    rw [if_neg h0, if_neg h0]
    refine ⟨h0, rfl, rfl, sorted_putF hs _ _, fun u => lk_putF _ _ _ _, fun hl => ?_⟩
    show max (d.left - 1) (-1) = -1
    rw [hl]; rfl
/-- a file is removed. -/
theorem remove_cases {d : ADisk} (hs : SortedF d.fs) (hd : d.down = false) {s : ByteArray} {f : AFile} (hl : lk d.fs s = some f) :
    (d.left = 0 ∧ d.remove s = d.fail ∧ d.removeErr s = 15) ∨ (d.left ≠ 0 ∧ d.removeErr s = 0 ∧ (d.remove s).down = false ∧ SortedF (d.remove s).fs ∧ (∀ u, lk (d.remove s).fs u = if u = s then none else lk d.fs u) ∧ (d.left = -1 → (d.remove s).left = -1)) := by
  have e1 : d.remove s = if d.left = 0 then d.fail else { d.tick with fs := delF d.fs s } := by unfold ADisk.remove; rw [if_neg (by simp [hd]), if_neg (by rw [hl]; simp)]
  have e2 : d.removeErr s = if d.left = 0 then 15 else 0 := by unfold ADisk.removeErr; rw [if_neg (by simp [hd]), if_neg (by rw [hl]; simp)]; rfl
  rw [e1, e2]
  by_cases h0 : d.left = 0
  · left; rw [if_pos h0, if_pos h0]; exact ⟨h0, rfl, rfl⟩
  · right
    rw [if_neg h0, if_neg h0]
    refine ⟨h0, rfl, rfl, sorted_delF hs _, fun u => lk_delF _ _ _, fun hl => ?_⟩
    show max (d.left - 1) (-1) = -1
    rw [hl]; rfl
/-- a file is synced. -/
theorem sync_cases {d : ADisk} (hs : SortedF d.fs) (hd : d.down = false) {s : ByteArray} {f : AFile} (hl : lk d.fs s = some f) :
    (d.left = 0 ∧ d.sync s = d.fail ∧ d.syncErr s = 15) ∨ (d.left ≠ 0 ∧ d.syncErr s = 0 ∧ (d.sync s).down = false ∧ SortedF (d.sync s).fs ∧ (∀ u, lk (d.sync s).fs u = if u = s then some ⟨f.firm ++ f.loose, []⟩ else lk d.fs u) ∧ (d.left = -1 → (d.sync s).left = -1)) := by
  have ha : afile d s = f := by unfold afile; rw [hl]; rfl
  have e1 : d.sync s = d.put s ⟨f.firm ++ f.loose, []⟩ := by
    unfold ADisk.sync ADisk.cutTo
    rw [if_neg (by simp [hd]), if_neg (by rw [hl]; simp), ha, List.take_of_length_le (by simp [AFile.len])]
  have e2 : d.syncErr s = d.err := by unfold ADisk.syncErr; rw [if_neg (by simp [hd]), if_neg (by rw [hl]; simp)]
  rw [e1, e2]
  rcases put_cases hs s ⟨f.firm ++ f.loose, []⟩ with ⟨h0, h1, h2⟩ | ⟨h0, h1, h2⟩
  · exact Or.inl ⟨h0, h1, h2⟩
  · exact Or.inr ⟨h0, h1, h2⟩
theorem need_le (x : Seg) (sy : Nat) : need x sy ≤ (cont x).length := by
  unfold need
  split
  · exact Nat.zero_le _
  · unfold cont
    rw [List.length_append, List.length_append]
    have h := wFrames_app sumL x.1 (x.2.take (sy + 1 - x.1)) (x.2.drop (sy + 1 - x.1))
    rw [List.take_append_drop] at h
    rw [h, List.length_append]
    omega
/-- segments on a disk, or none. -/
inductive On (d : ADisk) : List Seg → Nat → Prop
  | bare {sy : Nat} : Bare d → On d [] sy
  | some {pre : List Seg} {x : Seg} {t sy : Nat} : Lies d pre x t sy → On d (pre ++ [x]) sy
/-- the same, the last one whole too. -/
inductive OnF (d : ADisk) : List Seg → Nat → Prop
  | bare {sy : Nat} : Bare d → OnF d [] sy
  | some {pre : List Seg} {x : Seg} {sy : Nat} : Lies d pre x (cont x).length sy → OnF d (pre ++ [x]) sy
theorem OnF.on {d : ADisk} {ss : List Seg} {sy : Nat} (h : OnF d ss sy) : On d ss sy := by
  cases h with
  | bare h => exact On.bare h
  | some h => exact On.some h
theorem Lies.same {d d' : ADisk} {pre : List Seg} {x : Seg} {t sy : Nat} (h : Lies d pre x t sy) (hs : SortedF d'.fs) (he : ∀ u, lk d'.fs u = lk d.fs u) : Lies d' pre x t sy := by
  obtain ⟨f, hf, hr⟩ := h.last
  exact ⟨hs, h.ch, fun y hy => by rw [he]; exact h.full y hy, ⟨f, by rw [he]; exact hf, hr⟩, h.fits, fun n h0 h1 h2 => h.only n h0 h1 (by rw [← he]; exact h2)⟩
theorem Lies.fail {d : ADisk} {pre : List Seg} {x : Seg} {t sy : Nat} (h : Lies d pre x t sy) : Lies d.fail pre x t sy := h.same h.sorted (fun _ => rfl)
/-- whole segments that are all firm. -/
theorem Lies.firm {d : ADisk} {pre : List Seg} {x : Seg} (sy : Nat) (hs : SortedF d.fs) (hc : chain (pre ++ [x])) (hf : ∀ y ∈ pre, lk d.fs (wName y.1) = some ⟨cont y, []⟩) (hl : lk d.fs (wName x.1) = some ⟨cont x, []⟩)
    (ho : ∀ n, 1 ≤ n → n ≤ 9007199254740992 → lk d.fs (wName n) ≠ none → n ∈ (pre ++ [x]).map (·.1)) : Lies d pre x (cont x).length sy :=
  ⟨hs, hc, hf, ⟨_, hl, by rw [List.append_nil, List.take_of_length_le (Nat.le_refl _)], need_le x sy⟩, Nat.le_refl _, ho⟩
/-- a log that is not over, and its disk. -/
structure J (d : ADisk) (al : ALog) (ss : List Seg) : Prop where
  up : d.down = false
  on : OnF d ss al.synced
  segs : al.segs = ss.map segV
  next : al.next = nextOf ss
  bytes : al.bytes = lenOf ss
  sync : al.synced + 1 ≤ nextOf ss ∨ (ss = [] ∧ al.synced = 0)
  live : al.over = false
/-- what Open leaves of segments: the last one lacks records that were not firm, or is gone. -/
def Trunc (pre : List Seg) (x : Seg) (sy : Nat) (ss' : List Seg) : Prop :=
  (ss' = pre ∧ sy < x.1) ∨ ∃ k, ss' = pre ++ [(x.1, x.2.take k)] ∧ k ≤ x.2.length ∧ (x.1 ≤ sy → min (sy + 1 - x.1) x.2.length ≤ k)
theorem Trunc.refl (pre : List Seg) (x : Seg) (sy : Nat) : Trunc pre x sy (pre ++ [x]) :=
  Or.inr ⟨x.2.length, by rw [List.take_of_length_le (Nat.le_refl _)], Nat.le_refl _, fun _ => Nat.min_le_right _ _⟩
end Go.Proofs.YtbepcjajbcecnaaGreatDoor

/-
  Append, Sync, Trim on a plain disk. No program here.
-/
namespace Go.Proofs.YtbepcjajbcecnaaGreatDoor
open Go.Lib

theorem digit_letter (b : UInt8) (h : 48 ≤ b.toNat ∧ b.toNat ≤ 57) : okLetter b = true := by
  have hb : b ∈ [(48 : UInt8), 49, 50, 51, 52, 53, 54, 55, 56, 57] := by
    have e : b = UInt8.ofNat b.toNat := by simp
    have : b.toNat = 48 ∨ b.toNat = 49 ∨ b.toNat = 50 ∨ b.toNat = 51 ∨ b.toNat = 52 ∨ b.toNat = 53 ∨ b.toNat = 54 ∨ b.toNat = 55 ∨ b.toNat = 56 ∨ b.toNat = 57 := by omega
    rcases this with h | h | h | h | h | h | h | h | h | h <;> rw [e, h] <;> decide
  revert hb
  have hall : ∀ c ∈ [(48 : UInt8), 49, 50, 51, 52, 53, 54, 55, 56, 57], okLetter c = true := by decide
  exact hall b
theorem app_cases {d : ADisk} (hs : SortedF d.fs) (hd : d.down = false) {s : ByteArray} (hn : okName s = true) (b : List UInt8) :
    (d.appendErr s b ≠ 0 ∧ SortedF (d.append s b).fs ∧ (∀ u, lk (d.append s b).fs u = lk d.fs u) ∧ Why d b.length 0) ∨
      (d.appendErr s b = 0 ∧ (d.append s b).down = false ∧ SortedF (d.append s b).fs ∧ (∀ u, lk (d.append s b).fs u = if u = s then some ⟨(afile d s).firm, (afile d s).loose ++ b⟩ else lk d.fs u) ∧ (d.left = -1 → (d.append s b).left = -1)) := by
  have e1 : d.append s b = if d.most < usedF d.fs + b.length then d else if (lk d.fs s).isNone ∧ 200 ≤ d.fs.length then d else d.put s ⟨(afile d s).firm, (afile d s).loose ++ b⟩ := by
    unfold ADisk.append; rw [if_neg (by simp [hd]), if_neg (by simp [hn])]
  have e2 : d.appendErr s b = if d.most < usedF d.fs + b.length then 5 else if (lk d.fs s).isNone ∧ 200 ≤ d.fs.length then 5 else d.err := by
    unfold ADisk.appendErr; rw [if_neg (by simp [hd]), if_neg (by simp [hn])]
  rw [e1, e2]
  by_cases h1 : d.most < usedF d.fs + b.length
  · left; rw [if_pos h1, if_pos h1]; exact ⟨by decide, hs, fun _ => rfl, Or.inr (Or.inl (by omega))⟩
  · rw [if_neg h1, if_neg h1]
    by_cases h2 : (lk d.fs s).isNone ∧ 200 ≤ d.fs.length
    · left; rw [if_pos h2, if_pos h2]; exact ⟨by decide, hs, fun _ => rfl, Or.inr (Or.inr (by omega))⟩
    · rw [if_neg h2, if_neg h2]
      rcases put_cases hs s ⟨(afile d s).firm, (afile d s).loose ++ b⟩ with ⟨a0, a1, a2⟩ | ⟨a0, a1, a2, a3, a4, a5⟩
      · left; rw [a1, a2]; exact ⟨by decide, hs, fun _ => rfl, Or.inl (by omega)⟩
      · right; exact ⟨a1, a2, a3, a4, a5⟩
end Go.Proofs.YtbepcjajbcecnaaGreatDoor
