/-
  A journal's bytes as plain data: heads, records, what is read of bytes. No program here. S is the sum of bytes: four bytes.
-/
import Derived.Test.YtbiadclmonakkaaGreatDoorMByA
import Derived.Lib.ItoaNum
import Derived.Lib.ItoaMem
import Derived.Lib.AtoiTie
import Derived.Lib.AtoiAll
import Derived.Test.YtbiadclmonakkaaGreatDoorMDkB
namespace Go.Proofs.YtbiadclmonakkaaGreatDoor

section
variable (S : List UInt8 → List UInt8)
def wHead (n : Nat) : List UInt8 := sealL S ([72, 83, 87, 49] ++ vint n)
def wBody (n : Nat) (b : List UInt8) : List UInt8 := vint n ++ b
def wFrame (n : Nat) (b : List UInt8) : List UInt8 := vint (wBody n b).length ++ sealL S (wBody n b)
/-- the record at the beginning of bytes: its number, its bytes, how many bytes it takes. -/
def wRec (l : List UInt8) : Option (Nat × List UInt8 × Nat) :=
  match gU l with
  | (0, m, k) => if l.length - k < m then none else if l.length - k - m < 4 then none else
    match unsealL S ((l.drop k).take (m + 4)) with
    | (0, body) => match gU body with
      | (0, n, j) => if 9007199254740992 < n then none else if 1048576 < body.length - j then none else some (n, body.drop j, k + m + 4)
      | _ => none
    | _ => none
  | _ => none
theorem wRec_len {l b : List UInt8} {n t : Nat} (h : wRec S l = some (n, b, t)) : 4 ≤ t ∧ t ≤ l.length ∧ n ≤ 9007199254740992 ∧ b.length ≤ 1048576 := by
  unfold wRec at h
  split at h
  · rename_i m k hg
    split at h
    · cases h
    · split at h
      · cases h
      · split at h
        · split at h
          · split at h
            · cases h
            · split at h
              · cases h
              · simp only [Option.some.injEq, Prod.mk.injEq] at h
                obtain ⟨rfl, rfl, rfl⟩ := h
                have := (gU_ok hg).2.2.1
                refine ⟨by omega, by omega, by omega, ?_⟩
                rw [List.length_drop]; omega
          · cases h
        · cases h
  · cases h
/-- the records from a number on: their bytes, and how many bytes they take in all. -/
def wRecs (l : List UInt8) (n : Nat) : List (List UInt8) × Nat :=
  match _h : wRec S l with
  | some (k, b, t) => if k = n then (b :: (wRecs (l.drop t) (n + 1)).1, t + (wRecs (l.drop t) (n + 1)).2) else ([], 0)
  | none => ([], 0)
termination_by l.length
decreasing_by all_goals (have := wRec_len S _h; simp; omega)
theorem wRecs_none {l : List UInt8} {n : Nat} (h : wRec S l = none) : wRecs S l n = ([], 0) := by
  rw [wRecs]
  split
  · rename_i h2; rw [h] at h2; cases h2
  · rfl
theorem wRecs_other {l b : List UInt8} {n k t : Nat} (h : wRec S l = some (k, b, t)) (hk : k ≠ n) : wRecs S l n = ([], 0) := by
  rw [wRecs]
  split
  · rename_i k' b' t' h2
    rw [h] at h2
    cases h2
    rw [if_neg hk]
  · rfl
theorem wRecs_some {l b : List UInt8} {n t : Nat} (h : wRec S l = some (n, b, t)) : wRecs S l n = (b :: (wRecs S (l.drop t) (n + 1)).1, t + (wRecs S (l.drop t) (n + 1)).2) := by
  rw [wRecs]
  split
  · rename_i k' b' t' h2
    rw [h] at h2
    cases h2
    rw [if_pos rfl]
  · rename_i h2; rw [h] at h2; cases h2
theorem wRecs_le (l : List UInt8) (n : Nat) : (wRecs S l n).2 ≤ l.length := by
  induction hl : l.length using Nat.strongRecOn generalizing l n with
  | _ m ih =>
    subst hl
    cases h : wRec S l with
    | none => rw [wRecs_none S h]; exact Nat.zero_le _
    | some r =>
      obtain ⟨k, b, t⟩ := r
      obtain ⟨h1, h2, _⟩ := wRec_len S h
      by_cases hk : k = n
      · subst hk
        rw [wRecs_some S h]
        have := ih (l.drop t).length (by rw [List.length_drop]; omega) (l.drop t) (k + 1) rfl
        rw [List.length_drop] at this
        simp only
        omega
      · rw [wRecs_other S h hk]; exact Nat.zero_le _
variable {S} (hS : ∀ b, (S b).length = 4)
include hS
theorem wHead_len (n : Nat) (hn : n ≤ 9007199254740992) : 9 ≤ (wHead S n).length ∧ (wHead S n).length ≤ 18 := by
  have h1 := vint_len (n := n) (k := 10) (by omega) (Nat.lt_of_le_of_lt hn (by decide))
  have h2 := vint_pos n
  unfold wHead sealL
  simp only [List.length_append, hS, List.length_cons, List.length_nil]
  omega
theorem wFrame_len (n : Nat) (b : List UInt8) : (wFrame S n b).length = (vint (wBody n b).length).length + ((wBody n b).length + 4) := by
  unfold wFrame sealL
  simp only [List.length_append, hS]
theorem wRec_frame (n : Nat) (b r : List UInt8) (hn : n ≤ 9007199254740992) (hb : b.length ≤ 1048576) : wRec S (wFrame S n b ++ r) = some (n, b, (wFrame S n b).length) := by
  have hv := vint_len (n := n) (k := 10) (by omega) (Nat.lt_of_le_of_lt hn (by decide))
  have hbl : (wBody n b).length = (vint n).length + b.length := by simp [wBody]
  have hm : (wBody n b).length < 18446744073709551616 := by omega
  have hfl := wFrame_len hS n b
  have hgu := gU_vint (wBody n b).length (sealL S (wBody n b) ++ r) hm
  have hgn := gU_vint n b (by omega)
  have hsl : (sealL S (wBody n b)).length = (wBody n b).length + 4 := by unfold sealL; rw [List.length_append, hS]
  have he : wFrame S n b ++ r = vint (wBody n b).length ++ (sealL S (wBody n b) ++ r) := by unfold wFrame; rw [List.append_assoc]
  have hun := unseal_seal hS (wBody n b)
  unfold wRec
  rw [he, hgu]
  simp only
  rw [List.drop_left, List.length_append, List.length_append, hsl, if_neg (by omega), if_neg (by omega)]
  rw [show (sealL S (wBody n b) ++ r).take ((wBody n b).length + 4) = sealL S (wBody n b) by rw [← hsl, List.take_left], hun]
  simp only
  rw [show wBody n b = vint n ++ b from rfl, hgn]
  simp only
  rw [if_neg (by omega), List.length_append, Nat.add_sub_cancel_left, if_neg (by omega), List.drop_left]
  congr 3
  rw [hfl, show wBody n b = vint n ++ b from rfl, List.length_append]
  omega
omit hS in
theorem gU_cut (m t : Nat) (hm : m < 18446744073709551616) (h : t < (vint m).length) : gU ((vint m).take t) = (11, 0, 0) := by
  obtain ⟨ys, y, h1, h2, h3, h4⟩ := vint_last m
  have hl10 := vint_len (n := m) (k := 10) (by omega) (Nat.lt_trans hm (by decide))
  rw [h1] at h hl10 ⊢
  rw [List.length_append] at h hl10
  simp only [List.length_cons, List.length_nil] at h hl10
  rw [List.take_append_of_le_length (by omega)]
  have hall : ∀ x ∈ (ys.take t).take 10, 128 ≤ x.toNat := fun x hx => h2 x (List.mem_of_mem_take (List.mem_of_mem_take hx))
  have hf : ((ys.take t).take 10).findIdx? (fun x => decide (x.toNat < 128)) = none := by
    rw [List.findIdx?_eq_none_iff]
    intro x hx
    have := hall x hx
    simp; omega
  unfold gU
  rw [hf]
  simp only
  rw [if_pos (by rw [List.length_take]; omega)]
/-- bytes that lack some of a record's are none. -/
theorem wRec_torn (n : Nat) (b : List UInt8) (hn : n ≤ 9007199254740992) (hb : b.length ≤ 1048576) (t : Nat) (ht : t < (wFrame S n b).length) : wRec S ((wFrame S n b).take t) = none := by
  have hv := vint_len (n := n) (k := 10) (by omega) (Nat.lt_of_le_of_lt hn (by decide))
  have hbl : (wBody n b).length = (vint n).length + b.length := by simp [wBody]
  have hm : (wBody n b).length < 18446744073709551616 := by omega
  rw [wFrame_len hS] at ht
  by_cases hk : t < (vint (wBody n b).length).length
  · have he : (wFrame S n b).take t = (vint (wBody n b).length).take t := by unfold wFrame; rw [List.take_append_of_le_length (by omega)]
    unfold wRec
    rw [he, gU_cut _ t hm hk]
    rfl
  · have he : (wFrame S n b).take t = vint (wBody n b).length ++ (sealL S (wBody n b)).take (t - (vint (wBody n b).length).length) := by
      unfold wFrame
      rw [List.take_append, List.take_of_length_le (by omega)]
    have hgu := gU_vint (wBody n b).length ((sealL S (wBody n b)).take (t - (vint (wBody n b).length).length)) hm
    have hsl : (sealL S (wBody n b)).length = (wBody n b).length + 4 := by unfold sealL; rw [List.length_append, hS]
    unfold wRec
    rw [he, hgu]
    simp only
    rw [List.length_append, List.length_take, hsl, Nat.add_sub_cancel_left]
    by_cases h1 : min (t - (vint (wBody n b).length).length) ((wBody n b).length + 4) < (wBody n b).length
    · rw [if_pos h1]
    · rw [if_neg h1]
      exact if_pos (by omega)
end
/-- records one behind the other. -/
def wFrames (S : List UInt8 → List UInt8) : Nat → List (List UInt8) → List UInt8
  | _, [] => []
  | n, b :: R => wFrame S n b ++ wFrames S (n + 1) R
theorem wFrames_app (S : List UInt8 → List UInt8) (n : Nat) (R Q : List (List UInt8)) : wFrames S n (R ++ Q) = wFrames S n R ++ wFrames S (n + R.length) Q := by
  induction R generalizing n with
  | nil => simp [wFrames]
  | cons b R ih => simp only [List.cons_append, wFrames, ih, List.length_cons, List.append_assoc, show n + 1 + R.length = n + (R.length + 1) by omega]
theorem wRec_nil (S : List UInt8 → List UInt8) : wRec S [] = none := rfl
theorem wRecs_frames {S : List UInt8 → List UInt8} (hS : ∀ b, (S b).length = 4) (n : Nat) (R : List (List UInt8)) (hn : n + R.length ≤ 9007199254740993) (hR : ∀ b ∈ R, b.length ≤ 1048576) (r : List UInt8) :
    wRecs S (wFrames S n R ++ r) n = (R ++ (wRecs S r (n + R.length)).1, (wFrames S n R).length + (wRecs S r (n + R.length)).2) := by
  induction R generalizing n with
  | nil => simp [wFrames]
  | cons b R ih =>
    have h1 := wRec_frame hS n b (wFrames S (n + 1) R ++ r) (by simp only [List.length_cons] at hn; omega) (hR b (by simp))
    rw [wFrames, List.append_assoc, wRecs_some S h1, List.drop_left, ih (n + 1) (by simp only [List.length_cons] at hn; omega) (fun b hb => hR b (List.mem_cons_of_mem _ hb))]
    simp only [List.cons_append, List.length_cons, List.length_append, show n + 1 + R.length = n + (R.length + 1) by omega]
    congr 1
    omega
end Go.Proofs.YtbiadclmonakkaaGreatDoor

/-
  A journal's names: 'w' and a number. No program here.
-/
namespace Go.Proofs.YtbiadclmonakkaaGreatDoor
open Go.Lib

theorem decFrom_app (l r : List UInt8) (acc : Nat) : decFrom acc (l ++ r) = (decFrom acc l).bind fun m => decFrom m r := by
  induction l generalizing acc with
  | nil => rfl
  | cons b l ih =>
    simp only [List.cons_append, decFrom]
    cases digitVal b with
    | none => rfl
    | some d => exact ih _
theorem digit_ofNat {k : Nat} (h : k < 10) : digitVal (UInt8.ofNat (48 + k)) = some k := by
  unfold digitVal
  have : (UInt8.ofNat (48 + k)).toNat = 48 + k := by simp; omega
  rw [this, if_pos (by omega)]
  congr 1; omega
theorem dec_val (n : Nat) : decFrom 0 (decDigits n) = some n := by
  induction n using Nat.strongRecOn with
  | _ n ih =>
    by_cases h : n < 10
    · rw [decDigits_one h]
      simp only [decFrom, digit_ofNat h]
      congr 1; omega
    · rw [decDigits, dif_neg h, decFrom_app, ih (n / 10) (by omega)]
      simp only [Option.bind_some, decFrom, digit_ofNat (show n % 10 < 10 by omega)]
      congr 1; omega
theorem dec_ne (n : Nat) : decDigits n ≠ [] := by
  rw [decDigits]
  split <;> simp
theorem dec_inj {m n : Nat} (h : decDigits m = decDigits n) : m = n := by
  have := dec_val m
  rw [h, dec_val] at this
  exact (Option.some.inj this).symm
theorem nDig_le (n k : Nat) (hk : 0 < k) (h : n < 10 ^ k) : nDigits n ≤ k := by
  induction k generalizing n with
  | zero => omega
  | succ k ih =>
    by_cases h10 : n < 10
    · rw [nDigits_small h10]; omega
    · rw [nDigits, dif_neg h10]
      have hk0 : 0 < k := by
        rcases Nat.eq_zero_or_pos k with e | e
        · subst e; simp at h; omega
        · exact e
      have := ih (n / 10) hk0 (by rw [Nat.pow_succ] at h; omega)
      omega
theorem dec_len {n : Nat} (h : n ≤ 9007199254740992) : (decDigits n).length ≤ 16 := by
  rw [decDigits_length]
  exact nDig_le n 16 (by omega) (Nat.lt_of_le_of_lt h (by decide))
/-- every byte of a numeral is a digit. -/
theorem dec_digit {n : Nat} {b : UInt8} (h : b ∈ decDigits n) : 48 ≤ b.toNat ∧ b.toNat ≤ 57 := by
  obtain ⟨k, hk, rfl⟩ := List.getElem_of_mem h
  obtain ⟨d, hd⟩ := digit_of_decFrom (decDigits n) 0 n (dec_val n) k _ (List.getElem?_eq_getElem hk)
  have := digitVal_eq hd
  omega
theorem atoi_dec (n : Nat) : atoi (decDigits n) = some (n : Int) := by
  have hv := dec_val n
  have hne := dec_ne n
  cases hl : decDigits n with
  | nil => exact absurd hl hne
  | cons b r =>
    have hb := dec_digit (n := n) (b := b) (by rw [hl]; simp)
    unfold atoi
    have h45 : (b == 45) = false := by
      rw [beq_eq_false_iff_ne]; rintro rfl; simp at hb
    have h43 : (b == 43) = false := by
      rw [beq_eq_false_iff_ne]; rintro rfl; simp at hb
    simp only [h45, h43]
    rw [hl] at hv
    unfold decNat
    simp [hv]
theorem atoiAll_dec {n : Nat} (h : n ≤ 9007199254740992) : atoiAll (decDigits n) = .ok (n : Int) := by
  rw [atoiAll_short _ (by have := dec_len h; omega), atoi_dec]
  rfl

/-- a segment's file. -/
def wName (n : Nat) : ByteArray := ⟨(119 :: decDigits n).toArray⟩
theorem wName_inj {m n : Nat} (h : wName m = wName n) : m = n := by
  have h2 := congrArg (fun s : ByteArray => s.data.toList) h
  simp only [wName, List.cons.injEq, true_and] at h2
  exact dec_inj h2
/-- what is behind a 'w' ahead. -/
def trimW (s : ByteArray) : List UInt8 := if s.data.toList.take 1 = [119] then s.data.toList.drop 1 else s.data.toList
theorem trim_name (n : Nat) : trimW (wName n) = decDigits n := by
  unfold trimW wName
  simp
/-- a file's number. -/
def wNum (s : ByteArray) : Option Nat :=
  match atoiAll (trimW s) with
  | .ok v => if 1 ≤ v ∧ v ≤ 9007199254740992 ∧ s = wName v.toNat then some v.toNat else none
  | _ => none
theorem wNum_name {n : Nat} (h0 : 1 ≤ n) (h1 : n ≤ 9007199254740992) : wNum (wName n) = some n := by
  unfold wNum
  rw [trim_name, atoiAll_dec h1]
  simp only
  rw [if_pos ⟨by omega, by omega, by simp⟩]
  simp
theorem wNum_some {s : ByteArray} {n : Nat} (h : wNum s = some n) : s = wName n ∧ 1 ≤ n ∧ n ≤ 9007199254740992 := by
  unfold wNum at h
  split at h
  · split at h
    · rename_i v _ hc
      obtain ⟨h1, h2, h3⟩ := hc
      cases h
      exact ⟨h3, by omega, by omega⟩
    · cases h
  · cases h
theorem wName_size {n : Nat} (h : n ≤ 9007199254740992) : (wName n).size ≤ 17 := by
  have := dec_len h
  show (119 :: decDigits n).toArray.size ≤ 17
  simp only [List.size_toArray, List.length_cons]
  omega
end Go.Proofs.YtbiadclmonakkaaGreatDoor

/-
  The journal on a plain disk: what each call does. No program here.
-/
namespace Go.Proofs.YtbiadclmonakkaaGreatDoor

/-- a record: its number, its bytes. -/
structure ARec where
  n : Nat
  b : List UInt8
/-- what a log holds beside its disk. -/
structure ALog where
  size : Nat
  segs : List (Nat × Bool)
  next : Nat
  bytes : Nat
  synced : Nat
  over : Bool
def ALog.lastN (al : ALog) : Nat := (al.segs.getLast?.map (·.1)).getD 0
def ALog.lastSome (al : ALog) : Bool := (al.segs.getLast?.map (·.2)).getD false
def ALog.file (al : ALog) : ByteArray := wName al.lastN
def ALog.last (al : ALog) : Nat := al.next - 1
def ALog.first (al : ALog) : Nat := (al.segs.head?.map (·.1)).getD 0
def hd4 (n : Nat) : List UInt8 := wHead sumL n
def fr4 (n : Nat) (b : List UInt8) : List UInt8 := wFrame sumL n b

/-- a file is removed, if there is one. -/
def goneE4 (d : ADisk) (s : ByteArray) : Int := if d.removeErr s = 13 then 0 else d.removeErr s
/-- the steps of another segment. -/
def anoD1 (d : ADisk) (n : Nat) : ADisk := d.remove (wName n)
def anoD2 (d : ADisk) (n : Nat) : ADisk := (anoD1 d n).append (wName n) (hd4 n)
def anoD3 (d : ADisk) (n : Nat) : ADisk := (anoD2 d n).sync (wName n)
def anoE1 (d : ADisk) (n : Nat) : Int := goneE4 d (wName n)
def anoE2 (d : ADisk) (n : Nat) : Int := (anoD1 d n).appendErr (wName n) (hd4 n)
def anoE3 (d : ADisk) (n : Nat) : Int := (anoD2 d n).syncErr (wName n)
def anoSteps (d : ADisk) (n : Nat) : ADisk × Int :=
  if anoE1 d n ≠ 0 then (anoD1 d n, anoE1 d n) else if anoE2 d n ≠ 0 then (anoD2 d n, anoE2 d n) else (anoD3 d n, anoE3 d n)
/-- another segment begins. -/
def wAnother (d : ADisk) (al : ALog) (n : Nat) : ADisk × ALog × Int :=
  if al.segs ≠ [] ∧ d.syncErr al.file ≠ 0 then (d.sync al.file, al, d.syncErr al.file)
  else
    let d1 := if al.segs = [] then d else d.sync al.file
    let al1 : ALog := if al.segs = [] then al else { al with synced := n - 1 }
    let r := anoSteps d1 n
    if r.2 = 0 then (r.1, { al1 with segs := al1.segs ++ [(n, false)], bytes := (hd4 n).length, synced := n - 1 }, 0) else (r.1, al1, r.2)
def ALog.needs (al : ALog) : Bool := al.segs.isEmpty || (al.lastSome && decide (al.size ≤ al.bytes))
def ALog.ends (al : ALog) (e : Int) : ALog := { al with over := decide (e ≠ 0) }
/-- the last segment has records. -/
def setSome (l : List (Nat × Bool)) : List (Nat × Bool) := l.dropLast ++ (l.getLast?.map fun x => (x.1, true)).toList
/-- the record is appended to the last segment. -/
def wPut (d : ADisk) (al : ALog) (n : Nat) (b : List UInt8) : ADisk × ALog × Int :=
  if d.appendErr al.file (fr4 n b) ≠ 0 then (d.append al.file (fr4 n b), al.ends (d.appendErr al.file (fr4 n b)), d.appendErr al.file (fr4 n b))
  else (d.append al.file (fr4 n b), { al with segs := setSome al.segs, next := n + 1, bytes := al.bytes + (fr4 n b).length }, 0)
def wAppend (d : ADisk) (al : ALog) (n : Int) (b : List UInt8) : ADisk × ALog × Int :=
  if al.over then (d, al, 16) else if n < 1 ∨ 9007199254740992 < n then (d, al, 2) else if 1048576 < b.length then (d, al, 3) else if 0 < al.next ∧ n ≠ al.next then (d, al, 18)
  else if al.needs then
    let r := wAnother d al n.toNat
    if r.2.2 ≠ 0 then (r.1, r.2.1.ends r.2.2, r.2.2) else wPut r.1 r.2.1 n.toNat b
  else wPut d al n.toNat b
def wSync (d : ADisk) (al : ALog) : ADisk × ALog × Int :=
  if al.over then (d, al, 16) else if al.segs = [] then (d, al, 0)
  else if d.syncErr al.file ≠ 0 then (d.sync al.file, al.ends (d.syncErr al.file), d.syncErr al.file) else (d.sync al.file, { al with synced := al.last }, 0)
/-- Trim, segment by segment: the disk, the log, what is gone, the error. -/
def wTrimL (d : ADisk) (al : ALog) (below : Int) : List (Nat × Bool) → ADisk × ALog × List ByteArray × Int
  | x :: y :: r =>
    if (y.1 : Int) ≤ below then
      if d.removeErr (wName x.1) ≠ 0 then (d.remove (wName x.1), { al with segs := x :: y :: r, over := true }, [], d.removeErr (wName x.1))
      else
        let t := wTrimL (d.remove (wName x.1)) al below (y :: r)
        (t.1, t.2.1, wName x.1 :: t.2.2.1, t.2.2.2)
    else (d, { al with segs := x :: y :: r }, [], 0)
  | l => (d, { al with segs := l }, [], 0)
def wTrim (d : ADisk) (al : ALog) (below : Int) : ADisk × ALog × List ByteArray × Int := if al.over then (d, al, [], 16) else wTrimL d al below al.segs

/-- what a disk's files tell. -/
structure AFound where
  segs : List (Nat × Bool)
  next : Nat
  bytes : Nat
  good : Nat
  recs : List ARec
  none : Nat
def isHead4 (b : List UInt8) (n : Nat) : Bool := decide (b.take (hd4 n).length = hd4 n)
def recsOf (b : List UInt8) (n : Nat) : List (List UInt8) := (wRecs sumL (b.drop (hd4 n).length) n).1
def goodOf (b : List UInt8) (n : Nat) : Nat := (hd4 n).length + (wRecs sumL (b.drop (hd4 n).length) n).2
def numbered (n : Nat) : List (List UInt8) → List ARec
  | [] => []
  | b :: R => ⟨n, b⟩ :: numbered (n + 1) R
def AFound.add (f : AFound) (b : List UInt8) (n : Nat) : AFound :=
  { f with segs := f.segs ++ [(n, !(recsOf b n).isEmpty)], next := n + (recsOf b n).length, bytes := b.length, good := goodOf b n, recs := f.recs ++ numbered n (recsOf b n) }
def wLook (d : ADisk) (f : AFound) : List Nat → AFound × Int
  | [] => (f, 0)
  | n :: r =>
    if findErr d (wName n) ≠ 0 then (f, findErr d (wName n))
    else
      let b := d.readBytes (wName n)
      if isHead4 b n = false ∧ r = [] then ({ f with none := n }, 0)
      else if isHead4 b n = false ∨ (f.segs ≠ [] ∧ n ≠ f.next) ∨ (r ≠ [] ∧ (recsOf b n = [] ∨ goodOf b n < b.length)) then (f, 14)
      else wLook d (f.add b n) r
def leN (a b : Nat) : Bool := decide (a ≤ b)
/-- a disk's segments, by rising numbers. -/
def segsOf (d : ADisk) : List Nat := (d.names.filterMap wNum).mergeSort leN
def AFound.lastN (f : AFound) : Nat := (f.segs.getLast?.map (·.1)).getD 0
/-- the steps of Open behind the look. -/
def opD1 (d : ADisk) (f : AFound) : ADisk := if f.none = 0 then d else d.remove (wName f.none)
def opD2 (d : ADisk) (f : AFound) : ADisk := if f.segs = [] ∨ f.good = f.bytes then opD1 d f else (opD1 d f).cut (wName f.lastN) f.good
def opD3 (d : ADisk) (f : AFound) : ADisk := if f.segs = [] then opD2 d f else (opD2 d f).sync (wName f.lastN)
def opE1 (d : ADisk) (f : AFound) : Int := if f.none = 0 then 0 else d.removeErr (wName f.none)
def opE2 (d : ADisk) (f : AFound) : Int := if f.segs = [] ∨ f.good = f.bytes then 0 else (opD1 d f).cutErr (wName f.lastN) f.good
def opE3 (d : ADisk) (f : AFound) : Int := if f.segs = [] then 0 else (opD2 d f).syncErr (wName f.lastN)
def opSteps (d : ADisk) (f : AFound) : ADisk × Int :=
  if opE1 d f ≠ 0 then (opD1 d f, opE1 d f) else if opE2 d f ≠ 0 then (opD2 d f, opE2 d f) else (opD3 d f, opE3 d f)
def f0 : AFound := ⟨[], 0, 0, 0, [], 0⟩
def wN : ByteArray := ⟨#[119]⟩
/-- Open: the disk, what is found, the error. -/
def wOpen (d : ADisk) (size : Int) : ADisk × AFound × Int :=
  if size < 64 ∨ 16777216 < size then (d, f0, 2) else if findErr d wN ≠ 13 ∧ findErr d wN ≠ 0 then (d, f0, findErr d wN)
  else
    let r := wLook d f0 (segsOf d)
    if r.2 ≠ 0 then (d, r.1, r.2) else ((opSteps d r.1).1, r.1, (opSteps d r.1).2)
def AFound.log (f : AFound) (size : Int) : ALog := ⟨size.toNat, f.segs, f.next, f.good, f.next - 1, false⟩
end Go.Proofs.YtbiadclmonakkaaGreatDoor

/-
  The journal's files, plain: how many records the first bytes of a file tell; segments that follow one another. No program here.
-/
namespace Go.Proofs.YtbiadclmonakkaaGreatDoor

/-- how many records lie whole within the first t bytes. -/
def fitN : Nat → List (List UInt8) → Nat → Nat
  | _, [], _ => 0
  | n, b :: R, t => if (fr4 n b).length ≤ t then 1 + fitN (n + 1) R (t - (fr4 n b).length) else 0
theorem fitN_le (n : Nat) (R : List (List UInt8)) (t : Nat) : fitN n R t ≤ R.length := by
  induction R generalizing n t with
  | nil => exact Nat.zero_le _
  | cons b R ih =>
    unfold fitN
    split
    · have := ih (n + 1) (t - (fr4 n b).length)
      simp only [List.length_cons]; omega
    · exact Nat.zero_le _
/-- records that lie whole within the first bytes are told. -/
theorem fitN_ge (n : Nat) (R : List (List UInt8)) (k t : Nat) (h : (wFrames sumL n (R.take k)).length ≤ t) (hk : k ≤ R.length) : k ≤ fitN n R t := by
  induction R generalizing n k t with
  | nil => simp at hk; omega
  | cons b R ih =>
    cases k with
    | zero => exact Nat.zero_le _
    | succ k =>
      simp only [List.take_succ_cons, wFrames, List.length_append] at h
      simp only [List.length_cons] at hk
      have := ih (n + 1) k (t - (fr4 n b).length) (by unfold fr4; omega) (by omega)
      unfold fitN
      rw [if_pos (by unfold fr4; omega)]
      omega
theorem fitN_all (n : Nat) (R : List (List UInt8)) (t : Nat) (h : (wFrames sumL n R).length ≤ t) : fitN n R t = R.length :=
  Nat.le_antisymm (fitN_le n R t) (fitN_ge n R R.length t (by rw [List.take_of_length_le (Nat.le_refl _)]; exact h) (Nat.le_refl _))
theorem fitN_len (n : Nat) (R : List (List UInt8)) (t : Nat) : (wFrames sumL n (R.take (fitN n R t))).length ≤ t := by
  induction R generalizing n t with
  | nil => simp [wFrames]
  | cons b R ih =>
    unfold fitN
    split
    · have := ih (n + 1) (t - (fr4 n b).length)
      rw [Nat.add_comm, List.take_succ_cons, wFrames, List.length_append]
      unfold fr4 at *; omega
    · simp [wFrames]
theorem wRecs_take (n : Nat) (R : List (List UInt8)) (t : Nat) (hn : n + R.length ≤ 9007199254740993) (hR : ∀ b ∈ R, b.length ≤ 1048576) :
    wRecs sumL ((wFrames sumL n R).take t) n = (R.take (fitN n R t), (wFrames sumL n (R.take (fitN n R t))).length) := by
  induction R generalizing n t with
  | nil =>
    simp only [wFrames, List.take_nil]
    rw [wRecs_none sumL (wRec_nil sumL)]
    rfl
  | cons b R ih =>
    simp only [List.length_cons] at hn
    have hb := hR b (by simp)
    unfold fitN
    by_cases ht : (fr4 n b).length ≤ t
    · rw [if_pos ht]
      have he : (wFrames sumL n (b :: R)).take t = wFrame sumL n b ++ (wFrames sumL (n + 1) R).take (t - (fr4 n b).length) := by
        rw [wFrames, List.take_append, show (wFrame sumL n b).take t = wFrame sumL n b from List.take_of_length_le ht]; rfl
      rw [he, wRecs_some sumL (wRec_frame sumL_len n b _ (by omega) hb), List.drop_left, ih (n + 1) (t - (fr4 n b).length) (by omega) (fun b hb => hR b (List.mem_cons_of_mem _ hb))]
      rw [Nat.add_comm 1, List.take_succ_cons, wFrames, List.length_append]
    · rw [if_neg ht]
      have he : (wFrames sumL n (b :: R)).take t = (wFrame sumL n b).take t := by
        rw [wFrames, List.take_append_of_le_length (by unfold fr4 at ht; omega)]
      rw [he, wRecs_none sumL (wRec_torn sumL_len n b (by omega) hb t (by unfold fr4 at ht; omega))]
      rfl

abbrev Seg := Nat × List (List UInt8)
/-- what a segment's file holds. -/
def cont (x : Seg) : List UInt8 := hd4 x.1 ++ wFrames sumL x.1 x.2
/-- numbers that may be. -/
structure SegOk (x : Seg) : Prop where
  lo : 1 ≤ x.1
  hi : x.1 ≤ 9007199254740992
  top : x.1 + x.2.length ≤ 9007199254740993
  small : ∀ b ∈ x.2, b.length ≤ 1048576
/-- each segment begins where the one ahead of it ends; none but the last lacks records. -/
def chain : List Seg → Prop
  | [] => True
  | [x] => SegOk x
  | x :: y :: r => SegOk x ∧ x.2 ≠ [] ∧ y.1 = x.1 + x.2.length ∧ chain (y :: r)
theorem chain_ok {ss : List Seg} (h : chain ss) : ∀ x ∈ ss, SegOk x := by
  induction ss with
  | nil => intro x hx; cases hx
  | cons x r ih =>
    cases r with
    | nil => intro y hy; simp at hy; subst hy; exact h
    | cons y r =>
      intro z hz
      rcases List.mem_cons.1 hz with rfl | hz
      · exact h.1
      · exact ih h.2.2.2 z hz
theorem chain_tail {x : Seg} {r : List Seg} (h : chain (x :: r)) : chain r := by
  cases r with
  | nil => trivial
  | cons y r => exact h.2.2.2
/-- the numbers rise. -/
theorem chain_lt {x : Seg} {r : List Seg} (h : chain (x :: r)) : ∀ y ∈ r, x.1 + x.2.length ≤ y.1 ∧ x.1 < y.1 := by
  induction r generalizing x with
  | nil => intro y hy; cases hy
  | cons z r ih =>
    obtain ⟨h1, h2, h3, h4⟩ := h
    have hp : 0 < x.2.length := List.length_pos_iff.2 h2
    intro y hy
    rcases List.mem_cons.1 hy with rfl | hy
    · omega
    · have := ih h4 y hy
      omega
theorem chain_firsts {ss : List Seg} (h : chain ss) : (ss.map (·.1)).Pairwise (· < ·) := by
  induction ss with
  | nil => exact List.Pairwise.nil
  | cons x r ih =>
    rw [List.map_cons, List.pairwise_cons]
    refine ⟨fun n hn => ?_, ih (chain_tail h)⟩
    obtain ⟨y, hy, rfl⟩ := List.mem_map.1 hn
    exact (chain_lt h y hy).2
/-- two rising lists of the same numbers are one. -/
theorem rise_ext {l1 l2 : List Nat} (h1 : l1.Pairwise (· < ·)) (h2 : l2.Pairwise (· < ·)) (h : ∀ s, s ∈ l1 ↔ s ∈ l2) : l1 = l2 := by
  induction l1 generalizing l2 with
  | nil =>
    cases l2 with
    | nil => rfl
    | cons y r => exact absurd ((h y).2 (by simp)) (by simp)
  | cons x r ih =>
    rw [List.pairwise_cons] at h1
    cases l2 with
    | nil => exact absurd ((h x).1 (by simp)) (by simp)
    | cons y q =>
      rw [List.pairwise_cons] at h2
      have hxy : x = y := by
        rcases List.mem_cons.1 ((h x).1 (by simp)) with e | e
        · exact e
        · rcases List.mem_cons.1 ((h y).2 (by simp)) with e' | e'
          · exact e'.symm
          · have a := h1.1 y e'
            have b := h2.1 x e
            omega
      subst hxy
      rw [ih h1.2 h2.2 (fun s => ?_)]
      constructor
      · intro hs
        rcases List.mem_cons.1 ((h s).1 (List.mem_cons_of_mem _ hs)) with e | e
        · subst e; exact absurd (h1.1 s hs) (Nat.lt_irrefl _)
        · exact e
      · intro hs
        rcases List.mem_cons.1 ((h s).2 (List.mem_cons_of_mem _ hs)) with e | e
        · subst e; exact absurd (h2.1 s hs) (Nat.lt_irrefl _)
        · exact e
end Go.Proofs.YtbiadclmonakkaaGreatDoor

/-
  Segments on a plain disk; what a crash leaves of them; what is found of them. No program here.
-/
namespace Go.Proofs.YtbiadclmonakkaaGreatDoor

theorem crashK_lk4 {fs : List (ByteArray × AFile)} (h : SortedF fs) (keeps : List Int) (k : Nat) (hk : k ≤ fs.length) (s : ByteArray) :
    (lk fs s = none → lk (crashK fs keeps k) s = none) ∧ ∀ i (hi : i < fs.length), (fs[i]).1 = s → (i < k → ∃ x, lk (crashK fs keeps k) s = some ((fs[i]).2.kept x)) ∧ (¬ i < k → lk (crashK fs keeps k) s = some (fs[i]).2) := by
  induction k with
  | zero =>
    refine ⟨fun h => h, fun i hi e => ⟨fun h0 => by omega, fun _ => ?_⟩⟩
    subst e
    exact mem_lk h (List.getElem_mem hi)
  | succ k ih =>
    obtain ⟨i1, i2⟩ := ih (by omega)
    have hkl : k < fs.length := by omega
    have hm : lk fs (fs[k]).1 = some (fs[k]).2 := mem_lk h (List.getElem_mem hkl)
    simp only [crashK]
    rw [List.getElem?_eq_getElem hkl]
    simp only [lk_putF]
    by_cases hs : s = (fs[k]).1
    · rw [if_pos hs]
      subst hs
      refine ⟨fun hn => (by rw [hm] at hn; cases hn), fun i hi e => ?_⟩
      have hm2 : lk fs (fs[i]).1 = some (fs[i]).2 := mem_lk h (List.getElem_mem hi)
      rw [e, hm] at hm2
      have he : (fs[k]).2 = (fs[i]).2 := Option.some.inj hm2
      have hik : i = k := by
        rcases Nat.lt_trichotomy i k with h1 | h1 | h1
        · have := List.pairwise_iff_getElem.1 h i k hi hkl h1
          rw [e] at this
          exact absurd this (by simp [ltS])
        · exact h1
        · have := List.pairwise_iff_getElem.1 h k i hkl hi h1
          rw [e] at this
          exact absurd this (by simp [ltS])
      subst hik
      exact ⟨fun _ => ⟨_, rfl⟩, fun hn => by omega⟩
    · rw [if_neg hs]
      refine ⟨i1, fun i hi e => ?_⟩
      have hik : i ≠ k := fun h0 => by subst h0; exact hs e.symm
      obtain ⟨j1, j2⟩ := i2 i hi e
      exact ⟨fun h0 => j1 (by omega), fun h0 => j2 (by omega)⟩
/-- what a crash leaves of a file. -/
theorem crash_lk4 {d : ADisk} (h : SortedF d.fs) (keeps : List Int) (s : ByteArray) :
    (lk d.fs s = none → lk (d.crash keeps).fs s = none) ∧ ∀ f, lk d.fs s = some f → ∃ x, lk (d.crash keeps).fs s = some (f.kept x) := by
  obtain ⟨h1, h2⟩ := crashK_lk4 h keeps d.fs.length (Nat.le_refl _) s
  refine ⟨h1, fun f hf => ?_⟩
  obtain ⟨i, hi, e⟩ := List.getElem_of_mem (lk_some_mem hf)
  obtain ⟨x, hx⟩ := (h2 i hi (by rw [e])).1 hi
  rw [e] at hx
  exact ⟨x, hx⟩
theorem crash_sorted4 {d : ADisk} (h : SortedF d.fs) (keeps : List Int) : SortedF (d.crash keeps).fs := crashK_sorted h keeps _

/-- no segment lies on the disk. -/
structure Bare (d : ADisk) : Prop where
  sorted : SortedF d.fs
  only : ∀ n, 1 ≤ n → n ≤ 9007199254740992 → lk d.fs (wName n) = none
/-- how many bytes hold the records up to a number. -/
def need (x : Seg) (sy : Nat) : Nat := if sy < x.1 then 0 else (hd4 x.1 ++ wFrames sumL x.1 (x.2.take (sy + 1 - x.1))).length
/-- segments on a disk: of the last one its first t bytes, all others whole; what is up to sy is firm. -/
structure Lies (d : ADisk) (pre : List Seg) (x : Seg) (t sy : Nat) : Prop where
  sorted : SortedF d.fs
  ch : chain (pre ++ [x])
  full : ∀ y ∈ pre, lk d.fs (wName y.1) = some ⟨cont y, []⟩
  last : ∃ f, lk d.fs (wName x.1) = some f ∧ f.firm ++ f.loose = (cont x).take t ∧ need x sy ≤ f.firm.length
  fits : t ≤ (cont x).length
  only : ∀ n, 1 ≤ n → n ≤ 9007199254740992 → lk d.fs (wName n) ≠ none → n ∈ (pre ++ [x]).map (·.1)

theorem kept_take {f : AFile} {c : List UInt8} {t : Nat} (h : f.firm ++ f.loose = c.take t) (ht : t ≤ c.length) (y : Int) :
    ∃ u, u ≤ t ∧ f.firm.length ≤ u ∧ f.kept y = ⟨c.take u, []⟩ := by
  have hl : f.firm.length + f.loose.length = t := by
    have := congrArg List.length h
    rw [List.length_append, List.length_take] at this
    omega
  refine ⟨f.firm.length + (min (max y 0) f.loose.length).toNat, by omega, by omega, ?_⟩
  unfold AFile.kept
  rw [h, List.take_take, Nat.min_eq_left (by omega)]
theorem Lies.crash {d : ADisk} {pre : List Seg} {x : Seg} {t sy : Nat} (h : Lies d pre x t sy) (keeps : List Int) :
    ∃ u, u ≤ t ∧ Lies (d.crash keeps) pre x u sy ∧ lk (d.crash keeps).fs (wName x.1) = some ⟨(cont x).take u, []⟩ := by
  obtain ⟨f, hf, hc, hn⟩ := h.last
  obtain ⟨y, hy⟩ := (crash_lk4 h.sorted keeps (wName x.1)).2 f hf
  obtain ⟨u, hu, hfu, hk⟩ := kept_take hc h.fits y
  rw [hk] at hy
  have hfit := h.fits
  refine ⟨u, hu, ⟨crash_sorted4 h.sorted keeps, h.ch, fun z hz => ?_, ⟨_, hy, by rw [List.append_nil], ?_⟩, by omega, fun n h0 h1 h2 => ?_⟩, hy⟩
  · obtain ⟨v, hv⟩ := (crash_lk4 h.sorted keeps (wName z.1)).2 _ (h.full z hz)
    obtain ⟨u2, h1, h2, h3⟩ := kept_take (f := ⟨cont z, []⟩) (c := cont z) (t := (cont z).length) (by simp) (Nat.le_refl _) v
    rw [h3] at hv
    simp only at h2
    rw [hv, List.take_of_length_le h2]
  · show need x sy ≤ ((cont x).take u).length
    rw [List.length_take]; omega
  · refine h.only n h0 h1 (fun e => h2 ?_)
    exact (crash_lk4 h.sorted keeps (wName n)).1 e
theorem Bare.crash {d : ADisk} (h : Bare d) (keeps : List Int) : Bare (d.crash keeps) :=
  ⟨crash_sorted4 h.sorted keeps, fun n h0 h1 => (crash_lk4 h.sorted keeps (wName n)).1 (h.only n h0 h1)⟩

/-- the numbers of a disk's segments. -/
theorem mem_segs {d : ADisk} (hs : SortedF d.fs) (n : Nat) : n ∈ segsOf d ↔ 1 ≤ n ∧ n ≤ 9007199254740992 ∧ lk d.fs (wName n) ≠ none := by
  unfold segsOf
  rw [List.mem_mergeSort, List.mem_filterMap]
  constructor
  · rintro ⟨s, hs1, hs2⟩
    obtain ⟨rfl, h0, h1⟩ := wNum_some hs2
    refine ⟨h0, h1, ?_⟩
    unfold ADisk.names at hs1
    obtain ⟨p, hp, e⟩ := List.mem_map.1 hs1
    obtain ⟨q, f⟩ := p
    simp only at e
    subst e
    rw [mem_lk hs hp]
    simp
  · rintro ⟨h0, h1, h2⟩
    cases hl : lk d.fs (wName n) with
    | none => exact absurd hl h2
    | some f => exact ⟨wName n, List.mem_map.2 ⟨_, lk_some_mem hl, rfl⟩, wNum_name h0 h1⟩
theorem segs_rise {d : ADisk} (hs : SortedF d.fs) : (segsOf d).Pairwise (· < ·) := by
  have h1 : (segsOf d).Pairwise (fun a b => leN a b = true) := by
    unfold segsOf
    exact List.pairwise_mergeSort (fun a b c h1 h2 => by simp only [leN, decide_eq_true_eq] at *; omega) (fun a b => by simp only [leN, Bool.or_eq_true, decide_eq_true_eq]; omega) _
  have h2 : (segsOf d).Nodup := by
    unfold segsOf
    refine (List.mergeSort_perm _ _).nodup_iff.2 ?_
    unfold ADisk.names
    rw [List.Nodup, List.pairwise_filterMap]
    rw [List.pairwise_map]
    refine hs.imp fun {a b} hab n hn m hm e => ?_
    subst e
    rw [(wNum_some hn).1, (wNum_some hm).1] at hab
    simp only [ltS, decide_eq_true_eq] at hab
    exact List.lt_irrefl _ hab
  refine (h1.and h2).imp fun {a b} hab => ?_
  have := hab.1
  simp only [leN, decide_eq_true_eq] at this
  have := hab.2
  omega
theorem Lies.segs {d : ADisk} {pre : List Seg} {x : Seg} {t sy : Nat} (h : Lies d pre x t sy) : segsOf d = (pre ++ [x]).map (·.1) := by
  refine rise_ext (segs_rise h.sorted) (chain_firsts h.ch) (fun n => ?_)
  rw [mem_segs h.sorted]
  constructor
  · rintro ⟨h0, h1, h2⟩
    exact h.only n h0 h1 h2
  · intro hn
    obtain ⟨y, hy, rfl⟩ := List.mem_map.1 hn
    have hok := chain_ok h.ch y hy
    refine ⟨hok.lo, hok.hi, ?_⟩
    rcases List.mem_append.1 hy with hy | hy
    · rw [h.full y hy]; simp
    · simp at hy; subst hy
      obtain ⟨f, hf, _⟩ := h.last
      rw [hf]; simp
theorem Bare.segs {d : ADisk} (h : Bare d) : segsOf d = [] := by
  refine rise_ext (segs_rise h.sorted) List.Pairwise.nil (fun n => ?_)
  rw [mem_segs h.sorted]
  constructor
  · rintro ⟨h0, h1, h2⟩; exact absurd (h.only n h0 h1) h2
  · intro hn; cases hn

/-- a segment, as a log has it. -/
def segV (y : Seg) : Nat × Bool := (y.1, !y.2.isEmpty)
def allRecs (ss : List Seg) : List ARec := ss.flatMap fun y => numbered y.1 y.2
def nextOf (ss : List Seg) : Nat := (ss.getLast?.map fun y => y.1 + y.2.length).getD 0
def lenOf (ss : List Seg) : Nat := (ss.getLast?.map fun y => (cont y).length).getD 0
/-- what is found of whole segments. -/
def fPre (ss : List Seg) : AFound := ⟨ss.map segV, nextOf ss, lenOf ss, lenOf ss, allRecs ss, 0⟩
theorem nextOf_last (pre : List Seg) (x : Seg) : nextOf (pre ++ [x]) = x.1 + x.2.length := by simp [nextOf]
theorem lenOf_last (pre : List Seg) (x : Seg) : lenOf (pre ++ [x]) = (cont x).length := by simp [lenOf]
theorem allRecs_last (pre : List Seg) (x : Seg) : allRecs (pre ++ [x]) = allRecs pre ++ numbered x.1 x.2 := by simp [allRecs]
theorem head_cont (x : Seg) : isHead4 (cont x) x.1 = true := by unfold isHead4 cont; rw [List.take_left]; simp
theorem recs_cont {x : Seg} (h : SegOk x) : recsOf (cont x) x.1 = x.2 ∧ goodOf (cont x) x.1 = (cont x).length := by
  have h1 := wRecs_frames sumL_len x.1 x.2 h.top h.small []
  rw [List.append_nil, wRecs_none sumL (wRec_nil sumL)] at h1
  unfold recsOf goodOf cont
  rw [List.drop_left, h1]
  simp
/-- of the first bytes of a segment. -/
theorem recs_take {x : Seg} (h : SegOk x) (t : Nat) (ht : (hd4 x.1).length ≤ t) :
    isHead4 ((cont x).take t) x.1 = true ∧ recsOf ((cont x).take t) x.1 = x.2.take (fitN x.1 x.2 (t - (hd4 x.1).length)) ∧
      goodOf ((cont x).take t) x.1 = (cont (x.1, x.2.take (fitN x.1 x.2 (t - (hd4 x.1).length)))).length := by
  have he : (cont x).take t = hd4 x.1 ++ (wFrames sumL x.1 x.2).take (t - (hd4 x.1).length) := by
    unfold cont
    rw [List.take_append, List.take_of_length_le ht]
  have h1 := wRecs_take x.1 x.2 (t - (hd4 x.1).length) h.top h.small
  unfold isHead4 recsOf goodOf
  rw [he, List.take_left, List.drop_left, h1]
  refine ⟨by simp, rfl, ?_⟩
  unfold cont
  rw [List.length_append]
theorem head_short {x : Seg} (t : Nat) (ht : t < (hd4 x.1).length) : isHead4 ((cont x).take t) x.1 = false := by
  unfold isHead4
  rw [decide_eq_false_iff_not]
  intro e
  have := congrArg List.length e
  rw [List.length_take, List.length_take] at this
  omega
theorem read_of {d : ADisk} (hd : d.down = false) {s : ByteArray} {f : AFile} (h : lk d.fs s = some f) : findErr d s = 0 ∧ d.readBytes s = f.firm ++ f.loose := by
  have h1 : findErr d s = 0 := by unfold findErr; rw [h, if_neg (by simp [hd])]; rfl
  refine ⟨h1, ?_⟩
  unfold ADisk.readBytes afile
  rw [if_pos h1, h]
  rfl
theorem fPre_add (dn : List Seg) (y : Seg) (hok : SegOk y) : (fPre dn).add (cont y) y.1 = fPre (dn ++ [y]) := by
  obtain ⟨r1, r2⟩ := recs_cont hok
  unfold AFound.add fPre
  simp only [r1, r2, nextOf_last, lenOf_last, allRecs_last, List.map_append, List.map_cons, List.map_nil]
  rfl
theorem chain_next {dn : List Seg} {y : Seg} {r : List Seg} (h : chain (dn ++ y :: r)) (hd : dn ≠ []) : y.1 = nextOf dn := by
  induction dn with
  | nil => exact absurd rfl hd
  | cons x dn ih =>
    cases dn with
    | nil => exact h.2.2.1
    | cons z dn =>
      have := ih h.2.2.2 (by simp)
      rw [this]
      simp [nextOf]
theorem chain_some {dn : List Seg} {y z : Seg} {r : List Seg} (h : chain (dn ++ y :: z :: r)) : y.2 ≠ [] := by
  induction dn with
  | nil => exact h.2.1
  | cons x dn ih =>
    cases dn with
    | nil => exact h.2.2.2.2.1
    | cons u dn => exact ih h.2.2.2
/-- whole segments are found, one behind the other. -/
theorem look_whole {d : ADisk} (hd : d.down = false) (dn ys : List Seg) (x : Seg) (hc : chain (dn ++ ys ++ [x])) (hf : ∀ y ∈ ys, lk d.fs (wName y.1) = some ⟨cont y, []⟩) :
    wLook d (fPre dn) ((ys ++ [x]).map (·.1)) = wLook d (fPre (dn ++ ys)) [x.1] := by
  induction ys generalizing dn with
  | nil => simp
  | cons y ys ih =>
    have hy := hf y (by simp)
    have hok : SegOk y := chain_ok hc y (by simp)
    obtain ⟨e1, e2⟩ := read_of hd hy
    obtain ⟨r1, r2⟩ := recs_cont hok
    have hne : (ys ++ [x]).map (·.1) ≠ [] := by simp
    have hc2 : chain (dn ++ y :: (ys ++ [x])) := by simpa using hc
    have hsome : y.2 ≠ [] := by
      cases ys with
      | nil => exact chain_some hc2
      | cons z ys => exact chain_some (r := ys ++ [x]) (by simpa using hc2)
    have hnx : (fPre dn).segs ≠ [] → y.1 = (fPre dn).next := fun h => chain_next hc2 (fun e => h (by rw [e]; rfl))
    rw [List.cons_append, List.map_cons, wLook, if_neg (by simp [e1]), e2]
    simp only [List.append_nil]
    rw [if_neg (by rintro ⟨h1, _⟩; rw [head_cont] at h1; cases h1), if_neg, fPre_add dn y hok, ih (dn ++ [y]) (by simpa using hc) (fun z hz => hf z (List.mem_cons_of_mem _ hz))]
    · simp
    · rintro (h1 | ⟨h1, h2⟩ | ⟨_, h1 | h1⟩)
      · rw [head_cont] at h1; cases h1
      · exact h2 (hnx h1)
      · rw [r1] at h1; exact hsome h1
      · rw [r2] at h1; exact Nat.lt_irrefl _ h1
/-- what is found where a journal lies. -/
def foundOf (pre : List Seg) (x : Seg) (t : Nat) : AFound :=
  if t < (hd4 x.1).length then { fPre pre with none := x.1 }
  else { fPre (pre ++ [(x.1, x.2.take (fitN x.1 x.2 (t - (hd4 x.1).length)))]) with bytes := t }
theorem Lies.look {d : ADisk} {pre : List Seg} {x : Seg} {t sy : Nat} (h : Lies d pre x t sy) (hd : d.down = false) : wLook d f0 (segsOf d) = (foundOf pre x t, 0) := by
  obtain ⟨f, hf, hc, _⟩ := h.last
  obtain ⟨e1, e2⟩ := read_of hd hf
  rw [hc] at e2
  have hok : SegOk x := chain_ok h.ch x (by simp)
  have hnx : (fPre pre).segs ≠ [] → x.1 = (fPre pre).next := fun h0 => chain_next (r := []) h.ch (fun e => h0 (by rw [e]; rfl))
  rw [h.segs, show f0 = fPre [] from rfl, look_whole hd [] pre x (by simpa using h.ch) h.full, List.nil_append]
  rw [wLook, if_neg (by simp [e1]), e2]
  simp only
  unfold foundOf
  by_cases ht : t < (hd4 x.1).length
  · rw [if_pos ht, if_pos ⟨head_short t ht, trivial⟩]
  · obtain ⟨r0, r1, r2⟩ := recs_take hok t (by omega)
    have hl : ((cont x).take t).length = t := by rw [List.length_take]; have := h.fits; omega
    rw [if_neg ht, if_neg (by rintro ⟨h1, _⟩; rw [r0] at h1; cases h1), if_neg, wLook]
    · congr 1
      unfold AFound.add fPre
      simp only [r1, r2, hl, nextOf_last, lenOf_last, allRecs_last, List.map_append, List.map_cons, List.map_nil]
      rfl
    · rintro (h1 | ⟨h1, h2⟩ | ⟨h1, _⟩)
      · rw [r0] at h1; cases h1
      · exact h2 (hnx h1)
      · exact h1 rfl
theorem Bare.look {d : ADisk} (h : Bare d) : wLook d f0 (segsOf d) = (f0, 0) := by rw [h.segs]; rfl
end Go.Proofs.YtbiadclmonakkaaGreatDoor

/-
  Open on a plain disk. No program here.
-/
namespace Go.Proofs.YtbiadclmonakkaaGreatDoor

/-- how much a disk has grown at most. -/
structure Grow (d d' : ADisk) (a k : Nat) : Prop where
  most : d'.most = d.most
  used : usedF d'.fs ≤ usedF d.fs + a
  len : d'.fs.length ≤ d.fs.length + k
theorem Grow.refl (d : ADisk) : Grow d d 0 0 := ⟨rfl, Nat.le_refl _, Nat.le_refl _⟩
theorem Grow.fail (d : ADisk) : Grow d d.fail 0 0 := ⟨rfl, Nat.le_refl _, Nat.le_refl _⟩
theorem Grow.trans {d d1 d2 : ADisk} {a k b j : Nat} (h : Grow d d1 a k) (g : Grow d1 d2 b j) : Grow d d2 (a + b) (k + j) :=
  ⟨g.most.trans h.most, by have := h.used; have := g.used; omega, by have := h.len; have := g.len; omega⟩
theorem Grow.mono {d d' : ADisk} {a k b j : Nat} (h : Grow d d' a k) (ha : a ≤ b) (hk : k ≤ j) : Grow d d' b j :=
  ⟨h.most, by have := h.used; omega, by have := h.len; omega⟩
theorem putF_len (fs : List (ByteArray × AFile)) (s : ByteArray) (f : AFile) : (putF fs s f).length ≤ fs.length + 1 := by
  induction fs with
  | nil => simp [putF]
  | cons q r ih =>
    simp only [putF]
    split
    · simp
    · split
      · simp
      · simp only [List.length_cons]; omega
theorem putF_len0 {fs : List (ByteArray × AFile)} {s : ByteArray} (f : AFile) (h : (lk fs s).isSome = true) (hs : SortedF fs) : (putF fs s f).length ≤ fs.length := by
  induction fs with
  | nil => simp [lk] at h
  | cons q r ih =>
    simp only [putF]
    split
    · simp
    · rename_i hq
      split
      · rename_i hlt
        exfalso
        have hne : q.1 ≠ s := hq
        rw [lk_cons, if_neg hne] at h
        cases hl : lk r s with
        | none => rw [hl] at h; cases h
        | some g =>
          have hm := lk_some_mem hl
          have hp := (List.pairwise_cons.1 hs).1 _ hm
          simp only [ltS, decide_eq_true_eq] at hlt hp
          exact absurd (List.lt_trans hlt hp) (List.lt_irrefl _)
      · have hne : q.1 ≠ s := hq
        rw [lk_cons, if_neg hne] at h
        have := ih h (List.pairwise_cons.1 hs).2
        simp only [List.length_cons]; omega
theorem delF_len (fs : List (ByteArray × AFile)) (s : ByteArray) : (delF fs s).length ≤ fs.length := List.length_filter_le _ _
theorem put_grow {d : ADisk} (hs : SortedF d.fs) {s : ByteArray} {f : AFile} {a k : Nat} (hl : f.len ≤ (afile d s).len + a) (hk : (lk d.fs s).isSome = true ∨ 1 ≤ k) : Grow d (d.put s f) a k := by
  unfold ADisk.put
  split
  · exact (Grow.fail d).mono (Nat.zero_le _) (Nat.zero_le _)
  · refine ⟨rfl, ?_, ?_⟩
    · show usedF (putF d.fs s f) ≤ _
      have h1 := used_putF hs s f
      have h2 : ((lk d.fs s).map AFile.len).getD 0 = (afile d s).len := by
        unfold afile
        cases lk d.fs s <;> rfl
      rw [h2] at h1
      omega
    · show (putF d.fs s f).length ≤ _
      rcases hk with hk | hk
      · have := putF_len0 f hk hs; omega
      · have := putF_len d.fs s f; omega
theorem sync_grow {d : ADisk} (hs : SortedF d.fs) (s : ByteArray) : Grow d (d.sync s) 0 0 := by
  unfold ADisk.sync
  split
  · exact Grow.refl d
  · split
    · exact Grow.refl d
    · rename_i h1 h2
      unfold ADisk.cutTo
      refine put_grow hs ?_ (Or.inl ?_)
      · simp only [AFile.len, List.length_take, List.length_nil, List.length_append]; omega
      · cases hl : lk d.fs s with
        | none => rw [hl] at h2; exact absurd rfl h2
        | some f => rfl
theorem append_grow {d : ADisk} (hs : SortedF d.fs) (s : ByteArray) (b : List UInt8) : Grow d (d.append s b) b.length 1 := by
  unfold ADisk.append
  split
  · exact (Grow.refl d).mono (Nat.zero_le _) (Nat.zero_le _)
  · split
    · exact (Grow.refl d).mono (Nat.zero_le _) (Nat.zero_le _)
    · split
      · exact (Grow.refl d).mono (Nat.zero_le _) (Nat.zero_le _)
      · split
        · exact (Grow.refl d).mono (Nat.zero_le _) (Nat.zero_le _)
        · refine put_grow hs ?_ (Or.inr (Nat.le_refl _))
          simp only [AFile.len, List.length_append]; omega
theorem remove_grow {d : ADisk} (hs : SortedF d.fs) (s : ByteArray) : Grow d (d.remove s) 0 0 := by
  unfold ADisk.remove
  split
  · exact Grow.refl d
  · split
    · exact Grow.refl d
    · split
      · exact Grow.fail d
      · refine ⟨rfl, ?_, delF_len _ _⟩
        show usedF (delF d.fs s) ≤ _
        have := used_delF hs s
        omega
/-- why something may have failed. -/
def Why (d : ADisk) (a k : Nat) : Prop := d.left ≠ -1 ∨ d.most < (usedF d.fs + a : Nat) ∨ 200 ≤ d.fs.length + k
theorem Why.mono {d : ADisk} {a k b j : Nat} (h : Why d a k) (ha : a ≤ b) (hk : k ≤ j) : Why d b j := by
  rcases h with h | h | h
  · exact Or.inl h
  · exact Or.inr (Or.inl (by omega))
  · exact Or.inr (Or.inr (by omega))
theorem Why.of {d d1 : ADisk} {a k b j : Nat} (h : Why d1 b j) (g : Grow d d1 a k) (hl : d.left = -1 → d1.left = -1) : Why d (a + b) (k + j) := by
  rcases h with h | h | h
  · exact Or.inl (fun e => h (hl e))
  · refine Or.inr (Or.inl ?_)
    have := g.most
    have := g.used
    omega
  · refine Or.inr (Or.inr ?_)
    have := g.len
    omega
/-- one file is put. -/
theorem put_cases {d : ADisk} (hs : SortedF d.fs) (s : ByteArray) (f : AFile) :
    (d.left = 0 ∧ d.put s f = d.fail ∧ d.err = 15) ∨ (d.left ≠ 0 ∧ d.err = 0 ∧ (d.put s f).down = false ∧ SortedF (d.put s f).fs ∧ (∀ u, lk (d.put s f).fs u = if u = s then some f else lk d.fs u) ∧ (d.left = -1 → (d.put s f).left = -1)) := by
  unfold ADisk.put ADisk.err
  by_cases h0 : d.left = 0
  · left; rw [if_pos h0, if_pos h0]; exact ⟨h0, rfl, rfl⟩
  · right
    rw [if_neg h0, if_neg h0]
    refine ⟨h0, rfl, rfl, sorted_putF hs _ _, fun u => lk_putF _ _ _ _, fun hl => ?_⟩
    show max (d.left - 1) (-1) = -1
    rw [hl]; rfl
/-- a file is removed. -/
theorem remove_cases {d : ADisk} (hs : SortedF d.fs) (hd : d.down = false) {s : ByteArray} {f : AFile} (hl : lk d.fs s = some f) :
    (d.left = 0 ∧ d.remove s = d.fail ∧ d.removeErr s = 15) ∨ (d.left ≠ 0 ∧ d.removeErr s = 0 ∧ (d.remove s).down = false ∧ SortedF (d.remove s).fs ∧ (∀ u, lk (d.remove s).fs u = if u = s then none else lk d.fs u) ∧ (d.left = -1 → (d.remove s).left = -1)) := by
  have e1 : d.remove s = if d.left = 0 then d.fail else { d.tick with fs := delF d.fs s } := by unfold ADisk.remove; rw [if_neg (by simp [hd]), if_neg (by rw [hl]; simp)]
  have e2 : d.removeErr s = if d.left = 0 then 15 else 0 := by unfold ADisk.removeErr; rw [if_neg (by simp [hd]), if_neg (by rw [hl]; simp)]; rfl
  rw [e1, e2]
  by_cases h0 : d.left = 0
  · left; rw [if_pos h0, if_pos h0]; exact ⟨h0, rfl, rfl⟩
  · right
    rw [if_neg h0, if_neg h0]
    refine ⟨h0, rfl, rfl, sorted_delF hs _, fun u => lk_delF _ _ _, fun hl => ?_⟩
    show max (d.left - 1) (-1) = -1
    rw [hl]; rfl
/-- a file is synced. -/
theorem sync_cases {d : ADisk} (hs : SortedF d.fs) (hd : d.down = false) {s : ByteArray} {f : AFile} (hl : lk d.fs s = some f) :
    (d.left = 0 ∧ d.sync s = d.fail ∧ d.syncErr s = 15) ∨ (d.left ≠ 0 ∧ d.syncErr s = 0 ∧ (d.sync s).down = false ∧ SortedF (d.sync s).fs ∧ (∀ u, lk (d.sync s).fs u = if u = s then some ⟨f.firm ++ f.loose, []⟩ else lk d.fs u) ∧ (d.left = -1 → (d.sync s).left = -1)) := by
  have ha : afile d s = f := by unfold afile; rw [hl]; rfl
  have e1 : d.sync s = d.put s ⟨f.firm ++ f.loose, []⟩ := by
    unfold ADisk.sync ADisk.cutTo
    rw [if_neg (by simp [hd]), if_neg (by rw [hl]; simp), ha, List.take_of_length_le (by simp [AFile.len])]
  have e2 : d.syncErr s = d.err := by unfold ADisk.syncErr; rw [if_neg (by simp [hd]), if_neg (by rw [hl]; simp)]
  rw [e1, e2]
  rcases put_cases hs s ⟨f.firm ++ f.loose, []⟩ with ⟨h0, h1, h2⟩ | ⟨h0, h1, h2⟩
  · exact Or.inl ⟨h0, h1, h2⟩
  · exact Or.inr ⟨h0, h1, h2⟩
/-- a file is cut. -/
theorem cut_cases {d : ADisk} (hs : SortedF d.fs) (hd : d.down = false) {s : ByteArray} {f : AFile} (hl : lk d.fs s = some f) (n : Nat) (hn : n ≤ (f.firm ++ f.loose).length) :
    (d.left = 0 ∧ d.cut s n = d.fail ∧ d.cutErr s n = 15) ∨ (d.left ≠ 0 ∧ d.cutErr s n = 0 ∧ (d.cut s n).down = false ∧ SortedF (d.cut s n).fs ∧ (∀ u, lk (d.cut s n).fs u = if u = s then some ⟨(f.firm ++ f.loose).take n, []⟩ else lk d.fs u) ∧ (d.left = -1 → (d.cut s n).left = -1)) := by
  have ha : afile d s = f := by unfold afile; rw [hl]; rfl
  rw [List.length_append] at hn
  have hno : ¬ ((n : Int) < 0 ∨ ((afile d s).len : Int) < n) := by rw [ha]; unfold AFile.len; omega
  have e1 : d.cut s n = d.put s ⟨(f.firm ++ f.loose).take n, []⟩ := by
    unfold ADisk.cut ADisk.cutTo
    rw [if_neg (by simp [hd]), if_neg (by rw [hl]; simp), if_neg hno, ha, Int.toNat_natCast]
  have e2 : d.cutErr s n = d.err := by unfold ADisk.cutErr; rw [if_neg (by simp [hd]), if_neg (by rw [hl]; simp), if_neg hno]
  rw [e1, e2]
  rcases put_cases hs s ⟨(f.firm ++ f.loose).take n, []⟩ with ⟨h0, h1, h2⟩ | ⟨h0, h1, h2⟩
  · exact Or.inl ⟨h0, h1, h2⟩
  · exact Or.inr ⟨h0, h1, h2⟩

theorem need_le (x : Seg) (sy : Nat) : need x sy ≤ (cont x).length := by
  unfold need
  split
  · exact Nat.zero_le _
  · unfold cont
    rw [List.length_append, List.length_append]
    have h := wFrames_app sumL x.1 (x.2.take (sy + 1 - x.1)) (x.2.drop (sy + 1 - x.1))
    rw [List.take_append_drop] at h
    rw [h, List.length_append]
    omega
/-- segments on a disk, or none. -/
inductive On (d : ADisk) : List Seg → Nat → Prop
  | bare {sy : Nat} : Bare d → On d [] sy
  | some {pre : List Seg} {x : Seg} {t sy : Nat} : Lies d pre x t sy → On d (pre ++ [x]) sy
/-- the same, the last one whole too. -/
inductive OnF (d : ADisk) : List Seg → Nat → Prop
  | bare {sy : Nat} : Bare d → OnF d [] sy
  | some {pre : List Seg} {x : Seg} {sy : Nat} : Lies d pre x (cont x).length sy → OnF d (pre ++ [x]) sy
theorem OnF.on {d : ADisk} {ss : List Seg} {sy : Nat} (h : OnF d ss sy) : On d ss sy := by
  cases h with
  | bare h => exact On.bare h
  | some h => exact On.some h
theorem Lies.same {d d' : ADisk} {pre : List Seg} {x : Seg} {t sy : Nat} (h : Lies d pre x t sy) (hs : SortedF d'.fs) (he : ∀ u, lk d'.fs u = lk d.fs u) : Lies d' pre x t sy := by
  obtain ⟨f, hf, hr⟩ := h.last
  exact ⟨hs, h.ch, fun y hy => by rw [he]; exact h.full y hy, ⟨f, by rw [he]; exact hf, hr⟩, h.fits, fun n h0 h1 h2 => h.only n h0 h1 (by rw [← he]; exact h2)⟩
theorem Lies.fail {d : ADisk} {pre : List Seg} {x : Seg} {t sy : Nat} (h : Lies d pre x t sy) : Lies d.fail pre x t sy := h.same h.sorted (fun _ => rfl)
/-- whole segments that are all firm. -/
theorem Lies.firm {d : ADisk} {pre : List Seg} {x : Seg} (sy : Nat) (hs : SortedF d.fs) (hc : chain (pre ++ [x])) (hf : ∀ y ∈ pre, lk d.fs (wName y.1) = some ⟨cont y, []⟩) (hl : lk d.fs (wName x.1) = some ⟨cont x, []⟩)
    (ho : ∀ n, 1 ≤ n → n ≤ 9007199254740992 → lk d.fs (wName n) ≠ none → n ∈ (pre ++ [x]).map (·.1)) : Lies d pre x (cont x).length sy :=
  ⟨hs, hc, hf, ⟨_, hl, by rw [List.append_nil, List.take_of_length_le (Nat.le_refl _)], need_le x sy⟩, Nat.le_refl _, ho⟩
/-- all that lies is firm. -/
def Firm (d : ADisk) (ss : List Seg) : Prop := ∀ y ∈ ss, lk d.fs (wName y.1) = some ⟨cont y, []⟩

/-- a log that is not over, and its disk. -/
structure J (d : ADisk) (al : ALog) (ss : List Seg) : Prop where
  up : d.down = false
  on : OnF d ss al.synced
  segs : al.segs = ss.map segV
  next : al.next = nextOf ss
  bytes : al.bytes = lenOf ss
  sync : al.synced + 1 ≤ nextOf ss ∨ (ss = [] ∧ al.synced = 0)
  live : al.over = false
/-- what Open leaves of segments: the last one lacks records that were not firm, or is gone. -/
def Trunc (pre : List Seg) (x : Seg) (sy : Nat) (ss' : List Seg) : Prop :=
  (ss' = pre ∧ sy < x.1) ∨ ∃ k, ss' = pre ++ [(x.1, x.2.take k)] ∧ k ≤ x.2.length ∧ (x.1 ≤ sy → min (sy + 1 - x.1) x.2.length ≤ k)
theorem Trunc.refl (pre : List Seg) (x : Seg) (sy : Nat) : Trunc pre x sy (pre ++ [x]) :=
  Or.inr ⟨x.2.length, by rw [List.take_of_length_le (Nat.le_refl _)], Nat.le_refl _, fun _ => Nat.min_le_right _ _⟩
theorem chain_pre {pre : List Seg} {x : Seg} (h : chain (pre ++ [x])) : chain pre := by
  induction pre with
  | nil => trivial
  | cons y pre ih =>
    cases pre with
    | nil => exact h.1
    | cons z pre => exact ⟨h.1, h.2.1, h.2.2.1, ih h.2.2.2⟩
theorem SegOk.cutK {x : Seg} (h : SegOk x) (k : Nat) : SegOk (x.1, x.2.take k) :=
  ⟨h.lo, h.hi, by have := h.top; simp only [List.length_take]; omega, fun b hb => h.small b (List.mem_of_mem_take hb)⟩
theorem chain_cut {pre : List Seg} {x y : Seg} (h : chain (pre ++ [x])) (hy : SegOk y) (he : y.1 = x.1) : chain (pre ++ [y]) := by
  induction pre with
  | nil => exact hy
  | cons z pre ih =>
    cases pre with
    | nil => exact ⟨h.1, h.2.1, by rw [he]; exact h.2.2.1, hy⟩
    | cons u pre => exact ⟨h.1, h.2.1, h.2.2.1, ih h.2.2.2⟩
theorem cont_prefix (x : Seg) (k t : Nat) (hk : (cont (x.1, x.2.take k)).length ≤ t) : ((cont x).take t).take (cont (x.1, x.2.take k)).length = cont (x.1, x.2.take k) := by
  have h : cont x = cont (x.1, x.2.take k) ++ wFrames sumL (x.1 + (x.2.take k).length) (x.2.drop k) := by
    unfold cont
    have h := wFrames_app sumL x.1 (x.2.take k) (x.2.drop k)
    rw [List.take_append_drop] at h
    rw [h, List.append_assoc]
  rw [List.take_take, Nat.min_eq_left hk, h, List.take_left]
theorem found_cut (x : Seg) (t : Nat) (ht : (hd4 x.1).length ≤ t) : (cont (x.1, x.2.take (fitN x.1 x.2 (t - (hd4 x.1).length)))).length ≤ t := by
  have := fitN_len x.1 x.2 (t - (hd4 x.1).length)
  show (hd4 x.1 ++ wFrames sumL x.1 (x.2.take (fitN x.1 x.2 (t - (hd4 x.1).length)))).length ≤ t
  rw [List.length_append]
  omega
theorem find_up {d : ADisk} (hd : d.down = false) (s : ByteArray) : ¬ (findErr d s ≠ 13 ∧ findErr d s ≠ 0) := by
  unfold findErr
  rw [if_neg (by simp [hd])]
  split <;> simp
theorem lastN_pre (pre : List Seg) (y : Seg) : ((pre ++ [y]).map segV).getLast?.map (·.1) = some y.1 := by simp [segV]
theorem open_bare {d : ADisk} (h : Bare d) (hd : d.down = false) (size : Int) (h0 : 64 ≤ size) (h1 : size ≤ 16777216) : wOpen d size = (d, f0, 0) ∧ J d (f0.log size) [] := by
  refine ⟨?_, hd, OnF.bare h, rfl, rfl, rfl, Or.inr ⟨rfl, rfl⟩, rfl⟩
  unfold wOpen
  rw [if_neg (by omega), if_neg (find_up hd _), h.look]
  rfl
/-- Open where a journal lies. -/
theorem open_law {d : ADisk} {pre : List Seg} {x : Seg} {t sy : Nat} (h : Lies d pre x t sy) (hd : d.down = false) (size : Int) (h0 : 64 ≤ size) (h1 : size ≤ 16777216) :
    ∃ d' ss', Trunc pre x sy ss' ∧
      ((wOpen d size = (d', foundOf pre x t, 0) ∧ J d' ((foundOf pre x t).log size) ss' ∧ (foundOf pre x t).recs = allRecs ss' ∧ Firm d' ss' ∧ (d.left = -1 → d'.left = -1) ∧ (t = (cont x).length → ss' = pre ++ [x])) ∨
        (d.left ≠ -1 ∧ wOpen d size = (d', foundOf pre x t, 15) ∧ d'.down = true ∧ On d' ss' sy)) := by
  obtain ⟨f, hf, hc, hn⟩ := h.last
  have hok : SegOk x := chain_ok h.ch x (by simp)
  have hfit := h.fits
  have hlen : (f.firm ++ f.loose).length = t := by rw [hc, List.length_take]; omega
  have hfl : f.firm.length ≤ t := by rw [List.length_append] at hlen; omega
  have ho : wOpen d size = ((opSteps d (foundOf pre x t)).1, foundOf pre x t, (opSteps d (foundOf pre x t)).2) := by
    unfold wOpen
    rw [if_neg (by omega), if_neg (find_up hd _), h.look hd]
    simp only
    rw [if_neg (fun e => e rfl)]
  rw [ho]
  have hx0 : x.1 ≠ 0 := by have := hok.lo; omega
  by_cases ht : t < (hd4 x.1).length
  · -- the last file is none
    have hsy : sy < x.1 := by
      refine Nat.lt_of_not_le (fun hle => ?_)
      unfold need at hn
      rw [if_neg (by omega), List.length_append] at hn
      omega
    have hfo : foundOf pre x t = { fPre pre with none := x.1 } := by unfold foundOf; rw [if_pos ht]
    have hnot : t ≠ (cont x).length := by
      intro e
      have : (hd4 x.1).length ≤ (cont x).length := by unfold cont; rw [List.length_append]; omega
      omega
    rw [hfo]
    rcases remove_cases h.sorted hd hf with ⟨a0, a1, a2⟩ | ⟨a0, a1, a2, a3, a4, a5⟩
    · refine ⟨d.fail, pre ++ [x], Trunc.refl pre x sy, Or.inr ⟨by omega, ?_, rfl, On.some h.fail⟩⟩
      unfold opSteps opE1 opD1
      simp only
      rw [if_neg hx0, if_neg hx0, a2, if_pos (by decide), a1]
    · have hE1 : opE1 d { fPre pre with none := x.1 } = 0 := by unfold opE1; simp only; rw [if_neg hx0, a1]
      have hD1 : opD1 d { fPre pre with none := x.1 } = d.remove (wName x.1) := by unfold opD1; simp only; rw [if_neg hx0]
      have hE2 : opE2 d { fPre pre with none := x.1 } = 0 := by unfold opE2; exact if_pos (Or.inr rfl)
      have hD2 : opD2 d { fPre pre with none := x.1 } = d.remove (wName x.1) := by unfold opD2; exact (if_pos (Or.inr rfl)).trans hD1
      generalize hW : d.remove (wName x.1) = d1 at *
      have honly : ∀ n, 1 ≤ n → n ≤ 9007199254740992 → lk d1.fs (wName n) ≠ none → n ∈ pre.map (·.1) := by
        intro n n0 n1 n2
        rw [a4] at n2
        by_cases e : wName n = wName x.1
        · rw [if_pos e] at n2; exact absurd rfl n2
        · rw [if_neg e] at n2
          have := h.only n n0 n1 n2
          simp only [List.map_append, List.mem_append, List.map_cons, List.map_nil, List.mem_singleton] at this
          rcases this with this | this
          · exact this
          · subst this; exact absurd rfl e
      have hpre : ∀ y ∈ pre, lk d1.fs (wName y.1) = some ⟨cont y, []⟩ := by
        intro y hy
        rw [a4, if_neg, h.full y hy]
        intro e
        have e2 := wName_inj e
        have hcf := chain_firsts h.ch
        rw [List.map_append, List.pairwise_append] at hcf
        have := hcf.2.2 y.1 (List.mem_map_of_mem hy) x.1 (by simp)
        omega
      rcases List.eq_nil_or_concat pre with rfl | ⟨pre', y, rfl⟩
      · refine ⟨d1, [], Or.inl ⟨rfl, hsy⟩, Or.inl ⟨?_, ⟨a2, OnF.bare ⟨a3, fun n n0 n1 => ?_⟩, rfl, rfl, rfl, Or.inr ⟨rfl, rfl⟩, rfl⟩, rfl, fun y hy => (by cases hy), a5, fun e => absurd e hnot⟩⟩
        · unfold opSteps
          rw [hE1, if_neg (fun e => e rfl), hE2, if_neg (fun e => e rfl)]
          have hD3 : opD3 d { fPre [] with none := x.1 } = d1 := by unfold opD3; exact (if_pos rfl).trans hD2
          have hE3 : opE3 d { fPre [] with none := x.1 } = 0 := by unfold opE3; exact if_pos rfl
          rw [hD3, hE3]
        · cases hl : lk d1.fs (wName n) with
          | none => rfl
          | some g => exact absurd (honly n n0 n1 (by rw [hl]; simp)) (by simp)
      · rw [List.concat_eq_append] at *
        have hy := hpre y (by simp)
        have hlast : AFound.lastN { fPre (pre' ++ [y]) with none := x.1 } = y.1 := by
          unfold AFound.lastN fPre
          simp only
          rw [lastN_pre]; rfl
        have hne : (fPre (pre' ++ [y])).segs ≠ [] := by simp [fPre]
        have hD3 : opD3 d { fPre (pre' ++ [y]) with none := x.1 } = d1.sync (wName y.1) := by
          unfold opD3; rw [if_neg hne, hD2, hlast]
        have hE3 : opE3 d { fPre (pre' ++ [y]) with none := x.1 } = d1.syncErr (wName y.1) := by
          unfold opE3; rw [if_neg hne, hD2, hlast]
        have hst : opSteps d { fPre (pre' ++ [y]) with none := x.1 } = (d1.sync (wName y.1), d1.syncErr (wName y.1)) := by
          unfold opSteps
          rw [hE1, if_neg (fun e => e rfl), hE2, if_neg (fun e => e rfl), hD3, hE3]
        have hcp : chain (pre' ++ [y]) := chain_pre h.ch
        rw [hst]
        rcases sync_cases a3 a2 hy with ⟨b0, b1, b2⟩ | ⟨b0, b1, b2, b3, b4, b5⟩
        · refine ⟨d1.fail, pre' ++ [y], Or.inl ⟨rfl, hsy⟩, Or.inr ⟨fun e => by have := a5 e; omega, by rw [b1, b2], rfl, On.some (Lies.fail (Lies.firm sy a3 hcp (fun z hz => hpre z (by simp [hz])) hy honly))⟩⟩
        · have hsame : ∀ u, lk (d1.sync (wName y.1)).fs u = lk d1.fs u := by
            intro u
            rw [b4]
            split
            · rename_i e; subst e; rw [hy]; simp
            · rfl
          have hfirm : Firm (d1.sync (wName y.1)) (pre' ++ [y]) := fun z hz => by rw [hsame]; exact hpre z hz
          refine ⟨d1.sync (wName y.1), pre' ++ [y], Or.inl ⟨rfl, hsy⟩, Or.inl ⟨by rw [b1], ⟨b2, OnF.some (Lies.firm _ b3 hcp (fun z hz => hfirm z (by simp [hz])) (hfirm y (by simp)) (fun n n0 n1 n2 => honly n n0 n1 (by rw [← hsame]; exact n2))), rfl, rfl, rfl, Or.inl ?_, rfl⟩, rfl, hfirm, fun e => b5 (a5 e), fun e => absurd e hnot⟩⟩
          show nextOf (pre' ++ [y]) - 1 + 1 ≤ nextOf (pre' ++ [y])
          rw [nextOf_last]
          have := (chain_ok hcp y (by simp)).lo
          omega
  · -- the last file has a head
    have ht' : (hd4 x.1).length ≤ t := by omega
    have hfo : foundOf pre x t = { fPre (pre ++ [(x.1, x.2.take (fitN x.1 x.2 (t - (hd4 x.1).length)))]) with bytes := t } := by unfold foundOf; rw [if_neg ht]
    have hcl := found_cut x t ht'
    have hkl := fitN_le x.1 x.2 (t - (hd4 x.1).length)
    have hkm : x.1 ≤ sy → min (sy + 1 - x.1) x.2.length ≤ fitN x.1 x.2 (t - (hd4 x.1).length) := by
      intro hle
      refine fitN_ge x.1 x.2 _ _ ?_ (Nat.min_le_right _ _)
      unfold need at hn
      rw [if_neg (by omega), List.length_append] at hn
      have he : x.2.take (min (sy + 1 - x.1) x.2.length) = x.2.take (sy + 1 - x.1) := by
        rcases Nat.le_total (sy + 1 - x.1) x.2.length with a | a
        · rw [Nat.min_eq_left a]
        · rw [Nat.min_eq_right a, List.take_of_length_le (Nat.le_refl _), List.take_of_length_le a]
      rw [he]; omega
    have hfull : t = (cont x).length → fitN x.1 x.2 (t - (hd4 x.1).length) = x.2.length := by
      intro e
      refine fitN_all x.1 x.2 _ ?_
      rw [e]; unfold cont; rw [List.length_append]; omega
    rw [hfo]
    generalize hk : fitN x.1 x.2 (t - (hd4 x.1).length) = k at *
    have hok' : SegOk (x.1, x.2.take k) := hok.cutK k
    have hch' : chain (pre ++ [(x.1, x.2.take k)]) := chain_cut h.ch hok' rfl
    have hpf := cont_prefix x k t hcl
    generalize hg : (cont (x.1, x.2.take k)).length = g at *
    have htr : Trunc pre x sy (pre ++ [(x.1, x.2.take k)]) := Or.inr ⟨k, rfl, hkl, hkm⟩
    have hlast : AFound.lastN { fPre (pre ++ [(x.1, x.2.take k)]) with bytes := t } = x.1 := by
      unfold AFound.lastN fPre
      simp only
      rw [lastN_pre]; rfl
    have hgood : (fPre (pre ++ [(x.1, x.2.take k)])).good = g := by unfold fPre; simp only; rw [lenOf_last, hg]
    have hne : (fPre (pre ++ [(x.1, x.2.take k)])).segs ≠ [] := by simp [fPre]
    have hE1 : opE1 d { fPre (pre ++ [(x.1, x.2.take k)]) with bytes := t } = 0 := by unfold opE1; exact if_pos rfl
    have hD1 : opD1 d { fPre (pre ++ [(x.1, x.2.take k)]) with bytes := t } = d := by unfold opD1; exact if_pos rfl
    have hsy1 : nextOf (pre ++ [(x.1, x.2.take k)]) - 1 + 1 ≤ nextOf (pre ++ [(x.1, x.2.take k)]) := by
      rw [nextOf_last]
      have := hok.lo
      simp only
      omega
    have hfin : ∀ d2 : ADisk, d2.down = false → SortedF d2.fs → (∀ u, lk d2.fs u = if u = wName x.1 then some ⟨cont (x.1, x.2.take k), []⟩ else lk d.fs u) →
        J d2 (AFound.log { fPre (pre ++ [(x.1, x.2.take k)]) with bytes := t } size) (pre ++ [(x.1, x.2.take k)]) ∧ Firm d2 (pre ++ [(x.1, x.2.take k)]) ∧ ∀ sy', Lies d2 pre (x.1, x.2.take k) (cont (x.1, x.2.take k)).length sy' := by
      intro d2 u1 u2 u3
      have hpre : ∀ y ∈ pre, lk d2.fs (wName y.1) = some ⟨cont y, []⟩ := by
        intro y hy
        rw [u3, if_neg, h.full y hy]
        intro e
        have e2 := wName_inj e
        have hcf := chain_firsts h.ch
        rw [List.map_append, List.pairwise_append] at hcf
        have := hcf.2.2 y.1 (List.mem_map_of_mem hy) x.1 (by simp)
        omega
      have hlx : lk d2.fs (wName x.1) = some ⟨cont (x.1, x.2.take k), []⟩ := by rw [u3, if_pos rfl]
      have honly : ∀ n, 1 ≤ n → n ≤ 9007199254740992 → lk d2.fs (wName n) ≠ none → n ∈ (pre ++ [(x.1, x.2.take k)]).map (·.1) := by
        intro n n0 n1 n2
        by_cases e : wName n = wName x.1
        · rw [wName_inj e]; simp
        · rw [u3, if_neg e] at n2
          have := h.only n n0 n1 n2
          simpa using this
      have hL : ∀ sy', Lies d2 pre (x.1, x.2.take k) (cont (x.1, x.2.take k)).length sy' := fun sy' => Lies.firm sy' u2 hch' hpre hlx honly
      refine ⟨⟨u1, OnF.some (hL _), rfl, rfl, ?_, Or.inl hsy1, rfl⟩, ?_, hL⟩
      · show (fPre (pre ++ [(x.1, x.2.take k)])).good = _
        rw [hgood, lenOf_last, hg]
      · intro y hy
        rcases List.mem_append.1 hy with hy | hy
        · exact hpre y hy
        · simp only [List.mem_singleton] at hy; subst hy; exact hlx
    by_cases hgt : g = t
    · -- nothing is cut
      have hE2 : opE2 d { fPre (pre ++ [(x.1, x.2.take k)]) with bytes := t } = 0 := by unfold opE2; rw [if_pos (Or.inr (by show (fPre _).good = t; rw [hgood, hgt]))]
      have hD2 : opD2 d { fPre (pre ++ [(x.1, x.2.take k)]) with bytes := t } = d := by unfold opD2; rw [if_pos (Or.inr (by show (fPre _).good = t; rw [hgood, hgt])), hD1]
      have hst : opSteps d { fPre (pre ++ [(x.1, x.2.take k)]) with bytes := t } = (d.sync (wName x.1), d.syncErr (wName x.1)) := by
        unfold opSteps
        rw [hE1, if_neg (fun e => e rfl), hE2, if_neg (fun e => e rfl)]
        unfold opD3 opE3
        rw [if_neg hne, if_neg hne, hD2, hlast]
      rw [hst]
      have hcc : f.firm ++ f.loose = cont (x.1, x.2.take k) := by
        rw [hc, ← hpf, hgt, List.take_take, Nat.min_self]
      rcases sync_cases h.sorted hd hf with ⟨b0, b1, b2⟩ | ⟨b0, b1, b2, b3, b4, b5⟩
      · exact ⟨d.fail, pre ++ [x], Trunc.refl pre x sy, Or.inr ⟨by omega, by rw [b1, b2], rfl, On.some h.fail⟩⟩
      · rw [hcc] at b4
        obtain ⟨j1, j2, _⟩ := hfin _ b2 b3 b4
        exact ⟨d.sync (wName x.1), _, htr, Or.inl ⟨by rw [b1], j1, rfl, j2, b5, fun e => by rw [hfull e, List.take_of_length_le (Nat.le_refl _)]⟩⟩
    · have hno : ¬ ((fPre (pre ++ [(x.1, x.2.take k)])).segs = [] ∨ (fPre (pre ++ [(x.1, x.2.take k)])).good = t) := by
        rintro (e | e)
        · exact hne e
        · rw [hgood] at e; exact hgt e
      have hE2 : opE2 d { fPre (pre ++ [(x.1, x.2.take k)]) with bytes := t } = d.cutErr (wName x.1) g := by
        unfold opE2
        rw [if_neg hno, hD1, hlast]
        show d.cutErr (wName x.1) ((fPre (pre ++ [(x.1, x.2.take k)])).good : Nat) = _
        rw [hgood]
      have hD2 : opD2 d { fPre (pre ++ [(x.1, x.2.take k)]) with bytes := t } = d.cut (wName x.1) g := by
        unfold opD2
        rw [if_neg hno, hD1, hlast]
        show d.cut (wName x.1) ((fPre (pre ++ [(x.1, x.2.take k)])).good : Nat) = _
        rw [hgood]
      rcases cut_cases h.sorted hd hf g (by rw [hlen]; exact hcl) with ⟨c0, c1, c2⟩ | ⟨c0, c1, c2, c3, c4, c5⟩
      · refine ⟨d.fail, pre ++ [x], Trunc.refl pre x sy, Or.inr ⟨by omega, ?_, rfl, On.some h.fail⟩⟩
        unfold opSteps
        rw [hE1, if_neg (fun e => e rfl), hE2, c2, if_pos (by decide), hD2, c1]
      · rw [hc, hpf] at c4
        have hst : opSteps d { fPre (pre ++ [(x.1, x.2.take k)]) with bytes := t } = ((d.cut (wName x.1) g).sync (wName x.1), (d.cut (wName x.1) g).syncErr (wName x.1)) := by
          unfold opSteps
          rw [hE1, if_neg (fun e => e rfl), hE2, c1, if_neg (fun e => e rfl)]
          unfold opD3 opE3
          rw [if_neg hne, if_neg hne, hD2, hlast]
        rw [hst]
        generalize d.cut (wName x.1) g = d2 at *
        obtain ⟨_, _, hL⟩ := hfin d2 c2 c3 c4
        have hx2 : lk d2.fs (wName x.1) = some ⟨cont (x.1, x.2.take k), []⟩ := by rw [c4, if_pos rfl]
        rcases sync_cases c3 c2 hx2 with ⟨b0, b1, b2⟩ | ⟨b0, b1, b2, b3, b4, b5⟩
        · exact ⟨d2.fail, _, htr, Or.inr ⟨fun e => by have := c5 e; omega, by rw [b1, b2], rfl, On.some (hL sy).fail⟩⟩
        · have hb : ∀ u, lk (d2.sync (wName x.1)).fs u = if u = wName x.1 then some ⟨cont (x.1, x.2.take k), []⟩ else lk d.fs u := by
            intro u
            rw [b4]
            by_cases e : u = wName x.1
            · rw [if_pos e, if_pos e, List.append_nil]
            · rw [if_neg e, if_neg e, c4, if_neg e]
          obtain ⟨j1, j2, _⟩ := hfin _ b2 b3 hb
          refine ⟨d2.sync (wName x.1), _, htr, Or.inl ⟨by rw [b1], j1, rfl, j2, fun e => b5 (c5 e), fun e => ?_⟩⟩
          exfalso
          have := hfull e
          rw [this, List.take_of_length_le (Nat.le_refl _)] at hg
          exact hgt (by rw [← hg, e])
end Go.Proofs.YtbiadclmonakkaaGreatDoor

/-
  Append, Sync, Trim on a plain disk. No program here.
-/
namespace Go.Proofs.YtbiadclmonakkaaGreatDoor
open Go.Lib

theorem digit_letter (b : UInt8) (h : 48 ≤ b.toNat ∧ b.toNat ≤ 57) : okLetter b = true := by
  have hb : b ∈ [(48 : UInt8), 49, 50, 51, 52, 53, 54, 55, 56, 57] := by
    have e : b = UInt8.ofNat b.toNat := by simp
    have : b.toNat = 48 ∨ b.toNat = 49 ∨ b.toNat = 50 ∨ b.toNat = 51 ∨ b.toNat = 52 ∨ b.toNat = 53 ∨ b.toNat = 54 ∨ b.toNat = 55 ∨ b.toNat = 56 ∨ b.toNat = 57 := by omega
    rcases this with h | h | h | h | h | h | h | h | h | h <;> rw [e, h] <;> decide
  revert hb
  have hall : ∀ c ∈ [(48 : UInt8), 49, 50, 51, 52, 53, 54, 55, 56, 57], okLetter c = true := by decide
  exact hall b
theorem wName_ok {n : Nat} (h : n ≤ 9007199254740992) : okName (wName n) = true := by
  have h1 := wName_size h
  have h2 : (wName n).data.toList.all okLetter = true := by
    show (119 :: decDigits n).all okLetter = true
    rw [List.all_cons, Bool.and_eq_true]
    refine ⟨by decide, List.all_eq_true.2 (fun b hb => digit_letter b (dec_digit hb))⟩
  have h3 : 0 < (wName n).size := by
    show 0 < (119 :: decDigits n).toArray.size
    simp
  unfold okName
  rw [h2, decide_eq_true h3, decide_eq_true (by omega : (wName n).size ≤ 40)]
  rfl
theorem app_cases {d : ADisk} (hs : SortedF d.fs) (hd : d.down = false) {s : ByteArray} (hn : okName s = true) (b : List UInt8) :
    (d.appendErr s b ≠ 0 ∧ SortedF (d.append s b).fs ∧ (∀ u, lk (d.append s b).fs u = lk d.fs u) ∧ Why d b.length 0) ∨
      (d.appendErr s b = 0 ∧ (d.append s b).down = false ∧ SortedF (d.append s b).fs ∧ (∀ u, lk (d.append s b).fs u = if u = s then some ⟨(afile d s).firm, (afile d s).loose ++ b⟩ else lk d.fs u) ∧ (d.left = -1 → (d.append s b).left = -1)) := by
  have e1 : d.append s b = if d.most < usedF d.fs + b.length then d else if (lk d.fs s).isNone ∧ 200 ≤ d.fs.length then d else d.put s ⟨(afile d s).firm, (afile d s).loose ++ b⟩ := by
    unfold ADisk.append; rw [if_neg (by simp [hd]), if_neg (by simp [hn])]
  have e2 : d.appendErr s b = if d.most < usedF d.fs + b.length then 5 else if (lk d.fs s).isNone ∧ 200 ≤ d.fs.length then 5 else d.err := by
    unfold ADisk.appendErr; rw [if_neg (by simp [hd]), if_neg (by simp [hn])]
  rw [e1, e2]
  by_cases h1 : d.most < usedF d.fs + b.length
  · left; rw [if_pos h1, if_pos h1]; exact ⟨by decide, hs, fun _ => rfl, Or.inr (Or.inl (by omega))⟩
  · rw [if_neg h1, if_neg h1]
    by_cases h2 : (lk d.fs s).isNone ∧ 200 ≤ d.fs.length
    · left; rw [if_pos h2, if_pos h2]; exact ⟨by decide, hs, fun _ => rfl, Or.inr (Or.inr (by omega))⟩
    · rw [if_neg h2, if_neg h2]
      rcases put_cases hs s ⟨(afile d s).firm, (afile d s).loose ++ b⟩ with ⟨a0, a1, a2⟩ | ⟨a0, a1, a2, a3, a4, a5⟩
      · left; rw [a1, a2]; exact ⟨by decide, hs, fun _ => rfl, Or.inl (by omega)⟩
      · right; exact ⟨a1, a2, a3, a4, a5⟩
/-- the steps of another segment. -/
theorem ano_law {d : ADisk} (hs : SortedF d.fs) (hd : d.down = false) {n : Nat} (hn : n ≤ 9007199254740992) (hl : lk d.fs (wName n) = none) :
    (∃ d', anoSteps d n = (d', 0) ∧ d'.down = false ∧ SortedF d'.fs ∧ (∀ u, lk d'.fs u = if u = wName n then some ⟨hd4 n, []⟩ else lk d.fs u) ∧ (d.left = -1 → d'.left = -1) ∧ Grow d d' (hd4 n).length 1) ∨
      (∃ d' e, e ≠ 0 ∧ anoSteps d n = (d', e) ∧ Why d (hd4 n).length 0 ∧ SortedF d'.fs ∧ ((∀ u, lk d'.fs u = lk d.fs u) ∨ ∀ u, lk d'.fs u = if u = wName n then some ⟨[], hd4 n⟩ else lk d.fs u)) := by
  have hE1 : anoE1 d n = 0 := by
    have : d.removeErr (wName n) = 13 := by unfold ADisk.removeErr; rw [if_neg (by simp [hd]), if_pos (by rw [hl]; rfl)]
    unfold anoE1 goneE4
    rw [if_pos this]
  have hD1 : anoD1 d n = d := by unfold anoD1 ADisk.remove; rw [if_neg (by simp [hd]), if_pos (by rw [hl]; rfl)]
  have ha : afile d (wName n) = ⟨[], []⟩ := by unfold afile; rw [hl]; rfl
  unfold anoSteps anoE3 anoD3 anoE2
  rw [hE1, if_neg (fun e => e rfl)]
  unfold anoD2
  rw [hD1]
  rcases app_cases hs hd (wName_ok hn) (hd4 n) with ⟨a1, a2, a3, aw⟩ | ⟨a1, a2, a3, a4, a5⟩
  · right
    exact ⟨_, _, a1, by rw [if_pos a1], aw, a2, Or.inl a3⟩
  · rw [ha] at a4
    simp only [List.nil_append] at a4
    rw [if_neg (fun e => e a1)]
    have hgr := append_grow hs (wName n) (hd4 n)
    generalize d.append (wName n) (hd4 n) = d2 at *
    have hx : lk d2.fs (wName n) = some ⟨[], hd4 n⟩ := by rw [a4, if_pos rfl]
    rcases sync_cases a3 a2 hx with ⟨b0, b1, b2⟩ | ⟨b0, b1, b2, b3, b4, b5⟩
    · right
      exact ⟨d2.fail, 15, by decide, by rw [b1, b2], Or.inl (fun e => by have := a5 e; omega), a3, Or.inr a4⟩
    · left
      refine ⟨d2.sync (wName n), by rw [b1], b2, b3, fun u => ?_, fun e => b5 (a5 e), hgr.trans (sync_grow a3 (wName n))⟩
      rw [b4]
      by_cases e : u = wName n
      · rw [if_pos e, if_pos e]; rfl
      · rw [if_neg e, if_neg e, a4, if_neg e]

theorem cont_more (x : Seg) (b : List UInt8) : cont (x.1, x.2 ++ [b]) = cont x ++ fr4 (x.1 + x.2.length) b := by
  unfold cont fr4
  rw [wFrames_app, ← List.append_assoc]
  simp [wFrames]
theorem need_more (x : Seg) (b : List UInt8) (sy : Nat) (h : sy + 1 ≤ x.1 + x.2.length) : need (x.1, x.2 ++ [b]) sy = need x sy := by
  unfold need
  by_cases h1 : sy < x.1
  · rw [if_pos h1, if_pos h1]
  · rw [if_neg h1, if_neg h1, List.take_append_of_le_length (by omega)]
theorem numbered_more (n : Nat) (R : List (List UInt8)) (b : List UInt8) : numbered n (R ++ [b]) = numbered n R ++ [⟨n + R.length, b⟩] := by
  induction R generalizing n with
  | nil => simp [numbered]
  | cons c R ih => simp only [List.cons_append, numbered, ih, List.length_cons, show n + 1 + R.length = n + (R.length + 1) by omega]
theorem segs_last (pre : List Seg) (x : Seg) (al : ALog) (h : al.segs = (pre ++ [x]).map segV) : al.lastN = x.1 ∧ al.lastSome = !x.2.isEmpty ∧ al.segs ≠ [] := by
  unfold ALog.lastN ALog.lastSome
  rw [h]
  simp [segV]
theorem set_some (pre : List Seg) (x : Seg) (b : List UInt8) : setSome ((pre ++ [x]).map segV) = (pre ++ [(x.1, x.2 ++ [b])]).map segV := by
  unfold setSome
  simp [segV]
/-- the last segment gets a record. -/
theorem put_law {d : ADisk} {al : ALog} {pre : List Seg} {x : Seg} (hd : d.down = false) (hl : Lies d pre x (cont x).length al.synced) (hsg : al.segs = (pre ++ [x]).map segV) (hby : al.bytes = (cont x).length)
    (hsy : al.synced + 1 ≤ x.1 + x.2.length) (hlv : al.over = false) (b : List UInt8) (hb : b.length ≤ 1048576) (htop : x.1 + x.2.length ≤ 9007199254740992) :
    (∃ d', wPut d al (x.1 + x.2.length) b = (d', { al with segs := (pre ++ [(x.1, x.2 ++ [b])]).map segV, next := x.1 + x.2.length + 1, bytes := (cont (x.1, x.2 ++ [b])).length }, 0) ∧
        J d' { al with segs := (pre ++ [(x.1, x.2 ++ [b])]).map segV, next := x.1 + x.2.length + 1, bytes := (cont (x.1, x.2 ++ [b])).length } (pre ++ [(x.1, x.2 ++ [b])]) ∧ (d.left = -1 → d'.left = -1)) ∨
      ∃ d' e, e ≠ 0 ∧ wPut d al (x.1 + x.2.length) b = (d', { al with over := true }, e) ∧ Why d (fr4 (x.1 + x.2.length) b).length 0 ∧ Lies d' pre x (cont x).length al.synced := by
  have hok : SegOk x := chain_ok hl.ch x (by simp)
  obtain ⟨hlN, _, _⟩ := segs_last pre x al hsg
  have hfile : al.file = wName x.1 := by unfold ALog.file; rw [hlN]
  obtain ⟨f, hf, hc, hn⟩ := hl.last
  rw [List.take_of_length_le (Nat.le_refl _)] at hc
  have ha : afile d (wName x.1) = f := by unfold afile; rw [hf]; rfl
  unfold wPut
  rw [hfile]
  rcases app_cases hl.sorted hd (wName_ok hok.hi) (fr4 (x.1 + x.2.length) b) with ⟨a1, a2, a3, aw⟩ | ⟨a1, a2, a3, a4, a5⟩
  · right
    rw [if_pos a1]
    refine ⟨_, _, a1, ?_, aw, hl.same a2 a3⟩
    unfold ALog.ends
    rw [decide_eq_true a1]
  · left
    rw [if_neg (fun e => e a1), ha] at *
    have hok' : SegOk (x.1, x.2 ++ [b]) := ⟨hok.lo, hok.hi, by simp only [List.length_append, List.length_cons, List.length_nil]; omega, fun c hc => by
      rcases List.mem_append.1 hc with hc | hc
      · exact hok.small c hc
      · simp at hc; subst hc; exact hb⟩
    have hcm := cont_more x b
    generalize d.append (wName x.1) (fr4 (x.1 + x.2.length) b) = d2 at *
    have hL : Lies d2 pre (x.1, x.2 ++ [b]) (cont (x.1, x.2 ++ [b])).length al.synced := by
      refine ⟨a3, chain_cut hl.ch hok' rfl, fun y hy => ?_, ⟨_, by rw [a4, if_pos rfl], ?_, ?_⟩, Nat.le_refl _, fun n n0 n1 n2 => ?_⟩
      · rw [a4, if_neg, hl.full y hy]
        intro e
        have e2 := wName_inj e
        have hcf := chain_firsts hl.ch
        rw [List.map_append, List.pairwise_append] at hcf
        have := hcf.2.2 y.1 (List.mem_map_of_mem hy) x.1 (by simp)
        omega
      · rw [List.take_of_length_le (Nat.le_refl _), hcm, ← hc, List.append_assoc]
      · rw [need_more x b al.synced hsy]; exact hn
      · by_cases e : wName n = wName x.1
        · rw [wName_inj e]; simp
        · rw [a4, if_neg e] at n2
          have := hl.only n n0 n1 n2
          simpa using this
    have hlen : al.bytes + (fr4 (x.1 + x.2.length) b).length = (cont (x.1, x.2 ++ [b])).length := by rw [hcm, List.length_append, hby]
    refine ⟨d2, ?_, ⟨a2, OnF.some hL, rfl, ?_, ?_, Or.inl ?_, hlv⟩, a5⟩
    · rw [hsg, set_some pre x b, hlen]
    · show x.1 + x.2.length + 1 = nextOf _
      rw [nextOf_last]
      simp only [List.length_append, List.length_cons, List.length_nil]
      omega
    · show (cont (x.1, x.2 ++ [b])).length = lenOf _
      rw [lenOf_last]
    · show al.synced + 1 ≤ nextOf _
      rw [nextOf_last]
      simp only [List.length_append, List.length_cons, List.length_nil]
      omega
/-- a new segment behind all others. -/
theorem lies_new {d d' : ADisk} {ss : List Seg} {n : Nat} {sy : Nat} {f : AFile} (hs : SortedF d'.fs) (h : ∀ u, lk d'.fs u = if u = wName n then some f else lk d.fs u) (hf : f.firm ++ f.loose = hd4 n) (hss : chain (ss ++ [(n, [])])) (hfull : Firm d ss)
    (ho : ∀ m, 1 ≤ m → m ≤ 9007199254740992 → lk d.fs (wName m) ≠ none → m ∈ ss.map (·.1)) (hsy : need (n, []) sy ≤ f.firm.length) : Lies d' ss (n, []) (cont (n, [])).length sy := by
  have hc : cont (n, []) = hd4 n := by unfold cont; simp [wFrames]
  refine ⟨hs, hss, fun y hy => ?_, ⟨f, by rw [h, if_pos rfl], ?_, hsy⟩, Nat.le_refl _, fun m m0 m1 m2 => ?_⟩
  · rw [h, if_neg, hfull y hy]
    intro e
    have e2 := wName_inj e
    have hcf := chain_firsts hss
    rw [List.map_append, List.pairwise_append] at hcf
    have := hcf.2.2 y.1 (List.mem_map_of_mem hy) n (by simp)
    omega
  · rw [List.take_of_length_le (Nat.le_refl _), hc, hf]
  · by_cases e : wName m = wName n
    · rw [wName_inj e]; simp
    · rw [h, if_neg e] at m2
      have := ho m m0 m1 m2
      simp only [List.map_append, List.mem_append]
      exact Or.inl this
theorem chain_add {pre : List Seg} {x : Seg} (h : chain (pre ++ [x])) (hx : x.2 ≠ []) (n : Nat) (hn : n = x.1 + x.2.length) (hn1 : n ≤ 9007199254740992) : chain (pre ++ [x] ++ [(n, [])]) := by
  induction pre with
  | nil => exact ⟨h, hx, hn, ⟨by have : SegOk x := h; have := this.lo; simp only; omega, hn1, by simp only [List.length_nil]; omega, fun b hb => by cases hb⟩⟩
  | cons y pre ih =>
    cases pre with
    | nil => exact ⟨h.1, h.2.1, h.2.2.1, ih h.2.2.2⟩
    | cons z pre => exact ⟨h.1, h.2.1, h.2.2.1, ih h.2.2.2⟩
end Go.Proofs.YtbiadclmonakkaaGreatDoor

/-
  Append, Sync on a plain disk, whole. No program here.
-/
namespace Go.Proofs.YtbiadclmonakkaaGreatDoor

/-- what a record that was appended leaves. -/
structure Put1 (d : ADisk) (al : ALog) (ss : List Seg) (n : Nat) (b : List UInt8) (d' : ADisk) (al' : ALog) (ss' : List Seg) : Prop where
  j : J d' al' ss'
  recs : allRecs ss' = allRecs ss ++ [⟨n, b⟩]
  sync : al'.synced = al.synced ∨ al'.synced + 1 = n
  size : al'.size = al.size
  free : d.left = -1 → d'.left = -1
  how : (al.needs = true ∧ ss' = ss ++ [(n, [b])]) ∨ (al.needs = false ∧ ∃ pre x, ss = pre ++ [x] ∧ n = x.1 + x.2.length ∧ ss' = pre ++ [(x.1, x.2 ++ [b])])
/-- what is left where it failed. -/
structure Put0 (al : ALog) (ss : List Seg) (n : Nat) (d' : ADisk) (al' : ALog) (ss' : List Seg) : Prop where
  over : al'.over = true
  on : OnF d' ss' al'.synced
  how : ss' = ss ∨ ss' = ss ++ [(n, [])]
  sync : al'.synced = al.synced ∨ (al'.synced + 1 = n ∧ n ≠ 0)
theorem need_new (n sy : Nat) (h : sy < n) : need (n, []) sy = 0 := by unfold need; rw [if_pos h]
theorem cont_new (n : Nat) : cont (n, []) = hd4 n := by unfold cont; simp [wFrames]
theorem OnF.bare_of {d : ADisk} {sy : Nat} (h : OnF d [] sy) : Bare d := by
  generalize hq : ([] : List Seg) = q at h
  cases h with
  | bare h => exact h
  | some h => simp at hq
theorem OnF.lies_of {d : ADisk} {pre : List Seg} {x : Seg} {sy : Nat} (h : OnF d (pre ++ [x]) sy) : Lies d pre x (cont x).length sy := by
  generalize hq : pre ++ [x] = q at h
  cases h with
  | bare _ => simp at hq
  | some hL =>
    obtain ⟨rfl, e⟩ := List.append_inj' hq rfl
    cases e
    exact hL
theorem append_law {d : ADisk} {al : ALog} {ss : List Seg} (h : J d al ss) (n : Nat) (b : List UInt8) (hb : b.length ≤ 1048576) (hn0 : 1 ≤ n) (hn1 : n ≤ 9007199254740992) (hn : ss ≠ [] → n = nextOf ss) :
    (∃ d' al' ss', wAppend d al n b = (d', al', 0) ∧ Put1 d al ss n b d' al' ss') ∨ ∃ d' al' ss' e, e ≠ 0 ∧ wAppend d al n b = (d', al', e) ∧ Why d ((hd4 n).length + (fr4 n b).length) 2 ∧ Put0 al ss n d' al' ss' := by
  have hg : wAppend d al n b = if al.needs = true then (if (wAnother d al n).2.2 ≠ 0 then ((wAnother d al n).1, (wAnother d al n).2.1.ends (wAnother d al n).2.2, (wAnother d al n).2.2) else wPut (wAnother d al n).1 (wAnother d al n).2.1 n b) else wPut d al n b := by
    unfold wAppend
    rw [if_neg (by simp [h.live]), if_neg (by omega), if_neg (by omega), if_neg]
    · simp only [Int.toNat_natCast]
    · rintro ⟨h1, h2⟩
      rw [h.next] at h1 h2
      by_cases e : ss = []
      · subst e; simp [nextOf] at h1
      · rw [hn e] at h2; exact h2 rfl
  rw [hg]
  have hnew : ∀ pre x, ss = pre ++ [x] → ∀ y : Seg, need y (n - 1) ≤ (cont y).length := fun _ _ _ y => need_le y _
  -- a new segment with its first record
  have first : ∀ (d1 : ADisk) (al1 : ALog), Lies d1 ss (n, []) (cont (n, [])).length (n - 1) → d1.down = false → (d.left = -1 → d1.left = -1) → Grow d d1 (hd4 n).length 1 → al1.segs = (ss ++ [(n, [])]).map segV → al1.bytes = (hd4 n).length → al1.synced = n - 1 → al1.over = false → al1.size = al.size → al.needs = true →
      (∃ d' al' ss', wPut d1 al1 n b = (d', al', 0) ∧ Put1 d al ss n b d' al' ss') ∨ ∃ d' al' ss' e, e ≠ 0 ∧ wPut d1 al1 n b = (d', al', e) ∧ Why d ((hd4 n).length + (fr4 n b).length) 2 ∧ Put0 al ss n d' al' ss' := by
    intro d1 al1 hL hu hfree hgr hsg hby hsy hlv hsz hneed
    have hp := put_law (al := al1) (x := (n, [])) hu (by rw [hsy]; exact hL) hsg (by rw [hby, cont_new]) (by rw [hsy]; simp only [List.length_nil]; omega) hlv b hb (by simp only [List.length_nil]; omega)
    simp only [List.length_nil, Nat.add_zero, List.nil_append] at hp
    rcases hp with ⟨d', e1, e2, e3⟩ | ⟨d', e, e0, e1, ew, e2⟩
    · left
      refine ⟨d', _, _, e1, e2, ?_, Or.inr ?_, hsz, fun hl => e3 (hfree hl), Or.inl ⟨hneed, rfl⟩⟩
      · rw [allRecs_last]; rfl
      · show al1.synced + 1 = n
        rw [hsy]; omega
    · right
      refine ⟨d', _, ss ++ [(n, [])], e, e0, e1, (ew.of hgr hfree).mono (Nat.le_refl _) (by omega), rfl, OnF.some e2, Or.inr rfl, Or.inr ⟨?_, by omega⟩⟩
      show al1.synced + 1 = n
      rw [hsy]; omega
  rcases List.eq_nil_or_concat ss with rfl | ⟨pre, x, rfl⟩
  · -- the first segment
    have hseg : al.segs = [] := h.segs
    have hneed : al.needs = true := by unfold ALog.needs; rw [hseg]; rfl
    rw [if_pos hneed]
    have hbare : Bare d := h.on.bare_of
    have hs0 : al.synced = 0 := by
      rcases h.sync with e | e
      · simp [nextOf] at e
      · exact e.2
    have hW : wAnother d al n = if (anoSteps d n).2 = 0 then ((anoSteps d n).1, { al with segs := al.segs ++ [(n, false)], bytes := (hd4 n).length, synced := n - 1 }, 0) else ((anoSteps d n).1, al, (anoSteps d n).2) := by
      unfold wAnother
      rw [if_neg (by rintro ⟨h1, _⟩; exact h1 hseg)]
      simp only [hseg, if_true]
    rcases ano_law hbare.sorted h.up hn1 (hbare.only n hn0 hn1) with ⟨d1, a1, a2, a3, a4, a5, a6⟩ | ⟨d1, e, e0, a1, aw, a2, a3⟩
    · rw [a1, if_pos rfl] at hW
      rw [hW, if_neg (fun e => e rfl)]
      refine first d1 _ ?_ a2 a5 a6 (by rw [hseg]; rfl) rfl rfl h.live rfl hneed
      refine lies_new (d := d) a3 a4 (by simp) ⟨hn0, hn1, by simp only [List.length_nil]; omega, fun b hb => by cases hb⟩ (fun y hy => by cases hy) (fun m m0 m1 m2 => absurd (hbare.only m m0 m1) m2) ?_
      rw [need_new n (n - 1) (by omega)]; exact Nat.zero_le _
    · rw [a1] at hW
      simp only at hW
      rw [if_neg e0] at hW
      rw [hW, if_pos e0]
      right
      refine ⟨d1, _, if lk d1.fs (wName n) = none then [] else [(n, [])], e, e0, rfl, aw.mono (by omega) (by omega), by unfold ALog.ends; exact decide_eq_true e0, ?_, ?_, Or.inl rfl⟩
      · rcases a3 with a3 | a3
        · have hno := hbare.only n hn0 hn1
          rw [← a3] at hno
          rw [if_pos hno]
          exact OnF.bare ⟨a2, fun m m0 m1 => by rw [a3]; exact hbare.only m m0 m1⟩
        · rw [if_neg (by rw [a3, if_pos rfl]; simp)]
          refine OnF.some (pre := []) (lies_new (d := d) a2 a3 (by simp) ⟨hn0, hn1, by simp only [List.length_nil]; omega, fun b hb => by cases hb⟩ (fun y hy => by cases hy) (fun m m0 m1 m2 => absurd (hbare.only m m0 m1) m2) ?_)
          show need (n, []) al.synced ≤ _
          rw [hs0, need_new n 0 (by omega)]; exact Nat.zero_le _
      · split
        · exact Or.inl rfl
        · exact Or.inr rfl
  · rw [List.concat_eq_append] at *
    have hL : Lies d pre x (cont x).length al.synced := h.on.lies_of
    have hnx : n = x.1 + x.2.length := by rw [hn (by simp), nextOf_last]
    have hok : SegOk x := chain_ok hL.ch x (by simp)
    obtain ⟨hlN, hlS, hne⟩ := segs_last pre x al h.segs
    have hfile : al.file = wName x.1 := by unfold ALog.file; rw [hlN]
    have hsy : al.synced + 1 ≤ x.1 + x.2.length := by
      rcases h.sync with e | e
      · rwa [nextOf_last] at e
      · simp at e
    by_cases hneed : al.needs = true
    · rw [if_pos hneed]
      have hx2 : x.2 ≠ [] := by
        intro e
        have hn2 := hneed
        unfold ALog.needs at hn2
        rw [hlS, e] at hn2
        simp at hn2
        exact hne hn2
      obtain ⟨f, hf, hc, _⟩ := hL.last
      rw [List.take_of_length_le (Nat.le_refl _)] at hc
      rcases sync_cases hL.sorted h.up hf with ⟨b0, b1, b2⟩ | ⟨b0, b1, b2, b3, b4, b5⟩
      · have hW : wAnother d al n = (d.fail, al, 15) := by
          unfold wAnother
          rw [hfile, if_pos ⟨hne, by rw [b2]; decide⟩, b1, b2]
        rw [hW, if_pos (show (15 : Int) ≠ 0 by decide)]
        right
        exact ⟨d.fail, _, pre ++ [x], 15, by decide, rfl, Or.inl (by omega), rfl, OnF.some hL.fail, Or.inl rfl, Or.inl rfl⟩
      · rw [hc] at b4
        have hW : wAnother d al n = if (anoSteps (d.sync (wName x.1)) n).2 = 0 then ((anoSteps (d.sync (wName x.1)) n).1, { al with segs := al.segs ++ [(n, false)], bytes := (hd4 n).length, synced := n - 1 }, 0) else ((anoSteps (d.sync (wName x.1)) n).1, { al with synced := n - 1 }, (anoSteps (d.sync (wName x.1)) n).2) := by
          unfold wAnother
          rw [hfile, if_neg (by rintro ⟨_, h2⟩; exact h2 b1)]
          simp only [if_neg hne]
        have hgs := sync_grow hL.sorted (wName x.1)
        generalize d.sync (wName x.1) = d0 at *
        have hfirm : Firm d0 (pre ++ [x]) := by
          intro y hy
          rcases List.mem_append.1 hy with hy | hy
          · rw [b4, if_neg, hL.full y hy]
            intro e
            have e2 := wName_inj e
            have hcf := chain_firsts hL.ch
            rw [List.map_append, List.pairwise_append] at hcf
            have := hcf.2.2 y.1 (List.mem_map_of_mem hy) x.1 (by simp)
            omega
          · simp only [List.mem_singleton] at hy; subst hy; rw [b4, if_pos rfl]
        have honly : ∀ m, 1 ≤ m → m ≤ 9007199254740992 → lk d0.fs (wName m) ≠ none → m ∈ (pre ++ [x]).map (·.1) := by
          intro m m0 m1 m2
          rw [b4] at m2
          by_cases e : wName m = wName x.1
          · rw [wName_inj e]; simp
          · rw [if_neg e] at m2; exact hL.only m m0 m1 m2
        have hno : lk d0.fs (wName n) = none := by
          cases hq : lk d0.fs (wName n) with
          | none => rfl
          | some g =>
            exfalso
            have hm := honly n hn0 hn1 (by rw [hq]; simp)
            obtain ⟨y, hy, e⟩ := List.mem_map.1 hm
            have hp : 0 < x.2.length := List.length_pos_iff.2 hx2
            have hcf := chain_firsts hL.ch
            rw [List.map_append, List.pairwise_append] at hcf
            rcases List.mem_append.1 hy with hy | hy
            · have := hcf.2.2 y.1 (List.mem_map_of_mem hy) x.1 (by simp)
              omega
            · simp only [List.mem_singleton] at hy; subst hy; omega
        have hchn : chain (pre ++ [x] ++ [(n, [])]) := chain_add hL.ch hx2 n hnx hn1
        rcases ano_law b3 b2 hn1 hno with ⟨d1, a1, a2, a3, a4, a5, a6⟩ | ⟨d1, e, e0, a1, aw, a2, a3⟩
        · rw [a1, if_pos rfl] at hW
          rw [hW, if_neg (fun e => e rfl)]
          refine first d1 _ ?_ a2 (fun hl => a5 (b5 hl)) ((hgs.trans a6).mono (by omega) (by omega)) ?_ rfl rfl h.live rfl hneed
          · refine lies_new a3 a4 (by simp) hchn hfirm honly ?_
            rw [need_new n (n - 1) (by omega)]; exact Nat.zero_le _
          · show al.segs ++ [(n, false)] = _
            rw [h.segs]; simp [segV]
        · rw [a1] at hW
          simp only at hW
          rw [if_neg e0] at hW
          rw [hW, if_pos e0]
          right
          refine ⟨d1, _, if lk d1.fs (wName n) = none then pre ++ [x] else pre ++ [x] ++ [(n, [])], e, e0, rfl, (aw.of hgs b5).mono (by omega) (by omega), by unfold ALog.ends; exact decide_eq_true e0, ?_, ?_, Or.inr ⟨?_, by omega⟩⟩
          · show OnF d1 _ (n - 1)
            rcases a3 with a3 | a3
            · rw [if_pos (by rw [a3]; exact hno)]
              exact OnF.some (Lies.firm _ a2 hL.ch (fun y hy => by rw [a3]; exact hfirm y (by simp [hy])) (by rw [a3]; exact hfirm x (by simp)) (fun m m0 m1 m2 => honly m m0 m1 (by rw [← a3]; exact m2)))
            · rw [if_neg (by rw [a3, if_pos rfl]; simp)]
              refine OnF.some (lies_new a2 a3 (by simp) hchn hfirm honly ?_)
              rw [need_new n (n - 1) (by omega)]; exact Nat.zero_le _
          · split
            · exact Or.inl rfl
            · exact Or.inr rfl
          · show n - 1 + 1 = n
            omega
    · rw [if_neg hneed, hnx]
      rcases put_law h.up hL h.segs (by rw [h.bytes, lenOf_last]) hsy h.live b hb (by omega) with ⟨d', e1, e2, e3⟩ | ⟨d', e, e0, e1, ew, e2⟩
      · left
        refine ⟨d', _, _, e1, e2, ?_, Or.inl rfl, rfl, e3, Or.inr ⟨by simpa using hneed, pre, x, rfl, rfl, rfl⟩⟩
        rw [allRecs_last, allRecs_last, numbered_more, List.append_assoc]
      · right
        exact ⟨d', { al with over := true }, pre ++ [x], e, e0, e1, ew.mono (by omega) (by omega), rfl, OnF.some e2, Or.inl rfl, Or.inl rfl⟩
end Go.Proofs.YtbiadclmonakkaaGreatDoor

/-
  Sync, Trim on a plain disk. No program here.
-/
namespace Go.Proofs.YtbiadclmonakkaaGreatDoor

theorem sync_law {d : ADisk} {al : ALog} {ss : List Seg} (h : J d al ss) (hne : ss ≠ []) :
    (∃ d', wSync d al = (d', { al with synced := al.last }, 0) ∧ J d' { al with synced := al.last } ss ∧ Firm d' ss ∧ (d.left = -1 → d'.left = -1) ∧ Grow d d' 0 0) ∨
      (d.left ≠ -1 ∧ wSync d al = (d.fail, { al with over := true }, 15) ∧ OnF d.fail ss al.synced) := by
  rcases List.eq_nil_or_concat ss with rfl | ⟨pre, x, rfl⟩
  · exact absurd rfl hne
  · rw [List.concat_eq_append] at *
    have hL := h.on.lies_of
    have hok : SegOk x := chain_ok hL.ch x (by simp)
    obtain ⟨hlN, _, hsn⟩ := segs_last pre x al h.segs
    have hfile : al.file = wName x.1 := by unfold ALog.file; rw [hlN]
    obtain ⟨f, hf, hc, _⟩ := hL.last
    rw [List.take_of_length_le (Nat.le_refl _)] at hc
    have hgr := sync_grow hL.sorted (wName x.1)
    unfold wSync
    rw [if_neg (by simp [h.live]), if_neg hsn, hfile]
    rcases sync_cases hL.sorted h.up hf with ⟨b0, b1, b2⟩ | ⟨b0, b1, b2, b3, b4, b5⟩
    · right
      rw [b2, if_pos (by decide), b1]
      exact ⟨by omega, rfl, OnF.some hL.fail⟩
    · left
      rw [hc] at b4
      rw [if_neg (fun e => e b1)]
      generalize d.sync (wName x.1) = d' at *
      have hpre : ∀ y ∈ pre, lk d'.fs (wName y.1) = some ⟨cont y, []⟩ := by
        intro y hy
        rw [b4, if_neg, hL.full y hy]
        intro e
        have e2 := wName_inj e
        have hcf := chain_firsts hL.ch
        rw [List.map_append, List.pairwise_append] at hcf
        have := hcf.2.2 y.1 (List.mem_map_of_mem hy) x.1 (by simp)
        omega
      have hlx : lk d'.fs (wName x.1) = some ⟨cont x, []⟩ := by rw [b4, if_pos rfl]
      have hJ : J d' { al with synced := al.last } (pre ++ [x]) := by
        refine ⟨b2, OnF.some (Lies.firm _ b3 hL.ch hpre hlx (fun n n0 n1 n2 => ?_)), h.segs, h.next, h.bytes, Or.inl ?_, h.live⟩
        · rw [b4] at n2
          by_cases e : wName n = wName x.1
          · rw [wName_inj e]; simp
          · rw [if_neg e] at n2; exact hL.only n n0 n1 n2
        · show al.next - 1 + 1 ≤ nextOf (pre ++ [x])
          rw [h.next, nextOf_last]
          have := hok.lo
          omega
      refine ⟨d', rfl, hJ, fun y hy => ?_, b5, hgr⟩
      rcases List.mem_append.1 hy with hy | hy
      · exact hpre y hy
      · simp only [List.mem_singleton] at hy; subst hy; exact hlx
end Go.Proofs.YtbiadclmonakkaaGreatDoor

/-
  How much a disk grows with a record that is appended. No program here.
-/
namespace Go.Proofs.YtbiadclmonakkaaGreatDoor

theorem put_sorted {d : ADisk} (hs : SortedF d.fs) (s : ByteArray) (f : AFile) : SortedF (d.put s f).fs := by
  rcases put_cases hs s f with ⟨_, a, _⟩ | ⟨_, _, _, a, _⟩
  · rw [a]; exact hs
  · exact a
theorem append_sorted {d : ADisk} (hs : SortedF d.fs) (s : ByteArray) (b : List UInt8) : SortedF (d.append s b).fs := by
  unfold ADisk.append
  split
  · exact hs
  · split
    · exact hs
    · split
      · exact hs
      · split
        · exact hs
        · exact put_sorted hs _ _
theorem remove_sorted {d : ADisk} (hs : SortedF d.fs) (s : ByteArray) : SortedF (d.remove s).fs := by
  unfold ADisk.remove
  split
  · exact hs
  · split
    · exact hs
    · split
      · exact hs
      · exact sorted_delF hs s
theorem sync_sorted {d : ADisk} (hs : SortedF d.fs) (s : ByteArray) : SortedF (d.sync s).fs := by
  unfold ADisk.sync
  split
  · exact hs
  · split
    · exact hs
    · unfold ADisk.cutTo
      exact put_sorted hs _ _
theorem ano_grow {d : ADisk} (hs : SortedF d.fs) (n : Nat) : SortedF (anoSteps d n).1.fs ∧ Grow d (anoSteps d n).1 (hd4 n).length 1 := by
  have s1 : SortedF (anoD1 d n).fs := remove_sorted hs _
  have g1 : Grow d (anoD1 d n) 0 0 := remove_grow hs _
  have s2 : SortedF (anoD2 d n).fs := append_sorted s1 _ _
  have g2 : Grow d (anoD2 d n) (hd4 n).length 1 := (g1.trans (append_grow s1 _ _)).mono (by omega) (by omega)
  unfold anoSteps
  split
  · exact ⟨s1, g1.mono (Nat.zero_le _) (Nat.zero_le _)⟩
  · split
    · exact ⟨s2, g2⟩
    · exact ⟨sync_sorted s2 _, (g2.trans (sync_grow s2 _)).mono (by omega) (by omega)⟩
theorem another_grow {d : ADisk} (hs : SortedF d.fs) (al : ALog) (n : Nat) : SortedF (wAnother d al n).1.fs ∧ Grow d (wAnother d al n).1 (hd4 n).length 1 := by
  unfold wAnother
  split
  · exact ⟨sync_sorted hs _, (sync_grow hs _).mono (Nat.zero_le _) (Nat.zero_le _)⟩
  · by_cases h0 : al.segs = []
    · obtain ⟨a1, a2⟩ := ano_grow hs n
      simp only [h0, if_true]
      split
      · exact ⟨a1, a2⟩
      · exact ⟨a1, a2⟩
    · obtain ⟨a1, a2⟩ := ano_grow (sync_sorted hs al.file) n
      have a3 := ((sync_grow hs al.file).trans a2).mono (b := (hd4 n).length) (j := 1) (by omega) (by omega)
      simp only [h0, if_false]
      split
      · exact ⟨a1, a3⟩
      · exact ⟨a1, a3⟩
theorem wPut_disk (d : ADisk) (al : ALog) (n : Nat) (b : List UInt8) : (wPut d al n b).1 = d.append al.file (fr4 n b) := by
  unfold wPut
  split <;> rfl
theorem wAppend_grow {d : ADisk} (hs : SortedF d.fs) (al : ALog) (n : Int) (b : List UInt8) : SortedF (wAppend d al n b).1.fs ∧ Grow d (wAppend d al n b).1 ((hd4 n.toNat).length + (fr4 n.toNat b).length) 2 := by
  have h0 : SortedF d.fs ∧ Grow d d ((hd4 n.toNat).length + (fr4 n.toNat b).length) 2 := ⟨hs, (Grow.refl d).mono (Nat.zero_le _) (Nat.zero_le _)⟩
  obtain ⟨a1, a2⟩ := another_grow hs al n.toNat
  unfold wAppend
  split
  · exact h0
  · split
    · exact h0
    · split
      · exact h0
      · split
        · exact h0
        · split
          · simp only
            split
            · exact ⟨a1, a2.mono (by omega) (by omega)⟩
            · rw [wPut_disk]
              exact ⟨append_sorted a1 _ _, a2.trans (append_grow a1 _ _)⟩
          · rw [wPut_disk]
            exact ⟨append_sorted hs _ _, (append_grow hs _ _).mono (by omega) (by omega)⟩
end Go.Proofs.YtbiadclmonakkaaGreatDoor

/-
  Numbers that a look may tell. No program here.
-/
namespace Go.Proofs.YtbiadclmonakkaaGreatDoor

theorem wRecs_num (l : List UInt8) (n : Nat) (hn : n ≤ 9007199254740993) : n + (wRecs sumL l n).1.length ≤ 9007199254740993 := by
  induction hl : l.length using Nat.strongRecOn generalizing l n with
  | _ m ih =>
    subst hl
    cases h : wRec sumL l with
    | none => rw [wRecs_none sumL h]; simpa using hn
    | some r =>
      obtain ⟨k, b, t⟩ := r
      obtain ⟨h1, h2, h3, _⟩ := wRec_len sumL h
      by_cases hk : k = n
      · subst hk
        rw [wRecs_some sumL h]
        have := ih (l.drop t).length (by rw [List.length_drop]; omega) (l.drop t) (k + 1) (by omega) rfl
        simp only [List.length_cons]
        omega
      · rw [wRecs_other sumL h hk]; simpa using hn
/-- numbers that what is found may have. -/
structure FOk (f : AFound) : Prop where
  segs : ∀ x ∈ f.segs, x.1 ≤ 9007199254740993
  none : f.none ≤ 9007199254740993
  next : f.next ≤ 9007199254740993
  bytes : f.bytes ≤ 1099511627776
  good : f.good ≤ 1099511627776
  many : f.segs.length ≤ 1000
theorem f0_ok : FOk f0 := ⟨fun x hx => (by cases hx), by decide, by decide, by decide, by decide, by decide⟩
theorem look_ok {d : ADisk} (hd : ∀ s, (d.readBytes s).length ≤ 16777216) (l : List Nat) (f : AFound) (hl : ∀ n ∈ l, n ≤ 9007199254740992) (hf : FOk f) (hm : f.segs.length + l.length ≤ 1000) : FOk (wLook d f l).1 := by
  induction l generalizing f with
  | nil => exact hf
  | cons n r ih =>
    have hn := hl n (by simp)
    unfold wLook
    split
    · exact hf
    · simp only
      split
      · exact ⟨hf.segs, by simp only; omega, hf.next, hf.bytes, hf.good, hf.many⟩
      · split
        · exact hf
        · simp only [List.length_cons] at hm
          refine ih _ (fun k hk => hl k (List.mem_cons_of_mem _ hk)) ?_ (by unfold AFound.add; simp only [List.length_append, List.length_cons, List.length_nil]; omega)
          have hb := hd (wName n)
          have hh : (hd4 n).length ≤ 30 := by
            have h1 := vint_len (n := n) (k := 10) (by omega) (Nat.lt_of_le_of_lt hn (by decide))
            unfold hd4 wHead sealL
            simp only [List.length_append, sumL_len, List.length_cons, List.length_nil]
            omega
          refine ⟨fun x hx => ?_, hf.none, wRecs_num _ n (by omega), ?_, ?_, ?_⟩
          · unfold AFound.add at hx
            simp only [List.mem_append, List.mem_singleton] at hx
            rcases hx with hx | rfl
            · exact hf.segs x hx
            · simp only; omega
          · show (d.readBytes (wName n)).length ≤ _
            omega
          · show goodOf (d.readBytes (wName n)) n ≤ _
            unfold goodOf
            have h1 := wRecs_le sumL ((d.readBytes (wName n)).drop (hd4 n).length) n
            rw [List.length_drop] at h1
            omega
          · unfold AFound.add
            simp only [List.length_append, List.length_cons, List.length_nil]
            omega
theorem read_le {d : ADisk} (h : d.WF) (s : ByteArray) : (d.readBytes s).length ≤ 16777216 := by
  have h1 := afile_le h s
  have h2 := h.used
  have h3 := h.most1
  unfold ADisk.readBytes
  split
  · have : ((afile d s).firm ++ (afile d s).loose).length = (afile d s).len := by rw [List.length_append]; rfl
    omega
  · simp
theorem open_ok {d : ADisk} (h : d.WF) : FOk (wLook d f0 (segsOf d)).1 := by
  refine look_ok (read_le h) _ f0 (fun n hn => ?_) f0_ok ?_
  · unfold segsOf at hn
    rw [List.mem_mergeSort, List.mem_filterMap] at hn
    obtain ⟨s, _, hs⟩ := hn
    exact (wNum_some hs).2.2
  · unfold segsOf
    rw [List.length_mergeSort]
    have h1 := List.length_filterMap_le wNum d.names
    have h2 := h.count
    have h3 : d.names.length = d.fs.length := by simp [ADisk.names]
    simp only [f0, List.length_nil]
    omega
/-- disks of the same files. -/
theorem fs_ext {fs gs : List (ByteArray × AFile)} (h1 : SortedF fs) (h2 : SortedF gs) (h : ∀ s, lk fs s = lk gs s) : fs = gs := by
  induction fs generalizing gs with
  | nil =>
    cases gs with
    | nil => rfl
    | cons q r =>
      have := h q.1
      rw [lk_cons, if_pos rfl] at this
      cases this
  | cons p fs ih =>
    cases gs with
    | nil =>
      have := h p.1
      rw [lk_cons, if_pos rfl] at this
      cases this
    | cons q gs =>
      have a1 := List.pairwise_cons.1 h1
      have a2 := List.pairwise_cons.1 h2
      have hpq : p.1 = q.1 := by
        have e1 := h p.1
        rw [lk_cons, if_pos rfl, lk_cons] at e1
        by_cases e : q.1 = p.1
        · exact e.symm
        · rw [if_neg e] at e1
          have m1 := a2.1 _ (lk_some_mem e1.symm)
          have e2 := h q.1
          rw [lk_cons, lk_cons, if_pos rfl, if_neg (fun e' => e e'.symm)] at e2
          have m2 := a1.1 _ (lk_some_mem e2)
          simp only [ltS, decide_eq_true_eq] at m1 m2
          exact absurd (List.lt_trans m1 m2) (List.lt_irrefl _)
      have hp2 : p.2 = q.2 := by
        have e1 := h p.1
        rw [lk_cons, if_pos rfl, lk_cons, if_pos hpq.symm] at e1
        exact Option.some.inj e1
      have hpe : p = q := Prod.ext hpq hp2
      subst hpe
      congr 1
      refine ih a1.2 a2.2 (fun s => ?_)
      have e1 := h s
      rw [lk_cons, lk_cons] at e1
      by_cases e : p.1 = s
      · subst e
        have n1 : lk fs p.1 = none := by
          cases hl : lk fs p.1 with
          | none => rfl
          | some g => have := a1.1 _ (lk_some_mem hl); simp only [ltS, decide_eq_true_eq] at this; exact absurd this (List.lt_irrefl _)
        have n2 : lk gs p.1 = none := by
          cases hl : lk gs p.1 with
          | none => rfl
          | some g => have := a2.1 _ (lk_some_mem hl); simp only [ltS, decide_eq_true_eq] at this; exact absurd this (List.lt_irrefl _)
        rw [n1, n2]
      · rw [if_neg e, if_neg e] at e1
        exact e1
end Go.Proofs.YtbiadclmonakkaaGreatDoor

/-
  What a log's calls leave of other files; a journal that is built, record by record. No program here.
-/
namespace Go.Proofs.YtbiadclmonakkaaGreatDoor

def InR (n : Nat) : Prop := 1 ≤ n ∧ n ≤ 9007199254740992
/-- files of no segment are left. -/
def Other (d d' : ADisk) : Prop := ∀ u, (∀ n, InR n → u ≠ wName n) → lk d'.fs u = lk d.fs u
theorem Other.refl (d : ADisk) : Other d d := fun _ _ => rfl
theorem Other.trans {d d1 d2 : ADisk} (h : Other d d1) (g : Other d1 d2) : Other d d2 := fun u hu => (g u hu).trans (h u hu)
theorem put_other4 (d : ADisk) (s : ByteArray) (f : AFile) {u : ByteArray} (h : u ≠ s) : lk (d.put s f).fs u = lk d.fs u := by
  unfold ADisk.put
  split
  · rfl
  · show lk (putF d.fs s f) u = _
    rw [lk_putF, if_neg h]
theorem append_other4 (d : ADisk) {n : Nat} (hn : InR n) (b : List UInt8) : Other d (d.append (wName n) b) := by
  intro u hu
  unfold ADisk.append
  split
  · rfl
  · split
    · rfl
    · split
      · rfl
      · split
        · rfl
        · exact put_other4 d _ _ (hu n hn)
theorem remove_other4 (d : ADisk) {n : Nat} (hn : InR n) : Other d (d.remove (wName n)) := by
  intro u hu
  unfold ADisk.remove
  split
  · rfl
  · split
    · rfl
    · split
      · rfl
      · show lk (delF d.fs (wName n)) u = _
        rw [lk_delF, if_neg (hu n hn)]
theorem sync_other4 (d : ADisk) {n : Nat} (hn : InR n) : Other d (d.sync (wName n)) := by
  intro u hu
  unfold ADisk.sync
  split
  · rfl
  · split
    · rfl
    · unfold ADisk.cutTo
      exact put_other4 d _ _ (hu n hn)
theorem ano_other (d : ADisk) {n : Nat} (hn : InR n) : Other d (anoSteps d n).1 := by
  have h1 : Other d (anoD1 d n) := remove_other4 d hn
  have h2 : Other d (anoD2 d n) := h1.trans (append_other4 _ hn _)
  unfold anoSteps
  split
  · exact h1
  · split
    · exact h2
    · exact h2.trans (sync_other4 _ hn)
theorem lastN_in {l : List (Nat × Bool)} (hs : ∀ x ∈ l, InR x.1) (hne : l ≠ []) : InR ((l.getLast?.map (·.1)).getD 0) := by
  rcases List.eq_nil_or_concat l with rfl | ⟨pre, x, rfl⟩
  · exact absurd rfl hne
  · have := hs x (by simp)
    simpa using this
theorem another_other (d : ADisk) (al : ALog) {n : Nat} (hn : InR n) (hs : ∀ x ∈ al.segs, InR x.1) : Other d (wAnother d al n).1 := by
  unfold wAnother
  split
  · rename_i h0
    exact sync_other4 d (lastN_in hs h0.1)
  · by_cases h0 : al.segs = []
    · simp only [h0, if_true]
      have := ano_other d hn
      split <;> exact this
    · simp only [h0, if_false]
      have := (sync_other4 d (lastN_in hs h0)).trans (ano_other (d.sync al.file) hn)
      split <;> exact this
theorem another_last {d : ADisk} {al : ALog} {n : Nat} (hz : (wAnother d al n).2.2 = 0) : (wAnother d al n).2.1.lastN = n := by
  unfold wAnother at hz ⊢
  split at hz
  · rename_i h; exact absurd hz h.2
  · rename_i h
    rw [if_neg h]
    by_cases h0 : al.segs = []
    · simp only [h0, if_true] at hz ⊢
      split at hz
      · rename_i h2; rw [if_pos h2]; simp [ALog.lastN]
      · rename_i h2; exact absurd hz h2
    · simp only [h0, if_false] at hz ⊢
      split at hz
      · rename_i h2; rw [if_pos h2]; simp [ALog.lastN]
      · rename_i h2; exact absurd hz h2
theorem wAppend_other (d : ADisk) (al : ALog) (n : Int) (b : List UInt8) (hs : ∀ x ∈ al.segs, InR x.1) : Other d (wAppend d al n b).1 := by
  have hp : ∀ (d : ADisk) (al : ALog) (n : Nat), InR al.lastN → Other d (wPut d al n b).1 := fun d al n h => by rw [wPut_disk]; exact append_other4 d h _
  unfold wAppend
  split
  · exact Other.refl d
  · split
    · exact Other.refl d
    · rename_i hr
      have hn : InR n.toNat := by unfold InR; omega
      split
      · exact Other.refl d
      · split
        · exact Other.refl d
        · split
          · have := another_other d al hn hs
            simp only
            split
            · exact this
            · rename_i h
              refine this.trans (hp _ _ _ ?_)
              rw [another_last (Decidable.of_not_not h)]
              exact hn
          · rename_i hnd
            refine hp _ _ _ (lastN_in hs (fun e => hnd ?_))
            unfold ALog.needs
            rw [e]; rfl
/-- no file but segments'. -/
def OnlyW (d : ADisk) : Prop := ∀ u, lk d.fs u ≠ none → ∃ n, InR n ∧ u = wName n
theorem OnlyW.other {d d' : ADisk} (h : OnlyW d) (ho : Other d d') : OnlyW d' := by
  intro u hu
  by_cases he : ∃ n, InR n ∧ u = wName n
  · exact he
  · refine h u (fun e => hu ?_)
    rw [ho u (fun n hn e => he ⟨n, hn, e⟩), e]
theorem onlyW_new (n : Int) : OnlyW ⟨n, -1, false, []⟩ := fun _ hu => absurd rfl hu
theorem OnF.chain {d : ADisk} {ss : List Seg} {sy : Nat} (h : OnF d ss sy) : chain ss := by
  cases h with
  | bare _ => trivial
  | some h => exact h.ch
theorem J.inR {d : ADisk} {al : ALog} {ss : List Seg} (h : J d al ss) : ∀ x ∈ al.segs, InR x.1 := by
  intro x hx
  rw [h.segs] at hx
  obtain ⟨y, hy, rfl⟩ := List.mem_map.1 hx
  have := chain_ok h.on.chain y hy
  exact ⟨this.lo, this.hi⟩

/-- how long a record's bytes are. -/
theorem vint_one {n : Nat} (h : n < 128) : (vint n).length = 1 := by
  have h1 := vint_len (n := n) (k := 1) (by omega) (by simpa using h)
  have h2 := vint_pos n
  omega
theorem fr4_len {n : Nat} {b : List UInt8} (hn : n ≤ 1000000) (hb : b.length ≤ 100) : (fr4 n b).length ≤ b.length + 8 ∧ b.length + 6 ≤ (fr4 n b).length := by
  have h3 := vint_len (n := n) (k := 3) (by omega) (by omega)
  have h0 := vint_pos n
  have hbl : (wBody n b).length = (vint n).length + b.length := by simp [wBody]
  have h1 := vint_one (n := (wBody n b).length) (by omega)
  unfold fr4
  rw [wFrame_len sumL_len, h1]
  omega
theorem hd4_small {n : Nat} (hn : n ≤ 1000000) : (hd4 n).length ≤ 11 ∧ 9 ≤ (hd4 n).length := by
  have h3 := vint_len (n := n) (k := 3) (by omega) (by omega)
  have h0 := vint_pos n
  unfold hd4 wHead sealL
  simp only [List.length_append, sumL_len, List.length_cons, List.length_nil]
  omega
/-- a journal that is built. -/
structure Built (n0 size : Nat) (L : List (List UInt8)) (d : ADisk) (al : ALog) (ss : List Seg) : Prop where
  j : J d al ss
  recs : allRecs ss = numbered n0 L
  left : d.left = -1
  most : d.most = 1048576
  sorted : SortedF d.fs
  used : usedF d.fs ≤ L.length * 200
  len : d.fs.length ≤ L.length * 2
  sz : al.size = size
  only : OnlyW d
  next : L ≠ [] → nextOf ss = n0 + L.length
  nil0 : L = [] → ss = []
  some1 : ∀ y ∈ ss, y.2 ≠ []
  first : L ≠ [] → (ss.head?.map (·.1)) = some n0
  full : ∀ pre x, ss = pre ++ [x] → ∀ y ∈ pre, size ≤ (cont y).length
  small : ∀ y ∈ ss, ∃ b ∈ L, (cont y).length < size + b.length + 20
  lens : ∀ b ∈ L, b.length ≤ 40
  count : ss.length ≤ L.length
theorem Built.ne {n0 size : Nat} {L : List (List UInt8)} {d : ADisk} {al : ALog} {ss : List Seg} (h : Built n0 size L d al ss) (hL : L ≠ []) : ss ≠ [] := by
  intro e
  have := h.first hL
  rw [e] at this
  cases this
theorem Built.nextOf_le {n0 size : Nat} {L : List (List UInt8)} {d : ADisk} {al : ALog} {ss : List Seg} (h : Built n0 size L d al ss) : nextOf ss ≤ n0 + L.length := by
  by_cases e : L = []
  · rw [h.nil0 e]; exact Nat.zero_le _
  · rw [h.next e]; exact Nat.le_refl _
theorem Built.len_le {n0 size : Nat} {L : List (List UInt8)} {d : ADisk} {al : ALog} {ss : List Seg} (h : Built n0 size L d al ss) : ∀ y ∈ ss, (cont y).length < size + 60 := by
  intro y hy
  obtain ⟨b, hb, hlt⟩ := h.small y hy
  have := h.lens b hb
  omega
theorem Built.lenOf_le {n0 size : Nat} {L : List (List UInt8)} {d : ADisk} {al : ALog} {ss : List Seg} (h : Built n0 size L d al ss) : lenOf ss ≤ size + 60 := by
  rcases List.eq_nil_or_concat ss with rfl | ⟨pre, x, rfl⟩
  · exact Nat.zero_le _
  · rw [List.concat_eq_append, lenOf_last]
    exact Nat.le_of_lt (h.len_le x (by simp))
theorem Built.synced_le {n0 size : Nat} {L : List (List UInt8)} {d : ADisk} {al : ALog} {ss : List Seg} (h : Built n0 size L d al ss) : al.synced ≤ n0 + L.length := by
  have := h.nextOf_le
  rcases h.j.sync with h1 | ⟨_, h1⟩ <;> omega
theorem Built.firsts {n0 size : Nat} {L : List (List UInt8)} {d : ADisk} {al : ALog} {ss : List Seg} (h : Built n0 size L d al ss) : ∀ x ∈ al.segs, x.1 ≤ 9007199254740992 := by
  intro x hx
  rw [h.j.segs] at hx
  obtain ⟨y, hy, rfl⟩ := List.mem_map.1 hx
  exact (chain_ok h.j.on.chain y hy).hi
end Go.Proofs.YtbiadclmonakkaaGreatDoor

/-
  The chapter's examples (awake of chapter 04), on a plain disk. No program here.
-/
namespace Go.Proofs.YtbiadclmonakkaaGreatDoor

theorem append_old_synced {d d' : ADisk} {al al' : ALog} {n : Nat} {b : List UInt8} (hn : al.needs = false) (he : wAppend d al n b = (d', al', 0)) : al'.synced = al.synced := by
  unfold wAppend at he
  split at he
  · simp at he
  · split at he
    · simp at he
    · split at he
      · simp at he
      · split at he
        · simp at he
        · rw [if_neg (by rw [hn]; simp)] at he
          unfold wPut at he
          split at he
          · rename_i h1
            simp only [Prod.mk.injEq] at he
            exact absurd he.2.2 h1
          · simp only [Prod.mk.injEq] at he
            rw [← he.2.1]
/-- a record that begins a segment: its file, what is synced. -/
theorem append_new_file {d d' : ADisk} {al al' : ALog} {ss : List Seg} (h : J d al ss) {n : Nat} {b : List UInt8} (hn1 : n ≤ 9007199254740992) (hn : ss ≠ [] → n = nextOf ss) (hnd : al.needs = true) (h0 : 1 ≤ n) (he : wAppend d al n b = (d', al', 0)) :
    lk d'.fs (wName n) = some ⟨hd4 n, fr4 n b⟩ ∧ al'.synced = n - 1 := by
  have hno : lk d.fs (wName n) = none := by
    rcases List.eq_nil_or_concat ss with rfl | ⟨pre, x, rfl⟩
    · exact h.on.bare_of.only n h0 hn1
    · rw [List.concat_eq_append] at *
      have hL := h.on.lies_of
      have hnx := hn (by simp)
      rw [nextOf_last] at hnx
      have hx : x.2 ≠ [] := by
        unfold ALog.needs at hnd
        obtain ⟨_, h2, h3⟩ := segs_last pre x al h.segs
        rw [h2] at hnd
        intro e
        rw [e] at hnd
        cases hs : al.segs with
        | nil => exact h3 hs
        | cons a r => rw [hs] at hnd; simp at hnd
      have hxl : 0 < x.2.length := List.length_pos_iff.2 hx
      cases hl : lk d.fs (wName n) with
      | none => rfl
      | some f =>
        exfalso
        have hm := hL.only n h0 hn1 (by rw [hl]; simp)
        rw [List.map_append, List.mem_append] at hm
        rcases hm with hm | hm
        · have hcf := chain_firsts hL.ch
          rw [List.map_append, List.pairwise_append] at hcf
          have := hcf.2.2 n hm x.1 (by simp)
          omega
        · simp at hm; omega
  have hsrt : SortedF d.fs := by
    rcases List.eq_nil_or_concat ss with rfl | ⟨pre, x, rfl⟩
    · exact h.on.bare_of.sorted
    · rw [List.concat_eq_append] at *; exact h.on.lies_of.sorted
  unfold wAppend at he
  split at he
  · simp at he
  · split at he
    · simp at he
    · split at he
      · simp at he
      · split at he
        · simp at he
        · first | rw [if_pos hnd, Int.toNat_natCast] at he | rw [Int.toNat_natCast] at he
          simp only at he
          split at he
          · rename_i h1
            simp only [Prod.mk.injEq] at he
            exact absurd he.2.2 h1
          · rename_i hz
            have hz : (wAnother d al n).2.2 = 0 := Decidable.of_not_not hz
            have hA : lk (wAnother d al n).1.fs (wName n) = some ⟨hd4 n, []⟩ ∧ (wAnother d al n).1.down = false ∧ SortedF (wAnother d al n).1.fs ∧ (wAnother d al n).2.1.lastN = n ∧ (wAnother d al n).2.1.synced = n - 1 := by
              have key : ∀ (d1 : ADisk) (al1 : ALog), SortedF d1.fs → d1.down = false → lk d1.fs (wName n) = none →
                  (if (anoSteps d1 n).2 = 0 then ((anoSteps d1 n).1, { al1 with segs := al1.segs ++ [(n, false)], bytes := (hd4 n).length, synced := n - 1 }, (0 : Int)) else ((anoSteps d1 n).1, al1, (anoSteps d1 n).2)) = wAnother d al n →
                  lk (wAnother d al n).1.fs (wName n) = some ⟨hd4 n, []⟩ ∧ (wAnother d al n).1.down = false ∧ SortedF (wAnother d al n).1.fs ∧ (wAnother d al n).2.1.lastN = n ∧ (wAnother d al n).2.1.synced = n - 1 := by
                intro d1 al1 a1 a2 a3 heq
                rw [← heq] at hz ⊢
                rcases ano_law a1 a2 hn1 a3 with ⟨d2, e1, e2, e3, e4, _⟩ | ⟨d2, e, e0, e1, _⟩
                · rw [e1, if_pos rfl]
                  refine ⟨by simp only; rw [e4, if_pos rfl], e2, e3, ?_, rfl⟩
                  unfold ALog.lastN
                  simp
                · rw [e1] at hz
                  simp only at hz
                  rw [if_neg e0] at hz
                  exact absurd hz e0
              by_cases hs : al.segs = []
              · refine key d al hsrt h.up hno ?_
                symm
                unfold wAnother
                rw [if_neg (by rintro ⟨a, _⟩; exact a hs)]
                simp only [hs, if_true]
              · have hsy : d.syncErr al.file = 0 := by
                  refine Decidable.of_not_not (fun hne => ?_)
                  unfold wAnother at hz
                  rw [if_pos ⟨hs, hne⟩] at hz
                  exact hne hz
                rcases List.eq_nil_or_concat ss with rfl | ⟨pre, x, rfl⟩
                · exact absurd h.segs hs
                · rw [List.concat_eq_append] at *
                  obtain ⟨f, hf, _⟩ := h.on.lies_of.last
                  have hfile : al.file = wName x.1 := by unfold ALog.file; rw [(segs_last pre x al h.segs).1]
                  rw [hfile] at hsy
                  rcases sync_cases hsrt h.up hf with ⟨_, _, b2⟩ | ⟨_, _, b2, b3, b4, _⟩
                  · rw [b2] at hsy; exact absurd hsy (by decide)
                  · refine key (d.sync al.file) { al with synced := n - 1 } (by rw [hfile]; exact b3) (by rw [hfile]; exact b2) ?_ ?_
                    · rw [hfile, b4]
                      split
                      · rename_i e
                        rw [← e, hno] at hf; cases hf
                      · exact hno
                    · symm
                      unfold wAnother
                      rw [if_neg (by rintro ⟨_, a⟩; rw [hfile] at a; exact a hsy)]
                      simp only [hs, if_false]
            obtain ⟨c1, c2, c3, c4, c5⟩ := hA
            generalize (wAnother d al n).1 = d1 at *
            generalize (wAnother d al n).2.1 = al1 at *
            have hfl : al1.file = wName n := by unfold ALog.file; rw [c4]
            unfold wPut at he
            rw [hfl] at he
            rcases app_cases c3 c2 (wName_ok hn1) (fr4 n b) with ⟨g1, _⟩ | ⟨g1, _, _, g4, _⟩
            · rw [if_pos g1] at he
              simp only [Prod.mk.injEq] at he
              exact absurd he.2.2 g1
            · rw [if_neg (fun e => e g1)] at he
              simp only [Prod.mk.injEq] at he
              obtain ⟨rfl, rfl, _⟩ := he
              refine ⟨?_, c5⟩
              rw [g4, if_pos rfl]
              unfold afile
              rw [c1]
              simp
theorem fr4_exact {n : Nat} {b : List UInt8} (hn : n < 128) (hb : b.length < 100) : (fr4 n b).length = b.length + 6 := by
  have h0 := vint_one hn
  have hbl : (wBody n b).length = (vint n).length + b.length := by simp [wBody]
  have h1 := vint_one (n := (wBody n b).length) (by omega)
  unfold fr4
  rw [wFrame_len sumL_len, h1]
  omega
theorem hd4_exact {n : Nat} (hn : n < 128) : (hd4 n).length = 9 := by
  have h0 := vint_one hn
  unfold hd4 wHead sealL
  simp only [List.length_append, sumL_len, List.length_cons, List.length_nil]
  omega
/-- the first segment of the examples: how many bytes its file has. -/
structure Aw (R : List (List UInt8)) (len sy : Nat) (d : ADisk) (al : ALog) : Prop where
  j : J d al [(7, R)]
  ne : R ≠ []
  few : R.length ≤ 20
  small : ∀ b ∈ R, b.length ≤ 1
  size : al.size = 64
  sync : al.synced = sy
  left : d.left = -1
  most : d.most = 1000
  sorted : SortedF d.fs
  used : usedF d.fs ≤ 30 * R.length
  cnt : d.fs.length ≤ 2 * R.length
  only : OnlyW d
  bytes : (cont (7, R)).length = len
theorem fit_why {d : ADisk} {a k : Nat} (hl : d.left = -1) (hm : d.most = 1000) (hu : usedF d.fs + a ≤ 1000) (hc : d.fs.length + k < 200) : ¬ Why d a k := by
  rintro (h | h | h)
  · exact h hl
  · omega
  · omega
theorem Aw.needs {R : List (List UInt8)} {len sy : Nat} {d : ADisk} {al : ALog} (h : Aw R len sy d al) : al.needs = decide (64 ≤ len) := by
  obtain ⟨_, h2, h3⟩ := segs_last [] (7, R) al h.j.segs
  unfold ALog.needs
  rw [h2, h.size, h.j.bytes, show lenOf [(7, R)] = (cont (7, R)).length from lenOf_last [] (7, R), h.bytes]
  cases hs : al.segs with
  | nil => exact absurd hs h3
  | cons a r =>
    cases hR : R with
    | nil => exact absurd hR h.ne
    | cons c R => simp
theorem Aw.next {R : List (List UInt8)} {len sy : Nat} {d : ADisk} {al : ALog} (h : Aw R len sy d al) {b : List UInt8} (hb : b.length ≤ 1) (hR : R.length ≤ 15) (hl : len < 64) :
    ∃ d' al', wAppend d al ((7 + R.length : Nat) : Int) b = (d', al', 0) ∧ Aw (R ++ [b]) (len + (b.length + 6)) sy d' al' := by
  have hnx : nextOf [(7, R)] = 7 + R.length := nextOf_last [] (7, R)
  have hnd : al.needs = false := by rw [h.needs]; simp; omega
  obtain ⟨f1, f2⟩ := fr4_len (n := 7 + R.length) (b := b) (by omega) (by omega)
  obtain ⟨g1, g2⟩ := hd4_small (n := 7 + R.length) (by omega)
  obtain ⟨gs, gg⟩ := wAppend_grow h.sorted al ((7 + R.length : Nat) : Int) b
  rw [Int.toNat_natCast] at gg
  have hoth := wAppend_other d al ((7 + R.length : Nat) : Int) b h.j.inR
  rcases append_law h.j (7 + R.length) b (by omega) (by omega) (by omega) (fun _ => hnx.symm) with ⟨d', al', ss', he, hp⟩ | ⟨d', al', ss', e, _, _, hw, _⟩
  · have hsy := append_old_synced hnd he
    rw [he] at gs gg hoth
    simp only at gs gg hoth
    rcases hp.how with ⟨h1, _⟩ | ⟨_, pre, x, h1, h2, rfl⟩
    · rw [hnd] at h1; cases h1
    · obtain ⟨rfl, e2⟩ := List.append_inj' (show [] ++ [(7, R)] = pre ++ [x] from h1) rfl
      cases e2
      have := gg.used
      have := gg.len
      have := h.used
      have := h.cnt
      have hlen : (R ++ [b]).length = R.length + 1 := by simp
      refine ⟨d', al', he, hp.j, by simp, by omega, fun c hc => ?_, hp.size.trans h.size, hsy.trans h.sync, hp.free h.left, gg.most.trans h.most, gs, by rw [hlen]; omega, by rw [hlen]; omega, h.only.other hoth, ?_⟩
      · rcases List.mem_append.1 hc with hc | hc
        · exact h.small c hc
        · simp only [List.mem_singleton] at hc; subst hc; exact hb
      · have := cont_more (7, R) b
        simp only at this
        rw [this, List.length_append, h.bytes, fr4_exact (by omega) (by omega)]
  · exact absurd hw (fit_why h.left h.most (by have := h.used; omega) (by have := h.cnt; omega))
theorem aw_first : ∃ d al, wAppend ⟨1000, -1, false, []⟩ (f0.log 64) (7 : Nat) [97] = (d, al, 0) ∧ Aw [[97]] 16 6 d al := by
  have hb : Bare ⟨1000, -1, false, []⟩ := ⟨List.Pairwise.nil, fun _ _ _ => rfl⟩
  have hJ : J ⟨1000, -1, false, []⟩ (f0.log 64) [] := ⟨rfl, OnF.bare hb, rfl, rfl, rfl, Or.inr ⟨rfl, rfl⟩, rfl⟩
  have f1 := fr4_exact (n := 7) (b := [97]) (by omega) (by simp)
  have g1 := hd4_exact (n := 7) (by omega)
  simp only [List.length_cons, List.length_nil] at f1
  obtain ⟨gs, gg⟩ := wAppend_grow (d := ⟨1000, -1, false, []⟩) List.Pairwise.nil (f0.log 64) ((7 : Nat) : Int) [97]
  rw [Int.toNat_natCast] at gg
  have hoth := wAppend_other ⟨1000, -1, false, []⟩ (f0.log 64) ((7 : Nat) : Int) [97] hJ.inR
  rcases append_law hJ 7 [97] (by simp) (by omega) (by omega) (fun e => absurd rfl e) with ⟨d', al', ss', he, hp⟩ | ⟨d', al', ss', e, _, _, hw, _⟩
  · have hf := append_new_file hJ (by omega) (fun e => absurd rfl e) rfl (by omega) he
    rw [he] at gs gg hoth
    simp only at gs gg hoth
    rcases hp.how with ⟨h1, rfl⟩ | ⟨h1, _⟩
    · have hu := gg.used
      have hl := gg.len
      have hz : usedF (⟨1000, -1, false, []⟩ : ADisk).fs = 0 := rfl
      rw [hz] at hu
      simp only [List.length_nil] at hl
      refine ⟨d', al', he, hp.j, by simp, by simp, fun c hc => ?_, hp.size, hf.2, hp.free rfl, gg.most, gs, ?_, by simpa using hl, (onlyW_new 1000).other hoth, ?_⟩
      · simp only [List.mem_singleton] at hc; subst hc; simp
      · simp only [List.length_cons, List.length_nil]; omega
      · unfold cont
        simp only [wFrames, List.append_nil, List.length_append]
        have : (wFrame sumL 7 [97]).length = 7 := f1
        omega
    · cases h1
  · refine absurd hw (fit_why rfl rfl ?_ (by simp))
    simp only [usedF]
    simp; omega
theorem aw_last {R : List (List UInt8)} {sy : Nat} {d : ADisk} {al : ALog} (h : Aw R 64 sy d al) (hR : R.length = 8) :
    ∃ d1 al1, wAppend d al ((15 : Nat) : Int) [98] = (d1, al1, 0) ∧ J d1 al1 [(7, R), (15, [[98]])] ∧ al1.size = 64 ∧ d1.left = -1 ∧ SortedF d1.fs ∧ OnlyW d1 ∧ lk d1.fs (wName 15) = some ⟨hd4 15, fr4 15 [98]⟩ := by
  have hnx : nextOf [(7, R)] = 15 := by rw [show nextOf [(7, R)] = 7 + R.length from nextOf_last [] (7, R), hR]
  have hnd : al.needs = true := by rw [h.needs]; simp
  have f1 := fr4_exact (n := 15) (b := [98]) (by omega) (by simp)
  have g1 := hd4_exact (n := 15) (by omega)
  simp only [List.length_cons, List.length_nil] at f1
  obtain ⟨gs, gg⟩ := wAppend_grow h.sorted al ((15 : Nat) : Int) [98]
  have hoth := wAppend_other d al ((15 : Nat) : Int) [98] h.j.inR
  rcases append_law h.j 15 [98] (by simp) (by omega) (by omega) (fun _ => hnx.symm) with ⟨d', al', ss', he, hp⟩ | ⟨d', al', ss', e, _, _, hw, _⟩
  · have hf := append_new_file h.j (by omega) (fun _ => hnx.symm) hnd (by omega) he
    rw [he] at gs hoth
    simp only at gs hoth
    rcases hp.how with ⟨_, rfl⟩ | ⟨h1, _⟩
    · exact ⟨d', al', he, hp.j, hp.size.trans h.size, hp.free h.left, gs, h.only.other hoth, hf.1⟩
    · rw [hnd] at h1; cases h1
  · exact absurd hw (fit_why h.left h.most (by have := h.used; omega) (by have := h.cnt; omega))
theorem aw_trim {R : List (List UInt8)} {d : ADisk} {al : ALog} (hj : J d al [(7, R), (15, [[98]])]) (hl : d.left = -1) (hs : SortedF d.fs) (ho : OnlyW d) (hf : lk d.fs (wName 15) = some ⟨hd4 15, fr4 15 [98]⟩) :
    ∃ d2 al2, wTrim d al 15 = (d2, al2, [wName 7], 0) ∧ d2.fs = [(wName 15, ⟨hd4 15, fr4 15 [98]⟩)] ∧ d2.most = d.most := by
  have hL : Lies d [(7, R)] (15, [[98]]) (cont (15, [[98]])).length al.synced := (show OnF d ([(7, R)] ++ [(15, [[98]])]) al.synced from hj.on).lies_of
  have h7 := hL.full (7, R) (by simp)
  have hsg : al.segs = [(7, !R.isEmpty), (15, true)] := hj.segs
  rcases remove_cases hs hj.up h7 with ⟨a0, _⟩ | ⟨_, a1, a2, a3, a4, _⟩
  · rw [hl] at a0; exact absurd a0 (by decide)
  · refine ⟨d.remove (wName 7), { al with segs := [(15, true)] }, ?_, ?_, ?_⟩
    · unfold wTrim
      rw [if_neg (by rw [hj.live]; simp), hsg]
      unfold wTrimL
      rw [if_pos (by decide)]
      simp only
      rw [if_neg (fun e => e a1)]
      rfl
    · have h715 : wName 15 ≠ wName 7 := fun e => by have := wName_inj e; omega
      refine fs_ext a3 (by simp [SortedF]) (fun s => ?_)
      rw [lk_cons]
      by_cases e : wName 15 = s
      · subst e
        rw [if_pos rfl, a4, if_neg h715, hf]
      · rw [if_neg e, a4]
        split
        · rfl
        · rename_i e7
          cases hk : lk d.fs s with
          | none => rfl
          | some g =>
            exfalso
            obtain ⟨n, hn, rfl⟩ := ho s (by rw [hk]; simp)
            have := hL.only n hn.1 hn.2 (by rw [hk]; simp)
            simp only [List.cons_append, List.nil_append, List.map_cons, List.map_nil, List.mem_cons, List.not_mem_nil, or_false] at this
            rcases this with rfl | rfl
            · exact e7 rfl
            · exact e rfl
    · have := remove_grow hs (wName 7)
      exact this.most
theorem aw_open {d : ADisk} (hf : d.fs = [(wName 15, ⟨hd4 15, fr4 15 [98]⟩)]) : ∃ d3 f, wOpen (d.crash [6]) 64 = (d3, f, 0) ∧ f.recs = [] ∧ J d3 (f.log 64) [(15, [])] := by
  have f1 := fr4_exact (n := 15) (b := [98]) (by omega) (by simp)
  have g1 := hd4_exact (n := 15) (by omega)
  simp only [List.length_cons, List.length_nil] at f1
  have hc : cont (15, [[98]]) = hd4 15 ++ fr4 15 [98] := by unfold cont fr4; simp [wFrames]
  have hfs : (d.crash [6]).fs = [(wName 15, ⟨(cont (15, [[98]])).take 15, []⟩)] := by
    unfold ADisk.crash
    rw [hf]
    simp only [List.length_cons, List.length_nil, crashK, List.getElem?_cons_zero]
    rw [hc]
    unfold AFile.kept putF
    rw [if_pos rfl]
    simp only [g1, f1]
    rfl
  have hlk : lk (d.crash [6]).fs (wName 15) = some ⟨(cont (15, [[98]])).take 15, []⟩ := by rw [hfs, lk_cons, if_pos rfl]
  have hlen : (cont (15, [[98]])).length = 16 := by rw [hc, List.length_append, f1, g1]
  have hL : Lies (d.crash [6]) [] (15, [[98]]) 15 14 := by
    refine ⟨by rw [hfs]; simp [SortedF], ⟨by decide, by decide, by decide, fun b hb => ?_⟩, fun y hy => (by cases hy), ⟨_, hlk, by rw [List.append_nil], by unfold need; rw [if_pos (by decide)]; exact Nat.zero_le _⟩, by omega, fun n _ _ hn => ?_⟩
    · simp at hb; subst hb; simp
    · rw [hfs, lk_cons] at hn
      by_cases e : wName 15 = wName n
      · rw [← wName_inj e]; simp
      · rw [if_neg e] at hn; exact absurd rfl hn
  obtain ⟨d', ss', _, h⟩ := open_law hL rfl 64 (by decide) (by decide)
  rcases h with ⟨h1, h2, h3, _⟩ | ⟨h1, _⟩
  · have hfo : foundOf [] (15, [[98]]) 15 = { fPre [(15, [])] with bytes := 15 } := by
      unfold foundOf
      rw [if_neg (by simp only; omega)]
      have hft : fitN 15 [[98]] (15 - (hd4 15).length) = 0 := by
        unfold fitN
        rw [if_neg (by omega)]
      simp only [hft]
      rfl
    refine ⟨d', _, h1, by rw [hfo]; rfl, ?_⟩
    have hss : ss' = [(15, [])] := by
      have e1 := h2.segs
      have e3 : allRecs ss' = [] := by rw [← h3, hfo]; rfl
      rw [hfo] at e1
      cases ss' with
      | nil => cases e1
      | cons y r =>
        cases r with
        | nil =>
          obtain ⟨y1, y2⟩ := y
          have e4 : numbered y1 y2 = [] := by simpa [allRecs] using e3
          have e5 : y2 = [] := by
            cases y2 with
            | nil => rfl
            | cons a r => cases e4
          subst e5
          have e6 : (15 : Nat) = y1 := by
            have : [((15 : Nat), false)] = [(y1, false)] := e1
            simpa using this
          rw [e6]
        | cons z r =>
          have := congrArg List.length e1
          simp [AFound.log, fPre] at this
    rw [← hss]; exact h2
  · exact absurd rfl h1
end Go.Proofs.YtbiadclmonakkaaGreatDoor

/-
  The chapter's examples, step by step. No program here.
-/
namespace Go.Proofs.YtbiadclmonakkaaGreatDoor

theorem Aw.last {R : List (List UInt8)} {len sy : Nat} {d : ADisk} {al : ALog} (h : Aw R len sy d al) : al.last = 6 + R.length := by
  unfold ALog.last
  rw [h.j.next, show nextOf [(7, R)] = 7 + R.length from nextOf_last [] (7, R)]
  omega
theorem Aw.syncs {R : List (List UInt8)} {len sy : Nat} {d : ADisk} {al : ALog} (h : Aw R len sy d al) : ∃ d' al', wSync d al = (d', al', 0) ∧ Aw R len (6 + R.length) d' al' := by
  have hds : (wSync d al).1 = d.sync al.file ∨ (wSync d al).1 = d := by
    unfold wSync
    split
    · exact Or.inr rfl
    · split
      · exact Or.inr rfl
      · split
        · exact Or.inl rfl
        · exact Or.inl rfl
  have hin : InR al.lastN := lastN_in h.j.inR (segs_last [] (7, R) al h.j.segs).2.2
  rcases sync_law h.j (by simp) with ⟨d', e1, e2, _, e4, e5⟩ | ⟨e1, _⟩
  · rw [e1] at hds
    simp only at hds
    have hs : SortedF d'.fs := by
      rcases hds with rfl | rfl
      · exact sync_sorted h.sorted _
      · exact h.sorted
    have ho : Other d d' := by
      rcases hds with rfl | rfl
      · exact sync_other4 d hin
      · exact Other.refl _
    exact ⟨d', _, e1, e2, h.ne, h.few, h.small, h.size, h.last, e4 h.left, e5.most.trans h.most, hs, by have := e5.used; have := h.used; omega, by have := e5.len; have := h.cnt; omega, h.only.other ho, h.bytes⟩
  · exact absurd h.left e1
theorem Aw.other_seq {R : List (List UInt8)} {len sy : Nat} {d : ADisk} {al : ALog} (h : Aw R len sy d al) (n : Nat) (b : List UInt8) (hn : 1 ≤ n) (hn1 : n ≤ 9007199254740992) (hb : b.length ≤ 1048576) (hne : n ≠ 7 + R.length) : wAppend d al n b = (d, al, 18) := by
  unfold wAppend
  rw [if_neg (by rw [h.j.live]; simp), if_neg (by omega), if_neg (by omega), if_pos]
  rw [h.j.next, show nextOf [(7, R)] = 7 + R.length from nextOf_last [] (7, R)]
  omega
theorem Aw.small_ok {R : List (List UInt8)} {len sy : Nat} {d : ADisk} {al : ALog} (h : Aw R len sy d al) : al.size ≤ 16777216 ∧ nextOf [(7, R)] ≤ 9007199254740993 ∧ lenOf [(7, R)] ≤ 1099511627776 ∧ ([(7, R)] : List Seg).length ≤ 500 := by
  have hx := chain_ok h.j.on.chain (7, R) (by simp)
  refine ⟨by rw [h.size]; decide, ?_, ?_, by simp⟩
  · rw [show nextOf [(7, R)] = 7 + R.length from nextOf_last [] (7, R)]
    have := h.few; omega
  · rw [show lenOf [(7, R)] = (cont (7, R)).length from lenOf_last [] (7, R)]
    have hl : ∀ (n : Nat) (R : List (List UInt8)), (∀ b ∈ R, b.length ≤ 1) → n + R.length ≤ 100 → (wFrames sumL n R).length ≤ 9 * R.length := by
      intro n R
      induction R generalizing n with
      | nil => intro _ _; exact Nat.le_refl _
      | cons b R ih =>
        intro h1 h2
        simp only [wFrames, List.length_append, List.length_cons] at h2 ⊢
        have := ih (n + 1) (fun b hb => h1 b (List.mem_cons_of_mem _ hb)) (by omega)
        have h3 := h1 b (by simp)
        have := (fr4_len (n := n) (b := b) (by omega) (by omega)).1
        unfold fr4 at this
        omega
    have h2 := hl 7 R h.small (by have := h.few; omega)
    have h3 := (hd4_small (n := 7) (by omega)).1
    have h4 := h.few
    unfold cont
    rw [List.length_append]
    simp only
    omega
theorem aw_names1 {R : List (List UInt8)} {len sy : Nat} {d : ADisk} {al : ALog} (h : Aw R len sy d al) : al.segs.map (fun x => wName x.1) = [wName 7] := by
  rw [h.j.segs]; rfl
theorem aw_disk1 {R : List (List UInt8)} {len sy : Nat} {d : ADisk} {al : ALog} (h : Aw R len sy d al) : d.names = [wName 7] := by
  have hL : Lies d [] (7, R) (cont (7, R)).length al.synced := (show OnF d ([] ++ [(7, R)]) al.synced from h.j.on).lies_of
  obtain ⟨f, hf, _⟩ := hL.last
  have : d.fs = [(wName 7, f)] := by
    refine fs_ext h.sorted (by simp [SortedF]) (fun s => ?_)
    rw [lk_cons]
    by_cases e : wName 7 = s
    · subst e; rw [if_pos rfl]; exact hf
    · rw [if_neg e]
      cases hk : lk d.fs s with
      | none => rfl
      | some g =>
        exfalso
        obtain ⟨n, hn, rfl⟩ := h.only s (by rw [hk]; simp)
        have := hL.only n hn.1 hn.2 (by rw [hk]; simp)
        simp only [List.nil_append, List.map_cons, List.map_nil, List.mem_singleton] at this
        exact e (by rw [this])
  unfold ADisk.names
  rw [this]; rfl
/-- the loop of the examples: n is the next record's number. -/
def AwN (n : Nat) (d : ADisk) (al : ALog) : Prop := ∃ R, Aw R (22 + 7 * (n - 9)) 8 d al ∧ n = 7 + R.length ∧ 9 ≤ n ∧ n ≤ 15
def AwE (d : ADisk) (al : ALog) : Prop := ∃ R, J d al [(7, R), (15, [[98]])] ∧ al.size = 64 ∧ d.left = -1 ∧ SortedF d.fs ∧ OnlyW d ∧ lk d.fs (wName 15) = some ⟨hd4 15, fr4 15 [98]⟩
theorem AwN.next {n : Nat} {d : ADisk} {al : ALog} (h : AwN n d al) (hn : n < 15) : ∃ d' al', wAppend d al n [98] = (d', al', 0) ∧ AwN (n + 1) d' al' := by
  obtain ⟨R, h1, h2, h3, h4⟩ := h
  obtain ⟨d', al', e1, e2⟩ := h1.next (b := [98]) (by simp) (by omega) (by omega)
  rw [← h2] at e1
  refine ⟨d', al', e1, R ++ [[98]], ?_, by simp; omega, by omega, by omega⟩
  have : 22 + 7 * (n - 9) + (([98] : List UInt8).length + 6) = 22 + 7 * (n + 1 - 9) := by simp; omega
  rw [this] at e2; exact e2
theorem AwN.ends {d : ADisk} {al : ALog} (h : AwN 15 d al) : ∃ d' al', wAppend d al (15 : Nat) [98] = (d', al', 0) ∧ AwE d' al' := by
  obtain ⟨R, h1, h2, h3, h4⟩ := h
  obtain ⟨d', al', e1, e2, e3, e4, e5, e6, e7⟩ := aw_last h1 (by omega)
  exact ⟨d', al', e1, R, e2, e3, e4, e5, e6, e7⟩
/-- what the walk of awake asks ahead of its loop. -/
theorem aw_head : ∃ d1 al1 d2 al2 d3 al3, wAppend ⟨1000, -1, false, []⟩ (f0.log 64) (7 : Nat) [97] = (d1, al1, 0) ∧ Aw [[97]] 16 6 d1 al1 ∧ wAppend d1 al1 (9 : Nat) [] = (d1, al1, 18) ∧ wAppend d1 al1 (8 : Nat) [] = (d2, al2, 0) ∧ Aw [[97], []] 22 6 d2 al2 ∧ wSync d2 al2 = (d3, al3, 0) ∧ Aw [[97], []] 22 8 d3 al3 ∧ AwN 9 d3 al3 := by
  obtain ⟨d1, al1, e1, a1⟩ := aw_first
  obtain ⟨d2, al2, e2, a2⟩ := a1.next (b := []) (by simp) (by simp) (by omega)
  obtain ⟨d3, al3, e3, a3⟩ := a2.syncs
  exact ⟨d1, al1, d2, al2, d3, al3, e1, a1, a1.other_seq 9 [] (by omega) (by omega) (by simp) (by simp), e2, a2, e3, a3, _, a3, rfl, by omega, by omega⟩
theorem AwE.tail {d : ADisk} {al : ALog} (h : AwE d al) : ∃ d2 al2 d3 f, al.segs.map (fun x => wName x.1) = [wName 7, wName 15] ∧ wTrim d al 15 = (d2, al2, [wName 7], 0) ∧ wOpen (d2.crash [6]) 64 = (d3, f, 0) ∧ f.recs.length = 0 ∧ (f.log 64).last = 14 ∧ (f.log 64).first = 15 ∧ J d3 (f.log 64) [(15, [])] := by
  obtain ⟨R, h1, h2, h3, h4, h5, h6⟩ := h
  obtain ⟨d2, al2, t1, t2, _⟩ := aw_trim h1 h3 h4 h5 h6
  obtain ⟨d3, f, o1, o2, o3⟩ := aw_open t2
  refine ⟨d2, al2, d3, f, by rw [h1.segs]; rfl, t1, o1, by rw [o2]; rfl, ?_, ?_, o3⟩
  · unfold ALog.last
    rw [o3.next]; rfl
  · unfold ALog.first
    rw [o3.segs]; rfl
theorem AwE.small_ok {d : ADisk} {al : ALog} (h : AwE d al) : ∃ ss, J d al ss ∧ al.size ≤ 16777216 ∧ nextOf ss ≤ 9007199254740993 ∧ lenOf ss ≤ 1099511627776 ∧ ss.length ≤ 500 := by
  obtain ⟨R, h1, h2, _⟩ := h
  have f1 := fr4_exact (n := 15) (b := [98]) (by omega) (by simp)
  have g1 := hd4_exact (n := 15) (by omega)
  have hc : cont (15, [[98]]) = hd4 15 ++ fr4 15 [98] := by unfold cont fr4; simp [wFrames]
  refine ⟨_, h1, by rw [h2]; decide, (by decide : (16 : Nat) ≤ 9007199254740993), ?_, by simp⟩
  rw [show lenOf [(7, R), (15, [[98]])] = (cont (15, [[98]])).length from lenOf_last [(7, R)] (15, [[98]]), hc, List.length_append, f1, g1]
  decide
end Go.Proofs.YtbiadclmonakkaaGreatDoor
