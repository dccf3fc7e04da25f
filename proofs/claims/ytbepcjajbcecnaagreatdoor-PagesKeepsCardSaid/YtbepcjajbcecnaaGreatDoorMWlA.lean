/-
  A journal's bytes as plain data: heads, records, what is read of bytes. No program here. S is the sum of bytes: four bytes.
-/
import Derived.Test.YtbepcjajbcecnaaGreatDoorMByA
import Derived.Lib.ItoaNum
import Derived.Lib.ItoaMem
import Derived.Lib.AtoiTie
import Derived.Lib.AtoiAll
import Derived.Test.YtbepcjajbcecnaaGreatDoorMDkB
namespace Go.Proofs.YtbepcjajbcecnaaGreatDoor

section
variable (S : List UInt8 → List UInt8)
def wHead (n : Nat) : List UInt8 := sealL S ([72, 83, 87, 49] ++ vint n)
def wBody (n : Nat) (b : List UInt8) : List UInt8 := vint n ++ b
def wFrame (n : Nat) (b : List UInt8) : List UInt8 := vint (wBody n b).length ++ sealL S (wBody n b)
/-- the record at the beginning of bytes: its number, its bytes, how many bytes it takes. -/
def wRec (l : List UInt8) : Option (Nat × List UInt8 × Nat) :=
  match gU l with
  | (0, m, k) => if l.length - k < m then none else if l.length - k - m < 4 then none else
    match unsealL S ((l.drop k).take (m + 4)) with
    | (0, body) => match gU body with
      | (0, n, j) => if 9007199254740992 < n then none else if 1048576 < body.length - j then none else some (n, body.drop j, k + m + 4)
      | _ => none
    | _ => none
  | _ => none
theorem wRec_len {l b : List UInt8} {n t : Nat} (h : wRec S l = some (n, b, t)) : 4 ≤ t ∧ t ≤ l.length ∧ n ≤ 9007199254740992 ∧ b.length ≤ 1048576 := by
  unfold wRec at h
  split at h
  · rename_i m k hg
    split at h
    · cases h
    · split at h
      · cases h
      · split at h
        · split at h
          · split at h
            · cases h
            · split at h
              · cases h
              · simp only [Option.some.injEq, Prod.mk.injEq] at h
                obtain ⟨rfl, rfl, rfl⟩ := h
                have := (gU_ok hg).2.2.1
                refine ⟨by omega, by omega, by omega, ?_⟩
                rw [List.length_drop]; omega
          · cases h
        · cases h
  · cases h
/-- the records from a number on: their bytes, and how many bytes they take in all. -/
def wRecs (l : List UInt8) (n : Nat) : List (List UInt8) × Nat :=
  match _h : wRec S l with
  | some (k, b, t) => if k = n then (b :: (wRecs (l.drop t) (n + 1)).1, t + (wRecs (l.drop t) (n + 1)).2) else ([], 0)
  | none => ([], 0)
termination_by l.length
decreasing_by all_goals (have := wRec_len S _h; simp; omega)
theorem wRecs_none {l : List UInt8} {n : Nat} (h : wRec S l = none) : wRecs S l n = ([], 0) := by
  rw [wRecs]
  split
  · rename_i h2; rw [h] at h2; cases h2
  · rfl
theorem wRecs_other {l b : List UInt8} {n k t : Nat} (h : wRec S l = some (k, b, t)) (hk : k ≠ n) : wRecs S l n = ([], 0) := by
  rw [wRecs]
  split
  · rename_i k' b' t' h2
    rw [h] at h2
    cases h2
    rw [if_neg hk]
  · rfl
theorem wRecs_some {l b : List UInt8} {n t : Nat} (h : wRec S l = some (n, b, t)) : wRecs S l n = (b :: (wRecs S (l.drop t) (n + 1)).1, t + (wRecs S (l.drop t) (n + 1)).2) := by
  rw [wRecs]
  split
  · rename_i k' b' t' h2
    rw [h] at h2
    cases h2
    rw [if_pos rfl]
  · rename_i h2; rw [h] at h2; cases h2
theorem wRecs_le (l : List UInt8) (n : Nat) : (wRecs S l n).2 ≤ l.length := by
  induction hl : l.length using Nat.strongRecOn generalizing l n with
  | _ m ih =>
    subst hl
    cases h : wRec S l with
    | none => rw [wRecs_none S h]; exact Nat.zero_le _
    | some r =>
      obtain ⟨k, b, t⟩ := r
      obtain ⟨h1, h2, _⟩ := wRec_len S h
      by_cases hk : k = n
      · subst hk
        rw [wRecs_some S h]
        have := ih (l.drop t).length (by rw [List.length_drop]; omega) (l.drop t) (k + 1) rfl
        rw [List.length_drop] at this
        simp only
        omega
      · rw [wRecs_other S h hk]; exact Nat.zero_le _
variable {S} (hS : ∀ b, (S b).length = 4)
include hS
theorem wHead_len (n : Nat) (hn : n ≤ 9007199254740992) : 9 ≤ (wHead S n).length ∧ (wHead S n).length ≤ 18 := by
  have h1 := vint_len (n := n) (k := 10) (by omega) (Nat.lt_of_le_of_lt hn (by decide))
  have h2 := vint_pos n
  unfold wHead sealL
  simp only [List.length_append, hS, List.length_cons, List.length_nil]
  omega
theorem wFrame_len (n : Nat) (b : List UInt8) : (wFrame S n b).length = (vint (wBody n b).length).length + ((wBody n b).length + 4) := by
  unfold wFrame sealL
  simp only [List.length_append, hS]
theorem wRec_frame (n : Nat) (b r : List UInt8) (hn : n ≤ 9007199254740992) (hb : b.length ≤ 1048576) : wRec S (wFrame S n b ++ r) = some (n, b, (wFrame S n b).length) := by
  have hv := vint_len (n := n) (k := 10) (by omega) (Nat.lt_of_le_of_lt hn (by decide))
  have hbl : (wBody n b).length = (vint n).length + b.length := by simp [wBody]
  have hm : (wBody n b).length < 18446744073709551616 := by omega
  have hfl := wFrame_len hS n b
  have hgu := gU_vint (wBody n b).length (sealL S (wBody n b) ++ r) hm
  have hgn := gU_vint n b (by omega)
  have hsl : (sealL S (wBody n b)).length = (wBody n b).length + 4 := by unfold sealL; rw [List.length_append, hS]
  have he : wFrame S n b ++ r = vint (wBody n b).length ++ (sealL S (wBody n b) ++ r) := by unfold wFrame; rw [List.append_assoc]
  have hun := unseal_seal hS (wBody n b)
  unfold wRec
  rw [he, hgu]
  simp only
  rw [List.drop_left, List.length_append, List.length_append, hsl, if_neg (by omega), if_neg (by omega)]
  rw [show (sealL S (wBody n b) ++ r).take ((wBody n b).length + 4) = sealL S (wBody n b) by rw [← hsl, List.take_left], hun]
  simp only
  rw [show wBody n b = vint n ++ b from rfl, hgn]
  simp only
  rw [if_neg (by omega), List.length_append, Nat.add_sub_cancel_left, if_neg (by omega), List.drop_left]
  congr 3
  rw [hfl, show wBody n b = vint n ++ b from rfl, List.length_append]
  omega
omit hS in
theorem gU_cut (m t : Nat) (hm : m < 18446744073709551616) (h : t < (vint m).length) : gU ((vint m).take t) = (11, 0, 0) := by
  obtain ⟨ys, y, h1, h2, h3, h4⟩ := vint_last m
  have hl10 := vint_len (n := m) (k := 10) (by omega) (Nat.lt_trans hm (by decide))
  rw [h1] at h hl10 ⊢
  rw [List.length_append] at h hl10
  simp only [List.length_cons, List.length_nil] at h hl10
  rw [List.take_append_of_le_length (by omega)]
  have hall : ∀ x ∈ (ys.take t).take 10, 128 ≤ x.toNat := fun x hx => h2 x (List.mem_of_mem_take (List.mem_of_mem_take hx))
  have hf : ((ys.take t).take 10).findIdx? (fun x => decide (x.toNat < 128)) = none := by
    rw [List.findIdx?_eq_none_iff]
    intro x hx
    have := hall x hx
    simp; omega
  unfold gU
  rw [hf]
  simp only
  rw [if_pos (by rw [List.length_take]; omega)]
/-- bytes that lack some of a record's are none. -/
theorem wRec_torn (n : Nat) (b : List UInt8) (hn : n ≤ 9007199254740992) (hb : b.length ≤ 1048576) (t : Nat) (ht : t < (wFrame S n b).length) : wRec S ((wFrame S n b).take t) = none := by
  have hv := vint_len (n := n) (k := 10) (by omega) (Nat.lt_of_le_of_lt hn (by decide))
  have hbl : (wBody n b).length = (vint n).length + b.length := by simp [wBody]
  have hm : (wBody n b).length < 18446744073709551616 := by omega
  rw [wFrame_len hS] at ht
  by_cases hk : t < (vint (wBody n b).length).length
  · have he : (wFrame S n b).take t = (vint (wBody n b).length).take t := by unfold wFrame; rw [List.take_append_of_le_length (by omega)]
    unfold wRec
    rw [he, gU_cut _ t hm hk]
    rfl
  · have he : (wFrame S n b).take t = vint (wBody n b).length ++ (sealL S (wBody n b)).take (t - (vint (wBody n b).length).length) := by
      unfold wFrame
      rw [List.take_append, List.take_of_length_le (by omega)]
    have hgu := gU_vint (wBody n b).length ((sealL S (wBody n b)).take (t - (vint (wBody n b).length).length)) hm
    have hsl : (sealL S (wBody n b)).length = (wBody n b).length + 4 := by unfold sealL; rw [List.length_append, hS]
    unfold wRec
    rw [he, hgu]
    simp only
    rw [List.length_append, List.length_take, hsl, Nat.add_sub_cancel_left]
    by_cases h1 : min (t - (vint (wBody n b).length).length) ((wBody n b).length + 4) < (wBody n b).length
    · rw [if_pos h1]
    · rw [if_neg h1]
      exact if_pos (by omega)
end
/-- records one behind the other. -/
def wFrames (S : List UInt8 → List UInt8) : Nat → List (List UInt8) → List UInt8
  | _, [] => []
  | n, b :: R => wFrame S n b ++ wFrames S (n + 1) R
theorem wFrames_app (S : List UInt8 → List UInt8) (n : Nat) (R Q : List (List UInt8)) : wFrames S n (R ++ Q) = wFrames S n R ++ wFrames S (n + R.length) Q := by
  induction R generalizing n with
  | nil => simp [wFrames]
  | cons b R ih => simp only [List.cons_append, wFrames, ih, List.length_cons, List.append_assoc, show n + 1 + R.length = n + (R.length + 1) by omega]
theorem wRec_nil (S : List UInt8 → List UInt8) : wRec S [] = none := rfl
theorem wRecs_frames {S : List UInt8 → List UInt8} (hS : ∀ b, (S b).length = 4) (n : Nat) (R : List (List UInt8)) (hn : n + R.length ≤ 9007199254740993) (hR : ∀ b ∈ R, b.length ≤ 1048576) (r : List UInt8) :
    wRecs S (wFrames S n R ++ r) n = (R ++ (wRecs S r (n + R.length)).1, (wFrames S n R).length + (wRecs S r (n + R.length)).2) := by
  induction R generalizing n with
  | nil => simp [wFrames]
  | cons b R ih =>
    have h1 := wRec_frame hS n b (wFrames S (n + 1) R ++ r) (by simp only [List.length_cons] at hn; omega) (hR b (by simp))
    rw [wFrames, List.append_assoc, wRecs_some S h1, List.drop_left, ih (n + 1) (by simp only [List.length_cons] at hn; omega) (fun b hb => hR b (List.mem_cons_of_mem _ hb))]
    simp only [List.cons_append, List.length_cons, List.length_append, show n + 1 + R.length = n + (R.length + 1) by omega]
    congr 1
    omega
end Go.Proofs.YtbepcjajbcecnaaGreatDoor

/-
  A journal's names: 'w' and a number. No program here.
-/
namespace Go.Proofs.YtbepcjajbcecnaaGreatDoor
open Go.Lib

theorem decFrom_app (l r : List UInt8) (acc : Nat) : decFrom acc (l ++ r) = (decFrom acc l).bind fun m => decFrom m r := by
  induction l generalizing acc with
  | nil => rfl
  | cons b l ih =>
    simp only [List.cons_append, decFrom]
    cases digitVal b with
    | none => rfl
    | some d => exact ih _
theorem digit_ofNat {k : Nat} (h : k < 10) : digitVal (UInt8.ofNat (48 + k)) = some k := by
  unfold digitVal
  have : (UInt8.ofNat (48 + k)).toNat = 48 + k := by simp; omega
  rw [this, if_pos (by omega)]
  congr 1; omega
theorem dec_val (n : Nat) : decFrom 0 (decDigits n) = some n := by
  induction n using Nat.strongRecOn with
  | _ n ih =>
    by_cases h : n < 10
    · rw [decDigits_one h]
      simp only [decFrom, digit_ofNat h]
      congr 1; omega
    · rw [decDigits, dif_neg h, decFrom_app, ih (n / 10) (by omega)]
      simp only [Option.bind_some, decFrom, digit_ofNat (show n % 10 < 10 by omega)]
      congr 1; omega
theorem dec_ne (n : Nat) : decDigits n ≠ [] := by
  rw [decDigits]
  split <;> simp
theorem dec_inj {m n : Nat} (h : decDigits m = decDigits n) : m = n := by
  have := dec_val m
  rw [h, dec_val] at this
  exact (Option.some.inj this).symm
theorem nDig_le (n k : Nat) (hk : 0 < k) (h : n < 10 ^ k) : nDigits n ≤ k := by
  induction k generalizing n with
  | zero => omega
  | succ k ih =>
    by_cases h10 : n < 10
    · rw [nDigits_small h10]; omega
    · rw [nDigits, dif_neg h10]
      have hk0 : 0 < k := by
        rcases Nat.eq_zero_or_pos k with e | e
        · subst e; simp at h; omega
        · exact e
      have := ih (n / 10) hk0 (by rw [Nat.pow_succ] at h; omega)
      omega
theorem dec_len {n : Nat} (h : n ≤ 9007199254740992) : (decDigits n).length ≤ 16 := by
  rw [decDigits_length]
  exact nDig_le n 16 (by omega) (Nat.lt_of_le_of_lt h (by decide))
/-- every byte of a numeral is a digit. -/
theorem dec_digit {n : Nat} {b : UInt8} (h : b ∈ decDigits n) : 48 ≤ b.toNat ∧ b.toNat ≤ 57 := by
  obtain ⟨k, hk, rfl⟩ := List.getElem_of_mem h
  obtain ⟨d, hd⟩ := digit_of_decFrom (decDigits n) 0 n (dec_val n) k _ (List.getElem?_eq_getElem hk)
  have := digitVal_eq hd
  omega
theorem atoi_dec (n : Nat) : atoi (decDigits n) = some (n : Int) := by
  have hv := dec_val n
  have hne := dec_ne n
  cases hl : decDigits n with
  | nil => exact absurd hl hne
  | cons b r =>
    have hb := dec_digit (n := n) (b := b) (by rw [hl]; simp)
    unfold atoi
    have h45 : (b == 45) = false := by
      rw [beq_eq_false_iff_ne]; rintro rfl; simp at hb
    have h43 : (b == 43) = false := by
      rw [beq_eq_false_iff_ne]; rintro rfl; simp at hb
    simp only [h45, h43]
    rw [hl] at hv
    unfold decNat
    simp [hv]
theorem atoiAll_dec {n : Nat} (h : n ≤ 9007199254740992) : atoiAll (decDigits n) = .ok (n : Int) := by
  rw [atoiAll_short _ (by have := dec_len h; omega), atoi_dec]
  rfl

/-- a segment's file. -/
def wName (n : Nat) : ByteArray := ⟨(119 :: decDigits n).toArray⟩
theorem wName_inj {m n : Nat} (h : wName m = wName n) : m = n := by
  have h2 := congrArg (fun s : ByteArray => s.data.toList) h
  simp only [wName, List.cons.injEq, true_and] at h2
  exact dec_inj h2
/-- what is behind a 'w' ahead. -/
def trimW (s : ByteArray) : List UInt8 := if s.data.toList.take 1 = [119] then s.data.toList.drop 1 else s.data.toList
theorem trim_name (n : Nat) : trimW (wName n) = decDigits n := by
  unfold trimW wName
  simp
/-- a file's number. -/
def wNum (s : ByteArray) : Option Nat :=
  match atoiAll (trimW s) with
  | .ok v => if 1 ≤ v ∧ v ≤ 9007199254740992 ∧ s = wName v.toNat then some v.toNat else none
  | _ => none
theorem wNum_name {n : Nat} (h0 : 1 ≤ n) (h1 : n ≤ 9007199254740992) : wNum (wName n) = some n := by
  unfold wNum
  rw [trim_name, atoiAll_dec h1]
  simp only
  rw [if_pos ⟨by omega, by omega, by simp⟩]
  simp
theorem wNum_some {s : ByteArray} {n : Nat} (h : wNum s = some n) : s = wName n ∧ 1 ≤ n ∧ n ≤ 9007199254740992 := by
  unfold wNum at h
  split at h
  · split at h
    · rename_i v _ hc
      obtain ⟨h1, h2, h3⟩ := hc
      cases h
      exact ⟨h3, by omega, by omega⟩
    · cases h
  · cases h
theorem wName_size {n : Nat} (h : n ≤ 9007199254740992) : (wName n).size ≤ 17 := by
  have := dec_len h
  show (119 :: decDigits n).toArray.size ≤ 17
  simp only [List.size_toArray, List.length_cons]
  omega
end Go.Proofs.YtbepcjajbcecnaaGreatDoor

/-
  The journal on a plain disk: what each call does. No program here.
-/
namespace Go.Proofs.YtbepcjajbcecnaaGreatDoor

/-- a record: its number, its bytes. -/
structure ARec where
  n : Nat
  b : List UInt8
/-- what a log holds beside its disk. -/
structure ALog where
  size : Nat
  segs : List (Nat × Bool)
  next : Nat
  bytes : Nat
  synced : Nat
  over : Bool
def ALog.lastN (al : ALog) : Nat := (al.segs.getLast?.map (·.1)).getD 0
def ALog.lastSome (al : ALog) : Bool := (al.segs.getLast?.map (·.2)).getD false
def ALog.file (al : ALog) : ByteArray := wName al.lastN
def ALog.last (al : ALog) : Nat := al.next - 1
def ALog.first (al : ALog) : Nat := (al.segs.head?.map (·.1)).getD 0
def hd4 (n : Nat) : List UInt8 := wHead sumL n
def fr4 (n : Nat) (b : List UInt8) : List UInt8 := wFrame sumL n b

/-- a file is removed, if there is one. -/
def goneE4 (d : ADisk) (s : ByteArray) : Int := if d.removeErr s = 13 then 0 else d.removeErr s
/-- the steps of another segment. -/
def anoD1 (d : ADisk) (n : Nat) : ADisk := d.remove (wName n)
def anoD2 (d : ADisk) (n : Nat) : ADisk := (anoD1 d n).append (wName n) (hd4 n)
def anoD3 (d : ADisk) (n : Nat) : ADisk := (anoD2 d n).sync (wName n)
def anoE1 (d : ADisk) (n : Nat) : Int := goneE4 d (wName n)
def anoE2 (d : ADisk) (n : Nat) : Int := (anoD1 d n).appendErr (wName n) (hd4 n)
def anoE3 (d : ADisk) (n : Nat) : Int := (anoD2 d n).syncErr (wName n)
def anoSteps (d : ADisk) (n : Nat) : ADisk × Int :=
  if anoE1 d n ≠ 0 then (anoD1 d n, anoE1 d n) else if anoE2 d n ≠ 0 then (anoD2 d n, anoE2 d n) else (anoD3 d n, anoE3 d n)
/-- another segment begins. -/
def wAnother (d : ADisk) (al : ALog) (n : Nat) : ADisk × ALog × Int :=
  if al.segs ≠ [] ∧ d.syncErr al.file ≠ 0 then (d.sync al.file, al, d.syncErr al.file)
  else
    let d1 := if al.segs = [] then d else d.sync al.file
    let al1 : ALog := if al.segs = [] then al else { al with synced := n - 1 }
    let r := anoSteps d1 n
    if r.2 = 0 then (r.1, { al1 with segs := al1.segs ++ [(n, false)], bytes := (hd4 n).length, synced := n - 1 }, 0) else (r.1, al1, r.2)
def ALog.needs (al : ALog) : Bool := al.segs.isEmpty || (al.lastSome && decide (al.size ≤ al.bytes))
def ALog.ends (al : ALog) (e : Int) : ALog := { al with over := decide (e ≠ 0) }
/-- the last segment has records. -/
def setSome (l : List (Nat × Bool)) : List (Nat × Bool) := l.dropLast ++ (l.getLast?.map fun x => (x.1, true)).toList
/-- the record is appended to the last segment. -/
def wPut (d : ADisk) (al : ALog) (n : Nat) (b : List UInt8) : ADisk × ALog × Int :=
  if d.appendErr al.file (fr4 n b) ≠ 0 then (d.append al.file (fr4 n b), al.ends (d.appendErr al.file (fr4 n b)), d.appendErr al.file (fr4 n b))
  else (d.append al.file (fr4 n b), { al with segs := setSome al.segs, next := n + 1, bytes := al.bytes + (fr4 n b).length }, 0)
def wAppend (d : ADisk) (al : ALog) (n : Int) (b : List UInt8) : ADisk × ALog × Int :=
  if al.over then (d, al, 16) else if n < 1 ∨ 9007199254740992 < n then (d, al, 2) else if 1048576 < b.length then (d, al, 3) else if 0 < al.next ∧ n ≠ al.next then (d, al, 18)
  else if al.needs then
    let r := wAnother d al n.toNat
    if r.2.2 ≠ 0 then (r.1, r.2.1.ends r.2.2, r.2.2) else wPut r.1 r.2.1 n.toNat b
  else wPut d al n.toNat b
def wSync (d : ADisk) (al : ALog) : ADisk × ALog × Int :=
  if al.over then (d, al, 16) else if al.segs = [] then (d, al, 0)
  else if d.syncErr al.file ≠ 0 then (d.sync al.file, al.ends (d.syncErr al.file), d.syncErr al.file) else (d.sync al.file, { al with synced := al.last }, 0)
/-- Trim, segment by segment: the disk, the log, what is gone, the error. -/
def wTrimL (d : ADisk) (al : ALog) (below : Int) : List (Nat × Bool) → ADisk × ALog × List ByteArray × Int
  | x :: y :: r =>
    if (y.1 : Int) ≤ below then
      if d.removeErr (wName x.1) ≠ 0 then (d.remove (wName x.1), { al with segs := x :: y :: r, over := true }, [], d.removeErr (wName x.1))
      else
        let t := wTrimL (d.remove (wName x.1)) al below (y :: r)
        (t.1, t.2.1, wName x.1 :: t.2.2.1, t.2.2.2)
    else (d, { al with segs := x :: y :: r }, [], 0)
  | l => (d, { al with segs := l }, [], 0)
def wTrim (d : ADisk) (al : ALog) (below : Int) : ADisk × ALog × List ByteArray × Int := if al.over then (d, al, [], 16) else wTrimL d al below al.segs

/-- what a disk's files tell. -/
structure AFound where
  segs : List (Nat × Bool)
  next : Nat
  bytes : Nat
  good : Nat
  recs : List ARec
  none : Nat
def isHead4 (b : List UInt8) (n : Nat) : Bool := decide (b.take (hd4 n).length = hd4 n)
def recsOf (b : List UInt8) (n : Nat) : List (List UInt8) := (wRecs sumL (b.drop (hd4 n).length) n).1
def goodOf (b : List UInt8) (n : Nat) : Nat := (hd4 n).length + (wRecs sumL (b.drop (hd4 n).length) n).2
def numbered (n : Nat) : List (List UInt8) → List ARec
  | [] => []
  | b :: R => ⟨n, b⟩ :: numbered (n + 1) R
def AFound.add (f : AFound) (b : List UInt8) (n : Nat) : AFound :=
  { f with segs := f.segs ++ [(n, !(recsOf b n).isEmpty)], next := n + (recsOf b n).length, bytes := b.length, good := goodOf b n, recs := f.recs ++ numbered n (recsOf b n) }
def wLook (d : ADisk) (f : AFound) : List Nat → AFound × Int
  | [] => (f, 0)
  | n :: r =>
    if findErr d (wName n) ≠ 0 then (f, findErr d (wName n))
    else
      let b := d.readBytes (wName n)
      if isHead4 b n = false ∧ r = [] then ({ f with none := n }, 0)
      else if isHead4 b n = false ∨ (f.segs ≠ [] ∧ n ≠ f.next) ∨ (r ≠ [] ∧ (recsOf b n = [] ∨ goodOf b n < b.length)) then (f, 14)
      else wLook d (f.add b n) r
def leN (a b : Nat) : Bool := decide (a ≤ b)
/-- a disk's segments, by rising numbers. -/
def segsOf (d : ADisk) : List Nat := (d.names.filterMap wNum).mergeSort leN
def AFound.lastN (f : AFound) : Nat := (f.segs.getLast?.map (·.1)).getD 0
/-- the steps of Open behind the look. -/
def opD1 (d : ADisk) (f : AFound) : ADisk := if f.none = 0 then d else d.remove (wName f.none)
def opD2 (d : ADisk) (f : AFound) : ADisk := if f.segs = [] ∨ f.good = f.bytes then opD1 d f else (opD1 d f).cut (wName f.lastN) f.good
def opD3 (d : ADisk) (f : AFound) : ADisk := if f.segs = [] then opD2 d f else (opD2 d f).sync (wName f.lastN)
def opE1 (d : ADisk) (f : AFound) : Int := if f.none = 0 then 0 else d.removeErr (wName f.none)
def opE2 (d : ADisk) (f : AFound) : Int := if f.segs = [] ∨ f.good = f.bytes then 0 else (opD1 d f).cutErr (wName f.lastN) f.good
def opE3 (d : ADisk) (f : AFound) : Int := if f.segs = [] then 0 else (opD2 d f).syncErr (wName f.lastN)
def opSteps (d : ADisk) (f : AFound) : ADisk × Int :=
  if opE1 d f ≠ 0 then (opD1 d f, opE1 d f) else if opE2 d f ≠ 0 then (opD2 d f, opE2 d f) else (opD3 d f, opE3 d f)
def f0 : AFound := ⟨[], 0, 0, 0, [], 0⟩
def wN : ByteArray := ⟨#[119]⟩
/-- Open: the disk, what is found, the error. -/
def wOpen (d : ADisk) (size : Int) : ADisk × AFound × Int :=
  if size < 64 ∨ 16777216 < size then (d, f0, 2) else if findErr d wN ≠ 13 ∧ findErr d wN ≠ 0 then (d, f0, findErr d wN)
  else
    let r := wLook d f0 (segsOf d)
    if r.2 ≠ 0 then (d, r.1, r.2) else ((opSteps d r.1).1, r.1, (opSteps d r.1).2)
def AFound.log (f : AFound) (size : Int) : ALog := ⟨size.toNat, f.segs, f.next, f.good, f.next - 1, false⟩
end Go.Proofs.YtbepcjajbcecnaaGreatDoor

/-
  The journal's files, plain: how many records the first bytes of a file tell; segments that follow one another. No program here.
-/
namespace Go.Proofs.YtbepcjajbcecnaaGreatDoor

/-- how many records lie whole within the first t bytes. -/
def fitN : Nat → List (List UInt8) → Nat → Nat
  | _, [], _ => 0
  | n, b :: R, t => if (fr4 n b).length ≤ t then 1 + fitN (n + 1) R (t - (fr4 n b).length) else 0
theorem fitN_le (n : Nat) (R : List (List UInt8)) (t : Nat) : fitN n R t ≤ R.length := by
  induction R generalizing n t with
  | nil => exact Nat.zero_le _
  | cons b R ih =>
    unfold fitN
    split
    · have := ih (n + 1) (t - (fr4 n b).length)
      simp only [List.length_cons]; omega
    · exact Nat.zero_le _
theorem fitN_mono (n : Nat) (R : List (List UInt8)) (t u : Nat) (h : t ≤ u) : fitN n R t ≤ fitN n R u := by
  induction R generalizing n t u with
  | nil => exact Nat.le_refl _
  | cons b R ih =>
    unfold fitN
    split
    · rw [if_pos (by omega)]
      have := ih (n + 1) (t - (fr4 n b).length) (u - (fr4 n b).length) (by omega)
      omega
    · exact Nat.zero_le _
/-- records that lie whole within the first bytes are told. -/
theorem fitN_ge (n : Nat) (R : List (List UInt8)) (k t : Nat) (h : (wFrames sumL n (R.take k)).length ≤ t) (hk : k ≤ R.length) : k ≤ fitN n R t := by
  induction R generalizing n k t with
  | nil => simp at hk; omega
  | cons b R ih =>
    cases k with
    | zero => exact Nat.zero_le _
    | succ k =>
      simp only [List.take_succ_cons, wFrames, List.length_append] at h
      simp only [List.length_cons] at hk
      have := ih (n + 1) k (t - (fr4 n b).length) (by unfold fr4; omega) (by omega)
      unfold fitN
      rw [if_pos (by unfold fr4; omega)]
      omega
theorem fitN_all (n : Nat) (R : List (List UInt8)) (t : Nat) (h : (wFrames sumL n R).length ≤ t) : fitN n R t = R.length :=
  Nat.le_antisymm (fitN_le n R t) (fitN_ge n R R.length t (by rw [List.take_of_length_le (Nat.le_refl _)]; exact h) (Nat.le_refl _))
theorem fitN_len (n : Nat) (R : List (List UInt8)) (t : Nat) : (wFrames sumL n (R.take (fitN n R t))).length ≤ t := by
  induction R generalizing n t with
  | nil => simp [wFrames]
  | cons b R ih =>
    unfold fitN
    split
    · have := ih (n + 1) (t - (fr4 n b).length)
      rw [Nat.add_comm, List.take_succ_cons, wFrames, List.length_append]
      unfold fr4 at *; omega
    · simp [wFrames]
theorem wRecs_take (n : Nat) (R : List (List UInt8)) (t : Nat) (hn : n + R.length ≤ 9007199254740993) (hR : ∀ b ∈ R, b.length ≤ 1048576) :
    wRecs sumL ((wFrames sumL n R).take t) n = (R.take (fitN n R t), (wFrames sumL n (R.take (fitN n R t))).length) := by
  induction R generalizing n t with
  | nil =>
    simp only [wFrames, List.take_nil]
    rw [wRecs_none sumL (wRec_nil sumL)]
    rfl
  | cons b R ih =>
    simp only [List.length_cons] at hn
    have hb := hR b (by simp)
    unfold fitN
    by_cases ht : (fr4 n b).length ≤ t
    · rw [if_pos ht]
      have he : (wFrames sumL n (b :: R)).take t = wFrame sumL n b ++ (wFrames sumL (n + 1) R).take (t - (fr4 n b).length) := by
        rw [wFrames, List.take_append, show (wFrame sumL n b).take t = wFrame sumL n b from List.take_of_length_le ht]; rfl
      rw [he, wRecs_some sumL (wRec_frame sumL_len n b _ (by omega) hb), List.drop_left, ih (n + 1) (t - (fr4 n b).length) (by omega) (fun b hb => hR b (List.mem_cons_of_mem _ hb))]
      rw [Nat.add_comm 1, List.take_succ_cons, wFrames, List.length_append]
    · rw [if_neg ht]
      have he : (wFrames sumL n (b :: R)).take t = (wFrame sumL n b).take t := by
        rw [wFrames, List.take_append_of_le_length (by unfold fr4 at ht; omega)]
      rw [he, wRecs_none sumL (wRec_torn sumL_len n b (by omega) hb t (by unfold fr4 at ht; omega))]
      rfl

abbrev Seg := Nat × List (List UInt8)
/-- what a segment's file holds. -/
def cont (x : Seg) : List UInt8 := hd4 x.1 ++ wFrames sumL x.1 x.2
/-- numbers that may be. -/
structure SegOk (x : Seg) : Prop where
  lo : 1 ≤ x.1
  hi : x.1 ≤ 9007199254740992
  top : x.1 + x.2.length ≤ 9007199254740993
  small : ∀ b ∈ x.2, b.length ≤ 1048576
/-- each segment begins where the one ahead of it ends; none but the last lacks records. -/
def chain : List Seg → Prop
  | [] => True
  | [x] => SegOk x
  | x :: y :: r => SegOk x ∧ x.2 ≠ [] ∧ y.1 = x.1 + x.2.length ∧ chain (y :: r)
theorem chain_ok {ss : List Seg} (h : chain ss) : ∀ x ∈ ss, SegOk x := by
  induction ss with
  | nil => intro x hx; cases hx
  | cons x r ih =>
    cases r with
    | nil => intro y hy; simp at hy; subst hy; exact h
    | cons y r =>
      intro z hz
      rcases List.mem_cons.1 hz with rfl | hz
      · exact h.1
      · exact ih h.2.2.2 z hz
theorem chain_tail {x : Seg} {r : List Seg} (h : chain (x :: r)) : chain r := by
  cases r with
  | nil => trivial
  | cons y r => exact h.2.2.2
/-- the numbers rise. -/
theorem chain_lt {x : Seg} {r : List Seg} (h : chain (x :: r)) : ∀ y ∈ r, x.1 + x.2.length ≤ y.1 ∧ x.1 < y.1 := by
  induction r generalizing x with
  | nil => intro y hy; cases hy
  | cons z r ih =>
    obtain ⟨h1, h2, h3, h4⟩ := h
    have hp : 0 < x.2.length := List.length_pos_iff.2 h2
    intro y hy
    rcases List.mem_cons.1 hy with rfl | hy
    · omega
    · have := ih h4 y hy
      omega
theorem chain_firsts {ss : List Seg} (h : chain ss) : (ss.map (·.1)).Pairwise (· < ·) := by
  induction ss with
  | nil => exact List.Pairwise.nil
  | cons x r ih =>
    rw [List.map_cons, List.pairwise_cons]
    refine ⟨fun n hn => ?_, ih (chain_tail h)⟩
    obtain ⟨y, hy, rfl⟩ := List.mem_map.1 hn
    exact (chain_lt h y hy).2
/-- two rising lists of the same numbers are one. -/
theorem rise_ext {l1 l2 : List Nat} (h1 : l1.Pairwise (· < ·)) (h2 : l2.Pairwise (· < ·)) (h : ∀ s, s ∈ l1 ↔ s ∈ l2) : l1 = l2 := by
  induction l1 generalizing l2 with
  | nil =>
    cases l2 with
    | nil => rfl
    | cons y r => exact absurd ((h y).2 (by simp)) (by simp)
  | cons x r ih =>
    rw [List.pairwise_cons] at h1
    cases l2 with
    | nil => exact absurd ((h x).1 (by simp)) (by simp)
    | cons y q =>
      rw [List.pairwise_cons] at h2
      have hxy : x = y := by
        rcases List.mem_cons.1 ((h x).1 (by simp)) with e | e
        · exact e
        · rcases List.mem_cons.1 ((h y).2 (by simp)) with e' | e'
          · exact e'.symm
          · have a := h1.1 y e'
            have b := h2.1 x e
            omega
      subst hxy
      rw [ih h1.2 h2.2 (fun s => ?_)]
      constructor
      · intro hs
        rcases List.mem_cons.1 ((h s).1 (List.mem_cons_of_mem _ hs)) with e | e
        · subst e; exact absurd (h1.1 s hs) (Nat.lt_irrefl _)
        · exact e
      · intro hs
        rcases List.mem_cons.1 ((h s).2 (List.mem_cons_of_mem _ hs)) with e | e
        · subst e; exact absurd (h2.1 s hs) (Nat.lt_irrefl _)
        · exact e
end Go.Proofs.YtbepcjajbcecnaaGreatDoor

/-
  Segments on a plain disk; what a crash leaves of them; what is found of them. No program here.
-/
namespace Go.Proofs.YtbepcjajbcecnaaGreatDoor

theorem crashK_lk4 {fs : List (ByteArray × AFile)} (h : SortedF fs) (keeps : List Int) (k : Nat) (hk : k ≤ fs.length) (s : ByteArray) :
    (lk fs s = none → lk (crashK fs keeps k) s = none) ∧ ∀ i (hi : i < fs.length), (fs[i]).1 = s → (i < k → ∃ x, lk (crashK fs keeps k) s = some ((fs[i]).2.kept x)) ∧ (¬ i < k → lk (crashK fs keeps k) s = some (fs[i]).2) := by
  induction k with
  | zero =>
    refine ⟨fun h => h, fun i hi e => ⟨fun h0 => by omega, fun _ => ?_⟩⟩
    subst e
    exact mem_lk h (List.getElem_mem hi)
  | succ k ih =>
    obtain ⟨i1, i2⟩ := ih (by omega)
    have hkl : k < fs.length := by omega
    have hm : lk fs (fs[k]).1 = some (fs[k]).2 := mem_lk h (List.getElem_mem hkl)
    simp only [crashK]
    rw [List.getElem?_eq_getElem hkl]
    simp only [lk_putF]
    by_cases hs : s = (fs[k]).1
    · rw [if_pos hs]
      subst hs
      refine ⟨fun hn => (by rw [hm] at hn; cases hn), fun i hi e => ?_⟩
      have hm2 : lk fs (fs[i]).1 = some (fs[i]).2 := mem_lk h (List.getElem_mem hi)
      rw [e, hm] at hm2
      have he : (fs[k]).2 = (fs[i]).2 := Option.some.inj hm2
      have hik : i = k := by
        rcases Nat.lt_trichotomy i k with h1 | h1 | h1
        · have := List.pairwise_iff_getElem.1 h i k hi hkl h1
          rw [e] at this
          exact absurd this (by simp [ltS])
        · exact h1
        · have := List.pairwise_iff_getElem.1 h k i hkl hi h1
          rw [e] at this
          exact absurd this (by simp [ltS])
      subst hik
      exact ⟨fun _ => ⟨_, rfl⟩, fun hn => by omega⟩
    · rw [if_neg hs]
      refine ⟨i1, fun i hi e => ?_⟩
      have hik : i ≠ k := fun h0 => by subst h0; exact hs e.symm
      obtain ⟨j1, j2⟩ := i2 i hi e
      exact ⟨fun h0 => j1 (by omega), fun h0 => j2 (by omega)⟩
/-- what a crash leaves of a file. -/
theorem crash_lk4 {d : ADisk} (h : SortedF d.fs) (keeps : List Int) (s : ByteArray) :
    (lk d.fs s = none → lk (d.crash keeps).fs s = none) ∧ ∀ f, lk d.fs s = some f → ∃ x, lk (d.crash keeps).fs s = some (f.kept x) := by
  obtain ⟨h1, h2⟩ := crashK_lk4 h keeps d.fs.length (Nat.le_refl _) s
  refine ⟨h1, fun f hf => ?_⟩
  obtain ⟨i, hi, e⟩ := List.getElem_of_mem (lk_some_mem hf)
  obtain ⟨x, hx⟩ := (h2 i hi (by rw [e])).1 hi
  rw [e] at hx
  exact ⟨x, hx⟩
theorem crash_sorted4 {d : ADisk} (h : SortedF d.fs) (keeps : List Int) : SortedF (d.crash keeps).fs := crashK_sorted h keeps _

/-- no segment lies on the disk. -/
structure Bare (d : ADisk) : Prop where
  sorted : SortedF d.fs
  only : ∀ n, 1 ≤ n → n ≤ 9007199254740992 → lk d.fs (wName n) = none
/-- how many bytes hold the records up to a number. -/
def need (x : Seg) (sy : Nat) : Nat := if sy < x.1 then 0 else (hd4 x.1 ++ wFrames sumL x.1 (x.2.take (sy + 1 - x.1))).length
/-- segments on a disk: of the last one its first t bytes, all others whole; what is up to sy is firm. -/
structure Lies (d : ADisk) (pre : List Seg) (x : Seg) (t sy : Nat) : Prop where
  sorted : SortedF d.fs
  ch : chain (pre ++ [x])
  full : ∀ y ∈ pre, lk d.fs (wName y.1) = some ⟨cont y, []⟩
  last : ∃ f, lk d.fs (wName x.1) = some f ∧ f.firm ++ f.loose = (cont x).take t ∧ need x sy ≤ f.firm.length
  fits : t ≤ (cont x).length
  only : ∀ n, 1 ≤ n → n ≤ 9007199254740992 → lk d.fs (wName n) ≠ none → n ∈ (pre ++ [x]).map (·.1)

theorem kept_take {f : AFile} {c : List UInt8} {t : Nat} (h : f.firm ++ f.loose = c.take t) (ht : t ≤ c.length) (y : Int) :
    ∃ u, u ≤ t ∧ f.firm.length ≤ u ∧ f.kept y = ⟨c.take u, []⟩ := by
  have hl : f.firm.length + f.loose.length = t := by
    have := congrArg List.length h
    rw [List.length_append, List.length_take] at this
    omega
  refine ⟨f.firm.length + (min (max y 0) f.loose.length).toNat, by omega, by omega, ?_⟩
  unfold AFile.kept
  rw [h, List.take_take, Nat.min_eq_left (by omega)]
theorem Lies.crash {d : ADisk} {pre : List Seg} {x : Seg} {t sy : Nat} (h : Lies d pre x t sy) (keeps : List Int) :
    ∃ u, u ≤ t ∧ Lies (d.crash keeps) pre x u sy ∧ lk (d.crash keeps).fs (wName x.1) = some ⟨(cont x).take u, []⟩ := by
  obtain ⟨f, hf, hc, hn⟩ := h.last
  obtain ⟨y, hy⟩ := (crash_lk4 h.sorted keeps (wName x.1)).2 f hf
  obtain ⟨u, hu, hfu, hk⟩ := kept_take hc h.fits y
  rw [hk] at hy
  have hfit := h.fits
  refine ⟨u, hu, ⟨crash_sorted4 h.sorted keeps, h.ch, fun z hz => ?_, ⟨_, hy, by rw [List.append_nil], ?_⟩, by omega, fun n h0 h1 h2 => ?_⟩, hy⟩
  · obtain ⟨v, hv⟩ := (crash_lk4 h.sorted keeps (wName z.1)).2 _ (h.full z hz)
    obtain ⟨u2, h1, h2, h3⟩ := kept_take (f := ⟨cont z, []⟩) (c := cont z) (t := (cont z).length) (by simp) (Nat.le_refl _) v
    rw [h3] at hv
    simp only at h2
    rw [hv, List.take_of_length_le h2]
  · show need x sy ≤ ((cont x).take u).length
    rw [List.length_take]; omega
  · refine h.only n h0 h1 (fun e => h2 ?_)
    exact (crash_lk4 h.sorted keeps (wName n)).1 e
theorem Bare.crash {d : ADisk} (h : Bare d) (keeps : List Int) : Bare (d.crash keeps) :=
  ⟨crash_sorted4 h.sorted keeps, fun n h0 h1 => (crash_lk4 h.sorted keeps (wName n)).1 (h.only n h0 h1)⟩

/-- the numbers of a disk's segments. -/
theorem mem_segs {d : ADisk} (hs : SortedF d.fs) (n : Nat) : n ∈ segsOf d ↔ 1 ≤ n ∧ n ≤ 9007199254740992 ∧ lk d.fs (wName n) ≠ none := by
  unfold segsOf
  rw [List.mem_mergeSort, List.mem_filterMap]
  constructor
  · rintro ⟨s, hs1, hs2⟩
    obtain ⟨rfl, h0, h1⟩ := wNum_some hs2
    refine ⟨h0, h1, ?_⟩
    unfold ADisk.names at hs1
    obtain ⟨p, hp, e⟩ := List.mem_map.1 hs1
    obtain ⟨q, f⟩ := p
    simp only at e
    subst e
    rw [mem_lk hs hp]
    simp
  · rintro ⟨h0, h1, h2⟩
    cases hl : lk d.fs (wName n) with
    | none => exact absurd hl h2
    | some f => exact ⟨wName n, List.mem_map.2 ⟨_, lk_some_mem hl, rfl⟩, wNum_name h0 h1⟩
theorem segs_rise {d : ADisk} (hs : SortedF d.fs) : (segsOf d).Pairwise (· < ·) := by
  have h1 : (segsOf d).Pairwise (fun a b => leN a b = true) := by
    unfold segsOf
    exact List.pairwise_mergeSort (fun a b c h1 h2 => by simp only [leN, decide_eq_true_eq] at *; omega) (fun a b => by simp only [leN, Bool.or_eq_true, decide_eq_true_eq]; omega) _
  have h2 : (segsOf d).Nodup := by
    unfold segsOf
    refine (List.mergeSort_perm _ _).nodup_iff.2 ?_
    unfold ADisk.names
    rw [List.Nodup, List.pairwise_filterMap]
    rw [List.pairwise_map]
    refine hs.imp fun {a b} hab n hn m hm e => ?_
    subst e
    rw [(wNum_some hn).1, (wNum_some hm).1] at hab
    simp only [ltS, decide_eq_true_eq] at hab
    exact List.lt_irrefl _ hab
  refine (h1.and h2).imp fun {a b} hab => ?_
  have := hab.1
  simp only [leN, decide_eq_true_eq] at this
  have := hab.2
  omega
theorem Lies.segs {d : ADisk} {pre : List Seg} {x : Seg} {t sy : Nat} (h : Lies d pre x t sy) : segsOf d = (pre ++ [x]).map (·.1) := by
  refine rise_ext (segs_rise h.sorted) (chain_firsts h.ch) (fun n => ?_)
  rw [mem_segs h.sorted]
  constructor
  · rintro ⟨h0, h1, h2⟩
    exact h.only n h0 h1 h2
  · intro hn
    obtain ⟨y, hy, rfl⟩ := List.mem_map.1 hn
    have hok := chain_ok h.ch y hy
    refine ⟨hok.lo, hok.hi, ?_⟩
    rcases List.mem_append.1 hy with hy | hy
    · rw [h.full y hy]; simp
    · simp at hy; subst hy
      obtain ⟨f, hf, _⟩ := h.last
      rw [hf]; simp
theorem Bare.segs {d : ADisk} (h : Bare d) : segsOf d = [] := by
  refine rise_ext (segs_rise h.sorted) List.Pairwise.nil (fun n => ?_)
  rw [mem_segs h.sorted]
  constructor
  · rintro ⟨h0, h1, h2⟩; exact absurd (h.only n h0 h1) h2
  · intro hn; cases hn

/-- a segment, as a log has it. -/
def segV (y : Seg) : Nat × Bool := (y.1, !y.2.isEmpty)
def allRecs (ss : List Seg) : List ARec := ss.flatMap fun y => numbered y.1 y.2
def nextOf (ss : List Seg) : Nat := (ss.getLast?.map fun y => y.1 + y.2.length).getD 0
def lenOf (ss : List Seg) : Nat := (ss.getLast?.map fun y => (cont y).length).getD 0
/-- what is found of whole segments. -/
def fPre (ss : List Seg) : AFound := ⟨ss.map segV, nextOf ss, lenOf ss, lenOf ss, allRecs ss, 0⟩
theorem nextOf_last (pre : List Seg) (x : Seg) : nextOf (pre ++ [x]) = x.1 + x.2.length := by simp [nextOf]
theorem lenOf_last (pre : List Seg) (x : Seg) : lenOf (pre ++ [x]) = (cont x).length := by simp [lenOf]
theorem allRecs_last (pre : List Seg) (x : Seg) : allRecs (pre ++ [x]) = allRecs pre ++ numbered x.1 x.2 := by simp [allRecs]
theorem head_cont (x : Seg) : isHead4 (cont x) x.1 = true := by unfold isHead4 cont; rw [List.take_left]; simp
theorem recs_cont {x : Seg} (h : SegOk x) : recsOf (cont x) x.1 = x.2 ∧ goodOf (cont x) x.1 = (cont x).length := by
  have h1 := wRecs_frames sumL_len x.1 x.2 h.top h.small []
  rw [List.append_nil, wRecs_none sumL (wRec_nil sumL)] at h1
  unfold recsOf goodOf cont
  rw [List.drop_left, h1]
  simp
/-- of the first bytes of a segment. -/
theorem recs_take {x : Seg} (h : SegOk x) (t : Nat) (ht : (hd4 x.1).length ≤ t) :
    isHead4 ((cont x).take t) x.1 = true ∧ recsOf ((cont x).take t) x.1 = x.2.take (fitN x.1 x.2 (t - (hd4 x.1).length)) ∧
      goodOf ((cont x).take t) x.1 = (cont (x.1, x.2.take (fitN x.1 x.2 (t - (hd4 x.1).length)))).length := by
  have he : (cont x).take t = hd4 x.1 ++ (wFrames sumL x.1 x.2).take (t - (hd4 x.1).length) := by
    unfold cont
    rw [List.take_append, List.take_of_length_le ht]
  have h1 := wRecs_take x.1 x.2 (t - (hd4 x.1).length) h.top h.small
  unfold isHead4 recsOf goodOf
  rw [he, List.take_left, List.drop_left, h1]
  refine ⟨by simp, rfl, ?_⟩
  unfold cont
  rw [List.length_append]
theorem head_short {x : Seg} (t : Nat) (ht : t < (hd4 x.1).length) : isHead4 ((cont x).take t) x.1 = false := by
  unfold isHead4
  rw [decide_eq_false_iff_not]
  intro e
  have := congrArg List.length e
  rw [List.length_take, List.length_take] at this
  omega
theorem read_of {d : ADisk} (hd : d.down = false) {s : ByteArray} {f : AFile} (h : lk d.fs s = some f) : findErr d s = 0 ∧ d.readBytes s = f.firm ++ f.loose := by
  have h1 : findErr d s = 0 := by unfold findErr; rw [h, if_neg (by simp [hd])]; rfl
  refine ⟨h1, ?_⟩
  unfold ADisk.readBytes afile
  rw [if_pos h1, h]
  rfl
theorem fPre_add (dn : List Seg) (y : Seg) (hok : SegOk y) : (fPre dn).add (cont y) y.1 = fPre (dn ++ [y]) := by
  obtain ⟨r1, r2⟩ := recs_cont hok
  unfold AFound.add fPre
  simp only [r1, r2, nextOf_last, lenOf_last, allRecs_last, List.map_append, List.map_cons, List.map_nil]
  rfl
theorem chain_next {dn : List Seg} {y : Seg} {r : List Seg} (h : chain (dn ++ y :: r)) (hd : dn ≠ []) : y.1 = nextOf dn := by
  induction dn with
  | nil => exact absurd rfl hd
  | cons x dn ih =>
    cases dn with
    | nil => exact h.2.2.1
    | cons z dn =>
      have := ih h.2.2.2 (by simp)
      rw [this]
      simp [nextOf]
theorem chain_some {dn : List Seg} {y z : Seg} {r : List Seg} (h : chain (dn ++ y :: z :: r)) : y.2 ≠ [] := by
  induction dn with
  | nil => exact h.2.1
  | cons x dn ih =>
    cases dn with
    | nil => exact h.2.2.2.2.1
    | cons u dn => exact ih h.2.2.2
/-- whole segments are found, one behind the other. -/
theorem look_whole {d : ADisk} (hd : d.down = false) (dn ys : List Seg) (x : Seg) (hc : chain (dn ++ ys ++ [x])) (hf : ∀ y ∈ ys, lk d.fs (wName y.1) = some ⟨cont y, []⟩) :
    wLook d (fPre dn) ((ys ++ [x]).map (·.1)) = wLook d (fPre (dn ++ ys)) [x.1] := by
  induction ys generalizing dn with
  | nil => simp
  | cons y ys ih =>
    have hy := hf y (by simp)
    have hok : SegOk y := chain_ok hc y (by simp)
    obtain ⟨e1, e2⟩ := read_of hd hy
    obtain ⟨r1, r2⟩ := recs_cont hok
    have hne : (ys ++ [x]).map (·.1) ≠ [] := by simp
    have hc2 : chain (dn ++ y :: (ys ++ [x])) := by simpa using hc
    have hsome : y.2 ≠ [] := by
      cases ys with
      | nil => exact chain_some hc2
      | cons z ys => exact chain_some (r := ys ++ [x]) (by simpa using hc2)
    have hnx : (fPre dn).segs ≠ [] → y.1 = (fPre dn).next := fun h => chain_next hc2 (fun e => h (by rw [e]; rfl))
    rw [List.cons_append, List.map_cons, wLook, if_neg (by simp [e1]), e2]
    simp only [List.append_nil]
    rw [if_neg (by rintro ⟨h1, _⟩; rw [head_cont] at h1; cases h1), if_neg, fPre_add dn y hok, ih (dn ++ [y]) (by simpa using hc) (fun z hz => hf z (List.mem_cons_of_mem _ hz))]
    · simp
    · rintro (h1 | ⟨h1, h2⟩ | ⟨_, h1 | h1⟩)
      · rw [head_cont] at h1; cases h1
      · exact h2 (hnx h1)
      · rw [r1] at h1; exact hsome h1
      · rw [r2] at h1; exact Nat.lt_irrefl _ h1
/-- what is found where a journal lies. -/
def foundOf (pre : List Seg) (x : Seg) (t : Nat) : AFound :=
  if t < (hd4 x.1).length then { fPre pre with none := x.1 }
  else { fPre (pre ++ [(x.1, x.2.take (fitN x.1 x.2 (t - (hd4 x.1).length)))]) with bytes := t }
theorem Lies.look {d : ADisk} {pre : List Seg} {x : Seg} {t sy : Nat} (h : Lies d pre x t sy) (hd : d.down = false) : wLook d f0 (segsOf d) = (foundOf pre x t, 0) := by
  obtain ⟨f, hf, hc, _⟩ := h.last
  obtain ⟨e1, e2⟩ := read_of hd hf
  rw [hc] at e2
  have hok : SegOk x := chain_ok h.ch x (by simp)
  have hnx : (fPre pre).segs ≠ [] → x.1 = (fPre pre).next := fun h0 => chain_next (r := []) h.ch (fun e => h0 (by rw [e]; rfl))
  rw [h.segs, show f0 = fPre [] from rfl, look_whole hd [] pre x (by simpa using h.ch) h.full, List.nil_append]
  rw [wLook, if_neg (by simp [e1]), e2]
  simp only
  unfold foundOf
  by_cases ht : t < (hd4 x.1).length
  · rw [if_pos ht, if_pos ⟨head_short t ht, trivial⟩]
  · obtain ⟨r0, r1, r2⟩ := recs_take hok t (by omega)
    have hl : ((cont x).take t).length = t := by rw [List.length_take]; have := h.fits; omega
    rw [if_neg ht, if_neg (by rintro ⟨h1, _⟩; rw [r0] at h1; cases h1), if_neg, wLook]
    · congr 1
      unfold AFound.add fPre
      simp only [r1, r2, hl, nextOf_last, lenOf_last, allRecs_last, List.map_append, List.map_cons, List.map_nil]
      rfl
    · rintro (h1 | ⟨h1, h2⟩ | ⟨h1, _⟩)
      · rw [r0] at h1; cases h1
      · exact h2 (hnx h1)
      · exact h1 rfl
theorem Bare.look {d : ADisk} (h : Bare d) : wLook d f0 (segsOf d) = (f0, 0) := by rw [h.segs]; rfl
end Go.Proofs.YtbepcjajbcecnaaGreatDoor

/-
  Open on a plain disk. No program here.
-/
namespace Go.Proofs.YtbepcjajbcecnaaGreatDoor

/-- how much a disk has grown at most. -/
structure Grow (d d' : ADisk) (a k : Nat) : Prop where
  most : d'.most = d.most
  used : usedF d'.fs ≤ usedF d.fs + a
  len : d'.fs.length ≤ d.fs.length + k
theorem Grow.refl (d : ADisk) : Grow d d 0 0 := ⟨rfl, Nat.le_refl _, Nat.le_refl _⟩
theorem Grow.fail (d : ADisk) : Grow d d.fail 0 0 := ⟨rfl, Nat.le_refl _, Nat.le_refl _⟩
theorem Grow.trans {d d1 d2 : ADisk} {a k b j : Nat} (h : Grow d d1 a k) (g : Grow d1 d2 b j) : Grow d d2 (a + b) (k + j) :=
  ⟨g.most.trans h.most, by have := h.used; have := g.used; omega, by have := h.len; have := g.len; omega⟩
theorem Grow.mono {d d' : ADisk} {a k b j : Nat} (h : Grow d d' a k) (ha : a ≤ b) (hk : k ≤ j) : Grow d d' b j :=
  ⟨h.most, by have := h.used; omega, by have := h.len; omega⟩
theorem putF_len (fs : List (ByteArray × AFile)) (s : ByteArray) (f : AFile) : (putF fs s f).length ≤ fs.length + 1 := by
  induction fs with
  | nil => simp [putF]
  | cons q r ih =>
    simp only [putF]
    split
    · simp
    · split
      · simp
      · simp only [List.length_cons]; omega
theorem putF_len0 {fs : List (ByteArray × AFile)} {s : ByteArray} (f : AFile) (h : (lk fs s).isSome = true) (hs : SortedF fs) : (putF fs s f).length ≤ fs.length := by
  induction fs with
  | nil => simp [lk] at h
  | cons q r ih =>
    simp only [putF]
    split
    · simp
    · rename_i hq
      split
      · rename_i hlt
        exfalso
        have hne : q.1 ≠ s := hq
        rw [lk_cons, if_neg hne] at h
        cases hl : lk r s with
        | none => rw [hl] at h; cases h
        | some g =>
          have hm := lk_some_mem hl
          have hp := (List.pairwise_cons.1 hs).1 _ hm
          simp only [ltS, decide_eq_true_eq] at hlt hp
          exact absurd (List.lt_trans hlt hp) (List.lt_irrefl _)
      · have hne : q.1 ≠ s := hq
        rw [lk_cons, if_neg hne] at h
        have := ih h (List.pairwise_cons.1 hs).2
        simp only [List.length_cons]; omega
theorem delF_len (fs : List (ByteArray × AFile)) (s : ByteArray) : (delF fs s).length ≤ fs.length := List.length_filter_le _ _
theorem put_grow {d : ADisk} (hs : SortedF d.fs) {s : ByteArray} {f : AFile} {a k : Nat} (hl : f.len ≤ (afile d s).len + a) (hk : (lk d.fs s).isSome = true ∨ 1 ≤ k) : Grow d (d.put s f) a k := by
  unfold ADisk.put
  split
  · exact (Grow.fail d).mono (Nat.zero_le _) (Nat.zero_le _)
  · refine ⟨rfl, ?_, ?_⟩
    · show usedF (putF d.fs s f) ≤ _
      have h1 := used_putF hs s f
      have h2 : ((lk d.fs s).map AFile.len).getD 0 = (afile d s).len := by
        unfold afile
        cases lk d.fs s <;> rfl
      rw [h2] at h1
      omega
    · show (putF d.fs s f).length ≤ _
      rcases hk with hk | hk
      · have := putF_len0 f hk hs; omega
      · have := putF_len d.fs s f; omega
theorem sync_grow {d : ADisk} (hs : SortedF d.fs) (s : ByteArray) : Grow d (d.sync s) 0 0 := by
  unfold ADisk.sync
  split
  · exact Grow.refl d
  · split
    · exact Grow.refl d
    · rename_i h1 h2
      unfold ADisk.cutTo
      refine put_grow hs ?_ (Or.inl ?_)
      · simp only [AFile.len, List.length_take, List.length_nil, List.length_append]; omega
      · cases hl : lk d.fs s with
        | none => rw [hl] at h2; exact absurd rfl h2
        | some f => rfl
theorem append_grow {d : ADisk} (hs : SortedF d.fs) (s : ByteArray) (b : List UInt8) : Grow d (d.append s b) b.length 1 := by
  unfold ADisk.append
  split
  · exact (Grow.refl d).mono (Nat.zero_le _) (Nat.zero_le _)
  · split
    · exact (Grow.refl d).mono (Nat.zero_le _) (Nat.zero_le _)
    · split
      · exact (Grow.refl d).mono (Nat.zero_le _) (Nat.zero_le _)
      · split
        · exact (Grow.refl d).mono (Nat.zero_le _) (Nat.zero_le _)
        · refine put_grow hs ?_ (Or.inr (Nat.le_refl _))
          simp only [AFile.len, List.length_append]; omega
theorem remove_grow {d : ADisk} (hs : SortedF d.fs) (s : ByteArray) : Grow d (d.remove s) 0 0 := by
  unfold ADisk.remove
  split
  · exact Grow.refl d
  · split
    · exact Grow.refl d
    · split
      · exact Grow.fail d
      · refine ⟨rfl, ?_, delF_len _ _⟩
        show usedF (delF d.fs s) ≤ _
        have := used_delF hs s
        omega
/-- why something may have failed. -/
def Why (d : ADisk) (a k : Nat) : Prop := d.left ≠ -1 ∨ d.most < (usedF d.fs + a : Nat) ∨ 200 ≤ d.fs.length + k
theorem Why.mono {d : ADisk} {a k b j : Nat} (h : Why d a k) (ha : a ≤ b) (hk : k ≤ j) : Why d b j := by
  rcases h with h | h | h
  · exact Or.inl h
  · exact Or.inr (Or.inl (by omega))
  · exact Or.inr (Or.inr (by omega))
theorem Why.of {d d1 : ADisk} {a k b j : Nat} (h : Why d1 b j) (g : Grow d d1 a k) (hl : d.left = -1 → d1.left = -1) : Why d (a + b) (k + j) := by
  rcases h with h | h | h
  · exact Or.inl (fun e => h (hl e))
  · refine Or.inr (Or.inl ?_)
    have := g.most
    have := g.used
    omega
  · refine Or.inr (Or.inr ?_)
    have := g.len
    omega
/-- one file is put. -/
theorem put_cases {d : ADisk} (hs : SortedF d.fs) (s : ByteArray) (f : AFile) :
    (d.left = 0 ∧ d.put s f = d.fail ∧ d.err = 15) ∨ (d.left ≠ 0 ∧ d.err = 0 ∧ (d.put s f).down = false ∧ SortedF (d.put s f).fs ∧ (∀ u, lk (d.put s f).fs u = if u = s then some f else lk d.fs u) ∧ (d.left = -1 → (d.put s f).left = -1)) := by
  unfold ADisk.put ADisk.err
  by_cases h0 : d.left = 0
  · left; rw [if_pos h0, if_pos h0]; exact ⟨h0, rfl, rfl⟩
  · right
    rw [if_neg h0, if_neg h0]
    refine ⟨h0, rfl, rfl, sorted_putF hs _ _, fun u => lk_putF _ _ _ _, fun hl => ?_⟩
    show max (d.left - 1) (-1) = -1
    rw [hl]; rfl
/-- a file is removed. -/
theorem remove_cases {d : ADisk} (hs : SortedF d.fs) (hd : d.down = false) {s : ByteArray} {f : AFile} (hl : lk d.fs s = some f) :
    (d.left = 0 ∧ d.remove s = d.fail ∧ d.removeErr s = 15) ∨ (d.left ≠ 0 ∧ d.removeErr s = 0 ∧ (d.remove s).down = false ∧ SortedF (d.remove s).fs ∧ (∀ u, lk (d.remove s).fs u = if u = s then none else lk d.fs u) ∧ (d.left = -1 → (d.remove s).left = -1)) := by
  have e1 : d.remove s = if d.left = 0 then d.fail else { d.tick with fs := delF d.fs s } := by unfold ADisk.remove; rw [if_neg (by simp [hd]), if_neg (by rw [hl]; simp)]
  have e2 : d.removeErr s = if d.left = 0 then 15 else 0 := by unfold ADisk.removeErr; rw [if_neg (by simp [hd]), if_neg (by rw [hl]; simp)]; rfl
  rw [e1, e2]
  by_cases h0 : d.left = 0
  · left; rw [if_pos h0, if_pos h0]; exact ⟨h0, rfl, rfl⟩
  · right
    rw [if_neg h0, if_neg h0]
    refine ⟨h0, rfl, rfl, sorted_delF hs _, fun u => lk_delF _ _ _, fun hl => ?_⟩
    show max (d.left - 1) (-1) = -1
    rw [hl]; rfl
/-- a file is synced. -/
theorem sync_cases {d : ADisk} (hs : SortedF d.fs) (hd : d.down = false) {s : ByteArray} {f : AFile} (hl : lk d.fs s = some f) :
    (d.left = 0 ∧ d.sync s = d.fail ∧ d.syncErr s = 15) ∨ (d.left ≠ 0 ∧ d.syncErr s = 0 ∧ (d.sync s).down = false ∧ SortedF (d.sync s).fs ∧ (∀ u, lk (d.sync s).fs u = if u = s then some ⟨f.firm ++ f.loose, []⟩ else lk d.fs u) ∧ (d.left = -1 → (d.sync s).left = -1)) := by
  have ha : afile d s = f := by unfold afile; rw [hl]; rfl
  have e1 : d.sync s = d.put s ⟨f.firm ++ f.loose, []⟩ := by
    unfold ADisk.sync ADisk.cutTo
    rw [if_neg (by simp [hd]), if_neg (by rw [hl]; simp), ha, List.take_of_length_le (by simp [AFile.len])]
  have e2 : d.syncErr s = d.err := by unfold ADisk.syncErr; rw [if_neg (by simp [hd]), if_neg (by rw [hl]; simp)]
  rw [e1, e2]
  rcases put_cases hs s ⟨f.firm ++ f.loose, []⟩ with ⟨h0, h1, h2⟩ | ⟨h0, h1, h2⟩
  · exact Or.inl ⟨h0, h1, h2⟩
  · exact Or.inr ⟨h0, h1, h2⟩
/-- a file is cut. -/
theorem cut_cases {d : ADisk} (hs : SortedF d.fs) (hd : d.down = false) {s : ByteArray} {f : AFile} (hl : lk d.fs s = some f) (n : Nat) (hn : n ≤ (f.firm ++ f.loose).length) :
    (d.left = 0 ∧ d.cut s n = d.fail ∧ d.cutErr s n = 15) ∨ (d.left ≠ 0 ∧ d.cutErr s n = 0 ∧ (d.cut s n).down = false ∧ SortedF (d.cut s n).fs ∧ (∀ u, lk (d.cut s n).fs u = if u = s then some ⟨(f.firm ++ f.loose).take n, []⟩ else lk d.fs u) ∧ (d.left = -1 → (d.cut s n).left = -1)) := by
  have ha : afile d s = f := by unfold afile; rw [hl]; rfl
  rw [List.length_append] at hn
  have hno : ¬ ((n : Int) < 0 ∨ ((afile d s).len : Int) < n) := by rw [ha]; unfold AFile.len; omega
  have e1 : d.cut s n = d.put s ⟨(f.firm ++ f.loose).take n, []⟩ := by
    unfold ADisk.cut ADisk.cutTo
    rw [if_neg (by simp [hd]), if_neg (by rw [hl]; simp), if_neg hno, ha, Int.toNat_natCast]
  have e2 : d.cutErr s n = d.err := by unfold ADisk.cutErr; rw [if_neg (by simp [hd]), if_neg (by rw [hl]; simp), if_neg hno]
  rw [e1, e2]
  rcases put_cases hs s ⟨(f.firm ++ f.loose).take n, []⟩ with ⟨h0, h1, h2⟩ | ⟨h0, h1, h2⟩
  · exact Or.inl ⟨h0, h1, h2⟩
  · exact Or.inr ⟨h0, h1, h2⟩

theorem need_le (x : Seg) (sy : Nat) : need x sy ≤ (cont x).length := by
  unfold need
  split
  · exact Nat.zero_le _
  · unfold cont
    rw [List.length_append, List.length_append]
    have h := wFrames_app sumL x.1 (x.2.take (sy + 1 - x.1)) (x.2.drop (sy + 1 - x.1))
    rw [List.take_append_drop] at h
    rw [h, List.length_append]
    omega
/-- segments on a disk, or none. -/
inductive On (d : ADisk) : List Seg → Nat → Prop
  | bare {sy : Nat} : Bare d → On d [] sy
  | some {pre : List Seg} {x : Seg} {t sy : Nat} : Lies d pre x t sy → On d (pre ++ [x]) sy
/-- the same, the last one whole too. -/
inductive OnF (d : ADisk) : List Seg → Nat → Prop
  | bare {sy : Nat} : Bare d → OnF d [] sy
  | some {pre : List Seg} {x : Seg} {sy : Nat} : Lies d pre x (cont x).length sy → OnF d (pre ++ [x]) sy
theorem OnF.on {d : ADisk} {ss : List Seg} {sy : Nat} (h : OnF d ss sy) : On d ss sy := by
  cases h with
  | bare h => exact On.bare h
  | some h => exact On.some h
theorem Lies.same {d d' : ADisk} {pre : List Seg} {x : Seg} {t sy : Nat} (h : Lies d pre x t sy) (hs : SortedF d'.fs) (he : ∀ u, lk d'.fs u = lk d.fs u) : Lies d' pre x t sy := by
  obtain ⟨f, hf, hr⟩ := h.last
  exact ⟨hs, h.ch, fun y hy => by rw [he]; exact h.full y hy, ⟨f, by rw [he]; exact hf, hr⟩, h.fits, fun n h0 h1 h2 => h.only n h0 h1 (by rw [← he]; exact h2)⟩
theorem Lies.fail {d : ADisk} {pre : List Seg} {x : Seg} {t sy : Nat} (h : Lies d pre x t sy) : Lies d.fail pre x t sy := h.same h.sorted (fun _ => rfl)
/-- whole segments that are all firm. -/
theorem Lies.firm {d : ADisk} {pre : List Seg} {x : Seg} (sy : Nat) (hs : SortedF d.fs) (hc : chain (pre ++ [x])) (hf : ∀ y ∈ pre, lk d.fs (wName y.1) = some ⟨cont y, []⟩) (hl : lk d.fs (wName x.1) = some ⟨cont x, []⟩)
    (ho : ∀ n, 1 ≤ n → n ≤ 9007199254740992 → lk d.fs (wName n) ≠ none → n ∈ (pre ++ [x]).map (·.1)) : Lies d pre x (cont x).length sy :=
  ⟨hs, hc, hf, ⟨_, hl, by rw [List.append_nil, List.take_of_length_le (Nat.le_refl _)], need_le x sy⟩, Nat.le_refl _, ho⟩
/-- all that lies is firm. -/
def Firm (d : ADisk) (ss : List Seg) : Prop := ∀ y ∈ ss, lk d.fs (wName y.1) = some ⟨cont y, []⟩

/-- a log that is not over, and its disk. -/
structure J (d : ADisk) (al : ALog) (ss : List Seg) : Prop where
  up : d.down = false
  on : OnF d ss al.synced
  segs : al.segs = ss.map segV
  next : al.next = nextOf ss
  bytes : al.bytes = lenOf ss
  sync : al.synced + 1 ≤ nextOf ss ∨ (ss = [] ∧ al.synced = 0)
  live : al.over = false
/-- what Open leaves of segments: the last one lacks records that were not firm, or is gone. -/
def Trunc (pre : List Seg) (x : Seg) (sy : Nat) (ss' : List Seg) : Prop :=
  (ss' = pre ∧ sy < x.1) ∨ ∃ k, ss' = pre ++ [(x.1, x.2.take k)] ∧ k ≤ x.2.length ∧ (x.1 ≤ sy → min (sy + 1 - x.1) x.2.length ≤ k)
theorem Trunc.refl (pre : List Seg) (x : Seg) (sy : Nat) : Trunc pre x sy (pre ++ [x]) :=
  Or.inr ⟨x.2.length, by rw [List.take_of_length_le (Nat.le_refl _)], Nat.le_refl _, fun _ => Nat.min_le_right _ _⟩
theorem chain_pre {pre : List Seg} {x : Seg} (h : chain (pre ++ [x])) : chain pre := by
  induction pre with
  | nil => trivial
  | cons y pre ih =>
    cases pre with
    | nil => exact h.1
    | cons z pre => exact ⟨h.1, h.2.1, h.2.2.1, ih h.2.2.2⟩
theorem SegOk.cutK {x : Seg} (h : SegOk x) (k : Nat) : SegOk (x.1, x.2.take k) :=
  ⟨h.lo, h.hi, by have := h.top; simp only [List.length_take]; omega, fun b hb => h.small b (List.mem_of_mem_take hb)⟩
theorem chain_cut {pre : List Seg} {x y : Seg} (h : chain (pre ++ [x])) (hy : SegOk y) (he : y.1 = x.1) : chain (pre ++ [y]) := by
  induction pre with
  | nil => exact hy
  | cons z pre ih =>
    cases pre with
    | nil => exact ⟨h.1, h.2.1, by rw [he]; exact h.2.2.1, hy⟩
    | cons u pre => exact ⟨h.1, h.2.1, h.2.2.1, ih h.2.2.2⟩
theorem cont_prefix (x : Seg) (k t : Nat) (hk : (cont (x.1, x.2.take k)).length ≤ t) : ((cont x).take t).take (cont (x.1, x.2.take k)).length = cont (x.1, x.2.take k) := by
  have h : cont x = cont (x.1, x.2.take k) ++ wFrames sumL (x.1 + (x.2.take k).length) (x.2.drop k) := by
    unfold cont
    have h := wFrames_app sumL x.1 (x.2.take k) (x.2.drop k)
    rw [List.take_append_drop] at h
    rw [h, List.append_assoc]
  rw [List.take_take, Nat.min_eq_left hk, h, List.take_left]
theorem found_cut (x : Seg) (t : Nat) (ht : (hd4 x.1).length ≤ t) : (cont (x.1, x.2.take (fitN x.1 x.2 (t - (hd4 x.1).length)))).length ≤ t := by
  have := fitN_len x.1 x.2 (t - (hd4 x.1).length)
  show (hd4 x.1 ++ wFrames sumL x.1 (x.2.take (fitN x.1 x.2 (t - (hd4 x.1).length)))).length ≤ t
  rw [List.length_append]
  omega
theorem wN_not (n : Nat) : wName n ≠ wN := by
  intro h
  have := congrArg (fun s : ByteArray => s.data.toList) h
  simp only [wName, wN, List.cons.injEq, true_and] at this
  exact dec_ne n this
theorem find_up {d : ADisk} (hd : d.down = false) (s : ByteArray) : ¬ (findErr d s ≠ 13 ∧ findErr d s ≠ 0) := by
  unfold findErr
  rw [if_neg (by simp [hd])]
  split <;> simp
theorem lastN_pre (pre : List Seg) (y : Seg) : ((pre ++ [y]).map segV).getLast?.map (·.1) = some y.1 := by simp [segV]
theorem open_bare {d : ADisk} (h : Bare d) (hd : d.down = false) (size : Int) (h0 : 64 ≤ size) (h1 : size ≤ 16777216) : wOpen d size = (d, f0, 0) ∧ J d (f0.log size) [] := by
  refine ⟨?_, hd, OnF.bare h, rfl, rfl, rfl, Or.inr ⟨rfl, rfl⟩, rfl⟩
  unfold wOpen
  rw [if_neg (by omega), if_neg (find_up hd _), h.look]
  rfl
/-- Open where a journal lies. -/
theorem open_law {d : ADisk} {pre : List Seg} {x : Seg} {t sy : Nat} (h : Lies d pre x t sy) (hd : d.down = false) (size : Int) (h0 : 64 ≤ size) (h1 : size ≤ 16777216) :
    ∃ d' ss', Trunc pre x sy ss' ∧
      ((wOpen d size = (d', foundOf pre x t, 0) ∧ J d' ((foundOf pre x t).log size) ss' ∧ (foundOf pre x t).recs = allRecs ss' ∧ Firm d' ss' ∧ (d.left = -1 → d'.left = -1) ∧ (t = (cont x).length → ss' = pre ++ [x])) ∨
        (d.left ≠ -1 ∧ wOpen d size = (d', foundOf pre x t, 15) ∧ d'.down = true ∧ On d' ss' sy)) := by
  obtain ⟨f, hf, hc, hn⟩ := h.last
  have hok : SegOk x := chain_ok h.ch x (by simp)
  have hfit := h.fits
  have hlen : (f.firm ++ f.loose).length = t := by rw [hc, List.length_take]; omega
  have hfl : f.firm.length ≤ t := by rw [List.length_append] at hlen; omega
  have ho : wOpen d size = ((opSteps d (foundOf pre x t)).1, foundOf pre x t, (opSteps d (foundOf pre x t)).2) := by
    unfold wOpen
    rw [if_neg (by omega), if_neg (find_up hd _), h.look hd]
    simp only
    rw [if_neg (fun e => e rfl)]
  rw [ho]
  have hx0 : x.1 ≠ 0 := by have := hok.lo; omega
  by_cases ht : t < (hd4 x.1).length
  · -- the last file is none
    have hsy : sy < x.1 := by
      refine Nat.lt_of_not_le (fun hle => ?_)
      unfold need at hn
      rw [if_neg (by omega), List.length_append] at hn
      omega
    have hfo : foundOf pre x t = { fPre pre with none := x.1 } := by unfold foundOf; rw [if_pos ht]
    have hnot : t ≠ (cont x).length := by
      intro e
      have : (hd4 x.1).length ≤ (cont x).length := by unfold cont; rw [List.length_append]; omega
      omega
    rw [hfo]
    rcases remove_cases h.sorted hd hf with ⟨a0, a1, a2⟩ | ⟨a0, a1, a2, a3, a4, a5⟩
    · refine ⟨d.fail, pre ++ [x], Trunc.refl pre x sy, Or.inr ⟨by omega, ?_, rfl, On.some h.fail⟩⟩
      unfold opSteps opE1 opD1
      simp only
      rw [if_neg hx0, if_neg hx0, a2, if_pos (by decide), a1]
    · have hE1 : opE1 d { fPre pre with none := x.1 } = 0 := by unfold opE1; simp only; rw [if_neg hx0, a1]
      have hD1 : opD1 d { fPre pre with none := x.1 } = d.remove (wName x.1) := by unfold opD1; simp only; rw [if_neg hx0]
      have hE2 : opE2 d { fPre pre with none := x.1 } = 0 := by unfold opE2; exact if_pos (Or.inr rfl)
      have hD2 : opD2 d { fPre pre with none := x.1 } = d.remove (wName x.1) := by unfold opD2; exact (if_pos (Or.inr rfl)).trans hD1
      generalize hW : d.remove (wName x.1) = d1 at *
      have honly : ∀ n, 1 ≤ n → n ≤ 9007199254740992 → lk d1.fs (wName n) ≠ none → n ∈ pre.map (·.1) := by
        intro n n0 n1 n2
        rw [a4] at n2
        by_cases e : wName n = wName x.1
        · rw [if_pos e] at n2; exact absurd rfl n2
        · rw [if_neg e] at n2
          have := h.only n n0 n1 n2
          simp only [List.map_append, List.mem_append, List.map_cons, List.map_nil, List.mem_singleton] at this
          rcases this with this | this
          · exact this
          · subst this; exact absurd rfl e
      have hpre : ∀ y ∈ pre, lk d1.fs (wName y.1) = some ⟨cont y, []⟩ := by
        intro y hy
        rw [a4, if_neg, h.full y hy]
        intro e
        have e2 := wName_inj e
        have hcf := chain_firsts h.ch
        rw [List.map_append, List.pairwise_append] at hcf
        have := hcf.2.2 y.1 (List.mem_map_of_mem hy) x.1 (by simp)
        omega
      rcases List.eq_nil_or_concat pre with rfl | ⟨pre', y, rfl⟩
      · refine ⟨d1, [], Or.inl ⟨rfl, hsy⟩, Or.inl ⟨?_, ⟨a2, OnF.bare ⟨a3, fun n n0 n1 => ?_⟩, rfl, rfl, rfl, Or.inr ⟨rfl, rfl⟩, rfl⟩, rfl, fun y hy => (by cases hy), a5, fun e => absurd e hnot⟩⟩
        · unfold opSteps
          rw [hE1, if_neg (fun e => e rfl), hE2, if_neg (fun e => e rfl)]
          have hD3 : opD3 d { fPre [] with none := x.1 } = d1 := by unfold opD3; exact (if_pos rfl).trans hD2
          have hE3 : opE3 d { fPre [] with none := x.1 } = 0 := by unfold opE3; exact if_pos rfl
          rw [hD3, hE3]
        · cases hl : lk d1.fs (wName n) with
          | none => rfl
          | some g => exact absurd (honly n n0 n1 (by rw [hl]; simp)) (by simp)
      · rw [List.concat_eq_append] at *
        have hy := hpre y (by simp)
        have hlast : AFound.lastN { fPre (pre' ++ [y]) with none := x.1 } = y.1 := by
          unfold AFound.lastN fPre
          simp only
          rw [lastN_pre]; rfl
        have hne : (fPre (pre' ++ [y])).segs ≠ [] := by simp [fPre]
        have hD3 : opD3 d { fPre (pre' ++ [y]) with none := x.1 } = d1.sync (wName y.1) := by
          unfold opD3; rw [if_neg hne, hD2, hlast]
        have hE3 : opE3 d { fPre (pre' ++ [y]) with none := x.1 } = d1.syncErr (wName y.1) := by
          unfold opE3; rw [if_neg hne, hD2, hlast]
        have hst : opSteps d { fPre (pre' ++ [y]) with none := x.1 } = (d1.sync (wName y.1), d1.syncErr (wName y.1)) := by
          unfold opSteps
          rw [hE1, if_neg (fun e => e rfl), hE2, if_neg (fun e => e rfl), hD3, hE3]
        have hcp : chain (pre' ++ [y]) := chain_pre h.ch
        rw [hst]
        rcases sync_cases a3 a2 hy with ⟨b0, b1, b2⟩ | ⟨b0, b1, b2, b3, b4, b5⟩
        · refine ⟨d1.fail, pre' ++ [y], Or.inl ⟨rfl, hsy⟩, Or.inr ⟨fun e => by have := a5 e; omega, by rw [b1, b2], rfl, On.some (Lies.fail (Lies.firm sy a3 hcp (fun z hz => hpre z (by simp [hz])) hy honly))⟩⟩
        · have hsame : ∀ u, lk (d1.sync (wName y.1)).fs u = lk d1.fs u := by
            intro u
            rw [b4]
            split
            · rename_i e; subst e; rw [hy]; simp
            · rfl
          have hfirm : Firm (d1.sync (wName y.1)) (pre' ++ [y]) := fun z hz => by rw [hsame]; exact hpre z hz
          refine ⟨d1.sync (wName y.1), pre' ++ [y], Or.inl ⟨rfl, hsy⟩, Or.inl ⟨by rw [b1], ⟨b2, OnF.some (Lies.firm _ b3 hcp (fun z hz => hfirm z (by simp [hz])) (hfirm y (by simp)) (fun n n0 n1 n2 => honly n n0 n1 (by rw [← hsame]; exact n2))), rfl, rfl, rfl, Or.inl ?_, rfl⟩, rfl, hfirm, fun e => b5 (a5 e), fun e => absurd e hnot⟩⟩
          show nextOf (pre' ++ [y]) - 1 + 1 ≤ nextOf (pre' ++ [y])
          rw [nextOf_last]
          have := (chain_ok hcp y (by simp)).lo
          omega
  · -- the last file has a head
    have ht' : (hd4 x.1).length ≤ t := by omega
    have hfo : foundOf pre x t = { fPre (pre ++ [(x.1, x.2.take (fitN x.1 x.2 (t - (hd4 x.1).length)))]) with bytes := t } := by unfold foundOf; rw [if_neg ht]
    have hcl := found_cut x t ht'
    have hkl := fitN_le x.1 x.2 (t - (hd4 x.1).length)
    have hkm : x.1 ≤ sy → min (sy + 1 - x.1) x.2.length ≤ fitN x.1 x.2 (t - (hd4 x.1).length) := by
      intro hle
      refine fitN_ge x.1 x.2 _ _ ?_ (Nat.min_le_right _ _)
      unfold need at hn
      rw [if_neg (by omega), List.length_append] at hn
      have he : x.2.take (min (sy + 1 - x.1) x.2.length) = x.2.take (sy + 1 - x.1) := by
        rcases Nat.le_total (sy + 1 - x.1) x.2.length with a | a
        · rw [Nat.min_eq_left a]
        · rw [Nat.min_eq_right a, List.take_of_length_le (Nat.le_refl _), List.take_of_length_le a]
      rw [he]; omega
    have hfull : t = (cont x).length → fitN x.1 x.2 (t - (hd4 x.1).length) = x.2.length := by
      intro e
      refine fitN_all x.1 x.2 _ ?_
      rw [e]; unfold cont; rw [List.length_append]; omega
    rw [hfo]
    generalize hk : fitN x.1 x.2 (t - (hd4 x.1).length) = k at *
    have hok' : SegOk (x.1, x.2.take k) := hok.cutK k
    have hch' : chain (pre ++ [(x.1, x.2.take k)]) := chain_cut h.ch hok' rfl
    have hpf := cont_prefix x k t hcl
    generalize hg : (cont (x.1, x.2.take k)).length = g at *
    have htr : Trunc pre x sy (pre ++ [(x.1, x.2.take k)]) := Or.inr ⟨k, rfl, hkl, hkm⟩
    have hlast : AFound.lastN { fPre (pre ++ [(x.1, x.2.take k)]) with bytes := t } = x.1 := by
      unfold AFound.lastN fPre
      simp only
      rw [lastN_pre]; rfl
    have hgood : (fPre (pre ++ [(x.1, x.2.take k)])).good = g := by unfold fPre; simp only; rw [lenOf_last, hg]
    have hne : (fPre (pre ++ [(x.1, x.2.take k)])).segs ≠ [] := by simp [fPre]
    have hE1 : opE1 d { fPre (pre ++ [(x.1, x.2.take k)]) with bytes := t } = 0 := by unfold opE1; exact if_pos rfl
    have hD1 : opD1 d { fPre (pre ++ [(x.1, x.2.take k)]) with bytes := t } = d := by unfold opD1; exact if_pos rfl
    have hsy1 : nextOf (pre ++ [(x.1, x.2.take k)]) - 1 + 1 ≤ nextOf (pre ++ [(x.1, x.2.take k)]) := by
      rw [nextOf_last]
      have := hok.lo
      simp only
      omega
    have hfin : ∀ d2 : ADisk, d2.down = false → SortedF d2.fs → (∀ u, lk d2.fs u = if u = wName x.1 then some ⟨cont (x.1, x.2.take k), []⟩ else lk d.fs u) →
        J d2 (AFound.log { fPre (pre ++ [(x.1, x.2.take k)]) with bytes := t } size) (pre ++ [(x.1, x.2.take k)]) ∧ Firm d2 (pre ++ [(x.1, x.2.take k)]) ∧ ∀ sy', Lies d2 pre (x.1, x.2.take k) (cont (x.1, x.2.take k)).length sy' := by
      intro d2 u1 u2 u3
      have hpre : ∀ y ∈ pre, lk d2.fs (wName y.1) = some ⟨cont y, []⟩ := by
        intro y hy
        rw [u3, if_neg, h.full y hy]
        intro e
        have e2 := wName_inj e
        have hcf := chain_firsts h.ch
        rw [List.map_append, List.pairwise_append] at hcf
        have := hcf.2.2 y.1 (List.mem_map_of_mem hy) x.1 (by simp)
        omega
      have hlx : lk d2.fs (wName x.1) = some ⟨cont (x.1, x.2.take k), []⟩ := by rw [u3, if_pos rfl]
      have honly : ∀ n, 1 ≤ n → n ≤ 9007199254740992 → lk d2.fs (wName n) ≠ none → n ∈ (pre ++ [(x.1, x.2.take k)]).map (·.1) := by
        intro n n0 n1 n2
        by_cases e : wName n = wName x.1
        · rw [wName_inj e]; simp
        · rw [u3, if_neg e] at n2
          have := h.only n n0 n1 n2
          simpa using this
      have hL : ∀ sy', Lies d2 pre (x.1, x.2.take k) (cont (x.1, x.2.take k)).length sy' := fun sy' => Lies.firm sy' u2 hch' hpre hlx honly
      refine ⟨⟨u1, OnF.some (hL _), rfl, rfl, ?_, Or.inl hsy1, rfl⟩, ?_, hL⟩
      · show (fPre (pre ++ [(x.1, x.2.take k)])).good = _
        rw [hgood, lenOf_last, hg]
      · intro y hy
        rcases List.mem_append.1 hy with hy | hy
        · exact hpre y hy
        · simp only [List.mem_singleton] at hy; subst hy; exact hlx
    by_cases hgt : g = t
    · -- nothing is cut
      have hE2 : opE2 d { fPre (pre ++ [(x.1, x.2.take k)]) with bytes := t } = 0 := by unfold opE2; rw [if_pos (Or.inr (by show (fPre _).good = t; rw [hgood, hgt]))]
      have hD2 : opD2 d { fPre (pre ++ [(x.1, x.2.take k)]) with bytes := t } = d := by unfold opD2; rw [if_pos (Or.inr (by show (fPre _).good = t; rw [hgood, hgt])), hD1]
      have hst : opSteps d { fPre (pre ++ [(x.1, x.2.take k)]) with bytes := t } = (d.sync (wName x.1), d.syncErr (wName x.1)) := by
        unfold opSteps
        rw [hE1, if_neg (fun e => e rfl), hE2, if_neg (fun e => e rfl)]
        unfold opD3 opE3
        rw [if_neg hne, if_neg hne, hD2, hlast]
      rw [hst]
      have hcc : f.firm ++ f.loose = cont (x.1, x.2.take k) := by
        rw [hc, ← hpf, hgt, List.take_take, Nat.min_self]
      rcases sync_cases h.sorted hd hf with ⟨b0, b1, b2⟩ | ⟨b0, b1, b2, b3, b4, b5⟩
      · exact ⟨d.fail, pre ++ [x], Trunc.refl pre x sy, Or.inr ⟨by omega, by rw [b1, b2], rfl, On.some h.fail⟩⟩
      · rw [hcc] at b4
        obtain ⟨j1, j2, _⟩ := hfin _ b2 b3 b4
        exact ⟨d.sync (wName x.1), _, htr, Or.inl ⟨by rw [b1], j1, rfl, j2, b5, fun e => by rw [hfull e, List.take_of_length_le (Nat.le_refl _)]⟩⟩
    · have hno : ¬ ((fPre (pre ++ [(x.1, x.2.take k)])).segs = [] ∨ (fPre (pre ++ [(x.1, x.2.take k)])).good = t) := by
        rintro (e | e)
        · exact hne e
        · rw [hgood] at e; exact hgt e
      have hE2 : opE2 d { fPre (pre ++ [(x.1, x.2.take k)]) with bytes := t } = d.cutErr (wName x.1) g := by
        unfold opE2
        rw [if_neg hno, hD1, hlast]
        show d.cutErr (wName x.1) ((fPre (pre ++ [(x.1, x.2.take k)])).good : Nat) = _
        rw [hgood]
      have hD2 : opD2 d { fPre (pre ++ [(x.1, x.2.take k)]) with bytes := t } = d.cut (wName x.1) g := by
        unfold opD2
        rw [if_neg hno, hD1, hlast]
        show d.cut (wName x.1) ((fPre (pre ++ [(x.1, x.2.take k)])).good : Nat) = _
        rw [hgood]
      rcases cut_cases h.sorted hd hf g (by rw [hlen]; exact hcl) with ⟨c0, c1, c2⟩ | ⟨c0, c1, c2, c3, c4, c5⟩
      · refine ⟨d.fail, pre ++ [x], Trunc.refl pre x sy, Or.inr ⟨by omega, ?_, rfl, On.some h.fail⟩⟩
        unfold opSteps
        rw [hE1, if_neg (fun e => e rfl), hE2, c2, if_pos (by decide), hD2, c1]
      · rw [hc, hpf] at c4
        have hst : opSteps d { fPre (pre ++ [(x.1, x.2.take k)]) with bytes := t } = ((d.cut (wName x.1) g).sync (wName x.1), (d.cut (wName x.1) g).syncErr (wName x.1)) := by
          unfold opSteps
          rw [hE1, if_neg (fun e => e rfl), hE2, c1, if_neg (fun e => e rfl)]
          unfold opD3 opE3
          rw [if_neg hne, if_neg hne, hD2, hlast]
        rw [hst]
        generalize d.cut (wName x.1) g = d2 at *
        obtain ⟨_, _, hL⟩ := hfin d2 c2 c3 c4
        have hx2 : lk d2.fs (wName x.1) = some ⟨cont (x.1, x.2.take k), []⟩ := by rw [c4, if_pos rfl]
        rcases sync_cases c3 c2 hx2 with ⟨b0, b1, b2⟩ | ⟨b0, b1, b2, b3, b4, b5⟩
        · exact ⟨d2.fail, _, htr, Or.inr ⟨fun e => by have := c5 e; omega, by rw [b1, b2], rfl, On.some (hL sy).fail⟩⟩
        · have hb : ∀ u, lk (d2.sync (wName x.1)).fs u = if u = wName x.1 then some ⟨cont (x.1, x.2.take k), []⟩ else lk d.fs u := by
            intro u
            rw [b4]
            by_cases e : u = wName x.1
            · rw [if_pos e, if_pos e, List.append_nil]
            · rw [if_neg e, if_neg e, c4, if_neg e]
          obtain ⟨j1, j2, _⟩ := hfin _ b2 b3 hb
          refine ⟨d2.sync (wName x.1), _, htr, Or.inl ⟨by rw [b1], j1, rfl, j2, fun e => b5 (c5 e), fun e => ?_⟩⟩
          exfalso
          have := hfull e
          rw [this, List.take_of_length_le (Nat.le_refl _)] at hg
          exact hgt (by rw [← hg, e])
end Go.Proofs.YtbepcjajbcecnaaGreatDoor

/-
  Append, Sync, Trim on a plain disk. No program here.
-/
namespace Go.Proofs.YtbepcjajbcecnaaGreatDoor
open Go.Lib

theorem digit_letter (b : UInt8) (h : 48 ≤ b.toNat ∧ b.toNat ≤ 57) : okLetter b = true := by
  have hb : b ∈ [(48 : UInt8), 49, 50, 51, 52, 53, 54, 55, 56, 57] := by
    have e : b = UInt8.ofNat b.toNat := by simp
    have : b.toNat = 48 ∨ b.toNat = 49 ∨ b.toNat = 50 ∨ b.toNat = 51 ∨ b.toNat = 52 ∨ b.toNat = 53 ∨ b.toNat = 54 ∨ b.toNat = 55 ∨ b.toNat = 56 ∨ b.toNat = 57 := by omega
    rcases this with h | h | h | h | h | h | h | h | h | h <;> rw [e, h] <;> decide
  revert hb
  have hall : ∀ c ∈ [(48 : UInt8), 49, 50, 51, 52, 53, 54, 55, 56, 57], okLetter c = true := by decide
  exact hall b
theorem wName_ok {n : Nat} (h : n ≤ 9007199254740992) : okName (wName n) = true := by
  have h1 := wName_size h
  have h2 : (wName n).data.toList.all okLetter = true := by
    show (119 :: decDigits n).all okLetter = true
    rw [List.all_cons, Bool.and_eq_true]
    refine ⟨by decide, List.all_eq_true.2 (fun b hb => digit_letter b (dec_digit hb))⟩
  have h3 : 0 < (wName n).size := by
    show 0 < (119 :: decDigits n).toArray.size
    simp
  unfold okName
  rw [h2, decide_eq_true h3, decide_eq_true (by omega : (wName n).size ≤ 40)]
  rfl
theorem app_cases {d : ADisk} (hs : SortedF d.fs) (hd : d.down = false) {s : ByteArray} (hn : okName s = true) (b : List UInt8) :
    (d.appendErr s b ≠ 0 ∧ SortedF (d.append s b).fs ∧ (∀ u, lk (d.append s b).fs u = lk d.fs u) ∧ Why d b.length 0) ∨
      (d.appendErr s b = 0 ∧ (d.append s b).down = false ∧ SortedF (d.append s b).fs ∧ (∀ u, lk (d.append s b).fs u = if u = s then some ⟨(afile d s).firm, (afile d s).loose ++ b⟩ else lk d.fs u) ∧ (d.left = -1 → (d.append s b).left = -1)) := by
  have e1 : d.append s b = if d.most < usedF d.fs + b.length then d else if (lk d.fs s).isNone ∧ 200 ≤ d.fs.length then d else d.put s ⟨(afile d s).firm, (afile d s).loose ++ b⟩ := by
    unfold ADisk.append; rw [if_neg (by simp [hd]), if_neg (by simp [hn])]
  have e2 : d.appendErr s b = if d.most < usedF d.fs + b.length then 5 else if (lk d.fs s).isNone ∧ 200 ≤ d.fs.length then 5 else d.err := by
    unfold ADisk.appendErr; rw [if_neg (by simp [hd]), if_neg (by simp [hn])]
  rw [e1, e2]
  by_cases h1 : d.most < usedF d.fs + b.length
  · left; rw [if_pos h1, if_pos h1]; exact ⟨by decide, hs, fun _ => rfl, Or.inr (Or.inl (by omega))⟩
  · rw [if_neg h1, if_neg h1]
    by_cases h2 : (lk d.fs s).isNone ∧ 200 ≤ d.fs.length
    · left; rw [if_pos h2, if_pos h2]; exact ⟨by decide, hs, fun _ => rfl, Or.inr (Or.inr (by omega))⟩
    · rw [if_neg h2, if_neg h2]
      rcases put_cases hs s ⟨(afile d s).firm, (afile d s).loose ++ b⟩ with ⟨a0, a1, a2⟩ | ⟨a0, a1, a2, a3, a4, a5⟩
      · left; rw [a1, a2]; exact ⟨by decide, hs, fun _ => rfl, Or.inl (by omega)⟩
      · right; exact ⟨a1, a2, a3, a4, a5⟩
/-- the steps of another segment. -/
theorem ano_law {d : ADisk} (hs : SortedF d.fs) (hd : d.down = false) {n : Nat} (hn : n ≤ 9007199254740992) (hl : lk d.fs (wName n) = none) :
    (∃ d', anoSteps d n = (d', 0) ∧ d'.down = false ∧ SortedF d'.fs ∧ (∀ u, lk d'.fs u = if u = wName n then some ⟨hd4 n, []⟩ else lk d.fs u) ∧ (d.left = -1 → d'.left = -1) ∧ Grow d d' (hd4 n).length 1) ∨
      (∃ d' e, e ≠ 0 ∧ anoSteps d n = (d', e) ∧ Why d (hd4 n).length 0 ∧ SortedF d'.fs ∧ ((∀ u, lk d'.fs u = lk d.fs u) ∨ ∀ u, lk d'.fs u = if u = wName n then some ⟨[], hd4 n⟩ else lk d.fs u)) := by
  have hE1 : anoE1 d n = 0 := by
    have : d.removeErr (wName n) = 13 := by unfold ADisk.removeErr; rw [if_neg (by simp [hd]), if_pos (by rw [hl]; rfl)]
    unfold anoE1 goneE4
    rw [if_pos this]
  have hD1 : anoD1 d n = d := by unfold anoD1 ADisk.remove; rw [if_neg (by simp [hd]), if_pos (by rw [hl]; rfl)]
  have ha : afile d (wName n) = ⟨[], []⟩ := by unfold afile; rw [hl]; rfl
  unfold anoSteps anoE3 anoD3 anoE2
  rw [hE1, if_neg (fun e => e rfl)]
  unfold anoD2
  rw [hD1]
  rcases app_cases hs hd (wName_ok hn) (hd4 n) with ⟨a1, a2, a3, aw⟩ | ⟨a1, a2, a3, a4, a5⟩
  · right
    exact ⟨_, _, a1, by rw [if_pos a1], aw, a2, Or.inl a3⟩
  · rw [ha] at a4
    simp only [List.nil_append] at a4
    rw [if_neg (fun e => e a1)]
    have hgr := append_grow hs (wName n) (hd4 n)
    generalize d.append (wName n) (hd4 n) = d2 at *
    have hx : lk d2.fs (wName n) = some ⟨[], hd4 n⟩ := by rw [a4, if_pos rfl]
    rcases sync_cases a3 a2 hx with ⟨b0, b1, b2⟩ | ⟨b0, b1, b2, b3, b4, b5⟩
    · right
      exact ⟨d2.fail, 15, by decide, by rw [b1, b2], Or.inl (fun e => by have := a5 e; omega), a3, Or.inr a4⟩
    · left
      refine ⟨d2.sync (wName n), by rw [b1], b2, b3, fun u => ?_, fun e => b5 (a5 e), hgr.trans (sync_grow a3 (wName n))⟩
      rw [b4]
      by_cases e : u = wName n
      · rw [if_pos e, if_pos e]; rfl
      · rw [if_neg e, if_neg e, a4, if_neg e]

theorem cont_more (x : Seg) (b : List UInt8) : cont (x.1, x.2 ++ [b]) = cont x ++ fr4 (x.1 + x.2.length) b := by
  unfold cont fr4
  rw [wFrames_app, ← List.append_assoc]
  simp [wFrames]
theorem need_more (x : Seg) (b : List UInt8) (sy : Nat) (h : sy + 1 ≤ x.1 + x.2.length) : need (x.1, x.2 ++ [b]) sy = need x sy := by
  unfold need
  by_cases h1 : sy < x.1
  · rw [if_pos h1, if_pos h1]
  · rw [if_neg h1, if_neg h1, List.take_append_of_le_length (by omega)]
theorem numbered_more (n : Nat) (R : List (List UInt8)) (b : List UInt8) : numbered n (R ++ [b]) = numbered n R ++ [⟨n + R.length, b⟩] := by
  induction R generalizing n with
  | nil => simp [numbered]
  | cons c R ih => simp only [List.cons_append, numbered, ih, List.length_cons, show n + 1 + R.length = n + (R.length + 1) by omega]
theorem segs_last (pre : List Seg) (x : Seg) (al : ALog) (h : al.segs = (pre ++ [x]).map segV) : al.lastN = x.1 ∧ al.lastSome = !x.2.isEmpty ∧ al.segs ≠ [] := by
  unfold ALog.lastN ALog.lastSome
  rw [h]
  simp [segV]
theorem set_some (pre : List Seg) (x : Seg) (b : List UInt8) : setSome ((pre ++ [x]).map segV) = (pre ++ [(x.1, x.2 ++ [b])]).map segV := by
  unfold setSome
  simp [segV]
/-- the last segment gets a record. -/
theorem put_law {d : ADisk} {al : ALog} {pre : List Seg} {x : Seg} (hd : d.down = false) (hl : Lies d pre x (cont x).length al.synced) (hsg : al.segs = (pre ++ [x]).map segV) (hby : al.bytes = (cont x).length)
    (hsy : al.synced + 1 ≤ x.1 + x.2.length) (hlv : al.over = false) (b : List UInt8) (hb : b.length ≤ 1048576) (htop : x.1 + x.2.length ≤ 9007199254740992) :
    (∃ d', wPut d al (x.1 + x.2.length) b = (d', { al with segs := (pre ++ [(x.1, x.2 ++ [b])]).map segV, next := x.1 + x.2.length + 1, bytes := (cont (x.1, x.2 ++ [b])).length }, 0) ∧
        J d' { al with segs := (pre ++ [(x.1, x.2 ++ [b])]).map segV, next := x.1 + x.2.length + 1, bytes := (cont (x.1, x.2 ++ [b])).length } (pre ++ [(x.1, x.2 ++ [b])]) ∧ (d.left = -1 → d'.left = -1)) ∨
      ∃ d' e, e ≠ 0 ∧ wPut d al (x.1 + x.2.length) b = (d', { al with over := true }, e) ∧ Why d (fr4 (x.1 + x.2.length) b).length 0 ∧ Lies d' pre x (cont x).length al.synced := by
  have hok : SegOk x := chain_ok hl.ch x (by simp)
  obtain ⟨hlN, _, _⟩ := segs_last pre x al hsg
  have hfile : al.file = wName x.1 := by unfold ALog.file; rw [hlN]
  obtain ⟨f, hf, hc, hn⟩ := hl.last
  rw [List.take_of_length_le (Nat.le_refl _)] at hc
  have ha : afile d (wName x.1) = f := by unfold afile; rw [hf]; rfl
  unfold wPut
  rw [hfile]
  rcases app_cases hl.sorted hd (wName_ok hok.hi) (fr4 (x.1 + x.2.length) b) with ⟨a1, a2, a3, aw⟩ | ⟨a1, a2, a3, a4, a5⟩
  · right
    rw [if_pos a1]
    refine ⟨_, _, a1, ?_, aw, hl.same a2 a3⟩
    unfold ALog.ends
    rw [decide_eq_true a1]
  · left
    rw [if_neg (fun e => e a1), ha] at *
    have hok' : SegOk (x.1, x.2 ++ [b]) := ⟨hok.lo, hok.hi, by simp only [List.length_append, List.length_cons, List.length_nil]; omega, fun c hc => by
      rcases List.mem_append.1 hc with hc | hc
      · exact hok.small c hc
      · simp at hc; subst hc; exact hb⟩
    have hcm := cont_more x b
    generalize d.append (wName x.1) (fr4 (x.1 + x.2.length) b) = d2 at *
    have hL : Lies d2 pre (x.1, x.2 ++ [b]) (cont (x.1, x.2 ++ [b])).length al.synced := by
      refine ⟨a3, chain_cut hl.ch hok' rfl, fun y hy => ?_, ⟨_, by rw [a4, if_pos rfl], ?_, ?_⟩, Nat.le_refl _, fun n n0 n1 n2 => ?_⟩
      · rw [a4, if_neg, hl.full y hy]
        intro e
        have e2 := wName_inj e
        have hcf := chain_firsts hl.ch
        rw [List.map_append, List.pairwise_append] at hcf
        have := hcf.2.2 y.1 (List.mem_map_of_mem hy) x.1 (by simp)
        omega
      · rw [List.take_of_length_le (Nat.le_refl _), hcm, ← hc, List.append_assoc]
      · rw [need_more x b al.synced hsy]; exact hn
      · by_cases e : wName n = wName x.1
        · rw [wName_inj e]; simp
        · rw [a4, if_neg e] at n2
          have := hl.only n n0 n1 n2
          simpa using this
    have hlen : al.bytes + (fr4 (x.1 + x.2.length) b).length = (cont (x.1, x.2 ++ [b])).length := by rw [hcm, List.length_append, hby]
    refine ⟨d2, ?_, ⟨a2, OnF.some hL, rfl, ?_, ?_, Or.inl ?_, hlv⟩, a5⟩
    · rw [hsg, set_some pre x b, hlen]
    · show x.1 + x.2.length + 1 = nextOf _
      rw [nextOf_last]
      simp only [List.length_append, List.length_cons, List.length_nil]
      omega
    · show (cont (x.1, x.2 ++ [b])).length = lenOf _
      rw [lenOf_last]
    · show al.synced + 1 ≤ nextOf _
      rw [nextOf_last]
      simp only [List.length_append, List.length_cons, List.length_nil]
      omega
/-- a new segment behind all others. -/
theorem lies_new {d d' : ADisk} {ss : List Seg} {n : Nat} {sy : Nat} {f : AFile} (hs : SortedF d'.fs) (h : ∀ u, lk d'.fs u = if u = wName n then some f else lk d.fs u) (hf : f.firm ++ f.loose = hd4 n) (hss : chain (ss ++ [(n, [])])) (hfull : Firm d ss)
    (ho : ∀ m, 1 ≤ m → m ≤ 9007199254740992 → lk d.fs (wName m) ≠ none → m ∈ ss.map (·.1)) (hsy : need (n, []) sy ≤ f.firm.length) : Lies d' ss (n, []) (cont (n, [])).length sy := by
  have hc : cont (n, []) = hd4 n := by unfold cont; simp [wFrames]
  refine ⟨hs, hss, fun y hy => ?_, ⟨f, by rw [h, if_pos rfl], ?_, hsy⟩, Nat.le_refl _, fun m m0 m1 m2 => ?_⟩
  · rw [h, if_neg, hfull y hy]
    intro e
    have e2 := wName_inj e
    have hcf := chain_firsts hss
    rw [List.map_append, List.pairwise_append] at hcf
    have := hcf.2.2 y.1 (List.mem_map_of_mem hy) n (by simp)
    omega
  · rw [List.take_of_length_le (Nat.le_refl _), hc, hf]
  · by_cases e : wName m = wName n
    · rw [wName_inj e]; simp
    · rw [h, if_neg e] at m2
      have := ho m m0 m1 m2
      simp only [List.map_append, List.mem_append]
      exact Or.inl this
theorem chain_add {pre : List Seg} {x : Seg} (h : chain (pre ++ [x])) (hx : x.2 ≠ []) (n : Nat) (hn : n = x.1 + x.2.length) (hn1 : n ≤ 9007199254740992) : chain (pre ++ [x] ++ [(n, [])]) := by
  induction pre with
  | nil => exact ⟨h, hx, hn, ⟨by have : SegOk x := h; have := this.lo; simp only; omega, hn1, by simp only [List.length_nil]; omega, fun b hb => by cases hb⟩⟩
  | cons y pre ih =>
    cases pre with
    | nil => exact ⟨h.1, h.2.1, h.2.2.1, ih h.2.2.2⟩
    | cons z pre => exact ⟨h.1, h.2.1, h.2.2.1, ih h.2.2.2⟩
end Go.Proofs.YtbepcjajbcecnaaGreatDoor
