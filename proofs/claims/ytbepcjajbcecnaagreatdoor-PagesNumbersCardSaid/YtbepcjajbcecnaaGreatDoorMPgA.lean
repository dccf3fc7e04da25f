/-
  Keys and their blobs as plain data: by rising names. No program here. (Printed out of Plain.lean.)
-/
import Derived.Test.YtbepcjajbcecnaaGreatDoorMDkA
import Derived.Test.YtbepcjajbcecnaaGreatDoorMWlA
import Derived.Test.YtbepcjajbcecnaaGreatDoorMByA
import Derived.Test.YtbepcjajbcecnaaGreatDoorMDkB
namespace Go.Proofs.YtbepcjajbcecnaaGreatDoor

/-- a key's blob: its bytes, its pack (0: none yet), its place. -/
structure ABlob where
  b : List UInt8
  pack : Nat
  pos : Nat
def kB (fs : List (ByteArray × ABlob)) (s : ByteArray) : Option ABlob := (fs.find? (fun p => decide (p.1 = s))).map (·.2)
def putB : List (ByteArray × ABlob) → ByteArray → ABlob → List (ByteArray × ABlob)
  | [], s, f => [(s, f)]
  | p :: r, s, f => if p.1 = s then (s, f) :: r else if ltS s p.1 then (s, f) :: p :: r else p :: putB r s f
def delB (fs : List (ByteArray × ABlob)) (s : ByteArray) : List (ByteArray × ABlob) := fs.filter (fun p => !decide (p.1 = s))
theorem kB_nil (s : ByteArray) : kB [] s = none := rfl
theorem kB_cons (p : ByteArray × ABlob) (r : List (ByteArray × ABlob)) (s : ByteArray) : kB (p :: r) s = if p.1 = s then some p.2 else kB r s := by
  unfold kB
  by_cases h : p.1 = s <;> simp [h]
theorem kB_some_mem {fs : List (ByteArray × ABlob)} {s : ByteArray} {f : ABlob} (h : kB fs s = some f) : (s, f) ∈ fs := by
  induction fs with
  | nil => cases h
  | cons p r ih =>
    rw [kB_cons] at h
    split at h
    · rename_i e; cases h; subst e; exact List.mem_cons_self
    · exact List.mem_cons_of_mem _ (ih h)
def SortedB (fs : List (ByteArray × ABlob)) : Prop := fs.Pairwise (fun p q => ltS p.1 q.1 = true)
theorem mem_kB {fs : List (ByteArray × ABlob)} (hs : SortedB fs) {s : ByteArray} {f : ABlob} (h : (s, f) ∈ fs) : kB fs s = some f := by
  induction fs with
  | nil => cases h
  | cons p r ih =>
    obtain ⟨h1, h2⟩ := List.pairwise_cons.1 hs
    rw [kB_cons]
    rcases List.mem_cons.1 h with rfl | h
    · simp
    · have := ltS_ne (h1 _ h)
      rw [if_neg this]
      exact ih h2 h
theorem kB_putB (fs : List (ByteArray × ABlob)) (s : ByteArray) (f : ABlob) (t : ByteArray) : kB (putB fs s f) t = if t = s then some f else kB fs t := by
  induction fs with
  | nil => simp only [putB, kB_cons, kB_nil]; by_cases h : t = s <;> simp [h, Ne.symm]
  | cons p r ih =>
    simp only [putB]
    split
    · rename_i h
      simp only [kB_cons]
      by_cases ht : t = s
      · simp [ht]
      · rw [if_neg (fun e => ht e.symm), if_neg ht, if_neg (fun e => ht (by rw [← e, h]))]
    · split
      · simp only [kB_cons]
        by_cases ht : t = s
        · simp [ht]
        · rw [if_neg (fun e => ht e.symm), if_neg ht]
      · rename_i h _
        simp only [kB_cons, ih]
        by_cases ht : t = s
        · subst ht; simp [h]
        · simp [ht]
theorem kB_delB (fs : List (ByteArray × ABlob)) (s t : ByteArray) : kB (delB fs s) t = if t = s then none else kB fs t := by
  induction fs with
  | nil => simp [delB, kB]
  | cons p r ih =>
    unfold delB at *
    by_cases hp : p.1 = s
    · rw [List.filter_cons_of_neg (by simp [hp]), ih, kB_cons]
      by_cases ht : t = s
      · simp [ht]
      · rw [if_neg ht, if_neg ht, if_neg (fun e => ht (by rw [← e, hp]))]
    · rw [List.filter_cons_of_pos (by simpa using hp), kB_cons, kB_cons, ih]
      by_cases ht : t = s
      · subst ht; simp [hp]
      · simp [ht]
theorem mem_putB {fs : List (ByteArray × ABlob)} {s : ByteArray} {f : ABlob} {p : ByteArray × ABlob} (h : p ∈ putB fs s f) : p = (s, f) ∨ p ∈ fs := by
  induction fs with
  | nil => simp [putB] at h; exact Or.inl h
  | cons q r ih =>
    simp only [putB] at h
    split at h
    · rcases List.mem_cons.1 h with h | h
      · exact Or.inl h
      · exact Or.inr (List.mem_cons_of_mem _ h)
    · split at h
      · rcases List.mem_cons.1 h with h | h
        · exact Or.inl h
        · exact Or.inr h
      · rcases List.mem_cons.1 h with h | h
        · exact Or.inr (h ▸ List.mem_cons_self)
        · rcases ih h with h | h
          · exact Or.inl h
          · exact Or.inr (List.mem_cons_of_mem _ h)
theorem sorted_putB {fs : List (ByteArray × ABlob)} (hs : SortedB fs) (s : ByteArray) (f : ABlob) : SortedB (putB fs s f) := by
  induction fs with
  | nil => simp [putB, SortedB]
  | cons q r ih =>
    obtain ⟨h1, h2⟩ := List.pairwise_cons.1 hs
    simp only [putB]
    split
    · rename_i h
      exact List.pairwise_cons.2 ⟨fun p hp => by show ltS s p.1 = true; rw [← h]; exact h1 p hp, h2⟩
    · rename_i hne
      split
      · rename_i hlt
        refine List.pairwise_cons.2 ⟨fun p hp => ?_, hs⟩
        rcases List.mem_cons.1 hp with rfl | hp
        · exact hlt
        · exact ltS_trans hlt (h1 p hp)
      · rename_i hlt
        refine List.pairwise_cons.2 ⟨fun p hp => ?_, ih h2⟩
        rcases mem_putB hp with rfl | hp
        · rcases ltS_total q.1 s with h | h | h
          · exact h
          · exact absurd h hne
          · exact absurd h hlt
        · exact h1 p hp
theorem sorted_delB {fs : List (ByteArray × ABlob)} (hs : SortedB fs) (s : ByteArray) : SortedB (delB fs s) := List.Pairwise.filter _ hs
theorem length_putB {fs : List (ByteArray × ABlob)} (hs : SortedB fs) (s : ByteArray) (f : ABlob) : (putB fs s f).length = if (kB fs s).isSome then fs.length else fs.length + 1 := by
  induction fs with
  | nil => simp [putB, kB]
  | cons q r ih =>
    obtain ⟨h1, h2⟩ := List.pairwise_cons.1 hs
    simp only [putB, kB_cons]
    split
    · simp
    · rename_i hne
      split
      · rename_i hlt
        have : kB r s = none := by
          cases hl : kB r s with
          | none => rfl
          | some f' => have := ltS_trans hlt (h1 _ (kB_some_mem hl)); rw [ltS_irrefl] at this; cases this
        simp [this]
      · simp only [List.length_cons, ih h2]
        split <;> rfl
theorem length_delB {fs : List (ByteArray × ABlob)} (hs : SortedB fs) (s : ByteArray) : (delB fs s).length = if (kB fs s).isSome then fs.length - 1 else fs.length := by
  induction fs with
  | nil => simp [delB, kB]
  | cons q r ih =>
    obtain ⟨h1, h2⟩ := List.pairwise_cons.1 hs
    unfold delB at *
    rw [kB_cons]
    by_cases hq : q.1 = s
    · rw [List.filter_cons_of_neg (by simp [hq])]
      have : r.filter (fun p => !decide (p.1 = s)) = r := List.filter_eq_self.2 fun p hp => by
        have := ltS_ne (h1 p hp)
        simpa using fun e => this (by rw [hq, e])
      rw [this]
      simp [hq]
    · rw [List.filter_cons_of_pos (by simpa using hq), if_neg hq, List.length_cons, ih h2]
      cases hl : kB r s with
      | none => simp
      | some f =>
        have := List.length_pos_of_mem (kB_some_mem hl)
        simp; omega
end Go.Proofs.YtbepcjajbcecnaaGreatDoor

/-
  Pages on a plain disk: names, an index's bytes, what is read of them, what each call does. No program here.
-/
namespace Go.Proofs.YtbepcjajbcecnaaGreatDoor
open Go.Lib

/-- a file's name: a letter and a number. -/
def pgName (c : UInt8) (n : Nat) : ByteArray := ⟨(c :: decDigits n).toArray⟩
def iName (n : Nat) : ByteArray := pgName 105 n
def cName (n : Nat) : ByteArray := pgName 99 n
def freshI : ByteArray := ⟨#[105, 46, 110, 101, 119]⟩
theorem pgName_inj {c c' : UInt8} {m n : Nat} (h : pgName c m = pgName c' n) : c = c' ∧ m = n := by
  have h2 := congrArg (fun s : ByteArray => s.data.toList) h
  simp only [pgName, List.cons.injEq] at h2
  exact ⟨h2.1, dec_inj h2.2⟩
def pgNum (s : ByteArray) : Option (UInt8 × Nat) :=
  match s.data.toList with
  | [] => none
  | c :: r =>
    match atoiAll r with
    | .ok v => if (c = 105 ∨ c = 99) ∧ 1 ≤ v ∧ v ≤ 9007199254740992 ∧ s = pgName c v.toNat then some (c, v.toNat) else none
    | _ => none
theorem pgNum_name {c : UInt8} {n : Nat} (hc : c = 105 ∨ c = 99) (h0 : 1 ≤ n) (h1 : n ≤ 9007199254740992) : pgNum (pgName c n) = some (c, n) := by
  unfold pgNum
  show (match (c :: decDigits n) with | [] => none | c :: r => match atoiAll r with | .ok v => if (c = 105 ∨ c = 99) ∧ 1 ≤ v ∧ v ≤ 9007199254740992 ∧ pgName _ n = pgName c v.toNat then some (c, v.toNat) else none | _ => none) = _
  simp only [atoiAll_dec h1]
  rw [if_pos ⟨hc, by omega, by omega, by simp⟩]
  simp
theorem pgNum_some {s : ByteArray} {c : UInt8} {n : Nat} (h : pgNum s = some (c, n)) : s = pgName c n ∧ (c = 105 ∨ c = 99) ∧ 1 ≤ n ∧ n ≤ 9007199254740992 := by
  unfold pgNum at h
  split at h
  · cases h
  · split at h
    · split at h
      · rename_i v _ hc
        obtain ⟨h0, h1, h2, h3⟩ := hc
        cases h
        exact ⟨h3, h0, by omega, by omega⟩
      · cases h
    · cases h
theorem pgName_size {c : UInt8} {n : Nat} (h : n ≤ 9007199254740992) : (pgName c n).size ≤ 17 := by
  have := dec_len h
  show (c :: decDigits n).toArray.size ≤ 17
  simp only [List.size_toArray, List.length_cons]
  omega
theorem pgNum_fresh : pgNum freshI = none := by decide +kernel
def okKey (s : ByteArray) : Bool := decide (0 < s.size) && decide (s.size ≤ 60)

/-- a key of an index: its name, its blob's pack, place, length. -/
structure AEnt where
  name : ByteArray
  pack : Nat
  pos : Nat
  long : Nat
def entBytes (name : ByteArray) (pack pos long : Nat) : List UInt8 := vint name.size ++ (name.data.toList ++ (vint pack ++ (vint pos ++ vint long)))
/-- the entry at the beginning of bytes, and how many bytes it takes. -/
def pEnt (l : List UInt8) (k : Nat) : Option (AEnt × Nat) :=
  match gB l 60 with
  | (0, nm, j) =>
    match gU (l.drop j) with
    | (0, p, j1) =>
      match gU (l.drop (j + j1)) with
      | (0, a, j2) =>
        match gU (l.drop (j + j1 + j2)) with
        | (0, m, j3) => if (p ≤ 9007199254740992 ∧ a ≤ 9007199254740992 ∧ m ≤ 9007199254740992) ∧ 0 < nm.length ∧ 1 ≤ p ∧ p ≤ k ∧ m ≤ 1048576 then some (⟨⟨nm.toArray⟩, p, a, m⟩, j + j1 + j2 + j3) else none
        | _ => none
      | _ => none
    | _ => none
  | _ => none
def nextOk (prev : Option ByteArray) (s : ByteArray) : Bool := match prev with | none => true | some t => ltS t s
def pEnts (k : Nat) : Nat → List UInt8 → Option ByteArray → Option (List AEnt × List UInt8)
  | 0, l, _ => some ([], l)
  | n + 1, l, prev =>
    match pEnt l k with
    | none => none
    | some (x, j) => if nextOk prev x.name = false then none else (pEnts k n (l.drop j) (some x.name)).map fun r => (x :: r.1, r.2)
def magicI : List UInt8 := [72, 83, 73, 49]
/-- an index's keys. -/
def pIndex (b : List UInt8) (k : Nat) : Option (List AEnt) :=
  match unsealL sumL b with
  | (0, inn) =>
    if inn.take 4 ≠ magicI then none else
    match gU (inn.drop 4) with
    | (0, x, j) =>
      if x ≠ k then none else
      match gU (inn.drop (4 + j)) with
      | (0, n, j2) =>
        if 4096 < n then none else
        match pEnts k n (inn.drop (4 + j + j2)) none with
        | some (es, []) => some es
        | _ => none
      | _ => none
    | _ => none
  | _ => none
/-- the blobs of an index's keys. -/
def pBlobs (d : ADisk) : List AEnt → Option (List (ByteArray × ABlob))
  | [] => some []
  | x :: r =>
    if findErr d (cName x.pack) ≠ 0 ∨ (d.readBytes (cName x.pack)).length < x.pos + x.long then none
    else (pBlobs d r).map fun l => (x.name, ⟨((d.readBytes (cName x.pack)).drop x.pos).take x.long, x.pack, x.pos⟩) :: l
def pLoad (d : ADisk) (k : Nat) : List (ByteArray × ABlob) × Int :=
  if findErr d (iName k) = 13 then ([], if k = 0 then 0 else 14)
  else if findErr d (iName k) ≠ 0 then ([], findErr d (iName k))
  else if k = 0 then ([], 0)
  else match pIndex (d.readBytes (iName k)) k with
    | none => ([], 14)
    | some es => match pBlobs d es with
      | none => ([], 14)
      | some l => (l, 0)
/-- what a store holds beside its disk. -/
structure AStore where
  k : Nat
  keys : List (ByteArray × ABlob)
  held : List Nat
  over : Bool
/-- a list without doubles. -/
def once : List Nat → List Nat
  | [] => []
  | x :: r => if x ∈ r then once r else x :: once r
def packsOf (l : List (ByteArray × ABlob)) : List Nat := once ((l.map (·.2.pack)).filter fun n => decide (0 < n))
def pOther (k : Nat) (held : List Nat) (s : ByteArray) : Bool :=
  if s = freshI then true else match pgNum s with
    | none => false
    | some (c, n) => if c = 105 then decide (n ≠ k) else decide (n ∉ held)
def pFreeL (k : Nat) (held : List Nat) (d : ADisk) : List ByteArray → ADisk × List ByteArray × Int
  | [] => (d, [], 0)
  | s :: r =>
    if pOther k held s then
      if d.removeErr s ≠ 0 then (d.remove s, [], d.removeErr s)
      else ((pFreeL k held (d.remove s) r).1, s :: (pFreeL k held (d.remove s) r).2.1, (pFreeL k held (d.remove s) r).2.2)
    else pFreeL k held d r
def pFree (d : ADisk) (k : Nat) (held : List Nat) : ADisk × List ByteArray × Int := pFreeL k held d d.names
def pOpen (d : ADisk) (k : Int) : ADisk × AStore × Int :=
  if k < 0 ∨ 9007199254740992 < k then (d, ⟨0, [], [], false⟩, 2)
  else if (pLoad d k.toNat).2 ≠ 0 then (d, ⟨0, [], [], false⟩, (pLoad d k.toNat).2)
  else
    let l := (pLoad d k.toNat).1
    let r := pFree d k.toNat (packsOf l)
    if r.2.2 ≠ 0 then (r.1, ⟨0, [], [], false⟩, r.2.2) else (r.1, ⟨k.toNat, l, packsOf l, false⟩, 0)
def AStore.ends (st : AStore) (e : Int) : AStore := { st with over := decide (e ≠ 0) }
def pPut (st : AStore) (s : ByteArray) (b : List UInt8) : AStore × Int :=
  if st.over then (st, 16) else if okKey s = false then (st, 2) else if 1048576 < b.length then (st, 3) else if kB st.keys s = none ∧ 4096 ≤ st.keys.length then (st, 5)
  else ({ st with keys := putB st.keys s ⟨b, 0, 0⟩ }, 0)
def pDrop (st : AStore) (s : ByteArray) : AStore × Int :=
  if st.over then (st, 16) else if okKey s = false then (st, 2) else ({ st with keys := delB st.keys s }, 0)
/-- what a commit makes of the keys: them with their places, the new pack, whether there is one. -/
def cmKeys (all : Bool) (k : Nat) : List (ByteArray × ABlob) → List UInt8 → List (ByteArray × ABlob) × List UInt8 × Bool
  | [], pack => ([], pack, false)
  | (s, x) :: r, pack =>
    if all || decide (x.pack = 0) then
      ((s, ⟨x.b, k, pack.length⟩) :: (cmKeys all k r (pack ++ x.b)).1, (cmKeys all k r (pack ++ x.b)).2.1, true)
    else ((s, x) :: (cmKeys all k r pack).1, (cmKeys all k r pack).2.1, (cmKeys all k r pack).2.2)
def entsOf (l : List (ByteArray × ABlob)) : List UInt8 := l.flatMap fun p => entBytes p.1 p.2.pack p.2.pos p.2.b.length
def indexOf (k : Nat) (l : List (ByteArray × ABlob)) : List UInt8 := sealL sumL (magicI ++ (vint k ++ (vint l.length ++ entsOf l)))
def goneS (s : ByteArray) (d : ADisk) : ADisk × Int := (d.remove s, if d.removeErr s = 13 then 0 else d.removeErr s)
def appS (s : ByteArray) (b : List UInt8) (d : ADisk) : ADisk × Int := (d.append s b, d.appendErr s b)
def synS (s : ByteArray) (d : ADisk) : ADisk × Int := (d.sync s, d.syncErr s)
def renS (s t : ByteArray) (d : ADisk) : ADisk × Int := (d.rename s t, d.renameErr s t)
def runS : List (ADisk → ADisk × Int) → ADisk → ADisk × Int
  | [], d => (d, 0)
  | f :: r, d => if (f d).2 ≠ 0 then f d else runS r (f d).1
def fileS (s : ByteArray) (b : List UInt8) : List (ADisk → ADisk × Int) := [goneS s, appS s b, synS s]
def pCommit (d : ADisk) (st : AStore) : ADisk × AStore × Nat × Int :=
  if st.over then (d, st, 0, 16) else if st.k = 9007199254740992 then (d, st, 0, 2)
  else
    let k := st.k + 1
    let c := cmKeys (decide (15 < (packsOf st.keys).length)) k st.keys []
    let r := runS ((if c.2.2 then fileS (cName k) c.2.1 else []) ++ (fileS freshI (indexOf k c.1) ++ [renS freshI (iName k)])) d
    if r.2 ≠ 0 then (r.1, st.ends r.2, 0, r.2) else (r.1, ⟨k, c.1, packsOf c.1, false⟩, k, 0)
def pFreeC (d : ADisk) (st : AStore) : ADisk × AStore × List ByteArray × Int :=
  if st.over then (d, st, [], 16) else ((pFree d st.k st.held).1, st.ends (pFree d st.k st.held).2.2, (pFree d st.k st.held).2.1, (pFree d st.k st.held).2.2)
end Go.Proofs.YtbepcjajbcecnaaGreatDoor

/-
  Pages, plain: an index is read as it was written. No program here.
-/
namespace Go.Proofs.YtbepcjajbcecnaaGreatDoor
open Go.Lib

theorem drop_len_app {α : Type} (a b : List α) : (a ++ b).drop a.length = b := by simp
theorem drop_more {α : Type} (a b : List α) (n : Nat) (hn : n = a.length) : (a ++ b).drop n = b := by subst hn; simp
theorem name_back (s : ByteArray) : (⟨s.data.toList.toArray⟩ : ByteArray) = s := by cases s; simp
structure EntOk (k : Nat) (s : ByteArray) (pack pos long : Nat) : Prop where
  n0 : 0 < s.size
  n1 : s.size ≤ 60
  p0 : 1 ≤ pack
  p1 : pack ≤ k
  pg : pack ≤ 9007199254740992
  a1 : pos ≤ 9007199254740992
  l1 : long ≤ 1048576
theorem size_list (s : ByteArray) : s.data.toList.length = s.size := by simp
theorem pEnt_put {k : Nat} {s : ByteArray} {pack pos long : Nat} (h : EntOk k s pack pos long) (r : List UInt8) : pEnt (entBytes s pack pos long ++ r) k = some (⟨s, pack, pos, long⟩, (entBytes s pack pos long).length) := by
  have h0 := h.n0; have h1 := h.n1; have h2 := h.p0; have h3 := h.p1; have h4 := h.pg; have h5 := h.a1; have h6 := h.l1
  have hs := size_list s
  have e1 : gB (entBytes s pack pos long ++ r) 60 = (0, s.data.toList, (vint s.size).length + s.data.toList.length) := by
    have := gB_put s.data.toList ((vint pack ++ (vint pos ++ vint long)) ++ r) 60 (by omega) (by omega)
    rw [hs] at this
    unfold entBytes
    simp only [List.append_assoc] at this ⊢
    rw [this, hs]
  have d1 : (entBytes s pack pos long ++ r).drop ((vint s.size).length + s.data.toList.length) = vint pack ++ (vint pos ++ (vint long ++ r)) := by
    have e : entBytes s pack pos long ++ r = (vint s.size ++ s.data.toList) ++ (vint pack ++ (vint pos ++ (vint long ++ r))) := by unfold entBytes; simp only [List.append_assoc]
    rw [e]; exact drop_more _ _ _ (by rw [List.length_append])
  have d2 : (entBytes s pack pos long ++ r).drop ((vint s.size).length + s.data.toList.length + (vint pack).length) = vint pos ++ (vint long ++ r) := by
    rw [← List.drop_drop, d1]; exact drop_len_app _ _
  have d3 : (entBytes s pack pos long ++ r).drop ((vint s.size).length + s.data.toList.length + (vint pack).length + (vint pos).length) = vint long ++ r := by
    rw [← List.drop_drop, d2]; exact drop_len_app _ _
  unfold pEnt
  rw [e1]
  simp only
  rw [d1, gU_vint pack _ (by omega)]
  simp only
  rw [d2, gU_vint pos _ (by omega)]
  simp only
  rw [d3, gU_vint long _ (by omega)]
  simp only
  rw [if_pos ⟨⟨by omega, by omega, by omega⟩, by omega, by omega, by omega, by omega⟩, name_back]
  congr 2
  unfold entBytes
  simp only [List.length_append]
  omega
def entOf (p : ByteArray × ABlob) : AEnt := ⟨p.1, p.2.pack, p.2.pos, p.2.b.length⟩
def EntsOk (k : Nat) (l : List (ByteArray × ABlob)) : Prop := ∀ p ∈ l, EntOk k p.1 p.2.pack p.2.pos p.2.b.length
theorem entsOf_cons (p : ByteArray × ABlob) (l : List (ByteArray × ABlob)) : entsOf (p :: l) = entBytes p.1 p.2.pack p.2.pos p.2.b.length ++ entsOf l := by simp [entsOf]
theorem pEnts_put {k : Nat} {l : List (ByteArray × ABlob)} (h : EntsOk k l) (hs : SortedB l) (r : List UInt8) (prev : Option ByteArray) (hp : ∀ s, prev = some s → ∀ p ∈ l, ltS s p.1 = true) : pEnts k l.length (entsOf l ++ r) prev = some (l.map entOf, r) := by
  induction l generalizing prev with
  | nil => rfl
  | cons p l ih =>
    obtain ⟨h1, h2⟩ := List.pairwise_cons.1 hs
    have hi := ih (fun q hq => h q (by simp [hq])) h2 (some p.1) (fun s e q hq => by cases e; exact h1 q hq)
    have hn : nextOk prev p.1 = true := by
      cases prev with
      | none => rfl
      | some t => exact hp t rfl p (by simp)
    rw [entsOf_cons, List.append_assoc, List.length_cons]
    unfold pEnts
    rw [pEnt_put (h p (by simp))]
    simp only [hn]
    rw [drop_len_app, hi]
    rfl
theorem pIndex_put {k : Nat} {l : List (ByteArray × ABlob)} (h : EntsOk k l) (hs : SortedB l) (hl : l.length ≤ 4096) (hk : k ≤ 9007199254740992) : pIndex (indexOf k l) k = some (l.map entOf) := by
  unfold pIndex indexOf
  rw [unseal_seal sumL_len]
  simp only
  have e4 : (magicI ++ (vint k ++ (vint l.length ++ entsOf l))).take 4 = magicI := rfl
  have d4 : (magicI ++ (vint k ++ (vint l.length ++ entsOf l))).drop 4 = vint k ++ (vint l.length ++ entsOf l) := rfl
  rw [if_neg (by rw [e4]; simp), d4, gU_vint k _ (by omega)]
  simp only
  rw [if_neg (by simp), ← List.drop_drop, d4, drop_len_app, gU_vint l.length _ (by omega)]
  simp only
  rw [if_neg (by omega), Nat.add_assoc, ← List.drop_drop, d4, ← List.drop_drop, drop_len_app, drop_len_app]
  have := pEnts_put h hs [] none (fun s e => by cases e)
  rw [List.append_nil] at this
  rw [this]
end Go.Proofs.YtbepcjajbcecnaaGreatDoor

/-
  Pages, plain: commits that lie on a disk; they are loaded; what is not of them goes. No program here.
-/
namespace Go.Proofs.YtbepcjajbcecnaaGreatDoor
open Go.Lib

/-- a blob lies firm in its pack. -/
def BlobAt (d : ADisk) (x : ABlob) : Prop := ∃ c, lk d.fs (cName x.pack) = some ⟨c, []⟩ ∧ x.pos + x.b.length ≤ c.length ∧ (c.drop x.pos).take x.b.length = x.b
/-- a commit lies on a disk, all of it firm. -/
structure Has (d : ADisk) (k : Nat) (l : List (ByteArray × ABlob)) : Prop where
  sorted : SortedB l
  count : l.length ≤ 4096
  ents : EntsOk k l
  kG : k ≤ 9007199254740992
  zero : k = 0 → l = []
  index : k ≠ 0 → lk d.fs (iName k) = some ⟨indexOf k l, []⟩
  blobs : ∀ p ∈ l, BlobAt d p.2
theorem has_zero (d : ADisk) : Has d 0 [] := ⟨List.Pairwise.nil, by simp, fun p hp => (by cases hp), by omega, fun _ => rfl, fun h => absurd rfl h, fun p hp => (by cases hp)⟩
theorem Has.same {d d' : ADisk} {k : Nat} {l : List (ByteArray × ABlob)} (h : Has d k l) (h1 : k ≠ 0 → lk d'.fs (iName k) = lk d.fs (iName k)) (h2 : ∀ p ∈ l, lk d'.fs (cName p.2.pack) = lk d.fs (cName p.2.pack)) : Has d' k l :=
  ⟨h.sorted, h.count, h.ents, h.kG, h.zero, fun hk => (h1 hk).trans (h.index hk), fun p hp => by obtain ⟨c, c1, c2⟩ := h.blobs p hp; exact ⟨c, (h2 p hp).trans c1, c2⟩⟩
theorem read_firm {d : ADisk} (hd : d.down = false) {s : ByteArray} {c : List UInt8} (h : lk d.fs s = some ⟨c, []⟩) : findErr d s = 0 ∧ d.readBytes s = c := by
  have h0 : findErr d s = 0 := by unfold findErr; rw [if_neg (by simp [hd]), h]; rfl
  refine ⟨h0, ?_⟩
  unfold ADisk.readBytes afile
  rw [if_pos h0, h]
  simp
theorem pBlobs_of {d : ADisk} (hd : d.down = false) {l : List (ByteArray × ABlob)} (h : ∀ p ∈ l, BlobAt d p.2) : pBlobs d (l.map entOf) = some l := by
  induction l with
  | nil => rfl
  | cons p l ih =>
    obtain ⟨c, c1, c2, c3⟩ := h p (by simp)
    obtain ⟨r1, r2⟩ := read_firm hd c1
    rw [List.map_cons]
    unfold pBlobs
    show (if findErr d (cName p.2.pack) ≠ 0 ∨ (d.readBytes (cName p.2.pack)).length < p.2.pos + p.2.b.length then none else _) = _
    rw [r2, if_neg (by omega), ih (fun q hq => h q (by simp [hq]))]
    simp only [Option.map_some, entOf]
    rw [r2, c3]
theorem Has.load {d : ADisk} {k : Nat} {l : List (ByteArray × ABlob)} (h : Has d k l) (hd : d.down = false) : pLoad d k = (l, 0) := by
  unfold pLoad
  by_cases hk : k = 0
  · have := h.zero hk
    subst hk; subst this
    by_cases h13 : findErr d (iName 0) = 13
    · rw [if_pos h13]; rfl
    · have h0 : findErr d (iName 0) = 0 := by
        unfold findErr at h13 ⊢
        rw [if_neg (by simp [hd])] at h13 ⊢
        split at h13
        · exact absurd rfl h13
        · rename_i hx; rw [if_neg hx]
      rw [if_neg h13, if_neg (by rw [h0]; simp), if_pos rfl]
  · obtain ⟨r1, r2⟩ := read_firm hd (h.index hk)
    rw [r1, if_neg (by decide), if_neg (by simp), if_neg hk, r2, pIndex_put h.ents h.sorted h.count h.kG]
    simp only
    rw [pBlobs_of hd h.blobs]
theorem once_mem {l : List Nat} {n : Nat} : n ∈ once l ↔ n ∈ l := by
  induction l with
  | nil => simp [once]
  | cons x r ih =>
    unfold once
    split
    · rename_i hx
      rw [ih]
      constructor
      · intro h; exact List.mem_cons_of_mem _ h
      · intro h
        rcases List.mem_cons.1 h with rfl | h
        · exact hx
        · exact h
    · rw [List.mem_cons, List.mem_cons, ih]
theorem once_nodup (l : List Nat) : (once l).Nodup := by
  induction l with
  | nil => simp [once]
  | cons x r ih =>
    unfold once
    split
    · exact ih
    · rename_i hx
      exact List.nodup_cons.2 ⟨fun h => hx (once_mem.1 h), ih⟩
theorem once_le (l : List Nat) : (once l).length ≤ l.length := by
  induction l with
  | nil => simp [once]
  | cons x r ih =>
    unfold once
    split
    · simp only [List.length_cons]; omega
    · simp only [List.length_cons]; omega
theorem packsOf_mem {l : List (ByteArray × ABlob)} {n : Nat} : n ∈ packsOf l ↔ 0 < n ∧ ∃ p ∈ l, p.2.pack = n := by
  unfold packsOf
  rw [once_mem, List.mem_filter, List.mem_map]
  simp only [decide_eq_true_eq]
  constructor
  · rintro ⟨⟨p, hp, he⟩, h0⟩; exact ⟨h0, p, hp, he⟩
  · rintro ⟨h0, p, hp, he⟩; exact ⟨⟨p, hp, he⟩, h0⟩
theorem packsOf_le (l : List (ByteArray × ABlob)) : (packsOf l).length ≤ l.length := by
  unfold packsOf
  refine Nat.le_trans (once_le _) (Nat.le_trans (List.length_filter_le _ _) ?_)
  rw [List.length_map]; exact Nat.le_refl _
/-- what is left of a disk whose other files go. -/
structure FreeRes (d : ADisk) (k : Nat) (held : List Nat) (names : List ByteArray) (d' : ADisk) (out : List ByteArray) : Prop where
  up : d'.down = false
  sorted : SortedF d'.fs
  gone : ∀ u, u ∈ names → pOther k held u = true → lk d'.fs u = none
  kept : ∀ u, (u ∉ names ∨ pOther k held u = false) → lk d'.fs u = lk d.fs u
  left : d.left = -1 → d'.left = -1
  out : out = names.filter (pOther k held)
  grow : Grow d d' 0 0
theorem free_ok {d : ADisk} (k : Nat) (held : List Nat) (hs : SortedF d.fs) (hd : d.down = false) (hl : d.left = -1) (names : List ByteArray) (hn : ∀ s ∈ names, lk d.fs s ≠ none) (hnd : names.Nodup) :
    ∃ d', pFreeL k held d names = (d', names.filter (pOther k held), 0) ∧ FreeRes d k held names d' (names.filter (pOther k held)) ∧ d'.most = d.most := by
  induction names generalizing d with
  | nil => exact ⟨d, rfl, ⟨hd, hs, fun u hu => (by cases hu), fun u _ => rfl, fun h => h, rfl, Grow.refl d⟩, rfl⟩
  | cons s r ih =>
    obtain ⟨hsr, hr⟩ := List.nodup_cons.1 hnd
    unfold pFreeL
    by_cases ho : pOther k held s = true
    · rw [if_pos ho]
      cases hf : lk d.fs s with
      | none => exact absurd hf (hn s (by simp))
      | some f =>
        rcases remove_cases hs hd hf with ⟨h0, _⟩ | ⟨_, e1, e2, e3, e4, e5⟩
        · omega
        · rw [if_neg (by rw [e1]; simp)]
          have hm : (d.remove s).most = d.most := by
            unfold ADisk.remove
            repeat' split
            all_goals rfl
          obtain ⟨d', h1, h2, h3⟩ := ih e3 e2 (e5 hl) (fun t ht => by
            rw [e4, if_neg (by rintro rfl; exact hsr ht)]; exact hn t (by simp [ht])) hr
          rw [h1]
          refine ⟨d', by rw [List.filter_cons_of_pos ho], ⟨h2.up, h2.sorted, fun u hu hp => ?_, fun u hu => ?_, fun _ => h2.left (e5 hl), rfl, by simpa using (remove_grow hs s).trans h2.grow⟩, h3.trans hm⟩
          · by_cases hur : u ∈ r
            · exact h2.gone u hur hp
            · rw [h2.kept u (Or.inl hur), e4]
              rcases List.mem_cons.1 hu with hu | hu
              · rw [if_pos hu]
              · exact absurd hu hur
          · have hus : u ≠ s := by
              rintro rfl
              rcases hu with hu | hu
              · exact hu (by simp)
              · rw [ho] at hu; cases hu
            rw [h2.kept u (hu.imp (fun h hr => h (by simp [hr])) id), e4, if_neg hus]
    · rw [if_neg ho]
      obtain ⟨d', h1, h2, h3⟩ := ih hs hd hl (fun t ht => hn t (by simp [ht])) hr
      rw [h1]
      refine ⟨d', by rw [List.filter_cons_of_neg ho], ⟨h2.up, h2.sorted, fun u hu hp => ?_, fun u hu => ?_, h2.left, by rw [List.filter_cons_of_neg ho], h2.grow⟩, h3⟩
      · rcases List.mem_cons.1 hu with rfl | hu
        · exact absurd hp ho
        · exact h2.gone u hu hp
      · by_cases hp : pOther k held u = false
        · exact h2.kept u (Or.inr hp)
        · exact h2.kept u (Or.inl (fun hr => hu.elim (fun h => h (by simp [hr])) hp))
theorem other_index (k : Nat) (held : List Nat) (hk1 : 1 ≤ k) (hk : k ≤ 9007199254740992) : pOther k held (iName k) = false := by
  unfold pOther
  rw [if_neg (by
    intro e
    have := pgNum_name (c := 105) (n := k) (Or.inl rfl) hk1 hk
    rw [show pgName 105 k = iName k from rfl, e, pgNum_fresh] at this
    cases this)]
  rw [show pgNum (iName k) = some (105, k) from pgNum_name (Or.inl rfl) hk1 hk]
  simp
theorem other_pack (k : Nat) (held : List Nat) (n : Nat) (h1 : 1 ≤ n) (hn : n ≤ 9007199254740992) : pOther k held (cName n) = decide (n ∉ held) := by
  unfold pOther
  rw [if_neg (by
    intro e
    have := pgNum_name (c := 99) (n := n) (Or.inr rfl) h1 hn
    rw [show pgName 99 n = cName n from rfl, e, pgNum_fresh] at this
    cases this)]
  rw [show pgNum (cName n) = some (99, n) from pgNum_name (Or.inr rfl) h1 hn]
  simp
theorem names_nodup {fs : List (ByteArray × AFile)} (hs : SortedF fs) : (fs.map (·.1)).Nodup := by
  rw [List.Nodup, List.pairwise_map]
  exact hs.imp (fun h => ltS_ne h)
theorem names_lk {d : ADisk} {s : ByteArray} (h : s ∈ d.names) : lk d.fs s ≠ none := by
  intro e
  obtain ⟨p, hp, he⟩ := List.mem_map.1 h
  exact lk_none_not e p hp he
theorem lk_names {d : ADisk} {s : ByteArray} (h : lk d.fs s ≠ none) : s ∈ d.names := by
  cases hl : lk d.fs s with
  | none => exact absurd hl h
  | some f => exact List.mem_map.2 ⟨(s, f), lk_some_mem hl, rfl⟩
/-- Open of a commit that lies on a disk that is up. -/
theorem Has.open {d : ADisk} {k : Nat} {l : List (ByteArray × ABlob)} (h : Has d k l) (hs : SortedF d.fs) (hd : d.down = false) (hl : d.left = -1) :
    ∃ d' out, pOpen d (k : Int) = (d', ⟨k, l, packsOf l, false⟩, 0) ∧ FreeRes d k (packsOf l) d.names d' out ∧ Has d' k l ∧ d'.left = -1 ∧ d'.most = d.most := by
  obtain ⟨d', h1, h2, h3⟩ := free_ok k (packsOf l) hs hd hl d.names (fun s => names_lk) (names_nodup hs)
  have hkG := h.kG
  refine ⟨d', _, ?_, h2, h.same (fun hk => ?_) (fun p hp => ?_), h2.left hl, h3⟩
  · unfold pOpen pFree
    rw [if_neg (by omega), Int.toNat_natCast, h.load hd]
    simp only
    rw [if_neg (by simp), h1]
    simp
  · exact h2.kept _ (Or.inr (other_index k _ (by omega) hkG))
  · have he := h.ents p hp
    refine h2.kept _ (Or.inr ?_)
    rw [other_pack k _ _ he.p0 he.pg]
    exact decide_eq_false (fun e => e (packsOf_mem.2 ⟨by have := he.p0; omega, p, hp, rfl⟩))
end Go.Proofs.YtbepcjajbcecnaaGreatDoor

/-
  Pages, plain: the steps of a commit upon a disk. No program here.
-/
namespace Go.Proofs.YtbepcjajbcecnaaGreatDoor
open Go.Lib

theorem pgName_ok {c : UInt8} (hc : okLetter c = true) {n : Nat} (h : n ≤ 9007199254740992) : okName (pgName c n) = true := by
  have h1 := pgName_size (c := c) h
  have h2 : (pgName c n).data.toList.all okLetter = true := by
    show (c :: decDigits n).all okLetter = true
    rw [List.all_cons, Bool.and_eq_true]
    exact ⟨hc, List.all_eq_true.2 (fun b hb => digit_letter b (dec_digit hb))⟩
  have h3 : 0 < (pgName c n).size := by
    show 0 < (c :: decDigits n).toArray.size
    simp
  unfold okName
  rw [h2, decide_eq_true h3, decide_eq_true (by omega : (pgName c n).size ≤ 40)]
  rfl
theorem iName_ok {n : Nat} (h : n ≤ 9007199254740992) : okName (iName n) = true := pgName_ok (by decide) h
theorem cName_ok {n : Nat} (h : n ≤ 9007199254740992) : okName (cName n) = true := pgName_ok (by decide) h
theorem freshI_ok : okName freshI = true := by decide
theorem ic_ne (m n : Nat) : iName m ≠ cName n := fun e => by have := (pgName_inj e).1; cases this
theorem i_fresh (n : Nat) : iName n ≠ freshI := by
  intro e
  have h := congrArg (fun s : ByteArray => s.data.toList) e
  have h2 : (105 :: decDigits n) = [105, 46, 110, 101, 119] := h
  have h3 : (46 : UInt8) ∈ decDigits n := by
    have : decDigits n = [46, 110, 101, 119] := (List.cons.inj h2).2
    rw [this]; simp
  have := dec_digit h3
  simp at this
theorem c_fresh (n : Nat) : cName n ≠ freshI := by
  intro e
  have h := congrArg (fun s : ByteArray => s.data.toList) e
  have h2 : (99 :: decDigits n) = [105, 46, 110, 101, 119] := h
  have := (List.cons.inj h2).1
  cases this
/-- a step: it failed, and of all other files nothing is changed; or it is done. -/
structure StepOk (d d' : ADisk) (a k : Nat) : Prop where
  up : d'.down = false
  sorted : SortedF d'.fs
  left : d.left = -1 → d'.left = -1
  grow : Grow d d' a k
structure StepBad (d d' : ADisk) (P : ByteArray → Prop) (a k : Nat) : Prop where
  sorted : SortedF d'.fs
  lk : ∀ u, ¬ P u → lk d'.fs u = lk d.fs u
  why : Why d a k
theorem StepOk.trans {d d1 d2 : ADisk} {a b k j : Nat} (h : StepOk d d1 a k) (g : StepOk d1 d2 b j) : StepOk d d2 (a + b) (k + j) := ⟨g.up, g.sorted, fun e => g.left (h.left e), h.grow.trans g.grow⟩
theorem gone_step {d : ADisk} (hs : SortedF d.fs) (hd : d.down = false) (s : ByteArray) :
    ((goneS s d).2 = 0 ∧ StepOk d (goneS s d).1 0 0 ∧ ∀ u, lk (goneS s d).1.fs u = if u = s then none else lk d.fs u) ∨ ((goneS s d).2 ≠ 0 ∧ d.left ≠ -1 ∧ StepBad d (goneS s d).1 (· = s) 0 0) := by
  unfold goneS
  cases hl : lk d.fs s with
  | none =>
    have e1 : d.removeErr s = 13 := by unfold ADisk.removeErr; rw [if_neg (by simp [hd]), if_pos (by rw [hl]; rfl)]
    have e2 : d.remove s = d := by unfold ADisk.remove; rw [if_neg (by simp [hd]), if_pos (by rw [hl]; rfl)]
    left
    rw [e1, e2]
    refine ⟨rfl, ⟨hd, hs, fun h => h, Grow.refl d⟩, fun u => ?_⟩
    by_cases hu : u = s
    · rw [if_pos hu, hu, hl]
    · rw [if_neg hu]
  | some f =>
    rcases remove_cases hs hd hl with ⟨h0, e1, e2⟩ | ⟨h0, e1, e2, e3, e4, e5⟩
    · right
      rw [e1, e2]
      exact ⟨by simp, by omega, hs, fun u _ => rfl, Or.inl (by omega)⟩
    · left
      rw [e1]
      exact ⟨rfl, ⟨e2, e3, e5, remove_grow hs s⟩, e4⟩
theorem app_step {d : ADisk} (hs : SortedF d.fs) (hd : d.down = false) {s : ByteArray} (hn : okName s = true) (hl : lk d.fs s = none) (b : List UInt8) :
    ((appS s b d).2 = 0 ∧ StepOk d (appS s b d).1 b.length 1 ∧ ∀ u, lk (appS s b d).1.fs u = if u = s then some ⟨[], b⟩ else lk d.fs u) ∨ ((appS s b d).2 ≠ 0 ∧ StepBad d (appS s b d).1 (· = s) b.length 0) := by
  unfold appS
  have ha : afile d s = ⟨[], []⟩ := by unfold afile; rw [hl]; rfl
  rcases app_cases hs hd hn b with ⟨e1, e2, e3, e4⟩ | ⟨e1, e2, e3, e4, e5⟩
  · exact Or.inr ⟨e1, e2, fun u _ => e3 u, e4⟩
  · rw [ha] at e4
    exact Or.inl ⟨e1, ⟨e2, e3, e5, append_grow hs s b⟩, e4⟩
theorem syn_step {d : ADisk} (hs : SortedF d.fs) (hd : d.down = false) {s : ByteArray} {f : AFile} (hl : lk d.fs s = some f) :
    ((synS s d).2 = 0 ∧ StepOk d (synS s d).1 0 0 ∧ ∀ u, lk (synS s d).1.fs u = if u = s then some ⟨f.firm ++ f.loose, []⟩ else lk d.fs u) ∨ ((synS s d).2 ≠ 0 ∧ d.left ≠ -1 ∧ StepBad d (synS s d).1 (· = s) 0 0) := by
  unfold synS
  rcases sync_cases hs hd hl with ⟨h0, e1, e2⟩ | ⟨h0, e1, e2, e3, e4, e5⟩
  · right
    rw [e1, e2]
    exact ⟨by simp, by omega, hs, fun u _ => rfl, Or.inl (by omega)⟩
  · exact Or.inl ⟨e1, ⟨e2, e3, e5, sync_grow hs s⟩, e4⟩
theorem ren_step {d : ADisk} (hs : SortedF d.fs) (hd : d.down = false) {s t : ByteArray} {f : AFile} (hl : lk d.fs s = some f) (ht : okName t = true) :
    ((renS s t d).2 = 0 ∧ StepOk d (renS s t d).1 0 0 ∧ ∀ u, lk (renS s t d).1.fs u = if u = t then some f else if u = s then none else lk d.fs u) ∨ ((renS s t d).2 ≠ 0 ∧ d.left ≠ -1 ∧ StepBad d (renS s t d).1 (fun u => u = s ∨ u = t) 0 0) := by
  unfold renS
  have ha : afile d s = f := by unfold afile; rw [hl]; rfl
  have e1 : d.renameErr s t = d.err := by unfold ADisk.renameErr; rw [if_neg (by simp [hd]), if_neg (by rw [hl]; simp), if_neg (by simp [ht])]
  have e2 : d.rename s t = if d.left = 0 then d.fail else { d.tick with fs := putF (delF d.fs s) t f } := by unfold ADisk.rename; rw [if_neg (by simp [hd]), if_neg (by rw [hl]; simp), if_neg (by simp [ht]), ha]
  rw [e1, e2]
  unfold ADisk.err
  by_cases h0 : d.left = 0
  · right
    rw [if_pos h0, if_pos h0]
    exact ⟨by simp, by omega, hs, fun u _ => rfl, Or.inl (by omega)⟩
  · left
    rw [if_neg h0, if_neg h0]
    have hsd := sorted_delF hs s
    refine ⟨rfl, ⟨rfl, sorted_putF hsd _ _, fun hl => ?_, rfl, ?_, ?_⟩, fun u => ?_⟩
    · show max (d.left - 1) (-1) = -1
      rw [hl]; rfl
    · show usedF (putF (delF d.fs s) t f) ≤ _
      have a1 := used_putF hsd t f
      have a2 := used_delF hs s
      rw [hl] at a2
      simp only [Option.map_some, Option.getD_some] at a2
      omega
    · show (putF (delF d.fs s) t f).length ≤ _
      have a1 := length_putF hsd t f
      have a2 := length_delF hs s
      rw [hl] at a2
      simp only [Option.isSome_some, if_true] at a2
      have a3 := List.length_pos_of_mem (lk_some_mem hl)
      split at a1 <;> omega
    · show lk (putF (delF d.fs s) t f) u = _
      rw [lk_putF, lk_delF]
theorem runS_cons (f : ADisk → ADisk × Int) (r : List (ADisk → ADisk × Int)) (d : ADisk) : runS (f :: r) d = if (f d).2 ≠ 0 then f d else runS r (f d).1 := rfl
/-- a file of some bytes alone, synced; then what follows. -/
theorem file_steps {d : ADisk} (hs : SortedF d.fs) (hd : d.down = false) {s : ByteArray} (hn : okName s = true) (b : List UInt8) (rest : List (ADisk → ADisk × Int)) :
    (∃ d1, runS (fileS s b ++ rest) d = runS rest d1 ∧ StepOk d d1 b.length 1 ∧ ∀ u, lk d1.fs u = if u = s then some ⟨b, []⟩ else lk d.fs u) ∨
      (∃ d1 e, runS (fileS s b ++ rest) d = (d1, e) ∧ e ≠ 0 ∧ StepBad d d1 (· = s) b.length 0 ) := by
  show (∃ d1, runS (goneS s :: appS s b :: synS s :: rest) d = _ ∧ _) ∨ (∃ d1 e, runS (goneS s :: appS s b :: synS s :: rest) d = _ ∧ _)
  rw [runS_cons]
  rcases gone_step hs hd s with ⟨a1, a2, a3⟩ | ⟨a1, _, a2⟩
  · rw [if_neg (by simp [a1]), runS_cons]
    rcases app_step a2.sorted a2.up hn (by rw [a3, if_pos rfl]) b with ⟨b1, b2, b3⟩ | ⟨b1, b2⟩
    · rw [if_neg (by simp [b1]), runS_cons]
      have hb := b3 s
      rw [if_pos rfl] at hb
      rcases syn_step b2.sorted b2.up hb with ⟨c1, c2, c3⟩ | ⟨c1, c0, c2⟩
      · rw [if_neg (by simp [c1])]
        left
        refine ⟨_, rfl, ?_, fun u => ?_⟩
        · have := (a2.trans b2).trans c2
          simpa using this
        · rw [c3]
          by_cases hu : u = s
          · rw [if_pos hu, if_pos hu]; rfl
          · rw [if_neg hu, if_neg hu, b3, if_neg hu, a3, if_neg hu]
      · rw [if_pos c1]
        right
        refine ⟨_, _, rfl, c1, c2.sorted, fun u hu => ?_, ?_⟩
        · exact (c2.lk u hu).trans (by rw [b3, if_neg hu, a3, if_neg hu])
        · exact Or.inl (fun e => c0 (b2.left (a2.left e)))
    · rw [if_pos b1]
      right
      refine ⟨_, _, rfl, b1, b2.sorted, fun u hu => ?_, ?_⟩
      · exact (b2.lk u hu).trans (by rw [a3, if_neg hu])
      · have := b2.why.of a2.grow a2.left
        simpa using this
  · rw [if_pos a1]
    right
    exact ⟨_, _, rfl, a1, a2.sorted, a2.lk, a2.why.mono (Nat.zero_le _) (Nat.le_refl _)⟩
end Go.Proofs.YtbepcjajbcecnaaGreatDoor

/-
  Pages, plain: a commit. No program here.
-/
namespace Go.Proofs.YtbepcjajbcecnaaGreatDoor
open Go.Lib

/-- keys and their bytes alone. -/
def contB (l : List (ByteArray × ABlob)) : List (ByteArray × List UInt8) := l.map fun p => (p.1, p.2.b)
def bytesB (l : List (ByteArray × ABlob)) : Nat := (l.map (·.2.b.length)).sum
structure CmOk (all : Bool) (k : Nat) (l : List (ByteArray × ABlob)) (p0 : List UInt8) (r : List (ByteArray × ABlob) × List UInt8 × Bool) : Prop where
  cont : contB r.1 = contB l
  more : ∃ z, r.2.1 = p0 ++ z
  each : ∀ q ∈ r.1, (q ∈ l ∧ q.2.pack ≠ 0 ∧ all = false) ∨ (q.2.pack = k ∧ r.2.2 = true ∧ q.2.pos + q.2.b.length ≤ r.2.1.length ∧ (r.2.1.drop q.2.pos).take q.2.b.length = q.2.b)
  same : r.2.2 = false → r.2.1 = p0 ∧ r.1 = l
  size : r.2.1.length ≤ p0.length + bytesB l
theorem cm_ok (all : Bool) (k : Nat) (l : List (ByteArray × ABlob)) (p0 : List UInt8) : CmOk all k l p0 (cmKeys all k l p0) := by
  induction l generalizing p0 with
  | nil => exact ⟨rfl, ⟨[], by simp [cmKeys]⟩, fun q hq => (by cases hq), fun _ => ⟨rfl, rfl⟩, by simp [cmKeys, bytesB]⟩
  | cons p l ih =>
    obtain ⟨s, x⟩ := p
    unfold cmKeys
    by_cases hc : (all || decide (x.pack = 0)) = true
    · rw [if_pos hc]
      have h := ih (p0 ++ x.b)
      obtain ⟨z, hz⟩ := h.more
      refine ⟨?_, ⟨x.b ++ z, by rw [hz, List.append_assoc]⟩, fun q hq => ?_, fun e => (by cases e), ?_⟩
      · have := h.cont
        unfold contB at this ⊢
        rw [List.map_cons, List.map_cons, this]
      · rcases List.mem_cons.1 hq with rfl | hq
        · right
          refine ⟨rfl, rfl, ?_, ?_⟩
          · show p0.length + x.b.length ≤ _
            rw [hz]; simp only [List.length_append]; omega
          · show ((cmKeys all k l (p0 ++ x.b)).2.1.drop p0.length).take x.b.length = x.b
            rw [hz, List.append_assoc, drop_len_app, List.take_left]
        · rcases h.each q hq with ⟨a1, a2⟩ | ⟨a1, a2, a3⟩
          · exact Or.inl ⟨List.mem_cons_of_mem _ a1, a2⟩
          · exact Or.inr ⟨a1, rfl, a3⟩
      · have := h.size
        unfold bytesB at this ⊢
        rw [List.length_append] at this
        simp only [List.map_cons, List.sum_cons]
        omega
    · rw [if_neg hc]
      have h := ih p0
      have hx : all = false ∧ x.pack ≠ 0 := by simpa using hc
      refine ⟨?_, h.more, fun q hq => ?_, fun e => ?_, ?_⟩
      · have := h.cont
        unfold contB at this ⊢
        rw [List.map_cons, List.map_cons, this]
      · rcases List.mem_cons.1 hq with rfl | hq
        · exact Or.inl ⟨List.mem_cons_self, hx.2, hx.1⟩
        · rcases h.each q hq with ⟨a1, a2⟩ | a
          · exact Or.inl ⟨List.mem_cons_of_mem _ a1, a2⟩
          · exact Or.inr a
      · obtain ⟨a1, a2⟩ := h.same e
        exact ⟨a1, by rw [a2]⟩
      · have := h.size
        unfold bytesB at this ⊢
        simp only [List.map_cons, List.sum_cons]
        omega
theorem contB_len {l m : List (ByteArray × ABlob)} (h : contB l = contB m) : l.length = m.length := by
  have := congrArg List.length h
  unfold contB at this
  simpa using this
theorem contB_names {l m : List (ByteArray × ABlob)} (h : contB l = contB m) : l.map (·.1) = m.map (·.1) := by
  have := congrArg (List.map Prod.fst) h
  unfold contB at this
  rw [List.map_map, List.map_map] at this
  exact this
theorem sorted_names {l m : List (ByteArray × ABlob)} (h : l.map (·.1) = m.map (·.1)) (hs : SortedB m) : SortedB l := by
  have e : ∀ r : List (ByteArray × ABlob), SortedB r ↔ (r.map (·.1)).Pairwise (fun a b => ltS a b = true) := fun r => by unfold SortedB; rw [List.pairwise_map]
  rw [e] at hs ⊢
  rw [h]; exact hs
theorem contB_mem {l m : List (ByteArray × ABlob)} (h : contB l = contB m) {q : ByteArray × ABlob} (hq : q ∈ l) : ∃ p ∈ m, p.1 = q.1 ∧ p.2.b = q.2.b := by
  have : (q.1, q.2.b) ∈ contB m := by rw [← h]; exact List.mem_map.2 ⟨q, hq, rfl⟩
  obtain ⟨p, hp, e⟩ := List.mem_map.1 this
  simp only [Prod.mk.injEq] at e
  exact ⟨p, hp, e.1, e.2⟩
/-- a store upon a disk, before its commit. -/
structure Sits (d : ADisk) (st : AStore) : Prop where
  sorted : SortedB st.keys
  count : st.keys.length ≤ 4096
  kG : st.k ≤ 9007199254740992
  names : ∀ p ∈ st.keys, okKey p.1 = true ∧ p.2.b.length ≤ 1048576
  old : ∀ p ∈ st.keys, p.2.pack ≠ 0 → p.2.pack ≤ st.k ∧ p.2.pos ≤ 9007199254740992 ∧ BlobAt d p.2
  live : st.over = false
  up : d.down = false
  ds : SortedF d.fs
theorem okKey_iff (s : ByteArray) : okKey s = true ↔ 0 < s.size ∧ s.size ≤ 60 := by unfold okKey; simp
theorem bytesB_le {l : List (ByteArray × ABlob)} {m : Nat} (h : ∀ p ∈ l, p.2.b.length ≤ m) : bytesB l ≤ l.length * m := by
  induction l with
  | nil => simp [bytesB]
  | cons p l ih =>
    have h1 := ih (fun q hq => h q (by simp [hq]))
    have h2 := h p (by simp)
    unfold bytesB at h1 ⊢
    simp only [List.map_cons, List.sum_cons, List.length_cons, Nat.succ_mul]
    omega
/-- what a commit is about: its keys, its pack. -/
def cmOf (st : AStore) : List (ByteArray × ABlob) × List UInt8 × Bool := cmKeys (decide (15 < (packsOf st.keys).length)) (st.k + 1) st.keys []
def cmSize (st : AStore) : Nat := (if (cmOf st).2.2 then (cmOf st).2.1.length else 0) + (indexOf (st.k + 1) (cmOf st).1).length
structure Committed (d : ADisk) (st : AStore) (d' : ADisk) : Prop where
  has : Has d' (st.k + 1) (cmOf st).1
  step : StepOk d d' (cmSize st) 2
  pack : lk d'.fs (cName (st.k + 1)) = if (cmOf st).2.2 then some ⟨(cmOf st).2.1, []⟩ else lk d.fs (cName (st.k + 1))
  fresh : lk d'.fs freshI = none
  other : ∀ u, u ≠ cName (st.k + 1) → u ≠ iName (st.k + 1) → u ≠ freshI → lk d'.fs u = lk d.fs u
def Touched (k : Nat) (u : ByteArray) : Prop := u = cName k ∨ u = iName k ∨ u = freshI
def cmSteps (st : AStore) : List (ADisk → ADisk × Int) :=
  (if (cmOf st).2.2 then fileS (cName (st.k + 1)) (cmOf st).2.1 else []) ++ (fileS freshI (indexOf (st.k + 1) (cmOf st).1) ++ [renS freshI (iName (st.k + 1))])
theorem pCommit_eq {d : ADisk} {st : AStore} (h0 : st.over = false) (hk : st.k ≠ 9007199254740992) : pCommit d st =
    if (runS (cmSteps st) d).2 ≠ 0 then ((runS (cmSteps st) d).1, st.ends (runS (cmSteps st) d).2, 0, (runS (cmSteps st) d).2) else ((runS (cmSteps st) d).1, ⟨st.k + 1, (cmOf st).1, packsOf (cmOf st).1, false⟩, st.k + 1, 0) := by
  unfold pCommit
  rw [if_neg (by rw [h0]; simp), if_neg hk]
  rfl
theorem steps_law {d : ADisk} (st : AStore) (hs : SortedF d.fs) (hd : d.down = false) (hk : st.k < 9007199254740992) :
    (∃ d', runS (cmSteps st) d = (d', 0) ∧ StepOk d d' (cmSize st) 2 ∧ ∀ u, lk d'.fs u = if u = iName (st.k + 1) then some ⟨indexOf (st.k + 1) (cmOf st).1, []⟩ else if u = freshI then none else if u = cName (st.k + 1) ∧ (cmOf st).2.2 = true then some ⟨(cmOf st).2.1, []⟩ else lk d.fs u) ∨
      ∃ d' e, runS (cmSteps st) d = (d', e) ∧ e ≠ 0 ∧ StepBad d d' (Touched (st.k + 1)) (cmSize st) 1 := by
  obtain ⟨K, hK⟩ : ∃ K, st.k + 1 = K := ⟨_, rfl⟩
  have hK1 : K ≤ 9007199254740992 := by omega
  obtain ⟨I, hI⟩ : ∃ I, indexOf K (cmOf st).1 = I := ⟨_, rfl⟩
  obtain ⟨pk, hpk⟩ : ∃ pk, (cmOf st).2.1 = pk := ⟨_, rfl⟩
  obtain ⟨sm, hsm⟩ : ∃ sm, (cmOf st).2.2 = sm := ⟨_, rfl⟩
  have hsz : cmSize st = (if sm then pk.length else 0) + I.length := by unfold cmSize; rw [hK, hI, hpk, hsm]
  have hst : cmSteps st = (if sm then fileS (cName K) pk else []) ++ (fileS freshI I ++ [renS freshI (iName K)]) := by unfold cmSteps; rw [hK, hI, hpk, hsm]
  rw [hst, hsz, hK, hI, hpk, hsm]
  -- the pack
  have h1 : (∃ d1, runS ((if sm then fileS (cName K) pk else []) ++ (fileS freshI I ++ [renS freshI (iName K)])) d = runS (fileS freshI I ++ [renS freshI (iName K)]) d1 ∧ StepOk d d1 (if sm then pk.length else 0) 1 ∧ ∀ u, lk d1.fs u = if u = cName K ∧ sm = true then some ⟨pk, []⟩ else lk d.fs u) ∨
      (∃ d1 e, runS ((if sm then fileS (cName K) pk else []) ++ (fileS freshI I ++ [renS freshI (iName K)])) d = (d1, e) ∧ e ≠ 0 ∧ StepBad d d1 (· = cName K) (if sm then pk.length else 0) 0) := by
    cases sm with
    | false => exact Or.inl ⟨d, rfl, ⟨hd, hs, fun h => h, (Grow.refl d).mono (Nat.zero_le _) (Nat.zero_le _)⟩, fun u => by rw [if_neg (by simp)]⟩
    | true =>
      rcases file_steps hs hd (cName_ok hK1) pk (fileS freshI I ++ [renS freshI (iName K)]) with ⟨d1, a1, a2, a3⟩ | ⟨d1, e, a1, a2, a3⟩
      · refine Or.inl ⟨d1, a1, a2, fun u => ?_⟩
        rw [a3]
        by_cases hu : u = cName K
        · rw [if_pos hu, if_pos ⟨hu, rfl⟩]
        · rw [if_neg hu, if_neg (fun e => hu e.1)]
      · exact Or.inr ⟨d1, e, a1, a2, a3⟩
  rcases h1 with ⟨d1, a1, a2, a3⟩ | ⟨d1, e, a1, a2, a3⟩
  · rw [a1]
    have a3' : ∀ u, ¬ Touched K u → lk d1.fs u = lk d.fs u := fun u hu => by rw [a3, if_neg (fun e => hu (Or.inl e.1))]
    rcases file_steps a2.sorted a2.up freshI_ok I [renS freshI (iName K)] with ⟨d2, b1, b2, b3⟩ | ⟨d2, e, b1, b2, b3⟩
    · rw [b1, runS_cons]
      have b3' : ∀ u, ¬ Touched K u → lk d2.fs u = lk d.fs u := fun u hu => by rw [b3, if_neg (fun e => hu (Or.inr (Or.inr e))), a3' u hu]
      have hf := b3 freshI
      rw [if_pos rfl] at hf
      rcases ren_step b2.sorted b2.up hf (iName_ok hK1) with ⟨c1, c2, c3⟩ | ⟨c1, c0, c2⟩
      · left
        rw [if_neg (by simp [c1])]
        refine ⟨_, rfl, ?_, fun u => ?_⟩
        · have := (a2.trans b2).trans c2
          simpa using this
        · show lk (renS freshI (iName K) d2).1.fs u = _
          rw [c3]
          by_cases hu : u = iName K
          · rw [if_pos hu, if_pos hu]
          · rw [if_neg hu, if_neg hu]
            by_cases hu2 : u = freshI
            · rw [if_pos hu2, if_pos hu2]
            · rw [if_neg hu2, if_neg hu2, b3, if_neg hu2, a3]
      · right
        rw [if_pos c1]
        refine ⟨_, _, rfl, c1, c2.sorted, fun u hu => ?_, Or.inl (fun e => c0 (b2.left (a2.left e)))⟩
        exact (c2.lk u (fun e => hu (by rcases e with e | e; exact Or.inr (Or.inr e); exact Or.inr (Or.inl e)))).trans (b3' u hu)
    · right
      refine ⟨d2, e, b1, b2, b3.sorted, fun u hu => ?_, ?_⟩
      · exact (b3.lk u (fun e => hu (Or.inr (Or.inr e)))).trans (a3' u hu)
      · exact b3.why.of a2.grow a2.left
  · exact Or.inr ⟨d1, e, a1, a2, a3.sorted, fun u hu => a3.lk u (fun e => hu (Or.inl e)), a3.why.mono (Nat.le_add_right _ _) (Nat.zero_le _)⟩
theorem commit_ents {d : ADisk} {st : AStore} (h : Sits d st) (hk : st.k < 9007199254740992) : EntsOk (st.k + 1) (cmOf st).1 ∧ SortedB (cmOf st).1 ∧ (cmOf st).1.length = st.keys.length := by
  have hc : CmOk (decide (15 < (packsOf st.keys).length)) (st.k + 1) st.keys [] (cmOf st) := cm_ok _ _ _ _
  refine ⟨fun q hq => ?_, sorted_names (contB_names hc.cont) h.sorted, contB_len hc.cont⟩
  obtain ⟨p, hp, e1, e2⟩ := contB_mem hc.cont hq
  obtain ⟨n1, n2⟩ := h.names p hp
  obtain ⟨n3, n4⟩ := (okKey_iff _).1 n1
  rw [e1] at n3 n4
  rw [e2] at n2
  rcases hc.each q hq with ⟨a1, a2, _⟩ | ⟨a1, _, a3, _⟩
  · obtain ⟨b1, b2, _⟩ := h.old q a1 a2
    have := h.kG
    exact ⟨n3, n4, by omega, by omega, by omega, b2, n2⟩
  · have h1 := hc.size
    have h2 := bytesB_le (fun p hp => (h.names p hp).2)
    have h3 := h.count
    have h4 : st.keys.length * 1048576 ≤ 4096 * 1048576 := Nat.mul_le_mul_right _ h3
    simp only [List.length_nil] at h1
    exact ⟨n3, n4, by omega, by omega, by omega, by omega, n2⟩
theorem commit_law {d : ADisk} {st : AStore} (h : Sits d st) (hk : st.k < 9007199254740992) :
    (∃ d', pCommit d st = (d', ⟨st.k + 1, (cmOf st).1, packsOf (cmOf st).1, false⟩, st.k + 1, 0) ∧ Committed d st d') ∨
      ∃ d' e, e ≠ 0 ∧ pCommit d st = (d', st.ends e, 0, e) ∧ StepBad d d' (Touched (st.k + 1)) (cmSize st) 1 := by
  have hc : CmOk (decide (15 < (packsOf st.keys).length)) (st.k + 1) st.keys [] (cmOf st) := cm_ok _ _ _ _
  obtain ⟨he, hso, hln⟩ := commit_ents h hk
  rw [pCommit_eq h.live (by omega)]
  rcases steps_law st h.ds h.up hk with ⟨d', a1, a2, a3⟩ | ⟨d', e, a1, a2, a3⟩
  · left
    rw [a1]
    refine ⟨d', by rw [if_neg (by simp)], ⟨⟨hso, by rw [hln]; exact h.count, he, by omega, fun e => by omega, fun _ => by rw [a3, if_pos rfl], fun q hq => ?_⟩, a2, ?_, ?_, fun u h1 h2 h3 => ?_⟩⟩
    · rcases hc.each q hq with ⟨b1, b2, _⟩ | ⟨b1, b2, b3, b4⟩
      · obtain ⟨c1, _, c, c3, c4⟩ := h.old q b1 b2
        refine ⟨c, ?_, c4⟩
        rw [a3, if_neg (fun e => ic_ne _ _ e.symm), if_neg (c_fresh _), if_neg (fun e => ?_)]
        · exact c3
        · have := (pgName_inj e.1).2; omega
      · refine ⟨(cmOf st).2.1, ?_, b3, b4⟩
        rw [b1, a3, if_neg (fun e => ic_ne _ _ e.symm), if_neg (c_fresh _), if_pos ⟨rfl, b2⟩]
    · rw [a3, if_neg (fun e => ic_ne _ _ e.symm), if_neg (c_fresh _)]
      by_cases hs : (cmOf st).2.2 = true
      · rw [if_pos ⟨rfl, hs⟩, if_pos hs]
      · rw [if_neg (fun e => hs e.2), if_neg hs]
    · rw [a3, if_neg (fun e => i_fresh _ e.symm), if_pos rfl]
    · rw [a3, if_neg h2, if_neg h3, if_neg (fun e => h1 e.1)]
  · right
    rw [a1]
    exact ⟨d', e, a2, by rw [if_pos a2], a3⟩
end Go.Proofs.YtbepcjajbcecnaaGreatDoor

/-
  Pages, plain: six keys; what is put is got. No program here.
-/
namespace Go.Proofs.YtbepcjajbcecnaaGreatDoor
open Go.Lib

def kC (l : List (ByteArray × List UInt8)) (s : ByteArray) : Option (List UInt8) := (l.find? (fun p => decide (p.1 = s))).map (·.2)
theorem kC_cons (p : ByteArray × List UInt8) (r : List (ByteArray × List UInt8)) (s : ByteArray) : kC (p :: r) s = if p.1 = s then some p.2 else kC r s := by
  unfold kC
  by_cases h : p.1 = s <;> simp [h]
theorem kC_contB (l : List (ByteArray × ABlob)) (s : ByteArray) : kC (contB l) s = (kB l s).map (·.b) := by
  induction l with
  | nil => rfl
  | cons p l ih =>
    show kC ((p.1, p.2.b) :: contB l) s = _
    rw [kC_cons, kB_cons, ih]
    split <;> rfl
def SortedC (l : List (ByteArray × List UInt8)) : Prop := l.Pairwise (fun p q => ltS p.1 q.1 = true)
theorem sortedC_contB {l : List (ByteArray × ABlob)} (h : SortedB l) : SortedC (contB l) := by
  unfold SortedC contB
  rw [List.pairwise_map]
  exact h
theorem kC_none {l : List (ByteArray × List UInt8)} {s : ByteArray} (h : ∀ p ∈ l, ltS s p.1 = true) : kC l s = none := by
  induction l with
  | nil => rfl
  | cons p l ih =>
    rw [kC_cons, if_neg (fun e => ltS_ne (h p (by simp)) e.symm)]
    exact ih (fun q hq => h q (by simp [hq]))
theorem ext_C {l m : List (ByteArray × List UInt8)} (hl : SortedC l) (hm : SortedC m) (h : ∀ s, kC l s = kC m s) : l = m := by
  induction l generalizing m with
  | nil =>
    cases m with
    | nil => rfl
    | cons q m => have := h q.1; rw [kC_cons, if_pos rfl] at this; cases this
  | cons p l ih =>
    obtain ⟨hl1, hl2⟩ := List.pairwise_cons.1 hl
    cases m with
    | nil => have := h p.1; rw [kC_cons, if_pos rfl] at this; cases this
    | cons q m =>
      obtain ⟨hm1, hm2⟩ := List.pairwise_cons.1 hm
      have he : p.1 = q.1 := by
        rcases ltS_total p.1 q.1 with hlt | e | hlt
        · exfalso
          have h1 := h p.1
          rw [kC_cons, if_pos rfl, kC_none (l := q :: m)] at h1
          · cases h1
          · intro r hr
            rcases List.mem_cons.1 hr with rfl | hr
            · exact hlt
            · exact ltS_trans hlt (hm1 r hr)
        · exact e
        · exfalso
          have h1 := h q.1
          rw [kC_cons (p := q), if_pos rfl, kC_none (l := p :: l)] at h1
          · cases h1
          · intro r hr
            rcases List.mem_cons.1 hr with rfl | hr
            · exact hlt
            · exact ltS_trans hlt (hl1 r hr)
      have hv : p.2 = q.2 := by
        have h1 := h p.1
        rw [kC_cons, if_pos rfl, kC_cons, if_pos he.symm] at h1
        exact Option.some.inj h1
      have hpq : p = q := Prod.ext he hv
      subst hpq
      rw [ih hl2 hm2 (fun s => ?_)]
      by_cases hs : p.1 = s
      · subst hs
        rw [kC_none hl1, kC_none hm1]
      · have h1 := h s
        rw [kC_cons, if_neg hs, kC_cons, if_neg hs] at h1
        exact h1
/-- the six keys. -/
def nm6 (i : Nat) : ByteArray := ⟨#[UInt8.ofNat (97 + i)]⟩
def now6 (N : Nat → Option (List UInt8)) (s : ByteArray) : Option (List UInt8) :=
  if s = nm6 0 then N 0 else if s = nm6 1 then N 1 else if s = nm6 2 then N 2 else if s = nm6 3 then N 3 else if s = nm6 4 then N 4 else if s = nm6 5 then N 5 else none
def one6 (N : Nat → Option (List UInt8)) (i : Nat) : List (ByteArray × List UInt8) := ((N i).map fun b => (nm6 i, b)).toList
def list6 (N : Nat → Option (List UInt8)) : List (ByteArray × List UInt8) := one6 N 0 ++ (one6 N 1 ++ (one6 N 2 ++ (one6 N 3 ++ (one6 N 4 ++ one6 N 5))))
def Now6 (l : List (ByteArray × ABlob)) (N : Nat → Option (List UInt8)) : Prop := ∀ s, (kB l s).map (·.b) = now6 N s
theorem nm6_ne {i j : Nat} (hi : i < 6) (hj : j < 6) (h : i ≠ j) : nm6 i ≠ nm6 j := by
  intro e
  have h1 : ([UInt8.ofNat (97 + i)] : List UInt8) = [UInt8.ofNat (97 + j)] := congrArg (fun s : ByteArray => s.data.toList) e
  have h2 := congrArg UInt8.toNat (List.cons.inj h1).1
  simp at h2
  omega
theorem now6_set (N : Nat → Option (List UInt8)) {i : Nat} (hi : i < 6) (o : Option (List UInt8)) (s : ByteArray) : now6 (fun j => if j = i then o else N j) s = if s = nm6 i then o else now6 N s := by
  have h : i = 0 ∨ i = 1 ∨ i = 2 ∨ i = 3 ∨ i = 4 ∨ i = 5 := by omega
  unfold now6
  rcases h with rfl | rfl | rfl | rfl | rfl | rfl
  all_goals
    by_cases h0 : s = nm6 0
    · subst h0; simp [nm6_ne]
    · by_cases h1 : s = nm6 1
      · subst h1; simp [nm6_ne]
      · by_cases h2 : s = nm6 2
        · subst h2; simp [nm6_ne]
        · by_cases h3 : s = nm6 3
          · subst h3; simp [nm6_ne]
          · by_cases h4 : s = nm6 4
            · subst h4; simp [nm6_ne]
            · by_cases h5 : s = nm6 5
              · subst h5; simp [nm6_ne]
              · simp [h0, h1, h2, h3, h4, h5]
theorem put_now {l : List (ByteArray × ABlob)} {N : Nat → Option (List UInt8)} (h : Now6 l N) {i : Nat} (hi : i < 6) (x : ABlob) : Now6 (putB l (nm6 i) x) (fun j => if j = i then some x.b else N j) := by
  intro s
  rw [kB_putB, now6_set N hi]
  by_cases hs : s = nm6 i
  · rw [if_pos hs, if_pos hs]; rfl
  · rw [if_neg hs, if_neg hs]; exact h s
theorem del_now {l : List (ByteArray × ABlob)} {N : Nat → Option (List UInt8)} (h : Now6 l N) {i : Nat} (hi : i < 6) : Now6 (delB l (nm6 i)) (fun j => if j = i then none else N j) := by
  intro s
  rw [kB_delB, now6_set N hi]
  by_cases hs : s = nm6 i
  · rw [if_pos hs, if_pos hs]; rfl
  · rw [if_neg hs, if_neg hs]; exact h s
theorem Now6.cont {l m : List (ByteArray × ABlob)} {N : Nat → Option (List UInt8)} (h : Now6 l N) (hc : contB m = contB l) : Now6 m N := fun s => by rw [← kC_contB, hc, kC_contB]; exact h s
theorem kC_app (l m : List (ByteArray × List UInt8)) (s : ByteArray) : kC (l ++ m) s = (kC l s).or (kC m s) := by
  induction l with
  | nil => rfl
  | cons p l ih =>
    rw [List.cons_append, kC_cons, kC_cons, ih]
    split <;> rfl
theorem kC_one (N : Nat → Option (List UInt8)) (i : Nat) (s : ByteArray) : kC (one6 N i) s = if s = nm6 i then N i else none := by
  unfold one6
  cases N i with
  | none => simp [kC]
  | some b =>
    show kC [(nm6 i, b)] s = _
    rw [kC_cons]
    by_cases h : s = nm6 i
    · rw [if_pos h, if_pos h.symm]
    · rw [if_neg h, if_neg (fun e => h e.symm)]; rfl
theorem kC_list6 (N : Nat → Option (List UInt8)) (s : ByteArray) : kC (list6 N) s = now6 N s := by
  unfold list6
  simp only [kC_app, kC_one]
  unfold now6
  by_cases h0 : s = nm6 0
  · subst h0; simp [nm6_ne]
  · by_cases h1 : s = nm6 1
    · subst h1; simp [nm6_ne]
    · by_cases h2 : s = nm6 2
      · subst h2; simp [nm6_ne]
      · by_cases h3 : s = nm6 3
        · subst h3; simp [nm6_ne]
        · by_cases h4 : s = nm6 4
          · subst h4; simp [nm6_ne]
          · by_cases h5 : s = nm6 5
            · subst h5; simp [nm6_ne]
            · simp [h0, h1, h2, h3, h4, h5]
theorem nm6_lt {i j : Nat} (h : i < j) (hj : j < 6) : ltS (nm6 i) (nm6 j) = true := by
  have hi : i = 0 ∨ i = 1 ∨ i = 2 ∨ i = 3 ∨ i = 4 ∨ i = 5 := by omega
  have hj2 : j = 0 ∨ j = 1 ∨ j = 2 ∨ j = 3 ∨ j = 4 ∨ j = 5 := by omega
  rcases hi with rfl | rfl | rfl | rfl | rfl | rfl <;> rcases hj2 with rfl | rfl | rfl | rfl | rfl | rfl
  all_goals first | (exfalso; omega) | decide
theorem mem_one6 {N : Nat → Option (List UInt8)} {i : Nat} {p : ByteArray × List UInt8} (h : p ∈ one6 N i) : p.1 = nm6 i := by
  unfold one6 at h
  cases hN : N i with
  | none => rw [hN] at h; simp at h
  | some b => rw [hN] at h; simp at h; rw [h]
theorem sorted_one6 (N : Nat → Option (List UInt8)) (i : Nat) : SortedC (one6 N i) := by
  unfold one6 SortedC
  cases N i <;> simp
theorem sorted_list6 (N : Nat → Option (List UInt8)) : SortedC (list6 N) := by
  unfold list6
  have hs := fun i => sorted_one6 N i
  unfold SortedC at hs ⊢
  refine List.pairwise_append.2 ⟨hs 0, List.pairwise_append.2 ⟨hs 1, List.pairwise_append.2 ⟨hs 2, List.pairwise_append.2 ⟨hs 3, List.pairwise_append.2 ⟨hs 4, hs 5, ?_⟩, ?_⟩, ?_⟩, ?_⟩, ?_⟩
  all_goals
    intro p hp q hq
    try simp only [List.mem_append] at hq
    rw [mem_one6 hp]
  · rw [mem_one6 hq]; exact nm6_lt (by omega) (by omega)
  · rcases hq with hq | hq <;> rw [mem_one6 hq] <;> exact nm6_lt (by omega) (by omega)
  · rcases hq with hq | hq | hq <;> rw [mem_one6 hq] <;> exact nm6_lt (by omega) (by omega)
  · rcases hq with hq | hq | hq | hq <;> rw [mem_one6 hq] <;> exact nm6_lt (by omega) (by omega)
  · rcases hq with hq | hq | hq | hq | hq <;> rw [mem_one6 hq] <;> exact nm6_lt (by omega) (by omega)
theorem Now6.list {l : List (ByteArray × ABlob)} {N : Nat → Option (List UInt8)} (h : Now6 l N) (hs : SortedB l) : contB l = list6 N :=
  ext_C (sortedC_contB hs) (sorted_list6 N) (fun s => by rw [kC_contB, kC_list6]; exact h s)
def cnt6 (N : Nat → Option (List UInt8)) : Nat := (list6 N).length
theorem Now6.len {l : List (ByteArray × ABlob)} {N : Nat → Option (List UInt8)} (h : Now6 l N) (hs : SortedB l) : l.length = cnt6 N := by
  have := congrArg List.length (h.list hs)
  unfold contB at this
  rw [List.length_map] at this
  exact this
theorem one6_len (N : Nat → Option (List UInt8)) (i : Nat) : (one6 N i).length = if (N i).isSome then 1 else 0 := by unfold one6; cases N i <;> rfl
theorem cnt6_le (N : Nat → Option (List UInt8)) : cnt6 N ≤ 6 := by
  unfold cnt6 list6
  simp only [List.length_append, one6_len]
  repeat' split
  all_goals omega
/-- Put and Drop of a store that sits. -/
theorem put_sits {d : ADisk} {st : AStore} (h : Sits d st) {s : ByteArray} {b : List UInt8} (hk : okKey s = true) (hb : b.length ≤ 1048576) (hr : kB st.keys s ≠ none ∨ st.keys.length < 4096) :
    pPut st s b = ({ st with keys := putB st.keys s ⟨b, 0, 0⟩ }, 0) ∧ Sits d { st with keys := putB st.keys s ⟨b, 0, 0⟩ } := by
  refine ⟨?_, sorted_putB h.sorted _ _, ?_, h.kG, fun p hp => ?_, fun p hp hn => ?_, h.live, h.up, h.ds⟩
  · unfold pPut
    rw [if_neg (by simp [h.live]), if_neg (by simp [hk]), if_neg (by omega), if_neg (fun e => ?_)]
    rcases hr with hr | hr
    · exact hr e.1
    · omega
  · show (putB st.keys s ⟨b, 0, 0⟩).length ≤ 4096
    rw [length_putB h.sorted]
    have := h.count
    cases hl : kB st.keys s with
    | none =>
      rcases hr with hr | hr
      · exact absurd hl hr
      · simp; omega
    | some x => simpa using this
  · rcases mem_putB hp with rfl | hp
    · exact ⟨hk, hb⟩
    · exact h.names p hp
  · rcases mem_putB hp with rfl | hp
    · exact absurd rfl hn
    · exact h.old p hp hn
theorem drop_sits {d : ADisk} {st : AStore} (h : Sits d st) {s : ByteArray} (hk : okKey s = true) :
    pDrop st s = ({ st with keys := delB st.keys s }, 0) ∧ Sits d { st with keys := delB st.keys s } := by
  refine ⟨?_, sorted_delB h.sorted _, ?_, h.kG, fun p hp => h.names p (List.mem_filter.1 hp).1, fun p hp hn => h.old p (List.mem_filter.1 hp).1 hn, h.live, h.up, h.ds⟩
  · unfold pDrop
    rw [if_neg (by simp [h.live]), if_neg (by simp [hk])]
  · show (delB st.keys s).length ≤ 4096
    exact Nat.le_trans (List.length_filter_le _ _) h.count
theorem nm6_ok {i : Nat} (hi : i < 6) : okKey (nm6 i) = true := by
  have h : i = 0 ∨ i = 1 ∨ i = 2 ∨ i = 3 ∨ i = 4 ∨ i = 5 := by omega
  rcases h with rfl | rfl | rfl | rfl | rfl | rfl <;> decide
end Go.Proofs.YtbepcjajbcecnaaGreatDoor

/-
  Pages, plain: a store behind steps: puts, drops, commits, frees. No program here.
-/
namespace Go.Proofs.YtbepcjajbcecnaaGreatDoor
open Go.Lib

theorem nodup_sub_len {l m : List ByteArray} (h : l.Nodup) (hs : ∀ u ∈ l, u ∈ m) : l.length ≤ m.length := by
  induction l generalizing m with
  | nil => simp
  | cons x l ih =>
    obtain ⟨h1, h2⟩ := List.nodup_cons.1 h
    obtain ⟨a, b, rfl⟩ := List.append_of_mem (hs x (by simp))
    have := ih (m := a ++ b) h2 (fun u hu => by
      have h3 := hs u (by simp [hu])
      rcases List.mem_append.1 h3 with h3 | h3
      · exact List.mem_append_left _ h3
      · rcases List.mem_cons.1 h3 with rfl | h3
        · exact absurd hu h1
        · exact List.mem_append_right _ h3)
    simp only [List.length_append, List.length_cons] at this ⊢
    omega
theorem vint10 {n : Nat} (h : n < 18446744073709551616) : (vint n).length ≤ 10 := vint_len (by omega) (Nat.lt_of_lt_of_le h (by decide))
theorem ents_len {k : Nat} {l : List (ByteArray × ABlob)} (h : EntsOk k l) : (entsOf l).length ≤ 100 * l.length := by
  induction l with
  | nil => simp [entsOf]
  | cons p l ih =>
    have h1 := ih (fun q hq => h q (by simp [hq]))
    have h2 := h p (by simp)
    have e1 := h2.n1; have e2 := h2.pg; have e3 := h2.a1; have e4 := h2.l1
    have a1 := vint10 (n := p.1.size) (by omega)
    have a2 := vint10 (n := p.2.pack) (by omega)
    have a3 := vint10 (n := p.2.pos) (by omega)
    have a4 := vint10 (n := p.2.b.length) (by omega)
    have a5 := size_list p.1
    rw [entsOf_cons, List.length_append]
    unfold entBytes
    simp only [List.length_append, List.length_cons]
    omega
theorem index_len {k : Nat} {l : List (ByteArray × ABlob)} (h : EntsOk k l) (hk : k ≤ 9007199254740992) (hl : l.length ≤ 4096) : (indexOf k l).length ≤ 28 + 100 * l.length := by
  have h1 := ents_len h
  have a1 := vint10 (n := k) (by omega)
  have a2 := vint10 (n := l.length) (by omega)
  unfold indexOf sealL magicI
  simp only [List.length_append, sumL_len, List.length_cons, List.length_nil]
  omega
theorem cmSize_le {d : ADisk} {st : AStore} (h : Sits d st) (hk : st.k < 9007199254740992) : cmSize st ≤ bytesB st.keys + 28 + 100 * st.keys.length := by
  obtain ⟨he, _, hl⟩ := commit_ents h hk
  have hc : CmOk (decide (15 < (packsOf st.keys).length)) (st.k + 1) st.keys [] (cmOf st) := cm_ok _ _ _ _
  have h1 := index_len he (by omega) (by rw [hl]; exact h.count)
  have h2 := hc.size
  rw [hl] at h1
  simp only [List.length_nil] at h2
  unfold cmSize
  split <;> omega
/-- a store behind c steps. -/
structure Stp (d : ADisk) (st : AStore) (m c : Nat) : Prop where
  sits : Sits d st
  left : d.left = -1
  most : d.most = 1048576
  com : ∃ L, Has d st.k L ∧ st.held = packsOf L ∧ ∀ p ∈ st.keys, p.2.pack ≠ 0 → p ∈ L
  small : ∀ p ∈ st.keys, p.2.b.length ≤ m
  few : st.keys.length ≤ 7
  names : ∀ u, lk d.fs u ≠ none → ∃ n, 1 ≤ n ∧ n ≤ st.k ∧ (u = iName n ∨ u = cName n)
  kc : st.k ≤ c
  used : usedF d.fs ≤ 2000 * c
  files : d.fs.length ≤ 2 * c
def newD (n : Int) : ADisk := ⟨n, -1, false, []⟩
theorem Stp.more {d : ADisk} {st : AStore} {m c c' : Nat} (h : Stp d st m c) (hc : c ≤ c') : Stp d st m c' :=
  ⟨h.sits, h.left, h.most, h.com, h.small, h.few, h.names, by have := h.kc; omega, by have := h.used; omega, by have := h.files; omega⟩
theorem Stp.put {d : ADisk} {st : AStore} {m c : Nat} (h : Stp d st m c) {s : ByteArray} {b : List UInt8} (hk : okKey s = true) (hb : b.length ≤ m) (hm : m ≤ 1000) (hf : (putB st.keys s ⟨b, 0, 0⟩).length ≤ 7) :
    pPut st s b = ({ st with keys := putB st.keys s ⟨b, 0, 0⟩ }, 0) ∧ Stp d { st with keys := putB st.keys s ⟨b, 0, 0⟩ } m c := by
  have hfew := h.few
  obtain ⟨h1, h2⟩ := put_sits h.sits (b := b) hk (by omega) (Or.inr (by omega))
  obtain ⟨L, a1, a2, a3⟩ := h.com
  refine ⟨h1, h2, h.left, h.most, ⟨L, a1, a2, fun p hp hn => ?_⟩, fun p hp => ?_, hf, h.names, h.kc, h.used, h.files⟩
  · rcases mem_putB hp with rfl | hp
    · exact absurd rfl hn
    · exact a3 p hp hn
  · rcases mem_putB hp with rfl | hp
    · exact hb
    · exact h.small p hp
theorem Stp.drop {d : ADisk} {st : AStore} {m c : Nat} (h : Stp d st m c) {s : ByteArray} (hk : okKey s = true) :
    pDrop st s = ({ st with keys := delB st.keys s }, 0) ∧ Stp d { st with keys := delB st.keys s } m c := by
  obtain ⟨h1, h2⟩ := drop_sits h.sits hk
  obtain ⟨L, a1, a2, a3⟩ := h.com
  exact ⟨h1, h2, h.left, h.most, ⟨L, a1, a2, fun p hp hn => a3 p (List.mem_filter.1 hp).1 hn⟩, fun p hp => h.small p (List.mem_filter.1 hp).1, Nat.le_trans (List.length_filter_le _ _) h.few, h.names, h.kc, h.used, h.files⟩
theorem Stp.commit {d : ADisk} {st : AStore} {m c : Nat} (h : Stp d st m c) (hm : m ≤ 100) (hc : c ≤ 60) :
    ∃ d', pCommit d st = (d', ⟨st.k + 1, (cmOf st).1, packsOf (cmOf st).1, false⟩, st.k + 1, 0) ∧ Committed d st d' ∧ Stp d' ⟨st.k + 1, (cmOf st).1, packsOf (cmOf st).1, false⟩ m (c + 1) := by
  have hkc := h.kc
  have hk : st.k < 9007199254740992 := by omega
  have hcm : CmOk (decide (15 < (packsOf st.keys).length)) (st.k + 1) st.keys [] (cmOf st) := cm_ok _ _ _ _
  obtain ⟨he, hso, hln⟩ := commit_ents h.sits hk
  have h1 := cmSize_le h.sits hk
  have h2 := bytesB_le h.small
  have h3 := h.few
  have h4 : st.keys.length * m ≤ 7 * 100 := Nat.mul_le_mul h3 hm
  have h5 := h.used
  have h6 := h.files
  rcases commit_law h.sits hk with ⟨d', a1, a2⟩ | ⟨d', e, _, _, a3⟩
  · have g := a2.step.grow
    refine ⟨d', a1, a2, ⟨⟨hso, by rw [hln]; exact h.sits.count, by show st.k + 1 ≤ _; omega, fun q hq => ?_, fun q hq _ => ?_, rfl, a2.step.up, a2.step.sorted⟩, a2.step.left h.left, g.most.trans h.most, ⟨_, a2.has, rfl, fun p hp _ => hp⟩, fun q hq => ?_, by rw [hln]; exact h3, fun u hu => ?_, by show st.k + 1 ≤ _; omega, by have := g.used; omega, by have := g.len; omega⟩⟩
    · obtain ⟨p, hp, e1, e2⟩ := contB_mem hcm.cont hq
      rw [← e1, ← e2]; exact h.sits.names p hp
    · exact ⟨(he q hq).p1, (he q hq).a1, a2.has.blobs q hq⟩
    · obtain ⟨p, hp, _, e2⟩ := contB_mem hcm.cont hq
      rw [← e2]; exact h.small p hp
    · by_cases u1 : u = cName (st.k + 1)
      · exact ⟨st.k + 1, by omega, Nat.le_refl _, Or.inr u1⟩
      · by_cases u2 : u = iName (st.k + 1)
        · exact ⟨st.k + 1, by omega, Nat.le_refl _, Or.inl u2⟩
        · by_cases u3 : u = freshI
          · subst u3; exact absurd a2.fresh hu
          · rw [a2.other u u1 u2 u3] at hu
            obtain ⟨n, n1, n2, n3⟩ := h.names u hu
            exact ⟨n, n1, by show n ≤ st.k + 1; omega, n3⟩
  · exfalso
    rcases a3.why with w | w | w
    · exact w h.left
    · rw [h.most] at w; omega
    · omega
theorem Stp.free {d : ADisk} {st : AStore} {m c : Nat} (h : Stp d st m c) :
    ∃ d', pFreeC d st = (d', st, d.names.filter (pOther st.k st.held), 0) ∧ FreeRes d st.k st.held d.names d' (d.names.filter (pOther st.k st.held)) ∧ Stp d' st m c := by
  obtain ⟨L, a1, a2, a3⟩ := h.com
  obtain ⟨d', b1, b2, b3⟩ := free_ok st.k st.held h.sits.ds h.sits.up h.left d.names (fun s => names_lk) (names_nodup h.sits.ds)
  have hst : st.ends 0 = st := by
    have := h.sits.live
    cases st
    simp only at this
    subst this
    rfl
  have hkeep : ∀ p ∈ L, lk d'.fs (cName p.2.pack) = lk d.fs (cName p.2.pack) := by
    intro p hp
    have he := a1.ents p hp
    refine b2.kept _ (Or.inr ?_)
    rw [other_pack _ _ _ he.p0 he.pg, a2]
    exact decide_eq_false (fun e => e (packsOf_mem.2 ⟨by have := he.p0; omega, p, hp, rfl⟩))
  have hsub : ∀ u, lk d'.fs u ≠ none → lk d.fs u ≠ none := by
    intro u hu e
    by_cases hu2 : u ∈ d.names
    · exact names_lk hu2 e
    · rw [b2.kept u (Or.inl hu2)] at hu; exact hu e
  refine ⟨d', ?_, b2, ⟨⟨h.sits.sorted, h.sits.count, h.sits.kG, h.sits.names, fun p hp hn => ?_, h.sits.live, b2.up, b2.sorted⟩, b2.left h.left, b3.trans h.most, ⟨L, a1.same (fun hk => ?_) hkeep, a2, a3⟩, h.small, h.few, fun u hu => h.names u (hsub u hu), h.kc, by have := b2.grow.used; have := h.used; omega, by have := b2.grow.len; have := h.files; omega⟩⟩
  · unfold pFreeC pFree
    rw [if_neg (by simp [h.sits.live]), b1]
    simp only
    rw [hst]
  · obtain ⟨c1, c2, cc, c3, c4⟩ := h.sits.old p hp hn
    exact ⟨c1, c2, cc, (hkeep p (a3 p hp hn)).trans c3, c4⟩
  · exact b2.kept _ (Or.inr (other_index _ _ (by omega) a1.kG))
end Go.Proofs.YtbepcjajbcecnaaGreatDoor

/-
  Pages, plain: a store's lives (PagesKeeps). No program here.
-/
namespace Go.Proofs.YtbepcjajbcecnaaGreatDoor
open Go.Lib

/-- only files of pages. -/
def OnlyPg (d : ADisk) : Prop := ∀ u, lk d.fs u ≠ none → u = freshI ∨ ∃ n, 1 ≤ n ∧ n ≤ 9007199254740992 ∧ (u = iName n ∨ u = cName n)
/-- files of other commits go, or some of them. -/
theorem free_any (k : Nat) (held : List Nat) {d : ADisk} (hs : SortedF d.fs) (hd : d.down = false) (names : List ByteArray) (hn : ∀ s ∈ names, lk d.fs s ≠ none) (hnd : names.Nodup) :
    SortedF (pFreeL k held d names).1.fs ∧ (∀ u, pOther k held u = false → lk (pFreeL k held d names).1.fs u = lk d.fs u) ∧ (∀ u, lk (pFreeL k held d names).1.fs u ≠ none → lk d.fs u ≠ none) ∧ ((pFreeL k held d names).2.2 = 0 → (pFreeL k held d names).1.down = false) := by
  induction names generalizing d with
  | nil => exact ⟨hs, fun _ _ => rfl, fun _ h => h, fun _ => hd⟩
  | cons s r ih =>
    obtain ⟨hsr, hr⟩ := List.nodup_cons.1 hnd
    unfold pFreeL
    by_cases ho : pOther k held s = true
    · rw [if_pos ho]
      cases hf : lk d.fs s with
      | none => exact absurd hf (hn s (by simp))
      | some f =>
        rcases remove_cases hs hd hf with ⟨h0, e0, e1⟩ | ⟨_, e1, e2, e3, e4, e5⟩
        · rw [if_pos (by rw [e1]; decide), e0, e1]
          exact ⟨hs, fun _ _ => rfl, fun _ h => h, fun h => (by cases h)⟩
        · rw [if_neg (by rw [e1]; simp)]
          obtain ⟨b1, b2, b3, b4⟩ := ih e3 e2 (fun t ht => by
            rw [e4, if_neg (by rintro rfl; exact hsr ht)]; exact hn t (by simp [ht])) hr
          refine ⟨b1, fun u hu => ?_, fun u hu => ?_, b4⟩
          · rw [b2 u hu, e4, if_neg (by rintro rfl; rw [ho] at hu; cases hu)]
          · have := b3 u hu
            rw [e4] at this
            split at this
            · exact absurd rfl this
            · exact this
    · rw [if_neg ho]
      exact ih hs hd (fun t ht => hn t (by simp [ht])) hr
/-- the commit that a root tells of: at, and what it has. -/
structure At5 (d : ADisk) (at_ : Nat) (T : Nat → Option (List UInt8)) : Prop where
  ds : SortedF d.fs
  has : ∃ L, Has d at_ L ∧ Now6 L T
  only : OnlyPg d
theorem Has.keepT {d d' : ADisk} {k K : Nat} {L : List (ByteArray × ABlob)} (h : Has d k L) (hK : k < K) (hl : ∀ u, ¬ Touched K u → lk d'.fs u = lk d.fs u) : Has d' k L := by
  refine h.same (fun hk => hl _ ?_) (fun p hp => hl _ ?_)
  · rintro (e | e | e)
    · exact ic_ne _ _ e
    · have := (pgName_inj e).2; omega
    · exact i_fresh _ e
  · have h1 := (h.ents p hp).p1
    rintro (e | e | e)
    · have := (pgName_inj e).2; omega
    · exact ic_ne _ _ e.symm
    · exact c_fresh _ e
theorem Has.keepF {d d' : ADisk} {k : Nat} {L : List (ByteArray × ABlob)} (h : Has d k L) (hl : ∀ u, pOther k (packsOf L) u = false → lk d'.fs u = lk d.fs u) : Has d' k L := by
  refine h.same (fun hk => hl _ (other_index _ _ (by omega) h.kG)) (fun p hp => hl _ ?_)
  have he := h.ents p hp
  rw [other_pack _ _ _ he.p0 he.pg]
  exact decide_eq_false (fun e => e (packsOf_mem.2 ⟨by have := he.p0; omega, p, hp, rfl⟩))
/-- a store in a life: not over. -/
structure Lf5 (d : ADisk) (st : AStore) (at_ : Nat) (T N : Nat → Option (List UInt8)) (B : Nat) : Prop where
  at5 : At5 d at_ T
  sits : Sits d st
  now : Now6 st.keys N
  com : ∃ L, Has d st.k L ∧ st.held = packsOf L ∧ ∀ p ∈ st.keys, p.2.pack ≠ 0 → p ∈ L
  le : at_ ≤ st.k
  kB : st.k ≤ B
  small : ∀ p ∈ st.keys, p.2.b.length ≤ 30
theorem Lf5.few {d : ADisk} {st : AStore} {a B : Nat} {T N : Nat → Option (List UInt8)} (h : Lf5 d st a T N B) : st.keys.length ≤ 6 := by
  rw [h.now.len h.sits.sorted]; exact cnt6_le N
theorem At5.open {d : ADisk} {a B : Nat} {T : Nat → Option (List UInt8)} (h : At5 d a T) (hd : d.down = false) (hl : d.left = -1) (ha : a ≤ B) (hsm : ∀ i b, T i = some b → b.length ≤ 30) :
    ∃ d' st, pOpen d (a : Int) = (d', st, 0) ∧ Lf5 d' st a T T B ∧ st.k = a ∧ d'.left = -1 ∧ d'.fs.length ≤ 7 := by
  obtain ⟨L, h1, h2⟩ := h.has
  obtain ⟨d', out, e1, e2, e3, e4, e5⟩ := h1.open h.ds hd hl
  have hsub : ∀ u, lk d'.fs u ≠ none → lk d.fs u ≠ none ∧ pOther a (packsOf L) u = false := by
    intro u hu
    by_cases hu2 : u ∈ d.names
    · refine ⟨names_lk hu2, ?_⟩
      cases ho : pOther a (packsOf L) u with
      | false => rfl
      | true => exact absurd (e2.gone u hu2 ho) hu
    · have := e2.kept u (Or.inl hu2)
      rw [this] at hu
      exact absurd (lk_names hu) hu2
  have hkeys : ∀ p ∈ L, okKey p.1 = true ∧ p.2.b.length ≤ 1048576 := fun p hp => by
    have he := h1.ents p hp
    exact ⟨(okKey_iff _).2 ⟨he.n0, he.n1⟩, he.l1⟩
  have hsits : Sits d' ⟨a, L, packsOf L, false⟩ := ⟨h1.sorted, h1.count, h1.kG, hkeys, fun p hp _ => ⟨(h1.ents p hp).p1, (h1.ents p hp).a1, e3.blobs p hp⟩, rfl, e2.up, e2.sorted⟩
  have hlf : Lf5 d' ⟨a, L, packsOf L, false⟩ a T T B := by
    refine ⟨⟨e2.sorted, ⟨L, e3, h2⟩, fun u hu => h.only u (hsub u hu).1⟩, hsits, h2, ⟨L, e3, rfl, fun p hp _ => hp⟩, Nat.le_refl _, ha, fun p hp => ?_⟩
    have hk := mem_kB h1.sorted hp
    have h3 := h2 p.1
    rw [hk] at h3
    have h4 : now6 T p.1 = some p.2.b := h3.symm
    unfold now6 at h4
    repeat' split at h4
    all_goals first | exact hsm _ _ h4 | cases h4
  refine ⟨d', _, e1, hlf, rfl, e4, ?_⟩
  -- the files: the index, and the packs
  have hmem : ∀ u ∈ d'.names, u ∈ iName a :: (packsOf L).map cName := by
    intro u hu
    obtain ⟨h3, h4⟩ := hsub u (names_lk hu)
    rcases h.only u h3 with e | ⟨n, n0, n1, e | e⟩
    · subst e; unfold pOther at h4; rw [if_pos rfl] at h4; cases h4
    · subst e
      unfold pOther at h4
      rw [if_neg (i_fresh n), show pgNum (iName n) = some (105, n) from pgNum_name (Or.inl rfl) n0 n1] at h4
      simp at h4
      subst h4
      exact List.mem_cons_self
    · subst e
      rw [other_pack _ _ _ n0 n1] at h4
      simp at h4
      exact List.mem_cons_of_mem _ (List.mem_map.2 ⟨n, h4, rfl⟩)
  have hle := nodup_sub_len (names_nodup e2.sorted) hmem
  have h6 := hlf.few
  have h7 := packsOf_le L
  show d'.fs.length ≤ 7
  rw [show d'.fs.length = (d'.fs.map (·.1)).length by rw [List.length_map]]
  simp only [List.length_cons, List.length_map] at hle h6 ⊢
  omega
theorem Lf5.put {d : ADisk} {st : AStore} {a B : Nat} {T N : Nat → Option (List UInt8)} (h : Lf5 d st a T N B) {i : Nat} (hi : i < 6) {b : List UInt8} (hb : b.length ≤ 30) :
    pPut st (nm6 i) b = ({ st with keys := putB st.keys (nm6 i) ⟨b, 0, 0⟩ }, 0) ∧ Lf5 d { st with keys := putB st.keys (nm6 i) ⟨b, 0, 0⟩ } a T (fun j => if j = i then some b else N j) B := by
  have hf := h.few
  obtain ⟨h1, h2⟩ := put_sits h.sits (nm6_ok hi) (b := b) (by omega) (Or.inr (by omega))
  obtain ⟨L, a1, a2, a3⟩ := h.com
  refine ⟨h1, h.at5, h2, put_now h.now hi ⟨b, 0, 0⟩, ⟨L, a1, a2, fun p hp hn => ?_⟩, h.le, h.kB, fun p hp => ?_⟩
  · rcases mem_putB hp with rfl | hp
    · exact absurd rfl hn
    · exact a3 p hp hn
  · rcases mem_putB hp with rfl | hp
    · exact hb
    · exact h.small p hp
theorem Lf5.drop {d : ADisk} {st : AStore} {a B : Nat} {T N : Nat → Option (List UInt8)} (h : Lf5 d st a T N B) {i : Nat} (hi : i < 6) :
    pDrop st (nm6 i) = ({ st with keys := delB st.keys (nm6 i) }, 0) ∧ Lf5 d { st with keys := delB st.keys (nm6 i) } a T (fun j => if j = i then none else N j) B := by
  obtain ⟨h1, h2⟩ := drop_sits h.sits (nm6_ok hi)
  obtain ⟨L, a1, a2, a3⟩ := h.com
  exact ⟨h1, h.at5, h2, del_now h.now hi, ⟨L, a1, a2, fun p hp hn => a3 p (List.mem_filter.1 hp).1 hn⟩, h.le, h.kB, fun p hp => h.small p (List.mem_filter.1 hp).1⟩
/-- a commit in a life: told, or failed. -/
theorem Lf5.commit {d : ADisk} {st : AStore} {a B : Nat} {T N : Nat → Option (List UInt8)} (h : Lf5 d st a T N B) (hB : B ≤ 1000) :
    (∃ d' st', pCommit d st = (d', st', st.k + 1, 0) ∧ st'.k = st.k + 1 ∧ Lf5 d' st' a T N (B + 1) ∧ Lf5 d' st' (st.k + 1) N N (B + 1) ∧ st'.held = packsOf st'.keys ∧ Has d' (st.k + 1) st'.keys) ∨
      ∃ d' e, e ≠ 0 ∧ pCommit d st = (d', st.ends e, 0, e) ∧ At5 d' a T := by
  have hkB := h.kB
  have hk : st.k < 9007199254740992 := by omega
  have hcm : CmOk (decide (15 < (packsOf st.keys).length)) (st.k + 1) st.keys [] (cmOf st) := cm_ok _ _ _ _
  obtain ⟨he, hso, hln⟩ := commit_ents h.sits hk
  obtain ⟨La, l1, l2⟩ := h.at5.has
  have hle := h.le
  rcases commit_law h.sits hk with ⟨d', a1, a2⟩ | ⟨d', e, e0, a1, a3⟩
  · left
    have hoth : ∀ u, ¬ Touched (st.k + 1) u → lk d'.fs u = lk d.fs u := fun u hu => a2.other u (fun e => hu (Or.inl e)) (fun e => hu (Or.inr (Or.inl e))) (fun e => hu (Or.inr (Or.inr e)))
    have hon : OnlyPg d' := by
      intro u hu
      by_cases u1 : u = cName (st.k + 1)
      · exact Or.inr ⟨st.k + 1, by omega, by omega, Or.inr u1⟩
      · by_cases u2 : u = iName (st.k + 1)
        · exact Or.inr ⟨st.k + 1, by omega, by omega, Or.inl u2⟩
        · by_cases u3 : u = freshI
          · exact Or.inl u3
          · rw [a2.other u u1 u2 u3] at hu
            exact h.at5.only u hu
    have hnow : Now6 (cmOf st).1 N := h.now.cont hcm.cont
    have hs' : Sits d' ⟨st.k + 1, (cmOf st).1, packsOf (cmOf st).1, false⟩ := ⟨hso, by rw [hln]; exact h.sits.count, by show st.k + 1 ≤ _; omega, fun q hq => by
        obtain ⟨p, hp, e1, e2⟩ := contB_mem hcm.cont hq
        rw [← e1, ← e2]; exact h.sits.names p hp, fun q hq _ => ⟨(he q hq).p1, (he q hq).a1, a2.has.blobs q hq⟩, rfl, a2.step.up, a2.step.sorted⟩
    have hsm : ∀ q ∈ (cmOf st).1, q.2.b.length ≤ 30 := fun q hq => by
      obtain ⟨p, hp, _, e2⟩ := contB_mem hcm.cont hq
      rw [← e2]; exact h.small p hp
    have hcom : ∃ L, Has d' (st.k + 1) L ∧ packsOf (cmOf st).1 = packsOf L ∧ ∀ p ∈ (cmOf st).1, p.2.pack ≠ 0 → p ∈ L := ⟨_, a2.has, rfl, fun p hp _ => hp⟩
    refine ⟨d', _, a1, rfl, ⟨⟨a2.step.sorted, ⟨La, l1.keepT (by omega) hoth, l2⟩, hon⟩, hs', hnow, hcom, by show a ≤ st.k + 1; omega, by show st.k + 1 ≤ _; omega, hsm⟩, ⟨⟨a2.step.sorted, ⟨_, a2.has, hnow⟩, hon⟩, hs', hnow, hcom, Nat.le_refl _, by show st.k + 1 ≤ _; omega, hsm⟩, rfl, a2.has⟩
  · right
    refine ⟨d', e, e0, a1, ⟨a3.sorted, ⟨La, l1.keepT (by omega) a3.lk, l2⟩, fun u hu => ?_⟩⟩
    by_cases ht : Touched (st.k + 1) u
    · rcases ht with e | e | e
      · exact Or.inr ⟨st.k + 1, by omega, by omega, Or.inr e⟩
      · exact Or.inr ⟨st.k + 1, by omega, by omega, Or.inl e⟩
      · exact Or.inl e
    · rw [a3.lk u ht] at hu
      exact h.at5.only u hu
/-- Free behind a commit that a root tells of. -/
theorem Lf5.free {d : ADisk} {st : AStore} {B : Nat} {N : Nat → Option (List UInt8)} (h : Lf5 d st st.k N N B) (hh : st.held = packsOf st.keys) (hc : Has d st.k st.keys) :
    ∃ d' out e, pFreeC d st = (d', st.ends e, out, e) ∧ ((e = 0 ∧ Lf5 d' st st.k N N B) ∨ (e ≠ 0 ∧ At5 d' st.k N)) := by
  obtain ⟨b1, b2, b3, b4⟩ := free_any st.k st.held h.sits.ds h.sits.up d.names (fun s => names_lk) (names_nodup h.sits.ds)
  have hst : st.ends 0 = st := by
    have := h.sits.live
    cases st
    simp only at this
    subst this
    rfl
  obtain ⟨r, hr⟩ : ∃ r, pFreeL st.k st.held d d.names = r := ⟨_, rfl⟩
  rw [hr] at b1 b2 b3 b4
  have hP : pFreeC d st = (r.1, st.ends r.2.2, r.2.1, r.2.2) := by
    unfold pFreeC pFree
    rw [if_neg (by simp [h.sits.live]), hr]
  have hhas : Has r.1 st.k st.keys := hc.keepF (fun u hu => b2 u (by rw [hh]; exact hu))
  have hat : At5 r.1 st.k N := ⟨b1, ⟨_, hhas, h.now⟩, fun u hu => h.at5.only u (b3 u hu)⟩
  refine ⟨r.1, r.2.1, r.2.2, hP, ?_⟩
  by_cases he : r.2.2 = 0
  · left
    refine ⟨he, hat, ⟨h.sits.sorted, h.sits.count, h.sits.kG, h.sits.names, fun p hp _ => ⟨(hc.ents p hp).p1, (hc.ents p hp).a1, hhas.blobs p hp⟩, h.sits.live, b4 he, b1⟩, h.now, ⟨_, hhas, hh, fun p hp _ => hp⟩, h.le, h.kB, h.small⟩
  · exact Or.inr ⟨he, hat⟩
end Go.Proofs.YtbepcjajbcecnaaGreatDoor

/-
  Pages, plain: what the statements ask behind steps (PagesBack, PagesFiles, PagesElder, PagesOrder, PagesEnded). No program here.
-/
namespace Go.Proofs.YtbepcjajbcecnaaGreatDoor
open Go.Lib

open Classical in
/-- names that rise, with the same members, are the same. -/
theorem ext_names {l m : List ByteArray} (hl : l.Pairwise (fun a b => ltS a b = true)) (hm : m.Pairwise (fun a b => ltS a b = true)) (h : ∀ s, s ∈ l ↔ s ∈ m) : l = m := by
  have hk : ∀ (r : List ByteArray) (s : ByteArray), kC (r.map fun x => (x, ([] : List UInt8))) s = if s ∈ r then some [] else none := by
    intro r s
    induction r with
    | nil => simp [kC]
    | cons x r ih =>
      rw [List.map_cons, kC_cons, ih]
      by_cases hx : x = s
      · rw [if_pos hx, if_pos (by simp [hx])]
      · rw [if_neg hx]
        by_cases hs : s ∈ r
        · rw [if_pos hs, if_pos (by simp [hs])]
        · rw [if_neg hs, if_neg (by simp [hs]; exact fun e => hx e.symm)]
  have := ext_C (l := l.map fun x => (x, [])) (m := m.map fun x => (x, [])) (by unfold SortedC; rw [List.pairwise_map]; exact hl) (by unfold SortedC; rw [List.pairwise_map]; exact hm) (fun s => by
    rw [hk, hk]
    by_cases hs : s ∈ l
    · rw [if_pos hs, if_pos ((h s).1 hs)]
    · rw [if_neg hs, if_neg (fun e => hs ((h s).2 e))])
  have h2 := congrArg (List.map Prod.fst) this
  simpa [List.map_map, Function.comp_def] using h2
theorem names_rise {d : ADisk} (h : SortedF d.fs) : d.names.Pairwise (fun a b => ltS a b = true) := by
  unfold ADisk.names
  rw [List.pairwise_map]
  exact h
theorem mem_names_iff {d : ADisk} {s : ByteArray} : s ∈ d.names ↔ lk d.fs s ≠ none := ⟨names_lk, lk_names⟩
/-- PagesFiles: what is there behind Free. -/
structure Freed (d : ADisk) (st : AStore) : Prop where
  index : lk d.fs (iName st.k) ≠ none
  only : ∀ u, u ∈ d.names → u = iName st.k ∨ ∃ n, n ∈ st.held ∧ u = cName n
/-- how many names are the index's, how many are packs. -/
theorem Freed.count {d : ADisk} {st : AStore} (h : Freed d st) (hs : SortedF d.fs) : (d.names.filter fun s => decide (s.data.toList.head? = some 105)).length = 1 ∧ (d.names.filter fun s => !decide (s.data.toList.head? = some 105)).length ≤ st.held.length := by
  have hI : ∀ n, decide ((iName n).data.toList.head? = some 105) = true := fun n => by unfold iName pgName; simp
  have hC : ∀ n, decide ((cName n).data.toList.head? = some 105) = false := fun n => by unfold cName pgName; simp
  have hnd := names_nodup hs
  constructor
  · have e : d.names.filter (fun s => decide (s.data.toList.head? = some 105)) = [iName st.k] := by
      refine ext_names ((names_rise hs).filter _) (by simp) (fun s => ?_)
      rw [List.mem_filter, List.mem_singleton]
      constructor
      · rintro ⟨h1, h2⟩
        rcases h.only s h1 with e | ⟨n, _, e⟩
        · exact e
        · rw [e, hC] at h2; cases h2
      · rintro rfl
        exact ⟨lk_names h.index, hI _⟩
    rw [e]; rfl
  · have := nodup_sub_len (l := d.names.filter fun s => !decide (s.data.toList.head? = some 105)) (m := st.held.map cName) (List.Pairwise.filter _ hnd) (fun u hu => by
      obtain ⟨h1, h2⟩ := List.mem_filter.1 hu
      rcases h.only u h1 with e | ⟨n, hn, e⟩
      · rw [e, hI] at h2; cases h2
      · rw [e]; exact List.mem_map.2 ⟨n, hn, rfl⟩)
    rw [List.length_map] at this
    exact this
end Go.Proofs.YtbepcjajbcecnaaGreatDoor

/-
  Pages, plain: a disk that has no room (PagesEnded). No program here.
-/
namespace Go.Proofs.YtbepcjajbcecnaaGreatDoor
open Go.Lib

end Go.Proofs.YtbepcjajbcecnaaGreatDoor

/-
  Pages, plain: a commit's loop, so far as the keys have been looked at; numbers of a store that may be. No program here.
-/
namespace Go.Proofs.YtbepcjajbcecnaaGreatDoor

/-- a commit's loop behind the keys P, ahead of the keys r. -/
structure CmL (all : Bool) (k : Nat) (L P : List (ByteArray × ABlob)) (pack : List UInt8) (some0 : Bool) (r : List (ByteArray × ABlob)) : Prop where
  fin : cmKeys all k L [] = (P ++ (cmKeys all k r pack).1, (cmKeys all k r pack).2.1, some0 || (cmKeys all k r pack).2.2)
  names : P.map (·.1) ++ r.map (·.1) = L.map (·.1)
  size : pack.length + bytesB r ≤ bytesB L
theorem CmL.start (all : Bool) (k : Nat) (L : List (ByteArray × ABlob)) : CmL all k L [] [] false L := ⟨by simp, rfl, by simp⟩
theorem bytesB_cons (p : ByteArray × ABlob) (r : List (ByteArray × ABlob)) : bytesB (p :: r) = p.2.b.length + bytesB r := by simp [bytesB]
theorem CmL.new {all : Bool} {k : Nat} {L P : List (ByteArray × ABlob)} {pack : List UInt8} {s0 : Bool} {s : ByteArray} {x : ABlob} {r : List (ByteArray × ABlob)} (h : CmL all k L P pack s0 ((s, x) :: r)) (hn : (all || decide (x.pack = 0)) = true) :
    CmL all k L (P ++ [(s, ⟨x.b, k, pack.length⟩)]) (pack ++ x.b) true r := by
  refine ⟨?_, ?_, ?_⟩
  · rw [h.fin]
    simp only [cmKeys, if_pos hn]
    simp
  · rw [← h.names]; simp
  · have := h.size
    rw [bytesB_cons] at this
    rw [List.length_append]
    simp only at this
    omega
theorem CmL.old {all : Bool} {k : Nat} {L P : List (ByteArray × ABlob)} {pack : List UInt8} {s0 : Bool} {s : ByteArray} {x : ABlob} {r : List (ByteArray × ABlob)} (h : CmL all k L P pack s0 ((s, x) :: r)) (hn : (all || decide (x.pack = 0)) = false) :
    CmL all k L (P ++ [(s, x)]) pack s0 r := by
  refine ⟨?_, ?_, ?_⟩
  · rw [h.fin]
    simp only [cmKeys, if_neg (by rw [hn]; decide : ¬ (all || decide (x.pack = 0)) = true)]
    simp
  · rw [← h.names]; simp
  · have := h.size
    rw [bytesB_cons] at this
    omega
theorem CmL.stop {all : Bool} {k : Nat} {L P : List (ByteArray × ABlob)} {pack : List UInt8} {s0 : Bool} (h : CmL all k L P pack s0 []) : cmKeys all k L [] = (P, pack, s0) := by
  rw [h.fin]; simp [cmKeys]
theorem entsOf_snoc (P : List (ByteArray × ABlob)) (p : ByteArray × ABlob) : entsOf (P ++ [p]) = entsOf P ++ entBytes p.1 p.2.pack p.2.pos p.2.b.length := by simp [entsOf]
/-- the greatest name comes last. -/
theorem putB_last {P : List (ByteArray × ABlob)} {s : ByteArray} (x : ABlob) (h : ∀ p ∈ P, ltS p.1 s = true) : putB P s x = P ++ [(s, x)] := by
  induction P with
  | nil => rfl
  | cons p r ih =>
    have h1 := h p (by simp)
    simp only [putB]
    rw [if_neg (ltS_ne h1), if_neg (fun e => by have := ltS_trans h1 e; rw [ltS_irrefl] at this; cases this), ih (fun q hq => h q (by simp [hq]))]
    rfl
/-- what comes behind, in a list by rising names. -/
theorem CmL.less {all : Bool} {k : Nat} {L P : List (ByteArray × ABlob)} {pack : List UInt8} {s0 : Bool} {s : ByteArray} {x : ABlob} {r : List (ByteArray × ABlob)} (h : CmL all k L P pack s0 ((s, x) :: r)) (hs : SortedB L) : ∀ p ∈ P, ltS p.1 s = true := by
  have h1 : (L.map (·.1)).Pairwise (fun a b => ltS a b = true) := List.pairwise_map.2 hs
  rw [← h.names] at h1
  intro p hp
  exact (List.pairwise_append.1 h1).2.2 p.1 (List.mem_map.2 ⟨p, hp, rfl⟩) s (by simp)
theorem CmL.len {all : Bool} {k : Nat} {L P : List (ByteArray × ABlob)} {pack : List UInt8} {s0 : Bool} {r : List (ByteArray × ABlob)} (h : CmL all k L P pack s0 r) : P.length + r.length = L.length := by
  have := congrArg List.length h.names
  simpa using this
end Go.Proofs.YtbepcjajbcecnaaGreatDoor

/-
  Pages, plain: the chapter's examples (awake). No program here.
-/
namespace Go.Proofs.YtbepcjajbcecnaaGreatDoor

theorem names_eq5 {d : ADisk} (hs : SortedF d.fs) {l : List ByteArray} (hl : l.Pairwise (fun a b => ltS a b = true)) (h : ∀ u, lk d.fs u ≠ none ↔ u ∈ l) : d.names = l := ext_names (names_rise hs) hl (fun _ => mem_names_iff.trans (h _))
/-- a store upon a small disk. -/
structure Awk (d : ADisk) (st : AStore) (U F : Nat) : Prop where
  sits : Sits d st
  left : d.left = -1
  most : d.most = 1000
  com : ∃ L, Has d st.k L ∧ st.held = packsOf L ∧ ∀ p ∈ st.keys, p.2.pack ≠ 0 → p ∈ L
  used : usedF d.fs ≤ U
  files : d.fs.length ≤ F
def st05 : AStore := ⟨0, [], [], false⟩
theorem awk_new : Awk (newD 1000) st05 0 0 :=
  ⟨⟨List.Pairwise.nil, by simp [st05], by simp [st05], fun p hp => (by cases hp), fun p hp => (by cases hp), rfl, rfl, List.Pairwise.nil⟩, rfl, rfl, ⟨[], has_zero _, rfl, fun p hp => (by cases hp)⟩, by simp [newD, usedF], by simp [newD]⟩
theorem Awk.put {d : ADisk} {st : AStore} {U F : Nat} (h : Awk d st U F) {s : ByteArray} {b : List UInt8} (hk : okKey s = true) (hb : b.length ≤ 1000) (hf : st.keys.length ≤ 7) :
    pPut st s b = ({ st with keys := putB st.keys s ⟨b, 0, 0⟩ }, 0) ∧ Awk d { st with keys := putB st.keys s ⟨b, 0, 0⟩ } U F := by
  obtain ⟨h1, h2⟩ := put_sits h.sits (b := b) hk (by omega) (Or.inr (by omega))
  obtain ⟨L, a1, a2, a3⟩ := h.com
  refine ⟨h1, h2, h.left, h.most, ⟨L, a1, a2, fun p hp hn => ?_⟩, h.used, h.files⟩
  rcases mem_putB hp with rfl | hp
  · exact absurd rfl hn
  · exact a3 p hp hn
theorem Awk.drop {d : ADisk} {st : AStore} {U F : Nat} (h : Awk d st U F) {s : ByteArray} (hk : okKey s = true) :
    pDrop st s = ({ st with keys := delB st.keys s }, 0) ∧ Awk d { st with keys := delB st.keys s } U F := by
  obtain ⟨h1, h2⟩ := drop_sits h.sits hk
  obtain ⟨L, a1, a2, a3⟩ := h.com
  exact ⟨h1, h2, h.left, h.most, ⟨L, a1, a2, fun p hp hn => a3 p (List.mem_filter.1 hp).1 hn⟩, h.used, h.files⟩
theorem Awk.commit {d : ADisk} {st : AStore} {U F V : Nat} (h : Awk d st U F) {K : List (ByteArray × ABlob)} {pk : List UInt8} {sm : Bool} (hc : cmOf st = (K, pk, sm)) (hV : U + (bytesB st.keys + 28 + 100 * st.keys.length) ≤ V) (hV2 : V ≤ 1000) (hF : F ≤ 100) (hk : st.k ≤ 1000) {l : List ByteArray} (hl : ∀ u, lk d.fs u ≠ none ↔ u ∈ l) (hf : freshI ∉ l) :
    ∃ d', pCommit d st = (d', ⟨st.k + 1, K, packsOf K, false⟩, st.k + 1, 0) ∧ Awk d' ⟨st.k + 1, K, packsOf K, false⟩ V (F + 2) ∧ (lk d'.fs (cName (st.k + 1)) = if sm then some ⟨pk, []⟩ else lk d.fs (cName (st.k + 1))) ∧
      (∀ u, u ≠ cName (st.k + 1) → u ≠ iName (st.k + 1) → u ≠ freshI → lk d'.fs u = lk d.fs u) ∧ ∀ u, lk d'.fs u ≠ none ↔ (u = iName (st.k + 1) ∨ (sm = true ∧ u = cName (st.k + 1)) ∨ u ∈ l) := by
  have hk2 : st.k < 9007199254740992 := by omega
  have hcm : CmOk (decide (15 < (packsOf st.keys).length)) (st.k + 1) st.keys [] (cmOf st) := cm_ok _ _ _ _
  obtain ⟨he, hso, hln⟩ := commit_ents h.sits hk2
  have h1 := cmSize_le h.sits hk2
  have h5 := h.used
  have h6 := h.files
  have hlaw := commit_law h.sits hk2
  have e1 : (cmOf st).1 = K := by rw [hc]
  have e2 : (cmOf st).2.1 = pk := by rw [hc]
  have e3 : (cmOf st).2.2 = sm := by rw [hc]
  rcases hlaw with ⟨d', a1, a2⟩ | ⟨d', e, _, _, a3⟩
  · have g := a2.step.grow
    have hp := a2.pack
    have hh := a2.has
    rw [e1] at a1 he hso hln hh
    rw [e3, e2] at hp
    refine ⟨d', a1, ⟨⟨hso, by rw [hln]; exact h.sits.count, by show st.k + 1 ≤ _; omega, fun q hq => ?_, fun q hq _ => ?_, rfl, a2.step.up, a2.step.sorted⟩, a2.step.left h.left, g.most.trans h.most, ⟨K, hh, rfl, fun p hp _ => hp⟩, by have := g.used; omega, by have := g.len; omega⟩, hp, a2.other, fun u => ?_⟩
    · obtain ⟨p, hp, e1', e2'⟩ := contB_mem hcm.cont (by rw [e1]; exact hq)
      rw [← e1', ← e2']; exact h.sits.names p hp
    · exact ⟨(he q hq).p1, (he q hq).a1, hh.blobs q hq⟩
    · by_cases u2 : u = iName (st.k + 1)
      · subst u2
        have := hh.index (Nat.succ_ne_zero _)
        simp only [true_or, iff_true]
        rw [this]; simp
      · by_cases u1 : u = cName (st.k + 1)
        · subst u1
          rw [hp]
          cases sm with
          | true => simp
          | false => simp only [Bool.false_eq_true, if_false, false_and, false_or, u2]; exact hl _
        · by_cases u3 : u = freshI
          · subst u3
            rw [a2.fresh]
            simp [u1, u2, hf]
          · rw [a2.other u u1 u2 u3, hl]
            simp [u1, u2]
  · exfalso
    rcases a3.why with w | w | w
    · exact w h.left
    · rw [h.most] at w; omega
    · omega
theorem Awk.free {d : ADisk} {st : AStore} {U F : Nat} (h : Awk d st U F) :
    ∃ d', pFreeC d st = (d', st, d.names.filter (pOther st.k st.held), 0) ∧ Awk d' st U F ∧ ∀ u, lk d'.fs u ≠ none ↔ (lk d.fs u ≠ none ∧ pOther st.k st.held u = false) := by
  obtain ⟨L, a1, a2, a3⟩ := h.com
  obtain ⟨d', b1, b2, b3⟩ := free_ok st.k st.held h.sits.ds h.sits.up h.left d.names (fun s => names_lk) (names_nodup h.sits.ds)
  have hst : st.ends 0 = st := by
    have := h.sits.live
    cases st
    simp only at this
    subst this
    rfl
  have hkeep : ∀ p ∈ L, lk d'.fs (cName p.2.pack) = lk d.fs (cName p.2.pack) := by
    intro p hp
    have he := a1.ents p hp
    refine b2.kept _ (Or.inr ?_)
    rw [other_pack _ _ _ he.p0 he.pg, a2]
    exact decide_eq_false (fun e => e (packsOf_mem.2 ⟨by have := he.p0; omega, p, hp, rfl⟩))
  refine ⟨d', ?_, ⟨⟨h.sits.sorted, h.sits.count, h.sits.kG, h.sits.names, fun p hp hn => ?_, h.sits.live, b2.up, b2.sorted⟩, b2.left h.left, b3.trans h.most, ⟨L, a1.same (fun hk => ?_) hkeep, a2, a3⟩, by have := b2.grow.used; have := h.used; omega, by have := b2.grow.len; have := h.files; omega⟩, fun u => ?_⟩
  · unfold pFreeC pFree
    rw [if_neg (by simp [h.sits.live]), b1]
    simp only
    rw [hst]
  · obtain ⟨c1, c2, cc, c3, c4⟩ := h.sits.old p hp hn
    exact ⟨c1, c2, cc, (hkeep p (a3 p hp hn)).trans c3, c4⟩
  · exact b2.kept _ (Or.inr (other_index _ _ (by omega) a1.kG))
  · by_cases hu : u ∈ d.names
    · by_cases ho : pOther st.k st.held u = true
      · rw [b2.gone u hu ho]
        simp [ho]
      · have ho2 : pOther st.k st.held u = false := by simpa using ho
        rw [b2.kept u (Or.inr ho2)]
        simp [ho2]
    · rw [b2.kept u (Or.inl hu)]
      have : lk d.fs u = none := by
        cases hx : lk d.fs u with
        | none => rfl
        | some f => exact absurd (lk_names (by rw [hx]; simp)) hu
      rw [this]; simp
def kA5 : ByteArray := ⟨#[97]⟩
def kB5 : ByteArray := ⟨#[98]⟩
def ns1 : List ByteArray := [⟨#[99, 49]⟩, ⟨#[105, 49]⟩]
def ns2 : List ByteArray := [⟨#[99, 49]⟩, ⟨#[99, 50]⟩, ⟨#[105, 49]⟩, ⟨#[105, 50]⟩]
def ns3 : List ByteArray := [⟨#[99, 49]⟩, ⟨#[99, 50]⟩, ⟨#[105, 50]⟩]
def ns4 : List ByteArray := [⟨#[99, 49]⟩, ⟨#[99, 50]⟩, ⟨#[105, 50]⟩, ⟨#[105, 51]⟩]
def s25 : AStore := ⟨0, [(kA5, ⟨[120, 121, 122], 0, 0⟩), (kB5, ⟨[117, 118], 0, 0⟩)], [], false⟩
def s35 : AStore := ⟨1, [(kA5, ⟨[120, 121, 122], 1, 0⟩), (kB5, ⟨[117, 118], 1, 3⟩)], [1], false⟩
def s45 : AStore := ⟨1, [(kA5, ⟨[113], 0, 0⟩), (kB5, ⟨[117, 118], 1, 3⟩)], [1], false⟩
def s55 : AStore := ⟨2, [(kA5, ⟨[113], 2, 0⟩), (kB5, ⟨[117, 118], 1, 3⟩)], [2, 1], false⟩
def s65 : AStore := ⟨2, [(kA5, ⟨[113], 2, 0⟩)], [2, 1], false⟩
def s75 : AStore := ⟨3, [(kA5, ⟨[113], 2, 0⟩)], [2], false⟩
theorem nm_c1 : cName 1 = ⟨#[99, 49]⟩ := by decide +kernel
theorem nm_c2 : cName 2 = ⟨#[99, 50]⟩ := by decide +kernel
theorem nm_i1 : iName 1 = ⟨#[105, 49]⟩ := by decide +kernel
theorem nm_i2 : iName 2 = ⟨#[105, 50]⟩ := by decide +kernel
theorem nm_i3 : iName 3 = ⟨#[105, 51]⟩ := by decide +kernel
structure Awake5 (d1 d2 d3 d4 d5 : ADisk) : Prop where
  c1 : pCommit (newD 1000) s25 = (d1, s35, 1, 0)
  n1 : d1.names = ns1
  c2 : pCommit d1 s45 = (d2, s55, 2, 0)
  n2 : d2.names = ns2
  r2 : findErr d2 ⟨#[99, 49]⟩ = 0 ∧ d2.readBytes ⟨#[99, 49]⟩ = [120, 121, 122, 117, 118]
  f3 : pFreeC d2 s55 = (d3, s55, [⟨#[105, 49]⟩], 0)
  c4 : pCommit d3 s65 = (d4, s75, 3, 0)
  n4 : d4.names = ns4
  f5 : pFreeC d4 s75 = (d5, s75, [⟨#[99, 49]⟩, ⟨#[105, 50]⟩], 0)
theorem awake5_plain : ∃ d1 d2 d3 d4 d5, Awake5 d1 d2 d3 d4 d5 := by
  have a0 := awk_new
  have b1 : Awk (newD 1000) ⟨0, [(kA5, ⟨[120, 121, 122], 0, 0⟩)], [], false⟩ 0 0 := (a0.put (s := kA5) (b := [120, 121, 122]) (by decide) (by decide) (by decide)).2
  have b2 : Awk (newD 1000) s25 0 0 := (b1.put (s := kB5) (b := [117, 118]) (by decide) (by decide) (by decide)).2
  have hl0 : ∀ u, lk (newD 1000).fs u ≠ none ↔ u ∈ ([] : List ByteArray) := fun u => ⟨fun h => absurd rfl h, fun h => (by cases h)⟩
  obtain ⟨d1, c1, a1, p1, _, m1⟩ := b2.commit (K := s35.keys) (pk := [120, 121, 122, 117, 118]) (sm := true) (V := 233) rfl (by decide) (by decide) (by decide) (by decide) hl0 (by simp)
  rw [show s25.k + 1 = 1 from rfl] at c1 a1 p1 m1
  have m1' : ∀ u, lk d1.fs u ≠ none ↔ u ∈ ns1 := fun u => by rw [m1, nm_i1, nm_c1]; unfold ns1; simp; exact or_comm
  have q1 : lk d1.fs ⟨#[99, 49]⟩ = some ⟨[120, 121, 122, 117, 118], []⟩ := by rw [← nm_c1, p1]; rfl
  have b4 : Awk d1 s45 233 2 := (a1.put (s := kA5) (b := [113]) (by decide) (by decide) (by decide)).2
  obtain ⟨d2, c2, a2, p2, o2, m2⟩ := b4.commit (K := s55.keys) (pk := [113]) (sm := true) (V := 464) rfl (by decide) (by decide) (by decide) (by decide) m1' (by unfold ns1; simp only [List.mem_cons, List.not_mem_nil, or_false]; decide)
  rw [show s45.k + 1 = 2 from rfl] at c2 a2 p2 o2 m2
  have m2' : ∀ u, lk d2.fs u ≠ none ↔ u ∈ ns2 := fun u => by
    rw [m2, nm_i2, nm_c2]; unfold ns1 ns2; simp
    constructor
    · rintro (h | h | h | h) <;> simp [h]
    · rintro (h | h | h | h) <;> simp [h]
  have q2 : lk d2.fs ⟨#[99, 49]⟩ = some ⟨[120, 121, 122, 117, 118], []⟩ := (o2 _ (by rw [nm_c2]; decide) (by rw [nm_i2]; decide) (by decide)).trans q1
  have e2 : d2.names = ns2 := names_eq5 a2.sits.ds (by decide +kernel) m2'
  obtain ⟨d3, c3, a3, m3⟩ := a2.free
  rw [e2] at c3
  have f3 : ns2.filter (pOther 2 [2, 1]) = [⟨#[105, 49]⟩] := by decide +kernel
  have g3 : ns3 = ns2.filter (fun u => !pOther 2 [2, 1] u) := by decide +kernel
  have m3' : ∀ u, lk d3.fs u ≠ none ↔ u ∈ ns3 := fun u => by
    rw [m3, m2', g3, List.mem_filter]
    show (_ ∧ pOther 2 [2, 1] u = false) ↔ _
    simp
  have b6 : Awk d3 s65 464 4 := (a3.drop (s := kB5) (by decide)).2
  obtain ⟨d4, c4, a4, _, _, m4⟩ := b6.commit (K := s75.keys) (pk := []) (sm := false) (V := 593) rfl (by decide) (by decide) (by decide) (by decide) m3' (by unfold ns3; simp only [List.mem_cons, List.not_mem_nil, or_false]; decide)
  rw [show s65.k + 1 = 3 from rfl] at c4 a4 m4
  have m4' : ∀ u, lk d4.fs u ≠ none ↔ u ∈ ns4 := fun u => by
    rw [m4, nm_i3]; unfold ns3 ns4; simp
    constructor
    · rintro (h | h | h | h) <;> simp [h]
    · rintro (h | h | h | h) <;> simp [h]
  have e4 : d4.names = ns4 := names_eq5 a4.sits.ds (by decide +kernel) m4'
  obtain ⟨d5, c5, _, _⟩ := a4.free
  rw [e4] at c5
  have f5 : ns4.filter (pOther 3 [2]) = [⟨#[99, 49]⟩, ⟨#[105, 50]⟩] := by decide +kernel
  refine ⟨d1, d2, d3, d4, d5, ⟨c1, names_eq5 a1.sits.ds (by decide +kernel) m1', c2, e2, read_firm a2.sits.up q2, ?_, c4, e4, ?_⟩⟩
  · exact (show pFreeC d2 s55 = (d3, s55, ns2.filter (pOther 2 [2, 1]), 0) from c3).trans (by rw [f3])
  · exact (show pFreeC d4 s75 = (d5, s75, ns4.filter (pOther 3 [2]), 0) from c5).trans (by rw [f5])
end Go.Proofs.YtbepcjajbcecnaaGreatDoor
