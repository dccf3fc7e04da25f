/-
  Roots as plain data: their bytes, and what is parsed of bytes. No program here. S is the sum of bytes: four bytes.
-/
import Derived.Test.YtnagejhpdhdpfaaGreatDoorVar0
namespace Go.Proofs.YtnagejhpdhdpfaaGreatDoor

structure ARoot where
  serial : Nat
  tick : Nat
  commit : Nat
  blob : List UInt8

def ARoot.bytes (r : ARoot) : List UInt8 := [72, 83, 82, 49] ++ (vint r.serial ++ (vint r.tick ++ (vint r.commit ++ (vint r.blob.length ++ r.blob))))
/-- numbers that may be. -/
structure ARoot.Ok (r : ARoot) : Prop where
  s0 : 0 < r.serial
  s1 : r.serial ≤ 9007199254740992
  t1 : r.tick ≤ 9007199254740992
  c1 : r.commit ≤ 9007199254740992
  b1 : r.blob.length ≤ 1048576

/-- what GetBlob tells: the error, the bytes, how many bytes it has in all. -/
def gB (l : List UInt8) (most : Nat) : Int × List UInt8 × Nat :=
  match gU l with
  | (0, n, k) => if most < n then (3, [], 0) else if l.length - k < n then (11, [], 0) else (0, (l.drop k).take n, k + n)
  | (e, _, _) => (e, [], 0)
/-- what Parse tells of the bytes within the seal. -/
def pRoot (l : List UInt8) : Option ARoot :=
  if l.take 4 = [72, 83, 82, 49] then
    match gU (l.drop 4) with
    | (0, s, k1) => if 9007199254740992 < s ∨ s = 0 then none else
      match gU (l.drop (4 + k1)) with
      | (0, t, k2) => if 9007199254740992 < t then none else
        match gU (l.drop (4 + k1 + k2)) with
        | (0, c, k3) => if 9007199254740992 < c then none else
          match gB (l.drop (4 + k1 + k2 + k3)) 1048576 with
          | (0, b, k4) => if 4 + k1 + k2 + k3 + k4 < l.length then none else some ⟨s, t, c, b⟩
          | _ => none
        | _ => none
      | _ => none
    | _ => none
  else none
theorem gB_put (b r : List UInt8) (most : Nat) (h : b.length ≤ most) (hb : b.length < 18446744073709551616) : gB (vint b.length ++ (b ++ r)) most = (0, b, (vint b.length).length + b.length) := by
  unfold gB
  rw [gU_vint _ _ hb]
  simp only
  rw [if_neg (by omega), if_neg (by simp), List.drop_left, List.take_left]
theorem pRoot_bytes (r : ARoot) (h : r.Ok) : pRoot r.bytes = some r := by
  obtain ⟨serial, tick, commit, blob⟩ := r
  obtain ⟨h1, h2, h3, h4, h5⟩ := h
  simp only at h1 h2 h3 h4 h5
  unfold pRoot ARoot.bytes
  simp only
  have d0 : ([72, 83, 82, 49] ++ (vint serial ++ (vint tick ++ (vint commit ++ (vint blob.length ++ blob))))).drop 4 = vint serial ++ (vint tick ++ (vint commit ++ (vint blob.length ++ blob))) := rfl
  have d1 : ([72, 83, 82, 49] ++ (vint serial ++ (vint tick ++ (vint commit ++ (vint blob.length ++ blob))))).drop (4 + (vint serial).length) = vint tick ++ (vint commit ++ (vint blob.length ++ blob)) := by
    rw [← List.drop_drop, d0, List.drop_left]
  have d2 : ([72, 83, 82, 49] ++ (vint serial ++ (vint tick ++ (vint commit ++ (vint blob.length ++ blob))))).drop (4 + (vint serial).length + (vint tick).length) = vint commit ++ (vint blob.length ++ blob) := by
    rw [← List.drop_drop, d1, List.drop_left]
  have d3 : ([72, 83, 82, 49] ++ (vint serial ++ (vint tick ++ (vint commit ++ (vint blob.length ++ blob))))).drop (4 + (vint serial).length + (vint tick).length + (vint commit).length) = vint blob.length ++ blob := by
    rw [← List.drop_drop, d2, List.drop_left]
  have hg := gB_put blob [] 1048576 h5 (by omega)
  rw [List.append_nil] at hg
  have ht0 : ([72, 83, 82, 49] ++ (vint serial ++ (vint tick ++ (vint commit ++ (vint blob.length ++ blob))))).take 4 = [72, 83, 82, 49] := rfl
  rw [if_pos ht0, d0, gU_vint _ _ (by omega)]
  simp only
  rw [if_neg (by omega), d1, gU_vint _ _ (by omega)]
  simp only
  rw [if_neg (by omega), d2, gU_vint _ _ (by omega)]
  simp only
  rw [if_neg (by omega), d3, hg]
  simp only
  rw [if_neg (by simp; omega)]
theorem drop_split {l : List UInt8} {k : Nat} {x : List UInt8} (h : l.take k = x) : l = x ++ l.drop k := by rw [← h, List.take_append_drop]
theorem pRoot_ok {l : List UInt8} {r : ARoot} (h : pRoot l = some r) : r.Ok ∧ l = r.bytes := by
  unfold pRoot at h
  split at h
  · rename_i h4
    split at h
    · rename_i s k1 hs
      split at h
      · cases h
      · rename_i hs1
        split at h
        · rename_i t k2 ht
          split at h
          · cases h
          · rename_i ht1
            split at h
            · rename_i c k3 hc
              split at h
              · cases h
              · rename_i hc1
                split at h
                · rename_i b k4 hb
                  split at h
                  · cases h
                  · rename_i hend
                    cases h
                    obtain ⟨s1, s2, s3, _, _⟩ := gU_ok hs
                    obtain ⟨t1, t2, t3, _, _⟩ := gU_ok ht
                    obtain ⟨c1, c2, c3, _, _⟩ := gU_ok hc
                    unfold gB at hb
                    cases hu : gU (l.drop (4 + k1 + k2 + k3)) with
                    | mk e nk =>
                      obtain ⟨n, k⟩ := nk
                      rw [hu] at hb
                      split at hb
                      · rename_i n' k' heq
                        simp only [Prod.mk.injEq] at heq
                        obtain ⟨rfl, rfl, rfl⟩ := heq
                        obtain ⟨u1, u2, u3, _, _⟩ := gU_ok hu
                        split at hb
                        · simp at hb
                        · rename_i hm
                          split at hb
                          · simp at hb
                          · rename_i hlen
                            simp only [Prod.mk.injEq, true_and] at hb
                            obtain ⟨rfl, rfl⟩ := hb
                            have hbl : (((l.drop (4 + k1 + k2 + k3)).drop k).take n).length = n := by simp at hlen ⊢; omega
                            refine ⟨⟨show 0 < s by omega, show s ≤ 9007199254740992 by omega, show t ≤ 9007199254740992 by omega, show c ≤ 9007199254740992 by omega, show (((l.drop (4 + k1 + k2 + k3)).drop k).take n).length ≤ 1048576 by rw [hbl]; omega⟩, ?_⟩
                            have e0 := drop_split h4
                            have e1 := drop_split s1
                            have e2 := drop_split t1
                            have e3 := drop_split c1
                            have e4 := drop_split u1
                            rw [List.drop_drop] at e1 e2 e3
                            have e5 : (l.drop (4 + k1 + k2 + k3)).drop k = ((l.drop (4 + k1 + k2 + k3)).drop k).take n := by
                              rw [List.take_of_length_le]
                              simp at hend hlen ⊢
                              omega
                            unfold ARoot.bytes
                            simp only
                            rw [hbl, ← e5, ← e4, ← e3, ← e2, ← e1]
                            exact e0
                      · exfalso
                        simp only [Prod.mk.injEq] at hb
                        simp_all
                · cases h
            · cases h
        · cases h
    · cases h
  · cases h
/-- no root's bytes begin another's. -/
theorem root_prefix {r r' : ARoot} (h : r.Ok) (h' : r'.Ok) {z : List UInt8} (e : r'.bytes ++ z = r.bytes) : z = [] := by
  obtain ⟨serial, tick, commit, blob⟩ := r
  obtain ⟨serial', tick', commit', blob'⟩ := r'
  obtain ⟨h1, h2, h3, h4, h5⟩ := h
  obtain ⟨g1, g2, g3, g4, g5⟩ := h'
  simp only at h1 h2 h3 h4 h5 g1 g2 g3 g4 g5
  unfold ARoot.bytes at e
  simp only [List.append_assoc] at e
  have step : ∀ (m n : Nat) (x y : List UInt8), m < 18446744073709551616 → n < 18446744073709551616 → vint m ++ x = vint n ++ y → m = n ∧ x = y := by
    intro m n x y hm hn he
    have q1 := gU_vint m x hm
    have q2 := gU_vint n y hn
    rw [he, q2] at q1
    simp only [Prod.mk.injEq, true_and] at q1
    obtain ⟨rfl, _⟩ := q1
    exact ⟨rfl, List.append_cancel_left he⟩
  have e1 := List.append_cancel_left e
  obtain ⟨_, e2⟩ := step _ _ _ _ (by omega) (by omega) e1
  obtain ⟨_, e3⟩ := step _ _ _ _ (by omega) (by omega) e2
  obtain ⟨_, e4⟩ := step _ _ _ _ (by omega) (by omega) e3
  obtain ⟨hl, e5⟩ := step _ _ _ _ (by omega) (by omega) e4
  have := congrArg List.length e5
  simp only [List.length_append] at this
  exact List.eq_nil_of_length_eq_zero (by omega)
/-- bytes and their sum. -/
def sealL (S : List UInt8 → List UInt8) (b : List UInt8) : List UInt8 := b ++ S b
/-- what Unseal tells. -/
def unsealL (S : List UInt8 → List UInt8) (l : List UInt8) : Int × List UInt8 :=
  if l.length < 4 then (11, []) else if sealL S (l.take (l.length - 4)) = l then (0, l.take (l.length - 4)) else (12, [])
/-- what Parse tells. -/
def parseL (S : List UInt8 → List UInt8) (l : List UInt8) : Int × Option ARoot :=
  match unsealL S l with
  | (0, b) => match pRoot b with
    | some r => (0, some r)
    | none => (10, none)
  | (e, _) => (e, none)
theorem unseal_seal {S : List UInt8 → List UInt8} (hS : ∀ b, (S b).length = 4) (b : List UInt8) : unsealL S (sealL S b) = (0, b) := by
  have hl : (sealL S b).length = b.length + 4 := by simp [sealL, hS]
  have ht : (sealL S b).take ((sealL S b).length - 4) = b := by rw [hl, Nat.add_sub_cancel]; unfold sealL; rw [List.take_left]
  unfold unsealL
  rw [if_neg (by omega), ht, if_pos rfl]
theorem parse_seal {S : List UInt8 → List UInt8} (hS : ∀ b, (S b).length = 4) {r : ARoot} (h : r.Ok) : parseL S (sealL S r.bytes) = (0, some r) := by
  unfold parseL
  rw [unseal_seal hS]
  simp only
  rw [pRoot_bytes r h]
theorem parse_ok {S : List UInt8 → List UInt8} {l : List UInt8} {r : ARoot} {e : Int} (h : parseL S l = (e, some r)) : e = 0 ∧ r.Ok ∧ l = sealL S r.bytes := by
  unfold parseL unsealL at h
  split at h
  · rename_i b hu
    split at hu
    · simp at hu
    · split at hu
      · rename_i hs
        simp only [Prod.mk.injEq, true_and] at hu
        split at h
        · rename_i r' hp
          simp only [Prod.mk.injEq, Option.some.injEq] at h
          obtain ⟨rfl, rfl⟩ := h
          obtain ⟨h1, h2⟩ := pRoot_ok hp
          exact ⟨rfl, h1, by rw [← h2, ← hu]; exact hs.symm⟩
        · simp at h
      · simp at hu
  · simp at h
/-- a root's bytes that lack some at the end are none. -/
theorem parse_cut {S : List UInt8 → List UInt8} (hS : ∀ b, (S b).length = 4) {r : ARoot} (h : r.Ok) (n : Nat) (hn : n < (sealL S r.bytes).length) : (parseL S ((sealL S r.bytes).take n)).2 = none := by
  cases hp : parseL S ((sealL S r.bytes).take n) with
  | mk e o =>
    cases o with
    | none => rfl
    | some r' =>
      exfalso
      obtain ⟨_, h1, h2⟩ := parse_ok hp
      have hl : (sealL S r.bytes).length = r.bytes.length + 4 := by simp [sealL, hS]
      have hl' : (sealL S r'.bytes).length = r'.bytes.length + 4 := by simp [sealL, hS]
      have hlen := congrArg List.length h2
      rw [List.length_take, hl'] at hlen
      have ht := congrArg (List.take r'.bytes.length) h2
      rw [List.take_take, Nat.min_eq_left (by omega)] at ht
      unfold sealL at ht
      rw [List.take_left, List.take_append_of_le_length (by omega)] at ht
      have e1 : r'.bytes ++ r.bytes.drop r'.bytes.length = r.bytes := by rw [← ht, List.length_take, Nat.min_eq_left (by omega)]; exact List.take_append_drop _ _
      have hz := root_prefix h h1 e1
      have := congrArg List.length hz
      simp only [List.length_drop, List.length_nil] at this
      omega
end Go.Proofs.YtnagejhpdhdpfaaGreatDoor
