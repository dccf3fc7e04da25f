/-
  WalTrims, plain: what Trim takes of a journal that was built. No program here.
-/
import Derived.Test.YtbiadclmonakkaaGreatDoorMWal16
import Derived.Test.YtbiadclmonakkaaGreatDoorMWmD
namespace Go.Proofs.YtbiadclmonakkaaGreatDoor

theorem trim_again {d : ADisk} {al : ALog} {ss : List Seg} (h : J d al ss) (below : Int) (hg : goes below ss = false) : wTrim d al below = (d, al, [], 0) := by
  unfold wTrim
  rw [if_neg (by rw [h.live]; simp), h.segs]
  have he : { al with segs := ss.map segV } = al := by
    have := h.segs
    cases al
    simp only at this
    rw [this]
  cases ss with
  | nil => unfold wTrimL; exact congrArg (fun x => (d, x, [], 0)) he
  | cons x r =>
    cases r with
    | nil => unfold wTrimL; exact congrArg (fun x => (d, x, [], 0)) he
    | cons y r =>
      have hy : ¬ (y.1 : Int) ≤ below := by simpa [goes] using hg
      show wTrimL d al below (segV x :: segV y :: r.map segV) = _
      unfold wTrimL
      rw [if_neg (show ¬ ((segV y).1 : Int) ≤ below from hy)]
      exact congrArg (fun x => (d, x, [], 0)) he
theorem allRecs_app (a b : List Seg) : allRecs (a ++ b) = allRecs a ++ allRecs b := by simp [allRecs]
theorem numbered_drop (n : Nat) (R : List (List UInt8)) (j : Nat) : (numbered n R).drop j = numbered (n + j) (R.drop j) := by
  induction R generalizing n j with
  | nil => simp [numbered]
  | cons b R ih =>
    cases j with
    | zero => rfl
    | succ j => simp only [List.drop_succ_cons, numbered, ih, show n + 1 + j = n + (j + 1) by omega]
theorem chain_app {a b : List Seg} {y z : Seg} (h : chain (a ++ [y] ++ z :: b)) : z.1 = y.1 + y.2.length := by
  induction a with
  | nil => exact h.2.2.1
  | cons x a ih =>
    cases a with
    | nil => exact ih h.2.2.2
    | cons u a => exact ih h.2.2.2
theorem chain_suffix {a b : List Seg} (h : chain (a ++ b)) : chain b := by
  induction a with
  | nil => exact h
  | cons x a ih => exact ih (chain_tail h)
/-- what WalTrims asks. -/
structure Tr (n0 : Nat) (L : List (List UInt8)) (below : Nat) (d : ADisk) (al : ALog) (ss : List Seg) (G : Nat) (d2 : ADisk) (al2 : ALog) (d3 : ADisk) (f : AFound) (R : Nat) : Prop where
  one : wTrim d al below = (d2, al2, (al.names).take G, 0)
  two : wTrim d2 al2 below = (d2, al2, [], 0)
  g : G ≤ al.names.length
  gl : G ≤ al.names.length - 1
  names : al2.names = al.names.drop G
  re : wOpen d2 64 = (d3, f, 0)
  recs : f.recs = (numbered n0 L).drop (L.length - R)
  r : f.recs.length = R
  rl : R ≤ L.length
  pos : L ≠ [] → 0 < R
  fst : R ≠ L.length → n0 + (L.length - R) ≤ below
  last : L ≠ [] → al2.last = n0 + L.length - 1
  ok2 : al2.size = al.size ∧ al2.next = al.next ∧ al2.bytes = al.bytes ∧ al2.synced = al.synced ∧ ∀ x ∈ al2.segs, x ∈ al.segs
  seg2 : al2.segs.length ≤ al.segs.length
theorem names_map {al : ALog} {ss : List Seg} (h : al.segs = ss.map segV) : al.segs.map (fun x => wName x.1) = ss.map (fun y => wName y.1) := by
  rw [h, List.map_map]; rfl
theorem trims_plain {n0 size : Nat} {L : List (List UInt8)} {d : ADisk} {al : ALog} {ss : List Seg} (h : Built n0 size L d al ss) (below : Nat) : ∃ G d2 al2 d3 f R, Tr n0 L below d al ss G d2 al2 d3 f R := by
  have hnm0 := names_map h.j.segs
  by_cases hs : ss = []
  · subst hs
    have hL : L = [] := by
      have := h.recs_len
      exact List.eq_nil_of_length_eq_zero this.symm
    subst hL
    obtain ⟨e1, e2⟩ := open_bare h.j.on.bare_of h.j.up 64 (by decide) (by decide)
    have ht := trim_none h.j (below : Int)
    have hsg : al.segs = [] := h.j.segs
    have hnm : al.names = [] := by unfold ALog.names; rw [hsg]; rfl
    exact ⟨0, d, al, d, f0, 0, by rw [ht, hnm]; rfl, ht, Nat.zero_le _, Nat.zero_le _, rfl, e1, rfl, rfl, Nat.le_refl _, fun h => absurd rfl h, fun h => absurd rfl h, fun h => absurd rfl h, ⟨rfl, rfl, rfl, rfl, fun _ h => h⟩, Nat.le_refl _⟩
  · have hL : L ≠ [] := fun e => hs (h.nil0 e)
    obtain ⟨d2, gone, ss', e1, e2, hor⟩ := trim_law h.j hs (below : Int)
    rcases hor with ⟨t1, t2, t3, t4, t5⟩ | ⟨t1, _⟩
    · obtain ⟨d3, f, re⟩ := t2.reopen (t4 h.left) 64 (by decide) (by decide)
      have hrl := h.recs_len
      have hrec := h.recs
      rw [e1, allRecs_app] at hrec
      rw [e1, allRecs_app, List.length_append] at hrl
      have hdrop : allRecs ss' = (numbered n0 L).drop (L.length - (allRecs ss').length) := by
        rw [← hrec, show L.length - (allRecs ss').length = (allRecs gone).length by omega, List.drop_left]
      have hnm : al.names = ss.map (fun y => wName y.1) := hnm0
      have hnm2 : ({ al with segs := ss'.map segV } : ALog).names = ss'.map (fun y => wName y.1) := names_map rfl
      have hpos : 0 < (allRecs ss').length := by
        cases hss : ss' with
        | nil => exact absurd hss e2
        | cons x r =>
          have hx : x.2 ≠ [] := h.some1 x (by rw [e1, hss]; simp)
          have : 0 < x.2.length := List.length_pos_iff.2 hx
          simp only [allRecs, List.flatMap_cons, List.length_append, numbered_len4]
          omega
      refine ⟨gone.length, d2, { al with segs := ss'.map segV }, d3, f, (allRecs ss').length, ?_, trim_again t2 below t3, ?_, ?_, ?_, re.eq, by rw [re.recs]; exact hdrop, by rw [re.recs], by omega, fun _ => hpos, ?_, fun hL => ?_, ⟨rfl, rfl, rfl, rfl, fun x hx => ?_⟩, ?_⟩
      · rw [t1, hnm, e1, List.map_append, List.take_append_of_le_length (by rw [List.length_map]; exact Nat.le_refl _), List.take_of_length_le (by rw [List.length_map]; exact Nat.le_refl _)]
      · rw [hnm, e1, List.length_map, List.length_append]; omega
      · rw [hnm, e1, List.length_map, List.length_append]
        have : 0 < ss'.length := List.length_pos_iff.2 e2
        omega
      · rw [hnm2, hnm, e1, List.map_append]
        exact (List.drop_left' (by rw [List.length_map])).symm
      · intro hR
        rcases List.eq_nil_or_concat gone with rfl | ⟨g0, y, rfl⟩
        · exfalso
          simp [allRecs] at hrl
          apply hR
          simp [allRecs]; omega
        · rw [List.concat_eq_append] at *
          obtain ⟨z, _, _, hz2, hz3⟩ := t5 y (by simp)
          cases hss : ss' with
          | nil => exact absurd hss e2
          | cons x r =>
            rw [hss] at e1 hdrop hrl hrec
            have hc := h.j.on.chain
            rw [e1] at hc
            have hx := chain_app hc
            have hx2 : x.2 ≠ [] := h.some1 x (by rw [e1]; simp)
            have hhd : (allRecs (x :: r)).head?.map (·.n) = some x.1 := by
              cases hxx : x.2 with
              | nil => exact absurd hxx hx2
              | cons b q => simp [allRecs, hxx, numbered]
            rw [hdrop, numbered_drop] at hhd
            have hxe : x.1 = n0 + (L.length - (allRecs (x :: r)).length) := by
              cases hq : L.drop (L.length - (allRecs (x :: r)).length) with
              | nil => rw [hq] at hhd; simp [numbered] at hhd
              | cons b q => rw [hq] at hhd; simp [numbered] at hhd; exact hhd.symm
            omega
      · show ({ al with segs := ss'.map segV } : ALog).next - 1 = _
        show al.next - 1 = _
        rw [h.j.next, h.next hL]
      · have hx : x ∈ ss'.map segV := hx
        rw [h.j.segs, e1, List.map_append]
        exact List.mem_append_right _ hx
      · show (ss'.map segV).length ≤ _
        rw [h.j.segs, e1, List.length_map, List.length_map, List.length_append]; omega
    · exact absurd h.left t1
end Go.Proofs.YtbiadclmonakkaaGreatDoor
