/-
  RootsTurns: the plain law.
-/
import Derived.Test.YtnagejhpdhdpfaaDoorRt8
import Derived.Test.YtnagejhpdhdpfaaDoorBack0
namespace Go.Proofs.YtnagejhpdhdpfaaDoor

/-- the disk behind n writes. -/
structure TurnIs (d : ADisk) (n : Nat) : Prop extends Good d where
  left : d.left = -1
  serial : (readR d).serial = n
  fresh : lk d.fs freshN = none
  one : 1 ≤ n → (lk d.fs (rname 1)).isSome = true
  zero : 2 ≤ n → (lk d.fs (rname 0)).isSome = true
  none1 : n = 0 → lk d.fs (rname 1) = none
  none0 : n ≤ 1 → lk d.fs (rname 0) = none
theorem turn_new (n : Int) (h : 1000 ≤ n) : TurnIs ⟨n, -1, false, []⟩ 0 := by
  obtain ⟨g, r⟩ := new_good n h
  exact ⟨g, rfl, by rw [r]; rfl, rfl, fun h => by omega, fun h => by omega, fun _ => rfl, fun _ => rfl⟩
theorem turn_len {d : ADisk} {n : Nat} (h : TurnIs d n) : d.names.length = min n 2 := by
  have hl := three_len h.three h.sorted
  unfold ADisk.names
  rw [List.length_map, hl, h.fresh]
  unfold cntO
  have hn : n = 0 ∨ n = 1 ∨ 2 ≤ n := by omega
  rcases hn with rfl | rfl | hn
  · rw [h.none0 (by omega), h.none1 rfl]; rfl
  · rw [h.none0 (by omega), h.one (by omega)]; rfl
  · rw [h.zero hn, h.one (by omega)]
    simp only [if_true, Option.isSome_none, Bool.false_eq_true, if_false]
    omega
theorem turn_step {d : ADisk} {n : Nat} (h : TurnIs d n) {t c : Int} {b : List UInt8} (he : rbErr ((n + 1 : Nat) : Int) t c b.length = 0) (hb : b.length ≤ 120) :
    ∃ d', wrAll d t c b = (d', 0) ∧ TurnIs d' (n + 1) ∧ readR d' = aroot ((n + 1 : Nat) : Int) t c b ∧ findErr d' (rname n) = findErr d (rname n) ∧ d'.readBytes (rname n) = d.readBytes (rname n) ∧ d'.most = d.most := by
  have hs := h.serial
  have hlaw := write_law h.toFair (t := t) (c := c) (b := b) (by rw [hs]; exact he) hb
  rw [hs] at hlaw
  rcases hlaw with ⟨d', a, g, f, r, l, m, ⟨x, k, bx⟩, nf, o⟩ | ⟨hl, _⟩
  rotate_left
  · exact absurd h.left hl
  have hlk : lk d'.fs (rname n) = lk d.fs (rname n) := o _ (fun e => rname_succ n e.symm) (rname_fresh n)
  have hser : (readR d').serial = n + 1 := by rw [r]; simp [aroot]
  have h01 := rname_01
  refine ⟨d', a, ⟨f h.firm, l h.left, hser, nf, fun _ => ?_, fun h2 => ?_, fun h0 => by omega, fun h1 => ?_⟩, r, ?_, ?_, m⟩
  · rcases Nat.mod_two_eq_zero_or_one n with hp | hp
    · have : rname 1 = rname (n + 1) := by unfold rname; rw [if_neg (by decide), if_neg (by omega)]
      rw [this, k]; rfl
    · have hr : rname n = rname 1 := by unfold rname; rw [if_neg (by omega), if_neg (by decide)]
      rw [← hr, hlk, hr]
      exact h.one (by omega)
  · rcases Nat.mod_two_eq_zero_or_one n with hp | hp
    · have hr : rname n = rname 0 := by unfold rname; rw [if_pos (by omega), if_pos (by decide)]
      rw [← hr, hlk, hr]
      exact h.zero (by omega)
    · have : rname 0 = rname (n + 1) := by unfold rname; rw [if_pos (by decide), if_pos (by omega)]
      rw [this, k]; rfl
  · have hn : n = 0 := by omega
    subst hn
    rw [o (rname 0) h01 (rname_fresh 0)]
    exact h.none0 (by omega)
  · unfold findErr; rw [hlk, g.up, h.up]
  · have hf : findErr d' (rname n) = findErr d (rname n) := by unfold findErr; rw [hlk, g.up, h.up]
    have ha : afile d' (rname n) = afile d (rname n) := by unfold afile; rw [hlk]
    unfold ADisk.readBytes; rw [hf, ha]
theorem turn_bad {d : ADisk} {n : Nat} (h : TurnIs d n) {t c : Int} {b : List UInt8} (he : rbErr ((n + 1 : Nat) : Int) t c b.length = 2) : wrAll d t c b = (d, 2) := by
  have hs := h.serial
  have := write_no h.toFair (t := t) (c := c) (b := b) (by rw [hs, he]; decide)
  rw [hs, he] at this
  exact this
end Go.Proofs.YtnagejhpdhdpfaaDoor
