/-
  RootsSwitch: the plain law.
-/
import Derived.Test.YtnagejhpdhdpfaaDoorRt8
import Derived.Test.YtnagejhpdhdpfaaDoorBack0
namespace Go.Proofs.YtnagejhpdhdpfaaDoor

/-- arming a good disk. -/
theorem arm_good {d : ADisk} (g : Good d) (n : Int) : Good (d.arm n) ∧ readR (d.arm n) = readR d := by
  have e : d.arm n = { d with left := max n 0 } := by unfold ADisk.arm; rw [if_neg (by simp [g.up])]
  rw [e]
  refine ⟨⟨⟨g.up, ⟨g.three.none, g.three.len⟩, g.most, g.sorted⟩, g.firm⟩, ?_⟩
  rw [readR_eq g.up, readR_eq (d := { d with left := max n 0 }) g.up, cand_lk (d := d) (d' := { d with left := max n 0 }) g.up g.up rfl, cand_lk (d := d) (d' := { d with left := max n 0 }) g.up g.up rfl]
/-- a write, and what is read behind it, or behind a crash. -/
theorem switch_step {d : ADisk} (g : Good d) {n : Nat} (hn : (readR d).serial = n) {t c : Int} {b : List UInt8} (he : rbErr ((n + 1 : Nat) : Int) t c b.length = 0) (hb : b.length ≤ 120) :
    (∃ d', wrAll d t c b = (d', 0) ∧ Good d' ∧ readR d' = aroot ((n + 1 : Nat) : Int) t c b ∧ ∀ keeps, Good (d'.crash keeps) ∧ readR (d'.crash keeps) = aroot ((n + 1 : Nat) : Int) t c b) ∨
      (∃ d', wrAll d t c b = (d', 15) ∧ ∀ keeps, Good (d'.crash keeps) ∧ readR (d'.crash keeps) = readR d) := by
  have hlaw := write_law g.toFair (t := t) (c := c) (b := b) (by rw [hn]; exact he) hb
  rw [hn] at hlaw
  rcases hlaw with ⟨d', a, f, h1, r, _⟩ | ⟨_, d', a, _, m⟩
  · left
    have g' := h1 g.firm
    refine ⟨d', a, g', r, fun keeps => ?_⟩
    obtain ⟨c1, c2, _⟩ := crash_good g' (mid_refl g') keeps
    exact ⟨c1, c2.trans r⟩
  · right
    refine ⟨d', a, fun keeps => ?_⟩
    obtain ⟨c1, c2, _⟩ := crash_good g m keeps
    exact ⟨c1, c2⟩
theorem switch_no {d : ADisk} (g : Good d) {n : Nat} (hn : (readR d).serial = n) {t c : Int} {b : List UInt8} (he : rbErr ((n + 1 : Nat) : Int) t c b.length = 2) : wrAll d t c b = (d, 2) := by
  have := write_no g.toFair (t := t) (c := c) (b := b) (by rw [hn, he]; decide)
  rw [hn, he] at this
  exact this
end Go.Proofs.YtnagejhpdhdpfaaDoor
