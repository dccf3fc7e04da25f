/-
  Roots and their bytes: one for the other. No program here.
-/
import Derived.Test.YtnagejhpdhdpfaaDoorRt7
import Derived.Test.YtnagejhpdhdpfaaDoorRtQ
namespace Go.Proofs.YtnagejhpdhdpfaaDoor

theorem aroot_of {r : ARoot} : aroot (r.serial : Int) (r.tick : Int) (r.commit : Int) r.blob = r := by cases r; simp [aroot]
theorem rb_of_ok {r : ARoot} (h : r.Ok) : rbErr (r.serial : Int) (r.tick : Int) (r.commit : Int) r.blob.length = 0 := by
  obtain ⟨h0, h1, h2, h3, h4⟩ := h
  unfold rbErr; rw [if_neg (by omega), if_neg (by omega)]
theorem out_of_ok {r : ARoot} (h : r.Ok) : rbOut (r.serial : Int) (r.tick : Int) (r.commit : Int) r.blob = sealL sumL r.bytes := by
  unfold rbOut; rw [if_pos (rb_of_ok h), aroot_of]
theorem parse_full {l : List UInt8} (h : parseE l = 0) : l = sealL sumL (parseR l).bytes := by
  obtain ⟨er, b, hun⟩ : ∃ er b, unsealL sumL l = (er, b) := ⟨_, _, rfl⟩
  have hq := parse_un hun
  have h0 := h
  unfold parseE at h
  by_cases he : er = 0
  · rw [if_pos he] at hq
    cases hr : pRoot b with
    | none => rw [hr] at hq; rw [hq] at h; exact absurd h (by decide)
    | some r =>
      rw [hr] at hq
      have hp : parseR l = r := by unfold parseR; rw [hq]; rfl
      rw [hp]
      exact (parse_ok hq).2.2
  · rw [if_neg he] at hq
    rw [hq] at h
    exact absurd h he
theorem back1 {l : List UInt8} (h : parseE l = 0) : rbErr ((parseR l).serial : Int) ((parseR l).tick : Int) ((parseR l).commit : Int) (parseR l).blob.length = 0 ∧ rbOut ((parseR l).serial : Int) ((parseR l).tick : Int) ((parseR l).commit : Int) (parseR l).blob = l :=
  ⟨rb_of_ok (parse_good l h), (out_of_ok (parse_good l h)).trans (parse_full h).symm⟩
theorem rb_nums {s t c : Int} {n : Nat} (h : rbErr s t c n = 0) : 1 ≤ s ∧ 0 ≤ t ∧ 0 ≤ c := by
  unfold rbErr at h
  split at h
  · cases h
  · omega
theorem back3 {s t c : Int} {b : List UInt8} (h : rbErr s t c b.length = 0) : parseE (rbOut s t c b) = 0 ∧ parseR (rbOut s t c b) = aroot s t c b := by
  have : rbOut s t c b = sealL sumL (aroot s t c b).bytes := by unfold rbOut; rw [if_pos h]
  rw [this]
  exact parse_root (rb_ok h)
theorem back4 {s t c : Int} {b : List UInt8} (h : rbErr s t c b.length = 0) : sameR (aroot s t c b).serial (aroot s t c b).tick (aroot s t c b).commit (aroot s t c b).blob s t c b = true := by
  obtain ⟨h1, h2, h3⟩ := rb_nums h
  unfold sameR aroot
  simp only
  rw [Int.toNat_of_nonneg (by omega), Int.toNat_of_nonneg h2, Int.toNat_of_nonneg h3]
  simp
theorem back2 {s t c s' t' c' : Int} {b b' : List UInt8} (h : rbErr s t c b.length = 0) (h' : rbErr s' t' c' b'.length = 0) : sameR s t c b s' t' c' b' = decide (rbOut s t c b = rbOut s' t' c' b') := by
  obtain ⟨h1, h2, h3⟩ := rb_nums h
  obtain ⟨h1', h2', h3'⟩ := rb_nums h'
  rw [Bool.eq_iff_iff]
  unfold sameR
  simp only [Bool.and_eq_true, decide_eq_true_eq]
  constructor
  · rintro ⟨⟨⟨rfl, rfl⟩, rfl⟩, rfl⟩; rfl
  · intro e
    have e1 := (back3 h).2
    rw [e, (back3 h').2] at e1
    unfold aroot at e1
    simp only [ARoot.mk.injEq] at e1
    obtain ⟨x1, x2, x3, x4⟩ := e1
    exact ⟨⟨⟨by omega, by omega⟩, by omega⟩, x4.symm⟩

end Go.Proofs.YtnagejhpdhdpfaaDoor
