/-
  RootsSpoilt: the plain law.
-/
import Derived.Test.YtnagejhpdhdpfaaDoorSw1
namespace Go.Proofs.YtnagejhpdhdpfaaDoor

def XRoot.ar (x : XRoot) : ARoot := aroot x.s x.t x.c x.b
/-- the disk behind the writes of L. -/
structure SpIs (d : ADisk) (L : List XRoot) : Prop extends Good d where
  left : d.left = -1
  serial : (readR d).serial = L.length
  each : ∀ i (h : i < L.length), L[i].s = ((i + 1 : Nat) : Int) ∧ rbErr L[i].s L[i].t L[i].c L[i].b.length = 0
  last : ∀ i (h : i < L.length), L.length ≤ i + 2 → lk d.fs (rname (i + 1)) = some ⟨sealL sumL L[i].ar.bytes, []⟩
theorem sp_new (n : Int) (h : 1000 ≤ n) : SpIs ⟨n, -1, false, []⟩ [] := by
  obtain ⟨g, r⟩ := new_good n h
  exact ⟨g, rfl, by rw [r]; rfl, fun i h => (by simp at h), fun i h => (by simp at h)⟩
theorem sp_bad {d : ADisk} {L : List XRoot} (h : SpIs d L) {t c : Int} {b : List UInt8} (he : rbErr ((L.length + 1 : Nat) : Int) t c b.length = 2) : wrAll d t c b = (d, 2) := by
  have hs := h.serial
  have := write_no h.toFair (t := t) (c := c) (b := b) (by rw [hs, he]; decide)
  rw [hs, he] at this
  exact this
theorem sp_step {d : ADisk} {L : List XRoot} (h : SpIs d L) {t c : Int} {v : Value} {b : List UInt8} (he : rbErr ((L.length + 1 : Nat) : Int) t c b.length = 0) (hb : b.length ≤ 120) :
    ∃ d', wrAll d t c b = (d', 0) ∧ SpIs d' (L ++ [⟨((L.length + 1 : Nat) : Int), t, c, v, b⟩]) := by
  have hs := h.serial
  have hlaw := write_law h.toFair (t := t) (c := c) (b := b) (by rw [hs]; exact he) hb
  rw [hs] at hlaw
  rcases hlaw with ⟨d', a, g, f, r, l, m, ⟨x, k, bx⟩, nf, o⟩ | ⟨hl, _⟩
  rotate_left
  · exact absurd h.left hl
  have hser : (readR d').serial = L.length + 1 := by rw [r]; simp [aroot]
  have g' := f h.firm
  refine ⟨d', a, g', l h.left, by rw [hser]; simp, fun i hi => ?_, fun i hi hlt => ?_⟩
  · by_cases hi' : i < L.length
    · rw [List.getElem_append_left hi']; exact h.each i hi'
    · have : i = L.length := by simp at hi; omega
      subst this
      simp only [List.getElem_append_right (Nat.le_refl _), Nat.sub_self, List.getElem_cons_zero]
      exact ⟨trivial, he⟩
  · by_cases hi' : i < L.length
    · rw [List.getElem_append_left hi']
      have h2 : i + 1 = L.length := by simp at hlt; omega
      rw [o _ (by rw [h2]; exact fun e => rname_succ L.length e.symm) (rname_fresh _)]
      exact h.last i hi' (by omega)
    · have : i = L.length := by simp at hi; omega
      subst this
      simp only [List.getElem_append_right (Nat.le_refl _), Nat.sub_self, List.getElem_cons_zero]
      rw [k]
      have hx := g'.firm _ x k
      obtain ⟨xf, xl⟩ := x
      simp only at hx bx
      subst hx bx
      rfl
/-- one file is spoilt. -/
structure Spoilt (d d' : ADisk) (s : ByteArray) : Prop where
  up : d'.down = false
  left : d'.left = -1
  same : ∀ u, u ≠ s → lk d'.fs u = lk d.fs u
  gone : lk d'.fs s = none ∨ ∃ f, lk d'.fs s = some f ∧ parseE (f.firm ++ f.loose) ≠ 0
theorem spoilt_cand {d d' : ADisk} {k : Nat} (h : Spoilt d d' (rname k)) : cand d' k = root0 := by
  unfold cand
  rw [if_neg]
  rintro ⟨h0, h1, _⟩
  rcases h.gone with hg | ⟨f, hg, hp⟩
  · unfold findErr at h0; rw [hg, h.up] at h0; simp at h0
  · have ha : afile d' (rname k) = f := by unfold afile; rw [hg]; rfl
    unfold ADisk.readBytes at h1
    rw [if_pos h0, ha] at h1
    exact hp h1
theorem parse_take {r : ARoot} (h : r.Ok) (n : Nat) (hn : n < (sealL sumL r.bytes).length) : parseE ((sealL sumL r.bytes).take n) ≠ 0 := by
  have hc := parse_cut (S := sumL) sumL_len h n hn
  intro h0
  obtain ⟨er, b, hun⟩ : ∃ er b, unsealL sumL ((sealL sumL r.bytes).take n) = (er, b) := ⟨_, _, rfl⟩
  have hq := parse_un hun
  unfold parseE at h0
  rw [hq] at h0 hc
  by_cases he : er = 0
  · rw [if_pos he] at h0 hc
    cases hr : pRoot b with
    | none => rw [hr] at h0; exact absurd h0 (by decide)
    | some r' => rw [hr] at hc; exact absurd hc (by simp)
  · rw [if_neg he] at h0
    exact he h0
/-- removing a file. -/
theorem spoil_gone {d : ADisk} (hd : d.down = false) (hl : d.left = -1) {s : ByteArray} {f : AFile} (hf : lk d.fs s = some f) : d.removeErr s = 0 ∧ Spoilt d (d.remove s) s := by
  have h0 : ¬ d.left = 0 := by rw [hl]; decide
  have hr : d.remove s = { d.tick with fs := delF d.fs s } := by unfold ADisk.remove; rw [if_neg (by simp [hd]), if_neg (by simp [hf]), if_neg h0]
  refine ⟨?_, ?_⟩
  · unfold ADisk.removeErr ADisk.err; rw [if_neg (by simp [hd]), if_neg (by simp [hf]), if_neg h0]
  · rw [hr]
    refine ⟨rfl, by show max (d.left - 1) (-1) = -1; rw [hl]; decide, fun u hu => ?_, Or.inl ?_⟩
    · show lk (delF d.fs s) u = _
      rw [lk_delF, if_neg hu]
    · show lk (delF d.fs s) s = _
      rw [lk_delF, if_pos rfl]
/-- cutting a file short. -/
theorem spoil_cut {d : ADisk} (hd : d.down = false) (hl : d.left = -1) {s : ByteArray} {r : ARoot} (hr : r.Ok) (hf : lk d.fs s = some ⟨sealL sumL r.bytes, []⟩) (cut : Int) :
    d.cutErr s (pickI cut (max ((afile d s).len : Int) 1)) = 0 ∧ Spoilt d (d.cut s (pickI cut (max ((afile d s).len : Int) 1))) s := by
  have h0 : ¬ d.left = 0 := by rw [hl]; decide
  have ha : afile d s = ⟨sealL sumL r.bytes, []⟩ := by unfold afile; rw [hf]; rfl
  have hlen : (afile d s).len = (sealL sumL r.bytes).length := by rw [ha]; simp [AFile.len]
  have hpos : 4 ≤ (sealL sumL r.bytes).length := by unfold sealL; rw [List.length_append, sumL_len]; omega
  rw [hlen]
  obtain ⟨q, hq⟩ : ∃ q, pickI cut (max ((sealL sumL r.bytes).length : Int) 1) = q := ⟨_, rfl⟩
  have hq0 : 0 ≤ q ∧ q < (sealL sumL r.bytes).length := by
    have hmx : max ((sealL sumL r.bytes).length : Int) 1 = (sealL sumL r.bytes).length := by omega
    rw [← hq, hmx]
    unfold pickI
    rw [if_neg (by omega)]
    exact ⟨Int.emod_nonneg _ (by omega), Int.emod_lt_of_pos _ (by omega)⟩
  rw [hq]
  have hno : ¬ (q < 0 ∨ ((afile d s).len : Int) < q) := by rw [hlen]; omega
  have hc : d.cut s q = { d.tick with fs := putF d.fs s ⟨(sealL sumL r.bytes).take q.toNat, []⟩ } := by
    unfold ADisk.cut
    rw [if_neg (by simp [hd]), if_neg (by simp [hf]), if_neg hno]
    unfold ADisk.cutTo ADisk.put
    rw [if_neg h0, ha]
    simp
  refine ⟨?_, ?_⟩
  · unfold ADisk.cutErr ADisk.err; rw [if_neg (by simp [hd]), if_neg (by simp [hf]), if_neg hno, if_neg h0]
  · rw [hc]
    refine ⟨rfl, by show max (d.left - 1) (-1) = -1; rw [hl]; decide, fun u hu => ?_, Or.inr ⟨⟨(sealL sumL r.bytes).take q.toNat, []⟩, ?_, ?_⟩⟩
    · show lk (putF d.fs s _) u = _
      rw [lk_putF, if_neg hu]
    · show lk (putF d.fs s _) s = _
      rw [lk_putF, if_pos rfl]
    · simp only [List.append_nil]
      exact parse_take hr _ (by omega)
/-- behind the first file's end. -/
theorem sp_first {d d1 : ADisk} {L : List XRoot} (h : SpIs d L) (n : Nat) (hn : L.length = n + 2) (hs : Spoilt d d1 (rname (n + 2))) : readR d1 = (L[n]'(by omega)).ar ∧ lk d1.fs (rname (n + 1)) = some ⟨sealL sumL (L[n]'(by omega)).ar.bytes, []⟩ := by
  have hk : lk d1.fs (rname (n + 1)) = some ⟨sealL sumL (L[n]'(by omega)).ar.bytes, []⟩ := by
    rw [hs.same _ (fun e => rname_succ (n + 1) e.symm)]
    exact h.last n (by omega) (by omega)
  obtain ⟨e1, e2⟩ := h.each n (by omega)
  have hok := rb_ok e2
  have hser : (L[n]'(by omega)).ar.serial = n + 1 := by unfold XRoot.ar; rw [e1]; simp [aroot]
  have hc1 : cand d1 ((n + 1) % 2) = (L[n]'(by omega)).ar := cand_file hs.up (by rw [rname_mod]; exact hk) (by simp) hok (by rw [hser])
  have hc2 : cand d1 (1 - (n + 1) % 2) = root0 := by
    refine spoilt_cand (d := d) ?_
    have : rname (1 - (n + 1) % 2) = rname (n + 2) := by
      rw [show 1 - (n + 1) % 2 = (n + 2) % 2 by omega, rname_mod]
    rw [this]; exact hs
  exact ⟨readR_win hs.up (by omega) hc1 (by rw [hc2, hser]; exact Nat.succ_pos _), hk⟩
theorem sp_second {d d1 d2 : ADisk} (n : Nat) (h1 : Spoilt d d1 (rname (n + 2))) (h2 : Spoilt d1 d2 (rname (n + 1))) : readR d2 = root0 := by
  have a : ∀ k, k < 2 → cand d2 k = root0 := by
    intro k hk
    by_cases hr : rname k = rname (n + 1)
    · exact spoilt_cand (d := d1) (by rw [hr]; exact h2)
    · have hr2 : rname k = rname (n + 2) := by
        unfold rname at hr ⊢
        by_cases h : k % 2 = 0 <;> by_cases h' : n % 2 = 0
        · rw [if_pos h, if_pos (by omega)]
        · rw [if_pos h, if_pos (by omega)] at hr; exact absurd rfl hr
        · rw [if_neg h, if_neg (by omega)] at hr; exact absurd rfl hr
        · rw [if_neg h, if_neg (by omega)]
      have hc : cand d1 k = root0 := spoilt_cand (d := d) (by rw [hr2]; exact h1)
      rw [cand_lk h1.up h2.up (h2.same _ hr), hc]
  rw [readR_eq h2.up, a 0 (by omega), a 1 (by omega)]; rfl
end Go.Proofs.YtnagejhpdhdpfaaDoor
