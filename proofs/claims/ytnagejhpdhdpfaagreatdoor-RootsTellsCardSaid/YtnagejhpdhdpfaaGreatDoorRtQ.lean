/-
  Roots on a plain disk: the root that counts, behind Write, behind a crash. No program here.
-/
import Derived.Test.YtnagejhpdhdpfaaGreatDoorRtP
namespace Go.Proofs.YtnagejhpdhdpfaaGreatDoor

theorem parse_root {r : ARoot} (h : r.Ok) : parseE (sealL sumL r.bytes) = 0 ∧ parseR (sealL sumL r.bytes) = r := by
  have := parse_seal (S := sumL) sumL_len h
  unfold parseE parseR
  rw [this]
  exact ⟨rfl, rfl⟩
theorem cand_zero {d : ADisk} {k : Nat} (h : (cand d k).serial = 0) : cand d k = root0 := by
  unfold cand at h ⊢
  split
  · rename_i hc
    rw [if_pos hc] at h
    have := (parse_good _ hc.2.1).s0
    omega
  · rfl
theorem readR_eq {d : ADisk} (hd : d.down = false) : readR d = if (cand d 0).serial < (cand d 1).serial then cand d 1 else cand d 0 := by
  have h1 : readK d 1 = cand d 0 := by
    show (if (readK d 0).serial < (cand d 0).serial then cand d 0 else readK d 0) = _
    split
    · rfl
    · rename_i h
      have hz : (readK d 0).serial = 0 := rfl
      rw [hz] at h
      exact (cand_zero (by omega)).symm
  unfold readR
  rw [if_neg (by simp [hd])]
  show (if (readK d 1).serial < (cand d 1).serial then cand d 1 else readK d 1) = _
  rw [h1]
theorem cand_le_read {d : ADisk} (hd : d.down = false) (k : Nat) (hk : k < 2) : (cand d k).serial ≤ (readR d).serial := by
  rw [readR_eq hd]
  have : k = 0 ∨ k = 1 := by omega
  rcases this with rfl | rfl <;> split <;> omega
theorem readR_win {d : ADisk} (hd : d.down = false) {r : ARoot} {k : Nat} (hk : k < 2) (h1 : cand d k = r) (h2 : (cand d (1 - k)).serial < r.serial) : readR d = r := by
  rw [readR_eq hd]
  have : k = 0 ∨ k = 1 := by omega
  rcases this with rfl | rfl
  · rw [h1, if_neg (by simp only [Nat.sub_zero] at h2; omega)]
  · rw [h1, if_pos (by simpa using h2)]
/-- what a file tells depends on that file alone. -/
theorem cand_lk {d d' : ADisk} (hd : d.down = false) (hd' : d'.down = false) {k : Nat} (h : lk d'.fs (rname k) = lk d.fs (rname k)) : cand d' k = cand d k := by
  have hf : findErr d' (rname k) = findErr d (rname k) := by unfold findErr; rw [h, hd, hd']
  have ha : afile d' (rname k) = afile d (rname k) := by unfold afile; rw [h]
  have hr : d'.readBytes (rname k) = d.readBytes (rname k) := by unfold ADisk.readBytes; rw [hf, ha]
  unfold cand
  rw [hf, hr]
theorem cand_file {d : ADisk} (hd : d.down = false) {k : Nat} {f : AFile} (hl : lk d.fs (rname k) = some f) {r : ARoot} (hb : f.firm ++ f.loose = sealL sumL r.bytes) (hr : r.Ok) (hk : r.serial % 2 = k) : cand d k = r := by
  have hf : findErr d (rname k) = 0 := by unfold findErr; rw [hl, if_neg (by simp [hd])]; rfl
  have ha : afile d (rname k) = f := by unfold afile; rw [hl]; rfl
  have hrb : d.readBytes (rname k) = sealL sumL r.bytes := by unfold ADisk.readBytes; rw [if_pos hf, ha, hb]
  obtain ⟨p1, p2⟩ := parse_root hr
  unfold cand
  rw [hrb, p1, p2, if_pos ⟨hf, rfl, hk⟩]

/-- a disk of roots. -/
structure Fair (d : ADisk) : Prop where
  up : d.down = false
  three : Three d
  most : 1000 ≤ d.most
  sorted : SortedF d.fs
/-- a disk of roots between two writes. -/
structure Good (d : ADisk) : Prop extends Fair d where
  firm : ∀ k f, lk d.fs (rname k) = some f → f.loose = []
theorem readE_good {d : ADisk} (g : Fair d) : readE d = 0 := by unfold readE; rw [if_neg (by simp [g.up])]
theorem root_len48 {r : ARoot} (h : r.Ok) : (sealL sumL r.bytes).length ≤ 48 + r.blob.length := by
  have v1 : ∀ n, n ≤ 9007199254740992 → (vint n).length ≤ 10 := fun n hn => vint_len (by omega) (Nat.lt_of_le_of_lt hn (by decide))
  have h1 := v1 _ h.s1
  have h2 := v1 _ h.t1
  have h3 := v1 _ h.c1
  have h4 := v1 r.blob.length (by have := h.b1; omega)
  unfold sealL ARoot.bytes
  simp only [List.length_append, sumL_len, List.length_cons, List.length_nil]
  omega

theorem root_len {r : ARoot} (h : r.Ok) (hb : r.blob.length ≤ 120) : (sealL sumL r.bytes).length ≤ 200 := by have := root_len48 h; omega
theorem crashK_lk {fs : List (ByteArray × AFile)} (h : SortedF fs) (keeps : List Int) (k : Nat) (hk : k ≤ fs.length) (s : ByteArray) :
    (lk fs s = none → lk (crashK fs keeps k) s = none) ∧ ∀ f, lk fs s = some f → lk (crashK fs keeps k) s = some f ∨ ∃ x, lk (crashK fs keeps k) s = some (f.kept x) := by
  induction k with
  | zero => exact ⟨fun h => h, fun f hf => Or.inl hf⟩
  | succ k ih =>
    obtain ⟨i1, i2⟩ := ih (by omega)
    simp only [crashK]
    rw [List.getElem?_eq_getElem (by omega : k < fs.length)]
    simp only [lk_putF]
    have hm : lk fs (fs[k]'(by omega)).1 = some (fs[k]'(by omega)).2 := mem_lk h (List.getElem_mem (by omega : k < fs.length))
    by_cases hs : s = fs[k].1
    · rw [if_pos hs]
      subst hs
      refine ⟨fun hn => (by rw [hm] at hn; cases hn), fun f hf => ?_⟩
      rw [hm] at hf
      cases hf
      exact Or.inr ⟨_, rfl⟩
    · rw [if_neg hs]
      exact ⟨i1, i2⟩
theorem crash_lk {d : ADisk} (h : SortedF d.fs) (keeps : List Int) (s : ByteArray) :
    (lk d.fs s = none → lk (d.crash keeps).fs s = none) ∧ ∀ f, lk d.fs s = some f → lk (d.crash keeps).fs s = some f ∨ ∃ x, lk (d.crash keeps).fs s = some (f.kept x) :=
  crashK_lk h keeps _ (Nat.le_refl _) s
theorem kept_firm {f : AFile} (h : f.loose = []) (x : Int) : f.kept x = f := by
  obtain ⟨a, b⟩ := f
  simp only at h
  subst h
  unfold AFile.kept
  have e : (min (max x 0) (([] : List UInt8).length : Int)).toNat = 0 := by simp only [List.length_nil]; omega
  simp only [e, List.append_nil, Nat.add_zero, List.take_length]
/-- behind a crash the roots' files are as they were. -/
theorem crash_good {d d' : ADisk} (g : Good d) (m : Mid d d') (keeps : List Int) : Good (d'.crash keeps) ∧ readR (d'.crash keeps) = readR d ∧ ∀ k, lk (d'.crash keeps).fs (rname k) = lk d.fs (rname k) := by
  have hsame : ∀ k, lk (d'.crash keeps).fs (rname k) = lk d.fs (rname k) := by
    intro k
    obtain ⟨c1, c2⟩ := crash_lk m.sorted keeps (rname k)
    rw [← m.same k]
    cases hl : lk d'.fs (rname k) with
    | none => exact c1 hl
    | some f =>
      have hfl := g.firm k f (by rw [← m.same k]; exact hl)
      rcases c2 f hl with h | ⟨x, h⟩
      · exact h
      · rw [h, kept_firm hfl]
  have hup : (d'.crash keeps).down = false := rfl
  have hg : Good (d'.crash keeps) := by
    refine ⟨⟨hup, ⟨fun s a b c => ?_, fun s f hl => ?_⟩, ?_, crashK_sorted m.sorted keeps _⟩, fun k f hl => ?_⟩
    · exact (crash_lk m.sorted keeps s).1 (m.three.none s a b c)
    · obtain ⟨c1, c2⟩ := crash_lk m.sorted keeps s
      cases h0 : lk d'.fs s with
      | none => rw [c1 h0] at hl; cases hl
      | some f0 =>
        have h200 := m.three.len s f0 h0
        rcases c2 f0 h0 with h | ⟨x, h⟩
        · rw [h] at hl; cases hl; exact h200
        · rw [h] at hl; cases hl; exact Nat.le_trans (kept_len f0 x) h200
    · show 1000 ≤ d'.most
      rw [m.most]; exact g.most
    · rw [hsame k] at hl; exact g.firm k f hl
  refine ⟨hg, ?_, hsame⟩
  rw [readR_eq hup, readR_eq g.up, cand_lk g.up hup (hsame 0), cand_lk g.up hup (hsame 1)]
theorem mid_refl {d : ADisk} (g : Good d) : Mid d d := Mid.refl g.three g.sorted

/-- what Write makes of a disk between two writes. -/
theorem write_law {d : ADisk} (g : Fair d) {t c : Int} {b : List UInt8} (he : rbErr ((readR d).serial + 1 : Nat) t c b.length = 0) (hb : b.length ≤ 120) :
    (∃ d', wrAll d t c b = (d', 0) ∧ Fair d' ∧ ((∀ k f, lk d.fs (rname k) = some f → f.loose = []) → Good d') ∧ readR d' = aroot ((readR d).serial + 1 : Nat) t c b ∧ (d.left = -1 → d'.left = -1) ∧ d'.most = d.most ∧
        (∃ f, lk d'.fs (rname ((readR d).serial + 1)) = some f ∧ f.firm = sealL sumL (aroot ((readR d).serial + 1 : Nat) t c b).bytes) ∧ lk d'.fs freshN = none ∧ ∀ s, s ≠ rname ((readR d).serial + 1) → s ≠ freshN → lk d'.fs s = lk d.fs s) ∨
      (d.left ≠ -1 ∧ ∃ d', wrAll d t c b = (d', 15) ∧ d'.down = true ∧ Mid d d') := by
  have hok := rb_ok he
  have hout : rbOut ((readR d).serial + 1 : Nat) t c b = sealL sumL (aroot ((readR d).serial + 1 : Nat) t c b).bytes := by unfold rbOut; rw [if_pos he]
  have hL := root_len hok hb
  have hall : wrAll d t c b = wrSteps d ((readR d).serial + 1) (sealL sumL (aroot ((readR d).serial + 1 : Nat) t c b).bytes) := by
    unfold wrAll
    rw [if_neg (by simp [g.up]), he, if_neg (fun h => h rfl), hout]
  rw [hall]
  obtain ⟨n, hn⟩ : ∃ n, (readR d).serial + 1 = n := ⟨_, rfl⟩
  rw [hn] at hok hL ⊢
  have hser : (aroot (n : Nat) t c b).serial = n := by simp [aroot]
  generalize hr : aroot (n : Nat) t c b = r at hok hL hser ⊢
  rcases wr_law g.three g.sorted g.up g.most n (sealL sumL r.bytes) hL with ⟨d', e1, e2, e3, e4, e5, e6, e7, e8⟩ | ⟨e0, d', e1, e2, e3⟩
  · left
    have hc1 : cand d' (n % 2) = r := cand_file e2 (by rw [rname_mod]; exact e6) (by simp) hok (by rw [hser])
    have ho : rname (1 - n % 2) ≠ rname n := by
      unfold rname
      rcases Nat.mod_two_eq_zero_or_one n with h | h
      · rw [h, if_neg (by decide), if_pos rfl]; decide
      · rw [h, if_pos (by decide), if_neg (by decide)]; decide
    have hc2 : cand d' (1 - n % 2) = cand d (1 - n % 2) := cand_lk g.up e2 (e8 _ ho (rname_fresh _))
    have hlt : (cand d' (1 - n % 2)).serial < r.serial := by
      rw [hc2, hser]
      have := cand_le_read g.up (1 - n % 2) (by omega)
      omega
    have hF : Fair d' := by
      refine ⟨e2, ⟨fun s a b' c' => ?_, fun s f hl => ?_⟩, by rw [e3]; exact g.most, e5⟩
      · rw [e8 s (fun e => by rcases rname_cases n with h | h; exact a (e.trans h); exact b' (e.trans h)) c']
        exact g.three.none s a b' c'
      · by_cases h1 : s = rname n
        · subst h1; rw [e6] at hl; cases hl; simpa [AFile.len] using hL
        · by_cases h2 : s = freshN
          · subst h2; rw [e7] at hl; cases hl
          · rw [e8 s h1 h2] at hl; exact g.three.len s f hl
    refine ⟨d', e1, hF, fun hfirm => ⟨hF, fun k f hl => ?_⟩, readR_win e2 (by omega) hc1 hlt, e4, e3, ⟨_, e6, rfl⟩, e7, e8⟩
    · by_cases h1 : rname k = rname n
      · rw [h1, e6] at hl; cases hl; rfl
      · rw [e8 _ h1 (rname_fresh k)] at hl; exact hfirm k f hl
  · right
    exact ⟨e0, d', e1, e2, e3⟩
theorem write_no {d : ADisk} (g : Fair d) {t c : Int} {b : List UInt8} (he : rbErr ((readR d).serial + 1 : Nat) t c b.length ≠ 0) : wrAll d t c b = (d, rbErr ((readR d).serial + 1 : Nat) t c b.length) := by
  unfold wrAll
  rw [if_neg (by simp [g.up]), if_pos he]
/-- a new disk. -/
theorem new_good (n : Int) (h : 1000 ≤ n) : Good ⟨n, -1, false, []⟩ ∧ readR ⟨n, -1, false, []⟩ = root0 := by
  have hl : ∀ s, lk ([] : List (ByteArray × AFile)) s = none := fun s => rfl
  refine ⟨⟨⟨rfl, ⟨fun s _ _ _ => hl s, fun s f h => (by cases h)⟩, h, List.Pairwise.nil⟩, fun k f h => (by cases h)⟩, ?_⟩
  rw [readR_eq rfl]
  have hc : ∀ k, cand ⟨n, -1, false, []⟩ k = root0 := by
    intro k
    unfold cand
    rw [if_neg]
    rintro ⟨h0, _⟩
    exact absurd h0 (by unfold findErr; rw [hl]; simp)
  rw [hc, hc]; rfl
/-- a root's bytes with others behind them are none. -/
theorem parse_more {r : ARoot} (h : r.Ok) (z : List UInt8) (hz : z ≠ []) : parseE (sealL sumL r.bytes ++ z) ≠ 0 := by
  intro h0
  have hp : ∃ r', parseL sumL (sealL sumL r.bytes ++ z) = (0, some r') := by
    obtain ⟨er, b, hun⟩ : ∃ er b, unsealL sumL (sealL sumL r.bytes ++ z) = (er, b) := ⟨_, _, rfl⟩
    have hq := parse_un hun
    unfold parseE at h0
    by_cases he : er = 0
    · rw [if_pos he] at hq
      cases hr : pRoot b with
      | none => rw [hr] at hq; rw [hq] at h0; exact absurd h0 (by decide)
      | some r' => rw [hr] at hq; exact ⟨r', hq⟩
    · rw [if_neg he] at hq
      rw [hq] at h0
      exact absurd h0 he
  obtain ⟨r', hp⟩ := hp
  obtain ⟨_, h1, h2⟩ := parse_ok hp
  unfold sealL at h2
  have hlen := congrArg List.length h2
  simp only [List.length_append, sumL_len] at hlen
  have ht := congrArg (List.take r'.bytes.length) h2
  rw [List.take_left, List.append_assoc, List.take_append, List.take_of_length_le (by omega)] at ht
  have := root_prefix h1 h ht
  have hl := congrArg List.length this
  simp only [List.length_take, List.length_append, sumL_len, List.length_nil] at hl
  have := List.length_pos_iff.2 hz
  omega
/-- two lists in strict order with the same members are one. -/
theorem sorted_ext {l1 l2 : List ByteArray} (h1 : l1.Pairwise (fun a b => ltS a b = true)) (h2 : l2.Pairwise (fun a b => ltS a b = true)) (h : ∀ s, s ∈ l1 ↔ s ∈ l2) : l1 = l2 := by
  induction l1 generalizing l2 with
  | nil =>
    cases l2 with
    | nil => rfl
    | cons b r => exact absurd ((h b).2 List.mem_cons_self) (by simp)
  | cons a r ih =>
    cases l2 with
    | nil => exact absurd ((h a).1 List.mem_cons_self) (by simp)
    | cons b q =>
      obtain ⟨a1, a2⟩ := List.pairwise_cons.1 h1
      obtain ⟨b1, b2⟩ := List.pairwise_cons.1 h2
      have hab : a = b := by
        rcases List.mem_cons.1 ((h a).1 List.mem_cons_self) with e | e
        · exact e
        · rcases List.mem_cons.1 ((h b).2 List.mem_cons_self) with e2 | e2
          · exact e2.symm
          · have x := ltS_trans (b1 a e) (a1 b e2)
            rw [ltS_irrefl] at x; cases x
      subst hab
      congr 1
      refine ih a2 b2 (fun s => ⟨fun hs => ?_, fun hs => ?_⟩)
      · rcases List.mem_cons.1 ((h s).1 (List.mem_cons_of_mem _ hs)) with e | e
        · subst e; have := a1 s hs; rw [ltS_irrefl] at this; cases this
        · exact e
      · rcases List.mem_cons.1 ((h s).2 (List.mem_cons_of_mem _ hs)) with e | e
        · subst e; have := b1 s hs; rw [ltS_irrefl] at this; cases this
        · exact e
theorem names_mem {d : ADisk} (hs : SortedF d.fs) (s : ByteArray) : s ∈ d.names ↔ (lk d.fs s).isSome = true := by
  unfold ADisk.names
  constructor
  · intro h
    obtain ⟨p, hp, rfl⟩ := List.mem_map.1 h
    rw [mem_lk hs hp]; rfl
  · intro h
    cases hl : lk d.fs s with
    | none => rw [hl] at h; cases h
    | some f => exact List.mem_map.2 ⟨_, lk_some_mem hl, rfl⟩
theorem names_eq {d : ADisk} (hs : SortedF d.fs) {l : List ByteArray} (hl : l.Pairwise (fun a b => ltS a b = true)) (h : ∀ s, s ∈ l ↔ (lk d.fs s).isSome = true) : d.names = l :=
  sorted_ext (List.pairwise_map.2 hs) hl (fun s => (names_mem hs s).trans (h s).symm)
end Go.Proofs.YtnagejhpdhdpfaaGreatDoor
