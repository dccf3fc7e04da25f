/-
  The plain law of DiskWoven: what happens to names of one first letter hangs not on others.
-/
import Derived.Outline
import Derived.Test.YtlljlkeknklplaaTwo
namespace Go.Proofs.Ytlljlkeknklplaa
open Go.RowKit Go.Maps Go.MapKept

def hdB (c : UInt8) (s : ByteArray) : Prop := s.data.toList.head? = some c

/-- a call upon files, where there is room. -/
def stepF (fs : List (ByteArray × AFile)) (x : ACall) : Int × List (ByteArray × AFile) :=
  if x.what = 0 ∨ x.what = 1 then (if okName x.name = false then (13, fs) else (0, putF fs x.name ⟨((lk fs x.name).getD ⟨[], []⟩).firm, ((lk fs x.name).getD ⟨[], []⟩).loose ++ x.b⟩))
  else if x.what = 2 then (if (lk fs x.name).isNone then (13, fs) else (0, putF fs x.name ⟨(((lk fs x.name).getD ⟨[], []⟩).firm ++ ((lk fs x.name).getD ⟨[], []⟩).loose).take ((lk fs x.name).getD ⟨[], []⟩).len, []⟩))
  else if x.what = 3 then (if (lk fs x.name).isNone then (13, fs) else if okName x.to = false then (13, fs) else (0, putF (delF fs x.name) x.to ((lk fs x.name).getD ⟨[], []⟩)))
  else if x.what = 4 then (if (lk fs x.name).isNone then (13, fs) else (0, delF fs x.name))
  else if x.what = 5 then (if (lk fs x.name).isNone then (13, fs) else if x.n < 0 ∨ (((lk fs x.name).getD ⟨[], []⟩).len : Int) < x.n then (2, fs) else (0, putF fs x.name ⟨(((lk fs x.name).getD ⟨[], []⟩).firm ++ ((lk fs x.name).getD ⟨[], []⟩).loose).take x.n.toNat, []⟩))
  else (2, fs)

theorem does_step {d : ADisk} (h : Calm d) (x : ACall) (hu : (usedF d.fs : Int) + x.b.length ≤ d.most) (hl : d.fs.length < 200) : d.doesErr x = (stepF d.fs x).1 ∧ (d.does x).fs = (stepF d.fs x).2 := by
  have h0 : d.left ≠ 0 := by rw [h.left]; decide
  have hd := h.down
  have he : d.err = 0 := by unfold ADisk.err; rw [if_neg h0]
  have hput : ∀ s f, (d.put s f).fs = putF d.fs s f := fun s f => by unfold ADisk.put; rw [if_neg h0]
  have haf : ∀ s, afile d s = (lk d.fs s).getD ⟨[], []⟩ := fun _ => rfl
  have happ : d.appendErr x.name x.b = (if okName x.name = false then (13, d.fs) else ((0 : Int), putF d.fs x.name ⟨((lk d.fs x.name).getD ⟨[], []⟩).firm, ((lk d.fs x.name).getD ⟨[], []⟩).loose ++ x.b⟩)).1 ∧
      (d.append x.name x.b).fs = (if okName x.name = false then ((13 : Int), d.fs) else (0, putF d.fs x.name ⟨((lk d.fs x.name).getD ⟨[], []⟩).firm, ((lk d.fs x.name).getD ⟨[], []⟩).loose ++ x.b⟩)).2 := by
    unfold ADisk.appendErr ADisk.append
    simp only [hd, if_false, Bool.false_eq_true, he]
    by_cases hn : okName x.name = false
    · simp [hn]
    · have g1 : ¬ d.most < (usedF d.fs : Int) + x.b.length := by omega
      have g2 : ¬ ((lk d.fs x.name).isNone = true ∧ 200 ≤ d.fs.length) := by omega
      simp only [if_neg hn, if_neg g1, if_neg g2, hput, haf]
      exact ⟨trivial, trivial⟩
  unfold ADisk.doesErr ADisk.does stepF
  by_cases w0 : x.what = 0
  · rw [if_pos w0, if_pos w0, if_pos (Or.inl w0)]; exact happ
  by_cases w1 : x.what = 1
  · rw [if_neg w0, if_neg w0, if_pos w1, if_pos w1, if_pos (Or.inr w1)]; exact happ
  have w01 : ¬ (x.what = 0 ∨ x.what = 1) := fun h => h.elim w0 w1
  rw [if_neg w0, if_neg w0, if_neg w1, if_neg w1, if_neg w01]
  unfold ADisk.syncErr ADisk.sync ADisk.renameErr ADisk.rename ADisk.removeErr ADisk.remove ADisk.cutErr ADisk.cut ADisk.cutTo
  simp only [hd, if_false, Bool.false_eq_true, he, haf]
  repeat' split
  all_goals first
    | exact ⟨rfl, rfl⟩
    | exact ⟨rfl, hput _ _⟩
    | exact absurd ‹_› h0

theorem stepF_own {c : UInt8} {fs gs : List (ByteArray × AFile)} {x : ACall} (h : ∀ s, hdB c s → lk fs s = lk gs s) (hn : hdB c x.name) (_ht : hdB c x.to) :
    (stepF fs x).1 = (stepF gs x).1 ∧ ∀ s, hdB c s → lk (stepF fs x).2 s = lk (stepF gs x).2 s := by
  have e := h x.name hn
  unfold stepF
  rw [e]
  repeat' split
  all_goals
    refine ⟨rfl, fun s hs => ?_⟩
    simp only [lk_putF, lk_delF, h s hs]
theorem stepF_other {c c' : UInt8} {fs : List (ByteArray × AFile)} {x : ACall} (hc : c ≠ c') (hn : hdB c x.name) (ht : hdB c x.to) : ∀ s, hdB c' s → lk (stepF fs x).2 s = lk fs s := by
  intro s hs
  have n1 : s ≠ x.name := by rintro rfl; unfold hdB at hn hs; rw [hn] at hs; exact hc (Option.some.inj hs)
  have n2 : s ≠ x.to := by rintro rfl; unfold hdB at ht hs; rw [ht] at hs; exact hc (Option.some.inj hs)
  unfold stepF
  repeat' split
  all_goals simp only [lk_putF, lk_delF, if_neg n1, if_neg n2]
theorem mem_delF {fs : List (ByteArray × AFile)} {s : ByteArray} {p : ByteArray × AFile} (h : p ∈ delF fs s) : p ∈ fs := (List.mem_filter.1 h).1
theorem stepF_names {P : ByteArray → Prop} {fs : List (ByteArray × AFile)} {x : ACall} (h : ∀ p ∈ fs, P p.1) (hn : P x.name) (ht : P x.to) : ∀ p ∈ (stepF fs x).2, P p.1 := by
  have h1 : ∀ (gs : List (ByteArray × AFile)) s f, (∀ p ∈ gs, P p.1) → P s → ∀ p ∈ putF gs s f, P p.1 := by
    intro gs s f hg hs p hp
    rcases mem_putF hp with rfl | hp
    · exact hs
    · exact hg p hp
  have h2 : ∀ s, ∀ p ∈ delF fs s, P p.1 := fun s p hp => h p (mem_delF hp)
  unfold stepF
  repeat' split
  all_goals first
    | exact h
    | exact h1 _ _ _ h hn
    | exact h1 _ _ _ (h2 _) ht
    | exact h2 _
theorem stepF_used {fs : List (ByteArray × AFile)} {x : ACall} (hs : SortedF fs) : usedF (stepF fs x).2 ≤ usedF fs + x.b.length := by
  have hl : ∀ s, ((lk fs s).map AFile.len).getD 0 = ((lk fs s).getD ⟨[], []⟩).len := fun s => by cases lk fs s <;> rfl
  have hp : ∀ s f, usedF (putF fs s f) + ((lk fs s).getD ⟨[], []⟩).len = usedF fs + f.len := fun s f => by have := used_putF hs s f; rwa [hl] at this
  have hd : ∀ s, usedF (delF fs s) + ((lk fs s).getD ⟨[], []⟩).len = usedF fs := fun s => by have := used_delF hs s; rwa [hl] at this
  unfold stepF
  repeat' split
  · exact Nat.le_add_right _ _
  · have := hp x.name ⟨((lk fs x.name).getD ⟨[], []⟩).firm, ((lk fs x.name).getD ⟨[], []⟩).loose ++ x.b⟩
    simp only [AFile.len, List.length_append] at this ⊢
    omega
  · exact Nat.le_add_right _ _
  · have := hp x.name ⟨(((lk fs x.name).getD ⟨[], []⟩).firm ++ ((lk fs x.name).getD ⟨[], []⟩).loose).take ((lk fs x.name).getD ⟨[], []⟩).len, []⟩
    simp only [AFile.len, List.length_append, List.length_take, List.length_nil] at this ⊢
    omega
  · exact Nat.le_add_right _ _
  · exact Nat.le_add_right _ _
  · have h1 := hd x.name
    have h2 := used_putF (sorted_delF hs x.name) x.to ((lk fs x.name).getD ⟨[], []⟩)
    simp only
    omega
  · exact Nat.le_add_right _ _
  · have h1 := hd x.name
    simp only
    omega
  · exact Nat.le_add_right _ _
  · exact Nat.le_add_right _ _
  · have := hp x.name ⟨(((lk fs x.name).getD ⟨[], []⟩).firm ++ ((lk fs x.name).getD ⟨[], []⟩).loose).take x.n.toNat, []⟩
    simp only [AFile.len, List.length_append, List.length_take, List.length_nil] at this ⊢
    omega
  · exact Nat.le_add_right _ _

theorem sorted_ext {fs gs : List (ByteArray × AFile)} (hf : SortedF fs) (hg : SortedF gs) (h : ∀ s, lk fs s = lk gs s) : fs = gs := by
  induction fs generalizing gs with
  | nil =>
    cases gs with
    | nil => rfl
    | cons q gs => have := h q.1; rw [lk_nil, lk_cons, if_pos rfl] at this; cases this
  | cons p fs ih =>
    cases gs with
    | nil => have := h p.1; rw [lk_nil, lk_cons, if_pos rfl] at this; cases this
    | cons q gs =>
      have hfp := List.pairwise_cons.1 hf
      have hgp := List.pairwise_cons.1 hg
      have hpq : p.1 = q.1 := by
        rcases Classical.em (p.1 = q.1) with e | e
        · exact e
        · exfalso
          have a1 := h p.1
          rw [lk_cons, if_pos rfl, lk_cons, if_neg (fun e' => e e'.symm)] at a1
          have a2 := h q.1
          rw [lk_cons, if_neg e, lk_cons, if_pos rfl] at a2
          have b1 := hgp.1 _ (lk_some_mem a1.symm)
          have b2 := hfp.1 _ (lk_some_mem a2)
          have := ltS_trans b1 b2
          rw [ltS_irrefl] at this
          cases this
      have h2 : p.2 = q.2 := by
        have a1 := h p.1
        rw [lk_cons, if_pos rfl, lk_cons, if_pos hpq.symm] at a1
        exact Option.some.inj a1
      have hpe : p = q := Prod.ext hpq h2
      subst hpe
      congr 1
      refine ih hfp.2 hgp.2 (fun s => ?_)
      rcases Classical.em (p.1 = s) with e | e
      · subst e
        have n1 : lk fs p.1 = none := by
          cases hl : lk fs p.1 with
          | none => rfl
          | some f => have := hfp.1 _ (lk_some_mem hl); rw [ltS_irrefl] at this; cases this
        have n2 : lk gs p.1 = none := by
          cases hl : lk gs p.1 with
          | none => rfl
          | some f => have := hgp.1 _ (lk_some_mem hl); rw [ltS_irrefl] at this; cases this
        rw [n1, n2]
      · have := h s
        rwa [lk_cons, if_neg e, lk_cons, if_neg e] at this

/-- the files behind calls, one by one. -/
def runF (fs : List (ByteArray × AFile)) (l : List ACall) : List (ByteArray × AFile) := l.foldl (fun fs x => (stepF fs x).2) fs
theorem runF_snoc (fs : List (ByteArray × AFile)) (l : List ACall) (x : ACall) : runF fs (l ++ [x]) = (stepF (runF fs l) x).2 := by simp [runF]
theorem runF_take (fs : List (ByteArray × AFile)) (l : List ACall) (i : Nat) (hi : i < l.length) : runF fs (l.take (i + 1)) = (stepF (runF fs (l.take i)) l[i]).2 := by
  rw [List.take_succ_eq_append_getElem hi, runF_snoc]
/-- what each call tells. -/
def errF (fs : List (ByteArray × AFile)) (l : List ACall) (i : Nat) : Int := match l[i]? with
  | some x => (stepF (runF fs (l.take i)) x).1
  | none => 0
theorem errF_at (fs : List (ByteArray × AFile)) (l : List ACall) (i : Nat) (hi : i < l.length) : errF fs l i = (stepF (runF fs (l.take i)) l[i]).1 := by
  unfold errF; rw [List.getElem?_eq_getElem hi]
end Go.Proofs.Ytlljlkeknklplaa
