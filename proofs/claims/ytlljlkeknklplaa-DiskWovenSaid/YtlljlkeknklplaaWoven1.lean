/-
  Lemmas for the walk of DiskWoven.
-/
import Derived.Outline
import Derived.Deep.OwnRows
import Derived.Test.YtlljlkeknklplaaOwnW
import Derived.Test.YtlljlkeknklplaaPieces0
import Derived.Test.YtlljlkeknklplaaAwake
namespace Go.Proofs.Ytlljlkeknklplaa
open Go.RowKit Go.Maps Go.MapKept

theorem TwoAt.grow {ex ex' fp : Nat → Prop} {w w' : World} {pa ma pb mb : Nat} {da db : ADisk} (h : TwoAt ex w pa ma da pb mb db) (hu : Upd fp w w') (hb : ∀ k, k < w.heap.size → fp k → ex k) (hx : ∀ k, ex' k → ex k ∨ w.heap.size ≤ k ∧ k < w'.heap.size) : TwoAt ex' w' pa ma da pb mb db := by
  obtain ⟨ga, gb, ra, rb, hx0, hd⟩ := h
  refine ⟨ga, gb, ra.upd hu (fun k hk e => (hx0 k (hb k (ra.lt hk) e)).2.1 hk), rb.upd hu (fun k hk e => (hx0 k (hb k (rb.lt hk) e)).2.2 hk), fun k hk => ?_, hd⟩
  rcases hx k hk with hk | ⟨h1, h2⟩
  · exact ⟨Nat.lt_of_lt_of_le (hx0 k hk).1 hu.size, (hx0 k hk).2⟩
  · exact ⟨h2, fun hd => by have := ra.lt hd; omega, fun hd => by have := rb.lt hd; omega⟩
theorem TwoAt.wfa {ex : Nat → Prop} {w : World} {pa ma pb mb : Nat} {da db : ADisk} (h : TwoAt ex w pa ma da pb mb db) : da.WF := let ⟨_, _, ra, _⟩ := h; ra.wf
theorem TwoAt.wfb {ex : Nat → Prop} {w : World} {pa ma pb mb : Nat} {da db : ADisk} (h : TwoAt ex w pa ma da pb mb db) : db.WF := let ⟨_, _, _, rb, _⟩ := h; rb.wf

/-- a disk with room, its files. -/
structure St (d : ADisk) (n : Nat) (fs : List (ByteArray × AFile)) : Prop where
  calm : Calm d
  most : d.most = 1048576
  fs : d.fs = fs
  used : usedF d.fs ≤ 150 * n
  len : d.fs.length ≤ n
theorem St.step {d : ADisk} {n : Nat} {fs : List (ByteArray × AFile)} (h : St d n fs) (hw : d.WF) (hn : n ≤ 60) (c : ACall) (hc : c.b.length ≤ 150) : d.doesErr c = (stepF fs c).1 ∧ St (d.does c) (n + 1) (stepF fs c).2 := by
  have hu := h.used
  have hl := h.len
  have hm := h.most
  obtain ⟨h1, h2⟩ := does_step h.calm c (by omega) (by omega)
  obtain ⟨k1, k2, k3⟩ := h.calm.does c
  rw [h.fs] at h1 h2
  refine ⟨h1, ⟨k1, by rw [k2, hm], h2, ?_, by omega⟩⟩
  have := stepF_used (x := c) (show SortedF fs by rw [← h.fs]; exact hw.sorted)
  rw [h2]
  rw [h.fs] at hu
  omega

theorem info_Err : (Try.prog.info? 25).map (fun i => (i.zero, i.size, i.bytes)) = some (some (.int .i64 0), 1, 8) := by kernel_rfl
theorem append_err {w : World} {ops : Array Oper} {rest : List Oper} {o : Oper} {a : Act} {Q : Exit → Act → World → Prop} (hgd : Region.wanted o (yielded ops a.tmps) = true) (s x : Operand)
    (ho : o.op = .call { callee := .builtin .append, args := #[s, x], argTypes := #[87, 87] })
    (v vx : Value) (l m r : List Int) (hlm : l ++ m = r) (hs : a.eval s = v) (hown : w.ownsRow 0 25 1 v l.length (iCells l)) (hx : a.eval x = vx) (hrd : Rd w vx (iCells m))
    (h63 : l.length + m.length ≤ 1000000)
    (h : ∀ v' w', w'.ownsRow 0 25 1 v' r.length (iCells r) → w.grownBy w' v.ownBlock → (v'.ownBlock = v.ownBlock ∨ ∃ g, v'.ownBlock = some g ∧ w.heap.size ≤ g) → wpList Try.prog ops Q rest (a.put o.dst v') w') : wpList Try.prog ops Q (o :: rest) a w := by
  subst hlm
  obtain ⟨i0, hi, hz0, hz1, hz2⟩ := info_parts info_Err
  refine wpList_append_rd hgd s x 87 ho 25 i0 (.int .i64 0) 8 Try.underlying87 hi hz0 hz1 hz2 rfl v vx l.length m.length (iCells l) (iCells m) hs hown hx hrd (by simp [iCells_length]) (fun u hu => by obtain ⟨_, _, rfl⟩ := List.mem_map.1 hu; rfl) (by simp only [maxLen]; omega) (by omega) ?_
  intro v' w' h1 h2 h3 _
  rw [← iCells_append, ← List.length_append] at h1
  exact h v' w' h1 h2 h3

/-- a call in a row of calls. -/
theorem row_call {w : World} {base : Nat} {a : Option Addr} {c : Nat} {l : List ACall} (h : w.ownsRow base 48 6 (.slice a l.length c) l.length (flatC l)) (k : Nat) (hk : k < l.length) :
    ∃ g, a = some ⟨g, 0, none⟩ ∧ base ≤ g ∧ w.cell? ⟨g, 0 + k * 6, none⟩ = some (.int .u8 l[k].what) ∧ w.cell? ⟨g, 0 + k * 6 + 1, none⟩ = some (.string l[k].name) ∧ w.cell? ⟨g, 0 + k * 6 + 2, none⟩ = some (.string (ACall.to l[k])) ∧
      w.cell? ⟨g, 0 + k * 6 + 3, none⟩ = some l[k].vb ∧ w.cell? ⟨g, 0 + k * 6 + 4, none⟩ = some (.int .i64 l[k].n) ∧ w.cell? ⟨g, 0 + k * 6 + 5, none⟩ = some l[k].vk := by
  rcases h.2 with ⟨_, h0⟩ | ⟨g, cap, cur, hv, hb, hg, hnc, hcm, hcs, ht⟩
  · omega
  · cases hv
    have hx : ∀ j u, j < 6 → l[k].cells[j]? = some u → w.cell? ⟨g, 0 + k * 6 + j, none⟩ = some u := fun j u hj hu => by
      rw [cell_at hg, Nat.zero_add]
      have h1 := flatC_at l k hk j hj
      rw [hu, ← ht, List.getElem?_take] at h1
      split at h1
      · simpa using h1
      · cases h1
    exact ⟨g, rfl, hb, hx 0 _ (by omega) rfl, hx 1 _ (by omega) rfl, hx 2 _ (by omega) rfl, hx 3 _ (by omega) rfl, hx 4 _ (by omega) rfl, hx 5 _ (by omega) rfl⟩

/-- what is known of the calls of one list. -/
def Mine (w : World) (c : UInt8) (l : List ACall) : Prop := l.length ≤ 25 ∧ ∀ x ∈ l, CallOk w x ∧ hdB c x.name ∧ hdB c x.to ∧ x.b.length ≤ 150
theorem hd_pre (c : UInt8) (s : ByteArray) : hdB c ((⟨#[c]⟩ : ByteArray) ++ s) := by unfold hdB; simp
theorem mine_of {w : World} {v : Value} {cs : List ACall} (h : CallsAt w v cs) (c : UInt8) : Mine w c (ownL ⟨#[c]⟩ (cs.take 25)) := by
  obtain ⟨a, cc, rfl⟩ := SliceOf.shape h
  have hall : ∀ x ∈ cs, CallOk w x := by
    intro x hx
    obtain ⟨k, hk, rfl⟩ := List.getElem_of_mem hx
    obtain ⟨_, _, _, _, hok, _⟩ := h.at (Below.refl _ _) k hk
    exact hok
  have hp : ∀ x ∈ cs, fitsB x = true → x.what ≤ 5 → (CallOk w (x.pre ⟨#[c]⟩) ∧ hdB c (x.pre ⟨#[c]⟩).name ∧ hdB c (ACall.to (x.pre ⟨#[c]⟩)) ∧ (x.pre ⟨#[c]⟩).b.length ≤ 150) := by
    intro x hx hf _
    have hok := hall x hx
    simp only [fitsB, Bool.and_eq_true, decide_eq_true_eq] at hf
    refine ⟨⟨hok.what0, hok.what1, ?_, ?_, hok.rb, hok.lb, hok.n, hok.rk, hok.lk, hok.ik⟩, hd_pre c _, hd_pre c _, hf.1.2⟩
    · show ((⟨#[c]⟩ : ByteArray) ++ x.name).size ≤ maxLen
      simp only [ByteArray.size_append, maxLen]
      have : (⟨#[c]⟩ : ByteArray).size = 1 := rfl
      omega
    · show ((⟨#[c]⟩ : ByteArray) ++ x.to).size ≤ maxLen
      simp only [ByteArray.size_append, maxLen]
      have : (⟨#[c]⟩ : ByteArray).size = 1 := rfl
      omega
  by_cases h25 : 25 ≤ cs.length
  · exact ⟨ownL_len _ cs 25 h25, ownL_all _ cs 25 h25 hp⟩
  · rw [List.take_of_length_le (by omega)]
    have e := ownL_len ⟨#[c]⟩ cs cs.length (Nat.le_refl _)
    have f := ownL_all (P := fun x => CallOk w x ∧ hdB c x.name ∧ hdB c (ACall.to x) ∧ x.b.length ≤ 150) ⟨#[c]⟩ cs cs.length (Nat.le_refl _) hp
    rw [List.take_length] at e f
    exact ⟨by omega, f⟩
/-- the errors of the first k calls. -/
def errs (fs : List (ByteArray × AFile)) (l : List ACall) (k : Nat) : List Int := (List.range k).map (errF fs l)
theorem errs_succ (fs : List (ByteArray × AFile)) (l : List ACall) (k : Nat) : errs fs l (k + 1) = errs fs l k ++ [errF fs l k] := by simp [errs, List.range_succ]
theorem errs_len (fs : List (ByteArray × AFile)) (l : List ACall) (k : Nat) : (errs fs l k).length = k := by simp [errs]
theorem errs_at (fs : List (ByteArray × AFile)) (l : List ACall) (k n : Nat) (hk : k < n) : (iCells (errs fs l n))[k]? = some (.int .i64 (errF fs l k)) := by simp [iCells, errs, hk]

theorem runF_names {P : ByteArray → Prop} (l : List ACall) (fs : List (ByteArray × AFile)) (h : ∀ p ∈ fs, P p.1) (hl : ∀ x ∈ l, P x.name ∧ P x.to) : ∀ p ∈ runF fs l, P p.1 := by
  induction l generalizing fs with
  | nil => exact h
  | cons x l ih => exact ih (stepF fs x).2 (stepF_names h (hl x (List.mem_cons_self ..)).1 (hl x (List.mem_cons_self ..)).2) (fun y hy => hl y (List.mem_cons_of_mem _ hy))
theorem runF_other {c c' : UInt8} (hc : c ≠ c') (l : List ACall) (fs : List (ByteArray × AFile)) (hl : ∀ x ∈ l, hdB c x.name ∧ hdB c x.to) : ∀ s, hdB c' s → lk (runF fs l) s = lk fs s := by
  induction l generalizing fs with
  | nil => exact fun _ _ => rfl
  | cons x l ih =>
    intro s hs
    have h1 := ih (stepF fs x).2 (fun y hy => hl y (List.mem_cons_of_mem _ hy)) s hs
    have h2 := stepF_other (fs := fs) hc (hl x (List.mem_cons_self ..)).1 (hl x (List.mem_cons_self ..)).2 s hs
    exact h1.trans h2

/-- the disk on which both lists are woven. -/
structure StB (d : ADisk) (L M : List ACall) (i k : Nat) : Prop where
  calm : Calm d
  most : d.most = 1048576
  used : usedF d.fs ≤ 150 * (i + k)
  len : d.fs.length ≤ i + k
  one : ∀ s, hdB 45 s → lk d.fs s = lk (runF [] (L.take i)) s
  two : ∀ s, hdB 46 s → lk d.fs s = lk (runF (runF [] L) (M.take k)) s
  names : ∀ p ∈ d.fs, hdB 45 p.1 ∨ hdB 46 p.1
theorem StB.st {d : ADisk} {L M : List ACall} {i k : Nat} (h : StB d L M i k) : St d (i + k) d.fs := ⟨h.calm, h.most, rfl, h.used, h.len⟩
theorem StB.stepL {d : ADisk} {L M : List ACall} {i k : Nat} (h : StB d L M i k) (hw : d.WF) (hi : i < L.length) (hl : L.length ≤ 25) (hk : k ≤ 25) (h1 : hdB 45 L[i].name) (h2 : hdB 45 (ACall.to L[i])) (h3 : L[i].b.length ≤ 150) :
    d.doesErr L[i] = errF [] L i ∧ StB (d.does L[i]) L M (i + 1) k := by
  obtain ⟨e1, e2⟩ := h.st.step hw (by omega) L[i] h3
  obtain ⟨o1, o2⟩ := stepF_own (x := L[i]) h.one h1 h2
  refine ⟨by rw [e1, o1, errF_at _ _ _ hi], ⟨e2.calm, e2.most, by have := e2.used; omega, by have := e2.len; omega, fun s hs => ?_, fun s hs => ?_, ?_⟩⟩
  · rw [e2.fs, o2 s hs, runF_take _ _ _ hi]
  · rw [e2.fs, stepF_other (by decide) h1 h2 s hs]; exact h.two s hs
  · rw [e2.fs]; exact stepF_names (P := fun s => hdB 45 s ∨ hdB 46 s) h.names (Or.inl h1) (Or.inl h2)
theorem StB.stepM {d : ADisk} {L M : List ACall} {i k : Nat} (h : StB d L M i k) (hw : d.WF) (hk : k < M.length) (hl : M.length ≤ 25) (hi : i ≤ 25) (h1 : hdB 46 M[k].name) (h2 : hdB 46 (ACall.to M[k])) (h3 : M[k].b.length ≤ 150) :
    d.doesErr M[k] = errF (runF [] L) M k ∧ StB (d.does M[k]) L M i (k + 1) := by
  obtain ⟨e1, e2⟩ := h.st.step hw (by omega) M[k] h3
  obtain ⟨o1, o2⟩ := stepF_own (x := M[k]) h.two h1 h2
  refine ⟨by rw [e1, o1, errF_at _ _ _ hk], ⟨e2.calm, e2.most, by have := e2.used; omega, by have := e2.len; omega, fun s hs => ?_, fun s hs => ?_, ?_⟩⟩
  · rw [e2.fs, stepF_other (by decide) h1 h2 s hs]; exact h.one s hs
  · rw [e2.fs, o2 s hs, runF_take _ _ _ hk]
  · rw [e2.fs]; exact stepF_names (P := fun s => hdB 45 s ∨ hdB 46 s) h.names (Or.inr h1) (Or.inr h2)
/-- both lists done: the same files. -/
theorem StB.all {d e : ADisk} {L M : List ACall} (h : StB d L M L.length M.length) (hw : d.WF) (he : St e (L.length + M.length) (runF (runF [] L) M)) (hwe : e.WF) (hL : ∀ x ∈ L, hdB 45 x.name ∧ hdB 45 x.to) (hM : ∀ x ∈ M, hdB 46 x.name ∧ hdB 46 x.to) : e.shot = d.shot := by
  have hn : ∀ p ∈ runF (runF [] L) M, hdB 45 p.1 ∨ hdB 46 p.1 := runF_names (P := fun s => hdB 45 s ∨ hdB 46 s) M _ (runF_names (P := fun s => hdB 45 s ∨ hdB 46 s) L [] (by simp) (fun x hx => ⟨Or.inl (hL x hx).1, Or.inl (hL x hx).2⟩)) (fun x hx => ⟨Or.inr (hM x hx).1, Or.inr (hM x hx).2⟩)
  have h1 := h.one
  have h2 := h.two
  rw [List.take_length] at h1 h2
  have hfs : e.fs = d.fs := by
    refine sorted_ext hwe.sorted hw.sorted (fun s => ?_)
    rw [he.fs]
    by_cases a1 : hdB 45 s
    · rw [h1 s a1]; exact runF_other (c := 46) (c' := 45) (by decide) M _ hM s a1
    · by_cases a2 : hdB 46 s
      · exact (h2 s a2).symm
      · have n1 : lk (runF (runF [] L) M) s = none := by
          cases hl : lk (runF (runF [] L) M) s with
          | none => rfl
          | some f => exact ((hn _ (lk_some_mem hl)).elim a1 a2).elim
        have n2 : lk d.fs s = none := by
          cases hl : lk d.fs s with
          | none => rfl
          | some f => exact ((h.names _ (lk_some_mem hl)).elim a1 a2).elim
        rw [n1, n2]
  have hd1 := he.calm.down
  have hd2 := h.calm.down
  have hsame : ∀ x y : ADisk, x.fs = y.fs → x.down = y.down → x.shot = y.shot := by
    intro x y e1 e2
    obtain ⟨m, l, dn, fs⟩ := x
    obtain ⟨m', l', dn', fs'⟩ := y
    simp only at e1 e2
    subst e1 e2
    rfl
  exact hsame e d hfs (by rw [hd1, hd2])
end Go.Proofs.Ytlljlkeknklplaa
