/-
  Ranging over a map and over a string: the laws for the walk.
-/
import Derived.Outline
import Derived.Maps.RangeWalk
import Derived.Laws.RangeAny
import Derived.Test.YtlljlkeknklplaaLaw0
namespace Go.Proofs.Ytlljlkeknklplaa
open Go.RowKit Go.Maps Go.MapKept
open Go.ChangeMaps (setBlock)

/-- a range over a map is under way: block r its iterator; cnt entries are still to come. -/
def RangeIs (P : Program) (k : TypeId) (w : World) (b r n : Nat) (g : Value → Option Value) (cnt : Nat) : Prop :=
  ∃ es clock since seen c0, w.heap[b]? = some (.map es clock) ∧ es.size = n ∧ n ≤ maxLen ∧ Stamped es clock ∧ (∀ x ∈ es.toList, ∃ l, keyOf P k x.key = some l) ∧ (∀ key v, g key = some v ↔ ∃ x ∈ es.toList, x.key = key ∧ x.val = v) ∧
    w.heap[r]? = some (.mapIter (some b) since seen c0) ∧ (∀ x ∈ es.toList, x.born < since) ∧ (leftOf es seen).size = cnt ∧ since ≤ c0 ∧ since ≤ clock

section
variable {P : Program} {k : TypeId} {w : World} {b r n : Nat} {g : Value → Option Value} {cnt : Nat}
theorem RangeIs.isMap (h : RangeIs P k w b r n g cnt) : MapIs P k w b n g := by
  obtain ⟨es, clock, since, seen, c0, h1, h2, h3, h4, h5, h6, _⟩ := h
  exact ⟨es, clock, h1, h2, h3, h4, h5, h6⟩
theorem RangeIs.upd {fp : Nat → Prop} {w' : World} (h : RangeIs P k w b r n g cnt) (hu : Upd fp w w') (h1 : ¬ fp b) (h2 : ¬ fp r) : RangeIs P k w' b r n g cnt := by
  obtain ⟨es, clock, since, seen, c0, hb, q2, q3, q4, q5, q6, hr, rest⟩ := h
  exact ⟨es, clock, since, seen, c0, hu.keep hb h1, q2, q3, q4, q5, q6, hu.keep hr h2, rest⟩
theorem RangeIs.left (h : RangeIs P k w b r n g cnt) : w.rangeLeft b r = cnt := by
  obtain ⟨es, clock, since, seen, c0, hb, _, _, _, _, _, hr, _, hc, _⟩ := h
  simp only [World.rangeLeft, hb, hr]
  exact hc
theorem MapIs.range {t e : TypeId} (h : MapIs P k w b n g) (ht : P.underlying t = some (.map k e)) :
    ∃ w', (Instr.range t (.map (some b))).run P w = .ok (.pointer (some ⟨w.heap.size, 0, none⟩)) w' ∧ RangeIs P k w' b w.heap.size n g n ∧ Below w.heap.size w w' ∧ w'.heap.size = w.heap.size + 1 := by
  have hlt := h.lt
  obtain ⟨es, clock, hb, hn, hm, hst, hks, hg⟩ := h
  refine ⟨_, run_range_map w t k e b es clock ht hb, ⟨es, clock, clock, #[], clock, alloc_old hb _, hn, hm, hst, hks, hg, alloc_at _ _, hst.1, ?_, Nat.le_refl _, Nat.le_refl _⟩, (Below.refl _ _).alloc (Nat.le_refl _) _, by simp⟩
  subst hn
  simp [leftOf]
theorem RangeIs.next (h : RangeIs P k w b r n g cnt) (ty : TypeId) :
    (cnt = 0 ∧ (Instr.next (.pointer (some ⟨r, 0, none⟩)) false ty).run P w = .ok (.tuple #[.bool false]) w) ∨
    ∃ key v w' cnt', g key = some v ∧ (Instr.next (.pointer (some ⟨r, 0, none⟩)) false ty).run P w = .ok (.tuple #[.bool true, key, v]) w' ∧ RangeIs P k w' b r n g cnt' ∧ cnt' < cnt ∧ Upd (· = r) w w' ∧
      (Instr.entry (.pointer (some ⟨r, 0, none⟩))).run P w' = .ok (.tuple #[key, v]) w' := by
  obtain ⟨es, clock, since, seen, c0, hb, hn, hm, hst, hks, hg, hr, hold, rfl, hsc, hsk⟩ := h
  have hne : r ≠ b := by
    intro e
    rw [e, hb] at hr
    cases hr
  rcases run_next_at (P := P) w ty r b since c0 seen es clock hr hb hold hsc with ⟨h0, hrun⟩ | ⟨e, he, w1, hal, hrun⟩
  · exact Or.inl ⟨h0, hrun⟩
  · obtain ⟨hem, hes⟩ := mem_left he
    have hr1 : w1.heap[r]? = some (.mapIter (some b) since seen c0) := by rcases hal with rfl | rfl <;> exact hr
    have hb1 : w1.heap[b]? = some (.map es clock) := by rcases hal with rfl | rfl <;> exact hb
    have hset := heap_set (o' := .mapIter (some b) since (seen.push e.born) clock) hr1
    have hb' : (setBlock w1 r (.mapIter (some b) since (seen.push e.born) clock)).heap[b]? = some (.map es clock) := (hset.2 b (fun e1 => hne e1.symm)).trans hb1
    refine Or.inr ⟨e.key, e.val, _, _, (hg _ _).2 ⟨e, hem, rfl, rfl⟩, hrun, ⟨es, clock, since, seen.push e.born, clock, hb', hn, hm, hst, hks, hg, hset.1, hold, rfl, hsk, hsk⟩, left_shrinks es seen e he, ?_,
      run_entry_at _ r b since seen es clock e hset.1 hb' hem ((stamped_iff es clock).1 hst).2.1⟩
    rcases hal with rfl | rfl <;> exact ⟨rfl, rfl, rfl, by simp [setBlock], fun i _ hi => hset.2 i (fun e1 => hi e1)⟩

variable {ops : Array Oper} {rest : List Oper} {o : Oper} {a : Act} {Q : Exit → Act → World → Prop}
theorem wpList_range_is (hg : o.guard = none) (m : Operand) (t : TypeId) (hop : o.op = Op.range t m) (e : TypeId) (ht : P.underlying t = some (.map k e)) (hm : a.eval m = .map (some b)) (h : MapIs P k w b n g)
    (hK : ∀ w', RangeIs P k w' b w.heap.size n g n → Below w.heap.size w w' → w'.heap.size = w.heap.size + 1 → wpList P ops Q rest (a.put o.dst (.pointer (some ⟨w.heap.size, 0, none⟩))) w') : wpList P ops Q (o :: rest) a w := by
  refine wpList_plain hg fun K' hK' => ?_
  obtain ⟨w', hrun, r1, r2, r3⟩ := h.range ht
  unfold Oper.wp
  simp [execOp, hop, hm, hrun, Result.andThen]
  exact hK' _ _ (hK w' r1 r2 r3)
theorem wpList_next_is (hg : o.guard = none) (it : Operand) (hop : o.op = Op.next it false) (hit : a.eval it = .pointer (some ⟨r, 0, none⟩)) (h : RangeIs P k w b r n g cnt)
    (hDone : cnt = 0 → wpList P ops Q rest (a.put o.dst (.tuple #[.bool false])) w)
    (hMore : ∀ key v w' cnt', g key = some v → RangeIs P k w' b r n g cnt' → cnt' < cnt → Upd (· = r) w w' → (Instr.entry (.pointer (some ⟨r, 0, none⟩))).run P w' = .ok (.tuple #[key, v]) w' → wpList P ops Q rest (a.put o.dst (.tuple #[.bool true, key, v])) w') : wpList P ops Q (o :: rest) a w := by
  refine wpList_plain hg fun K' hK' => ?_
  unfold Oper.wp
  rcases h.next o.type with ⟨h0, hrun⟩ | ⟨key, v, w', cnt', hgk, hrun, hrg, hlt, hu, hen⟩
  · simp [execOp, hop, hit, hrun, Result.andThen]
    exact hK' _ _ (hDone h0)
  · simp [execOp, hop, hit, hrun, Result.andThen]
    exact hK' _ _ (hMore key v w' cnt' hgk hrg hlt hu hen)

/-- the step of a range over a string of ASCII. -/
theorem wpList_next_str (hg : o.guard = none) (it : Operand) (hop : o.op = Op.next it true) (s : ByteArray) (pos : Nat) (hit : a.eval it = .pointer (some ⟨r, 0, none⟩)) (hr : w.heap[r]? = some (.stringIter s pos)) (hdec : pos < s.size → (Utf8.decode s pos).2 = 1)
    (hDone : ¬ pos < s.size → wpList P ops Q rest (a.put o.dst (.tuple #[.bool false])) w)
    (hMore : pos < s.size → ∀ c w', w'.heap[r]? = some (.stringIter s (pos + 1)) → Upd (· = r) w w' → wpList P ops Q rest (a.put o.dst (.tuple #[.bool true, .int .i64 pos, c])) w') : wpList P ops Q (o :: rest) a w := by
  refine wpList_plain hg fun K' hK' => ?_
  unfold Oper.wp
  by_cases h : pos < s.size
  · have hset := heap_set (o' := .stringIter s (pos + 1)) hr
    have hrun : (Instr.next (.pointer (some ⟨r, 0, none⟩)) true o.type).run P w = .ok (.tuple #[.bool true, .int .i64 pos, .int .i32 (Utf8.decode s pos).1]) (setBlock w r (.stringIter s (pos + 1))) := by
      have hs : (setObj r (.stringIter s (pos + 1))).run P w = .ok () (setBlock w r (.stringIter s (pos + 1))) := by simp [setObj, Sem.run, hr, setBlock]
      simp only [Instr.next, getObj, Sem.run_bind, Sem.run, hr, Result.andThen, h, if_true, hdec h, hs]
      simp [goInt, setBlock]
    simp [execOp, hop, hit, hrun, Result.andThen]
    exact hK' _ _ (hMore h _ _ hset.1 ⟨rfl, rfl, rfl, by simp [setBlock], fun i _ hi => hset.2 i (fun e1 => hi e1)⟩)
  · have hrun : (Instr.next (.pointer (some ⟨r, 0, none⟩)) true o.type).run P w = .ok (.tuple #[.bool false]) w := by
      simp [Instr.next, getObj, Sem.run, hr, h]
    simp [execOp, hop, hit, hrun, Result.andThen]
    exact hK' _ _ (hDone h)
end
end Go.Proofs.Ytlljlkeknklplaa
