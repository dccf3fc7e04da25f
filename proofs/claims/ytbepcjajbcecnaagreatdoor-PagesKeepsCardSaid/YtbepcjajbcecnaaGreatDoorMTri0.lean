/-
  Three rows of one's own that grow by appends in one statement, whatever its order (printed by wip/gen/gen_tri.py).
-/
import Derived.Outline
import Derived.Deep.RegionLaw
import Derived.Test.YtbepcjajbcecnaaGreatDoorMPgm19
namespace Go.Proofs.YtbepcjajbcecnaaGreatDoor
open Go.RowKit Go.Maps Go.MapKept

theorem info_str6 : (Tryz.prog.info? 9).map (fun i => (i.zero, i.size, i.bytes)) = some (some (.string ⟨#[]⟩), 1, 16) := by kernel_rfl
theorem info_int6 : (Tryz.prog.info? 3).map (fun i => (i.zero, i.size, i.bytes)) = some (some (.int .i64 0), 1, 8) := by kernel_rfl
theorem info_blob6 : (Tryz.prog.info? 104).map (fun i => (i.zero, i.size, i.bytes)) = some (some (.agg #[.slice none 0 0, .int .i64 0, .int .i64 0]), 3, 40) := by kernel_rfl
theorem run_append_rowN5 {P : Program} (w : World) (t ty e : TypeId) (i : TypeInfo) (z : Value) (sz bytes : Nat) (ht : P.underlying t = some (.slice e)) (hi : P.info? e = some i) (hz : i.zero = some z)
    (hsize : i.size = sz) (hby : i.bytes = bytes) (hzs : z.cells.size = sz) (hsz : 0 < sz)
    (v : Value) (n m : Nat) (xs news : List Value) (hown : w.ownsRow 0 e sz v n xs) (b off c : Nat) (hl : news.length = m * sz) (hnews : ∀ j u, news[j]? = some u → w.cell? ⟨b, off + j, none⟩ = some u) (h1 : ∀ u ∈ news, u.oneCell' = true)
    (h63 : n + m ≤ maxLen) (hbytes : (n + m) * bytes ≤ 140737488355328) :
    ∃ v' w', (Builtin.append_ #[t, t] ty #[v, .slice (some ⟨b, off, none⟩) m c]).run P w = .ok v' w' ∧ w'.ownsRow 0 e sz v' (n + m) (xs ++ news) ∧ w.grownBy w' v.ownBlock ∧
      (v'.ownBlock = v.ownBlock ∨ ∃ g, v'.ownBlock = some g ∧ w.heap.size ≤ g) := by
  obtain ⟨v', w', hr, ho, hg, hn⟩ := run_append_own (P := P) w 0 t ty e i z sz bytes ht hi hz hsize hby hzs hsz v n xs hown ⟨b, off, none⟩ m c news hl (by simpa [Addr.add_lit] using hnews) h1 h63 hbytes (Nat.zero_le _)
  refine ⟨v', w', hr, ho, hg, ?_⟩
  rcases hown.2 with ⟨rfl, rfl⟩ | ⟨g, cap, cur, rfl, hbg, hgc, hnc, hcm, hcs, htake⟩
  · have hx : xs = [] := List.eq_nil_of_length_eq_zero (by simpa using hown.1)
    subst hx
    obtain ⟨v2, w2, hr2, ho2, _, _⟩ := run_append_own (P := P) w w.heap.size t ty e i z sz bytes ht hi hz hsize hby hzs hsz (.slice none 0 0) 0 [] (World.ownsRow_nil w _ e sz) ⟨b, off, none⟩ m c news hl (by simpa [Addr.add_lit] using hnews) h1 h63 hbytes (Nat.le_refl _)
    rw [hr] at hr2
    cases hr2
    rcases ho2.2 with ⟨rfl, _⟩ | ⟨g', _, _, rfl, hb', _⟩
    · exact Or.inl rfl
    · exact Or.inr ⟨g', rfl, hb'⟩
  · subst hby
    have hsmall : n + m ≤ 9223372036854775807 := by simp only [maxLen] at h63; omega
    by_cases hroom : n + m ≤ cap
    · have hr2 := run_append_room (P := P) w t ty e i ht hi g n cap cur hgc ⟨b, off, none⟩ m c news (by rw [hsize]; exact hl) (by simpa [Addr.add_lit] using hnews) h1 hroom (by rw [hsize, hcs, hl, ← Nat.add_mul]; exact Nat.mul_le_mul_right _ hroom)
      rw [hr] at hr2
      cases hr2
      exact Or.inl rfl
    · have holds : ∀ j u, xs[j]? = some u → w.cell? ((⟨g, 0, none⟩ : Addr).add j) = some u := hown.cells (g := g) rfl
      have hr2 := run_append_grow (P := P) w t ty e i z ht hi hz ⟨g, 0, none⟩ n cap xs (by rw [hsize]; exact hown.1) holds ⟨b, off, none⟩ m c news (by rw [hsize]; exact hl) (by simpa [Addr.add_lit] using hnews) (by omega) (by omega) (growslice_fits (by omega) hbytes)
      rw [hr] at hr2
      cases hr2
      exact Or.inr ⟨w.heap.size, rfl, Nat.le_refl _⟩
/-- three rows in blocks that are new since w0, apart from one another; blocks T that are read. -/
structure Tri (w0 w : World) (v1 v2 v3 : Value) (n1 n2 n3 : Nat) (x1 x2 x3 : List Value) (T : List (Nat × Obj)) : Prop where
  bel : Below w0.heap.size w0 w
  r1 : w.ownsRow w0.heap.size 9 1 v1 n1 x1
  r2 : w.ownsRow w0.heap.size 104 3 v2 n2 x2
  r3 : w.ownsRow w0.heap.size 3 1 v3 n3 x3
  ne12 : ∀ g, v1.ownBlock = some g → v2.ownBlock ≠ some g
  ne13 : ∀ g, v1.ownBlock = some g → v3.ownBlock ≠ some g
  ne23 : ∀ g, v2.ownBlock = some g → v3.ownBlock ≠ some g
  tmp : ∀ t ∈ T, w.heap[t.1]? = some t.2 ∧ w0.heap.size ≤ t.1 ∧ v1.ownBlock ≠ some t.1 ∧ v2.ownBlock ≠ some t.1 ∧ v3.ownBlock ≠ some t.1
section
variable {w0 w w' : World} {v1 v2 v3 : Value} {n1 n2 n3 : Nat} {x1 x2 x3 : List Value} {T : List (Nat × Obj)}
theorem Tri.start (w : World) : Tri w w (.slice none 0 0) (.slice none 0 0) (.slice none 0 0) 0 0 0 [] [] [] [] :=
  ⟨Below.refl _ _, World.ownsRow_nil _ _ _ _, World.ownsRow_nil _ _ _ _, World.ownsRow_nil _ _ _ _, fun g h => (by cases h), fun g h => (by cases h), fun g h => (by cases h), fun t ht => (by cases ht)⟩
theorem Tri.below (h : Tri w0 w v1 v2 v3 n1 n2 n3 x1 x2 x3 T) (hB : Below w.heap.size w w') : Tri w0 w' v1 v2 v3 n1 n2 n3 x1 x2 x3 T :=
  have hU : Upd noFp w w' := Upd.ofBelow hB
  ⟨h.bel.trans (hB.mono h.bel.size), hU.row h.r1 (fun _ _ h => h), hU.row h.r2 (fun _ _ h => h), hU.row h.r3 (fun _ _ h => h), h.ne12, h.ne13, h.ne23, fun t ht => ⟨hU.keep (h.tmp t ht).1 (fun h => h), (h.tmp t ht).2⟩⟩
theorem Tri.drew (h : Tri w0 w v1 v2 v3 n1 n2 n3 x1 x2 x3 T) : Tri w0 w.drew v1 v2 v3 n1 n2 n3 x1 x2 x3 T := h.below ((Below.refl _ _).drew)
theorem Tri.alloc (h : Tri w0 w v1 v2 v3 n1 n2 n3 x1 x2 x3 T) (o : Obj) : Tri w0 (w.alloc o) v1 v2 v3 n1 n2 n3 x1 x2 x3 ((w.heap.size, o) :: T) := by
  have h2 := h.below (w' := w.alloc o) ((Below.refl _ _).alloc (Nat.le_refl _) _)
  refine ⟨h2.bel, h2.r1, h2.r2, h2.r3, h2.ne12, h2.ne13, h2.ne23, fun t ht => ?_⟩
  rcases List.mem_cons.1 ht with rfl | ht
  · exact ⟨alloc_at _ _, h.bel.size, fun e => Nat.lt_irrefl _ (h.r1.lt _ e).2, fun e => Nat.lt_irrefl _ (h.r2.lt _ e).2, fun e => Nat.lt_irrefl _ (h.r3.lt _ e).2⟩
  · exact h2.tmp t ht
theorem Tri.clear (h : Tri w0 w v1 v2 v3 n1 n2 n3 x1 x2 x3 T) : Tri w0 w v1 v2 v3 n1 n2 n3 x1 x2 x3 [] := ⟨h.bel, h.r1, h.r2, h.r3, h.ne12, h.ne13, h.ne23, fun t ht => (by cases ht)⟩
theorem Tri.grown1 {v' : Value} {ys : List Value} (h : Tri w0 w v1 v2 v3 n1 n2 n3 x1 x2 x3 T) (g1 : w'.ownsRow 0 9 1 v' (n1 + 1) (x1 ++ ys)) (g2 : w.grownBy w' v1.ownBlock) (g3 : v'.ownBlock = v1.ownBlock ∨ ∃ g, v'.ownBlock = some g ∧ w.heap.size ≤ g) :
    Tri w0 w' v' v2 v3 (n1 + 1) n2 n3 (x1 ++ ys) x2 x3 T := by
  have hU : Upd (fun g => v1.ownBlock = some g) w w' := (Upd.refl _ _).grown g2 (fun g hg => Or.inl hg)
  have hs := h.bel.size
  have hv : ∀ g, v'.ownBlock = some g → v1.ownBlock = some g ∨ w.heap.size ≤ g := fun g hg => by
    rcases g3 with e | ⟨g', e, hg'⟩
    · exact Or.inl (e ▸ hg)
    · rw [e] at hg; cases hg; exact Or.inr hg'
  have hn2 : ∀ g, v'.ownBlock = some g → v2.ownBlock ≠ some g := fun g hg => by
    rcases hv g hg with e | e
    · exact fun e2 => h.ne12 g e e2
    · exact fun e2 => by have := (h.r2.lt g e2).2; omega
  have hn3 : ∀ g, v'.ownBlock = some g → v3.ownBlock ≠ some g := fun g hg => by
    rcases hv g hg with e | e
    · exact fun e2 => h.ne13 g e e2
    · exact fun e2 => by have := (h.r3.lt g e2).2; omega
  refine ⟨h.bel.trans (hU.below (fun k hk => (h.r1.lt k hk).1) hs), ownsRow_from g1 (fun g hg => by rcases hv g hg with e | e; exact (h.r1.lt g e).1; omega), hU.row h.r2 (fun g hg e => h.ne12 g e hg), hU.row h.r3 (fun g hg e => h.ne13 g e hg), hn2, hn3, h.ne23, fun t ht => ?_⟩
  obtain ⟨t1, t2, t3, t4, t5⟩ := h.tmp t ht
  exact ⟨hU.keep t1 (fun e => t3 e), t2, fun e => by rcases hv _ e with e2 | e2; exact t3 e2; have := blk_lt t1; omega, t4, t5⟩
theorem Tri.grown2 {v' : Value} {ys : List Value} (h : Tri w0 w v1 v2 v3 n1 n2 n3 x1 x2 x3 T) (g1 : w'.ownsRow 0 104 3 v' (n2 + 1) (x2 ++ ys)) (g2 : w.grownBy w' v2.ownBlock) (g3 : v'.ownBlock = v2.ownBlock ∨ ∃ g, v'.ownBlock = some g ∧ w.heap.size ≤ g) :
    Tri w0 w' v1 v' v3 n1 (n2 + 1) n3 x1 (x2 ++ ys) x3 T := by
  have hU : Upd (fun g => v2.ownBlock = some g) w w' := (Upd.refl _ _).grown g2 (fun g hg => Or.inl hg)
  have hs := h.bel.size
  have hv : ∀ g, v'.ownBlock = some g → v2.ownBlock = some g ∨ w.heap.size ≤ g := fun g hg => by
    rcases g3 with e | ⟨g', e, hg'⟩
    · exact Or.inl (e ▸ hg)
    · rw [e] at hg; cases hg; exact Or.inr hg'
  have hn1 : ∀ g, v'.ownBlock = some g → v1.ownBlock ≠ some g := fun g hg => by
    rcases hv g hg with e | e
    · exact fun e2 => h.ne12 g e2 e
    · exact fun e2 => by have := (h.r1.lt g e2).2; omega
  have hn3 : ∀ g, v'.ownBlock = some g → v3.ownBlock ≠ some g := fun g hg => by
    rcases hv g hg with e | e
    · exact fun e2 => h.ne23 g e e2
    · exact fun e2 => by have := (h.r3.lt g e2).2; omega
  refine ⟨h.bel.trans (hU.below (fun k hk => (h.r2.lt k hk).1) hs), hU.row h.r1 (fun g hg e => h.ne12 g hg e), ownsRow_from g1 (fun g hg => by rcases hv g hg with e | e; exact (h.r2.lt g e).1; omega), hU.row h.r3 (fun g hg e => h.ne23 g e hg), fun g hg e => hn1 g e hg, h.ne13, hn3, fun t ht => ?_⟩
  obtain ⟨t1, t2, t3, t4, t5⟩ := h.tmp t ht
  exact ⟨hU.keep t1 (fun e => t4 e), t2, t3, fun e => by rcases hv _ e with e2 | e2; exact t4 e2; have := blk_lt t1; omega, t5⟩
theorem Tri.grown3 {v' : Value} {ys : List Value} (h : Tri w0 w v1 v2 v3 n1 n2 n3 x1 x2 x3 T) (g1 : w'.ownsRow 0 3 1 v' (n3 + 1) (x3 ++ ys)) (g2 : w.grownBy w' v3.ownBlock) (g3 : v'.ownBlock = v3.ownBlock ∨ ∃ g, v'.ownBlock = some g ∧ w.heap.size ≤ g) :
    Tri w0 w' v1 v2 v' n1 n2 (n3 + 1) x1 x2 (x3 ++ ys) T := by
  have hU : Upd (fun g => v3.ownBlock = some g) w w' := (Upd.refl _ _).grown g2 (fun g hg => Or.inl hg)
  have hs := h.bel.size
  have hv : ∀ g, v'.ownBlock = some g → v3.ownBlock = some g ∨ w.heap.size ≤ g := fun g hg => by
    rcases g3 with e | ⟨g', e, hg'⟩
    · exact Or.inl (e ▸ hg)
    · rw [e] at hg; cases hg; exact Or.inr hg'
  have hn1 : ∀ g, v'.ownBlock = some g → v1.ownBlock ≠ some g := fun g hg => by
    rcases hv g hg with e | e
    · exact fun e2 => h.ne13 g e2 e
    · exact fun e2 => by have := (h.r1.lt g e2).2; omega
  have hn2 : ∀ g, v'.ownBlock = some g → v2.ownBlock ≠ some g := fun g hg => by
    rcases hv g hg with e | e
    · exact fun e2 => h.ne23 g e2 e
    · exact fun e2 => by have := (h.r2.lt g e2).2; omega
  refine ⟨h.bel.trans (hU.below (fun k hk => (h.r3.lt k hk).1) hs), hU.row h.r1 (fun g hg e => h.ne13 g hg e), hU.row h.r2 (fun g hg e => h.ne23 g hg e), ownsRow_from g1 (fun g hg => by rcases hv g hg with e | e; exact (h.r3.lt g e).1; omega), h.ne12, fun g hg e => hn1 g e hg, fun g hg e => hn2 g e hg, fun t ht => ?_⟩
  obtain ⟨t1, t2, t3, t4, t5⟩ := h.tmp t ht
  exact ⟨hU.keep t1 (fun e => t5 e), t2, t3, t4, fun e => by rcases hv _ e with e2 | e2; exact t5 e2; have := blk_lt t1; omega⟩
theorem step_tri1 {ops : Array Oper} {o : Oper} {a : Act} {K : Act → World → Prop} {Q : Exit → Act → World → Prop} {E : Prop} (I : Tri w0 w v1 v2 v3 n1 n2 n3 x1 x2 x3 T) (hgd : o.guard = none) (s0 x0 : Operand) (ho : o.op = .call { callee := .builtin .append, args := #[s0, x0], argTypes := #[34, 34] }) (hs : a.eval s0 = v1)
    (g : Nat) (s : ByteArray) (hx : a.eval x0 = .slice (some ⟨g, 0, none⟩) 1 1) (hT : (g, Obj.cells #[.string s] 9 (0, 0)) ∈ T) (hn : n1 ≤ 100000)
    (h : ∀ a' c' w', Tri w0 w' (.slice a' (n1 + 1) c') v2 v3 (n1 + 1) n2 n3 (x1 ++ [.string s]) x2 x3 T → K (a.put o.dst (.slice a' (n1 + 1) c')) w') : if Region.wanted o (yielded ops a.tmps) = true then Oper.wp Tryz.prog o a w K Q else E := by
  obtain ⟨i0, hi, hz0, hz1, hz2⟩ := info_parts info_str6
  obtain ⟨t1, _⟩ := I.tmp _ hT
  obtain ⟨v', w', hr, g1, g2, g3⟩ := run_append_rowN5 (P := Tryz.prog) w 34 o.type 9 i0 (.string ⟨#[]⟩) 1 16 Tryz.underlying34 hi hz0 hz1 hz2 rfl (by omega) v1 n1 1 x1 [.string s] (ownsRow_base0 I.r1) g 0 1 rfl (fun j u hu => by rw [Nat.zero_add]; exact (cell_at t1 j).trans (by simpa using hu)) (fun u hu => by
      simp only [List.mem_cons, List.not_mem_nil, or_false] at hu
      subst hu; rfl) (by simp only [maxLen]; omega) (by omega)
  have hsl : ∃ a' c', v' = .slice a' (n1 + 1) c' := by
    rcases g1.2 with ⟨_, h0⟩ | ⟨_, _, _, rfl, _⟩
    · exact absurd h0 (by omega)
    · exact ⟨_, _, rfl⟩
  obtain ⟨a', c', rfl⟩ := hsl
  have I2 := I.grown1 g1 g2 g3
  have hw : Region.wanted o (yielded ops a.tmps) = true := by simp [Region.wanted, hgd]
  rw [if_pos hw]
  unfold Oper.wp execOp
  simp only [ho, resolve, invoke, builtin, Sem.run_bind, Sem.run_pure, Result.andThen_ok, List.map_toArray, List.map_cons, List.map_nil, hs, hx, hr]
  exact h _ _ _ I2
theorem step_tri2 {ops : Array Oper} {o : Oper} {a : Act} {K : Act → World → Prop} {Q : Exit → Act → World → Prop} {E : Prop} (I : Tri w0 w v1 v2 v3 n1 n2 n3 x1 x2 x3 T) (hgd : o.guard = none) (s0 x0 : Operand) (ho : o.op = .call { callee := .builtin .append, args := #[s0, x0], argTypes := #[161, 161] }) (hs : a.eval s0 = v2)
    (g : Nat) (p q : Int) (hx : a.eval x0 = .slice (some ⟨g, 0, none⟩) 1 1) (hT : (g, Obj.cells #[.slice none 0 0, .int .i64 p, .int .i64 q] 104 (0, 0)) ∈ T) (hn : n2 ≤ 100000)
    (h : ∀ a' c' w', Tri w0 w' v1 (.slice a' (n2 + 1) c') v3 n1 (n2 + 1) n3 x1 (x2 ++ [.slice none 0 0, .int .i64 p, .int .i64 q]) x3 T → K (a.put o.dst (.slice a' (n2 + 1) c')) w') : if Region.wanted o (yielded ops a.tmps) = true then Oper.wp Tryz.prog o a w K Q else E := by
  obtain ⟨i0, hi, hz0, hz1, hz2⟩ := info_parts info_blob6
  obtain ⟨t1, _⟩ := I.tmp _ hT
  obtain ⟨v', w', hr, g1, g2, g3⟩ := run_append_rowN5 (P := Tryz.prog) w 161 o.type 104 i0 (.agg #[.slice none 0 0, .int .i64 0, .int .i64 0]) 3 40 Tryz.underlying161 hi hz0 hz1 hz2 rfl (by omega) v2 n2 1 x2 [.slice none 0 0, .int .i64 p, .int .i64 q] (ownsRow_base0 I.r2) g 0 1 rfl (fun j u hu => by rw [Nat.zero_add]; exact (cell_at t1 j).trans (by simpa using hu)) (fun u hu => by
      simp only [List.mem_cons, List.not_mem_nil, or_false] at hu
      rcases hu with rfl | rfl | rfl <;> rfl) (by simp only [maxLen]; omega) (by omega)
  have hsl : ∃ a' c', v' = .slice a' (n2 + 1) c' := by
    rcases g1.2 with ⟨_, h0⟩ | ⟨_, _, _, rfl, _⟩
    · exact absurd h0 (by omega)
    · exact ⟨_, _, rfl⟩
  obtain ⟨a', c', rfl⟩ := hsl
  have I2 := I.grown2 g1 g2 g3
  have hw : Region.wanted o (yielded ops a.tmps) = true := by simp [Region.wanted, hgd]
  rw [if_pos hw]
  unfold Oper.wp execOp
  simp only [ho, resolve, invoke, builtin, Sem.run_bind, Sem.run_pure, Result.andThen_ok, List.map_toArray, List.map_cons, List.map_nil, hs, hx, hr]
  exact h _ _ _ I2
theorem step_tri3 {ops : Array Oper} {o : Oper} {a : Act} {K : Act → World → Prop} {Q : Exit → Act → World → Prop} {E : Prop} (I : Tri w0 w v1 v2 v3 n1 n2 n3 x1 x2 x3 T) (hgd : o.guard = none) (s0 x0 : Operand) (ho : o.op = .call { callee := .builtin .append, args := #[s0, x0], argTypes := #[43, 43] }) (hs : a.eval s0 = v3)
    (g : Nat) (p : Int) (hx : a.eval x0 = .slice (some ⟨g, 0, none⟩) 1 1) (hT : (g, Obj.cells #[.int .i64 p] 3 (0, 0)) ∈ T) (hn : n3 ≤ 100000)
    (h : ∀ a' c' w', Tri w0 w' v1 v2 (.slice a' (n3 + 1) c') n1 n2 (n3 + 1) x1 x2 (x3 ++ [.int .i64 p]) T → K (a.put o.dst (.slice a' (n3 + 1) c')) w') : if Region.wanted o (yielded ops a.tmps) = true then Oper.wp Tryz.prog o a w K Q else E := by
  obtain ⟨i0, hi, hz0, hz1, hz2⟩ := info_parts info_int6
  obtain ⟨t1, _⟩ := I.tmp _ hT
  obtain ⟨v', w', hr, g1, g2, g3⟩ := run_append_rowN5 (P := Tryz.prog) w 43 o.type 3 i0 (.int .i64 0) 1 8 Tryz.underlying43 hi hz0 hz1 hz2 rfl (by omega) v3 n3 1 x3 [.int .i64 p] (ownsRow_base0 I.r3) g 0 1 rfl (fun j u hu => by rw [Nat.zero_add]; exact (cell_at t1 j).trans (by simpa using hu)) (fun u hu => by
      simp only [List.mem_cons, List.not_mem_nil, or_false] at hu
      subst hu; rfl) (by simp only [maxLen]; omega) (by omega)
  have hsl : ∃ a' c', v' = .slice a' (n3 + 1) c' := by
    rcases g1.2 with ⟨_, h0⟩ | ⟨_, _, _, rfl, _⟩
    · exact absurd h0 (by omega)
    · exact ⟨_, _, rfl⟩
  obtain ⟨a', c', rfl⟩ := hsl
  have I2 := I.grown3 g1 g2 g3
  have hw : Region.wanted o (yielded ops a.tmps) = true := by simp [Region.wanted, hgd]
  rw [if_pos hw]
  unfold Oper.wp execOp
  simp only [ho, resolve, invoke, builtin, Sem.run_bind, Sem.run_pure, Result.andThen_ok, List.map_toArray, List.map_cons, List.map_nil, hs, hx, hr]
  exact h _ _ _ I2
end
end Go.Proofs.YtbepcjajbcecnaaGreatDoor
