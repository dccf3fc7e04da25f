/-
  The disk's files in memory, and the walks of file.size and file.first: what each call gives.
-/
import Derived.Test.YtnagejhpdhdpfaaGreatDoorProg
import Derived.Test.YtnagejhpdhdpfaaGreatDoorBase
import Derived.Test.YtnagejhpdhdpfaaGreatDoorPlain
import Derived.StillTailTactics
import Derived.BigQuiet
import Derived.Outline
import Derived.Deep.QuietTactic
namespace Go.Proofs.YtnagejhpdhdpfaaGreatDoor
open Go.RowKit Go.Maps Go.MapKept

/-- bytes as cells. -/
def bcells (l : List UInt8) : List Value := l.map fun b => .int .u8 b.toNat
theorem bcells_length (l : List UInt8) : (bcells l).length = l.length := by simp [bcells]
theorem bcells_append (l m : List UInt8) : bcells (l ++ m) = bcells l ++ bcells m := by simp [bcells]
theorem bcells_take (l : List UInt8) (n : Nat) : bcells (l.take n) = (bcells l).take n := by simp [bcells, List.map_take]
theorem bcells_one (l : List UInt8) : ∀ u ∈ bcells l, u.oneCell' = true := by
  intro u hu
  obtain ⟨_, _, rfl⟩ := List.mem_map.1 hu
  rfl

theorem info_u8 : (Tryz.prog.info? 5).map (fun i => (i.zero, i.size, i.bytes)) = some (some (.int .u8 0), 1, 1) := by kernel_rfl
theorem append_u8 {w : World} {ops : Array Oper} {rest : List Oper} {o : Oper} {a : Act} {Q : Exit → Act → World → Prop} (hgd : Region.wanted o (yielded ops a.tmps) = true) (s x : Operand)
    (ho : o.op = .call { callee := .builtin .append, args := #[s, x], argTypes := #[22, 22] })
    (v vx : Value) (l m r : List UInt8) (hlm : l ++ m = r) (hs : a.eval s = v) (hown : w.ownsRow 0 5 1 v l.length (bcells l)) (hx : a.eval x = vx) (hrd : Rd w vx (bcells m))
    (h63 : l.length + m.length ≤ 140737488355328)
    (h : ∀ v' w', w'.ownsRow 0 5 1 v' r.length (bcells r) → w.grownBy w' v.ownBlock → (v'.ownBlock = v.ownBlock ∨ ∃ g, v'.ownBlock = some g ∧ w.heap.size ≤ g) → w'.ownsRow 0 5 1 v l.length (bcells l) → wpList Tryz.prog ops Q rest (a.put o.dst v') w') : wpList Tryz.prog ops Q (o :: rest) a w := by
  subst hlm
  obtain ⟨i0, hi, hz0, hz1, hz2⟩ := info_parts info_u8
  refine wpList_append_rd hgd s x 22 ho 5 i0 (.int .u8 0) 1 Tryz.underlying22 hi hz0 hz1 hz2 rfl v vx l.length m.length (bcells l) (bcells m) hs hown hx hrd (by simp [bcells_length]) (bcells_one m) (by simp only [maxLen]; omega) (by omega) ?_
  intro v' w' h1 h2 h3 h4
  rw [← bcells_append, ← List.length_append] at h1
  exact h v' w' h1 h2 h3 h4

/-- A file's two slices, each in a block of its own. -/
def FileAt (w : World) (v : Value) (f : AFile) : Prop :=
  ∃ v1 v2, v = .agg #[v1, v2] ∧ w.ownsRow 0 5 1 v1 f.firm.length (bcells f.firm) ∧ w.ownsRow 0 5 1 v2 f.loose.length (bcells f.loose) ∧
    (∀ g, v1.ownBlock = some g → v2.ownBlock ≠ some g) ∧ f.len ≤ 16777216

/-- the blocks of a file. -/
def fblocks (v : Value) (k : Nat) : Prop := ∃ x ∈ v.cells.toList, x.ownBlock = some k
theorem fblocks_agg (v1 v2 : Value) (k : Nat) : fblocks (.agg #[v1, v2]) k ↔ v1.ownBlock = some k ∨ v2.ownBlock = some k := by simp [fblocks, Value.cells]
theorem own_slice (a : Option Addr) (n c : Nat) : (Value.slice a n c).ownBlock = a.map (·.block) := by cases a <;> rfl

theorem row_slice {w : World} {e : TypeId} {v : Value} {n : Nat} {xs : List Value} (h : w.ownsRow 0 e 1 v n xs) : ∃ a c, v = .slice a n c ∧ n ≤ c ∧ c ≤ maxLen ∧ (a = none → c = 0) := by
  obtain ⟨h1, ⟨rfl, rfl⟩ | ⟨g, cap, cur, rfl, hb, hg, hn, hc, hs, ht⟩⟩ := h
  · exact ⟨none, 0, rfl, Nat.le_refl _, by simp [maxLen], fun _ => rfl⟩
  · exact ⟨_, cap, rfl, hn, hc, fun e => by cases e⟩

theorem row_take {w : World} {e : TypeId} {a : Option Addr} {n c : Nat} {xs : List Value} (h : w.ownsRow 0 e 1 (.slice a n c) n xs) (m : Nat) (hm : m ≤ n) : w.ownsRow 0 e 1 (.slice a m c) m (xs.take m) := by
  obtain ⟨h1, ⟨h2, rfl⟩ | ⟨g, cap, cur, h2, hb, hg, hn, hc, hs, ht⟩⟩ := h
  · cases h2
    obtain rfl : m = 0 := by omega
    exact ⟨by simp, Or.inl ⟨rfl, rfl⟩⟩
  · cases h2
    refine ⟨by simp at h1; simp; omega, Or.inr ⟨g, _, cur, rfl, hb, hg, by omega, hc, hs, ?_⟩⟩
    rw [← ht, List.take_take]
    congr 1
    omega

set_option maxHeartbeats 400000 in
theorem fsize_any (w : World) (v : Value) (f : AFile) (hf : FileAt w v f) :
    Calls Tryz.prog 73 #[v] w fun e w' => e = .returned (.int .i64 f.len) ∧ Below w.heap.size w w' := by
  obtain ⟨v1, v2, rfl, h1, h2, h3, hl⟩ := hf
  obtain ⟨a1, c1, rfl, _, _, _⟩ := row_slice h1
  obtain ⟨a2, c2, rfl, _, _, _⟩ := row_slice h2
  unfold AFile.len at hl
  have hl' : (f.firm.length : Int) + (f.loose.length : Int) ≤ 16777216 := by omega
  clear h1 h2 h3
  go_enter Tryz.func73, Tryz.ntmps73
  go_wp2
  go_ret
  exact ⟨by simp [AFile.len], (Below.refl _ _).alloc (Nat.le_refl _) _⟩

theorem FileAt.upd {w w' : World} {v : Value} {f : AFile} {fp : Nat → Prop} (h : FileAt w v f) (hu : Upd fp w w') (hn : ∀ k, fblocks v k → ¬ fp k) : FileAt w' v f := by
  obtain ⟨v1, v2, rfl, h1, h2, h3⟩ := h
  exact ⟨v1, v2, rfl, hu.row h1 (fun g hg => hn g ((fblocks_agg _ _ _).2 (Or.inl hg))), hu.row h2 (fun g hg => hn g ((fblocks_agg _ _ _).2 (Or.inr hg))), h3⟩

set_option maxHeartbeats 400000 in
theorem first_less (w : World) (v : Value) (f : AFile) (n : Nat) (hf : FileAt w v f) (hn : n ≤ f.firm.length) :
    Calls Tryz.prog 62 #[v, .int .i64 n] w fun e w' => ∃ v', e = .returned v' ∧ FileAt w' v' ⟨f.firm.take n, []⟩ ∧ Upd (fblocks v) w w' ∧ (∀ k, fblocks v' k → fblocks v k ∨ w.heap.size ≤ k) ∧ FileAt w' v f := by
  have hf0 := hf
  obtain ⟨v1, v2, rfl, h1, h2, h3, hl⟩ := hf
  obtain ⟨a1, c1, rfl, hc1, hm1, _⟩ := row_slice h1
  obtain ⟨a2, c2, rfl, _, _, _⟩ := row_slice h2
  unfold AFile.len at hl
  have Hf0 := Lib.hid hf0
  clear hf0
  have hn' : ¬ ((f.firm.length : Int) < n) := by omega
  have hnc : (n : Int) ≤ c1 := by omega
  clear h2 h3
  go_enter Tryz.func62, Tryz.ntmps62
  go_wp2
  have hU : Upd (fblocks (.agg #[.slice a1 f.firm.length c1, .slice a2 f.loose.length c2])) w ((w.alloc (Obj.cells #[Value.slice a1 f.firm.length c1, Value.slice a2 f.loose.length c2] 95)).alloc (Obj.cells #[Value.slice a1 n c1, Value.slice none 0 0] 95)) := ((Upd.refl _ _).alloc _).alloc _
  have hU0 : Upd noFp w ((w.alloc (Obj.cells #[Value.slice a1 f.firm.length c1, Value.slice a2 f.loose.length c2] 95)).alloc (Obj.cells #[Value.slice a1 n c1, Value.slice none 0 0] 95)) := ((Upd.refl _ _).alloc _).alloc _
  have hr := row_take h1 n hn
  rw [← bcells_take] at hr
  have hl2 : (f.firm.take n).length = n := by simp; omega
  refine bodyPost_ret (v := .agg #[.slice a1 n c1, .slice none 0 0]) (by simp [results, Tryz.results62, go_sem]) rfl ⟨_, rfl, ⟨_, _, rfl, ?_, World.ownsRow_nil _ _ _ _, by simp [Value.ownBlock], by simp [AFile.len]; omega⟩, hU, fun k hk => ?_, Hf0.out.upd hU0 (fun _ _ h => h)⟩
  · show World.ownsRow _ 0 _ 1 _ (f.firm.take n).length _
    rw [hl2]
    exact hU0.row hr (fun _ _ h => h)
  · left
    rw [fblocks_agg] at hk ⊢
    simp only [own_slice, Option.map_none, reduceCtorEq, or_false] at hk ⊢
    exact Or.inl hk
set_option maxRecDepth 100000 in
set_option maxHeartbeats 400000 in
theorem first_more (w : World) (v : Value) (f : AFile) (n : Nat) (hf : FileAt w v f) (hn : f.firm.length < n) (hn2 : n ≤ f.len) :
    Calls Tryz.prog 62 #[v, .int .i64 n] w fun e w' => ∃ v', e = .returned v' ∧ FileAt w' v' ⟨f.firm ++ f.loose.take (n - f.firm.length), []⟩ ∧ Upd (fblocks v) w w' ∧ (∀ k, fblocks v' k → fblocks v k ∨ w.heap.size ≤ k) ∧ FileAt w' v f := by
  obtain ⟨v1, v2, rfl, h1, h2, h3, hl⟩ := hf
  obtain ⟨a1, c1, rfl, hc1, hm1, _⟩ := row_slice h1
  obtain ⟨a2, c2, rfl, hc2, _, _⟩ := row_slice h2
  unfold AFile.len at hl hn2
  have hn' : (f.firm.length : Int) < n := by omega
  have hnc : (n : Int) - f.firm.length ≤ c2 := by omega
  obtain ⟨ys, hys⟩ : ∃ ys, f.firm ++ f.loose.take (n - f.firm.length) = ys := ⟨_, rfl⟩
  rw [hys]
  have hyl : ys.length = n := by rw [← hys]; simp; omega
  have Hys := Lib.hid hys
  have Hyl := Lib.hid hyl
  have H3 := Lib.hid h3
  clear h3 hys hyl
  go_enter Tryz.func62, Tryz.ntmps62
  go_wp2
  have hw1 : IntKind.i64.wrap ((n : Int) - f.firm.length) = (n : Int) - f.firm.length := IntWalk.i64_in _ (by omega)
  have hw2 : (0 : Int) ≤ (n : Int) - f.firm.length := by omega
  have hw3 : ((n : Int) - f.firm.length).toNat = n - f.firm.length := by omega
  have hw4 : f.firm.length ≤ n := by omega
  refine wp_region_tail 10 (by kernel_rfl) (by kernel_rfl) ?_
  simp only [List.take_succ_cons, List.take_zero, List.drop_succ_cons, List.drop_zero]
  repeat still_step
  refine wpStill_nil ?_
  have hr2 := row_take h2 (n - f.firm.length) (by omega)
  rw [← bcells_take] at hr2
  have hU0 : Upd noFp w ((w.alloc (Obj.cells #[Value.slice a1 f.firm.length c1, Value.slice a2 f.loose.length c2] 95)).alloc (Obj.cells #[Value.slice none 0 0, Value.slice none 0 0] 95)).drew := (((Upd.refl _ _).alloc _).alloc _).drew
  have hown1 := hU0.row h1 (fun _ _ h => h)
  have hrd2 := Rd.ofOwns (hU0.row hr2 (fun _ _ h => h))
  refine append_u8 rfl (.tmp 11) (.tmp 19) rfl (.slice a1 f.firm.length c1) (.slice a2 (n - f.firm.length) c2) f.firm (f.loose.take (n - f.firm.length)) ys Hys.out rfl hown1 rfl hrd2 (by simp; omega) ?_
  intro v' w1 hv' hg hb hold
  have hlt : ∀ g, (Value.slice a1 f.firm.length c1).ownBlock = some g → g < w.heap.size := fun g hg => row_lt h1 hg
  generalize hW : ((w.alloc (Obj.cells #[Value.slice a1 f.firm.length c1, Value.slice a2 f.loose.length c2] 95)).alloc (Obj.cells #[Value.slice none 0 0, Value.slice none 0 0] 95)).drew = W at *
  have hb2 : W.heap[w.heap.size + 1]? = some (Obj.cells #[Value.slice none 0 0, Value.slice none 0 0] 95 (0, 0)) := by rw [← hW]; exact alloc2_at _ _ _
  have hWs : w.heap.size ≤ W.heap.size := hU0.size
  have hU1 : Upd (fun k => (Value.slice a1 f.firm.length c1).ownBlock = some k) W w1 := (Upd.refl _ _).grown hg (fun k hk => Or.inl hk)
  have hb3 := hU1.keep hb2 (fun h => by have := hlt _ h; omega)
  obtain ⟨q1, q2, q3, q4⟩ := cells2 hb3
  obtain ⟨a', c', rfl, _, _, _⟩ := row_slice hv'
  clear hW
  go_wp2
  have hW2 := blk_lt hb2
  have hU2 : Upd (fun k => (Value.slice a1 f.firm.length c1).ownBlock = some k) w w1 := (hU0.mono (fun k h => h.elim)).trans hU1 (fun k hk => Or.inl hk)
  have hU3 := (hU2.setCell (p := ⟨w.heap.size + 1, 0, none⟩) (Or.inr (by simp)) (.slice a' ys.length c')).setCell (p := ⟨w.heap.size + 1, 1, none⟩) (Or.inr (by simp)) (.slice none 0 0)
  have hU4 : Upd (· = w.heap.size + 1) w1 ((w1.setCell ⟨w.heap.size + 1, 0, none⟩ (.slice a' ys.length c')).setCell ⟨w.heap.size + 1, 1, none⟩ (.slice none 0 0)) :=
    setCell2_upd _ _
  have hfin := hU4.row hv' (fun g hg e => by
    rcases hb with hb | ⟨g', hb, hg'⟩
    · have := hlt g (hb ▸ hg); omega
    · rw [hb] at hg; cases hg; omega)
  have hfold : FileAt ((w1.setCell ⟨w.heap.size + 1, 0, none⟩ (.slice a' ys.length c')).setCell ⟨w.heap.size + 1, 1, none⟩ (.slice none 0 0)) (.agg #[.slice a1 f.firm.length c1, .slice a2 f.loose.length c2]) f := by
    refine ⟨_, _, rfl, hU4.row hold (fun g hg e => by have := hlt g hg; omega), hU4.row (hU2.row h2 (fun g hg e => H3.out g e hg)) (fun g hg e => by have := row_lt h2 hg; omega), H3.out, by unfold AFile.len; omega⟩
  refine bodyPost_ret (v := .agg #[.slice a' ys.length c', .slice none 0 0]) (by simp [results, Tryz.results62, go_sem, q1, q2]) rfl ⟨_, rfl, ⟨_, _, rfl, hfin, World.ownsRow_nil _ _ _ _, by simp [Value.ownBlock], ?_⟩, hU3.mono ?_, fun k hk => ?_, hfold⟩
  · have := Hyl.out
    simp only [AFile.len]
    simp; omega
  · intro k hk
    exact Or.inl ((fblocks_agg _ _ _).2 (Or.inl hk))
  · rw [fblocks_agg] at hk ⊢
    rcases hk with hk | hk
    · rcases hb with hb | ⟨g', hb, hg'⟩
      · exact Or.inl (Or.inl (hb ▸ hk))
      · rw [hb] at hk; cases hk; exact Or.inr (by omega)
    · cases hk
end Go.Proofs.YtnagejhpdhdpfaaGreatDoor
