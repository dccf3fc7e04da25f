/-
  The document's disk: put.
-/
import Derived.Outline
import Derived.Test.YtkacgmbinkoojaaGreatDoorMRfA
import Derived.Deep.RegionHeld3
namespace Go.Proofs.YtkacgmbinkoojaaGreatDoor
open Go.RowKit Go.Maps Go.MapKept
variable {X : Nat → Prop}

theorem info_RFile : (Tryz.prog.info? 82).map (fun i => (i.zero, i.size, i.bytes)) = some (some (.agg #[.string ⟨#[]⟩, .slice none 0 0, .int .i64 0]), 3, 48) := by kernel_rfl

/-- two rows of files that are made. -/
structure TwoRows (base : Nat) (w : World) (va vb : Value) (xs ys : List REnt) : Prop where
  ra : w.ownsRow base 82 3 va xs.length (flatR xs)
  rb : w.ownsRow base 82 3 vb ys.length (flatR ys)
  apart : ∀ g, va.ownBlock = some g → vb.ownBlock ≠ some g

theorem TwoRows.still {base : Nat} {w w1 : World} {va vb : Value} {xs ys : List REnt} (h : TwoRows base w va vb xs ys) (hb : Below w.heap.size w w1) : TwoRows base w1 va vb xs ys :=
  ⟨(Upd.ofBelow (fp := noFp) hb).row h.ra (fun _ _ h => h), (Upd.ofBelow (fp := noFp) hb).row h.rb (fun _ _ h => h), h.apart⟩
theorem TwoRows.growA {base : Nat} {w w1 : World} {va vb va' : Value} {xs ys xs' : List REnt} {g H : Nat} (h : TwoRows base w va vb xs ys) (hg : w.grownBy w1 va.ownBlock) (hown : w1.ownsRow base 82 3 va' xs'.length (flatR xs')) (hv : va'.ownBlock = some g) (hat : va.ownBlock = some g ∨ g = H) (hH : w.heap.size = H) : TwoRows base w1 va' vb xs' ys := by
  subst hH
  refine ⟨hown, ((Upd.refl (fun k => va.ownBlock = some k) w).grown hg (fun k hk => Or.inl hk)).row h.rb (fun k hk e => h.apart k e hk), fun k hk => ?_⟩
  rw [hv] at hk
  cases hk
  rcases hat with e | e
  · exact h.apart g e
  · intro e2
    have := row_lt h.rb e2
    omega
theorem TwoRows.growB {base : Nat} {w w1 : World} {va vb vb' : Value} {xs ys ys' : List REnt} {g H : Nat} (h : TwoRows base w va vb xs ys) (hg : w.grownBy w1 vb.ownBlock) (hown : w1.ownsRow base 82 3 vb' ys'.length (flatR ys')) (hv : vb'.ownBlock = some g) (hat : vb.ownBlock = some g ∨ g = H) (hH : w.heap.size = H) : TwoRows base w1 va vb' xs ys' := by
  subst hH
  refine ⟨((Upd.refl (fun k => vb.ownBlock = some k) w).grown hg (fun k hk => Or.inl hk)).row h.ra (fun k hk e => h.apart k hk e), hown, fun k hk e => ?_⟩
  rw [hv] at e
  cases e
  rcases hat with e | e
  · exact h.apart g hk e
  · have := row_lt h.ra hk
    omega

/-- one file more. -/
theorem append_fileR {w : World} {ops : Array Oper} {rest : List Oper} {o : Oper} {a : Act} {Q : Exit → Act → World → Prop} (hgd : o.guard = none) (s x : Operand)
    (ho : o.op = .call { callee := .builtin .append, args := #[s, x], argTypes := #[27, 27] })
    (base : Nat) (v : Value) (xs : List REnt) (e : REnt) (B m c : Nat) (hm : m = 1) (hs : a.eval s = v) (hown : w.ownsRow base 82 3 v xs.length (flatR xs)) (hx : a.eval x = .slice (some ⟨B, 0, none⟩) m c) (hB : w.heap[B]? = some (.cells ⟨e.cells⟩ 82))
    (h1 : e.v.oneCell' = true) (hl : xs.length ≤ 100000) (hbase : base ≤ w.heap.size) (n' : Nat) (hn' : xs.length + m = n') (H : Nat) (hH : w.heap.size = H)
    (h : ∀ g cap w', w'.ownsRow base 82 3 (.slice (some ⟨g, 0, none⟩) n' cap) (xs ++ [e]).length (flatR (xs ++ [e])) → w.grownBy w' v.ownBlock → (v.ownBlock = some g ∨ g = H) → wpList Tryz.prog ops Q rest (a.put o.dst (.slice (some ⟨g, 0, none⟩) n' cap)) w') : wpList Tryz.prog ops Q (o :: rest) a w := by
  subst hm hn'
  obtain ⟨i0, hi, hz0, hz1, hz2⟩ := info_parts info_RFile
  refine wpList_append_lies _ hgd s x 27 ho base 82 i0 (.agg #[.string ⟨#[]⟩, .slice none 0 0, .int .i64 0]) 3 48 Tryz.underlying27 hi hz0 hz1 hz2 rfl (by omega) v xs.length (flatR xs) hs hown ⟨B, 0, none⟩ 1 c e.cells hx rfl (World.news_of_block hB) ?_ (by omega) (by simp only [maxLen]; omega) (by omega) hbase H hH ?_
  · intro u hu
    simp only [REnt.cells, List.mem_cons, List.not_mem_nil, or_false] at hu
    rcases hu with rfl | rfl | rfl
    · rfl
    · exact h1
    · rfl
  · intro g cap w' h2 h3 h4 _
    refine h g cap w' ?_ h3 h4
    rw [flatR_append, flatR_one, List.length_append]
    exact h2

/-- a row behind a row. -/
theorem run_append_rows {P : Program} (w : World) (base base' : Nat) (t ty e : TypeId) (i : TypeInfo) (z : Value) (size bytes : Nat) (ht : P.underlying t = some (.slice e)) (hi : P.info? e = some i) (hz : i.zero = some z)
    (hsize : i.size = size) (hby : i.bytes = bytes) (hzs : z.cells.size = size) (hsz : 0 < size) (v x : Value) (n m : Nat) (xs ys : List Value) (hown : w.ownsRow base e size v n xs) (hx : w.ownsRow base' e size x m ys) (h1 : ∀ u ∈ ys, u.oneCell' = true)
    (h63 : n + m ≤ maxLen) (hbytes : (n + m) * bytes ≤ 140737488355328) (hbase : base ≤ w.heap.size) :
    ∃ v' w', (Builtin.append_ #[t, t] ty #[v, x]).run P w = .ok v' w' ∧ w'.ownsRow base e size v' (n + m) (xs ++ ys) ∧ w.grownBy w' v.ownBlock ∧ (v'.ownBlock = v.ownBlock ∨ v'.ownBlock = some w.heap.size) := by
  have hyl := hx.1
  by_cases hm : m = 0
  · subst hm
    have : ys = [] := List.eq_nil_of_length_eq_zero (by rw [hyl]; simp)
    subst this
    refine ⟨v, w, ?_, by simpa using hown, ⟨rfl, rfl, rfl, Nat.le_refl _, fun _ _ _ => rfl⟩, Or.inl rfl⟩
    rcases hx.2 with ⟨rfl, _⟩ | ⟨g, cap, cur, rfl, _⟩
    · exact run_append_owned_none (P := P) (w := w) base t ty e i size ht hi v n xs hown
    · have hnc : ∃ a cap, v = .slice a n cap ∧ n ≤ cap := by
        rcases hown.2 with ⟨rfl, rfl⟩ | ⟨g, cap, cur, rfl, _, _, hnc, _⟩
        · exact ⟨none, 0, rfl, Nat.le_refl _⟩
        · exact ⟨_, cap, rfl, hnc⟩
      obtain ⟨a, cap, rfl, hnc⟩ := hnc
      cases a <;> simp [Builtin.append_, run_underlying ht, sizeOf, typeInfo, hi, Builtin.lenOf, hnc, Builtin.firstCells, loadCells, loadCellsFrom, storeCells]
  · obtain ⟨g, cap, rfl, _⟩ := hx.form (by omega)
    obtain ⟨v', w', hr, h2, h3, _, h5⟩ := run_append_own_at (P := P) w base t ty e i z size bytes ht hi hz hsize hby hzs hsz v n xs hown ⟨g, 0, none⟩ m cap ys hyl (hx.cells (g := g) rfl) h1 h63 hbytes hbase
    exact ⟨v', w', hr, h2, h3, h5⟩
theorem append_files {w : World} {ops : Array Oper} {rest : List Oper} {o : Oper} {a : Act} {Q : Exit → Act → World → Prop} (hgd : o.guard = none) (s x : Operand)
    (ho : o.op = .call { callee := .builtin .append, args := #[s, x], argTypes := #[27, 27] })
    (base base' : Nat) (v vx : Value) (xs ys : List REnt) (hs : a.eval s = v) (hown : w.ownsRow base 82 3 v xs.length (flatR xs)) (hx : a.eval x = vx) (hxo : w.ownsRow base' 82 3 vx ys.length (flatR ys))
    (h1 : ∀ y ∈ ys, y.v.oneCell' = true) (hl : xs.length + ys.length ≤ 100000) (hbase : base ≤ w.heap.size)
    (h : ∀ a' c' w', w'.ownsRow base 82 3 (.slice a' (xs ++ ys).length c') (xs ++ ys).length (flatR (xs ++ ys)) → w.grownBy w' v.ownBlock → wpList Tryz.prog ops Q rest (a.put o.dst (.slice a' (xs ++ ys).length c')) w') : wpList Tryz.prog ops Q (o :: rest) a w := by
  obtain ⟨i0, hi, hz0, hz1, hz2⟩ := info_parts info_RFile
  refine wpList_on (by simp [Region.wanted, hgd]) fun K hK => ?_
  obtain ⟨v', w', hr, h2, h3, _⟩ := run_append_rows (P := Tryz.prog) w base base' 27 o.type 82 i0 (.agg #[.string ⟨#[]⟩, .slice none 0 0, .int .i64 0]) 3 48 Tryz.underlying27 hi hz0 hz1 hz2 rfl (by omega) v vx xs.length ys.length (flatR xs) (flatR ys) hown hxo (fun u hu => by
    simp only [flatR, List.mem_flatMap, REnt.cells, List.mem_cons, List.not_mem_nil, or_false] at hu
    obtain ⟨y, hy, rfl | rfl | rfl⟩ := hu
    · rfl
    · exact h1 y hy
    · rfl) (by simp only [maxLen]; omega) (by omega) hbase
  rw [← flatR_append, ← List.length_append] at h2
  obtain ⟨a', c', rfl⟩ : ∃ a' c', v' = .slice a' (xs ++ ys).length c' := by
    rcases h2.2 with ⟨h, h0⟩ | ⟨g, cap, cur, h, _⟩
    · exact ⟨none, 0, by rw [h, h0]⟩
    · exact ⟨_, _, h⟩
  unfold Oper.wp execOp
  simp only [ho, resolve, invoke, builtin, Sem.run_bind, Sem.run_pure, Result.andThen_ok, List.map_toArray, List.map_cons, List.map_nil, hs, hx, hr]
  exact hK _ _ (h a' c' w' h2 h3)

theorem bytesLess_lt (x y : List UInt8) : Op.bytesLess x y = decide (x < y) := by
  induction x generalizing y with
  | nil => cases y <;> simp [Op.bytesLess]
  | cons a x ih =>
    cases y with
    | nil => simp [Op.bytesLess]
    | cons b y =>
      simp only [Op.bytesLess, ih]
      rw [Bool.eq_iff_iff]
      simp [List.cons_lt_cons_iff]
theorem bytesLess_ltS (x y : ByteArray) : Op.bytesLess x.toList y.toList = ltS x y := by
  rw [bytesLess_lt, ByteArray.toList_eq, ByteArray.toList_eq]
  rfl

def aheadE (es : List REnt) (s : ByteArray) : List REnt := es.filter (fun x => ltS x.name s)
def behindE (es : List REnt) (s : ByteArray) : List REnt := es.filter (fun x => ltS s x.name)

theorem aheadE_take (es : List REnt) (s : ByteArray) (k : Nat) (hk : k < es.length) : aheadE (es.take (k + 1)) s = if ltS es[k].name s = true then aheadE (es.take k) s ++ [es[k]] else aheadE (es.take k) s := by
  unfold aheadE
  rw [List.take_succ_eq_append_getElem hk, List.filter_append]
  split <;> rename_i h
  · rw [List.filter_cons, if_pos h]; rfl
  · rw [List.filter_cons, if_neg h]; simp
theorem behindE_take (es : List REnt) (s : ByteArray) (k : Nat) (hk : k < es.length) : behindE (es.take (k + 1)) s = if ltS s es[k].name = true then behindE (es.take k) s ++ [es[k]] else behindE (es.take k) s := by
  unfold behindE
  rw [List.take_succ_eq_append_getElem hk, List.filter_append]
  split <;> rename_i h
  · rw [List.filter_cons, if_pos h]; rfl
  · rw [List.filter_cons, if_neg h]; simp
theorem aheadE_plain (es : List REnt) (s : ByteArray) : (aheadE es s).map REnt.plain = aheadF (es.map REnt.plain) s := by
  unfold aheadE aheadF
  rw [List.filter_map]
  rfl
theorem behindE_plain (es : List REnt) (s : ByteArray) : (behindE es s).map REnt.plain = behindF (es.map REnt.plain) s := by
  unfold behindE behindF
  rw [List.filter_map]
  rfl

/-- the end: the row is laid into the disk, the disk into the answer. -/
theorem put_end {w w2 : World} {most left : Int} {down : Bool} {fs : List (ByteArray × AFile)} {zs : List REnt} {a' : Option Addr} {n c' : Nat} (hn : n = zs.length) (hown : w2.ownsRow (w.heap.size + 3) 82 3 (.slice a' n c') n (flatR zs)) (hb2 : Below w.heap.size w w2) (hok : ∀ x ∈ zs, x.ok X w) (hX : NewOk X w) (hfs : fs = zs.map REnt.plain) (hl : zs.length ≤ 1000) (hsz : w.heap.size + 3 ≤ w2.heap.size) :
    RefAt X (((((w2.setCell ⟨w.heap.size, 1, none⟩ (.slice a' n c')).setCell ⟨w.heap.size + 1 + 1, 0, none⟩ (.int .i64 most)).setCell ⟨w.heap.size + 1 + 1, 1, none⟩ (.slice a' n c')).setCell ⟨w.heap.size + 1 + 1, 2, none⟩ (.int .i64 left)).setCell ⟨w.heap.size + 1 + 1, 3, none⟩ (.bool down)) a' n c' ⟨most, left, down, fs⟩ ∧
      Below w.heap.size w (((((w2.setCell ⟨w.heap.size, 1, none⟩ (.slice a' n c')).setCell ⟨w.heap.size + 1 + 1, 0, none⟩ (.int .i64 most)).setCell ⟨w.heap.size + 1 + 1, 1, none⟩ (.slice a' n c')).setCell ⟨w.heap.size + 1 + 1, 2, none⟩ (.int .i64 left)).setCell ⟨w.heap.size + 1 + 1, 3, none⟩ (.bool down)) := by
  have hU : Upd (fun k => w.heap.size ≤ k ∧ k < w.heap.size + 3) w2 (((((w2.setCell ⟨w.heap.size, 1, none⟩ (.slice a' n c')).setCell ⟨w.heap.size + 1 + 1, 0, none⟩ (.int .i64 most)).setCell ⟨w.heap.size + 1 + 1, 1, none⟩ (.slice a' n c')).setCell ⟨w.heap.size + 1 + 1, 2, none⟩ (.int .i64 left)).setCell ⟨w.heap.size + 1 + 1, 3, none⟩ (.bool down)) :=
    (((((Upd.refl _ w2).setCell (p := ⟨w.heap.size, 1, none⟩) (Or.inl (by dsimp only; omega)) _).setCell (p := ⟨w.heap.size + 1 + 1, 0, none⟩) (Or.inl (by dsimp only; omega)) _).setCell (p := ⟨w.heap.size + 1 + 1, 1, none⟩) (Or.inl (by dsimp only; omega)) _).setCell (p := ⟨w.heap.size + 1 + 1, 2, none⟩) (Or.inl (by dsimp only; omega)) _).setCell (p := ⟨w.heap.size + 1 + 1, 3, none⟩) (Or.inl (by dsimp only; omega)) _
  have hbE := hb2.trans (hU.below (N := w.heap.size) (fun k hk => hk.1) (by omega))
  refine ⟨RefAt.of_row (hU.row hown (fun g hg hk => by have := (hown.lt g hg).1; omega)) hn (by simp only [maxLen]; omega) (fun x hx => (hok x hx).below hbE) hfs (fun g hg => hX g (by have := (hown.lt g hg).1; omega)), hbE⟩

set_option maxRecDepth 100000 in
set_option maxHeartbeats 4000000 in
theorem refPut_new (w : World) (a : Option Addr) (n c : Nat) (d : ADisk) (s : ByteArray) (vf : Value) (f : AFile) (gone : Bool) (h : RefAt X w a n c d) (hw : d.WF) (hX : NewOk X w) (hf : Rd w vf (bcells (f.firm ++ f.loose))) (hfX : InX X vf (f.firm ++ f.loose)) :
    Calls Tryz.prog 52 #[refVal a n c d, .agg #[.string s, vf, .int .i64 (f.firm.length : Nat)], .bool gone] w fun e w' => ∃ a' n' c', e = .returned (refVal a' n' c' { d with fs := if gone then delF d.fs s else putF d.fs s f }) ∧ RefAt X w' a' n' c' { d with fs := if gone then delF d.fs s else putF d.fs s f } ∧ Below w.heap.size w w' ∧ (∀ g, (Value.slice a' n' c').ownBlock = some g → w.heap.size + 3 ≤ g) := by
  obtain ⟨es, hes, hok, hat⟩ := h.ents
  have hcnt := hw.count
  have hn : n = es.length := by rw [h.len, ← hes, List.length_map]
  subst hn
  have hcnt' : es.length ≤ 200 := by rw [← hes, List.length_map] at hcnt; exact hcnt
  have hsort := hw.sorted
  obtain ⟨avf, cvf, rfl⟩ := hf.shape
  rw [bcells_length] at hf ⊢
  have hfX' : InX X (.slice avf (f.firm.length + f.loose.length) cvf) (f.firm ++ f.loose) := by rw [bcells_length, List.length_append] at hfX; exact hfX
  have hf' : Rd w (.slice avf (f.firm.length + f.loose.length) cvf) (bcells (f.firm ++ f.loose)) := by rw [List.length_append] at hf; exact hf
  obtain ⟨most, left, down, fs⟩ := d
  simp only at hes hsort hcnt
  unfold refVal
  simp only
  have Hes := Lib.hid hes
  have Hok := Lib.hid hok
  clear hes hok h hw hcnt
  go_enter Tryz.func52, Tryz.ntmps52
  go_wp2_with fail
  have hD := alloc_old (alloc2_at0 w (.cells #[.int .i64 most, .slice a es.length c, .int .i64 left, .bool down] 29) (.cells #[.string s, .slice avf (f.firm ++ f.loose).length cvf, .int .i64 (f.firm.length : Nat)] 82)) (.cells #[.int .i64 0, .slice none 0 0, .int .i64 0, .bool false] 29)
  have hF := alloc_old (alloc2_at w (.cells #[.int .i64 most, .slice a es.length c, .int .i64 left, .bool down] 29) (.cells #[.string s, .slice avf (f.firm ++ f.loose).length cvf, .int .i64 (f.firm.length : Nat)] 82)) (.cells #[.int .i64 0, .slice none 0 0, .int .i64 0, .bool false] 29)
  have hR := alloc_at ((w.alloc (.cells #[.int .i64 most, .slice a es.length c, .int .i64 left, .bool down] 29)).alloc (.cells #[.string s, .slice avf (f.firm ++ f.loose).length cvf, .int .i64 (f.firm.length : Nat)] 82)) (.cells #[.int .i64 0, .slice none 0 0, .int .i64 0, .bool false] 29)
  have hB : Below w.heap.size w (((w.alloc (.cells #[.int .i64 most, .slice a es.length c, .int .i64 left, .bool down] 29)).alloc (.cells #[.string s, .slice avf (f.firm ++ f.loose).length cvf, .int .i64 (f.firm.length : Nat)] 82)).alloc (.cells #[.int .i64 0, .slice none 0 0, .int .i64 0, .bool false] 29)) := (((Below.refl _ _).alloc (Nat.le_refl _) _).alloc (by simp) _).alloc (by simp; omega) _
  have hsz : (((w.alloc (.cells #[.int .i64 most, .slice a es.length c, .int .i64 left, .bool down] 29)).alloc (.cells #[.string s, .slice avf (f.firm ++ f.loose).length cvf, .int .i64 (f.firm.length : Nat)] 82)).heap.size) = w.heap.size + 1 + 1 := by simp
  rw [hsz] at hR
  clear hsz
  simp only [List.length_append] at hD hF hR hB ⊢
  obtain ⟨W, hW⟩ : ∃ W, ((w.alloc (.cells #[.int .i64 most, .slice a es.length c, .int .i64 left, .bool down] 29)).alloc (.cells #[.string s, .slice avf (f.firm.length + f.loose.length) cvf, .int .i64 (f.firm.length : Nat)] 82)).alloc (.cells #[.int .i64 0, .slice none 0 0, .int .i64 0, .bool false] 29) = W := ⟨_, rfl⟩
  rw [hW] at hD hF hR hB ⊢
  clear hW
  go_loopw [7, 8, 9] (fun va vb i wr => ∃ (k : Nat) (a1 : Option Addr) (c1 : Nat) (a2 : Option Addr) (c2 : Nat), k ≤ es.length ∧ i = .int .i64 k ∧ va = .slice a1 (aheadE (es.take k) s).length c1 ∧ vb = .slice a2 (behindE (es.take k) s).length c2 ∧ TwoRows (w.heap.size + 3) wr va vb (aheadE (es.take k) s) (behindE (es.take k) s) ∧
      wr.heap[w.heap.size]? = some (.cells #[.int .i64 most, .slice a es.length c, .int .i64 left, .bool down] 29) ∧ wr.heap[w.heap.size + 1]? = some (.cells #[.string s, .slice avf (f.firm.length + f.loose.length) cvf, .int .i64 (f.firm.length : Nat)] 82) ∧ wr.heap[w.heap.size + 1 + 1]? = some (.cells #[.int .i64 0, .slice none 0 0, .int .i64 0, .bool false] 29) ∧ Below w.heap.size w wr) (fun _ _ i _ => es.length - (intOf i).toNat)
  case atStart => exact ⟨0, none, 0, none, 0, by omega, rfl, rfl, rfl, ⟨World.ownsRow_nil _ _ _ _, World.ownsRow_nil _ _ _ _, fun g hg => by cases hg⟩, hD, hF, hR, hB⟩
  case round =>
    obtain ⟨k, a1, c1, a2, c2, hk, rfl, rfl, rfl, hT, hDr, hFr, hRr, hbr⟩ := hrel
    clear hD hF hR hB
    obtain ⟨x0, x1, x2, x3, _⟩ := cells4 hDr
    obtain ⟨f0, f1, f2, _⟩ := cells3 hFr
    by_cases hlt : k < es.length
    · obtain ⟨b, off, rfl, hc⟩ := hat k hlt
      have hcc : ∀ j u, es[k].cells[j]? = some u → wr.cell? ⟨b, off + k * 3 + j, none⟩ = some u := fun j u hu => (hbr.cell (p := ⟨b, off + k * 3 + j, none⟩) (cell_lt (hc j u hu))).trans (hc j u hu)
      obtain ⟨y, hy⟩ : ∃ y, es[k] = y := ⟨_, rfl⟩
      rw [hy] at hcc
      obtain ⟨nm, vb, fl⟩ := y
      have c0 := hcc 0 _ rfl
      rw [Nat.add_zero] at c0
      have c1' := hcc 1 _ rfl
      have c2' := hcc 2 _ rfl
      have hcl : ∀ w2, Below w.heap.size w w2 → w2.cell? ⟨b, off + k * 3, none⟩ = some (.string nm) := fun w2 hb2 => by
        have h1 := hc 0 (.string nm) (by rw [hy]; rfl)
        rw [Nat.add_zero] at h1
        exact (hb2.cell (p := ⟨b, off + k * 3, none⟩) (cell_lt h1)).trans h1
      clear hcc hc
      have hvb1 : vb.oneCell' = true := by
        have := Hok.out es[k] (List.getElem_mem hlt)
        rw [hy] at this
        obtain ⟨aa, cc, e⟩ := Rd.shape this.1
        simp only at e
        rw [e]; rfl
      have hea := aheadE_take es s k hlt
      have heb := behindE_take es s k hlt
      rw [hy] at hea heb
      simp only at hea heb
      have hla : (aheadE (es.take k) s).length ≤ 200 := Nat.le_trans (List.length_filter_le _ _) (by rw [List.length_take]; omega)
      have hlb : (behindE (es.take k) s).length ≤ 200 := Nat.le_trans (List.length_filter_le _ _) (by rw [List.length_take]; omega)
      obtain ⟨xs, hxs⟩ : ∃ xs, aheadE (es.take k) s = xs := ⟨_, rfl⟩
      obtain ⟨ys, hys⟩ : ∃ ys, behindE (es.take k) s = ys := ⟨_, rfl⟩
      rw [hxs] at hT hea hla ⊢
      rw [hys] at hT heb hlb ⊢
      clear hxs hys
      have p1 := bytesLess_ltS nm s
      have p2 := bytesLess_ltS s nm
      have hDl := blk_lt hRr
      rcases ltS_total nm s with hc | hc | hc
      · rw [hc] at p1 hea
        rw [ltS_asymm hc] at p2 heb
        simp only [if_true, if_false, Bool.false_eq_true] at hea heb
        have Hea := Lib.hid hea
        have Heb := Lib.hid heb
        clear hea heb hc
        go_wp2_with fail
        refine wp_region_reads (by kernel_rfl) (by kernel_rfl) ?_
        repeat still_step
        refine wpStill_nil ?_
        have hT1 : TwoRows (w.heap.size + 3) (wr.alloc (.cells #[.string nm, vb, .int .i64 (fl.firm.length : Nat)] 82)).drew (.slice a1 xs.length c1) (.slice a2 ys.length c2) xs ys := hT.still ((((Below.refl _ _).alloc (Nat.le_refl _) _)).drew)
        have hB1 : (wr.alloc (.cells #[.string nm, vb, .int .i64 (fl.firm.length : Nat)] 82)).drew.heap[wr.heap.size]? = some (.cells ⟨REnt.cells ⟨nm, vb, fl⟩⟩ 82) := alloc_at wr _
        have hs1 : w.heap.size + 3 ≤ (wr.alloc (.cells #[.string nm, vb, .int .i64 (fl.firm.length : Nat)] 82)).drew.heap.size := by simp; omega
        have HB1 := Lib.hid hB1
        clear hB1
        go_wp2_with (at_builtin; refine append_fileR rfl (.tmp 26) (.tmp 32) rfl (w.heap.size + 3) (.slice a1 xs.length c1) xs ⟨nm, vb, fl⟩ wr.heap.size 1 1 rfl rfl hT1.ra rfl HB1.out hvb1 (by omega) hs1 _ rfl _ rfl ?_)
        intro g cap w2 hown hg hat
        have hT2 := hT1.growA (va' := .slice (some ⟨g, 0, none⟩) (xs.length + 1) cap) (xs' := xs ++ [⟨nm, vb, fl⟩]) hg (by simpa using hown) rfl hat (by simp)
        have hU : Upd (fun k => (Value.slice a1 xs.length c1).ownBlock = some k) wr w2 := (((Upd.refl _ wr).alloc _).drew).grown hg (fun k hk => Or.inl hk)
        have hb2 : Below w.heap.size w w2 := hbr.trans (hU.below (fun k hk => by have := (hT.ra.lt k hk).1; omega) hbr.size)
        have hD2 := hU.keep hDr (fun e => by have := (hT.ra.lt _ e).1; omega)
        have hF2 := hU.keep hFr (fun e => by have := (hT.ra.lt _ e).1; omega)
        have hR2 := hU.keep hRr (fun e => by have := (hT.ra.lt _ e).1; omega)
        have cb := hcl w2 hb2
        clear hown hg hat hU hT1 hT hDr hFr hRr hbr x0 x1 x2 x3 f0 f1 f2 c0 HB1 hs1 hDl
        obtain ⟨x0, x1, x2, x3, _⟩ := cells4 hD2
        obtain ⟨f0, f1, f2, _⟩ := cells3 hF2
        go_wp2_with fail
        refine wp_region_reads (by kernel_rfl) (by kernel_rfl) ?_
        repeat still_step
        refine wpStill_nil ?_
        go_wp2
        go_roundw
        case rel => exact ⟨k + 1, some ⟨g, 0, none⟩, cap, a2, c2, by omega, by go_num, by rw [Hea.out]; simp, by rw [Heb.out], by rw [Hea.out, Heb.out]; exact hT2.still (Below.refl _ _).drew, hD2, hF2, hR2, hb2.drew⟩
        case measure => simp [intOf]; omega
      · rw [show ltS nm s = false by rw [hc, ltS_irrefl]] at p1 hea
        rw [show ltS s nm = false by rw [hc, ltS_irrefl]] at p2 heb
        simp only [if_false, Bool.false_eq_true] at hea heb
        have Hea := Lib.hid hea
        have Heb := Lib.hid heb
        have p3 : (nm.toList == s.toList) = true := by rw [strEq]; simp [hc]
        clear hea heb hc
        go_wp2_with fail
        refine wp_region_reads (by kernel_rfl) (by kernel_rfl) ?_
        repeat still_step
        refine wpStill_nil ?_
        go_wp2_with fail
        refine wp_region_reads (by kernel_rfl) (by kernel_rfl) ?_
        repeat still_step
        refine wpStill_nil ?_
        go_wp2
        go_roundw
        case rel => exact ⟨k + 1, a1, c1, a2, c2, by omega, by go_num, by rw [Hea.out], by rw [Heb.out], by rw [Hea.out, Heb.out]; exact hT.still (Below.refl _ _).drew.drew, hDr, hFr, hRr, hbr.drew.drew⟩
        case measure => simp [intOf]; omega
      · rw [hc] at p2 heb
        rw [ltS_asymm hc] at p1 hea
        simp only [if_true, if_false, Bool.false_eq_true] at hea heb
        have Hea := Lib.hid hea
        have Heb := Lib.hid heb
        have p3 : (nm.toList == s.toList) = false := by rw [strEq]; simp [(ltS_ne hc).symm]
        clear hea heb hc
        have hT1 : TwoRows (w.heap.size + 3) (wr.alloc (.cells #[.string nm, vb, .int .i64 (fl.firm.length : Nat)] 82)).drew.drew (.slice a1 xs.length c1) (.slice a2 ys.length c2) xs ys := hT.still ((((Below.refl _ _).alloc (Nat.le_refl _) _)).drew.drew)
        have hB1 : (wr.alloc (.cells #[.string nm, vb, .int .i64 (fl.firm.length : Nat)] 82)).drew.drew.heap[wr.heap.size]? = some (.cells ⟨REnt.cells ⟨nm, vb, fl⟩⟩ 82) := alloc_at wr _
        have hs1 : w.heap.size + 3 ≤ (wr.alloc (.cells #[.string nm, vb, .int .i64 (fl.firm.length : Nat)] 82)).drew.drew.heap.size := by simp; omega
        have HB1 := Lib.hid hB1
        clear hB1
        go_wp2_with fail
        refine wp_region_reads (by kernel_rfl) (by kernel_rfl) ?_
        repeat still_step
        refine wpStill_nil ?_
        go_wp2_with fail
        refine wp_region_reads (by kernel_rfl) (by kernel_rfl) ?_
        repeat still_step
        refine wpStill_nil ?_
        go_wp2_with (at_builtin; refine append_fileR rfl (.tmp 43) (.tmp 49) rfl (w.heap.size + 3) (.slice a2 ys.length c2) ys ⟨nm, vb, fl⟩ wr.heap.size 1 1 rfl rfl hT1.rb rfl HB1.out hvb1 (by omega) hs1 _ rfl _ rfl ?_)
        intro g cap w2 hown hg hat
        have hT2 := hT1.growB (vb' := .slice (some ⟨g, 0, none⟩) (ys.length + 1) cap) (ys' := ys ++ [⟨nm, vb, fl⟩]) hg (by simpa using hown) rfl hat (by simp)
        have hU : Upd (fun k => (Value.slice a2 ys.length c2).ownBlock = some k) wr w2 := (((Upd.refl _ wr).alloc _).drew.drew).grown hg (fun k hk => Or.inl hk)
        have hb2 : Below w.heap.size w w2 := hbr.trans (hU.below (fun k hk => by have := (hT.rb.lt k hk).1; omega) hbr.size)
        have hD2 := hU.keep hDr (fun e => by have := (hT.rb.lt _ e).1; omega)
        have hF2 := hU.keep hFr (fun e => by have := (hT.rb.lt _ e).1; omega)
        have hR2 := hU.keep hRr (fun e => by have := (hT.rb.lt _ e).1; omega)
        go_wp2
        go_roundw
        case rel => exact ⟨k + 1, a1, c1, some ⟨g, 0, none⟩, cap, by omega, by go_num, by rw [Hea.out], by rw [Heb.out]; simp, by rw [Hea.out, Heb.out]; exact hT2, hD2, hF2, hR2, hb2⟩
        case measure => simp [intOf]; omega
    · obtain rfl : k = es.length := by omega
      clear hat
      rw [List.take_length] at hT ⊢
      have hla : (aheadE es s).length ≤ 200 := Nat.le_trans (List.length_filter_le _ _) hcnt'
      have hlb : (behindE es s).length ≤ 200 := Nat.le_trans (List.length_filter_le _ _) hcnt'
      have hoa : ∀ x ∈ aheadE es s, x.ok X w := fun x hx => Hok.out x (List.mem_filter.1 hx).1
      have hob : ∀ x ∈ behindE es s, x.ok X w := fun x hx => Hok.out x (List.mem_filter.1 hx).1
      have hob1 : ∀ y ∈ behindE es s, y.v.oneCell' = true := fun y hy => by
        obtain ⟨aa, cc, e⟩ := Rd.shape (hob y hy).1
        rw [e]; rfl
      have hpa := aheadE_plain es s
      have hpb := behindE_plain es s
      rw [Hes.out] at hpa hpb
      obtain ⟨xs, hxs⟩ : ∃ xs, aheadE es s = xs := ⟨_, rfl⟩
      obtain ⟨ys, hys⟩ : ∃ ys, behindE es s = ys := ⟨_, rfl⟩
      rw [hxs] at hT hla hoa hpa ⊢
      rw [hys] at hT hlb hob hob1 hpb ⊢
      clear hxs hys
      have Hob := Lib.hid hob
      have Hoa := Lib.hid hoa
      have Hob1 := Lib.hid hob1
      have Hpa := Lib.hid hpa
      have Hpb := Lib.hid hpb
      clear hoa hob hob1 hpa hpb
      have hRl := blk_lt hRr
      cases gone with
      | true =>
        go_wp2_with (at_builtin; refine append_files rfl (.tmp 57) (.tmp 58) rfl (w.heap.size + 3) (w.heap.size + 3) (.slice a1 xs.length c1) (.slice a2 ys.length c2) xs ys rfl hT.ra rfl hT.rb Hob1.out (by omega) (by omega) ?_)
        intro a' c' w2 hown hg
        have hU : Upd (fun k => (Value.slice a1 xs.length c1).ownBlock = some k) wr w2 := (Upd.refl _ wr).grown hg (fun k hk => Or.inl hk)
        have hb2 : Below w.heap.size w w2 := hbr.trans (hU.below (fun k hk => by have := (hT.ra.lt k hk).1; omega) hbr.size)
        have hD2 := hU.keep hDr (fun e => by have := (hT.ra.lt _ e).1; omega)
        have hR2 := hU.keep hRr (fun e => by have := (hT.ra.lt _ e).1; omega)
        clear hg hU hT hDr hFr hRr hbr x0 x1 x2 x3 f0 f1 f2
        obtain ⟨x0, x1, x2, x3, x4, x5, x6, x7⟩ := cells4 hD2
        obtain ⟨y0, y1, y2, y3, y4, y5, y6, y7⟩ := cells4 hR2
        go_wp2
        obtain ⟨e1, e2⟩ := put_end (most := most) (left := left) (down := down) (fs := delF fs s) (zs := xs ++ ys) (by simp) hown hb2 (fun x hx => (List.mem_append.1 hx).elim (Hoa.out x) (Hob.out x)) hX (by rw [delF_parts hsort, List.map_append, Hpa.out, Hpb.out]) (by simp; omega) (by have := blk_lt hR2; omega)
        refine bodyPost_ret (v := .agg #[.int .i64 most, .slice a' (xs.length + ys.length) c', .int .i64 left, .bool down]) (by simp [results, Tryz.results52, go_sem, y0, y1, y2, y3]) rfl ⟨_, _, _, rfl, ?_, e2, fun g hg => (hown.lt g hg).1⟩
        simpa using e1
      | false =>
        have hT1 : TwoRows (w.heap.size + 3) (wr.alloc (.cells #[.string s, .slice avf (f.firm.length + f.loose.length) cvf, .int .i64 (f.firm.length : Nat)] 82)) (.slice a1 xs.length c1) (.slice a2 ys.length c2) xs ys := hT.still ((Below.refl _ _).alloc (Nat.le_refl _) _)
        have hB1 : (wr.alloc (.cells #[.string s, .slice avf (f.firm.length + f.loose.length) cvf, .int .i64 (f.firm.length : Nat)] 82)).heap[wr.heap.size]? = some (.cells ⟨REnt.cells ⟨s, .slice avf (f.firm.length + f.loose.length) cvf, f⟩⟩ 82) := alloc_at wr _
        have hs1 : w.heap.size + 3 ≤ (wr.alloc (.cells #[.string s, .slice avf (f.firm.length + f.loose.length) cvf, .int .i64 (f.firm.length : Nat)] 82)).heap.size := by simp; omega
        have HB1 := Lib.hid hB1
        clear hB1
        go_wp2_with (at_builtin; refine append_fileR rfl (.tmp 53) (.tmp 55) rfl (w.heap.size + 3) (.slice a1 xs.length c1) xs ⟨s, .slice avf (f.firm.length + f.loose.length) cvf, f⟩ wr.heap.size 1 1 rfl rfl hT1.ra rfl HB1.out rfl (by omega) hs1 _ rfl _ rfl ?_)
        intro g cap w2 hown hg hat
        have hT2 := hT1.growA (va' := .slice (some ⟨g, 0, none⟩) (xs.length + 1) cap) (xs' := xs ++ [⟨s, .slice avf (f.firm.length + f.loose.length) cvf, f⟩]) hg (by simpa using hown) rfl hat (by simp)
        have hU : Upd (fun k => (Value.slice a1 xs.length c1).ownBlock = some k) wr w2 := ((Upd.refl _ wr).alloc _).grown hg (fun k hk => Or.inl hk)
        have hb2 : Below w.heap.size w w2 := hbr.trans (hU.below (fun k hk => by have := (hT.ra.lt k hk).1; omega) hbr.size)
        have hD2 := hU.keep hDr (fun e => by have := (hT.ra.lt _ e).1; omega)
        have hR2 := hU.keep hRr (fun e => by have := (hT.ra.lt _ e).1; omega)
        have hs2 : w.heap.size + 3 ≤ w2.heap.size := by have := blk_lt hR2; omega
        have hl1 : (xs ++ [(⟨s, .slice avf (f.firm.length + f.loose.length) cvf, f⟩ : REnt)]).length = xs.length + 1 := by simp
        have hx1 : ∀ x ∈ xs ++ [(⟨s, .slice avf (f.firm.length + f.loose.length) cvf, f⟩ : REnt)], x.ok X w := fun x hx => by
          rcases List.mem_append.1 hx with hx | hx
          · exact Hoa.out x hx
          · rw [List.mem_singleton.1 hx]; exact ⟨hf', hfX'⟩
        have hm1 : (xs ++ [(⟨s, .slice avf (f.firm.length + f.loose.length) cvf, f⟩ : REnt)]).map REnt.plain = aheadF fs s ++ [(s, f)] := by rw [List.map_append, Hpa.out]; rfl
        obtain ⟨xs1, hxs1⟩ : ∃ xs1, xs ++ [(⟨s, .slice avf (f.firm.length + f.loose.length) cvf, f⟩ : REnt)] = xs1 := ⟨_, rfl⟩
        rw [hxs1] at hl1 hx1 hm1 hT2
        have Hx1 := Lib.hid hx1
        have Hm1 := Lib.hid hm1
        have hl1' : xs1.length ≤ 201 := by omega
        clear hown hg hat hU hT1 hT hDr hFr hRr hbr x0 x1 x2 x3 f0 f1 f2 HB1 hs1 hxs1 hx1 hm1 hl1
        go_wp2_with (at_builtin; refine append_files rfl (.tmp 57) (.tmp 58) rfl (w.heap.size + 3) (w.heap.size + 3) (.slice (some ⟨g, 0, none⟩) (xs.length + 1) cap) (.slice a2 ys.length c2) xs1 ys rfl hT2.ra rfl hT2.rb Hob1.out (by omega) hs2 ?_)
        intro a' c' w3 hown hg
        have hU : Upd (fun k => (Value.slice (some ⟨g, 0, none⟩) (xs.length + 1) cap).ownBlock = some k) w2 w3 := (Upd.refl _ w2).grown hg (fun k hk => Or.inl hk)
        have hb3 : Below w.heap.size w w3 := hb2.trans (hU.below (fun k hk => by have := (hT2.ra.lt k hk).1; omega) hb2.size)
        have hD3 := hU.keep hD2 (fun e => by have := (hT2.ra.lt _ e).1; omega)
        have hR3 := hU.keep hR2 (fun e => by have := (hT2.ra.lt _ e).1; omega)
        clear hg hU hT2 hD2 hR2 hb2
        obtain ⟨x0, x1, x2, x3, x4, x5, x6, x7⟩ := cells4 hD3
        obtain ⟨y0, y1, y2, y3, y4, y5, y6, y7⟩ := cells4 hR3
        go_wp2
        obtain ⟨e1, e2⟩ := put_end (most := most) (left := left) (down := down) (fs := putF fs s f) (zs := xs1 ++ ys) (by simp) hown hb3 (fun x hx => (List.mem_append.1 hx).elim (Hx1.out x) (Hob.out x)) hX (by rw [putF_parts hsort, List.map_append, Hm1.out, Hpb.out]) (by simp; omega) (by have := blk_lt hR3; omega)
        refine bodyPost_ret (v := .agg #[.int .i64 most, .slice a' (xs1.length + ys.length) c', .int .i64 left, .bool down]) (by simp [results, Tryz.results52, go_sem, y0, y1, y2, y3]) rfl ⟨_, _, _, rfl, ?_, e2, fun g hg => (hown.lt g hg).1⟩
        simpa using e1
theorem refPut_any (w : World) (a : Option Addr) (n c : Nat) (d : ADisk) (s : ByteArray) (vf : Value) (f : AFile) (gone : Bool) (h : RefAt X w a n c d) (hw : d.WF) (hX : NewOk X w) (hf : Rd w vf (bcells (f.firm ++ f.loose))) (hfX : InX X vf (f.firm ++ f.loose)) :
    Calls Tryz.prog 52 #[refVal a n c d, .agg #[.string s, vf, .int .i64 (f.firm.length : Nat)], .bool gone] w fun e w' => ∃ a' n' c', e = .returned (refVal a' n' c' { d with fs := if gone then delF d.fs s else putF d.fs s f }) ∧ RefAt X w' a' n' c' { d with fs := if gone then delF d.fs s else putF d.fs s f } ∧ Below w.heap.size w w' :=
  (refPut_new w a n c d s vf f gone h hw hX hf hfX).mono fun _ _ ⟨a', n', c', h1, h2, h3, _⟩ => ⟨a', n', c', h1, h2, h3⟩
end Go.Proofs.YtkacgmbinkoojaaGreatDoor

/-
  The document's disk: Remove, Read, Arm.
-/
namespace Go.Proofs.YtkacgmbinkoojaaGreatDoor
open Go.RowKit Go.Maps Go.MapKept
variable {X : Nat → Prop}

/-- files Y, unless the power fails. -/
def ADisk.thenF (d : ADisk) (Y : List (ByteArray × AFile)) : ADisk := if d.left = 0 then d.fail else { d.tick with fs := Y }
theorem refStep_then (w : World) (a : Option Addr) (n c : Nat) (d : ADisk) (a' : Option Addr) (n' c' : Nat) (Y : List (ByteArray × AFile)) (h : RefAt X w a n c d) (h' : RefAt X w a' n' c' { d with fs := Y }) (hw : d.WF) (hd : d.down = false) :
    Calls Tryz.prog 51 #[refVal a n c d, refVal a' n' c' { d with fs := Y }] w fun e w' => ∃ a2 n2 c2, e = .returned (.tuple #[refVal a2 n2 c2 (d.thenF Y), .int .i64 d.err]) ∧ RefAt X w' a2 n2 c2 (d.thenF Y) ∧ Below w.heap.size w w' := by
  refine (refStep_any w a n c d a' n' c' { d with fs := Y } hw.left1).mono fun e w' he => ?_
  obtain ⟨rfl, hb⟩ := he
  have hl := hw.left0
  unfold stepVal ADisk.thenF ADisk.err
  by_cases h0 : d.left = 0
  · rw [if_pos h0, if_pos h0, if_pos h0]
    exact ⟨a, n, c, rfl, ⟨(h.below hb).files, h.len, h.inX⟩, hb⟩
  · rw [if_neg h0, if_neg h0, if_neg h0]
    have : ({ most := d.most, left := (if 0 < d.left then d.left - 1 else d.left), down := d.down, fs := Y } : ADisk) = { d.tick with fs := Y } := by
      unfold ADisk.tick
      rw [hd]
      congr 1
      show (if 0 < d.left then d.left - 1 else d.left) = max (d.left - 1) (-1)
      split <;> omega
    refine ⟨a', n', c', ?_, ⟨(h'.below hb).files, h'.len, h'.inX⟩, hb⟩
    rw [← this]

/-- a disk's own block holds no file and no byte. -/
theorem no_string {w : World} {r : Nat} {x y : Int} {u v : Value} {T : TypeId} (hr : w.heap[r]? = some (.cells #[.int .i64 x, u, .int .i64 y, v] T)) (hu : ∃ p q t, u = .slice p q t) (hv : ∃ b, v = .bool b) (o : Nat) (z : Value) (hz : w.cell? ⟨r, o, none⟩ = some z) : (∀ s, z ≠ .string s) ∧ (∀ n, z ≠ .int .u8 n) := by
  rw [cell_at hr] at hz
  obtain ⟨p, q, t, rfl⟩ := hu
  obtain ⟨b, rfl⟩ := hv
  match o, hz with
  | 0, hz => cases hz; exact ⟨fun s => by simp, fun n => by simp⟩
  | 1, hz => cases hz; exact ⟨fun s => by simp, fun n => by simp⟩
  | 2, hz => cases hz; exact ⟨fun s => by simp, fun n => by simp⟩
  | 3, hz => cases hz; exact ⟨fun s => by simp, fun n => by simp⟩
  | o + 4, hz => simp at hz
theorem RefAt.apart {w w' : World} {a : Option Addr} {n c : Nat} {d : ADisk} {r : Nat} {x y : Int} {u v : Value} {T : TypeId} (h : RefAt X w a n c d) (hr : w.heap[r]? = some (.cells #[.int .i64 x, u, .int .i64 y, v] T)) (hu : ∃ p q t, u = .slice p q t) (hv : ∃ b, v = .bool b) (hU : Upd (· = r) w w') : RefAt X w' a n c d := by
  refine ⟨?_, h.len, h.inX⟩
  rcases h.files with h1 | ⟨b, off, n', c', e, hl, hm, hc⟩
  · exact Or.inl h1
  · refine Or.inr ⟨b, off, n', c', e, hl, hm, fun j q hj => ?_⟩
    obtain ⟨cs, h1, h2, vb, h3, h4, h6⟩ := hc j q hj
    have hb : ¬ b = r := fun e => by
      subst e
      have := h2 0 (.string q.1) (by rw [h3]; rfl)
      exact (no_string hr hu hv _ _ this).1 _ rfl
    refine ⟨cs, h1, fun i u hi => (hU.cell (cell_lt (h2 i u hi)) hb _).trans (h2 i u hi), vb, h3, ?_, h6⟩
    rcases h4 with h4 | ⟨b2, o2, n2, c2, e2, l2, r2⟩
    · exact Or.inl h4
    · refine Or.inr ⟨b2, o2, n2, c2, e2, l2, fun j u hj => ?_⟩
      have hb2 : ¬ b2 = r := fun e => by
        subst e
        have h5 := r2 j u hj
        simp only [bcells, List.getElem?_map, Option.map_eq_some_iff] at hj
        obtain ⟨z, _, rfl⟩ := hj
        exact (no_string hr hu hv _ _ h5).2 _ rfl
      exact (hU.cell (cell_lt (r2 j u hj)) hb2 _).trans (r2 j u hj)
/-- .. nor does a block without bytes that no row lies in. -/
theorem RefAt.far {w w' : World} {a : Option Addr} {n c : Nat} {d : ADisk} {r : Nat} (h : RefAt X w a n c d) (hn : ∀ g, (Value.slice a n c).ownBlock = some g → g ≠ r) (h8 : ∀ o z, w.cell? ⟨r, o, none⟩ = some z → ∀ n, z ≠ .int .u8 n) (hU : Upd (· = r) w w') : RefAt X w' a n c d := by
  refine ⟨?_, h.len, h.inX⟩
  rcases h.files with h1 | ⟨b, off, n', c', e, hl, hm, hc⟩
  · exact Or.inl h1
  · cases e
    refine Or.inr ⟨b, off, _, _, rfl, hl, hm, fun j q hj => ?_⟩
    obtain ⟨cs, h1, h2, vb, h3, h4, h6⟩ := hc j q hj
    have hb : ¬ b = r := hn b rfl
    refine ⟨cs, h1, fun i u hi => (hU.cell (cell_lt (h2 i u hi)) hb _).trans (h2 i u hi), vb, h3, ?_, h6⟩
    rcases h4 with h4 | ⟨b2, o2, n2, c2, e2, l2, r2⟩
    · exact Or.inl h4
    · refine Or.inr ⟨b2, o2, n2, c2, e2, l2, fun j u hj => ?_⟩
      have hb2 : ¬ b2 = r := fun e => by
        subst e
        have h5 := r2 j u hj
        simp only [bcells, List.getElem?_map, Option.map_eq_some_iff] at hj
        obtain ⟨z, _, rfl⟩ := hj
        exact h8 _ _ h5 _ rfl
      exact (hU.cell (cell_lt (r2 j u hj)) hb2 _).trans (r2 j u hj)
/-- an answer laid into its block. -/
theorem ref_answer {w w1 : World} {r N : Nat} {a : Option Addr} {n c : Nat} {d : ADisk} {x y : Int} {p : Option Addr} {q t : Nat} {b : Bool} {T : TypeId} (h : RefAt X w1 a n c d) (hr : w1.heap[r]? = some (.cells #[.int .i64 x, .slice p q t, .int .i64 y, .bool b] T)) (hb : Below N w w1) (hN : N ≤ r) (v0 v1 v2 v3 : Value) :
    RefAt X ((((w1.setCell ⟨r, 0, none⟩ v0).setCell ⟨r, 1, none⟩ v1).setCell ⟨r, 2, none⟩ v2).setCell ⟨r, 3, none⟩ v3) a n c d ∧ Below N w ((((w1.setCell ⟨r, 0, none⟩ v0).setCell ⟨r, 1, none⟩ v1).setCell ⟨r, 2, none⟩ v2).setCell ⟨r, 3, none⟩ v3) := by
  have hU : Upd (· = r) w1 ((((w1.setCell ⟨r, 0, none⟩ v0).setCell ⟨r, 1, none⟩ v1).setCell ⟨r, 2, none⟩ v2).setCell ⟨r, 3, none⟩ v3) := ((((Upd.refl (· = r) w1).setCell (p := ⟨r, 0, none⟩) (Or.inl rfl) _).setCell (p := ⟨r, 1, none⟩) (Or.inl rfl) _).setCell (p := ⟨r, 2, none⟩) (Or.inl rfl) _).setCell (p := ⟨r, 3, none⟩) (Or.inl rfl) _
  exact ⟨h.apart hr ⟨_, _, _, rfl⟩ ⟨_, rfl⟩ hU, hb.trans (hU.below (fun k hk => by omega) (by have := blk_lt hr; omega))⟩

theorem find_zero {d : ADisk} {s : ByteArray} (h : findErr d s = 0) : d.down = false ∧ ∃ f, lk d.fs s = some f := by
  unfold findErr at h
  cases hd : d.down with
  | true => rw [hd] at h; simp at h
  | false =>
    refine ⟨rfl, ?_⟩
    cases hl : lk d.fs s with
    | none => rw [hd, hl] at h; simp at h
    | some f => exact ⟨f, rfl⟩

set_option maxRecDepth 100000 in
set_option maxHeartbeats 4000000 in
theorem refRemove_any (w : World) (a : Option Addr) (n c : Nat) (d : ADisk) (s : ByteArray) (h : RefAt X w a n c d) (hw : d.WF) (hX : NewOk X w) :
    Calls Tryz.prog 20 #[refVal a n c d, .string s] w fun e w' => ∃ a' n' c', e = .returned (.tuple #[refVal a' n' c' (d.remove s), .int .i64 (d.removeErr s)]) ∧ RefAt X w' a' n' c' (d.remove s) ∧ Below w.heap.size w w' := by
  have hA := fun (w : World) (h : RefAt X w a n c d) => refAsk_any w a n c d s h hw
  have hD := alloc2_at0 w (.cells #[.int .i64 d.most, .slice a n c, .int .i64 d.left, .bool d.down] 29) (.cells #[.int .i64 0, .slice none 0 0, .int .i64 0, .bool false] 29)
  have hR := alloc2_at w (.cells #[.int .i64 d.most, .slice a n c, .int .i64 d.left, .bool d.down] 29) (.cells #[.int .i64 0, .slice none 0 0, .int .i64 0, .bool false] 29)
  have hbW : Below w.heap.size w ((w.alloc (.cells #[.int .i64 d.most, .slice a n c, .int .i64 d.left, .bool d.down] 29)).alloc (.cells #[.int .i64 0, .slice none 0 0, .int .i64 0, .bool false] 29)) := ((Below.refl _ _).alloc (Nat.le_refl _) _).alloc (by simp) _
  obtain ⟨W, hW⟩ : ∃ W, (w.alloc (.cells #[.int .i64 d.most, .slice a n c, .int .i64 d.left, .bool d.down] 29)).alloc (.cells #[.int .i64 0, .slice none 0 0, .int .i64 0, .bool false] 29) = W := ⟨_, rfl⟩
  rw [hW] at hD hR hbW
  have HW := Lib.hid hW
  clear hW
  have hRW := h.below hbW
  by_cases he : findErr d s = 0
  · obtain ⟨hd, f, hl⟩ := find_zero he
    obtain ⟨k, hk, hpl, hkn, hkf⟩ := place_some hw.sorted hl
    have h1 : d.remove s = d.thenF (delF d.fs s) := by unfold ADisk.remove ADisk.thenF; rw [hd, hl]; rfl
    have h2 : d.removeErr s = d.err := by unfold ADisk.removeErr; rw [hd, hl]; rfl
    have hS := fun (w : World) (h : RefAt X w a n c d) (a' n' c' h') => refStep_then w a n c d a' n' c' (delF d.fs s) h h' hw hd
    have hP := fun (w : World) (h : RefAt X w a n c d) (hX : NewOk X w) (vf : Value) (hf : Rd w vf (bcells (f.firm ++ f.loose))) (hfX : InX X vf (f.firm ++ f.loose)) => refPut_any w a n c d s vf f true h hw hX hf hfX
    obtain ⟨b, off, vb, rfl, c0, c1, c2, hrd, hvX⟩ := h.atX k hk
    have hn : n = d.fs.length := h.len
    have hkn' : k < n := by omega
    rw [hkn] at c0
    rw [hkf] at c2 hrd hvX
    rw [h1, h2]
    rw [he, hpl] at hA
    have hbw := cell_lt c0
    have hbne : ¬ b = w.heap.size + 1 := by omega
    have hbne2 : ¬ w.heap.size + 1 = b := by omega
    have e0 := fun {w1 : World} (hb1 : Below w.heap.size w w1) => (hb1.cell (p := ⟨b, off + k * 3, none⟩) (cell_lt c0)).trans c0
    have e1 := fun {w1 : World} (hb1 : Below w.heap.size w w1) => (hb1.cell (p := ⟨b, off + k * 3 + 1, none⟩) (cell_lt c1)).trans c1
    have e2 := fun {w1 : World} (hb1 : Below w.heap.size w w1) => (hb1.cell (p := ⟨b, off + k * 3 + 2, none⟩) (cell_lt c2)).trans c2
    obtain ⟨av, cv, rfl⟩ := hrd.shape
    rw [bcells_length, List.length_append] at hrd e1 hvX
    simp only [if_true] at hP
    obtain ⟨x0, x1, x2, x3, _⟩ := cells4 hD
    have Hcl : Hid (∀ {w1 : World}, Below w.heap.size w w1 → w1.cell? ⟨b, off + k * 3, none⟩ = some (.string s) ∧ w1.cell? ⟨b, off + k * 3 + 1, none⟩ = some (.slice av (f.firm.length + f.loose.length) cv) ∧ w1.cell? ⟨b, off + k * 3 + 2, none⟩ = some (.int .i64 (f.firm.length : Nat))) := Lib.hid (fun hb => ⟨e0 hb, e1 hb, e2 hb⟩)
    clear h1 h2 e0 e1 e2 c0 c1 c2 hkn hkf hl hpl he hn hd
    unfold refVal at hA hS hP ⊢
    go_enter Tryz.func20, Tryz.ntmps20
    go_wp2_with fail
    rw [HW.out]
    refine (hA _ hRW).mono ?_
    rintro e w1 ⟨rfl, hb1⟩
    have hD1 := (hb1.block _ (blk_lt hD)).trans hD
    have hR1 := (hb1.block _ (blk_lt hR)).trans hR
    have hbw1 : Below w.heap.size w w1 := hbW.trans (hb1.mono hbW.size)
    have hRef1 := h.below hbw1
    have hRef1d := hRef1.below ((Below.refl w1.heap.size w1).drew)
    have hrd1d := rd_low hrd hbw1.drew
    clear x0 x1 x2 x3 hRW
    obtain ⟨y0, y1, y2, y3, y4, y5, y6, y7⟩ := cells4 hD1
    obtain ⟨c0, c1, c2⟩ := Hcl.out hbw1
    have hDl := blk_lt hD1
    dsimp only
    go_wp2_with fail
    go_region_held3 (fun w' => w'.cell? ⟨w.heap.size, 0, none⟩ = some (.int .i64 d.most) ∧ w'.cell? ⟨w.heap.size, 1, none⟩ = some (.slice (some ⟨b, off, none⟩) n c) ∧ w'.cell? ⟨w.heap.size, 2, none⟩ = some (.int .i64 d.left) ∧ w'.cell? ⟨w.heap.size, 3, none⟩ = some (.bool d.down) ∧ w'.cell? ⟨b, off + k * 3, none⟩ = some (.string s) ∧ w'.cell? ⟨b, off + k * 3 + 1, none⟩ = some (.slice av (f.firm.length + f.loose.length) cv) ∧ w'.cell? ⟨b, off + k * 3 + 2, none⟩ = some (.int .i64 (f.firm.length : Nat)))
      (first | exact ⟨y0, y1, y2, y3, c0, c1, c2⟩ | exact S2 | exact S3 | go_keep)
      (first
        | (go_at_call 52; (with_reducible refine (hP _ hRef1d (hX.below hbw1.drew) _ hrd1d hvX).mono ?_); rintro e w2 ⟨a', n', c', rfl, hR2, hb2⟩; have S2 : w2.cell? ⟨w.heap.size, 0, none⟩ = some (.int .i64 d.most) ∧ w2.cell? ⟨w.heap.size, 1, none⟩ = some (.slice (some ⟨b, off, none⟩) n c) ∧ w2.cell? ⟨w.heap.size, 2, none⟩ = some (.int .i64 d.left) ∧ w2.cell? ⟨w.heap.size, 3, none⟩ = some (.bool d.down) ∧ w2.cell? ⟨b, off + k * 3, none⟩ = some (.string s) ∧ w2.cell? ⟨b, off + k * 3 + 1, none⟩ = some (.slice av (f.firm.length + f.loose.length) cv) ∧ w2.cell? ⟨b, off + k * 3 + 2, none⟩ = some (.int .i64 (f.firm.length : Nat)) := ⟨(hb2.cell (p := ⟨w.heap.size, 0, none⟩) hDl).trans y0, (hb2.cell (p := ⟨w.heap.size, 1, none⟩) hDl).trans y1, (hb2.cell (p := ⟨w.heap.size, 2, none⟩) hDl).trans y2, (hb2.cell (p := ⟨w.heap.size, 3, none⟩) hDl).trans y3, Hcl.out (hbw1.drew.trans (hb2.mono hbw1.size))⟩; have hRef2 := hRef1d.below hb2; have hRB2 := (hb2.block _ (blk_lt hR1)).trans hR1)
        | (go_at_call 51; (with_reducible refine (hS _ hRef2 _ _ _ hR2).mono ?_); rintro e w3 ⟨a3, n3, c3, rfl, hR3, hb3⟩; have S3 : w3.cell? ⟨w.heap.size, 0, none⟩ = some (.int .i64 d.most) ∧ w3.cell? ⟨w.heap.size, 1, none⟩ = some (.slice (some ⟨b, off, none⟩) n c) ∧ w3.cell? ⟨w.heap.size, 2, none⟩ = some (.int .i64 d.left) ∧ w3.cell? ⟨w.heap.size, 3, none⟩ = some (.bool d.down) ∧ w3.cell? ⟨b, off + k * 3, none⟩ = some (.string s) ∧ w3.cell? ⟨b, off + k * 3 + 1, none⟩ = some (.slice av (f.firm.length + f.loose.length) cv) ∧ w3.cell? ⟨b, off + k * 3 + 2, none⟩ = some (.int .i64 (f.firm.length : Nat)) := ⟨(hb3.cell (p := ⟨w.heap.size, 0, none⟩) (cell_lt S2.1)).trans S2.1, (hb3.cell (p := ⟨w.heap.size, 1, none⟩) (cell_lt S2.1)).trans S2.2.1, (hb3.cell (p := ⟨w.heap.size, 2, none⟩) (cell_lt S2.1)).trans S2.2.2.1, (hb3.cell (p := ⟨w.heap.size, 3, none⟩) (cell_lt S2.1)).trans S2.2.2.2.1, Hcl.out ((hbw1.drew.trans (hb2.mono hbw1.size)).trans (hb3.mono (Nat.le_trans hbw1.size hb2.size)))⟩; have hRB3 := (hb3.block _ (blk_lt hRB2)).trans hRB2; obtain ⟨z0, z1, z2, z3, z4, z5, z6, z7⟩ := cells4 hRB3))
    have hb03 : Below w.heap.size w w3 := (hbw1.drew.trans (hb2.mono hbw1.size)).trans (hb3.mono (Nat.le_trans hbw1.size hb2.size))
    go_wp2
    obtain ⟨p1, p2⟩ := ref_answer hR3 hRB3 hb03 (by omega) (.int .i64 (d.thenF (delF d.fs s)).most) (.slice a3 n3 c3) (.int .i64 (d.thenF (delF d.fs s)).left) (.bool (d.thenF (delF d.fs s)).down)
    exact bodyPost_ret (v := .tuple #[.agg #[.int .i64 (d.thenF (delF d.fs s)).most, .slice a3 n3 c3, .int .i64 (d.thenF (delF d.fs s)).left, .bool (d.thenF (delF d.fs s)).down], .int .i64 d.err]) (by simp [results, Tryz.results20, go_sem, z0, z1, z2, z3]) rfl ⟨_, _, _, rfl, p1, p2⟩
  · have h1 : d.remove s = d := by
      unfold findErr at he
      unfold ADisk.remove
      split
      · rfl
      · rename_i hd
        rw [if_neg hd] at he
        split
        · rfl
        · rename_i hl
          rw [if_neg hl] at he
          exact absurd rfl he
    have h2 : d.removeErr s = findErr d s := by
      unfold findErr at he ⊢
      unfold ADisk.removeErr
      split
      · rfl
      · rename_i hd
        rw [if_neg hd] at he
        split
        · rfl
        · rename_i hl
          rw [if_neg hl] at he
          exact absurd rfl he
    rw [h1, h2]
    obtain ⟨fe, hfe⟩ : ∃ fe, findErr d s = fe := ⟨_, rfl⟩
    rw [hfe] at hA he ⊢
    have hq : (fe == 0) = false := by simpa using he
    have hq2 : (fe != 0) = true := by simpa using he
    clear hfe h1 h2 he
    obtain ⟨x0, x1, x2, x3, _⟩ := cells4 hD
    unfold refVal at hA ⊢
    go_enter Tryz.func20, Tryz.ntmps20
    go_wp2_with fail
    rw [HW.out]
    refine (hA _ hRW).mono ?_
    rintro e w1 ⟨rfl, hb1⟩
    have hD1 := (hb1.block _ (blk_lt hD)).trans hD
    have hR1 := (hb1.block _ (blk_lt hR)).trans hR
    obtain ⟨y0, y1, y2, y3, y4, y5, y6, y7⟩ := cells4 hD1
    obtain ⟨z0, z1, z2, z3, z4, z5, z6, z7⟩ := cells4 hR1
    dsimp only
    go_wp2
    obtain ⟨p1, p2⟩ := ref_answer (h.below (hbW.trans (hb1.mono hbW.size))) hR1 (hbW.trans (hb1.mono hbW.size)) (by omega) (.int .i64 d.most) (.slice a n c) (.int .i64 d.left) (.bool d.down)
    exact bodyPost_ret (v := .tuple #[.agg #[.int .i64 d.most, .slice a n c, .int .i64 d.left, .bool d.down], .int .i64 fe]) (by simp [results, Tryz.results20, go_sem, z0, z1, z2, z3]) rfl ⟨_, _, _, rfl, p1, p2⟩
end Go.Proofs.YtkacgmbinkoojaaGreatDoor

/-
  The document's disk: Read, Arm.
-/
namespace Go.Proofs.YtkacgmbinkoojaaGreatDoor
open Go.RowKit Go.Maps Go.MapKept
variable {X : Nat → Prop}

set_option maxRecDepth 100000 in
set_option maxHeartbeats 4000000 in
theorem refRead_any (w : World) (a : Option Addr) (n c : Nat) (d : ADisk) (s : ByteArray) (h : RefAt X w a n c d) (hw : d.WF) :
    Calls Tryz.prog 40 #[refVal a n c d, .string s] w fun e w' => ∃ a' n' c', e = .returned (.tuple #[.slice a' n' c', .int .i64 (findErr d s)]) ∧ Rd w' (.slice a' n' c') (bcells (d.readBytes s)) ∧ Below w.heap.size w w' ∧ CapOk (.slice a' n' c') := by
  have hA := fun (w : World) (h : RefAt X w a n c d) => refAsk_any w a n c d s h hw
  have hD := alloc_at w (.cells #[.int .i64 d.most, .slice a n c, .int .i64 d.left, .bool d.down] 29)
  have hbW : Below w.heap.size w (w.alloc (.cells #[.int .i64 d.most, .slice a n c, .int .i64 d.left, .bool d.down] 29)) := (Below.refl _ _).alloc (Nat.le_refl _) _
  obtain ⟨W, hW⟩ : ∃ W, w.alloc (.cells #[.int .i64 d.most, .slice a n c, .int .i64 d.left, .bool d.down] 29) = W := ⟨_, rfl⟩
  rw [hW] at hD hbW
  have HW := Lib.hid hW
  clear hW
  have hRW := h.below hbW
  by_cases he : findErr d s = 0
  · obtain ⟨hd, f, hl⟩ := find_zero he
    obtain ⟨k, hk, hpl, hkn, hkf⟩ := place_some hw.sorted hl
    have h1 : d.readBytes s = f.firm ++ f.loose := by unfold ADisk.readBytes afile; rw [if_pos he, hl]; rfl
    obtain ⟨b, off, vb, rfl, c0, c1, c2, hrd, hvX⟩ := h.atX k hk
    have hn : n = d.fs.length := h.len
    have hkn' : k < n := by omega
    rw [hkf] at hrd
    have Hcap := Lib.hid hvX.2
    clear hvX
    rw [h1, he]
    rw [he, hpl] at hA
    obtain ⟨av, cv, rfl⟩ := hrd.shape
    have Hc1 := Lib.hid c1
    clear h1 hkn hkf hl hpl he hn hd c0 c2 c1
    obtain ⟨x0, x1, x2, x3, _⟩ := cells4 hD
    unfold refVal at hA ⊢
    go_enter Tryz.func40, Tryz.ntmps40
    go_wp2_with fail
    rw [HW.out]
    refine (hA _ hRW).mono ?_
    rintro e w1 ⟨rfl, hb1⟩
    have hD1 := (hb1.block _ (blk_lt hD)).trans hD
    have hbw1 : Below w.heap.size w w1 := hbW.trans (hb1.mono hbW.size)
    obtain ⟨y0, y1, y2, y3, y4, y5, y6, y7⟩ := cells4 hD1
    have c1 := (hbw1.cell (p := ⟨b, off + k * 3 + 1, none⟩) (cell_lt Hc1.out)).trans Hc1.out
    dsimp only
    go_wp2
    go_ret2
    exact ⟨_, _, _, rfl, rd_low hrd hbw1, hbw1, Hcap.out⟩
  · have h1 : d.readBytes s = [] := by unfold ADisk.readBytes; rw [if_neg he]
    rw [h1]
    obtain ⟨fe, hfe⟩ : ∃ fe, findErr d s = fe := ⟨_, rfl⟩
    rw [hfe] at hA he ⊢
    have hq : (fe == 0) = false := by simpa using he
    have hq2 : (fe != 0) = true := by simpa using he
    clear hfe h1 he
    obtain ⟨x0, x1, x2, x3, _⟩ := cells4 hD
    unfold refVal at hA ⊢
    go_enter Tryz.func40, Tryz.ntmps40
    go_wp2_with fail
    rw [HW.out]
    refine (hA _ hRW).mono ?_
    rintro e w1 ⟨rfl, hb1⟩
    dsimp only
    go_wp2
    go_ret2
    exact ⟨_, _, _, rfl, Or.inl ⟨Or.inl rfl, rfl⟩, hbW.trans (hb1.mono hbW.size), none, 0, 0, rfl, Nat.le_refl _, Nat.zero_le _⟩

set_option maxRecDepth 100000 in
set_option maxHeartbeats 4000000 in
theorem refArm_any (w : World) (a : Option Addr) (n c : Nat) (d : ADisk) (x : Int) (h : RefAt X w a n c d) :
    Calls Tryz.prog 12 #[refVal a n c d, .int .i64 x] w fun e w' => e = .returned (refVal a n c (d.arm x)) ∧ RefAt X w' a n c (d.arm x) ∧ Below w.heap.size w w' := by
  obtain ⟨most, left, down, fs⟩ := d
  have hB : ∀ l : Int, Below w.heap.size w ((w.alloc (.cells #[.int .i64 most, .slice a n c, .int .i64 l, .bool down] 29)).alloc (.cells #[.int .i64 most, .slice a n c, .int .i64 l, .bool down] 29)) := fun l => ((Below.refl _ _).alloc (Nat.le_refl _) _).alloc (by simp) _
  have hp : ∀ (l : Int) (w' : World), Below w.heap.size w w' → RefAt X w' a n c ⟨most, l, down, fs⟩ := fun l w' hb => ⟨(h.below hb).files, h.len, h.inX⟩
  unfold refVal
  cases down with
  | true =>
    rw [show (⟨most, left, true, fs⟩ : ADisk).arm x = ⟨most, left, true, fs⟩ from rfl]
    go_enter Tryz.func12, Tryz.ntmps12
    go_wp2
    trace_state
    exact bodyPost_ret (v := .agg #[.int .i64 most, .slice a n c, .int .i64 left, .bool true]) (by simp [results, Tryz.results12, go_sem]) rfl ⟨rfl, hp _ _ (hB _), hB _⟩
  | false =>
    by_cases hx : x < 0
    · rw [show (⟨most, left, false, fs⟩ : ADisk).arm x = ⟨most, 0, false, fs⟩ by unfold ADisk.arm; simp; omega]
      go_enter Tryz.func12, Tryz.ntmps12
      go_wp2
      exact bodyPost_ret (v := .agg #[.int .i64 most, .slice a n c, .int .i64 0, .bool false]) (by simp [results, Tryz.results12, go_sem]) rfl ⟨rfl, hp _ _ (hB _), hB _⟩
    · rw [show (⟨most, left, false, fs⟩ : ADisk).arm x = ⟨most, x, false, fs⟩ by unfold ADisk.arm; simp; omega]
      go_enter Tryz.func12, Tryz.ntmps12
      go_wp2
      exact bodyPost_ret (v := .agg #[.int .i64 most, .slice a n c, .int .i64 x, .bool false]) (by simp [results, Tryz.results12, go_sem]) rfl ⟨rfl, hp _ _ (hB _), hB _⟩
end Go.Proofs.YtkacgmbinkoojaaGreatDoor
