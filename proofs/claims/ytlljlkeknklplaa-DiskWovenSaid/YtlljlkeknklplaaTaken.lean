/-
  The walk of taken.
-/
import Derived.Outline
import Derived.Deep.RegionLaw
import Derived.Test.YtlljlkeknklplaaShot1
namespace Go.Proofs.Ytlljlkeknklplaa
open Go.RowKit Go.Maps Go.MapKept

theorem step_append_run {P : Program} {w : World} {ops : Array Oper} {o : Oper} {a : Act} {K : Act → World → Prop} {Q : Exit → Act → World → Prop} {E : Prop} (hgd : o.guard = none) (s x : Operand) (t : TypeId)
    (ho : o.op = .call { callee := .builtin .append, args := #[s, x], argTypes := #[t, t] }) (v vx v' : Value) (w' : World) (hs : a.eval s = v) (hx : a.eval x = vx) (ty : TypeId) (hty : o.type = ty)
    (hrun : (Builtin.append_ #[t, t] ty #[v, vx]).run P w = .ok v' w') (h : K (a.put o.dst v') w') : if Region.wanted o (yielded ops a.tmps) = true then Oper.wp P o a w K Q else E := by
  subst hty
  have hw : Region.wanted o (yielded ops a.tmps) = true := by simp [Region.wanted, hgd]
  rw [if_pos hw]
  unfold Oper.wp execOp
  simp only [ho, resolve, invoke, builtin, Sem.run_bind, Sem.run_pure, Result.andThen_ok, List.map_toArray, List.map_cons, List.map_nil, hs, hx, hrun]
  exact h
theorem run_append_one (w : World) (vf : Value) (l : List Int) (x : Int) (n : Nat) (hn : n = l.length) (hown : w.ownsRow 0 3 1 vf n (iCells l)) (hl : n ≤ 1000) :
    ∃ a' c' w', (Builtin.append_ #[46, 46] 46 #[vf, .slice (some ⟨w.heap.size, 0, none⟩) 1 1]).run Try.prog (w.alloc (.cells #[.int .i64 x] 3)) = .ok (.slice a' (n + 1) c') w' ∧ w'.ownsRow 0 3 1 (.slice a' (n + 1) c') (n + 1) (iCells (l ++ [x])) ∧
      (w.alloc (.cells #[.int .i64 x] 3)).grownBy w' vf.ownBlock ∧ ((Value.slice a' (n + 1) c').ownBlock = vf.ownBlock ∨ ∃ g, (Value.slice a' (n + 1) c').ownBlock = some g ∧ w.heap.size ≤ g) := by
  subst hn
  obtain ⟨i0, hi, hz0, hz1, hz2⟩ := info_parts info_int
  obtain ⟨v', w', h1, h2, h3, h4, _⟩ := run_append_rd (P := Try.prog) (w.alloc (.cells #[.int .i64 x] 3)) 46 46 3 i0 (.int .i64 0) 8 Try.underlying46 hi hz0 hz1 hz2 rfl vf (.slice (some ⟨w.heap.size, 0, none⟩) 1 1) l.length 1 (iCells l) (iCells [x])
    (((Upd.refl (fun _ => False) w).alloc _).row hown (fun _ _ h => h)) (Rd_new _ _ _ _ (iCells [x]) _ _ rfl rfl) rfl (fun u hu => by obtain ⟨_, _, rfl⟩ := List.mem_map.1 hu; rfl) (by simp only [maxLen]; omega) (by omega)
  obtain ⟨a', c', rfl, _⟩ := row_slice h2
  refine ⟨a', c', w', h1, by rw [iCells_append]; exact h2, h3, ?_⟩
  rcases h4 with h4 | ⟨g, h4, h5⟩
  · exact Or.inl h4
  · exact Or.inr ⟨g, h4, by simp at h5; omega⟩
theorem Upd.thenB {fp : Nat → Prop} {N : Nat} {w w1 w2 : World} (h2 : Upd fp w1 w2) (h : Below N w w1) (hf : ∀ k, fp k → N ≤ k) (hN : N ≤ w1.heap.size) : Below N w w2 :=
  h.trans (h2.below hf hN)

set_option maxRecDepth 100000 in
set_option maxHeartbeats 3000000 in
theorem taken_at {ex : Nat → Prop} {w : World} {p m : Nat} {d : ADisk} (h : DiskAt ex w p m d) :
    Calls Try.prog 41 #[.pointer (some ⟨p, 0, none⟩)] w fun e w' => ∃ vn vb vf, e = .returned (.agg #[vn, vb, vf]) ∧ ShotOwn w.heap.size w' vn vb vf d.shot ∧ Below w.heap.size w w' := by
  have hwf := h.wf
  have hnl : d.names.length ≤ 200 := by simpa [ADisk.names] using hwf.count
  have hE : ∀ (o : Obj), DiskAt ex (w.alloc o) p m d := fun o => h.alloc o
  go_enter Try.func41, Try.ntmps41
  go_wp2_with fail
  refine (List_at (hE _)).mono ?_
  rintro e w1 ⟨la, lc, rfl, hrow, _, hb1⟩
  have hD1 := (hE _).below hb1
  have hrN : (w.alloc (.cells #[.slice none 0 0, .slice none 0 0, .slice none 0 0] 76)).heap.size = w.heap.size + 1 := by simp
  have hs1 := hb1.size
  rw [hrN] at hs1 hrow
  have HE := Lib.hid hE
  have Hrow := Lib.hid hrow
  have hbs : d.shot.bytes.length = d.names.length := by simp [ADisk.shot]
  have hfs : d.shot.firm.length = d.names.length := by simp [ADisk.shot]
  obtain ⟨bs, hbs'⟩ : ∃ bs, d.shot.bytes = bs := ⟨_, rfl⟩
  obtain ⟨fs, hfs'⟩ : ∃ fs, d.shot.firm = fs := ⟨_, rfl⟩
  rw [hbs'] at hbs
  rw [hfs'] at hfs
  have Hbs := Lib.hid hbs
  have Hfs := Lib.hid hfs
  have Hbs' := Lib.hid hbs'
  have Hfs' := Lib.hid hfs'
  clear hE hrow hrN hbs hfs hbs' hfs'
  go_wp2_with fail
  go_loopw [14] (fun i wr => ∃ (k : Nat) (vb vf : Value), k ≤ d.names.length ∧ i = .int .i64 k ∧ wr.heap[w1.heap.size]? = some (.cells #[.slice la d.names.length lc, vb, vf] 76 (0, 0)) ∧ wr.ownsRow (w1.heap.size + 1) 9 1 vb k (sCells (bs.take k)) ∧ wr.ownsRow (w1.heap.size + 1) 3 1 vf k (iCells (fs.take k)) ∧
    (∀ g, vb.ownBlock = some g → vf.ownBlock ≠ some g) ∧ Below w1.heap.size w1 wr) (fun i _ => d.names.length - (intOf i).toNat)
  case atStart => exact ⟨0, .slice none 0 0, .slice none 0 0, by omega, rfl, alloc_at _ _, World.ownsRow_nil _ _ _ _, World.ownsRow_nil _ _ _ _, (by intro g hg; cases hg), (Below.refl _ _).alloc (Nat.le_refl _) _⟩
  case round =>
    obtain ⟨k, vb, vf, hk, rfl, hB, hvb, hvf, hne, hbr⟩ := hrel
    have Hvb := Lib.hid hvb
    have Hvf := Lib.hid hvf
    clear hvb hvf
    by_cases hlt : k < d.names.length
    · obtain ⟨gb, c', hv, hgb, hgl, hcells⟩ := row_cell Hrow.out k hlt
      cases hv
      have hcell := hcells k hlt
      rw [List.getElem?_map, List.getElem?_eq_getElem hlt, Option.map_some] at hcell
      have hcr := (hbr.cell (p := ⟨gb, k, none⟩) hgl).trans hcell
      have hks : d.names[k].size ≤ 40 := hwf.name_size (List.getElem_mem _)
      have hbk : bs.take (k + 1) = bs.take k ++ [⟨(d.readBytes d.names[k]).toArray⟩] := by
        rw [List.take_succ_eq_append_getElem (by rw [Hbs.out]; exact hlt)]
        congr 2
        simp [← Hbs'.out, ADisk.shot]
      have hfk : fs.take (k + 1) = fs.take k ++ [((afile d d.names[k]).firm.length : Int)] := by
        rw [List.take_succ_eq_append_getElem (by rw [Hfs.out]; exact hlt)]
        congr 2
        simp [← Hfs'.out, ADisk.shot]
      obtain ⟨s, hs⟩ : ∃ s, d.names[k] = s := ⟨_, rfl⟩
      rw [hs] at hcr hks hbk hfk
      have Hbk := Lib.hid hbk
      have Hfk := Lib.hid hfk
      clear hs hbk hfk hcell hcells
      have hBl : w1.heap.size < wr.heap.size := blk_lt hB
      go_wp2_with fail
      refine (Read_at s (hD1.below hbr) (by simp only [maxLen]; omega)).mono ?_
      rintro e w3 ⟨ra, rc, rfl, hrr, hb3⟩
      dsimp only
      have hcv := run_bytes_str (P := Try.prog) (Rd.ofOwns hrr) Try.underlying29 Try.underlying5 Try.underlying9
      have hB3 := (hb3.block _ hBl).trans hB
      obtain ⟨x0, x1, x2, z0, z1, z2⟩ := cells3 hB3
      have hbl : (bs.take k).length = k := by rw [List.length_take, Hbs.out]; omega
      have hfl : (fs.take k).length = k := by rw [List.length_take, Hfs.out]; omega
      have hvb3 : w3.ownsRow (w1.heap.size + 1) 9 1 vb (bs.take k).length (sCells (bs.take k)) := by
        rw [hbl]
        exact (Upd.ofBelow (fp := fun _ => False) hb3).row Hvb.out (fun _ _ h => h)
      have hvf3 : w3.ownsRow (w1.heap.size + 1) 3 1 vf (fs.take k).length (iCells (fs.take k)) := by
        rw [hfl]
        exact (Upd.ofBelow (fp := fun _ => False) hb3).row Hvf.out (fun _ _ h => h)
      have Hvb3 := Lib.hid hvb3
      have Hvf3 := Lib.hid hvf3
      have Hbl := Lib.hid hbl
      have Hfl := Lib.hid hfl
      have hbr3 : Below w1.heap.size w1 w3 := hbr.trans (hb3.mono hbr.size)
      have hs3 := hb3.size
      clear hvb3 hvf3 hbl hfl hB hcr
      go_wp2_with (refine append_str rfl (.tmp 25) (.tmp 28) rfl vb (.slice (some ⟨w3.heap.size, 0, none⟩) 1 1) (bs.take k) [⟨(d.readBytes s).toArray⟩] (bs.take (k + 1)) Hbk.out.symm rfl (((Upd.refl (fun _ => False) w3).alloc _).row (ownsRow_base0 Hvb3.out) (fun _ _ h => h)) rfl (Rd_new _ _ _ _ (sCells [_]) _ _ rfl rfl) (by rw [Hbl.out]; simp; omega) ?_)
      intro vb' w4 hvb' hg4 hb4
      have hbl1 : (bs.take (k + 1)).length = k + 1 := by rw [List.length_take, Hbs.out]; omega
      rw [← List.length_take, hbl1] at hvb'
      obtain ⟨ab', cb', rfl, _⟩ := row_slice hvb'
      have hvbB : ∀ g, vb.ownBlock = some g → w1.heap.size + 1 ≤ g ∧ g < w3.heap.size := fun g hg => Hvb3.out.lt g hg
      have hvfB : ∀ g, vf.ownBlock = some g → w1.heap.size + 1 ≤ g ∧ g < w3.heap.size := fun g hg => Hvf3.out.lt g hg
      have hvb4 : w4.ownsRow (w1.heap.size + 1) 9 1 (.slice ab' (k + 1) cb') (k + 1) (sCells (bs.take (k + 1))) := by
        refine ownsRow_from hvb' (fun g hg => ?_)
        rcases hb4 with hb4 | ⟨g4, hb4, hg4'⟩
        · exact (hvbB g (hb4 ▸ hg)).1
        · rw [hb4] at hg; cases hg; omega
      have hU4 : Upd (fun g => vb.ownBlock = some g) w3 w4 := ((Upd.refl _ w3).alloc _).grown hg4 (fun g hg => Or.inl hg)
      have hvf4 := hU4.row Hvf3.out (fun g hg hg' => hne g hg' hg)
      have hB4 := hU4.keep hB3 (fun hg => by have := (hvbB _ hg).1; omega)
      have hne4 : ∀ g, (Value.slice ab' (k + 1) cb').ownBlock = some g → vf.ownBlock ≠ some g := by
        intro g hg hf
        rcases hb4 with hb4 | ⟨g4, hb4, hg4'⟩
        · exact hne g (hb4 ▸ hg) hf
        · rw [hb4] at hg; cases hg; have := (hvfB _ hf).2; omega
      have hbr4 : Below w1.heap.size w1 w4 := hU4.thenB hbr3 (fun g hg => by have := (hvbB _ hg).1; omega) (by have := hbr.size; omega)
      have hs4 := hU4.size
      have Hvb4 := Lib.hid hvb4
      have Hvf4 := Lib.hid hvf4
      clear hvb' hvb4 hvf4 hg4 hb4 hU4 x0 x1 x2 z0 z1 z2
      obtain ⟨x0, x1, x2, z0, z1, z2⟩ := cells3 hB4
      go_wp2
      obtain ⟨w5, hw5⟩ : ∃ w5, w4.setCell ⟨w1.heap.size, 1, none⟩ (.slice ab' (k + 1) cb') = w5 := ⟨_, rfl⟩
      have hU5 : Upd (· = w1.heap.size) w4 w5 := by rw [← hw5]; exact setCell_upd _ _
      have hB5 : w5.heap[w1.heap.size]? = some (.cells #[.slice (some ⟨gb, 0, none⟩) d.names.length lc, .slice ab' (k + 1) cb', vf] 76 (0, 0)) := by rw [← hw5]; exact setCell_at hB4 1 _
      rw [hw5]
      have hvb5 := hU5.row Hvb4.out (fun g hg e => by have := (Hvb4.out.lt g hg).1; omega)
      have hvf5 := hU5.row Hvf4.out (fun g hg e => by have := (hvfB g hg).1; omega)
      have hbr5 : Below w1.heap.size w1 w5 := hU5.thenB hbr4 (fun g hg => by omega) (by omega)
      have hs5 := hU5.size
      have Hvb5 := Lib.hid hvb5
      have Hvf5 := Lib.hid hvf5
      clear hvb5 hvf5 hw5 hU5 x0 x1 x2 z0 z1 z2 hB4
      have hB5 : w5.drew.heap[w1.heap.size]? = some (.cells #[.slice (some ⟨gb, 0, none⟩) d.names.length lc, .slice ab' (k + 1) cb', vf] 76 (0, 0)) := hB5
      have hvf5 := ((Upd.refl (fun _ => False) w5).drew).row Hvf5.out (fun _ _ h => h)
      have hbr5 : Below w1.heap.size w1 w5.drew := hbr5.drew
      have Hvf5 := Lib.hid hvf5
      clear hvf5
      obtain ⟨x0, x1, x2, z0, z1, z2⟩ := cells3 hB5
      go_region_law
        (first
          | (go_simp; go_at_call 37; refine (Synced_at s (hD1.below hbr5) (by simp only [maxLen]; omega)).mono ?_; rintro e w6 ⟨rfl, hb6⟩; have hB6 := (hb6.block _ (blk_lt hB5)).trans hB5; have S6 : w6.cell? ⟨w1.heap.size, 2, none⟩ = some vf ∧ w6.frozen? ⟨w1.heap.size, 2, none⟩ = false := ⟨(cells3 hB6).2.2.1, (cells3 hB6).2.2.2.2.2⟩; have hB6a : (w6.alloc (.cells #[.int .i64 ((afile d s).firm.length : Int)] 3)).heap[w1.heap.size]? = some (.cells #[.slice (some ⟨gb, 0, none⟩) d.names.length lc, .slice ab' (k + 1) cb', vf] 76 (0, 0)) := alloc_old hB6 _; have S6a : (w6.alloc (.cells #[.int .i64 ((afile d s).firm.length : Int)] 3)).cell? ⟨w1.heap.size, 2, none⟩ = some vf ∧ (w6.alloc (.cells #[.int .i64 ((afile d s).firm.length : Int)] 3)).frozen? ⟨w1.heap.size, 2, none⟩ = false := ⟨(cells3 hB6a).2.2.1, (cells3 hB6a).2.2.2.2.2⟩; obtain ⟨af', cf', w7, hrun7, hvf7, hg7, ho7⟩ := run_append_one w6 vf (fs.take k) ((afile d s).firm.length : Int) k (by rw [Hfl.out]) (ownsRow_base0 (by have := (Upd.ofBelow (fp := fun _ => False) hb6).row Hvf5.out (fun _ _ h => h); rw [Hfl.out] at this; exact this)) (by omega); have hU7 : Upd (fun g => vf.ownBlock = some g) w6 w7 := ((Upd.refl _ w6).alloc _).grown hg7 (fun g hg => Or.inl hg); have hB7 := hU7.keep hB6 (fun hg => by have := (hvfB _ hg).1; omega); have S7 : w7.cell? ⟨w1.heap.size, 2, none⟩ = some vf ∧ w7.frozen? ⟨w1.heap.size, 2, none⟩ = false := ⟨(cells3 hB7).2.2.1, (cells3 hB7).2.2.2.2.2⟩)
          | (refine step_append_run (by rfl) _ _ _ (by rfl) _ _ _ _ (by rfl) (by rfl) _ (by rfl) hrun7 ?_))
      all_goals
        have hvb5 := Hvb5.out
        have hvb6 := (Upd.ofBelow (fp := fun _ => False) hb6).row (((Upd.refl (fun _ => False) w5).drew).row hvb5 (fun _ _ h => h)) (fun _ _ h => h)
        have hvb7 := hU7.row hvb6 (fun g hg hg' => hne4 g hg hg')
        have hU8 : Upd (· = w1.heap.size) w7 (w7.setCell ⟨w1.heap.size, 2, none⟩ (.slice af' (k + 1) cf')) := setCell_upd _ _
        have hB8 := setCell_at hB7 2 (.slice af' (k + 1) cf')
        have hvb8 := hU8.row hvb7 (fun g hg e => by have := (hvb7.lt g hg).1; omega)
        have hvf7' : w7.ownsRow (w1.heap.size + 1) 3 1 (.slice af' (k + 1) cf') (k + 1) (iCells (fs.take (k + 1))) := by
          rw [Hfk.out]
          refine ownsRow_from hvf7 (fun g hg => ?_)
          rcases ho7 with ho7 | ⟨g7, ho7, hg7'⟩
          · exact (hvfB g (ho7 ▸ hg)).1
          · rw [ho7] at hg; cases hg; have := hb6.size; have : w5.drew.heap.size = w5.heap.size := rfl; omega
        have hvf8 := hU8.row hvf7' (fun g hg e => by have := (hvf7'.lt g hg).1; omega)
        have hne8 : ∀ g, (Value.slice ab' (k + 1) cb').ownBlock = some g → (Value.slice af' (k + 1) cf').ownBlock ≠ some g := by
          intro g hg hf
          rcases ho7 with ho7 | ⟨g7, ho7, hg7'⟩
          · exact hne4 g hg (ho7 ▸ hf)
          · rw [ho7] at hf; cases hf; have := (hvb5.lt g hg).2; have := hb6.size; have : w5.drew.heap.size = w5.heap.size := rfl; omega
        have hbr6 : Below w1.heap.size w1 w6 := hbr5.trans (hb6.mono hbr5.size)
        have hbr7 : Below w1.heap.size w1 w7 := hU7.thenB hbr6 (fun g hg => by have := (hvfB g hg).1; omega) hbr6.size
        have hbr8 := hU8.thenB hbr7 (fun g hg => by omega) hbr7.size
        have Hvb8 := Lib.hid hvb8
        have Hvf8 := Lib.hid hvf8
        clear hvb5 hvb6 hvb7 hvf7 hvf7' hvb8 hvf8
        go_wp2
        go_roundw
        case rel => exact ⟨k + 1, _, _, by omega, by go_num, hB8, Hvb8.out, Hvf8.out, hne8, hbr8⟩
        case measure => simp [intOf]; omega
    · obtain rfl : k = d.names.length := by omega
      have hN0 : (w.alloc (.cells #[.slice none 0 0, .slice none 0 0, .slice none 0 0] 76)).heap[w.heap.size]? = some (.cells #[.slice none 0 0, .slice none 0 0, .slice none 0 0] 76 (0, 0)) := alloc_at _ _
      have hN1 := (hb1.block _ (by simp)).trans hN0
      have hN := (hbr.block _ (by omega)).trans hN1
      obtain ⟨x0, x1, x2, z0, z1, z2⟩ := cells3 hB
      obtain ⟨y0, y1, y2, u0, u1, u2⟩ := cells3 hN
      have hvb := Hvb.out
      have hvf := Hvf.out
      obtain ⟨ab, cb, rfl, _⟩ := row_slice (ownsRow_base0 hvb)
      obtain ⟨af, cf, rfl, _⟩ := row_slice (ownsRow_base0 hvf)
      clear hvb hvf hN0 hN1
      go_wp2
      refine bodyPost_ret (v := .agg #[.slice la d.names.length lc, .slice ab d.names.length cb, .slice af d.names.length cf]) (by simp [results, Try.results41, go_sem, y0, y1, y2]) rfl ⟨_, _, _, rfl, ?_, ?_⟩
      · have hU := fun (u1 u2 u3 : Value) => ((setCell_upd (w := wr) (b := w.heap.size) 0 u1).trans (setCell_upd 1 u2) (fun _ hk => Or.inl hk)).trans (setCell_upd 2 u3) (fun _ hk => Or.inl hk)
        have hr := (Upd.ofBelow (fp := fun _ => False) hbr).row Hrow.out (fun _ _ h => h)
        have hbk : bs.take d.names.length = bs := List.take_of_length_le (by rw [Hbs.out]; exact Nat.le_refl _)
        have hfk : fs.take d.names.length = fs := List.take_of_length_le (by rw [Hfs.out]; exact Nat.le_refl _)
        have hv1 := Hvb.out
        have hv2 := Hvf.out
        rw [hbk] at hv1
        rw [hfk] at hv2
        refine ⟨ownsRow_from ((hU _ _ _).row hr (fun g hg e => by have := (hr.lt g hg).1; omega)) (fun g hg => by have := (hr.lt g hg).1; omega), ?_, ?_, ?_⟩
        · rw [Hbs'.out, Hbs.out]
          exact ownsRow_from ((hU _ _ _).row hv1 (fun g hg e => by have := (hv1.lt g hg).1; omega)) (fun g hg => by have := (hv1.lt g hg).1; omega)
        · rw [Hfs'.out, Hfs.out]
          exact ownsRow_from ((hU _ _ _).row hv2 (fun g hg e => by have := (hv2.lt g hg).1; omega)) (fun g hg => by have := (hv2.lt g hg).1; omega)
        · rw [Hbs'.out, Hfs'.out, Hbs.out, Hfs.out]
          exact ⟨hnl, hnl, hnl⟩
      · have hU := fun (u1 u2 u3 : Value) => ((setCell_upd (w := wr) (b := w.heap.size) 0 u1).trans (setCell_upd 1 u2) (fun _ hk => Or.inl hk)).trans (setCell_upd 2 u3) (fun _ hk => Or.inl hk)
        have hb0 : Below w.heap.size w wr := (((Below.refl _ _).alloc (Nat.le_refl _) _).trans (hb1.mono (by simp))).trans (hbr.mono (by omega))
        exact (hU _ _ _).thenB hb0 (fun g hg => by omega) hb0.size
end Go.Proofs.Ytlljlkeknklplaa
