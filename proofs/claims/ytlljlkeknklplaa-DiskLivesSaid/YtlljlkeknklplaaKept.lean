/-
  The walk of kept.
-/
import Derived.Outline
import Derived.Deep.RegionLaw
import Derived.Test.YtlljlkeknklplaaTaken
namespace Go.Proofs.Ytlljlkeknklplaa
open Go.RowKit Go.Maps Go.MapKept

/-- how much of text i stays. -/
def Shot.keptN (s : Shot) (keeps : List Int) (i : Nat) : Nat := ((s.firm.getD i 0) + min (max (keeps.getD i 0) 0) (((s.bytes.getD i ⟨#[]⟩).size : Int) - s.firm.getD i 0)).toNat
def Shot.keptB (s : Shot) (keeps : List Int) (k : Nat) : List ByteArray := (List.range k).map fun i => (s.bytes.getD i ⟨#[]⟩).extract 0 (s.keptN keeps i)
def Shot.keptF (s : Shot) (keeps : List Int) (k : Nat) : List Int := (List.range k).map fun i => ((s.keptN keeps i : Nat) : Int)
def Shot.kept (s : Shot) (keeps : List Int) : Shot := ⟨s.names, s.keptB keeps s.bytes.length, s.keptF keeps s.bytes.length⟩
theorem Shot.keptB_succ (s : Shot) (keeps : List Int) (k : Nat) : s.keptB keeps (k + 1) = s.keptB keeps k ++ [(s.bytes.getD k ⟨#[]⟩).extract 0 (s.keptN keeps k)] := by simp [keptB, List.range_succ]
theorem Shot.keptF_succ (s : Shot) (keeps : List Int) (k : Nat) : s.keptF keeps (k + 1) = s.keptF keeps k ++ [((s.keptN keeps k : Nat) : Int)] := by simp [keptF, List.range_succ]
theorem Shot.keptB_len (s : Shot) (keeps : List Int) (k : Nat) : (s.keptB keeps k).length = k := by simp [keptB]
theorem Shot.keptF_len (s : Shot) (keeps : List Int) (k : Nat) : (s.keptF keeps k).length = k := by simp [keptF]
/-- what kept asks of a shot. -/
structure Shot.Ok (s : Shot) : Prop where
  l : s.bytes.length ≤ 200
  f : s.firm.length = s.bytes.length
  each : ∀ i, i < s.bytes.length → 0 ≤ s.firm.getD i 0 ∧ s.firm.getD i 0 ≤ (s.bytes.getD i ⟨#[]⟩).size ∧ (s.bytes.getD i ⟨#[]⟩).size ≤ 16777216

theorem run_append_oneS (w : World) (vf : Value) (l : List ByteArray) (x : ByteArray) (n : Nat) (hn : n = l.length) (hown : w.ownsRow 0 9 1 vf n (sCells l)) (hl : n ≤ 1000) :
    ∃ a' c' w', (Builtin.append_ #[35, 35] 35 #[vf, .slice (some ⟨w.heap.size, 0, none⟩) 1 1]).run Try.prog (w.alloc (.cells #[.string x] 9)) = .ok (.slice a' (n + 1) c') w' ∧ w'.ownsRow 0 9 1 (.slice a' (n + 1) c') (n + 1) (sCells (l ++ [x])) ∧
      (w.alloc (.cells #[.string x] 9)).grownBy w' vf.ownBlock ∧ ((Value.slice a' (n + 1) c').ownBlock = vf.ownBlock ∨ ∃ g, (Value.slice a' (n + 1) c').ownBlock = some g ∧ w.heap.size ≤ g) := by
  subst hn
  obtain ⟨i0, hi, hz0, hz1, hz2⟩ := info_parts info_str
  obtain ⟨v', w', h1, h2, h3, h4, _⟩ := run_append_rd (P := Try.prog) (w.alloc (.cells #[.string x] 9)) 35 35 9 i0 (.string ⟨#[]⟩) 16 Try.underlying35 hi hz0 hz1 hz2 rfl vf (.slice (some ⟨w.heap.size, 0, none⟩) 1 1) l.length 1 (sCells l) (sCells [x])
    (((Upd.refl (fun _ => False) w).alloc _).row hown (fun _ _ h => h)) (Rd_new _ _ _ _ (sCells [x]) _ _ rfl rfl) rfl (fun u hu => by obtain ⟨_, _, rfl⟩ := List.mem_map.1 hu; rfl) (by simp only [maxLen]; omega) (by omega)
  obtain ⟨a', c', rfl, _⟩ := row_slice h2
  refine ⟨a', c', w', h1, by rw [sCells_append]; exact h2, h3, ?_⟩
  rcases h4 with h4 | ⟨g, h4, h5⟩
  · exact Or.inl h4
  · exact Or.inr ⟨g, h4, by simp at h5; omega⟩

set_option maxRecDepth 100000 in
set_option maxHeartbeats 4000000 in
theorem kept_any (w : World) (an bn cn vk : Value) (s : Shot) (keeps : List Int) (hs : ShotAt w an bn cn s) (ho : s.Ok) (hk : Rd w vk (iCells keeps)) (hkl : keeps.length ≤ 9223372036854775807) (_hki : ∀ x ∈ keeps, isI64 x) :
    Calls Try.prog 44 #[.agg #[an, bn, cn], vk] w fun e w' => ∃ vb vf, e = .returned (.agg #[an, vb, vf]) ∧ ShotAt w' an vb vf (s.kept keeps) ∧ Below w.heap.size w w' := by
  obtain ⟨a1, c1, rfl⟩ := hs.n.shape
  obtain ⟨a2, c2, rfl⟩ := hs.b.shape
  obtain ⟨a3, c3, rfl⟩ := hs.f.shape
  obtain ⟨ak, ck, rfl⟩ := hk.shape
  simp only [sCells_length, iCells_length] at *
  have hfl := ho.f
  have hll := ho.l
  rw [hfl] at hs ⊢
  go_enter Try.func44, Try.ntmps44
  go_wp2_with fail
  obtain ⟨X, hX⟩ : ∃ X : Obj, Obj.cells #[Value.slice a1 s.names.length c1, Value.slice a2 s.bytes.length c2, Value.slice a3 s.bytes.length c3] 76 = X := ⟨_, rfl⟩
  obtain ⟨Y, hY⟩ : ∃ Y : Obj, Obj.cells #[Value.slice none 0 0, Value.slice none 0 0, Value.slice none 0 0] 76 = Y := ⟨_, rfl⟩
  obtain ⟨Z, hZ⟩ : ∃ Z : Obj, Obj.cells #[Value.slice a1 s.names.length c1, Value.slice none 0 0, Value.slice none 0 0] 76 = Z := ⟨_, rfl⟩
  rw [hX, hY, hZ, show w.heap.size + 1 + 1 = w.heap.size + 2 from rfl]
  have hb0 : Below w.heap.size w (((w.alloc X).alloc Y).alloc Z) := (((Below.refl _ _).alloc (Nat.le_refl _) _).alloc (by simp) _).alloc (by simp; omega) _
  have hx : (((w.alloc X).alloc Y).alloc Z).heap[w.heap.size]? = some X := alloc_old (alloc2_at0 _ _ _) _
  have hy : (((w.alloc X).alloc Y).alloc Z).heap[w.heap.size + 1]? = some Y := alloc_old (alloc2_at _ _ _) _
  have hz : (((w.alloc X).alloc Y).alloc Z).heap[w.heap.size + 2]? = some Z := by simpa using alloc_at ((w.alloc X).alloc Y) Z
  have hsz : (((w.alloc X).alloc Y).alloc Z).heap.size = w.heap.size + 3 := by simp
  generalize hW : (((w.alloc X).alloc Y).alloc Z) = W at *
  subst hX hY hZ
  clear hW
  have hs' := hs.below hb0
  have hk' := hk.below hb0
  go_loopw [16] (fun i wr => ∃ (k : Nat) (vb vf : Value), k ≤ s.bytes.length ∧ i = .int .i64 k ∧ wr.heap[w.heap.size + 2]? = some (.cells #[.slice a1 s.names.length c1, vb, vf] 76 (0, 0)) ∧ wr.ownsRow (w.heap.size + 3) 9 1 vb k (sCells (s.keptB keeps k)) ∧ wr.ownsRow (w.heap.size + 3) 3 1 vf k (iCells (s.keptF keeps k)) ∧
    (∀ g, vb.ownBlock = some g → vf.ownBlock ≠ some g) ∧ Below (w.heap.size + 2) W wr) (fun i _ => s.bytes.length - (intOf i).toNat)
  case atStart => exact ⟨0, .slice none 0 0, .slice none 0 0, by omega, rfl, hz, World.ownsRow_nil _ _ _ _, World.ownsRow_nil _ _ _ _, (by intro g hg; cases hg), Below.refl _ _⟩
  case round =>
    obtain ⟨k, vb, vf, hkk, rfl, hB, hvb, hvf, hne, hbr⟩ := hrel
    have Hvb := Lib.hid hvb
    have Hvf := Lib.hid hvf
    have hX := (hbr.block _ (by omega)).trans hx
    clear hvb hvf
    have hbw : Below w.heap.size w wr := hb0.trans (hbr.mono (by omega))
    by_cases hlt : k < s.bytes.length
    · obtain ⟨b0, o0, rfl, d0⟩ := hs.b.at k (by rw [sCells_length]; exact hlt)
      obtain ⟨b1, o1, rfl, d1⟩ := hs.f.at k (by rw [iCells_length]; omega)
      simp only [sCells, iCells, List.getElem_map] at d0 d1
      have e0 := (hbw.cell (p := ⟨b0, o0 + k, none⟩) (cell_lt d0)).trans d0
      have e1 := (hbw.cell (p := ⟨b1, o1 + k, none⟩) (cell_lt d1)).trans d1
      clear d0 d1
      obtain ⟨bk, hbk⟩ : ∃ bk, s.bytes[k] = bk := ⟨_, rfl⟩
      obtain ⟨fk, hfk⟩ : ∃ fk, s.firm[k]'(by omega) = fk := ⟨_, rfl⟩
      have hgb : s.bytes.getD k ⟨#[]⟩ = bk := by rw [List.getD_eq_getElem?_getD, List.getElem?_eq_getElem hlt, hbk]; rfl
      have hgf : s.firm.getD k 0 = fk := by rw [List.getD_eq_getElem?_getD, List.getElem?_eq_getElem (by omega), hfk]; rfl
      obtain ⟨h1, h2, h3⟩ := ho.each k hlt
      rw [hgb, hgf] at h2
      rw [hgf] at h1
      rw [hgb] at h3
      rw [hbk] at e0
      rw [hfk] at e1
      obtain ⟨x, hx0⟩ : ∃ x, keeps.getD k 0 = x := ⟨_, rfl⟩
      obtain ⟨T, hT⟩ : ∃ T : Nat, T = (min (max x 0) ((bk.size : Int) - fk)).toNat := ⟨_, rfl⟩
      have hN : s.keptN keeps k = (fk + T).toNat := by unfold Shot.keptN; rw [hgb, hgf, hx0]; omega
      have HN := Lib.hid hN
      have hxk : ∀ h : k < keeps.length, keeps[k] = x := fun h => by rw [← hx0, List.getD_eq_getElem?_getD, List.getElem?_eq_getElem h]; rfl
      have hxn : ¬ k < keeps.length → x = 0 := fun h => by rw [← hx0, List.getD_eq_getElem?_getD, List.getElem?_eq_none (by omega)]; rfl
      have Hxk := Lib.hid hxk
      have Hgb := Lib.hid hgb
      obtain ⟨x0, x1, x2, _⟩ := cells3 hX
      clear hN hbk hfk hgb hgf hx0 hxk
      go_wp2_with fail
      go_loopw [8, 9] (fun n j wq => ∃ t : Nat, t ≤ T ∧ n = .int .i64 (fk + t) ∧ j = .int .i64 t ∧ wq = wr) (fun _ j _ => T - (intOf j).toNat)
      case atStart => exact ⟨0, by omega, by go_num, rfl, rfl⟩
      case round =>
        obtain ⟨t, ht, rfl, rfl, rfl⟩ := hrel
        by_cases hgo : k < keeps.length ∧ (t : Int) < x ∧ fk + t < bk.size
        · obtain ⟨g1, g2, g3⟩ := hgo
          obtain ⟨b2, o2, rfl, d2⟩ := hk.at k (by rw [iCells_length]; exact g1)
          simp only [iCells, List.getElem_map] at d2
          rw [Hxk.out g1] at d2
          have e2 := (hbw.cell (p := ⟨b2, o2 + k, none⟩) (cell_lt d2)).trans d2
          clear d2
          go_wp2
          go_roundw
          case rel => exact ⟨t + 1, by omega, by go_num, by go_num, trivial⟩
          case measure => simp [intOf]; omega
        · have htT : t = T := by
            by_cases g1 : k < keeps.length
            · omega
            · have := hxn g1; omega
          subst htT
          have hle : fk + t ≤ bk.size := by omega
          obtain ⟨m, hm⟩ : ∃ m : Nat, fk + t = m := ⟨(fk + t).toNat, by omega⟩
          have hend : ∀ (P : Prop), (¬ k < keeps.length → P) → (k < keeps.length → ¬ (t : Int) < x → P) → (k < keeps.length → (t : Int) < x → ¬ (m : Int) < bk.size → P) → P := by
            intro P p1 p2 p3
            by_cases g1 : k < keeps.length
            · by_cases g2 : (t : Int) < x
              · exact p3 g1 g2 (fun g3 => hgo ⟨g1, g2, by omega⟩)
              · exact p2 g1 g2
            · exact p1 g1
          have hmn : s.keptN keeps k = m := by rw [HN.out]; omega
          have hkb : s.keptB keeps (k + 1) = s.keptB keeps k ++ [bk.extract 0 m] := by rw [Shot.keptB_succ, Hgb.out, hmn]
          have hkf : s.keptF keeps (k + 1) = s.keptF keeps k ++ [(m : Int)] := by rw [Shot.keptF_succ, hmn]
          have hm1 : (m : Int) ≤ bk.size := by omega
          have hm2 : 0 ≤ (m : Int) := by omega
          have hm3 : m ≤ bk.size := by omega
          have Hkb := Lib.hid hkb
          have Hkf := Lib.hid hkf
          rw [hm]
          clear hle hmn hkb hkf hT hm hgo
          have hBl : w.heap.size + 2 < wr.heap.size := blk_lt hB
          have hB1 : wr.drew.heap[w.heap.size + 2]? = some (.cells #[.slice a1 s.names.length c1, vb, vf] 76 (0, 0)) := hB
          have hB2 : (wr.drew.alloc (.cells #[.string (bk.extract 0 m)] 9)).heap[w.heap.size + 2]? = some (.cells #[.slice a1 s.names.length c1, vb, vf] 76 (0, 0)) := alloc_old hB1 _
          have hlb := Shot.keptB_len s keeps k
          have hlf := Shot.keptF_len s keeps k
          have hvb1 := ownsRow_base0 (((Upd.refl (fun _ => False) wr).drew).row Hvb.out (fun _ _ h => h))
          obtain ⟨av', cv', w4, hrun4, hvb4, hg4, ho4⟩ := run_append_oneS wr.drew vb (s.keptB keeps k) (bk.extract 0 m) k hlb.symm hvb1 (by omega)
          have hvbB : ∀ g, vb.ownBlock = some g → w.heap.size + 3 ≤ g ∧ g < wr.heap.size := fun g hg => Hvb.out.lt g hg
          have hvfB : ∀ g, vf.ownBlock = some g → w.heap.size + 3 ≤ g ∧ g < wr.heap.size := fun g hg => Hvf.out.lt g hg
          have hU4 : Upd (fun g => vb.ownBlock = some g) wr w4 := (((Upd.refl _ wr).drew).alloc _).grown hg4 (fun g hg => Or.inl hg)
          have hB4 := hU4.keep hB (fun hg => by have := (hvbB _ hg).1; omega)
          have hvb4' : w4.ownsRow (w.heap.size + 3) 9 1 (.slice av' (k + 1) cv') (k + 1) (sCells (s.keptB keeps (k + 1))) := by
            rw [Hkb.out]
            refine ownsRow_from hvb4 (fun g hg => ?_)
            rcases ho4 with ho4 | ⟨g4, ho4, hg4'⟩
            · exact (hvbB g (ho4 ▸ hg)).1
            · rw [ho4] at hg; cases hg; have : wr.drew.heap.size = wr.heap.size := rfl; omega
          have hvf4 := hU4.row Hvf.out (fun g hg hg' => hne g hg' hg)
          have hne4 : ∀ g, (Value.slice av' (k + 1) cv').ownBlock = some g → vf.ownBlock ≠ some g := by
            intro g hg hf
            rcases ho4 with ho4 | ⟨g4, ho4, hg4'⟩
            · exact hne g (ho4 ▸ hg) hf
            · rw [ho4] at hg; cases hg; have := (hvfB _ hf).2; have : wr.drew.heap.size = wr.heap.size := rfl; omega
          have hbr4 : Below (w.heap.size + 2) W w4 := hU4.thenB hbr (fun g hg => by have := (hvbB _ hg).1; omega) (by omega)
          obtain ⟨w5, hw5⟩ : ∃ w5, w4.setCell ⟨w.heap.size + 2, 1, none⟩ (.slice av' (k + 1) cv') = w5 := ⟨_, rfl⟩
          have hU5 : Upd (· = w.heap.size + 2) w4 w5 := by rw [← hw5]; exact setCell_upd _ _
          have hB5 : w5.heap[w.heap.size + 2]? = some (.cells #[.slice a1 s.names.length c1, .slice av' (k + 1) cv', vf] 76 (0, 0)) := by rw [← hw5]; exact setCell_at hB4 1 _
          have hvb5 := hU5.row hvb4' (fun g hg e => by have := (hvb4'.lt g hg).1; omega)
          have hvf5 := hU5.row hvf4 (fun g hg e => by have := (hvfB g hg).1; omega)
          have hbr5 : Below (w.heap.size + 2) W w5 := hU5.thenB hbr4 (fun g hg => by omega) (by have := hU4.size; omega)
          have hU4s : wr.heap.size ≤ w5.heap.size := Nat.le_trans hU4.size hU5.size
          have Hvb5 := Lib.hid hvb5
          have Hvf5 := Lib.hid hvf5
          have Hw5 := Lib.hid hw5
          have Hne4 := Lib.hid hne4
          have HvfB := Lib.hid hvfB
          have Hlf := Lib.hid hlf
          clear hvb4' hvb4 hvf4 hg4 ho4 hU4 hU5 hvb5 hvf5 hw5 hne4 hvb1 hvfB hvbB hlb hlf hbr4
          have S0 := (cells3 hB).2.1
          have S1 := (cells3 hB1).2.1
          have S2 := (cells3 hB2).2.1
          have S3 := (cells3 hB4).2.1
          have S4 := (cells3 hB4).2.2.2.2.1
          refine hend _ (fun g1 => ?_) (fun g1 g2 => ?_) (fun g1 g2 g3 => ?_)
          rotate_left
          all_goals first
            | (obtain ⟨b2, o2, rfl, d2⟩ := hk.at k (by rw [iCells_length]; exact g1)
               simp only [iCells, List.getElem_map] at d2
               rw [Hxk.out g1] at d2
               have e2 := (hbw.cell (p := ⟨b2, o2 + k, none⟩) (cell_lt d2)).trans d2
               clear d2)
            | skip
          all_goals
            go_wp2_with fail
            go_region_law (refine step_append_run (by rfl) _ _ _ (by rfl) _ _ _ _ (by rfl) (by rfl) _ (by rfl) hrun4 ?_)
            all_goals
              rw [Hw5.out]
              clear S0 S1 S2 S3 S4 hB hB1 hB2 hB4 hrun4 e0 e1
              obtain ⟨z0, z1, z2, q0, q1, q2⟩ := cells3 hB5
              have hlf5 : w5.ownsRow (w.heap.size + 3) 3 1 vf (s.keptF keeps k).length (iCells (s.keptF keeps k)) := by rw [Hlf.out]; exact Hvf5.out
              go_wp2_with (refine append_i64 rfl (.tmp 57) (.tmp 59) rfl vf (.slice (some ⟨w5.heap.size, 0, none⟩) 1 1) (s.keptF keeps k) [(m : Int)] (s.keptF keeps (k + 1)) Hkf.out.symm rfl (((Upd.refl (fun _ => False) w5).alloc _).row (ownsRow_base0 hlf5) (fun _ _ h => h)) rfl (Rd_new _ _ _ _ (iCells [_]) _ _ rfl rfl) (by rw [Hlf.out]; simp; omega) ?_)
              intro vf' w6 hvf' hg6 ho6
              rw [Shot.keptF_len] at hvf'
              obtain ⟨af', cf', rfl, _⟩ := row_slice hvf'
              have hs5 := hU4s
              have hvfB := HvfB.out
              have hvf6 : w6.ownsRow (w.heap.size + 3) 3 1 (.slice af' (k + 1) cf') (k + 1) (iCells (s.keptF keeps (k + 1))) := by
                refine ownsRow_from hvf' (fun g hg => ?_)
                rcases ho6 with ho6 | ⟨g6, ho6, hg6'⟩
                · exact (hvfB g (ho6 ▸ hg)).1
                · rw [ho6] at hg; cases hg; omega
              have hU6 : Upd (fun g => vf.ownBlock = some g) w5 w6 := ((Upd.refl _ w5).alloc _).grown hg6 (fun g hg => Or.inl hg)
              have hvb6 := hU6.row Hvb5.out (fun g hg hg' => Hne4.out g hg hg')
              have hB6 := hU6.keep hB5 (fun hg => by have := (hvfB _ hg).1; omega)
              have hne6 : ∀ g, (Value.slice av' (k + 1) cv').ownBlock = some g → (Value.slice af' (k + 1) cf').ownBlock ≠ some g := by
                intro g hg hf
                rcases ho6 with ho6 | ⟨g6, ho6, hg6'⟩
                · exact Hne4.out g hg (ho6 ▸ hf)
                · rw [ho6] at hf; cases hf; have := (Hvb5.out.lt g hg).2; omega
              have hbr6 : Below (w.heap.size + 2) W w6 := hU6.thenB hbr5 (fun g hg => by have := (hvfB g hg).1; omega) (by omega)
              have hU7 : Upd (· = w.heap.size + 2) w6 (w6.setCell ⟨w.heap.size + 2, 2, none⟩ (.slice af' (k + 1) cf')) := setCell_upd _ _
              have hB7 := setCell_at hB6 2 (.slice af' (k + 1) cf')
              have hvb7 := hU7.row hvb6 (fun g hg e => by have := (hvb6.lt g hg).1; omega)
              have hvf7 := hU7.row hvf6 (fun g hg e => by have := (hvf6.lt g hg).1; omega)
              have hbr7 := hU7.thenB hbr6 (fun g hg => by omega) (by have := hU6.size; omega)
              have Hvb7 := Lib.hid hvb7
              have Hvf7 := Lib.hid hvf7
              have Hne6 := Lib.hid hne6
              clear hvf' hvf6 hvb6 hg6 ho6 hU6 hU7 hvb7 hvf7 hne6 z0 z1 z2 q0 q1 q2 hB5 hvfB hlf5
              obtain ⟨z0, z1, z2, q0, q1, q2⟩ := cells3 hB6
              go_wp2
              go_roundw
              case rel => exact ⟨k + 1, _, _, by omega, by go_num, hB7, Hvb7.out, Hvf7.out, Hne6.out, hbr7⟩
              case measure => simp [intOf]; omega
    · obtain rfl : k = s.bytes.length := by omega
      have hN1 := (hbr.block _ (by omega)).trans hy
      obtain ⟨x0, x1, x2, z0, z1, z2⟩ := cells3 hB
      obtain ⟨y0, y1, y2, u0, u1, u2⟩ := cells3 hN1
      have hvb := Hvb.out
      have hvf := Hvf.out
      obtain ⟨ab, cb, rfl, _⟩ := row_slice (ownsRow_base0 hvb)
      obtain ⟨af, cf, rfl, _⟩ := row_slice (ownsRow_base0 hvf)
      clear hvb hvf
      go_wp2
      refine bodyPost_ret (v := .agg #[.slice a1 s.names.length c1, .slice ab s.bytes.length cb, .slice af s.bytes.length cf]) (by simp [results, Try.results44, go_sem, y0, y1, y2]) rfl ⟨_, _, rfl, ?_, ?_⟩
      · have hU := fun (u1 u2 u3 : Value) => ((setCell_upd (w := wr) (b := w.heap.size + 1) 0 u1).trans (setCell_upd 1 u2) (fun _ hk => Or.inl hk)).trans (setCell_upd 2 u3) (fun _ hk => Or.inl hk)
        have hvb := (hU (.slice a1 s.names.length c1) (.slice ab s.bytes.length cb) (.slice af s.bytes.length cf)).row Hvb.out (fun g hg e => by have := (Hvb.out.lt g hg).1; omega)
        have hvf := (hU (.slice a1 s.names.length c1) (.slice ab s.bytes.length cb) (.slice af s.bytes.length cf)).row Hvf.out (fun g hg e => by have := (Hvf.out.lt g hg).1; omega)
        have hn := hs.n.keepLow ((hU (.slice a1 s.names.length c1) (.slice ab s.bytes.length cb) (.slice af s.bytes.length cf)).thenB hbw (fun g hg => by omega) hbw.size)
        exact ⟨hn, Rd.ofOwns hvb, Rd.ofOwns hvf, hs.ln, by simp [Shot.kept, Shot.keptB_len]; exact hs.lb, by simp [Shot.kept, Shot.keptF_len]; exact hs.lb⟩
      · have hU := fun (u1 u2 u3 : Value) => ((setCell_upd (w := wr) (b := w.heap.size + 1) 0 u1).trans (setCell_upd 1 u2) (fun _ hk => Or.inl hk)).trans (setCell_upd 2 u3) (fun _ hk => Or.inl hk)
        exact (hU _ _ _).thenB hbw (fun g hg => by omega) hbw.size
end Go.Proofs.Ytlljlkeknklplaa
