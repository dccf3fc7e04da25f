/-
  Open.
-/
import Derived.Outline
import Derived.BigQuiet
import Derived.Deep.QuietTactic
import Derived.Deep.RegionHeld3
import Derived.Test.YtbiadclmonakkaaGreatDoorMWmC
import Derived.Test.YtbiadclmonakkaaGreatDoorMWmG
namespace Go.Proofs.YtbiadclmonakkaaGreatDoor
open Go.RowKit Go.Maps Go.MapKept
set_option linter.unusedSimpArgs false

section
variable {ex : Nat → Prop} {w : World} {p m : Nat} {d : ADisk}
theorem wOpen_size {d : ADisk} {size : Int} (h : size < 64 ∨ 16777216 < size) : wOpen d size = (d, f0, 2) := by unfold wOpen; rw [if_pos h]
theorem wOpen_read {d : ADisk} {size : Int} (h : ¬ (size < 64 ∨ 16777216 < size)) (h2 : findErr d wN ≠ 13 ∧ findErr d wN ≠ 0) : wOpen d size = (d, f0, findErr d wN) := by unfold wOpen; rw [if_neg h, if_pos h2]
theorem wOpen_look {d : ADisk} {size : Int} (h : ¬ (size < 64 ∨ 16777216 < size)) (h2 : ¬ (findErr d wN ≠ 13 ∧ findErr d wN ≠ 0)) {f : AFound} {e : Int} (hl : wLook d f0 (segsOf d) = (f, e)) :
    wOpen d size = if e ≠ 0 then (d, f, e) else ((opSteps d f).1, f, (opSteps d f).2) := by
  unfold wOpen
  rw [if_neg h, if_neg h2, hl]
set_option maxRecDepth 100000 in
set_option maxHeartbeats 8000000 in
theorem wOpen_at (size : Int) (h : DiskAt ex w p m d) (hE : WEnv w) (hG : GlIn ex) :
    Calls Tryz.prog 17 #[.pointer (some ⟨p, 0, none⟩), .int .i64 size] w (OpenPost ex w p m (wOpen d size) size) := by
  have hbx := alloc_at w (.cells #[.pointer (some ⟨p, 0, none⟩)] 26)
  have hB1 : Below w.heap.size w (w.alloc (.cells #[.pointer (some ⟨p, 0, none⟩)] 26)) := (Below.refl _ _).alloc (Nat.le_refl _) _
  obtain ⟨w1, hw1⟩ : ∃ w1, w.alloc (.cells #[.pointer (some ⟨p, 0, none⟩)] 26) = w1 := ⟨_, rfl⟩
  rw [hw1] at hbx hB1
  have Hw1 := Lib.hid hw1
  clear hw1
  by_cases hsz : size < 64 ∨ 16777216 < size
  · rw [wOpen_size hsz]
    rcases (by omega : size < 64 ∨ (¬ size < 64 ∧ 16777216 < size)) with g | ⟨g, g'⟩
    all_goals
      clear hsz
      go_enter Tryz.func17, Tryz.ntmps17
      go_wp2
      refine bodyPost_ret (v := .tuple #[.pointer none, .slice none 0 0, .int .i64 2]) (by simp [results, Tryz.results17, go_sem]) rfl ?_
      rw [Hw1.out]
      exact ⟨Keep.ofBelow hB1 (fun k hk => h.lt hk), Or.inl ⟨(by decide : (2 : Int) ≠ 0), rfl, h.below hB1⟩⟩
  · have g1 : ¬ size < 64 := fun e => hsz (Or.inl e)
    have g2 : ¬ 16777216 < size := fun e => hsz (Or.inr e)
    obtain ⟨sz, rfl⟩ : ∃ n : Nat, size = n := ⟨size.toNat, by omega⟩
    have hD1 := h.below hB1
    have hR := Read_at wN hD1 (by decide)
    obtain ⟨fe, hfe⟩ : ∃ fe, findErr d wN = fe := ⟨_, rfl⟩
    rw [hfe] at hR
    have HR := Lib.hid hR
    by_cases hf : fe ≠ 13 ∧ fe ≠ 0
    · rw [wOpen_read hsz (by rw [hfe]; exact hf), hfe]
      have b1 : (fe != 13) = true := by simpa using hf.1
      have b2 : (fe != 0) = true := by simpa using hf.2
      have Hf := Lib.hid hf
      clear hR hfe hf hsz
      go_enter Tryz.func17, Tryz.ntmps17
      go_wp2_with (rw [Hw1.out]; go_at_call 51; refine HR.out.mono ?_; rintro e w2 ⟨a2, c2, rfl, hrow2, hB2⟩; clear hrow2)
      refine bodyPost_ret (v := .tuple #[.pointer none, .slice none 0 0, .int .i64 fe]) (by simp [results, Tryz.results17, go_sem]) rfl ?_
      exact ⟨Keep.ofBelow (hB1.trans (hB2.mono hB1.size)) (fun k hk => h.lt hk), Or.inl ⟨Hf.out.2, rfl, hD1.below hB2⟩⟩
    · obtain ⟨f, er, hl⟩ : ∃ f er, wLook d f0 (segsOf d) = (f, er) := ⟨_, _, rfl⟩
      have hfo : FOk f := by have := open_ok h.wf; rw [hl] at this; exact this
      rw [wOpen_look hsz (by rw [hfe]; exact hf) hl]
      have hL := fun wX (hX : Below w1.heap.size w1 wX) => wlook_at sz (hD1.below hX) (hE.below (hB1.trans (hX.mono hB1.size))) (by omega)
      rw [hl] at hL
      unfold LookPost at hL
      simp only at hL
      have hO := fun (w2 w3 : World) (vs vr : Value) (XL : List XRec) (T : TypeId) (hB2 : Below w.heap.size w w2) (hF : LookFin w2 w3 p sz f vs vr XL) (hd : w3.heap[w.heap.size]? = some (.cells #[.pointer (some ⟨p, 0, none⟩)] T (0, 0))) => op_ready h hB2 hF hE hG hfo (by omega) hd
      unfold opFns at hO
      obtain ⟨e2, he2⟩ : ∃ e2, (opSteps d f).2 = e2 := ⟨_, rfl⟩
      obtain ⟨d2, hd2⟩ : ∃ d2, (opSteps d f).1 = d2 := ⟨_, rfl⟩
      rw [he2, hd2] at hO ⊢
      have HL := Lib.hid hL
      have HO := Lib.hid hO
      have hcases : fe = 13 ∨ fe = 0 := by omega
      clear hR hfe hf hsz hL hO he2 hd2 hl
      by_cases hz : er = 0
      · subst hz
        rw [if_neg (fun e => e rfl)]
        by_cases hz2 : e2 = 0
        · subst hz2
          rcases hcases with rfl | rfl
          all_goals
            go_enter Tryz.func17, Tryz.ntmps17
            go_wp2_with first
              | (rw [Hw1.out]; go_at_call 51; refine HR.out.mono ?_; rintro e w2 ⟨a2, c2, rfl, hrow2, hB2⟩; clear hrow2; have hbx2 := (hB2.block _ (blk_lt hbx)).trans hbx; have hbc2 := (cells1 hbx2).1)
              | (go_at_call 52; refine (HL.out w2 hB2).mono ?_; rintro e w3 ⟨vs, vr, XL, rfl, hF⟩; obtain ⟨ar, cr, rfl⟩ := row_rec hF.row; have hF' := Lib.hid hF; have hB3 := hF.below; have hbx3 := (hB3.block _ (blk_lt hbx2)).trans hbx2; clear hF)
              | (go_at_call 53; refine (HO.out w2 w3 vs _ XL _ (hB1.trans (hB2.mono hB1.size)) hF'.out hbx3).mono ?_; rintro e w6 ⟨rfl, hD6, hK6, hOb⟩; have k0 := hOb.cl; obtain ⟨f0, f1, f2, f3⟩ := cells4O hOb.fb; obtain ⟨q0, q1, q2, q3, q4, q5, q6, g2, g3, g4, g5, g6⟩ := cells7 hOb.log; have HOb := Lib.hid hOb; clear hOb)
            have hLst := wLast_at ((HOb.out.logAt hD6).below ((Below.refl _ _).drew)) (HOb.out.ok.raw HOb.out.sz)
            obtain ⟨la, hla⟩ : ∃ la, (f.raw sz).last = la := ⟨_, rfl⟩
            rw [hla] at hLst
            have HLst := Lib.hid hLst
            have Hla := Lib.hid hla
            clear hLst hla
            have hqlt := HOb.out.xq
            have hs2 := hB2.size
            have hF0 := hF'.out.below.size
            have hFl := blk_lt hF'.out.log
            have hSS : ∀ (W : World) (o : Nat) (u : Value), (W.cell? ⟨w3.heap.size + 1, 0, none⟩ = some (.pointer (some ⟨w2.heap.size + 1, 0, none⟩)) ∧ W.cell? ⟨w3.heap.size, 3, none⟩ = some (.int .i64 f.good)) → ((W.setCell ⟨w2.heap.size + 1, o, none⟩ u).cell? ⟨w3.heap.size + 1, 0, none⟩ = some (.pointer (some ⟨w2.heap.size + 1, 0, none⟩)) ∧ (W.setCell ⟨w2.heap.size + 1, o, none⟩ u).cell? ⟨w3.heap.size, 3, none⟩ = some (.int .i64 f.good)) := fun W o u hW =>
              ⟨(World.cell?_setCell_far W _ _ u (by simp; omega)).trans hW.1, (World.cell?_setCell_far W _ _ u (by simp; omega)).trans hW.2⟩
            have HSS := Lib.hid hSS
            clear hSS
            refine wp_region_held_drew (S := fun W => W.cell? ⟨w3.heap.size + 1, 0, none⟩ = some (.pointer (some ⟨w2.heap.size + 1, 0, none⟩)) ∧ W.cell? ⟨w3.heap.size, 3, none⟩ = some (.int .i64 f.good)) (by kernel_rfl) ⟨k0, f3⟩ (fun hHeld => ?_)
            refine wpAnyH_take (i := 0) (v := ?_) rfl (by kernel_rfl) (by kernel_rfl) (by kernel_rfl) (fun _ _ _ h => h) (Or.inl ⟨by rfl, ?_⟩) (by assumption) ?_
            rotate_left
            · (intro wz hSz; obtain ⟨b0, b1⟩ := hSz; go_simp) <;> with_reducible rfl
            simp only [Act.put, List.getElem_toArray, List.getElem_cons_zero, List.getElem_cons_succ, List.setIfInBounds_toArray, List.set_cons_zero, List.set_cons_succ]
            refine wpAnyH_take (i := 1) (v := ?_) rfl (by kernel_rfl) (by kernel_rfl) (by kernel_rfl) (fun _ _ _ h => h) (Or.inl ⟨by rfl, ?_⟩) (by assumption) ?_
            rotate_left
            · (intro wz hSz; obtain ⟨b0, b1⟩ := hSz; go_simp) <;> with_reducible rfl
            simp only [Act.put, List.getElem_toArray, List.getElem_cons_zero, List.getElem_cons_succ, List.setIfInBounds_toArray, List.set_cons_zero, List.set_cons_succ]
            refine wpAnyH_take (i := 2) (v := ?_) rfl (by kernel_rfl) (by kernel_rfl) (by kernel_rfl) (fun _ _ _ h => h) (Or.inl ⟨by rfl, ?_⟩) (by assumption) ?_
            rotate_left
            · (intro wz hSz; obtain ⟨b0, b1⟩ := hSz; go_simp) <;> with_reducible rfl
            simp only [Act.put, List.getElem_toArray, List.getElem_cons_zero, List.getElem_cons_succ, List.setIfInBounds_toArray, List.set_cons_zero, List.set_cons_succ]
            refine wpAnyH_take (i := 3) (v := ?_) rfl (by kernel_rfl) (by kernel_rfl) (by kernel_rfl) (fun _ _ _ h => h) (Or.inl ⟨by rfl, ?_⟩) (by assumption) ?_
            rotate_left
            · (intro wz hSz; obtain ⟨b0, b1⟩ := hSz; go_simp) <;> with_reducible rfl
            simp only [Act.put, List.getElem_toArray, List.getElem_cons_zero, List.getElem_cons_succ, List.setIfInBounds_toArray, List.set_cons_zero, List.set_cons_succ]
            refine wpAnyH_take (i := 4) (v := ?_) rfl (by kernel_rfl) (by kernel_rfl) (by kernel_rfl) (fun _ _ _ h => h) (Or.inl ⟨by rfl, ?_⟩) (by assumption) ?_
            rotate_left
            · (intro wz hSz; obtain ⟨b0, b1⟩ := hSz; go_simp) <;> with_reducible rfl
            simp only [Act.put, List.getElem_toArray, List.getElem_cons_zero, List.getElem_cons_succ, List.setIfInBounds_toArray, List.set_cons_zero, List.set_cons_succ]
            refine wpAnyH_ready (rs := [5]) (by kernel_rfl) (by simp) (AllReadyH.cons rfl (fun K hK => ?_) AllReadyH.nil)
            go_simp
            (go_at_call 21; refine HLst.out.mono ?_; rintro e w6' ⟨rfl, rfl⟩)
            refine hK.out _ _ ⟨k0, f3⟩ (fun hHeld => ?_)
            clear hK K
            refine wpAnyH_take (i := 6) (v := ?_) rfl (by kernel_rfl) (by kernel_rfl) (by kernel_rfl) (fun _ _ _ h => h) (Or.inl ⟨by rfl, ?_⟩) (by assumption) ?_
            rotate_left
            · (intro wz hSz; obtain ⟨b0, b1⟩ := hSz; go_simp) <;> with_reducible rfl
            simp only [Act.put, List.getElem_toArray, List.getElem_cons_zero, List.getElem_cons_succ, List.setIfInBounds_toArray, List.set_cons_zero, List.set_cons_succ]
            refine wpAnyH_take (i := 7) (v := ?_) rfl (by kernel_rfl) (by kernel_rfl) (by kernel_rfl) (fun _ _ _ h => h) (Or.inl ⟨by rfl, ?_⟩) (by assumption) ?_
            rotate_left
            · (intro wz hSz; obtain ⟨b0, b1⟩ := hSz; go_simp) <;> with_reducible rfl
            simp only [Act.put, List.getElem_toArray, List.getElem_cons_zero, List.getElem_cons_succ, List.setIfInBounds_toArray, List.set_cons_zero, List.set_cons_succ]
            refine wpAnyH_ready (rs := [8]) (by kernel_rfl) (by simp) (AllReadyH.cons rfl (fun K hK => ?_) AllReadyH.nil)
            go_simp
            refine hK.out _ _ (HSS.out _ _ _ ⟨k0, f3⟩) (fun hHeld => ?_)
            clear hK K
            refine wpAnyH_take (i := 9) (v := ?_) rfl (by kernel_rfl) (by kernel_rfl) (by kernel_rfl) (fun _ _ _ h => h) (Or.inl ⟨by rfl, ?_⟩) (by assumption) ?_
            rotate_left
            · (intro wz hSz; obtain ⟨b0, b1⟩ := hSz; go_simp) <;> with_reducible rfl
            simp only [Act.put, List.getElem_toArray, List.getElem_cons_zero, List.getElem_cons_succ, List.setIfInBounds_toArray, List.set_cons_zero, List.set_cons_succ]
            refine wpAnyH_take (i := 10) (v := ?_) rfl (by kernel_rfl) (by kernel_rfl) (by kernel_rfl) (fun _ _ _ h => h) (Or.inl ⟨by rfl, ?_⟩) (by assumption) ?_
            rotate_left
            · (intro wz hSz; obtain ⟨b0, b1⟩ := hSz; go_simp) <;> with_reducible rfl
            simp only [Act.put, List.getElem_toArray, List.getElem_cons_zero, List.getElem_cons_succ, List.setIfInBounds_toArray, List.set_cons_zero, List.set_cons_succ]
            refine wpAnyH_ready (rs := [11]) (by kernel_rfl) (by simp) (AllReadyH.cons rfl (fun K hK => ?_) AllReadyH.nil)
            go_simp
            refine hK.out _ _ (HSS.out _ _ _ (HSS.out _ _ _ ⟨k0, f3⟩)) (fun hHeld => ?_)
            clear hK K
            refine wpAnyH_done (by kernel_rfl) ?_ _
            go_wp2
            have hb7 : ((w6.setCell ⟨w2.heap.size + 1, 4, none⟩ (.int .i64 (f.good : Int))).setCell ⟨w2.heap.size + 1, 5, none⟩ (.int .i64 (la : Int))).drew.heap[w3.heap.size]? = some (.cells #[.pointer (some ⟨w2.heap.size + 1, 0, none⟩), .slice ar f.recs.length cr, .int .i64 f.none, .int .i64 f.good] 100 (0, 0)) := by
              show ((w6.setCell ⟨w2.heap.size + 1, 4, none⟩ (.int .i64 (f.good : Int))).setCell ⟨w2.heap.size + 1, 5, none⟩ (.int .i64 (la : Int))).heap[w3.heap.size]? = _
              rw [setCell_old (setCell_old HOb.out.fb (by omega) _ _) (by omega) _ _]
            have hl7 : ((w6.setCell ⟨w2.heap.size + 1, 4, none⟩ (.int .i64 (f.good : Int))).setCell ⟨w2.heap.size + 1, 5, none⟩ (.int .i64 (la : Int))).drew.heap[w2.heap.size + 1]? = some (.cells (logCells p (f.log sz) vs) 52 (0, 0)) := by
              show ((w6.setCell ⟨w2.heap.size + 1, 4, none⟩ (.int .i64 (f.good : Int))).setCell ⟨w2.heap.size + 1, 5, none⟩ (.int .i64 (la : Int))).heap[w2.heap.size + 1]? = _
              rw [setCell_at (setCell_at HOb.out.log _ _) _ _, ← Hla.out]; rfl
            have hU7 : Upd (· = w2.heap.size + 1) w6 ((w6.setCell ⟨w2.heap.size + 1, 4, none⟩ (.int .i64 (f.good : Int))).setCell ⟨w2.heap.size + 1, 5, none⟩ (.int .i64 (la : Int))).drew := ((setCell_upd (b := w2.heap.size + 1) 4 (.int .i64 (f.good : Int))).trans (setCell_upd 5 _) (fun _ hk => Or.inl hk)).drew
            have kb7 : ((w6.setCell ⟨w2.heap.size + 1, 4, none⟩ (.int .i64 (f.good : Int))).setCell ⟨w2.heap.size + 1, 5, none⟩ (.int .i64 (la : Int))).drew.cell? ⟨w3.heap.size + 1, 0, none⟩ = some (.pointer (some ⟨w2.heap.size + 1, 0, none⟩)) := (HSS.out _ _ _ (HSS.out _ _ _ ⟨k0, f3⟩)).1
            generalize ((w6.setCell ⟨w2.heap.size + 1, 4, none⟩ (.int .i64 (f.good : Int))).setCell ⟨w2.heap.size + 1, 5, none⟩ (.int .i64 (la : Int))).drew = w7 at hb7 hl7 hU7 kb7 ⊢
            obtain ⟨_, y1, _, _⟩ := cells4O hb7
            go_quiet (fail)
            go_wp2
            refine bodyPost_ret (v := .tuple #[.pointer (some ⟨w2.heap.size + 1, 0, none⟩), .slice ar f.recs.length cr, .int .i64 0]) (by simp [results, Tryz.results17, go_sem]) rfl ?_
            obtain ⟨j1, j2⟩ := op_fin (w7 := World.drewN w7 _) rfl h (hB1.trans (hB2.mono hB1.size)) hF'.out ((((Upd.refl _ _).alloc _).alloc _).alloc _) hD6 hK6 (hU7.trans (Upd.ofBelow (fp := noFp) (below_drewN (Below.refl w7.heap.size w7) _)) (fun _ h => h.elim)) hl7
            exact ⟨j2, Or.inr ⟨rfl, _, _, _, _, rfl, j1⟩⟩
        · have hzb : (e2 != 0) = true := by simpa using hz2
          have Hz := Lib.hid hz2
          clear hz2
          rcases hcases with rfl | rfl
          all_goals
            go_enter Tryz.func17, Tryz.ntmps17
            go_wp2_with first
              | (rw [Hw1.out]; go_at_call 51; refine HR.out.mono ?_; rintro e w2 ⟨a2, c2, rfl, hrow2, hB2⟩; clear hrow2; have hbx2 := (hB2.block _ (blk_lt hbx)).trans hbx; have hbc2 := (cells1 hbx2).1)
              | (go_at_call 52; refine (HL.out w2 hB2).mono ?_; rintro e w3 ⟨vs, vr, XL, rfl, hF⟩; obtain ⟨ar, cr, rfl⟩ := row_rec hF.row; have hF' := Lib.hid hF; have hB3 := hF.below; have hbx3 := (hB3.block _ (blk_lt hbx2)).trans hbx2; clear hF)
              | (go_at_call 53; refine (HO.out w2 w3 vs _ XL _ (hB1.trans (hB2.mono hB1.size)) hF'.out hbx3).mono ?_; rintro e w6 ⟨rfl, hD6, hK6, hOb⟩; clear hOb)
            refine bodyPost_ret (v := .tuple #[.pointer none, .slice none 0 0, .int .i64 e2]) (by simp [results, Tryz.results17, go_sem]) rfl ?_
            have hB03 := hB1.trans ((hB2.trans (hB3.mono hB2.size)).mono hB1.size)
            refine ⟨(Keep.ofBelow (((hB03.alloc hB03.size _).alloc (by simp; have := hB03.size; omega) _).alloc (by simp; have := hB03.size; omega) _) (fun k hk => h.lt hk)).trans (hK6.mono (fun k hk => Or.inl hk)), Or.inl ⟨Hz.out, rfl, hD6.mono (fun k hk => Or.inl hk)⟩⟩
      · rw [if_pos hz]
        have hzb : (er != 0) = true := by simpa using hz
        have Hz := Lib.hid hz
        clear hz
        rcases hcases with rfl | rfl
        all_goals
          go_enter Tryz.func17, Tryz.ntmps17
          go_wp2_with first
            | (rw [Hw1.out]; go_at_call 51; refine HR.out.mono ?_; rintro e w2 ⟨a2, c2, rfl, hrow2, hB2⟩; clear hrow2; have hbx2 := (hB2.block _ (blk_lt hbx)).trans hbx; have hbc2 := (cells1 hbx2).1)
            | (go_at_call 52; refine (HL.out w2 hB2).mono ?_; rintro e w3 ⟨vs, vr, XL, rfl, hF⟩; obtain ⟨ar, cr, rfl⟩ := row_rec hF.row; have hB3 := hF.below; clear hF)
          refine bodyPost_ret (v := .tuple #[.pointer none, .slice none 0 0, .int .i64 er]) (by simp [results, Tryz.results17, go_sem]) rfl ?_
          have hB03 := hB1.trans ((hB2.trans (hB3.mono hB2.size)).mono hB1.size)
          exact ⟨Keep.ofBelow (hB03.alloc hB03.size _) (fun k hk => h.lt hk), Or.inl ⟨Hz.out, rfl, (h.below hB03).alloc _⟩⟩
end
end Go.Proofs.YtbiadclmonakkaaGreatDoor
