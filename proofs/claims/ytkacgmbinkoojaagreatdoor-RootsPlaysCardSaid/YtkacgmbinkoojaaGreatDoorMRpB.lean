/-
  RootsPlays, plainly: the document's Read and Write by the program's readR and wrAll. No program here.
-/
import Derived.Test.YtkacgmbinkoojaaGreatDoorMGtA
import Derived.Outline
import Derived.Test.YtkacgmbinkoojaaGreatDoorMRcB
import Derived.Test.YtkacgmbinkoojaaGreatDoorMRfB
import Derived.Deep.RegionHeld3
import Derived.Deep.CutRange
namespace Go.Proofs.YtkacgmbinkoojaaGreatDoor

theorem cand_zero (d : ADisk) (k : Nat) (h : (cand d k).serial = 0) : cand d k = root0 := by
  unfold cand at h ⊢
  split
  · next hc =>
    rw [if_pos hc] at h
    have hg := parse_good _ hc.2.1
    have := hg.s0
    omega
  · rfl
theorem readK_two (d : ADisk) : readK d 2 = if (cand d 0).serial < (cand d 1).serial then cand d 1 else cand d 0 := by
  have h1 : readK d 1 = cand d 0 := by
    show (if root0.serial < (cand d 0).serial then cand d 0 else root0) = _
    by_cases h : root0.serial < (cand d 0).serial
    · rw [if_pos h]
    · rw [if_neg h]
      have h0 : (cand d 0).serial = 0 := by
        have : root0.serial = 0 := rfl
        omega
      exact (cand_zero d 0 h0).symm
  show (if (readK d 1).serial < (cand d 1).serial then cand d 1 else readK d 1) = _
  rw [h1]
/-- a file that is not there: removing it changes nothing. -/
theorem remove_none (d : ADisk) (s : ByteArray) (h : d.removeErr s = 13) : d.remove s = d := by
  unfold ADisk.removeErr at h
  unfold ADisk.remove
  by_cases hd : d.down = true
  · rw [if_pos hd] at h; exact absurd h (by decide)
  · rw [if_neg hd] at h ⊢
    by_cases hn : (lk d.fs s).isNone = true
    · rw [if_pos hn]
    · rw [if_neg hn] at h
      unfold ADisk.err at h
      split at h <;> exact absurd h (by decide)
theorem fe_root (d : ADisk) (s : ByteArray) (h : d.down = false) : findErr d s = 0 ∨ findErr d s = 13 := by
  unfold findErr
  rw [if_neg (by simp [h])]
  split
  · exact Or.inr rfl
  · exact Or.inl rfl
theorem fe_down (d : ADisk) (s : ByteArray) (h : d.down = true) : findErr d s = 15 := by
  unfold findErr
  rw [if_pos h]
end Go.Proofs.YtkacgmbinkoojaaGreatDoor

/-
  RootsPlays: the document's root of a name.
-/
namespace Go.Proofs.YtkacgmbinkoojaaGreatDoor
open Go.RowKit Go.Maps Go.MapKept
set_option linter.unusedSimpArgs false
variable {X : Nat → Prop}

/-- what the root of a name is told as. -/
def OnePost (R : ARoot) (w : World) (e : Ending) (w' : World) : Prop :=
  ∃ a c, e = .returned (.agg #[.int .i64 R.serial, .int .i64 R.tick, .int .i64 R.commit, .slice a R.blob.length c]) ∧ w'.ownsRow w.heap.size 5 1 (.slice a R.blob.length c) R.blob.length (bcells R.blob) ∧ Below w.heap.size w w'
theorem OnePost.none {R : ARoot} {w w' : World} (h : R = root0) (hB : Below w.heap.size w w') : OnePost R w (.returned (.agg #[.int .i64 0, .int .i64 0, .int .i64 0, .slice none 0 0])) w' := by
  subst h
  exact ⟨Option.none, 0, rfl, World.ownsRow_nil _ _ _ _, hB⟩
theorem below4W {N : Nat} {w0 w1 : World} (h : Below N w0 w1) {b : Nat} (hb : N ≤ b) (x y z u : Value) : Below N w0 ((((w1.setCell ⟨b, 0, Option.none⟩ x).setCell ⟨b, 1, Option.none⟩ y).setCell ⟨b, 2, Option.none⟩ z).setCell ⟨b, 3, Option.none⟩ u) :=
  (((h.setCell hb _).setCell hb _).setCell hb _).setCell hb _
set_option maxRecDepth 100000 in
set_option maxHeartbeats 8000000 in
theorem x6one_any (w : World) (a : Option Addr) (n c : Nat) (d : ADisk) (k : Nat) (_hk : k < 2) (h : RefAt X w a n c d) (hw : d.WF) (hm : (d.readBytes (rname k)).length ≤ 16777216) :
    Calls Tryz.prog 41 #[refVal a n c d, .string (rname k), .int .i64 k] w (OnePost (cand d k) w) := by
  obtain ⟨R, hR⟩ : ∃ R, cand d k = R := ⟨_, rfl⟩
  rw [hR]
  obtain ⟨V, hV⟩ : ∃ V, (w.alloc (.cells #[.int .i64 d.most, .slice a n c, .int .i64 d.left, .bool d.down] 29)).alloc (.cells #[.int .i64 0, .int .i64 0, .int .i64 0, .slice Option.none 0 0] 35) = V := ⟨_, rfl⟩
  have hz0 : V.heap[w.heap.size]? = some (.cells #[.int .i64 d.most, .slice a n c, .int .i64 d.left, .bool d.down] 29 (0, 0)) := by rw [← hV]; exact alloc2_at0 _ _ _
  have hz1 : V.heap[w.heap.size + 1]? = some (.cells #[.int .i64 0, .int .i64 0, .int .i64 0, .slice Option.none 0 0] 35 (0, 0)) := by rw [← hV]; exact alloc2_at _ _ _
  have hBV : Below w.heap.size w V := by rw [← hV]; exact ((Below.refl _ _).alloc (Nat.le_refl _) _).alloc (by simp) _
  have hVs : V.heap.size = w.heap.size + 2 := by rw [← hV]; simp
  have hRd := refRead_any V a n c d (rname k) (h.below hBV) hw
  unfold refVal at hRd ⊢
  obtain ⟨fe, hfe⟩ : ∃ fe, findErr d (rname k) = fe := ⟨_, rfl⟩
  obtain ⟨B, hB⟩ : ∃ B, d.readBytes (rname k) = B := ⟨_, rfl⟩
  rw [hfe, hB] at hRd
  rw [hB] at hm
  have hca : R = if fe = 0 ∧ parseE B = 0 ∧ (parseR B).serial % 2 = k then parseR B else root0 := by rw [← hR]; unfold cand; rw [hfe, hB]
  obtain ⟨s, hs⟩ : ∃ s, rname k = s := ⟨_, rfl⟩
  rw [hs] at hRd ⊢
  obtain ⟨y0, y1, y2, y3, _⟩ := cells4 hz0
  have HV := Lib.hid hV
  have HVs := Lib.hid hVs
  have HR := Lib.hid hca
  have HRd := Lib.hid hRd
  have Hz1 := Lib.hid hz1
  have HBV := Lib.hid hBV
  clear hR hV hVs hca hRd hz1 hBV hfe hB hs hz0
  by_cases h0 : fe = 0
  · subst h0
    have hP := fun (w : World) (v : Value) (hv : Rd w v (bcells B)) (hc : CapOk v) => x6Parse_any w v B hv hc (by omega)
    unfold RpPost rootV at hP
    have hPl := parse_le B
    obtain ⟨P, hPe⟩ : ∃ P, parseR B = P := ⟨_, rfl⟩
    obtain ⟨pe, hpe⟩ : ∃ pe, parseE B = pe := ⟨_, rfl⟩
    rw [hPe, hpe] at HR hP
    rw [hPe] at hPl
    have HP := Lib.hid hP
    clear hP hPe hpe
    by_cases hp0 : pe = 0
    · subst hp0
      by_cases hsk : P.serial % 2 = k
      · have hRP : R = P := by rw [HR.out, if_pos ⟨rfl, rfl, hsk⟩]
        rw [hRP]
        have h2b : ((P.serial : Int) % 2 == (k : Int)) = true := by simp only [beq_iff_eq]; omega
        have h2c : ((P.serial : Int) % 2 != (k : Int)) = false := by simp only [bne, h2b, Bool.not_true]
        go_enter Tryz.func41, Tryz.ntmps41
        go_wp2_with fail
        rw [HV.out]
        go_upto_region 5 with first
          | (go_at_call 40; refine HRd.out.mono ?_; rintro e w2 ⟨a2, n2, c2, rfl, hr2, hb2, hcap2⟩; have Hz2 := Lib.hid ((hb2.block _ (blk_lt Hz1.out)).trans Hz1.out); have Hr2 := Lib.hid (And.intro hr2 hcap2); clear hr2 hcap2)
          | (go_at_call 74; refine (HP.out _ _ Hr2.out.1 Hr2.out.2).mono ?_; rintro e w3 ⟨a3, c3, rfl, hr3, hb3⟩; have Hz3 := Lib.hid ((hb3.block _ (blk_lt Hz2.out)).trans Hz2.out); have Hr3 := Lib.hid hr3; clear hr3)
        have hA := alloc_at w3 (.cells #[.int .i64 P.serial, .int .i64 P.tick, .int .i64 P.commit, .slice a3 P.blob.length c3] 35)
        have hbA : Below w3.heap.size w3 (w3.alloc (.cells #[.int .i64 P.serial, .int .i64 P.tick, .int .i64 P.commit, .slice a3 P.blob.length c3] 35)) := (Below.refl _ _).alloc (Nat.le_refl _) _
        obtain ⟨w4, hw4⟩ : ∃ y, w3.alloc (.cells #[.int .i64 P.serial, .int .i64 P.tick, .int .i64 P.commit, .slice a3 P.blob.length c3] 35) = y := ⟨_, rfl⟩
        rw [hw4] at hA hbA ⊢
        have hz4 := (hbA.block _ (blk_lt Hz3.out)).trans Hz3.out
        have hr4 := (Upd.ofBelow (fp := noFp) hbA).row Hr3.out (fun _ _ h => h)
        have s2 := hb2.size
        have s3 := hb3.size
        have s4 := hbA.size
        have hB4 : Below w.heap.size w w4 := ((HBV.out.trans (hb2.mono HBV.out.size)).trans (hb3.mono (Nat.le_trans HBV.out.size s2))).trans (hbA.mono (Nat.le_trans (Nat.le_trans HBV.out.size s2) s3))
        have hV := HVs.out
        have H4 := Lib.hid (And.intro hr4 hB4)
        obtain ⟨p0, p1, p2, p3, _⟩ := cells4 hA
        obtain ⟨q0, q1, q2, q3, q4, q5, q6, q7⟩ := cells4 hz4
        clear hA hbA hw4 hz4 hr4 hB4 hb2 hb3
        go_wp2_with fail
        have hU := setCell4_upd (w := w4) (b := w.heap.size + 1) (.int .i64 P.serial) (.int .i64 P.tick) (.int .i64 P.commit) (.slice a3 P.blob.length c3)
        have hrow := hU.row H4.out.1 (fun g hg e => by have h1 := row_from Hr3.out hg; omega)
        exact bodyPost_ret (v := .agg #[.int .i64 P.serial, .int .i64 P.tick, .int .i64 P.commit, .slice a3 P.blob.length c3]) (by simp [results, Tryz.results41, go_sem, q0, q1, q2, q3, q4, q5, q6, q7]) rfl ⟨a3, c3, rfl, ownsRow_from hrow (fun g hg => by have h1 := row_from Hr3.out hg; omega), below4W (b := w.heap.size + 1) H4.out.2 (by omega) _ _ _ _⟩
      · have hRP : R = root0 := by rw [HR.out, if_neg (fun hc => hsk hc.2.2)]
        have h2b : ((P.serial : Int) % 2 == (k : Int)) = false := by simp only [beq_eq_false_iff_ne, ne_eq]; omega
        have h2c : ((P.serial : Int) % 2 != (k : Int)) = true := by simp only [bne, h2b, Bool.not_false]
        go_enter Tryz.func41, Tryz.ntmps41
        go_wp2_with fail
        rw [HV.out]
        go_upto_region 5 with first
          | (go_at_call 40; refine HRd.out.mono ?_; rintro e w2 ⟨a2, n2, c2, rfl, hr2, hb2, hcap2⟩; have Hz2 := Lib.hid ((hb2.block _ (blk_lt Hz1.out)).trans Hz1.out); have Hr2 := Lib.hid (And.intro hr2 hcap2); clear hr2 hcap2)
          | (go_at_call 74; refine (HP.out _ _ Hr2.out.1 Hr2.out.2).mono ?_; rintro e w3 ⟨a3, c3, rfl, hr3, hb3⟩; have Hz3 := Lib.hid ((hb3.block _ (blk_lt Hz2.out)).trans Hz2.out); have Hr3 := Lib.hid hr3; clear hr3)
        have hA := alloc_at w3 (.cells #[.int .i64 P.serial, .int .i64 P.tick, .int .i64 P.commit, .slice a3 P.blob.length c3] 35)
        have hbA : Below w3.heap.size w3 (w3.alloc (.cells #[.int .i64 P.serial, .int .i64 P.tick, .int .i64 P.commit, .slice a3 P.blob.length c3] 35)) := (Below.refl _ _).alloc (Nat.le_refl _) _
        obtain ⟨w4, hw4⟩ : ∃ y, w3.alloc (.cells #[.int .i64 P.serial, .int .i64 P.tick, .int .i64 P.commit, .slice a3 P.blob.length c3] 35) = y := ⟨_, rfl⟩
        rw [hw4] at hA hbA ⊢
        have hz4 := (hbA.block _ (blk_lt Hz3.out)).trans Hz3.out
        have hr4 := (Upd.ofBelow (fp := noFp) hbA).row Hr3.out (fun _ _ h => h)
        have s2 := hb2.size
        have s3 := hb3.size
        have s4 := hbA.size
        have hB4 : Below w.heap.size w w4 := ((HBV.out.trans (hb2.mono HBV.out.size)).trans (hb3.mono (Nat.le_trans HBV.out.size s2))).trans (hbA.mono (Nat.le_trans (Nat.le_trans HBV.out.size s2) s3))
        have hV := HVs.out
        have H4 := Lib.hid (And.intro hr4 hB4)
        obtain ⟨p0, p1, p2, p3, _⟩ := cells4 hA
        obtain ⟨q0, q1, q2, q3, q4, q5, q6, q7⟩ := cells4 hz4
        clear hA hbA hw4 hz4 hr4 hB4 hb2 hb3
        go_wp2_with fail
        exact bodyPost_ret (v := .agg #[.int .i64 0, .int .i64 0, .int .i64 0, .slice Option.none 0 0]) (by simp [results, Tryz.results41, go_sem, q0, q1, q2, q3, q4, q5, q6, q7]) rfl (OnePost.none hRP (below4W (b := w.heap.size + 1) H4.out.2 (by omega) _ _ _ _))
    · have hRP : R = root0 := by rw [HR.out, if_neg (fun hc => hp0 hc.2.1)]
      have b1 : (pe != 0) = true := by simpa using hp0
      go_enter Tryz.func41, Tryz.ntmps41
      go_wp2_with fail
      rw [HV.out]
      go_upto_region 5 with first
        | (go_at_call 40; refine HRd.out.mono ?_; rintro e w2 ⟨a2, n2, c2, rfl, hr2, hb2, hcap2⟩; have Hz2 := Lib.hid ((hb2.block _ (blk_lt Hz1.out)).trans Hz1.out); have Hr2 := Lib.hid (And.intro hr2 hcap2); clear hr2 hcap2)
        | (go_at_call 74; refine (HP.out _ _ Hr2.out.1 Hr2.out.2).mono ?_; rintro e w3 ⟨a3, c3, rfl, hr3, hb3⟩; have Hz3 := Lib.hid ((hb3.block _ (blk_lt Hz2.out)).trans Hz2.out); have Hr3 := Lib.hid hr3; clear hr3)
      have hA := alloc_at w3 (.cells #[.int .i64 P.serial, .int .i64 P.tick, .int .i64 P.commit, .slice a3 P.blob.length c3] 35)
      have hbA : Below w3.heap.size w3 (w3.alloc (.cells #[.int .i64 P.serial, .int .i64 P.tick, .int .i64 P.commit, .slice a3 P.blob.length c3] 35)) := (Below.refl _ _).alloc (Nat.le_refl _) _
      obtain ⟨w4, hw4⟩ : ∃ y, w3.alloc (.cells #[.int .i64 P.serial, .int .i64 P.tick, .int .i64 P.commit, .slice a3 P.blob.length c3] 35) = y := ⟨_, rfl⟩
      rw [hw4] at hA hbA ⊢
      have hz4 := (hbA.block _ (blk_lt Hz3.out)).trans Hz3.out
      have hr4 := (Upd.ofBelow (fp := noFp) hbA).row Hr3.out (fun _ _ h => h)
      have s2 := hb2.size
      have s3 := hb3.size
      have s4 := hbA.size
      have hB4 : Below w.heap.size w w4 := ((HBV.out.trans (hb2.mono HBV.out.size)).trans (hb3.mono (Nat.le_trans HBV.out.size s2))).trans (hbA.mono (Nat.le_trans (Nat.le_trans HBV.out.size s2) s3))
      have hV := HVs.out
      have H4 := Lib.hid (And.intro hr4 hB4)
      obtain ⟨p0, p1, p2, p3, _⟩ := cells4 hA
      obtain ⟨q0, q1, q2, q3, q4, q5, q6, q7⟩ := cells4 hz4
      clear hA hbA hw4 hz4 hr4 hB4 hb2 hb3
      go_wp2_with fail
      exact bodyPost_ret (v := .agg #[.int .i64 0, .int .i64 0, .int .i64 0, .slice Option.none 0 0]) (by simp [results, Tryz.results41, go_sem, q0, q1, q2, q3, q4, q5, q6, q7]) rfl (OnePost.none hRP (below4W (b := w.heap.size + 1) H4.out.2 (by omega) _ _ _ _))
  · have hRP : R = root0 := by rw [HR.out, if_neg (fun hc => h0 hc.1)]
    have b1 : (fe != 0) = true := by simpa using h0
    go_enter Tryz.func41, Tryz.ntmps41
    go_wp2_with fail
    rw [HV.out]
    go_wp2_with (go_at_call 40; refine HRd.out.mono ?_; rintro e w2 ⟨a2, n2, c2, rfl, hr2, hb2, hcap2⟩; obtain ⟨q0, q1, q2, q3, q4, q5, q6, q7⟩ := cells4 ((hb2.block _ (blk_lt Hz1.out)).trans Hz1.out))
    exact bodyPost_ret (v := .agg #[.int .i64 0, .int .i64 0, .int .i64 0, .slice Option.none 0 0]) (by simp [results, Tryz.results41, go_sem, q0, q1, q2, q3, q4, q5, q6, q7]) rfl (OnePost.none hRP (below4W (HBV.out.trans (hb2.mono HBV.out.size)) (by omega) _ _ _ _))
end Go.Proofs.YtkacgmbinkoojaaGreatDoor

/-
  RootsPlays: the document's Read, region 4: two roots read, two boxes made, in any order (printed by wip/gen/gen_rp2a.py).
-/
namespace Go.Proofs.YtkacgmbinkoojaaGreatDoor
open Go.RowKit Go.Maps Go.MapKept
set_option linter.unusedSimpArgs false
set_option linter.unusedVariables false
/-- the region of a number in a piece of code. -/
def findR (n : Nat) : Code → Option Code
  | .region k o b => bif Nat.beq k n then some (.region k o b) else none
  | .seq a b => match findR n a with | some c => some c | none => findR n b
  | .cond _ a b => match findR n a with | some c => some c | none => findR n b
  | .block _ a => findR n a
  | .loop a => findR n a
  | _ => none
def regOf (f : Func) (n : Nat) : Code := match f.body with | some c => (findR n c).getD .skip | none => .skip
def opsOf : Code → Array Oper
  | .region _ o _ => o
  | _ => #[]
theorem wpAnyH_at {P : Program} {md : Region.Mode} {ops : Array Oper} {Q : Exit → Act → World → Prop} {S : World → Prop} {f f' : Nat} {l l' : Array Bool} {a : Act} {w : World} (hf : f = f') (hl : l = l') (h : wpAnyH P md ops Q S f' l' a w) : wpAnyH P md ops Q S f l a w := by
  subst hf hl
  exact h
theorem set4_old {w : World} {A B : Nat} {o : Obj} (h : w.heap[B]? = some o) (hAB : A ≠ B) (x y z u : Value) : ((((w.setCell ⟨A, 0, none⟩ x).setCell ⟨A, 1, none⟩ y).setCell ⟨A, 2, none⟩ z).setCell ⟨A, 3, none⟩ u).heap[B]? = some o :=
  setCell_old (setCell_old (setCell_old (setCell_old h (Ne.symm hAB) 0 x) (Ne.symm hAB) 1 y) (Ne.symm hAB) 2 z) (Ne.symm hAB) 3 u
set_option maxRecDepth 100000 in
set_option maxHeartbeats 60000000 in
theorem x6_reg4 (v : World) (bD : Nat) (m l : Int) (a : Option Addr) (n c : Nat) (dn : Bool) (R0 R1 : ARoot) (Q : Exit → Act → World → Prop)
    (hz : v.heap[bD]? = some (.cells #[.int .i64 m, .slice a n c, .int .i64 l, .bool dn] 29 (0, 0)))
    (H0 : ∀ wX, Below v.drew.heap.size v.drew wX → Calls Tryz.prog 41 #[.agg #[.int .i64 m, .slice a n c, .int .i64 l, .bool dn], .string ⟨#[114, 111, 111, 116, 48]⟩, .int .i64 0] wX (OnePost R0 wX))
    (H1 : ∀ wX, Below v.drew.heap.size v.drew wX → Calls Tryz.prog 41 #[.agg #[.int .i64 m, .slice a n c, .int .i64 l, .bool dn], .string ⟨#[114, 111, 111, 116, 49]⟩, .int .i64 1] wX (OnePost R1 wX))
    (t0 t2 t3 t4 t5 t6 t7 t8 t9 t10 t11 t12 t13 t14 t15 t16 t17 t18 t19 t20 t21 t22 t23 t24 t25 t26 t27 t28 t29 t30 t31 t32 t33 t34 t35 : Value)
    (hP : ∀ c (a : Act) (i : Nat) v w', Q (.panic c) (a.put (some i) v) w' → Q (.panic c) a w')
    (hN : ∀ (v' : World) (a0 a1 : Option Addr) (c0 c1 A B : Nat), Below v.drew.heap.size v.drew v' → v'.ownsRow v.drew.heap.size 5 1 (.slice a0 R0.blob.length c0) R0.blob.length (bcells R0.blob) → v'.ownsRow v.drew.heap.size 5 1 (.slice a1 R1.blob.length c1) R1.blob.length (bcells R1.blob) →
      (∀ g, (Value.slice a0 R0.blob.length c0).ownBlock = some g → g ≠ A) → (∀ g, (Value.slice a1 R1.blob.length c1).ownBlock = some g → g ≠ A) → v.drew.heap.size ≤ A → v.drew.heap.size ≤ B → A ≠ B → v'.heap[A]? = some (.cells #[.int .i64 R0.serial, .int .i64 R0.tick, .int .i64 R0.commit, .slice a0 R0.blob.length c0] 35 (0, 0)) → v'.heap[B]? = some (.cells #[.int .i64 R1.serial, .int .i64 R1.tick, .int .i64 R1.commit, .slice a1 R1.blob.length c1] 35 (0, 0)) → Q .normal { tmps := #[t0, .pointer (some ⟨bD, 0, none⟩), t2, t3, t4, t5, t6, .pointer (some ⟨A, 0, none⟩), .pointer (some ⟨B, 0, none⟩), t9, t10, t11, t12, t13, t14, t15, t16, t17, t18, t19, t20, t21, .agg #[.int .i64 m, .slice a n c, .int .i64 l, .bool dn], .agg #[.int .i64 R0.serial, .int .i64 R0.tick, .int .i64 R0.commit, .slice a0 R0.blob.length c0], .agg #[.int .i64 m, .slice a n c, .int .i64 l, .bool dn], .agg #[.int .i64 R1.serial, .int .i64 R1.tick, .int .i64 R1.commit, .slice a1 R1.blob.length c1], t26, t27, t28, t29, t30, t31, t32, t33, t34, t35], defers := [] } v') :
    (Code.region 4 (opsOf (regOf Tryz.f10 4)) true).wp Tryz.prog Q { tmps := #[t0, .pointer (some ⟨bD, 0, none⟩), t2, t3, t4, t5, t6, t7, t8, t9, t10, t11, t12, t13, t14, t15, t16, t17, t18, t19, t20, t21, t22, t23, t24, t25, t26, t27, t28, t29, t30, t31, t32, t33, t34, t35], defers := [] } v := by
  have hzV : v.drew.heap[bD]? = some (.cells #[.int .i64 m, .slice a n c, .int .i64 l, .bool dn] 29 (0, 0)) := hz
  refine wp_region_held_drew (S := (fun w' => w'.cell? ⟨bD, 0, none⟩ = some (.int .i64 m) ∧ w'.cell? ⟨bD, 1, none⟩ = some (.slice a n c) ∧ w'.cell? ⟨bD, 2, none⟩ = some (.int .i64 l) ∧ w'.cell? ⟨bD, 3, none⟩ = some (.bool dn))) (by kernel_rfl) ?_ (fun hHeld => ?_)
  · obtain ⟨y0, y1, y2, y3, _⟩ := cells4 hzV
    exact ⟨y0, y1, y2, y3⟩
  obtain ⟨V, hV⟩ : ∃ V, v.drew = V := ⟨_, rfl⟩
  rw [hV] at hzV H0 H1 hN hHeld ⊢
  clear hz hV
  have hS : ∀ v', Below V.heap.size V v' → (fun w' => w'.cell? ⟨bD, 0, none⟩ = some (.int .i64 m) ∧ w'.cell? ⟨bD, 1, none⟩ = some (.slice a n c) ∧ w'.cell? ⟨bD, 2, none⟩ = some (.int .i64 l) ∧ w'.cell? ⟨bD, 3, none⟩ = some (.bool dn)) v' := by
    intro v' hb
    obtain ⟨y0, y1, y2, y3, _⟩ := cells4 ((hb.block _ (blk_lt hzV)).trans hzV)
    exact ⟨y0, y1, y2, y3⟩
  have HS := Lib.hid hS
  have HP := Lib.hid hP
  have HN := Lib.hid hN
  have K0 := Lib.hid H0
  have K1 := Lib.hid H1
  have HzV := Lib.hid hzV
  clear hS hP hN H0 H1 hzV hHeld
  obtain ⟨OPS, hO⟩ : ∃ o, o = (opsOf (regOf Tryz.f10 4)) := ⟨_, rfl⟩
  rw [← hO]
  simp only [regOf, opsOf, Tryz.f10, findR, Nat.beq, cond_true, cond_false, Option.getD_some, List.append] at hO
  have hN1345 : ∀ (v' : World) (hb : Below V.heap.size V v') (a0 : Option Addr) (c0 : Nat) (r0 : v'.ownsRow V.heap.size 5 1 (.slice a0 R0.blob.length c0) R0.blob.length (bcells R0.blob)) (a1 : Option Addr) (c1 : Nat) (r1 : v'.ownsRow V.heap.size 5 1 (.slice a1 R1.blob.length c1) R1.blob.length (bcells R1.blob)) (A : Nat) (hA : V.heap.size ≤ A) (zA : v'.heap[A]? = some (.cells #[.int .i64 0, .int .i64 0, .int .i64 0, .slice Option.none 0 0] 35)) (B : Nat) (hB : V.heap.size ≤ B) (zB : v'.heap[B]? = some (.cells #[.int .i64 0, .int .i64 0, .int .i64 0, .slice Option.none 0 0] 35)) (hAB : A ≠ B) (e0A : ∀ g, (Value.slice a0 R0.blob.length c0).ownBlock = some g → g ≠ A) (e0B : ∀ g, (Value.slice a0 R0.blob.length c0).ownBlock = some g → g ≠ B) (e1A : ∀ g, (Value.slice a1 R1.blob.length c1).ownBlock = some g → g ≠ A) (e1B : ∀ g, (Value.slice a1 R1.blob.length c1).ownBlock = some g → g ≠ B), wpAnyH Tryz.prog .any OPS Q (fun w' => w'.cell? ⟨bD, 0, none⟩ = some (.int .i64 m) ∧ w'.cell? ⟨bD, 1, none⟩ = some (.slice a n c) ∧ w'.cell? ⟨bD, 2, none⟩ = some (.int .i64 l) ∧ w'.cell? ⟨bD, 3, none⟩ = some (.bool dn)) 2 #[true, true, true, true, true, true, false, false] { tmps := #[t0, .pointer (some ⟨bD, 0, none⟩), t2, t3, t4, t5, t6, .pointer (some ⟨A, 0, none⟩), .pointer (some ⟨B, 0, none⟩), t9, t10, t11, t12, t13, t14, t15, t16, t17, t18, t19, t20, t21, .agg #[.int .i64 m, .slice a n c, .int .i64 l, .bool dn], .agg #[.int .i64 R0.serial, .int .i64 R0.tick, .int .i64 R0.commit, .slice a0 R0.blob.length c0], .agg #[.int .i64 m, .slice a n c, .int .i64 l, .bool dn], .agg #[.int .i64 R1.serial, .int .i64 R1.tick, .int .i64 R1.commit, .slice a1 R1.blob.length c1], t26, t27, t28, t29, t30, t31, t32, t33, t34, t35], defers := [] } v' := by
    intro v' hb a0 c0 r0 a1 c1 r1 A hA zA B hB zB hAB e0A e0B e1A e1B
    subst hO
    have hHeld := HS.out _ hb
    obtain ⟨p0, p1, p2, p3, q0, q1, q2, q3⟩ := cells4 zA
    refine wpAnyH_ready (rs := [6]) (by kernel_rfl) (by simp) (AllReadyH.cons rfl (fun K hK => ?_) AllReadyH.nil)
    go_simp
    have hb2 := below4W hb hA (.int .i64 R0.serial) (.int .i64 R0.tick) (.int .i64 R0.commit) (.slice a0 R0.blob.length c0)
    refine hK.out _ _ (HS.out _ hb2) (fun _ => ?_)
    clear hK K hHeld p0 p1 p2 p3 q0 q1 q2 q3
    (try simp only [Act.put, List.getElem_toArray, List.getElem_cons_zero, List.getElem_cons_succ, List.setIfInBounds_toArray, List.set_cons_zero, List.set_cons_succ])
    have zA2 := setCell4_at zA (.int .i64 R0.serial) (.int .i64 R0.tick) (.int .i64 R0.commit) (.slice a0 R0.blob.length c0)
    have zB2 := set4_old zB hAB (.int .i64 R0.serial) (.int .i64 R0.tick) (.int .i64 R0.commit) (.slice a0 R0.blob.length c0)
    have hU := setCell4_upd (w := v') (b := A) (.int .i64 R0.serial) (.int .i64 R0.tick) (.int .i64 R0.commit) (.slice a0 R0.blob.length c0)
    have r02 := hU.row r0 e0A
    have r12 := hU.row r1 e1A
    generalize hv2 : (((v'.setCell ⟨A, 0, none⟩ (.int .i64 R0.serial)).setCell ⟨A, 1, none⟩ (.int .i64 R0.tick)).setCell ⟨A, 2, none⟩ (.int .i64 R0.commit)).setCell ⟨A, 3, none⟩ (.slice a0 R0.blob.length c0) = v2 at *
    have hHeld := HS.out _ hb2
    obtain ⟨p0, p1, p2, p3, q0, q1, q2, q3⟩ := cells4 zB2
    refine wpAnyH_ready (rs := [7]) (by kernel_rfl) (by simp) (AllReadyH.cons rfl (fun K hK => ?_) AllReadyH.nil)
    go_simp
    have hb3 := below4W hb2 hB (.int .i64 R1.serial) (.int .i64 R1.tick) (.int .i64 R1.commit) (.slice a1 R1.blob.length c1)
    refine hK.out _ _ (HS.out _ hb3) (fun _ => ?_)
    clear hK K hHeld p0 p1 p2 p3 q0 q1 q2 q3
    (try simp only [Act.put, List.getElem_toArray, List.getElem_cons_zero, List.getElem_cons_succ, List.setIfInBounds_toArray, List.set_cons_zero, List.set_cons_succ])
    have zA3 := set4_old zA2 (Ne.symm hAB) (.int .i64 R1.serial) (.int .i64 R1.tick) (.int .i64 R1.commit) (.slice a1 R1.blob.length c1)
    have zB3 := setCell4_at zB2 (.int .i64 R1.serial) (.int .i64 R1.tick) (.int .i64 R1.commit) (.slice a1 R1.blob.length c1)
    have hU3 := setCell4_upd (w := v2) (b := B) (.int .i64 R1.serial) (.int .i64 R1.tick) (.int .i64 R1.commit) (.slice a1 R1.blob.length c1)
    refine wpAnyH_done (by kernel_rfl) ?_ _
    exact HN.out _ a0 a1 c0 c1 A B hb3 (hU3.row r02 e0B) (hU3.row r12 e1B) e0A e1A hA hB hAB zA3 zB3
  have HhN1345 := Lib.hid hN1345
  clear hN1345
  have hN134 : ∀ (v' : World) (hb : Below V.heap.size V v') (a0 : Option Addr) (c0 : Nat) (r0 : v'.ownsRow V.heap.size 5 1 (.slice a0 R0.blob.length c0) R0.blob.length (bcells R0.blob)) (a1 : Option Addr) (c1 : Nat) (r1 : v'.ownsRow V.heap.size 5 1 (.slice a1 R1.blob.length c1) R1.blob.length (bcells R1.blob)) (A : Nat) (hA : V.heap.size ≤ A) (zA : v'.heap[A]? = some (.cells #[.int .i64 0, .int .i64 0, .int .i64 0, .slice Option.none 0 0] 35)) (e0A : ∀ g, (Value.slice a0 R0.blob.length c0).ownBlock = some g → g ≠ A) (e1A : ∀ g, (Value.slice a1 R1.blob.length c1).ownBlock = some g → g ≠ A), wpAnyH Tryz.prog .any OPS Q (fun w' => w'.cell? ⟨bD, 0, none⟩ = some (.int .i64 m) ∧ w'.cell? ⟨bD, 1, none⟩ = some (.slice a n c) ∧ w'.cell? ⟨bD, 2, none⟩ = some (.int .i64 l) ∧ w'.cell? ⟨bD, 3, none⟩ = some (.bool dn)) 3 #[true, true, true, true, true, false, false, false] { tmps := #[t0, .pointer (some ⟨bD, 0, none⟩), t2, t3, t4, t5, t6, .pointer (some ⟨A, 0, none⟩), t8, t9, t10, t11, t12, t13, t14, t15, t16, t17, t18, t19, t20, t21, .agg #[.int .i64 m, .slice a n c, .int .i64 l, .bool dn], .agg #[.int .i64 R0.serial, .int .i64 R0.tick, .int .i64 R0.commit, .slice a0 R0.blob.length c0], .agg #[.int .i64 m, .slice a n c, .int .i64 l, .bool dn], .agg #[.int .i64 R1.serial, .int .i64 R1.tick, .int .i64 R1.commit, .slice a1 R1.blob.length c1], t26, t27, t28, t29, t30, t31, t32, t33, t34, t35], defers := [] } v' := by
    intro v' hb a0 c0 r0 a1 c1 r1 A hA zA e0A e1A
    subst hO
    have hHeld := HS.out _ hb
    refine wpAnyH_ready (rs := [5]) (by kernel_rfl) (by simp) (AllReadyH.cons rfl (fun K hK => ?_) AllReadyH.nil)
    go_simp
    have hx : Below v'.heap.size v' (v'.alloc (.cells #[.int .i64 0, .int .i64 0, .int .i64 0, .slice Option.none 0 0] 35)) := (Below.refl _ _).alloc (Nat.le_refl _) _
    have hb2 := hb.trans (hx.mono hb.size)
    refine hK.out _ _ (HS.out _ hb2) (fun _ => ?_)
    clear hK K
    (try simp only [Act.put, List.getElem_toArray, List.getElem_cons_zero, List.getElem_cons_succ, List.setIfInBounds_toArray, List.set_cons_zero, List.set_cons_succ])
    refine wpAnyH_at (f' := 2) (l' := #[true, true, true, true, true, true, false, false]) (by kernel_rfl) (by kernel_rfl) ?_
    exact HhN1345.out _ hb2 a0 c0 ((Upd.ofBelow (fp := noFp) hx).row r0 (fun _ _ h => h)) a1 c1 ((Upd.ofBelow (fp := noFp) hx).row r1 (fun _ _ h => h)) A hA ((hx.block _ (blk_lt zA)).trans zA) v'.heap.size hb.size (alloc_at v' (.cells #[.int .i64 0, .int .i64 0, .int .i64 0, .slice Option.none 0 0] 35)) (by have := blk_lt zA; omega) e0A (fun g hg e => by have h1 := row_lt r0 hg; omega) e1A (fun g hg e => by have h1 := row_lt r1 hg; omega)
  have HhN134 := Lib.hid hN134
  clear hN134
  have hN135 : ∀ (v' : World) (hb : Below V.heap.size V v') (a0 : Option Addr) (c0 : Nat) (r0 : v'.ownsRow V.heap.size 5 1 (.slice a0 R0.blob.length c0) R0.blob.length (bcells R0.blob)) (a1 : Option Addr) (c1 : Nat) (r1 : v'.ownsRow V.heap.size 5 1 (.slice a1 R1.blob.length c1) R1.blob.length (bcells R1.blob)) (B : Nat) (hB : V.heap.size ≤ B) (zB : v'.heap[B]? = some (.cells #[.int .i64 0, .int .i64 0, .int .i64 0, .slice Option.none 0 0] 35)) (e0B : ∀ g, (Value.slice a0 R0.blob.length c0).ownBlock = some g → g ≠ B) (e1B : ∀ g, (Value.slice a1 R1.blob.length c1).ownBlock = some g → g ≠ B), wpAnyH Tryz.prog .any OPS Q (fun w' => w'.cell? ⟨bD, 0, none⟩ = some (.int .i64 m) ∧ w'.cell? ⟨bD, 1, none⟩ = some (.slice a n c) ∧ w'.cell? ⟨bD, 2, none⟩ = some (.int .i64 l) ∧ w'.cell? ⟨bD, 3, none⟩ = some (.bool dn)) 3 #[true, true, true, true, false, true, false, false] { tmps := #[t0, .pointer (some ⟨bD, 0, none⟩), t2, t3, t4, t5, t6, t7, .pointer (some ⟨B, 0, none⟩), t9, t10, t11, t12, t13, t14, t15, t16, t17, t18, t19, t20, t21, .agg #[.int .i64 m, .slice a n c, .int .i64 l, .bool dn], .agg #[.int .i64 R0.serial, .int .i64 R0.tick, .int .i64 R0.commit, .slice a0 R0.blob.length c0], .agg #[.int .i64 m, .slice a n c, .int .i64 l, .bool dn], .agg #[.int .i64 R1.serial, .int .i64 R1.tick, .int .i64 R1.commit, .slice a1 R1.blob.length c1], t26, t27, t28, t29, t30, t31, t32, t33, t34, t35], defers := [] } v' := by
    intro v' hb a0 c0 r0 a1 c1 r1 B hB zB e0B e1B
    subst hO
    have hHeld := HS.out _ hb
    refine wpAnyH_ready (rs := [4]) (by kernel_rfl) (by simp) (AllReadyH.cons rfl (fun K hK => ?_) AllReadyH.nil)
    go_simp
    have hx : Below v'.heap.size v' (v'.alloc (.cells #[.int .i64 0, .int .i64 0, .int .i64 0, .slice Option.none 0 0] 35)) := (Below.refl _ _).alloc (Nat.le_refl _) _
    have hb2 := hb.trans (hx.mono hb.size)
    refine hK.out _ _ (HS.out _ hb2) (fun _ => ?_)
    clear hK K
    (try simp only [Act.put, List.getElem_toArray, List.getElem_cons_zero, List.getElem_cons_succ, List.setIfInBounds_toArray, List.set_cons_zero, List.set_cons_succ])
    refine wpAnyH_at (f' := 2) (l' := #[true, true, true, true, true, true, false, false]) (by kernel_rfl) (by kernel_rfl) ?_
    exact HhN1345.out _ hb2 a0 c0 ((Upd.ofBelow (fp := noFp) hx).row r0 (fun _ _ h => h)) a1 c1 ((Upd.ofBelow (fp := noFp) hx).row r1 (fun _ _ h => h)) v'.heap.size hb.size (alloc_at v' (.cells #[.int .i64 0, .int .i64 0, .int .i64 0, .slice Option.none 0 0] 35)) B hB ((hx.block _ (blk_lt zB)).trans zB) (by have := blk_lt zB; omega) (fun g hg e => by have h1 := row_lt r0 hg; omega) e0B (fun g hg e => by have h1 := row_lt r1 hg; omega) e1B
  have HhN135 := Lib.hid hN135
  clear hN135
  have hN145 : ∀ (v' : World) (hb : Below V.heap.size V v') (a0 : Option Addr) (c0 : Nat) (r0 : v'.ownsRow V.heap.size 5 1 (.slice a0 R0.blob.length c0) R0.blob.length (bcells R0.blob)) (A : Nat) (hA : V.heap.size ≤ A) (zA : v'.heap[A]? = some (.cells #[.int .i64 0, .int .i64 0, .int .i64 0, .slice Option.none 0 0] 35)) (B : Nat) (hB : V.heap.size ≤ B) (zB : v'.heap[B]? = some (.cells #[.int .i64 0, .int .i64 0, .int .i64 0, .slice Option.none 0 0] 35)) (hAB : A ≠ B) (e0A : ∀ g, (Value.slice a0 R0.blob.length c0).ownBlock = some g → g ≠ A) (e0B : ∀ g, (Value.slice a0 R0.blob.length c0).ownBlock = some g → g ≠ B), wpAnyH Tryz.prog .any OPS Q (fun w' => w'.cell? ⟨bD, 0, none⟩ = some (.int .i64 m) ∧ w'.cell? ⟨bD, 1, none⟩ = some (.slice a n c) ∧ w'.cell? ⟨bD, 2, none⟩ = some (.int .i64 l) ∧ w'.cell? ⟨bD, 3, none⟩ = some (.bool dn)) 3 #[true, true, true, false, true, true, false, false] { tmps := #[t0, .pointer (some ⟨bD, 0, none⟩), t2, t3, t4, t5, t6, .pointer (some ⟨A, 0, none⟩), .pointer (some ⟨B, 0, none⟩), t9, t10, t11, t12, t13, t14, t15, t16, t17, t18, t19, t20, t21, .agg #[.int .i64 m, .slice a n c, .int .i64 l, .bool dn], .agg #[.int .i64 R0.serial, .int .i64 R0.tick, .int .i64 R0.commit, .slice a0 R0.blob.length c0], .agg #[.int .i64 m, .slice a n c, .int .i64 l, .bool dn], t25, t26, t27, t28, t29, t30, t31, t32, t33, t34, t35], defers := [] } v' := by
    intro v' hb a0 c0 r0 A hA zA B hB zB hAB e0A e0B
    subst hO
    have hHeld := HS.out _ hb
    refine wpAnyH_ready (rs := [3]) (by kernel_rfl) (by simp) (AllReadyH.cons rfl (fun K hK => ?_) AllReadyH.nil)
    go_simp
    refine (K1.out _ hb).mono ?_
    rintro e wk ⟨a1, c1, rfl, hrk, hx⟩
    have hb2 := hb.trans (hx.mono hb.size)
    have r1n := ownsRow_from hrk (fun g hg => Nat.le_trans hb.size (row_from hrk hg))
    refine hK.out _ _ (HS.out _ hb2) (fun _ => ?_)
    clear hK K
    (try simp only [Act.put, List.getElem_toArray, List.getElem_cons_zero, List.getElem_cons_succ, List.setIfInBounds_toArray, List.set_cons_zero, List.set_cons_succ])
    refine wpAnyH_at (f' := 2) (l' := #[true, true, true, true, true, true, false, false]) (by kernel_rfl) (by kernel_rfl) ?_
    exact HhN1345.out _ hb2 a0 c0 ((Upd.ofBelow (fp := noFp) hx).row r0 (fun _ _ h => h)) a1 c1 r1n A hA ((hx.block _ (blk_lt zA)).trans zA) B hB ((hx.block _ (blk_lt zB)).trans zB) hAB e0A e0B (fun g hg e => by have h1 := row_from hrk hg; have h2 := blk_lt zA; omega) (fun g hg e => by have h1 := row_from hrk hg; have h2 := blk_lt zB; omega)
  have HhN145 := Lib.hid hN145
  clear hN145
  have hN13 : ∀ (v' : World) (hb : Below V.heap.size V v') (a0 : Option Addr) (c0 : Nat) (r0 : v'.ownsRow V.heap.size 5 1 (.slice a0 R0.blob.length c0) R0.blob.length (bcells R0.blob)) (a1 : Option Addr) (c1 : Nat) (r1 : v'.ownsRow V.heap.size 5 1 (.slice a1 R1.blob.length c1) R1.blob.length (bcells R1.blob)), wpAnyH Tryz.prog .any OPS Q (fun w' => w'.cell? ⟨bD, 0, none⟩ = some (.int .i64 m) ∧ w'.cell? ⟨bD, 1, none⟩ = some (.slice a n c) ∧ w'.cell? ⟨bD, 2, none⟩ = some (.int .i64 l) ∧ w'.cell? ⟨bD, 3, none⟩ = some (.bool dn)) 4 #[true, true, true, true, false, false, false, false] { tmps := #[t0, .pointer (some ⟨bD, 0, none⟩), t2, t3, t4, t5, t6, t7, t8, t9, t10, t11, t12, t13, t14, t15, t16, t17, t18, t19, t20, t21, .agg #[.int .i64 m, .slice a n c, .int .i64 l, .bool dn], .agg #[.int .i64 R0.serial, .int .i64 R0.tick, .int .i64 R0.commit, .slice a0 R0.blob.length c0], .agg #[.int .i64 m, .slice a n c, .int .i64 l, .bool dn], .agg #[.int .i64 R1.serial, .int .i64 R1.tick, .int .i64 R1.commit, .slice a1 R1.blob.length c1], t26, t27, t28, t29, t30, t31, t32, t33, t34, t35], defers := [] } v' := by
    intro v' hb a0 c0 r0 a1 c1 r1
    subst hO
    have hHeld := HS.out _ hb
    refine wpAnyH_ready (rs := [4, 5]) (by kernel_rfl) (by simp) (AllReadyH.cons rfl (fun K hK => ?_) (AllReadyH.cons rfl (fun K hK => ?_) AllReadyH.nil))
    · go_simp
      have hx : Below v'.heap.size v' (v'.alloc (.cells #[.int .i64 0, .int .i64 0, .int .i64 0, .slice Option.none 0 0] 35)) := (Below.refl _ _).alloc (Nat.le_refl _) _
      have hb2 := hb.trans (hx.mono hb.size)
      refine hK.out _ _ (HS.out _ hb2) (fun _ => ?_)
      clear hK K
      (try simp only [Act.put, List.getElem_toArray, List.getElem_cons_zero, List.getElem_cons_succ, List.setIfInBounds_toArray, List.set_cons_zero, List.set_cons_succ])
      refine wpAnyH_at (f' := 3) (l' := #[true, true, true, true, true, false, false, false]) (by kernel_rfl) (by kernel_rfl) ?_
      exact HhN134.out _ hb2 a0 c0 ((Upd.ofBelow (fp := noFp) hx).row r0 (fun _ _ h => h)) a1 c1 ((Upd.ofBelow (fp := noFp) hx).row r1 (fun _ _ h => h)) v'.heap.size hb.size (alloc_at v' (.cells #[.int .i64 0, .int .i64 0, .int .i64 0, .slice Option.none 0 0] 35)) (fun g hg e => by have h1 := row_lt r0 hg; omega) (fun g hg e => by have h1 := row_lt r1 hg; omega)
    · go_simp
      have hx : Below v'.heap.size v' (v'.alloc (.cells #[.int .i64 0, .int .i64 0, .int .i64 0, .slice Option.none 0 0] 35)) := (Below.refl _ _).alloc (Nat.le_refl _) _
      have hb2 := hb.trans (hx.mono hb.size)
      refine hK.out _ _ (HS.out _ hb2) (fun _ => ?_)
      clear hK K
      (try simp only [Act.put, List.getElem_toArray, List.getElem_cons_zero, List.getElem_cons_succ, List.setIfInBounds_toArray, List.set_cons_zero, List.set_cons_succ])
      refine wpAnyH_at (f' := 3) (l' := #[true, true, true, true, false, true, false, false]) (by kernel_rfl) (by kernel_rfl) ?_
      exact HhN135.out _ hb2 a0 c0 ((Upd.ofBelow (fp := noFp) hx).row r0 (fun _ _ h => h)) a1 c1 ((Upd.ofBelow (fp := noFp) hx).row r1 (fun _ _ h => h)) v'.heap.size hb.size (alloc_at v' (.cells #[.int .i64 0, .int .i64 0, .int .i64 0, .slice Option.none 0 0] 35)) (fun g hg e => by have h1 := row_lt r0 hg; omega) (fun g hg e => by have h1 := row_lt r1 hg; omega)
  have HhN13 := Lib.hid hN13
  clear hN13
  have hN14 : ∀ (v' : World) (hb : Below V.heap.size V v') (a0 : Option Addr) (c0 : Nat) (r0 : v'.ownsRow V.heap.size 5 1 (.slice a0 R0.blob.length c0) R0.blob.length (bcells R0.blob)) (A : Nat) (hA : V.heap.size ≤ A) (zA : v'.heap[A]? = some (.cells #[.int .i64 0, .int .i64 0, .int .i64 0, .slice Option.none 0 0] 35)) (e0A : ∀ g, (Value.slice a0 R0.blob.length c0).ownBlock = some g → g ≠ A), wpAnyH Tryz.prog .any OPS Q (fun w' => w'.cell? ⟨bD, 0, none⟩ = some (.int .i64 m) ∧ w'.cell? ⟨bD, 1, none⟩ = some (.slice a n c) ∧ w'.cell? ⟨bD, 2, none⟩ = some (.int .i64 l) ∧ w'.cell? ⟨bD, 3, none⟩ = some (.bool dn)) 4 #[true, true, true, false, true, false, false, false] { tmps := #[t0, .pointer (some ⟨bD, 0, none⟩), t2, t3, t4, t5, t6, .pointer (some ⟨A, 0, none⟩), t8, t9, t10, t11, t12, t13, t14, t15, t16, t17, t18, t19, t20, t21, .agg #[.int .i64 m, .slice a n c, .int .i64 l, .bool dn], .agg #[.int .i64 R0.serial, .int .i64 R0.tick, .int .i64 R0.commit, .slice a0 R0.blob.length c0], .agg #[.int .i64 m, .slice a n c, .int .i64 l, .bool dn], t25, t26, t27, t28, t29, t30, t31, t32, t33, t34, t35], defers := [] } v' := by
    intro v' hb a0 c0 r0 A hA zA e0A
    subst hO
    have hHeld := HS.out _ hb
    refine wpAnyH_ready (rs := [3, 5]) (by kernel_rfl) (by simp) (AllReadyH.cons rfl (fun K hK => ?_) (AllReadyH.cons rfl (fun K hK => ?_) AllReadyH.nil))
    · go_simp
      refine (K1.out _ hb).mono ?_
      rintro e wk ⟨a1, c1, rfl, hrk, hx⟩
      have hb2 := hb.trans (hx.mono hb.size)
      have r1n := ownsRow_from hrk (fun g hg => Nat.le_trans hb.size (row_from hrk hg))
      refine hK.out _ _ (HS.out _ hb2) (fun _ => ?_)
      clear hK K
      (try simp only [Act.put, List.getElem_toArray, List.getElem_cons_zero, List.getElem_cons_succ, List.setIfInBounds_toArray, List.set_cons_zero, List.set_cons_succ])
      refine wpAnyH_at (f' := 3) (l' := #[true, true, true, true, true, false, false, false]) (by kernel_rfl) (by kernel_rfl) ?_
      exact HhN134.out _ hb2 a0 c0 ((Upd.ofBelow (fp := noFp) hx).row r0 (fun _ _ h => h)) a1 c1 r1n A hA ((hx.block _ (blk_lt zA)).trans zA) e0A (fun g hg e => by have h1 := row_from hrk hg; have h2 := blk_lt zA; omega)
    · go_simp
      have hx : Below v'.heap.size v' (v'.alloc (.cells #[.int .i64 0, .int .i64 0, .int .i64 0, .slice Option.none 0 0] 35)) := (Below.refl _ _).alloc (Nat.le_refl _) _
      have hb2 := hb.trans (hx.mono hb.size)
      refine hK.out _ _ (HS.out _ hb2) (fun _ => ?_)
      clear hK K
      (try simp only [Act.put, List.getElem_toArray, List.getElem_cons_zero, List.getElem_cons_succ, List.setIfInBounds_toArray, List.set_cons_zero, List.set_cons_succ])
      refine wpAnyH_at (f' := 3) (l' := #[true, true, true, false, true, true, false, false]) (by kernel_rfl) (by kernel_rfl) ?_
      exact HhN145.out _ hb2 a0 c0 ((Upd.ofBelow (fp := noFp) hx).row r0 (fun _ _ h => h)) A hA ((hx.block _ (blk_lt zA)).trans zA) v'.heap.size hb.size (alloc_at v' (.cells #[.int .i64 0, .int .i64 0, .int .i64 0, .slice Option.none 0 0] 35)) (by have := blk_lt zA; omega) e0A (fun g hg e => by have h1 := row_lt r0 hg; omega)
  have HhN14 := Lib.hid hN14
  clear hN14
  have hN15 : ∀ (v' : World) (hb : Below V.heap.size V v') (a0 : Option Addr) (c0 : Nat) (r0 : v'.ownsRow V.heap.size 5 1 (.slice a0 R0.blob.length c0) R0.blob.length (bcells R0.blob)) (B : Nat) (hB : V.heap.size ≤ B) (zB : v'.heap[B]? = some (.cells #[.int .i64 0, .int .i64 0, .int .i64 0, .slice Option.none 0 0] 35)) (e0B : ∀ g, (Value.slice a0 R0.blob.length c0).ownBlock = some g → g ≠ B), wpAnyH Tryz.prog .any OPS Q (fun w' => w'.cell? ⟨bD, 0, none⟩ = some (.int .i64 m) ∧ w'.cell? ⟨bD, 1, none⟩ = some (.slice a n c) ∧ w'.cell? ⟨bD, 2, none⟩ = some (.int .i64 l) ∧ w'.cell? ⟨bD, 3, none⟩ = some (.bool dn)) 4 #[true, true, true, false, false, true, false, false] { tmps := #[t0, .pointer (some ⟨bD, 0, none⟩), t2, t3, t4, t5, t6, t7, .pointer (some ⟨B, 0, none⟩), t9, t10, t11, t12, t13, t14, t15, t16, t17, t18, t19, t20, t21, .agg #[.int .i64 m, .slice a n c, .int .i64 l, .bool dn], .agg #[.int .i64 R0.serial, .int .i64 R0.tick, .int .i64 R0.commit, .slice a0 R0.blob.length c0], .agg #[.int .i64 m, .slice a n c, .int .i64 l, .bool dn], t25, t26, t27, t28, t29, t30, t31, t32, t33, t34, t35], defers := [] } v' := by
    intro v' hb a0 c0 r0 B hB zB e0B
    subst hO
    have hHeld := HS.out _ hb
    refine wpAnyH_ready (rs := [3, 4]) (by kernel_rfl) (by simp) (AllReadyH.cons rfl (fun K hK => ?_) (AllReadyH.cons rfl (fun K hK => ?_) AllReadyH.nil))
    · go_simp
      refine (K1.out _ hb).mono ?_
      rintro e wk ⟨a1, c1, rfl, hrk, hx⟩
      have hb2 := hb.trans (hx.mono hb.size)
      have r1n := ownsRow_from hrk (fun g hg => Nat.le_trans hb.size (row_from hrk hg))
      refine hK.out _ _ (HS.out _ hb2) (fun _ => ?_)
      clear hK K
      (try simp only [Act.put, List.getElem_toArray, List.getElem_cons_zero, List.getElem_cons_succ, List.setIfInBounds_toArray, List.set_cons_zero, List.set_cons_succ])
      refine wpAnyH_at (f' := 3) (l' := #[true, true, true, true, false, true, false, false]) (by kernel_rfl) (by kernel_rfl) ?_
      exact HhN135.out _ hb2 a0 c0 ((Upd.ofBelow (fp := noFp) hx).row r0 (fun _ _ h => h)) a1 c1 r1n B hB ((hx.block _ (blk_lt zB)).trans zB) e0B (fun g hg e => by have h1 := row_from hrk hg; have h2 := blk_lt zB; omega)
    · go_simp
      have hx : Below v'.heap.size v' (v'.alloc (.cells #[.int .i64 0, .int .i64 0, .int .i64 0, .slice Option.none 0 0] 35)) := (Below.refl _ _).alloc (Nat.le_refl _) _
      have hb2 := hb.trans (hx.mono hb.size)
      refine hK.out _ _ (HS.out _ hb2) (fun _ => ?_)
      clear hK K
      (try simp only [Act.put, List.getElem_toArray, List.getElem_cons_zero, List.getElem_cons_succ, List.setIfInBounds_toArray, List.set_cons_zero, List.set_cons_succ])
      refine wpAnyH_at (f' := 3) (l' := #[true, true, true, false, true, true, false, false]) (by kernel_rfl) (by kernel_rfl) ?_
      exact HhN145.out _ hb2 a0 c0 ((Upd.ofBelow (fp := noFp) hx).row r0 (fun _ _ h => h)) v'.heap.size hb.size (alloc_at v' (.cells #[.int .i64 0, .int .i64 0, .int .i64 0, .slice Option.none 0 0] 35)) B hB ((hx.block _ (blk_lt zB)).trans zB) (by have := blk_lt zB; omega) (fun g hg e => by have h1 := row_lt r0 hg; omega) e0B
  have HhN15 := Lib.hid hN15
  clear hN15
  have hN45 : ∀ (v' : World) (hb : Below V.heap.size V v') (A : Nat) (hA : V.heap.size ≤ A) (zA : v'.heap[A]? = some (.cells #[.int .i64 0, .int .i64 0, .int .i64 0, .slice Option.none 0 0] 35)) (B : Nat) (hB : V.heap.size ≤ B) (zB : v'.heap[B]? = some (.cells #[.int .i64 0, .int .i64 0, .int .i64 0, .slice Option.none 0 0] 35)) (hAB : A ≠ B), wpAnyH Tryz.prog .any OPS Q (fun w' => w'.cell? ⟨bD, 0, none⟩ = some (.int .i64 m) ∧ w'.cell? ⟨bD, 1, none⟩ = some (.slice a n c) ∧ w'.cell? ⟨bD, 2, none⟩ = some (.int .i64 l) ∧ w'.cell? ⟨bD, 3, none⟩ = some (.bool dn)) 4 #[true, false, true, false, true, true, false, false] { tmps := #[t0, .pointer (some ⟨bD, 0, none⟩), t2, t3, t4, t5, t6, .pointer (some ⟨A, 0, none⟩), .pointer (some ⟨B, 0, none⟩), t9, t10, t11, t12, t13, t14, t15, t16, t17, t18, t19, t20, t21, .agg #[.int .i64 m, .slice a n c, .int .i64 l, .bool dn], t23, .agg #[.int .i64 m, .slice a n c, .int .i64 l, .bool dn], t25, t26, t27, t28, t29, t30, t31, t32, t33, t34, t35], defers := [] } v' := by
    intro v' hb A hA zA B hB zB hAB
    subst hO
    have hHeld := HS.out _ hb
    refine wpAnyH_ready (rs := [1]) (by kernel_rfl) (by simp) (AllReadyH.cons rfl (fun K hK => ?_) AllReadyH.nil)
    go_simp
    refine (K0.out _ hb).mono ?_
    rintro e wk ⟨a0, c0, rfl, hrk, hx⟩
    have hb2 := hb.trans (hx.mono hb.size)
    have r0n := ownsRow_from hrk (fun g hg => Nat.le_trans hb.size (row_from hrk hg))
    refine hK.out _ _ (HS.out _ hb2) (fun _ => ?_)
    clear hK K
    (try simp only [Act.put, List.getElem_toArray, List.getElem_cons_zero, List.getElem_cons_succ, List.setIfInBounds_toArray, List.set_cons_zero, List.set_cons_succ])
    refine wpAnyH_at (f' := 3) (l' := #[true, true, true, false, true, true, false, false]) (by kernel_rfl) (by kernel_rfl) ?_
    exact HhN145.out _ hb2 a0 c0 r0n A hA ((hx.block _ (blk_lt zA)).trans zA) B hB ((hx.block _ (blk_lt zB)).trans zB) hAB (fun g hg e => by have h1 := row_from hrk hg; have h2 := blk_lt zA; omega) (fun g hg e => by have h1 := row_from hrk hg; have h2 := blk_lt zB; omega)
  have HhN45 := Lib.hid hN45
  clear hN45
  have hN1 : ∀ (v' : World) (hb : Below V.heap.size V v') (a0 : Option Addr) (c0 : Nat) (r0 : v'.ownsRow V.heap.size 5 1 (.slice a0 R0.blob.length c0) R0.blob.length (bcells R0.blob)), wpAnyH Tryz.prog .any OPS Q (fun w' => w'.cell? ⟨bD, 0, none⟩ = some (.int .i64 m) ∧ w'.cell? ⟨bD, 1, none⟩ = some (.slice a n c) ∧ w'.cell? ⟨bD, 2, none⟩ = some (.int .i64 l) ∧ w'.cell? ⟨bD, 3, none⟩ = some (.bool dn)) 5 #[true, true, true, false, false, false, false, false] { tmps := #[t0, .pointer (some ⟨bD, 0, none⟩), t2, t3, t4, t5, t6, t7, t8, t9, t10, t11, t12, t13, t14, t15, t16, t17, t18, t19, t20, t21, .agg #[.int .i64 m, .slice a n c, .int .i64 l, .bool dn], .agg #[.int .i64 R0.serial, .int .i64 R0.tick, .int .i64 R0.commit, .slice a0 R0.blob.length c0], .agg #[.int .i64 m, .slice a n c, .int .i64 l, .bool dn], t25, t26, t27, t28, t29, t30, t31, t32, t33, t34, t35], defers := [] } v' := by
    intro v' hb a0 c0 r0
    subst hO
    have hHeld := HS.out _ hb
    refine wpAnyH_ready (rs := [3, 4, 5]) (by kernel_rfl) (by simp) (AllReadyH.cons rfl (fun K hK => ?_) (AllReadyH.cons rfl (fun K hK => ?_) (AllReadyH.cons rfl (fun K hK => ?_) AllReadyH.nil)))
    · go_simp
      refine (K1.out _ hb).mono ?_
      rintro e wk ⟨a1, c1, rfl, hrk, hx⟩
      have hb2 := hb.trans (hx.mono hb.size)
      have r1n := ownsRow_from hrk (fun g hg => Nat.le_trans hb.size (row_from hrk hg))
      refine hK.out _ _ (HS.out _ hb2) (fun _ => ?_)
      clear hK K
      (try simp only [Act.put, List.getElem_toArray, List.getElem_cons_zero, List.getElem_cons_succ, List.setIfInBounds_toArray, List.set_cons_zero, List.set_cons_succ])
      refine wpAnyH_at (f' := 4) (l' := #[true, true, true, true, false, false, false, false]) (by kernel_rfl) (by kernel_rfl) ?_
      exact HhN13.out _ hb2 a0 c0 ((Upd.ofBelow (fp := noFp) hx).row r0 (fun _ _ h => h)) a1 c1 r1n
    · go_simp
      have hx : Below v'.heap.size v' (v'.alloc (.cells #[.int .i64 0, .int .i64 0, .int .i64 0, .slice Option.none 0 0] 35)) := (Below.refl _ _).alloc (Nat.le_refl _) _
      have hb2 := hb.trans (hx.mono hb.size)
      refine hK.out _ _ (HS.out _ hb2) (fun _ => ?_)
      clear hK K
      (try simp only [Act.put, List.getElem_toArray, List.getElem_cons_zero, List.getElem_cons_succ, List.setIfInBounds_toArray, List.set_cons_zero, List.set_cons_succ])
      refine wpAnyH_at (f' := 4) (l' := #[true, true, true, false, true, false, false, false]) (by kernel_rfl) (by kernel_rfl) ?_
      exact HhN14.out _ hb2 a0 c0 ((Upd.ofBelow (fp := noFp) hx).row r0 (fun _ _ h => h)) v'.heap.size hb.size (alloc_at v' (.cells #[.int .i64 0, .int .i64 0, .int .i64 0, .slice Option.none 0 0] 35)) (fun g hg e => by have h1 := row_lt r0 hg; omega)
    · go_simp
      have hx : Below v'.heap.size v' (v'.alloc (.cells #[.int .i64 0, .int .i64 0, .int .i64 0, .slice Option.none 0 0] 35)) := (Below.refl _ _).alloc (Nat.le_refl _) _
      have hb2 := hb.trans (hx.mono hb.size)
      refine hK.out _ _ (HS.out _ hb2) (fun _ => ?_)
      clear hK K
      (try simp only [Act.put, List.getElem_toArray, List.getElem_cons_zero, List.getElem_cons_succ, List.setIfInBounds_toArray, List.set_cons_zero, List.set_cons_succ])
      refine wpAnyH_at (f' := 4) (l' := #[true, true, true, false, false, true, false, false]) (by kernel_rfl) (by kernel_rfl) ?_
      exact HhN15.out _ hb2 a0 c0 ((Upd.ofBelow (fp := noFp) hx).row r0 (fun _ _ h => h)) v'.heap.size hb.size (alloc_at v' (.cells #[.int .i64 0, .int .i64 0, .int .i64 0, .slice Option.none 0 0] 35)) (fun g hg e => by have h1 := row_lt r0 hg; omega)
  have HhN1 := Lib.hid hN1
  clear hN1
  have hN4 : ∀ (v' : World) (hb : Below V.heap.size V v') (A : Nat) (hA : V.heap.size ≤ A) (zA : v'.heap[A]? = some (.cells #[.int .i64 0, .int .i64 0, .int .i64 0, .slice Option.none 0 0] 35)), wpAnyH Tryz.prog .any OPS Q (fun w' => w'.cell? ⟨bD, 0, none⟩ = some (.int .i64 m) ∧ w'.cell? ⟨bD, 1, none⟩ = some (.slice a n c) ∧ w'.cell? ⟨bD, 2, none⟩ = some (.int .i64 l) ∧ w'.cell? ⟨bD, 3, none⟩ = some (.bool dn)) 5 #[true, false, true, false, true, false, false, false] { tmps := #[t0, .pointer (some ⟨bD, 0, none⟩), t2, t3, t4, t5, t6, .pointer (some ⟨A, 0, none⟩), t8, t9, t10, t11, t12, t13, t14, t15, t16, t17, t18, t19, t20, t21, .agg #[.int .i64 m, .slice a n c, .int .i64 l, .bool dn], t23, .agg #[.int .i64 m, .slice a n c, .int .i64 l, .bool dn], t25, t26, t27, t28, t29, t30, t31, t32, t33, t34, t35], defers := [] } v' := by
    intro v' hb A hA zA
    subst hO
    have hHeld := HS.out _ hb
    refine wpAnyH_ready (rs := [1, 5]) (by kernel_rfl) (by simp) (AllReadyH.cons rfl (fun K hK => ?_) (AllReadyH.cons rfl (fun K hK => ?_) AllReadyH.nil))
    · go_simp
      refine (K0.out _ hb).mono ?_
      rintro e wk ⟨a0, c0, rfl, hrk, hx⟩
      have hb2 := hb.trans (hx.mono hb.size)
      have r0n := ownsRow_from hrk (fun g hg => Nat.le_trans hb.size (row_from hrk hg))
      refine hK.out _ _ (HS.out _ hb2) (fun _ => ?_)
      clear hK K
      (try simp only [Act.put, List.getElem_toArray, List.getElem_cons_zero, List.getElem_cons_succ, List.setIfInBounds_toArray, List.set_cons_zero, List.set_cons_succ])
      refine wpAnyH_at (f' := 4) (l' := #[true, true, true, false, true, false, false, false]) (by kernel_rfl) (by kernel_rfl) ?_
      exact HhN14.out _ hb2 a0 c0 r0n A hA ((hx.block _ (blk_lt zA)).trans zA) (fun g hg e => by have h1 := row_from hrk hg; have h2 := blk_lt zA; omega)
    · go_simp
      have hx : Below v'.heap.size v' (v'.alloc (.cells #[.int .i64 0, .int .i64 0, .int .i64 0, .slice Option.none 0 0] 35)) := (Below.refl _ _).alloc (Nat.le_refl _) _
      have hb2 := hb.trans (hx.mono hb.size)
      refine hK.out _ _ (HS.out _ hb2) (fun _ => ?_)
      clear hK K
      (try simp only [Act.put, List.getElem_toArray, List.getElem_cons_zero, List.getElem_cons_succ, List.setIfInBounds_toArray, List.set_cons_zero, List.set_cons_succ])
      refine wpAnyH_at (f' := 4) (l' := #[true, false, true, false, true, true, false, false]) (by kernel_rfl) (by kernel_rfl) ?_
      exact HhN45.out _ hb2 A hA ((hx.block _ (blk_lt zA)).trans zA) v'.heap.size hb.size (alloc_at v' (.cells #[.int .i64 0, .int .i64 0, .int .i64 0, .slice Option.none 0 0] 35)) (by have := blk_lt zA; omega)
  have HhN4 := Lib.hid hN4
  clear hN4
  have hN5 : ∀ (v' : World) (hb : Below V.heap.size V v') (B : Nat) (hB : V.heap.size ≤ B) (zB : v'.heap[B]? = some (.cells #[.int .i64 0, .int .i64 0, .int .i64 0, .slice Option.none 0 0] 35)), wpAnyH Tryz.prog .any OPS Q (fun w' => w'.cell? ⟨bD, 0, none⟩ = some (.int .i64 m) ∧ w'.cell? ⟨bD, 1, none⟩ = some (.slice a n c) ∧ w'.cell? ⟨bD, 2, none⟩ = some (.int .i64 l) ∧ w'.cell? ⟨bD, 3, none⟩ = some (.bool dn)) 5 #[true, false, true, false, false, true, false, false] { tmps := #[t0, .pointer (some ⟨bD, 0, none⟩), t2, t3, t4, t5, t6, t7, .pointer (some ⟨B, 0, none⟩), t9, t10, t11, t12, t13, t14, t15, t16, t17, t18, t19, t20, t21, .agg #[.int .i64 m, .slice a n c, .int .i64 l, .bool dn], t23, .agg #[.int .i64 m, .slice a n c, .int .i64 l, .bool dn], t25, t26, t27, t28, t29, t30, t31, t32, t33, t34, t35], defers := [] } v' := by
    intro v' hb B hB zB
    subst hO
    have hHeld := HS.out _ hb
    refine wpAnyH_ready (rs := [1, 4]) (by kernel_rfl) (by simp) (AllReadyH.cons rfl (fun K hK => ?_) (AllReadyH.cons rfl (fun K hK => ?_) AllReadyH.nil))
    · go_simp
      refine (K0.out _ hb).mono ?_
      rintro e wk ⟨a0, c0, rfl, hrk, hx⟩
      have hb2 := hb.trans (hx.mono hb.size)
      have r0n := ownsRow_from hrk (fun g hg => Nat.le_trans hb.size (row_from hrk hg))
      refine hK.out _ _ (HS.out _ hb2) (fun _ => ?_)
      clear hK K
      (try simp only [Act.put, List.getElem_toArray, List.getElem_cons_zero, List.getElem_cons_succ, List.setIfInBounds_toArray, List.set_cons_zero, List.set_cons_succ])
      refine wpAnyH_at (f' := 4) (l' := #[true, true, true, false, false, true, false, false]) (by kernel_rfl) (by kernel_rfl) ?_
      exact HhN15.out _ hb2 a0 c0 r0n B hB ((hx.block _ (blk_lt zB)).trans zB) (fun g hg e => by have h1 := row_from hrk hg; have h2 := blk_lt zB; omega)
    · go_simp
      have hx : Below v'.heap.size v' (v'.alloc (.cells #[.int .i64 0, .int .i64 0, .int .i64 0, .slice Option.none 0 0] 35)) := (Below.refl _ _).alloc (Nat.le_refl _) _
      have hb2 := hb.trans (hx.mono hb.size)
      refine hK.out _ _ (HS.out _ hb2) (fun _ => ?_)
      clear hK K
      (try simp only [Act.put, List.getElem_toArray, List.getElem_cons_zero, List.getElem_cons_succ, List.setIfInBounds_toArray, List.set_cons_zero, List.set_cons_succ])
      refine wpAnyH_at (f' := 4) (l' := #[true, false, true, false, true, true, false, false]) (by kernel_rfl) (by kernel_rfl) ?_
      exact HhN45.out _ hb2 v'.heap.size hb.size (alloc_at v' (.cells #[.int .i64 0, .int .i64 0, .int .i64 0, .slice Option.none 0 0] 35)) B hB ((hx.block _ (blk_lt zB)).trans zB) (by have := blk_lt zB; omega)
  have HhN5 := Lib.hid hN5
  clear hN5
  have hNs : ∀ (v' : World) (hb : Below V.heap.size V v'), wpAnyH Tryz.prog .any OPS Q (fun w' => w'.cell? ⟨bD, 0, none⟩ = some (.int .i64 m) ∧ w'.cell? ⟨bD, 1, none⟩ = some (.slice a n c) ∧ w'.cell? ⟨bD, 2, none⟩ = some (.int .i64 l) ∧ w'.cell? ⟨bD, 3, none⟩ = some (.bool dn)) 6 #[true, false, true, false, false, false, false, false] { tmps := #[t0, .pointer (some ⟨bD, 0, none⟩), t2, t3, t4, t5, t6, t7, t8, t9, t10, t11, t12, t13, t14, t15, t16, t17, t18, t19, t20, t21, .agg #[.int .i64 m, .slice a n c, .int .i64 l, .bool dn], t23, .agg #[.int .i64 m, .slice a n c, .int .i64 l, .bool dn], t25, t26, t27, t28, t29, t30, t31, t32, t33, t34, t35], defers := [] } v' := by
    intro v' hb
    subst hO
    have hHeld := HS.out _ hb
    refine wpAnyH_ready (rs := [1, 4, 5]) (by kernel_rfl) (by simp) (AllReadyH.cons rfl (fun K hK => ?_) (AllReadyH.cons rfl (fun K hK => ?_) (AllReadyH.cons rfl (fun K hK => ?_) AllReadyH.nil)))
    · go_simp
      refine (K0.out _ hb).mono ?_
      rintro e wk ⟨a0, c0, rfl, hrk, hx⟩
      have hb2 := hb.trans (hx.mono hb.size)
      have r0n := ownsRow_from hrk (fun g hg => Nat.le_trans hb.size (row_from hrk hg))
      refine hK.out _ _ (HS.out _ hb2) (fun _ => ?_)
      clear hK K
      (try simp only [Act.put, List.getElem_toArray, List.getElem_cons_zero, List.getElem_cons_succ, List.setIfInBounds_toArray, List.set_cons_zero, List.set_cons_succ])
      refine wpAnyH_at (f' := 5) (l' := #[true, true, true, false, false, false, false, false]) (by kernel_rfl) (by kernel_rfl) ?_
      exact HhN1.out _ hb2 a0 c0 r0n
    · go_simp
      have hx : Below v'.heap.size v' (v'.alloc (.cells #[.int .i64 0, .int .i64 0, .int .i64 0, .slice Option.none 0 0] 35)) := (Below.refl _ _).alloc (Nat.le_refl _) _
      have hb2 := hb.trans (hx.mono hb.size)
      refine hK.out _ _ (HS.out _ hb2) (fun _ => ?_)
      clear hK K
      (try simp only [Act.put, List.getElem_toArray, List.getElem_cons_zero, List.getElem_cons_succ, List.setIfInBounds_toArray, List.set_cons_zero, List.set_cons_succ])
      refine wpAnyH_at (f' := 5) (l' := #[true, false, true, false, true, false, false, false]) (by kernel_rfl) (by kernel_rfl) ?_
      exact HhN4.out _ hb2 v'.heap.size hb.size (alloc_at v' (.cells #[.int .i64 0, .int .i64 0, .int .i64 0, .slice Option.none 0 0] 35))
    · go_simp
      have hx : Below v'.heap.size v' (v'.alloc (.cells #[.int .i64 0, .int .i64 0, .int .i64 0, .slice Option.none 0 0] 35)) := (Below.refl _ _).alloc (Nat.le_refl _) _
      have hb2 := hb.trans (hx.mono hb.size)
      refine hK.out _ _ (HS.out _ hb2) (fun _ => ?_)
      clear hK K
      (try simp only [Act.put, List.getElem_toArray, List.getElem_cons_zero, List.getElem_cons_succ, List.setIfInBounds_toArray, List.set_cons_zero, List.set_cons_succ])
      refine wpAnyH_at (f' := 5) (l' := #[true, false, true, false, false, true, false, false]) (by kernel_rfl) (by kernel_rfl) ?_
      exact HhN5.out _ hb2 v'.heap.size hb.size (alloc_at v' (.cells #[.int .i64 0, .int .i64 0, .int .i64 0, .slice Option.none 0 0] 35))
  have HhNs := Lib.hid hNs
  clear hNs
  subst hO
  have hb : Below V.heap.size V V := Below.refl _ _
  have hHeld := HS.out _ hb
  refine wpAnyH_take (i := 0) (v := ?_) rfl (by kernel_rfl) (by kernel_rfl) (by kernel_rfl) (fun _ _ _ h => HP.out _ _ _ _ _ h) (Or.inl ⟨by rfl, ?_⟩) (by assumption) ?_
  rotate_left
  · (intro wz hSz; (try dsimp only at hSz); go_simp) <;> with_reducible rfl
  simp only [Act.put, List.getElem_toArray, List.getElem_cons_zero, List.getElem_cons_succ, List.setIfInBounds_toArray, List.set_cons_zero, List.set_cons_succ]
  refine wpAnyH_take (i := 2) (v := ?_) rfl (by kernel_rfl) (by kernel_rfl) (by kernel_rfl) (fun _ _ _ h => HP.out _ _ _ _ _ h) (Or.inl ⟨by rfl, ?_⟩) (by assumption) ?_
  rotate_left
  · (intro wz hSz; (try dsimp only at hSz); go_simp) <;> with_reducible rfl
  simp only [Act.put, List.getElem_toArray, List.getElem_cons_zero, List.getElem_cons_succ, List.setIfInBounds_toArray, List.set_cons_zero, List.set_cons_succ]
  refine wpAnyH_at (f' := 6) (l' := #[true, false, true, false, false, false, false, false]) (by kernel_rfl) (by kernel_rfl) ?_
  exact HhNs.out V hb
end Go.Proofs.YtkacgmbinkoojaaGreatDoor

/-
  RootsPlays: the document's Read.
-/
namespace Go.Proofs.YtkacgmbinkoojaaGreatDoor
open Go.RowKit Go.Maps Go.MapKept
set_option linter.unusedSimpArgs false
variable {X : Nat → Prop}
theorem row_drew {v : World} {N n sz : Nat} {T : TypeId} {x : Value} {xs : List Value} (h : v.ownsRow N T sz x n xs) : v.drew.ownsRow N T sz x n xs := (Upd.refl noFp v).drew.row h (fun _ _ h => h)
theorem rowsB {v : World} {M N B : Nat} {T : TypeId} {a : Option Addr} {c n : Nat} {xs : List Value} (h : v.ownsRow N T 1 (.slice a n c) n xs) (hN : B < N) (hM : M ≤ B) (x y z u : Value) : ((((v.setCell ⟨B, 0, none⟩ x).setCell ⟨B, 1, none⟩ y).setCell ⟨B, 2, none⟩ z).setCell ⟨B, 3, none⟩ u).drew.ownsRow M T 1 (.slice a n c) n xs :=
  ownsRow_from (row_drew ((setCell4_upd (w := v) (b := B) x y z u).row h (fun g hg e => by have := row_from h hg; omega))) (fun g hg => by have := row_from h hg; omega)
set_option maxRecDepth 100000 in
set_option maxHeartbeats 8000000 in
theorem x6Read_any (w : World) (a : Option Addr) (n c : Nat) (d : ADisk) (h : RefAt X w a n c d) (hw : d.WF) (hm : ∀ s, (d.readBytes s).length ≤ 16777216) :
    Calls Tryz.prog 10 #[refVal a n c d] w (RrPost d w) := by
  obtain ⟨V, hV⟩ : ∃ V, (w.alloc (.cells #[.int .i64 d.most, .slice a n c, .int .i64 d.left, .bool d.down] 29)).alloc (.cells #[.int .i64 0, .int .i64 0, .int .i64 0, .slice none 0 0] 35) = V := ⟨_, rfl⟩
  have hz0 : V.heap[w.heap.size]? = some (.cells #[.int .i64 d.most, .slice a n c, .int .i64 d.left, .bool d.down] 29 (0, 0)) := by rw [← hV]; exact alloc2_at0 _ _ _
  have hz1 : V.heap[w.heap.size + 1]? = some (.cells #[.int .i64 0, .int .i64 0, .int .i64 0, .slice none 0 0] 35 (0, 0)) := by rw [← hV]; exact alloc2_at _ _ _
  have hBV : Below w.heap.size w V := by rw [← hV]; exact ((Below.refl _ _).alloc (Nat.le_refl _) _).alloc (by simp) _
  have hVs : V.heap.size = w.heap.size + 2 := by rw [← hV]; simp
  have hRd := refRead_any V a n c d (rname 0) (h.below hBV) hw
  rw [show rname 0 = ⟨#[114, 111, 111, 116, 48]⟩ from rfl] at hRd
  unfold refVal at hRd ⊢
  obtain ⟨y0, y1, y2, y3, _⟩ := cells4 hz0
  have HV := Lib.hid hV
  have HVs := Lib.hid hVs
  have Hz0 := Lib.hid hz0
  have Hz1 := Lib.hid hz1
  have HBV := Lib.hid hBV
  have Hh := Lib.hid (And.intro (h.below hBV) (And.intro hw hm))
  clear hV hVs hz0 hz1 hBV h hw hm
  by_cases hd : d.down = true
  · rw [fe_down d _ hd] at hRd
    have HRd := Lib.hid hRd
    have Hd := Lib.hid hd
    clear hRd hd
    go_enter Tryz.func10, Tryz.ntmps10
    go_wp2_with fail
    rw [HV.out]
    go_wp2_with (go_at_call 40; refine HRd.out.mono ?_; rintro e w2 ⟨a2, n2, c2, rfl, hr2, hb2, hcap2⟩; obtain ⟨q0, q1, q2, q3, q4, q5, q6, q7⟩ := cells4 ((hb2.block _ (blk_lt Hz1.out)).trans Hz1.out))
    exact bodyPost_ret (v := .tuple #[.agg #[.int .i64 0, .int .i64 0, .int .i64 0, .slice none 0 0], .bool false, .int .i64 15]) (by simp [results, Tryz.results10, go_sem, q0, q1, q2, q3, q4, q5, q6, q7]) rfl (RrPost.bad Hd.out (below4W (b := w.heap.size + 1) (HBV.out.trans (hb2.mono HBV.out.size)) (by omega) _ _ _ _))
  · have hdf : d.down = false := by simpa using hd
    clear hd
    have hf : findErr d (rname 0) = 0 ∨ findErr d (rname 0) = 13 := fe_root d _ hdf
    rw [show rname 0 = ⟨#[114, 111, 111, 116, 48]⟩ from rfl] at hf
    obtain ⟨fe, hfe⟩ : ∃ fe, findErr d ⟨#[114, 111, 111, 116, 48]⟩ = fe := ⟨_, rfl⟩
    rw [hfe] at hRd hf
    have hrr : readR d = if (cand d 0).serial < (cand d 1).serial then cand d 1 else cand d 0 := by unfold readR; rw [hdf]; exact readK_two d
    have hre : readE d = 0 := by unfold readE; rw [hdf]; rfl
    have hl0 := cand_le d 0
    have hl1 := cand_le d 1
    have H0 : ∀ wX, Below V.heap.size V wX → Calls Tryz.prog 41 #[.agg #[.int .i64 d.most, .slice a n c, .int .i64 d.left, .bool d.down], .string ⟨#[114, 111, 111, 116, 48]⟩, .int .i64 0] wX (OnePost (cand d 0) wX) := fun wX hX => x6one_any wX a n c d 0 (by omega) (Hh.out.1.below hX) Hh.out.2.1 (Hh.out.2.2 _)
    have H1 : ∀ wX, Below V.heap.size V wX → Calls Tryz.prog 41 #[.agg #[.int .i64 d.most, .slice a n c, .int .i64 d.left, .bool d.down], .string ⟨#[114, 111, 111, 116, 49]⟩, .int .i64 1] wX (OnePost (cand d 1) wX) := fun wX hX => x6one_any wX a n c d 1 (by omega) (Hh.out.1.below hX) Hh.out.2.1 (Hh.out.2.2 _)
    obtain ⟨R0, hR0⟩ : ∃ R, cand d 0 = R := ⟨_, rfl⟩
    obtain ⟨R1, hR1⟩ : ∃ R, cand d 1 = R := ⟨_, rfl⟩
    rw [hR0] at hrr hl0 H0
    rw [hR1] at hrr hl1 H1
    obtain ⟨R, hR⟩ : ∃ R, readR d = R := ⟨_, rfl⟩
    unfold RrPost
    rw [hR, hre]
    rw [hR] at hrr
    have HRd := Lib.hid hRd
    have HrR := Lib.hid hrr
    have K0 := Lib.hid H0
    have K1 := Lib.hid H1
    clear hRd hfe hdf hrr hre hR H0 H1 hR0 hR1
    have hfe2 : (fe != 0 && fe != 13) = false := by rcases hf with rfl | rfl <;> rfl
    have main : ∀ (z : Int), (z = 0 ∨ z = 13) → fe = z → Calls Tryz.prog 10 #[.agg #[.int .i64 d.most, .slice a n c, .int .i64 d.left, .bool d.down]] w fun e w' => ∃ a c, e = .returned (.tuple #[rootV R.serial R.tick R.commit (.slice a R.blob.length c), .bool (decide (0 < R.serial)), .int .i64 0]) ∧ w'.ownsRow w.heap.size 5 1 (.slice a R.blob.length c) R.blob.length (bcells R.blob) ∧ Below w.heap.size w w' := by
      intro z hz hfz
      clear hf hfe2
      subst hfz
      rcases hz with rfl | rfl
      all_goals
        go_enter Tryz.func10, Tryz.ntmps10
        go_wp2_with fail
        rw [HV.out]
        go_upto_region 4 with (go_at_call 40; refine HRd.out.mono ?_; rintro e w2 ⟨a2, n2, c2, rfl, hr2, hb2, hcap2⟩)
        have hz2 := (hb2.block _ (blk_lt Hz0.out)).trans Hz0.out
        have hy2 := (hb2.block _ (blk_lt Hz1.out)).trans Hz1.out
        refine x6_reg4 w2 w.heap.size d.most d.left a n c d.down R0 R1 _ hz2 (fun wX hX => K0.out wX (hb2.trans ((Below.refl w2.heap.size w2).drew.trans hX |>.mono hb2.size))) (fun wX hX => K1.out wX (hb2.trans ((Below.refl w2.heap.size w2).drew.trans hX |>.mono hb2.size))) _ _ _ _ _ _ _ _ _ _ _ _ _ _ _ _ _ _ _ _ _ _ _ _ _ _ _ _ _ _ _ _ _ _ _ (fun _ _ _ _ _ h => h) (fun v' a0 a1 c0 c1 A B hb' r0 r1 e0 e1 hA hB hAB zA zB => ?_)
        have hB2 : Below w.heap.size w w2 := HBV.out.trans (hb2.mono HBV.out.size)
        have hBv : Below w.heap.size w v' := hB2.trans (((Below.refl w2.heap.size w2).drew.trans hb').mono hB2.size)
        have hy3 := (((Below.refl w2.heap.size w2).drew.trans hb').block _ (blk_lt hy2)).trans hy2
        have hlt := blk_lt hy2
        have hds : w2.drew.heap.size = w2.heap.size := rfl
        have hA1 : A ≠ w.heap.size + 1 := by omega
        have hA2 : w.heap.size + 1 ≠ A := by omega
        have Hr0 := Lib.hid (And.intro r0 (And.intro e0 hds))
        have Hr1 := Lib.hid (And.intro r1 (And.intro e1 hBv))
        have HzA := Lib.hid zA
        have HzB := Lib.hid zB
        have HAB := Lib.hid hAB
        have Hy3 := Lib.hid hy3
        obtain ⟨p0, p1, p2, p3, q0, q1, q2, q3⟩ := cells4 zA
        obtain ⟨s0, s1, s2, s3, k0, k1, k2, k3⟩ := cells4 zB
        obtain ⟨u0, u1, u2, u3, z0, z1, z2, z3⟩ := cells4 hy3
        clear r0 r1 e0 e1 zA zB hy3 hy2 hz2 hb' hr2 hb2 hB2 hcap2 hBv hAB hds
        by_cases hlt : R0.serial < R1.serial
        · have hRe := HrR.out.trans (if_pos hlt)
          have hgt : (R0.serial : Int) < (R1.serial : Int) := by omega
          have HRe := Lib.hid hRe
          clear hRe
          go_upto_region 7 with fail
          have hU := setCell4_upd (w := v') (b := A) (.int .i64 R1.serial) (.int .i64 R1.tick) (.int .i64 R1.commit) (.slice a1 R1.blob.length c1)
          have zA3 := setCell4_at HzA.out (.int .i64 R1.serial) (.int .i64 R1.tick) (.int .i64 R1.commit) (.slice a1 R1.blob.length c1)
          have hy4 := set4_old Hy3.out hA1 (.int .i64 R1.serial) (.int .i64 R1.tick) (.int .i64 R1.commit) (.slice a1 R1.blob.length c1)
          have r3 := hU.row Hr1.out.1 Hr1.out.2.1
          have hB3 := below4W (b := A) Hr1.out.2.2 (by have := Hr0.out.2.2; omega) (.int .i64 R1.serial) (.int .i64 R1.tick) (.int .i64 R1.commit) (.slice a1 R1.blob.length c1)
          obtain ⟨w3, hw3⟩ : ∃ x, ((((v'.setCell ⟨A, 0, none⟩ (.int .i64 R1.serial)).setCell ⟨A, 1, none⟩ (.int .i64 R1.tick)).setCell ⟨A, 2, none⟩ (.int .i64 R1.commit)).setCell ⟨A, 3, none⟩ (.slice a1 R1.blob.length c1)) = x := ⟨_, rfl⟩
          rw [hw3] at zA3 hy4 r3 hB3 ⊢
          have H3 := Lib.hid (And.intro (rowsB (M := w.heap.size) (B := w.heap.size + 1) r3 (by have := Hr0.out.2.2; omega) (by omega) (.int .i64 R1.serial) (.int .i64 R1.tick) (.int .i64 R1.commit) (.slice a1 R1.blob.length c1)) hB3)
          clear p0 p1 p2 p3 q0 q1 q2 q3 s0 s1 s2 s3 k0 k1 k2 k3 u0 u1 u2 u3 z0 z1 z2 z3 hw3 hU r3 hB3 hgt
          obtain ⟨p0, p1, p2, p3, q0, q1, q2, q3⟩ := cells4 zA3
          obtain ⟨u0, u1, u2, u3, z0, z1, z2, z3⟩ := cells4 hy4
          clear zA3 hy4
          have hBf := fun (x y z u : Value) => (below4W (b := w.heap.size + 1) H3.out.2 (by omega) x y z u).drew
          have Hbf := Lib.hid hBf
          clear hBf
          by_cases hps : 0 < R1.serial
          · have hpos : (0 : Int) < (R1.serial : Int) := by omega
            go_region
            all_goals (go_wp2_with fail)
            all_goals exact bodyPost_ret (v := .tuple #[.agg #[.int .i64 R1.serial, .int .i64 R1.tick, .int .i64 R1.commit, .slice a1 R1.blob.length c1], .bool true, .int .i64 0]) (by simp [results, Tryz.results10, go_sem, u0, u1, u2, u3, z0, z1, z2, z3]) rfl (by rw [HRe.out]; exact ⟨a1, c1, by rw [decide_eq_true hps]; rfl, H3.out.1, Hbf.out _ _ _ _⟩)
          · have hpos : ¬ (0 : Int) < (R1.serial : Int) := by omega
            go_region
            all_goals (go_wp2_with fail)
            all_goals exact bodyPost_ret (v := .tuple #[.agg #[.int .i64 R1.serial, .int .i64 R1.tick, .int .i64 R1.commit, .slice a1 R1.blob.length c1], .bool false, .int .i64 0]) (by simp [results, Tryz.results10, go_sem, u0, u1, u2, u3, z0, z1, z2, z3]) rfl (by rw [HRe.out]; exact ⟨a1, c1, by rw [decide_eq_false hps]; rfl, H3.out.1, Hbf.out _ _ _ _⟩)
        · have hRe := HrR.out.trans (if_neg hlt)
          have hgt : ¬ (R0.serial : Int) < (R1.serial : Int) := by omega
          have HRe := Lib.hid hRe
          clear hRe
          go_upto_region 7 with fail
          have H3 := Lib.hid (And.intro (rowsB (M := w.heap.size) (B := w.heap.size + 1) Hr0.out.1 (by have := Hr0.out.2.2; omega) (by omega) (.int .i64 R0.serial) (.int .i64 R0.tick) (.int .i64 R0.commit) (.slice a0 R0.blob.length c0)) Hr1.out.2.2)
          clear s0 s1 s2 s3 k0 k1 k2 k3 hgt
          have hBf := fun (x y z u : Value) => (below4W (b := w.heap.size + 1) H3.out.2 (by omega) x y z u).drew
          have Hbf := Lib.hid hBf
          clear hBf
          by_cases hps : 0 < R0.serial
          · have hpos : (0 : Int) < (R0.serial : Int) := by omega
            go_region
            all_goals (go_wp2_with fail)
            all_goals exact bodyPost_ret (v := .tuple #[.agg #[.int .i64 R0.serial, .int .i64 R0.tick, .int .i64 R0.commit, .slice a0 R0.blob.length c0], .bool true, .int .i64 0]) (by simp [results, Tryz.results10, go_sem, u0, u1, u2, u3, z0, z1, z2, z3]) rfl (by rw [HRe.out]; exact ⟨a0, c0, by rw [decide_eq_true hps]; rfl, H3.out.1, Hbf.out _ _ _ _⟩)
          · have hpos : ¬ (0 : Int) < (R0.serial : Int) := by omega
            go_region
            all_goals (go_wp2_with fail)
            all_goals exact bodyPost_ret (v := .tuple #[.agg #[.int .i64 R0.serial, .int .i64 R0.tick, .int .i64 R0.commit, .slice a0 R0.blob.length c0], .bool false, .int .i64 0]) (by simp [results, Tryz.results10, go_sem, u0, u1, u2, u3, z0, z1, z2, z3]) rfl (by rw [HRe.out]; exact ⟨a0, c0, by rw [decide_eq_false hps]; rfl, H3.out.1, Hbf.out _ _ _ _⟩)
    exact main fe hf rfl
end Go.Proofs.YtkacgmbinkoojaaGreatDoor
