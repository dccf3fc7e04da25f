/-
  The document's roots (homesteadref06): Parse. (Printed by wip/gen/gen_parse6.py.)
-/
import Derived.Outline
import Derived.Test.YtnagejhpdhdpfaaGreatDoorRc6
import Derived.Test.YtnagejhpdhdpfaaGreatDoorRt3
namespace Go.Proofs.YtnagejhpdhdpfaaGreatDoor
open Go.RowKit Go.Maps Go.MapKept

theorem four_bytes {w : World} {base : Nat} {a : Option Addr} {c : Nat} {b : List UInt8} (h : w.ownsRow base 5 1 (.slice a b.length c) b.length (bcells b)) (h4 : 4 ≤ b.length) :
    ∃ (g : Nat) (x0 x1 x2 x3 : UInt8), a = some ⟨g, 0, none⟩ ∧ w.cell? ⟨g, 0, none⟩ = some (.int .u8 (x0.toNat : Int)) ∧ w.cell? ⟨g, 1, none⟩ = some (.int .u8 (x1.toNat : Int)) ∧ w.cell? ⟨g, 2, none⟩ = some (.int .u8 (x2.toNat : Int)) ∧ w.cell? ⟨g, 3, none⟩ = some (.int .u8 (x3.toNat : Int)) ∧ b.take 4 = [x0, x1, x2, x3] := by
  have hr := Rd.ofOwns h
  rcases h.2 with ⟨hv, h0⟩ | ⟨g, cap, cur, hv, _⟩
  · omega
  · cases hv
    have hc : ∀ k (hk : k < b.length), w.cell? ⟨g, k, none⟩ = some (.int .u8 (b[k].toNat : Int)) := by
      intro k hk
      rcases hr with ⟨_, h0⟩ | ⟨b', o', n', c', he, _, hc⟩
      · simp [bcells] at h0; subst h0; simp at h4
      · cases he
        have := hc k _ (bcells_at hk)
        rwa [Nat.zero_add] at this
    refine ⟨g, b[0], b[1], b[2], b[3], rfl, hc 0 (by omega), hc 1 (by omega), hc 2 (by omega), hc 3 (by omega), ?_⟩
    match b, h4 with
    | y0 :: y1 :: y2 :: y3 :: r, _ => rfl
theorem row_capL {w : World} {base : Nat} {a : Option Addr} {c : Nat} {l : List UInt8} (h : w.ownsRow base 5 1 (.slice a l.length c) l.length (bcells l)) : CapOk (.slice a l.length c) := by
  obtain ⟨_, _, hv1, hnc1, hcm1, _⟩ := row_slice (ownsRow_base0 h)
  cases hv1
  exact ⟨_, _, _, rfl, hnc1, hcm1⟩
theorem not_magic {b : List UInt8} (h : isMagic b ≠ true) : pRoot b = none := by rw [pRoot_num, if_neg h]
theorem short_magic {b : List UInt8} (h : b.length < 4) : pRoot b = none := by
  refine not_magic (fun hm => ?_)
  unfold isMagic at hm
  have := congrArg List.length (of_decide_eq_true hm)
  simp at this; omega
theorem pEnd_bad {l : List UInt8} {at_ s t c : Nat} (h : ∃ (er : Int) (bb : List UInt8) (k : Nat), gB (l.drop at_) 1048576 = (er, bb, k) ∧ (er ≠ 0 ∨ at_ + k < l.length)) : pNum l 3 at_ s t c = none := by
  obtain ⟨er, bb, k, hg, hb⟩ := h
  show pEnd l at_ s t c = none
  unfold pEnd
  rw [hg]
  by_cases h0 : er = 0
  · subst h0
    simp only
    rw [if_pos (by rcases hb with h | h; exact absurd rfl h; exact h)]
  · split
    · rename_i heq; simp only [Prod.mk.injEq] at heq; exact absurd heq.1 h0
    · rfl
theorem pEnd_good {l bb : List UInt8} {at_ s t c k : Nat} (hg : gB (l.drop at_) 1048576 = (0, bb, k)) (h : ¬ at_ + k < l.length) : pNum l 3 at_ s t c = some ⟨s, t, c, bb⟩ := by
  show pEnd l at_ s t c = _
  unfold pEnd
  rw [hg]
  simp only
  rw [if_neg h]
theorem gu_at {w : World} {a : Option Addr} {c at_ : Nat} {b : List UInt8} (er : Int) (n j : Nat) (hv : Rd w (.slice a b.length c) (bcells b)) (hcap : CapOk (.slice a b.length c)) (hat : at_ ≤ b.length) (hl : b.length ≤ 1000000000000) (hg : gU (b.drop at_) = (er, n, j)) :
    Calls Tryz.prog 48 #[.slice a b.length c, .int .i64 at_] w fun e w' => e = .returned (.tuple #[.int .u64 n, .int .i64 (if er = 0 then (at_ : Int) + j else 0), .int .i64 er]) ∧ Below w.heap.size w w' := by
  have h := x1GetUint_any w (.slice a b.length c) b at_ hv hcap hat hl
  unfold GuPost guVal guNext guErr at h
  rw [hg] at h
  exact h

set_option maxRecDepth 100000 in
set_option maxHeartbeats 16000000 in
theorem x6Parse_any (w : World) (v : Value) (l : List UInt8) (hv : Rd w v (bcells l)) (hcap : CapOk v) (hl : l.length ≤ 1000000000000) :
    Calls Tryz.prog 11 #[v] w (RpPost l w) := by
  obtain ⟨er, b, hun⟩ : ∃ er b, unsealL sumL l = (er, b) := ⟨_, _, rfl⟩
  have hpar := parse_un hun
  have hbl : b.length ≤ l.length := by
    unfold unsealL at hun
    split at hun
    · cases hun; simp
    · split at hun
      · cases hun; simp
      · cases hun; simp
  obtain ⟨W, hW⟩ : ∃ W, w.alloc (.cells #[.int .i64 0, .int .i64 0, .int .i64 0, .slice none 0 0] 24) = W := ⟨_, rfl⟩
  have hz0 : W.heap[w.heap.size]? = some (.cells #[.int .i64 0, .int .i64 0, .int .i64 0, .slice none 0 0] 24 (0, 0)) := by rw [← hW]; exact alloc_at _ _
  have hBW : Below w.heap.size w W := by rw [← hW]; exact (Below.refl _ _).alloc (Nat.le_refl _) _
  have hU := x1Unseal_any W v l (hv.below hBW) hcap (by omega)
  unfold UnPost at hU
  rw [hun] at hU
  simp only at hU
  obtain ⟨a, c, rfl⟩ := hv.shape
  rw [bcells_length] at hU ⊢
  have Hz0 := Lib.hid hz0
  have HU := Lib.hid hU
  have HW := Lib.hid hW
  have Hpar := Lib.hid hpar
  clear hz0 hU hun hpar hv hcap hW
  have hb12 : b.length ≤ 1000000000000 := by omega
  by_cases h0 : er = 0
  · subst h0
    have hpar2 := Hpar.out
    rw [if_pos rfl] at hpar2
    have hten : pRoot b = none → parseL sumL l = (10, none) := fun h => by rw [hpar2, h]
    have Hten := Lib.hid hten
    have Hpar2 := Lib.hid hpar2
    clear hpar2 hten
    go_enter Tryz.func11, Tryz.ntmps11
    by_cases h4 : b.length < 4
    · have h4' : (b.length : Int) < 4 := by omega
      have Hp := Lib.hid (Hten.out (short_magic h4))
      go_wp2_with (go_at_call 47; rw [HW.out]; refine HU.out.mono ?_; rintro e w1 ⟨a1, c1, rfl, hR, hB1⟩; have HR := Lib.hid hR; clear hR; obtain ⟨q0, q1, q2, q3, f0, f1, f2, f3⟩ := cellsZ ((hB1.block w.heap.size (blk_lt Hz0.out)).trans Hz0.out))
      refine bodyPost_ret (v := .tuple #[.agg #[.int .i64 0, .int .i64 0, .int .i64 0, .slice none 0 0], .int .i64 10]) (by simp [results, Tryz.results11, go_sem, q0, q1, q2, q3]) rfl (RpPost.bad 10 Hp.out ?_)
      exact ((((hBW.trans (hB1.mono hBW.size)).setCell (Nat.le_refl _) _).setCell (Nat.le_refl _) _).setCell (Nat.le_refl _) _).setCell (Nat.le_refl _) _
    · have h4' : ¬ (b.length : Int) < 4 := by omega
      go_wp2_with fail
      rw [HW.out]
      refine HU.out.mono ?_
      rintro e w1 ⟨a1, c1, rfl, hR, hB1⟩
      have HR := Lib.hid hR
      have Hz1 := Lib.hid ((hB1.block w.heap.size (blk_lt Hz0.out)).trans Hz0.out)
      obtain ⟨q0, q1, q2, q3, f0, f1, f2, f3⟩ := cellsZ Hz1.out
      have hBw := hBW.trans (hB1.mono hBW.size)
      obtain ⟨g, x0, x1, x2, x3, rfl, c0, c1', c2, c3, htk⟩ := four_bytes hR (by omega)
      have hcap1 := row_capL hR
      clear hR hB1 hBW Hz0 HU HW
      have hmag : ∀ (h : x0.toNat = 72 ∧ x1.toNat = 83 ∧ x2.toNat = 82 ∧ x3.toNat = 49), isMagic b = true := fun h => by
        unfold isMagic
        rw [htk, show x0 = 72 from UInt8.toNat_inj.1 h.1, show x1 = 83 from UInt8.toNat_inj.1 h.2.1, show x2 = 82 from UInt8.toNat_inj.1 h.2.2.1, show x3 = 49 from UInt8.toNat_inj.1 h.2.2.2]
        rfl
      have hnot : (x0.toNat ≠ 72 ∨ x1.toNat ≠ 83 ∨ x2.toNat ≠ 82 ∨ x3.toNat ≠ 49) → pRoot b = none := fun h => by
        refine not_magic (fun hm => ?_)
        unfold isMagic at hm
        have he := of_decide_eq_true hm
        rw [htk] at he
        simp only [List.cons.injEq] at he
        obtain ⟨r0, r1, r2, r3, _⟩ := he
        subst r0 r1 r2 r3
        rcases h with h | h | h | h <;> exact h rfl
      obtain ⟨n0, hn0⟩ : ∃ n, x0.toNat = n := ⟨_, rfl⟩
      obtain ⟨n1, hn1⟩ : ∃ n, x1.toNat = n := ⟨_, rfl⟩
      obtain ⟨n2, hn2⟩ : ∃ n, x2.toNat = n := ⟨_, rfl⟩
      obtain ⟨n3, hn3⟩ : ∃ n, x3.toNat = n := ⟨_, rfl⟩
      rw [hn0, hn1, hn2, hn3] at hmag hnot
      rw [hn0] at c0
      rw [hn1] at c1'
      rw [hn2] at c2
      rw [hn3] at c3
      have Hmag := Lib.hid hmag
      have Hnot := Lib.hid hnot
      clear hmag hnot hn0 hn1 hn2 hn3 htk
      by_cases ne0 : n0 = 72
      rotate_left
      · have ne := ne0
        have nb : ((n0 : Int) != 72) = true := by simp; omega
        have Hp := Lib.hid (Hten.out (Hnot.out (Or.inl ne)))
        clear ne ne0
        go_wp2_with fail
        refine bodyPost_ret (v := .tuple #[.agg #[.int .i64 0, .int .i64 0, .int .i64 0, .slice none 0 0], .int .i64 10]) (by simp [results, Tryz.results11, go_sem, q0, q1, q2, q3]) rfl (RpPost.bad 10 Hp.out ?_)
        exact ((((hBw).setCell (Nat.le_refl _) _).setCell (Nat.le_refl _) _).setCell (Nat.le_refl _) _).setCell (Nat.le_refl _) _
      subst ne0
      by_cases ne1 : n1 = 83
      rotate_left
      · have ne := ne1
        have nb : ((n1 : Int) != 83) = true := by simp; omega
        have Hp := Lib.hid (Hten.out (Hnot.out (Or.inr (Or.inl ne))))
        clear ne ne1
        go_wp2_with fail
        refine bodyPost_ret (v := .tuple #[.agg #[.int .i64 0, .int .i64 0, .int .i64 0, .slice none 0 0], .int .i64 10]) (by simp [results, Tryz.results11, go_sem, q0, q1, q2, q3]) rfl (RpPost.bad 10 Hp.out ?_)
        exact ((((hBw).setCell (Nat.le_refl _) _).setCell (Nat.le_refl _) _).setCell (Nat.le_refl _) _).setCell (Nat.le_refl _) _
      subst ne1
      by_cases ne2 : n2 = 82
      rotate_left
      · have ne := ne2
        have nb : ((n2 : Int) != 82) = true := by simp; omega
        have Hp := Lib.hid (Hten.out (Hnot.out (Or.inr (Or.inr (Or.inl ne)))))
        clear ne ne2
        go_wp2_with fail
        refine bodyPost_ret (v := .tuple #[.agg #[.int .i64 0, .int .i64 0, .int .i64 0, .slice none 0 0], .int .i64 10]) (by simp [results, Tryz.results11, go_sem, q0, q1, q2, q3]) rfl (RpPost.bad 10 Hp.out ?_)
        exact ((((hBw).setCell (Nat.le_refl _) _).setCell (Nat.le_refl _) _).setCell (Nat.le_refl _) _).setCell (Nat.le_refl _) _
      subst ne2
      by_cases ne3 : n3 = 49
      rotate_left
      · have ne := ne3
        have nb : ((n3 : Int) != 49) = true := by simp; omega
        have Hp := Lib.hid (Hten.out (Hnot.out (Or.inr (Or.inr (Or.inr (ne))))))
        clear ne ne3
        go_wp2_with fail
        refine bodyPost_ret (v := .tuple #[.agg #[.int .i64 0, .int .i64 0, .int .i64 0, .slice none 0 0], .int .i64 10]) (by simp [results, Tryz.results11, go_sem, q0, q1, q2, q3]) rfl (RpPost.bad 10 Hp.out ?_)
        exact ((((hBw).setCell (Nat.le_refl _) _).setCell (Nat.le_refl _) _).setCell (Nat.le_refl _) _).setCell (Nat.le_refl _) _
      subst ne3
      have hnum : pRoot b = pNum b 0 4 0 0 0 := by rw [pRoot_num, if_pos (Hmag.out ⟨rfl, rfl, rfl, rfl⟩)]
      have Hnum := Lib.hid hnum
      clear hnum Hmag Hnot
      go_wp2_with fail
      clear c0 c1' c2 c3 q0 q1 q2 q3 f0 f1 f2 f3
      have HRd := Lib.hid (Rd.ofOwns HR.out)
      obtain ⟨er0, y0, j0, hgu0⟩ : ∃ er n j, gU (b.drop (4 : Nat)) = (er, n, j) := ⟨_, _, _, rfl⟩
      have hG0 := gu_at (w := w1) (a := some ⟨g, 0, none⟩) (c := c1) (at_ := (4 : Nat)) er0 y0 j0 HRd.out hcap1 (by omega) hb12 hgu0
      rw [show (((4 : Nat) : Nat) : Int) = 4 from rfl] at hG0
      have Hgu0 := Lib.hid hgu0
      have HG0 := Lib.hid hG0
      clear hG0 hgu0
      refine HG0.out.mono ?_
      rintro e w2 ⟨rfl, hB2⟩
      have hBw2 := hBw.trans (hB2.mono hBw.size)
      have Hz2 := Lib.hid ((hB2.block w.heap.size (blk_lt Hz1.out)).trans Hz1.out)
      have HRd2 := Lib.hid (HRd.out.below hB2)
      obtain ⟨q0, q1, q2, q3, f0, f1, f2, f3⟩ := cellsZ Hz2.out
      by_cases hz0 : er0 = 0
      rotate_left
      · have nb : (er0 != 0) = true := by simpa using hz0
        have Hp := Lib.hid (Hten.out (by rw [Hnum.out]; exact pNum_bad (by omega) ⟨_, Hgu0.out, Or.inl hz0⟩))
        rw [if_neg hz0]
        clear hz0
        go_wp2_with fail
        refine bodyPost_ret (v := .tuple #[.agg #[.int .i64 0, .int .i64 0, .int .i64 0, .slice none 0 0], .int .i64 10]) (by simp [results, Tryz.results11, go_sem, q0, q1, q2, q3]) rfl (RpPost.bad 10 Hp.out ?_)
        exact ((((hBw2).setCell (Nat.le_refl _) _).setCell (Nat.le_refl _) _).setCell (Nat.le_refl _) _).setCell (Nat.le_refl _) _
      subst hz0
      rw [if_pos rfl]
      obtain ⟨_, _, hj0, hj0', hn0⟩ := gU_ok Hgu0.out
      rw [List.length_drop] at hj0
      by_cases ho0 : y0 = 0
      · have Hp := Lib.hid (Hten.out (by rw [Hnum.out]; exact pNum_bad (by omega) ⟨_, Hgu0.out, Or.inr (Or.inr ⟨rfl, ho0⟩)⟩))
        have ho1 : (y0 : Int) < 1 := by omega
        clear ho0
        go_wp2_with fail
        refine bodyPost_ret (v := .tuple #[.agg #[.int .i64 0, .int .i64 0, .int .i64 0, .slice none 0 0], .int .i64 10]) (by simp [results, Tryz.results11, go_sem, q0, q1, q2, q3]) rfl (RpPost.bad 10 Hp.out ?_)
        exact ((((hBw2).setCell (Nat.le_refl _) _).setCell (Nat.le_refl _) _).setCell (Nat.le_refl _) _).setCell (Nat.le_refl _) _
      have ho1 : ¬ (y0 : Int) < 1 := by omega
      by_cases hg0 : 9007199254740992 < y0
      · have hg' : (9007199254740992 : Int) < (y0 : Int) := by omega
        have Hp := Lib.hid (Hten.out (by rw [Hnum.out]; exact pNum_bad (by omega) ⟨_, Hgu0.out, Or.inr (Or.inl hg0)⟩))
        go_wp2_with fail
        refine bodyPost_ret (v := .tuple #[.agg #[.int .i64 0, .int .i64 0, .int .i64 0, .slice none 0 0], .int .i64 10]) (by simp [results, Tryz.results11, go_sem, q0, q1, q2, q3]) rfl (RpPost.bad 10 Hp.out ?_)
        exact ((((hBw2).setCell (Nat.le_refl _) _).setCell (Nat.le_refl _) _).setCell (Nat.le_refl _) _).setCell (Nat.le_refl _) _
      have hg' : ¬ (9007199254740992 : Int) < (y0 : Int) := by omega
      have hnum0 := pNum_good0 Hgu0.out (by omega) ho0
      obtain ⟨at1, hat1⟩ : ∃ x : Nat, x = (4 : Nat) + j0 := ⟨_, rfl⟩
      have hai1 : (4 : Int) + (j0 : Int) = (at1 : Int) := by omega
      have hal1 : at1 ≤ b.length := by omega
      have Hnum1 := Lib.hid (Hnum.out.trans (hnum0.trans (by rw [← hat1])))
      rw [hai1]
      clear hnum0 hat1 hai1 hj0 hj0'
      go_wp2_with fail
      clear q0 q1 q2 q3 f0 f1 f2 f3
      obtain ⟨er1, y1, j1, hgu1⟩ : ∃ er n j, gU (b.drop at1) = (er, n, j) := ⟨_, _, _, rfl⟩
      have hG1 := gu_at (w := w2) (a := some ⟨g, 0, none⟩) (c := c1) (at_ := at1) er1 y1 j1 HRd2.out hcap1 hal1 hb12 hgu1
      have Hgu1 := Lib.hid hgu1
      have HG1 := Lib.hid hG1
      clear hG1 hgu1
      refine HG1.out.mono ?_
      rintro e w3 ⟨rfl, hB3⟩
      have hBw3 := hBw2.trans (hB3.mono hBw2.size)
      have Hz3 := Lib.hid ((hB3.block w.heap.size (blk_lt Hz2.out)).trans Hz2.out)
      have HRd3 := Lib.hid (HRd2.out.below hB3)
      obtain ⟨q0, q1, q2, q3, f0, f1, f2, f3⟩ := cellsZ Hz3.out
      by_cases hz1 : er1 = 0
      rotate_left
      · have nb : (er1 != 0) = true := by simpa using hz1
        have Hp := Lib.hid (Hten.out (by rw [Hnum1.out]; exact pNum_bad (by omega) ⟨_, Hgu1.out, Or.inl hz1⟩))
        rw [if_neg hz1]
        clear hz1
        go_wp2_with fail
        refine bodyPost_ret (v := .tuple #[.agg #[.int .i64 0, .int .i64 0, .int .i64 0, .slice none 0 0], .int .i64 10]) (by simp [results, Tryz.results11, go_sem, q0, q1, q2, q3]) rfl (RpPost.bad 10 Hp.out ?_)
        exact ((((hBw3).setCell (Nat.le_refl _) _).setCell (Nat.le_refl _) _).setCell (Nat.le_refl _) _).setCell (Nat.le_refl _) _
      subst hz1
      rw [if_pos rfl]
      obtain ⟨_, _, hj1, hj1', hn1⟩ := gU_ok Hgu1.out
      rw [List.length_drop] at hj1
      by_cases hg1 : 9007199254740992 < y1
      · have hg' : (9007199254740992 : Int) < (y1 : Int) := by omega
        have Hp := Lib.hid (Hten.out (by rw [Hnum1.out]; exact pNum_bad (by omega) ⟨_, Hgu1.out, Or.inr (Or.inl hg1)⟩))
        go_wp2_with fail
        refine bodyPost_ret (v := .tuple #[.agg #[.int .i64 0, .int .i64 0, .int .i64 0, .slice none 0 0], .int .i64 10]) (by simp [results, Tryz.results11, go_sem, q0, q1, q2, q3]) rfl (RpPost.bad 10 Hp.out ?_)
        exact ((((hBw3).setCell (Nat.le_refl _) _).setCell (Nat.le_refl _) _).setCell (Nat.le_refl _) _).setCell (Nat.le_refl _) _
      have hg' : ¬ (9007199254740992 : Int) < (y1 : Int) := by omega
      have hnum1 := pNum_good1 (s := y0) Hgu1.out (by omega)
      obtain ⟨at2, hat2⟩ : ∃ x : Nat, x = at1 + j1 := ⟨_, rfl⟩
      have hai2 : (at1 : Int) + (j1 : Int) = (at2 : Int) := by omega
      have hal2 : at2 ≤ b.length := by omega
      have Hnum2 := Lib.hid (Hnum1.out.trans (hnum1.trans (by rw [← hat2])))
      rw [hai2]
      clear hnum1 hat2 hai2 hj1 hj1'
      go_wp2_with fail
      clear q0 q1 q2 q3 f0 f1 f2 f3
      obtain ⟨er2, y2, j2, hgu2⟩ : ∃ er n j, gU (b.drop at2) = (er, n, j) := ⟨_, _, _, rfl⟩
      have hG2 := gu_at (w := w3) (a := some ⟨g, 0, none⟩) (c := c1) (at_ := at2) er2 y2 j2 HRd3.out hcap1 hal2 hb12 hgu2
      have Hgu2 := Lib.hid hgu2
      have HG2 := Lib.hid hG2
      clear hG2 hgu2
      refine HG2.out.mono ?_
      rintro e w4 ⟨rfl, hB4⟩
      have hBw4 := hBw3.trans (hB4.mono hBw3.size)
      have Hz4 := Lib.hid ((hB4.block w.heap.size (blk_lt Hz3.out)).trans Hz3.out)
      have HRd4 := Lib.hid (HRd3.out.below hB4)
      obtain ⟨q0, q1, q2, q3, f0, f1, f2, f3⟩ := cellsZ Hz4.out
      by_cases hz2 : er2 = 0
      rotate_left
      · have nb : (er2 != 0) = true := by simpa using hz2
        have Hp := Lib.hid (Hten.out (by rw [Hnum2.out]; exact pNum_bad (by omega) ⟨_, Hgu2.out, Or.inl hz2⟩))
        rw [if_neg hz2]
        clear hz2
        go_wp2_with fail
        refine bodyPost_ret (v := .tuple #[.agg #[.int .i64 0, .int .i64 0, .int .i64 0, .slice none 0 0], .int .i64 10]) (by simp [results, Tryz.results11, go_sem, q0, q1, q2, q3]) rfl (RpPost.bad 10 Hp.out ?_)
        exact ((((hBw4).setCell (Nat.le_refl _) _).setCell (Nat.le_refl _) _).setCell (Nat.le_refl _) _).setCell (Nat.le_refl _) _
      subst hz2
      rw [if_pos rfl]
      obtain ⟨_, _, hj2, hj2', hn2⟩ := gU_ok Hgu2.out
      rw [List.length_drop] at hj2
      by_cases hg2 : 9007199254740992 < y2
      · have hg' : (9007199254740992 : Int) < (y2 : Int) := by omega
        have Hp := Lib.hid (Hten.out (by rw [Hnum2.out]; exact pNum_bad (by omega) ⟨_, Hgu2.out, Or.inr (Or.inl hg2)⟩))
        go_wp2_with fail
        refine bodyPost_ret (v := .tuple #[.agg #[.int .i64 0, .int .i64 0, .int .i64 0, .slice none 0 0], .int .i64 10]) (by simp [results, Tryz.results11, go_sem, q0, q1, q2, q3]) rfl (RpPost.bad 10 Hp.out ?_)
        exact ((((hBw4).setCell (Nat.le_refl _) _).setCell (Nat.le_refl _) _).setCell (Nat.le_refl _) _).setCell (Nat.le_refl _) _
      have hg' : ¬ (9007199254740992 : Int) < (y2 : Int) := by omega
      have hnum2 := pNum_good2 (s := y0) (t := y1) Hgu2.out (by omega)
      obtain ⟨at3, hat3⟩ : ∃ x : Nat, x = at2 + j2 := ⟨_, rfl⟩
      have hai3 : (at2 : Int) + (j2 : Int) = (at3 : Int) := by omega
      have hal3 : at3 ≤ b.length := by omega
      have Hnum3 := Lib.hid (Hnum2.out.trans (hnum2.trans (by rw [← hat3])))
      rw [hai3]
      clear hnum2 hat3 hai3 hj2 hj2'
      go_wp2_with fail
      clear q0 q1 q2 q3 f0 f1 f2 f3
      obtain ⟨er3, bb, j3, hgb⟩ : ∃ er bb j, gB (b.drop at3) 1048576 = (er, bb, j) := ⟨_, _, _, rfl⟩
      have hG := x1GetBlob_any w4 (.slice (some ⟨g, 0, none⟩) b.length c1) b at3 1048576 HRd4.out hcap1 hal3 hb12 (by omega)
      unfold GbPost at hG
      rw [hgb, show (((1048576 : Nat) : Nat) : Int) = 1048576 from rfl] at hG
      simp only at hG
      have Hgb := Lib.hid hgb
      have HG := Lib.hid hG
      clear hG hgb
      refine HG.out.mono ?_
      rintro e w5 ⟨a5, c5, rfl, hR5, hB5⟩
      have HR5 := Lib.hid hR5
      have hBw5 := hBw4.trans (hB5.mono hBw4.size)
      obtain ⟨q0, q1, q2, q3, f0, f1, f2, f3⟩ := cellsZ ((hB5.block w.heap.size (blk_lt Hz4.out)).trans Hz4.out)
      clear hR5
      by_cases hz3 : er3 = 0
      rotate_left
      · have nb : (er3 != 0) = true := by simpa using hz3
        have Hp := Lib.hid (Hten.out (by rw [Hnum3.out]; exact pEnd_bad ⟨_, _, _, Hgb.out, Or.inl hz3⟩))
        rw [if_neg hz3]
        clear hz3
        go_wp2_with fail
        refine bodyPost_ret (v := .tuple #[.agg #[.int .i64 0, .int .i64 0, .int .i64 0, .slice none 0 0], .int .i64 10]) (by simp [results, Tryz.results11, go_sem, q0, q1, q2, q3]) rfl (RpPost.bad 10 Hp.out ?_)
        exact ((((hBw5).setCell (Nat.le_refl _) _).setCell (Nat.le_refl _) _).setCell (Nat.le_refl _) _).setCell (Nat.le_refl _) _
      subst hz3
      rw [if_pos rfl]
      have hbb := gB_len Hgb.out
      rw [List.length_drop] at hbb
      by_cases hlt : at3 + j3 < b.length
      · have nb : (((at3 : Int) + (j3 : Int)) != (b.length : Int)) = true := by simp; omega
        have Hp := Lib.hid (Hten.out (by rw [Hnum3.out]; exact pEnd_bad ⟨_, _, _, Hgb.out, Or.inr hlt⟩))
        go_wp2_with fail
        refine bodyPost_ret (v := .tuple #[.agg #[.int .i64 0, .int .i64 0, .int .i64 0, .slice none 0 0], .int .i64 10]) (by simp [results, Tryz.results11, go_sem, q0, q1, q2, q3]) rfl (RpPost.bad 10 Hp.out ?_)
        exact ((((hBw5).setCell (Nat.le_refl _) _).setCell (Nat.le_refl _) _).setCell (Nat.le_refl _) _).setCell (Nat.le_refl _) _
      have nb : (((at3 : Int) + (j3 : Int)) != (b.length : Int)) = false := by simp; omega
      have hp : parseL sumL l = (0, some ⟨y0, y1, y2, bb⟩) := by rw [Hpar2.out, Hnum3.out, pEnd_good Hgb.out hlt]
      have Hp := Lib.hid hp
      have hzl := blk_lt Hz4.out
      clear hp
      go_wp2_with fail
      refine bodyPost_ret (v := .tuple #[rootV y0 y1 y2 (.slice a5 bb.length c5), .int .i64 0]) (by simp [results, Tryz.results11, go_sem, rootV, q0, q1, q2, q3]) rfl (RpPost.good ⟨y0, y1, y2, bb⟩ Hp.out a5 c5 ?_ ?_)
      · have hU4 := setCell4_upd (w := w5) (b := w.heap.size) (.int .i64 y0) (.int .i64 y1) (.int .i64 y2) (.slice a5 bb.length c5)
        exact hU4.row (ownsRow_from HR5.out (fun g hg => Nat.le_trans hBw4.size (row_from HR5.out hg))) (fun g hg e => by have := row_from HR5.out hg; omega)
      · exact ((((hBw5).setCell (Nat.le_refl _) _).setCell (Nat.le_refl _) _).setCell (Nat.le_refl _) _).setCell (Nat.le_refl _) _
  · have hpar2 := Hpar.out
    rw [if_neg h0] at hpar2
    have nb : (er != 0) = true := by simpa using h0
    have Hpar2 := Lib.hid hpar2
    clear hpar2 h0
    go_enter Tryz.func11, Tryz.ntmps11
    go_wp2_with (go_at_call 47; rw [HW.out]; refine HU.out.mono ?_; rintro e w1 ⟨a1, c1, rfl, hR, hB1⟩; have HR := Lib.hid hR; clear hR; obtain ⟨q0, q1, q2, q3, f0, f1, f2, f3⟩ := cellsZ ((hB1.block w.heap.size (blk_lt Hz0.out)).trans Hz0.out))
    refine bodyPost_ret (v := .tuple #[.agg #[.int .i64 0, .int .i64 0, .int .i64 0, .slice none 0 0], .int .i64 er]) (by simp [results, Tryz.results11, go_sem, q0, q1, q2, q3]) rfl (RpPost.bad er Hpar2.out ?_)
    exact ((((hBW.trans (hB1.mono hBW.size)).setCell (Nat.le_refl _) _).setCell (Nat.le_refl _) _).setCell (Nat.le_refl _) _).setCell (Nat.le_refl _) _
end Go.Proofs.YtnagejhpdhdpfaaGreatDoor
