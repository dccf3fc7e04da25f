/-
  A record of a journal is read.
-/
import Derived.Outline
import Derived.BigQuiet
import Derived.Deep.QuietTactic
import Derived.Deep.RegionHeld3
import Derived.Test.YtbiadclmonakkaaGreatDoorMWlA
import Derived.Test.YtbiadclmonakkaaGreatDoorMByA
import Derived.Lib.SlBytesConst
import Derived.Test.YtbiadclmonakkaaGreatDoorMWmA
namespace Go.Proofs.YtbiadclmonakkaaGreatDoor
open Go.RowKit Go.Maps Go.MapKept

theorem rd_mid4 {w : World} {b o n c : Nat} {l : List UInt8} (h : Rd w (.slice (some ⟨b, o, none⟩) n c) (bcells l)) (i m c' : Nat) (him : i + m ≤ l.length) : Rd w (.slice (some ⟨b, o + i, none⟩) m c') (bcells ((l.drop i).take m)) := by
  have hlen : ((l.drop i).take m).length = m := by rw [List.length_take, List.length_drop]; omega
  refine Or.inr ⟨b, o + i, m, c', rfl, by rw [bcells_length, hlen], fun j u hj => ?_⟩
  have hjl := (List.getElem?_eq_some_iff.1 hj).1
  rw [bcells_length, hlen] at hjl
  rcases h with ⟨_, h0⟩ | ⟨b', o', n', c2, he, _, hc⟩
  · have : l.length = 0 := by rw [← bcells_length l, h0]; rfl
    omega
  · cases he
    rw [bcells_at (by rw [hlen]; exact hjl)] at hj
    cases hj
    have := hc (i + j) _ (bcells_at (by omega))
    rw [← Nat.add_assoc] at this
    rw [this]
    congr 4
    rw [List.getElem_take, List.getElem_drop]
theorem rd_some4 {w : World} {a : Option Addr} {n c : Nat} {l : List UInt8} (h : Rd w (.slice a n c) (bcells l)) (hp : 0 < l.length) : ∃ b o, a = some ⟨b, o, none⟩ := by
  rcases h with ⟨_, h0⟩ | ⟨b, o, n', c2, he, _, _⟩
  · have : l.length = 0 := by rw [← bcells_length l, h0]; rfl
    omega
  · cases he; exact ⟨b, o, rfl⟩
/-- a record as a value. -/
def recV (n : Int) (vb : Value) : Value := .agg #[.int .i64 n, vb]
def WrPost4 (l : List UInt8) (at_ : Nat) (w : World) (e : Ending) (w' : World) : Prop :=
  match wRec sumL l with
  | none => e = .returned (.tuple #[recV 0 (.slice none 0 0), .int .i64 0, .bool false]) ∧ Below w.heap.size w w'
  | some (n, b, t) => ∃ a c, e = .returned (.tuple #[recV n (.slice a b.length c), .int .i64 ((at_ + t : Nat) : Int), .bool true]) ∧ Rd w' (.slice a b.length c) (bcells b) ∧ (∀ g, (Value.slice a b.length c).ownBlock = some g → w.heap.size ≤ g ∧ g < w'.heap.size) ∧ Below w.heap.size w w'
theorem WrPost4.bad {l : List UInt8} {at_ : Nat} {w w' : World} {e : Ending} (h : wRec sumL l = none) (h1 : e = .returned (.tuple #[recV 0 (.slice none 0 0), .int .i64 0, .bool false])) (h2 : Below w.heap.size w w') : WrPost4 l at_ w e w' := by
  unfold WrPost4
  rw [h]
  exact ⟨h1, h2⟩
theorem wRec_gu {l : List UInt8} {er : Int} {m k : Nat} (h : gU l = (er, m, k)) : wRec sumL l = if er = 0 then (if l.length - k < m then none else if l.length - k - m < 4 then none else
    match unsealL sumL ((l.drop k).take (m + 4)) with
    | (0, body) => match gU body with
      | (0, n, j) => if 9007199254740992 < n then none else if 1048576 < body.length - j then none else some (n, body.drop j, k + m + 4)
      | _ => none
    | _ => none) else none := by
  unfold wRec
  rw [h]
  by_cases h0 : er = 0
  · subst h0; rfl
  · rw [if_neg h0]
    split
    · rename_i heq
      simp only [Prod.mk.injEq] at heq
      exact absurd heq.1 h0
    · rfl
theorem wRec_un {l : List UInt8} {m k : Nat} (h : gU l = (0, m, k)) (h1 : m ≤ l.length - k) (h2 : 4 ≤ l.length - k - m) {eu : Int} {body : List UInt8} (hu : unsealL sumL ((l.drop k).take (m + 4)) = (eu, body)) {e2 : Int} {n j : Nat} (hg : gU body = (e2, n, j)) :
    wRec sumL l = if eu = 0 then (if e2 = 0 then (if 9007199254740992 < n then none else if 1048576 < body.length - j then none else some (n, body.drop j, k + m + 4)) else none) else none := by
  rw [wRec_gu h, if_pos rfl, if_neg (by omega), if_neg (by omega), hu]
  by_cases h0 : eu = 0
  · subst h0
    rw [if_pos rfl]
    simp only [hg]
    by_cases h3 : e2 = 0
    · subst h3; rfl
    · rw [if_neg h3]
      split
      · rename_i heq
        simp only [Prod.mk.injEq] at heq
        exact absurd heq.1 h3
      · rfl
  · rw [if_neg h0]
    split
    · rename_i heq
      simp only [Prod.mk.injEq] at heq
      exact absurd heq.1 h0
    · rfl
theorem below2_4 {N : Nat} {w0 w1 : World} (h : Below N w0 w1) {b : Nat} (hb : N ≤ b) (x y : Value) : Below N w0 ((w1.setCell ⟨b, 0, none⟩ x).setCell ⟨b, 1, none⟩ y) := (h.setCell (p := ⟨b, 0, none⟩) hb x).setCell (p := ⟨b, 1, none⟩) hb y
set_option maxRecDepth 100000 in
set_option maxHeartbeats 8000000 in
theorem wrecord_any (w : World) (v : Value) (l : List UInt8) (at_ : Nat) (hv : Rd w v (bcells l)) (hcap : CapOk v) (hat : at_ ≤ l.length) (hl : l.length ≤ 1099511627776) :
    Calls Tryz.prog 114 #[v, .int .i64 at_] w (WrPost4 (l.drop at_) at_ w) := by
  obtain ⟨a, c, rfl⟩ := hv.shape
  obtain ⟨_, _, _, he, hnc, hcm⟩ := hcap
  cases he
  rw [bcells_length] at hv hnc ⊢
  obtain ⟨W, hW⟩ : ∃ W, w.alloc (.cells #[.int .i64 0, .slice none 0 0] 47) = W := ⟨_, rfl⟩
  have hWb : W.heap[w.heap.size]? = some (.cells #[.int .i64 0, .slice none 0 0] 47 (0, 0)) := by rw [← hW]; exact alloc_at _ _
  have hBW : Below w.heap.size w W := by rw [← hW]; exact (Below.refl _ _).alloc (Nat.le_refl _) _
  have hvW := hv.below hBW
  have hG := bGetUint_any W (.slice a l.length c) l at_ hvW ⟨_, _, _, rfl, hnc, hcm⟩ hat (by omega)
  obtain ⟨er, m, k, hgu⟩ : ∃ er m k, gU (l.drop at_) = (er, m, k) := ⟨_, _, _, rfl⟩
  have hrec := wRec_gu hgu
  unfold GuPost guVal guNext guErr at hG
  rw [hgu] at hG
  simp only at hG
  obtain ⟨L, hL⟩ : ∃ L, l.length = L := ⟨_, rfl⟩
  rw [hL] at hG hl hat hnc
  have hdl : (l.drop at_).length = L - at_ := by rw [List.length_drop, hL]
  rw [hdl] at hrec
  have HW := Lib.hid hW
  have HWb := Lib.hid hWb
  have HvW := Lib.hid hvW
  rw [hL] at HvW ⊢
  have HL := Lib.hid hL
  simp only [maxLen] at hcm
  by_cases h0 : er = 0
  · subst h0
    rw [if_pos rfl] at hG hrec
    obtain ⟨g1, g2, g3, g4⟩ := gU_ok hgu
    rw [hdl] at g3
    obtain ⟨A, hA⟩ : ∃ A, at_ + k = A := ⟨_, rfl⟩
    rw [show ((at_ : Int) + (k : Int)) = (A : Int) by omega] at hG
    obtain ⟨D, hD⟩ : ∃ D, L - at_ - k = D := ⟨_, rfl⟩
    rw [hD] at hrec
    have hLA : (L : Int) - A = D := by omega
    have HG := Lib.hid hG
    by_cases h1 : D < m
    · rw [if_pos h1] at hrec
      have Hrec := Lib.hid hrec
      have h1b : (D : Int) < m := by omega
      clear hG hrec hgu hv hvW hW hWb hdl hL hA hD
      go_enter Tryz.func114, Tryz.ntmps114
      go_wp2_with (go_at_call 127; rw [HW.out]; refine HG.out.mono ?_; rintro e w1 ⟨rfl, hB1⟩; obtain ⟨q0, q1, f0, f1⟩ := cells2 ((hB1.block _ (blk_lt HWb.out)).trans HWb.out))
      obtain ⟨y0, y1, _⟩ := cells2 (setCell2_at ((hB1.block _ (blk_lt HWb.out)).trans HWb.out) (.int .i64 0) (.slice none 0 0))
      refine bodyPost_ret (v := .tuple #[recV 0 (.slice none 0 0), .int .i64 0, .bool false]) (by simp [results, Tryz.results114, go_sem, y0, y1, recV]) rfl (WrPost4.bad Hrec.out rfl (below2_4 (hBW.trans (hB1.mono hBW.size)) (Nat.le_refl _) _ _))
    · have hDm : (D : Int) - m = ((D - m : Nat) : Int) := by omega
      obtain ⟨R, hR⟩ : ∃ R, D - m = R := ⟨_, rfl⟩
      rw [hR] at hDm
      have h1b : ¬ (D : Int) < m := by omega
      by_cases h2 : R < 4
      · rw [if_neg h1, if_pos (by omega)] at hrec
        have Hrec := Lib.hid hrec
        have h2b : (R : Int) < 4 := by omega
        clear hG hrec hgu hv hvW hW hWb hdl hL hA hD hR
        go_enter Tryz.func114, Tryz.ntmps114
        go_wp2_with (go_at_call 127; rw [HW.out]; refine HG.out.mono ?_; rintro e w1 ⟨rfl, hB1⟩; obtain ⟨q0, q1, f0, f1⟩ := cells2 ((hB1.block _ (blk_lt HWb.out)).trans HWb.out))
        obtain ⟨y0, y1, _⟩ := cells2 (setCell2_at ((hB1.block _ (blk_lt HWb.out)).trans HWb.out) (.int .i64 0) (.slice none 0 0))
        refine bodyPost_ret (v := .tuple #[recV 0 (.slice none 0 0), .int .i64 0, .bool false]) (by simp [results, Tryz.results114, go_sem, y0, y1, recV]) rfl (WrPost4.bad Hrec.out rfl (below2_4 (hBW.trans (hB1.mono hBW.size)) (Nat.le_refl _) _ _))
      · have h2b : ¬ (R : Int) < 4 := by omega
        obtain ⟨b, o, rfl⟩ := rd_some4 hv (by rw [hL]; omega)
        have hsub := rd_mid4 hvW A (m + 4) (c - A) (by rw [hL]; omega)
        have hXl : ((l.drop A).take (m + 4)).length = m + 4 := by rw [List.length_take, List.length_drop, hL]; omega
        obtain ⟨X, hX⟩ : ∃ X, (l.drop A).take (m + 4) = X := ⟨_, rfl⟩
        rw [hX] at hsub hXl
        obtain ⟨E, hE⟩ : ∃ E, A + m + 4 = E := ⟨_, rfl⟩
        have hE1 : (A : Int) + m + 4 = E := by omega
        have hEc : (E : Int) ≤ c := by omega
        have hAE : (A : Int) ≤ E := by omega
        have hEA : E - A = m + 4 := by omega
        have hA0 : (0 : Int) ≤ A := by omega
        obtain ⟨eu, body, hun⟩ : ∃ eu body, unsealL sumL X = (eu, body) := ⟨_, _, rfl⟩
        obtain ⟨e2, n2, j, hg2⟩ : ∃ e2 n2 j, gU body = (e2, n2, j) := ⟨_, _, _, rfl⟩
        have hUn := fun wX (hX : Below W.heap.size W wX) => bUnseal_any wX (.slice (some ⟨b, o + A, none⟩) (m + 4) (c - A)) X (hsub.below hX) ⟨_, _, _, rfl, by omega, by simp only [maxLen]; omega⟩ (by omega)
        unfold UnPost at hUn
        rw [hun] at hUn
        simp only at hUn
        have hrec2 : wRec sumL (l.drop at_) = if eu = 0 then (if e2 = 0 then (if 9007199254740992 < n2 then none else if 1048576 < body.length - j then none else some (n2, body.drop j, k + m + 4)) else none) else none := by
          refine wRec_un hgu (by rw [hdl]; omega) (by rw [hdl]; omega) ?_ hg2
          rw [List.drop_drop, hA, hX, hun]
        have hbl : body.length ≤ 1099511627776 := by
          have := congrArg Prod.snd hun
          simp only at this
          rw [← this]
          unfold unsealL
          split
          · simp
          · split
            · simp only [List.length_take]; omega
            · simp
        obtain ⟨B, hB⟩ : ∃ B, body.length = B := ⟨_, rfl⟩
        have hG2 : ∀ (w2 : World) (base : Nat) (a2 : Option Addr) (c2 : Nat), w2.ownsRow base 5 1 (.slice a2 B c2) B (bcells body) → Calls Tryz.prog 127 #[.slice a2 B c2, .int .i64 0] w2 fun e w' => e = .returned (.tuple #[.int .u64 n2, .int .i64 (if e2 = 0 then (j : Int) else 0), .int .i64 e2]) ∧ Below w2.heap.size w2 w' := by
          intro w2 base a2 c2 hr
          obtain ⟨a', c', he, hn, hc, _⟩ := row_slice (ownsRow_base0 hr)
          cases he
          have := bGetUint_any w2 (.slice a2 B c2) body 0 (Rd.ofOwns hr) ⟨_, _, _, rfl, hn, hc⟩ (Nat.zero_le _) (by omega)
          rw [List.drop_zero] at this
          unfold GuPost guVal guNext guErr at this
          rw [hg2] at this
          simpa using this
        rw [hB] at hUn hrec2 hbl
        have HUn := Lib.hid hUn
        have HG2 := Lib.hid hG2
        have Hvl := Lib.hid hv
        have HX := Lib.hid hX
        have Hg2 := Lib.hid hg2
        clear hG hrec hgu hv hvW hW hWb hdl hL hD hR hsub hX hE hUn hG2 hun
        by_cases z1 : eu = 0
        · subst z1
          rw [if_pos rfl] at hrec2
          by_cases z2 : e2 = 0
          · subst z2
            rw [if_pos rfl] at hrec2
            obtain ⟨p1, p2, p3, p4, p5⟩ := gU_ok hg2
            rw [hB] at p3
            by_cases z3 : 9007199254740992 < n2
            · have Hrec := Lib.hid (hrec2.trans (if_pos z3))
              have z3b : (9007199254740992 : Int) < n2 := by omega
              clear hrec2 hg2 p1 z3 hA
              go_enter Tryz.func114, Tryz.ntmps114
              go_wp2_with first
                | (go_at_call 127; rw [HW.out]; (with_reducible refine HG.out.mono ?_); rintro e w1 ⟨rfl, hB1⟩; obtain ⟨q0, q1, f0, f1⟩ := cells2 ((hB1.block _ (blk_lt HWb.out)).trans HWb.out))
                | (go_at_call 128; refine (HUn.out w1 hB1).mono ?_; rintro e w2 ⟨a2, c2, rfl, hrow2, hB2⟩; have Hrow2 := Lib.hid hrow2; clear hrow2; have hB12 := hB1.trans (hB2.mono hB1.size); obtain ⟨q0, q1, f0, f1⟩ := cells2 ((hB12.block _ (blk_lt HWb.out)).trans HWb.out))
                | (go_at_call 127; (with_reducible refine (HG2.out w2 _ a2 c2 Hrow2.out).mono ?_); rintro e w3 ⟨rfl, hB3⟩; have hB13 := hB12.trans (hB3.mono hB12.size); obtain ⟨q0, q1, f0, f1⟩ := cells2 ((hB13.block _ (blk_lt HWb.out)).trans HWb.out))
              obtain ⟨y0, y1, _⟩ := cells2 (setCell2_at ((hB13.block _ (blk_lt HWb.out)).trans HWb.out) (.int .i64 0) (.slice none 0 0))
              refine bodyPost_ret (v := .tuple #[recV 0 (.slice none 0 0), .int .i64 0, .bool false]) (by simp [results, Tryz.results114, go_sem, y0, y1, recV]) rfl (WrPost4.bad Hrec.out rfl (below2_4 (hBW.trans (hB13.mono hBW.size)) (Nat.le_refl _) _ _))
            · have z3b : ¬ (9007199254740992 : Int) < n2 := by omega
              rw [if_neg z3] at hrec2
              have hBj : (B : Int) - j = ((B - j : Nat) : Int) := by omega
              obtain ⟨F, hF⟩ : ∃ F, B - j = F := ⟨_, rfl⟩
              rw [hF] at hrec2 hBj
              by_cases z4 : 1048576 < F
              · have Hrec := Lib.hid (hrec2.trans (if_pos z4))
                have z4b : (1048576 : Int) < F := by omega
                clear hrec2 hg2 p1 z3 z4 hA hF
                go_enter Tryz.func114, Tryz.ntmps114
                go_wp2_with first
                  | (go_at_call 127; rw [HW.out]; (with_reducible refine HG.out.mono ?_); rintro e w1 ⟨rfl, hB1⟩; obtain ⟨q0, q1, f0, f1⟩ := cells2 ((hB1.block _ (blk_lt HWb.out)).trans HWb.out))
                  | (go_at_call 128; refine (HUn.out w1 hB1).mono ?_; rintro e w2 ⟨a2, c2, rfl, hrow2, hB2⟩; have Hrow2 := Lib.hid hrow2; clear hrow2; have hB12 := hB1.trans (hB2.mono hB1.size); obtain ⟨q0, q1, f0, f1⟩ := cells2 ((hB12.block _ (blk_lt HWb.out)).trans HWb.out))
                  | (go_at_call 127; (with_reducible refine (HG2.out w2 _ a2 c2 Hrow2.out).mono ?_); rintro e w3 ⟨rfl, hB3⟩; have hB13 := hB12.trans (hB3.mono hB12.size); obtain ⟨q0, q1, f0, f1⟩ := cells2 ((hB13.block _ (blk_lt HWb.out)).trans HWb.out))
                obtain ⟨y0, y1, _⟩ := cells2 (setCell2_at ((hB13.block _ (blk_lt HWb.out)).trans HWb.out) (.int .i64 0) (.slice none 0 0))
                refine bodyPost_ret (v := .tuple #[recV 0 (.slice none 0 0), .int .i64 0, .bool false]) (by simp [results, Tryz.results114, go_sem, y0, y1, recV]) rfl (WrPost4.bad Hrec.out rfl (below2_4 (hBW.trans (hB13.mono hBW.size)) (Nat.le_refl _) _ _))
              · have z4b : ¬ (1048576 : Int) < F := by omega
                have Hrec := Lib.hid (hrec2.trans (if_neg z4))
                have hBp : 0 < body.length := by have := vint_pos n2; omega
                have hjB : (j : Int) ≤ B := by omega
                have hj0 : (0 : Int) ≤ j := by omega
                have hAt : at_ + (k + m + 4) = E := by omega
                have HAt := Lib.hid hAt
                have HF := Lib.hid hF
                have HBl := Lib.hid hB
                have Hp3 := Lib.hid p3
                clear hrec2 hg2 p1 p2 hA hF hB hAt
                go_enter Tryz.func114, Tryz.ntmps114
                go_wp2_with first
                  | (go_at_call 127; rw [HW.out]; (with_reducible refine HG.out.mono ?_); rintro e w1 ⟨rfl, hB1⟩; obtain ⟨q0, q1, f0, f1⟩ := cells2 ((hB1.block _ (blk_lt HWb.out)).trans HWb.out))
                  | (go_at_call 128; refine (HUn.out w1 hB1).mono ?_; rintro e w2 ⟨a2, c2, rfl, hrow2, hB2⟩; have Hrow2 := Lib.hid hrow2; have hB12 := hB1.trans (hB2.mono hB1.size); obtain ⟨q0, q1, f0, f1⟩ := cells2 ((hB12.block _ (blk_lt HWb.out)).trans HWb.out); obtain ⟨g2, o2, rfl⟩ := rd_some4 (Rd.ofOwns hrow2) hBp; obtain ⟨_, _, he2, hn2, hc2, _⟩ := row_slice (ownsRow_base0 hrow2); cases he2; have hgw := row_from hrow2 rfl; have hgl := row_lt hrow2 rfl; have hjc : (j : Int) ≤ c2 := (by omega); have hBc : (B : Int) ≤ c2 := (by omega); clear hrow2)
                  | (go_at_call 127; (with_reducible refine (HG2.out w2 _ _ c2 Hrow2.out).mono ?_); rintro e w3 ⟨rfl, hB3⟩; have hB13 := hB12.trans (hB3.mono hB12.size); obtain ⟨q0, q1, f0, f1⟩ := cells2 ((hB13.block _ (blk_lt HWb.out)).trans HWb.out))
                · rename_i hcj
                  have hBj0 : B - j = 0 := by omega
                  have hnil : body.drop j = [] := List.drop_eq_nil_of_le (by rw [HBl.out]; omega)
                  have hb3 := (hB13.block _ (blk_lt HWb.out)).trans HWb.out
                  obtain ⟨y0, y1, _⟩ := cells2 (setCell2_at hb3 (.int .i64 n2) (.slice (some ⟨g2, o2, none⟩) (B - j) 0))
                  have hlast := below2_4 (hBW.trans (hB13.mono hBW.size)) (Nat.le_refl _) (.int .i64 n2) (.slice (some ⟨g2, o2, none⟩) (B - j) 0)
                  have hs3 := hB3.size
                  refine bodyPost_ret (v := .tuple #[recV n2 (.slice (some ⟨g2, o2, none⟩) (B - j) 0), .int .i64 E, .bool true]) (by simp [results, Tryz.results114, go_sem, y0, y1, recV]) rfl ?_
                  unfold WrPost4
                  rw [Hrec.out]
                  simp only
                  rw [hnil, HAt.out]
                  refine ⟨some ⟨g2, o2, none⟩, 0, ?_, Or.inl ⟨Or.inr ⟨_, _, rfl⟩, rfl⟩, fun g hg => ?_, hlast⟩
                  · rw [hBj0]; rfl
                  · cases hg
                    have := hBW.size; have := hB1.size
                    simp only [World.size_setCell]
                    omega
                · have hrd := rd_mid4 (Rd.ofOwns Hrow2.out) j (B - j) (c2 - j) (by rw [HBl.out]; have := Hp3.out; omega)
                  rw [List.take_of_length_le (by rw [List.length_drop, HBl.out]; exact Nat.le_refl _)] at hrd
                  have hb3 := (hB13.block _ (blk_lt HWb.out)).trans HWb.out
                  obtain ⟨y0, y1, _⟩ := cells2 (setCell2_at hb3 (.int .i64 n2) (.slice (some ⟨g2, o2 + j, none⟩) (B - j) (c2 - j)))
                  have hU := setCell2_upd (w := w3) (b := w.heap.size) (.int .i64 n2) (.slice (some ⟨g2, o2 + j, none⟩) (B - j) (c2 - j))
                  have hgne : g2 ≠ w.heap.size := by have := blk_lt HWb.out; have := hB1.size; omega
                  have hrd3 := (hrd.below hB3).keep hU (fun g hg e => by cases hg; exact hgne e)
                  have hlast := below2_4 (hBW.trans (hB13.mono hBW.size)) (Nat.le_refl _) (.int .i64 n2) (.slice (some ⟨g2, o2 + j, none⟩) (B - j) (c2 - j))
                  have hdl : (body.drop j).length = B - j := by rw [List.length_drop, HBl.out]
                  have hs3 := hB3.size
                  refine bodyPost_ret (v := .tuple #[recV n2 (.slice (some ⟨g2, o2 + j, none⟩) (B - j) (c2 - j)), .int .i64 E, .bool true]) (by simp [results, Tryz.results114, go_sem, y0, y1, recV]) rfl ?_
                  unfold WrPost4
                  rw [Hrec.out]
                  simp only
                  rw [hdl, HAt.out]
                  refine ⟨_, _, rfl, hrd3, fun g hg => ?_, hlast⟩
                  cases hg
                  have := hBW.size; have := hB1.size
                  simp only [World.size_setCell]
                  omega
          · have Hrec := Lib.hid (hrec2.trans (if_neg z2))
            have z2b : (e2 != 0) = true := by simpa using z2
            rw [if_neg z2] at HG2
            clear hrec2 hg2 hA z2
            go_enter Tryz.func114, Tryz.ntmps114
            go_wp2_with first
              | (go_at_call 127; rw [HW.out]; (with_reducible refine HG.out.mono ?_); rintro e w1 ⟨rfl, hB1⟩; obtain ⟨q0, q1, f0, f1⟩ := cells2 ((hB1.block _ (blk_lt HWb.out)).trans HWb.out))
              | (go_at_call 128; refine (HUn.out w1 hB1).mono ?_; rintro e w2 ⟨a2, c2, rfl, hrow2, hB2⟩; have Hrow2 := Lib.hid hrow2; clear hrow2; have hB12 := hB1.trans (hB2.mono hB1.size); obtain ⟨q0, q1, f0, f1⟩ := cells2 ((hB12.block _ (blk_lt HWb.out)).trans HWb.out))
              | (go_at_call 127; (with_reducible refine (HG2.out w2 _ a2 c2 Hrow2.out).mono ?_); rintro e w3 ⟨rfl, hB3⟩; have hB13 := hB12.trans (hB3.mono hB12.size); obtain ⟨q0, q1, f0, f1⟩ := cells2 ((hB13.block _ (blk_lt HWb.out)).trans HWb.out))
            obtain ⟨y0, y1, _⟩ := cells2 (setCell2_at ((hB13.block _ (blk_lt HWb.out)).trans HWb.out) (.int .i64 0) (.slice none 0 0))
            refine bodyPost_ret (v := .tuple #[recV 0 (.slice none 0 0), .int .i64 0, .bool false]) (by simp [results, Tryz.results114, go_sem, y0, y1, recV]) rfl (WrPost4.bad Hrec.out rfl (below2_4 (hBW.trans (hB13.mono hBW.size)) (Nat.le_refl _) _ _))
        · have Hrec := Lib.hid (hrec2.trans (if_neg z1))
          have z1b : (eu != 0) = true := by simpa using z1
          clear hrec2 hg2 hA z1
          go_enter Tryz.func114, Tryz.ntmps114
          go_wp2_with first
            | (go_at_call 127; rw [HW.out]; (with_reducible refine HG.out.mono ?_); rintro e w1 ⟨rfl, hB1⟩; obtain ⟨q0, q1, f0, f1⟩ := cells2 ((hB1.block _ (blk_lt HWb.out)).trans HWb.out))
            | (go_at_call 128; refine (HUn.out w1 hB1).mono ?_; rintro e w2 ⟨a2, c2, rfl, hrow2, hB2⟩; have Hrow2 := Lib.hid hrow2; clear hrow2; have hB12 := hB1.trans (hB2.mono hB1.size); obtain ⟨q0, q1, f0, f1⟩ := cells2 ((hB12.block _ (blk_lt HWb.out)).trans HWb.out))
          obtain ⟨y0, y1, _⟩ := cells2 (setCell2_at ((hB12.block _ (blk_lt HWb.out)).trans HWb.out) (.int .i64 0) (.slice none 0 0))
          refine bodyPost_ret (v := .tuple #[recV 0 (.slice none 0 0), .int .i64 0, .bool false]) (by simp [results, Tryz.results114, go_sem, y0, y1, recV]) rfl (WrPost4.bad Hrec.out rfl (below2_4 (hBW.trans (hB12.mono hBW.size)) (Nat.le_refl _) _ _))
  · rw [if_neg h0] at hG hrec
    have h0b : (er != 0) = true := by simpa using h0
    have HG := Lib.hid hG
    have Hrec := Lib.hid hrec
    clear hG hrec hgu h0 hv hvW hW hWb hdl hL
    go_enter Tryz.func114, Tryz.ntmps114
    go_wp2_with (go_at_call 127; rw [HW.out]; refine HG.out.mono ?_; rintro e w1 ⟨rfl, hB1⟩; obtain ⟨q0, q1, f0, f1⟩ := cells2 ((hB1.block _ (blk_lt HWb.out)).trans HWb.out))
    obtain ⟨y0, y1, _⟩ := cells2 (setCell2_at ((hB1.block _ (blk_lt HWb.out)).trans HWb.out) (.int .i64 0) (.slice none 0 0))
    refine bodyPost_ret (v := .tuple #[recV 0 (.slice none 0 0), .int .i64 0, .bool false]) (by simp [results, Tryz.results114, go_sem, y0, y1, recV]) rfl (WrPost4.bad Hrec.out rfl (below2_4 (hBW.trans (hB1.mono hBW.size)) (Nat.le_refl _) _ _))
end Go.Proofs.YtbiadclmonakkaaGreatDoor

/-
  The records of a segment are read.
-/
namespace Go.Proofs.YtbiadclmonakkaaGreatDoor
open Go.RowKit Go.Maps Go.MapKept

theorem run_append_rowN4 {P : Program} (w : World) (t ty e : TypeId) (i : TypeInfo) (z : Value) (sz bytes : Nat) (ht : P.underlying t = some (.slice e)) (hi : P.info? e = some i) (hz : i.zero = some z)
    (hsize : i.size = sz) (hby : i.bytes = bytes) (hzs : z.cells.size = sz) (hsz : 0 < sz)
    (v : Value) (n m : Nat) (xs news : List Value) (hown : w.ownsRow 0 e sz v n xs) (b off c : Nat) (hl : news.length = m * sz) (hnews : ∀ j u, news[j]? = some u → w.cell? ⟨b, off + j, none⟩ = some u) (h1 : ∀ u ∈ news, u.oneCell' = true)
    (h63 : n + m ≤ maxLen) (hbytes : (n + m) * bytes ≤ 140737488355328) :
    ∃ v' w', (Builtin.append_ #[t, t] ty #[v, .slice (some ⟨b, off, none⟩) m c]).run P w = .ok v' w' ∧ w'.ownsRow 0 e sz v' (n + m) (xs ++ news) ∧ w.grownBy w' v.ownBlock ∧
      (v'.ownBlock = v.ownBlock ∨ ∃ g, v'.ownBlock = some g ∧ w.heap.size ≤ g) := by
  obtain ⟨v', w', hr, ho, hg, hn⟩ := run_append_own (P := P) w 0 t ty e i z sz bytes ht hi hz hsize hby hzs hsz v n xs hown ⟨b, off, none⟩ m c news hl (by simpa [Addr.add_lit] using hnews) h1 h63 hbytes (Nat.zero_le _)
  refine ⟨v', w', hr, ho, hg, ?_⟩
  rcases hown.2 with ⟨rfl, rfl⟩ | ⟨g, cap, cur, rfl, hbg, hgc, hnc, hcm, hcs, htake⟩
  · have hx : xs = [] := List.eq_nil_of_length_eq_zero (by simpa using hown.1)
    subst hx
    obtain ⟨v2, w2, hr2, ho2, _, _⟩ := run_append_own (P := P) w w.heap.size t ty e i z sz bytes ht hi hz hsize hby hzs hsz (.slice none 0 0) 0 [] (World.ownsRow_nil w _ e sz) ⟨b, off, none⟩ m c news hl (by simpa [Addr.add_lit] using hnews) h1 h63 hbytes (Nat.le_refl _)
    rw [hr] at hr2
    cases hr2
    rcases ho2.2 with ⟨rfl, _⟩ | ⟨g', _, _, rfl, hb', _⟩
    · exact Or.inl rfl
    · exact Or.inr ⟨g', rfl, hb'⟩
  · subst hby
    have hsmall : n + m ≤ 9223372036854775807 := by simp only [maxLen] at h63; omega
    by_cases hroom : n + m ≤ cap
    · have hr2 := run_append_room (P := P) w t ty e i ht hi g n cap cur hgc ⟨b, off, none⟩ m c news (by rw [hsize]; exact hl) (by simpa [Addr.add_lit] using hnews) h1 hroom (by rw [hsize, hcs, hl, ← Nat.add_mul]; exact Nat.mul_le_mul_right _ hroom)
      rw [hr] at hr2
      cases hr2
      exact Or.inl rfl
    · have holds : ∀ j u, xs[j]? = some u → w.cell? ((⟨g, 0, none⟩ : Addr).add j) = some u := hown.cells (g := g) rfl
      have hr2 := run_append_grow (P := P) w t ty e i z ht hi hz ⟨g, 0, none⟩ n cap xs (by rw [hsize]; exact hown.1) holds ⟨b, off, none⟩ m c news (by rw [hsize]; exact hl) (by simpa [Addr.add_lit] using hnews) (by omega) (by omega) (growslice_fits (by omega) hbytes)
      rw [hr] at hr2
      cases hr2
      exact Or.inr ⟨w.heap.size, rfl, Nat.le_refl _⟩

/-- a record in memory. -/
structure XRec where
  n : Nat
  b : List UInt8
  vb : Value
def XRec.rec4 (x : XRec) : ARec := ⟨x.n, x.b⟩
def recX (L : List XRec) : List Value := L.flatMap fun x => [.int .i64 (x.n : Int), x.vb]
theorem recX_length (L : List XRec) : (recX L).length = L.length * 2 := by
  induction L with
  | nil => rfl
  | cons x l ih => unfold recX at ih ⊢; rw [List.flatMap_cons, List.length_append, ih]; simp only [List.length_cons, List.length_nil]; omega
theorem recX_app (L M : List XRec) : recX (L ++ M) = recX L ++ recX M := by simp [recX]
theorem recX_get (L : List XRec) (i : Nat) (h : i < L.length) : (recX L)[i * 2]? = some (.int .i64 (L[i].n : Int)) ∧ (recX L)[i * 2 + 1]? = some L[i].vb := by
  induction L generalizing i with
  | nil => simp at h
  | cons x l ih =>
    have he : recX (x :: l) = [.int .i64 (x.n : Int), x.vb] ++ recX l := by simp [recX]
    rw [he]
    cases i with
    | zero => exact ⟨rfl, rfl⟩
    | succ i =>
      have := ih i (by simpa using h)
      rw [List.getElem?_append_right (by simp; omega), List.getElem?_append_right (by simp; omega)]
      simp only [List.length_cons, List.length_nil, List.getElem_cons_succ]
      rw [show (i + 1) * 2 - 2 = i * 2 by omega, show (i + 1) * 2 + 1 - (0 + 1 + 1) = i * 2 + 1 by omega]
      exact this
theorem recX_one (L : List XRec) : ∀ u ∈ recX L, (∀ x ∈ L, x.vb.oneCell' = true) → u.oneCell' = true := by
  intro u hu h
  unfold recX at hu
  rw [List.mem_flatMap] at hu
  obtain ⟨x, hx, hu⟩ := hu
  simp only [List.mem_cons, List.not_mem_nil, or_false] at hu
  rcases hu with rfl | rfl
  · rfl
  · exact h x hx
/-- records whose bytes lie in blocks from base on. -/
structure RecsOk (base : Nat) (w : World) (L : List XRec) : Prop where
  rd : ∀ x ∈ L, Rd w x.vb (bcells x.b)
  own : ∀ x ∈ L, ∀ g, x.vb.ownBlock = some g → base ≤ g ∧ g < w.heap.size
theorem RecsOk.below {base : Nat} {w w' : World} {L : List XRec} (h : RecsOk base w L) (hb : Below w.heap.size w w') : RecsOk base w' L :=
  ⟨fun x hx => (h.rd x hx).below hb, fun x hx g hg => ⟨(h.own x hx g hg).1, Nat.lt_of_lt_of_le (h.own x hx g hg).2 hb.size⟩⟩
theorem RecsOk.upd {base : Nat} {fp : Nat → Prop} {w w' : World} {L : List XRec} (h : RecsOk base w L) (hu : Upd fp w w') (hf : ∀ x ∈ L, ∀ g, x.vb.ownBlock = some g → ¬ fp g) : RecsOk base w' L :=
  ⟨fun x hx => (h.rd x hx).keep hu (hf x hx), fun x hx g hg => ⟨(h.own x hx g hg).1, Nat.lt_of_lt_of_le (h.own x hx g hg).2 hu.size⟩⟩
theorem RecsOk.keep {base : Nat} {ex : Nat → Prop} {w w' : World} {L : List XRec} (h : RecsOk base w L) (hk : Keep ex w w') (hf : ∀ x ∈ L, ∀ g, x.vb.ownBlock = some g → ex g) : RecsOk base w' L :=
  ⟨fun x hx => hk.rd (h.rd x hx) (hf x hx), fun x hx g hg => ⟨(h.own x hx g hg).1, Nat.lt_of_lt_of_le (h.own x hx g hg).2 hk.size⟩⟩
theorem RecsOk.mono {base base' : Nat} {w : World} {L : List XRec} (h : RecsOk base w L) (hb : base' ≤ base) : RecsOk base' w L := ⟨h.rd, fun x hx g hg => ⟨Nat.le_trans hb (h.own x hx g hg).1, (h.own x hx g hg).2⟩⟩
theorem RecsOk.one {base : Nat} {w : World} {L : List XRec} (h : RecsOk base w L) : ∀ u ∈ recX L, u.oneCell' = true := fun u hu => recX_one L u hu (fun x hx => by
  obtain ⟨a, c, e⟩ := (h.rd x hx).shape
  rw [e]; rfl)
theorem RecsOk.nil (base : Nat) (w : World) : RecsOk base w [] := ⟨fun x hx => (by cases hx), fun x hx => (by cases hx)⟩
theorem RecsOk.app {base : Nat} {w : World} {L M : List XRec} (h : RecsOk base w L) (g : RecsOk base w M) : RecsOk base w (L ++ M) :=
  ⟨fun x hx => (List.mem_append.1 hx).elim (h.rd x) (g.rd x), fun x hx => (List.mem_append.1 hx).elim (h.own x) (g.own x)⟩
theorem info_rec : (Tryz.prog.info? 47).map (fun i => (i.zero, i.size, i.bytes)) = some (some (.agg #[.int .i64 0, .slice none 0 0]), 2, 32) := by kernel_rfl
/-- records are appended. -/
theorem run_append_recs (w : World) (v : Value) (n : Nat) (L M : List XRec) (hn : n = L.length) (hown : w.ownsRow 0 47 2 v n (recX L)) (b off m c : Nat) (hm : m = M.length) (hnews : ∀ j u, (recX M)[j]? = some u → w.cell? ⟨b, off + j, none⟩ = some u) (h1 : ∀ u ∈ recX M, u.oneCell' = true) (h63 : n + m ≤ 8589934592) :
    ∃ v' w', (Builtin.append_ #[28, 28] 28 #[v, .slice (some ⟨b, off, none⟩) m c]).run Tryz.prog w = .ok v' w' ∧ w'.ownsRow 0 47 2 v' (n + m) (recX (L ++ M)) ∧ w.grownBy w' v.ownBlock ∧ (v'.ownBlock = v.ownBlock ∨ ∃ g, v'.ownBlock = some g ∧ w.heap.size ≤ g) := by
  obtain ⟨i0, hi, hz0, hz1, hz2⟩ := info_parts info_rec
  rw [recX_app]
  exact run_append_rowN4 (P := Tryz.prog) w 28 28 47 i0 _ 2 32 Tryz.underlying28 hi hz0 hz1 hz2 rfl (by omega) v n m (recX L) (recX M) hown b off c (by rw [recX_length, hm]) hnews h1 (by simp only [maxLen]; omega) (by omega)
/-- one record is appended, as the program does it: its variable, its slice. -/
theorem recs_one (w : World) (v : Value) (L : List XRec) (x : XRec) (z : Int) (hz : z = x.n) (n : Nat) (hn : n = L.length) (hown : w.ownsRow 0 47 2 v n (recX L)) (h1 : x.vb.oneCell' = true) (h63 : n ≤ 1073741823) :
    ∃ v' w', (Builtin.append_ #[28, 28] 28 #[v, .slice (some ⟨w.heap.size + 1, 0, none⟩) 1 1]).run Tryz.prog ((w.alloc (.cells #[.int .i64 z, x.vb] 47)).alloc (.cells #[.int .i64 z, x.vb] 47)) = .ok v' w' ∧ w'.ownsRow 0 47 2 v' (n + 1) (recX (L ++ [x])) ∧
      ((w.alloc (.cells #[.int .i64 z, x.vb] 47)).alloc (.cells #[.int .i64 z, x.vb] 47)).grownBy w' v.ownBlock ∧ (v'.ownBlock = v.ownBlock ∨ ∃ g, v'.ownBlock = some g ∧ w.heap.size ≤ g) := by
  subst hz
  obtain ⟨b0, b1, _⟩ := cells2 (alloc2_at w (.cells #[.int .i64 (x.n : Int), x.vb] 47) (.cells #[.int .i64 (x.n : Int), x.vb] 47))
  obtain ⟨v', w', h2, h3, h4, h5⟩ := run_append_recs ((w.alloc (.cells #[.int .i64 (x.n : Int), x.vb] 47)).alloc (.cells #[.int .i64 (x.n : Int), x.vb] 47)) v n L [x] hn ((((Upd.refl noFp w).alloc _).alloc _).row hown (fun _ _ h => h)) (w.heap.size + 1) 0 1 1 rfl
    (fun j u hu => by
      match j, hu with
      | 0, h => cases h; exact b0
      | 1, h => cases h; exact b1) (fun u hu => by
      have : u = .int .i64 (x.n : Int) ∨ u = x.vb := by simpa [recX] using hu
      rcases this with rfl | rfl
      · rfl
      · exact h1) (by omega)
  refine ⟨v', w', h2, h3, h4, ?_⟩
  rcases h5 with h5 | ⟨g, h5, h6⟩
  · exact Or.inl h5
  · exact Or.inr ⟨g, h5, by simp at h6; omega⟩
theorem row_rec {w : World} {base n : Nat} {v : Value} {xs : List Value} (h : w.ownsRow base 47 2 v n xs) : ∃ a c, v = .slice a n c := by
  obtain ⟨_, ⟨rfl, rfl⟩ | ⟨g, cap, _, rfl, _⟩⟩ := h
  · exact ⟨_, _, rfl⟩
  · exact ⟨_, _, rfl⟩
theorem numbered_len (n : Nat) (R : List (List UInt8)) : (numbered n R).length = R.length := by
  induction R generalizing n with
  | nil => rfl
  | cons b R ih => simp only [numbered, List.length_cons, ih]
theorem numbered_snoc (n : Nat) (R : List (List UInt8)) (b : List UInt8) : numbered n (R ++ [b]) = numbered n R ++ [⟨n + R.length, b⟩] := by
  induction R generalizing n with
  | nil => simp [numbered]
  | cons c R ih => simp only [List.cons_append, numbered, ih, List.length_cons, show n + 1 + R.length = n + (R.length + 1) by omega]
def WrsPost (l : List UInt8) (n : Nat) (w : World) (e : Ending) (w' : World) : Prop :=
  if isHead4 l n = true then ∃ a c L, e = .returned (.tuple #[.slice a (recsOf l n).length c, .int .i64 (goodOf l n), .bool true]) ∧ w'.ownsRow w.heap.size 47 2 (.slice a (recsOf l n).length c) (recsOf l n).length (recX L) ∧ RecsOk w.heap.size w' L ∧ L.map XRec.rec4 = numbered n (recsOf l n) ∧ Below w.heap.size w w'
  else e = .returned (.tuple #[.slice none 0 0, .int .i64 0, .bool false]) ∧ Below w.heap.size w w'
set_option maxRecDepth 100000 in
set_option maxHeartbeats 8000000 in
theorem wrecords_any (w : World) (v : Value) (l : List UInt8) (n : Nat) (hv : Rd w v (bcells l)) (hcap : CapOk v) (hn : n ≤ 9007199254740992) (hl : l.length ≤ 1073741824) :
    Calls Tryz.prog 83 #[v, .int .i64 n] w (WrsPost l n w) := by
  obtain ⟨a, c, rfl⟩ := hv.shape
  obtain ⟨_, _, _, he, hnc, hcm⟩ := hcap
  cases he
  rw [bcells_length] at hv hnc ⊢
  have hH := whead_any w n (by omega)
  have hhl := hd4_len n (by omega)
  obtain ⟨h, hh⟩ : ∃ h, hd4 n = h := ⟨_, rfl⟩
  have hIs : isHead4 l n = decide (l.take h.length = h) := by unfold isHead4; rw [hh]
  have hRs : recsOf l n = (wRecs sumL (l.drop h.length) n).1 := by unfold recsOf; rw [hh]
  have hGo : goodOf l n = h.length + (wRecs sumL (l.drop h.length) n).2 := by unfold goodOf; rw [hh]
  rw [hh] at hH hhl
  obtain ⟨H, hHl⟩ : ∃ H, h.length = H := ⟨_, rfl⟩
  rw [hHl] at hH hhl hIs hRs hGo
  obtain ⟨L, hL⟩ : ∃ L, l.length = L := ⟨_, rfl⟩
  rw [hL] at hl hv hnc ⊢
  have Hv := Lib.hid hv
  have HH := Lib.hid hH
  have HIs := Lib.hid hIs
  have HRs := Lib.hid hRs
  have HGo := Lib.hid hGo
  have HHl := Lib.hid hHl
  have HL := Lib.hid hL
  by_cases h1 : L < H
  · have hno : isHead4 l n = false := by
      rw [hIs, decide_eq_false]
      intro e
      have := congrArg List.length e
      rw [List.length_take, hL, hHl] at this
      omega
    have Hno := Lib.hid hno
    have h1b : (L : Int) < H := by omega
    clear hv hH hIs hRs hGo hHl hL hno hh
    go_enter Tryz.func83, Tryz.ntmps83
    go_wp2_with (go_at_call 84; refine HH.out.mono ?_; rintro e w1 ⟨a1, c1, rfl, hrow1, hB1⟩; clear hrow1)
    go_ret3
    unfold WrsPost
    rw [Hno.out, if_neg (by simp)]
    exact ⟨rfl, hB1⟩
  · have h1b : ¬ (L : Int) < H := by omega
    have hHc : (H : Int) ≤ c := by omega
    have hH0 : (0 : Int) ≤ H := by omega
    have hsub := rd_prefix hv H (by omega)
    rw [← bcells_take] at hsub
    have hxl : (l.take H).length = H := by rw [List.length_take, hL]; omega
    obtain ⟨X, hX⟩ : ∃ X, l.take H = X := ⟨_, rfl⟩
    rw [hX] at hsub hxl hIs
    have hEq := fun wX (h1 : Rd wX (.slice a H c) (bcells X)) vX (h2 : Rd wX vX (bcells h)) => slEqual_any wX _ vX X h h1 h2 (by omega)
    rw [← hIs] at hEq
    have HEq := Lib.hid hEq
    have Hsub := Lib.hid hsub
    cases hb : isHead4 l n with
    | false =>
      rw [hb] at HEq
      have Hno := Lib.hid hb
      clear hv hH hIs hRs hGo hHl hL hh hEq hsub hX hb HIs
      go_enter Tryz.func83, Tryz.ntmps83
      go_wp2_with first
        | (go_at_call 84; refine HH.out.mono ?_; rintro e w1 ⟨a1, c1, rfl, hrow1, hB1⟩; have Hrow1 := Lib.hid hrow1; clear hrow1)
        | (go_at_call 113; refine (HEq.out w1 (Hsub.out.below hB1) _ (Rd.ofOwns Hrow1.out)).mono ?_; rintro e w2 ⟨rfl, hB2⟩)
      go_ret3
      unfold WrsPost
      rw [Hno.out, if_neg (by simp)]
      exact ⟨rfl, hB1.trans (hB2.mono hB1.size)⟩
    | true =>
      rw [hb] at HEq
      have Hyes := Lib.hid hb
      have hWq : wRecs sumL (l.drop H) n = wRecs sumL (l.drop H) (n + 0) := rfl
      clear hv hH hIs hRs hGo hHl hL hh hEq hsub hX hb HIs
      go_enter Tryz.func83, Tryz.ntmps83
      go_wp2_with first
        | (go_at_call 84; refine HH.out.mono ?_; rintro e w1 ⟨a1, c1, rfl, hrow1, hB1⟩; have Hrow1 := Lib.hid hrow1; clear hrow1)
        | (go_at_call 113; refine (HEq.out w1 (Hsub.out.below hB1) _ (Rd.ofOwns Hrow1.out)).mono ?_; rintro e w2 ⟨rfl, hB2⟩)
      go_loopw [8, 9] (fun vo va wr => ∃ (A k : Nat) (dn : List (List UInt8)) (XL : List XRec) (ao : Option Addr) (co : Nat), va = .int .i64 A ∧ A ≤ L ∧ H ≤ A ∧ k + 9 ≤ A ∧ vo = .slice ao k co ∧ dn.length = k ∧ XL.length = k ∧ wr.ownsRow w.heap.size 47 2 (.slice ao k co) k (recX XL) ∧ RecsOk w.heap.size wr XL ∧ XL.map XRec.rec4 = numbered n dn ∧ (∀ x ∈ XL, ∀ g, x.vb.ownBlock = some g → (Value.slice ao k co).ownBlock ≠ some g) ∧
          wRecs sumL (l.drop H) n = (dn ++ (wRecs sumL (l.drop A) (n + k)).1, (A - H) + (wRecs sumL (l.drop A) (n + k)).2) ∧ Below w.heap.size w wr) (fun _ va _ => L - (intOf va).toNat)
      case atStart => exact ⟨H, 0, [], [], none, 0, rfl, by omega, Nat.le_refl _, by omega, rfl, rfl, rfl, World.ownsRow_nil _ _ _ _, RecsOk.nil _ _, rfl, fun x hx => (by cases hx), by rw [Nat.sub_self, Nat.zero_add]; rfl, hB1.trans (hB2.mono hB1.size)⟩
      case round =>
        obtain ⟨A, k, dn, XL, ao, co, rfl, hAL, hHA, hkA, rfl, hdk, hXk, hrow, hok, hmap, hne, heq, hB⟩ := hrel
        have hR := wrecord_any wr _ l A (Hv.out.below hB) ⟨_, _, _, rfl, hnc, hcm⟩ (by rw [HL.out]; exact hAL) (by rw [HL.out]; omega)
        have Hrow := Lib.hid hrow
        have Hok := Lib.hid hok
        have Hmap := Lib.hid hmap
        have Hne := Lib.hid hne
        have Heq := Lib.hid heq
        have Hdk := Lib.hid hdk
        have HXk := Lib.hid hXk
        have hend : wRecs sumL (l.drop A) (n + k) = ([], 0) → ∀ wx, Below wr.heap.size wr wx → WrsPost l n w (.returned (.tuple #[.slice ao k co, .int .i64 A, .bool true])) wx := by
          intro h0 wx hx
          rw [h0] at heq
          have hr1 : recsOf l n = dn := by rw [HRs.out, heq]; simp
          have hg1 : goodOf l n = A := by rw [HGo.out, heq]; simp only; omega
          unfold WrsPost
          rw [Hyes.out, if_pos rfl, hr1, hg1, Hdk.out]
          exact ⟨ao, co, XL, rfl, ((Upd.refl noFp wr).thenBelow hx (Nat.le_refl _)).row Hrow.out (fun _ _ h => h), Hok.out.below hx, Hmap.out, hB.trans (hx.mono hB.size)⟩
        have Hend := Lib.hid hend
        clear hrow hok hmap hne heq hdk hXk hend
        unfold WrPost4 at hR
        cases hw : wRec sumL (l.drop A) with
        | none =>
          rw [hw] at hR
          simp only at hR
          have He := Lib.hid (Hend.out (wRecs_none sumL hw))
          have HR := Lib.hid hR
          clear hR hw Hend
          go_wp2_with (go_at_call 114; unfold recV at HR; refine HR.out.mono ?_; rintro e w3 ⟨rfl, hB3⟩)
          go_ret3
          exact He.out _ (hB3.alloc (by have := hB3.size; omega) _)
        | some r =>
          obtain ⟨n', b, t⟩ := r
          rw [hw] at hR
          simp only at hR
          obtain ⟨t1, t2, t3, t4⟩ := wRec_len sumL hw
          rw [List.length_drop, HL.out] at t2
          have HR := Lib.hid hR
          obtain ⟨nb, hnb⟩ : ∃ y, b.length = y := ⟨_, rfl⟩
          have Hnb := Lib.hid hnb
          rw [hnb] at HR
          by_cases hq : n' = n + k
          · subst hq
            have hs := wRecs_some sumL hw
            rw [List.drop_drop] at hs
            have Hs := Lib.hid hs
            have hqb : (((n + k : Nat) : Int) != (n : Int) + k) = false := by simp
            clear hR hw Hend hs hnb
            go_wp2_with first
              | (go_at_call 114; unfold recV at HR; refine HR.out.mono ?_; rintro e w3 ⟨a3, c3, rfl, hrd3, hown3, hB3⟩; have Hrd3 := Lib.hid hrd3; have Hown3 := Lib.hid hown3; clear hrd3 hown3; obtain ⟨v', w5, hrun, hro, hg5, hb5⟩ := recs_one w3 (.slice ao k co) XL ⟨n + k, b, .slice a3 nb c3⟩ ((n : Int) + k) rfl k HXk.out.symm (((Upd.refl noFp wr).thenBelow hB3 (Nat.le_refl _)).row (ownsRow_base0 Hrow.out) (fun _ _ h => h)) rfl (by omega); have Hrun := Lib.hid hrun; obtain ⟨a', c', rfl⟩ := row_rec hro; have Hro := Lib.hid hro; have Hg5 := Lib.hid hg5; have Hb5 := Lib.hid hb5; clear hrun hro hg5 hb5)
              | (at_builtin; refine Lib.wpList_append_run _ rfl (.tmp 51) (.tmp 53) _ _ rfl _ _ rfl rfl _ _ Hrun.out ?_)
            have hBx : Below wr.heap.size wr ((w3.alloc (.cells #[.int .i64 ((n : Int) + k), .slice a3 nb c3] 47)).alloc (.cells #[.int .i64 ((n : Int) + k), .slice a3 nb c3] 47)) := (hB3.alloc hB3.size _).alloc (by have := hB3.size; simp; omega) _
            have hU : Upd (fun g => (Value.slice ao k co).ownBlock = some g) wr w5 := ((Upd.refl _ wr).thenBelow hBx (Nat.le_refl _)).grown Hg5.out (fun g hg => Or.inl hg)
            have hs3 := hB3.size
            have hswr := hB.size
            have hsx := hBx.size
            have hrow5 : w5.ownsRow w.heap.size 47 2 (.slice a' (k + 1) c') (k + 1) (recX (XL ++ [⟨n + k, b, .slice a3 nb c3⟩])) := by
              refine ownsRow_from Hro.out (fun g hg => ?_)
              rcases Hb5.out with h3 | ⟨g', h3, hg'⟩
              · exact row_from Hrow.out (h3 ▸ hg)
              · rw [h3] at hg; cases hg; omega
            have hold : RecsOk w.heap.size w5 XL := Hok.out.upd hU (fun x hx g hg => Hne.out x hx g hg)
            have hnewU : Upd (fun g => (Value.slice ao k co).ownBlock = some g) w3 w5 := ((((Upd.refl _ w3).alloc _).alloc _).grown Hg5.out (fun g hg => Or.inl hg))
            have hnew : RecsOk w.heap.size w5 [⟨n + k, b, .slice a3 nb c3⟩] := by
              refine ⟨fun x hx => ?_, fun x hx g hg => ?_⟩
              · simp only [List.mem_singleton] at hx
                subst hx
                refine (Hrd3.out).keep hnewU (fun g hg e => ?_)
                have h5 := (Hown3.out g hg).1
                have h6 := row_lt Hrow.out e
                omega
              · simp only [List.mem_singleton] at hx
                subst hx
                have h5 := Hown3.out g hg
                have := hnewU.size
                omega
            have hne5 : ∀ x ∈ XL ++ [⟨n + k, b, .slice a3 nb c3⟩], ∀ g, x.vb.ownBlock = some g → (Value.slice a' (k + 1) c').ownBlock ≠ some g := by
              intro x hx g hg e
              rcases Hb5.out with h3 | ⟨g', h3, hg'⟩
              · rw [h3] at e
                rcases List.mem_append.1 hx with hx | hx
                · exact Hne.out x hx g hg e
                · simp only [List.mem_singleton] at hx
                  subst hx
                  have h5 := (Hown3.out g hg).1
                  have h6 := row_lt Hrow.out e
                  omega
              · rw [h3] at e
                cases e
                rcases List.mem_append.1 hx with hx | hx
                · have := (Hok.out.own x hx _ hg).2; omega
                · simp only [List.mem_singleton] at hx
                  subst hx
                  have := (Hown3.out _ hg).2; omega
            have hB5 : Below w.heap.size w w5 := hB.trans (hU.below (fun g hg => row_from Hrow.out hg) hB.size)
            have heq5 : wRecs sumL (l.drop H) n = (dn ++ [b] ++ (wRecs sumL (l.drop (A + t)) (n + (k + 1))).1, (A + t - H) + (wRecs sumL (l.drop (A + t)) (n + (k + 1))).2) := by
              rw [Heq.out, Hs.out, show n + k + 1 = n + (k + 1) by omega]
              simp only [List.append_assoc, List.singleton_append]
              congr 1
              omega
            have Hrow5 := Lib.hid hrow5
            have Hok5 := Lib.hid (hold.app hnew)
            have Hne5 := Lib.hid hne5
            have Heq5 := Lib.hid heq5
            have Hmap5 : Hid ((XL ++ ([⟨n + k, b, .slice a3 nb c3⟩] : List XRec)).map XRec.rec4 = numbered n (dn ++ [b])) := Lib.hid (by rw [List.map_append, Hmap.out, numbered_snoc, Hdk.out]; rfl)
            clear hrow5 hold hnew hnewU hne5 heq5 hU hBx
            go_roundw
            case rel => exact ⟨A + t, k + 1, dn ++ [b], XL ++ [⟨n + k, b, .slice a3 nb c3⟩], a', c', rfl, by omega, by omega, by omega, rfl, by rw [List.length_append, Hdk.out]; rfl, by rw [List.length_append, HXk.out]; rfl, Hrow5.out, Hok5.out, Hmap5.out, Hne5.out, Heq5.out, hB5⟩
            case measure => simp only [intOf]; omega
          · have He := Lib.hid (Hend.out (wRecs_other sumL hw hq))
            have hqb : ((n' : Int) != (n : Int) + k) = true := by
              have : (n' : Int) ≠ (n : Int) + k := fun e => hq (by omega)
              simpa using this
            clear hR hw Hend hq hnb
            go_wp2_with (go_at_call 114; unfold recV at HR; refine HR.out.mono ?_; rintro e w3 ⟨a3, c3, rfl, hrd3, hown3, hB3⟩)
            go_ret3
            exact He.out _ (hB3.alloc (by have := hB3.size; omega) _)
end Go.Proofs.YtbiadclmonakkaaGreatDoor
