/-
  A record of a journal is read.
-/
import Derived.Outline
import Derived.BigQuiet
import Derived.Deep.QuietTactic
import Derived.Deep.RegionHeld3
import Derived.Test.YtbiadclmonakkaaGreatDoorMWlA
import Derived.Test.YtbiadclmonakkaaGreatDoorMByA
import Derived.Lib.SlBytesConst
import Derived.Test.YtbiadclmonakkaaGreatDoorMWmA
import Derived.Sort.OwnSortedInts
import Derived.Deep.Upon
namespace Go.Proofs.YtbiadclmonakkaaGreatDoor
open Go.RowKit Go.Maps Go.MapKept

theorem rd_mid4 {w : World} {b o n c : Nat} {l : List UInt8} (h : Rd w (.slice (some ⟨b, o, none⟩) n c) (bcells l)) (i m c' : Nat) (him : i + m ≤ l.length) : Rd w (.slice (some ⟨b, o + i, none⟩) m c') (bcells ((l.drop i).take m)) := by
  have hlen : ((l.drop i).take m).length = m := by rw [List.length_take, List.length_drop]; omega
  refine Or.inr ⟨b, o + i, m, c', rfl, by rw [bcells_length, hlen], fun j u hj => ?_⟩
  have hjl := (List.getElem?_eq_some_iff.1 hj).1
  rw [bcells_length, hlen] at hjl
  rcases h with ⟨_, h0⟩ | ⟨b', o', n', c2, he, _, hc⟩
  · have : l.length = 0 := by rw [← bcells_length l, h0]; rfl
    omega
  · cases he
    rw [bcells_at (by rw [hlen]; exact hjl)] at hj
    cases hj
    have := hc (i + j) _ (bcells_at (by omega))
    rw [← Nat.add_assoc] at this
    rw [this]
    congr 4
    rw [List.getElem_take, List.getElem_drop]
theorem rd_some4 {w : World} {a : Option Addr} {n c : Nat} {l : List UInt8} (h : Rd w (.slice a n c) (bcells l)) (hp : 0 < l.length) : ∃ b o, a = some ⟨b, o, none⟩ := by
  rcases h with ⟨_, h0⟩ | ⟨b, o, n', c2, he, _, _⟩
  · have : l.length = 0 := by rw [← bcells_length l, h0]; rfl
    omega
  · cases he; exact ⟨b, o, rfl⟩
/-- a record as a value. -/
def recV (n : Int) (vb : Value) : Value := .agg #[.int .i64 n, vb]
def WrPost4 (l : List UInt8) (at_ : Nat) (w : World) (e : Ending) (w' : World) : Prop :=
  match wRec sumL l with
  | none => e = .returned (.tuple #[recV 0 (.slice none 0 0), .int .i64 0, .bool false]) ∧ Below w.heap.size w w'
  | some (n, b, t) => ∃ a c, e = .returned (.tuple #[recV n (.slice a b.length c), .int .i64 ((at_ + t : Nat) : Int), .bool true]) ∧ Rd w' (.slice a b.length c) (bcells b) ∧ (∀ g, (Value.slice a b.length c).ownBlock = some g → w.heap.size ≤ g ∧ g < w'.heap.size) ∧ Below w.heap.size w w'
theorem WrPost4.bad {l : List UInt8} {at_ : Nat} {w w' : World} {e : Ending} (h : wRec sumL l = none) (h1 : e = .returned (.tuple #[recV 0 (.slice none 0 0), .int .i64 0, .bool false])) (h2 : Below w.heap.size w w') : WrPost4 l at_ w e w' := by
  unfold WrPost4
  rw [h]
  exact ⟨h1, h2⟩
theorem wRec_gu {l : List UInt8} {er : Int} {m k : Nat} (h : gU l = (er, m, k)) : wRec sumL l = if er = 0 then (if l.length - k < m then none else if l.length - k - m < 4 then none else
    match unsealL sumL ((l.drop k).take (m + 4)) with
    | (0, body) => match gU body with
      | (0, n, j) => if 9007199254740992 < n then none else if 1048576 < body.length - j then none else some (n, body.drop j, k + m + 4)
      | _ => none
    | _ => none) else none := by
  unfold wRec
  rw [h]
  by_cases h0 : er = 0
  · subst h0; rfl
  · rw [if_neg h0]
    split
    · rename_i heq
      simp only [Prod.mk.injEq] at heq
      exact absurd heq.1 h0
    · rfl
theorem wRec_un {l : List UInt8} {m k : Nat} (h : gU l = (0, m, k)) (h1 : m ≤ l.length - k) (h2 : 4 ≤ l.length - k - m) {eu : Int} {body : List UInt8} (hu : unsealL sumL ((l.drop k).take (m + 4)) = (eu, body)) {e2 : Int} {n j : Nat} (hg : gU body = (e2, n, j)) :
    wRec sumL l = if eu = 0 then (if e2 = 0 then (if 9007199254740992 < n then none else if 1048576 < body.length - j then none else some (n, body.drop j, k + m + 4)) else none) else none := by
  rw [wRec_gu h, if_pos rfl, if_neg (by omega), if_neg (by omega), hu]
  by_cases h0 : eu = 0
  · subst h0
    rw [if_pos rfl]
    simp only [hg]
    by_cases h3 : e2 = 0
    · subst h3; rfl
    · rw [if_neg h3]
      split
      · rename_i heq
        simp only [Prod.mk.injEq] at heq
        exact absurd heq.1 h3
      · rfl
  · rw [if_neg h0]
    split
    · rename_i heq
      simp only [Prod.mk.injEq] at heq
      exact absurd heq.1 h0
    · rfl
theorem below2_4 {N : Nat} {w0 w1 : World} (h : Below N w0 w1) {b : Nat} (hb : N ≤ b) (x y : Value) : Below N w0 ((w1.setCell ⟨b, 0, none⟩ x).setCell ⟨b, 1, none⟩ y) := (h.setCell (p := ⟨b, 0, none⟩) hb x).setCell (p := ⟨b, 1, none⟩) hb y
set_option maxRecDepth 100000 in
set_option maxHeartbeats 8000000 in
theorem wrecord_any (w : World) (v : Value) (l : List UInt8) (at_ : Nat) (hv : Rd w v (bcells l)) (hcap : CapOk v) (hat : at_ ≤ l.length) (hl : l.length ≤ 1099511627776) :
    Calls Tryz.prog 114 #[v, .int .i64 at_] w (WrPost4 (l.drop at_) at_ w) := by
  obtain ⟨a, c, rfl⟩ := hv.shape
  obtain ⟨_, _, _, he, hnc, hcm⟩ := hcap
  cases he
  rw [bcells_length] at hv hnc ⊢
  obtain ⟨W, hW⟩ : ∃ W, w.alloc (.cells #[.int .i64 0, .slice none 0 0] 47) = W := ⟨_, rfl⟩
  have hWb : W.heap[w.heap.size]? = some (.cells #[.int .i64 0, .slice none 0 0] 47 (0, 0)) := by rw [← hW]; exact alloc_at _ _
  have hBW : Below w.heap.size w W := by rw [← hW]; exact (Below.refl _ _).alloc (Nat.le_refl _) _
  have hvW := hv.below hBW
  have hG := bGetUint_any W (.slice a l.length c) l at_ hvW ⟨_, _, _, rfl, hnc, hcm⟩ hat (by omega)
  obtain ⟨er, m, k, hgu⟩ : ∃ er m k, gU (l.drop at_) = (er, m, k) := ⟨_, _, _, rfl⟩
  have hrec := wRec_gu hgu
  unfold GuPost guVal guNext guErr at hG
  rw [hgu] at hG
  simp only at hG
  obtain ⟨L, hL⟩ : ∃ L, l.length = L := ⟨_, rfl⟩
  rw [hL] at hG hl hat hnc
  have hdl : (l.drop at_).length = L - at_ := by rw [List.length_drop, hL]
  rw [hdl] at hrec
  have HW := Lib.hid hW
  have HWb := Lib.hid hWb
  have HvW := Lib.hid hvW
  rw [hL] at HvW ⊢
  have HL := Lib.hid hL
  simp only [maxLen] at hcm
  by_cases h0 : er = 0
  · subst h0
    rw [if_pos rfl] at hG hrec
    obtain ⟨g1, g2, g3, g4⟩ := gU_ok hgu
    rw [hdl] at g3
    obtain ⟨A, hA⟩ : ∃ A, at_ + k = A := ⟨_, rfl⟩
    rw [show ((at_ : Int) + (k : Int)) = (A : Int) by omega] at hG
    obtain ⟨D, hD⟩ : ∃ D, L - at_ - k = D := ⟨_, rfl⟩
    rw [hD] at hrec
    have hLA : (L : Int) - A = D := by omega
    have HG := Lib.hid hG
    by_cases h1 : D < m
    · rw [if_pos h1] at hrec
      have Hrec := Lib.hid hrec
      have h1b : (D : Int) < m := by omega
      clear hG hrec hgu hv hvW hW hWb hdl hL hA hD
      go_enter Tryz.func114, Tryz.ntmps114
      go_wp2_with (go_at_call 127; rw [HW.out]; refine HG.out.mono ?_; rintro e w1 ⟨rfl, hB1⟩; obtain ⟨q0, q1, f0, f1⟩ := cells2 ((hB1.block _ (blk_lt HWb.out)).trans HWb.out))
      obtain ⟨y0, y1, _⟩ := cells2 (setCell2_at ((hB1.block _ (blk_lt HWb.out)).trans HWb.out) (.int .i64 0) (.slice none 0 0))
      refine bodyPost_ret (v := .tuple #[recV 0 (.slice none 0 0), .int .i64 0, .bool false]) (by simp [results, Tryz.results114, go_sem, y0, y1, recV]) rfl (WrPost4.bad Hrec.out rfl (below2_4 (hBW.trans (hB1.mono hBW.size)) (Nat.le_refl _) _ _))
    · have hDm : (D : Int) - m = ((D - m : Nat) : Int) := by omega
      obtain ⟨R, hR⟩ : ∃ R, D - m = R := ⟨_, rfl⟩
      rw [hR] at hDm
      have h1b : ¬ (D : Int) < m := by omega
      by_cases h2 : R < 4
      · rw [if_neg h1, if_pos (by omega)] at hrec
        have Hrec := Lib.hid hrec
        have h2b : (R : Int) < 4 := by omega
        clear hG hrec hgu hv hvW hW hWb hdl hL hA hD hR
        go_enter Tryz.func114, Tryz.ntmps114
        go_wp2_with (go_at_call 127; rw [HW.out]; refine HG.out.mono ?_; rintro e w1 ⟨rfl, hB1⟩; obtain ⟨q0, q1, f0, f1⟩ := cells2 ((hB1.block _ (blk_lt HWb.out)).trans HWb.out))
        obtain ⟨y0, y1, _⟩ := cells2 (setCell2_at ((hB1.block _ (blk_lt HWb.out)).trans HWb.out) (.int .i64 0) (.slice none 0 0))
        refine bodyPost_ret (v := .tuple #[recV 0 (.slice none 0 0), .int .i64 0, .bool false]) (by simp [results, Tryz.results114, go_sem, y0, y1, recV]) rfl (WrPost4.bad Hrec.out rfl (below2_4 (hBW.trans (hB1.mono hBW.size)) (Nat.le_refl _) _ _))
      · have h2b : ¬ (R : Int) < 4 := by omega
        obtain ⟨b, o, rfl⟩ := rd_some4 hv (by rw [hL]; omega)
        have hsub := rd_mid4 hvW A (m + 4) (c - A) (by rw [hL]; omega)
        have hXl : ((l.drop A).take (m + 4)).length = m + 4 := by rw [List.length_take, List.length_drop, hL]; omega
        obtain ⟨X, hX⟩ : ∃ X, (l.drop A).take (m + 4) = X := ⟨_, rfl⟩
        rw [hX] at hsub hXl
        obtain ⟨E, hE⟩ : ∃ E, A + m + 4 = E := ⟨_, rfl⟩
        have hE1 : (A : Int) + m + 4 = E := by omega
        have hEc : (E : Int) ≤ c := by omega
        have hAE : (A : Int) ≤ E := by omega
        have hEA : E - A = m + 4 := by omega
        have hA0 : (0 : Int) ≤ A := by omega
        obtain ⟨eu, body, hun⟩ : ∃ eu body, unsealL sumL X = (eu, body) := ⟨_, _, rfl⟩
        obtain ⟨e2, n2, j, hg2⟩ : ∃ e2 n2 j, gU body = (e2, n2, j) := ⟨_, _, _, rfl⟩
        have hUn := fun wX (hX : Below W.heap.size W wX) => bUnseal_any wX (.slice (some ⟨b, o + A, none⟩) (m + 4) (c - A)) X (hsub.below hX) ⟨_, _, _, rfl, by omega, by simp only [maxLen]; omega⟩ (by omega)
        unfold UnPost at hUn
        rw [hun] at hUn
        simp only at hUn
        have hrec2 : wRec sumL (l.drop at_) = if eu = 0 then (if e2 = 0 then (if 9007199254740992 < n2 then none else if 1048576 < body.length - j then none else some (n2, body.drop j, k + m + 4)) else none) else none := by
          refine wRec_un hgu (by rw [hdl]; omega) (by rw [hdl]; omega) ?_ hg2
          rw [List.drop_drop, hA, hX, hun]
        have hbl : body.length ≤ 1099511627776 := by
          have := congrArg Prod.snd hun
          simp only at this
          rw [← this]
          unfold unsealL
          split
          · simp
          · split
            · simp only [List.length_take]; omega
            · simp
        obtain ⟨B, hB⟩ : ∃ B, body.length = B := ⟨_, rfl⟩
        have hG2 : ∀ (w2 : World) (base : Nat) (a2 : Option Addr) (c2 : Nat), w2.ownsRow base 5 1 (.slice a2 B c2) B (bcells body) → Calls Tryz.prog 127 #[.slice a2 B c2, .int .i64 0] w2 fun e w' => e = .returned (.tuple #[.int .u64 n2, .int .i64 (if e2 = 0 then (j : Int) else 0), .int .i64 e2]) ∧ Below w2.heap.size w2 w' := by
          intro w2 base a2 c2 hr
          obtain ⟨a', c', he, hn, hc, _⟩ := row_slice (ownsRow_base0 hr)
          cases he
          have := bGetUint_any w2 (.slice a2 B c2) body 0 (Rd.ofOwns hr) ⟨_, _, _, rfl, hn, hc⟩ (Nat.zero_le _) (by omega)
          rw [List.drop_zero] at this
          unfold GuPost guVal guNext guErr at this
          rw [hg2] at this
          simpa using this
        rw [hB] at hUn hrec2 hbl
        have HUn := Lib.hid hUn
        have HG2 := Lib.hid hG2
        have Hvl := Lib.hid hv
        have HX := Lib.hid hX
        have Hg2 := Lib.hid hg2
        clear hG hrec hgu hv hvW hW hWb hdl hL hD hR hsub hX hE hUn hG2 hun
        by_cases z1 : eu = 0
        · subst z1
          rw [if_pos rfl] at hrec2
          by_cases z2 : e2 = 0
          · subst z2
            rw [if_pos rfl] at hrec2
            obtain ⟨p1, p2, p3, p4, p5⟩ := gU_ok hg2
            rw [hB] at p3
            by_cases z3 : 9007199254740992 < n2
            · have Hrec := Lib.hid (hrec2.trans (if_pos z3))
              have z3b : (9007199254740992 : Int) < n2 := by omega
              clear hrec2 hg2 p1 z3 hA
              go_enter Tryz.func114, Tryz.ntmps114
              go_wp2_with first
                | (go_at_call 127; rw [HW.out]; (with_reducible refine HG.out.mono ?_); rintro e w1 ⟨rfl, hB1⟩; obtain ⟨q0, q1, f0, f1⟩ := cells2 ((hB1.block _ (blk_lt HWb.out)).trans HWb.out))
                | (go_at_call 128; refine (HUn.out w1 hB1).mono ?_; rintro e w2 ⟨a2, c2, rfl, hrow2, hB2⟩; have Hrow2 := Lib.hid hrow2; clear hrow2; have hB12 := hB1.trans (hB2.mono hB1.size); obtain ⟨q0, q1, f0, f1⟩ := cells2 ((hB12.block _ (blk_lt HWb.out)).trans HWb.out))
                | (go_at_call 127; (with_reducible refine (HG2.out w2 _ a2 c2 Hrow2.out).mono ?_); rintro e w3 ⟨rfl, hB3⟩; have hB13 := hB12.trans (hB3.mono hB12.size); obtain ⟨q0, q1, f0, f1⟩ := cells2 ((hB13.block _ (blk_lt HWb.out)).trans HWb.out))
              obtain ⟨y0, y1, _⟩ := cells2 (setCell2_at ((hB13.block _ (blk_lt HWb.out)).trans HWb.out) (.int .i64 0) (.slice none 0 0))
              refine bodyPost_ret (v := .tuple #[recV 0 (.slice none 0 0), .int .i64 0, .bool false]) (by simp [results, Tryz.results114, go_sem, y0, y1, recV]) rfl (WrPost4.bad Hrec.out rfl (below2_4 (hBW.trans (hB13.mono hBW.size)) (Nat.le_refl _) _ _))
            · have z3b : ¬ (9007199254740992 : Int) < n2 := by omega
              rw [if_neg z3] at hrec2
              have hBj : (B : Int) - j = ((B - j : Nat) : Int) := by omega
              obtain ⟨F, hF⟩ : ∃ F, B - j = F := ⟨_, rfl⟩
              rw [hF] at hrec2 hBj
              by_cases z4 : 1048576 < F
              · have Hrec := Lib.hid (hrec2.trans (if_pos z4))
                have z4b : (1048576 : Int) < F := by omega
                clear hrec2 hg2 p1 z3 z4 hA hF
                go_enter Tryz.func114, Tryz.ntmps114
                go_wp2_with first
                  | (go_at_call 127; rw [HW.out]; (with_reducible refine HG.out.mono ?_); rintro e w1 ⟨rfl, hB1⟩; obtain ⟨q0, q1, f0, f1⟩ := cells2 ((hB1.block _ (blk_lt HWb.out)).trans HWb.out))
                  | (go_at_call 128; refine (HUn.out w1 hB1).mono ?_; rintro e w2 ⟨a2, c2, rfl, hrow2, hB2⟩; have Hrow2 := Lib.hid hrow2; clear hrow2; have hB12 := hB1.trans (hB2.mono hB1.size); obtain ⟨q0, q1, f0, f1⟩ := cells2 ((hB12.block _ (blk_lt HWb.out)).trans HWb.out))
                  | (go_at_call 127; (with_reducible refine (HG2.out w2 _ a2 c2 Hrow2.out).mono ?_); rintro e w3 ⟨rfl, hB3⟩; have hB13 := hB12.trans (hB3.mono hB12.size); obtain ⟨q0, q1, f0, f1⟩ := cells2 ((hB13.block _ (blk_lt HWb.out)).trans HWb.out))
                obtain ⟨y0, y1, _⟩ := cells2 (setCell2_at ((hB13.block _ (blk_lt HWb.out)).trans HWb.out) (.int .i64 0) (.slice none 0 0))
                refine bodyPost_ret (v := .tuple #[recV 0 (.slice none 0 0), .int .i64 0, .bool false]) (by simp [results, Tryz.results114, go_sem, y0, y1, recV]) rfl (WrPost4.bad Hrec.out rfl (below2_4 (hBW.trans (hB13.mono hBW.size)) (Nat.le_refl _) _ _))
              · have z4b : ¬ (1048576 : Int) < F := by omega
                have Hrec := Lib.hid (hrec2.trans (if_neg z4))
                have hBp : 0 < body.length := by have := vint_pos n2; omega
                have hjB : (j : Int) ≤ B := by omega
                have hj0 : (0 : Int) ≤ j := by omega
                have hAt : at_ + (k + m + 4) = E := by omega
                have HAt := Lib.hid hAt
                have HF := Lib.hid hF
                have HBl := Lib.hid hB
                have Hp3 := Lib.hid p3
                clear hrec2 hg2 p1 p2 hA hF hB hAt
                go_enter Tryz.func114, Tryz.ntmps114
                go_wp2_with first
                  | (go_at_call 127; rw [HW.out]; (with_reducible refine HG.out.mono ?_); rintro e w1 ⟨rfl, hB1⟩; obtain ⟨q0, q1, f0, f1⟩ := cells2 ((hB1.block _ (blk_lt HWb.out)).trans HWb.out))
                  | (go_at_call 128; refine (HUn.out w1 hB1).mono ?_; rintro e w2 ⟨a2, c2, rfl, hrow2, hB2⟩; have Hrow2 := Lib.hid hrow2; have hB12 := hB1.trans (hB2.mono hB1.size); obtain ⟨q0, q1, f0, f1⟩ := cells2 ((hB12.block _ (blk_lt HWb.out)).trans HWb.out); obtain ⟨g2, o2, rfl⟩ := rd_some4 (Rd.ofOwns hrow2) hBp; obtain ⟨_, _, he2, hn2, hc2, _⟩ := row_slice (ownsRow_base0 hrow2); cases he2; have hgw := row_from hrow2 rfl; have hgl := row_lt hrow2 rfl; have hjc : (j : Int) ≤ c2 := (by omega); have hBc : (B : Int) ≤ c2 := (by omega); clear hrow2)
                  | (go_at_call 127; (with_reducible refine (HG2.out w2 _ _ c2 Hrow2.out).mono ?_); rintro e w3 ⟨rfl, hB3⟩; have hB13 := hB12.trans (hB3.mono hB12.size); obtain ⟨q0, q1, f0, f1⟩ := cells2 ((hB13.block _ (blk_lt HWb.out)).trans HWb.out))
                · rename_i hcj
                  have hBj0 : B - j = 0 := by omega
                  have hnil : body.drop j = [] := List.drop_eq_nil_of_le (by rw [HBl.out]; omega)
                  have hb3 := (hB13.block _ (blk_lt HWb.out)).trans HWb.out
                  obtain ⟨y0, y1, _⟩ := cells2 (setCell2_at hb3 (.int .i64 n2) (.slice (some ⟨g2, o2, none⟩) (B - j) 0))
                  have hlast := below2_4 (hBW.trans (hB13.mono hBW.size)) (Nat.le_refl _) (.int .i64 n2) (.slice (some ⟨g2, o2, none⟩) (B - j) 0)
                  have hs3 := hB3.size
                  refine bodyPost_ret (v := .tuple #[recV n2 (.slice (some ⟨g2, o2, none⟩) (B - j) 0), .int .i64 E, .bool true]) (by simp [results, Tryz.results114, go_sem, y0, y1, recV]) rfl ?_
                  unfold WrPost4
                  rw [Hrec.out]
                  simp only
                  rw [hnil, HAt.out]
                  refine ⟨some ⟨g2, o2, none⟩, 0, ?_, Or.inl ⟨Or.inr ⟨_, _, rfl⟩, rfl⟩, fun g hg => ?_, hlast⟩
                  · rw [hBj0]; rfl
                  · cases hg
                    have := hBW.size; have := hB1.size
                    simp only [World.size_setCell]
                    omega
                · have hrd := rd_mid4 (Rd.ofOwns Hrow2.out) j (B - j) (c2 - j) (by rw [HBl.out]; have := Hp3.out; omega)
                  rw [List.take_of_length_le (by rw [List.length_drop, HBl.out]; exact Nat.le_refl _)] at hrd
                  have hb3 := (hB13.block _ (blk_lt HWb.out)).trans HWb.out
                  obtain ⟨y0, y1, _⟩ := cells2 (setCell2_at hb3 (.int .i64 n2) (.slice (some ⟨g2, o2 + j, none⟩) (B - j) (c2 - j)))
                  have hU := setCell2_upd (w := w3) (b := w.heap.size) (.int .i64 n2) (.slice (some ⟨g2, o2 + j, none⟩) (B - j) (c2 - j))
                  have hgne : g2 ≠ w.heap.size := by have := blk_lt HWb.out; have := hB1.size; omega
                  have hrd3 := (hrd.below hB3).keep hU (fun g hg e => by cases hg; exact hgne e)
                  have hlast := below2_4 (hBW.trans (hB13.mono hBW.size)) (Nat.le_refl _) (.int .i64 n2) (.slice (some ⟨g2, o2 + j, none⟩) (B - j) (c2 - j))
                  have hdl : (body.drop j).length = B - j := by rw [List.length_drop, HBl.out]
                  have hs3 := hB3.size
                  refine bodyPost_ret (v := .tuple #[recV n2 (.slice (some ⟨g2, o2 + j, none⟩) (B - j) (c2 - j)), .int .i64 E, .bool true]) (by simp [results, Tryz.results114, go_sem, y0, y1, recV]) rfl ?_
                  unfold WrPost4
                  rw [Hrec.out]
                  simp only
                  rw [hdl, HAt.out]
                  refine ⟨_, _, rfl, hrd3, fun g hg => ?_, hlast⟩
                  cases hg
                  have := hBW.size; have := hB1.size
                  simp only [World.size_setCell]
                  omega
          · have Hrec := Lib.hid (hrec2.trans (if_neg z2))
            have z2b : (e2 != 0) = true := by simpa using z2
            rw [if_neg z2] at HG2
            clear hrec2 hg2 hA z2
            go_enter Tryz.func114, Tryz.ntmps114
            go_wp2_with first
              | (go_at_call 127; rw [HW.out]; (with_reducible refine HG.out.mono ?_); rintro e w1 ⟨rfl, hB1⟩; obtain ⟨q0, q1, f0, f1⟩ := cells2 ((hB1.block _ (blk_lt HWb.out)).trans HWb.out))
              | (go_at_call 128; refine (HUn.out w1 hB1).mono ?_; rintro e w2 ⟨a2, c2, rfl, hrow2, hB2⟩; have Hrow2 := Lib.hid hrow2; clear hrow2; have hB12 := hB1.trans (hB2.mono hB1.size); obtain ⟨q0, q1, f0, f1⟩ := cells2 ((hB12.block _ (blk_lt HWb.out)).trans HWb.out))
              | (go_at_call 127; (with_reducible refine (HG2.out w2 _ a2 c2 Hrow2.out).mono ?_); rintro e w3 ⟨rfl, hB3⟩; have hB13 := hB12.trans (hB3.mono hB12.size); obtain ⟨q0, q1, f0, f1⟩ := cells2 ((hB13.block _ (blk_lt HWb.out)).trans HWb.out))
            obtain ⟨y0, y1, _⟩ := cells2 (setCell2_at ((hB13.block _ (blk_lt HWb.out)).trans HWb.out) (.int .i64 0) (.slice none 0 0))
            refine bodyPost_ret (v := .tuple #[recV 0 (.slice none 0 0), .int .i64 0, .bool false]) (by simp [results, Tryz.results114, go_sem, y0, y1, recV]) rfl (WrPost4.bad Hrec.out rfl (below2_4 (hBW.trans (hB13.mono hBW.size)) (Nat.le_refl _) _ _))
        · have Hrec := Lib.hid (hrec2.trans (if_neg z1))
          have z1b : (eu != 0) = true := by simpa using z1
          clear hrec2 hg2 hA z1
          go_enter Tryz.func114, Tryz.ntmps114
          go_wp2_with first
            | (go_at_call 127; rw [HW.out]; (with_reducible refine HG.out.mono ?_); rintro e w1 ⟨rfl, hB1⟩; obtain ⟨q0, q1, f0, f1⟩ := cells2 ((hB1.block _ (blk_lt HWb.out)).trans HWb.out))
            | (go_at_call 128; refine (HUn.out w1 hB1).mono ?_; rintro e w2 ⟨a2, c2, rfl, hrow2, hB2⟩; have Hrow2 := Lib.hid hrow2; clear hrow2; have hB12 := hB1.trans (hB2.mono hB1.size); obtain ⟨q0, q1, f0, f1⟩ := cells2 ((hB12.block _ (blk_lt HWb.out)).trans HWb.out))
          obtain ⟨y0, y1, _⟩ := cells2 (setCell2_at ((hB12.block _ (blk_lt HWb.out)).trans HWb.out) (.int .i64 0) (.slice none 0 0))
          refine bodyPost_ret (v := .tuple #[recV 0 (.slice none 0 0), .int .i64 0, .bool false]) (by simp [results, Tryz.results114, go_sem, y0, y1, recV]) rfl (WrPost4.bad Hrec.out rfl (below2_4 (hBW.trans (hB12.mono hBW.size)) (Nat.le_refl _) _ _))
  · rw [if_neg h0] at hG hrec
    have h0b : (er != 0) = true := by simpa using h0
    have HG := Lib.hid hG
    have Hrec := Lib.hid hrec
    clear hG hrec hgu h0 hv hvW hW hWb hdl hL
    go_enter Tryz.func114, Tryz.ntmps114
    go_wp2_with (go_at_call 127; rw [HW.out]; refine HG.out.mono ?_; rintro e w1 ⟨rfl, hB1⟩; obtain ⟨q0, q1, f0, f1⟩ := cells2 ((hB1.block _ (blk_lt HWb.out)).trans HWb.out))
    obtain ⟨y0, y1, _⟩ := cells2 (setCell2_at ((hB1.block _ (blk_lt HWb.out)).trans HWb.out) (.int .i64 0) (.slice none 0 0))
    refine bodyPost_ret (v := .tuple #[recV 0 (.slice none 0 0), .int .i64 0, .bool false]) (by simp [results, Tryz.results114, go_sem, y0, y1, recV]) rfl (WrPost4.bad Hrec.out rfl (below2_4 (hBW.trans (hB1.mono hBW.size)) (Nat.le_refl _) _ _))
end Go.Proofs.YtbiadclmonakkaaGreatDoor

/-
  The records of a segment are read.
-/
namespace Go.Proofs.YtbiadclmonakkaaGreatDoor
open Go.RowKit Go.Maps Go.MapKept

theorem run_append_rowN4 {P : Program} (w : World) (t ty e : TypeId) (i : TypeInfo) (z : Value) (sz bytes : Nat) (ht : P.underlying t = some (.slice e)) (hi : P.info? e = some i) (hz : i.zero = some z)
    (hsize : i.size = sz) (hby : i.bytes = bytes) (hzs : z.cells.size = sz) (hsz : 0 < sz)
    (v : Value) (n m : Nat) (xs news : List Value) (hown : w.ownsRow 0 e sz v n xs) (b off c : Nat) (hl : news.length = m * sz) (hnews : ∀ j u, news[j]? = some u → w.cell? ⟨b, off + j, none⟩ = some u) (h1 : ∀ u ∈ news, u.oneCell' = true)
    (h63 : n + m ≤ maxLen) (hbytes : (n + m) * bytes ≤ 140737488355328) :
    ∃ v' w', (Builtin.append_ #[t, t] ty #[v, .slice (some ⟨b, off, none⟩) m c]).run P w = .ok v' w' ∧ w'.ownsRow 0 e sz v' (n + m) (xs ++ news) ∧ w.grownBy w' v.ownBlock ∧
      (v'.ownBlock = v.ownBlock ∨ ∃ g, v'.ownBlock = some g ∧ w.heap.size ≤ g) := by
  obtain ⟨v', w', hr, ho, hg, hn⟩ := run_append_own (P := P) w 0 t ty e i z sz bytes ht hi hz hsize hby hzs hsz v n xs hown ⟨b, off, none⟩ m c news hl (by simpa [Addr.add_lit] using hnews) h1 h63 hbytes (Nat.zero_le _)
  refine ⟨v', w', hr, ho, hg, ?_⟩
  rcases hown.2 with ⟨rfl, rfl⟩ | ⟨g, cap, cur, rfl, hbg, hgc, hnc, hcm, hcs, htake⟩
  · have hx : xs = [] := List.eq_nil_of_length_eq_zero (by simpa using hown.1)
    subst hx
    obtain ⟨v2, w2, hr2, ho2, _, _⟩ := run_append_own (P := P) w w.heap.size t ty e i z sz bytes ht hi hz hsize hby hzs hsz (.slice none 0 0) 0 [] (World.ownsRow_nil w _ e sz) ⟨b, off, none⟩ m c news hl (by simpa [Addr.add_lit] using hnews) h1 h63 hbytes (Nat.le_refl _)
    rw [hr] at hr2
    cases hr2
    rcases ho2.2 with ⟨rfl, _⟩ | ⟨g', _, _, rfl, hb', _⟩
    · exact Or.inl rfl
    · exact Or.inr ⟨g', rfl, hb'⟩
  · subst hby
    have hsmall : n + m ≤ 9223372036854775807 := by simp only [maxLen] at h63; omega
    by_cases hroom : n + m ≤ cap
    · have hr2 := run_append_room (P := P) w t ty e i ht hi g n cap cur hgc ⟨b, off, none⟩ m c news (by rw [hsize]; exact hl) (by simpa [Addr.add_lit] using hnews) h1 hroom (by rw [hsize, hcs, hl, ← Nat.add_mul]; exact Nat.mul_le_mul_right _ hroom)
      rw [hr] at hr2
      cases hr2
      exact Or.inl rfl
    · have holds : ∀ j u, xs[j]? = some u → w.cell? ((⟨g, 0, none⟩ : Addr).add j) = some u := hown.cells (g := g) rfl
      have hr2 := run_append_grow (P := P) w t ty e i z ht hi hz ⟨g, 0, none⟩ n cap xs (by rw [hsize]; exact hown.1) holds ⟨b, off, none⟩ m c news (by rw [hsize]; exact hl) (by simpa [Addr.add_lit] using hnews) (by omega) (by omega) (growslice_fits (by omega) hbytes)
      rw [hr] at hr2
      cases hr2
      exact Or.inr ⟨w.heap.size, rfl, Nat.le_refl _⟩

/-- a record in memory. -/
structure XRec where
  n : Nat
  b : List UInt8
  vb : Value
def XRec.rec4 (x : XRec) : ARec := ⟨x.n, x.b⟩
def recX (L : List XRec) : List Value := L.flatMap fun x => [.int .i64 (x.n : Int), x.vb]
theorem recX_length (L : List XRec) : (recX L).length = L.length * 2 := by
  induction L with
  | nil => rfl
  | cons x l ih => unfold recX at ih ⊢; rw [List.flatMap_cons, List.length_append, ih]; simp only [List.length_cons, List.length_nil]; omega
theorem recX_app (L M : List XRec) : recX (L ++ M) = recX L ++ recX M := by simp [recX]
theorem recX_get (L : List XRec) (i : Nat) (h : i < L.length) : (recX L)[i * 2]? = some (.int .i64 (L[i].n : Int)) ∧ (recX L)[i * 2 + 1]? = some L[i].vb := by
  induction L generalizing i with
  | nil => simp at h
  | cons x l ih =>
    have he : recX (x :: l) = [.int .i64 (x.n : Int), x.vb] ++ recX l := by simp [recX]
    rw [he]
    cases i with
    | zero => exact ⟨rfl, rfl⟩
    | succ i =>
      have := ih i (by simpa using h)
      rw [List.getElem?_append_right (by simp; omega), List.getElem?_append_right (by simp; omega)]
      simp only [List.length_cons, List.length_nil, List.getElem_cons_succ]
      rw [show (i + 1) * 2 - 2 = i * 2 by omega, show (i + 1) * 2 + 1 - (0 + 1 + 1) = i * 2 + 1 by omega]
      exact this
theorem recX_one (L : List XRec) : ∀ u ∈ recX L, (∀ x ∈ L, x.vb.oneCell' = true) → u.oneCell' = true := by
  intro u hu h
  unfold recX at hu
  rw [List.mem_flatMap] at hu
  obtain ⟨x, hx, hu⟩ := hu
  simp only [List.mem_cons, List.not_mem_nil, or_false] at hu
  rcases hu with rfl | rfl
  · rfl
  · exact h x hx
/-- records whose bytes lie in blocks from base on. -/
structure RecsOk (base : Nat) (w : World) (L : List XRec) : Prop where
  rd : ∀ x ∈ L, Rd w x.vb (bcells x.b)
  own : ∀ x ∈ L, ∀ g, x.vb.ownBlock = some g → base ≤ g ∧ g < w.heap.size
theorem RecsOk.below {base : Nat} {w w' : World} {L : List XRec} (h : RecsOk base w L) (hb : Below w.heap.size w w') : RecsOk base w' L :=
  ⟨fun x hx => (h.rd x hx).below hb, fun x hx g hg => ⟨(h.own x hx g hg).1, Nat.lt_of_lt_of_le (h.own x hx g hg).2 hb.size⟩⟩
theorem RecsOk.upd {base : Nat} {fp : Nat → Prop} {w w' : World} {L : List XRec} (h : RecsOk base w L) (hu : Upd fp w w') (hf : ∀ x ∈ L, ∀ g, x.vb.ownBlock = some g → ¬ fp g) : RecsOk base w' L :=
  ⟨fun x hx => (h.rd x hx).keep hu (hf x hx), fun x hx g hg => ⟨(h.own x hx g hg).1, Nat.lt_of_lt_of_le (h.own x hx g hg).2 hu.size⟩⟩
theorem RecsOk.keep {base : Nat} {ex : Nat → Prop} {w w' : World} {L : List XRec} (h : RecsOk base w L) (hk : Keep ex w w') (hf : ∀ x ∈ L, ∀ g, x.vb.ownBlock = some g → ex g) : RecsOk base w' L :=
  ⟨fun x hx => hk.rd (h.rd x hx) (hf x hx), fun x hx g hg => ⟨(h.own x hx g hg).1, Nat.lt_of_lt_of_le (h.own x hx g hg).2 hk.size⟩⟩
theorem RecsOk.mono {base base' : Nat} {w : World} {L : List XRec} (h : RecsOk base w L) (hb : base' ≤ base) : RecsOk base' w L := ⟨h.rd, fun x hx g hg => ⟨Nat.le_trans hb (h.own x hx g hg).1, (h.own x hx g hg).2⟩⟩
theorem RecsOk.one {base : Nat} {w : World} {L : List XRec} (h : RecsOk base w L) : ∀ u ∈ recX L, u.oneCell' = true := fun u hu => recX_one L u hu (fun x hx => by
  obtain ⟨a, c, e⟩ := (h.rd x hx).shape
  rw [e]; rfl)
theorem RecsOk.nil (base : Nat) (w : World) : RecsOk base w [] := ⟨fun x hx => (by cases hx), fun x hx => (by cases hx)⟩
theorem RecsOk.app {base : Nat} {w : World} {L M : List XRec} (h : RecsOk base w L) (g : RecsOk base w M) : RecsOk base w (L ++ M) :=
  ⟨fun x hx => (List.mem_append.1 hx).elim (h.rd x) (g.rd x), fun x hx => (List.mem_append.1 hx).elim (h.own x) (g.own x)⟩
theorem info_rec : (Tryz.prog.info? 47).map (fun i => (i.zero, i.size, i.bytes)) = some (some (.agg #[.int .i64 0, .slice none 0 0]), 2, 32) := by kernel_rfl
/-- records are appended. -/
theorem run_append_recs (w : World) (v : Value) (n : Nat) (L M : List XRec) (hn : n = L.length) (hown : w.ownsRow 0 47 2 v n (recX L)) (b off m c : Nat) (hm : m = M.length) (hnews : ∀ j u, (recX M)[j]? = some u → w.cell? ⟨b, off + j, none⟩ = some u) (h1 : ∀ u ∈ recX M, u.oneCell' = true) (h63 : n + m ≤ 8589934592) :
    ∃ v' w', (Builtin.append_ #[28, 28] 28 #[v, .slice (some ⟨b, off, none⟩) m c]).run Tryz.prog w = .ok v' w' ∧ w'.ownsRow 0 47 2 v' (n + m) (recX (L ++ M)) ∧ w.grownBy w' v.ownBlock ∧ (v'.ownBlock = v.ownBlock ∨ ∃ g, v'.ownBlock = some g ∧ w.heap.size ≤ g) := by
  obtain ⟨i0, hi, hz0, hz1, hz2⟩ := info_parts info_rec
  rw [recX_app]
  exact run_append_rowN4 (P := Tryz.prog) w 28 28 47 i0 _ 2 32 Tryz.underlying28 hi hz0 hz1 hz2 rfl (by omega) v n m (recX L) (recX M) hown b off c (by rw [recX_length, hm]) hnews h1 (by simp only [maxLen]; omega) (by omega)
/-- one record is appended, as the program does it: its variable, its slice. -/
theorem recs_one (w : World) (v : Value) (L : List XRec) (x : XRec) (z : Int) (hz : z = x.n) (n : Nat) (hn : n = L.length) (hown : w.ownsRow 0 47 2 v n (recX L)) (h1 : x.vb.oneCell' = true) (h63 : n ≤ 1073741823) :
    ∃ v' w', (Builtin.append_ #[28, 28] 28 #[v, .slice (some ⟨w.heap.size + 1, 0, none⟩) 1 1]).run Tryz.prog ((w.alloc (.cells #[.int .i64 z, x.vb] 47)).alloc (.cells #[.int .i64 z, x.vb] 47)) = .ok v' w' ∧ w'.ownsRow 0 47 2 v' (n + 1) (recX (L ++ [x])) ∧
      ((w.alloc (.cells #[.int .i64 z, x.vb] 47)).alloc (.cells #[.int .i64 z, x.vb] 47)).grownBy w' v.ownBlock ∧ (v'.ownBlock = v.ownBlock ∨ ∃ g, v'.ownBlock = some g ∧ w.heap.size ≤ g) := by
  subst hz
  obtain ⟨b0, b1, _⟩ := cells2 (alloc2_at w (.cells #[.int .i64 (x.n : Int), x.vb] 47) (.cells #[.int .i64 (x.n : Int), x.vb] 47))
  obtain ⟨v', w', h2, h3, h4, h5⟩ := run_append_recs ((w.alloc (.cells #[.int .i64 (x.n : Int), x.vb] 47)).alloc (.cells #[.int .i64 (x.n : Int), x.vb] 47)) v n L [x] hn ((((Upd.refl noFp w).alloc _).alloc _).row hown (fun _ _ h => h)) (w.heap.size + 1) 0 1 1 rfl
    (fun j u hu => by
      match j, hu with
      | 0, h => cases h; exact b0
      | 1, h => cases h; exact b1) (fun u hu => by
      have : u = .int .i64 (x.n : Int) ∨ u = x.vb := by simpa [recX] using hu
      rcases this with rfl | rfl
      · rfl
      · exact h1) (by omega)
  refine ⟨v', w', h2, h3, h4, ?_⟩
  rcases h5 with h5 | ⟨g, h5, h6⟩
  · exact Or.inl h5
  · exact Or.inr ⟨g, h5, by simp at h6; omega⟩
theorem row_rec {w : World} {base n : Nat} {v : Value} {xs : List Value} (h : w.ownsRow base 47 2 v n xs) : ∃ a c, v = .slice a n c := by
  obtain ⟨_, ⟨rfl, rfl⟩ | ⟨g, cap, _, rfl, _⟩⟩ := h
  · exact ⟨_, _, rfl⟩
  · exact ⟨_, _, rfl⟩
theorem numbered_len (n : Nat) (R : List (List UInt8)) : (numbered n R).length = R.length := by
  induction R generalizing n with
  | nil => rfl
  | cons b R ih => simp only [numbered, List.length_cons, ih]
theorem numbered_snoc (n : Nat) (R : List (List UInt8)) (b : List UInt8) : numbered n (R ++ [b]) = numbered n R ++ [⟨n + R.length, b⟩] := by
  induction R generalizing n with
  | nil => simp [numbered]
  | cons c R ih => simp only [List.cons_append, numbered, ih, List.length_cons, show n + 1 + R.length = n + (R.length + 1) by omega]
def WrsPost (l : List UInt8) (n : Nat) (w : World) (e : Ending) (w' : World) : Prop :=
  if isHead4 l n = true then ∃ a c L, e = .returned (.tuple #[.slice a (recsOf l n).length c, .int .i64 (goodOf l n), .bool true]) ∧ w'.ownsRow w.heap.size 47 2 (.slice a (recsOf l n).length c) (recsOf l n).length (recX L) ∧ RecsOk w.heap.size w' L ∧ L.map XRec.rec4 = numbered n (recsOf l n) ∧ Below w.heap.size w w'
  else e = .returned (.tuple #[.slice none 0 0, .int .i64 0, .bool false]) ∧ Below w.heap.size w w'
set_option maxRecDepth 100000 in
set_option maxHeartbeats 8000000 in
theorem wrecords_any (w : World) (v : Value) (l : List UInt8) (n : Nat) (hv : Rd w v (bcells l)) (hcap : CapOk v) (hn : n ≤ 9007199254740992) (hl : l.length ≤ 1073741824) :
    Calls Tryz.prog 83 #[v, .int .i64 n] w (WrsPost l n w) := by
  obtain ⟨a, c, rfl⟩ := hv.shape
  obtain ⟨_, _, _, he, hnc, hcm⟩ := hcap
  cases he
  rw [bcells_length] at hv hnc ⊢
  have hH := whead_any w n (by omega)
  have hhl := hd4_len n (by omega)
  obtain ⟨h, hh⟩ : ∃ h, hd4 n = h := ⟨_, rfl⟩
  have hIs : isHead4 l n = decide (l.take h.length = h) := by unfold isHead4; rw [hh]
  have hRs : recsOf l n = (wRecs sumL (l.drop h.length) n).1 := by unfold recsOf; rw [hh]
  have hGo : goodOf l n = h.length + (wRecs sumL (l.drop h.length) n).2 := by unfold goodOf; rw [hh]
  rw [hh] at hH hhl
  obtain ⟨H, hHl⟩ : ∃ H, h.length = H := ⟨_, rfl⟩
  rw [hHl] at hH hhl hIs hRs hGo
  obtain ⟨L, hL⟩ : ∃ L, l.length = L := ⟨_, rfl⟩
  rw [hL] at hl hv hnc ⊢
  have Hv := Lib.hid hv
  have HH := Lib.hid hH
  have HIs := Lib.hid hIs
  have HRs := Lib.hid hRs
  have HGo := Lib.hid hGo
  have HHl := Lib.hid hHl
  have HL := Lib.hid hL
  by_cases h1 : L < H
  · have hno : isHead4 l n = false := by
      rw [hIs, decide_eq_false]
      intro e
      have := congrArg List.length e
      rw [List.length_take, hL, hHl] at this
      omega
    have Hno := Lib.hid hno
    have h1b : (L : Int) < H := by omega
    clear hv hH hIs hRs hGo hHl hL hno hh
    go_enter Tryz.func83, Tryz.ntmps83
    go_wp2_with (go_at_call 84; refine HH.out.mono ?_; rintro e w1 ⟨a1, c1, rfl, hrow1, hB1⟩; clear hrow1)
    go_ret3
    unfold WrsPost
    rw [Hno.out, if_neg (by simp)]
    exact ⟨rfl, hB1⟩
  · have h1b : ¬ (L : Int) < H := by omega
    have hHc : (H : Int) ≤ c := by omega
    have hH0 : (0 : Int) ≤ H := by omega
    have hsub := rd_prefix hv H (by omega)
    rw [← bcells_take] at hsub
    have hxl : (l.take H).length = H := by rw [List.length_take, hL]; omega
    obtain ⟨X, hX⟩ : ∃ X, l.take H = X := ⟨_, rfl⟩
    rw [hX] at hsub hxl hIs
    have hEq := fun wX (h1 : Rd wX (.slice a H c) (bcells X)) vX (h2 : Rd wX vX (bcells h)) => slEqual_any wX _ vX X h h1 h2 (by omega)
    rw [← hIs] at hEq
    have HEq := Lib.hid hEq
    have Hsub := Lib.hid hsub
    cases hb : isHead4 l n with
    | false =>
      rw [hb] at HEq
      have Hno := Lib.hid hb
      clear hv hH hIs hRs hGo hHl hL hh hEq hsub hX hb HIs
      go_enter Tryz.func83, Tryz.ntmps83
      go_wp2_with first
        | (go_at_call 84; refine HH.out.mono ?_; rintro e w1 ⟨a1, c1, rfl, hrow1, hB1⟩; have Hrow1 := Lib.hid hrow1; clear hrow1)
        | (go_at_call 113; refine (HEq.out w1 (Hsub.out.below hB1) _ (Rd.ofOwns Hrow1.out)).mono ?_; rintro e w2 ⟨rfl, hB2⟩)
      go_ret3
      unfold WrsPost
      rw [Hno.out, if_neg (by simp)]
      exact ⟨rfl, hB1.trans (hB2.mono hB1.size)⟩
    | true =>
      rw [hb] at HEq
      have Hyes := Lib.hid hb
      have hWq : wRecs sumL (l.drop H) n = wRecs sumL (l.drop H) (n + 0) := rfl
      clear hv hH hIs hRs hGo hHl hL hh hEq hsub hX hb HIs
      go_enter Tryz.func83, Tryz.ntmps83
      go_wp2_with first
        | (go_at_call 84; refine HH.out.mono ?_; rintro e w1 ⟨a1, c1, rfl, hrow1, hB1⟩; have Hrow1 := Lib.hid hrow1; clear hrow1)
        | (go_at_call 113; refine (HEq.out w1 (Hsub.out.below hB1) _ (Rd.ofOwns Hrow1.out)).mono ?_; rintro e w2 ⟨rfl, hB2⟩)
      go_loopw [8, 9] (fun vo va wr => ∃ (A k : Nat) (dn : List (List UInt8)) (XL : List XRec) (ao : Option Addr) (co : Nat), va = .int .i64 A ∧ A ≤ L ∧ H ≤ A ∧ k + 9 ≤ A ∧ vo = .slice ao k co ∧ dn.length = k ∧ XL.length = k ∧ wr.ownsRow w.heap.size 47 2 (.slice ao k co) k (recX XL) ∧ RecsOk w.heap.size wr XL ∧ XL.map XRec.rec4 = numbered n dn ∧ (∀ x ∈ XL, ∀ g, x.vb.ownBlock = some g → (Value.slice ao k co).ownBlock ≠ some g) ∧
          wRecs sumL (l.drop H) n = (dn ++ (wRecs sumL (l.drop A) (n + k)).1, (A - H) + (wRecs sumL (l.drop A) (n + k)).2) ∧ Below w.heap.size w wr) (fun _ va _ => L - (intOf va).toNat)
      case atStart => exact ⟨H, 0, [], [], none, 0, rfl, by omega, Nat.le_refl _, by omega, rfl, rfl, rfl, World.ownsRow_nil _ _ _ _, RecsOk.nil _ _, rfl, fun x hx => (by cases hx), by rw [Nat.sub_self, Nat.zero_add]; rfl, hB1.trans (hB2.mono hB1.size)⟩
      case round =>
        obtain ⟨A, k, dn, XL, ao, co, rfl, hAL, hHA, hkA, rfl, hdk, hXk, hrow, hok, hmap, hne, heq, hB⟩ := hrel
        have hR := wrecord_any wr _ l A (Hv.out.below hB) ⟨_, _, _, rfl, hnc, hcm⟩ (by rw [HL.out]; exact hAL) (by rw [HL.out]; omega)
        have Hrow := Lib.hid hrow
        have Hok := Lib.hid hok
        have Hmap := Lib.hid hmap
        have Hne := Lib.hid hne
        have Heq := Lib.hid heq
        have Hdk := Lib.hid hdk
        have HXk := Lib.hid hXk
        have hend : wRecs sumL (l.drop A) (n + k) = ([], 0) → ∀ wx, Below wr.heap.size wr wx → WrsPost l n w (.returned (.tuple #[.slice ao k co, .int .i64 A, .bool true])) wx := by
          intro h0 wx hx
          rw [h0] at heq
          have hr1 : recsOf l n = dn := by rw [HRs.out, heq]; simp
          have hg1 : goodOf l n = A := by rw [HGo.out, heq]; simp only; omega
          unfold WrsPost
          rw [Hyes.out, if_pos rfl, hr1, hg1, Hdk.out]
          exact ⟨ao, co, XL, rfl, ((Upd.refl noFp wr).thenBelow hx (Nat.le_refl _)).row Hrow.out (fun _ _ h => h), Hok.out.below hx, Hmap.out, hB.trans (hx.mono hB.size)⟩
        have Hend := Lib.hid hend
        clear hrow hok hmap hne heq hdk hXk hend
        unfold WrPost4 at hR
        cases hw : wRec sumL (l.drop A) with
        | none =>
          rw [hw] at hR
          simp only at hR
          have He := Lib.hid (Hend.out (wRecs_none sumL hw))
          have HR := Lib.hid hR
          clear hR hw Hend
          go_wp2_with (go_at_call 114; unfold recV at HR; refine HR.out.mono ?_; rintro e w3 ⟨rfl, hB3⟩)
          go_ret3
          exact He.out _ (hB3.alloc (by have := hB3.size; omega) _)
        | some r =>
          obtain ⟨n', b, t⟩ := r
          rw [hw] at hR
          simp only at hR
          obtain ⟨t1, t2, t3, t4⟩ := wRec_len sumL hw
          rw [List.length_drop, HL.out] at t2
          have HR := Lib.hid hR
          obtain ⟨nb, hnb⟩ : ∃ y, b.length = y := ⟨_, rfl⟩
          have Hnb := Lib.hid hnb
          rw [hnb] at HR
          by_cases hq : n' = n + k
          · subst hq
            have hs := wRecs_some sumL hw
            rw [List.drop_drop] at hs
            have Hs := Lib.hid hs
            have hqb : (((n + k : Nat) : Int) != (n : Int) + k) = false := by simp
            clear hR hw Hend hs hnb
            go_wp2_with first
              | (go_at_call 114; unfold recV at HR; refine HR.out.mono ?_; rintro e w3 ⟨a3, c3, rfl, hrd3, hown3, hB3⟩; have Hrd3 := Lib.hid hrd3; have Hown3 := Lib.hid hown3; clear hrd3 hown3; obtain ⟨v', w5, hrun, hro, hg5, hb5⟩ := recs_one w3 (.slice ao k co) XL ⟨n + k, b, .slice a3 nb c3⟩ ((n : Int) + k) rfl k HXk.out.symm (((Upd.refl noFp wr).thenBelow hB3 (Nat.le_refl _)).row (ownsRow_base0 Hrow.out) (fun _ _ h => h)) rfl (by omega); have Hrun := Lib.hid hrun; obtain ⟨a', c', rfl⟩ := row_rec hro; have Hro := Lib.hid hro; have Hg5 := Lib.hid hg5; have Hb5 := Lib.hid hb5; clear hrun hro hg5 hb5)
              | (at_builtin; refine Lib.wpList_append_run _ rfl (.tmp 51) (.tmp 53) _ _ rfl _ _ rfl rfl _ _ Hrun.out ?_)
            have hBx : Below wr.heap.size wr ((w3.alloc (.cells #[.int .i64 ((n : Int) + k), .slice a3 nb c3] 47)).alloc (.cells #[.int .i64 ((n : Int) + k), .slice a3 nb c3] 47)) := (hB3.alloc hB3.size _).alloc (by have := hB3.size; simp; omega) _
            have hU : Upd (fun g => (Value.slice ao k co).ownBlock = some g) wr w5 := ((Upd.refl _ wr).thenBelow hBx (Nat.le_refl _)).grown Hg5.out (fun g hg => Or.inl hg)
            have hs3 := hB3.size
            have hswr := hB.size
            have hsx := hBx.size
            have hrow5 : w5.ownsRow w.heap.size 47 2 (.slice a' (k + 1) c') (k + 1) (recX (XL ++ [⟨n + k, b, .slice a3 nb c3⟩])) := by
              refine ownsRow_from Hro.out (fun g hg => ?_)
              rcases Hb5.out with h3 | ⟨g', h3, hg'⟩
              · exact row_from Hrow.out (h3 ▸ hg)
              · rw [h3] at hg; cases hg; omega
            have hold : RecsOk w.heap.size w5 XL := Hok.out.upd hU (fun x hx g hg => Hne.out x hx g hg)
            have hnewU : Upd (fun g => (Value.slice ao k co).ownBlock = some g) w3 w5 := ((((Upd.refl _ w3).alloc _).alloc _).grown Hg5.out (fun g hg => Or.inl hg))
            have hnew : RecsOk w.heap.size w5 [⟨n + k, b, .slice a3 nb c3⟩] := by
              refine ⟨fun x hx => ?_, fun x hx g hg => ?_⟩
              · simp only [List.mem_singleton] at hx
                subst hx
                refine (Hrd3.out).keep hnewU (fun g hg e => ?_)
                have h5 := (Hown3.out g hg).1
                have h6 := row_lt Hrow.out e
                omega
              · simp only [List.mem_singleton] at hx
                subst hx
                have h5 := Hown3.out g hg
                have := hnewU.size
                omega
            have hne5 : ∀ x ∈ XL ++ [⟨n + k, b, .slice a3 nb c3⟩], ∀ g, x.vb.ownBlock = some g → (Value.slice a' (k + 1) c').ownBlock ≠ some g := by
              intro x hx g hg e
              rcases Hb5.out with h3 | ⟨g', h3, hg'⟩
              · rw [h3] at e
                rcases List.mem_append.1 hx with hx | hx
                · exact Hne.out x hx g hg e
                · simp only [List.mem_singleton] at hx
                  subst hx
                  have h5 := (Hown3.out g hg).1
                  have h6 := row_lt Hrow.out e
                  omega
              · rw [h3] at e
                cases e
                rcases List.mem_append.1 hx with hx | hx
                · have := (Hok.out.own x hx _ hg).2; omega
                · simp only [List.mem_singleton] at hx
                  subst hx
                  have := (Hown3.out _ hg).2; omega
            have hB5 : Below w.heap.size w w5 := hB.trans (hU.below (fun g hg => row_from Hrow.out hg) hB.size)
            have heq5 : wRecs sumL (l.drop H) n = (dn ++ [b] ++ (wRecs sumL (l.drop (A + t)) (n + (k + 1))).1, (A + t - H) + (wRecs sumL (l.drop (A + t)) (n + (k + 1))).2) := by
              rw [Heq.out, Hs.out, show n + k + 1 = n + (k + 1) by omega]
              simp only [List.append_assoc, List.singleton_append]
              congr 1
              omega
            have Hrow5 := Lib.hid hrow5
            have Hok5 := Lib.hid (hold.app hnew)
            have Hne5 := Lib.hid hne5
            have Heq5 := Lib.hid heq5
            have Hmap5 : Hid ((XL ++ ([⟨n + k, b, .slice a3 nb c3⟩] : List XRec)).map XRec.rec4 = numbered n (dn ++ [b])) := Lib.hid (by rw [List.map_append, Hmap.out, numbered_snoc, Hdk.out]; rfl)
            clear hrow5 hold hnew hnewU hne5 heq5 hU hBx
            go_roundw
            case rel => exact ⟨A + t, k + 1, dn ++ [b], XL ++ [⟨n + k, b, .slice a3 nb c3⟩], a', c', rfl, by omega, by omega, by omega, rfl, by rw [List.length_append, Hdk.out]; rfl, by rw [List.length_append, HXk.out]; rfl, Hrow5.out, Hok5.out, Hmap5.out, Hne5.out, Heq5.out, hB5⟩
            case measure => simp only [intOf]; omega
          · have He := Lib.hid (Hend.out (wRecs_other sumL hw hq))
            have hqb : ((n' : Int) != (n : Int) + k) = true := by
              have : (n' : Int) ≠ (n : Int) + k := fun e => hq (by omega)
              simpa using this
            clear hR hw Hend hq hnb
            go_wp2_with (go_at_call 114; unfold recV at HR; refine HR.out.mono ?_; rintro e w3 ⟨a3, c3, rfl, hrd3, hown3, hB3⟩)
            go_ret3
            exact He.out _ (hB3.alloc (by have := hB3.size; omega) _)
end Go.Proofs.YtbiadclmonakkaaGreatDoor

/-
  A disk's segments: their numbers, rising.
-/
namespace Go.Proofs.YtbiadclmonakkaaGreatDoor
open Go.RowKit Go.Maps Go.MapKept

def leI (x y : Int) : Bool := decide (x ≤ y)
/-- ints that the call owns are sorted. -/
theorem sort_ints4 {w : World} {base n : Nat} {a : Option Addr} {c : Nat} {zs : List Int} (h : w.ownsRow base 3 1 (.slice a n c) n (iCells zs)) (hn : zs.length = n) (hl : n ≤ 1000000) :
    Calls Tryz.prog 112 #[.slice a n c] w fun e w' => e = .returned (.tuple #[]) ∧ w'.ownsRow base 3 1 (.slice a n c) n (iCells (zs.mergeSort leI)) ∧ w.grownBy w' (Value.slice a n c).ownBlock := by
  subst hn
  rcases h.2 with ⟨he, h0⟩ | ⟨g, cap, cur, he, hb, hg, hc, hm, hs, ht⟩
  · have hz : zs = [] := List.eq_nil_of_length_eq_zero h0
    subst hz
    cases he
    refine (Tryz.slices_Sort_int_none none 0 w).mono fun e w' hw => ?_
    obtain ⟨e1, rfl⟩ := hw
    exact ⟨e1, by simpa [iCells] using h, ⟨rfl, rfl, rfl, Nat.le_refl _, fun _ _ _ => rfl⟩⟩
  · cases he
    have hH := holds_of_blockI (ss := zs) hg (by rw [Nat.mul_one] at ht; exact ht)
    refine (Tryz.slices_Sort_int g 0 c zs w hH (blk_lt hg) (by omega)).mono fun e w' hw => ?_
    obtain ⟨e1, k, os, rfl⟩ := hw
    refine ⟨e1, ?_, grownBy_sortedI _⟩
    exact ownsRow_sortedI (ss := zs) (ts := zs.mergeSort fun x y => decide (x ≤ y)) (by rw [List.length_mergeSort]) hb hg hc hm hs
def natI (l : List Nat) : List Int := l.map (fun n : Nat => (n : Int))
theorem natI_sort (l : List Nat) : natI (l.mergeSort leN) = (natI l).mergeSort leI := by
  unfold natI
  refine List.map_mergeSort (fun a _ b _ => ?_)
  simp [leN, leI]
theorem row_int {w : World} {base n : Nat} {v : Value} {xs : List Value} (h : w.ownsRow base 3 1 v n xs) : ∃ a c, v = .slice a n c := by
  obtain ⟨_, ⟨rfl, rfl⟩ | ⟨g, cap, _, rfl, _⟩⟩ := h
  · exact ⟨_, _, rfl⟩
  · exact ⟨_, _, rfl⟩
set_option maxRecDepth 100000 in
set_option maxHeartbeats 8000000 in
theorem wsegments_at {ex : Nat → Prop} {w : World} {p m : Nat} {d : ADisk} (h : DiskAt ex w p m d) (hE : WEnv w) :
    Calls Tryz.prog 82 #[.pointer (some ⟨p, 0, none⟩)] w fun e w' => ∃ a c, e = .returned (.slice a (segsOf d).length c) ∧ w'.ownsRow w.heap.size 3 1 (.slice a (segsOf d).length c) (segsOf d).length (iCells (natI (segsOf d))) ∧ Below w.heap.size w w' := by
  have hwf := h.wf
  have hnl : d.names.length ≤ 200 := by simpa [ADisk.names] using hwf.count
  have hns : ∀ s ∈ d.names, s.size ≤ 40 := fun s hs => hwf.name_size hs
  have hL := List_at h
  obtain ⟨l, hl⟩ : ∃ l, d.names = l := ⟨_, rfl⟩
  have hseg : segsOf d = (l.filterMap wNum).mergeSort leN := by unfold segsOf; rw [hl]
  rw [hl] at hL hnl hns
  obtain ⟨N, hN⟩ : ∃ N, l.length = N := ⟨_, rfl⟩
  rw [hN] at hL hnl
  have HL := Lib.hid hL
  have Hns := Lib.hid hns
  have HN := Lib.hid hN
  have Hseg := Lib.hid hseg
  have HE := Lib.hid hE
  clear hL hns hN hseg hE hl hwf
  go_enter Tryz.func82, Tryz.ntmps82
  go_wp2_with (go_at_call 28; refine HL.out.mono ?_; rintro e w1 ⟨a1, c1, rfl, hrow1, _, hB1⟩)
  have hrd1 : Rd w1 (.slice a1 N c1) (sCells l) := Rd.ofOwns hrow1
  have Hrd1 := Lib.hid hrd1
  clear hrow1 hrd1
  go_loopw [3, 11] (fun vo i wr => ∃ (k n : Nat) (a : Option Addr) (c : Nat), k ≤ N ∧ i = .int .i64 k ∧ ((l.take k).filterMap wNum).length = n ∧ n ≤ k ∧ vo = .slice a n c ∧ wr.ownsRow w1.heap.size 3 1 (.slice a n c) n (iCells (natI ((l.take k).filterMap wNum))) ∧ Below w1.heap.size w1 wr) (fun _ i _ => N - (intOf i).toNat)
  case atStart => exact ⟨0, 0, none, 0, by omega, rfl, rfl, by omega, rfl, (by have h9 := World.ownsRow_nil w1 w1.heap.size 3 1; exact h9), Below.refl _ _⟩
  case round =>
    obtain ⟨k, n, a, c, hk, rfl, hn, hnk, rfl, hrow, hB⟩ := hrel
    have Hrow := Lib.hid hrow
    have Hn := Lib.hid hn
    clear hrow hn
    by_cases hlt : k < N
    · obtain ⟨b, o, rfl, hc⟩ := Hrd1.out.at k (by rw [sCells_length, HN.out]; exact hlt)
      have hkl : k < l.length := by rw [HN.out]; exact hlt
      simp only [sCells, List.getElem_map] at hc
      have hcr := (hB.cell (p := ⟨b, o + k, none⟩) (cell_lt hc)).trans hc
      have hss := Hns.out _ (List.getElem_mem hkl)
      have htk : (l.take (k + 1)).filterMap wNum = (l.take k).filterMap wNum ++ (wNum l[k]).toList := by
        rw [List.take_succ_eq_append_getElem hkl, List.filterMap_append]
        cases h0 : wNum l[k] <;> simp [h0]
      obtain ⟨s, hs⟩ : ∃ s, l[k] = s := ⟨_, rfl⟩
      rw [hs] at hcr hss htk
      have hEr := (HE.out.below hB1).below hB
      have hNum := wnumber_any wr s (by omega) hEr
      have Htk := Lib.hid htk
      cases hw : wNum s with
      | none =>
        rw [hw] at hNum htk
        simp only [Option.toList_none, List.append_nil] at htk
        have HNum := Lib.hid hNum
        have Htk2 := Lib.hid htk
        clear hNum htk Htk hs hc hw hEr
        go_wp2_with (go_at_call 111; refine HNum.out.mono ?_; rintro e w2 ⟨z, rfl, hz1, hz2, hB2⟩)
        go_roundw
        case rel => exact ⟨k + 1, n, a, c, by omega, by go_num, by rw [Htk2.out]; exact Hn.out, by omega, rfl, by rw [Htk2.out]; exact ((Upd.refl noFp wr).thenBelow hB2 (Nat.le_refl _)).row Hrow.out (fun _ _ h => h), hB.trans (hB2.mono hB.size)⟩
        case measure => simp [intOf]; omega
      | some y =>
        rw [hw] at hNum htk
        have HNum := Lib.hid hNum
        have Htk2 := Lib.hid htk
        clear hNum htk Htk hs hc hw hEr
        go_wp2_with first
          | (go_at_call 111; refine HNum.out.mono ?_; rintro e w2 ⟨z, rfl, hz1, hz2, hB2⟩; obtain rfl := hz2 y rfl)
          | (at_builtin; refine append_i644 rfl (.tmp 21) (.tmp 23) rfl (.slice a n c) (.slice (some ⟨w2.heap.size, 0, none⟩) 1 1) (natI ((l.take k).filterMap wNum)) [(y : Int)] (natI ((l.take (k + 1)).filterMap wNum)) n (by unfold natI; rw [List.length_map, Hn.out]) (by rw [Htk2.out]; simp [natI]) rfl (((Upd.refl noFp wr).thenBelow (hB2.alloc hB2.size _) (Nat.le_refl _)).row (ownsRow_base0 Hrow.out) (fun _ _ h => h)) rfl (Rd_new _ _ _ _ (iCells [(y : Int)]) _ _ rfl rfl) (by unfold natI; rw [List.length_map, Hn.out]; simp; omega) ?_; intro v' w3 h1 h2 h3)
        have hl1 : (natI ((l.take (k + 1)).filterMap wNum)).length = n + 1 := by rw [Htk2.out]; unfold natI; rw [List.length_map, List.length_append, Hn.out]; rfl
        rw [hl1] at h1
        obtain ⟨a', c', rfl⟩ := row_int h1
        have hU : Upd (fun g => (Value.slice a n c).ownBlock = some g) wr w3 := ((Upd.refl _ wr).thenBelow (hB2.alloc hB2.size _) (Nat.le_refl _)).grown h2 (fun g hg => Or.inl hg)
        have hB3 : Below w1.heap.size w1 w3 := hB.trans (hU.below (fun g hg => row_from Hrow.out hg) hB.size)
        have h4 : w3.ownsRow w1.heap.size 3 1 (.slice a' (n + 1) c') (n + 1) (iCells (natI ((l.take (k + 1)).filterMap wNum))) := by
          refine ownsRow_from h1 (fun g hg => ?_)
          rcases h3 with h3 | ⟨g', h3, hg'⟩
          · exact row_from Hrow.out (h3 ▸ hg)
          · rw [h3] at hg; cases hg; have := hB.size; have := hB2.size; simp at hg'; omega
        have H4 := Lib.hid h4
        have Hl1 : Hid (((l.take (k + 1)).filterMap wNum).length = n + 1) := Lib.hid (by unfold natI at hl1; rw [List.length_map] at hl1; exact hl1)
        clear h1 h2 h3 h4 hU hl1
        go_roundw
        case rel => exact ⟨k + 1, n + 1, a', c', by omega, by go_num, Hl1.out, by omega, rfl, H4.out, hB3⟩
        case measure => simp [intOf]; omega
    · obtain rfl : k = N := by omega
      have hall : l.take k = l := List.take_of_length_le (by rw [HN.out]; exact Nat.le_refl _)
      have hrow := Hrow.out
      have hn2 := Hn.out
      rw [hall] at hrow hn2
      have hS := sort_ints4 hrow (by unfold natI; rw [List.length_map, hn2]) (by omega)
      rw [← natI_sort, ← Hseg.out] at hS
      have hsl : (segsOf d).length = n := by rw [Hseg.out, List.length_mergeSort, hn2]
      have HS := Lib.hid hS
      have Hsl := Lib.hid hsl
      clear hS hsl hrow hn2 hall
      go_wp2_with (go_at_call 112; refine HS.out.mono ?_; rintro e w2 ⟨rfl, hrow2, hg2⟩)
      go_ret
      rw [Hsl.out]
      have hBw : Below w1.heap.size w1 w2 := hB.trans (((Upd.refl (fun g => w1.heap.size ≤ g) wr).grown hg2 (fun g hg => Or.inl (row_from Hrow.out hg))).below (fun _ hk => hk) hB.size)
      exact ⟨a, c, rfl, ownsRow_from hrow2 (fun g hg => Nat.le_trans hB1.size (row_from hrow2 hg)), hB1.trans (hBw.mono hB1.size)⟩
end Go.Proofs.YtbiadclmonakkaaGreatDoor

/-
  What a disk's files tell: the state of the look, in memory.
-/
namespace Go.Proofs.YtbiadclmonakkaaGreatDoor
open Go.RowKit Go.Maps Go.MapKept

/-- records out of a row are appended. -/
theorem append_recs_row (w : World) (v v3 : Value) (n m base : Nat) (L M : List XRec) (hn : n = L.length) (hm : m = M.length) (hown : w.ownsRow 0 47 2 v n (recX L)) (h3 : w.ownsRow base 47 2 v3 m (recX M)) (h1 : ∀ u ∈ recX M, u.oneCell' = true) (h63 : n + m ≤ 8589934592) :
    ∃ v' w', (Builtin.append_ #[28, 28] 28 #[v, v3]).run Tryz.prog w = .ok v' w' ∧ w'.ownsRow 0 47 2 v' (n + m) (recX (L ++ M)) ∧ w.grownBy w' v.ownBlock ∧ (v'.ownBlock = v.ownBlock ∨ ∃ g, v'.ownBlock = some g ∧ w.heap.size ≤ g) := by
  rcases h3.2 with ⟨he, h0⟩ | ⟨g, cap, cur, he, _⟩
  · subst he
    subst h0
    have hM : M = [] := List.eq_nil_of_length_eq_zero hm.symm
    subst hM
    obtain ⟨i0, hi, hz0, hz1, hz2⟩ := info_parts info_rec
    obtain ⟨a, c, rfl⟩ := row_rec hown
    have hle : n ≤ c := by
      rcases hown.2 with ⟨he, hz⟩ | ⟨g, cap, cur, he, _, _, hnc, _⟩
      · cases he; omega
      · cases he; exact hnc
    have hs : Go.Src Tryz.prog i0.size 28 (.slice none 0 0) 0 [] w := Go.Src.ofNil w Tryz.underlying28 0
    refine ⟨_, _, run_append_nothing (P := Tryz.prog) w 28 28 28 47 i0 Tryz.underlying28 hi a n c hle _ hs, by rw [List.append_nil, Nat.add_zero]; exact hown, ⟨rfl, rfl, rfl, Nat.le_refl _, fun _ _ _ => rfl⟩, Or.inl rfl⟩
  · subst he
    exact run_append_recs w v n L M hn hown g 0 m cap hm (fun j u hu => by
      have := h3.cells (g := g) rfl j u hu
      simpa [Addr.add_lit] using this) h1 h63

/-- the look's state. -/
structure LookSt (bs : Nat) (w wr : World) (p size : Nat) (f : AFound) (vs vr : Value) (XL : List XRec) : Prop where
  log : wr.heap[w.heap.size + 1]? = some (.cells (logCells p ⟨size, f.segs, f.next, f.bytes, 0, false⟩ vs) 52 (0, 0))
  fnd : wr.heap[w.heap.size + 2]? = some (.cells #[.pointer (some ⟨w.heap.size + 1, 0, none⟩), vr, .int .i64 f.none, .int .i64 f.good] 100 (0, 0))
  res : wr.heap[w.heap.size]? = some (.cells #[.pointer none, .slice none 0 0, .int .i64 0, .int .i64 0] 100 (0, 0))
  seg : SegAt wr vs f.segs
  row : wr.ownsRow w.heap.size 47 2 vr f.recs.length (recX XL)
  ok : RecsOk w.heap.size wr XL
  map : XL.map XRec.rec4 = f.recs
  hs : ∀ g, vs.ownBlock = some g → bs ≤ g
  hr : ∀ g, vr.ownBlock = some g → bs ≤ g ∧ vs.ownBlock ≠ some g
  hx : ∀ x ∈ XL, ∀ g, x.vb.ownBlock = some g → bs ≤ g ∧ vs.ownBlock ≠ some g ∧ vr.ownBlock ≠ some g
  below : Below w.heap.size w wr
  hb : w.heap.size + 3 ≤ bs
  hw : bs ≤ wr.heap.size
namespace LookSt
variable {bs : Nat} {w wr w' : World} {p size : Nat} {f : AFound} {vs vr : Value} {XL : List XRec}
theorem len (h : LookSt bs w wr p size f vs vr XL) : XL.length = f.recs.length := by rw [← h.map, List.length_map]
theorem size3 (h : LookSt bs w wr p size f vs vr XL) : w.heap.size + 2 < wr.heap.size := blk_lt h.fnd
theorem more (h : LookSt bs w wr p size f vs vr XL) (hb : Below wr.heap.size wr w') : LookSt bs w w' p size f vs vr XL :=
  ⟨(hb.block _ (blk_lt h.log)).trans h.log, (hb.block _ (blk_lt h.fnd)).trans h.fnd, (hb.block _ (blk_lt h.res)).trans h.res, h.seg.below hb, ((Upd.refl noFp wr).thenBelow hb (Nat.le_refl _)).row h.row (fun _ _ h => h), h.ok.below hb, h.map, h.hs, h.hr, h.hx, h.below.trans (hb.mono h.below.size), h.hb, Nat.le_trans h.hw hb.size⟩
/-- the last file is none. -/
theorem setNone (h : LookSt bs w wr p size f vs vr XL) (n : Nat) : LookSt bs w (wr.setCell ⟨w.heap.size + 2, 2, none⟩ (.int .i64 n)) p size { f with none := n } vs vr XL := by
  have hU : Upd (· = w.heap.size + 2) wr (wr.setCell ⟨w.heap.size + 2, 2, none⟩ (.int .i64 n)) := setCell_upd _ _
  refine ⟨hU.keep h.log (by omega), by rw [setCell_at h.fnd]; rfl, hU.keep h.res (by omega), h.seg.upd hU (fun g hg e => by have := h.hs g hg; have := h.hb; omega), hU.row h.row (fun g hg e => by have := (h.hr g hg).1; have := h.hb; omega), h.ok.upd hU (fun x hx g hg e => by have := (h.hx x hx g hg).1; have := h.hb; omega), h.map, h.hs, h.hr, h.hx, h.below.setCell (p := ⟨w.heap.size + 2, 2, none⟩) (by simp) _, h.hb, by simpa using h.hw⟩
/-- a segment is found: its records, itself, its numbers. -/
theorem add {w4 w6 w9 : World} {vr' vs' : Value} {M : List XRec} {R : List (List UInt8)} {n nx by_ gd : Nat} (h : LookSt bs w wr p size f vs vr XL) (hM : RecsOk w.heap.size wr M) (hMx : ∀ x ∈ M, ∀ g, x.vb.ownBlock = some g → bs ≤ g ∧ vs.ownBlock ≠ some g ∧ vr.ownBlock ≠ some g)
    (hMm : M.map XRec.rec4 = numbered n R)
    (h4 : w4.ownsRow 0 47 2 vr' (f.recs.length + R.length) (recX (XL ++ M))) (g4 : wr.grownBy w4 vr.ownBlock) (b4 : vr'.ownBlock = vr.ownBlock ∨ ∃ g, vr'.ownBlock = some g ∧ wr.heap.size ≤ g)
    (g6 : Upd (fun k => vs.ownBlock = some k) (w4.setCell ⟨w.heap.size + 2, 1, none⟩ vr') w6) (h6 : SegAt w6 vs' (f.segs ++ [(n, !R.isEmpty)])) (b6 : vs'.ownBlock = vs.ownBlock ∨ ∃ g, vs'.ownBlock = some g ∧ w4.heap.size ≤ g)
    (hUq : Upd (fun k => k = w.heap.size + 1 ∨ k = w.heap.size + 2) w6 w9)
    (hl9 : w9.heap[w.heap.size + 1]? = some (.cells (logCells p ⟨size, f.segs ++ [(n, !R.isEmpty)], nx, by_, 0, false⟩ vs') 52 (0, 0))) (hf9 : w9.heap[w.heap.size + 2]? = some (.cells #[.pointer (some ⟨w.heap.size + 1, 0, none⟩), vr', .int .i64 f.none, .int .i64 gd] 100 (0, 0))) :
    LookSt bs w w9 p size { f with segs := f.segs ++ [(n, !R.isEmpty)], next := nx, bytes := by_, good := gd, recs := f.recs ++ numbered n R } vs' vr' (XL ++ M) ∧ Upd (fun k => k = w.heap.size + 1 ∨ k = w.heap.size + 2 ∨ bs ≤ k) wr w9 := by
  have hsz := h.size3
  have hbs := h.hb
  have hbw := h.hw
  have hU4 : Upd (fun k => vr.ownBlock = some k) wr w4 := (Upd.refl _ wr).grown g4 (fun k hk => Or.inl hk)
  have hs4 := hU4.size
  -- where the rows lie
  have hr' : ∀ g, vr'.ownBlock = some g → bs ≤ g ∧ vs.ownBlock ≠ some g := by
    intro g hg
    rcases b4 with e | ⟨g', e, hge⟩
    · exact h.hr g (e ▸ hg)
    · rw [e] at hg; cases hg
      exact ⟨by omega, fun e => by have := h.seg.lt e; omega⟩
  have hs' : ∀ g, vs'.ownBlock = some g → bs ≤ g := by
    intro g hg
    rcases b6 with e | ⟨g', e, hge⟩
    · exact h.hs g (e ▸ hg)
    · rw [e] at hg; cases hg; omega
  have hr4lt : ∀ g, vr'.ownBlock = some g → g < w4.heap.size := fun g hg => row_lt h4 hg
  have hrs : ∀ g, vr'.ownBlock = some g → vs'.ownBlock ≠ some g := by
    intro g hg e
    rcases b6 with e6 | ⟨g', e6, hge⟩
    · exact (hr' g hg).2 (e6 ▸ e)
    · rw [e6] at e; cases e; have := hr4lt _ hg; omega
  have hall : ∀ x ∈ XL ++ M, ∀ g, x.vb.ownBlock = some g → bs ≤ g ∧ vs.ownBlock ≠ some g ∧ vr.ownBlock ≠ some g ∧ g < wr.heap.size := by
    intro x hx g hg
    rcases List.mem_append.1 hx with hx | hx
    · have a := h.hx x hx g hg; exact ⟨a.1, a.2.1, a.2.2, (h.ok.own x hx g hg).2⟩
    · have a := hMx x hx g hg; exact ⟨a.1, a.2.1, a.2.2, (hM.own x hx g hg).2⟩
  have hx' : ∀ x ∈ XL ++ M, ∀ g, x.vb.ownBlock = some g → bs ≤ g ∧ vs'.ownBlock ≠ some g ∧ vr'.ownBlock ≠ some g := by
    intro x hx g hg
    obtain ⟨a1, a2, a3, a4⟩ := hall x hx g hg
    refine ⟨a1, fun e => ?_, fun e => ?_⟩
    · rcases b6 with e6 | ⟨g', e6, hge⟩
      · exact a2 (e6 ▸ e)
      · rw [e6] at e; cases e; omega
    · rcases b4 with e4 | ⟨g', e4, hge⟩
      · exact a3 (e4 ▸ e)
      · rw [e4] at e; cases e; omega
  -- the worlds
  have hU5 : Upd (· = w.heap.size + 2) w4 (w4.setCell ⟨w.heap.size + 2, 1, none⟩ vr') := setCell_upd _ _
  have hs5 : (w4.setCell ⟨w.heap.size + 2, 1, none⟩ vr').heap.size = w4.heap.size := by simp
  generalize hw5 : w4.setCell ⟨w.heap.size + 2, 1, none⟩ vr' = w5 at hU5 g6 hs5
  have hU6 : Upd (fun k => vs.ownBlock = some k) w5 w6 := g6
  have hs6 := hU6.size
  have he4 := hU4.keep h.res (fun e => by have := (h.hr _ e).1; omega)
  have he5 := hU5.keep he4 (by omega)
  have he6 := hU6.keep he5 (fun e => by have := h.hs _ e; omega)
  have hAll : Upd (fun k => k = w.heap.size + 1 ∨ k = w.heap.size + 2 ∨ bs ≤ k) wr w9 :=
    ((((hU4.mono (fun k hk => Or.inl (by have := (h.hr _ hk).1; omega))).trans hU5 (fun k hk => Or.inl (by omega))).trans hU6 (fun k hk => Or.inl (by have := h.hs _ hk; omega))).trans hUq (fun k hk => Or.inl (by omega)))
  refine ⟨⟨hl9, hf9, hUq.keep he6 (by omega), h6.upd hUq (fun g hg e => by have := hs' g hg; omega), ?_, ?_, ?_, hs', fun g hg => ⟨(hr' g hg).1, hrs g hg⟩, hx', ?_, h.hb, ?_⟩, hAll⟩
  · have hl : (f.recs ++ numbered n R).length = f.recs.length + R.length := by rw [List.length_append, numbered_len]
    simp only [hl]
    refine hUq.row (hU6.row (hU5.row (ownsRow_from h4 (fun g hg => ?_)) (fun g hg e => ?_)) (fun g hg e => (hr' g hg).2 e)) (fun g hg e => ?_)
    · have := (hr' g hg).1; omega
    · have := (hr' g hg).1; omega
    · have := (hr' g hg).1; omega
  · exact ((((h.ok.app hM).upd hU4 (fun x hx g hg e => (hall x hx g hg).2.2.1 e)).upd hU5 (fun x hx g hg e => by have := (hall x hx g hg).1; omega)).upd hU6 (fun x hx g hg e => (hall x hx g hg).2.1 e)).upd hUq (fun x hx g hg e => by have := (hall x hx g hg).1; omega)
  · rw [List.map_append, h.map, hMm]
  · exact h.below.trans (hAll.below (fun k hk => by omega) h.below.size)
  · exact Nat.le_trans hbw hAll.size
end LookSt
/-- what a look leaves. -/
structure LookFin (w wr : World) (p size : Nat) (f : AFound) (vs vr : Value) (XL : List XRec) : Prop where
  log : wr.heap[w.heap.size + 1]? = some (.cells (logCells p ⟨size, f.segs, f.next, f.bytes, 0, false⟩ vs) 52 (0, 0))
  seg : SegAt wr vs f.segs
  row : wr.ownsRow w.heap.size 47 2 vr f.recs.length (recX XL)
  ok : RecsOk w.heap.size wr XL
  map : XL.map XRec.rec4 = f.recs
  hs : ∀ g, vs.ownBlock = some g → w.heap.size + 3 ≤ g
  hr : ∀ g, vr.ownBlock = some g → w.heap.size + 3 ≤ g ∧ vs.ownBlock ≠ some g
  hx : ∀ x ∈ XL, ∀ g, x.vb.ownBlock = some g → w.heap.size + 3 ≤ g ∧ vs.ownBlock ≠ some g ∧ vr.ownBlock ≠ some g
  below : Below w.heap.size w wr
theorem LookSt.fin {bs : Nat} {w wr w' : World} {p size : Nat} {f : AFound} {vs vr : Value} {XL : List XRec} (h : LookSt bs w wr p size f vs vr XL) (hU : Upd (· = w.heap.size) wr w') : LookFin w w' p size f vs vr XL :=
  ⟨hU.keep h.log (by omega), h.seg.upd hU (fun g hg e => by have := h.hs g hg; have := h.hb; omega), hU.row h.row (fun g hg e => by have := (h.hr g hg).1; have := h.hb; omega), h.ok.upd hU (fun x hx g hg e => by have := (h.hx x hx g hg).1; have := h.hb; omega), h.map, fun g hg => Nat.le_trans h.hb (h.hs g hg), fun g hg => ⟨Nat.le_trans h.hb (h.hr g hg).1, (h.hr g hg).2⟩, fun x hx g hg => ⟨Nat.le_trans h.hb (h.hx x hx g hg).1, (h.hx x hx g hg).2⟩, h.below.trans (hU.below (fun k hk => by omega) h.below.size)⟩
end Go.Proofs.YtbiadclmonakkaaGreatDoor

/-
  The three steps of Open, as closures; what runs them.
-/
namespace Go.Proofs.YtbiadclmonakkaaGreatDoor
open Go.RowKit Go.Maps Go.MapKept

def AFound.raw (f : AFound) (size : Nat) : ALog := ⟨size, f.segs, f.next, f.bytes, 0, false⟩
theorem FOk.raw {f : AFound} (h : FOk f) {size : Nat} (hs : size ≤ 16777216) : (f.raw size).Ok := ⟨hs, h.next, h.bytes, Nat.zero_le _, h.segs, h.many⟩
section
variable {ex : Nat → Prop} {w : World} {q p m : Nat} {d : ADisk}
/-- the boxes that the steps share. -/
structure OpBox (ex : Nat → Prop) (w : World) (q p bf bl bd size : Nat) (f : AFound) (vs vr : Value) : Prop where
  cl : w.cell? ⟨bl, 0, none⟩ = some (.pointer (some ⟨q, 0, none⟩))
  cd : w.cell? ⟨bd, 0, none⟩ = some (.pointer (some ⟨p, 0, none⟩))
  fb : w.heap[bf]? = some (.cells #[.pointer (some ⟨q, 0, none⟩), vr, .int .i64 f.none, .int .i64 f.good] 100 (0, 0))
  log : w.heap[q]? = some (.cells (logCells p (f.raw size) vs) 52 (0, 0))
  seg : SegAt w vs f.segs
  xl : ex bl
  xd : ex bd
  xf : ex bf
  xq : ex q
  xs : ∀ g, vs.ownBlock = some g → ex g ∧ g ≠ q
  gl : GlIn ex
  env : WEnv w
  ok : FOk f
  sz : size ≤ 16777216
namespace OpBox
variable {w' : World} {bf bl bd size : Nat} {f : AFound} {vs vr : Value}
theorem keep (h : OpBox ex w q p bf bl bd size f vs vr) (hk : Keep ex w w') : OpBox ex w' q p bf bl bd size f vs vr :=
  ⟨(hk.cell h.xl 0).trans h.cl, (hk.cell h.xd 0).trans h.cd, (hk.block _ h.xf).trans h.fb, (hk.block _ h.xq).trans h.log, h.seg.keep hk (fun g hg => (h.xs g hg).1), h.xl, h.xd, h.xf, h.xq, h.xs, h.gl, h.env.keep hk h.gl, h.ok, h.sz⟩
theorem logAt (h : OpBox ex w q p bf bl bd size f vs vr) (hD : DiskAt ex w p m d) : LogAt (fun _ => False) w q p m d (f.raw size) :=
  ⟨vs, h.log, h.seg, hD.mono (fun k hk => hk.elim False.elim (fun hk => hk.elim (fun e => e ▸ h.xq) (fun e => (h.xs k e).1))), fun e => e, fun g hg => ⟨fun e => e, (h.xs g hg).2⟩⟩
end OpBox
theorem cells4O {w : World} {b : Nat} {x y z u : Value} {T : TypeId} (h : w.heap[b]? = some (.cells #[x, y, z, u] T (0, 0))) : w.cell? ⟨b, 0, none⟩ = some x ∧ w.cell? ⟨b, 1, none⟩ = some y ∧ w.cell? ⟨b, 2, none⟩ = some z ∧ w.cell? ⟨b, 3, none⟩ = some u := by
  obtain ⟨a, b, c, d, _⟩ := cells4 h
  exact ⟨a, b, c, d⟩

set_option maxRecDepth 100000 in
set_option maxHeartbeats 2000000 in
theorem wopen1_at {bf bl bd size : Nat} {f : AFound} {vs vr : Value} (h : DiskAt ex w p m d) (hb : OpBox ex w q p bf bl bd size f vs vr) :
    Calls Tryz.prog 54 #[.pointer (some ⟨bf, 0, none⟩), .pointer (some ⟨bd, 0, none⟩)] w fun e w' => e = .returned (.int .i64 (opE1 d f)) ∧ DiskAt ex w' p m (opD1 d f) ∧ Keep ex w w' := by
  have k1 := hb.cd
  obtain ⟨_, _, k2, _⟩ := cells4O hb.fb
  have hno := hb.ok.none
  by_cases hz : f.none = 0
  · have e1 : opE1 d f = 0 := by unfold opE1; rw [if_pos hz]
    have e2 : opD1 d f = d := by unfold opD1; rw [if_pos hz]
    rw [e1, e2]
    rw [hz] at k2
    clear hb hno hz e1 e2
    go_enter Tryz.func54, Tryz.ntmps54
    go_wp2
    go_ret
    exact ⟨rfl, h, Keep.refl _ _⟩
  · have e1 : opE1 d f = d.removeErr (wName f.none) := by unfold opE1; rw [if_neg hz]
    have e2 : opD1 d f = d.remove (wName f.none) := by unfold opD1; rw [if_neg hz]
    rw [e1, e2]
    have hn := wname_any w.drew f.none hno hb.env.drew
    have hs := wName_len hno
    have hzb : ((f.none : Int) == 0) = false := by rw [beq_eq_false_iff_ne]; omega
    generalize wName f.none = s at hn hs ⊢
    generalize f.none = n at hn k2 hzb
    have hR := fun wX (hX : DiskAt ex wX p m d) => Remove_at s hX (Nat.le_trans hs (by decide))
    have HR := Lib.hid hR
    have Hn := Lib.hid hn
    have Hb := Lib.hid hb
    clear hR hn hb hs e1 e2 hno hz
    go_enter Tryz.func54, Tryz.ntmps54
    go_wp2
    go_region_held3 (fun w' => w'.cell? ⟨bd, 0, none⟩ = some (.pointer (some ⟨p, 0, none⟩)) ∧ w'.cell? ⟨bf, 2, none⟩ = some (.int .i64 n)) (first | exact ⟨k1, k2⟩ | exact S2 | exact S3 | go_keep)
      (first
        | (go_at_call 45; refine Hn.out.mono ?_; rintro e w1 ⟨rfl, hB⟩; have S2 : w1.cell? ⟨bd, 0, none⟩ = some (.pointer (some ⟨p, 0, none⟩)) ∧ w1.cell? ⟨bf, 2, none⟩ = some (.int .i64 n) := ⟨(hB.cell (p := ⟨bd, 0, none⟩) (cell_lt k1)).trans k1, (hB.cell (p := ⟨bf, 2, none⟩) (cell_lt k2)).trans k2⟩)
        | (go_at_call 55; refine (HR.out w1 (h.below (((Below.refl _ _).drew).trans hB))).mono ?_; rintro e w2 ⟨rfl, hD, hK⟩; have S3 : w2.cell? ⟨bd, 0, none⟩ = some (.pointer (some ⟨p, 0, none⟩)) ∧ w2.cell? ⟨bf, 2, none⟩ = some (.int .i64 n) := ⟨(hK.cell Hb.out.xd 0).trans S2.1, (hK.cell Hb.out.xf 2).trans S2.2⟩))
    go_wp2
    go_ret
    exact ⟨rfl, hD, (Keep.ofBelow (((Below.refl _ _).drew).trans hB) (fun k hk => h.lt hk)).trans hK⟩
set_option maxRecDepth 100000 in
set_option maxHeartbeats 4000000 in
theorem wopen2_at {d0 : ADisk} {bf bl bd size : Nat} {f : AFound} {vs vr : Value} (h : DiskAt ex w p m d) (hb : OpBox ex w q p bf bl bd size f vs vr) (hd : opD1 d0 f = d) :
    Calls Tryz.prog 56 #[.pointer (some ⟨bl, 0, none⟩), .pointer (some ⟨bf, 0, none⟩), .pointer (some ⟨bd, 0, none⟩)] w fun e w' => e = .returned (.int .i64 (opE2 d0 f)) ∧ DiskAt ex w' p m (opD2 d0 f) ∧ Keep ex w w' := by
  have k1 := hb.cd
  have k0 := hb.cl
  obtain ⟨_, _, _, k2⟩ := cells4O hb.fb
  obtain ⟨av, cv, rfl, _⟩ := hb.seg.shape
  obtain ⟨_, _, k3', _, k4', _⟩ := cells7 hb.log
  have k3 : w.cell? ⟨q, 2, none⟩ = some (.slice av f.segs.length cv) := k3'
  have k4 : w.cell? ⟨q, 4, none⟩ = some (.int .i64 f.bytes) := k4'
  clear k3' k4'
  obtain ⟨n, hn⟩ : ∃ n, f.segs.length = n := ⟨_, rfl⟩
  obtain ⟨gd, hgd⟩ : ∃ n, f.good = n := ⟨_, rfl⟩
  obtain ⟨by_, hby⟩ : ∃ n, f.bytes = n := ⟨_, rfl⟩
  have hnl : n ≤ 1000 := by rw [← hn]; exact hb.ok.many
  have hgl : gd ≤ 1099511627776 := by rw [← hgd]; exact hb.ok.good
  rw [hn] at k3
  rw [hgd] at k2
  rw [hby] at k4
  have hn0 : f.segs = [] ↔ n = 0 := by rw [← hn, List.length_eq_zero_iff]
  by_cases hc : f.segs = [] ∨ f.good = f.bytes
  · have e1 : opE2 d0 f = 0 := by unfold opE2; rw [if_pos hc]
    have e2 : opD2 d0 f = d := by unfold opD2; rw [if_pos hc, hd]
    rw [e1, e2]
    rw [hn0, hgd, hby] at hc
    clear hb hn hgd hby hn0 e1 e2 hd hnl hgl
    by_cases hz : n = 0
    · subst hz
      clear hc
      go_enter Tryz.func56, Tryz.ntmps56
      go_wp2
      go_quiet (fail)
      go_wp2
      go_ret
      exact ⟨rfl, h.below (below_drewN (Below.refl _ _) _), Keep.ofBelow (below_drewN (Below.refl _ _) _) (fun k hk => h.lt hk)⟩
    · obtain rfl : gd = by_ := by rcases hc with hc | hc <;> omega
      have hzb : ((n : Int) == 0) = false := by rw [beq_eq_false_iff_ne]; omega
      have hzc : ((gd : Int) == gd) = true := by simp
      clear hc hz
      go_enter Tryz.func56, Tryz.ntmps56
      go_wp2
      go_quiet (fail)
      go_wp2
      go_ret
      exact ⟨rfl, h.below (below_drewN (Below.refl _ _) _), Keep.ofBelow (below_drewN (Below.refl _ _) _) (fun k hk => h.lt hk)⟩
  · have e1 : opE2 d0 f = d.cutErr (wName f.lastN) f.good := by unfold opE2; rw [if_neg hc, hd]
    have e2 : opD2 d0 f = d.cut (wName f.lastN) f.good := by unfold opD2; rw [if_neg hc, hd]
    rw [e1, e2]
    have hsn : f.segs ≠ [] := fun e => hc (Or.inl e)
    have hfn : ∀ wX, DiskAt ex wX p m d → Keep ex w wX → Calls Tryz.prog 57 #[.pointer (some ⟨q, 0, none⟩)] wX fun e w' => e = .returned (.string (wName f.lastN)) ∧ Below wX.heap.size wX w' := fun wX hX hK => wfile_at ((hb.keep hK).logAt hX) (hb.keep hK).env (hb.ok.raw hb.sz) hsn
    have hsl : (wName f.lastN).size ≤ maxLen := (hb.ok.raw hb.sz).file_size
    rw [hn0, hgd, hby] at hc
    rw [hgd]
    have hzb : ((n : Int) == 0) = false := by rw [beq_eq_false_iff_ne]; omega
    have hzc : ((gd : Int) == by_) = false := by rw [beq_eq_false_iff_ne]; omega
    generalize wName f.lastN = s at hfn hsl ⊢
    have hR := fun wX (hX : DiskAt ex wX p m d) => Cut_at s gd hX hsl
    have HR := Lib.hid hR
    have Hf := Lib.hid hfn
    have Hb := Lib.hid hb
    clear hR hfn hb hn hgd hby hn0 e1 e2 hd hc hsn hsl
    go_enter Tryz.func56, Tryz.ntmps56
    go_wp2
    go_quiet (fail)
    go_wp2
    go_region_held3 (fun w' => w'.cell? ⟨bd, 0, none⟩ = some (.pointer (some ⟨p, 0, none⟩)) ∧ w'.cell? ⟨bl, 0, none⟩ = some (.pointer (some ⟨q, 0, none⟩)) ∧ w'.cell? ⟨bf, 3, none⟩ = some (.int .i64 gd)) (first | exact ⟨k1, k0, k2⟩ | exact S2 | exact S3 | go_keep)
      (first
        | (go_at_call 57; refine (Hf.out _ (h.below ((below_drewN (Below.refl _ _) _).drew)) (Keep.ofBelow ((below_drewN (Below.refl _ _) _).drew) (fun k hk => h.lt hk))).mono ?_; rintro e w1 ⟨rfl, hB0⟩; have hB := ((below_drewN (Below.refl w.heap.size w) _).drew).trans (hB0.mono (by simp)); have S2 : w1.cell? ⟨bd, 0, none⟩ = some (.pointer (some ⟨p, 0, none⟩)) ∧ w1.cell? ⟨bl, 0, none⟩ = some (.pointer (some ⟨q, 0, none⟩)) ∧ w1.cell? ⟨bf, 3, none⟩ = some (.int .i64 gd) := ⟨(hB.cell (p := ⟨bd, 0, none⟩) (cell_lt k1)).trans k1, (hB.cell (p := ⟨bl, 0, none⟩) (cell_lt k0)).trans k0, (hB.cell (p := ⟨bf, 3, none⟩) (cell_lt k2)).trans k2⟩)
        | (go_at_call 16; refine (HR.out w1 (h.below hB)).mono ?_; rintro e w2 ⟨rfl, hD, hK⟩; have S3 : w2.cell? ⟨bd, 0, none⟩ = some (.pointer (some ⟨p, 0, none⟩)) ∧ w2.cell? ⟨bl, 0, none⟩ = some (.pointer (some ⟨q, 0, none⟩)) ∧ w2.cell? ⟨bf, 3, none⟩ = some (.int .i64 gd) := ⟨(hK.cell Hb.out.xd 0).trans S2.1, (hK.cell Hb.out.xl 0).trans S2.2.1, (hK.cell Hb.out.xf 3).trans S2.2.2⟩))
    go_wp2
    go_ret
    exact ⟨rfl, hD, (Keep.ofBelow hB (fun k hk => h.lt hk)).trans hK⟩
set_option maxRecDepth 100000 in
set_option maxHeartbeats 4000000 in
theorem wopen3_at {d0 : ADisk} {bf bl bd size : Nat} {f : AFound} {vs vr : Value} (h : DiskAt ex w p m d) (hb : OpBox ex w q p bf bl bd size f vs vr) (hd : opD2 d0 f = d) :
    Calls Tryz.prog 58 #[.pointer (some ⟨bl, 0, none⟩), .pointer (some ⟨bd, 0, none⟩)] w fun e w' => e = .returned (.int .i64 (opE3 d0 f)) ∧ DiskAt ex w' p m (opD3 d0 f) ∧ Keep ex w w' := by
  have k1 := hb.cd
  have k0 := hb.cl
  obtain ⟨av, cv, rfl, _⟩ := hb.seg.shape
  obtain ⟨_, _, k3', _⟩ := cells7 hb.log
  have k3 : w.cell? ⟨q, 2, none⟩ = some (.slice av f.segs.length cv) := k3'
  clear k3'
  obtain ⟨n, hn⟩ : ∃ n, f.segs.length = n := ⟨_, rfl⟩
  have hnl : n ≤ 1000 := by rw [← hn]; exact hb.ok.many
  rw [hn] at k3
  have hn0 : f.segs = [] ↔ n = 0 := by rw [← hn, List.length_eq_zero_iff]
  by_cases hc : f.segs = []
  · have e1 : opE3 d0 f = 0 := by unfold opE3; rw [if_pos hc]
    have e2 : opD3 d0 f = d := by unfold opD3; rw [if_pos hc, hd]
    rw [e1, e2]
    obtain rfl : n = 0 := hn0.1 hc
    clear hb hn hn0 e1 e2 hd hnl hc
    go_enter Tryz.func58, Tryz.ntmps58
    go_wp2
    go_ret
    exact ⟨rfl, h, Keep.refl _ _⟩
  · have e1 : opE3 d0 f = d.syncErr (wName f.lastN) := by unfold opE3; rw [if_neg hc, hd]
    have e2 : opD3 d0 f = d.sync (wName f.lastN) := by unfold opD3; rw [if_neg hc, hd]
    rw [e1, e2]
    have hfn : ∀ wX, DiskAt ex wX p m d → Keep ex w wX → Calls Tryz.prog 57 #[.pointer (some ⟨q, 0, none⟩)] wX fun e w' => e = .returned (.string (wName f.lastN)) ∧ Below wX.heap.size wX w' := fun wX hX hK => wfile_at ((hb.keep hK).logAt hX) (hb.keep hK).env (hb.ok.raw hb.sz) hc
    have hsl : (wName f.lastN).size ≤ maxLen := (hb.ok.raw hb.sz).file_size
    rw [hn0] at hc
    have hzb : ((n : Int) == 0) = false := by rw [beq_eq_false_iff_ne]; omega
    generalize wName f.lastN = s at hfn hsl ⊢
    have hR := fun wX (hX : DiskAt ex wX p m d) => Sync_at s hX hsl
    have HR := Lib.hid hR
    have Hf := Lib.hid hfn
    have Hb := Lib.hid hb
    clear hR hfn hb hn hn0 e1 e2 hd hc hsl
    go_enter Tryz.func58, Tryz.ntmps58
    go_wp2
    go_region_held3 (fun w' => w'.cell? ⟨bd, 0, none⟩ = some (.pointer (some ⟨p, 0, none⟩)) ∧ w'.cell? ⟨bl, 0, none⟩ = some (.pointer (some ⟨q, 0, none⟩))) (first | exact ⟨k1, k0⟩ | exact S2 | exact S3 | go_keep)
      (first
        | (go_at_call 57; refine (Hf.out _ (h.below ((Below.refl _ _).drew)) (Keep.ofBelow ((Below.refl _ _).drew) (fun k hk => h.lt hk))).mono ?_; rintro e w1 ⟨rfl, hB0⟩; have hB := ((Below.refl w.heap.size w).drew).trans hB0; have S2 : w1.cell? ⟨bd, 0, none⟩ = some (.pointer (some ⟨p, 0, none⟩)) ∧ w1.cell? ⟨bl, 0, none⟩ = some (.pointer (some ⟨q, 0, none⟩)) := ⟨(hB.cell (p := ⟨bd, 0, none⟩) (cell_lt k1)).trans k1, (hB.cell (p := ⟨bl, 0, none⟩) (cell_lt k0)).trans k0⟩)
        | (go_at_call 43; refine (HR.out w1 (h.below hB)).mono ?_; rintro e w2 ⟨rfl, hD, hK⟩; have S3 : w2.cell? ⟨bd, 0, none⟩ = some (.pointer (some ⟨p, 0, none⟩)) ∧ w2.cell? ⟨bl, 0, none⟩ = some (.pointer (some ⟨q, 0, none⟩)) := ⟨(hK.cell Hb.out.xd 0).trans S2.1, (hK.cell Hb.out.xl 0).trans S2.2⟩))
    go_wp2
    go_ret
    exact ⟨rfl, hD, (Keep.ofBelow hB (fun k hk => h.lt hk)).trans hK⟩

/-- the disk behind so many steps. -/
def opD (d : ADisk) (f : AFound) : Nat → ADisk
  | 0 => d
  | 1 => opD1 d f
  | 2 => opD2 d f
  | _ => opD3 d f
def opE (d : ADisk) (f : AFound) : Nat → Int
  | 0 => opE1 d f
  | 1 => opE2 d f
  | _ => opE3 d f
theorem op_bad {d : ADisk} {n : AFound} {j : Nat} (hj : j ≤ 2) (hz : ∀ i, i < j → opE d n i = 0) (hb : opE d n j ≠ 0) : opSteps d n = (opD d n (j + 1), opE d n j) := by
  have hj4 : j = 0 ∨ j = 1 ∨ j = 2 := by omega
  unfold opSteps
  rcases hj4 with rfl | rfl | rfl
  · have h0 : opE1 d n ≠ 0 := hb
    rw [if_pos h0]; rfl
  · have h0 : opE1 d n = 0 := hz 0 (by omega)
    have h1 : opE2 d n ≠ 0 := hb
    rw [if_neg (fun h => h h0), if_pos h1]; rfl
  · have h0 : opE1 d n = 0 := hz 0 (by omega)
    have h1 : opE2 d n = 0 := hz 1 (by omega)
    rw [if_neg (fun h => h h0), if_neg (fun h => h h1)]; rfl
theorem op_good {d : ADisk} {n : AFound} (hz : ∀ i, i < 3 → opE d n i = 0) : opSteps d n = (opD d n 3, 0) := by
  have h0 : opE1 d n = 0 := hz 0 (by omega)
  have h1 : opE2 d n = 0 := hz 1 (by omega)
  have h2 : opE3 d n = 0 := hz 2 (by omega)
  unfold opSteps
  rw [if_neg (fun h => h h0), if_neg (fun h => h h1), h2]; rfl

/-- the steps as values. -/
def opFns (bf bl bd : Nat) : Array Value := #[.func (.func 54) #[] #[.pointer (some ⟨bf, 0, none⟩), .pointer (some ⟨bd, 0, none⟩)], .func (.func 56) #[] #[.pointer (some ⟨bl, 0, none⟩), .pointer (some ⟨bf, 0, none⟩), .pointer (some ⟨bd, 0, none⟩)], .func (.func 58) #[] #[.pointer (some ⟨bl, 0, none⟩), .pointer (some ⟨bd, 0, none⟩)]]
set_option maxRecDepth 100000 in
set_option maxHeartbeats 4000000 in
theorem wsteps_op {bf bl bd size r : Nat} {f : AFound} {vs vr : Value} {T : TypeId} (h : DiskAt ex w p m d) (hb : OpBox ex w q p bf bl bd size f vs vr) (hr : w.heap[r]? = some (.cells (opFns bf bl bd) T (0, 0))) (hxr : ex r) :
    Calls Tryz.prog 53 #[.slice (some ⟨r, 0, none⟩) 3 3] w fun e w' => e = .returned (.int .i64 (opSteps d f).2) ∧ DiskAt ex w' p m (opSteps d f).1 ∧ Keep ex w w' := by
  unfold opFns at hr
  have Hb := Lib.hid hb
  have Hr := Lib.hid hr
  clear hb hr
  go_enter Tryz.func53, Tryz.ntmps53
  go_wp2
  go_loopw [8] (fun i wr => ∃ (j : Nat) (kk : Int), j ≤ 3 ∧ kk = j ∧ i = .int .i64 kk ∧ DiskAt ex wr p m (opD d f j) ∧ Keep ex w wr ∧ ∀ i, i < j → opE d f i = 0) (fun i _ => 3 - (intOf i).toNat)
  case atStart => exact ⟨0, 0, by omega, rfl, rfl, h, Keep.refl _ _, fun i hi => absurd hi (Nat.not_lt_zero i)⟩
  case round =>
    obtain ⟨j, kk, hj, hkk, rfl, hDr, hKr, hzs⟩ := hrel
    have Hzs := Lib.hid hzs
    have hfr := (hKr.block _ hxr).trans Hr.out
    obtain ⟨l0, l1, l2, _⟩ := cells3 hfr
    have hbr := Hb.out.keep hKr
    have Hbr := Lib.hid hbr
    clear hzs hfr hbr
    have hj5 : j = 0 ∨ j = 1 ∨ j = 2 ∨ j = 3 := by omega
    rcases hj5 with rfl | rfl | rfl | rfl
    · obtain rfl : kk = 0 := by omega
      clear hkk
      have hst := wopen1_at hDr Hbr.out
      change Calls _ _ _ _ (fun e w' => e = .returned (.int .i64 (opE d f 0)) ∧ DiskAt ex w' p m (opD d f 1) ∧ Keep ex wr w') at hst
      have Hst := Lib.hid hst
      by_cases hz0 : opE d f 0 = 0
      · rw [hz0] at Hst
        have Hz0 := Lib.hid hz0
        clear hst hz0
        go_wp2_with (go_at_call 54; refine Hst.out.mono ?_; rintro e w3 ⟨rfl, hD3, hK3⟩)
        go_roundw
        case rel => exact ⟨1, 1, by omega, rfl, rfl, hD3, hKr.trans hK3, fun i hi => (Nat.lt_succ_iff_lt_or_eq.1 hi).elim (fun h => Hzs.out i h) (fun h => h ▸ Hz0.out)⟩
        case measure => simp [intOf]
      · obtain ⟨er, her⟩ : ∃ er, opE d f 0 = er := ⟨_, rfl⟩
        have hbad := op_bad (d := d) (n := f) (j := 0) (by omega) Hzs.out hz0
        rw [her] at Hst hz0 hbad
        have hzb : (er != 0) = true := by simpa using hz0
        have Hbad := Lib.hid hbad
        clear hst hz0 her hbad
        go_wp2_with (go_at_call 54; refine Hst.out.mono ?_; rintro e w3 ⟨rfl, hD3, hK3⟩)
        go_ret
        rw [Hbad.out]
        exact ⟨rfl, hD3, hKr.trans hK3⟩
    · obtain rfl : kk = 1 := by omega
      clear hkk
      have hst := wopen2_at (d0 := d) hDr Hbr.out rfl
      change Calls _ _ _ _ (fun e w' => e = .returned (.int .i64 (opE d f 1)) ∧ DiskAt ex w' p m (opD d f 2) ∧ Keep ex wr w') at hst
      have Hst := Lib.hid hst
      by_cases hz0 : opE d f 1 = 0
      · rw [hz0] at Hst
        have Hz0 := Lib.hid hz0
        clear hst hz0
        go_wp2_with (go_at_call 56; refine Hst.out.mono ?_; rintro e w3 ⟨rfl, hD3, hK3⟩)
        go_roundw
        case rel => exact ⟨2, 2, by omega, rfl, rfl, hD3, hKr.trans hK3, fun i hi => (Nat.lt_succ_iff_lt_or_eq.1 hi).elim (fun h => Hzs.out i h) (fun h => h ▸ Hz0.out)⟩
        case measure => simp [intOf]
      · obtain ⟨er, her⟩ : ∃ er, opE d f 1 = er := ⟨_, rfl⟩
        have hbad := op_bad (d := d) (n := f) (j := 1) (by omega) Hzs.out hz0
        rw [her] at Hst hz0 hbad
        have hzb : (er != 0) = true := by simpa using hz0
        have Hbad := Lib.hid hbad
        clear hst hz0 her hbad
        go_wp2_with (go_at_call 56; refine Hst.out.mono ?_; rintro e w3 ⟨rfl, hD3, hK3⟩)
        go_ret
        rw [Hbad.out]
        exact ⟨rfl, hD3, hKr.trans hK3⟩
    · obtain rfl : kk = 2 := by omega
      clear hkk
      have hst := wopen3_at (d0 := d) hDr Hbr.out rfl
      change Calls _ _ _ _ (fun e w' => e = .returned (.int .i64 (opE d f 2)) ∧ DiskAt ex w' p m (opD d f 3) ∧ Keep ex wr w') at hst
      have Hst := Lib.hid hst
      by_cases hz0 : opE d f 2 = 0
      · rw [hz0] at Hst
        have Hz0 := Lib.hid hz0
        clear hst hz0
        go_wp2_with (go_at_call 58; refine Hst.out.mono ?_; rintro e w3 ⟨rfl, hD3, hK3⟩)
        go_roundw
        case rel => exact ⟨3, 3, by omega, rfl, rfl, hD3, hKr.trans hK3, fun i hi => (Nat.lt_succ_iff_lt_or_eq.1 hi).elim (fun h => Hzs.out i h) (fun h => h ▸ Hz0.out)⟩
        case measure => simp [intOf]
      · obtain ⟨er, her⟩ : ∃ er, opE d f 2 = er := ⟨_, rfl⟩
        have hbad := op_bad (d := d) (n := f) (j := 2) (by omega) Hzs.out hz0
        rw [her] at Hst hz0 hbad
        have hzb : (er != 0) = true := by simpa using hz0
        have Hbad := Lib.hid hbad
        clear hst hz0 her hbad
        go_wp2_with (go_at_call 58; refine Hst.out.mono ?_; rintro e w3 ⟨rfl, hD3, hK3⟩)
        go_ret
        rw [Hbad.out]
        exact ⟨rfl, hD3, hKr.trans hK3⟩
    · obtain rfl : kk = 3 := by omega
      clear hkk
      have hgood := op_good (d := d) (n := f) Hzs.out
      go_wp2
      go_ret
      rw [hgood]
      exact ⟨rfl, hDr, hKr⟩
end
end Go.Proofs.YtbiadclmonakkaaGreatDoor

/-
  Open: what is made ready for its steps.
-/
namespace Go.Proofs.YtbiadclmonakkaaGreatDoor
open Go.RowKit Go.Maps Go.MapKept

/-- the blocks of records that are told. -/
def RBlk (vr : Value) (XL : List XRec) (k : Nat) : Prop := vr.ownBlock = some k ∨ ∃ x ∈ XL, x.vb.ownBlock = some k
structure OpenFin (ex : Nat → Prop) (w w' : World) (q p m : Nat) (d : ADisk) (al : ALog) (vr : Value) (recs : List ARec) (XL : List XRec) : Prop where
  log : LogAt (fun k => ex k ∨ RBlk vr XL k) w' q p m d al
  row : w'.ownsRow w.heap.size 47 2 vr recs.length (recX XL)
  ok : RecsOk w.heap.size w' XL
  map : XL.map XRec.rec4 = recs
  new : w.heap.size ≤ q ∧ q < w'.heap.size
  newR : ∀ k, RBlk vr XL k → w.heap.size ≤ k ∧ k < w'.heap.size
/-- what Open leaves. -/
def OpenPost (ex : Nat → Prop) (w : World) (p m : Nat) (r : ADisk × AFound × Int) (size : Int) (e : Ending) (w' : World) : Prop :=
  Keep ex w w' ∧ ((r.2.2 ≠ 0 ∧ e = .returned (.tuple #[.pointer none, .slice none 0 0, .int .i64 r.2.2]) ∧ DiskAt ex w' p m r.1) ∨
    (r.2.2 = 0 ∧ ∃ q a c XL, e = .returned (.tuple #[.pointer (some ⟨q, 0, none⟩), .slice a r.2.1.recs.length c, .int .i64 0]) ∧ OpenFin ex w w' q p m r.1 (r.2.1.log size) (.slice a r.2.1.recs.length c) r.2.1.recs XL))

section
variable {ex : Nat → Prop} {w : World} {p m : Nat} {d : ADisk}
/-- the steps, where the boxes lie. -/
theorem op_ready {w2 w3 : World} {sz : Nat} {f : AFound} {vs vr : Value} {XL : List XRec} {T : TypeId} (h : DiskAt ex w p m d) (hB2 : Below w.heap.size w w2) (hF : LookFin w2 w3 p sz f vs vr XL) (hE : WEnv w) (hG : GlIn ex) (hok : FOk f) (hsz : sz ≤ 16777216)
    (hd : w3.heap[w.heap.size]? = some (.cells #[.pointer (some ⟨p, 0, none⟩)] T (0, 0))) :
    Calls Tryz.prog 53 #[.slice (some ⟨w3.heap.size + 1 + 1, 0, none⟩) 3 3] (((w3.alloc (.cells #[.pointer (some ⟨w2.heap.size + 1, 0, none⟩), vr, .int .i64 f.none, .int .i64 f.good] 100)).alloc (.cells #[.pointer (some ⟨w2.heap.size + 1, 0, none⟩)] 27)).alloc (.cells (opFns w3.heap.size (w3.heap.size + 1) w.heap.size) 55)) fun e w' =>
      e = .returned (.int .i64 (opSteps d f).2) ∧ DiskAt (fun k => ex k ∨ w.heap.size ≤ k ∧ k < w3.heap.size + 3) w' p m (opSteps d f).1 ∧ Keep (fun k => ex k ∨ w.heap.size ≤ k ∧ k < w3.heap.size + 3) (((w3.alloc (.cells #[.pointer (some ⟨w2.heap.size + 1, 0, none⟩), vr, .int .i64 f.none, .int .i64 f.good] 100)).alloc (.cells #[.pointer (some ⟨w2.heap.size + 1, 0, none⟩)] 27)).alloc (.cells (opFns w3.heap.size (w3.heap.size + 1) w.heap.size) 55)) w' ∧
        OpBox (fun k => ex k ∨ w.heap.size ≤ k ∧ k < w3.heap.size + 3) w' (w2.heap.size + 1) p w3.heap.size (w3.heap.size + 1) w.heap.size sz f vs vr := by
  have hlt2 := blk_lt hF.log
  have hs2 := hB2.size
  have hb0 : ((w3.alloc (.cells #[.pointer (some ⟨w2.heap.size + 1, 0, none⟩), vr, .int .i64 f.none, .int .i64 f.good] 100)).alloc (.cells #[.pointer (some ⟨w2.heap.size + 1, 0, none⟩)] 27)).heap[w3.heap.size]? = _ := alloc2_at0 _ _ _
  have hb1 : ((w3.alloc (.cells #[.pointer (some ⟨w2.heap.size + 1, 0, none⟩), vr, .int .i64 f.none, .int .i64 f.good] 100)).alloc (.cells #[.pointer (some ⟨w2.heap.size + 1, 0, none⟩)] 27)).heap[w3.heap.size + 1]? = _ := alloc2_at _ _ _
  have hUU : Upd noFp w3 ((w3.alloc (.cells #[.pointer (some ⟨w2.heap.size + 1, 0, none⟩), vr, .int .i64 f.none, .int .i64 f.good] 100)).alloc (.cells #[.pointer (some ⟨w2.heap.size + 1, 0, none⟩)] 27)) := ((Upd.refl _ _).alloc _).alloc _
  have hsU : ((w3.alloc (.cells #[.pointer (some ⟨w2.heap.size + 1, 0, none⟩), vr, .int .i64 f.none, .int .i64 f.good] 100)).alloc (.cells #[.pointer (some ⟨w2.heap.size + 1, 0, none⟩)] 27)).heap.size = w3.heap.size + 2 := by simp
  generalize (w3.alloc (.cells #[.pointer (some ⟨w2.heap.size + 1, 0, none⟩), vr, .int .i64 f.none, .int .i64 f.good] 100)).alloc (.cells #[.pointer (some ⟨w2.heap.size + 1, 0, none⟩)] 27) = U at hb0 hb1 hUU hsU ⊢
  have hU : Upd noFp w3 (U.alloc (.cells (opFns w3.heap.size (w3.heap.size + 1) w.heap.size) 55)) := hUU.alloc _
  have hf := alloc_at U (.cells (opFns w3.heap.size (w3.heap.size + 1) w.heap.size) 55)
  have hb0 := alloc_old hb0 (.cells (opFns w3.heap.size (w3.heap.size + 1) w.heap.size) 55)
  have hb1 := alloc_old hb1 (.cells (opFns w3.heap.size (w3.heap.size + 1) w.heap.size) 55)
  rw [hsU] at hf
  generalize U.alloc (.cells (opFns w3.heap.size (w3.heap.size + 1) w.heap.size) 55) = V at hU hf hb0 hb1 ⊢
  have hsV : w3.heap.size + 2 < V.heap.size := blk_lt hf
  have hB3 : Below w.heap.size w w3 := hB2.trans (hF.below.mono hs2)
  have hs3 := hB3.size
  have hs23 := hF.below.size
  have hBV : Below w.heap.size w V := hB3.trans ((hU.below (N := w3.heap.size) (fun _ h => h.elim) (Nat.le_refl _)).mono hB3.size)
  have hvs : ∀ g, vs.ownBlock = some g → w2.heap.size + 3 ≤ g ∧ g < w3.heap.size := fun g hg => ⟨hF.hs g hg, hF.seg.lt hg⟩
  have hDV : DiskAt (fun k => ex k ∨ w.heap.size ≤ k ∧ k < w3.heap.size + 3) V p m d := h.more hBV (fun k hk => hk.imp id (fun h => ⟨h.1, by omega⟩))
  have hbox : OpBox (fun k => ex k ∨ w.heap.size ≤ k ∧ k < w3.heap.size + 3) V (w2.heap.size + 1) p w3.heap.size (w3.heap.size + 1) w.heap.size sz f vs vr :=
    ⟨(cells1 hb1).1, (cells1 (hU.keep hd (fun h => h))).1, hb0, hU.keep hF.log (fun h => h), hF.seg.upd hU (fun _ _ h => h), Or.inr ⟨by omega, by omega⟩, Or.inr ⟨Nat.le_refl _, by omega⟩, Or.inr ⟨by omega, by omega⟩, Or.inr ⟨by omega, by omega⟩,
      fun g hg => ⟨Or.inr ⟨by have := hvs g hg; omega, by have := hvs g hg; omega⟩, by have := hvs g hg; omega⟩, hG.mono (fun _ hk => Or.inl hk), hE.below hBV, hok, hsz⟩
  refine (wsteps_op hDV hbox hf (Or.inr ⟨by omega, by omega⟩)).mono fun e w' he => ?_
  exact ⟨he.1, he.2.1, he.2.2, hbox.keep he.2.2⟩
/-- the log that is told. -/
theorem op_fin {w2 w3 V w6 w7 : World} {sz : Nat} {f : AFound} {vs : Value} {a : Option Addr} {c nr : Nat} {XL : List XRec} {d' : ADisk} (hn : f.recs.length = nr) (h : DiskAt ex w p m d) (hB2 : Below w.heap.size w w2) (hF : LookFin w2 w3 p sz f vs (.slice a nr c) XL) (hU : Upd noFp w3 V)
    (hD : DiskAt (fun k => ex k ∨ w.heap.size ≤ k ∧ k < w3.heap.size + 3) w6 p m d') (hK : Keep (fun k => ex k ∨ w.heap.size ≤ k ∧ k < w3.heap.size + 3) V w6)
    (h7 : Upd (· = w2.heap.size + 1) w6 w7) (hl : w7.heap[w2.heap.size + 1]? = some (.cells (logCells p (f.log sz) vs) 52 (0, 0))) :
    OpenFin ex w w7 (w2.heap.size + 1) p m d' (f.log sz) (.slice a nr c) f.recs XL ∧ Keep ex w w7 := by
  have hlt2 := blk_lt hF.log
  have hs2 := hB2.size
  have hs23 := hF.below.size
  have hB3 : Below w.heap.size w w3 := hB2.trans (hF.below.mono hs2)
  have hexlt : ∀ k, ex k → k < w.heap.size := fun k hk => h.lt hk
  have hsV := hU.size
  have hs6 := hK.size
  have hs7 := h7.size
  have hvs : ∀ g, vs.ownBlock = some g → w2.heap.size + 3 ≤ g ∧ g < w3.heap.size := fun g hg => ⟨hF.hs g hg, hF.seg.lt hg⟩
  have hrlt : ∀ g, (Value.slice a nr c).ownBlock = some g → g < w3.heap.size := fun g hg => row_lt hF.row hg
  have hnew : ∀ k, RBlk (.slice a nr c) XL k → (w2.heap.size + 3 ≤ k ∧ k < w3.heap.size) ∧ vs.ownBlock ≠ some k := by
    rintro k (hk | ⟨x, hx, hk⟩)
    · exact ⟨⟨(hF.hr k hk).1, hrlt k hk⟩, (hF.hr k hk).2⟩
    · exact ⟨⟨(hF.hx x hx k hk).1, (hF.ok.own x hx k hk).2⟩, (hF.hx x hx k hk).2.1⟩
  have hexV : ∀ k, k < w3.heap.size → w.heap.size ≤ k → (fun k => ex k ∨ w.heap.size ≤ k ∧ k < w3.heap.size + 3) k := fun k h1 h2 => Or.inr ⟨h2, by omega⟩
  have hrow : w7.ownsRow w2.heap.size 47 2 (.slice a nr c) nr (recX XL) := by
    have h0 := hF.row
    rw [hn] at h0
    exact h7.row (hK.row (hU.row h0 (fun _ _ h => h)) (fun g hg => hexV g (hrlt g hg) (by have := (hF.hr g hg).1; omega))) (fun g hg e => by have := (hF.hr g hg).1; omega)
  have hokX : RecsOk w2.heap.size w7 XL := ((hF.ok.upd hU (fun _ _ _ _ h => h)).keep hK (fun x hx g hg => hexV g (hF.ok.own x hx g hg).2 (by have := (hF.hx x hx g hg).1; omega))).upd h7 (fun x hx g hg e => by have := (hF.hx x hx g hg).1; omega)
  refine ⟨⟨⟨vs, hl, (hF.seg.upd hU (fun _ _ h => h)).keep hK (fun g hg => hexV g (hvs g hg).2 (by have := (hvs g hg).1; omega)) |>.upd h7 (fun g hg e => by have := (hvs g hg).1; omega), ?_, ?_, ?_⟩, ?_, hokX.mono hs2, hF.map, ⟨by omega, by omega⟩, fun k hk => ⟨by have := (hnew k hk).1; omega, by have := (hnew k hk).1; omega⟩⟩, ?_⟩
  · refine (hD.upd h7 (fun k _ e => Or.inr ⟨by omega, by omega⟩)).mono (fun k hk => ?_)
    rcases hk with (hk | hk) | hk | hk
    · exact Or.inl hk
    · exact Or.inr ⟨by have := (hnew k hk).1; omega, by have := (hnew k hk).1; omega⟩
    · exact Or.inr ⟨by omega, by omega⟩
    · exact Or.inr ⟨by have := (hvs k hk).1; omega, by have := (hvs k hk).2; omega⟩
  · rintro (e | e)
    · have := hexlt _ e; omega
    · have := (hnew _ e).1; omega
  · intro g hg
    refine ⟨?_, by have := (hvs g hg).1; omega⟩
    rintro (e | e)
    · have := hexlt _ e; have := (hvs g hg).1; omega
    · exact (hnew _ e).2 hg
  · rw [hn]
    exact ownsRow_from hrow (fun g hg => by have := (hF.hr g hg).1; omega)
  · exact ((Keep.ofBelow hB3 hexlt).trans ((Keep.ofUpd hU (fun k hk => ⟨by have := hexlt k hk; have := hB3.size; omega, fun h => h⟩)).trans (hK.mono (fun k hk => Or.inl hk)))).trans (Keep.ofUpd h7 (fun k hk => ⟨by have := hexlt k hk; have := hB3.size; omega, by have := hexlt k hk; omega⟩))
end
end Go.Proofs.YtbiadclmonakkaaGreatDoor
