/-
  Package roots: the walk of Parse.
-/
import Derived.Outline
import Derived.Test.YtnagejhpdhdpfaaGreatDoorRt2
namespace Go.Proofs.YtnagejhpdhdpfaaGreatDoor
open Go.RowKit Go.Maps Go.MapKept

def root0 : ARoot := ⟨0, 0, 0, []⟩
/-- what Parse hands back. -/
def parseR (l : List UInt8) : ARoot := (parseL sumL l).2.getD root0
def parseE (l : List UInt8) : Int := (parseL sumL l).1
def RpPost (l : List UInt8) (w : World) (e : Ending) (w' : World) : Prop :=
  ∃ a c, e = .returned (.tuple #[rootV (parseR l).serial (parseR l).tick (parseR l).commit (.slice a (parseR l).blob.length c), .int .i64 (parseE l)]) ∧
    w'.ownsRow w.heap.size 5 1 (.slice a (parseR l).blob.length c) (parseR l).blob.length (bcells (parseR l).blob) ∧ Below w.heap.size w w'
theorem RpPost.bad {l : List UInt8} {w w' : World} (er : Int) (h : parseL sumL l = (er, none)) (hB : Below w.heap.size w w') : RpPost l w (.returned (.tuple #[.agg #[.int .i64 0, .int .i64 0, .int .i64 0, .slice none 0 0], .int .i64 er])) w' := by
  refine ⟨none, 0, ?_, ?_, hB⟩
  · unfold parseR parseE; rw [h]; rfl
  · unfold parseR; rw [h]; exact World.ownsRow_nil _ _ _ _
theorem RpPost.good {l : List UInt8} {w w' : World} (r : ARoot) (h : parseL sumL l = (0, some r)) (a : Option Addr) (c : Nat) (hr : w'.ownsRow w.heap.size 5 1 (.slice a r.blob.length c) r.blob.length (bcells r.blob)) (hB : Below w.heap.size w w') :
    RpPost l w (.returned (.tuple #[rootV r.serial r.tick r.commit (.slice a r.blob.length c), .int .i64 0])) w' := by
  refine ⟨a, c, ?_, ?_, hB⟩
  · unfold parseR parseE; rw [h]; rfl
  · unfold parseR; rw [h]; exact hr
theorem parse_un {l b : List UInt8} {er : Int} (h : unsealL sumL l = (er, b)) : parseL sumL l = if er = 0 then (match pRoot b with | some r => (0, some r) | none => (10, none)) else (er, none) := by
  unfold parseL
  rw [h]
  by_cases h0 : er = 0
  · subst h0; rw [if_pos rfl]; rfl
  · rw [if_neg h0]
    split
    · rename_i heq; simp only [Prod.mk.injEq] at heq; exact absurd heq.1 h0
    · rename_i heq; simp only [Prod.mk.injEq] at heq; rw [heq.1]
theorem cellsZ {w : World} {b : Nat} {T : TypeId} (h : w.heap[b]? = some (.cells #[.int .i64 0, .int .i64 0, .int .i64 0, .slice none 0 0] T (0, 0))) :
    w.cell? ⟨b, 0, none⟩ = some (.int .i64 0) ∧ w.cell? ⟨b, 1, none⟩ = some (.int .i64 0) ∧ w.cell? ⟨b, 2, none⟩ = some (.int .i64 0) ∧ w.cell? ⟨b, 3, none⟩ = some (.slice none 0 0) ∧
      w.frozen? ⟨b, 0, none⟩ = false ∧ w.frozen? ⟨b, 1, none⟩ = false ∧ w.frozen? ⟨b, 2, none⟩ = false ∧ w.frozen? ⟨b, 3, none⟩ = false := cells4 h

theorem setCell4_upd {w : World} {b : Nat} (x y z u : Value) : Upd (· = b) w ((((w.setCell ⟨b, 0, none⟩ x).setCell ⟨b, 1, none⟩ y).setCell ⟨b, 2, none⟩ z).setCell ⟨b, 3, none⟩ u) :=
  ((setCell2_upd x y).trans (setCell_upd 2 z) (fun _ hk => Or.inl hk)).trans (setCell_upd 3 u) (fun _ hk => Or.inl hk)
set_option maxRecDepth 100000 in
set_option maxHeartbeats 8000000 in
theorem rParse_any (w : World) (v : Value) (l : List UInt8) (hv : Rd w v (bcells l)) (hcap : CapOk v) (hl : l.length ≤ 1099511627776) :
    Calls Tryz.prog 10 #[v] w (RpPost l w) := by
  obtain ⟨er, b, hun⟩ : ∃ er b, unsealL sumL l = (er, b) := ⟨_, _, rfl⟩
  have hpar := parse_un hun
  have hbl : b.length ≤ l.length := by
    unfold unsealL at hun
    split at hun
    · cases hun; simp
    · split at hun
      · cases hun; simp
      · cases hun; simp
  obtain ⟨W, hW⟩ : ∃ W, w.alloc (.cells #[.int .i64 0, .int .i64 0, .int .i64 0, .slice none 0 0] 24) = W := ⟨_, rfl⟩
  have hz0 : W.heap[w.heap.size]? = some (.cells #[.int .i64 0, .int .i64 0, .int .i64 0, .slice none 0 0] 24 (0, 0)) := by rw [← hW]; exact alloc_at _ _
  have hBW : Below w.heap.size w W := by rw [← hW]; exact (Below.refl _ _).alloc (Nat.le_refl _) _
  have hU := bUnseal_any W v l (hv.below hBW) hcap hl
  unfold UnPost at hU
  rw [hun] at hU
  simp only at hU
  obtain ⟨a, c, rfl⟩ := hv.shape
  rw [bcells_length] at hU ⊢
  have hwW : w.heap.size < W.heap.size := blk_lt hz0
  have Hz0 := Lib.hid hz0
  have HU := Lib.hid hU
  have HW := Lib.hid hW
  have Hpar := Lib.hid hpar
  clear hz0 hU hun hpar hv hcap hW
  by_cases h0 : er = 0
  · subst h0
    have hpar2 := Hpar.out
    rw [if_pos rfl] at hpar2
    by_cases hm : isMagic b = true
    · have hnum : pRoot b = pNum b 0 4 0 0 0 := by rw [pRoot_num, if_pos hm]
      have hb4 : 4 ≤ b.length := by
        unfold isMagic at hm
        have := congrArg List.length (of_decide_eq_true hm)
        simp at this; omega
      have Hpar2 := Lib.hid hpar2
      have Hnum := Lib.hid hnum
      have Hm := Lib.hid hm
      clear hpar2 hnum hm
      go_enter Tryz.func10, Tryz.ntmps10
      go_wp2_with first
        | (go_at_call 43; rw [HW.out]; refine HU.out.mono ?_; rintro e w1 ⟨a1, c1, rfl, hR, hB1⟩; have HR := Lib.hid hR; clear hR; obtain ⟨q0, q1, q2, q3, f0, f1, f2, f3⟩ := cellsZ ((hB1.block w.heap.size hwW).trans Hz0.out); have hcv := run_bytes_str (P := Tryz.prog) (Rd.ofOwns HR.out) Tryz.underlying22 Tryz.underlying5 Tryz.underlying9)
        | (go_at_call 44; refine (magic_any _ b (by omega)).mono ?_; rw [Hm.out]; rintro e w2 ⟨rfl, rfl⟩)
      have hrow1 := HR.out
      obtain ⟨_, _, hv1, hnc1, hcm1, _⟩ := row_slice (ownsRow_base0 hrow1)
      cases hv1
      have hnb : ∀ g, (Value.slice a1 b.length c1).ownBlock = some g → g < w1.heap.size := fun g hg => row_lt hrow1 hg
      have hBw1 : Below w.heap.size w w1 := hBW.trans (hB1.mono hBW.size)
      have hzV := alloc_old ((hB1.block w.heap.size hwW).trans Hz0.out) (.cells #[.int .i64 0, .int .i64 0, .int .i64 0] 72)
      have hnV := alloc_at w1 (.cells #[.int .i64 0, .int .i64 0, .int .i64 0] 72)
      have hU1 : Upd noFp w1 (w1.alloc (.cells #[.int .i64 0, .int .i64 0, .int .i64 0] 72)) := (Upd.refl _ _).alloc _
      have hne : w.heap.size ≠ w1.heap.size := by have := hB1.size; omega
      generalize w1.alloc (.cells #[.int .i64 0, .int .i64 0, .int .i64 0] 72) = V at hzV hnV hU1 ⊢
      have HzV := Lib.hid hzV
      have HnV := Lib.hid hnV
      have Hnb := Lib.hid hnb
      have Hne := Lib.hid hne
      clear hzV hnV hcv q0 q1 q2 q3 f0 f1 f2 f3 hrow1 hnb hne
      go_loopw [6, 8, 9, 10, 11, 27] (fun p _ _ _ _ i wr => ∃ (k at_ s t c : Nat) (kk : Int), k ≤ 3 ∧ kk = k ∧ i = .int .i64 kk ∧ p = .int .i64 at_ ∧ at_ ≤ b.length ∧ wr.heap[w1.heap.size]? = some (.cells #[.int .i64 s, .int .i64 t, .int .i64 c] 72 (0, 0)) ∧ Upd (· = w1.heap.size) V wr ∧
        pRoot b = pNum b k at_ s t c ∧ (k ≤ 0 → s = 0) ∧ (k ≤ 1 → t = 0) ∧ (k ≤ 2 → c = 0) ∧ s ≤ 9007199254740992 ∧ t ≤ 9007199254740992 ∧ c ≤ 9007199254740992) (fun _ _ _ _ _ i _ => 3 - (intOf i).toNat)
      case atStart => exact ⟨0, 4, 0, 0, 0, 0, by omega, rfl, rfl, rfl, hb4, HnV.out, Upd.refl _ _, Hnum.out, fun _ => rfl, fun _ => rfl, fun _ => rfl, by omega, by omega, by omega⟩
      case round =>
        obtain ⟨k, at_, s, t, c', kk, hk, hkk, rfl, rfl, hat, hnr, hUr, hnum, hs0, ht0, hc0, hs1, ht1, hc1⟩ := hrel
        have hnr0 := blk_lt hnr
        have hUr1 : Upd (· = w1.heap.size) w1 wr := (hU1.mono (fun _ h => h.elim)).trans hUr (fun k hk => Or.inl hk)
        have hzr := hUr.keep HzV.out Hne.out
        have hrowr := hUr1.row HR.out (fun g hg e => by have := Hnb.out g hg; omega)
        have hBr : Below w.heap.size w wr := hBw1.trans (hUr1.below (fun k hk => by have := hBw1.size; omega) hBw1.size)
        have hrdr := Rd.ofOwns hrowr
        have hcapr : CapOk (.slice a1 b.length c1) := ⟨_, _, _, rfl, hnc1, hcm1⟩
        have Hzr := Lib.hid hzr
        have Hnr := Lib.hid hnr
        have hnum2 := hnum
        clear Hnum
        have Hnum := Lib.hid hnum2
        clear hzr hnr hnum hnum2 hrowr
        have hk4 : k = 0 ∨ k = 1 ∨ k = 2 ∨ k = 3 := by omega
        by_cases hk3 : k = 3
        · subst hk3
          obtain rfl : kk = 3 := by omega
          clear hkk hk4 hs0 ht0 hc0
          obtain ⟨er3, bb, k4, hgb⟩ : ∃ er3 bb k4, gB (b.drop at_) 1048576 = (er3, bb, k4) := ⟨_, _, _, rfl⟩
          have hG := bGetBlob_any wr (.slice a1 b.length c1) b at_ 1048576 hrdr hcapr hat (by omega) (by omega)
          unfold GbPost at hG
          rw [hgb, show (((1048576 : Nat) : Nat) : Int) = 1048576 from rfl] at hG
          simp only at hG
          have hpe : pRoot b = match (er3, bb, k4) with | (0, b', k4) => if at_ + k4 < b.length then none else some ⟨s, t, c', b'⟩ | _ => none := by
            rw [Hnum.out, ← hgb]; rfl
          by_cases he : er3 = 0
          · subst he
            simp only [if_true] at hG hpe
            have hbb := gB_len hgb
            rw [List.length_drop] at hbb
            have hbb1 : bb.length ≤ b.length := by omega
            have hbb2 : at_ + k4 ≤ b.length := by omega
            have HG := Lib.hid hG
            clear hG hgb hrdr hcapr
            by_cases hlt : at_ + k4 < b.length
            · rw [if_pos hlt] at hpe
              have hlt' : (at_ : Int) + (k4 : Int) < (b.length : Int) := by omega
              have hp10 : parseL sumL l = (10, none) := by rw [Hpar2.out, hpe]
              have Hp10 := Lib.hid hp10
              clear hp10 hpe
              go_wp2_with (go_at_call 46; refine HG.out.mono ?_; rintro e w3 ⟨a3, c3, rfl, hR3, hB3⟩; have HR3 := Lib.hid hR3; clear hR3; obtain ⟨q0, q1, q2, q3, f0, f1, f2, f3⟩ := cellsZ ((hB3.block w.heap.size (blk_lt Hzr.out)).trans Hzr.out); obtain ⟨n0, n1, n2, g0, g1, g2⟩ := cells3 ((hB3.block w1.heap.size (blk_lt Hnr.out)).trans Hnr.out))
              refine bodyPost_ret (v := .tuple #[.agg #[.int .i64 0, .int .i64 0, .int .i64 0, .slice none 0 0], .int .i64 10]) (by simp [results, Tryz.results10, go_sem, q0, q1, q2, q3]) rfl (RpPost.bad 10 Hp10.out ?_)
              exact ((((hBr.trans (hB3.mono hBr.size)).setCell (Nat.le_refl _) _).setCell (Nat.le_refl _) _).setCell (Nat.le_refl _) _).setCell (Nat.le_refl _) _
            · rw [if_neg hlt] at hpe
              have hlt' : ¬ (at_ : Int) + (k4 : Int) < (b.length : Int) := by omega
              have hp : parseL sumL l = (0, some ⟨s, t, c', bb⟩) := by rw [Hpar2.out, hpe]
              have Hp := Lib.hid hp
              clear hp hpe
              go_wp2_with (go_at_call 46; refine HG.out.mono ?_; rintro e w3 ⟨a3, c3, rfl, hR3, hB3⟩; have HR3 := Lib.hid hR3; clear hR3; obtain ⟨q0, q1, q2, q3, f0, f1, f2, f3⟩ := cellsZ ((hB3.block w.heap.size (blk_lt Hzr.out)).trans Hzr.out); obtain ⟨n0, n1, n2, g0, g1, g2⟩ := cells3 ((hB3.block w1.heap.size (blk_lt Hnr.out)).trans Hnr.out))
              refine bodyPost_ret (v := .tuple #[rootV s t c' (.slice a3 bb.length c3), .int .i64 0]) (by simp [results, Tryz.results10, go_sem, rootV, q0, q1, q2, q3]) rfl (RpPost.good ⟨s, t, c', bb⟩ Hp.out a3 c3 ?_ ?_)
              · have hU4 := setCell4_upd (w := w3) (b := w.heap.size) (.int .i64 s) (.int .i64 t) (.int .i64 c') (.slice a3 bb.length c3)
                have h1 := blk_lt Hzr.out
                exact hU4.row (ownsRow_from HR3.out (fun g hg => Nat.le_trans hBr.size (row_from HR3.out hg))) (fun g hg e => by have := row_from HR3.out hg; omega)
              · exact ((((hBr.trans (hB3.mono hBr.size)).setCell (Nat.le_refl _) _).setCell (Nat.le_refl _) _).setCell (Nat.le_refl _) _).setCell (Nat.le_refl _) _
          · have heb : (er3 != 0) = true := by simpa using he
            have hpe2 : pRoot b = none := by
              rw [hpe]
              split
              · rename_i heq; simp only [Prod.mk.injEq] at heq; exact absurd heq.1 he
              · rfl
            have hp10 : parseL sumL l = (10, none) := by rw [Hpar2.out, hpe2]
            rw [if_neg he] at hG
            have Hp10 := Lib.hid hp10
            have HG := Lib.hid hG
            clear hG hgb hrdr hcapr hp10 hpe hpe2 he
            go_wp2_with (go_at_call 46; refine HG.out.mono ?_; rintro e w3 ⟨a3, c3, rfl, hR3, hB3⟩; have HR3 := Lib.hid hR3; clear hR3; obtain ⟨q0, q1, q2, q3, f0, f1, f2, f3⟩ := cellsZ ((hB3.block w.heap.size (blk_lt Hzr.out)).trans Hzr.out); obtain ⟨n0, n1, n2, g0, g1, g2⟩ := cells3 ((hB3.block w1.heap.size (blk_lt Hnr.out)).trans Hnr.out))
            refine bodyPost_ret (v := .tuple #[.agg #[.int .i64 0, .int .i64 0, .int .i64 0, .slice none 0 0], .int .i64 10]) (by simp [results, Tryz.results10, go_sem, q0, q1, q2, q3]) rfl (RpPost.bad 10 Hp10.out ?_)
            exact ((((hBr.trans (hB3.mono hBr.size)).setCell (Nat.le_refl _) _).setCell (Nat.le_refl _) _).setCell (Nat.le_refl _) _).setCell (Nat.le_refl _) _
        · obtain ⟨er2, n, j, hgu⟩ : ∃ er2 n j, gU (b.drop at_) = (er2, n, j) := ⟨_, _, _, rfl⟩
          have hG := bGetUint_any wr (.slice a1 b.length c1) b at_ hrdr hcapr hat (by omega)
          unfold GuPost guVal guNext guErr at hG
          rw [hgu] at hG
          simp only at hG
          by_cases he : er2 = 0
          · subst he
            simp only [if_true] at hG
            obtain ⟨_, _, hj, _, hn64⟩ := gU_ok hgu
            rw [List.length_drop] at hj
            have HG := Lib.hid hG
            have Hgu := Lib.hid hgu
            clear hG hgu hrdr hcapr
            by_cases hbig : 9007199254740992 < n
            · have hbig' : (9007199254740992 : Int) < (n : Int) := by omega
              rcases (by omega : k = 0 ∨ k = 1 ∨ k = 2) with rfl | rfl | rfl
              · obtain rfl : kk = 0 := by omega
                clear hkk hk4 hs0 ht0 hc0
                have hnone : pRoot b = none := by rw [Hnum.out]; exact pNum_bad (by omega) ⟨_, Hgu.out, Or.inr (Or.inl hbig)⟩
                have hp10 : parseL sumL l = (10, none) := by rw [Hpar2.out, hnone]
                have Hp10 := Lib.hid hp10
                clear hnone hp10
                go_wp2_with (go_at_call 45; refine HG.out.mono ?_; rintro e w3 ⟨rfl, hB3⟩; obtain ⟨q0, q1, q2, q3, f0, f1, f2, f3⟩ := cellsZ ((hB3.block w.heap.size (blk_lt Hzr.out)).trans Hzr.out); obtain ⟨n0, n1, n2, g0, g1, g2⟩ := cells3 ((hB3.block w1.heap.size (blk_lt Hnr.out)).trans Hnr.out); have HB3 := Lib.hid ((hB3.block w1.heap.size (blk_lt Hnr.out)).trans Hnr.out))
                refine bodyPost_ret (v := .tuple #[.agg #[.int .i64 0, .int .i64 0, .int .i64 0, .slice none 0 0], .int .i64 10]) (by simp [results, Tryz.results10, go_sem, q0, q1, q2, q3]) rfl (RpPost.bad 10 Hp10.out ?_)
                exact ((((hBr.trans (hB3.mono hBr.size)).setCell (Nat.le_refl _) _).setCell (Nat.le_refl _) _).setCell (Nat.le_refl _) _).setCell (Nat.le_refl _) _
              · obtain rfl : kk = 1 := by omega
                clear hkk hk4 hs0 ht0 hc0
                have hnone : pRoot b = none := by rw [Hnum.out]; exact pNum_bad (by omega) ⟨_, Hgu.out, Or.inr (Or.inl hbig)⟩
                have hp10 : parseL sumL l = (10, none) := by rw [Hpar2.out, hnone]
                have Hp10 := Lib.hid hp10
                clear hnone hp10
                go_wp2_with (go_at_call 45; refine HG.out.mono ?_; rintro e w3 ⟨rfl, hB3⟩; obtain ⟨q0, q1, q2, q3, f0, f1, f2, f3⟩ := cellsZ ((hB3.block w.heap.size (blk_lt Hzr.out)).trans Hzr.out); obtain ⟨n0, n1, n2, g0, g1, g2⟩ := cells3 ((hB3.block w1.heap.size (blk_lt Hnr.out)).trans Hnr.out); have HB3 := Lib.hid ((hB3.block w1.heap.size (blk_lt Hnr.out)).trans Hnr.out))
                refine bodyPost_ret (v := .tuple #[.agg #[.int .i64 0, .int .i64 0, .int .i64 0, .slice none 0 0], .int .i64 10]) (by simp [results, Tryz.results10, go_sem, q0, q1, q2, q3]) rfl (RpPost.bad 10 Hp10.out ?_)
                exact ((((hBr.trans (hB3.mono hBr.size)).setCell (Nat.le_refl _) _).setCell (Nat.le_refl _) _).setCell (Nat.le_refl _) _).setCell (Nat.le_refl _) _
              · obtain rfl : kk = 2 := by omega
                clear hkk hk4 hs0 ht0 hc0
                have hnone : pRoot b = none := by rw [Hnum.out]; exact pNum_bad (by omega) ⟨_, Hgu.out, Or.inr (Or.inl hbig)⟩
                have hp10 : parseL sumL l = (10, none) := by rw [Hpar2.out, hnone]
                have Hp10 := Lib.hid hp10
                clear hnone hp10
                go_wp2_with (go_at_call 45; refine HG.out.mono ?_; rintro e w3 ⟨rfl, hB3⟩; obtain ⟨q0, q1, q2, q3, f0, f1, f2, f3⟩ := cellsZ ((hB3.block w.heap.size (blk_lt Hzr.out)).trans Hzr.out); obtain ⟨n0, n1, n2, g0, g1, g2⟩ := cells3 ((hB3.block w1.heap.size (blk_lt Hnr.out)).trans Hnr.out); have HB3 := Lib.hid ((hB3.block w1.heap.size (blk_lt Hnr.out)).trans Hnr.out))
                refine bodyPost_ret (v := .tuple #[.agg #[.int .i64 0, .int .i64 0, .int .i64 0, .slice none 0 0], .int .i64 10]) (by simp [results, Tryz.results10, go_sem, q0, q1, q2, q3]) rfl (RpPost.bad 10 Hp10.out ?_)
                exact ((((hBr.trans (hB3.mono hBr.size)).setCell (Nat.le_refl _) _).setCell (Nat.le_refl _) _).setCell (Nat.le_refl _) _).setCell (Nat.le_refl _) _
            · have hbig' : ¬ (9007199254740992 : Int) < (n : Int) := by omega
              rcases (by omega : k = 0 ∨ k = 1 ∨ k = 2) with rfl | rfl | rfl
              · obtain rfl : kk = 0 := by omega
                obtain rfl := hs0 (by omega)
                obtain rfl := ht0 (by omega)
                obtain rfl := hc0 (by omega)
                clear hkk hk4 hs0 ht0 hc0
                by_cases hn0 : n = 0
                · have hn0b : ((n : Int) == 0) = true := by simp [hn0]
                  have hnone : pRoot b = none := by rw [Hnum.out]; exact pNum_bad (by omega) ⟨_, Hgu.out, Or.inr (Or.inr ⟨rfl, hn0⟩)⟩
                  have hp10 : parseL sumL l = (10, none) := by rw [Hpar2.out, hnone]
                  have Hp10 := Lib.hid hp10
                  clear hnone hp10
                  go_wp2_with (go_at_call 45; refine HG.out.mono ?_; rintro e w3 ⟨rfl, hB3⟩; obtain ⟨q0, q1, q2, q3, f0, f1, f2, f3⟩ := cellsZ ((hB3.block w.heap.size (blk_lt Hzr.out)).trans Hzr.out); obtain ⟨n0, n1, n2, g0, g1, g2⟩ := cells3 ((hB3.block w1.heap.size (blk_lt Hnr.out)).trans Hnr.out); have HB3 := Lib.hid ((hB3.block w1.heap.size (blk_lt Hnr.out)).trans Hnr.out))
                  refine bodyPost_ret (v := .tuple #[.agg #[.int .i64 0, .int .i64 0, .int .i64 0, .slice none 0 0], .int .i64 10]) (by simp [results, Tryz.results10, go_sem, q0, q1, q2, q3]) rfl (RpPost.bad 10 Hp10.out ?_)
                  exact ((((hBr.trans (hB3.mono hBr.size)).setCell (Nat.le_refl _) _).setCell (Nat.le_refl _) _).setCell (Nat.le_refl _) _).setCell (Nat.le_refl _) _
                · have hn0b : ((n : Int) == 0) = false := by simpa using hn0
                  have hnx : pRoot b = pNum b 1 (at_ + j) n 0 0 := by rw [Hnum.out]; exact pNum_good0 Hgu.out (by omega) (by omega)
                  have Hnx := Lib.hid hnx
                  clear hnx
                  go_wp2_with (go_at_call 45; refine HG.out.mono ?_; rintro e w3 ⟨rfl, hB3⟩; obtain ⟨q0, q1, q2, q3, f0, f1, f2, f3⟩ := cellsZ ((hB3.block w.heap.size (blk_lt Hzr.out)).trans Hzr.out); obtain ⟨n0, n1, n2, g0, g1, g2⟩ := cells3 ((hB3.block w1.heap.size (blk_lt Hnr.out)).trans Hnr.out); have HB3 := Lib.hid ((hB3.block w1.heap.size (blk_lt Hnr.out)).trans Hnr.out))
                  go_roundw
                  case rel => exact ⟨1, at_ + j, n, 0, 0, 1, by omega, rfl, rfl, by go_num, by omega, setCell_at HB3.out 0 _, (hUr.thenBelow hB3 hUr.size).setCell (Or.inl rfl) _, Hnx.out, by omega, by omega, by omega, by omega, by omega, by omega⟩
                  case measure => simp [intOf]
              · obtain rfl : kk = 1 := by omega
                obtain rfl := ht0 (by omega)
                obtain rfl := hc0 (by omega)
                clear hkk hk4 hs0 ht0 hc0
                have hnx : pRoot b = pNum b 2 (at_ + j) s n 0 := by rw [Hnum.out]; exact pNum_good1 Hgu.out (by omega)
                have Hnx := Lib.hid hnx
                clear hnx
                go_wp2_with (go_at_call 45; refine HG.out.mono ?_; rintro e w3 ⟨rfl, hB3⟩; obtain ⟨q0, q1, q2, q3, f0, f1, f2, f3⟩ := cellsZ ((hB3.block w.heap.size (blk_lt Hzr.out)).trans Hzr.out); obtain ⟨n0, n1, n2, g0, g1, g2⟩ := cells3 ((hB3.block w1.heap.size (blk_lt Hnr.out)).trans Hnr.out); have HB3 := Lib.hid ((hB3.block w1.heap.size (blk_lt Hnr.out)).trans Hnr.out))
                go_roundw
                case rel => exact ⟨2, at_ + j, s, n, 0, 2, by omega, rfl, rfl, by go_num, by omega, setCell_at HB3.out 1 _, (hUr.thenBelow hB3 hUr.size).setCell (Or.inl rfl) _, Hnx.out, by omega, by omega, by omega, by omega, by omega, by omega⟩
                case measure => simp [intOf]
              · obtain rfl : kk = 2 := by omega
                obtain rfl := hc0 (by omega)
                clear hkk hk4 hs0 ht0 hc0
                have hnx : pRoot b = pNum b 3 (at_ + j) s t n := by rw [Hnum.out]; exact pNum_good2 Hgu.out (by omega)
                have Hnx := Lib.hid hnx
                clear hnx
                go_wp2_with (go_at_call 45; refine HG.out.mono ?_; rintro e w3 ⟨rfl, hB3⟩; obtain ⟨q0, q1, q2, q3, f0, f1, f2, f3⟩ := cellsZ ((hB3.block w.heap.size (blk_lt Hzr.out)).trans Hzr.out); obtain ⟨n0, n1, n2, g0, g1, g2⟩ := cells3 ((hB3.block w1.heap.size (blk_lt Hnr.out)).trans Hnr.out); have HB3 := Lib.hid ((hB3.block w1.heap.size (blk_lt Hnr.out)).trans Hnr.out))
                go_roundw
                case rel => exact ⟨3, at_ + j, s, t, n, 3, by omega, rfl, rfl, by go_num, by omega, setCell_at HB3.out 2 _, (hUr.thenBelow hB3 hUr.size).setCell (Or.inl rfl) _, Hnx.out, by omega, by omega, by omega, by omega, by omega, by omega⟩
                case measure => simp [intOf]
          · have heb : (er2 != 0) = true := by simpa using he
            rw [if_neg he] at hG
            have HG := Lib.hid hG
            have Hgu := Lib.hid hgu
            have He := Lib.hid he
            clear hG hgu hrdr hcapr he
            rcases (by omega : k = 0 ∨ k = 1 ∨ k = 2) with rfl | rfl | rfl
            · obtain rfl : kk = 0 := by omega
              clear hkk hk4 hs0 ht0 hc0
              have hnone : pRoot b = none := by rw [Hnum.out]; exact pNum_bad (by omega) ⟨_, Hgu.out, Or.inl He.out⟩
              have hp10 : parseL sumL l = (10, none) := by rw [Hpar2.out, hnone]
              have Hp10 := Lib.hid hp10
              clear hnone hp10
              go_wp2_with (go_at_call 45; refine HG.out.mono ?_; rintro e w3 ⟨rfl, hB3⟩; obtain ⟨q0, q1, q2, q3, f0, f1, f2, f3⟩ := cellsZ ((hB3.block w.heap.size (blk_lt Hzr.out)).trans Hzr.out); obtain ⟨n0, n1, n2, g0, g1, g2⟩ := cells3 ((hB3.block w1.heap.size (blk_lt Hnr.out)).trans Hnr.out); have HB3 := Lib.hid ((hB3.block w1.heap.size (blk_lt Hnr.out)).trans Hnr.out))
              refine bodyPost_ret (v := .tuple #[.agg #[.int .i64 0, .int .i64 0, .int .i64 0, .slice none 0 0], .int .i64 10]) (by simp [results, Tryz.results10, go_sem, q0, q1, q2, q3]) rfl (RpPost.bad 10 Hp10.out ?_)
              exact ((((hBr.trans (hB3.mono hBr.size)).setCell (Nat.le_refl _) _).setCell (Nat.le_refl _) _).setCell (Nat.le_refl _) _).setCell (Nat.le_refl _) _
            · obtain rfl : kk = 1 := by omega
              clear hkk hk4 hs0 ht0 hc0
              have hnone : pRoot b = none := by rw [Hnum.out]; exact pNum_bad (by omega) ⟨_, Hgu.out, Or.inl He.out⟩
              have hp10 : parseL sumL l = (10, none) := by rw [Hpar2.out, hnone]
              have Hp10 := Lib.hid hp10
              clear hnone hp10
              go_wp2_with (go_at_call 45; refine HG.out.mono ?_; rintro e w3 ⟨rfl, hB3⟩; obtain ⟨q0, q1, q2, q3, f0, f1, f2, f3⟩ := cellsZ ((hB3.block w.heap.size (blk_lt Hzr.out)).trans Hzr.out); obtain ⟨n0, n1, n2, g0, g1, g2⟩ := cells3 ((hB3.block w1.heap.size (blk_lt Hnr.out)).trans Hnr.out); have HB3 := Lib.hid ((hB3.block w1.heap.size (blk_lt Hnr.out)).trans Hnr.out))
              refine bodyPost_ret (v := .tuple #[.agg #[.int .i64 0, .int .i64 0, .int .i64 0, .slice none 0 0], .int .i64 10]) (by simp [results, Tryz.results10, go_sem, q0, q1, q2, q3]) rfl (RpPost.bad 10 Hp10.out ?_)
              exact ((((hBr.trans (hB3.mono hBr.size)).setCell (Nat.le_refl _) _).setCell (Nat.le_refl _) _).setCell (Nat.le_refl _) _).setCell (Nat.le_refl _) _
            · obtain rfl : kk = 2 := by omega
              clear hkk hk4 hs0 ht0 hc0
              have hnone : pRoot b = none := by rw [Hnum.out]; exact pNum_bad (by omega) ⟨_, Hgu.out, Or.inl He.out⟩
              have hp10 : parseL sumL l = (10, none) := by rw [Hpar2.out, hnone]
              have Hp10 := Lib.hid hp10
              clear hnone hp10
              go_wp2_with (go_at_call 45; refine HG.out.mono ?_; rintro e w3 ⟨rfl, hB3⟩; obtain ⟨q0, q1, q2, q3, f0, f1, f2, f3⟩ := cellsZ ((hB3.block w.heap.size (blk_lt Hzr.out)).trans Hzr.out); obtain ⟨n0, n1, n2, g0, g1, g2⟩ := cells3 ((hB3.block w1.heap.size (blk_lt Hnr.out)).trans Hnr.out); have HB3 := Lib.hid ((hB3.block w1.heap.size (blk_lt Hnr.out)).trans Hnr.out))
              refine bodyPost_ret (v := .tuple #[.agg #[.int .i64 0, .int .i64 0, .int .i64 0, .slice none 0 0], .int .i64 10]) (by simp [results, Tryz.results10, go_sem, q0, q1, q2, q3]) rfl (RpPost.bad 10 Hp10.out ?_)
              exact ((((hBr.trans (hB3.mono hBr.size)).setCell (Nat.le_refl _) _).setCell (Nat.le_refl _) _).setCell (Nat.le_refl _) _).setCell (Nat.le_refl _) _
    · have hnum : pRoot b = none := by rw [pRoot_num, if_neg hm]
      rw [hnum] at hpar2
      have hm2 : isMagic b = false := by simpa using hm
      have Hpar2 := Lib.hid hpar2
      have Hm := Lib.hid hm2
      clear hpar2 hnum hm hm2
      go_enter Tryz.func10, Tryz.ntmps10
      go_wp2_with first
        | (go_at_call 43; rw [HW.out]; refine HU.out.mono ?_; rintro e w1 ⟨a1, c1, rfl, hR, hB1⟩; have HR := Lib.hid hR; clear hR; obtain ⟨q0, q1, q2, q3, f0, f1, f2, f3⟩ := cellsZ ((hB1.block w.heap.size hwW).trans Hz0.out); have hcv := run_bytes_str (P := Tryz.prog) (Rd.ofOwns HR.out) Tryz.underlying22 Tryz.underlying5 Tryz.underlying9)
        | (go_at_call 44; refine (magic_any _ b (by omega)).mono ?_; rw [Hm.out]; rintro e w2 ⟨rfl, rfl⟩)
      refine bodyPost_ret (v := .tuple #[.agg #[.int .i64 0, .int .i64 0, .int .i64 0, .slice none 0 0], .int .i64 10]) (by simp [results, Tryz.results10, go_sem, q0, q1, q2, q3]) rfl (RpPost.bad 10 Hpar2.out ?_)
      exact ((((hBW.trans (hB1.mono hBW.size)).setCell (Nat.le_refl _) _).setCell (Nat.le_refl _) _).setCell (Nat.le_refl _) _).setCell (Nat.le_refl _) _
  · have hpar2 := Hpar.out
    rw [if_neg h0] at hpar2
    have h0b : (er != 0) = true := by simpa using h0
    have Hpar2 := Lib.hid hpar2
    clear hpar2 h0
    go_enter Tryz.func10, Tryz.ntmps10
    go_wp2_with (go_at_call 43; rw [HW.out]; refine HU.out.mono ?_; rintro e w1 ⟨a1, c1, rfl, hR, hB1⟩; have HR := Lib.hid hR; clear hR; obtain ⟨q0, q1, q2, q3, f0, f1, f2, f3⟩ := cellsZ ((hB1.block w.heap.size hwW).trans Hz0.out))
    refine bodyPost_ret (v := .tuple #[.agg #[.int .i64 0, .int .i64 0, .int .i64 0, .slice none 0 0], .int .i64 er]) (by simp [results, Tryz.results10, go_sem, q0, q1, q2, q3]) rfl (RpPost.bad er Hpar2.out ?_)
    exact ((((hBW.trans (hB1.mono hBW.size)).setCell (Nat.le_refl _) _).setCell (Nat.le_refl _) _).setCell (Nat.le_refl _) _).setCell (Nat.le_refl _) _
end Go.Proofs.YtnagejhpdhdpfaaGreatDoor
