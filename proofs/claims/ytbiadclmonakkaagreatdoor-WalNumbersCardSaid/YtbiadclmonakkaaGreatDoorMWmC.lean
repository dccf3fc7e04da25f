/-
  The look at a disk's files.
-/
import Derived.Outline
import Derived.BigQuiet
import Derived.Deep.QuietTactic
import Derived.Deep.RegionHeld3
import Derived.Deep.RegionLaw
import Derived.Deep.CutRange
import Derived.Test.YtbiadclmonakkaaGreatDoorMWmB
import Derived.Test.YtbiadclmonakkaaGreatDoorMWmE
namespace Go.Proofs.YtbiadclmonakkaaGreatDoor
open Go.RowKit Go.Maps Go.MapKept
set_option linter.unusedSimpArgs false

def LookPost (w : World) (p size : Nat) (r : AFound × Int) (e : Ending) (w' : World) : Prop :=
  ∃ vs vr XL, e = .returned (.tuple #[.agg #[.pointer (some ⟨w.heap.size + 1, 0, none⟩), vr, .int .i64 r.1.none, .int .i64 r.1.good], .int .i64 r.2]) ∧ LookFin w w' p size r.1 vs vr XL
theorem wLook_cons (d : ADisk) (f : AFound) (n : Nat) (r : List Nat) : wLook d f (n :: r) = if findErr d (wName n) ≠ 0 then (f, findErr d (wName n)) else if isHead4 (d.readBytes (wName n)) n = false ∧ r = [] then ({ f with none := n }, 0)
    else if isHead4 (d.readBytes (wName n)) n = false ∨ (f.segs ≠ [] ∧ n ≠ f.next) ∨ (r ≠ [] ∧ (recsOf (d.readBytes (wName n)) n = [] ∨ goodOf (d.readBytes (wName n)) n < (d.readBytes (wName n)).length)) then (f, 14) else wLook d (f.add (d.readBytes (wName n)) n) r := rfl
theorem cells4F {w : World} {b : Nat} {x y z u : Value} {T : TypeId} (h : w.heap[b]? = some (.cells #[x, y, z, u] T (0, 0))) : w.cell? ⟨b, 0, none⟩ = some x ∧ w.cell? ⟨b, 1, none⟩ = some y ∧ w.cell? ⟨b, 2, none⟩ = some z ∧ w.cell? ⟨b, 3, none⟩ = some u ∧
    w.frozen? ⟨b, 0, none⟩ = false ∧ w.frozen? ⟨b, 1, none⟩ = false ∧ w.frozen? ⟨b, 2, none⟩ = false ∧ w.frozen? ⟨b, 3, none⟩ = false := cells4 h
theorem wRecs_count (l : List UInt8) (n : Nat) : (wRecs sumL l n).1.length ≤ l.length := by
  induction hl : l.length using Nat.strongRecOn generalizing l n with
  | _ m ih =>
    subst hl
    cases h : wRec sumL l with
    | none => rw [wRecs_none sumL h]; exact Nat.zero_le _
    | some r =>
      obtain ⟨k, b, t⟩ := r
      obtain ⟨h1, h2, _⟩ := wRec_len sumL h
      by_cases hk : k = n
      · subst hk
        rw [wRecs_some sumL h]
        have := ih (l.drop t).length (by rw [List.length_drop]; omega) (l.drop t) (k + 1) rfl
        rw [List.length_drop] at this
        simp only [List.length_cons]
        omega
      · rw [wRecs_other sumL h hk]; exact Nat.zero_le _
def bnd4 (k : Nat) : Nat := k * 16777216
theorem bnd4_le (k : Nat) : bnd4 k ≤ bnd4 (k + 1) := Nat.mul_le_mul_right _ (Nat.le_succ k)
theorem bnd4_succ (k : Nat) {a b : Nat} (h : a ≤ bnd4 k) (h2 : b ≤ 16777216) : a + b ≤ bnd4 (k + 1) := by unfold bnd4 at *; omega
theorem bnd4_top {k a : Nat} (h : a ≤ bnd4 k) (hk : k ≤ 200) : a ≤ 4294967296 := by unfold bnd4 at h; omega
theorem setCell4_upd4 {w : World} {b : Nat} (x y z u : Value) : Upd (· = b) w ((((w.setCell ⟨b, 0, none⟩ x).setCell ⟨b, 1, none⟩ y).setCell ⟨b, 2, none⟩ z).setCell ⟨b, 3, none⟩ u) :=
  ((setCell2_upd x y).trans (setCell_upd 2 z) (fun _ hk => Or.inl hk)).trans (setCell_upd 3 u) (fun _ hk => Or.inl hk)
theorem setCell4_at4 {w : World} {b : Nat} {x y z u : Value} {T : TypeId} {fr : Nat × Nat} (h : w.heap[b]? = some (.cells #[x, y, z, u] T fr)) (x' y' z' u' : Value) : ((((w.setCell ⟨b, 0, none⟩ x').setCell ⟨b, 1, none⟩ y').setCell ⟨b, 2, none⟩ z').setCell ⟨b, 3, none⟩ u').heap[b]? = some (.cells #[x', y', z', u'] T fr) := by
  rw [setCell_at (setCell_at (setCell_at (setCell_at h 0 x') 1 y') 2 z') 3 u']; rfl
set_option maxRecDepth 100000 in
set_option maxHeartbeats 16000000 in
theorem wlook_at {ex : Nat → Prop} {w : World} {p m : Nat} {d : ADisk} (size : Nat) (h : DiskAt ex w p m d) (hE : WEnv w) (_hsz : size ≤ 16777216) :
    Calls Tryz.prog 52 #[.pointer (some ⟨p, 0, none⟩), .int .i64 size] w (LookPost w p size (wLook d f0 (segsOf d))) := by
  have hmem : ∀ n ∈ segsOf d, 1 ≤ n ∧ n ≤ 9007199254740992 := by
    intro n hn
    unfold segsOf at hn
    rw [List.mem_mergeSort, List.mem_filterMap] at hn
    obtain ⟨s, _, hs⟩ := hn
    exact (wNum_some hs).2
  have hcnt : (segsOf d).length ≤ 200 := by
    unfold segsOf
    rw [List.length_mergeSort]
    refine Nat.le_trans (List.length_filterMap_le _ _) ?_
    have := h.wf.count
    simpa [ADisk.names] using this
  obtain ⟨W, hW⟩ : ∃ W, ((w.alloc (.cells #[.pointer none, .slice none 0 0, .int .i64 0, .int .i64 0] 100)).alloc (.cells #[.pointer (some ⟨p, 0, none⟩), .int .i64 size, .slice none 0 0, .int .i64 0, .int .i64 0, .int .i64 0, .bool false] 52)).alloc (.cells #[.pointer (some ⟨w.heap.size + 1, 0, none⟩), .slice none 0 0, .int .i64 0, .int .i64 0] 100) = W := ⟨_, rfl⟩
  have hBW : Below w.heap.size w W := by rw [← hW]; exact (((Below.refl _ _).alloc (Nat.le_refl _) _).alloc (by simp) _).alloc (by simp; omega) _
  have hW1 : W.heap[w.heap.size + 1]? = some (.cells #[.pointer (some ⟨p, 0, none⟩), .int .i64 size, .slice none 0 0, .int .i64 0, .int .i64 0, .int .i64 0, .bool false] 52 (0, 0)) := by rw [← hW]; exact alloc_old (alloc2_at _ _ _) _
  have hW2 : W.heap[w.heap.size + 2]? = some (.cells #[.pointer (some ⟨w.heap.size + 1, 0, none⟩), .slice none 0 0, .int .i64 0, .int .i64 0] 100 (0, 0)) := by
    rw [← hW]
    have h3 : ((w.alloc (.cells #[.pointer none, .slice none 0 0, .int .i64 0, .int .i64 0] 100)).alloc (.cells #[.pointer (some ⟨p, 0, none⟩), .int .i64 size, .slice none 0 0, .int .i64 0, .int .i64 0, .int .i64 0, .bool false] 52)).heap.size = w.heap.size + 2 := by simp
    rw [← h3]
    exact alloc_at _ _
  have hW0 : W.heap[w.heap.size]? = some (.cells #[.pointer none, .slice none 0 0, .int .i64 0, .int .i64 0] 100 (0, 0)) := by rw [← hW]; exact alloc_old (alloc2_at0 _ _ _) _
  have hWs : W.heap.size = w.heap.size + 3 := by rw [← hW]; simp
  have hst0 : ∀ w1, Below W.heap.size W w1 → LookSt w1.heap.size w w1 p size f0 (.slice none 0 0) (.slice none 0 0) [] := fun w1 hB =>
    ⟨(hB.block _ (blk_lt hW1)).trans hW1, (hB.block _ (blk_lt hW2)).trans hW2, (hB.block _ (blk_lt hW0)).trans hW0, Or.inl ⟨rfl, rfl⟩, World.ownsRow_nil _ _ _ _, RecsOk.nil _ _, rfl, fun g hg => (by cases hg), fun g hg => (by cases hg), fun x hx => (by cases hx), hBW.trans (hB.mono hBW.size), by have := hB.size; omega, Nat.le_refl _⟩
  have hSg := wsegments_at (h.below hBW) (hE.below hBW)
  obtain ⟨all, hall⟩ : ∃ l, segsOf d = l := ⟨_, rfl⟩
  rw [hall] at hmem hcnt hSg ⊢
  obtain ⟨N, hN⟩ : ∃ N, all.length = N := ⟨_, rfl⟩
  rw [hN] at hcnt hSg
  have Hmem := Lib.hid hmem
  have HSg := Lib.hid hSg
  have HN := Lib.hid hN
  have HW := Lib.hid hW
  have HE := Lib.hid hE
  have Hst0 := Lib.hid hst0
  clear hmem hSg hN hW hE hst0 hall hW1 hW2 hW0
  go_enter Tryz.func52, Tryz.ntmps52
  go_wp2_with (go_at_call 82; rw [HW.out]; refine HSg.out.mono ?_; rintro e w1 ⟨a1, c1, rfl, hrow1, hB1⟩)
  have hrd1 : Rd w1 (.slice a1 N c1) (iCells (natI all)) := Rd.ofOwns hrow1
  have Hrd1 := Lib.hid hrd1
  have Hst1 := Lib.hid (Hst0.out w1 hB1)
  have ha1 : ∀ g, (Value.slice a1 N c1).ownBlock = some g → w.heap.size + 3 ≤ g ∧ g < w1.heap.size := fun g hg => ⟨by have := row_from hrow1 hg; omega, row_lt hrow1 hg⟩
  have Ha1 := Lib.hid ha1
  clear hrow1 hrd1 ha1
  go_loopw [25] (fun i wr => ∃ (k : Nat) (f : AFound) (vs vr : Value) (XL : List XRec), k ≤ N ∧ i = .int .i64 k ∧ wLook d f0 all = wLook d f (all.drop k) ∧ (k < N → f.segs.length = k) ∧ LookSt w1.heap.size w wr p size f vs vr XL ∧ Upd (fun j => j = w.heap.size + 1 ∨ j = w.heap.size + 2) w1 wr ∧ f.recs.length ≤ bnd4 k) (fun i _ => N - (intOf i).toNat)
  case atStart => exact ⟨0, f0, _, _, _, by omega, rfl, rfl, fun _ => rfl, Hst1.out, Upd.refl _ _, Nat.zero_le _⟩
  case round =>
    obtain ⟨k, f, vs, vr, XL, hk, rfl, heq, hsl, hst, hB, hrl⟩ := hrel
    obtain ⟨ar, cr, rfl⟩ := row_rec hst.row
    obtain ⟨as0, cs0, rfl, _⟩ := hst.seg.shape
    obtain ⟨nr, hnr⟩ : ∃ n, f.recs.length = n := ⟨_, rfl⟩
    obtain ⟨ns, hns⟩ : ∃ n, f.segs.length = n := ⟨_, rfl⟩
    rw [hnr, hns] at hst
    rw [hnr] at hrl
    rw [hns] at hsl
    have Hnr := Lib.hid hnr
    have Hns := Lib.hid hns
    clear hnr hns
    have Heq := Lib.hid heq
    have Hst := Lib.hid hst
    obtain ⟨e0, e1, e2, e3, _⟩ := cells4F hst.fnd
    obtain ⟨j0, j1, j2, j3, i0, i1, i2, i3⟩ := cells4F hst.res
    have hsz3 := hst.size3
    clear heq hst
    by_cases hlt : k < N
    · obtain ⟨b, o, rfl, hc⟩ := Hrd1.out.at k (by rw [iCells_length]; unfold natI; rw [List.length_map, HN.out]; exact hlt)
      have hkl : k < all.length := by rw [HN.out]; exact hlt
      have hdr : all.drop k = all[k] :: all.drop (k + 1) := List.drop_eq_getElem_cons hkl
      simp only [iCells, natI, List.getElem_map] at hc
      have hcr := (hB.cell (cell_lt hc) (fun e => by have := (Ha1.out b rfl).1; omega) (o + k)).trans hc
      obtain ⟨n1, n2⟩ := Hmem.out _ (List.getElem_mem hkl)
      obtain ⟨n, hn⟩ : ∃ n, all[k] = n := ⟨_, rfl⟩
      rw [hn] at hcr n1 n2 hdr
      have hEr := HE.out.below Hst.out.below
      have hNm := wname_any wr n (by omega) hEr
      have hsz := wName_len (n := n) (by omega)
      have heq := Heq.out
      rw [hdr, wLook_cons] at heq
      obtain ⟨s, hs⟩ : ∃ s, wName n = s := ⟨_, rfl⟩
      rw [hs] at hNm hsz heq
      have hDr := h.below Hst.out.below
      have hRd := fun wX (hX : Below wr.heap.size wr wX) => Read_at s (hDr.below hX) (Nat.le_trans hsz (by decide))
      obtain ⟨er, her⟩ : ∃ e, findErr d s = e := ⟨_, rfl⟩
      obtain ⟨B, hB0⟩ : ∃ e, d.readBytes s = e := ⟨_, rfl⟩
      have hBl : B.length ≤ 16777216 := by
        have h1 := afile_le h.wf s
        have h2 := h.wf.used
        have h3 := h.wf.most1
        rw [← hB0]
        unfold ADisk.readBytes
        split
        · have : ((afile d s).firm ++ (afile d s).loose).length = (afile d s).len := by rw [List.length_append]; rfl
          omega
        · simp
      rw [her, hB0] at heq hRd
      obtain ⟨L, hL⟩ : ∃ e, B.length = e := ⟨_, rfl⟩
      rw [hL] at hRd hBl
      have HNm := Lib.hid hNm
      have HRd := Lib.hid hRd
      have HEq := Lib.hid heq
      have HL := Lib.hid hL
      clear hc hdr hn hEr hNm hsz heq hs hDr hRd her hB0 hL Heq
      by_cases hz : er = 0
      · subst hz
        have heq := HEq.out.trans (if_neg (fun e => e rfl))
        obtain ⟨N1, hN1⟩ : ∃ y, N - 1 = y := ⟨_, rfl⟩
        have hNi : (N : Int) - 1 = N1 := by omega
        have hRc : ∀ (w3 : World) (base : Nat) (a3 : Option Addr) (c3 : Nat), w3.ownsRow base 5 1 (.slice a3 L c3) L (bcells B) → Calls Tryz.prog 83 #[.slice a3 L c3, .int .i64 n] w3 (WrsPost B n w3) := by
          intro w3 base a3 c3 hr
          obtain ⟨_, _, he, hn, hc, _⟩ := row_slice (ownsRow_base0 hr)
          cases he
          exact wrecords_any w3 (.slice a3 L c3) B n (Rd.ofOwns hr) ⟨_, _, _, rfl, hn, hc⟩ n2 (by rw [HL.out]; omega)
        unfold WrsPost at hRc
        have hdl : all.drop (k + 1) = [] ↔ k = N1 := by
          rw [List.drop_eq_nil_iff, HN.out]
          omega
        cases hok : isHead4 B n with
        | false =>
          rw [hok] at heq hRc
          have HRc := Lib.hid hRc
          by_cases hkl2 : k = N1
          · have hlb : ((k : Int) == (N1 : Int)) = true := by simp [hkl2]
            have He := Lib.hid (heq.trans (if_pos ⟨rfl, hdl.2 hkl2⟩))
            have HkN := Lib.hid (show k + 1 = N by omega)
            clear heq hRc hdl hok hN1 HEq hkl2
            go_wp2_with first
              | (go_at_call 45; refine HNm.out.mono ?_; rintro e w2 ⟨rfl, hB2⟩)
              | (go_at_call 51; refine (HRd.out w2 hB2).mono ?_; rintro e w3 ⟨a3, c3, rfl, hrow3, hB3⟩; have hB23 := hB2.trans (hB3.mono hB2.size); have Hrow3 := Lib.hid hrow3; clear hrow3)
              | (go_at_call 83; refine (HRc.out w3 _ a3 c3 Hrow3.out).mono ?_; rintro e w4 he; rw [if_neg Bool.false_ne_true] at he; obtain ⟨rfl, hB4⟩ := he; have hB24 := hB23.trans (hB4.mono hB23.size); have hst4 := Hst.out.more hB24; obtain ⟨e0, e1, e2, e3, e4, e5, e6, e7⟩ := cells4F hst4.fnd; obtain ⟨j0, j1, j2, j3, i0, i1, i2, i3⟩ := cells4F hst4.res; have Hst4 := Lib.hid hst4; clear hst4)
            have hdn : all.drop (k + 1) = [] := List.drop_eq_nil_of_le (by rw [HN.out]; have := HkN.out; omega)
            have Hdn := Lib.hid hdn
            clear hdn
            have Hn4 := Lib.hid (Hst4.out.setNone n)
            have hB15 : Upd (fun j => j = w.heap.size + 1 ∨ j = w.heap.size + 2) w1 (w4.setCell ⟨w.heap.size + 2, 2, none⟩ (.int .i64 n)) := (hB.thenBelow hB24 hB.size).trans (setCell_upd 2 _) (fun _ hk => Or.inl (Or.inr hk))
            go_roundw
            case rel => exact ⟨k + 1, { f with none := n }, _, _, XL, by omega, by go_num, by rw [He.out, Hdn.out]; rfl, fun e => by have := HkN.out; omega, Hn4.out, hB15, Nat.le_trans (by rw [Hnr.out]; exact hrl) (bnd4_le k)⟩
            case measure => simp [intOf]; omega
          · have hlb : ((k : Int) == (N1 : Int)) = false := by rw [beq_eq_false_iff_ne]; omega
            have He := Lib.hid ((heq.trans (if_neg (fun e => hkl2 (hdl.1 e.2)))).trans (if_pos (Or.inl rfl)))
            clear heq hRc hdl hok hN1 HEq
            go_wp2_with first
              | (go_at_call 45; refine HNm.out.mono ?_; rintro e w2 ⟨rfl, hB2⟩)
              | (go_at_call 51; refine (HRd.out w2 hB2).mono ?_; rintro e w3 ⟨a3, c3, rfl, hrow3, hB3⟩; have hB23 := hB2.trans (hB3.mono hB2.size); have Hrow3 := Lib.hid hrow3; clear hrow3)
              | (go_at_call 83; refine (HRc.out w3 _ a3 c3 Hrow3.out).mono ?_; rintro e w4 he; rw [if_neg Bool.false_ne_true] at he; obtain ⟨rfl, hB4⟩ := he; have hB24 := hB23.trans (hB4.mono hB23.size); have hst4 := Hst.out.more hB24; obtain ⟨e0, e1, e2, e3, e4, e5, e6, e7⟩ := cells4F hst4.fnd; obtain ⟨j0, j1, j2, j3, i0, i1, i2, i3⟩ := cells4F hst4.res; have Hst4 := Lib.hid hst4; clear hst4)
            have hU := setCell4_upd4 (w := w4) (b := w.heap.size) (.pointer (some ⟨w.heap.size + 1, 0, none⟩)) (.slice ar nr cr) (.int .i64 f.none) (.int .i64 f.good)
            obtain ⟨y0, y1, y2, y3, _⟩ := cells4F (setCell4_at4 Hst4.out.res (.pointer (some ⟨w.heap.size + 1, 0, none⟩)) (.slice ar nr cr) (.int .i64 f.none) (.int .i64 f.good))
            refine bodyPost_ret (v := .tuple #[.agg #[.pointer (some ⟨w.heap.size + 1, 0, none⟩), .slice ar nr cr, .int .i64 f.none, .int .i64 f.good], .int .i64 14]) (by simp [results, Tryz.results52, go_sem, y0, y1, y2, y3]) rfl ?_
            rw [He.out]
            exact ⟨.slice as0 ns cs0, .slice ar nr cr, XL, rfl, Hst4.out.fin hU⟩
        | true =>
          rw [hok] at heq hRc
          have heq := heq.trans (if_neg (fun e => Bool.noConfusion e.1))
          have HRc := Lib.hid hRc
          obtain ⟨rn, hrn⟩ : ∃ y, (recsOf B n).length = y := ⟨_, rfl⟩
          obtain ⟨gd, hgd⟩ : ∃ y, goodOf B n = y := ⟨_, rfl⟩
          obtain ⟨nx, hnx⟩ : ∃ y, f.next = y := ⟨_, rfl⟩
          rw [hrn, hgd] at HRc
          have hR0 : recsOf B n = [] ↔ rn = 0 := by rw [← hrn, List.length_eq_zero_iff]
          have hS0 : f.segs ≠ [] ↔ 0 < k := by
            rw [← hsl hlt, ← Hns.out, List.length_pos_iff]
          have hbad : (true = false ∨ (f.segs ≠ [] ∧ n ≠ f.next) ∨ (all.drop (k + 1) ≠ [] ∧ (recsOf B n = [] ∨ goodOf B n < B.length))) ↔ ((0 < k ∧ n ≠ nx) ∨ (k ≠ N1 ∧ (rn = 0 ∨ gd < L))) := by
            have h9 : all.drop (k + 1) ≠ [] ↔ k ≠ N1 := not_congr hdl
            rw [hS0, hR0, hgd, hnx, HL.out, h9]
            simp
          obtain ⟨bad, hb⟩ : ∃ b, decide ((0 < k ∧ n ≠ nx) ∨ (k ≠ N1 ∧ (rn = 0 ∨ gd < L))) = b := ⟨_, rfl⟩
          have Hbad := Lib.hid hbad
          have Hb := Lib.hid hb
          have HEq2 := Lib.hid heq
          have Hrn := Lib.hid hrn
          have Hgd := Lib.hid hgd
          have Hnx := Lib.hid hnx
          have hrnL : rn ≤ 16777216 := by
            have h1 : (wRecs sumL (B.drop (hd4 n).length) n).1.length ≤ (B.drop (hd4 n).length).length := wRecs_count _ _
            rw [← hrn]
            unfold recsOf
            rw [List.length_drop, HL.out] at h1
            omega
          clear heq hRc hdl hok hN1 HEq hrn hgd hnx hR0 hS0 hbad hb
          obtain ⟨lb, hlb⟩ : ∃ lb, ((k : Int) == (N1 : Int)) = lb := ⟨_, rfl⟩
          have Hlb := Lib.hid hlb
          go_upto_region 13 with first
              | (go_at_call 45; refine HNm.out.mono ?_; rintro e w2 ⟨rfl, hB2⟩)
              | (go_at_call 51; refine (HRd.out w2 hB2).mono ?_; rintro e w3 ⟨a3, c3, rfl, hrow3, hB3⟩; have hB23 := hB2.trans (hB3.mono hB2.size); have Hrow3 := Lib.hid hrow3; clear hrow3)
              | (go_at_call 83; refine (HRc.out w3 _ a3 c3 Hrow3.out).mono ?_; rintro e w4 he; (first | rw [if_pos rfl] at he | rw [if_pos trivial] at he); obtain ⟨a4, c4, M, rfl, hrow4, hokM, hmapM, hB4⟩ := he; have hB24 := hB23.trans (hB4.mono hB23.size); have hst4 := Hst.out.more hB24; obtain ⟨e0, e1, e2, e3, e4, e5, e6, e7⟩ := cells4F hst4.fnd; obtain ⟨j0, j1, j2, j3, i0, i1, i2, i3⟩ := cells4F hst4.res; obtain ⟨l0, l1, l2, l3, l4, l5, l6, m2, m3, m4, m5, m6⟩ := cells7 hst4.log; have Hst4 := Lib.hid hst4; have Hrow4 := Lib.hid hrow4; have HokM := Lib.hid hokM; have HmapM := Lib.hid hmapM; clear hst4 hrow4 hokM hmapM)
          rw [Hnx.out] at l3
          clear hlb
          go_cut [25, 61] from 25 to 130 (fun i b wx => i = .int .i64 k ∧ b = .bool bad ∧ wx = w4)
          case first =>
            have hfin : ∀ c : Bool, (c = true ↔ ((0 < k ∧ n ≠ nx) ∨ (k ≠ N1 ∧ (rn = 0 ∨ gd < L)))) → Value.bool c = Value.bool bad := fun c hc => by
              rw [← Hb.out]
              congr 1
              cases c with
              | true => exact (decide_eq_true (hc.1 rfl)).symm
              | false => exact (decide_eq_false (fun e => Bool.noConfusion (hc.2 e))).symm
            have Hfin := Lib.hid hfin
            clear hfin
            by_cases g1 : 0 < k
            · have g1b : (0 : Int) < k := by omega
              by_cases g2 : n = nx
              · have g2b : ((n : Int) != (nx : Int)) = false := by simp [g2]
                cases lb with
                | true =>
                  have g3 : k = N1 := by have := Hlb.out; simp only [beq_iff_eq] at this; omega
                  have F := Lib.hid (Hfin.out false ⟨fun e => Bool.noConfusion e, fun e => (by exfalso; omega)⟩)
                  clear g2 g3
                  go_wp2_with fail
                  go_meet
                  case rel => first | exact ⟨rfl, F.out, rfl⟩ | ((repeat apply Exists.intro); exact ⟨⟨rfl, F.out, rfl⟩, rfl⟩)
                | false =>
                  have g3 : ¬ k = N1 := by have := Hlb.out; rw [beq_eq_false_iff_ne] at this; omega
                  by_cases g4 : rn = 0
                  · have g4b : ((rn : Int) == 0) = true := by simp [g4]
                    have F := Lib.hid (Hfin.out true ⟨fun _ => (by omega), fun _ => rfl⟩)
                    clear g2 g3 g4
                    go_wp2_with fail
                    go_meet
                    case rel => first | exact ⟨rfl, F.out, rfl⟩ | ((repeat apply Exists.intro); exact ⟨⟨rfl, F.out, rfl⟩, rfl⟩)
                  · have g4b : ((rn : Int) == 0) = false := by rw [beq_eq_false_iff_ne]; omega
                    by_cases g5 : gd < L
                    · have g5b : (gd : Int) < L := by omega
                      have F := Lib.hid (Hfin.out true ⟨fun _ => (by omega), fun _ => rfl⟩)
                      clear g2 g3 g4
                      go_wp2_with fail
                      go_meet
                      case rel => first | exact ⟨rfl, F.out, rfl⟩ | ((repeat apply Exists.intro); exact ⟨⟨rfl, F.out, rfl⟩, rfl⟩)
                    · have g5b : ¬ (gd : Int) < L := by omega
                      have F := Lib.hid (Hfin.out false ⟨fun e => Bool.noConfusion e, fun e => (by exfalso; omega)⟩)
                      clear g2 g3 g4
                      go_wp2_with fail
                      go_meet
                      case rel => first | exact ⟨rfl, F.out, rfl⟩ | ((repeat apply Exists.intro); exact ⟨⟨rfl, F.out, rfl⟩, rfl⟩)
              · have g2b : ((n : Int) != (nx : Int)) = true := (by simp only [bne_iff_ne, ne_eq]; omega)
                have F := Lib.hid (Hfin.out true ⟨fun _ => (by omega), fun _ => rfl⟩)
                clear g2
                go_wp2_with fail
                go_meet
                case rel => first | exact ⟨rfl, F.out, rfl⟩ | ((repeat apply Exists.intro); exact ⟨⟨rfl, F.out, rfl⟩, rfl⟩)
            · have g1b : ¬ (0 : Int) < k := by omega
              cases lb with
              | true =>
                have g3 : k = N1 := by have := Hlb.out; simp only [beq_iff_eq] at this; omega
                have F := Lib.hid (Hfin.out false ⟨fun e => Bool.noConfusion e, fun e => (by exfalso; omega)⟩)
                clear g3
                go_wp2_with fail
                go_meet
                case rel => first | exact ⟨rfl, F.out, rfl⟩ | ((repeat apply Exists.intro); exact ⟨⟨rfl, F.out, rfl⟩, rfl⟩)
              | false =>
                have g3 : ¬ k = N1 := by have := Hlb.out; rw [beq_eq_false_iff_ne] at this; omega
                by_cases g4 : rn = 0
                · have g4b : ((rn : Int) == 0) = true := by simp [g4]
                  have F := Lib.hid (Hfin.out true ⟨fun _ => (by omega), fun _ => rfl⟩)
                  clear g3 g4
                  go_wp2_with fail
                  go_meet
                  case rel => first | exact ⟨rfl, F.out, rfl⟩ | ((repeat apply Exists.intro); exact ⟨⟨rfl, F.out, rfl⟩, rfl⟩)
                · have g4b : ((rn : Int) == 0) = false := by rw [beq_eq_false_iff_ne]; omega
                  by_cases g5 : gd < L
                  · have g5b : (gd : Int) < L := by omega
                    have F := Lib.hid (Hfin.out true ⟨fun _ => (by omega), fun _ => rfl⟩)
                    clear g3 g4
                    go_wp2_with fail
                    go_meet
                    case rel => first | exact ⟨rfl, F.out, rfl⟩ | ((repeat apply Exists.intro); exact ⟨⟨rfl, F.out, rfl⟩, rfl⟩)
                  · have g5b : ¬ (gd : Int) < L := by omega
                    have F := Lib.hid (Hfin.out false ⟨fun e => Bool.noConfusion e, fun e => (by exfalso; omega)⟩)
                    clear g3 g4
                    go_wp2_with fail
                    go_meet
                    case rel => first | exact ⟨rfl, F.out, rfl⟩ | ((repeat apply Exists.intro); exact ⟨⟨rfl, F.out, rfl⟩, rfl⟩)
          case rest =>
            obtain ⟨rfl, rfl, rfl⟩ := hcut
            cases bad with
            | true =>
              have He := Lib.hid (HEq2.out.trans (if_pos (Hbad.out.2 (of_decide_eq_true Hb.out))))
              clear HEq2
              go_wp2
              have hU := setCell4_upd4 (w := wc) (b := w.heap.size) (.pointer (some ⟨w.heap.size + 1, 0, none⟩)) (.slice ar nr cr) (.int .i64 f.none) (.int .i64 f.good)
              obtain ⟨y0, y1, y2, y3, _⟩ := cells4F (setCell4_at4 Hst4.out.res (.pointer (some ⟨w.heap.size + 1, 0, none⟩)) (.slice ar nr cr) (.int .i64 f.none) (.int .i64 f.good))
              refine bodyPost_ret (v := .tuple #[.agg #[.pointer (some ⟨w.heap.size + 1, 0, none⟩), .slice ar nr cr, .int .i64 f.none, .int .i64 f.good], .int .i64 14]) (by simp [results, Tryz.results52, go_sem, y0, y1, y2, y3]) rfl ?_
              rw [He.out]
              exact ⟨.slice as0 ns cs0, .slice ar nr cr, XL, rfl, Hst4.out.fin hU⟩
            | false =>
              have He := Lib.hid (HEq2.out.trans (if_neg (fun e => of_decide_eq_false Hb.out (Hbad.out.1 e))))
              clear HEq2
              have hMl : M.length = rn := by rw [← Hrn.out, ← numbered_len n (recsOf B n), ← HmapM.out, List.length_map]
              have hrow4 := Hst4.out.row
              rw [Hnr.out] at hrow4
              obtain ⟨vr', w5, hrun5, hro5, hg5, hb5⟩ := append_recs_row wc (.slice ar nr cr) (.slice a4 rn c4) nr rn _ XL M (by rw [← Hnr.out]; exact Hst4.out.len.symm) hMl.symm (ownsRow_base0 hrow4) Hrow4.out HokM.out.one (by have := bnd4_top hrl (by omega); omega)
              obtain ⟨ar', cr', rfl⟩ := row_rec hro5
              have hbs := Hst4.out.hb
              have hU5 : Upd (fun g => (Value.slice ar nr cr).ownBlock = some g) wc w5 := (Upd.refl _ wc).grown hg5 (fun g hg => Or.inl hg)
              have hF5 := hU5.keep Hst4.out.fnd (fun e => by have := (Hst4.out.hr _ e).1; omega)
              have hq5 := hU5.keep Hst4.out.log (fun e => by have := (Hst4.out.hr _ e).1; omega)
              obtain ⟨w6, hw6⟩ : ∃ w6, w5.setCell ⟨w.heap.size + 2, 1, none⟩ (.slice ar' (nr + rn) cr') = w6 := ⟨_, rfl⟩
              have hU6 : Upd (· = w.heap.size + 2) w5 w6 := by rw [← hw6]; exact setCell_upd _ _
              have hF6 : w6.heap[w.heap.size + 2]? = some (.cells #[.pointer (some ⟨w.heap.size + 1, 0, none⟩), .slice ar' (nr + rn) cr', .int .i64 f.none, .int .i64 f.good] 100 (0, 0)) := by rw [← hw6, setCell_at hF5]; rfl
              have hq6 := hU6.keep hq5 (by omega)
              have hS6 : SegAt w6.drew (.slice as0 ns cs0) f.segs := ((Hst4.out.seg.upd hU5 (fun g hg e => (Hst4.out.hr g e).2 hg)).upd hU6 (fun g hg e => by have := Hst4.out.hs g hg; omega)).below ((Below.refl _ _).drew)
              obtain ⟨sb, hsb⟩ : ∃ sb, (!(recsOf B n).isEmpty) = sb := ⟨_, rfl⟩
              have hsb1 : decide ((0 : Int) < (rn : Int)) = sb := by
                rw [← hsb, ← Hrn.out]
                cases recsOf B n <;> simp
              have hsb2 : decide (0 < rn) = sb := by
                rw [← hsb, ← Hrn.out]
                cases recsOf B n <;> simp
              obtain ⟨as', cs', w7, hrun7, hS7, hg7, hb7⟩ := run_append_seg w6.drew (.slice as0 ns cs0) f.segs (n : Int) n sb rfl hS6 (by rw [Hns.out, hsl hlt]; omega)
              rw [Hns.out] at hrun7 hS7 hb7
              have hrun7 : (Builtin.append_ #[50, 50] 50 #[.slice as0 ns cs0, .slice (some ⟨w6.heap.size, 0, none⟩) 1 1]).run Tryz.prog ((w6.alloc (.cells #[.int .i64 (n : Int), .bool sb] 89)).drew) = .ok (.slice as' (ns + 1) cs') w7 := hrun7
              have hU7 : Upd (fun g => (Value.slice as0 ns cs0).ownBlock = some g) w6 w7 := (((Upd.refl _ w6).drew).alloc _).grown hg7 (fun g hg => Or.inl hg)
              have hF7 := hU7.keep hF6 (fun e => by have := Hst4.out.hs _ e; omega)
              have hq7 := hU7.keep hq6 (fun e => by have := Hst4.out.hs _ e; omega)
              have hsz5 := hU5.size
              have hsz6 := hU6.size
              obtain ⟨w9, hw9⟩ : ∃ w9, ((((w7.setCell ⟨w.heap.size + 1, 2, none⟩ (.slice as' (ns + 1) cs')).setCell ⟨w.heap.size + 1, 3, none⟩ (.int .i64 ((n : Int) + (rn : Int)))).setCell ⟨w.heap.size + 1, 4, none⟩ (.int .i64 (L : Int))).setCell ⟨w.heap.size + 2, 3, none⟩ (.int .i64 (gd : Int))).drew = w9 := ⟨_, rfl⟩
              have hU9 : Upd (fun k => k = w.heap.size + 1 ∨ k = w.heap.size + 2) w7 w9 := by
                rw [← hw9]
                exact (((((setCell_upd (b := w.heap.size + 1) 2 (.slice as' (ns + 1) cs')).trans (setCell_upd 3 _) (fun _ hk => Or.inl hk)).trans (setCell_upd 4 _) (fun _ hk => Or.inl hk)).mono (fun _ hk => Or.inl (Or.inl hk))).trans (setCell_upd 3 _) (fun _ hk => Or.inl (Or.inr hk))).drew
              have hl9 : w9.heap[w.heap.size + 1]? = some (.cells (logCells p ⟨size, f.segs ++ [(n, sb)], n + rn, L, 0, false⟩ (.slice as' (ns + 1) cs')) 52 (0, 0)) := by
                rw [← hw9]
                show ((((w7.setCell ⟨w.heap.size + 1, 2, none⟩ (.slice as' (ns + 1) cs')).setCell ⟨w.heap.size + 1, 3, none⟩ (.int .i64 ((n : Int) + (rn : Int)))).setCell ⟨w.heap.size + 1, 4, none⟩ (.int .i64 (L : Int))).setCell ⟨w.heap.size + 2, 3, none⟩ (.int .i64 (gd : Int))).heap[w.heap.size + 1]? = _
                rw [setCell_old (setCell_at (setCell_at (setCell_at hq7 2 _) 3 _) 4 _) (by omega) _ _]; rfl
              have hf9 : w9.heap[w.heap.size + 2]? = some (.cells #[.pointer (some ⟨w.heap.size + 1, 0, none⟩), .slice ar' (nr + rn) cr', .int .i64 f.none, .int .i64 gd] 100 (0, 0)) := by
                rw [← hw9]
                show ((((w7.setCell ⟨w.heap.size + 1, 2, none⟩ (.slice as' (ns + 1) cs')).setCell ⟨w.heap.size + 1, 3, none⟩ (.int .i64 ((n : Int) + (rn : Int)))).setCell ⟨w.heap.size + 1, 4, none⟩ (.int .i64 (L : Int))).setCell ⟨w.heap.size + 2, 3, none⟩ (.int .i64 (gd : Int))).heap[w.heap.size + 2]? = _
                rw [setCell_at (setCell_old (setCell_old (setCell_old hF7 (by omega) _ _) (by omega) _ _) (by omega) _ _) _ _]; rfl
              have hadd := Hst4.out.add (n := n) (nx := n + rn) (by_ := L) (gd := gd) (R := recsOf B n) (w9 := w9) (HokM.out.mono (by have := Hst4.out.below.size; have := hB23.size; have := Hst.out.below.size; omega)) (fun x hx g hg => by
                have h1 := (HokM.out.own x hx g hg).1
                have h2 := hB23.size
                have h3 := Hst.out.hw
                refine ⟨by omega, fun e => ?_, fun e => ?_⟩
                · have := Hst.out.seg.lt e; omega
                · have := row_lt Hst.out.row e; omega) HmapM.out (by rw [Hnr.out, Hrn.out]; exact hro5) hg5 hb5 (w6 := w7) (vs' := .slice as' (ns + 1) cs') (by rw [hw6]; exact hU7) (by rw [hsb]; exact hS7) (by
                rcases hb7 with e | ⟨g, e, hg⟩
                · exact Or.inl e
                · exact Or.inr ⟨g, e, by have : w6.drew.heap.size = w6.heap.size := rfl; omega⟩) hU9 (by rw [hsb]; exact hl9) hf9
              rw [hsb] at hadd
              obtain ⟨x0, _⟩ := cells4F (w := w6.drew) hF6
              obtain ⟨_, _, x3, _⟩ := cells7 (w := w6.drew) hq6
              obtain ⟨y0, _⟩ := cells4F (w := (w6.alloc (.cells #[.int .i64 (n : Int), .bool sb] 89)).drew) (alloc_old hF6 (.cells #[.int .i64 (n : Int), .bool sb] 89))
              obtain ⟨_, _, y3, _⟩ := cells7 (w := (w6.alloc (.cells #[.int .i64 (n : Int), .bool sb] 89)).drew) (alloc_old hq6 (.cells #[.int .i64 (n : Int), .bool sb] 89))
              obtain ⟨z0, z1, z2, z3, z4, z5, z6, z7⟩ := cells4F hF7
              obtain ⟨q0, q1, q2, q3, q4, q5, q6, g2, g3, g4, g5, g6⟩ := cells7 hq7
              obtain ⟨v0, v1, v2, v3, v4, v5, v6, v7⟩ := cells4F hF5
              have hne : w.heap.size + 2 ≠ w.heap.size + 1 := by omega
              have hfar : ∀ (W : World) (o : Nat) (u : Value), W.cell? ⟨w.heap.size + 2, 0, none⟩ = some (.pointer (some ⟨w.heap.size + 1, 0, none⟩)) → (W.setCell ⟨w.heap.size + 1, o, none⟩ u).cell? ⟨w.heap.size + 2, 0, none⟩ = some (.pointer (some ⟨w.heap.size + 1, 0, none⟩)) := fun W o u hW => (World.cell?_setCell_far W _ _ u (fun e => hne e.symm)).trans hW
              have hfar2 : ∀ (W : World) (u : Value), W.cell? ⟨w.heap.size + 2, 0, none⟩ = some (.pointer (some ⟨w.heap.size + 1, 0, none⟩)) → (W.setCell ⟨w.heap.size + 2, 3, none⟩ u).cell? ⟨w.heap.size + 2, 0, none⟩ = some (.pointer (some ⟨w.heap.size + 1, 0, none⟩)) := fun W u hW => by
                exact (World.cell?_setCell_other (w := W) (a := ⟨w.heap.size + 2, 3, none⟩) (b := ⟨w.heap.size + 2, 0, none⟩) (v := u) (by simp)).trans hW
              have Hfar := Lib.hid hfar
              have Hfar2 := Lib.hid hfar2
              have hadd0 : wLook d f0 all = wLook d { f with segs := f.segs ++ [(n, sb)], next := n + rn, bytes := L, good := gd, recs := f.recs ++ numbered n (recsOf B n) } (all.drop (k + 1)) := by
                rw [He.out]
                unfold AFound.add
                rw [hsb, Hrn.out, Hgd.out, HL.out]
              have Hadd0 := Lib.hid hadd0
              have hlen : (f.recs ++ numbered n (recsOf B n)).length ≤ bnd4 (k + 1) := by
                rw [List.length_append, numbered_len, Hnr.out, Hrn.out]
                exact bnd4_succ k hrl hrnL
              have Hlen := Lib.hid hlen
              clear hadd0 hlen
              have Hadd := Lib.hid hadd
              have Hw6 := Lib.hid hw6
              have Hw9 := Lib.hid hw9
              have hwk : IntKind.i64.wrap ((n : Int) + (rn : Int)) = (n : Int) + (rn : Int) := IntWalk.i64_in _ (by omega)
              have hwk2 : IntKind.i64.wrap ((k : Int) + 1) = (k : Int) + 1 := IntWalk.i64_in _ (by omega)
              have Hhsb := Lib.hid hsb
              clear hadd hw6 hw9 hfar hfar2 hsb hne hl9 hf9 hU9 hU5 hU6 hU7 hF5 hF6 hq5 hq6 hS6 hS7 hF7 hq7 hro5 hg5 hb5 hg7 hb7 hrow4
              have Hrun5 := Lib.hid hrun5
              have Hsl := Lib.hid hsl
              clear hrun5 hsl
              go_wp2_with (at_builtin; refine Lib.wpList_append_run _ rfl (.tmp 94) (.tmp 95) _ _ rfl _ _ rfl rfl _ _ Hrun5.out ?_)
              rw [Hw6.out]
              refine wp_region_held_drew (S := fun W => W.cell? ⟨w.heap.size + 2, 0, none⟩ = some (.pointer (some ⟨w.heap.size + 1, 0, none⟩))) (by kernel_rfl) x0 (fun hHeld => ?_)
              refine wpAnyH_take (i := 0) (v := ?_) rfl (by kernel_rfl) (by kernel_rfl) (by kernel_rfl) (fun _ _ _ h => h) (Or.inl ⟨by rfl, ?_⟩) (by assumption) ?_
              rotate_left
              · (intro wz hSz; obtain b0 := hSz; go_simp) <;> with_reducible rfl
              simp only [Act.put, List.getElem_toArray, List.getElem_cons_zero, List.getElem_cons_succ, List.setIfInBounds_toArray, List.set_cons_zero, List.set_cons_succ]
              refine wpAnyH_take (i := 1) (v := ?_) rfl (by kernel_rfl) (by kernel_rfl) (by kernel_rfl) (fun _ _ _ h => h) (Or.inl ⟨by rfl, ?_⟩) (by assumption) ?_
              rotate_left
              · (intro wz hSz; obtain b0 := hSz; go_simp) <;> with_reducible rfl
              simp only [Act.put, List.getElem_toArray, List.getElem_cons_zero, List.getElem_cons_succ, List.setIfInBounds_toArray, List.set_cons_zero, List.set_cons_succ]
              refine wpAnyH_take (i := 2) (v := ?_) rfl (by kernel_rfl) (by kernel_rfl) (by kernel_rfl) (fun _ _ _ h => h) (Or.inl ⟨by rfl, ?_⟩) (by assumption) ?_
              rotate_left
              · (intro wz hSz; obtain b0 := hSz; go_simp) <;> with_reducible rfl
              simp only [Act.put, List.getElem_toArray, List.getElem_cons_zero, List.getElem_cons_succ, List.setIfInBounds_toArray, List.set_cons_zero, List.set_cons_succ]
              refine wpAnyH_take (i := 3) (v := ?_) rfl (by kernel_rfl) (by kernel_rfl) (by kernel_rfl) (fun _ _ _ h => h) (Or.inl ⟨by rfl, ?_⟩) (by assumption) ?_
              rotate_left
              · (intro wz hSz; obtain b0 := hSz; go_simp) <;> with_reducible rfl
              simp only [Act.put, List.getElem_toArray, List.getElem_cons_zero, List.getElem_cons_succ, List.setIfInBounds_toArray, List.set_cons_zero, List.set_cons_succ]
              refine wpAnyH_take (i := 4) (v := ?_) rfl (by kernel_rfl) (by kernel_rfl) (by kernel_rfl) (fun _ _ _ h => h) (Or.inl ⟨by rfl, ?_⟩) (by assumption) ?_
              rotate_left
              · (intro wz hSz; obtain b0 := hSz; go_simp) <;> with_reducible rfl
              simp only [Act.put, List.getElem_toArray, List.getElem_cons_zero, List.getElem_cons_succ, List.setIfInBounds_toArray, List.set_cons_zero, List.set_cons_succ]
              refine wpAnyH_take (i := 5) (v := ?_) rfl (by kernel_rfl) (by kernel_rfl) (by kernel_rfl) (fun _ _ _ h => h) (Or.inl ⟨by rfl, ?_⟩) (by assumption) ?_
              rotate_left
              · (intro wz hSz; obtain b0 := hSz; go_simp) <;> with_reducible rfl
              simp only [Act.put, List.getElem_toArray, List.getElem_cons_zero, List.getElem_cons_succ, List.setIfInBounds_toArray, List.set_cons_zero, List.set_cons_succ]
              refine wpAnyH_take (i := 7) (v := ?_) rfl (by kernel_rfl) (by kernel_rfl) (by kernel_rfl) (fun _ _ _ h => h) (Or.inl ⟨by rfl, ?_⟩) (by assumption) ?_
              rotate_left
              · (intro wz hSz; obtain b0 := hSz; go_simp) <;> with_reducible rfl
              simp only [Act.put, List.getElem_toArray, List.getElem_cons_zero, List.getElem_cons_succ, List.setIfInBounds_toArray, List.set_cons_zero, List.set_cons_succ]
              refine wpAnyH_take (i := 8) (v := ?_) rfl (by kernel_rfl) (by kernel_rfl) (by kernel_rfl) (fun _ _ _ h => h) (Or.inl ⟨by rfl, ?_⟩) (by assumption) ?_
              rotate_left
              · (intro wz hSz; obtain b0 := hSz; go_simp) <;> with_reducible rfl
              simp only [Act.put, List.getElem_toArray, List.getElem_cons_zero, List.getElem_cons_succ, List.setIfInBounds_toArray, List.set_cons_zero, List.set_cons_succ]
              refine wpAnyH_take (i := 9) (v := ?_) rfl (by kernel_rfl) (by kernel_rfl) (by kernel_rfl) (fun _ _ _ h => h) (Or.inl ⟨by rfl, ?_⟩) (by assumption) ?_
              rotate_left
              · (intro wz hSz; obtain b0 := hSz; go_simp) <;> with_reducible rfl
              simp only [Act.put, List.getElem_toArray, List.getElem_cons_zero, List.getElem_cons_succ, List.setIfInBounds_toArray, List.set_cons_zero, List.set_cons_succ]
              refine wpAnyH_take (i := 10) (v := ?_) rfl (by kernel_rfl) (by kernel_rfl) (by kernel_rfl) (fun _ _ _ h => h) (Or.inl ⟨by rfl, ?_⟩) (by assumption) ?_
              rotate_left
              · (intro wz hSz; obtain b0 := hSz; go_simp) <;> with_reducible rfl
              simp only [Act.put, List.getElem_toArray, List.getElem_cons_zero, List.getElem_cons_succ, List.setIfInBounds_toArray, List.set_cons_zero, List.set_cons_succ]
              refine wpAnyH_take (i := 11) (v := ?_) rfl (by kernel_rfl) (by kernel_rfl) (by kernel_rfl) (fun _ _ _ h => h) (Or.inl ⟨by rfl, ?_⟩) (by assumption) ?_
              rotate_left
              · (intro wz hSz; obtain b0 := hSz; go_simp) <;> with_reducible rfl
              simp only [Act.put, List.getElem_toArray, List.getElem_cons_zero, List.getElem_cons_succ, List.setIfInBounds_toArray, List.set_cons_zero, List.set_cons_succ]
              refine wpAnyH_ready (rs := [6, 12]) (by kernel_rfl) (by simp) (AllReadyH.cons rfl (fun K hK => ?_) (AllReadyH.cons rfl (fun K hK => ?_) AllReadyH.nil))
              · go_simp
                refine hK.out _ _ hHeld (fun _ => ?_)
                clear hK K
                refine wpAnyH_ready (rs := [12]) (by kernel_rfl) (by simp) (AllReadyH.cons rfl (fun K hK => ?_) AllReadyH.nil)
                go_simp
                refine hK.out _ _ y0 (fun hHeld => ?_)
                clear hK K
                refine wpAnyH_ready (rs := [13]) (by kernel_rfl) (by simp) (AllReadyH.cons rfl (fun K hK => ?_) AllReadyH.nil)
                refine step_append_run4 (by rfl) _ _ _ (by rfl) _ _ _ _ (by rfl) (by rfl) _ (by rfl) hrun7 ?_
                refine hK.out _ _ z0 (fun hHeld => ?_)
                clear hK K
                refine wpAnyH_take (i := 14) (v := ?_) rfl (by kernel_rfl) (by kernel_rfl) (by kernel_rfl) (fun _ _ _ h => h) (Or.inl ⟨by rfl, ?_⟩) (by assumption) ?_
                rotate_left
                · (intro wz hSz; obtain b0 := hSz; go_simp) <;> with_reducible rfl
                simp only [Act.put, List.getElem_toArray, List.getElem_cons_zero, List.getElem_cons_succ, List.setIfInBounds_toArray, List.set_cons_zero, List.set_cons_succ]
                refine wpAnyH_take (i := 15) (v := ?_) rfl (by kernel_rfl) (by kernel_rfl) (by kernel_rfl) (fun _ _ _ h => h) (Or.inl ⟨by rfl, ?_⟩) (by assumption) ?_
                rotate_left
                · (intro wz hSz; obtain b0 := hSz; go_simp) <;> with_reducible rfl
                simp only [Act.put, List.getElem_toArray, List.getElem_cons_zero, List.getElem_cons_succ, List.setIfInBounds_toArray, List.set_cons_zero, List.set_cons_succ]
                refine wpAnyH_ready (rs := [16]) (by kernel_rfl) (by simp) (AllReadyH.cons rfl (fun K hK => ?_) AllReadyH.nil)
                go_simp
                refine hK.out _ _ (Hfar.out _ _ _ z0) (fun hHeld => ?_)
                clear hK K
                refine wpAnyH_done (by kernel_rfl) ?_ _
                go_wp2
                refine wp_region_held_drew (S := fun W => W.cell? ⟨w.heap.size + 2, 0, none⟩ = some (.pointer (some ⟨w.heap.size + 1, 0, none⟩))) (by kernel_rfl) (Hfar.out _ _ _ z0) (fun hHeld => ?_)
                refine wpAnyH_take (i := 0) (v := ?_) rfl (by kernel_rfl) (by kernel_rfl) (by kernel_rfl) (fun _ _ _ h => h) (Or.inl ⟨by rfl, ?_⟩) (by assumption) ?_
                rotate_left
                · (intro wz hSz; obtain b0 := hSz; go_simp) <;> with_reducible rfl
                simp only [Act.put, List.getElem_toArray, List.getElem_cons_zero, List.getElem_cons_succ, List.setIfInBounds_toArray, List.set_cons_zero, List.set_cons_succ]
                refine wpAnyH_take (i := 1) (v := ?_) rfl (by kernel_rfl) (by kernel_rfl) (by kernel_rfl) (fun _ _ _ h => h) (Or.inl ⟨by rfl, ?_⟩) (by assumption) ?_
                rotate_left
                · (intro wz hSz; obtain b0 := hSz; go_simp) <;> with_reducible rfl
                simp only [Act.put, List.getElem_toArray, List.getElem_cons_zero, List.getElem_cons_succ, List.setIfInBounds_toArray, List.set_cons_zero, List.set_cons_succ]
                refine wpAnyH_take (i := 2) (v := ?_) rfl (by kernel_rfl) (by kernel_rfl) (by kernel_rfl) (fun _ _ _ h => h) (Or.inl ⟨by rfl, ?_⟩) (by assumption) ?_
                rotate_left
                · (intro wz hSz; obtain b0 := hSz; go_simp) <;> with_reducible rfl
                simp only [Act.put, List.getElem_toArray, List.getElem_cons_zero, List.getElem_cons_succ, List.setIfInBounds_toArray, List.set_cons_zero, List.set_cons_succ]
                refine wpAnyH_take (i := 3) (v := ?_) rfl (by kernel_rfl) (by kernel_rfl) (by kernel_rfl) (fun _ _ _ h => h) (Or.inl ⟨by rfl, ?_⟩) (by assumption) ?_
                rotate_left
                · (intro wz hSz; obtain b0 := hSz; go_simp) <;> with_reducible rfl
                simp only [Act.put, List.getElem_toArray, List.getElem_cons_zero, List.getElem_cons_succ, List.setIfInBounds_toArray, List.set_cons_zero, List.set_cons_succ]
                refine wpAnyH_take (i := 4) (v := ?_) rfl (by kernel_rfl) (by kernel_rfl) (by kernel_rfl) (fun _ _ _ h => h) (Or.inl ⟨by rfl, ?_⟩) (by assumption) ?_
                rotate_left
                · (intro wz hSz; obtain b0 := hSz; go_simp) <;> with_reducible rfl
                simp only [Act.put, List.getElem_toArray, List.getElem_cons_zero, List.getElem_cons_succ, List.setIfInBounds_toArray, List.set_cons_zero, List.set_cons_succ]
                refine wpAnyH_take (i := 5) (v := ?_) rfl (by kernel_rfl) (by kernel_rfl) (by kernel_rfl) (fun _ _ _ h => h) (Or.inl ⟨by rfl, ?_⟩) (by assumption) ?_
                rotate_left
                · (intro wz hSz; obtain b0 := hSz; go_simp) <;> with_reducible rfl
                simp only [Act.put, List.getElem_toArray, List.getElem_cons_zero, List.getElem_cons_succ, List.setIfInBounds_toArray, List.set_cons_zero, List.set_cons_succ]
                refine wpAnyH_take (i := 6) (v := ?_) rfl (by kernel_rfl) (by kernel_rfl) (by kernel_rfl) (fun _ _ _ h => h) (Or.inl ⟨by rfl, ?_⟩) (by assumption) ?_
                rotate_left
                · (intro wz hSz; obtain b0 := hSz; go_simp) <;> with_reducible rfl
                simp only [Act.put, List.getElem_toArray, List.getElem_cons_zero, List.getElem_cons_succ, List.setIfInBounds_toArray, List.set_cons_zero, List.set_cons_succ]
                refine wpAnyH_take (i := 7) (v := ?_) rfl (by kernel_rfl) (by kernel_rfl) (by kernel_rfl) (fun _ _ _ h => h) (Or.inl ⟨by rfl, ?_⟩) (by assumption) ?_
                rotate_left
                · (intro wz hSz; obtain b0 := hSz; go_simp) <;> with_reducible rfl
                simp only [Act.put, List.getElem_toArray, List.getElem_cons_zero, List.getElem_cons_succ, List.setIfInBounds_toArray, List.set_cons_zero, List.set_cons_succ]
                refine wpAnyH_take (i := 8) (v := ?_) rfl (by kernel_rfl) (by kernel_rfl) (by kernel_rfl) (fun _ _ _ h => h) (Or.inl ⟨by rfl, ?_⟩) (by assumption) ?_
                rotate_left
                · (intro wz hSz; obtain b0 := hSz; go_simp) <;> with_reducible rfl
                simp only [Act.put, List.getElem_toArray, List.getElem_cons_zero, List.getElem_cons_succ, List.setIfInBounds_toArray, List.set_cons_zero, List.set_cons_succ]
                refine wpAnyH_take (i := 9) (v := ?_) rfl (by kernel_rfl) (by kernel_rfl) (by kernel_rfl) (fun _ _ _ h => h) (Or.inl ⟨by rfl, ?_⟩) (by assumption) ?_
                rotate_left
                · (intro wz hSz; obtain b0 := hSz; go_simp) <;> with_reducible rfl
                simp only [Act.put, List.getElem_toArray, List.getElem_cons_zero, List.getElem_cons_succ, List.setIfInBounds_toArray, List.set_cons_zero, List.set_cons_succ]
                refine wpAnyH_take (i := 10) (v := ?_) rfl (by kernel_rfl) (by kernel_rfl) (by kernel_rfl) (fun _ _ _ h => h) (Or.inl ⟨by rfl, ?_⟩) (by assumption) ?_
                rotate_left
                · (intro wz hSz; obtain b0 := hSz; go_simp) <;> with_reducible rfl
                simp only [Act.put, List.getElem_toArray, List.getElem_cons_zero, List.getElem_cons_succ, List.setIfInBounds_toArray, List.set_cons_zero, List.set_cons_succ]
                refine wpAnyH_take (i := 11) (v := ?_) rfl (by kernel_rfl) (by kernel_rfl) (by kernel_rfl) (fun _ _ _ h => h) (Or.inl ⟨by rfl, ?_⟩) (by assumption) ?_
                rotate_left
                · (intro wz hSz; obtain b0 := hSz; go_simp) <;> with_reducible rfl
                simp only [Act.put, List.getElem_toArray, List.getElem_cons_zero, List.getElem_cons_succ, List.setIfInBounds_toArray, List.set_cons_zero, List.set_cons_succ]
                refine wpAnyH_take (i := 12) (v := ?_) rfl (by kernel_rfl) (by kernel_rfl) (by kernel_rfl) (fun _ _ _ h => h) (Or.inl ⟨by rfl, ?_⟩) (by assumption) ?_
                rotate_left
                · (intro wz hSz; obtain b0 := hSz; go_simp) <;> with_reducible rfl
                simp only [Act.put, List.getElem_toArray, List.getElem_cons_zero, List.getElem_cons_succ, List.setIfInBounds_toArray, List.set_cons_zero, List.set_cons_succ]
                refine wpAnyH_ready (rs := [13]) (by kernel_rfl) (by simp) (AllReadyH.cons rfl (fun K hK => ?_) AllReadyH.nil)
                go_simp
                refine hK.out _ _ (Hfar.out _ _ _ (Hfar.out _ _ _ z0)) (fun hHeld => ?_)
                clear hK K
                refine wpAnyH_take (i := 14) (v := ?_) rfl (by kernel_rfl) (by kernel_rfl) (by kernel_rfl) (fun _ _ _ h => h) (Or.inl ⟨by rfl, ?_⟩) (by assumption) ?_
                rotate_left
                · (intro wz hSz; obtain b0 := hSz; go_simp) <;> with_reducible rfl
                simp only [Act.put, List.getElem_toArray, List.getElem_cons_zero, List.getElem_cons_succ, List.setIfInBounds_toArray, List.set_cons_zero, List.set_cons_succ]
                refine wpAnyH_take (i := 15) (v := ?_) rfl (by kernel_rfl) (by kernel_rfl) (by kernel_rfl) (fun _ _ _ h => h) (Or.inl ⟨by rfl, ?_⟩) (by assumption) ?_
                rotate_left
                · (intro wz hSz; obtain b0 := hSz; go_simp) <;> with_reducible rfl
                simp only [Act.put, List.getElem_toArray, List.getElem_cons_zero, List.getElem_cons_succ, List.setIfInBounds_toArray, List.set_cons_zero, List.set_cons_succ]
                refine wpAnyH_ready (rs := [16]) (by kernel_rfl) (by simp) (AllReadyH.cons rfl (fun K hK => ?_) AllReadyH.nil)
                go_simp
                refine hK.out _ _ (Hfar.out _ _ _ (Hfar.out _ _ _ (Hfar.out _ _ _ z0))) (fun hHeld => ?_)
                clear hK K
                refine wpAnyH_take (i := 17) (v := ?_) rfl (by kernel_rfl) (by kernel_rfl) (by kernel_rfl) (fun _ _ _ h => h) (Or.inl ⟨by rfl, ?_⟩) (by assumption) ?_
                rotate_left
                · (intro wz hSz; obtain b0 := hSz; go_simp) <;> with_reducible rfl
                simp only [Act.put, List.getElem_toArray, List.getElem_cons_zero, List.getElem_cons_succ, List.setIfInBounds_toArray, List.set_cons_zero, List.set_cons_succ]
                refine wpAnyH_ready (rs := [18]) (by kernel_rfl) (by simp) (AllReadyH.cons rfl (fun K hK => ?_) AllReadyH.nil)
                go_simp
                refine hK.out _ _ (Hfar2.out _ _ (Hfar.out _ _ _ (Hfar.out _ _ _ (Hfar.out _ _ _ z0)))) (fun hHeld => ?_)
                clear hK K
                refine wpAnyH_done (by kernel_rfl) ?_ _
                go_wp2
                go_roundw
                case rel =>
                  have hadd := Hadd.out
                  rw [← Hw9.out] at hadd
                  exact ⟨k + 1, _, _, _, _, by omega, by go_num, Hadd0.out, fun _ => (by rw [List.length_append, Hns.out, Hsl.out hlt]; rfl), hadd.1, (hB.thenBelow hB24 hB.size).trans hadd.2 (fun j hj => by omega), Hlen.out⟩
                case measure => simp [intOf]; omega
              · go_simp
                refine hK.out _ _ y0 (fun hHeld => ?_)
                clear hK K
                refine wpAnyH_ready (rs := [6]) (by kernel_rfl) (by simp) (AllReadyH.cons rfl (fun K hK => ?_) AllReadyH.nil)
                go_simp
                refine hK.out _ _ hHeld (fun hHeld => ?_)
                clear hK K
                refine wpAnyH_ready (rs := [13]) (by kernel_rfl) (by simp) (AllReadyH.cons rfl (fun K hK => ?_) AllReadyH.nil)
                refine step_append_run4 (by rfl) _ _ _ (by rfl) _ _ _ _ (by rfl) (by rfl) _ (by rfl) hrun7 ?_
                refine hK.out _ _ z0 (fun hHeld => ?_)
                clear hK K
                refine wpAnyH_take (i := 14) (v := ?_) rfl (by kernel_rfl) (by kernel_rfl) (by kernel_rfl) (fun _ _ _ h => h) (Or.inl ⟨by rfl, ?_⟩) (by assumption) ?_
                rotate_left
                · (intro wz hSz; obtain b0 := hSz; go_simp) <;> with_reducible rfl
                simp only [Act.put, List.getElem_toArray, List.getElem_cons_zero, List.getElem_cons_succ, List.setIfInBounds_toArray, List.set_cons_zero, List.set_cons_succ]
                refine wpAnyH_take (i := 15) (v := ?_) rfl (by kernel_rfl) (by kernel_rfl) (by kernel_rfl) (fun _ _ _ h => h) (Or.inl ⟨by rfl, ?_⟩) (by assumption) ?_
                rotate_left
                · (intro wz hSz; obtain b0 := hSz; go_simp) <;> with_reducible rfl
                simp only [Act.put, List.getElem_toArray, List.getElem_cons_zero, List.getElem_cons_succ, List.setIfInBounds_toArray, List.set_cons_zero, List.set_cons_succ]
                refine wpAnyH_ready (rs := [16]) (by kernel_rfl) (by simp) (AllReadyH.cons rfl (fun K hK => ?_) AllReadyH.nil)
                go_simp
                refine hK.out _ _ (Hfar.out _ _ _ z0) (fun hHeld => ?_)
                clear hK K
                refine wpAnyH_done (by kernel_rfl) ?_ _
                go_wp2
                refine wp_region_held_drew (S := fun W => W.cell? ⟨w.heap.size + 2, 0, none⟩ = some (.pointer (some ⟨w.heap.size + 1, 0, none⟩))) (by kernel_rfl) (Hfar.out _ _ _ z0) (fun hHeld => ?_)
                refine wpAnyH_take (i := 0) (v := ?_) rfl (by kernel_rfl) (by kernel_rfl) (by kernel_rfl) (fun _ _ _ h => h) (Or.inl ⟨by rfl, ?_⟩) (by assumption) ?_
                rotate_left
                · (intro wz hSz; obtain b0 := hSz; go_simp) <;> with_reducible rfl
                simp only [Act.put, List.getElem_toArray, List.getElem_cons_zero, List.getElem_cons_succ, List.setIfInBounds_toArray, List.set_cons_zero, List.set_cons_succ]
                refine wpAnyH_take (i := 1) (v := ?_) rfl (by kernel_rfl) (by kernel_rfl) (by kernel_rfl) (fun _ _ _ h => h) (Or.inl ⟨by rfl, ?_⟩) (by assumption) ?_
                rotate_left
                · (intro wz hSz; obtain b0 := hSz; go_simp) <;> with_reducible rfl
                simp only [Act.put, List.getElem_toArray, List.getElem_cons_zero, List.getElem_cons_succ, List.setIfInBounds_toArray, List.set_cons_zero, List.set_cons_succ]
                refine wpAnyH_take (i := 2) (v := ?_) rfl (by kernel_rfl) (by kernel_rfl) (by kernel_rfl) (fun _ _ _ h => h) (Or.inl ⟨by rfl, ?_⟩) (by assumption) ?_
                rotate_left
                · (intro wz hSz; obtain b0 := hSz; go_simp) <;> with_reducible rfl
                simp only [Act.put, List.getElem_toArray, List.getElem_cons_zero, List.getElem_cons_succ, List.setIfInBounds_toArray, List.set_cons_zero, List.set_cons_succ]
                refine wpAnyH_take (i := 3) (v := ?_) rfl (by kernel_rfl) (by kernel_rfl) (by kernel_rfl) (fun _ _ _ h => h) (Or.inl ⟨by rfl, ?_⟩) (by assumption) ?_
                rotate_left
                · (intro wz hSz; obtain b0 := hSz; go_simp) <;> with_reducible rfl
                simp only [Act.put, List.getElem_toArray, List.getElem_cons_zero, List.getElem_cons_succ, List.setIfInBounds_toArray, List.set_cons_zero, List.set_cons_succ]
                refine wpAnyH_take (i := 4) (v := ?_) rfl (by kernel_rfl) (by kernel_rfl) (by kernel_rfl) (fun _ _ _ h => h) (Or.inl ⟨by rfl, ?_⟩) (by assumption) ?_
                rotate_left
                · (intro wz hSz; obtain b0 := hSz; go_simp) <;> with_reducible rfl
                simp only [Act.put, List.getElem_toArray, List.getElem_cons_zero, List.getElem_cons_succ, List.setIfInBounds_toArray, List.set_cons_zero, List.set_cons_succ]
                refine wpAnyH_take (i := 5) (v := ?_) rfl (by kernel_rfl) (by kernel_rfl) (by kernel_rfl) (fun _ _ _ h => h) (Or.inl ⟨by rfl, ?_⟩) (by assumption) ?_
                rotate_left
                · (intro wz hSz; obtain b0 := hSz; go_simp) <;> with_reducible rfl
                simp only [Act.put, List.getElem_toArray, List.getElem_cons_zero, List.getElem_cons_succ, List.setIfInBounds_toArray, List.set_cons_zero, List.set_cons_succ]
                refine wpAnyH_take (i := 6) (v := ?_) rfl (by kernel_rfl) (by kernel_rfl) (by kernel_rfl) (fun _ _ _ h => h) (Or.inl ⟨by rfl, ?_⟩) (by assumption) ?_
                rotate_left
                · (intro wz hSz; obtain b0 := hSz; go_simp) <;> with_reducible rfl
                simp only [Act.put, List.getElem_toArray, List.getElem_cons_zero, List.getElem_cons_succ, List.setIfInBounds_toArray, List.set_cons_zero, List.set_cons_succ]
                refine wpAnyH_take (i := 7) (v := ?_) rfl (by kernel_rfl) (by kernel_rfl) (by kernel_rfl) (fun _ _ _ h => h) (Or.inl ⟨by rfl, ?_⟩) (by assumption) ?_
                rotate_left
                · (intro wz hSz; obtain b0 := hSz; go_simp) <;> with_reducible rfl
                simp only [Act.put, List.getElem_toArray, List.getElem_cons_zero, List.getElem_cons_succ, List.setIfInBounds_toArray, List.set_cons_zero, List.set_cons_succ]
                refine wpAnyH_take (i := 8) (v := ?_) rfl (by kernel_rfl) (by kernel_rfl) (by kernel_rfl) (fun _ _ _ h => h) (Or.inl ⟨by rfl, ?_⟩) (by assumption) ?_
                rotate_left
                · (intro wz hSz; obtain b0 := hSz; go_simp) <;> with_reducible rfl
                simp only [Act.put, List.getElem_toArray, List.getElem_cons_zero, List.getElem_cons_succ, List.setIfInBounds_toArray, List.set_cons_zero, List.set_cons_succ]
                refine wpAnyH_take (i := 9) (v := ?_) rfl (by kernel_rfl) (by kernel_rfl) (by kernel_rfl) (fun _ _ _ h => h) (Or.inl ⟨by rfl, ?_⟩) (by assumption) ?_
                rotate_left
                · (intro wz hSz; obtain b0 := hSz; go_simp) <;> with_reducible rfl
                simp only [Act.put, List.getElem_toArray, List.getElem_cons_zero, List.getElem_cons_succ, List.setIfInBounds_toArray, List.set_cons_zero, List.set_cons_succ]
                refine wpAnyH_take (i := 10) (v := ?_) rfl (by kernel_rfl) (by kernel_rfl) (by kernel_rfl) (fun _ _ _ h => h) (Or.inl ⟨by rfl, ?_⟩) (by assumption) ?_
                rotate_left
                · (intro wz hSz; obtain b0 := hSz; go_simp) <;> with_reducible rfl
                simp only [Act.put, List.getElem_toArray, List.getElem_cons_zero, List.getElem_cons_succ, List.setIfInBounds_toArray, List.set_cons_zero, List.set_cons_succ]
                refine wpAnyH_take (i := 11) (v := ?_) rfl (by kernel_rfl) (by kernel_rfl) (by kernel_rfl) (fun _ _ _ h => h) (Or.inl ⟨by rfl, ?_⟩) (by assumption) ?_
                rotate_left
                · (intro wz hSz; obtain b0 := hSz; go_simp) <;> with_reducible rfl
                simp only [Act.put, List.getElem_toArray, List.getElem_cons_zero, List.getElem_cons_succ, List.setIfInBounds_toArray, List.set_cons_zero, List.set_cons_succ]
                refine wpAnyH_take (i := 12) (v := ?_) rfl (by kernel_rfl) (by kernel_rfl) (by kernel_rfl) (fun _ _ _ h => h) (Or.inl ⟨by rfl, ?_⟩) (by assumption) ?_
                rotate_left
                · (intro wz hSz; obtain b0 := hSz; go_simp) <;> with_reducible rfl
                simp only [Act.put, List.getElem_toArray, List.getElem_cons_zero, List.getElem_cons_succ, List.setIfInBounds_toArray, List.set_cons_zero, List.set_cons_succ]
                refine wpAnyH_ready (rs := [13]) (by kernel_rfl) (by simp) (AllReadyH.cons rfl (fun K hK => ?_) AllReadyH.nil)
                go_simp
                refine hK.out _ _ (Hfar.out _ _ _ (Hfar.out _ _ _ z0)) (fun hHeld => ?_)
                clear hK K
                refine wpAnyH_take (i := 14) (v := ?_) rfl (by kernel_rfl) (by kernel_rfl) (by kernel_rfl) (fun _ _ _ h => h) (Or.inl ⟨by rfl, ?_⟩) (by assumption) ?_
                rotate_left
                · (intro wz hSz; obtain b0 := hSz; go_simp) <;> with_reducible rfl
                simp only [Act.put, List.getElem_toArray, List.getElem_cons_zero, List.getElem_cons_succ, List.setIfInBounds_toArray, List.set_cons_zero, List.set_cons_succ]
                refine wpAnyH_take (i := 15) (v := ?_) rfl (by kernel_rfl) (by kernel_rfl) (by kernel_rfl) (fun _ _ _ h => h) (Or.inl ⟨by rfl, ?_⟩) (by assumption) ?_
                rotate_left
                · (intro wz hSz; obtain b0 := hSz; go_simp) <;> with_reducible rfl
                simp only [Act.put, List.getElem_toArray, List.getElem_cons_zero, List.getElem_cons_succ, List.setIfInBounds_toArray, List.set_cons_zero, List.set_cons_succ]
                refine wpAnyH_ready (rs := [16]) (by kernel_rfl) (by simp) (AllReadyH.cons rfl (fun K hK => ?_) AllReadyH.nil)
                go_simp
                refine hK.out _ _ (Hfar.out _ _ _ (Hfar.out _ _ _ (Hfar.out _ _ _ z0))) (fun hHeld => ?_)
                clear hK K
                refine wpAnyH_take (i := 17) (v := ?_) rfl (by kernel_rfl) (by kernel_rfl) (by kernel_rfl) (fun _ _ _ h => h) (Or.inl ⟨by rfl, ?_⟩) (by assumption) ?_
                rotate_left
                · (intro wz hSz; obtain b0 := hSz; go_simp) <;> with_reducible rfl
                simp only [Act.put, List.getElem_toArray, List.getElem_cons_zero, List.getElem_cons_succ, List.setIfInBounds_toArray, List.set_cons_zero, List.set_cons_succ]
                refine wpAnyH_ready (rs := [18]) (by kernel_rfl) (by simp) (AllReadyH.cons rfl (fun K hK => ?_) AllReadyH.nil)
                go_simp
                refine hK.out _ _ (Hfar2.out _ _ (Hfar.out _ _ _ (Hfar.out _ _ _ (Hfar.out _ _ _ z0)))) (fun hHeld => ?_)
                clear hK K
                refine wpAnyH_done (by kernel_rfl) ?_ _
                go_wp2
                go_roundw
                case rel =>
                  have hadd := Hadd.out
                  rw [← Hw9.out] at hadd
                  exact ⟨k + 1, _, _, _, _, by omega, by go_num, Hadd0.out, fun _ => (by rw [List.length_append, Hns.out, Hsl.out hlt]; rfl), hadd.1, (hB.thenBelow hB24 hB.size).trans hadd.2 (fun j hj => by omega), Hlen.out⟩
                case measure => simp [intOf]; omega
      · have He := Lib.hid (HEq.out.trans (if_pos hz))
        have hzb : (er != 0) = true := by simpa using hz
        clear HEq hz
        go_wp2_with first
          | (go_at_call 45; refine HNm.out.mono ?_; rintro e w2 ⟨rfl, hB2⟩)
          | (go_at_call 51; refine (HRd.out w2 hB2).mono ?_; rintro e w3 ⟨a3, c3, rfl, hrow3, hB3⟩; clear hrow3; have hst3 := Hst.out.more (hB2.trans (hB3.mono hB2.size)); obtain ⟨e0, e1, e2, e3, _⟩ := cells4F hst3.fnd; obtain ⟨j0, j1, j2, j3, i0, i1, i2, i3⟩ := cells4F hst3.res; have Hst3 := Lib.hid hst3; clear hst3)
        have hU := setCell4_upd4 (w := w3) (b := w.heap.size) (.pointer (some ⟨w.heap.size + 1, 0, none⟩)) (.slice ar nr cr) (.int .i64 f.none) (.int .i64 f.good)
        obtain ⟨y0, y1, y2, y3, _⟩ := cells4F (setCell4_at4 Hst3.out.res (.pointer (some ⟨w.heap.size + 1, 0, none⟩)) (.slice ar nr cr) (.int .i64 f.none) (.int .i64 f.good))
        refine bodyPost_ret (v := .tuple #[.agg #[.pointer (some ⟨w.heap.size + 1, 0, none⟩), .slice ar nr cr, .int .i64 f.none, .int .i64 f.good], .int .i64 er]) (by simp [results, Tryz.results52, go_sem, y0, y1, y2, y3]) rfl ?_
        rw [He.out]
        exact ⟨.slice as0 ns cs0, .slice ar nr cr, XL, rfl, Hst3.out.fin hU⟩
    · obtain rfl : k = N := by omega
      have he : wLook d f0 all = (f, 0) := by rw [Heq.out, List.drop_eq_nil_of_le (by rw [HN.out]; exact Nat.le_refl _)]; rfl
      have He := Lib.hid he
      clear he Heq
      go_wp2
      have hU := setCell4_upd4 (w := wr) (b := w.heap.size) (.pointer (some ⟨w.heap.size + 1, 0, none⟩)) (.slice ar nr cr) (.int .i64 f.none) (.int .i64 f.good)
      obtain ⟨y0, y1, y2, y3, _⟩ := cells4F (setCell4_at4 Hst.out.res (.pointer (some ⟨w.heap.size + 1, 0, none⟩)) (.slice ar nr cr) (.int .i64 f.none) (.int .i64 f.good))
      refine bodyPost_ret (v := .tuple #[.agg #[.pointer (some ⟨w.heap.size + 1, 0, none⟩), .slice ar nr cr, .int .i64 f.none, .int .i64 f.good], .int .i64 0]) (by simp [results, Tryz.results52, go_sem, y0, y1, y2, y3]) rfl ?_
      rw [He.out]
      exact ⟨.slice as0 ns cs0, .slice ar nr cr, XL, rfl, Hst.out.fin hU⟩
end Go.Proofs.YtbiadclmonakkaaGreatDoor
