/-
  A disk's segments: their numbers, rising.
-/
import Derived.Outline
import Derived.BigQuiet
import Derived.Deep.QuietTactic
import Derived.Deep.RegionHeld3
import Derived.Sort.OwnSortedInts
import Derived.Test.YtbiadclmonakkaaGreatDoorMWmE
import Derived.Deep.Upon
import Derived.Test.YtbiadclmonakkaaGreatDoorMWmF
namespace Go.Proofs.YtbiadclmonakkaaGreatDoor
open Go.RowKit Go.Maps Go.MapKept

def leI (x y : Int) : Bool := decide (x ≤ y)
/-- ints that the call owns are sorted. -/
theorem sort_ints4 {w : World} {base n : Nat} {a : Option Addr} {c : Nat} {zs : List Int} (h : w.ownsRow base 3 1 (.slice a n c) n (iCells zs)) (hn : zs.length = n) (hl : n ≤ 1000000) :
    Calls Tryz.prog 112 #[.slice a n c] w fun e w' => e = .returned (.tuple #[]) ∧ w'.ownsRow base 3 1 (.slice a n c) n (iCells (zs.mergeSort leI)) ∧ w.grownBy w' (Value.slice a n c).ownBlock := by
  subst hn
  rcases h.2 with ⟨he, h0⟩ | ⟨g, cap, cur, he, hb, hg, hc, hm, hs, ht⟩
  · have hz : zs = [] := List.eq_nil_of_length_eq_zero h0
    subst hz
    cases he
    refine (Tryz.slices_Sort_int_none none 0 w).mono fun e w' hw => ?_
    obtain ⟨e1, rfl⟩ := hw
    exact ⟨e1, by simpa [iCells] using h, ⟨rfl, rfl, rfl, Nat.le_refl _, fun _ _ _ => rfl⟩⟩
  · cases he
    have hH := holds_of_blockI (ss := zs) hg (by rw [Nat.mul_one] at ht; exact ht)
    refine (Tryz.slices_Sort_int g 0 c zs w hH (blk_lt hg) (by omega)).mono fun e w' hw => ?_
    obtain ⟨e1, k, os, rfl⟩ := hw
    refine ⟨e1, ?_, grownBy_sortedI _⟩
    exact ownsRow_sortedI (ss := zs) (ts := zs.mergeSort fun x y => decide (x ≤ y)) (by rw [List.length_mergeSort]) hb hg hc hm hs
def natI (l : List Nat) : List Int := l.map (fun n : Nat => (n : Int))
theorem natI_sort (l : List Nat) : natI (l.mergeSort leN) = (natI l).mergeSort leI := by
  unfold natI
  refine List.map_mergeSort (fun a _ b _ => ?_)
  simp [leN, leI]
theorem row_int {w : World} {base n : Nat} {v : Value} {xs : List Value} (h : w.ownsRow base 3 1 v n xs) : ∃ a c, v = .slice a n c := by
  obtain ⟨_, ⟨rfl, rfl⟩ | ⟨g, cap, _, rfl, _⟩⟩ := h
  · exact ⟨_, _, rfl⟩
  · exact ⟨_, _, rfl⟩
set_option maxRecDepth 100000 in
set_option maxHeartbeats 8000000 in
theorem wsegments_at {ex : Nat → Prop} {w : World} {p m : Nat} {d : ADisk} (h : DiskAt ex w p m d) (hE : WEnv w) :
    Calls Tryz.prog 82 #[.pointer (some ⟨p, 0, none⟩)] w fun e w' => ∃ a c, e = .returned (.slice a (segsOf d).length c) ∧ w'.ownsRow w.heap.size 3 1 (.slice a (segsOf d).length c) (segsOf d).length (iCells (natI (segsOf d))) ∧ Below w.heap.size w w' := by
  have hwf := h.wf
  have hnl : d.names.length ≤ 200 := by simpa [ADisk.names] using hwf.count
  have hns : ∀ s ∈ d.names, s.size ≤ 40 := fun s hs => hwf.name_size hs
  have hL := List_at h
  obtain ⟨l, hl⟩ : ∃ l, d.names = l := ⟨_, rfl⟩
  have hseg : segsOf d = (l.filterMap wNum).mergeSort leN := by unfold segsOf; rw [hl]
  rw [hl] at hL hnl hns
  obtain ⟨N, hN⟩ : ∃ N, l.length = N := ⟨_, rfl⟩
  rw [hN] at hL hnl
  have HL := Lib.hid hL
  have Hns := Lib.hid hns
  have HN := Lib.hid hN
  have Hseg := Lib.hid hseg
  have HE := Lib.hid hE
  clear hL hns hN hseg hE hl hwf
  go_enter Tryz.func82, Tryz.ntmps82
  go_wp2_with (go_at_call 28; refine HL.out.mono ?_; rintro e w1 ⟨a1, c1, rfl, hrow1, _, hB1⟩)
  have hrd1 : Rd w1 (.slice a1 N c1) (sCells l) := Rd.ofOwns hrow1
  have Hrd1 := Lib.hid hrd1
  clear hrow1 hrd1
  go_loopw [3, 11] (fun vo i wr => ∃ (k n : Nat) (a : Option Addr) (c : Nat), k ≤ N ∧ i = .int .i64 k ∧ ((l.take k).filterMap wNum).length = n ∧ n ≤ k ∧ vo = .slice a n c ∧ wr.ownsRow w1.heap.size 3 1 (.slice a n c) n (iCells (natI ((l.take k).filterMap wNum))) ∧ Below w1.heap.size w1 wr) (fun _ i _ => N - (intOf i).toNat)
  case atStart => exact ⟨0, 0, none, 0, by omega, rfl, rfl, by omega, rfl, (by have h9 := World.ownsRow_nil w1 w1.heap.size 3 1; exact h9), Below.refl _ _⟩
  case round =>
    obtain ⟨k, n, a, c, hk, rfl, hn, hnk, rfl, hrow, hB⟩ := hrel
    have Hrow := Lib.hid hrow
    have Hn := Lib.hid hn
    clear hrow hn
    by_cases hlt : k < N
    · obtain ⟨b, o, rfl, hc⟩ := Hrd1.out.at k (by rw [sCells_length, HN.out]; exact hlt)
      have hkl : k < l.length := by rw [HN.out]; exact hlt
      simp only [sCells, List.getElem_map] at hc
      have hcr := (hB.cell (p := ⟨b, o + k, none⟩) (cell_lt hc)).trans hc
      have hss := Hns.out _ (List.getElem_mem hkl)
      have htk : (l.take (k + 1)).filterMap wNum = (l.take k).filterMap wNum ++ (wNum l[k]).toList := by
        rw [List.take_succ_eq_append_getElem hkl, List.filterMap_append]
        cases h0 : wNum l[k] <;> simp [h0]
      obtain ⟨s, hs⟩ : ∃ s, l[k] = s := ⟨_, rfl⟩
      rw [hs] at hcr hss htk
      have hEr := (HE.out.below hB1).below hB
      have hNum := wnumber_any wr s (by omega) hEr
      have Htk := Lib.hid htk
      cases hw : wNum s with
      | none =>
        rw [hw] at hNum htk
        simp only [Option.toList_none, List.append_nil] at htk
        have HNum := Lib.hid hNum
        have Htk2 := Lib.hid htk
        clear hNum htk Htk hs hc hw hEr
        go_wp2_with (go_at_call 111; refine HNum.out.mono ?_; rintro e w2 ⟨z, rfl, hz1, hz2, hB2⟩)
        go_roundw
        case rel => exact ⟨k + 1, n, a, c, by omega, by go_num, by rw [Htk2.out]; exact Hn.out, by omega, rfl, by rw [Htk2.out]; exact ((Upd.refl noFp wr).thenBelow hB2 (Nat.le_refl _)).row Hrow.out (fun _ _ h => h), hB.trans (hB2.mono hB.size)⟩
        case measure => simp [intOf]; omega
      | some y =>
        rw [hw] at hNum htk
        have HNum := Lib.hid hNum
        have Htk2 := Lib.hid htk
        clear hNum htk Htk hs hc hw hEr
        go_wp2_with first
          | (go_at_call 111; refine HNum.out.mono ?_; rintro e w2 ⟨z, rfl, hz1, hz2, hB2⟩; obtain rfl := hz2 y rfl)
          | (at_builtin; refine append_i644 rfl (.tmp 21) (.tmp 23) rfl (.slice a n c) (.slice (some ⟨w2.heap.size, 0, none⟩) 1 1) (natI ((l.take k).filterMap wNum)) [(y : Int)] (natI ((l.take (k + 1)).filterMap wNum)) n (by unfold natI; rw [List.length_map, Hn.out]) (by rw [Htk2.out]; simp [natI]) rfl (((Upd.refl noFp wr).thenBelow (hB2.alloc hB2.size _) (Nat.le_refl _)).row (ownsRow_base0 Hrow.out) (fun _ _ h => h)) rfl (Rd_new _ _ _ _ (iCells [(y : Int)]) _ _ rfl rfl) (by unfold natI; rw [List.length_map, Hn.out]; simp; omega) ?_; intro v' w3 h1 h2 h3)
        have hl1 : (natI ((l.take (k + 1)).filterMap wNum)).length = n + 1 := by rw [Htk2.out]; unfold natI; rw [List.length_map, List.length_append, Hn.out]; rfl
        rw [hl1] at h1
        obtain ⟨a', c', rfl⟩ := row_int h1
        have hU : Upd (fun g => (Value.slice a n c).ownBlock = some g) wr w3 := ((Upd.refl _ wr).thenBelow (hB2.alloc hB2.size _) (Nat.le_refl _)).grown h2 (fun g hg => Or.inl hg)
        have hB3 : Below w1.heap.size w1 w3 := hB.trans (hU.below (fun g hg => row_from Hrow.out hg) hB.size)
        have h4 : w3.ownsRow w1.heap.size 3 1 (.slice a' (n + 1) c') (n + 1) (iCells (natI ((l.take (k + 1)).filterMap wNum))) := by
          refine ownsRow_from h1 (fun g hg => ?_)
          rcases h3 with h3 | ⟨g', h3, hg'⟩
          · exact row_from Hrow.out (h3 ▸ hg)
          · rw [h3] at hg; cases hg; have := hB.size; have := hB2.size; simp at hg'; omega
        have H4 := Lib.hid h4
        have Hl1 : Hid (((l.take (k + 1)).filterMap wNum).length = n + 1) := Lib.hid (by unfold natI at hl1; rw [List.length_map] at hl1; exact hl1)
        clear h1 h2 h3 h4 hU hl1
        go_roundw
        case rel => exact ⟨k + 1, n + 1, a', c', by omega, by go_num, Hl1.out, by omega, rfl, H4.out, hB3⟩
        case measure => simp [intOf]; omega
    · obtain rfl : k = N := by omega
      have hall : l.take k = l := List.take_of_length_le (by rw [HN.out]; exact Nat.le_refl _)
      have hrow := Hrow.out
      have hn2 := Hn.out
      rw [hall] at hrow hn2
      have hS := sort_ints4 hrow (by unfold natI; rw [List.length_map, hn2]) (by omega)
      rw [← natI_sort, ← Hseg.out] at hS
      have hsl : (segsOf d).length = n := by rw [Hseg.out, List.length_mergeSort, hn2]
      have HS := Lib.hid hS
      have Hsl := Lib.hid hsl
      clear hS hsl hrow hn2 hall
      go_wp2_with (go_at_call 112; refine HS.out.mono ?_; rintro e w2 ⟨rfl, hrow2, hg2⟩)
      go_ret
      rw [Hsl.out]
      have hBw : Below w1.heap.size w1 w2 := hB.trans (((Upd.refl (fun g => w1.heap.size ≤ g) wr).grown hg2 (fun g hg => Or.inl (row_from Hrow.out hg))).below (fun _ hk => hk) hB.size)
      exact ⟨a, c, rfl, ownsRow_from hrow2 (fun g hg => Nat.le_trans hB1.size (row_from hrow2 hg)), hB1.trans (hBw.mono hB1.size)⟩
end Go.Proofs.YtbiadclmonakkaaGreatDoor

/-
  What a disk's files tell: the state of the look, in memory.
-/
namespace Go.Proofs.YtbiadclmonakkaaGreatDoor
open Go.RowKit Go.Maps Go.MapKept

/-- records out of a row are appended. -/
theorem append_recs_row (w : World) (v v3 : Value) (n m base : Nat) (L M : List XRec) (hn : n = L.length) (hm : m = M.length) (hown : w.ownsRow 0 47 2 v n (recX L)) (h3 : w.ownsRow base 47 2 v3 m (recX M)) (h1 : ∀ u ∈ recX M, u.oneCell' = true) (h63 : n + m ≤ 8589934592) :
    ∃ v' w', (Builtin.append_ #[28, 28] 28 #[v, v3]).run Tryz.prog w = .ok v' w' ∧ w'.ownsRow 0 47 2 v' (n + m) (recX (L ++ M)) ∧ w.grownBy w' v.ownBlock ∧ (v'.ownBlock = v.ownBlock ∨ ∃ g, v'.ownBlock = some g ∧ w.heap.size ≤ g) := by
  rcases h3.2 with ⟨he, h0⟩ | ⟨g, cap, cur, he, _⟩
  · subst he
    subst h0
    have hM : M = [] := List.eq_nil_of_length_eq_zero hm.symm
    subst hM
    obtain ⟨i0, hi, hz0, hz1, hz2⟩ := info_parts info_rec
    obtain ⟨a, c, rfl⟩ := row_rec hown
    have hle : n ≤ c := by
      rcases hown.2 with ⟨he, hz⟩ | ⟨g, cap, cur, he, _, _, hnc, _⟩
      · cases he; omega
      · cases he; exact hnc
    have hs : Go.Src Tryz.prog i0.size 28 (.slice none 0 0) 0 [] w := Go.Src.ofNil w Tryz.underlying28 0
    refine ⟨_, _, run_append_nothing (P := Tryz.prog) w 28 28 28 47 i0 Tryz.underlying28 hi a n c hle _ hs, by rw [List.append_nil, Nat.add_zero]; exact hown, ⟨rfl, rfl, rfl, Nat.le_refl _, fun _ _ _ => rfl⟩, Or.inl rfl⟩
  · subst he
    exact run_append_recs w v n L M hn hown g 0 m cap hm (fun j u hu => by
      have := h3.cells (g := g) rfl j u hu
      simpa [Addr.add_lit] using this) h1 h63

/-- the look's state. -/
structure LookSt (bs : Nat) (w wr : World) (p size : Nat) (f : AFound) (vs vr : Value) (XL : List XRec) : Prop where
  log : wr.heap[w.heap.size + 1]? = some (.cells (logCells p ⟨size, f.segs, f.next, f.bytes, 0, false⟩ vs) 52 (0, 0))
  fnd : wr.heap[w.heap.size + 2]? = some (.cells #[.pointer (some ⟨w.heap.size + 1, 0, none⟩), vr, .int .i64 f.none, .int .i64 f.good] 100 (0, 0))
  res : wr.heap[w.heap.size]? = some (.cells #[.pointer none, .slice none 0 0, .int .i64 0, .int .i64 0] 100 (0, 0))
  seg : SegAt wr vs f.segs
  row : wr.ownsRow w.heap.size 47 2 vr f.recs.length (recX XL)
  ok : RecsOk w.heap.size wr XL
  map : XL.map XRec.rec4 = f.recs
  hs : ∀ g, vs.ownBlock = some g → bs ≤ g
  hr : ∀ g, vr.ownBlock = some g → bs ≤ g ∧ vs.ownBlock ≠ some g
  hx : ∀ x ∈ XL, ∀ g, x.vb.ownBlock = some g → bs ≤ g ∧ vs.ownBlock ≠ some g ∧ vr.ownBlock ≠ some g
  below : Below w.heap.size w wr
  hb : w.heap.size + 3 ≤ bs
  hw : bs ≤ wr.heap.size
namespace LookSt
variable {bs : Nat} {w wr w' : World} {p size : Nat} {f : AFound} {vs vr : Value} {XL : List XRec}
theorem len (h : LookSt bs w wr p size f vs vr XL) : XL.length = f.recs.length := by rw [← h.map, List.length_map]
theorem size3 (h : LookSt bs w wr p size f vs vr XL) : w.heap.size + 2 < wr.heap.size := blk_lt h.fnd
theorem more (h : LookSt bs w wr p size f vs vr XL) (hb : Below wr.heap.size wr w') : LookSt bs w w' p size f vs vr XL :=
  ⟨(hb.block _ (blk_lt h.log)).trans h.log, (hb.block _ (blk_lt h.fnd)).trans h.fnd, (hb.block _ (blk_lt h.res)).trans h.res, h.seg.below hb, ((Upd.refl noFp wr).thenBelow hb (Nat.le_refl _)).row h.row (fun _ _ h => h), h.ok.below hb, h.map, h.hs, h.hr, h.hx, h.below.trans (hb.mono h.below.size), h.hb, Nat.le_trans h.hw hb.size⟩
/-- the last file is none. -/
theorem setNone (h : LookSt bs w wr p size f vs vr XL) (n : Nat) : LookSt bs w (wr.setCell ⟨w.heap.size + 2, 2, none⟩ (.int .i64 n)) p size { f with none := n } vs vr XL := by
  have hU : Upd (· = w.heap.size + 2) wr (wr.setCell ⟨w.heap.size + 2, 2, none⟩ (.int .i64 n)) := setCell_upd _ _
  refine ⟨hU.keep h.log (by omega), by rw [setCell_at h.fnd]; rfl, hU.keep h.res (by omega), h.seg.upd hU (fun g hg e => by have := h.hs g hg; have := h.hb; omega), hU.row h.row (fun g hg e => by have := (h.hr g hg).1; have := h.hb; omega), h.ok.upd hU (fun x hx g hg e => by have := (h.hx x hx g hg).1; have := h.hb; omega), h.map, h.hs, h.hr, h.hx, h.below.setCell (p := ⟨w.heap.size + 2, 2, none⟩) (by simp) _, h.hb, by simpa using h.hw⟩
/-- a segment is found: its records, itself, its numbers. -/
theorem add {w4 w6 w9 : World} {vr' vs' : Value} {M : List XRec} {R : List (List UInt8)} {n nx by_ gd : Nat} (h : LookSt bs w wr p size f vs vr XL) (hM : RecsOk w.heap.size wr M) (hMx : ∀ x ∈ M, ∀ g, x.vb.ownBlock = some g → bs ≤ g ∧ vs.ownBlock ≠ some g ∧ vr.ownBlock ≠ some g)
    (hMm : M.map XRec.rec4 = numbered n R)
    (h4 : w4.ownsRow 0 47 2 vr' (f.recs.length + R.length) (recX (XL ++ M))) (g4 : wr.grownBy w4 vr.ownBlock) (b4 : vr'.ownBlock = vr.ownBlock ∨ ∃ g, vr'.ownBlock = some g ∧ wr.heap.size ≤ g)
    (g6 : Upd (fun k => vs.ownBlock = some k) (w4.setCell ⟨w.heap.size + 2, 1, none⟩ vr') w6) (h6 : SegAt w6 vs' (f.segs ++ [(n, !R.isEmpty)])) (b6 : vs'.ownBlock = vs.ownBlock ∨ ∃ g, vs'.ownBlock = some g ∧ w4.heap.size ≤ g)
    (hUq : Upd (fun k => k = w.heap.size + 1 ∨ k = w.heap.size + 2) w6 w9)
    (hl9 : w9.heap[w.heap.size + 1]? = some (.cells (logCells p ⟨size, f.segs ++ [(n, !R.isEmpty)], nx, by_, 0, false⟩ vs') 52 (0, 0))) (hf9 : w9.heap[w.heap.size + 2]? = some (.cells #[.pointer (some ⟨w.heap.size + 1, 0, none⟩), vr', .int .i64 f.none, .int .i64 gd] 100 (0, 0))) :
    LookSt bs w w9 p size { f with segs := f.segs ++ [(n, !R.isEmpty)], next := nx, bytes := by_, good := gd, recs := f.recs ++ numbered n R } vs' vr' (XL ++ M) ∧ Upd (fun k => k = w.heap.size + 1 ∨ k = w.heap.size + 2 ∨ bs ≤ k) wr w9 := by
  have hsz := h.size3
  have hbs := h.hb
  have hbw := h.hw
  have hU4 : Upd (fun k => vr.ownBlock = some k) wr w4 := (Upd.refl _ wr).grown g4 (fun k hk => Or.inl hk)
  have hs4 := hU4.size
  -- where the rows lie
  have hr' : ∀ g, vr'.ownBlock = some g → bs ≤ g ∧ vs.ownBlock ≠ some g := by
    intro g hg
    rcases b4 with e | ⟨g', e, hge⟩
    · exact h.hr g (e ▸ hg)
    · rw [e] at hg; cases hg
      exact ⟨by omega, fun e => by have := h.seg.lt e; omega⟩
  have hs' : ∀ g, vs'.ownBlock = some g → bs ≤ g := by
    intro g hg
    rcases b6 with e | ⟨g', e, hge⟩
    · exact h.hs g (e ▸ hg)
    · rw [e] at hg; cases hg; omega
  have hr4lt : ∀ g, vr'.ownBlock = some g → g < w4.heap.size := fun g hg => row_lt h4 hg
  have hrs : ∀ g, vr'.ownBlock = some g → vs'.ownBlock ≠ some g := by
    intro g hg e
    rcases b6 with e6 | ⟨g', e6, hge⟩
    · exact (hr' g hg).2 (e6 ▸ e)
    · rw [e6] at e; cases e; have := hr4lt _ hg; omega
  have hall : ∀ x ∈ XL ++ M, ∀ g, x.vb.ownBlock = some g → bs ≤ g ∧ vs.ownBlock ≠ some g ∧ vr.ownBlock ≠ some g ∧ g < wr.heap.size := by
    intro x hx g hg
    rcases List.mem_append.1 hx with hx | hx
    · have a := h.hx x hx g hg; exact ⟨a.1, a.2.1, a.2.2, (h.ok.own x hx g hg).2⟩
    · have a := hMx x hx g hg; exact ⟨a.1, a.2.1, a.2.2, (hM.own x hx g hg).2⟩
  have hx' : ∀ x ∈ XL ++ M, ∀ g, x.vb.ownBlock = some g → bs ≤ g ∧ vs'.ownBlock ≠ some g ∧ vr'.ownBlock ≠ some g := by
    intro x hx g hg
    obtain ⟨a1, a2, a3, a4⟩ := hall x hx g hg
    refine ⟨a1, fun e => ?_, fun e => ?_⟩
    · rcases b6 with e6 | ⟨g', e6, hge⟩
      · exact a2 (e6 ▸ e)
      · rw [e6] at e; cases e; omega
    · rcases b4 with e4 | ⟨g', e4, hge⟩
      · exact a3 (e4 ▸ e)
      · rw [e4] at e; cases e; omega
  -- the worlds
  have hU5 : Upd (· = w.heap.size + 2) w4 (w4.setCell ⟨w.heap.size + 2, 1, none⟩ vr') := setCell_upd _ _
  have hs5 : (w4.setCell ⟨w.heap.size + 2, 1, none⟩ vr').heap.size = w4.heap.size := by simp
  generalize hw5 : w4.setCell ⟨w.heap.size + 2, 1, none⟩ vr' = w5 at hU5 g6 hs5
  have hU6 : Upd (fun k => vs.ownBlock = some k) w5 w6 := g6
  have hs6 := hU6.size
  have he4 := hU4.keep h.res (fun e => by have := (h.hr _ e).1; omega)
  have he5 := hU5.keep he4 (by omega)
  have he6 := hU6.keep he5 (fun e => by have := h.hs _ e; omega)
  have hAll : Upd (fun k => k = w.heap.size + 1 ∨ k = w.heap.size + 2 ∨ bs ≤ k) wr w9 :=
    ((((hU4.mono (fun k hk => Or.inl (by have := (h.hr _ hk).1; omega))).trans hU5 (fun k hk => Or.inl (by omega))).trans hU6 (fun k hk => Or.inl (by have := h.hs _ hk; omega))).trans hUq (fun k hk => Or.inl (by omega)))
  refine ⟨⟨hl9, hf9, hUq.keep he6 (by omega), h6.upd hUq (fun g hg e => by have := hs' g hg; omega), ?_, ?_, ?_, hs', fun g hg => ⟨(hr' g hg).1, hrs g hg⟩, hx', ?_, h.hb, ?_⟩, hAll⟩
  · have hl : (f.recs ++ numbered n R).length = f.recs.length + R.length := by rw [List.length_append, numbered_len]
    simp only [hl]
    refine hUq.row (hU6.row (hU5.row (ownsRow_from h4 (fun g hg => ?_)) (fun g hg e => ?_)) (fun g hg e => (hr' g hg).2 e)) (fun g hg e => ?_)
    · have := (hr' g hg).1; omega
    · have := (hr' g hg).1; omega
    · have := (hr' g hg).1; omega
  · exact ((((h.ok.app hM).upd hU4 (fun x hx g hg e => (hall x hx g hg).2.2.1 e)).upd hU5 (fun x hx g hg e => by have := (hall x hx g hg).1; omega)).upd hU6 (fun x hx g hg e => (hall x hx g hg).2.1 e)).upd hUq (fun x hx g hg e => by have := (hall x hx g hg).1; omega)
  · rw [List.map_append, h.map, hMm]
  · exact h.below.trans (hAll.below (fun k hk => by omega) h.below.size)
  · exact Nat.le_trans hbw hAll.size
end LookSt
/-- what a look leaves. -/
structure LookFin (w wr : World) (p size : Nat) (f : AFound) (vs vr : Value) (XL : List XRec) : Prop where
  log : wr.heap[w.heap.size + 1]? = some (.cells (logCells p ⟨size, f.segs, f.next, f.bytes, 0, false⟩ vs) 52 (0, 0))
  seg : SegAt wr vs f.segs
  row : wr.ownsRow w.heap.size 47 2 vr f.recs.length (recX XL)
  ok : RecsOk w.heap.size wr XL
  map : XL.map XRec.rec4 = f.recs
  hs : ∀ g, vs.ownBlock = some g → w.heap.size + 3 ≤ g
  hr : ∀ g, vr.ownBlock = some g → w.heap.size + 3 ≤ g ∧ vs.ownBlock ≠ some g
  hx : ∀ x ∈ XL, ∀ g, x.vb.ownBlock = some g → w.heap.size + 3 ≤ g ∧ vs.ownBlock ≠ some g ∧ vr.ownBlock ≠ some g
  below : Below w.heap.size w wr
theorem LookSt.fin {bs : Nat} {w wr w' : World} {p size : Nat} {f : AFound} {vs vr : Value} {XL : List XRec} (h : LookSt bs w wr p size f vs vr XL) (hU : Upd (· = w.heap.size) wr w') : LookFin w w' p size f vs vr XL :=
  ⟨hU.keep h.log (by omega), h.seg.upd hU (fun g hg e => by have := h.hs g hg; have := h.hb; omega), hU.row h.row (fun g hg e => by have := (h.hr g hg).1; have := h.hb; omega), h.ok.upd hU (fun x hx g hg e => by have := (h.hx x hx g hg).1; have := h.hb; omega), h.map, fun g hg => Nat.le_trans h.hb (h.hs g hg), fun g hg => ⟨Nat.le_trans h.hb (h.hr g hg).1, (h.hr g hg).2⟩, fun x hx g hg => ⟨Nat.le_trans h.hb (h.hx x hx g hg).1, (h.hx x hx g hg).2⟩, h.below.trans (hU.below (fun k hk => by omega) h.below.size)⟩
end Go.Proofs.YtbiadclmonakkaaGreatDoor
