/-
  Package roots: the walk of Write.
-/
import Derived.Outline
import Derived.Test.YtnagejhpdhdpfaaGreatDoorRt5
namespace Go.Proofs.YtnagejhpdhdpfaaGreatDoor
open Go.RowKit Go.Maps Go.MapKept

/-- the four steps of Write: the disk then, the error. -/
def wrSteps (d : ADisk) (n : Nat) (L : List UInt8) : ADisk × Int :=
  if goneE d ≠ 0 then (d.remove freshN, goneE d) else
  if (d.remove freshN).appendErr freshN L ≠ 0 then ((d.remove freshN).append freshN L, (d.remove freshN).appendErr freshN L) else
  if ((d.remove freshN).append freshN L).syncErr freshN ≠ 0 then (((d.remove freshN).append freshN L).sync freshN, ((d.remove freshN).append freshN L).syncErr freshN) else
  ((((d.remove freshN).append freshN L).sync freshN).rename freshN (rname n), (((d.remove freshN).append freshN L).sync freshN).renameErr freshN (rname n))
/-- what Write makes of a disk. -/
def wrAll (d : ADisk) (t c : Int) (b : List UInt8) : ADisk × Int :=
  if d.down then (d, 15) else
  if rbErr ((readR d).serial + 1 : Nat) t c b.length ≠ 0 then (d, rbErr ((readR d).serial + 1 : Nat) t c b.length) else
  wrSteps d ((readR d).serial + 1) (rbOut ((readR d).serial + 1 : Nat) t c b)
def zeroV : Value := .agg #[.int .i64 0, .int .i64 0, .int .i64 0, .slice none 0 0]
def WrPost (ex : Nat → Prop) (p m : Nat) (d : ADisk) (t c : Int) (vb : Value) (b : List UInt8) (w : World) (e : Ending) (w' : World) : Prop :=
  e = .returned (.tuple #[if (wrAll d t c b).2 = 0 then rootV ((readR d).serial + 1 : Nat) t c vb else zeroV, .int .i64 (wrAll d t c b).2]) ∧ DiskAt ex w' p m (wrAll d t c b).1 ∧ Keep ex w w'

theorem WrPost.bad {ex : Nat → Prop} {p m : Nat} {d d' : ADisk} {t c : Int} {vb : Value} {b : List UInt8} {w w' : World} (er : Int) (h : wrAll d t c b = (d', er)) (h0 : er ≠ 0) (hD : DiskAt ex w' p m d') (hK : Keep ex w w') : WrPost ex p m d t c vb b w (.returned (.tuple #[.agg #[.int .i64 0, .int .i64 0, .int .i64 0, .slice none 0 0], .int .i64 er])) w' := by
  refine ⟨?_, by rw [h]; exact hD, hK⟩
  rw [h, if_neg h0]; rfl
theorem below4 {N : Nat} {w0 w1 : World} (h : Below N w0 w1) {b : Nat} (hb : N ≤ b) (x y z u : Value) : Below N w0 ((((w1.setCell ⟨b, 0, none⟩ x).setCell ⟨b, 1, none⟩ y).setCell ⟨b, 2, none⟩ z).setCell ⟨b, 3, none⟩ u) :=
  (((h.setCell (p := ⟨b, 0, none⟩) hb x).setCell (p := ⟨b, 1, none⟩) hb y).setCell (p := ⟨b, 2, none⟩) hb z).setCell (p := ⟨b, 3, none⟩) hb u
theorem wr_store {w1 : World} {b : Nat} {T1 T : TypeId} {pd s t c vb : Value} {x : Obj} (h0 : w1.heap[b]? = some (.cells #[pd] T1 (0, 0))) (h1 : w1.heap[b + 1]? = some (.cells #[s, t, c, vb] T (0, 0))) (h2 : w1.heap[b + 1 + 1]? = some x) (v : Value) (o : Obj) :
    ((w1.setCell ⟨b + 1, 0, none⟩ v).alloc o).heap[b]? = some (.cells #[pd] T1 (0, 0)) ∧ ((w1.setCell ⟨b + 1, 0, none⟩ v).alloc o).heap[b + 1]? = some (.cells #[v, t, c, vb] T (0, 0)) ∧ ((w1.setCell ⟨b + 1, 0, none⟩ v).alloc o).heap[b + 1 + 1]? = some x :=
  ⟨alloc_old (setCell_old h0 (by omega) 0 v) o, alloc_old (setCell_at h1 0 v) o, alloc_old (setCell_old h2 (by omega) 0 v) o⟩
theorem keep4 {ex : Nat → Prop} {w w' : World} (h : Keep ex w w') {b : Nat} (hb : ¬ ex b) (x y z u : Value) : Keep ex w ((((w'.setCell ⟨b, 0, none⟩ x).setCell ⟨b, 1, none⟩ y).setCell ⟨b, 2, none⟩ z).setCell ⟨b, 3, none⟩ u) := by
  have hU := setCell4_upd (w := w') (b := b) x y z u
  exact ⟨hU.os.trans h.os, hU.tape.trans h.tape, hU.output.trans h.output, Nat.le_trans h.size hU.size, fun k hk => by
    by_cases hkl : k < w'.heap.size
    · exact (hU.block k hkl (fun e => hb (e ▸ hk))).trans (h.block k hk)
    · have h1 := h.block k hk
      rw [← h1]
      rw [Array.getElem?_eq_none (by omega : w'.heap.size ≤ k), Array.getElem?_eq_none]
      have : ((((w'.setCell ⟨b, 0, none⟩ x).setCell ⟨b, 1, none⟩ y).setCell ⟨b, 2, none⟩ z).setCell ⟨b, 3, none⟩ u).heap.size = w'.heap.size := by simp only [World.size_setCell]
      omega⟩
theorem disk4 {ex : Nat → Prop} {w : World} {p m : Nat} {d : ADisk} (h : DiskAt ex w p m d) {b : Nat} (hb : ex b) (x y z u : Value) : DiskAt ex ((((w.setCell ⟨b, 0, none⟩ x).setCell ⟨b, 1, none⟩ y).setCell ⟨b, 2, none⟩ z).setCell ⟨b, 3, none⟩ u) p m d :=
  (((h.setCell hb 0 x).setCell hb 1 y).setCell hb 2 z).setCell hb 3 u
/-- the disk behind so many steps. -/
def stepD (d : ADisk) (n : Nat) (L : List UInt8) : Nat → ADisk
  | 0 => d
  | 1 => d.remove freshN
  | 2 => (d.remove freshN).append freshN L
  | 3 => ((d.remove freshN).append freshN L).sync freshN
  | _ => (((d.remove freshN).append freshN L).sync freshN).rename freshN (rname n)
/-- the error of a step. -/
def stepE (d : ADisk) (n : Nat) (L : List UInt8) : Nat → Int
  | 0 => goneE d
  | 1 => (d.remove freshN).appendErr freshN L
  | 2 => ((d.remove freshN).append freshN L).syncErr freshN
  | _ => (((d.remove freshN).append freshN L).sync freshN).renameErr freshN (rname n)
theorem steps_bad {d : ADisk} {n : Nat} {L : List UInt8} {j : Nat} (hj : j ≤ 3) (hz : ∀ i, i < j → stepE d n L i = 0) (hb : stepE d n L j ≠ 0) : wrSteps d n L = (stepD d n L (j + 1), stepE d n L j) := by
  have hj4 : j = 0 ∨ j = 1 ∨ j = 2 ∨ j = 3 := by omega
  unfold wrSteps
  rcases hj4 with rfl | rfl | rfl | rfl
  · have h0 : goneE d ≠ 0 := hb
    rw [if_pos h0]; rfl
  · have h0 : goneE d = 0 := hz 0 (by omega)
    have h1 : (d.remove freshN).appendErr freshN L ≠ 0 := hb
    rw [if_neg (fun h => h h0), if_pos h1]; rfl
  · have h0 : goneE d = 0 := hz 0 (by omega)
    have h1 : (d.remove freshN).appendErr freshN L = 0 := hz 1 (by omega)
    have h2 : ((d.remove freshN).append freshN L).syncErr freshN ≠ 0 := hb
    rw [if_neg (fun h => h h0), if_neg (fun h => h h1), if_pos h2]; rfl
  · have h0 : goneE d = 0 := hz 0 (by omega)
    have h1 : (d.remove freshN).appendErr freshN L = 0 := hz 1 (by omega)
    have h2 : ((d.remove freshN).append freshN L).syncErr freshN = 0 := hz 2 (by omega)
    rw [if_neg (fun h => h h0), if_neg (fun h => h h1), if_neg (fun h => h h2)]; rfl
theorem steps_good {d : ADisk} {n : Nat} {L : List UInt8} (hz : ∀ i, i < 4 → stepE d n L i = 0) : wrSteps d n L = (stepD d n L 4, 0) := by
  have h0 : goneE d = 0 := hz 0 (by omega)
  have h1 : (d.remove freshN).appendErr freshN L = 0 := hz 1 (by omega)
  have h2 : ((d.remove freshN).append freshN L).syncErr freshN = 0 := hz 2 (by omega)
  have h3 : (((d.remove freshN).append freshN L).sync freshN).renameErr freshN (rname n) = 0 := hz 3 (by omega)
  unfold wrSteps
  rw [if_neg (fun h => h h0), if_neg (fun h => h h1), if_neg (fun h => h h2), h3]; rfl
theorem below_new {ex : Nat → Prop} {w w' : World} {p m : Nat} {d : ADisk} (h : DiskAt ex w p m d) (hB : Below w.heap.size w w') : DiskAt ex w' p m d ∧ Keep ex w w' := ⟨h.below hB, Keep.ofBelow hB (fun _ hk => h.lt hk)⟩
theorem readR_le (d : ADisk) : (readR d).serial ≤ 9007199254740992 ∧ (readR d).tick ≤ 9007199254740992 ∧ (readR d).commit ≤ 9007199254740992 ∧ (readR d).blob.length ≤ 1048576 := by
  unfold readR
  split
  · exact ⟨Nat.zero_le _, Nat.zero_le _, Nat.zero_le _, Nat.zero_le _⟩
  · exact readK_le d 2

set_option maxRecDepth 100000 in
set_option maxHeartbeats 8000000 in
theorem rWrite_at {ex : Nat → Prop} {w : World} {p m : Nat} {d : ADisk} (s t c : Int) (vb : Value) (b : List UInt8) (h : DiskAt ex w p m d) (ht : isI64 t) (hc : isI64 c) (hv : Rd w vb (bcells b)) (hb : b.length ≤ 140737488355328) :
    Calls Tryz.prog 16 #[.pointer (some ⟨p, 0, none⟩), rootV s t c vb] w (WrPost ex p m d t c vb b w) := by
  obtain ⟨ab, cb, rfl⟩ := hv.shape
  rw [bcells_length] at hv ⊢
  obtain ⟨R, hR⟩ : ∃ R, readR d = R := ⟨_, rfl⟩
  have hRl := readR_le d
  rw [hR] at hRl
  obtain ⟨hR1, hR2, hR3, hR4⟩ := hRl
  obtain ⟨W, hW⟩ : ∃ W, ((w.alloc (.cells #[.pointer (some ⟨p, 0, none⟩)] 36)).alloc (.cells #[.int .i64 s, .int .i64 t, .int .i64 c, .slice ab b.length cb] 24)).alloc (.cells #[.int .i64 0, .int .i64 0, .int .i64 0, .slice none 0 0] 24) = W := ⟨_, rfl⟩
  have hWd : W.heap[w.heap.size]? = some (.cells #[.pointer (some ⟨p, 0, none⟩)] 36 (0, 0)) := by rw [← hW]; exact alloc_old (alloc2_at0 _ _ _) _
  have hWr : W.heap[w.heap.size + 1]? = some (.cells #[.int .i64 s, .int .i64 t, .int .i64 c, .slice ab b.length cb] 24 (0, 0)) := by rw [← hW]; exact alloc_old (alloc2_at _ _ _) _
  have hWz : W.heap[w.heap.size + 1 + 1]? = some (.cells #[.int .i64 0, .int .i64 0, .int .i64 0, .slice none 0 0] 24 (0, 0)) := by
    rw [← hW]
    have := alloc_at ((w.alloc (.cells #[.pointer (some ⟨p, 0, none⟩)] 36)).alloc (.cells #[.int .i64 s, .int .i64 t, .int .i64 c, .slice ab b.length cb] 24)) (.cells #[.int .i64 0, .int .i64 0, .int .i64 0, .slice none 0 0] 24)
    simpa using this
  have hBW : Below w.heap.size w W := by rw [← hW]; exact (((Below.refl _ _).alloc (Nat.le_refl _) _).alloc (by simp) _).alloc (by simp; omega) _
  have hWs : W.heap.size = w.heap.size + 3 := by rw [← hW]; simp
  have hDW := h.below hBW
  have hRead := rRead_any W p m d hDW hDW.wf.most1
  unfold RrPost at hRead
  rw [hR] at hRead
  unfold rootV at hRead
  have HRead := Lib.hid hRead
  have HW := Lib.hid hW
  have HWd := Lib.hid hWd
  have HWr := Lib.hid hWr
  have HWz := Lib.hid hWz
  have HWs := Lib.hid hWs
  have HR := Lib.hid hR
  obtain ⟨d0, _⟩ := cells1 hWd
  clear hRead hW hWr hWz hWs hR hWd
  have hBy : ∀ wX, Below w.heap.size w wX → Calls Tryz.prog 8 #[.agg #[.int .i64 ((R.serial : Int) + 1), .int .i64 t, .int .i64 c, .slice ab b.length cb]] wX (RbPost ((R.serial : Int) + 1) t c b wX) := fun wX hX =>
    rBytes_any wX _ t c _ b (by unfold isI64; omega) ht hc (hv.below hX) hb
  have HBy := Lib.hid hBy
  clear hBy hv
  cases hd : d.down with
  | true =>
    have hall : wrAll d t c b = (d, 15) := by unfold wrAll; rw [if_pos hd]
    have he : readE d = 15 := by unfold readE; rw [if_pos hd]
    have Hall := Lib.hid hall
    have HRd := HRead.out
    rw [he] at HRd
    have HRd2 := Lib.hid HRd
    clear hd hall he HRd
    unfold rootV
    go_enter Tryz.func16, Tryz.ntmps16
    go_wp2_with (go_at_call 18; rw [HW.out]; refine HRd2.out.mono ?_; rintro e w1 ⟨a1, c1, rfl, hrow, hB1⟩; clear hrow; have hlt := blk_lt HWz.out; obtain ⟨q0, q1, q2, q3, f0, f1, f2, f3⟩ := cellsZ ((hB1.block _ hlt).trans HWz.out); have hlt1 := Nat.lt_of_lt_of_le hlt hB1.size)
    have hX := below_new h ((below4 (hBW.trans (hB1.mono hBW.size)) (b := w.heap.size + 1 + 1) (by omega) (.int .i64 0) (.int .i64 0) (.int .i64 0) (.slice none 0 0)).alloc (by simp only [World.size_setCell]; have := hB1.size; omega) (.cells #[.int .i64 R.serial, .int .i64 R.tick, .int .i64 R.commit, .slice a1 R.blob.length c1] 24))
    obtain ⟨y0, y1, y2, y3, _⟩ := cellsZ (alloc_old (setCell4_at ((hB1.block _ (blk_lt HWz.out)).trans HWz.out) (.int .i64 0) (.int .i64 0) (.int .i64 0) (.slice none 0 0)) (.cells #[.int .i64 R.serial, .int .i64 R.tick, .int .i64 R.commit, .slice a1 R.blob.length c1] 24))
    refine bodyPost_ret (v := .tuple #[.agg #[.int .i64 0, .int .i64 0, .int .i64 0, .slice none 0 0], .int .i64 15]) (by simp [results, Tryz.results16, go_sem, y0, y1, y2, y3]) rfl (WrPost.bad 15 Hall.out (by decide) hX.1 hX.2)
  | false =>
    have he : readE d = 0 := by unfold readE; rw [if_neg (by simp [hd])]
    have HRd := HRead.out
    rw [he] at HRd
    have HRd2 := Lib.hid HRd
    obtain ⟨er, her⟩ : ∃ er, rbErr ((R.serial : Int) + 1) t c b.length = er := ⟨_, rfl⟩
    obtain ⟨L, hL⟩ : ∃ L, rbOut ((R.serial : Int) + 1) t c b = L := ⟨_, rfl⟩
    have hcast : (((R.serial + 1 : Nat) : Nat) : Int) = (R.serial : Int) + 1 := rfl
    have hall : wrAll d t c b = if er ≠ 0 then (d, er) else wrSteps d (R.serial + 1) L := by
      unfold wrAll
      rw [if_neg (by simp [hd]), HR.out, hcast, her, hL]
    have HBy2 : ∀ wX, Below w.heap.size w wX → Calls Tryz.prog 8 #[.agg #[.int .i64 ((R.serial : Int) + 1), .int .i64 t, .int .i64 c, .slice ab b.length cb]] wX fun e w' => ∃ a cc, e = .returned (.tuple #[.slice a L.length cc, .int .i64 er]) ∧ w'.ownsRow wX.heap.size 5 1 (.slice a L.length cc) L.length (bcells L) ∧ Below wX.heap.size wX w' := by
      intro wX hX
      have := HBy.out wX hX
      unfold RbPost at this
      rw [her, hL] at this
      exact this
    have hLl : L.length ≤ 1099511627776 := by
      rw [← hL]
      unfold rbOut
      split
      · rename_i h0
        have hok := rb_ok h0
        have := hok.b1
        unfold sealL ARoot.bytes
        have v1 : ∀ n, n ≤ 9007199254740992 → (vint n).length ≤ 10 := fun n hn => vint_len (by omega) (Nat.lt_of_le_of_lt hn (by decide))
        have h1 := v1 _ hok.s1
        have h2 := v1 _ hok.t1
        have h3 := v1 _ hok.c1
        have h4 := v1 (aroot ((R.serial : Int) + 1) t c b).blob.length (by omega)
        simp only [List.length_append, sumL_len, List.length_cons, List.length_nil]
        omega
      · simp
    have HBy3 := Lib.hid HBy2
    have Hall := Lib.hid hall
    clear hd he HRd her hL hcast hall HBy2
    unfold rootV
    by_cases h0 : er = 0
    · subst h0
      have Hall2 := Lib.hid (Hall.out.trans (if_neg (fun h => h rfl)))
      go_enter Tryz.func16, Tryz.ntmps16
      go_wp2_with first
        | (go_at_call 18; rw [HW.out]; refine HRd2.out.mono ?_; rintro e w1 ⟨a1, c1, rfl, hrow, hB1⟩; clear hrow; have hlt := blk_lt HWz.out; have hlt1 := Nat.lt_of_lt_of_le hlt hB1.size; have hltW := HWs.out; have hlt2 : w.heap.size + 1 < w1.heap.size := (by omega); have hlt3 : w.heap.size < w1.heap.size := (by omega); have Hz1 := Lib.hid ((hB1.block _ hlt).trans HWz.out); have Hr1 := Lib.hid ((hB1.block (w.heap.size + 1) (by omega)).trans HWr.out); have Hd1 := Lib.hid ((hB1.block w.heap.size (by omega)).trans HWd.out); obtain ⟨r0, r1, r2, r3, g0, g1, g2, g3⟩ := rootC_at Hr1.out)
        | (go_at_call 8; refine (HBy3.out _ ?_).mono ?_; exact ((hBW.trans (hB1.mono hBW.size)).setCell (p := ⟨w.heap.size + 1, 0, none⟩) (by simp) _).alloc (by simp only [World.size_setCell]; omega) _; rintro e w2 ⟨a2, c2, rfl, hrow2, hB2⟩; have HR2 := Lib.hid hrow2; clear hrow2; obtain ⟨hx0, hx1, hx2⟩ := wr_store Hd1.out Hr1.out Hz1.out (.int .i64 ((R.serial : Int) + 1)) (.cells #[.int .i64 R.serial, .int .i64 R.tick, .int .i64 R.commit, .slice a1 R.blob.length c1] 24); have Hz2 := Lib.hid ((hB2.block _ (blk_lt hx2)).trans hx2); have Hr2 := Lib.hid ((hB2.block _ (blk_lt hx1)).trans hx1); have Hd2 := Lib.hid ((hB2.block _ (blk_lt hx0)).trans hx0); have hBw2 : Below w.heap.size w w2 := (((hBW.trans (hB1.mono hBW.size)).setCell (p := ⟨w.heap.size + 1, 0, none⟩) (by simp) (.int .i64 ((R.serial : Int) + 1))).alloc (by simp only [World.size_setCell]; omega) (.cells #[.int .i64 R.serial, .int .i64 R.tick, .int .i64 R.commit, .slice a1 R.blob.length c1] 24)).trans (hB2.mono (by have := blk_lt hx0; omega)); clear hx0 hx1 hx2; have hm2 := blk_lt Hz2.out; have hm1 := blk_lt Hr2.out; have hm0 := blk_lt Hd2.out; obtain ⟨q0, q1, q2, q3, f0, f1, f2, f3⟩ := cellsZ Hz2.out; obtain ⟨s0, s1, s2, s3, k0, k1, k2, k3⟩ := rootC_at Hr2.out; obtain ⟨t0, _⟩ := cells1 Hd2.out)
      have hBV : Below w.heap.size w ((w2.alloc (.cells #[.slice a2 L.length c2] 22)).alloc (.cells #[.func (.func 50) #[] #[.pointer (some ⟨w.heap.size, 0, none⟩)], .func (.func 51) #[] #[.pointer (some ⟨w.heap.size, 0, none⟩), .pointer (some ⟨w2.heap.size, 0, none⟩)], .func (.func 52) #[] #[.pointer (some ⟨w.heap.size, 0, none⟩)], .func (.func 54) #[] #[.pointer (some ⟨w.heap.size, 0, none⟩), .pointer (some ⟨w.heap.size + 1, 0, none⟩)]] 87)) := (hBw2.alloc (by omega) _).alloc (by simp; omega) _
      have hb0 := alloc2_at0 w2 (.cells #[.slice a2 L.length c2] 22) (.cells #[.func (.func 50) #[] #[.pointer (some ⟨w.heap.size, 0, none⟩)], .func (.func 51) #[] #[.pointer (some ⟨w.heap.size, 0, none⟩), .pointer (some ⟨w2.heap.size, 0, none⟩)], .func (.func 52) #[] #[.pointer (some ⟨w.heap.size, 0, none⟩)], .func (.func 54) #[] #[.pointer (some ⟨w.heap.size, 0, none⟩), .pointer (some ⟨w.heap.size + 1, 0, none⟩)]] 87)
      have hb1 := alloc2_at w2 (.cells #[.slice a2 L.length c2] 22) (.cells #[.func (.func 50) #[] #[.pointer (some ⟨w.heap.size, 0, none⟩)], .func (.func 51) #[] #[.pointer (some ⟨w.heap.size, 0, none⟩), .pointer (some ⟨w2.heap.size, 0, none⟩)], .func (.func 52) #[] #[.pointer (some ⟨w.heap.size, 0, none⟩)], .func (.func 54) #[] #[.pointer (some ⟨w.heap.size, 0, none⟩), .pointer (some ⟨w.heap.size + 1, 0, none⟩)]] 87)
      have hUV : Upd noFp w2 ((w2.alloc (.cells #[.slice a2 L.length c2] 22)).alloc (.cells #[.func (.func 50) #[] #[.pointer (some ⟨w.heap.size, 0, none⟩)], .func (.func 51) #[] #[.pointer (some ⟨w.heap.size, 0, none⟩), .pointer (some ⟨w2.heap.size, 0, none⟩)], .func (.func 52) #[] #[.pointer (some ⟨w.heap.size, 0, none⟩)], .func (.func 54) #[] #[.pointer (some ⟨w.heap.size, 0, none⟩), .pointer (some ⟨w.heap.size + 1, 0, none⟩)]] 87)) := ((Upd.refl _ _).alloc _).alloc _
      generalize hVe : (w2.alloc (.cells #[.slice a2 L.length c2] 22)).alloc (.cells #[.func (.func 50) #[] #[.pointer (some ⟨w.heap.size, 0, none⟩)], .func (.func 51) #[] #[.pointer (some ⟨w.heap.size, 0, none⟩), .pointer (some ⟨w2.heap.size, 0, none⟩)], .func (.func 52) #[] #[.pointer (some ⟨w.heap.size, 0, none⟩)], .func (.func 54) #[] #[.pointer (some ⟨w.heap.size, 0, none⟩), .pointer (some ⟨w.heap.size + 1, 0, none⟩)]] 87) = V at hBV hb0 hb1 hUV ⊢
      clear hVe
      have hzV := hUV.keep Hz2.out (fun h => h)
      have hrV := hUV.keep Hr2.out (fun h => h)
      have hdV := hUV.keep Hd2.out (fun h => h)
      have hrdV := (Rd.ofOwns HR2.out).keep hUV (fun _ _ h => h)
      have hgl : ∀ g, (Value.slice a2 L.length c2).ownBlock = some g → w.heap.size ≤ g ∧ g < V.heap.size := fun g hg => by
        have h1 := row_from HR2.out hg
        have h2 := row_lt HR2.out hg
        have h3 := hUV.size
        simp only [World.size_alloc, World.size_setCell] at h1
        omega
      obtain ⟨ex', hex'⟩ : ∃ ex' : Nat → Prop, ex' = fun k => ex k ∨ (w.heap.size ≤ k ∧ k < V.heap.size) := ⟨_, rfl⟩
      have hexx : ∀ k, ex k → ex' k := fun k hk => by rw [hex']; exact Or.inl hk
      have hexn : ∀ k, w.heap.size ≤ k → k < V.heap.size → ex' k := fun k h1 h2 => by rw [hex']; exact Or.inr ⟨h1, h2⟩
      have hDV : DiskAt ex' V p m d := h.more hBV (fun k hk => by rw [hex'] at hk; exact hk)
      have hKV : Keep ex w V := Keep.ofBelow hBV (fun k hk => h.lt hk)
      have hxz : ex' (w.heap.size + 1 + 1) := hexn _ (by omega) (blk_lt hzV)
      have hxr : ex' (w.heap.size + 1) := hexn _ (by omega) (blk_lt hrV)
      have hxd : ex' w.heap.size := hexn _ (by omega) (blk_lt hdV)
      have hxb : ex' w2.heap.size := hexn _ (by omega) (blk_lt hb0)
      have hxf : ex' (w2.heap.size + 1) := hexn _ (by omega) (blk_lt hb1)
      have hxg : ∀ g, (Value.slice a2 L.length c2).ownBlock = some g → ex' g := fun g hg => hexn g (hgl g hg).1 (hgl g hg).2
      have HzV := Lib.hid hzV
      have HrV := Lib.hid hrV
      have HdV := Lib.hid hdV
      have HrdV := Lib.hid hrdV
      have Hb0 := Lib.hid hb0
      have Hb1 := Lib.hid hb1
      have Hexx := Lib.hid hexx
      have Hxz := Lib.hid hxz
      have Hxr := Lib.hid hxr
      have Hxd := Lib.hid hxd
      have Hxb := Lib.hid hxb
      have Hxf := Lib.hid hxf
      have Hxg := Lib.hid hxg
      clear hzV hrV hdV hrdV hb0 hb1 hgl hex' hexx hexn hxz hxr hxd hxb hxf hxg q0 q1 q2 q3 f0 f1 f2 f3 s0 s1 s2 s3 k0 k1 k2 k3 t0 r0 r1 r2 r3 g0 g1 g2 g3 hUV
      go_loopw [11, 12, 42] (fun _ _ i wr => ∃ (j : Nat) (kk : Int), j ≤ 4 ∧ kk = j ∧ i = .int .i64 kk ∧ DiskAt ex' wr p m (stepD d (R.serial + 1) L j) ∧ Keep ex' V wr ∧ ∀ i, i < j → stepE d (R.serial + 1) L i = 0) (fun _ _ i _ => 4 - (intOf i).toNat)
      case atStart => exact ⟨0, 0, by omega, rfl, rfl, hDV, Keep.refl _ _, fun i hi => absurd hi (Nat.not_lt_zero i)⟩
      case round =>
      obtain ⟨j, kk, hj, hkk, rfl, hDr, hKr, hzs⟩ := hrel
      have Hzs := Lib.hid hzs
      have hfr := (hKr.block _ Hxf.out).trans Hb1.out
      have hl0 := cell_at hfr 0
      have hl1 := cell_at hfr 1
      have hl2 := cell_at hfr 2
      have hl3 := cell_at hfr 3
      have hzr := (hKr.block _ Hxz.out).trans HzV.out
      have hrr := (hKr.block _ Hxr.out).trans HrV.out
      have Hzr := Lib.hid hzr
      have Hrr := Lib.hid hrr
      obtain ⟨cd, _⟩ := cells1 ((hKr.block _ Hxd.out).trans HdV.out)
      obtain ⟨cb', _⟩ := cells1 ((hKr.block _ Hxb.out).trans Hb0.out)
      obtain ⟨cr, _⟩ := rootC_at hrr
      have hrdr := hKr.rd HrdV.out Hxg.out
      have Hrdr := Lib.hid hrdr
      have Hcd := Lib.hid cd
      have Hcb := Lib.hid cb'
      have Hcr := Lib.hid cr
      clear hzs hfr hzr hrr hrdr cd cb' cr
      have hj5 : j = 0 ∨ j = 1 ∨ j = 2 ∨ j = 3 ∨ j = 4 := by omega
      rcases hj5 with rfl | rfl | rfl | rfl | rfl
      · obtain rfl : kk = 0 := by omega
        clear hkk
        by_cases hz0 : stepE d (R.serial + 1) L 0 = 0
        · have hst := rWrite1_at w.heap.size hDr Hcd.out
          change Calls _ _ _ _ (fun e w' => e = .returned (.int .i64 (stepE d (R.serial + 1) L 0)) ∧ DiskAt ex' w' p m (stepD d (R.serial + 1) L 1) ∧ Keep ex' wr w') at hst
          rw [hz0] at hst
          have Hst := Lib.hid hst
          have Hz0 := Lib.hid hz0
          clear hst hz0
          go_wp2_with (go_at_call 50; refine Hst.out.mono ?_; rintro e w3 ⟨rfl, hD3, hK3⟩)
          go_roundw
          case rel => exact ⟨1, 1, by omega, rfl, rfl, hD3, hKr.trans hK3, fun i hi => (Nat.lt_succ_iff_lt_or_eq.1 hi).elim (fun h => Hzs.out i h) (fun h => h ▸ Hz0.out)⟩
          case measure => simp [intOf]
        · have hst := rWrite1_at w.heap.size hDr Hcd.out
          change Calls _ _ _ _ (fun e w' => e = .returned (.int .i64 (stepE d (R.serial + 1) L 0)) ∧ DiskAt ex' w' p m (stepD d (R.serial + 1) L 1) ∧ Keep ex' wr w') at hst
          have hbad := steps_bad (by omega) Hzs.out hz0
          have hall3 := Hall2.out.trans hbad
          obtain ⟨se, hse⟩ : ∃ se, stepE d (R.serial + 1) L 0 = se := ⟨_, rfl⟩
          rw [hse] at hst hall3 hz0
          have hz0b : (se != 0) = true := by simpa using hz0
          have Hst := Lib.hid hst
          have Hall3 := Lib.hid hall3
          have Hz0 := Lib.hid hz0
          clear hst hz0 hbad hall3 hse
          go_wp2_with (go_at_call 50; refine Hst.out.mono ?_; rintro e w3 ⟨rfl, hD3, hK3⟩; obtain ⟨q0, q1, q2, q3, f0, f1, f2, f3⟩ := cellsZ ((hK3.block _ Hxz.out).trans Hzr.out))
          refine bodyPost_ret (v := .tuple #[.agg #[.int .i64 0, .int .i64 0, .int .i64 0, .slice none 0 0], .int .i64 se]) (by simp [results, Tryz.results16, go_sem, q0, q1, q2, q3]) rfl (WrPost.bad se Hall3.out Hz0.out ((disk4 hD3 Hxz.out _ _ _ _).mono (fun k hk => Hexx.out k hk)) (keep4 (hKV.trans ((hKr.trans hK3).mono (fun k hk => Hexx.out k hk))) (fun hk => by have := h.lt hk; omega) _ _ _ _))
      · obtain rfl : kk = 1 := by omega
        clear hkk
        by_cases hz0 : stepE d (R.serial + 1) L 1 = 0
        · have hst := rWrite2_at w.heap.size w2.heap.size _ L hDr Hcd.out Hcb.out Hrdr.out (by omega)
          change Calls _ _ _ _ (fun e w' => e = .returned (.int .i64 (stepE d (R.serial + 1) L 1)) ∧ DiskAt ex' w' p m (stepD d (R.serial + 1) L 2) ∧ Keep ex' wr w') at hst
          rw [hz0] at hst
          have Hst := Lib.hid hst
          have Hz0 := Lib.hid hz0
          clear hst hz0
          go_wp2_with (go_at_call 51; refine Hst.out.mono ?_; rintro e w3 ⟨rfl, hD3, hK3⟩)
          go_roundw
          case rel => exact ⟨2, 2, by omega, rfl, rfl, hD3, hKr.trans hK3, fun i hi => (Nat.lt_succ_iff_lt_or_eq.1 hi).elim (fun h => Hzs.out i h) (fun h => h ▸ Hz0.out)⟩
          case measure => simp [intOf]
        · have hst := rWrite2_at w.heap.size w2.heap.size _ L hDr Hcd.out Hcb.out Hrdr.out (by omega)
          change Calls _ _ _ _ (fun e w' => e = .returned (.int .i64 (stepE d (R.serial + 1) L 1)) ∧ DiskAt ex' w' p m (stepD d (R.serial + 1) L 2) ∧ Keep ex' wr w') at hst
          have hbad := steps_bad (by omega) Hzs.out hz0
          have hall3 := Hall2.out.trans hbad
          obtain ⟨se, hse⟩ : ∃ se, stepE d (R.serial + 1) L 1 = se := ⟨_, rfl⟩
          rw [hse] at hst hall3 hz0
          have hz0b : (se != 0) = true := by simpa using hz0
          have Hst := Lib.hid hst
          have Hall3 := Lib.hid hall3
          have Hz0 := Lib.hid hz0
          clear hst hz0 hbad hall3 hse
          go_wp2_with (go_at_call 51; refine Hst.out.mono ?_; rintro e w3 ⟨rfl, hD3, hK3⟩; obtain ⟨q0, q1, q2, q3, f0, f1, f2, f3⟩ := cellsZ ((hK3.block _ Hxz.out).trans Hzr.out))
          refine bodyPost_ret (v := .tuple #[.agg #[.int .i64 0, .int .i64 0, .int .i64 0, .slice none 0 0], .int .i64 se]) (by simp [results, Tryz.results16, go_sem, q0, q1, q2, q3]) rfl (WrPost.bad se Hall3.out Hz0.out ((disk4 hD3 Hxz.out _ _ _ _).mono (fun k hk => Hexx.out k hk)) (keep4 (hKV.trans ((hKr.trans hK3).mono (fun k hk => Hexx.out k hk))) (fun hk => by have := h.lt hk; omega) _ _ _ _))
      · obtain rfl : kk = 2 := by omega
        clear hkk
        by_cases hz0 : stepE d (R.serial + 1) L 2 = 0
        · have hst := rWrite3_at w.heap.size hDr Hcd.out
          change Calls _ _ _ _ (fun e w' => e = .returned (.int .i64 (stepE d (R.serial + 1) L 2)) ∧ DiskAt ex' w' p m (stepD d (R.serial + 1) L 3) ∧ Keep ex' wr w') at hst
          rw [hz0] at hst
          have Hst := Lib.hid hst
          have Hz0 := Lib.hid hz0
          clear hst hz0
          go_wp2_with (go_at_call 52; refine Hst.out.mono ?_; rintro e w3 ⟨rfl, hD3, hK3⟩)
          go_roundw
          case rel => exact ⟨3, 3, by omega, rfl, rfl, hD3, hKr.trans hK3, fun i hi => (Nat.lt_succ_iff_lt_or_eq.1 hi).elim (fun h => Hzs.out i h) (fun h => h ▸ Hz0.out)⟩
          case measure => simp [intOf]
        · have hst := rWrite3_at w.heap.size hDr Hcd.out
          change Calls _ _ _ _ (fun e w' => e = .returned (.int .i64 (stepE d (R.serial + 1) L 2)) ∧ DiskAt ex' w' p m (stepD d (R.serial + 1) L 3) ∧ Keep ex' wr w') at hst
          have hbad := steps_bad (by omega) Hzs.out hz0
          have hall3 := Hall2.out.trans hbad
          obtain ⟨se, hse⟩ : ∃ se, stepE d (R.serial + 1) L 2 = se := ⟨_, rfl⟩
          rw [hse] at hst hall3 hz0
          have hz0b : (se != 0) = true := by simpa using hz0
          have Hst := Lib.hid hst
          have Hall3 := Lib.hid hall3
          have Hz0 := Lib.hid hz0
          clear hst hz0 hbad hall3 hse
          go_wp2_with (go_at_call 52; refine Hst.out.mono ?_; rintro e w3 ⟨rfl, hD3, hK3⟩; obtain ⟨q0, q1, q2, q3, f0, f1, f2, f3⟩ := cellsZ ((hK3.block _ Hxz.out).trans Hzr.out))
          refine bodyPost_ret (v := .tuple #[.agg #[.int .i64 0, .int .i64 0, .int .i64 0, .slice none 0 0], .int .i64 se]) (by simp [results, Tryz.results16, go_sem, q0, q1, q2, q3]) rfl (WrPost.bad se Hall3.out Hz0.out ((disk4 hD3 Hxz.out _ _ _ _).mono (fun k hk => Hexx.out k hk)) (keep4 (hKV.trans ((hKr.trans hK3).mono (fun k hk => Hexx.out k hk))) (fun hk => by have := h.lt hk; omega) _ _ _ _))
      · obtain rfl : kk = 3 := by omega
        clear hkk
        by_cases hz0 : stepE d (R.serial + 1) L 3 = 0
        · have hst := rWrite4_at w.heap.size (w.heap.size + 1) (R.serial + 1) hDr Hcd.out Hcr.out (by omega) Hxd.out Hxr.out
          change Calls _ _ _ _ (fun e w' => e = .returned (.int .i64 (stepE d (R.serial + 1) L 3)) ∧ DiskAt ex' w' p m (stepD d (R.serial + 1) L 4) ∧ Keep ex' wr w') at hst
          rw [hz0] at hst
          have Hst := Lib.hid hst
          have Hz0 := Lib.hid hz0
          clear hst hz0
          go_wp2_with (go_at_call 54; refine Hst.out.mono ?_; rintro e w3 ⟨rfl, hD3, hK3⟩)
          go_roundw
          case rel => exact ⟨4, 4, by omega, rfl, rfl, hD3, hKr.trans hK3, fun i hi => (Nat.lt_succ_iff_lt_or_eq.1 hi).elim (fun h => Hzs.out i h) (fun h => h ▸ Hz0.out)⟩
          case measure => simp [intOf]
        · have hst := rWrite4_at w.heap.size (w.heap.size + 1) (R.serial + 1) hDr Hcd.out Hcr.out (by omega) Hxd.out Hxr.out
          change Calls _ _ _ _ (fun e w' => e = .returned (.int .i64 (stepE d (R.serial + 1) L 3)) ∧ DiskAt ex' w' p m (stepD d (R.serial + 1) L 4) ∧ Keep ex' wr w') at hst
          have hbad := steps_bad (by omega) Hzs.out hz0
          have hall3 := Hall2.out.trans hbad
          obtain ⟨se, hse⟩ : ∃ se, stepE d (R.serial + 1) L 3 = se := ⟨_, rfl⟩
          rw [hse] at hst hall3 hz0
          have hz0b : (se != 0) = true := by simpa using hz0
          have Hst := Lib.hid hst
          have Hall3 := Lib.hid hall3
          have Hz0 := Lib.hid hz0
          clear hst hz0 hbad hall3 hse
          go_wp2_with (go_at_call 54; refine Hst.out.mono ?_; rintro e w3 ⟨rfl, hD3, hK3⟩; obtain ⟨q0, q1, q2, q3, f0, f1, f2, f3⟩ := cellsZ ((hK3.block _ Hxz.out).trans Hzr.out))
          refine bodyPost_ret (v := .tuple #[.agg #[.int .i64 0, .int .i64 0, .int .i64 0, .slice none 0 0], .int .i64 se]) (by simp [results, Tryz.results16, go_sem, q0, q1, q2, q3]) rfl (WrPost.bad se Hall3.out Hz0.out ((disk4 hD3 Hxz.out _ _ _ _).mono (fun k hk => Hexx.out k hk)) (keep4 (hKV.trans ((hKr.trans hK3).mono (fun k hk => Hexx.out k hk))) (fun hk => by have := h.lt hk; omega) _ _ _ _))
      · obtain rfl : kk = 4 := by omega
        clear hkk
        have hall3 := Hall2.out.trans (steps_good Hzs.out)
        have Hall3 := Lib.hid hall3
        clear hall3
        obtain ⟨q0, q1, q2, q3, f0, f1, f2, f3⟩ := cellsZ Hzr.out
        obtain ⟨r0, r1, r2, r3, g0, g1, g2, g3⟩ := rootC_at Hrr.out
        go_wp2
        refine bodyPost_ret (v := .tuple #[.agg #[.int .i64 ((R.serial : Int) + 1), .int .i64 t, .int .i64 c, .slice ab b.length cb], .int .i64 0]) (by simp [results, Tryz.results16, go_sem, q0, q1, q2, q3]) rfl ⟨?_, ?_, ?_⟩
        · rw [Hall3.out, HR.out, if_pos rfl]; rfl
        · rw [Hall3.out]; exact (disk4 hDr Hxz.out _ _ _ _).mono (fun k hk => Hexx.out k hk)
        · exact keep4 (hKV.trans (hKr.mono (fun k hk => Hexx.out k hk))) (fun hk => by have := h.lt hk; omega) _ _ _ _
    · have h0b : (er != 0) = true := by simpa using h0
      have Hall2 := Lib.hid (Hall.out.trans (if_pos h0))
      have H0 := Lib.hid h0
      clear h0
      go_enter Tryz.func16, Tryz.ntmps16
      go_wp2_with first
        | (go_at_call 18; rw [HW.out]; refine HRd2.out.mono ?_; rintro e w1 ⟨a1, c1, rfl, hrow, hB1⟩; clear hrow; have hlt := blk_lt HWz.out; have hlt1 := Nat.lt_of_lt_of_le hlt hB1.size; have hltW := HWs.out; have hlt2 : w.heap.size + 1 < w1.heap.size := (by omega); have hlt3 : w.heap.size < w1.heap.size := (by omega); have Hz1 := Lib.hid ((hB1.block _ hlt).trans HWz.out); have Hr1 := Lib.hid ((hB1.block (w.heap.size + 1) (by omega)).trans HWr.out); have Hd1 := Lib.hid ((hB1.block w.heap.size (by omega)).trans HWd.out); obtain ⟨r0, r1, r2, r3, g0, g1, g2, g3⟩ := rootC_at Hr1.out)
        | (go_at_call 8; refine (HBy3.out _ ?_).mono ?_; exact ((hBW.trans (hB1.mono hBW.size)).setCell (p := ⟨w.heap.size + 1, 0, none⟩) (by simp) _).alloc (by simp only [World.size_setCell]; omega) _; rintro e w2 ⟨a2, c2, rfl, hrow2, hB2⟩; have HR2 := Lib.hid hrow2; clear hrow2; obtain ⟨hx0, hx1, hx2⟩ := wr_store Hd1.out Hr1.out Hz1.out (.int .i64 ((R.serial : Int) + 1)) (.cells #[.int .i64 R.serial, .int .i64 R.tick, .int .i64 R.commit, .slice a1 R.blob.length c1] 24); have Hz2 := Lib.hid ((hB2.block _ (blk_lt hx2)).trans hx2); have Hr2 := Lib.hid ((hB2.block _ (blk_lt hx1)).trans hx1); have Hd2 := Lib.hid ((hB2.block _ (blk_lt hx0)).trans hx0); have hBw2 : Below w.heap.size w w2 := (((hBW.trans (hB1.mono hBW.size)).setCell (p := ⟨w.heap.size + 1, 0, none⟩) (by simp) (.int .i64 ((R.serial : Int) + 1))).alloc (by simp only [World.size_setCell]; omega) (.cells #[.int .i64 R.serial, .int .i64 R.tick, .int .i64 R.commit, .slice a1 R.blob.length c1] 24)).trans (hB2.mono (by have := blk_lt hx0; omega)); clear hx0 hx1 hx2; have hm2 := blk_lt Hz2.out; have hm1 := blk_lt Hr2.out; have hm0 := blk_lt Hd2.out; obtain ⟨q0, q1, q2, q3, f0, f1, f2, f3⟩ := cellsZ Hz2.out; obtain ⟨s0, s1, s2, s3, k0, k1, k2, k3⟩ := rootC_at Hr2.out; obtain ⟨t0, _⟩ := cells1 Hd2.out)
      have hX := below_new h ((below4 hBw2 (b := w.heap.size + 1 + 1) (by omega) (.int .i64 0) (.int .i64 0) (.int .i64 0) (.slice none 0 0)).alloc (by simp only [World.size_setCell]; omega) (.cells #[.slice a2 L.length c2] 22))
      obtain ⟨y0, y1, y2, y3, _⟩ := cellsZ (alloc_old (setCell4_at Hz2.out (.int .i64 0) (.int .i64 0) (.int .i64 0) (.slice none 0 0)) (.cells #[.slice a2 L.length c2] 22))
      refine bodyPost_ret (v := .tuple #[.agg #[.int .i64 0, .int .i64 0, .int .i64 0, .slice none 0 0], .int .i64 er]) (by simp [results, Tryz.results16, go_sem, y0, y1, y2, y3]) rfl (WrPost.bad er Hall2.out H0.out hX.1 hX.2)
end Go.Proofs.YtnagejhpdhdpfaaGreatDoor
