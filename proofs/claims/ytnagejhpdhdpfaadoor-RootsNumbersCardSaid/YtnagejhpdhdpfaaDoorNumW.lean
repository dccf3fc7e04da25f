/-
  RootsNumbers: the walk.
-/
import Derived.Outline
import Derived.Test.YtnagejhpdhdpfaaDoorNum1
namespace Go.Proofs.YtnagejhpdhdpfaaDoor
open Go.RowKit Go.Maps Go.MapKept

theorem make_n (n : Nat) (hn : n ≤ 140737488355328) : ∃ C : Array Value, (∀ w : World, (Instr.makeSlice 22 (.int .i64 n) (.int .i64 n)).run Tryd.prog w = .ok (.slice (some ⟨w.heap.size, 0, none⟩) n n) (w.alloc (.cells C 5))) ∧
    ∀ w : World, Rd (w.alloc (.cells C 5)) (.slice (some ⟨w.heap.size, 0, none⟩) n n) (bcells (List.replicate n 0)) := by
  refine ⟨Array.replicate n (Value.int .u8 0), fun w => make_u8 n n (Nat.le_refl _) (by omega) w, fun w => ?_⟩
  refine Rd_new _ _ _ _ _ _ _ ?_ (by simp [bcells])
  simp [bcells]
theorem make_lit (n : Nat) (z : Int) (hz : (n : Int) = z) (hn : n ≤ 140737488355328) : ∃ C : Array Value, (∀ w : World, (Instr.makeSlice 22 (.int .i64 z) (.int .i64 z)).run Tryd.prog w = .ok (.slice (some ⟨w.heap.size, 0, none⟩) n n) (w.alloc (.cells C 5))) ∧
    ∀ w : World, Rd (w.alloc (.cells C 5)) (.slice (some ⟨w.heap.size, 0, none⟩) n n) (bcells (List.replicate n 0)) := by
  subst hz; exact make_n n hn
/-- the two great blobs. -/
theorem make_most : ∃ (C C2 : Array Value) (Z Z2 : List UInt8), Z.length = 1048576 ∧ Z2.length = 1048577 ∧ Z2.take 1048576 = Z ∧
    (∀ w : World, (Instr.makeSlice 22 (.int .i64 1048576) (.int .i64 1048576)).run Tryd.prog w = .ok (.slice (some ⟨w.heap.size, 0, none⟩) 1048576 1048576) (w.alloc (.cells C 5))) ∧
    (∀ w : World, Rd (w.alloc (.cells C 5)) (.slice (some ⟨w.heap.size, 0, none⟩) 1048576 1048576) (bcells Z)) ∧
    (∀ w : World, (Instr.makeSlice 22 (.int .i64 1048577) (.int .i64 1048577)).run Tryd.prog w = .ok (.slice (some ⟨w.heap.size, 0, none⟩) 1048577 1048577) (w.alloc (.cells C2 5))) ∧
    ∀ w : World, Rd (w.alloc (.cells C2 5)) (.slice (some ⟨w.heap.size, 0, none⟩) 1048577 1048577) (bcells Z2) := by
  obtain ⟨n, hn⟩ : ∃ n : Nat, n = 1048576 := ⟨_, rfl⟩
  obtain ⟨m, hm⟩ : ∃ m : Nat, m = 1048577 := ⟨_, rfl⟩
  obtain ⟨C, h1, h2⟩ := make_lit n 1048576 (by omega) (by omega)
  obtain ⟨C2, h3, h4⟩ := make_lit m 1048577 (by omega) (by omega)
  obtain ⟨Z, hZ⟩ : ∃ Z, List.replicate n (0 : UInt8) = Z := ⟨_, rfl⟩
  obtain ⟨Z2, hZ2⟩ : ∃ Z2, List.replicate m (0 : UInt8) = Z2 := ⟨_, rfl⟩
  have e3 : Z2.take n = Z := by rw [← hZ, ← hZ2, List.take_replicate]; congr 1; omega
  have e1 : Z.length = n := by rw [← hZ, List.length_replicate]
  have e2 : Z2.length = m := by rw [← hZ2, List.length_replicate]
  rw [hZ] at h2
  rw [hZ2] at h4
  rw [hn] at h1 h2 e1 e3
  rw [hm] at h3 h4 e2
  exact ⟨C, C2, Z, Z2, e1, e2, e3, h1, h2, h3, h4⟩
theorem most_err {Z : List UInt8} (h : Z.length = 1048576) : rbErr 9007199254740992 9007199254740992 9007199254740992 Z.length = 0 := by
  unfold rbErr; rw [if_neg (by omega), if_neg (by omega)]
theorem more_err {Z : List UInt8} (h : Z.length = 1048577) : rbErr 9007199254740992 9007199254740992 9007199254740992 Z.length = 3 := by
  unfold rbErr; rw [if_neg (by omega), if_pos (by omega)]
theorem seven_bad : rbErr 0 0 0 0 = 2 ∧ rbErr (-1) 0 0 0 = 2 ∧ rbErr 9007199254740993 0 0 0 = 2 ∧ rbErr 1 (-1) 0 0 = 2 ∧ rbErr 1 9007199254740993 0 0 = 2 ∧ rbErr 1 0 (-1) 0 = 2 ∧ rbErr 1 0 9007199254740993 0 = 2 := by
  unfold rbErr
  refine ⟨?_, ?_, ?_, ?_, ?_, ?_, ?_⟩ <;> rw [if_pos (by omega)]
theorem bad_er {w : World} (s t c : Int) (vb : Value) (b : List UInt8) (er : Int) (hs : isI64 s) (ht : isI64 t) (hc : isI64 c) (hv : Rd w vb (bcells b)) (hb : b.length ≤ 140737488355328) (he : rbErr s t c b.length = er) (h0 : er ≠ 0) :
    Calls Tryd.prog 10 #[.agg #[.int .i64 s, .int .i64 t, .int .i64 c, vb]] w fun e w' => ∃ a cc, e = .returned (.tuple #[.slice a 0 cc, .int .i64 er]) ∧ Below w.heap.size w w' := by
  have h := bytes_at (w := w) s t c vb b [] er hs ht hc hv hb he (by unfold rbOut; rw [if_neg (by rw [he]; exact h0)])
  refine h.mono ?_
  rintro e w' ⟨a, cc, h1, _, h3⟩
  exact ⟨a, cc, h1, h3⟩
theorem bad_at {w : World} (s t c : Int) (hs : isI64 s) (ht : isI64 t) (hc : isI64 c) (he : rbErr s t c 0 = 2) :
    Calls Tryd.prog 10 #[.agg #[.int .i64 s, .int .i64 t, .int .i64 c, .slice none 0 0]] w fun e w' => ∃ a cc, e = .returned (.tuple #[.slice a 0 cc, .int .i64 2]) ∧ Below w.heap.size w w' := by
  have h := bytes_at (w := w) s t c (.slice none 0 0) [] [] 2 hs ht hc (rd_none _ _) (by simp) he (by unfold rbOut; rw [if_neg (by show ¬ rbErr s t c 0 = 0; rw [he]; decide)])
  refine h.mono ?_
  rintro e w' ⟨a, cc, h1, _, h3⟩
  exact ⟨a, cc, h1, h3⟩
def sevenC : Array Value := #[.int .i64 0, .int .i64 0, .int .i64 0, .slice none 0 0, .int .i64 (-1), .int .i64 0, .int .i64 0, .slice none 0 0, .int .i64 9007199254740993, .int .i64 0, .int .i64 0, .slice none 0 0, .int .i64 1, .int .i64 (-1), .int .i64 0, .slice none 0 0,
  .int .i64 1, .int .i64 9007199254740993, .int .i64 0, .slice none 0 0, .int .i64 1, .int .i64 0, .int .i64 (-1), .slice none 0 0, .int .i64 1, .int .i64 0, .int .i64 9007199254740993, .slice none 0 0]
set_option maxRecDepth 100000 in
set_option maxHeartbeats 16000000 in
theorem numbers_law (w : World) : Calls Tryd.prog 6 #[] w fun e w' => e = .returned (.bool true) ∧ Below w.heap.size w w' := by
  have kc := fun (w : World) (C : Array Value) (n c : Nat) => Lib.run_convert_bytes_const (P := Tryd.prog) w 22 5 C n c Tryd.underlying22 Tryd.underlying5
  have kc2 : ∀ (w : World) (o : Obj) (C : Array Value) (n c : Nat), (convert 22 22 (.slice (some ⟨w.heap.size + 1, 0, none⟩) n c)).run Tryd.prog ((w.alloc o).alloc (.cells C 5)) = .ok (.slice (some ⟨w.heap.size + 1, 0, none⟩) n c) ((w.alloc o).alloc (.cells C 5 (C.size, C.size + 1))) := fun w o C n c => by
    have := kc (w.alloc o) C n c
    rw [show (w.alloc o).heap.size = w.heap.size + 1 by simp] at this
    exact this
  obtain ⟨d1, d2, d3, d4, d5, d6, d7, d8, d9, x1, x2, x3, x4, x5, x6, x7, x8, x9, x10, x11, x12, x13, x14, x15, x16, x17, x18, x19, x20⟩ := num_plain
  obtain ⟨n1, n2, n3, n4, n5, n6, n7, n8⟩ := nine_wrong
  have X1 := Lib.hid (And.intro x1 x2)
  have X2 := Lib.hid (And.intro x3 (And.intro x4 x5))
  have X3 := Lib.hid (And.intro x6 (And.intro x7 (And.intro x8 x9)))
  have X4 := Lib.hid (And.intro x10 (And.intro x11 x12))
  have X5 := Lib.hid (And.intro x13 (And.intro x14 (And.intro x15 x16)))
  have X6 := Lib.hid (And.intro x17 (And.intro x18 (And.intro x19 x20)))
  have XN := Lib.hid (And.intro n1 (And.intro n2 (And.intro n3 (And.intro n4 (And.intro n5 (And.intro n6 (And.intro n7 n8)))))))
  clear x1 x2 x3 x4 x5 x6 x7 x8 x9 x10 x11 x12 x13 x14 x15 x16 x17 x18 x19 x20 n1 n2 n3 n4 n5 n6 n7 n8
  obtain ⟨V, hV⟩ : ∃ V, w.alloc (.cells sevenC 24) = V := ⟨_, rfl⟩
  have hVb : V.heap[w.heap.size]? = some (.cells sevenC 24 (0, 0)) := by rw [← hV]; exact alloc_at _ _
  have hBV : Below w.heap.size w V := by rw [← hV]; exact (Below.refl _ _).alloc (Nat.le_refl _) _
  have hVs : w.heap.size < V.heap.size := by rw [← hV]; simp
  unfold sevenC at hV
  have HV := Lib.hid hV
  have HVb := Lib.hid hVb
  clear hV hVb
  obtain ⟨sb0, sb1, sb2, sb3, sb4, sb5, sb6⟩ := seven_bad
  have SB := Lib.hid (And.intro sb0 (And.intro sb1 (And.intro sb2 (And.intro sb3 (And.intro sb4 (And.intro sb5 sb6))))))
  clear sb0 sb1 sb2 sb3 sb4 sb5 sb6
  obtain ⟨C, C2, Z, Z2, zl, zl2, z3, hm1, hr1, hm2, hr2⟩ := make_most
  have HRd1 := Lib.hid hr1
  have HRd2 := Lib.hid hr2
  have Zl := Lib.hid zl
  have Zl2 := Lib.hid zl2
  have Z3 := Lib.hid z3
  clear hr1 hr2 zl zl2 z3
  go_enter Tryd.func6, Tryd.ntmps6
  go_wp2_with fail
  rw [HV.out]
  go_loopw [42] (fun i wr => ∃ k : Nat, k ≤ 7 ∧ i = .int .i64 k ∧ Below V.heap.size V wr) (fun i _ => 7 - (intOf i).toNat)
  case atStart => exact ⟨0, by omega, rfl, Below.refl _ _⟩
  case round =>
    obtain ⟨k, hk, rfl, hB⟩ := hrel
    have hb := (hB.block w.heap.size hVs).trans HVb.out
    have hc : ∀ o, wr.cell? ⟨w.heap.size, o, none⟩ = sevenC[o]? := cell_at hb
    have Hc := Lib.hid hc
    have Hhb := Lib.hid hb
    clear hb hc
    have hk8 : k = 0 ∨ k = 1 ∨ k = 2 ∨ k = 3 ∨ k = 4 ∨ k = 5 ∨ k = 6 ∨ k = 7 := by omega
    rcases hk8 with rfl | rfl | rfl | rfl | rfl | rfl | rfl | rfl
    · have c0 := Hc.out 0
      have c1 := Hc.out 1
      have c2 := Hc.out 2
      have c3 := Hc.out 3
      simp only [sevenC] at c0 c1 c2 c3
      go_wp2_with (go_at_call 10; refine (bad_at 0 0 0 (by unfold isI64; omega) (by unfold isI64; omega) (by unfold isI64; omega) SB.out.1).mono ?_; rintro e w1 ⟨a1, k1, rfl, hB1⟩)
      go_roundw
      case rel => exact ⟨1, by omega, by go_num, (hB.alloc hB.size _).trans (hB1.mono (by simp; have := hB.size; omega))⟩
      case measure => simp [intOf]
    · have c0 := Hc.out 4
      have c1 := Hc.out 5
      have c2 := Hc.out 6
      have c3 := Hc.out 7
      simp only [sevenC] at c0 c1 c2 c3
      go_wp2_with (go_at_call 10; refine (bad_at (-1) 0 0 (by unfold isI64; omega) (by unfold isI64; omega) (by unfold isI64; omega) SB.out.2.1).mono ?_; rintro e w1 ⟨a1, k1, rfl, hB1⟩)
      go_roundw
      case rel => exact ⟨2, by omega, by go_num, (hB.alloc hB.size _).trans (hB1.mono (by simp; have := hB.size; omega))⟩
      case measure => simp [intOf]
    · have c0 := Hc.out 8
      have c1 := Hc.out 9
      have c2 := Hc.out 10
      have c3 := Hc.out 11
      simp only [sevenC] at c0 c1 c2 c3
      go_wp2_with (go_at_call 10; refine (bad_at 9007199254740993 0 0 (by unfold isI64; omega) (by unfold isI64; omega) (by unfold isI64; omega) SB.out.2.2.1).mono ?_; rintro e w1 ⟨a1, k1, rfl, hB1⟩)
      go_roundw
      case rel => exact ⟨3, by omega, by go_num, (hB.alloc hB.size _).trans (hB1.mono (by simp; have := hB.size; omega))⟩
      case measure => simp [intOf]
    · have c0 := Hc.out 12
      have c1 := Hc.out 13
      have c2 := Hc.out 14
      have c3 := Hc.out 15
      simp only [sevenC] at c0 c1 c2 c3
      go_wp2_with (go_at_call 10; refine (bad_at 1 (-1) 0 (by unfold isI64; omega) (by unfold isI64; omega) (by unfold isI64; omega) SB.out.2.2.2.1).mono ?_; rintro e w1 ⟨a1, k1, rfl, hB1⟩)
      go_roundw
      case rel => exact ⟨4, by omega, by go_num, (hB.alloc hB.size _).trans (hB1.mono (by simp; have := hB.size; omega))⟩
      case measure => simp [intOf]
    · have c0 := Hc.out 16
      have c1 := Hc.out 17
      have c2 := Hc.out 18
      have c3 := Hc.out 19
      simp only [sevenC] at c0 c1 c2 c3
      go_wp2_with (go_at_call 10; refine (bad_at 1 9007199254740993 0 (by unfold isI64; omega) (by unfold isI64; omega) (by unfold isI64; omega) SB.out.2.2.2.2.1).mono ?_; rintro e w1 ⟨a1, k1, rfl, hB1⟩)
      go_roundw
      case rel => exact ⟨5, by omega, by go_num, (hB.alloc hB.size _).trans (hB1.mono (by simp; have := hB.size; omega))⟩
      case measure => simp [intOf]
    · have c0 := Hc.out 20
      have c1 := Hc.out 21
      have c2 := Hc.out 22
      have c3 := Hc.out 23
      simp only [sevenC] at c0 c1 c2 c3
      go_wp2_with (go_at_call 10; refine (bad_at 1 0 (-1) (by unfold isI64; omega) (by unfold isI64; omega) (by unfold isI64; omega) SB.out.2.2.2.2.2.1).mono ?_; rintro e w1 ⟨a1, k1, rfl, hB1⟩)
      go_roundw
      case rel => exact ⟨6, by omega, by go_num, (hB.alloc hB.size _).trans (hB1.mono (by simp; have := hB.size; omega))⟩
      case measure => simp [intOf]
    · have c0 := Hc.out 24
      have c1 := Hc.out 25
      have c2 := Hc.out 26
      have c3 := Hc.out 27
      simp only [sevenC] at c0 c1 c2 c3
      go_wp2_with (go_at_call 10; refine (bad_at 1 0 9007199254740993 (by unfold isI64; omega) (by unfold isI64; omega) (by unfold isI64; omega) SB.out.2.2.2.2.2.2).mono ?_; rintro e w1 ⟨a1, k1, rfl, hB1⟩)
      go_roundw
      case rel => exact ⟨7, by omega, by go_num, (hB.alloc hB.size _).trans (hB1.mono (by simp; have := hB.size; omega))⟩
      case measure => simp [intOf]
    · have hBw : Below w.heap.size w wr := hBV.trans (hB.mono hBV.size)
      clear Hc Hhb hB HVb HV SB hBV hVs hk
      obtain ⟨L, hL⟩ : ∃ L, rbOut 9007199254740992 9007199254740992 9007199254740992 Z = L := ⟨_, rfl⟩
      have he := most_err Zl.out
      have hpe : parseE L = 0 := by rw [← hL]; exact (back3 he).1
      obtain ⟨P, hP⟩ : ∃ P, parseR L = P := ⟨_, rfl⟩
      have hsame : sameR P.serial P.tick P.commit P.blob 9007199254740992 9007199254740992 9007199254740992 Z = true := by rw [← hP, ← hL, (back3 he).2]; exact back4 he
      have hLl : L.length ≤ 1099511627776 := by
        rw [← hL, out_ok he]
        have h1 := root_len48 (rb_ok he)
        have h2 : (aroot 9007199254740992 9007199254740992 9007199254740992 Z).blob.length = 1048576 := Zl.out
        omega
      have HL := Lib.hid hL
      have HE := Lib.hid he
      have HPE := Lib.hid hpe
      have HP := Lib.hid hP
      have HSame := Lib.hid hsame
      clear hL he hpe hP hsame
      go_wp2_with fail
      obtain ⟨W, hW⟩ : ∃ W, (wr.alloc (.cells C 5)).alloc (.cells #[.int .i64 9007199254740992, .int .i64 9007199254740992, .int .i64 9007199254740992, .slice (some ⟨wr.heap.size, 0, none⟩) 1048576 1048576] 24) = W := ⟨_, rfl⟩
      have hq : W.heap[wr.heap.size + 1]? = some (.cells #[.int .i64 9007199254740992, .int .i64 9007199254740992, .int .i64 9007199254740992, .slice (some ⟨wr.heap.size, 0, none⟩) 1048576 1048576] 24 (0, 0)) := by rw [← hW]; exact alloc2_at _ _ _
      have hBW : Below w.heap.size w W := by rw [← hW]; exact (hBw.alloc hBw.size _).alloc (by simp; have := hBw.size; omega) _
      have hrd : Rd W (.slice (some ⟨wr.heap.size, 0, none⟩) 1048576 1048576) (bcells Z) := by rw [← hW]; exact (HRd1.out wr).below ((Below.refl _ _).alloc (Nat.le_refl _) _)
      have hqw : w.heap.size ≤ wr.heap.size := hBw.size
      rw [hW]
      clear hW hBw
      generalize hqq : wr.heap.size + 1 = q at hq ⊢
      have hqw2 : w.heap.size ≤ q := by omega
      generalize wr.heap.size = n0 at hrd ⊢
      clear hqq hqw
      have HQ := Lib.hid hq
      clear hq
      refine (bytes_at 9007199254740992 9007199254740992 9007199254740992 (.slice (some ⟨n0, 0, none⟩) 1048576 1048576) Z L 0 (by unfold isI64; omega) (by unfold isI64; omega) (by unfold isI64; omega) hrd (by rw [Zl.out]; omega) HE.out HL.out).mono ?_
      rintro e w1 ⟨a1, k1, rfl, hR1, hB1⟩
      clear hrd
      have HR1 := Lib.hid hR1
      clear hR1
      have HQ1 := Lib.hid ((hB1.block q (blk_lt HQ.out)).trans HQ.out)
      have hW1 := hBW.trans (hB1.mono hBW.size)
      clear HQ hB1 hBW
      go_wp2_with fail
      refine (parse_by (.slice a1 L.length k1) L P 0 (Rd.ofOwns HR1.out) (row_cap HR1.out) hLl HPE.out HP.out).mono ?_
      rintro e w2 ⟨a2, k2, rfl, hR2, hB2⟩
      have HR2 := Lib.hid hR2
      have hq1 := blk_lt HQ1.out
      clear hR2 HR1
      have HQ2 := Lib.hid ((hB2.block q (blk_lt HQ1.out)).trans HQ1.out)
      have hW2 := hW1.trans (hB2.mono hW1.size)
      clear HQ1 hB2 hW1
      obtain ⟨q0, q1, q2, q3, f0, f1, f2, f3⟩ := rootC_at HQ2.out
      have hlt2 := blk_lt HQ2.out
      have hlt3 : q < w2.heap.size + 1 := by omega
      have hlt4 : q < w2.heap.size + 1 + 1 := by omega
      go_wp2_with fail
      obtain ⟨V3, hV3⟩ : ∃ V3, ((w2.setCell ⟨q, 3, none⟩ (.slice (some ⟨w2.heap.size + 1, 0, none⟩) 1048577 1048577)).alloc (.cells #[.int .i64 P.serial, .int .i64 P.tick, .int .i64 P.commit, .slice a2 P.blob.length k2] 24)).alloc (.cells C2 5) = V3 := ⟨_, rfl⟩
      have hU3 : Upd (· = q) w2 V3 := by rw [← hV3]; exact ((setCell_upd 3 _).alloc _).alloc _
      have hq3 : V3.heap[q]? = some (.cells #[.int .i64 9007199254740992, .int .i64 9007199254740992, .int .i64 9007199254740992, .slice (some ⟨w2.heap.size + 1, 0, none⟩) 1048577 1048577] 24 (0, 0)) := by
        rw [← hV3]; exact alloc_old (alloc_old (setCell_at HQ2.out 3 _) _) _
      have hr3 : V3.heap[w2.heap.size]? = some (.cells #[.int .i64 P.serial, .int .i64 P.tick, .int .i64 P.commit, .slice a2 P.blob.length k2] 24 (0, 0)) := by
        rw [← hV3]
        have := alloc2_at0 (w2.setCell ⟨q, 3, none⟩ (.slice (some ⟨w2.heap.size + 1, 0, none⟩) 1048577 1048577)) (.cells #[.int .i64 P.serial, .int .i64 P.tick, .int .i64 P.commit, .slice a2 P.blob.length k2] 24) (.cells C2 5)
        simpa using this
      have hz3 : Rd V3 (.slice (some ⟨w2.heap.size + 1, 0, none⟩) 1048577 1048577) (bcells Z2) := by
        rw [← hV3]
        have := HRd2.out ((w2.setCell ⟨q, 3, none⟩ (.slice (some ⟨w2.heap.size + 1, 0, none⟩) 1048577 1048577)).alloc (.cells #[.int .i64 P.serial, .int .i64 P.tick, .int .i64 P.commit, .slice a2 P.blob.length k2] 24))
        rw [show ((w2.setCell ⟨q, 3, none⟩ (.slice (some ⟨w2.heap.size + 1, 0, none⟩) 1048577 1048577)).alloc (.cells #[.int .i64 P.serial, .int .i64 P.tick, .int .i64 P.commit, .slice a2 P.blob.length k2] 24)).heap.size = w2.heap.size + 1 by simp] at this
        exact this
      have hp3 : Rd V3 (.slice a2 P.blob.length k2) (bcells P.blob) := (Rd.ofOwns HR2.out).keep hU3 (fun g hg e => by have := row_from HR2.out hg; omega)
      have hW3 : Below w.heap.size w V3 := hW2.trans (hU3.below (fun k hk => by omega) hW2.size)
      rw [hV3]
      have hne2 : ∀ g, (Value.slice a2 P.blob.length k2).ownBlock = some g → g ≠ q := fun g hg e => by have := row_from HR2.out hg; omega
      generalize w2.heap.size = rb at hq3 hr3 hz3 hlt2 ⊢
      have hqr : q ≠ rb := by omega
      have hqr2 : q ≠ rb + 1 := by omega
      have Hne : ∀ g, (Value.slice a2 P.blob.length k2).ownBlock = some g → g ≠ q := hne2
      clear hne2
      have HR2 := Lib.hid hp3
      have HQ2 := Lib.hid hq3
      have HB2 := Lib.hid hr3
      have HZ2 := Lib.hid hz3
      clear hV3 hU3 hq3 hr3 hz3 hp3 hW2 q0 q1 q2 q3 f0 f1 f2 f3 hlt2 hlt3 hlt4 hq1
      refine (bad_er 9007199254740992 9007199254740992 9007199254740992 (.slice (some ⟨rb + 1, 0, none⟩) 1048577 1048577) Z2 3 (by unfold isI64; omega) (by unfold isI64; omega) (by unfold isI64; omega) HZ2.out (by rw [Zl2.out]; omega) (more_err Zl2.out) (by decide)).mono ?_
      rintro e w3 ⟨a3, k3, rfl, hB3⟩
      have hW4 := hW3.trans (hB3.mono hW3.size)
      have HR3 := Lib.hid (HR2.out.below hB3)
      have HQ3 := Lib.hid ((hB3.block q (blk_lt HQ2.out)).trans HQ2.out)
      have HB3 := Lib.hid ((hB3.block rb (blk_lt HB2.out)).trans HB2.out)
      have HZ3 := Lib.hid (HZ2.out.below hB3)
      clear HR2 HQ2 HB2 HZ2 hW3 hB3
      go_wp2_with fail
      refine (parse_none (.slice (some ⟨w3.heap.size, 0, none⟩) 3 3) [1, 2, 3] 11 (Rd_new _ _ _ _ (bcells [1, 2, 3]) _ _ rfl rfl) ⟨_, _, _, rfl, Nat.le_refl _, by decide⟩ (by decide) parse_123 (parse_zero (by rw [parse_123]; decide))).mono ?_
      rintro e w4 ⟨a4, k4, rfl, hn4, hB4⟩
      clear hn4
      have hB34 := ((Below.refl _ w3).alloc (Nat.le_refl _) (.cells #[.int .u8 1, .int .u8 2, .int .u8 3] 5)).trans (hB4.mono (by simp))
      have hW5 := hW4.trans (hB34.mono hW4.size)
      have HR4 := Lib.hid (HR3.out.below hB34)
      have HQ4 := Lib.hid ((hB34.block q (blk_lt HQ3.out)).trans HQ3.out)
      have HB4 := Lib.hid ((hB34.block rb (blk_lt HB3.out)).trans HB3.out)
      have HZ4 := Lib.hid (HZ3.out.below hB34)
      clear HR3 HQ3 HB3 HZ3 hW4 hB34 hB4
      go_wp2_with fail
      have hrw : Rd ((w4.alloc (.cells #[.int .i64 0, .int .i64 0, .int .i64 0, .slice a4 0 k4] 24)).alloc (.cells #[.int .u8 119, .int .u8 104, .int .u8 97, .int .u8 116, .int .u8 32, .int .u8 105, .int .u8 115, .int .u8 32, .int .u8 105, .int .u8 116] 5 (10, 11))) (.slice (some ⟨w4.heap.size + 1, 0, none⟩) 10 10) (bcells [119, 104, 97, 116, 32, 105, 115, 32, 105, 116]) := by
        have := Rd_new (w4.alloc (.cells #[.int .i64 0, .int .i64 0, .int .i64 0, .slice a4 0 k4] 24)) #[.int .u8 119, .int .u8 104, .int .u8 97, .int .u8 116, .int .u8 32, .int .u8 105, .int .u8 115, .int .u8 32, .int .u8 105, .int .u8 116] 5 (10, 11) (bcells [119, 104, 97, 116, 32, 105, 115, 32, 105, 116]) 10 10 rfl rfl
        rw [show (w4.alloc (.cells #[.int .i64 0, .int .i64 0, .int .i64 0, .slice a4 0 k4] 24)).heap.size = w4.heap.size + 1 by simp] at this
        exact this
      refine (parse_none (.slice (some ⟨w4.heap.size + 1, 0, none⟩) 10 10) [119, 104, 97, 116, 32, 105, 115, 32, 105, 116] 12 hrw ⟨_, _, _, rfl, Nat.le_refl _, by decide⟩ (by decide) parse_what (parse_zero (by rw [parse_what]; decide))).mono ?_
      rintro e w5 ⟨a5, k5, rfl, hn5, hB5⟩
      clear hn5 hrw
      have hB45 := (((Below.refl _ w4).alloc (Nat.le_refl _) (.cells #[.int .i64 0, .int .i64 0, .int .i64 0, .slice a4 0 k4] 24)).alloc (by simp) (.cells #[.int .u8 119, .int .u8 104, .int .u8 97, .int .u8 116, .int .u8 32, .int .u8 105, .int .u8 115, .int .u8 32, .int .u8 105, .int .u8 116] 5 (10, 11))).trans (hB5.mono (by simp; omega))
      have hW6 := hW5.trans (hB45.mono hW5.size)
      have HR5 := Lib.hid (HR4.out.below hB45)
      have HQ5 := Lib.hid ((hB45.block q (blk_lt HQ4.out)).trans HQ4.out)
      have HB5 := Lib.hid ((hB45.block rb (blk_lt HB4.out)).trans HB4.out)
      have HZ5 := Lib.hid (HZ4.out.below hB45)
      clear HR4 HQ4 HB4 HZ4 hW5 hB45 hB5
      obtain ⟨q0, q1, q2, q3, f0, f1, f2, f3⟩ := rootC_at HQ5.out
      obtain ⟨b0, b1, b2, b3, _⟩ := rootC_at HB5.out
      have hlt2 := blk_lt HQ5.out
      have hlt3 : q < w5.heap.size + 1 := by omega
      have hlt5 := blk_lt HB5.out
      have hlt6 : rb < w5.heap.size + 1 := by omega
      go_wp2_with fail
      have hV6 : Upd (· = q) w5 ((w5.setCell ⟨q, 3, none⟩ (.slice (some ⟨rb + 1, 0, none⟩) 1048576 1048577)).alloc (.cells #[.int .i64 0, .int .i64 0, .int .i64 0, .slice a5 0 k5] 24)) := (setCell_upd 3 _).alloc _
      have hz6 : Rd w5 (.slice (some ⟨rb + 1, 0, none⟩) 1048576 1048577) (bcells Z) := by
        have := rd_prefix HZ5.out 1048576 (by omega)
        rw [← bcells_take, Z3.out] at this
        exact this
      refine (sameR_any _ P.serial P.tick P.commit 9007199254740992 9007199254740992 9007199254740992 (.slice a2 P.blob.length k2) (.slice (some ⟨rb + 1, 0, none⟩) 1048576 1048577) P.blob Z (HR5.out.keep hV6 (fun g hg => Hne g hg)) (hz6.keep hV6 (fun g hg e => by cases hg; exact hqr2 e.symm))).mono ?_
      rw [HSame.out]
      rintro e w6 ⟨rfl, hB6⟩
      have hW7 : Below w.heap.size w w6 := (hW6.trans (hV6.below (fun k hk => by omega) hW6.size)).trans (hB6.mono (by have := hW6.size; have := hV6.size; omega))
      clear hV6 hz6 hB6 hW6 HR5 HQ5 HB5 HZ5 q0 q1 q2 q3 f0 f1 f2 f3 b0 b1 b2 b3 hlt2 hlt3 hlt5 hlt6 Hne hqr hqr2 hqw2 HSame HPE HP HL HE hLl
      go_wp2_with fail
      refine (wrong_any w6 (.slice none 0 0) [] (rd_none _ _) (by decide)).mono ?_
      rw [XN.out.1]
      rintro e w7 ⟨rfl, hB7⟩
      have hW8 := hW7.trans (hB7.mono hW7.size)
      clear hB7 hW7
      go_wp2_with fail
      refine (wrong_any _ (.slice (some ⟨w7.heap.size, 0, none⟩) 8 8) [72, 83, 82, 50, 1, 0, 0, 0] (Rd_new _ _ _ _ (bcells [72, 83, 82, 50, 1, 0, 0, 0]) _ _ rfl rfl) (by decide)).mono ?_
      rw [XN.out.2.1]
      rintro e w8 ⟨rfl, hB8⟩
      have hW9 := (hW8.alloc hW8.size (.cells #[.int .u8 72, .int .u8 83, .int .u8 82, .int .u8 50, .int .u8 1, .int .u8 0, .int .u8 0, .int .u8 0] 5)).trans (hB8.mono (by simp; have := hW8.size; omega))
      clear hB8 hW8
      go_wp2_with fail
      refine (wrong_any _ (.slice (some ⟨w8.heap.size, 0, none⟩) 8 8) [72, 83, 82, 49, 0, 0, 0, 0] (Rd_new _ _ _ _ (bcells [72, 83, 82, 49, 0, 0, 0, 0]) _ _ rfl rfl) (by decide)).mono ?_
      rw [XN.out.2.2.1]
      rintro e w9 ⟨rfl, hB9⟩
      have hW10 := (hW9.alloc hW9.size (.cells #[.int .u8 72, .int .u8 83, .int .u8 82, .int .u8 49, .int .u8 0, .int .u8 0, .int .u8 0, .int .u8 0] 5)).trans (hB9.mono (by simp; have := hW9.size; omega))
      clear hB9 hW9
      go_wp2_with fail
      refine (wrong_any _ (.slice (some ⟨w9.heap.size, 0, none⟩) 7 7) [72, 83, 82, 49, 1, 0, 0] (Rd_new _ _ _ _ (bcells [72, 83, 82, 49, 1, 0, 0]) _ _ rfl rfl) (by decide)).mono ?_
      rw [XN.out.2.2.2.1]
      rintro e w10 ⟨rfl, hB10⟩
      have hW11 := (hW10.alloc hW10.size (.cells #[.int .u8 72, .int .u8 83, .int .u8 82, .int .u8 49, .int .u8 1, .int .u8 0, .int .u8 0] 5)).trans (hB10.mono (by simp; have := hW10.size; omega))
      clear hB10 hW10
      go_wp2_with fail
      refine (wrong_any _ (.slice (some ⟨w10.heap.size, 0, none⟩) 9 9) [72, 83, 82, 49, 1, 0, 0, 0, 0] (Rd_new _ _ _ _ (bcells [72, 83, 82, 49, 1, 0, 0, 0, 0]) _ _ rfl rfl) (by decide)).mono ?_
      rw [XN.out.2.2.2.2.1]
      rintro e w11 ⟨rfl, hB11⟩
      have hW12 := (hW11.alloc hW11.size (.cells #[.int .u8 72, .int .u8 83, .int .u8 82, .int .u8 49, .int .u8 1, .int .u8 0, .int .u8 0, .int .u8 0, .int .u8 0] 5)).trans (hB11.mono (by simp; have := hW11.size; omega))
      clear hB11 hW11
      go_wp2_with fail
      refine (wrong_any _ (.slice (some ⟨w11.heap.size, 0, none⟩) 9 9) [72, 83, 82, 49, 129, 0, 0, 0, 0] (Rd_new _ _ _ _ (bcells [72, 83, 82, 49, 129, 0, 0, 0, 0]) _ _ rfl rfl) (by decide)).mono ?_
      rw [XN.out.2.2.2.2.2.1]
      rintro e w12 ⟨rfl, hB12⟩
      have hW13 := (hW12.alloc hW12.size (.cells #[.int .u8 72, .int .u8 83, .int .u8 82, .int .u8 49, .int .u8 129, .int .u8 0, .int .u8 0, .int .u8 0, .int .u8 0] 5)).trans (hB12.mono (by simp; have := hW12.size; omega))
      clear hB12 hW12
      go_wp2_with fail
      refine (wrong_any _ (.slice (some ⟨w12.heap.size, 0, none⟩) 8 8) [72, 83, 82, 49, 1, 0, 0, 1] (Rd_new _ _ _ _ (bcells [72, 83, 82, 49, 1, 0, 0, 1]) _ _ rfl rfl) (by decide)).mono ?_
      rw [XN.out.2.2.2.2.2.2.1]
      rintro e w13 ⟨rfl, hB13⟩
      have hW14 := (hW13.alloc hW13.size (.cells #[.int .u8 72, .int .u8 83, .int .u8 82, .int .u8 49, .int .u8 1, .int .u8 0, .int .u8 0, .int .u8 1] 5)).trans (hB13.mono (by simp; have := hW13.size; omega))
      clear hB13 hW13
      go_wp2_with fail
      refine (wrong_any _ (.slice (some ⟨w13.heap.size, 0, none⟩) 8 8) [72, 83, 82, 49, 1, 0, 0, 0] (Rd_new _ _ _ _ (bcells [72, 83, 82, 49, 1, 0, 0, 0]) _ _ rfl rfl) (by decide)).mono ?_
      rw [XN.out.2.2.2.2.2.2.2]
      rintro e w14 ⟨rfl, hB14⟩
      have hW15 := (hW14.alloc hW14.size (.cells #[.int .u8 72, .int .u8 83, .int .u8 82, .int .u8 49, .int .u8 1, .int .u8 0, .int .u8 0, .int .u8 0] 5)).trans (hB14.mono (by simp; have := hW14.size; omega))
      clear hB14 hW14
      go_wp2_with fail
      obtain ⟨ex, hex⟩ : ∃ ex : Nat → Prop, ex = fun k => k < w.heap.size := ⟨_, rfl⟩
      have Hex := Lib.hid hex
      have hx0 : ∀ k, ex k → k < w14.heap.size := fun k hk => by rw [hex] at hk; exact Nat.lt_of_lt_of_le hk hW15.size
      clear hex
      refine (New_at (ex := ex) 4194304 (by decide) (by decide) hx0).mono ?_
      generalize hp : w14.heap.size + 1 = p
      generalize hm : w14.heap.size = m
      rintro e y0 ⟨rfl, h0, kk0⟩
      clear hp hm hx0
      go_wp2_with fail
      refine (bytes_at 3 4 0 (.slice none 0 0) [] oddL 0 (by unfold isI64; omega) (by unfold isI64; omega) (by unfold isI64; omega) (rd_none _ _) (by decide) rb_three rfl).mono ?_
      rintro e y1 ⟨a1, k1, rfl, hR1, hB1⟩
      have HR1 := Lib.hid hR1
      obtain ⟨h1, kb1⟩ := below_new h0 hB1
      have kk1 := kk0.trans kb1
      clear hR1 hB1 h0 kk0 kb1
      have hol : oddL.length ≤ 140737488355328 := by have := out_len rb_three; unfold oddL; omega
      go_wp2_with fail
      refine (Append_at (rname 0) (.slice a1 oddL.length k1) oddL h1 (by decide) (Rd.ofOwns HR1.out) hol).mono ?_
      rw [X1.out.1]
      rintro e y2 ⟨rfl, h2, k2⟩
      have kk2 := kk1.trans k2
      clear HR1 h1 kk1 k2 hol
      go_wp2_with fail
      refine (Append_at freshN _ rubL (h2.alloc _) (by decide) (Rd_new _ _ _ _ (bcells rubL) _ _ rfl rfl) (by decide)).mono ?_
      rw [X1.out.2]
      rintro e y3 ⟨rfl, h3, k3⟩
      have kk3 := (kk2.trans (Keep.alloc _ _ (fun k hk => h2.lt hk))).trans k3
      clear h2 kk2 k3
      go_wp2_with fail
      refine (reads_yes y3 p m d2 0 0 h3 X2.out.1 X2.out.2.1 X2.out.2.2).mono ?_
      rintro e y4 ⟨rfl, hB4⟩
      obtain ⟨h4, kb4⟩ := below_new h3 hB4
      have kk4 := kk3.trans kb4
      clear h3 kk3 kb4 hB4
      go_wp2_with fail
      refine (writes_yes y4 p m d2 d3 8 1 h4 (by unfold isI64; omega) X3.out.1 (by rw [X2.out.2.1]; rfl) X3.out.2.1 X3.out.2.2.1 X3.out.2.2.2).mono ?_
      rintro e y5 ⟨rfl, h5, k5⟩
      have kk5 := kk4.trans k5
      clear h4 kk4 k5
      go_wp2_with fail
      refine (bytes_at 9007199254740992 0 0 (.slice none 0 0) [] lastL 0 (by unfold isI64; omega) (by unfold isI64; omega) (by unfold isI64; omega) (rd_none _ _) (by decide) rb_last rfl).mono ?_
      rintro e y6 ⟨a6, c6, rfl, hR6, hB6⟩
      have HR6 := Lib.hid hR6
      obtain ⟨_, kb6⟩ := below_new h5 hB6
      have kk6 := kk5.trans kb6
      have hol : lastL.length ≤ 140737488355328 := by have := out_len rb_last; unfold lastL; omega
      have g6 := h5.more (ex' := fun k => ex k ∨ (Value.slice a6 lastL.length c6).ownBlock = some k) hB6 (fun k hk => hk.imp_right (fun e => HR6.out.lt k e))
      clear hR6 hB6 h5 kk5 kb6
      go_wp2_with fail
      refine (Remove_at (rname 0) g6 (by decide)).mono ?_
      rw [X4.out.1]
      rintro e y7 ⟨rfl, g7, k7⟩
      have HR7 := Lib.hid (k7.rd (Rd.ofOwns HR6.out) (fun b hb => Or.inr hb))
      have kk7 := kk6.trans (k7.mono (fun k hk => Or.inl hk))
      clear g6 kk6 HR6 k7
      go_wp2_with fail
      refine (Append_at (rname 0) (.slice a6 lastL.length c6) lastL g7 (by decide) HR7.out hol).mono ?_
      rw [X4.out.2.1]
      rintro e y8 ⟨rfl, g8, k8⟩
      have h8 : DiskAt ex y8 p m d5 := g8.mono (fun k hk => Or.inl hk)
      have kk8 := kk7.trans (k8.mono (fun k hk => Or.inl hk))
      clear g7 g8 kk7 HR7 k8 hol
      go_wp2_with fail
      refine (write_err 0 0 0 (.slice none 0 0) [] 2 h8 (by unfold isI64; omega) (by unfold isI64; omega) (rd_none _ _) (by decide) X4.out.2.2 (by decide)).mono ?_
      rintro e y9 ⟨rfl, h9, k9⟩
      have kk9 := kk8.trans k9
      clear h8 kk8 k9
      go_wp2_with fail
      refine (rWrite_nil _ 0 0 0 none 0 0).mono ?_
      rintro e y10 ⟨rfl, hB10⟩
      have hB10' := ((Below.refl _ y9).alloc (Nat.le_refl _) (.cells #[.int .i64 0, .int .i64 0, .int .i64 0, .slice none 0 0] 24)).trans (hB10.mono (by simp))
      obtain ⟨h10, kb10⟩ := below_new h9 hB10'
      have kk10 := kk9.trans kb10
      clear h9 kk9 kb10 hB10 hB10'
      go_wp2_with fail
      refine (Arm_at 1 (h10.alloc _) (by decide) (by decide)).mono ?_
      rw [X5.out.1]
      rintro e y11 ⟨rfl, h11, k11⟩
      have kk11 := (kk10.trans (Keep.alloc _ _ (fun k hk => h10.lt hk))).trans k11
      clear h10 kk10 k11
      go_wp2_with fail
      refine (Remove_at (rname 0) h11 (by decide)).mono ?_
      rw [X5.out.2.1]
      rintro e y12 ⟨rfl, h12, k12⟩
      have kk12 := kk11.trans k12
      clear h11 kk11 k12
      go_wp2_with fail
      refine (write_err 0 9 0 (.slice none 0 0) [] 15 h12 (by unfold isI64; omega) (by unfold isI64; omega) (rd_none _ _) (by decide) X5.out.2.2.1 (by decide)).mono ?_
      rintro e y13 ⟨rfl, h13, k13⟩
      have kk13 := kk12.trans k13
      clear h12 kk12 k13
      go_wp2_with fail
      obtain ⟨R8, hR8⟩ : ∃ R, readR d8 = R := ⟨_, rfl⟩
      refine (read_by R8 15 (h13.alloc _) hR8 X5.out.2.2.2).mono ?_
      rintro e y14 ⟨a14, c14, rfl, hR14, hB14⟩
      have hB14' := ((Below.refl _ y13).alloc (Nat.le_refl _) (.cells #[.int .i64 0, .int .i64 0, .int .i64 0, .slice none 0 0] 24)).trans (hB14.mono (by simp))
      obtain ⟨h14, kb14⟩ := below_new h13 hB14'
      have kk14 := kk13.trans kb14
      clear h13 kk13 kb14 hB14 hB14' hR14
      go_wp2_with fail
      have h15 := h14.alloc (.cells #[.int .i64 R8.serial, .int .i64 R8.tick, .int .i64 R8.commit, .slice a14 R8.blob.length c14] 24)
      have kk15 := kk14.trans (Keep.alloc _ (.cells #[.int .i64 R8.serial, .int .i64 R8.tick, .int .i64 R8.commit, .slice a14 R8.blob.length c14] 24) (fun k hk => h14.lt hk))
      have hs15 : (y14.alloc (.cells #[.int .i64 R8.serial, .int .i64 R8.tick, .int .i64 R8.commit, .slice a14 R8.blob.length c14] 24)).heap.size = y14.heap.size + 1 := by simp
      generalize y14.alloc (.cells #[.int .i64 R8.serial, .int .i64 R8.tick, .int .i64 R8.commit, .slice a14 R8.blob.length c14] 24) = y15 at h15 kk15 hs15 ⊢
      rw [← hs15]
      clear hs15 h14 kk14
      refine (Crash_at (ex := fun k => ex k ∨ k = y15.heap.size) _ [99, 99, 99] (h15.more ((Below.refl _ _).alloc (Nat.le_refl _) _) (fun k hk => hk.imp_right (fun e => by subst e; simp))) (Rd_new _ _ _ _ (iCells [99, 99, 99]) _ _ rfl rfl) (by decide) (by simp [isI64]) (by intro k hk; cases hk; exact Or.inr rfl)).mono ?_
      rw [X6.out.1]
      rintro e y16 ⟨rfl, g16, k16⟩
      have h16 : DiskAt ex y16 p m d9 := g16.mono (fun k hk => Or.inl hk)
      have kk16 := (kk15.trans (Keep.alloc _ _ (fun k hk => h15.lt hk))).trans (k16.mono (fun k hk => Or.inl hk))
      clear g16 k16 h15 kk15
      go_wp2_with fail
      refine (reads_yes y16 p m d9 1 8 h16 X6.out.2.1 X6.out.2.2.1 X6.out.2.2.2).mono ?_
      rintro e y17 ⟨rfl, hB17⟩
      obtain ⟨h17, kb17⟩ := below_new h16 hB17
      have kk17 := kk16.trans kb17
      clear h16 kk16 kb17 hB17
      go_wp2_with fail
      refine (awake6_any y17).mono ?_
      rintro e y18 ⟨rfl, hB18⟩
      have kk18 := kk17.trans (below_new h17 hB18).2
      go_wp2
      go_ret
      exact ⟨rfl, hW15.trans ((kk18.below (fun k hk => by rw [Hex.out]; exact hk)))⟩
end Go.Proofs.YtnagejhpdhdpfaaDoor
