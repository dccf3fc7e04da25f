/-
  Package roots: the walk of Read.
-/
import Derived.Outline
import Derived.Test.YtnagejhpdhdpfaaGreatDoorRt3
namespace Go.Proofs.YtnagejhpdhdpfaaGreatDoor
open Go.RowKit Go.Maps Go.MapKept

/-- the root that a file holds for its turn. -/
def cand (d : ADisk) (k : Nat) : ARoot := if findErr d (rname k) = 0 ∧ parseE (d.readBytes (rname k)) = 0 ∧ (parseR (d.readBytes (rname k))).serial % 2 = k then parseR (d.readBytes (rname k)) else root0
def readK (d : ADisk) : Nat → ARoot
  | 0 => root0
  | k + 1 => if (readK d k).serial < (cand d k).serial then cand d k else readK d k
/-- the root that counts. -/
def readR (d : ADisk) : ARoot := if d.down then root0 else readK d 2
def readE (d : ADisk) : Int := if d.down then 15 else 0
def RrPost (d : ADisk) (w : World) (e : Ending) (w' : World) : Prop :=
  ∃ a c, e = .returned (.tuple #[rootV (readR d).serial (readR d).tick (readR d).commit (.slice a (readR d).blob.length c), .bool (decide (0 < (readR d).serial)), .int .i64 (readE d)]) ∧
    w'.ownsRow w.heap.size 5 1 (.slice a (readR d).blob.length c) (readR d).blob.length (bcells (readR d).blob) ∧ Below w.heap.size w w'
theorem RrPost.bad {d : ADisk} {w w' : World} (h : d.down = true) (hB : Below w.heap.size w w') : RrPost d w (.returned (.tuple #[.agg #[.int .i64 0, .int .i64 0, .int .i64 0, .slice none 0 0], .bool false, .int .i64 15])) w' := by
  have hr : readR d = root0 := by unfold readR; rw [if_pos h]
  have he : readE d = 15 := by unfold readE; rw [if_pos h]
  refine ⟨none, 0, ?_, ?_, hB⟩
  · rw [hr, he]; rfl
  · rw [hr]; exact World.ownsRow_nil _ _ _ _
theorem parse_good (l : List UInt8) (h : parseE l = 0) : (parseR l).Ok := by
  obtain ⟨er, b, hun⟩ : ∃ er b, unsealL sumL l = (er, b) := ⟨_, _, rfl⟩
  have hp := parse_un hun
  unfold parseE at h
  unfold parseR
  by_cases h0 : er = 0
  · rw [if_pos h0] at hp
    cases hr : pRoot b with
    | none => rw [hr] at hp; rw [hp] at h; exact absurd h (by decide)
    | some r => rw [hr] at hp; rw [hp]; exact (pRoot_ok hr).1
  · rw [if_neg h0] at hp
    rw [hp] at h
    exact absurd h h0
theorem parse_le (l : List UInt8) : (parseR l).serial ≤ 9007199254740992 ∧ (parseR l).tick ≤ 9007199254740992 ∧ (parseR l).commit ≤ 9007199254740992 ∧ (parseR l).blob.length ≤ 1048576 := by
  unfold parseR
  cases hp : parseL sumL l with
  | mk e o =>
    cases o with
    | some r => obtain ⟨_, ⟨_, h1, h2, h3, h4⟩, _⟩ := parse_ok hp; exact ⟨h1, h2, h3, h4⟩
    | none => exact ⟨Nat.zero_le _, Nat.zero_le _, Nat.zero_le _, Nat.zero_le _⟩
theorem cand_le (d : ADisk) (k : Nat) : (cand d k).serial ≤ 9007199254740992 ∧ (cand d k).tick ≤ 9007199254740992 ∧ (cand d k).commit ≤ 9007199254740992 ∧ (cand d k).blob.length ≤ 1048576 := by
  unfold cand
  split
  · exact parse_le _
  · exact ⟨Nat.zero_le _, Nat.zero_le _, Nat.zero_le _, Nat.zero_le _⟩
theorem readK_le (d : ADisk) (k : Nat) : (readK d k).serial ≤ 9007199254740992 ∧ (readK d k).tick ≤ 9007199254740992 ∧ (readK d k).commit ≤ 9007199254740992 ∧ (readK d k).blob.length ≤ 1048576 := by
  induction k with
  | zero => exact ⟨Nat.zero_le _, Nat.zero_le _, Nat.zero_le _, Nat.zero_le _⟩
  | succ k ih =>
    unfold readK
    split
    · exact cand_le d k
    · exact ih
theorem rootC_at {w : World} {b : Nat} {s t c : Int} {vb : Value} {T : TypeId} (h : w.heap[b]? = some (.cells #[.int .i64 s, .int .i64 t, .int .i64 c, vb] T (0, 0))) :
    w.cell? ⟨b, 0, none⟩ = some (.int .i64 s) ∧ w.cell? ⟨b, 1, none⟩ = some (.int .i64 t) ∧ w.cell? ⟨b, 2, none⟩ = some (.int .i64 c) ∧ w.cell? ⟨b, 3, none⟩ = some vb ∧
      w.frozen? ⟨b, 0, none⟩ = false ∧ w.frozen? ⟨b, 1, none⟩ = false ∧ w.frozen? ⟨b, 2, none⟩ = false ∧ w.frozen? ⟨b, 3, none⟩ = false := cells4 h
theorem setCell4_at {w : World} {b : Nat} {x y z u : Value} {T : TypeId} {fr : Nat × Nat} (h : w.heap[b]? = some (.cells #[x, y, z, u] T fr)) (x' y' z' u' : Value) :
    ((((w.setCell ⟨b, 0, none⟩ x').setCell ⟨b, 1, none⟩ y').setCell ⟨b, 2, none⟩ z').setCell ⟨b, 3, none⟩ u').heap[b]? = some (.cells #[x', y', z', u'] T fr) := by
  rw [setCell_at (setCell_at (setCell_at (setCell_at h 0 x') 1 y') 2 z') 3 u']; rfl
theorem rname_size (k : Nat) : (rname k).size ≤ maxLen := by unfold rname; split <;> decide

theorem parse_at {w : World} {base : Nat} {a : Option Addr} {c : Nat} {l : List UInt8} (h : w.ownsRow base 5 1 (.slice a l.length c) l.length (bcells l)) (hl : l.length ≤ 16777216) :
    Calls Tryz.prog 10 #[.slice a l.length c] w fun e w' => ∃ a c, e = .returned (.tuple #[.agg #[.int .i64 (parseR l).serial, .int .i64 (parseR l).tick, .int .i64 (parseR l).commit, .slice a (parseR l).blob.length c], .int .i64 (parseE l)]) ∧
      w'.ownsRow w.heap.size 5 1 (.slice a (parseR l).blob.length c) (parseR l).blob.length (bcells (parseR l).blob) ∧ Below w.heap.size w w' := by
  obtain ⟨_, _, hv1, hnc1, hcm1, _⟩ := row_slice (ownsRow_base0 h)
  cases hv1
  exact rParse_any w _ l (Rd.ofOwns h) ⟨_, _, _, rfl, hnc1, hcm1⟩ (by omega)
set_option maxRecDepth 100000 in
set_option maxHeartbeats 8000000 in
theorem rRead_any {ex : Nat → Prop} (w : World) (p m : Nat) (d : ADisk) (h : DiskAt ex w p m d) (hmost : d.most ≤ 16777216) :
    Calls Tryz.prog 18 #[.pointer (some ⟨p, 0, none⟩)] w (RrPost d w) := by
  have hwf := h.wf
  have hlen : ∀ s, (d.readBytes s).length ≤ 16777216 := by
    intro s
    unfold ADisk.readBytes
    split
    · have h1 := afile_le hwf s
      have h2 := hwf.used
      unfold AFile.len at h1
      rw [List.length_append]; omega
    · simp
  obtain ⟨V, hV⟩ : ∃ V, (w.alloc (.cells #[.int .i64 0, .int .i64 0, .int .i64 0, .slice none 0 0] 24)).alloc (.cells #[.int .i64 0, .int .i64 0, .int .i64 0, .slice none 0 0] 24) = V := ⟨_, rfl⟩
  have hz0 : V.heap[w.heap.size]? = some (.cells #[.int .i64 0, .int .i64 0, .int .i64 0, .slice none 0 0] 24 (0, 0)) := by rw [← hV]; exact alloc2_at0 _ _ _
  have hz1 : V.heap[w.heap.size + 1]? = some (.cells #[.int .i64 0, .int .i64 0, .int .i64 0, .slice none 0 0] 24 (0, 0)) := by rw [← hV]; exact alloc2_at _ _ _
  have hBV : Below w.heap.size w V := by rw [← hV]; exact ((Below.refl _ _).alloc (Nat.le_refl _) _).alloc (by simp) _
  have hVs : V.heap.size = w.heap.size + 2 := by rw [← hV]; simp
  have Hz0 := Lib.hid hz0
  have Hz1 := Lib.hid hz1
  have HV := Lib.hid hV
  have Hlen := Lib.hid hlen
  have HVs := Lib.hid hVs
  clear hz0 hz1 hV hlen hVs hwf
  go_enter Tryz.func18, Tryz.ntmps18
  go_wp2
  rw [HV.out]
  go_loopw [11] (fun i wr => ∃ (k : Nat) (R : ARoot) (a' : Option Addr) (c' : Nat), k ≤ 2 ∧ i = .int .i64 k ∧ R = readK d k ∧ (d.down = true → k = 0) ∧ wr.heap[w.heap.size + 1]? = some (.cells #[.int .i64 R.serial, .int .i64 R.tick, .int .i64 R.commit, .slice a' R.blob.length c'] 24 (0, 0)) ∧
    wr.ownsRow V.heap.size 5 1 (.slice a' R.blob.length c') R.blob.length (bcells R.blob) ∧ Upd (· = w.heap.size + 1) V wr) (fun i _ => 2 - (intOf i).toNat)
  case atStart => exact ⟨0, root0, none, 0, by omega, rfl, rfl, fun _ => rfl, Hz1.out, World.ownsRow_nil _ _ _ _, Upd.refl _ _⟩
  case round =>
    obtain ⟨k, R, a', c', hk, rfl, hR, hdn, hb5, hrow, hUr⟩ := hrel
    have hRl := readK_le d k
    rw [← hR] at hRl
    obtain ⟨hR1, hR2, hR3, hR4⟩ := hRl
    have hz0r := hUr.keep Hz0.out (by omega)
    have hBr : Below w.heap.size w wr := hBV.trans (hUr.below (fun k hk => by omega) hBV.size)
    have hDr := h.below hBr
    obtain ⟨q0, q1, q2, q3, f0, f1, f2, f3⟩ := cellsZ hz0r
    obtain ⟨b0, b1, b2, b3, g0, g1, g2, g3⟩ := rootC_at hb5
    have Hz0r := Lib.hid hz0r
    have Hb5 := Lib.hid hb5
    have Hrow := Lib.hid hrow
    have HR := Lib.hid hR
    have Hdn := Lib.hid hdn
    clear hz0r hb5 hrow hR hdn
    by_cases hk2 : k = 2
    · have hk2' : ¬ (k : Int) < 2 := by omega
      have hdf : d.down = false := by
        cases hd : d.down with
        | false => rfl
        | true => exact absurd (Hdn.out hd) (by omega)
      have hfin : readR d = R := by unfold readR; rw [if_neg (by simp [hdf]), HR.out, hk2]
      have hfin2 : readE d = 0 := by unfold readE; rw [if_neg (by simp [hdf])]
      have Hfin := Lib.hid hfin
      have Hfin2 := Lib.hid hfin2
      clear hfin hfin2 hdf hk2
      go_wp2
      go_region
      all_goals go_wp2
      all_goals
        refine bodyPost_ret (v := .tuple #[.agg #[.int .i64 R.serial, .int .i64 R.tick, .int .i64 R.commit, .slice a' R.blob.length c'], .bool (decide (0 < R.serial)), .int .i64 0]) (by simp [results, Tryz.results18, go_sem, q0, q1, q2, q3]) rfl ⟨a', c', by rw [Hfin.out, Hfin2.out]; rfl, ?_, ?_⟩
        · rw [Hfin.out]
          have hU4 := (setCell4_upd (w := wr) (b := w.heap.size) (.int .i64 R.serial) (.int .i64 R.tick) (.int .i64 R.commit) (.slice a' R.blob.length c')).drew
          exact hU4.row (ownsRow_from Hrow.out (fun g hg => Nat.le_trans hBV.size (row_from Hrow.out hg))) (fun g hg e => by have := row_from Hrow.out hg; have := HVs.out; omega)
        · exact ((((hBr.setCell (Nat.le_refl _) _).setCell (Nat.le_refl _) _).setCell (Nat.le_refl _) _).setCell (Nat.le_refl _) _).drew
    · have hk2' : (k : Int) < 2 := by omega
      have hs := rname_size k
      obtain ⟨fe, hfe⟩ : ∃ fe, findErr d (rname k) = fe := ⟨_, rfl⟩
      have hRd := Read_at (rname k) hDr hs
      obtain ⟨B, hB⟩ : ∃ B, d.readBytes (rname k) = B := ⟨_, rfl⟩
      have hBl := Hlen.out (rname k)
      rw [hfe, hB] at hRd
      rw [hB] at hBl
      have HRd := Lib.hid hRd
      have hnm := rName_any wr k (by omega)
      have Hnm := Lib.hid hnm
      clear hRd hs hnm
      cases hd : d.down with
      | true =>
        obtain rfl : fe = 15 := by rw [← hfe]; unfold findErr; rw [if_pos hd]
        have Hd := Lib.hid hd
        clear hd hfe hB
        go_wp2_with first
          | (go_at_call 56; refine Hnm.out.mono ?_; rintro e w1 ⟨rfl, rfl⟩)
          | (go_at_call 59; refine HRd.out.mono ?_; rintro e w2 ⟨a2, c2, rfl, hR2, hB2⟩; clear hR2; obtain ⟨q0, q1, q2, q3, f0, f1, f2, f3⟩ := cellsZ ((hB2.block w.heap.size (blk_lt Hz0r.out)).trans Hz0r.out))
        refine bodyPost_ret (v := .tuple #[.agg #[.int .i64 0, .int .i64 0, .int .i64 0, .slice none 0 0], .bool false, .int .i64 15]) (by simp [results, Tryz.results18, go_sem, q0, q1, q2, q3]) rfl (RrPost.bad Hd.out ?_)
        exact ((((hBr.trans (hB2.mono hBr.size)).setCell (Nat.le_refl _) _).setCell (Nat.le_refl _) _).setCell (Nat.le_refl _) _).setCell (Nat.le_refl _) _
      | false =>
        have Hd := Lib.hid hd
        by_cases h13 : (lk d.fs (rname k)).isNone = true
        · obtain rfl : fe = 13 := by rw [← hfe]; unfold findErr; rw [if_neg (by simp [hd]), if_pos h13]
          have hca : cand d k = root0 := by unfold cand; rw [if_neg]; rintro ⟨h0, _⟩; rw [hfe] at h0; exact absurd h0 (by decide)
          have hnx : R = readK d (k + 1) := by
            show R = if (readK d k).serial < (cand d k).serial then cand d k else readK d k
            rw [hca, if_neg (show ¬ _ < root0.serial from Nat.not_lt_zero _)]; exact HR.out
          have HNX := Lib.hid hnx
          clear hd hfe hB h13 hca hnx
          go_wp2_with first
            | (go_at_call 56; refine Hnm.out.mono ?_; rintro e w1 ⟨rfl, rfl⟩)
            | (go_at_call 59; refine HRd.out.mono ?_; rintro e w2 ⟨a2, c2, rfl, hR2, hB2⟩; have HR2 := Lib.hid hR2; clear hR2; have Hz2 := Lib.hid ((hB2.block w.heap.size (blk_lt Hz0r.out)).trans Hz0r.out); have H52 := Lib.hid ((hB2.block (w.heap.size + 1) (blk_lt Hb5.out)).trans Hb5.out); obtain ⟨q0, q1, q2, q3, f0, f1, f2, f3⟩ := cellsZ Hz2.out; obtain ⟨b0, b1, b2, b3, g0, g1, g2, g3⟩ := rootC_at H52.out)
          go_roundw
          case rel => exact ⟨k + 1, R, a', c', by omega, by go_num, HNX.out, (fun h => by first | (cases h; done) | (rw [Hd.out] at h; cases h)), H52.out, (Upd.ofBelow (fp := noFp) hB2).row Hrow.out (fun _ _ h => h), hUr.thenBelow hB2 hUr.size⟩
          case measure => simp [intOf]; omega
        · obtain rfl : fe = 0 := by rw [← hfe]; unfold findErr; rw [if_neg (by simp [hd]), if_neg h13]
          obtain ⟨P, hP⟩ : ∃ P, parseR B = P := ⟨_, rfl⟩
          obtain ⟨pe, hpe⟩ : ∃ pe, parseE B = pe := ⟨_, rfl⟩
          have hPl := parse_le B
          rw [hP] at hPl
          obtain ⟨hP1, hP2, hP3, hP4⟩ := hPl
          have hca : cand d k = if pe = 0 ∧ P.serial % 2 = k then P else root0 := by
            unfold cand
            rw [hfe, hB, hP, hpe]
            simp
          have hstay : ¬ (pe = 0 ∧ P.serial % 2 = k ∧ R.serial < P.serial) → R = readK d (k + 1) := by
            intro hno
            show R = if (readK d k).serial < (cand d k).serial then cand d k else readK d k
            rw [hca, ← HR.out]
            split
            · rename_i hc; rw [if_neg (fun hl => hno ⟨hc.1, hc.2, hl⟩)]
            · rw [if_neg (show ¬ _ < root0.serial from Nat.not_lt_zero _)]
          have hmove : pe = 0 ∧ P.serial % 2 = k ∧ R.serial < P.serial → P = readK d (k + 1) := by
            rintro ⟨h1, h2, h3⟩
            show P = if (readK d k).serial < (cand d k).serial then cand d k else readK d k
            have hc : cand d k = P := by rw [hca, if_pos ⟨h1, h2⟩]
            rw [hc, ← HR.out, if_pos h3]
          have Hpr := Lib.hid hP
          have Hpe := Lib.hid hpe
          have Hstay := Lib.hid hstay
          have Hmove := Lib.hid hmove
          clear hd hfe hB h13 hca hP hpe hstay hmove
          by_cases hp0 : pe = 0
          · subst hp0
            by_cases h2 : P.serial % 2 = k
            · have h2b : ((P.serial : Int) % 2 == (k : Int)) = true := by simp only [beq_iff_eq]; omega
              by_cases h3 : R.serial < P.serial
              · have HNX := Lib.hid (Hmove.out ⟨rfl, h2, h3⟩)
                have h3b : (R.serial : Int) < (P.serial : Int) := by omega
                clear h2 h3
                go_wp2_with first
                  | (go_at_call 56; refine Hnm.out.mono ?_; rintro e w1 ⟨rfl, rfl⟩)
                  | (go_at_call 59; refine HRd.out.mono ?_; rintro e w2 ⟨a2, c2, rfl, hR2, hB2⟩; have HR2 := Lib.hid hR2; clear hR2; have Hz2 := Lib.hid ((hB2.block w.heap.size (blk_lt Hz0r.out)).trans Hz0r.out); have H52 := Lib.hid ((hB2.block (w.heap.size + 1) (blk_lt Hb5.out)).trans Hb5.out); obtain ⟨q0, q1, q2, q3, f0, f1, f2, f3⟩ := cellsZ Hz2.out; obtain ⟨b0, b1, b2, b3, g0, g1, g2, g3⟩ := rootC_at H52.out)
                  | (go_at_call 10; refine (parse_at HR2.out hBl).mono ?_; rw [Hpr.out, Hpe.out]; rintro e w3 ⟨a3, c3, rfl, hR3, hB3⟩; have HR3 := Lib.hid hR3; clear hR3; have Hz3 := Lib.hid ((hB3.block w.heap.size (blk_lt Hz2.out)).trans Hz2.out); have H53 := Lib.hid ((hB3.block (w.heap.size + 1) (blk_lt H52.out)).trans H52.out); obtain ⟨q0, q1, q2, q3, f0, f1, f2, f3⟩ := cellsZ Hz3.out; obtain ⟨b0, b1, b2, b3, g0, g1, g2, g3⟩ := rootC_at H53.out; have hlt3 := blk_lt H53.out)
                go_roundw
                case rel =>
                  have hU3 : Upd (· = w.heap.size + 1) V w3 := (hUr.thenBelow hB2 hUr.size).thenBelow hB3 (Nat.le_trans hUr.size hB2.size)
                  have hU4 := (setCell4_upd (w := w3) (b := w.heap.size + 1) (.int .i64 P.serial) (.int .i64 P.tick) (.int .i64 P.commit) (.slice a3 P.blob.length c3)).alloc (.cells #[.int .i64 P.serial, .int .i64 P.tick, .int .i64 P.commit, .slice a3 P.blob.length c3] 24)
                  have hh := alloc_old (setCell4_at H53.out (.int .i64 P.serial) (.int .i64 P.tick) (.int .i64 P.commit) (.slice a3 P.blob.length c3)) (.cells #[.int .i64 P.serial, .int .i64 P.tick, .int .i64 P.commit, .slice a3 P.blob.length c3] 24)
                  refine ⟨k + 1, P, a3, c3, by omega, by go_num, HNX.out, (fun h => by first | (cases h; done) | (rw [Hd.out] at h; cases h)), hh, ?_, hU3.trans hU4 (fun k hk => Or.inl hk)⟩
                  refine hU4.row (ownsRow_from HR3.out (fun g hg => ?_)) (fun g hg e => ?_)
                  · have := row_from HR3.out hg; have := hB2.size; have := hUr.size; omega
                  · have := row_from HR3.out hg; have := hB2.size; have := hUr.size; have := HVs.out; omega
                case measure => simp [intOf]; omega
              · have HNX := Lib.hid (Hstay.out (fun h => h3 h.2.2))
                have h3b : ¬ (R.serial : Int) < (P.serial : Int) := by omega
                clear h2 h3
                go_wp2_with first
                  | (go_at_call 56; refine Hnm.out.mono ?_; rintro e w1 ⟨rfl, rfl⟩)
                  | (go_at_call 59; refine HRd.out.mono ?_; rintro e w2 ⟨a2, c2, rfl, hR2, hB2⟩; have HR2 := Lib.hid hR2; clear hR2; have Hz2 := Lib.hid ((hB2.block w.heap.size (blk_lt Hz0r.out)).trans Hz0r.out); have H52 := Lib.hid ((hB2.block (w.heap.size + 1) (blk_lt Hb5.out)).trans Hb5.out); obtain ⟨q0, q1, q2, q3, f0, f1, f2, f3⟩ := cellsZ Hz2.out; obtain ⟨b0, b1, b2, b3, g0, g1, g2, g3⟩ := rootC_at H52.out)
                  | (go_at_call 10; refine (parse_at HR2.out hBl).mono ?_; rw [Hpr.out, Hpe.out]; rintro e w3 ⟨a3, c3, rfl, hR3, hB3⟩; have HR3 := Lib.hid hR3; clear hR3; have Hz3 := Lib.hid ((hB3.block w.heap.size (blk_lt Hz2.out)).trans Hz2.out); have H53 := Lib.hid ((hB3.block (w.heap.size + 1) (blk_lt H52.out)).trans H52.out); obtain ⟨q0, q1, q2, q3, f0, f1, f2, f3⟩ := cellsZ Hz3.out; obtain ⟨b0, b1, b2, b3, g0, g1, g2, g3⟩ := rootC_at H53.out; have hlt3 := blk_lt H53.out)
                go_roundw
                case rel =>
                  have hU3 : Upd (· = w.heap.size + 1) V (w3.alloc (.cells #[.int .i64 P.serial, .int .i64 P.tick, .int .i64 P.commit, .slice a3 P.blob.length c3] 24)) := ((hUr.thenBelow hB2 hUr.size).thenBelow hB3 (Nat.le_trans hUr.size hB2.size)).alloc _
                  have hB23 : Below wr.heap.size wr (w3.alloc (.cells #[.int .i64 P.serial, .int .i64 P.tick, .int .i64 P.commit, .slice a3 P.blob.length c3] 24)) := (hB2.trans (hB3.mono hB2.size)).alloc (Nat.le_trans hB2.size hB3.size) _
                  exact ⟨k + 1, R, a', c', by omega, by go_num, HNX.out, (fun h => by first | (cases h; done) | (rw [Hd.out] at h; cases h)), alloc_old H53.out _, (Upd.ofBelow (fp := noFp) hB23).row Hrow.out (fun _ _ h => h), hU3⟩
                case measure => simp [intOf]; omega
            · have h2b : ((P.serial : Int) % 2 == (k : Int)) = false := by simp only [beq_eq_false_iff_ne, ne_eq]; omega
              have HNX := Lib.hid (Hstay.out (fun h => h2 h.2.1))
              clear h2
              go_wp2_with first
                | (go_at_call 56; refine Hnm.out.mono ?_; rintro e w1 ⟨rfl, rfl⟩)
                | (go_at_call 59; refine HRd.out.mono ?_; rintro e w2 ⟨a2, c2, rfl, hR2, hB2⟩; have HR2 := Lib.hid hR2; clear hR2; have Hz2 := Lib.hid ((hB2.block w.heap.size (blk_lt Hz0r.out)).trans Hz0r.out); have H52 := Lib.hid ((hB2.block (w.heap.size + 1) (blk_lt Hb5.out)).trans Hb5.out); obtain ⟨q0, q1, q2, q3, f0, f1, f2, f3⟩ := cellsZ Hz2.out; obtain ⟨b0, b1, b2, b3, g0, g1, g2, g3⟩ := rootC_at H52.out)
                | (go_at_call 10; refine (parse_at HR2.out hBl).mono ?_; rw [Hpr.out, Hpe.out]; rintro e w3 ⟨a3, c3, rfl, hR3, hB3⟩; have HR3 := Lib.hid hR3; clear hR3; have Hz3 := Lib.hid ((hB3.block w.heap.size (blk_lt Hz2.out)).trans Hz2.out); have H53 := Lib.hid ((hB3.block (w.heap.size + 1) (blk_lt H52.out)).trans H52.out); obtain ⟨q0, q1, q2, q3, f0, f1, f2, f3⟩ := cellsZ Hz3.out; obtain ⟨b0, b1, b2, b3, g0, g1, g2, g3⟩ := rootC_at H53.out; have hlt3 := blk_lt H53.out)
              go_roundw
              case rel =>
                have hU3 : Upd (· = w.heap.size + 1) V (w3.alloc (.cells #[.int .i64 P.serial, .int .i64 P.tick, .int .i64 P.commit, .slice a3 P.blob.length c3] 24)) := ((hUr.thenBelow hB2 hUr.size).thenBelow hB3 (Nat.le_trans hUr.size hB2.size)).alloc _
                have hB23 : Below wr.heap.size wr (w3.alloc (.cells #[.int .i64 P.serial, .int .i64 P.tick, .int .i64 P.commit, .slice a3 P.blob.length c3] 24)) := (hB2.trans (hB3.mono hB2.size)).alloc (Nat.le_trans hB2.size hB3.size) _
                exact ⟨k + 1, R, a', c', by omega, by go_num, HNX.out, (fun h => by first | (cases h; done) | (rw [Hd.out] at h; cases h)), alloc_old H53.out _, (Upd.ofBelow (fp := noFp) hB23).row Hrow.out (fun _ _ h => h), hU3⟩
              case measure => simp [intOf]; omega
          · have hp0b : (pe == 0) = false := by simpa using hp0
            have HNX := Lib.hid (Hstay.out (fun h => hp0 h.1))
            clear hp0
            go_wp2_with first
              | (go_at_call 56; refine Hnm.out.mono ?_; rintro e w1 ⟨rfl, rfl⟩)
              | (go_at_call 59; refine HRd.out.mono ?_; rintro e w2 ⟨a2, c2, rfl, hR2, hB2⟩; have HR2 := Lib.hid hR2; clear hR2; have Hz2 := Lib.hid ((hB2.block w.heap.size (blk_lt Hz0r.out)).trans Hz0r.out); have H52 := Lib.hid ((hB2.block (w.heap.size + 1) (blk_lt Hb5.out)).trans Hb5.out); obtain ⟨q0, q1, q2, q3, f0, f1, f2, f3⟩ := cellsZ Hz2.out; obtain ⟨b0, b1, b2, b3, g0, g1, g2, g3⟩ := rootC_at H52.out)
              | (go_at_call 10; refine (parse_at HR2.out hBl).mono ?_; rw [Hpr.out, Hpe.out]; rintro e w3 ⟨a3, c3, rfl, hR3, hB3⟩; have HR3 := Lib.hid hR3; clear hR3; have Hz3 := Lib.hid ((hB3.block w.heap.size (blk_lt Hz2.out)).trans Hz2.out); have H53 := Lib.hid ((hB3.block (w.heap.size + 1) (blk_lt H52.out)).trans H52.out); obtain ⟨q0, q1, q2, q3, f0, f1, f2, f3⟩ := cellsZ Hz3.out; obtain ⟨b0, b1, b2, b3, g0, g1, g2, g3⟩ := rootC_at H53.out; have hlt3 := blk_lt H53.out)
            go_roundw
            case rel =>
              have hU3 : Upd (· = w.heap.size + 1) V (w3.alloc (.cells #[.int .i64 P.serial, .int .i64 P.tick, .int .i64 P.commit, .slice a3 P.blob.length c3] 24)) := ((hUr.thenBelow hB2 hUr.size).thenBelow hB3 (Nat.le_trans hUr.size hB2.size)).alloc _
              have hB23 : Below wr.heap.size wr (w3.alloc (.cells #[.int .i64 P.serial, .int .i64 P.tick, .int .i64 P.commit, .slice a3 P.blob.length c3] 24)) := (hB2.trans (hB3.mono hB2.size)).alloc (Nat.le_trans hB2.size hB3.size) _
              exact ⟨k + 1, R, a', c', by omega, by go_num, HNX.out, (fun h => by first | (cases h; done) | (rw [Hd.out] at h; cases h)), alloc_old H53.out _, (Upd.ofBelow (fp := noFp) hB23).row Hrow.out (fun _ _ h => h), hU3⟩
            case measure => simp [intOf]; omega
end Go.Proofs.YtnagejhpdhdpfaaGreatDoor
