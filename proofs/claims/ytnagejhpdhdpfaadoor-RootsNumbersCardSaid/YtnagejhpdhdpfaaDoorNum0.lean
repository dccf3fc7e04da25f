/-
  The fixed examples of chapter 06: bytes that are none, the disk of the examples. No program here.
-/
import Derived.Test.YtnagejhpdhdpfaaDoorBack0
namespace Go.Proofs.YtnagejhpdhdpfaaDoor

theorem wrong_bad {b : List UInt8} (h : (pRoot b).isNone = true) : parseE (sealL sumL b) = 10 ∧ parseR (sealL sumL b) = root0 := by
  have h1 := parse_un (unseal_seal (S := sumL) sumL_len b)
  rw [if_pos rfl] at h1
  have h2 : pRoot b = none := by simpa using h
  rw [h2] at h1
  unfold parseE parseR
  rw [h1]
  exact ⟨rfl, rfl⟩
theorem wrong_not {b : List UInt8} (h : (pRoot b).isNone = false) : parseE (sealL sumL b) = 0 := by
  have h1 := parse_un (unseal_seal (S := sumL) sumL_len b)
  rw [if_pos rfl] at h1
  cases h2 : pRoot b with
  | none => rw [h2] at h; simp at h
  | some r =>
    rw [h2] at h1
    unfold parseE
    rw [h1]
theorem nine_wrong : (pRoot []).isNone = true ∧ (pRoot [72, 83, 82, 50, 1, 0, 0, 0]).isNone = true ∧ (pRoot [72, 83, 82, 49, 0, 0, 0, 0]).isNone = true ∧ (pRoot [72, 83, 82, 49, 1, 0, 0]).isNone = true ∧
    (pRoot [72, 83, 82, 49, 1, 0, 0, 0, 0]).isNone = true ∧ (pRoot [72, 83, 82, 49, 129, 0, 0, 0, 0]).isNone = true ∧ (pRoot [72, 83, 82, 49, 1, 0, 0, 1]).isNone = true ∧ (pRoot [72, 83, 82, 49, 1, 0, 0, 0]).isNone = false := by
  decide +kernel
theorem parse_123 : parseE [1, 2, 3] = 11 := by
  unfold parseE
  rw [parse_un (l := [1, 2, 3]) (er := 11) (b := []) (by unfold unsealL; rfl)]
  rfl
theorem parse_what : parseE [119, 104, 97, 116, 32, 105, 115, 32, 105, 116] = 12 := by
  have hs : sumL [119, 104, 97, 116, 32, 105] ≠ [115, 32, 105, 116] := by decide +kernel
  have hu : unsealL sumL [119, 104, 97, 116, 32, 105, 115, 32, 105, 116] = (12, []) := by
    unfold unsealL sealL
    rw [if_neg (by decide)]
    rw [if_neg]
    intro h
    have h2 : ([119, 104, 97, 116, 32, 105] : List UInt8) ++ sumL [119, 104, 97, 116, 32, 105] = [119, 104, 97, 116, 32, 105] ++ [115, 32, 105, 116] := h
    exact hs (List.append_cancel_left h2)
  unfold parseE
  rw [parse_un hu]
  rfl

theorem parse_zero {l : List UInt8} (h : parseE l ≠ 0) : parseR l = root0 := by
  unfold parseE at h
  unfold parseR
  cases hp : parseL sumL l with
  | mk e o =>
    cases o with
    | none => rfl
    | some r => rw [hp] at h; exact absurd (parse_ok hp).1 h
theorem app_fair {d : ADisk} (g : Fair d) (hl : d.left ≠ 0) (s : ByteArray) (hs : s = rname 0 ∨ s = rname 1 ∨ s = freshN) (b : List UInt8) (hn : lk d.fs s = none) (hb : b.length ≤ 200) :
    Fair (d.append s b) ∧ (∀ u, lk (d.append s b).fs u = if u = s then some ⟨[], b⟩ else lk d.fs u) ∧ (d.append s b).left = max (d.left - 1) (-1) ∧ (d.append s b).most = d.most := by
  obtain ⟨r1, r2⟩ := three_room g.three g.sorted
  have hm := g.most
  have hok : okName s = true := by rcases hs with rfl | rfl | rfl; exact rname_ok 0; exact rname_ok 1; exact fresh_ok
  have ha : afile d s = ⟨[], []⟩ := by unfold afile; rw [hn]; rfl
  have e2 : d.append s b = { d.tick with fs := putF d.fs s ⟨[], b⟩ } := by
    unfold ADisk.append ADisk.put
    rw [if_neg (by simp [g.up]), if_neg (by simp [hok]), if_neg (by omega), if_neg (by omega), ha, if_neg hl]
    rfl
  rw [e2]
  have hk : ∀ u, lk (putF d.fs s ⟨[], b⟩) u = if u = s then some ⟨[], b⟩ else lk d.fs u := fun u => lk_putF _ _ _ _
  refine ⟨⟨rfl, ⟨fun u x y z => ?_, fun u f hf => ?_⟩, g.most, sorted_putF g.sorted _ _⟩, hk, rfl, rfl⟩
  · show lk (putF d.fs s ⟨[], b⟩) u = none
    rw [hk, if_neg (fun e => by subst e; rcases hs with h | h | h; exact x h; exact y h; exact z h)]
    exact g.three.none u x y z
  · replace hf : lk (putF d.fs s ⟨[], b⟩) u = some f := hf
    rw [hk] at hf
    split at hf
    · cases hf; simpa [AFile.len] using hb
    · exact g.three.len u f hf
theorem rm_fair {d : ADisk} (g : Fair d) (hl : d.left ≠ 0) (s : ByteArray) (hn : (lk d.fs s).isNone = false) :
    Fair (d.remove s) ∧ (∀ u, lk (d.remove s).fs u = if u = s then none else lk d.fs u) ∧ (d.remove s).left = max (d.left - 1) (-1) ∧ (d.remove s).most = d.most := by
  have e2 : d.remove s = { d.tick with fs := delF d.fs s } := by
    unfold ADisk.remove
    rw [if_neg (by simp [g.up]), if_neg (by simp [hn]), if_neg hl]
  rw [e2]
  have hk : ∀ u, lk (delF d.fs s) u = if u = s then none else lk d.fs u := fun u => lk_delF _ _ _
  refine ⟨⟨rfl, ⟨fun u x y z => ?_, fun u f hf => ?_⟩, g.most, sorted_delF g.sorted _⟩, hk, rfl, rfl⟩
  · show lk (delF d.fs s) u = none
    rw [hk]
    split
    · rfl
    · exact g.three.none u x y z
  · replace hf : lk (delF d.fs s) u = some f := hf
    rw [hk] at hf
    split at hf
    · cases hf
    · exact g.three.len u f hf
def oddL : List UInt8 := rbOut 3 4 0 []
def lastL : List UInt8 := rbOut 9007199254740992 0 0 []
def rubL : List UInt8 := [114, 117, 98, 98, 105, 115, 104]
theorem rb_three : rbErr 3 4 0 ([] : List UInt8).length = 0 := by unfold rbErr; rw [if_neg (by omega), if_neg (by simp)]
theorem rb_last : rbErr 9007199254740992 0 0 ([] : List UInt8).length = 0 := by unfold rbErr; rw [if_neg (by omega), if_neg (by simp)]
theorem out_ok {s t c : Int} {b : List UInt8} (h : rbErr s t c b.length = 0) : rbOut s t c b = sealL sumL (aroot s t c b).bytes := by unfold rbOut; rw [if_pos h]
theorem out_len {s t c : Int} (h : rbErr s t c ([] : List UInt8).length = 0) : (rbOut s t c []).length ≤ 48 := by
  rw [out_ok h]; exact root_len48 (rb_ok h)
/-- what the walk asks of disks. -/
theorem num_plain : ∃ d1 d2 d3 d4 d5 d6 d7 d8 d9 : ADisk,
    ADisk.append ⟨4194304, -1, false, []⟩ (rname 0) oddL = d1 ∧ d1.append freshN rubL = d2 ∧
    readE d2 = 0 ∧ ((readR d2).serial : Int) = 0 ∧ ((readR d2).tick : Int) = 0 ∧
    wrAll d2 8 2 [] = (d3, 0) ∧ readE d3 = 0 ∧ ((readR d3).serial : Int) = 1 ∧ ((readR d3).tick : Int) = 8 ∧
    d3.remove (rname 0) = d4 ∧ d4.append (rname 0) lastL = d5 ∧ wrAll d5 0 0 [] = (d5, 2) ∧
    d5.arm 1 = d6 ∧ d6.remove (rname 0) = d7 ∧ wrAll d7 9 0 [] = (d8, 15) ∧ readE d8 = 15 ∧
    d8.crash [99, 99, 99] = d9 ∧ readE d9 = 0 ∧ ((readR d9).serial : Int) = 1 ∧ ((readR d9).tick : Int) = 8 := by
  obtain ⟨g0, r0⟩ := new_good 4194304 (by omega)
  have h01 := rname_01
  have hodd := out_len rb_three
  have hlast := out_len rb_last
  obtain ⟨g1, k1, l1, m1⟩ := app_fair g0.toFair (by decide) (rname 0) (Or.inl rfl) oddL rfl (by unfold oddL; omega)
  generalize hd1 : ADisk.append ⟨4194304, -1, false, []⟩ (rname 0) oddL = d1 at g1 k1 l1 m1
  replace l1 : d1.left = -1 := l1
  have k1n : ∀ u, u ≠ rname 0 → lk d1.fs u = none := fun u hu => by rw [k1, if_neg hu]; rfl
  obtain ⟨g2, k2, l2, m2⟩ := app_fair g1 (by omega) freshN (Or.inr (Or.inr rfl)) rubL (k1n _ (fun e => (rname_fresh 0) e.symm)) (by decide)
  generalize hd2 : d1.append freshN rubL = d2 at g2 k2 l2 m2
  replace l2 : d2.left = -1 := by rw [l2, l1]; rfl
  have f0 : lk d2.fs (rname 0) = some ⟨[], oddL⟩ := by rw [k2, if_neg (rname_fresh 0), k1, if_pos rfl]
  have f1 : lk d2.fs (rname 1) = none := by rw [k2, if_neg (rname_fresh 1)]; exact k1n _ h01.symm
  have c1 : cand d2 1 = root0 := by
    unfold cand
    rw [if_neg]
    rintro ⟨hf, _⟩
    unfold findErr at hf
    rw [f1] at hf
    simp [g2.up] at hf
  have c0 : cand d2 0 = root0 := by
    unfold cand
    rw [if_neg]
    rintro ⟨hf, _, hp⟩
    have ha : afile d2 (rname 0) = ⟨[], oddL⟩ := by unfold afile; rw [f0]; rfl
    have hrb : d2.readBytes (rname 0) = oddL := by unfold ADisk.readBytes; rw [if_pos hf, ha]; rfl
    rw [hrb] at hp
    unfold oddL at hp
    rw [out_ok rb_three, (parse_root (rb_ok rb_three)).2] at hp
    exact absurd hp (by decide)
  have r2 : readR d2 = root0 := by rw [readR_eq g2.up, c0, c1]; rfl
  have s2 : (readR d2).serial = 0 := by rw [r2]; rfl
  have e8 : rbErr (1 : Int) 8 2 ([] : List UInt8).length = 0 := by unfold rbErr; rw [if_neg (by omega), if_neg (by simp)]
  have ok8 := rb_ok e8
  have hw2 : wrAll d2 8 2 [] = wrSteps d2 1 (sealL sumL (aroot 1 8 2 []).bytes) := by
    unfold wrAll
    rw [if_neg (by simp [g2.up]), s2, show (((0 + 1 : Nat) : Nat) : Int) = 1 from rfl, e8, if_neg (fun h => h rfl), out_ok e8]
  have hL8 := root_len ok8 (by simp [aroot])
  rcases wr_law g2.three g2.sorted g2.up g2.most 1 (sealL sumL (aroot 1 8 2 []).bytes) hL8 with ⟨d3, a3, u3, m3, l3, q3, x3, y3, z3⟩ | ⟨e0, _⟩
  rotate_left
  · exact absurd l2 e0
  replace l3 := l3 l2
  have c3 : cand d3 1 = aroot 1 8 2 [] := cand_file u3 x3 (by simp) ok8 rfl
  have f30 : lk d3.fs (rname 0) = some ⟨[], oddL⟩ := by rw [z3 _ h01 (rname_fresh 0), f0]
  have c30 : cand d3 0 = root0 := by rw [cand_lk g2.up u3 (by rw [f30, f0])]; exact c0
  have r3 : readR d3 = aroot 1 8 2 [] := readR_win u3 (k := 1) (by omega) c3 (by rw [show 1 - 1 = 0 from rfl, c30]; decide)
  have g3 : Fair d3 := by
    refine ⟨u3, ⟨fun s a b c => ?_, fun s f hl => ?_⟩, by rw [m3, m2, m1]; decide, q3⟩
    · rw [z3 s b c]; exact g2.three.none s a b c
    · by_cases e1 : s = rname 1
      · subst e1; rw [x3] at hl; cases hl; simpa [AFile.len] using hL8
      · by_cases e2 : s = freshN
        · subst e2; rw [y3] at hl; cases hl
        · rw [z3 s e1 e2] at hl; exact g2.three.len s f hl
  obtain ⟨g4, k4, l4, m4⟩ := rm_fair g3 (by omega) (rname 0) (by rw [f30]; rfl)
  generalize hd4 : d3.remove (rname 0) = d4 at g4 k4 l4 m4
  replace l4 : d4.left = -1 := by rw [l4, l3]; rfl
  obtain ⟨g5, k5, l5, m5⟩ := app_fair g4 (by omega) (rname 0) (Or.inl rfl) lastL (by rw [k4, if_pos rfl]) (by unfold lastL; omega)
  generalize hd5 : d4.append (rname 0) lastL = d5 at g5 k5 l5 m5
  replace l5 : d5.left = -1 := by rw [l5, l4]; rfl
  have f50 : lk d5.fs (rname 0) = some ⟨[], lastL⟩ := by rw [k5, if_pos rfl]
  have f51 : lk d5.fs (rname 1) = some ⟨sealL sumL (aroot 1 8 2 []).bytes, []⟩ := by rw [k5, if_neg h01.symm, k4, if_neg h01.symm, x3]
  have c50 : cand d5 0 = aroot 9007199254740992 0 0 [] := cand_file g5.up f50 (by unfold lastL; rw [out_ok rb_last]; rfl) (rb_ok rb_last) rfl
  have c51 : cand d5 1 = aroot 1 8 2 [] := cand_file g5.up f51 (by simp) ok8 rfl
  have r5 : readR d5 = aroot 9007199254740992 0 0 [] := readR_win g5.up (k := 0) (by omega) c50 (by rw [show 1 - 0 = 1 from rfl, c51]; decide)
  have s5 : (readR d5).serial = 9007199254740992 := by rw [r5]; rfl
  have hw5 : wrAll d5 0 0 [] = (d5, 2) := by
    have e : rbErr (((readR d5).serial + 1 : Nat) : Int) 0 0 ([] : List UInt8).length = 2 := by rw [s5]; unfold rbErr; rw [if_pos (by omega)]
    rw [write_no g5 (by rw [e]; decide), e]
  obtain ⟨d6, hd6⟩ : ∃ d6, d5.arm 1 = d6 := ⟨_, rfl⟩
  have e6 : d6 = { d5 with left := 1 } := by rw [← hd6]; unfold ADisk.arm; rw [if_neg (by simp [g5.up])]; rfl
  have g6 : Fair d6 := by rw [e6]; exact ⟨g5.up, ⟨g5.three.none, g5.three.len⟩, g5.most, g5.sorted⟩
  have k6 : ∀ u, lk d6.fs u = lk d5.fs u := fun u => by rw [e6]
  have l6 : d6.left = 1 := by rw [e6]
  obtain ⟨g7, k7, l7, m7⟩ := rm_fair g6 (by omega) (rname 0) (by rw [k6, f50]; rfl)
  generalize hd7 : d6.remove (rname 0) = d7 at g7 k7 l7 m7
  replace l7 : d7.left = 0 := by rw [l7, l6]; rfl
  have f71 : lk d7.fs (rname 1) = some ⟨sealL sumL (aroot 1 8 2 []).bytes, []⟩ := by rw [k7, if_neg h01.symm, k6, f51]
  have f70 : lk d7.fs (rname 0) = none := by rw [k7, if_pos rfl]
  have f7f : lk d7.fs freshN = none := by
    rw [k7, if_neg (fun e => rname_fresh 0 e.symm), k6, k5, if_neg (fun e => rname_fresh 0 e.symm), k4, if_neg (fun e => rname_fresh 0 e.symm), y3]
  have c71 : cand d7 1 = aroot 1 8 2 [] := cand_file g7.up f71 (by simp) ok8 rfl
  have c70 : cand d7 0 = root0 := by
    unfold cand
    rw [if_neg]
    rintro ⟨hf, _⟩
    unfold findErr at hf
    rw [f70] at hf
    simp [g7.up] at hf
  have r7 : readR d7 = aroot 1 8 2 [] := readR_win g7.up (k := 1) (by omega) c71 (by rw [show 1 - 1 = 0 from rfl, c70]; decide)
  have s7 : (readR d7).serial = 1 := by rw [r7]; rfl
  have e9 : rbErr (2 : Int) 9 0 ([] : List UInt8).length = 0 := by unfold rbErr; rw [if_neg (by omega), if_neg (by simp)]
  have hL9 := root_len (rb_ok e9) (by simp [aroot])
  have good7 : Good d7 := by
    refine ⟨g7, fun k f hf => ?_⟩
    rcases rname_cases k with e | e
    · rw [e, f70] at hf; cases hf
    · rw [e, f71] at hf; cases hf; rfl
  obtain ⟨w1, w2⟩ := three_room g7.three g7.sorted
  have hw7 : wrAll d7 9 0 [] = (d7.fail, 15) := by
    have hm7 := g7.most
    have hrm : d7.remove freshN = d7 := by unfold ADisk.remove; rw [if_neg (by simp [g7.up]), if_pos (by rw [f7f]; rfl)]
    have hre : d7.removeErr freshN = 13 := by unfold ADisk.removeErr; rw [if_neg (by simp [g7.up]), if_pos (by rw [f7f]; rfl)]
    have hap : ∀ L : List UInt8, L.length ≤ 200 → d7.append freshN L = d7.fail ∧ d7.appendErr freshN L = 15 := by
      intro L hL
      unfold ADisk.append ADisk.appendErr ADisk.put ADisk.err
      constructor
      · rw [if_neg (by simp [g7.up]), if_neg (by simp [fresh_ok]), if_neg (by omega), if_neg (by omega), if_pos l7]
      · rw [if_neg (by simp [g7.up]), if_neg (by simp [fresh_ok]), if_neg (by omega), if_neg (by omega), if_pos l7]
    unfold wrAll
    rw [if_neg (by simp [g7.up]), s7, show (((1 + 1 : Nat) : Nat) : Int) = 2 from rfl, e9, if_neg (fun h => h rfl), out_ok e9]
    unfold wrSteps goneE
    obtain ⟨p1, p2⟩ := hap _ hL9
    rw [hre, hrm, if_pos rfl, if_neg (fun h => h rfl), p2, p1, if_pos (by decide)]
  have mid7 : Mid d7 d7.fail := (fail_mid g7.three g7.sorted).1
  obtain ⟨g9, r9, _⟩ := crash_good good7 mid7 [99, 99, 99]
  refine ⟨d1, d2, d3, d4, d5, d6, d7, d7.fail, d7.fail.crash [99, 99, 99], rfl, hd2, readE_good g2, by rw [s2]; rfl, by rw [r2]; rfl, by rw [hw2]; exact a3, readE_good g3, by rw [r3]; rfl, by rw [r3]; rfl, hd4, hd5, hw5, hd6, hd7, hw7, ?_, rfl, readE_good g9.toFair, by rw [r9, r7]; rfl, by rw [r9, r7]; rfl⟩
  unfold readE; rw [if_pos (show d7.fail.down = true from rfl)]
end Go.Proofs.YtnagejhpdhdpfaaDoor
