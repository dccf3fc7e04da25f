/-
  The chapter's examples (awake).
-/
import Derived.Outline
import Derived.Lib.SlBytesConst
import Derived.Test.YtnagejhpdhdpfaaGreatDoorLow0
import Derived.Test.YtnagejhpdhdpfaaGreatDoorRt7
import Derived.Test.YtnagejhpdhdpfaaGreatDoorRtQ
namespace Go.Proofs.YtnagejhpdhdpfaaGreatDoor
open Go.RowKit Go.Maps Go.MapKept

theorem rb_small (s t c : Nat) (hs : 0 < s) (h1 : s ≤ 1000) (h2 : t ≤ 1000) (h3 : c ≤ 1000) (b : List UInt8) (hb : b.length ≤ 1000) : rbErr (s : Int) (t : Int) (c : Int) b.length = 0 := by
  unfold rbErr; rw [if_neg (by omega), if_neg (by omega)]
/-- what the walk of awake asks of disks. -/
theorem aw_plain : ∃ d1 d2 d3 d4 : ADisk,
    readE ⟨1000, -1, false, []⟩ = 0 ∧ ((readR ⟨1000, -1, false, []⟩).serial : Int) = 0 ∧ ((readR ⟨1000, -1, false, []⟩).tick : Int) = 0 ∧
    wrAll ⟨1000, -1, false, []⟩ 5 2 [] = (d1, 0) ∧ readE d1 = 0 ∧ ((readR d1).serial : Int) = 1 ∧ ((readR d1).tick : Int) = 5 ∧ d1.names = [rname 1] ∧
    wrAll d1 6 2 [] = (d2, 0) ∧ readE d2 = 0 ∧ ((readR d2).serial : Int) = 2 ∧ ((readR d2).tick : Int) = 6 ∧ d2.names = [rname 0, rname 1] ∧
    d2.append (rname 0) [120] = d3 ∧ readE d3 = 0 ∧ ((readR d3).serial : Int) = 1 ∧ ((readR d3).tick : Int) = 5 ∧
    wrAll d3 7 2 [] = (d4, 0) ∧ readE d4 = 0 ∧ ((readR d4).serial : Int) = 2 ∧ ((readR d4).tick : Int) = 7 := by
  obtain ⟨g0, r0⟩ := new_good 1000 (by omega)
  have e0 := readE_good g0.toFair
  have s0 : (readR ⟨1000, -1, false, []⟩).serial = 0 := by rw [r0]; rfl
  have w1 := write_law g0.toFair (t := 5) (c := 2) (b := []) (by rw [s0]; exact rb_small 1 5 2 (by omega) (by omega) (by omega) (by omega) [] (by simp)) (by simp)
  rw [s0] at w1
  rcases w1 with ⟨d1, a1, g1, f1, r1, l1, m1, ⟨x1, k1, b1⟩, n1, o1⟩ | ⟨h, _⟩
  rotate_left
  · exact absurd rfl h
  have s1 : (readR d1).serial = 1 := by rw [r1]; rfl
  have t1 : (readR d1).tick = 5 := by rw [r1]; rfl
  have w2 := write_law g1 (t := 6) (c := 2) (b := []) (by rw [s1]; exact rb_small 2 6 2 (by omega) (by omega) (by omega) (by omega) [] (by simp)) (by simp)
  rw [s1] at w2
  rcases w2 with ⟨d2, a2, g2, f2, r2, l2, m2, ⟨x2, k2, b2⟩, n2, o2⟩ | ⟨h, _⟩
  rotate_left
  · exact absurd (l1 rfl) h
  have s2 : (readR d2).serial = 2 := by rw [r2]; rfl
  have t2 : (readR d2).tick = 6 := by rw [r2]; rfl
  have hle1 : d1.left = -1 := l1 rfl
  have hle2 : d2.left = -1 := l2 hle1
  have k1' : lk d1.fs (rname 1) = some x1 := k1
  have k2' : lk d2.fs (rname 0) = some x2 := k2
  have h01 := rname_01
  have k21 : lk d2.fs (rname 1) = some x1 := by rw [o2 (rname 1) (fun e => h01 e.symm) (rname_fresh 1), k1']
  have k10 : lk d1.fs (rname 0) = none := by rw [o1 (rname 0) h01 (rname_fresh 0)]; rfl
  have nm1 : d1.names = [rname 1] := by
    refine names_eq g1.sorted (by simp) (fun s => ?_)
    simp only [List.mem_singleton]
    constructor
    · rintro rfl; rw [k1']; rfl
    · intro h
      by_cases e1 : s = rname 1
      · exact e1
      · exfalso
        by_cases e2 : s = freshN
        · subst e2; rw [n1] at h; cases h
        · rw [o1 s e1 e2] at h; cases h
  have nm2 : d2.names = [rname 0, rname 1] := by
    refine names_eq g2.sorted (by simp; decide +kernel) (fun s => ?_)
    simp only [List.mem_cons, List.not_mem_nil, or_false]
    constructor
    · rintro (rfl | rfl)
      · rw [k2']; rfl
      · rw [k21]; rfl
    · intro h
      by_cases e1 : s = rname 0
      · exact Or.inl e1
      · by_cases e3 : s = rname 1
        · exact Or.inr e3
        · exfalso
          by_cases e2 : s = freshN
          · subst e2; rw [n2] at h; cases h
          · rw [o2 s e1 e2, g1.three.none s e1 e3 e2] at h; cases h
  -- the spoilt file
  have g0f : Good d1 := f1 (fun k f h => by cases h)
  have g2f : Good d2 := f2 g0f.firm
  have hx2 : x2.loose = [] := g2f.firm 0 x2 k2'
  have ok2 : (aroot (2 : Int) 6 2 []).Ok := rb_ok (rb_small 2 6 2 (by omega) (by omega) (by omega) (by omega) [] (by simp))
  have b2' : x2.firm = sealL sumL (aroot (2 : Int) 6 2 []).bytes := b2
  have hL2 := root_len48 ok2
  rw [← b2'] at hL2
  have hroom := three_room g2.three g2.sorted
  have hmo : d2.most = 1000 := m2.trans m1
  have ha2 : afile d2 (rname 0) = x2 := by unfold afile; rw [k2']; rfl
  obtain ⟨d3, hd3⟩ : ∃ d3, d2.append (rname 0) [120] = d3 := ⟨_, rfl⟩
  have hd3' : d3 = { d2.tick with fs := putF d2.fs (rname 0) ⟨x2.firm, x2.loose ++ [120]⟩ } := by
    rw [← hd3]
    unfold ADisk.append ADisk.put
    rw [if_neg (by simp [g2.up]), if_neg (by simp [rname_ok]), if_neg (by simp; omega), if_neg (by rw [k2']; simp), ha2, if_neg (by omega)]
  have u3 : d3.down = false := by rw [hd3']; rfl
  have lk3 : ∀ s, lk d3.fs s = if s = rname 0 then some ⟨x2.firm, x2.loose ++ [120]⟩ else lk d2.fs s := fun s => by
    rw [hd3']; exact lk_putF _ _ _ _
  have le3 : d3.left = -1 := by
    rw [hd3']
    show max (d2.left - 1) (-1) = -1
    rw [hle2]; rfl
  have g3 : Fair d3 := by
    refine ⟨u3, ⟨fun s a b c => ?_, fun s f hl => ?_⟩, by rw [hd3']; show 1000 ≤ d2.most; omega, by rw [hd3']; exact sorted_putF g2.sorted _ _⟩
    · rw [lk3, if_neg a]; exact g2.three.none s a b c
    · rw [lk3] at hl
      split at hl
      · cases hl
        simp only [AFile.len, hx2, List.nil_append, List.length_cons, List.length_nil]
        have : (aroot (2 : Int) 6 2 []).blob.length = 0 := rfl
        omega
      · exact g2.three.len s f hl
  have c1 : cand d3 1 = readR d1 := by
    have ok1 : (aroot (1 : Int) 5 2 []).Ok := rb_ok (rb_small 1 5 2 (by omega) (by omega) (by omega) (by omega) [] (by simp))
    refine cand_file u3 (f := x1) (by rw [lk3, if_neg h01.symm, k21]) ?_ ?_ (by rw [s1])
    · rw [g0f.firm 1 x1 k1', List.append_nil, b1, r1]
    · rw [r1]; exact ok1
  have c0 : cand d3 0 = root0 := by
    unfold cand
    rw [if_neg]
    rintro ⟨hf, hp, _⟩
    have ha3 : afile d3 (rname 0) = ⟨x2.firm, x2.loose ++ [120]⟩ := by unfold afile; rw [lk3, if_pos rfl]; rfl
    have hrb : d3.readBytes (rname 0) = sealL sumL (aroot (2 : Int) 6 2 []).bytes ++ [120] := by
      unfold ADisk.readBytes; rw [if_pos hf, ha3, b2', hx2]; rfl
    rw [hrb] at hp
    exact parse_more ok2 [120] (by simp) hp
  have r3 : readR d3 = readR d1 := readR_win u3 (k := 1) (by omega) c1 (by rw [show 1 - 1 = 0 from rfl, c0, s1]; decide)
  have w4 := write_law g3 (t := 7) (c := 2) (b := []) (by rw [r3, s1]; exact rb_small 2 7 2 (by omega) (by omega) (by omega) (by omega) [] (by simp)) (by simp)
  rw [r3, s1] at w4
  rcases w4 with ⟨d4, a4, g4, f4, r4, l4, m4, _⟩ | ⟨h, _⟩
  rotate_left
  · exact absurd le3 h
  refine ⟨d1, d2, d3, d4, e0, by rw [s0]; rfl, by rw [r0]; rfl, a1, readE_good g1, by rw [s1]; rfl, by rw [t1]; rfl, nm1, a2, readE_good g2, by rw [s2]; rfl, by rw [t2]; rfl, nm2, hd3, readE_good g3, by rw [r3, s1]; rfl, by rw [r3, t1]; rfl, a4, readE_good g4, by rw [r4]; rfl, by rw [r4]; rfl⟩
end Go.Proofs.YtnagejhpdhdpfaaGreatDoor
