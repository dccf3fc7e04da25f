/-
  An index's entry is read.
-/
import Derived.Outline
import Derived.BigRegion
import Derived.Deep.CutRange
import Derived.Test.YtbepcjajbcecnaaGreatDoorMPgB
import Derived.Test.YtbepcjajbcecnaaGreatDoorMPmE
import Derived.Deep.RegionLaw
namespace Go.Proofs.YtbepcjajbcecnaaGreatDoor
open Go.RowKit Go.Maps Go.MapKept
set_option linter.unusedSimpArgs false

theorem results_cellE {fn : Func} {t a u1 u2 u3 : Tmp} {ty : TypeId} (h : fn.results = #[.tmp t, .cell a ty, .tmp u1, .tmp u2, .tmp u3]) (tmps : Array Value) (P : Program) (w : World) (ad : Addr) (x : Value) (ha : tmps.getD a undef = .pointer (some ad)) (hl : (loadVar ty ad).run P w = .ok x w) :
    (results fn tmps).run P w = .ok (.tuple #[tmps.getD t undef, x, tmps.getD u1 undef, tmps.getD u2 undef, tmps.getD u3 undef]) w := by
  have ha' : tmps[a]?.getD undef = .pointer (some ad) := by simpa using ha
  simp [results, h, ha', asAddr, hl, Result.andThen]
def EntPost (o : Option (AEnt × Nat)) (w : World) (e : Ending) (w' : World) : Prop :=
  Below w.heap.size w w' ∧ match o with
  | some (x, at2) => e = .returned (.tuple #[.string x.name, .agg #[.slice none 0 0, .int .i64 x.pack, .int .i64 x.pos], .int .i64 x.long, .int .i64 at2, .bool true])
  | none => ∃ (s : ByteArray) (x y m b : Int), e = .returned (.tuple #[.string s, .agg #[.slice none 0 0, .int .i64 x, .int .i64 y], .int .i64 m, .int .i64 b, .bool false])
theorem EntPost.bad {w w' : World} {o : Option (AEnt × Nat)} (h : o = none) (hB : Below w.heap.size w w') (s : ByteArray) (x y m b : Int) : EntPost o w (.returned (.tuple #[.string s, .agg #[.slice none 0 0, .int .i64 x, .int .i64 y], .int .i64 m, .int .i64 b, .bool false])) w' := by
  subst h; exact ⟨hB, s, x, y, m, b, rfl⟩
theorem EntPost.good {w w' : World} {o : Option (AEnt × Nat)} {x : AEnt} {at2 : Nat} (h : o = some (x, at2)) (hB : Below w.heap.size w w') : EntPost o w (.returned (.tuple #[.string x.name, .agg #[.slice none 0 0, .int .i64 x.pack, .int .i64 x.pos], .int .i64 x.long, .int .i64 at2, .bool true])) w' := by
  subst h; exact ⟨hB, rfl⟩
def nums3 (z : Nat → Int) : Array Value := #[.int .i64 (z 0), .int .i64 (z 1), .int .i64 (z 2)]
theorem nums3_set (z : Nat → Int) {k : Nat} (hk : k < 3) (v : Int) : (nums3 z).setIfInBounds k (.int .i64 v) = nums3 (fun i => if i = k then v else z i) := by
  obtain rfl | rfl | rfl : k = 0 ∨ k = 1 ∨ k = 2 := by omega
  all_goals rfl
theorem nums3_at (z : Nat → Int) {k : Nat} (hk : k < 3) : (nums3 z)[k]? = some (.int .i64 (z k)) := by
  obtain rfl | rfl | rfl : k = 0 ∨ k = 1 ∨ k = 2 := by omega
  all_goals rfl
/-- what is known when i numbers were read. -/
structure EntSo (l nm : List UInt8) (kk : Nat) (o : Option (AEnt × Nat)) (i at_ : Nat) (z : Nat → Int) : Prop where
  le : at_ ≤ l.length
  ex : ∃ n : Nat → Nat, (∀ j, z j = n j) ∧ (∀ j, n j ≤ 9007199254740992) ∧ (∀ j, i ≤ j → n j = 0) ∧ o = entK nm l kk i at_ (n 0) (n 1) (n 2)
theorem EntSo.next {l nm : List UInt8} {kk i at_ x j : Nat} {o : Option (AEnt × Nat)} {z : Nat → Int} (h : EntSo l nm kk o i at_ z) (hi : i < 3) (hg : gU (l.drop at_) = (0, x, j)) (hx : x ≤ 9007199254740992) (hj : at_ + j ≤ l.length) :
    EntSo l nm kk o (i + 1) (at_ + j) (fun q => if q = i then (x : Int) else z q) := by
  obtain ⟨n, n1, n2, n3, n4⟩ := h.ex
  refine ⟨hj, fun q => if q = i then x else n q, fun q => by by_cases e : q = i <;> simp [e, n1], fun q => by by_cases e : q = i <;> simp [e, n2, hx], fun q hq => ?_, ?_⟩
  · simp only; rw [if_neg (by omega)]; exact n3 q (by omega)
  · rw [n4]
    obtain rfl | rfl | rfl : i = 0 ∨ i = 1 ∨ i = 2 := by omega
    · rw [n3 0 (by omega), n3 1 (by omega), n3 2 (by omega)]
      exact entK_0 hg hx
    · rw [n3 1 (by omega), n3 2 (by omega)]
      exact entK_1 hg hx
    · rw [n3 2 (by omega)]
      exact entK_2 hg hx
theorem EntSo.bad {l nm : List UInt8} {kk i at_ x j : Nat} {er : Int} {o : Option (AEnt × Nat)} {z : Nat → Int} (h : EntSo l nm kk o i at_ z) (hi : i < 3) (hg : gU (l.drop at_) = (er, x, j)) (hx : er ≠ 0 ∨ 9007199254740992 < x) : o = none := by
  obtain ⟨n, n1, n2, n3, n4⟩ := h.ex
  rw [n4]
  exact entK_bad hi hg hx
theorem gU_at {l : List UInt8} {at_ x j : Nat} (hat : at_ ≤ l.length) (hg : gU (l.drop at_) = (0, x, j)) : at_ + j ≤ l.length := by
  have := (gU_ok hg).2.2.1
  rw [List.length_drop] at this
  omega
theorem gB_len5 {l b : List UInt8} {most k : Nat} (h : gB l most = (0, b, k)) : b.length ≤ l.length ∧ k ≤ l.length := by
  unfold gB at h
  cases hu : gU l with
  | mk e nk =>
    obtain ⟨n, k'⟩ := nk
    rw [hu] at h
    by_cases h0 : e = 0
    · subst h0
      obtain ⟨_, _, hj, _, _⟩ := gU_ok hu
      simp only at h
      split at h
      · cases h
      · split at h
        · cases h
        · cases h
          simp only [List.length_take, List.length_drop]
          omega
    · split at h
      · rename_i heq; simp only [Prod.mk.injEq] at heq; exact absurd heq.1 h0
      · rename_i heq; simp only [Prod.mk.injEq] at heq h; exact absurd (heq.1.trans h.1) h0
theorem gB_nil5 {l b : List UInt8} {most k : Nat} {er : Int} (h : gB l most = (er, b, k)) (h0 : er ≠ 0) : b = [] := by
  unfold gB at h
  split at h
  · split at h
    · simp only [Prod.mk.injEq] at h; exact h.2.1.symm
    · split at h
      · simp only [Prod.mk.injEq] at h; exact h.2.1.symm
      · simp only [Prod.mk.injEq] at h; exact absurd h.1.symm h0
  · simp only [Prod.mk.injEq] at h; exact h.2.1.symm
theorem Rd.keepN {fp : Nat → Prop} {w w' : World} {v : Value} {xs : List Value} (h : Rd w v xs) (hu : Upd fp w w') (hn : xs ≠ [] → ∀ g, v.ownBlock = some g → ¬ fp g) : Rd w' v xs := by
  by_cases hx : xs = []
  · subst hx
    rcases h with h | ⟨b, off, n, c, rfl, hl, _⟩
    · exact Or.inl h
    · exact Or.inr ⟨b, off, n, c, rfl, hl, fun j u hj => by simp at hj⟩
  · exact h.keep hu (hn hx)
theorem gU_lt {l : List UInt8} {x j : Nat} {er : Int} (hg : gU l = (er, x, j)) : x < 18446744073709551616 := by
  by_cases h0 : er = 0
  · subst h0; exact (gU_ok hg).2.2.2.2
  · unfold gU at hg
    split at hg
    · split at hg <;> (simp only [Prod.mk.injEq] at hg; omega)
    · split at hg
      · simp only [Prod.mk.injEq] at hg; omega
      · simp only [Prod.mk.injEq] at hg; exact absurd hg.1.symm h0
set_option maxRecDepth 100000 in
set_option maxHeartbeats 8000000 in
theorem pgentry_any (w : World) (v : Value) (l : List UInt8) (at0 kk : Nat) (hv : Rd w v (bcells l)) (hcap : CapOk v) (hat : at0 ≤ l.length) (hl : l.length ≤ 1099511627776) (_hkk : kk ≤ 9007199254740992) :
    Calls Tryz.prog 137 #[v, .int .i64 at0, .int .i64 kk] w (EntPost (pEntA l at0 kk) w) := by
  obtain ⟨W, hW⟩ : ∃ W, w.alloc (.cells #[.slice none 0 0, .int .i64 0, .int .i64 0] 104) = W := ⟨_, rfl⟩
  have hR0 : W.heap[w.heap.size]? = some (.cells #[.slice none 0 0, .int .i64 0, .int .i64 0] 104 (0, 0)) := by rw [← hW]; exact alloc_at _ _
  have hBW : Below w.heap.size w W := by rw [← hW]; exact (Below.refl _ _).alloc (Nat.le_refl _) _
  have hG := bGetBlob_any W v l at0 60 (hv.below hBW) hcap hat (by omega) (by omega)
  obtain ⟨er, nm, j, hgb⟩ : ∃ er nm j, gB (l.drop at0) 60 = (er, nm, j) := ⟨_, _, _, rfl⟩
  obtain ⟨at1, hat1⟩ : ∃ at1 : Nat, (if er = 0 then (at0 : Int) + (j : Int) else 0) = (at1 : Int) := ⟨if er = 0 then at0 + j else 0, by split <;> simp⟩
  unfold GbPost at hG
  rw [hgb, show (((60 : Nat) : Nat) : Int) = 60 from rfl] at hG
  simp only at hG
  rw [hat1] at hG
  obtain ⟨o, ho⟩ : ∃ o, pEntA l at0 kk = o := ⟨_, rfl⟩
  have hnm : nm.length ≤ l.length := by
    by_cases h0 : er = 0
    · subst h0
      have := gB_len5 hgb
      rw [List.length_drop] at this
      omega
    · have := gB_nil5 hgb h0
      rw [this]; simp
  have hst : (er = 0 ∧ EntSo l nm kk o 0 at1 (fun _ => 0)) ∨ (er ≠ 0 ∧ o = none) := by
    rw [← ho, pEntA_eq hgb]
    by_cases h0 : er = 0
    · subst h0
      have hle := gB_len5 hgb
      rw [List.length_drop] at hle
      rw [if_pos rfl] at hat1
      obtain rfl : at0 + j = at1 := by omega
      exact Or.inl ⟨rfl, by omega, fun _ => 0, fun _ => rfl, fun _ => Nat.zero_le _, fun _ _ => rfl, rfl⟩
    · exact Or.inr ⟨h0, by rw [if_neg h0]⟩
  rw [ho]
  obtain ⟨a, c, rfl⟩ := hv.shape
  rw [bcells_length] at hG hcap ⊢
  have hlow : bcells l ≠ [] → ∀ g, (Value.slice a l.length c).ownBlock = some g → g < w.heap.size := fun hne g hg => rd_blk5 hv hne g (by rw [bcells_length]; exact hg)
  have hrdW : Rd W (.slice a l.length c) (bcells l) := by have := hv.below hBW; rw [bcells_length] at this; exact this
  have hwW : w.heap.size < W.heap.size := blk_lt hR0
  have HR0 := Lib.hid hR0
  have HG := Lib.hid hG
  have HW := Lib.hid hW
  have Hst := Lib.hid hst
  have Hv := Lib.hid hrdW
  have Hcap := Lib.hid hcap
  clear hR0 hG hgb hat1 hst hv hrdW ho hW hcap
  go_enter Tryz.func137, Tryz.ntmps137
  go_upto_region 2 with (go_at_call 160; rw [HW.out]; refine HG.out.mono ?_; rintro e w1 ⟨a1, c1, rfl, hR, hB1⟩; have HR := Lib.hid (And.intro hR hB1); clear hR hB1)
  have hB1 := HR.out.2
  have hs1 := hB1.size
  have hR1 := alloc_old ((hB1.block w.heap.size hwW).trans HR0.out) (.cells #[.int .i64 0, .int .i64 0, .int .i64 0] 210)
  have hnV := alloc_at w1 (.cells #[.int .i64 0, .int .i64 0, .int .i64 0] 210)
  have hBV : Below w1.heap.size w1 (w1.alloc (.cells #[.int .i64 0, .int .i64 0, .int .i64 0] 210)) := (Below.refl _ _).alloc (Nat.le_refl _) _
  obtain ⟨V, hV⟩ : ∃ x, w1.alloc (.cells #[.int .i64 0, .int .i64 0, .int .i64 0] 210) = x := ⟨_, rfl⟩
  rw [hV] at hR1 hnV hBV
  have hBwV : Below w.heap.size w V := hBW.trans ((hB1.trans (hBV.mono hs1)).mono hBW.size)
  have hrdV : Rd V (.slice a l.length c) (bcells l) := (Hv.out.below hB1).below hBV
  have hnmV : Rd V (.slice a1 nm.length c1) (bcells nm) := (Rd.ofOwns HR.out.1).below hBV
  have hnmb : ∀ g, (Value.slice a1 nm.length c1).ownBlock = some g → g < w1.heap.size := fun g hg => row_lt HR.out.1 hg
  obtain ⟨nb, hnb⟩ : ∃ x, w1.heap.size = x := ⟨_, rfl⟩
  rw [hnb] at hnV hnmb
  have hRn : w.heap.size ≠ nb := by omega
  have hrds : ∀ wr, Upd (· = nb) V wr → Rd wr (.slice a l.length c) (bcells l) ∧ Rd wr (.slice a1 nm.length c1) (bcells nm) ∧ wr.heap[w.heap.size]? = some (.cells #[.slice none 0 0, .int .i64 0, .int .i64 0] 104 (0, 0)) ∧ Below w.heap.size w wr := fun wr hu =>
    ⟨hrdV.keepN hu (fun hne g hg e => by have := hlow hne g hg; omega), hnmV.keep hu (fun g hg e => by have := hnmb g hg; omega), hu.keep hR1 hRn, hBwV.trans (hu.below (fun k hk => by omega) hBwV.size)⟩
  have HV := Lib.hid (And.intro hnV hrds)
  have HvV := Lib.hid hV
  have Hnb := Lib.hid hnb
  have Hneb := Lib.hid hRn
  clear hB1 hs1 hR1 hnV hBV hBwV hrdV hnmV hnmb hV hnb hrds hlow hRn
  go_upto_region 4 with fail
  rw [HvV.out, Hnb.out]
  go_loopw [1, 12, 14, 15, 24] (fun av ev _ _ kv wr => ∃ (k at_ : Nat) (er : Int) (z : Nat → Int), k ≤ 3 ∧ kv = .int .i64 k ∧ av = .int .i64 at_ ∧ ev = .int .i64 er ∧ wr.heap[nb]? = some (.cells (nums3 z) 210 (0, 0)) ∧ Upd (· = nb) V wr ∧ ((er = 0 ∧ EntSo l nm kk o k at_ z) ∨ (er ≠ 0 ∧ o = none))) (fun _ _ _ _ kv _ => 3 - (intOf kv).toNat)
  case atStart => exact ⟨0, at1, er, fun _ => 0, by omega, rfl, rfl, rfl, HV.out.1, Upd.refl _ _, Hst.out⟩
  case round =>
    obtain ⟨k, at_, er', z, hk, rfl, rfl, rfl, hn, hU, hor⟩ := hrel
    obtain ⟨hrd, hrn, hRr, hBr⟩ := HV.out.2 wr hU
    by_cases hk3 : k < 3
    · have hkI : (k : Int) < 3 := by omega
      have hk0 : (0 : Int) ≤ (k : Int) := by omega
      rcases hor with ⟨rfl, hso⟩ | ⟨her, hnone⟩
      · obtain ⟨er2, x, j2, hgu⟩ : ∃ er x y, gU (l.drop at_) = (er, x, y) := ⟨_, _, _, rfl⟩
        have hGu := bGetUint_any wr _ l at_ hrd Hcap.out hso.le (by omega)
        unfold GuPost guVal guNext guErr at hGu
        rw [hgu] at hGu
        simp only at hGu
        obtain ⟨at2, hat2⟩ : ∃ at2 : Nat, (if er2 = 0 then (at_ : Int) + (j2 : Int) else 0) = (at2 : Int) := ⟨if er2 = 0 then at_ + j2 else 0, by split <;> simp⟩
        rw [hat2] at hGu
        obtain ⟨zz, hzz⟩ : ∃ zz, IntKind.i64.wrap (x : Int) = zz := ⟨_, rfl⟩
        have hke : k = 0 ∨ k = 1 ∨ k = 2 := by omega
        by_cases he : er2 = 0
        · subst he
          by_cases hx : 9007199254740992 < x
          · have hxI : (9007199254740992 : Int) < (x : Int) := by omega
            have Hl := Lib.hid (show o = none from hso.bad hk3 hgu (Or.inr hx))
            have HGu := Lib.hid hGu
            have HU := Lib.hid (And.intro hU hn)
            clear hGu hgu hU hn hso hrd hrn hRr hat2 hBr hk hke
            go_wp2_with (go_at_call 136; refine HGu.out.mono ?_; rintro e w3 ⟨rfl, hB3⟩; have hn3 := (hB3.block nb (blk_lt HU.out.2)).trans HU.out.2; have f3 : w3.frozen? ⟨nb, k, none⟩ = false := (by simp [World.frozen?, hn3]); have c3 : w3.cell? ⟨nb, k, none⟩ = some (.int .i64 (z k)) := (cell_at hn3 k).trans (nums3_at z hk3); have Hn3 := Lib.hid (And.intro hn3 hB3); clear hn3 hB3)
            go_roundw
            case rel => exact ⟨k + 1, at2, 10, fun q => if q = k then zz else z q, by omega, by go_num, rfl, rfl, (setCell_at Hn3.out.1 k _).trans (by rw [nums3_set z hk3]), (HU.out.1.thenBelow Hn3.out.2 HU.out.1.size).setCell (Or.inl rfl) _, Or.inr ⟨by decide, Hl.out⟩⟩
            case measure => simp [intOf]; omega
          · have hxI : ¬ (9007199254740992 : Int) < (x : Int) := by omega
            have hxz : zz = (x : Int) := by rw [← hzz]; exact IntWalk.i64_in _ (by omega)
            rw [if_pos rfl] at hat2
            have hat3 : at_ + j2 = at2 := by omega
            have Hl := Lib.hid (show EntSo l nm kk o (k + 1) at2 (fun q => if q = k then zz else z q) from by rw [hxz, ← hat3]; exact hso.next hk3 hgu (by omega) (gU_at hso.le hgu))
            have HGu := Lib.hid hGu
            have HU := Lib.hid (And.intro hU hn)
            clear hxz hat3 hGu hgu hU hn hso hrd hrn hRr hat2 hBr hk hke
            go_wp2_with (go_at_call 136; refine HGu.out.mono ?_; rintro e w3 ⟨rfl, hB3⟩; have hn3 := (hB3.block nb (blk_lt HU.out.2)).trans HU.out.2; have f3 : w3.frozen? ⟨nb, k, none⟩ = false := (by simp [World.frozen?, hn3]); have c3 : w3.cell? ⟨nb, k, none⟩ = some (.int .i64 (z k)) := (cell_at hn3 k).trans (nums3_at z hk3); have Hn3 := Lib.hid (And.intro hn3 hB3); clear hn3 hB3)
            go_roundw
            case rel => exact ⟨k + 1, at2, 0, fun q => if q = k then zz else z q, by omega, by go_num, rfl, rfl, (setCell_at Hn3.out.1 k _).trans (by rw [nums3_set z hk3]), (HU.out.1.thenBelow Hn3.out.2 HU.out.1.size).setCell (Or.inl rfl) _, Or.inl ⟨rfl, Hl.out⟩⟩
            case measure => simp [intOf]; omega
        · have heb : (er2 == 0) = false := by simpa using he
          have He := Lib.hid he
          have Hl := Lib.hid (show o = none from hso.bad hk3 hgu (Or.inl he))
          have HGu := Lib.hid hGu
          have HU := Lib.hid (And.intro hU hn)
          clear he hGu hgu hU hn hso hrd hrn hRr hat2 hBr hk hke
          go_wp2_with (go_at_call 136; refine HGu.out.mono ?_; rintro e w3 ⟨rfl, hB3⟩; have hn3 := (hB3.block nb (blk_lt HU.out.2)).trans HU.out.2; have f3 : w3.frozen? ⟨nb, k, none⟩ = false := (by simp [World.frozen?, hn3]); have c3 : w3.cell? ⟨nb, k, none⟩ = some (.int .i64 (z k)) := (cell_at hn3 k).trans (nums3_at z hk3); have Hn3 := Lib.hid (And.intro hn3 hB3); clear hn3 hB3)
          go_roundw
          case rel => exact ⟨k + 1, at2, er2, fun q => if q = k then zz else z q, by omega, by go_num, rfl, rfl, (setCell_at Hn3.out.1 k _).trans (by rw [nums3_set z hk3]), (HU.out.1.thenBelow Hn3.out.2 HU.out.1.size).setCell (Or.inl rfl) _, Or.inr ⟨He.out, Hl.out⟩⟩
          case measure => simp [intOf]; omega
      · have hef : (er' == 0) = false := by simpa using her
        have Ho := Lib.hid hnone
        clear her hnone
        obtain ⟨n0, n1, n2, _⟩ := cells3 (w := wr) hn
        obtain ⟨n0d, n1d, n2d, _⟩ := cells3 (w := wr.drew) hn
        obtain ⟨q0, q1, q2, f0, f1, f2⟩ := cells3 (w := wr) hRr
        obtain ⟨q0d, q1d, q2d, f0d, f1d, f2d⟩ := cells3 (w := wr.drew) hRr
        have hcv := run_bytes_str (P := Tryz.prog) (hrn.below ((Below.refl _ _).drew)) Tryz.underlying25 Tryz.underlying5 Tryz.underlying9
        have hcv2 := run_bytes_str (P := Tryz.prog) hrn Tryz.underlying25 Tryz.underlying5 Tryz.underlying9
        have hU3 : Upd (· = w.heap.size) wr (((wr.setCell ⟨w.heap.size, 0, none⟩ (.slice none 0 0)).setCell ⟨w.heap.size, 1, none⟩ (.int .i64 (z 0))).setCell ⟨w.heap.size, 2, none⟩ (.int .i64 (z 1))) := (setCell2_upd _ _).trans (setCell_upd 2 _) (fun _ hk => Or.inl hk)
        obtain ⟨y0, y1, y2, _⟩ := cells3 (hU3.keep hn (fun e => Hneb.out e.symm))
        obtain ⟨y0d, y1d, y2d, _⟩ := cells3 (w := (((wr.setCell ⟨w.heap.size, 0, none⟩ (.slice none 0 0)).setCell ⟨w.heap.size, 1, none⟩ (.int .i64 (z 0))).setCell ⟨w.heap.size, 2, none⟩ (.int .i64 (z 1))).drew) (hU3.keep hn (fun e => Hneb.out e.symm))
        have hrn3 := hrn.keep hU3 (fun g hg e => by have := row_from HR.out.1 hg; omega)
        have hcv3 := run_bytes_str (P := Tryz.prog) hrn3 Tryz.underlying25 Tryz.underlying5 Tryz.underlying9
        have hcv4 := run_bytes_str (P := Tryz.prog) (hrn3.below ((Below.refl _ _).drew)) Tryz.underlying25 Tryz.underlying5 Tryz.underlying9
        have hRf : (((wr.setCell ⟨w.heap.size, 0, none⟩ (.slice none 0 0)).setCell ⟨w.heap.size, 1, none⟩ (.int .i64 (z 0))).setCell ⟨w.heap.size, 2, none⟩ (.int .i64 (z 1))).heap[w.heap.size]? = some (.cells #[.slice none 0 0, .int .i64 (z 0), .int .i64 (z 1)] 104 (0, 0)) := setCell_at (setCell_at (setCell_at hRr 0 _) 1 _) 2 _
        have hlF := run_loadVar_row (P := Tryz.prog) (((wr.setCell ⟨w.heap.size, 0, none⟩ (.slice none 0 0)).setCell ⟨w.heap.size, 1, none⟩ (.int .i64 (z 0))).setCell ⟨w.heap.size, 2, none⟩ (.int .i64 (z 1))).drew w.heap.size 104 104 _ (0, 0) _ hRf Tryz.underlying104 rfl (by kernel_rfl)
        have HB := Lib.hid (hBr.trans (hU3.below (fun k hk => by rw [hk]; exact Nat.le_refl _) hBr.size)).drew
        have HlF := Lib.hid hlF
        clear hrn3 hRf hlF hBr hU hn hRr hrd hrn hU3
        go_upto_region 14 with fail
        go_region
        all_goals
          go_wp2_with fail
          (try simp only [Exit.inBlock, Exit.then])
          refine bodyPost_ret (results_cellE rfl _ _ _ ⟨w.heap.size, 0, none⟩ (.agg #[.slice none 0 0, .int .i64 (z 0), .int .i64 (z 1)]) rfl (HlF.out)) rfl ?_
          exact EntPost.bad Ho.out HB.out _ _ _ _ _
    · obtain rfl : k = 3 := by omega
      rcases hor with ⟨rfl, hso⟩ | ⟨her, hnone⟩
      · obtain ⟨nz, e1, e2, e3, e4⟩ := hso.ex
        obtain rfl : z = fun j => (nz j : Int) := funext e1
        obtain ⟨P, hP⟩ : ∃ x, nz 0 = x := ⟨_, rfl⟩
        obtain ⟨A, hA⟩ : ∃ x, nz 1 = x := ⟨_, rfl⟩
        obtain ⟨M, hM⟩ : ∃ x, nz 2 = x := ⟨_, rfl⟩
        have hnz : nums3 (fun j => (nz j : Int)) = #[.int .i64 (P : Int), .int .i64 (A : Int), .int .i64 (M : Int)] := by show #[Value.int .i64 (nz 0 : Int), .int .i64 (nz 1 : Int), .int .i64 (nz 2 : Int)] = _; rw [hP, hA, hM]
        have ho : o = entEnd nm kk at_ P A M := by rw [e4, hP, hA, hM]; rfl
        rw [hnz] at hn
        clear hnz e1 e2 e3 e4 hP hA hM hso hk3
        by_cases c1 : 0 < nm.length
        · have c1I : (0 : Int) < (nm.length : Int) := by omega
          by_cases c2 : 1 ≤ P
          · have c2I : (1 : Int) ≤ (P : Int) := by omega
            by_cases c3 : P ≤ kk
            · have c3I : (P : Int) ≤ (kk : Int) := by omega
              by_cases c4 : M ≤ 1048576
              · have c4I : (M : Int) ≤ 1048576 := by omega
                have Ho := Lib.hid (show o = some (⟨⟨nm.toArray⟩, P, A, M⟩, at_) by rw [ho]; unfold entEnd; rw [if_pos ⟨c1, c2, c3, c4⟩])
                clear ho
                obtain ⟨n0, n1, n2, _⟩ := cells3 (w := wr) hn
                obtain ⟨n0d, n1d, n2d, _⟩ := cells3 (w := wr.drew) hn
                obtain ⟨q0, q1, q2, f0, f1, f2⟩ := cells3 (w := wr) hRr
                obtain ⟨q0d, q1d, q2d, f0d, f1d, f2d⟩ := cells3 (w := wr.drew) hRr
                have hcv := run_bytes_str (P := Tryz.prog) (hrn.below ((Below.refl _ _).drew)) Tryz.underlying25 Tryz.underlying5 Tryz.underlying9
                have hcv2 := run_bytes_str (P := Tryz.prog) hrn Tryz.underlying25 Tryz.underlying5 Tryz.underlying9
                have hU3 : Upd (· = w.heap.size) wr (((wr.setCell ⟨w.heap.size, 0, none⟩ (.slice none 0 0)).setCell ⟨w.heap.size, 1, none⟩ (.int .i64 (P : Int))).setCell ⟨w.heap.size, 2, none⟩ (.int .i64 (A : Int))) := (setCell2_upd _ _).trans (setCell_upd 2 _) (fun _ hk => Or.inl hk)
                obtain ⟨y0, y1, y2, _⟩ := cells3 (hU3.keep hn (fun e => Hneb.out e.symm))
                obtain ⟨y0d, y1d, y2d, _⟩ := cells3 (w := (((wr.setCell ⟨w.heap.size, 0, none⟩ (.slice none 0 0)).setCell ⟨w.heap.size, 1, none⟩ (.int .i64 (P : Int))).setCell ⟨w.heap.size, 2, none⟩ (.int .i64 (A : Int))).drew) (hU3.keep hn (fun e => Hneb.out e.symm))
                have hrn3 := hrn.keep hU3 (fun g hg e => by have := row_from HR.out.1 hg; omega)
                have hcv3 := run_bytes_str (P := Tryz.prog) hrn3 Tryz.underlying25 Tryz.underlying5 Tryz.underlying9
                have hcv4 := run_bytes_str (P := Tryz.prog) (hrn3.below ((Below.refl _ _).drew)) Tryz.underlying25 Tryz.underlying5 Tryz.underlying9
                have hRf : (((wr.setCell ⟨w.heap.size, 0, none⟩ (.slice none 0 0)).setCell ⟨w.heap.size, 1, none⟩ (.int .i64 (P : Int))).setCell ⟨w.heap.size, 2, none⟩ (.int .i64 (A : Int))).heap[w.heap.size]? = some (.cells #[.slice none 0 0, .int .i64 (P : Int), .int .i64 (A : Int)] 104 (0, 0)) := setCell_at (setCell_at (setCell_at hRr 0 _) 1 _) 2 _
                have hlF := run_loadVar_row (P := Tryz.prog) (((wr.setCell ⟨w.heap.size, 0, none⟩ (.slice none 0 0)).setCell ⟨w.heap.size, 1, none⟩ (.int .i64 (P : Int))).setCell ⟨w.heap.size, 2, none⟩ (.int .i64 (A : Int))).drew w.heap.size 104 104 _ (0, 0) _ hRf Tryz.underlying104 rfl (by kernel_rfl)
                have HB := Lib.hid (hBr.trans (hU3.below (fun k hk => by rw [hk]; exact Nat.le_refl _) hBr.size)).drew
                have HlF := Lib.hid hlF
                clear hrn3 hRf hlF hBr hU hn hRr hrd hrn hU3
                go_upto_region 14 with fail
                go_region
                all_goals
                  go_wp2_with fail
                  (try simp only [Exit.inBlock, Exit.then])
                  refine bodyPost_ret (results_cellE rfl _ _ _ ⟨w.heap.size, 0, none⟩ (.agg #[.slice none 0 0, .int .i64 (P : Int), .int .i64 (A : Int)]) rfl (HlF.out)) rfl ?_
                  exact EntPost.good Ho.out HB.out
              · have c4I : ¬ (M : Int) ≤ 1048576 := by omega
                have Ho := Lib.hid (show o = none by rw [ho]; unfold entEnd; rw [if_neg (fun h => c4 h.2.2.2)])
                clear ho c4
                obtain ⟨n0, n1, n2, _⟩ := cells3 (w := wr) hn
                obtain ⟨n0d, n1d, n2d, _⟩ := cells3 (w := wr.drew) hn
                obtain ⟨q0, q1, q2, f0, f1, f2⟩ := cells3 (w := wr) hRr
                obtain ⟨q0d, q1d, q2d, f0d, f1d, f2d⟩ := cells3 (w := wr.drew) hRr
                have hcv := run_bytes_str (P := Tryz.prog) (hrn.below ((Below.refl _ _).drew)) Tryz.underlying25 Tryz.underlying5 Tryz.underlying9
                have hcv2 := run_bytes_str (P := Tryz.prog) hrn Tryz.underlying25 Tryz.underlying5 Tryz.underlying9
                have hU3 : Upd (· = w.heap.size) wr (((wr.setCell ⟨w.heap.size, 0, none⟩ (.slice none 0 0)).setCell ⟨w.heap.size, 1, none⟩ (.int .i64 (P : Int))).setCell ⟨w.heap.size, 2, none⟩ (.int .i64 (A : Int))) := (setCell2_upd _ _).trans (setCell_upd 2 _) (fun _ hk => Or.inl hk)
                obtain ⟨y0, y1, y2, _⟩ := cells3 (hU3.keep hn (fun e => Hneb.out e.symm))
                obtain ⟨y0d, y1d, y2d, _⟩ := cells3 (w := (((wr.setCell ⟨w.heap.size, 0, none⟩ (.slice none 0 0)).setCell ⟨w.heap.size, 1, none⟩ (.int .i64 (P : Int))).setCell ⟨w.heap.size, 2, none⟩ (.int .i64 (A : Int))).drew) (hU3.keep hn (fun e => Hneb.out e.symm))
                have hrn3 := hrn.keep hU3 (fun g hg e => by have := row_from HR.out.1 hg; omega)
                have hcv3 := run_bytes_str (P := Tryz.prog) hrn3 Tryz.underlying25 Tryz.underlying5 Tryz.underlying9
                have hcv4 := run_bytes_str (P := Tryz.prog) (hrn3.below ((Below.refl _ _).drew)) Tryz.underlying25 Tryz.underlying5 Tryz.underlying9
                have hRf : (((wr.setCell ⟨w.heap.size, 0, none⟩ (.slice none 0 0)).setCell ⟨w.heap.size, 1, none⟩ (.int .i64 (P : Int))).setCell ⟨w.heap.size, 2, none⟩ (.int .i64 (A : Int))).heap[w.heap.size]? = some (.cells #[.slice none 0 0, .int .i64 (P : Int), .int .i64 (A : Int)] 104 (0, 0)) := setCell_at (setCell_at (setCell_at hRr 0 _) 1 _) 2 _
                have hlF := run_loadVar_row (P := Tryz.prog) (((wr.setCell ⟨w.heap.size, 0, none⟩ (.slice none 0 0)).setCell ⟨w.heap.size, 1, none⟩ (.int .i64 (P : Int))).setCell ⟨w.heap.size, 2, none⟩ (.int .i64 (A : Int))).drew w.heap.size 104 104 _ (0, 0) _ hRf Tryz.underlying104 rfl (by kernel_rfl)
                have HB := Lib.hid (hBr.trans (hU3.below (fun k hk => by rw [hk]; exact Nat.le_refl _) hBr.size)).drew
                have HlF := Lib.hid hlF
                clear hrn3 hRf hlF hBr hU hn hRr hrd hrn hU3
                go_upto_region 14 with fail
                go_region
                all_goals
                  go_wp2_with fail
                  (try simp only [Exit.inBlock, Exit.then])
                  refine bodyPost_ret (results_cellE rfl _ _ _ ⟨w.heap.size, 0, none⟩ (.agg #[.slice none 0 0, .int .i64 (P : Int), .int .i64 (A : Int)]) rfl (HlF.out)) rfl ?_
                  exact EntPost.bad Ho.out HB.out _ _ _ _ _
            · have c3I : ¬ (P : Int) ≤ (kk : Int) := by omega
              have Ho := Lib.hid (show o = none by rw [ho]; unfold entEnd; rw [if_neg (fun h => c3 h.2.2.1)])
              clear ho c3
              obtain ⟨n0, n1, n2, _⟩ := cells3 (w := wr) hn
              obtain ⟨n0d, n1d, n2d, _⟩ := cells3 (w := wr.drew) hn
              obtain ⟨q0, q1, q2, f0, f1, f2⟩ := cells3 (w := wr) hRr
              obtain ⟨q0d, q1d, q2d, f0d, f1d, f2d⟩ := cells3 (w := wr.drew) hRr
              have hcv := run_bytes_str (P := Tryz.prog) (hrn.below ((Below.refl _ _).drew)) Tryz.underlying25 Tryz.underlying5 Tryz.underlying9
              have hcv2 := run_bytes_str (P := Tryz.prog) hrn Tryz.underlying25 Tryz.underlying5 Tryz.underlying9
              have hU3 : Upd (· = w.heap.size) wr (((wr.setCell ⟨w.heap.size, 0, none⟩ (.slice none 0 0)).setCell ⟨w.heap.size, 1, none⟩ (.int .i64 (P : Int))).setCell ⟨w.heap.size, 2, none⟩ (.int .i64 (A : Int))) := (setCell2_upd _ _).trans (setCell_upd 2 _) (fun _ hk => Or.inl hk)
              obtain ⟨y0, y1, y2, _⟩ := cells3 (hU3.keep hn (fun e => Hneb.out e.symm))
              obtain ⟨y0d, y1d, y2d, _⟩ := cells3 (w := (((wr.setCell ⟨w.heap.size, 0, none⟩ (.slice none 0 0)).setCell ⟨w.heap.size, 1, none⟩ (.int .i64 (P : Int))).setCell ⟨w.heap.size, 2, none⟩ (.int .i64 (A : Int))).drew) (hU3.keep hn (fun e => Hneb.out e.symm))
              have hrn3 := hrn.keep hU3 (fun g hg e => by have := row_from HR.out.1 hg; omega)
              have hcv3 := run_bytes_str (P := Tryz.prog) hrn3 Tryz.underlying25 Tryz.underlying5 Tryz.underlying9
              have hcv4 := run_bytes_str (P := Tryz.prog) (hrn3.below ((Below.refl _ _).drew)) Tryz.underlying25 Tryz.underlying5 Tryz.underlying9
              have hRf : (((wr.setCell ⟨w.heap.size, 0, none⟩ (.slice none 0 0)).setCell ⟨w.heap.size, 1, none⟩ (.int .i64 (P : Int))).setCell ⟨w.heap.size, 2, none⟩ (.int .i64 (A : Int))).heap[w.heap.size]? = some (.cells #[.slice none 0 0, .int .i64 (P : Int), .int .i64 (A : Int)] 104 (0, 0)) := setCell_at (setCell_at (setCell_at hRr 0 _) 1 _) 2 _
              have hlF := run_loadVar_row (P := Tryz.prog) (((wr.setCell ⟨w.heap.size, 0, none⟩ (.slice none 0 0)).setCell ⟨w.heap.size, 1, none⟩ (.int .i64 (P : Int))).setCell ⟨w.heap.size, 2, none⟩ (.int .i64 (A : Int))).drew w.heap.size 104 104 _ (0, 0) _ hRf Tryz.underlying104 rfl (by kernel_rfl)
              have HB := Lib.hid (hBr.trans (hU3.below (fun k hk => by rw [hk]; exact Nat.le_refl _) hBr.size)).drew
              have HlF := Lib.hid hlF
              clear hrn3 hRf hlF hBr hU hn hRr hrd hrn hU3
              go_upto_region 14 with fail
              go_region
              all_goals
                go_wp2_with fail
                (try simp only [Exit.inBlock, Exit.then])
                refine bodyPost_ret (results_cellE rfl _ _ _ ⟨w.heap.size, 0, none⟩ (.agg #[.slice none 0 0, .int .i64 (P : Int), .int .i64 (A : Int)]) rfl (HlF.out)) rfl ?_
                exact EntPost.bad Ho.out HB.out _ _ _ _ _
          · have c2I : ¬ (1 : Int) ≤ (P : Int) := by omega
            have Ho := Lib.hid (show o = none by rw [ho]; unfold entEnd; rw [if_neg (fun h => c2 h.2.1)])
            clear ho c2
            obtain ⟨n0, n1, n2, _⟩ := cells3 (w := wr) hn
            obtain ⟨n0d, n1d, n2d, _⟩ := cells3 (w := wr.drew) hn
            obtain ⟨q0, q1, q2, f0, f1, f2⟩ := cells3 (w := wr) hRr
            obtain ⟨q0d, q1d, q2d, f0d, f1d, f2d⟩ := cells3 (w := wr.drew) hRr
            have hcv := run_bytes_str (P := Tryz.prog) (hrn.below ((Below.refl _ _).drew)) Tryz.underlying25 Tryz.underlying5 Tryz.underlying9
            have hcv2 := run_bytes_str (P := Tryz.prog) hrn Tryz.underlying25 Tryz.underlying5 Tryz.underlying9
            have hU3 : Upd (· = w.heap.size) wr (((wr.setCell ⟨w.heap.size, 0, none⟩ (.slice none 0 0)).setCell ⟨w.heap.size, 1, none⟩ (.int .i64 (P : Int))).setCell ⟨w.heap.size, 2, none⟩ (.int .i64 (A : Int))) := (setCell2_upd _ _).trans (setCell_upd 2 _) (fun _ hk => Or.inl hk)
            obtain ⟨y0, y1, y2, _⟩ := cells3 (hU3.keep hn (fun e => Hneb.out e.symm))
            obtain ⟨y0d, y1d, y2d, _⟩ := cells3 (w := (((wr.setCell ⟨w.heap.size, 0, none⟩ (.slice none 0 0)).setCell ⟨w.heap.size, 1, none⟩ (.int .i64 (P : Int))).setCell ⟨w.heap.size, 2, none⟩ (.int .i64 (A : Int))).drew) (hU3.keep hn (fun e => Hneb.out e.symm))
            have hrn3 := hrn.keep hU3 (fun g hg e => by have := row_from HR.out.1 hg; omega)
            have hcv3 := run_bytes_str (P := Tryz.prog) hrn3 Tryz.underlying25 Tryz.underlying5 Tryz.underlying9
            have hcv4 := run_bytes_str (P := Tryz.prog) (hrn3.below ((Below.refl _ _).drew)) Tryz.underlying25 Tryz.underlying5 Tryz.underlying9
            have hRf : (((wr.setCell ⟨w.heap.size, 0, none⟩ (.slice none 0 0)).setCell ⟨w.heap.size, 1, none⟩ (.int .i64 (P : Int))).setCell ⟨w.heap.size, 2, none⟩ (.int .i64 (A : Int))).heap[w.heap.size]? = some (.cells #[.slice none 0 0, .int .i64 (P : Int), .int .i64 (A : Int)] 104 (0, 0)) := setCell_at (setCell_at (setCell_at hRr 0 _) 1 _) 2 _
            have hlF := run_loadVar_row (P := Tryz.prog) (((wr.setCell ⟨w.heap.size, 0, none⟩ (.slice none 0 0)).setCell ⟨w.heap.size, 1, none⟩ (.int .i64 (P : Int))).setCell ⟨w.heap.size, 2, none⟩ (.int .i64 (A : Int))).drew w.heap.size 104 104 _ (0, 0) _ hRf Tryz.underlying104 rfl (by kernel_rfl)
            have HB := Lib.hid (hBr.trans (hU3.below (fun k hk => by rw [hk]; exact Nat.le_refl _) hBr.size)).drew
            have HlF := Lib.hid hlF
            clear hrn3 hRf hlF hBr hU hn hRr hrd hrn hU3
            go_upto_region 14 with fail
            go_region
            all_goals
              go_wp2_with fail
              (try simp only [Exit.inBlock, Exit.then])
              refine bodyPost_ret (results_cellE rfl _ _ _ ⟨w.heap.size, 0, none⟩ (.agg #[.slice none 0 0, .int .i64 (P : Int), .int .i64 (A : Int)]) rfl (HlF.out)) rfl ?_
              exact EntPost.bad Ho.out HB.out _ _ _ _ _
        · have c1I : ¬ (0 : Int) < (nm.length : Int) := by omega
          have Ho := Lib.hid (show o = none by rw [ho]; unfold entEnd; rw [if_neg (fun h => c1 h.1)])
          clear ho
          obtain ⟨n0, n1, n2, _⟩ := cells3 (w := wr) hn
          obtain ⟨n0d, n1d, n2d, _⟩ := cells3 (w := wr.drew) hn
          obtain ⟨q0, q1, q2, f0, f1, f2⟩ := cells3 (w := wr) hRr
          obtain ⟨q0d, q1d, q2d, f0d, f1d, f2d⟩ := cells3 (w := wr.drew) hRr
          have hcv := run_bytes_str (P := Tryz.prog) (hrn.below ((Below.refl _ _).drew)) Tryz.underlying25 Tryz.underlying5 Tryz.underlying9
          have hcv2 := run_bytes_str (P := Tryz.prog) hrn Tryz.underlying25 Tryz.underlying5 Tryz.underlying9
          have hU3 : Upd (· = w.heap.size) wr (((wr.setCell ⟨w.heap.size, 0, none⟩ (.slice none 0 0)).setCell ⟨w.heap.size, 1, none⟩ (.int .i64 (P : Int))).setCell ⟨w.heap.size, 2, none⟩ (.int .i64 (A : Int))) := (setCell2_upd _ _).trans (setCell_upd 2 _) (fun _ hk => Or.inl hk)
          obtain ⟨y0, y1, y2, _⟩ := cells3 (hU3.keep hn (fun e => Hneb.out e.symm))
          obtain ⟨y0d, y1d, y2d, _⟩ := cells3 (w := (((wr.setCell ⟨w.heap.size, 0, none⟩ (.slice none 0 0)).setCell ⟨w.heap.size, 1, none⟩ (.int .i64 (P : Int))).setCell ⟨w.heap.size, 2, none⟩ (.int .i64 (A : Int))).drew) (hU3.keep hn (fun e => Hneb.out e.symm))
          have hrn3 := hrn.keep hU3 (fun g hg e => by have := row_from HR.out.1 hg; omega)
          have hcv3 := run_bytes_str (P := Tryz.prog) hrn3 Tryz.underlying25 Tryz.underlying5 Tryz.underlying9
          have hcv4 := run_bytes_str (P := Tryz.prog) (hrn3.below ((Below.refl _ _).drew)) Tryz.underlying25 Tryz.underlying5 Tryz.underlying9
          have hRf : (((wr.setCell ⟨w.heap.size, 0, none⟩ (.slice none 0 0)).setCell ⟨w.heap.size, 1, none⟩ (.int .i64 (P : Int))).setCell ⟨w.heap.size, 2, none⟩ (.int .i64 (A : Int))).heap[w.heap.size]? = some (.cells #[.slice none 0 0, .int .i64 (P : Int), .int .i64 (A : Int)] 104 (0, 0)) := setCell_at (setCell_at (setCell_at hRr 0 _) 1 _) 2 _
          have hlF := run_loadVar_row (P := Tryz.prog) (((wr.setCell ⟨w.heap.size, 0, none⟩ (.slice none 0 0)).setCell ⟨w.heap.size, 1, none⟩ (.int .i64 (P : Int))).setCell ⟨w.heap.size, 2, none⟩ (.int .i64 (A : Int))).drew w.heap.size 104 104 _ (0, 0) _ hRf Tryz.underlying104 rfl (by kernel_rfl)
          have HB := Lib.hid (hBr.trans (hU3.below (fun k hk => by rw [hk]; exact Nat.le_refl _) hBr.size)).drew
          have HlF := Lib.hid hlF
          clear hrn3 hRf hlF hBr hU hn hRr hrd hrn hU3
          go_upto_region 14 with fail
          go_region
          all_goals
            go_wp2_with fail
            (try simp only [Exit.inBlock, Exit.then])
            refine bodyPost_ret (results_cellE rfl _ _ _ ⟨w.heap.size, 0, none⟩ (.agg #[.slice none 0 0, .int .i64 (P : Int), .int .i64 (A : Int)]) rfl (HlF.out)) rfl ?_
            exact EntPost.bad Ho.out HB.out _ _ _ _ _
      · have hef : (er' == 0) = false := by simpa using her
        have Ho := Lib.hid hnone
        clear her hnone hk3
        obtain ⟨n0, n1, n2, _⟩ := cells3 (w := wr) hn
        obtain ⟨n0d, n1d, n2d, _⟩ := cells3 (w := wr.drew) hn
        obtain ⟨q0, q1, q2, f0, f1, f2⟩ := cells3 (w := wr) hRr
        obtain ⟨q0d, q1d, q2d, f0d, f1d, f2d⟩ := cells3 (w := wr.drew) hRr
        have hcv := run_bytes_str (P := Tryz.prog) (hrn.below ((Below.refl _ _).drew)) Tryz.underlying25 Tryz.underlying5 Tryz.underlying9
        have hcv2 := run_bytes_str (P := Tryz.prog) hrn Tryz.underlying25 Tryz.underlying5 Tryz.underlying9
        have hU3 : Upd (· = w.heap.size) wr (((wr.setCell ⟨w.heap.size, 0, none⟩ (.slice none 0 0)).setCell ⟨w.heap.size, 1, none⟩ (.int .i64 (z 0))).setCell ⟨w.heap.size, 2, none⟩ (.int .i64 (z 1))) := (setCell2_upd _ _).trans (setCell_upd 2 _) (fun _ hk => Or.inl hk)
        obtain ⟨y0, y1, y2, _⟩ := cells3 (hU3.keep hn (fun e => Hneb.out e.symm))
        obtain ⟨y0d, y1d, y2d, _⟩ := cells3 (w := (((wr.setCell ⟨w.heap.size, 0, none⟩ (.slice none 0 0)).setCell ⟨w.heap.size, 1, none⟩ (.int .i64 (z 0))).setCell ⟨w.heap.size, 2, none⟩ (.int .i64 (z 1))).drew) (hU3.keep hn (fun e => Hneb.out e.symm))
        have hrn3 := hrn.keep hU3 (fun g hg e => by have := row_from HR.out.1 hg; omega)
        have hcv3 := run_bytes_str (P := Tryz.prog) hrn3 Tryz.underlying25 Tryz.underlying5 Tryz.underlying9
        have hcv4 := run_bytes_str (P := Tryz.prog) (hrn3.below ((Below.refl _ _).drew)) Tryz.underlying25 Tryz.underlying5 Tryz.underlying9
        have hRf : (((wr.setCell ⟨w.heap.size, 0, none⟩ (.slice none 0 0)).setCell ⟨w.heap.size, 1, none⟩ (.int .i64 (z 0))).setCell ⟨w.heap.size, 2, none⟩ (.int .i64 (z 1))).heap[w.heap.size]? = some (.cells #[.slice none 0 0, .int .i64 (z 0), .int .i64 (z 1)] 104 (0, 0)) := setCell_at (setCell_at (setCell_at hRr 0 _) 1 _) 2 _
        have hlF := run_loadVar_row (P := Tryz.prog) (((wr.setCell ⟨w.heap.size, 0, none⟩ (.slice none 0 0)).setCell ⟨w.heap.size, 1, none⟩ (.int .i64 (z 0))).setCell ⟨w.heap.size, 2, none⟩ (.int .i64 (z 1))).drew w.heap.size 104 104 _ (0, 0) _ hRf Tryz.underlying104 rfl (by kernel_rfl)
        have HB := Lib.hid (hBr.trans (hU3.below (fun k hk => by rw [hk]; exact Nat.le_refl _) hBr.size)).drew
        have HlF := Lib.hid hlF
        clear hrn3 hRf hlF hBr hU hn hRr hrd hrn hU3
        go_upto_region 14 with fail
        go_region
        all_goals
          go_wp2_with fail
          (try simp only [Exit.inBlock, Exit.then])
          refine bodyPost_ret (results_cellE rfl _ _ _ ⟨w.heap.size, 0, none⟩ (.agg #[.slice none 0 0, .int .i64 (z 0), .int .i64 (z 1)]) rfl (HlF.out)) rfl ?_
          exact EntPost.bad Ho.out HB.out _ _ _ _ _
end Go.Proofs.YtbepcjajbcecnaaGreatDoor

/-
  Three rows of one's own that grow by appends in one statement, whatever its order (printed by wip/gen/gen_tri.py).
-/
namespace Go.Proofs.YtbepcjajbcecnaaGreatDoor
open Go.RowKit Go.Maps Go.MapKept

theorem info_str6 : (Tryz.prog.info? 9).map (fun i => (i.zero, i.size, i.bytes)) = some (some (.string ⟨#[]⟩), 1, 16) := by kernel_rfl
theorem info_int6 : (Tryz.prog.info? 3).map (fun i => (i.zero, i.size, i.bytes)) = some (some (.int .i64 0), 1, 8) := by kernel_rfl
theorem info_blob6 : (Tryz.prog.info? 104).map (fun i => (i.zero, i.size, i.bytes)) = some (some (.agg #[.slice none 0 0, .int .i64 0, .int .i64 0]), 3, 40) := by kernel_rfl
theorem run_append_rowN5 {P : Program} (w : World) (t ty e : TypeId) (i : TypeInfo) (z : Value) (sz bytes : Nat) (ht : P.underlying t = some (.slice e)) (hi : P.info? e = some i) (hz : i.zero = some z)
    (hsize : i.size = sz) (hby : i.bytes = bytes) (hzs : z.cells.size = sz) (hsz : 0 < sz)
    (v : Value) (n m : Nat) (xs news : List Value) (hown : w.ownsRow 0 e sz v n xs) (b off c : Nat) (hl : news.length = m * sz) (hnews : ∀ j u, news[j]? = some u → w.cell? ⟨b, off + j, none⟩ = some u) (h1 : ∀ u ∈ news, u.oneCell' = true)
    (h63 : n + m ≤ maxLen) (hbytes : (n + m) * bytes ≤ 140737488355328) :
    ∃ v' w', (Builtin.append_ #[t, t] ty #[v, .slice (some ⟨b, off, none⟩) m c]).run P w = .ok v' w' ∧ w'.ownsRow 0 e sz v' (n + m) (xs ++ news) ∧ w.grownBy w' v.ownBlock ∧
      (v'.ownBlock = v.ownBlock ∨ ∃ g, v'.ownBlock = some g ∧ w.heap.size ≤ g) := by
  obtain ⟨v', w', hr, ho, hg, hn⟩ := run_append_own (P := P) w 0 t ty e i z sz bytes ht hi hz hsize hby hzs hsz v n xs hown ⟨b, off, none⟩ m c news hl (by simpa [Addr.add_lit] using hnews) h1 h63 hbytes (Nat.zero_le _)
  refine ⟨v', w', hr, ho, hg, ?_⟩
  rcases hown.2 with ⟨rfl, rfl⟩ | ⟨g, cap, cur, rfl, hbg, hgc, hnc, hcm, hcs, htake⟩
  · have hx : xs = [] := List.eq_nil_of_length_eq_zero (by simpa using hown.1)
    subst hx
    obtain ⟨v2, w2, hr2, ho2, _, _⟩ := run_append_own (P := P) w w.heap.size t ty e i z sz bytes ht hi hz hsize hby hzs hsz (.slice none 0 0) 0 [] (World.ownsRow_nil w _ e sz) ⟨b, off, none⟩ m c news hl (by simpa [Addr.add_lit] using hnews) h1 h63 hbytes (Nat.le_refl _)
    rw [hr] at hr2
    cases hr2
    rcases ho2.2 with ⟨rfl, _⟩ | ⟨g', _, _, rfl, hb', _⟩
    · exact Or.inl rfl
    · exact Or.inr ⟨g', rfl, hb'⟩
  · subst hby
    have hsmall : n + m ≤ 9223372036854775807 := by simp only [maxLen] at h63; omega
    by_cases hroom : n + m ≤ cap
    · have hr2 := run_append_room (P := P) w t ty e i ht hi g n cap cur hgc ⟨b, off, none⟩ m c news (by rw [hsize]; exact hl) (by simpa [Addr.add_lit] using hnews) h1 hroom (by rw [hsize, hcs, hl, ← Nat.add_mul]; exact Nat.mul_le_mul_right _ hroom)
      rw [hr] at hr2
      cases hr2
      exact Or.inl rfl
    · have holds : ∀ j u, xs[j]? = some u → w.cell? ((⟨g, 0, none⟩ : Addr).add j) = some u := hown.cells (g := g) rfl
      have hr2 := run_append_grow (P := P) w t ty e i z ht hi hz ⟨g, 0, none⟩ n cap xs (by rw [hsize]; exact hown.1) holds ⟨b, off, none⟩ m c news (by rw [hsize]; exact hl) (by simpa [Addr.add_lit] using hnews) (by omega) (by omega) (growslice_fits (by omega) hbytes)
      rw [hr] at hr2
      cases hr2
      exact Or.inr ⟨w.heap.size, rfl, Nat.le_refl _⟩
/-- three rows in blocks that are new since w0, apart from one another; blocks T that are read. -/
structure Tri (w0 w : World) (v1 v2 v3 : Value) (n1 n2 n3 : Nat) (x1 x2 x3 : List Value) (T : List (Nat × Obj)) : Prop where
  bel : Below w0.heap.size w0 w
  r1 : w.ownsRow w0.heap.size 9 1 v1 n1 x1
  r2 : w.ownsRow w0.heap.size 104 3 v2 n2 x2
  r3 : w.ownsRow w0.heap.size 3 1 v3 n3 x3
  ne12 : ∀ g, v1.ownBlock = some g → v2.ownBlock ≠ some g
  ne13 : ∀ g, v1.ownBlock = some g → v3.ownBlock ≠ some g
  ne23 : ∀ g, v2.ownBlock = some g → v3.ownBlock ≠ some g
  tmp : ∀ t ∈ T, w.heap[t.1]? = some t.2 ∧ w0.heap.size ≤ t.1 ∧ v1.ownBlock ≠ some t.1 ∧ v2.ownBlock ≠ some t.1 ∧ v3.ownBlock ≠ some t.1
section
variable {w0 w w' : World} {v1 v2 v3 : Value} {n1 n2 n3 : Nat} {x1 x2 x3 : List Value} {T : List (Nat × Obj)}
theorem Tri.start (w : World) : Tri w w (.slice none 0 0) (.slice none 0 0) (.slice none 0 0) 0 0 0 [] [] [] [] :=
  ⟨Below.refl _ _, World.ownsRow_nil _ _ _ _, World.ownsRow_nil _ _ _ _, World.ownsRow_nil _ _ _ _, fun g h => (by cases h), fun g h => (by cases h), fun g h => (by cases h), fun t ht => (by cases ht)⟩
theorem Tri.below (h : Tri w0 w v1 v2 v3 n1 n2 n3 x1 x2 x3 T) (hB : Below w.heap.size w w') : Tri w0 w' v1 v2 v3 n1 n2 n3 x1 x2 x3 T :=
  have hU : Upd noFp w w' := Upd.ofBelow hB
  ⟨h.bel.trans (hB.mono h.bel.size), hU.row h.r1 (fun _ _ h => h), hU.row h.r2 (fun _ _ h => h), hU.row h.r3 (fun _ _ h => h), h.ne12, h.ne13, h.ne23, fun t ht => ⟨hU.keep (h.tmp t ht).1 (fun h => h), (h.tmp t ht).2⟩⟩
theorem Tri.drew (h : Tri w0 w v1 v2 v3 n1 n2 n3 x1 x2 x3 T) : Tri w0 w.drew v1 v2 v3 n1 n2 n3 x1 x2 x3 T := h.below ((Below.refl _ _).drew)
theorem Tri.alloc (h : Tri w0 w v1 v2 v3 n1 n2 n3 x1 x2 x3 T) (o : Obj) : Tri w0 (w.alloc o) v1 v2 v3 n1 n2 n3 x1 x2 x3 ((w.heap.size, o) :: T) := by
  have h2 := h.below (w' := w.alloc o) ((Below.refl _ _).alloc (Nat.le_refl _) _)
  refine ⟨h2.bel, h2.r1, h2.r2, h2.r3, h2.ne12, h2.ne13, h2.ne23, fun t ht => ?_⟩
  rcases List.mem_cons.1 ht with rfl | ht
  · exact ⟨alloc_at _ _, h.bel.size, fun e => Nat.lt_irrefl _ (h.r1.lt _ e).2, fun e => Nat.lt_irrefl _ (h.r2.lt _ e).2, fun e => Nat.lt_irrefl _ (h.r3.lt _ e).2⟩
  · exact h2.tmp t ht
theorem Tri.clear (h : Tri w0 w v1 v2 v3 n1 n2 n3 x1 x2 x3 T) : Tri w0 w v1 v2 v3 n1 n2 n3 x1 x2 x3 [] := ⟨h.bel, h.r1, h.r2, h.r3, h.ne12, h.ne13, h.ne23, fun t ht => (by cases ht)⟩
theorem Tri.grown1 {v' : Value} {ys : List Value} (h : Tri w0 w v1 v2 v3 n1 n2 n3 x1 x2 x3 T) (g1 : w'.ownsRow 0 9 1 v' (n1 + 1) (x1 ++ ys)) (g2 : w.grownBy w' v1.ownBlock) (g3 : v'.ownBlock = v1.ownBlock ∨ ∃ g, v'.ownBlock = some g ∧ w.heap.size ≤ g) :
    Tri w0 w' v' v2 v3 (n1 + 1) n2 n3 (x1 ++ ys) x2 x3 T := by
  have hU : Upd (fun g => v1.ownBlock = some g) w w' := (Upd.refl _ _).grown g2 (fun g hg => Or.inl hg)
  have hs := h.bel.size
  have hv : ∀ g, v'.ownBlock = some g → v1.ownBlock = some g ∨ w.heap.size ≤ g := fun g hg => by
    rcases g3 with e | ⟨g', e, hg'⟩
    · exact Or.inl (e ▸ hg)
    · rw [e] at hg; cases hg; exact Or.inr hg'
  have hn2 : ∀ g, v'.ownBlock = some g → v2.ownBlock ≠ some g := fun g hg => by
    rcases hv g hg with e | e
    · exact fun e2 => h.ne12 g e e2
    · exact fun e2 => by have := (h.r2.lt g e2).2; omega
  have hn3 : ∀ g, v'.ownBlock = some g → v3.ownBlock ≠ some g := fun g hg => by
    rcases hv g hg with e | e
    · exact fun e2 => h.ne13 g e e2
    · exact fun e2 => by have := (h.r3.lt g e2).2; omega
  refine ⟨h.bel.trans (hU.below (fun k hk => (h.r1.lt k hk).1) hs), ownsRow_from g1 (fun g hg => by rcases hv g hg with e | e; exact (h.r1.lt g e).1; omega), hU.row h.r2 (fun g hg e => h.ne12 g e hg), hU.row h.r3 (fun g hg e => h.ne13 g e hg), hn2, hn3, h.ne23, fun t ht => ?_⟩
  obtain ⟨t1, t2, t3, t4, t5⟩ := h.tmp t ht
  exact ⟨hU.keep t1 (fun e => t3 e), t2, fun e => by rcases hv _ e with e2 | e2; exact t3 e2; have := blk_lt t1; omega, t4, t5⟩
theorem Tri.grown2 {v' : Value} {ys : List Value} (h : Tri w0 w v1 v2 v3 n1 n2 n3 x1 x2 x3 T) (g1 : w'.ownsRow 0 104 3 v' (n2 + 1) (x2 ++ ys)) (g2 : w.grownBy w' v2.ownBlock) (g3 : v'.ownBlock = v2.ownBlock ∨ ∃ g, v'.ownBlock = some g ∧ w.heap.size ≤ g) :
    Tri w0 w' v1 v' v3 n1 (n2 + 1) n3 x1 (x2 ++ ys) x3 T := by
  have hU : Upd (fun g => v2.ownBlock = some g) w w' := (Upd.refl _ _).grown g2 (fun g hg => Or.inl hg)
  have hs := h.bel.size
  have hv : ∀ g, v'.ownBlock = some g → v2.ownBlock = some g ∨ w.heap.size ≤ g := fun g hg => by
    rcases g3 with e | ⟨g', e, hg'⟩
    · exact Or.inl (e ▸ hg)
    · rw [e] at hg; cases hg; exact Or.inr hg'
  have hn1 : ∀ g, v'.ownBlock = some g → v1.ownBlock ≠ some g := fun g hg => by
    rcases hv g hg with e | e
    · exact fun e2 => h.ne12 g e2 e
    · exact fun e2 => by have := (h.r1.lt g e2).2; omega
  have hn3 : ∀ g, v'.ownBlock = some g → v3.ownBlock ≠ some g := fun g hg => by
    rcases hv g hg with e | e
    · exact fun e2 => h.ne23 g e e2
    · exact fun e2 => by have := (h.r3.lt g e2).2; omega
  refine ⟨h.bel.trans (hU.below (fun k hk => (h.r2.lt k hk).1) hs), hU.row h.r1 (fun g hg e => h.ne12 g hg e), ownsRow_from g1 (fun g hg => by rcases hv g hg with e | e; exact (h.r2.lt g e).1; omega), hU.row h.r3 (fun g hg e => h.ne23 g e hg), fun g hg e => hn1 g e hg, h.ne13, hn3, fun t ht => ?_⟩
  obtain ⟨t1, t2, t3, t4, t5⟩ := h.tmp t ht
  exact ⟨hU.keep t1 (fun e => t4 e), t2, t3, fun e => by rcases hv _ e with e2 | e2; exact t4 e2; have := blk_lt t1; omega, t5⟩
theorem Tri.grown3 {v' : Value} {ys : List Value} (h : Tri w0 w v1 v2 v3 n1 n2 n3 x1 x2 x3 T) (g1 : w'.ownsRow 0 3 1 v' (n3 + 1) (x3 ++ ys)) (g2 : w.grownBy w' v3.ownBlock) (g3 : v'.ownBlock = v3.ownBlock ∨ ∃ g, v'.ownBlock = some g ∧ w.heap.size ≤ g) :
    Tri w0 w' v1 v2 v' n1 n2 (n3 + 1) x1 x2 (x3 ++ ys) T := by
  have hU : Upd (fun g => v3.ownBlock = some g) w w' := (Upd.refl _ _).grown g2 (fun g hg => Or.inl hg)
  have hs := h.bel.size
  have hv : ∀ g, v'.ownBlock = some g → v3.ownBlock = some g ∨ w.heap.size ≤ g := fun g hg => by
    rcases g3 with e | ⟨g', e, hg'⟩
    · exact Or.inl (e ▸ hg)
    · rw [e] at hg; cases hg; exact Or.inr hg'
  have hn1 : ∀ g, v'.ownBlock = some g → v1.ownBlock ≠ some g := fun g hg => by
    rcases hv g hg with e | e
    · exact fun e2 => h.ne13 g e2 e
    · exact fun e2 => by have := (h.r1.lt g e2).2; omega
  have hn2 : ∀ g, v'.ownBlock = some g → v2.ownBlock ≠ some g := fun g hg => by
    rcases hv g hg with e | e
    · exact fun e2 => h.ne23 g e2 e
    · exact fun e2 => by have := (h.r2.lt g e2).2; omega
  refine ⟨h.bel.trans (hU.below (fun k hk => (h.r3.lt k hk).1) hs), hU.row h.r1 (fun g hg e => h.ne13 g hg e), hU.row h.r2 (fun g hg e => h.ne23 g hg e), ownsRow_from g1 (fun g hg => by rcases hv g hg with e | e; exact (h.r3.lt g e).1; omega), h.ne12, fun g hg e => hn1 g e hg, fun g hg e => hn2 g e hg, fun t ht => ?_⟩
  obtain ⟨t1, t2, t3, t4, t5⟩ := h.tmp t ht
  exact ⟨hU.keep t1 (fun e => t5 e), t2, t3, t4, fun e => by rcases hv _ e with e2 | e2; exact t5 e2; have := blk_lt t1; omega⟩
theorem step_tri1 {ops : Array Oper} {o : Oper} {a : Act} {K : Act → World → Prop} {Q : Exit → Act → World → Prop} {E : Prop} (I : Tri w0 w v1 v2 v3 n1 n2 n3 x1 x2 x3 T) (hgd : o.guard = none) (s0 x0 : Operand) (ho : o.op = .call { callee := .builtin .append, args := #[s0, x0], argTypes := #[34, 34] }) (hs : a.eval s0 = v1)
    (g : Nat) (s : ByteArray) (hx : a.eval x0 = .slice (some ⟨g, 0, none⟩) 1 1) (hT : (g, Obj.cells #[.string s] 9 (0, 0)) ∈ T) (hn : n1 ≤ 100000)
    (h : ∀ a' c' w', Tri w0 w' (.slice a' (n1 + 1) c') v2 v3 (n1 + 1) n2 n3 (x1 ++ [.string s]) x2 x3 T → K (a.put o.dst (.slice a' (n1 + 1) c')) w') : if Region.wanted o (yielded ops a.tmps) = true then Oper.wp Tryz.prog o a w K Q else E := by
  obtain ⟨i0, hi, hz0, hz1, hz2⟩ := info_parts info_str6
  obtain ⟨t1, _⟩ := I.tmp _ hT
  obtain ⟨v', w', hr, g1, g2, g3⟩ := run_append_rowN5 (P := Tryz.prog) w 34 o.type 9 i0 (.string ⟨#[]⟩) 1 16 Tryz.underlying34 hi hz0 hz1 hz2 rfl (by omega) v1 n1 1 x1 [.string s] (ownsRow_base0 I.r1) g 0 1 rfl (fun j u hu => by rw [Nat.zero_add]; exact (cell_at t1 j).trans (by simpa using hu)) (fun u hu => by
      simp only [List.mem_cons, List.not_mem_nil, or_false] at hu
      subst hu; rfl) (by simp only [maxLen]; omega) (by omega)
  have hsl : ∃ a' c', v' = .slice a' (n1 + 1) c' := by
    rcases g1.2 with ⟨_, h0⟩ | ⟨_, _, _, rfl, _⟩
    · exact absurd h0 (by omega)
    · exact ⟨_, _, rfl⟩
  obtain ⟨a', c', rfl⟩ := hsl
  have I2 := I.grown1 g1 g2 g3
  have hw : Region.wanted o (yielded ops a.tmps) = true := by simp [Region.wanted, hgd]
  rw [if_pos hw]
  unfold Oper.wp execOp
  simp only [ho, resolve, invoke, builtin, Sem.run_bind, Sem.run_pure, Result.andThen_ok, List.map_toArray, List.map_cons, List.map_nil, hs, hx, hr]
  exact h _ _ _ I2
theorem step_tri2 {ops : Array Oper} {o : Oper} {a : Act} {K : Act → World → Prop} {Q : Exit → Act → World → Prop} {E : Prop} (I : Tri w0 w v1 v2 v3 n1 n2 n3 x1 x2 x3 T) (hgd : o.guard = none) (s0 x0 : Operand) (ho : o.op = .call { callee := .builtin .append, args := #[s0, x0], argTypes := #[161, 161] }) (hs : a.eval s0 = v2)
    (g : Nat) (p q : Int) (hx : a.eval x0 = .slice (some ⟨g, 0, none⟩) 1 1) (hT : (g, Obj.cells #[.slice none 0 0, .int .i64 p, .int .i64 q] 104 (0, 0)) ∈ T) (hn : n2 ≤ 100000)
    (h : ∀ a' c' w', Tri w0 w' v1 (.slice a' (n2 + 1) c') v3 n1 (n2 + 1) n3 x1 (x2 ++ [.slice none 0 0, .int .i64 p, .int .i64 q]) x3 T → K (a.put o.dst (.slice a' (n2 + 1) c')) w') : if Region.wanted o (yielded ops a.tmps) = true then Oper.wp Tryz.prog o a w K Q else E := by
  obtain ⟨i0, hi, hz0, hz1, hz2⟩ := info_parts info_blob6
  obtain ⟨t1, _⟩ := I.tmp _ hT
  obtain ⟨v', w', hr, g1, g2, g3⟩ := run_append_rowN5 (P := Tryz.prog) w 161 o.type 104 i0 (.agg #[.slice none 0 0, .int .i64 0, .int .i64 0]) 3 40 Tryz.underlying161 hi hz0 hz1 hz2 rfl (by omega) v2 n2 1 x2 [.slice none 0 0, .int .i64 p, .int .i64 q] (ownsRow_base0 I.r2) g 0 1 rfl (fun j u hu => by rw [Nat.zero_add]; exact (cell_at t1 j).trans (by simpa using hu)) (fun u hu => by
      simp only [List.mem_cons, List.not_mem_nil, or_false] at hu
      rcases hu with rfl | rfl | rfl <;> rfl) (by simp only [maxLen]; omega) (by omega)
  have hsl : ∃ a' c', v' = .slice a' (n2 + 1) c' := by
    rcases g1.2 with ⟨_, h0⟩ | ⟨_, _, _, rfl, _⟩
    · exact absurd h0 (by omega)
    · exact ⟨_, _, rfl⟩
  obtain ⟨a', c', rfl⟩ := hsl
  have I2 := I.grown2 g1 g2 g3
  have hw : Region.wanted o (yielded ops a.tmps) = true := by simp [Region.wanted, hgd]
  rw [if_pos hw]
  unfold Oper.wp execOp
  simp only [ho, resolve, invoke, builtin, Sem.run_bind, Sem.run_pure, Result.andThen_ok, List.map_toArray, List.map_cons, List.map_nil, hs, hx, hr]
  exact h _ _ _ I2
theorem step_tri3 {ops : Array Oper} {o : Oper} {a : Act} {K : Act → World → Prop} {Q : Exit → Act → World → Prop} {E : Prop} (I : Tri w0 w v1 v2 v3 n1 n2 n3 x1 x2 x3 T) (hgd : o.guard = none) (s0 x0 : Operand) (ho : o.op = .call { callee := .builtin .append, args := #[s0, x0], argTypes := #[43, 43] }) (hs : a.eval s0 = v3)
    (g : Nat) (p : Int) (hx : a.eval x0 = .slice (some ⟨g, 0, none⟩) 1 1) (hT : (g, Obj.cells #[.int .i64 p] 3 (0, 0)) ∈ T) (hn : n3 ≤ 100000)
    (h : ∀ a' c' w', Tri w0 w' v1 v2 (.slice a' (n3 + 1) c') n1 n2 (n3 + 1) x1 x2 (x3 ++ [.int .i64 p]) T → K (a.put o.dst (.slice a' (n3 + 1) c')) w') : if Region.wanted o (yielded ops a.tmps) = true then Oper.wp Tryz.prog o a w K Q else E := by
  obtain ⟨i0, hi, hz0, hz1, hz2⟩ := info_parts info_int6
  obtain ⟨t1, _⟩ := I.tmp _ hT
  obtain ⟨v', w', hr, g1, g2, g3⟩ := run_append_rowN5 (P := Tryz.prog) w 43 o.type 3 i0 (.int .i64 0) 1 8 Tryz.underlying43 hi hz0 hz1 hz2 rfl (by omega) v3 n3 1 x3 [.int .i64 p] (ownsRow_base0 I.r3) g 0 1 rfl (fun j u hu => by rw [Nat.zero_add]; exact (cell_at t1 j).trans (by simpa using hu)) (fun u hu => by
      simp only [List.mem_cons, List.not_mem_nil, or_false] at hu
      subst hu; rfl) (by simp only [maxLen]; omega) (by omega)
  have hsl : ∃ a' c', v' = .slice a' (n3 + 1) c' := by
    rcases g1.2 with ⟨_, h0⟩ | ⟨_, _, _, rfl, _⟩
    · exact absurd h0 (by omega)
    · exact ⟨_, _, rfl⟩
  obtain ⟨a', c', rfl⟩ := hsl
  have I2 := I.grown3 g1 g2 g3
  have hw : Region.wanted o (yielded ops a.tmps) = true := by simp [Region.wanted, hgd]
  rw [if_pos hw]
  unfold Oper.wp execOp
  simp only [ho, resolve, invoke, builtin, Sem.run_bind, Sem.run_pure, Result.andThen_ok, List.map_toArray, List.map_cons, List.map_nil, hs, hx, hr]
  exact h _ _ _ I2
end
end Go.Proofs.YtbepcjajbcecnaaGreatDoor
