/-
  An index's entry is read.
-/
import Derived.Outline
import Derived.BigRegion
import Derived.Deep.CutRange
import Derived.Test.YtbepcjajbcecnaaGreatDoorMPag12
import Derived.Test.YtbepcjajbcecnaaGreatDoorMPgm18
namespace Go.Proofs.YtbepcjajbcecnaaGreatDoor
open Go.RowKit Go.Maps Go.MapKept
set_option linter.unusedSimpArgs false

theorem results_cellE {fn : Func} {t a u1 u2 u3 : Tmp} {ty : TypeId} (h : fn.results = #[.tmp t, .cell a ty, .tmp u1, .tmp u2, .tmp u3]) (tmps : Array Value) (P : Program) (w : World) (ad : Addr) (x : Value) (ha : tmps.getD a undef = .pointer (some ad)) (hl : (loadVar ty ad).run P w = .ok x w) :
    (results fn tmps).run P w = .ok (.tuple #[tmps.getD t undef, x, tmps.getD u1 undef, tmps.getD u2 undef, tmps.getD u3 undef]) w := by
  have ha' : tmps[a]?.getD undef = .pointer (some ad) := by simpa using ha
  simp [results, h, ha', asAddr, hl, Result.andThen]
def EntPost (o : Option (AEnt × Nat)) (w : World) (e : Ending) (w' : World) : Prop :=
  Below w.heap.size w w' ∧ match o with
  | some (x, at2) => e = .returned (.tuple #[.string x.name, .agg #[.slice none 0 0, .int .i64 x.pack, .int .i64 x.pos], .int .i64 x.long, .int .i64 at2, .bool true])
  | none => ∃ (s : ByteArray) (x y m b : Int), e = .returned (.tuple #[.string s, .agg #[.slice none 0 0, .int .i64 x, .int .i64 y], .int .i64 m, .int .i64 b, .bool false])
theorem EntPost.bad {w w' : World} {o : Option (AEnt × Nat)} (h : o = none) (hB : Below w.heap.size w w') (s : ByteArray) (x y m b : Int) : EntPost o w (.returned (.tuple #[.string s, .agg #[.slice none 0 0, .int .i64 x, .int .i64 y], .int .i64 m, .int .i64 b, .bool false])) w' := by
  subst h; exact ⟨hB, s, x, y, m, b, rfl⟩
theorem EntPost.good {w w' : World} {o : Option (AEnt × Nat)} {x : AEnt} {at2 : Nat} (h : o = some (x, at2)) (hB : Below w.heap.size w w') : EntPost o w (.returned (.tuple #[.string x.name, .agg #[.slice none 0 0, .int .i64 x.pack, .int .i64 x.pos], .int .i64 x.long, .int .i64 at2, .bool true])) w' := by
  subst h; exact ⟨hB, rfl⟩
def nums3 (z : Nat → Int) : Array Value := #[.int .i64 (z 0), .int .i64 (z 1), .int .i64 (z 2)]
theorem nums3_set (z : Nat → Int) {k : Nat} (hk : k < 3) (v : Int) : (nums3 z).setIfInBounds k (.int .i64 v) = nums3 (fun i => if i = k then v else z i) := by
  obtain rfl | rfl | rfl : k = 0 ∨ k = 1 ∨ k = 2 := by omega
  all_goals rfl
theorem nums3_at (z : Nat → Int) {k : Nat} (hk : k < 3) : (nums3 z)[k]? = some (.int .i64 (z k)) := by
  obtain rfl | rfl | rfl : k = 0 ∨ k = 1 ∨ k = 2 := by omega
  all_goals rfl
/-- what is known when i numbers were read. -/
structure EntSo (l nm : List UInt8) (kk : Nat) (o : Option (AEnt × Nat)) (i at_ : Nat) (z : Nat → Int) : Prop where
  le : at_ ≤ l.length
  ex : ∃ n : Nat → Nat, (∀ j, z j = n j) ∧ (∀ j, n j ≤ 9007199254740992) ∧ (∀ j, i ≤ j → n j = 0) ∧ o = entK nm l kk i at_ (n 0) (n 1) (n 2)
theorem EntSo.next {l nm : List UInt8} {kk i at_ x j : Nat} {o : Option (AEnt × Nat)} {z : Nat → Int} (h : EntSo l nm kk o i at_ z) (hi : i < 3) (hg : gU (l.drop at_) = (0, x, j)) (hx : x ≤ 9007199254740992) (hj : at_ + j ≤ l.length) :
    EntSo l nm kk o (i + 1) (at_ + j) (fun q => if q = i then (x : Int) else z q) := by
  obtain ⟨n, n1, n2, n3, n4⟩ := h.ex
  refine ⟨hj, fun q => if q = i then x else n q, fun q => by by_cases e : q = i <;> simp [e, n1], fun q => by by_cases e : q = i <;> simp [e, n2, hx], fun q hq => ?_, ?_⟩
  · simp only; rw [if_neg (by omega)]; exact n3 q (by omega)
  · rw [n4]
    obtain rfl | rfl | rfl : i = 0 ∨ i = 1 ∨ i = 2 := by omega
    · rw [n3 0 (by omega), n3 1 (by omega), n3 2 (by omega)]
      exact entK_0 hg hx
    · rw [n3 1 (by omega), n3 2 (by omega)]
      exact entK_1 hg hx
    · rw [n3 2 (by omega)]
      exact entK_2 hg hx
theorem EntSo.bad {l nm : List UInt8} {kk i at_ x j : Nat} {er : Int} {o : Option (AEnt × Nat)} {z : Nat → Int} (h : EntSo l nm kk o i at_ z) (hi : i < 3) (hg : gU (l.drop at_) = (er, x, j)) (hx : er ≠ 0 ∨ 9007199254740992 < x) : o = none := by
  obtain ⟨n, n1, n2, n3, n4⟩ := h.ex
  rw [n4]
  exact entK_bad hi hg hx
theorem gU_at {l : List UInt8} {at_ x j : Nat} (hat : at_ ≤ l.length) (hg : gU (l.drop at_) = (0, x, j)) : at_ + j ≤ l.length := by
  have := (gU_ok hg).2.2.1
  rw [List.length_drop] at this
  omega
theorem gB_len5 {l b : List UInt8} {most k : Nat} (h : gB l most = (0, b, k)) : b.length ≤ l.length ∧ k ≤ l.length := by
  unfold gB at h
  cases hu : gU l with
  | mk e nk =>
    obtain ⟨n, k'⟩ := nk
    rw [hu] at h
    by_cases h0 : e = 0
    · subst h0
      obtain ⟨_, _, hj, _, _⟩ := gU_ok hu
      simp only at h
      split at h
      · cases h
      · split at h
        · cases h
        · cases h
          simp only [List.length_take, List.length_drop]
          omega
    · split at h
      · rename_i heq; simp only [Prod.mk.injEq] at heq; exact absurd heq.1 h0
      · rename_i heq; simp only [Prod.mk.injEq] at heq h; exact absurd (heq.1.trans h.1) h0
theorem gB_nil5 {l b : List UInt8} {most k : Nat} {er : Int} (h : gB l most = (er, b, k)) (h0 : er ≠ 0) : b = [] := by
  unfold gB at h
  split at h
  · split at h
    · simp only [Prod.mk.injEq] at h; exact h.2.1.symm
    · split at h
      · simp only [Prod.mk.injEq] at h; exact h.2.1.symm
      · simp only [Prod.mk.injEq] at h; exact absurd h.1.symm h0
  · simp only [Prod.mk.injEq] at h; exact h.2.1.symm
theorem Rd.keepN {fp : Nat → Prop} {w w' : World} {v : Value} {xs : List Value} (h : Rd w v xs) (hu : Upd fp w w') (hn : xs ≠ [] → ∀ g, v.ownBlock = some g → ¬ fp g) : Rd w' v xs := by
  by_cases hx : xs = []
  · subst hx
    rcases h with h | ⟨b, off, n, c, rfl, hl, _⟩
    · exact Or.inl h
    · exact Or.inr ⟨b, off, n, c, rfl, hl, fun j u hj => by simp at hj⟩
  · exact h.keep hu (hn hx)
theorem gU_lt {l : List UInt8} {x j : Nat} {er : Int} (hg : gU l = (er, x, j)) : x < 18446744073709551616 := by
  by_cases h0 : er = 0
  · subst h0; exact (gU_ok hg).2.2.2.2
  · unfold gU at hg
    split at hg
    · split at hg <;> (simp only [Prod.mk.injEq] at hg; omega)
    · split at hg
      · simp only [Prod.mk.injEq] at hg; omega
      · simp only [Prod.mk.injEq] at hg; exact absurd hg.1.symm h0
set_option maxRecDepth 100000 in
set_option maxHeartbeats 8000000 in
theorem pgentry_any (w : World) (v : Value) (l : List UInt8) (at0 kk : Nat) (hv : Rd w v (bcells l)) (hcap : CapOk v) (hat : at0 ≤ l.length) (hl : l.length ≤ 1099511627776) (_hkk : kk ≤ 9007199254740992) :
    Calls Tryz.prog 137 #[v, .int .i64 at0, .int .i64 kk] w (EntPost (pEntA l at0 kk) w) := by
  obtain ⟨W, hW⟩ : ∃ W, w.alloc (.cells #[.slice none 0 0, .int .i64 0, .int .i64 0] 104) = W := ⟨_, rfl⟩
  have hR0 : W.heap[w.heap.size]? = some (.cells #[.slice none 0 0, .int .i64 0, .int .i64 0] 104 (0, 0)) := by rw [← hW]; exact alloc_at _ _
  have hBW : Below w.heap.size w W := by rw [← hW]; exact (Below.refl _ _).alloc (Nat.le_refl _) _
  have hG := bGetBlob_any W v l at0 60 (hv.below hBW) hcap hat (by omega) (by omega)
  obtain ⟨er, nm, j, hgb⟩ : ∃ er nm j, gB (l.drop at0) 60 = (er, nm, j) := ⟨_, _, _, rfl⟩
  obtain ⟨at1, hat1⟩ : ∃ at1 : Nat, (if er = 0 then (at0 : Int) + (j : Int) else 0) = (at1 : Int) := ⟨if er = 0 then at0 + j else 0, by split <;> simp⟩
  unfold GbPost at hG
  rw [hgb, show (((60 : Nat) : Nat) : Int) = 60 from rfl] at hG
  simp only at hG
  rw [hat1] at hG
  obtain ⟨o, ho⟩ : ∃ o, pEntA l at0 kk = o := ⟨_, rfl⟩
  have hnm : nm.length ≤ l.length := by
    by_cases h0 : er = 0
    · subst h0
      have := gB_len5 hgb
      rw [List.length_drop] at this
      omega
    · have := gB_nil5 hgb h0
      rw [this]; simp
  have hst : (er = 0 ∧ EntSo l nm kk o 0 at1 (fun _ => 0)) ∨ (er ≠ 0 ∧ o = none) := by
    rw [← ho, pEntA_eq hgb]
    by_cases h0 : er = 0
    · subst h0
      have hle := gB_len5 hgb
      rw [List.length_drop] at hle
      rw [if_pos rfl] at hat1
      obtain rfl : at0 + j = at1 := by omega
      exact Or.inl ⟨rfl, by omega, fun _ => 0, fun _ => rfl, fun _ => Nat.zero_le _, fun _ _ => rfl, rfl⟩
    · exact Or.inr ⟨h0, by rw [if_neg h0]⟩
  rw [ho]
  obtain ⟨a, c, rfl⟩ := hv.shape
  rw [bcells_length] at hG hcap ⊢
  have hlow : bcells l ≠ [] → ∀ g, (Value.slice a l.length c).ownBlock = some g → g < w.heap.size := fun hne g hg => rd_blk5 hv hne g (by rw [bcells_length]; exact hg)
  have hrdW : Rd W (.slice a l.length c) (bcells l) := by have := hv.below hBW; rw [bcells_length] at this; exact this
  have hwW : w.heap.size < W.heap.size := blk_lt hR0
  have HR0 := Lib.hid hR0
  have HG := Lib.hid hG
  have HW := Lib.hid hW
  have Hst := Lib.hid hst
  have Hv := Lib.hid hrdW
  have Hcap := Lib.hid hcap
  clear hR0 hG hgb hat1 hst hv hrdW ho hW hcap
  go_enter Tryz.func137, Tryz.ntmps137
  go_upto_region 2 with (go_at_call 160; rw [HW.out]; refine HG.out.mono ?_; rintro e w1 ⟨a1, c1, rfl, hR, hB1⟩; have HR := Lib.hid (And.intro hR hB1); clear hR hB1)
  have hB1 := HR.out.2
  have hs1 := hB1.size
  have hR1 := alloc_old ((hB1.block w.heap.size hwW).trans HR0.out) (.cells #[.int .i64 0, .int .i64 0, .int .i64 0] 210)
  have hnV := alloc_at w1 (.cells #[.int .i64 0, .int .i64 0, .int .i64 0] 210)
  have hBV : Below w1.heap.size w1 (w1.alloc (.cells #[.int .i64 0, .int .i64 0, .int .i64 0] 210)) := (Below.refl _ _).alloc (Nat.le_refl _) _
  obtain ⟨V, hV⟩ : ∃ x, w1.alloc (.cells #[.int .i64 0, .int .i64 0, .int .i64 0] 210) = x := ⟨_, rfl⟩
  rw [hV] at hR1 hnV hBV
  have hBwV : Below w.heap.size w V := hBW.trans ((hB1.trans (hBV.mono hs1)).mono hBW.size)
  have hrdV : Rd V (.slice a l.length c) (bcells l) := (Hv.out.below hB1).below hBV
  have hnmV : Rd V (.slice a1 nm.length c1) (bcells nm) := (Rd.ofOwns HR.out.1).below hBV
  have hnmb : ∀ g, (Value.slice a1 nm.length c1).ownBlock = some g → g < w1.heap.size := fun g hg => row_lt HR.out.1 hg
  obtain ⟨nb, hnb⟩ : ∃ x, w1.heap.size = x := ⟨_, rfl⟩
  rw [hnb] at hnV hnmb
  have hRn : w.heap.size ≠ nb := by omega
  have hrds : ∀ wr, Upd (· = nb) V wr → Rd wr (.slice a l.length c) (bcells l) ∧ Rd wr (.slice a1 nm.length c1) (bcells nm) ∧ wr.heap[w.heap.size]? = some (.cells #[.slice none 0 0, .int .i64 0, .int .i64 0] 104 (0, 0)) ∧ Below w.heap.size w wr := fun wr hu =>
    ⟨hrdV.keepN hu (fun hne g hg e => by have := hlow hne g hg; omega), hnmV.keep hu (fun g hg e => by have := hnmb g hg; omega), hu.keep hR1 hRn, hBwV.trans (hu.below (fun k hk => by omega) hBwV.size)⟩
  have HV := Lib.hid (And.intro hnV hrds)
  have HvV := Lib.hid hV
  have Hnb := Lib.hid hnb
  have Hneb := Lib.hid hRn
  clear hB1 hs1 hR1 hnV hBV hBwV hrdV hnmV hnmb hV hnb hrds hlow hRn
  go_upto_region 4 with fail
  rw [HvV.out, Hnb.out]
  go_loopw [1, 12, 14, 15, 24] (fun av ev _ _ kv wr => ∃ (k at_ : Nat) (er : Int) (z : Nat → Int), k ≤ 3 ∧ kv = .int .i64 k ∧ av = .int .i64 at_ ∧ ev = .int .i64 er ∧ wr.heap[nb]? = some (.cells (nums3 z) 210 (0, 0)) ∧ Upd (· = nb) V wr ∧ ((er = 0 ∧ EntSo l nm kk o k at_ z) ∨ (er ≠ 0 ∧ o = none))) (fun _ _ _ _ kv _ => 3 - (intOf kv).toNat)
  case atStart => exact ⟨0, at1, er, fun _ => 0, by omega, rfl, rfl, rfl, HV.out.1, Upd.refl _ _, Hst.out⟩
  case round =>
    obtain ⟨k, at_, er', z, hk, rfl, rfl, rfl, hn, hU, hor⟩ := hrel
    obtain ⟨hrd, hrn, hRr, hBr⟩ := HV.out.2 wr hU
    by_cases hk3 : k < 3
    · have hkI : (k : Int) < 3 := by omega
      have hk0 : (0 : Int) ≤ (k : Int) := by omega
      rcases hor with ⟨rfl, hso⟩ | ⟨her, hnone⟩
      · obtain ⟨er2, x, j2, hgu⟩ : ∃ er x y, gU (l.drop at_) = (er, x, y) := ⟨_, _, _, rfl⟩
        have hGu := bGetUint_any wr _ l at_ hrd Hcap.out hso.le (by omega)
        unfold GuPost guVal guNext guErr at hGu
        rw [hgu] at hGu
        simp only at hGu
        obtain ⟨at2, hat2⟩ : ∃ at2 : Nat, (if er2 = 0 then (at_ : Int) + (j2 : Int) else 0) = (at2 : Int) := ⟨if er2 = 0 then at_ + j2 else 0, by split <;> simp⟩
        rw [hat2] at hGu
        obtain ⟨zz, hzz⟩ : ∃ zz, IntKind.i64.wrap (x : Int) = zz := ⟨_, rfl⟩
        have hke : k = 0 ∨ k = 1 ∨ k = 2 := by omega
        by_cases he : er2 = 0
        · subst he
          by_cases hx : 9007199254740992 < x
          · have hxI : (9007199254740992 : Int) < (x : Int) := by omega
            have Hl := Lib.hid (show o = none from hso.bad hk3 hgu (Or.inr hx))
            have HGu := Lib.hid hGu
            have HU := Lib.hid (And.intro hU hn)
            clear hGu hgu hU hn hso hrd hrn hRr hat2 hBr hk hke
            go_wp2_with (go_at_call 136; refine HGu.out.mono ?_; rintro e w3 ⟨rfl, hB3⟩; have hn3 := (hB3.block nb (blk_lt HU.out.2)).trans HU.out.2; have f3 : w3.frozen? ⟨nb, k, none⟩ = false := (by simp [World.frozen?, hn3]); have c3 : w3.cell? ⟨nb, k, none⟩ = some (.int .i64 (z k)) := (cell_at hn3 k).trans (nums3_at z hk3); have Hn3 := Lib.hid (And.intro hn3 hB3); clear hn3 hB3)
            go_roundw
            case rel => exact ⟨k + 1, at2, 10, fun q => if q = k then zz else z q, by omega, by go_num, rfl, rfl, (setCell_at Hn3.out.1 k _).trans (by rw [nums3_set z hk3]), (HU.out.1.thenBelow Hn3.out.2 HU.out.1.size).setCell (Or.inl rfl) _, Or.inr ⟨by decide, Hl.out⟩⟩
            case measure => simp [intOf]; omega
          · have hxI : ¬ (9007199254740992 : Int) < (x : Int) := by omega
            have hxz : zz = (x : Int) := by rw [← hzz]; exact IntWalk.i64_in _ (by omega)
            rw [if_pos rfl] at hat2
            have hat3 : at_ + j2 = at2 := by omega
            have Hl := Lib.hid (show EntSo l nm kk o (k + 1) at2 (fun q => if q = k then zz else z q) from by rw [hxz, ← hat3]; exact hso.next hk3 hgu (by omega) (gU_at hso.le hgu))
            have HGu := Lib.hid hGu
            have HU := Lib.hid (And.intro hU hn)
            clear hxz hat3 hGu hgu hU hn hso hrd hrn hRr hat2 hBr hk hke
            go_wp2_with (go_at_call 136; refine HGu.out.mono ?_; rintro e w3 ⟨rfl, hB3⟩; have hn3 := (hB3.block nb (blk_lt HU.out.2)).trans HU.out.2; have f3 : w3.frozen? ⟨nb, k, none⟩ = false := (by simp [World.frozen?, hn3]); have c3 : w3.cell? ⟨nb, k, none⟩ = some (.int .i64 (z k)) := (cell_at hn3 k).trans (nums3_at z hk3); have Hn3 := Lib.hid (And.intro hn3 hB3); clear hn3 hB3)
            go_roundw
            case rel => exact ⟨k + 1, at2, 0, fun q => if q = k then zz else z q, by omega, by go_num, rfl, rfl, (setCell_at Hn3.out.1 k _).trans (by rw [nums3_set z hk3]), (HU.out.1.thenBelow Hn3.out.2 HU.out.1.size).setCell (Or.inl rfl) _, Or.inl ⟨rfl, Hl.out⟩⟩
            case measure => simp [intOf]; omega
        · have heb : (er2 == 0) = false := by simpa using he
          have He := Lib.hid he
          have Hl := Lib.hid (show o = none from hso.bad hk3 hgu (Or.inl he))
          have HGu := Lib.hid hGu
          have HU := Lib.hid (And.intro hU hn)
          clear he hGu hgu hU hn hso hrd hrn hRr hat2 hBr hk hke
          go_wp2_with (go_at_call 136; refine HGu.out.mono ?_; rintro e w3 ⟨rfl, hB3⟩; have hn3 := (hB3.block nb (blk_lt HU.out.2)).trans HU.out.2; have f3 : w3.frozen? ⟨nb, k, none⟩ = false := (by simp [World.frozen?, hn3]); have c3 : w3.cell? ⟨nb, k, none⟩ = some (.int .i64 (z k)) := (cell_at hn3 k).trans (nums3_at z hk3); have Hn3 := Lib.hid (And.intro hn3 hB3); clear hn3 hB3)
          go_roundw
          case rel => exact ⟨k + 1, at2, er2, fun q => if q = k then zz else z q, by omega, by go_num, rfl, rfl, (setCell_at Hn3.out.1 k _).trans (by rw [nums3_set z hk3]), (HU.out.1.thenBelow Hn3.out.2 HU.out.1.size).setCell (Or.inl rfl) _, Or.inr ⟨He.out, Hl.out⟩⟩
          case measure => simp [intOf]; omega
      · have hef : (er' == 0) = false := by simpa using her
        have Ho := Lib.hid hnone
        clear her hnone
        obtain ⟨n0, n1, n2, _⟩ := cells3 (w := wr) hn
        obtain ⟨n0d, n1d, n2d, _⟩ := cells3 (w := wr.drew) hn
        obtain ⟨q0, q1, q2, f0, f1, f2⟩ := cells3 (w := wr) hRr
        obtain ⟨q0d, q1d, q2d, f0d, f1d, f2d⟩ := cells3 (w := wr.drew) hRr
        have hcv := run_bytes_str (P := Tryz.prog) (hrn.below ((Below.refl _ _).drew)) Tryz.underlying25 Tryz.underlying5 Tryz.underlying9
        have hcv2 := run_bytes_str (P := Tryz.prog) hrn Tryz.underlying25 Tryz.underlying5 Tryz.underlying9
        have hU3 : Upd (· = w.heap.size) wr (((wr.setCell ⟨w.heap.size, 0, none⟩ (.slice none 0 0)).setCell ⟨w.heap.size, 1, none⟩ (.int .i64 (z 0))).setCell ⟨w.heap.size, 2, none⟩ (.int .i64 (z 1))) := (setCell2_upd _ _).trans (setCell_upd 2 _) (fun _ hk => Or.inl hk)
        obtain ⟨y0, y1, y2, _⟩ := cells3 (hU3.keep hn (fun e => Hneb.out e.symm))
        obtain ⟨y0d, y1d, y2d, _⟩ := cells3 (w := (((wr.setCell ⟨w.heap.size, 0, none⟩ (.slice none 0 0)).setCell ⟨w.heap.size, 1, none⟩ (.int .i64 (z 0))).setCell ⟨w.heap.size, 2, none⟩ (.int .i64 (z 1))).drew) (hU3.keep hn (fun e => Hneb.out e.symm))
        have hrn3 := hrn.keep hU3 (fun g hg e => by have := row_from HR.out.1 hg; omega)
        have hcv3 := run_bytes_str (P := Tryz.prog) hrn3 Tryz.underlying25 Tryz.underlying5 Tryz.underlying9
        have hcv4 := run_bytes_str (P := Tryz.prog) (hrn3.below ((Below.refl _ _).drew)) Tryz.underlying25 Tryz.underlying5 Tryz.underlying9
        have hRf : (((wr.setCell ⟨w.heap.size, 0, none⟩ (.slice none 0 0)).setCell ⟨w.heap.size, 1, none⟩ (.int .i64 (z 0))).setCell ⟨w.heap.size, 2, none⟩ (.int .i64 (z 1))).heap[w.heap.size]? = some (.cells #[.slice none 0 0, .int .i64 (z 0), .int .i64 (z 1)] 104 (0, 0)) := setCell_at (setCell_at (setCell_at hRr 0 _) 1 _) 2 _
        have hlF := run_loadVar_row (P := Tryz.prog) (((wr.setCell ⟨w.heap.size, 0, none⟩ (.slice none 0 0)).setCell ⟨w.heap.size, 1, none⟩ (.int .i64 (z 0))).setCell ⟨w.heap.size, 2, none⟩ (.int .i64 (z 1))).drew w.heap.size 104 104 _ (0, 0) _ hRf Tryz.underlying104 rfl (by kernel_rfl)
        have HB := Lib.hid (hBr.trans (hU3.below (fun k hk => by rw [hk]; exact Nat.le_refl _) hBr.size)).drew
        have HlF := Lib.hid hlF
        clear hrn3 hRf hlF hBr hU hn hRr hrd hrn hU3
        go_upto_region 14 with fail
        go_region
        all_goals
          go_wp2_with fail
          (try simp only [Exit.inBlock, Exit.then])
          refine bodyPost_ret (results_cellE rfl _ _ _ ⟨w.heap.size, 0, none⟩ (.agg #[.slice none 0 0, .int .i64 (z 0), .int .i64 (z 1)]) rfl (HlF.out)) rfl ?_
          exact EntPost.bad Ho.out HB.out _ _ _ _ _
    · obtain rfl : k = 3 := by omega
      rcases hor with ⟨rfl, hso⟩ | ⟨her, hnone⟩
      · obtain ⟨nz, e1, e2, e3, e4⟩ := hso.ex
        obtain rfl : z = fun j => (nz j : Int) := funext e1
        obtain ⟨P, hP⟩ : ∃ x, nz 0 = x := ⟨_, rfl⟩
        obtain ⟨A, hA⟩ : ∃ x, nz 1 = x := ⟨_, rfl⟩
        obtain ⟨M, hM⟩ : ∃ x, nz 2 = x := ⟨_, rfl⟩
        have hnz : nums3 (fun j => (nz j : Int)) = #[.int .i64 (P : Int), .int .i64 (A : Int), .int .i64 (M : Int)] := by show #[Value.int .i64 (nz 0 : Int), .int .i64 (nz 1 : Int), .int .i64 (nz 2 : Int)] = _; rw [hP, hA, hM]
        have ho : o = entEnd nm kk at_ P A M := by rw [e4, hP, hA, hM]; rfl
        rw [hnz] at hn
        clear hnz e1 e2 e3 e4 hP hA hM hso hk3
        by_cases c1 : 0 < nm.length
        · have c1I : (0 : Int) < (nm.length : Int) := by omega
          by_cases c2 : 1 ≤ P
          · have c2I : (1 : Int) ≤ (P : Int) := by omega
            by_cases c3 : P ≤ kk
            · have c3I : (P : Int) ≤ (kk : Int) := by omega
              by_cases c4 : M ≤ 1048576
              · have c4I : (M : Int) ≤ 1048576 := by omega
                have Ho := Lib.hid (show o = some (⟨⟨nm.toArray⟩, P, A, M⟩, at_) by rw [ho]; unfold entEnd; rw [if_pos ⟨c1, c2, c3, c4⟩])
                clear ho
                obtain ⟨n0, n1, n2, _⟩ := cells3 (w := wr) hn
                obtain ⟨n0d, n1d, n2d, _⟩ := cells3 (w := wr.drew) hn
                obtain ⟨q0, q1, q2, f0, f1, f2⟩ := cells3 (w := wr) hRr
                obtain ⟨q0d, q1d, q2d, f0d, f1d, f2d⟩ := cells3 (w := wr.drew) hRr
                have hcv := run_bytes_str (P := Tryz.prog) (hrn.below ((Below.refl _ _).drew)) Tryz.underlying25 Tryz.underlying5 Tryz.underlying9
                have hcv2 := run_bytes_str (P := Tryz.prog) hrn Tryz.underlying25 Tryz.underlying5 Tryz.underlying9
                have hU3 : Upd (· = w.heap.size) wr (((wr.setCell ⟨w.heap.size, 0, none⟩ (.slice none 0 0)).setCell ⟨w.heap.size, 1, none⟩ (.int .i64 (P : Int))).setCell ⟨w.heap.size, 2, none⟩ (.int .i64 (A : Int))) := (setCell2_upd _ _).trans (setCell_upd 2 _) (fun _ hk => Or.inl hk)
                obtain ⟨y0, y1, y2, _⟩ := cells3 (hU3.keep hn (fun e => Hneb.out e.symm))
                obtain ⟨y0d, y1d, y2d, _⟩ := cells3 (w := (((wr.setCell ⟨w.heap.size, 0, none⟩ (.slice none 0 0)).setCell ⟨w.heap.size, 1, none⟩ (.int .i64 (P : Int))).setCell ⟨w.heap.size, 2, none⟩ (.int .i64 (A : Int))).drew) (hU3.keep hn (fun e => Hneb.out e.symm))
                have hrn3 := hrn.keep hU3 (fun g hg e => by have := row_from HR.out.1 hg; omega)
                have hcv3 := run_bytes_str (P := Tryz.prog) hrn3 Tryz.underlying25 Tryz.underlying5 Tryz.underlying9
                have hcv4 := run_bytes_str (P := Tryz.prog) (hrn3.below ((Below.refl _ _).drew)) Tryz.underlying25 Tryz.underlying5 Tryz.underlying9
                have hRf : (((wr.setCell ⟨w.heap.size, 0, none⟩ (.slice none 0 0)).setCell ⟨w.heap.size, 1, none⟩ (.int .i64 (P : Int))).setCell ⟨w.heap.size, 2, none⟩ (.int .i64 (A : Int))).heap[w.heap.size]? = some (.cells #[.slice none 0 0, .int .i64 (P : Int), .int .i64 (A : Int)] 104 (0, 0)) := setCell_at (setCell_at (setCell_at hRr 0 _) 1 _) 2 _
                have hlF := run_loadVar_row (P := Tryz.prog) (((wr.setCell ⟨w.heap.size, 0, none⟩ (.slice none 0 0)).setCell ⟨w.heap.size, 1, none⟩ (.int .i64 (P : Int))).setCell ⟨w.heap.size, 2, none⟩ (.int .i64 (A : Int))).drew w.heap.size 104 104 _ (0, 0) _ hRf Tryz.underlying104 rfl (by kernel_rfl)
                have HB := Lib.hid (hBr.trans (hU3.below (fun k hk => by rw [hk]; exact Nat.le_refl _) hBr.size)).drew
                have HlF := Lib.hid hlF
                clear hrn3 hRf hlF hBr hU hn hRr hrd hrn hU3
                go_upto_region 14 with fail
                go_region
                all_goals
                  go_wp2_with fail
                  (try simp only [Exit.inBlock, Exit.then])
                  refine bodyPost_ret (results_cellE rfl _ _ _ ⟨w.heap.size, 0, none⟩ (.agg #[.slice none 0 0, .int .i64 (P : Int), .int .i64 (A : Int)]) rfl (HlF.out)) rfl ?_
                  exact EntPost.good Ho.out HB.out
              · have c4I : ¬ (M : Int) ≤ 1048576 := by omega
                have Ho := Lib.hid (show o = none by rw [ho]; unfold entEnd; rw [if_neg (fun h => c4 h.2.2.2)])
                clear ho c4
                obtain ⟨n0, n1, n2, _⟩ := cells3 (w := wr) hn
                obtain ⟨n0d, n1d, n2d, _⟩ := cells3 (w := wr.drew) hn
                obtain ⟨q0, q1, q2, f0, f1, f2⟩ := cells3 (w := wr) hRr
                obtain ⟨q0d, q1d, q2d, f0d, f1d, f2d⟩ := cells3 (w := wr.drew) hRr
                have hcv := run_bytes_str (P := Tryz.prog) (hrn.below ((Below.refl _ _).drew)) Tryz.underlying25 Tryz.underlying5 Tryz.underlying9
                have hcv2 := run_bytes_str (P := Tryz.prog) hrn Tryz.underlying25 Tryz.underlying5 Tryz.underlying9
                have hU3 : Upd (· = w.heap.size) wr (((wr.setCell ⟨w.heap.size, 0, none⟩ (.slice none 0 0)).setCell ⟨w.heap.size, 1, none⟩ (.int .i64 (P : Int))).setCell ⟨w.heap.size, 2, none⟩ (.int .i64 (A : Int))) := (setCell2_upd _ _).trans (setCell_upd 2 _) (fun _ hk => Or.inl hk)
                obtain ⟨y0, y1, y2, _⟩ := cells3 (hU3.keep hn (fun e => Hneb.out e.symm))
                obtain ⟨y0d, y1d, y2d, _⟩ := cells3 (w := (((wr.setCell ⟨w.heap.size, 0, none⟩ (.slice none 0 0)).setCell ⟨w.heap.size, 1, none⟩ (.int .i64 (P : Int))).setCell ⟨w.heap.size, 2, none⟩ (.int .i64 (A : Int))).drew) (hU3.keep hn (fun e => Hneb.out e.symm))
                have hrn3 := hrn.keep hU3 (fun g hg e => by have := row_from HR.out.1 hg; omega)
                have hcv3 := run_bytes_str (P := Tryz.prog) hrn3 Tryz.underlying25 Tryz.underlying5 Tryz.underlying9
                have hcv4 := run_bytes_str (P := Tryz.prog) (hrn3.below ((Below.refl _ _).drew)) Tryz.underlying25 Tryz.underlying5 Tryz.underlying9
                have hRf : (((wr.setCell ⟨w.heap.size, 0, none⟩ (.slice none 0 0)).setCell ⟨w.heap.size, 1, none⟩ (.int .i64 (P : Int))).setCell ⟨w.heap.size, 2, none⟩ (.int .i64 (A : Int))).heap[w.heap.size]? = some (.cells #[.slice none 0 0, .int .i64 (P : Int), .int .i64 (A : Int)] 104 (0, 0)) := setCell_at (setCell_at (setCell_at hRr 0 _) 1 _) 2 _
                have hlF := run_loadVar_row (P := Tryz.prog) (((wr.setCell ⟨w.heap.size, 0, none⟩ (.slice none 0 0)).setCell ⟨w.heap.size, 1, none⟩ (.int .i64 (P : Int))).setCell ⟨w.heap.size, 2, none⟩ (.int .i64 (A : Int))).drew w.heap.size 104 104 _ (0, 0) _ hRf Tryz.underlying104 rfl (by kernel_rfl)
                have HB := Lib.hid (hBr.trans (hU3.below (fun k hk => by rw [hk]; exact Nat.le_refl _) hBr.size)).drew
                have HlF := Lib.hid hlF
                clear hrn3 hRf hlF hBr hU hn hRr hrd hrn hU3
                go_upto_region 14 with fail
                go_region
                all_goals
                  go_wp2_with fail
                  (try simp only [Exit.inBlock, Exit.then])
                  refine bodyPost_ret (results_cellE rfl _ _ _ ⟨w.heap.size, 0, none⟩ (.agg #[.slice none 0 0, .int .i64 (P : Int), .int .i64 (A : Int)]) rfl (HlF.out)) rfl ?_
                  exact EntPost.bad Ho.out HB.out _ _ _ _ _
            · have c3I : ¬ (P : Int) ≤ (kk : Int) := by omega
              have Ho := Lib.hid (show o = none by rw [ho]; unfold entEnd; rw [if_neg (fun h => c3 h.2.2.1)])
              clear ho c3
              obtain ⟨n0, n1, n2, _⟩ := cells3 (w := wr) hn
              obtain ⟨n0d, n1d, n2d, _⟩ := cells3 (w := wr.drew) hn
              obtain ⟨q0, q1, q2, f0, f1, f2⟩ := cells3 (w := wr) hRr
              obtain ⟨q0d, q1d, q2d, f0d, f1d, f2d⟩ := cells3 (w := wr.drew) hRr
              have hcv := run_bytes_str (P := Tryz.prog) (hrn.below ((Below.refl _ _).drew)) Tryz.underlying25 Tryz.underlying5 Tryz.underlying9
              have hcv2 := run_bytes_str (P := Tryz.prog) hrn Tryz.underlying25 Tryz.underlying5 Tryz.underlying9
              have hU3 : Upd (· = w.heap.size) wr (((wr.setCell ⟨w.heap.size, 0, none⟩ (.slice none 0 0)).setCell ⟨w.heap.size, 1, none⟩ (.int .i64 (P : Int))).setCell ⟨w.heap.size, 2, none⟩ (.int .i64 (A : Int))) := (setCell2_upd _ _).trans (setCell_upd 2 _) (fun _ hk => Or.inl hk)
              obtain ⟨y0, y1, y2, _⟩ := cells3 (hU3.keep hn (fun e => Hneb.out e.symm))
              obtain ⟨y0d, y1d, y2d, _⟩ := cells3 (w := (((wr.setCell ⟨w.heap.size, 0, none⟩ (.slice none 0 0)).setCell ⟨w.heap.size, 1, none⟩ (.int .i64 (P : Int))).setCell ⟨w.heap.size, 2, none⟩ (.int .i64 (A : Int))).drew) (hU3.keep hn (fun e => Hneb.out e.symm))
              have hrn3 := hrn.keep hU3 (fun g hg e => by have := row_from HR.out.1 hg; omega)
              have hcv3 := run_bytes_str (P := Tryz.prog) hrn3 Tryz.underlying25 Tryz.underlying5 Tryz.underlying9
              have hcv4 := run_bytes_str (P := Tryz.prog) (hrn3.below ((Below.refl _ _).drew)) Tryz.underlying25 Tryz.underlying5 Tryz.underlying9
              have hRf : (((wr.setCell ⟨w.heap.size, 0, none⟩ (.slice none 0 0)).setCell ⟨w.heap.size, 1, none⟩ (.int .i64 (P : Int))).setCell ⟨w.heap.size, 2, none⟩ (.int .i64 (A : Int))).heap[w.heap.size]? = some (.cells #[.slice none 0 0, .int .i64 (P : Int), .int .i64 (A : Int)] 104 (0, 0)) := setCell_at (setCell_at (setCell_at hRr 0 _) 1 _) 2 _
              have hlF := run_loadVar_row (P := Tryz.prog) (((wr.setCell ⟨w.heap.size, 0, none⟩ (.slice none 0 0)).setCell ⟨w.heap.size, 1, none⟩ (.int .i64 (P : Int))).setCell ⟨w.heap.size, 2, none⟩ (.int .i64 (A : Int))).drew w.heap.size 104 104 _ (0, 0) _ hRf Tryz.underlying104 rfl (by kernel_rfl)
              have HB := Lib.hid (hBr.trans (hU3.below (fun k hk => by rw [hk]; exact Nat.le_refl _) hBr.size)).drew
              have HlF := Lib.hid hlF
              clear hrn3 hRf hlF hBr hU hn hRr hrd hrn hU3
              go_upto_region 14 with fail
              go_region
              all_goals
                go_wp2_with fail
                (try simp only [Exit.inBlock, Exit.then])
                refine bodyPost_ret (results_cellE rfl _ _ _ ⟨w.heap.size, 0, none⟩ (.agg #[.slice none 0 0, .int .i64 (P : Int), .int .i64 (A : Int)]) rfl (HlF.out)) rfl ?_
                exact EntPost.bad Ho.out HB.out _ _ _ _ _
          · have c2I : ¬ (1 : Int) ≤ (P : Int) := by omega
            have Ho := Lib.hid (show o = none by rw [ho]; unfold entEnd; rw [if_neg (fun h => c2 h.2.1)])
            clear ho c2
            obtain ⟨n0, n1, n2, _⟩ := cells3 (w := wr) hn
            obtain ⟨n0d, n1d, n2d, _⟩ := cells3 (w := wr.drew) hn
            obtain ⟨q0, q1, q2, f0, f1, f2⟩ := cells3 (w := wr) hRr
            obtain ⟨q0d, q1d, q2d, f0d, f1d, f2d⟩ := cells3 (w := wr.drew) hRr
            have hcv := run_bytes_str (P := Tryz.prog) (hrn.below ((Below.refl _ _).drew)) Tryz.underlying25 Tryz.underlying5 Tryz.underlying9
            have hcv2 := run_bytes_str (P := Tryz.prog) hrn Tryz.underlying25 Tryz.underlying5 Tryz.underlying9
            have hU3 : Upd (· = w.heap.size) wr (((wr.setCell ⟨w.heap.size, 0, none⟩ (.slice none 0 0)).setCell ⟨w.heap.size, 1, none⟩ (.int .i64 (P : Int))).setCell ⟨w.heap.size, 2, none⟩ (.int .i64 (A : Int))) := (setCell2_upd _ _).trans (setCell_upd 2 _) (fun _ hk => Or.inl hk)
            obtain ⟨y0, y1, y2, _⟩ := cells3 (hU3.keep hn (fun e => Hneb.out e.symm))
            obtain ⟨y0d, y1d, y2d, _⟩ := cells3 (w := (((wr.setCell ⟨w.heap.size, 0, none⟩ (.slice none 0 0)).setCell ⟨w.heap.size, 1, none⟩ (.int .i64 (P : Int))).setCell ⟨w.heap.size, 2, none⟩ (.int .i64 (A : Int))).drew) (hU3.keep hn (fun e => Hneb.out e.symm))
            have hrn3 := hrn.keep hU3 (fun g hg e => by have := row_from HR.out.1 hg; omega)
            have hcv3 := run_bytes_str (P := Tryz.prog) hrn3 Tryz.underlying25 Tryz.underlying5 Tryz.underlying9
            have hcv4 := run_bytes_str (P := Tryz.prog) (hrn3.below ((Below.refl _ _).drew)) Tryz.underlying25 Tryz.underlying5 Tryz.underlying9
            have hRf : (((wr.setCell ⟨w.heap.size, 0, none⟩ (.slice none 0 0)).setCell ⟨w.heap.size, 1, none⟩ (.int .i64 (P : Int))).setCell ⟨w.heap.size, 2, none⟩ (.int .i64 (A : Int))).heap[w.heap.size]? = some (.cells #[.slice none 0 0, .int .i64 (P : Int), .int .i64 (A : Int)] 104 (0, 0)) := setCell_at (setCell_at (setCell_at hRr 0 _) 1 _) 2 _
            have hlF := run_loadVar_row (P := Tryz.prog) (((wr.setCell ⟨w.heap.size, 0, none⟩ (.slice none 0 0)).setCell ⟨w.heap.size, 1, none⟩ (.int .i64 (P : Int))).setCell ⟨w.heap.size, 2, none⟩ (.int .i64 (A : Int))).drew w.heap.size 104 104 _ (0, 0) _ hRf Tryz.underlying104 rfl (by kernel_rfl)
            have HB := Lib.hid (hBr.trans (hU3.below (fun k hk => by rw [hk]; exact Nat.le_refl _) hBr.size)).drew
            have HlF := Lib.hid hlF
            clear hrn3 hRf hlF hBr hU hn hRr hrd hrn hU3
            go_upto_region 14 with fail
            go_region
            all_goals
              go_wp2_with fail
              (try simp only [Exit.inBlock, Exit.then])
              refine bodyPost_ret (results_cellE rfl _ _ _ ⟨w.heap.size, 0, none⟩ (.agg #[.slice none 0 0, .int .i64 (P : Int), .int .i64 (A : Int)]) rfl (HlF.out)) rfl ?_
              exact EntPost.bad Ho.out HB.out _ _ _ _ _
        · have c1I : ¬ (0 : Int) < (nm.length : Int) := by omega
          have Ho := Lib.hid (show o = none by rw [ho]; unfold entEnd; rw [if_neg (fun h => c1 h.1)])
          clear ho
          obtain ⟨n0, n1, n2, _⟩ := cells3 (w := wr) hn
          obtain ⟨n0d, n1d, n2d, _⟩ := cells3 (w := wr.drew) hn
          obtain ⟨q0, q1, q2, f0, f1, f2⟩ := cells3 (w := wr) hRr
          obtain ⟨q0d, q1d, q2d, f0d, f1d, f2d⟩ := cells3 (w := wr.drew) hRr
          have hcv := run_bytes_str (P := Tryz.prog) (hrn.below ((Below.refl _ _).drew)) Tryz.underlying25 Tryz.underlying5 Tryz.underlying9
          have hcv2 := run_bytes_str (P := Tryz.prog) hrn Tryz.underlying25 Tryz.underlying5 Tryz.underlying9
          have hU3 : Upd (· = w.heap.size) wr (((wr.setCell ⟨w.heap.size, 0, none⟩ (.slice none 0 0)).setCell ⟨w.heap.size, 1, none⟩ (.int .i64 (P : Int))).setCell ⟨w.heap.size, 2, none⟩ (.int .i64 (A : Int))) := (setCell2_upd _ _).trans (setCell_upd 2 _) (fun _ hk => Or.inl hk)
          obtain ⟨y0, y1, y2, _⟩ := cells3 (hU3.keep hn (fun e => Hneb.out e.symm))
          obtain ⟨y0d, y1d, y2d, _⟩ := cells3 (w := (((wr.setCell ⟨w.heap.size, 0, none⟩ (.slice none 0 0)).setCell ⟨w.heap.size, 1, none⟩ (.int .i64 (P : Int))).setCell ⟨w.heap.size, 2, none⟩ (.int .i64 (A : Int))).drew) (hU3.keep hn (fun e => Hneb.out e.symm))
          have hrn3 := hrn.keep hU3 (fun g hg e => by have := row_from HR.out.1 hg; omega)
          have hcv3 := run_bytes_str (P := Tryz.prog) hrn3 Tryz.underlying25 Tryz.underlying5 Tryz.underlying9
          have hcv4 := run_bytes_str (P := Tryz.prog) (hrn3.below ((Below.refl _ _).drew)) Tryz.underlying25 Tryz.underlying5 Tryz.underlying9
          have hRf : (((wr.setCell ⟨w.heap.size, 0, none⟩ (.slice none 0 0)).setCell ⟨w.heap.size, 1, none⟩ (.int .i64 (P : Int))).setCell ⟨w.heap.size, 2, none⟩ (.int .i64 (A : Int))).heap[w.heap.size]? = some (.cells #[.slice none 0 0, .int .i64 (P : Int), .int .i64 (A : Int)] 104 (0, 0)) := setCell_at (setCell_at (setCell_at hRr 0 _) 1 _) 2 _
          have hlF := run_loadVar_row (P := Tryz.prog) (((wr.setCell ⟨w.heap.size, 0, none⟩ (.slice none 0 0)).setCell ⟨w.heap.size, 1, none⟩ (.int .i64 (P : Int))).setCell ⟨w.heap.size, 2, none⟩ (.int .i64 (A : Int))).drew w.heap.size 104 104 _ (0, 0) _ hRf Tryz.underlying104 rfl (by kernel_rfl)
          have HB := Lib.hid (hBr.trans (hU3.below (fun k hk => by rw [hk]; exact Nat.le_refl _) hBr.size)).drew
          have HlF := Lib.hid hlF
          clear hrn3 hRf hlF hBr hU hn hRr hrd hrn hU3
          go_upto_region 14 with fail
          go_region
          all_goals
            go_wp2_with fail
            (try simp only [Exit.inBlock, Exit.then])
            refine bodyPost_ret (results_cellE rfl _ _ _ ⟨w.heap.size, 0, none⟩ (.agg #[.slice none 0 0, .int .i64 (P : Int), .int .i64 (A : Int)]) rfl (HlF.out)) rfl ?_
            exact EntPost.bad Ho.out HB.out _ _ _ _ _
      · have hef : (er' == 0) = false := by simpa using her
        have Ho := Lib.hid hnone
        clear her hnone hk3
        obtain ⟨n0, n1, n2, _⟩ := cells3 (w := wr) hn
        obtain ⟨n0d, n1d, n2d, _⟩ := cells3 (w := wr.drew) hn
        obtain ⟨q0, q1, q2, f0, f1, f2⟩ := cells3 (w := wr) hRr
        obtain ⟨q0d, q1d, q2d, f0d, f1d, f2d⟩ := cells3 (w := wr.drew) hRr
        have hcv := run_bytes_str (P := Tryz.prog) (hrn.below ((Below.refl _ _).drew)) Tryz.underlying25 Tryz.underlying5 Tryz.underlying9
        have hcv2 := run_bytes_str (P := Tryz.prog) hrn Tryz.underlying25 Tryz.underlying5 Tryz.underlying9
        have hU3 : Upd (· = w.heap.size) wr (((wr.setCell ⟨w.heap.size, 0, none⟩ (.slice none 0 0)).setCell ⟨w.heap.size, 1, none⟩ (.int .i64 (z 0))).setCell ⟨w.heap.size, 2, none⟩ (.int .i64 (z 1))) := (setCell2_upd _ _).trans (setCell_upd 2 _) (fun _ hk => Or.inl hk)
        obtain ⟨y0, y1, y2, _⟩ := cells3 (hU3.keep hn (fun e => Hneb.out e.symm))
        obtain ⟨y0d, y1d, y2d, _⟩ := cells3 (w := (((wr.setCell ⟨w.heap.size, 0, none⟩ (.slice none 0 0)).setCell ⟨w.heap.size, 1, none⟩ (.int .i64 (z 0))).setCell ⟨w.heap.size, 2, none⟩ (.int .i64 (z 1))).drew) (hU3.keep hn (fun e => Hneb.out e.symm))
        have hrn3 := hrn.keep hU3 (fun g hg e => by have := row_from HR.out.1 hg; omega)
        have hcv3 := run_bytes_str (P := Tryz.prog) hrn3 Tryz.underlying25 Tryz.underlying5 Tryz.underlying9
        have hcv4 := run_bytes_str (P := Tryz.prog) (hrn3.below ((Below.refl _ _).drew)) Tryz.underlying25 Tryz.underlying5 Tryz.underlying9
        have hRf : (((wr.setCell ⟨w.heap.size, 0, none⟩ (.slice none 0 0)).setCell ⟨w.heap.size, 1, none⟩ (.int .i64 (z 0))).setCell ⟨w.heap.size, 2, none⟩ (.int .i64 (z 1))).heap[w.heap.size]? = some (.cells #[.slice none 0 0, .int .i64 (z 0), .int .i64 (z 1)] 104 (0, 0)) := setCell_at (setCell_at (setCell_at hRr 0 _) 1 _) 2 _
        have hlF := run_loadVar_row (P := Tryz.prog) (((wr.setCell ⟨w.heap.size, 0, none⟩ (.slice none 0 0)).setCell ⟨w.heap.size, 1, none⟩ (.int .i64 (z 0))).setCell ⟨w.heap.size, 2, none⟩ (.int .i64 (z 1))).drew w.heap.size 104 104 _ (0, 0) _ hRf Tryz.underlying104 rfl (by kernel_rfl)
        have HB := Lib.hid (hBr.trans (hU3.below (fun k hk => by rw [hk]; exact Nat.le_refl _) hBr.size)).drew
        have HlF := Lib.hid hlF
        clear hrn3 hRf hlF hBr hU hn hRr hrd hrn hU3
        go_upto_region 14 with fail
        go_region
        all_goals
          go_wp2_with fail
          (try simp only [Exit.inBlock, Exit.then])
          refine bodyPost_ret (results_cellE rfl _ _ _ ⟨w.heap.size, 0, none⟩ (.agg #[.slice none 0 0, .int .i64 (z 0), .int .i64 (z 1)]) rfl (HlF.out)) rfl ?_
          exact EntPost.bad Ho.out HB.out _ _ _ _ _
end Go.Proofs.YtbepcjajbcecnaaGreatDoor
