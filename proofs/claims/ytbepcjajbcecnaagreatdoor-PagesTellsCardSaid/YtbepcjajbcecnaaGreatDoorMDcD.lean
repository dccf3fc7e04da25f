/-
  The document's pages: what Open answers, plainly. No program here.
-/
import Derived.Test.YtbepcjajbcecnaaGreatDoorMDcC
import Derived.Test.YtbepcjajbcecnaaGreatDoorMPmG
import Derived.Outline
import Derived.BigQuiet
import Derived.Deep.QuietTactic
import Derived.Deep.CutRange
import Derived.Deep.RegionLaw
import Derived.Test.YtbepcjajbcecnaaGreatDoorMDcB
import Derived.Deep.RegionHeld3
import Derived.Test.YtbepcjajbcecnaaGreatDoorMLoA
import Derived.Test.YtbepcjajbcecnaaGreatDoorMLwA
import Derived.Test.YtbepcjajbcecnaaGreatDoorMPmA
import Derived.Test.YtbepcjajbcecnaaGreatDoorMPmB
import Derived.Test.YtbepcjajbcecnaaGreatDoorMDcA
namespace Go.Proofs.YtbepcjajbcecnaaGreatDoor

theorem pOpen_eq {d : ADisk} {k : Nat} (hk : k ≤ 9007199254740992) : pOpen d (k : Int) = if (pLoad d k).2 ≠ 0 then (d, ⟨0, [], [], false⟩, (pLoad d k).2) else if (pFree d k (packsOf (pLoad d k).1)).2.2 ≠ 0 then ((pFree d k (packsOf (pLoad d k).1)).1, ⟨0, [], [], false⟩, (pFree d k (packsOf (pLoad d k).1)).2.2) else ((pFree d k (packsOf (pLoad d k).1)).1, ⟨k, (pLoad d k).1, packsOf (pLoad d k).1, false⟩, 0) := by
  unfold pOpen
  rw [if_neg (by omega), Int.toNat_natCast]
theorem pOpen_num {d : ADisk} {k : Int} (hk : k < 0 ∨ 9007199254740992 < k) : pOpen d k = (d, ⟨0, [], [], false⟩, 2) := by
  unfold pOpen
  rw [if_pos hk]
theorem pOpen_read {d : ADisk} {k : Nat} (hk : k ≤ 9007199254740992) (h0 : findErr d (iName k) ≠ 0) (h1 : findErr d (iName k) ≠ 13) : pOpen d (k : Int) = (d, ⟨0, [], [], false⟩, findErr d (iName k)) := by
  have hl : pLoad d k = ([], findErr d (iName k)) := by
    unfold pLoad
    rw [if_neg h1, if_pos h0]
  rw [pOpen_eq hk, hl]
  rw [if_pos h0]
theorem pOpen_none {d : ADisk} {k : Nat} (hk : k ≤ 9007199254740992) (hf : findErr d (iName k) = 0 ∨ findErr d (iName k) = 13) (hr : rCommit d k = none) : pOpen d (k : Int) = (d, ⟨0, [], [], false⟩, 14) := by
  have hl := rCommit_load hk hf
  rw [hr] at hl
  rw [pOpen_eq hk, hl]
  rfl
theorem pOpen_some {d : ADisk} {k : Nat} {l : List (ByteArray × ABlob)} (hk : k ≤ 9007199254740992) (hf : findErr d (iName k) = 0 ∨ findErr d (iName k) = 13) (hr : rCommit d k = some l) :
    pOpen d (k : Int) = (if (pFree d k (packsOf l)).2.2 ≠ 0 then ((pFree d k (packsOf l)).1, ⟨0, [], [], false⟩, (pFree d k (packsOf l)).2.2) else ((pFree d k (packsOf l)).1, ⟨k, l, packsOf l, false⟩, 0)) ∧ l.length ≤ 4096 := by
  have hl := rCommit_load hk hf
  rw [hr] at hl
  have hp := pLoad_keys (d := d) hk
  rw [hl] at hp
  rw [pOpen_eq hk, hl]
  exact ⟨rfl, hp.2.1⟩
/-- what is loaded keeps the bounds of a store. -/
theorem pLoad_bnd {d : ADisk} {k : Nat} : ∀ p ∈ (pLoad d k).1, p.2.pack ≤ 9007199254740992 ∧ (p.2.pack ≠ 0 → p.2.pos ≤ 9007199254740992) ∧ p.2.b.length ≤ 1048576 ∧ p.1.size ≤ 60 := by
  have nil : ∀ p ∈ ([] : List (ByteArray × ABlob)), p.2.pack ≤ 9007199254740992 ∧ (p.2.pack ≠ 0 → p.2.pos ≤ 9007199254740992) ∧ p.2.b.length ≤ 1048576 ∧ p.1.size ≤ 60 := fun p hp => (by cases hp)
  by_cases h0 : findErr d (iName k) = 0
  · by_cases hk0 : k = 0
    · subst hk0; rw [pLoad_zero h0]; exact nil
    · cases hi : pIndex (d.readBytes (iName k)) k with
      | none => rw [pLoad_none h0 hk0 hi]; exact nil
      | some es =>
        have hes := pIndex_ents hi
        by_cases hall : ∀ x ∈ es, okB d x
        · rw [pLoad_all h0 hk0 hi hall]
          intro p hp
          obtain ⟨x, hx, rfl⟩ := List.mem_map.1 hp
          have hb := hes.bnd x hx
          exact ⟨hb.pg, fun _ => hb.a1, by show (blobB d x).b.length ≤ 1048576; rw [blobB_len (hall x hx)]; exact hb.l1, hb.n1⟩
        · obtain ⟨x, hx⟩ := Classical.not_forall.1 hall
          obtain ⟨hx1, hx2⟩ := Classical.not_imp.1 hx
          rw [pLoad_bad h0 hk0 hi hx1 hx2]; exact nil
  · rw [pLoad_err h0]; exact nil
theorem pOpen_ok (d : ADisk) (k : Int) : (pOpen d k).2.1.Ok ∧ (pOpen d k).2.1.over = false := by
  have hz : (⟨0, [], [], false⟩ : AStore).Ok := ⟨by decide, by decide, List.Pairwise.nil, fun p hp => (by cases hp)⟩
  by_cases hb : k < 0 ∨ 9007199254740992 < k
  · rw [pOpen_num hb]; exact ⟨hz, rfl⟩
  · obtain ⟨n, rfl⟩ : ∃ n : Nat, k = n := ⟨k.toNat, by omega⟩
    have hn : n ≤ 9007199254740992 := by omega
    rw [pOpen_eq hn]
    split
    · exact ⟨hz, rfl⟩
    · split
      · exact ⟨hz, rfl⟩
      · have hp := pLoad_keys (d := d) hn
        exact ⟨⟨hn, hp.2.1, hp.1, pLoad_bnd⟩, rfl⟩
end Go.Proofs.YtbepcjajbcecnaaGreatDoor

/-
  The document's pages: Open.
-/
namespace Go.Proofs.YtbepcjajbcecnaaGreatDoor
open Go.RowKit Go.Maps Go.MapKept
variable {X : Nat → Prop}
set_option linter.unusedSimpArgs false

/-- a block without strings and bytes. -/
def Bare5 (w : World) (r : Nat) : Prop := ∀ o z, w.cell? ⟨r, o, none⟩ = some z → (∀ s, z ≠ .string s) ∧ (∀ n, z ≠ .int .u8 n)
theorem bare_disk {w : World} {r : Nat} {x y : Int} {p : Option Addr} {q t : Nat} {b : Bool} {T : TypeId} (hr : w.heap[r]? = some (.cells #[.int .i64 x, .slice p q t, .int .i64 y, .bool b] T)) : Bare5 w r := fun o z hz => no_string hr ⟨_, _, _, rfl⟩ ⟨_, rfl⟩ o z hz
theorem bare_store {w : World} {r : Nat} {x : Int} {p p' : Option Addr} {q t q' t' : Nat} {b : Bool} {T : TypeId} (hr : w.heap[r]? = some (.cells #[.int .i64 x, .slice p q t, .slice p' q' t', .bool b] T)) : Bare5 w r := fun o z hz => by
  rw [cell_at hr] at hz
  match o, hz with
  | 0, hz => cases hz; exact ⟨fun s => by simp, fun n => by simp⟩
  | 1, hz => cases hz; exact ⟨fun s => by simp, fun n => by simp⟩
  | 2, hz => cases hz; exact ⟨fun s => by simp, fun n => by simp⟩
  | 3, hz => cases hz; exact ⟨fun s => by simp, fun n => by simp⟩
  | o + 4, hz => simp at hz
theorem RefAt.bare {w w' : World} {a : Option Addr} {n c : Nat} {d : ADisk} {r : Nat} (h : RefAt X w a n c d) (hN : Bare5 w r) (hU : Upd (· = r) w w') : RefAt X w' a n c d := by
  refine ⟨?_, h.len, h.inX⟩
  rcases h.files with h1 | ⟨b, off, n', c', e, hl, hm, hc⟩
  · exact Or.inl h1
  · refine Or.inr ⟨b, off, n', c', e, hl, hm, fun j q hj => ?_⟩
    obtain ⟨cs, h1, h2, vb, h3, h4, h6⟩ := hc j q hj
    have hb : ¬ b = r := fun e => by
      subst e
      have := h2 0 (.string q.1) (by rw [h3]; rfl)
      exact (hN _ _ this).1 _ rfl
    refine ⟨cs, h1, fun i u hi => (hU.cell (cell_lt (h2 i u hi)) hb _).trans (h2 i u hi), vb, h3, ?_, h6⟩
    rcases h4 with h4 | ⟨b2, o2, n2, c2, e2, l2, r2⟩
    · exact Or.inl h4
    · refine Or.inr ⟨b2, o2, n2, c2, e2, l2, fun j u hj => ?_⟩
      have hb2 : ¬ b2 = r := fun e => by
        subst e
        have h5 := r2 j u hj
        simp only [bcells, List.getElem?_map, Option.map_eq_some_iff] at hj
        obtain ⟨z, _, rfl⟩ := hj
        exact (hN _ _ h5).2 _ rfl
      exact (hU.cell (cell_lt (r2 j u hj)) hb2 _).trans (r2 j u hj)
theorem DKeys.bare {w w' : World} {a : Option Addr} {n c : Nat} {l : List (ByteArray × ABlob)} {r : Nat} (h : DKeys w a n c l) (hN : Bare5 w r) (hU : Upd (· = r) w w') : DKeys w' a n c l := by
  refine ⟨?_, h.len⟩
  rcases h.row with h1 | ⟨b, off, n', c', e, hl, hm, hc⟩
  · exact Or.inl h1
  · refine Or.inr ⟨b, off, n', c', e, hl, hm, fun j q hj => ?_⟩
    obtain ⟨cs, h1, h2, vb, h3, h4⟩ := hc j q hj
    have hb : ¬ b = r := fun e => by
      subst e
      have := h2 0 (.string q.1) (by rw [h3]; rfl)
      exact (hN _ _ this).1 _ rfl
    refine ⟨cs, h1, fun i u hi => (hU.cell (cell_lt (h2 i u hi)) hb _).trans (h2 i u hi), vb, h3, ?_⟩
    rcases h4 with h4 | ⟨b2, o2, n2, c2, e2, l2, r2⟩
    · exact Or.inl h4
    · refine Or.inr ⟨b2, o2, n2, c2, e2, l2, fun j u hj => ?_⟩
      have hb2 : ¬ b2 = r := fun e => by
        subst e
        have h5 := r2 j u hj
        simp only [bcells, List.getElem?_map, Option.map_eq_some_iff] at hj
        obtain ⟨z, _, rfl⟩ := hj
        exact (hN _ _ h5).2 _ rfl
      exact (hU.cell (cell_lt (r2 j u hj)) hb2 _).trans (r2 j u hj)
def set4 (w : World) (r : Nat) (v0 v1 v2 v3 : Value) : World := (((w.setCell ⟨r, 0, none⟩ v0).setCell ⟨r, 1, none⟩ v1).setCell ⟨r, 2, none⟩ v2).setCell ⟨r, 3, none⟩ v3
theorem set4_upd (w : World) (r : Nat) (v0 v1 v2 v3 : Value) : Upd (· = r) w (set4 w r v0 v1 v2 v3) := ((((Upd.refl (· = r) w).setCell (p := ⟨r, 0, none⟩) (Or.inl rfl) _).setCell (p := ⟨r, 1, none⟩) (Or.inl rfl) _).setCell (p := ⟨r, 2, none⟩) (Or.inl rfl) _).setCell (p := ⟨r, 3, none⟩) (Or.inl rfl) _
/-- behind the stores of both results. -/
theorem open_answer {w w1 : World} {r1 r2 N : Nat} {a : Option Addr} {n c : Nat} {d : ADisk} {al : Option Addr} {nl cl : Nat} {l : List (ByteArray × ABlob)} {T1 T2 : TypeId} (h : RefAt X w1 a n c d) (hK : DKeys w1 al nl cl l)
    (h1 : w1.heap[r1]? = some (.cells #[.int .i64 0, .slice none 0 0, .int .i64 0, .bool false] T1)) (h2 : w1.heap[r2]? = some (.cells #[.int .i64 0, .slice none 0 0, .slice none 0 0, .bool false] T2)) (hne : r2 ≠ r1) (hb : Below N w w1) (hN1 : N ≤ r1) (hN2 : N ≤ r2) (v0 v1 v2 v3 u0 u1 u2 u3 : Value) :
    RefAt X (set4 (set4 w1 r1 v0 v1 v2 v3) r2 u0 u1 u2 u3) a n c d ∧ DKeys (set4 (set4 w1 r1 v0 v1 v2 v3) r2 u0 u1 u2 u3) al nl cl l ∧ Below N w (set4 (set4 w1 r1 v0 v1 v2 v3) r2 u0 u1 u2 u3) := by
  have U1 := set4_upd w1 r1 v0 v1 v2 v3
  have h2' := U1.keep h2 hne
  have U2 := set4_upd (set4 w1 r1 v0 v1 v2 v3) r2 u0 u1 u2 u3
  have hs1 := U1.size
  have hs : N ≤ w1.heap.size := by have := blk_lt h1; omega
  exact ⟨(h.bare (bare_disk h1) U1).bare (bare_store h2') U2, (hK.bare (bare_disk h1) U1).bare (bare_store h2') U2, (hb.trans (U1.below (fun k hk => by omega) hs)).trans (U2.below (fun k hk => by omega) (by omega))⟩
theorem set4_at {w : World} {r : Nat} {x y z u : Value} {T : TypeId} {fr : Nat × Nat} (h : w.heap[r]? = some (.cells #[x, y, z, u] T fr)) (v0 v1 v2 v3 : Value) : (set4 w r v0 v1 v2 v3).heap[r]? = some (.cells #[v0, v1, v2, v3] T fr) :=
  setCell_at (setCell_at (setCell_at (setCell_at h 0 v0) 1 v1) 2 v2) 3 v3
def ROpen (X : Nat → Prop) (w : World) (r : ADisk × AStore × Int) (e : Ending) (w' : World) : Prop :=
  ∃ a' n' c' al nl cl, e = .returned (.tuple #[refVal a' n' c' r.1, .agg #[.int .i64 r.2.1.k, .slice al nl cl, .slice al nl cl, .bool false], .int .i64 r.2.2]) ∧ RefAt X w' a' n' c' r.1 ∧ DKeys w' al nl cl r.2.1.keys ∧ Below w.heap.size w w'

set_option maxRecDepth 100000 in
set_option maxHeartbeats 8000000 in
theorem r5Open_any (w : World) (a : Option Addr) (n c : Nat) (d : ADisk) (k : Int) (_hki : isI64 k) (h : RefAt X w a n c d) (hw : d.WF) (hX : NewOk X w) :
    Calls Tryz.prog 36 #[refVal a n c d, .int .i64 k] w (ROpen X w (pOpen d k)) := by
  have hA0 := alloc_old (alloc2_at0 w (.cells #[.int .i64 d.most, .slice a n c, .int .i64 d.left, .bool d.down] 74) (.cells #[.int .i64 0, .slice none 0 0, .int .i64 0, .bool false] 74)) (.cells #[.int .i64 0, .slice none 0 0, .slice none 0 0, .bool false] 81)
  have hA1 := alloc_old (alloc2_at w (.cells #[.int .i64 d.most, .slice a n c, .int .i64 d.left, .bool d.down] 74) (.cells #[.int .i64 0, .slice none 0 0, .int .i64 0, .bool false] 74)) (.cells #[.int .i64 0, .slice none 0 0, .slice none 0 0, .bool false] 81)
  have hA2 := alloc_at ((w.alloc (.cells #[.int .i64 d.most, .slice a n c, .int .i64 d.left, .bool d.down] 74)).alloc (.cells #[.int .i64 0, .slice none 0 0, .int .i64 0, .bool false] 74)) (.cells #[.int .i64 0, .slice none 0 0, .slice none 0 0, .bool false] 81)
  have hB0 : Below w.heap.size w (((w.alloc (.cells #[.int .i64 d.most, .slice a n c, .int .i64 d.left, .bool d.down] 74)).alloc (.cells #[.int .i64 0, .slice none 0 0, .int .i64 0, .bool false] 74)).alloc (.cells #[.int .i64 0, .slice none 0 0, .slice none 0 0, .bool false] 81)) := (((Below.refl _ _).alloc (Nat.le_refl _) _).alloc (by simp) _).alloc (by simp; omega) _
  rw [show ((w.alloc (.cells #[.int .i64 d.most, .slice a n c, .int .i64 d.left, .bool d.down] 74)).alloc (.cells #[.int .i64 0, .slice none 0 0, .int .i64 0, .bool false] 74)).heap.size = w.heap.size + 1 + 1 by simp] at hA2
  obtain ⟨W, hW⟩ : ∃ y, ((w.alloc (.cells #[.int .i64 d.most, .slice a n c, .int .i64 d.left, .bool d.down] 74)).alloc (.cells #[.int .i64 0, .slice none 0 0, .int .i64 0, .bool false] 74)).alloc (.cells #[.int .i64 0, .slice none 0 0, .slice none 0 0, .bool false] 81) = y := ⟨_, rfl⟩
  rw [hW] at hA0 hA1 hA2 hB0
  have HW := Lib.hid hW
  clear hW
  by_cases hbad : k < 0 ∨ 9007199254740992 < k
  · rw [pOpen_num hbad]
    have hI : k < 0 ∨ (¬ k < 0 ∧ 9007199254740992 < k) := by omega
    have hRW := h.below hB0
    have HA1 := Lib.hid hA1
    have HA2 := Lib.hid hA2
    obtain ⟨y0, y1, y2, y3, _⟩ := cells4 hA0
    obtain ⟨z0, z1, z2, z3, z4, z5, z6, z7⟩ := cells4 hA1
    obtain ⟨s0, s1, s2, s3, s4, s5, s6, s7⟩ := cells4 hA2
    obtain ⟨p1, p2, p3⟩ := open_answer hRW (DKeys.nil W none) hA1 hA2 (by omega) hB0 (by omega) (by omega) (.int .i64 d.most) (.slice a n c) (.int .i64 d.left) (.bool d.down) (.int .i64 0) (.slice none 0 0) (.slice none 0 0) (.bool false)
    have HP := Lib.hid (And.intro p1 (And.intro p2 p3))
    clear hbad hA1 hA2 p1 p2 p3 hRW h hX hw
    unfold refVal
    rcases hI with hI | ⟨hI, hI2⟩
    all_goals
      go_enter Tryz.func36, Tryz.ntmps36
      go_upto_region 1 with fail
      rw [HW.out]
      go_wp2_with fail
      exact bodyPost_ret (v := .tuple #[.agg #[.int .i64 d.most, .slice a n c, .int .i64 d.left, .bool d.down], .agg #[.int .i64 0, .slice none 0 0, .slice none 0 0, .bool false], .int .i64 2]) (by simp [results, Tryz.results36, go_sem, y0, y1, y2, y3, z0, z1, z2, z3, z4, z5, z6, z7, s0, s1, s2, s3, s4, s5, s6, s7]) rfl ⟨_, _, _, _, _, _, rfl, HP.out.1, HP.out.2.1, HP.out.2.2⟩
  · obtain ⟨kn, rfl⟩ : ∃ n : Nat, k = n := ⟨k.toNat, by omega⟩
    have hk : kn ≤ 9007199254740992 := by omega
    have hk0I : ¬ (kn : Int) < 0 := by omega
    have hkgI : ¬ (9007199254740992 : Int) < (kn : Int) := by omega
    obtain ⟨r, hr⟩ : ∃ r, pOpen d (kn : Int) = r := ⟨_, rfl⟩
    rw [hr]
    have HR := Lib.hid hr
    have HA1 := Lib.hid hA1
    have HA2 := Lib.hid hA2
    have HX := Lib.hid hX
    have Hw := Lib.hid hw
    clear hbad hr hX
    have hRd := fun (w : World) (h : RefAt X w a n c d) => refRead_any w a n c d (iName kn) h hw
    have hC := fun (w : World) (h : RefAt X w a n c d) => r5commit_any w a n c d kn h hw hk
    have hRWd := (h.below hB0).below ((Below.refl W.heap.size W).drew)
    have hDd : W.drew.heap[w.heap.size]? = some (.cells #[.int .i64 d.most, .slice a n c, .int .i64 d.left, .bool d.down] 74) := hA0
    have hI := r5Index_any W.drew kn hk
    have hDl := blk_lt hDd
    clear hw
    unfold refVal at hRd hC ⊢
    go_enter Tryz.func36, Tryz.ntmps36
    go_upto_region 3 with fail
    (try rw [HW.out])
    obtain ⟨y0, y1, y2, y3, _⟩ := cells4 hDd
    go_region_held3 (fun w' => w'.cell? ⟨w.heap.size, 0, none⟩ = some (.int .i64 d.most) ∧ w'.cell? ⟨w.heap.size, 1, none⟩ = some (.slice a n c) ∧ w'.cell? ⟨w.heap.size, 2, none⟩ = some (.int .i64 d.left) ∧ w'.cell? ⟨w.heap.size, 3, none⟩ = some (.bool d.down))
      (first | exact ⟨y0, y1, y2, y3⟩ | exact S3 | go_keep)
      (first
        | (go_at_call 75; (with_reducible refine hI.mono ?_); rintro e w1 ⟨rfl, rfl⟩)
        | (go_at_call 74; (with_reducible refine (hRd _ hRWd).mono ?_); rintro e w2 ⟨a2, n2, c2, rfl, hr2, hb2, hcap2⟩; have S3 : w2.cell? ⟨w.heap.size, 0, none⟩ = some (.int .i64 d.most) ∧ w2.cell? ⟨w.heap.size, 1, none⟩ = some (.slice a n c) ∧ w2.cell? ⟨w.heap.size, 2, none⟩ = some (.int .i64 d.left) ∧ w2.cell? ⟨w.heap.size, 3, none⟩ = some (.bool d.down) := ⟨(hb2.cell (p := ⟨w.heap.size, 0, none⟩) hDl).trans y0, (hb2.cell (p := ⟨w.heap.size, 1, none⟩) hDl).trans y1, (hb2.cell (p := ⟨w.heap.size, 2, none⟩) hDl).trans y2, (hb2.cell (p := ⟨w.heap.size, 3, none⟩) hDl).trans y3⟩))
    have hB2 : Below w.heap.size w w2 := hB0.drew.trans (hb2.mono hB0.size)
    have hD2 := (hb2.block _ hDl).trans hDd
    have hZ2 := (hb2.block _ (blk_lt (show W.drew.heap[_]? = _ from HA1.out))).trans (show W.drew.heap[_]? = _ from HA1.out)
    have hS2 := (hb2.block _ (blk_lt (show W.drew.heap[_]? = _ from HA2.out))).trans (show W.drew.heap[_]? = _ from HA2.out)
    have hR2 := h.below hB2
    have H2 := Lib.hid (And.intro hB2 (And.intro hD2 (And.intro hZ2 (And.intro hS2 hR2))))
    clear hRWd hI hb2 y0 y1 y2 y3 hRd hr2 hcap2 hDl hDd hA0 hA1 hA2 hB2 hD2 hZ2 hS2 hR2 hB0 HA1 HA2
    obtain ⟨fe, hfe⟩ : ∃ fe, findErr d (iName kn) = fe := ⟨_, rfl⟩
    rw [hfe]
    have Hfe := Lib.hid hfe
    clear hfe
    by_cases he : fe ≠ 0 ∧ fe ≠ 13
    · have hI1 : (fe != 0) = true := by simpa using he.1
      have hI2 : (fe != 13) = true := by simpa using he.2
      have hq := pOpen_read hk (by rw [Hfe.out]; exact he.1) (by rw [Hfe.out]; exact he.2)
      rw [HR.out, Hfe.out] at hq
      subst hq
      clear he
      obtain ⟨y0, y1, y2, y3, _⟩ := cells4 H2.out.2.1
      obtain ⟨z0, z1, z2, z3, z4, z5, z6, z7⟩ := cells4 H2.out.2.2.1
      obtain ⟨s0, s1, s2, s3, s4, s5, s6, s7⟩ := cells4 H2.out.2.2.2.1
      obtain ⟨p1, p2, p3⟩ := open_answer H2.out.2.2.2.2 (DKeys.nil w2 none) H2.out.2.2.1 H2.out.2.2.2.1 (by omega) H2.out.1 (by omega) (by omega) (.int .i64 d.most) (.slice a n c) (.int .i64 d.left) (.bool d.down) (.int .i64 0) (.slice none 0 0) (.slice none 0 0) (.bool false)
      have HP := Lib.hid (And.intro p1 (And.intro p2 p3))
      clear p1 p2 p3
      go_wp2_with fail
      exact bodyPost_ret (v := .tuple #[.agg #[.int .i64 d.most, .slice a n c, .int .i64 d.left, .bool d.down], .agg #[.int .i64 0, .slice none 0 0, .slice none 0 0, .bool false], .int .i64 fe]) (by simp [results, Tryz.results36, go_sem, y0, y1, y2, y3, z0, z1, z2, z3, z4, z5, z6, z7, s0, s1, s2, s3, s4, s5, s6, s7]) rfl ⟨_, _, _, _, _, _, rfl, HP.out.1, HP.out.2.1, HP.out.2.2⟩
    · have hf : fe = 0 ∨ fe = 13 := by omega
      have Hf := Lib.hid (show findErr d (iName kn) = 0 ∨ findErr d (iName kn) = 13 by rw [Hfe.out]; exact hf)
      clear he
      go_upto_region 4 with fail
      go_cut [32] from 27 to 32 (fun bv wx => bv = .bool false ∧ wx = w2)
      case first =>
        rcases hf with rfl | rfl
        all_goals
          go_wp2_with fail
          go_meet
          case rel => first | exact ⟨rfl, rfl⟩ | ((repeat apply Exists.intro); exact ⟨⟨rfl, rfl⟩, rfl⟩)
      case rest =>
        obtain ⟨rfl, hww⟩ := hcut
        obtain ⟨w3, rfl⟩ : ∃ x, x = wc := ⟨_, rfl⟩
        subst hww
        obtain ⟨y0, y1, y2, y3, _⟩ := cells4 H2.out.2.1
        have hC2 := hC _ H2.out.2.2.2.2
        clear hf hC
        obtain ⟨o, ho⟩ : ∃ o, rCommit d kn = o := ⟨_, rfl⟩
        rw [ho] at hC2
        unfold CommitPost at hC2
        cases o with
        | none =>
          have hq := pOpen_none hk Hf.out ho
          rw [HR.out] at hq
          subst hq
          clear ho
          go_upto_region 7 with (go_at_call 76; refine hC2.mono ?_; rintro e w4 ⟨hb4, rfl⟩)
          have hD4 := (hb4.block _ (blk_lt H2.out.2.1)).trans H2.out.2.1
          have hZ4 := (hb4.block _ (blk_lt H2.out.2.2.1)).trans H2.out.2.2.1
          have hS4 := (hb4.block _ (blk_lt H2.out.2.2.2.1)).trans H2.out.2.2.2.1
          clear y0 y1 y2 y3
          obtain ⟨y0, y1, y2, y3, _⟩ := cells4 hD4
          obtain ⟨z0, z1, z2, z3, z4, z5, z6, z7⟩ := cells4 hZ4
          obtain ⟨s0, s1, s2, s3, s4, s5, s6, s7⟩ := cells4 hS4
          obtain ⟨p1, p2, p3⟩ := open_answer (H2.out.2.2.2.2.below hb4) (DKeys.nil w4 none) hZ4 hS4 (by omega) (H2.out.1.trans (hb4.mono H2.out.1.size)) (by omega) (by omega) (.int .i64 d.most) (.slice a n c) (.int .i64 d.left) (.bool d.down) (.int .i64 0) (.slice none 0 0) (.slice none 0 0) (.bool false)
          have HP := Lib.hid (And.intro p1 (And.intro p2 p3))
          clear p1 p2 p3 hb4 hD4 hZ4 hS4
          go_wp2_with fail
          exact bodyPost_ret (v := .tuple #[.agg #[.int .i64 d.most, .slice a n c, .int .i64 d.left, .bool d.down], .agg #[.int .i64 0, .slice none 0 0, .slice none 0 0, .bool false], .int .i64 14]) (by simp [results, Tryz.results36, go_sem, y0, y1, y2, y3, z0, z1, z2, z3, z4, z5, z6, z7, s0, s1, s2, s3, s4, s5, s6, s7]) rfl ⟨_, _, _, _, _, _, rfl, HP.out.1, HP.out.2.1, HP.out.2.2⟩
        | some l =>
          obtain ⟨hq, hll⟩ := pOpen_some hk Hf.out ho
          rw [HR.out] at hq
          clear ho
          go_upto_region 9 with (go_at_call 76; refine hC2.mono ?_; rintro e w4 ⟨hb4, al, nl, cl, rfl, hK4⟩)
          have hD4 := (hb4.block _ (blk_lt H2.out.2.1)).trans H2.out.2.1
          have hZ4 := (hb4.block _ (blk_lt H2.out.2.2.1)).trans H2.out.2.2.1
          have hS4 := (hb4.block _ (blk_lt H2.out.2.2.2.1)).trans H2.out.2.2.2.1
          have hB4 := H2.out.1.trans (hb4.mono H2.out.1.size)
          have hR4 := H2.out.2.2.2.2.below hb4
          clear y0 y1 y2 y3 hb4
          have hT5 := alloc_at w4 (.cells #[.int .i64 kn, .slice al nl cl, .slice al nl cl, .bool false] 81)
          have hbT : Below w4.heap.size w4 (w4.alloc (.cells #[.int .i64 kn, .slice al nl cl, .slice al nl cl, .bool false] 81)) := (Below.refl _ _).alloc (Nat.le_refl _) _
          obtain ⟨w5, hw5⟩ : ∃ y, w4.alloc (.cells #[.int .i64 kn, .slice al nl cl, .slice al nl cl, .bool false] 81) = y := ⟨_, rfl⟩
          rw [hw5] at hT5 hbT
          have hB5 := hB4.trans (hbT.mono hB4.size)
          have hD5 := (hbT.block _ (blk_lt hD4)).trans hD4
          have hZ5 := (hbT.block _ (blk_lt hZ4)).trans hZ4
          have hS5 := (hbT.block _ (blk_lt hS4)).trans hS4
          have hK5 := hK4.below hbT
          have hF := r5free_any w5 a n c d kn (.slice al nl cl) false al nl cl l ((pFree d kn (packsOf l)).1, (pFree d kn (packsOf l)).2.2) (hR4.below hbT) Hw.out (HX.out.below hB5) hK5 (by omega) rfl
          obtain ⟨d2, hd2⟩ : ∃ x, (pFree d kn (packsOf l)).1 = x := ⟨_, rfl⟩
          obtain ⟨er, her⟩ : ∃ x, (pFree d kn (packsOf l)).2.2 = x := ⟨_, rfl⟩
          rw [hd2, her] at hF hq
          have hlt4 : w.heap.size + 1 + 1 < w4.heap.size := blk_lt hS4
          have Hw5 := Lib.hid hw5
          have Hq := Lib.hid hq
          have HB := Lib.hid hB5
          have HK := Lib.hid hK5
          clear hd2 her hw5 hq hD4 hZ4 hS4 hR4 hB4 hbT hB5 hK5 hK4 hC2 H2 hll
          unfold refVal at hF
          go_upto_region 10 with fail
          rw [Hw5.out]
          obtain ⟨y0, y1, y2, y3, y4, y5, y6, y7⟩ := cells4 hD5
          obtain ⟨t0, t1, t2, t3, _⟩ := cells4 hT5
          go_upto_region 11 with (go_at_call 77; refine hF.mono ?_; rintro e w6 ⟨a6, n6, c6, v6, rfl, hR6, hb6⟩; have y0 := (hb6.cell (p := ⟨w.heap.size, 0, none⟩) (cell_lt y0)).trans y0; have y1 := (hb6.cell (p := ⟨w.heap.size, 1, none⟩) (cell_lt y1)).trans y1; have y2 := (hb6.cell (p := ⟨w.heap.size, 2, none⟩) (cell_lt y2)).trans y2; have y3 := (hb6.cell (p := ⟨w.heap.size, 3, none⟩) (cell_lt y3)).trans y3; obtain ⟨_, _, _, _, f0, f1, f2, f3⟩ := cells4 ((hb6.block _ (blk_lt hD5)).trans hD5))
          have hD6 := (hb6.block _ (blk_lt hD5)).trans hD5
          have hZ6 := (hb6.block _ (blk_lt hZ5)).trans hZ5
          have hS6 := (hb6.block _ (blk_lt hS5)).trans hS5
          have hT6 := (hb6.block _ (blk_lt hT5)).trans hT5
          have hB6 := HB.out.trans (hb6.mono HB.out.size)
          have hU7 := set4_upd w6 w.heap.size (.int .i64 d2.most) (.slice a6 n6 c6) (.int .i64 d2.left) (.bool d2.down)
          have hD7 := set4_at hD6 (.int .i64 d2.most) (.slice a6 n6 c6) (.int .i64 d2.left) (.bool d2.down)
          obtain ⟨w7, hw7⟩ : ∃ y, set4 w6 w.heap.size (.int .i64 d2.most) (.slice a6 n6 c6) (.int .i64 d2.left) (.bool d2.down) = y := ⟨_, rfl⟩
          rw [hw7] at hU7 hD7
          unfold set4 at hw7
          rw [hw7]
          have hZ7 := hU7.keep hZ6 (by omega)
          have hS7 := hU7.keep hS6 (by omega)
          have hT7 := hU7.keep hT6 (by omega)
          have hR7 := (hR6.bare (bare_disk hD6) hU7)
          have hK7 := ((HK.out.below hb6).bare (bare_disk hD6) hU7)
          have hB7 : Below w.heap.size w w7 := hB6.trans (hU7.below (fun k hk => by omega) hB6.size)
          have H7 := Lib.hid (And.intro hR7 (And.intro hK7 hB7))
          clear y0 y1 y2 y3 y4 y5 y6 y7 t0 t1 t2 t3 f0 f1 f2 f3 hw7 hU7 hR7 hK7 hB7 hD6 hZ6 hS6 hT6 hB6 hb6 hR6 hD5 hZ5 hS5 hT5 hF
          by_cases he : er = 0
          · subst he
            have hq := Hq.out
            rw [if_neg (by simp)] at hq
            subst hq
            obtain ⟨y0, y1, y2, y3, _⟩ := cells4 hD7
            obtain ⟨z0, z1, z2, z3, z4, z5, z6, z7⟩ := cells4 hZ7
            obtain ⟨s0, s1, s2, s3, s4, s5, s6, s7⟩ := cells4 hS7
            obtain ⟨t0, t1, t2, t3, _⟩ := cells4 hT7
            obtain ⟨p1, p2, p3⟩ := open_answer H7.out.1 H7.out.2.1 hZ7 hS7 (by omega) H7.out.2.2 (by omega) (by omega) (.int .i64 d2.most) (.slice a6 n6 c6) (.int .i64 d2.left) (.bool d2.down) (.int .i64 kn) (.slice al nl cl) (.slice al nl cl) (.bool false)
            have HP := Lib.hid (And.intro p1 (And.intro p2 p3))
            clear p1 p2 p3
            go_upto_region 13 with fail
            go_region_law (fail)
            all_goals
              (try simp only [Exit.inBlock, Exit.then])
              go_wp2_with fail
              exact bodyPost_ret (v := .tuple #[.agg #[.int .i64 d2.most, .slice a6 n6 c6, .int .i64 d2.left, .bool d2.down], .agg #[.int .i64 kn, .slice al nl cl, .slice al nl cl, .bool false], .int .i64 0]) (by simp [Act.put, results, Tryz.results36, go_sem, y0, y1, y2, y3, z0, z1, z2, z3, z4, z5, z6, z7, s0, s1, s2, s3, s4, s5, s6, s7]) rfl ⟨_, _, _, _, _, _, rfl, HP.out.1.below ((Below.refl _ _).drew), HP.out.2.1.below ((Below.refl _ _).drew), HP.out.2.2.drew⟩
          · have hI : (er != 0) = true := by simpa using he
            have hq := Hq.out
            rw [if_pos he] at hq
            subst hq
            clear he
            obtain ⟨y0, y1, y2, y3, _⟩ := cells4 hD7
            obtain ⟨z0, z1, z2, z3, z4, z5, z6, z7⟩ := cells4 hZ7
            obtain ⟨s0, s1, s2, s3, s4, s5, s6, s7⟩ := cells4 hS7
            obtain ⟨p1, p2, p3⟩ := open_answer H7.out.1 (DKeys.nil w7 none) hZ7 hS7 (by omega) H7.out.2.2 (by omega) (by omega) (.int .i64 d2.most) (.slice a6 n6 c6) (.int .i64 d2.left) (.bool d2.down) (.int .i64 0) (.slice none 0 0) (.slice none 0 0) (.bool false)
            have HP := Lib.hid (And.intro p1 (And.intro p2 p3))
            clear p1 p2 p3
            go_wp2_with fail
            exact bodyPost_ret (v := .tuple #[.agg #[.int .i64 d2.most, .slice a6 n6 c6, .int .i64 d2.left, .bool d2.down], .agg #[.int .i64 0, .slice none 0 0, .slice none 0 0, .bool false], .int .i64 er]) (by simp [results, Tryz.results36, go_sem, y0, y1, y2, y3, z0, z1, z2, z3, z4, z5, z6, z7, s0, s1, s2, s3, s4, s5, s6, s7]) rfl ⟨_, _, _, _, _, _, rfl, HP.out.1, HP.out.2.1, HP.out.2.2⟩
end Go.Proofs.YtbepcjajbcecnaaGreatDoor

/-
  The document's pages: Names; a store that is as the document's.
-/
namespace Go.Proofs.YtbepcjajbcecnaaGreatDoor
open Go.RowKit Go.Maps Go.MapKept
set_option linter.unusedSimpArgs false

set_option maxRecDepth 100000 in
set_option maxHeartbeats 4000000 in
theorem r5Names_any (w : World) (k : Int) (ah : Option Addr) (nh ch : Nat) (ov : Bool) (a : Option Addr) (n c : Nat) (l : List (ByteArray × ABlob)) (h : DKeys w a n c l) (hl : l.length ≤ 5000) :
    Calls Tryz.prog 78 #[.agg #[.int .i64 k, .slice a n c, .slice ah nh ch, .bool ov]] w fun e w' => ∃ a' c', e = .returned (.slice a' l.length c') ∧ Rd w' (.slice a' l.length c') (sCells (l.map (·.1))) ∧ Below w.heap.size w w' := by
  have hn := h.len
  subst hn
  have hS0 := alloc_at w (.cells #[.int .i64 k, .slice a l.length c, .slice ah nh ch, .bool ov] 81)
  have hB0 : Below w.heap.size w (w.alloc (.cells #[.int .i64 k, .slice a l.length c, .slice ah nh ch, .bool ov] 81)) := (Below.refl _ _).alloc (Nat.le_refl _) _
  obtain ⟨w1, hw1⟩ : ∃ y, w.alloc (.cells #[.int .i64 k, .slice a l.length c, .slice ah nh ch, .bool ov] 81) = y := ⟨_, rfl⟩
  rw [hw1] at hS0 hB0
  go_enter Tryz.func78, Tryz.ntmps78
  go_wp2_with fail
  (try rw [hw1])
  have HS0 := Lib.hid (And.intro hS0 hB0)
  clear hw1 hS0 hB0
  go_loopw [3, 4] (fun ov iv wr => ∃ (out : List ByteArray) (i : Nat) (ao : Option Addr) (co : Nat), i ≤ l.length ∧ out = (l.map (·.1)).take i ∧ ov = .slice ao i co ∧ iv = .int .i64 i ∧ wr.ownsRow w1.heap.size 9 1 (.slice ao i co) i (sCells out) ∧ Below w1.heap.size w1 wr) (fun _ iv _ => l.length - (intOf iv).toNat)
  case atStart => exact ⟨[], 0, none, 0, by omega, rfl, rfl, rfl, World.ownsRow_nil _ _ _ _, Below.refl _ _⟩
  case round =>
    obtain ⟨out, i, ao, co, hi, ho, rfl, rfl, hrow, hBr⟩ := hrel
    obtain ⟨wq, rfl⟩ : ∃ x, x = wr := ⟨_, rfl⟩
    have hBq : Below w.heap.size w wq := HS0.out.2.trans (hBr.mono HS0.out.2.size)
    have hSq := (hBr.block _ (blk_lt HS0.out.1)).trans HS0.out.1
    obtain ⟨x0, x1, x2, x3, _⟩ := cells4 hSq
    by_cases hlt : i < l.length
    · obtain ⟨b, off, vb, rfl, e0, -⟩ := (h.below hBq).at i hlt
      obtain ⟨s, hs⟩ : ∃ s, l[i].1 = s := ⟨_, rfl⟩
      rw [hs] at e0
      have hol : out.length = i := by rw [ho, List.length_take, List.length_map]; omega
      have hnx : out ++ [s] = (l.map (·.1)).take (i + 1) := by
        rw [ho, List.take_succ_eq_append_getElem (by rw [List.length_map]; exact hlt), List.getElem_map, hs]
      have hltI : (i : Int) < (l.length : Int) := by omega
      have hr2 := (Upd.ofBelow (fp := noFp) ((Below.refl wq.heap.size wq).alloc (Nat.le_refl _) (.cells #[.string s] 9))).row hrow (fun _ _ h => h)
      have Hr2 := Lib.hid hr2
      have Hol := Lib.hid hol
      have Hnx := Lib.hid hnx
      have HBr := Lib.hid (And.intro hBr (And.intro hrow hSq))
      clear hr2 hol hnx ho hs hBr hrow hBq hSq
      go_wp2_with (at_builtin; refine append_str5 rfl (.tmp 12) (.tmp 19) rfl (.slice ao i co) (.slice (some ⟨wq.heap.size, 0, none⟩) 1 1) out [s] (out ++ [s]) i Hol.out.symm rfl rfl (ownsRow_base0 Hr2.out) rfl (Rd_new _ _ _ _ (sCells [s]) _ _ rfl rfl) (by have := Hol.out; simp; omega) ?_; intro v8 w8 g1 g2 g3; obtain ⟨a8, c8, rfl⟩ := row_str5 g1; have HG := Lib.hid (And.intro g1 (And.intro g2 g3)); clear g1 g2 g3)
      have hl8 : (out ++ [s]).length = i + 1 := by have := Hol.out; simp; omega
      have hrow8 : w8.ownsRow w1.heap.size 9 1 (.slice a8 (out ++ [s]).length c8) (out ++ [s]).length (sCells (out ++ [s])) := ownsRow_from HG.out.1 (fun g hg => by
        rcases HG.out.2.2 with e | ⟨g', e, h⟩
        · rw [e] at hg; exact (HBr.out.2.1.lt g hg).1
        · rw [e] at hg; cases hg; have := HBr.out.1.size; simp at h; omega)
      have hb7 : Below w1.heap.size w1 (wq.alloc (.cells #[.string s] 9)) := HBr.out.1.alloc HBr.out.1.size _
      have U8 : Upd (fun k => (Value.slice ao i co).ownBlock = some k) (wq.alloc (.cells #[.string s] 9)) w8 := (Upd.refl _ _).grown HG.out.2.1 (fun j hj => Or.inl hj)
      have hb8 : Below w1.heap.size w1 w8 := hb7.trans (U8.below (N := w1.heap.size) (fun j hj => (HBr.out.2.1.lt j hj).1) hb7.size)
      rw [hl8] at hrow8
      (try rw [Hol.out])
      have HX := Lib.hid (And.intro hrow8 hb8)
      clear hrow8 hb8 hb7 U8 hl8
      go_roundw
      case rel => exact ⟨out ++ [s], i + 1, a8, c8, by omega, Hnx.out, rfl, by go_num, HX.out.1, HX.out.2⟩
      case measure => simp [intOf]; omega
    · obtain rfl : i = l.length := by omega
      go_wp2_with fail
      go_ret
      refine ⟨_, _, rfl, ?_, hBq⟩
      have := Rd.ofOwns hrow
      rw [ho, List.take_of_length_le (by rw [List.length_map]; exact Nat.le_refl _)] at this
      exact this
theorem SameTexts_yes (w : World) (va vb : Value) (a : List ByteArray) (ha : Rd w va (sCells a)) (hb : Rd w vb (sCells a)) (hl : a.length ≤ maxLen) :
    Calls Tryz.prog 25 #[va, vb] w fun e w' => e = .returned (.bool true) ∧ Below w.heap.size w w' :=
  (SameTexts_any w va vb a a ha hb hl hl).mono fun e w' h => ⟨by rw [h.1, decide_eq_true rfl], h.2⟩
theorem got_key {st : AStore} (hok : st.Ok) (i : Nat) (h : i < st.keys.length) : kB st.keys st.keys[i].1 = some st.keys[i].2 ∧ st.got st.keys[i].1 = st.keys[i].2.b := by
  have h1 : kB st.keys st.keys[i].1 = some st.keys[i].2 := mem_kB hok.sorted (List.getElem_mem h)
  exact ⟨h1, by unfold AStore.got; rw [h1]; rfl⟩
section
variable {ex : Nat → Prop} {w : World} {q p m : Nat} {d : ADisk} {st : AStore}
set_option maxRecDepth 100000 in
set_option maxHeartbeats 4000000 in
theorem same5_yes (h : StoreAt ex w q p m d st) (hok : st.Ok) (hov : st.over = false) {a : Option Addr} {n c : Nat} {ah : Option Addr} {nh ch : Nat} (hK : DKeys w a n c st.keys) :
    Calls Tryz.prog 37 #[.pointer (some ⟨q, 0, none⟩), .agg #[.int .i64 st.k, .slice a n c, .slice ah nh ch, .bool false]] w fun e w' => e = .returned (.bool true) ∧ Below w.heap.size w w' := by
  have hn := hK.len
  subst hn
  have hcnt := hok.count
  have hS0 := alloc_at w (.cells #[.int .i64 st.k, .slice a st.keys.length c, .slice ah nh ch, .bool false] 81)
  have hB0 : Below w.heap.size w (w.alloc (.cells #[.int .i64 st.k, .slice a st.keys.length c, .slice ah nh ch, .bool false] 81)) := (Below.refl _ _).alloc (Nat.le_refl _) _
  obtain ⟨w1, hw1⟩ : ∃ y, w.alloc (.cells #[.int .i64 st.k, .slice a st.keys.length c, .slice ah nh ch, .bool false] 81) = y := ⟨_, rfl⟩
  rw [hw1] at hS0 hB0
  have hSd : w1.drew.heap[w.heap.size]? = some (.cells #[.int .i64 st.k, .slice a st.keys.length c, .slice ah nh ch, .bool false] 81) := hS0
  have hBd : Below w.heap.size w w1.drew := hB0.drew
  have hN := pgNumber_at (h.below hBd)
  have hO := pgOver_at (h.below hBd)
  have hKe := pgKeys_at (h.below hBd) hok
  unfold KeysPost at hKe
  rw [hov] at hO
  have hnl : st.names.length = st.keys.length := by unfold AStore.names; rw [List.length_map]
  obtain ⟨kk, hkk⟩ : ∃ kk : Int, (st.k : Int) = kk := ⟨_, rfl⟩
  rw [hkk] at hS0 hSd hN ⊢
  have Hh := Lib.hid (And.intro h (And.intro hok hK))
  have HB := Lib.hid (And.intro hS0 hB0)
  have HBd := Lib.hid hBd
  have Hnl := Lib.hid hnl
  rw [hkk] at hw1
  clear hkk h hok hK hnl hS0 hB0 hBd
  go_enter Tryz.func37, Tryz.ntmps37
  go_upto_region 1 with fail
  (try rw [hw1])
  clear hw1
  obtain ⟨y0, y1, y2, y3, _⟩ := cells4 hSd
  have hq1 : (kk != kk) = false := by simp
  go_region_held3 (fun w' => w'.cell? ⟨w.heap.size, 0, none⟩ = some (.int .i64 kk) ∧ w'.cell? ⟨w.heap.size, 1, none⟩ = some (.slice a st.keys.length c) ∧ w'.cell? ⟨w.heap.size, 2, none⟩ = some (.slice ah nh ch) ∧ w'.cell? ⟨w.heap.size, 3, none⟩ = some (.bool false))
    (first | exact ⟨y0, y1, y2, y3⟩ | exact S3 | exact S4 | exact S5 | go_keep)
    (first
      | (go_at_call 17; (with_reducible refine hN.mono ?_); rintro e w2 ⟨rfl, rfl⟩)
      | (go_at_call 30; (with_reducible refine hO.mono ?_); rintro e w2 ⟨rfl, rfl⟩)
      | (go_at_call 20; (with_reducible refine hKe.mono ?_); rintro e w3 ⟨a3, c3, rfl, hr3, hb3⟩; have S3 : w3.cell? ⟨w.heap.size, 0, none⟩ = some (.int .i64 kk) ∧ w3.cell? ⟨w.heap.size, 1, none⟩ = some (.slice a st.keys.length c) ∧ w3.cell? ⟨w.heap.size, 2, none⟩ = some (.slice ah nh ch) ∧ w3.cell? ⟨w.heap.size, 3, none⟩ = some (.bool false) := ⟨(hb3.cell (p := ⟨w.heap.size, 0, none⟩) (cell_lt y0)).trans y0, (hb3.cell (p := ⟨w.heap.size, 1, none⟩) (cell_lt y1)).trans y1, (hb3.cell (p := ⟨w.heap.size, 2, none⟩) (cell_lt y2)).trans y2, (hb3.cell (p := ⟨w.heap.size, 3, none⟩) (cell_lt y3)).trans y3⟩; have hNa := r5Names_any w3 kk ah nh ch false a st.keys.length c st.keys (Hh.out.2.2.below (HBd.out.trans (hb3.mono HBd.out.size))) (by omega))
      | (go_at_call 78; (with_reducible refine hNa.mono ?_); rintro e w4 ⟨a4, c4, rfl, hr4, hb4⟩; have S4 : w4.cell? ⟨w.heap.size, 0, none⟩ = some (.int .i64 kk) ∧ w4.cell? ⟨w.heap.size, 1, none⟩ = some (.slice a st.keys.length c) ∧ w4.cell? ⟨w.heap.size, 2, none⟩ = some (.slice ah nh ch) ∧ w4.cell? ⟨w.heap.size, 3, none⟩ = some (.bool false) := ⟨(hb4.cell (p := ⟨w.heap.size, 0, none⟩) (cell_lt S3.1)).trans S3.1, (hb4.cell (p := ⟨w.heap.size, 1, none⟩) (cell_lt S3.2.1)).trans S3.2.1, (hb4.cell (p := ⟨w.heap.size, 2, none⟩) (cell_lt S3.2.2.1)).trans S3.2.2.1, (hb4.cell (p := ⟨w.heap.size, 3, none⟩) (cell_lt S3.2.2.2)).trans S3.2.2.2⟩; have hST := SameTexts_yes w4 _ _ st.names ((Rd.ofOwns hr3).below hb4) hr4 (by rw [Hnl.out]; simp only [maxLen]; omega))
      | (go_at_call 25; (with_reducible refine hST.mono ?_); rintro e w5 ⟨rfl, hb5⟩; have S5 : w5.cell? ⟨w.heap.size, 0, none⟩ = some (.int .i64 kk) ∧ w5.cell? ⟨w.heap.size, 1, none⟩ = some (.slice a st.keys.length c) ∧ w5.cell? ⟨w.heap.size, 2, none⟩ = some (.slice ah nh ch) ∧ w5.cell? ⟨w.heap.size, 3, none⟩ = some (.bool false) := ⟨(hb5.cell (p := ⟨w.heap.size, 0, none⟩) (cell_lt S4.1)).trans S4.1, (hb5.cell (p := ⟨w.heap.size, 1, none⟩) (cell_lt S4.2.1)).trans S4.2.1, (hb5.cell (p := ⟨w.heap.size, 2, none⟩) (cell_lt S4.2.2.1)).trans S4.2.2.1, (hb5.cell (p := ⟨w.heap.size, 3, none⟩) (cell_lt S4.2.2.2)).trans S4.2.2.2⟩))
  have hbt : Below w1.drew.heap.size w1.drew w5 := (hb3.trans (hb4.mono hb3.size)).trans (hb5.mono (hb3.trans (hb4.mono hb3.size)).size)
  have hB5 : Below w.heap.size w w5 := HBd.out.trans (hbt.mono HBd.out.size)
  have hS5 : w5.heap[w.heap.size]? = some (.cells #[.int .i64 kk, .slice a st.keys.length c, .slice ah nh ch, .bool false] 81) := (hbt.block _ (blk_lt hSd)).trans hSd
  have H5 := Lib.hid (And.intro hB5 hS5)
  clear S3 S4 S5 hb3 hb4 hb5 hr3 hr4 hST hNa hKe hN hO hbt hB5 hS5 hq1 y0 y1 y2 y3 hSd HBd HB
  go_wp2_with fail
  go_loopw [5, 6, 7] (fun iv _ _ wr => ∃ i : Nat, i ≤ st.keys.length ∧ iv = .int .i64 i ∧ Below w5.heap.size w5 wr) (fun iv _ _ _ => st.keys.length - (intOf iv).toNat)
  case atStart => exact ⟨0, by omega, rfl, Below.refl _ _⟩
  case round =>
    obtain ⟨i, hi, rfl, hBr⟩ := hrel
    obtain ⟨wq, rfl⟩ : ∃ x, x = wr := ⟨_, rfl⟩
    have hBq := H5.out.1.trans (hBr.mono H5.out.1.size)
    have hSq := (hBr.block _ (blk_lt H5.out.2)).trans H5.out.2
    obtain ⟨x0, x1, x2, x3, _⟩ := cells4 hSq
    by_cases hlt : i < st.keys.length
    · obtain ⟨b, off, vb, rfl, e0, e1, _, _, hrd⟩ := (Hh.out.2.2.below hBq).at i hlt
      obtain ⟨g1, g2⟩ := got_key Hh.out.2.1 i hlt
      have hbd := Hh.out.2.1.blob _ (List.getElem_mem hlt)
      have hG := pgGet_at (Hh.out.1.below hBq) st.keys[i].1 (by have := hbd.2.2.2; simp only [maxLen]; omega) (by rw [g2]; exact hbd.2.2.1)
      rw [g1, g2] at hG
      obtain ⟨x, hx⟩ : ∃ x, st.keys[i] = x := ⟨_, rfl⟩
      rw [hx] at e0 hG hrd
      unfold GetPost at hG
      have hltI : (i : Int) < (st.keys.length : Int) := by omega
      obtain ⟨av, cv, hvb⟩ := hrd.shape
      rw [bcells_length] at hvb
      subst hvb
      have Hrd := Lib.hid hrd
      have HBq := Lib.hid (And.intro hBr hBq)
      clear hx g1 g2 hbd hrd hBr hBq
      go_upto_region 7 with (go_at_call 28; refine hG.mono ?_; rintro e w6 ⟨a6, c6, rfl, hr6, hb6⟩; have x0 := (hb6.cell (p := ⟨w.heap.size, 0, none⟩) (cell_lt x0)).trans x0; have x1 := (hb6.cell (p := ⟨w.heap.size, 1, none⟩) (cell_lt x1)).trans x1; have e1 := (hb6.cell (p := ⟨b, off + i * 4 + 1, none⟩) (cell_lt e1)).trans e1)
      have hSB := sameB_yes w6 _ _ x.2.b (Rd.ofOwns hr6) (Hrd.out.below hb6)
      have Hb6 := Lib.hid hb6
      clear hb6 hr6 hG
      go_wp2_with (go_at_call 27; refine hSB.mono ?_; rintro e w7 ⟨rfl, rfl⟩)
      go_roundw
      case rel => exact ⟨i + 1, by omega, by go_num, HBq.out.1.trans (Hb6.out.mono HBq.out.1.size)⟩
      case measure => simp [intOf]; omega
    · obtain rfl : i = st.keys.length := by omega
      go_wp2_with fail
      go_ret
      exact ⟨rfl, hBq⟩
end
end Go.Proofs.YtbepcjajbcecnaaGreatDoor
