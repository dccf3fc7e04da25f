/-
  Open, of any commit upon any disk.
-/
import Derived.Test.YtbepcjajbcecnaaGreatDoorMPgm21
namespace Go.Proofs.YtbepcjajbcecnaaGreatDoor
open Go.RowKit Go.Maps Go.MapKept
set_option linter.unusedSimpArgs false

/-- what is known of keys that were loaded. -/
theorem pLoad_keys {d : ADisk} {k : Nat} (hk : k ≤ 9007199254740992) : SortedB (pLoad d k).1 ∧ (pLoad d k).1.length ≤ 4096 ∧ ∀ p ∈ (pLoad d k).1, p.2.pack ≤ 9007199254740992 ∧ p.2.pack ≤ k := by
  have nil : SortedB [] ∧ ([] : List (ByteArray × ABlob)).length ≤ 4096 ∧ ∀ p ∈ ([] : List (ByteArray × ABlob)), p.2.pack ≤ 9007199254740992 ∧ p.2.pack ≤ k := ⟨List.Pairwise.nil, by simp, fun p hp => (by cases hp)⟩
  by_cases h0 : findErr d (iName k) = 0
  · by_cases hk0 : k = 0
    · subst hk0; rw [pLoad_zero h0]; exact nil
    · cases hi : pIndex (d.readBytes (iName k)) k with
      | none => rw [pLoad_none h0 hk0 hi]; exact nil
      | some es =>
        have hes := pIndex_ents hi
        by_cases hall : ∀ x ∈ es, okB d x
        · rw [pLoad_all h0 hk0 hi hall]
          refine ⟨hes.sorted d, by unfold blobsB; rw [List.length_map]; exact hes.len, fun p hp => ?_⟩
          obtain ⟨x, hx, rfl⟩ := List.mem_map.1 hp
          exact ⟨(hes.bnd x hx).pg, (hes.bnd x hx).p1⟩
        · obtain ⟨x, hx⟩ := Classical.not_forall.1 hall
          obtain ⟨hx1, hx2⟩ := Classical.not_imp.1 hx
          rw [pLoad_bad h0 hk0 hi hx1 hx2]; exact nil
  · rw [pLoad_err h0]; exact nil
def OpenPost (ex : Nat → Prop) (w : World) (p m : Nat) (r : ADisk × AStore × Int) (e : Ending) (w' : World) : Prop :=
  if r.2.2 = 0 then ∃ q, e = .returned (.tuple #[.pointer (some ⟨q, 0, none⟩), .int .i64 0]) ∧ StoreAt ex w' q p m r.1 r.2.1 ∧ Keep ex w w' ∧ w.heap.size ≤ q
  else e = .returned (.tuple #[.pointer none, .int .i64 r.2.2]) ∧ DiskAt ex w' p m r.1 ∧ Keep ex w w'
section
variable {ex : Nat → Prop} {w : World} {p m : Nat} {d : ADisk}
set_option maxRecDepth 100000 in
set_option maxHeartbeats 8000000 in
theorem pgOpen_at (h : DiskAt ex w p m d) (hE : WEnv w) (hG : GlIn ex) (k : Int) (hki : isI64 k) :
    Calls Tryz.prog 16 #[.pointer (some ⟨p, 0, none⟩), .int .i64 k] w (OpenPost ex w p m (pOpen d k)) := by
  have hlt : ∀ k, ex k → k < w.heap.size := fun k hk => h.lt hk
  by_cases hbad : k < 0 ∨ 9007199254740992 < k
  · have hP : pOpen d k = (d, ⟨0, [], [], false⟩, 2) := by unfold pOpen; rw [if_pos hbad]
    rw [hP]
    have H := Lib.hid h
    have hI : k < 0 ∨ (¬ k < 0 ∧ 9007199254740992 < k) := by omega
    clear hP hbad h hE hki
    rcases hI with hI | ⟨hI, hI2⟩
    all_goals
      go_enter Tryz.func16, Tryz.ntmps16
      go_wp2
      go_ret2
      exact ⟨rfl, H.out, Keep.refl _ _⟩
  · obtain ⟨kn, rfl⟩ : ∃ n : Nat, k = n := ⟨k.toNat, by omega⟩
    have hk : kn ≤ 9007199254740992 := by omega
    have hk0I : ¬ (kn : Int) < 0 := by omega
    have hkgI : ¬ (9007199254740992 : Int) < (kn : Int) := by omega
    have hL := pgload_at h hE kn hk
    have hfac := pLoad_keys (d := d) hk
    have hPO : pOpen d (kn : Int) = if (pLoad d kn).2 ≠ 0 then (d, ⟨0, [], [], false⟩, (pLoad d kn).2) else if (pFree d kn (packsOf (pLoad d kn).1)).2.2 ≠ 0 then ((pFree d kn (packsOf (pLoad d kn).1)).1, ⟨0, [], [], false⟩, (pFree d kn (packsOf (pLoad d kn).1)).2.2) else ((pFree d kn (packsOf (pLoad d kn).1)).1, ⟨kn, (pLoad d kn).1, packsOf (pLoad d kn).1, false⟩, 0) := by
      unfold pOpen
      rw [if_neg hbad, Int.toNat_natCast]
    rw [hPO]
    obtain ⟨l, er, hle⟩ : ∃ l er, pLoad d kn = (l, er) := ⟨_, _, rfl⟩
    rw [hle] at hL hfac ⊢
    simp only at hfac ⊢
    unfold LoadPost at hL
    simp only at hL
    clear hPO hbad hki hle
    by_cases h0 : er = 0
    · subst h0
      rw [if_neg (by simp)]
      simp only [if_true] at hL
      obtain ⟨hso, hl4, hpk⟩ := hfac
      obtain ⟨dF, ns, fe, hfr⟩ : ∃ dF ns fe, pFree d kn (packsOf l) = (dF, ns, fe) := ⟨_, _, _, rfl⟩
      rw [hfr]
      simp only
      have HL := Lib.hid hL
      have H := Lib.hid h
      have HEn := Lib.hid hE
      have Hfac := Lib.hid (And.intro hso (And.intro hl4 (And.intro (fun p hp => (hpk p hp).1) hfr)))
      clear hL h hE hso hl4 hpk hfr
      go_enter Tryz.func16, Tryz.ntmps16
      go_upto_region 7 with first
        | (go_at_call 60; refine HL.out.mono ?_; rintro e w1 ⟨hB1, mk, S, g, rfl, hmk, hK, hS⟩; have HK := Lib.hid (And.intro hK (And.intro hS hB1)); clear hK hS hB1)
      have hB1 := HK.out.2.2
      have hb2 := alloc_at w1 (.cells #[.pointer (some ⟨p, 0, none⟩), .int .i64 kn, .map (some mk), .map none, .bool false] 59)
      have hB2 : Below w1.heap.size w1 (w1.alloc (.cells #[.pointer (some ⟨p, 0, none⟩), .int .i64 kn, .map (some mk), .map none, .bool false] 59)) := (Below.refl _ _).alloc (Nat.le_refl _) _
      have hs2 : (w1.alloc (.cells #[.pointer (some ⟨p, 0, none⟩), .int .i64 kn, .map (some mk), .map none, .bool false] 59)).heap.size = w1.heap.size + 1 := by simp
      obtain ⟨q, hq⟩ : ∃ q, w1.heap.size = q := ⟨_, rfl⟩
      obtain ⟨w2, hw2⟩ : ∃ x, w1.alloc (.cells #[.pointer (some ⟨p, 0, none⟩), .int .i64 kn, .map (some mk), .map none, .bool false] 59) = x := ⟨_, rfl⟩
      rw [hw2] at hb2 hB2 hs2 ⊢
      rw [hq] at hb2 hs2 ⊢
      have hk2 : KeysAt w2 mk S g l := HK.out.1.upd (Upd.ofBelow (fp := noFp) hB2) (fun h => h) (fun _ _ h => h)
      have hP := pgpacks_any w2 q mk S g l (cells5 hb2).2.2.1 hk2 Hfac.out.1 Hfac.out.2.2.1 Hfac.out.2.1
      obtain ⟨c0, c1, c2, c3, c4, z1, z2, z3, z4⟩ := cells5 hb2
      have hw1 := hB1.size
      have hnew : ∀ (w3 : World) (mh : Nat), w2.heap.size ≤ mh → mh < w3.heap.size → HeldAt w3 mh (packsOf l) → Below w2.heap.size w2 w3 → StoreAt ex (w3.setCell ⟨q, 3, none⟩ (.map (some mh))) q p m d ⟨kn, l, packsOf l, false⟩ ∧ Keep ex w (w3.setCell ⟨q, 3, none⟩ (.map (some mh))) ∧ w3.cell? ⟨q, 3, none⟩ = some (.map none) ∧ w3.frozen? ⟨q, 3, none⟩ = false := by
        intro w3 mh h1 h2 hH hB3
        have hb3 := (hB3.block q (blk_lt hb2)).trans hb2
        have hb4 := setCell_at hb3 3 (.map (some mh))
        have hU : Upd (· = q) w3 (w3.setCell ⟨q, 3, none⟩ (.map (some mh))) := setCell_upd 3 _
        have hBw3 : Below w.heap.size w w3 := (hB1.trans (hB2.mono hw1)).trans (hB3.mono (by omega))
        have hSq : ∀ k, S k → mk < k ∧ k < q := fun k hk => by have := HK.out.2.1 k hk; omega
        have hs3 := hB3.size
        have hDx : DiskAt (fun k => ex k ∨ k = q ∨ k = mk ∨ k = mh ∨ S k) w3 p m d := H.out.more hBw3 (fun k hk => by
          rcases hk with hk | hk | hk | hk | hk
          · exact Or.inl hk
          · exact Or.inr ⟨by omega, by omega⟩
          · exact Or.inr ⟨by omega, by omega⟩
          · exact Or.inr ⟨by omega, by omega⟩
          · exact Or.inr ⟨by have := hSq k hk; omega, by have := hSq k hk; omega⟩)
        refine ⟨⟨mk, mh, S, g, ⟨hb4, (hk2.upd (Upd.ofBelow (fp := noFp) hB3) (fun h => h) (fun _ _ h => h)).upd hU (fun e => by omega) (fun k hk e => by have := hSq k hk; omega), hH.upd hU (fun e => by omega), hDx.upd hU (fun k _ hk => Or.inr (Or.inl hk)), ⟨fun e => by have := hlt _ e; omega, fun e => by have := hlt _ e; omega, fun e => by have := hlt _ e; omega⟩, fun k hk => ⟨fun e => by have := hlt _ e; have := hSq k hk; omega, by have := hSq k hk; omega, by have := hSq k hk; omega, by have := hSq k hk; omega⟩, ⟨by omega, by omega, by omega⟩⟩⟩, (Keep.ofBelow hBw3 hlt).trans (Keep.ofUpd hU (fun k hk => ⟨by have := hlt k hk; omega, fun e => by have := hlt k hk; omega⟩)), (cells5 hb3).2.2.2.1, (cells5 hb3).2.2.2.2.2.2.2.1⟩
      have HP := Lib.hid hP
      have HN := Lib.hid hnew
      have hqw : w.heap.size ≤ q := by omega
      clear hP hnew hb2 hB2 hs2 hk2 hw2 hq hB1 hmk hw1
      by_cases hf0 : fe = 0
      · subst hf0
        rw [if_neg (by simp)]
        go_wp2_with first
          | (go_at_call 48; refine HP.out.mono ?_; rintro e w3 ⟨mh, rfl, hmh1, hmh2, hH, hB3⟩; obtain ⟨n1, n2, n3, n4⟩ := HN.out w3 mh hmh1 hmh2 hH hB3; have hfr := pgfree_at n1 (HEn.out.keep n2 hG) hG; rw [Hfac.out.2.2.2] at hfr; have Hfr := Lib.hid (And.intro hfr n2); clear hfr n1 n2 hH hB3)
          | (go_at_call 61; refine Hfr.out.1.mono ?_; rintro e w5 ⟨a, c, rfl, hrow, hS5, hK5⟩; have HS := Lib.hid (And.intro hS5 hK5); clear hS5 hK5 hrow)
        go_ret2
        exact ⟨q, rfl, HS.out.1.mono (fun k hk => Or.inl hk), Hfr.out.2.trans HS.out.2, hqw⟩
      · rw [if_pos hf0]
        have hfb : (fe != 0) = true := by simpa using hf0
        have Hf0 := Lib.hid hf0
        clear hf0
        go_wp2_with first
          | (go_at_call 48; refine HP.out.mono ?_; rintro e w3 ⟨mh, rfl, hmh1, hmh2, hH, hB3⟩; obtain ⟨n1, n2, n3, n4⟩ := HN.out w3 mh hmh1 hmh2 hH hB3; have hfr := pgfree_at n1 (HEn.out.keep n2 hG) hG; rw [Hfac.out.2.2.2] at hfr; have Hfr := Lib.hid (And.intro hfr n2); clear hfr n1 n2 hH hB3)
          | (go_at_call 61; refine Hfr.out.1.mono ?_; rintro e w5 ⟨a, c, rfl, hrow, hS5, hK5⟩; have HS := Lib.hid (And.intro hS5 hK5); clear hS5 hK5 hrow)
        go_ret2
        unfold OpenPost
        rw [if_neg Hf0.out]
        exact ⟨rfl, (HS.out.1.mono (fun k hk => Or.inl hk)).disk, Hfr.out.2.trans HS.out.2⟩
    · rw [if_pos h0]
      simp only [if_neg h0] at hL
      have h0b : (er != 0) = true := by simpa using h0
      have HL := Lib.hid hL
      have H := Lib.hid h
      have H0 := Lib.hid h0
      clear hL h hE h0 hfac
      go_enter Tryz.func16, Tryz.ntmps16
      go_wp2_with first
        | (go_at_call 60; refine HL.out.mono ?_; rintro e w1 ⟨hB1, rfl⟩; have HB1 := Lib.hid hB1; clear hB1)
      go_ret2
      unfold OpenPost
      rw [if_neg H0.out]
      exact ⟨rfl, H.out.below HB1.out, Keep.ofBelow HB1.out hlt⟩
end
end Go.Proofs.YtbepcjajbcecnaaGreatDoor
