/-
  PagesEnded: the walk.
-/
import Derived.Outline
import Derived.Test.YtbepcjajbcecnaaGreatDoorMPmD
import Derived.Test.YtbepcjajbcecnaaGreatDoorMLwA
namespace Go.Proofs.YtbepcjajbcecnaaGreatDoor
open Go.RowKit Go.Maps Go.MapKept
set_option linter.unusedSimpArgs false

section
variable {ex : Nat → Prop} {w : World} {q p m : Nat} {d : ADisk} {st : AStore}
theorem commit_by {d' : ADisk} {st' : AStore} {n : Nat} (er : Int) (h : StoreAt ex w q p m d st) (hok : st.Ok) (hE : WEnv w) (hG : GlIn ex) (hc : pCommit d st = (d', st', n, er)) :
    Calls Tryz.prog 14 #[.pointer (some ⟨q, 0, none⟩)] w fun e w' => e = .returned (.tuple #[.int .i64 n, .int .i64 er]) ∧ StoreAt ex w' q p m d' st' ∧ Keep ex w w' := by
  have := pgCommit_at h hok hE hG
  rw [hc] at this
  exact this
end
def endS (b : List UInt8) : AStore := ⟨0, [(kN5, ⟨b, 0, 0⟩)], [], true⟩
theorem end_ok {b : List UInt8} (h : b.length ≤ 1000) (o : Bool) : (⟨0, [(kN5, ⟨b, 0, 0⟩)], [], o⟩ : AStore).Ok := by
  refine ⟨(by decide : (0 : Nat) ≤ 9007199254740992), (by decide : (1 : Nat) ≤ 4096), List.pairwise_singleton _ _, fun p hp => ?_⟩
  obtain rfl : p = (kN5, (⟨b, 0, 0⟩ : ABlob)) := by simpa using hp
  exact ⟨(by decide : (0 : Nat) ≤ 9007199254740992), fun e => absurd rfl e, by simp only; omega, (by decide : kN5.size ≤ 60)⟩
theorem end_put {b : List UInt8} (h : b.length ≤ 1000) : pPut st05 kN5 b = (endSt b, 0) := by
  unfold pPut
  rw [if_neg (by decide), if_neg (by decide), if_neg (by omega), if_neg (by simp [st05])]
  rfl
set_option maxRecDepth 100000 in
set_option maxHeartbeats 8000000 in
theorem ended5_law (w : World) (hE : WEnv w) {vb : Value} (b : List UInt8) (hb : Rd w vb (bcells b)) (_l1 : b.length ≤ maxLen) :
    Calls Tryz.prog 8 #[vb] w fun e w' => e = .returned (.bool true) ∧ Below w.heap.size w w' := by
  obtain ⟨ab, cb, rfl⟩ := hb.shape
  rw [bcells_length] at hb ⊢
  obtain ⟨ex, hex⟩ : ∃ ex : Nat → Prop, ex = fun k => k < w.heap.size := ⟨_, rfl⟩
  have hx0 : ∀ k, ex k → k < w.heap.size := fun k hk => by rw [hex] at hk; exact hk
  have hG : GlIn ex := by rw [hex]; exact hE.lt
  have Hex := Lib.hid hex
  have HE := Lib.hid hE
  by_cases hbad : b.length < 40 ∨ 1000 < b.length
  · have hI : (b.length : Int) < 40 ∨ (¬ (b.length : Int) < 40 ∧ (1000 : Int) < (b.length : Int)) := by omega
    clear hex hE hb hbad
    rcases hI with hI | ⟨hI, hI2⟩
    all_goals
      go_enter Tryz.func8, Tryz.ntmps8
      go_wp2_with fail
      refine (New_at (ex := ex) 40 (by decide) (by decide) hx0).mono ?_
      generalize hp : w.heap.size + 1 = p
      generalize hm : w.heap.size = m
      rintro e w0 ⟨rfl, h0, kk0⟩
      clear hp hm
      go_wp2_with fail
      refine (pgOpen0_at h0 (HE.out.keep kk0 hG) hG rfl rfl).mono ?_
      rintro e w1 ⟨q, rfl, h1, k1, _⟩
      have kk1 := kk0.trans k1
      clear h0 kk0 k1
      go_wp2_with fail
      refine (awake5_any _ (HE.out.keep kk1 hG)).mono ?_
      rintro e w3 ⟨rfl, hB3⟩
      go_wp2
      go_ret
      exact ⟨rfl, (kk1.trans (Keep.ofBelow hB3 (fun k hk => h1.lt hk))).below (fun k hk => by rw [Hex.out]; exact hk)⟩
  · have h40 : 40 ≤ b.length := by omega
    have h1000 : b.length ≤ 1000 := by omega
    have i1 : ¬ (b.length : Int) < 40 := by omega
    have i2 : ¬ (1000 : Int) < (b.length : Int) := by omega
    have hown : ∀ g, (Value.slice ab b.length cb).ownBlock = some g → ex g := fun g hg => by
      rw [hex]
      exact rd_blk5 hb (fun e => by have := congrArg List.length e; rw [bcells_length] at this; simp at this; rw [this] at h40; simp at h40) g hg
    obtain ⟨d', hc⟩ := ended_commit b h40
    have hc : pCommit (newD 40) (endSt b) = (d', endS b, 0, 5) := hc
    have hc2 : pCommit d' (endS b) = (d', endS b, 0, 16) := rfl
    have hf2 : pFreeC d' (endS b) = (d', endS b, [], 16) := rfl
    have hp2 : pPut (endS b) kN5 [] = (endS b, 16) := rfl
    have hd2 : pDrop (endS b) kN5 = (endS b, 16) := rfl
    have hg2 : (endS b).got kN5 = b := rfl
    have hk2 : (kB (endS b).keys kN5).isSome = true := rfl
    have ok1 : (endSt b).Ok := end_ok h1000 false
    have ok2 : (endS b).Ok := end_ok h1000 true
    have Hb := Lib.hid hb
    have Hown := Lib.hid hown
    have Hc := Lib.hid (And.intro hc (And.intro hc2 (And.intro hf2 (And.intro hp2 (And.intro hd2 (And.intro hg2 hk2))))))
    have K1 := Lib.hid ok1
    have K2 := Lib.hid ok2
    clear hex hE hb hbad hown hc hc2 hf2 hp2 hd2 hg2 hk2 ok1 ok2
    go_enter Tryz.func8, Tryz.ntmps8
    go_wp2_with fail
    refine (New_at (ex := ex) 40 (by decide) (by decide) hx0).mono ?_
    generalize hp : w.heap.size + 1 = p
    generalize hm : w.heap.size = m
    rintro e w0 ⟨rfl, h0, kk0⟩
    clear hp hm
    go_wp2_with fail
    refine (pgOpen0_at h0 (HE.out.keep kk0 hG) hG rfl rfl).mono ?_
    rintro e w1 ⟨q, rfl, h1, k1, _⟩
    have kk1 := kk0.trans k1
    replace h1 : StoreAt ex w1 q p m (newD 40) st05 := h1
    clear h0 kk0 k1
    go_wp2_with fail
    refine (put_by (s := kN5) 0 h1 ok_st0 (by decide) (kk1.rd Hb.out Hown.out) (by omega) (end_put h1000)).mono ?_
    rintro e w2 ⟨rfl, h2, k2⟩
    have kk2 := kk1.trans k2
    clear h1 kk1 k2
    go_wp2_with fail
    refine (commit_by 5 h2 K1.out (HE.out.keep kk2 hG) hG Hc.out.1).mono ?_
    rintro e w3 ⟨rfl, h3, k3⟩
    have kk3 := kk2.trans k3
    clear h2 kk2 k3
    go_wp2_with fail
    refine (Used_at h3.disk).mono ?_
    rintro e w4 ⟨rfl, hB4⟩
    have h4 := h3.below hB4
    have kk4 := kk3.trans (Keep.ofBelow hB4 (fun k hk => h3.lt hk))
    clear h3 kk3 hB4
    go_wp2_with fail
    refine (List_at h4.disk).mono ?_
    obtain ⟨ns, hns⟩ : ∃ ns, d'.names = ns := ⟨_, rfl⟩
    have hnl : ns.length ≤ 200 := by rw [← hns]; unfold ADisk.names; rw [List.length_map]; exact h4.disk.wf.count
    rw [hns]
    rintro e w5 ⟨a5, c5, rfl, row5, _, hB5⟩
    have h5 : StoreAt (fun k => ex k ∨ (Value.slice a5 ns.length c5).ownBlock = some k) w5 q p m d' (endS b) := h4.more hB5 (fun k hk => hk.imp id (fun h => ⟨row_from row5 h, row_lt row5 h⟩))
    have kk5 := kk4.trans (Keep.ofBelow hB5 (fun k hk => h4.lt hk))
    have Row5 := Lib.hid row5
    have Hns := Lib.hid hns
    clear h4 kk4 row5 hB5 hns
    have hG5 : GlIn (fun k => ex k ∨ (Value.slice a5 ns.length c5).ownBlock = some k) := hG.mono (fun _ h => Or.inl h)
    go_wp2_with fail
    refine (commit_by 16 h5 K2.out (HE.out.keep kk5 hG) hG5 Hc.out.2.1).mono ?_
    rintro e w6 ⟨rfl, h6, k6⟩
    have kk6 := kk5.trans (k6.mono (fun k hk => Or.inl hk))
    have row6 := k6.row Row5.out (fun b hb => Or.inr hb)
    have Row6 := Lib.hid row6
    clear h5 kk5 k6 row6 Row5
    go_wp2_with fail
    refine (free_by 16 h6 (HE.out.keep kk6 hG) hG5 Hc.out.2.2.1).mono ?_
    rintro e w7 ⟨a7, c7, rfl, _, h7', k7⟩
    have h7 := h7'.mono (ex' := fun k => ex k ∨ (Value.slice a5 ns.length c5).ownBlock = some k) (fun k hk => Or.inl hk)
    have kk7 := kk6.trans (k7.mono (fun k hk => Or.inl hk))
    have row7 := k7.row Row6.out (fun b hb => Or.inr hb)
    have Row7 := Lib.hid row7
    clear h6 kk6 h7' k7 row7 Row6
    go_wp2_with fail
    refine (pgGet_at (s := kN5) h7 (by decide) (by rw [Hc.out.2.2.2.2.2.1]; omega)).mono ?_
    rw [Hc.out.2.2.2.2.2.1, Hc.out.2.2.2.2.2.2]
    rintro e w8 ⟨a8, c8, rfl, row8, hB8⟩
    have h8 : StoreAt (fun k => (ex k ∨ (Value.slice a5 ns.length c5).ownBlock = some k) ∨ (Value.slice a8 b.length c8).ownBlock = some k) w8 q p m d' (endS b) := h7.more hB8 (fun k hk => hk.imp id (fun h => ⟨row_from row8 h, row_lt row8 h⟩))
    have kk8 := kk7.trans (Keep.ofBelow hB8 (fun k hk => h7.lt (Or.inl hk)))
    have Row8 := Lib.hid row8
    have Row7b := Lib.hid ((Upd.ofBelow (fp := noFp) hB8).row Row7.out (fun _ _ h => h))
    clear h7 kk7 row8 hB8 Row7
    go_wp2_with fail
    refine (pgOver_at h8).mono ?_
    rintro e w8b ⟨rfl, rfl⟩
    go_wp2_with fail
    have hnil : Rd w8 (.slice none 0 0) (bcells ([] : List UInt8)) := Or.inl ⟨Or.inl rfl, rfl⟩
    refine (put_by (s := kN5) 16 h8 K2.out (by decide) hnil (by decide) Hc.out.2.2.2.1).mono ?_
    rintro e w9 ⟨rfl, h9, k9⟩
    have kk9 := kk8.trans (k9.mono (fun k hk => Or.inl (Or.inl hk)))
    have R9 := Lib.hid (And.intro (k9.row Row7b.out (fun b hb => Or.inl (Or.inr hb))) (k9.row Row8.out (fun b hb => Or.inr hb)))
    clear h8 kk8 k9 Row7b Row8 hnil
    go_wp2_with fail
    refine (drop_by (s := kN5) 16 h9 K2.out (by decide) Hc.out.2.2.2.2.1).mono ?_
    rintro e w10 ⟨rfl, h10, k10⟩
    have kk10 := kk9.trans (k10.mono (fun k hk => Or.inl (Or.inl hk)))
    have R10 := Lib.hid (And.intro (k10.row R9.out.1 (fun b hb => Or.inl (Or.inr hb))) (k10.row R9.out.2 (fun b hb => Or.inr hb)))
    clear h9 kk9 k10 R9
    go_wp2_with fail
    refine (sameB_yes w10 _ _ b (Rd.ofOwns R10.out.2) (kk10.rd Hb.out Hown.out)).mono ?_
    rintro e w10b ⟨rfl, rfl⟩
    go_wp2_with fail
    refine (pgNumber_at h10).mono ?_
    rintro e w10c ⟨rfl, rfl⟩
    go_wp2_with fail
    refine (Used_at h10.disk).mono ?_
    rintro e w11 ⟨rfl, hB11⟩
    have h11 := h10.below hB11
    have kk11 := kk10.trans (Keep.ofBelow hB11 (fun k hk => h10.lt (Or.inl (Or.inl hk))))
    have R11 := Lib.hid ((Upd.ofBelow (fp := noFp) hB11).row R10.out.1 (fun _ _ h => h))
    clear h10 kk10 hB11 R10
    go_wp2_with fail
    refine (List_at h11.disk).mono ?_
    rw [Hns.out]
    rintro e w12 ⟨a12, c12, rfl, row12, _, hB12⟩
    have h12 := h11.below hB12
    have kk12 := kk11.trans (Keep.ofBelow hB12 (fun k hk => h11.lt (Or.inl (Or.inl hk))))
    have R12 := Lib.hid (And.intro ((Upd.ofBelow (fp := noFp) hB12).row R11.out (fun _ _ h => h)) row12)
    clear h11 kk11 hB12 R11 row12
    go_wp2_with fail
    refine (SameTexts_any _ _ _ ns ns (Rd.ofOwns R12.out.2) (Rd.ofOwns R12.out.1) (by simp only [maxLen]; omega) (by simp only [maxLen]; omega)).mono ?_
    rw [decide_eq_true rfl]
    rintro e w13 ⟨rfl, hB13⟩
    have h13 := h12.below hB13
    have kk13 := kk12.trans (Keep.ofBelow hB13 (fun k hk => h12.lt (Or.inl (Or.inl hk))))
    clear h12 kk12 hB13 R12
    go_wp2_with fail
    refine (awake5_any _ (HE.out.keep kk13 hG)).mono ?_
    rintro e w14 ⟨rfl, hB14⟩
    go_wp2
    go_ret
    exact ⟨rfl, (kk13.trans (Keep.ofBelow hB14 (fun k hk => h13.lt (Or.inl (Or.inl hk))))).below (fun k hk => by rw [Hex.out]; exact hk)⟩
end Go.Proofs.YtbepcjajbcecnaaGreatDoor
