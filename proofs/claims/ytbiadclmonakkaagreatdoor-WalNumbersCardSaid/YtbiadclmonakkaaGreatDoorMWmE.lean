/-
  The three steps of another segment, as closures; what runs them.
-/
import Derived.Outline
import Derived.BigQuiet
import Derived.Deep.QuietTactic
import Derived.Deep.RegionHeld3
import Derived.Test.YtbiadclmonakkaaGreatDoorMWmA
import Derived.Deep.RegionLaw
import Derived.Deep.CutRange
namespace Go.Proofs.YtbiadclmonakkaaGreatDoor
open Go.RowKit Go.Maps Go.MapKept

section
variable {ex : Nat → Prop} {w : World} {q p m : Nat} {d : ADisk}
/-- the boxes that the steps share. -/
structure AnoBox (ex : Nat → Prop) (w : World) (q p bl bn bh n : Nat) (vh : Value) : Prop where
  cl : w.cell? ⟨bl, 0, none⟩ = some (.pointer (some ⟨q, 0, none⟩))
  cn : w.cell? ⟨bn, 0, none⟩ = some (.int .i64 n)
  ch : w.cell? ⟨bh, 0, none⟩ = some vh
  cq : w.cell? ⟨q, 0, none⟩ = some (.pointer (some ⟨p, 0, none⟩))
  rd : Rd w vh (bcells (hd4 n))
  xl : ex bl
  xn : ex bn
  xh : ex bh
  xq : ex q
  xv : ∀ g, vh.ownBlock = some g → ex g
  gl : GlIn ex
  env : WEnv w
  le : n ≤ 9007199254740993
theorem AnoBox.keep {w' : World} {bl bn bh n : Nat} {vh : Value} (h : AnoBox ex w q p bl bn bh n vh) (hk : Keep ex w w') : AnoBox ex w' q p bl bn bh n vh :=
  ⟨(hk.cell h.xl 0).trans h.cl, (hk.cell h.xn 0).trans h.cn, (hk.cell h.xh 0).trans h.ch, (hk.cell h.xq 0).trans h.cq, hk.rd h.rd h.xv, h.xl, h.xn, h.xh, h.xq, h.xv, h.gl, h.env.keep hk h.gl, h.le⟩

set_option maxRecDepth 100000 in
set_option maxHeartbeats 2000000 in
theorem wano1_at {bl bn bh n : Nat} {vh : Value} (h : DiskAt ex w p m d) (hb : AnoBox ex w q p bl bn bh n vh) :
    Calls Tryz.prog 85 #[.pointer (some ⟨bl, 0, none⟩), .pointer (some ⟨bn, 0, none⟩)] w fun e w' => e = .returned (.int .i64 (anoE1 d n)) ∧ DiskAt ex w' p m (anoD1 d n) ∧ Keep ex w w' := by
  have k1 := hb.cl
  have k2 := hb.cn
  have k3 := hb.cq
  have hn := wname_any w.drew n hb.le hb.env.drew
  have hs := wName_len hb.le
  unfold anoE1 anoD1
  generalize wName n = s at hn hs ⊢
  have hR := fun wX (hX : DiskAt ex wX p m d) => wgone_at s hX (Nat.le_trans hs (by decide))
  have HR := Lib.hid hR
  have Hn := Lib.hid hn
  have Hb := Lib.hid hb
  clear hR hn hb hs
  go_enter Tryz.func85, Tryz.ntmps85
  go_wp2
  go_region_held3 (fun w' => w'.cell? ⟨bl, 0, none⟩ = some (.pointer (some ⟨q, 0, none⟩)) ∧ w'.cell? ⟨q, 0, none⟩ = some (.pointer (some ⟨p, 0, none⟩)) ∧ w'.cell? ⟨bn, 0, none⟩ = some (.int .i64 n)) (first | exact ⟨k1, k3, k2⟩ | exact S2 | exact S3 | go_keep)
    (first
      | (go_at_call 45; refine Hn.out.mono ?_; rintro e w1 ⟨rfl, hB⟩; have S2 : w1.cell? ⟨bl, 0, none⟩ = some (.pointer (some ⟨q, 0, none⟩)) ∧ w1.cell? ⟨q, 0, none⟩ = some (.pointer (some ⟨p, 0, none⟩)) ∧ w1.cell? ⟨bn, 0, none⟩ = some (.int .i64 n) := ⟨(hB.cell (p := ⟨bl, 0, none⟩) (cell_lt k1)).trans k1, (hB.cell (p := ⟨q, 0, none⟩) (cell_lt k3)).trans k3, (hB.cell (p := ⟨bn, 0, none⟩) (cell_lt k2)).trans k2⟩)
      | (go_at_call 86; refine (HR.out w1 (h.below (((Below.refl _ _).drew).trans hB))).mono ?_; rintro e w2 ⟨rfl, hD, hK⟩; have S3 : w2.cell? ⟨bl, 0, none⟩ = some (.pointer (some ⟨q, 0, none⟩)) ∧ w2.cell? ⟨q, 0, none⟩ = some (.pointer (some ⟨p, 0, none⟩)) ∧ w2.cell? ⟨bn, 0, none⟩ = some (.int .i64 n) := ⟨(hK.cell Hb.out.xl 0).trans S2.1, (hK.cell Hb.out.xq 0).trans S2.2.1, (hK.cell Hb.out.xn 0).trans S2.2.2⟩))
  go_wp2
  go_ret
  exact ⟨rfl, hD, (Keep.ofBelow (((Below.refl _ _).drew).trans hB) (fun k hk => h.lt hk)).trans hK⟩
set_option maxRecDepth 100000 in
set_option maxHeartbeats 2000000 in
theorem wano3_at {bl bn bh n : Nat} {vh : Value} (h : DiskAt ex w p m d) (hb : AnoBox ex w q p bl bn bh n vh) :
    Calls Tryz.prog 88 #[.pointer (some ⟨bl, 0, none⟩), .pointer (some ⟨bn, 0, none⟩)] w fun e w' => e = .returned (.int .i64 (d.syncErr (wName n))) ∧ DiskAt ex w' p m (d.sync (wName n)) ∧ Keep ex w w' := by
  have k1 := hb.cl
  have k2 := hb.cn
  have k3 := hb.cq
  have hn := wname_any w.drew n hb.le hb.env.drew
  have hs := wName_len hb.le
  generalize wName n = s at hn hs ⊢
  have hR := fun wX (hX : DiskAt ex wX p m d) => Sync_at s hX (Nat.le_trans hs (by decide))
  have HR := Lib.hid hR
  have Hn := Lib.hid hn
  have Hb := Lib.hid hb
  clear hR hn hb hs
  go_enter Tryz.func88, Tryz.ntmps88
  go_wp2
  go_region_held3 (fun w' => w'.cell? ⟨bl, 0, none⟩ = some (.pointer (some ⟨q, 0, none⟩)) ∧ w'.cell? ⟨q, 0, none⟩ = some (.pointer (some ⟨p, 0, none⟩)) ∧ w'.cell? ⟨bn, 0, none⟩ = some (.int .i64 n)) (first | exact ⟨k1, k3, k2⟩ | exact S2 | exact S3 | go_keep)
    (first
      | (go_at_call 45; refine Hn.out.mono ?_; rintro e w1 ⟨rfl, hB⟩; have S2 : w1.cell? ⟨bl, 0, none⟩ = some (.pointer (some ⟨q, 0, none⟩)) ∧ w1.cell? ⟨q, 0, none⟩ = some (.pointer (some ⟨p, 0, none⟩)) ∧ w1.cell? ⟨bn, 0, none⟩ = some (.int .i64 n) := ⟨(hB.cell (p := ⟨bl, 0, none⟩) (cell_lt k1)).trans k1, (hB.cell (p := ⟨q, 0, none⟩) (cell_lt k3)).trans k3, (hB.cell (p := ⟨bn, 0, none⟩) (cell_lt k2)).trans k2⟩)
      | (go_at_call 43; refine (HR.out w1 (h.below (((Below.refl _ _).drew).trans hB))).mono ?_; rintro e w2 ⟨rfl, hD, hK⟩; have S3 : w2.cell? ⟨bl, 0, none⟩ = some (.pointer (some ⟨q, 0, none⟩)) ∧ w2.cell? ⟨q, 0, none⟩ = some (.pointer (some ⟨p, 0, none⟩)) ∧ w2.cell? ⟨bn, 0, none⟩ = some (.int .i64 n) := ⟨(hK.cell Hb.out.xl 0).trans S2.1, (hK.cell Hb.out.xq 0).trans S2.2.1, (hK.cell Hb.out.xn 0).trans S2.2.2⟩))
  go_wp2
  go_ret
  exact ⟨rfl, hD, (Keep.ofBelow (((Below.refl _ _).drew).trans hB) (fun k hk => h.lt hk)).trans hK⟩
set_option maxRecDepth 100000 in
set_option maxHeartbeats 2000000 in
theorem wano2_at {bl bn bh n : Nat} {vh : Value} (h : DiskAt ex w p m d) (hb : AnoBox ex w q p bl bn bh n vh) :
    Calls Tryz.prog 87 #[.pointer (some ⟨bl, 0, none⟩), .pointer (some ⟨bn, 0, none⟩), .pointer (some ⟨bh, 0, none⟩)] w fun e w' => e = .returned (.int .i64 (d.appendErr (wName n) (hd4 n))) ∧ DiskAt ex w' p m (d.append (wName n) (hd4 n)) ∧ Keep ex w w' := by
  have k1 := hb.cl
  have k2 := hb.cn
  have k3 := hb.cq
  have k4 := hb.ch
  have hn := wname_any w.drew n hb.le hb.env.drew
  have hs := wName_len hb.le
  have hhl := (hd4_len n hb.le).2
  have hrd := hb.rd
  generalize wName n = s at hn hs ⊢
  generalize hd4 n = b at hhl hrd ⊢
  obtain ⟨av, cv, rfl⟩ := hrd.shape
  rw [bcells_length] at hrd k4
  have hR := fun wX (hX : DiskAt ex wX p m d) (hr : Rd wX (.slice av b.length cv) (bcells b)) => Append_at s (.slice av b.length cv) b hX (Nat.le_trans hs (by decide)) hr (by omega)
  have HR := Lib.hid hR
  have Hn := Lib.hid hn
  have Hb := Lib.hid hb
  have Hrd := Lib.hid hrd
  clear hR hn hb hs hhl hrd
  go_enter Tryz.func87, Tryz.ntmps87
  go_wp2
  go_region_held3 (fun w' => w'.cell? ⟨bl, 0, none⟩ = some (.pointer (some ⟨q, 0, none⟩)) ∧ w'.cell? ⟨q, 0, none⟩ = some (.pointer (some ⟨p, 0, none⟩)) ∧ w'.cell? ⟨bn, 0, none⟩ = some (.int .i64 n) ∧ w'.cell? ⟨bh, 0, none⟩ = some (.slice av b.length cv)) (first | exact ⟨k1, k3, k2, k4⟩ | exact S2 | exact S3 | go_keep)
    (first
      | (go_at_call 45; refine Hn.out.mono ?_; rintro e w1 ⟨rfl, hB⟩; have S2 : w1.cell? ⟨bl, 0, none⟩ = some (.pointer (some ⟨q, 0, none⟩)) ∧ w1.cell? ⟨q, 0, none⟩ = some (.pointer (some ⟨p, 0, none⟩)) ∧ w1.cell? ⟨bn, 0, none⟩ = some (.int .i64 n) ∧ w1.cell? ⟨bh, 0, none⟩ = some (.slice av b.length cv) := ⟨(hB.cell (p := ⟨bl, 0, none⟩) (cell_lt k1)).trans k1, (hB.cell (p := ⟨q, 0, none⟩) (cell_lt k3)).trans k3, (hB.cell (p := ⟨bn, 0, none⟩) (cell_lt k2)).trans k2, (hB.cell (p := ⟨bh, 0, none⟩) (cell_lt k4)).trans k4⟩)
      | (go_at_call 64; refine (HR.out w1 (h.below (((Below.refl _ _).drew).trans hB)) (Hrd.out.below (((Below.refl _ _).drew).trans hB))).mono ?_; rintro e w2 ⟨rfl, hD, hK⟩; have S3 : w2.cell? ⟨bl, 0, none⟩ = some (.pointer (some ⟨q, 0, none⟩)) ∧ w2.cell? ⟨q, 0, none⟩ = some (.pointer (some ⟨p, 0, none⟩)) ∧ w2.cell? ⟨bn, 0, none⟩ = some (.int .i64 n) ∧ w2.cell? ⟨bh, 0, none⟩ = some (.slice av b.length cv) := ⟨(hK.cell Hb.out.xl 0).trans S2.1, (hK.cell Hb.out.xq 0).trans S2.2.1, (hK.cell Hb.out.xn 0).trans S2.2.2.1, (hK.cell Hb.out.xh 0).trans S2.2.2.2⟩))
  go_wp2
  go_ret
  exact ⟨rfl, hD, (Keep.ofBelow (((Below.refl _ _).drew).trans hB) (fun k hk => h.lt hk)).trans hK⟩

/-- the disk behind so many steps. -/
def anoD (d : ADisk) (n : Nat) : Nat → ADisk
  | 0 => d
  | 1 => anoD1 d n
  | 2 => anoD2 d n
  | _ => anoD3 d n
def anoE (d : ADisk) (n : Nat) : Nat → Int
  | 0 => anoE1 d n
  | 1 => anoE2 d n
  | _ => anoE3 d n
theorem ano_bad {d : ADisk} {n j : Nat} (hj : j ≤ 2) (hz : ∀ i, i < j → anoE d n i = 0) (hb : anoE d n j ≠ 0) : anoSteps d n = (anoD d n (j + 1), anoE d n j) := by
  have hj4 : j = 0 ∨ j = 1 ∨ j = 2 := by omega
  unfold anoSteps
  rcases hj4 with rfl | rfl | rfl
  · have h0 : anoE1 d n ≠ 0 := hb
    rw [if_pos h0]; rfl
  · have h0 : anoE1 d n = 0 := hz 0 (by omega)
    have h1 : anoE2 d n ≠ 0 := hb
    rw [if_neg (fun h => h h0), if_pos h1]; rfl
  · have h0 : anoE1 d n = 0 := hz 0 (by omega)
    have h1 : anoE2 d n = 0 := hz 1 (by omega)
    rw [if_neg (fun h => h h0), if_neg (fun h => h h1)]; rfl
theorem ano_good {d : ADisk} {n : Nat} (hz : ∀ i, i < 3 → anoE d n i = 0) : anoSteps d n = (anoD d n 3, 0) := by
  have h0 : anoE1 d n = 0 := hz 0 (by omega)
  have h1 : anoE2 d n = 0 := hz 1 (by omega)
  have h2 : anoE3 d n = 0 := hz 2 (by omega)
  unfold anoSteps
  rw [if_neg (fun h => h h0), if_neg (fun h => h h1), h2]; rfl

/-- the steps as values. -/
def anoFns (bl bn bh : Nat) : Array Value := #[.func (.func 85) #[] #[.pointer (some ⟨bl, 0, none⟩), .pointer (some ⟨bn, 0, none⟩)], .func (.func 87) #[] #[.pointer (some ⟨bl, 0, none⟩), .pointer (some ⟨bn, 0, none⟩), .pointer (some ⟨bh, 0, none⟩)], .func (.func 88) #[] #[.pointer (some ⟨bl, 0, none⟩), .pointer (some ⟨bn, 0, none⟩)]]
set_option maxRecDepth 100000 in
set_option maxHeartbeats 4000000 in
theorem wsteps_ano {bl bn bh n r : Nat} {vh : Value} {T : TypeId} (h : DiskAt ex w p m d) (hb : AnoBox ex w q p bl bn bh n vh) (hr : w.heap[r]? = some (.cells (anoFns bl bn bh) T (0, 0))) (hxr : ex r) :
    Calls Tryz.prog 53 #[.slice (some ⟨r, 0, none⟩) 3 3] w fun e w' => e = .returned (.int .i64 (anoSteps d n).2) ∧ DiskAt ex w' p m (anoSteps d n).1 ∧ Keep ex w w' := by
  unfold anoFns at hr
  have Hb := Lib.hid hb
  have Hr := Lib.hid hr
  clear hb hr
  go_enter Tryz.func53, Tryz.ntmps53
  go_wp2
  go_loopw [8] (fun i wr => ∃ (j : Nat) (kk : Int), j ≤ 3 ∧ kk = j ∧ i = .int .i64 kk ∧ DiskAt ex wr p m (anoD d n j) ∧ Keep ex w wr ∧ ∀ i, i < j → anoE d n i = 0) (fun i _ => 3 - (intOf i).toNat)
  case atStart => exact ⟨0, 0, by omega, rfl, rfl, h, Keep.refl _ _, fun i hi => absurd hi (Nat.not_lt_zero i)⟩
  case round =>
    obtain ⟨j, kk, hj, hkk, rfl, hDr, hKr, hzs⟩ := hrel
    have Hzs := Lib.hid hzs
    have hfr := (hKr.block _ hxr).trans Hr.out
    obtain ⟨l0, l1, l2, _⟩ := cells3 hfr
    have hbr := Hb.out.keep hKr
    have Hbr := Lib.hid hbr
    clear hzs hfr hbr
    have hj5 : j = 0 ∨ j = 1 ∨ j = 2 ∨ j = 3 := by omega
    rcases hj5 with rfl | rfl | rfl | rfl
    · obtain rfl : kk = 0 := by omega
      clear hkk
      have hst := wano1_at hDr Hbr.out
      change Calls _ _ _ _ (fun e w' => e = .returned (.int .i64 (anoE d n 0)) ∧ DiskAt ex w' p m (anoD d n 1) ∧ Keep ex wr w') at hst
      have Hst := Lib.hid hst
      by_cases hz0 : anoE d n 0 = 0
      · rw [hz0] at Hst
        have Hz0 := Lib.hid hz0
        clear hst hz0
        go_wp2_with (go_at_call 85; refine Hst.out.mono ?_; rintro e w3 ⟨rfl, hD3, hK3⟩)
        go_roundw
        case rel => exact ⟨1, 1, by omega, rfl, rfl, hD3, hKr.trans hK3, fun i hi => (Nat.lt_succ_iff_lt_or_eq.1 hi).elim (fun h => Hzs.out i h) (fun h => h ▸ Hz0.out)⟩
        case measure => simp [intOf]
      · obtain ⟨er, her⟩ : ∃ er, anoE d n 0 = er := ⟨_, rfl⟩
        have hbad := ano_bad (d := d) (n := n) (j := 0) (by omega) Hzs.out hz0
        rw [her] at Hst hz0 hbad
        have hzb : (er != 0) = true := by simpa using hz0
        have Hbad := Lib.hid hbad
        clear hst hz0 her hbad
        go_wp2_with (go_at_call 85; refine Hst.out.mono ?_; rintro e w3 ⟨rfl, hD3, hK3⟩)
        go_ret
        rw [Hbad.out]
        exact ⟨rfl, hD3, hKr.trans hK3⟩
    · obtain rfl : kk = 1 := by omega
      clear hkk
      have hst := wano2_at hDr Hbr.out
      change Calls _ _ _ _ (fun e w' => e = .returned (.int .i64 (anoE d n 1)) ∧ DiskAt ex w' p m (anoD d n 2) ∧ Keep ex wr w') at hst
      have Hst := Lib.hid hst
      by_cases hz0 : anoE d n 1 = 0
      · rw [hz0] at Hst
        have Hz0 := Lib.hid hz0
        clear hst hz0
        go_wp2_with (go_at_call 87; refine Hst.out.mono ?_; rintro e w3 ⟨rfl, hD3, hK3⟩)
        go_roundw
        case rel => exact ⟨2, 2, by omega, rfl, rfl, hD3, hKr.trans hK3, fun i hi => (Nat.lt_succ_iff_lt_or_eq.1 hi).elim (fun h => Hzs.out i h) (fun h => h ▸ Hz0.out)⟩
        case measure => simp [intOf]
      · obtain ⟨er, her⟩ : ∃ er, anoE d n 1 = er := ⟨_, rfl⟩
        have hbad := ano_bad (d := d) (n := n) (j := 1) (by omega) Hzs.out hz0
        rw [her] at Hst hz0 hbad
        have hzb : (er != 0) = true := by simpa using hz0
        have Hbad := Lib.hid hbad
        clear hst hz0 her hbad
        go_wp2_with (go_at_call 87; refine Hst.out.mono ?_; rintro e w3 ⟨rfl, hD3, hK3⟩)
        go_ret
        rw [Hbad.out]
        exact ⟨rfl, hD3, hKr.trans hK3⟩
    · obtain rfl : kk = 2 := by omega
      clear hkk
      have hst := wano3_at hDr Hbr.out
      change Calls _ _ _ _ (fun e w' => e = .returned (.int .i64 (anoE d n 2)) ∧ DiskAt ex w' p m (anoD d n 3) ∧ Keep ex wr w') at hst
      have Hst := Lib.hid hst
      by_cases hz0 : anoE d n 2 = 0
      · rw [hz0] at Hst
        have Hz0 := Lib.hid hz0
        clear hst hz0
        go_wp2_with (go_at_call 88; refine Hst.out.mono ?_; rintro e w3 ⟨rfl, hD3, hK3⟩)
        go_roundw
        case rel => exact ⟨3, 3, by omega, rfl, rfl, hD3, hKr.trans hK3, fun i hi => (Nat.lt_succ_iff_lt_or_eq.1 hi).elim (fun h => Hzs.out i h) (fun h => h ▸ Hz0.out)⟩
        case measure => simp [intOf]
      · obtain ⟨er, her⟩ : ∃ er, anoE d n 2 = er := ⟨_, rfl⟩
        have hbad := ano_bad (d := d) (n := n) (j := 2) (by omega) Hzs.out hz0
        rw [her] at Hst hz0 hbad
        have hzb : (er != 0) = true := by simpa using hz0
        have Hbad := Lib.hid hbad
        clear hst hz0 her hbad
        go_wp2_with (go_at_call 88; refine Hst.out.mono ?_; rintro e w3 ⟨rfl, hD3, hK3⟩)
        go_ret
        rw [Hbad.out]
        exact ⟨rfl, hD3, hKr.trans hK3⟩
    · obtain rfl : kk = 3 := by omega
      clear hkk
      have hgood := ano_good (d := d) (n := n) Hzs.out
      go_wp2
      go_ret
      rw [hgood]
      exact ⟨rfl, hDr, hKr⟩
end
end Go.Proofs.YtbiadclmonakkaaGreatDoor

/-
  Another segment begins.
-/
namespace Go.Proofs.YtbiadclmonakkaaGreatDoor
open Go.RowKit Go.Maps Go.MapKept
set_option linter.unusedSimpArgs false

theorem step_append_run4 {P : Program} {w : World} {ops : Array Oper} {o : Oper} {a : Act} {K : Act → World → Prop} {Q : Exit → Act → World → Prop} {E : Prop} (hgd : o.guard = none) (s x : Operand) (t : TypeId)
    (ho : o.op = .call { callee := .builtin .append, args := #[s, x], argTypes := #[t, t] }) (v vx v' : Value) (w' : World) (hs : a.eval s = v) (hx : a.eval x = vx) (ty : TypeId) (hty : o.type = ty)
    (hrun : (Builtin.append_ #[t, t] ty #[v, vx]).run P w = .ok v' w') (h : K (a.put o.dst v') w') : if Region.wanted o (yielded ops a.tmps) = true then Oper.wp P o a w K Q else E := by
  subst hty
  have hw : Region.wanted o (yielded ops a.tmps) = true := by simp [Region.wanted, hgd]
  rw [if_pos hw]
  unfold Oper.wp execOp
  simp only [ho, resolve, invoke, builtin, Sem.run_bind, Sem.run_pure, Result.andThen_ok, List.map_toArray, List.map_cons, List.map_nil, hs, hx, hrun]
  exact h
theorem DiskAt.more_upd4 {ex ex' fp : Nat → Prop} {w w' : World} {p m : Nat} {d : ADisk} (h : DiskAt ex w p m d) (hu : Upd fp w w') (hb : ∀ k, k < w.heap.size → fp k → ex k) (hx : ∀ k, ex' k → ex k ∨ w.heap.size ≤ k ∧ k < w'.heap.size) : DiskAt ex' w' p m d := by
  obtain ⟨g, hr, hx0⟩ := h
  refine ⟨g, hr.upd hu (fun k hk e => (hx0 k (hb k (hr.lt hk) e)).2 hk), fun k hk => ?_⟩
  rcases hx k hk with hk | ⟨h1, h2⟩
  · exact ⟨Nat.lt_of_lt_of_le (hx0 k hk).1 hu.size, (hx0 k hk).2⟩
  · exact ⟨h2, fun hd => by have := hr.lt hd; omega⟩

section
variable {ex : Nat → Prop} {w : World} {q p m : Nat} {d : ADisk} {al : ALog}
/-- what the boxes hold while a segment is made. -/
def AnoS (bl bn bh q : Nat) (n : Int) (vh : Value) (w' : World) : Prop := w'.cell? ⟨bl, 0, none⟩ = some (.pointer (some ⟨q, 0, none⟩)) ∧ w'.cell? ⟨bn, 0, none⟩ = some (.int .i64 n) ∧ w'.cell? ⟨bh, 0, none⟩ = some vh
theorem AnoS.far {bl bn bh q : Nat} {n : Int} {vh : Value} {W : World} (hl : bl ≠ q) (hn : bn ≠ q) (hh : bh ≠ q) (o : Nat) (u : Value) (h : AnoS bl bn bh q n vh W) : AnoS bl bn bh q n vh (W.setCell ⟨q, o, none⟩ u) :=
  ⟨(World.cell?_setCell_far W _ _ u (fun e => hl e.symm)).trans h.1, (World.cell?_setCell_far W _ _ u (fun e => hn e.symm)).trans h.2.1, (World.cell?_setCell_far W _ _ u (fun e => hh e.symm)).trans h.2.2⟩
/-- a segment was appended to the log's, and the log's block is turned. -/
theorem LogV.appended {al' : ALog} {v v' : Value} {w1 w4 w5 : World} (hv : LogV ex w q p m d al v) (hB : Below w.heap.size w w1) (hg : w1.grownBy w4 v.ownBlock) (hS : SegAt w4 v' al'.segs)
    (hblk : v'.ownBlock = v.ownBlock ∨ ∃ g, v'.ownBlock = some g ∧ w.heap.size ≤ g) (hu : Upd (· = q) w4 w5) (hq : w5.heap[q]? = some (.cells (logCells p al' v') 52 (0, 0))) : LogV ex w5 q p m d al' v' ∧ Keep ex w w5 := by
  have h14 : Upd (fun k => v.ownBlock = some k) w w4 := ((Upd.refl _ w).thenBelow hB (Nat.le_refl _)).grown hg (fun k hk => Or.inl hk)
  have h15 : Upd (fun k => k = q ∨ v.ownBlock = some k) w w5 := (h14.mono (fun k hk => Or.inl (Or.inr hk))).trans hu (fun k hk => Or.inl (Or.inl hk))
  have hne : ∀ g, v'.ownBlock = some g → g ≠ q ∧ ¬ ex g := by
    intro g hg'
    rcases hblk with e | ⟨g', e, hge⟩
    · rw [e] at hg'; exact ⟨(hv.ownS g hg').2, (hv.ownS g hg').1⟩
    · rw [e] at hg'
      cases hg'
      exact ⟨fun e => by have := hv.q_lt; omega, fun e => by have := hv.lt e; omega⟩
  have hS5 : SegAt w5 v' al'.segs := hS.upd hu (fun g hg e => (hne g hg).1 e)
  refine ⟨⟨hq, hS5, ?_, hv.own, fun g hg => ⟨(hne g hg).2, (hne g hg).1⟩⟩, Keep.ofUpd h15 (fun k hk => ⟨hv.lt hk, ?_⟩)⟩
  · refine hv.disk.more_upd4 h15 (fun k _ hk => Or.inr hk) (fun k hk => ?_)
    rcases hk with hk | hk | hk
    · exact Or.inl (Or.inl hk)
    · exact Or.inl (Or.inr (Or.inl hk))
    · rcases hblk with e | ⟨g', e, hge⟩
      · exact Or.inl (Or.inr (Or.inr (e ▸ hk)))
      · refine Or.inr ⟨?_, hS5.lt hk⟩
        rw [e] at hk
        cases hk
        exact hge
  · rintro (e | e)
    · exact hv.own (e ▸ hk)
    · exact (hv.ownS k e).1 hk
/-- the steps, where the boxes lie and the head is made. -/
theorem ano_ready {w2 : World} {v : Value} {bl bn n : Nat} {T1 T2 : TypeId} {ah : Option Addr} {ch : Nat} (hv : LogV ex w q p m d al v) (hl : w.heap[bl]? = some (.cells #[.pointer (some ⟨q, 0, none⟩)] T1 (0, 0))) (hn : w.heap[bn]? = some (.cells #[.int .i64 n] T2 (0, 0)))
    (xl : ex bl) (xn : ex bn) (gl : GlIn ex) (env : WEnv w) (le : n ≤ 9007199254740993) (hB : Below w.heap.size w w2) (hrow : w2.ownsRow w.heap.size 5 1 (.slice ah (hd4 n).length ch) (hd4 n).length (bcells (hd4 n))) :
    Calls Tryz.prog 53 #[.slice (some ⟨w2.heap.size + 1, 0, none⟩) 3 3] ((w2.alloc (.cells #[.slice ah (hd4 n).length ch] 45)).alloc (.cells #[.func (.func 85) #[] #[.pointer (some ⟨bl, 0, none⟩), .pointer (some ⟨bn, 0, none⟩)], .func (.func 87) #[] #[.pointer (some ⟨bl, 0, none⟩), .pointer (some ⟨bn, 0, none⟩), .pointer (some ⟨w2.heap.size, 0, none⟩)], .func (.func 88) #[] #[.pointer (some ⟨bl, 0, none⟩), .pointer (some ⟨bn, 0, none⟩)]] 55)) fun e w' =>
      e = .returned (.int .i64 (anoSteps d n).2) ∧ LogV ex w' q p m (anoSteps d n).1 al v ∧ Keep ex w w' ∧ w'.heap[bl]? = some (.cells #[.pointer (some ⟨q, 0, none⟩)] T1 (0, 0)) ∧ w'.heap[bn]? = some (.cells #[.int .i64 n] T2 (0, 0)) ∧ w'.heap[w2.heap.size]? = some (.cells #[.slice ah (hd4 n).length ch] 45 (0, 0)) ∧ w2.heap.size < w'.heap.size := by
  have hU : Upd noFp w2 ((w2.alloc (.cells #[.slice ah (hd4 n).length ch] 45)).alloc (.cells (anoFns bl bn w2.heap.size) 55)) := ((Upd.refl _ _).alloc _).alloc _
  have hb1 := alloc2_at w2 (.cells #[.slice ah (hd4 n).length ch] 45) (.cells (anoFns bl bn w2.heap.size) 55)
  have hb0 := alloc2_at0 w2 (.cells #[.slice ah (hd4 n).length ch] 45) (.cells (anoFns bl bn w2.heap.size) 55)
  change Calls _ _ _ ((w2.alloc (.cells #[.slice ah (hd4 n).length ch] 45)).alloc (.cells (anoFns bl bn w2.heap.size) 55)) _
  generalize (w2.alloc (.cells #[.slice ah (hd4 n).length ch] 45)).alloc (.cells (anoFns bl bn w2.heap.size) 55) = V at hU hb1 hb0 ⊢
  have hBV : Below w.heap.size w V := hB.trans ((hU.below (N := w2.heap.size) (fun _ h => h.elim) (Nat.le_refl _)).mono hB.size)
  have hlV := (hBV.block _ (blk_lt hl)).trans hl
  have hnV := (hBV.block _ (blk_lt hn)).trans hn
  have hvV : LogV (fun k => ex k ∨ w.heap.size ≤ k ∧ k < V.heap.size) V q p m d al v := hv.more hBV (fun k hk => hk)
  have hrV := hU.row hrow (fun _ _ h => h)
  have hs2 := hB.size
  have hsV := blk_lt hb1
  refine (wsteps_ano (n := n) (bl := bl) (bn := bn) (bh := w2.heap.size) (q := q) (vh := .slice ah (hd4 n).length ch) hvV.disk
    ⟨(cells1 hlV).1, (cells1 hnV).1, (cells1 hb0).1, (cells7 hvV.blk).1, Rd.ofOwns hrV, Or.inl (Or.inl xl), Or.inl (Or.inl xn), Or.inl (Or.inr ⟨hs2, by omega⟩), Or.inr (Or.inl rfl), fun g hg => Or.inl (Or.inr ⟨row_from hrow hg, row_lt hrV hg⟩), gl.mono (fun k hk => Or.inl (Or.inl hk)), env.below hBV, le⟩ hb1 (Or.inl (Or.inr ⟨by omega, hsV⟩))).mono fun e w' he => ?_
  obtain ⟨e1, e2, e3⟩ := he
  obtain ⟨f1, f2⟩ := hvV.disk_turned e2 e3
  have hkV : Keep ex w V := Keep.ofBelow hBV (fun k hk => hv.lt hk)
  refine ⟨e1, f1.mono (fun k hk => Or.inl hk), hkV.trans (f2.mono (fun k hk => Or.inl hk)), (f2.block _ (Or.inl xl)).trans hlV, (f2.block _ (Or.inl xn)).trans hnV, (f2.block _ (Or.inr ⟨hs2, by omega⟩)).trans hb0, ?_⟩
  have := f2.size
  omega
set_option maxRecDepth 100000 in
set_option maxHeartbeats 8000000 in
theorem wanother_first (n : Nat) (h : LogAt ex w q p m d al) (hE : WEnv w) (hG : GlIn ex) (hn0 : 1 ≤ n) (hn : n ≤ 9007199254740992) (hs : al.segs = []) :
    Calls Tryz.prog 62 #[.pointer (some ⟨q, 0, none⟩), .int .i64 n] w fun e w' => e = .returned (.int .i64 (wAnother d al n).2.2) ∧ LogAt ex w' q p m (wAnother d al n).1 (wAnother d al n).2.1 ∧ Keep ex w w' := by
  obtain ⟨k, rfl⟩ : ∃ k, n = k + 1 := ⟨n - 1, by omega⟩
  obtain ⟨v, hv⟩ := h
  obtain ⟨er, her⟩ : ∃ er, (anoSteps d (k + 1)).2 = er := ⟨_, rfl⟩
  have hW : wAnother d al (k + 1) = if er = 0 then ((anoSteps d (k + 1)).1, { al with segs := [(k + 1, false)], bytes := (hd4 (k + 1)).length, synced := k }, 0) else ((anoSteps d (k + 1)).1, al, er) := by
    unfold wAnother
    rw [if_neg (by rintro ⟨h1, _⟩; exact h1 hs)]
    simp only [hs, if_true, her, List.nil_append, Nat.add_sub_cancel]
  obtain ⟨U, hUe⟩ : ∃ U, (w.alloc (.cells #[.pointer (some ⟨q, 0, none⟩)] 27)).alloc (.cells #[.int .i64 ((k : Int) + 1)] 3) = U := ⟨_, rfl⟩
  have hBU : Below w.heap.size w U := by rw [← hUe]; exact ((Below.refl _ _).alloc (Nat.le_refl _) _).alloc (by simp) _
  have hlU : U.heap[w.heap.size]? = some (.cells #[.pointer (some ⟨q, 0, none⟩)] 27 (0, 0)) := by rw [← hUe]; exact alloc2_at0 _ _ _
  have hnU : U.heap[w.heap.size + 1]? = some (.cells #[.int .i64 ((k + 1 : Nat) : Int)] 3 (0, 0)) := by rw [← hUe]; exact alloc2_at _ _ _
  have hvU : LogV (fun j => ex j ∨ w.heap.size ≤ j ∧ j < U.heap.size) U q p m d al v := hv.more hBU (fun _ hk => hk)
  have hsU := blk_lt hnU
  have hvs : v = .slice none 0 0 ∨ ∃ a c, v = .slice (some a) 0 c := by
    have := hv.seg
    rw [hs] at this
    rcases this with ⟨rfl, _⟩ | ⟨g, off, c, rfl, _⟩
    · exact Or.inl rfl
    · exact Or.inr ⟨_, _, rfl⟩
  obtain ⟨av, cv, rfl⟩ : ∃ a c, v = .slice a 0 c := by
    rcases hvs with rfl | ⟨a, c, rfl⟩ <;> exact ⟨_, _, rfl⟩
  have hh := fun wX => whead_any wX (k + 1) (by omega)
  have hready := fun (w2 : World) (ah : Option Addr) (ch : Nat) (hB : Below U.heap.size U w2) (hrow : w2.ownsRow U.heap.size 5 1 (.slice ah (hd4 (k + 1)).length ch) (hd4 (k + 1)).length (bcells (hd4 (k + 1)))) =>
    ano_ready hvU hlU hnU (Or.inr ⟨Nat.le_refl _, by omega⟩) (Or.inr ⟨by omega, hsU⟩) (hG.mono (fun _ hk => Or.inl hk)) (hE.below hBU) (by omega) hB hrow
  rw [her] at hready
  obtain ⟨d2, hd2⟩ : ∃ d2, (anoSteps d (k + 1)).1 = d2 := ⟨_, rfl⟩
  rw [hd2] at hready hW
  have hhl := (hd4_len (k + 1) (by omega)).2
  obtain ⟨H, hH⟩ : ∃ H, (hd4 (k + 1)).length = H := ⟨_, rfl⟩
  have Hh := Lib.hid hh
  have Hready := Lib.hid hready
  rw [hH] at Hh Hready hW hhl
  have HW := Lib.hid hW
  have HU := Lib.hid hUe
  have HvU := Lib.hid hvU
  have Hv := Lib.hid hv
  have HBU := Lib.hid hBU
  have Hs := Lib.hid hs
  obtain ⟨u0, _⟩ := cells1 hlU
  have u3 : U.cell? ⟨w.heap.size + 1, 0, none⟩ = some (.int .i64 ((k : Int) + 1)) := (cells1 hnU).1
  obtain ⟨u1, u2⟩ := cells7 hvU.blk
  obtain ⟨_, u2, _⟩ := u2
  clear hh hready hW hUe hvU hv hhl hH hs hd2 her hvs hE hG
  by_cases h0 : er = 0
  · subst h0
    have Hw := Lib.hid (HW.out.trans (if_pos rfl))
    clear HW
    go_enter Tryz.func62, Tryz.ntmps62
    go_upto_region 1 with fail
    rw [HU.out]
    go_wp2_with first
      | (go_at_call 84; refine (Hh.out _).mono ?_; rintro e w2 ⟨ah, ch, rfl, hrow, hB2⟩; have Hrow := Lib.hid hrow; clear hrow)
      | (go_at_call 53; refine (Hready.out w2 ah ch hB2 Hrow.out).mono ?_; rintro e w3 ⟨rfl, hV3, hK3, hl3, hn3, hh3, hs3⟩)
    have hS3 : SegAt w3.drew (.slice av 0 cv) [] := by
      have := hV3.seg
      rw [Hs.out] at this
      exact this.below ((Below.refl _ _).drew)
    obtain ⟨a', c', w4, hrun, hS4, hg4, hb4⟩ := run_append_seg w3.drew (.slice av 0 cv) [] ((k : Int) + 1) (k + 1) false rfl hS3 (by simp)
    simp only [List.length_nil, Nat.zero_add, List.nil_append] at hrun hS4 hb4
    have hrun : (Builtin.append_ #[50, 50] 50 #[.slice av 0 cv, .slice (some ⟨w3.heap.size, 0, none⟩) 1 1]).run Tryz.prog ((w3.alloc (.cells #[.int .i64 ((k : Int) + 1), .bool false] 89)).drew) = .ok (.slice a' 1 c') w4 := hrun
    have hs2 := hB2.size
    have hs0 := HBU.out.size
    have hU4 : Upd (fun g => (Value.slice av 0 cv).ownBlock = some g) w3 w4 := (((Upd.refl _ w3).drew).alloc _).grown hg4 (fun g hg => Or.inl hg)
    have hq4 := hU4.keep hV3.blk (fun e => (hV3.ownS q e).2 rfl)
    have hl4 := hU4.keep hl3 (fun e => (hV3.ownS _ e).1 (Or.inr ⟨Nat.le_refl _, by omega⟩))
    have hn4 := hU4.keep hn3 (fun e => (hV3.ownS _ e).1 (Or.inr ⟨by omega, hsU⟩))
    have hh4 := hU4.keep hh3 (fun e => by have := HvU.out.seg.lt e; omega)
    obtain ⟨x0, _⟩ := cells1 (w := w3.drew) hl3
    obtain ⟨x1, _⟩ := cells1 (w := w3.drew) hn3
    obtain ⟨x2, _⟩ := cells1 (w := w3.drew) hh3
    obtain ⟨_, _, x3, _⟩ := cells7 (w := w3.drew) hV3.blk
    obtain ⟨y0, _⟩ := cells1 (w := (w3.alloc (.cells #[.int .i64 ((k : Int) + 1), .bool false] 89)).drew) (alloc_old hl3 (.cells #[.int .i64 ((k : Int) + 1), .bool false] 89))
    obtain ⟨y1, _⟩ := cells1 (w := (w3.alloc (.cells #[.int .i64 ((k : Int) + 1), .bool false] 89)).drew) (alloc_old hn3 (.cells #[.int .i64 ((k : Int) + 1), .bool false] 89))
    obtain ⟨y2, _⟩ := cells1 (w := (w3.alloc (.cells #[.int .i64 ((k : Int) + 1), .bool false] 89)).drew) (alloc_old hh3 (.cells #[.int .i64 ((k : Int) + 1), .bool false] 89))
    obtain ⟨_, _, y3, _⟩ := cells7 (w := (w3.alloc (.cells #[.int .i64 ((k : Int) + 1), .bool false] 89)).drew) (alloc_old hV3.blk (.cells #[.int .i64 ((k : Int) + 1), .bool false] 89))
    obtain ⟨z0, _⟩ := cells1 hl4
    obtain ⟨z1, _⟩ := cells1 hn4
    obtain ⟨z2, _⟩ := cells1 hh4
    obtain ⟨q0, q1, q2, q3, q4, q5, q6, g2, g3, g4, g5, g6⟩ := cells7 hq4
    have HV3 := Lib.hid hV3
    have HS4 := Lib.hid hS4
    have Hq4 := Lib.hid hq4
    have Hg4 := Lib.hid hg4
    have Hb4 := Lib.hid hb4
    rw [show (((k + 1 : Nat) : Nat) : Int) = (k : Int) + 1 from rfl] at x1 y1 z1
    clear hV3 hS4 hq4 hg4 hl4 hn4 hh4 hU4 hS3 hl3 hn3 hh3 u0 u1 u2 u3 hb4
    have hlq : w.heap.size ≠ q := fun e => HvU.out.own (Or.inr ⟨by omega, by omega⟩)
    have hnq : w.heap.size + 1 ≠ q := fun e => HvU.out.own (Or.inr ⟨by omega, by omega⟩)
    have hhq : w2.heap.size ≠ q := fun e => by have := HvU.out.q_lt; omega
    have hwk : IntKind.i64.wrap (k : Int) = (k : Int) := IntWalk.i64_in _ (by omega)
    refine wp_region_held_drew (S := AnoS w.heap.size (w.heap.size + 1) w2.heap.size q ((k : Int) + 1) (.slice ah H ch)) (by kernel_rfl) ⟨x0, x1, x2⟩ (fun hHeld => ?_)
    refine wpAnyH_take (i := 0) (v := ?_) rfl (by kernel_rfl) (by kernel_rfl) (by kernel_rfl) (fun _ _ _ h => h) (Or.inl ⟨by rfl, ?_⟩) (by assumption) ?_
    rotate_left
    · (intro wz hSz; obtain ⟨b0, b1, b2⟩ := hSz; go_simp) <;> with_reducible rfl
    simp only [Act.put, List.getElem_toArray, List.getElem_cons_zero, List.getElem_cons_succ, List.setIfInBounds_toArray, List.set_cons_zero, List.set_cons_succ]
    refine wpAnyH_take (i := 1) (v := ?_) rfl (by kernel_rfl) (by kernel_rfl) (by kernel_rfl) (fun _ _ _ h => h) (Or.inl ⟨by rfl, ?_⟩) (by assumption) ?_
    rotate_left
    · (intro wz hSz; obtain ⟨b0, b1, b2⟩ := hSz; go_simp) <;> with_reducible rfl
    simp only [Act.put, List.getElem_toArray, List.getElem_cons_zero, List.getElem_cons_succ, List.setIfInBounds_toArray, List.set_cons_zero, List.set_cons_succ]
    refine wpAnyH_take (i := 2) (v := ?_) rfl (by kernel_rfl) (by kernel_rfl) (by kernel_rfl) (fun _ _ _ h => h) (Or.inl ⟨by rfl, ?_⟩) (by assumption) ?_
    rotate_left
    · (intro wz hSz; obtain ⟨b0, b1, b2⟩ := hSz; go_simp) <;> with_reducible rfl
    simp only [Act.put, List.getElem_toArray, List.getElem_cons_zero, List.getElem_cons_succ, List.setIfInBounds_toArray, List.set_cons_zero, List.set_cons_succ]
    refine wpAnyH_take (i := 3) (v := ?_) rfl (by kernel_rfl) (by kernel_rfl) (by kernel_rfl) (fun _ _ _ h => h) (Or.inl ⟨by rfl, ?_⟩) (by assumption) ?_
    rotate_left
    · (intro wz hSz; obtain ⟨b0, b1, b2⟩ := hSz; go_simp) <;> with_reducible rfl
    simp only [Act.put, List.getElem_toArray, List.getElem_cons_zero, List.getElem_cons_succ, List.setIfInBounds_toArray, List.set_cons_zero, List.set_cons_succ]
    refine wpAnyH_take (i := 4) (v := ?_) rfl (by kernel_rfl) (by kernel_rfl) (by kernel_rfl) (fun _ _ _ h => h) (Or.inl ⟨by rfl, ?_⟩) (by assumption) ?_
    rotate_left
    · (intro wz hSz; obtain ⟨b0, b1, b2⟩ := hSz; go_simp) <;> with_reducible rfl
    simp only [Act.put, List.getElem_toArray, List.getElem_cons_zero, List.getElem_cons_succ, List.setIfInBounds_toArray, List.set_cons_zero, List.set_cons_succ]
    refine wpAnyH_take (i := 5) (v := ?_) rfl (by kernel_rfl) (by kernel_rfl) (by kernel_rfl) (fun _ _ _ h => h) (Or.inl ⟨by rfl, ?_⟩) (by assumption) ?_
    rotate_left
    · (intro wz hSz; obtain ⟨b0, b1, b2⟩ := hSz; go_simp) <;> with_reducible rfl
    simp only [Act.put, List.getElem_toArray, List.getElem_cons_zero, List.getElem_cons_succ, List.setIfInBounds_toArray, List.set_cons_zero, List.set_cons_succ]
    refine wpAnyH_take (i := 7) (v := ?_) rfl (by kernel_rfl) (by kernel_rfl) (by kernel_rfl) (fun _ _ _ h => h) (Or.inl ⟨by rfl, ?_⟩) (by assumption) ?_
    rotate_left
    · (intro wz hSz; obtain ⟨b0, b1, b2⟩ := hSz; go_simp) <;> with_reducible rfl
    simp only [Act.put, List.getElem_toArray, List.getElem_cons_zero, List.getElem_cons_succ, List.setIfInBounds_toArray, List.set_cons_zero, List.set_cons_succ]
    refine wpAnyH_take (i := 8) (v := ?_) rfl (by kernel_rfl) (by kernel_rfl) (by kernel_rfl) (fun _ _ _ h => h) (Or.inl ⟨by rfl, ?_⟩) (by assumption) ?_
    rotate_left
    · (intro wz hSz; obtain ⟨b0, b1, b2⟩ := hSz; go_simp) <;> with_reducible rfl
    simp only [Act.put, List.getElem_toArray, List.getElem_cons_zero, List.getElem_cons_succ, List.setIfInBounds_toArray, List.set_cons_zero, List.set_cons_succ]
    refine wpAnyH_take (i := 11) (v := ?_) rfl (by kernel_rfl) (by kernel_rfl) (by kernel_rfl) (fun _ _ _ h => h) (Or.inl ⟨by rfl, ?_⟩) (by assumption) ?_
    rotate_left
    · (intro wz hSz; obtain ⟨b0, b1, b2⟩ := hSz; go_simp) <;> with_reducible rfl
    simp only [Act.put, List.getElem_toArray, List.getElem_cons_zero, List.getElem_cons_succ, List.setIfInBounds_toArray, List.set_cons_zero, List.set_cons_succ]
    refine wpAnyH_take (i := 12) (v := ?_) rfl (by kernel_rfl) (by kernel_rfl) (by kernel_rfl) (fun _ _ _ h => h) (Or.inl ⟨by rfl, ?_⟩) (by assumption) ?_
    rotate_left
    · (intro wz hSz; obtain ⟨b0, b1, b2⟩ := hSz; go_simp) <;> with_reducible rfl
    simp only [Act.put, List.getElem_toArray, List.getElem_cons_zero, List.getElem_cons_succ, List.setIfInBounds_toArray, List.set_cons_zero, List.set_cons_succ]
    refine wpAnyH_take (i := 13) (v := ?_) rfl (by kernel_rfl) (by kernel_rfl) (by kernel_rfl) (fun _ _ _ h => h) (Or.inl ⟨by rfl, ?_⟩) (by assumption) ?_
    rotate_left
    · (intro wz hSz; obtain ⟨b0, b1, b2⟩ := hSz; go_simp) <;> with_reducible rfl
    simp only [Act.put, List.getElem_toArray, List.getElem_cons_zero, List.getElem_cons_succ, List.setIfInBounds_toArray, List.set_cons_zero, List.set_cons_succ]
    refine wpAnyH_take (i := 14) (v := ?_) rfl (by kernel_rfl) (by kernel_rfl) (by kernel_rfl) (fun _ _ _ h => h) (Or.inl ⟨by rfl, ?_⟩) (by assumption) ?_
    rotate_left
    · (intro wz hSz; obtain ⟨b0, b1, b2⟩ := hSz; go_simp) <;> with_reducible rfl
    simp only [Act.put, List.getElem_toArray, List.getElem_cons_zero, List.getElem_cons_succ, List.setIfInBounds_toArray, List.set_cons_zero, List.set_cons_succ]
    refine wpAnyH_ready (rs := [6, 9]) (by kernel_rfl) (by simp) (AllReadyH.cons rfl (fun K hK => ?_) (AllReadyH.cons rfl (fun K hK => ?_) AllReadyH.nil))
    · go_simp
      refine hK.out _ _ hHeld (fun _ => ?_)
      clear hK K
      refine wpAnyH_ready (rs := [9]) (by kernel_rfl) (by simp) (AllReadyH.cons rfl (fun K hK => ?_) AllReadyH.nil)
      go_simp
      refine hK.out _ _ ⟨y0, y1, y2⟩ (fun hHeld => ?_)
      clear hK K
      refine wpAnyH_ready (rs := [10]) (by kernel_rfl) (by simp) (AllReadyH.cons rfl (fun K hK => ?_) AllReadyH.nil)
      refine step_append_run4 (by rfl) _ _ _ (by rfl) _ _ _ _ (by rfl) (by rfl) _ (by rfl) hrun ?_
      refine hK.out _ _ ⟨z0, z1, z2⟩ (fun hHeld => ?_)
      clear hK K
      refine wpAnyH_take (i := 15) (v := ?_) rfl (by kernel_rfl) (by kernel_rfl) (by kernel_rfl) (fun _ _ _ h => h) (Or.inl ⟨by rfl, ?_⟩) (by assumption) ?_
      rotate_left
      · (intro wz hSz; obtain ⟨b0, b1, b2⟩ := hSz; go_simp) <;> with_reducible rfl
      simp only [Act.put, List.getElem_toArray, List.getElem_cons_zero, List.getElem_cons_succ, List.setIfInBounds_toArray, List.set_cons_zero, List.set_cons_succ]
      refine wpAnyH_take (i := 16) (v := ?_) rfl (by kernel_rfl) (by kernel_rfl) (by kernel_rfl) (fun _ _ _ h => h) (Or.inl ⟨by rfl, ?_⟩) (by assumption) ?_
      rotate_left
      · (intro wz hSz; obtain ⟨b0, b1, b2⟩ := hSz; go_simp) <;> with_reducible rfl
      simp only [Act.put, List.getElem_toArray, List.getElem_cons_zero, List.getElem_cons_succ, List.setIfInBounds_toArray, List.set_cons_zero, List.set_cons_succ]
      refine wpAnyH_ready (rs := [17]) (by kernel_rfl) (by simp) (AllReadyH.cons rfl (fun K hK => ?_) AllReadyH.nil)
      go_simp
      refine hK.out _ _ (AnoS.far hlq hnq hhq _ _ ⟨z0, z1, z2⟩) (fun hHeld => ?_)
      clear hK K
      refine wpAnyH_take (i := 18) (v := ?_) rfl (by kernel_rfl) (by kernel_rfl) (by kernel_rfl) (fun _ _ _ h => h) (Or.inl ⟨by rfl, ?_⟩) (by assumption) ?_
      rotate_left
      · (intro wz hSz; obtain ⟨b0, b1, b2⟩ := hSz; go_simp) <;> with_reducible rfl
      simp only [Act.put, List.getElem_toArray, List.getElem_cons_zero, List.getElem_cons_succ, List.setIfInBounds_toArray, List.set_cons_zero, List.set_cons_succ]
      refine wpAnyH_take (i := 19) (v := ?_) rfl (by kernel_rfl) (by kernel_rfl) (by kernel_rfl) (fun _ _ _ h => h) (Or.inl ⟨by rfl, ?_⟩) (by assumption) ?_
      rotate_left
      · (intro wz hSz; obtain ⟨b0, b1, b2⟩ := hSz; go_simp) <;> with_reducible rfl
      simp only [Act.put, List.getElem_toArray, List.getElem_cons_zero, List.getElem_cons_succ, List.setIfInBounds_toArray, List.set_cons_zero, List.set_cons_succ]
      refine wpAnyH_ready (rs := [20]) (by kernel_rfl) (by simp) (AllReadyH.cons rfl (fun K hK => ?_) AllReadyH.nil)
      go_simp
      refine hK.out _ _ (AnoS.far hlq hnq hhq _ _ (AnoS.far hlq hnq hhq _ _ ⟨z0, z1, z2⟩)) (fun hHeld => ?_)
      clear hK K
      refine wpAnyH_take (i := 21) (v := ?_) rfl (by kernel_rfl) (by kernel_rfl) (by kernel_rfl) (fun _ _ _ h => h) (Or.inl ⟨by rfl, ?_⟩) (by assumption) ?_
      rotate_left
      · (intro wz hSz; obtain ⟨b0, b1, b2⟩ := hSz; go_simp) <;> with_reducible rfl
      simp only [Act.put, List.getElem_toArray, List.getElem_cons_zero, List.getElem_cons_succ, List.setIfInBounds_toArray, List.set_cons_zero, List.set_cons_succ]
      refine wpAnyH_take (i := 22) (v := ?_) rfl (by kernel_rfl) (by kernel_rfl) (by kernel_rfl) (fun _ _ _ h => h) (Or.inl ⟨by rfl, ?_⟩) (by assumption) ?_
      rotate_left
      · (intro wz hSz; obtain ⟨b0, b1, b2⟩ := hSz; go_simp) <;> with_reducible rfl
      simp only [Act.put, List.getElem_toArray, List.getElem_cons_zero, List.getElem_cons_succ, List.setIfInBounds_toArray, List.set_cons_zero, List.set_cons_succ]
      refine wpAnyH_ready (rs := [23]) (by kernel_rfl) (by simp) (AllReadyH.cons rfl (fun K hK => ?_) AllReadyH.nil)
      go_simp
      refine hK.out _ _ (AnoS.far hlq hnq hhq _ _ (AnoS.far hlq hnq hhq _ _ (AnoS.far hlq hnq hhq _ _ ⟨z0, z1, z2⟩))) (fun hHeld => ?_)
      clear hK K
      refine wpAnyH_done (by kernel_rfl) ?_ _
      go_wp2
      go_ret
      obtain ⟨j1, j2⟩ := LogV.appended (al' := { al with segs := [(k + 1, false)], bytes := H, synced := k }) (w1 := w3.drew.alloc (.cells #[.int .i64 ((k : Int) + 1), .bool false] 89)) HV3.out (((Below.refl _ _).drew).alloc (Nat.le_refl _) _) Hg4.out HS4.out Hb4.out (((setCell_upd (b := q) 2 (.slice a' 1 c')).trans (setCell_upd 4 (.int .i64 (H : Int))) (fun _ hk => Or.inl hk)).trans (setCell_upd 5 (.int .i64 (k : Int))) (fun _ hk => Or.inl hk)) (by rw [setCell_at (setCell_at (setCell_at Hq4.out _ _) _ _) _ _]; rfl)
      rw [Hw.out]
      exact ⟨rfl, ⟨_, j1.mono (fun _ hk => Or.inl hk)⟩, (Keep.ofBelow HBU.out (fun k hk => Hv.out.lt hk)).trans ((hK3.trans j2).mono (fun _ hk => Or.inl hk))⟩
    · go_simp
      refine hK.out _ _ ⟨y0, y1, y2⟩ (fun hHeld => ?_)
      clear hK K
      refine wpAnyH_ready (rs := [6]) (by kernel_rfl) (by simp) (AllReadyH.cons rfl (fun K hK => ?_) AllReadyH.nil)
      go_simp
      refine hK.out _ _ hHeld (fun hHeld => ?_)
      clear hK K
      refine wpAnyH_ready (rs := [10]) (by kernel_rfl) (by simp) (AllReadyH.cons rfl (fun K hK => ?_) AllReadyH.nil)
      refine step_append_run4 (by rfl) _ _ _ (by rfl) _ _ _ _ (by rfl) (by rfl) _ (by rfl) hrun ?_
      refine hK.out _ _ ⟨z0, z1, z2⟩ (fun hHeld => ?_)
      clear hK K
      refine wpAnyH_take (i := 15) (v := ?_) rfl (by kernel_rfl) (by kernel_rfl) (by kernel_rfl) (fun _ _ _ h => h) (Or.inl ⟨by rfl, ?_⟩) (by assumption) ?_
      rotate_left
      · (intro wz hSz; obtain ⟨b0, b1, b2⟩ := hSz; go_simp) <;> with_reducible rfl
      simp only [Act.put, List.getElem_toArray, List.getElem_cons_zero, List.getElem_cons_succ, List.setIfInBounds_toArray, List.set_cons_zero, List.set_cons_succ]
      refine wpAnyH_take (i := 16) (v := ?_) rfl (by kernel_rfl) (by kernel_rfl) (by kernel_rfl) (fun _ _ _ h => h) (Or.inl ⟨by rfl, ?_⟩) (by assumption) ?_
      rotate_left
      · (intro wz hSz; obtain ⟨b0, b1, b2⟩ := hSz; go_simp) <;> with_reducible rfl
      simp only [Act.put, List.getElem_toArray, List.getElem_cons_zero, List.getElem_cons_succ, List.setIfInBounds_toArray, List.set_cons_zero, List.set_cons_succ]
      refine wpAnyH_ready (rs := [17]) (by kernel_rfl) (by simp) (AllReadyH.cons rfl (fun K hK => ?_) AllReadyH.nil)
      go_simp
      refine hK.out _ _ (AnoS.far hlq hnq hhq _ _ ⟨z0, z1, z2⟩) (fun hHeld => ?_)
      clear hK K
      refine wpAnyH_take (i := 18) (v := ?_) rfl (by kernel_rfl) (by kernel_rfl) (by kernel_rfl) (fun _ _ _ h => h) (Or.inl ⟨by rfl, ?_⟩) (by assumption) ?_
      rotate_left
      · (intro wz hSz; obtain ⟨b0, b1, b2⟩ := hSz; go_simp) <;> with_reducible rfl
      simp only [Act.put, List.getElem_toArray, List.getElem_cons_zero, List.getElem_cons_succ, List.setIfInBounds_toArray, List.set_cons_zero, List.set_cons_succ]
      refine wpAnyH_take (i := 19) (v := ?_) rfl (by kernel_rfl) (by kernel_rfl) (by kernel_rfl) (fun _ _ _ h => h) (Or.inl ⟨by rfl, ?_⟩) (by assumption) ?_
      rotate_left
      · (intro wz hSz; obtain ⟨b0, b1, b2⟩ := hSz; go_simp) <;> with_reducible rfl
      simp only [Act.put, List.getElem_toArray, List.getElem_cons_zero, List.getElem_cons_succ, List.setIfInBounds_toArray, List.set_cons_zero, List.set_cons_succ]
      refine wpAnyH_ready (rs := [20]) (by kernel_rfl) (by simp) (AllReadyH.cons rfl (fun K hK => ?_) AllReadyH.nil)
      go_simp
      refine hK.out _ _ (AnoS.far hlq hnq hhq _ _ (AnoS.far hlq hnq hhq _ _ ⟨z0, z1, z2⟩)) (fun hHeld => ?_)
      clear hK K
      refine wpAnyH_take (i := 21) (v := ?_) rfl (by kernel_rfl) (by kernel_rfl) (by kernel_rfl) (fun _ _ _ h => h) (Or.inl ⟨by rfl, ?_⟩) (by assumption) ?_
      rotate_left
      · (intro wz hSz; obtain ⟨b0, b1, b2⟩ := hSz; go_simp) <;> with_reducible rfl
      simp only [Act.put, List.getElem_toArray, List.getElem_cons_zero, List.getElem_cons_succ, List.setIfInBounds_toArray, List.set_cons_zero, List.set_cons_succ]
      refine wpAnyH_take (i := 22) (v := ?_) rfl (by kernel_rfl) (by kernel_rfl) (by kernel_rfl) (fun _ _ _ h => h) (Or.inl ⟨by rfl, ?_⟩) (by assumption) ?_
      rotate_left
      · (intro wz hSz; obtain ⟨b0, b1, b2⟩ := hSz; go_simp) <;> with_reducible rfl
      simp only [Act.put, List.getElem_toArray, List.getElem_cons_zero, List.getElem_cons_succ, List.setIfInBounds_toArray, List.set_cons_zero, List.set_cons_succ]
      refine wpAnyH_ready (rs := [23]) (by kernel_rfl) (by simp) (AllReadyH.cons rfl (fun K hK => ?_) AllReadyH.nil)
      go_simp
      refine hK.out _ _ (AnoS.far hlq hnq hhq _ _ (AnoS.far hlq hnq hhq _ _ (AnoS.far hlq hnq hhq _ _ ⟨z0, z1, z2⟩))) (fun hHeld => ?_)
      clear hK K
      refine wpAnyH_done (by kernel_rfl) ?_ _
      go_wp2
      go_ret
      obtain ⟨j1, j2⟩ := LogV.appended (al' := { al with segs := [(k + 1, false)], bytes := H, synced := k }) (w1 := w3.drew.alloc (.cells #[.int .i64 ((k : Int) + 1), .bool false] 89)) HV3.out (((Below.refl _ _).drew).alloc (Nat.le_refl _) _) Hg4.out HS4.out Hb4.out (((setCell_upd (b := q) 2 (.slice a' 1 c')).trans (setCell_upd 4 (.int .i64 (H : Int))) (fun _ hk => Or.inl hk)).trans (setCell_upd 5 (.int .i64 (k : Int))) (fun _ hk => Or.inl hk)) (by rw [setCell_at (setCell_at (setCell_at Hq4.out _ _) _ _) _ _]; rfl)
      rw [Hw.out]
      exact ⟨rfl, ⟨_, j1.mono (fun _ hk => Or.inl hk)⟩, (Keep.ofBelow HBU.out (fun k hk => Hv.out.lt hk)).trans ((hK3.trans j2).mono (fun _ hk => Or.inl hk))⟩
  · have Hw := Lib.hid (HW.out.trans (if_neg h0))
    have h0b : (er == 0) = false := by simpa using h0
    clear HW h0
    go_enter Tryz.func62, Tryz.ntmps62
    go_upto_region 1 with fail
    rw [HU.out]
    go_wp2_with first
      | (go_at_call 84; refine (Hh.out _).mono ?_; rintro e w2 ⟨ah, ch, rfl, hrow, hB2⟩; have Hrow := Lib.hid hrow; clear hrow)
      | (go_at_call 53; refine (Hready.out w2 ah ch hB2 Hrow.out).mono ?_; rintro e w3 ⟨rfl, hV3, hK3, hl3, hn3, hh3, hs3⟩)
    go_ret
    rw [Hw.out]
    exact ⟨rfl, ⟨_, hV3.mono (fun _ hk => Or.inl hk)⟩, (Keep.ofBelow HBU.out (fun k hk => Hv.out.lt hk)).trans (hK3.mono (fun _ hk => Or.inl hk))⟩
set_option maxRecDepth 100000 in
set_option maxHeartbeats 8000000 in
theorem wanother_more (n : Nat) (h : LogAt ex w q p m d al) (hE : WEnv w) (hG : GlIn ex) (hn0 : 1 ≤ n) (hn : n ≤ 9007199254740992) (hok : al.Ok) (hs : al.segs ≠ []) :
    Calls Tryz.prog 62 #[.pointer (some ⟨q, 0, none⟩), .int .i64 n] w fun e w' => e = .returned (.int .i64 (wAnother d al n).2.2) ∧ LogAt ex w' q p m (wAnother d al n).1 (wAnother d al n).2.1 ∧ Keep ex w w' := by
  obtain ⟨k, rfl⟩ : ∃ k, n = k + 1 := ⟨n - 1, by omega⟩
  obtain ⟨v, hv⟩ := h
  obtain ⟨av, cv, rfl, _⟩ := hv.seg.shape
  obtain ⟨L, hL⟩ : ∃ L, al.segs.length = L := ⟨_, rfl⟩
  have hL0 : 0 < L := by rw [← hL]; exact List.length_pos_iff.2 hs
  have hL1 : (0 : Int) < L := by omega
  have hml := hok.many
  have hfz := hok.file_size
  obtain ⟨es, hes⟩ : ∃ es, d.syncErr al.file = es := ⟨_, rfl⟩
  obtain ⟨er, her⟩ : ∃ er, (anoSteps (d.sync al.file) (k + 1)).2 = er := ⟨_, rfl⟩
  have hW : wAnother d al (k + 1) = if es ≠ 0 then (d.sync al.file, al, es) else if er = 0 then ((anoSteps (d.sync al.file) (k + 1)).1, { al with segs := al.segs ++ [(k + 1, false)], bytes := (hd4 (k + 1)).length, synced := k }, 0) else ((anoSteps (d.sync al.file) (k + 1)).1, { al with synced := k }, er) := by
    unfold wAnother
    rw [hes]
    by_cases h0 : es ≠ 0
    · rw [if_pos ⟨hs, h0⟩, if_pos h0]
    · rw [if_neg (fun e => h0 e.2), if_neg h0]
      simp only [if_neg hs, her, Nat.add_sub_cancel]
  obtain ⟨U, hUe⟩ : ∃ U, (w.alloc (.cells #[.pointer (some ⟨q, 0, none⟩)] 27)).alloc (.cells #[.int .i64 ((k : Int) + 1)] 3) = U := ⟨_, rfl⟩
  have hBU : Below w.heap.size w U := by rw [← hUe]; exact ((Below.refl _ _).alloc (Nat.le_refl _) _).alloc (by simp) _
  have hlU : U.heap[w.heap.size]? = some (.cells #[.pointer (some ⟨q, 0, none⟩)] 27 (0, 0)) := by rw [← hUe]; exact alloc2_at0 _ _ _
  have hnU : U.heap[w.heap.size + 1]? = some (.cells #[.int .i64 ((k + 1 : Nat) : Int)] 3 (0, 0)) := by rw [← hUe]; exact alloc2_at _ _ _
  have hvU : LogV (fun j => ex j ∨ w.heap.size ≤ j ∧ j < U.heap.size) U q p m d al (.slice av al.segs.length cv) := hv.more hBU (fun _ hk => hk)
  have hsU := blk_lt hnU
  have hF := wfile_at (w := U.drew) ⟨_, hvU.below ((Below.refl _ _).drew)⟩ (hE.below hBU).drew hok hs
  obtain ⟨s, hfs⟩ : ∃ s, al.file = s := ⟨_, rfl⟩
  rw [hfs] at hF hfz hW hes her
  have hSy := fun wX (hX : LogV (fun j => ex j ∨ w.heap.size ≤ j ∧ j < U.heap.size) wX q p m d al (.slice av al.segs.length cv)) => sync_file hX s hfz
  rw [hes] at hSy
  obtain ⟨d1, hd1⟩ : ∃ d1, d.sync s = d1 := ⟨_, rfl⟩
  rw [hd1] at hSy hW her
  have hh := fun wX => whead_any wX (k + 1) (by omega)
  obtain ⟨d2, hd2⟩ : ∃ d2, (anoSteps d1 (k + 1)).1 = d2 := ⟨_, rfl⟩
  have hready := fun (X : World) (al1 : ALog) (hvX : LogV (fun j => ex j ∨ w.heap.size ≤ j ∧ j < U.heap.size) X q p m d1 al1 (.slice av al.segs.length cv)) (hlX : X.heap[w.heap.size]? = some (.cells #[.pointer (some ⟨q, 0, none⟩)] 27 (0, 0))) (hnX : X.heap[w.heap.size + 1]? = some (.cells #[.int .i64 ((k + 1 : Nat) : Int)] 3 (0, 0))) (hEX : WEnv X)
      (w2 : World) (ah : Option Addr) (ch : Nat) (hB : Below X.heap.size X w2) (hrow : w2.ownsRow X.heap.size 5 1 (.slice ah (hd4 (k + 1)).length ch) (hd4 (k + 1)).length (bcells (hd4 (k + 1)))) =>
    ano_ready hvX hlX hnX (Or.inr ⟨Nat.le_refl _, by omega⟩) (Or.inr ⟨by omega, hsU⟩) (hG.mono (fun _ hk => Or.inl hk)) hEX (by omega) hB hrow
  rw [hd2] at hW hready
  rw [her] at hready
  have hhl := (hd4_len (k + 1) (by omega)).2
  obtain ⟨H, hH⟩ : ∃ H, (hd4 (k + 1)).length = H := ⟨_, rfl⟩
  obtain ⟨u0, _⟩ := cells1 hlU
  have u3 : U.cell? ⟨w.heap.size + 1, 0, none⟩ = some (.int .i64 ((k : Int) + 1)) := (cells1 hnU).1
  obtain ⟨u1, _, u2, _⟩ := cells7 hvU.blk
  rw [hL] at u2 hml
  have Hh := Lib.hid hh
  have Hready := Lib.hid hready
  rw [hH] at Hh Hready hW hhl
  have HW := Lib.hid hW
  have HU := Lib.hid hUe
  have HvU := Lib.hid hvU
  have Hv := Lib.hid hv
  have HBU := Lib.hid hBU
  have Hs := Lib.hid hs
  have HF := Lib.hid hF
  have HSy := Lib.hid hSy
  have HE := Lib.hid (hE.below hBU)
  have HG := Lib.hid hG
  have HlU := Lib.hid hlU
  have HnU := Lib.hid hnU
  rw [hL] at Hready HSy HvU
  have HL := Lib.hid hL
  clear hh hready hW hUe hvU hv hhl hH hs hd2 her hok hE hG hF hSy hes hd1 hlU hnU hL hfs hfz
  by_cases hz : es = 0
  · subst hz
    have HW2 := Lib.hid (HW.out.trans (if_neg (fun e => e rfl)))
    clear HW
    by_cases h0 : er = 0
    · subst h0
      have Hw := Lib.hid (HW2.out.trans (if_pos rfl))
      clear HW2
      go_enter Tryz.func62, Tryz.ntmps62
      go_upto_region 1 with fail
      rw [HU.out]
      go_upto_region 2 with fail
      go_region_held3 (fun w' => w'.cell? ⟨w.heap.size, 0, none⟩ = some (.pointer (some ⟨q, 0, none⟩)) ∧ w'.cell? ⟨q, 0, none⟩ = some (.pointer (some ⟨p, 0, none⟩))) (first | exact ⟨u0, u1⟩ | exact S2 | exact S3 | go_keep)
        (first
          | (go_at_call 57; refine HF.out.mono ?_; rintro e w3 ⟨rfl, hB⟩; have S2 : w3.cell? ⟨w.heap.size, 0, none⟩ = some (.pointer (some ⟨q, 0, none⟩)) ∧ w3.cell? ⟨q, 0, none⟩ = some (.pointer (some ⟨p, 0, none⟩)) := ⟨(hB.cell (p := ⟨w.heap.size, 0, none⟩) (cell_lt u0)).trans u0, (hB.cell (p := ⟨q, 0, none⟩) (cell_lt u1)).trans u1⟩)
          | (go_at_call 43; refine (HSy.out w3 (HvU.out.below (((Below.refl _ _).drew).trans hB))).mono ?_; rintro e w4 ⟨rfl, hV4, hK4, hb4⟩; have S3 : w4.cell? ⟨w.heap.size, 0, none⟩ = some (.pointer (some ⟨q, 0, none⟩)) ∧ w4.cell? ⟨q, 0, none⟩ = some (.pointer (some ⟨p, 0, none⟩)) := ⟨(hK4.cell (Or.inr ⟨Nat.le_refl _, by omega⟩) 0).trans S2.1, (World.cell?_of_block (a := ⟨q, 0, none⟩) hb4).trans S2.2⟩))
      have hKU4 : Keep (fun j => ex j ∨ w.heap.size ≤ j ∧ j < U.heap.size) U w4 := (Keep.ofBelow (((Below.refl _ _).drew).trans hB) (fun k hk => HvU.out.lt hk)).trans hK4
      obtain ⟨X, hX⟩ : ∃ X, w4.setCell ⟨q, 5, none⟩ (.int .i64 (k : Int)) = X := ⟨_, rfl⟩
      obtain ⟨hvX, hK5⟩ := hV4.turned (al' := { al with synced := k }) (setCell_upd 5 (.int .i64 (k : Int))) (setCell_at hV4.blk _ _) rfl
      rw [hX] at hvX hK5
      have hKX := hKU4.trans hK5
      have hlX := (hKX.block _ (Or.inr ⟨Nat.le_refl _, by omega⟩)).trans HlU.out
      have hnX := (hKX.block _ (Or.inr ⟨by omega, hsU⟩)).trans HnU.out
      have hEX := HE.out.keep hKX (HG.out.mono (fun _ hk => Or.inl hk))
      have hr := Hready.out X _ hvX hlX hnX hEX
      have n4 : w4.cell? ⟨w.heap.size + 1, 0, none⟩ = some (.int .i64 ((k : Int) + 1)) := (hKU4.cell (Or.inr ⟨by omega, hsU⟩) 0).trans u3
      obtain ⟨_, _, _, _, _, f4, _, _, _, _, f5, _⟩ := cells7 hV4.blk
      have hlX0 : X.cell? ⟨w.heap.size, 0, none⟩ = some (.pointer (some ⟨q, 0, none⟩)) := (cells1 hlX).1
      have hnX0 : X.cell? ⟨w.heap.size + 1, 0, none⟩ = some (.int .i64 ((k : Int) + 1)) := (cells1 hnX).1
      have hwk : IntKind.i64.wrap (k : Int) = (k : Int) := IntWalk.i64_in _ (by omega)
      have Hr := Lib.hid hr
      have HX := Lib.hid hX
      have HvX := Lib.hid hvX
      have HKX := Lib.hid hKX
      clear hr hX hvX hKX hlX hnX hEX hV4 hK4 hb4 hK5 hKU4 u0 u1 u2 u3 S2
      go_upto_region 6 with fail
      rw [HX.out]
      go_wp2_with first
        | (go_at_call 84; refine (Hh.out _).mono ?_; rintro e w2 ⟨ah, ch, rfl, hrow, hB2⟩; have Hrow := Lib.hid hrow; clear hrow)
        | (go_at_call 53; refine (Hr.out w2 ah ch hB2 Hrow.out).mono ?_; rintro e w3 ⟨rfl, hV3, hK3, hl3, hn3, hh3, hs3⟩)
      have hS3 : SegAt w3.drew (.slice av L cv) al.segs := hV3.seg.below ((Below.refl _ _).drew)
      obtain ⟨a', c', w6, hrun, hS4, hg4, hb4⟩ := run_append_seg w3.drew (.slice av L cv) al.segs ((k : Int) + 1) (k + 1) false rfl hS3 (by rw [HL.out]; omega)
      rw [HL.out] at hrun hS4 hb4
      have hrun : (Builtin.append_ #[50, 50] 50 #[.slice av L cv, .slice (some ⟨w3.heap.size, 0, none⟩) 1 1]).run Tryz.prog ((w3.alloc (.cells #[.int .i64 ((k : Int) + 1), .bool false] 89)).drew) = .ok (.slice a' (L + 1) c') w6 := hrun
      have hs2 := hB2.size
      have hs0 := HBU.out.size
      have hsX := HKX.out.size
      have hU4 : Upd (fun g => (Value.slice av L cv).ownBlock = some g) w3 w6 := (((Upd.refl _ w3).drew).alloc _).grown hg4 (fun g hg => Or.inl hg)
      have hq4 := hU4.keep hV3.blk (fun e => (hV3.ownS q e).2 rfl)
      have hl4 := hU4.keep hl3 (fun e => (hV3.ownS _ e).1 (Or.inr ⟨Nat.le_refl _, by omega⟩))
      have hn4 := hU4.keep hn3 (fun e => (hV3.ownS _ e).1 (Or.inr ⟨by omega, hsU⟩))
      have hh4 := hU4.keep hh3 (fun e => by have := HvX.out.seg.lt e; omega)
      obtain ⟨x0, _⟩ := cells1 (w := w3.drew) hl3
      obtain ⟨x1, _⟩ := cells1 (w := w3.drew) hn3
      obtain ⟨x2, _⟩ := cells1 (w := w3.drew) hh3
      obtain ⟨_, _, x3, _⟩ := cells7 (w := w3.drew) hV3.blk
      obtain ⟨y0, _⟩ := cells1 (w := (w3.alloc (.cells #[.int .i64 ((k : Int) + 1), .bool false] 89)).drew) (alloc_old hl3 (.cells #[.int .i64 ((k : Int) + 1), .bool false] 89))
      obtain ⟨y1, _⟩ := cells1 (w := (w3.alloc (.cells #[.int .i64 ((k : Int) + 1), .bool false] 89)).drew) (alloc_old hn3 (.cells #[.int .i64 ((k : Int) + 1), .bool false] 89))
      obtain ⟨y2, _⟩ := cells1 (w := (w3.alloc (.cells #[.int .i64 ((k : Int) + 1), .bool false] 89)).drew) (alloc_old hh3 (.cells #[.int .i64 ((k : Int) + 1), .bool false] 89))
      obtain ⟨_, _, y3, _⟩ := cells7 (w := (w3.alloc (.cells #[.int .i64 ((k : Int) + 1), .bool false] 89)).drew) (alloc_old hV3.blk (.cells #[.int .i64 ((k : Int) + 1), .bool false] 89))
      obtain ⟨z0, _⟩ := cells1 hl4
      obtain ⟨z1, _⟩ := cells1 hn4
      obtain ⟨z2, _⟩ := cells1 hh4
      obtain ⟨q0, q1, q2, q3, q4, q5, q6, g2, g3, g4, g5, g6⟩ := cells7 hq4
      have HV3 := Lib.hid hV3
      have HS4 := Lib.hid hS4
      have Hq4 := Lib.hid hq4
      have Hg4 := Lib.hid hg4
      have Hb4 := Lib.hid hb4
      rw [show (((k + 1 : Nat) : Nat) : Int) = (k : Int) + 1 from rfl] at x1 y1 z1
      clear hV3 hS4 hq4 hg4 hl4 hn4 hh4 hU4 hS3 hl3 hn3 hh3 hb4 n4 f4 f5 hlX0 hnX0
      have hlq : w.heap.size ≠ q := fun e => HvU.out.own (Or.inr ⟨by omega, by omega⟩)
      have hnq : w.heap.size + 1 ≠ q := fun e => HvU.out.own (Or.inr ⟨by omega, by omega⟩)
      have hhq : w2.heap.size ≠ q := fun e => by have := HvX.out.q_lt; omega
      refine wp_region_held_drew (S := AnoS w.heap.size (w.heap.size + 1) w2.heap.size q ((k : Int) + 1) (.slice ah H ch)) (by kernel_rfl) ⟨x0, x1, x2⟩ (fun hHeld => ?_)
      refine wpAnyH_take (i := 0) (v := ?_) rfl (by kernel_rfl) (by kernel_rfl) (by kernel_rfl) (fun _ _ _ h => h) (Or.inl ⟨by rfl, ?_⟩) (by assumption) ?_
      rotate_left
      · (intro wz hSz; obtain ⟨b0, b1, b2⟩ := hSz; go_simp) <;> with_reducible rfl
      simp only [Act.put, List.getElem_toArray, List.getElem_cons_zero, List.getElem_cons_succ, List.setIfInBounds_toArray, List.set_cons_zero, List.set_cons_succ]
      refine wpAnyH_take (i := 1) (v := ?_) rfl (by kernel_rfl) (by kernel_rfl) (by kernel_rfl) (fun _ _ _ h => h) (Or.inl ⟨by rfl, ?_⟩) (by assumption) ?_
      rotate_left
      · (intro wz hSz; obtain ⟨b0, b1, b2⟩ := hSz; go_simp) <;> with_reducible rfl
      simp only [Act.put, List.getElem_toArray, List.getElem_cons_zero, List.getElem_cons_succ, List.setIfInBounds_toArray, List.set_cons_zero, List.set_cons_succ]
      refine wpAnyH_take (i := 2) (v := ?_) rfl (by kernel_rfl) (by kernel_rfl) (by kernel_rfl) (fun _ _ _ h => h) (Or.inl ⟨by rfl, ?_⟩) (by assumption) ?_
      rotate_left
      · (intro wz hSz; obtain ⟨b0, b1, b2⟩ := hSz; go_simp) <;> with_reducible rfl
      simp only [Act.put, List.getElem_toArray, List.getElem_cons_zero, List.getElem_cons_succ, List.setIfInBounds_toArray, List.set_cons_zero, List.set_cons_succ]
      refine wpAnyH_take (i := 3) (v := ?_) rfl (by kernel_rfl) (by kernel_rfl) (by kernel_rfl) (fun _ _ _ h => h) (Or.inl ⟨by rfl, ?_⟩) (by assumption) ?_
      rotate_left
      · (intro wz hSz; obtain ⟨b0, b1, b2⟩ := hSz; go_simp) <;> with_reducible rfl
      simp only [Act.put, List.getElem_toArray, List.getElem_cons_zero, List.getElem_cons_succ, List.setIfInBounds_toArray, List.set_cons_zero, List.set_cons_succ]
      refine wpAnyH_take (i := 4) (v := ?_) rfl (by kernel_rfl) (by kernel_rfl) (by kernel_rfl) (fun _ _ _ h => h) (Or.inl ⟨by rfl, ?_⟩) (by assumption) ?_
      rotate_left
      · (intro wz hSz; obtain ⟨b0, b1, b2⟩ := hSz; go_simp) <;> with_reducible rfl
      simp only [Act.put, List.getElem_toArray, List.getElem_cons_zero, List.getElem_cons_succ, List.setIfInBounds_toArray, List.set_cons_zero, List.set_cons_succ]
      refine wpAnyH_take (i := 5) (v := ?_) rfl (by kernel_rfl) (by kernel_rfl) (by kernel_rfl) (fun _ _ _ h => h) (Or.inl ⟨by rfl, ?_⟩) (by assumption) ?_
      rotate_left
      · (intro wz hSz; obtain ⟨b0, b1, b2⟩ := hSz; go_simp) <;> with_reducible rfl
      simp only [Act.put, List.getElem_toArray, List.getElem_cons_zero, List.getElem_cons_succ, List.setIfInBounds_toArray, List.set_cons_zero, List.set_cons_succ]
      refine wpAnyH_take (i := 7) (v := ?_) rfl (by kernel_rfl) (by kernel_rfl) (by kernel_rfl) (fun _ _ _ h => h) (Or.inl ⟨by rfl, ?_⟩) (by assumption) ?_
      rotate_left
      · (intro wz hSz; obtain ⟨b0, b1, b2⟩ := hSz; go_simp) <;> with_reducible rfl
      simp only [Act.put, List.getElem_toArray, List.getElem_cons_zero, List.getElem_cons_succ, List.setIfInBounds_toArray, List.set_cons_zero, List.set_cons_succ]
      refine wpAnyH_take (i := 8) (v := ?_) rfl (by kernel_rfl) (by kernel_rfl) (by kernel_rfl) (fun _ _ _ h => h) (Or.inl ⟨by rfl, ?_⟩) (by assumption) ?_
      rotate_left
      · (intro wz hSz; obtain ⟨b0, b1, b2⟩ := hSz; go_simp) <;> with_reducible rfl
      simp only [Act.put, List.getElem_toArray, List.getElem_cons_zero, List.getElem_cons_succ, List.setIfInBounds_toArray, List.set_cons_zero, List.set_cons_succ]
      refine wpAnyH_take (i := 11) (v := ?_) rfl (by kernel_rfl) (by kernel_rfl) (by kernel_rfl) (fun _ _ _ h => h) (Or.inl ⟨by rfl, ?_⟩) (by assumption) ?_
      rotate_left
      · (intro wz hSz; obtain ⟨b0, b1, b2⟩ := hSz; go_simp) <;> with_reducible rfl
      simp only [Act.put, List.getElem_toArray, List.getElem_cons_zero, List.getElem_cons_succ, List.setIfInBounds_toArray, List.set_cons_zero, List.set_cons_succ]
      refine wpAnyH_take (i := 12) (v := ?_) rfl (by kernel_rfl) (by kernel_rfl) (by kernel_rfl) (fun _ _ _ h => h) (Or.inl ⟨by rfl, ?_⟩) (by assumption) ?_
      rotate_left
      · (intro wz hSz; obtain ⟨b0, b1, b2⟩ := hSz; go_simp) <;> with_reducible rfl
      simp only [Act.put, List.getElem_toArray, List.getElem_cons_zero, List.getElem_cons_succ, List.setIfInBounds_toArray, List.set_cons_zero, List.set_cons_succ]
      refine wpAnyH_take (i := 13) (v := ?_) rfl (by kernel_rfl) (by kernel_rfl) (by kernel_rfl) (fun _ _ _ h => h) (Or.inl ⟨by rfl, ?_⟩) (by assumption) ?_
      rotate_left
      · (intro wz hSz; obtain ⟨b0, b1, b2⟩ := hSz; go_simp) <;> with_reducible rfl
      simp only [Act.put, List.getElem_toArray, List.getElem_cons_zero, List.getElem_cons_succ, List.setIfInBounds_toArray, List.set_cons_zero, List.set_cons_succ]
      refine wpAnyH_take (i := 14) (v := ?_) rfl (by kernel_rfl) (by kernel_rfl) (by kernel_rfl) (fun _ _ _ h => h) (Or.inl ⟨by rfl, ?_⟩) (by assumption) ?_
      rotate_left
      · (intro wz hSz; obtain ⟨b0, b1, b2⟩ := hSz; go_simp) <;> with_reducible rfl
      simp only [Act.put, List.getElem_toArray, List.getElem_cons_zero, List.getElem_cons_succ, List.setIfInBounds_toArray, List.set_cons_zero, List.set_cons_succ]
      refine wpAnyH_ready (rs := [6, 9]) (by kernel_rfl) (by simp) (AllReadyH.cons rfl (fun K hK => ?_) (AllReadyH.cons rfl (fun K hK => ?_) AllReadyH.nil))
      · go_simp
        refine hK.out _ _ hHeld (fun _ => ?_)
        clear hK K
        refine wpAnyH_ready (rs := [9]) (by kernel_rfl) (by simp) (AllReadyH.cons rfl (fun K hK => ?_) AllReadyH.nil)
        go_simp
        refine hK.out _ _ ⟨y0, y1, y2⟩ (fun hHeld => ?_)
        clear hK K
        refine wpAnyH_ready (rs := [10]) (by kernel_rfl) (by simp) (AllReadyH.cons rfl (fun K hK => ?_) AllReadyH.nil)
        refine step_append_run4 (by rfl) _ _ _ (by rfl) _ _ _ _ (by rfl) (by rfl) _ (by rfl) hrun ?_
        refine hK.out _ _ ⟨z0, z1, z2⟩ (fun hHeld => ?_)
        clear hK K
        refine wpAnyH_take (i := 15) (v := ?_) rfl (by kernel_rfl) (by kernel_rfl) (by kernel_rfl) (fun _ _ _ h => h) (Or.inl ⟨by rfl, ?_⟩) (by assumption) ?_
        rotate_left
        · (intro wz hSz; obtain ⟨b0, b1, b2⟩ := hSz; go_simp) <;> with_reducible rfl
        simp only [Act.put, List.getElem_toArray, List.getElem_cons_zero, List.getElem_cons_succ, List.setIfInBounds_toArray, List.set_cons_zero, List.set_cons_succ]
        refine wpAnyH_take (i := 16) (v := ?_) rfl (by kernel_rfl) (by kernel_rfl) (by kernel_rfl) (fun _ _ _ h => h) (Or.inl ⟨by rfl, ?_⟩) (by assumption) ?_
        rotate_left
        · (intro wz hSz; obtain ⟨b0, b1, b2⟩ := hSz; go_simp) <;> with_reducible rfl
        simp only [Act.put, List.getElem_toArray, List.getElem_cons_zero, List.getElem_cons_succ, List.setIfInBounds_toArray, List.set_cons_zero, List.set_cons_succ]
        refine wpAnyH_ready (rs := [17]) (by kernel_rfl) (by simp) (AllReadyH.cons rfl (fun K hK => ?_) AllReadyH.nil)
        go_simp
        refine hK.out _ _ (AnoS.far hlq hnq hhq _ _ ⟨z0, z1, z2⟩) (fun hHeld => ?_)
        clear hK K
        refine wpAnyH_take (i := 18) (v := ?_) rfl (by kernel_rfl) (by kernel_rfl) (by kernel_rfl) (fun _ _ _ h => h) (Or.inl ⟨by rfl, ?_⟩) (by assumption) ?_
        rotate_left
        · (intro wz hSz; obtain ⟨b0, b1, b2⟩ := hSz; go_simp) <;> with_reducible rfl
        simp only [Act.put, List.getElem_toArray, List.getElem_cons_zero, List.getElem_cons_succ, List.setIfInBounds_toArray, List.set_cons_zero, List.set_cons_succ]
        refine wpAnyH_take (i := 19) (v := ?_) rfl (by kernel_rfl) (by kernel_rfl) (by kernel_rfl) (fun _ _ _ h => h) (Or.inl ⟨by rfl, ?_⟩) (by assumption) ?_
        rotate_left
        · (intro wz hSz; obtain ⟨b0, b1, b2⟩ := hSz; go_simp) <;> with_reducible rfl
        simp only [Act.put, List.getElem_toArray, List.getElem_cons_zero, List.getElem_cons_succ, List.setIfInBounds_toArray, List.set_cons_zero, List.set_cons_succ]
        refine wpAnyH_ready (rs := [20]) (by kernel_rfl) (by simp) (AllReadyH.cons rfl (fun K hK => ?_) AllReadyH.nil)
        go_simp
        refine hK.out _ _ (AnoS.far hlq hnq hhq _ _ (AnoS.far hlq hnq hhq _ _ ⟨z0, z1, z2⟩)) (fun hHeld => ?_)
        clear hK K
        refine wpAnyH_take (i := 21) (v := ?_) rfl (by kernel_rfl) (by kernel_rfl) (by kernel_rfl) (fun _ _ _ h => h) (Or.inl ⟨by rfl, ?_⟩) (by assumption) ?_
        rotate_left
        · (intro wz hSz; obtain ⟨b0, b1, b2⟩ := hSz; go_simp) <;> with_reducible rfl
        simp only [Act.put, List.getElem_toArray, List.getElem_cons_zero, List.getElem_cons_succ, List.setIfInBounds_toArray, List.set_cons_zero, List.set_cons_succ]
        refine wpAnyH_take (i := 22) (v := ?_) rfl (by kernel_rfl) (by kernel_rfl) (by kernel_rfl) (fun _ _ _ h => h) (Or.inl ⟨by rfl, ?_⟩) (by assumption) ?_
        rotate_left
        · (intro wz hSz; obtain ⟨b0, b1, b2⟩ := hSz; go_simp) <;> with_reducible rfl
        simp only [Act.put, List.getElem_toArray, List.getElem_cons_zero, List.getElem_cons_succ, List.setIfInBounds_toArray, List.set_cons_zero, List.set_cons_succ]
        refine wpAnyH_ready (rs := [23]) (by kernel_rfl) (by simp) (AllReadyH.cons rfl (fun K hK => ?_) AllReadyH.nil)
        go_simp
        refine hK.out _ _ (AnoS.far hlq hnq hhq _ _ (AnoS.far hlq hnq hhq _ _ (AnoS.far hlq hnq hhq _ _ ⟨z0, z1, z2⟩))) (fun hHeld => ?_)
        clear hK K
        refine wpAnyH_done (by kernel_rfl) ?_ _
        go_wp2
        go_ret
        obtain ⟨j1, j2⟩ := LogV.appended (al' := { al with segs := al.segs ++ [(k + 1, false)], bytes := H, synced := k }) (w1 := w3.drew.alloc (.cells #[.int .i64 ((k : Int) + 1), .bool false] 89)) HV3.out (((Below.refl _ _).drew).alloc (Nat.le_refl _) _) Hg4.out HS4.out Hb4.out (((setCell_upd (b := q) 2 (.slice a' (L + 1) c')).trans (setCell_upd 4 (.int .i64 (H : Int))) (fun _ hk => Or.inl hk)).trans (setCell_upd 5 (.int .i64 (k : Int))) (fun _ hk => Or.inl hk)) (by rw [setCell_at (setCell_at (setCell_at Hq4.out _ _) _ _) _ _]; rfl)
        rw [Hw.out]
        exact ⟨rfl, ⟨_, j1.mono (fun _ hk => Or.inl hk)⟩, (Keep.ofBelow HBU.out (fun k hk => Hv.out.lt hk)).trans (((HKX.out.trans hK3).trans j2).mono (fun _ hk => Or.inl hk))⟩
      · go_simp
        refine hK.out _ _ ⟨y0, y1, y2⟩ (fun hHeld => ?_)
        clear hK K
        refine wpAnyH_ready (rs := [6]) (by kernel_rfl) (by simp) (AllReadyH.cons rfl (fun K hK => ?_) AllReadyH.nil)
        go_simp
        refine hK.out _ _ hHeld (fun hHeld => ?_)
        clear hK K
        refine wpAnyH_ready (rs := [10]) (by kernel_rfl) (by simp) (AllReadyH.cons rfl (fun K hK => ?_) AllReadyH.nil)
        refine step_append_run4 (by rfl) _ _ _ (by rfl) _ _ _ _ (by rfl) (by rfl) _ (by rfl) hrun ?_
        refine hK.out _ _ ⟨z0, z1, z2⟩ (fun hHeld => ?_)
        clear hK K
        refine wpAnyH_take (i := 15) (v := ?_) rfl (by kernel_rfl) (by kernel_rfl) (by kernel_rfl) (fun _ _ _ h => h) (Or.inl ⟨by rfl, ?_⟩) (by assumption) ?_
        rotate_left
        · (intro wz hSz; obtain ⟨b0, b1, b2⟩ := hSz; go_simp) <;> with_reducible rfl
        simp only [Act.put, List.getElem_toArray, List.getElem_cons_zero, List.getElem_cons_succ, List.setIfInBounds_toArray, List.set_cons_zero, List.set_cons_succ]
        refine wpAnyH_take (i := 16) (v := ?_) rfl (by kernel_rfl) (by kernel_rfl) (by kernel_rfl) (fun _ _ _ h => h) (Or.inl ⟨by rfl, ?_⟩) (by assumption) ?_
        rotate_left
        · (intro wz hSz; obtain ⟨b0, b1, b2⟩ := hSz; go_simp) <;> with_reducible rfl
        simp only [Act.put, List.getElem_toArray, List.getElem_cons_zero, List.getElem_cons_succ, List.setIfInBounds_toArray, List.set_cons_zero, List.set_cons_succ]
        refine wpAnyH_ready (rs := [17]) (by kernel_rfl) (by simp) (AllReadyH.cons rfl (fun K hK => ?_) AllReadyH.nil)
        go_simp
        refine hK.out _ _ (AnoS.far hlq hnq hhq _ _ ⟨z0, z1, z2⟩) (fun hHeld => ?_)
        clear hK K
        refine wpAnyH_take (i := 18) (v := ?_) rfl (by kernel_rfl) (by kernel_rfl) (by kernel_rfl) (fun _ _ _ h => h) (Or.inl ⟨by rfl, ?_⟩) (by assumption) ?_
        rotate_left
        · (intro wz hSz; obtain ⟨b0, b1, b2⟩ := hSz; go_simp) <;> with_reducible rfl
        simp only [Act.put, List.getElem_toArray, List.getElem_cons_zero, List.getElem_cons_succ, List.setIfInBounds_toArray, List.set_cons_zero, List.set_cons_succ]
        refine wpAnyH_take (i := 19) (v := ?_) rfl (by kernel_rfl) (by kernel_rfl) (by kernel_rfl) (fun _ _ _ h => h) (Or.inl ⟨by rfl, ?_⟩) (by assumption) ?_
        rotate_left
        · (intro wz hSz; obtain ⟨b0, b1, b2⟩ := hSz; go_simp) <;> with_reducible rfl
        simp only [Act.put, List.getElem_toArray, List.getElem_cons_zero, List.getElem_cons_succ, List.setIfInBounds_toArray, List.set_cons_zero, List.set_cons_succ]
        refine wpAnyH_ready (rs := [20]) (by kernel_rfl) (by simp) (AllReadyH.cons rfl (fun K hK => ?_) AllReadyH.nil)
        go_simp
        refine hK.out _ _ (AnoS.far hlq hnq hhq _ _ (AnoS.far hlq hnq hhq _ _ ⟨z0, z1, z2⟩)) (fun hHeld => ?_)
        clear hK K
        refine wpAnyH_take (i := 21) (v := ?_) rfl (by kernel_rfl) (by kernel_rfl) (by kernel_rfl) (fun _ _ _ h => h) (Or.inl ⟨by rfl, ?_⟩) (by assumption) ?_
        rotate_left
        · (intro wz hSz; obtain ⟨b0, b1, b2⟩ := hSz; go_simp) <;> with_reducible rfl
        simp only [Act.put, List.getElem_toArray, List.getElem_cons_zero, List.getElem_cons_succ, List.setIfInBounds_toArray, List.set_cons_zero, List.set_cons_succ]
        refine wpAnyH_take (i := 22) (v := ?_) rfl (by kernel_rfl) (by kernel_rfl) (by kernel_rfl) (fun _ _ _ h => h) (Or.inl ⟨by rfl, ?_⟩) (by assumption) ?_
        rotate_left
        · (intro wz hSz; obtain ⟨b0, b1, b2⟩ := hSz; go_simp) <;> with_reducible rfl
        simp only [Act.put, List.getElem_toArray, List.getElem_cons_zero, List.getElem_cons_succ, List.setIfInBounds_toArray, List.set_cons_zero, List.set_cons_succ]
        refine wpAnyH_ready (rs := [23]) (by kernel_rfl) (by simp) (AllReadyH.cons rfl (fun K hK => ?_) AllReadyH.nil)
        go_simp
        refine hK.out _ _ (AnoS.far hlq hnq hhq _ _ (AnoS.far hlq hnq hhq _ _ (AnoS.far hlq hnq hhq _ _ ⟨z0, z1, z2⟩))) (fun hHeld => ?_)
        clear hK K
        refine wpAnyH_done (by kernel_rfl) ?_ _
        go_wp2
        go_ret
        obtain ⟨j1, j2⟩ := LogV.appended (al' := { al with segs := al.segs ++ [(k + 1, false)], bytes := H, synced := k }) (w1 := w3.drew.alloc (.cells #[.int .i64 ((k : Int) + 1), .bool false] 89)) HV3.out (((Below.refl _ _).drew).alloc (Nat.le_refl _) _) Hg4.out HS4.out Hb4.out (((setCell_upd (b := q) 2 (.slice a' (L + 1) c')).trans (setCell_upd 4 (.int .i64 (H : Int))) (fun _ hk => Or.inl hk)).trans (setCell_upd 5 (.int .i64 (k : Int))) (fun _ hk => Or.inl hk)) (by rw [setCell_at (setCell_at (setCell_at Hq4.out _ _) _ _) _ _]; rfl)
        rw [Hw.out]
        exact ⟨rfl, ⟨_, j1.mono (fun _ hk => Or.inl hk)⟩, (Keep.ofBelow HBU.out (fun k hk => Hv.out.lt hk)).trans (((HKX.out.trans hK3).trans j2).mono (fun _ hk => Or.inl hk))⟩
    · have Hw := Lib.hid (HW2.out.trans (if_neg h0))
      have h0b : (er == 0) = false := by simpa using h0
      clear HW2 h0
      go_enter Tryz.func62, Tryz.ntmps62
      go_upto_region 1 with fail
      rw [HU.out]
      go_upto_region 2 with fail
      go_region_held3 (fun w' => w'.cell? ⟨w.heap.size, 0, none⟩ = some (.pointer (some ⟨q, 0, none⟩)) ∧ w'.cell? ⟨q, 0, none⟩ = some (.pointer (some ⟨p, 0, none⟩))) (first | exact ⟨u0, u1⟩ | exact S2 | exact S3 | go_keep)
        (first
          | (go_at_call 57; refine HF.out.mono ?_; rintro e w3 ⟨rfl, hB⟩; have S2 : w3.cell? ⟨w.heap.size, 0, none⟩ = some (.pointer (some ⟨q, 0, none⟩)) ∧ w3.cell? ⟨q, 0, none⟩ = some (.pointer (some ⟨p, 0, none⟩)) := ⟨(hB.cell (p := ⟨w.heap.size, 0, none⟩) (cell_lt u0)).trans u0, (hB.cell (p := ⟨q, 0, none⟩) (cell_lt u1)).trans u1⟩)
          | (go_at_call 43; refine (HSy.out w3 (HvU.out.below (((Below.refl _ _).drew).trans hB))).mono ?_; rintro e w4 ⟨rfl, hV4, hK4, hb4⟩; have S3 : w4.cell? ⟨w.heap.size, 0, none⟩ = some (.pointer (some ⟨q, 0, none⟩)) ∧ w4.cell? ⟨q, 0, none⟩ = some (.pointer (some ⟨p, 0, none⟩)) := ⟨(hK4.cell (Or.inr ⟨Nat.le_refl _, by omega⟩) 0).trans S2.1, (World.cell?_of_block (a := ⟨q, 0, none⟩) hb4).trans S2.2⟩))
      have hKU4 : Keep (fun j => ex j ∨ w.heap.size ≤ j ∧ j < U.heap.size) U w4 := (Keep.ofBelow (((Below.refl _ _).drew).trans hB) (fun k hk => HvU.out.lt hk)).trans hK4
      obtain ⟨X, hX⟩ : ∃ X, w4.setCell ⟨q, 5, none⟩ (.int .i64 (k : Int)) = X := ⟨_, rfl⟩
      obtain ⟨hvX, hK5⟩ := hV4.turned (al' := { al with synced := k }) (setCell_upd 5 (.int .i64 (k : Int))) (setCell_at hV4.blk _ _) rfl
      rw [hX] at hvX hK5
      have hKX := hKU4.trans hK5
      have hlX := (hKX.block _ (Or.inr ⟨Nat.le_refl _, by omega⟩)).trans HlU.out
      have hnX := (hKX.block _ (Or.inr ⟨by omega, hsU⟩)).trans HnU.out
      have hEX := HE.out.keep hKX (HG.out.mono (fun _ hk => Or.inl hk))
      have hr := Hready.out X _ hvX hlX hnX hEX
      have n4 : w4.cell? ⟨w.heap.size + 1, 0, none⟩ = some (.int .i64 ((k : Int) + 1)) := (hKU4.cell (Or.inr ⟨by omega, hsU⟩) 0).trans u3
      obtain ⟨_, _, _, _, _, f4, _, _, _, _, f5, _⟩ := cells7 hV4.blk
      have hlX0 : X.cell? ⟨w.heap.size, 0, none⟩ = some (.pointer (some ⟨q, 0, none⟩)) := (cells1 hlX).1
      have hnX0 : X.cell? ⟨w.heap.size + 1, 0, none⟩ = some (.int .i64 ((k : Int) + 1)) := (cells1 hnX).1
      have hwk : IntKind.i64.wrap (k : Int) = (k : Int) := IntWalk.i64_in _ (by omega)
      have Hr := Lib.hid hr
      have HX := Lib.hid hX
      have HvX := Lib.hid hvX
      have HKX := Lib.hid hKX
      clear hr hX hvX hKX hlX hnX hEX hV4 hK4 hb4 hK5 hKU4 u0 u1 u2 u3 S2
      go_upto_region 6 with fail
      rw [HX.out]
      go_wp2_with first
        | (go_at_call 84; refine (Hh.out _).mono ?_; rintro e w2 ⟨ah, ch, rfl, hrow, hB2⟩; have Hrow := Lib.hid hrow; clear hrow)
        | (go_at_call 53; refine (Hr.out w2 ah ch hB2 Hrow.out).mono ?_; rintro e w3 ⟨rfl, hV3, hK3, hl3, hn3, hh3, hs3⟩)
      go_ret
      rw [Hw.out]
      exact ⟨rfl, ⟨_, hV3.mono (fun _ hk => Or.inl hk)⟩, (Keep.ofBelow HBU.out (fun k hk => Hv.out.lt hk)).trans ((HKX.out.trans hK3).mono (fun _ hk => Or.inl hk))⟩
  · have Hw := Lib.hid (HW.out.trans (if_pos hz))
    have hzb : (es != 0) = true := by simpa using hz
    clear HW hz
    go_enter Tryz.func62, Tryz.ntmps62
    go_upto_region 1 with fail
    rw [HU.out]
    go_upto_region 2 with fail
    go_region_held3 (fun w' => w'.cell? ⟨w.heap.size, 0, none⟩ = some (.pointer (some ⟨q, 0, none⟩)) ∧ w'.cell? ⟨q, 0, none⟩ = some (.pointer (some ⟨p, 0, none⟩))) (first | exact ⟨u0, u1⟩ | exact S2 | exact S3 | go_keep)
      (first
        | (go_at_call 57; refine HF.out.mono ?_; rintro e w3 ⟨rfl, hB⟩; have S2 : w3.cell? ⟨w.heap.size, 0, none⟩ = some (.pointer (some ⟨q, 0, none⟩)) ∧ w3.cell? ⟨q, 0, none⟩ = some (.pointer (some ⟨p, 0, none⟩)) := ⟨(hB.cell (p := ⟨w.heap.size, 0, none⟩) (cell_lt u0)).trans u0, (hB.cell (p := ⟨q, 0, none⟩) (cell_lt u1)).trans u1⟩)
        | (go_at_call 43; refine (HSy.out w3 (HvU.out.below (((Below.refl _ _).drew).trans hB))).mono ?_; rintro e w4 ⟨rfl, hV4, hK4, hb4⟩; have S3 : w4.cell? ⟨w.heap.size, 0, none⟩ = some (.pointer (some ⟨q, 0, none⟩)) ∧ w4.cell? ⟨q, 0, none⟩ = some (.pointer (some ⟨p, 0, none⟩)) := ⟨(hK4.cell (Or.inr ⟨Nat.le_refl _, by omega⟩) 0).trans S2.1, (World.cell?_of_block (a := ⟨q, 0, none⟩) hb4).trans S2.2⟩))
    go_wp2
    go_ret
    rw [Hw.out]
    exact ⟨rfl, ⟨_, hV4.mono (fun _ hk => Or.inl hk)⟩, (Keep.ofBelow HBU.out (fun k hk => Hv.out.lt hk)).trans (((Keep.ofBelow (((Below.refl _ _).drew).trans hB) (fun k hk => HvU.out.lt hk)).trans hK4).mono (fun _ hk => Or.inl hk))⟩
end
end Go.Proofs.YtbiadclmonakkaaGreatDoor

/-
  Append of a journal.
-/
namespace Go.Proofs.YtbiadclmonakkaaGreatDoor
open Go.RowKit Go.Maps Go.MapKept

section
variable {ex : Nat → Prop} {w : World} {q p m : Nat} {d : ADisk} {al : ALog}
/-- bytes are appended to a file. -/
theorem append_file {v : Value} (hv : LogV ex w q p m d al v) (s : ByteArray) (hs : s.size ≤ maxLen) (vb : Value) (b : List UInt8) (hrd : Rd w vb (bcells b)) (hb : b.length ≤ 140737488355328) :
    Calls Tryz.prog 64 #[.pointer (some ⟨p, 0, none⟩), .string s, vb] w fun e w' => e = .returned (.int .i64 (d.appendErr s b)) ∧ LogV ex w' q p m (d.append s b) al v ∧ Keep ex w w' ∧ w'.heap[q]? = w.heap[q]? := by
  refine (Append_at s vb b hv.disk hs hrd hb).mono fun e w' he => ?_
  obtain ⟨e1, e2, e3⟩ := he
  obtain ⟨f1, f2⟩ := hv.disk_turned e2 e3
  exact ⟨e1, f1, f2, e3.block q (Or.inr (Or.inl rfl))⟩
/-- the last segment has a record more. -/
theorem LogV.put {g off c L k : Nat} {pre : List (Nat × Bool)} {x : Nat × Bool} (hv : LogV ex w q p m d al (.slice (some ⟨g, off, none⟩) L c)) (hsg : al.segs = pre ++ [x]) (hk : pre.length = k) (a b : Nat) :
    LogV ex (((w.setCell ⟨g, off + k * 2 + 1, none⟩ (.bool true)).setCell ⟨q, 3, none⟩ (.int .i64 a)).setCell ⟨q, 4, none⟩ (.int .i64 b)) q p m d { al with segs := pre ++ [(x.1, true)], next := a, bytes := b } (.slice (some ⟨g, off, none⟩) L c) ∧
      Keep ex w (((w.setCell ⟨g, off + k * 2 + 1, none⟩ (.bool true)).setCell ⟨q, 3, none⟩ (.int .i64 a)).setCell ⟨q, 4, none⟩ (.int .i64 b)) := by
  subst hk
  have hgq := (hv.ownS g rfl).2
  have hU1 : Upd (fun k => k = g) w (w.setCell ⟨g, off + pre.length * 2 + 1, none⟩ (.bool true)) := setCell_upd _ _
  have hU2 : Upd (fun k => k = q) (w.setCell ⟨g, off + pre.length * 2 + 1, none⟩ (.bool true)) (((w.setCell ⟨g, off + pre.length * 2 + 1, none⟩ (.bool true)).setCell ⟨q, 3, none⟩ (.int .i64 a)).setCell ⟨q, 4, none⟩ (.int .i64 b)) := (setCell_upd 3 _).trans (setCell_upd 4 _) (fun _ hk => Or.inl hk)
  have hU : Upd (fun k => k = g ∨ k = q) w (((w.setCell ⟨g, off + pre.length * 2 + 1, none⟩ (.bool true)).setCell ⟨q, 3, none⟩ (.int .i64 a)).setCell ⟨q, 4, none⟩ (.int .i64 b)) := (hU1.mono (fun _ hk => Or.inl (Or.inl hk))).trans hU2 (fun _ hk => Or.inl (Or.inr hk))
  have hb1 := hU1.keep hv.blk (fun e => hgq e.symm)
  refine ⟨⟨?_, ?_, hv.disk.upd hU (fun k _ hk => ?_), hv.own, hv.ownS⟩, Keep.ofUpd hU (fun k hk => ⟨hv.lt hk, ?_⟩)⟩
  · rw [setCell_at (setCell_at hb1 _ _) _ _]; rfl
  · refine SegAt.upd ?_ hU2 (fun g' hg' e => ?_)
    · have hs := hv.seg
      rw [hsg] at hs
      rcases hs with ⟨h0, _⟩ | ⟨g1, off1, c1, h1, hs⟩
      · cases h0
      · cases h1
        refine Or.inr ⟨g, off, c, ?_, hs.set true⟩
        simp
    · cases hg'; exact hgq e
  · rcases hk with hk | hk
    · subst hk; exact Or.inr (Or.inr rfl)
    · exact Or.inr (Or.inl hk)
  · rintro (e | e)
    · subst e; exact (hv.ownS k rfl).1 hk
    · subst e; exact hv.own hk
theorem set_some4 (pre : List (Nat × Bool)) (x : Nat × Bool) : setSome (pre ++ [x]) = pre ++ [(x.1, true)] := by
  unfold setSome
  simp
set_option maxRecDepth 100000 in
set_option maxHeartbeats 8000000 in
theorem wAppend_bad (n : Int) (vb : Value) (b : List UInt8) (h : LogAt ex w q p m d al) (hn : isI64 n) (hv : Rd w vb (bcells b)) (hb : b.length ≤ 140737488355328) (hok : al.Ok)
    (hbad : al.over = true ∨ n < 1 ∨ 9007199254740992 < n ∨ 1048576 < b.length ∨ (0 < al.next ∧ n ≠ al.next)) :
    Calls Tryz.prog 22 #[.pointer (some ⟨q, 0, none⟩), .int .i64 n, vb] w fun e w' => e = .returned (.int .i64 (wAppend d al n b).2.2) ∧ LogAt ex w' q p m (wAppend d al n b).1 (wAppend d al n b).2.1 ∧ Keep ex w w' := by
  obtain ⟨ab, cb, rfl⟩ := hv.shape
  rw [bcells_length]
  have hup := wup_at h
  obtain ⟨v, hlv⟩ := h
  obtain ⟨c0, c1, c2, c3, c4, c5, c6, f2, f3, f4, f5, f6⟩ := cells7 hlv.blk
  have Hv := Lib.hid hlv
  unfold isI64 at hn
  have hnl := hok.next
  obtain ⟨nb, hnb⟩ : ∃ nb, b.length = nb := ⟨_, rfl⟩
  obtain ⟨nx, hnx⟩ : ∃ nx, al.next = nx := ⟨_, rfl⟩
  have hW : wAppend d al n b = if al.over = true then (d, al, 16) else if n < 1 ∨ 9007199254740992 < n then (d, al, 2) else if 1048576 < nb then (d, al, 3) else if 0 < nx ∧ n ≠ nx then (d, al, 18) else wAppend d al n b := by
    rw [← hnb, ← hnx]
    unfold wAppend
    split
    · rfl
    · split
      · rfl
      · split
        · rfl
        · split
          · rfl
          · rfl
  rw [hnb] at hb hbad ⊢
  rw [hnx] at hnl hbad c3
  have HW := Lib.hid hW
  clear hW hnb hnx hv hlv hok c0 c1 c2 c4 c5 f2 f3 f4 f5 f6
  cases ho : al.over with
  | true =>
    rw [ho] at hup
    have Hw := Lib.hid (HW.out.trans (if_pos ho))
    have Hup := Lib.hid hup
    clear HW ho hup hbad c3 c6
    go_enter Tryz.func22, Tryz.ntmps22
    go_wp2_with (go_at_call 60; refine Hup.out.mono ?_; rintro e w1 ⟨rfl, rfl⟩)
    go_ret
    rw [Hw.out]
    exact ⟨rfl, ⟨_, Hv.out⟩, Keep.refl _ _⟩
  | false =>
    rw [ho] at hup hbad
    have HW2 := Lib.hid (HW.out.trans (if_neg (by simp [ho])))
    have Hup := Lib.hid hup
    clear HW ho hup c6
    by_cases h1 : n < 1 ∨ 9007199254740992 < n
    · have Hw := Lib.hid (HW2.out.trans (if_pos h1))
      clear HW2 hbad c3
      rcases h1 with h1 | h1
      · go_enter Tryz.func22, Tryz.ntmps22
        go_wp2_with (go_at_call 60; refine Hup.out.mono ?_; rintro e w1 ⟨rfl, rfl⟩)
        go_ret
        rw [Hw.out]
        exact ⟨rfl, ⟨_, Hv.out⟩, Keep.refl _ _⟩
      · have h2 : ¬ n < 1 := by omega
        go_enter Tryz.func22, Tryz.ntmps22
        go_wp2_with (go_at_call 60; refine Hup.out.mono ?_; rintro e w1 ⟨rfl, rfl⟩)
        go_ret
        rw [Hw.out]
        exact ⟨rfl, ⟨_, Hv.out⟩, Keep.refl _ _⟩
    · have HW3 := Lib.hid (HW2.out.trans (if_neg h1))
      clear HW2
      have h2 : ¬ n < 1 := fun e => h1 (Or.inl e)
      have h3 : ¬ 9007199254740992 < n := fun e => h1 (Or.inr e)
      by_cases h4 : 1048576 < nb
      · have Hw := Lib.hid (HW3.out.trans (if_pos h4))
        have h5 : (1048576 : Int) < nb := by omega
        clear HW3 hbad c3 h1
        go_enter Tryz.func22, Tryz.ntmps22
        go_wp2_with (go_at_call 60; refine Hup.out.mono ?_; rintro e w1 ⟨rfl, rfl⟩)
        go_ret
        rw [Hw.out]
        exact ⟨rfl, ⟨_, Hv.out⟩, Keep.refl _ _⟩
      · have h5 : ¬ (1048576 : Int) < nb := by omega
        have h6 : 0 < nx ∧ n ≠ nx := by
          rcases hbad with e | e | e | e | e
          · cases e
          · exact absurd e h2
          · exact absurd e h3
          · exact absurd e h4
          · exact e
        have Hw := Lib.hid ((HW3.out.trans (if_neg h4)).trans (if_pos h6))
        have h7 : (0 : Int) < nx := by omega
        have h8 : 0 < nx := h6.1
        have h9 : (n != (nx : Int)) = true := by simpa using h6.2
        clear HW3 hbad h1 h6
        go_enter Tryz.func22, Tryz.ntmps22
        go_wp2_with (go_at_call 60; refine Hup.out.mono ?_; rintro e w1 ⟨rfl, rfl⟩)
        go_ret
        rw [Hw.out]
        exact ⟨rfl, ⟨_, Hv.out⟩, Keep.refl _ _⟩
end
end Go.Proofs.YtbiadclmonakkaaGreatDoor

/-
  Append of a journal, where it is done.
-/
namespace Go.Proofs.YtbiadclmonakkaaGreatDoor
open Go.RowKit Go.Maps Go.MapKept

theorem another_ok {d : ADisk} {al : ALog} {n : Nat} (hok : al.Ok) (hml : al.segs.length ≤ 999) (hn : n ≤ 9007199254740992) : (wAnother d al n).2.1.Ok ∧ ((wAnother d al n).2.2 = 0 → (wAnother d al n).2.1.segs ≠ []) := by
  have h18 := (hd4_len n (by omega)).2
  have hsy := hok.synced
  have key : ∀ (al1 : ALog) (r : ADisk × Int), al1.Ok → al1.segs = al.segs → (if r.2 = 0 then (r.1, { al1 with segs := al1.segs ++ [(n, false)], bytes := (hd4 n).length, synced := n - 1 }, 0) else (r.1, al1, r.2) : ADisk × ALog × Int).2.1.Ok ∧
      ((if r.2 = 0 then (r.1, { al1 with segs := al1.segs ++ [(n, false)], bytes := (hd4 n).length, synced := n - 1 }, 0) else (r.1, al1, r.2) : ADisk × ALog × Int).2.2 = 0 → (if r.2 = 0 then (r.1, { al1 with segs := al1.segs ++ [(n, false)], bytes := (hd4 n).length, synced := n - 1 }, 0) else (r.1, al1, r.2) : ADisk × ALog × Int).2.1.segs ≠ []) := by
    intro al1 r a1 a2
    by_cases h0 : r.2 = 0
    · rw [if_pos h0]
      refine ⟨⟨a1.size, a1.next, by simp only; omega, by simp only; omega, fun x hx => ?_, ?_⟩, fun _ => by simp⟩
      · simp only [List.mem_append, List.mem_singleton] at hx
        rcases hx with hx | rfl
        · exact a1.segs x hx
        · simp only; omega
      · simp only [List.length_append, List.length_cons, List.length_nil, a2]; omega
    · rw [if_neg h0]
      exact ⟨a1, fun e => absurd e h0⟩
  have h1 : (if al.segs = [] then al else { al with synced := n - 1 }).Ok ∧ (if al.segs = [] then al else { al with synced := n - 1 }).segs = al.segs := by
    split
    · exact ⟨hok, rfl⟩
    · exact ⟨⟨hok.size, hok.next, hok.bytes, by simp only; omega, hok.segs, hok.many⟩, rfl⟩
  unfold wAnother
  split
  · rename_i h0
    exact ⟨hok, fun e => absurd e h0.2⟩
  · exact key _ _ h1.1 h1.2
/-- Append behind its checks. -/
def wRest (d : ADisk) (al : ALog) (n : Nat) (b : List UInt8) : ADisk × ALog × Int :=
  if al.needs = true then (if (wAnother d al n).2.2 ≠ 0 then ((wAnother d al n).1, (wAnother d al n).2.1.ends (wAnother d al n).2.2, (wAnother d al n).2.2) else wPut (wAnother d al n).1 (wAnother d al n).2.1 n b) else wPut d al n b
theorem wAppend_rest {d : ADisk} {al : ALog} {n : Nat} {b : List UInt8} (ho : al.over = false) (hn0 : 1 ≤ n) (hn : n ≤ 9007199254740992) (hb : b.length ≤ 1048576) (hx : ¬ (0 < al.next ∧ (n : Int) ≠ al.next)) : wAppend d al n b = wRest d al n b := by
  unfold wAppend wRest
  rw [if_neg (by simp [ho]), if_neg (by omega), if_neg (by omega), if_neg hx]
  simp only [Int.toNat_natCast]
section
variable {ex : Nat → Prop} {w : World} {q p m : Nat} {d : ADisk} {al : ALog}
theorem wanother_at (n : Nat) (h : LogAt ex w q p m d al) (hE : WEnv w) (hG : GlIn ex) (hn0 : 1 ≤ n) (hn : n ≤ 9007199254740992) (hok : al.Ok) :
    Calls Tryz.prog 62 #[.pointer (some ⟨q, 0, none⟩), .int .i64 n] w fun e w' => e = .returned (.int .i64 (wAnother d al n).2.2) ∧ LogAt ex w' q p m (wAnother d al n).1 (wAnother d al n).2.1 ∧ Keep ex w w' := by
  by_cases hs : al.segs = []
  · exact wanother_first n h hE hG hn0 hn hs
  · exact wanother_more n h hE hG hn0 hn hok hs
set_option maxRecDepth 100000 in
set_option maxHeartbeats 8000000 in
theorem wAppend_good (n : Nat) (vb : Value) (b : List UInt8) (h : LogAt ex w q p m d al) (hE : WEnv w) (hG : GlIn ex) (hn0 : 1 ≤ n) (hn : n ≤ 9007199254740992) (hv : ∀ w', Keep ex w w' → Rd w' vb (bcells b)) (hb : b.length ≤ 1048576) (hok : al.Ok) (hml : al.segs.length ≤ 999)
    (ho : al.over = false) (hx : ¬ (0 < al.next ∧ (n : Int) ≠ al.next)) :
    Calls Tryz.prog 22 #[.pointer (some ⟨q, 0, none⟩), .int .i64 n, vb] w fun e w' => e = .returned (.int .i64 (wAppend d al n b).2.2) ∧ LogAt ex w' q p m (wAppend d al n b).1 (wAppend d al n b).2.1 ∧ Keep ex w w' := by
  rw [wAppend_rest ho hn0 hn hb hx]
  obtain ⟨ab, cb, rfl⟩ := (hv w (Keep.refl _ _)).shape
  rw [bcells_length] at hv ⊢
  have hup := wup_at h
  rw [ho] at hup
  obtain ⟨nb, hnb⟩ : ∃ nb, b.length = nb := ⟨_, rfl⟩
  obtain ⟨nx, hnx⟩ : ∃ nx, al.next = nx := ⟨_, rfl⟩
  obtain ⟨v, hlv⟩ := h
  obtain ⟨av, cv, rfl, _⟩ := hlv.seg.shape
  obtain ⟨L, hL⟩ : ∃ L, al.segs.length = L := ⟨_, rfl⟩
  obtain ⟨c0, c1, c2, c3, c4, c5, c6, f2, f3, f4, f5, f6⟩ := cells7 hlv.blk
  have hlt1 : ¬ (n : Int) < 1 := by omega
  have hlt2 : ¬ (9007199254740992 : Int) < n := by omega
  rw [hnb] at hb hv ⊢
  have hlt3 : ¬ (1048576 : Int) < nb := by omega
  have hnl := hok.next
  rw [hnx] at hx c3 hnl
  have hbl := hok.bytes
  have hsl := hok.size
  have Hv := Lib.hid hv
  have Hlv := Lib.hid hlv
  have Hup := Lib.hid hup
  have HE := Lib.hid hE
  have HG := Lib.hid hG
  have Hok := Lib.hid hok
  have Ho := Lib.hid ho
  rw [hL] at hml c2
  have HL := Lib.hid hL
  have Hnb := Lib.hid hnb
  have hnxt : nx = 0 ∨ (n = nx ∧ (0 : Int) < nx ∧ 0 < nx ∧ ((n : Int) != (nx : Int)) = false) := by
    rcases Nat.eq_zero_or_pos nx with e | e
    · exact Or.inl e
    · have : (n : Int) = nx := by
        by_cases h1 : (n : Int) = nx
        · exact h1
        · exact absurd ⟨e, h1⟩ hx
      exact Or.inr ⟨by omega, by omega, e, by simp [this]⟩
  have hlz : ((L : Int) == 0) = decide (L = 0) := by
    by_cases h0 : L = 0
    · subst h0; rfl
    · rw [decide_eq_false h0, beq_eq_false_iff_ne]; omega
  clear hv hlv hup hE hG hok ho hL hnb hnx hx
  rcases hnxt with rfl | ⟨rfl, g1, g2, g3⟩
  all_goals
    go_enter Tryz.func22, Tryz.ntmps22
    go_upto_region 11 with (go_at_call 60; refine Hup.out.mono ?_; rintro e w1 ⟨rfl, rfl⟩)
    go_cut [70] from 47 (fun v wx => v = .bool al.needs ∧ Below w.heap.size w wx)
    case first =>
      rcases List.eq_nil_or_concat al.segs with h0 | ⟨pre, x, hsg⟩
      · have hL0 : L = 0 := by rw [← HL.out, h0]; rfl
        have hneed : al.needs = true := by unfold ALog.needs; rw [h0]; rfl
        have Hneed := Lib.hid hneed
        subst hL0
        clear h0 hneed
        go_quiet (fail)
        go_wp2_with fail
        go_meet
        case rel => exact ⟨by rw [Hneed.out], below_drewN (Below.refl _ _) _⟩
      · rw [List.concat_eq_append] at hsg
        obtain ⟨k, hk⟩ : ∃ k, pre.length = k := ⟨_, rfl⟩
        have hLk : L = k + 1 := by rw [← HL.out, hsg]; simp [hk]
        have hneed : al.needs = (x.2 && decide (al.size ≤ al.bytes)) := by unfold ALog.needs; rw [(al_last hsg).2, hsg]; simp
        have hseg := Hlv.out.seg
        rw [HL.out] at hseg
        have hseg2 := Hlv.out.seg
        rw [hsg] at hseg2
        rcases hseg2 with ⟨h9, h8⟩ | ⟨g, off, c, hav, hs⟩
        · simp at h8
        · obtain ⟨s0, s1, _⟩ := hs.at pre.length (by simp)
          rw [List.getElem_append_right (Nat.le_refl _)] at s1
          simp only [Nat.sub_self, List.getElem_cons_zero, hk] at s1
          obtain ⟨rfl, rfl⟩ : av = some ⟨g, off, none⟩ ∧ cv = c := by cases hav; exact ⟨rfl, rfl⟩
          have hwk : IntKind.i64.wrap (k : Int) = (k : Int) := IntWalk.i64_in _ (by omega)
          have hL1 : (L : Int) - 1 = k := by omega
          have hi0 : (0 : Int) ≤ k := by omega
          have hi1 : (k : Int) < (L : Int) := by omega
          have hLz : ((L : Int) == 0) = false := by rw [beq_eq_false_iff_ne]; omega
          obtain ⟨xb, hxb⟩ : ∃ xb, x.2 = xb := ⟨_, rfl⟩
          obtain ⟨by_, hby⟩ : ∃ y, al.bytes = y := ⟨_, rfl⟩
          obtain ⟨sz, hsz⟩ : ∃ y, al.size = y := ⟨_, rfl⟩
          rw [hxb] at s1 hneed
          rw [hby] at c4 hneed
          rw [hsz] at c1 hneed
          have Hneed := Lib.hid hneed
          clear hneed hseg hs s0 hsg hk hLk hxb hlz hav hby hsz
          cases xb with
          | false =>
            go_quiet (fail)
            go_wp2_with fail
            go_meet
            case rel => exact ⟨by rw [Hneed.out]; rfl, below_drewN (Below.refl _ _) _⟩
          | true =>
            by_cases hge : sz ≤ by_
            · have hge2 : (sz : Int) ≤ by_ := by omega
              go_quiet (fail)
              go_wp2_with fail
              go_meet
              case rel => exact ⟨by rw [Hneed.out, decide_eq_true hge]; rfl, below_drewN (Below.refl _ _) _⟩
            · have hge2 : ¬ (sz : Int) ≤ by_ := by omega
              go_quiet (fail)
              go_wp2_with fail
              go_meet
              case rel => exact ⟨by rw [Hneed.out, decide_eq_false hge]; rfl, below_drewN (Below.refl _ _) _⟩
    case rest =>
      obtain ⟨rfl, hBc⟩ := hcut
      have HLC := Lib.hid (Hlv.out.below hBc)
      have HKC := Lib.hid (Keep.ofBelow hBc (fun k hk => Hlv.out.lt hk))
      have HEC := Lib.hid (HE.out.below hBc)
      obtain ⟨need, hneed⟩ : ∃ y, al.needs = y := ⟨_, rfl⟩
      rw [hneed]
      have Hneed := Lib.hid hneed
      have hAn := wanother_at n ⟨_, HLC.out⟩ HEC.out HG.out hn0 hn Hok.out
      obtain ⟨k1, k2⟩ := another_ok Hok.out (by rw [HL.out]; exact hml) hn
      have hR : wRest d al n b = if need = true then (if (wAnother d al n).2.2 ≠ 0 then ((wAnother d al n).1, (wAnother d al n).2.1.ends (wAnother d al n).2.2, (wAnother d al n).2.2) else wPut (wAnother d al n).1 (wAnother d al n).2.1 n b) else wPut d al n b := by unfold wRest; rw [hneed]
      obtain ⟨er, her⟩ : ∃ er, (wAnother d al n).2.2 = er := ⟨_, rfl⟩
      obtain ⟨d1, hd1⟩ : ∃ y, (wAnother d al n).1 = y := ⟨_, rfl⟩
      obtain ⟨al1, hal1⟩ : ∃ y, (wAnother d al n).2.1 = y := ⟨_, rfl⟩
      rw [her, hd1, hal1] at hR hAn
      rw [her, hal1] at k2
      rw [hal1] at k1
      have hEn := fun wX (hX : LogAt ex wX q p m d1 al1) => wends_at er hX
      have HAn := Lib.hid hAn
      have HR := Lib.hid hR
      have HEn := Lib.hid hEn
      have K1 := Lib.hid k1
      have K2 := Lib.hid k2
      clear hneed hAn hR her hd1 hal1 hBc c0 c1 c2 c4 c5 c6 f2 f3 f4 f5 f6 hEn k1 k2
      go_upto_if 70 with fail
      go_cut [] from 7 (fun wx => ∃ d2 al2, LogAt ex wx q p m d2 al2 ∧ Keep ex w wx ∧ wRest d al n b = wPut d2 al2 n b ∧ al2.segs ≠ [] ∧ al2.Ok)
      case first =>
        cases need with
        | true =>
          by_cases h0 : er = 0
          · subst h0
            have Hr := Lib.hid ((HR.out.trans (if_pos rfl)).trans (if_neg (fun e => e rfl)))
            go_wp2_with (go_at_call 62; refine HAn.out.mono ?_; rintro e w2 ⟨rfl, hL2, hK2⟩)
            go_meet
            case rel => exact ⟨d1, al1, hL2, HKC.out.trans hK2, Hr.out, K2.out (by first | rfl | trivial), K1.out⟩
          · have Hr := Lib.hid ((HR.out.trans (if_pos rfl)).trans (if_pos h0))
            have h0b : (er != 0) = true := by simpa using h0
            clear h0
            go_wp2_with first
              | (go_at_call 62; refine HAn.out.mono ?_; rintro e w2 ⟨rfl, hL2, hK2⟩)
              | (go_at_call 61; refine (HEn.out _ hL2).mono ?_; rintro e w3 ⟨rfl, hL3, hK3⟩)
            go_ret
            rw [Hr.out]
            exact ⟨rfl, hL3, (HKC.out.trans hK2).trans hK3⟩
        | false =>
          have Hr := Lib.hid (HR.out.trans (if_neg (by simp)))
          go_wp2_with fail
          go_meet
          case rel => exact ⟨d, al, ⟨_, HLC.out⟩, HKC.out, Hr.out, fun e => by have := Hneed.out; unfold ALog.needs at this; rw [e] at this; simp at this, Hok.out⟩
      case rest =>
        obtain ⟨d2, al2, hl2, hK2, hr2, hne2, hok2⟩ := hcut
        obtain ⟨v2, hv2⟩ := hl2
        rcases List.eq_nil_or_concat al2.segs with h0 | ⟨pre, x, hsg⟩
        · exact absurd h0 hne2
        rw [List.concat_eq_append] at hsg
        obtain ⟨k, hk⟩ : ∃ k, pre.length = k := ⟨_, rfl⟩
        have hseg2 := hv2.seg
        rw [hsg] at hseg2
        rcases hseg2 with ⟨h9, h8⟩ | ⟨g, off, c2, rfl, hs⟩
        · simp at h8
        obtain ⟨s0, s1, s2, s3⟩ := hs.at pre.length (by simp)
        rw [List.getElem_append_right (Nat.le_refl _)] at s1
        simp only [Nat.sub_self, List.getElem_cons_zero, hk] at s1
        rw [hk] at s3
        obtain ⟨L2, hL2⟩ : ∃ y, (pre ++ [x]).length = y := ⟨_, rfl⟩
        have hLk : L2 = k + 1 := by rw [← hL2]; simp [hk]
        have hml2 := hok2.many
        rw [hsg, hL2] at hml2
        rw [hL2] at hv2
        have hRd := Hv.out wc hK2
        have hEc := HE.out.keep hK2 HG.out
        have hFr := wframe_any wc n _ b (by omega) hRd (by rw [Hnb.out]; exact hb)
        obtain ⟨F, hF⟩ : ∃ F, fr4 n b = F := ⟨_, rfl⟩
        have hFl : F.length ≤ 1048700 := by
          have h1 := wFrame_len sumL_len n b
          have h2 := vint_len (n := n) (k := 10) (by omega) (Nat.lt_of_le_of_lt hn (by decide))
          have h3 : (wBody n b).length = (vint n).length + b.length := by simp [wBody]
          have h4 := vint_len (n := (wBody n b).length) (k := 10) (by omega) (by rw [h3, Hnb.out]; exact Nat.lt_of_le_of_lt (by omega : _ ≤ 1048600) (by decide))
          rw [← hF]
          unfold fr4
          rw [h1, h3, Hnb.out] at *
          omega
        have hfile := fun wX (hX : Below wc.heap.size wc wX) => wfile_at (w := wX) ⟨_, hv2.below hX⟩ (hEc.below hX) hok2 hne2
        have hfz := hok2.file_size
        obtain ⟨s, hfs⟩ : ∃ s, al2.file = s := ⟨_, rfl⟩
        rw [hfs] at hfile hfz
        have hAp := fun wX (hX : LogV ex wX q p m d2 al2 (.slice (some ⟨g, off, none⟩) L2 c2)) vX (hr : Rd wX vX (bcells F)) => append_file hX s hfz vX F hr (by omega)
        obtain ⟨er2, her2⟩ : ∃ e, d2.appendErr s F = e := ⟨_, rfl⟩
        obtain ⟨d3, hd3⟩ : ∃ e, d2.append s F = e := ⟨_, rfl⟩
        obtain ⟨fl, hfl⟩ : ∃ y, F.length = y := ⟨_, rfl⟩
        have hP : wRest d al n b = if er2 ≠ 0 then (d3, al2.ends er2, er2) else (d3, { al2 with segs := pre ++ [(x.1, true)], next := n + 1, bytes := al2.bytes + fl }, 0) := by
          rw [hr2]
          unfold wPut
          rw [hF, hfs, her2, hd3, hfl, hsg, set_some4]
        rw [her2, hd3] at hAp
        rw [hF, hfl] at hFr
        rw [hfl] at hFl
        obtain ⟨b0, b1, b2, b3, b4, b5, b6, j2, j3, j4, j5, j6⟩ := cells7 hv2.blk
        have hEn2 := fun wX (hX : LogAt ex wX q p m d3 al2) => wends_at er2 hX
        have hbb := hok2.bytes
        have HFr := Lib.hid hFr
        have Hfile := Lib.hid hfile
        have HAp := Lib.hid hAp
        have HP := Lib.hid hP
        have Hv2 := Lib.hid hv2
        have HK2 := Lib.hid hK2
        have HEn2 := Lib.hid hEn2
        have Hsg := Lib.hid hsg
        have Hk := Lib.hid hk
        have Hfl := Lib.hid hfl
        have hwk : IntKind.i64.wrap (k : Int) = (k : Int) := IntWalk.i64_in _ (by omega)
        have hL1 : (L2 : Int) - 1 = k := by omega
        have hi0 : (0 : Int) ≤ k := by omega
        have hi1 : (k : Int) < (L2 : Int) := by omega
        obtain ⟨by_, hby⟩ : ∃ y, al2.bytes = y := ⟨_, rfl⟩
        have Hby := Lib.hid hby
        rw [hby] at b4 hbb
        have hltq := cell_lt b0
        have hltg := cell_lt s1
        have hgq : g ≠ q := (hv2.ownS g rfl).2
        clear hFr hfile hAp hP hv2 hK2 hEn2 hs s0 s2 hL2 hLk hsg hk hfl hby hRd hEc hF hfs her2 hd3 hr2 hne2 hok2 hfz b1 b3 b5 b6 hlz c3 j2 j5 j6
        by_cases h0 : er2 = 0
        · subst h0
          have Hr := Lib.hid (HP.out.trans (if_neg (fun e => e rfl)))
          clear HP
          go_upto_region 16 with (go_at_call 63; refine HFr.out.mono ?_; rintro e w5 ⟨af, cf, rfl, hrow5, hB5⟩; have Hrow5 := Lib.hid hrow5; clear hrow5)
          have S1 : w5.cell? ⟨q, 0, none⟩ = some (.pointer (some ⟨p, 0, none⟩)) := (hB5.cell (p := ⟨q, 0, none⟩) hltq).trans b0
          go_region_held3 (fun w' => w'.cell? ⟨q, 0, none⟩ = some (.pointer (some ⟨p, 0, none⟩))) (first | exact S1 | exact S2 | exact S3 | go_keep)
            (first
              | (go_at_call 57; refine (Hfile.out _ hB5.drew).mono ?_; rintro e w6 ⟨rfl, hB6⟩; have S2 : w6.cell? ⟨q, 0, none⟩ = some (.pointer (some ⟨p, 0, none⟩)) := (hB6.cell (p := ⟨q, 0, none⟩) (cell_lt S1)).trans S1)
              | (go_at_call 64; refine (HAp.out w6 (Hv2.out.below (hB5.drew.trans (hB6.mono hB5.size))) _ ((Rd.ofOwns Hrow5.out).below (((Below.refl _ _).drew).trans hB6))).mono ?_; rintro e w7 ⟨rfl, hV7, hK7, hb7⟩; have S3 : w7.cell? ⟨q, 0, none⟩ = some (.pointer (some ⟨p, 0, none⟩)) := (World.cell?_of_block (a := ⟨q, 0, none⟩) hb7).trans S2))
          obtain ⟨y0, y1, y2, y3, y4, y5, y6, z2, z3, z4, z5, z6⟩ := cells7 hV7.blk
          have hs7 := hV7.seg
          rw [Hsg.out] at hs7
          rcases hs7 with ⟨h, _⟩ | ⟨g', off', c', he, hs7⟩
          · cases h
          obtain ⟨rfl, rfl⟩ : g = g' ∧ off = off' := by cases he; exact ⟨rfl, rfl⟩
          obtain ⟨_, t1, _, t3⟩ := hs7.at pre.length (by simp)
          rw [List.getElem_append_right (Nat.le_refl _)] at t1
          simp only [Nat.sub_self, List.getElem_cons_zero, Hk.out] at t1
          rw [Hk.out] at t3
          rw [Hby.out] at y4
          have HV7 := Lib.hid hV7
          have hlt7 := cell_lt t1
          have hltq7 := cell_lt y0
          have hgq2 : q ≠ g := fun e => hgq e.symm
          clear hV7 hs7 he y1 y5 y6 z2 z5 z6 b0 b2 b4 s1 s3 j3 j4 S2 S3
          go_upto_region 19 with fail
          go_region
          all_goals
            go_wp2
            go_ret
            have hr' := Hr.out
            rw [Hby.out] at hr'
            obtain ⟨j1, j2⟩ := HV7.out.put Hsg.out Hk.out (n + 1) (by_ + fl)
            rw [hr']
            exact ⟨rfl, ⟨_, j1.below ((Below.refl _ _).drew)⟩, (((HK2.out.trans (Keep.ofBelow (hB5.drew.trans (hB6.mono hB5.size)) (fun k hk => Hv2.out.lt hk))).trans hK7).trans j2).drew⟩
        · have Hr := Lib.hid (HP.out.trans (if_pos h0))
          have h0b : (er2 != 0) = true := by simpa using h0
          clear HP h0
          go_upto_region 16 with (go_at_call 63; refine HFr.out.mono ?_; rintro e w5 ⟨af, cf, rfl, hrow5, hB5⟩; have Hrow5 := Lib.hid hrow5; clear hrow5)
          have S1 : w5.cell? ⟨q, 0, none⟩ = some (.pointer (some ⟨p, 0, none⟩)) := (hB5.cell (p := ⟨q, 0, none⟩) hltq).trans b0
          go_region_held3 (fun w' => w'.cell? ⟨q, 0, none⟩ = some (.pointer (some ⟨p, 0, none⟩))) (first | exact S1 | exact S2 | exact S3 | go_keep)
            (first
              | (go_at_call 57; refine (Hfile.out _ hB5.drew).mono ?_; rintro e w6 ⟨rfl, hB6⟩; have S2 : w6.cell? ⟨q, 0, none⟩ = some (.pointer (some ⟨p, 0, none⟩)) := (hB6.cell (p := ⟨q, 0, none⟩) (cell_lt S1)).trans S1)
              | (go_at_call 64; refine (HAp.out w6 (Hv2.out.below (hB5.drew.trans (hB6.mono hB5.size))) _ ((Rd.ofOwns Hrow5.out).below (((Below.refl _ _).drew).trans hB6))).mono ?_; rintro e w7 ⟨rfl, hV7, hK7, hb7⟩; have S3 : w7.cell? ⟨q, 0, none⟩ = some (.pointer (some ⟨p, 0, none⟩)) := (World.cell?_of_block (a := ⟨q, 0, none⟩) hb7).trans S2))
          have HV7 := Lib.hid hV7
          clear hV7
          go_wp2_with (go_at_call 61; refine (HEn2.out _ ⟨_, HV7.out⟩).mono ?_; rintro e w8 ⟨rfl, hL8, hK8⟩)
          go_ret
          rw [Hr.out]
          exact ⟨rfl, hL8, ((HK2.out.trans (Keep.ofBelow (hB5.drew.trans (hB6.mono hB5.size)) (fun k hk => Hv2.out.lt hk))).trans hK7).trans hK8⟩
end
end Go.Proofs.YtbiadclmonakkaaGreatDoor

/-
  Append, Files of a journal.
-/
namespace Go.Proofs.YtbiadclmonakkaaGreatDoor
open Go.RowKit Go.Maps Go.MapKept

theorem sCells_app4 (l m : List ByteArray) : sCells (l ++ m) = sCells l ++ sCells m := by simp [sCells]
theorem iCells_app4 (l m : List Int) : iCells (l ++ m) = iCells l ++ iCells m := by simp [iCells]
theorem info_str4 : (Tryz.prog.info? 9).map (fun i => (i.zero, i.size, i.bytes)) = some (some (.string ⟨#[]⟩), 1, 16) := by kernel_rfl
theorem info_int4 : (Tryz.prog.info? 3).map (fun i => (i.zero, i.size, i.bytes)) = some (some (.int .i64 0), 1, 8) := by kernel_rfl
theorem append_str4 {w : World} {ops : Array Oper} {rest : List Oper} {o : Oper} {a : Act} {Q : Exit → Act → World → Prop} (hgd : Region.wanted o (yielded ops a.tmps) = true) (s x : Operand)
    (ho : o.op = .call { callee := .builtin .append, args := #[s, x], argTypes := #[32, 32] })
    (v vx : Value) (l m r : List ByteArray) (n : Nat) (hn : n = l.length) (hlm : l ++ m = r) (hs : a.eval s = v) (hown : w.ownsRow 0 9 1 v n (sCells l)) (hx : a.eval x = vx) (hrd : Rd w vx (sCells m))
    (h63 : l.length + m.length ≤ 1000000)
    (h : ∀ v' w', w'.ownsRow 0 9 1 v' r.length (sCells r) → w.grownBy w' v.ownBlock → (v'.ownBlock = v.ownBlock ∨ ∃ g, v'.ownBlock = some g ∧ w.heap.size ≤ g) → wpList Tryz.prog ops Q rest (a.put o.dst v') w') : wpList Tryz.prog ops Q (o :: rest) a w := by
  subst hlm
  subst hn
  obtain ⟨i0, hi, hz0, hz1, hz2⟩ := info_parts info_str4
  refine wpList_append_rd hgd s x 32 ho 9 i0 (.string ⟨#[]⟩) 16 Tryz.underlying32 hi hz0 hz1 hz2 rfl v vx l.length m.length (sCells l) (sCells m) hs hown hx hrd (by simp [sCells_length]) (fun u hu => by obtain ⟨_, _, rfl⟩ := List.mem_map.1 hu; rfl) (by simp only [maxLen]; omega) (by omega) ?_
  intro v' w' h1 h2 h3 _
  rw [← sCells_app4, ← List.length_append] at h1
  exact h v' w' h1 h2 h3
theorem append_i644 {w : World} {ops : Array Oper} {rest : List Oper} {o : Oper} {a : Act} {Q : Exit → Act → World → Prop} (hgd : Region.wanted o (yielded ops a.tmps) = true) (s x : Operand)
    (ho : o.op = .call { callee := .builtin .append, args := #[s, x], argTypes := #[57, 57] })
    (v vx : Value) (l m r : List Int) (n : Nat) (hn : n = l.length) (hlm : l ++ m = r) (hs : a.eval s = v) (hown : w.ownsRow 0 3 1 v n (iCells l)) (hx : a.eval x = vx) (hrd : Rd w vx (iCells m))
    (h63 : l.length + m.length ≤ 1000000)
    (h : ∀ v' w', w'.ownsRow 0 3 1 v' r.length (iCells r) → w.grownBy w' v.ownBlock → (v'.ownBlock = v.ownBlock ∨ ∃ g, v'.ownBlock = some g ∧ w.heap.size ≤ g) → wpList Tryz.prog ops Q rest (a.put o.dst v') w') : wpList Tryz.prog ops Q (o :: rest) a w := by
  subst hlm
  subst hn
  obtain ⟨i0, hi, hz0, hz1, hz2⟩ := info_parts info_int4
  refine wpList_append_rd hgd s x 57 ho 3 i0 (.int .i64 0) 8 Tryz.underlying57 hi hz0 hz1 hz2 rfl v vx l.length m.length (iCells l) (iCells m) hs hown hx hrd (by simp [iCells_length]) (fun u hu => by obtain ⟨_, _, rfl⟩ := List.mem_map.1 hu; rfl) (by simp only [maxLen]; omega) (by omega) ?_
  intro v' w' h1 h2 h3 _
  rw [← iCells_app4, ← List.length_append] at h1
  exact h v' w' h1 h2 h3

section
variable {ex : Nat → Prop} {w : World} {q p m : Nat} {d : ADisk} {al : ALog}
theorem wAppend_at (n : Int) (vb : Value) (b : List UInt8) (h : LogAt ex w q p m d al) (hE : WEnv w) (hG : GlIn ex) (hn : isI64 n) (hv : ∀ w', Keep ex w w' → Rd w' vb (bcells b)) (hb : b.length ≤ 140737488355328) (hok : al.Ok) (hml : al.segs.length ≤ 999) :
    Calls Tryz.prog 22 #[.pointer (some ⟨q, 0, none⟩), .int .i64 n, vb] w fun e w' => e = .returned (.int .i64 (wAppend d al n b).2.2) ∧ LogAt ex w' q p m (wAppend d al n b).1 (wAppend d al n b).2.1 ∧ Keep ex w w' := by
  by_cases hbad : al.over = true ∨ n < 1 ∨ 9007199254740992 < n ∨ 1048576 < b.length ∨ (0 < al.next ∧ n ≠ al.next)
  · exact wAppend_bad n vb b h hn (hv w (Keep.refl _ _)) hb hok hbad
  · have h1 : al.over = false := by
      cases ho : al.over with
      | true => exact absurd (Or.inl ho) hbad
      | false => rfl
    have h2 : ¬ n < 1 := fun e => hbad (Or.inr (Or.inl e))
    have h3 : ¬ 9007199254740992 < n := fun e => hbad (Or.inr (Or.inr (Or.inl e)))
    have h4 : ¬ 1048576 < b.length := fun e => hbad (Or.inr (Or.inr (Or.inr (Or.inl e))))
    have h5 : ¬ (0 < al.next ∧ n ≠ al.next) := fun e => hbad (Or.inr (Or.inr (Or.inr (Or.inr e))))
    obtain ⟨k, rfl⟩ : ∃ k : Nat, n = k := ⟨n.toNat, by omega⟩
    exact wAppend_good k vb b h hE hG (by omega) (by omega) hv (by omega) hok hml h1 h5
theorem row_str {w : World} {base n : Nat} {v : Value} {xs : List Value} (h : w.ownsRow base 9 1 v n xs) : ∃ a c, v = .slice a n c := by
  obtain ⟨_, ⟨rfl, rfl⟩ | ⟨g, cap, _, rfl, _⟩⟩ := h
  · exact ⟨_, _, rfl⟩
  · exact ⟨_, _, rfl⟩
set_option maxRecDepth 100000 in
set_option maxHeartbeats 4000000 in
theorem wFiles_at (h : LogAt ex w q p m d al) (hE : WEnv w) (hok : al.Ok) :
    Calls Tryz.prog 13 #[.pointer (some ⟨q, 0, none⟩)] w fun e w' => ∃ a c, e = .returned (.slice a al.names.length c) ∧ w'.ownsRow w.heap.size 9 1 (.slice a al.names.length c) al.names.length (sCells al.names) ∧ Below w.heap.size w w' := by
  obtain ⟨v, hv⟩ := h
  obtain ⟨av, cv, rfl, _⟩ := hv.seg.shape
  obtain ⟨_, _, c2, _⟩ := cells7 hv.blk
  obtain ⟨n, hn⟩ : ∃ n, al.segs.length = n := ⟨_, rfl⟩
  have hnn : al.names.length = n := by unfold ALog.names; rw [List.length_map, hn]
  have hml := hok.many
  rw [hnn]
  rw [hn] at c2 hml
  have Hv := Lib.hid hv
  have Hok := Lib.hid hok
  have HE := Lib.hid hE
  have Hn := Lib.hid hn
  have Hnn := Lib.hid hnn
  clear hv hok hE hn hnn
  go_enter Tryz.func13, Tryz.ntmps13
  go_wp2
  go_loopw [3, 13] (fun vo i wr => ∃ (k : Nat) (a : Option Addr) (c : Nat), k ≤ n ∧ i = .int .i64 k ∧ vo = .slice a k c ∧ wr.ownsRow w.heap.size 9 1 (.slice a k c) k (sCells (al.names.take k)) ∧ Below w.heap.size w wr) (fun _ i _ => n - (intOf i).toNat)
  case atStart => exact ⟨0, none, 0, by omega, rfl, rfl, World.ownsRow_nil _ _ _ _, Below.refl _ _⟩
  case round =>
    obtain ⟨k, a, c, hk, rfl, rfl, hrow, hB⟩ := hrel
    have Hrow := Lib.hid hrow
    clear hrow
    by_cases hlt : k < n
    · have hseg := Hv.out.seg
      rcases hseg with ⟨_, h0⟩ | ⟨g, off, c', he, hs⟩
      · rw [← Hn.out, h0] at hlt; simp at hlt
      have hkl : k < al.segs.length := by rw [Hn.out]; exact hlt
      obtain ⟨s0, s1, _⟩ := hs.at k hkl
      obtain rfl : av = some ⟨g, off, none⟩ := by cases he; rfl
      have hx := Hok.out.segs _ (List.getElem_mem hkl)
      have hnk : al.names.take (k + 1) = al.names.take k ++ [wName (al.segs[k]).1] := by
        rw [List.take_succ_eq_append_getElem (by rw [Hnn.out]; exact hlt)]
        simp [ALog.names]
      obtain ⟨f, hf⟩ : ∃ f, (al.segs[k]).1 = f := ⟨_, rfl⟩
      obtain ⟨fb, hfb⟩ : ∃ f, (al.segs[k]).2 = f := ⟨_, rfl⟩
      rw [hf] at s0 hx hnk
      rw [hfb] at s1
      have t0 := (hB.cell (p := ⟨g, off + k * 2, none⟩) (cell_lt s0)).trans s0
      have t1 := (hB.cell (p := ⟨g, off + k * 2 + 1, none⟩) (cell_lt s1)).trans s1
      have hNm := fun wX (hX : WEnv wX) => wname_any wX f hx hX
      obtain ⟨s, hs9⟩ : ∃ s, wName f = s := ⟨_, rfl⟩
      rw [hs9] at hNm hnk
      have HNm := Lib.hid hNm
      have Hnk := Lib.hid hnk
      have hlk : (al.names.take k).length = k := by rw [List.length_take, Hnn.out]; omega
      have hlk1 : (al.names.take (k + 1)).length = k + 1 := by rw [List.length_take, Hnn.out]; omega
      have Hlk := Lib.hid hlk
      have Hlk1 := Lib.hid hlk1
      clear hs s0 s1 he hf hfb hNm hs9 hnk hlk hlk1
      have hEr := HE.out.below hB
      have HEr := Lib.hid hEr
      clear hEr
      go_wp2_with first
        | (go_at_call 45; refine (HNm.out _ (HEr.out.alloc _)).mono ?_; rintro e w1 ⟨rfl, hB1⟩)
        | (at_builtin; refine append_str4 rfl (.tmp 17) (.tmp 21) rfl (.slice a k c) (.slice (some ⟨w1.heap.size, 0, none⟩) 1 1) (al.names.take k) [s] (al.names.take (k + 1)) k Hlk.out.symm Hnk.out.symm rfl (((Upd.refl noFp wr).thenBelow (((((Below.refl _ _).alloc (Nat.le_refl _) _).trans (hB1.mono (by simp)))).alloc (by have := hB1.size; simp at this; omega) _) (Nat.le_refl _)).row (ownsRow_base0 Hrow.out) (fun _ _ h => h)) rfl (Rd_new _ _ _ _ (sCells [s]) _ _ rfl rfl) (by rw [Hlk.out]; simp; omega) ?_; intro v' w2 h1 h2 h3; rw [Hlk1.out] at h1; obtain ⟨a', c', rfl⟩ := row_str h1)
      have hBx : Below wr.heap.size wr (w1.alloc (.cells #[.string s] 9)) := (((Below.refl _ _).alloc (Nat.le_refl _) _).trans (hB1.mono (by simp))).alloc (by have := hB1.size; simp at this; omega) _
      have hU : Upd (fun g => (Value.slice a k c).ownBlock = some g) wr w2 := ((Upd.refl _ wr).thenBelow hBx (Nat.le_refl _)).grown h2 (fun g hg => Or.inl hg)
      have hB2 : Below w.heap.size w w2 := hB.trans (hU.below (fun g hg => row_from Hrow.out hg) hB.size)
      have h4 : w2.ownsRow w.heap.size 9 1 (.slice a' (k + 1) c') (k + 1) (sCells (al.names.take (k + 1))) := by
        refine ownsRow_from h1 (fun g hg => ?_)
        rcases h3 with h3 | ⟨g', h3, hg'⟩
        · exact row_from Hrow.out (h3 ▸ hg)
        · rw [h3] at hg; cases hg; have := hB.size; have := hBx.size; omega
      have H4 := Lib.hid h4
      clear h1 h2 h3 h4 hU hBx
      go_roundw
      case rel => exact ⟨k + 1, a', c', by omega, by go_num, rfl, H4.out, hB2⟩
      case measure => simp [intOf]; omega
    · obtain rfl : k = n := by omega
      go_wp2
      go_ret
      refine ⟨a, c, rfl, ?_, hB⟩
      have := Hrow.out
      rwa [List.take_of_length_le (by rw [Hnn.out]; exact Nat.le_refl _)] at this
end
end Go.Proofs.YtbiadclmonakkaaGreatDoor

/-
  Trim of a journal.
-/
namespace Go.Proofs.YtbiadclmonakkaaGreatDoor
open Go.RowKit Go.Maps Go.MapKept

section
variable {ex : Nat → Prop} {w : World} {q p m : Nat} {d : ADisk} {al : ALog}
theorem remove_file {v : Value} (hv : LogV ex w q p m d al v) (s : ByteArray) (hs : s.size ≤ maxLen) :
    Calls Tryz.prog 55 #[.pointer (some ⟨p, 0, none⟩), .string s] w fun e w' => e = .returned (.int .i64 (d.removeErr s)) ∧ LogV ex w' q p m (d.remove s) al v ∧ Keep (fun k => ex k ∨ k = q ∨ v.ownBlock = some k) w w' := by
  refine (Remove_at s hv.disk hs).mono fun e w' he => ?_
  obtain ⟨e1, e2, e3⟩ := he
  exact ⟨e1, (hv.disk_turned e2 e3).1, e3⟩
theorem LogV.more_upd {ex' fp : Nat → Prop} {w' : World} {v : Value} (h : LogV ex w q p m d al v) (hu : Upd fp w w') (hf : ∀ k, k < w.heap.size → fp k → ex k) (hx : ∀ k, ex' k → ex k ∨ w.heap.size ≤ k ∧ k < w'.heap.size) : LogV ex' w' q p m d al v := by
  refine ⟨(hu.block q h.q_lt (fun e => h.own (hf q h.q_lt e))).trans h.blk, h.seg.upd hu (fun g hg e => (h.ownS g hg).1 (hf g (h.seg.lt hg) e)), h.disk.more_upd4 hu (fun k hk hf' => Or.inl (hf k hk hf')) (fun k hk => ?_), fun e => ?_, fun g hg => ⟨fun e => ?_, (h.ownS g hg).2⟩⟩
  · rcases hk with hk | hk
    · rcases hx k hk with hk | hk
      · exact Or.inl (Or.inl hk)
      · exact Or.inr hk
    · exact Or.inl (Or.inr hk)
  · rcases hx q e with hk | hk
    · exact h.own hk
    · have := h.q_lt; omega
  · rcases hx g e with hk | hk
    · exact (h.ownS g hg).1 hk
    · have := h.seg.lt hg; omega
/-- the first segment is left out. -/
theorem LogV.retail {g off c n : Nat} {x : Nat × Bool} {r : List (Nat × Bool)} (hv : LogV ex w q p m d { al with segs := x :: r } (.slice (some ⟨g, off, none⟩) (n + 1) c)) (hn : r.length = n) :
    LogV ex (w.setCell ⟨q, 2, none⟩ (.slice (some ⟨g, off + 2, none⟩) n (c - 1))) q p m d { al with segs := r } (.slice (some ⟨g, off + 2, none⟩) n (c - 1)) ∧ Keep ex w (w.setCell ⟨q, 2, none⟩ (.slice (some ⟨g, off + 2, none⟩) n (c - 1))) := by
  have hgq := (hv.ownS g rfl).2
  have hU : Upd (· = q) w (w.setCell ⟨q, 2, none⟩ (.slice (some ⟨g, off + 2, none⟩) n (c - 1))) := setCell_upd _ _
  refine ⟨⟨?_, SegAt.upd ?_ hU (fun g' hg' e => by cases hg'; exact hgq e), hv.disk.upd hU (fun k _ hk => Or.inr (Or.inl hk)), hv.own, hv.ownS⟩, Keep.ofUpd hU (fun k hk => ⟨hv.lt hk, fun e => hv.own (e ▸ hk)⟩)⟩
  · rw [setCell_at hv.blk _ _]; rfl
  · have hs := hv.seg
    rcases hs with ⟨h0, _⟩ | ⟨g1, off1, c1, h1, hs⟩
    · cases h0
    · obtain ⟨rfl, rfl, rfl⟩ : g = g1 ∧ off = off1 ∧ c = c1 := by cases h1; exact ⟨rfl, rfl, rfl⟩
      exact Or.inr ⟨g, off + 2, c - 1, by rw [hn], hs.tail⟩
def lenV : Value → Nat
  | .slice _ n _ => n
  | _ => 0
def TrimPost (ex : Nat → Prop) (w : World) (q p m : Nat) (t : ADisk × ALog × List ByteArray × Int) (e : Ending) (w' : World) : Prop :=
  ∃ a c, e = .returned (.tuple #[.slice a t.2.2.1.length c, .int .i64 t.2.2.2]) ∧ w'.ownsRow w.heap.size 9 1 (.slice a t.2.2.1.length c) t.2.2.1.length (sCells t.2.2.1) ∧ LogAt (fun j => ex j ∨ (Value.slice a t.2.2.1.length c).ownBlock = some j) w' q p m t.1 t.2.1 ∧ Keep ex w w'
set_option maxRecDepth 100000 in
set_option maxHeartbeats 8000000 in
theorem wTrim_at (below : Int) (h : LogAt ex w q p m d al) (hE : WEnv w) (hG : GlIn ex) (_hb : isI64 below) (hok : al.Ok) :
    Calls Tryz.prog 19 #[.pointer (some ⟨q, 0, none⟩), .int .i64 below] w (TrimPost ex w q p m (wTrim d al below)) := by
  have hup := wup_at h
  cases ho : al.over with
  | true =>
    have hW : wTrim d al below = (d, al, [], 16) := by unfold wTrim; rw [if_pos ho]
    rw [ho] at hup
    rw [hW]
    have H := Lib.hid h
    have Hup := Lib.hid hup
    clear hW ho hup h hE hG hok
    go_enter Tryz.func19, Tryz.ntmps19
    go_wp2_with (go_at_call 60; refine Hup.out.mono ?_; rintro e w1 ⟨rfl, rfl⟩)
    go_ret2
    exact ⟨none, 0, rfl, World.ownsRow_nil _ _ _ _, H.out.mono (fun _ hk => hk.elim (fun h => h) (fun h => by cases h)), Keep.refl _ _⟩
  | false =>
    have hW : wTrim d al below = wTrimL d al below al.segs := by unfold wTrim; rw [if_neg (by simp [ho])]
    rw [ho] at hup
    rw [hW]
    have H := Lib.hid h
    have Hup := Lib.hid hup
    have HE := Lib.hid hE
    have HG := Lib.hid hG
    have Hok := Lib.hid hok
    clear hW ho hup h hE hG hok
    go_enter Tryz.func19, Tryz.ntmps19
    go_wp2_with (go_at_call 60; refine Hup.out.mono ?_; rintro e w1 ⟨rfl, rfl⟩)
    go_loopw [7] (fun vo wr => ∃ (rest : List (Nat × Bool)) (d' : ADisk) (dn : List ByteArray) (k : Nat) (a : Option Addr) (c : Nat), dn.length = k ∧ vo = .slice a k c ∧ wr.ownsRow w.heap.size 9 1 (.slice a k c) k (sCells dn) ∧ LogAt (fun j => ex j ∨ (Value.slice a k c).ownBlock = some j) wr q p m d' { al with segs := rest } ∧ Keep ex w wr ∧
        wTrimL d al below al.segs = ((wTrimL d' al below rest).1, (wTrimL d' al below rest).2.1, dn ++ (wTrimL d' al below rest).2.2.1, (wTrimL d' al below rest).2.2.2) ∧ k + rest.length ≤ 1000 ∧ ∀ x ∈ rest, x.1 ≤ 9007199254740993) (fun vo _ => 1000 - lenV vo)
    case atStart => exact ⟨al.segs, d, [], 0, none, 0, rfl, rfl, World.ownsRow_nil _ _ _ _, H.out.mono (fun k hk => hk.elim (fun h => h) (fun h => by cases h)), Keep.refl _ _, rfl, by have := Hok.out.many; omega, Hok.out.segs⟩
    case round =>
      obtain ⟨rest, d', dn, k, a, c, hk, rfl, hrow, hL, hK, heq, hlen, hbd⟩ := hrel
      obtain ⟨v, hv⟩ := hL
      have Hrow := Lib.hid hrow
      have HK := Lib.hid hK
      have Heq := Lib.hid heq
      have Hbd := Lib.hid hbd
      have Hk := Lib.hid hk
      have Hv := Lib.hid hv
      -- the loop ends
      have hend : wTrimL d' al below rest = (d', { al with segs := rest }, [], 0) → ∀ wx, Below wr.heap.size wr wx → TrimPost ex w q p m (wTrimL d al below al.segs) (.returned (.tuple #[.slice a k c, .int .i64 0])) wx := by
        intro h0 wx hx
        rw [Heq.out, h0]
        simp only [List.append_nil]
        refine ⟨a, c, by rw [Hk.out], ?_, ⟨v, (Hv.out.below hx).mono (fun j hj => hj.imp id (fun (e : (Value.slice a dn.length c).ownBlock = some j) => by rw [Hk.out] at e; exact e))⟩, HK.out.trans (Keep.ofBelow hx (fun j hj => Hv.out.lt (Or.inl hj)))⟩
        rw [Hk.out]
        exact ((Upd.refl noFp wr).thenBelow hx (Nat.le_refl _)).row Hrow.out (fun _ _ h => h)
      have Hend := Lib.hid hend
      obtain ⟨b0, b1, b2, b3, b4, b5, b6, f2, _⟩ := cells7 hv.blk
      have hlq := hv.q_lt
      rcases hv.seg with ⟨rfl, h0⟩ | ⟨g, off, c2, rfl, hs⟩
      · have h0 : rest = [] := h0
        subst h0
        have He := Lib.hid (Hend.out rfl)
        clear hrow hK heq hbd hv hend Hend Hk b1 b3 b4 b5 b6 f2 hk
        go_wp2
        go_ret2
        exact He.out _ (Below.refl _ _)
      · have hs : SegIs wr g off c2 rest := hs
        replace b2 : wr.cell? ⟨q, 2, none⟩ = some (.slice (some ⟨g, off, none⟩) rest.length c2) := b2
        rcases rest with _ | ⟨x, _ | ⟨y, r⟩⟩
        · replace b2 : wr.cell? ⟨q, 2, none⟩ = some (.slice (some ⟨g, off, none⟩) 0 c2) := b2
          have He := Lib.hid (Hend.out rfl)
          clear hrow hK heq hbd hv hend Hend Hk b1 b3 b4 b5 b6 f2 hk
          go_wp2
          go_ret2
          exact He.out _ (Below.refl _ _)
        · replace b2 : wr.cell? ⟨q, 2, none⟩ = some (.slice (some ⟨g, off, none⟩) 1 c2) := b2
          have He := Lib.hid (Hend.out rfl)
          clear hrow hK heq hbd hv hend Hend Hk b1 b3 b4 b5 b6 f2 hk
          go_wp2
          go_ret2
          exact He.out _ (Below.refl _ _)
        · obtain ⟨L, hL⟩ : ∃ L, r.length + 2 = L := ⟨_, rfl⟩
          replace b2 : wr.cell? ⟨q, 2, none⟩ = some (.slice (some ⟨g, off, none⟩) L c2) := by rw [← hL]; exact b2
          obtain ⟨sx, _⟩ := hs.at 0 (by simp)
          obtain ⟨sy, _⟩ := hs.at 1 (by simp)
          obtain ⟨fx, hfx⟩ : ∃ f, x.1 = f := ⟨_, rfl⟩
          obtain ⟨fy, hfy⟩ : ∃ f, y.1 = f := ⟨_, rfl⟩
          replace sx : wr.cell? ⟨g, off, none⟩ = some (.int .i64 fx) := by rw [← hfx]; exact sx
          replace sy : wr.cell? ⟨g, off + 2, none⟩ = some (.int .i64 fy) := by rw [← hfy]; exact sy
          have hrm := hs.room
          have hlen1 : r.length + 2 + k ≤ 1000 := by simp only [List.length_cons] at hlen; omega
          have hL1 : (1 : Int) < L := by omega
          have hL0 : (0 : Int) < L := by omega
          have hLn1 : 1 < L := by omega
          have hLn0 : 0 < L := by omega
          simp only [List.length_cons] at hrm
          by_cases hle : (fy : Int) ≤ below
          · have hEr := HE.out.keep hK HG.out
            have hxb := hbd x (by simp)
            rw [hfx] at hxb
            have hNm := wname_any wr fx hxb hEr
            have hsz := wName_len hxb
            obtain ⟨s, hs9⟩ : ∃ s, wName fx = s := ⟨_, rfl⟩
            rw [hs9] at hNm hsz
            obtain ⟨er, her⟩ : ∃ e, d'.removeErr s = e := ⟨_, rfl⟩
            obtain ⟨d2, hd2⟩ : ∃ e, d'.remove s = e := ⟨_, rfl⟩
            have hTL : wTrimL d' al below (x :: y :: r) = if er ≠ 0 then (d2, { al with segs := x :: y :: r, over := true }, [], er) else ((wTrimL d2 al below (y :: r)).1, (wTrimL d2 al below (y :: r)).2.1, s :: (wTrimL d2 al below (y :: r)).2.2.1, (wTrimL d2 al below (y :: r)).2.2.2) := by
              rw [wTrimL, hfy, if_pos hle, hfx, hs9, her, hd2]
            have hRm := fun wX (hX : LogV (fun j => ex j ∨ (Value.slice a k c).ownBlock = some j) wX q p m d' { al with segs := x :: y :: r } (.slice (some ⟨g, off, none⟩) (y :: r).length.succ c2)) => remove_file hX s (Nat.le_trans hsz (by decide))
            rw [her, hd2] at hRm
            have hEn := fun wX (hX : LogAt (fun j => ex j ∨ (Value.slice a k c).ownBlock = some j) wX q p m d2 { al with segs := x :: y :: r }) => wends_at er hX
            have HNm := Lib.hid hNm
            have HTL := Lib.hid hTL
            have HRm := Lib.hid hRm
            have HEn := Lib.hid hEn
            have HL := Lib.hid hL
            have Hbd2 := Lib.hid hbd
            have hcap : L ≤ c2 := by omega
            have b0' : wr.cell? ⟨q, 0, none⟩ = some (.pointer (some ⟨p, 0, none⟩)) := b0
            clear hrow hK heq hbd hend Hend b1 b3 b4 b5 b6 f2 hs hNm hTL hRm hEn hEr hxb hsz hs9 her hd2 hfx hfy hL hrm hlen b0
            by_cases hz : er = 0
            · subst hz
              have HT := Lib.hid (HTL.out.trans (if_neg (fun e => e rfl)))
              clear HTL
              go_upto_region 10 with first
                | (go_at_call 45; refine HNm.out.mono ?_; rintro e w1 ⟨rfl, hB1⟩; have S1 : w1.cell? ⟨q, 0, none⟩ = some (.pointer (some ⟨p, 0, none⟩)) := (hB1.cell (p := ⟨q, 0, none⟩) hlq).trans b0')
                | (go_at_call 55; refine (HRm.out w1 (Hv.out.below hB1)).mono ?_; rintro e w2 ⟨rfl, hV2, hK2⟩)
              have hrow2 : w2.ownsRow w.heap.size 9 1 (.slice a k c) k (sCells dn) := hK2.row (((Upd.refl noFp wr).thenBelow hB1 (Nat.le_refl _)).row Hrow.out (fun _ _ h => h)) (fun g hg => Or.inl (Or.inr hg))
              have HR2 := Lib.hid hrow2
              have HV2 := Lib.hid hV2
              have HKr2 : Hid (Keep (fun j => ex j ∨ (Value.slice a k c).ownBlock = some j) wr w2) := Lib.hid ((Keep.ofBelow hB1 (fun j hj => Hv.out.lt hj)).trans (hK2.mono (fun j hj => Or.inl hj)))
              clear hrow2 hV2 hK2 hlq
              go_upto_region 11 with (at_builtin; refine append_str4 rfl (.tmp 52) (.tmp 54) rfl (.slice a k c) (.slice (some ⟨w2.heap.size, 0, none⟩) 1 1) dn [s] (dn ++ [s]) k Hk.out.symm rfl rfl (((Upd.refl noFp w2).alloc _).row (ownsRow_base0 HR2.out) (fun _ _ h => h)) rfl (Rd_new _ _ _ _ (sCells [s]) _ _ rfl rfl) (by rw [Hk.out]; simp; omega) ?_; intro v' w4 h1 h2 h3)
              have hl1 : (dn ++ [s]).length = k + 1 := by rw [List.length_append, Hk.out]; rfl
              rw [hl1] at h1
              obtain ⟨a', c', rfl⟩ := row_str h1
              have hU : Upd (fun g => (Value.slice a k c).ownBlock = some g) w2 w4 := ((Upd.refl _ w2).alloc _).grown h2 (fun g hg => Or.inl hg)
              have hs24 := hU.size
              have hsr2 := HKr2.out.size
              have hswr := HK.out.size
              have h4 : w4.ownsRow w.heap.size 9 1 (.slice a' (k + 1) c') (k + 1) (sCells (dn ++ [s])) := by
                refine ownsRow_from h1 (fun g hg => ?_)
                rcases h3 with h3 | ⟨g', h3, hg'⟩
                · exact row_from HR2.out (h3 ▸ hg)
                · rw [h3] at hg; cases hg; simp at hg'; omega
              have hV4 : LogV (fun j => ex j ∨ (Value.slice a' (k + 1) c').ownBlock = some j) w4 q p m d2 { al with segs := x :: y :: r } (.slice (some ⟨g, off, none⟩) (y :: r).length.succ c2) := by
                refine HV2.out.more_upd hU (fun j _ hj => Or.inr hj) (fun j hj => ?_)
                rcases hj with hj | hj
                · exact Or.inl (Or.inl hj)
                · rcases h3 with h3 | ⟨g', h3, hg'⟩
                  · exact Or.inl (Or.inr (h3 ▸ hj))
                  · refine Or.inr ⟨?_, row_lt h1 hj⟩
                    rw [h3] at hj; cases hj; simp at hg'; omega
              have hKx : Keep ex wr w4 := (HKr2.out.mono (fun j hj => Or.inl hj)).trans (Keep.ofUpd hU (fun j hj => ⟨HV2.out.lt (Or.inl hj), fun e => (by have h5 := row_from HR2.out e; have h6 := H.out.lt hj; omega)⟩))
              obtain ⟨_, _, y2, _, _, _, _, y9, _⟩ := cells7 hV4.blk
              have y2 : w4.cell? ⟨q, 2, none⟩ = some (.slice (some ⟨g, off, none⟩) L c2) := by rw [← HL.out]; exact y2
              have HV4 := Lib.hid hV4
              have H4 := Lib.hid h4
              clear h1 h2 h3 h4 hV4 hU sx sy b2
              obtain ⟨j1, j2⟩ := LogV.retail (x := x) (r := y :: r) HV4.out rfl
              have J1 := Lib.hid j1
              have J2 := Lib.hid j2
              have Hrow4 : Hid ((w4.setCell ⟨q, 2, none⟩ (.slice (some ⟨g, off + 2, none⟩) (r.length + 1) (c2 - 1))).ownsRow w.heap.size 9 1 (.slice a' (k + 1) c') (k + 1) (sCells (dn ++ [s]))) := Lib.hid ((setCell_upd (b := q) 2 (.slice (some ⟨g, off + 2, none⟩) (r.length + 1) (c2 - 1))).row H4.out (fun g' hg' e => HV4.out.own (Or.inr (e ▸ hg'))))
              have HKx := Lib.hid hKx
              have Hl1 := Lib.hid hl1
              clear j1 j2 hKx hl1
              go_wp2
              go_roundw
              case rel =>
                refine ⟨y :: r, d2, dn ++ [s], k + 1, a', c', Hl1.out, rfl, Hrow4.out, ⟨_, J1.out⟩, (HK.out.trans HKx.out).trans (J2.out.mono (fun j hj => Or.inl hj)), ?_, by simp only [List.length_cons]; omega, fun x hx => Hbd2.out x (List.mem_cons_of_mem _ hx)⟩
                rw [Heq.out, HT.out]
                simp only [List.append_assoc, List.singleton_append]
              case measure => simp only [lenV]; omega
            · have HT := Lib.hid (HTL.out.trans (if_pos hz))
              have hzb : (er != 0) = true := by simpa using hz
              clear HTL hz
              go_wp2_with first
                | (go_at_call 45; refine HNm.out.mono ?_; rintro e w1 ⟨rfl, hB1⟩; have S1 : w1.cell? ⟨q, 0, none⟩ = some (.pointer (some ⟨p, 0, none⟩)) := (hB1.cell (p := ⟨q, 0, none⟩) hlq).trans b0')
                | (go_at_call 55; refine (HRm.out w1 (Hv.out.below hB1)).mono ?_; rintro e w2 ⟨rfl, hV2, hK2⟩)
                | (go_at_call 61; refine (HEn.out w2 ⟨_, hV2⟩).mono ?_; rintro e w3 ⟨rfl, hL3, hK3⟩)
              go_ret2
              have hdec : ALog.ends { al with segs := x :: y :: r } er = { al with segs := x :: y :: r, over := true } := by
                unfold ALog.ends
                rw [decide_eq_true (by simpa using hzb)]
              rw [hdec] at hL3
              rw [Heq.out, HT.out]
              simp only [List.append_nil]
              refine ⟨a, c, by rw [Hk.out]; rfl, ?_, hL3.mono (fun j hj => hj.imp id (fun (e : (Value.slice a dn.length c).ownBlock = some j) => by rw [Hk.out] at e; exact e)), ((HK.out.trans (Keep.ofBelow hB1 (fun j hj => Hv.out.lt (Or.inl hj)))).trans (hK2.mono (fun j hj => Or.inl (Or.inl hj)))).trans (hK3.mono (fun j hj => Or.inl hj))⟩
              rw [Hk.out]
              exact hK3.row (hK2.row (((Upd.refl noFp wr).thenBelow hB1 (Nat.le_refl _)).row Hrow.out (fun _ _ h => h)) (fun g hg => Or.inl (Or.inr hg))) (fun g hg => Or.inr hg)
          · have He := Lib.hid (Hend.out (by unfold wTrimL; rw [hfy, if_neg hle]))
            clear hrow hK heq hbd hv hend Hend Hk b1 b3 b4 b5 b6 f2 hk hs sx hfx hfy hL hrm hlen1 hlen
            go_wp2
            go_ret2
            exact He.out _ (Below.refl _ _)
end
end Go.Proofs.YtbiadclmonakkaaGreatDoor
