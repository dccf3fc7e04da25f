/-
  The three steps of Open, as closures; what runs them.
-/
import Derived.Outline
import Derived.BigQuiet
import Derived.Deep.QuietTactic
import Derived.Deep.RegionHeld3
import Derived.Test.YtbiadclmonakkaaGreatDoorMWmB
import Derived.Test.YtbiadclmonakkaaGreatDoorMWmE
import Derived.Test.YtbiadclmonakkaaGreatDoorMWlA
namespace Go.Proofs.YtbiadclmonakkaaGreatDoor
open Go.RowKit Go.Maps Go.MapKept

def AFound.raw (f : AFound) (size : Nat) : ALog := ⟨size, f.segs, f.next, f.bytes, 0, false⟩
theorem FOk.raw {f : AFound} (h : FOk f) {size : Nat} (hs : size ≤ 16777216) : (f.raw size).Ok := ⟨hs, h.next, h.bytes, Nat.zero_le _, h.segs, h.many⟩
section
variable {ex : Nat → Prop} {w : World} {q p m : Nat} {d : ADisk}
/-- the boxes that the steps share. -/
structure OpBox (ex : Nat → Prop) (w : World) (q p bf bl bd size : Nat) (f : AFound) (vs vr : Value) : Prop where
  cl : w.cell? ⟨bl, 0, none⟩ = some (.pointer (some ⟨q, 0, none⟩))
  cd : w.cell? ⟨bd, 0, none⟩ = some (.pointer (some ⟨p, 0, none⟩))
  fb : w.heap[bf]? = some (.cells #[.pointer (some ⟨q, 0, none⟩), vr, .int .i64 f.none, .int .i64 f.good] 100 (0, 0))
  log : w.heap[q]? = some (.cells (logCells p (f.raw size) vs) 52 (0, 0))
  seg : SegAt w vs f.segs
  xl : ex bl
  xd : ex bd
  xf : ex bf
  xq : ex q
  xs : ∀ g, vs.ownBlock = some g → ex g ∧ g ≠ q
  gl : GlIn ex
  env : WEnv w
  ok : FOk f
  sz : size ≤ 16777216
namespace OpBox
variable {w' : World} {bf bl bd size : Nat} {f : AFound} {vs vr : Value}
theorem keep (h : OpBox ex w q p bf bl bd size f vs vr) (hk : Keep ex w w') : OpBox ex w' q p bf bl bd size f vs vr :=
  ⟨(hk.cell h.xl 0).trans h.cl, (hk.cell h.xd 0).trans h.cd, (hk.block _ h.xf).trans h.fb, (hk.block _ h.xq).trans h.log, h.seg.keep hk (fun g hg => (h.xs g hg).1), h.xl, h.xd, h.xf, h.xq, h.xs, h.gl, h.env.keep hk h.gl, h.ok, h.sz⟩
theorem logAt (h : OpBox ex w q p bf bl bd size f vs vr) (hD : DiskAt ex w p m d) : LogAt (fun _ => False) w q p m d (f.raw size) :=
  ⟨vs, h.log, h.seg, hD.mono (fun k hk => hk.elim False.elim (fun hk => hk.elim (fun e => e ▸ h.xq) (fun e => (h.xs k e).1))), fun e => e, fun g hg => ⟨fun e => e, (h.xs g hg).2⟩⟩
end OpBox
theorem cells4O {w : World} {b : Nat} {x y z u : Value} {T : TypeId} (h : w.heap[b]? = some (.cells #[x, y, z, u] T (0, 0))) : w.cell? ⟨b, 0, none⟩ = some x ∧ w.cell? ⟨b, 1, none⟩ = some y ∧ w.cell? ⟨b, 2, none⟩ = some z ∧ w.cell? ⟨b, 3, none⟩ = some u := by
  obtain ⟨a, b, c, d, _⟩ := cells4 h
  exact ⟨a, b, c, d⟩

set_option maxRecDepth 100000 in
set_option maxHeartbeats 2000000 in
theorem wopen1_at {bf bl bd size : Nat} {f : AFound} {vs vr : Value} (h : DiskAt ex w p m d) (hb : OpBox ex w q p bf bl bd size f vs vr) :
    Calls Tryz.prog 54 #[.pointer (some ⟨bf, 0, none⟩), .pointer (some ⟨bd, 0, none⟩)] w fun e w' => e = .returned (.int .i64 (opE1 d f)) ∧ DiskAt ex w' p m (opD1 d f) ∧ Keep ex w w' := by
  have k1 := hb.cd
  obtain ⟨_, _, k2, _⟩ := cells4O hb.fb
  have hno := hb.ok.none
  by_cases hz : f.none = 0
  · have e1 : opE1 d f = 0 := by unfold opE1; rw [if_pos hz]
    have e2 : opD1 d f = d := by unfold opD1; rw [if_pos hz]
    rw [e1, e2]
    rw [hz] at k2
    clear hb hno hz e1 e2
    go_enter Tryz.func54, Tryz.ntmps54
    go_wp2
    go_ret
    exact ⟨rfl, h, Keep.refl _ _⟩
  · have e1 : opE1 d f = d.removeErr (wName f.none) := by unfold opE1; rw [if_neg hz]
    have e2 : opD1 d f = d.remove (wName f.none) := by unfold opD1; rw [if_neg hz]
    rw [e1, e2]
    have hn := wname_any w.drew f.none hno hb.env.drew
    have hs := wName_len hno
    have hzb : ((f.none : Int) == 0) = false := by rw [beq_eq_false_iff_ne]; omega
    generalize wName f.none = s at hn hs ⊢
    generalize f.none = n at hn k2 hzb
    have hR := fun wX (hX : DiskAt ex wX p m d) => Remove_at s hX (Nat.le_trans hs (by decide))
    have HR := Lib.hid hR
    have Hn := Lib.hid hn
    have Hb := Lib.hid hb
    clear hR hn hb hs e1 e2 hno hz
    go_enter Tryz.func54, Tryz.ntmps54
    go_wp2
    go_region_held3 (fun w' => w'.cell? ⟨bd, 0, none⟩ = some (.pointer (some ⟨p, 0, none⟩)) ∧ w'.cell? ⟨bf, 2, none⟩ = some (.int .i64 n)) (first | exact ⟨k1, k2⟩ | exact S2 | exact S3 | go_keep)
      (first
        | (go_at_call 45; refine Hn.out.mono ?_; rintro e w1 ⟨rfl, hB⟩; have S2 : w1.cell? ⟨bd, 0, none⟩ = some (.pointer (some ⟨p, 0, none⟩)) ∧ w1.cell? ⟨bf, 2, none⟩ = some (.int .i64 n) := ⟨(hB.cell (p := ⟨bd, 0, none⟩) (cell_lt k1)).trans k1, (hB.cell (p := ⟨bf, 2, none⟩) (cell_lt k2)).trans k2⟩)
        | (go_at_call 55; refine (HR.out w1 (h.below (((Below.refl _ _).drew).trans hB))).mono ?_; rintro e w2 ⟨rfl, hD, hK⟩; have S3 : w2.cell? ⟨bd, 0, none⟩ = some (.pointer (some ⟨p, 0, none⟩)) ∧ w2.cell? ⟨bf, 2, none⟩ = some (.int .i64 n) := ⟨(hK.cell Hb.out.xd 0).trans S2.1, (hK.cell Hb.out.xf 2).trans S2.2⟩))
    go_wp2
    go_ret
    exact ⟨rfl, hD, (Keep.ofBelow (((Below.refl _ _).drew).trans hB) (fun k hk => h.lt hk)).trans hK⟩
set_option maxRecDepth 100000 in
set_option maxHeartbeats 4000000 in
theorem wopen2_at {d0 : ADisk} {bf bl bd size : Nat} {f : AFound} {vs vr : Value} (h : DiskAt ex w p m d) (hb : OpBox ex w q p bf bl bd size f vs vr) (hd : opD1 d0 f = d) :
    Calls Tryz.prog 56 #[.pointer (some ⟨bl, 0, none⟩), .pointer (some ⟨bf, 0, none⟩), .pointer (some ⟨bd, 0, none⟩)] w fun e w' => e = .returned (.int .i64 (opE2 d0 f)) ∧ DiskAt ex w' p m (opD2 d0 f) ∧ Keep ex w w' := by
  have k1 := hb.cd
  have k0 := hb.cl
  obtain ⟨_, _, _, k2⟩ := cells4O hb.fb
  obtain ⟨av, cv, rfl, _⟩ := hb.seg.shape
  obtain ⟨_, _, k3', _, k4', _⟩ := cells7 hb.log
  have k3 : w.cell? ⟨q, 2, none⟩ = some (.slice av f.segs.length cv) := k3'
  have k4 : w.cell? ⟨q, 4, none⟩ = some (.int .i64 f.bytes) := k4'
  clear k3' k4'
  obtain ⟨n, hn⟩ : ∃ n, f.segs.length = n := ⟨_, rfl⟩
  obtain ⟨gd, hgd⟩ : ∃ n, f.good = n := ⟨_, rfl⟩
  obtain ⟨by_, hby⟩ : ∃ n, f.bytes = n := ⟨_, rfl⟩
  have hnl : n ≤ 1000 := by rw [← hn]; exact hb.ok.many
  have hgl : gd ≤ 1099511627776 := by rw [← hgd]; exact hb.ok.good
  rw [hn] at k3
  rw [hgd] at k2
  rw [hby] at k4
  have hn0 : f.segs = [] ↔ n = 0 := by rw [← hn, List.length_eq_zero_iff]
  by_cases hc : f.segs = [] ∨ f.good = f.bytes
  · have e1 : opE2 d0 f = 0 := by unfold opE2; rw [if_pos hc]
    have e2 : opD2 d0 f = d := by unfold opD2; rw [if_pos hc, hd]
    rw [e1, e2]
    rw [hn0, hgd, hby] at hc
    clear hb hn hgd hby hn0 e1 e2 hd hnl hgl
    by_cases hz : n = 0
    · subst hz
      clear hc
      go_enter Tryz.func56, Tryz.ntmps56
      go_wp2
      go_quiet (fail)
      go_wp2
      go_ret
      exact ⟨rfl, h.below (below_drewN (Below.refl _ _) _), Keep.ofBelow (below_drewN (Below.refl _ _) _) (fun k hk => h.lt hk)⟩
    · obtain rfl : gd = by_ := by rcases hc with hc | hc <;> omega
      have hzb : ((n : Int) == 0) = false := by rw [beq_eq_false_iff_ne]; omega
      have hzc : ((gd : Int) == gd) = true := by simp
      clear hc hz
      go_enter Tryz.func56, Tryz.ntmps56
      go_wp2
      go_quiet (fail)
      go_wp2
      go_ret
      exact ⟨rfl, h.below (below_drewN (Below.refl _ _) _), Keep.ofBelow (below_drewN (Below.refl _ _) _) (fun k hk => h.lt hk)⟩
  · have e1 : opE2 d0 f = d.cutErr (wName f.lastN) f.good := by unfold opE2; rw [if_neg hc, hd]
    have e2 : opD2 d0 f = d.cut (wName f.lastN) f.good := by unfold opD2; rw [if_neg hc, hd]
    rw [e1, e2]
    have hsn : f.segs ≠ [] := fun e => hc (Or.inl e)
    have hfn : ∀ wX, DiskAt ex wX p m d → Keep ex w wX → Calls Tryz.prog 57 #[.pointer (some ⟨q, 0, none⟩)] wX fun e w' => e = .returned (.string (wName f.lastN)) ∧ Below wX.heap.size wX w' := fun wX hX hK => wfile_at ((hb.keep hK).logAt hX) (hb.keep hK).env (hb.ok.raw hb.sz) hsn
    have hsl : (wName f.lastN).size ≤ maxLen := (hb.ok.raw hb.sz).file_size
    rw [hn0, hgd, hby] at hc
    rw [hgd]
    have hzb : ((n : Int) == 0) = false := by rw [beq_eq_false_iff_ne]; omega
    have hzc : ((gd : Int) == by_) = false := by rw [beq_eq_false_iff_ne]; omega
    generalize wName f.lastN = s at hfn hsl ⊢
    have hR := fun wX (hX : DiskAt ex wX p m d) => Cut_at s gd hX hsl
    have HR := Lib.hid hR
    have Hf := Lib.hid hfn
    have Hb := Lib.hid hb
    clear hR hfn hb hn hgd hby hn0 e1 e2 hd hc hsn hsl
    go_enter Tryz.func56, Tryz.ntmps56
    go_wp2
    go_quiet (fail)
    go_wp2
    go_region_held3 (fun w' => w'.cell? ⟨bd, 0, none⟩ = some (.pointer (some ⟨p, 0, none⟩)) ∧ w'.cell? ⟨bl, 0, none⟩ = some (.pointer (some ⟨q, 0, none⟩)) ∧ w'.cell? ⟨bf, 3, none⟩ = some (.int .i64 gd)) (first | exact ⟨k1, k0, k2⟩ | exact S2 | exact S3 | go_keep)
      (first
        | (go_at_call 57; refine (Hf.out _ (h.below ((below_drewN (Below.refl _ _) _).drew)) (Keep.ofBelow ((below_drewN (Below.refl _ _) _).drew) (fun k hk => h.lt hk))).mono ?_; rintro e w1 ⟨rfl, hB0⟩; have hB := ((below_drewN (Below.refl w.heap.size w) _).drew).trans (hB0.mono (by simp)); have S2 : w1.cell? ⟨bd, 0, none⟩ = some (.pointer (some ⟨p, 0, none⟩)) ∧ w1.cell? ⟨bl, 0, none⟩ = some (.pointer (some ⟨q, 0, none⟩)) ∧ w1.cell? ⟨bf, 3, none⟩ = some (.int .i64 gd) := ⟨(hB.cell (p := ⟨bd, 0, none⟩) (cell_lt k1)).trans k1, (hB.cell (p := ⟨bl, 0, none⟩) (cell_lt k0)).trans k0, (hB.cell (p := ⟨bf, 3, none⟩) (cell_lt k2)).trans k2⟩)
        | (go_at_call 16; refine (HR.out w1 (h.below hB)).mono ?_; rintro e w2 ⟨rfl, hD, hK⟩; have S3 : w2.cell? ⟨bd, 0, none⟩ = some (.pointer (some ⟨p, 0, none⟩)) ∧ w2.cell? ⟨bl, 0, none⟩ = some (.pointer (some ⟨q, 0, none⟩)) ∧ w2.cell? ⟨bf, 3, none⟩ = some (.int .i64 gd) := ⟨(hK.cell Hb.out.xd 0).trans S2.1, (hK.cell Hb.out.xl 0).trans S2.2.1, (hK.cell Hb.out.xf 3).trans S2.2.2⟩))
    go_wp2
    go_ret
    exact ⟨rfl, hD, (Keep.ofBelow hB (fun k hk => h.lt hk)).trans hK⟩
set_option maxRecDepth 100000 in
set_option maxHeartbeats 4000000 in
theorem wopen3_at {d0 : ADisk} {bf bl bd size : Nat} {f : AFound} {vs vr : Value} (h : DiskAt ex w p m d) (hb : OpBox ex w q p bf bl bd size f vs vr) (hd : opD2 d0 f = d) :
    Calls Tryz.prog 58 #[.pointer (some ⟨bl, 0, none⟩), .pointer (some ⟨bd, 0, none⟩)] w fun e w' => e = .returned (.int .i64 (opE3 d0 f)) ∧ DiskAt ex w' p m (opD3 d0 f) ∧ Keep ex w w' := by
  have k1 := hb.cd
  have k0 := hb.cl
  obtain ⟨av, cv, rfl, _⟩ := hb.seg.shape
  obtain ⟨_, _, k3', _⟩ := cells7 hb.log
  have k3 : w.cell? ⟨q, 2, none⟩ = some (.slice av f.segs.length cv) := k3'
  clear k3'
  obtain ⟨n, hn⟩ : ∃ n, f.segs.length = n := ⟨_, rfl⟩
  have hnl : n ≤ 1000 := by rw [← hn]; exact hb.ok.many
  rw [hn] at k3
  have hn0 : f.segs = [] ↔ n = 0 := by rw [← hn, List.length_eq_zero_iff]
  by_cases hc : f.segs = []
  · have e1 : opE3 d0 f = 0 := by unfold opE3; rw [if_pos hc]
    have e2 : opD3 d0 f = d := by unfold opD3; rw [if_pos hc, hd]
    rw [e1, e2]
    obtain rfl : n = 0 := hn0.1 hc
    clear hb hn hn0 e1 e2 hd hnl hc
    go_enter Tryz.func58, Tryz.ntmps58
    go_wp2
    go_ret
    exact ⟨rfl, h, Keep.refl _ _⟩
  · have e1 : opE3 d0 f = d.syncErr (wName f.lastN) := by unfold opE3; rw [if_neg hc, hd]
    have e2 : opD3 d0 f = d.sync (wName f.lastN) := by unfold opD3; rw [if_neg hc, hd]
    rw [e1, e2]
    have hfn : ∀ wX, DiskAt ex wX p m d → Keep ex w wX → Calls Tryz.prog 57 #[.pointer (some ⟨q, 0, none⟩)] wX fun e w' => e = .returned (.string (wName f.lastN)) ∧ Below wX.heap.size wX w' := fun wX hX hK => wfile_at ((hb.keep hK).logAt hX) (hb.keep hK).env (hb.ok.raw hb.sz) hc
    have hsl : (wName f.lastN).size ≤ maxLen := (hb.ok.raw hb.sz).file_size
    rw [hn0] at hc
    have hzb : ((n : Int) == 0) = false := by rw [beq_eq_false_iff_ne]; omega
    generalize wName f.lastN = s at hfn hsl ⊢
    have hR := fun wX (hX : DiskAt ex wX p m d) => Sync_at s hX hsl
    have HR := Lib.hid hR
    have Hf := Lib.hid hfn
    have Hb := Lib.hid hb
    clear hR hfn hb hn hn0 e1 e2 hd hc hsl
    go_enter Tryz.func58, Tryz.ntmps58
    go_wp2
    go_region_held3 (fun w' => w'.cell? ⟨bd, 0, none⟩ = some (.pointer (some ⟨p, 0, none⟩)) ∧ w'.cell? ⟨bl, 0, none⟩ = some (.pointer (some ⟨q, 0, none⟩))) (first | exact ⟨k1, k0⟩ | exact S2 | exact S3 | go_keep)
      (first
        | (go_at_call 57; refine (Hf.out _ (h.below ((Below.refl _ _).drew)) (Keep.ofBelow ((Below.refl _ _).drew) (fun k hk => h.lt hk))).mono ?_; rintro e w1 ⟨rfl, hB0⟩; have hB := ((Below.refl w.heap.size w).drew).trans hB0; have S2 : w1.cell? ⟨bd, 0, none⟩ = some (.pointer (some ⟨p, 0, none⟩)) ∧ w1.cell? ⟨bl, 0, none⟩ = some (.pointer (some ⟨q, 0, none⟩)) := ⟨(hB.cell (p := ⟨bd, 0, none⟩) (cell_lt k1)).trans k1, (hB.cell (p := ⟨bl, 0, none⟩) (cell_lt k0)).trans k0⟩)
        | (go_at_call 43; refine (HR.out w1 (h.below hB)).mono ?_; rintro e w2 ⟨rfl, hD, hK⟩; have S3 : w2.cell? ⟨bd, 0, none⟩ = some (.pointer (some ⟨p, 0, none⟩)) ∧ w2.cell? ⟨bl, 0, none⟩ = some (.pointer (some ⟨q, 0, none⟩)) := ⟨(hK.cell Hb.out.xd 0).trans S2.1, (hK.cell Hb.out.xl 0).trans S2.2⟩))
    go_wp2
    go_ret
    exact ⟨rfl, hD, (Keep.ofBelow hB (fun k hk => h.lt hk)).trans hK⟩

/-- the disk behind so many steps. -/
def opD (d : ADisk) (f : AFound) : Nat → ADisk
  | 0 => d
  | 1 => opD1 d f
  | 2 => opD2 d f
  | _ => opD3 d f
def opE (d : ADisk) (f : AFound) : Nat → Int
  | 0 => opE1 d f
  | 1 => opE2 d f
  | _ => opE3 d f
theorem op_bad {d : ADisk} {n : AFound} {j : Nat} (hj : j ≤ 2) (hz : ∀ i, i < j → opE d n i = 0) (hb : opE d n j ≠ 0) : opSteps d n = (opD d n (j + 1), opE d n j) := by
  have hj4 : j = 0 ∨ j = 1 ∨ j = 2 := by omega
  unfold opSteps
  rcases hj4 with rfl | rfl | rfl
  · have h0 : opE1 d n ≠ 0 := hb
    rw [if_pos h0]; rfl
  · have h0 : opE1 d n = 0 := hz 0 (by omega)
    have h1 : opE2 d n ≠ 0 := hb
    rw [if_neg (fun h => h h0), if_pos h1]; rfl
  · have h0 : opE1 d n = 0 := hz 0 (by omega)
    have h1 : opE2 d n = 0 := hz 1 (by omega)
    rw [if_neg (fun h => h h0), if_neg (fun h => h h1)]; rfl
theorem op_good {d : ADisk} {n : AFound} (hz : ∀ i, i < 3 → opE d n i = 0) : opSteps d n = (opD d n 3, 0) := by
  have h0 : opE1 d n = 0 := hz 0 (by omega)
  have h1 : opE2 d n = 0 := hz 1 (by omega)
  have h2 : opE3 d n = 0 := hz 2 (by omega)
  unfold opSteps
  rw [if_neg (fun h => h h0), if_neg (fun h => h h1), h2]; rfl

/-- the steps as values. -/
def opFns (bf bl bd : Nat) : Array Value := #[.func (.func 54) #[] #[.pointer (some ⟨bf, 0, none⟩), .pointer (some ⟨bd, 0, none⟩)], .func (.func 56) #[] #[.pointer (some ⟨bl, 0, none⟩), .pointer (some ⟨bf, 0, none⟩), .pointer (some ⟨bd, 0, none⟩)], .func (.func 58) #[] #[.pointer (some ⟨bl, 0, none⟩), .pointer (some ⟨bd, 0, none⟩)]]
set_option maxRecDepth 100000 in
set_option maxHeartbeats 4000000 in
theorem wsteps_op {bf bl bd size r : Nat} {f : AFound} {vs vr : Value} {T : TypeId} (h : DiskAt ex w p m d) (hb : OpBox ex w q p bf bl bd size f vs vr) (hr : w.heap[r]? = some (.cells (opFns bf bl bd) T (0, 0))) (hxr : ex r) :
    Calls Tryz.prog 53 #[.slice (some ⟨r, 0, none⟩) 3 3] w fun e w' => e = .returned (.int .i64 (opSteps d f).2) ∧ DiskAt ex w' p m (opSteps d f).1 ∧ Keep ex w w' := by
  unfold opFns at hr
  have Hb := Lib.hid hb
  have Hr := Lib.hid hr
  clear hb hr
  go_enter Tryz.func53, Tryz.ntmps53
  go_wp2
  go_loopw [8] (fun i wr => ∃ (j : Nat) (kk : Int), j ≤ 3 ∧ kk = j ∧ i = .int .i64 kk ∧ DiskAt ex wr p m (opD d f j) ∧ Keep ex w wr ∧ ∀ i, i < j → opE d f i = 0) (fun i _ => 3 - (intOf i).toNat)
  case atStart => exact ⟨0, 0, by omega, rfl, rfl, h, Keep.refl _ _, fun i hi => absurd hi (Nat.not_lt_zero i)⟩
  case round =>
    obtain ⟨j, kk, hj, hkk, rfl, hDr, hKr, hzs⟩ := hrel
    have Hzs := Lib.hid hzs
    have hfr := (hKr.block _ hxr).trans Hr.out
    obtain ⟨l0, l1, l2, _⟩ := cells3 hfr
    have hbr := Hb.out.keep hKr
    have Hbr := Lib.hid hbr
    clear hzs hfr hbr
    have hj5 : j = 0 ∨ j = 1 ∨ j = 2 ∨ j = 3 := by omega
    rcases hj5 with rfl | rfl | rfl | rfl
    · obtain rfl : kk = 0 := by omega
      clear hkk
      have hst := wopen1_at hDr Hbr.out
      change Calls _ _ _ _ (fun e w' => e = .returned (.int .i64 (opE d f 0)) ∧ DiskAt ex w' p m (opD d f 1) ∧ Keep ex wr w') at hst
      have Hst := Lib.hid hst
      by_cases hz0 : opE d f 0 = 0
      · rw [hz0] at Hst
        have Hz0 := Lib.hid hz0
        clear hst hz0
        go_wp2_with (go_at_call 54; refine Hst.out.mono ?_; rintro e w3 ⟨rfl, hD3, hK3⟩)
        go_roundw
        case rel => exact ⟨1, 1, by omega, rfl, rfl, hD3, hKr.trans hK3, fun i hi => (Nat.lt_succ_iff_lt_or_eq.1 hi).elim (fun h => Hzs.out i h) (fun h => h ▸ Hz0.out)⟩
        case measure => simp [intOf]
      · obtain ⟨er, her⟩ : ∃ er, opE d f 0 = er := ⟨_, rfl⟩
        have hbad := op_bad (d := d) (n := f) (j := 0) (by omega) Hzs.out hz0
        rw [her] at Hst hz0 hbad
        have hzb : (er != 0) = true := by simpa using hz0
        have Hbad := Lib.hid hbad
        clear hst hz0 her hbad
        go_wp2_with (go_at_call 54; refine Hst.out.mono ?_; rintro e w3 ⟨rfl, hD3, hK3⟩)
        go_ret
        rw [Hbad.out]
        exact ⟨rfl, hD3, hKr.trans hK3⟩
    · obtain rfl : kk = 1 := by omega
      clear hkk
      have hst := wopen2_at (d0 := d) hDr Hbr.out rfl
      change Calls _ _ _ _ (fun e w' => e = .returned (.int .i64 (opE d f 1)) ∧ DiskAt ex w' p m (opD d f 2) ∧ Keep ex wr w') at hst
      have Hst := Lib.hid hst
      by_cases hz0 : opE d f 1 = 0
      · rw [hz0] at Hst
        have Hz0 := Lib.hid hz0
        clear hst hz0
        go_wp2_with (go_at_call 56; refine Hst.out.mono ?_; rintro e w3 ⟨rfl, hD3, hK3⟩)
        go_roundw
        case rel => exact ⟨2, 2, by omega, rfl, rfl, hD3, hKr.trans hK3, fun i hi => (Nat.lt_succ_iff_lt_or_eq.1 hi).elim (fun h => Hzs.out i h) (fun h => h ▸ Hz0.out)⟩
        case measure => simp [intOf]
      · obtain ⟨er, her⟩ : ∃ er, opE d f 1 = er := ⟨_, rfl⟩
        have hbad := op_bad (d := d) (n := f) (j := 1) (by omega) Hzs.out hz0
        rw [her] at Hst hz0 hbad
        have hzb : (er != 0) = true := by simpa using hz0
        have Hbad := Lib.hid hbad
        clear hst hz0 her hbad
        go_wp2_with (go_at_call 56; refine Hst.out.mono ?_; rintro e w3 ⟨rfl, hD3, hK3⟩)
        go_ret
        rw [Hbad.out]
        exact ⟨rfl, hD3, hKr.trans hK3⟩
    · obtain rfl : kk = 2 := by omega
      clear hkk
      have hst := wopen3_at (d0 := d) hDr Hbr.out rfl
      change Calls _ _ _ _ (fun e w' => e = .returned (.int .i64 (opE d f 2)) ∧ DiskAt ex w' p m (opD d f 3) ∧ Keep ex wr w') at hst
      have Hst := Lib.hid hst
      by_cases hz0 : opE d f 2 = 0
      · rw [hz0] at Hst
        have Hz0 := Lib.hid hz0
        clear hst hz0
        go_wp2_with (go_at_call 58; refine Hst.out.mono ?_; rintro e w3 ⟨rfl, hD3, hK3⟩)
        go_roundw
        case rel => exact ⟨3, 3, by omega, rfl, rfl, hD3, hKr.trans hK3, fun i hi => (Nat.lt_succ_iff_lt_or_eq.1 hi).elim (fun h => Hzs.out i h) (fun h => h ▸ Hz0.out)⟩
        case measure => simp [intOf]
      · obtain ⟨er, her⟩ : ∃ er, opE d f 2 = er := ⟨_, rfl⟩
        have hbad := op_bad (d := d) (n := f) (j := 2) (by omega) Hzs.out hz0
        rw [her] at Hst hz0 hbad
        have hzb : (er != 0) = true := by simpa using hz0
        have Hbad := Lib.hid hbad
        clear hst hz0 her hbad
        go_wp2_with (go_at_call 58; refine Hst.out.mono ?_; rintro e w3 ⟨rfl, hD3, hK3⟩)
        go_ret
        rw [Hbad.out]
        exact ⟨rfl, hD3, hKr.trans hK3⟩
    · obtain rfl : kk = 3 := by omega
      clear hkk
      have hgood := op_good (d := d) (n := f) Hzs.out
      go_wp2
      go_ret
      rw [hgood]
      exact ⟨rfl, hDr, hKr⟩
end
end Go.Proofs.YtbiadclmonakkaaGreatDoor

/-
  Open: what is made ready for its steps.
-/
namespace Go.Proofs.YtbiadclmonakkaaGreatDoor
open Go.RowKit Go.Maps Go.MapKept

/-- the blocks of records that are told. -/
def RBlk (vr : Value) (XL : List XRec) (k : Nat) : Prop := vr.ownBlock = some k ∨ ∃ x ∈ XL, x.vb.ownBlock = some k
structure OpenFin (ex : Nat → Prop) (w w' : World) (q p m : Nat) (d : ADisk) (al : ALog) (vr : Value) (recs : List ARec) (XL : List XRec) : Prop where
  log : LogAt (fun k => ex k ∨ RBlk vr XL k) w' q p m d al
  row : w'.ownsRow w.heap.size 47 2 vr recs.length (recX XL)
  ok : RecsOk w.heap.size w' XL
  map : XL.map XRec.rec4 = recs
  new : w.heap.size ≤ q ∧ q < w'.heap.size
  newR : ∀ k, RBlk vr XL k → w.heap.size ≤ k ∧ k < w'.heap.size
/-- what Open leaves. -/
def OpenPost (ex : Nat → Prop) (w : World) (p m : Nat) (r : ADisk × AFound × Int) (size : Int) (e : Ending) (w' : World) : Prop :=
  Keep ex w w' ∧ ((r.2.2 ≠ 0 ∧ e = .returned (.tuple #[.pointer none, .slice none 0 0, .int .i64 r.2.2]) ∧ DiskAt ex w' p m r.1) ∨
    (r.2.2 = 0 ∧ ∃ q a c XL, e = .returned (.tuple #[.pointer (some ⟨q, 0, none⟩), .slice a r.2.1.recs.length c, .int .i64 0]) ∧ OpenFin ex w w' q p m r.1 (r.2.1.log size) (.slice a r.2.1.recs.length c) r.2.1.recs XL))

section
variable {ex : Nat → Prop} {w : World} {p m : Nat} {d : ADisk}
/-- the steps, where the boxes lie. -/
theorem op_ready {w2 w3 : World} {sz : Nat} {f : AFound} {vs vr : Value} {XL : List XRec} {T : TypeId} (h : DiskAt ex w p m d) (hB2 : Below w.heap.size w w2) (hF : LookFin w2 w3 p sz f vs vr XL) (hE : WEnv w) (hG : GlIn ex) (hok : FOk f) (hsz : sz ≤ 16777216)
    (hd : w3.heap[w.heap.size]? = some (.cells #[.pointer (some ⟨p, 0, none⟩)] T (0, 0))) :
    Calls Tryz.prog 53 #[.slice (some ⟨w3.heap.size + 1 + 1, 0, none⟩) 3 3] (((w3.alloc (.cells #[.pointer (some ⟨w2.heap.size + 1, 0, none⟩), vr, .int .i64 f.none, .int .i64 f.good] 100)).alloc (.cells #[.pointer (some ⟨w2.heap.size + 1, 0, none⟩)] 27)).alloc (.cells (opFns w3.heap.size (w3.heap.size + 1) w.heap.size) 55)) fun e w' =>
      e = .returned (.int .i64 (opSteps d f).2) ∧ DiskAt (fun k => ex k ∨ w.heap.size ≤ k ∧ k < w3.heap.size + 3) w' p m (opSteps d f).1 ∧ Keep (fun k => ex k ∨ w.heap.size ≤ k ∧ k < w3.heap.size + 3) (((w3.alloc (.cells #[.pointer (some ⟨w2.heap.size + 1, 0, none⟩), vr, .int .i64 f.none, .int .i64 f.good] 100)).alloc (.cells #[.pointer (some ⟨w2.heap.size + 1, 0, none⟩)] 27)).alloc (.cells (opFns w3.heap.size (w3.heap.size + 1) w.heap.size) 55)) w' ∧
        OpBox (fun k => ex k ∨ w.heap.size ≤ k ∧ k < w3.heap.size + 3) w' (w2.heap.size + 1) p w3.heap.size (w3.heap.size + 1) w.heap.size sz f vs vr := by
  have hlt2 := blk_lt hF.log
  have hs2 := hB2.size
  have hb0 : ((w3.alloc (.cells #[.pointer (some ⟨w2.heap.size + 1, 0, none⟩), vr, .int .i64 f.none, .int .i64 f.good] 100)).alloc (.cells #[.pointer (some ⟨w2.heap.size + 1, 0, none⟩)] 27)).heap[w3.heap.size]? = _ := alloc2_at0 _ _ _
  have hb1 : ((w3.alloc (.cells #[.pointer (some ⟨w2.heap.size + 1, 0, none⟩), vr, .int .i64 f.none, .int .i64 f.good] 100)).alloc (.cells #[.pointer (some ⟨w2.heap.size + 1, 0, none⟩)] 27)).heap[w3.heap.size + 1]? = _ := alloc2_at _ _ _
  have hUU : Upd noFp w3 ((w3.alloc (.cells #[.pointer (some ⟨w2.heap.size + 1, 0, none⟩), vr, .int .i64 f.none, .int .i64 f.good] 100)).alloc (.cells #[.pointer (some ⟨w2.heap.size + 1, 0, none⟩)] 27)) := ((Upd.refl _ _).alloc _).alloc _
  have hsU : ((w3.alloc (.cells #[.pointer (some ⟨w2.heap.size + 1, 0, none⟩), vr, .int .i64 f.none, .int .i64 f.good] 100)).alloc (.cells #[.pointer (some ⟨w2.heap.size + 1, 0, none⟩)] 27)).heap.size = w3.heap.size + 2 := by simp
  generalize (w3.alloc (.cells #[.pointer (some ⟨w2.heap.size + 1, 0, none⟩), vr, .int .i64 f.none, .int .i64 f.good] 100)).alloc (.cells #[.pointer (some ⟨w2.heap.size + 1, 0, none⟩)] 27) = U at hb0 hb1 hUU hsU ⊢
  have hU : Upd noFp w3 (U.alloc (.cells (opFns w3.heap.size (w3.heap.size + 1) w.heap.size) 55)) := hUU.alloc _
  have hf := alloc_at U (.cells (opFns w3.heap.size (w3.heap.size + 1) w.heap.size) 55)
  have hb0 := alloc_old hb0 (.cells (opFns w3.heap.size (w3.heap.size + 1) w.heap.size) 55)
  have hb1 := alloc_old hb1 (.cells (opFns w3.heap.size (w3.heap.size + 1) w.heap.size) 55)
  rw [hsU] at hf
  generalize U.alloc (.cells (opFns w3.heap.size (w3.heap.size + 1) w.heap.size) 55) = V at hU hf hb0 hb1 ⊢
  have hsV : w3.heap.size + 2 < V.heap.size := blk_lt hf
  have hB3 : Below w.heap.size w w3 := hB2.trans (hF.below.mono hs2)
  have hs3 := hB3.size
  have hs23 := hF.below.size
  have hBV : Below w.heap.size w V := hB3.trans ((hU.below (N := w3.heap.size) (fun _ h => h.elim) (Nat.le_refl _)).mono hB3.size)
  have hvs : ∀ g, vs.ownBlock = some g → w2.heap.size + 3 ≤ g ∧ g < w3.heap.size := fun g hg => ⟨hF.hs g hg, hF.seg.lt hg⟩
  have hDV : DiskAt (fun k => ex k ∨ w.heap.size ≤ k ∧ k < w3.heap.size + 3) V p m d := h.more hBV (fun k hk => hk.imp id (fun h => ⟨h.1, by omega⟩))
  have hbox : OpBox (fun k => ex k ∨ w.heap.size ≤ k ∧ k < w3.heap.size + 3) V (w2.heap.size + 1) p w3.heap.size (w3.heap.size + 1) w.heap.size sz f vs vr :=
    ⟨(cells1 hb1).1, (cells1 (hU.keep hd (fun h => h))).1, hb0, hU.keep hF.log (fun h => h), hF.seg.upd hU (fun _ _ h => h), Or.inr ⟨by omega, by omega⟩, Or.inr ⟨Nat.le_refl _, by omega⟩, Or.inr ⟨by omega, by omega⟩, Or.inr ⟨by omega, by omega⟩,
      fun g hg => ⟨Or.inr ⟨by have := hvs g hg; omega, by have := hvs g hg; omega⟩, by have := hvs g hg; omega⟩, hG.mono (fun _ hk => Or.inl hk), hE.below hBV, hok, hsz⟩
  refine (wsteps_op hDV hbox hf (Or.inr ⟨by omega, by omega⟩)).mono fun e w' he => ?_
  exact ⟨he.1, he.2.1, he.2.2, hbox.keep he.2.2⟩
/-- the log that is told. -/
theorem op_fin {w2 w3 V w6 w7 : World} {sz : Nat} {f : AFound} {vs : Value} {a : Option Addr} {c nr : Nat} {XL : List XRec} {d' : ADisk} (hn : f.recs.length = nr) (h : DiskAt ex w p m d) (hB2 : Below w.heap.size w w2) (hF : LookFin w2 w3 p sz f vs (.slice a nr c) XL) (hU : Upd noFp w3 V)
    (hD : DiskAt (fun k => ex k ∨ w.heap.size ≤ k ∧ k < w3.heap.size + 3) w6 p m d') (hK : Keep (fun k => ex k ∨ w.heap.size ≤ k ∧ k < w3.heap.size + 3) V w6)
    (h7 : Upd (· = w2.heap.size + 1) w6 w7) (hl : w7.heap[w2.heap.size + 1]? = some (.cells (logCells p (f.log sz) vs) 52 (0, 0))) :
    OpenFin ex w w7 (w2.heap.size + 1) p m d' (f.log sz) (.slice a nr c) f.recs XL ∧ Keep ex w w7 := by
  have hlt2 := blk_lt hF.log
  have hs2 := hB2.size
  have hs23 := hF.below.size
  have hB3 : Below w.heap.size w w3 := hB2.trans (hF.below.mono hs2)
  have hexlt : ∀ k, ex k → k < w.heap.size := fun k hk => h.lt hk
  have hsV := hU.size
  have hs6 := hK.size
  have hs7 := h7.size
  have hvs : ∀ g, vs.ownBlock = some g → w2.heap.size + 3 ≤ g ∧ g < w3.heap.size := fun g hg => ⟨hF.hs g hg, hF.seg.lt hg⟩
  have hrlt : ∀ g, (Value.slice a nr c).ownBlock = some g → g < w3.heap.size := fun g hg => row_lt hF.row hg
  have hnew : ∀ k, RBlk (.slice a nr c) XL k → (w2.heap.size + 3 ≤ k ∧ k < w3.heap.size) ∧ vs.ownBlock ≠ some k := by
    rintro k (hk | ⟨x, hx, hk⟩)
    · exact ⟨⟨(hF.hr k hk).1, hrlt k hk⟩, (hF.hr k hk).2⟩
    · exact ⟨⟨(hF.hx x hx k hk).1, (hF.ok.own x hx k hk).2⟩, (hF.hx x hx k hk).2.1⟩
  have hexV : ∀ k, k < w3.heap.size → w.heap.size ≤ k → (fun k => ex k ∨ w.heap.size ≤ k ∧ k < w3.heap.size + 3) k := fun k h1 h2 => Or.inr ⟨h2, by omega⟩
  have hrow : w7.ownsRow w2.heap.size 47 2 (.slice a nr c) nr (recX XL) := by
    have h0 := hF.row
    rw [hn] at h0
    exact h7.row (hK.row (hU.row h0 (fun _ _ h => h)) (fun g hg => hexV g (hrlt g hg) (by have := (hF.hr g hg).1; omega))) (fun g hg e => by have := (hF.hr g hg).1; omega)
  have hokX : RecsOk w2.heap.size w7 XL := ((hF.ok.upd hU (fun _ _ _ _ h => h)).keep hK (fun x hx g hg => hexV g (hF.ok.own x hx g hg).2 (by have := (hF.hx x hx g hg).1; omega))).upd h7 (fun x hx g hg e => by have := (hF.hx x hx g hg).1; omega)
  refine ⟨⟨⟨vs, hl, (hF.seg.upd hU (fun _ _ h => h)).keep hK (fun g hg => hexV g (hvs g hg).2 (by have := (hvs g hg).1; omega)) |>.upd h7 (fun g hg e => by have := (hvs g hg).1; omega), ?_, ?_, ?_⟩, ?_, hokX.mono hs2, hF.map, ⟨by omega, by omega⟩, fun k hk => ⟨by have := (hnew k hk).1; omega, by have := (hnew k hk).1; omega⟩⟩, ?_⟩
  · refine (hD.upd h7 (fun k _ e => Or.inr ⟨by omega, by omega⟩)).mono (fun k hk => ?_)
    rcases hk with (hk | hk) | hk | hk
    · exact Or.inl hk
    · exact Or.inr ⟨by have := (hnew k hk).1; omega, by have := (hnew k hk).1; omega⟩
    · exact Or.inr ⟨by omega, by omega⟩
    · exact Or.inr ⟨by have := (hvs k hk).1; omega, by have := (hvs k hk).2; omega⟩
  · rintro (e | e)
    · have := hexlt _ e; omega
    · have := (hnew _ e).1; omega
  · intro g hg
    refine ⟨?_, by have := (hvs g hg).1; omega⟩
    rintro (e | e)
    · have := hexlt _ e; have := (hvs g hg).1; omega
    · exact (hnew _ e).2 hg
  · rw [hn]
    exact ownsRow_from hrow (fun g hg => by have := (hF.hr g hg).1; omega)
  · exact ((Keep.ofBelow hB3 hexlt).trans ((Keep.ofUpd hU (fun k hk => ⟨by have := hexlt k hk; have := hB3.size; omega, fun h => h⟩)).trans (hK.mono (fun k hk => Or.inl hk)))).trans (Keep.ofUpd h7 (fun k hk => ⟨by have := hexlt k hk; have := hB3.size; omega, by have := hexlt k hk; omega⟩))
end
end Go.Proofs.YtbiadclmonakkaaGreatDoor
