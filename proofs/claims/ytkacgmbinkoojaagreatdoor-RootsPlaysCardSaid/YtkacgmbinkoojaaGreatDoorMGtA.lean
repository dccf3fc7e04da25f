/-
  Package roots: the names; strings.HasPrefix.
-/
import Derived.Outline
import Derived.Test.YtkacgmbinkoojaaGreatDoorMByA
import Derived.Lib.SlBytesConst
import Derived.Test.YtkacgmbinkoojaaGreatDoorMLoA
import Derived.BigQuiet
import Derived.Deep.QuietTactic
import Derived.Deep.RegionHeld3
namespace Go.Proofs.YtkacgmbinkoojaaGreatDoor
open Go.RowKit Go.Maps Go.MapKept

/-- the file of a serial number. -/
def rname (n : Nat) : ByteArray := if n % 2 = 0 then ⟨#[114, 111, 111, 116, 48]⟩ else ⟨#[114, 111, 111, 116, 49]⟩
set_option maxRecDepth 100000 in
set_option maxHeartbeats 4000000 in
theorem Itoa_0 (w : World) : Calls Tryz.prog 64 #[.int .i64 0] w fun e w' => e = .returned (.string ⟨#[48]⟩) ∧ w = w' := by
  go_enter Tryz.func64, Tryz.ntmps64
  go_wp2
  go_ret
  exact ⟨rfl, rfl⟩
set_option maxRecDepth 100000 in
set_option maxHeartbeats 4000000 in
theorem Itoa_1 (w : World) : Calls Tryz.prog 64 #[.int .i64 1] w fun e w' => e = .returned (.string ⟨#[49]⟩) ∧ w = w' := by
  go_enter Tryz.func64, Tryz.ntmps64
  go_wp2
  go_ret
  exact ⟨rfl, rfl⟩
set_option maxRecDepth 100000 in
set_option maxHeartbeats 4000000 in
theorem rName_any (w : World) (n : Nat) (hn : n ≤ 9223372036854775807) :
    Calls Tryz.prog 34 #[.int .i64 n] w fun e w' => e = .returned (.string (rname n)) ∧ w = w' := by
  by_cases h : n % 2 = 0
  · have h2 : (n : Int) % 2 = 0 := by omega
    have hr : rname n = ⟨#[114, 111, 111, 116, 48]⟩ := by unfold rname; rw [if_pos h]
    rw [hr]
    clear h hr
    go_enter Tryz.func34, Tryz.ntmps34
    go_wp2_with (go_at_call 64; refine (Itoa_0 _).mono ?_; rintro e w1 ⟨rfl, rfl⟩)
    go_ret
    exact ⟨rfl, rfl⟩
  · have h2 : (n : Int) % 2 = 1 := by omega
    have hr : rname n = ⟨#[114, 111, 111, 116, 49]⟩ := by unfold rname; rw [if_neg h]
    rw [hr]
    clear h hr
    go_enter Tryz.func34, Tryz.ntmps34
    go_wp2_with (go_at_call 64; refine (Itoa_1 _).mono ?_; rintro e w1 ⟨rfl, rfl⟩)
    go_ret
    exact ⟨rfl, rfl⟩

/-- does it begin with 'HSR1'? -/
def isMagic (l : List UInt8) : Bool := decide (l.take 4 = [72, 83, 82, 49])
set_option maxRecDepth 100000 in
set_option maxHeartbeats 4000000 in
theorem magic_any (w : World) (l : List UInt8) (hl : l.length ≤ 9223372036854775807) :
    Calls Tryz.prog 71 #[.string ⟨l.toArray⟩, .string ⟨#[72, 83, 82, 49]⟩] w fun e w' => e = .returned (.bool (isMagic l)) ∧ w = w' := by
  have hx : (({ data := l.toArray } : ByteArray).extract 0 4).toList = l.take 4 := by
    rw [ByteArray.toList_eq]; simp
  by_cases h : (l.length : Int) < 4
  · have hfin : isMagic l = false := by
      unfold isMagic
      simp only [decide_eq_false_iff_not]
      intro e
      have := congrArg List.length e
      simp at this; omega
    have Hfin := Lib.hid hfin
    clear hfin hx
    go_enter Tryz.func71, Tryz.ntmps71
    go_wp2
    go_ret
    exact ⟨by rw [Hfin.out]; rfl, rfl⟩
  · have hfin : isMagic l = (l.take 4 == [72, 83, 82, 49]) := by unfold isMagic; rw [Bool.eq_iff_iff]; simp
    have Hfin := Lib.hid hfin
    clear hfin
    go_enter Tryz.func71, Tryz.ntmps71
    go_wp2
    go_ret
    exact ⟨by rw [Hfin.out]; rfl, rfl⟩
end Go.Proofs.YtkacgmbinkoojaaGreatDoor

/-
  Package roots: Bytes.
-/
namespace Go.Proofs.YtkacgmbinkoojaaGreatDoor
open Go.RowKit Go.Maps Go.MapKept

/-- a root's value. -/
def rootV (s t c : Int) (vb : Value) : Value := .agg #[.int .i64 s, .int .i64 t, .int .i64 c, vb]
/-- the error that Bytes tells. -/
def rbErr (s t c : Int) (n : Nat) : Int := if s < 1 ∨ 9007199254740992 < s ∨ t < 0 ∨ 9007199254740992 < t ∨ c < 0 ∨ 9007199254740992 < c then 2 else if 1048576 < n then 3 else 0
def aroot (s t c : Int) (b : List UInt8) : ARoot := ⟨s.toNat, t.toNat, c.toNat, b⟩
def rbOut (s t c : Int) (b : List UInt8) : List UInt8 := if rbErr s t c b.length = 0 then sealL sumL (aroot s t c b).bytes else []
theorem rb_ok {s t c : Int} {b : List UInt8} (h : rbErr s t c b.length = 0) : (aroot s t c b).Ok := by
  unfold rbErr at h
  split at h
  · cases h
  · split at h
    · cases h
    · constructor <;> simp only [aroot] <;> omega

def magicL : List UInt8 := [72, 83, 82, 49]
def RbPost (s t c : Int) (b : List UInt8) (w : World) (e : Ending) (w' : World) : Prop :=
  ∃ a cc, e = .returned (.tuple #[.slice a (rbOut s t c b).length cc, .int .i64 (rbErr s t c b.length)]) ∧ w'.ownsRow w.heap.size 5 1 (.slice a (rbOut s t c b).length cc) (rbOut s t c b).length (bcells (rbOut s t c b)) ∧ Below w.heap.size w w'
theorem RbPost.bad {s t c : Int} {b : List UInt8} {w w' : World} (er : Int) (h : rbErr s t c b.length = er) (h0 : er ≠ 0) (hB : Below w.heap.size w w') : RbPost s t c b w (.returned (.tuple #[.slice none 0 0, .int .i64 er])) w' := by
  have ho : rbOut s t c b = [] := by unfold rbOut; rw [h, if_neg h0]
  refine ⟨none, 0, by rw [h, ho]; rfl, by rw [ho]; exact World.ownsRow_nil _ _ _ _, hB⟩
/-- the numbers ahead of the k-th. -/
def pre (s t c : Int) : Nat → List UInt8
  | 0 => magicL
  | 1 => magicL ++ vint s.toNat
  | 2 => magicL ++ vint s.toNat ++ vint t.toNat
  | _ => magicL ++ vint s.toNat ++ vint t.toNat ++ vint c.toNat

theorem magic_run (w : World) (o : Obj) : (convert 33 33 (.slice (some ⟨w.heap.size + 1, 0, none⟩) 4 4)).run Tryz.prog ((w.alloc o).alloc (.cells #[.int .u8 72, .int .u8 83, .int .u8 82, .int .u8 49] 5)) =
    .ok (.slice (some ⟨w.heap.size + 1, 0, none⟩) 4 4) ((w.alloc o).alloc (.cells #[.int .u8 72, .int .u8 83, .int .u8 82, .int .u8 49] 5 (4, 5))) := by
  have h := Lib.run_convert_bytes_const (P := Tryz.prog) (w.alloc o) 33 5 #[.int .u8 72, .int .u8 83, .int .u8 82, .int .u8 49] 4 4 Tryz.underlying33 Tryz.underlying5
  rw [show (w.alloc o).heap.size = w.heap.size + 1 by simp] at h
  exact h
theorem run_idx3 (s t c : Int) (w : World) :
    (Instr.index 99 (.agg #[.int .i64 s, .int .i64 t, .int .i64 c]) (.int .i64 0)).run Tryz.prog w = .ok (.int .i64 s) w ∧
    (Instr.index 99 (.agg #[.int .i64 s, .int .i64 t, .int .i64 c]) (.int .i64 1)).run Tryz.prog w = .ok (.int .i64 t) w ∧
    (Instr.index 99 (.agg #[.int .i64 s, .int .i64 t, .int .i64 c]) (.int .i64 2)).run Tryz.prog w = .ok (.int .i64 c) w := by
  refine ⟨?_, ?_, ?_⟩ <;> kernel_rfl

set_option maxRecDepth 100000 in
set_option maxHeartbeats 8000000 in
theorem rBytes_any (w : World) (s t c : Int) (vb : Value) (b : List UInt8) (hs : isI64 s) (ht : isI64 t) (hc : isI64 c) (hv : Rd w vb (bcells b)) (hb : b.length ≤ 140737488355328) :
    Calls Tryz.prog 27 #[rootV s t c vb] w (RbPost s t c b w) := by
  obtain ⟨ab, cb, rfl⟩ := hv.shape
  rw [bcells_length] at hv ⊢
  have kc := magic_run w (.cells #[.int .i64 s, .int .i64 t, .int .i64 c, .slice ab b.length cb] 35)
  have Hv := Lib.hid hv
  clear hv
  unfold rootV
  unfold isI64 at hs ht hc
  go_enter Tryz.func27, Tryz.ntmps27
  go_wp2
  have hW : Below w.heap.size w (w.alloc (.cells #[.int .i64 s, .int .i64 t, .int .i64 c, .slice ab b.length cb] 35)) := (Below.refl _ _).alloc (Nat.le_refl _) _
  have hc3 : (w.alloc (.cells #[.int .i64 s, .int .i64 t, .int .i64 c, .slice ab b.length cb] 35)).cell? ⟨w.heap.size, 3, none⟩ = some (.slice ab b.length cb) := by rw [cell_at (alloc_at _ _)]; rfl
  have hrd0 := Hv.out.below hW
  have hsz : w.heap.size + 1 = (w.alloc (.cells #[.int .i64 s, .int .i64 t, .int .i64 c, .slice ab b.length cb] 35)).heap.size := by simp
  have hstart : Rd ((w.alloc (.cells #[.int .i64 s, .int .i64 t, .int .i64 c, .slice ab b.length cb] 35)).alloc (.cells #[.int .u8 72, .int .u8 83, .int .u8 82, .int .u8 49] 5 (4, 5))) (.slice (some ⟨w.heap.size + 1, 0, none⟩) 4 4) (bcells magicL) := by
    rw [hsz]
    exact Rd_new _ _ _ _ (bcells magicL) _ _ rfl rfl
  have hB0 : Below (w.heap.size + 1) (w.alloc (.cells #[.int .i64 s, .int .i64 t, .int .i64 c, .slice ab b.length cb] 35)) ((w.alloc (.cells #[.int .i64 s, .int .i64 t, .int .i64 c, .slice ab b.length cb] 35)).alloc (.cells #[.int .u8 72, .int .u8 83, .int .u8 82, .int .u8 49] 5 (4, 5))) := by
    rw [hsz]
    exact (Below.refl _ _).alloc (Nat.le_refl _) _
  generalize hW0 : w.alloc (.cells #[.int .i64 s, .int .i64 t, .int .i64 c, .slice ab b.length cb] 35) = W at hW hc3 hrd0 hsz hstart hB0 ⊢
  clear hW0
  rw [hsz] at hB0
  have Hc3 := Lib.hid hc3
  have Hrd0 := Lib.hid hrd0
  have Hstart := Lib.hid hstart
  have hwl : w.heap.size < W.heap.size := by omega
  have Hsz := Lib.hid hsz
  clear hc3 hrd0 hstart kc hsz
  go_loopw [4, 5, 6, 16] (fun o _ _ i wr => ∃ (k : Nat) (kk : Int) (y : List UInt8) (a' : Option Addr) (c' : Nat), k ≤ 3 ∧ kk = k ∧ i = .int .i64 kk ∧ y = pre s t c k ∧ o = .slice a' y.length c' ∧ Src wr (.slice a' y.length c') y ∧ (∀ g, (Value.slice a' y.length c').ownBlock = some g → W.heap.size ≤ g) ∧ Below W.heap.size W wr ∧
      (1 ≤ k → 1 ≤ s ∧ s ≤ 9007199254740992) ∧ (2 ≤ k → 0 ≤ t ∧ t ≤ 9007199254740992) ∧ (3 ≤ k → 0 ≤ c ∧ c ≤ 9007199254740992)) (fun _ _ _ i _ => 3 - (intOf i).toNat)
  case atStart => exact ⟨0, 0, magicL, _, _, by omega, rfl, rfl, rfl, rfl, Or.inr ⟨Hstart.out, _, rfl, by decide⟩, fun g hg => by cases hg; rw [← Hsz.out]; exact Nat.le_refl _, hB0, fun h => by omega, fun h => by omega, fun h => by omega⟩
  case round =>
    obtain ⟨k, kk, y, a', c', hk, hkk, rfl, hy, rfl, hsrc, hown, hB, k1, k2, k3⟩ := hrel
    have hyl : y.length ≤ 40 := by
      have hm : ∀ n : Int, n.toNat < 18446744073709551616 → (vint n.toNat).length ≤ 10 := fun n h => vint_len (by omega) (Nat.lt_trans h (by decide))
      have h1 := hm s (by omega)
      have h2 := hm t (by omega)
      have h3 := hm c (by omega)
      rw [hy]
      have hm4 : magicL.length = 4 := rfl
      rcases k with _ | _ | _ | k <;> simp only [pre, List.length_append] <;> omega
    have Hsrc := Lib.hid hsrc
    have Hown := Lib.hid hown
    have Hy := Lib.hid hy
    have K1 := Lib.hid k1
    have K2 := Lib.hid k2
    have K3 := Lib.hid k3
    clear hsrc hown hB0 hy k1 k2 k3
    have hk4 : k = 0 ∨ k = 1 ∨ k = 2 ∨ k = 3 := by omega
    rcases hk4 with rfl | rfl | rfl | rfl
    · obtain rfl : kk = 0 := by omega
      clear hkk
      have hix := fun w' => (run_idx3 s t c w').1
      have hcase : s < 0 ∨ 9007199254740992 < s ∨ (¬ s < 0 ∧ ¬ 9007199254740992 < s ∧ (s == 0) = true) ∨ (¬ s < 0 ∧ ¬ 9007199254740992 < s ∧ 0 ≤ s ∧ s ≤ 9007199254740992 ∧ (s == 0) = false) := by
        by_cases h0 : s = 0
        · exact Or.inr (Or.inr (Or.inl ⟨by omega, by omega, by simpa using h0⟩))
        · by_cases h1 : s < 0
          · exact Or.inl h1
          · by_cases h2 : 9007199254740992 < s
            · exact Or.inr (Or.inl h2)
            · exact Or.inr (Or.inr (Or.inr ⟨h1, h2, by omega, by omega, by simpa using h0⟩))
      rcases hcase with h1 | h1 | ⟨h1, h2, h3⟩ | ⟨h1, h2, h3, h4, h5⟩
      · go_wp2
        go_ret2
        exact RbPost.bad 2 (by unfold rbErr; rw [if_pos (by omega)]) (by decide) (hW.trans (hB.mono hW.size))
      · go_wp2
        go_ret2
        exact RbPost.bad 2 (by unfold rbErr; rw [if_pos (by omega)]) (by decide) (hW.trans (hB.mono hW.size))
      · have hne : s < 1 := by
          have h0 : s = 0 := by simpa using h3
          omega
        go_wp2
        go_ret2
        exact RbPost.bad 2 (by unfold rbErr; rw [if_pos (Or.inl hne)]) (by decide) (hW.trans (hB.mono hW.size))
      · have hU := bUint_any wr (.slice a' y.length c') y s.toNat Hsrc.out (by omega) (by omega)
        rw [Int.toNat_of_nonneg (by omega : 0 ≤ s)] at hU
        obtain ⟨y2, hy2⟩ : ∃ y2, y ++ vint s.toNat = y2 := ⟨_, rfl⟩
        rw [hy2] at hU
        have hpre : y2 = pre s t c 1 := by rw [← hy2, Hy.out]; rfl
        have Hpre := Lib.hid hpre
        have HU := Lib.hid hU
        clear hU hpre hy2
        go_wp2_with (go_at_call 61; refine HU.out.mono ?_; rintro e w1 ⟨a1, c1, rfl, hG⟩; have HG := Lib.hid hG; clear hG)
        go_roundw
        case rel =>
          obtain ⟨hr1, hr2⟩ := Grew.own0 hB Hown.out HG.out
          exact ⟨1, 1, y2, a1, c1, by omega, rfl, rfl, Hpre.out, rfl, Or.inl (ownsRow_base0 hr1), fun g hg => row_from hr1 hg, hr2, fun _ => ⟨Int.lt_iff_le_and_ne.2 ⟨h3, fun e => by subst e; simp at h5⟩, h4⟩, fun h => by omega, fun h => by omega⟩
        case measure => simp [intOf]
    · obtain rfl : kk = 1 := by omega
      clear hkk
      have hix := fun w' => (run_idx3 s t c w').2.1
      rcases (by omega : t < 0 ∨ 9007199254740992 < t ∨ (¬ t < 0 ∧ ¬ 9007199254740992 < t ∧ 0 ≤ t ∧ t ≤ 9007199254740992)) with h1 | h1 | ⟨h1, h2, h3, h4⟩
      · go_wp2
        go_ret2
        exact RbPost.bad 2 (by unfold rbErr; rw [if_pos (by omega)]) (by decide) (hW.trans (hB.mono hW.size))
      · go_wp2
        go_ret2
        exact RbPost.bad 2 (by unfold rbErr; rw [if_pos (by omega)]) (by decide) (hW.trans (hB.mono hW.size))
      · have hU := bUint_any wr (.slice a' y.length c') y t.toNat Hsrc.out (by omega) (by omega)
        rw [Int.toNat_of_nonneg (by omega : 0 ≤ t)] at hU
        obtain ⟨y2, hy2⟩ : ∃ y2, y ++ vint t.toNat = y2 := ⟨_, rfl⟩
        rw [hy2] at hU
        have hpre : y2 = pre s t c 2 := by rw [← hy2, Hy.out]; rfl
        have Hpre := Lib.hid hpre
        have HU := Lib.hid hU
        clear hU hpre hy2
        go_wp2_with (go_at_call 61; refine HU.out.mono ?_; rintro e w1 ⟨a1, c1, rfl, hG⟩; have HG := Lib.hid hG; clear hG)
        go_roundw
        case rel =>
          obtain ⟨hr1, hr2⟩ := Grew.own0 hB Hown.out HG.out
          exact ⟨2, 2, y2, a1, c1, by omega, rfl, rfl, Hpre.out, rfl, Or.inl (ownsRow_base0 hr1), fun g hg => row_from hr1 hg, hr2, fun _ => K1.out (by omega), fun _ => ⟨h3, h4⟩, fun h => by omega⟩
        case measure => simp [intOf]
    · obtain rfl : kk = 2 := by omega
      clear hkk
      have hix := fun w' => (run_idx3 s t c w').2.2
      rcases (by omega : c < 0 ∨ 9007199254740992 < c ∨ (¬ c < 0 ∧ ¬ 9007199254740992 < c ∧ 0 ≤ c ∧ c ≤ 9007199254740992)) with h1 | h1 | ⟨h1, h2, h3, h4⟩
      · go_wp2
        go_ret2
        exact RbPost.bad 2 (by unfold rbErr; rw [if_pos (by omega)]) (by decide) (hW.trans (hB.mono hW.size))
      · go_wp2
        go_ret2
        exact RbPost.bad 2 (by unfold rbErr; rw [if_pos (by omega)]) (by decide) (hW.trans (hB.mono hW.size))
      · have hU := bUint_any wr (.slice a' y.length c') y c.toNat Hsrc.out (by omega) (by omega)
        rw [Int.toNat_of_nonneg (by omega : 0 ≤ c)] at hU
        obtain ⟨y2, hy2⟩ : ∃ y2, y ++ vint c.toNat = y2 := ⟨_, rfl⟩
        rw [hy2] at hU
        have hpre : y2 = pre s t c 3 := by rw [← hy2, Hy.out]; rfl
        have Hpre := Lib.hid hpre
        have HU := Lib.hid hU
        clear hU hpre hy2
        go_wp2_with (go_at_call 61; refine HU.out.mono ?_; rintro e w1 ⟨a1, c1, rfl, hG⟩; have HG := Lib.hid hG; clear hG)
        go_roundw
        case rel =>
          obtain ⟨hr1, hr2⟩ := Grew.own0 hB Hown.out HG.out
          exact ⟨3, 3, y2, a1, c1, by omega, rfl, rfl, Hpre.out, rfl, Or.inl (ownsRow_base0 hr1), fun g hg => row_from hr1 hg, hr2, fun _ => K1.out (by omega), fun _ => K2.out (by omega), fun _ => ⟨h3, h4⟩⟩
        case measure => simp [intOf]
    · obtain rfl : kk = 3 := by omega
      clear hkk
      have k1 := K1.out (by omega)
      have k2 := K2.out (by omega)
      have k3 := K3.out (by omega)
      have her : rbErr s t c b.length = if 1048576 < b.length then 3 else 0 := by unfold rbErr; rw [if_neg (by omega)]
      have hc3 := (hB.cell (p := ⟨w.heap.size, 3, none⟩) hwl).trans Hc3.out
      by_cases hbl : 1048576 < b.length
      · rw [if_pos hbl] at her
        have hbl' : (1048576 : Int) < (b.length : Int) := by omega
        have Her := Lib.hid her
        clear her k1 k2 k3
        go_wp2
        go_ret2
        exact RbPost.bad 3 Her.out (by decide) (hW.trans (hB.mono hW.size))
      · rw [if_neg hbl] at her
        have hbl' : ¬ (1048576 : Int) < (b.length : Int) := by omega
        obtain ⟨L, hL⟩ : ∃ L, y ++ (vint b.length ++ b) = L := ⟨_, rfl⟩
        have hLb : L = (aroot s t c b).bytes := by
          rw [← hL, Hy.out]
          simp [pre, ARoot.bytes, aroot, magicL]
        have hLl : L.length ≤ 1099511627776 := by
          rw [← hL]
          have := vint_len (n := b.length) (k := 10) (by omega) (Nat.lt_of_le_of_lt (by omega : b.length ≤ 1048576) (by decide))
          simp only [List.length_append]; omega
        have hBl := bBlob_any wr (.slice a' y.length c') (.slice ab b.length cb) y b Hsrc.out (Hrd0.out.below hB) (fun w' hu => Hrd0.out.below (hB.trans (hu.below (fun k hk => Hown.out k hk) hB.size))) (by omega) (by omega)
        rw [hL] at hBl
        have hout : rbOut s t c b = L ++ sumL L := by unfold rbOut sealL; rw [if_pos her, hLb]
        have HBl := Lib.hid hBl
        have Hout := Lib.hid hout
        have Her := Lib.hid her
        clear hBl hout her hL hLb k1 k2 k3
        go_wp2_with first
          | (go_at_call 63; refine HBl.out.mono ?_; rintro e w1 ⟨a1, c1, rfl, hG⟩; have HG := Lib.hid hG; clear hG)
          | (go_at_call 62; refine (bSeal_any w1 _ L (Rd.ofOwns HG.out.row) hLl).mono ?_; rintro e w2 ⟨a2, c2, rfl, hR, hB2⟩; have HR := Lib.hid hR; clear hR)
        go_ret2
        have hBw : Below w.heap.size w w2 := (hW.trans ((Grew.own0 hB Hown.out HG.out).2.mono hW.size)).trans (hB2.mono (Nat.le_trans hW.size (Grew.own0 hB Hown.out HG.out).2.size))
        exact ⟨a2, c2, by rw [Her.out, Hout.out]; simp, by rw [Hout.out]; exact ownsRow_from HR.out (fun g hg => Nat.le_trans (Nat.le_trans hW.size (Grew.own0 hB Hown.out HG.out).2.size) (row_from HR.out hg)), hBw⟩
end Go.Proofs.YtkacgmbinkoojaaGreatDoor

/-
  Package roots: Parse.
-/
namespace Go.Proofs.YtkacgmbinkoojaaGreatDoor
open Go.RowKit Go.Maps Go.MapKept

def pEnd (l : List UInt8) (at_ s t c : Nat) : Option ARoot :=
  match gB (l.drop at_) 1048576 with
  | (0, b, k4) => if at_ + k4 < l.length then none else some ⟨s, t, c, b⟩
  | _ => none
/-- what is still to be parsed, k numbers being known. -/
def pNum (l : List UInt8) (k at_ s t c : Nat) : Option ARoot :=
  match k with
  | 0 => match gU (l.drop at_) with
    | (0, x, k1) => if 9007199254740992 < x ∨ x = 0 then none else
      match gU (l.drop (at_ + k1)) with
      | (0, y, k2) => if 9007199254740992 < y then none else
        match gU (l.drop (at_ + k1 + k2)) with
        | (0, z, k3) => if 9007199254740992 < z then none else pEnd l (at_ + k1 + k2 + k3) x y z
        | _ => none
      | _ => none
    | _ => none
  | 1 => match gU (l.drop at_) with
      | (0, y, k2) => if 9007199254740992 < y then none else
        match gU (l.drop (at_ + k2)) with
        | (0, z, k3) => if 9007199254740992 < z then none else pEnd l (at_ + k2 + k3) s y z
        | _ => none
      | _ => none
  | 2 => match gU (l.drop at_) with
        | (0, z, k3) => if 9007199254740992 < z then none else pEnd l (at_ + k3) s t z
        | _ => none
  | _ => pEnd l at_ s t c
theorem pRoot_num (l : List UInt8) : pRoot l = if isMagic l = true then pNum l 0 4 0 0 0 else none := by
  unfold pRoot isMagic
  simp only [decide_eq_true_eq]
  rfl
/-- a number is read: it may be, or all is over. -/
theorem pNum_bad {l : List UInt8} {k at_ s t c n j : Nat} (hk : k ≤ 2) (h : ∃ er : Int, gU (l.drop at_) = (er, n, j) ∧ (er ≠ 0 ∨ 9007199254740992 < n ∨ (k = 0 ∧ n = 0))) : pNum l k at_ s t c = none := by
  obtain ⟨er, hg, hb⟩ := h
  have hk3 : k = 0 ∨ k = 1 ∨ k = 2 := by omega
  by_cases h0 : er = 0
  · subst h0
    rcases hk3 with rfl | rfl | rfl
    · simp only [pNum, hg]; rw [if_pos (by rcases hb with h | h | h; exact absurd rfl h; exact Or.inl h; exact Or.inr h.2)]
    · simp only [pNum, hg]; rw [if_pos (by rcases hb with h | h | h; exact absurd rfl h; exact h; exact absurd h.1 (by decide))]
    · simp only [pNum, hg]; rw [if_pos (by rcases hb with h | h | h; exact absurd rfl h; exact h; exact absurd h.1 (by decide))]
  · have : ∀ (A : Nat → Nat → Option ARoot), (match (er, n, j) with | (0, x, y) => A x y | _ => none) = none := by
      intro A
      split
      · rename_i heq; simp only [Prod.mk.injEq] at heq; exact absurd heq.1 h0
      · rfl
    rcases hk3 with rfl | rfl | rfl
    · simp only [pNum, hg]; exact this _
    · simp only [pNum, hg]; exact this _
    · simp only [pNum, hg]; exact this _
theorem pNum_good0 {l : List UInt8} {at_ n j : Nat} (hg : gU (l.drop at_) = (0, n, j)) (h1 : n ≤ 9007199254740992) (h0 : n ≠ 0) : pNum l 0 at_ 0 0 0 = pNum l 1 (at_ + j) n 0 0 := by
  simp only [pNum, hg]; rw [if_neg (by omega)]
theorem pNum_good1 {l : List UInt8} {at_ s n j : Nat} (hg : gU (l.drop at_) = (0, n, j)) (h1 : n ≤ 9007199254740992) : pNum l 1 at_ s 0 0 = pNum l 2 (at_ + j) s n 0 := by
  simp only [pNum, hg]; rw [if_neg (by omega)]
theorem pNum_good2 {l : List UInt8} {at_ s t n j : Nat} (hg : gU (l.drop at_) = (0, n, j)) (h1 : n ≤ 9007199254740992) : pNum l 2 at_ s t 0 = pNum l 3 (at_ + j) s t n := by
  simp only [pNum, hg]; rw [if_neg (by omega)]
theorem gB_len {l b : List UInt8} {most k : Nat} (h : gB l most = (0, b, k)) : b.length ≤ l.length ∧ k ≤ l.length := by
  unfold gB at h
  cases hu : gU l with
  | mk e nk =>
    obtain ⟨n, k'⟩ := nk
    rw [hu] at h
    by_cases h0 : e = 0
    · subst h0
      obtain ⟨_, _, hj, _, _⟩ := gU_ok hu
      simp only at h
      split at h
      · cases h
      · split at h
        · cases h
        · cases h
          simp only [List.length_take, List.length_drop]
          omega
    · split at h
      · rename_i heq; simp only [Prod.mk.injEq] at heq; exact absurd heq.1 h0
      · rename_i heq; simp only [Prod.mk.injEq] at heq h; exact absurd (heq.1.trans h.1) h0
end Go.Proofs.YtkacgmbinkoojaaGreatDoor

/-
  Package roots: the walk of Parse.
-/
namespace Go.Proofs.YtkacgmbinkoojaaGreatDoor
open Go.RowKit Go.Maps Go.MapKept

def root0 : ARoot := ⟨0, 0, 0, []⟩
/-- what Parse hands back. -/
def parseR (l : List UInt8) : ARoot := (parseL sumL l).2.getD root0
def parseE (l : List UInt8) : Int := (parseL sumL l).1
def RpPost (l : List UInt8) (w : World) (e : Ending) (w' : World) : Prop :=
  ∃ a c, e = .returned (.tuple #[rootV (parseR l).serial (parseR l).tick (parseR l).commit (.slice a (parseR l).blob.length c), .int .i64 (parseE l)]) ∧
    w'.ownsRow w.heap.size 5 1 (.slice a (parseR l).blob.length c) (parseR l).blob.length (bcells (parseR l).blob) ∧ Below w.heap.size w w'
theorem RpPost.bad {l : List UInt8} {w w' : World} (er : Int) (h : parseL sumL l = (er, none)) (hB : Below w.heap.size w w') : RpPost l w (.returned (.tuple #[.agg #[.int .i64 0, .int .i64 0, .int .i64 0, .slice none 0 0], .int .i64 er])) w' := by
  refine ⟨none, 0, ?_, ?_, hB⟩
  · unfold parseR parseE; rw [h]; rfl
  · unfold parseR; rw [h]; exact World.ownsRow_nil _ _ _ _
theorem RpPost.good {l : List UInt8} {w w' : World} (r : ARoot) (h : parseL sumL l = (0, some r)) (a : Option Addr) (c : Nat) (hr : w'.ownsRow w.heap.size 5 1 (.slice a r.blob.length c) r.blob.length (bcells r.blob)) (hB : Below w.heap.size w w') :
    RpPost l w (.returned (.tuple #[rootV r.serial r.tick r.commit (.slice a r.blob.length c), .int .i64 0])) w' := by
  refine ⟨a, c, ?_, ?_, hB⟩
  · unfold parseR parseE; rw [h]; rfl
  · unfold parseR; rw [h]; exact hr
theorem parse_un {l b : List UInt8} {er : Int} (h : unsealL sumL l = (er, b)) : parseL sumL l = if er = 0 then (match pRoot b with | some r => (0, some r) | none => (10, none)) else (er, none) := by
  unfold parseL
  rw [h]
  by_cases h0 : er = 0
  · subst h0; rw [if_pos rfl]; rfl
  · rw [if_neg h0]
    split
    · rename_i heq; simp only [Prod.mk.injEq] at heq; exact absurd heq.1 h0
    · rename_i heq; simp only [Prod.mk.injEq] at heq; rw [heq.1]
theorem cellsZ {w : World} {b : Nat} {T : TypeId} (h : w.heap[b]? = some (.cells #[.int .i64 0, .int .i64 0, .int .i64 0, .slice none 0 0] T (0, 0))) :
    w.cell? ⟨b, 0, none⟩ = some (.int .i64 0) ∧ w.cell? ⟨b, 1, none⟩ = some (.int .i64 0) ∧ w.cell? ⟨b, 2, none⟩ = some (.int .i64 0) ∧ w.cell? ⟨b, 3, none⟩ = some (.slice none 0 0) ∧
      w.frozen? ⟨b, 0, none⟩ = false ∧ w.frozen? ⟨b, 1, none⟩ = false ∧ w.frozen? ⟨b, 2, none⟩ = false ∧ w.frozen? ⟨b, 3, none⟩ = false := cells4 h

theorem setCell4_upd {w : World} {b : Nat} (x y z u : Value) : Upd (· = b) w ((((w.setCell ⟨b, 0, none⟩ x).setCell ⟨b, 1, none⟩ y).setCell ⟨b, 2, none⟩ z).setCell ⟨b, 3, none⟩ u) :=
  ((setCell2_upd x y).trans (setCell_upd 2 z) (fun _ hk => Or.inl hk)).trans (setCell_upd 3 u) (fun _ hk => Or.inl hk)
set_option maxRecDepth 100000 in
set_option maxHeartbeats 8000000 in
theorem rParse_any (w : World) (v : Value) (l : List UInt8) (hv : Rd w v (bcells l)) (hcap : CapOk v) (hl : l.length ≤ 1099511627776) :
    Calls Tryz.prog 39 #[v] w (RpPost l w) := by
  obtain ⟨er, b, hun⟩ : ∃ er b, unsealL sumL l = (er, b) := ⟨_, _, rfl⟩
  have hpar := parse_un hun
  have hbl : b.length ≤ l.length := by
    unfold unsealL at hun
    split at hun
    · cases hun; simp
    · split at hun
      · cases hun; simp
      · cases hun; simp
  obtain ⟨W, hW⟩ : ∃ W, w.alloc (.cells #[.int .i64 0, .int .i64 0, .int .i64 0, .slice none 0 0] 35) = W := ⟨_, rfl⟩
  have hz0 : W.heap[w.heap.size]? = some (.cells #[.int .i64 0, .int .i64 0, .int .i64 0, .slice none 0 0] 35 (0, 0)) := by rw [← hW]; exact alloc_at _ _
  have hBW : Below w.heap.size w W := by rw [← hW]; exact (Below.refl _ _).alloc (Nat.le_refl _) _
  have hU := bUnseal_any W v l (hv.below hBW) hcap hl
  unfold UnPost at hU
  rw [hun] at hU
  simp only at hU
  obtain ⟨a, c, rfl⟩ := hv.shape
  rw [bcells_length] at hU ⊢
  have hwW : w.heap.size < W.heap.size := blk_lt hz0
  have Hz0 := Lib.hid hz0
  have HU := Lib.hid hU
  have HW := Lib.hid hW
  have Hpar := Lib.hid hpar
  clear hz0 hU hun hpar hv hcap hW
  by_cases h0 : er = 0
  · subst h0
    have hpar2 := Hpar.out
    rw [if_pos rfl] at hpar2
    by_cases hm : isMagic b = true
    · have hnum : pRoot b = pNum b 0 4 0 0 0 := by rw [pRoot_num, if_pos hm]
      have hb4 : 4 ≤ b.length := by
        unfold isMagic at hm
        have := congrArg List.length (of_decide_eq_true hm)
        simp at this; omega
      have Hpar2 := Lib.hid hpar2
      have Hnum := Lib.hid hnum
      have Hm := Lib.hid hm
      clear hpar2 hnum hm
      go_enter Tryz.func39, Tryz.ntmps39
      go_wp2_with first
        | (go_at_call 70; rw [HW.out]; refine HU.out.mono ?_; rintro e w1 ⟨a1, c1, rfl, hR, hB1⟩; have HR := Lib.hid hR; clear hR; obtain ⟨q0, q1, q2, q3, f0, f1, f2, f3⟩ := cellsZ ((hB1.block w.heap.size hwW).trans Hz0.out); have hcv := run_bytes_str (P := Tryz.prog) (Rd.ofOwns HR.out) Tryz.underlying33 Tryz.underlying5 Tryz.underlying9)
        | (go_at_call 71; refine (magic_any _ b (by omega)).mono ?_; rw [Hm.out]; rintro e w2 ⟨rfl, rfl⟩)
      have hrow1 := HR.out
      obtain ⟨_, _, hv1, hnc1, hcm1, _⟩ := row_slice (ownsRow_base0 hrow1)
      cases hv1
      have hnb : ∀ g, (Value.slice a1 b.length c1).ownBlock = some g → g < w1.heap.size := fun g hg => row_lt hrow1 hg
      have hBw1 : Below w.heap.size w w1 := hBW.trans (hB1.mono hBW.size)
      have hzV := alloc_old ((hB1.block w.heap.size hwW).trans Hz0.out) (.cells #[.int .i64 0, .int .i64 0, .int .i64 0] 99)
      have hnV := alloc_at w1 (.cells #[.int .i64 0, .int .i64 0, .int .i64 0] 99)
      have hU1 : Upd noFp w1 (w1.alloc (.cells #[.int .i64 0, .int .i64 0, .int .i64 0] 99)) := (Upd.refl _ _).alloc _
      have hne : w.heap.size ≠ w1.heap.size := by have := hB1.size; omega
      generalize w1.alloc (.cells #[.int .i64 0, .int .i64 0, .int .i64 0] 99) = V at hzV hnV hU1 ⊢
      have HzV := Lib.hid hzV
      have HnV := Lib.hid hnV
      have Hnb := Lib.hid hnb
      have Hne := Lib.hid hne
      clear hzV hnV hcv q0 q1 q2 q3 f0 f1 f2 f3 hrow1 hnb hne
      go_loopw [6, 8, 9, 10, 11, 27] (fun p _ _ _ _ i wr => ∃ (k at_ s t c : Nat) (kk : Int), k ≤ 3 ∧ kk = k ∧ i = .int .i64 kk ∧ p = .int .i64 at_ ∧ at_ ≤ b.length ∧ wr.heap[w1.heap.size]? = some (.cells #[.int .i64 s, .int .i64 t, .int .i64 c] 99 (0, 0)) ∧ Upd (· = w1.heap.size) V wr ∧
        pRoot b = pNum b k at_ s t c ∧ (k ≤ 0 → s = 0) ∧ (k ≤ 1 → t = 0) ∧ (k ≤ 2 → c = 0) ∧ s ≤ 9007199254740992 ∧ t ≤ 9007199254740992 ∧ c ≤ 9007199254740992) (fun _ _ _ _ _ i _ => 3 - (intOf i).toNat)
      case atStart => exact ⟨0, 4, 0, 0, 0, 0, by omega, rfl, rfl, rfl, hb4, HnV.out, Upd.refl _ _, Hnum.out, fun _ => rfl, fun _ => rfl, fun _ => rfl, by omega, by omega, by omega⟩
      case round =>
        obtain ⟨k, at_, s, t, c', kk, hk, hkk, rfl, rfl, hat, hnr, hUr, hnum, hs0, ht0, hc0, hs1, ht1, hc1⟩ := hrel
        have hnr0 := blk_lt hnr
        have hUr1 : Upd (· = w1.heap.size) w1 wr := (hU1.mono (fun _ h => h.elim)).trans hUr (fun k hk => Or.inl hk)
        have hzr := hUr.keep HzV.out Hne.out
        have hrowr := hUr1.row HR.out (fun g hg e => by have := Hnb.out g hg; omega)
        have hBr : Below w.heap.size w wr := hBw1.trans (hUr1.below (fun k hk => by have := hBw1.size; omega) hBw1.size)
        have hrdr := Rd.ofOwns hrowr
        have hcapr : CapOk (.slice a1 b.length c1) := ⟨_, _, _, rfl, hnc1, hcm1⟩
        have Hzr := Lib.hid hzr
        have Hnr := Lib.hid hnr
        have hnum2 := hnum
        clear Hnum
        have Hnum := Lib.hid hnum2
        clear hzr hnr hnum hnum2 hrowr
        have hk4 : k = 0 ∨ k = 1 ∨ k = 2 ∨ k = 3 := by omega
        by_cases hk3 : k = 3
        · subst hk3
          obtain rfl : kk = 3 := by omega
          clear hkk hk4 hs0 ht0 hc0
          obtain ⟨er3, bb, k4, hgb⟩ : ∃ er3 bb k4, gB (b.drop at_) 1048576 = (er3, bb, k4) := ⟨_, _, _, rfl⟩
          have hG := bGetBlob_any wr (.slice a1 b.length c1) b at_ 1048576 hrdr hcapr hat (by omega) (by omega)
          unfold GbPost at hG
          rw [hgb, show (((1048576 : Nat) : Nat) : Int) = 1048576 from rfl] at hG
          simp only at hG
          have hpe : pRoot b = match (er3, bb, k4) with | (0, b', k4) => if at_ + k4 < b.length then none else some ⟨s, t, c', b'⟩ | _ => none := by
            rw [Hnum.out, ← hgb]; rfl
          by_cases he : er3 = 0
          · subst he
            simp only [if_true] at hG hpe
            have hbb := gB_len hgb
            rw [List.length_drop] at hbb
            have hbb1 : bb.length ≤ b.length := by omega
            have hbb2 : at_ + k4 ≤ b.length := by omega
            have HG := Lib.hid hG
            clear hG hgb hrdr hcapr
            by_cases hlt : at_ + k4 < b.length
            · rw [if_pos hlt] at hpe
              have hlt' : (at_ : Int) + (k4 : Int) < (b.length : Int) := by omega
              have hp10 : parseL sumL l = (10, none) := by rw [Hpar2.out, hpe]
              have Hp10 := Lib.hid hp10
              clear hp10 hpe
              go_wp2_with (go_at_call 73; refine HG.out.mono ?_; rintro e w3 ⟨a3, c3, rfl, hR3, hB3⟩; have HR3 := Lib.hid hR3; clear hR3; obtain ⟨q0, q1, q2, q3, f0, f1, f2, f3⟩ := cellsZ ((hB3.block w.heap.size (blk_lt Hzr.out)).trans Hzr.out); obtain ⟨n0, n1, n2, g0, g1, g2⟩ := cells3 ((hB3.block w1.heap.size (blk_lt Hnr.out)).trans Hnr.out))
              refine bodyPost_ret (v := .tuple #[.agg #[.int .i64 0, .int .i64 0, .int .i64 0, .slice none 0 0], .int .i64 10]) (by simp [results, Tryz.results39, go_sem, q0, q1, q2, q3]) rfl (RpPost.bad 10 Hp10.out ?_)
              exact ((((hBr.trans (hB3.mono hBr.size)).setCell (Nat.le_refl _) _).setCell (Nat.le_refl _) _).setCell (Nat.le_refl _) _).setCell (Nat.le_refl _) _
            · rw [if_neg hlt] at hpe
              have hlt' : ¬ (at_ : Int) + (k4 : Int) < (b.length : Int) := by omega
              have hp : parseL sumL l = (0, some ⟨s, t, c', bb⟩) := by rw [Hpar2.out, hpe]
              have Hp := Lib.hid hp
              clear hp hpe
              go_wp2_with (go_at_call 73; refine HG.out.mono ?_; rintro e w3 ⟨a3, c3, rfl, hR3, hB3⟩; have HR3 := Lib.hid hR3; clear hR3; obtain ⟨q0, q1, q2, q3, f0, f1, f2, f3⟩ := cellsZ ((hB3.block w.heap.size (blk_lt Hzr.out)).trans Hzr.out); obtain ⟨n0, n1, n2, g0, g1, g2⟩ := cells3 ((hB3.block w1.heap.size (blk_lt Hnr.out)).trans Hnr.out))
              refine bodyPost_ret (v := .tuple #[rootV s t c' (.slice a3 bb.length c3), .int .i64 0]) (by simp [results, Tryz.results39, go_sem, rootV, q0, q1, q2, q3]) rfl (RpPost.good ⟨s, t, c', bb⟩ Hp.out a3 c3 ?_ ?_)
              · have hU4 := setCell4_upd (w := w3) (b := w.heap.size) (.int .i64 s) (.int .i64 t) (.int .i64 c') (.slice a3 bb.length c3)
                have h1 := blk_lt Hzr.out
                exact hU4.row (ownsRow_from HR3.out (fun g hg => Nat.le_trans hBr.size (row_from HR3.out hg))) (fun g hg e => by have := row_from HR3.out hg; omega)
              · exact ((((hBr.trans (hB3.mono hBr.size)).setCell (Nat.le_refl _) _).setCell (Nat.le_refl _) _).setCell (Nat.le_refl _) _).setCell (Nat.le_refl _) _
          · have heb : (er3 != 0) = true := by simpa using he
            have hpe2 : pRoot b = none := by
              rw [hpe]
              split
              · rename_i heq; simp only [Prod.mk.injEq] at heq; exact absurd heq.1 he
              · rfl
            have hp10 : parseL sumL l = (10, none) := by rw [Hpar2.out, hpe2]
            rw [if_neg he] at hG
            have Hp10 := Lib.hid hp10
            have HG := Lib.hid hG
            clear hG hgb hrdr hcapr hp10 hpe hpe2 he
            go_wp2_with (go_at_call 73; refine HG.out.mono ?_; rintro e w3 ⟨a3, c3, rfl, hR3, hB3⟩; have HR3 := Lib.hid hR3; clear hR3; obtain ⟨q0, q1, q2, q3, f0, f1, f2, f3⟩ := cellsZ ((hB3.block w.heap.size (blk_lt Hzr.out)).trans Hzr.out); obtain ⟨n0, n1, n2, g0, g1, g2⟩ := cells3 ((hB3.block w1.heap.size (blk_lt Hnr.out)).trans Hnr.out))
            refine bodyPost_ret (v := .tuple #[.agg #[.int .i64 0, .int .i64 0, .int .i64 0, .slice none 0 0], .int .i64 10]) (by simp [results, Tryz.results39, go_sem, q0, q1, q2, q3]) rfl (RpPost.bad 10 Hp10.out ?_)
            exact ((((hBr.trans (hB3.mono hBr.size)).setCell (Nat.le_refl _) _).setCell (Nat.le_refl _) _).setCell (Nat.le_refl _) _).setCell (Nat.le_refl _) _
        · obtain ⟨er2, n, j, hgu⟩ : ∃ er2 n j, gU (b.drop at_) = (er2, n, j) := ⟨_, _, _, rfl⟩
          have hG := bGetUint_any wr (.slice a1 b.length c1) b at_ hrdr hcapr hat (by omega)
          unfold GuPost guVal guNext guErr at hG
          rw [hgu] at hG
          simp only at hG
          by_cases he : er2 = 0
          · subst he
            simp only [if_true] at hG
            obtain ⟨_, _, hj, _, hn64⟩ := gU_ok hgu
            rw [List.length_drop] at hj
            have HG := Lib.hid hG
            have Hgu := Lib.hid hgu
            clear hG hgu hrdr hcapr
            by_cases hbig : 9007199254740992 < n
            · have hbig' : (9007199254740992 : Int) < (n : Int) := by omega
              rcases (by omega : k = 0 ∨ k = 1 ∨ k = 2) with rfl | rfl | rfl
              · obtain rfl : kk = 0 := by omega
                clear hkk hk4 hs0 ht0 hc0
                have hnone : pRoot b = none := by rw [Hnum.out]; exact pNum_bad (by omega) ⟨_, Hgu.out, Or.inr (Or.inl hbig)⟩
                have hp10 : parseL sumL l = (10, none) := by rw [Hpar2.out, hnone]
                have Hp10 := Lib.hid hp10
                clear hnone hp10
                go_wp2_with (go_at_call 72; refine HG.out.mono ?_; rintro e w3 ⟨rfl, hB3⟩; obtain ⟨q0, q1, q2, q3, f0, f1, f2, f3⟩ := cellsZ ((hB3.block w.heap.size (blk_lt Hzr.out)).trans Hzr.out); obtain ⟨n0, n1, n2, g0, g1, g2⟩ := cells3 ((hB3.block w1.heap.size (blk_lt Hnr.out)).trans Hnr.out); have HB3 := Lib.hid ((hB3.block w1.heap.size (blk_lt Hnr.out)).trans Hnr.out))
                refine bodyPost_ret (v := .tuple #[.agg #[.int .i64 0, .int .i64 0, .int .i64 0, .slice none 0 0], .int .i64 10]) (by simp [results, Tryz.results39, go_sem, q0, q1, q2, q3]) rfl (RpPost.bad 10 Hp10.out ?_)
                exact ((((hBr.trans (hB3.mono hBr.size)).setCell (Nat.le_refl _) _).setCell (Nat.le_refl _) _).setCell (Nat.le_refl _) _).setCell (Nat.le_refl _) _
              · obtain rfl : kk = 1 := by omega
                clear hkk hk4 hs0 ht0 hc0
                have hnone : pRoot b = none := by rw [Hnum.out]; exact pNum_bad (by omega) ⟨_, Hgu.out, Or.inr (Or.inl hbig)⟩
                have hp10 : parseL sumL l = (10, none) := by rw [Hpar2.out, hnone]
                have Hp10 := Lib.hid hp10
                clear hnone hp10
                go_wp2_with (go_at_call 72; refine HG.out.mono ?_; rintro e w3 ⟨rfl, hB3⟩; obtain ⟨q0, q1, q2, q3, f0, f1, f2, f3⟩ := cellsZ ((hB3.block w.heap.size (blk_lt Hzr.out)).trans Hzr.out); obtain ⟨n0, n1, n2, g0, g1, g2⟩ := cells3 ((hB3.block w1.heap.size (blk_lt Hnr.out)).trans Hnr.out); have HB3 := Lib.hid ((hB3.block w1.heap.size (blk_lt Hnr.out)).trans Hnr.out))
                refine bodyPost_ret (v := .tuple #[.agg #[.int .i64 0, .int .i64 0, .int .i64 0, .slice none 0 0], .int .i64 10]) (by simp [results, Tryz.results39, go_sem, q0, q1, q2, q3]) rfl (RpPost.bad 10 Hp10.out ?_)
                exact ((((hBr.trans (hB3.mono hBr.size)).setCell (Nat.le_refl _) _).setCell (Nat.le_refl _) _).setCell (Nat.le_refl _) _).setCell (Nat.le_refl _) _
              · obtain rfl : kk = 2 := by omega
                clear hkk hk4 hs0 ht0 hc0
                have hnone : pRoot b = none := by rw [Hnum.out]; exact pNum_bad (by omega) ⟨_, Hgu.out, Or.inr (Or.inl hbig)⟩
                have hp10 : parseL sumL l = (10, none) := by rw [Hpar2.out, hnone]
                have Hp10 := Lib.hid hp10
                clear hnone hp10
                go_wp2_with (go_at_call 72; refine HG.out.mono ?_; rintro e w3 ⟨rfl, hB3⟩; obtain ⟨q0, q1, q2, q3, f0, f1, f2, f3⟩ := cellsZ ((hB3.block w.heap.size (blk_lt Hzr.out)).trans Hzr.out); obtain ⟨n0, n1, n2, g0, g1, g2⟩ := cells3 ((hB3.block w1.heap.size (blk_lt Hnr.out)).trans Hnr.out); have HB3 := Lib.hid ((hB3.block w1.heap.size (blk_lt Hnr.out)).trans Hnr.out))
                refine bodyPost_ret (v := .tuple #[.agg #[.int .i64 0, .int .i64 0, .int .i64 0, .slice none 0 0], .int .i64 10]) (by simp [results, Tryz.results39, go_sem, q0, q1, q2, q3]) rfl (RpPost.bad 10 Hp10.out ?_)
                exact ((((hBr.trans (hB3.mono hBr.size)).setCell (Nat.le_refl _) _).setCell (Nat.le_refl _) _).setCell (Nat.le_refl _) _).setCell (Nat.le_refl _) _
            · have hbig' : ¬ (9007199254740992 : Int) < (n : Int) := by omega
              rcases (by omega : k = 0 ∨ k = 1 ∨ k = 2) with rfl | rfl | rfl
              · obtain rfl : kk = 0 := by omega
                obtain rfl := hs0 (by omega)
                obtain rfl := ht0 (by omega)
                obtain rfl := hc0 (by omega)
                clear hkk hk4 hs0 ht0 hc0
                by_cases hn0 : n = 0
                · have hn0b : ((n : Int) == 0) = true := by simp [hn0]
                  have hnone : pRoot b = none := by rw [Hnum.out]; exact pNum_bad (by omega) ⟨_, Hgu.out, Or.inr (Or.inr ⟨rfl, hn0⟩)⟩
                  have hp10 : parseL sumL l = (10, none) := by rw [Hpar2.out, hnone]
                  have Hp10 := Lib.hid hp10
                  clear hnone hp10
                  go_wp2_with (go_at_call 72; refine HG.out.mono ?_; rintro e w3 ⟨rfl, hB3⟩; obtain ⟨q0, q1, q2, q3, f0, f1, f2, f3⟩ := cellsZ ((hB3.block w.heap.size (blk_lt Hzr.out)).trans Hzr.out); obtain ⟨n0, n1, n2, g0, g1, g2⟩ := cells3 ((hB3.block w1.heap.size (blk_lt Hnr.out)).trans Hnr.out); have HB3 := Lib.hid ((hB3.block w1.heap.size (blk_lt Hnr.out)).trans Hnr.out))
                  refine bodyPost_ret (v := .tuple #[.agg #[.int .i64 0, .int .i64 0, .int .i64 0, .slice none 0 0], .int .i64 10]) (by simp [results, Tryz.results39, go_sem, q0, q1, q2, q3]) rfl (RpPost.bad 10 Hp10.out ?_)
                  exact ((((hBr.trans (hB3.mono hBr.size)).setCell (Nat.le_refl _) _).setCell (Nat.le_refl _) _).setCell (Nat.le_refl _) _).setCell (Nat.le_refl _) _
                · have hn0b : ((n : Int) == 0) = false := by simpa using hn0
                  have hnx : pRoot b = pNum b 1 (at_ + j) n 0 0 := by rw [Hnum.out]; exact pNum_good0 Hgu.out (by omega) (by omega)
                  have Hnx := Lib.hid hnx
                  clear hnx
                  go_wp2_with (go_at_call 72; refine HG.out.mono ?_; rintro e w3 ⟨rfl, hB3⟩; obtain ⟨q0, q1, q2, q3, f0, f1, f2, f3⟩ := cellsZ ((hB3.block w.heap.size (blk_lt Hzr.out)).trans Hzr.out); obtain ⟨n0, n1, n2, g0, g1, g2⟩ := cells3 ((hB3.block w1.heap.size (blk_lt Hnr.out)).trans Hnr.out); have HB3 := Lib.hid ((hB3.block w1.heap.size (blk_lt Hnr.out)).trans Hnr.out))
                  go_roundw
                  case rel => exact ⟨1, at_ + j, n, 0, 0, 1, by omega, rfl, rfl, by go_num, by omega, setCell_at HB3.out 0 _, (hUr.thenBelow hB3 hUr.size).setCell (Or.inl rfl) _, Hnx.out, by omega, by omega, by omega, by omega, by omega, by omega⟩
                  case measure => simp [intOf]
              · obtain rfl : kk = 1 := by omega
                obtain rfl := ht0 (by omega)
                obtain rfl := hc0 (by omega)
                clear hkk hk4 hs0 ht0 hc0
                have hnx : pRoot b = pNum b 2 (at_ + j) s n 0 := by rw [Hnum.out]; exact pNum_good1 Hgu.out (by omega)
                have Hnx := Lib.hid hnx
                clear hnx
                go_wp2_with (go_at_call 72; refine HG.out.mono ?_; rintro e w3 ⟨rfl, hB3⟩; obtain ⟨q0, q1, q2, q3, f0, f1, f2, f3⟩ := cellsZ ((hB3.block w.heap.size (blk_lt Hzr.out)).trans Hzr.out); obtain ⟨n0, n1, n2, g0, g1, g2⟩ := cells3 ((hB3.block w1.heap.size (blk_lt Hnr.out)).trans Hnr.out); have HB3 := Lib.hid ((hB3.block w1.heap.size (blk_lt Hnr.out)).trans Hnr.out))
                go_roundw
                case rel => exact ⟨2, at_ + j, s, n, 0, 2, by omega, rfl, rfl, by go_num, by omega, setCell_at HB3.out 1 _, (hUr.thenBelow hB3 hUr.size).setCell (Or.inl rfl) _, Hnx.out, by omega, by omega, by omega, by omega, by omega, by omega⟩
                case measure => simp [intOf]
              · obtain rfl : kk = 2 := by omega
                obtain rfl := hc0 (by omega)
                clear hkk hk4 hs0 ht0 hc0
                have hnx : pRoot b = pNum b 3 (at_ + j) s t n := by rw [Hnum.out]; exact pNum_good2 Hgu.out (by omega)
                have Hnx := Lib.hid hnx
                clear hnx
                go_wp2_with (go_at_call 72; refine HG.out.mono ?_; rintro e w3 ⟨rfl, hB3⟩; obtain ⟨q0, q1, q2, q3, f0, f1, f2, f3⟩ := cellsZ ((hB3.block w.heap.size (blk_lt Hzr.out)).trans Hzr.out); obtain ⟨n0, n1, n2, g0, g1, g2⟩ := cells3 ((hB3.block w1.heap.size (blk_lt Hnr.out)).trans Hnr.out); have HB3 := Lib.hid ((hB3.block w1.heap.size (blk_lt Hnr.out)).trans Hnr.out))
                go_roundw
                case rel => exact ⟨3, at_ + j, s, t, n, 3, by omega, rfl, rfl, by go_num, by omega, setCell_at HB3.out 2 _, (hUr.thenBelow hB3 hUr.size).setCell (Or.inl rfl) _, Hnx.out, by omega, by omega, by omega, by omega, by omega, by omega⟩
                case measure => simp [intOf]
          · have heb : (er2 != 0) = true := by simpa using he
            rw [if_neg he] at hG
            have HG := Lib.hid hG
            have Hgu := Lib.hid hgu
            have He := Lib.hid he
            clear hG hgu hrdr hcapr he
            rcases (by omega : k = 0 ∨ k = 1 ∨ k = 2) with rfl | rfl | rfl
            · obtain rfl : kk = 0 := by omega
              clear hkk hk4 hs0 ht0 hc0
              have hnone : pRoot b = none := by rw [Hnum.out]; exact pNum_bad (by omega) ⟨_, Hgu.out, Or.inl He.out⟩
              have hp10 : parseL sumL l = (10, none) := by rw [Hpar2.out, hnone]
              have Hp10 := Lib.hid hp10
              clear hnone hp10
              go_wp2_with (go_at_call 72; refine HG.out.mono ?_; rintro e w3 ⟨rfl, hB3⟩; obtain ⟨q0, q1, q2, q3, f0, f1, f2, f3⟩ := cellsZ ((hB3.block w.heap.size (blk_lt Hzr.out)).trans Hzr.out); obtain ⟨n0, n1, n2, g0, g1, g2⟩ := cells3 ((hB3.block w1.heap.size (blk_lt Hnr.out)).trans Hnr.out); have HB3 := Lib.hid ((hB3.block w1.heap.size (blk_lt Hnr.out)).trans Hnr.out))
              refine bodyPost_ret (v := .tuple #[.agg #[.int .i64 0, .int .i64 0, .int .i64 0, .slice none 0 0], .int .i64 10]) (by simp [results, Tryz.results39, go_sem, q0, q1, q2, q3]) rfl (RpPost.bad 10 Hp10.out ?_)
              exact ((((hBr.trans (hB3.mono hBr.size)).setCell (Nat.le_refl _) _).setCell (Nat.le_refl _) _).setCell (Nat.le_refl _) _).setCell (Nat.le_refl _) _
            · obtain rfl : kk = 1 := by omega
              clear hkk hk4 hs0 ht0 hc0
              have hnone : pRoot b = none := by rw [Hnum.out]; exact pNum_bad (by omega) ⟨_, Hgu.out, Or.inl He.out⟩
              have hp10 : parseL sumL l = (10, none) := by rw [Hpar2.out, hnone]
              have Hp10 := Lib.hid hp10
              clear hnone hp10
              go_wp2_with (go_at_call 72; refine HG.out.mono ?_; rintro e w3 ⟨rfl, hB3⟩; obtain ⟨q0, q1, q2, q3, f0, f1, f2, f3⟩ := cellsZ ((hB3.block w.heap.size (blk_lt Hzr.out)).trans Hzr.out); obtain ⟨n0, n1, n2, g0, g1, g2⟩ := cells3 ((hB3.block w1.heap.size (blk_lt Hnr.out)).trans Hnr.out); have HB3 := Lib.hid ((hB3.block w1.heap.size (blk_lt Hnr.out)).trans Hnr.out))
              refine bodyPost_ret (v := .tuple #[.agg #[.int .i64 0, .int .i64 0, .int .i64 0, .slice none 0 0], .int .i64 10]) (by simp [results, Tryz.results39, go_sem, q0, q1, q2, q3]) rfl (RpPost.bad 10 Hp10.out ?_)
              exact ((((hBr.trans (hB3.mono hBr.size)).setCell (Nat.le_refl _) _).setCell (Nat.le_refl _) _).setCell (Nat.le_refl _) _).setCell (Nat.le_refl _) _
            · obtain rfl : kk = 2 := by omega
              clear hkk hk4 hs0 ht0 hc0
              have hnone : pRoot b = none := by rw [Hnum.out]; exact pNum_bad (by omega) ⟨_, Hgu.out, Or.inl He.out⟩
              have hp10 : parseL sumL l = (10, none) := by rw [Hpar2.out, hnone]
              have Hp10 := Lib.hid hp10
              clear hnone hp10
              go_wp2_with (go_at_call 72; refine HG.out.mono ?_; rintro e w3 ⟨rfl, hB3⟩; obtain ⟨q0, q1, q2, q3, f0, f1, f2, f3⟩ := cellsZ ((hB3.block w.heap.size (blk_lt Hzr.out)).trans Hzr.out); obtain ⟨n0, n1, n2, g0, g1, g2⟩ := cells3 ((hB3.block w1.heap.size (blk_lt Hnr.out)).trans Hnr.out); have HB3 := Lib.hid ((hB3.block w1.heap.size (blk_lt Hnr.out)).trans Hnr.out))
              refine bodyPost_ret (v := .tuple #[.agg #[.int .i64 0, .int .i64 0, .int .i64 0, .slice none 0 0], .int .i64 10]) (by simp [results, Tryz.results39, go_sem, q0, q1, q2, q3]) rfl (RpPost.bad 10 Hp10.out ?_)
              exact ((((hBr.trans (hB3.mono hBr.size)).setCell (Nat.le_refl _) _).setCell (Nat.le_refl _) _).setCell (Nat.le_refl _) _).setCell (Nat.le_refl _) _
    · have hnum : pRoot b = none := by rw [pRoot_num, if_neg hm]
      rw [hnum] at hpar2
      have hm2 : isMagic b = false := by simpa using hm
      have Hpar2 := Lib.hid hpar2
      have Hm := Lib.hid hm2
      clear hpar2 hnum hm hm2
      go_enter Tryz.func39, Tryz.ntmps39
      go_wp2_with first
        | (go_at_call 70; rw [HW.out]; refine HU.out.mono ?_; rintro e w1 ⟨a1, c1, rfl, hR, hB1⟩; have HR := Lib.hid hR; clear hR; obtain ⟨q0, q1, q2, q3, f0, f1, f2, f3⟩ := cellsZ ((hB1.block w.heap.size hwW).trans Hz0.out); have hcv := run_bytes_str (P := Tryz.prog) (Rd.ofOwns HR.out) Tryz.underlying33 Tryz.underlying5 Tryz.underlying9)
        | (go_at_call 71; refine (magic_any _ b (by omega)).mono ?_; rw [Hm.out]; rintro e w2 ⟨rfl, rfl⟩)
      refine bodyPost_ret (v := .tuple #[.agg #[.int .i64 0, .int .i64 0, .int .i64 0, .slice none 0 0], .int .i64 10]) (by simp [results, Tryz.results39, go_sem, q0, q1, q2, q3]) rfl (RpPost.bad 10 Hpar2.out ?_)
      exact ((((hBW.trans (hB1.mono hBW.size)).setCell (Nat.le_refl _) _).setCell (Nat.le_refl _) _).setCell (Nat.le_refl _) _).setCell (Nat.le_refl _) _
  · have hpar2 := Hpar.out
    rw [if_neg h0] at hpar2
    have h0b : (er != 0) = true := by simpa using h0
    have Hpar2 := Lib.hid hpar2
    clear hpar2 h0
    go_enter Tryz.func39, Tryz.ntmps39
    go_wp2_with (go_at_call 70; rw [HW.out]; refine HU.out.mono ?_; rintro e w1 ⟨a1, c1, rfl, hR, hB1⟩; have HR := Lib.hid hR; clear hR; obtain ⟨q0, q1, q2, q3, f0, f1, f2, f3⟩ := cellsZ ((hB1.block w.heap.size hwW).trans Hz0.out))
    refine bodyPost_ret (v := .tuple #[.agg #[.int .i64 0, .int .i64 0, .int .i64 0, .slice none 0 0], .int .i64 er]) (by simp [results, Tryz.results39, go_sem, q0, q1, q2, q3]) rfl (RpPost.bad er Hpar2.out ?_)
    exact ((((hBW.trans (hB1.mono hBW.size)).setCell (Nat.le_refl _) _).setCell (Nat.le_refl _) _).setCell (Nat.le_refl _) _).setCell (Nat.le_refl _) _
end Go.Proofs.YtkacgmbinkoojaaGreatDoor

/-
  Package roots: the walk of Read.
-/
namespace Go.Proofs.YtkacgmbinkoojaaGreatDoor
open Go.RowKit Go.Maps Go.MapKept

/-- the root that a file holds for its turn. -/
def cand (d : ADisk) (k : Nat) : ARoot := if findErr d (rname k) = 0 ∧ parseE (d.readBytes (rname k)) = 0 ∧ (parseR (d.readBytes (rname k))).serial % 2 = k then parseR (d.readBytes (rname k)) else root0
def readK (d : ADisk) : Nat → ARoot
  | 0 => root0
  | k + 1 => if (readK d k).serial < (cand d k).serial then cand d k else readK d k
/-- the root that counts. -/
def readR (d : ADisk) : ARoot := if d.down then root0 else readK d 2
def readE (d : ADisk) : Int := if d.down then 15 else 0
def RrPost (d : ADisk) (w : World) (e : Ending) (w' : World) : Prop :=
  ∃ a c, e = .returned (.tuple #[rootV (readR d).serial (readR d).tick (readR d).commit (.slice a (readR d).blob.length c), .bool (decide (0 < (readR d).serial)), .int .i64 (readE d)]) ∧
    w'.ownsRow w.heap.size 5 1 (.slice a (readR d).blob.length c) (readR d).blob.length (bcells (readR d).blob) ∧ Below w.heap.size w w'
theorem RrPost.bad {d : ADisk} {w w' : World} (h : d.down = true) (hB : Below w.heap.size w w') : RrPost d w (.returned (.tuple #[.agg #[.int .i64 0, .int .i64 0, .int .i64 0, .slice none 0 0], .bool false, .int .i64 15])) w' := by
  have hr : readR d = root0 := by unfold readR; rw [if_pos h]
  have he : readE d = 15 := by unfold readE; rw [if_pos h]
  refine ⟨none, 0, ?_, ?_, hB⟩
  · rw [hr, he]; rfl
  · rw [hr]; exact World.ownsRow_nil _ _ _ _
theorem parse_good (l : List UInt8) (h : parseE l = 0) : (parseR l).Ok := by
  obtain ⟨er, b, hun⟩ : ∃ er b, unsealL sumL l = (er, b) := ⟨_, _, rfl⟩
  have hp := parse_un hun
  unfold parseE at h
  unfold parseR
  by_cases h0 : er = 0
  · rw [if_pos h0] at hp
    cases hr : pRoot b with
    | none => rw [hr] at hp; rw [hp] at h; exact absurd h (by decide)
    | some r => rw [hr] at hp; rw [hp]; exact (pRoot_ok hr).1
  · rw [if_neg h0] at hp
    rw [hp] at h
    exact absurd h h0
theorem parse_le (l : List UInt8) : (parseR l).serial ≤ 9007199254740992 ∧ (parseR l).tick ≤ 9007199254740992 ∧ (parseR l).commit ≤ 9007199254740992 ∧ (parseR l).blob.length ≤ 1048576 := by
  unfold parseR
  cases hp : parseL sumL l with
  | mk e o =>
    cases o with
    | some r => obtain ⟨_, ⟨_, h1, h2, h3, h4⟩, _⟩ := parse_ok hp; exact ⟨h1, h2, h3, h4⟩
    | none => exact ⟨Nat.zero_le _, Nat.zero_le _, Nat.zero_le _, Nat.zero_le _⟩
theorem cand_le (d : ADisk) (k : Nat) : (cand d k).serial ≤ 9007199254740992 ∧ (cand d k).tick ≤ 9007199254740992 ∧ (cand d k).commit ≤ 9007199254740992 ∧ (cand d k).blob.length ≤ 1048576 := by
  unfold cand
  split
  · exact parse_le _
  · exact ⟨Nat.zero_le _, Nat.zero_le _, Nat.zero_le _, Nat.zero_le _⟩
theorem readK_le (d : ADisk) (k : Nat) : (readK d k).serial ≤ 9007199254740992 ∧ (readK d k).tick ≤ 9007199254740992 ∧ (readK d k).commit ≤ 9007199254740992 ∧ (readK d k).blob.length ≤ 1048576 := by
  induction k with
  | zero => exact ⟨Nat.zero_le _, Nat.zero_le _, Nat.zero_le _, Nat.zero_le _⟩
  | succ k ih =>
    unfold readK
    split
    · exact cand_le d k
    · exact ih
theorem rootC_at {w : World} {b : Nat} {s t c : Int} {vb : Value} {T : TypeId} (h : w.heap[b]? = some (.cells #[.int .i64 s, .int .i64 t, .int .i64 c, vb] T (0, 0))) :
    w.cell? ⟨b, 0, none⟩ = some (.int .i64 s) ∧ w.cell? ⟨b, 1, none⟩ = some (.int .i64 t) ∧ w.cell? ⟨b, 2, none⟩ = some (.int .i64 c) ∧ w.cell? ⟨b, 3, none⟩ = some vb ∧
      w.frozen? ⟨b, 0, none⟩ = false ∧ w.frozen? ⟨b, 1, none⟩ = false ∧ w.frozen? ⟨b, 2, none⟩ = false ∧ w.frozen? ⟨b, 3, none⟩ = false := cells4 h
theorem setCell4_at {w : World} {b : Nat} {x y z u : Value} {T : TypeId} {fr : Nat × Nat} (h : w.heap[b]? = some (.cells #[x, y, z, u] T fr)) (x' y' z' u' : Value) :
    ((((w.setCell ⟨b, 0, none⟩ x').setCell ⟨b, 1, none⟩ y').setCell ⟨b, 2, none⟩ z').setCell ⟨b, 3, none⟩ u').heap[b]? = some (.cells #[x', y', z', u'] T fr) := by
  rw [setCell_at (setCell_at (setCell_at (setCell_at h 0 x') 1 y') 2 z') 3 u']; rfl
theorem rname_size (k : Nat) : (rname k).size ≤ maxLen := by unfold rname; split <;> decide

theorem parse_at {w : World} {base : Nat} {a : Option Addr} {c : Nat} {l : List UInt8} (h : w.ownsRow base 5 1 (.slice a l.length c) l.length (bcells l)) (hl : l.length ≤ 16777216) :
    Calls Tryz.prog 39 #[.slice a l.length c] w fun e w' => ∃ a c, e = .returned (.tuple #[.agg #[.int .i64 (parseR l).serial, .int .i64 (parseR l).tick, .int .i64 (parseR l).commit, .slice a (parseR l).blob.length c], .int .i64 (parseE l)]) ∧
      w'.ownsRow w.heap.size 5 1 (.slice a (parseR l).blob.length c) (parseR l).blob.length (bcells (parseR l).blob) ∧ Below w.heap.size w w' := by
  obtain ⟨_, _, hv1, hnc1, hcm1, _⟩ := row_slice (ownsRow_base0 h)
  cases hv1
  exact rParse_any w _ l (Rd.ofOwns h) ⟨_, _, _, rfl, hnc1, hcm1⟩ (by omega)
set_option maxRecDepth 100000 in
set_option maxHeartbeats 8000000 in
theorem rRead_any {ex : Nat → Prop} (w : World) (p m : Nat) (d : ADisk) (h : DiskAt ex w p m d) (hmost : d.most ≤ 16777216) :
    Calls Tryz.prog 9 #[.pointer (some ⟨p, 0, none⟩)] w (RrPost d w) := by
  have hwf := h.wf
  have hlen : ∀ s, (d.readBytes s).length ≤ 16777216 := by
    intro s
    unfold ADisk.readBytes
    split
    · have h1 := afile_le hwf s
      have h2 := hwf.used
      unfold AFile.len at h1
      rw [List.length_append]; omega
    · simp
  obtain ⟨V, hV⟩ : ∃ V, (w.alloc (.cells #[.int .i64 0, .int .i64 0, .int .i64 0, .slice none 0 0] 35)).alloc (.cells #[.int .i64 0, .int .i64 0, .int .i64 0, .slice none 0 0] 35) = V := ⟨_, rfl⟩
  have hz0 : V.heap[w.heap.size]? = some (.cells #[.int .i64 0, .int .i64 0, .int .i64 0, .slice none 0 0] 35 (0, 0)) := by rw [← hV]; exact alloc2_at0 _ _ _
  have hz1 : V.heap[w.heap.size + 1]? = some (.cells #[.int .i64 0, .int .i64 0, .int .i64 0, .slice none 0 0] 35 (0, 0)) := by rw [← hV]; exact alloc2_at _ _ _
  have hBV : Below w.heap.size w V := by rw [← hV]; exact ((Below.refl _ _).alloc (Nat.le_refl _) _).alloc (by simp) _
  have hVs : V.heap.size = w.heap.size + 2 := by rw [← hV]; simp
  have Hz0 := Lib.hid hz0
  have Hz1 := Lib.hid hz1
  have HV := Lib.hid hV
  have Hlen := Lib.hid hlen
  have HVs := Lib.hid hVs
  clear hz0 hz1 hV hlen hVs hwf
  go_enter Tryz.func9, Tryz.ntmps9
  go_wp2
  rw [HV.out]
  go_loopw [11] (fun i wr => ∃ (k : Nat) (R : ARoot) (a' : Option Addr) (c' : Nat), k ≤ 2 ∧ i = .int .i64 k ∧ R = readK d k ∧ (d.down = true → k = 0) ∧ wr.heap[w.heap.size + 1]? = some (.cells #[.int .i64 R.serial, .int .i64 R.tick, .int .i64 R.commit, .slice a' R.blob.length c'] 35 (0, 0)) ∧
    wr.ownsRow V.heap.size 5 1 (.slice a' R.blob.length c') R.blob.length (bcells R.blob) ∧ Upd (· = w.heap.size + 1) V wr) (fun i _ => 2 - (intOf i).toNat)
  case atStart => exact ⟨0, root0, none, 0, by omega, rfl, rfl, fun _ => rfl, Hz1.out, World.ownsRow_nil _ _ _ _, Upd.refl _ _⟩
  case round =>
    obtain ⟨k, R, a', c', hk, rfl, hR, hdn, hb5, hrow, hUr⟩ := hrel
    have hRl := readK_le d k
    rw [← hR] at hRl
    obtain ⟨hR1, hR2, hR3, hR4⟩ := hRl
    have hz0r := hUr.keep Hz0.out (by omega)
    have hBr : Below w.heap.size w wr := hBV.trans (hUr.below (fun k hk => by omega) hBV.size)
    have hDr := h.below hBr
    obtain ⟨q0, q1, q2, q3, f0, f1, f2, f3⟩ := cellsZ hz0r
    obtain ⟨b0, b1, b2, b3, g0, g1, g2, g3⟩ := rootC_at hb5
    have Hz0r := Lib.hid hz0r
    have Hb5 := Lib.hid hb5
    have Hrow := Lib.hid hrow
    have HR := Lib.hid hR
    have Hdn := Lib.hid hdn
    clear hz0r hb5 hrow hR hdn
    by_cases hk2 : k = 2
    · have hk2' : ¬ (k : Int) < 2 := by omega
      have hdf : d.down = false := by
        cases hd : d.down with
        | false => rfl
        | true => exact absurd (Hdn.out hd) (by omega)
      have hfin : readR d = R := by unfold readR; rw [if_neg (by simp [hdf]), HR.out, hk2]
      have hfin2 : readE d = 0 := by unfold readE; rw [if_neg (by simp [hdf])]
      have Hfin := Lib.hid hfin
      have Hfin2 := Lib.hid hfin2
      clear hfin hfin2 hdf hk2
      go_wp2
      go_region
      all_goals go_wp2
      all_goals
        refine bodyPost_ret (v := .tuple #[.agg #[.int .i64 R.serial, .int .i64 R.tick, .int .i64 R.commit, .slice a' R.blob.length c'], .bool (decide (0 < R.serial)), .int .i64 0]) (by simp [results, Tryz.results9, go_sem, q0, q1, q2, q3]) rfl ⟨a', c', by rw [Hfin.out, Hfin2.out]; rfl, ?_, ?_⟩
        · rw [Hfin.out]
          have hU4 := (setCell4_upd (w := wr) (b := w.heap.size) (.int .i64 R.serial) (.int .i64 R.tick) (.int .i64 R.commit) (.slice a' R.blob.length c')).drew
          exact hU4.row (ownsRow_from Hrow.out (fun g hg => Nat.le_trans hBV.size (row_from Hrow.out hg))) (fun g hg e => by have := row_from Hrow.out hg; have := HVs.out; omega)
        · exact ((((hBr.setCell (Nat.le_refl _) _).setCell (Nat.le_refl _) _).setCell (Nat.le_refl _) _).setCell (Nat.le_refl _) _).drew
    · have hk2' : (k : Int) < 2 := by omega
      have hs := rname_size k
      obtain ⟨fe, hfe⟩ : ∃ fe, findErr d (rname k) = fe := ⟨_, rfl⟩
      have hRd := Read_at (rname k) hDr hs
      obtain ⟨B, hB⟩ : ∃ B, d.readBytes (rname k) = B := ⟨_, rfl⟩
      have hBl := Hlen.out (rname k)
      rw [hfe, hB] at hRd
      rw [hB] at hBl
      have HRd := Lib.hid hRd
      have hnm := rName_any wr k (by omega)
      have Hnm := Lib.hid hnm
      clear hRd hs hnm
      cases hd : d.down with
      | true =>
        obtain rfl : fe = 15 := by rw [← hfe]; unfold findErr; rw [if_pos hd]
        have Hd := Lib.hid hd
        clear hd hfe hB
        go_wp2_with first
          | (go_at_call 34; refine Hnm.out.mono ?_; rintro e w1 ⟨rfl, rfl⟩)
          | (go_at_call 38; refine HRd.out.mono ?_; rintro e w2 ⟨a2, c2, rfl, hR2, hB2⟩; clear hR2; obtain ⟨q0, q1, q2, q3, f0, f1, f2, f3⟩ := cellsZ ((hB2.block w.heap.size (blk_lt Hz0r.out)).trans Hz0r.out))
        refine bodyPost_ret (v := .tuple #[.agg #[.int .i64 0, .int .i64 0, .int .i64 0, .slice none 0 0], .bool false, .int .i64 15]) (by simp [results, Tryz.results9, go_sem, q0, q1, q2, q3]) rfl (RrPost.bad Hd.out ?_)
        exact ((((hBr.trans (hB2.mono hBr.size)).setCell (Nat.le_refl _) _).setCell (Nat.le_refl _) _).setCell (Nat.le_refl _) _).setCell (Nat.le_refl _) _
      | false =>
        have Hd := Lib.hid hd
        by_cases h13 : (lk d.fs (rname k)).isNone = true
        · obtain rfl : fe = 13 := by rw [← hfe]; unfold findErr; rw [if_neg (by simp [hd]), if_pos h13]
          have hca : cand d k = root0 := by unfold cand; rw [if_neg]; rintro ⟨h0, _⟩; rw [hfe] at h0; exact absurd h0 (by decide)
          have hnx : R = readK d (k + 1) := by
            show R = if (readK d k).serial < (cand d k).serial then cand d k else readK d k
            rw [hca, if_neg (show ¬ _ < root0.serial from Nat.not_lt_zero _)]; exact HR.out
          have HNX := Lib.hid hnx
          clear hd hfe hB h13 hca hnx
          go_wp2_with first
            | (go_at_call 34; refine Hnm.out.mono ?_; rintro e w1 ⟨rfl, rfl⟩)
            | (go_at_call 38; refine HRd.out.mono ?_; rintro e w2 ⟨a2, c2, rfl, hR2, hB2⟩; have HR2 := Lib.hid hR2; clear hR2; have Hz2 := Lib.hid ((hB2.block w.heap.size (blk_lt Hz0r.out)).trans Hz0r.out); have H52 := Lib.hid ((hB2.block (w.heap.size + 1) (blk_lt Hb5.out)).trans Hb5.out); obtain ⟨q0, q1, q2, q3, f0, f1, f2, f3⟩ := cellsZ Hz2.out; obtain ⟨b0, b1, b2, b3, g0, g1, g2, g3⟩ := rootC_at H52.out)
          go_roundw
          case rel => exact ⟨k + 1, R, a', c', by omega, by go_num, HNX.out, (fun h => by first | (cases h; done) | (rw [Hd.out] at h; cases h)), H52.out, (Upd.ofBelow (fp := noFp) hB2).row Hrow.out (fun _ _ h => h), hUr.thenBelow hB2 hUr.size⟩
          case measure => simp [intOf]; omega
        · obtain rfl : fe = 0 := by rw [← hfe]; unfold findErr; rw [if_neg (by simp [hd]), if_neg h13]
          obtain ⟨P, hP⟩ : ∃ P, parseR B = P := ⟨_, rfl⟩
          obtain ⟨pe, hpe⟩ : ∃ pe, parseE B = pe := ⟨_, rfl⟩
          have hPl := parse_le B
          rw [hP] at hPl
          obtain ⟨hP1, hP2, hP3, hP4⟩ := hPl
          have hca : cand d k = if pe = 0 ∧ P.serial % 2 = k then P else root0 := by
            unfold cand
            rw [hfe, hB, hP, hpe]
            simp
          have hstay : ¬ (pe = 0 ∧ P.serial % 2 = k ∧ R.serial < P.serial) → R = readK d (k + 1) := by
            intro hno
            show R = if (readK d k).serial < (cand d k).serial then cand d k else readK d k
            rw [hca, ← HR.out]
            split
            · rename_i hc; rw [if_neg (fun hl => hno ⟨hc.1, hc.2, hl⟩)]
            · rw [if_neg (show ¬ _ < root0.serial from Nat.not_lt_zero _)]
          have hmove : pe = 0 ∧ P.serial % 2 = k ∧ R.serial < P.serial → P = readK d (k + 1) := by
            rintro ⟨h1, h2, h3⟩
            show P = if (readK d k).serial < (cand d k).serial then cand d k else readK d k
            have hc : cand d k = P := by rw [hca, if_pos ⟨h1, h2⟩]
            rw [hc, ← HR.out, if_pos h3]
          have Hpr := Lib.hid hP
          have Hpe := Lib.hid hpe
          have Hstay := Lib.hid hstay
          have Hmove := Lib.hid hmove
          clear hd hfe hB h13 hca hP hpe hstay hmove
          by_cases hp0 : pe = 0
          · subst hp0
            by_cases h2 : P.serial % 2 = k
            · have h2b : ((P.serial : Int) % 2 == (k : Int)) = true := by simp only [beq_iff_eq]; omega
              by_cases h3 : R.serial < P.serial
              · have HNX := Lib.hid (Hmove.out ⟨rfl, h2, h3⟩)
                have h3b : (R.serial : Int) < (P.serial : Int) := by omega
                clear h2 h3
                go_wp2_with first
                  | (go_at_call 34; refine Hnm.out.mono ?_; rintro e w1 ⟨rfl, rfl⟩)
                  | (go_at_call 38; refine HRd.out.mono ?_; rintro e w2 ⟨a2, c2, rfl, hR2, hB2⟩; have HR2 := Lib.hid hR2; clear hR2; have Hz2 := Lib.hid ((hB2.block w.heap.size (blk_lt Hz0r.out)).trans Hz0r.out); have H52 := Lib.hid ((hB2.block (w.heap.size + 1) (blk_lt Hb5.out)).trans Hb5.out); obtain ⟨q0, q1, q2, q3, f0, f1, f2, f3⟩ := cellsZ Hz2.out; obtain ⟨b0, b1, b2, b3, g0, g1, g2, g3⟩ := rootC_at H52.out)
                  | (go_at_call 39; refine (parse_at HR2.out hBl).mono ?_; rw [Hpr.out, Hpe.out]; rintro e w3 ⟨a3, c3, rfl, hR3, hB3⟩; have HR3 := Lib.hid hR3; clear hR3; have Hz3 := Lib.hid ((hB3.block w.heap.size (blk_lt Hz2.out)).trans Hz2.out); have H53 := Lib.hid ((hB3.block (w.heap.size + 1) (blk_lt H52.out)).trans H52.out); obtain ⟨q0, q1, q2, q3, f0, f1, f2, f3⟩ := cellsZ Hz3.out; obtain ⟨b0, b1, b2, b3, g0, g1, g2, g3⟩ := rootC_at H53.out; have hlt3 := blk_lt H53.out)
                go_roundw
                case rel =>
                  have hU3 : Upd (· = w.heap.size + 1) V w3 := (hUr.thenBelow hB2 hUr.size).thenBelow hB3 (Nat.le_trans hUr.size hB2.size)
                  have hU4 := (setCell4_upd (w := w3) (b := w.heap.size + 1) (.int .i64 P.serial) (.int .i64 P.tick) (.int .i64 P.commit) (.slice a3 P.blob.length c3)).alloc (.cells #[.int .i64 P.serial, .int .i64 P.tick, .int .i64 P.commit, .slice a3 P.blob.length c3] 35)
                  have hh := alloc_old (setCell4_at H53.out (.int .i64 P.serial) (.int .i64 P.tick) (.int .i64 P.commit) (.slice a3 P.blob.length c3)) (.cells #[.int .i64 P.serial, .int .i64 P.tick, .int .i64 P.commit, .slice a3 P.blob.length c3] 35)
                  refine ⟨k + 1, P, a3, c3, by omega, by go_num, HNX.out, (fun h => by first | (cases h; done) | (rw [Hd.out] at h; cases h)), hh, ?_, hU3.trans hU4 (fun k hk => Or.inl hk)⟩
                  refine hU4.row (ownsRow_from HR3.out (fun g hg => ?_)) (fun g hg e => ?_)
                  · have := row_from HR3.out hg; have := hB2.size; have := hUr.size; omega
                  · have := row_from HR3.out hg; have := hB2.size; have := hUr.size; have := HVs.out; omega
                case measure => simp [intOf]; omega
              · have HNX := Lib.hid (Hstay.out (fun h => h3 h.2.2))
                have h3b : ¬ (R.serial : Int) < (P.serial : Int) := by omega
                clear h2 h3
                go_wp2_with first
                  | (go_at_call 34; refine Hnm.out.mono ?_; rintro e w1 ⟨rfl, rfl⟩)
                  | (go_at_call 38; refine HRd.out.mono ?_; rintro e w2 ⟨a2, c2, rfl, hR2, hB2⟩; have HR2 := Lib.hid hR2; clear hR2; have Hz2 := Lib.hid ((hB2.block w.heap.size (blk_lt Hz0r.out)).trans Hz0r.out); have H52 := Lib.hid ((hB2.block (w.heap.size + 1) (blk_lt Hb5.out)).trans Hb5.out); obtain ⟨q0, q1, q2, q3, f0, f1, f2, f3⟩ := cellsZ Hz2.out; obtain ⟨b0, b1, b2, b3, g0, g1, g2, g3⟩ := rootC_at H52.out)
                  | (go_at_call 39; refine (parse_at HR2.out hBl).mono ?_; rw [Hpr.out, Hpe.out]; rintro e w3 ⟨a3, c3, rfl, hR3, hB3⟩; have HR3 := Lib.hid hR3; clear hR3; have Hz3 := Lib.hid ((hB3.block w.heap.size (blk_lt Hz2.out)).trans Hz2.out); have H53 := Lib.hid ((hB3.block (w.heap.size + 1) (blk_lt H52.out)).trans H52.out); obtain ⟨q0, q1, q2, q3, f0, f1, f2, f3⟩ := cellsZ Hz3.out; obtain ⟨b0, b1, b2, b3, g0, g1, g2, g3⟩ := rootC_at H53.out; have hlt3 := blk_lt H53.out)
                go_roundw
                case rel =>
                  have hU3 : Upd (· = w.heap.size + 1) V (w3.alloc (.cells #[.int .i64 P.serial, .int .i64 P.tick, .int .i64 P.commit, .slice a3 P.blob.length c3] 35)) := ((hUr.thenBelow hB2 hUr.size).thenBelow hB3 (Nat.le_trans hUr.size hB2.size)).alloc _
                  have hB23 : Below wr.heap.size wr (w3.alloc (.cells #[.int .i64 P.serial, .int .i64 P.tick, .int .i64 P.commit, .slice a3 P.blob.length c3] 35)) := (hB2.trans (hB3.mono hB2.size)).alloc (Nat.le_trans hB2.size hB3.size) _
                  exact ⟨k + 1, R, a', c', by omega, by go_num, HNX.out, (fun h => by first | (cases h; done) | (rw [Hd.out] at h; cases h)), alloc_old H53.out _, (Upd.ofBelow (fp := noFp) hB23).row Hrow.out (fun _ _ h => h), hU3⟩
                case measure => simp [intOf]; omega
            · have h2b : ((P.serial : Int) % 2 == (k : Int)) = false := by simp only [beq_eq_false_iff_ne, ne_eq]; omega
              have HNX := Lib.hid (Hstay.out (fun h => h2 h.2.1))
              clear h2
              go_wp2_with first
                | (go_at_call 34; refine Hnm.out.mono ?_; rintro e w1 ⟨rfl, rfl⟩)
                | (go_at_call 38; refine HRd.out.mono ?_; rintro e w2 ⟨a2, c2, rfl, hR2, hB2⟩; have HR2 := Lib.hid hR2; clear hR2; have Hz2 := Lib.hid ((hB2.block w.heap.size (blk_lt Hz0r.out)).trans Hz0r.out); have H52 := Lib.hid ((hB2.block (w.heap.size + 1) (blk_lt Hb5.out)).trans Hb5.out); obtain ⟨q0, q1, q2, q3, f0, f1, f2, f3⟩ := cellsZ Hz2.out; obtain ⟨b0, b1, b2, b3, g0, g1, g2, g3⟩ := rootC_at H52.out)
                | (go_at_call 39; refine (parse_at HR2.out hBl).mono ?_; rw [Hpr.out, Hpe.out]; rintro e w3 ⟨a3, c3, rfl, hR3, hB3⟩; have HR3 := Lib.hid hR3; clear hR3; have Hz3 := Lib.hid ((hB3.block w.heap.size (blk_lt Hz2.out)).trans Hz2.out); have H53 := Lib.hid ((hB3.block (w.heap.size + 1) (blk_lt H52.out)).trans H52.out); obtain ⟨q0, q1, q2, q3, f0, f1, f2, f3⟩ := cellsZ Hz3.out; obtain ⟨b0, b1, b2, b3, g0, g1, g2, g3⟩ := rootC_at H53.out; have hlt3 := blk_lt H53.out)
              go_roundw
              case rel =>
                have hU3 : Upd (· = w.heap.size + 1) V (w3.alloc (.cells #[.int .i64 P.serial, .int .i64 P.tick, .int .i64 P.commit, .slice a3 P.blob.length c3] 35)) := ((hUr.thenBelow hB2 hUr.size).thenBelow hB3 (Nat.le_trans hUr.size hB2.size)).alloc _
                have hB23 : Below wr.heap.size wr (w3.alloc (.cells #[.int .i64 P.serial, .int .i64 P.tick, .int .i64 P.commit, .slice a3 P.blob.length c3] 35)) := (hB2.trans (hB3.mono hB2.size)).alloc (Nat.le_trans hB2.size hB3.size) _
                exact ⟨k + 1, R, a', c', by omega, by go_num, HNX.out, (fun h => by first | (cases h; done) | (rw [Hd.out] at h; cases h)), alloc_old H53.out _, (Upd.ofBelow (fp := noFp) hB23).row Hrow.out (fun _ _ h => h), hU3⟩
              case measure => simp [intOf]; omega
          · have hp0b : (pe == 0) = false := by simpa using hp0
            have HNX := Lib.hid (Hstay.out (fun h => hp0 h.1))
            clear hp0
            go_wp2_with first
              | (go_at_call 34; refine Hnm.out.mono ?_; rintro e w1 ⟨rfl, rfl⟩)
              | (go_at_call 38; refine HRd.out.mono ?_; rintro e w2 ⟨a2, c2, rfl, hR2, hB2⟩; have HR2 := Lib.hid hR2; clear hR2; have Hz2 := Lib.hid ((hB2.block w.heap.size (blk_lt Hz0r.out)).trans Hz0r.out); have H52 := Lib.hid ((hB2.block (w.heap.size + 1) (blk_lt Hb5.out)).trans Hb5.out); obtain ⟨q0, q1, q2, q3, f0, f1, f2, f3⟩ := cellsZ Hz2.out; obtain ⟨b0, b1, b2, b3, g0, g1, g2, g3⟩ := rootC_at H52.out)
              | (go_at_call 39; refine (parse_at HR2.out hBl).mono ?_; rw [Hpr.out, Hpe.out]; rintro e w3 ⟨a3, c3, rfl, hR3, hB3⟩; have HR3 := Lib.hid hR3; clear hR3; have Hz3 := Lib.hid ((hB3.block w.heap.size (blk_lt Hz2.out)).trans Hz2.out); have H53 := Lib.hid ((hB3.block (w.heap.size + 1) (blk_lt H52.out)).trans H52.out); obtain ⟨q0, q1, q2, q3, f0, f1, f2, f3⟩ := cellsZ Hz3.out; obtain ⟨b0, b1, b2, b3, g0, g1, g2, g3⟩ := rootC_at H53.out; have hlt3 := blk_lt H53.out)
            go_roundw
            case rel =>
              have hU3 : Upd (· = w.heap.size + 1) V (w3.alloc (.cells #[.int .i64 P.serial, .int .i64 P.tick, .int .i64 P.commit, .slice a3 P.blob.length c3] 35)) := ((hUr.thenBelow hB2 hUr.size).thenBelow hB3 (Nat.le_trans hUr.size hB2.size)).alloc _
              have hB23 : Below wr.heap.size wr (w3.alloc (.cells #[.int .i64 P.serial, .int .i64 P.tick, .int .i64 P.commit, .slice a3 P.blob.length c3] 35)) := (hB2.trans (hB3.mono hB2.size)).alloc (Nat.le_trans hB2.size hB3.size) _
              exact ⟨k + 1, R, a', c', by omega, by go_num, HNX.out, (fun h => by first | (cases h; done) | (rw [Hd.out] at h; cases h)), alloc_old H53.out _, (Upd.ofBelow (fp := noFp) hB23).row Hrow.out (fun _ _ h => h), hU3⟩
            case measure => simp [intOf]; omega
end Go.Proofs.YtkacgmbinkoojaaGreatDoor

/-
  Package roots: the four steps of Write.
-/
namespace Go.Proofs.YtkacgmbinkoojaaGreatDoor
open Go.RowKit Go.Maps Go.MapKept

def freshN : ByteArray := ⟨#[114, 111, 111, 116, 46, 110, 101, 119]⟩
theorem fresh_size : freshN.size ≤ maxLen := by decide
/-- the error of the first step. -/
def goneE (d : ADisk) : Int := if d.removeErr freshN = 13 then 0 else d.removeErr freshN

set_option maxRecDepth 100000 in
set_option maxHeartbeats 4000000 in
theorem rWrite1_at {ex : Nat → Prop} {w : World} {p m : Nat} {d : ADisk} (bd : Nat) (h : DiskAt ex w p m d) (hc : w.cell? ⟨bd, 0, none⟩ = some (.pointer (some ⟨p, 0, none⟩))) :
    Calls Tryz.prog 28 #[.pointer (some ⟨bd, 0, none⟩)] w fun e w' => e = .returned (.int .i64 (goneE d)) ∧ DiskAt ex w' p m (d.remove freshN) ∧ Keep ex w w' := by
  have hR := Remove_at freshN h fresh_size
  obtain ⟨fe, hfe⟩ : ∃ fe, d.removeErr freshN = fe := ⟨_, rfl⟩
  have hg : goneE d = if fe = 13 then 0 else fe := by unfold goneE; rw [hfe]
  rw [hfe] at hR
  have Hg := Lib.hid hg
  clear hfe hg
  unfold freshN at hR
  by_cases h13 : fe = 13
  · subst h13
    have Hg2 := Lib.hid (Hg.out.trans (if_pos rfl))
    go_enter Tryz.func28, Tryz.ntmps28
    go_wp2_with (go_at_call 19; refine hR.mono ?_; rintro e w1 ⟨rfl, hD, hK⟩)
    go_ret
    exact ⟨by rw [Hg2.out]; rfl, hD, hK⟩
  · have h13b : (fe != 13) = true := by simpa using h13
    have Hg2 := Lib.hid (Hg.out.trans (if_neg h13))
    clear h13
    go_enter Tryz.func28, Tryz.ntmps28
    go_wp2_with (go_at_call 19; refine hR.mono ?_; rintro e w1 ⟨rfl, hD, hK⟩)
    go_ret
    exact ⟨by rw [Hg2.out]; rfl, hD, hK⟩

set_option maxRecDepth 100000 in
set_option maxHeartbeats 4000000 in
theorem rWrite2_at {ex : Nat → Prop} {w : World} {p m : Nat} {d : ADisk} (bd bb : Nat) (vb : Value) (b : List UInt8) (h : DiskAt ex w p m d) (hc : w.cell? ⟨bd, 0, none⟩ = some (.pointer (some ⟨p, 0, none⟩))) (hcb : w.cell? ⟨bb, 0, none⟩ = some vb) (hrd : Rd w vb (bcells b)) (hb : b.length ≤ 140737488355328) :
    Calls Tryz.prog 29 #[.pointer (some ⟨bd, 0, none⟩), .pointer (some ⟨bb, 0, none⟩)] w fun e w' => e = .returned (.int .i64 (d.appendErr freshN b)) ∧ DiskAt ex w' p m (d.append freshN b) ∧ Keep ex w w' := by
  have hR := Append_at freshN vb b h fresh_size hrd hb
  obtain ⟨a, c, rfl⟩ := hrd.shape
  have HR := Lib.hid hR
  clear hrd hR
  go_enter Tryz.func29, Tryz.ntmps29
  go_wp2_with (go_at_call 15; refine HR.out.mono ?_; rintro e w1 ⟨rfl, hD, hK⟩)
  go_ret
  exact ⟨rfl, hD, hK⟩

set_option maxRecDepth 100000 in
set_option maxHeartbeats 4000000 in
theorem rWrite3_at {ex : Nat → Prop} {w : World} {p m : Nat} {d : ADisk} (bd : Nat) (h : DiskAt ex w p m d) (hc : w.cell? ⟨bd, 0, none⟩ = some (.pointer (some ⟨p, 0, none⟩))) :
    Calls Tryz.prog 30 #[.pointer (some ⟨bd, 0, none⟩)] w fun e w' => e = .returned (.int .i64 (d.syncErr freshN)) ∧ DiskAt ex w' p m (d.sync freshN) ∧ Keep ex w w' := by
  have hR := Sync_at freshN h fresh_size
  have HR := Lib.hid hR
  clear hR
  go_enter Tryz.func30, Tryz.ntmps30
  go_wp2_with (go_at_call 31; refine HR.out.mono ?_; rintro e w1 ⟨rfl, hD, hK⟩)
  go_ret
  exact ⟨rfl, hD, hK⟩

set_option maxRecDepth 100000 in
set_option maxHeartbeats 4000000 in
theorem rWrite4_at {ex : Nat → Prop} {w : World} {p m : Nat} {d : ADisk} (bd br n : Nat) (h : DiskAt ex w p m d) (hc : w.cell? ⟨bd, 0, none⟩ = some (.pointer (some ⟨p, 0, none⟩))) (hcr : w.cell? ⟨br, 0, none⟩ = some (.int .i64 n)) (hn : n ≤ 9223372036854775807) (hxd : ex bd) (hxr : ex br) :
    Calls Tryz.prog 32 #[.pointer (some ⟨bd, 0, none⟩), .pointer (some ⟨br, 0, none⟩)] w fun e w' => e = .returned (.int .i64 (d.renameErr freshN (rname n))) ∧ DiskAt ex w' p m (d.rename freshN (rname n)) ∧ Keep ex w w' := by
  have hR := Rename_at freshN (rname n) h.drew fresh_size (rname_size n)
  have HR := Lib.hid hR
  clear hR
  go_enter Tryz.func32, Tryz.ntmps32
  go_wp2
  go_region_held3 (fun w' => w'.cell? ⟨bd, 0, none⟩ = some (.pointer (some ⟨p, 0, none⟩)) ∧ w'.cell? ⟨br, 0, none⟩ = some (.int .i64 n)) (first | exact ⟨hc, hcr⟩ | exact S4 | go_keep)
    (first
      | (go_at_call 34; refine (rName_any _ n hn).mono ?_; rintro e w1 ⟨rfl, rfl⟩)
      | (go_at_call 33; refine HR.out.mono ?_; rintro e w2 ⟨rfl, hD, hK⟩; have S4 : w2.cell? ⟨bd, 0, none⟩ = some (.pointer (some ⟨p, 0, none⟩)) ∧ w2.cell? ⟨br, 0, none⟩ = some (.int .i64 n) := ⟨(hK.cell hxd 0).trans hc, (hK.cell hxr 0).trans hcr⟩))
  go_wp2
  go_ret
  exact ⟨rfl, hD, hK.os, hK.tape, hK.output, hK.size, hK.block⟩
end Go.Proofs.YtkacgmbinkoojaaGreatDoor

/-
  Package roots: the walk of Write.
-/
namespace Go.Proofs.YtkacgmbinkoojaaGreatDoor
open Go.RowKit Go.Maps Go.MapKept

/-- the four steps of Write: the disk then, the error. -/
def wrSteps (d : ADisk) (n : Nat) (L : List UInt8) : ADisk × Int :=
  if goneE d ≠ 0 then (d.remove freshN, goneE d) else
  if (d.remove freshN).appendErr freshN L ≠ 0 then ((d.remove freshN).append freshN L, (d.remove freshN).appendErr freshN L) else
  if ((d.remove freshN).append freshN L).syncErr freshN ≠ 0 then (((d.remove freshN).append freshN L).sync freshN, ((d.remove freshN).append freshN L).syncErr freshN) else
  ((((d.remove freshN).append freshN L).sync freshN).rename freshN (rname n), (((d.remove freshN).append freshN L).sync freshN).renameErr freshN (rname n))
/-- what Write makes of a disk. -/
def wrAll (d : ADisk) (t c : Int) (b : List UInt8) : ADisk × Int :=
  if d.down then (d, 15) else
  if rbErr ((readR d).serial + 1 : Nat) t c b.length ≠ 0 then (d, rbErr ((readR d).serial + 1 : Nat) t c b.length) else
  wrSteps d ((readR d).serial + 1) (rbOut ((readR d).serial + 1 : Nat) t c b)
def zeroV : Value := .agg #[.int .i64 0, .int .i64 0, .int .i64 0, .slice none 0 0]
def WrPost (ex : Nat → Prop) (p m : Nat) (d : ADisk) (t c : Int) (vb : Value) (b : List UInt8) (w : World) (e : Ending) (w' : World) : Prop :=
  e = .returned (.tuple #[if (wrAll d t c b).2 = 0 then rootV ((readR d).serial + 1 : Nat) t c vb else zeroV, .int .i64 (wrAll d t c b).2]) ∧ DiskAt ex w' p m (wrAll d t c b).1 ∧ Keep ex w w'

theorem WrPost.bad {ex : Nat → Prop} {p m : Nat} {d d' : ADisk} {t c : Int} {vb : Value} {b : List UInt8} {w w' : World} (er : Int) (h : wrAll d t c b = (d', er)) (h0 : er ≠ 0) (hD : DiskAt ex w' p m d') (hK : Keep ex w w') : WrPost ex p m d t c vb b w (.returned (.tuple #[.agg #[.int .i64 0, .int .i64 0, .int .i64 0, .slice none 0 0], .int .i64 er])) w' := by
  refine ⟨?_, by rw [h]; exact hD, hK⟩
  rw [h, if_neg h0]; rfl
theorem below4 {N : Nat} {w0 w1 : World} (h : Below N w0 w1) {b : Nat} (hb : N ≤ b) (x y z u : Value) : Below N w0 ((((w1.setCell ⟨b, 0, none⟩ x).setCell ⟨b, 1, none⟩ y).setCell ⟨b, 2, none⟩ z).setCell ⟨b, 3, none⟩ u) :=
  (((h.setCell (p := ⟨b, 0, none⟩) hb x).setCell (p := ⟨b, 1, none⟩) hb y).setCell (p := ⟨b, 2, none⟩) hb z).setCell (p := ⟨b, 3, none⟩) hb u
theorem wr_store {w1 : World} {b : Nat} {T1 T : TypeId} {pd s t c vb : Value} {x : Obj} (h0 : w1.heap[b]? = some (.cells #[pd] T1 (0, 0))) (h1 : w1.heap[b + 1]? = some (.cells #[s, t, c, vb] T (0, 0))) (h2 : w1.heap[b + 1 + 1]? = some x) (v : Value) (o : Obj) :
    ((w1.setCell ⟨b + 1, 0, none⟩ v).alloc o).heap[b]? = some (.cells #[pd] T1 (0, 0)) ∧ ((w1.setCell ⟨b + 1, 0, none⟩ v).alloc o).heap[b + 1]? = some (.cells #[v, t, c, vb] T (0, 0)) ∧ ((w1.setCell ⟨b + 1, 0, none⟩ v).alloc o).heap[b + 1 + 1]? = some x :=
  ⟨alloc_old (setCell_old h0 (by omega) 0 v) o, alloc_old (setCell_at h1 0 v) o, alloc_old (setCell_old h2 (by omega) 0 v) o⟩
theorem keep4 {ex : Nat → Prop} {w w' : World} (h : Keep ex w w') {b : Nat} (hb : ¬ ex b) (x y z u : Value) : Keep ex w ((((w'.setCell ⟨b, 0, none⟩ x).setCell ⟨b, 1, none⟩ y).setCell ⟨b, 2, none⟩ z).setCell ⟨b, 3, none⟩ u) := by
  have hU := setCell4_upd (w := w') (b := b) x y z u
  exact ⟨hU.os.trans h.os, hU.tape.trans h.tape, hU.output.trans h.output, Nat.le_trans h.size hU.size, fun k hk => by
    by_cases hkl : k < w'.heap.size
    · exact (hU.block k hkl (fun e => hb (e ▸ hk))).trans (h.block k hk)
    · have h1 := h.block k hk
      rw [← h1]
      rw [Array.getElem?_eq_none (by omega : w'.heap.size ≤ k), Array.getElem?_eq_none]
      have : ((((w'.setCell ⟨b, 0, none⟩ x).setCell ⟨b, 1, none⟩ y).setCell ⟨b, 2, none⟩ z).setCell ⟨b, 3, none⟩ u).heap.size = w'.heap.size := by simp only [World.size_setCell]
      omega⟩
theorem disk4 {ex : Nat → Prop} {w : World} {p m : Nat} {d : ADisk} (h : DiskAt ex w p m d) {b : Nat} (hb : ex b) (x y z u : Value) : DiskAt ex ((((w.setCell ⟨b, 0, none⟩ x).setCell ⟨b, 1, none⟩ y).setCell ⟨b, 2, none⟩ z).setCell ⟨b, 3, none⟩ u) p m d :=
  (((h.setCell hb 0 x).setCell hb 1 y).setCell hb 2 z).setCell hb 3 u
/-- the disk behind so many steps. -/
def stepD (d : ADisk) (n : Nat) (L : List UInt8) : Nat → ADisk
  | 0 => d
  | 1 => d.remove freshN
  | 2 => (d.remove freshN).append freshN L
  | 3 => ((d.remove freshN).append freshN L).sync freshN
  | _ => (((d.remove freshN).append freshN L).sync freshN).rename freshN (rname n)
/-- the error of a step. -/
def stepE (d : ADisk) (n : Nat) (L : List UInt8) : Nat → Int
  | 0 => goneE d
  | 1 => (d.remove freshN).appendErr freshN L
  | 2 => ((d.remove freshN).append freshN L).syncErr freshN
  | _ => (((d.remove freshN).append freshN L).sync freshN).renameErr freshN (rname n)
theorem steps_bad {d : ADisk} {n : Nat} {L : List UInt8} {j : Nat} (hj : j ≤ 3) (hz : ∀ i, i < j → stepE d n L i = 0) (hb : stepE d n L j ≠ 0) : wrSteps d n L = (stepD d n L (j + 1), stepE d n L j) := by
  have hj4 : j = 0 ∨ j = 1 ∨ j = 2 ∨ j = 3 := by omega
  unfold wrSteps
  rcases hj4 with rfl | rfl | rfl | rfl
  · have h0 : goneE d ≠ 0 := hb
    rw [if_pos h0]; rfl
  · have h0 : goneE d = 0 := hz 0 (by omega)
    have h1 : (d.remove freshN).appendErr freshN L ≠ 0 := hb
    rw [if_neg (fun h => h h0), if_pos h1]; rfl
  · have h0 : goneE d = 0 := hz 0 (by omega)
    have h1 : (d.remove freshN).appendErr freshN L = 0 := hz 1 (by omega)
    have h2 : ((d.remove freshN).append freshN L).syncErr freshN ≠ 0 := hb
    rw [if_neg (fun h => h h0), if_neg (fun h => h h1), if_pos h2]; rfl
  · have h0 : goneE d = 0 := hz 0 (by omega)
    have h1 : (d.remove freshN).appendErr freshN L = 0 := hz 1 (by omega)
    have h2 : ((d.remove freshN).append freshN L).syncErr freshN = 0 := hz 2 (by omega)
    rw [if_neg (fun h => h h0), if_neg (fun h => h h1), if_neg (fun h => h h2)]; rfl
theorem steps_good {d : ADisk} {n : Nat} {L : List UInt8} (hz : ∀ i, i < 4 → stepE d n L i = 0) : wrSteps d n L = (stepD d n L 4, 0) := by
  have h0 : goneE d = 0 := hz 0 (by omega)
  have h1 : (d.remove freshN).appendErr freshN L = 0 := hz 1 (by omega)
  have h2 : ((d.remove freshN).append freshN L).syncErr freshN = 0 := hz 2 (by omega)
  have h3 : (((d.remove freshN).append freshN L).sync freshN).renameErr freshN (rname n) = 0 := hz 3 (by omega)
  unfold wrSteps
  rw [if_neg (fun h => h h0), if_neg (fun h => h h1), if_neg (fun h => h h2), h3]; rfl
theorem below_new {ex : Nat → Prop} {w w' : World} {p m : Nat} {d : ADisk} (h : DiskAt ex w p m d) (hB : Below w.heap.size w w') : DiskAt ex w' p m d ∧ Keep ex w w' := ⟨h.below hB, Keep.ofBelow hB (fun _ hk => h.lt hk)⟩
theorem readR_le (d : ADisk) : (readR d).serial ≤ 9007199254740992 ∧ (readR d).tick ≤ 9007199254740992 ∧ (readR d).commit ≤ 9007199254740992 ∧ (readR d).blob.length ≤ 1048576 := by
  unfold readR
  split
  · exact ⟨Nat.zero_le _, Nat.zero_le _, Nat.zero_le _, Nat.zero_le _⟩
  · exact readK_le d 2

set_option maxRecDepth 100000 in
set_option maxHeartbeats 8000000 in
theorem rWrite_at {ex : Nat → Prop} {w : World} {p m : Nat} {d : ADisk} (s t c : Int) (vb : Value) (b : List UInt8) (h : DiskAt ex w p m d) (ht : isI64 t) (hc : isI64 c) (hv : Rd w vb (bcells b)) (hb : b.length ≤ 140737488355328) :
    Calls Tryz.prog 7 #[.pointer (some ⟨p, 0, none⟩), rootV s t c vb] w (WrPost ex p m d t c vb b w) := by
  obtain ⟨ab, cb, rfl⟩ := hv.shape
  rw [bcells_length] at hv ⊢
  obtain ⟨R, hR⟩ : ∃ R, readR d = R := ⟨_, rfl⟩
  have hRl := readR_le d
  rw [hR] at hRl
  obtain ⟨hR1, hR2, hR3, hR4⟩ := hRl
  obtain ⟨W, hW⟩ : ∃ W, ((w.alloc (.cells #[.pointer (some ⟨p, 0, none⟩)] 23)).alloc (.cells #[.int .i64 s, .int .i64 t, .int .i64 c, .slice ab b.length cb] 35)).alloc (.cells #[.int .i64 0, .int .i64 0, .int .i64 0, .slice none 0 0] 35) = W := ⟨_, rfl⟩
  have hWd : W.heap[w.heap.size]? = some (.cells #[.pointer (some ⟨p, 0, none⟩)] 23 (0, 0)) := by rw [← hW]; exact alloc_old (alloc2_at0 _ _ _) _
  have hWr : W.heap[w.heap.size + 1]? = some (.cells #[.int .i64 s, .int .i64 t, .int .i64 c, .slice ab b.length cb] 35 (0, 0)) := by rw [← hW]; exact alloc_old (alloc2_at _ _ _) _
  have hWz : W.heap[w.heap.size + 1 + 1]? = some (.cells #[.int .i64 0, .int .i64 0, .int .i64 0, .slice none 0 0] 35 (0, 0)) := by
    rw [← hW]
    have := alloc_at ((w.alloc (.cells #[.pointer (some ⟨p, 0, none⟩)] 23)).alloc (.cells #[.int .i64 s, .int .i64 t, .int .i64 c, .slice ab b.length cb] 35)) (.cells #[.int .i64 0, .int .i64 0, .int .i64 0, .slice none 0 0] 35)
    simpa using this
  have hBW : Below w.heap.size w W := by rw [← hW]; exact (((Below.refl _ _).alloc (Nat.le_refl _) _).alloc (by simp) _).alloc (by simp; omega) _
  have hWs : W.heap.size = w.heap.size + 3 := by rw [← hW]; simp
  have hDW := h.below hBW
  have hRead := rRead_any W p m d hDW hDW.wf.most1
  unfold RrPost at hRead
  rw [hR] at hRead
  unfold rootV at hRead
  have HRead := Lib.hid hRead
  have HW := Lib.hid hW
  have HWd := Lib.hid hWd
  have HWr := Lib.hid hWr
  have HWz := Lib.hid hWz
  have HWs := Lib.hid hWs
  have HR := Lib.hid hR
  obtain ⟨d0, _⟩ := cells1 hWd
  clear hRead hW hWr hWz hWs hR hWd
  have hBy : ∀ wX, Below w.heap.size w wX → Calls Tryz.prog 27 #[.agg #[.int .i64 ((R.serial : Int) + 1), .int .i64 t, .int .i64 c, .slice ab b.length cb]] wX (RbPost ((R.serial : Int) + 1) t c b wX) := fun wX hX =>
    rBytes_any wX _ t c _ b (by unfold isI64; omega) ht hc (hv.below hX) hb
  have HBy := Lib.hid hBy
  clear hBy hv
  cases hd : d.down with
  | true =>
    have hall : wrAll d t c b = (d, 15) := by unfold wrAll; rw [if_pos hd]
    have he : readE d = 15 := by unfold readE; rw [if_pos hd]
    have Hall := Lib.hid hall
    have HRd := HRead.out
    rw [he] at HRd
    have HRd2 := Lib.hid HRd
    clear hd hall he HRd
    unfold rootV
    go_enter Tryz.func7, Tryz.ntmps7
    go_wp2_with (go_at_call 9; rw [HW.out]; refine HRd2.out.mono ?_; rintro e w1 ⟨a1, c1, rfl, hrow, hB1⟩; clear hrow; have hlt := blk_lt HWz.out; obtain ⟨q0, q1, q2, q3, f0, f1, f2, f3⟩ := cellsZ ((hB1.block _ hlt).trans HWz.out); have hlt1 := Nat.lt_of_lt_of_le hlt hB1.size)
    have hX := below_new h ((below4 (hBW.trans (hB1.mono hBW.size)) (b := w.heap.size + 1 + 1) (by omega) (.int .i64 0) (.int .i64 0) (.int .i64 0) (.slice none 0 0)).alloc (by simp only [World.size_setCell]; have := hB1.size; omega) (.cells #[.int .i64 R.serial, .int .i64 R.tick, .int .i64 R.commit, .slice a1 R.blob.length c1] 35))
    obtain ⟨y0, y1, y2, y3, _⟩ := cellsZ (alloc_old (setCell4_at ((hB1.block _ (blk_lt HWz.out)).trans HWz.out) (.int .i64 0) (.int .i64 0) (.int .i64 0) (.slice none 0 0)) (.cells #[.int .i64 R.serial, .int .i64 R.tick, .int .i64 R.commit, .slice a1 R.blob.length c1] 35))
    refine bodyPost_ret (v := .tuple #[.agg #[.int .i64 0, .int .i64 0, .int .i64 0, .slice none 0 0], .int .i64 15]) (by simp [results, Tryz.results7, go_sem, y0, y1, y2, y3]) rfl (WrPost.bad 15 Hall.out (by decide) hX.1 hX.2)
  | false =>
    have he : readE d = 0 := by unfold readE; rw [if_neg (by simp [hd])]
    have HRd := HRead.out
    rw [he] at HRd
    have HRd2 := Lib.hid HRd
    obtain ⟨er, her⟩ : ∃ er, rbErr ((R.serial : Int) + 1) t c b.length = er := ⟨_, rfl⟩
    obtain ⟨L, hL⟩ : ∃ L, rbOut ((R.serial : Int) + 1) t c b = L := ⟨_, rfl⟩
    have hcast : (((R.serial + 1 : Nat) : Nat) : Int) = (R.serial : Int) + 1 := rfl
    have hall : wrAll d t c b = if er ≠ 0 then (d, er) else wrSteps d (R.serial + 1) L := by
      unfold wrAll
      rw [if_neg (by simp [hd]), HR.out, hcast, her, hL]
    have HBy2 : ∀ wX, Below w.heap.size w wX → Calls Tryz.prog 27 #[.agg #[.int .i64 ((R.serial : Int) + 1), .int .i64 t, .int .i64 c, .slice ab b.length cb]] wX fun e w' => ∃ a cc, e = .returned (.tuple #[.slice a L.length cc, .int .i64 er]) ∧ w'.ownsRow wX.heap.size 5 1 (.slice a L.length cc) L.length (bcells L) ∧ Below wX.heap.size wX w' := by
      intro wX hX
      have := HBy.out wX hX
      unfold RbPost at this
      rw [her, hL] at this
      exact this
    have hLl : L.length ≤ 1099511627776 := by
      rw [← hL]
      unfold rbOut
      split
      · rename_i h0
        have hok := rb_ok h0
        have := hok.b1
        unfold sealL ARoot.bytes
        have v1 : ∀ n, n ≤ 9007199254740992 → (vint n).length ≤ 10 := fun n hn => vint_len (by omega) (Nat.lt_of_le_of_lt hn (by decide))
        have h1 := v1 _ hok.s1
        have h2 := v1 _ hok.t1
        have h3 := v1 _ hok.c1
        have h4 := v1 (aroot ((R.serial : Int) + 1) t c b).blob.length (by omega)
        simp only [List.length_append, sumL_len, List.length_cons, List.length_nil]
        omega
      · simp
    have HBy3 := Lib.hid HBy2
    have Hall := Lib.hid hall
    clear hd he HRd her hL hcast hall HBy2
    unfold rootV
    by_cases h0 : er = 0
    · subst h0
      have Hall2 := Lib.hid (Hall.out.trans (if_neg (fun h => h rfl)))
      go_enter Tryz.func7, Tryz.ntmps7
      go_wp2_with first
        | (go_at_call 9; rw [HW.out]; refine HRd2.out.mono ?_; rintro e w1 ⟨a1, c1, rfl, hrow, hB1⟩; clear hrow; have hlt := blk_lt HWz.out; have hlt1 := Nat.lt_of_lt_of_le hlt hB1.size; have hltW := HWs.out; have hlt2 : w.heap.size + 1 < w1.heap.size := (by omega); have hlt3 : w.heap.size < w1.heap.size := (by omega); have Hz1 := Lib.hid ((hB1.block _ hlt).trans HWz.out); have Hr1 := Lib.hid ((hB1.block (w.heap.size + 1) (by omega)).trans HWr.out); have Hd1 := Lib.hid ((hB1.block w.heap.size (by omega)).trans HWd.out); obtain ⟨r0, r1, r2, r3, g0, g1, g2, g3⟩ := rootC_at Hr1.out)
        | (go_at_call 27; refine (HBy3.out _ ?_).mono ?_; exact ((hBW.trans (hB1.mono hBW.size)).setCell (p := ⟨w.heap.size + 1, 0, none⟩) (by simp) _).alloc (by simp only [World.size_setCell]; omega) _; rintro e w2 ⟨a2, c2, rfl, hrow2, hB2⟩; have HR2 := Lib.hid hrow2; clear hrow2; obtain ⟨hx0, hx1, hx2⟩ := wr_store Hd1.out Hr1.out Hz1.out (.int .i64 ((R.serial : Int) + 1)) (.cells #[.int .i64 R.serial, .int .i64 R.tick, .int .i64 R.commit, .slice a1 R.blob.length c1] 35); have Hz2 := Lib.hid ((hB2.block _ (blk_lt hx2)).trans hx2); have Hr2 := Lib.hid ((hB2.block _ (blk_lt hx1)).trans hx1); have Hd2 := Lib.hid ((hB2.block _ (blk_lt hx0)).trans hx0); have hBw2 : Below w.heap.size w w2 := (((hBW.trans (hB1.mono hBW.size)).setCell (p := ⟨w.heap.size + 1, 0, none⟩) (by simp) (.int .i64 ((R.serial : Int) + 1))).alloc (by simp only [World.size_setCell]; omega) (.cells #[.int .i64 R.serial, .int .i64 R.tick, .int .i64 R.commit, .slice a1 R.blob.length c1] 35)).trans (hB2.mono (by have := blk_lt hx0; omega)); clear hx0 hx1 hx2; have hm2 := blk_lt Hz2.out; have hm1 := blk_lt Hr2.out; have hm0 := blk_lt Hd2.out; obtain ⟨q0, q1, q2, q3, f0, f1, f2, f3⟩ := cellsZ Hz2.out; obtain ⟨s0, s1, s2, s3, k0, k1, k2, k3⟩ := rootC_at Hr2.out; obtain ⟨t0, _⟩ := cells1 Hd2.out)
      have hBV : Below w.heap.size w ((w2.alloc (.cells #[.slice a2 L.length c2] 33)).alloc (.cells #[.func (.func 28) #[] #[.pointer (some ⟨w.heap.size, 0, none⟩)], .func (.func 29) #[] #[.pointer (some ⟨w.heap.size, 0, none⟩), .pointer (some ⟨w2.heap.size, 0, none⟩)], .func (.func 30) #[] #[.pointer (some ⟨w.heap.size, 0, none⟩)], .func (.func 32) #[] #[.pointer (some ⟨w.heap.size, 0, none⟩), .pointer (some ⟨w.heap.size + 1, 0, none⟩)]] 70)) := (hBw2.alloc (by omega) _).alloc (by simp; omega) _
      have hb0 := alloc2_at0 w2 (.cells #[.slice a2 L.length c2] 33) (.cells #[.func (.func 28) #[] #[.pointer (some ⟨w.heap.size, 0, none⟩)], .func (.func 29) #[] #[.pointer (some ⟨w.heap.size, 0, none⟩), .pointer (some ⟨w2.heap.size, 0, none⟩)], .func (.func 30) #[] #[.pointer (some ⟨w.heap.size, 0, none⟩)], .func (.func 32) #[] #[.pointer (some ⟨w.heap.size, 0, none⟩), .pointer (some ⟨w.heap.size + 1, 0, none⟩)]] 70)
      have hb1 := alloc2_at w2 (.cells #[.slice a2 L.length c2] 33) (.cells #[.func (.func 28) #[] #[.pointer (some ⟨w.heap.size, 0, none⟩)], .func (.func 29) #[] #[.pointer (some ⟨w.heap.size, 0, none⟩), .pointer (some ⟨w2.heap.size, 0, none⟩)], .func (.func 30) #[] #[.pointer (some ⟨w.heap.size, 0, none⟩)], .func (.func 32) #[] #[.pointer (some ⟨w.heap.size, 0, none⟩), .pointer (some ⟨w.heap.size + 1, 0, none⟩)]] 70)
      have hUV : Upd noFp w2 ((w2.alloc (.cells #[.slice a2 L.length c2] 33)).alloc (.cells #[.func (.func 28) #[] #[.pointer (some ⟨w.heap.size, 0, none⟩)], .func (.func 29) #[] #[.pointer (some ⟨w.heap.size, 0, none⟩), .pointer (some ⟨w2.heap.size, 0, none⟩)], .func (.func 30) #[] #[.pointer (some ⟨w.heap.size, 0, none⟩)], .func (.func 32) #[] #[.pointer (some ⟨w.heap.size, 0, none⟩), .pointer (some ⟨w.heap.size + 1, 0, none⟩)]] 70)) := ((Upd.refl _ _).alloc _).alloc _
      generalize hVe : (w2.alloc (.cells #[.slice a2 L.length c2] 33)).alloc (.cells #[.func (.func 28) #[] #[.pointer (some ⟨w.heap.size, 0, none⟩)], .func (.func 29) #[] #[.pointer (some ⟨w.heap.size, 0, none⟩), .pointer (some ⟨w2.heap.size, 0, none⟩)], .func (.func 30) #[] #[.pointer (some ⟨w.heap.size, 0, none⟩)], .func (.func 32) #[] #[.pointer (some ⟨w.heap.size, 0, none⟩), .pointer (some ⟨w.heap.size + 1, 0, none⟩)]] 70) = V at hBV hb0 hb1 hUV ⊢
      clear hVe
      have hzV := hUV.keep Hz2.out (fun h => h)
      have hrV := hUV.keep Hr2.out (fun h => h)
      have hdV := hUV.keep Hd2.out (fun h => h)
      have hrdV := (Rd.ofOwns HR2.out).keep hUV (fun _ _ h => h)
      have hgl : ∀ g, (Value.slice a2 L.length c2).ownBlock = some g → w.heap.size ≤ g ∧ g < V.heap.size := fun g hg => by
        have h1 := row_from HR2.out hg
        have h2 := row_lt HR2.out hg
        have h3 := hUV.size
        simp only [World.size_alloc, World.size_setCell] at h1
        omega
      obtain ⟨ex', hex'⟩ : ∃ ex' : Nat → Prop, ex' = fun k => ex k ∨ (w.heap.size ≤ k ∧ k < V.heap.size) := ⟨_, rfl⟩
      have hexx : ∀ k, ex k → ex' k := fun k hk => by rw [hex']; exact Or.inl hk
      have hexn : ∀ k, w.heap.size ≤ k → k < V.heap.size → ex' k := fun k h1 h2 => by rw [hex']; exact Or.inr ⟨h1, h2⟩
      have hDV : DiskAt ex' V p m d := h.more hBV (fun k hk => by rw [hex'] at hk; exact hk)
      have hKV : Keep ex w V := Keep.ofBelow hBV (fun k hk => h.lt hk)
      have hxz : ex' (w.heap.size + 1 + 1) := hexn _ (by omega) (blk_lt hzV)
      have hxr : ex' (w.heap.size + 1) := hexn _ (by omega) (blk_lt hrV)
      have hxd : ex' w.heap.size := hexn _ (by omega) (blk_lt hdV)
      have hxb : ex' w2.heap.size := hexn _ (by omega) (blk_lt hb0)
      have hxf : ex' (w2.heap.size + 1) := hexn _ (by omega) (blk_lt hb1)
      have hxg : ∀ g, (Value.slice a2 L.length c2).ownBlock = some g → ex' g := fun g hg => hexn g (hgl g hg).1 (hgl g hg).2
      have HzV := Lib.hid hzV
      have HrV := Lib.hid hrV
      have HdV := Lib.hid hdV
      have HrdV := Lib.hid hrdV
      have Hb0 := Lib.hid hb0
      have Hb1 := Lib.hid hb1
      have Hexx := Lib.hid hexx
      have Hxz := Lib.hid hxz
      have Hxr := Lib.hid hxr
      have Hxd := Lib.hid hxd
      have Hxb := Lib.hid hxb
      have Hxf := Lib.hid hxf
      have Hxg := Lib.hid hxg
      clear hzV hrV hdV hrdV hb0 hb1 hgl hex' hexx hexn hxz hxr hxd hxb hxf hxg q0 q1 q2 q3 f0 f1 f2 f3 s0 s1 s2 s3 k0 k1 k2 k3 t0 r0 r1 r2 r3 g0 g1 g2 g3 hUV
      go_loopw [11, 12, 42] (fun _ _ i wr => ∃ (j : Nat) (kk : Int), j ≤ 4 ∧ kk = j ∧ i = .int .i64 kk ∧ DiskAt ex' wr p m (stepD d (R.serial + 1) L j) ∧ Keep ex' V wr ∧ ∀ i, i < j → stepE d (R.serial + 1) L i = 0) (fun _ _ i _ => 4 - (intOf i).toNat)
      case atStart => exact ⟨0, 0, by omega, rfl, rfl, hDV, Keep.refl _ _, fun i hi => absurd hi (Nat.not_lt_zero i)⟩
      case round =>
      obtain ⟨j, kk, hj, hkk, rfl, hDr, hKr, hzs⟩ := hrel
      have Hzs := Lib.hid hzs
      have hfr := (hKr.block _ Hxf.out).trans Hb1.out
      have hl0 := cell_at hfr 0
      have hl1 := cell_at hfr 1
      have hl2 := cell_at hfr 2
      have hl3 := cell_at hfr 3
      have hzr := (hKr.block _ Hxz.out).trans HzV.out
      have hrr := (hKr.block _ Hxr.out).trans HrV.out
      have Hzr := Lib.hid hzr
      have Hrr := Lib.hid hrr
      obtain ⟨cd, _⟩ := cells1 ((hKr.block _ Hxd.out).trans HdV.out)
      obtain ⟨cb', _⟩ := cells1 ((hKr.block _ Hxb.out).trans Hb0.out)
      obtain ⟨cr, _⟩ := rootC_at hrr
      have hrdr := hKr.rd HrdV.out Hxg.out
      have Hrdr := Lib.hid hrdr
      have Hcd := Lib.hid cd
      have Hcb := Lib.hid cb'
      have Hcr := Lib.hid cr
      clear hzs hfr hzr hrr hrdr cd cb' cr
      have hj5 : j = 0 ∨ j = 1 ∨ j = 2 ∨ j = 3 ∨ j = 4 := by omega
      rcases hj5 with rfl | rfl | rfl | rfl | rfl
      · obtain rfl : kk = 0 := by omega
        clear hkk
        by_cases hz0 : stepE d (R.serial + 1) L 0 = 0
        · have hst := rWrite1_at w.heap.size hDr Hcd.out
          change Calls _ _ _ _ (fun e w' => e = .returned (.int .i64 (stepE d (R.serial + 1) L 0)) ∧ DiskAt ex' w' p m (stepD d (R.serial + 1) L 1) ∧ Keep ex' wr w') at hst
          rw [hz0] at hst
          have Hst := Lib.hid hst
          have Hz0 := Lib.hid hz0
          clear hst hz0
          go_wp2_with (go_at_call 28; refine Hst.out.mono ?_; rintro e w3 ⟨rfl, hD3, hK3⟩)
          go_roundw
          case rel => exact ⟨1, 1, by omega, rfl, rfl, hD3, hKr.trans hK3, fun i hi => (Nat.lt_succ_iff_lt_or_eq.1 hi).elim (fun h => Hzs.out i h) (fun h => h ▸ Hz0.out)⟩
          case measure => simp [intOf]
        · have hst := rWrite1_at w.heap.size hDr Hcd.out
          change Calls _ _ _ _ (fun e w' => e = .returned (.int .i64 (stepE d (R.serial + 1) L 0)) ∧ DiskAt ex' w' p m (stepD d (R.serial + 1) L 1) ∧ Keep ex' wr w') at hst
          have hbad := steps_bad (by omega) Hzs.out hz0
          have hall3 := Hall2.out.trans hbad
          obtain ⟨se, hse⟩ : ∃ se, stepE d (R.serial + 1) L 0 = se := ⟨_, rfl⟩
          rw [hse] at hst hall3 hz0
          have hz0b : (se != 0) = true := by simpa using hz0
          have Hst := Lib.hid hst
          have Hall3 := Lib.hid hall3
          have Hz0 := Lib.hid hz0
          clear hst hz0 hbad hall3 hse
          go_wp2_with (go_at_call 28; refine Hst.out.mono ?_; rintro e w3 ⟨rfl, hD3, hK3⟩; obtain ⟨q0, q1, q2, q3, f0, f1, f2, f3⟩ := cellsZ ((hK3.block _ Hxz.out).trans Hzr.out))
          refine bodyPost_ret (v := .tuple #[.agg #[.int .i64 0, .int .i64 0, .int .i64 0, .slice none 0 0], .int .i64 se]) (by simp [results, Tryz.results7, go_sem, q0, q1, q2, q3]) rfl (WrPost.bad se Hall3.out Hz0.out ((disk4 hD3 Hxz.out _ _ _ _).mono (fun k hk => Hexx.out k hk)) (keep4 (hKV.trans ((hKr.trans hK3).mono (fun k hk => Hexx.out k hk))) (fun hk => by have := h.lt hk; omega) _ _ _ _))
      · obtain rfl : kk = 1 := by omega
        clear hkk
        by_cases hz0 : stepE d (R.serial + 1) L 1 = 0
        · have hst := rWrite2_at w.heap.size w2.heap.size _ L hDr Hcd.out Hcb.out Hrdr.out (by omega)
          change Calls _ _ _ _ (fun e w' => e = .returned (.int .i64 (stepE d (R.serial + 1) L 1)) ∧ DiskAt ex' w' p m (stepD d (R.serial + 1) L 2) ∧ Keep ex' wr w') at hst
          rw [hz0] at hst
          have Hst := Lib.hid hst
          have Hz0 := Lib.hid hz0
          clear hst hz0
          go_wp2_with (go_at_call 29; refine Hst.out.mono ?_; rintro e w3 ⟨rfl, hD3, hK3⟩)
          go_roundw
          case rel => exact ⟨2, 2, by omega, rfl, rfl, hD3, hKr.trans hK3, fun i hi => (Nat.lt_succ_iff_lt_or_eq.1 hi).elim (fun h => Hzs.out i h) (fun h => h ▸ Hz0.out)⟩
          case measure => simp [intOf]
        · have hst := rWrite2_at w.heap.size w2.heap.size _ L hDr Hcd.out Hcb.out Hrdr.out (by omega)
          change Calls _ _ _ _ (fun e w' => e = .returned (.int .i64 (stepE d (R.serial + 1) L 1)) ∧ DiskAt ex' w' p m (stepD d (R.serial + 1) L 2) ∧ Keep ex' wr w') at hst
          have hbad := steps_bad (by omega) Hzs.out hz0
          have hall3 := Hall2.out.trans hbad
          obtain ⟨se, hse⟩ : ∃ se, stepE d (R.serial + 1) L 1 = se := ⟨_, rfl⟩
          rw [hse] at hst hall3 hz0
          have hz0b : (se != 0) = true := by simpa using hz0
          have Hst := Lib.hid hst
          have Hall3 := Lib.hid hall3
          have Hz0 := Lib.hid hz0
          clear hst hz0 hbad hall3 hse
          go_wp2_with (go_at_call 29; refine Hst.out.mono ?_; rintro e w3 ⟨rfl, hD3, hK3⟩; obtain ⟨q0, q1, q2, q3, f0, f1, f2, f3⟩ := cellsZ ((hK3.block _ Hxz.out).trans Hzr.out))
          refine bodyPost_ret (v := .tuple #[.agg #[.int .i64 0, .int .i64 0, .int .i64 0, .slice none 0 0], .int .i64 se]) (by simp [results, Tryz.results7, go_sem, q0, q1, q2, q3]) rfl (WrPost.bad se Hall3.out Hz0.out ((disk4 hD3 Hxz.out _ _ _ _).mono (fun k hk => Hexx.out k hk)) (keep4 (hKV.trans ((hKr.trans hK3).mono (fun k hk => Hexx.out k hk))) (fun hk => by have := h.lt hk; omega) _ _ _ _))
      · obtain rfl : kk = 2 := by omega
        clear hkk
        by_cases hz0 : stepE d (R.serial + 1) L 2 = 0
        · have hst := rWrite3_at w.heap.size hDr Hcd.out
          change Calls _ _ _ _ (fun e w' => e = .returned (.int .i64 (stepE d (R.serial + 1) L 2)) ∧ DiskAt ex' w' p m (stepD d (R.serial + 1) L 3) ∧ Keep ex' wr w') at hst
          rw [hz0] at hst
          have Hst := Lib.hid hst
          have Hz0 := Lib.hid hz0
          clear hst hz0
          go_wp2_with (go_at_call 30; refine Hst.out.mono ?_; rintro e w3 ⟨rfl, hD3, hK3⟩)
          go_roundw
          case rel => exact ⟨3, 3, by omega, rfl, rfl, hD3, hKr.trans hK3, fun i hi => (Nat.lt_succ_iff_lt_or_eq.1 hi).elim (fun h => Hzs.out i h) (fun h => h ▸ Hz0.out)⟩
          case measure => simp [intOf]
        · have hst := rWrite3_at w.heap.size hDr Hcd.out
          change Calls _ _ _ _ (fun e w' => e = .returned (.int .i64 (stepE d (R.serial + 1) L 2)) ∧ DiskAt ex' w' p m (stepD d (R.serial + 1) L 3) ∧ Keep ex' wr w') at hst
          have hbad := steps_bad (by omega) Hzs.out hz0
          have hall3 := Hall2.out.trans hbad
          obtain ⟨se, hse⟩ : ∃ se, stepE d (R.serial + 1) L 2 = se := ⟨_, rfl⟩
          rw [hse] at hst hall3 hz0
          have hz0b : (se != 0) = true := by simpa using hz0
          have Hst := Lib.hid hst
          have Hall3 := Lib.hid hall3
          have Hz0 := Lib.hid hz0
          clear hst hz0 hbad hall3 hse
          go_wp2_with (go_at_call 30; refine Hst.out.mono ?_; rintro e w3 ⟨rfl, hD3, hK3⟩; obtain ⟨q0, q1, q2, q3, f0, f1, f2, f3⟩ := cellsZ ((hK3.block _ Hxz.out).trans Hzr.out))
          refine bodyPost_ret (v := .tuple #[.agg #[.int .i64 0, .int .i64 0, .int .i64 0, .slice none 0 0], .int .i64 se]) (by simp [results, Tryz.results7, go_sem, q0, q1, q2, q3]) rfl (WrPost.bad se Hall3.out Hz0.out ((disk4 hD3 Hxz.out _ _ _ _).mono (fun k hk => Hexx.out k hk)) (keep4 (hKV.trans ((hKr.trans hK3).mono (fun k hk => Hexx.out k hk))) (fun hk => by have := h.lt hk; omega) _ _ _ _))
      · obtain rfl : kk = 3 := by omega
        clear hkk
        by_cases hz0 : stepE d (R.serial + 1) L 3 = 0
        · have hst := rWrite4_at w.heap.size (w.heap.size + 1) (R.serial + 1) hDr Hcd.out Hcr.out (by omega) Hxd.out Hxr.out
          change Calls _ _ _ _ (fun e w' => e = .returned (.int .i64 (stepE d (R.serial + 1) L 3)) ∧ DiskAt ex' w' p m (stepD d (R.serial + 1) L 4) ∧ Keep ex' wr w') at hst
          rw [hz0] at hst
          have Hst := Lib.hid hst
          have Hz0 := Lib.hid hz0
          clear hst hz0
          go_wp2_with (go_at_call 32; refine Hst.out.mono ?_; rintro e w3 ⟨rfl, hD3, hK3⟩)
          go_roundw
          case rel => exact ⟨4, 4, by omega, rfl, rfl, hD3, hKr.trans hK3, fun i hi => (Nat.lt_succ_iff_lt_or_eq.1 hi).elim (fun h => Hzs.out i h) (fun h => h ▸ Hz0.out)⟩
          case measure => simp [intOf]
        · have hst := rWrite4_at w.heap.size (w.heap.size + 1) (R.serial + 1) hDr Hcd.out Hcr.out (by omega) Hxd.out Hxr.out
          change Calls _ _ _ _ (fun e w' => e = .returned (.int .i64 (stepE d (R.serial + 1) L 3)) ∧ DiskAt ex' w' p m (stepD d (R.serial + 1) L 4) ∧ Keep ex' wr w') at hst
          have hbad := steps_bad (by omega) Hzs.out hz0
          have hall3 := Hall2.out.trans hbad
          obtain ⟨se, hse⟩ : ∃ se, stepE d (R.serial + 1) L 3 = se := ⟨_, rfl⟩
          rw [hse] at hst hall3 hz0
          have hz0b : (se != 0) = true := by simpa using hz0
          have Hst := Lib.hid hst
          have Hall3 := Lib.hid hall3
          have Hz0 := Lib.hid hz0
          clear hst hz0 hbad hall3 hse
          go_wp2_with (go_at_call 32; refine Hst.out.mono ?_; rintro e w3 ⟨rfl, hD3, hK3⟩; obtain ⟨q0, q1, q2, q3, f0, f1, f2, f3⟩ := cellsZ ((hK3.block _ Hxz.out).trans Hzr.out))
          refine bodyPost_ret (v := .tuple #[.agg #[.int .i64 0, .int .i64 0, .int .i64 0, .slice none 0 0], .int .i64 se]) (by simp [results, Tryz.results7, go_sem, q0, q1, q2, q3]) rfl (WrPost.bad se Hall3.out Hz0.out ((disk4 hD3 Hxz.out _ _ _ _).mono (fun k hk => Hexx.out k hk)) (keep4 (hKV.trans ((hKr.trans hK3).mono (fun k hk => Hexx.out k hk))) (fun hk => by have := h.lt hk; omega) _ _ _ _))
      · obtain rfl : kk = 4 := by omega
        clear hkk
        have hall3 := Hall2.out.trans (steps_good Hzs.out)
        have Hall3 := Lib.hid hall3
        clear hall3
        obtain ⟨q0, q1, q2, q3, f0, f1, f2, f3⟩ := cellsZ Hzr.out
        obtain ⟨r0, r1, r2, r3, g0, g1, g2, g3⟩ := rootC_at Hrr.out
        go_wp2
        refine bodyPost_ret (v := .tuple #[.agg #[.int .i64 ((R.serial : Int) + 1), .int .i64 t, .int .i64 c, .slice ab b.length cb], .int .i64 0]) (by simp [results, Tryz.results7, go_sem, q0, q1, q2, q3]) rfl ⟨?_, ?_, ?_⟩
        · rw [Hall3.out, HR.out, if_pos rfl]; rfl
        · rw [Hall3.out]; exact (disk4 hDr Hxz.out _ _ _ _).mono (fun k hk => Hexx.out k hk)
        · exact keep4 (hKV.trans (hKr.mono (fun k hk => Hexx.out k hk))) (fun hk => by have := h.lt hk; omega) _ _ _ _
    · have h0b : (er != 0) = true := by simpa using h0
      have Hall2 := Lib.hid (Hall.out.trans (if_pos h0))
      have H0 := Lib.hid h0
      clear h0
      go_enter Tryz.func7, Tryz.ntmps7
      go_wp2_with first
        | (go_at_call 9; rw [HW.out]; refine HRd2.out.mono ?_; rintro e w1 ⟨a1, c1, rfl, hrow, hB1⟩; clear hrow; have hlt := blk_lt HWz.out; have hlt1 := Nat.lt_of_lt_of_le hlt hB1.size; have hltW := HWs.out; have hlt2 : w.heap.size + 1 < w1.heap.size := (by omega); have hlt3 : w.heap.size < w1.heap.size := (by omega); have Hz1 := Lib.hid ((hB1.block _ hlt).trans HWz.out); have Hr1 := Lib.hid ((hB1.block (w.heap.size + 1) (by omega)).trans HWr.out); have Hd1 := Lib.hid ((hB1.block w.heap.size (by omega)).trans HWd.out); obtain ⟨r0, r1, r2, r3, g0, g1, g2, g3⟩ := rootC_at Hr1.out)
        | (go_at_call 27; refine (HBy3.out _ ?_).mono ?_; exact ((hBW.trans (hB1.mono hBW.size)).setCell (p := ⟨w.heap.size + 1, 0, none⟩) (by simp) _).alloc (by simp only [World.size_setCell]; omega) _; rintro e w2 ⟨a2, c2, rfl, hrow2, hB2⟩; have HR2 := Lib.hid hrow2; clear hrow2; obtain ⟨hx0, hx1, hx2⟩ := wr_store Hd1.out Hr1.out Hz1.out (.int .i64 ((R.serial : Int) + 1)) (.cells #[.int .i64 R.serial, .int .i64 R.tick, .int .i64 R.commit, .slice a1 R.blob.length c1] 35); have Hz2 := Lib.hid ((hB2.block _ (blk_lt hx2)).trans hx2); have Hr2 := Lib.hid ((hB2.block _ (blk_lt hx1)).trans hx1); have Hd2 := Lib.hid ((hB2.block _ (blk_lt hx0)).trans hx0); have hBw2 : Below w.heap.size w w2 := (((hBW.trans (hB1.mono hBW.size)).setCell (p := ⟨w.heap.size + 1, 0, none⟩) (by simp) (.int .i64 ((R.serial : Int) + 1))).alloc (by simp only [World.size_setCell]; omega) (.cells #[.int .i64 R.serial, .int .i64 R.tick, .int .i64 R.commit, .slice a1 R.blob.length c1] 35)).trans (hB2.mono (by have := blk_lt hx0; omega)); clear hx0 hx1 hx2; have hm2 := blk_lt Hz2.out; have hm1 := blk_lt Hr2.out; have hm0 := blk_lt Hd2.out; obtain ⟨q0, q1, q2, q3, f0, f1, f2, f3⟩ := cellsZ Hz2.out; obtain ⟨s0, s1, s2, s3, k0, k1, k2, k3⟩ := rootC_at Hr2.out; obtain ⟨t0, _⟩ := cells1 Hd2.out)
      have hX := below_new h ((below4 hBw2 (b := w.heap.size + 1 + 1) (by omega) (.int .i64 0) (.int .i64 0) (.int .i64 0) (.slice none 0 0)).alloc (by simp only [World.size_setCell]; omega) (.cells #[.slice a2 L.length c2] 33))
      obtain ⟨y0, y1, y2, y3, _⟩ := cellsZ (alloc_old (setCell4_at Hz2.out (.int .i64 0) (.int .i64 0) (.int .i64 0) (.slice none 0 0)) (.cells #[.slice a2 L.length c2] 33))
      refine bodyPost_ret (v := .tuple #[.agg #[.int .i64 0, .int .i64 0, .int .i64 0, .slice none 0 0], .int .i64 er]) (by simp [results, Tryz.results7, go_sem, y0, y1, y2, y3]) rfl (WrPost.bad er Hall2.out H0.out hX.1 hX.2)
end Go.Proofs.YtkacgmbinkoojaaGreatDoor
