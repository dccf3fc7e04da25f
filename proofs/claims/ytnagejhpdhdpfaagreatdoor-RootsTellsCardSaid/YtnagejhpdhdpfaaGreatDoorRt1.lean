/-
  Package roots: Bytes.
-/
import Derived.Outline
import Derived.Lib.SlBytesConst
import Derived.Test.YtnagejhpdhdpfaaGreatDoorByt7
namespace Go.Proofs.YtnagejhpdhdpfaaGreatDoor
open Go.RowKit Go.Maps Go.MapKept

/-- a root's value. -/
def rootV (s t c : Int) (vb : Value) : Value := .agg #[.int .i64 s, .int .i64 t, .int .i64 c, vb]
def okNum (n : Int) : Prop := 0 ≤ n ∧ n ≤ 9007199254740992
/-- the error that Bytes tells. -/
def rbErr (s t c : Int) (n : Nat) : Int := if s < 1 ∨ 9007199254740992 < s ∨ t < 0 ∨ 9007199254740992 < t ∨ c < 0 ∨ 9007199254740992 < c then 2 else if 1048576 < n then 3 else 0
def aroot (s t c : Int) (b : List UInt8) : ARoot := ⟨s.toNat, t.toNat, c.toNat, b⟩
def rbOut (s t c : Int) (b : List UInt8) : List UInt8 := if rbErr s t c b.length = 0 then sealL sumL (aroot s t c b).bytes else []
theorem rb_ok {s t c : Int} {b : List UInt8} (h : rbErr s t c b.length = 0) : (aroot s t c b).Ok := by
  unfold rbErr at h
  split at h
  · cases h
  · split at h
    · cases h
    · constructor <;> simp only [aroot] <;> omega

theorem Grew.own {w wr w3 : World} {v v' : Value} {n : Nat} {xs : List Value} {l : List UInt8} (hB : Below w.heap.size w wr) (hR : wr.ownsRow w.heap.size 5 1 v n xs) (hG : Grew wr v l v' w3) : w3.ownsRow w.heap.size 5 1 v' l.length (bcells l) ∧ Below w.heap.size w w3 := by
  have hs := hB.size
  refine ⟨ownsRow_from hG.row (fun g hg => ?_), ?_⟩
  · rcases hG.blk with h3 | ⟨g', h3, hg'⟩
    · exact row_from hR (h3 ▸ hg)
    · rw [h3] at hg; cases hg; omega
  · have hU : Upd (fun k => w.heap.size ≤ k) wr w3 := hG.upd.mono (fun k hk => Or.inl (row_from hR hk))
    exact hB.trans (hU.below (fun k hk => hk) hs)
theorem Grew.own0 {w wr w3 : World} {v v' : Value} {l : List UInt8} (hB : Below w.heap.size w wr) (hv : ∀ g, v.ownBlock = some g → w.heap.size ≤ g) (hG : Grew wr v l v' w3) : w3.ownsRow w.heap.size 5 1 v' l.length (bcells l) ∧ Below w.heap.size w w3 := by
  have hs := hB.size
  refine ⟨ownsRow_from hG.row (fun g hg => ?_), ?_⟩
  · rcases hG.blk with h3 | ⟨g', h3, hg'⟩
    · exact hv g (h3 ▸ hg)
    · rw [h3] at hg; cases hg; omega
  · have hU : Upd (fun k => w.heap.size ≤ k) wr w3 := hG.upd.mono (fun k hk => Or.inl (hv k hk))
    exact hB.trans (hU.below (fun k hk => hk) hs)

def magicL : List UInt8 := [72, 83, 82, 49]
def RbPost (s t c : Int) (b : List UInt8) (w : World) (e : Ending) (w' : World) : Prop :=
  ∃ a cc, e = .returned (.tuple #[.slice a (rbOut s t c b).length cc, .int .i64 (rbErr s t c b.length)]) ∧ w'.ownsRow w.heap.size 5 1 (.slice a (rbOut s t c b).length cc) (rbOut s t c b).length (bcells (rbOut s t c b)) ∧ Below w.heap.size w w'
theorem RbPost.bad {s t c : Int} {b : List UInt8} {w w' : World} (er : Int) (h : rbErr s t c b.length = er) (h0 : er ≠ 0) (hB : Below w.heap.size w w') : RbPost s t c b w (.returned (.tuple #[.slice none 0 0, .int .i64 er])) w' := by
  have ho : rbOut s t c b = [] := by unfold rbOut; rw [h, if_neg h0]
  refine ⟨none, 0, by rw [h, ho]; rfl, by rw [ho]; exact World.ownsRow_nil _ _ _ _, hB⟩
/-- the numbers ahead of the k-th. -/
def pre (s t c : Int) : Nat → List UInt8
  | 0 => magicL
  | 1 => magicL ++ vint s.toNat
  | 2 => magicL ++ vint s.toNat ++ vint t.toNat
  | _ => magicL ++ vint s.toNat ++ vint t.toNat ++ vint c.toNat

def magicC : Array Value := #[.int .u8 72, .int .u8 83, .int .u8 82, .int .u8 49]
theorem magic_run (w : World) (o : Obj) : (convert 22 22 (.slice (some ⟨w.heap.size + 1, 0, none⟩) 4 4)).run Tryz.prog ((w.alloc o).alloc (.cells #[.int .u8 72, .int .u8 83, .int .u8 82, .int .u8 49] 5)) =
    .ok (.slice (some ⟨w.heap.size + 1, 0, none⟩) 4 4) ((w.alloc o).alloc (.cells #[.int .u8 72, .int .u8 83, .int .u8 82, .int .u8 49] 5 (4, 5))) := by
  have h := Lib.run_convert_bytes_const (P := Tryz.prog) (w.alloc o) 22 5 #[.int .u8 72, .int .u8 83, .int .u8 82, .int .u8 49] 4 4 Tryz.underlying22 Tryz.underlying5
  rw [show (w.alloc o).heap.size = w.heap.size + 1 by simp] at h
  exact h
theorem run_idx3 (s t c : Int) (w : World) :
    (Instr.index 72 (.agg #[.int .i64 s, .int .i64 t, .int .i64 c]) (.int .i64 0)).run Tryz.prog w = .ok (.int .i64 s) w ∧
    (Instr.index 72 (.agg #[.int .i64 s, .int .i64 t, .int .i64 c]) (.int .i64 1)).run Tryz.prog w = .ok (.int .i64 t) w ∧
    (Instr.index 72 (.agg #[.int .i64 s, .int .i64 t, .int .i64 c]) (.int .i64 2)).run Tryz.prog w = .ok (.int .i64 c) w := by
  refine ⟨?_, ?_, ?_⟩ <;> kernel_rfl

set_option maxRecDepth 100000 in
set_option maxHeartbeats 8000000 in
theorem rBytes_any (w : World) (s t c : Int) (vb : Value) (b : List UInt8) (hs : isI64 s) (ht : isI64 t) (hc : isI64 c) (hv : Rd w vb (bcells b)) (hb : b.length ≤ 140737488355328) :
    Calls Tryz.prog 8 #[rootV s t c vb] w (RbPost s t c b w) := by
  obtain ⟨ab, cb, rfl⟩ := hv.shape
  rw [bcells_length] at hv ⊢
  have kc := magic_run w (.cells #[.int .i64 s, .int .i64 t, .int .i64 c, .slice ab b.length cb] 24)
  have Hv := Lib.hid hv
  clear hv
  unfold rootV
  unfold isI64 at hs ht hc
  go_enter Tryz.func8, Tryz.ntmps8
  go_wp2
  have hW : Below w.heap.size w (w.alloc (.cells #[.int .i64 s, .int .i64 t, .int .i64 c, .slice ab b.length cb] 24)) := (Below.refl _ _).alloc (Nat.le_refl _) _
  have hc3 : (w.alloc (.cells #[.int .i64 s, .int .i64 t, .int .i64 c, .slice ab b.length cb] 24)).cell? ⟨w.heap.size, 3, none⟩ = some (.slice ab b.length cb) := by rw [cell_at (alloc_at _ _)]; rfl
  have hrd0 := Hv.out.below hW
  have hsz : w.heap.size + 1 = (w.alloc (.cells #[.int .i64 s, .int .i64 t, .int .i64 c, .slice ab b.length cb] 24)).heap.size := by simp
  have hstart : Rd ((w.alloc (.cells #[.int .i64 s, .int .i64 t, .int .i64 c, .slice ab b.length cb] 24)).alloc (.cells #[.int .u8 72, .int .u8 83, .int .u8 82, .int .u8 49] 5 (4, 5))) (.slice (some ⟨w.heap.size + 1, 0, none⟩) 4 4) (bcells magicL) := by
    rw [hsz]
    exact Rd_new _ _ _ _ (bcells magicL) _ _ rfl rfl
  have hB0 : Below (w.heap.size + 1) (w.alloc (.cells #[.int .i64 s, .int .i64 t, .int .i64 c, .slice ab b.length cb] 24)) ((w.alloc (.cells #[.int .i64 s, .int .i64 t, .int .i64 c, .slice ab b.length cb] 24)).alloc (.cells #[.int .u8 72, .int .u8 83, .int .u8 82, .int .u8 49] 5 (4, 5))) := by
    rw [hsz]
    exact (Below.refl _ _).alloc (Nat.le_refl _) _
  generalize hW0 : w.alloc (.cells #[.int .i64 s, .int .i64 t, .int .i64 c, .slice ab b.length cb] 24) = W at hW hc3 hrd0 hsz hstart hB0 ⊢
  clear hW0
  rw [hsz] at hB0
  have Hc3 := Lib.hid hc3
  have Hrd0 := Lib.hid hrd0
  have Hstart := Lib.hid hstart
  have hwl : w.heap.size < W.heap.size := by omega
  have Hsz := Lib.hid hsz
  clear hc3 hrd0 hstart kc hsz
  go_loopw [4, 5, 6, 16] (fun o _ _ i wr => ∃ (k : Nat) (kk : Int) (y : List UInt8) (a' : Option Addr) (c' : Nat), k ≤ 3 ∧ kk = k ∧ i = .int .i64 kk ∧ y = pre s t c k ∧ o = .slice a' y.length c' ∧ Src wr (.slice a' y.length c') y ∧ (∀ g, (Value.slice a' y.length c').ownBlock = some g → W.heap.size ≤ g) ∧ Below W.heap.size W wr ∧
      (1 ≤ k → 1 ≤ s ∧ s ≤ 9007199254740992) ∧ (2 ≤ k → 0 ≤ t ∧ t ≤ 9007199254740992) ∧ (3 ≤ k → 0 ≤ c ∧ c ≤ 9007199254740992)) (fun _ _ _ i _ => 3 - (intOf i).toNat)
  case atStart => exact ⟨0, 0, magicL, _, _, by omega, rfl, rfl, rfl, rfl, Or.inr ⟨Hstart.out, _, rfl, by decide⟩, fun g hg => by cases hg; rw [← Hsz.out]; exact Nat.le_refl _, hB0, fun h => by omega, fun h => by omega, fun h => by omega⟩
  case round =>
    obtain ⟨k, kk, y, a', c', hk, hkk, rfl, hy, rfl, hsrc, hown, hB, k1, k2, k3⟩ := hrel
    have hyl : y.length ≤ 40 := by
      have hm : ∀ n : Int, n.toNat < 18446744073709551616 → (vint n.toNat).length ≤ 10 := fun n h => vint_len (by omega) (Nat.lt_trans h (by decide))
      have h1 := hm s (by omega)
      have h2 := hm t (by omega)
      have h3 := hm c (by omega)
      rw [hy]
      have hm4 : magicL.length = 4 := rfl
      rcases k with _ | _ | _ | k <;> simp only [pre, List.length_append] <;> omega
    have Hsrc := Lib.hid hsrc
    have Hown := Lib.hid hown
    have Hy := Lib.hid hy
    have K1 := Lib.hid k1
    have K2 := Lib.hid k2
    have K3 := Lib.hid k3
    clear hsrc hown hB0 hy k1 k2 k3
    have hk4 : k = 0 ∨ k = 1 ∨ k = 2 ∨ k = 3 := by omega
    rcases hk4 with rfl | rfl | rfl | rfl
    · obtain rfl : kk = 0 := by omega
      clear hkk
      have hix := fun w' => (run_idx3 s t c w').1
      have hcase : s < 0 ∨ 9007199254740992 < s ∨ (¬ s < 0 ∧ ¬ 9007199254740992 < s ∧ (s == 0) = true) ∨ (¬ s < 0 ∧ ¬ 9007199254740992 < s ∧ 0 ≤ s ∧ s ≤ 9007199254740992 ∧ (s == 0) = false) := by
        by_cases h0 : s = 0
        · exact Or.inr (Or.inr (Or.inl ⟨by omega, by omega, by simpa using h0⟩))
        · by_cases h1 : s < 0
          · exact Or.inl h1
          · by_cases h2 : 9007199254740992 < s
            · exact Or.inr (Or.inl h2)
            · exact Or.inr (Or.inr (Or.inr ⟨h1, h2, by omega, by omega, by simpa using h0⟩))
      rcases hcase with h1 | h1 | ⟨h1, h2, h3⟩ | ⟨h1, h2, h3, h4, h5⟩
      · go_wp2
        go_ret2
        exact RbPost.bad 2 (by unfold rbErr; rw [if_pos (by omega)]) (by decide) (hW.trans (hB.mono hW.size))
      · go_wp2
        go_ret2
        exact RbPost.bad 2 (by unfold rbErr; rw [if_pos (by omega)]) (by decide) (hW.trans (hB.mono hW.size))
      · have hne : s < 1 := by
          have h0 : s = 0 := by simpa using h3
          omega
        go_wp2
        go_ret2
        exact RbPost.bad 2 (by unfold rbErr; rw [if_pos (Or.inl hne)]) (by decide) (hW.trans (hB.mono hW.size))
      · have hU := bUint_any wr (.slice a' y.length c') y s.toNat Hsrc.out (by omega) (by omega)
        rw [Int.toNat_of_nonneg (by omega : 0 ≤ s)] at hU
        obtain ⟨y2, hy2⟩ : ∃ y2, y ++ vint s.toNat = y2 := ⟨_, rfl⟩
        rw [hy2] at hU
        have hpre : y2 = pre s t c 1 := by rw [← hy2, Hy.out]; rfl
        have Hpre := Lib.hid hpre
        have HU := Lib.hid hU
        clear hU hpre hy2
        go_wp2_with (go_at_call 37; refine HU.out.mono ?_; rintro e w1 ⟨a1, c1, rfl, hG⟩; have HG := Lib.hid hG; clear hG)
        go_roundw
        case rel =>
          obtain ⟨hr1, hr2⟩ := Grew.own0 hB Hown.out HG.out
          exact ⟨1, 1, y2, a1, c1, by omega, rfl, rfl, Hpre.out, rfl, Or.inl (ownsRow_base0 hr1), fun g hg => row_from hr1 hg, hr2, fun _ => ⟨Int.lt_iff_le_and_ne.2 ⟨h3, fun e => by subst e; simp at h5⟩, h4⟩, fun h => by omega, fun h => by omega⟩
        case measure => simp [intOf]
    · obtain rfl : kk = 1 := by omega
      clear hkk
      have hix := fun w' => (run_idx3 s t c w').2.1
      rcases (by omega : t < 0 ∨ 9007199254740992 < t ∨ (¬ t < 0 ∧ ¬ 9007199254740992 < t ∧ 0 ≤ t ∧ t ≤ 9007199254740992)) with h1 | h1 | ⟨h1, h2, h3, h4⟩
      · go_wp2
        go_ret2
        exact RbPost.bad 2 (by unfold rbErr; rw [if_pos (by omega)]) (by decide) (hW.trans (hB.mono hW.size))
      · go_wp2
        go_ret2
        exact RbPost.bad 2 (by unfold rbErr; rw [if_pos (by omega)]) (by decide) (hW.trans (hB.mono hW.size))
      · have hU := bUint_any wr (.slice a' y.length c') y t.toNat Hsrc.out (by omega) (by omega)
        rw [Int.toNat_of_nonneg (by omega : 0 ≤ t)] at hU
        obtain ⟨y2, hy2⟩ : ∃ y2, y ++ vint t.toNat = y2 := ⟨_, rfl⟩
        rw [hy2] at hU
        have hpre : y2 = pre s t c 2 := by rw [← hy2, Hy.out]; rfl
        have Hpre := Lib.hid hpre
        have HU := Lib.hid hU
        clear hU hpre hy2
        go_wp2_with (go_at_call 37; refine HU.out.mono ?_; rintro e w1 ⟨a1, c1, rfl, hG⟩; have HG := Lib.hid hG; clear hG)
        go_roundw
        case rel =>
          obtain ⟨hr1, hr2⟩ := Grew.own0 hB Hown.out HG.out
          exact ⟨2, 2, y2, a1, c1, by omega, rfl, rfl, Hpre.out, rfl, Or.inl (ownsRow_base0 hr1), fun g hg => row_from hr1 hg, hr2, fun _ => K1.out (by omega), fun _ => ⟨h3, h4⟩, fun h => by omega⟩
        case measure => simp [intOf]
    · obtain rfl : kk = 2 := by omega
      clear hkk
      have hix := fun w' => (run_idx3 s t c w').2.2
      rcases (by omega : c < 0 ∨ 9007199254740992 < c ∨ (¬ c < 0 ∧ ¬ 9007199254740992 < c ∧ 0 ≤ c ∧ c ≤ 9007199254740992)) with h1 | h1 | ⟨h1, h2, h3, h4⟩
      · go_wp2
        go_ret2
        exact RbPost.bad 2 (by unfold rbErr; rw [if_pos (by omega)]) (by decide) (hW.trans (hB.mono hW.size))
      · go_wp2
        go_ret2
        exact RbPost.bad 2 (by unfold rbErr; rw [if_pos (by omega)]) (by decide) (hW.trans (hB.mono hW.size))
      · have hU := bUint_any wr (.slice a' y.length c') y c.toNat Hsrc.out (by omega) (by omega)
        rw [Int.toNat_of_nonneg (by omega : 0 ≤ c)] at hU
        obtain ⟨y2, hy2⟩ : ∃ y2, y ++ vint c.toNat = y2 := ⟨_, rfl⟩
        rw [hy2] at hU
        have hpre : y2 = pre s t c 3 := by rw [← hy2, Hy.out]; rfl
        have Hpre := Lib.hid hpre
        have HU := Lib.hid hU
        clear hU hpre hy2
        go_wp2_with (go_at_call 37; refine HU.out.mono ?_; rintro e w1 ⟨a1, c1, rfl, hG⟩; have HG := Lib.hid hG; clear hG)
        go_roundw
        case rel =>
          obtain ⟨hr1, hr2⟩ := Grew.own0 hB Hown.out HG.out
          exact ⟨3, 3, y2, a1, c1, by omega, rfl, rfl, Hpre.out, rfl, Or.inl (ownsRow_base0 hr1), fun g hg => row_from hr1 hg, hr2, fun _ => K1.out (by omega), fun _ => K2.out (by omega), fun _ => ⟨h3, h4⟩⟩
        case measure => simp [intOf]
    · obtain rfl : kk = 3 := by omega
      clear hkk
      have k1 := K1.out (by omega)
      have k2 := K2.out (by omega)
      have k3 := K3.out (by omega)
      have her : rbErr s t c b.length = if 1048576 < b.length then 3 else 0 := by unfold rbErr; rw [if_neg (by omega)]
      have hc3 := (hB.cell (p := ⟨w.heap.size, 3, none⟩) hwl).trans Hc3.out
      by_cases hbl : 1048576 < b.length
      · rw [if_pos hbl] at her
        have hbl' : (1048576 : Int) < (b.length : Int) := by omega
        have Her := Lib.hid her
        clear her k1 k2 k3
        go_wp2
        go_ret2
        exact RbPost.bad 3 Her.out (by decide) (hW.trans (hB.mono hW.size))
      · rw [if_neg hbl] at her
        have hbl' : ¬ (1048576 : Int) < (b.length : Int) := by omega
        obtain ⟨L, hL⟩ : ∃ L, y ++ (vint b.length ++ b) = L := ⟨_, rfl⟩
        have hLb : L = (aroot s t c b).bytes := by
          rw [← hL, Hy.out]
          simp [pre, ARoot.bytes, aroot, magicL]
        have hLl : L.length ≤ 1099511627776 := by
          rw [← hL]
          have := vint_len (n := b.length) (k := 10) (by omega) (Nat.lt_of_le_of_lt (by omega : b.length ≤ 1048576) (by decide))
          simp only [List.length_append]; omega
        have hBl := bBlob_any wr (.slice a' y.length c') (.slice ab b.length cb) y b Hsrc.out (Hrd0.out.below hB) (fun w' hu => Hrd0.out.below (hB.trans (hu.below (fun k hk => Hown.out k hk) hB.size))) (by omega) (by omega)
        rw [hL] at hBl
        have hout : rbOut s t c b = L ++ sumL L := by unfold rbOut sealL; rw [if_pos her, hLb]
        have HBl := Lib.hid hBl
        have Hout := Lib.hid hout
        have Her := Lib.hid her
        clear hBl hout her hL hLb k1 k2 k3
        go_wp2_with first
          | (go_at_call 39; refine HBl.out.mono ?_; rintro e w1 ⟨a1, c1, rfl, hG⟩; have HG := Lib.hid hG; clear hG)
          | (go_at_call 38; refine (bSeal_any w1 _ L (Rd.ofOwns HG.out.row) hLl).mono ?_; rintro e w2 ⟨a2, c2, rfl, hR, hB2⟩; have HR := Lib.hid hR; clear hR)
        go_ret2
        have hBw : Below w.heap.size w w2 := (hW.trans ((Grew.own0 hB Hown.out HG.out).2.mono hW.size)).trans (hB2.mono (Nat.le_trans hW.size (Grew.own0 hB Hown.out HG.out).2.size))
        exact ⟨a2, c2, by rw [Her.out, Hout.out]; simp, by rw [Hout.out]; exact ownsRow_from HR.out (fun g hg => Nat.le_trans (Nat.le_trans hW.size (Grew.own0 hB Hown.out HG.out).2.size) (row_from HR.out hg)), hBw⟩
end Go.Proofs.YtnagejhpdhdpfaaGreatDoor
