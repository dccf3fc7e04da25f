/-
  PagesNumbers: the walk (printed by wip/gen/n5y.py s).
-/
import Derived.Outline
import Derived.Deep.CutRange
import Derived.Deep.RegionLaw
import Derived.Deep.RegionHeld3
import Derived.Test.YtbepcjajbcecnaaGreatDoorMNmA
import Derived.Test.YtbepcjajbcecnaaGreatDoorMNmG
namespace Go.Proofs.YtbepcjajbcecnaaGreatDoor
open Go.RowKit Go.Maps Go.MapKept
set_option linter.unusedSimpArgs false
theorem nine_set {exq : Nat → Prop} {w1 W w3 : World} {p m b : Nat} {d : ADisk} (hD : DiskAt exq w3 p m d) (hq : ∀ k, k < W.heap.size → exq k) (hbW : Below w1.heap.size w1 W) (hb3 : Below W.heap.size W w3) (h1 : w1.heap.size ≤ b) (h2 : b < W.heap.size) (v0 v1 v2 v3 : Value) :
    DiskAt exq (set4n w3 b v0 v1 v2 v3) p m d ∧ (∀ k, k < w1.heap.size → exq k) ∧ Below w1.heap.size w1 (set4n w3 b v0 v1 v2 v3) := by
  have hs := hbW.size
  have hs3 := hb3.size
  have hU := set4n_upd w3 b v0 v1 v2 v3
  exact ⟨hD.upd hU (fun k _ e => by rw [e]; exact hq b h2), fun k hk => hq k (by omega), (hbW.trans (hb3.mono hs)).trans (hU.below (fun k hk => by omega) (by omega))⟩
theorem nine_alloc {exq : Nat → Prop} {w1 W w3 : World} {p m : Nat} {d : ADisk} (hD : DiskAt exq w3 p m d) (hq : ∀ k, k < W.heap.size → exq k) (hbW : Below w1.heap.size w1 W) (hb3 : Below W.heap.size W w3) (o : Obj) :
    DiskAt exq (w3.alloc o) p m d ∧ (∀ k, k < w1.heap.size → exq k) ∧ Below w1.heap.size w1 (w3.alloc o) := by
  have hs := hbW.size
  have hs3 := hb3.size
  exact ⟨hD.below ((Below.refl _ _).alloc (Nat.le_refl _) _), fun k hk => hq k (by omega), (hbW.trans (hb3.mono hs)).alloc (by omega) _⟩
set_option maxRecDepth 100000 in
set_option maxHeartbeats 60000000 in
theorem numbers5_law (w : World) (hE : WEnv w) : Calls Tryz.prog 11 #[] w fun e w' => e = .returned (.bool true) ∧ Below w.heap.size w w' := by
  have kc := fun (w : World) (C : Array Value) (n c : Nat) => Lib.run_convert_bytes_const (P := Tryz.prog) w 25 5 C n c Tryz.underlying25 Tryz.underlying5
  have HE := Lib.hid hE
  clear hE
  go_enter Tryz.func11, Tryz.ntmps11
  go_upto_region 2 with fail
  have hr214 : ∀ w : World, Calls Tryz.prog 41 #[.int .i64 2, .int .i64 1, .string ⟨#[107]⟩, .int .i64 1, .int .i64 1, .int .i64 4] w fun e w' => ∃ a c, e = .returned (.agg #[.string ⟨#[105, 50]⟩, .slice a (rawB 2 1 nK 1 1 4).length c]) ∧ Rd w' (.slice a (rawB 2 1 nK 1 1 4).length c) (bcells (rawB 2 1 nK 1 1 4)) ∧ Below w.heap.size w w' := fun w => raw5_any w 2 1 nK 1 1 4 (by decide) (by decide) (by decide) (by decide) (by decide) (by decide)
  have hh0 := Rd_new w #[.int .u8 104, .int .u8 101, .int .u8 108, .int .u8 108, .int .u8 111] 5 (5, 6) (bcells hello5) 5 5 rfl rfl
  have hbh : Below w.heap.size w (w.alloc (.cells #[.int .u8 104, .int .u8 101, .int .u8 108, .int .u8 108, .int .u8 111] 5 (5, 6))) := (Below.refl _ _).alloc (Nat.le_refl _) _
  have hsh : (w.alloc (.cells #[.int .u8 104, .int .u8 101, .int .u8 108, .int .u8 108, .int .u8 111] 5 (5, 6))).heap.size = w.heap.size + 1 := by simp
  obtain ⟨wh, hwh⟩ : ∃ y, w.alloc (.cells #[.int .u8 104, .int .u8 101, .int .u8 108, .int .u8 108, .int .u8 111] 5 (5, 6)) = y := ⟨_, rfl⟩
  rw [hwh] at hh0 hbh hsh ⊢
  obtain ⟨vh, hvh⟩ : ∃ v, Value.slice (some ⟨w.heap.size, 0, none⟩) 5 5 = v := ⟨_, rfl⟩
  obtain ⟨hb, hhb⟩ : ∃ b, w.heap.size = b := ⟨_, rfl⟩
  rw [hhb] at hh0 hsh ⊢
  have hB1 := alloc_at wh (.cells #[.string ⟨#[99, 49]⟩, .slice (some ⟨hb, 0, none⟩) 5 5] 71)
  have hh1 := hh0.below ((Below.refl wh.heap.size wh).alloc (Nat.le_refl _) (.cells #[.string ⟨#[99, 49]⟩, .slice (some ⟨hb, 0, none⟩) 5 5] 71))
  have hb1 := hbh.trans (((Below.refl wh.heap.size wh).alloc (Nat.le_refl _) (.cells #[.string ⟨#[99, 49]⟩, .slice (some ⟨hb, 0, none⟩) 5 5] 71)).mono hbh.size)
  obtain ⟨w1, hw1⟩ : ∃ y, wh.alloc (.cells #[.string ⟨#[99, 49]⟩, .slice (some ⟨hb, 0, none⟩) 5 5] 71) = y := ⟨_, rfl⟩
  obtain ⟨B1, hB1e⟩ : ∃ b, hb + 1 = b := ⟨_, rfl⟩
  rw [hw1] at hB1 hh1 hb1 ⊢
  rw [hsh, hB1e] at hB1
  rw [hB1e]
  have H1 := Lib.hid (And.intro hB1 (And.intro hh1 hb1))
  have hcl : (rawB 2 1 nK 1 1 4).length ≤ 3000 := by decide +kernel
  obtain ⟨n214, hn214⟩ : ∃ n, (rawB 2 1 nK 1 1 4).length = n := ⟨_, rfl⟩
  rw [hn214] at hr214
  clear hsh hbh hwh hvh hhb hB1e hw1 hh0 hh1 hb1
  obtain ⟨y0, y1, _⟩ := cells2 hB1
  have v0 := (((Below.refl w1.heap.size w1).alloc (Nat.le_refl _) (.cells #[.int .i64 0, .slice none 0 0, .int .i64 0, .bool false] 74)).cell (p := ⟨B1, 0, none⟩) (cell_lt y0)).trans y0
  have v1 := (((Below.refl w1.heap.size w1).alloc (Nat.le_refl _) (.cells #[.int .i64 0, .slice none 0 0, .int .i64 0, .bool false] 74)).cell (p := ⟨B1, 1, none⟩) (cell_lt y1)).trans y1
  go_cut [2, 3] from 30 to 43 (fun dv wv wx => ∃ (p m b : Nat) (exq : Nat → Prop), dv = .pointer (some ⟨p, 0, none⟩) ∧ wv = .pointer (some ⟨b, 0, none⟩) ∧ DiskAt exq wx p m (madeN nine5) ∧ (∀ k, k < w1.heap.size → exq k) ∧ Below w1.heap.size w1 wx)
  case first =>
    go_region_law (first
      | (go_simp; go_at_call 41; refine (hr214 _).mono ?_; rintro e w2 ⟨ra, rc, rfl, hr2, hb2⟩; first
          | (have hb2' : Below w1.heap.size w1 w2 := ((Below.refl w1.heap.size w1).drew).trans hb2; clear hb2)
          | (have hZ2 : w2.heap[w1.heap.size]? = some (.cells #[.int .i64 0, .slice none 0 0, .int .i64 0, .bool false] 74) := (hb2.block _ (by simp)).trans (show (w1.alloc (.cells #[.int .i64 0, .slice none 0 0, .int .i64 0, .bool false] 74)).heap[w1.heap.size]? = _ from alloc_at w1 (.cells #[.int .i64 0, .slice none 0 0, .int .i64 0, .bool false] 74)); have hb2' : Below w1.heap.size w1 w2 := ((Below.refl w1.heap.size w1).alloc (Nat.le_refl _) _).drew.trans (hb2.mono (by simp)); clear hb2)
         have y0 := (hb2'.cell (p := ⟨B1, 0, none⟩) (cell_lt y0)).trans y0; have y1 := (hb2'.cell (p := ⟨B1, 1, none⟩) (cell_lt y1)).trans y1; have v0 := (((Below.refl w2.heap.size w2).alloc (Nat.le_refl _) (.cells #[.int .i64 0, .slice none 0 0, .int .i64 0, .bool false] 74)).cell (p := ⟨B1, 0, none⟩) (cell_lt y0)).trans y0; have v1 := (((Below.refl w2.heap.size w2).alloc (Nat.le_refl _) (.cells #[.int .i64 0, .slice none 0 0, .int .i64 0, .bool false] 74)).cell (p := ⟨B1, 1, none⟩) (cell_lt y1)).trans y1)
      | (go_simp; go_at_call 33; (with_reducible refine (made9 _ _ _ _ (made9a w2 ra n214 rc hb hr2 (H1.out.2.1.below hb2'))).mono ?_); rintro e w3 ⟨p, m, a, n, c, exq, rfl, hq, hD3, hb3⟩; have hbW : Below w1.heap.size w1 (w2.alloc (.cells #[.string ⟨#[105, 50]⟩, .slice ra n214 rc, .string ⟨#[99, 49]⟩, .slice (some ⟨hb, 0, none⟩) 5 5, .string ⟨#[99, 50]⟩, .slice none 0 0, .string ⟨#[99, 51]⟩, .slice none 0 0, .string ⟨#[105, 49]⟩, .slice none 0 0, .string ⟨#[105, 46, 110, 101, 119]⟩, .slice none 0 0, .string ⟨#[105, 48]⟩, .slice none 0 0, .string ⟨#[99, 48, 49]⟩, .slice none 0 0, .string ⟨#[120]⟩, .slice none 0 0] 71)) := hb2'.alloc hb2'.size _; (first | (revert hZ2; intro hZ2; obtain ⟨z0, z1, z2, z3, z4, z5, z6, z7⟩ := cells4 ((hb3.block w1.heap.size (blk_lt (alloc_old hZ2 (.cells #[.string ⟨#[105, 50]⟩, .slice ra n214 rc, .string ⟨#[99, 49]⟩, .slice (some ⟨hb, 0, none⟩) 5 5, .string ⟨#[99, 50]⟩, .slice none 0 0, .string ⟨#[99, 51]⟩, .slice none 0 0, .string ⟨#[105, 49]⟩, .slice none 0 0, .string ⟨#[105, 46, 110, 101, 119]⟩, .slice none 0 0, .string ⟨#[105, 48]⟩, .slice none 0 0, .string ⟨#[99, 48, 49]⟩, .slice none 0 0, .string ⟨#[120]⟩, .slice none 0 0] 71)))).trans (alloc_old hZ2 (.cells #[.string ⟨#[105, 50]⟩, .slice ra n214 rc, .string ⟨#[99, 49]⟩, .slice (some ⟨hb, 0, none⟩) 5 5, .string ⟨#[99, 50]⟩, .slice none 0 0, .string ⟨#[99, 51]⟩, .slice none 0 0, .string ⟨#[105, 49]⟩, .slice none 0 0, .string ⟨#[105, 46, 110, 101, 119]⟩, .slice none 0 0, .string ⟨#[105, 48]⟩, .slice none 0 0, .string ⟨#[99, 48, 49]⟩, .slice none 0 0, .string ⟨#[120]⟩, .slice none 0 0] 71)))) | skip))
      | (go_simp; go_at_call 33; (with_reducible refine (made9 _ _ _ _ (made9c w2 ra n214 rc hb hr2 (H1.out.2.1.below hb2'))).mono ?_); rintro e w3 ⟨p, m, a, n, c, exq, rfl, hq, hD3, hb3⟩; have hbW : Below w1.heap.size w1 ((w2.alloc (.cells #[.int .i64 0, .slice none 0 0, .int .i64 0, .bool false] 74)).alloc (.cells #[.string ⟨#[105, 50]⟩, .slice ra n214 rc, .string ⟨#[99, 49]⟩, .slice (some ⟨hb, 0, none⟩) 5 5, .string ⟨#[99, 50]⟩, .slice none 0 0, .string ⟨#[99, 51]⟩, .slice none 0 0, .string ⟨#[105, 49]⟩, .slice none 0 0, .string ⟨#[105, 46, 110, 101, 119]⟩, .slice none 0 0, .string ⟨#[105, 48]⟩, .slice none 0 0, .string ⟨#[99, 48, 49]⟩, .slice none 0 0, .string ⟨#[120]⟩, .slice none 0 0] 71)) := (hb2'.alloc hb2'.size _).alloc (by have := hb2'.size; simp; omega) _; obtain ⟨z0, z1, z2, z3, z4, z5, z6, z7⟩ := cells4 ((hb3.block w2.heap.size (blk_lt (alloc_old (alloc_at w2 (.cells #[.int .i64 0, .slice none 0 0, .int .i64 0, .bool false] 74)) (.cells #[.string ⟨#[105, 50]⟩, .slice ra n214 rc, .string ⟨#[99, 49]⟩, .slice (some ⟨hb, 0, none⟩) 5 5, .string ⟨#[99, 50]⟩, .slice none 0 0, .string ⟨#[99, 51]⟩, .slice none 0 0, .string ⟨#[105, 49]⟩, .slice none 0 0, .string ⟨#[105, 46, 110, 101, 119]⟩, .slice none 0 0, .string ⟨#[105, 48]⟩, .slice none 0 0, .string ⟨#[99, 48, 49]⟩, .slice none 0 0, .string ⟨#[120]⟩, .slice none 0 0] 71)))).trans (alloc_old (alloc_at w2 (.cells #[.int .i64 0, .slice none 0 0, .int .i64 0, .bool false] 74)) (.cells #[.string ⟨#[105, 50]⟩, .slice ra n214 rc, .string ⟨#[99, 49]⟩, .slice (some ⟨hb, 0, none⟩) 5 5, .string ⟨#[99, 50]⟩, .slice none 0 0, .string ⟨#[99, 51]⟩, .slice none 0 0, .string ⟨#[105, 49]⟩, .slice none 0 0, .string ⟨#[105, 46, 110, 101, 119]⟩, .slice none 0 0, .string ⟨#[105, 48]⟩, .slice none 0 0, .string ⟨#[99, 48, 49]⟩, .slice none 0 0, .string ⟨#[120]⟩, .slice none 0 0] 71))))
      | (go_simp; go_at_call 33; (with_reducible refine (made9 _ _ _ _ ((made9a w2 ra n214 rc hb hr2 (H1.out.2.1.below hb2')).below ((Below.refl (w2.alloc (.cells #[.string ⟨#[105, 50]⟩, .slice ra n214 rc, .string ⟨#[99, 49]⟩, .slice (some ⟨hb, 0, none⟩) 5 5, .string ⟨#[99, 50]⟩, .slice none 0 0, .string ⟨#[99, 51]⟩, .slice none 0 0, .string ⟨#[105, 49]⟩, .slice none 0 0, .string ⟨#[105, 46, 110, 101, 119]⟩, .slice none 0 0, .string ⟨#[105, 48]⟩, .slice none 0 0, .string ⟨#[99, 48, 49]⟩, .slice none 0 0, .string ⟨#[120]⟩, .slice none 0 0] 71)).heap.size (w2.alloc (.cells #[.string ⟨#[105, 50]⟩, .slice ra n214 rc, .string ⟨#[99, 49]⟩, .slice (some ⟨hb, 0, none⟩) 5 5, .string ⟨#[99, 50]⟩, .slice none 0 0, .string ⟨#[99, 51]⟩, .slice none 0 0, .string ⟨#[105, 49]⟩, .slice none 0 0, .string ⟨#[105, 46, 110, 101, 119]⟩, .slice none 0 0, .string ⟨#[105, 48]⟩, .slice none 0 0, .string ⟨#[99, 48, 49]⟩, .slice none 0 0, .string ⟨#[120]⟩, .slice none 0 0] 71))).alloc (Nat.le_refl _) (.cells #[.int .i64 0, .slice none 0 0, .int .i64 0, .bool false] 74)))).mono ?_); rintro e w3 ⟨p, m, a, n, c, exq, rfl, hq, hD3, hb3⟩; have hbW : Below w1.heap.size w1 ((w2.alloc (.cells #[.string ⟨#[105, 50]⟩, .slice ra n214 rc, .string ⟨#[99, 49]⟩, .slice (some ⟨hb, 0, none⟩) 5 5, .string ⟨#[99, 50]⟩, .slice none 0 0, .string ⟨#[99, 51]⟩, .slice none 0 0, .string ⟨#[105, 49]⟩, .slice none 0 0, .string ⟨#[105, 46, 110, 101, 119]⟩, .slice none 0 0, .string ⟨#[105, 48]⟩, .slice none 0 0, .string ⟨#[99, 48, 49]⟩, .slice none 0 0, .string ⟨#[120]⟩, .slice none 0 0] 71)).alloc (.cells #[.int .i64 0, .slice none 0 0, .int .i64 0, .bool false] 74)) := (hb2'.alloc hb2'.size _).alloc (by have := hb2'.size; simp; omega) _; obtain ⟨z0, z1, z2, z3, z4, z5, z6, z7⟩ := cells4 ((hb3.block (w2.heap.size + 1) (blk_lt (alloc2_at w2 (.cells #[.string ⟨#[105, 50]⟩, .slice ra n214 rc, .string ⟨#[99, 49]⟩, .slice (some ⟨hb, 0, none⟩) 5 5, .string ⟨#[99, 50]⟩, .slice none 0 0, .string ⟨#[99, 51]⟩, .slice none 0 0, .string ⟨#[105, 49]⟩, .slice none 0 0, .string ⟨#[105, 46, 110, 101, 119]⟩, .slice none 0 0, .string ⟨#[105, 48]⟩, .slice none 0 0, .string ⟨#[99, 48, 49]⟩, .slice none 0 0, .string ⟨#[120]⟩, .slice none 0 0] 71) (.cells #[.int .i64 0, .slice none 0 0, .int .i64 0, .bool false] 74)))).trans (alloc2_at w2 (.cells #[.string ⟨#[105, 50]⟩, .slice ra n214 rc, .string ⟨#[99, 49]⟩, .slice (some ⟨hb, 0, none⟩) 5 5, .string ⟨#[99, 50]⟩, .slice none 0 0, .string ⟨#[99, 51]⟩, .slice none 0 0, .string ⟨#[105, 49]⟩, .slice none 0 0, .string ⟨#[105, 46, 110, 101, 119]⟩, .slice none 0 0, .string ⟨#[105, 48]⟩, .slice none 0 0, .string ⟨#[99, 48, 49]⟩, .slice none 0 0, .string ⟨#[120]⟩, .slice none 0 0] 71) (.cells #[.int .i64 0, .slice none 0 0, .int .i64 0, .bool false] 74)))))
    all_goals
      have hs21 := hb2'.size
      (try simp only [Exit.inBlock, Exit.then])
      go_wp2_with fail
      go_meet
      case rel =>
        first
          | exact ⟨_, _, _, _, rfl, rfl, nine_alloc hD3 hq hbW hb3 _⟩
          | exact ⟨_, _, _, _, rfl, rfl, nine_set hD3 hq hbW hb3 (by omega) (by simp; omega) _ _ _ _⟩
          | exact ⟨_, _, _, _, rfl, rfl, nine_set hD3 hq hbW hb3 (by omega) (by simp) _ _ _ _⟩
          | ((repeat apply Exists.intro); exact ⟨⟨_, _, _, _, rfl, rfl, nine_alloc hD3 hq hbW hb3 _⟩, rfl⟩)
          | ((repeat apply Exists.intro); exact ⟨⟨_, _, _, _, rfl, rfl, nine_set hD3 hq hbW hb3 (by omega) (by simp; omega) _ _ _ _⟩, rfl⟩)
          | ((repeat apply Exists.intro); exact ⟨⟨_, _, _, _, rfl, rfl, nine_set hD3 hq hbW hb3 (by omega) (by simp) _ _ _ _⟩, rfl⟩)
  case rest =>
    obtain ⟨p, m, b3, exq, rfl, rfl, hD4, hq, hb4⟩ := hcut
    obtain ⟨w4, rfl⟩ : ∃ x, x = wc := ⟨_, rfl⟩
    have hbw4 : Below w.heap.size w w4 := H1.out.2.2.trans (hb4.mono H1.out.2.2.size)
    have hG : GlIn exq := HE.out.lt.mono (fun k hk => hq k (Nat.lt_of_lt_of_le hk H1.out.2.2.size))
    have hOp := pgOpen_at hD4 (HE.out.below hbw4) hG 2 (by unfold isI64; decide)
    rw [open9] at hOp
    unfold OpenPost at hOp
    simp only [if_pos (rfl : (0 : Int) = 0)] at hOp
    have hs1 := H1.out.2.2.size
    have H4 := Lib.hid (And.intro hq (And.intro hb4 (And.intro hbw4 hG)))
    clear y0 y1 v0 v1 hr214 hcl hn214 hD4 hq hb4 hbw4 hG
    go_upto_region 6 with (go_at_call 16; refine hOp.mono ?_; rintro e w5 ⟨q, rfl, hS5, hK5, _⟩)
    have hb5 : Below w1.heap.size w1 w5 := H4.out.2.1.trans (hK5.below H4.out.1)
    have hbw5 : Below w.heap.size w w5 := H1.out.2.2.trans (hb5.mono H1.out.2.2.size)
    have H5 := Lib.hid (And.intro hS5 (And.intro hb5 hbw5))
    have hHo := holds5_yes (s := ⟨#[107]⟩) (want := ⟨#[101, 108, 108, 111]⟩) hS5 (by decide) ⟨[101, 108, 108, 111], 1, 1⟩ (by decide) rfl (by decide)
    clear hS5 hb5 hbw5 hK5 hOp hs1
    go_upto_region 7 with (first
      | (go_at_call 42; (with_reducible refine hHo.mono ?_); rintro e w6 ⟨rfl, hb6⟩; have hNu := pgNumber_at (H5.out.1.below hb6); rw [show ((st9.k : Nat) : Int) = 2 from rfl] at hNu; have hLi := List_at (H5.out.1.below hb6).disk; rw [d9_facts.1, show left5.length = 5 from rfl] at hLi)
      | (go_at_call 17; (with_reducible refine hNu.mono ?_); rintro e w6' ⟨rfl, rfl⟩)
      | (go_at_call 15; (with_reducible refine hLi.mono ?_); rintro e w7 ⟨a7, c7, rfl, hr7, -, hb7⟩; have hST := SameTexts_yes (w7.alloc (.cells #[.string ⟨#[99, 48, 49]⟩, .string ⟨#[99, 49]⟩, .string ⟨#[105, 48]⟩, .string ⟨#[105, 50]⟩, .string ⟨#[120]⟩] 9)) (.slice a7 5 c7) (.slice (some ⟨w7.heap.size, 0, none⟩) 5 5) left5 ((Rd.ofOwns hr7).below ((Below.refl w7.heap.size w7).alloc (Nat.le_refl _) _)) (Rd_new w7 #[.string ⟨#[99, 48, 49]⟩, .string ⟨#[99, 49]⟩, .string ⟨#[105, 48]⟩, .string ⟨#[105, 50]⟩, .string ⟨#[120]⟩] 9 _ (sCells left5) 5 5 rfl rfl) (by decide); have hb57 := hb6.trans (hb7.mono hb6.size))
      | (go_at_call 25; (with_reducible refine hST.mono ?_); rintro e w8 ⟨rfl, hb8⟩; have hb58 : Below w5.heap.size w5 w8 := (hb57.alloc hb57.size _).trans (hb8.mono (by have := hb57.size; simp; omega))))
    have hB18 := H5.out.2.1.trans (hb58.mono H5.out.2.1.size)
    have hB8 := (hB18.block _ (blk_lt H1.out.1)).trans H1.out.1
    have hh8 := H1.out.2.1.below hB18
    have H8 := Lib.hid (And.intro (H5.out.1.below hb58) (And.intro hh8 (And.intro (H5.out.2.2.trans (hb58.mono H5.out.2.2.size)) hB8)))
    obtain ⟨y0, y1, _⟩ := cells2 hB8
    clear hHo hNu hLi hST hr7 hb6 hb7 hb57 hb8 hb58 hB18 hh8
    go_cut [7] from 64 to 152 (fun tv wx => tv = .bool true ∧ Below w8.heap.size w8 wx)
    case first =>
      refine num_reg7 w8 B1 hb (HE.out.below H8.out.2.2.1) H8.out.2.1 H8.out.2.2.2 _ _ _ _ _ _ _ _ _ _ _ _ _ _ _ _ _ _ _ _ _ _ _ _ _ _ _ _ _ _ _ _ _ _ _ _ _ _ _ _ _ _ _ _ _ _ _ _ _ _ _ _ _ _ _ _ _ _ _ _ _ _ _ _ _ _ _ _ _ _ _ _ _ _ _ _ _ _ _ _ _ _ _ _ _ _ _ _ _ _ _ _ _ _ _ _ _ _ _ _ _ _ _ _ _ _ _ _ _ _ _ _ _ _ _ _ _ _ _ _ _ _ _ _ _ _ _ _ _ _ _ _ _ _ _ _ _ _ _ _ _ _ _ _ _ _ _ _ _ _ _ _ _ _ _ _ _ _ _ _ _ _ _ _ _ _ _ _ _ _ _ _ _ _ _ _ _ _ _ _ _ _ _ _ _ _ _ _ _ _ _ _ _ _ _ _ _ _ _ _ _ _ _ _ _ _ _ _ _ _ _ _ _ _ _ _ _ _ _ _ _ _ _ _ _ _ _ _ _ _ _ _ _ _ _ _ _ _ _ _ _ _ _ _ _ _ _ _ _ _ _ _ _ _ _ _ _ _ _ _ _ _ _ _ _ _ _ _ _ _ _ _ _ _ _ _ _ _ _ _ _ _ _ _ _ _ _ _ _ _ _ _ _ _ _ _ _ _ _ _ _ _ _ _ (fun _ _ _ _ _ h => h) (fun s64 s65 s66 s67 s68 s69 s70 s71 s72 s73 s74 s75 s76 s77 s78 s79 s80 s81 s82 s83 s84 s85 s86 s87 s88 s89 s90 s91 s92 s93 s94 s95 s96 s97 s98 s99 s100 s101 s102 s103 s104 s105 s106 s107 s108 s109 s110 s111 s112 s113 s114 s115 s116 s117 s118 s119 s120 s121 s122 s123 s124 s125 s126 s127 s128 s129 s130 s131 s132 s133 s134 s135 s136 s137 s138 s139 s140 s141 s142 s143 s144 s145 s146 s147 s148 s149 s150 s151 s152 w9 hb9 => ?_)
      go_wp2_with fail
      go_meet
      case rel => first | exact ⟨rfl, hb9⟩ | ((repeat apply Exists.intro); exact ⟨⟨rfl, hb9⟩, rfl⟩)
    case rest =>
      obtain ⟨rfl, hb9⟩ := hcut
      obtain ⟨w9, rfl⟩ : ∃ x, x = wc := ⟨_, rfl⟩
      have hS9 := H8.out.1.below hb9
      have hB9 : Below w.heap.size w w9 := H8.out.2.2.1.trans (hb9.mono H8.out.2.2.1.size)
      clear y0 y1 hb9
      -- numbers that may not be
      have hE9 := HE.out.below hB9
      have hO1 := open_beside hS9 hE9 H4.out.2.2.2 (-1) (by unfold isI64; decide) 2 (by decide) d9 (by rw [pOpen_num (Or.inl (by decide))]) (by rw [pOpen_num (Or.inl (by decide))])
      go_upto_region 9 with (go_at_call 16; refine hO1.mono ?_; rintro e w10 ⟨rfl, hS10, hK10⟩)
      have hq0 : ∀ k, k < w.heap.size → exq k := fun k hk => H4.out.1 k (Nat.lt_of_lt_of_le hk H1.out.2.2.size)
      have hB10 : Below w.heap.size w w10 := hB9.trans ((hK10.below hq0).mono (Nat.le_refl _))
      have hO2 := open_beside hS10 (HE.out.below hB10) H4.out.2.2.2 9007199254740993 (by unfold isI64; decide) 2 (by decide) d9 (by rw [pOpen_num (Or.inr (by decide))]) (by rw [pOpen_num (Or.inr (by decide))])
      clear hO1 hS9 hS10 hK10 hE9
      go_upto_region 10 with (go_at_call 16; refine hO2.mono ?_; rintro e w11 ⟨rfl, hS11, hK11⟩)
      have hB11 : Below w.heap.size w w11 := hB10.trans (hK11.below hq0)
      have hO3 := pgOpen_nil w11 (HE.out.below hB11)
      have H11 := Lib.hid (And.intro hS11 hB11)
      clear hO2 hS11 hK11 hB9 hB10 hB11
      go_upto_region 11 with (go_at_call 16; refine hO3.mono ?_; rintro e w12 ⟨rfl, hb12⟩)
      have hS12 := H11.out.1.below hb12
      have hB12 : Below w.heap.size w w12 := H11.out.2.trans (hb12.mono H11.out.2.size)
      have Hq0 := Lib.hid hq0
      clear hO3 hb12 hq0
      obtain ⟨CZ, CZ2, C61, Z, Z2, zl, zl2, hm1, hr1, hm2, hr2, hm3, hr3⟩ := make5_most
      have hP1 := put_by (s := ⟨#[]⟩) (vb := .slice none 0 0) (b := []) 2 hS12 (okS_ok lim1.2.2.1) (by decide) (Or.inl ⟨Or.inl rfl, rfl⟩) (by simp) lim1.1
      have H12 := Lib.hid hB12
      clear hS12 hB12
      go_upto_region 12 with (first
        | (go_at_call 23; (with_reducible refine hP1.mono ?_); rintro e w13 ⟨rfl, hS13, hK13⟩; have B13 := Lib.hid (H12.out.trans (hK13.below Hq0.out)); clear hP1 hK13)
        | (go_at_call 44; (with_reducible refine (rep5_int _ 107 61 61 rfl (by decide)).mono ?_); rintro e w14 ⟨rfl, hb14⟩; have B14 := Lib.hid (B13.out.trans (hb14.mono B13.out.size)); have hP2 := put_by (s := k61) (vb := .slice none 0 0) (b := []) 2 (hS13.below hb14) (okS_ok lim1.2.2.1) (by decide) (Or.inl ⟨Or.inl rfl, rfl⟩) (by simp) lim1.2.1; clear hb14 hS13 B13)
        | (go_at_call 23; refine hP2.mono ?_; rintro e w15 ⟨rfl, hS15, hK15⟩; have B15 := Lib.hid (B14.out.trans (hK15.below Hq0.out)); clear hP2 hK15 B14)
        | (go_at_call 44; (with_reducible refine (rep5_int _ 107 60 60 rfl (by decide)).mono ?_); rintro e w16 ⟨rfl, hb16⟩; have B16 := Lib.hid (B15.out.trans (hb16.mono B15.out.size)); have hP3 := put_by (s := k60) (vb := .slice none 0 0) (b := []) 0 (hS15.below hb16) (okS_ok lim1.2.2.1) (by decide) (Or.inl ⟨Or.inl rfl, rfl⟩) (by simp) lim2; clear hb16 hS15 B15)
        | (go_at_call 23; refine hP3.mono ?_; rintro e w17 ⟨rfl, hS17, hK17⟩; have B17 := Lib.hid (B16.out.trans (hK17.below Hq0.out)); have hP4 := put_by (s := ⟨#[122]⟩) (b := Z2) 3 (hS17.below ((Below.refl w17.heap.size w17).alloc (Nat.le_refl _) (.cells CZ2 5))) (okS_ok lim1.2.2.2.1) (by decide) (hr2 w17) (by omega) (lim3 Z2 zl2); clear hP3 hK17 B16)
        | (go_at_call 23; refine hP4.mono ?_; rintro e w18 ⟨rfl, hS18, hK18⟩; have B18 := Lib.hid ((B17.out.alloc B17.out.size _).trans (hK18.below Hq0.out)); have hP5 := put_by (s := ⟨#[122]⟩) (b := Z) 0 (hS18.below ((Below.refl w18.heap.size w18).alloc (Nat.le_refl _) (.cells CZ 5))) (okS_ok lim1.2.2.2.1) (by decide) (hr1 w18) (by omega) (lim4 Z zl); clear hP4 hK18 B17 hS17)
        | (go_at_call 23; refine hP5.mono ?_; rintro e w19 ⟨rfl, hS19, hK19⟩; have B19 := Lib.hid ((B18.out.alloc B18.out.size _).trans (hK19.below Hq0.out)); have hP6 := drop_by (s := ⟨#[]⟩) 2 hS19 (st11_ok Z zl) (by decide) (lim5 Z).1; clear hP5 hK19 B18 hS18)
        | (go_at_call 29; refine hP6.mono ?_; rintro e w20 ⟨rfl, hS20, hK20⟩; have B20 := Lib.hid (B19.out.trans (hK20.below Hq0.out)); have hP7 := drop_by (s := ⟨#[110, 111, 110, 101]⟩) 0 hS20 (st11_ok Z zl) (by decide) (lim5 Z).2; clear hP6 hK20 B19 hS19)
        | (go_at_call 29; refine hP7.mono ?_; rintro e w21 ⟨rfl, hS21, hK21⟩; have B21 := Lib.hid (B20.out.trans (hK21.below Hq0.out)); clear hP7 hK21 B20 hS20))
      clear hm1 hm2 hr1 hr2
      -- a disk that is full
      obtain ⟨ex2, hex2⟩ : ∃ ex2 : Nat → Prop, ex2 = fun k => k < w21.heap.size := ⟨_, rfl⟩
      have h2a : ∀ k, ex2 k → k < w21.heap.size := fun k hk => by rw [hex2] at hk; exact hk
      have h2b : ∀ k, k < w21.heap.size → ex2 k := fun k hk => by rw [hex2]; exact hk
      have hG2 : GlIn ex2 := HE.out.lt.mono (fun k hk => h2b k (Nat.lt_of_lt_of_le hk B21.out.size))
      have hlow : ∀ k, k < w.heap.size → ex2 k := fun k hk => h2b k (Nat.lt_of_lt_of_le hk B21.out.size)
      have HX2 := Lib.hid (And.intro h2a (And.intro h2b (And.intro hG2 hlow)))
      clear h2a h2b hG2 hlow hex2
      go_upto_region 13 with (go_at_call 21; refine (New_at (ex := ex2) 60 (by decide) (by decide) HX2.out.1).mono ?_; generalize hp2 : w21.heap.size + 1 = p2; generalize hm2 : w21.heap.size = m2; rintro e w22 ⟨rfl, hD22, hK22⟩; clear hp2 hm2)
      have hO22 := pgOpen_at hD22 (HE.out.below (B21.out.trans (hK22.below HX2.out.2.2.2))) HX2.out.2.2.1 0 (by unfold isI64; decide)
      rw [show (⟨60, -1, false, []⟩ : ADisk) = dS from rfl, small_open] at hO22
      unfold OpenPost at hO22
      simp only [if_pos (rfl : (0 : Int) = 0)] at hO22
      have HK22 := Lib.hid hK22
      clear hD22 hK22
      go_upto_region 14 with (go_at_call 16; refine hO22.mono ?_; rintro e w23 ⟨q2, rfl, hS23, hK23, _⟩)
      have HK23 := Lib.hid (HK22.out.trans hK23)
      have hP23 := put_by (s := ⟨#[107]⟩) (b := List.replicate 61 0) 0 (hS23.below ((Below.refl w23.heap.size w23).alloc (Nat.le_refl _) (.cells C61 5))) (okS_ok small_ok.1) (by decide) (hr3 w23) (by simp) small_put
      have HK23a := Lib.hid (HK23.out.trans (Keep.ofBelow ((Below.refl w23.heap.size w23).alloc (Nat.le_refl _) (.cells C61 5)) (fun k hk => hS23.lt hk)))
      clear hK23 hS23 hO22
      go_upto_region 16 with (go_at_call 23; refine hP23.mono ?_; rintro e w24 ⟨rfl, hS24, hK24⟩)
      have HK24 := Lib.hid (HK23a.out.trans hK24)
      have hC24 := pgCommit_at hS24 (okS_ok small_ok.2.1) (HE.out.below (B21.out.trans (HK24.out.below HX2.out.2.2.2))) HX2.out.2.2.1
      rw [small_commit] at hC24
      unfold CmPost at hC24
      simp only at hC24
      clear hK24 hS24 hP23 hm3 hr3
      go_upto_region 17 with (go_at_call 14; refine hC24.mono ?_; rintro e w25 ⟨rfl, hS25, hK25⟩)
      have HK25 := Lib.hid (HK24.out.trans hK25)
      have hF25 := free_by (ns := []) 16 hS25 (HE.out.below (B21.out.trans (HK25.out.below HX2.out.2.2.2))) HX2.out.2.2.1 small_free
      clear hK25 hS25 hC24
      go_upto_region 18 with (go_at_call 19; refine hF25.mono ?_; rintro e w26 ⟨a26, c26, rfl, -, hS26, hK26⟩)
      -- a power that fails
      have hK26' := HK25.out.trans hK26
      have hb26 : Below w21.heap.size w21 w26 := hK26'.below HX2.out.2.1
      obtain ⟨exF, hexF⟩ : ∃ exF : Nat → Prop, exF = fun k => exq k ∨ w21.heap.size ≤ k ∧ k < w26.heap.size := ⟨_, rfl⟩
      have hF26 : StoreAt exF w26 q p m d9 (st12 Z) := hS21.more hb26 (fun k hk => by rw [hexF] at hk; exact hk)
      have HF := Lib.hid (And.intro (fun k (h : w21.heap.size ≤ k ∧ k < w26.heap.size) => (by rw [hexF]; exact Or.inr h : exF k)) (fun k (h : exq k) => (by rw [hexF]; exact Or.inl h : exF k)))
      have H26 := Lib.hid (And.intro (hS26.mono (ex' := ex2) (fun k hk => Or.inl hk)) (B21.out.trans (hb26.mono B21.out.size)))
      have hA26 := arm_beside hF26 0 (by decide) (by decide)
      have hGF : GlIn exF := H4.out.2.2.2.mono HF.out.2
      clear hF25 hS26 hK26 hK26' hb26 hF26 hexF hS21
      go_upto_region 19 with (go_at_call 34; refine hA26.mono ?_; rintro e w27 ⟨rfl, hS27, hK27⟩)
      have hY27 := sync_beside hS27 ⟨#[120]⟩ (by decide)
      have HK27 := Lib.hid hK27
      clear hA26 hS27 hK27
      go_upto_region 20 with (go_at_call 45; refine hY27.mono ?_; rintro e w28 ⟨rfl, hS28, hK28⟩)
      have HK28 := Lib.hid (HK27.out.trans hK28)
      have hqF : ∀ k, k < w.heap.size → exF k := fun k hk => HF.out.2 k (Hq0.out k hk)
      have hO28 := open_beside (d := dX1) hS28 (HE.out.below (H26.out.2.trans (HK28.out.below hqF))) hGF 2 (by unfold isI64; decide) 15 (by decide) dX2 fails_open.1 rfl
      clear hY27 hS28 hK28
      go_upto_region 21 with (go_at_call 16; refine hO28.mono ?_; rintro e w29 ⟨rfl, hS29, hK29⟩)
      have HK29 := Lib.hid (HK28.out.trans hK29)
      have hO29 := open_beside (d := dX2) hS29 (HE.out.below (H26.out.2.trans (HK29.out.below hqF))) hGF 0 (by unfold isI64; decide) 15 (by decide) (pOpen dX2 0).1 fails_open.2 rfl
      clear hO28 hS29 hK29
      go_upto_region 22 with (go_at_call 16; refine hO29.mono ?_; rintro e w30 ⟨rfl, hS30, hK30⟩)
      have hK30' := HK29.out.trans hK30
      have hM30 := H26.out.1.moreU (ex' := ex2) hK30'.toUpd5 (fun k hk hn => HX2.out.2.1 k (by
        rcases Nat.lt_or_ge k w21.heap.size with h | h
        · exact h
        · exact absurd (HF.out.1 k ⟨h, hk⟩) hn)) (fun k hk => Or.inl hk)
      have hB30 : Below w.heap.size w w30 := H26.out.2.trans (hK30'.below hqF)
      have hMy := many5_yes w30 (HE.out.below hB30)
      have HB30 := Lib.hid hB30
      clear hO29 hS30 hK30 hK30' hB30
      go_wp2_with (first
        | (go_at_call 46; (with_reducible refine hMy.mono ?_); rintro e w31 ⟨rfl, hb31⟩; have hS31 := hM30.below hb31; have hOv := pgOver_at hS31; rw [small_ok.2.2.2] at hOv; have hP31 := put_by (s := ⟨#[107]⟩) (vb := .slice none 0 0) (b := []) 16 hS31 (okS_ok small_ok.2.2.1) (by decide) (Or.inl ⟨Or.inl rfl, rfl⟩) (by simp) (small_over []).1; have B31 := HB30.out.trans (hb31.mono HB30.out.size))
        | (go_at_call 30; (with_reducible refine hOv.mono ?_); rintro e w31' ⟨rfl, rfl⟩)
        | (go_at_call 23; (with_reducible refine hP31.mono ?_); rintro e w32 ⟨rfl, hS32, hK32⟩; have hD32 := drop_by (s := ⟨#[107]⟩) 16 hS32 (okS_ok small_ok.2.2.1) (by decide) (small_over []).2; have B32 := B31.trans (hK32.below HX2.out.2.2.2))
        | (go_at_call 29; (with_reducible refine hD32.mono ?_); rintro e w33 ⟨rfl, hS33, hK33⟩; have B33 := B32.trans (hK33.below HX2.out.2.2.2); have hAw := awake5_any w33 (HE.out.below B33))
        | (go_at_call 18; (with_reducible refine hAw.mono ?_); rintro e w34 ⟨rfl, hb34⟩))
      go_ret
      exact ⟨rfl, B33.trans (hb34.mono B33.size)⟩
end Go.Proofs.YtbepcjajbcecnaaGreatDoor
