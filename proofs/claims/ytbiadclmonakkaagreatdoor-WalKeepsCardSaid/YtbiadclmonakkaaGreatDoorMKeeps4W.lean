/-
  WalKeeps: the walk.
-/
import Derived.Outline
import Derived.BigQuiet
import Derived.Deep.QuietTactic
import Derived.Deep.RegionHeld3
import Derived.Test.YtbiadclmonakkaaGreatDoorMWal24
import Derived.Test.YtbiadclmonakkaaGreatDoorMWam27
import Derived.Test.YtbiadclmonakkaaGreatDoorMWam28
import Derived.Test.YtbiadclmonakkaaGreatDoorMWam31
namespace Go.Proofs.YtbiadclmonakkaaGreatDoor
open Go.RowKit Go.Maps Go.MapKept
set_option linter.unusedSimpArgs false

/-- what stands at the begin of a life: W the world of the call, wr the one at hand. -/
structure KHead (W wr : World) (ex : Nat → Prop) (p m N k : Nat) (L : List (List UInt8)) (sy tr : Nat) (d : ADisk) (ss : List Seg) (a : Option Addr) (n c : Nat) (XA : List XRec) : Prop where
  kN : k ≤ N
  k6 : k ≤ 6
  nL : n = L.length
  n25 : L.length ≤ 25 * k
  tr1 : 1 ≤ tr
  trB : tr ≤ 1000
  ke : Ke L tr sy d ss
  left : d.left = -1
  disk : DiskAt (fun j => ex j ∨ (Value.slice a n c).ownBlock = some j) wr p m d
  rd : RecRd wr a XA
  cap : n ≤ c
  map : XA.map XRec.rec4 = numbered 1 L
  low : ∀ x ∈ XA, Rd W x.vb (bcells x.b)
  keep : Keep ex W wr
  adr : a = none ∨ ∃ b o, a = some ⟨b, o, none⟩
theorem RecRd.turn {ex : Nat → Prop} {w w' : World} {a : Option Addr} {n c : Nat} {L : List XRec} (h : RecRd w a L) (hk : Keep ex w w') (hb : ∀ g, (Value.slice a n c).ownBlock = some g → ex g) (hr : ∀ x ∈ L, Rd w' x.vb (bcells x.b)) : RecRd w' a L := by
  refine ⟨fun hn => ?_, hr⟩
  obtain ⟨b, o, e, hc⟩ := h.at_ hn
  exact ⟨b, o, e, fun j u hu => (hk.cell (b := b) (hb b (by rw [e]; rfl)) (o + j)).trans (hc j u hu)⟩
set_option maxRecDepth 100000 in
set_option maxHeartbeats 16000000 in
theorem keeps4_law (w : World) (hE : WEnv w) {v : Value} (xs : List ALife) (hX : LivesAt w v xs) (size : Int) (wz : (Lit.int .i64 size).wf = true) :
    Calls Tryz.prog 8 #[v, .int .i64 size] w fun e w' => e = .returned (.bool true) ∧ Below w.heap.size w w' := by
  have bz := bounds_i64 wz
  have hs : isI64 size := by unfold isI64; omega
  clear bz wz
  obtain ⟨av, cv, rfl⟩ := SliceOf.shape hX
  have hxl := SliceOf.len_le hX
  simp only [maxLen] at hxl
  obtain ⟨N, hN⟩ : ∃ N, xs.length = N := ⟨_, rfl⟩
  rw [hN] at hX hxl ⊢
  have HN := Lib.hid hN
  have HX := Lib.hid hX
  obtain ⟨ex, hex⟩ : ∃ ex : Nat → Prop, ex = fun k => k < w.heap.size := ⟨_, rfl⟩
  have hx0 : ∀ k, ex k → k < w.heap.size := fun k hk => by rw [hex] at hk; exact hk
  have hlow : ∀ k, k < w.heap.size → ex k := fun k hk => by rw [hex]; exact hk
  have hG : GlIn ex := hE.lt.mono hlow
  have hNew := New_at (w := w) (ex := ex) 1048576 (by decide) (by decide) hx0
  obtain ⟨p, hp⟩ : ∃ p, w.heap.size + 1 = p := ⟨_, rfl⟩
  obtain ⟨m, hm⟩ : ∃ m, w.heap.size = m := ⟨_, rfl⟩
  rw [hp, hm] at hNew
  obtain ⟨pk, hpk⟩ : ∃ k : Nat, pickI size 200 = k := ⟨(pickI size 200).toNat, by have := pickI_lt size 200 (by omega); omega⟩
  have hpk2 : pk < 200 := by have := pickI_lt size 200 (by omega); omega
  obtain ⟨sz, hsz⟩ : ∃ sz, 64 + pk = sz := ⟨_, rfl⟩
  have hszI : (64 : Int) + (pk : Int) = (sz : Int) := by omega
  have hwz : IntKind.i64.wrap (sz : Int) = (sz : Int) := IntWalk.i64_in _ (by omega)
  have hsz1 : 64 ≤ sz ∧ sz ≤ 300 := by omega
  have hP := fun wX => Pick_any wX size 200 (by unfold isI64; omega)
  rw [hpk] at hP
  have HNew := Lib.hid hNew
  have HP := Lib.hid hP
  have HE := Lib.hid hE
  have Hlow := Lib.hid hlow
  have Hke := Lib.hid (ke_new 1048576 (-1) 1)
  clear hNew hE hp hm hN hex hx0 hX hP hpk hsz hpk2
  go_enter Tryz.func8, Tryz.ntmps8
  go_wp2_with fail
  refine HNew.out.mono ?_
  rintro e w1 ⟨rfl, hD1, k1⟩
  go_wp2_with fail
  refine (HP.out w1).mono ?_
  rintro e w' ⟨rfl, rfl⟩
  go_wp2_with fail
  have hH0 : KHead w w1 ex p m N 0 [] 0 1 ⟨1048576, -1, false, []⟩ [] none 0 0 [] :=
    ⟨Nat.zero_le _, by omega, rfl, by simp, by omega, by omega, Hke.out, rfl, hD1.mono (fun k hk => hk.elim id (fun h => (by cases h))), ⟨fun h => absurd rfl h, fun x hx => (by cases hx)⟩, Nat.le_refl _, rfl, fun x hx => (by cases hx), k1, Or.inl rfl⟩
  have HH0 := Lib.hid hH0
  clear hD1 k1 hH0
  go_loopw [7, 8, 9, 10] (fun allv surev trv iv wr => ∃ (k : Nat) (L : List (List UInt8)) (sy tr : Nat) (d : ADisk) (ss : List Seg) (a : Option Addr) (n c : Nat) (XA : List XRec), iv = .int .i64 k ∧ allv = .slice a n c ∧ surev = .int .i64 sy ∧ trv = .int .i64 tr ∧ KHead w wr ex p m N k L sy tr d ss a n c XA) (fun _ _ _ iv _ => N - (intOf iv).toNat)
  case atStart => exact ⟨0, [], 0, 1, _, _, none, 0, 0, [], rfl, rfl, rfl, rfl, HH0.out⟩
  case round =>
    obtain ⟨k, L, sy, tr, d, ss, a, n, c, XA, rfl, rfl, rfl, rfl, hH⟩ := hrel
    clear HH0
    have HH1 := Lib.hid hH
    have hk0 : (0 : Int) ≤ (k : Int) := by omega
    clear hH
    go_upto_region 8 with fail
    go_cut [37] from 30 to 196 (fun b wx => b = .bool (decide (k < N ∧ k < 6)) ∧ KHead w wx ex p m N k L sy tr d ss a n c XA)
    case first =>
      as_aux_lemma =>
        have hcc : (k < N ∧ k < 6) ∨ (k < N ∧ ¬ k < 6) ∨ ¬ k < N := by omega
        rcases hcc with ⟨hk1, hk2⟩ | ⟨hk1, hk2⟩ | hk1
        · have hki : (k : Int) < (N : Int) := by omega
          have hki6 : (k : Int) < 6 := by omega
          have hd : decide (k < N ∧ k < 6) = true := decide_eq_true ⟨hk1, hk2⟩
          have Hd := Lib.hid hd
          clear hd
          go_wp2_with fail
          go_meet
          case rel => first | exact ⟨by rw [Hd.out], HH1.out⟩ | ((repeat apply Exists.intro); exact ⟨⟨by rw [Hd.out], HH1.out⟩, rfl⟩)
        · have hki : (k : Int) < (N : Int) := by omega
          have hki6 : ¬ (k : Int) < 6 := by omega
          have hd : decide (k < N ∧ k < 6) = false := decide_eq_false (fun h => hk2 h.2)
          have Hd := Lib.hid hd
          clear hd
          go_wp2_with fail
          go_meet
          case rel => first | exact ⟨by rw [Hd.out], HH1.out⟩ | ((repeat apply Exists.intro); exact ⟨⟨by rw [Hd.out], HH1.out⟩, rfl⟩)
        · have hki : ¬ (k : Int) < (N : Int) := by omega
          have hd : decide (k < N ∧ k < 6) = false := decide_eq_false (fun h => hk1 h.1)
          have Hd := Lib.hid hd
          clear hd
          go_wp2_with fail
          go_meet
          case rel => first | exact ⟨by rw [Hd.out], HH1.out⟩ | ((repeat apply Exists.intro); exact ⟨⟨by rw [Hd.out], HH1.out⟩, rfl⟩)
    case rest =>
    obtain ⟨rfl, hH⟩ := hcut
    obtain ⟨wr, rfl⟩ : ∃ x, x = wc := ⟨_, rfl⟩
    clear HH1 hk0
    have HH := Lib.hid hH
    have hEr := HE.out.keep hH.keep hG
    have hBr : Below w.heap.size w wr := hH.keep.below (fun k hk => Hlow.out k hk)
    have hGA : GlIn (fun j => ex j ∨ (Value.slice a n c).ownBlock = some j) := hG.mono (fun _ hk => Or.inl hk)
    have HEr := Lib.hid hEr
    have HBr := Lib.hid hBr
    have hL150 : L.length ≤ 150 := by have := hH.n25; have := hH.k6; omega
    obtain ⟨d', f, e0, ss', hop, hor⟩ := hH.ke.open (sz := sz) hsz1.1 (by omega) (by omega)
    obtain ⟨he0, mm, hko⟩ : e0 = 0 ∧ ∃ m, KeOpen sz L tr sy d d' f ss' m := hor.resolve_right (fun h => h.2.1 hH.left)
    subst he0
    have Hop := Lib.hid hop
    have Hko := Lib.hid hko
    obtain ⟨R, hR⟩ : ∃ R, f.recs.length = R := ⟨_, rfl⟩
    have hrun := kr_run hko.run hko.mle hko.sle hH.tr1
    rw [← hko.recs, hR] at hrun
    have hr0 : R = 0 → sy < tr := fun e => hrun.1 (List.eq_nil_of_length_eq_zero (hR.trans e))
    have hr1 : R ≠ 0 → ∃ a, 1 ≤ a ∧ a ≤ tr ∧ a - 1 + R ≤ n ∧ sy ≤ a - 1 + R ∧ f.recs = ((numbered 1 L).drop (a - 1)).take R := by
      intro e
      obtain ⟨b, b1, b2, b3, b4⟩ := hrun.2 (fun h => e (by rw [← hR, h]; rfl))
      exact ⟨b, b1, b2, by rw [b3, hH.nL]; exact hko.mle, by rw [b3]; exact hko.sle, b4⟩
    have hrn : n = 0 → R = 0 := by
      intro e
      apply Nat.eq_zero_of_not_pos
      intro hp
      obtain ⟨b, b1, b2, b3, _⟩ := hr1 (by omega)
      omega
    have Hr := Lib.hid (And.intro hr0 hr1)
    have Hrn := Lib.hid hrn
    have HR := Lib.hid hR
    have hn150 : n ≤ 150 := by have := hH.nL; omega
    have hsyL : sy ≤ 150 := by have := hko.sle; have := hko.mle; omega
    have htr1k : tr ≤ 1000 := hH.trB
    have hXl : XA.length = n := by have := congrArg List.length hH.map; rw [List.length_map, numbered_len4, ← hH.nL] at this; exact this
    have HXl := Lib.hid hXl
    clear hor hH hEr hBr hop hko hrun hr0 hr1 hrn hR hXl
    by_cases hgo : k < N ∧ k < 6
    · rw [decide_eq_true hgo]
      obtain ⟨hk1, hk2⟩ := hgo
      obtain ⟨bl, ol, rfl, hblk, hlife, c0, c1, c2, c3, c4, c5⟩ := HX.out.at HBr.out k (by rw [HN.out]; exact hk1)
      obtain ⟨x, hx⟩ : ∃ x, xs[k]'(by rw [HN.out]; exact hk1) = x := ⟨_, rfl⟩
      rw [hx] at hlife c0 c1 c2 c3 c4 c5
      obtain ⟨ra, rc, er⟩ := SliceOf.shape hlife.rows
      obtain ⟨aa, ac, ea⟩ := hlife.acts.shape
      obtain ⟨ka, kc, ek⟩ := hlife.keeps.shape
      obtain ⟨la, lc, el⟩ := hlife.left.shape
      rw [er] at c0
      rw [ea] at c1
      rw [ek] at c3
      rw [el] at c5
      have Hlife := Lib.hid hlife
      have Her := Lib.hid (And.intro er (And.intro ea (And.intro ek el)))
      obtain ⟨rn, hrn⟩ : ∃ n, x.rows.length = n := ⟨_, rfl⟩
      obtain ⟨an, han⟩ : ∃ n, (iCells x.acts).length = n := ⟨_, rfl⟩
      obtain ⟨kn, hkn⟩ : ∃ n, (iCells x.keeps).length = n := ⟨_, rfl⟩
      obtain ⟨ln, hln⟩ : ∃ n, (iCells x.left).length = n := ⟨_, rfl⟩
      rw [hrn] at c0
      rw [han] at c1
      rw [hkn] at c3
      rw [hln] at c5
      have Hlens := Lib.hid (And.intro hrn (And.intro han (And.intro hkn hln)))
      obtain ⟨arm, harm⟩ : ∃ z, x.arm = z := ⟨_, rfl⟩
      obtain ⟨aga, haga⟩ : ∃ z, x.again = z := ⟨_, rfl⟩
      rw [harm] at c2
      rw [haga] at c4
      have Harm := Lib.hid (And.intro harm haga)
      clear hx hlife er ea ek el hrn han hkn hln harm haga
      have hkI : (k : Int) < (N : Int) := by omega
      have hk0 : (0 : Int) ≤ (k : Int) := by omega
      have hk6 : (k : Int) < 6 := by omega
      have hbx := alloc_at wr (.cells #[.slice ra rn rc, .slice aa an ac, .int .i64 arm, .slice ka kn kc, .int .i64 aga, .slice la ln lc] 67)
      have hBB : Below wr.heap.size wr (wr.alloc (.cells #[.slice ra rn rc, .slice aa an ac, .int .i64 arm, .slice ka kn kc, .int .i64 aga, .slice la ln lc] 67)) := (Below.refl _ _).alloc (Nat.le_refl _) _
      obtain ⟨wB, hwB⟩ : ∃ wB, wr.alloc (.cells #[.slice ra rn rc, .slice aa an ac, .int .i64 arm, .slice ka kn kc, .int .i64 aga, .slice la ln lc] 67) = wB := ⟨_, rfl⟩
      rw [hwB] at hbx hBB
      have HwB := Lib.hid hwB
      obtain ⟨exB, hexB⟩ : ∃ exB : Nat → Prop, exB = fun j => (ex j ∨ (Value.slice a n c).ownBlock = some j) ∨ wr.heap.size ≤ j ∧ j < wB.heap.size := ⟨_, rfl⟩
      have hDB : DiskAt exB wB p m d := HH.out.disk.more hBB (fun j hj => by rw [hexB] at hj; exact hj)
      have hxB1 : ∀ j, ex j → exB j := fun j hj => by rw [hexB]; exact Or.inl (Or.inl hj)
      have hxB2 : ∀ j, (Value.slice a n c).ownBlock = some j → exB j := fun j hj => by rw [hexB]; exact Or.inl (Or.inr hj)
      have hxB3 : exB wr.heap.size := by rw [hexB]; exact Or.inr ⟨Nat.le_refl _, blk_lt hbx⟩
      have hGB : GlIn exB := hG.mono hxB1
      have hKB : Keep ex w wB := HH.out.keep.trans (Keep.ofBelow hBB (fun j hj => HH.out.disk.lt (Or.inl hj)))
      clear hwB hexB
      go_wp2_with fail
      rw [HwB.out]
      clear c0 c1 c2 c3 c4 c5
      refine (open_by (sz : Int) hDB (HEr.out.below hBB) hGB Hop.out HR.out).mono ?_
      rintro e w6 ⟨k6, q3, a6, c6, XL3, rfl, hO3⟩
      have hK6 := hKB.trans (k6.mono hxB1)
      have hB6 : Below w.heap.size w w6 := hK6.below (fun k hk => Hlow.out k hk)
      have hrdR := hO3.rd HR.out
      have hrdA : RecRd w6 a XA := (HH.out.rd.below hBB).turn (n := n) (c := c) k6 (fun g hg => hxB2 g hg) (fun x hx => (HH.out.low x hx).keepLow hB6)
      have hmp := hO3.map
      have hlR : XL3.length = R := by have := congrArg List.length hmp; rw [List.length_map, HR.out] at this; exact this
      have hl6 : LogAt exB w6 q3 p m d' (f.log (sz : Int)) := hO3.log.mono (fun j hj => Or.inl hj)
      have hbx6 := (k6.block wr.heap.size hxB3).trans hbx
      have HE6 := Lib.hid (HE.out.keep hK6 hG)
      have HK6 := Lib.hid hK6
      have HB6 := Lib.hid hB6
      have HRR := Lib.hid hrdR
      have HRA := Lib.hid hrdA
      have Hmp := Lib.hid hmp
      have HlR := Lib.hid hlR
      have HL6 := Lib.hid hl6
      have Hbx6 := Lib.hid hbx6
      have HxB := Lib.hid (And.intro hxB1 (And.intro hxB2 hxB3))
      clear hO3 hrdR hrdA hmp hlR k6 hl6 hbx6 hbx hBB hDB hKB hK6 hB6 hxB1 hxB2 hxB3
      go_upto_region 12 with fail
      go_cut [75] from 30 to 196 (fun b wx => b = .bool false ∧ Below w6.heap.size w6 wx)
      case first =>
        as_aux_lemma =>
          by_cases hn0 : n = 0
          · have hR0 := Hrn.out hn0
            subst hn0
            subst hR0
            go_wp2_with fail
            go_meet
            case rel => first | exact ⟨rfl, Below.refl _ _⟩ | ((repeat apply Exists.intro); exact ⟨⟨rfl, Below.refl _ _⟩, rfl⟩)
          · have hnz : ((n : Int) == 0) = false := by rw [beq_eq_false_iff_ne]; omega
            have hnp : 0 < n := by omega
            have hnp2 : (0 : Int) < (n : Int) := by omega
            have hrunC := run4_yes w6 a6 a R n c6 c sy tr XL3 XA L HRR.out HRA.out HlR.out HXl.out HH.out.cap hnp (by omega) (by omega) (by omega) HH.out.map Hr.out.1 (fun e => by obtain ⟨b, b1, b2, b3, b4, b5⟩ := Hr.out.2 e; exact ⟨b, b1, b2, b3, b4, by rw [Hmp.out]; exact b5⟩)
            have HrunC := Lib.hid hrunC
            clear hrunC hn0
            go_wp2_with fail
            refine HrunC.out.mono ?_
            rintro e w7 ⟨rfl, hB7⟩
            go_wp2_with fail
            go_meet
            case rel => first | exact ⟨rfl, hB7⟩ | ((repeat apply Exists.intro); exact ⟨⟨rfl, hB7⟩, rfl⟩)
      case rest =>
        obtain ⟨rfl, hBc⟩ := hcut
        have HBc := Lib.hid hBc
        clear hBc
        have hmn : mm ≤ n := by rw [HH.out.nL]; exact Hko.out.mle
        have hlam : (f.log (sz : Int)).last = mm := by
          have hn := Hko.out.j.next
          show (f.log (sz : Int)).next - 1 = mm
          rw [hn]
          have hml : (L.take mm).length = mm := by rw [List.length_take]; exact Nat.min_eq_left Hko.out.mle
          by_cases he : ss' = []
          · have h2 := congrArg List.length (Hko.out.run.nil he)
            rw [hml] at h2
            rw [he]
            exact h2.symm
          · have := Hko.out.run.next Hko.out.j.on.chain he
            rw [this, hml]; omega
        have hok5 : (f.log (sz : Int)).Ok ∧ (f.log (sz : Int)).segs.length ≤ 500 := Kj.alOk Hko.out.kj.run Hko.out.j Hko.out.kj.lens Hko.out.kj.size (by omega) (by rw [List.length_take]; omega)
        have Hlam := Lib.hid hlam
        have Hok5 := Lib.hid hok5
        clear hlam hok5
        go_upto_region 15 with fail
        go_cut [83] from 30 to 196 (fun b wx => b = .bool (decide (0 < mm)) ∧ Below w6.heap.size w6 wx)
        case first =>
          as_aux_lemma =>
            by_cases hn0 : n = 0
            · have hd : decide (0 < mm) = false := by
                have : mm = 0 := by omega
                simp [this]
              have Hd := Lib.hid hd
              clear hd
              subst hn0
              go_wp2_with fail
              go_meet
              case rel => first | exact ⟨by rw [Hd.out], HBc.out⟩ | ((repeat apply Exists.intro); exact ⟨⟨by rw [Hd.out], HBc.out⟩, rfl⟩)
            · have hnp : 0 < n := by omega
              have hnp2 : (0 : Int) < (n : Int) := by omega
              clear hn0
              go_wp2_with fail
              refine (last_by mm (HL6.out.below HBc.out) Hok5.out Hlam.out).mono ?_
              rintro e w' ⟨rfl, rfl⟩
              go_wp2_with fail
              go_meet
              case rel => first | exact ⟨rfl, HBc.out⟩ | exact ⟨by simp, HBc.out⟩ | ((repeat apply Exists.intro); exact ⟨⟨by simp, HBc.out⟩, rfl⟩)
        case rest =>
          obtain ⟨rfl, hBd⟩ := hcut
          have HBd := Lib.hid hBd
          clear hBd HBc
          go_upto_if 83 with fail
          go_cut [15] from 30 to 196 (fun nv wx => nv = .int .i64 ((mm : Int) + 1) ∧ Below w6.heap.size w6 wx)
          case first =>
            as_aux_lemma =>
              by_cases hm0 : 0 < mm
              · have hd : decide (0 < mm) = true := by simp [hm0]
                rw [hd]
                have hw1 : IntKind.i64.wrap ((mm : Int) + 1) = (mm : Int) + 1 := IntWalk.i64_in _ (by omega)
                clear hd hm0
                go_wp2_with fail
                refine (last_by mm (HL6.out.below HBd.out) Hok5.out Hlam.out).mono ?_
                rintro e w' ⟨rfl, rfl⟩
                go_wp2_with fail
                go_meet
                case rel => first | exact ⟨rfl, HBd.out⟩ | ((repeat apply Exists.intro); exact ⟨⟨rfl, HBd.out⟩, rfl⟩)
              · have hd : decide (0 < mm) = false := by simp [hm0]
                rw [hd]
                have hm1 : (1 : Int) = (mm : Int) + 1 := by omega
                have Hm1 := Lib.hid hm1
                clear hd hm0 hm1
                go_wp2_with fail
                go_meet
                case rel => first | exact ⟨by rw [← Hm1.out], HBd.out⟩ | ((repeat apply Exists.intro); exact ⟨⟨by rw [← Hm1.out], HBd.out⟩, rfl⟩)
          case rest =>
            obtain ⟨rfl, hBe⟩ := hcut
            obtain ⟨wI, rfl⟩ : ∃ x, x = wc := ⟨_, rfl⟩
            have hsl := Hko.out.sle
            have hmc : mm ≤ c := Nat.le_trans hmn HH.out.cap
            have j1 : IntKind.i64.wrap (mm : Int) = (mm : Int) := IntWalk.i64_in _ (by omega)
            have j2 : (mm : Int) + 1 - 1 = (mm : Int) := by omega
            have j3 : ¬ ((mm : Int) < (sy : Int)) := by omega
            have j4 : ¬ ((n : Int) < (mm : Int)) := by omega
            have j5 : (0 : Int) ≤ (mm : Int) := by omega
            have j6 : (mm : Int) ≤ (c : Int) := by omega
            have j7 : ¬ (n < mm) := by omega
            have j8 : ¬ (mm < sy) := by omega
            go_upto_region 20 with fail
            have hBW : Below w.heap.size w wI := HB6.out.trans (hBe.mono HB6.out.size)
            obtain ⟨exI, hexI⟩ : ∃ exI : Nat → Prop, exI = fun j => ex j ∨ j = wr.heap.size := ⟨_, rfl⟩
            have hwr6 : wr.heap.size < w6.heap.size := blk_lt Hbx6.out
            have hsc := hBe.size
            have hKB : KBase w wI exI := ⟨hBW, fun j hj => by rw [hexI]; exact Or.inl (Hlow.out j hj), fun j hj => by
              rw [hexI] at hj
              rcases hj with hj | rfl
              · have := HL6.out.lt (HxB.out.1 j hj); omega
              · omega⟩
            have hml : (L.take mm).length = mm := by rw [List.length_take]; exact Nat.min_eq_left Hko.out.mle
            have hkl0 : KLoop w wI wI exI q3 p m (L.take mm) d' (f.log (sz : Int)) a mm mm (XA.take mm) := by
              refine ⟨hml.symm, (HL6.out.below hBe).mono (fun j hj => ?_), ⟨(HRA.out.take mm).below hBe, by rw [List.length_take, HXl.out]; omega, Nat.le_refl _, Or.inl rfl, HH.out.adr⟩, by rw [List.map_take, HH.out.map, numbered_take], fun x hx => HH.out.low x (List.mem_of_mem_take hx), Keep.refl _ _⟩
              rcases hj with hj | hj
              · rw [hexI] at hj
                rcases hj with hj | rfl
                · exact HxB.out.1 j hj
                · exact HxB.out.2.2
              · exact HxB.out.2.1 j (by rcases a with _ | ⟨b, o, f⟩ <;> exact hj)
            have hbxc := (hBe.block _ hwr6).trans Hbx6.out
            obtain ⟨_, _, y2, _, _, _⟩ := cells6L hbxc
            obtain ⟨a8, ha8⟩ : ∃ k : Nat, pickI arm 80 = k := ⟨(pickI arm 80).toNat, by have := pickI_lt arm 80 (by omega); omega⟩
            have ha80 : a8 < 80 := by have := pickI_lt arm 80 (by omega); omega
            have hP8 := Pick_any wI arm 80 (by unfold isI64; omega)
            rw [ha8] at hP8
            have hEc : WEnv wI := HE6.out.below hBe
            have hGI : GlIn exI := hG.mono (fun j hj => by rw [hexI]; exact Or.inl hj)
            have hxBI : exI wr.heap.size := by rw [hexI]; exact Or.inr rfl
            have hxI : ∀ j, ex j → exI j := fun j hj => by rw [hexI]; exact Or.inl hj
            have hkc : Keep ex w wI := HK6.out.trans (Keep.ofBelow hBe (fun j hj => HL6.out.lt (HxB.out.1 j hj)))
            have hR0 : ∀ w9, KLoop w wI w9 exI q3 p m (L.take mm) (d'.arm (a8 : Int)) (f.log (sz : Int)) a mm mm (XA.take mm) → KRnd w wI w9 exI q3 p m sz mm 0 (L.take mm) tr (d'.arm (a8 : Int)) (f.log (sz : Int)) ss' a mm mm (XA.take mm) := fun w9 h9 =>
              ⟨h9, kin_arm ⟨Hko.out.kj, Or.inl Hko.out.j⟩ _, by omega, HH.out.tr1, htr1k, by omega⟩
            have hmk : mm ≤ 25 * k := by have := HH.out.n25; have := HH.out.nL; omega
            have HR0 := Lib.hid hR0
            have HKBs := Lib.hid hKB
            have HKL0 := Lib.hid hkl0
            have HP8 := Lib.hid hP8
            have HEc := Lib.hid hEc
            have Hbxc := Lib.hid hbxc
            have HxI := Lib.hid hxI
            have Hkc := Lib.hid hkc
            have Hmk := Lib.hid hmk
            clear hR0 hKB hkl0 hP8 hEc hbxc hxI hkc hmk hexI hwr6 hsc ha8 hBW hml j1 j2 j3 j4 j5 j6 j7 j8 HRR HRA Hmp HlR HL6 Hbx6 HBd hBe HxB HB6 HK6 HE6
            go_wp2_with first
              | (go_at_call 15; refine HP8.out.mono ?_; rintro e w' ⟨rfl, rfl⟩)
              | (go_at_call 34; refine (kl_arm (a8 : Int) HKL0.out HKBs.out (by unfold isI64; omega)).mono ?_; rintro e w9 ⟨rfl, hkl9⟩)
            have HRnd := Lib.hid (HR0.out w9 hkl9)
            clear HR0 HKL0 hkl9 HP8 y2
            obtain ⟨wo, rfl⟩ : ∃ x, x = wr := ⟨_, rfl⟩
            go_loopw [7, 9, 15, 16] (fun allv trv nv kv wr => ∃ (j : Nat) (L2 : List (List UInt8)) (tr2 : Nat) (d2 : ADisk) (al2 : ALog) (ss2 : List Seg) (a2 : Option Addr) (n2 c2 : Nat) (XA2 : List XRec), allv = .slice a2 n2 c2 ∧ trv = .int .i64 tr2 ∧ nv = .int .i64 ((n2 : Int) + 1) ∧ kv = .int .i64 j ∧ KRnd w wI wr exI q3 p m sz mm j L2 tr2 d2 al2 ss2 a2 n2 c2 XA2) (fun _ _ _ kv _ => 25 - (intOf kv).toNat)
            case atStart => exact ⟨0, _, _, _, _, _, _, _, _, _, rfl, rfl, rfl, rfl, HRnd.out⟩
            case round =>
              obtain ⟨j, L2, tr2, d2, al2, ss2, a2, n2, c2, XA2, rfl, rfl, rfl, rfl, hR⟩ := hrel
              obtain ⟨wz, rfl⟩ : ∃ x, x = wr := ⟨_, rfl⟩
              clear HRnd
              have HR9 := Lib.hid hR
              have hyB9 := (hR.kl.keep.block _ hxBI).trans Hbxc.out
              obtain ⟨z09, _, _, _, _, _⟩ := cells6L hyB9
              have hj0 : (0 : Int) ≤ (j : Int) := by omega
              clear hR hyB9
              go_upto_region 22 with fail
              go_cut [117] from 109 to 178 (fun b wx => b = .bool (decide (j < rn ∧ j < 25)) ∧ KRnd w wI wx exI q3 p m sz mm j L2 tr2 d2 al2 ss2 a2 n2 c2 XA2)
              case first =>
                as_aux_lemma =>
                  have hcc : (j < rn ∧ j < 25) ∨ (j < rn ∧ ¬ j < 25) ∨ ¬ j < rn := by omega
                  rcases hcc with ⟨hk1, hk2⟩ | ⟨hk1, hk2⟩ | hk1
                  · have hki : (j : Int) < (rn : Int) := by omega
                    have hki6 : (j : Int) < 25 := by omega
                    have hd : decide (j < rn ∧ j < 25) = true := decide_eq_true ⟨hk1, hk2⟩
                    have Hd := Lib.hid hd
                    clear hd
                    go_wp2_with fail
                    go_meet
                    case rel => first | exact ⟨by rw [Hd.out], HR9.out⟩ | ((repeat apply Exists.intro); exact ⟨⟨by rw [Hd.out], HR9.out⟩, rfl⟩)
                  · have hki : (j : Int) < (rn : Int) := by omega
                    have hki6 : ¬ (j : Int) < 25 := by omega
                    have hd : decide (j < rn ∧ j < 25) = false := decide_eq_false (fun h => hk2 h.2)
                    have Hd := Lib.hid hd
                    clear hd
                    go_wp2_with fail
                    go_meet
                    case rel => first | exact ⟨by rw [Hd.out], HR9.out⟩ | ((repeat apply Exists.intro); exact ⟨⟨by rw [Hd.out], HR9.out⟩, rfl⟩)
                  · have hki : ¬ (j : Int) < (rn : Int) := by omega
                    have hd : decide (j < rn ∧ j < 25) = false := decide_eq_false (fun h => hk1 h.1)
                    have Hd := Lib.hid hd
                    clear hd
                    go_wp2_with fail
                    go_meet
                    case rel => first | exact ⟨by rw [Hd.out], HR9.out⟩ | ((repeat apply Exists.intro); exact ⟨⟨by rw [Hd.out], HR9.out⟩, rfl⟩)
              case rest =>
              obtain ⟨rfl, hR⟩ := hcut
              obtain ⟨wz, rfl⟩ : ∃ x, x = wc := ⟨_, rfl⟩
              clear HR9 hj0 z09
              have hyB := (hR.kl.keep.block _ hxBI).trans Hbxc.out
              obtain ⟨z0, z1, _, _, _, _⟩ := cells6L hyB
              have hn2 := hR.kl.nL
              have hj25 := hR.j25
              have hL2 : L2.length ≤ 175 := by have := hR.len; have := Hmk.out; omega
              have hBz := hR.kl.belowW HKBs.out
              have htr2 := hR.trB
              have HR := Lib.hid hR
              have Hn2 := Lib.hid hn2
              have HBz := Lib.hid hBz
              clear hR hn2 hBz hyB
              by_cases hgo2 : j < rn ∧ j < 25
              · rw [decide_eq_true hgo2]
                obtain ⟨g1, g2⟩ := hgo2
                have hrows := Hlife.out.rows
                rw [Her.out.1] at hrows
                obtain ⟨bb, off, vv, rfl, hblk2, hcW, hrdW, _⟩ := hrows.at (Below.refl _ _) j (by rw [Hlens.out.1]; exact g1)
                have hcz := (HBz.out.cell (p := ⟨bb, off + j, none⟩) (cell_lt hcW)).trans hcW
                obtain ⟨av, cvv, rfl⟩ := hrdW.shape
                rw [bcells_length] at hrdW hcz hcW
                obtain ⟨B, hBe⟩ : ∃ B, x.rows[j]'(by rw [Hlens.out.1]; exact g1) = B := ⟨_, rfl⟩
                rw [hBe] at hrdW hcz hcW
                obtain ⟨bn, hbn⟩ : ∃ bn, B.length = bn := ⟨_, rfl⟩
                rw [hbn] at hrdW hcz hcW
                have HrdW := Lib.hid hrdW
                have HcW := Lib.hid hcW
                have Hbn := Lib.hid hbn
                clear hrdW hcW hBe hrows hbn
                have hjI : (j : Int) < (rn : Int) := by omega
                have hj0 : (0 : Int) ≤ (j : Int) := by omega
                have hj25I : (j : Int) < 25 := by omega
                by_cases hbl : bn ≤ 40
                · have hb40 : ¬ (40 : Int) < (bn : Int) := by omega
                  obtain ⟨d3, al3, er, ss3, he3, hor3⟩ := kin_append HR.out.kin (by omega) (by omega) HR.out.tr1 B (by rw [Hbn.out]; exact hbl)
                  have hA := kl_append ((n2 : Int) + 1) (.slice av bn cvv) B er HR.out.kl HKBs.out HEc.out hGI HR.out.kin.kj.ok (by rw [Hn2.out]; omega) (by omega) HrdW.out (by rw [Hbn.out]; exact hbl) he3
                  have HA := Lib.hid hA
                  have Hor3 := Lib.hid hor3
                  clear hA hor3 he3
                  go_upto_if 135 with (go_at_call 22; refine HA.out.mono ?_; rintro e w8 ⟨rfl, hK8⟩)
                  have HK8 := Lib.hid hK8
                  clear hK8
                  go_cut [7, 15] from 109 to 178 (fun allv nv wx => ∃ (L3 : List (List UInt8)) (d3 : ADisk) (al3 : ALog) (ss3 : List Seg) (a3 : Option Addr) (n3 c3 : Nat) (XA3 : List XRec), allv = .slice a3 n3 c3 ∧ nv = .int .i64 ((n3 : Int) + 1) ∧ KRnd w wI wx exI q3 p m sz mm (j + 1) L3 tr2 d3 al3 ss3 a3 n3 c3 XA3)
                  case first =>
                    as_aux_lemma =>
                      rcases Hor3.out with ⟨rfl, hk3⟩ | ⟨hne, hk3⟩
                      · obtain ⟨a', c', w9, hrun, hk9, hkl9⟩ := HK8.out.add HKBs.out B (.slice av bn cvv) rfl HrdW.out (by have := Hn2.out; omega) ((n2 : Int) + 1) rfl
                        have hyB8 := (HK8.out.keep.block _ hxBI).trans Hbxc.out
                        obtain ⟨z08, _, _, _, _, _⟩ := cells6L hyB8
                        have hc8 := ((HK8.out.belowW HKBs.out).cell (p := ⟨bb, off + j, none⟩) (cell_lt HcW.out)).trans HcW.out
                        have hw2 : IntKind.i64.wrap ((n2 : Int) + 1 + 1) = (n2 : Int) + 1 + 1 := IntWalk.i64_in _ (by have := Hn2.out; omega)
                        have hrnd : KRnd w wI w9 exI q3 p m sz mm (j + 1) (L2 ++ [B]) tr2 d3 al3 ss3 a' (n2 + 1) c' (XA2 ++ [⟨n2 + 1, B, .slice av bn cvv⟩]) :=
                          ⟨hkl9, hk3, by rw [List.length_append]; have := HR.out.len; simp only [List.length_singleton]; omega, HR.out.tr1, HR.out.trB, by omega⟩
                        have Hrun := Lib.hid hrun
                        have Hrnd := Lib.hid hrnd
                        clear hrun hk9 hkl9 hk3 hyB8 hrnd z0 z1 hcz
                        go_wp2_with (at_builtin; refine Lib.wpList_append_run _ rfl (.tmp 136) (.tmp 144) _ _ rfl _ _ rfl rfl _ _ Hrun.out ?_)
                        go_meet
                        case rel => first | exact ⟨_, _, _, _, _, _, _, _, rfl, by go_num, Hrnd.out⟩ | ((repeat apply Exists.intro); exact ⟨⟨rfl, by go_num, Hrnd.out⟩, rfl⟩)
                      · have hne2 : (er == 0) = false := by rw [beq_eq_false_iff_ne]; exact hne
                        have hrnd : KRnd w wI w8 exI q3 p m sz mm (j + 1) L2 tr2 d3 al3 ss3 a2 n2 c2 XA2 :=
                          ⟨HK8.out, hk3, by have := HR.out.len; omega, HR.out.tr1, HR.out.trB, by omega⟩
                        have Hrnd := Lib.hid hrnd
                        clear hrnd hk3
                        go_wp2_with fail
                        go_meet
                        case rel => first | exact ⟨_, _, _, _, _, _, _, _, rfl, rfl, Hrnd.out⟩ | ((repeat apply Exists.intro); exact ⟨⟨rfl, rfl, Hrnd.out⟩, rfl⟩)
                  case rest =>
                    obtain ⟨L3, d3, al3, ss3, a3, n3, c3, XA3, rfl, rfl, hR3⟩ := hcut
                    obtain ⟨wd, rfl⟩ : ∃ x, x = wc := ⟨_, rfl⟩
                    have hyB3 := (hR3.kl.keep.block _ hxBI).trans Hbxc.out
                    obtain ⟨_, y13, _, _, _, _⟩ := cells6L hyB3
                    have HR3 := Lib.hid hR3
                    clear hR3 hyB3 z0 z1 hcz HK8 Hor3 HA HR Hn2 HBz
                    go_upto_if 152 with fail
                    go_cut [17] from 109 to 178 (fun v wx => (∃ z : Nat, v = .int .i64 z ∧ z < 1000003) ∧ KRnd w wI wx exI q3 p m sz mm (j + 1) L3 tr2 d3 al3 ss3 a3 n3 c3 XA3)
                    case first =>
                      as_aux_lemma =>
                        by_cases hja : j < an
                        · have hjaI : (j : Int) < (an : Int) := by omega
                          have hac := Hlife.out.acts
                          rw [Her.out.2.1, Hlens.out.2.1] at hac
                          obtain ⟨ba, oa, e0, hca⟩ := hac.at j (by rw [Hlens.out.2.1]; exact hja)
                          subst e0
                          obtain ⟨zz, hzz⟩ : ∃ zz, x.acts[j]'(by have := Hlens.out.2.1; unfold iCells at this; rw [List.length_map] at this; rw [this]; exact hja) = zz := ⟨_, rfl⟩
                          have hca2 : wd.cell? ⟨ba, oa + j, none⟩ = some (.int .i64 zz) := by
                            rw [((HR3.out.kl.belowW HKBs.out).cell (p := ⟨ba, oa + j, none⟩) (cell_lt hca)), hca, ← hzz]
                            simp [iCells]
                          obtain ⟨z9, hz9⟩ : ∃ k : Nat, pickI zz 1000003 = k := ⟨(pickI zz 1000003).toNat, by have := pickI_lt zz 1000003 (by omega); omega⟩
                          have hz90 : z9 < 1000003 := by have := pickI_lt zz 1000003 (by omega); omega
                          have hP9 := Pick_any wd zz 1000003 (by unfold isI64; omega)
                          rw [hz9] at hP9
                          have HP9 := Lib.hid hP9
                          clear hP9 hz9 hzz hca
                          go_wp2_with (go_at_call 15; refine HP9.out.mono ?_; rintro e w' ⟨rfl, rfl⟩)
                          go_meet
                          case rel => first | exact ⟨⟨_, rfl, hz90⟩, HR3.out⟩ | ((repeat apply Exists.intro); exact ⟨⟨⟨_, rfl, hz90⟩, HR3.out⟩, rfl⟩)
                        · have hjaI : ¬ ((j : Int) < (an : Int)) := by omega
                          go_wp2_with fail
                          go_meet
                          case rel => first | exact ⟨⟨0, rfl, by omega⟩, HR3.out⟩ | ((repeat apply Exists.intro); exact ⟨⟨⟨0, rfl, by omega⟩, HR3.out⟩, rfl⟩)
                    case rest =>
                      obtain ⟨⟨z, rfl, hz⟩, hR4⟩ := hcut
                      obtain ⟨we, rfl⟩ : ∃ x, x = wc := ⟨_, rfl⟩
                      have HR4 := Lib.hid hR4
                      clear hR4 HR3 y13
                      go_upto_if 161 with fail
                      obtain ⟨b3, hb3⟩ : ∃ b, ((z : Int) % 3 == 0) = b := ⟨_, rfl⟩
                      go_cut [] from 109 to 178 (fun wx => ∃ (d4 : ADisk) (al4 : ALog), KRnd w wI wx exI q3 p m sz mm (j + 1) L3 tr2 d4 al4 ss3 a3 n3 c3 XA3)
                      case first =>
                        as_aux_lemma =>
                          cases b3 with
                          | true =>
                            have hL3 : L3.length ≤ 200 := by have := HR4.out.len; have := HR4.out.j25; have := Hmk.out; omega
                            obtain ⟨d4, al4, er4, he4, hk4⟩ := kin_sync HR4.out.kin hL3 (by omega)
                            have hS := kl_sync er4 HR4.out.kl HKBs.out HEc.out hGI HR4.out.kin.kj.ok he4
                            have HS := Lib.hid hS
                            have Hk4 := Lib.hid hk4
                            clear hS hk4 he4
                            go_wp2_with (go_at_call 23; refine HS.out.mono ?_; rintro e w9 ⟨rfl, hkl9⟩)
                            go_meet
                            case rel => first | exact ⟨d4, al4, hkl9, Hk4.out, HR4.out.len, HR4.out.tr1, HR4.out.trB, HR4.out.j25⟩ | ((repeat apply Exists.intro); exact ⟨⟨hkl9, Hk4.out, HR4.out.len, HR4.out.tr1, HR4.out.trB, HR4.out.j25⟩, rfl⟩)
                          | false =>
                            go_wp2_with fail
                            go_meet
                            case rel => first | exact ⟨_, _, HR4.out⟩ | ((repeat apply Exists.intro); exact ⟨HR4.out, rfl⟩)
                      case rest =>
                        obtain ⟨d4, al4, hR5⟩ := hcut
                        obtain ⟨wf, rfl⟩ : ∃ x, x = wc := ⟨_, rfl⟩
                        have HR5 := Lib.hid hR5
                        clear hR5 HR4 hb3
                        go_upto_if 166 with fail
                        obtain ⟨b5, hb5⟩ : ∃ b, ((z : Int) % 5 == 0) = b := ⟨_, rfl⟩
                        cases b5 with
                        | true =>
                          obtain ⟨sy4, hsy4⟩ : ∃ s, al4.synced = s := ⟨_, rfl⟩
                          have hsyL4 : sy4 ≤ 200 := by have := HR5.out.kin.kj.sy; have := HR5.out.len; have := HR5.out.j25; have := Hmk.out; omega
                          obtain ⟨b15, h15⟩ : ∃ b : Nat, (z : Int) / 15 % 40 = b := ⟨((z : Int) / 15 % 40).toNat, by omega⟩
                          have h15b : b15 < 40 := by omega
                          obtain ⟨b1, hb1⟩ : ∃ b : Nat, min (b15 : Int) (sy4 : Int) = b := ⟨min b15 sy4, by omega⟩
                          have hb1s : b1 ≤ sy4 := by omega
                          have hb1b : b1 ≤ 40 := by omega
                          obtain ⟨t1, ht1⟩ : ∃ b : Nat, max (tr2 : Int) (b1 : Int) = b := ⟨max tr2 b1, by omega⟩
                          have ht1e : max tr2 b1 = t1 := by omega
                          obtain ⟨d5, al5, gone5, er5, ss5, he5, hk5⟩ := kin_trim HR5.out.kin b1 (by omega)
                          rw [ht1e] at hk5
                          have hsn := kl_synced sy4 HR5.out.kl hsy4
                          have hT := kl_trim (b1 : Int) gone5 gone5.length er5 HR5.out.kl HKBs.out HEc.out hGI (by unfold isI64; omega) HR5.out.kin.kj.ok he5 rfl
                          have HT := Lib.hid hT
                          have Hsn := Lib.hid hsn
                          have Hk5 := Lib.hid hk5
                          have Htb := Lib.hid (show 1 ≤ t1 ∧ t1 ≤ 1000 by have := HR5.out.tr1; have := HR5.out.trB; omega)
                          clear hT hsn hk5 he5 ht1e hsy4
                          go_wp2_with first
                            | (go_at_call 25; refine Hsn.out.mono ?_; rintro e w' ⟨rfl, rfl⟩)
                            | (go_at_call 19; refine HT.out.mono ?_; rintro e w9 ⟨a9, c9, rfl, hkl9⟩)
                          go_roundw
                          case rel => exact ⟨j + 1, L3, t1, d5, al5, ss5, a3, n3, c3, XA3, rfl, rfl, rfl, by go_num, hkl9, Hk5.out, HR5.out.len, Htb.out.1, Htb.out.2, HR5.out.j25⟩
                          case measure => simp [intOf]; omega
                        | false =>
                          go_wp2_with fail
                          go_roundw
                          case rel => exact ⟨j + 1, L3, tr2, d4, al4, ss3, a3, n3, c3, XA3, rfl, rfl, rfl, by go_num, HR5.out⟩
                          case measure => simp [intOf]; omega
                · have hb40 : (40 : Int) < (bn : Int) := by omega
                  as_aux_lemma =>
                    have hrnd : KRnd w wI wz exI q3 p m sz mm (j + 1) L2 tr2 d2 al2 ss2 a2 n2 c2 XA2 :=
                      ⟨HR.out.kl, HR.out.kin, by have := HR.out.len; omega, HR.out.tr1, HR.out.trB, by omega⟩
                    have Hrnd := Lib.hid hrnd
                    clear hrnd
                    go_wp2_with fail
                    go_roundw
                    case rel => exact ⟨j + 1, _, _, _, _, _, _, _, _, _, rfl, rfl, rfl, by go_num, Hrnd.out⟩
                    case measure => simp [intOf]; omega
              ·
                as_aux_lemma =>
                  obtain ⟨sy2, hsy2⟩ : ∃ s, al2.synced = s := ⟨_, rfl⟩
                  have hsn := kl_synced sy2 HR.out.kl hsy2
                  have hyB2 := (HR.out.kl.keep.block _ hxBI).trans Hbxc.out
                  obtain ⟨_, _, _, y3, y4, y5⟩ := cells6L hyB2
                  obtain ⟨exA, hexA⟩ : ∃ exA : Nat → Prop, exA = fun g => exI g ∨ (Value.slice a2 n2 c2).ownBlock = some g := ⟨_, rfl⟩
                  have hIA : ∀ g, exI g → exA g := fun g hg => by rw [hexA]; exact Or.inl hg
                  have hOA : ∀ g, (Value.slice a2 n2 c2).ownBlock = some g → exA g := fun g hg => by rw [hexA]; exact Or.inr hg
                  have hlowA : ∀ g, g < w.heap.size → exA g := fun g hg => hIA g (HKBs.out.low g hg)
                  have hGA : GlIn exA := hGI.mono hIA
                  have hD2 : DiskAt exA wz p m d2 := HR.out.kl.log.disk.mono (fun g hg => by rw [hexA] at hg; exact hg)
                  have hEz := HR.out.kl.env HEc.out hGI
                  have hBz := HBz.out
                  have hkB : ∀ wX, Keep exA wz wX → Below w.heap.size w wX := fun wX hk => hBz.trans (hk.below hlowA)
                  -- the contracts, in turn
                  have hrk := Hlife.out.keeps
                  rw [Her.out.2.2.1, Hlens.out.2.2.1] at hrk
                  have hrl := Hlife.out.left
                  rw [Her.out.2.2.2, Hlens.out.2.2.2] at hrl
                  obtain ⟨g8, hg8⟩ : ∃ k : Nat, pickI aga 6 = k := ⟨(pickI aga 6).toNat, by have := pickI_lt aga 6 (by omega); omega⟩
                  have hg80 : g8 < 6 := by have := pickI_lt aga 6 (by omega); omega
                  have hP9 := fun wX => Pick_any wX aga 6 (by unfold isI64; omega)
                  rw [hg8] at hP9
                  have hC1 := crash_life (.slice ka kn kc) x.keeps hD2 hBz hlowA hrk Hlife.out.keepsL Hlife.out.keepsI
                  obtain ⟨d3, hd3⟩ : ∃ d3, d2.crash x.keeps = d3 := ⟨_, rfl⟩
                  rw [hd3] at hC1
                  have hke3 : Ke L2 tr2 sy2 d3 ss2 := by rw [← hd3, ← hsy2]; exact HR.out.kin.kj.crash x.keeps
                  obtain ⟨d4, hd4⟩ : ∃ d4, d3.arm (g8 : Int) = d4 := ⟨_, rfl⟩
                  have hke4 : Ke L2 tr2 sy2 d4 ss2 := by rw [← hd4]; exact hke3.arm _
                  obtain ⟨d5, hd5⟩ : ∃ d5, (wOpen d4 (sz : Int)).1 = d5 := ⟨_, rfl⟩
                  obtain ⟨ss6, hke6⟩ := hke4.again hsz1.1 (by omega) (by omega) x.left
                  rw [hd5] at hke6
                  have hA4 := fun wX (hX : DiskAt exA wX p m d3) => Arm_at (g8 : Int) hX (by omega) (by omega)
                  rw [hd4] at hA4
                  have hO5 := fun wX (hX : DiskAt exA wX p m d4) (hEX : WEnv wX) => open_some (sz : Int) hX hEX hGA
                  rw [hd5] at hO5
                  have hC6 := fun wX (hX : DiskAt exA wX p m d5) (hk : Keep exA wz wX) => crash_life (.slice la ln lc) x.left hX (hkB wX hk) hlowA hrl Hlife.out.leftL Hlife.out.leftI
                  have hend : ∀ wX, DiskAt exA wX p m (d5.crash x.left) → Keep exA wz wX → KHead w wX ex p m N (k + 1) L2 sy2 tr2 (d5.crash x.left) ss6 a2 n2 c2 XA2 := fun wX hX hk =>
                    ⟨by omega, by omega, Hn2.out, by have := HR.out.len; have := Hmk.out; omega, HR.out.tr1, HR.out.trB, hke6, rfl, hX.mono (fun g hg => hg.elim (fun h => hIA g (HxI.out g h)) (hOA g)),
                      (HR.out.kl.up.rd).turn (n := n2) (c := c2) hk hOA (fun y hy => (HR.out.kl.low y hy).keepLow (hkB wX hk)), HR.out.kl.up.cap, HR.out.kl.map, HR.out.kl.low,
                      (Hkc.out.trans (HR.out.kl.keep.mono HxI.out)).trans (hk.mono (fun g hg => hIA g (HxI.out g hg))), HR.out.kl.up.adr⟩
                  have Hsn := Lib.hid hsn
                  have HP9 := Lib.hid hP9
                  have HC1 := Lib.hid hC1
                  have HA4 := Lib.hid hA4
                  have HO5 := Lib.hid hO5
                  have HC6 := Lib.hid hC6
                  have Hend := Lib.hid hend
                  have HEz := Lib.hid hEz
                  have HcB := Lib.hid (hIA _ hxBI)
                  clear hsn hP9 hC1 hA4 hO5 hC6 hend hEz hD2 hBz hkB hrk hrl hke3 hke4 hke6 hd3 hd4 hd5 hg8 hIA hOA hlowA hexA hyB2 hsy2
                  rw [decide_eq_false hgo2]
                  clear hgo2
                  go_wp2_with first
                    | (go_at_call 25; refine Hsn.out.mono ?_; rintro e w' ⟨rfl, rfl⟩)
                    | (go_at_call 15; refine (HP9.out _).mono ?_; rintro e w' ⟨rfl, rfl⟩)
                    | (go_at_call 34; refine (HA4.out _ hD3).mono ?_; rintro e w4 ⟨rfl, hD4, k4⟩; have hK4 := hK3.trans k4; have y54 := (hK4.cell HcB.out 5).trans y5)
                    | (go_at_call 17; refine (HO5.out _ hD4 (HEz.out.keep hK4 hGA)).mono ?_; rintro e w5 ⟨v5, rfl, hD5, k5⟩; have hK5 := hK4.trans k5; have y55 := (hK5.cell HcB.out 5).trans y5)
                    | (go_at_call 35; (with_reducible refine (HC6.out _ hD5 hK5).mono ?_); rintro e w6 ⟨rfl, hD6, k6⟩; have hK6 := hK5.trans k6)
                    | (go_at_call 35; (with_reducible refine HC1.out.mono ?_); rintro e w3 ⟨rfl, hD3, hK3⟩; have y43 := (hK3.cell HcB.out 4).trans y4)
                  go_roundw
                  case rel => exact ⟨k + 1, L2, sy2, tr2, _, ss6, a2, n2, c2, XA2, by go_num, rfl, rfl, rfl, Hend.out _ hD6 hK6⟩
                  case measure => simp [intOf]; omega
    ·
      as_aux_lemma =>
        rw [decide_eq_false hgo]
        clear hgo
        go_wp2_with fail
        refine (open_by (sz : Int) HH.out.disk HEr.out hGA Hop.out HR.out).mono ?_
        rintro e w6 ⟨k6, q3, a6, c6, XL3, rfl, hO3⟩
        have hK6 := HH.out.keep.trans (k6.mono (fun _ hk => Or.inl hk))
        have hB6 : Below w.heap.size w w6 := hK6.below (fun k hk => Hlow.out k hk)
        have hrdR := hO3.rd HR.out
        have hrdA : RecRd w6 a XA := HH.out.rd.turn (n := n) (c := c) k6 (fun g hg => Or.inr hg) (fun x hx => (HH.out.low x hx).keepLow hB6)
        have hmp := hO3.map
        have hlR : XL3.length = R := by have := congrArg List.length hmp; rw [List.length_map, HR.out] at this; exact this
        have HE6 := Lib.hid (HE.out.keep hK6 hG)
        have HRR := Lib.hid hrdR
        have HRA := Lib.hid hrdA
        have Hmp := Lib.hid hmp
        have HlR := Lib.hid hlR
        have hfin : ∀ wY, Below w6.heap.size w6 wY → Below w.heap.size w wY := fun wY hY => hB6.trans (hY.mono hB6.size)
        have Hfin := Lib.hid hfin
        clear hO3 hrdR hrdA hmp hlR k6 hfin
        by_cases hn0 : n = 0
        · have hR0 := Hrn.out hn0
          subst hn0
          subst hR0
          go_wp2_with fail
          refine (awake4_any w6 HE6.out).mono ?_
          rintro e w7 ⟨rfl, hB7⟩
          go_wp2
          go_ret
          exact ⟨rfl, Hfin.out _ hB7⟩
        · have hnz : ((n : Int) == 0) = false := by rw [beq_eq_false_iff_ne]; omega
          have hnp : 0 < n := by omega
          have hnp2 : (0 : Int) < (n : Int) := by omega
          have hrunC := run4_yes w6 a6 a R n c6 c sy tr XL3 XA L HRR.out HRA.out HlR.out HXl.out HH.out.cap hnp (by omega) (by omega) (by omega) HH.out.map Hr.out.1 (fun e => by obtain ⟨b, b1, b2, b3, b4, b5⟩ := Hr.out.2 e; exact ⟨b, b1, b2, b3, b4, by rw [Hmp.out]; exact b5⟩)
          have HrunC := Lib.hid hrunC
          clear hrunC hn0
          go_wp2_with fail
          refine HrunC.out.mono ?_
          rintro e w7 ⟨rfl, hB7⟩
          go_wp2_with fail
          refine (awake4_any w7 (HE6.out.below hB7)).mono ?_
          rintro e w8 ⟨rfl, hB8⟩
          go_wp2
          go_ret
          exact ⟨rfl, Hfin.out _ (hB7.trans (hB8.mono hB7.size))⟩
end Go.Proofs.YtbiadclmonakkaaGreatDoor
