/-
  WalEnded: the walk.
-/
import Derived.Outline
import Derived.Test.YtbiadclmonakkaaGreatDoorMWmD
import Derived.Test.YtbiadclmonakkaaGreatDoorMWal17
import Derived.Test.YtbiadclmonakkaaGreatDoorMLoA
namespace Go.Proofs.YtbiadclmonakkaaGreatDoor
open Go.RowKit Go.Maps Go.MapKept
set_option linter.unusedSimpArgs false

section
variable {ex : Nat → Prop} {w : World} {q p m : Nat} {d d' : ADisk} {al al' : ALog}
theorem over_by (z : Bool) (h : LogAt ex w q p m d al) (he : al.over = z) :
    Calls Tryz.prog 26 #[.pointer (some ⟨q, 0, none⟩)] w fun e w' => e = .returned (.bool z) ∧ w = w' := by
  have hA := wOver_at h
  rw [he] at hA
  exact hA
def EnApp (ex : Nat → Prop) (w : World) (q p m : Nat) (L : List (List UInt8)) (b : List UInt8) (er : Int) (e : Ending) (w' : World) : Prop :=
  e = .returned (.int .i64 er) ∧ Keep ex w w' ∧ ∃ d al, LogAt ex w' q p m d al ∧ ((er = 0 ∧ ∃ ss, En (L ++ [b]) d al ss ∧ J d al ss) ∨ (er ≠ 0 ∧ al.over = true ∧ ∃ ss, En L d al ss))
theorem append_en {L : List (List UInt8)} {ss : List Seg} (n : Int) (vb : Value) (b : List UInt8) (h : LogAt ex w q p m d al) (hN : En L d al ss) (hJ : J d al ss) (hL : L.length ≤ 40) (hE : WEnv w) (hG : GlIn ex) (hn : n = ((1 + L.length : Nat) : Int)) (hv : ∀ w', Keep ex w w' → Rd w' vb (bcells b)) (hb : b.length ≤ 40) :
    ∃ er, Calls Tryz.prog 22 #[.pointer (some ⟨q, 0, none⟩), .int .i64 n, vb] w (EnApp ex w q p m L b er) := by
  obtain ⟨d', al', er, e1, e2⟩ := hN.append hJ hL b hb
  refine ⟨er, ?_⟩
  have hA := wAppend_at n vb b h hE hG (by unfold isI64; omega) hv (by omega) hN.ok.1 (by have := hN.ok.2; omega)
  rw [hn, e1] at hA
  rw [hn]
  exact hA.mono fun e w' hw => ⟨hw.1, hw.2.2, d', al', hw.2.1, e2⟩
def EnSync (ex : Nat → Prop) (w : World) (q p m : Nat) (L : List (List UInt8)) (er : Int) (e : Ending) (w' : World) : Prop :=
  e = .returned (.int .i64 er) ∧ Keep ex w w' ∧ ∃ d al ss, LogAt ex w' q p m d al ∧ En L d al ss ∧ (J d al ss ∨ al.over = true)
theorem sync_en {L : List (List UInt8)} {ss : List Seg} (h : LogAt ex w q p m d al) (hN : En L d al ss) (hJ : J d al ss) (hL : L.length ≤ 41) (hE : WEnv w) :
    ∃ er, Calls Tryz.prog 23 #[.pointer (some ⟨q, 0, none⟩)] w (EnSync ex w q p m L er) := by
  obtain ⟨d', al', er, e1, e2⟩ := hN.sync hJ hL
  refine ⟨er, ?_⟩
  have hA := wSync_at h hE hN.ok.1
  rw [e1] at hA
  refine hA.mono fun e w' hw => ⟨hw.1, hw.2.2, d', al', ss, hw.2.1, ?_⟩
  rcases e2 with ⟨a, b⟩ | ⟨a, b⟩
  · exact ⟨a, Or.inl b⟩
  · exact ⟨b, Or.inr a⟩
end
set_option maxRecDepth 100000 in
set_option maxHeartbeats 16000000 in
theorem ended4_law (w : World) (hE : WEnv w) {v0 : Value} (rows : List (List UInt8)) (r0 : RowsAt w v0 rows) (most : Int) (wm : (Lit.int .u16 most).wf = true) (arm : Int) (wa : (Lit.int .u16 arm).wf = true) {vb : Value} (b : List UInt8) (hb : Rd w vb (bcells b)) (_hl : b.length ≤ maxLen) :
    Calls Tryz.prog 9 #[v0, .int .u16 most, .int .u16 arm, vb] w fun e w' => e = .returned (.bool true) ∧ Below w.heap.size w w' := by
  have bm := bounds_u16 wm
  have ba := bounds_u16 wa
  obtain ⟨mo, rfl⟩ : ∃ n : Nat, most = n := ⟨most.toNat, by omega⟩
  obtain ⟨ar, rfl⟩ : ∃ n : Nat, arm = n := ⟨arm.toNat, by omega⟩
  have hmo : mo ≤ 65535 := by omega
  have har : ar ≤ 65535 := by omega
  clear bm ba wm wa
  obtain ⟨a0, c0, rfl⟩ := SliceOf.shape r0
  have hrl := SliceOf.len_le r0
  simp only [maxLen] at hrl
  obtain ⟨ab, cb, rfl⟩ := hb.shape
  rw [bcells_length] at hb ⊢
  obtain ⟨N, hN⟩ : ∃ N, rows.length = N := ⟨_, rfl⟩
  rw [hN] at r0 hrl ⊢
  have HN := Lib.hid hN
  obtain ⟨ex, hex⟩ : ∃ ex : Nat → Prop, ex = fun k => k < w.heap.size := ⟨_, rfl⟩
  have hx0 : ∀ k, ex k → k < w.heap.size := fun k hk => by rw [hex] at hk; exact hk
  have hlow : ∀ k, k < w.heap.size → ex k := fun k hk => by rw [hex]; exact hk
  have hG : GlIn ex := hE.lt.mono hlow
  obtain ⟨r, hr⟩ : ∃ r, mo % 400 = r := ⟨_, rfl⟩
  have hr4 : r < 400 := by omega
  have hrI : (mo : Int) % 400 = r := by omega
  obtain ⟨s, hs⟩ : ∃ s, ar % 200 = s := ⟨_, rfl⟩
  have hs2 : s < 200 := by omega
  have hsI : (ar : Int) % 200 = s := by omega
  have hNew := New_at (w := w) (ex := ex) (20 + (r : Int)) (by omega) (by omega) hx0
  obtain ⟨p, hp⟩ : ∃ p, w.heap.size + 1 = p := ⟨_, rfl⟩
  obtain ⟨m, hm⟩ : ∃ m, w.heap.size = m := ⟨_, rfl⟩
  rw [hp, hm] at hNew
  have hb0 : Bare ⟨20 + (r : Int), -1, false, []⟩ := ⟨List.Pairwise.nil, fun _ _ _ => rfl⟩
  have hop := (open_bare hb0 rfl 64 (by decide) (by decide)).1
  have HNew := Lib.hid hNew
  have Hop := Lib.hid hop
  have HE := Lib.hid hE
  have Hb := Lib.hid hb
  have Hlow := Lib.hid hlow
  have Hen := Lib.hid (en_new (20 + (r : Int)) (max (s : Int) 0))
  clear hNew hop hE hb hp hm hN hex hr hs hb0 hx0
  go_enter Tryz.func9, Tryz.ntmps9
  go_wp2_with fail
  refine HNew.out.mono ?_
  rintro e w1 ⟨rfl, hD1, k1⟩
  go_wp2_with fail
  refine (open_by 64 hD1 (HE.out.keep k1 hG) hG Hop.out rfl).mono ?_
  rintro e w2 ⟨k2, q, a2, c2, XL, rfl, hO⟩
  have hl2 := hO.log.mono (ex' := ex) (fun k hk => Or.inl hk)
  have hK2 := k1.trans k2
  clear hO hD1 k1 k2
  by_cases hlong : 100 < b.length
  · have hlb : (100 : Int) < b.length := by omega
    go_wp2_with fail
    refine (awake4_any w2 (HE.out.keep hK2 hG)).mono ?_
    rintro e w3 ⟨rfl, hB3⟩
    go_wp2
    go_ret
    exact ⟨rfl, (hK2.below (fun k hk => Hlow.out k hk)).trans (hB3.mono hK2.size)⟩
  · have hlb : ¬ (100 : Int) < b.length := by omega
    obtain ⟨v, hv⟩ := hl2
    have Hv := Lib.hid hv
    clear hv
    go_wp2_with fail
    refine (Arm_at (s : Int) Hv.out.disk (by omega) (by omega)).mono ?_
    rintro e w3 ⟨rfl, hD3, k3⟩
    have hv3 := Hv.out.disk_turned hD3 k3
    have hK3 := hK2.trans hv3.2
    have hdd : (⟨20 + (r : Int), -1, false, []⟩ : ADisk).arm (s : Int) = ⟨20 + (r : Int), max (s : Int) 0, false, []⟩ := rfl
    rw [hdd] at hv3
    have Hl3 := Lib.hid (⟨v, hv3.1⟩ : LogAt ex w3 q p m ⟨20 + (r : Int), max (s : Int) 0, false, []⟩ (f0.log 64))
    clear hv3 hD3 k3 hdd hK2
    go_wp2_with fail
    go_loopw [14, 15] (fun nv iv wr => ∃ (k : Nat) (L : List (List UInt8)) (d : ADisk) (al : ALog) (ss : List Seg), k ≤ N ∧ k ≤ 40 ∧ L.length ≤ k ∧ iv = .int .i64 k ∧ nv = .int .i64 ((1 + L.length : Nat) : Int) ∧ LogAt ex wr q p m d al ∧ Keep ex w wr ∧ En L d al ss ∧ (J d al ss ∨ al.over = true)) (fun _ iv _ => N - (intOf iv).toNat)
    case atStart => exact ⟨0, [], _, _, _, by omega, by omega, by simp, rfl, rfl, Hl3.out, hK3, Hen.out.1, Or.inl Hen.out.2⟩
    case round =>
      obtain ⟨k, L, d, al, ss, hk, hk40, hLk, rfl, rfl, hL, hK, hEn, hor⟩ := hrel
      clear hK3
      have hEr := HE.out.keep hK hG
      have hBr : Below w.heap.size w wr := hK.below (fun k hk => Hlow.out k hk)
      by_cases hgo : k < N ∧ k < 40 ∧ al.over = false
      · obtain ⟨hl1, hl2, hov⟩ := hgo
        have hJ : J d al ss := hor.resolve_right (by rw [hov]; simp)
        obtain ⟨bb, off, vv, rfl, hblk, hcW, hrdW, _⟩ := r0.at (Below.refl _ _) k (by rw [HN.out]; exact hl1)
        have hc := (hBr.cell (p := ⟨bb, off + k, none⟩) (cell_lt hcW)).trans hcW
        obtain ⟨av, cv, rfl⟩ := hrdW.shape
        rw [bcells_length] at hrdW hc hcW
        obtain ⟨B, hBe⟩ : ∃ B, rows[k]'(by rw [HN.out]; exact hl1) = B := ⟨_, rfl⟩
        rw [hBe] at hrdW hc hcW
        have hOv := over_by false hL hov
        have HOv := Lib.hid hOv
        have HL := Lib.hid hL
        have HEn := Lib.hid hEn
        have HJ := Lib.hid hJ
        have HrdW := Lib.hid hrdW
        have HBr := Lib.hid hBr
        obtain ⟨Ln, hLn⟩ : ∃ n, L.length = n := ⟨_, rfl⟩
        clear hOv hEn hJ hrdW hBe hor hov hcW
        by_cases hbl : B.length ≤ 40
        · have hb40 : (B.length : Int) ≤ 40 := by omega
          obtain ⟨er, hA⟩ := append_en ((1 + L.length : Nat) : Int) (.slice av B.length cv) B HL.out HEn.out HJ.out (by omega) hEr hG rfl (fun w' hw' => HrdW.out.keepLow (HBr.out.trans (hw'.below (N := w.heap.size) (fun j hj => Hlow.out j hj)))) hbl
          rw [hLn] at hA hLk ⊢
          have HA := Lib.hid hA
          have HLn := Lib.hid hLn
          unfold EnApp at HA
          clear hA hLn hL hBr
          by_cases h0 : er = 0
          · subst h0
            by_cases h3 : k % 3 = 0
            · have h3b : ((k : Int) % 3 == 0) = true := by
                have : (k : Int) % 3 = 0 := by omega
                rw [this]; rfl
              go_wp2_with first
                | (go_at_call 26; refine HOv.out.mono ?_; rintro e w' ⟨rfl, rfl⟩)
                | (go_at_call 22; refine HA.out.mono ?_; rintro e w5 ⟨rfl, hK5, d5, al5, hL5, hor5⟩; obtain ⟨_, ss5, hE5, hJ5⟩ := hor5.resolve_right (fun h => h.1 rfl); obtain ⟨er2, hS⟩ := sync_en hL5 hE5 hJ5 (by rw [List.length_append, HLn.out]; simp; omega) (hEr.keep hK5 hG); have HS := Lib.hid hS; unfold EnSync at HS; clear hS hL5 hor5 hE5 hJ5)
                | (go_at_call 23; refine HS.out.mono ?_; rintro e w6 ⟨rfl, hK6, d6, al6, ss6, hL6, hE6, hor6⟩)
              go_roundw
              case rel => exact ⟨k + 1, L ++ [B], d6, al6, ss6, by omega, by omega, by rw [List.length_append, HLn.out]; simp; omega, by go_num, by rw [List.length_append, HLn.out]; go_num, hL6, (hK.trans hK5).trans hK6, hE6, hor6⟩
              case measure => simp [intOf]; omega
            · have h3b : ((k : Int) % 3 == 0) = false := by
                rw [beq_eq_false_iff_ne]; omega
              go_wp2_with first
                | (go_at_call 26; refine HOv.out.mono ?_; rintro e w' ⟨rfl, rfl⟩)
                | (go_at_call 22; refine HA.out.mono ?_; rintro e w5 ⟨rfl, hK5, d5, al5, hL5, hor5⟩; obtain ⟨_, ss5, hE5, hJ5⟩ := hor5.resolve_right (fun h => h.1 rfl))
              go_roundw
              case rel => exact ⟨k + 1, L ++ [B], d5, al5, ss5, by omega, by omega, by rw [List.length_append, HLn.out]; simp; omega, by go_num, by rw [List.length_append, HLn.out]; go_num, hL5, hK.trans hK5, hE5, Or.inl hJ5⟩
              case measure => simp [intOf]; omega
          · have h0b : (er == 0) = false := by rw [beq_eq_false_iff_ne]; exact h0
            have H0 := Lib.hid h0
            clear h0
            go_wp2_with first
              | (go_at_call 26; refine HOv.out.mono ?_; rintro e w' ⟨rfl, rfl⟩)
              | (go_at_call 22; refine HA.out.mono ?_; rintro e w5 ⟨rfl, hK5, d5, al5, hL5, hor5⟩; obtain ⟨_, hov5, ss5, hE5⟩ := hor5.resolve_left (fun h => H0.out h.1); have Hov5 := Lib.hid hov5; clear hov5)
            go_roundw
            case rel => exact ⟨k + 1, L, d5, al5, ss5, by omega, by omega, by rw [HLn.out]; omega, by go_num, by rw [HLn.out]; go_num, hL5, hK.trans hK5, hE5, Or.inr Hov5.out⟩
            case measure => simp [intOf]; omega
        · have hb40 : ¬ (B.length : Int) ≤ 40 := by omega
          rw [hLn] at hLk ⊢
          have HLn := Lib.hid hLn
          clear hLn hL hBr
          go_wp2_with first
            | (go_at_call 26; refine HOv.out.mono ?_; rintro e w' ⟨rfl, rfl⟩)
          go_roundw
          case rel => exact ⟨k + 1, L, d, al, ss, by omega, by omega, by rw [HLn.out]; omega, by go_num, by rw [HLn.out]; go_num, HL.out, hK, HEn.out, Or.inl HJ.out⟩
          case measure => simp [intOf]; omega
      · -- the loop ends
        obtain ⟨ov, hov⟩ : ∃ ov, al.over = ov := ⟨_, rfl⟩
        have hOv := fun wX (hX : LogAt ex wX q p m d al) => over_by ov hX hov
        have hways : ¬ (k : Int) < N ∨ ((k : Int) < N ∧ ¬ (k : Int) < 40) ∨ ((k : Int) < N ∧ (k : Int) < 40 ∧ ov = true) := by
          rcases Nat.lt_or_ge k N with h1 | h1
          · rcases Nat.lt_or_ge k 40 with h2 | h2
            · refine Or.inr (Or.inr ⟨by omega, by omega, ?_⟩)
              rw [← hov]
              cases h : al.over with
              | true => rfl
              | false => exact absurd ⟨h1, h2, h⟩ hgo
            · exact Or.inr (Or.inl ⟨by omega, by omega⟩)
          · exact Or.inl (by omega)
        obtain ⟨d9, f9, o1, o2⟩ := hEn.crash []
        obtain ⟨Ln, hLn⟩ : ∃ n, L.length = n := ⟨_, rfl⟩
        obtain ⟨SY, hSY⟩ : ∃ n, al.synced = n := ⟨_, rfl⟩
        obtain ⟨NR, hNR⟩ : ∃ n, f9.recs.length = n := ⟨_, rfl⟩
        rw [hSY, hNR] at o2
        have o2I : (SY : Int) ≤ (NR : Int) := by omega
        have hLk' : Ln ≤ 40 := by omega
        have hOp := Lib.hid o1
        have Hrn := Lib.hid hNR
        have Hsy := Lib.hid hSY
        have Hov := Lib.hid hov
        have HOv := Lib.hid hOv
        have HL := Lib.hid hL
        have Hok := Lib.hid hEn.ok
        have HBr := Lib.hid hBr
        have HEr := Lib.hid hEr
        rw [hLn]
        clear o1 hNR hSY hov hOv hL hEn hgo hor hLn hLk hBr hEr
        cases ov with
        | false =>
          have hw2 : ¬ (k : Int) < N ∨ ((k : Int) < N ∧ ¬ (k : Int) < 40) := by
            rcases hways with h | h | ⟨_, _, h⟩
            · exact Or.inl h
            · exact Or.inr h
            · cases h
          clear hways
          rcases hw2 with h1 | ⟨h1, h2⟩
          all_goals
            go_wp2_with fail
            refine (HOv.out wr HL.out).mono ?_
            rintro e w' ⟨rfl, rfl⟩
            go_wp2_with fail
            refine (awake4_any wr HEr.out).mono ?_
            rintro e w9 ⟨rfl, hB9⟩
            go_wp2
            go_ret
            exact ⟨rfl, HBr.out.trans (hB9.mono HBr.out.size)⟩
        | true =>
          have hM200 : d.names.length ≤ 200 := by have := HL.out.wf.count; simpa [ADisk.names] using this
          obtain ⟨M, hM⟩ : ∃ n, d.names.length = n := ⟨_, rfl⟩
          have HM := Lib.hid hM
          rw [hM] at hM200
          clear hM
          have hss : ((SY : Int) != (SY : Int)) = false := by simp
          have huu : ((usedF d.fs : Int) != (usedF d.fs : Int)) = false := by simp
          rcases hways with h1 | ⟨h1, h2⟩ | ⟨h1, h2, _⟩
          all_goals
            go_wp2_with (go_at_call 26; refine (HOv.out wr HL.out).mono ?_; rintro e w' ⟨rfl, rfl⟩)
            refine (Used_at HL.out.disk).mono ?_
            rintro e wA ⟨rfl, hBA⟩
            go_wp2_with fail
            refine (List_at (HL.out.disk.below hBA)).mono ?_
            rw [HM.out]
            rintro e wB ⟨aB, cB, rfl, rowB, _, hBB⟩
            have hBrB := hBA.trans (hBB.mono hBA.size)
            obtain ⟨exN, hexN⟩ : ∃ exN : Nat → Prop, exN = fun j => ex j ∨ wr.heap.size ≤ j ∧ j < wB.heap.size := ⟨_, rfl⟩
            have hLN : LogAt exN wB q p m d al := HL.out.more hBrB (fun j hj => by rw [hexN] at hj; exact hj)
            have hGN : GlIn exN := hG.mono (fun j hj => by rw [hexN]; exact Or.inl hj)
            have hxN : ∀ j, ex j → exN j := fun j hj => by rw [hexN]; exact Or.inl hj
            have hKB : Keep ex w wB := hK.trans (Keep.ofBelow hBrB (fun j hj => HL.out.lt hj))
            have hrB : ∀ g, (Value.slice aB M cB).ownBlock = some g → exN g := fun g hg => by rw [hexN]; exact Or.inr ⟨by have := row_from rowB hg; have := hBA.size; omega, row_lt rowB hg⟩
            have RowB := Lib.hid rowB
            have HrB := Lib.hid hrB
            have HxN := Lib.hid hxN
            clear rowB hrB hxN hexN hBA hBB hBrB hK
            go_wp2_with fail
            refine (synced_by SY hLN Hsy.out).mono ?_
            rintro e w' ⟨rfl, rfl⟩
            go_wp2_with fail
            have hT := wTrim_at 5 hLN (HE.out.keep hKB hG) hGN (by unfold isI64; omega) Hok.out.1
            rw [wTrim_over Hov.out] at hT
            unfold TrimPost at hT
            refine hT.mono ?_
            rintro e wC ⟨aC, cC, rfl, _, hLC0, kC⟩
            have hLC := hLC0.mono (ex' := exN) (fun j hj => Or.inl hj)
            have hKC := hKB.trans (kC.mono HxN.out)
            have RowC := Lib.hid (kC.row RowB.out HrB.out)
            clear hT hLC0 kC hLN hKB
            go_wp2_with fail
            have hA := fun n hn => wAppend_at n (.slice ab b.length cb) b hLC (HE.out.keep hKC hG) hGN hn (fun w' hw' => Hb.out.keepLow ((hKC.trans (hw'.mono HxN.out)).below (N := w.heap.size) (fun j hj => Hlow.out j hj))) (by omega) Hok.out.1 (by have := Hok.out.2; omega)
            simp only [wAppend_over Hov.out] at hA
            refine (hA _ (by unfold isI64; omega)).mono ?_
            rintro e wD ⟨rfl, hLD, kD⟩
            have hKD := hKC.trans (kD.mono HxN.out)
            have RowD := Lib.hid (kD.row RowC.out HrB.out)
            clear hA hLC kD hKC
            go_wp2_with fail
            have hS := wSync_at hLD (HE.out.keep hKD hG) Hok.out.1
            rw [wSync_over Hov.out] at hS
            refine hS.mono ?_
            rintro e wE ⟨rfl, hLE, kE⟩
            have hKE := hKD.trans (kE.mono HxN.out)
            have RowE := Lib.hid (kE.row RowD.out HrB.out)
            clear hS hLD kE hKD
            go_wp2_with fail
            refine (Used_at hLE.disk).mono ?_
            rintro e wF ⟨rfl, hBF⟩
            go_wp2_with fail
            refine (List_at (hLE.disk.below hBF)).mono ?_
            rw [HM.out]
            rintro e wG ⟨aG, cG, rfl, rowG, _, hBG⟩
            have hBEG := hBF.trans (hBG.mono hBF.size)
            have RowG := Lib.hid rowG
            clear rowG hBF hBG
            go_wp2_with fail
            refine (SameTexts_any _ _ _ _ _ (Rd.ofOwns RowG.out) ((Rd.ofOwns RowE.out).below hBEG) (by simp only [maxLen, HM.out]; omega) (by simp only [maxLen, HM.out]; omega)).mono ?_
            rw [show decide (d.names = d.names) = true by simp]
            rintro e wH ⟨rfl, hBH⟩
            have hBEH := hBEG.trans (hBH.mono hBEG.size)
            have hLH := hLE.below hBEH
            have hKH := hKE.trans (Keep.ofBelow hBEH (fun j hj => hLE.lt (HxN.out j hj)))
            clear hBEG hBH hBEH hLE hKE
            go_wp2_with fail
            refine (synced_by SY hLH Hsy.out).mono ?_
            rintro e w' ⟨rfl, rfl⟩
            go_wp2_with fail
            refine (Crash_at _ [] hLH.disk (Or.inl ⟨Or.inl rfl, rfl⟩) (by simp) (fun x hx => by cases hx) (fun k hk => by cases hk)).mono ?_
            rintro e wI ⟨rfl, hDI, kI⟩
            have hKI := hKH.trans (kI.mono HxN.out)
            go_wp2_with fail
            refine (open_by 64 hDI (HE.out.keep hKI hG) hGN hOp.out Hrn.out).mono ?_
            rintro e wJ ⟨kJ, qJ, aJ, cJ, XLJ, rfl, hOJ⟩
            have hKJ := hKI.trans (kJ.mono HxN.out)
            clear hOJ
            go_wp2_with fail
            refine (awake4_any wJ (HE.out.keep hKJ hG)).mono ?_
            rintro e wK ⟨rfl, hBK⟩
            go_wp2
            go_ret
            exact ⟨rfl, (hKJ.below (fun j hj => Hlow.out j hj)).trans (hBK.mono hKJ.size)⟩
end Go.Proofs.YtbiadclmonakkaaGreatDoor
