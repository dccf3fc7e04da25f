/-
  WalTrims: the walk.
-/
import Derived.Outline
import Derived.BigQuiet
import Derived.Deep.QuietTactic
import Derived.Deep.RegionHeld3
import Derived.Test.YtbiadclmonakkaaGreatDoorMWmD
import Derived.Test.YtbiadclmonakkaaGreatDoorMWal18
namespace Go.Proofs.YtbiadclmonakkaaGreatDoor
open Go.RowKit Go.Maps Go.MapKept
set_option linter.unusedSimpArgs false

theorem Rd.takeS {w : World} {a : Option Addr} {n c : Nat} {l : List ByteArray} (h : Rd w (.slice a n c) (sCells l)) (j : Nat) (hj : j ≤ l.length) : Rd w (.slice a j c) (sCells (l.take j)) := by
  rcases h with ⟨h1, h2⟩ | ⟨b, off, n', c', e, hn, hc⟩
  · have hl : l = [] := by cases l with | nil => rfl | cons x r => cases h2
    subst hl
    have hj0 : j = 0 := by simpa using hj
    subst hj0
    rcases h1 with h1 | h1
    · cases h1; exact Or.inl ⟨Or.inl rfl, rfl⟩
    · obtain ⟨a', c'', e⟩ := h1
      cases e
      exact Or.inl ⟨Or.inr ⟨_, _, rfl⟩, rfl⟩
  · cases e
    refine Or.inr ⟨b, off, j, c, rfl, by rw [sCells_length, List.length_take]; omega, fun i u hu => hc i u ?_⟩
    unfold sCells at hu ⊢
    rw [List.map_take] at hu
    rw [List.getElem?_take] at hu
    split at hu
    · exact hu
    · cases hu
theorem Rd.dropS {w : World} {a aD : Option Addr} {n c : Nat} {l : List ByteArray} (h : Rd w (.slice a n c) (sCells l)) (j : Nat) (hj : j ≤ l.length) (hnc : n ≤ c) (haD : (if c = j then a else Option.map (fun x => x.add j) a) = aD) {k : Nat} (hk : n - j = k) : Rd w (.slice aD k (c - j)) (sCells (l.drop j)) := by
  subst hk
  rcases h with ⟨h1, h2⟩ | ⟨b, off, n', c', e, hn, hc⟩
  · have hl : l = [] := by cases l with | nil => rfl | cons x r => cases h2
    subst hl
    have hj0 : j = 0 := by simpa using hj
    subst hj0
    rcases h1 with h1 | ⟨a', c'', h1⟩
    · cases h1
      refine Or.inl ⟨Or.inl ?_, rfl⟩
      rw [← haD]; rfl
    · cases h1
      refine Or.inl ⟨Or.inr ?_, rfl⟩
      by_cases hc : c = 0
      · rw [if_pos hc] at haD; exact ⟨a', c, by rw [← haD]; rfl⟩
      · rw [if_neg hc] at haD; exact ⟨a'.add 0, c, by rw [← haD]; rfl⟩
  · cases e
    rw [sCells_length] at hn
    by_cases hcj : c = j
    · rw [if_pos hcj] at haD
      refine Or.inl ⟨Or.inr ⟨⟨b, off, none⟩, c - j, ?_⟩, ?_⟩
      · rw [← haD, show n - j = 0 by omega]
      · rw [List.drop_eq_nil_of_le (by omega)]; rfl
    · rw [if_neg hcj] at haD
      refine Or.inr ⟨b, off + j, n - j, c - j, ?_, ?_, fun i u hu => ?_⟩
      · rw [← haD]; simp [Addr.add_lit]
      · rw [sCells_length, List.length_drop]; omega
      · unfold sCells at hu hc
        rw [List.map_drop, List.getElem?_drop] at hu
        rw [Nat.add_assoc]
        exact hc _ _ hu
theorem RecRd.dropS {w : World} {a aD : Option Addr} {L : List XRec} (h : RecRd w a L) (j c : Nat) (hnc : L.length ≤ c) (haD : (if c = j then a else Option.map (fun x => x.add (j * 2)) a) = aD) : RecRd w aD (L.drop j) := by
  refine ⟨fun hn => ?_, fun x hx => h.rd x (List.mem_of_mem_drop hx)⟩
  have hj : j < L.length := by
    apply Nat.lt_of_not_le
    intro hle
    exact hn (List.drop_eq_nil_of_le hle)
  obtain ⟨b, o, e, hc⟩ := h.at_ (fun e => by rw [e] at hj; exact absurd hj (Nat.not_lt_zero _))
  rw [if_neg (by omega), e] at haD
  refine ⟨b, o + j * 2, by rw [← haD]; simp [Addr.add_lit], fun i u hu => ?_⟩
  have e2 : recX L = recX (L.take j) ++ recX (L.drop j) := by rw [← recX_app, List.take_append_drop]
  have el : (recX (L.take j)).length = j * 2 := by rw [recX_length, List.length_take, Nat.min_eq_left (by omega)]
  rw [Nat.add_assoc]
  apply hc
  rw [e2, List.getElem?_append_right (by omega), el, Nat.add_sub_cancel_left]
  exact hu
theorem numbered_at {n : Nat} {R : List (List UInt8)} {k : Nat} {x : ARec} (h : (numbered n R)[k]? = some x) : x.n = n + k := by
  induction R generalizing n k with
  | nil => simp [numbered] at h
  | cons b R ih =>
    cases k with
    | zero => simp [numbered] at h; rw [← h]; rfl
    | succ k => have := ih (n := n + 1) (k := k) (by simpa [numbered] using h); omega
set_option maxRecDepth 100000 in
set_option maxHeartbeats 16000000 in
theorem trims4_law (w : World) (hE : WEnv w) (vr : Value) (rows : List (List UInt8)) (first : Nat) (size : Int) (hW : RowsAt w vr rows) (hf : first ≤ 65535) (hs : isI64 size) (belowI : Int) (wb : (Lit.int .u16 belowI).wf = true) :
    Calls Tryz.prog 4 #[.agg #[vr, .int .u16 first, .int .i64 size], .int .u16 belowI] w fun e w' => e = .returned (.bool true) ∧ Below w.heap.size w w' := by
  have bb := bounds_u16 wb
  obtain ⟨below, rfl⟩ : ∃ n : Nat, belowI = n := ⟨belowI.toNat, by omega⟩
  have hbe : below ≤ 65535 := by omega
  clear bb wb
  obtain ⟨ar, cr, rfl⟩ := SliceOf.shape hW
  obtain ⟨N, hN⟩ : ∃ N, rows.length = N := ⟨_, rfl⟩
  rw [hN] at hW ⊢
  have hB1 : Below w.heap.size w (w.alloc (.cells #[.slice ar N cr, .int .u16 first, .int .i64 size] 25)) := (Below.refl _ _).alloc (Nat.le_refl _) _
  have hbx := alloc_at w (.cells #[.slice ar N cr, .int .u16 first, .int .i64 size] 25)
  obtain ⟨w1, hw1⟩ : ∃ w1, w.alloc (.cells #[.slice ar N cr, .int .u16 first, .int .i64 size] 25) = w1 := ⟨_, rfl⟩
  rw [hw1] at hB1 hbx
  obtain ⟨x0, x1, x2, _⟩ := cells3 hbx
  have Hw1 := Lib.hid hw1
  obtain ⟨ex, hex⟩ : ∃ ex : Nat → Prop, ex = fun k => k < w1.heap.size := ⟨_, rfl⟩
  have hlt : ∀ k, ex k → k < w1.heap.size := fun k hk => by rw [hex] at hk; exact hk
  have hlow : ∀ k, k < w.heap.size → ex k := fun k hk => by rw [hex]; have := hB1.size; show k < w1.heap.size; omega
  have hG : GlIn ex := hE.lt.mono hlow
  have hE1 := hE.below hB1
  have hBu := built_any (ex := ex) (.slice ar N cr) rows first size hW hB1 hE1 hG hlt hlow hf hs
  obtain ⟨L, hL⟩ : ∃ L, builtL rows = L := ⟨_, rfl⟩
  obtain ⟨n0, hn0⟩ : ∃ n0, builtN first = n0 := ⟨_, rfl⟩
  obtain ⟨sz, hsz⟩ : ∃ n0, builtS size = n0 := ⟨_, rfl⟩
  have hL40 : L.length ≤ 40 := by rw [← hL]; exact builtL_le rows
  have hn01 : 1 ≤ n0 ∧ n0 ≤ 70000 := by rw [← hn0]; unfold builtN; omega
  have hszb : 64 ≤ sz ∧ sz ≤ 1000 := by rw [← hsz]; have := builtS_le size; omega
  unfold BuiltPost at hBu
  rw [hL, hn0, hsz] at hBu
  have HBu := Lib.hid hBu
  have Hex := Lib.hid hex
  have HE := Lib.hid hE
  have HE1 := Lib.hid hE1
  have Hlow := Lib.hid hlow
  have HB1 := Lib.hid hB1
  clear hBu hex hE hE1 hL hn0 hsz hw1 hN hlt hbx
  have hfin : ∀ wX, Keep ex w1 wX → ∀ wY, Below wX.heap.size wX wY → Below w.heap.size w wY := fun wX hK wY hY =>
    HB1.out.trans ((hK.below (N := w1.heap.size) (fun k hk => by rw [Hex.out]; exact hk)).trans (hY.mono hK.size) |>.mono HB1.out.size)
  have Hfin := Lib.hid hfin
  clear hfin hB1
  go_enter Tryz.func4, Tryz.ntmps4
  go_wp2_with fail
  rw [Hw1.out]
  refine HBu.out.mono ?_
  rintro e w2 ⟨q, p, m, a, c, n, XL, d, al, ss, rfl, hK1, hF⟩
  have HF := Lib.hid hF
  have hE2 := HE1.out.keep hK1 hG
  have HE2 := Lib.hid hE2
  obtain ⟨Gn, d2, al2, d3, f, R, hT⟩ := trims_plain hF.built below
  have hoka := hF.built.alOk hn01.2 hszb.2 (by omega)
  have hok1 : al.Ok ∧ al.segs.length ≤ 500 := ⟨hoka.1, by omega⟩
  have hok2 : al2.Ok ∧ al2.segs.length ≤ 500 := by
    obtain ⟨a1, a2, a3, a4, a5⟩ := hT.ok2
    have a6 := hT.seg2
    exact ⟨⟨by rw [a1]; exact hok1.1.size, by rw [a2]; exact hok1.1.next, by rw [a3]; exact hok1.1.bytes, by rw [a4]; exact hok1.1.synced, fun x hx => hok1.1.segs x (a5 x hx), by have := hok1.1.many; omega⟩, by omega⟩
  have hln : L.length = n := by
    have := congrArg List.length hF.map
    rw [List.length_map, numbered_len, hF.len] at this
    exact this.symm
  have hnl : al.names.length ≤ 50 := by unfold ALog.names; rw [List.length_map]; omega
  obtain ⟨K, hK⟩ : ∃ K, al.names.length = K := ⟨_, rfl⟩
  have HT := Lib.hid hT
  have Hln := Lib.hid hln
  have HK := Lib.hid hK
  have Hok1 := Lib.hid hok1
  have Hok2 := Lib.hid hok2
  have hGK : Gn ≤ K ∧ Gn ≤ K - 1 := by rw [← hK]; exact ⟨hT.g, hT.gl⟩
  have hRl : R ≤ n := by rw [← hln]; exact hT.rl
  have hK50 : K ≤ 50 := by omega
  have hn40 : n ≤ 40 := by omega
  have hGl : (al.names.take Gn).length = Gn := by rw [List.length_take]; exact Nat.min_eq_left hT.g
  have HGl := Lib.hid hGl
  clear hF hE2 hT hok1 hok2 hln hK hnl hoka hGl
  have hGA : GlIn (fun k => ex k ∨ (Value.slice a n c).ownBlock = some k) := hG.mono (fun _ hk => Or.inl hk)
  go_wp2_with fail
  refine (files_by _ K HF.out.log HE2.out Hok1.out rfl HK.out).mono ?_
  unfold FilesPost
  rintro e w3 ⟨a3, c3, rfl, row3, hB3⟩
  obtain ⟨ex3, hex3⟩ : ∃ ex3 : Nat → Prop, ex3 = fun k => (ex k ∨ (Value.slice a n c).ownBlock = some k) ∨ w2.heap.size ≤ k ∧ k < w3.heap.size := ⟨_, rfl⟩
  have hL3 : LogAt ex3 w3 q p m d al := HF.out.log.more hB3 (fun k hk => by rw [hex3] at hk; exact hk)
  have hx3 : ∀ k, ex k → ex3 k := fun k hk => by rw [hex3]; exact Or.inl (Or.inl hk)
  have hr3 : ∀ g, (Value.slice a n c).ownBlock = some g → ex3 g := fun g hg => by rw [hex3]; exact Or.inl (Or.inr hg)
  have hf3 : ∀ g, (Value.slice a3 K c3).ownBlock = some g → ex3 g := fun g hg => by rw [hex3]; exact Or.inr ⟨row_from row3 hg, row_lt row3 hg⟩
  have hG3 : GlIn ex3 := hG.mono hx3
  have hK3 : Keep ex w1 w3 := hK1.trans (Keep.ofBelow hB3 (fun k hk => HF.out.log.lt (Or.inl hk)))
  have hall3 := ((Upd.refl noFp w2).thenBelow hB3 (Nat.le_refl _)).row HF.out.row (fun _ _ h => h)
  have hcap3 := row_le_cap row3
  have hcapA := row_le_cap HF.out.row
  have Row3 := Lib.hid row3
  have Hall3 := Lib.hid hall3
  have Hx3 := Lib.hid hx3
  have Hr3 := Lib.hid hr3
  have Hf3 := Lib.hid hf3
  clear row3 hall3 hx3 hr3 hf3 hex3 hB3
  go_wp2_with fail
  refine (trim_by (below : Int) _ Gn 0 hL3 (HE1.out.keep hK3 hG) hG3 (by unfold isI64; omega) Hok1.out HT.out.one HGl.out).mono ?_
  unfold TrimBy
  rintro e w4 ⟨a4, c4, rfl, row4, hL4, k4⟩
  obtain ⟨ex4, hex4⟩ : ∃ ex4 : Nat → Prop, ex4 = fun j => ex3 j ∨ (Value.slice a4 Gn c4).ownBlock = some j := ⟨_, rfl⟩
  rw [← hex4] at hL4
  have hx4 : ∀ k, ex3 k → ex4 k := fun k hk => by rw [hex4]; exact Or.inl hk
  have hr4 : ∀ g, (Value.slice a4 Gn c4).ownBlock = some g → ex4 g := fun g hg => by rw [hex4]; exact Or.inr hg
  have hK4 := hK3.trans (k4.mono Hx3.out)
  have Row4 := Lib.hid row4
  have HrA4 := Lib.hid (k4.row Hall3.out Hr3.out)
  have HrF4 := Lib.hid (k4.row Row3.out Hf3.out)
  have Hx4 := Lib.hid hx4
  have Hr4 := Lib.hid hr4
  clear row4 hx4 hr4 hex4 k4 hL3
  go_wp2_with fail
  refine (trim_by (below : Int) [] 0 0 hL4 (HE1.out.keep hK4 hG) (hG3.mono Hx4.out) (by unfold isI64; omega) Hok2.out HT.out.two rfl).mono ?_
  unfold TrimBy
  rintro e w5 ⟨a5, c5, rfl, _, hL5', k5⟩
  have hL5 : LogAt ex4 w5 q p m d2 al2 := hL5'.mono (fun _ hk => Or.inl hk)
  have hK5 := hK4.trans (k5.mono (fun k hk => Hx4.out k (Hx3.out k hk)))
  have HrA5 := Lib.hid (k5.row HrA4.out (fun g hg => Hx4.out g (Hr3.out g hg)))
  have HrF5 := Lib.hid (k5.row HrF4.out (fun g hg => Hx4.out g (Hf3.out g hg)))
  have HrG5 := Lib.hid (k5.row Row4.out Hr4.out)
  clear hL4 hL5' k5
  have HL5 := Lib.hid hL5
  have HE5 := Lib.hid (HE1.out.keep hK5 hG)
  obtain ⟨Km, hKm⟩ : ∃ Km, K - 1 = Km := ⟨_, rfl⟩
  have hwr1 : IntKind.i64.wrap ((K : Int) - 1) = (K : Int) - 1 := IntWalk.i64_in _ (by omega)
  have hmx : max ((K : Int) - 1) 0 = (Km : Int) := by omega
  have hgm : ¬ (Km < Gn) := by omega
  have hgm2 : decide (Km < Gn) = false := by simp [hgm]
  have hgc : (Gn : Int) ≤ (c3 : Int) := by omega
  have hGK0 : Gn ≤ K := hGK.1
  have hGKI : (Gn : Int) ≤ (K : Int) := by omega
  have hK2n : al2.names.length = K - Gn := by rw [HT.out.names, List.length_drop, HK.out]
  obtain ⟨K2, hK2⟩ : ∃ K2, K - Gn = K2 := ⟨_, rfl⟩
  rw [hK2] at hK2n
  have HKn := Lib.hid hK2
  have HK2 := Lib.hid hK2n
  clear hK2n hKm
  obtain ⟨aD, haD⟩ : ∃ aD, (if c3 = Gn then a3 else Option.map (fun x => x.add Gn) a3) = aD := ⟨_, rfl⟩
  have HaD := Lib.hid haD
  have hnt : ∀ l : List ByteArray, l.length ≤ 50 → l.length ≤ maxLen := fun l hl => by simp only [maxLen]; omega
  have hd1 : decide ((al.names).take Gn = (al.names).take Gn) = true := by simp
  have hlt1 : ((al.names).take Gn).length ≤ maxLen := hnt _ (by rw [HGl.out]; omega)
  have HS1 := fun wX (hX : Below w5.heap.size w5 wX) => SameTexts_any wX _ _ ((al.names).take Gn) ((al.names).take Gn) ((Rd.ofOwns HrG5.out).below hX) (((Rd.ofOwns HrF5.out).takeS Gn (by rw [HK.out]; exact hGK0)).below hX) hlt1 hlt1
  rw [hd1] at HS1
  have HFi := fun wX (hX : Below w5.heap.size w5 wX) => files_by al2.names K2 (HL5.out.below hX) (HE5.out.below hX) Hok2.out rfl HK2.out
  unfold FilesPost at HFi
  have hFd : Rd w5 (.slice aD K2 (c3 - Gn)) (sCells (al.names.drop Gn)) := (Rd.ofOwns HrF5.out).dropS Gn (by rw [HK.out]; exact hGK0) hcap3 HaD.out HKn.out
  have HS2 := fun wX (hX : Below w5.heap.size w5 wX) v (hv : Rd wX v (sCells al2.names)) => SameTexts_any wX v _ al2.names (al.names.drop Gn) hv (hFd.below hX) (hnt _ (by rw [HK2.out]; omega)) (hnt _ (by rw [List.length_drop, HK.out]; omega))
  rw [show decide (al2.names = al.names.drop Gn) = true by rw [HT.out.names]; simp] at HS2
  have HS1' := Lib.hid HS1
  have HS2' := Lib.hid HS2
  have HFi' := Lib.hid HFi
  clear HS1 HS2 HFi hd1 hlt1 hFd
  go_wp2
  go_region_held3 (fun _ => True) (trivial)
    (first
      | (go_at_call 20; ((with_reducible refine (HS1'.out _ ((Below.refl _ _).drew)).mono ?_); rintro e wS1 ⟨rfl, hBS1⟩))
      | (go_at_call 13; (have hb51 : Below w5.heap.size w5 wS1 := ((Below.refl w5.heap.size w5).drew).trans hBS1); ((with_reducible refine (HFi'.out wS1 hb51).mono ?_); rintro e wS2 ⟨aF, cF, rfl, rowF, hBS2⟩))
      | (go_at_call 20; (have hb52 := hb51.trans (hBS2.mono hb51.size)); ((with_reducible refine (HS2'.out wS2 hb52 _ (Rd.ofOwns rowF)).mono ?_); rintro e wS3 ⟨rfl, hBS3⟩)))
  have hb53 : Below w5.heap.size w5 wS3 := (hb51.trans (hBS2.mono hb51.size)).trans (hBS3.mono (hb51.trans (hBS2.mono hb51.size)).size)
  clear hBS1 hBS2 hBS3 hb51 rowF HS1' HS2' HFi'
  obtain ⟨v, hv⟩ := HL5.out
  obtain ⟨exO, hexO⟩ : ∃ exO : Nat → Prop, exO = fun k => ex4 k ∨ k = q ∨ v.ownBlock = some k := ⟨_, rfl⟩
  have hxO : ∀ k, ex4 k → exO k := fun k hk => by rw [hexO]; exact Or.inl hk
  have hxO1 : ∀ k, ex k → exO k := fun k hk => hxO k (Hx4.out k (Hx3.out k hk))
  have hDO : DiskAt exO wS3 p m d2 := by rw [hexO]; exact (hv.below hb53).disk
  have hGO : GlIn exO := hG.mono hxO1
  have hKS : Keep ex w1 wS3 := hK5.trans (Keep.ofBelow hb53 (fun k hk => hv.lt (Hx4.out k (Hx3.out k hk))))
  go_wp2_with fail
  refine (open_by 64 hDO (HE5.out.below hb53) hGO HT.out.re HT.out.r).mono ?_
  rintro e w6 ⟨k6, q3, a6, c6, XL3, rfl, hO3⟩
  have hD6 := hO3.log.disk.mono (ex' := exO) (fun _ hk => Or.inl hk)
  have hl6 := ((hv.below hb53).disk_turned (by rw [← hexO]; exact hD6) (by rw [← hexO]; exact k6)).1
  have hK6 := hKS.trans (k6.mono hxO1)
  have hrow6 := k6.row (((Upd.refl noFp w5).thenBelow hb53 (Nat.le_refl _)).row HrA5.out (fun _ _ h => h)) (fun g hg => hxO g (Hx4.out g (Hr3.out g hg)))
  have hB06 : Below w.heap.size w w6 := Hfin.out w6 hK6 w6 (Below.refl _ _)
  have hrdA : RecRd w6 a XL := RecRd.ofOwns hrow6 HF.out.len.symm (fun x hx => (HF.out.low x hx).keepLow hB06)
  have hrdR := hO3.rd HT.out.r
  have hmpR := hO3.map
  have hlenR : XL3.length = R := by have := congrArg List.length hmpR; rw [List.length_map, HT.out.r] at this; exact this
  have hL6 : LogAt ex4 w6 q p m d3 al2 := ⟨_, hl6⟩
  have HL6 := Lib.hid hL6
  have HRA := Lib.hid hrdA
  have HRR := Lib.hid hrdR
  have HMR := Lib.hid hmpR
  have HLR := Lib.hid hlenR
  have HE6 := Lib.hid (HE1.out.keep hK6 hG)
  clear hO3 hD6 hl6 hL6 hrow6 hB06 hrdA hrdR hmpR hlenR k6 hDO hv hxO hxO1 hb53 hKS hexO HrA5 HrF5 HrG5
  obtain ⟨Dn, hDn⟩ : ∃ Dn, n - R = Dn := ⟨_, rfl⟩
  have hDI : (n : Int) - (R : Int) = (Dn : Int) := by omega
  have hwr2 : IntKind.i64.wrap (Dn : Int) = (Dn : Int) := IntWalk.i64_in _ (by omega)
  have hgt2 : ¬ (n < R) := by omega
  have hD0 : (0 : Int) ≤ (Dn : Int) := by omega
  have hD1 : (Dn : Int) ≤ (n : Int) := by omega
  have hnd : n - Dn = R := by omega
  obtain ⟨aE, haE⟩ : ∃ aE, (if c = Dn then a else Option.map (fun x => x.add (Dn * 2)) a) = aE := ⟨_, rfl⟩
  have HaE := Lib.hid haE
  have HDn := Lib.hid hDn
  clear hDn
  have hmm : XL3.map XRec.rec4 = (XL.drop Dn).map XRec.rec4 := by
    rw [HMR.out, HT.out.recs, List.map_drop, HF.out.map, Hln.out, HDn.out]
  have Hmm := Lib.hid hmm
  clear hmm
  go_wp2_with fail
  refine (SameRecs_yes w6 a6 aE R c6 (c - Dn) XL3 (XL.drop Dn) HRR.out (HRA.out.dropS Dn c (by rw [HF.out.len]; exact hcapA) HaE.out) HLR.out (by rw [List.length_drop, HF.out.len]; omega) (by omega) Hmm.out).mono ?_
  rintro e w7 ⟨rfl, hB7⟩
  have hK7 := hK6.trans (Keep.ofBelow hB7 (fun k hk => HL6.out.lt (Hx4.out k (Hx3.out k hk))))
  have hL7 := HL6.out.below hB7
  have hR7 := HRR.out.below hB7
  have HL7 := Lib.hid hL7
  have HR7 := Lib.hid hR7
  have HE7 := Lib.hid (HE6.out.below hB7)
  clear haD haE hL7 hR7 hB7
  by_cases hn0 : n = 0
  · subst hn0
    go_wp2_with fail
    refine (awake4_any w7 HE7.out).mono ?_
    rintro e w8 ⟨rfl, hB8⟩
    go_wp2
    go_ret
    exact ⟨rfl, Hfin.out w7 hK7 w8 hB8⟩
  · have hLne : L ≠ [] := fun e => hn0 (by rw [← Hln.out, e]; rfl)
    have hRp : 0 < R := HT.out.pos hLne
    obtain ⟨Z, hZ⟩ : ∃ Z, n0 + n - 1 = Z := ⟨_, rfl⟩
    have hzl : al2.last = Z := by rw [HT.out.last hLne, Hln.out]; omega
    have hxn : ∀ k (hk : k < XL3.length), XL3[k].n = n0 + Dn + k := by
      intro k hk
      have h1 : (XL3.map XRec.rec4)[k]? = some (XL3[k].rec4) := by rw [List.getElem?_map, List.getElem?_eq_getElem hk]; rfl
      rw [HMR.out, HT.out.recs, numbered_drop, Hln.out, HDn.out] at h1
      exact numbered_at h1
    obtain ⟨Rm, hRm⟩ : ∃ Rm, R - 1 = Rm := ⟨_, rfl⟩
    obtain ⟨F0, hF0⟩ : ∃ F0, n0 + Dn = F0 := ⟨_, rfl⟩
    obtain ⟨bR, oR, rfl, x0, xa, xb⟩ := HR7.out.at 0 (by rw [HLR.out]; exact hRp)
    obtain ⟨bZ, oZ, e2, x1, xc, xd⟩ := HR7.out.at Rm (by rw [HLR.out]; omega)
    cases e2
    clear xa xb xc xd
    rw [hxn] at x0 x1
    rw [show n0 + Dn + 0 = F0 by omega, show oR + 0 * 2 = oR by omega] at x0
    rw [show n0 + Dn + Rm = Z by omega] at x1
    have hle : ¬ R = n → F0 ≤ below := fun hne => by have := HT.out.fst (by rw [Hln.out]; exact hne); rw [Hln.out] at this; omega
    have hRI : (R : Int) - 1 = (Rm : Int) := by omega
    have hwr3 : IntKind.i64.wrap (Rm : Int) = (Rm : Int) := IntWalk.i64_in _ (by omega)
    have hR0 : (0 : Int) ≤ (Rm : Int) := by omega
    have hR1 : (Rm : Int) < (R : Int) := by omega
    have hR2 : (0 : Int) < (R : Int) := by omega
    have hnz : ((n : Int) == 0) = false := by rw [beq_eq_false_iff_ne]; omega
    have HZ := Lib.hid hzl
    have hLd := HL7.out.below ((Below.refl w7.heap.size w7).drew)
    have hEd := HE7.out.below ((Below.refl w7.heap.size w7).drew)
    have hfinD : ∀ wY, Below w7.drew.heap.size w7.drew wY → Below w.heap.size w wY := fun wY hY => Hfin.out w7 hK7 wY (((Below.refl w7.heap.size w7).drew).trans hY)
    have HfinD := Lib.hid hfinD
    clear hfinD hzl hZ hF0 hRm hxn hLne hn0
    by_cases hRn : R = n
    · have hb : ((R : Int) == (n : Int)) = true := by rw [hRn]; simp
      clear hle hRn hnd hgt2 hRl
      go_wp2_with fail
      -- @R14@
      refine wp_region_held_drew (S := fun w' => w'.cell? ⟨bR, oR, none⟩ = some (.int .i64 (F0 : Int)) ∧ w'.cell? ⟨bR, oR + Rm * 2, none⟩ = some (.int .i64 (Z : Int))) (by kernel_rfl) ⟨x0, x1⟩ (fun hHeld => ?_)
      refine wpAnyH_take (i := 0) (v := ?_) rfl (by kernel_rfl) (by kernel_rfl) (by kernel_rfl) (fun _ _ _ h => h) (Or.inl ⟨by rfl, ?_⟩) (by assumption) ?_
      rotate_left
      · (intro wz hSz; obtain ⟨b0, b1⟩ := hSz; go_simp) <;> with_reducible rfl
      simp only [Act.put, List.getElem_toArray, List.getElem_cons_zero, List.getElem_cons_succ, List.setIfInBounds_toArray, List.set_cons_zero, List.set_cons_succ]
      refine wpAnyH_take (i := 1) (v := ?_) rfl (by kernel_rfl) (by kernel_rfl) (by kernel_rfl) (fun _ _ _ h => h) (Or.inl ⟨by rfl, ?_⟩) (by assumption) ?_
      rotate_left
      · (intro wz hSz; obtain ⟨b0, b1⟩ := hSz; go_simp) <;> with_reducible rfl
      simp only [Act.put, List.getElem_toArray, List.getElem_cons_zero, List.getElem_cons_succ, List.setIfInBounds_toArray, List.set_cons_zero, List.set_cons_succ]
      refine wpAnyH_take (i := 2) (v := ?_) rfl (by kernel_rfl) (by kernel_rfl) (by kernel_rfl) (fun _ _ _ h => h) (Or.inl ⟨by rfl, ?_⟩) (by assumption) ?_
      rotate_left
      · (intro wz hSz; obtain ⟨b0, b1⟩ := hSz; go_simp) <;> with_reducible rfl
      simp only [Act.put, List.getElem_toArray, List.getElem_cons_zero, List.getElem_cons_succ, List.setIfInBounds_toArray, List.set_cons_zero, List.set_cons_succ]
      refine wpAnyH_take (i := 3) (v := ?_) rfl (by kernel_rfl) (by kernel_rfl) (by kernel_rfl) (fun _ _ _ h => h) (Or.inl ⟨by rfl, ?_⟩) (by assumption) ?_
      rotate_left
      · (intro wz hSz; obtain ⟨b0, b1⟩ := hSz; go_simp) <;> with_reducible rfl
      simp only [Act.put, List.getElem_toArray, List.getElem_cons_zero, List.getElem_cons_succ, List.setIfInBounds_toArray, List.set_cons_zero, List.set_cons_succ]
      refine wpAnyH_take (i := 4) (v := ?_) rfl (by kernel_rfl) (by kernel_rfl) (by kernel_rfl) (fun _ _ _ h => h) (Or.inl ⟨by rfl, ?_⟩) (by assumption) ?_
      rotate_left
      · (intro wz hSz; obtain ⟨b0, b1⟩ := hSz; go_simp) <;> with_reducible rfl
      simp only [Act.put, List.getElem_toArray, List.getElem_cons_zero, List.getElem_cons_succ, List.setIfInBounds_toArray, List.set_cons_zero, List.set_cons_succ]
      refine wpAnyH_take (i := 5) (v := ?_) rfl (by kernel_rfl) (by kernel_rfl) (by kernel_rfl) (fun _ _ _ h => h) (Or.inl ⟨by rfl, ?_⟩) (by assumption) ?_
      rotate_left
      · (intro wz hSz; obtain ⟨b0, b1⟩ := hSz; go_simp) <;> with_reducible rfl
      simp only [Act.put, List.getElem_toArray, List.getElem_cons_zero, List.getElem_cons_succ, List.setIfInBounds_toArray, List.set_cons_zero, List.set_cons_succ]
      refine wpAnyH_take (i := 6) (v := ?_) rfl (by kernel_rfl) (by kernel_rfl) (by kernel_rfl) (fun _ _ _ h => h) (Or.inl ⟨by rfl, ?_⟩) (by assumption) ?_
      rotate_left
      · (intro wz hSz; obtain ⟨b0, b1⟩ := hSz; go_simp) <;> with_reducible rfl
      simp only [Act.put, List.getElem_toArray, List.getElem_cons_zero, List.getElem_cons_succ, List.setIfInBounds_toArray, List.set_cons_zero, List.set_cons_succ]
      refine wpAnyH_take (i := 7) (v := ?_) rfl (by kernel_rfl) (by kernel_rfl) (by kernel_rfl) (fun _ _ _ h => h) (Or.inl ⟨by rfl, ?_⟩) (by assumption) ?_
      rotate_left
      · (intro wz hSz; obtain ⟨b0, b1⟩ := hSz; go_simp) <;> with_reducible rfl
      simp only [Act.put, List.getElem_toArray, List.getElem_cons_zero, List.getElem_cons_succ, List.setIfInBounds_toArray, List.set_cons_zero, List.set_cons_succ]
      refine wpAnyH_take (i := 8) (v := ?_) rfl (by kernel_rfl) (by kernel_rfl) (by kernel_rfl) (fun _ _ _ h => h) (Or.inl ⟨by rfl, ?_⟩) (by assumption) ?_
      rotate_left
      · (intro wz hSz; obtain ⟨b0, b1⟩ := hSz; go_simp) <;> with_reducible rfl
      simp only [Act.put, List.getElem_toArray, List.getElem_cons_zero, List.getElem_cons_succ, List.setIfInBounds_toArray, List.set_cons_zero, List.set_cons_succ]
      refine wpAnyH_take (i := 9) (v := ?_) rfl (by kernel_rfl) (by kernel_rfl) (by kernel_rfl) (fun _ _ _ h => h) (Or.inl ⟨by rfl, ?_⟩) (by assumption) ?_
      rotate_left
      · (intro wz hSz; obtain ⟨b0, b1⟩ := hSz; go_simp) <;> with_reducible rfl
      simp only [Act.put, List.getElem_toArray, List.getElem_cons_zero, List.getElem_cons_succ, List.setIfInBounds_toArray, List.set_cons_zero, List.set_cons_succ]
      refine wpAnyH_take (i := 10) (v := undef) rfl (by kernel_rfl) (by kernel_rfl) (by kernel_rfl) (fun _ _ _ h => h) (Or.inr ⟨by rfl, rfl⟩) (by assumption) ?_
      simp only [Act.put, List.getElem_toArray, List.getElem_cons_zero, List.getElem_cons_succ, List.setIfInBounds_toArray, List.set_cons_zero, List.set_cons_succ]
      refine wpAnyH_take (i := 11) (v := undef) rfl (by kernel_rfl) (by kernel_rfl) (by kernel_rfl) (fun _ _ _ h => h) (Or.inr ⟨by rfl, rfl⟩) (by assumption) ?_
      simp only [Act.put, List.getElem_toArray, List.getElem_cons_zero, List.getElem_cons_succ, List.setIfInBounds_toArray, List.set_cons_zero, List.set_cons_succ]
      refine wpAnyH_take (i := 12) (v := undef) rfl (by kernel_rfl) (by kernel_rfl) (by kernel_rfl) (fun _ _ _ h => h) (Or.inr ⟨by rfl, rfl⟩) (by assumption) ?_
      simp only [Act.put, List.getElem_toArray, List.getElem_cons_zero, List.getElem_cons_succ, List.setIfInBounds_toArray, List.set_cons_zero, List.set_cons_succ]
      refine wpAnyH_take (i := 13) (v := undef) rfl (by kernel_rfl) (by kernel_rfl) (by kernel_rfl) (fun _ _ _ h => h) (Or.inr ⟨by rfl, rfl⟩) (by assumption) ?_
      simp only [Act.put, List.getElem_toArray, List.getElem_cons_zero, List.getElem_cons_succ, List.setIfInBounds_toArray, List.set_cons_zero, List.set_cons_succ]
      refine wpAnyH_take (i := 14) (v := undef) rfl (by kernel_rfl) (by kernel_rfl) (by kernel_rfl) (fun _ _ _ h => h) (Or.inr ⟨by rfl, rfl⟩) (by assumption) ?_
      simp only [Act.put, List.getElem_toArray, List.getElem_cons_zero, List.getElem_cons_succ, List.setIfInBounds_toArray, List.set_cons_zero, List.set_cons_succ]
      refine wpAnyH_take (i := 15) (v := undef) rfl (by kernel_rfl) (by kernel_rfl) (by kernel_rfl) (fun _ _ _ h => h) (Or.inr ⟨by rfl, rfl⟩) (by assumption) ?_
      simp only [Act.put, List.getElem_toArray, List.getElem_cons_zero, List.getElem_cons_succ, List.setIfInBounds_toArray, List.set_cons_zero, List.set_cons_succ]
      refine wpAnyH_take (i := 16) (v := undef) rfl (by kernel_rfl) (by kernel_rfl) (by kernel_rfl) (fun _ _ _ h => h) (Or.inr ⟨by rfl, rfl⟩) (by assumption) ?_
      simp only [Act.put, List.getElem_toArray, List.getElem_cons_zero, List.getElem_cons_succ, List.setIfInBounds_toArray, List.set_cons_zero, List.set_cons_succ]
      refine wpAnyH_take (i := 17) (v := ?_) rfl (by kernel_rfl) (by kernel_rfl) (by kernel_rfl) (fun _ _ _ h => h) (Or.inl ⟨by rfl, ?_⟩) (by assumption) ?_
      rotate_left
      · (intro wz hSz; obtain ⟨b0, b1⟩ := hSz; go_simp) <;> with_reducible rfl
      simp only [Act.put, List.getElem_toArray, List.getElem_cons_zero, List.getElem_cons_succ, List.setIfInBounds_toArray, List.set_cons_zero, List.set_cons_succ]
      refine wpAnyH_take (i := 18) (v := ?_) rfl (by kernel_rfl) (by kernel_rfl) (by kernel_rfl) (fun _ _ _ h => h) (Or.inl ⟨by rfl, ?_⟩) (by assumption) ?_
      rotate_left
      · (intro wz hSz; obtain ⟨b0, b1⟩ := hSz; go_simp) <;> with_reducible rfl
      simp only [Act.put, List.getElem_toArray, List.getElem_cons_zero, List.getElem_cons_succ, List.setIfInBounds_toArray, List.set_cons_zero, List.set_cons_succ]
      refine wpAnyH_take (i := 19) (v := ?_) rfl (by kernel_rfl) (by kernel_rfl) (by kernel_rfl) (fun _ _ _ h => h) (Or.inl ⟨by rfl, ?_⟩) (by assumption) ?_
      rotate_left
      · (intro wz hSz; obtain ⟨b0, b1⟩ := hSz; go_simp) <;> with_reducible rfl
      simp only [Act.put, List.getElem_toArray, List.getElem_cons_zero, List.getElem_cons_succ, List.setIfInBounds_toArray, List.set_cons_zero, List.set_cons_succ]
      refine wpAnyH_take (i := 20) (v := ?_) rfl (by kernel_rfl) (by kernel_rfl) (by kernel_rfl) (fun _ _ _ h => h) (Or.inl ⟨by rfl, ?_⟩) (by assumption) ?_
      rotate_left
      · (intro wz hSz; obtain ⟨b0, b1⟩ := hSz; go_simp) <;> with_reducible rfl
      simp only [Act.put, List.getElem_toArray, List.getElem_cons_zero, List.getElem_cons_succ, List.setIfInBounds_toArray, List.set_cons_zero, List.set_cons_succ]
      refine wpAnyH_take (i := 21) (v := ?_) rfl (by kernel_rfl) (by kernel_rfl) (by kernel_rfl) (fun _ _ _ h => h) (Or.inl ⟨by rfl, ?_⟩) (by assumption) ?_
      rotate_left
      · (intro wz hSz; obtain ⟨b0, b1⟩ := hSz; go_simp) <;> with_reducible rfl
      simp only [Act.put, List.getElem_toArray, List.getElem_cons_zero, List.getElem_cons_succ, List.setIfInBounds_toArray, List.set_cons_zero, List.set_cons_succ]
      refine wpAnyH_take (i := 22) (v := ?_) rfl (by kernel_rfl) (by kernel_rfl) (by kernel_rfl) (fun _ _ _ h => h) (Or.inl ⟨by rfl, ?_⟩) (by assumption) ?_
      rotate_left
      · (intro wz hSz; obtain ⟨b0, b1⟩ := hSz; go_simp) <;> with_reducible rfl
      simp only [Act.put, List.getElem_toArray, List.getElem_cons_zero, List.getElem_cons_succ, List.setIfInBounds_toArray, List.set_cons_zero, List.set_cons_succ]
      refine wpAnyH_take (i := 23) (v := ?_) rfl (by kernel_rfl) (by kernel_rfl) (by kernel_rfl) (fun _ _ _ h => h) (Or.inl ⟨by rfl, ?_⟩) (by assumption) ?_
      rotate_left
      · (intro wz hSz; obtain ⟨b0, b1⟩ := hSz; go_simp) <;> with_reducible rfl
      simp only [Act.put, List.getElem_toArray, List.getElem_cons_zero, List.getElem_cons_succ, List.setIfInBounds_toArray, List.set_cons_zero, List.set_cons_succ]
      refine wpAnyH_take (i := 24) (v := ?_) rfl (by kernel_rfl) (by kernel_rfl) (by kernel_rfl) (fun _ _ _ h => h) (Or.inl ⟨by rfl, ?_⟩) (by assumption) ?_
      rotate_left
      · (intro wz hSz; obtain ⟨b0, b1⟩ := hSz; go_simp) <;> with_reducible rfl
      simp only [Act.put, List.getElem_toArray, List.getElem_cons_zero, List.getElem_cons_succ, List.setIfInBounds_toArray, List.set_cons_zero, List.set_cons_succ]
      refine wpAnyH_take (i := 25) (v := ?_) rfl (by kernel_rfl) (by kernel_rfl) (by kernel_rfl) (fun _ _ _ h => h) (Or.inl ⟨by rfl, ?_⟩) (by assumption) ?_
      rotate_left
      · (intro wz hSz; obtain ⟨b0, b1⟩ := hSz; go_simp) <;> with_reducible rfl
      simp only [Act.put, List.getElem_toArray, List.getElem_cons_zero, List.getElem_cons_succ, List.setIfInBounds_toArray, List.set_cons_zero, List.set_cons_succ]
      refine wpAnyH_take (i := 26) (v := ?_) rfl (by kernel_rfl) (by kernel_rfl) (by kernel_rfl) (fun _ _ _ h => h) (Or.inl ⟨by rfl, ?_⟩) (by assumption) ?_
      rotate_left
      · (intro wz hSz; obtain ⟨b0, b1⟩ := hSz; go_simp) <;> with_reducible rfl
      simp only [Act.put, List.getElem_toArray, List.getElem_cons_zero, List.getElem_cons_succ, List.setIfInBounds_toArray, List.set_cons_zero, List.set_cons_succ]
      refine wpAnyH_take (i := 27) (v := ?_) rfl (by kernel_rfl) (by kernel_rfl) (by kernel_rfl) (fun _ _ _ h => h) (Or.inl ⟨by rfl, ?_⟩) (by assumption) ?_
      rotate_left
      · (intro wz hSz; obtain ⟨b0, b1⟩ := hSz; go_simp) <;> with_reducible rfl
      simp only [Act.put, List.getElem_toArray, List.getElem_cons_zero, List.getElem_cons_succ, List.setIfInBounds_toArray, List.set_cons_zero, List.set_cons_succ]
      refine wpAnyH_ready (rs := [28]) (by kernel_rfl) (by simp) (AllReadyH.cons rfl (fun K hK => ?_) AllReadyH.nil)
      go_simp
      refine (last_by Z hLd Hok2.out HZ.out).mono ?_
      rintro e wq ⟨rfl, rfl⟩
      refine hK.out _ _ ⟨x0, x1⟩ (fun hHeld => ?_)
      clear hK K
      refine wpAnyH_take (i := 29) (v := ?_) rfl (by kernel_rfl) (by kernel_rfl) (by kernel_rfl) (fun _ _ _ h => h) (Or.inl ⟨by rfl, ?_⟩) (by assumption) ?_
      rotate_left
      · (intro wz hSz; obtain ⟨b0, b1⟩ := hSz; go_simp) <;> with_reducible rfl
      simp only [Act.put, List.getElem_toArray, List.getElem_cons_zero, List.getElem_cons_succ, List.setIfInBounds_toArray, List.set_cons_zero, List.set_cons_succ]
      refine wpAnyH_take (i := 30) (v := ?_) rfl (by kernel_rfl) (by kernel_rfl) (by kernel_rfl) (fun _ _ _ h => h) (Or.inl ⟨by rfl, ?_⟩) (by assumption) ?_
      rotate_left
      · (intro wz hSz; obtain ⟨b0, b1⟩ := hSz; go_simp) <;> with_reducible rfl
      simp only [Act.put, List.getElem_toArray, List.getElem_cons_zero, List.getElem_cons_succ, List.setIfInBounds_toArray, List.set_cons_zero, List.set_cons_succ]
      refine wpAnyH_take (i := 31) (v := ?_) rfl (by kernel_rfl) (by kernel_rfl) (by kernel_rfl) (fun _ _ _ h => h) (Or.inl ⟨by rfl, ?_⟩) (by assumption) ?_
      rotate_left
      · (intro wz hSz; obtain ⟨b0, b1⟩ := hSz; go_simp) <;> with_reducible rfl
      simp only [Act.put, List.getElem_toArray, List.getElem_cons_zero, List.getElem_cons_succ, List.setIfInBounds_toArray, List.set_cons_zero, List.set_cons_succ]
      refine wpAnyH_ready (rs := [32]) (by kernel_rfl) (by simp) (AllReadyH.cons rfl (fun K hK => ?_) AllReadyH.nil)
      go_simp
      refine (awake4_any _ hEd).mono ?_
      rintro e w8 ⟨rfl, hB8⟩
      refine hK.out _ _ ⟨(hB8.cell (p := ⟨bR, oR, none⟩) (cell_lt x0)).trans x0, (hB8.cell (p := ⟨bR, oR + Rm * 2, none⟩) (cell_lt x1)).trans x1⟩ (fun hHeld => ?_)
      clear hK K
      refine wpAnyH_take (i := 33) (v := ?_) rfl (by kernel_rfl) (by kernel_rfl) (by kernel_rfl) (fun _ _ _ h => h) (Or.inl ⟨by rfl, ?_⟩) (by assumption) ?_
      rotate_left
      · (intro wz hSz; obtain ⟨b0, b1⟩ := hSz; go_simp) <;> with_reducible rfl
      simp only [Act.put, List.getElem_toArray, List.getElem_cons_zero, List.getElem_cons_succ, List.setIfInBounds_toArray, List.set_cons_zero, List.set_cons_succ]
      refine wpAnyH_take (i := 34) (v := ?_) rfl (by kernel_rfl) (by kernel_rfl) (by kernel_rfl) (fun _ _ _ h => h) (Or.inl ⟨by rfl, ?_⟩) (by assumption) ?_
      rotate_left
      · (intro wz hSz; obtain ⟨b0, b1⟩ := hSz; go_simp) <;> with_reducible rfl
      simp only [Act.put, List.getElem_toArray, List.getElem_cons_zero, List.getElem_cons_succ, List.setIfInBounds_toArray, List.set_cons_zero, List.set_cons_succ]
      refine wpAnyH_done (by kernel_rfl) ?_ _
      -- @END@
      go_wp2
      go_ret
      exact ⟨rfl, HfinD.out _ hB8⟩
    · have hb : ((R : Int) == (n : Int)) = false := by rw [beq_eq_false_iff_ne]; omega
      have hle2 := hle hRn
      have hwr4 : IntKind.i64.wrap (below : Int) = (below : Int) := IntWalk.i64_in _ (by omega)
      clear hle hnd hgt2 hRl
      go_wp2_with fail
      go_region_held3 (fun w' => w'.cell? ⟨bR, oR, none⟩ = some (.int .i64 (F0 : Int)) ∧ w'.cell? ⟨bR, oR + Rm * 2, none⟩ = some (.int .i64 (Z : Int))) (first | exact ⟨x0, x1⟩ | exact S8 | go_keep)
        (first
          | (go_at_call 21; ((with_reducible refine (last_by Z hLd Hok2.out HZ.out).mono ?_); rintro e wq ⟨rfl, rfl⟩))
          | (go_at_call 12; ((with_reducible refine (awake4_any _ hEd).mono ?_); rintro e w8 ⟨rfl, hB8⟩; have S8 := And.intro ((hB8.cell (p := ⟨bR, oR, none⟩) (cell_lt x0)).trans x0) ((hB8.cell (p := ⟨bR, oR + Rm * 2, none⟩) (cell_lt x1)).trans x1))))
      go_wp2
      go_ret
      exact ⟨rfl, HfinD.out _ hB8⟩
end Go.Proofs.YtbiadclmonakkaaGreatDoor
