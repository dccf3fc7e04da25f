/-
  WalBack: the walk.
-/
import Derived.Outline
import Derived.Test.YtbiadclmonakkaaGreatDoorMWmD
import Derived.Test.YtbiadclmonakkaaGreatDoorMWlA
namespace Go.Proofs.YtbiadclmonakkaaGreatDoor
open Go.RowKit Go.Maps Go.MapKept

set_option maxRecDepth 100000 in
set_option maxHeartbeats 16000000 in
theorem back4_law (w : World) (hE : WEnv w) (vr : Value) (rows : List (List UInt8)) (first : Nat) (size : Int) (hW : RowsAt w vr rows) (hf : first ≤ 65535) (hs : isI64 size) {vm : Value} (more : List UInt8) (hm : Rd w vm (bcells more)) (hml : more.length ≤ maxLen) :
    Calls Tryz.prog 6 #[.agg #[vr, .int .u16 first, .int .i64 size], vm] w fun e w' => e = .returned (.bool true) ∧ Below w.heap.size w w' := by
  obtain ⟨ar, cr, rfl⟩ := SliceOf.shape hW
  obtain ⟨am, cm, rfl⟩ := hm.shape
  rw [bcells_length] at hm ⊢
  simp only [maxLen] at hml
  obtain ⟨N, hN⟩ : ∃ N, rows.length = N := ⟨_, rfl⟩
  rw [hN] at hW ⊢
  have hB1 : Below w.heap.size w (w.alloc (.cells #[.slice ar N cr, .int .u16 first, .int .i64 size] 25)) := (Below.refl _ _).alloc (Nat.le_refl _) _
  have hbx := alloc_at w (.cells #[.slice ar N cr, .int .u16 first, .int .i64 size] 25)
  obtain ⟨w1, hw1⟩ : ∃ w1, w.alloc (.cells #[.slice ar N cr, .int .u16 first, .int .i64 size] 25) = w1 := ⟨_, rfl⟩
  rw [hw1] at hB1 hbx
  obtain ⟨x0, x1, x2, _⟩ := cells3 hbx
  have Hw1 := Lib.hid hw1
  obtain ⟨ex, hex⟩ : ∃ ex : Nat → Prop, ex = fun k => k < w1.heap.size := ⟨_, rfl⟩
  have hlt : ∀ k, ex k → k < w1.heap.size := fun k hk => by rw [hex] at hk; exact hk
  have hlow : ∀ k, k < w.heap.size → ex k := fun k hk => by rw [hex]; have := hB1.size; show k < w1.heap.size; omega
  have hG : GlIn ex := hE.lt.mono hlow
  have hE1 := hE.below hB1
  have hBu := built_any (ex := ex) (.slice ar N cr) rows first size hW hB1 hE1 hG hlt hlow hf hs
  obtain ⟨L, hL⟩ : ∃ L, builtL rows = L := ⟨_, rfl⟩
  obtain ⟨n0, hn0⟩ : ∃ n0, builtN first = n0 := ⟨_, rfl⟩
  obtain ⟨sz, hsz⟩ : ∃ n0, builtS size = n0 := ⟨_, rfl⟩
  have hL40 : L.length ≤ 40 := by rw [← hL]; exact builtL_le rows
  have hn01 : 1 ≤ n0 ∧ n0 ≤ 70000 := by rw [← hn0]; unfold builtN; omega
  have hszb : 64 ≤ sz ∧ sz ≤ 1000 := by rw [← hsz]; have := builtS_le size; omega
  unfold BuiltPost at hBu
  rw [hL, hn0, hsz] at hBu
  have HBu := Lib.hid hBu
  have Hex := Lib.hid hex
  have HE := Lib.hid hE
  have HE1 := Lib.hid hE1
  have Hlow := Lib.hid hlow
  have Hm := Lib.hid hm
  have HB1 := Lib.hid hB1
  clear hBu hex hE hE1 hL hn0 hsz hw1 hN hlt hm hbx
  have hfin : ∀ wX, Keep ex w1 wX → ∀ wY, Below wX.heap.size wX wY → Below w.heap.size w wY := fun wX hK wY hY =>
    HB1.out.trans ((hK.below (N := w1.heap.size) (fun k hk => by rw [Hex.out]; exact hk)).trans (hY.mono hK.size) |>.mono HB1.out.size)
  have Hfin := Lib.hid hfin
  clear hfin hB1
  go_enter Tryz.func6, Tryz.ntmps6
  go_wp2_with fail
  rw [Hw1.out]
  refine HBu.out.mono ?_
  rintro e w2 ⟨q, p, m, a, c, n, XL, d, al, ss, rfl, hK1, hF⟩
  have HF := Lib.hid hF
  have hE2 := HE1.out.keep hK1 hG
  have HE2 := Lib.hid hE2
  clear hF hE2
  by_cases hlong : 1000 < more.length
  · have hlb : (1000 : Int) < more.length := by omega
    go_wp2_with fail
    refine (awake4_any w2 HE2.out).mono ?_
    rintro e w3 ⟨rfl, hB3⟩
    go_wp2
    go_ret
    exact ⟨rfl, Hfin.out w2 hK1 w3 hB3⟩
  · have hlb : ¬ (1000 : Int) < more.length := by omega
    obtain ⟨d2, f2, d3, f3, R2, R3, hfs, O2, O3⟩ := back_plain HF.out.built
    have hln : L.length = n := by
      have := congrArg List.length HF.out.map
      rw [List.length_map, numbered_len, HF.out.len] at this
      exact this.symm
    have hr2 : f2.recs.length = n := by rw [R2.recs, HF.out.built.recs_len, hln]
    have hr3 : f3.recs.length = n := by rw [R3.recs, HF.out.built.recs_len, hln]
    obtain ⟨Z, hZ⟩ : ∃ Z, nextOf ss - 1 = Z := ⟨_, rfl⟩
    have hla : al.last = Z := by unfold ALog.last; rw [HF.out.built.j.next, hZ]
    have hl2 : (f2.log 64).last = Z := by rw [R2.last.1, hZ]
    have hl3 : (f3.log 64).last = Z := by rw [R3.last.1, hZ]
    have hs3 : (f3.log 64).synced = Z := by rw [R3.last.2, hZ]
    obtain ⟨F, hFr⟩ : ∃ F, al.first = F := ⟨_, rfl⟩
    have hF2 : (f2.log 64).first = F := by rw [← hFr, first_segs HF.out.built.j.segs, first_segs R2.j.segs]
    have hcnt := HF.out.built.count
    have hnx := HF.out.built.nextOf_le
    have hlo := HF.out.built.lenOf_le
    have hoka := HF.out.built.j.alOk (by rw [HF.out.built.sz]; omega) (by omega) (by omega) (by omega)
    have hok2 := R2.j.alOk (by show (64 : Int).toNat ≤ 16777216; decide) (by omega) (by omega) (by omega)
    have hok3 := R3.j.alOk (by show (64 : Int).toNat ≤ 16777216; decide) (by omega) (by omega) (by omega)
    have hn40 : n ≤ 40 := by omega
    have hd2c : d2.names.length ≤ 80 := by have := O2.len; have : d2.names.length = d2.fs.length := by simp [ADisk.names]
                                           omega
    have hnm : d3.names = d2.names := by unfold ADisk.names; rw [hfs]
    have hsz3 : sizesOf d3 d3.names = sizesOf d2 d2.names := by
      rw [hnm]
      unfold sizesOf afile
      rw [hfs]
    have hmap2 : XL.map XRec.rec4 = f2.recs := by rw [HF.out.map, R2.recs, HF.out.built.recs]
    have hmap3 : XL.map XRec.rec4 = f3.recs := by rw [HF.out.map, R3.recs, HF.out.built.recs]
    have hmore : n ≠ 0 → ∃ d' al', wAppend d3 (f3.log 64) ((Z + 1 : Nat) : Int) more = (d', al', 0) ∧ wAppend d3 (f3.log 64) (Z : Nat) more = (d3, f3.log 64, 18) ∧ wAppend d3 (f3.log 64) ((Z + 2 : Nat) : Int) more = (d3, f3.log 64, 18) ∧ al'.last = Z + 1 ∧ (al'.Ok ∧ al'.segs.length ≤ 500) ∧ 1 ≤ Z ∧ Z ≤ 100000 := by
      intro h0
      have hLn : L ≠ [] := fun e => h0 (by rw [← hln, e]; rfl)
      have hnx2 := HF.out.built.next hLn
      obtain ⟨d', al', ss', e1, e2, e3, e4, e5, e6⟩ := O3.more hL40 hnx2 hn01.1 hn01.2 (by omega) (by omega) more (by omega)
      have hZ1 : Z + 1 = n0 + L.length := by omega
      rw [← hZ1] at e1
      refine ⟨d', al', e1, R3.j.seq Z more (by omega) (by omega) (by omega) (by omega) (by omega), R3.j.seq (Z + 2) more (by omega) (by omega) (by omega) (by omega) (by omega), ?_, e2.alOk (by rw [e3]; show (64 : Int).toNat ≤ 16777216; decide) (by omega) (by omega) (by omega), by omega, by omega⟩
      unfold ALog.last
      rw [e2.next, e4]; omega
    have P1 := Lib.hid R2
    have P2 := Lib.hid R3
    have Q1 := Lib.hid (And.intro hr2 hr3)
    have Q2 := Lib.hid (And.intro hla (And.intro hl2 (And.intro hl3 (And.intro hs3 (And.intro hFr hF2)))))
    have Q3 := Lib.hid (And.intro hoka (And.intro hok2 hok3))
    have Q4 := Lib.hid (And.intro hnm hsz3)
    have Q5 := Lib.hid (And.intro hmap2 hmap3)
    have Q6 := Lib.hid hmore
    obtain ⟨K, hK⟩ : ∃ K, d2.names.length * 2 = K := ⟨_, rfl⟩
    have HK := Lib.hid hK
    have hK80 : K ≤ 160 := by omega
    clear hfs O2 O3 hln hr2 hr3 hZ hla hl2 hl3 hs3 hFr hF2 hoka hok2 hok3 hnm hsz3 hmap2 hmap3 hmore R2 R3 hK
    obtain ⟨v, hv⟩ := HF.out.log
    have hGA : GlIn (fun k => ex k ∨ (Value.slice a n c).ownBlock = some k) := hG.mono (fun _ hk => Or.inl hk)
    have Hv := Lib.hid hv
    clear hv
    go_wp2_with fail
    refine (open_by 64 Hv.out.disk HE2.out (hGA.mono (fun _ hk => Or.inl hk)) P1.out.eq Q1.out.1).mono ?_
    rintro e w3 ⟨k3, q2, a2, c2, XL2, rfl, hO2⟩
    have hv3 := (Hv.out.disk_turned (hO2.log.disk.mono (fun _ hk => Or.inl hk)) k3)
    have Hv3 := Lib.hid hv3.1
    have hK3 : Keep ex w1 w3 := hK1.trans (hv3.2.mono (fun _ hk => Or.inl hk))
    obtain ⟨v2, hv2⟩ := hO2.log
    have Hv2 := Lib.hid hv2
    have hrd2 := hO2.rd Q1.out.1
    have hmp2 := hO2.map
    have Hrd2 := Lib.hid hrd2
    have Hmp2 := Lib.hid hmp2
    have hallr := k3.row HF.out.row (fun g hg => Or.inl (Or.inr hg))
    have Hall := Lib.hid hallr
    have HE3 := Lib.hid (HE2.out.keep k3 (hGA.mono (fun _ hk => Or.inl hk)))
    clear hO2 hv3 hv2 hrd2 hmp2 hallr k3
    go_wp2_with fail
    refine (sizes4_any Hv2.out.disk K HK.out).mono ?_
    unfold IntsPost
    rintro e w4 ⟨a4, c4, rfl, row4, hB4⟩
    have Row4 := Lib.hid row4
    clear row4
    go_wp2_with fail
    refine (List_at (Hv2.out.disk.below hB4)).mono ?_
    obtain ⟨M, hM⟩ : ∃ M, d2.names.length = M := ⟨_, rfl⟩
    rw [hM]
    have HM := Lib.hid hM
    clear hM
    rintro e w5 ⟨a5, c5, rfl, row5, _, hB5⟩
    have Row5 := Lib.hid row5
    have hB35 := hB4.trans (hB5.mono hB4.size)
    have row45 := ((Upd.refl noFp w4).thenBelow hB5 (Nat.le_refl _)).row Row4.out (fun _ _ h => h)
    have Row45 := Lib.hid row45
    have HB35 := Lib.hid hB35
    have HE5 := Lib.hid (HE3.out.below hB35)
    have hs4 := hB4.size
    have hs5 := hB5.size
    obtain ⟨exE, hexE⟩ : ∃ exE : Nat → Prop, exE = fun k => (((((ex k ∨ (Value.slice a n c).ownBlock = some k) ∨ k = q ∨ v.ownBlock = some k) ∨ RBlk (Value.slice a2 n c2) XL2 k) ∨ k = q2 ∨ v2.ownBlock = some k) ∨ (w3.heap.size ≤ k ∧ k < w5.heap.size)) := ⟨_, rfl⟩
    have hD5 : DiskAt exE w5 p m d2 := Hv2.out.disk.more hB35 (fun k hk => by rw [hexE] at hk; exact hk)
    have hGE : GlIn exE := hG.mono (fun k hk => by rw [hexE]; exact Or.inl (Or.inl (Or.inl (Or.inl (Or.inl hk)))))
    have HexE := Lib.hid hexE
    clear row5 row45 hB35 hB4 hB5 hexE
    go_wp2_with fail
    refine (open_by 64 hD5 HE5.out hGE P2.out.eq Q1.out.2).mono ?_
    rintro e w6 ⟨k6, q3, a6, c6, XL3, rfl, hO3⟩
    -- all that stands, in w6
    have hE1x : ∀ k, ((ex k ∨ (Value.slice a n c).ownBlock = some k) ∨ k = q ∨ v.ownBlock = some k) → exE k := fun k hk => by rw [HexE.out]; exact Or.inl (Or.inl (Or.inl hk))
    have hE2x : ∀ k, ((((ex k ∨ (Value.slice a n c).ownBlock = some k) ∨ k = q ∨ v.ownBlock = some k) ∨ RBlk (Value.slice a2 n c2) XL2 k) ∨ k = q2 ∨ v2.ownBlock = some k) → exE k := fun k hk => by rw [HexE.out]; exact Or.inl hk
    have hE3x : ∀ k, w3.heap.size ≤ k ∧ k < w5.heap.size → exE k := fun k hk => by rw [HexE.out]; exact Or.inr hk
    have hD6 := hO3.log.disk.mono (ex' := exE) (fun _ hk => Or.inl hk)
    have hl6 := ((Hv3.out.below HB35.out).disk_turned (hD6.mono hE1x) (k6.mono hE1x))
    have hm6 := ((Hv2.out.below HB35.out).disk_turned (hD6.mono hE2x) (k6.mono hE2x)).1
    have hK35 : Keep ex w3 w5 := Keep.ofBelow HB35.out (fun k hk => Hv3.out.lt (Or.inl hk))
    have hK6 : Keep ex w1 w6 := (hK3.trans hK35).trans (k6.mono (fun k hk => hE1x k (Or.inl (Or.inl hk))))
    have hrd6a := ((Hrd2.out.below HB35.out).keep (n := n) (c := c2) k6 (fun g hg => hE2x g (Or.inl (Or.inr hg))))
    have hrd6b := hO3.rd Q1.out.2
    have hmp3 := hO3.map
    have hB06 : Below w.heap.size w w6 := Hfin.out w6 hK6 w6 (Below.refl _ _)
    have hrow6 := k6.row (((Upd.refl noFp w3).thenBelow HB35.out (Nat.le_refl _)).row Hall.out (fun _ _ h => h)) (fun g hg => hE1x g (Or.inl (Or.inr hg)))
    have hrd6c : RecRd w6 a XL := RecRd.ofOwns hrow6 HF.out.len.symm (fun x hx => (HF.out.low x hx).keepLow hB06)
    have hrw4 := k6.row Row45.out (fun g hg => hE3x g ⟨row_from Row45.out hg, row_lt Row45.out hg⟩)
    have hrw5 := k6.row Row5.out (fun g hg => hE3x g ⟨by have := row_from Row5.out hg; omega, row_lt Row5.out hg⟩)
    have HE6 := Lib.hid (HE5.out.keep k6 hGE)
    have hlk := hO3.log.mono (ex' := ex) (fun k hk => Or.inl (hE1x k (Or.inl (Or.inl hk))))
    have HLk := Lib.hid hlk
    have HL6 := Lib.hid hl6.1
    have HM6 := Lib.hid hm6
    have HA6 := Lib.hid hrd6a
    have HB6 := Lib.hid hrd6b
    have HC6 := Lib.hid hrd6c
    have HMp3 := Lib.hid hmp3
    have Hr4 := Lib.hid hrw4
    have Hr5 := Lib.hid hrw5
    have HD6 := Lib.hid hD6
    clear hO3 hD6 hl6 hm6 hK35 hrd6a hrd6b hmp3 hrow6 hrd6c hrw4 hrw5 hlk hE1x hE2x hE3x k6 hB06 hs4 hs5
    have hlen2 : XL2.length = n := by have := congrArg List.length Hmp2.out; rw [List.length_map, Q1.out.1] at this; exact this
    have hlen3 : XL3.length = n := by have := congrArg List.length HMp3.out; rw [List.length_map, Q1.out.2] at this; exact this
    have Hlen := Lib.hid (And.intro hlen2 hlen3)
    clear hlen2 hlen3
    go_wp2_with fail
    refine (SameRecs_yes w6 a2 a n c2 c XL2 XL HA6.out HC6.out Hlen.out.1 HF.out.len (by omega) (by rw [Hmp2.out, Q5.out.1])).mono ?_
    rintro e w7 ⟨rfl, hB7⟩
    go_wp2_with fail
    refine (SameRecs_yes w7 a6 a n c6 c XL3 XL (HB6.out.below hB7) (HC6.out.below hB7) Hlen.out.2 HF.out.len (by omega) (by rw [HMp3.out, Q5.out.2])).mono ?_
    rintro e w8 ⟨rfl, hB8⟩
    have hB68 := hB7.trans (hB8.mono hB7.size)
    go_wp2_with fail
    refine (sizes4_any (HD6.out.below hB68) K (by rw [Q4.out.1]; exact HK.out)).mono ?_
    unfold IntsPost
    rw [Q4.out.2]
    rintro e w9 ⟨a9, c9, rfl, row9, hB9⟩
    have hB69 := hB68.trans (hB9.mono hB68.size)
    have Row9 := Lib.hid row9
    clear row9 hB7 hB8 hB68
    go_wp2_with fail
    refine (sameInts4_yes w9 a9 a4 K c9 c4 (sizesOf d2 d2.names) (Rd.ofOwns Row9.out) ((Rd.ofOwns Hr4.out).below hB69) (by rw [sizesOf_len]; exact HK.out) (by omega)).mono ?_
    rintro e w10 ⟨rfl, hB10⟩
    have hB610 := hB69.trans (hB10.mono hB69.size)
    clear hB9 hB69
    go_wp2_with fail
    refine (List_at (HD6.out.below hB610)).mono ?_
    rw [Q4.out.1, HM.out]
    rintro e w11 ⟨a11, c11, rfl, row11, _, hB11⟩
    have hB611 := hB610.trans (hB11.mono hB610.size)
    have Row11 := Lib.hid row11
    clear row11 hB10 hB610 hB11
    have hM80 : d2.names.length ≤ 80 := hd2c
    go_wp2_with fail
    refine (SameTexts_any _ _ _ _ _ (Rd.ofOwns Row11.out) ((Rd.ofOwns Hr5.out).below hB611) (by simp only [maxLen]; omega) (by simp only [maxLen]; omega)).mono ?_
    rw [show decide (d2.names = d2.names) = true by simp]
    rintro e w12 ⟨rfl, hB12⟩
    have hB612 := hB611.trans (hB12.mono hB611.size)
    clear hB611 hB12
    have hzz : ((Z : Int) != (Z : Int)) = false := by simp
    have hff : ((F : Int) != (F : Int)) = false := by simp
    go_wp2_with fail
    refine (last_by Z (⟨_, HM6.out.below hB612⟩ : LogAt _ _ _ _ _ _ _) Q3.out.2.1 Q2.out.2.1).mono ?_
    rintro e w' ⟨rfl, rfl⟩
    go_wp2_with fail
    refine (last_by Z (⟨_, HL6.out.below hB612⟩ : LogAt _ _ _ _ _ _ _) Q3.out.1 Q2.out.1).mono ?_
    rintro e w' ⟨rfl, rfl⟩
    go_wp2_with fail
    refine (synced_by Z (HLk.out.below hB612) Q2.out.2.2.2.1).mono ?_
    rintro e w' ⟨rfl, rfl⟩
    go_wp2_with fail
    refine (last_by Z (⟨_, HL6.out.below hB612⟩ : LogAt _ _ _ _ _ _ _) Q3.out.1 Q2.out.1).mono ?_
    rintro e w' ⟨rfl, rfl⟩
    go_wp2_with fail
    refine (first_by F (⟨_, HM6.out.below hB612⟩ : LogAt _ _ _ _ _ _ _) Q2.out.2.2.2.2.2).mono ?_
    rintro e w' ⟨rfl, rfl⟩
    go_wp2_with fail
    refine (first_by F (⟨_, HL6.out.below hB612⟩ : LogAt _ _ _ _ _ _ _) Q2.out.2.2.2.2.1).mono ?_
    rintro e w' ⟨rfl, rfl⟩
    have hk12 := HLk.out.below hB612
    have hE12 := HE6.out.below hB612
    have hK12 : Keep ex w1 w12 := hK6.trans (Keep.ofBelow hB612 (fun k hk => HLk.out.lt hk))
    have HE12 := Lib.hid hE12
    clear hE12
    by_cases hn0' : n = 0
    · subst hn0'
      go_wp2_with fail
      refine (awake4_any w12 HE12.out).mono ?_
      rintro e w13 ⟨rfl, hB13⟩
      go_wp2
      go_ret
      exact ⟨rfl, Hfin.out w12 hK12 w13 hB13⟩
    · obtain ⟨d4, al4, m1, m2, m3, m4, m5, m6, m7⟩ := Q6.out hn0'
      have hnz : ((n : Int) == 0) = false := by rw [beq_eq_false_iff_ne]; omega
      have T1 := Lib.hid (And.intro m1 (And.intro m2 (And.intro m3 (And.intro m4 m5))))
      have hmo : ∀ wX, Keep ex w1 wX → Rd wX (.slice am more.length cm) (bcells more) := fun wX hX => Hm.out.keepLow (Hfin.out wX hX wX (Below.refl _ _))
      have Hmo := Lib.hid hmo
      have hwk1 : IntKind.i64.wrap ((Z : Int) + 1) = (Z : Int) + 1 := IntWalk.i64_in _ (by omega)
      clear m1 m2 m3 m4 m5 hn0' hmo hB612
      go_wp2_with fail
      refine (last_by Z hk12 Q3.out.2.2 Q2.out.2.2.1).mono ?_
      rintro e w' ⟨rfl, rfl⟩
      go_wp2_with fail
      refine (append_low (Z : Nat) _ more 18 hk12 HE12.out hG Q3.out.2.2 (by unfold isI64; omega) (fun w' hw' => Hmo.out w' (hK12.trans hw')) (by omega) T1.out.2.1).mono ?_
      rintro e w13 ⟨rfl, hk13, k13⟩
      have hK13 := hK12.trans k13
      go_wp2_with fail
      refine (append_low ((Z + 2 : Nat) : Int) _ more 18 hk13 (HE1.out.keep hK13 hG) hG Q3.out.2.2 (by unfold isI64; omega) (fun w' hw' => Hmo.out w' (hK13.trans hw')) (by omega) T1.out.2.2.1).mono ?_
      rintro e w14 ⟨rfl, hk14, k14⟩
      have hK14 := hK13.trans k14
      go_wp2_with fail
      refine (append_low ((Z + 1 : Nat) : Int) _ more 0 hk14 (HE1.out.keep hK14 hG) hG Q3.out.2.2 (by unfold isI64; omega) (fun w' hw' => Hmo.out w' (hK14.trans hw')) (by omega) T1.out.1).mono ?_
      rintro e w15 ⟨rfl, hk15, k15⟩
      have hK15 := hK14.trans k15
      go_wp2_with fail
      refine (last_by (Z + 1) hk15 T1.out.2.2.2.2 T1.out.2.2.2.1).mono ?_
      rintro e w' ⟨rfl, rfl⟩
      have hz1 : (((Z + 1 : Nat) : Int) == (Z : Int) + 1) = true := by simp
      go_wp2_with fail
      refine (awake4_any w15 (HE1.out.keep hK15 hG)).mono ?_
      rintro e w16 ⟨rfl, hB16⟩
      go_wp2
      go_ret
      exact ⟨rfl, Hfin.out w15 hK15 w16 hB16⟩
end Go.Proofs.YtbiadclmonakkaaGreatDoor
