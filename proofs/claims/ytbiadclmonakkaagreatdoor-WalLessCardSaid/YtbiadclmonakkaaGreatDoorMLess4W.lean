/-
  WalLess: the walk.
-/
import Derived.Outline
import Derived.Test.YtbiadclmonakkaaGreatDoorMWam24
import Derived.Test.YtbiadclmonakkaaGreatDoorMWmD
import Derived.Test.YtbiadclmonakkaaGreatDoorMWal16
namespace Go.Proofs.YtbiadclmonakkaaGreatDoor
open Go.RowKit Go.Maps Go.MapKept

set_option maxRecDepth 100000 in
set_option maxHeartbeats 16000000 in
theorem less4_law (w : World) (hE : WEnv w) (vr : Value) (rows : List (List UInt8)) (first : Nat) (size : Int) (hW : RowsAt w vr rows) (hf : first ≤ 65535) (hs : isI64 size) (one : Int) (_w1 : (Lit.int .i64 one).wf = true) (two : Int) (_w2 : (Lit.int .i64 two).wf = true) :
    Calls Tryz.prog 3 #[.agg #[vr, .int .u16 first, .int .i64 size], .int .i64 one, .int .i64 two] w fun e w' => e = .returned (.bool true) ∧ Below w.heap.size w w' := by
  obtain ⟨ar, cr, rfl⟩ := SliceOf.shape hW
  obtain ⟨N, hN⟩ : ∃ N, rows.length = N := ⟨_, rfl⟩
  rw [hN] at hW ⊢
  have hB1 : Below w.heap.size w (w.alloc (.cells #[.slice ar N cr, .int .u16 first, .int .i64 size] 25)) := (Below.refl _ _).alloc (Nat.le_refl _) _
  have hbx := alloc_at w (.cells #[.slice ar N cr, .int .u16 first, .int .i64 size] 25)
  obtain ⟨w1, hw1⟩ : ∃ w1, w.alloc (.cells #[.slice ar N cr, .int .u16 first, .int .i64 size] 25) = w1 := ⟨_, rfl⟩
  rw [hw1] at hB1 hbx
  obtain ⟨x0, x1, x2, _⟩ := cells3 hbx
  have hbxl := blk_lt hbx
  have Hw1 := Lib.hid hw1
  obtain ⟨ex, hex⟩ : ∃ ex : Nat → Prop, ex = fun k => k < w1.heap.size := ⟨_, rfl⟩
  have hlt : ∀ k, ex k → k < w1.heap.size := fun k hk => by rw [hex] at hk; exact hk
  have hlow : ∀ k, k < w.heap.size → ex k := fun k hk => by rw [hex]; have := hB1.size; show k < w1.heap.size; omega
  have hG : GlIn ex := hE.lt.mono hlow
  have hE1 := hE.below hB1
  have hBu := built2_any (ex := ex) (.slice ar N cr) rows first size hW hB1 hE1 hG hlt hlow hf hs
  have hBu2 := fun (wX : World) (hX : Below w1.heap.size w1 wX) => built2_any (ex := fun k => k < wX.heap.size) (.slice ar N cr) rows first size hW (hB1.trans (hX.mono hB1.size)) (hE1.below hX) (hE.lt.mono (fun k hk => (by have := hB1.size; have := hX.size; show k < wX.heap.size; omega : (fun k => k < wX.heap.size) k))) (fun k hk => hk) (fun k hk => by have := hB1.size; have := hX.size; show k < wX.heap.size; omega) hf hs
  obtain ⟨L, hL⟩ : ∃ L, builtL rows = L := ⟨_, rfl⟩
  obtain ⟨n0, hn0⟩ : ∃ n0, builtN first = n0 := ⟨_, rfl⟩
  obtain ⟨sz, hsz⟩ : ∃ n0, builtS size = n0 := ⟨_, rfl⟩
  have hL40 : L.length ≤ 40 := by rw [← hL]; exact builtL_le rows
  have hn01 : 1 ≤ n0 ∧ n0 ≤ 70000 := by rw [← hn0]; unfold builtN; omega
  have hszb : 64 ≤ sz ∧ sz ≤ 1000 := by rw [← hsz]; have := builtS_le size; omega
  unfold BuiltPost2 at hBu hBu2
  rw [hL, hn0, hsz] at hBu hBu2
  have HBu := Lib.hid hBu
  have HBu2 := Lib.hid hBu2
  have Hex := Lib.hid hex
  have HE := Lib.hid hE
  have HE1 := Lib.hid hE1
  have Hlow := Lib.hid hlow
  have HB1 := Lib.hid hB1
  clear hBu hBu2 hex hE hE1 hL hn0 hsz hw1 hN hlt hbx
  have hfin : ∀ wX, Keep ex w1 wX → ∀ wY, Below wX.heap.size wX wY → Below w.heap.size w wY := fun wX hK wY hY =>
    HB1.out.trans ((hK.below (N := w1.heap.size) (fun k hk => by rw [Hex.out]; exact hk)).trans (hY.mono hK.size) |>.mono HB1.out.size)
  have Hfin := Lib.hid hfin
  clear hfin hB1
  go_enter Tryz.func3, Tryz.ntmps3
  go_wp2_with fail
  rw [Hw1.out]
  refine HBu.out.mono ?_
  rintro e w2 ⟨q, p, m, a, c, n, XL, d, al, ss, rfl, hK1, hF⟩
  have HF := Lib.hid hF
  have hB12 : Below w1.heap.size w1 w2 := hK1.below (fun k hk => by rw [Hex.out]; exact hk)
  have y0 := (hB12.cell (p := ⟨w.heap.size, 0, none⟩) hbxl).trans x0
  have y1 := (hB12.cell (p := ⟨w.heap.size, 1, none⟩) hbxl).trans x1
  have y2 := (hB12.cell (p := ⟨w.heap.size, 2, none⟩) hbxl).trans x2
  clear hF
  go_wp2_with fail
  refine (HBu2.out w2 hB12).mono ?_
  rintro e w3 ⟨q', p', m', a', c', n', XL', d', al', ss', rfl, hK2, hF2⟩
  have HF2 := Lib.hid hF2
  obtain ⟨rfl, rfl⟩ := HF.out.built.same HF2.out.built
  have hB23 : Below w2.heap.size w2 w3 := hK2.below (fun k hk => hk)
  have hln : L.length = n := by
    have := congrArg List.length HF.out.map
    rw [List.length_map, numbered_len, HF.out.len] at this
    exact this.symm
  have hK13 : Keep ex w1 w3 := hK1.trans (Keep.ofBelow hB23 (fun k hk => by rw [Hex.out] at hk; have := hK1.size; omega))
  have HE3 := Lib.hid ((HE1.out.below hB12).below hB23)
  clear hF2 hK2
  by_cases h0 : n = 0
  · subst h0
    go_wp2_with fail
    refine (awake4_any w3 HE3.out).mono ?_
    rintro e w4 ⟨rfl, hB4⟩
    go_wp2
    go_ret
    exact ⟨rfl, Hfin.out w3 hK13 w4 hB4⟩
  · have hLn : L ≠ [] := fun e => h0 (by rw [← hln, e]; rfl)
    have hsn := HF.out.built.base.ne hLn
    rcases List.eq_nil_or_concat ss with hs0 | ⟨pre, x, hss⟩
    · exact absurd hs0 hsn
    · rw [List.concat_eq_append] at hss
      have hJ := HF.out.built.base.j
      rw [hss] at hJ
      have hla := less_size hJ
      have hpl := less_plain hJ HF.out.built.base.left
      have hrec := HF.out.built.base.recs
      have hcl := HF.out.built.base.lenOf_le
      have hcnt := HF.out.built.base.count
      rw [hss] at hrec hcl hcnt
      rw [lenOf_last] at hcl
      simp only [List.length_append, List.length_cons, List.length_nil] at hcnt
      have hoka := HF.out.built.base.alOk hn01.2 hszb.2 (by omega)
      have hok : al'.Ok ∧ al'.segs.length ≤ 500 := ⟨hoka.1, by omega⟩
      have hnm : al'.names = pre.map (fun y => wName y.1) ++ [wName x.1] := by
        unfold ALog.names
        rw [hJ.segs]
        simp [segV]
      have hxin : InR x.1 := by have := chain_ok hJ.on.chain x (by simp); exact ⟨this.lo, this.hi⟩
      have hnsz := wName_len (n := x.1) (by have := hxin.2; omega)
      obtain ⟨M, hM⟩ : ∃ M, pre.length = M := ⟨_, rfl⟩
      have hnl : (pre.map (fun y => wName y.1) ++ [wName x.1]).length = M + 1 := by simp [hM]
      have hpm : (pre.map (fun y => wName y.1)).length = M := by simp [hM]
      have hM60 : M ≤ 60 := by omega
      have Hpm := Lib.hid hpm
      clear hpm
      obtain ⟨s, hse⟩ : ∃ s, wName x.1 = s := ⟨_, rfl⟩
      rw [hse] at hla hpl hnm hnl hnsz
      obtain ⟨C, hC⟩ : ∃ C, (cont x).length = C := ⟨_, rfl⟩
      rw [hC] at hla hpl hcl
      have hC1 : C ≤ 2000 := by omega
      have P1 := Lib.hid hpl
      have P2 := Lib.hid hrec
      have P3 := Lib.hid hok
      have P4 := Lib.hid (And.intro hnm hnl)
      have P5 := Lib.hid hla
      have Hln := Lib.hid hln
      have hmaxl : s.size ≤ maxLen := Nat.le_trans hnsz (by decide)
      clear hpl hrec hok hnm hnl hla hse hC hM hJ hss hsn hLn hln hnsz hcl hcnt hoka
      obtain ⟨v, hv⟩ := HF.out.log
      have Hv := Lib.hid hv
      clear hv
      have hnz : ((n : Int) == 0) = false := by rw [beq_eq_false_iff_ne]; omega
      -- the first log in w3
      obtain ⟨exa, hexa⟩ : ∃ exa : Nat → Prop, exa = fun k => (ex k ∨ (Value.slice a n c).ownBlock = some k) ∨ w2.heap.size ≤ k ∧ k < w3.heap.size := ⟨_, rfl⟩
      have hv3 : LogV exa w3 q p m d' al' v := Hv.out.more hB23 (fun k hk => by rw [hexa] at hk; exact hk)
      have hax : ∀ k, ex k → exa k := fun k hk => by rw [hexa]; exact Or.inl (Or.inl hk)
      have har : ∀ k, (Value.slice a n c).ownBlock = some k → exa k := fun k hk => by rw [hexa]; exact Or.inl (Or.inr hk)
      have han : ∀ k, w2.heap.size ≤ k → k < w3.heap.size → exa k := fun k h1 h2 => by rw [hexa]; exact Or.inr ⟨h1, h2⟩
      have hGa : GlIn exa := hG.mono hax
      have Hv3 := Lib.hid hv3
      have Hax := Lib.hid hax
      have Har := Lib.hid har
      have Han := Lib.hid han
      have hrow3 := ((Upd.refl noFp w2).thenBelow hB23 (Nat.le_refl _)).row HF.out.row (fun _ _ h => h)
      have Hrow3 := Lib.hid hrow3
      clear hv3 hax har han hexa hrow3
      obtain ⟨K, hK⟩ : ∃ K, M + 1 = K := ⟨_, rfl⟩
      have hK0 : ((K : Int) == 0) = false := by rw [beq_eq_false_iff_ne]; omega
      have hKm : (K : Int) - 1 = (M : Int) := by omega
      have hM0 : (0 : Int) ≤ (M : Int) := by omega
      have hM1 : (M : Int) < (K : Int) := by omega
      have hwk : IntKind.i64.wrap (M : Int) = (M : Int) := IntWalk.i64_in _ (by omega)
      rw [hK] at P4
      have HKM := Lib.hid hK
      clear hK
      go_wp2_with fail
      refine (files_by _ K (⟨_, Hv3.out⟩ : LogAt _ _ _ _ _ _ _) HE3.out P3.out P4.out.1 P4.out.2).mono ?_
      unfold FilesPost
      rintro e w4 ⟨a4, c4, rfl, row4, hB4⟩
      have hrd4 := Rd.ofOwns row4
      obtain ⟨bf, off, rfl, hc4⟩ := hrd4.at M (by rw [sCells_length, P4.out.2]; omega)
      have hc5 : w4.cell? ⟨bf, off + M, none⟩ = some (.string s) := by
        rw [hc4]
        have hl := Hpm.out
        simp only [sCells, List.map_append, List.map_cons, List.map_nil]
        rw [List.getElem_append_right (by rw [List.length_map, hl]; exact Nat.le_refl _)]
        simp
      clear hc4
      have hD4 := Hv3.out.disk.mono (ex' := exa) (fun _ hk => Or.inl hk) |>.below hB4
      clear hrd4 row4
      go_wp2_with fail
      refine (Size_at s hD4 hmaxl).mono ?_
      rw [P5.out]
      rintro e w5 ⟨rfl, hB5⟩
      have hB35 := hB4.trans (hB5.mono hB4.size)
      have hD5 := hD4.below hB5
      have hs4 := hB4.size
      have hs5 := hB5.size
      clear hB4 hB5 hD4
      obtain ⟨k1, hk1⟩ : ∃ k : Nat, pickI one ((C : Int) + 1) = k := ⟨(pickI one ((C : Int) + 1)).toNat, by have := pickI_lt one ((C : Int) + 1) (by omega); omega⟩
      obtain ⟨k2, hk2⟩ : ∃ k : Nat, pickI two ((C : Int) + 1) = k := ⟨(pickI two ((C : Int) + 1)).toNat, by have := pickI_lt two ((C : Int) + 1) (by omega); omega⟩
      have hkc : k1 ≤ C ∧ k2 ≤ C := by
        have a1 := pickI_lt one ((C : Int) + 1) (by omega)
        have a2 := pickI_lt two ((C : Int) + 1) (by omega)
        omega
      obtain ⟨lo, hlo⟩ : ∃ lo, min k1 k2 = lo := ⟨_, rfl⟩
      obtain ⟨hi, hhi⟩ : ∃ hi, max k1 k2 = hi := ⟨_, rfl⟩
      have hbd : lo ≤ hi ∧ hi ≤ C := by omega
      have hloI : min (k1 : Int) (k2 : Int) = (lo : Int) := by omega
      have hhiI : max (k1 : Int) (k2 : Int) = (hi : Int) := by omega
      have HP1 := Pick_any w5 one ((C : Int) + 1) (by unfold isI64; omega)
      have HP2 := Pick_any w5 two ((C : Int) + 1) (by unfold isI64; omega)
      rw [hk1] at HP1
      rw [hk2] at HP2
      obtain ⟨pl1, da, fa, pl2, pl3⟩ := P1.out lo (by omega)
      obtain ⟨_, db, fb, pl5, pl6⟩ := P1.out hi (by omega)
      have pl4 := (P1.out hi (by omega)).1
      have hrl1 : fa.recs.length = cutN pre x lo := by rw [pl3, List.length_take]; exact Nat.min_eq_left (cutN_le pre x lo)
      have hrl2 : fb.recs.length = cutN pre x hi := by rw [pl6, List.length_take]; exact Nat.min_eq_left (cutN_le pre x hi)
      have htot : cutN pre x hi ≤ n := by
        have h1 := cutN_le pre x hi
        have h2 := congrArg List.length P2.out
        rw [numbered_len4, Hln.out] at h2
        omega
      have hmono := cutN_mono pre x hbd.1
      obtain ⟨nu, hnu⟩ : ∃ nu, cutN pre x lo = nu := ⟨_, rfl⟩
      obtain ⟨nv, hnv⟩ : ∃ nv, cutN pre x hi = nv := ⟨_, rfl⟩
      rw [hnu] at pl3 hrl1 hmono
      rw [hnv] at pl6 hrl2 hmono htot
      have Q1 := Lib.hid (And.intro pl1 (And.intro pl2 (And.intro pl4 pl5)))
      have Q2 := Lib.hid (And.intro hrl1 hrl2)
      have Q3 := Lib.hid (And.intro pl3 pl6)
      have R1 := Lib.hid HP1
      have R2 := Lib.hid HP2
      clear pl1 pl2 pl3 pl4 pl5 pl6 hrl1 hrl2 hnu hnv HP1 HP2 hk1 hk2 hlo hhi P1
      go_wp2_with fail
      refine R1.out.mono ?_
      rintro e w' ⟨rfl, rfl⟩
      go_wp2_with fail
      refine R2.out.mono ?_
      rintro e w' ⟨rfl, rfl⟩
      go_wp2_with fail
      refine (Cut_at s (lo : Int) hD5 hmaxl).mono ?_
      rw [Q1.out.1]
      rintro e w6 ⟨rfl, hD6, k6⟩
      have hs6 := k6.size
      -- the other disk, in w6
      have hb6 : DiskAt (fun k => k < w2.heap.size ∨ w3.heap.size ≤ k ∧ k < w6.heap.size) w6 p' m' d' := by
        have h3 := HF2.out.log.disk.mono (ex' := fun k => k < w2.heap.size) (fun _ hk => Or.inl hk)
        have h5 : DiskAt (fun k => k < w2.heap.size ∨ w3.heap.size ≤ k ∧ k < w5.heap.size) w5 p' m' d' := h3.more hB35 (fun k hk => hk)
        refine h5.more_upd4 k6.toUpd (fun k hk hn => ?_) (fun k hk => by omega)
        by_cases h1 : k < w2.heap.size
        · exact Or.inl h1
        · by_cases h2 : k < w3.heap.size
          · exact absurd (Han.out k (by omega) h2) hn
          · exact Or.inr ⟨by omega, hk⟩
      have HR6 := Lib.hid (k6.row (((Upd.refl noFp w3).thenBelow hB35 (Nat.le_refl _)).row Hrow3.out (fun _ _ h => h)) (fun g hg => Har.out g hg))
      have hK6 : Keep ex w1 w6 := (hK13.trans (Keep.ofBelow hB35 (fun k hk => by rw [Hex.out] at hk; have := hK1.size; have := hB23.size; omega))).trans (k6.mono Hax.out)
      go_wp2_with fail
      refine (Cut_at s (hi : Int) hb6 hmaxl).mono ?_
      rw [Q1.out.2.2.1]
      rintro e w7 ⟨rfl, hb7, k7⟩
      have hs7 := k7.size
      have hac : ∀ g, (Value.slice a n c).ownBlock = some g → g < w2.heap.size := fun g hg => row_lt HF.out.row hg
      have hexl : ∀ k, ex k → k < w2.heap.size := fun k hk => by rw [Hex.out] at hk; have := hK1.size; omega
      have Hac := Lib.hid hac
      have Hexl := Lib.hid hexl
      clear hac hexl
      have ha7 : DiskAt (fun k => exa k ∨ w6.heap.size ≤ k ∧ k < w7.heap.size) w7 p m (d'.cut s lo) := by
        refine hD6.more_upd4 k7.toUpd (fun k hk hn => ?_) (fun k hk => hk)
        by_cases h1 : k < w2.heap.size
        · exact absurd (Or.inl h1) hn
        · by_cases h2 : k < w3.heap.size
          · exact Han.out k (by omega) h2
          · exact absurd (Or.inr ⟨by omega, hk⟩) hn
      have HR7 := Lib.hid (k7.row HR6.out (fun g hg => Or.inl (Hac.out g hg)))
      have hK7 : Keep ex w1 w7 := hK6.trans (k7.mono (fun k hk => Or.inl (Hexl.out k hk)))
      have HE7 := Lib.hid (HE1.out.keep hK7 hG)
      clear hD5 hD6 hb6 k6 k7
      go_wp2_with fail
      refine (open_by 64 ha7 HE7.out (hGa.mono (fun _ hk => Or.inl hk)) Q1.out.2.1 Q2.out.1).mono ?_
      rintro e w8 ⟨k8, q8, a8, c8, XL8, rfl, hO8⟩
      have hs8 := k8.size
      have hb8 : DiskAt (fun k => (k < w2.heap.size ∨ w3.heap.size ≤ k ∧ k < w6.heap.size) ∨ w7.heap.size ≤ k ∧ k < w8.heap.size) w8 p' m' (d'.cut s hi) := by
        refine hb7.more_upd4 k8.toUpd (fun k hk hn => ?_) (fun k hk => hk)
        by_cases h1 : k < w2.heap.size
        · exact Or.inl h1
        · by_cases h2 : k < w3.heap.size
          · exact absurd (Or.inl (Han.out k (by omega) h2)) hn
          · by_cases h3 : k < w6.heap.size
            · exact Or.inr ⟨by omega, h3⟩
            · exact absurd (Or.inr ⟨by omega, hk⟩) hn
      have HR8 := Lib.hid (k8.row HR7.out (fun g hg => Or.inl (Har.out g hg)))
      have hK8 : Keep ex w1 w8 := hK7.trans (k8.mono (fun k hk => Or.inl (Hax.out k hk)))
      have HE8 := Lib.hid (HE1.out.keep hK8 hG)
      have hrd8 := hO8.rd Q2.out.1
      have hmp8 := hO8.map
      have hnr8 := hO8.newR
      have hro8 := hO8.row
      rw [Q2.out.1] at hro8
      have hcap8 := row_le_cap hro8
      have Hrd8 := Lib.hid hrd8
      have Hmp8 := Lib.hid hmp8
      have Hnr8 := Lib.hid hnr8
      clear hO8 k8 hrd8 hmp8 hnr8 hro8 ha7 hb7
      go_wp2_with fail
      refine (open_by 64 hb8 HE8.out (hG.mono (fun k hk => Or.inl (Or.inl (Hexl.out k hk)))) Q1.out.2.2.2 Q2.out.2).mono ?_
      rintro e w9 ⟨k9, q9, a9, c9, XL9, rfl, hO9⟩
      have hR9 := k9.row HR8.out (fun g hg => Or.inl (Or.inl (Hac.out g hg)))
      have hK9 : Keep ex w1 w9 := hK8.trans (k9.mono (fun k hk => Or.inl (Or.inl (Hexl.out k hk))))
      have HE9 := Lib.hid (HE1.out.keep hK9 hG)
      have hu9 := (Hrd8.out).keep (n := nu) (c := c8) k9 (fun g hg => Or.inr ⟨(Hnr8.out g hg).1, (Hnr8.out g hg).2⟩)
      have hv9 := hO9.rd Q2.out.2
      have hmp9 := hO9.map
      have hro9 := hO9.row
      rw [Q2.out.2] at hro9
      have hcap9 := row_le_cap hro9
      have hcapA := row_le_cap hR9
      have hB09 : Below w.heap.size w w9 := Hfin.out w9 hK9 w9 (Below.refl _ _)
      have hA9 : RecRd w9 a XL := RecRd.ofOwns hR9 HF.out.len.symm (fun x hx => (HF.out.low x hx).keepLow hB09)
      have HU := Lib.hid hu9
      have HVV := Lib.hid hv9
      have HAA := Lib.hid hA9
      have hlu : XL8.length = nu := by rw [recs_len Hmp8.out, Q2.out.1]
      have hlv : XL9.length = nv := by rw [recs_len hmp9, Q2.out.2]
      have Hmp9 := Lib.hid hmp9
      have Hl := Lib.hid (And.intro hlu hlv)
      have hmapA : XL.map XRec.rec4 = allRecs (pre ++ [x]) := by rw [HF.out.map, P2.out]
      have Hma := Lib.hid hmapA
      clear hO9 hu9 hv9 hA9 hmp9 hro9 hlu hlv hmapA hR9 hb8 k9
      have hnuv : (nu : Int) ≤ (nv : Int) := by omega
      have hnvn : (nv : Int) ≤ (n : Int) := by omega
      have hn40 : n ≤ 50 := by have := Hln.out; omega
      go_wp2_with fail
      refine (SameRecs_yes w9 a8 a9 nu c8 c9 XL8 (XL9.take nu) HU.out (HVV.out.take nu) Hl.out.1 (by rw [List.length_take, Hl.out.2]; omega) (by omega) (by rw [List.map_take, Hmp8.out, Hmp9.out, Q3.out.1, Q3.out.2, List.take_take, Nat.min_eq_left hmono])).mono ?_
      rintro e w10 ⟨rfl, hB10⟩
      go_wp2_with fail
      refine (SameRecs_yes w10 a9 a nv c9 c XL9 (XL.take nv) (HVV.out.below hB10) ((HAA.out.take nv).below hB10) Hl.out.2 (by rw [List.length_take, HF.out.len]; omega) (by omega) (by rw [List.map_take, Hmp9.out, Q3.out.2, Hma.out])).mono ?_
      rintro e w11 ⟨rfl, hB11⟩
      have hB911 := hB10.trans (hB11.mono hB10.size)
      go_wp2_with fail
      refine (awake4_any w11 (HE9.out.below hB911)).mono ?_
      rintro e w12 ⟨rfl, hB12⟩
      go_wp2
      go_ret
      exact ⟨rfl, Hfin.out w9 hK9 w12 (hB911.trans (hB12.mono hB911.size))⟩
end Go.Proofs.YtbiadclmonakkaaGreatDoor
