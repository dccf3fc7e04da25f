/-
  The chapter's helpers: name, has.
-/
import Derived.Outline
import Derived.Test.YtbepcjajbcecnaaGreatDoorMPmD
import Derived.Test.YtbepcjajbcecnaaGreatDoorMLwA
namespace Go.Proofs.YtbepcjajbcecnaaGreatDoor
open Go.RowKit Go.Maps Go.MapKept
set_option linter.unusedSimpArgs false

set_option maxRecDepth 100000 in
set_option maxHeartbeats 2000000 in
theorem name5_any (w : World) (i : Nat) (hi : i < 6) : Calls Tryz.prog 24 #[.int .i64 i] w fun e w' => e = .returned (.string (nm6 i)) ∧ w = w' := by
  obtain rfl | rfl | rfl | rfl | rfl | rfl : i = 0 ∨ i = 1 ∨ i = 2 ∨ i = 3 ∨ i = 4 ∨ i = 5 := by omega
  all_goals
    go_enter Tryz.func24, Tryz.ntmps24
    go_wp2
    go_ret
    exact ⟨by congr 2, rfl⟩
/-- a commit's six blobs. -/
structure KeptAt (w : World) (vs : List Value) (N : Nat → Option (List UInt8)) : Prop where
  len : vs.length = 6
  no : ∀ i, i < 6 → N i = none → vs[i]? = some (.slice none 0 0)
  yes : ∀ i b, i < 6 → N i = some b → ∃ ad c, vs[i]? = some (.slice (some ad) b.length c) ∧ Rd w (.slice (some ad) b.length c) (bcells b) ∧ b.length ≤ 1000
def cntTo (N : Nat → Option (List UInt8)) : Nat → Nat
  | 0 => 0
  | i + 1 => cntTo N i + if (N i).isSome then 1 else 0
theorem cntTo_six (N : Nat → Option (List UInt8)) : cntTo N 6 = cnt6 N := by
  unfold cnt6 list6
  simp only [List.length_append, one6_len, cntTo]
  omega
theorem cntTo_le (N : Nat → Option (List UInt8)) (i : Nat) : cntTo N i ≤ i := by
  induction i with
  | zero => exact Nat.le_refl _
  | succ i ih => simp only [cntTo]; split <;> omega
theorem run_neq_slice_nil {P : Program} {t e : TypeId} (h : P.underlying t = some (.slice e)) (a : Option Addr) (l c : Nat) (w : World) : (binOp .neq t (.slice a l c) (.slice none 0 0)).run P w = .ok (.bool (!a.isNone)) w := by
  simp only [binOp]
  simp [run_equal_slice_nil w t e a l c h]
section
variable {ex : Nat → Prop} {w : World} {q p m : Nat} {d : ADisk} {st : AStore}
set_option maxRecDepth 100000 in
set_option maxHeartbeats 4000000 in
theorem has5_yes {vs : List Value} {N : Nat → Option (List UInt8)} (h : StoreAt ex w q p m d st) (hok : st.Ok) (hN : Now6 st.keys N) (hv : KeptAt w vs N) :
    Calls Tryz.prog 13 #[.pointer (some ⟨q, 0, none⟩), .agg vs.toArray] w fun e w' => e = .returned (.bool true) ∧ Below w.heap.size w w' := by
  obtain ⟨v0, v1, v2, v3, v4, v5, rfl⟩ : ∃ v0 v1 v2 v3 v4 v5, vs = [v0, v1, v2, v3, v4, v5] := by
    have := hv.len
    match vs, this with
    | [v0, v1, v2, v3, v4, v5], _ => exact ⟨v0, v1, v2, v3, v4, v5, rfl⟩
  obtain ⟨w1, hw1⟩ : ∃ x, w.alloc (.cells #[v0, v1, v2, v3, v4, v5] 27) = x := ⟨_, rfl⟩
  have hb1 : w1.heap[w.heap.size]? = some (.cells #[v0, v1, v2, v3, v4, v5] 27 (0, 0)) := by rw [← hw1]; exact alloc_at _ _
  have hB1 : Below w.heap.size w w1 := by rw [← hw1]; exact (Below.refl _ _).alloc (Nat.le_refl _) _
  have hcell : ∀ wr, Below w1.heap.size w1 wr → ∀ j v, ([v0, v1, v2, v3, v4, v5] : List Value)[j]? = some v → wr.cell? ⟨w.heap.size, j, none⟩ = some v := fun wr hB j v hj => by
    refine (hB.cell (p := ⟨w.heap.size, j, none⟩) (blk_lt hb1)).trans ?_
    rw [cell_at hb1]
    simpa using hj
  have hS : ∀ wr, Below w1.heap.size w1 wr → StoreAt ex wr q p m d st := fun wr hB => (h.below hB1).below hB
  have hR : ∀ wr, Below w1.heap.size w1 wr → ∀ a n c xs, Rd w (.slice a n c) xs → Rd wr (.slice a n c) xs := fun wr hB a n c xs hr => (hr.below hB1).below hB
  have hlen : st.names.length = cntTo N 6 := by unfold AStore.names; rw [List.length_map, hN.len hok.sorted, cntTo_six]
  have Hw1 := Lib.hid hw1
  have HB1 := Lib.hid hB1
  have Hc := Lib.hid hcell
  have HS := Lib.hid hS
  have HR := Lib.hid hR
  have HN := Lib.hid hN
  have HV := Lib.hid hv
  have Hlen := Lib.hid hlen
  clear hw1 hB1 hcell hS hR hN hv hlen h hb1
  go_enter Tryz.func13, Tryz.ntmps13
  go_upto_region 3 with fail
  rw [Hw1.out]
  go_loopw [5, 6] (fun nv iv wr => ∃ i : Nat, i ≤ 6 ∧ iv = .int .i64 i ∧ nv = .int .i64 (cntTo N i) ∧ Below w1.heap.size w1 wr) (fun _ iv _ => 6 - (intOf iv).toNat)
  case atStart => exact ⟨0, by omega, rfl, rfl, Below.refl _ _⟩
  case round =>
    obtain ⟨i, hi, rfl, rfl, hBr⟩ := hrel
    have hcle := cntTo_le N i
    obtain ⟨k, hk⟩ : ∃ k, cntTo N i = k := ⟨_, rfl⟩
    rw [hk] at hcle ⊢
    by_cases hlt : i < 6
    · have hiI : (i : Int) < 6 := by omega
      have hi0 : (0 : Int) ≤ (i : Int) := by omega
      have hnow : (kB st.keys (nm6 i)).map (·.b) = N i := (HN.out (nm6 i)).trans (now6_at N hlt)
      have hgot : st.got (nm6 i) = (N i).getD [] := by unfold AStore.got; rw [hnow]
      have hsome : (kB st.keys (nm6 i)).isSome = (N i).isSome := by rw [← hnow]; simp
      have hsz : (nm6 i).size ≤ maxLen := by have : (nm6 i).size = 1 := rfl; simp only [maxLen]; omega
      have hnm := fun wX => name5_any wX i hlt
      obtain ⟨s, hs⟩ : ∃ s, nm6 i = s := ⟨_, rfl⟩
      rw [hs] at hgot hsome hsz hnm
      have hG := fun (hb : (st.got s).length ≤ 1048576) => pgGet_at (HS.out wr hBr) s hsz hb
      rw [hgot, hsome] at hG
      cases hNi : N i with
      | none =>
        have hv := HV.out.no i hlt hNi
        have c0 := fun wX hX => Hc.out wX hX i _ hv
        rw [hNi] at hG
        have hG := hG (by decide)
        have hcn : cntTo N (i + 1) = k := by simp only [cntTo]; rw [hk, hNi]; rfl
        have hq := run_neq_slice_nil (P := Tryz.prog) Tryz.underlying25 none 0 0
        have HG := Lib.hid hG
        have Hnm := Lib.hid hnm
        have C0 := Lib.hid c0
        have HBr := Lib.hid hBr
        have Hcn := Lib.hid hcn
        clear hG hnm hgot hsome hnow hv c0 hBr hs hk hNi hcn
        go_wp2_with first
          | (go_at_call 24; refine (Hnm.out _).mono ?_; rintro e w2 ⟨rfl, rfl⟩)
          | (go_at_call 28; refine HG.out.mono ?_; rintro e w3 ⟨a3, c3, rfl, hrow, hB3⟩; have HB3 := Lib.hid (HBr.out.trans (hB3.mono HBr.out.size)); have Hrow := Lib.hid hrow; have k0 := C0.out w3 HB3.out; clear hrow hB3)
          | (go_at_call 27; refine (sameB_yes w3 _ _ [] (Rd.ofOwns Hrow.out) (rd_none _ _)).mono ?_; rintro e w4 ⟨rfl, rfl⟩)
        go_roundw
        case rel => exact ⟨i + 1, by omega, by go_num, by rw [Hcn.out], HB3.out⟩
        case measure => simp [intOf]; omega
      | some b =>
        obtain ⟨ad, c, hv, hrd, hbl⟩ := HV.out.yes i b hlt hNi
        have c0 := fun wX hX => Hc.out wX hX i _ hv
        rw [hNi] at hG
        simp only [Option.getD_some, Option.isSome_some] at hG
        have hG := hG (by omega)
        have hcn : cntTo N (i + 1) = k + 1 := by simp only [cntTo]; rw [hk, hNi]; rfl
        have hq := run_neq_slice_nil (P := Tryz.prog) Tryz.underlying25 (some ad) b.length c
        have HG := Lib.hid hG
        have Hnm := Lib.hid hnm
        have C0 := Lib.hid c0
        have HBr := Lib.hid hBr
        have Hcn := Lib.hid hcn
        have Hrd := Lib.hid hrd
        clear hG hnm hgot hsome hnow hv c0 hBr hs hk hNi hcn hrd
        go_wp2_with first
          | (go_at_call 24; refine (Hnm.out _).mono ?_; rintro e w2 ⟨rfl, rfl⟩)
          | (go_at_call 28; refine HG.out.mono ?_; rintro e w3 ⟨a3, c3, rfl, hrow, hB3⟩; have HB3 := Lib.hid (HBr.out.trans (hB3.mono HBr.out.size)); have Hrow := Lib.hid hrow; have k0 := C0.out w3 HB3.out; clear hrow hB3)
          | (go_at_call 27; refine (sameB_yes w3 _ _ b (Rd.ofOwns Hrow.out) (HR.out w3 HB3.out _ _ _ _ Hrd.out)).mono ?_; rintro e w4 ⟨rfl, rfl⟩)
        go_roundw
        case rel => exact ⟨i + 1, by omega, by go_num, by rw [Hcn.out]; go_num, HB3.out⟩
        case measure => simp [intOf]; omega
    · have hi6 : i = 6 := by omega
      subst hi6
      have hK := pgKeys_at (HS.out wr hBr) hok
      unfold KeysPost at hK
      rw [Hlen.out, hk] at hK
      have HK := Lib.hid hK
      have HBr := Lib.hid hBr
      clear hK hBr hk hlt
      go_wp2_with first
        | (go_at_call 20; refine HK.out.mono ?_; rintro e w3 ⟨a3, c3, rfl, hrow, hB3⟩; have HB3 := Lib.hid hB3; clear hrow hB3)
      go_ret
      exact ⟨rfl, HB1.out.trans ((HBr.out.trans (HB3.out.mono HBr.out.size)).mono HB1.out.size)⟩
end
end Go.Proofs.YtbepcjajbcecnaaGreatDoor
