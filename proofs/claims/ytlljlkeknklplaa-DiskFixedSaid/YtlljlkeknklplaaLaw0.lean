/-
  The walks of the statements' own helpers: file, tells.
-/
import Derived.Outline
import Derived.Laws.BytesArg
import Derived.Test.YtlljlkeknklplaaDisk9
namespace Go.Proofs.Ytlljlkeknklplaa
open Go.RowKit Go.Maps Go.MapKept

theorem run_bytes_str {P : Program} {w : World} {v : Value} {b : List UInt8} (h : Rd w v (bcells b)) {src dst e : TypeId} (hs : P.underlying src = some (.slice e)) (he : P.underlying e = some (.int .u8)) (hd : P.underlying dst = some .string) :
    (convert src dst v).run P w = .ok (.string ⟨b.toArray⟩) w := by
  rcases h with ⟨rfl | ⟨a, c, rfl⟩, hb⟩ | ⟨bl, off, n, c, rfl, hn, hc⟩
  · have : b = [] := by simpa [bcells] using hb
    subst this
    exact run_convert_bytes_nil w src e hs he 0 0 dst hd
  · have : b = [] := by simpa [bcells] using hb
    subst this
    rw [run_convert_bytes_string w src dst e _ 0 c hs he hd, run_bytesToString w a 0 c [] (by simp [loadCells, loadCellsFrom])]
    rfl
  · have hl : (b.map fun x => (x.toNat : Int)).length = n := by rw [hn, bcells_length]; simp
    have := run_convert_bytes_arg (P := P) w src e hs he bl off n c (b.map fun x => (x.toNat : Int)) hl (fun i hi => by
      have hib : i < b.length := by rw [hn, bcells_length] at hi; exact hi
      rw [hc i (.int .u8 (b[i].toNat : Int)) (by simp [bcells, hib])]
      simp [List.getD, hib]) dst hd
    rw [this]
    congr 2
    have : b.map (fun x => UInt8.ofNat ((x.toNat : Int)).toNat) = b := by
      rw [List.map_congr_left (g := id) (fun x _ => by simp), List.map_id]
    simp only [strOfNums, List.map_map]
    rw [← this]
    simp [Function.comp_def]

set_option maxRecDepth 100000 in
set_option maxHeartbeats 4000000 in
theorem file_at {ex : Nat → Prop} {w : World} {p m : Nat} {d : ADisk} (s want : ByteArray) (firm : Int) (h : DiskAt ex w p m d) (hs : s.size ≤ maxLen) (_hw : want.size ≤ maxLen) :
    Calls Try.prog 17 #[.pointer (some ⟨p, 0, none⟩), .string s, .string want, .int .i64 firm] w fun e w' => e = .returned (.bool (fileIs d s want firm)) ∧ Below w.heap.size w w' := by
  have hR := Read_at s h hs
  by_cases h0 : findErr d s = 0
  · rw [h0] at hR
    have hbytes : d.readBytes s = (afile d s).firm ++ (afile d s).loose := by rw [ADisk.readBytes, if_pos h0]
    have hfi : fileIs d s want firm = (decide ((afile d s).firm ++ (afile d s).loose = want.data.toList) && decide (((afile d s).firm.length : Int) = firm)) := by simp [fileIs, h0]
    rw [hbytes] at hR
    obtain ⟨ys, hys⟩ : ∃ ys, (afile d s).firm ++ (afile d s).loose = ys := ⟨_, rfl⟩
    have hyl : ys.length = (afile d s).len := by rw [← hys]; simp [AFile.len]
    rw [hys] at hR hfi
    have Hfi := Lib.hid hfi
    have Hyl := Lib.hid hyl
    clear h0 hbytes hys hfi hyl
    by_cases h1 : ys = want.toList
    · have hlen : ((afile d s).len : Int) = want.size := by rw [← Hyl.out, h1, ByteArray.toList_eq]; simp
      have hl2 : ((afile d s).len : Int) = want.size := hlen
      by_cases hf : ((afile d s).firm.length : Int) = firm
      · have hfb : (((afile d s).firm.length : Int) == firm) = true := by simpa using hf
        have hlb : (((afile d s).len : Int) == (want.size : Int)) = true := by simpa using hlen
        have hfin : fileIs d s want firm = true := by rw [Hfi.out]; simp [h1, hf, ByteArray.toList_eq]
        have Hfin := Lib.hid hfin
        have h1b : (ys == want.toList) = true := by simpa using h1
        clear hfin hf hl2 hlen h1
        go_enter Try.func17, Try.ntmps17
        go_wp2_with (first
          | (go_at_call 32; refine hR.mono ?_; rintro e w1 ⟨a, c, rfl, hrow, hb1⟩; have hcv := run_bytes_str (P := Try.prog) (Rd.ofOwns hrow) Try.underlying29 Try.underlying5 Try.underlying9)
          | (go_at_call 36; refine (Size_at s (h.below hb1) hs).mono ?_; rintro e w2 ⟨rfl, hb2⟩)
          | (go_at_call 37; refine (Synced_at s ((h.below hb1).below hb2) hs).mono ?_; rintro e w3 ⟨rfl, hb3⟩))
        go_ret
        exact ⟨by rw [Hfin.out]; simp, (hb1.trans (hb2.mono hb1.size)).trans (hb3.mono (Nat.le_trans hb1.size hb2.size))⟩
      · have hfb : (((afile d s).firm.length : Int) == firm) = false := by simpa using hf
        have hlb : (((afile d s).len : Int) == (want.size : Int)) = true := by simpa using hlen
        have hfin : fileIs d s want firm = false := by rw [Hfi.out]; simp [hf]
        have Hfin := Lib.hid hfin
        have h1b : (ys == want.toList) = true := by simpa using h1
        clear hfin hf hl2 hlen h1
        go_enter Try.func17, Try.ntmps17
        go_wp2_with (first
          | (go_at_call 32; refine hR.mono ?_; rintro e w1 ⟨a, c, rfl, hrow, hb1⟩; have hcv := run_bytes_str (P := Try.prog) (Rd.ofOwns hrow) Try.underlying29 Try.underlying5 Try.underlying9)
          | (go_at_call 36; refine (Size_at s (h.below hb1) hs).mono ?_; rintro e w2 ⟨rfl, hb2⟩)
          | (go_at_call 37; refine (Synced_at s ((h.below hb1).below hb2) hs).mono ?_; rintro e w3 ⟨rfl, hb3⟩))
        go_ret
        exact ⟨by rw [Hfin.out]; simp, (hb1.trans (hb2.mono hb1.size)).trans (hb3.mono (Nat.le_trans hb1.size hb2.size))⟩
    · have hfin : fileIs d s want firm = false := by rw [Hfi.out]; simp; intro e; exact absurd (e.trans (ByteArray.toList_eq _).symm) h1
      have Hfin := Lib.hid hfin
      clear hfin
      go_enter Try.func17, Try.ntmps17
      go_wp2_with (go_at_call 32; refine hR.mono ?_; rintro e w1 ⟨a, c, rfl, hrow, hb1⟩; have hcv := run_bytes_str (P := Try.prog) (Rd.ofOwns hrow) Try.underlying29 Try.underlying5 Try.underlying9)
      go_ret
      exact ⟨by rw [Hfin.out]; simp, hb1⟩
  · have hfin : fileIs d s want firm = false := by simp [fileIs, h0]
    have h0b : (findErr d s == 0) = false := by simpa using h0
    have Hfin := Lib.hid hfin
    clear hfin h0
    generalize findErr d s = fe at hR h0b
    generalize d.readBytes s = ys at hR
    go_enter Try.func17, Try.ntmps17
    go_wp2_with (go_at_call 32; refine hR.mono ?_; rintro e w1 ⟨a, c, rfl, hrow, hb1⟩)
    go_ret
    exact ⟨by rw [Hfin.out]; rfl, hb1⟩

set_option maxRecDepth 100000 in
set_option maxHeartbeats 4000000 in
theorem tells_any (w : World) (want : Int) (vl : Value) (l : List Int) (hrd : Rd w vl (iCells l)) (hl : l.length ≤ 9223372036854775807) :
    Calls Try.prog 38 #[.int .i64 want, vl] w fun e w' => e = .returned (.bool (l.all (fun x => x == want))) ∧ w = w' := by
  obtain ⟨a, c, rfl⟩ := hrd.shape
  have hicl : (iCells l).length = l.length := by simp [iCells]
  rw [hicl] at hrd ⊢
  have Hrd := Lib.hid hrd
  clear hicl hrd
  go_enter Try.func38, Try.ntmps38
  go_wp2
  go_loop [9] (fun i => ∃ k : Nat, k ≤ l.length ∧ i = .int .i64 k ∧ (l.take k).all (fun x => x == want) = true) (fun i => l.length - (intOf i).toNat)
  case atStart => exact ⟨0, by omega, rfl, rfl⟩
  case round =>
    obtain ⟨k, hk, rfl, hall⟩ := hrel
    have Hall := Lib.hid hall
    clear hall
    by_cases hlt : k < l.length
    · obtain ⟨x, hx⟩ : ∃ x, l[k] = x := ⟨_, rfl⟩
      have hc : ∃ b o, a = some ⟨b, o, none⟩ ∧ w.cell? ⟨b, o + k, none⟩ = some (.int .i64 x) := by
        rcases Hrd.out with ⟨he, h0⟩ | ⟨b, o, n, cc, he, hn, hc⟩
        · simp [iCells] at h0; subst h0; simp at hlt
        · cases he
          exact ⟨b, o, rfl, hc k _ (by simp [iCells, hlt, ← hx])⟩
      obtain ⟨b, o, rfl, hcell⟩ := hc
      have hsucc : (l.take (k + 1)).all (fun x => x == want) = ((l.take k).all (fun x => x == want) && (x == want)) := by
        rw [List.take_succ_eq_append_getElem hlt, List.all_append]; simp [hx]
      have hbad : (x == want) = false → l.all (fun x => x == want) = false := by
        intro h
        rw [List.all_eq_false]
        exact ⟨l[k], List.getElem_mem _, by rw [hx, h]; simp⟩
      have Hsucc := Lib.hid hsucc
      have Hbad := Lib.hid hbad
      clear hx hsucc hbad
      by_cases hxw : (x == want) = true
      · have hne : (x != want) = false := by simpa using hxw
        have Hxw := Lib.hid hxw
        clear hxw
        go_wp2
        go_round
        case rel => exact ⟨k + 1, by omega, by go_num, by rw [Hsucc.out, Hall.out, Hxw.out]; rfl⟩
        case measure => simp [intOf]; omega
      · have hne : (x != want) = true := by simpa using hxw
        have Hxw := Lib.hid hxw
        clear hxw
        go_wp2
        go_ret
        exact ⟨by rw [Hbad.out (by simpa using Hxw.out)]; rfl, rfl⟩
    · have hfull : l.take k = l := List.take_of_length_le (by omega)
      have hall := Hall.out
      rw [hfull] at hall
      have Hall2 := Lib.hid hall
      clear hfull hall
      go_wp2
      go_ret
      exact ⟨by rw [Hall2.out]; rfl, rfl⟩
end Go.Proofs.Ytlljlkeknklplaa
