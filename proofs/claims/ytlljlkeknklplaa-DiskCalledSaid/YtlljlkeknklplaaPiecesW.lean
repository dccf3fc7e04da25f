/-
  The walk of DiskPieces.
-/
import Derived.Outline
import Derived.ProofKit
import Derived.Laws.IdiomStrings
import Derived.Test.YtlljlkeknklplaaPieces0
import Derived.Test.YtlljlkeknklplaaAwake
namespace Go.Proofs.Ytlljlkeknklplaa
open Go.RowKit Go.Maps Go.MapKept Go.ChangeShapes

theorem Rd_ofStr (w : World) (s : ByteArray) (n cap : Nat) (hn : n = s.size) (T : TypeId) (fr : Nat × Nat) : Rd (w.alloc (.cells (bytesRow s cap) T fr)).drew (.slice (some ⟨w.heap.size, 0, none⟩) n cap) (bcells s.data.toList) := by
  refine Rd.keepLow (W := w.alloc (.cells (bytesRow s cap) T fr)) (Rd_new _ _ _ _ _ _ _ ?_ (by rw [bcells_length, hn]; simp)) (Below.refl _ _).drew
  unfold bytesRow
  rw [Array.toList_append, List.take_append_of_le_length (by simp [bcells]), List.take_of_length_le (by simp [bcells])]
  simp [bcells]
theorem str_append (a b : ByteArray) : (a ++ b).data.toList = a.data.toList ++ b.data.toList := by simp

theorem Keep.rdo {ex : Nat → Prop} {w w' : World} (h : Keep ex w w') {v : Value} {b : List UInt8} (hr : Rd w v (bcells b)) (hb : ∀ g, v.ownBlock = some g → b ≠ [] → ex g) : Rd w' v (bcells b) := by
  by_cases hn : b = []
  · subst hn
    rcases hr with hr | ⟨bl, off, n, c, rfl, hn, hc⟩
    · exact Or.inl hr
    · exact Or.inr ⟨bl, off, n, c, rfl, hn, fun j u hj => by simp [bcells] at hj⟩
  · exact h.rd hr (fun g hg => hb g hg hn)

set_option maxRecDepth 100000 in
set_option maxHeartbeats 3000000 in
theorem pieces_walk (w : World) {v0 v1 : Value} (rows : List (List UInt8)) (r0 : RowsAt w v0 rows) (bools : List Bool) (r1 : BoolsAt w v1 bools) (x : Int) (hx0 : 0 ≤ x) (hx1 : x ≤ 65535) :
    Calls Try.prog 10 #[v0, v1, .int .u16 x] w fun e w' => e = .returned (.bool true) ∧ Below w.heap.size w w' := by
  obtain ⟨a0, c0, rfl⟩ := SliceOf.shape r0
  obtain ⟨a1, c1, rfl⟩ := SliceOf.shape r1
  have hl0 := SliceOf.len_le r0
  have hl1 := SliceOf.len_le r1
  simp only [maxLen] at hl0 hl1
  obtain ⟨ex, hex⟩ : ∃ ex : Nat → Prop, ex = fun k => k < w.heap.size := ⟨_, rfl⟩
  have Hex := Lib.hid hex
  have hxx : ∀ k, ex k → k < w.heap.size := fun k hk => by rw [hex] at hk; exact hk
  clear hex
  go_enter Try.func10, Try.ntmps10
  go_wp2_with (go_at_call 12; refine (New_at (ex := ex) 1000 (by omega) (by omega) hxx).mono ?_; generalize hp : w.heap.size + 1 = p; generalize hm : w.heap.size = m; rintro e w0 ⟨rfl, h0, kk0⟩; clear hp hm)
  go_loopw [9, 10, 11] (fun s f i wr => ∃ (k : Nat) (o : Option (List UInt8 × Nat)) (z : ByteArray), k ≤ rows.length ∧ k ≤ 15 ∧ i = .int .i64 k ∧ s = .string z ∧ z.data.toList = pieceS o ∧ z.size ≤ 30 * k ∧ f = .int .i64 (pieceF o) ∧ pieceF o ≤ z.size ∧ DiskAt ex wr p m (pieceD o) ∧ Keep ex w wr) (fun _ _ i _ => rows.length - (intOf i).toNat)
  case atStart => exact ⟨0, none, ⟨#[]⟩, by omega, by omega, rfl, rfl, rfl, by decide, rfl, by decide, h0, kk0⟩
  case round =>
    obtain ⟨k, o, z, hk, hk15, rfl, rfl, hz, hzl, rfl, hfl, hD, hK⟩ := hrel
    clear h0 kk0
    have hbr : Below w.heap.size w wr := hK.below (fun k hk => by rw [Hex.out]; exact hk)
    have hsz : (pieceS o).length = z.size := by rw [← hz]; simp
    by_cases hlt : k < rows.length
    · by_cases h15 : k < 15
      · obtain ⟨b, off, v, rfl, hbW, hcell, hrd, hown⟩ := r0.at hbr k hlt
        have hexb : ex b := by rw [Hex.out]; exact hbW
        generalize rows[k] = bs at *
        obtain ⟨av, cv, rfl⟩ := hrd.shape
        rw [bcells_length] at *
        have Hz := Lib.hid hz
        have Hsz := Lib.hid hsz
        clear hz hsz
        by_cases h30 : (30 : Int) < bs.length
        · go_wp2
          go_roundw
          case rel => exact ⟨k + 1, o, z, by omega, by omega, by go_num, rfl, Hz.out, by omega, rfl, hfl, hD, hK⟩
          case measure => simp [intOf]; omega
        · have hap := pieceD_append o bs (by rw [Hsz.out]; exact hfl) (by rw [Hsz.out]; omega)
          obtain ⟨hap1, hap2⟩ := hap
          have Hap1 := Lib.hid hap1
          have Hap2 := Lib.hid hap2
          clear hap1 hap2
          obtain ⟨z2, hz2⟩ : ∃ z2 : ByteArray, z2 = z ++ ⟨bs.toArray⟩ := ⟨_, rfl⟩
          have hz2l : z2.data.toList = pieceS o ++ bs := by rw [hz2, str_append, Hz.out]
          have hz2s : z2.size = z.size + bs.length := by
            have : z2.size = z2.data.toList.length := by simp
            rw [this, hz2l, List.length_append, Hsz.out]
          have Hz2 := Lib.hid hz2
          have Hz2l := Lib.hid hz2l
          clear hz2 hz2l
          have hownx : ∀ g, (Value.slice av bs.length cv).ownBlock = some g → bs ≠ [] → ex g := fun g hg hne => by rw [Hex.out]; exact hown g hg hne
          by_cases hlb : k < bools.length
          · obtain ⟨b1, off1, rfl, hcell1⟩ := r1.at (Below.refl _ _) k hlb
            have hexb1 : ex b1 := by rw [Hex.out]; exact cell_lt hcell1
            generalize bools[k] = bo at *
            cases bo with
            | true =>
              go_wp2_with fail
              refine (Append_at pee _ bs hD (by decide) hrd (by omega)).mono ?_
              rw [Hap1.out, Hap2.out]
              rintro e w1 ⟨rfl, h1, k1⟩
              have hcv := run_bytes_str (P := Try.prog) (k1.rdo hrd hownx) Try.underlying29 Try.underlying5 Try.underlying9
              have hcell' := (k1.cell hexb (off + k)).trans hcell
              have hcell1' := (k1.cell hexb1 (off1 + k)).trans ((hbr.cell (p := ⟨b1, off1 + k, none⟩) (cell_lt hcell1)).trans hcell1)
              go_wp2_with fail
              rw [← Hz2.out]
              have hsl : (pieceS o ++ bs).length = z2.size := by rw [List.length_append, Hsz.out]; omega
              refine (Sync_at pee h1 (by decide)).mono ?_
              rw [(pieceD_sync (pieceS o ++ bs) (pieceF o)).1, (pieceD_sync (pieceS o ++ bs) (pieceF o)).2, hsl]
              rintro e w2 ⟨rfl, h2, k2⟩
              go_wp2_with fail
              rw [show ((z.size : Int) + (bs.length : Int)) = (z2.size : Int) by omega]
              have hfi := pieceD_file (pieceS o ++ bs) z2.size (by rw [hsl]; omega) z2 Hz2l.out
              refine (file_at pee z2 z2.size h2 (by decide) (by simp only [maxLen]; omega)).mono ?_
              rw [hfi]
              rintro e w3 ⟨rfl, hb3⟩
              go_wp2
              go_roundw
              case rel => exact ⟨k + 1, some (pieceS o ++ bs, z2.size), z2, by omega, by omega, by go_num, rfl, Hz2l.out, by omega, congrArg (Value.int .i64) (by show _ = ((z2.size : Nat) : Int); omega), Nat.le_refl _, h2.below hb3, ((hK.trans k1).trans k2).trans (Keep.ofBelow hb3 (fun k hk => h2.lt hk))⟩
              case measure => simp [intOf]; omega
            | false =>
              go_wp2_with fail
              refine (Append_at pee _ bs hD (by decide) hrd (by omega)).mono ?_
              rw [Hap1.out, Hap2.out]
              rintro e w1 ⟨rfl, h1, k1⟩
              have hcv := run_bytes_str (P := Try.prog) (k1.rdo hrd hownx) Try.underlying29 Try.underlying5 Try.underlying9
              have hcell' := (k1.cell hexb (off + k)).trans hcell
              have hcell1' := (k1.cell hexb1 (off1 + k)).trans ((hbr.cell (p := ⟨b1, off1 + k, none⟩) (cell_lt hcell1)).trans hcell1)
              go_wp2_with fail
              rw [← Hz2.out]
              have hfi := pieceD_file (pieceS o ++ bs) (pieceF o) (by rw [List.length_append, Hsz.out]; omega) z2 Hz2l.out
              refine (file_at pee z2 (pieceF o) h1 (by decide) (by simp only [maxLen]; omega)).mono ?_
              rw [hfi]
              rintro e w2 ⟨rfl, hb2⟩
              go_wp2
              go_roundw
              case rel => exact ⟨k + 1, some (pieceS o ++ bs, pieceF o), z2, by omega, by omega, by go_num, rfl, Hz2l.out, by omega, rfl, by show pieceF o ≤ _; omega, h1.below hb2, (hK.trans k1).trans (Keep.ofBelow hb2 (fun k hk => h1.lt hk))⟩
              case measure => simp [intOf]; omega
          · go_wp2_with fail
            refine (Append_at pee _ bs hD (by decide) hrd (by omega)).mono ?_
            rw [Hap1.out, Hap2.out]
            rintro e w1 ⟨rfl, h1, k1⟩
            have hcv := run_bytes_str (P := Try.prog) (k1.rdo hrd hownx) Try.underlying29 Try.underlying5 Try.underlying9
            have hcell' := (k1.cell hexb (off + k)).trans hcell
            go_wp2_with fail
            rw [← Hz2.out]
            have hfi := pieceD_file (pieceS o ++ bs) (pieceF o) (by rw [List.length_append, Hsz.out]; omega) z2 Hz2l.out
            refine (file_at pee z2 (pieceF o) h1 (by decide) (by simp only [maxLen]; omega)).mono ?_
            rw [hfi]
            rintro e w2 ⟨rfl, hb2⟩
            go_wp2
            go_roundw
            case rel => exact ⟨k + 1, some (pieceS o ++ bs, pieceF o), z2, by omega, by omega, by go_num, rfl, Hz2l.out, by omega, rfl, by show pieceF o ≤ _; omega, h1.below hb2, (hK.trans k1).trans (Keep.ofBelow hb2 (fun k hk => h1.lt hk))⟩
            case measure => simp [intOf]; omega
      · have hK0 := hK
        cases o with
        | none =>
          go_wp2_with fail
          refine (List_at hD).mono ?_
          rw [show (pieceD none).names.length = 0 from rfl]
          rintro e w1 ⟨la, lc, rfl, _, _, hb1⟩
          go_wp2_with fail
          refine (awake_any _).mono ?_
          rintro e w2 ⟨rfl, hb2⟩
          go_wp2
          go_ret
          exact ⟨rfl, Keep.below (ex := ex) ((hK.trans (Keep.ofBelow hb1 (fun k hk => hD.lt hk))).trans (Keep.ofBelow hb2 (fun k hk => (hD.below hb1).lt hk))) (fun k hk => by rw [Hex.out]; exact hk)⟩
        | some q =>
          obtain ⟨s, f⟩ := q
          simp only [pieceS, pieceF] at hz hfl hsz
          go_wp2_with fail
          refine (List_at hD).mono ?_
          rw [show (pieceD (some (s, f))).names.length = 1 from rfl]
          rintro e w1 ⟨la, lc, rfl, _, _, hb1⟩
          have hbs := fun (w : World) (s : ByteArray) => run_bytes_of_string (P := Try.prog) w 9 29 5 s Try.underlying9 Try.underlying29 Try.underlying5
          go_wp2_with fail
          obtain ⟨n, hn⟩ : ∃ n : Nat, x % ((z.size : Int) + 1) = n := ⟨(x % ((z.size : Int) + 1)).toNat, by have := Int.emod_nonneg x (b := (z.size : Int) + 1) (by omega); omega⟩
          have hnz : n ≤ z.size := by have := Int.emod_lt_of_pos x (b := (z.size : Int) + 1) (by omega); omega
          rw [hn]
          have Hn := Lib.hid hn
          clear hn
          obtain ⟨k1, k2⟩ := pieceD_cut s f n (by omega)
          refine (Cut_at pee n (hD.below hb1) (by decide)).mono ?_
          rw [k1, k2]
          rintro e w2 ⟨rfl, h2, kk2⟩
          go_wp2_with fail
          have e1 : (z.extract 0 n).data.toList = s.take n := by rw [← hz]; simp
          have e2 : (z.extract n z.size).data.toList = s.drop n := by rw [← hz]; simp; rw [List.take_of_length_le (by simp)]
          have hf1 := pieceD_file (s.take n) n (by rw [List.length_take]; omega) (z.extract 0 n) e1
          refine (file_at pee (z.extract 0 n) n h2 (by decide) (by simp only [maxLen]; have : (z.extract 0 n).size = (s.take n).length := by rw [← e1]; simp
                                                                   rw [this, List.length_take]; omega)).mono ?_
          rw [hf1]
          rintro e w3 ⟨rfl, hb3⟩
          go_wp2_with fail
          have hd2 : (s.drop n).length ≤ 450 := by rw [List.length_drop]; omega
          have hzs : z.size - n = (z.extract n z.size).size := by simp
          have hrd := fun T fr => Rd_ofStr w3 (z.extract n z.size) (z.size - n) (grownCap w3 (z.size - n) 0 5) hzs T fr
          rw [e2] at hrd
          obtain ⟨q1, q2⟩ := pieceD_append (some (s.take n, n)) (s.drop n) (by simp only [pieceS, pieceF]; rw [List.length_take]; omega) (by simp only [pieceS]; rw [← List.length_append, List.take_append_drop]; omega)
          simp only [pieceS, pieceF, List.take_append_drop] at q2
          refine (Append_at pee _ (s.drop n) (((h2.below hb3).alloc _).drew) (by decide) (hrd _ _) (by omega)).mono ?_
          rw [q1, q2]
          rintro e w4 ⟨rfl, h4, kk4⟩
          dsimp only
          go_wp2_with fail
          have hf2 := pieceD_file s n (by omega) z hz
          refine (file_at pee z n h4 (by decide) (by simp only [maxLen]; omega)).mono ?_
          rw [hf2]
          rintro e w5 ⟨rfl, hb5⟩
          dsimp only
          go_wp2_with fail
          refine (awake_any _).mono ?_
          rintro e w6 ⟨rfl, hb6⟩
          dsimp only
          go_wp2
          go_ret
          have hka := (Keep.alloc w3 (.cells (bytesRow (z.extract n z.size) (grownCap w3 (z.size - n) 0 5)) 5 ((bytesRow (z.extract n z.size) (grownCap w3 (z.size - n) 0 5)).size, (bytesRow (z.extract n z.size) (grownCap w3 (z.size - n) 0 5)).size + 1)) (fun k hk => (h2.below hb3).lt hk)).drew
          exact ⟨rfl, Keep.below (ex := ex) (((((((hK.trans (Keep.ofBelow hb1 (fun k hk => hD.lt hk))).trans kk2).trans (Keep.ofBelow hb3 (fun k hk => h2.lt hk))).trans hka).trans kk4).trans (Keep.ofBelow hb5 (fun k hk => h4.lt hk))).trans (Keep.ofBelow hb6 (fun k hk => (h4.below hb5).lt hk))) (fun k hk => by rw [Hex.out]; exact hk)⟩
    · have hK0 := hK
      cases o with
      | none =>
        go_wp2_with fail
        refine (List_at hD).mono ?_
        rw [show (pieceD none).names.length = 0 from rfl]
        rintro e w1 ⟨la, lc, rfl, _, _, hb1⟩
        go_wp2_with fail
        refine (awake_any _).mono ?_
        rintro e w2 ⟨rfl, hb2⟩
        go_wp2
        go_ret
        exact ⟨rfl, Keep.below (ex := ex) ((hK.trans (Keep.ofBelow hb1 (fun k hk => hD.lt hk))).trans (Keep.ofBelow hb2 (fun k hk => (hD.below hb1).lt hk))) (fun k hk => by rw [Hex.out]; exact hk)⟩
      | some q =>
        obtain ⟨s, f⟩ := q
        simp only [pieceS, pieceF] at hz hfl hsz
        go_wp2_with fail
        refine (List_at hD).mono ?_
        rw [show (pieceD (some (s, f))).names.length = 1 from rfl]
        rintro e w1 ⟨la, lc, rfl, _, _, hb1⟩
        have hbs := fun (w : World) (s : ByteArray) => run_bytes_of_string (P := Try.prog) w 9 29 5 s Try.underlying9 Try.underlying29 Try.underlying5
        go_wp2_with fail
        obtain ⟨n, hn⟩ : ∃ n : Nat, x % ((z.size : Int) + 1) = n := ⟨(x % ((z.size : Int) + 1)).toNat, by have := Int.emod_nonneg x (b := (z.size : Int) + 1) (by omega); omega⟩
        have hnz : n ≤ z.size := by have := Int.emod_lt_of_pos x (b := (z.size : Int) + 1) (by omega); omega
        rw [hn]
        have Hn := Lib.hid hn
        clear hn
        obtain ⟨k1, k2⟩ := pieceD_cut s f n (by omega)
        refine (Cut_at pee n (hD.below hb1) (by decide)).mono ?_
        rw [k1, k2]
        rintro e w2 ⟨rfl, h2, kk2⟩
        go_wp2_with fail
        have e1 : (z.extract 0 n).data.toList = s.take n := by rw [← hz]; simp
        have e2 : (z.extract n z.size).data.toList = s.drop n := by rw [← hz]; simp; rw [List.take_of_length_le (by simp)]
        have hf1 := pieceD_file (s.take n) n (by rw [List.length_take]; omega) (z.extract 0 n) e1
        refine (file_at pee (z.extract 0 n) n h2 (by decide) (by simp only [maxLen]; have : (z.extract 0 n).size = (s.take n).length := by rw [← e1]; simp
                                                                 rw [this, List.length_take]; omega)).mono ?_
        rw [hf1]
        rintro e w3 ⟨rfl, hb3⟩
        go_wp2_with fail
        have hd2 : (s.drop n).length ≤ 450 := by rw [List.length_drop]; omega
        have hzs : z.size - n = (z.extract n z.size).size := by simp
        have hrd := fun T fr => Rd_ofStr w3 (z.extract n z.size) (z.size - n) (grownCap w3 (z.size - n) 0 5) hzs T fr
        rw [e2] at hrd
        obtain ⟨q1, q2⟩ := pieceD_append (some (s.take n, n)) (s.drop n) (by simp only [pieceS, pieceF]; rw [List.length_take]; omega) (by simp only [pieceS]; rw [← List.length_append, List.take_append_drop]; omega)
        simp only [pieceS, pieceF, List.take_append_drop] at q2
        refine (Append_at pee _ (s.drop n) (((h2.below hb3).alloc _).drew) (by decide) (hrd _ _) (by omega)).mono ?_
        rw [q1, q2]
        rintro e w4 ⟨rfl, h4, kk4⟩
        dsimp only
        go_wp2_with fail
        have hf2 := pieceD_file s n (by omega) z hz
        refine (file_at pee z n h4 (by decide) (by simp only [maxLen]; omega)).mono ?_
        rw [hf2]
        rintro e w5 ⟨rfl, hb5⟩
        dsimp only
        go_wp2_with fail
        refine (awake_any _).mono ?_
        rintro e w6 ⟨rfl, hb6⟩
        dsimp only
        go_wp2
        go_ret
        have hka := (Keep.alloc w3 (.cells (bytesRow (z.extract n z.size) (grownCap w3 (z.size - n) 0 5)) 5 ((bytesRow (z.extract n z.size) (grownCap w3 (z.size - n) 0 5)).size, (bytesRow (z.extract n z.size) (grownCap w3 (z.size - n) 0 5)).size + 1)) (fun k hk => (h2.below hb3).lt hk)).drew
        exact ⟨rfl, Keep.below (ex := ex) (((((((hK.trans (Keep.ofBelow hb1 (fun k hk => hD.lt hk))).trans kk2).trans (Keep.ofBelow hb3 (fun k hk => h2.lt hk))).trans hka).trans kk4).trans (Keep.ofBelow hb5 (fun k hk => h4.lt hk))).trans (Keep.ofBelow hb6 (fun k hk => (h4.below hb5).lt hk))) (fun k hk => by rw [Hex.out]; exact hk)⟩
/-- .. as the frame hands it. -/
theorem pieces_law (w : World) {v0 v1 : Value} (rows : List (List UInt8)) (r0 : RowsAt w v0 rows) (bools : List Bool) (r1 : BoolsAt w v1 bools) (x : Int) (hx : (Lit.int .u16 x).wf = true) :
    Calls Try.prog 10 #[v0, v1, .int .u16 x] w fun e w' => e = .returned (.bool true) ∧ Below w.heap.size w w' := by
  have hb := bounds_u16 hx
  exact pieces_walk w rows r0 bools r1 x (by omega) (by omega)
end Go.Proofs.Ytlljlkeknklplaa
