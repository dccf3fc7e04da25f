/-
  The walk of own.
-/
import Derived.Outline
import Derived.Deep.AppendLies
import Derived.Test.YtlljlkeknklplaaWoven0
import Derived.Test.YtlljlkeknklplaaOpen1
namespace Go.Proofs.Ytlljlkeknklplaa
open Go.RowKit Go.Maps Go.MapKept

theorem info_Call : (Try.prog.info? 48).map (fun i => (i.zero, i.size, i.bytes)) = some (some (.agg #[.int .u8 0, .string ⟨#[]⟩, .string ⟨#[]⟩, .slice none 0 0, .int .i64 0, .slice none 0 0]), 6, 96) := by kernel_rfl

/-- a call upon a name that begins so. -/
def ACall.pre (s : ByteArray) (c : ACall) : ACall := ⟨c.what, s ++ c.name, s ++ c.to, c.vb, c.b, c.n, c.vk, c.keeps⟩
def ownStep (s : ByteArray) (acc : List ACall) (c : ACall) : List ACall := if fitsB c = true ∧ c.what ≤ 5 then acc ++ [c.pre s] else acc
def ownL (s : ByteArray) (cs : List ACall) : List ACall := cs.foldl (ownStep s) []
theorem ownL_take (s : ByteArray) (cs : List ACall) (k : Nat) (hk : k < cs.length) : ownL s (cs.take (k + 1)) = ownStep s (ownL s (cs.take k)) cs[k] := by
  unfold ownL
  rw [List.take_succ_eq_append_getElem hk, List.foldl_append]
  rfl
theorem ownL_len (s : ByteArray) (cs : List ACall) (k : Nat) (hk : k ≤ cs.length) : (ownL s (cs.take k)).length ≤ k := by
  induction k with
  | zero => simp [ownL]
  | succ k ih =>
    rw [ownL_take s cs k (by omega)]
    have := ih (by omega)
    unfold ownStep
    split <;> simp <;> omega
theorem ownL_all {P : ACall → Prop} (s : ByteArray) (cs : List ACall) (k : Nat) (hk : k ≤ cs.length) (h : ∀ c ∈ cs, fitsB c = true → c.what ≤ 5 → P (c.pre s)) : ∀ c ∈ ownL s (cs.take k), P c := by
  induction k with
  | zero => simp [ownL]
  | succ k ih =>
    rw [ownL_take s cs k (by omega)]
    unfold ownStep
    split
    · rename_i hc
      intro c hc'
      rcases List.mem_append.1 hc' with h1 | h1
      · exact ih (by omega) c h1
      · rw [List.mem_singleton.1 h1]; exact h _ (List.getElem_mem _) hc.1 hc.2
    · exact ih (by omega)

def flatC (l : List ACall) : List Value := l.flatMap ACall.cells
theorem flatC_len (l : List ACall) : (flatC l).length = l.length * 6 := by
  induction l with
  | nil => rfl
  | cons a l ih =>
    unfold flatC at *
    rw [List.flatMap_cons, List.length_append, ih, List.length_cons, show a.cells.length = 6 from rfl]
    omega
theorem flatC_append (l m : List ACall) : flatC (l ++ m) = flatC l ++ flatC m := by simp [flatC]
theorem flatC_one (c : ACall) : flatC [c] = c.cells := by simp [flatC]
theorem flatC_at (l : List ACall) (k : Nat) (hk : k < l.length) (j : Nat) (hj : j < 6) : (flatC l)[k * 6 + j]? = l[k].cells[j]? := by
  induction l generalizing k with
  | nil => simp at hk
  | cons a l ih =>
    have hc : flatC (a :: l) = a.cells ++ flatC l := by simp [flatC]
    rw [hc]
    have ha : a.cells.length = 6 := rfl
    cases k with
    | zero => rw [List.getElem?_append_left (by rw [ha]; omega)]; simp
    | succ k =>
      rw [List.getElem?_append_right (by rw [ha]; omega), ha, show (k + 1) * 6 + j - 6 = k * 6 + j by omega, ih k (by simpa using hk)]
      simp

set_option maxRecDepth 100000 in
set_option maxHeartbeats 4000000 in
theorem own_any {W w : World} {vl : Value} {cs : List ACall} (hcs : CallsAt W vl cs) (hW : Below W.heap.size W w) (s : ByteArray) (hs : s.size = 1) :
    Calls Try.prog 46 #[vl, .string s] w fun e w' => ∃ a c, e = .returned (.slice a (ownL s (cs.take 25)).length c) ∧ w'.ownsRow w.heap.size 48 6 (.slice a (ownL s (cs.take 25)).length c) (ownL s (cs.take 25)).length (flatC (ownL s (cs.take 25))) ∧ Below w.heap.size w w' := by
  obtain ⟨al, cl, rfl⟩ := SliceOf.shape hcs
  have hcl := SliceOf.len_le hcs
  simp only [maxLen] at hcl
  go_enter Try.func46, Try.ntmps46
  go_wp2_with fail
  go_loopw [5, 6] (fun v i wr => ∃ (k : Nat) (a : Option Addr) (c : Nat), k ≤ cs.length ∧ k ≤ 25 ∧ i = .int .i64 k ∧ v = .slice a (ownL s (cs.take k)).length c ∧ wr.ownsRow w.heap.size 48 6 (.slice a (ownL s (cs.take k)).length c) (ownL s (cs.take k)).length (flatC (ownL s (cs.take k))) ∧ Below w.heap.size w wr) (fun _ i _ => cs.length - (intOf i).toNat)
  case atStart => exact ⟨0, none, 0, by omega, by omega, rfl, rfl, World.ownsRow_nil _ _ _ _, Below.refl _ _⟩
  case round =>
    obtain ⟨k, a, c, hk, hk25, rfl, rfl, hown, hbr⟩ := hrel
    have Hown := Lib.hid hown
    have hlk := ownL_len s cs k hk
    clear hown
    have hbW : Below W.heap.size W wr := hW.trans (hbr.mono hW.size)
    by_cases hlt : k < cs.length
    · by_cases h25 : k < 25
      · obtain ⟨b, off, rfl, hbl, hok, c0, c1, c2, c3, c4, c5⟩ := hcs.at hbW k hlt
        have hst := ownL_take s cs k hlt
        obtain ⟨cc, hcc⟩ : ∃ cc, cs[k] = cc := ⟨_, rfl⟩
        rw [hcc] at hok c0 c1 c2 c3 c4 c5 hst
        clear hcc
        obtain ⟨acc, hacc⟩ : ∃ acc, ownL s (cs.take k) = acc := ⟨_, rfl⟩
        rw [hacc] at hst hlk ⊢
        have Hacc := Lib.hid hacc
        have Hst := Lib.hid hst
        clear hacc hst
        have hw0 := hok.what0
        have hw1 := hok.what1
        obtain ⟨ab, cb, hvb⟩ := hok.rb.shape
        obtain ⟨ak, ck, hvk⟩ := hok.rk.shape
        obtain ⟨what, name, tt, vb, b', n, vk, keeps⟩ := cc
        simp only at c0 c1 c2 c3 c4 c5 hw0 hw1 hvb hvk
        rw [bcells_length] at hvb
        rw [show (iCells keeps).length = keeps.length by simp [iCells]] at hvk
        subst hvb
        subst hvk
        have hX := alloc_at wr (.cells #[.int .u8 what, .string name, .string tt, .slice ab b'.length cb, .int .i64 n, .slice ak keeps.length ck] 48)
        have hbX : Below wr.heap.size wr (wr.alloc (.cells #[.int .u8 what, .string name, .string tt, .slice ab b'.length cb, .int .i64 n, .slice ak keeps.length ck] 48)) := (Below.refl _ _).alloc (Nat.le_refl _) _
        have hokX := hok.below hbX
        obtain ⟨w1, hw1⟩ : ∃ w1, wr.alloc (.cells #[.int .u8 what, .string name, .string tt, .slice ab b'.length cb, .int .i64 n, .slice ak keeps.length ck] 48) = w1 := ⟨_, rfl⟩
        rw [hw1] at hX hbX hokX
        have Hw1 := Lib.hid hw1
        clear hw1
        cases hfit : fitsB ⟨what, name, tt, .slice ab b'.length cb, b', n, .slice ak keeps.length ck, keeps⟩ with
        | false =>
          have hs0 : ownL s (cs.take (k + 1)) = acc := by rw [Hst.out]; unfold ownStep; rw [hfit]; simp
          go_wp2_with fail
          rw [Hw1.out]
          refine (fits_any _ _ hokX).mono ?_
          rw [hfit]
          rintro e w2 ⟨rfl, hb2⟩
          have hb02 : Below w.heap.size w w2 := (hbr.trans (hbX.mono hbr.size)).trans (hb2.mono (Nat.le_trans hbr.size hbX.size))
          have hown2 : w2.ownsRow w.heap.size 48 6 (.slice a (ownL s (cs.take (k + 1))).length c) (ownL s (cs.take (k + 1))).length (flatC (ownL s (cs.take (k + 1)))) := by
            rw [hs0]
            have := Hown.out
            rw [Hacc.out] at this
            exact (Upd.ofBelow (fp := fun _ => False) hb2).row ((Upd.ofBelow (fp := fun _ => False) hbX).row this (fun _ _ h => h)) (fun _ _ h => h)
          have Hown2 := Lib.hid hown2
          clear hown2
          dsimp only
          go_wp2
          go_roundw
          case rel => exact ⟨k + 1, a, c, by omega, by omega, by go_num, by rw [hs0], Hown2.out, hb02⟩
          case measure => simp [intOf]; omega
        | true =>
          have hsz : name.size < 90 ∧ tt.size < 90 := by
            simp only [fitsB, Bool.and_eq_true, decide_eq_true_eq] at hfit
            exact hfit.1.1
          by_cases h5 : what ≤ 5
          · have hs1 : ownL s (cs.take (k + 1)) = acc ++ [(⟨what, s ++ name, s ++ tt, .slice ab b'.length cb, b', n, .slice ak keeps.length ck, keeps⟩ : ACall)] := by rw [Hst.out]; unfold ownStep; rw [hfit, if_pos ⟨rfl, h5⟩]; rfl
            have hl1 : (ownL s (cs.take (k + 1))).length = acc.length + 1 := by rw [hs1]; simp
            have Hl1 := Lib.hid hl1
            have Hs1 := Lib.hid hs1
            clear hs1 hl1
            go_wp2_with fail
            rw [Hw1.out]
            refine (fits_any _ _ hokX).mono ?_
            rw [hfit]
            rintro e w2 ⟨rfl, hb2⟩
            have hb02 : Below w.heap.size w w2 := (hbr.trans (hbX.mono hbr.size)).trans (hb2.mono (Nat.le_trans hbr.size hbX.size))
            have hX2 := (hb2.block _ (blk_lt hX)).trans hX
            have hown2 : w2.ownsRow w.heap.size 48 6 (.slice a acc.length c) acc.length (flatC acc) := by
              have := Hown.out
              rw [Hacc.out] at this
              exact (Upd.ofBelow (fp := fun _ => False) hb2).row ((Upd.ofBelow (fp := fun _ => False) hbX).row this (fun _ _ h => h)) (fun _ _ h => h)
            have Hown2 := Lib.hid hown2
            have hlt2 : ∀ g, (Value.slice a acc.length c).ownBlock = some g → w.heap.size ≤ g ∧ g < wr.heap.size := by
              have := Hown.out
              rw [Hacc.out] at this
              exact fun g hg => this.lt g hg
            have Hlt2 := Lib.hid hlt2
            clear hown2 hlt2
            have hq := fun j v (h : _) => (cell_at hX2 j).trans (h : (_ : Array Value)[j]? = some v)
            have x0 := hq 0 _ rfl
            have x1 := hq 1 _ rfl
            have x2 := hq 2 _ rfl
            have x3 := hq 3 _ rfl
            have x4 := hq 4 _ rfl
            have x5 := hq 5 _ rfl
            clear hq
            have z1 : w2.frozen? ⟨wr.heap.size, 1, none⟩ = false := by simp [World.frozen?, hX2]
            have z2 : w2.frozen? ⟨wr.heap.size, 2, none⟩ = false := by simp [World.frozen?, hX2]
            have hU : Upd (· = wr.heap.size) w2 ((w2.setCell ⟨wr.heap.size, 1, none⟩ (.string (s ++ name))).setCell ⟨wr.heap.size, 2, none⟩ (.string (s ++ tt))) := (setCell_upd 1 _).trans (setCell_upd 2 _) (fun _ hk => Or.inl hk)
            have hUs : ((w2.setCell ⟨wr.heap.size, 1, none⟩ (.string (s ++ name))).setCell ⟨wr.heap.size, 2, none⟩ (.string (s ++ tt))).heap.size = w2.heap.size := by simp [World.setCell]
            have hown3 := hU.row Hown2.out (fun g hg e => by have := (Hlt2.out g hg).2; omega)
            have hb03 : Below w.heap.size w ((w2.setCell ⟨wr.heap.size, 1, none⟩ (.string (s ++ name))).setCell ⟨wr.heap.size, 2, none⟩ (.string (s ++ tt))) := hU.thenB hb02 (fun g hg => by have := hbr.size; omega) hb02.size
            have Hown3 := Lib.hid hown3
            have Hb03 := Lib.hid hb03
            have HUs := Lib.hid hUs
            have hs2 : wr.heap.size ≤ w2.heap.size := by have := blk_lt hX2; omega
            have hsw : w.heap.size ≤ w2.heap.size := hb02.size
            clear hown3 hb03 hUs hU
            obtain ⟨i0, hi, hz0, hz1, hz2⟩ := info_parts info_Call
            dsimp only
            go_wp2_with (refine wpList_append_lies _ rfl (.tmp 39) (.tmp 41) 40 rfl w.heap.size 48 i0 (.agg #[.int .u8 0, .string ⟨#[]⟩, .string ⟨#[]⟩, .slice none 0 0, .int .i64 0, .slice none 0 0]) 6 96 Try.underlying40 hi hz0 hz1 hz2 rfl (by omega) (.slice a acc.length c) acc.length (flatC acc) rfl (((Upd.refl (fun _ => False) _).alloc _).row Hown3.out (fun _ _ h => h)) ⟨w2.heap.size, 0, none⟩ 1 1 [.int .u8 what, .string (s ++ name), .string (s ++ tt), .slice ab b'.length cb, .int .i64 n, .slice ak keeps.length ck] rfl rfl (by rw [← HUs.out]; exact World.news_of_block (alloc_at _ _)) (by simp [Value.oneCell']) (by omega) (by simp only [maxLen]; omega) (by omega) (by simp; omega) _ rfl ?_)
            intro g cap w4 hown4 hg4 _ _
            have hb04 : Below w.heap.size w w4 := (((Upd.refl (fun g => (Value.slice a acc.length c).ownBlock = some g) _).alloc _).grown hg4 (fun g hg => Or.inl hg)).thenB Hb03.out (fun g hg => (Hlt2.out g hg).1) Hb03.out.size
            have hown4 : w4.ownsRow w.heap.size 48 6 (.slice (some ⟨g, 0, none⟩) (ownL s (cs.take (k + 1))).length cap) (ownL s (cs.take (k + 1))).length (flatC (ownL s (cs.take (k + 1)))) := by
              rw [Hl1.out, Hs1.out, flatC_append, flatC_one]
              exact hown4
            have Hown4 := Lib.hid hown4
            clear hown4 hg4
            go_wp2
            go_roundw
            case rel => exact ⟨k + 1, some ⟨g, 0, none⟩, cap, by omega, by omega, by go_num, by rw [Hl1.out], Hown4.out, hb04⟩
            case measure => simp [intOf]; omega
          · have hs0 : ownL s (cs.take (k + 1)) = acc := by rw [Hst.out]; unfold ownStep; rw [hfit]; simp [h5]
            go_wp2_with fail
            rw [Hw1.out]
            refine (fits_any _ _ hokX).mono ?_
            rw [hfit]
            rintro e w2 ⟨rfl, hb2⟩
            have hb02 : Below w.heap.size w w2 := (hbr.trans (hbX.mono hbr.size)).trans (hb2.mono (Nat.le_trans hbr.size hbX.size))
            have hX2 := (hb2.block _ (blk_lt hX)).trans hX
            have x0 : w2.cell? ⟨wr.heap.size, 0, none⟩ = some (.int .u8 what) := (cell_at hX2 0).trans rfl
            have hown2 : w2.ownsRow w.heap.size 48 6 (.slice a (ownL s (cs.take (k + 1))).length c) (ownL s (cs.take (k + 1))).length (flatC (ownL s (cs.take (k + 1)))) := by
              rw [hs0]
              have := Hown.out
              rw [Hacc.out] at this
              exact (Upd.ofBelow (fp := fun _ => False) hb2).row ((Upd.ofBelow (fp := fun _ => False) hbX).row this (fun _ _ h => h)) (fun _ _ h => h)
            have Hown2 := Lib.hid hown2
            clear hown2
            dsimp only
            go_wp2
            go_roundw
            case rel => exact ⟨k + 1, a, c, by omega, by omega, by go_num, by rw [hs0], Hown2.out, hb02⟩
            case measure => simp [intOf]; omega
      · obtain rfl : k = 25 := by omega
        go_wp2
        go_ret
        exact ⟨_, _, rfl, Hown.out, hbr⟩
    · have ht : cs.take k = cs.take 25 := by rw [List.take_of_length_le (by omega), List.take_of_length_le (by omega)]
      rw [ht] at Hown ⊢
      have hlt' : k = cs.length := by omega
      subst hlt'
      go_wp2
      go_ret
      exact ⟨_, _, rfl, Hown.out, hbr⟩
end Go.Proofs.Ytlljlkeknklplaa
