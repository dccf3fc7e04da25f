/-
  Package bytes: what Uint, Blob give.
-/
import Derived.Outline
import Derived.Deep.RegionHeld3
import Derived.Test.YtnagejhpdhdpfaaGreatDoorDisk0
import Derived.Test.YtnagejhpdhdpfaaGreatDoorVar0
namespace Go.Proofs.YtnagejhpdhdpfaaGreatDoor
open Go.RowKit Go.Maps Go.MapKept

/-- a slice's length is within its capacity. -/
def CapOk (v : Value) : Prop := ∃ a n c, v = .slice a n c ∧ n ≤ c ∧ c ≤ maxLen
/-- what a call that appends leaves: the bytes, in the old row or in a new one. -/
structure Grew (w : World) (v : Value) (l : List UInt8) (v' : Value) (w' : World) : Prop where
  row : w'.ownsRow 0 5 1 v' l.length (bcells l)
  upd : Upd (fun k => v.ownBlock = some k) w w'
  blk : v'.ownBlock = v.ownBlock ∨ ∃ g, v'.ownBlock = some g ∧ w.heap.size ≤ g

theorem bcells_at {l : List UInt8} {j : Nat} (h : j < l.length) : (bcells l)[j]? = some (.int .u8 (l[j].toNat : Int)) := by simp [bcells, h]

/-- what may be appended to: a row of one's own, or a full slice that can be read. -/
def Src (w : World) (v : Value) (l : List UInt8) : Prop :=
  w.ownsRow 0 5 1 v l.length (bcells l) ∨ (Rd w v (bcells l) ∧ ∃ ad, v = .slice (some ad) l.length l.length ∧ l.length ≤ maxLen)
theorem Src.shape {w : World} {v : Value} {l : List UInt8} (h : Src w v l) : ∃ a c, v = .slice a l.length c ∧ l.length ≤ c ∧ c ≤ maxLen := by
  rcases h with h | ⟨_, ad, h, hm⟩
  · obtain ⟨a, c, h1, h2, h3, _⟩ := row_slice h; exact ⟨a, c, h1, h2, h3⟩
  · exact ⟨_, _, h, Nat.le_refl _, hm⟩
theorem Src.upd {fp : Nat → Prop} {w w' : World} {v : Value} {l : List UInt8} (h : Src w v l) (hu : Upd fp w w') (hn : ∀ g, v.ownBlock = some g → ¬ fp g) : Src w' v l := by
  rcases h with h | ⟨h, r⟩
  · exact Or.inl (hu.row h hn)
  · exact Or.inr ⟨h.keep hu hn, r⟩
theorem append_src {w : World} {ops : Array Oper} {rest : List Oper} {o : Oper} {a : Act} {Q : Exit → Act → World → Prop} (hgd : Region.wanted o (yielded ops a.tmps) = true) (s x : Operand)
    (ho : o.op = .call { callee := .builtin .append, args := #[s, x], argTypes := #[22, 22] })
    (v vx : Value) (l m r : List UInt8) (hlm : l ++ m = r) (hs : a.eval s = v) (hown : Src w v l) (hx : a.eval x = vx) (hrd : Rd w vx (bcells m)) (hpos : 0 < m.length)
    (h63 : l.length + m.length ≤ 140737488355328)
    (h : ∀ v' w', w'.ownsRow 0 5 1 v' r.length (bcells r) → w.grownBy w' v.ownBlock → (v'.ownBlock = v.ownBlock ∨ ∃ g, v'.ownBlock = some g ∧ w.heap.size ≤ g) → wpList Tryz.prog ops Q rest (a.put o.dst v') w') : wpList Tryz.prog ops Q (o :: rest) a w := by
  rcases hown with hown | ⟨hr0, ad, rfl, hmx⟩
  · exact append_u8 hgd s x ho v vx l m r hlm hs hown hx hrd h63 (fun v' w' h1 h2 h3 _ => h v' w' h1 h2 h3)
  · subst hlm
    obtain ⟨i0, hi, hz0, hz1, hz2⟩ := info_parts info_u8
    obtain ⟨b, off, c, rfl, hnews⟩ : ∃ b off c, vx = .slice (some ⟨b, off, none⟩) m.length c ∧ ∀ j u, (bcells m)[j]? = some u → w.cell? ⟨b, off + j, none⟩ = some u := by
      rcases hrd with ⟨_, h0⟩ | ⟨b, off, n, c, h1, h2, h3⟩
      · simp [bcells] at h0; subst h0; simp at hpos
      · rw [bcells_length] at h2; subst h2; exact ⟨b, off, c, h1, h3⟩
    have holds : ∀ j u, (bcells l)[j]? = some u → w.cell? (ad.add j) = some u := by
      intro j u hj
      rcases hr0 with ⟨_, h0⟩ | ⟨b', o', n', c', he, _, hc⟩
      · rw [h0] at hj; simp at hj
      · cases he; rw [Addr.add_lit]; exact hc j u hj
    have hge := grownCap_ge w (l.length + m.length) l.length 5
    have hcm : grownCap w (l.length + m.length) l.length 5 ≤ maxLen := grownCap_le_maxLen w (l.length + m.length) l.length 5 (by simp only [maxLen]; omega)
    have hr := run_append_grow (P := Tryz.prog) w 22 o.type 5 i0 (.int .u8 0) Tryz.underlying22 hi hz0 ad l.length l.length (bcells l) (by rw [hz1, bcells_length, Nat.mul_one]) holds ⟨b, off, none⟩ m.length c (bcells m) (by rw [hz1, bcells_length, Nat.mul_one]) (by simpa [Addr.add_lit] using hnews) (by omega) (by omega) (growslice_fits (by omega) (by rw [hz2]; omega))
    refine wpList_on hgd fun K hK => ?_
    unfold Oper.wp execOp
    simp only [ho, resolve, invoke, builtin, Sem.run_bind, Sem.run_pure, Result.andThen_ok, List.map_toArray, List.map_cons, List.map_nil, hs, hx, hr]
    refine hK _ _ (h _ _ ⟨by rw [bcells_length, Nat.mul_one], .inr ⟨w.heap.size, _, _, by rw [List.length_append], Nat.zero_le _, heap_alloc_new w.drew _, by rw [List.length_append]; exact hge, hcm, ?_, ?_⟩⟩ ⟨rfl, rfl, rfl, by simp, fun k hk _ => Below.heap_alloc w.drew _ k hk⟩ (Or.inr ⟨w.heap.size, rfl, Nat.le_refl _⟩))
    · simp only [Array.size_append, List.size_toArray, size_zeroCells, bcells_length, Value.cells, List.size_toArray, List.length_cons, List.length_nil]
      omega
    · simp only [Array.toList_append, List.append_assoc]
      rw [bcells_append, ← List.append_assoc, show (l ++ m).length * 1 = (bcells l ++ bcells m).length by simp [bcells_length]]
      exact List.take_left
/-- 'b[:h]' of an array of one-cell elements. -/
theorem run_arr_h {P : Program} {t e : TypeId} {N : Nat} (ht : P.underlying t = some (.array N e)) (hsz : (P.info? e).map (·.size) = some 1) (b o h : Nat) (hh : h ≤ N) (w : World) :
    (Instr.sliceAt t (.pointer (some ⟨b, o, none⟩)) none (some (.int .i64 h)) none).run P w = .ok (.slice (some ⟨b, o, none⟩) h N) w := by
  have hl : P.arrayLen t = N := by simp [Program.arrayLen, ht]
  have he : P.elem t = e := by simp [Program.elem, ht]
  rw [run_sliceAt_array_h w t ⟨b, o, none⟩ (by rw [hl, he]; exact ht) .i64 h (by omega) (by rw [hl]; omega), hl, he]
  cases hi : P.info? e with
  | none => rw [hi] at hsz; cases hsz
  | some i => simp [sizeOf, typeInfo, hi, slicedAt, Result.andThen, Addr.add_lit]

set_option maxRecDepth 100000 in
set_option maxHeartbeats 2000000 in
theorem bUint_any (w : World) (v : Value) (l : List UInt8) (n : Nat) (hown : Src w v l) (hn : n < 18446744073709551616) (hl : l.length ≤ 1099511627776) :
    Calls Tryz.prog 37 #[v, .int .u64 n] w fun e w' => ∃ a c, e = .returned (.slice a (l ++ vint n).length c) ∧ Grew w v (l ++ vint n) (.slice a (l ++ vint n).length c) w' := by
  obtain ⟨a, c, rfl, hnc, hcm⟩ := hown.shape
  obtain ⟨r, hr⟩ : ∃ r, l ++ vint n = r := ⟨_, rfl⟩
  rw [hr]
  have Hr := Lib.hid hr
  have Hown := Lib.hid hown
  clear hown hr
  go_enter Tryz.func37, Tryz.ntmps37
  go_wp2
  have hlen10 : (vint n).length ≤ 10 := vint_len (by omega) (Nat.lt_trans hn (by decide))
  go_loopw [1, 6] (fun q k wr => ∃ (ys : List UInt8) (m : Nat), vint n = ys ++ vint m ∧ m < 18446744073709551616 ∧ q = .int .u64 m ∧ k = .int .i64 ys.length ∧
      wr.heap[w.heap.size]? = some (.cells (bcells ys ++ List.replicate (10 - ys.length) (Value.int .u8 0)).toArray 115 (0, 0)) ∧ Below w.heap.size w wr) (fun q _ _ => (intOf q).toNat)
  case atStart => exact ⟨[], n, rfl, hn, rfl, rfl, alloc_at _ _, (Below.refl _ _).alloc (Nat.le_refl _) _⟩
  case round =>
    obtain ⟨ys, m, hv, hm, rfl, rfl, hb, hB⟩ := hrel
    have hp := vint_pos m
    have hl2 : ys.length + (vint m).length ≤ 10 := by rw [← List.length_append, ← hv]; exact hlen10
    have hbl := blk_lt hb
    have hcellz : (wr.frozen? ⟨w.heap.size, ys.length, none⟩ = false) ∧ ∃ u, wr.cell? ⟨w.heap.size, ys.length, none⟩ = some u := by
      refine ⟨by simp [World.frozen?, hb], ?_⟩
      rw [cell_at hb]
      have : ys.length < (bcells ys ++ List.replicate (10 - ys.length) (Value.int .u8 0)).toArray.size := by simp [bcells_length]; omega
      exact ⟨_, Array.getElem?_eq_getElem this⟩
    obtain ⟨hfz, u0, hcz⟩ := hcellz
    have Hv := Lib.hid hv
    have Hb := Lib.hid hb
    clear hv hb
    have hset : ∀ (y : UInt8) (z : Int), z = (y.toNat : Int) → (wr.setCell ⟨w.heap.size, ys.length, none⟩ (.int .u8 z)).heap[w.heap.size]? = some (.cells (bcells (ys ++ [y]) ++ List.replicate (10 - (ys ++ [y]).length) (Value.int .u8 0)).toArray 115 (0, 0)) := by
      rintro y z rfl
      rw [setCell_at Hb.out]
      congr 2
      apply Array.ext'
      simp only [Array.toList_setIfInBounds]
      have h1 : 10 - ys.length = (10 - (ys ++ [y]).length) + 1 := by simp; omega
      rw [h1, List.replicate_succ, show bcells (ys ++ [y]) = bcells ys ++ [.int .u8 (y.toNat : Int)] by simp [bcells]]
      simp [bcells_length]
    by_cases h128 : m < 128
    · have h128' : (m : Int) < 128 := by omega
      have hl9 : ys.length < 10 := by omega
      have hl9' : (ys.length : Int) + 1 ≤ 10 := by omega
      have hy := hset (UInt8.ofNat m) m (by simp; omega)
      have hvm := vint_small h128
      have hvn : vint n = ys ++ [UInt8.ofNat m] := by rw [Hv.out, hvm]
      have hU : Upd noFp w (wr.setCell ⟨w.heap.size, ys.length, none⟩ (.int .u8 m)) := Upd.ofBelow (hB.setCell (Nat.le_refl _) _)
      have Hown2 := Lib.hid (Hown.out.upd hU (fun _ _ h => h))
      have Hy := Lib.hid hy
      have Hvn := Lib.hid hvn
      have Hset := Lib.hid hset
      clear hvm hvn hy hset
      generalize hW : wr.setCell ⟨w.heap.size, ys.length, none⟩ (.int .u8 m) = W at *
      have HW := Lib.hid hW
      clear hW
      have hsl := run_arr_h (P := Tryz.prog) Tryz.underlying115 (by kernel_rfl) w.heap.size 0 (ys.length + 1) (by omega)
      rw [show (((ys.length + 1 : Nat) : Nat) : Int) = (ys.length : Int) + 1 from rfl] at hsl
      have hrd : Rd W (.slice (some ⟨w.heap.size, 0, none⟩) (ys.length + 1) 10) (bcells (ys ++ [UInt8.ofNat m])) := by
        refine Or.inr ⟨_, _, _, _, rfl, by simp [bcells_length], fun j u hu => ?_⟩
        rw [Nat.zero_add, cell_at Hy.out]
        simp only [List.getElem?_toArray]
        rw [List.getElem?_append_left (List.getElem?_eq_some_iff.1 hu).1, hu]
      have Hrd := Lib.hid hrd
      clear hrd
      go_wp2_with (at_builtin; rw [HW.out]; refine append_src rfl (.tmp 23) (.tmp 26) rfl (.slice a l.length c) (.slice (some ⟨w.heap.size, 0, none⟩) (ys.length + 1) 10) l (ys ++ [UInt8.ofNat m]) r (by rw [← Hr.out, Hvn.out]) rfl Hown2.out rfl Hrd.out (by simp) (by simp; omega) ?_; intro v' w1 h1 h2 h3; obtain ⟨a', c', rfl, _, _, _⟩ := row_slice h1)
      go_ret
      exact ⟨a', c', rfl, h1, (hU.mono (fun _ h => h.elim)).grown h2 (fun k hk => Or.inl hk), h3.imp_right (fun ⟨g, hg, hg2⟩ => ⟨g, hg, Nat.le_trans hU.size hg2⟩)⟩
    · have h128' : (128 : Int) ≤ (m : Int) := by omega
      have hl3 : ys.length < 9 := by
        rw [vint_big h128] at hl2
        have := vint_pos (m / 128)
        simp only [List.length_cons] at hl2
        omega
      go_wp2
      go_roundw
      case rel => exact ⟨ys ++ [UInt8.ofNat (128 + m % 128)], m / 128, by rw [Hv.out, vint_big h128]; simp, by omega, by go_num, by simp, hset _ _ (by simp; omega), hB.setCell (Nat.le_refl _) _⟩
      case measure => simp [intOf]; omega
end Go.Proofs.YtnagejhpdhdpfaaGreatDoor
