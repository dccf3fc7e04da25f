/-
  WalNumbers: a segment's head and a record's frame, as the document has them; files in a new row.
-/
import Derived.Outline
import Derived.Lib.AppendStr
import Derived.Test.YtbiadclmonakkaaGreatDoorMRcA
import Derived.Test.YtbiadclmonakkaaGreatDoorMWmL
import Derived.Test.YtbiadclmonakkaaGreatDoorMTlA
import Derived.Test.YtbiadclmonakkaaGreatDoorMWnP
import Derived.Test.YtbiadclmonakkaaGreatDoorMWmD
import Derived.Test.YtbiadclmonakkaaGreatDoorMShA
namespace Go.Proofs.YtbiadclmonakkaaGreatDoor
open Go.RowKit Go.Maps Go.MapKept
set_option linter.unusedSimpArgs false

theorem uint_rw (w : World) (v : Value) (l r : List UInt8) (n : Nat) (hr : l ++ vint n = r) (hv : Rd w v (bcells l)) (hl : l.length ≤ 1099511627776) (hn : n < 18446744073709551616) :
    Calls Tryz.prog 95 #[v, .int .u64 n] w fun e w' => ∃ a c, e = .returned (.slice a r.length c) ∧ Rd w' (.slice a r.length c) (bcells r) ∧ Below w.heap.size w w' := by
  subst hr
  exact (x1Uint_any w v l n hv hl hn).mono fun e w' ⟨a, c, h1, h2, h3⟩ => ⟨a, c, h1, Rd.ofOwns h2, h3⟩
set_option maxRecDepth 100000 in
set_option maxHeartbeats 4000000 in
theorem x4Head_any (w : World) (n : Nat) (hn : n ≤ 9007199254740993) :
    Calls Tryz.prog 67 #[.int .i64 n] w fun e w' => ∃ a c, e = .returned (.slice a (wHead sumL n).length c) ∧ w'.ownsRow w.heap.size 5 1 (.slice a (wHead sumL n).length c) (wHead sumL n).length (bcells (wHead sumL n)) ∧ Below w.heap.size w w' := by
  obtain ⟨o1, ho1⟩ : ∃ o, [72, 83, 87, 49] ++ vint n = o := ⟨_, rfl⟩
  have v1 : (vint n).length ≤ 10 := vint_len (by omega) (Nat.lt_of_le_of_lt hn (by decide))
  have l1 : o1.length ≤ 100 := by rw [← ho1, List.length_append]; simp; omega
  have hH : sealL sumL o1 = wHead sumL n := by unfold wHead; rw [ho1]
  have hU := fun (w : World) (v : Value) (hv : Rd w v (bcells [72, 83, 87, 49])) => uint_rw w v [72, 83, 87, 49] o1 n ho1 hv (by decide) (by omega)
  have hS := fun (w : World) (v : Value) (hv : Rd w v (bcells o1)) => x1Seal_any w v o1 hv (by omega)
  rw [hH] at hS
  obtain ⟨B, hB⟩ : ∃ B, wHead sumL n = B := ⟨_, rfl⟩
  rw [hB] at hS ⊢
  have hn0 : (0 : Int) ≤ n := by omega
  have hn1 : (n : Int) ≤ 9007199254740993 := by omega
  clear hH hB ho1 v1 l1
  go_enter Tryz.func67, Tryz.ntmps67
  go_wp2_with fail
  refine (hU _ _ (Rd_new w #[.int .u8 72, .int .u8 83, .int .u8 87, .int .u8 49] 5 _ (bcells [72, 83, 87, 49]) 4 4 rfl rfl)).mono ?_
  rintro e w1 ⟨a1, c1, rfl, hr1, hb1⟩
  have hB1 : Below w.heap.size w w1 := ((Below.refl _ _).alloc (Nat.le_refl _) _).trans (hb1.mono (by simp))
  dsimp only
  go_wp2_with fail
  refine (hS _ _ hr1).mono ?_
  rintro e w2 ⟨a2, c2, rfl, hr2, hb2⟩
  have hR2 := Lib.hid (And.intro (ownsRow_from hr2 (fun g hg => Nat.le_trans hB1.size (row_from hr2 hg))) (hB1.trans (hb2.mono hB1.size)))
  clear hr1 hb1 hr2 hb2 hU hS
  dsimp only
  go_wp2_with fail
  go_ret
  exact ⟨a2, c2, rfl, hR2.out.1, hR2.out.2⟩
set_option maxRecDepth 100000 in
set_option maxHeartbeats 4000000 in
theorem x4Frame_any (w : World) (n : Nat) (vb : Value) (b : List UInt8) (hn : n ≤ 9007199254740993) (hv : Rd w vb (bcells b)) (hb : b.length ≤ 1048576) :
    Calls Tryz.prog 40 #[.int .i64 n, vb] w fun e w' => ∃ a c, e = .returned (.slice a (wFrame sumL n b).length c) ∧ w'.ownsRow w.heap.size 5 1 (.slice a (wFrame sumL n b).length c) (wFrame sumL n b).length (bcells (wFrame sumL n b)) ∧ Below w.heap.size w w' := by
  obtain ⟨pb, cb, rfl⟩ := hv.shape
  rw [bcells_length] at hv ⊢
  obtain ⟨o1, ho1⟩ : ∃ o, vint n = o := ⟨_, rfl⟩
  have v1 : (vint n).length ≤ 10 := vint_len (by omega) (Nat.lt_of_le_of_lt hn (by decide))
  rw [ho1] at v1
  obtain ⟨o2, ho2⟩ : ∃ o, o1 ++ b = o := ⟨_, rfl⟩
  have l2 : o2.length ≤ 2000000 := by rw [← ho2, List.length_append]; omega
  obtain ⟨o3, ho3⟩ : ∃ o, vint o2.length = o := ⟨_, rfl⟩
  have v3 : o3.length ≤ 10 := by rw [← ho3]; exact vint_len (by omega) (Nat.lt_of_le_of_lt l2 (by decide))
  obtain ⟨o4, ho4⟩ : ∃ o, sealL sumL o2 = o := ⟨_, rfl⟩
  have l4 : o4.length ≤ 3000000 := by rw [← ho4]; unfold sealL; rw [List.length_append, sumL_len]; omega
  have hF : o3 ++ o4 = wFrame sumL n b := by
    unfold wFrame wBody
    rw [ho1, ho2, ho3, ho4]
  have hV1 := fun w => x1Varint_any n w (by omega)
  rw [ho1] at hV1
  have hV2 := fun w => x1Varint_any o2.length w (by omega)
  rw [ho3] at hV2
  have hS := fun (w : World) (v : Value) (hv : Rd w v (bcells o2)) => x1Seal_any w v o2 hv (by omega)
  rw [ho4] at hS
  obtain ⟨B, hB⟩ : ∃ B, wFrame sumL n b = B := ⟨_, rfl⟩
  rw [hB] at hF ⊢
  have hn0 : (0 : Int) ≤ n := by omega
  have hn1 : (n : Int) ≤ 9007199254740993 := by omega
  have Hv := Lib.hid hv
  have HF := Lib.hid hF
  have H2 := Lib.hid ho2
  have hl0 : (0 : Int) ≤ o2.length := by omega
  clear hv hF hB ho1 ho3 ho4 ho2
  go_enter Tryz.func40, Tryz.ntmps40
  go_wp2_with first
    | (go_at_call 70; (with_reducible refine (hV1 _).mono ?_); rintro e w1 ⟨a1, c1, rfl, hR1, hB1⟩; have HR1 := Lib.hid (And.intro hR1 hB1); clear hR1 hB1 hV1)
    | (at_builtin; refine append_u8 rfl (.tmp 8) (.tmp 9) rfl (.slice a1 o1.length c1) (.slice pb b.length cb) o1 b o2 H2.out rfl (ownsRow_base0 HR1.out.1) rfl (Hv.out.below HR1.out.2) (by omega) ?_; intro v2 w2 h1 h2 h3 _; obtain ⟨a2, c2, rfl, _, _, _⟩ := row_slice h1; have HG2 := Lib.hid (Grew.own HR1.out.2 HR1.out.1 (grew_of h1 h2 h3)); clear h1 h2 h3)
    | (go_at_call 70; (with_reducible refine (hV2 _).mono ?_); rintro e w3 ⟨a3, c3, rfl, hR3, hB3⟩; have HR3 := Lib.hid (And.intro hR3 hB3); clear hR3 hB3)
    | (go_at_call 71; refine (hS _ _ ((Rd.ofOwns HG2.out.1).below HR3.out.2)).mono ?_; rintro e w4 ⟨a4, c4, rfl, hR4, hB4⟩; have HR4 := Lib.hid (And.intro hR4 hB4); clear hR4 hB4)
    | (at_builtin; refine append_u8 rfl (.tmp 14) (.tmp 16) rfl (.slice a3 o3.length c3) (.slice a4 o4.length c4) o3 o4 B HF.out rfl (ownsRow_base0 ((Upd.ofBelow (fp := noFp) HR4.out.2).row HR3.out.1 (fun _ _ h => h))) rfl (Rd.ofOwns HR4.out.1) (by omega) ?_; intro v5 w5 h1 h2 h3 _; obtain ⟨a5, c5, rfl, _, _, _⟩ := row_slice h1; have HG5 := Lib.hid (Grew.own (HR3.out.2.trans (HR4.out.2.mono HR3.out.2.size)) ((Upd.ofBelow (fp := noFp) HR4.out.2).row HR3.out.1 (fun _ _ h => h)) (grew_of h1 h2 h3)); clear h1 h2 h3)
  go_ret
  exact ⟨a5, c5, rfl, ownsRow_from HG5.out.1 (fun g hg => Nat.le_trans HG2.out.2.size (row_from HG5.out.1 hg)), HG2.out.2.trans (HG5.out.2.mono HG2.out.2.size)⟩
/-! ### a segment's bytes, record by record -/
def segB (first i : Nat) : List UInt8 := wHead sumL first ++ wFrames sumL first (List.replicate i [97, 98, 99])
theorem segB_zero (first : Nat) : segB first 0 = wHead sumL first := by unfold segB; simp [wFrames]
theorem segB_next (first i : Nat) : segB first i ++ wFrame sumL (first + i) [97, 98, 99] = segB first (i + 1) := by
  unfold segB
  rw [List.replicate_succ', wFrames_app, List.append_assoc, List.length_replicate]
  simp [wFrames]
theorem segB_file (first k : Nat) (b : List UInt8) : segB first k ++ b = wFileB first k b := by unfold segB wFileB; rw [List.append_assoc]
theorem fr3_len (n : Nat) (hn : n ≤ 9007199254740993) : (wFrame sumL n [97, 98, 99]).length ≤ 40 := by
  have v1 : (vint n).length ≤ 10 := vint_len (by omega) (Nat.lt_of_le_of_lt hn (by decide))
  have hb : (wBody n [97, 98, 99]).length ≤ 13 := by unfold wBody; rw [List.length_append]; simp; omega
  have v2 : (vint (wBody n [97, 98, 99]).length).length ≤ 10 := vint_len (by omega) (Nat.lt_of_le_of_lt hb (by decide))
  unfold wFrame sealL
  rw [List.length_append, List.length_append, sumL_len]
  omega
theorem segB_len (first : Nat) (hf : first ≤ 9007199254740992) (i : Nat) (h : first + i ≤ 9007199254740993) : (segB first i).length ≤ 40 + i * 40 := by
  induction i with
  | zero =>
    rw [segB_zero]
    have := (wHead_len sumL_len first hf).2
    omega
  | succ i ih =>
    have h1 := ih (by omega)
    have h2 := fr3_len (first + i) (by omega)
    rw [← segB_next, List.length_append]
    omega
/-- a string's bytes appended to bytes of one's own. -/
theorem append_u8s {w : World} {ops : Array Oper} {rest : List Oper} {o : Oper} {a : Act} {Q : Exit → Act → World → Prop} (hgd : o.guard = none) (s x : Operand)
    (ho : o.op = .call { callee := .builtin .append, args := #[s, x], argTypes := #[45, 9] })
    (base : Nat) (v : Value) (l r : List UInt8) (str : ByteArray) (hlm : l ++ str.data.toList = r) (hs : a.eval s = v) (hown : w.ownsRow base 5 1 v l.length (bcells l)) (hx : a.eval x = .string str)
    (h63 : l.length + str.size ≤ 140737488355328) (hbase : base ≤ w.heap.size)
    (h : ∀ v' w', w'.ownsRow base 5 1 v' r.length (bcells r) → Upd (fun k => v.ownBlock = some k) w w' → wpList Tryz.prog ops Q rest (a.put o.dst v') w') : wpList Tryz.prog ops Q (o :: rest) a w := by
  subst hlm
  obtain ⟨i0, hi, hz0, hz1, hz2⟩ := info_parts info_u8
  refine Lib.wpList_append_own_string w hgd s x 45 9 ho base 5 i0 Tryz.underlying45 Tryz.underlying9 hi hz0 hz1 hz2 v l.length (bcells l) hs hown str hx (by simp only [maxLen]; omega) h63 hbase ?_
  intro v' w' h1 h2 _
  have e1 : (l ++ str.data.toList).length = l.length + str.size := by simp
  have e2 : bcells (l ++ str.data.toList) = bcells l ++ Lib.strCells str := by rw [bcells_append]; rfl
  refine h v' w' ?_ ((Upd.refl _ w).grown h2 (fun _ hk => Or.inl hk))
  rw [e1, e2]
  exact h1
set_option maxRecDepth 100000 in
set_option maxHeartbeats 4000000 in
theorem file4_any (w : World) (first records : Nat) (behind : ByteArray) (hf : first + records ≤ 9007199254740993) (hr : records ≤ 100) (hf1 : first ≤ 9007199254740992) (hb : behind.size ≤ 1000) :
    Calls Tryz.prog 37 #[.int .i64 first, .int .i64 records, .string behind] w fun e w' => ∃ a c, e = .returned (.agg #[.string (wName first), .slice a (wFileB first records behind.data.toList).length c]) ∧ w'.ownsRow w.heap.size 5 1 (.slice a (wFileB first records behind.data.toList).length c) (wFileB first records behind.data.toList).length (bcells (wFileB first records behind.data.toList)) ∧ Below w.heap.size w w' := by
  have hF := segB_file first records behind.data.toList
  obtain ⟨F, hFF⟩ : ∃ F, wFileB first records behind.data.toList = F := ⟨_, rfl⟩
  rw [hFF] at hF ⊢
  have hln := fun i (hi : i ≤ records) => segB_len first hf1 i (by omega)
  have hR0 := alloc_at w (.cells #[.string ⟨#[]⟩, .slice none 0 0] 74)
  have hb0 : Below w.heap.size w (w.alloc (.cells #[.string ⟨#[]⟩, .slice none 0 0] 74)) := (Below.refl _ _).alloc (Nat.le_refl _) _
  obtain ⟨w0, hw0⟩ : ∃ y, w.alloc (.cells #[.string ⟨#[]⟩, .slice none 0 0] 74) = y := ⟨_, rfl⟩
  rw [hw0] at hR0 hb0
  have Hw0 := Lib.hid hw0
  clear hw0
  have hH := x4Head_any w0 first (by omega)
  rw [← segB_zero] at hH
  have hNm := fun w => x4Name_any w first (by omega)
  obtain ⟨nm, hnm⟩ : ∃ s, wName first = s := ⟨_, rfl⟩
  rw [hnm] at hNm ⊢
  have HF := Lib.hid hF
  have Hln := Lib.hid hln
  have HNm := Lib.hid hNm
  have kc := fun (w : World) (C : Array Value) (n c : Nat) => Lib.run_convert_bytes_const (P := Tryz.prog) w 45 5 C n c Tryz.underlying45 Tryz.underlying5
  clear hF hFF hln hnm hNm
  go_enter Tryz.func37, Tryz.ntmps37
  go_upto_region 1 with fail
  (try rw [Hw0.out])
  go_wp2_with (go_at_call 67; refine hH.mono ?_; rintro e w1 ⟨a1, c1, rfl, hr1, hb1⟩)
  have HR1 := Lib.hid (And.intro hr1 hb1)
  clear hr1 hb1 hH
  go_loopw [7, 8] (fun bv iv wr => ∃ (i : Nat) (a : Option Addr) (c : Nat), i ≤ records ∧ iv = .int .i64 i ∧ bv = .slice a (segB first i).length c ∧ wr.ownsRow w0.heap.size 5 1 (.slice a (segB first i).length c) (segB first i).length (bcells (segB first i)) ∧ Below w0.heap.size w0 wr) (fun _ iv _ => records - (intOf iv).toNat)
  case atStart => exact ⟨0, a1, c1, by omega, rfl, rfl, HR1.out.1, HR1.out.2⟩
  case round =>
    obtain ⟨i, a, c, hi, rfl, rfl, hrow, hB⟩ := hrel
    obtain ⟨wq, rfl⟩ : ∃ x, x = wr := ⟨_, rfl⟩
    have HQ := Lib.hid (And.intro hrow hB)
    clear hrow hB
    by_cases hlt : i < records
    · have hln1 := Hln.out (i + 1) (by omega)
      have hfr := fun (w : World) (v : Value) (hv : Rd w v (bcells [97, 98, 99])) => x4Frame_any w (first + i) v [97, 98, 99] (by omega) hv (by decide)
      have hs : ((first + i : Nat) : Int) = (first : Int) + (i : Int) := by omega
      rw [hs] at hfr
      have hnx := segB_next first i
      have hfl := fr3_len (first + i) (by omega)
      have hln0 := Hln.out i (by omega)
      obtain ⟨s0, hs0⟩ : ∃ s, segB first i = s := ⟨_, rfl⟩
      obtain ⟨s1, hs1⟩ : ∃ s, segB first (i + 1) = s := ⟨_, rfl⟩
      obtain ⟨f, hf0⟩ : ∃ s, wFrame sumL (first + i) [97, 98, 99] = s := ⟨_, rfl⟩
      rw [hs0] at HQ hnx hln0
      rw [hs1] at hnx
      rw [hf0] at hfr hnx hfl
      have Hs1 := Lib.hid hs1
      have Hnx := Lib.hid hnx
      have hltI : (i : Int) < (records : Int) := by omega
      rw [hs0]
      clear hs0 hs1 hf0 hnx hln1 hs
      go_wp2_with first
        | (go_at_call 40; refine (hfr _ _ (Rd_new _ _ _ _ (bcells [97, 98, 99]) _ _ rfl rfl)).mono ?_; rintro e w3 ⟨a3, c3, rfl, hR3, hB3⟩; have HR3 := Lib.hid (And.intro hR3 (show Below wq.heap.size wq w3 from ((Below.refl _ _).alloc (Nat.le_refl _) _).trans (hB3.mono (by simp)))); clear hR3 hB3)
        | (at_builtin; refine append_u8 rfl (.tmp 16) (.tmp 22) rfl (.slice a s0.length c) (.slice a3 f.length c3) s0 f s1 Hnx.out rfl (ownsRow_base0 ((Upd.ofBelow (fp := noFp) HR3.out.2).row HQ.out.1 (fun _ _ h => h))) rfl (Rd.ofOwns HR3.out.1) (by omega) ?_; intro v4 w4 g1 g2 g3 _; obtain ⟨a4, c4, rfl, _, _, _⟩ := row_slice g1; have HG4 := Lib.hid (Grew.own (HQ.out.2.trans (HR3.out.2.mono HQ.out.2.size)) ((Upd.ofBelow (fp := noFp) HR3.out.2).row HQ.out.1 (fun _ _ h => h)) (grew_of g1 g2 g3)); clear g1 g2 g3)
      go_roundw
      case rel => exact ⟨i + 1, a4, c4, by omega, by go_num, by rw [Hs1.out], by rw [Hs1.out]; exact HG4.out.1, HG4.out.2⟩
      case measure => simp [intOf]; omega
    · obtain rfl : i = records := by omega
      have hln0 := Hln.out i (by omega)
      obtain ⟨s0, hs0⟩ : ∃ s, segB first i = s := ⟨_, rfl⟩
      rw [hs0] at HQ hln0 HF
      rw [hs0]
      clear hs0
      have hR1 := (HQ.out.2.block _ (blk_lt hR0)).trans hR0
      obtain ⟨z0, z1, z2, z3⟩ := cells2 hR1
      have HR := Lib.hid hR1
      clear hR1
      go_wp2_with first
        | (go_at_call 44; refine (HNm.out _).mono ?_; rintro e w3 ⟨rfl, rfl⟩)
        | (at_builtin; refine append_u8s rfl (.tmp 26) (.tmp 27) rfl w0.heap.size (.slice a s0.length c) s0 F behind HF.out rfl HQ.out.1 rfl (by omega) HQ.out.2.size ?_; intro v4 w4 g1 g2; obtain ⟨a4, c4, rfl, _, _, _⟩ := row_slice (ownsRow_base0 g1); have HG4 := Lib.hid (And.intro g1 (show Below w0.heap.size w0 w4 from HQ.out.2.trans ((g2.mono (fun k hk => Or.inl (row_from HQ.out.1 hk))).below (fp := fun k => w0.heap.size ≤ k) (fun k hk => hk) HQ.out.2.size))); clear g1 g2; have hR4 := (HG4.out.2.block _ (blk_lt hR0)).trans hR0; obtain ⟨z0, z1, z2, z3⟩ := cells2 hR4)
      have hlt0 := blk_lt hR0
      have hs0 := hb0.size
      have hs4 := HG4.out.2.size
      have hU : Upd (· = w.heap.size) w4 ((w4.setCell ⟨w.heap.size, 0, none⟩ (.string nm)).setCell ⟨w.heap.size, 1, none⟩ (.slice a4 F.length c4)) := ((Upd.refl (· = w.heap.size) w4).setCell (p := ⟨w.heap.size, 0, none⟩) (Or.inl rfl) _).setCell (p := ⟨w.heap.size, 1, none⟩) (Or.inl rfl) _
      have hrow := hU.row HG4.out.1 (fun g hg e => by have h1 := row_from HG4.out.1 hg; omega)
      have hbel := hb0.trans ((HG4.out.2.mono hb0.size).trans (hU.below (N := w.heap.size) (fun k hk => by omega) (by omega)))
      exact bodyPost_ret (v := .agg #[.string nm, .slice a4 F.length c4]) (by simp [results, Tryz.results37, go_sem, z0, z1, z2, z3]) rfl ⟨a4, c4, rfl, ownsRow_from hrow (fun g hg => by have h1 := row_from HG4.out.1 hg; omega), hbel⟩
def flatF (L : List AFile5) : List Value := L.flatMap AFile5.cells
theorem flatF_at (l : List AFile5) (k : Nat) (hk : k < l.length) (j : Nat) (hj : j < 2) : (flatF l)[k * 2 + j]? = l[k].cells[j]? := by
  induction l generalizing k with
  | nil => simp at hk
  | cons a l ih =>
    have hc : flatF (a :: l) = a.cells ++ flatF l := by simp [flatF]
    rw [hc]
    have ha : a.cells.length = 2 := rfl
    cases k with
    | zero => rw [List.getElem?_append_left (by rw [ha]; omega)]; simp
    | succ k =>
      rw [List.getElem?_append_right (by rw [ha]; omega), ha, show (k + 1) * 2 + j - 2 = k * 2 + j by omega, ih k (by simpa using hk)]
      simp
/-- files in a new row. -/
theorem files_row (w : World) (L : List AFile5) (cs : Array Value) (T : TypeId) (n : Nat) (hn : n = L.length) (h : cs.toList = flatF L) (hl : n ≤ 100) (hok : ∀ x ∈ L, FileOk5 w x) : FilesAt5 (w.alloc (.cells cs T)) (.slice (some ⟨w.heap.size, 0, none⟩) n n) L := by
  have hb : Below w.heap.size w (w.alloc (.cells cs T)) := (Below.refl _ _).alloc (Nat.le_refl _) _
  refine Or.inr ⟨w.heap.size, 0, n, n, rfl, hn, by simp only [maxLen]; omega, fun j q hj => ?_⟩
  have hjl := (List.getElem?_eq_some_iff.1 hj).1
  have hjq : L[j] = q := (List.getElem?_eq_some_iff.1 hj).2
  refine ⟨q.cells, rfl, fun i u hu => ?_, rfl, ?_⟩
  · have hi : i < 2 := (List.getElem?_eq_some_iff.1 hu).1
    rw [Nat.zero_add, cell_at (alloc_at w _)]
    have h1 := flatF_at L j hjl i hi
    rw [hjq, hu, ← h] at h1
    simpa using h1
  · have := hok q (hjq ▸ List.getElem_mem hjl)
    exact { this with rd := this.rd.below hb }
end Go.Proofs.YtbiadclmonakkaaGreatDoor

/-
  WalNumbers: none, tells; Open of no disk.
-/
namespace Go.Proofs.YtbiadclmonakkaaGreatDoor
open Go.RowKit Go.Maps Go.MapKept
set_option linter.unusedSimpArgs false

theorem madeD_W (L : List AFile5) (l : List (ByteArray × List UInt8)) (h : L.map (fun x => (x.name, x.b)) = l) : madeD L = madeW l := by
  subst h
  unfold madeD madeW
  rw [List.foldl_map]
set_option maxRecDepth 100000 in
set_option maxHeartbeats 2000000 in
theorem wOpen_nil (w : World) (size : Int) (h0 : 64 ≤ size) (h1 : size ≤ 16777216) :
    Calls Tryz.prog 17 #[.pointer none, .int .i64 size] w fun e w' => e = .returned (.tuple #[.pointer none, .slice none 0 0, .int .i64 1]) ∧ Below w.heap.size w w' := by
  have hB0 : Below w.heap.size w (w.alloc (.cells #[.pointer none] 26)) := (Below.refl _ _).alloc (Nat.le_refl _) _
  have hR := fun w2 => Read_no (w := w2) (Or.inl rfl) wN
  have g1 : ¬ size < 64 := by omega
  have g2 : ¬ 16777216 < size := by omega
  have HR := Lib.hid hR
  clear hR
  go_enter Tryz.func17, Tryz.ntmps17
  go_wp2_with (go_at_call 51; refine (HR.out _).mono ?_; rintro e w3 ⟨rfl, hB3⟩)
  refine bodyPost_ret (v := .tuple #[.pointer none, .slice none 0 0, .int .i64 1]) (by simp [results, Tryz.results17, go_sem]) rfl ?_
  exact ⟨rfl, hB0.trans (hB3.mono hB0.size)⟩
set_option maxRecDepth 100000 in
set_option maxHeartbeats 4000000 in
theorem none4_yes (w : World) (hE : WEnv w) (va : Value) (L : List AFile5) (hL : FilesAt5 w va L) (l : List (ByteArray × List UInt8)) (hm : L.map (fun x => (x.name, x.b)) = l) (hb : ∀ x ∈ L, x.b.length ≤ 3000) (h14 : (wOpen (madeW l) 64).2.2 = 14 ∧ (wOpen (madeW l) 64).1.names.length = l.length) :
    Calls Tryz.prog 41 #[va] w fun e w' => e = .returned (.bool true) ∧ Below w.heap.size w w' := by
  obtain ⟨av, cv, rfl⟩ := SliceOf.shape hL
  obtain ⟨ex0, hex0⟩ : ∃ ex0 : Nat → Prop, ex0 = fun k => k < w.heap.size := ⟨_, rfl⟩
  have hx0 : ∀ k, ex0 k → k < w.heap.size := fun k hk => by rw [hex0] at hk; exact hk
  have hx1 : ∀ k, k < w.heap.size → ex0 k := fun k hk => by rw [hex0]; exact hk
  have hM := made4_any w ex0 _ L hL hx0 hx1 hb
  unfold MadePost refVal at hM
  rw [madeD_W L l hm] at hM
  obtain ⟨d0, hd0⟩ : ∃ d, madeW l = d := ⟨_, rfl⟩
  obtain ⟨r, hr⟩ : ∃ r, wOpen d0 64 = r := ⟨_, rfl⟩
  rw [hd0] at hM h14
  rw [hr] at h14
  have hn : l.length = L.length := by rw [← hm, List.length_map]
  obtain ⟨N, hN⟩ : ∃ N, L.length = N := ⟨_, rfl⟩
  rw [hn, hN] at h14
  rw [hN] at hM ⊢
  have HX := Lib.hid (And.intro hx0 hx1)
  have HR := Lib.hid (And.intro hr h14)
  clear hex0 hx0 hx1 hd0 hr h14 hn hN hL hb
  go_enter Tryz.func41, Tryz.ntmps41
  go_upto_region 2 with (go_at_call 38; refine hM.mono ?_; rintro e w1 ⟨p, m, a, n, c, exq, rfl, hqx, hD1, hR1, hK1⟩)
  have hb2 : Below w1.heap.size w1 (w1.alloc (.cells #[.int .i64 d0.most, .slice a n c, .int .i64 d0.left, .bool d0.down] 78)) := (Below.refl _ _).alloc (Nat.le_refl _) _
  obtain ⟨w2, hw2⟩ : ∃ y, w1.alloc (.cells #[.int .i64 d0.most, .slice a n c, .int .i64 d0.left, .bool d0.down] 78) = y := ⟨_, rfl⟩
  (try rw [hw2])
  rw [hw2] at hb2
  have hD2 := hD1.below hb2
  have hK2 : Keep ex0 w w2 := hK1.trans (Keep.ofBelow hb2 (fun k hk => hD1.lt (hqx k hk)))
  have hE2 := hE.below (hK2.below (fun k hk => HX.out.2 k hk))
  have hG : GlIn exq := hE.lt.mono (fun k hk => hqx _ (HX.out.2 k hk))
  have hOp := wOpen_at 64 hD2 hE2 hG
  rw [HR.out.1] at hOp
  unfold OpenPost at hOp
  simp only [HR.out.2.1, ne_eq, show ¬ ((14 : Int) = 0) by decide, not_false_eq_true, true_and, false_and, or_false] at hOp
  have H2 := Lib.hid (And.intro hqx hK2)
  clear hw2 hb2 hD1 hR1 hK1 hM hD2 hK2 hE2 hG hqx
  go_upto_region 3 with (go_at_call 17; refine hOp.mono ?_; rintro e w3 ⟨hK3, rfl, hD3⟩)
  have hLi := List_at hD3
  rw [HR.out.2.2] at hLi
  have hB3 : Below w.heap.size w w3 := (H2.out.2.trans (hK3.mono H2.out.1)).below (fun k hk => HX.out.2 k hk)
  clear hOp hD3 hK3
  go_wp2_with (go_at_call 28; refine hLi.mono ?_; rintro e w4 ⟨a4, c4, rfl, -, -, hb4⟩)
  go_ret
  exact ⟨rfl, hB3.trans (hb4.mono hB3.size)⟩
theorem texts_same (w : World) (va vb : Value) (a : List ByteArray) (ha : Rd w va (sCells a)) (hb : Rd w vb (sCells a)) (hl : a.length ≤ 100) :
    Calls Tryz.prog 20 #[va, vb] w fun e w' => e = .returned (.bool true) ∧ Below w.heap.size w w' :=
  (SameTexts_any w va vb a a ha hb (by simp only [maxLen]; omega) (by simp only [maxLen]; omega)).mono fun e w' h => ⟨by rw [h.1, decide_eq_true rfl], h.2⟩
set_option maxRecDepth 100000 in
set_option maxHeartbeats 4000000 in
theorem tells4_yes (w : World) (hE : WEnv w) (n : Nat) (files : List ByteArray) (vf : Value) (va : Value) (L : List AFile5) (hL : FilesAt5 w va L) (l : List (ByteArray × List UInt8)) (hm : L.map (fun x => (x.name, x.b)) = l) (hb : ∀ x ∈ L, x.b.length ≤ 3000) (hf : Rd w vf (sCells files)) (hfl : files.length ≤ 100)
    (h0 : (wOpen (madeW l) 64).2.2 = 0 ∧ (wOpen (madeW l) 64).2.1.recs.length = n ∧ (wOpen (madeW l) 64).1.names = files) :
    Calls Tryz.prog 39 #[.int .i64 n, vf, va] w fun e w' => e = .returned (.bool true) ∧ Below w.heap.size w w' := by
  obtain ⟨av, cv, rfl⟩ := SliceOf.shape hL
  obtain ⟨pf, cf, rfl⟩ := hf.shape
  rw [sCells_length] at hf ⊢
  obtain ⟨ex0, hex0⟩ : ∃ ex0 : Nat → Prop, ex0 = fun k => k < w.heap.size := ⟨_, rfl⟩
  have hx0 : ∀ k, ex0 k → k < w.heap.size := fun k hk => by rw [hex0] at hk; exact hk
  have hx1 : ∀ k, k < w.heap.size → ex0 k := fun k hk => by rw [hex0]; exact hk
  have hM := made4_any w ex0 _ L hL hx0 hx1 hb
  unfold MadePost refVal at hM
  rw [madeD_W L l hm] at hM
  obtain ⟨d0, hd0⟩ : ∃ d, madeW l = d := ⟨_, rfl⟩
  rw [hd0] at hM h0
  obtain ⟨⟨d1, f, er⟩, hr⟩ : ∃ r, wOpen d0 64 = r := ⟨_, rfl⟩
  rw [hr] at h0
  simp only at h0
  obtain ⟨rfl, hn, hnames⟩ := h0
  have HX := Lib.hid (And.intro hx0 hx1)
  have HR := Lib.hid (And.intro hr (And.intro hn hnames))
  have HF := Lib.hid hf
  clear hex0 hx0 hx1 hd0 hr hL hb hn hnames hf
  go_enter Tryz.func39, Tryz.ntmps39
  go_upto_region 2 with (go_at_call 38; refine hM.mono ?_; rintro e w1 ⟨p, m, a, k, c, exq, rfl, hqx, hD1, hR1, hK1⟩)
  have hb2 : Below w1.heap.size w1 (w1.alloc (.cells #[.int .i64 d0.most, .slice a k c, .int .i64 d0.left, .bool d0.down] 78)) := (Below.refl _ _).alloc (Nat.le_refl _) _
  obtain ⟨w2, hw2⟩ : ∃ y, w1.alloc (.cells #[.int .i64 d0.most, .slice a k c, .int .i64 d0.left, .bool d0.down] 78) = y := ⟨_, rfl⟩
  (try rw [hw2])
  rw [hw2] at hb2
  have hD2 := hD1.below hb2
  have hK2 : Keep ex0 w w2 := hK1.trans (Keep.ofBelow hb2 (fun k hk => hD1.lt (hqx k hk)))
  have hE2 := hE.below (hK2.below (fun k hk => HX.out.2 k hk))
  have hG : GlIn exq := hE.lt.mono (fun k hk => hqx _ (HX.out.2 k hk))
  have hOp := open_by (n := n) 64 hD2 hE2 hG HR.out.1 HR.out.2.1
  unfold OpenYes at hOp
  have H2 := Lib.hid (And.intro hqx hK2)
  clear hw2 hb2 hD1 hR1 hK1 hM hD2 hK2 hE2 hG hqx
  go_upto_region 3 with (go_at_call 17; refine hOp.mono ?_; rintro e w3 ⟨hK3, q, ar, cr, XL, rfl, hF3⟩)
  have hLi := List_at hF3.log.disk
  rw [HR.out.2.2] at hLi
  have hB3 : Below w.heap.size w w3 := (H2.out.2.trans (hK3.mono H2.out.1)).below (fun k hk => HX.out.2 k hk)
  clear hOp hF3 hK3
  go_wp2_with (first
    | (go_at_call 28; refine hLi.mono ?_; rintro e w4 ⟨a4, c4, rfl, hr4, -, hb4⟩; have hB4 := hB3.trans (hb4.mono hB3.size); have hST := texts_same w4 (.slice a4 files.length c4) (.slice pf files.length cf) files (Rd.ofOwns hr4) (HF.out.below hB4) hfl; clear hr4)
    | (go_at_call 20; (with_reducible refine hST.mono ?_); rintro e w5 ⟨rfl, hb5⟩))
  go_ret
  exact ⟨rfl, hB4.trans (hb5.mono hB4.size)⟩
section
variable {ex : Nat → Prop} {w : World} {q p m : Nat} {d d' : ADisk} {al : ALog}
/-- Open that fails. -/
theorem open_err (size er : Int) (h : DiskAt ex w p m d) (hE : WEnv w) (hG : GlIn ex) (he : (wOpen d size).2.2 = er) (h0 : er ≠ 0) (hd : (wOpen d size).1 = d') :
    Calls Tryz.prog 17 #[.pointer (some ⟨p, 0, none⟩), .int .i64 size] w fun e w' => e = .returned (.tuple #[.pointer none, .slice none 0 0, .int .i64 er]) ∧ DiskAt ex w' p m d' ∧ Keep ex w w' := by
  subst hd he
  refine (wOpen_at size h hE hG).mono fun e w' hp => ?_
  unfold OpenPost at hp
  obtain ⟨h1, ⟨_, h2, h3⟩ | ⟨h2, _⟩⟩ := hp
  · exact ⟨h2, h3, h1⟩
  · exact absurd h2 h0
theorem over_byW (z : Bool) (h : LogAt ex w q p m d al) (he : al.over = z) :
    Calls Tryz.prog 26 #[.pointer (some ⟨q, 0, none⟩)] w fun e w' => e = .returned (.bool z) ∧ w = w' := by
  have hA := wOver_at h
  rw [he] at hA
  exact hA
end
theorem make4_n (n : Nat) (hn : n ≤ 140737488355328) : ∃ C : Array Value, (∀ w : World, (Instr.makeSlice 45 (.int .i64 n) (.int .i64 n)).run Tryz.prog w = .ok (.slice (some ⟨w.heap.size, 0, none⟩) n n) (w.alloc (.cells C 5))) ∧
    ∀ w : World, Rd (w.alloc (.cells C 5)) (.slice (some ⟨w.heap.size, 0, none⟩) n n) (bcells (List.replicate n 0)) := by
  refine ⟨Array.replicate n (Value.int .u8 0), fun w => make_u8 n n (Nat.le_refl _) (by omega) w, fun w => ?_⟩
  refine Rd_new _ _ _ _ _ _ _ ?_ (by simp [bcells])
  simp [bcells]
theorem make4_lit (n : Nat) (z : Int) (hz : (n : Int) = z) (hn : n ≤ 140737488355328) : ∃ C : Array Value, (∀ w : World, (Instr.makeSlice 45 (.int .i64 z) (.int .i64 z)).run Tryz.prog w = .ok (.slice (some ⟨w.heap.size, 0, none⟩) n n) (w.alloc (.cells C 5))) ∧
    ∀ w : World, Rd (w.alloc (.cells C 5)) (.slice (some ⟨w.heap.size, 0, none⟩) n n) (bcells (List.replicate n 0)) := by
  subst hz; exact make4_n n hn
/-- the records of zeros. -/
theorem make4_most : ∃ (C C2 : Array Value) (Z Z2 : List UInt8), Z.length = 1048576 ∧ Z2.length = 1048577 ∧
    (∀ w : World, (Instr.makeSlice 45 (.int .i64 1048576) (.int .i64 1048576)).run Tryz.prog w = .ok (.slice (some ⟨w.heap.size, 0, none⟩) 1048576 1048576) (w.alloc (.cells C 5))) ∧
    (∀ w : World, Rd (w.alloc (.cells C 5)) (.slice (some ⟨w.heap.size, 0, none⟩) 1048576 1048576) (bcells Z)) ∧
    (∀ w : World, (Instr.makeSlice 45 (.int .i64 1048577) (.int .i64 1048577)).run Tryz.prog w = .ok (.slice (some ⟨w.heap.size, 0, none⟩) 1048577 1048577) (w.alloc (.cells C2 5))) ∧
    (∀ w : World, Rd (w.alloc (.cells C2 5)) (.slice (some ⟨w.heap.size, 0, none⟩) 1048577 1048577) (bcells Z2)) := by
  obtain ⟨n, hn⟩ : ∃ n : Nat, n = 1048576 := ⟨_, rfl⟩
  obtain ⟨m, hm⟩ : ∃ m : Nat, m = 1048577 := ⟨_, rfl⟩
  obtain ⟨C, h1, h2⟩ := make4_lit n 1048576 (by omega) (by omega)
  obtain ⟨C2, h3, h4⟩ := make4_lit m 1048577 (by omega) (by omega)
  obtain ⟨Z, hZ⟩ : ∃ Z, List.replicate n (0 : UInt8) = Z := ⟨_, rfl⟩
  obtain ⟨Z2, hZ2⟩ : ∃ Z2, List.replicate m (0 : UInt8) = Z2 := ⟨_, rfl⟩
  have e1 : Z.length = n := by rw [← hZ, List.length_replicate]
  have e2 : Z2.length = m := by rw [← hZ2, List.length_replicate]
  rw [hZ] at h2
  rw [hZ2] at h4
  rw [hn] at h1 h2 e1
  rw [hm] at h3 h4 e2
  exact ⟨C, C2, Z, Z2, e1, e2, h1, h2, h3, h4⟩
theorem repeatW_one (b : UInt8) (c : Nat) : Lib.repeatL [b] c = List.replicate c b := by
  induction c with
  | zero => rfl
  | succ c ih => rw [Lib.repeatL, ih]; rfl
theorem rep4_30 (w : World) : Calls Tryz.prog 42 #[.string ⟨#[120]⟩, .int .i64 30] w fun e w' => e = .returned (.string ⟨x30.toArray⟩) ∧ Below w.heap.size w w' := by
  refine (Tryz.strings_Repeat_main ⟨#[120]⟩ 30 w (by omega) (by omega) (by show 1 * 30 ≤ _; omega) (by show 0 < 1; omega)).mono fun e w' he => ⟨?_, he.2⟩
  rw [he.1]
  show Ending.returned (.string ⟨(Lib.repeatL [120] 30).toArray⟩) = _
  rw [repeatW_one]
  rfl
/-- a log is over, or not: its block alone. -/
def OverAt (w : World) (q : Nat) (z : Bool) : Prop := ∃ x0 x1 x2 x3 x4 x5 : Value, w.heap[q]? = some (.cells #[x0, x1, x2, x3, x4, x5, .bool z] 52 (0, 0))
theorem LogAt.overAt {ex : Nat → Prop} {w : World} {q p m : Nat} {d : ADisk} {al : ALog} (h : LogAt ex w q p m d al) : OverAt w q al.over := let ⟨_, hv⟩ := h; ⟨_, _, _, _, _, _, hv.blk⟩
theorem OverAt.lt {w : World} {q : Nat} {z : Bool} (h : OverAt w q z) : q < w.heap.size := let ⟨_, _, _, _, _, _, h⟩ := h; blk_lt h
theorem OverAt.keep {ex : Nat → Prop} {w w' : World} {q : Nat} {z : Bool} (h : OverAt w q z) (hk : Keep ex w w') (hx : ex q) : OverAt w' q z := let ⟨_, _, _, _, _, _, h⟩ := h; ⟨_, _, _, _, _, _, (hk.block q hx).trans h⟩
theorem over_cells {w : World} {q : Nat} {z : Bool} (h : OverAt w q z) :
    Calls Tryz.prog 26 #[.pointer (some ⟨q, 0, none⟩)] w fun e w' => e = .returned (.bool z) ∧ w = w' := by
  obtain ⟨x0, x1, x2, x3, x4, x5, h⟩ := h
  obtain ⟨c0, c1, c2, c3, c4, c5, c6, _⟩ := cells7 h
  clear h
  go_enter Tryz.func26, Tryz.ntmps26
  go_wp2
  go_ret
  exact ⟨rfl, rfl⟩
theorem str_rdW {w6 : World} {g cc : Nat} {s : ByteArray} (hc : ∀ j, j < s.size → w6.cell? ⟨g, j, none⟩ = some (.int .u8 (byteAt s j).toNat)) : Rd w6 (.slice (some ⟨g, 0, none⟩) s.size cc) (bcells s.data.toList) := by
  have hsz : s.data.toList.length = s.size := by simp
  refine Or.inr ⟨g, 0, s.size, cc, rfl, by rw [bcells_length]; exact hsz.symm, fun j u hu => ?_⟩
  have hj : j < s.data.toList.length := by have := (List.getElem?_eq_some_iff.1 hu).1; rwa [bcells_length] at this
  rw [bcells_at hj] at hu
  cases hu
  rw [Nat.zero_add, hc j (by rwa [hsz] at hj)]
  unfold byteAt
  rw [List.getD_eq_getElem?_getD, List.getElem?_eq_getElem hj]
  rfl
theorem Rd.takeB {w : World} {a : Option Addr} {n c : Nat} {l : List UInt8} (h : Rd w (.slice a n c) (bcells l)) (j : Nat) (hj : j ≤ l.length) : Rd w (.slice a j c) (bcells (l.take j)) := by
  rcases h with ⟨h1, h2⟩ | ⟨b, off, n', c', e, hn, hc⟩
  · have hl : l = [] := by cases l with | nil => rfl | cons x r => cases h2
    subst hl
    have hj0 : j = 0 := by simpa using hj
    subst hj0
    rcases h1 with h1 | h1
    · cases h1; exact Or.inl ⟨Or.inl rfl, rfl⟩
    · obtain ⟨a', c'', e⟩ := h1
      cases e
      exact Or.inl ⟨Or.inr ⟨_, _, rfl⟩, rfl⟩
  · cases e
    refine Or.inr ⟨b, off, j, c, rfl, by rw [bcells_length, List.length_take]; omega, fun i u hu => hc i u ?_⟩
    unfold bcells at hu ⊢
    rw [List.map_take] at hu
    rw [List.getElem?_take] at hu
    split at hu
    · exact hu
    · cases hu
end Go.Proofs.YtbiadclmonakkaaGreatDoor

/-
  WalNumbers: the files of the examples (printed by wip/gen/gen_wnm5.py).
-/
namespace Go.Proofs.YtbiadclmonakkaaGreatDoor
open Go.RowKit Go.Maps Go.MapKept

theorem file_by (w : World) (first records : Nat) (behind name : ByteArray) (B : List UInt8) (n : Nat) (hf : first + records ≤ 9007199254740993) (hr : records ≤ 100) (hf1 : first ≤ 9007199254740992) (hb : behind.size ≤ 1000) (hname : wName first = name) (hB : wFileB first records behind.data.toList = B) (hn : B.length = n) :
    Calls Tryz.prog 37 #[.int .i64 first, .int .i64 records, .string behind] w fun e w' => ∃ a c, e = .returned (.agg #[.string name, .slice a n c]) ∧ w'.ownsRow w.heap.size 5 1 (.slice a n c) n (bcells B) ∧ Below w.heap.size w w' ∧ n ≤ c ∧ c ≤ 9223372036854775807 := by
  have h := file4_any w first records behind hf hr hf1 hb
  rw [hname, hB, hn] at h
  refine h.mono fun e w' hq => ?_
  obtain ⟨a, c, h1, h2, h3⟩ := hq
  obtain ⟨a', c', h4, h5, h6, _⟩ := row_slice (ownsRow_base0 h2)
  cases h4
  exact ⟨a, c, h1, h2, h3, h5, by simp only [maxLen] at h6; omega⟩
theorem file_okw {w : World} {s : ByteArray} {v : Value} {b : List UInt8} (hs : s.size ≤ 1000) (hb : b.length ≤ 3000) (h : Rd w v (bcells b)) : FileOk5 w ⟨s, v, b⟩ := ⟨by simp only [maxLen]; omega, h, by simp only [maxLen]; omega⟩
theorem f53_len : (wFileB 5 3 []).length = 36 := by decide +kernel
theorem f53 (w : World) : Calls Tryz.prog 37 #[.int .i64 5, .int .i64 3, .string ⟨#[]⟩] w fun e w' => ∃ a c, e = .returned (.agg #[.string ⟨#[119, 53]⟩, .slice a 36 c]) ∧ w'.ownsRow w.heap.size 5 1 (.slice a 36 c) 36 (bcells (wFileB 5 3 [])) ∧ Below w.heap.size w w' ∧ 36 ≤ c ∧ c ≤ 9223372036854775807 :=
  file_by w 5 3 ⟨#[]⟩ ⟨#[119, 53]⟩ _ 36 (by decide) (by decide) (by decide) (by decide) (by decide +kernel) rfl f53_len
theorem f50_len : (wFileB 5 0 []).length = 9 := by decide +kernel
theorem f50 (w : World) : Calls Tryz.prog 37 #[.int .i64 5, .int .i64 0, .string ⟨#[]⟩] w fun e w' => ∃ a c, e = .returned (.agg #[.string ⟨#[119, 53]⟩, .slice a 9 c]) ∧ w'.ownsRow w.heap.size 5 1 (.slice a 9 c) 9 (bcells (wFileB 5 0 [])) ∧ Below w.heap.size w w' ∧ 9 ≤ c ∧ c ≤ 9223372036854775807 :=
  file_by w 5 0 ⟨#[]⟩ ⟨#[119, 53]⟩ _ 9 (by decide) (by decide) (by decide) (by decide) (by decide +kernel) rfl f50_len
theorem f82_len : (wFileB 8 2 []).length = 27 := by decide +kernel
theorem f82 (w : World) : Calls Tryz.prog 37 #[.int .i64 8, .int .i64 2, .string ⟨#[]⟩] w fun e w' => ∃ a c, e = .returned (.agg #[.string ⟨#[119, 56]⟩, .slice a 27 c]) ∧ w'.ownsRow w.heap.size 5 1 (.slice a 27 c) 27 (bcells (wFileB 8 2 [])) ∧ Below w.heap.size w w' ∧ 27 ≤ c ∧ c ≤ 9223372036854775807 :=
  file_by w 8 2 ⟨#[]⟩ ⟨#[119, 56]⟩ _ 27 (by decide) (by decide) (by decide) (by decide) (by decide +kernel) rfl f82_len
theorem f103_len : (wFileB 10 3 [120, 121, 122]).length = 39 := by decide +kernel
theorem f103 (w : World) : Calls Tryz.prog 37 #[.int .i64 10, .int .i64 3, .string ⟨#[120, 121, 122]⟩] w fun e w' => ∃ a c, e = .returned (.agg #[.string ⟨#[119, 49, 48]⟩, .slice a 39 c]) ∧ w'.ownsRow w.heap.size 5 1 (.slice a 39 c) 39 (bcells (wFileB 10 3 [120, 121, 122])) ∧ Below w.heap.size w w' ∧ 39 ≤ c ∧ c ≤ 9223372036854775807 :=
  file_by w 10 3 ⟨#[120, 121, 122]⟩ ⟨#[119, 49, 48]⟩ _ 39 (by decide) (by decide) (by decide) (by decide) (by decide +kernel) rfl f103_len
theorem f100_len : (wFileB 10 0 []).length = 9 := by decide +kernel
theorem f100 (w : World) : Calls Tryz.prog 37 #[.int .i64 10, .int .i64 0, .string ⟨#[]⟩] w fun e w' => ∃ a c, e = .returned (.agg #[.string ⟨#[119, 49, 48]⟩, .slice a 9 c]) ∧ w'.ownsRow w.heap.size 5 1 (.slice a 9 c) 9 (bcells (wFileB 10 0 [])) ∧ Below w.heap.size w w' ∧ 9 ≤ c ∧ c ≤ 9223372036854775807 :=
  file_by w 10 0 ⟨#[]⟩ ⟨#[119, 49, 48]⟩ _ 9 (by decide) (by decide) (by decide) (by decide) (by decide +kernel) rfl f100_len
theorem fgt_len : (wFileB 9007199254740992 1 []).length = 32 := by decide +kernel
theorem fgt (w : World) : Calls Tryz.prog 37 #[.int .i64 9007199254740992, .int .i64 1, .string ⟨#[]⟩] w fun e w' => ∃ a c, e = .returned (.agg #[.string ⟨#[119, 57, 48, 48, 55, 49, 57, 57, 50, 53, 52, 55, 52, 48, 57, 57, 50]⟩, .slice a 32 c]) ∧ w'.ownsRow w.heap.size 5 1 (.slice a 32 c) 32 (bcells (wFileB 9007199254740992 1 [])) ∧ Below w.heap.size w w' ∧ 32 ≤ c ∧ c ≤ 9223372036854775807 :=
  file_by w 9007199254740992 1 ⟨#[]⟩ ⟨#[119, 57, 48, 48, 55, 49, 57, 57, 50, 53, 52, 55, 52, 48, 57, 57, 50]⟩ _ 32 (by decide) (by decide) (by decide) (by decide) (by decide +kernel) rfl fgt_len
theorem f91_len : (wFileB 9 1 []).length = 18 := by decide +kernel
theorem f91 (w : World) : Calls Tryz.prog 37 #[.int .i64 9, .int .i64 1, .string ⟨#[]⟩] w fun e w' => ∃ a c, e = .returned (.agg #[.string ⟨#[119, 57]⟩, .slice a 18 c]) ∧ w'.ownsRow w.heap.size 5 1 (.slice a 18 c) 18 (bcells (wFileB 9 1 [])) ∧ Below w.heap.size w w' ∧ 18 ≤ c ∧ c ≤ 9223372036854775807 :=
  file_by w 9 1 ⟨#[]⟩ ⟨#[119, 57]⟩ _ 18 (by decide) (by decide) (by decide) (by decide) (by decide +kernel) rfl f91_len
theorem f111_len : (wFileB 11 1 []).length = 18 := by decide +kernel
theorem f111 (w : World) : Calls Tryz.prog 37 #[.int .i64 11, .int .i64 1, .string ⟨#[]⟩] w fun e w' => ∃ a c, e = .returned (.agg #[.string ⟨#[119, 49, 49]⟩, .slice a 18 c]) ∧ w'.ownsRow w.heap.size 5 1 (.slice a 18 c) 18 (bcells (wFileB 11 1 [])) ∧ Below w.heap.size w w' ∧ 18 ≤ c ∧ c ≤ 9223372036854775807 :=
  file_by w 11 1 ⟨#[]⟩ ⟨#[119, 49, 49]⟩ _ 18 (by decide) (by decide) (by decide) (by decide) (by decide +kernel) rfl f111_len
theorem f82x_len : (wFileB 8 2 [120]).length = 28 := by decide +kernel
theorem f82x (w : World) : Calls Tryz.prog 37 #[.int .i64 8, .int .i64 2, .string ⟨#[120]⟩] w fun e w' => ∃ a c, e = .returned (.agg #[.string ⟨#[119, 56]⟩, .slice a 28 c]) ∧ w'.ownsRow w.heap.size 5 1 (.slice a 28 c) 28 (bcells (wFileB 8 2 [120])) ∧ Below w.heap.size w w' ∧ 28 ≤ c ∧ c ≤ 9223372036854775807 :=
  file_by w 8 2 ⟨#[120]⟩ ⟨#[119, 56]⟩ _ 28 (by decide) (by decide) (by decide) (by decide) (by decide +kernel) rfl f82x_len
theorem f101_len : (wFileB 10 1 []).length = 18 := by decide +kernel
theorem f101 (w : World) : Calls Tryz.prog 37 #[.int .i64 10, .int .i64 1, .string ⟨#[]⟩] w fun e w' => ∃ a c, e = .returned (.agg #[.string ⟨#[119, 49, 48]⟩, .slice a 18 c]) ∧ w'.ownsRow w.heap.size 5 1 (.slice a 18 c) 18 (bcells (wFileB 10 1 [])) ∧ Below w.heap.size w w' ∧ 18 ≤ c ∧ c ≤ 9223372036854775807 :=
  file_by w 10 1 ⟨#[]⟩ ⟨#[119, 49, 48]⟩ _ 18 (by decide) (by decide) (by decide) (by decide) (by decide +kernel) rfl f101_len
theorem f80_len : (wFileB 8 0 []).length = 9 := by decide +kernel
theorem f80 (w : World) : Calls Tryz.prog 37 #[.int .i64 8, .int .i64 0, .string ⟨#[]⟩] w fun e w' => ∃ a c, e = .returned (.agg #[.string ⟨#[119, 56]⟩, .slice a 9 c]) ∧ w'.ownsRow w.heap.size 5 1 (.slice a 9 c) 9 (bcells (wFileB 8 0 [])) ∧ Below w.heap.size w w' ∧ 9 ≤ c ∧ c ≤ 9223372036854775807 :=
  file_by w 8 0 ⟨#[]⟩ ⟨#[119, 56]⟩ _ 9 (by decide) (by decide) (by decide) (by decide) (by decide +kernel) rfl f80_len
theorem f72_len : (wFileB 7 2 []).length = 27 := by decide +kernel
theorem f72 (w : World) : Calls Tryz.prog 37 #[.int .i64 7, .int .i64 2, .string ⟨#[]⟩] w fun e w' => ∃ a c, e = .returned (.agg #[.string ⟨#[119, 55]⟩, .slice a 27 c]) ∧ w'.ownsRow w.heap.size 5 1 (.slice a 27 c) 27 (bcells (wFileB 7 2 [])) ∧ Below w.heap.size w w' ∧ 27 ≤ c ∧ c ≤ 9223372036854775807 :=
  file_by w 7 2 ⟨#[]⟩ ⟨#[119, 55]⟩ _ 27 (by decide) (by decide) (by decide) (by decide) (by decide +kernel) rfl f72_len
theorem field_W1 (w : World) (x y : Value) : (Instr.field 74 (.agg #[x, y]) 1).run Tryz.prog w = .ok y w := by kernel_rfl
theorem f5k (w : World) (j : Nat) (hj : j < 3) : Calls Tryz.prog 37 #[.int .i64 5, .int .i64 ((j : Int) + 1), .string ⟨#[]⟩] w fun e w' => ∃ a c, e = .returned (.agg #[.string ⟨#[119, 53]⟩, .slice a (9 + 9 * (j + 1)) c]) ∧ w'.ownsRow w.heap.size 5 1 (.slice a (9 + 9 * (j + 1)) c) (9 + 9 * (j + 1)) (bcells (wFileB 5 (j + 1) [])) ∧ Below w.heap.size w w' ∧ 9 + 9 * (j + 1) ≤ c ∧ c ≤ 9223372036854775807 := by
  have h := file_by w 5 (j + 1) ⟨#[]⟩ ⟨#[119, 53]⟩ _ (9 + 9 * (j + 1)) (by omega) (by omega) (by decide) (by decide) (by decide +kernel) rfl (fileB_len (j + 1) (by omega))
  rw [show ((j + 1 : Nat) : Int) = (j : Int) + 1 from by omega] at h
  exact h
theorem fr11_len : (wFrame sumL 11 []).length = 6 := by decide +kernel
theorem fr11 (w : World) : Calls Tryz.prog 40 #[.int .i64 11, .slice none 0 0] w fun e w' => ∃ a c, e = .returned (.slice a 6 c) ∧ Rd w' (.slice a 6 c) (bcells (wFrame sumL 11 [])) ∧ Below w.heap.size w w' := by
  have h := x4Frame_any w 11 (.slice none 0 0) [] (by decide) (Or.inl ⟨Or.inl rfl, rfl⟩) (by decide)
  rw [fr11_len] at h
  refine h.mono fun e w' hq => ?_
  obtain ⟨a, c, h1, h2, h3⟩ := hq
  exact ⟨a, c, h1, Rd.ofOwns h2, h3⟩
end Go.Proofs.YtbiadclmonakkaaGreatDoor
