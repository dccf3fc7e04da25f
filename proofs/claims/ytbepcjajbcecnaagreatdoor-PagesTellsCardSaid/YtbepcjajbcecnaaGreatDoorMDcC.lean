/-
  The document's pages: which files go, plainly: the same as the program's. No program here.
-/
import Derived.Test.YtbepcjajbcecnaaGreatDoorMDcA
import Derived.Outline
import Derived.BigQuiet
import Derived.Deep.QuietTactic
import Derived.Test.YtbepcjajbcecnaaGreatDoorMRfB
import Derived.Test.YtbepcjajbcecnaaGreatDoorMPmG
import Derived.Test.YtbepcjajbcecnaaGreatDoorMPmB
namespace Go.Proofs.YtbepcjajbcecnaaGreatDoor

/-- does a file belong to another commit? -/
def dOther (k : Nat) (l : List (ByteArray × ABlob)) (s : ByteArray) : Bool :=
  if 0 < rNum s 99 then l.all (fun p => decide (p.2.pack ≠ rNum s 99)) else decide (s = freshI) || (decide (0 < rNum s 105) && decide (rNum s 105 ≠ k))
theorem mem_once {x : Nat} {l : List Nat} : x ∈ once l ↔ x ∈ l := by
  induction l with
  | nil => rfl
  | cons y r ih =>
    unfold once
    split
    · rename_i h
      rw [ih, List.mem_cons]
      exact ⟨Or.inr, fun e => by rcases e with rfl | e; exact h; exact e⟩
    · rw [List.mem_cons, List.mem_cons, ih]
theorem rNum_fresh (c : UInt8) : rNum freshI c = 0 := by unfold rNum; rw [pgNum_fresh]
theorem dOther_eq (k : Nat) (l : List (ByteArray × ABlob)) (s : ByteArray) : dOther k l s = pOther k (packsOf l) s := by
  unfold dOther pOther
  by_cases hf : s = freshI
  · subst hf
    rw [rNum_fresh, rNum_fresh]
    simp
  · rw [if_neg hf]
    cases hp : pgNum s with
    | none =>
      have h0 : ∀ c, rNum s c = 0 := fun c => by unfold rNum; rw [hp]
      rw [h0, h0]
      simp [hf]
    | some z =>
      obtain ⟨c, n⟩ := z
      obtain ⟨_, hc, h1, h2⟩ := pgNum_some hp
      rcases hc with rfl | rfl
      · have e1 : rNum s 105 = n := by unfold rNum; rw [hp]; simp
        have e2 : rNum s 99 = 0 := by unfold rNum; rw [hp]; simp
        rw [e1, e2]
        simp only [if_true]
        rw [if_neg (by omega), decide_eq_false hf, decide_eq_true (by omega : 0 < n)]
        simp
      · have e2 : rNum s 99 = n := by unfold rNum; rw [hp]; simp
        rw [e2, if_pos (by omega)]
        simp only
        rw [if_neg (by decide)]
        rw [Bool.eq_iff_iff]
        simp only [List.all_eq_true, decide_eq_true_eq]
        unfold packsOf
        rw [mem_once]
        constructor
        · intro h hm
          obtain ⟨hm, _⟩ := List.mem_filter.1 hm
          obtain ⟨p, hp2, he⟩ := List.mem_map.1 hm
          exact h p hp2 he
        · intro h p hp2 he
          exact h (List.mem_filter.2 ⟨List.mem_map.2 ⟨p, hp2, he⟩, by simp; omega⟩)
theorem remove_wf5 {d : ADisk} (h : d.WF) (s : ByteArray) : (d.remove s).WF := by
  unfold ADisk.remove
  split
  · exact h
  · split
    · exact h
    · split
      · exact h.fail
      · exact h.tick.del s
/-- behind some files: the disk that is, the names that are left. -/
def FreeSo (k : Nat) (held : List Nat) (r : ADisk × Int) (d : ADisk) (ns : List ByteArray) : Prop := ((pFreeL k held d ns).1, (pFreeL k held d ns).2.2) = r
theorem FreeSo.skip {k : Nat} {held : List Nat} {r : ADisk × Int} {d : ADisk} {s : ByteArray} {ns : List ByteArray} (h : FreeSo k held r d (s :: ns)) (ho : pOther k held s = false) : FreeSo k held r d ns := by
  unfold FreeSo at h ⊢
  rw [← h]
  unfold pFreeL
  rw [if_neg (by simp [ho])]
  cases ns <;> rfl
theorem FreeSo.bad {k : Nat} {held : List Nat} {r : ADisk × Int} {d : ADisk} {s : ByteArray} {ns : List ByteArray} (h : FreeSo k held r d (s :: ns)) (ho : pOther k held s = true) (he : d.removeErr s ≠ 0) : r = (d.remove s, d.removeErr s) := by
  unfold FreeSo at h
  rw [← h]
  unfold pFreeL
  rw [if_pos ho, if_pos he]
theorem FreeSo.next {k : Nat} {held : List Nat} {r : ADisk × Int} {d : ADisk} {s : ByteArray} {ns : List ByteArray} (h : FreeSo k held r d (s :: ns)) (ho : pOther k held s = true) (he : d.removeErr s = 0) : FreeSo k held r (d.remove s) ns := by
  unfold FreeSo at h ⊢
  rw [← h]
  conv => rhs; unfold pFreeL
  rw [if_pos ho, if_neg (by simp [he])]
theorem FreeSo.done {k : Nat} {held : List Nat} {r : ADisk × Int} {d : ADisk} (h : FreeSo k held r d []) : r = (d, 0) := by
  unfold FreeSo at h
  rw [← h]
  rfl
end Go.Proofs.YtbepcjajbcecnaaGreatDoor

/-
  The document's pages: free.
-/
namespace Go.Proofs.YtbepcjajbcecnaaGreatDoor
open Go.RowKit Go.Maps Go.MapKept
variable {X : Nat → Prop}
set_option linter.unusedSimpArgs false

/-- does it go? as the text decides it, ahead of the packs. -/
def dFirst (k : Nat) (s : ByteArray) : Bool := decide (s = freshI) || (decide (0 < rNum s 105) && decide (rNum s 105 ≠ k))
set_option maxRecDepth 100000 in
set_option maxHeartbeats 8000000 in
theorem r5free_any (w : World) (a : Option Addr) (n c : Nat) (d : ADisk) (k : Nat) (vk : Value) (ov : Bool) (ah : Option Addr) (nh ch : Nat) (l : List (ByteArray × ABlob)) (r : ADisk × Int) (h : RefAt X w a n c d) (hw : d.WF) (hX : NewOk X w)
    (hl : DKeys w ah nh ch l) (hll : l.length ≤ 5000) (hr : FreeSo k (packsOf l) r d d.names) :
    Calls Tryz.prog 77 #[.agg #[.int .i64 k, vk, .slice ah nh ch, .bool ov], refVal a n c d] w fun e w' => ∃ a' n' c' v, e = .returned (.tuple #[refVal a' n' c' r.1, v, .int .i64 r.2]) ∧ RefAt X w' a' n' c' r.1 ∧ Below w.heap.size w w' := by
  have hn := h.len
  have hnh := hl.len
  subst hn hnh
  have hcnt := hw.count
  unfold refVal
  go_enter Tryz.func77, Tryz.ntmps77
  go_wp2_with fail
  have hS0 := alloc2_at0 w (.cells #[.int .i64 k, vk, .slice ah l.length ch, .bool ov] 81) (.cells #[.int .i64 d.most, .slice a d.fs.length c, .int .i64 d.left, .bool d.down] 74)
  have hD0 := alloc2_at w (.cells #[.int .i64 k, vk, .slice ah l.length ch, .bool ov] 81) (.cells #[.int .i64 d.most, .slice a d.fs.length c, .int .i64 d.left, .bool d.down] 74)
  have hB0 : Below w.heap.size w (((w.alloc (.cells #[.int .i64 k, vk, .slice ah l.length ch, .bool ov] 81)).alloc (.cells #[.int .i64 d.most, .slice a d.fs.length c, .int .i64 d.left, .bool d.down] 74)).alloc (.cells #[.int .i64 0, .slice none 0 0, .int .i64 0, .bool false] 74)) := (((Below.refl _ _).alloc (Nat.le_refl _) _).alloc (by simp) _).alloc (by simp; omega) _
  have hS1 := alloc_old hS0 (.cells #[.int .i64 0, .slice none 0 0, .int .i64 0, .bool false] 74)
  have hD1 := alloc_old hD0 (.cells #[.int .i64 0, .slice none 0 0, .int .i64 0, .bool false] 74)
  have hZ1 := alloc_at ((w.alloc (.cells #[.int .i64 k, vk, .slice ah l.length ch, .bool ov] 81)).alloc (.cells #[.int .i64 d.most, .slice a d.fs.length c, .int .i64 d.left, .bool d.down] 74)) (.cells #[.int .i64 0, .slice none 0 0, .int .i64 0, .bool false] 74)
  obtain ⟨w1, hw1⟩ : ∃ y, (((w.alloc (.cells #[.int .i64 k, vk, .slice ah l.length ch, .bool ov] 81)).alloc (.cells #[.int .i64 d.most, .slice a d.fs.length c, .int .i64 d.left, .bool d.down] 74)).alloc (.cells #[.int .i64 0, .slice none 0 0, .int .i64 0, .bool false] 74)) = y := ⟨_, rfl⟩
  have hsz : w1.heap.size = w.heap.size + 3 := by rw [← hw1]; simp
  rw [show ((w.alloc (.cells #[.int .i64 k, vk, .slice ah l.length ch, .bool ov] 81)).alloc (.cells #[.int .i64 d.most, .slice a d.fs.length c, .int .i64 d.left, .bool d.down] 74)).heap.size = w.heap.size + 1 + 1 by simp] at hZ1
  rw [hw1] at hB0 hS1 hD1 hZ1 ⊢
  have Hsz := Lib.hid hsz
  clear hw1 hS0 hD0 hsz
  go_loopw [8, 9, 10, 11, 12, 13, 14] (fun ov8 iv _ _ _ _ _ wr => ∃ (i : Nat) (d' : ADisk) (a' : Option Addr) (n' c' : Nat) (out : List ByteArray) (ao : Option Addr) (co : Nat), i ≤ d.fs.length ∧ ov8 = .slice ao out.length co ∧ iv = .int .i64 i ∧ out.length ≤ i ∧
    wr.ownsRow w1.heap.size 9 1 (.slice ao out.length co) out.length (sCells out) ∧ wr.heap[w.heap.size]? = some (.cells #[.int .i64 k, vk, .slice ah l.length ch, .bool ov] 81) ∧
    wr.heap[w.heap.size + 1]? = some (.cells #[.int .i64 d'.most, .slice a' n' c', .int .i64 d'.left, .bool d'.down] 74) ∧ wr.heap[w.heap.size + 1 + 1]? = some (.cells #[.int .i64 0, .slice none 0 0, .int .i64 0, .bool false] 74) ∧
    Below w.heap.size w wr ∧ w1.heap.size ≤ wr.heap.size ∧ RefAt (fun k => X k ∧ (Value.slice ao out.length co).ownBlock ≠ some k) wr a' n' c' d' ∧ d'.WF ∧ FreeSo k (packsOf l) r d' (d.names.drop i)) (fun _ iv _ _ _ _ _ _ => d.fs.length - (intOf iv).toNat)
  case atStart => exact ⟨0, d, a, d.fs.length, c, [], none, 0, by omega, rfl, rfl, by simp, World.ownsRow_nil _ _ _ _, hS1, hD1, hZ1, hB0, Nat.le_refl _, (h.below hB0).narrow (fun k hk _ => ⟨hk, by simp [Value.ownBlock]⟩), hw, hr⟩
  case round =>
    obtain ⟨i, d', a', n', c', out, ao, co, hi, rfl, rfl, hol, hrow, hSr, hDr, hZr, hBr, hsr, hRr, hwr, hso⟩ := hrel
    obtain ⟨wq, rfl⟩ : ∃ x, x = wr := ⟨_, rfl⟩
    have HR := Lib.hid (And.intro hrow (And.intro hSr (And.intro hDr (And.intro hZr (And.intro hBr (And.intro hsr (And.intro hRr (And.intro hwr hso))))))))
    clear hrow hsr hwr hso hB0 hS1 hD1 hZ1
    by_cases hlt : i < d.fs.length
    · have hBr := HR.out.2.2.2.2.1
      obtain ⟨b, off, vb, rfl, e0, -⟩ := (h.below hBr).at i hlt
      obtain ⟨s, hs⟩ : ∃ s, d.fs[i].1 = s := ⟨_, rfl⟩
      rw [hs] at e0
      have hnd : d.names.drop i = s :: d.names.drop (i + 1) := by
        have h1 : i < d.names.length := by unfold ADisk.names; rw [List.length_map]; exact hlt
        rw [List.drop_eq_getElem_cons h1]
        congr 1
        simpa [ADisk.names] using hs
      have hso := HR.out.2.2.2.2.2.2.2.2
      rw [hnd] at hso
      have Hso := Lib.hid hso
      have hsm : s.size ≤ maxLen := by
        have h1 := hw.names _ (List.getElem_mem hlt)
        rw [hs] at h1
        unfold okName at h1
        simp at h1
        simp only [maxLen]
        omega
      have hltI : (i : Int) < (d.fs.length : Int) := by omega
      have hN1 := fun w => r5number_any w s 105 (Or.inl rfl) hsm
      have hN2 := fun w => r5number_any w s 99 (Or.inr rfl) hsm
      have hn1b : rNum s 105 ≤ 9007199254740992 := by
        unfold rNum
        split
        · rename_i x m hp
          split
          · exact (pgNum_some hp).2.2.2
          · omega
        · omega
      obtain ⟨x0, x1, x2, x3, x4, x5, x6, x7⟩ := cells4 hSr
      clear hs hnd hso
      go_upto_region 7 with fail
      have hx0 := fun m => ((below_drewN (Below.refl wq.heap.size wq) m).cell (p := ⟨w.heap.size, 0, none⟩) (cell_lt x0)).trans x0
      go_cut [11] from 28 to 41 (fun bv wx => bv = .bool (dFirst k s) ∧ Below wq.heap.size wq wx)
      case first =>
        by_cases hf : s = freshI
        · have hsf : (s.toList == [105, 46, 110, 101, 119]) = true := by
            have := strEq s freshI
            rw [decide_eq_true hf, show freshI.toList = [105, 46, 110, 101, 119] by rw [ByteArray.toList_eq]; rfl] at this
            exact this
          have Hb := Lib.hid (show dFirst k s = true by unfold dFirst; rw [decide_eq_true hf]; rfl)
          clear hf
          go_wp2_with fail
          go_quiet ((go_at_call 118; exact Calls.quiet_of_same ((hN1 _).mono fun _ _ h => ⟨h.1, h.2.symm⟩)))
          go_wp2_with fail
          go_meet
          case rel => first | exact ⟨by simp [Hb.out], below_drewN (Below.refl _ _) _⟩ | ((repeat apply Exists.intro); exact ⟨⟨by simp [Hb.out], below_drewN (Below.refl _ _) _⟩, rfl⟩)
        · have hsf : (s.toList == [105, 46, 110, 101, 119]) = false := by
            have := strEq s freshI
            rw [decide_eq_false hf, show freshI.toList = [105, 46, 110, 101, 119] by rw [ByteArray.toList_eq]; rfl] at this
            exact this
          obtain ⟨m, hm⟩ : ∃ m, rNum s 105 = m := ⟨_, rfl⟩
          have hdf : dFirst k s = (decide (0 < m) && decide (m ≠ k)) := by unfold dFirst; rw [decide_eq_false hf, hm]; rfl
          have Hdf := Lib.hid hdf
          rw [hm] at hN1
          clear hf hdf hm
          by_cases h0 : 0 < m
          · have h0d : decide ((0 : Int) < (m : Int)) = true := decide_eq_true (by omega)
            by_cases hmk : m = k
            · have hq : ((m : Int) != (k : Int)) = false := by simp [hmk]
              have Hb := Lib.hid (show dFirst k s = false by rw [Hdf.out, hmk]; simp)
              clear hmk
              go_wp2_with fail
              go_quiet ((go_at_call 118; exact Calls.quiet_of_same ((hN1 _).mono fun _ _ h => ⟨h.1, h.2.symm⟩)))
              go_wp2_with fail
              go_meet
              case rel => first | exact ⟨by simp [Hb.out], below_drewN (Below.refl _ _) _⟩ | ((repeat apply Exists.intro); exact ⟨⟨by simp [Hb.out], below_drewN (Below.refl _ _) _⟩, rfl⟩)
            · have hq : ((m : Int) != (k : Int)) = true := by simpa using (fun e => hmk (by omega) : ¬ (m : Int) = (k : Int))
              have Hb := Lib.hid (show dFirst k s = true by rw [Hdf.out, decide_eq_true h0, decide_eq_true hmk]; rfl)
              clear hmk
              go_wp2_with fail
              go_quiet ((go_at_call 118; exact Calls.quiet_of_same ((hN1 _).mono fun _ _ h => ⟨h.1, h.2.symm⟩)))
              go_wp2_with fail
              go_meet
              case rel => first | exact ⟨by simp [Hb.out], below_drewN (Below.refl _ _) _⟩ | ((repeat apply Exists.intro); exact ⟨⟨by simp [Hb.out], below_drewN (Below.refl _ _) _⟩, rfl⟩)
          · have Hb := Lib.hid (show dFirst k s = false by rw [Hdf.out, decide_eq_false h0]; rfl)
            obtain rfl : m = 0 := by omega
            clear h0
            go_wp2_with fail
            go_quiet ((go_at_call 118; exact Calls.quiet_of_same ((hN1 _).mono fun _ _ h => ⟨h.1, h.2.symm⟩)))
            go_wp2_with fail
            go_meet
            case rel => first | exact ⟨by simp [Hb.out], below_drewN (Below.refl _ _) _⟩ | ((repeat apply Exists.intro); exact ⟨⟨by simp [Hb.out], below_drewN (Below.refl _ _) _⟩, rfl⟩)
      case rest =>
        obtain ⟨rfl, hcb⟩ := hcut
        obtain ⟨w2, rfl⟩ : ∃ x, x = wc := ⟨_, rfl⟩
        have Hcb := Lib.hid hcb
        have hS2 := (hcb.block _ (blk_lt hSr)).trans hSr
        have hB2 : Below w.heap.size w w2 := hBr.trans (hcb.mono hBr.size)
        have HDK := Lib.hid (hl.below hB2)
        clear hcb hN1 hx0 e0 x0 x1 x2 x3 x4 x5 x6 x7 hSr
        obtain ⟨x0, x1, x2, x3, x4, x5, x6, x7⟩ := cells4 hS2
        obtain ⟨m, hm⟩ : ∃ m, rNum s 99 = m := ⟨_, rfl⟩
        have hdo : dOther k l s = if 0 < m then l.all (fun p => decide (p.2.pack ≠ m)) else dFirst k s := by unfold dOther dFirst; rw [hm]
        rw [hm] at hN2
        have Hdo := Lib.hid hdo
        obtain ⟨f1, hf1⟩ : ∃ f1, dFirst k s = f1 := ⟨_, rfl⟩
        rw [hf1] at Hdo ⊢
        clear hm hdo hf1
        go_upto_region 8 with fail
        by_cases h0 : 0 < m
        · have h0I : (0 : Int) < (m : Int) := by omega
          have Hd := Lib.hid (Hdo.out.trans (if_pos h0))
          clear h0
          go_wp2_with (go_at_call 118; refine (hN2 _).mono ?_; rintro e w3 ⟨rfl, rfl⟩)
          go_loopw [11, 12] (fun bv jv wr => ∃ j : Nat, j ≤ l.length ∧ bv = .bool ((l.take j).all (fun p => decide (p.2.pack ≠ m))) ∧ jv = .int .i64 j ∧ Below w2.heap.size w2 wr) (fun _ jv _ => l.length - (intOf jv).toNat)
          case atStart => exact ⟨0, by omega, rfl, rfl, Below.refl _ _⟩
          case round =>
            obtain ⟨j, hj, rfl, rfl, hBj⟩ := hrel
            obtain ⟨w3, rfl⟩ : ∃ x, x = wr := ⟨_, rfl⟩
            have x2' := (hBj.cell (p := ⟨w.heap.size, 2, none⟩) (cell_lt x2)).trans x2
            have x2d := fun m => ((below_drewN (Below.refl w3.heap.size w3) m).cell (p := ⟨w.heap.size, 2, none⟩) (cell_lt x2')).trans x2'
            by_cases hlt2 : j < l.length
            · obtain ⟨bh, oh, vh, hah, -, -, c2, -⟩ := (HDK.out.below hBj).at j hlt2
              subst hah
              obtain ⟨q, hq⟩ : ∃ q, l[j].2.pack = q := ⟨_, rfl⟩
              rw [hq] at c2
              have c2d := fun m => ((below_drewN (Below.refl w3.heap.size w3) m).cell (p := ⟨bh, oh + j * 4 + 2, none⟩) (cell_lt c2)).trans c2
              have htk : (l.take (j + 1)).all (fun p => decide (p.2.pack ≠ m)) = ((l.take j).all (fun p => decide (p.2.pack ≠ m)) && decide (q ≠ m)) := by
                rw [List.take_succ_eq_append_getElem hlt2, List.all_append, ← hq]; simp
              have Htk := Lib.hid htk
              obtain ⟨f2, hf2⟩ : ∃ f2, (l.take j).all (fun p => decide (p.2.pack ≠ m)) = f2 := ⟨_, rfl⟩
              rw [hf2] at Htk ⊢
              have hltJ : (j : Int) < (l.length : Int) := by omega
              have hqm : ((q : Int) != (m : Int)) = decide (q ≠ m) := by
                by_cases e : q = m
                · simp [e]
                · have : ¬ (q : Int) = (m : Int) := by omega
                  simp [e, this]
              have Hqm := Lib.hid hqm
              clear htk hf2 hq hqm
              cases f2 with
              | true =>
                go_wp2_with fail
                go_quiet ((go_at_call 118; exact Calls.quiet_of_same ((hN2 _).mono fun _ _ h => ⟨h.1, h.2.symm⟩)))
                go_wp2_with fail
                go_roundw
                case rel => exact ⟨j + 1, by omega, by rw [Htk.out, ← Hqm.out]; rfl, by go_num, below_drewN hBj _⟩
                case measure => simp [intOf]; omega
              | false =>
                go_wp2_with fail
                go_quiet ((go_at_call 118; exact Calls.quiet_of_same ((hN2 _).mono fun _ _ h => ⟨h.1, h.2.symm⟩)))
                go_wp2_with fail
                go_roundw
                case rel => exact ⟨j + 1, by omega, by rw [Htk.out]; rfl, by go_num, below_drewN hBj _⟩
                case measure => simp [intOf]; omega
            · obtain rfl : j = l.length := by omega
              rw [List.take_length]
              rw [← Hd.out]
              obtain ⟨oth, hoth⟩ : ∃ x, dOther k l s = x := ⟨_, rfl⟩
              rw [hoth]
              have hB23 := hBj
              go_upto_region 14 with fail
              have hpo : pOther k (packsOf l) s = oth := by rw [← dOther_eq]; exact hoth
              have Hpo := Lib.hid hpo
              have hBq3 : Below wq.heap.size wq w3 := Hcb.out.trans (hB23.mono Hcb.out.size)
              have HB3 := Lib.hid (And.intro hBq3 (hBr.trans (hBq3.mono hBr.size)))
              clear hoth hpo hB23 hBq3
              cases oth with
              | false =>
                have Hn := Lib.hid (Hso.out.skip Hpo.out)
                go_wp2_with fail
                go_roundw
                case rel => exact ⟨i + 1, d', a', n', c', out, ao, co, by omega, rfl, by go_num, by omega, (Upd.ofBelow (fp := noFp) HB3.out.1).row HR.out.1 (fun _ _ h => h), (HB3.out.1.block _ (blk_lt HR.out.2.1)).trans HR.out.2.1, (HB3.out.1.block _ (blk_lt HR.out.2.2.1)).trans HR.out.2.2.1, (HB3.out.1.block _ (blk_lt HR.out.2.2.2.1)).trans HR.out.2.2.2.1, HB3.out.2, Nat.le_trans HR.out.2.2.2.2.2.1 HB3.out.1.size, HR.out.2.2.2.2.2.2.1.below HB3.out.1, HR.out.2.2.2.2.2.2.2.1, Hn.out⟩
                case measure => simp [intOf]; omega
              | true =>
                have hD3 := (HB3.out.1.block _ (blk_lt HR.out.2.2.1)).trans HR.out.2.2.1
                obtain ⟨v0, v1, v2, v3, v4, v5, v6, v7⟩ := cells4 hD3
                have hRm := refRemove_any w3 a' n' c' d' s (HR.out.2.2.2.2.2.2.1.below HB3.out.1) HR.out.2.2.2.2.2.2.2.1 (fun k hk => ⟨(hX.below HB3.out.2) k hk, fun e => by have h1 := row_lt HR.out.1 e; have h2 := HB3.out.1.size; omega⟩)
                unfold refVal at hRm
                go_upto_region 16 with (go_at_call 119; refine hRm.mono ?_; rintro e w4 ⟨a4, n4, c4, rfl, hR4, hb4⟩)
                have hD4 := (hb4.block _ (blk_lt hD3)).trans hD3
                have hAl := alloc_at w4 (.cells #[.int .i64 (d'.remove s).most, .slice a4 n4 c4, .int .i64 (d'.remove s).left, .bool (d'.remove s).down] 74)
                have hD5 := alloc_old hD4 (.cells #[.int .i64 (d'.remove s).most, .slice a4 n4 c4, .int .i64 (d'.remove s).left, .bool (d'.remove s).down] 74)
                have hb5 : Below w3.heap.size w3 (w4.alloc (.cells #[.int .i64 (d'.remove s).most, .slice a4 n4 c4, .int .i64 (d'.remove s).left, .bool (d'.remove s).down] 74)) := hb4.alloc hb4.size _
                have hR5 := hR4.below ((Below.refl w4.heap.size w4).alloc (Nat.le_refl _) (.cells #[.int .i64 (d'.remove s).most, .slice a4 n4 c4, .int .i64 (d'.remove s).left, .bool (d'.remove s).down] 74))
                obtain ⟨w5, hw5⟩ : ∃ y, w4.alloc (.cells #[.int .i64 (d'.remove s).most, .slice a4 n4 c4, .int .i64 (d'.remove s).left, .bool (d'.remove s).down] 74) = y := ⟨_, rfl⟩
                rw [hw5] at hAl hD5 hb5 hR5 ⊢
                have hwf2 := remove_wf5 HR.out.2.2.2.2.2.2.2.1 s
                have Hbad := Lib.hid (Hso.out.bad Hpo.out)
                have Hnx := Lib.hid (Hso.out.next Hpo.out)
                obtain ⟨d2, hd2⟩ : ∃ x, d'.remove s = x := ⟨_, rfl⟩
                obtain ⟨er, her⟩ : ∃ x, d'.removeErr s = x := ⟨_, rfl⟩
                rw [hd2] at hAl hR5 hwf2 Hbad Hnx ⊢
                rw [her] at Hbad Hnx ⊢
                have Hwf2 := Lib.hid hwf2
                have hZ5 := (hb5.block _ (blk_lt ((HB3.out.1.block _ (blk_lt HR.out.2.2.2.1)).trans HR.out.2.2.2.1))).trans ((HB3.out.1.block _ (blk_lt HR.out.2.2.2.1)).trans HR.out.2.2.2.1)
                have hS5 := (hb5.block _ (blk_lt ((HB3.out.1.block _ (blk_lt HR.out.2.1)).trans HR.out.2.1))).trans ((HB3.out.1.block _ (blk_lt HR.out.2.1)).trans HR.out.2.1)
                clear v0 v1 v2 v3 v4 v5 v6 v7 hw5 hD4 hD3 hb4 hR4 hRm hd2 her hwf2
                obtain ⟨u0, u1, u2, u3, _⟩ := cells4 hAl
                obtain ⟨v0, v1, v2, v3, v4, v5, v6, v7⟩ := cells4 hD5
                have hB5 := HB3.out.2.trans (hb5.mono HB3.out.2.size)
                obtain ⟨p1, p2⟩ := ref_answer hR5 hD5 hB5 (by omega) (.int .i64 d2.most) (.slice a4 n4 c4) (.int .i64 d2.left) (.bool d2.down)
                have hD6 : ((((w5.setCell ⟨w.heap.size + 1, 0, none⟩ (.int .i64 d2.most)).setCell ⟨w.heap.size + 1, 1, none⟩ (.slice a4 n4 c4)).setCell ⟨w.heap.size + 1, 2, none⟩ (.int .i64 d2.left)).setCell ⟨w.heap.size + 1, 3, none⟩ (.bool d2.down)).heap[w.heap.size + 1]? = some (.cells #[.int .i64 d2.most, .slice a4 n4 c4, .int .i64 d2.left, .bool d2.down] 74) := setCell_at (setCell_at (setCell_at (setCell_at hD5 0 (.int .i64 d2.most)) 1 (.slice a4 n4 c4)) 2 (.int .i64 d2.left)) 3 (.bool d2.down)
                have hZ6 := setCell_old (setCell_old (setCell_old (setCell_old hZ5 (by omega : w.heap.size + 1 + 1 ≠ w.heap.size + 1) 0 (.int .i64 d2.most)) (by omega : w.heap.size + 1 + 1 ≠ w.heap.size + 1) 1 (.slice a4 n4 c4)) (by omega : w.heap.size + 1 + 1 ≠ w.heap.size + 1) 2 (.int .i64 d2.left)) (by omega : w.heap.size + 1 + 1 ≠ w.heap.size + 1) 3 (.bool d2.down)
                have H6 := Lib.hid (And.intro p1 (And.intro p2 (And.intro hD6 hZ6)))
                clear p1 p2 hD6 hZ6
                go_upto_region 17 with fail
                obtain ⟨w6, hw6⟩ : ∃ y, ((((w5.setCell ⟨w.heap.size + 1, 0, none⟩ (.int .i64 d2.most)).setCell ⟨w.heap.size + 1, 1, none⟩ (.slice a4 n4 c4)).setCell ⟨w.heap.size + 1, 2, none⟩ (.int .i64 d2.left)).setCell ⟨w.heap.size + 1, 3, none⟩ (.bool d2.down)) = y := ⟨_, rfl⟩
                have hU6 : Upd (· = w.heap.size + 1) w5 w6 := by rw [← hw6]; exact ((((Upd.refl (· = w.heap.size + 1) w5).setCell (p := ⟨w.heap.size + 1, 0, none⟩) (Or.inl rfl) _).setCell (p := ⟨w.heap.size + 1, 1, none⟩) (Or.inl rfl) _).setCell (p := ⟨w.heap.size + 1, 2, none⟩) (Or.inl rfl) _).setCell (p := ⟨w.heap.size + 1, 3, none⟩) (Or.inl rfl) _
                have HU6 := Lib.hid hU6
                rw [hw6] at H6 ⊢
                clear hw6 u0 u1 u2 u3 v0 v1 v2 v3 v4 v5 v6 v7 hAl hR5 hU6
                obtain ⟨v0, v1, v2, v3, v4, v5, v6, v7⟩ := cells4 H6.out.2.2.1
                obtain ⟨z0, z1, z2, z3, z4, z5, z6, z7⟩ := cells4 H6.out.2.2.2
                by_cases he : er = 0
                · subst he
                  have Hn := Lib.hid (Hnx.out rfl)
                  have hrow5 := (Upd.ofBelow (fp := noFp) (HB3.out.1.trans (hb5.mono HB3.out.1.size))).row HR.out.1 (fun _ _ h => h)
                  have hrow6 := HU6.out.row hrow5 (fun g hg e => by have h1 := (HR.out.1.lt g hg).1; have h2 := Hsz.out; have h3 : g = w.heap.size + 1 := e; omega)
                  have hrow7 := (Upd.ofBelow (fp := noFp) ((Below.refl w6.heap.size w6).alloc (Nat.le_refl _) (.cells #[.string s] 9))).row hrow6 (fun _ _ h => h)
                  have Hr7 := Lib.hid hrow7
                  clear hrow5 hrow6 hrow7
                  go_wp2_with (at_builtin; refine append_str5 rfl (.tmp 78) (.tmp 80) rfl (.slice ao out.length co) (.slice (some ⟨w6.heap.size, 0, none⟩) 1 1) out [s] (out ++ [s]) out.length rfl rfl rfl (ownsRow_base0 Hr7.out) rfl (Rd_new _ _ _ _ (sCells [s]) _ _ rfl rfl) (by simp; omega) ?_; intro v8 w8 g1 g2 g3; obtain ⟨a8, c8, rfl⟩ := row_str5 g1; have HG := Lib.hid (And.intro g1 (And.intro g2 g3)); clear g1 g2 g3)
                  have hs65 : w5.heap.size ≤ w6.heap.size := HU6.out.size
                  have hs16 : w1.heap.size ≤ w6.heap.size := Nat.le_trans (Nat.le_trans (Nat.le_trans HR.out.2.2.2.2.2.1 HB3.out.1.size) hb5.size) hs65
                  have hlow : ∀ g, (Value.slice ao out.length co).ownBlock = some g → w.heap.size + 3 ≤ g := fun g hg => by have h1 := (HR.out.1.lt g hg).1; have h2 := Hsz.out; omega
                  have hS6 := HU6.out.keep hS5 (by omega)
                  have hS7 := alloc_old hS6 (.cells #[.string s] 9)
                  have hD7 := alloc_old H6.out.2.2.1 (.cells #[.string s] 9)
                  have hZ7 := alloc_old H6.out.2.2.2 (.cells #[.string s] 9)
                  have hB7 : Below w.heap.size w (w6.alloc (.cells #[.string s] 9)) := H6.out.2.1.alloc H6.out.2.1.size _
                  have hR7 := H6.out.1.below ((Below.refl w6.heap.size w6).alloc (Nat.le_refl _) (.cells #[.string s] 9))
                  have hs7 : (w6.alloc (.cells #[.string s] 9)).heap.size = w6.heap.size + 1 := by simp
                  obtain ⟨w7, hw7⟩ : ∃ y, w6.alloc (.cells #[.string s] 9) = y := ⟨_, rfl⟩
                  rw [hw7] at HG hS7 hD7 hZ7 hB7 hR7 hs7
                  have U8 : Upd (fun k => (Value.slice ao out.length co).ownBlock = some k) w7 w8 := (Upd.refl _ w7).grown HG.out.2.1 (fun j hj => Or.inl hj)
                  have hS8 := U8.keep hS7 (fun e => by have := hlow _ e; omega)
                  have hD8 := U8.keep hD7 (fun e => by have := hlow _ e; omega)
                  have hZ8 := U8.keep hZ7 (fun e => by have := hlow _ e; omega)
                  have hB8 := hB7.trans (U8.below (N := w.heap.size) (fun j hj => by have := hlow _ hj; omega) hB7.size)
                  have hrow8 : w8.ownsRow w1.heap.size 9 1 (.slice a8 (out ++ [s]).length c8) (out ++ [s]).length (sCells (out ++ [s])) := ownsRow_from HG.out.1 (fun g hg => by
                    rcases HG.out.2.2 with e | ⟨g', e, h⟩
                    · rw [e] at hg; exact (HR.out.1.lt g hg).1
                    · rw [e] at hg; cases hg; omega)
                  have hR8 : RefAt (fun k => X k ∧ (Value.slice a8 (out ++ [s]).length c8).ownBlock ≠ some k) w8 a4 n4 c4 d2 := by
                    have r1 := RefAt.narrow (Y := fun k => (X k ∧ (Value.slice ao out.length co).ownBlock ≠ some k) ∧ k < w7.heap.size) hR7 (fun k hk hl => ⟨hk, hl⟩)
                    have r2 := r1.keep (w' := w8) (ex := fun k => (Value.slice ao out.length co).ownBlock ≠ some k ∧ k < w7.heap.size) (Keep.ofUpd U8 (fun j hj => ⟨hj.2, hj.1⟩)) (fun k hk _ => ⟨hk.1.2, hk.2⟩)
                    refine r2.narrow (fun k hk _ => ⟨hk.1.1, fun e => ?_⟩)
                    rcases HG.out.2.2 with e2 | ⟨g', e2, h⟩
                    · rw [e2] at e; exact hk.1.2 e
                    · rw [e2] at e; cases e; exact absurd hk.2 (by omega)
                  have HX := Lib.hid (And.intro hrow8 (And.intro hS8 (And.intro hD8 (And.intro hZ8 (And.intro hB8 (And.intro (Nat.le_trans hs16 (by have := U8.size; omega) : w1.heap.size ≤ w8.heap.size) hR8))))))
                  clear hrow8 hS8 hD8 hZ8 hB8 hR8 U8 hw7
                  go_roundw
                  case rel => exact ⟨i + 1, d2, a4, n4, c4, out ++ [s], a8, c8, by omega, by first | rfl | simp, by go_num, by simp; omega, HX.out.1, HX.out.2.1, HX.out.2.2.1, HX.out.2.2.2.1, HX.out.2.2.2.2.1, HX.out.2.2.2.2.2.1, HX.out.2.2.2.2.2.2, Hwf2.out, Hn.out⟩
                  case measure => simp [intOf]; omega
                · have hI : (er != 0) = true := by simpa using he
                  have hr2 := Hbad.out he
                  subst hr2
                  clear he
                  go_wp2_with fail
                  obtain ⟨p1, p2⟩ := ref_answer (RefAt.narrow (Y := X) H6.out.1 (fun k hk _ => hk.1)) H6.out.2.2.2 H6.out.2.1 (by omega) (.int .i64 d2.most) (.slice a4 n4 c4) (.int .i64 d2.left) (.bool d2.down)
                  exact bodyPost_ret (v := .tuple #[.agg #[.int .i64 d2.most, .slice a4 n4 c4, .int .i64 d2.left, .bool d2.down], .slice ao out.length co, .int .i64 er]) (by simp [results, Tryz.results77, go_sem, z0, z1, z2, z3, z4, z5, z6, z7]) rfl ⟨_, _, _, ⟨_, rfl⟩, p1, p2⟩
        · obtain rfl : m = 0 := by omega
          have Hd := Lib.hid (Hdo.out.trans (if_neg (by omega)))
          clear h0
          go_upto_region 14 with (go_at_call 118; refine (hN2 _).mono ?_; rintro e w3 ⟨rfl, rfl⟩)
          obtain ⟨w3, hw3⟩ : ∃ x, w2 = x := ⟨_, rfl⟩
          rw [hw3]
          have hB23 : Below w2.heap.size w2 w3 := hw3 ▸ Below.refl w2.heap.size w2
          obtain ⟨oth, hoe⟩ : ∃ x, f1 = x := ⟨_, rfl⟩
          have hoth := Hd.out.trans hoe
          rw [hoe]
          clear hw3 hoe
          have hpo : pOther k (packsOf l) s = oth := by rw [← dOther_eq]; exact hoth
          have Hpo := Lib.hid hpo
          have hBq3 : Below wq.heap.size wq w3 := Hcb.out.trans (hB23.mono Hcb.out.size)
          have HB3 := Lib.hid (And.intro hBq3 (hBr.trans (hBq3.mono hBr.size)))
          clear hoth hpo hB23 hBq3
          cases oth with
          | false =>
            have Hn := Lib.hid (Hso.out.skip Hpo.out)
            go_wp2_with fail
            go_roundw
            case rel => exact ⟨i + 1, d', a', n', c', out, ao, co, by omega, rfl, by go_num, by omega, (Upd.ofBelow (fp := noFp) HB3.out.1).row HR.out.1 (fun _ _ h => h), (HB3.out.1.block _ (blk_lt HR.out.2.1)).trans HR.out.2.1, (HB3.out.1.block _ (blk_lt HR.out.2.2.1)).trans HR.out.2.2.1, (HB3.out.1.block _ (blk_lt HR.out.2.2.2.1)).trans HR.out.2.2.2.1, HB3.out.2, Nat.le_trans HR.out.2.2.2.2.2.1 HB3.out.1.size, HR.out.2.2.2.2.2.2.1.below HB3.out.1, HR.out.2.2.2.2.2.2.2.1, Hn.out⟩
            case measure => simp [intOf]; omega
          | true =>
            have hD3 := (HB3.out.1.block _ (blk_lt HR.out.2.2.1)).trans HR.out.2.2.1
            obtain ⟨v0, v1, v2, v3, v4, v5, v6, v7⟩ := cells4 hD3
            have hRm := refRemove_any w3 a' n' c' d' s (HR.out.2.2.2.2.2.2.1.below HB3.out.1) HR.out.2.2.2.2.2.2.2.1 (fun k hk => ⟨(hX.below HB3.out.2) k hk, fun e => by have h1 := row_lt HR.out.1 e; have h2 := HB3.out.1.size; omega⟩)
            unfold refVal at hRm
            go_upto_region 16 with (go_at_call 119; refine hRm.mono ?_; rintro e w4 ⟨a4, n4, c4, rfl, hR4, hb4⟩)
            have hD4 := (hb4.block _ (blk_lt hD3)).trans hD3
            have hAl := alloc_at w4 (.cells #[.int .i64 (d'.remove s).most, .slice a4 n4 c4, .int .i64 (d'.remove s).left, .bool (d'.remove s).down] 74)
            have hD5 := alloc_old hD4 (.cells #[.int .i64 (d'.remove s).most, .slice a4 n4 c4, .int .i64 (d'.remove s).left, .bool (d'.remove s).down] 74)
            have hb5 : Below w3.heap.size w3 (w4.alloc (.cells #[.int .i64 (d'.remove s).most, .slice a4 n4 c4, .int .i64 (d'.remove s).left, .bool (d'.remove s).down] 74)) := hb4.alloc hb4.size _
            have hR5 := hR4.below ((Below.refl w4.heap.size w4).alloc (Nat.le_refl _) (.cells #[.int .i64 (d'.remove s).most, .slice a4 n4 c4, .int .i64 (d'.remove s).left, .bool (d'.remove s).down] 74))
            obtain ⟨w5, hw5⟩ : ∃ y, w4.alloc (.cells #[.int .i64 (d'.remove s).most, .slice a4 n4 c4, .int .i64 (d'.remove s).left, .bool (d'.remove s).down] 74) = y := ⟨_, rfl⟩
            rw [hw5] at hAl hD5 hb5 hR5 ⊢
            have hwf2 := remove_wf5 HR.out.2.2.2.2.2.2.2.1 s
            have Hbad := Lib.hid (Hso.out.bad Hpo.out)
            have Hnx := Lib.hid (Hso.out.next Hpo.out)
            obtain ⟨d2, hd2⟩ : ∃ x, d'.remove s = x := ⟨_, rfl⟩
            obtain ⟨er, her⟩ : ∃ x, d'.removeErr s = x := ⟨_, rfl⟩
            rw [hd2] at hAl hR5 hwf2 Hbad Hnx ⊢
            rw [her] at Hbad Hnx ⊢
            have Hwf2 := Lib.hid hwf2
            have hZ5 := (hb5.block _ (blk_lt ((HB3.out.1.block _ (blk_lt HR.out.2.2.2.1)).trans HR.out.2.2.2.1))).trans ((HB3.out.1.block _ (blk_lt HR.out.2.2.2.1)).trans HR.out.2.2.2.1)
            have hS5 := (hb5.block _ (blk_lt ((HB3.out.1.block _ (blk_lt HR.out.2.1)).trans HR.out.2.1))).trans ((HB3.out.1.block _ (blk_lt HR.out.2.1)).trans HR.out.2.1)
            clear v0 v1 v2 v3 v4 v5 v6 v7 hw5 hD4 hD3 hb4 hR4 hRm hd2 her hwf2
            obtain ⟨u0, u1, u2, u3, _⟩ := cells4 hAl
            obtain ⟨v0, v1, v2, v3, v4, v5, v6, v7⟩ := cells4 hD5
            have hB5 := HB3.out.2.trans (hb5.mono HB3.out.2.size)
            obtain ⟨p1, p2⟩ := ref_answer hR5 hD5 hB5 (by omega) (.int .i64 d2.most) (.slice a4 n4 c4) (.int .i64 d2.left) (.bool d2.down)
            have hD6 : ((((w5.setCell ⟨w.heap.size + 1, 0, none⟩ (.int .i64 d2.most)).setCell ⟨w.heap.size + 1, 1, none⟩ (.slice a4 n4 c4)).setCell ⟨w.heap.size + 1, 2, none⟩ (.int .i64 d2.left)).setCell ⟨w.heap.size + 1, 3, none⟩ (.bool d2.down)).heap[w.heap.size + 1]? = some (.cells #[.int .i64 d2.most, .slice a4 n4 c4, .int .i64 d2.left, .bool d2.down] 74) := setCell_at (setCell_at (setCell_at (setCell_at hD5 0 (.int .i64 d2.most)) 1 (.slice a4 n4 c4)) 2 (.int .i64 d2.left)) 3 (.bool d2.down)
            have hZ6 := setCell_old (setCell_old (setCell_old (setCell_old hZ5 (by omega : w.heap.size + 1 + 1 ≠ w.heap.size + 1) 0 (.int .i64 d2.most)) (by omega : w.heap.size + 1 + 1 ≠ w.heap.size + 1) 1 (.slice a4 n4 c4)) (by omega : w.heap.size + 1 + 1 ≠ w.heap.size + 1) 2 (.int .i64 d2.left)) (by omega : w.heap.size + 1 + 1 ≠ w.heap.size + 1) 3 (.bool d2.down)
            have H6 := Lib.hid (And.intro p1 (And.intro p2 (And.intro hD6 hZ6)))
            clear p1 p2 hD6 hZ6
            go_upto_region 17 with fail
            obtain ⟨w6, hw6⟩ : ∃ y, ((((w5.setCell ⟨w.heap.size + 1, 0, none⟩ (.int .i64 d2.most)).setCell ⟨w.heap.size + 1, 1, none⟩ (.slice a4 n4 c4)).setCell ⟨w.heap.size + 1, 2, none⟩ (.int .i64 d2.left)).setCell ⟨w.heap.size + 1, 3, none⟩ (.bool d2.down)) = y := ⟨_, rfl⟩
            have hU6 : Upd (· = w.heap.size + 1) w5 w6 := by rw [← hw6]; exact ((((Upd.refl (· = w.heap.size + 1) w5).setCell (p := ⟨w.heap.size + 1, 0, none⟩) (Or.inl rfl) _).setCell (p := ⟨w.heap.size + 1, 1, none⟩) (Or.inl rfl) _).setCell (p := ⟨w.heap.size + 1, 2, none⟩) (Or.inl rfl) _).setCell (p := ⟨w.heap.size + 1, 3, none⟩) (Or.inl rfl) _
            have HU6 := Lib.hid hU6
            rw [hw6] at H6 ⊢
            clear hw6 u0 u1 u2 u3 v0 v1 v2 v3 v4 v5 v6 v7 hAl hR5 hU6
            obtain ⟨v0, v1, v2, v3, v4, v5, v6, v7⟩ := cells4 H6.out.2.2.1
            obtain ⟨z0, z1, z2, z3, z4, z5, z6, z7⟩ := cells4 H6.out.2.2.2
            by_cases he : er = 0
            · subst he
              have Hn := Lib.hid (Hnx.out rfl)
              have hrow5 := (Upd.ofBelow (fp := noFp) (HB3.out.1.trans (hb5.mono HB3.out.1.size))).row HR.out.1 (fun _ _ h => h)
              have hrow6 := HU6.out.row hrow5 (fun g hg e => by have h1 := (HR.out.1.lt g hg).1; have h2 := Hsz.out; have h3 : g = w.heap.size + 1 := e; omega)
              have hrow7 := (Upd.ofBelow (fp := noFp) ((Below.refl w6.heap.size w6).alloc (Nat.le_refl _) (.cells #[.string s] 9))).row hrow6 (fun _ _ h => h)
              have Hr7 := Lib.hid hrow7
              clear hrow5 hrow6 hrow7
              go_wp2_with (at_builtin; refine append_str5 rfl (.tmp 78) (.tmp 80) rfl (.slice ao out.length co) (.slice (some ⟨w6.heap.size, 0, none⟩) 1 1) out [s] (out ++ [s]) out.length rfl rfl rfl (ownsRow_base0 Hr7.out) rfl (Rd_new _ _ _ _ (sCells [s]) _ _ rfl rfl) (by simp; omega) ?_; intro v8 w8 g1 g2 g3; obtain ⟨a8, c8, rfl⟩ := row_str5 g1; have HG := Lib.hid (And.intro g1 (And.intro g2 g3)); clear g1 g2 g3)
              have hs65 : w5.heap.size ≤ w6.heap.size := HU6.out.size
              have hs16 : w1.heap.size ≤ w6.heap.size := Nat.le_trans (Nat.le_trans (Nat.le_trans HR.out.2.2.2.2.2.1 HB3.out.1.size) hb5.size) hs65
              have hlow : ∀ g, (Value.slice ao out.length co).ownBlock = some g → w.heap.size + 3 ≤ g := fun g hg => by have h1 := (HR.out.1.lt g hg).1; have h2 := Hsz.out; omega
              have hS6 := HU6.out.keep hS5 (by omega)
              have hS7 := alloc_old hS6 (.cells #[.string s] 9)
              have hD7 := alloc_old H6.out.2.2.1 (.cells #[.string s] 9)
              have hZ7 := alloc_old H6.out.2.2.2 (.cells #[.string s] 9)
              have hB7 : Below w.heap.size w (w6.alloc (.cells #[.string s] 9)) := H6.out.2.1.alloc H6.out.2.1.size _
              have hR7 := H6.out.1.below ((Below.refl w6.heap.size w6).alloc (Nat.le_refl _) (.cells #[.string s] 9))
              have hs7 : (w6.alloc (.cells #[.string s] 9)).heap.size = w6.heap.size + 1 := by simp
              obtain ⟨w7, hw7⟩ : ∃ y, w6.alloc (.cells #[.string s] 9) = y := ⟨_, rfl⟩
              rw [hw7] at HG hS7 hD7 hZ7 hB7 hR7 hs7
              have U8 : Upd (fun k => (Value.slice ao out.length co).ownBlock = some k) w7 w8 := (Upd.refl _ w7).grown HG.out.2.1 (fun j hj => Or.inl hj)
              have hS8 := U8.keep hS7 (fun e => by have := hlow _ e; omega)
              have hD8 := U8.keep hD7 (fun e => by have := hlow _ e; omega)
              have hZ8 := U8.keep hZ7 (fun e => by have := hlow _ e; omega)
              have hB8 := hB7.trans (U8.below (N := w.heap.size) (fun j hj => by have := hlow _ hj; omega) hB7.size)
              have hrow8 : w8.ownsRow w1.heap.size 9 1 (.slice a8 (out ++ [s]).length c8) (out ++ [s]).length (sCells (out ++ [s])) := ownsRow_from HG.out.1 (fun g hg => by
                rcases HG.out.2.2 with e | ⟨g', e, h⟩
                · rw [e] at hg; exact (HR.out.1.lt g hg).1
                · rw [e] at hg; cases hg; omega)
              have hR8 : RefAt (fun k => X k ∧ (Value.slice a8 (out ++ [s]).length c8).ownBlock ≠ some k) w8 a4 n4 c4 d2 := by
                have r1 := RefAt.narrow (Y := fun k => (X k ∧ (Value.slice ao out.length co).ownBlock ≠ some k) ∧ k < w7.heap.size) hR7 (fun k hk hl => ⟨hk, hl⟩)
                have r2 := r1.keep (w' := w8) (ex := fun k => (Value.slice ao out.length co).ownBlock ≠ some k ∧ k < w7.heap.size) (Keep.ofUpd U8 (fun j hj => ⟨hj.2, hj.1⟩)) (fun k hk _ => ⟨hk.1.2, hk.2⟩)
                refine r2.narrow (fun k hk _ => ⟨hk.1.1, fun e => ?_⟩)
                rcases HG.out.2.2 with e2 | ⟨g', e2, h⟩
                · rw [e2] at e; exact hk.1.2 e
                · rw [e2] at e; cases e; exact absurd hk.2 (by omega)
              have HX := Lib.hid (And.intro hrow8 (And.intro hS8 (And.intro hD8 (And.intro hZ8 (And.intro hB8 (And.intro (Nat.le_trans hs16 (by have := U8.size; omega) : w1.heap.size ≤ w8.heap.size) hR8))))))
              clear hrow8 hS8 hD8 hZ8 hB8 hR8 U8 hw7
              go_roundw
              case rel => exact ⟨i + 1, d2, a4, n4, c4, out ++ [s], a8, c8, by omega, by first | rfl | simp, by go_num, by simp; omega, HX.out.1, HX.out.2.1, HX.out.2.2.1, HX.out.2.2.2.1, HX.out.2.2.2.2.1, HX.out.2.2.2.2.2.1, HX.out.2.2.2.2.2.2, Hwf2.out, Hn.out⟩
              case measure => simp [intOf]; omega
            · have hI : (er != 0) = true := by simpa using he
              have hr2 := Hbad.out he
              subst hr2
              clear he
              go_wp2_with fail
              obtain ⟨p1, p2⟩ := ref_answer (RefAt.narrow (Y := X) H6.out.1 (fun k hk _ => hk.1)) H6.out.2.2.2 H6.out.2.1 (by omega) (.int .i64 d2.most) (.slice a4 n4 c4) (.int .i64 d2.left) (.bool d2.down)
              exact bodyPost_ret (v := .tuple #[.agg #[.int .i64 d2.most, .slice a4 n4 c4, .int .i64 d2.left, .bool d2.down], .slice ao out.length co, .int .i64 er]) (by simp [results, Tryz.results77, go_sem, z0, z1, z2, z3, z4, z5, z6, z7]) rfl ⟨_, _, _, ⟨_, rfl⟩, p1, p2⟩
    · obtain rfl : i = d.fs.length := by omega
      have hd : r = (d', 0) := by
        have h1 := HR.out.2.2.2.2.2.2.2.2
        rw [show d.names.drop d.fs.length = [] by unfold ADisk.names; rw [List.drop_eq_nil_iff, List.length_map]; exact Nat.le_refl _] at h1
        exact h1.done
      subst hd
      have hBr := HR.out.2.2.2.2.1
      obtain ⟨x0, x1, x2, x3, x4, x5, x6, x7⟩ := cells4 hDr
      obtain ⟨z0, z1, z2, z3, z4, z5, z6, z7⟩ := cells4 hZr
      go_wp2_with fail
      obtain ⟨p1, p2⟩ := ref_answer (RefAt.narrow (Y := X) HR.out.2.2.2.2.2.2.1 (fun k hk _ => hk.1)) hZr hBr (by omega) (.int .i64 d'.most) (.slice a' n' c') (.int .i64 d'.left) (.bool d'.down)
      exact bodyPost_ret (v := .tuple #[.agg #[.int .i64 d'.most, .slice a' n' c', .int .i64 d'.left, .bool d'.down], .slice ao out.length co, .int .i64 0]) (by simp [results, Tryz.results77, go_sem, z0, z1, z2, z3, z4, z5, z6, z7]) rfl ⟨_, _, _, ⟨_, rfl⟩, p1, p2⟩
end Go.Proofs.YtbepcjajbcecnaaGreatDoor
