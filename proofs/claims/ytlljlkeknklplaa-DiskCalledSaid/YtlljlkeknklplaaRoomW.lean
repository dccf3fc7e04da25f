/-
  The walk of DiskRoom.
-/
import Derived.Outline
import Derived.Deep.OwnRows
import Derived.ProofKit
import Derived.Test.YtlljlkeknklplaaOpen1
import Derived.Test.YtlljlkeknklplaaAwake
namespace Go.Proofs.Ytlljlkeknklplaa
open Go.RowKit Go.Maps Go.MapKept

/-- the power is bound to nothing. -/
structure Calm (d : ADisk) : Prop where
  left : d.left = -1
  down : d.down = false
theorem Calm.put {d : ADisk} (h : Calm d) (s : ByteArray) (f : AFile) : Calm (d.put s f) ∧ (d.put s f).most = d.most ∧ (d.put s f).fs = putF d.fs s f ∧ d.err = 0 := by
  have h0 : d.left ≠ 0 := by rw [h.left]; decide
  unfold ADisk.put ADisk.err
  rw [if_neg h0, if_neg h0]
  exact ⟨⟨by simp [ADisk.tick, h.left]; omega, rfl⟩, rfl, rfl, rfl⟩
theorem putF_len (fs : List (ByteArray × AFile)) (s : ByteArray) (f : AFile) : (putF fs s f).length ≤ fs.length + 1 := by
  induction fs with
  | nil => simp [putF]
  | cons q r ih =>
    simp only [putF]
    split
    · simp
    · split
      · simp
      · simp; omega
theorem delF_len (fs : List (ByteArray × AFile)) (s : ByteArray) : (delF fs s).length ≤ fs.length := List.length_filter_le _ _

theorem Calm.does {d : ADisk} (h : Calm d) (c : ACall) : Calm (d.does c) ∧ (d.does c).most = d.most ∧ (d.does c).fs.length ≤ d.fs.length + 1 := by
  have hp : ∀ s f, Calm (d.put s f) ∧ (d.put s f).most = d.most ∧ (d.put s f).fs.length ≤ d.fs.length + 1 := fun s f => by
    obtain ⟨h1, h2, h3, _⟩ := h.put s f
    exact ⟨h1, h2, by rw [h3]; exact putF_len _ _ _⟩
  have hs : Calm d ∧ d.most = d.most ∧ d.fs.length ≤ d.fs.length + 1 := ⟨h, rfl, Nat.le_succ _⟩
  have h0 : d.left ≠ 0 := by rw [h.left]; decide
  have ht : Calm d.tick := ⟨by simp [ADisk.tick, h.left]; omega, rfl⟩
  unfold ADisk.does
  split
  · unfold ADisk.append; repeat' split
    all_goals first | exact hs | exact hp _ _
  split
  · unfold ADisk.append; repeat' split
    all_goals first | exact hs | exact hp _ _
  split
  · unfold ADisk.sync ADisk.cutTo; repeat' split
    all_goals first | exact hs | exact hp _ _
  split
  · unfold ADisk.rename; repeat' split
    all_goals first
      | exact hs
      | exact absurd ‹_› h0
      | exact ⟨⟨ht.left, rfl⟩, rfl, Nat.le_trans (putF_len _ _ _) (by have := delF_len d.fs c.name; omega)⟩
  split
  · unfold ADisk.remove; repeat' split
    all_goals first
      | exact hs
      | exact absurd ‹_› h0
      | exact ⟨⟨ht.left, rfl⟩, rfl, Nat.le_trans (delF_len _ _) (Nat.le_succ _)⟩
  split
  · unfold ADisk.cut ADisk.cutTo; repeat' split
    all_goals first | exact hs | exact hp _ _
  · exact hs

/-- what DiskRoom asks behind a call. -/
theorem room_err {d : ADisk} (h : Calm d) (hl : d.fs.length < 200) (c : ACall) :
    ((c.what = 0 ∨ c.what = 1) → d.doesErr c = 13 ∨ (d.doesErr c = 5 ∧ d.most < usedF d.fs + c.b.length) ∨ (d.doesErr c = 0 ∧ ¬ d.most < usedF d.fs + c.b.length)) ∧ ((c.what ≠ 0 ∧ c.what ≠ 1) → d.doesErr c ≠ 5) := by
  have h0 : d.left ≠ 0 := by rw [h.left]; decide
  have he : d.err = 0 := by unfold ADisk.err; rw [if_neg h0]
  have hd := h.down
  have happ : d.appendErr c.name c.b = 13 ∨ (d.appendErr c.name c.b = 5 ∧ d.most < usedF d.fs + c.b.length) ∨ (d.appendErr c.name c.b = 0 ∧ ¬ d.most < usedF d.fs + c.b.length) := by
    unfold ADisk.appendErr
    rw [if_neg (by simp [hd])]
    split
    · exact Or.inl rfl
    · split
      · rename_i hu; exact Or.inr (Or.inl ⟨rfl, hu⟩)
      · rename_i hu
        rw [if_neg (by omega), he]
        exact Or.inr (Or.inr ⟨rfl, hu⟩)
  unfold ADisk.doesErr
  constructor
  · rintro (h1 | h1)
    · rw [if_pos h1]; exact happ
    · rw [if_neg (by omega), if_pos h1]; exact happ
  · rintro ⟨h1, h2⟩
    rw [if_neg h1, if_neg h2]
    unfold ADisk.syncErr ADisk.renameErr ADisk.removeErr ADisk.cutErr
    rw [he]
    repeat' split
    all_goals decide

def zee : ByteArray := ⟨#[122]⟩
/-- the last lines of DiskRoom, as a law on plain disks. -/
theorem room_tail {d : ADisk} (h : Calm d) (hw : d.WF) (hl : d.fs.length < 200) (n : Nat) (hn : d.most = usedF d.fs + n) :
    d.appendErr zee (List.replicate (n + 1) 0) = 5 ∧ d.append zee (List.replicate (n + 1) 0) = d ∧ d.appendErr zee (List.replicate n 0) = 0 ∧
    (usedF (d.append zee (List.replicate n 0)).fs : Int) = d.most ∧ (d.append zee (List.replicate n 0)).appendErr zee [1] = 5 ∧ (d.append zee (List.replicate n 0)).append zee [1] = d.append zee (List.replicate n 0) ∧ (d.append zee (List.replicate n 0)).removeErr zee = 0 := by
  have hz : okName zee = true := by decide +kernel
  have h0 : d.left ≠ 0 := by rw [h.left]; decide
  have he : d.err = 0 := by unfold ADisk.err; rw [if_neg h0]
  have hd := h.down
  have e1 : d.appendErr zee (List.replicate (n + 1) 0) = 5 := by
    unfold ADisk.appendErr
    rw [if_neg (by simp [hd]), if_neg (by simp [hz]), if_pos (by simp; omega)]
  have e2 : d.append zee (List.replicate (n + 1) 0) = d := by
    unfold ADisk.append
    rw [if_neg (by simp [hd]), if_neg (by simp [hz]), if_pos (by simp; omega)]
  have e3 : d.appendErr zee (List.replicate n 0) = 0 := by
    unfold ADisk.appendErr
    rw [if_neg (by simp [hd]), if_neg (by simp [hz]), if_neg (by simp; omega), if_neg (by omega), he]
  have hput : d.append zee (List.replicate n 0) = d.put zee ⟨(afile d zee).firm, (afile d zee).loose ++ List.replicate n 0⟩ := by
    unfold ADisk.append
    rw [if_neg (by simp [hd]), if_neg (by simp [hz]), if_neg (by simp; omega), if_neg (by omega)]
  obtain ⟨c1, c2, c3, _⟩ := h.put zee ⟨(afile d zee).firm, (afile d zee).loose ++ List.replicate n 0⟩
  rw [← hput] at c1 c2 c3
  generalize d.append zee (List.replicate n 0) = d1 at *
  have hu : (usedF d1.fs : Int) = d.most := by
    have := used_putF hw.sorted zee ⟨(afile d zee).firm, (afile d zee).loose ++ List.replicate n 0⟩
    rw [← c3] at this
    have e : ((lk d.fs zee).map AFile.len).getD 0 = (afile d zee).len := by
      unfold afile
      cases lk d.fs zee <;> rfl
    have e' : (AFile.mk (afile d zee).firm ((afile d zee).loose ++ List.replicate n 0)).len = (afile d zee).len + n := by simp [AFile.len]; omega
    rw [e, e'] at this
    omega
  have hd1 := c1.down
  have h01 : d1.left ≠ 0 := by rw [c1.left]; decide
  refine ⟨e1, e2, e3, hu, ?_, ?_, ?_⟩
  · unfold ADisk.appendErr
    rw [if_neg (by simp [hd1]), if_neg (by simp [hz]), if_pos (by simp; omega)]
  · unfold ADisk.append
    rw [if_neg (by simp [hd1]), if_neg (by simp [hz]), if_pos (by simp; omega)]
  · unfold ADisk.removeErr
    rw [if_neg (by simp [hd1]), if_neg (by rw [c3, lk_putF]; simp)]
    unfold ADisk.err; rw [if_neg h01]

theorem Rd_made (w : World) (T : TypeId) (n : Nat) : Rd (w.alloc (.cells (madeCells #[.int .u8 0] n) T)) (.slice (some ⟨w.heap.size, 0, none⟩) n n) (bcells (List.replicate n 0)) := by
  refine Rd_new _ _ _ _ _ _ _ ?_ (by rw [bcells_length, List.length_replicate])
  rw [toList_madeCells_one, bcells_length, List.length_replicate, List.take_of_length_le (by simp)]
  simp [bcells]

set_option maxRecDepth 100000 in
set_option maxHeartbeats 8000000 in
theorem room_walk (w : World) (room : Int) (vl : Value) (cs : List ACall) (hr0 : 0 ≤ room) (hr1 : room ≤ 65535) (hcs : CallsAt w vl cs) :
    Calls Try.prog 8 #[.int .u16 room, vl] w fun e w' => e = .returned (.bool true) ∧ Below w.heap.size w w' := by
  obtain ⟨a, c, rfl⟩ := SliceOf.shape hcs
  have hcl := SliceOf.len_le hcs
  simp only [maxLen] at hcl
  have hm0 : 0 ≤ room % 301 := by omega
  have hm1 : room % 301 < 301 := by omega
  obtain ⟨ex, hex⟩ : ∃ ex : Nat → Prop, ex = fun k => k < w.heap.size := ⟨_, rfl⟩
  have Hex := Lib.hid hex
  have hx0 : ∀ k, ex k → k < w.heap.size := fun k hk => by rw [hex] at hk; exact hk
  clear hex
  go_enter Try.func8, Try.ntmps8
  go_wp2_with (go_at_call 12; refine (New_at (ex := ex) (room % 301) hm0 (by omega) hx0).mono ?_; generalize hp : w.heap.size + 1 = p; generalize hm : w.heap.size = m; rintro e w0 ⟨rfl, h0, kk0⟩; clear hp hm)
  go_loopw [8] (fun i wr => ∃ (k : Nat) (d : ADisk), k ≤ cs.length ∧ k ≤ 50 ∧ i = .int .i64 k ∧ DiskAt ex wr p m d ∧ Keep ex w wr ∧ Calm d ∧ d.most = room % 301 ∧ d.fs.length ≤ k) (fun i _ => cs.length - (intOf i).toNat)
  case atStart => exact ⟨0, _, by omega, by omega, rfl, h0, kk0, ⟨rfl, rfl⟩, rfl, by simp⟩
  case round =>
    obtain ⟨k, d, hk, hk50, rfl, hD, hK, hcalm, hmost, hlen⟩ := hrel
    clear h0 kk0
    have hbr : Below w.heap.size w wr := hK.below (fun k hk => by rw [Hex.out]; exact hk)
    by_cases hlt : k < cs.length
    · by_cases h50 : k < 50
      · obtain ⟨b, off, rfl, hbW, hok, c0, c1, c2, c3, c4, c5⟩ := hcs.at hbr k hlt
        have hexb : ex b := by rw [Hex.out]; exact hbW
        obtain ⟨cc, hcc⟩ : ∃ cc, cs[k] = cc := ⟨_, rfl⟩
        rw [hcc] at hok c0 c1 c2 c3 c4 c5
        clear hcc
        have hw0 := hok.what0
        have hw1 := hok.what1
        obtain ⟨avb, cvb, hvb⟩ := hok.rb.shape
        rw [bcells_length] at hvb
        cases hfit : fitsB cc with
        | false =>
          have Hmost := Lib.hid hmost
          clear hmost hvb
          go_wp2_with (go_at_call 20; refine (fits_any _ cc hok).mono ?_; rw [hfit]; rintro e w1 ⟨rfl, hb1⟩)
          go_roundw
          case rel => exact ⟨k + 1, d, by omega, by omega, by go_num, hD.below hb1, hK.trans (Keep.ofBelow hb1 (fun k hk => hD.lt hk)), hcalm, Hmost.out, by omega⟩
          case measure => simp [intOf]; omega
        | true =>
          have hlb : cc.b.length ≤ 150 := by
            simp only [fitsB, Bool.and_eq_true, decide_eq_true_eq] at hfit
            exact hfit.1.2
          obtain ⟨d', hd'⟩ : ∃ d', d.does cc = d' := ⟨_, rfl⟩
          have hcd := hcalm.does cc
          rw [hd'] at hcd
          obtain ⟨hcalm', hmost', hlen'⟩ := hcd
          rw [hmost] at hmost'
          have hrm := room_err hcalm (by omega) cc
          rw [hmost] at hrm
          have hu0 : (usedF d.fs : Int) ≤ room % 301 := by have := hD.wf.used; omega
          obtain ⟨fe, hfe, hcase⟩ : ∃ fe, d.doesErr cc = fe ∧ ((cc.what ≤ 1 ∧ fe = 13) ∨ (cc.what ≤ 1 ∧ fe = 5 ∧ room % 301 < usedF d.fs + cc.b.length) ∨ (cc.what ≤ 1 ∧ fe = 0 ∧ ¬ room % 301 < usedF d.fs + cc.b.length) ∨ (¬ cc.what ≤ 1 ∧ (fe == 5) = false)) := by
            refine ⟨_, rfl, ?_⟩
            by_cases h1 : cc.what ≤ 1
            · rcases hrm.1 (by omega) with h | h | h
              · exact Or.inl ⟨h1, h⟩
              · exact Or.inr (Or.inl ⟨h1, h⟩)
              · exact Or.inr (Or.inr (Or.inl ⟨h1, h⟩))
            · have := hrm.2 (by omega)
              exact Or.inr (Or.inr (Or.inr ⟨h1, by simpa using this⟩))
          have Hmost := Lib.hid hmost
          have Hmost' := Lib.hid hmost'
          have Hvb := Lib.hid hvb
          have Hfe := Lib.hid hfe
          have Hd' := Lib.hid hd'
          have Hrm := Lib.hid hrm
          clear hmost hvb hmost' hfe hd' hrm
          rcases hcase with ⟨h1, rfl⟩ | ⟨h1, rfl, h2⟩ | ⟨h1, rfl, h2⟩ | ⟨h1, h2⟩
          all_goals
            go_wp2_with first
              | (go_at_call 20; refine (fits_any _ cc hok).mono ?_; rw [hfit]; rintro e w1 ⟨rfl, hb1⟩)
              | (go_at_call 40; refine (Used_at (hD.below hb1)).mono ?_; rintro e w2 ⟨rfl, hb2⟩; have hb12 := hb1.trans (hb2.mono hb1.size); have e0 := (hb12.cell (p := ⟨_, _, none⟩) (cell_lt c0)).trans c0; have e1 := (hb12.cell (p := ⟨_, _, none⟩) (cell_lt c1)).trans c1; have e2 := (hb12.cell (p := ⟨_, _, none⟩) (cell_lt c2)).trans c2; have e3 := (hb12.cell (p := ⟨_, _, none⟩) (cell_lt c3)).trans c3; have e4 := (hb12.cell (p := ⟨_, _, none⟩) (cell_lt c4)).trans c4; have e5 := (hb12.cell (p := ⟨_, _, none⟩) (cell_lt c5)).trans c5)
              | (go_at_call 42; refine (does_at cc (hD.below hb12) (hok.below hb12) (by omega)).mono ?_; rw [Hfe.out, Hd'.out]; rintro e w3 ⟨rfl, hD', hK3⟩; have f0 := (hK3.cell hexb (off + k * 6)).trans e0; have f3 := ((hK3.cell hexb (off + k * 6 + 3)).trans e3).trans (congrArg some Hvb.out))
            have hwf' := hD'.wf
            have hnl : d'.names.length ≤ 200 := by simpa [ADisk.names] using hwf'.count
            have hub' : (usedF d'.fs : Int) ≤ room % 301 := by have := hwf'.used; have := Hmost'.out; omega
            have hK' := (hK.trans ((Keep.ofBelow hb12 (fun k hk => hD.lt hk)))).trans hK3
            go_wp2_with (go_at_call 16; refine (List_at hD').mono ?_; rintro e w4 ⟨la, lc, rfl, hrow, _, hb4⟩)
            have Hrow := Lib.hid hrow
            clear hrow
            go_loopw [11, 89] (fun t i wr => ∃ j : Nat, j ≤ d'.names.length ∧ i = .int .i64 j ∧ t = .int .i64 (d'.upto j) ∧ Below w4.heap.size w4 wr) (fun _ i _ => d'.names.length - (intOf i).toNat)
            case atStart => exact ⟨0, by omega, rfl, rfl, Below.refl _ _⟩
            case round =>
              obtain ⟨j, hj, rfl, rfl, hbj⟩ := hrel
              have hu0 := upto_le d' j hwf'.sorted
              by_cases hjl : j < d'.names.length
              · obtain ⟨gb, c', hv, hgb, hgl, hcells⟩ := row_cell Hrow.out j hjl
                cases hv
                have hcell := hcells j hjl
                rw [List.getElem?_map, List.getElem?_eq_getElem hjl, Option.map_some] at hcell
                have hcr := (hbj.cell (p := ⟨gb, j, none⟩) hgl).trans hcell
                have hks : d'.names[j].size ≤ 40 := hwf'.name_size (List.getElem_mem _)
                have hsucc := upto_succ d' j hjl
                have hu1 := upto_le d' (j + 1) hwf'.sorted
                have hul : d'.upto j + (afile d' d'.names[j]).len ≤ usedF d'.fs := by omega
                obtain ⟨s, hs⟩ : ∃ s, d'.names[j] = s := ⟨_, rfl⟩
                rw [hs] at hcr hks hsucc hul
                have Hsucc := Lib.hid hsucc
                clear hs hsucc hcells hcell
                go_wp2_with (go_at_call 36; refine (Size_at _ ((hD'.below hb4).below hbj) (by simp only [maxLen]; omega)).mono ?_; rintro e w5 ⟨rfl, hb5⟩)
                go_roundw
                case rel => exact ⟨j + 1, by omega, by go_num, by rw [Hsucc.out]; go_num, hbj.trans (hb5.mono hbj.size)⟩
                case measure => simp [intOf]; omega
              · obtain rfl : j = d'.names.length := by omega
                have hall := upto_all d' hwf'.sorted
                have hq1 : (((d'.upto d'.names.length : Nat) : Int) != (usedF d'.fs : Int)) = false := by rw [hall]; simp
                have hq2 : ¬ room % 301 < ((d'.upto d'.names.length : Nat) : Int) := by rw [hall]; omega
                go_wp2_with (go_at_call 40; refine (Used_at ((hD'.below hb4).below hbj)).mono ?_; rintro e w5 ⟨rfl, hb5⟩)
                go_roundw
                case rel => exact ⟨k + 1, d', by omega, by omega, by go_num, ((hD'.below hb4).below hbj).below hb5, ((hK'.trans (Keep.ofBelow hb4 (fun k hk => hD'.lt hk))).trans (Keep.ofBelow hbj (fun k hk => (hD'.below hb4).lt hk))).trans (Keep.ofBelow hb5 (fun k hk => ((hD'.below hb4).below hbj).lt hk)), hcalm', Hmost'.out, by omega⟩
                case measure => simp [intOf]; omega
      · have hu0 : (usedF d.fs : Int) ≤ room % 301 := by have := hD.wf.used; omega
        obtain ⟨n, hn⟩ : ∃ n : Nat, room % 301 - (usedF d.fs : Int) = n := ⟨(room % 301 - usedF d.fs).toNat, by omega⟩
        obtain ⟨t1, t2, t3, t4, t5, t6, t7⟩ := room_tail hcalm hD.wf (by omega) n (by omega)
        rw [hmost] at t4
        have T1 := Lib.hid t1
        have T2 := Lib.hid t2
        have T3 := Lib.hid t3
        have T4 := Lib.hid t4
        have T5 := Lib.hid t5
        have T6 := Lib.hid t6
        have T7 := Lib.hid t7
        have Hmost := Lib.hid hmost
        clear hmost t1 t2 t3 t4 t5 t6 t7
        have hmk0 := run_make_row' (P := Try.prog) 29 5 (.int .u8 0) 1 Try.underlying29 info_u8 rfl .i64 .i64 n (by omega) (by omega)
        have hmk1 := run_make_row' (P := Try.prog) 29 5 (.int .u8 0) 1 Try.underlying29 info_u8 rfl .i64 .i64 (n + 1) (by omega) (by omega)
        rw [show (((n + 1 : Nat) : Nat) : Int) = (n : Int) + 1 from rfl] at hmk1
        go_wp2_with fail
        refine (Used_at hD).mono ?_
        rintro e w1 ⟨rfl, hb1⟩
        go_wp2_with fail
        refine (Append_at zee _ (List.replicate (n + 1) 0) ((hD.below hb1).alloc _) (by decide) (Rd_made _ _ _) (by simp; omega)).mono ?_
        rw [T1.out, T2.out]
        rintro e w2 ⟨rfl, h2, k2⟩
        go_wp2_with fail
        refine (Append_at zee _ (List.replicate n 0) (h2.alloc _) (by decide) (Rd_made _ _ _) (by simp; omega)).mono ?_
        rw [T3.out]
        rintro e w3 ⟨rfl, h3, k3⟩
        go_wp2_with fail
        refine (Used_at h3).mono ?_
        rw [T4.out]
        rintro e w4 ⟨rfl, hb4⟩
        go_wp2_with fail
        refine (Append_at zee _ [1] ((h3.below hb4).alloc _) (by decide) (Rd_new _ _ _ _ (bcells [1]) _ _ rfl rfl) (by decide)).mono ?_
        rw [T5.out, T6.out]
        rintro e w5 ⟨rfl, h5, k5⟩
        go_wp2_with fail
        refine (Remove_at zee h5 (by decide)).mono ?_
        rw [T7.out]
        rintro e w6 ⟨rfl, h6, k6⟩
        go_wp2_with fail
        refine (awake_any _).mono ?_
        rintro e w7 ⟨rfl, hb7⟩
        go_wp2
        go_ret
        have hx : ∀ k, k < w.heap.size → ex k := fun k hk => by rw [Hex.out]; exact hk
        refine ⟨rfl, Keep.below (ex := ex) ?_ hx⟩
        exact (((((hK.trans (Keep.ofBelow hb1 (fun k hk => hD.lt hk))).trans ((Keep.alloc _ _ (fun k hk => (hD.below hb1).lt hk)).trans k2)).trans ((Keep.alloc _ _ (fun k hk => h2.lt hk)).trans k3)).trans (Keep.ofBelow hb4 (fun k hk => h3.lt hk))).trans ((Keep.alloc _ _ (fun k hk => (h3.below hb4).lt hk)).trans (k5.trans k6))).trans (Keep.ofBelow hb7 (fun k hk => h6.lt hk))
    · have hu0 : (usedF d.fs : Int) ≤ room % 301 := by have := hD.wf.used; omega
      obtain ⟨n, hn⟩ : ∃ n : Nat, room % 301 - (usedF d.fs : Int) = n := ⟨(room % 301 - usedF d.fs).toNat, by omega⟩
      obtain ⟨t1, t2, t3, t4, t5, t6, t7⟩ := room_tail hcalm hD.wf (by omega) n (by omega)
      rw [hmost] at t4
      have T1 := Lib.hid t1
      have T2 := Lib.hid t2
      have T3 := Lib.hid t3
      have T4 := Lib.hid t4
      have T5 := Lib.hid t5
      have T6 := Lib.hid t6
      have T7 := Lib.hid t7
      have Hmost := Lib.hid hmost
      clear hmost t1 t2 t3 t4 t5 t6 t7
      have hmk0 := run_make_row' (P := Try.prog) 29 5 (.int .u8 0) 1 Try.underlying29 info_u8 rfl .i64 .i64 n (by omega) (by omega)
      have hmk1 := run_make_row' (P := Try.prog) 29 5 (.int .u8 0) 1 Try.underlying29 info_u8 rfl .i64 .i64 (n + 1) (by omega) (by omega)
      rw [show (((n + 1 : Nat) : Nat) : Int) = (n : Int) + 1 from rfl] at hmk1
      go_wp2_with fail
      refine (Used_at hD).mono ?_
      rintro e w1 ⟨rfl, hb1⟩
      go_wp2_with fail
      refine (Append_at zee _ (List.replicate (n + 1) 0) ((hD.below hb1).alloc _) (by decide) (Rd_made _ _ _) (by simp; omega)).mono ?_
      rw [T1.out, T2.out]
      rintro e w2 ⟨rfl, h2, k2⟩
      go_wp2_with fail
      refine (Append_at zee _ (List.replicate n 0) (h2.alloc _) (by decide) (Rd_made _ _ _) (by simp; omega)).mono ?_
      rw [T3.out]
      rintro e w3 ⟨rfl, h3, k3⟩
      go_wp2_with fail
      refine (Used_at h3).mono ?_
      rw [T4.out]
      rintro e w4 ⟨rfl, hb4⟩
      go_wp2_with fail
      refine (Append_at zee _ [1] ((h3.below hb4).alloc _) (by decide) (Rd_new _ _ _ _ (bcells [1]) _ _ rfl rfl) (by decide)).mono ?_
      rw [T5.out, T6.out]
      rintro e w5 ⟨rfl, h5, k5⟩
      go_wp2_with fail
      refine (Remove_at zee h5 (by decide)).mono ?_
      rw [T7.out]
      rintro e w6 ⟨rfl, h6, k6⟩
      go_wp2_with fail
      refine (awake_any _).mono ?_
      rintro e w7 ⟨rfl, hb7⟩
      go_wp2
      go_ret
      have hx : ∀ k, k < w.heap.size → ex k := fun k hk => by rw [Hex.out]; exact hk
      refine ⟨rfl, Keep.below (ex := ex) ?_ hx⟩
      exact (((((hK.trans (Keep.ofBelow hb1 (fun k hk => hD.lt hk))).trans ((Keep.alloc _ _ (fun k hk => (hD.below hb1).lt hk)).trans k2)).trans ((Keep.alloc _ _ (fun k hk => h2.lt hk)).trans k3)).trans (Keep.ofBelow hb4 (fun k hk => h3.lt hk))).trans ((Keep.alloc _ _ (fun k hk => (h3.below hb4).lt hk)).trans (k5.trans k6))).trans (Keep.ofBelow hb7 (fun k hk => h6.lt hk))
/-- .. as the frame hands it. -/
theorem room_law (w : World) (a0 : Int) (w0 : (Lit.int .u16 a0).wf = true) {v : Value} (b1 : List ACall) (r1 : CallsAt w v b1) :
    Calls Try.prog 8 #[.int .u16 a0, v] w fun e w' => e = .returned (.bool true) ∧ Below w.heap.size w w' := by
  have hb := bounds_u16 w0
  exact room_walk w a0 v b1 (by omega) (by omega) r1
end Go.Proofs.Ytlljlkeknklplaa
