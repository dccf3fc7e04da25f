/-
  The walks of Append, Sync, Cut.
-/
import Derived.Outline
import Derived.Deep.RegionHeld3
import Derived.Test.YtnagejhpdhdpfaaGreatDoorDisk3
namespace Go.Proofs.YtnagejhpdhdpfaaGreatDoor
open Go.RowKit Go.Maps Go.MapKept

theorem DiskRep.drew {w : World} {p m : Nat} {g : Value → Option Value} {d : ADisk} (h : DiskRep w p m g d) : DiskRep w.drew p m g d := h.upd ((Upd.refl noFp w).drew) (fun _ _ h => h)
theorem DiskRep.alloc {w : World} {p m : Nat} {g : Value → Option Value} {d : ADisk} (h : DiskRep w p m g d) (o : Obj) : DiskRep (w.alloc o) p m g d := h.upd ((Upd.refl noFp w).alloc o) (fun _ _ h => h)
/-- a file's own blocks have turned, but what it holds. -/
theorem DiskRep.touch {w w' : World} {p m : Nat} {g : Value → Option Value} {d : ADisk} (h : DiskRep w p m g d) {s : ByteArray} {v : Value} {fp : Nat → Prop} (hv : (g (.string s)).getD zFile = v) (hu : Upd fp w w') (hfp : ∀ k, k < w.heap.size → fp k → fblocks v k)
    (hf : FileAt w' v (afile d s)) : DiskRep w' p m g d := by
  have hpm : ∀ k, fblocks v k → k < w.heap.size → k ≠ p ∧ k ≠ m := fun k hk _ => by rw [← hv] at hk; exact h.block_ne (h.fileOf s) hk
  have hz : ∀ k, ¬ fblocks zFile k := fun k hk => by rw [zFile, fblocks_agg] at hk; simp [Value.ownBlock] at hk
  refine ⟨hu.keep h.head (fun e => (hpm p (hfp p (blk_lt h.head) e) (blk_lt h.head)).1 rfl), h.map.upd' hu (fun e => (hpm m (hfp m h.map.lt e) h.map.lt).2 rfl), h.dom, fun t f hl => ?_, h.apart, h.wf⟩
  obtain ⟨u, hg, hfu⟩ := h.file t f hl
  refine ⟨u, hg, ?_⟩
  by_cases hts : t = s
  · subst hts
    rw [hg] at hv
    cases hv
    simpa [afile, hl] using hf
  · refine hfu.upd hu (fun k hk e => ?_)
    obtain ⟨cur, hc⟩ := fblocks_row hfu hk
    have hkv := hfp k (blk_lt hc) e
    cases hgs : g (.string s) with
    | none => rw [hgs] at hv; rw [← hv] at hkv; exact hz k hkv
    | some v' => rw [hgs] at hv; cases hv; exact h.apart t s u v' hg hgs hts k hk hkv

def ADisk.append (d : ADisk) (s : ByteArray) (b : List UInt8) : ADisk :=
  if d.down then d else if okName s = false then d else if d.most < usedF d.fs + b.length then d else if (lk d.fs s).isNone ∧ 200 ≤ d.fs.length then d else d.put s ⟨(afile d s).firm, (afile d s).loose ++ b⟩
def ADisk.appendErr (d : ADisk) (s : ByteArray) (b : List UInt8) : Int :=
  if d.down then 15 else if okName s = false then 13 else if d.most < usedF d.fs + b.length then 5 else if (lk d.fs s).isNone ∧ 200 ≤ d.fs.length then 5 else d.err

def DiskPost (w : World) (p m : Nat) (g : Value → Option Value) (d' : ADisk) (w' : World) : Prop :=
  ∃ g', DiskRep w' p m g' d' ∧ Upd (dfp p m g) w w' ∧ ∀ k, dfp p m g' k → dfp p m g k ∨ w.heap.size ≤ k
theorem DiskPost.same {w w' : World} {p m : Nat} {g : Value → Option Value} {d : ADisk} (h : DiskRep w p m g d) (hb : Below w.heap.size w w') : DiskPost w p m g d w' :=
  ⟨g, h.below hb, Upd.ofBelow hb, fun _ hk => Or.inl hk⟩

set_option maxRecDepth 100000 in
set_option maxHeartbeats 1000000 in
theorem Append_down (w : World) (p m : Nat) (g : Value → Option Value) (d : ADisk) (s : ByteArray) (ab : Option Addr) (nb cb : Nat) (h : DiskRep w p m g d) (hs : s.size ≤ maxLen) (hd : d.down = true) :
    Calls Tryz.prog 24 #[.pointer (some ⟨p, 0, none⟩), .string s, .slice ab nb cb] w fun e w' => e = .returned (.int .i64 15) ∧ DiskPost w p m g d w' := by
  have hF := find_any w p m g d s h hs
  obtain ⟨a1, n1, c1, a2, n2, c2, hv, hb⟩ := h.fileAgg s
  rw [hv, show findErr d s = 15 by simp [findErr, hd]] at hF
  clear hv hd
  go_enter Tryz.func24, Tryz.ntmps24
  go_wp2_with (go_at_call 64; refine hF.mono ?_; rintro e w1 ⟨rfl, hb1⟩)
  go_ret
  exact ⟨rfl, DiskPost.same h (hb1.alloc hb1.size _)⟩

set_option maxRecDepth 100000 in
set_option maxHeartbeats 1000000 in
theorem Append_name (w : World) (p m : Nat) (g : Value → Option Value) (d : ADisk) (s : ByteArray) (ab : Option Addr) (nb cb : Nat) (h : DiskRep w p m g d) (hs : s.size ≤ maxLen) (hd : d.down = false) (hn : okName s = false) :
    Calls Tryz.prog 24 #[.pointer (some ⟨p, 0, none⟩), .string s, .slice ab nb cb] w fun e w' => e = .returned (.int .i64 13) ∧ DiskPost w p m g d w' := by
  have hF := find_any w p m g d s h hs
  obtain ⟨a1, n1, c1, a2, n2, c2, hv, hb⟩ := h.fileAgg s
  have hN := fun w => named_any s w hs
  rw [hn] at hN
  rw [hv] at hF
  have key : ∀ fe : Int, findErr d s = fe → fe = 0 ∨ fe = 13 → Calls Tryz.prog 24 #[.pointer (some ⟨p, 0, none⟩), .string s, .slice ab nb cb] w fun e w' => e = .returned (.int .i64 13) ∧ DiskPost w p m g d w' := by
    intro fe hfe h013
    rw [hfe] at hF
    clear hv hd hb hn hfe
    rcases h013 with rfl | rfl
    all_goals
      go_enter Tryz.func24, Tryz.ntmps24
      go_wp2_with (first | (go_at_call 64; refine hF.mono ?_; rintro e w1 ⟨rfl, hb1⟩) | (go_at_call 65; refine (hN _).mono ?_; rintro e w2 ⟨rfl, hb2⟩))
      go_ret
      exact ⟨rfl, DiskPost.same h ((hb1.alloc hb1.size _).trans (hb2.mono (by simp; have := hb1.size; omega)))⟩
  refine key _ rfl ?_
  unfold findErr
  rw [hd]
  cases lk d.fs s <;> simp

set_option maxRecDepth 100000 in
set_option maxHeartbeats 2000000 in
theorem Append_full (w : World) (p m : Nat) (g : Value → Option Value) (d : ADisk) (s : ByteArray) (ab : Option Addr) (nb cb : Nat) (h : DiskRep w p m g d) (hs : s.size ≤ maxLen) (hd : d.down = false) (hn : okName s = true)
    (hnb : nb ≤ 140737488355328) (hu : d.most < usedF d.fs + nb) :
    Calls Tryz.prog 24 #[.pointer (some ⟨p, 0, none⟩), .string s, .slice ab nb cb] w fun e w' => e = .returned (.int .i64 5) ∧ DiskPost w p m g d w' := by
  have hF := find_any w p m g d s h hs
  obtain ⟨a1, n1, c1, a2, n2, c2, hv, hb⟩ := h.fileAgg s
  have hN := fun w => named_any s w hs
  rw [hn] at hN
  rw [hv] at hF
  have hub : (usedF d.fs : Int) ≤ 16777216 := Int.le_trans h.wf.used h.wf.most1
  have key : ∀ fe : Int, findErr d s = fe → fe = 0 ∨ fe = 13 → Calls Tryz.prog 24 #[.pointer (some ⟨p, 0, none⟩), .string s, .slice ab nb cb] w fun e w' => e = .returned (.int .i64 5) ∧ DiskPost w p m g d w' := by
    intro fe hfe h013
    rw [hfe] at hF
    clear hv hd hb hn hfe
    rcases h013 with rfl | rfl
    all_goals
      go_enter Tryz.func24, Tryz.ntmps24
      go_wp2_with (first | (go_at_call 64; refine hF.mono ?_; rintro e w1 ⟨rfl, hb1⟩) | (go_at_call 65; refine (hN _).mono ?_; rintro e w2 ⟨rfl, hb2⟩))
      have hB2 := (hb1.alloc hb1.size (.cells #[.slice a1 n1 c1, .slice a2 n2 c2] 95)).trans (hb2.mono (by simp; have := hb1.size; omega))
      have hrep := h.below hB2
      obtain ⟨q0, q1, q2, q3, _⟩ := cells4 hrep.head
      have hrepd := hrep.drew
      have hw1 : IntKind.i64.wrap ((usedF d.fs : Int) + nb) = (usedF d.fs : Int) + nb := IntWalk.i64_in _ (by omega)
      go_region_held3 (fun w' => w'.cell? ⟨p, 3, none⟩ = some (.int .i64 d.most)) (first | exact q3 | exact (hb3.cell (p := ⟨p, 3, none⟩) (blk_lt hrep.head)).trans q3 | go_keep) (first | (go_at_call 66; refine (Used_any _ p m g d hrepd).mono ?_; rintro e w3 ⟨rfl, hb3⟩))
      go_wp2
      go_ret
      exact ⟨rfl, DiskPost.same h (hB2.drew.trans (hb3.mono hB2.size))⟩
  refine key _ rfl ?_
  unfold findErr
  rw [hd]
  cases lk d.fs s <;> simp

set_option maxRecDepth 100000 in
set_option maxHeartbeats 2000000 in
theorem Append_many (w : World) (p m : Nat) (g : Value → Option Value) (d : ADisk) (s : ByteArray) (ab : Option Addr) (nb cb : Nat) (h : DiskRep w p m g d) (hs : s.size ≤ maxLen) (hd : d.down = false) (hn : okName s = true)
    (hnb : nb ≤ 140737488355328) (hu : ¬ d.most < usedF d.fs + nb) (hl : lk d.fs s = none) (hc : 200 ≤ d.fs.length) :
    Calls Tryz.prog 24 #[.pointer (some ⟨p, 0, none⟩), .string s, .slice ab nb cb] w fun e w' => e = .returned (.int .i64 5) ∧ DiskPost w p m g d w' := by
  have hF := find_any w p m g d s h hs
  obtain ⟨a1, n1, c1, a2, n2, c2, hv, hb⟩ := h.fileAgg s
  have hN := fun w => named_any s w hs
  rw [hn] at hN
  rw [hv, show findErr d s = 13 by simp [findErr, hd, hl]] at hF
  have hub : (usedF d.fs : Int) ≤ 16777216 := Int.le_trans h.wf.used h.wf.most1
  have hci : (200 : Int) ≤ d.fs.length := by omega
  clear hv hd hb hn hl hc
  go_enter Tryz.func24, Tryz.ntmps24
  go_wp2_with (first | (go_at_call 64; refine hF.mono ?_; rintro e w1 ⟨rfl, hb1⟩) | (go_at_call 65; refine (hN _).mono ?_; rintro e w2 ⟨rfl, hb2⟩))
  have hB2 := (hb1.alloc hb1.size (.cells #[.slice a1 n1 c1, .slice a2 n2 c2] 95)).trans (hb2.mono (by simp; have := hb1.size; omega))
  have hrep := h.below hB2
  obtain ⟨q0, q1, q2, q3, _⟩ := cells4 hrep.head
  have hrepd := hrep.drew
  have hw1 : IntKind.i64.wrap ((usedF d.fs : Int) + nb) = (usedF d.fs : Int) + nb := IntWalk.i64_in _ (by omega)
  go_region_held3 (fun w' => w'.cell? ⟨p, 3, none⟩ = some (.int .i64 d.most)) (first | exact q3 | exact (hb3.cell (p := ⟨p, 3, none⟩) (blk_lt hrep.head)).trans q3 | go_keep) (first | (go_at_call 66; refine (Used_any _ p m g d hrepd).mono ?_; rintro e w3 ⟨rfl, hb3⟩))
  have hrep3 := hrepd.below hb3
  obtain ⟨r0, r1, r2, r3, _⟩ := cells4 hrep3.head
  go_wp2_with (refine wpList_map_len rfl (.tmp 46) 84 9 95 rfl Tryz.underlying84 m _ g hrep3.map rfl ?_)
  go_ret
  exact ⟨rfl, DiskPost.same h (hB2.drew.trans (hb3.mono hB2.size))⟩

theorem ADisk.WF.put {d : ADisk} (h : d.WF) {s : ByteArray} (hn : okName s = true) (f : AFile) (hu : (usedF d.fs + f.len : Int) ≤ d.most + (afile d s).len) (hc : (lk d.fs s).isSome = true ∨ d.fs.length < 200) :
    ({ d.tick with fs := putF d.fs s f } : ADisk).WF where
  sorted := sorted_putF h.sorted s f
  names p hp := by
    rcases mem_putF hp with rfl | hp
    · exact hn
    · exact h.names p hp
  used := by
    have := used_putF h.sorted s f
    have e : ((lk d.fs s).map AFile.len).getD 0 = (afile d s).len := by unfold afile; cases lk d.fs s <;> rfl
    rw [e] at this
    show ((usedF (putF d.fs s f) : Nat) : Int) ≤ d.most
    omega
  most0 := h.most0
  most1 := h.most1
  left0 := h.tick.left0
  left1 := h.tick.left1
  count := by
    show (putF d.fs s f).length ≤ 200
    rw [length_putF h.sorted]
    have := h.count
    rcases hc with hc | hc
    · rw [if_pos hc]; exact this
    · split <;> omega
theorem afile_le {d : ADisk} (_h : d.WF) (s : ByteArray) : (afile d s).len ≤ usedF d.fs := by
  unfold afile
  cases hl : lk d.fs s with
  | none => simp [AFile.len]
  | some f => exact lk_len_le hl

set_option maxRecDepth 100000 in
set_option maxHeartbeats 4000000 in
theorem Append_ok (w : World) (p m : Nat) (g : Value → Option Value) (d : ADisk) (s : ByteArray) (vb : Value) (b : List UInt8) (h : DiskRep w p m g d) (hs : s.size ≤ maxLen) (hd : d.down = false) (hn : okName s = true)
    (hrd : Rd w vb (bcells b)) (hnb : b.length ≤ 140737488355328) (hu : ¬ d.most < usedF d.fs + b.length) (hc : (lk d.fs s).isSome = true ∨ d.fs.length < 200) :
    Calls Tryz.prog 24 #[.pointer (some ⟨p, 0, none⟩), .string s, vb] w fun e w' => e = .returned (.int .i64 d.err) ∧ DiskPost w p m g (d.put s ⟨(afile d s).firm, (afile d s).loose ++ b⟩) w' := by
  have hF := find_any w p m g d s h hs
  have hfile := h.fileOf s
  have hlen0 := afile_le h.wf s
  have hub : (usedF d.fs : Int) ≤ d.most := h.wf.used
  have hum : d.most ≤ 16777216 := h.wf.most1
  have hwf' := h.wf.put hn ⟨(afile d s).firm, (afile d s).loose ++ b⟩ (by simp [AFile.len]; omega) hc
  obtain ⟨ys, hys⟩ : ∃ ys, (afile d s).loose ++ b = ys := ⟨_, rfl⟩
  have hyl : ys.length = (afile d s).loose.length + b.length := by rw [← hys]; simp
  rw [hys] at hwf' ⊢
  have hblk0 : ∀ k, fblocks ((g (.string s)).getD zFile) k → ∃ u, g (.string s) = some u ∧ fblocks u k := by
    intro k hk
    cases hgs : g (.string s) with
    | none => rw [hgs] at hk; simp [zFile, fblocks_agg, Value.ownBlock] at hk
    | some u => rw [hgs] at hk; exact ⟨u, rfl, hk⟩
  obtain ⟨ab, cb, rfl⟩ := hrd.shape
  rw [bcells_length] at hrd ⊢
  generalize hv : (g (.string s)).getD zFile = v at hF hfile hblk0
  have hfile0 := hfile
  obtain ⟨v1, v2, rfl, hr1, hr2, hap, hfl⟩ := hfile
  obtain ⟨a1, c1, rfl, _⟩ := row_slice hr1
  obtain ⟨a2, c2, rfl, _⟩ := row_slice hr2
  have hN := fun w => named_any s w hs
  rw [hn] at hN
  have key : ∀ fe : Int, findErr d s = fe → (fe = 0 ∨ fe = 13 ∧ d.fs.length < 200) → Calls Tryz.prog 24 #[.pointer (some ⟨p, 0, none⟩), .string s, .slice ab b.length cb] w fun e w' => e = .returned (.int .i64 d.err) ∧ DiskPost w p m g (d.put s ⟨(afile d s).firm, ys⟩) w' := by
    intro fe hfe h013
    rw [hfe] at hF
    have Hv := Lib.hid hv
    have Hys := Lib.hid hys
    have Hyl := Lib.hid hyl
    clear hv hd hn hfe hys hyl hc
    rcases h013 with rfl | ⟨rfl, hc200⟩
    all_goals
      go_enter Tryz.func24, Tryz.ntmps24
      go_wp2_with (first | (go_at_call 64; refine hF.mono ?_; rintro e w1 ⟨rfl, hb1⟩) | (go_at_call 65; refine (hN _).mono ?_; rintro e w2 ⟨rfl, hb2⟩))
      have hB2 := (hb1.alloc hb1.size (.cells #[.slice a1 (afile d s).firm.length c1, .slice a2 (afile d s).loose.length c2] 95)).trans (hb2.mono (by simp; have := hb1.size; omega))
      have hrep := h.below hB2
      have hbox := (hb2.block w1.heap.size (by simp)).trans (alloc_at w1 _)
      obtain ⟨q0, q1, q2, q3, _⟩ := cells4 hrep.head
      have hrepd := hrep.drew
      have hw1 : IntKind.i64.wrap ((usedF d.fs : Int) + b.length) = (usedF d.fs : Int) + b.length := IntWalk.i64_in _ (by omega)
      go_region_held3 (fun w' => w'.cell? ⟨p, 3, none⟩ = some (.int .i64 d.most)) (first | exact q3 | exact (hb3.cell (p := ⟨p, 3, none⟩) (blk_lt hrep.head)).trans q3 | go_keep) (first | (go_at_call 66; refine (Used_any _ p m g d hrepd).mono ?_; rintro e w3 ⟨rfl, hb3⟩))
      have hrep3 := hrepd.below hb3
      have hB3 : Below w.heap.size w w3 := hB2.drew.trans (hb3.mono hB2.size)
      have hbox3 := (hb3.block w1.heap.size (blk_lt hbox)).trans hbox
      obtain ⟨r0, r1, r2, r3, _⟩ := cells4 hrep3.head
      obtain ⟨x0, x1, y0, y1⟩ := cells2 hbox3
      have hrd3 := hrd.below hB3
      have hown3 := (Upd.ofBelow (fp := noFp) hB3).row hr2 (fun _ _ h => h)
      go_wp2_with (first | (refine wpList_map_len rfl (.tmp 46) 84 9 95 rfl Tryz.underlying84 m _ g hrep3.map rfl ?_) | (refine append_u8 rfl (.tmp 51) (.tmp 52) rfl (.slice a2 (afile d s).loose.length c2) (.slice ab b.length cb) (afile d s).loose b ys Hys.out rfl hown3 rfl hrd3 (by unfold AFile.len at hlen0; omega) ?_))
      intro v' w4 hv' hg4 hb4 hold4
      obtain ⟨a', c', rfl, _⟩ := row_slice hv'
      have hlt1 : ∀ k, (Value.slice a1 (afile d s).firm.length c1).ownBlock = some k → k < w.heap.size := fun k hk => row_lt hr1 hk
      have hlt2 : ∀ k, (Value.slice a2 (afile d s).loose.length c2).ownBlock = some k → k < w.heap.size := fun k hk => row_lt hr2 hk
      have hU34 : Upd (fun k => (Value.slice a2 (afile d s).loose.length c2).ownBlock = some k) w3 w4 := (Upd.refl _ _).grown hg4 (fun k hk => Or.inl hk)
      have hs1 := hb1.size
      have hs3 := hB3.size
      have hbox4 := hU34.keep hbox3 (fun e => by have := hlt2 _ e; omega)
      have hrow14 := hU34.row ((Upd.ofBelow (fp := noFp) hB3).row hr1 (fun _ _ h => h)) (fun k hk e => hap k hk e)
      have hrep4 := hrep3.touch Hv.out hU34 (fun k _ hk => (fblocks_agg _ _ _).2 (Or.inr hk)) ⟨_, _, rfl, hrow14, hold4, hap, hfl⟩
      have hU45 : Upd (· = w1.heap.size) w4 (w4.setCell ⟨w1.heap.size, 1, none⟩ (.slice a' ys.length c')) := setCell_upd 1 _
      have hLd : ∀ k, dfp p m g k → ¬ k = w1.heap.size := fun k hk e => by have := h.lt hk; omega
      have hrep5 := hrep4.upd hU45 hLd
      have ha' : ∀ k, (Value.slice a' ys.length c').ownBlock = some k → (Value.slice a2 (afile d s).loose.length c2).ownBlock = some k ∨ w3.heap.size ≤ k := by
        intro k hk
        rcases hb4 with hb4 | ⟨g4, hb4, hg4'⟩
        · exact Or.inl (hb4 ▸ hk)
        · rw [hb4] at hk; cases hk; exact Or.inr hg4'
      have hL3 := blk_lt hbox3
      have hfile5 : FileAt (w4.setCell ⟨w1.heap.size, 1, none⟩ (.slice a' ys.length c')) (.agg #[.slice a1 (afile d s).firm.length c1, .slice a' ys.length c']) ⟨(afile d s).firm, ys⟩ := by
        refine ⟨_, _, rfl, hU45.row hrow14 (fun k hk e => by have := hlt1 k hk; omega), hU45.row hv' (fun k hk e => ?_), fun k hk e => ?_, ?_⟩
        · rcases ha' k hk with h1 | h1
          · have := hlt2 k h1; omega
          · omega
        · rcases ha' k e with h1 | h1
          · exact hap k hk h1
          · have := hlt1 k hk; omega
        · have := Hyl.out; unfold AFile.len at hlen0 ⊢; simp only; omega
      have hblk5 : ∀ k, fblocks (.agg #[.slice a1 (afile d s).firm.length c1, .slice a' ys.length c']) k → dfp p m g k → ∃ u, g (.string s) = some u ∧ fblocks u k := by
        intro k hk hd
        rw [fblocks_agg] at hk
        rcases hk with hk | hk
        · exact hblk0 k ((fblocks_agg _ _ _).2 (Or.inl hk))
        · rcases ha' k hk with h1 | h1
          · exact hblk0 k ((fblocks_agg _ _ _).2 (Or.inr h1))
          · have := h.lt hd; omega
      obtain ⟨x0', x1', y0', y1'⟩ := cells2 hbox4
      go_wp2_with (go_at_call 67; refine (put_any _ p m g d s _ ⟨(afile d s).firm, ys⟩ hrep5 hs hfile5 hblk5 hwf').mono ?_; rintro e w6 ⟨rfl, hp6⟩)
      go_ret
      refine ⟨rfl, ?_⟩
      obtain ⟨g', hrep6, hU6, hfp6⟩ := hp6
      refine ⟨g', hrep6, ?_, fun k hk => ?_⟩
      · refine (((Upd.ofBelow hB3).trans hU34 (fun k hk => ?_)).trans hU45 (fun k hk => ?_)).trans hU6 (fun k hk => ?_)
        · obtain ⟨u, hu1, hu2⟩ := hblk0 k ((fblocks_agg _ _ _).2 (Or.inr hk))
          exact Or.inl (Or.inr (Or.inr ⟨s, u, hu1, hu2⟩))
        · exact Or.inr (by omega)
        · rcases hk with hk | hk
          · exact Or.inl (Or.inl hk)
          · exact Or.inl (Or.inr (Or.inl hk))
      · rcases hfp6 k hk with hk | hk
        · exact Or.inl hk
        · rw [fblocks_agg] at hk
          rcases hk with hk | hk
          · obtain ⟨u, hu1, hu2⟩ := hblk0 k ((fblocks_agg _ _ _).2 (Or.inl hk))
            exact Or.inl (Or.inr (Or.inr ⟨s, u, hu1, hu2⟩))
          · rcases ha' k hk with h1 | h1
            · obtain ⟨u, hu1, hu2⟩ := hblk0 k ((fblocks_agg _ _ _).2 (Or.inr h1))
              exact Or.inl (Or.inr (Or.inr ⟨s, u, hu1, hu2⟩))
            · exact Or.inr (by omega)
  refine key _ rfl ?_
  unfold findErr
  rw [hd]
  cases hl : lk d.fs s with
  | none => simp; rcases hc with hc | hc; simp [hl] at hc; exact hc
  | some f => simp
end Go.Proofs.YtnagejhpdhdpfaaGreatDoor
