/-
  The walks of named, Disk.at, Size, Synced, Arm, Down, New.
-/
import Derived.Outline
import Derived.Test.YtnagejhpdhdpfaaGreatDoorDisk1
namespace Go.Proofs.YtnagejhpdhdpfaaGreatDoor
open Go.RowKit Go.Maps Go.MapKept

theorem okLetter_iff (c : UInt8) : okLetter c = true ↔ ((97 ≤ (c.toNat : Int) ∧ (c.toNat : Int) ≤ 122) ∨ (48 ≤ (c.toNat : Int) ∧ (c.toNat : Int) ≤ 57) ∨ (c.toNat : Int) = 46 ∨ (c.toNat : Int) = 45) := by
  unfold okLetter
  simp only [Bool.or_eq_true, Bool.and_eq_true, decide_eq_true_eq, beq_iff_eq, UInt8.le_iff_toNat_le, ← UInt8.toNat_inj]
  simp
  omega
theorem take_all_succ (s : ByteArray) (k : Nat) (hk : k < s.size) (h : (s.data.toList.take k).all okLetter = true) : (s.data.toList.take (k + 1)).all okLetter = okLetter (byteAt s k) := by
  have hk' : k < s.data.toList.length := by simpa using hk
  rw [List.take_succ_eq_append_getElem hk', List.all_append, h]
  simp [byteAt, List.getD, hk]
theorem okName_bad (s : ByteArray) (k : Nat) (hk : k < s.size) (h : okLetter (byteAt s k) = false) : okName s = false := by
  have hk' : k < s.data.toList.length := by simpa using hk
  have : s.data.toList.all okLetter = false := by
    rw [List.all_eq_false]
    exact ⟨s.data.toList[k], List.getElem_mem _, by simpa [byteAt, List.getD, hk] using h⟩
  simp [okName, this]

set_option maxRecDepth 100000 in
set_option maxHeartbeats 1000000 in
theorem named_any (s : ByteArray) (w : World) (hs : s.size ≤ maxLen) :
    Calls Tryz.prog 65 #[.string s] w fun e w' => e = .returned (.bool (okName s)) ∧ Below w.heap.size w w' := by
  unfold maxLen at hs
  go_enter Tryz.func65, Tryz.ntmps65
  go_wp2_with (refine wpList_str_bytes rfl (.tmp 5) 9 22 5 rfl s rfl Tryz.underlying9 Tryz.underlying22 Tryz.underlying5 ?_)
  intro w1 c hb hs1 hc hcell
  have Hcell := Lib.hid hcell
  clear hcell
  go_wp2
  go_loop [8] (fun i => ∃ k : Nat, k ≤ s.size ∧ i = .int .i64 k ∧ (s.data.toList.take k).all okLetter = true) (fun i => s.size - (intOf i).toNat)
  case atStart => exact ⟨0, by omega, rfl, by simp⟩
  case round =>
    obtain ⟨k, hk, rfl, hall⟩ := hrel
    have Hall := Lib.hid hall
    clear hall
    by_cases hlt : k < s.size
    · have hcl := Hcell.out k hlt
      obtain ⟨ch, hch⟩ : ∃ ch, byteAt s k = ch := ⟨_, rfl⟩
      rw [hch] at hcl
      have hok := okLetter_iff ch
      have hsucc := take_all_succ s k hlt Hall.out
      have hbad := okName_bad s k hlt
      rw [hch] at hsucc hbad
      have Hok := Lib.hid hok
      have Hsucc := Lib.hid hsucc
      have Hbad := Lib.hid hbad
      clear hch hok hsucc hbad
      go_wp2
      all_goals first
        | (go_ret
           refine ⟨?_, hb⟩
           rw [Hbad.out (by rw [Bool.eq_false_iff, ne_eq, Hok.out]; (try simp at *) <;> omega)]
           rfl)
        | (go_round
           case rel => exact ⟨k + 1, by omega, by go_num, by rw [Hsucc.out, Hok.out]; (try simp at *) <;> omega⟩
           case measure => simp [intOf]; omega)
    · have hfull : s.data.toList.take k = s.data.toList := List.take_of_length_le (by simp; omega)
      have hall := Hall.out
      rw [hfull] at hall
      have hn : okName s = (decide (0 < s.size) && decide (s.size ≤ 40)) := by simp [okName, hall]
      have Hn := Lib.hid hn
      clear hfull hall hn
      by_cases h0 : 0 < s.size
      · by_cases h40 : s.size ≤ 40
        · go_wp2
          go_ret
          exact ⟨by rw [Hn.out]; simp [h0, h40]; omega, hb⟩
        · go_wp2
          go_ret
          exact ⟨by rw [Hn.out]; simp [h0, h40]; omega, hb⟩
      · go_wp2
        go_ret
        exact ⟨by rw [Hn.out]; simp [h0], hb⟩

/-- the value of a file of the disk. -/
def afile (d : ADisk) (s : ByteArray) : AFile := (lk d.fs s).getD ⟨[], []⟩
theorem DiskRep.fileOf {w : World} {p m : Nat} {g : Value → Option Value} {d : ADisk} (h : DiskRep w p m g d) (s : ByteArray) : FileAt w ((g (.string s)).getD zFile) (afile d s) := by
  unfold afile
  cases hl : lk d.fs s with
  | none =>
    obtain ⟨_, _, _, _, _, _, _, hb⟩ := h.fileAgg s
    rw [hl] at hb
    have : g (.string s) = none := by cases hg : g (.string s) <;> simp_all
    rw [this]
    exact ⟨_, _, rfl, World.ownsRow_nil _ _ _ _, World.ownsRow_nil _ _ _ _, by simp [Value.ownBlock], by simp [AFile.len]⟩
  | some f =>
    obtain ⟨v, hg, hf⟩ := h.file s f hl
    rw [hg]
    exact hf

set_option maxHeartbeats 1000000 in
theorem at_any (w : World) (p m : Nat) (g : Value → Option Value) (d : ADisk) (s : ByteArray) (h : DiskRep w p m g d) (hs : s.size ≤ maxLen) :
    Calls Tryz.prog 92 #[.pointer (some ⟨p, 0, none⟩), .string s] w fun e w' => e = .returned ((g (.string s)).getD zFile) ∧ Below w.heap.size w w' := by
  obtain ⟨q0, q1, q2, q3, z0, z1, z2, z3⟩ := cells4 h.head
  obtain ⟨a1, n1, c1, a2, n2, c2, hv, hb⟩ := h.fileAgg s
  have hlt := blk_lt h.head
  have hm := h.map
  rw [hv]
  have hk := key_of hs
  clear h
  have Hv := Lib.hid hv
  clear hv
  go_enter Tryz.func92, Tryz.ntmps92
  go_wp2_with (at_lookup; refine wpList_map_lookup rfl (.tmp 11) (.tmp 12) 84 9 95 rfl Tryz.underlying84 keyed m _ g (hm.alloc _) rfl _ rfl _ hk zFile zero_file _ Hv.out ?_)
  exact bodyPost_ret (v := .agg #[.slice a1 n1 c1, .slice a2 n2 c2]) (by simp [results, Tryz.results92, go_sem]) rfl ⟨rfl, (Below.refl _ _).alloc (Nat.le_refl _) _⟩

set_option maxHeartbeats 1000000 in
theorem Size_any (w : World) (p m : Nat) (g : Value → Option Value) (d : ADisk) (s : ByteArray) (h : DiskRep w p m g d) (hs : s.size ≤ maxLen) :
    Calls Tryz.prog 77 #[.pointer (some ⟨p, 0, none⟩), .string s] w fun e w' => e = .returned (.int .i64 (afile d s).len) ∧ Below w.heap.size w w' := by
  have hf := h.fileOf s
  generalize hv : (g (.string s)).getD zFile = v at hf
  have hA := at_any w p m g d s h hs
  rw [hv] at hA
  clear hv h
  go_enter Tryz.func77, Tryz.ntmps77
  go_wp2_with (first | (go_at_call 92; refine hA.mono ?_; rintro e w1 ⟨rfl, hb1⟩) | (go_at_call 73; refine (fsize_any _ _ _ (hf.upd (Upd.ofBelow (fp := noFp) hb1) (fun _ _ h => h))).mono ?_; rintro e w2 ⟨rfl, hb2⟩))
  go_ret
  exact ⟨rfl, hb1.trans (hb2.mono hb1.size)⟩

theorem field_firm (w : World) (x y : Value) : (Instr.field 95 (.agg #[x, y]) 0).run Tryz.prog w = .ok x w := by kernel_rfl
set_option maxRecDepth 100000 in
set_option maxHeartbeats 1000000 in
theorem Synced_any (w : World) (p m : Nat) (g : Value → Option Value) (d : ADisk) (s : ByteArray) (h : DiskRep w p m g d) (hs : s.size ≤ maxLen) :
    Calls Tryz.prog 76 #[.pointer (some ⟨p, 0, none⟩), .string s] w fun e w' => e = .returned (.int .i64 (afile d s).firm.length) ∧ Below w.heap.size w w' := by
  have hf := h.fileOf s
  generalize hv : (g (.string s)).getD zFile = v at hf
  have hA := at_any w p m g d s h hs
  rw [hv] at hA
  obtain ⟨v1, v2, rfl, h1, h2, _⟩ := hf
  obtain ⟨a1, c1, rfl, _⟩ := row_slice h1
  obtain ⟨a2, c2, rfl, _⟩ := row_slice h2
  clear hv h h1 h2
  have hfl := field_firm
  go_enter Tryz.func76, Tryz.ntmps76
  go_wp2_with (go_at_call 92; refine hA.mono ?_; rintro e w1 ⟨rfl, hb1⟩)
  go_ret
  exact ⟨rfl, hb1⟩

def ADisk.arm (d : ADisk) (n : Int) : ADisk := if d.down then d else { d with left := max n 0 }
set_option maxRecDepth 100000 in
set_option maxHeartbeats 1000000 in
theorem Arm_any (w : World) (p m : Nat) (g : Value → Option Value) (d : ADisk) (n : Int) (h : DiskRep w p m g d) (hn0 : -9223372036854775808 ≤ n) (hn1 : n ≤ 9223372036854775807) :
    Calls Tryz.prog 20 #[.pointer (some ⟨p, 0, none⟩), .int .i64 n] w fun e w' => e = .returned (.tuple #[]) ∧ DiskRep w' p m g (d.arm n) ∧ Upd (· = p) w w' ∧ w'.heap.size = w.heap.size := by
  obtain ⟨q0, q1, q2, q3, z0, z1, z2, z3⟩ := cells4 h.head
  have hen := fun (w : World) => run_neq_map_nil (P := Tryz.prog) w 84 9 95 (some m) Tryz.underlying84
  have hu : ∀ l' : Int, Upd (· = p) w (w.setCell ⟨p, 0, none⟩ (.int .i64 l')) := fun l' => setCell_upd 0 _
  have hs : ∀ l' : Int, (w.setCell ⟨p, 0, none⟩ (.int .i64 l')).heap.size = w.heap.size := fun l' => by simp [World.setCell]
  have Hu := Lib.hid hu
  have Hs := Lib.hid hs
  clear hu hs
  cases hd : d.down with
  | true =>
    rw [hd] at q1
    have Hd := Lib.hid hd
    clear hd
    go_enter Tryz.func20, Tryz.ntmps20
    go_wp2
    go_end0
    rw [ADisk.arm, if_pos Hd.out]
    exact ⟨rfl, h, Upd.refl _ _, rfl⟩
  | false =>
    have hfin : ∀ l' : Int, l' = max n 0 → DiskRep (w.setCell ⟨p, 0, none⟩ (.int .i64 l')) p m g { d with left := max n 0, down := false } := by
      intro l' hl'
      refine h.power (Hu.out l') (by rw [setCell_at h.head 0 _, hl', hd]; rfl) { h.wf with left0 := by simp; omega, left1 := by simp; omega }
    rw [hd] at q1
    have Hf := Lib.hid hfin
    have Hd := Lib.hid hd
    clear hd hfin
    go_enter Tryz.func20, Tryz.ntmps20
    go_wp2
    all_goals
      go_end0
      rw [ADisk.arm, if_neg (by rw [Hd.out]; simp)]
      refine ⟨rfl, ?_, Hu.out _, Hs.out _⟩
      first
        | (have h0 := Hf.out 0 (by omega); simpa [Hd.out] using h0)
        | (have h0 := Hf.out n (by omega); simpa [Hd.out] using h0)

set_option maxRecDepth 100000 in
set_option maxHeartbeats 1000000 in
theorem Down_any (w : World) (p m : Nat) (g : Value → Option Value) (d : ADisk) (h : DiskRep w p m g d) :
    Calls Tryz.prog 75 #[.pointer (some ⟨p, 0, none⟩)] w fun e w' => e = .returned (.bool d.down) ∧ w = w' := by
  obtain ⟨q0, q1, q2, q3, z0, z1, z2, z3⟩ := cells4 h.head
  have hen := fun (w : World) => run_neq_map_nil (P := Tryz.prog) w 84 9 95 (some m) Tryz.underlying84
  cases hd : d.down with
  | true =>
    rw [hd] at q1
    clear hd h
    go_enter Tryz.func75, Tryz.ntmps75
    go_wp2
    go_ret
    exact ⟨rfl, rfl⟩
  | false =>
    rw [hd] at q1
    clear hd h
    go_enter Tryz.func75, Tryz.ntmps75
    go_wp2
    go_ret
    exact ⟨rfl, rfl⟩

set_option maxHeartbeats 1000000 in
theorem New_bad (w : World) (n : Int) (hn : n < 0 ∨ 16777216 < n) :
    Calls Tryz.prog 14 #[.int .i64 n] w fun e w' => e = .returned (.tuple #[.pointer none, .int .i64 2]) ∧ w = w' := by
  rcases hn with hn | hn
  · go_enter Tryz.func14, Tryz.ntmps14
    go_wp2
    go_ret2
    exact ⟨rfl, rfl⟩
  · have hn' : ¬ n < 0 := by omega
    go_enter Tryz.func14, Tryz.ntmps14
    go_wp2
    go_ret2
    exact ⟨rfl, rfl⟩

set_option maxHeartbeats 1000000 in
theorem New_good (w : World) (n : Int) (hn : 0 ≤ n) (hn1 : n ≤ 16777216) :
    Calls Tryz.prog 14 #[.int .i64 n] w fun e w' => e = .returned (.tuple #[.pointer (some ⟨w.heap.size + 1, 0, none⟩), .int .i64 0]) ∧ DiskRep w' (w.heap.size + 1) w.heap.size (fun _ => none) ⟨n, -1, false, []⟩ ∧ Below w.heap.size w w' := by
  have hmm := @run_makeMap Tryz.prog
  go_enter Tryz.func14, Tryz.ntmps14
  go_wp2
  go_ret2
  refine ⟨rfl, ⟨alloc2_at _ _ _, (MapIs.made _ _ _).alloc _, (fun k v h => by cases h), (fun s f h => by cases h), (fun s t v u h => by cases h), ⟨by simp, by simp, by simpa [usedF] using hn, hn, hn1, by simp, by simp, by simp⟩⟩, ((Below.refl _ _).alloc (Nat.le_refl _) _).alloc (by simp) _⟩
end Go.Proofs.YtnagejhpdhdpfaaGreatDoor
