/-
  The disk in memory, and the walks of power.step, Disk.find, Disk.put.
-/
import Derived.Outline
import Derived.Test.YtnagejhpdhdpfaaGreatDoorDisk0
import Derived.Test.YtnagejhpdhdpfaaGreatDoorPlain
namespace Go.Proofs.YtnagejhpdhdpfaaGreatDoor
open Go.RowKit Go.Maps Go.MapKept

/-- A disk at block p, its map at block m, the map's values by g. -/
structure DiskRep (w : World) (p m : Nat) (g : Value → Option Value) (d : ADisk) : Prop where
  head : w.heap[p]? = some (.cells #[.int .i64 d.left, .bool d.down, .map (some m), .int .i64 d.most] 86 (0, 0))
  map : MapIs Tryz.prog 9 w m d.fs.length g
  dom : ∀ key v, g key = some v → ∃ s f, key = .string s ∧ lk d.fs s = some f
  file : ∀ s f, lk d.fs s = some f → ∃ v, g (.string s) = some v ∧ FileAt w v f
  apart : ∀ s t v u, g (.string s) = some v → g (.string t) = some u → s ≠ t → ∀ k, fblocks v k → ¬ fblocks u k
  wf : d.WF

/-- the disk's blocks. -/
def dfp (p m : Nat) (g : Value → Option Value) (k : Nat) : Prop := k = p ∨ k = m ∨ ∃ s v, g (.string s) = some v ∧ fblocks v k

def zFile : Value := .agg #[.slice none 0 0, .slice none 0 0]
theorem keyed : Keyed Tryz.prog 9 := string_keyed Tryz.underlying9
theorem key_of {s : ByteArray} (hs : s.size ≤ maxLen) : keyOf Tryz.prog 9 (.string s) = some (.string s.data.toList) := Go.WideMaps.keyOf_string_mk Tryz.underlying9 hs
theorem zero_file (w : World) : (zeroValue 95).run Tryz.prog w = .ok zFile w := by kernel_rfl

set_option maxHeartbeats 400000 in
theorem step_any (b : Nat) (left : Int) (down : Bool) (x y : Value) (T : TypeId) (w : World) (hb : w.heap[b]? = some (.cells #[.int .i64 left, .bool down, x, y] T (0, 0))) (hlo : -1 ≤ left) (hhi : left ≤ 9223372036854775807) :
    Calls Tryz.prog 74 #[.pointer (some ⟨b, 0, none⟩)] w fun e w' => e = .returned (.bool (!(left == 0))) ∧ w'.heap[b]? = some (.cells #[.int .i64 (max (left - 1) (-1)), .bool (left == 0), x, y] T (0, 0)) ∧ Upd (· = b) w w' ∧ w'.heap.size = w.heap.size := by
  obtain ⟨q0, q1, _, _, z0, z1, _, _⟩ := cells4 hb
  have hfin : ∀ l' : Int, l' = max (left - 1) (-1) → ((w.setCell ⟨b, 1, none⟩ (.bool (left == 0))).setCell ⟨b, 0, none⟩ (.int .i64 l')).heap[b]? = some (.cells #[.int .i64 (max (left - 1) (-1)), .bool (left == 0), x, y] T (0, 0)) := by
    intro l' hl'
    rw [setCell_at (setCell_at hb 1 _) 0 _, hl']; rfl
  have hu : ∀ l' : Int, Upd (· = b) w ((w.setCell ⟨b, 1, none⟩ (.bool (left == 0))).setCell ⟨b, 0, none⟩ (.int .i64 l')) := fun l' => (setCell_upd (w := w) 1 _).trans (setCell_upd 0 _) (fun k hk => Or.inl hk)
  clear hb
  have hs : ∀ l' : Int, ((w.setCell ⟨b, 1, none⟩ (.bool (left == 0))).setCell ⟨b, 0, none⟩ (.int .i64 l')).heap.size = w.heap.size := fun l' => by simp [World.setCell]
  have Hf := Lib.hid hfin
  have Hu := Lib.hid hu
  have Hs := Lib.hid hs
  clear hfin hu hs
  go_enter Tryz.func74, Tryz.ntmps74
  go_wp2
  all_goals
    go_ret
    exact ⟨rfl, Hf.out _ (by omega), Hu.out _, Hs.out _⟩

def findErr (d : ADisk) (s : ByteArray) : Int := if d.down then 15 else if (lk d.fs s).isNone then 13 else 0

theorem DiskRep.fileAgg {w : World} {p m : Nat} {g : Value → Option Value} {d : ADisk} (h : DiskRep w p m g d) (s : ByteArray) : ∃ a1 n1 c1 a2 n2 c2, (g (.string s)).getD zFile = .agg #[.slice a1 n1 c1, .slice a2 n2 c2] ∧ (g (.string s)).isSome = (lk d.fs s).isSome := by
  cases hl : lk d.fs s with
  | none =>
    have : g (.string s) = none := by
      cases hg : g (.string s) with
      | none => rfl
      | some v => obtain ⟨t, f, ht, hf⟩ := h.dom _ _ hg; cases ht; rw [hl] at hf; cases hf
    exact ⟨none, 0, 0, none, 0, 0, by rw [this]; rfl, by simp [this]⟩
  | some f =>
    obtain ⟨v, hg, v1, v2, rfl, h1, h2, _⟩ := h.file s f hl
    obtain ⟨a1, c1, rfl, _⟩ := row_slice h1
    obtain ⟨a2, c2, rfl, _⟩ := row_slice h2
    exact ⟨_, _, _, _, _, _, by rw [hg]; rfl, by simp [hg]⟩

set_option maxRecDepth 100000 in
set_option maxHeartbeats 1000000 in
theorem find_any (w : World) (p m : Nat) (g : Value → Option Value) (d : ADisk) (s : ByteArray) (h : DiskRep w p m g d) (hs : s.size ≤ maxLen) :
    Calls Tryz.prog 64 #[.pointer (some ⟨p, 0, none⟩), .string s] w fun e w' => e = .returned (.tuple #[(g (.string s)).getD zFile, .int .i64 (findErr d s)]) ∧ Below w.heap.size w w' := by
  obtain ⟨q0, q1, q2, q3, z0, z1, z2, z3⟩ := cells4 h.head
  obtain ⟨a1, n1, c1, a2, n2, c2, hv, hb⟩ := h.fileAgg s
  have hlt := blk_lt h.head
  have hm := h.map
  rw [hv]
  have hk := key_of hs
  clear h
  have Hv := Lib.hid hv
  clear hv
  have hen := fun (w : World) => run_eql_map_nil (P := Tryz.prog) w 84 9 95 (some m) Tryz.underlying84
  have key : ∀ dn there : Bool, d.down = dn → (lk d.fs s).isSome = there → Calls Tryz.prog 64 #[.pointer (some ⟨p, 0, none⟩), .string s] w fun e w' => e = .returned (.tuple #[.agg #[.slice a1 n1 c1, .slice a2 n2 c2], .int .i64 (if dn then 15 else if there then 0 else 13)]) ∧ Below w.heap.size w w' := by
    intro dn there hdn hl
    rw [hdn] at q1
    rw [hl] at hb
    have Hb := Lib.hid hb
    clear hb hl hdn
    cases dn <;> cases there <;> simp only [if_true, if_false, Bool.false_eq_true]
    all_goals
      go_enter Tryz.func64, Tryz.ntmps64
      go_wp2_with (at_lookup; refine wpList_map_lookup_ok rfl (.tmp 22) (.tmp 23) 84 9 95 rfl Tryz.underlying84 keyed m _ g (hm.alloc _) rfl _ rfl _ hk zFile zero_file _ Hv.out _ Hb.out ?_)
      exact bodyPost_ret (v := .tuple #[.agg #[.slice a1 n1 c1, .slice a2 n2 c2], _]) (by simp [results, Tryz.results64, go_sem]) rfl ⟨rfl, ((Below.refl _ _).alloc (Nat.le_refl _) _).alloc (by simp) _⟩
  have := key d.down (lk d.fs s).isSome rfl rfl
  refine this.mono fun e w' he => ⟨?_, he.2⟩
  rw [he.1, findErr]
  cases d.down <;> cases lk d.fs s <;> rfl

theorem fblocks_row {w : World} {v : Value} {f : AFile} (h : FileAt w v f) {k : Nat} (hk : fblocks v k) : ∃ cur, w.heap[k]? = some (.cells cur 5 (0, 0)) := by
  obtain ⟨v1, v2, rfl, h1, h2, _⟩ := h
  rw [fblocks_agg] at hk
  rcases hk with hk | hk
  · rcases h1.2 with ⟨rfl, _⟩ | ⟨g, _, cur, rfl, _, hg, _⟩
    · cases hk
    · cases hk; exact ⟨cur, hg⟩
  · rcases h2.2 with ⟨rfl, _⟩ | ⟨g, _, cur, rfl, _, hg, _⟩
    · cases hk
    · cases hk; exact ⟨cur, hg⟩
theorem DiskRep.block_ne {w : World} {p m : Nat} {g : Value → Option Value} {d : ADisk} (h : DiskRep w p m g d) {v : Value} {f : AFile} (hf : FileAt w v f) {k : Nat} (hk : fblocks v k) : k ≠ p ∧ k ≠ m := by
  obtain ⟨cur, hc⟩ := fblocks_row hf hk
  constructor
  · rintro rfl
    have := h.head
    rw [hc] at this
    injection this with this
    injection this with _ h2
    exact absurd h2 (by decide)
  · rintro rfl
    obtain ⟨es, cl, hb, _⟩ := h.map
    rw [hc] at hb
    injection hb with hb
    cases hb
theorem DiskRep.p_ne_m {w : World} {p m : Nat} {g : Value → Option Value} {d : ADisk} (h : DiskRep w p m g d) : p ≠ m := by
  rintro rfl
  obtain ⟨es, cl, hb, _⟩ := h.map
  rw [h.head] at hb
  injection hb with hb
  cases hb
theorem DiskRep.lt {w : World} {p m : Nat} {g : Value → Option Value} {d : ADisk} (h : DiskRep w p m g d) {k : Nat} (hk : dfp p m g k) : k < w.heap.size := by
  rcases hk with rfl | rfl | ⟨s, v, hg, hv⟩
  · exact blk_lt h.head
  · exact h.map.lt
  · obtain ⟨t, f, ht, hl⟩ := h.dom _ _ hg
    cases ht
    obtain ⟨v', hg', hf⟩ := h.file _ _ hl
    rw [hg] at hg'; cases hg'
    obtain ⟨cur, hc⟩ := fblocks_row hf hv
    exact blk_lt hc
/-- A disk stays what it is while others are written. -/
theorem DiskRep.upd {w w' : World} {p m : Nat} {g : Value → Option Value} {d : ADisk} {fp : Nat → Prop} (h : DiskRep w p m g d) (hu : Upd fp w w') (hn : ∀ k, dfp p m g k → ¬ fp k) : DiskRep w' p m g d where
  head := hu.keep h.head (hn p (Or.inl rfl))
  map := h.map.upd hu (hn m (Or.inr (Or.inl rfl)))
  dom := h.dom
  file s f hl := by
    obtain ⟨v, hg, hf⟩ := h.file s f hl
    exact ⟨v, hg, hf.upd hu (fun k hk => hn k (Or.inr (Or.inr ⟨s, v, hg, hk⟩)))⟩
  apart := h.apart
  wf := h.wf
theorem DiskRep.below {w w' : World} {p m : Nat} {g : Value → Option Value} {d : ADisk} (h : DiskRep w p m g d) (hu : Below w.heap.size w w') : DiskRep w' p m g d :=
  h.upd (Upd.ofBelow (fp := noFp) hu) (fun _ _ h => h)

/-- the power behind a step. -/
def ADisk.fail (d : ADisk) : ADisk := { d with left := -1, down := true }
def ADisk.tick (d : ADisk) : ADisk := { d with left := max (d.left - 1) (-1), down := false }
theorem ADisk.WF.fail {d : ADisk} (h : d.WF) : d.fail.WF := { h with left0 := by simp [ADisk.fail], left1 := by simp [ADisk.fail] }
theorem ADisk.WF.tick {d : ADisk} (h : d.WF) : d.tick.WF := { h with left0 := by simp [ADisk.tick]; omega, left1 := by have := h.left1; simp [ADisk.tick]; omega }

/-- the power's cells alone have turned. -/
theorem DiskRep.power {w w' : World} {p m : Nat} {g : Value → Option Value} {d : ADisk} (h : DiskRep w p m g d) (hu : Upd (· = p) w w') {l : Int} {b : Bool}
    (hb : w'.heap[p]? = some (.cells #[.int .i64 l, .bool b, .map (some m), .int .i64 d.most] 86 (0, 0))) (hw : ({ d with left := l, down := b } : ADisk).WF) : DiskRep w' p m g { d with left := l, down := b } where
  head := hb
  map := h.map.upd hu (fun e => h.p_ne_m e.symm)
  dom := h.dom
  file s f hl := by
    obtain ⟨v, hg, hf⟩ := h.file s f hl
    exact ⟨v, hg, hf.upd hu (fun k hk => (h.block_ne hf hk).1)⟩
  apart := h.apart
  wf := hw

open Classical in
/-- a file is put into the map. -/
theorem DiskRep.stored {w w' : World} {p m n : Nat} {g : Value → Option Value} {d : ADisk} (h : DiskRep w p m g d) {s : ByteArray} {v : Value} {f : AFile} (hf : FileAt w v f)
    (hblk : ∀ k, fblocks v k → dfp p m g k → ∃ u, g (.string s) = some u ∧ fblocks u k)
    (hm : MapIs Tryz.prog 9 w' m n (fun x => if x = .string s then some v else g x)) (hg : w.grownBy w' (some m)) (hn : n = (putF d.fs s f).length)
    (hw : ({ d with fs := putF d.fs s f } : ADisk).WF) :
    DiskRep w' p m (fun x => if x = .string s then some v else g x) { d with fs := putF d.fs s f } where
  head := by rw [hg.block p (blk_lt h.head) (fun e => h.p_ne_m (by cases e; rfl))]; exact h.head
  map := by subst hn; exact hm
  dom key u hk := by
    split at hk
    · rename_i e; exact ⟨s, f, e, by rw [lk_putF, if_pos rfl]⟩
    · obtain ⟨t, f', ht, hl⟩ := h.dom key u hk
      by_cases hts : t = s
      · subst hts; exact ⟨t, f, ht, by rw [lk_putF, if_pos rfl]⟩
      · exact ⟨t, f', ht, by rw [lk_putF, if_neg hts]; exact hl⟩
  file t f' hl := by
    have hu : Upd (· = m) w w' := (Upd.refl _ _).grown hg (fun k hk => by cases hk; exact Or.inl rfl)
    simp only [lk_putF] at hl
    by_cases hts : t = s
    · subst hts
      rw [if_pos rfl] at hl; cases hl
      exact ⟨v, by simp, hf.upd hu (fun k hk => (h.block_ne hf hk).2)⟩
    · rw [if_neg hts] at hl
      obtain ⟨u, hgu, hfu⟩ := h.file t f' hl
      exact ⟨u, by simp [hts, hgu], hfu.upd hu (fun k hk => (h.block_ne hfu hk).2)⟩
  apart a b va vb ha hb hab k hka hkb := by
    simp only [Value.string.injEq] at ha hb
    by_cases has : a = s
    · rw [if_pos has] at ha; cases ha
      have hbs : b ≠ s := fun e => hab (by rw [has, e])
      rw [if_neg hbs] at hb
      obtain ⟨u, hu, hku⟩ := hblk k hka (Or.inr (Or.inr ⟨b, vb, hb, hkb⟩))
      exact h.apart b s vb u hb hu hbs k hkb hku
    · rw [if_neg has] at ha
      by_cases hbs : b = s
      · rw [if_pos hbs] at hb; cases hb
        obtain ⟨u, hu, hku⟩ := hblk k hkb (Or.inr (Or.inr ⟨a, va, ha, hka⟩))
        exact h.apart a s va u ha hu has k hka hku
      · rw [if_neg hbs] at hb
        exact h.apart a b va vb ha hb hab k hka hkb
  wf := hw

/-- what a put does, if the power holds. -/
def ADisk.put (d : ADisk) (s : ByteArray) (f : AFile) : ADisk := if d.left = 0 then d.fail else { d.tick with fs := putF d.fs s f }
def ADisk.err (d : ADisk) : Int := if d.left = 0 then 15 else 0

open Classical in
set_option maxRecDepth 100000 in
set_option maxHeartbeats 1000000 in
theorem put_any (w : World) (p m : Nat) (g : Value → Option Value) (d : ADisk) (s : ByteArray) (v : Value) (f : AFile) (h : DiskRep w p m g d) (hs : s.size ≤ maxLen) (hf : FileAt w v f)
    (hblk : ∀ k, fblocks v k → dfp p m g k → ∃ u, g (.string s) = some u ∧ fblocks u k) (hw : ({ d.tick with fs := putF d.fs s f } : ADisk).WF) :
    Calls Tryz.prog 67 #[.pointer (some ⟨p, 0, none⟩), .string s, v] w fun e w' => e = .returned (.int .i64 d.err) ∧ ∃ g', DiskRep w' p m g' (d.put s f) ∧ Upd (fun k => k = p ∨ k = m) w w' ∧ ∀ k, dfp p m g' k → dfp p m g k ∨ fblocks v k := by
  have hwf := h.wf
  have hl0 := hwf.left0
  have hl1 := hwf.left1
  obtain ⟨v1, v2, rfl, hf'⟩ := id hf
  obtain ⟨a1, c1, rfl, _⟩ := row_slice hf'.1
  obtain ⟨a2, c2, rfl, _⟩ := row_slice hf'.2.1
  clear hf'
  have hk := key_of hs
  have hlt := blk_lt h.head
  by_cases hz : d.left = 0
  · have Hz := Lib.hid hz
    have hzb : (!(d.left == 0)) = false := by simp [hz]
    have Hzb := Lib.hid hzb
    clear hz hzb
    go_enter Tryz.func67, Tryz.ntmps67
    go_wp2_with (go_at_call 74; refine (step_any p d.left d.down (.map (some m)) (.int .i64 d.most) 86 _ (alloc_old h.head _) hl0 hl1).mono ?_; rw [Hzb.out]; rintro e w1 ⟨rfl, hb1, hu1, hs1⟩)
    go_ret
    have hA : Upd noFp w (w.alloc (Obj.cells #[.slice a1 f.firm.length c1, .slice a2 f.loose.length c2] 95)) := (Upd.refl _ _).alloc _
    have h1 := (h.upd hA (fun _ _ h => h)).power (l := -1) (b := true) hu1 (by rw [hb1, Hz.out]; rfl) hwf.fail
    refine ⟨?_, g, ?_, (hA.mono (fun k h => h.elim)).trans hu1 (fun k hk => Or.inl (Or.inl hk)), fun k hk => Or.inl hk⟩
    · rw [ADisk.err, if_pos Hz.out]; rfl
    · rw [ADisk.put, if_pos Hz.out]; exact h1
  · have Hz := Lib.hid hz
    have hzb : (!(d.left == 0)) = true := by simp [hz]
    have Hzb := Lib.hid hzb
    clear hz hzb
    go_enter Tryz.func67, Tryz.ntmps67
    go_wp2_with (go_at_call 74; refine (step_any p d.left d.down (.map (some m)) (.int .i64 d.most) 86 _ (alloc_old h.head _) hl0 hl1).mono ?_; rw [Hzb.out]; rintro e w1 ⟨rfl, hb1, hu1, hs1⟩)
    have hA : Upd noFp w (w.alloc (Obj.cells #[.slice a1 f.firm.length c1, .slice a2 f.loose.length c2] 95)) := (Upd.refl _ _).alloc _
    have h1 := (h.upd hA (fun _ _ h => h)).power (l := max (d.left - 1) (-1)) (b := false) hu1 (by rw [hb1, show (d.left == 0) = false by simpa using Hz.out]) hwf.tick
    have hf1 : FileAt w1 (.agg #[.slice a1 f.firm.length c1, .slice a2 f.loose.length c2]) f := (hf.upd hA (fun _ _ h => h)).upd hu1 (fun k hk => (h.block_ne hf hk).1)
    obtain ⟨q0, q1, q2, q3, z0, z1, z2, z3⟩ := cells4 h1.head
    obtain ⟨y0, y1, _, _⟩ := cells2 (hu1.keep (alloc_at w _) (by omega))
    refine wp_region_tail 6 (by kernel_rfl) (by kernel_rfl) ?_
    simp only [List.take_succ_cons, List.take_zero, List.drop_succ_cons, List.drop_zero]
    repeat still_step
    refine wpStill_nil ?_
    refine wpList_map_update rfl (.tmp 15) (.tmp 16) (.tmp 17) 84 9 95 rfl Tryz.underlying84 keyed m _ g h1.map.drew rfl (.string s) rfl _ hk (.agg #[.slice a1 f.firm.length c1, .slice a2 f.loose.length c2]) rfl (by have := hwf.count; simp only [maxLen]; show d.fs.length < _; omega) (putF d.fs s f).length (by rw [length_putF hwf.sorted]; obtain ⟨_, _, _, _, _, _, _, hb⟩ := h.fileAgg s; simp only [hb]) ?_
    intro w2 hm2 hg2 hs2
    have h2 := h1.stored (w' := w2) (n := (putF d.fs s f).length) (s := s) (f := f) hf1 hblk hm2 (grown_drew hg2) rfl hw
    have hu2 : Upd (fun k => k = p ∨ k = m) w1 w2 := (Upd.refl _ _).drew.grown hg2 (fun k hk => by cases hk; exact Or.inl (Or.inr rfl))
    have Hg := Lib.hid hm2
    clear hm2
    go_wp2
    go_ret
    refine ⟨?_, fun x => if x = .string s then some (.agg #[.slice a1 f.firm.length c1, .slice a2 f.loose.length c2]) else g x, ?_, ((hA.mono (fun k h => h.elim)).trans hu1 (fun k hk => Or.inl (Or.inl hk))).trans hu2 (fun k hk => Or.inl hk), fun k hk => ?_⟩
    · rw [ADisk.err, if_neg Hz.out]; rfl
    · rw [ADisk.put, if_neg Hz.out]; exact h2
    · rcases hk with hk | hk | ⟨t, u, hu, hku⟩
      · exact Or.inl (Or.inl hk)
      · exact Or.inl (Or.inr (Or.inl hk))
      · replace hu : (if Value.string t = Value.string s then some (Value.agg #[.slice a1 f.firm.length c1, .slice a2 f.loose.length c2]) else g (.string t)) = some u := hu
        split at hu
        · cases hu; exact Or.inr hku
        · exact Or.inl (Or.inr (Or.inr ⟨t, u, hu, hku⟩))
end Go.Proofs.YtnagejhpdhdpfaaGreatDoor
