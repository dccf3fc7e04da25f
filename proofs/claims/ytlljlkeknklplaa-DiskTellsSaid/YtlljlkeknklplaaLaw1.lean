/-
  Calls upon a disk, as plain data; the walks of fits and does.
-/
import Derived.Outline
import Derived.Test.YtlljlkeknklplaaLaw0
import Derived.Test.YtlljlkeknklplaaOpen0
namespace Go.Proofs.Ytlljlkeknklplaa
open Go.RowKit Go.Maps Go.MapKept

structure ACall where
  what : Int
  name : ByteArray
  to : ByteArray
  vb : Value
  b : List UInt8
  n : Int
  vk : Value
  keeps : List Int

def ACall.cells (c : ACall) : List Value := [.int .u8 c.what, .string c.name, .string c.to, c.vb, .int .i64 c.n, c.vk]
def ACall.val (c : ACall) : Value := .agg #[.int .u8 c.what, .string c.name, .string c.to, c.vb, .int .i64 c.n, c.vk]
/-- what is known of a call that came in. -/
structure CallOk (w : World) (c : ACall) : Prop where
  what0 : 0 ≤ c.what
  what1 : c.what ≤ 255
  name : c.name.size ≤ maxLen
  to : c.to.size ≤ maxLen
  rb : Rd w c.vb (bcells c.b)
  lb : c.b.length ≤ maxLen
  n : isI64 c.n
  rk : Rd w c.vk (iCells c.keeps)
  lk : c.keeps.length ≤ maxLen
  ik : ∀ x ∈ c.keeps, isI64 x

theorem rd_block {w : World} {v : Value} {xs : List Value} (h : Rd w v xs) (hx : xs ≠ []) : ∀ k, v.ownBlock = some k → k < w.heap.size := by
  intro k hk
  rcases h with ⟨_, rfl⟩ | ⟨b, off, n, c, rfl, hn, hc⟩
  · exact absurd rfl hx
  · cases hk
    cases xs with
    | nil => exact absurd rfl hx
    | cons x xs => exact cell_lt (hc 0 x rfl)
theorem Rd.keepLow {W w : World} {v : Value} {xs : List Value} (h : Rd W v xs) (hk : Below W.heap.size W w) : Rd w v xs := by
  rcases h with h | ⟨b, off, n, c, rfl, hl, hc⟩
  · exact Or.inl h
  · exact Or.inr ⟨b, off, n, c, rfl, hl, fun j u hj => (hk.cell (p := ⟨b, off + j, none⟩) (cell_lt (hc j u hj))).trans (hc j u hj)⟩
theorem CallOk.below {W w : World} {c : ACall} (h : CallOk W c) (hb : Below W.heap.size W w) : CallOk w c :=
  { h with rb := h.rb.keepLow hb, rk := h.rk.keepLow hb }

def fitsB (c : ACall) : Bool := decide (c.name.size < 90) && decide (c.to.size < 90) && decide (c.b.length ≤ 150) && decide (c.keeps.length ≤ 250)

set_option maxRecDepth 100000 in
set_option maxHeartbeats 2000000 in
theorem fits_any (w : World) (c : ACall) (h : CallOk w c) :
    Calls Try.prog 20 #[c.val] w fun e w' => e = .returned (.bool (fitsB c)) ∧ Below w.heap.size w w' := by
  obtain ⟨ab, cb, hvb⟩ := h.rb.shape
  obtain ⟨ak, ck, hvk⟩ := h.rk.shape
  rw [bcells_length] at hvb
  rw [show (iCells c.keeps).length = c.keeps.length by simp [iCells]] at hvk
  have hfin : fitsB c = (decide ((c.name.size : Int) < 90) && decide ((c.to.size : Int) < 90) && decide ((c.b.length : Int) ≤ 150) && decide ((c.keeps.length : Int) ≤ 250)) := by
    unfold fitsB
    congr 1
    congr 1
    congr 1
    all_goals (congr 1; exact propext (by omega))
  unfold ACall.val
  rw [hvb, hvk]
  have Hfin := Lib.hid hfin
  clear hvb hvk hfin h
  by_cases h1 : (c.name.size : Int) < 90
  · by_cases h2 : (c.to.size : Int) < 90
    · by_cases h3 : (c.b.length : Int) ≤ 150
      · go_enter Try.func20, Try.ntmps20
        go_wp2
        go_ret
        exact ⟨by rw [Hfin.out]; simp [h1, h2, h3], (Below.refl _ _).alloc (Nat.le_refl _) _⟩
      · go_enter Try.func20, Try.ntmps20
        go_wp2
        go_ret
        exact ⟨by rw [Hfin.out]; simp [h1, h2]; intros; omega, (Below.refl _ _).alloc (Nat.le_refl _) _⟩
    · go_enter Try.func20, Try.ntmps20
      go_wp2
      go_ret
      exact ⟨by rw [Hfin.out]; simp [h1]; intros; omega, (Below.refl _ _).alloc (Nat.le_refl _) _⟩
  · go_enter Try.func20, Try.ntmps20
    go_wp2
    go_ret
    exact ⟨by rw [Hfin.out]; simp; intros; omega, (Below.refl _ _).alloc (Nat.le_refl _) _⟩

def ADisk.does (d : ADisk) (c : ACall) : ADisk :=
  if c.what = 0 then d.append c.name c.b else if c.what = 1 then d.append c.name c.b else if c.what = 2 then d.sync c.name else if c.what = 3 then d.rename c.name c.to else if c.what = 4 then d.remove c.name else if c.what = 5 then d.cut c.name c.n else d
def ADisk.doesErr (d : ADisk) (c : ACall) : Int :=
  if c.what = 0 then d.appendErr c.name c.b else if c.what = 1 then d.appendErr c.name c.b else if c.what = 2 then d.syncErr c.name else if c.what = 3 then d.renameErr c.name c.to else if c.what = 4 then d.removeErr c.name else if c.what = 5 then d.cutErr c.name c.n else 2

set_option maxRecDepth 100000 in
set_option maxHeartbeats 4000000 in
theorem does_at {ex : Nat → Prop} {w : World} {p m : Nat} {d : ADisk} (c : ACall) (h : DiskAt ex w p m d) (hc : CallOk w c) (hlb : c.b.length ≤ 140737488355328) :
    Calls Try.prog 42 #[.pointer (some ⟨p, 0, none⟩), c.val] w fun e w' => e = .returned (.int .i64 (d.doesErr c)) ∧ DiskAt ex w' p m (d.does c) ∧ Keep ex w w' := by
  have hkx : ∀ o : Obj, Keep ex w (w.alloc o) := fun o => Keep.alloc w o (fun k hk => h.lt hk)
  obtain ⟨ab, cb, hvb⟩ := hc.rb.shape
  rw [bcells_length] at hvb
  have hrb := hc.rb
  have hn := hc.name
  have ht := hc.to
  unfold ADisk.does ADisk.doesErr
  obtain ⟨what, name, to, vb, b, n, vk, keeps⟩ := c
  simp only at hvb hrb hn ht hlb ⊢
  subst hvb
  unfold ACall.val
  simp only
  clear hc
  have hE : ∀ (o : Obj), DiskAt ex (w.alloc o) p m d := fun o => h.alloc o
  have HE := Lib.hid hE
  have HK := Lib.hid hkx
  clear hE hkx
  by_cases h0 : what = 0
  · subst h0
    simp only [if_true]
    go_enter Try.func42, Try.ntmps42
    go_wp2_with (go_at_call 13; refine (Append_at _ _ b (HE.out _) hn (hrb.below ((Below.refl _ _).alloc (Nat.le_refl _) _)) hlb).mono ?_; rintro e w1 ⟨rfl, hp⟩)
    go_ret
    exact ⟨rfl, hp.1, (HK.out _).trans hp.2⟩
  rw [if_neg h0, if_neg h0]
  by_cases h1 : what = 1
  · subst h1
    simp only [if_true]
    go_enter Try.func42, Try.ntmps42
    go_wp2_with (go_at_call 13; refine (Append_at _ _ b (HE.out _) hn (hrb.below ((Below.refl _ _).alloc (Nat.le_refl _) _)) hlb).mono ?_; rintro e w1 ⟨rfl, hp⟩)
    go_ret
    exact ⟨rfl, hp.1, (HK.out _).trans hp.2⟩
  rw [if_neg h1, if_neg h1]
  by_cases h2 : what = 2
  · subst h2
    simp only [if_true]
    go_enter Try.func42, Try.ntmps42
    go_wp2_with (go_at_call 14; refine (Sync_at _ (HE.out _) hn).mono ?_; rintro e w1 ⟨rfl, hp⟩)
    go_ret
    exact ⟨rfl, hp.1, (HK.out _).trans hp.2⟩
  rw [if_neg h2, if_neg h2]
  by_cases h3 : what = 3
  · subst h3
    simp only [if_true]
    go_enter Try.func42, Try.ntmps42
    go_wp2_with (go_at_call 15; refine (Rename_at _ _ (HE.out _) hn ht).mono ?_; rintro e w1 ⟨rfl, hp⟩)
    go_ret
    exact ⟨rfl, hp.1, (HK.out _).trans hp.2⟩
  rw [if_neg h3, if_neg h3]
  by_cases h4 : what = 4
  · subst h4
    simp only [if_true]
    go_enter Try.func42, Try.ntmps42
    go_wp2_with (go_at_call 24; refine (Remove_at _ (HE.out _) hn).mono ?_; rintro e w1 ⟨rfl, hp⟩)
    go_ret
    exact ⟨rfl, hp.1, (HK.out _).trans hp.2⟩
  rw [if_neg h4, if_neg h4]
  by_cases h5 : what = 5
  · subst h5
    simp only [if_true]
    go_enter Try.func42, Try.ntmps42
    go_wp2_with (go_at_call 26; refine (Cut_at _ _ (HE.out _) hn).mono ?_; rintro e w1 ⟨rfl, hp⟩)
    go_ret
    exact ⟨rfl, hp.1, (HK.out _).trans hp.2⟩
  rw [if_neg h5, if_neg h5]
  have b0 : (what == 0) = false := by simpa using h0
  have b1 : (what == 1) = false := by simpa using h1
  have b2 : (what == 2) = false := by simpa using h2
  have b3 : (what == 3) = false := by simpa using h3
  have b4 : (what == 4) = false := by simpa using h4
  have b5 : (what == 5) = false := by simpa using h5
  clear h0 h1 h2 h3 h4 h5
  go_enter Try.func42, Try.ntmps42
  go_wp2
  go_ret
  exact ⟨rfl, HE.out _, HK.out _⟩
end Go.Proofs.Ytlljlkeknklplaa
