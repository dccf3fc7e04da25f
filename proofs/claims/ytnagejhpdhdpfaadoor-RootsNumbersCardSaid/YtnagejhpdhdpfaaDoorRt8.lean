/-
  Write, Read, their answers by name.
-/
import Derived.Outline
import Derived.Test.YtnagejhpdhdpfaaDoorRtW
import Derived.Test.YtnagejhpdhdpfaaDoorOpn6
namespace Go.Proofs.YtnagejhpdhdpfaaDoor
open Go.RowKit Go.Maps Go.MapKept

section
variable {ex : Nat → Prop} {w : World} {p m : Nat} {d d' : ADisk}
theorem write_ok (s t c n : Int) (vb : Value) (b : List UInt8) (h : DiskAt ex w p m d) (ht : isI64 t) (hc : isI64 c) (hv : Rd w vb (bcells b)) (hb : b.length ≤ 140737488355328) (hw : wrAll d t c b = (d', 0)) (hn : ((readR d).serial : Int) + 1 = n) :
    Calls Tryd.prog 15 #[.pointer (some ⟨p, 0, none⟩), .agg #[.int .i64 s, .int .i64 t, .int .i64 c, vb]] w fun e w' => e = .returned (.tuple #[.agg #[.int .i64 n, .int .i64 t, .int .i64 c, vb], .int .i64 0]) ∧ DiskAt ex w' p m d' ∧ Keep ex w w' := by
  have hR := rWrite_at (w := w) s t c vb b h ht hc hv hb
  unfold WrPost rootV at hR
  rw [hw, if_pos rfl, show (((readR d).serial + 1 : Nat) : Int) = n from hn] at hR
  exact hR
theorem write_err (s t c : Int) (vb : Value) (b : List UInt8) (er : Int) (h : DiskAt ex w p m d) (ht : isI64 t) (hc : isI64 c) (hv : Rd w vb (bcells b)) (hb : b.length ≤ 140737488355328) (hw : wrAll d t c b = (d', er)) (he : er ≠ 0) :
    Calls Tryd.prog 15 #[.pointer (some ⟨p, 0, none⟩), .agg #[.int .i64 s, .int .i64 t, .int .i64 c, vb]] w fun e w' => e = .returned (.tuple #[.agg #[.int .i64 0, .int .i64 0, .int .i64 0, .slice none 0 0], .int .i64 er]) ∧ DiskAt ex w' p m d' ∧ Keep ex w w' := by
  have hR := rWrite_at (w := w) s t c vb b h ht hc hv hb
  unfold WrPost rootV zeroV at hR
  rw [hw, if_neg he] at hR
  exact hR
theorem read_by (R : ARoot) (er : Int) (h : DiskAt ex w p m d) (hR : readR d = R) (he : readE d = er) :
    Calls Tryd.prog 18 #[.pointer (some ⟨p, 0, none⟩)] w fun e w' => ∃ a c, e = .returned (.tuple #[.agg #[.int .i64 R.serial, .int .i64 R.tick, .int .i64 R.commit, .slice a R.blob.length c], .bool (decide (0 < R.serial)), .int .i64 er]) ∧
      w'.ownsRow w.heap.size 5 1 (.slice a R.blob.length c) R.blob.length (bcells R.blob) ∧ Below w.heap.size w w' := by
  have := rRead_any w p m d h h.wf.most1
  unfold RrPost rootV at this
  rw [hR, he] at this
  exact this
end
/-- a number of a root that is written: no error but one of its numbers. -/
theorem rb_write (n : Nat) (t c : Int) {b : List UInt8} (hb : b.length ≤ 1000) : rbErr ((n + 1 : Nat) : Int) t c b.length = 0 ∨ rbErr ((n + 1 : Nat) : Int) t c b.length = 2 := by
  unfold rbErr
  split
  · exact Or.inr rfl
  · left; rw [if_neg (by omega)]
end Go.Proofs.YtnagejhpdhdpfaaDoor
