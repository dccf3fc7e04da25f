/-
  The document's disk: New, ask.
-/
import Derived.Outline
import Derived.Test.YtlljlkeknklplaaRef1
namespace Go.Proofs.Ytlljlkeknklplaa
open Go.RowKit Go.Maps Go.MapKept
variable {X : Nat → Prop}

set_option maxRecDepth 100000 in
set_option maxHeartbeats 2000000 in
theorem refNew_good (w : World) (n : Int) (h0 : 0 ≤ n) (h1 : n ≤ 16777216) :
    Calls Try.prog 19 #[.int .i64 n] w fun e w' => e = .returned (.tuple #[refVal none 0 0 ⟨n, -1, false, []⟩, .int .i64 0]) ∧ Below w.heap.size w w' := by
  go_enter Try.func19, Try.ntmps19
  go_wp2_with fail
  have hX := alloc_at w (.cells #[.int .i64 n, .slice none 0 0, .int .i64 (-1), .bool false] 43)
  have hb : Below w.heap.size w (w.alloc (.cells #[.int .i64 n, .slice none 0 0, .int .i64 (-1), .bool false] 43)) := (Below.refl _ _).alloc (Nat.le_refl _) _
  obtain ⟨x0, x1, x2, x3, _⟩ := cells4 hX
  refine bodyPost_ret (v := .tuple #[.agg #[.int .i64 n, .slice none 0 0, .int .i64 (-1), .bool false], .int .i64 0]) (by simp [results, Try.results19, go_sem, x0, x1, x2, x3]) rfl ⟨rfl, hb⟩
theorem refNew_at (w : World) (n : Int) : RefAt X w none 0 0 ⟨n, -1, false, []⟩ := ⟨Or.inl ⟨Or.inl rfl, rfl⟩, rfl, fun h => absurd rfl h⟩
end Go.Proofs.Ytlljlkeknklplaa
