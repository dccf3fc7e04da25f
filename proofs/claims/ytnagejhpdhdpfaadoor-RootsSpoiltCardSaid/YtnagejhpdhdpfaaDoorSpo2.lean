/-
  RootsSpoilt: the walk, its arguments as the frame hands them.
-/
import Derived.Test.YtnagejhpdhdpfaaDoorSpoiltW
namespace Go.Proofs.YtnagejhpdhdpfaaDoor
open Go.RowKit Go.Maps Go.MapKept
theorem spoilt_law2 (w : World) {v0 : Value} (l : List XRoot) (hl : RootsAt w v0 l) (one : Int) (h1 : (Lit.int .i64 one).wf = true) (two : Int) (h2 : (Lit.int .i64 two).wf = true) (gone : Bool) :
    Calls Tryd.prog 5 #[v0, .int .i64 one, .int .i64 two, .bool gone] w fun e w' => e = .returned (.bool true) ∧ Below w.heap.size w w' := by
  have b1 := bounds_i64 h1
  have b2 := bounds_i64 h2
  exact spoilt_law w l hl one two (by unfold isI64; omega) (by unfold isI64; omega) gone
end Go.Proofs.YtnagejhpdhdpfaaDoor
