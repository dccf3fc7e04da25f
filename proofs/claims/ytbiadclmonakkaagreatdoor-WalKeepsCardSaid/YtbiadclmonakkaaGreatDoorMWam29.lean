/-
  A record is appended onto a slice of records that is full (its capacity cut to its length): a new row.
-/
import Derived.ArgAppend
import Derived.Test.YtbiadclmonakkaaGreatDoorMWmD
namespace Go.Proofs.YtbiadclmonakkaaGreatDoor
open Go.RowKit Go.Maps Go.MapKept

theorem recs_cut1 (w : World) (b o : Nat) (L : List XRec) (x : XRec) (z : Int) (hz : z = x.n) (n : Nat) (hn : n = L.length) (hrd : ∀ j u, (recX L)[j]? = some u → w.cell? ⟨b, o + j, none⟩ = some u) (h63 : n ≤ 1000000) :
    ∃ v' w', (Builtin.append_ #[28, 28] 28 #[.slice (some ⟨b, o, none⟩) n n, .slice (some ⟨w.heap.size, 0, none⟩) 1 1]).run Tryz.prog (w.alloc (.cells #[.int .i64 z, x.vb] 47)) = .ok v' w' ∧ w'.ownsRow w.heap.size 47 2 v' (n + 1) (recX (L ++ [x])) ∧
      (w.alloc (.cells #[.int .i64 z, x.vb] 47)).grownBy w' none := by
  subst hz
  obtain ⟨b0, b1, _⟩ := cells2 (alloc_at w (.cells #[.int .i64 (x.n : Int), x.vb] 47))
  obtain ⟨i0, hi, hz0, hz1, hz2⟩ := info_parts info_rec
  obtain ⟨v', w', h1, h2, h3⟩ := run_append_arg_grows (P := Tryz.prog) (w.alloc (.cells #[.int .i64 (x.n : Int), x.vb] 47)) 28 28 47 i0 _ 2 32 Tryz.underlying28 hi hz0 hz1 hz2 rfl (by omega)
    ⟨b, o, none⟩ n n (recX L) (by rw [recX_length, hn]) (fun j u hu => by
      have h := hrd j u hu
      rw [Addr.add_lit, World.cell?_alloc_lt _ _ _ (cell_lt h)]
      exact h) ⟨w.heap.size, 0, none⟩ 1 1 (recX [x]) rfl (fun j u hu => by
      match j, hu with
      | 0, h => cases h; exact b0
      | 1, h => cases h; exact b1) (by omega) (by simp only [maxLen]; omega) (by omega)
  refine ⟨v', w', h1, ?_, h3⟩
  rw [recX_app]
  exact ownsRow_from h2 (fun g hg => by have := row_from h2 hg; simp at this; omega)
end Go.Proofs.YtbiadclmonakkaaGreatDoor
