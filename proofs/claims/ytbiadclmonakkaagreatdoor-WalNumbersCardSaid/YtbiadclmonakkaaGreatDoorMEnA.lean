/-
  What the rows of chapter 04 list gives the walks: the table of powers, the two errors of strconv.
-/
import Derived.Lib.LaidTab
import Derived.Stop.LaidErr
import Derived.LaidByTextLater
import Derived.Test.YtbiadclmonakkaaGreatDoorRows
import Derived.Test.YtbiadclmonakkaaGreatDoorMWmA
namespace Go.Proofs.YtbiadclmonakkaaGreatDoor

theorem star_err : "*" ++ "errors.errorString" = "*errors.errorString" := by decide
theorem row_err (u : TypeId) (h : Tryz.prog.typeName? 3 u = some "*errors.errorString") : u = 234 :=
  typeName_ptr_named (nm := "errors.errorString") (by rw [star_err]; kernel_rfl) (by kernel_rfl) (by decide) u (by rw [star_err]; exact h)
theorem wenv_of {W : World} (h : laidMetH Tryz.prog [("math/bits.deBruijn32tab", Rows.laid_math_bits_deBruijn32tab), ("math/bits.deBruijn64tab", Rows.laid_math_bits_deBruijn64tab), ("internal/strconv.uint64pow10", Rows.laid_internal_strconv_uint64pow10), ("strconv.ErrRange", Rows.laid_strconv_ErrRange), ("strconv.ErrSyntax", Rows.laid_strconv_ErrSyntax)] W) : WEnv W := by
  rw [MakeChecks.laidMetH_plain _ _ _ (by kernel_rfl)] at h
  have h1 := h.tail.tail
  have h2 := h1.tail
  have h3 := h2.tail
  obtain ⟨a, s, ha, _⟩ := laid_sentinel h2 gRng_is (ti := 133) (by kernel_rfl) Tryz.underlying133 row_err Tryz.underlying234 Tryz.underlying236 rfl rfl (by kernel_rfl) (by kernel_rfl) (by kernel_rfl)
  obtain ⟨b, t, hb, _⟩ := laid_sentinel h3 gSyn_is (ti := 133) (by kernel_rfl) Tryz.underlying133 row_err Tryz.underlying234 Tryz.underlying236 rfl rfl (by kernel_rfl) (by kernel_rfl) (by kernel_rfl)
  exact ⟨Lib.tabIs_of_head (n := 20) (t := 210) (e := 123) gTab_is (by kernel_rfl) (by kernel_rfl) (by kernel_rfl) (by kernel_rfl) (by kernel_rfl) h1, ⟨_, _, hb⟩, ⟨_, _, ha⟩⟩
end Go.Proofs.YtbiadclmonakkaaGreatDoor
