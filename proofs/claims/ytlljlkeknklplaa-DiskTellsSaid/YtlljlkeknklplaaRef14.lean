/-
  The document's disk: Crash, plainly.
-/
import Derived.Outline
import Derived.Test.YtlljlkeknklplaaRef7
import Derived.Test.YtlljlkeknklplaaDisk7
namespace Go.Proofs.Ytlljlkeknklplaa
open Go.RowKit Go.Maps Go.MapKept

theorem putF_mid (A : List (ByteArray × AFile)) (s : ByteArray) (f0 f : AFile) (R : List (ByteArray × AFile)) (h : ∀ p ∈ A, ltS p.1 s = true) : putF (A ++ (s, f0) :: R) s f = A ++ (s, f) :: R := by
  induction A with
  | nil => simp [putF]
  | cons p A ih =>
    have hp := h p (by simp)
    simp only [List.cons_append, putF]
    rw [if_neg (ltS_ne hp), if_neg (by rw [ltS_asymm hp]; simp), ih (fun q hq => h q (List.mem_cons_of_mem _ hq))]
/-- the first k files as they are behind a crash. -/
def crashE (fs : List (ByteArray × AFile)) (keeps : List Int) (k : Nat) : List (ByteArray × AFile) := (fs.take k).mapIdx fun i q => (q.1, q.2.kept (keeps.getD i 0))
theorem crashE_succ (fs : List (ByteArray × AFile)) (keeps : List Int) (k : Nat) (hk : k < fs.length) : crashE fs keeps (k + 1) = crashE fs keeps k ++ [(fs[k].1, fs[k].2.kept (keeps.getD k 0))] := by
  unfold crashE
  rw [List.take_succ_eq_append_getElem hk, List.mapIdx_append]
  simp [Nat.min_eq_left (Nat.le_of_lt hk)]
theorem crashK_parts {fs : List (ByteArray × AFile)} (hs : SortedF fs) (keeps : List Int) (k : Nat) (hk : k ≤ fs.length) : crashK fs keeps k = crashE fs keeps k ++ fs.drop k := by
  induction k with
  | zero => simp [crashK, crashE]
  | succ k ih =>
    have hlt : k < fs.length := hk
    simp only [crashK]
    rw [List.getElem?_eq_getElem hlt, ih (by omega), crashE_succ _ _ _ hlt, List.drop_eq_getElem_cons hlt]
    simp only
    rw [putF_mid]
    · simp
    · intro p hp
      unfold crashE at hp
      obtain ⟨i, hi, rfl⟩ := List.mem_mapIdx.1 hp
      simp only [List.length_take] at hi
      rw [List.getElem_take]
      exact List.pairwise_iff_getElem.1 hs i k (by omega) hlt (by omega)
theorem crash_fs {d : ADisk} (h : d.WF) (keeps : List Int) : (d.crash keeps).fs = crashE d.fs keeps d.fs.length := by
  show crashK d.fs keeps d.fs.length = _
  rw [crashK_parts h.sorted keeps _ (Nat.le_refl _)]
  simp
/-- how many bytes are left. -/
def keptN (f : AFile) (x : Int) : Nat := f.firm.length + (min (max x 0) f.loose.length).toNat
theorem kept_eq (f : AFile) (x : Int) : f.kept x = ⟨(f.firm ++ f.loose).take (keptN f x), []⟩ := rfl
theorem keptN_le (f : AFile) (x : Int) : keptN f x ≤ f.firm.length + f.loose.length := by unfold keptN; omega
theorem keptN_all {f : AFile} {x : Int} (h : (f.loose.length : Int) ≤ x) : keptN f x = f.firm.length + f.loose.length := by unfold keptN; omega
theorem keptN_some {f : AFile} {x : Int} (h : x < f.loose.length) (h0 : 0 < x) : (keptN f x : Int) = f.firm.length + x := by unfold keptN; omega
theorem keptN_none {f : AFile} {x : Int} (h0 : x ≤ 0) : keptN f x = f.firm.length := by unfold keptN; omega
end Go.Proofs.Ytlljlkeknklplaa
