/-
  The walks of the statements' own helpers: file, tells.
-/
import Derived.Outline
import Derived.Laws.BytesArg
import Derived.Test.YtnagejhpdhdpfaaGreatDoorDisk9
namespace Go.Proofs.YtnagejhpdhdpfaaGreatDoor
open Go.RowKit Go.Maps Go.MapKept

theorem run_bytes_str {P : Program} {w : World} {v : Value} {b : List UInt8} (h : Rd w v (bcells b)) {src dst e : TypeId} (hs : P.underlying src = some (.slice e)) (he : P.underlying e = some (.int .u8)) (hd : P.underlying dst = some .string) :
    (convert src dst v).run P w = .ok (.string ⟨b.toArray⟩) w := by
  rcases h with ⟨rfl | ⟨a, c, rfl⟩, hb⟩ | ⟨bl, off, n, c, rfl, hn, hc⟩
  · have : b = [] := by simpa [bcells] using hb
    subst this
    exact run_convert_bytes_nil w src e hs he 0 0 dst hd
  · have : b = [] := by simpa [bcells] using hb
    subst this
    rw [run_convert_bytes_string w src dst e _ 0 c hs he hd, run_bytesToString w a 0 c [] (by simp [loadCells, loadCellsFrom])]
    rfl
  · have hl : (b.map fun x => (x.toNat : Int)).length = n := by rw [hn, bcells_length]; simp
    have := run_convert_bytes_arg (P := P) w src e hs he bl off n c (b.map fun x => (x.toNat : Int)) hl (fun i hi => by
      have hib : i < b.length := by rw [hn, bcells_length] at hi; exact hi
      rw [hc i (.int .u8 (b[i].toNat : Int)) (by simp [bcells, hib])]
      simp [List.getD, hib]) dst hd
    rw [this]
    congr 2
    have : b.map (fun x => UInt8.ofNat ((x.toNat : Int)).toNat) = b := by
      rw [List.map_congr_left (g := id) (fun x _ => by simp), List.map_id]
    simp only [strOfNums, List.map_map]
    rw [← this]
    simp [Function.comp_def]

end Go.Proofs.YtnagejhpdhdpfaaGreatDoor
