/-
  DiskPieces: the disk of one file, as plain data; its arguments opened.
-/
import Derived.Outline
import Derived.Test.YtlljlkeknklplaaOpen1
namespace Go.Proofs.Ytlljlkeknklplaa
open Go.RowKit Go.ChangeShapes Go.WideShapes Go.Deep

def pee : ByteArray := ⟨#[112]⟩
/-- no file, or the file pee with bytes s, f of them firm. -/
def pieceD : Option (List UInt8 × Nat) → ADisk
  | none => ⟨1000, -1, false, []⟩
  | some (s, f) => ⟨1000, -1, false, [(pee, ⟨s.take f, s.drop f⟩)]⟩
def pieceS : Option (List UInt8 × Nat) → List UInt8
  | none => []
  | some (s, _) => s
def pieceF : Option (List UInt8 × Nat) → Nat
  | none => 0
  | some (_, f) => f
theorem pee_ok : okName pee = true := by decide +kernel

theorem pieceD_used (o : Option (List UInt8 × Nat)) : usedF (pieceD o).fs = (pieceS o).length := by
  cases o with
  | none => rfl
  | some q => simp [pieceD, pieceS, usedF, AFile.len]; omega
theorem pieceD_count (o : Option (List UInt8 × Nat)) : (pieceD o).fs.length ≤ 1 := by cases o <;> simp [pieceD]
theorem pieceD_calm (o : Option (List UInt8 × Nat)) : (pieceD o).left = -1 ∧ (pieceD o).down = false ∧ (pieceD o).most = 1000 := by cases o <;> exact ⟨rfl, rfl, rfl⟩
theorem pieceD_append (o : Option (List UInt8 × Nat)) (b : List UInt8) (hf : pieceF o ≤ (pieceS o).length) (h : (pieceS o).length + b.length ≤ 1000) :
    (pieceD o).appendErr pee b = 0 ∧ (pieceD o).append pee b = pieceD (some (pieceS o ++ b, pieceF o)) := by
  obtain ⟨h1, h2, h3⟩ := pieceD_calm o
  have hc := pieceD_count o
  have g1 : ¬ (pieceD o).down = true := by rw [h2]; simp
  have g2 : ¬ okName pee = false := by rw [pee_ok]; simp
  have g3 : ¬ (pieceD o).most < (usedF (pieceD o).fs : Int) + (b.length : Int) := by rw [h3, pieceD_used]; omega
  have g4 : ¬ ((lk (pieceD o).fs pee).isNone = true ∧ 200 ≤ (pieceD o).fs.length) := by omega
  have g5 : ¬ (pieceD o).left = 0 := by rw [h1]; decide
  constructor
  · unfold ADisk.appendErr ADisk.err
    rw [if_neg g1, if_neg g2, if_neg g3, if_neg g4, if_neg g5]
  · unfold ADisk.append ADisk.put
    rw [if_neg g1, if_neg g2, if_neg g3, if_neg g4, if_neg g5]
    cases o with
    | none =>
      simp [pieceD, ADisk.tick, putF, afile, lk, pieceS, pieceF]
      decide
    | some q =>
      obtain ⟨s, f⟩ := q
      simp only [pieceS, pieceF] at hf ⊢
      have e1 : (s ++ b).take f = s.take f := List.take_append_of_le_length hf
      have e2 : (s ++ b).drop f = s.drop f ++ b := List.drop_append_of_le_length hf
      simp only [pieceD, e1, e2]
      simp [ADisk.tick, putF, afile, lk]
      decide
theorem pieceD_len (s : List UInt8) (f : Nat) : (afile (pieceD (some (s, f))) pee).firm ++ (afile (pieceD (some (s, f))) pee).loose = s ∧ (afile (pieceD (some (s, f))) pee).len = s.length := by
  constructor
  · simp [pieceD, afile, lk]
  · simp [pieceD, afile, lk, AFile.len]; omega
theorem pieceD_cutTo (s : List UInt8) (f n : Nat) : (pieceD (some (s, f))).cutTo pee n = pieceD (some (s.take n, n)) := by
  unfold ADisk.cutTo ADisk.put
  rw [(pieceD_len s f).1, if_neg (by simp [pieceD])]
  simp [pieceD, ADisk.tick, putF, List.take_take]
  decide
theorem pieceD_sync (s : List UInt8) (f : Nat) : (pieceD (some (s, f))).syncErr pee = 0 ∧ (pieceD (some (s, f))).sync pee = pieceD (some (s, s.length)) := by
  constructor
  · simp [pieceD, ADisk.syncErr, ADisk.err, lk]
  · unfold ADisk.sync
    rw [if_neg (by simp [pieceD]), if_neg (by simp [pieceD, lk]), pieceD_cutTo, (pieceD_len s f).2, List.take_length]
theorem pieceD_cut (s : List UInt8) (f : Nat) (n : Nat) (h : n ≤ s.length) : (pieceD (some (s, f))).cutErr pee n = 0 ∧ (pieceD (some (s, f))).cut pee n = pieceD (some (s.take n, n)) := by
  have hl := (pieceD_len s f).2
  have hc : ¬ ((n : Int) < 0 ∨ ((afile (pieceD (some (s, f))) pee).len : Int) < n) := by omega
  constructor
  · unfold ADisk.cutErr
    rw [if_neg (by simp [pieceD]), if_neg (by simp [pieceD, lk]), if_neg hc]
    simp [pieceD, ADisk.err]
  · unfold ADisk.cut
    rw [if_neg (by simp [pieceD]), if_neg (by simp [pieceD, lk]), if_neg hc, pieceD_cutTo]
    rfl
theorem pieceD_file (s : List UInt8) (f : Nat) (hf : f ≤ s.length) (z : ByteArray) (hz : z.data.toList = s) : fileIs (pieceD (some (s, f))) pee z f = true := by
  simp [fileIs, findErr, pieceD, lk, afile, hz]; omega
theorem pieceD_names (o : Option (List UInt8 × Nat)) : (pieceD o).names.length = if o.isSome then 1 else 0 := by
  cases o <;> simp [pieceD, ADisk.names]

section
variable {H : Type} {enc : TypeId × Value → H} {w : World} {base : Nat} {spare : Nat → Bool} {held : Bool}
def BytesQ (w : World) (l : List Value) (b : List UInt8) : Prop := ∃ v, l = [v] ∧ Rd w v (bcells b) ∧ b.length ≤ maxLen
def RowsAt (w : World) (v : Value) (bs : List (List UInt8)) : Prop := SliceOf 1 (BytesQ w) w v bs
def BoolsAt (w : World) (v : Value) (bs : List Bool) : Prop := SliceOf 1 (fun l b => l = [.bool b]) w v bs
set_option maxRecDepth 100000 in
theorem open_rows {fuel : Nat} {v : Value} {y : DataW H × List MemPlace} (h : DataW.trod enc Try.prog w base spare held fuel 89 [v] = some y) : ∃ bs, RowsAt w v bs := by
  have h1 : Try.prog.cellsOf 29 = 1 := by kernel_rfl
  obtain ⟨xs, hx⟩ := open_of Try.underlying89 (by rw [h1]; omega) (BytesQ w) (fun n cs y hl ht => by
    rw [h1] at hl
    match cs, hl with
    | [c], _ =>
      obtain ⟨b, r, l⟩ := open_bytes Try.underlying29 Try.underlying5 (by kernel_rfl) ht
      exact ⟨b, c, rfl, r, l⟩) h
  rw [h1] at hx
  exact ⟨xs, hx⟩
set_option maxRecDepth 100000 in
theorem open_bools {fuel : Nat} {v : Value} {y : DataW H × List MemPlace} (h : DataW.trod enc Try.prog w base spare held fuel 85 [v] = some y) : ∃ bs, BoolsAt w v bs := by
  have h1 : Try.prog.cellsOf 4 = 1 := by kernel_rfl
  obtain ⟨xs, hx⟩ := open_of Try.underlying85 (by rw [h1]; omega) (fun l b => l = [.bool b]) (fun n cs y _ ht => by
    obtain ⟨b, rfl, _⟩ := DataW.trod_bool Try.underlying4 ht
    exact ⟨b, rfl⟩) h
  rw [h1] at hx
  exact ⟨xs, hx⟩
end
theorem RowsAt.at {W w : World} {a : Option Addr} {n c : Nat} {bs : List (List UInt8)} (h : RowsAt W (.slice a n c) bs) (hb : Below W.heap.size W w) (k : Nat) (hk : k < bs.length) :
    ∃ b off v, a = some ⟨b, off, none⟩ ∧ b < W.heap.size ∧ w.cell? ⟨b, off + k, none⟩ = some v ∧ Rd w v (bcells bs[k]) ∧ (∀ g, v.ownBlock = some g → bs[k] ≠ [] → g < W.heap.size) := by
  obtain ⟨b, off, ha, l, _, hc, v, rfl, hr, hl⟩ := SliceOf.at h k hk
  have h1 := hc 0 v rfl
  rw [Nat.mul_one, Nat.add_zero] at h1
  refine ⟨b, off, v, ha, cell_lt h1, (hb.cell (p := ⟨b, off + k, none⟩) (cell_lt h1)).trans h1, hr.keepLow hb, fun g hg hne => ?_⟩
  exact rd_block hr (by intro e; exact hne (by simpa [bcells] using e)) g hg
theorem BoolsAt.at {W w : World} {a : Option Addr} {n c : Nat} {bs : List Bool} (h : BoolsAt W (.slice a n c) bs) (hb : Below W.heap.size W w) (k : Nat) (hk : k < bs.length) :
    ∃ b off, a = some ⟨b, off, none⟩ ∧ w.cell? ⟨b, off + k, none⟩ = some (.bool bs[k]) := by
  obtain ⟨b, off, ha, l, _, hc, rfl⟩ := SliceOf.at h k hk
  have h1 := hc 0 _ rfl
  rw [Nat.mul_one, Nat.add_zero] at h1
  exact ⟨b, off, ha, (hb.cell (p := ⟨b, off + k, none⟩) (cell_lt h1)).trans h1⟩
end Go.Proofs.Ytlljlkeknklplaa
