/-
  A shot of a disk: append to rows of strings and of ints.
-/
import Derived.Outline
import Derived.Deep.RegionHeld3
import Derived.Test.YtlljlkeknklplaaShot0
namespace Go.Proofs.Ytlljlkeknklplaa
open Go.RowKit Go.Maps Go.MapKept

theorem sCells_append (l m : List ByteArray) : sCells (l ++ m) = sCells l ++ sCells m := by simp [sCells]
theorem iCells_append (l m : List Int) : iCells (l ++ m) = iCells l ++ iCells m := by simp [iCells]
theorem info_str : (Try.prog.info? 9).map (fun i => (i.zero, i.size, i.bytes)) = some (some (.string ⟨#[]⟩), 1, 16) := by kernel_rfl
theorem info_int : (Try.prog.info? 3).map (fun i => (i.zero, i.size, i.bytes)) = some (some (.int .i64 0), 1, 8) := by kernel_rfl

theorem append_str {w : World} {ops : Array Oper} {rest : List Oper} {o : Oper} {a : Act} {Q : Exit → Act → World → Prop} (hgd : Region.wanted o (yielded ops a.tmps) = true) (s x : Operand)
    (ho : o.op = .call { callee := .builtin .append, args := #[s, x], argTypes := #[35, 35] })
    (v vx : Value) (l m r : List ByteArray) (hlm : l ++ m = r) (hs : a.eval s = v) (hown : w.ownsRow 0 9 1 v l.length (sCells l)) (hx : a.eval x = vx) (hrd : Rd w vx (sCells m))
    (h63 : l.length + m.length ≤ 1000000)
    (h : ∀ v' w', w'.ownsRow 0 9 1 v' r.length (sCells r) → w.grownBy w' v.ownBlock → (v'.ownBlock = v.ownBlock ∨ ∃ g, v'.ownBlock = some g ∧ w.heap.size ≤ g) → wpList Try.prog ops Q rest (a.put o.dst v') w') : wpList Try.prog ops Q (o :: rest) a w := by
  subst hlm
  obtain ⟨i0, hi, hz0, hz1, hz2⟩ := info_parts info_str
  refine wpList_append_rd hgd s x 35 ho 9 i0 (.string ⟨#[]⟩) 16 Try.underlying35 hi hz0 hz1 hz2 rfl v vx l.length m.length (sCells l) (sCells m) hs hown hx hrd (by simp [sCells_length]) (fun u hu => by obtain ⟨_, _, rfl⟩ := List.mem_map.1 hu; rfl) (by simp only [maxLen]; omega) (by omega) ?_
  intro v' w' h1 h2 h3 _
  rw [← sCells_append, ← List.length_append] at h1
  exact h v' w' h1 h2 h3
theorem append_i64 {w : World} {ops : Array Oper} {rest : List Oper} {o : Oper} {a : Act} {Q : Exit → Act → World → Prop} (hgd : Region.wanted o (yielded ops a.tmps) = true) (s x : Operand)
    (ho : o.op = .call { callee := .builtin .append, args := #[s, x], argTypes := #[46, 46] })
    (v vx : Value) (l m r : List Int) (hlm : l ++ m = r) (hs : a.eval s = v) (hown : w.ownsRow 0 3 1 v l.length (iCells l)) (hx : a.eval x = vx) (hrd : Rd w vx (iCells m))
    (h63 : l.length + m.length ≤ 1000000)
    (h : ∀ v' w', w'.ownsRow 0 3 1 v' r.length (iCells r) → w.grownBy w' v.ownBlock → (v'.ownBlock = v.ownBlock ∨ ∃ g, v'.ownBlock = some g ∧ w.heap.size ≤ g) → wpList Try.prog ops Q rest (a.put o.dst v') w') : wpList Try.prog ops Q (o :: rest) a w := by
  subst hlm
  obtain ⟨i0, hi, hz0, hz1, hz2⟩ := info_parts info_int
  refine wpList_append_rd hgd s x 46 ho 3 i0 (.int .i64 0) 8 Try.underlying46 hi hz0 hz1 hz2 rfl v vx l.length m.length (iCells l) (iCells m) hs hown hx hrd (by simp [iCells_length]) (fun u hu => by obtain ⟨_, _, rfl⟩ := List.mem_map.1 hu; rfl) (by simp only [maxLen]; omega) (by omega) ?_
  intro v' w' h1 h2 h3 _
  rw [← iCells_append, ← List.length_append] at h1
  exact h v' w' h1 h2 h3

def ADisk.shot (d : ADisk) : Shot := ⟨d.names, d.names.map (fun s => ⟨(d.readBytes s).toArray⟩), d.names.map (fun s => ((afile d s).firm.length : Int))⟩

/-- a shot in blocks from base on. -/
structure ShotOwn (base : Nat) (w : World) (vn vb vf : Value) (s : Shot) : Prop where
  n : w.ownsRow base 9 1 vn s.names.length (sCells s.names)
  b : w.ownsRow base 9 1 vb s.bytes.length (sCells s.bytes)
  f : w.ownsRow base 3 1 vf s.firm.length (iCells s.firm)
  l : s.names.length ≤ 200 ∧ s.bytes.length ≤ 200 ∧ s.firm.length ≤ 200

theorem ShotOwn.at {base : Nat} {w : World} {vn vb vf : Value} {s : Shot} (h : ShotOwn base w vn vb vf s) : ShotAt w vn vb vf s :=
  ⟨Rd.ofOwns h.n, Rd.ofOwns h.b, Rd.ofOwns h.f, by have := h.l.1; simp only [maxLen]; omega, by have := h.l.2.1; simp only [maxLen]; omega, by have := h.l.2.2; simp only [maxLen]; omega⟩
theorem ShotOwn.keep {ex : Nat → Prop} {base : Nat} {w w' : World} {vn vb vf : Value} {s : Shot} (h : ShotOwn base w vn vb vf s) (hk : Keep ex w w') (hx : ∀ k, base ≤ k → k < w.heap.size → ex k) : ShotOwn base w' vn vb vf s :=
  ⟨hk.row h.n (fun g hg => hx g (h.n.lt g hg).1 (h.n.lt g hg).2), hk.row h.b (fun g hg => hx g (h.b.lt g hg).1 (h.b.lt g hg).2), hk.row h.f (fun g hg => hx g (h.f.lt g hg).1 (h.f.lt g hg).2), h.l⟩
end Go.Proofs.Ytlljlkeknklplaa
