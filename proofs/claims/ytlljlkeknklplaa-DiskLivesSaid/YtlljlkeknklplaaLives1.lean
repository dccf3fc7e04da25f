/-
  Arguments opened: lists of lists of calls, lists of lists of numbers; Crash with whatever keeps.
-/
import Derived.Outline
import Derived.Test.YtlljlkeknklplaaLives0
import Derived.Test.YtlljlkeknklplaaOpen1
namespace Go.Proofs.Ytlljlkeknklplaa
open Go.RowKit Go.ChangeShapes Go.WideShapes Go.Deep

def CallsQ (w : World) (l : List Value) (cs : List ACall) : Prop := ∃ v, l = [v] ∧ CallsAt w v cs
def LivesAt (w : World) (v : Value) (ls : List (List ACall)) : Prop := SliceOf 1 (CallsQ w) w v ls
def IntsQ (w : World) (l : List Value) (xs : List Int) : Prop := ∃ v, l = [v] ∧ Rd w v (iCells xs) ∧ xs.length ≤ maxLen ∧ ∀ x ∈ xs, isI64 x
def IntsAt (w : World) (v : Value) (ls : List (List Int)) : Prop := SliceOf 1 (IntsQ w) w v ls

section
variable {H : Type} {enc : TypeId × Value → H} {w : World} {base : Nat} {spare : Nat → Bool} {held : Bool}
set_option maxRecDepth 100000 in
theorem open_lives {fuel : Nat} {v : Value} {y : DataW H × List MemPlace} (h : DataW.trod enc Try.prog w base spare held fuel 73 [v] = some y) : ∃ bs, LivesAt w v bs := by
  have h1 : Try.prog.cellsOf 40 = 1 := by kernel_rfl
  obtain ⟨xs, hx⟩ := open_of Try.underlying73 (by rw [h1]; omega) (CallsQ w) (fun n cs y hl ht => by
    rw [h1] at hl
    match cs, hl with
    | [c], _ =>
      obtain ⟨b, r⟩ := open_calls ht
      exact ⟨b, c, rfl, r⟩) h
  rw [h1] at hx
  exact ⟨xs, hx⟩
set_option maxRecDepth 100000 in
theorem open_keeps {fuel : Nat} {v : Value} {y : DataW H × List MemPlace} (h : DataW.trod enc Try.prog w base spare held fuel 74 [v] = some y) : ∃ bs, IntsAt w v bs := by
  have h1 : Try.prog.cellsOf 46 = 1 := by kernel_rfl
  obtain ⟨xs, hx⟩ := open_of Try.underlying74 (by rw [h1]; omega) (IntsQ w) (fun n cs y hl ht => by
    rw [h1] at hl
    match cs, hl with
    | [c], _ =>
      obtain ⟨b, r, l, i⟩ := open_i64s Try.underlying46 Try.underlying3 (by kernel_rfl) ht
      exact ⟨b, c, rfl, r, l, i⟩) h
  rw [h1] at hx
  exact ⟨xs, hx⟩
end

theorem CallsAt.low {W w : World} {v : Value} {cs : List ACall} (h : CallsAt W v cs) (hb : Below W.heap.size W w) : CallsAt w v cs := by
  rcases h with h | ⟨b, off, n, c, e, hl, hm, hc⟩
  · exact Or.inl h
  · refine Or.inr ⟨b, off, n, c, e, hl, hm, fun j x hj => ?_⟩
    obtain ⟨cs, h1, h2, h3, h4⟩ := hc j x hj
    exact ⟨cs, h1, fun i u hu => (hb.cell (p := ⟨b, off + (j * 6 + i), none⟩) (cell_lt (h2 i u hu))).trans (h2 i u hu), h3, h4.below hb⟩
theorem LivesAt.at {W w : World} {a : Option Addr} {n c : Nat} {bs : List (List ACall)} (h : LivesAt W (.slice a n c) bs) (hb : Below W.heap.size W w) (k : Nat) (hk : k < bs.length) :
    ∃ b off v, a = some ⟨b, off, none⟩ ∧ b < W.heap.size ∧ w.cell? ⟨b, off + k, none⟩ = some v ∧ CallsAt W v bs[k] := by
  obtain ⟨b, off, ha, l, _, hc, v, rfl, hr⟩ := SliceOf.at h k hk
  have h1 := hc 0 v rfl
  rw [Nat.mul_one, Nat.add_zero] at h1
  exact ⟨b, off, v, ha, cell_lt h1, (hb.cell (p := ⟨b, off + k, none⟩) (cell_lt h1)).trans h1, hr⟩
theorem IntsAt.at {W w : World} {a : Option Addr} {n c : Nat} {bs : List (List Int)} (h : IntsAt W (.slice a n c) bs) (hb : Below W.heap.size W w) (k : Nat) (hk : k < bs.length) :
    ∃ b off v, a = some ⟨b, off, none⟩ ∧ w.cell? ⟨b, off + k, none⟩ = some v ∧ Rd w v (iCells bs[k]) ∧ (∀ x ∈ bs[k], isI64 x) ∧ (∀ g, v.ownBlock = some g → bs[k] ≠ [] → g < W.heap.size) := by
  obtain ⟨b, off, ha, l, _, hc, v, rfl, hr, hl, hi⟩ := SliceOf.at h k hk
  have h1 := hc 0 v rfl
  rw [Nat.mul_one, Nat.add_zero] at h1
  refine ⟨b, off, v, ha, (hb.cell (p := ⟨b, off + k, none⟩) (cell_lt h1)).trans h1, hr.keepLow hb, hi, fun g hg hne => ?_⟩
  exact rd_block hr (by intro e; exact hne (by simpa [iCells] using e)) g hg

theorem Crash_at0 {ex : Nat → Prop} {w : World} {p m : Nat} {d : ADisk} (vk : Value) (keeps : List Int) (h : DiskAt ex w p m d) (hrd : Rd w vk (iCells keeps)) (hkl : keeps.length ≤ 9223372036854775807) (hki : ∀ x ∈ keeps, isI64 x) (hk : ∀ k, vk.ownBlock = some k → keeps ≠ [] → ex k) :
    Calls Try.prog 30 #[.pointer (some ⟨p, 0, none⟩), vk] w fun e w' => e = .returned (.tuple #[]) ∧ DiskAt ex w' p m (d.crash keeps) ∧ Keep ex w w' := by
  obtain ⟨g, hr, hx⟩ := h
  exact (Crash_any0 w p m g d vk keeps hr hrd hkl hki (fun k hv hn => (hx k (hk k hv hn)).2)).mono fun e w' he => ⟨he.1, DiskAt.post hr hx he.2⟩

/-- a shot in the struct at block B; all its blocks are kept. -/
def WasAt (ex : Nat → Prop) (w : World) (B : Nat) (s : Shot) : Prop :=
  ∃ a1 n1 c1 a2 n2 c2 a3 n3 c3, w.heap[B]? = some (.cells #[.slice a1 n1 c1, .slice a2 n2 c2, .slice a3 n3 c3] 76 (0, 0)) ∧ ShotAt w (.slice a1 n1 c1) (.slice a2 n2 c2) (.slice a3 n3 c3) s ∧ ex B ∧
    ∀ g, ((Value.slice a1 n1 c1).ownBlock = some g ∨ (Value.slice a2 n2 c2).ownBlock = some g ∨ (Value.slice a3 n3 c3).ownBlock = some g) → ex g
theorem WasAt.keep {ex : Nat → Prop} {w w' : World} {B : Nat} {s : Shot} (h : WasAt ex w B s) (hk : Keep ex w w') : WasAt ex w' B s := by
  obtain ⟨a1, n1, c1, a2, n2, c2, a3, n3, c3, hB, hs, hx, hg⟩ := h
  exact ⟨a1, n1, c1, a2, n2, c2, a3, n3, c3, (hk.block _ hx).trans hB, { hs with n := hk.rd hs.n (fun g h => hg g (Or.inl h)), b := hk.rd hs.b (fun g h => hg g (Or.inr (Or.inl h))), f := hk.rd hs.f (fun g h => hg g (Or.inr (Or.inr h))) }, hx, hg⟩
theorem WasAt.mono {ex ex' : Nat → Prop} {w : World} {B : Nat} {s : Shot} (h : WasAt ex w B s) (hm : ∀ k, ex k → ex' k) : WasAt ex' w B s := by
  obtain ⟨a1, n1, c1, a2, n2, c2, a3, n3, c3, hB, hs, hx, hg⟩ := h
  exact ⟨a1, n1, c1, a2, n2, c2, a3, n3, c3, hB, hs, hm _ hx, fun g h => hm _ (hg g h)⟩
/-- a shot of one's own is kept, when its blocks and the struct's are. -/
theorem ShotOwn.was {base : Nat} {ex : Nat → Prop} {w w' : World} {B n1 n2 n3 : Nat} {a1 a2 a3 : Option Addr} {c1 c2 c3 : Nat} {s : Shot} (h : ShotOwn base w (.slice a1 n1 c1) (.slice a2 n2 c2) (.slice a3 n3 c3) s) (hB : w'.heap[B]? = some (.cells #[.slice a1 n1 c1, .slice a2 n2 c2, .slice a3 n3 c3] 76 (0, 0)))
    (hk : Keep (fun k => base ≤ k ∧ k < w.heap.size) w w') (hx : ex B) (hm : ∀ k, base ≤ k → k < w.heap.size → ex k) : WasAt ex w' B s := by
  refine ⟨a1, n1, c1, a2, n2, c2, a3, n3, c3, hB, (h.keep hk (fun k h1 h2 => ⟨h1, h2⟩)).at, hx, fun g hg => ?_⟩
  rcases hg with hg | hg | hg
  · exact hm g (h.n.lt g hg).1 (h.n.lt g hg).2
  · exact hm g (h.b.lt g hg).1 (h.b.lt g hg).2
  · exact hm g (h.f.lt g hg).1 (h.f.lt g hg).2
end Go.Proofs.Ytlljlkeknklplaa
