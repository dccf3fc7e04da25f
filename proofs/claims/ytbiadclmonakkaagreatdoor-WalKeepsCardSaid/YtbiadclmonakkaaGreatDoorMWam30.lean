/-
  A record is appended onto a slice of records that is full, or a row of its own: one law for both.
-/
import Derived.Outline
import Derived.Test.YtbiadclmonakkaaGreatDoorMWam29
import Derived.Test.YtbiadclmonakkaaGreatDoorMWmD
namespace Go.Proofs.YtbiadclmonakkaaGreatDoor
open Go.RowKit Go.Maps Go.MapKept

/-- a slice of records that may be appended to. -/
structure RecsUp (w : World) (bs : Nat) (a : Option Addr) (n c : Nat) (XL : List XRec) : Prop where
  rd : RecRd w a XL
  len : XL.length = n
  cap : n ≤ c
  own : c = n ∨ w.ownsRow bs 47 2 (.slice a n c) n (recX XL)
  adr : a = none ∨ ∃ b o, a = some ⟨b, o, none⟩
theorem row_adr {w : World} {base n c : Nat} {a : Option Addr} {xs : List Value} (h : w.ownsRow base 47 2 (.slice a n c) n xs) : a = none ∨ ∃ b o, a = some ⟨b, o, none⟩ := by
  rcases h.2 with ⟨he, _⟩ | ⟨g, cap, cur, he, _⟩
  · cases he; exact Or.inl rfl
  · cases he; exact Or.inr ⟨_, _, rfl⟩
theorem RecsUp.keep {ex : Nat → Prop} {w w' : World} {bs : Nat} {a : Option Addr} {n c : Nat} {XL : List XRec} (h : RecsUp w bs a n c XL) (hk : Keep ex w w') (hb : ∀ g, (Value.slice a n c).ownBlock = some g → ex g) (hr : ∀ x ∈ XL, Rd w' x.vb (bcells x.b)) : RecsUp w' bs a n c XL := by
  refine ⟨⟨fun hn => ?_, hr⟩, h.len, h.cap, h.own.imp id (fun h => hk.row h hb), h.adr⟩
  obtain ⟨b, o, e, hc⟩ := h.rd.at_ hn
  exact ⟨b, o, e, fun j u hu => (hk.cell (b := b) (hb b (by rw [e]; rfl)) (o + j)).trans (hc j u hu)⟩
set_option maxHeartbeats 1000000 in
theorem recs_up1 (w : World) (bs : Nat) (a : Option Addr) (n c : Nat) (XL : List XRec) (x : XRec) (z : Int) (hz : z = x.n) (h : RecsUp w bs a n c XL) (hbs : bs ≤ w.heap.size) (h1 : x.vb.oneCell' = true) (h63 : n ≤ 1000000)
    (hrd : ∀ w', Upd (fun g => bs ≤ g ∧ (Value.slice a n c).ownBlock = some g) w w' → ∀ y ∈ XL ++ [x], Rd w' y.vb (bcells y.b)) :
    ∃ a' c' w', (Builtin.append_ #[28, 28] 28 #[.slice a n c, .slice (some ⟨w.heap.size, 0, none⟩) 1 1]).run Tryz.prog (w.alloc (.cells #[.int .i64 z, x.vb] 47)) = .ok (.slice a' (n + 1) c') w' ∧ RecsUp w' bs a' (n + 1) c' (XL ++ [x]) ∧
      Upd (fun g => bs ≤ g ∧ (Value.slice a n c).ownBlock = some g) w w' ∧ (∀ g, (Value.slice a' (n + 1) c').ownBlock = some g → (Value.slice a n c).ownBlock = some g ∨ w.heap.size ≤ g ∧ g < w'.heap.size) := by
  have hlen : (XL ++ [x]).length = n + 1 := by rw [List.length_append, h.len]; rfl
  by_cases ho : w.ownsRow bs 47 2 (.slice a n c) n (recX XL)
  · obtain ⟨v', w', r1, r2, r3, r4⟩ := recs_one1 w (.slice a n c) XL x z hz n h.len.symm (ownsRow_base0 ho) h1 (by omega)
    obtain ⟨a', c', rfl⟩ := row_rec r2
    have hU : Upd (fun g => bs ≤ g ∧ (Value.slice a n c).ownBlock = some g) w w' := ((Upd.refl _ w).alloc _).grown r3 (fun g hg => Or.inl ⟨row_from ho hg, hg⟩)
    have hor : ∀ g, (Value.slice a' (n + 1) c').ownBlock = some g → (Value.slice a n c).ownBlock = some g ∨ w.heap.size ≤ g ∧ g < w'.heap.size := by
      intro g hg
      rcases r4 with e | ⟨g', e, hge⟩
      · exact Or.inl (e ▸ hg)
      · rw [e] at hg; cases hg; exact Or.inr ⟨hge, row_lt r2 e⟩
    have hrow : w'.ownsRow bs 47 2 (.slice a' (n + 1) c') (n + 1) (recX (XL ++ [x])) := ownsRow_from r2 (fun g hg => by
      rcases hor g hg with e | ⟨e, _⟩
      · exact row_from ho e
      · omega)
    exact ⟨a', c', w', r1, ⟨RecRd.ofOwns hrow hlen.symm (hrd w' hU), hlen, row_le_cap hrow, Or.inr hrow, row_adr hrow⟩, hU, hor⟩
  · have hc := h.own.resolve_right ho
    subst hc
    rcases h.adr with rfl | ⟨b, o, rfl⟩
    · have h0 : XL = [] := by
        by_cases h0 : XL = []
        · exact h0
        · obtain ⟨b, o, e, _⟩ := h.rd.at_ h0
          cases e
      subst h0
      have hn := h.len
      simp only [List.length_nil] at hn
      subst hn
      exact absurd (World.ownsRow_nil _ _ _ _) ho
    · have hcl : ∀ j u, (recX XL)[j]? = some u → w.cell? ⟨b, o + j, none⟩ = some u := by
        intro j u hu
        by_cases h0 : XL = []
        · subst h0; cases hu
        · obtain ⟨b', o', e, hcl⟩ := h.rd.at_ h0
          cases e
          exact hcl j u hu
      obtain ⟨v', w', r1, r2, r3⟩ := recs_cut1 w b o XL x z hz c h.len.symm hcl h63
      obtain ⟨a', c', rfl⟩ := row_rec r2
      have hU : Upd (fun g => bs ≤ g ∧ (Value.slice (some ⟨b, o, none⟩) c c).ownBlock = some g) w w' := ((Upd.refl _ w).alloc _).grown r3 (fun g hg => by cases hg)
      have hrow := ownsRow_from (base' := bs) r2 (fun g hg => by have := row_from r2 hg; omega)
      exact ⟨a', c', w', r1, ⟨RecRd.ofOwns hrow hlen.symm (hrd w' hU), hlen, row_le_cap hrow, Or.inr hrow, row_adr hrow⟩, hU, fun g hg => Or.inr ⟨row_from r2 hg, row_lt r2 hg⟩⟩
end Go.Proofs.YtbiadclmonakkaaGreatDoor
