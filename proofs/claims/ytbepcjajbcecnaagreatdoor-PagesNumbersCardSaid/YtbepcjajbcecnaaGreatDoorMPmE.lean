/-
  Arguments opened: steps of a store.
-/
import Derived.Outline
import Derived.Test.YtbepcjajbcecnaaGreatDoorMLoA
import Derived.Test.YtbepcjajbcecnaaGreatDoorMPmD
import Derived.Test.YtbepcjajbcecnaaGreatDoorMLwA
import Derived.BigRegion
import Derived.Deep.CutRange
namespace Go.Proofs.YtbepcjajbcecnaaGreatDoor
open Go.RowKit Go.ChangeShapes Go.WideShapes Go.Deep

structure AStep5 where
  key : Int
  act : Int
  vb : Value
  b : List UInt8
def AStep5.cells (x : AStep5) : List Value := [.int .i64 x.key, .int .i64 x.act, x.vb]
structure StepOk5 (w : World) (x : AStep5) : Prop where
  key : isI64 x.key
  act : isI64 x.act
  rd : Rd w x.vb (bcells x.b)
  len : x.b.length ≤ maxLen
def StepQ5 (w : World) (l : List Value) (x : AStep5) : Prop := l = x.cells ∧ StepOk5 w x
def StepsAt (w : World) (v : Value) (xs : List AStep5) : Prop := SliceOf 3 (StepQ5 w) w v xs
theorem StepsAt.at {W w : World} {a : Option Addr} {n c : Nat} {xs : List AStep5} (h : StepsAt W (.slice a n c) xs) (hb : Below W.heap.size W w) (k : Nat) (hk : k < xs.length) :
    ∃ b off, a = some ⟨b, off, none⟩ ∧ b < W.heap.size ∧ StepOk5 W xs[k] ∧ w.cell? ⟨b, off + k * 3, none⟩ = some (.int .i64 xs[k].key) ∧ w.cell? ⟨b, off + k * 3 + 1, none⟩ = some (.int .i64 xs[k].act) ∧ w.cell? ⟨b, off + k * 3 + 2, none⟩ = some xs[k].vb := by
  obtain ⟨b, off, ha, l, _, hc, rfl, hok⟩ := SliceOf.at h k hk
  have hx : ∀ i u, xs[k].cells[i]? = some u → w.cell? ⟨b, off + k * 3 + i, none⟩ = some u := fun i u hu => by
    have h1 := hc i u hu
    rw [← Nat.add_assoc] at h1
    exact (hb.cell (p := ⟨b, off + k * 3 + i, none⟩) (cell_lt h1)).trans h1
  exact ⟨b, off, ha, cell_lt (hc 0 _ rfl), hok, hx 0 _ rfl, hx 1 _ rfl, hx 2 _ rfl⟩

section
variable {H : Type} {enc : TypeId × Value → H} {w : World} {base : Nat} {spare : Nat → Bool} {held : Bool}
end
end Go.Proofs.YtbepcjajbcecnaaGreatDoor

/-
  The chapter's helpers: name, has.
-/
namespace Go.Proofs.YtbepcjajbcecnaaGreatDoor
open Go.RowKit Go.Maps Go.MapKept
set_option linter.unusedSimpArgs false

/-- a commit's six blobs. -/
structure KeptAt (w : World) (vs : List Value) (N : Nat → Option (List UInt8)) : Prop where
  len : vs.length = 6
  no : ∀ i, i < 6 → N i = none → vs[i]? = some (.slice none 0 0)
  yes : ∀ i b, i < 6 → N i = some b → ∃ ad c, vs[i]? = some (.slice (some ad) b.length c) ∧ Rd w (.slice (some ad) b.length c) (bcells b) ∧ b.length ≤ 1000
section
variable {ex : Nat → Prop} {w : World} {q p m : Nat} {d : ADisk} {st : AStore}
end
end Go.Proofs.YtbepcjajbcecnaaGreatDoor

/-
  The chapter's helper: stepped.
-/
namespace Go.Proofs.YtbepcjajbcecnaaGreatDoor
open Go.RowKit Go.Maps Go.MapKept
set_option linter.unusedSimpArgs false

section
variable {ex : Nat → Prop} {w : World} {q p m : Nat} {d : ADisk} {st : AStore}
end
theorem Sits.ok {d : ADisk} {st : AStore} (h : Sits d st) : st.Ok := by
  refine ⟨h.kG, h.count, h.sorted, fun p hp => ?_⟩
  obtain ⟨h1, h2⟩ := h.names p hp
  have h3 := (okKey_iff p.1).1 h1
  by_cases h0 : p.2.pack = 0
  · exact ⟨by omega, fun e => absurd h0 e, h2, h3.2⟩
  · obtain ⟨a1, a2, _⟩ := h.old p hp h0
    have := h.kG
    exact ⟨by omega, fun _ => a2, h2, h3.2⟩
/-- between the steps: the store, what it has. -/
structure StL (ex : Nat → Prop) (w wr : World) (R B q p m : Nat) (exX : Nat → Prop) (d : ADisk) (st : AStore) (N : Nat → Option (List UInt8)) (vs : List Value) : Prop where
  sub : ∀ k, ex k ∨ k = R ∨ k = B → exX k
  sto : StoreAt exX wr q p m d st
  keep : Keep ex w wr
  blk : wr.heap[B]? = some (.cells vs.toArray 27 (0, 0))
  res : wr.heap[R]? = some (.cells #[.slice none 0 0, .slice none 0 0, .slice none 0 0, .slice none 0 0, .slice none 0 0, .slice none 0 0] 27 (0, 0))
  kept : KeptAt wr vs N
  own : ∀ (j : Nat) (v : Value), vs[j]? = some v → ∀ g, v.ownBlock = some g → exX g ∧ g ≠ B ∧ g ≠ R
section
variable {ex : Nat → Prop} {w wr w2 : World} {R B q p m : Nat} {exX : Nat → Prop} {d : ADisk} {st : AStore} {N : Nat → Option (List UInt8)} {vs : List Value}
theorem KeptAt.keep (h : KeptAt wr vs N) (hk : Keep exX wr w2) (ho : ∀ (j : Nat) (v : Value), vs[j]? = some v → ∀ g, v.ownBlock = some g → exX g) : KeptAt w2 vs N :=
  ⟨h.len, h.no, fun i b hi hb => by
    obtain ⟨ad, c, h1, h2, h3⟩ := h.yes i b hi hb
    exact ⟨ad, c, h1, hk.rd h2 (ho i _ h1), h3⟩⟩
/-- a call that keeps what is kept. -/
theorem StL.step {d' : ADisk} {st' : AStore} (h : StL ex w wr R B q p m exX d st N vs) (hS : StoreAt exX w2 q p m d' st') (hk : Keep exX wr w2) : StL ex w w2 R B q p m exX d' st' N vs :=
  ⟨h.sub, hS, h.keep.trans (hk.mono (fun k hk => h.sub k (Or.inl hk))), (hk.block B (h.sub B (Or.inr (Or.inr rfl)))).trans h.blk, (hk.block R (h.sub R (Or.inr (Or.inl rfl)))).trans h.res, h.kept.keep hk (fun j v hv g hg => (h.own j v hv g hg).1), h.own⟩
/-- new blocks are kept, too. -/
theorem StL.more {exY : Nat → Prop} (h : StL ex w wr R B q p m exX d st N vs) (hB : Below wr.heap.size wr w2) (hs : ∀ k, exX k → exY k) (hx : ∀ k, exY k → exX k ∨ wr.heap.size ≤ k ∧ k < w2.heap.size) : StL ex w w2 R B q p m exY d st N vs :=
  have hk : Keep exX wr w2 := Keep.ofBelow hB (fun _ hk => h.sto.lt hk)
  ⟨fun k hk => hs k (h.sub k hk), h.sto.more hB hx, h.keep.trans (hk.mono (fun _ hk => h.sub _ (Or.inl hk))), (hB.block B (blk_lt h.blk)).trans h.blk, (hB.block R (blk_lt h.res)).trans h.res, h.kept.keep hk (fun j v hv g hg => (h.own j v hv g hg).1), fun j v hv g hg => ⟨hs g (h.own j v hv g hg).1, (h.own j v hv g hg).2⟩⟩
end
end Go.Proofs.YtbepcjajbcecnaaGreatDoor
