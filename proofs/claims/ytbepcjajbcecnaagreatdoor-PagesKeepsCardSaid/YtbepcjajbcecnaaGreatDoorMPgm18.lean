/-
  The chapter's helper: stepped.
-/
import Derived.Outline
import Derived.BigRegion
import Derived.Deep.CutRange
import Derived.Test.YtbepcjajbcecnaaGreatDoorMOpn7
import Derived.Test.YtbepcjajbcecnaaGreatDoorMPgm17
namespace Go.Proofs.YtbepcjajbcecnaaGreatDoor
open Go.RowKit Go.Maps Go.MapKept
set_option linter.unusedSimpArgs false

section
variable {ex : Nat → Prop} {w : World} {q p m : Nat} {d : ADisk} {st : AStore}
theorem commit_by2 {d' : ADisk} {st' : AStore} {n : Nat} (er : Int) (h : StoreAt ex w q p m d st) (hok : st.Ok) (hE : WEnv w) (hG : GlIn ex) (hc : pCommit d st = (d', st', n, er)) :
    Calls Tryz.prog 14 #[.pointer (some ⟨q, 0, none⟩)] w fun e w' => e = .returned (.tuple #[.int .i64 n, .int .i64 er]) ∧ StoreAt ex w' q p m d' st' ∧ Keep ex w w' := by
  have := pgCommit_at h hok hE hG
  rw [hc] at this
  exact this
end
theorem Sits.ok {d : ADisk} {st : AStore} (h : Sits d st) : st.Ok := by
  refine ⟨h.kG, h.count, h.sorted, fun p hp => ?_⟩
  obtain ⟨h1, h2⟩ := h.names p hp
  have h3 := (okKey_iff p.1).1 h1
  by_cases h0 : p.2.pack = 0
  · exact ⟨by omega, fun e => absurd h0 e, h2, h3.2⟩
  · obtain ⟨a1, a2, _⟩ := h.old p hp h0
    have := h.kG
    exact ⟨by omega, fun _ => a2, h2, h3.2⟩
/-- between the steps: the store, what it has. -/
structure StL (ex : Nat → Prop) (w wr : World) (R B q p m : Nat) (exX : Nat → Prop) (d : ADisk) (st : AStore) (N : Nat → Option (List UInt8)) (vs : List Value) : Prop where
  sub : ∀ k, ex k ∨ k = R ∨ k = B → exX k
  sto : StoreAt exX wr q p m d st
  keep : Keep ex w wr
  blk : wr.heap[B]? = some (.cells vs.toArray 27 (0, 0))
  res : wr.heap[R]? = some (.cells #[.slice none 0 0, .slice none 0 0, .slice none 0 0, .slice none 0 0, .slice none 0 0, .slice none 0 0] 27 (0, 0))
  kept : KeptAt wr vs N
  own : ∀ (j : Nat) (v : Value), vs[j]? = some v → ∀ g, v.ownBlock = some g → exX g ∧ g ≠ B ∧ g ≠ R
section
variable {ex : Nat → Prop} {w wr w2 : World} {R B q p m : Nat} {exX : Nat → Prop} {d : ADisk} {st : AStore} {N : Nat → Option (List UInt8)} {vs : List Value}
theorem KeptAt.keep (h : KeptAt wr vs N) (hk : Keep exX wr w2) (ho : ∀ (j : Nat) (v : Value), vs[j]? = some v → ∀ g, v.ownBlock = some g → exX g) : KeptAt w2 vs N :=
  ⟨h.len, h.no, fun i b hi hb => by
    obtain ⟨ad, c, h1, h2, h3⟩ := h.yes i b hi hb
    exact ⟨ad, c, h1, hk.rd h2 (ho i _ h1), h3⟩⟩
/-- a call that keeps what is kept. -/
theorem StL.step {d' : ADisk} {st' : AStore} (h : StL ex w wr R B q p m exX d st N vs) (hS : StoreAt exX w2 q p m d' st') (hk : Keep exX wr w2) : StL ex w w2 R B q p m exX d' st' N vs :=
  ⟨h.sub, hS, h.keep.trans (hk.mono (fun k hk => h.sub k (Or.inl hk))), (hk.block B (h.sub B (Or.inr (Or.inr rfl)))).trans h.blk, (hk.block R (h.sub R (Or.inr (Or.inl rfl)))).trans h.res, h.kept.keep hk (fun j v hv g hg => (h.own j v hv g hg).1), h.own⟩
/-- a key's blob is noted. -/
theorem StL.note {key : Nat} {v : Value} {o : Option (List UInt8)} (h : StL ex w wr R B q p m exX d st N vs) (hRB : R ≠ B) (hBe : ¬ ex B) (hkey : key < 6)
    (hv : match o with | none => v = .slice none 0 0 | some b => ∃ ad c, v = .slice (some ad) b.length c ∧ Rd wr (.slice (some ad) b.length c) (bcells b) ∧ b.length ≤ 1000) (ho : ∀ g, v.ownBlock = some g → exX g ∧ g ≠ B ∧ g ≠ R) : StL ex w (wr.setCell ⟨B, key, none⟩ v) R B q p m exX d st (fun j => if j = key then o else N j) (vs.set key v) := by
  have hU : Upd (· = B) wr (wr.setCell ⟨B, key, none⟩ v) := setCell_upd key v
  have hb := setCell_at h.blk key v
  have hlen := h.kept.len
  have hBx : exX B := h.sub B (Or.inr (Or.inr rfl))
  refine ⟨h.sub, h.sto.upd hU (fun k hk => hk ▸ hBx), h.keep.trans (Keep.ofUpd hU (fun k hk => ⟨h.sto.lt (h.sub k (Or.inl hk)), fun e => hBe (e ▸ hk)⟩)), ?_, hU.keep h.res (fun e => hRB e), ⟨by rw [List.length_set]; exact hlen, fun j hj hjn => ?_, fun j b hj hjb => ?_⟩, fun j u hu g hg => ?_⟩
  · rw [hb]; simp
  · by_cases hjk : j = key
    · subst hjk
      simp only [if_true] at hjn
      subst hjn
      rw [List.getElem?_set_self (by omega)]
      exact congrArg some hv
    · simp only [hjk, if_false] at hjn
      rw [List.getElem?_set_ne (fun e => hjk e.symm)]
      exact h.kept.no j hj hjn
  · by_cases hjk : j = key
    · subst hjk
      simp only [if_true] at hjb
      subst hjb
      obtain ⟨ad, c, rfl, h2, h3⟩ := hv
      exact ⟨ad, c, by rw [List.getElem?_set_self (by omega)], h2.keep hU (fun g hg e => (ho g hg).2.1 e), h3⟩
    · simp only [hjk, if_false] at hjb
      obtain ⟨ad, c, h1, h2, h3⟩ := h.kept.yes j b hj hjb
      exact ⟨ad, c, by rw [List.getElem?_set_ne (fun e => hjk e.symm)]; exact h1, h2.keep hU (fun g hg e => (h.own j _ h1 g hg).2.1 e), h3⟩
  · by_cases hjk : key = j
    · subst hjk
      rw [List.getElem?_set_self (by omega)] at hu
      cases hu
      exact ho g hg
    · rw [List.getElem?_set_ne hjk] at hu
      exact h.own j u hu g hg
/-- new blocks are kept, too. -/
theorem StL.more {exY : Nat → Prop} (h : StL ex w wr R B q p m exX d st N vs) (hB : Below wr.heap.size wr w2) (hs : ∀ k, exX k → exY k) (hx : ∀ k, exY k → exX k ∨ wr.heap.size ≤ k ∧ k < w2.heap.size) : StL ex w w2 R B q p m exY d st N vs :=
  have hk : Keep exX wr w2 := Keep.ofBelow hB (fun _ hk => h.sto.lt hk)
  ⟨fun k hk => hs k (h.sub k hk), h.sto.more hB hx, h.keep.trans (hk.mono (fun _ hk => h.sub _ (Or.inl hk))), (hB.block B (blk_lt h.blk)).trans h.blk, (hB.block R (blk_lt h.res)).trans h.res, h.kept.keep hk (fun j v hv g hg => (h.own j v hv g hg).1), fun j v hv g hg => ⟨hs g (h.own j v hv g hg).1, (h.own j v hv g hg).2⟩⟩
end
theorem StL.cellB {ex : Nat → Prop} {w wr : World} {R B q p m : Nat} {exX : Nat → Prop} {d : ADisk} {st : AStore} {N : Nat → Option (List UInt8)} {vs : List Value} (h : StL ex w wr R B q p m exX d st N vs) {key : Nat} (hk : key < 6) : (∃ v, wr.cell? ⟨B, key, none⟩ = some v) ∧ wr.frozen? ⟨B, key, none⟩ = false := by
  have hl := h.kept.len
  refine ⟨⟨vs[key], ?_⟩, by simp [World.frozen?, h.blk]⟩
  rw [cell_at h.blk]
  simp [hl, hk]
theorem row_some {w : World} {base n c : Nat} {a : Option Addr} {xs : List Value} (h : w.ownsRow base 5 1 (.slice a n c) n xs) (hn : 0 < n) : ∃ ad, a = some ad := by
  obtain ⟨_, ⟨e, e2⟩ | ⟨g, cap, cur, e, _⟩⟩ := h
  · omega
  · cases e; exact ⟨_, rfl⟩
theorem cells6 {w : World} {b : Nat} {x0 x1 x2 x3 x4 x5 : Value} {T : TypeId} (h : w.heap[b]? = some (.cells #[x0, x1, x2, x3, x4, x5] T (0, 0))) :
    (w.cell? ⟨b, 0, none⟩ = some x0 ∧ w.cell? ⟨b, 1, none⟩ = some x1 ∧ w.cell? ⟨b, 2, none⟩ = some x2 ∧ w.cell? ⟨b, 3, none⟩ = some x3 ∧ w.cell? ⟨b, 4, none⟩ = some x4 ∧ w.cell? ⟨b, 5, none⟩ = some x5) ∧
      w.frozen? ⟨b, 0, none⟩ = false ∧ w.frozen? ⟨b, 1, none⟩ = false ∧ w.frozen? ⟨b, 2, none⟩ = false ∧ w.frozen? ⟨b, 3, none⟩ = false ∧ w.frozen? ⟨b, 4, none⟩ = false ∧ w.frozen? ⟨b, 5, none⟩ = false := by
  refine ⟨⟨by rw [cell_at h]; rfl, by rw [cell_at h]; rfl, by rw [cell_at h]; rfl, by rw [cell_at h]; rfl, by rw [cell_at h]; rfl, by rw [cell_at h]; rfl⟩, ?_, ?_, ?_, ?_, ?_, ?_⟩ <;> simp [World.frozen?, h]
theorem KeptAt.six {w : World} {vs : List Value} {N : Nat → Option (List UInt8)} (h : KeptAt w vs N) : ∃ a0 n0 c0 a1 n1 c1 a2 n2 c2 a3 n3 c3 a4 n4 c4 a5 n5 c5, vs = [.slice a0 n0 c0, .slice a1 n1 c1, .slice a2 n2 c2, .slice a3 n3 c3, .slice a4 n4 c4, .slice a5 n5 c5] := by
  have hsl : ∀ j, j < 6 → ∃ a n c, vs[j]? = some (.slice a n c) := fun j hj => by
    cases hN : N j with
    | none => exact ⟨_, _, _, h.no j hj hN⟩
    | some b => obtain ⟨ad, c, h1, _⟩ := h.yes j b hj hN; exact ⟨_, _, _, h1⟩
  obtain ⟨a0, n0, c0, e0⟩ := hsl 0 (by omega)
  obtain ⟨a1, n1, c1, e1⟩ := hsl 1 (by omega)
  obtain ⟨a2, n2, c2, e2⟩ := hsl 2 (by omega)
  obtain ⟨a3, n3, c3, e3⟩ := hsl 3 (by omega)
  obtain ⟨a4, n4, c4, e4⟩ := hsl 4 (by omega)
  obtain ⟨a5, n5, c5, e5⟩ := hsl 5 (by omega)
  refine ⟨a0, n0, c0, a1, n1, c1, a2, n2, c2, a3, n3, c3, a4, n4, c4, a5, n5, c5, ?_⟩
  have hl := h.len
  obtain ⟨v0, v1, v2, v3, v4, v5, rfl⟩ : ∃ v0 v1 v2 v3 v4 v5, vs = [v0, v1, v2, v3, v4, v5] := by
    match vs, hl with
    | [v0, v1, v2, v3, v4, v5], _ => exact ⟨v0, v1, v2, v3, v4, v5, rfl⟩
  have i0 : v0 = _ := Option.some.inj e0
  have i1 : v1 = _ := Option.some.inj e1
  have i2 : v2 = _ := Option.some.inj e2
  have i3 : v3 = _ := Option.some.inj e3
  have i4 : v4 = _ := Option.some.inj e4
  have i5 : v5 = _ := Option.some.inj e5
  rw [i0, i1, i2, i3, i4, i5]
theorem set6 {w : World} {b : Nat} {x0 x1 x2 x3 x4 x5 : Value} {T : TypeId} (h : w.heap[b]? = some (.cells #[x0, x1, x2, x3, x4, x5] T (0, 0))) (y0 y1 y2 y3 y4 y5 : Value) :
    ((((((w.setCell ⟨b, 0, none⟩ y0).setCell ⟨b, 1, none⟩ y1).setCell ⟨b, 2, none⟩ y2).setCell ⟨b, 3, none⟩ y3).setCell ⟨b, 4, none⟩ y4).setCell ⟨b, 5, none⟩ y5).heap[b]? = some (.cells #[y0, y1, y2, y3, y4, y5] T (0, 0)) ∧
      Upd (· = b) w ((((((w.setCell ⟨b, 0, none⟩ y0).setCell ⟨b, 1, none⟩ y1).setCell ⟨b, 2, none⟩ y2).setCell ⟨b, 3, none⟩ y3).setCell ⟨b, 4, none⟩ y4).setCell ⟨b, 5, none⟩ y5) := by
  refine ⟨setCell_at (setCell_at (setCell_at (setCell_at (setCell_at (setCell_at h 0 y0) 1 y1) 2 y2) 3 y3) 4 y4) 5 y5, ?_⟩
  have t : ∀ {wa wb : World} (o : Nat) (y : Value), Upd (· = b) wa wb → Upd (· = b) wa (wb.setCell ⟨b, o, none⟩ y) := fun o y hu => hu.trans (setCell_upd o y) (fun _ hk => Or.inl hk)
  exact t 5 y5 (t 4 y4 (t 3 y3 (t 2 y2 (t 1 y1 (t 0 y0 (Upd.refl _ _))))))
def nil6 : List Value := [.slice none 0 0, .slice none 0 0, .slice none 0 0, .slice none 0 0, .slice none 0 0, .slice none 0 0]
theorem kept_nil (w : World) : KeptAt w nil6 (fun _ => none) := by
  refine ⟨rfl, fun i hi _ => ?_, fun i b _ h => by cases h⟩
  obtain rfl | rfl | rfl | rfl | rfl | rfl : i = 0 ∨ i = 1 ∨ i = 2 ∨ i = 3 ∨ i = 4 ∨ i = 5 := by omega
  all_goals rfl
theorem now_nil : Now6 [] (fun _ => none) := fun s => by unfold now6; simp [kB]
theorem own_nil : ∀ (j : Nat) (v : Value), nil6[j]? = some v → ∀ g, v.ownBlock = some g → False := by
  intro j v hv g hg
  have : v = .slice none 0 0 := by
    match j, hv with
    | 0, hv => exact (Option.some.inj hv).symm
    | 1, hv => exact (Option.some.inj hv).symm
    | 2, hv => exact (Option.some.inj hv).symm
    | 3, hv => exact (Option.some.inj hv).symm
    | 4, hv => exact (Option.some.inj hv).symm
    | 5, hv => exact (Option.some.inj hv).symm
  subst this
  cases hg
theorem results_cell5 {fn : Func} {t u a v : Tmp} {ty : TypeId} (h : fn.results = #[.tmp t, .tmp u, .cell a ty, .tmp v]) (tmps : Array Value) (P : Program) (w : World) (ad : Addr) (x : Value) (ha : tmps.getD a undef = .pointer (some ad)) (hl : (loadVar ty ad).run P w = .ok x w) :
    (results fn tmps).run P w = .ok (.tuple #[tmps.getD t undef, tmps.getD u undef, x, tmps.getD v undef]) w := by
  have ha' : tmps[a]?.getD undef = .pointer (some ad) := by simpa using ha
  simp [results, h, ha', asAddr, hl, Result.andThen]
def StepdPost (w : World) (e : Ending) (w' : World) : Prop :=
  ∃ (p m q : Nat) (d : ADisk) (st : AStore) (N : Nat → Option (List UInt8)) (vs : List Value) (exX : Nat → Prop), e = .returned (.tuple #[.pointer (some ⟨p, 0, none⟩), .pointer (some ⟨q, 0, none⟩), .agg vs.toArray, .bool true]) ∧ (∀ k, k < w.heap.size → exX k) ∧ StoreAt exX w' q p m d st ∧ Below w.heap.size w w' ∧ KeptAt w' vs N ∧ (∀ (j : Nat) (v : Value), vs[j]? = some v → ∀ g, v.ownBlock = some g → exX g) ∧ Stp d st 30 40 ∧ Now6 st.keys N
set_option maxRecDepth 100000 in
set_option maxHeartbeats 8000000 in
theorem stepped5_any (w : World) (hE : WEnv w) {va : Value} (L : List AStep5) (hL : StepsAt w va L) : Calls Tryz.prog 12 #[va] w (StepdPost w) := by
  have hLm := SliceOf.len_le hL
  obtain ⟨av, cv, rfl⟩ := SliceOf.shape hL
  obtain ⟨n, hn⟩ : ∃ n, L.length = n := ⟨_, rfl⟩
  rw [hn] at hL hLm ⊢
  obtain ⟨ex, hex⟩ : ∃ ex : Nat → Prop, ex = fun k => k < w.heap.size := ⟨_, rfl⟩
  have hG : GlIn ex := by rw [hex]; exact hE.lt
  obtain ⟨w1, hw1⟩ : ∃ x, w.alloc (.cells #[.slice none 0 0, .slice none 0 0, .slice none 0 0, .slice none 0 0, .slice none 0 0, .slice none 0 0] 27) = x := ⟨_, rfl⟩
  have hb1 : w1.heap[w.heap.size]? = some (.cells #[.slice none 0 0, .slice none 0 0, .slice none 0 0, .slice none 0 0, .slice none 0 0, .slice none 0 0] 27 (0, 0)) := by rw [← hw1]; exact alloc_at _ _
  have hB1 : Below w.heap.size w w1 := by rw [← hw1]; exact (Below.refl _ _).alloc (Nat.le_refl _) _
  have hs1 : w1.heap.size = w.heap.size + 1 := by rw [← hw1]; simp
  have hxe : ∀ k, ex k → k < w.heap.size := fun k hk => by rw [hex] at hk; exact hk
  have hx1 : ∀ k, (ex k ∨ k = w.heap.size) → k < w1.heap.size := fun k hk => by
    rcases hk with hk | hk
    · have := hxe k hk; omega
    · omega
  have hG1 : GlIn (fun k => ex k ∨ k = w.heap.size) := hG.mono (fun _ h => Or.inl h)
  have Hex := Lib.hid hex
  have HE := Lib.hid hE
  have HL := Lib.hid hL
  have Hw1 := Lib.hid hw1
  have H1 := Lib.hid (And.intro hb1 hB1)
  clear hex hE hL hw1 hb1 hB1
  go_enter Tryz.func12, Tryz.ntmps12
  go_wp2_with fail
  rw [Hw1.out]
  refine (New_at (ex := fun k => ex k ∨ k = w.heap.size) 1048576 (by decide) (by decide) hx1).mono ?_
  generalize hp : w1.heap.size + 1 = p
  generalize hm : w1.heap.size = m
  rintro e w2 ⟨rfl, h2, k2⟩
  clear hp hm
  go_wp2_with fail
  have hE2 : WEnv w2 := (HE.out.below H1.out.2).keep k2 hG1
  refine (pgOpen0_at h2 hE2 hG1 rfl rfl).mono ?_
  rintro e w3 ⟨q, rfl, h3, k3, _⟩
  go_upto_region 7 with fail
  obtain ⟨B, hB⟩ : ∃ y, w3.heap.size = y := ⟨_, rfl⟩
  have hs2 := k2.size
  have hs3 := k3.size
  have hB4 : Below w3.heap.size w3 (w3.alloc (.cells #[.slice none 0 0, .slice none 0 0, .slice none 0 0, .slice none 0 0, .slice none 0 0, .slice none 0 0] 27)) := (Below.refl _ _).alloc (Nat.le_refl _) _
  have hb4 := alloc_at w3 (.cells #[.slice none 0 0, .slice none 0 0, .slice none 0 0, .slice none 0 0, .slice none 0 0, .slice none 0 0] 27)
  have hs4 : (w3.alloc (.cells #[.slice none 0 0, .slice none 0 0, .slice none 0 0, .slice none 0 0, .slice none 0 0, .slice none 0 0] 27)).heap.size = w3.heap.size + 1 := by simp
  obtain ⟨w4, hw4⟩ : ∃ x, w3.alloc (.cells #[.slice none 0 0, .slice none 0 0, .slice none 0 0, .slice none 0 0, .slice none 0 0, .slice none 0 0] 27) = x := ⟨_, rfl⟩
  rw [hw4] at hB4 hb4 hs4 ⊢
  have hR3 : w3.heap[w.heap.size]? = some (.cells #[.slice none 0 0, .slice none 0 0, .slice none 0 0, .slice none 0 0, .slice none 0 0, .slice none 0 0] 27 (0, 0)) := (k3.block _ (Or.inr rfl)).trans ((k2.block _ (Or.inr rfl)).trans H1.out.1)
  rw [hB] at hb4 ⊢
  have hst : StL ex w w4 w.heap.size B q p m (fun k => ex k ∨ k = w.heap.size ∨ k = B) (newD 1048576) st05 (fun _ => none) nil6 :=
    ⟨fun k hk => hk, h3.more hB4 (fun k hk => by
      rcases hk with hk | hk | hk
      · exact Or.inl (Or.inl hk)
      · exact Or.inl (Or.inr hk)
      · exact Or.inr ⟨by omega, by omega⟩), (((Keep.ofBelow H1.out.2 hxe).trans (k2.mono (fun _ h => Or.inl h))).trans (k3.mono (fun _ h => Or.inl h))).trans (Keep.ofBelow hB4 (fun k hk => by have := hxe k hk; omega)), hb4, (hB4.block _ (blk_lt hR3)).trans hR3, kept_nil _, fun j v hv g hg => (own_nil j v hv g hg).elim⟩
  have hRB : w.heap.size ≠ B := by omega
  have hBe : ¬ ex B := fun h => by have := hxe B h; omega
  have Hst := Lib.hid hst
  clear hst hb4 hB4 hR3 h3 h2 k2 k3 hE2 hw4 hB
  go_loopw [11] (fun iv wr => ∃ (i : Nat) (exX : Nat → Prop) (d : ADisk) (st : AStore) (N : Nat → Option (List UInt8)) (vs : List Value), i ≤ 40 ∧ i ≤ n ∧ iv = .int .i64 i ∧ StL ex w wr w.heap.size B q p m exX d st N vs ∧ Stp d st 30 i ∧ Now6 st.keys N) (fun iv _ => 40 - (intOf iv).toNat)
  case atStart => exact ⟨0, _, _, _, _, _, by omega, by omega, rfl, Hst.out, stp_new 30, now_nil⟩
  case round =>
    obtain ⟨i, exX, d, st, N, vs, hi40, hin, rfl, hS, hstp, hnow⟩ := hrel
    have hbelow : Below w.heap.size w wr := hS.keep.below (fun k hk => by rw [Hex.out]; exact hk)
    by_cases hlt : i < n ∧ i < 40
    · obtain ⟨hl1, hl2⟩ := hlt
      obtain ⟨b, off, rfl, hbl, hok, y0, y1, y2⟩ := HL.out.at hbelow i (by rw [hn]; exact hl1)
      obtain ⟨x, hx⟩ : ∃ x, L[i]'(by rw [hn]; exact hl1) = x := ⟨_, rfl⟩
      rw [hx] at hok y0 y1 y2
      obtain ⟨key, act, vb, xb⟩ := x
      simp only at y0 y1 y2
      have hrd := hok.rd
      simp only at hrd
      obtain ⟨ab, cb, rfl⟩ := hrd.shape
      rw [bcells_length] at hrd y2
      have h1I : (i : Int) < (n : Int) := by omega
      have h2I : (i : Int) < 40 := by omega
      have h0I : (0 : Int) ≤ (i : Int) := by omega
      have hP := fun wX => Pick_any wX key 6 (by unfold isI64; omega)
      obtain ⟨p0, p1⟩ := pickI_lt key 6 (by omega)
      obtain ⟨kk, hkk⟩ : ∃ k : Nat, pickI key 6 = k := ⟨(pickI key 6).toNat, by omega⟩
      rw [hkk] at hP p0 p1
      have hkk6 : kk < 6 := by omega
      have hkI : (kk : Int) < 6 := by omega
      have hk0 : (0 : Int) ≤ (kk : Int) := by omega
      have HP := Lib.hid hP
      have HS := Lib.hid hS
      have Hsn := Lib.hid (And.intro hstp hnow)
      have Hb := Lib.hid hbelow
      have Hrd := Lib.hid hrd
      have Hok := Lib.hid hok
      clear hP hstp hnow hS hbelow hrd hok hkk p0 p1
      by_cases h30 : 30 < xb.length
      · have h30I : (30 : Int) < (xb.length : Int) := by omega
        go_wp2_with (go_at_call 22; refine (HP.out _).mono ?_; rintro e w5 ⟨rfl, rfl⟩)
        go_roundw
        case rel => exact ⟨i + 1, exX, d, st, N, vs, by omega, by omega, by go_num, HS.out, Hsn.out.1.more (by omega), Hsn.out.2⟩
        case measure => simp [intOf]; omega
      · have h30I : ¬ (30 : Int) < (xb.length : Int) := by omega
        go_upto_if 64 with first
          | (go_at_call 22; refine (HP.out _).mono ?_; rintro e w5 ⟨rfl, rfl⟩)
        have hkb : ∀ exZ w6 dz stz Nz vz, StL ex w w6 w.heap.size B q p m exZ dz stz Nz vz → w6.cell? ⟨b, off + i * 3 + 1, none⟩ = some (.int .i64 act) := fun exZ w6 dz stz Nz vz hz =>
          (HL.out.at (hz.keep.below (fun k hk => by rw [Hex.out]; exact hk)) i (by rw [hn]; exact hl1)) |> fun ⟨b', off', e, _, _, _, h, _⟩ => by
            obtain ⟨rfl, rfl⟩ : b = b' ∧ off = off' := by cases e; exact ⟨rfl, rfl⟩
            rw [hx] at h
            exact h
        have Hkb2 := Lib.hid hkb
        clear hkb
        go_cut [] from 64 to 87 (fun wx => ∃ (exY : Nat → Prop) (st1 : AStore) (N1 : Nat → Option (List UInt8)) (vs1 : List Value), StL ex w wx w.heap.size B q p m exY d st1 N1 vs1 ∧ Stp d st1 30 i ∧ Now6 st1.keys N1 ∧ wx.cell? ⟨b, off + i * 3 + 1, none⟩ = some (.int .i64 act))
        case first =>
          have Hkb := Hkb2
          have hsz : (nm6 kk).size ≤ maxLen := by have : (nm6 kk).size = 1 := rfl; simp only [maxLen]; omega
          by_cases h0 : xb = []
          · subst h0
            obtain ⟨hdp, hstp2⟩ := Hsn.out.1.drop (nm6_ok hkk6)
            have hnow2 := del_now Hsn.out.2 hkk6
            have hD := drop_by 0 HS.out.sto Hsn.out.1.sits.ok hsz hdp
            have HD := Lib.hid hD
            have H2 := Lib.hid (And.intro hstp2 hnow2)
            clear hD hdp hstp2 hnow2 h30 h30I
            go_wp2_with first
              | (go_at_call 24; refine (name5_any _ kk hkk6).mono ?_; rintro e w6 ⟨rfl, rfl⟩)
              | (go_at_call 29; refine HD.out.mono ?_; rintro e w7 ⟨rfl, hS7, hK7⟩; have hz := HS.out.step hS7 hK7; obtain ⟨⟨v7, z7⟩, f7⟩ := hz.cellB hkk6; have Hz := Lib.hid hz; clear hz hS7 hK7)
            have hz2 := Hz.out.note (key := kk) (v := .slice none 0 0) (o := none) hRB hBe hkk6 rfl (fun g hg => by cases hg)
            have Hz2 := Lib.hid hz2
            clear hz2
            go_meet
            case rel => exact ⟨exX, _, _, _, Hz2.out, H2.out.1, H2.out.2, Hkb.out _ _ _ _ _ _ Hz2.out⟩
          · have hx0 : 0 < xb.length := by cases xb with | nil => exact absurd rfl h0 | cons _ _ => simp
            have hq0 : ((xb.length : Int) == 0) = false := by simp; exact h0
            have hl7 : (putB st.keys (nm6 kk) ⟨xb, 0, 0⟩).length ≤ 7 := by
              rw [length_putB Hsn.out.1.sits.sorted]
              have h1 := Hsn.out.2.len Hsn.out.1.sits.sorted
              have h2 := cnt6_le N
              split <;> omega
            obtain ⟨hdp, hstp2⟩ := Hsn.out.1.put (nm6_ok hkk6) (b := xb) (by omega) (by omega) hl7
            have hnow2 := put_now Hsn.out.2 hkk6 (⟨xb, 0, 0⟩ : ABlob)
            have hrdr : ∀ wX, Below w.heap.size w wX → Rd wX (.slice ab xb.length cb) (bcells xb) := fun wX hX => Hrd.out.keep (Upd.ofBelow (fp := noFp) hX) (fun _ _ h => h)
            have hD := fun wX (hX : StoreAt exX wX q p m d st) (hY : Below w.heap.size w wX) => put_by 0 hX Hsn.out.1.sits.ok hsz (hrdr wX hY) (by omega) hdp
            have hsD : StoreAt exX wr.drew q p m d st := HS.out.sto.below ((Below.refl _ _).drew)
            have hbD : Below w.heap.size w wr.drew := Hb.out.drew
            have HD := Lib.hid (hD wr.drew hsD hbD)
            have H2 := Lib.hid (And.intro hstp2 hnow2)
            have Hrr := Lib.hid hrdr
            have c1 : wr.drew.cell? ⟨b, off + i * 3 + 2, none⟩ = some (.slice ab xb.length cb) := y2
            clear hD hdp hstp2 hnow2 hrdr hl7 hsD hbD
            go_upto_region 14 with fail
            go_region_held3 (fun w'' => w''.cell? ⟨b, off + i * 3 + 2, none⟩ = some (.slice ab xb.length cb)) (first | with_reducible exact c1 | with_reducible exact S7 | go_keep)
              (first
                | (go_at_call 24; refine (name5_any _ kk hkk6).mono ?_; rintro e w6 ⟨rfl, rfl⟩)
                | (go_at_call 23; refine HD.out.mono ?_; rintro e w7 ⟨rfl, hS7, hK7⟩; have hz := HS.out.step hS7 ((Keep.refl exX wr).drew.trans hK7); have S7 : w7.cell? ⟨b, off + i * 3 + 2, none⟩ = some (.slice ab xb.length cb) := ((hz.keep.below (fun k hk => by rw [Hex.out]; exact hk)).cell (p := ⟨b, off + i * 3 + 2, none⟩) hbl).trans (((Hb.out).cell (p := ⟨b, off + i * 3 + 2, none⟩) hbl).symm.trans y2); have Hz := Lib.hid hz; clear hz hS7 hK7))
            have hb7 : Below w.heap.size w w7 := Hz.out.keep.below (fun k hk => by rw [Hex.out]; exact hk)
            have hrd7 := Hrr.out w7 hb7
            have Hrd7 := Lib.hid hrd7
            clear hb7 hrd7 c1
            go_wp2_with first
              | (go_at_call 39; refine (copyB_any w7 _ xb Hrd7.out (by omega)).mono ?_; rintro e w8 ⟨a8, c8, rfl, hrow, hB8⟩; obtain ⟨ad, rfl⟩ := row_some hrow hx0; have hz8 := Hz.out.more (exY := fun k => exX k ∨ (Value.slice (some ad) xb.length c8).ownBlock = some k) hB8 (fun k hk => Or.inl hk) (fun k hk => hk.imp id (fun h => ⟨row_from hrow h, row_lt hrow h⟩)); obtain ⟨⟨v8, z8⟩, f8⟩ := hz8.cellB hkk6; have Hz8 := Lib.hid hz8; have Hr8 := Lib.hid hrow; clear hz8 hrow hB8)
            have hz9 := Hz8.out.note (key := kk) (o := some xb) (v := .slice (some ad) xb.length c8) hRB hBe hkk6 ⟨ad, c8, rfl, Rd.ofOwns Hr8.out, by omega⟩ (fun g hg => ⟨Or.inr hg, by have h1 := row_from Hr8.out hg; have h2 := blk_lt Hz.out.blk; omega, by have h1 := row_from Hr8.out hg; have h2 := blk_lt Hz.out.res; omega⟩)
            have Hz9 := Lib.hid hz9
            clear hz9
            go_meet
            case rel => exact ⟨_, _, _, _, Hz9.out, H2.out.1, H2.out.2, Hkb.out _ _ _ _ _ _ Hz9.out⟩
        case rest =>
          obtain ⟨exY, st1, N1, vs1, hS1, hstp1, hnow1, ya⟩ := hcut
          obtain ⟨wf, rfl⟩ : ∃ x, x = wc := ⟨_, rfl⟩
          obtain ⟨d2, hc2, hcc, hstp2⟩ := hstp1.commit (by omega) (by omega)
          have hnow2 : Now6 (cmOf st1).1 N1 := hnow1.cont (cm_ok _ _ _ _).cont
          obtain ⟨st2, hst2⟩ : ∃ y, (⟨st1.k + 1, (cmOf st1).1, packsOf (cmOf st1).1, false⟩ : AStore) = y := ⟨_, rfl⟩
          have hnow2' : Now6 st2.keys N1 := by rw [← hst2]; exact hnow2
          rw [hst2] at hc2 hstp2
          have hG1' : GlIn exY := hG.mono (fun k hk => hS1.sub k (Or.inl hk))
          have hEf : WEnv wf := HE.out.below (hS1.keep.below (fun k hk => by rw [Hex.out]; exact hk))
          have hC := commit_by2 0 hS1.sto hstp1.sits.ok hEf hG1' hc2
          have HC := Lib.hid hC
          have HS1 := Lib.hid hS1
          have Hsn1 := Lib.hid (And.intro hstp1 hnow1)
          have Hsn2 := Lib.hid (And.intro hstp2 hnow2')
          clear hC hS1 hstp1 hnow1 hstp2 hnow2 hnow2' hcc hst2 hc2 hEf
          go_upto_if 94 with fail
          go_cut [13, 14] from 94 to 104 (fun _ _ wx => ∃ (d3 : ADisk) (st3 : AStore), StL ex w wx w.heap.size B q p m exY d3 st3 N1 vs1 ∧ Stp d3 st3 30 (i + 1) ∧ Now6 st3.keys N1)
          case first =>
            by_cases h3 : act.tmod 3 = 0
            · have q3 : (act.tmod 3 == 0) = true := by simpa using h3
              have H3 := Lib.hid h3
              clear h3
              go_wp2_with (go_at_call 14; refine HC.out.mono ?_; rintro e w9 ⟨rfl, hS9, hK9⟩; have Hz := Lib.hid (HS1.out.step hS9 hK9); clear hS9 hK9)
              go_meet
              case rel => exact ⟨d2, st2, Hz.out, Hsn2.out⟩
            · have q3 : (act.tmod 3 == 0) = false := by simpa using h3
              have H3 := Lib.hid h3
              clear h3
              go_wp2_with fail
              go_meet
              case rel => exact ⟨d, st1, HS1.out, Hsn1.out.1.more (by omega), Hsn1.out.2⟩
          case rest =>
            obtain ⟨d3, st3, hS3, hstp3, hnow3⟩ := hcut
            obtain ⟨wg, rfl⟩ : ∃ x, x = wc := ⟨_, rfl⟩
            obtain ⟨d4, hf4, _, hstp4⟩ := hstp3.free
            have hEg : WEnv wg := HE.out.below (hS3.keep.below (fun k hk => by rw [Hex.out]; exact hk))
            have hF := free_by 0 hS3.sto hEg hG1' hf4
            have HF := Lib.hid hF
            have HS3 := Lib.hid hS3
            have Hsn3 := Lib.hid (And.intro hstp3 (And.intro hnow3 hstp4))
            have ya3 := Hkb2.out _ _ _ _ _ _ hS3
            clear hF hS3 hstp3 hnow3 hstp4 hf4 hEg ya
            by_cases h6 : act.tmod 6 = 0
            · have q6 : (act.tmod 6 == 0) = true := by simpa using h6
              have H6 := Lib.hid h6
              clear h6
              go_wp2_with (go_at_call 19; refine HF.out.mono ?_; rintro e w9 ⟨a9, c9, rfl, _, hS9, hK9⟩; have Hz := Lib.hid (HS3.out.step (hS9.mono (fun k hk => Or.inl hk)) hK9); clear hS9 hK9)
              go_roundw
              case rel => exact ⟨i + 1, exY, d4, st3, N1, vs1, by omega, by omega, by go_num, Hz.out, Hsn3.out.2.2, Hsn3.out.2.1⟩
              case measure => simp [intOf]; omega
            · have q6 : (act.tmod 6 == 0) = false := by simpa using h6
              have H6 := Lib.hid h6
              clear h6
              go_wp2_with fail
              go_roundw
              case rel => exact ⟨i + 1, exY, d3, st3, N1, vs1, by omega, by omega, by go_num, HS3.out, Hsn3.out.1, Hsn3.out.2.1⟩
              case measure => simp [intOf]; omega
    · have hend : ¬ (i : Int) < (n : Int) ∨ ((i : Int) < (n : Int) ∧ ¬ (i : Int) < 40) := by omega
      obtain ⟨a0, n0, c0, a1, n1, c1, a2, n2, c2, a3, n3, c3, a4, n4, c4, a5, n5, c5, rfl⟩ := hS.kept.six
      obtain ⟨⟨b0, b1, b2, b3, b4, b5⟩, _⟩ := cells6 (w := wr) hS.blk
      obtain ⟨⟨t0, t1, t2, t3, t4, t5⟩, f0, f1, f2, f3, f4, f5⟩ := cells6 (w := wr) hS.res
      obtain ⟨⟨b0d, b1d, b2d, b3d, b4d, b5d⟩, _⟩ := cells6 (w := wr.drew) hS.blk
      obtain ⟨⟨t0d, t1d, t2d, t3d, t4d, t5d⟩, f0d, f1d, f2d, f3d, f4d, f5d⟩ := cells6 (w := wr.drew) hS.res
      have HS := Lib.hid hS
      have Hsn := Lib.hid (And.intro hstp hnow)
      have Hb := Lib.hid hbelow
      clear hS hstp hnow hbelow hlt Hst
      obtain ⟨wF, hF1, hF2, hF3⟩ : ∃ x, x = ((((((wr.setCell ⟨w.heap.size, 0, none⟩ (.slice a0 n0 c0)).setCell ⟨w.heap.size, 1, none⟩ (.slice a1 n1 c1)).setCell ⟨w.heap.size, 2, none⟩ (.slice a2 n2 c2)).setCell ⟨w.heap.size, 3, none⟩ (.slice a3 n3 c3)).setCell ⟨w.heap.size, 4, none⟩ (.slice a4 n4 c4)).setCell ⟨w.heap.size, 5, none⟩ (.slice a5 n5 c5)) ∧ x.heap[w.heap.size]? = some (.cells #[.slice a0 n0 c0, .slice a1 n1 c1, .slice a2 n2 c2, .slice a3 n3 c3, .slice a4 n4 c4, .slice a5 n5 c5] 27 (0, 0)) ∧ Upd (· = w.heap.size) wr x := ⟨_, rfl, (set6 HS.out.res _ _ _ _ _ _).1, (set6 HS.out.res _ _ _ _ _ _).2⟩
      obtain ⟨⟨g0, g1, g2, g3, g4, g5⟩, _⟩ := cells6 (w := wF.drew) hF2
      have hfin : ∀ e, e = .returned (.tuple #[.pointer (some ⟨p, 0, none⟩), .pointer (some ⟨q, 0, none⟩), .agg #[.slice a0 n0 c0, .slice a1 n1 c1, .slice a2 n2 c2, .slice a3 n3 c3, .slice a4 n4 c4, .slice a5 n5 c5], .bool true]) → StepdPost w e wF.drew := fun e he =>
        ⟨p, m, q, d, st, N, _, exX, he, fun k hk => HS.out.sub k (Or.inl (by rw [Hex.out]; exact hk)), (HS.out.sto.upd hF3 (fun k hk => hk ▸ HS.out.sub _ (Or.inr (Or.inl rfl)))).below ((Below.refl _ _).drew), (Hb.out.trans (hF3.below (fun k hk => by rw [hk]; exact Nat.le_refl _) Hb.out.size)).drew,
          ⟨HS.out.kept.len, HS.out.kept.no, fun j b hj hjb => by
            obtain ⟨ad, c, h1, h2, h3⟩ := HS.out.kept.yes j b hj hjb
            exact ⟨ad, c, h1, (h2.keep hF3 (fun g hg e => (HS.out.own j _ h1 g hg).2.2 e)).below ((Below.refl _ _).drew), h3⟩⟩, fun j v hv g hg => (HS.out.own j v hv g hg).1, Hsn.out.1.more (by omega), Hsn.out.2⟩
      have hlF := run_loadVar_row (P := Tryz.prog) wF.drew w.heap.size 27 27 _ (0, 0) _ hF2 Tryz.underlying27 rfl (by kernel_rfl)
      have HlF := Lib.hid hlF
      have HF := Lib.hid hF1
      have Hfin := Lib.hid hfin
      clear hF1 hF2 hF3 hfin hlF
      rcases hend with hE1 | ⟨hE1, hE2⟩
      all_goals
        go_upto_region 24 with fail
        go_region
        all_goals
          rw [← HF.out]
          clear b0 b1 b2 b3 b4 b5 t0 t1 t2 t3 t4 t5 f0 f1 f2 f3 f4 f5
          go_wp2_with fail
          (try simp only [Exit.inBlock, Exit.then])
          refine bodyPost_ret (results_cell5 rfl _ _ _ ⟨w.heap.size, 0, none⟩ (.agg #[.slice a0 n0 c0, .slice a1 n1 c1, .slice a2 n2 c2, .slice a3 n3 c3, .slice a4 n4 c4, .slice a5 n5 c5]) rfl (HlF.out)) rfl ?_
          exact Hfin.out _ rfl
end Go.Proofs.YtbepcjajbcecnaaGreatDoor
