/-
  PagesKeeps: what stands between the calls of a life, plain and in memory.
-/
import Derived.Outline
import Derived.Test.YtbepcjajbcecnaaGreatDoorMPgm22
import Derived.Test.YtbepcjajbcecnaaGreatDoorMOpn9
namespace Go.Proofs.YtbepcjajbcecnaaGreatDoor
open Go.RowKit Go.Maps Go.MapKept

theorem Has.left {d : ADisk} {k : Nat} {l : List (ByteArray × ABlob)} (h : Has d k l) (n : Int) : Has { d with left := n } k l := h.same (fun _ => rfl) (fun _ _ => rfl)
theorem Lf5.left {d : ADisk} {st : AStore} {a B : Nat} {T N : Nat → Option (List UInt8)} (h : Lf5 d st a T N B) (n : Int) : Lf5 { d with left := n } st a T N B := by
  obtain ⟨L, h1, h2⟩ := h.at5.has
  obtain ⟨M, m1, m2, m3⟩ := h.com
  exact ⟨⟨h.at5.ds, ⟨L, h1.left n, h2⟩, h.at5.only⟩, ⟨h.sits.sorted, h.sits.count, h.sits.kG, h.sits.names, h.sits.old, h.sits.live, h.sits.up, h.sits.ds⟩, h.now, ⟨M, m1.left n, m2, m3⟩, h.le, h.kB, h.small⟩
theorem Lf5.arm {d : ADisk} {st : AStore} {a B : Nat} {T N : Nat → Option (List UInt8)} (h : Lf5 d st a T N B) (n : Int) : Lf5 (d.arm n) st a T N B := by
  unfold ADisk.arm
  rw [if_neg (by rw [h.sits.up]; decide)]
  exact h.left _
theorem Lf5.more {d : ADisk} {st : AStore} {a B B' : Nat} {T N : Nat → Option (List UInt8)} (h : Lf5 d st a T N B) (hB : B ≤ B') : Lf5 d st a T N B' :=
  ⟨h.at5, h.sits, h.now, h.com, h.le, Nat.le_trans h.kB hB, h.small⟩
def Small5 (T : Nat → Option (List UInt8)) : Prop := ∀ i b, T i = some b → b.length ≤ 30
/-- at the beginning of a round in a life. -/
structure Run5 (d : ADisk) (st : AStore) (a : Nat) (T N : Nat → Option (List UInt8)) (B : Nat) : Prop where
  at5 : At5 d a T
  le : a ≤ B
  smT : Small5 T
  smN : Small5 N
  so : (st.over = false ∧ Lf5 d st a T N B) ∨ st.over = true
theorem Run5.more {d : ADisk} {st : AStore} {a B B' : Nat} {T N : Nat → Option (List UInt8)} (h : Run5 d st a T N B) (hB : B ≤ B') : Run5 d st a T N B' :=
  ⟨h.at5, Nat.le_trans h.le hB, h.smT, h.smN, h.so.imp (fun h => ⟨h.1, h.2.more hB⟩) id⟩
theorem Lf5.run {d : ADisk} {st : AStore} {a B : Nat} {T N : Nat → Option (List UInt8)} (h : Lf5 d st a T N B) (hT : Small5 T) (hN : Small5 N) : Run5 d st a T N B :=
  ⟨h.at5, Nat.le_trans h.le h.kB, hT, hN, Or.inl ⟨h.sits.live, h⟩⟩
theorem small_put {N : Nat → Option (List UInt8)} (h : Small5 N) {key : Nat} {b : List UInt8} (hb : b.length ≤ 30) : Small5 (fun j => if j = key then some b else N j) := fun i b' hi => by
  by_cases e : i = key
  · simp only [e, if_true, Option.some.injEq] at hi; subst hi; exact hb
  · simp only [e, if_false] at hi; exact h i b' hi
theorem small_drop {N : Nat → Option (List UInt8)} (h : Small5 N) {key : Nat} : Small5 (fun j => if j = key then none else N j) := fun i b' hi => by
  by_cases e : i = key
  · simp [e] at hi
  · simp only [e, if_false] at hi; exact h i b' hi
/-- a commit in a life: told, or all is over. -/
theorem Lf5.commits {d : ADisk} {st : AStore} {a B : Nat} {T N : Nat → Option (List UInt8)} (h : Lf5 d st a T N B) (hB : B ≤ 900) (hT : Small5 T) (hN : Small5 N) :
    (∃ d' st', pCommit d st = (d', st', st.k + 1, 0) ∧ st'.k = st.k + 1 ∧ Run5 d' st' a T N (B + 1) ∧ Run5 d' st' (st.k + 1) N N (B + 1) ∧ st'.Ok ∧ st.k + 1 ≤ 901 ∧
        ∃ dF out e, pFreeC d' st' = (dF, st'.ends e, out, e) ∧ Run5 dF (st'.ends e) (st.k + 1) N N (B + 1)) ∨
      ∃ d' e, e ≠ 0 ∧ pCommit d st = (d', st.ends e, 0, e) ∧ Run5 d' (st.ends e) a T N (B + 1) := by
  have hle := h.le
  have hkB := h.kB
  rcases h.commit (by omega) with ⟨d', st', c1, c2, c3, c4, c5, c6⟩ | ⟨d', e, e0, c1, c2⟩
  · left
    have hk : st'.k = st.k + 1 := c2
    obtain ⟨dF, out, e, f1, f2⟩ := (show Lf5 d' st' st'.k N N (B + 1) by rw [hk]; exact c4).free c5 (by rw [hk]; exact c6)
    refine ⟨d', st', c1, c2, c3.run hT hN, c4.run hN hN, c3.sits.ok, by omega, dF, out, e, f1, ?_⟩
    rcases f2 with ⟨f2, f3⟩ | ⟨f2, f3⟩
    · subst f2
      rw [hk] at f3
      have hl : st'.ends 0 = st' := by
        have hlive := c3.sits.live
        cases st'
        simp only at hlive
        subst hlive
        rfl
      rw [hl]
      exact f3.run hN hN
    · rw [hk] at f3
      exact ⟨f3, by omega, hN, hN, Or.inr (by simp [AStore.ends, f2])⟩
  · exact Or.inr ⟨d', e, e0, c1, c2, by omega, hT, hN, Or.inr (by simp [AStore.ends, e0])⟩
section
variable {ex : Nat → Prop} {w : World} {q p m : Nat} {d : ADisk} {st : AStore}
theorem arm_by (n : Int) (h : StoreAt ex w q p m d st) (hn0 : -9223372036854775808 ≤ n) (hn1 : n ≤ 9223372036854775807) :
    Calls Tryz.prog 34 #[.pointer (some ⟨p, 0, none⟩), .int .i64 n] w fun e w' => e = .returned (.tuple #[]) ∧ StoreAt ex w' q p m (d.arm n) st ∧ Keep ex w w' := by
  obtain ⟨mk, mh, S, g, hv⟩ := h
  exact (Arm_at n hv.disk hn0 hn1).mono fun e w' ⟨h1, h2, h3⟩ => by
    obtain ⟨k1, k2⟩ := hv.disk_turned h2 h3
    exact ⟨h1, ⟨mk, mh, S, g, k1⟩, k2⟩
theorem Crash_at5 {W : World} (vk : Value) (keeps : List Int) (h : DiskAt ex w p m d) (hB : Below W.heap.size W w) (hlow : ∀ k, k < W.heap.size → ex k) (hrd : Rd W vk (iCells keeps)) (hkl : keeps.length ≤ maxLen) (hki : ∀ x ∈ keeps, isI64 x) :
    Calls Tryz.prog 40 #[.pointer (some ⟨p, 0, none⟩), vk] w fun e w' => e = .returned (.tuple #[]) ∧ DiskAt ex w' p m (d.crash keeps) ∧ Keep ex w w' := by
  obtain ⟨g, hr, hx⟩ := h
  refine (Crash_any0 w p m g d vk keeps hr (hrd.keepLow hB) (by simp only [maxLen] at hkl; omega) hki (fun k hv hn => (hx k (hlow k ?_)).2)).mono fun e w' he => ⟨he.1, DiskAt.post hr hx he.2⟩
  exact rd_blk5 hrd (by intro e; exact hn (by simpa [iCells] using e)) k hv
end
/-- between lives: the disk; what the commit that is opened has. -/
structure OutK (w0 wr : World) (B6 p m : Nat) (exX : Nat → Prop) (d : ADisk) (T : Nat → Option (List UInt8)) (vsT : List Value) : Prop where
  low : ∀ k, k < w0.heap.size → exX k
  x6 : exX B6
  disk : DiskAt exX wr p m d
  bel : Below w0.heap.size w0 wr
  b6 : wr.heap[B6]? = some (.cells vsT.toArray 27 (0, 0))
  kT : KeptAt wr vsT T
  oT : ∀ (j : Nat) (v : Value), vsT[j]? = some v → ∀ g, v.ownBlock = some g → exX g ∧ g ≠ B6
/-- in a life: the store, what it has now. -/
structure StK (w0 wr : World) (B6 B8 B11 q p m : Nat) (exX : Nat → Prop) (d : ADisk) (st : AStore) (lf : List Value) (T : Nat → Option (List UInt8)) (vsT : List Value) (N : Nat → Option (List UInt8)) (vsN : List Value) : Prop where
  low : ∀ k, k < w0.heap.size → exX k
  x6 : exX B6
  x8 : exX B8
  x11 : exX B11
  ne : B6 ≠ B8 ∧ B6 ≠ B11 ∧ B8 ≠ B11
  new : w0.heap.size ≤ B6 ∧ w0.heap.size ≤ B11
  sto : StoreAt exX wr q p m d st
  bel : Below w0.heap.size w0 wr
  b6 : wr.heap[B6]? = some (.cells vsT.toArray 27 (0, 0))
  b8 : wr.heap[B8]? = some (.cells lf.toArray 89 (0, 0))
  b11 : wr.heap[B11]? = some (.cells vsN.toArray 27 (0, 0))
  kT : KeptAt wr vsT T
  kN : KeptAt wr vsN N
  oT : ∀ (j : Nat) (v : Value), vsT[j]? = some v → ∀ g, v.ownBlock = some g → exX g ∧ g ≠ B6 ∧ g ≠ B11
  oN : ∀ (j : Nat) (v : Value), vsN[j]? = some v → ∀ g, v.ownBlock = some g → exX g ∧ g ≠ B6 ∧ g ≠ B11
section
variable {w0 wr w2 : World} {B6 B8 B11 q p m : Nat} {exX : Nat → Prop} {d : ADisk} {st : AStore} {lf : List Value} {T N : Nat → Option (List UInt8)} {vsT vsN : List Value}
theorem keep_bel {w0 wr w2 : World} {exX : Nat → Prop} (h : Below w0.heap.size w0 wr) (hl : ∀ k, k < w0.heap.size → exX k) (hk : Keep exX wr w2) : Below w0.heap.size w0 w2 :=
  h.trans ((hk.mono hl (ex' := fun k => k < w0.heap.size)).below (fun _ h => h))
theorem StK.step {d' : ADisk} {st' : AStore} (h : StK w0 wr B6 B8 B11 q p m exX d st lf T vsT N vsN) (hS : StoreAt exX w2 q p m d' st') (hk : Keep exX wr w2) : StK w0 w2 B6 B8 B11 q p m exX d' st' lf T vsT N vsN :=
  ⟨h.low, h.x6, h.x8, h.x11, h.ne, h.new, hS, keep_bel h.bel h.low hk, (hk.block _ h.x6).trans h.b6, (hk.block _ h.x8).trans h.b8, (hk.block _ h.x11).trans h.b11, h.kT.keep hk (fun j v hv g hg => (h.oT j v hv g hg).1), h.kN.keep hk (fun j v hv g hg => (h.oN j v hv g hg).1), h.oT, h.oN⟩
theorem StK.below (h : StK w0 wr B6 B8 B11 q p m exX d st lf T vsT N vsN) (hB : Below wr.heap.size wr w2) : StK w0 w2 B6 B8 B11 q p m exX d st lf T vsT N vsN :=
  h.step (h.sto.below hB) (Keep.ofBelow hB (fun _ hk => h.sto.lt hk))
theorem StK.more {exY : Nat → Prop} (h : StK w0 wr B6 B8 B11 q p m exX d st lf T vsT N vsN) (hB : Below wr.heap.size wr w2) (hs : ∀ k, exX k → exY k) (hx : ∀ k, exY k → exX k ∨ wr.heap.size ≤ k ∧ k < w2.heap.size) : StK w0 w2 B6 B8 B11 q p m exY d st lf T vsT N vsN :=
  have h2 := h.below hB
  ⟨fun k hk => hs k (h.low k hk), hs _ h.x6, hs _ h.x8, hs _ h.x11, h.ne, h.new, h.sto.more hB hx, h2.bel, h2.b6, h2.b8, h2.b11, h2.kT, h2.kN, fun j v hv g hg => ⟨hs g (h.oT j v hv g hg).1, (h.oT j v hv g hg).2⟩, fun j v hv g hg => ⟨hs g (h.oN j v hv g hg).1, (h.oN j v hv g hg).2⟩⟩
theorem KeptAt.upd5 {fp : Nat → Prop} {vs : List Value} {M : Nat → Option (List UInt8)} (h : KeptAt wr vs M) (hu : Upd fp wr w2) (ho : ∀ (j : Nat) (v : Value), vs[j]? = some v → ∀ g, v.ownBlock = some g → ¬ fp g) : KeptAt w2 vs M :=
  ⟨h.len, h.no, fun i b hi hb => by
    obtain ⟨ad, c, h1, h2, h3⟩ := h.yes i b hi hb
    exact ⟨ad, c, h1, h2.keep hu (ho i _ h1), h3⟩⟩
/-- a key's blob is noted. -/
theorem StK.note {key : Nat} {v : Value} {o : Option (List UInt8)} (h : StK w0 wr B6 B8 B11 q p m exX d st lf T vsT N vsN) (hkey : key < 6)
    (hv : match o with | none => v = .slice none 0 0 | some b => ∃ ad c, v = .slice (some ad) b.length c ∧ Rd wr (.slice (some ad) b.length c) (bcells b) ∧ b.length ≤ 1000) (ho : ∀ g, v.ownBlock = some g → exX g ∧ g ≠ B6 ∧ g ≠ B11) :
    StK w0 (wr.setCell ⟨B11, key, none⟩ v) B6 B8 B11 q p m exX d st lf T vsT (fun j => if j = key then o else N j) (vsN.set key v) := by
  have hU : Upd (· = B11) wr (wr.setCell ⟨B11, key, none⟩ v) := setCell_upd key v
  have hb := setCell_at h.b11 key v
  have hlen := h.kN.len
  refine ⟨h.low, h.x6, h.x8, h.x11, h.ne, h.new, h.sto.upd hU (fun k hk => hk ▸ h.x11), h.bel.trans (hU.below (fun k hk => by rw [hk]; exact h.new.2) h.bel.size), hU.keep h.b6 (fun e => h.ne.2.1 e), hU.keep h.b8 (fun e => h.ne.2.2 e), by rw [hb]; simp, h.kT.upd5 hU (fun j v hv g hg e => (h.oT j v hv g hg).2.2 e), ⟨by rw [List.length_set]; exact hlen, fun j hj hjn => ?_, fun j b hj hjb => ?_⟩, h.oT, fun j u hu g hg => ?_⟩
  · by_cases hjk : j = key
    · subst hjk
      simp only [if_true] at hjn
      subst hjn
      rw [List.getElem?_set_self (by omega)]
      exact congrArg some hv
    · simp only [hjk, if_false] at hjn
      rw [List.getElem?_set_ne (fun e => hjk e.symm)]
      exact h.kN.no j hj hjn
  · by_cases hjk : j = key
    · subst hjk
      simp only [if_true] at hjb
      subst hjb
      obtain ⟨ad, c, rfl, h2, h3⟩ := hv
      exact ⟨ad, c, by rw [List.getElem?_set_self (by omega)], h2.keep hU (fun g hg e => (ho g hg).2.2 e), h3⟩
    · simp only [hjk, if_false] at hjb
      obtain ⟨ad, c, h1, h2, h3⟩ := h.kN.yes j b hj hjb
      exact ⟨ad, c, by rw [List.getElem?_set_ne (fun e => hjk e.symm)]; exact h1, h2.keep hU (fun g hg e => (h.oN j _ h1 g hg).2.2 e), h3⟩
  · by_cases hjk : key = j
    · subst hjk
      rw [List.getElem?_set_self (by omega)] at hu
      cases hu
      exact ho g hg
    · rw [List.getElem?_set_ne hjk] at hu
      exact h.oN j u hu g hg
/-- a root tells of what is now. -/
theorem StK.told (h : StK w0 wr B6 B8 B11 q p m exX d st lf T vsT N vsN) (hU : Upd (· = B6) wr w2) (hb : w2.heap[B6]? = some (.cells vsN.toArray 27 (0, 0))) : StK w0 w2 B6 B8 B11 q p m exX d st lf N vsN N vsN :=
  ⟨h.low, h.x6, h.x8, h.x11, h.ne, h.new, h.sto.upd hU (fun k hk => hk ▸ h.x6), h.bel.trans (hU.below (fun k hk => by rw [hk]; exact h.new.1) h.bel.size), hb, hU.keep h.b8 (fun e => h.ne.1 e.symm), hU.keep h.b11 (fun e => h.ne.2.1 e.symm), h.kN.upd5 hU (fun j v hv g hg e => (h.oN j v hv g hg).2.1 e), h.kN.upd5 hU (fun j v hv g hg e => (h.oN j v hv g hg).2.1 e), h.oN, h.oN⟩
theorem StK.cell11 (h : StK w0 wr B6 B8 B11 q p m exX d st lf T vsT N vsN) {key : Nat} (hk : key < 6) : (∃ v, wr.cell? ⟨B11, key, none⟩ = some v) ∧ wr.frozen? ⟨B11, key, none⟩ = false := by
  have hl := h.kN.len
  refine ⟨⟨vsN[key], ?_⟩, by simp [World.frozen?, h.b11]⟩
  rw [cell_at h.b11]
  simp [hl, hk]
/-- the life is over. -/
theorem StK.out {d' : ADisk} (h : StK w0 wr B6 B8 B11 q p m exX d st lf T vsT N vsN) (hD : DiskAt exX w2 p m d') (hk : Keep exX wr w2) : OutK w0 w2 B6 p m exX d' T vsT :=
  ⟨h.low, h.x6, hD, keep_bel h.bel h.low hk, (hk.block _ h.x6).trans h.b6, h.kT.keep hk (fun j v hv g hg => (h.oT j v hv g hg).1), fun j v hv g hg => ⟨(h.oT j v hv g hg).1, (h.oT j v hv g hg).2.1⟩⟩
theorem OutK.more {exY : Nat → Prop} (h : OutK w0 wr B6 p m exX d T vsT) (hB : Below wr.heap.size wr w2) (hs : ∀ k, exX k → exY k) (hx : ∀ k, exY k → exX k ∨ wr.heap.size ≤ k ∧ k < w2.heap.size) : OutK w0 w2 B6 p m exY d T vsT :=
  have hk : Keep exX wr w2 := Keep.ofBelow hB (fun _ hk => h.disk.lt hk)
  ⟨fun k hk => hs k (h.low k hk), hs _ h.x6, h.disk.more hB hx, keep_bel h.bel h.low hk, (hk.block _ h.x6).trans h.b6, h.kT.keep hk (fun j v hv g hg => (h.oT j v hv g hg).1), fun j v hv g hg => ⟨hs g (h.oT j v hv g hg).1, (h.oT j v hv g hg).2⟩⟩
/-- a store is opened, and what it has is noted. -/
theorem StK.enter {w3 w4 : World} {d' : ADisk} (h : OutK w0 wr B6 p m exX d T vsT) (hS : StoreAt exX w3 q p m d' st) (hk : Keep exX wr w3) (hb8 : wr.heap[B8]? = some (.cells lf.toArray 89 (0, 0))) (x8 : exX B8) (h68 : B6 ≠ B8) (h6 : w0.heap.size ≤ B6) (h11 : w3.heap.size = B11) (hw4 : w3.alloc (.cells vsT.toArray 27) = w4) :
    StK w0 w4 B6 B8 B11 q p m (fun k => exX k ∨ k = B11) d' st lf T vsT T vsT := by
  subst hw4
  subst h11
  have hB : Below w3.heap.size w3 (w3.alloc (.cells vsT.toArray 27)) := (Below.refl _ _).alloc (Nat.le_refl _) _
  have hk4 : Keep exX wr (w3.alloc (.cells vsT.toArray 27)) := hk.trans (Keep.ofBelow hB (fun _ hk => hS.lt hk))
  have hT := h.kT.keep hk4 (fun j v hv g hg => (h.oT j v hv g hg).1)
  have ho : ∀ (j : Nat) (v : Value), vsT[j]? = some v → ∀ g, v.ownBlock = some g → (exX g ∨ g = w3.heap.size) ∧ g ≠ B6 ∧ g ≠ w3.heap.size := fun j v hv g hg => ⟨Or.inl (h.oT j v hv g hg).1, (h.oT j v hv g hg).2, fun e => by have := hS.lt (h.oT j v hv g hg).1; omega⟩
  exact ⟨fun k hk => Or.inl (h.low k hk), Or.inl h.x6, Or.inl x8, Or.inr rfl, ⟨h68, fun e => by have := hS.lt h.x6; omega, fun e => by have := hS.lt x8; omega⟩, ⟨h6, Nat.le_trans h.bel.size hk.size⟩, hS.more hB (fun k hk => hk.imp id (fun h => ⟨by omega, by simp; omega⟩)), keep_bel h.bel h.low hk4, (hk4.block _ h.x6).trans h.b6, (hk4.block _ x8).trans hb8, alloc_at _ _, hT, hT, ho, ho⟩
end
end Go.Proofs.YtbepcjajbcecnaaGreatDoor
