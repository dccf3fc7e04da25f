/-
  WalKeeps, plain: from life to life: the crash, and Open, whole or cut off. No program here.
-/
import Derived.Test.YtbiadclmonakkaaGreatDoorMWal23
namespace Go.Proofs.YtbiadclmonakkaaGreatDoor

theorem On.crash {d : ADisk} {ss : List Seg} {sy : Nat} (h : On d ss sy) (keeps : List Int) : On (d.crash keeps) ss sy := by
  cases h with
  | bare h => exact On.bare (h.crash keeps)
  | some h =>
    obtain ⟨u, _, h2, _⟩ := h.crash keeps
    exact On.some h2
theorem On.same {d d' : ADisk} {ss : List Seg} {sy : Nat} (h : On d ss sy) (hs : d'.fs = d.fs) : On d' ss sy := by
  cases h with
  | bare h => exact On.bare ⟨by rw [hs]; exact h.sorted, by rw [hs]; exact h.only⟩
  | some h => exact On.some (h.same (by rw [hs]; exact h.sorted) (fun u => by rw [hs]))
/-- a disk between lives; L: what was appended, sure: what was synced. -/
structure Ke (L : List (List UInt8)) (tr sure : Nat) (d : ADisk) (ss : List Seg) : Prop where
  run : ∃ m, m ≤ L.length ∧ sure ≤ m ∧ Kr (L.take m) tr sure ss
  lens : ∀ b ∈ L, b.length ≤ 40
  on : On d ss sure
  up : d.down = false
theorem ke_new (n a : Int) (tr : Nat) : Ke [] tr 0 ⟨n, a, false, []⟩ [] :=
  ⟨⟨0, Nat.le_refl _, Nat.le_refl _, kr_new⟩, fun b hb => (by cases hb), On.bare ⟨List.Pairwise.nil, fun _ _ _ => rfl⟩, rfl⟩
theorem Kj.crash {sz : Nat} {L : List (List UInt8)} {tr : Nat} {d : ADisk} {al : ALog} {ss : List Seg} (h : Kj sz L tr d al ss) (keeps : List Int) : Ke L tr al.synced (d.crash keeps) ss :=
  ⟨⟨L.length, Nat.le_refl _, h.sy, by rw [List.take_of_length_le (Nat.le_refl _)]; exact h.run⟩, h.lens, h.on.on.crash keeps, rfl⟩
theorem Ke.arm {L : List (List UInt8)} {tr sure : Nat} {d : ADisk} {ss : List Seg} (h : Ke L tr sure d ss) (n : Int) : Ke L tr sure (d.arm n) ss := by
  have hd := h.up
  unfold ADisk.arm
  rw [if_neg (by simp [hd])]
  exact ⟨h.run, h.lens, h.on.same rfl, h.up⟩
/-- what Open gives between lives. -/
structure KeOpen (sz : Nat) (L : List (List UInt8)) (tr sure : Nat) (d d' : ADisk) (f : AFound) (ss' : List Seg) (m : Nat) : Prop where
  recs : f.recs = allRecs ss'
  mle : m ≤ L.length
  sle : sure ≤ m
  run : Kr (L.take m) tr sure ss'
  kj : Kj sz (L.take m) tr d' (f.log sz) ss'
  j : J d' (f.log sz) ss'
  firm : Firm d' ss'
  left : d.left = -1 → d'.left = -1
theorem Ke.open {sz : Nat} {L : List (List UInt8)} {tr sure : Nat} {d : ADisk} {ss : List Seg} (h : Ke L tr sure d ss) (h0 : 64 ≤ sz) (h1 : sz ≤ 16777216) (hL : L.length ≤ 200) :
    ∃ d' f e ss', wOpen d (sz : Int) = (d', f, e) ∧ ((e = 0 ∧ ∃ m, KeOpen sz L tr sure d d' f ss' m) ∨ (e ≠ 0 ∧ d.left ≠ -1 ∧ On d' ss' sure ∧ ∃ m, m ≤ L.length ∧ sure ≤ m ∧ Kr (L.take m) tr sure ss')) := by
  obtain ⟨m, hm, hsm, hr⟩ := h.run
  have hml : (L.take m).length = m := by rw [List.length_take]; omega
  have hon := h.on
  have hlens : ∀ k, ∀ b ∈ L.take k, b.length ≤ 40 := fun k b hb => h.lens b (List.mem_of_mem_take hb)
  have hsize : ∀ f : AFound, (f.log (sz : Int)).size = sz := fun f => by show ((sz : Int)).toNat = sz; omega
  cases hon with
  | bare hb =>
    obtain ⟨e1, e2⟩ := open_bare hb h.up (sz : Int) (by omega) (by omega)
    have h2 := congrArg List.length (hr.nil rfl)
    rw [hml] at h2
    simp only [List.length_nil] at h2
    subst h2
    have hok := Kj.alOk (sz := sz) (L := []) (tr := tr) (kr_new) e2 (fun b hb => (by cases hb)) (hsize f0) h1 (by simp)
    refine ⟨d, f0, 0, [], e1, Or.inl ⟨rfl, 0, rfl, Nat.zero_le _, hsm, hr, ⟨by rw [List.take_zero]; exact kr_new, Nat.zero_le _, hlens 0, hsize f0, ⟨hok.1, by omega⟩, e2.on⟩, e2, fun y hy => (by cases hy), fun e => e⟩⟩
  | @some pre x t sy hl =>
    obtain ⟨d', ss', ht, hor⟩ := open_law hl h.up (sz : Int) (by omega) (by omega)
    obtain ⟨m', hm', hsm', hr'⟩ := hr.opened hl.ch (by omega) ht
    rw [hml] at hm'
    rw [List.take_take, Nat.min_eq_left hm'] at hr'
    have hml' : (L.take m').length = m' := by rw [List.length_take]; omega
    rcases hor with ⟨e1, e2, e3, e4, e5, _⟩ | ⟨e1, e2, _, e4⟩
    · have hnx : sure ≤ ((foundOf pre x t).log (sz : Int)).synced ∧ ((foundOf pre x t).log (sz : Int)).synced ≤ m' := by
        have hn := e2.next
        show sure ≤ ((foundOf pre x t).log (sz : Int)).next - 1 ∧ ((foundOf pre x t).log (sz : Int)).next - 1 ≤ m'
        rw [hn]
        cases hss : ss' with
        | nil =>
          rw [hss] at hr'
          have h2 := congrArg List.length (hr'.nil rfl)
          rw [hml'] at h2
          simp only [List.length_nil] at h2
          have h3 : nextOf ([] : List Seg) = 0 := rfl
          omega
        | cons y r =>
          rw [← hss]
          have := hr'.next e2.on.chain (by rw [hss]; simp)
          rw [hml'] at this
          omega
      have hrs : Kr (L.take m') tr ((foundOf pre x t).log (sz : Int)).synced ss' := hr'.more (Nat.le_refl _) hnx.1
      have hok := Kj.alOk hrs e2 (hlens m') (hsize _) h1 (by omega)
      exact ⟨d', _, 0, ss', e1, Or.inl ⟨rfl, m', e3, by omega, hsm', hr', ⟨hrs, by rw [hml']; exact hnx.2, hlens m', hsize _, ⟨hok.1, by omega⟩, e2.on⟩, e2, e4, e5⟩⟩
    · exact ⟨d', _, 15, ss', e2, Or.inr ⟨by decide, e1, e4, m', by omega, hsm', hr'⟩⟩
/-- what was firm lies, whatever was synced. -/
theorem firm_on {d : ADisk} {al : ALog} {ss : List Seg} (hJ : J d al ss) (hf : Firm d ss) (sy : Nat) : On d ss sy := by
  rcases List.eq_nil_or_concat ss with rfl | ⟨pre, x, rfl⟩
  · exact On.bare hJ.on.bare_of
  · rw [List.concat_eq_append] at *
    have hl := hJ.on.lies_of
    exact On.some (Lies.firm sy hl.sorted hl.ch (fun y hy => hf y (by simp [hy])) (hf x (by simp)) hl.only)
/-- an Open, whole or cut off, and a crash behind it. -/
theorem Ke.again {sz : Nat} {L : List (List UInt8)} {tr sure : Nat} {d : ADisk} {ss : List Seg} (h : Ke L tr sure d ss) (h0 : 64 ≤ sz) (h1 : sz ≤ 16777216) (hL : L.length ≤ 200) (keeps : List Int) : ∃ ss', Ke L tr sure ((wOpen d (sz : Int)).1.crash keeps) ss' := by
  obtain ⟨d', f, e, ss', he, hor⟩ := h.open h0 h1 hL
  rw [he]
  rcases hor with ⟨_, m, hk⟩ | ⟨_, _, hon, m, hm, hsm, hr⟩
  · exact ⟨ss', ⟨m, hk.mle, hk.sle, hk.run⟩, h.lens, (firm_on hk.j hk.firm sure).crash keeps, rfl⟩
  · exact ⟨ss', ⟨m, hm, hsm, hr⟩, h.lens, hon.crash keeps, rfl⟩
end Go.Proofs.YtbiadclmonakkaaGreatDoor
