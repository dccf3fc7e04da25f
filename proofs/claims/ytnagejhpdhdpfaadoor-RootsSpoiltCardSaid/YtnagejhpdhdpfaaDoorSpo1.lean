/-
  RootsSpoilt: the function that spoils a file.
-/
import Derived.Outline
import Derived.BigQuiet
import Derived.Deep.QuietTactic
import Derived.Deep.RegionHeld3
import Derived.Test.YtnagejhpdhdpfaaDoorSpo0
namespace Go.Proofs.YtnagejhpdhdpfaaDoor
open Go.RowKit Go.Maps Go.MapKept

def spoilE (gone : Bool) (d : ADisk) (s : ByteArray) (cut : Int) : Int := if gone then d.removeErr s else d.cutErr s (pickI cut (max ((afile d s).len : Int) 1))
def spoilD (gone : Bool) (d : ADisk) (s : ByteArray) (cut : Int) : ADisk := if gone then d.remove s else d.cut s (pickI cut (max ((afile d s).len : Int) 1))

set_option maxRecDepth 100000 in
set_option maxHeartbeats 4000000 in
theorem spoil_at {ex : Nat → Prop} {w : World} {p m : Nat} {d : ADisk} (bg bd n : Nat) (cut : Int) (gone : Bool) (h : DiskAt ex w p m d) (hg : w.cell? ⟨bg, 0, none⟩ = some (.bool gone)) (hc : w.cell? ⟨bd, 0, none⟩ = some (.pointer (some ⟨p, 0, none⟩))) (hn : n ≤ 9007199254740992) (hcut : isI64 cut) (hxd : ex bd) :
    Calls Tryd.prog 19 #[.int .i64 n, .int .i64 cut, .pointer (some ⟨bg, 0, none⟩), .pointer (some ⟨bd, 0, none⟩)] w fun e w' => e = .returned (.int .i64 (spoilE gone d (rname n) cut)) ∧ DiskAt ex w' p m (spoilD gone d (rname n) cut) ∧ Keep ex w w' := by
  have hl8 : (afile d (rname n)).len ≤ 16777216 := by have h1 := afile_le h.wf (rname n); have h2 := h.wf.used; have h3 := h.wf.most1; omega
  obtain ⟨s, hs⟩ : ∃ s, rname n = s := ⟨_, rfl⟩
  have hsz : s.size ≤ maxLen := by rw [← hs]; exact rname_size n
  have hpar : ((n : Int) % 2 = 0 ∧ s = ⟨#[114, 111, 111, 116, 48]⟩) ∨ ((n : Int) % 2 = 1 ∧ s = ⟨#[114, 111, 111, 116, 49]⟩) := by
    rw [← hs]
    rcases Nat.mod_two_eq_zero_or_one n with hp | hp
    · left; refine ⟨by omega, ?_⟩; unfold rname; rw [if_pos hp]
    · right; refine ⟨by omega, ?_⟩; unfold rname; rw [if_neg (by omega)]
  have hR := Remove_at s h hsz
  have HR := Lib.hid hR
  rw [hs]
  rw [hs] at hl8
  clear hs hR
  cases gone
  · simp only [spoilE, spoilD, Bool.false_eq_true, if_false]
    obtain ⟨sz, hsz2⟩ : ∃ sz : Nat, (afile d s).len = sz := ⟨_, rfl⟩
    obtain ⟨q, hq⟩ : ∃ q, pickI cut (max (sz : Int) 1) = q := ⟨_, rfl⟩
    have hP := fun w' => Pick_any w' cut (max (sz : Int) 1) hcut (by unfold isI64; omega)
    rw [hsz2] at hl8 ⊢
    rw [hq] at hP ⊢
    have HP := Lib.hid hP
    have Hsz2 := Lib.hid hsz2
    clear hP hsz2 hq
    rcases hpar with ⟨hp, rfl⟩ | ⟨hp, rfl⟩
    all_goals
      go_enter Tryd.func19, Tryd.ntmps19
      go_wp2
      go_region_held3 (fun w' => w'.cell? ⟨bd, 0, none⟩ = some (.pointer (some ⟨p, 0, none⟩))) (first | exact hc | exact S2 | exact S4 | go_keep)
        (first
          | (go_at_call 23; refine (Size_at _ h.drew hsz).mono ?_; rw [Hsz2.out]; rintro e w1 ⟨rfl, hB⟩; have S2 : w1.cell? ⟨bd, 0, none⟩ = some (.pointer (some ⟨p, 0, none⟩)) := (hB.cell (p := ⟨bd, 0, none⟩) (cell_lt hc)).trans hc)
          | (go_at_call 22; refine (HP.out _).mono ?_; rintro e w3 ⟨rfl, rfl⟩)
          | (go_at_call 21; refine (Cut_at _ q (h.drew.below hB) hsz).mono ?_; rintro e w2 ⟨rfl, hD, hK⟩; have S4 : w2.cell? ⟨bd, 0, none⟩ = some (.pointer (some ⟨p, 0, none⟩)) := (hK.cell hxd 0).trans S2))
      go_wp2
      go_ret
      exact ⟨rfl, hD, (Keep.ofBelow (w := w) (w' := w1) (((Below.refl w.heap.size w).drew).trans hB) (fun k hk => h.lt hk)).trans hK⟩
  · simp only [spoilE, spoilD, if_true]
    rcases hpar with ⟨hp, rfl⟩ | ⟨hp, rfl⟩
    all_goals
      go_enter Tryd.func19, Tryd.ntmps19
      go_wp2_with (go_at_call 20; refine HR.out.mono ?_; rintro e w1 ⟨rfl, hD, hK⟩)
      go_ret
      exact ⟨rfl, hD, hK⟩
theorem info_root : (Tryd.prog.info? 24).map (fun i => (i.zero, i.size, i.bytes)) = some (some (.agg #[.int .i64 0, .int .i64 0, .int .i64 0, .slice none 0 0]), 4, 48) := by kernel_rfl
theorem run_append_rowN {P : Program} (w : World) (t ty e : TypeId) (i : TypeInfo) (z : Value) (sz bytes : Nat) (ht : P.underlying t = some (.slice e)) (hi : P.info? e = some i) (hz : i.zero = some z)
    (hsize : i.size = sz) (hby : i.bytes = bytes) (hzs : z.cells.size = sz) (hsz : 0 < sz)
    (v : Value) (n m : Nat) (xs news : List Value) (hown : w.ownsRow 0 e sz v n xs) (b off c : Nat) (hl : news.length = m * sz) (hnews : ∀ j u, news[j]? = some u → w.cell? ⟨b, off + j, none⟩ = some u) (h1 : ∀ u ∈ news, u.oneCell' = true)
    (h63 : n + m ≤ maxLen) (hbytes : (n + m) * bytes ≤ 140737488355328) :
    ∃ v' w', (Builtin.append_ #[t, t] ty #[v, .slice (some ⟨b, off, none⟩) m c]).run P w = .ok v' w' ∧ w'.ownsRow 0 e sz v' (n + m) (xs ++ news) ∧ w.grownBy w' v.ownBlock ∧
      (v'.ownBlock = v.ownBlock ∨ ∃ g, v'.ownBlock = some g ∧ w.heap.size ≤ g) := by
  obtain ⟨v', w', hr, ho, hg, hn⟩ := run_append_own (P := P) w 0 t ty e i z sz bytes ht hi hz hsize hby hzs hsz v n xs hown ⟨b, off, none⟩ m c news hl (by simpa [Addr.add_lit] using hnews) h1 h63 hbytes (Nat.zero_le _)
  refine ⟨v', w', hr, ho, hg, ?_⟩
  rcases hown.2 with ⟨rfl, rfl⟩ | ⟨g, cap, cur, rfl, hbg, hgc, hnc, hcm, hcs, htake⟩
  · have hx : xs = [] := List.eq_nil_of_length_eq_zero (by simpa using hown.1)
    subst hx
    obtain ⟨v2, w2, hr2, ho2, _, _⟩ := run_append_own (P := P) w w.heap.size t ty e i z sz bytes ht hi hz hsize hby hzs hsz (.slice none 0 0) 0 [] (World.ownsRow_nil w _ e sz) ⟨b, off, none⟩ m c news hl (by simpa [Addr.add_lit] using hnews) h1 h63 hbytes (Nat.le_refl _)
    rw [hr] at hr2
    cases hr2
    rcases ho2.2 with ⟨rfl, _⟩ | ⟨g', _, _, rfl, hb', _⟩
    · exact Or.inl rfl
    · exact Or.inr ⟨g', rfl, hb'⟩
  · subst hby
    have hsmall : n + m ≤ 9223372036854775807 := by simp only [maxLen] at h63; omega
    by_cases hroom : n + m ≤ cap
    · have hr2 := run_append_room (P := P) w t ty e i ht hi g n cap cur hgc ⟨b, off, none⟩ m c news (by rw [hsize]; exact hl) (by simpa [Addr.add_lit] using hnews) h1 hroom (by rw [hsize, hcs, hl, ← Nat.add_mul]; exact Nat.mul_le_mul_right _ hroom)
      rw [hr] at hr2
      cases hr2
      exact Or.inl rfl
    · have holds : ∀ j u, xs[j]? = some u → w.cell? ((⟨g, 0, none⟩ : Addr).add j) = some u := hown.cells (g := g) rfl
      have hr2 := run_append_grow (P := P) w t ty e i z ht hi hz ⟨g, 0, none⟩ n cap xs (by rw [hsize]; exact hown.1) holds ⟨b, off, none⟩ m c news (by rw [hsize]; exact hl) (by simpa [Addr.add_lit] using hnews) (by omega) (by omega) (growslice_fits (by omega) hbytes)
      rw [hr] at hr2
      cases hr2
      exact Or.inr ⟨w.heap.size, rfl, Nat.le_refl _⟩
/-- a block of the caller's is turned, and more are new. -/
theorem DiskAt.more_upd {ex ex' fp : Nat → Prop} {w w' : World} {p m : Nat} {d : ADisk} (h : DiskAt ex w p m d) (hu : Upd fp w w') (hb : ∀ k, k < w.heap.size → fp k → ex k) (hx : ∀ k, ex' k → ex k ∨ w.heap.size ≤ k ∧ k < w'.heap.size) : DiskAt ex' w' p m d := by
  obtain ⟨g, hr, hx0⟩ := h
  refine ⟨g, hr.upd hu (fun k hk e => (hx0 k (hb k (hr.lt hk) e)).2 hk), fun k hk => ?_⟩
  rcases hx k hk with hk | ⟨h1, h2⟩
  · exact ⟨Nat.lt_of_lt_of_le (hx0 k hk).1 hu.size, (hx0 k hk).2⟩
  · exact ⟨h2, fun hd => by have := hr.lt hd; omega⟩
/-- one root is appended. -/
theorem run_append_root (w : World) (vf : Value) (n : Nat) (xs : List Value) (s t c : Int) (ab : Option Addr) (nb cb : Nat) (hown : w.ownsRow 0 24 4 vf n xs) (hl : n ≤ 1000) :
    ∃ a' c' w', (Builtin.append_ #[34, 34] 34 #[vf, .slice (some ⟨w.heap.size, 0, none⟩) 1 1]).run Tryd.prog (w.alloc (.cells #[.int .i64 s, .int .i64 t, .int .i64 c, .slice ab nb cb] 24)) = .ok (.slice a' (n + 1) c') w' ∧
      w'.ownsRow 0 24 4 (.slice a' (n + 1) c') (n + 1) (xs ++ [.int .i64 s, .int .i64 t, .int .i64 c, .slice ab nb cb]) ∧
      (w.alloc (.cells #[.int .i64 s, .int .i64 t, .int .i64 c, .slice ab nb cb] 24)).grownBy w' vf.ownBlock ∧ ((Value.slice a' (n + 1) c').ownBlock = vf.ownBlock ∨ ∃ g, (Value.slice a' (n + 1) c').ownBlock = some g ∧ w.heap.size ≤ g) := by
  obtain ⟨i0, hi, hz0, hz1, hz2⟩ := info_parts info_root
  obtain ⟨b0, b1, b2, b3, _⟩ := rootC_at (alloc_at w (.cells #[.int .i64 s, .int .i64 t, .int .i64 c, .slice ab nb cb] 24))
  obtain ⟨v', w', h1, h2, h3, h4⟩ := run_append_rowN (P := Tryd.prog) (w.alloc (.cells #[.int .i64 s, .int .i64 t, .int .i64 c, .slice ab nb cb] 24)) 34 34 24 i0 _ 4 48 Tryd.underlying34 hi hz0 hz1 hz2 rfl (by omega) vf n 1 xs [.int .i64 s, .int .i64 t, .int .i64 c, .slice ab nb cb]
    (((Upd.refl (fun _ => False) w).alloc _).row hown (fun _ _ h => h)) w.heap.size 0 1 rfl (fun j u hu => by
      match j, hu with
      | 0, h => cases h; exact b0
      | 1, h => cases h; exact b1
      | 2, h => cases h; exact b2
      | 3, h => cases h; exact b3) (fun u hu => by
      simp only [List.mem_cons, List.not_mem_nil, or_false] at hu
      rcases hu with rfl | rfl | rfl | rfl <;> rfl) (by simp only [maxLen]; omega) (by omega)
  rcases h2.2 with ⟨_, h0⟩ | ⟨g, cap, cur, rfl, _⟩
  · exact absurd h0 (by omega)
  · refine ⟨_, _, w', h1, h2, h3, ?_⟩
    rcases h4 with h4 | ⟨g, h4, h5⟩
    · exact Or.inl h4
    · exact Or.inr ⟨g, h4, by simp at h5; omega⟩
def xsCells (L : List XRoot) : List Value := L.flatMap XRoot.cells
theorem xsCells_get (L : List XRoot) (i : Nat) (h : i < L.length) (j : Nat) (hj : j < 4) : (xsCells L)[i * 4 + j]? = L[i].cells[j]? := by
  induction L generalizing i with
  | nil => simp at h
  | cons x L ih =>
    have hx : x.cells.length = 4 := rfl
    unfold xsCells at ih ⊢
    rw [List.flatMap_cons]
    cases i with
    | zero =>
      rw [Nat.zero_mul, Nat.zero_add, List.getElem?_append_left (by rw [hx]; exact hj)]
      rfl
    | succ i =>
      rw [List.getElem?_append_right (by rw [hx]; omega), hx, show (i + 1) * 4 + j - 4 = i * 4 + j by omega]
      rw [ih i (by simpa using h)]
      rfl
/-- a root of a slice of one's own. -/
theorem was_at {w : World} {base : Nat} {a : Option Addr} {n c : Nat} {L : List XRoot} (h : w.ownsRow base 24 4 (.slice a n c) n (xsCells L)) (h0 : 0 < n) : ∃ g, a = some ⟨g, 0, none⟩ ∧ n ≤ c ∧ ∀ (i : Nat) (hi : i < L.length),
    w.cell? ⟨g, i * 4, none⟩ = some (.int .i64 L[i].s) ∧ w.cell? ⟨g, i * 4 + 1, none⟩ = some (.int .i64 L[i].t) ∧ w.cell? ⟨g, i * 4 + 2, none⟩ = some (.int .i64 L[i].c) ∧ w.cell? ⟨g, i * 4 + 3, none⟩ = some L[i].vb := by
  rcases h.2 with ⟨_, hz⟩ | ⟨g, cap, cur, he, _, _, hnc, _⟩
  · omega
  · cases he
    refine ⟨g, rfl, hnc, fun i hi => ?_⟩
    have hc := fun j u (hu : (xsCells L)[j]? = some u) => h.cells (g := g) rfl j u hu
    have hc' : ∀ j u, (xsCells L)[j]? = some u → w.cell? ⟨g, j, none⟩ = some u := fun j u hu => by
      have := hc j u hu
      rwa [Addr.add_lit, Nat.zero_add] at this
    exact ⟨hc' _ _ (by have := xsCells_get L i hi 0 (by omega); rw [Nat.add_zero] at this; exact this), hc' _ _ (xsCells_get L i hi 1 (by omega)), hc' _ _ (xsCells_get L i hi 2 (by omega)), hc' _ _ (xsCells_get L i hi 3 (by omega))⟩
/-- the file of a good root is spoilt. -/
theorem spoil_by {ex : Nat → Prop} {w : World} {p m : Nat} {d : ADisk} (bg bd n : Nat) (N cut : Int) (gone : Bool) (r : ARoot) (h : DiskAt ex w p m d) (hg : w.cell? ⟨bg, 0, none⟩ = some (.bool gone)) (hc : w.cell? ⟨bd, 0, none⟩ = some (.pointer (some ⟨p, 0, none⟩))) (hn : n ≤ 9007199254740992) (hcut : isI64 cut) (hxd : ex bd)
    (hN : (n : Int) = N) (hup : d.down = false) (hl : d.left = -1) (hr : r.Ok) (hf : lk d.fs (rname n) = some ⟨sealL sumL r.bytes, []⟩) :
    Calls Tryd.prog 19 #[.int .i64 N, .int .i64 cut, .pointer (some ⟨bg, 0, none⟩), .pointer (some ⟨bd, 0, none⟩)] w fun e w' => ∃ d', e = .returned (.int .i64 0) ∧ Spoilt d d' (rname n) ∧ DiskAt ex w' p m d' ∧ Keep ex w w' := by
  subst hN
  refine (spoil_at bg bd n cut gone h hg hc hn hcut hxd).mono fun e w' he => ?_
  obtain ⟨e1, e2, e3⟩ := he
  have hs : spoilE gone d (rname n) cut = 0 ∧ Spoilt d (spoilD gone d (rname n) cut) (rname n) := by
    cases gone
    · exact spoil_cut hup hl hr hf cut
    · exact spoil_gone hup hl hf
  rw [hs.1] at e1
  exact ⟨_, e1, hs.2, e2, e3⟩
/-- a read of nothing. -/
theorem read_zero {ex : Nat → Prop} {w : World} {p m : Nat} {d : ADisk} (h : DiskAt ex w p m d) (hup : d.down = false) (hR : readR d = root0) :
    Calls Tryd.prog 18 #[.pointer (some ⟨p, 0, none⟩)] w fun e w' => ∃ a c, e = .returned (.tuple #[.agg #[.int .i64 0, .int .i64 0, .int .i64 0, .slice a 0 c], .bool false, .int .i64 0]) ∧ Rd w' (.slice a 0 c) (bcells []) ∧ Below w.heap.size w w' := by
  refine (read_by root0 0 h hR (by unfold readE; rw [if_neg (by simp [hup])])).mono fun e w' he => ?_
  obtain ⟨a, c, e1, e2, e3⟩ := he
  exact ⟨a, c, e1, Rd.ofOwns e2, e3⟩
end Go.Proofs.YtnagejhpdhdpfaaDoor
