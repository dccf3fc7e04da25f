/-
  PagesNumbers: the region of the commits that are none, its lemmas (printed by wip/gen/n5part.py).
-/
import Derived.Outline
import Derived.Deep.RegionHeld3
import Derived.Test.YtbepcjajbcecnaaGreatDoorMNmA
namespace Go.Proofs.YtbepcjajbcecnaaGreatDoor
open Go.RowKit Go.Maps Go.MapKept
set_option linter.unusedSimpArgs false
/-- the region of a number in a piece of code. -/
def findR (n : Nat) : Code → Option Code
  | .region k o b => bif Nat.beq k n then some (.region k o b) else none
  | .seq a b => match findR n a with | some c => some c | none => findR n b
  | .cond _ a b => match findR n a with | some c => some c | none => findR n b
  | .block _ a => findR n a
  | .loop a => findR n a
  | _ => none
def regOf (f : Func) (n : Nat) : Code := match f.body with | some c => (findR n c).getD .skip | none => .skip
def opsOf : Code → Array Oper
  | .region _ o _ => o
  | _ => #[]
theorem wpAnyH_at {P : Program} {md : Region.Mode} {ops : Array Oper} {Q : Exit → Act → World → Prop} {S : World → Prop} {f f' : Nat} {l l' : Array Bool} {a : Act} {w : World} (hf : f = f') (hl : l = l') (h : wpAnyH P md ops Q S f' l' a w) : wpAnyH P md ops Q S f l a w := by
  subst hf hl
  exact h
def nilV : Value := .slice none 0 0
def nineL (v v' : Value) : List AFile5 := [⟨nI2, v, rawB 2 1 nK 1 1 4⟩, ⟨nC1, v', hello5⟩, ⟨⟨#[99, 50]⟩, nilV, []⟩, ⟨nC3, nilV, []⟩, ⟨⟨#[105, 49]⟩, nilV, []⟩, ⟨⟨#[105, 46, 110, 101, 119]⟩, nilV, []⟩, ⟨⟨#[105, 48]⟩, nilV, []⟩, ⟨⟨#[99, 48, 49]⟩, nilV, []⟩, ⟨⟨#[120]⟩, nilV, []⟩]
theorem file_ok {w : World} {s : ByteArray} {v : Value} {b : List UInt8} (hs : s.size ≤ 1000) (hb : b.length ≤ 3000) (h : Rd w v (bcells b)) : FileOk5 w ⟨s, v, b⟩ := ⟨by simp only [maxLen]; omega, h, by simp only [maxLen]; omega⟩
theorem nil_rd (w : World) : Rd w nilV (bcells []) := Or.inl ⟨Or.inl rfl, rfl⟩
theorem raw214_len : (rawB 2 1 nK 1 1 4).length ≤ 3000 := by decide +kernel
theorem nineL_ok {w : World} {v v' : Value} (h : Rd w v (bcells (rawB 2 1 nK 1 1 4))) (h' : Rd w v' (bcells hello5)) : ∀ x ∈ nineL v v', FileOk5 w x := by
  intro x hx
  unfold nineL at hx
  simp only [List.mem_cons, List.not_mem_nil, or_false] at hx
  rcases hx with rfl | rfl | rfl | rfl | rfl | rfl | rfl | rfl | rfl
  · exact file_ok (by decide) raw214_len h
  · exact file_ok (by decide) (by decide) h'
  all_goals exact file_ok (by decide) (by decide) (nil_rd w)
theorem nineL_len {v v' : Value} : ∀ x ∈ nineL v v', x.b.length ≤ 3000 := by
  intro x hx
  unfold nineL at hx
  simp only [List.mem_cons, List.not_mem_nil, or_false] at hx
  rcases hx with rfl | rfl | rfl | rfl | rfl | rfl | rfl | rfl | rfl
  · exact raw214_len
  all_goals exact of_decide_eq_true rfl
theorem FilesAt5.below {W w : World} {v : Value} {xs : List AFile5} (h : FilesAt5 W v xs) (hb : Below W.heap.size W w) : FilesAt5 w v xs := by
  rcases h with h1 | ⟨b, off, n', c', e, hl, hm, hc⟩
  · exact Or.inl h1
  · refine Or.inr ⟨b, off, n', c', e, hl, hm, fun j q hj => ?_⟩
    obtain ⟨cs, h1, h2, h3, h4⟩ := hc j q hj
    exact ⟨cs, h1, fun i u hu => (hb.cell (p := ⟨b, off + (j * 2 + i), none⟩) (cell_lt (h2 i u hu))).trans (h2 i u hu), h3, { h4 with rd := h4.rd.below hb }⟩
theorem made9 (W : World) (va v v' : Value) (hF : FilesAt5 W va (nineL v v')) :
    Calls Tryz.prog 33 #[va] W fun e w' =>
      ∃ p m a n c exq, e = .returned (.tuple #[.pointer (some ⟨p, 0, none⟩), .agg #[.int .i64 (madeN nine5).most, .slice a n c, .int .i64 (madeN nine5).left, .bool (madeN nine5).down]]) ∧ (∀ k, k < W.heap.size → exq k) ∧ DiskAt exq w' p m (madeN nine5) ∧ Below W.heap.size W w' := by
  have hM := made5_any W (fun k => k < W.heap.size) _ _ hF (fun _ h => h) (fun _ h => h) nineL_len
  rw [madeD_N (nineL v v') nine5 rfl] at hM
  refine hM.mono fun e w' h => ?_
  obtain ⟨p, m, a, n, c, exq, h1, h2, h3, _, h5⟩ := h
  exact ⟨p, m, a, n, c, exq, h1, h2, h3, h5.below (fun k hk => hk)⟩
theorem made9a (w : World) (ra : Option Addr) (n rc hb : Nat) (hr : Rd w (.slice ra n rc) (bcells (rawB 2 1 nK 1 1 4))) (hh : Rd w (.slice (some ⟨hb, 0, none⟩) 5 5) (bcells hello5)) :
    FilesAt5 (w.alloc (.cells #[.string ⟨#[105, 50]⟩, .slice ra n rc, .string ⟨#[99, 49]⟩, .slice (some ⟨hb, 0, none⟩) 5 5, .string ⟨#[99, 50]⟩, .slice none 0 0, .string ⟨#[99, 51]⟩, .slice none 0 0, .string ⟨#[105, 49]⟩, .slice none 0 0, .string ⟨#[105, 46, 110, 101, 119]⟩, .slice none 0 0, .string ⟨#[105, 48]⟩, .slice none 0 0, .string ⟨#[99, 48, 49]⟩, .slice none 0 0, .string ⟨#[120]⟩, .slice none 0 0] 71)) (.slice (some ⟨w.heap.size, 0, none⟩) 9 9) (nineL (.slice ra n rc) (.slice (some ⟨hb, 0, none⟩) 5 5)) :=
  files_new w (nineL (.slice ra n rc) (.slice (some ⟨hb, 0, none⟩) 5 5)) _ _ 9 rfl rfl (by decide) (nineL_ok hr hh)
theorem made9c (w : World) (ra : Option Addr) (n rc hb : Nat) (hr : Rd w (.slice ra n rc) (bcells (rawB 2 1 nK 1 1 4))) (hh : Rd w (.slice (some ⟨hb, 0, none⟩) 5 5) (bcells hello5)) :
    FilesAt5 ((w.alloc (.cells #[.int .i64 0, .slice none 0 0, .int .i64 0, .bool false] 74)).alloc (.cells #[.string ⟨#[105, 50]⟩, .slice ra n rc, .string ⟨#[99, 49]⟩, .slice (some ⟨hb, 0, none⟩) 5 5, .string ⟨#[99, 50]⟩, .slice none 0 0, .string ⟨#[99, 51]⟩, .slice none 0 0, .string ⟨#[105, 49]⟩, .slice none 0 0, .string ⟨#[105, 46, 110, 101, 119]⟩, .slice none 0 0, .string ⟨#[105, 48]⟩, .slice none 0 0, .string ⟨#[99, 48, 49]⟩, .slice none 0 0, .string ⟨#[120]⟩, .slice none 0 0] 71)) (.slice (some ⟨w.heap.size + 1, 0, none⟩) 9 9) (nineL (.slice ra n rc) (.slice (some ⟨hb, 0, none⟩) 5 5)) := by
  have hb0 : Below w.heap.size w (w.alloc (.cells #[.int .i64 0, .slice none 0 0, .int .i64 0, .bool false] 74)) := (Below.refl _ _).alloc (Nat.le_refl _) _
  have := made9a (w.alloc (.cells #[.int .i64 0, .slice none 0 0, .int .i64 0, .bool false] 74)) ra n rc hb (hr.below hb0) (hh.below hb0)
  simpa using this
theorem rwa_len : (rawB 2 1 nK 1 1 4).length = 15 := by decide +kernel
theorem rwa (w : World) : Calls Tryz.prog 41 #[.int .i64 2, .int .i64 1, .string ⟨#[107]⟩, .int .i64 1, .int .i64 1, .int .i64 4] w fun e w' => ∃ a c, e = .returned (.agg #[.string ⟨#[105, 50]⟩, .slice a 15 c]) ∧ Rd w' (.slice a 15 c) (bcells (rawB 2 1 nK 1 1 4)) ∧ Below w.heap.size w w' := by
  have h := raw5_any w 2 1 nK 1 1 4 (by decide) (by decide) (by decide) (by decide) (by decide) (by decide)
  rw [rwa_len] at h
  exact h
theorem rwb_len : (rawB 2 1 nK 1 1 5).length = 15 := by decide +kernel
theorem rwb (w : World) : Calls Tryz.prog 41 #[.int .i64 2, .int .i64 1, .string ⟨#[107]⟩, .int .i64 1, .int .i64 1, .int .i64 5] w fun e w' => ∃ a c, e = .returned (.agg #[.string ⟨#[105, 50]⟩, .slice a 15 c]) ∧ Rd w' (.slice a 15 c) (bcells (rawB 2 1 nK 1 1 5)) ∧ Below w.heap.size w w' := by
  have h := raw5_any w 2 1 nK 1 1 5 (by decide) (by decide) (by decide) (by decide) (by decide) (by decide)
  rw [rwb_len] at h
  exact h
theorem rwc_len : (rawB 2 1 nK 1 6 0).length = 15 := by decide +kernel
theorem rwc (w : World) : Calls Tryz.prog 41 #[.int .i64 2, .int .i64 1, .string ⟨#[107]⟩, .int .i64 1, .int .i64 6, .int .i64 0] w fun e w' => ∃ a c, e = .returned (.agg #[.string ⟨#[105, 50]⟩, .slice a 15 c]) ∧ Rd w' (.slice a 15 c) (bcells (rawB 2 1 nK 1 6 0)) ∧ Below w.heap.size w w' := by
  have h := raw5_any w 2 1 nK 1 6 0 (by decide) (by decide) (by decide) (by decide) (by decide) (by decide)
  rw [rwc_len] at h
  exact h
theorem rwd_len : (rawB 3 1 nK 1 1 4).length = 15 := by decide +kernel
theorem rwd (w : World) : Calls Tryz.prog 41 #[.int .i64 3, .int .i64 1, .string ⟨#[107]⟩, .int .i64 1, .int .i64 1, .int .i64 4] w fun e w' => ∃ a c, e = .returned (.agg #[.string ⟨#[105, 50]⟩, .slice a 15 c]) ∧ Rd w' (.slice a 15 c) (bcells (rawB 3 1 nK 1 1 4)) ∧ Below w.heap.size w w' := by
  have h := raw5_any w 3 1 nK 1 1 4 (by decide) (by decide) (by decide) (by decide) (by decide) (by decide)
  rw [rwd_len] at h
  exact h
theorem rwe_len : (rawB 2 0 nK 1 1 4).length = 15 := by decide +kernel
theorem rwe (w : World) : Calls Tryz.prog 41 #[.int .i64 2, .int .i64 0, .string ⟨#[107]⟩, .int .i64 1, .int .i64 1, .int .i64 4] w fun e w' => ∃ a c, e = .returned (.agg #[.string ⟨#[105, 50]⟩, .slice a 15 c]) ∧ Rd w' (.slice a 15 c) (bcells (rawB 2 0 nK 1 1 4)) ∧ Below w.heap.size w w' := by
  have h := raw5_any w 2 0 nK 1 1 4 (by decide) (by decide) (by decide) (by decide) (by decide) (by decide)
  rw [rwe_len] at h
  exact h
theorem rwf_len : (rawB 2 2 nK 1 1 4).length = 15 := by decide +kernel
theorem rwf (w : World) : Calls Tryz.prog 41 #[.int .i64 2, .int .i64 2, .string ⟨#[107]⟩, .int .i64 1, .int .i64 1, .int .i64 4] w fun e w' => ∃ a c, e = .returned (.agg #[.string ⟨#[105, 50]⟩, .slice a 15 c]) ∧ Rd w' (.slice a 15 c) (bcells (rawB 2 2 nK 1 1 4)) ∧ Below w.heap.size w w' := by
  have h := raw5_any w 2 2 nK 1 1 4 (by decide) (by decide) (by decide) (by decide) (by decide) (by decide)
  rw [rwf_len] at h
  exact h
theorem rwg_len : (rawB 2 1 ⟨#[]⟩ 1 1 4).length = 14 := by decide +kernel
theorem rwg (w : World) : Calls Tryz.prog 41 #[.int .i64 2, .int .i64 1, .string ⟨#[]⟩, .int .i64 1, .int .i64 1, .int .i64 4] w fun e w' => ∃ a c, e = .returned (.agg #[.string ⟨#[105, 50]⟩, .slice a 14 c]) ∧ Rd w' (.slice a 14 c) (bcells (rawB 2 1 ⟨#[]⟩ 1 1 4)) ∧ Below w.heap.size w w' := by
  have h := raw5_any w 2 1 ⟨#[]⟩ 1 1 4 (by decide) (by decide) (by decide) (by decide) (by decide) (by decide)
  rw [rwg_len] at h
  exact h
theorem rwh_len : (rawB 2 1 ⟨(List.replicate 61 (107 : UInt8)).toArray⟩ 1 1 4).length = 75 := by decide +kernel
theorem rwh (w : World) : Calls Tryz.prog 41 #[.int .i64 2, .int .i64 1, .string ⟨#[107, 107, 107, 107, 107, 107, 107, 107, 107, 107, 107, 107, 107, 107, 107, 107, 107, 107, 107, 107, 107, 107, 107, 107, 107, 107, 107, 107, 107, 107, 107, 107, 107, 107, 107, 107, 107, 107, 107, 107, 107, 107, 107, 107, 107, 107, 107, 107, 107, 107, 107, 107, 107, 107, 107, 107, 107, 107, 107, 107, 107]⟩, .int .i64 1, .int .i64 1, .int .i64 4] w fun e w' => ∃ a c, e = .returned (.agg #[.string ⟨#[105, 50]⟩, .slice a 75 c]) ∧ Rd w' (.slice a 75 c) (bcells (rawB 2 1 ⟨(List.replicate 61 (107 : UInt8)).toArray⟩ 1 1 4)) ∧ Below w.heap.size w w' := by
  have h := raw5_any w 2 1 ⟨(List.replicate 61 (107 : UInt8)).toArray⟩ 1 1 4 (by decide) (by decide) (by decide) (by decide) (by decide) (by decide)
  rw [rwh_len] at h
  exact h
theorem rwi_len : (rawB 2 1 nK 0 1 4).length = 15 := by decide +kernel
theorem rwi (w : World) : Calls Tryz.prog 41 #[.int .i64 2, .int .i64 1, .string ⟨#[107]⟩, .int .i64 0, .int .i64 1, .int .i64 4] w fun e w' => ∃ a c, e = .returned (.agg #[.string ⟨#[105, 50]⟩, .slice a 15 c]) ∧ Rd w' (.slice a 15 c) (bcells (rawB 2 1 nK 0 1 4)) ∧ Below w.heap.size w w' := by
  have h := raw5_any w 2 1 nK 0 1 4 (by decide) (by decide) (by decide) (by decide) (by decide) (by decide)
  rw [rwi_len] at h
  exact h
theorem rwj_len : (rawB 2 1 nK 3 1 4).length = 15 := by decide +kernel
theorem rwj (w : World) : Calls Tryz.prog 41 #[.int .i64 2, .int .i64 1, .string ⟨#[107]⟩, .int .i64 3, .int .i64 1, .int .i64 4] w fun e w' => ∃ a c, e = .returned (.agg #[.string ⟨#[105, 50]⟩, .slice a 15 c]) ∧ Rd w' (.slice a 15 c) (bcells (rawB 2 1 nK 3 1 4)) ∧ Below w.heap.size w w' := by
  have h := raw5_any w 2 1 nK 3 1 4 (by decide) (by decide) (by decide) (by decide) (by decide) (by decide)
  rw [rwj_len] at h
  exact h
theorem rwk_len : (rawB 2 1 nK 1 4611686018427387904 4).length = 23 := by decide +kernel
theorem rwk (w : World) : Calls Tryz.prog 41 #[.int .i64 2, .int .i64 1, .string ⟨#[107]⟩, .int .i64 1, .int .i64 4611686018427387904, .int .i64 4] w fun e w' => ∃ a c, e = .returned (.agg #[.string ⟨#[105, 50]⟩, .slice a 23 c]) ∧ Rd w' (.slice a 23 c) (bcells (rawB 2 1 nK 1 4611686018427387904 4)) ∧ Below w.heap.size w w' := by
  have h := raw5_any w 2 1 nK 1 4611686018427387904 4 (by decide) (by decide) (by decide) (by decide) (by decide) (by decide)
  rw [rwk_len] at h
  exact h
theorem hello_two {w : World} {v v' : Value} {B : List UInt8} (hB : B.length ≤ 3000) (h : Rd w v (bcells B)) (h' : Rd w v' (bcells hello5)) : ∀ x ∈ ([⟨nI2, v, B⟩, ⟨nC1, v', hello5⟩] : List AFile5), FileOk5 w x := by
  intro x hx
  simp only [List.mem_cons, List.not_mem_nil, or_false] at hx
  rcases hx with rfl | rfl
  · exact file_ok (by decide) hB h
  · exact file_ok (by decide) (by decide) h'
theorem none_raw (u : World) (hE : WEnv u) (ra : Option Addr) (n rc hb : Nat) (B : List UInt8) (hr : Rd u (.slice ra n rc) (bcells B)) (hh : Rd u (.slice (some ⟨hb, 0, none⟩) 5 5) (bcells hello5)) (hB : B.length ≤ 3000) (k : Int) (hk : isI64 k) (h : none14 [(nI2, B), nP] k = true) :
    Calls Tryz.prog 43 #[.int .i64 k, .slice (some ⟨u.heap.size, 0, none⟩) 2 2] (u.alloc (.cells #[.string ⟨#[105, 50]⟩, .slice ra n rc, .string ⟨#[99, 49]⟩, .slice (some ⟨hb, 0, none⟩) 5 5] 71)) fun e w' => e = .returned (.bool true) ∧ Below u.heap.size u w' := by
  have hb0 : Below u.heap.size u (u.alloc (.cells #[.string ⟨#[105, 50]⟩, .slice ra n rc, .string ⟨#[99, 49]⟩, .slice (some ⟨hb, 0, none⟩) 5 5] 71)) := (Below.refl _ _).alloc (Nat.le_refl _) _
  have hF := files_new u [⟨nI2, .slice ra n rc, B⟩, ⟨nC1, .slice (some ⟨hb, 0, none⟩) 5 5, hello5⟩] #[.string ⟨#[105, 50]⟩, .slice ra n rc, .string ⟨#[99, 49]⟩, .slice (some ⟨hb, 0, none⟩) 5 5] 71 2 rfl rfl (by decide) (hello_two hB hr hh)
  refine (none5_by _ (hE.below hb0) _ _ hF k hk [(nI2, B), nP] rfl (fun x hx => ?_) h).mono fun e w' he => ⟨he.1, hb0.trans (he.2.mono hb0.size)⟩
  simp only [List.mem_cons, List.not_mem_nil, or_false] at hx
  rcases hx with rfl | rfl
  · exact hB
  · exact of_decide_eq_true rfl
theorem none_one (u : World) (hE : WEnv u) (s : ByteArray) (hs : s.size ≤ 1000) (v : Value) (B : List UInt8) (cs : Array Value) (hcs : cs.toList = [.string s, v]) (hr : Rd u v (bcells B)) (hB : B.length ≤ 3000) (k : Int) (hk : isI64 k) (h : none14 [(s, B)] k = true) :
    Calls Tryz.prog 43 #[.int .i64 k, .slice (some ⟨u.heap.size, 0, none⟩) 1 1] (u.alloc (.cells cs 71)) fun e w' => e = .returned (.bool true) ∧ Below u.heap.size u w' := by
  have hb0 : Below u.heap.size u (u.alloc (.cells cs 71)) := (Below.refl _ _).alloc (Nat.le_refl _) _
  have hF := files_new u [⟨s, v, B⟩] cs 71 1 rfl hcs (by decide) (fun x hx => by rw [List.mem_singleton.1 hx]; exact file_ok hs hB hr)
  exact (none5_by _ (hE.below hb0) _ _ hF k hk [(s, B)] rfl (fun x hx => by rw [List.mem_singleton.1 hx]; exact hB) h).mono fun e w' he => ⟨he.1, hb0.trans (he.2.mono hb0.size)⟩
theorem none_three (u : World) (hE : WEnv u) (ra : Option Addr) (rc hb : Nat) (hr : Rd u (.slice ra 15 rc) (bcells (rawB 2 1 nK 3 1 4))) (hh : Rd u (.slice (some ⟨hb, 0, none⟩) 5 5) (bcells hello5)) :
    Calls Tryz.prog 43 #[.int .i64 2, .slice (some ⟨u.heap.size + 1, 0, none⟩) 3 3] ((u.alloc (.cells #[.int .u8 104, .int .u8 101, .int .u8 108, .int .u8 108, .int .u8 111] 5 (5, 6))).alloc (.cells #[.string ⟨#[105, 50]⟩, .slice ra 15 rc, .string ⟨#[99, 49]⟩, .slice (some ⟨hb, 0, none⟩) 5 5, .string ⟨#[99, 51]⟩, .slice (some ⟨u.heap.size, 0, none⟩) 5 5] 71)) fun e w' => e = .returned (.bool true) ∧ Below u.heap.size u w' := by
  have hb1 : Below u.heap.size u (u.alloc (.cells #[.int .u8 104, .int .u8 101, .int .u8 108, .int .u8 108, .int .u8 111] 5 (5, 6))) := (Below.refl _ _).alloc (Nat.le_refl _) _
  have hs1 : (u.alloc (.cells #[.int .u8 104, .int .u8 101, .int .u8 108, .int .u8 108, .int .u8 111] 5 (5, 6))).heap.size = u.heap.size + 1 := by simp
  have h3 := Rd_new u #[.int .u8 104, .int .u8 101, .int .u8 108, .int .u8 108, .int .u8 111] 5 (5, 6) (bcells hello5) 5 5 rfl rfl
  obtain ⟨W, hW⟩ : ∃ y, u.alloc (.cells #[.int .u8 104, .int .u8 101, .int .u8 108, .int .u8 108, .int .u8 111] 5 (5, 6)) = y := ⟨_, rfl⟩
  rw [hW] at hb1 hs1 h3 ⊢
  rw [← hs1]
  have hb2 : Below W.heap.size W (W.alloc (.cells #[.string ⟨#[105, 50]⟩, .slice ra 15 rc, .string ⟨#[99, 49]⟩, .slice (some ⟨hb, 0, none⟩) 5 5, .string ⟨#[99, 51]⟩, .slice (some ⟨u.heap.size, 0, none⟩) 5 5] 71)) := (Below.refl _ _).alloc (Nat.le_refl _) _
  have hok : ∀ x ∈ ([⟨nI2, .slice ra 15 rc, rawB 2 1 nK 3 1 4⟩, ⟨nC1, .slice (some ⟨hb, 0, none⟩) 5 5, hello5⟩, ⟨nC3, .slice (some ⟨u.heap.size, 0, none⟩) 5 5, hello5⟩] : List AFile5), FileOk5 W x := by
    intro x hx
    simp only [List.mem_cons, List.not_mem_nil, or_false] at hx
    rcases hx with rfl | rfl | rfl
    · exact file_ok (by decide) (by rw [rwj_len]; decide) (hr.below hb1)
    · exact file_ok (by decide) (by decide) (hh.below hb1)
    · exact file_ok (by decide) (by decide) h3
  have hF := files_new W [⟨nI2, .slice ra 15 rc, rawB 2 1 nK 3 1 4⟩, ⟨nC1, .slice (some ⟨hb, 0, none⟩) 5 5, hello5⟩, ⟨nC3, .slice (some ⟨u.heap.size, 0, none⟩) 5 5, hello5⟩] #[.string ⟨#[105, 50]⟩, .slice ra 15 rc, .string ⟨#[99, 49]⟩, .slice (some ⟨hb, 0, none⟩) 5 5, .string ⟨#[99, 51]⟩, .slice (some ⟨u.heap.size, 0, none⟩) 5 5] 71 3 rfl rfl (by decide) hok
  have hbW := hb1.trans (hb2.mono hb1.size)
  refine (none5_by _ (hE.below hbW) _ _ hF 2 (by unfold isI64; decide) [(nI2, rawB 2 1 nK 3 1 4), nP, (nC3, hello5)] rfl (fun x hx => ?_) e12).mono fun e w' he => ⟨he.1, hbW.trans (he.2.mono hbW.size)⟩
  simp only [List.mem_cons, List.not_mem_nil, or_false] at hx
  rcases hx with rfl | rfl | rfl
  · exact (by rw [rwj_len]; decide : (rawB 2 1 nK 3 1 4).length ≤ 3000)
  · exact of_decide_eq_true rfl
  · exact of_decide_eq_true rfl
theorem none_three2 (u : World) (hE : WEnv u) (ra : Option Addr) (rc hb h3 : Nat) (hr : Rd u (.slice ra 15 rc) (bcells (rawB 2 1 nK 3 1 4))) (hh : Rd u (.slice (some ⟨hb, 0, none⟩) 5 5) (bcells hello5)) (hh3 : Rd u (.slice (some ⟨h3, 0, none⟩) 5 5) (bcells hello5)) :
    Calls Tryz.prog 43 #[.int .i64 2, .slice (some ⟨u.heap.size, 0, none⟩) 3 3] (u.alloc (.cells #[.string ⟨#[105, 50]⟩, .slice ra 15 rc, .string ⟨#[99, 49]⟩, .slice (some ⟨hb, 0, none⟩) 5 5, .string ⟨#[99, 51]⟩, .slice (some ⟨h3, 0, none⟩) 5 5] 71)) fun e w' => e = .returned (.bool true) ∧ Below u.heap.size u w' := by
  have hb2 : Below u.heap.size u (u.alloc (.cells #[.string ⟨#[105, 50]⟩, .slice ra 15 rc, .string ⟨#[99, 49]⟩, .slice (some ⟨hb, 0, none⟩) 5 5, .string ⟨#[99, 51]⟩, .slice (some ⟨h3, 0, none⟩) 5 5] 71)) := (Below.refl _ _).alloc (Nat.le_refl _) _
  have hok : ∀ x ∈ ([⟨nI2, .slice ra 15 rc, rawB 2 1 nK 3 1 4⟩, ⟨nC1, .slice (some ⟨hb, 0, none⟩) 5 5, hello5⟩, ⟨nC3, .slice (some ⟨h3, 0, none⟩) 5 5, hello5⟩] : List AFile5), FileOk5 u x := by
    intro x hx
    simp only [List.mem_cons, List.not_mem_nil, or_false] at hx
    rcases hx with rfl | rfl | rfl
    · exact file_ok (by decide) (by rw [rwj_len]; decide) hr
    · exact file_ok (by decide) (by decide) hh
    · exact file_ok (by decide) (by decide) hh3
  have hF := files_new u [⟨nI2, .slice ra 15 rc, rawB 2 1 nK 3 1 4⟩, ⟨nC1, .slice (some ⟨hb, 0, none⟩) 5 5, hello5⟩, ⟨nC3, .slice (some ⟨h3, 0, none⟩) 5 5, hello5⟩] #[.string ⟨#[105, 50]⟩, .slice ra 15 rc, .string ⟨#[99, 49]⟩, .slice (some ⟨hb, 0, none⟩) 5 5, .string ⟨#[99, 51]⟩, .slice (some ⟨h3, 0, none⟩) 5 5] 71 3 rfl rfl (by decide) hok
  refine (none5_by _ (hE.below hb2) _ _ hF 2 (by unfold isI64; decide) [(nI2, rawB 2 1 nK 3 1 4), nP, (nC3, hello5)] rfl (fun x hx => ?_) e12).mono fun e w' he => ⟨he.1, hb2.trans (he.2.mono hb2.size)⟩
  simp only [List.mem_cons, List.not_mem_nil, or_false] at hx
  rcases hx with rfl | rfl | rfl
  · exact (by rw [rwj_len]; decide : (rawB 2 1 nK 3 1 4).length ≤ 3000)
  · exact of_decide_eq_true rfl
  · exact of_decide_eq_true rfl
/-- a constant's bytes, made ahead: what the conversion makes of the world. -/
theorem conv_late (u : World) (b : Nat) (C : Array Value) (n c : Nat) (hb : u.heap[b]? = some (.cells C 5)) :
    ∃ W, Sem.run Tryz.prog (convert 25 25 (.slice (some ⟨b, 0, none⟩) n c)) u = Result.ok (.slice (some ⟨b, 0, none⟩) n c) W ∧ (∀ a, W.cell? a = u.cell? a) ∧ Below b u W := by
  have hsh : u.shape? b = some (5, C.size) := by unfold World.shape?; rw [hb]
  refine ⟨u.freeze ⟨b, C.size, none⟩ 1, ?_, fun a => ?_, ?_⟩
  · simp [convert, run_underlying Tryz.underlying25, run_underlying Tryz.underlying5, markStringish, hsh, Result.andThen]
  · unfold World.cell? World.freeze
    rw [if_neg (by decide)]
    by_cases ha : a.block = b
    · simp [Array.getElem?_modify, ha, hb]
    · simp [Array.getElem?_modify, Ne.symm ha]
  · refine ⟨rfl, rfl, rfl, by simp [World.freeze], fun k hk => ?_⟩
    have hne : b ≠ k := by omega
    simp [World.freeze, Array.getElem?_modify, hne]
theorem Rd.cells_eq {u W : World} (h : ∀ a, W.cell? a = u.cell? a) {v : Value} {xs : List Value} (hr : Rd u v xs) : Rd W v xs := by
  rcases hr with hr | ⟨b, off, n, c, e, hl, hc⟩
  · exact Or.inl hr
  · exact Or.inr ⟨b, off, n, c, e, hl, fun j x hj => (h _).trans (hc j x hj)⟩
theorem none_what (u : World) (hE : WEnv u) (hb : Nat) (hh : Rd u (.slice (some ⟨hb, 0, none⟩) 5 5) (bcells hello5)) :
    Calls Tryz.prog 43 #[.int .i64 2, .slice (some ⟨u.heap.size + 1, 0, none⟩) 2 2] ((u.alloc (.cells #[.int .u8 119, .int .u8 104, .int .u8 97, .int .u8 116] 5 (4, 5))).alloc (.cells #[.string ⟨#[105, 50]⟩, .slice (some ⟨u.heap.size, 0, none⟩) 4 4, .string ⟨#[99, 49]⟩, .slice (some ⟨hb, 0, none⟩) 5 5] 71)) fun e w' => e = .returned (.bool true) ∧ Below u.heap.size u w' := by
  have hb1 : Below u.heap.size u (u.alloc (.cells #[.int .u8 119, .int .u8 104, .int .u8 97, .int .u8 116] 5 (4, 5))) := (Below.refl _ _).alloc (Nat.le_refl _) _
  have hs1 : (u.alloc (.cells #[.int .u8 119, .int .u8 104, .int .u8 97, .int .u8 116] 5 (4, 5))).heap.size = u.heap.size + 1 := by simp
  have h3 := Rd_new u #[.int .u8 119, .int .u8 104, .int .u8 97, .int .u8 116] 5 (4, 5) (bcells [119, 104, 97, 116]) 4 4 rfl rfl
  obtain ⟨W, hW⟩ : ∃ y, u.alloc (.cells #[.int .u8 119, .int .u8 104, .int .u8 97, .int .u8 116] 5 (4, 5)) = y := ⟨_, rfl⟩
  rw [hW] at hb1 hs1 h3 ⊢
  rw [← hs1]
  exact (none_raw W (hE.below hb1) (some ⟨u.heap.size, 0, none⟩) 4 4 hb [119, 104, 97, 116] h3 (hh.below hb1) (by decide) 2 (by unfold isI64; decide) e14).mono fun e w' he => ⟨he.1, hb1.trans (he.2.mono hb1.size)⟩
theorem none_nil (u : World) (hE : WEnv u) : Calls Tryz.prog 43 #[.int .i64 2, .slice none 0 0] u fun e w' => e = .returned (.bool true) ∧ Below u.heap.size u w' :=
  none5_by u hE _ [] (Or.inl ⟨Or.inl rfl, rfl⟩) 2 (by unfold isI64; decide) [] rfl (fun x hx => by cases hx) e1
end Go.Proofs.YtbepcjajbcecnaaGreatDoor
