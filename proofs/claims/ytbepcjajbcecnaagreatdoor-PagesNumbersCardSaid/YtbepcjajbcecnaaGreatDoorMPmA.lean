/-
  The journal's walks: the library's tables; a segment's name and number.
-/
import Derived.Outline
import Derived.BigQuiet
import Derived.Deep.QuietTactic
import Derived.Deep.RegionHeld3
import Derived.Lib.LaidTab
import Derived.Lib.AppendIntMem
import Derived.Shelf.Strconv.ErrVarAll
import Derived.Test.YtbepcjajbcecnaaGreatDoorMShA
import Derived.Test.YtbepcjajbcecnaaGreatDoorMWlA
import Derived.Test.YtbepcjajbcecnaaGreatDoorMLoA
import Derived.Test.YtbepcjajbcecnaaGreatDoorMByA
import Derived.Maps.RangeWalk
import Derived.Laws.RangeAny
import Derived.Test.YtbepcjajbcecnaaGreatDoorMPgA
namespace Go.Proofs.YtbepcjajbcecnaaGreatDoor
open Go.RowKit Go.Maps Go.MapKept

/-- the library's tables, as their initialisers lay them. -/
structure WEnv (w : World) : Prop where
  tab : Lib.TabIs Tryz.prog w "internal/strconv.uint64pow10" .u64 Lib.pow10Tab
  syn : ∃ tp p, w.var? Tryz.prog "strconv.ErrSyntax" = some #[.iface tp p]
  rng : ∃ tp p, w.var? Tryz.prog "strconv.ErrRange" = some #[.iface tp p]
theorem gTab_is : Tryz.prog.globalNamed "internal/strconv.uint64pow10" = some 1 := by kernel_rfl
theorem gSyn_is : Tryz.prog.globalNamed "strconv.ErrSyntax" = some 2 := by kernel_rfl
theorem gRng_is : Tryz.prog.globalNamed "strconv.ErrRange" = some 3 := by kernel_rfl
/-- the tables are among the blocks that are kept. -/
structure GlIn (ex : Nat → Prop) : Prop where
  tab : ex 1
  syn : ex 2
  rng : ex 3
theorem GlIn.mono {ex ex' : Nat → Prop} (h : GlIn ex) (hm : ∀ k, ex k → ex' k) : GlIn ex' := ⟨hm _ h.tab, hm _ h.syn, hm _ h.rng⟩
theorem var_keep {ex : Nat → Prop} {w w' : World} (h : Keep ex w w') {n : String} {g : Nat} (hg : Tryz.prog.globalNamed n = some g) (hx : ex g) : w'.var? Tryz.prog n = w.var? Tryz.prog n := by
  unfold World.var?
  rw [hg]
  simp only [Option.bind_some]
  rw [h.block g hx]
theorem WEnv.keep {ex : Nat → Prop} {w w' : World} (h : WEnv w) (hk : Keep ex w w') (hg : GlIn ex) : WEnv w' := by
  refine ⟨?_, ?_, ?_⟩
  · unfold Lib.TabIs; rw [var_keep hk gTab_is hg.tab]; exact h.tab
  · rw [var_keep hk gSyn_is hg.syn]; exact h.syn
  · rw [var_keep hk gRng_is hg.rng]; exact h.rng
theorem var_lt {w : World} {n : String} {g : Nat} {x : Array Value} (hg : Tryz.prog.globalNamed n = some g) (h : w.var? Tryz.prog n = some x) : g < w.heap.size := by
  unfold World.var? at h
  rw [hg] at h
  simp only [Option.bind_some] at h
  rcases Nat.lt_or_ge g w.heap.size with h' | h'
  · exact h'
  · rw [Array.getElem?_eq_none h'] at h; cases h
theorem WEnv.lt {w : World} (h : WEnv w) : GlIn (fun k => k < w.heap.size) := by
  obtain ⟨_, _, hs⟩ := h.syn
  obtain ⟨_, _, hr⟩ := h.rng
  exact ⟨var_lt gTab_is h.tab, var_lt gSyn_is hs, var_lt gRng_is hr⟩
theorem WEnv.below {w w' : World} (h : WEnv w) (hb : Below w.heap.size w w') : WEnv w' := h.keep (Keep.ofBelow hb (fun _ hk => hk)) h.lt
theorem WEnv.drew {w : World} (h : WEnv w) : WEnv w.drew := h.below ((Below.refl _ _).drew)
theorem WEnv.alloc {w : World} (h : WEnv w) (o : Obj) : WEnv (w.alloc o) := h.below ((Below.refl _ _).alloc (Nat.le_refl _) o)

end Go.Proofs.YtbepcjajbcecnaaGreatDoor

/-
  Ranging over a map and over a string: the laws for the walk.
-/
namespace Go.Proofs.YtbepcjajbcecnaaGreatDoor
open Go.RowKit Go.Maps Go.MapKept
open Go.ChangeMaps (setBlock)

/-- a range over a map is under way: block r its iterator; cnt entries are still to come. -/
def RangeIs (P : Program) (k : TypeId) (w : World) (b r n : Nat) (g : Value → Option Value) (cnt : Nat) : Prop :=
  ∃ es clock since seen c0, w.heap[b]? = some (.map es clock) ∧ es.size = n ∧ n ≤ maxLen ∧ Stamped es clock ∧ (∀ x ∈ es.toList, ∃ l, keyOf P k x.key = some l) ∧ (∀ key v, g key = some v ↔ ∃ x ∈ es.toList, x.key = key ∧ x.val = v) ∧
    w.heap[r]? = some (.mapIter (some b) since seen c0) ∧ (∀ x ∈ es.toList, x.born < since) ∧ (leftOf es seen).size = cnt ∧ since ≤ c0 ∧ since ≤ clock

section
variable {P : Program} {k : TypeId} {w : World} {b r n : Nat} {g : Value → Option Value} {cnt : Nat}
theorem RangeIs.upd {fp : Nat → Prop} {w' : World} (h : RangeIs P k w b r n g cnt) (hu : Upd fp w w') (h1 : ¬ fp b) (h2 : ¬ fp r) : RangeIs P k w' b r n g cnt := by
  obtain ⟨es, clock, since, seen, c0, hb, q2, q3, q4, q5, q6, hr, rest⟩ := h
  exact ⟨es, clock, since, seen, c0, hu.keep hb h1, q2, q3, q4, q5, q6, hu.keep hr h2, rest⟩
theorem RangeIs.left (h : RangeIs P k w b r n g cnt) : w.rangeLeft b r = cnt := by
  obtain ⟨es, clock, since, seen, c0, hb, _, _, _, _, _, hr, _, hc, _⟩ := h
  simp only [World.rangeLeft, hb, hr]
  exact hc
theorem MapIs.range {t e : TypeId} (h : MapIs P k w b n g) (ht : P.underlying t = some (.map k e)) :
    ∃ w', (Instr.range t (.map (some b))).run P w = .ok (.pointer (some ⟨w.heap.size, 0, none⟩)) w' ∧ RangeIs P k w' b w.heap.size n g n ∧ Below w.heap.size w w' ∧ w'.heap.size = w.heap.size + 1 := by
  have hlt := h.lt
  obtain ⟨es, clock, hb, hn, hm, hst, hks, hg⟩ := h
  refine ⟨_, run_range_map w t k e b es clock ht hb, ⟨es, clock, clock, #[], clock, alloc_old hb _, hn, hm, hst, hks, hg, alloc_at _ _, hst.1, ?_, Nat.le_refl _, Nat.le_refl _⟩, (Below.refl _ _).alloc (Nat.le_refl _) _, by simp⟩
  subst hn
  simp [leftOf]
theorem RangeIs.next (h : RangeIs P k w b r n g cnt) (ty : TypeId) :
    (cnt = 0 ∧ (Instr.next (.pointer (some ⟨r, 0, none⟩)) false ty).run P w = .ok (.tuple #[.bool false]) w) ∨
    ∃ key v w' cnt', g key = some v ∧ (Instr.next (.pointer (some ⟨r, 0, none⟩)) false ty).run P w = .ok (.tuple #[.bool true, key, v]) w' ∧ RangeIs P k w' b r n g cnt' ∧ cnt' < cnt ∧ Upd (· = r) w w' ∧
      (Instr.entry (.pointer (some ⟨r, 0, none⟩))).run P w' = .ok (.tuple #[key, v]) w' := by
  obtain ⟨es, clock, since, seen, c0, hb, hn, hm, hst, hks, hg, hr, hold, rfl, hsc, hsk⟩ := h
  have hne : r ≠ b := by
    intro e
    rw [e, hb] at hr
    cases hr
  rcases run_next_at (P := P) w ty r b since c0 seen es clock hr hb hold hsc with ⟨h0, hrun⟩ | ⟨e, he, w1, hal, hrun⟩
  · exact Or.inl ⟨h0, hrun⟩
  · obtain ⟨hem, hes⟩ := mem_left he
    have hr1 : w1.heap[r]? = some (.mapIter (some b) since seen c0) := by rcases hal with rfl | rfl <;> exact hr
    have hb1 : w1.heap[b]? = some (.map es clock) := by rcases hal with rfl | rfl <;> exact hb
    have hset := heap_set (o' := .mapIter (some b) since (seen.push e.born) clock) hr1
    have hb' : (setBlock w1 r (.mapIter (some b) since (seen.push e.born) clock)).heap[b]? = some (.map es clock) := (hset.2 b (fun e1 => hne e1.symm)).trans hb1
    refine Or.inr ⟨e.key, e.val, _, _, (hg _ _).2 ⟨e, hem, rfl, rfl⟩, hrun, ⟨es, clock, since, seen.push e.born, clock, hb', hn, hm, hst, hks, hg, hset.1, hold, rfl, hsk, hsk⟩, left_shrinks es seen e he, ?_,
      run_entry_at _ r b since seen es clock e hset.1 hb' hem ((stamped_iff es clock).1 hst).2.1⟩
    rcases hal with rfl | rfl <;> exact ⟨rfl, rfl, rfl, by simp [setBlock], fun i _ hi => hset.2 i (fun e1 => hi e1)⟩

variable {ops : Array Oper} {rest : List Oper} {o : Oper} {a : Act} {Q : Exit → Act → World → Prop}
end
end Go.Proofs.YtbepcjajbcecnaaGreatDoor

/-
  A range over a map, all of whose entries come: what is still to come is told by a set of keys.
-/
namespace Go.Proofs.YtbepcjajbcecnaaGreatDoor
open Go.RowKit Go.Maps Go.MapKept
open Go.ChangeMaps (setBlock)

/-- a range is under way; R: the keys still to come. -/
def RangeOf (P : Program) (k : TypeId) (w : World) (b r n : Nat) (g : Value → Option Value) (cnt : Nat) (R : Value → Prop) : Prop :=
  ∃ es clock since seen c0, w.heap[b]? = some (.map es clock) ∧ es.size = n ∧ n ≤ maxLen ∧ Stamped es clock ∧ (∀ x ∈ es.toList, ∃ l, keyOf P k x.key = some l) ∧ (∀ key v, g key = some v ↔ ∃ x ∈ es.toList, x.key = key ∧ x.val = v) ∧
    w.heap[r]? = some (.mapIter (some b) since seen c0) ∧ (∀ x ∈ es.toList, x.born < since) ∧ (leftOf es seen).size = cnt ∧ since ≤ c0 ∧ since ≤ clock ∧ ∀ key, R key ↔ ∃ x ∈ (leftOf es seen).toList, x.key = key
section
variable {P : Program} {k : TypeId} {w : World} {b r n : Nat} {g : Value → Option Value} {cnt : Nat} {R : Value → Prop}
theorem RangeOf.is (h : RangeOf P k w b r n g cnt R) : RangeIs P k w b r n g cnt := by
  obtain ⟨es, clock, since, seen, c0, h1, h2, h3, h4, h5, h6, h7, h8, h9, h10, h11, _⟩ := h
  exact ⟨es, clock, since, seen, c0, h1, h2, h3, h4, h5, h6, h7, h8, h9, h10, h11⟩
theorem RangeOf.upd {fp : Nat → Prop} {w' : World} (h : RangeOf P k w b r n g cnt R) (hu : Upd fp w w') (h1 : ¬ fp b) (h2 : ¬ fp r) : RangeOf P k w' b r n g cnt R := by
  obtain ⟨es, clock, since, seen, c0, hb, q2, q3, q4, q5, q6, hr, rest⟩ := h
  exact ⟨es, clock, since, seen, c0, hu.keep hb h1, q2, q3, q4, q5, q6, hu.keep hr h2, rest⟩
theorem MapIs.rangeOf {t e : TypeId} (h : MapIs P k w b n g) (ht : P.underlying t = some (.map k e)) :
    ∃ w', (Instr.range t (.map (some b))).run P w = .ok (.pointer (some ⟨w.heap.size, 0, none⟩)) w' ∧ RangeOf P k w' b w.heap.size n g n (fun key => (g key).isSome = true) ∧ Below w.heap.size w w' ∧ w'.heap.size = w.heap.size + 1 := by
  have hlt := h.lt
  obtain ⟨es, clock, hb, hn, hm, hst, hks, hg⟩ := h
  refine ⟨_, run_range_map w t k e b es clock ht hb, ⟨es, clock, clock, #[], clock, alloc_old hb _, hn, hm, hst, hks, hg, alloc_at _ _, hst.1, ?_, Nat.le_refl _, Nat.le_refl _, fun key => ?_⟩, (Below.refl _ _).alloc (Nat.le_refl _) _, by simp⟩
  · subst hn
    simp [leftOf]
  · have hl : leftOf es #[] = es := by simp [leftOf]
    rw [hl]
    constructor
    · intro h
      obtain ⟨v, hv⟩ := Option.isSome_iff_exists.1 h
      obtain ⟨x, hx, e1, _⟩ := (hg _ _).1 hv
      exact ⟨x, hx, e1⟩
    · rintro ⟨x, hx, e1⟩
      rw [(hg key x.val).2 ⟨x, hx, e1, rfl⟩]; rfl
theorem RangeOf.next (h : RangeOf P k w b r n g cnt R) (ty : TypeId) :
    (cnt = 0 ∧ (∀ key, ¬ R key) ∧ (Instr.next (.pointer (some ⟨r, 0, none⟩)) false ty).run P w = .ok (.tuple #[.bool false]) w) ∨
    ∃ key v w' cnt' R', g key = some v ∧ (Instr.next (.pointer (some ⟨r, 0, none⟩)) false ty).run P w = .ok (.tuple #[.bool true, key, v]) w' ∧ RangeOf P k w' b r n g cnt' R' ∧ cnt' < cnt ∧ (∀ x, R x → x = key ∨ R' x) ∧ Upd (· = r) w w' ∧
      (Instr.entry (.pointer (some ⟨r, 0, none⟩))).run P w' = .ok (.tuple #[key, v]) w' := by
  obtain ⟨es, clock, since, seen, c0, hb, hn, hm, hst, hks, hg, hr, hold, rfl, hsc, hsk, hR⟩ := h
  have hne : r ≠ b := by
    intro e
    rw [e, hb] at hr
    cases hr
  rcases run_next_at (P := P) w ty r b since c0 seen es clock hr hb hold hsc with ⟨h0, hrun⟩ | ⟨e, he, w1, hal, hrun⟩
  · refine Or.inl ⟨h0, fun key hk => ?_, hrun⟩
    obtain ⟨x, hx, _⟩ := (hR key).1 hk
    have : (leftOf es seen).toList = [] := List.eq_nil_of_length_eq_zero (by rw [Array.length_toList]; exact h0)
    rw [this] at hx
    cases hx
  · obtain ⟨hem, hes⟩ := mem_left he
    have hr1 : w1.heap[r]? = some (.mapIter (some b) since seen c0) := by rcases hal with rfl | rfl <;> exact hr
    have hb1 : w1.heap[b]? = some (.map es clock) := by rcases hal with rfl | rfl <;> exact hb
    have hset := heap_set (o' := .mapIter (some b) since (seen.push e.born) clock) hr1
    have hb' : (setBlock w1 r (.mapIter (some b) since (seen.push e.born) clock)).heap[b]? = some (.map es clock) := (hset.2 b (fun e1 => hne e1.symm)).trans hb1
    refine Or.inr ⟨e.key, e.val, _, _, fun key => ∃ x ∈ (leftOf es (seen.push e.born)).toList, x.key = key, (hg _ _).2 ⟨e, hem, rfl, rfl⟩, hrun, ⟨es, clock, since, seen.push e.born, clock, hb', hn, hm, hst, hks, hg, hset.1, hold, rfl, hsk, hsk, fun _ => Iff.rfl⟩, left_shrinks es seen e he, ?_, ?_,
      run_entry_at _ r b since seen es clock e hset.1 hb' hem ((stamped_iff es clock).1 hst).2.1⟩
    · intro key hk
      obtain ⟨x, hx, rfl⟩ := (hR key).1 hk
      obtain ⟨hx1, hx2⟩ := mem_left hx
      by_cases hxe : x.born = e.born
      · left
        have hnd := ((stamped_iff es clock).1 hst).2.1
        have : x = e := by
          obtain ⟨i, hi, ei⟩ := List.getElem_of_mem hx1
          obtain ⟨j, hj, ej⟩ := List.getElem_of_mem hem
          have hij : (es.toList.map (·.born))[i]'(by simpa using hi) = (es.toList.map (·.born))[j]'(by simpa using hj) := by simp only [List.getElem_map, ei, ej, hxe]
          have hije : i = j := by
            rcases Nat.lt_trichotomy i j with h | h | h
            · exact absurd hij (List.pairwise_iff_getElem.1 hnd i j _ _ h)
            · exact h
            · exact absurd hij.symm (List.pairwise_iff_getElem.1 hnd j i _ _ h)
          subst hije
          rw [← ei, ← ej]
        rw [this]
      · right
        refine ⟨x, Array.mem_toList_iff.2 (Array.mem_filter.2 ⟨Array.mem_toList_iff.1 hx1, ?_⟩), rfl⟩
        rw [contains_push, hx2]
        simpa using hxe
    · rcases hal with rfl | rfl <;> exact ⟨rfl, rfl, rfl, by simp [setBlock], fun i _ hi => hset.2 i (fun e1 => hi e1)⟩

variable {ops : Array Oper} {rest : List Oper} {o : Oper} {a : Act} {Q : Exit → Act → World → Prop}
theorem wpList_range_of (hg : o.guard = none) (m : Operand) (t : TypeId) (hop : o.op = Op.range t m) (e : TypeId) (ht : P.underlying t = some (.map k e)) (hm : a.eval m = .map (some b)) (h : MapIs P k w b n g)
    (hK : ∀ w', RangeOf P k w' b w.heap.size n g n (fun key => (g key).isSome = true) → Below w.heap.size w w' → w'.heap.size = w.heap.size + 1 → wpList P ops Q rest (a.put o.dst (.pointer (some ⟨w.heap.size, 0, none⟩))) w') : wpList P ops Q (o :: rest) a w := by
  refine wpList_plain hg fun K' hK' => ?_
  obtain ⟨w', hrun, r1, r2, r3⟩ := h.rangeOf ht
  unfold Oper.wp
  simp [execOp, hop, hm, hrun, Result.andThen]
  exact hK' _ _ (hK w' r1 r2 r3)
theorem wpList_next_of (hg : o.guard = none) (it : Operand) (hop : o.op = Op.next it false) (hit : a.eval it = .pointer (some ⟨r, 0, none⟩)) (h : RangeOf P k w b r n g cnt R)
    (hDone : cnt = 0 → (∀ key, ¬ R key) → wpList P ops Q rest (a.put o.dst (.tuple #[.bool false])) w)
    (hMore : ∀ key v w' cnt' R', g key = some v → RangeOf P k w' b r n g cnt' R' → cnt' < cnt → (∀ x, R x → x = key ∨ R' x) → Upd (· = r) w w' → (Instr.entry (.pointer (some ⟨r, 0, none⟩))).run P w' = .ok (.tuple #[key, v]) w' → wpList P ops Q rest (a.put o.dst (.tuple #[.bool true, key, v])) w') : wpList P ops Q (o :: rest) a w := by
  refine wpList_plain hg fun K' hK' => ?_
  unfold Oper.wp
  rcases h.next o.type with ⟨h0, hR, hrun⟩ | ⟨key, v, w', cnt', R', hgk, hrun, hrg, hlt, hcov, hu, hen⟩
  · simp [execOp, hop, hit, hrun, Result.andThen]
    exact hK' _ _ (hDone h0 hR)
  · simp [execOp, hop, hit, hrun, Result.andThen]
    exact hK' _ _ (hMore key v w' cnt' R' hgk hrg hlt hcov hu hen)
end
end Go.Proofs.YtbepcjajbcecnaaGreatDoor

/-
  The pages' walks: a file's name and number; what is a key.
-/
namespace Go.Proofs.YtbepcjajbcecnaaGreatDoor
open Go.RowKit Go.Maps Go.MapKept
set_option linter.unusedSimpArgs false

theorem pgName_cat (c : UInt8) (n : Nat) : (⟨#[c]⟩ : ByteArray) ++ ⟨(Lib.decDigits n).toArray⟩ = pgName c n := by
  have := ByteArray.mk_append_mk [c] (Lib.decDigits n)
  rw [show (⟨#[c]⟩ : ByteArray) = ByteArray.mk [c].toArray from rfl, this]
  rfl
set_option maxRecDepth 100000 in
set_option maxHeartbeats 4000000 in
theorem pgfile_any (w : World) (c : UInt8) (n : Nat) (hn : n ≤ 9007199254740993) (hE : WEnv w) :
    Calls Tryz.prog 52 #[.string ⟨#[c]⟩, .int .i64 n] w fun e w' => e = .returned (.string (pgName c n)) ∧ Below w.heap.size w w' := by
  have hI := Tryz.strconv_Itoa (n : Int) (by omega) (by omega) w hE.tab
  rw [Lib.itoa_nonneg] at hI
  have HI := Lib.hid hI
  have hc := pgName_cat c n
  have hsz : (⟨(Lib.decDigits n).toArray⟩ : ByteArray).size ≤ 100 := by
    have := nDig_le n 16 (by omega) (Nat.lt_of_le_of_lt hn (by decide))
    show (Lib.decDigits n).toArray.size ≤ 100
    rw [List.size_toArray, Lib.decDigits_length]; omega
  generalize (⟨(Lib.decDigits n).toArray⟩ : ByteArray) = x at hc hsz HI
  have hl : (⟨#[c]⟩ : ByteArray).size = 1 := rfl
  generalize (⟨#[c]⟩ : ByteArray) = lt at hc hl
  have HC := Lib.hid hc
  clear hI hc
  go_enter Tryz.func52, Tryz.ntmps52
  go_wp2_with (go_at_call 97; refine HI.out.mono ?_; rintro e w1 ⟨rfl, k, os, rfl⟩)
  go_ret
  exact ⟨by rw [← HC.out]; rfl, Lib.below_grow _ _ (Nat.le_refl _) _ _⟩
theorem empty_iff (s : ByteArray) : s = ⟨#[]⟩ ↔ s.size = 0 := by
  constructor
  · rintro rfl; rfl
  · intro h
    apply bytes_ext
    have : s.data.toList.length = 0 := by simpa using h
    rw [List.eq_nil_of_length_eq_zero this]
set_option maxHeartbeats 4000000 in
theorem pgkey_any (w : World) (s : ByteArray) (_hs : s.size ≤ maxLen) :
    Calls Tryz.prog 64 #[.string s] w fun e w' => e = .returned (.bool (okKey s)) ∧ w = w' := by
  by_cases h0 : s.size = 0
  · obtain rfl := (empty_iff s).2 h0
    clear h0
    go_enter Tryz.func64, Tryz.ntmps64
    go_wp2
    go_ret
    exact ⟨rfl, rfl⟩
  · have he : s.toList.isEmpty = false := by
      rw [ByteArray.toList_eq, List.isEmpty_eq_false_iff]
      intro e
      exact h0 (by have := congrArg List.length e; simpa using this)
    by_cases h60 : s.size ≤ 60
    · have hok : okKey s = true := by rw [okKey, decide_eq_true (by omega : 0 < s.size), decide_eq_true h60]; rfl
      have hi : (s.size : Int) ≤ 60 := by omega
      rw [hok]
      clear hok
      go_enter Tryz.func64, Tryz.ntmps64
      go_wp2
      go_ret
      exact ⟨rfl, rfl⟩
    · have hok : okKey s = false := by rw [okKey, decide_eq_false h60, Bool.and_false]
      have hi : ¬ (s.size : Int) ≤ 60 := by omega
      rw [hok]
      clear hok
      go_enter Tryz.func64, Tryz.ntmps64
      go_wp2
      go_ret
      exact ⟨rfl, rfl⟩
end Go.Proofs.YtbepcjajbcecnaaGreatDoor

/-
  A store in memory: its keys' map, the commit's packs, its disk.
-/
namespace Go.Proofs.YtbepcjajbcecnaaGreatDoor
open Go.RowKit Go.Maps Go.MapKept

theorem DiskAt.more_upd5 {ex ex' fp : Nat → Prop} {w w' : World} {p m : Nat} {d : ADisk} (h : DiskAt ex w p m d) (hu : Upd fp w w') (hb : ∀ k, k < w.heap.size → fp k → ex k) (hx : ∀ k, ex' k → ex k ∨ w.heap.size ≤ k ∧ k < w'.heap.size) : DiskAt ex' w' p m d := by
  obtain ⟨g, hr, hx0⟩ := h
  refine ⟨g, hr.upd hu (fun k hk e => (hx0 k (hb k (hr.lt hk) e)).2 hk), fun k hk => ?_⟩
  rcases hx k hk with hk | ⟨h1, h2⟩
  · exact ⟨Nat.lt_of_lt_of_le (hx0 k hk).1 hu.size, (hx0 k hk).2⟩
  · exact ⟨h2, fun hd => by have := hr.lt hd; omega⟩
theorem Keep.toUpd5 {ex : Nat → Prop} {w w' : World} (h : Keep ex w w') : Upd (fun k => ¬ ex k) w w' := ⟨h.os, h.tape, h.output, h.size, fun k _ hn => h.block k (Classical.not_not.1 hn)⟩

/-- keys in memory: a map; the blobs' bytes lie in blocks of S. -/
structure KeysAt (w : World) (mk : Nat) (S : Nat → Prop) (g : Value → Option Value) (l : List (ByteArray × ABlob)) : Prop where
  map : MapIs Tryz.prog 9 w mk l.length g
  dom : ∀ key v, g key = some v → ∃ s x, key = .string s ∧ kB l s = some x
  val : ∀ s x, kB l s = some x → ∃ vb, g (.string s) = some (.agg #[vb, .int .i64 x.pack, .int .i64 x.pos]) ∧ Rd w vb (bcells x.b) ∧ ∀ k, vb.ownBlock = some k → S k
structure HeldAt (w : World) (mh : Nat) (l : List Nat) : Prop where
  map : ∃ g, MapIs Tryz.prog 3 w mh l.length g ∧ (∀ key v, g key = some v → ∃ n : Nat, key = .int .i64 n ∧ n ∈ l) ∧ ∀ n : Nat, n ∈ l → g (.int .i64 n) = some (.int .i64 1)
def storeCells (p mk mh : Nat) (st : AStore) : Array Value := #[.pointer (some ⟨p, 0, none⟩), .int .i64 st.k, .map (some mk), .map (some mh), .bool st.over]
/-- a store: its block, its maps, its blobs' blocks, its disk; apart from the blocks of ex. -/
structure StoreV (ex : Nat → Prop) (w : World) (q p m : Nat) (d : ADisk) (st : AStore) (mk mh : Nat) (S : Nat → Prop) (g : Value → Option Value) : Prop where
  blk : w.heap[q]? = some (.cells (storeCells p mk mh st) 59 (0, 0))
  keys : KeysAt w mk S g st.keys
  held : HeldAt w mh st.held
  disk : DiskAt (fun k => ex k ∨ k = q ∨ k = mk ∨ k = mh ∨ S k) w p m d
  own : ¬ ex q ∧ ¬ ex mk ∧ ¬ ex mh
  ownS : ∀ k, S k → ¬ ex k ∧ k ≠ q ∧ k ≠ mk ∧ k ≠ mh
  ne : q ≠ mk ∧ q ≠ mh ∧ mk ≠ mh
def StoreAt (ex : Nat → Prop) (w : World) (q p m : Nat) (d : ADisk) (st : AStore) : Prop := ∃ mk mh S g, StoreV ex w q p m d st mk mh S g
/-- numbers that may be. -/
structure AStore.Ok (st : AStore) : Prop where
  k : st.k ≤ 9007199254740992
  count : st.keys.length ≤ 4096
  sorted : SortedB st.keys
  blob : ∀ p ∈ st.keys, p.2.pack ≤ 9007199254740992 ∧ (p.2.pack ≠ 0 → p.2.pos ≤ 9007199254740992) ∧ p.2.b.length ≤ 1048576 ∧ p.1.size ≤ 60
theorem KeysAt.upd {fp : Nat → Prop} {w w' : World} {mk : Nat} {S : Nat → Prop} {g : Value → Option Value} {l : List (ByteArray × ABlob)} (h : KeysAt w mk S g l) (hu : Upd fp w w') (h1 : ¬ fp mk) (h2 : ∀ k, S k → ¬ fp k) : KeysAt w' mk S g l :=
  ⟨h.map.upd hu h1, h.dom, fun s x hx => by obtain ⟨vb, a1, a2, a3⟩ := h.val s x hx; exact ⟨vb, a1, a2.keep hu (fun k hk => h2 k (a3 k hk)), a3⟩⟩
theorem HeldAt.upd {fp : Nat → Prop} {w w' : World} {mh : Nat} {l : List Nat} (h : HeldAt w mh l) (hu : Upd fp w w') (h1 : ¬ fp mh) : HeldAt w' mh l := by
  obtain ⟨g, a1, a2, a3⟩ := h.map
  exact ⟨g, a1.upd hu h1, a2, a3⟩
theorem cells5 {w : World} {b : Nat} {x0 x1 x2 x3 x4 : Value} {T : TypeId} (h : w.heap[b]? = some (.cells #[x0, x1, x2, x3, x4] T (0, 0))) :
    w.cell? ⟨b, 0, none⟩ = some x0 ∧ w.cell? ⟨b, 1, none⟩ = some x1 ∧ w.cell? ⟨b, 2, none⟩ = some x2 ∧ w.cell? ⟨b, 3, none⟩ = some x3 ∧ w.cell? ⟨b, 4, none⟩ = some x4 ∧
      w.frozen? ⟨b, 1, none⟩ = false ∧ w.frozen? ⟨b, 2, none⟩ = false ∧ w.frozen? ⟨b, 3, none⟩ = false ∧ w.frozen? ⟨b, 4, none⟩ = false := by
  refine ⟨by rw [cell_at h]; rfl, by rw [cell_at h]; rfl, by rw [cell_at h]; rfl, by rw [cell_at h]; rfl, by rw [cell_at h]; rfl, ?_, ?_, ?_, ?_⟩ <;> simp [World.frozen?, h]
namespace StoreV
variable {ex ex' : Nat → Prop} {w w' : World} {q p m : Nat} {d : ADisk} {st : AStore} {mk mh : Nat} {S : Nat → Prop} {g : Value → Option Value}
theorem lt (h : StoreV ex w q p m d st mk mh S g) {k : Nat} (hk : ex k) : k < w.heap.size := h.disk.lt (Or.inl hk)
theorem q_lt (h : StoreV ex w q p m d st mk mh S g) : q < w.heap.size := blk_lt h.blk
theorem mk_lt (h : StoreV ex w q p m d st mk mh S g) : mk < w.heap.size := h.keys.map.lt
theorem mh_lt (h : StoreV ex w q p m d st mk mh S g) : mh < w.heap.size := by obtain ⟨g, a1, _⟩ := h.held.map; exact a1.lt
theorem s_lt (h : StoreV ex w q p m d st mk mh S g) {k : Nat} (hk : S k) : k < w.heap.size := h.disk.lt (Or.inr (Or.inr (Or.inr (Or.inr hk))))
theorem upd {fp : Nat → Prop} (h : StoreV ex w q p m d st mk mh S g) (hu : Upd fp w w') (hf : ∀ k, fp k → ex k) : StoreV ex w' q p m d st mk mh S g :=
  ⟨(hu.block q h.q_lt (fun e => h.own.1 (hf _ e))).trans h.blk, h.keys.upd hu (fun e => h.own.2.1 (hf _ e)) (fun k hk e => (h.ownS k hk).1 (hf _ e)), h.held.upd hu (fun e => h.own.2.2 (hf _ e)), h.disk.upd hu (fun k _ hk => Or.inl (hf k hk)), h.own, h.ownS, h.ne⟩
theorem below (h : StoreV ex w q p m d st mk mh S g) (hb : Below w.heap.size w w') : StoreV ex w' q p m d st mk mh S g := h.upd (Upd.ofBelow (fp := noFp) hb) (fun _ h => h.elim)
theorem mono (h : StoreV ex w q p m d st mk mh S g) (hm : ∀ k, ex' k → ex k) : StoreV ex' w q p m d st mk mh S g :=
  ⟨h.blk, h.keys, h.held, h.disk.mono (fun k hk => hk.imp_left (hm k)), ⟨fun e => h.own.1 (hm _ e), fun e => h.own.2.1 (hm _ e), fun e => h.own.2.2 (hm _ e)⟩, fun k hk => ⟨fun e => (h.ownS k hk).1 (hm _ e), (h.ownS k hk).2⟩, h.ne⟩
/-- the caller keeps new blocks, too; blocks of its own are turned. -/
theorem more_upd {fp : Nat → Prop} (h : StoreV ex w q p m d st mk mh S g) (hu : Upd fp w w') (hf : ∀ k, k < w.heap.size → fp k → ex k) (hx : ∀ k, ex' k → ex k ∨ w.heap.size ≤ k ∧ k < w'.heap.size) : StoreV ex' w' q p m d st mk mh S g := by
  have hn : ∀ k, k < w.heap.size → ¬ ex k → ¬ ex' k := fun k hk he e => by
    rcases hx k e with e | e
    · exact he e
    · omega
  refine ⟨(hu.block q h.q_lt (fun e => h.own.1 (hf _ h.q_lt e))).trans h.blk, ?_, ?_, h.disk.more_upd5 hu (fun k hk hk' => Or.inl (hf k hk hk')) (fun k hk => ?_), ⟨hn _ h.q_lt h.own.1, hn _ h.mk_lt h.own.2.1, hn _ h.mh_lt h.own.2.2⟩, fun k hk => ⟨hn k (h.s_lt hk) (h.ownS k hk).1, (h.ownS k hk).2⟩, h.ne⟩
  · exact h.keys.upd hu (fun e => h.own.2.1 (hf _ h.mk_lt e)) (fun k hk e => (h.ownS k hk).1 (hf _ (h.s_lt hk) e))
  · exact h.held.upd hu (fun e => h.own.2.2 (hf _ h.mh_lt e))
  · rcases hk with hk | hk
    · rcases hx k hk with hk | hk
      · exact Or.inl (Or.inl hk)
      · exact Or.inr hk
    · exact Or.inl (Or.inr hk)
theorem more (h : StoreV ex w q p m d st mk mh S g) (hb : Below w.heap.size w w') (hx : ∀ k, ex' k → ex k ∨ w.heap.size ≤ k ∧ k < w'.heap.size) : StoreV ex' w' q p m d st mk mh S g :=
  h.more_upd (Upd.ofBelow (fp := noFp) hb) (fun _ _ h => h.elim) hx
/-- the disk has turned alone. -/
theorem disk_turned {d' : ADisk} (h : StoreV ex w q p m d st mk mh S g) (hd : DiskAt (fun k => ex k ∨ k = q ∨ k = mk ∨ k = mh ∨ S k) w' p m d') (hk : Keep (fun k => ex k ∨ k = q ∨ k = mk ∨ k = mh ∨ S k) w w') : StoreV ex w' q p m d' st mk mh S g ∧ Keep ex w w' := by
  refine ⟨⟨(hk.block q (Or.inr (Or.inl rfl))).trans h.blk, ?_, ?_, hd, h.own, h.ownS, h.ne⟩, hk.mono (fun _ hk => Or.inl hk)⟩
  · exact h.keys.upd hk.toUpd5 (fun e => e (Or.inr (Or.inr (Or.inl rfl)))) (fun k hk e => e (Or.inr (Or.inr (Or.inr (Or.inr hk)))))
  · exact h.held.upd hk.toUpd5 (fun e => e (Or.inr (Or.inr (Or.inr (Or.inl rfl)))))
/-- the store's own block is turned. -/
theorem turned {st' : AStore} (h : StoreV ex w q p m d st mk mh S g) (hu : Upd (· = q) w w') (hb : w'.heap[q]? = some (.cells (storeCells p mk mh st') 59 (0, 0))) (hk : st'.keys = st.keys) (hh : st'.held = st.held) : StoreV ex w' q p m d st' mk mh S g ∧ Keep ex w w' := by
  refine ⟨⟨hb, ?_, ?_, h.disk.upd hu (fun k _ hk => Or.inr (Or.inl hk)), h.own, h.ownS, h.ne⟩, Keep.ofUpd hu (fun k hk => ⟨h.lt hk, fun e => h.own.1 (e ▸ hk)⟩)⟩
  · rw [hk]; exact h.keys.upd hu (fun e => h.ne.1 e.symm) (fun k hk e => (h.ownS k hk).2.1 e)
  · rw [hh]; exact h.held.upd hu (fun e => h.ne.2.1 e.symm)
end StoreV
namespace StoreAt
variable {ex ex' : Nat → Prop} {w w' : World} {q p m : Nat} {d : ADisk} {st : AStore}
theorem lt (h : StoreAt ex w q p m d st) {k : Nat} (hk : ex k) : k < w.heap.size := let ⟨_, _, _, _, hv⟩ := h; hv.lt hk
theorem below (h : StoreAt ex w q p m d st) (hb : Below w.heap.size w w') : StoreAt ex w' q p m d st := let ⟨a, b, c, e, hv⟩ := h; ⟨a, b, c, e, hv.below hb⟩
theorem mono (h : StoreAt ex w q p m d st) (hm : ∀ k, ex' k → ex k) : StoreAt ex' w q p m d st := let ⟨a, b, c, e, hv⟩ := h; ⟨a, b, c, e, hv.mono hm⟩
theorem more (h : StoreAt ex w q p m d st) (hb : Below w.heap.size w w') (hx : ∀ k, ex' k → ex k ∨ w.heap.size ≤ k ∧ k < w'.heap.size) : StoreAt ex' w' q p m d st := let ⟨a, b, c, e, hv⟩ := h; ⟨a, b, c, e, hv.more hb hx⟩
theorem upd {fp : Nat → Prop} (h : StoreAt ex w q p m d st) (hu : Upd fp w w') (hf : ∀ k, fp k → ex k) : StoreAt ex w' q p m d st := let ⟨a, b, c, e, hv⟩ := h; ⟨a, b, c, e, hv.upd hu hf⟩
theorem disk (h : StoreAt ex w q p m d st) : DiskAt ex w p m d := let ⟨_, _, _, _, hv⟩ := h; hv.disk.mono (fun _ hk => Or.inl hk)
end StoreAt
section
variable {ex : Nat → Prop} {w : World} {q p m : Nat} {d : ADisk} {st : AStore}
set_option maxRecDepth 100000 in
set_option maxHeartbeats 1000000 in
theorem pgup_at (h : StoreAt ex w q p m d st) :
    Calls Tryz.prog 47 #[.pointer (some ⟨q, 0, none⟩)] w fun e w' => e = .returned (.int .i64 (if st.over then 16 else 0)) ∧ w = w' := by
  obtain ⟨mk, mh, S, g, hv⟩ := h
  obtain ⟨c0, c1, c2, c3, c4, _⟩ := cells5 hv.blk
  clear hv
  cases ho : st.over with
  | true =>
    rw [ho] at c4
    clear ho
    go_enter Tryz.func47, Tryz.ntmps47
    go_wp2
    go_ret
    exact ⟨rfl, rfl⟩
  | false =>
    rw [ho] at c4
    clear ho
    go_enter Tryz.func47, Tryz.ntmps47
    go_wp2
    go_ret
    exact ⟨rfl, rfl⟩
set_option maxRecDepth 100000 in
set_option maxHeartbeats 1000000 in
theorem pgends_at (er : Int) (h : StoreAt ex w q p m d st) :
    Calls Tryz.prog 57 #[.pointer (some ⟨q, 0, none⟩), .int .i64 er] w fun e w' => e = .returned (.int .i64 er) ∧ StoreAt ex w' q p m d (st.ends er) ∧ Keep ex w w' := by
  obtain ⟨mk, mh, S, g, hv⟩ := h
  obtain ⟨c0, c1, c2, c3, c4, f1, f2, f3, f4⟩ := cells5 hv.blk
  have hb : (w.setCell ⟨q, 4, none⟩ (.bool (decide (er ≠ 0)))).heap[q]? = some (.cells (storeCells p mk mh (st.ends er)) 59 (0, 0)) := by
    rw [setCell_at hv.blk]
    rfl
  have hT := hv.turned (st' := st.ends er) (setCell_upd 4 (.bool (decide (er ≠ 0)))) hb rfl rfl
  have HT := Lib.hid hT
  clear hv hb hT
  go_enter Tryz.func57, Tryz.ntmps57
  go_wp2
  go_ret
  refine ⟨rfl, ?_⟩
  have hbne : (er != 0) = decide (er ≠ 0) := by
    by_cases h0 : er = 0 <;> simp [h0]
  rw [hbne]
  exact ⟨⟨mk, mh, S, g, HT.out.1⟩, HT.out.2⟩
set_option maxRecDepth 100000 in
set_option maxHeartbeats 1000000 in
theorem pgNumber_at (h : StoreAt ex w q p m d st) :
    Calls Tryz.prog 17 #[.pointer (some ⟨q, 0, none⟩)] w fun e w' => e = .returned (.int .i64 st.k) ∧ w = w' := by
  obtain ⟨mk, mh, S, g, hv⟩ := h
  obtain ⟨c0, c1, c2, c3, c4, _⟩ := cells5 hv.blk
  clear hv
  go_enter Tryz.func17, Tryz.ntmps17
  go_wp2
  go_ret
  exact ⟨rfl, rfl⟩
set_option maxRecDepth 100000 in
set_option maxHeartbeats 1000000 in
theorem pgOver_at (h : StoreAt ex w q p m d st) :
    Calls Tryz.prog 30 #[.pointer (some ⟨q, 0, none⟩)] w fun e w' => e = .returned (.bool st.over) ∧ w = w' := by
  obtain ⟨mk, mh, S, g, hv⟩ := h
  obtain ⟨c0, c1, c2, c3, c4, _⟩ := cells5 hv.blk
  clear hv
  go_enter Tryz.func30, Tryz.ntmps30
  go_wp2
  go_ret
  exact ⟨rfl, rfl⟩
end
end Go.Proofs.YtbepcjajbcecnaaGreatDoor

/-
  A store's Get, Keys, Put, Drop.
-/
namespace Go.Proofs.YtbepcjajbcecnaaGreatDoor
open Go.RowKit Go.Maps Go.MapKept
set_option linter.unusedSimpArgs false

set_option maxRecDepth 100000 in
set_option maxHeartbeats 2000000 in
theorem bClone_any (w : World) (v : Value) (l : List UInt8) (hrd : Rd w v (bcells l)) (hl : l.length ≤ 140737488355328) :
    Calls Tryz.prog 65 #[v] w fun e w' => ∃ a c, e = .returned (.slice a l.length c) ∧ w'.ownsRow w.heap.size 5 1 (.slice a l.length c) l.length (bcells l) ∧ Below w.heap.size w w' := by
  obtain ⟨a, c, rfl⟩ := hrd.shape
  rw [bcells_length] at hrd ⊢
  cases a with
  | none =>
    have hl0 : l = [] := by
      rcases hrd with ⟨h | ⟨_, _, h⟩, h0⟩ | ⟨_, _, _, _, h, _⟩
      · simpa [bcells] using h0
      · cases h
      · cases h
    subst hl0
    clear hrd
    have hq := run_eql_slice_nil (P := Tryz.prog) Tryz.underlying25 none 0 c
    go_enter Tryz.func65, Tryz.ntmps65
    go_wp2
    go_ret
    exact ⟨none, 0, rfl, World.ownsRow_nil _ _ _ _, Below.refl _ _⟩
  | some ad =>
    have Hrd := Lib.hid hrd
    clear hrd
    go_enter Tryz.func65, Tryz.ntmps65
    have hq := run_eql_slice_nil (P := Tryz.prog) Tryz.underlying25 (some ad) l.length c
    go_wp2_with (at_builtin; refine append_u8 rfl (.tmp 5) (.tmp 6) rfl (.slice (some ⟨w.heap.size, 0, none⟩) 0 0) (.slice (some ad) l.length c) [] l l rfl rfl (ownsRow_base0 (row_empty w 5 5 rfl)) rfl (Hrd.out.below ((Below.refl _ _).alloc (Nat.le_refl _) _)) (by simp; omega) ?_; intro v' w1 h1 h2 h3 _; obtain ⟨a', c', rfl, _, _, _⟩ := row_slice h1)
    go_ret
    have hB : Below w.heap.size w w1 := (((Upd.refl noFp w).alloc _).grown h2 (fun k hk => Or.inr (by cases hk; exact Nat.le_refl _))).below (fun _ h => h.elim) (Nat.le_refl _)
    refine ⟨a', c', rfl, ownsRow_from h1 (fun g hg => ?_), hB⟩
    rcases h3 with h3 | ⟨g', h3, hg'⟩
    · rw [h3] at hg; cases hg; exact Nat.le_refl _
    · rw [h3] at hg; cases hg; simp at hg'; omega

def zBlob : Value := .agg #[.slice none 0 0, .int .i64 0, .int .i64 0]
theorem zero_blob (w : World) : (zeroValue 104).run Tryz.prog w = .ok zBlob w := by kernel_rfl
/-- a key's bytes; none: it is not there. -/
def AStore.got (st : AStore) (s : ByteArray) : List UInt8 := ((kB st.keys s).map (·.b)).getD []
theorem KeysAt.look {w : World} {mk : Nat} {S : Nat → Prop} {g : Value → Option Value} {l : List (ByteArray × ABlob)} (h : KeysAt w mk S g l) (s : ByteArray) :
    ∃ a n c, ∃ pk ps : Nat, (g (.string s)).getD zBlob = .agg #[.slice a n c, .int .i64 pk, .int .i64 ps] ∧ (g (.string s)).isSome = (kB l s).isSome ∧ Rd w (.slice a n c) (bcells (((kB l s).map (·.b)).getD [])) ∧ n = (((kB l s).map (·.b)).getD []).length := by
  cases hk : kB l s with
  | none =>
    have hg : g (.string s) = none := by
      cases hg : g (.string s) with
      | none => rfl
      | some v => obtain ⟨t, x, e, hx⟩ := h.dom _ _ hg; cases e; rw [hk] at hx; cases hx
    exact ⟨none, 0, 0, 0, 0, by rw [hg]; rfl, by rw [hg]; rfl, rd_none _ _, rfl⟩
  | some x =>
    obtain ⟨vb, h1, h2, _⟩ := h.val s x hk
    obtain ⟨a, c, rfl⟩ := h2.shape
    rw [bcells_length] at h1 h2
    exact ⟨a, _, c, x.pack, x.pos, by rw [h1]; rfl, by rw [h1]; rfl, h2, rfl⟩
section
variable {ex : Nat → Prop} {w : World} {q p m : Nat} {d : ADisk} {st : AStore}
def GetPost (w : World) (l : List UInt8) (ok : Bool) (e : Ending) (w' : World) : Prop :=
  ∃ a c, e = .returned (.tuple #[.slice a l.length c, .bool ok]) ∧ w'.ownsRow w.heap.size 5 1 (.slice a l.length c) l.length (bcells l) ∧ Below w.heap.size w w'
set_option maxRecDepth 100000 in
set_option maxHeartbeats 2000000 in
theorem pgGet_at (h : StoreAt ex w q p m d st) (s : ByteArray) (hs : s.size ≤ maxLen) (hb : (st.got s).length ≤ 1048576) :
    Calls Tryz.prog 28 #[.pointer (some ⟨q, 0, none⟩), .string s] w (GetPost w (st.got s) (kB st.keys s).isSome) := by
  obtain ⟨mk, mh, S, g, hv⟩ := h
  obtain ⟨c0, c1, c2, c3, c4, _⟩ := cells5 hv.blk
  obtain ⟨a, n, c, pk, ps, l1, l2, l3, l4⟩ := hv.keys.look s
  have hm := hv.keys.map
  have hk := key_of hs
  obtain ⟨L, hL⟩ : ∃ L, st.got s = L := ⟨_, rfl⟩
  have hL' : ((kB st.keys s).map (·.b)).getD [] = L := hL
  rw [hL] at hb ⊢
  rw [hL'] at l3 l4
  obtain ⟨bo, hbo⟩ : ∃ b, (kB st.keys s).isSome = b := ⟨_, rfl⟩
  rw [hbo] at l2 ⊢
  subst l4
  have H1 := Lib.hid l1
  have H2 := Lib.hid l2
  have H3 := Lib.hid l3
  have hq := blk_lt hv.blk
  clear hv l1 l2 l3 hL hL' hbo
  go_enter Tryz.func28, Tryz.ntmps28
  go_wp2_with first
    | (at_lookup; refine wpList_map_lookup_ok rfl (.tmp 14) (.tmp 15) 56 9 104 rfl Tryz.underlying56 keyed mk _ g hm rfl _ rfl _ hk zBlob zero_blob _ H1.out _ H2.out ?_)
    | (go_at_call 68; refine (slClone_any _ _ L (H3.out.below ((Below.refl _ _).alloc (Nat.le_refl _) _)) (by omega)).mono ?_; rintro e w2 ⟨a2, c2, rfl, hrow, hB⟩)
  go_ret2
  have hA : Below w.heap.size w (w.alloc (.cells #[.slice a L.length c, .int .i64 pk, .int .i64 ps] 104)) := (Below.refl _ _).alloc (Nat.le_refl _) _
  exact ⟨a2, c2, rfl, ownsRow_from hrow (fun g hg => by have := row_from hrow hg; simp at this; omega), hA.trans (hB.mono hA.size)⟩
/-- the keys' names. -/
def AStore.names (st : AStore) : List ByteArray := st.keys.map (·.1)
theorem KeysAt.mem {w : World} {mk : Nat} {S : Nat → Prop} {g : Value → Option Value} {l : List (ByteArray × ABlob)} (h : KeysAt w mk S g l) (hs : SortedB l) (s : ByteArray) : s ∈ l.map (·.1) ↔ (g (.string s)).isSome = true := by
  obtain ⟨_, _, _, _, _, _, hb, _⟩ := h.look s
  rw [hb]
  constructor
  · intro hm
    obtain ⟨q, hq, rfl⟩ := List.mem_map.1 hm
    rw [mem_kB hs (s := q.1) (f := q.2) hq]; rfl
  · intro hm
    obtain ⟨x, hx⟩ := Option.isSome_iff_exists.1 hm
    exact List.mem_map.2 ⟨(s, x), kB_some_mem hx, rfl⟩
def KeysPost (w : World) (ns : List ByteArray) (e : Ending) (w' : World) : Prop :=
  ∃ a c, e = .returned (.slice a ns.length c) ∧ w'.ownsRow w.heap.size 9 1 (.slice a ns.length c) ns.length (ns.map Value.string) ∧ Below w.heap.size w w'
set_option maxHeartbeats 1000000 in
theorem pgKeys_at (h : StoreAt ex w q p m d st) (hok : st.Ok) :
    Calls Tryz.prog 20 #[.pointer (some ⟨q, 0, none⟩)] w (KeysPost w st.names) := by
  obtain ⟨mk, mh, S, g, hv⟩ := h
  obtain ⟨c0, c1, c2, c3, c4, _⟩ := cells5 hv.blk
  obtain ⟨D, hown, hsz, hmem, hnd⟩ := map_ownsMap Tryz.underlying9 hv.keys.map
  have hcount := hok.count
  have hs1 : Maps.size D ≤ maxLen := by simp only [maxLen]; omega
  have hs2 : Maps.size D * 16 ≤ 140737488355328 := by omega
  have hkeys : ∀ ss : List (List UInt8), ss.Perm (strKeys D) → (ss.mergeSort leB).map encStr = st.names.map Value.string ∧ ss.length = st.names.length := by
    intro ss hp
    refine keys_are (List.pairwise_map.2 hok.sorted) (hp.symm.nodup hnd) fun x => ?_
    rw [hp.mem_iff, hmem]
    constructor
    · intro hx
      exact ⟨⟨x.toArray⟩, (hv.keys.mem hok.sorted _).2 hx, rfl⟩
    · rintro ⟨s, hs, rfl⟩
      have := (hv.keys.mem hok.sorted s).1 hs
      simpa [encStr] using this
  have Hk := Lib.hid hkeys
  clear hkeys hmem hnd hv hsz hok
  refine (callsIn_wide (n := 6)).1 ?_
  have hfK : Fence.wide.fn 63 := trivial
  have hfS : Fence.wide.fn 58 := trivial
  refine callsIn_of_wp Tryz.func20 rfl trivial ?_ rfl
  simp only [Tryz.ntmps20, List.size_toArray, List.length_cons, List.length_nil, Nat.reduceAdd, Nat.reduceSub, Array.replicate_succ, Array.replicate_zero, List.push_toArray, List.append_toArray, List.nil_append, List.cons_append]
  gi_wp2_with (first
     | (gi_at_call 63; refine (Tryz.maps_Keys_63 _ _).mono ?_; rintro e w' ⟨rfl, rfl⟩)
     | (gi_at_call 58; refine (Tryz.slices_Sorted_keys_58_63 mk _ D _ w hown hs1 hs2).mono ?_; rintro e w' ⟨v, ss, rfl, hS, hrow, hnil, hb⟩))
  go_ret
  obtain ⟨e1, e2⟩ := Hk.out ss hS
  rw [show (fun x y => decide (x ≤ y)) = leB from rfl, e1, e2] at hrow
  obtain ⟨a, c, rfl, _, _, hac⟩ := row_slice (ownsRow_base0 hrow)
  exact ⟨a, c, rfl, ownsRow_base_a hrow (by simp), ((Below.refl _ w).alloc (Nat.le_refl _) _).trans (hb.mono (by simp))⟩
end
end Go.Proofs.YtbepcjajbcecnaaGreatDoor

/-
  A store's Put and Drop.
-/
namespace Go.Proofs.YtbepcjajbcecnaaGreatDoor
open Go.RowKit Go.Maps Go.MapKept
set_option linter.unusedSimpArgs false

open Classical in
theorem KeysAt.deleted {w w' : World} {mk : Nat} {S : Nat → Prop} {g : Value → Option Value} {l : List (ByteArray × ABlob)} (h : KeysAt w mk S g l) (s : ByteArray) (hm : MapIs Tryz.prog 9 w' mk (delB l s).length (fun x => if x = .string s then none else g x)) (hu : Upd (· = mk) w w') (hS : ∀ k, S k → k ≠ mk) :
    KeysAt w' mk S (fun x => if x = .string s then none else g x) (delB l s) := by
  refine ⟨hm, fun key v hg => ?_, fun t x hx => ?_⟩
  · by_cases hk : key = .string s
    · simp only [hk, if_true] at hg; cases hg
    · simp only [hk, if_false] at hg
      obtain ⟨t, x, rfl, hx⟩ := h.dom key v hg
      exact ⟨t, x, rfl, by rw [kB_delB, if_neg (fun e => hk (by rw [e]))]; exact hx⟩
  · rw [kB_delB] at hx
    split at hx
    · cases hx
    · rename_i hne
      obtain ⟨vb, h1, h2, h3⟩ := h.val t x hx
      exact ⟨vb, by simp only [show ¬ Value.string t = Value.string s from fun e => hne (by injection e), if_false]; exact h1, h2.keep hu (fun k hk => hS k (h3 k hk)), h3⟩
open Classical in
theorem KeysAt.stored {w w' : World} {mk : Nat} {S : Nat → Prop} {g : Value → Option Value} {l : List (ByteArray × ABlob)} (h : KeysAt w mk S g l) (s : ByteArray) (x : ABlob) (vb : Value) (hm : MapIs Tryz.prog 9 w' mk (putB l s x).length (fun y => if y = .string s then some (.agg #[vb, .int .i64 x.pack, .int .i64 x.pos]) else g y)) (hu : Upd (· = mk) w w') (hS : ∀ k, S k → k ≠ mk) (hr : Rd w' vb (bcells x.b)) :
    KeysAt w' mk (fun k => S k ∨ vb.ownBlock = some k) (fun y => if y = .string s then some (.agg #[vb, .int .i64 x.pack, .int .i64 x.pos]) else g y) (putB l s x) := by
  refine ⟨hm, fun key v hg => ?_, fun t y hy => ?_⟩
  · by_cases hk : key = .string s
    · exact ⟨s, x, hk, by rw [kB_putB, if_pos rfl]⟩
    · simp only [hk, if_false] at hg
      obtain ⟨t, y, rfl, hy⟩ := h.dom key v hg
      exact ⟨t, y, rfl, by rw [kB_putB, if_neg (fun e => hk (by rw [e]))]; exact hy⟩
  · rw [kB_putB] at hy
    split at hy
    · rename_i he
      cases hy
      subst he
      exact ⟨vb, by simp, hr, fun k hk => Or.inr hk⟩
    · rename_i hne
      obtain ⟨vc, h1, h2, h3⟩ := h.val t y hy
      exact ⟨vc, by simp only [show ¬ Value.string t = Value.string s from fun e => hne (by injection e), if_false]; exact h1, h2.keep hu (fun k hk => hS k (h3 k hk)), fun k hk => Or.inl (h3 k hk)⟩
section
variable {ex : Nat → Prop} {w : World} {q p m : Nat} {d : ADisk} {st : AStore}
open Classical in
set_option maxRecDepth 100000 in
set_option maxHeartbeats 2000000 in
theorem pgDrop_at (h : StoreAt ex w q p m d st) (hok : st.Ok) (s : ByteArray) (hs : s.size ≤ maxLen) :
    Calls Tryz.prog 29 #[.pointer (some ⟨q, 0, none⟩), .string s] w fun e w' => e = .returned (.int .i64 (pDrop st s).2) ∧ StoreAt ex w' q p m d (pDrop st s).1 ∧ Keep ex w w' := by
  have hup := pgup_at h
  have hkey := pgkey_any w s hs
  have hlt : ∀ k, ex k → k < w.heap.size := fun k hk => h.lt hk
  cases ho : st.over with
  | true =>
    have hP : pDrop st s = (st, 16) := by unfold pDrop; rw [if_pos ho]
    rw [hP]
    rw [ho] at hup
    have HU := Lib.hid hup
    have H := Lib.hid h
    clear hup h hP hkey ho
    go_enter Tryz.func29, Tryz.ntmps29
    go_wp2_with (go_at_call 47; refine HU.out.mono ?_; rintro e w1 ⟨rfl, rfl⟩)
    go_ret
    exact ⟨rfl, H.out, Keep.refl _ _⟩
  | false =>
    rw [ho] at hup
    cases hk : okKey s with
    | false =>
      have hP : pDrop st s = (st, 2) := by unfold pDrop; rw [if_neg (by simp [ho]), if_pos hk]
      rw [hP]
      rw [hk] at hkey
      have HU := Lib.hid hup
      have HK := Lib.hid hkey
      have H := Lib.hid h
      clear hup h hP hkey ho hk
      go_enter Tryz.func29, Tryz.ntmps29
      go_wp2_with first
        | (go_at_call 47; refine HU.out.mono ?_; rintro e w1 ⟨rfl, rfl⟩)
        | (go_at_call 64; refine HK.out.mono ?_; rintro e w1 ⟨rfl, rfl⟩)
      go_ret
      exact ⟨rfl, H.out, Keep.refl _ _⟩
    | true =>
      have hP : pDrop st s = ({ st with keys := delB st.keys s }, 0) := by unfold pDrop; rw [if_neg (by simp [ho]), if_neg (by simp [hk])]
      rw [hP]
      rw [hk] at hkey
      obtain ⟨mk, mh, S, g, hv⟩ := h
      obtain ⟨c0, c1, c2, c3, c4, _⟩ := cells5 hv.blk
      obtain ⟨_, _, _, _, _, _, l2, _⟩ := hv.keys.look s
      have hm := hv.keys.map
      have hky := key_of hs
      have hlen : (delB st.keys s).length = if (g (.string s)).isSome then st.keys.length - 1 else st.keys.length := by rw [length_delB hok.sorted, l2]
      have Hlen := Lib.hid hlen
      have HU := Lib.hid hup
      have HK := Lib.hid hkey
      have HV := Lib.hid hv
      clear hup hP hkey ho hk hv l2 hlen
      go_enter Tryz.func29, Tryz.ntmps29
      go_wp2_with first
        | (go_at_call 47; refine HU.out.mono ?_; rintro e w1 ⟨rfl, rfl⟩)
        | (go_at_call 64; refine HK.out.mono ?_; rintro e w1 ⟨rfl, rfl⟩)
        | (refine wpList_map_delete rfl (.tmp 17) (.tmp 18) 56 9 104 rfl Tryz.underlying56 keyed mk _ g hm rfl (.string s) rfl _ hky (delB st.keys s).length Hlen.out ?_; intro w2 hm2 hg2 hs2; have Hm2 := Lib.hid hm2; clear hm2)
      go_ret
      have hv := HV.out
      have hU : Upd (· = mk) w w2 := (Upd.refl _ _).grown hg2 (fun k hk => by cases hk; exact Or.inl rfl)
      refine ⟨rfl, ⟨mk, mh, S, _, ⟨(hU.block q hv.q_lt hv.ne.1).trans hv.blk, hv.keys.deleted s Hm2.out hU (fun k hk => (hv.ownS k hk).2.2.1), hv.held.upd hU (fun e => hv.ne.2.2 e.symm), hv.disk.upd hU (fun k _ hk => Or.inr (Or.inr (Or.inl hk))), hv.own, hv.ownS, hv.ne⟩⟩, Keep.ofUpd hU (fun k hk => ⟨hlt k hk, fun e => hv.own.2.1 (e ▸ hk)⟩)⟩
end
end Go.Proofs.YtbepcjajbcecnaaGreatDoor

/-
  A store's Put.
-/
namespace Go.Proofs.YtbepcjajbcecnaaGreatDoor
open Go.RowKit Go.Maps Go.MapKept
set_option linter.unusedSimpArgs false

section
variable {ex : Nat → Prop} {w : World} {q p m : Nat} {d : ADisk} {st : AStore}
open Classical in
theorem StoreV.put {w2 w3 wb : World} {mk mh : Nat} {S : Nat → Prop} {g : Value → Option Value} {s : ByteArray} {b : List UInt8} {a2 : Option Addr} {cc2 : Nat} (hv : StoreV ex w q p m d st mk mh S g) (hB1 : Below w.heap.size w wb) (hB2 : Below wb.drew.heap.size wb.drew w2) (hrow : w2.ownsRow wb.drew.heap.size 5 1 (.slice a2 b.length cc2) b.length (bcells b)) (hU3 : Upd (· = mk) w2 w3)
    (hm3 : MapIs Tryz.prog 9 w3 mk (putB st.keys s ⟨b, 0, 0⟩).length (fun x => if x = .string s then some (.agg #[.slice a2 b.length cc2, .int .i64 0, .int .i64 0]) else g x)) :
    StoreAt ex w3 q p m d { st with keys := putB st.keys s ⟨b, 0, 0⟩ } ∧ Keep ex w w3 := by
  have hB : Below w.heap.size w w2 := hB1.drew.trans (hB2.mono hB1.size)
  have hwb : w.heap.size ≤ wb.heap.size := hB1.size
  have hv2 := hv.below hB
  have hnew : ∀ k, (Value.slice a2 b.length cc2).ownBlock = some k → w.heap.size ≤ k ∧ k < w2.heap.size := fun k hk => ⟨Nat.le_trans hwb (row_from hrow hk), row_lt hrow hk⟩
  have hmkS : ∀ k, S k → k ≠ mk := fun k hk => (hv.ownS k hk).2.2.1
  have hr3 : Rd w3 (.slice a2 b.length cc2) (bcells b) := (Rd.ofOwns hrow).keep hU3 (fun k hk e => by have := (hnew k hk).1; have := hv.mk_lt; omega)
  have hk3 := hv2.keys.stored s ⟨b, 0, 0⟩ (.slice a2 b.length cc2) hm3 hU3 hmkS hr3
  have hlt : ∀ k, ex k → k < w.heap.size := fun k hk => hv.lt hk
  refine ⟨⟨mk, mh, _, _, ⟨(hU3.block q hv2.q_lt hv.ne.1).trans hv2.blk, hk3, hv2.held.upd hU3 (fun e => hv.ne.2.2 e.symm), ?_, hv.own, fun k hk => ?_, hv.ne⟩⟩, (Keep.ofBelow hB hlt).trans (Keep.ofUpd hU3 (fun k hk => ⟨Nat.lt_of_lt_of_le (hlt k hk) hB.size, fun e => hv.own.2.1 (e ▸ hk)⟩))⟩
  · refine ((hv.disk.more hB (ex' := fun k => ex k ∨ k = q ∨ k = mk ∨ k = mh ∨ S k ∨ (Value.slice a2 b.length cc2).ownBlock = some k) (fun k hk => ?_)).upd hU3 (fun k _ hk => Or.inr (Or.inr (Or.inl hk)))).mono (fun k hk => hk)
    rcases hk with hk | hk | hk | hk | hk | hk
    · exact Or.inl (Or.inl hk)
    · exact Or.inl (Or.inr (Or.inl hk))
    · exact Or.inl (Or.inr (Or.inr (Or.inl hk)))
    · exact Or.inl (Or.inr (Or.inr (Or.inr (Or.inl hk))))
    · exact Or.inl (Or.inr (Or.inr (Or.inr (Or.inr hk))))
    · exact Or.inr (hnew k hk)
  · rcases hk with hk | hk
    · exact hv.ownS k hk
    · have h1 := (hnew k hk).1
      exact ⟨fun e => by have := hlt k e; omega, fun e => by have := hv.q_lt; omega, fun e => by have := hv.mk_lt; omega, fun e => by have := hv.mh_lt; omega⟩
open Classical in
set_option maxRecDepth 100000 in
set_option maxHeartbeats 4000000 in
theorem pgPut_good (h : StoreAt ex w q p m d st) (hok : st.Ok) (s : ByteArray) (hs : s.size ≤ maxLen) (vb : Value) (b : List UInt8) (hr : Rd w vb (bcells b)) (hb : b.length ≤ 1048576) (ho : st.over = false) (hk : okKey s = true) (hf : ¬ (kB st.keys s = none ∧ 4096 ≤ st.keys.length)) :
    Calls Tryz.prog 23 #[.pointer (some ⟨q, 0, none⟩), .string s, vb] w fun e w' => e = .returned (.int .i64 0) ∧ StoreAt ex w' q p m d { st with keys := putB st.keys s ⟨b, 0, 0⟩ } ∧ Keep ex w w' := by
  have hup := pgup_at h
  have hkey := fun wX => pgkey_any wX s hs
  have hlt : ∀ k, ex k → k < w.heap.size := fun k hk => h.lt hk
  rw [ho] at hup
  rw [hk] at hkey
  obtain ⟨av, cv, rfl⟩ := hr.shape
  rw [bcells_length] at hr ⊢
  obtain ⟨mk, mh, S, g, hv⟩ := h
  obtain ⟨c0, c1, c2, c3, c4, _⟩ := cells5 hv.blk
  obtain ⟨a, n, c, pk, ps, l1, l2, l3, l4⟩ := hv.keys.look s
  have hm := hv.keys.map
  have hky := key_of hs
  have hcnt := hok.count
  have hlen : (putB st.keys s ⟨b, 0, 0⟩).length = if (g (.string s)).isSome then st.keys.length else st.keys.length + 1 := by rw [length_putB hok.sorted, l2]
  have hbI : ¬ (1048576 : Int) < (b.length : Int) := by omega
  obtain ⟨bo, hbo⟩ : ∃ bo, (kB st.keys s).isSome = bo := ⟨_, rfl⟩
  rw [hbo] at l2
  have hfull : bo = false → ¬ (4096 : Int) ≤ (st.keys.length : Int) := fun e => by
    have : kB st.keys s = none := by rw [e] at hbo; cases hx : kB st.keys s with | none => rfl | some y => rw [hx] at hbo; cases hbo
    have h5 : ¬ 4096 ≤ st.keys.length := fun h4 => hf ⟨this, h4⟩
    omega
  obtain ⟨wb, hwb⟩ : ∃ wb, w.alloc (.cells #[.slice a n c, .int .i64 pk, .int .i64 ps] 104) = wb := ⟨_, rfl⟩
  have hB1 : Below w.heap.size w wb := by rw [← hwb]; exact (Below.refl _ _).alloc (Nat.le_refl _) _
  have hvb := hv.below hB1
  have hrb := hr.below hB1
  have c2b := (cells5 hvb.blk).2.2.1
  have hqb := hvb.q_lt
  have hWb := Lib.hid hwb
  have Hlen := Lib.hid hlen
  have HU := Lib.hid hup
  have HK := Lib.hid hkey
  have HV := Lib.hid hv
  have HVb := Lib.hid hvb
  have HR := Lib.hid hrb
  have H1 := Lib.hid l1
  have H2 := Lib.hid l2
  have HB1 := Lib.hid hB1
  clear hup hkey ho hk hv l1 l2 l3 l4 hlen hvb hr hrb hf hbo hwb hB1
  cases bo with
  | true =>
    clear hfull
    go_enter Tryz.func23, Tryz.ntmps23
    go_wp2_with first
      | (go_at_call 47; refine HU.out.mono ?_; rintro e w1 ⟨rfl, rfl⟩)
      | (at_lookup; refine wpList_map_lookup_ok rfl (.tmp 19) (.tmp 20) 56 9 104 rfl Tryz.underlying56 keyed mk _ g hm rfl _ rfl _ hky zBlob zero_blob _ H1.out _ H2.out ?_)
      | (rw [hWb.out]; go_at_call 64; refine (HK.out wb).mono ?_; rintro e w1 ⟨rfl, rfl⟩)
    go_region_held3 (fun w' => w'.cell? ⟨q, 2, none⟩ = some (.map (some mk))) (first | exact c2b | exact S2 | exact S3 | go_keep)
      (first
        | (go_at_call 65; refine (bClone_any wb.drew (.slice av b.length cv) b (HR.out.below ((Below.refl _ _).drew)) (by omega)).mono ?_; rintro e w2 ⟨a2, cc2, rfl, hrow, hB2⟩; have S2 : w2.cell? ⟨q, 2, none⟩ = some (.map (some mk)) := (hB2.cell (p := ⟨q, 2, none⟩) hqb).trans c2b; have hm2 := (HVb.out.keys.map.drew).upd (Upd.ofBelow (fp := noFp) hB2) (fun h => h); obtain ⟨w3, hrun3, hm3, hg3, hs3⟩ := hm2.run_update keyed Tryz.underlying56 hky (val := .agg #[.slice a2 b.length cc2, .int .i64 0, .int .i64 0]) (by simp only [maxLen]; exact Nat.lt_of_le_of_lt hcnt (by omega)); have hU3 : Upd (· = mk) w2 w3 := (Upd.refl _ _).grown hg3 (fun j hj => by cases hj; exact Or.inl rfl); have S3 : w3.cell? ⟨q, 2, none⟩ = some (.map (some mk)) := (hU3.cell (Nat.lt_of_lt_of_le hqb hB2.size) HVb.out.ne.1 2).trans S2; have Hm3 := Lib.hid hm3; have Hrow := Lib.hid hrow; clear hm3 hm2 hrow))
    go_wp2
    go_ret
    have hm3 := Hm3.out
    rw [← Hlen.out] at hm3
    exact ⟨rfl, HV.out.put HB1.out hB2 Hrow.out hU3 hm3⟩
  | false =>
    have hfull2 := hfull rfl
    clear hfull
    go_enter Tryz.func23, Tryz.ntmps23
    go_wp2_with first
      | (go_at_call 47; refine HU.out.mono ?_; rintro e w1 ⟨rfl, rfl⟩)
      | (at_lookup; refine wpList_map_lookup_ok rfl (.tmp 19) (.tmp 20) 56 9 104 rfl Tryz.underlying56 keyed mk _ g hm rfl _ rfl _ hky zBlob zero_blob _ H1.out _ H2.out ?_)
      | (rw [hWb.out]; go_at_call 64; refine (HK.out wb).mono ?_; rintro e w1 ⟨rfl, rfl⟩)
      | (refine wpList_map_len rfl (.tmp 39) 56 9 104 rfl Tryz.underlying56 mk _ g HVb.out.keys.map rfl ?_)
    go_region_held3 (fun w' => w'.cell? ⟨q, 2, none⟩ = some (.map (some mk))) (first | exact c2b | exact S2 | exact S3 | go_keep)
      (first
        | (go_at_call 65; refine (bClone_any wb.drew (.slice av b.length cv) b (HR.out.below ((Below.refl _ _).drew)) (by omega)).mono ?_; rintro e w2 ⟨a2, cc2, rfl, hrow, hB2⟩; have S2 : w2.cell? ⟨q, 2, none⟩ = some (.map (some mk)) := (hB2.cell (p := ⟨q, 2, none⟩) hqb).trans c2b; have hm2 := (HVb.out.keys.map.drew).upd (Upd.ofBelow (fp := noFp) hB2) (fun h => h); obtain ⟨w3, hrun3, hm3, hg3, hs3⟩ := hm2.run_update keyed Tryz.underlying56 hky (val := .agg #[.slice a2 b.length cc2, .int .i64 0, .int .i64 0]) (by simp only [maxLen]; exact Nat.lt_of_le_of_lt hcnt (by omega)); have hU3 : Upd (· = mk) w2 w3 := (Upd.refl _ _).grown hg3 (fun j hj => by cases hj; exact Or.inl rfl); have S3 : w3.cell? ⟨q, 2, none⟩ = some (.map (some mk)) := (hU3.cell (Nat.lt_of_lt_of_le hqb hB2.size) HVb.out.ne.1 2).trans S2; have Hm3 := Lib.hid hm3; have Hrow := Lib.hid hrow; clear hm3 hm2 hrow))
    go_wp2
    go_ret
    have hm3 := Hm3.out
    rw [← Hlen.out] at hm3
    exact ⟨rfl, HV.out.put HB1.out hB2 Hrow.out hU3 hm3⟩
def PutPost (ex : Nat → Prop) (w : World) (q p m : Nat) (d : ADisk) (r : AStore × Int) (e : Ending) (w' : World) : Prop := e = .returned (.int .i64 r.2) ∧ StoreAt ex w' q p m d r.1 ∧ Keep ex w w'
set_option maxRecDepth 100000 in
set_option maxHeartbeats 4000000 in
theorem pgPut_at (h : StoreAt ex w q p m d st) (hok : st.Ok) (s : ByteArray) (hs : s.size ≤ maxLen) (vb : Value) (b : List UInt8) (hr : Rd w vb (bcells b)) (hb : b.length ≤ 140737488355328) :
    Calls Tryz.prog 23 #[.pointer (some ⟨q, 0, none⟩), .string s, vb] w (PutPost ex w q p m d (pPut st s b)) := by
  have hup := pgup_at h
  have hlt : ∀ k, ex k → k < w.heap.size := fun k hk => h.lt hk
  cases ho : st.over with
  | true =>
    have hP : pPut st s b = (st, 16) := by unfold pPut; rw [if_pos ho]
    rw [hP]
    rw [ho] at hup
    have HU := Lib.hid hup
    have H := Lib.hid h
    clear hup h hP ho hr
    go_enter Tryz.func23, Tryz.ntmps23
    go_wp2_with (go_at_call 47; refine HU.out.mono ?_; rintro e w1 ⟨rfl, rfl⟩)
    go_ret
    exact ⟨rfl, H.out, Keep.refl _ _⟩
  | false =>
    by_cases hgood : okKey s = true ∧ b.length ≤ 1048576 ∧ ¬ (kB st.keys s = none ∧ 4096 ≤ st.keys.length)
    · obtain ⟨h1, h2, h3⟩ := hgood
      have hP : pPut st s b = ({ st with keys := putB st.keys s ⟨b, 0, 0⟩ }, 0) := by unfold pPut; rw [if_neg (by simp [ho]), if_neg (by simp [h1]), if_neg (by omega), if_neg h3]
      rw [hP]
      exact pgPut_good h hok s hs vb b hr h2 ho h1 h3
    · have hP : pPut st s b = (st, (pPut st s b).2) ∧ ((okKey s = false ∧ (pPut st s b).2 = 2) ∨ (okKey s = true ∧ 1048576 < b.length ∧ (pPut st s b).2 = 3) ∨ (okKey s = true ∧ b.length ≤ 1048576 ∧ kB st.keys s = none ∧ 4096 ≤ st.keys.length ∧ (pPut st s b).2 = 5)) := by
        unfold pPut
        rw [if_neg (by simp [ho])]
        cases hk : okKey s with
        | false => rw [if_pos rfl]; exact ⟨rfl, Or.inl ⟨rfl, rfl⟩⟩
        | true =>
          rw [if_neg (by simp)]
          by_cases h2 : 1048576 < b.length
          · rw [if_pos h2]; exact ⟨rfl, Or.inr (Or.inl ⟨rfl, h2, rfl⟩)⟩
          · rw [if_neg h2]
            by_cases h3 : kB st.keys s = none ∧ 4096 ≤ st.keys.length
            · rw [if_pos h3]; exact ⟨rfl, Or.inr (Or.inr ⟨rfl, by omega, h3.1, h3.2, rfl⟩)⟩
            · exact absurd ⟨hk, by omega, h3⟩ hgood
      obtain ⟨hP1, hP2⟩ := hP
      obtain ⟨er, her⟩ : ∃ er, (pPut st s b).2 = er := ⟨_, rfl⟩
      rw [her] at hP1 hP2
      rw [hP1]
      rw [ho] at hup
      have hkey := fun wX => pgkey_any wX s hs
      obtain ⟨av, cv, rfl⟩ := hr.shape
      rw [bcells_length] at hr ⊢
      obtain ⟨mk, mh, S, g, hv⟩ := id h
      obtain ⟨c0, c1, c2, c3, c4, _⟩ := cells5 hv.blk
      obtain ⟨a, n, c, pk, ps, l1, l2, l3, l4⟩ := hv.keys.look s
      have hm := hv.keys.map
      have hky := key_of hs
      obtain ⟨bo, hbo⟩ : ∃ bo, (kB st.keys s).isSome = bo := ⟨_, rfl⟩
      rw [hbo] at l2
      obtain ⟨wb, hwb⟩ : ∃ wb, w.alloc (.cells #[.slice a n c, .int .i64 pk, .int .i64 ps] 104) = wb := ⟨_, rfl⟩
      have hB1 : Below w.heap.size w wb := by rw [← hwb]; exact (Below.refl _ _).alloc (Nat.le_refl _) _
      have c2b := (cells5 (hv.below hB1).blk).2.2.1
      have hmb := (hv.below hB1).keys.map
      have hfin : StoreAt ex wb q p m d st ∧ Keep ex w wb := ⟨h.below hB1, Keep.ofBelow hB1 hlt⟩
      have hWb := Lib.hid hwb
      have HU := Lib.hid hup
      have H1 := Lib.hid l1
      have H2 := Lib.hid l2
      have Hf := Lib.hid hfin
      rcases hP2 with ⟨k1, rfl⟩ | ⟨k1, k2, rfl⟩ | ⟨k1, k2, k3, k4, rfl⟩
      · rw [k1] at hkey
        have HK := Lib.hid hkey
        clear hup hkey hv l1 l2 l3 l4 hr hwb hB1 hfin h hgood her hP1 ho hbo k1 hmb
        go_enter Tryz.func23, Tryz.ntmps23
        go_wp2_with first
          | (go_at_call 47; refine HU.out.mono ?_; rintro e w1 ⟨rfl, rfl⟩)
          | (at_lookup; refine wpList_map_lookup_ok rfl (.tmp 19) (.tmp 20) 56 9 104 rfl Tryz.underlying56 keyed mk _ g hm rfl _ rfl _ hky zBlob zero_blob _ H1.out _ H2.out ?_)
          | (rw [hWb.out]; go_at_call 64; refine (HK.out wb).mono ?_; rintro e w1 ⟨rfl, rfl⟩)
        go_ret
        exact ⟨rfl, Hf.out⟩
      · rw [k1] at hkey
        have HK := Lib.hid hkey
        have hbI : (1048576 : Int) < (b.length : Int) := by omega
        clear hup hkey hv l1 l2 l3 l4 hr hwb hB1 hfin h hgood her hP1 ho hbo k1 hmb
        go_enter Tryz.func23, Tryz.ntmps23
        go_wp2_with first
          | (go_at_call 47; refine HU.out.mono ?_; rintro e w1 ⟨rfl, rfl⟩)
          | (at_lookup; refine wpList_map_lookup_ok rfl (.tmp 19) (.tmp 20) 56 9 104 rfl Tryz.underlying56 keyed mk _ g hm rfl _ rfl _ hky zBlob zero_blob _ H1.out _ H2.out ?_)
          | (rw [hWb.out]; go_at_call 64; refine (HK.out wb).mono ?_; rintro e w1 ⟨rfl, rfl⟩)
        go_ret
        exact ⟨rfl, Hf.out⟩
      · rw [k1] at hkey
        have HK := Lib.hid hkey
        have hbI : ¬ (1048576 : Int) < (b.length : Int) := by omega
        have hfI : (4096 : Int) ≤ (st.keys.length : Int) := by omega
        have hbf : bo = false := by rw [← hbo, k3]; rfl
        subst hbf
        have HM := Lib.hid hmb
        clear hup hkey hv l1 l2 l3 l4 hr hwb hB1 hfin h hgood her hP1 ho hbo k1 hmb k3
        go_enter Tryz.func23, Tryz.ntmps23
        go_wp2_with first
          | (go_at_call 47; refine HU.out.mono ?_; rintro e w1 ⟨rfl, rfl⟩)
          | (at_lookup; refine wpList_map_lookup_ok rfl (.tmp 19) (.tmp 20) 56 9 104 rfl Tryz.underlying56 keyed mk _ g hm rfl _ rfl _ hky zBlob zero_blob _ H1.out _ H2.out ?_)
          | (rw [hWb.out]; go_at_call 64; refine (HK.out wb).mono ?_; rintro e w1 ⟨rfl, rfl⟩)
          | (refine wpList_map_len rfl (.tmp 39) 56 9 104 rfl Tryz.underlying56 mk _ g HM.out rfl ?_)
        go_ret
        exact ⟨rfl, Hf.out⟩
end
end Go.Proofs.YtbepcjajbcecnaaGreatDoor
