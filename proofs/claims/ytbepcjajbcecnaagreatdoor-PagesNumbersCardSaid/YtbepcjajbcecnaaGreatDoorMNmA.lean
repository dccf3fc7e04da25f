/-
  PagesNumbers, plainly: the fixed commits that are none; packs that are too many; keys that are too many. No program here.
-/
import Derived.Test.YtbepcjajbcecnaaGreatDoorMDcN
import Derived.Test.YtbepcjajbcecnaaGreatDoorMTlA
import Derived.Outline
import Derived.Test.YtbepcjajbcecnaaGreatDoorMLoA
import Derived.Test.YtbepcjajbcecnaaGreatDoorMDcA
import Derived.Test.YtbepcjajbcecnaaGreatDoorMPmG
import Derived.Test.YtbepcjajbcecnaaGreatDoorMShA
import Derived.Test.YtbepcjajbcecnaaGreatDoorMPmD
import Derived.Test.YtbepcjajbcecnaaGreatDoorMByA
namespace Go.Proofs.YtbepcjajbcecnaaGreatDoor

/-- an index of the commit k that names one key. -/
def rawB (k n : Nat) (key : ByteArray) (pack pos long : Nat) : List UInt8 := sealL sumL (magicI ++ (vint k ++ (vint n ++ entBytes key pack pos long)))
/-! ### commits that are none -/
def madeN (l : List (ByteArray × List UInt8)) : ADisk := l.foldl (fun d x => d.append x.1 x.2) ⟨4194304, -1, false, []⟩
theorem madeD_N (L : List AFile5) (l : List (ByteArray × List UInt8)) (h : L.map (fun x => (x.name, x.b)) = l) : madeD L = madeN l := by
  subst h
  unfold madeD madeN
  generalize (⟨4194304, -1, false, []⟩ : ADisk) = d
  induction L generalizing d with
  | nil => rfl
  | cons x r ih => exact ih _
def nI2 : ByteArray := ⟨#[105, 50]⟩
def nC1 : ByteArray := ⟨#[99, 49]⟩
def nC3 : ByteArray := ⟨#[99, 51]⟩
def nK : ByteArray := ⟨#[107]⟩
def hello5 : List UInt8 := [104, 101, 108, 108, 111]
def nP : ByteArray × List UInt8 := (nC1, hello5)
def none14 (l : List (ByteArray × List UInt8)) (k : Int) : Bool := decide ((pOpen (madeN l) k).2.2 = 14) && decide ((pOpen (madeN l) k).1.names.length = l.length)
theorem e1 : none14 [] 2 = true := by decide +kernel
theorem e2 : none14 [nP] 2 = true := by decide +kernel
theorem e3 : none14 [(nI2, rawB 2 1 nK 1 1 4)] 2 = true := by decide +kernel
theorem e4 : none14 [(nI2, rawB 2 1 nK 1 1 5), nP] 2 = true := by decide +kernel
theorem e5 : none14 [(nI2, rawB 2 1 nK 1 6 0), nP] 2 = true := by decide +kernel
theorem e6 : none14 [(nI2, rawB 3 1 nK 1 1 4), nP] 2 = true := by decide +kernel
theorem e7 : none14 [(nI2, rawB 2 0 nK 1 1 4), nP] 2 = true := by decide +kernel
theorem e8 : none14 [(nI2, rawB 2 2 nK 1 1 4), nP] 2 = true := by decide +kernel
theorem e9 : none14 [(nI2, rawB 2 1 ⟨#[]⟩ 1 1 4), nP] 2 = true := by decide +kernel
theorem e10 : none14 [(nI2, rawB 2 1 ⟨(List.replicate 61 (107 : UInt8)).toArray⟩ 1 1 4), nP] 2 = true := by decide +kernel
theorem e11 : none14 [(nI2, rawB 2 1 nK 0 1 4), nP] 2 = true := by decide +kernel
theorem e12 : none14 [(nI2, rawB 2 1 nK 3 1 4), nP, (nC3, hello5)] 2 = true := by decide +kernel
theorem e13 : none14 [(nI2, rawB 2 1 nK 1 4611686018427387904 4), nP] 2 = true := by decide +kernel
theorem e14 : none14 [(nI2, [119, 104, 97, 116]), nP] 2 = true := by decide +kernel
theorem e15 : none14 [(nI2, rawB 2 1 nK 1 1 4), nP] 1 = true := by decide +kernel
/-- the nine files of the first example. -/
def nine5 : List (ByteArray × List UInt8) := [(nI2, rawB 2 1 nK 1 1 4), nP, (⟨#[99, 50]⟩, []), (nC3, []), (⟨#[105, 49]⟩, []), (⟨#[105, 46, 110, 101, 119]⟩, []), (⟨#[105, 48]⟩, []), (⟨#[99, 48, 49]⟩, []), (⟨#[120]⟩, [])]
def left5 : List ByteArray := [⟨#[99, 48, 49]⟩, nC1, ⟨#[105, 48]⟩, nI2, ⟨#[120]⟩]
def st9 : AStore := ⟨2, [(nK, ⟨[101, 108, 108, 111], 1, 1⟩)], [1], false⟩
def d9 : ADisk := (pOpen (madeN nine5) 2).1
instance abDec : DecidableEq ABlob := fun a b => decidable_of_iff (a.b = b.b ∧ a.pack = b.pack ∧ a.pos = b.pos) ⟨fun ⟨h1, h2, h3⟩ => by cases a; cases b; simp_all, fun h => by subst h; exact ⟨rfl, rfl, rfl⟩⟩
instance asDec : DecidableEq AStore := fun a b => decidable_of_iff (a.k = b.k ∧ a.keys = b.keys ∧ a.held = b.held ∧ a.over = b.over) ⟨fun ⟨h1, h2, h3, h4⟩ => by cases a; cases b; simp_all, fun h => by subst h; exact ⟨rfl, rfl, rfl, rfl⟩⟩
theorem open9 : pOpen (madeN nine5) 2 = (d9, st9, 0) := by
  have h : (pOpen (madeN nine5) 2).2.1 = st9 ∧ (pOpen (madeN nine5) 2).2.2 = 0 := by decide +kernel
  exact Prod.ext rfl (Prod.ext h.1 h.2)
theorem d9_facts : d9.names = left5 ∧ d9.down = false ∧ d9.left = -1 := by decide +kernel

/-! ### packs that are too many -/
def kRep (i : Nat) : ByteArray := ⟨(List.replicate (1 + i) (107 : UInt8)).toArray⟩
instance (l : List (ByteArray × ABlob)) : Decidable (SortedB l) := by unfold SortedB; infer_instance
def okS (st : AStore) : Bool := decide (st.k ≤ 9007199254740992) && decide (st.keys.length ≤ 4096) && decide (SortedB st.keys) && st.keys.all (fun p => decide (p.2.pack ≤ 9007199254740992) && decide (p.2.pos ≤ 9007199254740992) && decide (p.2.b.length ≤ 1048576) && decide (p.1.size ≤ 60))
theorem okS_ok {st : AStore} (h : okS st = true) : st.Ok := by
  unfold okS at h
  simp only [Bool.and_eq_true, decide_eq_true_eq, List.all_eq_true] at h
  obtain ⟨⟨⟨h1, h2⟩, h3⟩, h4⟩ := h
  exact ⟨h1, h2, h3, fun p hp => ⟨(h4 p hp).1.1.1, fun _ => (h4 p hp).1.1.2, (h4 p hp).1.2, (h4 p hp).2⟩⟩
/-- so many commits, of a key more each; are all right? -/
def manyS : Nat → ADisk × AStore × Bool
  | 0 => (⟨4194304, -1, false, []⟩, ⟨0, [], [], false⟩, true)
  | i + 1 =>
    match manyS i with
    | (d, st, ok) =>
      match pPut st (kRep i) [UInt8.ofNat i] with
      | (st1, e1) =>
        match pCommit d st1 with
        | (d2, st2, n, e2) => (d2, st2, ok && (okS st && decide (e1 = 0) && okS st1 && decide (e2 = 0) && decide (n = i + 1)))
theorem manyS_next (i : Nat) (h : (manyS (i + 1)).2.2 = true) : ∃ d st st1 d2 st2, manyS i = (d, st, true) ∧ st.Ok ∧ pPut st (kRep i) [UInt8.ofNat i] = (st1, 0) ∧ st1.Ok ∧ pCommit d st1 = (d2, st2, i + 1, 0) ∧ manyS (i + 1) = (d2, st2, true) := by
  unfold manyS at h
  rw [show manyS (i + 1) = (match manyS i with
    | (d, st, ok) =>
      match pPut st (kRep i) [UInt8.ofNat i] with
      | (st1, e1) =>
        match pCommit d st1 with
        | (d2, st2, n, e2) => (d2, st2, ok && (okS st && decide (e1 = 0) && okS st1 && decide (e2 = 0) && decide (n = i + 1)))) from rfl]
  cases hm : manyS i with
  | mk d q =>
    obtain ⟨st, ok⟩ := q
    rw [hm] at h
    simp only at h ⊢
    cases hp : pPut st (kRep i) [UInt8.ofNat i] with
    | mk st1 er1 =>
      rw [hp] at h
      simp only at h ⊢
      cases hc : pCommit d st1 with
      | mk d2 q2 =>
        obtain ⟨st2, n, er2⟩ := q2
        rw [hc] at h
        simp only [Bool.and_eq_true, decide_eq_true_eq] at h
        obtain ⟨h0, ⟨⟨⟨h1, h2⟩, h3⟩, h4⟩, h5⟩ := h
        subst h0 h2 h4 h5
        refine ⟨d, st, st1, d2, st2, rfl, okS_ok h1, hp, okS_ok h3, hc, ?_⟩
        simp only [h1, h3, decide_true, Bool.and_self]
theorem manyS_before (i j : Nat) (h : (manyS (i + j)).2.2 = true) : (manyS i).2.2 = true := by
  induction j with
  | zero => exact h
  | succ j ih =>
    obtain ⟨d, st, _, _, _, h1, _⟩ := manyS_next (i + j) h
    exact ih (by rw [h1])
theorem manyS_17 : (manyS 17).2.2 = true := by decide +kernel
theorem manyS_go (i : Nat) (hi : i < 17) : ∃ d st st1 d2 st2, manyS i = (d, st, true) ∧ st.Ok ∧ pPut st (kRep i) [UInt8.ofNat i] = (st1, 0) ∧ st1.Ok ∧ pCommit d st1 = (d2, st2, i + 1, 0) ∧ manyS (i + 1) = (d2, st2, true) :=
  manyS_next i (manyS_before (i + 1) (16 - i) (by rw [show i + 1 + (16 - i) = 17 by omega]; exact manyS_17))
def nC17 : ByteArray := ⟨#[99, 49, 55]⟩
def nI17 : ByteArray := ⟨#[105, 49, 55]⟩
def dM : ADisk := (pFreeC (manyS 17).1 (manyS 17).2.1).1
def stM : AStore := (pFreeC (manyS 17).1 (manyS 17).2.1).2.1
def nsM : List ByteArray := (pFreeC (manyS 17).1 (manyS 17).2.1).2.2.1
theorem freeM : pFreeC (manyS 17).1 (manyS 17).2.1 = (dM, stM, nsM, 0) := by
  have h : (pFreeC (manyS 17).1 (manyS 17).2.1).2.2.2 = 0 := by decide +kernel
  exact Prod.ext rfl (Prod.ext rfl (Prod.ext rfl h))
theorem factsM : nsM.length = 32 ∧ (dM.readBytes nC17).length = 17 ∧ dM.names = [nC17, nI17] ∧ okS stM = true ∧ stM.over = false ∧ stM.keys.length = 17 ∧ (kB stM.keys nK).isSome = true := by decide +kernel
theorem namesM : stM.keys.all (fun p => decide (p.1.data.toList.take 1 = [107])) = true := by decide +kernel
/-! ### keys that are too many -/
/-- the name of a further key. -/
def xName (j : Nat) : List UInt8 := [120, UInt8.ofNat (97 + j % 26)] ++ (List.replicate (j / 26 % 50) 121 ++ List.replicate (j / 1300) 122)
def xN (j : Nat) : ByteArray := ⟨(xName j).toArray⟩
theorem xN_size {j : Nat} (h : j < 4079) : (xN j).size ≤ 60 ∧ 0 < (xN j).size := by
  have : (xN j).size = 2 + (j / 26 % 50 + j / 1300) := by show (xName j).toArray.size = _; unfold xName; simp; omega
  rw [this]; omega
theorem rep_split {a b a' b' : Nat} (h : List.replicate a (121 : UInt8) ++ List.replicate b 122 = List.replicate a' 121 ++ List.replicate b' 122) : a = a' ∧ b = b' := by
  have h1 := congrArg (List.count (121 : UInt8)) h
  have h2 := congrArg (List.count (122 : UInt8)) h
  simp [List.count_append, List.count_replicate] at h1 h2
  exact ⟨h1, h2⟩
theorem xN_inj {i j : Nat} (hi : i < 4079) (hj : j < 4079) (h : xN i = xN j) : i = j := by
  have h1 : xName i = xName j := by
    have := congrArg (fun x : ByteArray => x.data.toList) h
    simpa [xN] using this
  unfold xName at h1
  simp only [List.cons_append, List.nil_append, List.cons.injEq, true_and] at h1
  obtain ⟨h2, h3⟩ := h1
  obtain ⟨h4, h5⟩ := rep_split h3
  have h6 : (97 + i % 26) % 256 = (97 + j % 26) % 256 := by
    have := congrArg UInt8.toNat h2
    simpa using this
  omega
theorem xN_not {j : Nat} {s : ByteArray} (h : s.data.toList.take 1 = [107]) : xN j ≠ s := by
  intro e
  rw [← e] at h
  simp [xN, xName] at h
/-- behind j further keys. -/
structure XSt (j : Nat) (st : AStore) : Prop where
  ok : st.Ok
  over : st.over = false
  len : st.keys.length = 17 + j
  mem : ∀ s x, kB st.keys s = some x → s.data.toList.take 1 = [107] ∨ ∃ i, i < j ∧ s = xN i
  one : (kB st.keys nK).isSome = true
theorem XSt.start : XSt 0 stM := by
  obtain ⟨_, _, _, h1, h2, h3, h4⟩ := factsM
  refine ⟨okS_ok h1, h2, h3, fun s x hx => Or.inl ?_, h4⟩
  have := List.all_eq_true.1 namesM _ (kB_some_mem hx)
  simpa using this
theorem XSt.next {j : Nat} {st : AStore} (h : XSt j st) (hj : j < 4079) : ∃ st', pPut st (xN j) [] = (st', 0) ∧ XSt (j + 1) st' := by
  obtain ⟨hs1, hs0⟩ := xN_size hj
  have hn : kB st.keys (xN j) = none := by
    cases hk : kB st.keys (xN j) with
    | none => rfl
    | some x =>
      rcases h.mem _ _ hk with h1 | ⟨i, hi, e⟩
      · exact absurd rfl (xN_not h1)
      · have := xN_inj hj (by omega) e; omega
  have hlen := h.len
  refine ⟨{ st with keys := putB st.keys (xN j) ⟨[], 0, 0⟩ }, ?_, ?_⟩
  · unfold pPut
    rw [if_neg (by rw [h.over]; decide), if_neg (by unfold okKey; simp [hs0, hs1]), if_neg (by simp), if_neg (by rw [hlen]; omega)]
  · have hl : (putB st.keys (xN j) ⟨[], 0, 0⟩).length = 17 + (j + 1) := by rw [length_putB h.ok.sorted, hn]; simp; omega
    refine ⟨⟨h.ok.k, by show (putB st.keys (xN j) ⟨[], 0, 0⟩).length ≤ 4096; omega, sorted_putB h.ok.sorted _ _, fun p hp => ?_⟩, h.over, hl, fun s x hx => ?_, ?_⟩
    · rcases mem_putB hp with rfl | hp
      · exact ⟨by simp, by simp, by simp, hs1⟩
      · exact h.ok.blob p hp
    · have hx : kB (putB st.keys (xN j) ⟨[], 0, 0⟩) s = some x := hx
      rw [kB_putB] at hx
      split at hx
      · rename_i e; exact Or.inr ⟨j, by omega, e⟩
      · rcases h.mem s x hx with h1 | ⟨i, hi, e⟩
        · exact Or.inl h1
        · exact Or.inr ⟨i, by omega, e⟩
    · show (kB (putB st.keys (xN j) ⟨[], 0, 0⟩) nK).isSome = true
      rw [kB_putB]
      split
      · rfl
      · exact h.one
def moreK : ByteArray := ⟨#[111, 110, 101, 32, 109, 111, 114, 101]⟩
theorem XSt.full {st : AStore} (h : XSt 4079 st) : pPut st moreK [] = (st, 5) ∧ ∃ st', pPut st nK [] = (st', 0) := by
  have hn : kB st.keys moreK = none := by
    cases hk : kB st.keys moreK with
    | none => rfl
    | some x =>
      rcases h.mem _ _ hk with h1 | ⟨i, hi, e⟩
      · exact absurd h1 (by decide)
      · have := congrArg (fun x : ByteArray => x.data.toList.take 1) e
        simp [xN, xName, moreK] at this
  have hlen := h.len
  constructor
  · unfold pPut
    rw [if_neg (by rw [h.over]; decide), if_neg (by decide), if_neg (by simp), if_pos ⟨hn, by omega⟩]
  · have h1 := h.one
    refine ⟨{ st with keys := putB st.keys nK ⟨[], 0, 0⟩ }, ?_⟩
    unfold pPut
    rw [if_neg (by rw [h.over]; decide), if_neg (by decide), if_neg (by simp), if_neg (by intro e; rw [e.1] at h1; cases h1)]
end Go.Proofs.YtbepcjajbcecnaaGreatDoor

/-
  What New did not make: nil, or a disk of zeros: the walks of each call.
-/
namespace Go.Proofs.YtbepcjajbcecnaaGreatDoor
open Go.RowKit Go.Maps Go.MapKept

/-- no disk: nil, or one without a map. -/
def NoDisk (w : World) (pv : Value) : Prop :=
  pv = .pointer none ∨ ∃ p l x, pv = .pointer (some ⟨p, 0, none⟩) ∧ w.heap[p]? = some (.cells #[.int .i64 l, .bool false, .map none, .int .i64 x] 121 (0, 0))
theorem NoDisk.below {w w' : World} {pv : Value} (h : NoDisk w pv) (hb : Below w.heap.size w w') : NoDisk w' pv := by
  rcases h with h | ⟨p, l, x, h1, h2⟩
  · exact Or.inl h
  · exact Or.inr ⟨p, l, x, h1, (hb.block p (blk_lt h2)).trans h2⟩
theorem NoDisk.alloc {w : World} {pv : Value} (h : NoDisk w pv) (o : Obj) : NoDisk (w.alloc o) pv := h.below ((Below.refl _ _).alloc (Nat.le_refl _) o)

section
variable {w : World} {pv : Value}

set_option maxRecDepth 100000 in
set_option maxHeartbeats 2000000 in
theorem find_no (h : NoDisk w pv) (s : ByteArray) : Calls Tryz.prog 66 #[pv, .string s] w fun e w' => e = .returned (.tuple #[zFile, .int .i64 1]) ∧ Below w.heap.size w w' := by
  have hen := fun (w : World) => run_eql_map_nil (P := Tryz.prog) w 115 9 117 none Tryz.underlying115
  rcases h with rfl | ⟨p, l, x, rfl, hp⟩
  · go_enter Tryz.func66, Tryz.ntmps66
    go_wp2
    exact bodyPost_ret (v := .tuple #[zFile, .int .i64 1]) (by simp [results, Tryz.results66, go_sem, zFile]) rfl ⟨rfl, (Below.refl _ _).alloc (Nat.le_refl _) _⟩
  · obtain ⟨q0, q1, q2, q3, _⟩ := cells4 hp
    have hlt := blk_lt hp
    clear hp
    go_enter Tryz.func66, Tryz.ntmps66
    go_wp2
    exact bodyPost_ret (v := .tuple #[zFile, .int .i64 1]) (by simp [results, Tryz.results66, go_sem, zFile]) rfl ⟨rfl, (Below.refl _ _).alloc (Nat.le_refl _) _⟩

set_option maxRecDepth 100000 in
set_option maxHeartbeats 2000000 in
theorem Read_no (h : NoDisk w pv) (s : ByteArray) : Calls Tryz.prog 26 #[pv, .string s] w fun e w' => e = .returned (.tuple #[.slice none 0 0, .int .i64 1]) ∧ Below w.heap.size w w' := by
  have hF := find_no h s
  unfold zFile at hF
  go_enter Tryz.func26, Tryz.ntmps26
  go_wp2_with (go_at_call 66; refine hF.mono ?_; rintro e w1 ⟨rfl, hb1⟩)
  go_ret2
  exact ⟨rfl, hb1.alloc hb1.size _⟩
end
end Go.Proofs.YtbepcjajbcecnaaGreatDoor

/-
  PagesNumbers: raw, none.
-/
namespace Go.Proofs.YtbepcjajbcecnaaGreatDoor
open Go.RowKit Go.Maps Go.MapKept
set_option linter.unusedSimpArgs false

set_option maxRecDepth 100000 in
set_option maxHeartbeats 4000000 in
theorem raw5_any (w : World) (k n : Nat) (key : ByteArray) (pack pos long : Nat) (hk : k ≤ 9007199254740992) (hn : n ≤ 9007199254740992) (hkey : key.size ≤ 1000) (hp : pack ≤ 9007199254740992) (ha : pos < 9223372036854775808) (hl : long ≤ 9007199254740992) :
    Calls Tryz.prog 41 #[.int .i64 k, .int .i64 n, .string key, .int .i64 pack, .int .i64 pos, .int .i64 long] w fun e w' => ∃ a c, e = .returned (.agg #[.string ⟨#[105, 50]⟩, .slice a (rawB k n key pack pos long).length c]) ∧ Rd w' (.slice a (rawB k n key pack pos long).length c) (bcells (rawB k n key pack pos long)) ∧ Below w.heap.size w w' := by
  obtain ⟨o1, ho1⟩ : ∃ o, magicI ++ vint k = o := ⟨_, rfl⟩
  obtain ⟨o2, ho2⟩ : ∃ o, o1 ++ vint n = o := ⟨_, rfl⟩
  obtain ⟨o3, ho3⟩ : ∃ o, o2 ++ (vint key.data.toList.length ++ key.data.toList) = o := ⟨_, rfl⟩
  obtain ⟨o4, ho4⟩ : ∃ o, o3 ++ vint pack = o := ⟨_, rfl⟩
  obtain ⟨o5, ho5⟩ : ∃ o, o4 ++ vint pos = o := ⟨_, rfl⟩
  obtain ⟨o6, ho6⟩ : ∃ o, o5 ++ vint long = o := ⟨_, rfl⟩
  have hB : sealL sumL o6 = rawB k n key pack pos long := by
    unfold rawB entBytes
    rw [← ho6, ← ho5, ← ho4, ← ho3, ← ho2, ← ho1]
    simp only [List.append_assoc, size_list]
  have v1 : (vint k).length ≤ 10 := vint_len (by omega) (Nat.lt_of_le_of_lt hk (by decide))
  have v2 : (vint n).length ≤ 10 := vint_len (by omega) (Nat.lt_of_le_of_lt hn (by decide))
  have v3 : (vint key.data.toList.length).length ≤ 10 := vint_len (by decide) (Nat.lt_of_le_of_lt (by rw [size_list]; exact hkey) (by decide : 1000 < 128 ^ 10))
  have v4 : (vint pack).length ≤ 10 := vint_len (by omega) (Nat.lt_of_le_of_lt hp (by decide))
  have v5 : (vint pos).length ≤ 10 := vint_len (by omega) (Nat.lt_of_lt_of_le ha (by decide))
  have l1 : o1.length ≤ 100 := by rw [← ho1, List.length_append, show magicI.length = 4 from rfl]; omega
  have l2 : o2.length ≤ 200 := by rw [← ho2, List.length_append]; omega
  have hks : key.data.toList.length ≤ 1000 := by rw [size_list]; exact hkey
  have l3 : o3.length ≤ 2000 := by rw [← ho3, List.length_append, List.length_append]; omega
  have l4 : o4.length ≤ 3000 := by rw [← ho4, List.length_append]; omega
  have l5 : o5.length ≤ 4000 := by rw [← ho5, List.length_append]; omega
  have v6 : (vint long).length ≤ 10 := vint_len (by omega) (Nat.lt_of_le_of_lt hl (by decide))
  have l6 : o6.length ≤ 5000 := by rw [← ho6, List.length_append]; omega
  obtain ⟨B, hBe⟩ : ∃ B, rawB k n key pack pos long = B := ⟨_, rfl⟩
  rw [hBe] at hB ⊢
  have hR0 := alloc_at w (.cells #[.string ⟨#[]⟩, .slice none 0 0] 71)
  have hb0 : Below w.heap.size w (w.alloc (.cells #[.string ⟨#[]⟩, .slice none 0 0] 71)) := (Below.refl _ _).alloc (Nat.le_refl _) _
  have hU1 := fun (w : World) (v : Value) (hv : Rd w v (bcells magicI)) => uint_rd w v magicI o1 k ho1 hv (by decide) (by omega)
  have hU2 := fun (w : World) (v : Value) (hv : Rd w v (bcells o1)) => uint_rd w v o1 o2 n ho2 hv (by omega) (by omega)
  have hU3 := fun (w : World) (v vb : Value) (hv : Rd w v (bcells o2)) (hvb : Rd w vb (bcells key.data.toList)) => blob_rd w v vb o2 key.data.toList o3 ho3 hv hvb (by omega) (by omega)
  have hU4 := fun (w : World) (v : Value) (hv : Rd w v (bcells o3)) => uint_rd w v o3 o4 pack ho4 hv (by omega) (by omega)
  have hU5 := fun (w : World) (v : Value) (hv : Rd w v (bcells o4)) => uint_rd w v o4 o5 pos ho5 hv (by omega) (by omega)
  have hU6 := fun (w : World) (v : Value) (hv : Rd w v (bcells o5)) => uint_rd w v o5 o6 long ho6 hv (by omega) (by omega)
  have hS := fun (w : World) (v : Value) (hv : Rd w v (bcells o6)) => x1Seal_any w v o6 hv (by omega)
  rw [hB] at hS
  clear hB hBe ho1 ho2 ho3 ho4 ho5 ho6 v1 v2 v3 v4 v5 v6 l1 l2 l3 l4 l5 l6 hks
  obtain ⟨w0, hw0⟩ : ∃ y, w.alloc (.cells #[.string ⟨#[]⟩, .slice none 0 0] 71) = y := ⟨_, rfl⟩
  rw [hw0] at hR0 hb0
  have Hw0 := Lib.hid hw0
  clear hw0
  have hk0 : (0 : Int) ≤ k := by omega
  have hn0 : (0 : Int) ≤ n := by omega
  have hp0 : (0 : Int) ≤ pack := by omega
  have ha0 : (0 : Int) ≤ pos := by omega
  have hl0 : (0 : Int) ≤ long := by omega
  have kc := fun (w : World) (C : Array Value) (n c : Nat) => Lib.run_convert_bytes_const (P := Tryz.prog) w 25 5 C n c Tryz.underlying25 Tryz.underlying5
  go_enter Tryz.func41, Tryz.ntmps41
  go_upto_region 1 with fail
  (try rw [Hw0.out])
  go_wp2_with fail
  refine (hU1 _ _ (Rd_new w0 #[.int .u8 72, .int .u8 83, .int .u8 73, .int .u8 49] 5 (4, 5) (bcells magicI) 4 4 rfl rfl)).mono ?_
  rintro e w1 ⟨a1, c1, rfl, hr1, hb1⟩
  have hB1 : Below w0.heap.size w0 w1 := ((Below.refl _ _).alloc (Nat.le_refl _) _).trans (hb1.mono (by simp))
  dsimp only
  go_wp2_with fail
  refine (hU2 _ _ hr1).mono ?_
  rintro e w2 ⟨a2, c2, rfl, hr2, hb2⟩
  have hB2 := hB1.trans (hb2.mono hB1.size)
  dsimp only
  clear hU1 hU2 hr1 hb1
  go_wp2_with (refine wpList_str_bytes rfl (.tmp 23) 9 25 5 rfl key rfl Tryz.underlying9 Tryz.underlying25 Tryz.underlying5 ?_; intro w3 cc hb3 hs3 hc3 hcl3)
  have hB3 := hB2.trans (hb3.mono hB2.size)
  refine (hU3 _ _ _ (hr2.below hb3) (str_rd hcl3)).mono ?_
  rintro e w4 ⟨a4, c4, rfl, hr4, hb4⟩
  have hB4 := hB3.trans (hb4.mono hB3.size)
  dsimp only
  go_wp2_with fail
  refine (hU4 _ _ hr4).mono ?_
  rintro e w5 ⟨a5, c5, rfl, hr5, hb5⟩
  have hB5 := hB4.trans (hb5.mono hB4.size)
  dsimp only
  go_wp2_with fail
  refine (hU5 _ _ hr5).mono ?_
  rintro e w6 ⟨a6, c6, rfl, hr6, hb6⟩
  have hB6 := hB5.trans (hb6.mono hB5.size)
  dsimp only
  go_wp2_with fail
  refine (hU6 _ _ hr6).mono ?_
  rintro e w7 ⟨a7, c7, rfl, hr7, hb7⟩
  have hB7 := hB6.trans (hb7.mono hB6.size)
  dsimp only
  clear hU3 hU4 hU5 hU6 hr2 hr4 hr5 hr6 hcl3 hc3 hs3 hb3 hb2 hb4 hb5 hb6
  go_wp2_with fail
  refine (hS _ _ hr7).mono ?_
  rintro e w8 ⟨a8, c8, rfl, hr8, hb8⟩
  have hB8 := hB7.trans (hb8.mono hB7.size)
  dsimp only
  have hR8 := (hB8.block _ (blk_lt hR0)).trans hR0
  have hlt0 := blk_lt hR0
  obtain ⟨z0, z1, z2, z3⟩ := cells2 hR8
  have hU : Upd (· = w.heap.size) w8 ((w8.setCell ⟨w.heap.size, 0, none⟩ (.string ⟨#[105, 50]⟩)).setCell ⟨w.heap.size, 1, none⟩ (.slice a8 B.length c8)) := ((Upd.refl (· = w.heap.size) w8).setCell (p := ⟨w.heap.size, 0, none⟩) (Or.inl rfl) _).setCell (p := ⟨w.heap.size, 1, none⟩) (Or.inl rfl) _
  have hfin : Rd ((w8.setCell ⟨w.heap.size, 0, none⟩ (.string ⟨#[105, 50]⟩)).setCell ⟨w.heap.size, 1, none⟩ (.slice a8 B.length c8)) (.slice a8 B.length c8) (bcells B) := (Rd.ofOwns hr8).keep hU (fun k hk e => by have h1 := row_from hr8 hk; have h2 := hB7.size; omega)
  have hbel := hb0.trans ((hB8.mono hb0.size).trans (hU.below (N := w.heap.size) (fun k hk => by omega) (by have := hB8.size; omega)))
  have HF := Lib.hid (And.intro hfin hbel)
  clear hfin hbel hU hr8 hb8 hS hr7
  go_wp2_with fail
  exact bodyPost_ret (v := .agg #[.string ⟨#[105, 50]⟩, .slice a8 B.length c8]) (by simp [results, Tryz.results41, go_sem, z0, z1, z2, z3]) rfl ⟨_, _, rfl, HF.out.1, HF.out.2⟩
set_option maxRecDepth 100000 in
set_option maxHeartbeats 4000000 in
theorem none5_yes (w : World) (hE : WEnv w) (va : Value) (L : List AFile5) (hL : FilesAt5 w va L) (k : Int) (hk : isI64 k) (hb : ∀ x ∈ L, x.b.length ≤ 3000) (h14 : (pOpen (madeD L) k).2.2 = 14) (hn : (pOpen (madeD L) k).1.names.length = L.length) :
    Calls Tryz.prog 43 #[.int .i64 k, va] w fun e w' => e = .returned (.bool true) ∧ Below w.heap.size w w' := by
  obtain ⟨av, cv, rfl⟩ := SliceOf.shape hL
  obtain ⟨ex0, hex0⟩ : ∃ ex0 : Nat → Prop, ex0 = fun k => k < w.heap.size := ⟨_, rfl⟩
  have hx0 : ∀ k, ex0 k → k < w.heap.size := fun k hk => by rw [hex0] at hk; exact hk
  have hx1 : ∀ k, k < w.heap.size → ex0 k := fun k hk => by rw [hex0]; exact hk
  have hM := made5_any w ex0 _ L hL hx0 hx1 hb
  unfold MadePost refVal at hM
  obtain ⟨d0, hd0⟩ : ∃ d, madeD L = d := ⟨_, rfl⟩
  obtain ⟨r, hr⟩ : ∃ r, pOpen d0 k = r := ⟨_, rfl⟩
  rw [hd0] at hM
  rw [hd0, hr] at h14 hn
  obtain ⟨N, hN⟩ : ∃ N, L.length = N := ⟨_, rfl⟩
  rw [hN] at hn hM ⊢
  have HX := Lib.hid (And.intro hx0 hx1)
  have HR := Lib.hid (And.intro hr (And.intro h14 hn))
  clear hex0 hx0 hx1 hd0 hr h14 hn hN hL hb
  go_enter Tryz.func43, Tryz.ntmps43
  go_upto_region 2 with (go_at_call 33; refine hM.mono ?_; rintro e w1 ⟨p, m, a, n, c, exq, rfl, hqx, hD1, hR1, hK1⟩)
  have hb2 : Below w1.heap.size w1 (w1.alloc (.cells #[.int .i64 d0.most, .slice a n c, .int .i64 d0.left, .bool d0.down] 74)) := (Below.refl _ _).alloc (Nat.le_refl _) _
  obtain ⟨w2, hw2⟩ : ∃ y, w1.alloc (.cells #[.int .i64 d0.most, .slice a n c, .int .i64 d0.left, .bool d0.down] 74) = y := ⟨_, rfl⟩
  (try rw [hw2])
  rw [hw2] at hb2
  have hD2 := hD1.below hb2
  have hK2 : Keep ex0 w w2 := hK1.trans (Keep.ofBelow hb2 (fun k hk => hD1.lt (hqx k hk)))
  have hE2 := hE.below (hK2.below (fun k hk => HX.out.2 k hk))
  have hG : GlIn exq := hE.lt.mono (fun k hk => hqx _ (HX.out.2 k hk))
  have hOp := pgOpen_at hD2 hE2 hG k hk
  rw [HR.out.1] at hOp
  unfold OpenPost at hOp
  simp only [HR.out.2.1, if_neg (by decide : ¬ (14 : Int) = 0)] at hOp
  have H2 := Lib.hid (And.intro hqx hK2)
  clear hw2 hb2 hD1 hR1 hK1 hM hD2 hK2 hE2 hG hqx
  go_upto_region 3 with (go_at_call 16; refine hOp.mono ?_; rintro e w3 ⟨rfl, hD3, hK3⟩)
  have hLi := List_at hD3
  rw [HR.out.2.2] at hLi
  have hB3 : Below w.heap.size w w3 := (H2.out.2.trans (hK3.mono H2.out.1)).below (fun k hk => HX.out.2 k hk)
  clear hOp hD3 hK3
  go_wp2_with (go_at_call 15; refine hLi.mono ?_; rintro e w4 ⟨a4, c4, rfl, -, -, hb4⟩)
  go_ret
  exact ⟨rfl, hB3.trans (hb4.mono hB3.size)⟩
end Go.Proofs.YtbepcjajbcecnaaGreatDoor

/-
  PagesNumbers: many.
-/
namespace Go.Proofs.YtbepcjajbcecnaaGreatDoor
open Go.RowKit Go.Maps Go.MapKept
set_option linter.unusedSimpArgs false

theorem repeat5_one (b : UInt8) (c : Nat) : Lib.repeatL [b] c = List.replicate c b := by
  induction c with
  | zero => rfl
  | succ c ih => rw [Lib.repeatL, ih]; rfl
theorem rep5_any (w : World) (b : UInt8) (c : Nat) (hc : c ≤ 1000) :
    Calls Tryz.prog 44 #[.string ⟨#[b]⟩, .int .i64 c] w fun e w' => e = .returned (.string ⟨(List.replicate c b).toArray⟩) ∧ Below w.heap.size w w' := by
  match c, hc with
  | 0, _ => exact (Tryz.strings_Repeat_zero ⟨#[b]⟩ w).mono fun e w' he => ⟨he.1, by rw [he.2]; exact Below.refl _ _⟩
  | 1, _ => exact (Tryz.strings_Repeat_one ⟨#[b]⟩ w).mono fun e w' he => ⟨he.1, by rw [he.2]; exact Below.refl _ _⟩
  | c + 2, hc =>
    refine (Tryz.strings_Repeat_main ⟨#[b]⟩ (c + 2) w (by omega) (by omega) (by show 1 * (c + 2) ≤ _; omega) (by show 0 < 1; omega)).mono fun e w' he => ⟨?_, he.2⟩
    rw [he.1]
    show Ending.returned (.string ⟨(Lib.repeatL [b] (c + 2)).toArray⟩) = _
    rw [repeat5_one]
theorem rep5_int (w : World) (b : UInt8) (z : Int) (c : Nat) (hz : z = c) (hc : c ≤ 1000) :
    Calls Tryz.prog 44 #[.string ⟨#[b]⟩, .int .i64 z] w fun e w' => e = .returned (.string ⟨(List.replicate c b).toArray⟩) ∧ Below w.heap.size w w' := by
  subst hz; exact rep5_any w b c hc
theorem pOpen_new : pOpen (manyS 0).1 0 = ((manyS 0).1, (manyS 0).2.1, 0) := by kernel_rfl
theorem kRep_arr (i : Nat) : kRep i = ⟨Array.replicate (1 + i) 107⟩ := by unfold kRep; simp
theorem xN_parts (j yc zc : Nat) (z : Int) (hy : j / 26 % 50 = yc) (hz : j / 1300 = zc) (hc : 97 + (j : Int) % 26 = z) : ((⟨#[120]⟩ : ByteArray) ++ ⟨#[UInt8.ofNat z.toNat]⟩ ++ ⟨Array.replicate yc 121⟩ ++ ⟨Array.replicate zc 122⟩) = xN j := by
  subst hy hz hc
  rw [show (97 + (j : Int) % 26).toNat = 97 + j % 26 by omega]
  apply ByteArray.ext
  simp [xN, xName, ByteArray.data_append]
set_option maxRecDepth 100000 in
theorem conv_rune (w : World) (z : Int) (h0 : 97 ≤ z) (h1 : z ≤ 122) : Sem.run Tryz.prog (convert 21 9 (.int .i32 z)) w = Result.ok (.string ⟨#[UInt8.ofNat z.toNat]⟩) w := by
  rcases (by omega : z = 97 ∨ z = 98 ∨ z = 99 ∨ z = 100 ∨ z = 101 ∨ z = 102 ∨ z = 103 ∨ z = 104 ∨ z = 105 ∨ z = 106 ∨ z = 107 ∨ z = 108 ∨ z = 109 ∨ z = 110 ∨ z = 111 ∨ z = 112 ∨ z = 113 ∨ z = 114 ∨ z = 115 ∨ z = 116 ∨ z = 117 ∨ z = 118 ∨ z = 119 ∨ z = 120 ∨ z = 121 ∨ z = 122) with rfl | rfl | rfl | rfl | rfl | rfl | rfl | rfl | rfl | rfl | rfl | rfl | rfl | rfl | rfl | rfl | rfl | rfl | rfl | rfl | rfl | rfl | rfl | rfl | rfl | rfl
  all_goals rfl
set_option maxRecDepth 100000 in
set_option maxHeartbeats 8000000 in
theorem many5_yes (w : World) (hE : WEnv w) : Calls Tryz.prog 46 #[] w fun e w' => e = .returned (.bool true) ∧ Below w.heap.size w w' := by
  obtain ⟨ex0, hex0⟩ : ∃ ex0 : Nat → Prop, ex0 = fun k => k < w.heap.size := ⟨_, rfl⟩
  have hx0 : ∀ k, ex0 k → k < w.heap.size := fun k hk => by rw [hex0] at hk; exact hk
  have hx1 : ∀ k, k < w.heap.size → ex0 k := fun k hk => by rw [hex0]; exact hk
  have hG : GlIn ex0 := by rw [hex0]; exact hE.lt
  have HX := Lib.hid (And.intro hx0 hx1)
  have HE := Lib.hid (And.intro hE hG)
  have hO0 := Lib.hid pOpen_new
  clear hex0 hx0 hx1 hE hG
  go_enter Tryz.func46, Tryz.ntmps46
  go_upto_region 2 with (go_at_call 21; refine (New_at (ex := ex0) 4194304 (by decide) (by decide) HX.out.1).mono ?_; generalize hp : w.heap.size + 1 = p; generalize hm : w.heap.size = m; rintro e w1 ⟨rfl, hD1, hK1⟩; clear hp hm)
  have hOp := pgOpen_at hD1 (HE.out.1.keep hK1 HE.out.2) HE.out.2 0 (by unfold isI64; decide)
  rw [show (⟨4194304, -1, false, []⟩ : ADisk) = (manyS 0).1 from rfl, hO0.out] at hOp
  unfold OpenPost at hOp
  simp only [if_pos (rfl : (0 : Int) = 0)] at hOp
  go_upto_region 3 with (go_at_call 16; refine hOp.mono ?_; rintro e w2 ⟨q, rfl, hS2, hK2, _⟩)
  have H2 := Lib.hid (And.intro hS2 (hK1.trans hK2))
  clear hOp hD1 hK1 hS2 hK2
  go_wp2_with fail
  go_loopw [5, 6, 7] (fun iv _ _ wr => ∃ i : Nat, i ≤ 17 ∧ iv = .int .i64 i ∧ StoreAt ex0 wr q p m (manyS i).1 (manyS i).2.1 ∧ Keep ex0 w wr) (fun iv _ _ _ => 17 - (intOf iv).toNat)
  case atStart => exact ⟨0, by omega, rfl, H2.out.1, H2.out.2⟩
  case round =>
    obtain ⟨i, hi, rfl, hS, hK⟩ := hrel
    obtain ⟨wq, rfl⟩ : ∃ x, x = wr := ⟨_, rfl⟩
    clear H2
    by_cases hlt : i < 17
    · obtain ⟨d, st, st1, d2, st2, m1, m2, m3, m4, m5, m6⟩ := manyS_go i hlt
      rw [m1] at hS
      have hltI : (i : Int) < 17 := by omega
      have hi0 : (0 : Int) ≤ (i : Int) := by omega
      have hw8 : (i : Int) % 256 = (i : Int) := by omega
      have hu8 : ((UInt8.ofNat i).toNat : Int) = (i : Int) := by simp [UInt8.toNat_ofNat]; omega
      have hRp := fun w => rep5_int w 107 (1 + (i : Int)) (1 + i) (by omega) (by omega)
      have HS := Lib.hid (And.intro hS (And.intro hK m6))
      have HM := Lib.hid (And.intro m2 (And.intro m3 (And.intro m4 m5)))
      clear hS hK m1 m2 m3 m4 m5 m6
      go_wp2_with (go_at_call 44; refine (hRp _).mono ?_; rintro e w3 ⟨rfl, hb3⟩)
      have hS4 := (HS.out.1.below hb3).below ((Below.refl w3.heap.size w3).alloc (Nat.le_refl _) (.cells #[.int .u8 (i : Int)] 5))
      have hP := put_by (s := kRep i) (vb := .slice (some ⟨w3.heap.size, 0, none⟩) 1 1) (b := [UInt8.ofNat i]) 0 hS4 HM.out.1 (by rw [kRep_arr]; show (Array.replicate (1 + i) (107 : UInt8)).size ≤ maxLen; simp only [Array.size_replicate, maxLen]; omega) (Rd_new w3 #[.int .u8 (i : Int)] 5 _ (bcells [UInt8.ofNat i]) 1 1 (by show [Value.int .u8 (i : Int)] = [Value.int .u8 ((UInt8.ofNat i).toNat : Int)]; rw [hu8]) rfl) (by simp) HM.out.2.1
      have hK4 : Keep ex0 w (w3.alloc (.cells #[.int .u8 (i : Int)] 5)) := (HS.out.2.1.trans (Keep.ofBelow hb3 (fun k hk => HS.out.1.lt hk))).trans (Keep.ofBelow ((Below.refl w3.heap.size w3).alloc (Nat.le_refl _) _) (fun k hk => (HS.out.1.below hb3).lt hk))
      rw [kRep_arr] at hP
      have HK4 := Lib.hid hK4
      clear hK4 hb3 hS4 hRp
      go_upto_region 10 with (refine hP.mono ?_; rintro e w4 ⟨rfl, hS4, hK4⟩)
      have hK5 := HK4.out.trans hK4
      have hC := pgCommit_at hS4 HM.out.2.2.1 (HE.out.1.keep hK5 HE.out.2) HE.out.2
      rw [HM.out.2.2.2] at hC
      unfold CmPost at hC
      simp only at hC
      have HK5 := Lib.hid hK5
      clear hK4 hS4 hP hK5
      go_wp2_with (go_at_call 14; refine hC.mono ?_; rintro e w5 ⟨rfl, hS5, hK6⟩)
      go_roundw
      case rel => exact ⟨i + 1, by omega, by go_num, by rw [HS.out.2.2]; exact hS5, HK5.out.trans hK6⟩
      case measure => simp [intOf]; omega
    · obtain rfl : i = 17 := by omega
      have hF := free_by (ns := nsM) 0 hS (HE.out.1.keep hK HE.out.2) HE.out.2 freeM
      rw [factsM.1] at hF
      have HK := Lib.hid hK
      clear hK hS
      go_upto_region 14 with (go_at_call 19; refine hF.mono ?_; rintro e w3 ⟨af, cf, rfl, hrf, hS3, hK3⟩)
      have hRd := Read_at nC17 hS3.disk (by decide)
      rw [factsM.2.1] at hRd
      have H3 := Lib.hid (And.intro (hS3.mono (ex' := ex0) (fun k hk => Or.inl hk)) (HK.out.trans hK3))
      clear hF hS3 hK3 hrf
      go_upto_region 15 with (go_at_call 26; refine hRd.mono ?_; rintro e w4 ⟨ar, cr, rfl, -, hb4⟩)
      have H4 := Lib.hid (And.intro (H3.out.1.below hb4) (H3.out.2.trans (Keep.ofBelow hb4 (fun k hk => H3.out.1.lt hk))))
      clear hRd hb4
      go_wp2_with fail
      go_loopw [12] (fun jv wr => ∃ (j : Nat) (st : AStore), j ≤ 4079 ∧ jv = .int .i64 j ∧ XSt j st ∧ StoreAt ex0 wr q p m dM st ∧ Keep ex0 w wr) (fun jv _ => 4079 - (intOf jv).toNat)
      case atStart => exact ⟨0, stM, by omega, rfl, XSt.start, H4.out.1, H4.out.2⟩
      case round =>
        obtain ⟨j, st, hj, rfl, hX, hS, hK⟩ := hrel
        obtain ⟨wz, rfl⟩ : ∃ x, x = wr := ⟨_, rfl⟩
        by_cases hlt : j < 4079
        · obtain ⟨st', hp, hX'⟩ := hX.next hlt
          have hltI : (j : Int) < 4079 := by omega
          have hj0 : (0 : Int) ≤ (j : Int) := by omega
          obtain ⟨yc, hyc⟩ : ∃ n, j / 26 % 50 = n := ⟨_, rfl⟩
          obtain ⟨zc, hzc⟩ : ∃ n, j / 1300 = n := ⟨_, rfl⟩
          have q1 : ((j : Int) / 26) % 50 = (yc : Int) := by omega
          have q2 : (j : Int) / 1300 = (zc : Int) := by omega
          have hY := fun w => rep5_any w 121 yc (by omega)
          have hZ := fun w => rep5_any w 122 zc (by omega)
          have Hyc := Lib.hid (And.intro hyc hzc)
          clear hyc hzc
          obtain ⟨z, hz⟩ : ∃ z : Int, 97 + (j : Int) % 26 = z := ⟨_, rfl⟩
          have hz0 : 97 ≤ z := by omega
          have hz1 : z ≤ 122 := by omega
          have hcv := fun w => conv_rune w z hz0 hz1
          have HS := Lib.hid (And.intro hS (And.intro hK (And.intro hX (And.intro hX' hp))))
          clear hS hK hX hX' hp
          go_wp2_with (first
            | (go_at_call 44; (with_reducible refine (hY _).mono ?_); rintro e w5 ⟨rfl, hb5⟩)
            | (go_at_call 44; (with_reducible refine (hZ _).mono ?_); rintro e w6 ⟨rfl, hb6⟩))
          have hB6 : Below wz.heap.size wz w6 := hb5.trans (hb6.mono hb5.size)
          have hP := put_by (s := xN j) (vb := .slice none 0 0) (b := []) 0 (HS.out.1.below hB6) HS.out.2.2.1.ok (by have := (xN_size hlt).1; simp only [maxLen]; omega) (Or.inl ⟨Or.inl rfl, rfl⟩) (by simp) HS.out.2.2.2.2
          rw [← xN_parts j yc zc z Hyc.out.1 Hyc.out.2 hz] at hP
          have HK6 := Lib.hid (HS.out.2.1.trans (Keep.ofBelow hB6 (fun k hk => HS.out.1.lt hk)))
          have HX' := Lib.hid HS.out.2.2.2.1
          clear hB6 hb5 hb6 hY hZ hcv q1 q2
          go_wp2_with (go_at_call 23; refine hP.mono ?_; rintro e w7 ⟨rfl, hS7, hK7⟩)
          go_roundw
          case rel => exact ⟨j + 1, st', by omega, by go_num, HX'.out, hS7, HK6.out.trans hK7⟩
          case measure => simp [intOf]; omega
        · obtain rfl : j = 4079 := by omega
          obtain ⟨hf1, st2, hf2⟩ := hX.full
          have hLi := List_at hS.disk
          rw [factsM.2.2.1] at hLi
          have HS := Lib.hid (And.intro hS (And.intro hK (And.intro hX (And.intro hf1 hf2))))
          clear hS hK hX hf1 hf2
          go_upto_region 20 with fail
          go_wp2_with (first
            | (go_at_call 15; (with_reducible refine hLi.mono ?_); rintro e w5 ⟨a5, c5, rfl, hr5, -, hb5⟩; have hB5 := (Below.refl wz.heap.size wz).trans hb5; have hST := SameTexts_yes (w5.alloc (.cells #[.string ⟨#[99, 49, 55]⟩, .string ⟨#[105, 49, 55]⟩] 9)) (.slice a5 2 c5) (.slice (some ⟨w5.heap.size, 0, none⟩) 2 2) [nC17, nI17] ((Rd.ofOwns hr5).below ((Below.refl w5.heap.size w5).alloc (Nat.le_refl _) _)) (Rd_new w5 #[.string ⟨#[99, 49, 55]⟩, .string ⟨#[105, 49, 55]⟩] 9 _ (sCells [nC17, nI17]) 2 2 rfl rfl) (by decide))
            | (go_at_call 25; (with_reducible refine hST.mono ?_); rintro e w6 ⟨rfl, hb6⟩; have hB6 : Below wz.heap.size wz w6 := (hB5.alloc hB5.size _).trans (hb6.mono (by have := hB5.size; simp; omega)); have hKe := pgKeys_at (HS.out.1.below hB6) HS.out.2.2.1.ok; unfold KeysPost at hKe; have hn : st.names.length = 4096 := (by unfold AStore.names; rw [List.length_map, HS.out.2.2.1.len]); rw [hn] at hKe)
            | (go_at_call 20; (with_reducible refine hKe.mono ?_); rintro e w7 ⟨a7, c7, rfl, -, hb7⟩; have hB7 : Below wz.heap.size wz w7 := hB6.trans (hb7.mono hB6.size); have hP1 := put_by (s := moreK) (vb := .slice none 0 0) (b := []) 5 (HS.out.1.below hB7) HS.out.2.2.1.ok (by decide) (Or.inl ⟨Or.inl rfl, rfl⟩) (by simp) HS.out.2.2.2.1)
            | (go_at_call 23; refine hP1.mono ?_; rintro e w8 ⟨rfl, hS8, hK8⟩; have hP2 := put_by (s := nK) (vb := .slice none 0 0) (b := []) 0 hS8 HS.out.2.2.1.ok (by decide) (Or.inl ⟨Or.inl rfl, rfl⟩) (by simp) HS.out.2.2.2.2; clear hP1)
            | (go_at_call 23; refine hP2.mono ?_; rintro e w9 ⟨rfl, hS9, hK9⟩))
          go_ret
          exact ⟨rfl, (((HS.out.2.1.trans (Keep.ofBelow hB7 (fun k hk => HS.out.1.lt hk))).trans hK8).trans hK9).below (fun k hk => HX.out.2 k hk)⟩
end Go.Proofs.YtbepcjajbcecnaaGreatDoor

/-
  PagesNumbers, plainly: limits, a full disk, a power that fails. No program here.
-/
namespace Go.Proofs.YtbepcjajbcecnaaGreatDoor

def k60 : ByteArray := ⟨(List.replicate 60 (107 : UInt8)).toArray⟩
def k61 : ByteArray := ⟨(List.replicate 61 (107 : UInt8)).toArray⟩
def nZ : ByteArray := ⟨#[122]⟩
def nNone : ByteArray := ⟨#[110, 111, 110, 101]⟩
def st10 : AStore := (pPut st9 k60 []).1
theorem lim1 : pPut st9 ⟨#[]⟩ [] = (st9, 2) ∧ pPut st9 k61 [] = (st9, 2) ∧ okS st9 = true ∧ okS st10 = true ∧ st10.over = false ∧ (pPut st9 k60 []).2 = 0 ∧ kB st10.keys nZ = none ∧ st10.keys.length = 2 := by decide +kernel
theorem lim2 : pPut st9 k60 [] = (st10, 0) := Prod.ext rfl lim1.2.2.2.2.2.1
theorem lim3 (Z : List UInt8) (h : Z.length = 1048577) : pPut st10 nZ Z = (st10, 3) := by
  unfold pPut
  rw [if_neg (by rw [lim1.2.2.2.2.1]; decide), if_neg (by decide), if_pos (by omega)]
def st11 (Z : List UInt8) : AStore := { st10 with keys := putB st10.keys nZ ⟨Z, 0, 0⟩ }
theorem lim4 (Z : List UInt8) (h : Z.length = 1048576) : pPut st10 nZ Z = (st11 Z, 0) := by
  show pPut st10 nZ Z = ({ st10 with keys := putB st10.keys nZ ⟨Z, 0, 0⟩ }, 0)
  unfold pPut
  rw [if_neg (by rw [lim1.2.2.2.2.1]; decide), if_neg (by decide), if_neg (by omega), if_neg (by rw [lim1.2.2.2.2.2.2.2]; omega)]
theorem st11_ok (Z : List UInt8) (h : Z.length = 1048576) : (st11 Z).Ok := by
  have h0 := okS_ok lim1.2.2.2.1
  refine ⟨h0.k, ?_, sorted_putB (fs := st10.keys) h0.sorted nZ ⟨Z, 0, 0⟩, fun p hp => ?_⟩
  · show (putB st10.keys nZ _).length ≤ 4096
    rw [length_putB h0.sorted, lim1.2.2.2.2.2.2.1, lim1.2.2.2.2.2.2.2]; decide
  · rcases mem_putB hp with rfl | hp
    · exact ⟨by simp, by simp, (by omega : Z.length ≤ 1048576), (by decide : nZ.size ≤ 60)⟩
    · exact h0.blob p hp
def st12 (Z : List UInt8) : AStore := { st11 Z with keys := delB (st11 Z).keys nNone }
theorem lim5 (Z : List UInt8) : pDrop (st11 Z) ⟨#[]⟩ = (st11 Z, 2) ∧ pDrop (st11 Z) nNone = (st12 Z, 0) := by
  have h : (st11 Z).over = false := lim1.2.2.2.2.1
  constructor
  · unfold pDrop; rw [if_neg (by rw [h]; decide), if_pos (by decide)]
  · unfold pDrop; rw [if_neg (by rw [h]; decide), if_neg (by decide)]; rfl
/-! ### a disk that is full -/
def dS : ADisk := ⟨60, -1, false, []⟩
def stS : AStore := ⟨0, [], [], false⟩
def stS1 : AStore := (pPut stS nK (List.replicate 61 0)).1
def dS2 : ADisk := (pCommit dS stS1).1
def stS2 : AStore := (pCommit dS stS1).2.1
theorem small_open : pOpen dS 0 = (dS, stS, 0) := by kernel_rfl
theorem small_put : pPut stS nK (List.replicate 61 0) = (stS1, 0) := by
  have h : (pPut stS nK (List.replicate 61 0)).2 = 0 := by decide +kernel
  exact Prod.ext rfl h
theorem small_ok : okS stS = true ∧ okS stS1 = true ∧ okS stS2 = true ∧ stS2.over = true := by decide +kernel
theorem small_commit : pCommit dS stS1 = (dS2, stS2, 0, 5) := by
  have h : (pCommit dS stS1).2.2.1 = 0 ∧ (pCommit dS stS1).2.2.2 = 5 := by decide +kernel
  exact Prod.ext rfl (Prod.ext rfl (Prod.ext h.1 h.2))
theorem small_free : pFreeC dS2 stS2 = (dS2, stS2, [], 16) := by unfold pFreeC; rw [if_pos small_ok.2.2.2]
theorem small_over (b : List UInt8) : pPut stS2 nK b = (stS2, 16) ∧ pDrop stS2 nK = (stS2, 16) := by
  constructor
  · unfold pPut; rw [if_pos small_ok.2.2.2]
  · unfold pDrop; rw [if_pos small_ok.2.2.2]
/-! ### a power that fails -/
def dX1 : ADisk := (d9.arm 0).sync ⟨#[120]⟩
def dX2 : ADisk := (pOpen dX1 2).1
theorem fails_open : (pOpen dX1 2).2.2 = 15 ∧ (pOpen dX2 0).2.2 = 15 := by decide +kernel
end Go.Proofs.YtbepcjajbcecnaaGreatDoor

/-
  PagesNumbers: Open of no disk, Open beside a store, files in a new row.
-/
namespace Go.Proofs.YtbepcjajbcecnaaGreatDoor
open Go.RowKit Go.Maps Go.MapKept
set_option linter.unusedSimpArgs false

set_option maxRecDepth 100000 in
set_option maxHeartbeats 2000000 in
theorem pgload_nil (w : World) (hE : WEnv w) :
    Calls Tryz.prog 60 #[.pointer none, .int .i64 0] w fun e w' => e = .returned (.tuple #[.map none, .int .i64 1]) ∧ Below w.heap.size w w' := by
  have hB0 : Below w.heap.size w (w.alloc (.map #[] 0)) := (Below.refl _ _).alloc (Nat.le_refl _) _
  have hF := pgfile_any (w.alloc (.map #[] 0)) 105 0 (by decide) (hE.below hB0)
  rw [show (((0 : Nat) : Int)) = 0 from rfl] at hF
  obtain ⟨s, hs⟩ : ∃ s, pgName 105 0 = s := ⟨_, rfl⟩
  rw [hs] at hF
  have hR := fun w2 => Read_no (w := w2) (Or.inl rfl) s
  have hmm := @run_makeMap Tryz.prog
  have HF := Lib.hid hF
  have HR := Lib.hid hR
  clear hF hR hs
  go_enter Tryz.func60, Tryz.ntmps60
  go_wp2_with first
    | (go_at_call 52; refine HF.out.mono ?_; rintro e w2 ⟨rfl, hB2⟩)
    | (go_at_call 26; refine (HR.out w2).mono ?_; rintro e w3 ⟨rfl, hB3⟩)
  go_ret2
  have h12 : Below w.heap.size w w2 := hB0.trans (hB2.mono hB0.size)
  exact ⟨rfl, h12.trans (hB3.mono h12.size)⟩
set_option maxRecDepth 100000 in
set_option maxHeartbeats 2000000 in
theorem pgOpen_nil (w : World) (hE : WEnv w) :
    Calls Tryz.prog 16 #[.pointer none, .int .i64 0] w fun e w' => e = .returned (.tuple #[.pointer none, .int .i64 1]) ∧ Below w.heap.size w w' := by
  have hL := pgload_nil w hE
  go_enter Tryz.func16, Tryz.ntmps16
  go_wp2_with (go_at_call 60; refine hL.mono ?_; rintro e w1 ⟨rfl, hB1⟩)
  go_ret2
  exact ⟨rfl, hB1⟩
section
variable {ex : Nat → Prop} {w : World} {q p m : Nat} {d : ADisk} {st : AStore}
/-- Open that fails, of a disk that a store has. -/
theorem open_beside (h : StoreAt ex w q p m d st) (hE : WEnv w) (hG : GlIn ex) (k : Int) (hk : isI64 k) (er : Int) (he : er ≠ 0) (d' : ADisk) (hr : (pOpen d k).2.2 = er) (hd : (pOpen d k).1 = d') :
    Calls Tryz.prog 16 #[.pointer (some ⟨p, 0, none⟩), .int .i64 k] w fun e w' => e = .returned (.tuple #[.pointer none, .int .i64 er]) ∧ StoreAt ex w' q p m d' st ∧ Keep ex w w' := by
  obtain ⟨mk, mh, S, g, hv⟩ := h
  have hO := pgOpen_at hv.disk hE (hG.mono (fun _ h => Or.inl h)) k hk
  refine hO.mono fun e w' hp => ?_
  unfold OpenPost at hp
  rw [hr, if_neg he, hd] at hp
  obtain ⟨h1, h2, h3⟩ := hp
  obtain ⟨h4, h5⟩ := hv.disk_turned h2 h3
  exact ⟨h1, ⟨mk, mh, S, g, h4⟩, h5⟩
/-- a call upon a store's own disk. -/
theorem sync_beside (h : StoreAt ex w q p m d st) (s : ByteArray) (hs : s.size ≤ maxLen) :
    Calls Tryz.prog 45 #[.pointer (some ⟨p, 0, none⟩), .string s] w fun e w' => e = .returned (.int .i64 (d.syncErr s)) ∧ StoreAt ex w' q p m (d.sync s) st ∧ Keep ex w w' := by
  obtain ⟨mk, mh, S, g, hv⟩ := h
  refine (Sync_at s hv.disk hs).mono fun e w' ⟨h1, h2, h3⟩ => ?_
  obtain ⟨h4, h5⟩ := hv.disk_turned h2 h3
  exact ⟨h1, ⟨mk, mh, S, g, h4⟩, h5⟩
theorem arm_beside (h : StoreAt ex w q p m d st) (n : Int) (hn0 : -9223372036854775808 ≤ n) (hn1 : n ≤ 9223372036854775807) :
    Calls Tryz.prog 34 #[.pointer (some ⟨p, 0, none⟩), .int .i64 n] w fun e w' => e = .returned (.tuple #[]) ∧ StoreAt ex w' q p m (d.arm n) st ∧ Keep ex w w' := by
  obtain ⟨mk, mh, S, g, hv⟩ := h
  refine (Arm_at n hv.disk hn0 hn1).mono fun e w' ⟨h1, h2, h3⟩ => ?_
  obtain ⟨h4, h5⟩ := hv.disk_turned h2 h3
  exact ⟨h1, ⟨mk, mh, S, g, h4⟩, h5⟩
end
theorem StoreAt.moreU {ex ex' fp : Nat → Prop} {w w' : World} {q p m : Nat} {d : ADisk} {st : AStore} (h : StoreAt ex w q p m d st) (hu : Upd fp w w') (hf : ∀ k, k < w.heap.size → fp k → ex k) (hx : ∀ k, ex' k → ex k ∨ w.heap.size ≤ k ∧ k < w'.heap.size) : StoreAt ex' w' q p m d st := let ⟨a, b, c, e, hv⟩ := h; ⟨a, b, c, e, hv.more_upd hu hf hx⟩
def set4n (w : World) (r : Nat) (v0 v1 v2 v3 : Value) : World := (((w.setCell ⟨r, 0, none⟩ v0).setCell ⟨r, 1, none⟩ v1).setCell ⟨r, 2, none⟩ v2).setCell ⟨r, 3, none⟩ v3
theorem set4n_upd (w : World) (r : Nat) (v0 v1 v2 v3 : Value) : Upd (· = r) w (set4n w r v0 v1 v2 v3) := ((((Upd.refl (· = r) w).setCell (p := ⟨r, 0, none⟩) (Or.inl rfl) _).setCell (p := ⟨r, 1, none⟩) (Or.inl rfl) _).setCell (p := ⟨r, 2, none⟩) (Or.inl rfl) _).setCell (p := ⟨r, 3, none⟩) (Or.inl rfl) _
def flat2 (L : List AFile5) : List Value := L.flatMap AFile5.cells
theorem flat2_at (l : List AFile5) (k : Nat) (hk : k < l.length) (j : Nat) (hj : j < 2) : (flat2 l)[k * 2 + j]? = l[k].cells[j]? := by
  induction l generalizing k with
  | nil => simp at hk
  | cons a l ih =>
    have hc : flat2 (a :: l) = a.cells ++ flat2 l := by simp [flat2]
    rw [hc]
    have ha : a.cells.length = 2 := rfl
    cases k with
    | zero => rw [List.getElem?_append_left (by rw [ha]; omega)]; simp
    | succ k =>
      rw [List.getElem?_append_right (by rw [ha]; omega), ha, show (k + 1) * 2 + j - 2 = k * 2 + j by omega, ih k (by simpa using hk)]
      simp
/-- files in a new row. -/
theorem files_new (w : World) (L : List AFile5) (cs : Array Value) (T : TypeId) (n : Nat) (hn : n = L.length) (h : cs.toList = flat2 L) (hl : n ≤ 100) (hok : ∀ x ∈ L, FileOk5 w x) : FilesAt5 (w.alloc (.cells cs T)) (.slice (some ⟨w.heap.size, 0, none⟩) n n) L := by
  have hb : Below w.heap.size w (w.alloc (.cells cs T)) := (Below.refl _ _).alloc (Nat.le_refl _) _
  refine Or.inr ⟨w.heap.size, 0, n, n, rfl, hn, by simp only [maxLen]; omega, fun j q hj => ?_⟩
  have hjl := (List.getElem?_eq_some_iff.1 hj).1
  have hjq : L[j] = q := (List.getElem?_eq_some_iff.1 hj).2
  refine ⟨q.cells, rfl, fun i u hu => ?_, rfl, ?_⟩
  · have hi : i < 2 := (List.getElem?_eq_some_iff.1 hu).1
    rw [Nat.zero_add, cell_at (alloc_at w _)]
    have h1 := flat2_at L j hjl i hi
    rw [hjq, hu, ← h] at h1
    simpa using h1
  · have := hok q (hjq ▸ List.getElem_mem hjl)
    exact { this with rd := this.rd.below hb }
theorem none5_by (w : World) (hE : WEnv w) (va : Value) (L : List AFile5) (hL : FilesAt5 w va L) (k : Int) (hk : isI64 k) (l : List (ByteArray × List UInt8)) (hm : L.map (fun x => (x.name, x.b)) = l) (hb : ∀ x ∈ L, x.b.length ≤ 3000) (h : none14 l k = true) :
    Calls Tryz.prog 43 #[.int .i64 k, va] w fun e w' => e = .returned (.bool true) ∧ Below w.heap.size w w' := by
  unfold none14 at h
  simp only [Bool.and_eq_true, decide_eq_true_eq] at h
  rw [← madeD_N L l hm] at h
  exact none5_yes w hE va L hL k hk hb h.1 (by rw [h.2, ← hm, List.length_map])
theorem make5_n (n : Nat) (hn : n ≤ 140737488355328) : ∃ C : Array Value, (∀ w : World, (Instr.makeSlice 25 (.int .i64 n) (.int .i64 n)).run Tryz.prog w = .ok (.slice (some ⟨w.heap.size, 0, none⟩) n n) (w.alloc (.cells C 5))) ∧
    ∀ w : World, Rd (w.alloc (.cells C 5)) (.slice (some ⟨w.heap.size, 0, none⟩) n n) (bcells (List.replicate n 0)) := by
  refine ⟨Array.replicate n (Value.int .u8 0), fun w => make_u8 n n (Nat.le_refl _) (by omega) w, fun w => ?_⟩
  refine Rd_new _ _ _ _ _ _ _ ?_ (by simp [bcells])
  simp [bcells]
theorem make5_lit (n : Nat) (z : Int) (hz : (n : Int) = z) (hn : n ≤ 140737488355328) : ∃ C : Array Value, (∀ w : World, (Instr.makeSlice 25 (.int .i64 z) (.int .i64 z)).run Tryz.prog w = .ok (.slice (some ⟨w.heap.size, 0, none⟩) n n) (w.alloc (.cells C 5))) ∧
    ∀ w : World, Rd (w.alloc (.cells C 5)) (.slice (some ⟨w.heap.size, 0, none⟩) n n) (bcells (List.replicate n 0)) := by
  subst hz; exact make5_n n hn
/-- the blobs of zeros. -/
theorem make5_most : ∃ (C C2 C3 : Array Value) (Z Z2 : List UInt8), Z.length = 1048576 ∧ Z2.length = 1048577 ∧
    (∀ w : World, (Instr.makeSlice 25 (.int .i64 1048576) (.int .i64 1048576)).run Tryz.prog w = .ok (.slice (some ⟨w.heap.size, 0, none⟩) 1048576 1048576) (w.alloc (.cells C 5))) ∧
    (∀ w : World, Rd (w.alloc (.cells C 5)) (.slice (some ⟨w.heap.size, 0, none⟩) 1048576 1048576) (bcells Z)) ∧
    (∀ w : World, (Instr.makeSlice 25 (.int .i64 1048577) (.int .i64 1048577)).run Tryz.prog w = .ok (.slice (some ⟨w.heap.size, 0, none⟩) 1048577 1048577) (w.alloc (.cells C2 5))) ∧
    (∀ w : World, Rd (w.alloc (.cells C2 5)) (.slice (some ⟨w.heap.size, 0, none⟩) 1048577 1048577) (bcells Z2)) ∧
    (∀ w : World, (Instr.makeSlice 25 (.int .i64 61) (.int .i64 61)).run Tryz.prog w = .ok (.slice (some ⟨w.heap.size, 0, none⟩) 61 61) (w.alloc (.cells C3 5))) ∧
    ∀ w : World, Rd (w.alloc (.cells C3 5)) (.slice (some ⟨w.heap.size, 0, none⟩) 61 61) (bcells (List.replicate 61 0)) := by
  obtain ⟨n, hn⟩ : ∃ n : Nat, n = 1048576 := ⟨_, rfl⟩
  obtain ⟨m, hm⟩ : ∃ m : Nat, m = 1048577 := ⟨_, rfl⟩
  obtain ⟨C, h1, h2⟩ := make5_lit n 1048576 (by omega) (by omega)
  obtain ⟨C2, h3, h4⟩ := make5_lit m 1048577 (by omega) (by omega)
  obtain ⟨C3, h5, h6⟩ := make5_lit 61 61 rfl (by omega)
  obtain ⟨Z, hZ⟩ : ∃ Z, List.replicate n (0 : UInt8) = Z := ⟨_, rfl⟩
  obtain ⟨Z2, hZ2⟩ : ∃ Z2, List.replicate m (0 : UInt8) = Z2 := ⟨_, rfl⟩
  have e1 : Z.length = n := by rw [← hZ, List.length_replicate]
  have e2 : Z2.length = m := by rw [← hZ2, List.length_replicate]
  rw [hZ] at h2
  rw [hZ2] at h4
  rw [hn] at h1 h2 e1
  rw [hm] at h3 h4 e2
  exact ⟨C, C2, C3, Z, Z2, e1, e2, h1, h2, h3, h4, h5, h6⟩
end Go.Proofs.YtbepcjajbcecnaaGreatDoor
