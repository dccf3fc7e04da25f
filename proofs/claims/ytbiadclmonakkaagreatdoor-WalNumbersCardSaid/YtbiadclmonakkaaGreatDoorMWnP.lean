/-
  What New did not make: nil, or a disk of zeros: the walks of each call.
-/
import Derived.Outline
import Derived.Test.YtbiadclmonakkaaGreatDoorMLoA
import Derived.Test.YtbiadclmonakkaaGreatDoorMWlA
import Derived.Test.YtbiadclmonakkaaGreatDoorMByA
import Derived.Test.YtbiadclmonakkaaGreatDoorMWmA
namespace Go.Proofs.YtbiadclmonakkaaGreatDoor
open Go.RowKit Go.Maps Go.MapKept

/-- no disk: nil, or one without a map. -/
def NoDisk (w : World) (pv : Value) : Prop :=
  pv = .pointer none ∨ ∃ p l x, pv = .pointer (some ⟨p, 0, none⟩) ∧ w.heap[p]? = some (.cells #[.int .i64 l, .bool false, .map none, .int .i64 x] 117 (0, 0))
theorem NoDisk.below {w w' : World} {pv : Value} (h : NoDisk w pv) (hb : Below w.heap.size w w') : NoDisk w' pv := by
  rcases h with h | ⟨p, l, x, h1, h2⟩
  · exact Or.inl h
  · exact Or.inr ⟨p, l, x, h1, (hb.block p (blk_lt h2)).trans h2⟩
theorem NoDisk.alloc {w : World} {pv : Value} (h : NoDisk w pv) (o : Obj) : NoDisk (w.alloc o) pv := h.below ((Below.refl _ _).alloc (Nat.le_refl _) o)

section
variable {w : World} {pv : Value}

set_option maxRecDepth 100000 in
set_option maxHeartbeats 2000000 in
theorem find_no (h : NoDisk w pv) (s : ByteArray) : Calls Tryz.prog 48 #[pv, .string s] w fun e w' => e = .returned (.tuple #[zFile, .int .i64 1]) ∧ Below w.heap.size w w' := by
  have hen := fun (w : World) => run_eql_map_nil (P := Tryz.prog) w 113 9 91 none Tryz.underlying113
  rcases h with rfl | ⟨p, l, x, rfl, hp⟩
  · go_enter Tryz.func48, Tryz.ntmps48
    go_wp2
    exact bodyPost_ret (v := .tuple #[zFile, .int .i64 1]) (by simp [results, Tryz.results48, go_sem, zFile]) rfl ⟨rfl, (Below.refl _ _).alloc (Nat.le_refl _) _⟩
  · obtain ⟨q0, q1, q2, q3, _⟩ := cells4 hp
    have hlt := blk_lt hp
    clear hp
    go_enter Tryz.func48, Tryz.ntmps48
    go_wp2
    exact bodyPost_ret (v := .tuple #[zFile, .int .i64 1]) (by simp [results, Tryz.results48, go_sem, zFile]) rfl ⟨rfl, (Below.refl _ _).alloc (Nat.le_refl _) _⟩

set_option maxRecDepth 100000 in
set_option maxHeartbeats 2000000 in
theorem Read_no (h : NoDisk w pv) (s : ByteArray) : Calls Tryz.prog 51 #[pv, .string s] w fun e w' => e = .returned (.tuple #[.slice none 0 0, .int .i64 1]) ∧ Below w.heap.size w w' := by
  have hF := find_no h s
  unfold zFile at hF
  go_enter Tryz.func51, Tryz.ntmps51
  go_wp2_with (go_at_call 48; refine hF.mono ?_; rintro e w1 ⟨rfl, hb1⟩)
  go_ret2
  exact ⟨rfl, hb1.alloc hb1.size _⟩
end
end Go.Proofs.YtbiadclmonakkaaGreatDoor

/-
  WalNumbers, plainly: the fixed journals. No program here.
-/
namespace Go.Proofs.YtbiadclmonakkaaGreatDoor

/-- a segment of a number with so many records, and bytes behind them. -/
def wFileB (first records : Nat) (behind : List UInt8) : List UInt8 := wHead sumL first ++ (wFrames sumL first (List.replicate records [97, 98, 99]) ++ behind)
def madeW (l : List (ByteArray × List UInt8)) : ADisk := l.foldl (fun d x => d.append x.1 x.2) ⟨4194304, -1, false, []⟩
/-- how many records of the first example are whole. -/
def wantW (n : Nat) : Nat := if 36 ≤ n then 3 else if 27 ≤ n then 2 else if 18 ≤ n then 1 else 0
def w5n : ByteArray := ⟨#[119, 53]⟩
def w8n : ByteArray := ⟨#[119, 56]⟩
def w9n : ByteArray := ⟨#[119, 57]⟩
def w10n : ByteArray := ⟨#[119, 49, 48]⟩
def w11n : ByteArray := ⟨#[119, 49, 49]⟩
def w53n : ByteArray := ⟨#[119, 57, 48, 48, 55, 49, 57, 57, 50, 53, 52, 55, 52, 48, 57, 57, 50]⟩
def w53x : ByteArray := ⟨#[119, 57, 48, 48, 55, 49, 57, 57, 50, 53, 52, 55, 52, 48, 57, 57, 51]⟩
def lenW : List Nat := [0, 1, 2, 3].map fun k => (wFileB 5 k []).length
theorem lenW_eq : lenW = [9, 18, 27, 36] := by decide +kernel
def wOpenS (d : ADisk) (size : Int) (segs : List Nat) : ADisk × AFound × Int :=
  if size < 64 ∨ 16777216 < size then (d, f0, 2) else if findErr d wN ≠ 13 ∧ findErr d wN ≠ 0 then (d, f0, findErr d wN)
  else
    let r := wLook d f0 segs
    if r.2 ≠ 0 then (d, r.1, r.2) else ((opSteps d r.1).1, r.1, (opSteps d r.1).2)
theorem wOpen_S {d : ADisk} {raw segs : List Nat} (h : d.names.filterMap wNum = raw) (hs : raw.mergeSort leN = segs) (size : Int) : wOpen d size = wOpenS d size segs := by
  unfold wOpen segsOf
  rw [h, hs]
  rfl
def tellsW (n : Nat) (files : List ByteArray) (l : List (ByteArray × List UInt8)) (raw segs : List Nat) : Bool := decide ((madeW l).names.filterMap wNum = raw) && decide ((wOpenS (madeW l) 64 segs).2.2 = 0) && decide ((wOpenS (madeW l) 64 segs).2.1.recs.length = n) && decide ((wOpenS (madeW l) 64 segs).1.names = files)
def noneW (l : List (ByteArray × List UInt8)) (raw segs : List Nat) : Bool := decide ((madeW l).names.filterMap wNum = raw) && decide ((wOpenS (madeW l) 64 segs).2.2 = 14) && decide ((wOpenS (madeW l) 64 segs).1.names.length = l.length)
theorem tells_open {n : Nat} {files : List ByteArray} {l : List (ByteArray × List UInt8)} {raw segs : List Nat} (h : tellsW n files l raw segs = true) (hs : raw.mergeSort leN = segs) : (wOpen (madeW l) 64).2.2 = 0 ∧ (wOpen (madeW l) 64).2.1.recs.length = n ∧ (wOpen (madeW l) 64).1.names = files := by
  unfold tellsW at h
  simp only [Bool.and_eq_true, decide_eq_true_eq] at h
  rw [wOpen_S h.1.1.1 hs]
  exact ⟨h.1.1.2, h.1.2, h.2⟩
theorem none_open {l : List (ByteArray × List UInt8)} {raw segs : List Nat} (h : noneW l raw segs = true) (hs : raw.mergeSort leN = segs) : (wOpen (madeW l) 64).2.2 = 14 ∧ (wOpen (madeW l) 64).1.names.length = l.length := by
  unfold noneW at h
  simp only [Bool.and_eq_true, decide_eq_true_eq] at h
  rw [wOpen_S h.1.1 hs]
  exact ⟨h.1.2, h.2⟩
theorem ms0 : ([] : List Nat).mergeSort leN = [] := by simp
theorem ms1 (a : Nat) : [a].mergeSort leN = [a] := by simp
theorem ms2 : [10, 8].mergeSort leN = [8, 10] := by simp [List.mergeSort, leN, List.MergeSort.Internal.splitInTwo]
theorem ms3 : [11, 8].mergeSort leN = [8, 11] := by simp [List.mergeSort, leN, List.MergeSort.Internal.splitInTwo]
theorem ms4 : [8, 9].mergeSort leN = [8, 9] := by simp [List.mergeSort, leN, List.MergeSort.Internal.splitInTwo]
theorem tw1 : tellsW 5 [w10n, w8n] [(w8n, wFileB 8 2 []), (w10n, wFileB 10 3 [120, 121, 122])] [10, 8] [8, 10] = true := by decide +kernel
theorem tw2 : tellsW 2 [w8n] [(w8n, wFileB 8 2 []), (w10n, [72, 83, 87])] [10, 8] [8, 10] = true := by decide +kernel
theorem tw3 : tellsW 2 [w10n, w8n] [(w8n, wFileB 8 2 []), (w10n, wFileB 10 0 [])] [10, 8] [8, 10] = true := by decide +kernel
theorem tw4 : tellsW 0 [⟨#[119]⟩, ⟨#[119, 48]⟩, ⟨#[119, 48, 53]⟩, w53x, ⟨#[119, 120]⟩] [(⟨#[119]⟩, []), (⟨#[119, 48]⟩, []), (⟨#[119, 48, 53]⟩, []), (w53x, []), (⟨#[119, 120]⟩, [])] [] [] = true := by decide +kernel
theorem tw5 : tellsW 1 [w53n] [(w53n, wFileB 9007199254740992 1 [])] [9007199254740992] [9007199254740992] = true := by decide +kernel
theorem tw6 : tellsW 1 [w9n] [(w9n, wFileB 9 1 [] ++ wFrame sumL 11 [])] [9] [9] = true := by decide +kernel
theorem nw1 : noneW [(w8n, wFileB 8 2 []), (w11n, wFileB 11 1 [])] [11, 8] [8, 11] = true := by decide +kernel
theorem nw2 : noneW [(w8n, wFileB 8 2 [120]), (w10n, wFileB 10 1 [])] [10, 8] [8, 10] = true := by decide +kernel
theorem nw3 : noneW [(w8n, wFileB 8 0 []), (w9n, wFileB 9 1 [])] [8, 9] [8, 9] = true := by decide +kernel
theorem nw4 : noneW [(w8n, []), (w9n, wFileB 9 1 [])] [8, 9] [8, 9] = true := by decide +kernel
theorem nw5 : noneW [(w8n, wFileB 7 2 []), (w9n, wFileB 9 1 [])] [8, 9] [8, 9] = true := by decide +kernel
end Go.Proofs.YtbiadclmonakkaaGreatDoor

/-
  WalNumbers, plainly: limits, a disk that is full, a power that fails. No program here.
-/
namespace Go.Proofs.YtbiadclmonakkaaGreatDoor

def dW0 : ADisk := ⟨4194304, -1, false, []⟩
def alW0 : ALog := f0.log 16777216
def w1n : ByteArray := ⟨#[119, 49]⟩
theorem openW0 : wOpen dW0 16777216 = (dW0, f0, 0) := by
  rw [wOpen_S (raw := []) (segs := []) (by decide +kernel) ms0]
  kernel_rfl
theorem limW : wSync dW0 alW0 = (dW0, alW0, 0) ∧ wAppend dW0 alW0 0 [] = (dW0, alW0, 2) ∧ wAppend dW0 alW0 9007199254740993 [] = (dW0, alW0, 2) := ⟨by kernel_rfl, by kernel_rfl, by kernel_rfl⟩
theorem longW (Z : List UInt8) (h : Z.length = 1048577) : wAppend dW0 alW0 1 Z = (dW0, alW0, 3) := by
  unfold wAppend
  rw [if_neg (by decide), if_neg (by decide), if_pos (by omega)]
def dWA : ADisk := (wAnother dW0 alW0 1).1
def alWA : ALog := (wAnother dW0 alW0 1).2.1
theorem anoW : (wAnother dW0 alW0 1).2.2 = 0 := by decide +kernel
def dWZ (Z : List UInt8) : ADisk := dWA.append w1n (fr4 1 Z)
def alWZ (Z : List UInt8) : ALog := { alWA with segs := [(1, true)], next := 2, bytes := alWA.bytes + (fr4 1 Z).length }
theorem alWA_facts : alWA.segs = [(1, false)] ∧ alWA.file = w1n ∧ alWA.over = false ∧ alWA.size = 16777216 ∧ alWA.synced = 0 ∧ alWA.bytes = 9 := by decide +kernel
theorem dWA_facts : dWA.down = false ∧ dWA.most = 4194304 ∧ usedF dWA.fs = 9 ∧ dWA.fs.length = 1 ∧ dWA.left = -1 ∧ okName w1n = true ∧ (lk dWA.fs w1n).isSome = true := by decide +kernel
theorem frW_len (Z : List UInt8) (h : Z.length = 1048576) : (fr4 1 Z).length = 1048584 := by
  have h1 : vint 1 = [1] := by decide +kernel
  have h2 : (vint 1048577).length = 3 := by decide +kernel
  have hb : (wBody 1 Z).length = 1048577 := by unfold wBody; rw [h1]; simp; omega
  unfold fr4 wFrame
  rw [hb, List.length_append, h2]
  unfold sealL
  rw [List.length_append, sumL_len, hb]
theorem appW (Z : List UInt8) (h : Z.length = 1048576) : wAppend dW0 alW0 1 Z = (dWZ Z, alWZ Z, 0) := by
  have hl := frW_len Z h
  obtain ⟨a1, a2, a3, a4, a5, a6⟩ := alWA_facts
  obtain ⟨d1, d2, d3, d4, d5, d6, d7⟩ := dWA_facts
  have he : dWA.appendErr w1n (fr4 1 Z) = 0 := by
    unfold ADisk.appendErr
    rw [if_neg (by rw [d1]; decide), if_neg (by rw [d6]; decide), if_neg (by rw [d2, d3, hl]; decide), if_neg (by rw [d4]; omega)]
    unfold ADisk.err
    rw [if_neg (by rw [d5]; decide)]
  have hw : wAnother dW0 alW0 1 = (dWA, alWA, 0) := Prod.ext rfl (Prod.ext rfl anoW)
  unfold wAppend
  rw [if_neg (by decide), if_neg (by decide), if_neg (by omega), if_neg (by decide), if_pos (by decide)]
  rw [show ((1 : Int).toNat) = 1 from rfl, hw]
  simp only [ne_eq, not_true_eq_false, if_false]
  unfold wPut
  rw [a2, he, if_neg (by simp)]
  unfold dWZ alWZ
  rw [a1]
  rfl
theorem againW (Z : List UInt8) : wAppend (dWZ Z) (alWZ Z) 1 [] = (dWZ Z, alWZ Z, 18) ∧ (alWZ Z).over = false := by
  have ho : (alWZ Z).over = false := alWA_facts.2.2.1
  refine ⟨?_, ho⟩
  unfold wAppend
  rw [if_neg (by rw [ho]; decide), if_neg (by decide), if_neg (by simp), if_pos (by show 0 < 2 ∧ (1 : Int) ≠ ((2 : Nat) : Int); decide)]
theorem powerW (Z : List UInt8) (h : Z.length = 1048576) : ((((dWZ Z).arm 0).sync w1n)).down = true ∧ ∀ size, 64 ≤ size → size ≤ 16777216 → (wOpen (((dWZ Z).arm 0).sync w1n) size).2.2 = 15 := by
  have hl := frW_len Z h
  obtain ⟨d1, d2, d3, d4, d5, d6, d7⟩ := dWA_facts
  have hz : dWZ Z = { dWA.tick with fs := putF dWA.fs w1n ⟨(afile dWA w1n).firm, (afile dWA w1n).loose ++ fr4 1 Z⟩ } := by
    unfold dWZ ADisk.append
    rw [if_neg (by rw [d1]; decide), if_neg (by rw [d6]; decide), if_neg (by rw [d2, d3, hl]; decide), if_neg (by rw [d4]; omega)]
    unfold ADisk.put
    rw [if_neg (by rw [d5]; decide)]
  have hk : (lk ((dWZ Z).arm 0).fs w1n).isNone = false := by
    rw [hz]
    unfold ADisk.arm
    rw [if_neg (by simp [ADisk.tick])]
    show (lk (putF dWA.fs w1n _) w1n).isNone = false
    rw [lk_putF]
    simp
  have hd : ((dWZ Z).arm 0).down = false ∧ ((dWZ Z).arm 0).left = 0 := by
    rw [hz]
    unfold ADisk.arm
    rw [if_neg (by simp [ADisk.tick])]
    exact ⟨rfl, rfl⟩
  have hs : ((((dWZ Z).arm 0).sync w1n)).down = true := by
    unfold ADisk.sync
    rw [if_neg (by rw [hd.1]; decide), if_neg (by rw [hk]; decide)]
    unfold ADisk.cutTo
    simp [ADisk.put, hd.2, ADisk.fail]
  refine ⟨hs, fun size h1 h2 => ?_⟩
  have hf : findErr (((dWZ Z).arm 0).sync w1n) wN = 15 := by unfold findErr; rw [if_pos hs]
  unfold wOpen
  rw [if_neg (by omega), if_pos (by rw [hf]; decide), hf]
/-! ### a disk that is full -/
def dW30 : ADisk := ⟨30, -1, false, []⟩
def alW30 : ALog := f0.log 64
def x30 : List UInt8 := List.replicate 30 120
def dW31 : ADisk := (wAppend dW30 alW30 1 x30).1
def alW31 : ALog := (wAppend dW30 alW30 1 x30).2.1
theorem openW30 : wOpen dW30 64 = (dW30, f0, 0) := by
  rw [wOpen_S (raw := []) (segs := []) (by decide +kernel) ms0]
  kernel_rfl
theorem fullW : wAppend dW30 alW30 1 x30 = (dW31, alW31, 5) := by
  have h : (wAppend dW30 alW30 1 x30).2.2 = 5 := by decide +kernel
  exact Prod.ext rfl (Prod.ext rfl h)
theorem overW : alW31.over = true := by decide +kernel
theorem over2W : wSync dW31 alW31 = (dW31, alW31, 16) ∧ wTrim dW31 alW31 9 = (dW31, alW31, [], 16) := by
  constructor
  · unfold wSync; rw [if_pos overW]
  · unfold wTrim; rw [if_pos overW]
end Go.Proofs.YtbiadclmonakkaaGreatDoor

/-
  WalNumbers: what an open log of the first example is. No program here.
-/
namespace Go.Proofs.YtbiadclmonakkaaGreatDoor

def tornF (n : Nat) : Bool :=
  let r := wOpen (madeW [(w5n, (wFileB 5 3 []).take n)]) 64
  decide (r.2.2 = 0) && decide (r.2.1.recs.length = wantW n) && (decide (r.1.names.length = 0) == decide (n < 9)) && (decide (wantW n = 0) || decide (r.2.1.next = 5 + wantW n)) && decide (r.2.1.next ≤ 1000) && decide (r.2.1.good ≤ 1000) && r.2.1.segs.all (fun x => decide (x.1 ≤ 1000)) && decide (r.2.1.segs.length ≤ 100)
theorem tornF_all : (List.range 37).all tornF = true := by decide +kernel
structure Torn (n : Nat) (d : ADisk) (f : AFound) : Prop where
  opens : wOpen (madeW [(w5n, (wFileB 5 3 []).take n)]) 64 = (d, f, 0)
  recs : f.recs.length = wantW n
  names : decide (d.names.length = 0) = decide (n < 9)
  last : wantW n ≠ 0 → (f.log 64).last = 4 + wantW n
  synced : wantW n ≠ 0 → (f.log 64).synced = 4 + wantW n
  ok : (f.log 64).Ok ∧ (f.log 64).segs.length ≤ 500
theorem torn_fact (n : Nat) (h : n ≤ 36) : ∃ d f, Torn n d f := by
  have h1 : tornF n = true := List.all_eq_true.1 tornF_all n (List.mem_range.2 (by omega))
  unfold tornF at h1
  obtain ⟨⟨d, f, er⟩, hr⟩ : ∃ r, wOpen (madeW [(w5n, (wFileB 5 3 []).take n)]) 64 = r := ⟨_, rfl⟩
  rw [hr] at h1
  simp only [Bool.and_eq_true, Bool.or_eq_true, decide_eq_true_eq, beq_iff_eq, List.all_eq_true] at h1
  obtain ⟨⟨⟨⟨⟨⟨⟨rfl, h2⟩, h3⟩, h4⟩, h5⟩, h6⟩, h7⟩, h8⟩ := h1
  refine ⟨d, f, hr, h2, h3, fun hw => ?_, fun hw => ?_, ?_⟩
  · have := h4.resolve_left hw
    unfold ALog.last AFound.log
    simp only
    omega
  · have := h4.resolve_left hw
    unfold AFound.log
    simp only
    omega
  · refine ⟨⟨?_, ?_, ?_, ?_, fun x hx => ?_, ?_⟩, ?_⟩
    · show (64 : Int).toNat ≤ 16777216; decide
    · show f.next ≤ _; omega
    · show f.good ≤ _; omega
    · show f.next - 1 ≤ _; omega
    · have := h7 x hx; omega
    · show f.segs.length ≤ _; omega
    · show f.segs.length ≤ _; omega
/-- the count behind the first j sizes. -/
def wTo (n : Nat) : Nat → Nat
  | 0 => 0
  | j + 1 => if 9 + 9 * (j + 1) ≤ n then j + 1 else wTo n j
theorem wTo_want (n : Nat) : wTo n 3 = wantW n := rfl
theorem fileB_len (k : Nat) (hk : k ≤ 3) : (wFileB 5 k []).length = 9 + 9 * k := by
  have h := lenW_eq
  unfold lenW at h
  simp only [List.map_cons, List.map_nil, List.cons.injEq, and_true] at h
  obtain ⟨h0, h1, h2, h3⟩ := h
  rcases (by omega : k = 0 ∨ k = 1 ∨ k = 2 ∨ k = 3) with rfl | rfl | rfl | rfl
  · exact h0
  · exact h1
  · exact h2
  · exact h3
/-! ### the other logs are small -/
theorem okW0 : alW0.Ok ∧ alW0.segs.length ≤ 500 := ⟨⟨by decide +kernel, by decide +kernel, by decide +kernel, by decide +kernel, by decide +kernel, by decide +kernel⟩, by decide +kernel⟩
theorem okW30 : alW30.Ok ∧ alW30.segs.length ≤ 500 := ⟨⟨by decide +kernel, by decide +kernel, by decide +kernel, by decide +kernel, by decide +kernel, by decide +kernel⟩, by decide +kernel⟩
theorem okW31 : alW31.Ok ∧ alW31.segs.length ≤ 500 := ⟨⟨by decide +kernel, by decide +kernel, by decide +kernel, by decide +kernel, by decide +kernel, by decide +kernel⟩, by decide +kernel⟩
theorem okWZ (Z : List UInt8) (h : Z.length = 1048576) : (alWZ Z).Ok ∧ (alWZ Z).segs.length ≤ 500 := by
  have hl := frW_len Z h
  obtain ⟨a1, a2, a3, a4, a5, a6⟩ := alWA_facts
  refine ⟨⟨?_, ?_, ?_, ?_, fun x hx => ?_, ?_⟩, ?_⟩
  · show alWA.size ≤ _; omega
  · show 2 ≤ 9007199254740993; omega
  · show alWA.bytes + (fr4 1 Z).length ≤ _; omega
  · show alWA.synced ≤ _; omega
  · have hx : x ∈ [((1 : Nat), true)] := hx
    rw [List.mem_singleton.1 hx]
    decide
  · show 1 ≤ 1000; omega
  · show 1 ≤ 500; omega
end Go.Proofs.YtbiadclmonakkaaGreatDoor
