/-
  The walks of List (the names, sorted) and Used.
-/
import Derived.Outline
import Derived.Test.YtkacgmbinkoojaaGreatDoorMDkA
import Derived.Test.YtkacgmbinkoojaaGreatDoorMDkK
import Derived.Deep.RegionHeld3
import Derived.Lib.AppendZeros
namespace Go.Proofs.YtkacgmbinkoojaaGreatDoor
open Go.RowKit Go.Maps Go.MapKept
open Go.WideElems (Fit rd rg pl rd_val rd_key rg_of rd_mk)

theorem map_ownsMap {P : Program} {k : TypeId} (hk : P.underlying k = some .string) {w : World} {b n : Nat} {g : Value → Option Value} (h : MapIs P k w b n g) :
    ∃ D : DataW Unit, w.ownsMap P k (fun _ => some (.nil, [])) b n D ∧ Maps.size D = n ∧ (∀ x : List UInt8, x ∈ strKeys D ↔ (g (encStr x)).isSome = true) ∧ (strKeys D).Nodup := by
  obtain ⟨es, clock, hb, hn, hm, hst, hks, hg⟩ := h
  have hrd : ∀ x ∈ es.toList, ∃ s : List UInt8, x.key = encStr s ∧ rd (H := Unit) P k (fun _ => some (.nil, [])) x = some (.string s, .nil) := by
    intro x hx
    obtain ⟨l, hl⟩ := hks x hx
    obtain ⟨s, h1, h2, _⟩ := Maps.keyOf_str hk hl
    exact ⟨s, h1, by simp [rd, hl, h2]⟩
  have F : Fit (H := Unit) P k (fun _ => some (.nil, [])) es clock := ⟨by omega, hst, fun x hx => by obtain ⟨s, _, h2⟩ := hrd x hx; exact ⟨_, h2⟩⟩
  have hown : w.ownsMap P k (fun _ => some (.nil, [])) b n (.map ((es.toList.map (rg (H := Unit) P k (fun _ => some (.nil, [])))).foldr DataW.insert [])) := ⟨es, clock, hb, F, by omega, rfl⟩
  refine ⟨_, hown, ?_, ?_, ?_⟩
  · rw [Maps.size_eq, length_sorted]
    simp [hn]
  · intro x
    simp only [strKeys, List.mem_map]
    constructor
    · rintro ⟨p, hp, rfl⟩
      obtain ⟨y, hy, rfl⟩ := List.mem_map.1 (mem_sorted.1 hp)
      obtain ⟨s, h1, h2⟩ := hrd y hy
      rw [rg_of h2]
      have := (hg (encStr s) y.val).2 ⟨y, hy, h1, rfl⟩
      simp [strOf, this]
    · intro hx
      obtain ⟨v, hv⟩ := Option.isSome_iff_exists.1 hx
      obtain ⟨y, hy, hyk, _⟩ := (hg _ _).1 hv
      obtain ⟨s, h1, h2⟩ := hrd y hy
      have hsx : s = x := encStr_inj (h1 ▸ hyk)
      exact ⟨rg P k _ y, mem_sorted.2 (List.mem_map.2 ⟨y, hy, rfl⟩), by rw [rg_of h2]; simp [strOf, hsx]⟩
  · obtain ⟨es', hD, hpw, _⟩ := hown.entries (string_keyed hk)
    obtain ⟨es'', hD', hko⟩ := hown.keysOf
    rw [hD] at hD' ⊢
    cases hD'
    refine List.pairwise_map.2 (hpw.imp_of_mem fun {p q} hp' hq' hne e => hne ?_)
    obtain ⟨vp, hvp⟩ := hko p hp'
    obtain ⟨vq, hvq⟩ := hko q hq'
    obtain ⟨a, _, ha, _⟩ := Maps.keyOf_str hk hvp
    obtain ⟨c, _, hc, _⟩ := Maps.keyOf_str hk hvq
    rw [ha, hc] at e ⊢
    exact congrArg _ e

def ADisk.names (d : ADisk) : List ByteArray := d.fs.map (·.1)

theorem sorted_bytes {l : List ByteArray} (h : l.Pairwise (fun a b => ltS a b = true)) : (l.map (·.data.toList)).mergeSort leB = l.map (·.data.toList) ∧ (l.map (·.data.toList)).Nodup := by
  constructor
  · refine List.mergeSort_of_pairwise ?_
    refine List.pairwise_map.2 (h.imp fun {a b} hab => ?_)
    simp only [ltS, decide_eq_true_eq] at hab
    simpa [leB] using List.le_of_lt hab
  · refine List.pairwise_map.2 (h.imp fun {a b} hab => ?_)
    simp only [ltS, decide_eq_true_eq] at hab
    intro e
    rw [e] at hab
    exact List.lt_irrefl _ hab

theorem keys_are {l : List ByteArray} (h : l.Pairwise (fun a b => ltS a b = true)) {ss : List (List UInt8)} (hn : ss.Nodup) (hm : ∀ x, x ∈ ss ↔ ∃ s ∈ l, s.data.toList = x) :
    (ss.mergeSort leB).map encStr = l.map Value.string ∧ ss.length = l.length := by
  obtain ⟨h1, h2⟩ := sorted_bytes h
  have hp : ss.Perm (l.map (·.data.toList)) := (List.perm_ext_iff_of_nodup hn h2).2 fun x => by rw [hm]; simp
  refine ⟨?_, by rw [hp.length_eq]; simp⟩
  rw [mergeSort_of_perm hp, h1, List.map_map]
  refine List.map_congr_left fun s _ => ?_
  simp [encStr]

theorem DiskRep.mem_names {w : World} {p m : Nat} {g : Value → Option Value} {d : ADisk} (h : DiskRep w p m g d) (s : ByteArray) : s ∈ d.names ↔ (g (.string s)).isSome = true := by
  obtain ⟨_, _, _, _, _, _, _, hb⟩ := h.fileAgg s
  rw [hb]
  constructor
  · intro hs
    obtain ⟨q, hq, rfl⟩ := List.mem_map.1 hs
    have := mem_lk h.wf.sorted (s := q.1) (f := q.2) hq
    simp [this]
  · intro hs
    obtain ⟨f, hf⟩ := Option.isSome_iff_exists.1 hs
    exact List.mem_map.2 ⟨(s, f), lk_some_mem hf, rfl⟩

set_option maxHeartbeats 1000000 in
theorem List_any (w : World) (p m : Nat) (g : Value → Option Value) (d : ADisk) (h : DiskRep w p m g d) :
    Calls Tryz.prog 26 #[.pointer (some ⟨p, 0, none⟩)] w fun e w' => ∃ a c, e = .returned (.slice a d.names.length c) ∧ w'.ownsRow w.heap.size 9 1 (.slice a d.names.length c) d.names.length (d.names.map Value.string) ∧ (a = none ↔ d.names = []) ∧ Below w.heap.size w w' := by
  obtain ⟨q0, q1, q2, q3, z0, z1, z2, z3⟩ := cells4 h.head
  obtain ⟨D, hown, hsz, hmem, hnd⟩ := map_ownsMap Tryz.underlying9 h.map
  have hcount := h.wf.count
  have hs1 : Maps.size D ≤ maxLen := by simp only [maxLen]; omega
  have hs2 : Maps.size D * 16 ≤ 140737488355328 := by omega
  have hkeys : ∀ ss : List (List UInt8), ss.Perm (strKeys D) → (ss.mergeSort leB).map encStr = d.names.map Value.string ∧ ss.length = d.names.length := by
    intro ss hp
    refine keys_are (List.pairwise_map.2 h.wf.sorted) (hp.symm.nodup hnd) fun x => ?_
    rw [hp.mem_iff, hmem]
    constructor
    · intro hx
      exact ⟨⟨x.toArray⟩, (h.mem_names _).2 hx, rfl⟩
    · rintro ⟨s, hs, rfl⟩
      have := (h.mem_names s).1 hs
      simpa [encStr] using this
  have Hk := Lib.hid hkeys
  clear hkeys hmem hnd h hsz
  refine (callsIn_wide (n := 6)).1 ?_
  have hfK : Fence.wide.fn 60 := trivial
  have hfS : Fence.wide.fn 59 := trivial
  refine callsIn_of_wp Tryz.func26 rfl trivial ?_ rfl
  simp only [Tryz.ntmps26, List.size_toArray, List.length_cons, List.length_nil, Nat.reduceAdd, Nat.reduceSub, Array.replicate_succ, Array.replicate_zero, List.push_toArray, List.append_toArray, List.nil_append, List.cons_append]
  gi_wp2_with (first
     | (gi_at_call 60; refine (Tryz.maps_Keys_60 _ _).mono ?_; rintro e w' ⟨rfl, rfl⟩)
     | (gi_at_call 59; refine (Tryz.slices_Sorted_keys_59_60 m _ D _ w hown hs1 hs2).mono ?_; rintro e w' ⟨v, ss, rfl, hS, hrow, hnil, hb⟩))
  go_ret
  obtain ⟨e1, e2⟩ := Hk.out ss hS
  rw [show (fun x y => decide (x ≤ y)) = leB from rfl, e1, e2] at hrow
  obtain ⟨a, c, rfl, _, _, hac⟩ := row_slice (ownsRow_base0 hrow)
  refine ⟨a, c, rfl, ownsRow_base_a hrow (by simp), ?_, ((Below.refl _ w).alloc (Nat.le_refl _) _).trans (hb.mono (by simp))⟩
  have e3 : (Value.slice a d.names.length c = .slice none 0 0) ↔ d.names = [] := by rw [hnil, ← List.length_eq_zero_iff, e2, List.length_eq_zero_iff]
  rw [← e3]
  constructor
  · intro ha
    subst ha
    have hc := hac rfl
    subst hc
    have : d.names.length = 0 := by
      rcases hrow.2 with ⟨_, h0⟩ | ⟨_, _, _, h0, _⟩
      · exact h0
      · cases h0
    rw [this]
  · intro ha
    injection ha

theorem used_names {fs : List (ByteArray × AFile)} (hs : SortedF fs) : ((fs.map (·.1)).map (fun s => ((lk fs s).getD ⟨[], []⟩).len)).sum = usedF fs := by
  rw [List.map_map]
  unfold usedF
  congr 1
  refine List.map_congr_left fun q hq => ?_
  simp [mem_lk hs (s := q.1) (f := q.2) hq]
def ADisk.upto (d : ADisk) (k : Nat) : Nat := ((d.names.take k).map (fun s => (afile d s).len)).sum
theorem upto_le (d : ADisk) (k : Nat) (h : SortedF d.fs) : d.upto k ≤ usedF d.fs := by
  rw [← used_names h]
  unfold ADisk.upto ADisk.names afile
  generalize hL : d.fs.map (·.1) = L
  clear hL
  induction L generalizing k with
  | nil => simp
  | cons a L ih => cases k with
    | zero => simp
    | succ k => simp only [List.take_succ_cons, List.map_cons, List.sum_cons]; have := ih k; omega
theorem upto_succ (d : ADisk) (k : Nat) (hk : k < d.names.length) : d.upto (k + 1) = d.upto k + (afile d d.names[k]).len := by
  unfold ADisk.upto
  rw [List.take_succ_eq_append_getElem hk, List.map_append, List.sum_append]
  simp
theorem upto_all (d : ADisk) (h : SortedF d.fs) : d.upto d.names.length = usedF d.fs := by
  rw [← used_names h]
  unfold ADisk.upto
  rw [List.take_length]
  rfl
theorem ADisk.WF.name_size {d : ADisk} (h : d.WF) {s : ByteArray} (hs : s ∈ d.names) : s.size ≤ 40 := by
  obtain ⟨q, hq, rfl⟩ := List.mem_map.1 hs
  have := h.names q hq
  simp only [okName, Bool.and_eq_true, decide_eq_true_eq] at this
  exact this.2

/-- a row of strings that is owned reads at k. -/
theorem row_cell {w : World} {base : Nat} {e : TypeId} {v : Value} {n : Nat} {xs : List Value} (h : w.ownsRow base e 1 v n xs) (k : Nat) (hk : k < n) : ∃ gb c, v = .slice (some ⟨gb, 0, none⟩) n c ∧ base ≤ gb ∧ gb < w.heap.size ∧ ∀ j, j < n → w.cell? ⟨gb, j, none⟩ = xs[j]? := by
  have h' := h
  obtain ⟨h1, ⟨_, h2⟩ | ⟨gb, cap, cur, rfl, hb, hg, _⟩⟩ := h
  · omega
  · exact ⟨gb, cap, rfl, hb, blk_lt hg, fun j hj => h'.cellAt j (by omega)⟩

set_option maxRecDepth 100000 in
set_option maxHeartbeats 1000000 in
theorem Used_any (w : World) (p m : Nat) (g : Value → Option Value) (d : ADisk) (h : DiskRep w p m g d) :
    Calls Tryz.prog 46 #[.pointer (some ⟨p, 0, none⟩)] w fun e w' => e = .returned (.int .i64 (usedF d.fs)) ∧ Below w.heap.size w w' := by
  have hwf := h.wf
  have hub : (usedF d.fs : Int) ≤ 16777216 := Int.le_trans hwf.used hwf.most1
  have hcount : d.names.length ≤ 200 := by rw [ADisk.names, List.length_map]; exact hwf.count
  obtain ⟨nm, hnm⟩ : ∃ nm, d.names = nm := ⟨_, rfl⟩
  go_enter Tryz.func46, Tryz.ntmps46
  go_wp2_with (go_at_call 26; refine (List_any w p m g d h).mono ?_; rw [hnm]; rintro e w1 ⟨a, c, rfl, hrow, hnil, hb1⟩)
  rw [hnm] at hcount
  have Hnm := Lib.hid hnm
  clear hnm
  have Hrow := Lib.hid hrow
  clear hnil hrow
  go_loopw [3, 9] (fun t i wr => ∃ k : Nat, k ≤ nm.length ∧ i = .int .i64 k ∧ t = .int .i64 (d.upto k) ∧ Below w1.heap.size w1 wr) (fun _ i _ => nm.length - (intOf i).toNat)
  case atStart => exact ⟨0, by omega, rfl, rfl, Below.refl _ _⟩
  case round =>
    obtain ⟨k, hk, rfl, rfl, hbr⟩ := hrel
    have hu0 := upto_le d k hwf.sorted
    by_cases hlt : k < nm.length
    · obtain ⟨gb, c', hv, hgb, hgl, hcells⟩ := row_cell Hrow.out k hlt
      cases hv
      have hcell := hcells k hlt
      rw [List.getElem?_map, List.getElem?_eq_getElem hlt, Option.map_some] at hcell
      have hcr : wr.cell? ⟨gb, k, none⟩ = some (.string nm[k]) := (hbr.cell (p := ⟨gb, k, none⟩) hgl).trans hcell
      have hks : nm[k].size ≤ 40 := hwf.name_size (by rw [Hnm.out]; exact List.getElem_mem _)
      have hsucc : d.upto (k + 1) = d.upto k + (afile d nm[k]).len := by
        have := upto_succ d k (by rw [Hnm.out]; exact hlt)
        simpa [Hnm.out] using this
      have hu1 := upto_le d (k + 1) hwf.sorted
      have hul : d.upto k + (afile d nm[k]).len ≤ usedF d.fs := by omega
      obtain ⟨s, hs⟩ : ∃ s, nm[k] = s := ⟨_, rfl⟩
      rw [hs] at hcr hks hsucc hul
      have Hsucc := Lib.hid hsucc
      clear hs hsucc hcells hcell
      have hrep : DiskRep wr p m g d := (h.below hb1).upd (Upd.ofBelow (fp := noFp) hbr) (fun _ _ h => h)
      go_wp2_with (go_at_call 58; refine (Size_any _ p m g d s hrep (by simp only [maxLen]; omega)).mono ?_; rintro e w2 ⟨rfl, hb2⟩)
      go_roundw
      case rel => exact ⟨k + 1, by omega, by go_num, by rw [Hsucc.out]; go_num, hbr.trans (hb2.mono hbr.size)⟩
      case measure => simp [intOf]; omega
    · obtain rfl : k = nm.length := by omega
      have hall := upto_all d hwf.sorted
      rw [Hnm.out] at hall
      have Hall := Lib.hid hall
      clear hall
      go_wp2
      go_ret
      exact ⟨by rw [← Hall.out]; rfl, hb1.trans (hbr.mono hb1.size)⟩
end Go.Proofs.YtkacgmbinkoojaaGreatDoor

/-
  The walks of Append, Sync, Cut.
-/
namespace Go.Proofs.YtkacgmbinkoojaaGreatDoor
open Go.RowKit Go.Maps Go.MapKept

theorem DiskRep.drew {w : World} {p m : Nat} {g : Value → Option Value} {d : ADisk} (h : DiskRep w p m g d) : DiskRep w.drew p m g d := h.upd ((Upd.refl noFp w).drew) (fun _ _ h => h)
theorem DiskRep.alloc {w : World} {p m : Nat} {g : Value → Option Value} {d : ADisk} (h : DiskRep w p m g d) (o : Obj) : DiskRep (w.alloc o) p m g d := h.upd ((Upd.refl noFp w).alloc o) (fun _ _ h => h)
/-- a file's own blocks have turned, but what it holds. -/
theorem DiskRep.touch {w w' : World} {p m : Nat} {g : Value → Option Value} {d : ADisk} (h : DiskRep w p m g d) {s : ByteArray} {v : Value} {fp : Nat → Prop} (hv : (g (.string s)).getD zFile = v) (hu : Upd fp w w') (hfp : ∀ k, k < w.heap.size → fp k → fblocks v k)
    (hf : FileAt w' v (afile d s)) : DiskRep w' p m g d := by
  have hpm : ∀ k, fblocks v k → k < w.heap.size → k ≠ p ∧ k ≠ m := fun k hk _ => by rw [← hv] at hk; exact h.block_ne (h.fileOf s) hk
  have hz : ∀ k, ¬ fblocks zFile k := fun k hk => by rw [zFile, fblocks_agg] at hk; simp [Value.ownBlock] at hk
  refine ⟨hu.keep h.head (fun e => (hpm p (hfp p (blk_lt h.head) e) (blk_lt h.head)).1 rfl), h.map.upd' hu (fun e => (hpm m (hfp m h.map.lt e) h.map.lt).2 rfl), h.dom, fun t f hl => ?_, h.apart, h.wf⟩
  obtain ⟨u, hg, hfu⟩ := h.file t f hl
  refine ⟨u, hg, ?_⟩
  by_cases hts : t = s
  · subst hts
    rw [hg] at hv
    cases hv
    simpa [afile, hl] using hf
  · refine hfu.upd hu (fun k hk e => ?_)
    obtain ⟨cur, hc⟩ := fblocks_row hfu hk
    have hkv := hfp k (blk_lt hc) e
    cases hgs : g (.string s) with
    | none => rw [hgs] at hv; rw [← hv] at hkv; exact hz k hkv
    | some v' => rw [hgs] at hv; cases hv; exact h.apart t s u v' hg hgs hts k hk hkv

def ADisk.append (d : ADisk) (s : ByteArray) (b : List UInt8) : ADisk :=
  if d.down then d else if okName s = false then d else if d.most < usedF d.fs + b.length then d else if (lk d.fs s).isNone ∧ 200 ≤ d.fs.length then d else d.put s ⟨(afile d s).firm, (afile d s).loose ++ b⟩
def ADisk.appendErr (d : ADisk) (s : ByteArray) (b : List UInt8) : Int :=
  if d.down then 15 else if okName s = false then 13 else if d.most < usedF d.fs + b.length then 5 else if (lk d.fs s).isNone ∧ 200 ≤ d.fs.length then 5 else d.err

def DiskPost (w : World) (p m : Nat) (g : Value → Option Value) (d' : ADisk) (w' : World) : Prop :=
  ∃ g', DiskRep w' p m g' d' ∧ Upd (dfp p m g) w w' ∧ ∀ k, dfp p m g' k → dfp p m g k ∨ w.heap.size ≤ k
theorem DiskPost.same {w w' : World} {p m : Nat} {g : Value → Option Value} {d : ADisk} (h : DiskRep w p m g d) (hb : Below w.heap.size w w') : DiskPost w p m g d w' :=
  ⟨g, h.below hb, Upd.ofBelow hb, fun _ hk => Or.inl hk⟩

set_option maxRecDepth 100000 in
set_option maxHeartbeats 1000000 in
theorem Append_down (w : World) (p m : Nat) (g : Value → Option Value) (d : ADisk) (s : ByteArray) (ab : Option Addr) (nb cb : Nat) (h : DiskRep w p m g d) (hs : s.size ≤ maxLen) (hd : d.down = true) :
    Calls Tryz.prog 15 #[.pointer (some ⟨p, 0, none⟩), .string s, .slice ab nb cb] w fun e w' => e = .returned (.int .i64 15) ∧ DiskPost w p m g d w' := by
  have hF := find_any w p m g d s h hs
  obtain ⟨a1, n1, c1, a2, n2, c2, hv, hb⟩ := h.fileAgg s
  rw [hv, show findErr d s = 15 by simp [findErr, hd]] at hF
  clear hv hd
  go_enter Tryz.func15, Tryz.ntmps15
  go_wp2_with (go_at_call 44; refine hF.mono ?_; rintro e w1 ⟨rfl, hb1⟩)
  go_ret
  exact ⟨rfl, DiskPost.same h (hb1.alloc hb1.size _)⟩

set_option maxRecDepth 100000 in
set_option maxHeartbeats 1000000 in
theorem Append_name (w : World) (p m : Nat) (g : Value → Option Value) (d : ADisk) (s : ByteArray) (ab : Option Addr) (nb cb : Nat) (h : DiskRep w p m g d) (hs : s.size ≤ maxLen) (hd : d.down = false) (hn : okName s = false) :
    Calls Tryz.prog 15 #[.pointer (some ⟨p, 0, none⟩), .string s, .slice ab nb cb] w fun e w' => e = .returned (.int .i64 13) ∧ DiskPost w p m g d w' := by
  have hF := find_any w p m g d s h hs
  obtain ⟨a1, n1, c1, a2, n2, c2, hv, hb⟩ := h.fileAgg s
  have hN := fun w => named_any s w hs
  rw [hn] at hN
  rw [hv] at hF
  have key : ∀ fe : Int, findErr d s = fe → fe = 0 ∨ fe = 13 → Calls Tryz.prog 15 #[.pointer (some ⟨p, 0, none⟩), .string s, .slice ab nb cb] w fun e w' => e = .returned (.int .i64 13) ∧ DiskPost w p m g d w' := by
    intro fe hfe h013
    rw [hfe] at hF
    clear hv hd hb hn hfe
    rcases h013 with rfl | rfl
    all_goals
      go_enter Tryz.func15, Tryz.ntmps15
      go_wp2_with (first | (go_at_call 44; refine hF.mono ?_; rintro e w1 ⟨rfl, hb1⟩) | (go_at_call 45; refine (hN _).mono ?_; rintro e w2 ⟨rfl, hb2⟩))
      go_ret
      exact ⟨rfl, DiskPost.same h ((hb1.alloc hb1.size _).trans (hb2.mono (by simp; have := hb1.size; omega)))⟩
  refine key _ rfl ?_
  unfold findErr
  rw [hd]
  cases lk d.fs s <;> simp

set_option maxRecDepth 100000 in
set_option maxHeartbeats 2000000 in
theorem Append_full (w : World) (p m : Nat) (g : Value → Option Value) (d : ADisk) (s : ByteArray) (ab : Option Addr) (nb cb : Nat) (h : DiskRep w p m g d) (hs : s.size ≤ maxLen) (hd : d.down = false) (hn : okName s = true)
    (hnb : nb ≤ 140737488355328) (hu : d.most < usedF d.fs + nb) :
    Calls Tryz.prog 15 #[.pointer (some ⟨p, 0, none⟩), .string s, .slice ab nb cb] w fun e w' => e = .returned (.int .i64 5) ∧ DiskPost w p m g d w' := by
  have hF := find_any w p m g d s h hs
  obtain ⟨a1, n1, c1, a2, n2, c2, hv, hb⟩ := h.fileAgg s
  have hN := fun w => named_any s w hs
  rw [hn] at hN
  rw [hv] at hF
  have hub : (usedF d.fs : Int) ≤ 16777216 := Int.le_trans h.wf.used h.wf.most1
  have key : ∀ fe : Int, findErr d s = fe → fe = 0 ∨ fe = 13 → Calls Tryz.prog 15 #[.pointer (some ⟨p, 0, none⟩), .string s, .slice ab nb cb] w fun e w' => e = .returned (.int .i64 5) ∧ DiskPost w p m g d w' := by
    intro fe hfe h013
    rw [hfe] at hF
    clear hv hd hb hn hfe
    rcases h013 with rfl | rfl
    all_goals
      go_enter Tryz.func15, Tryz.ntmps15
      go_wp2_with (first | (go_at_call 44; refine hF.mono ?_; rintro e w1 ⟨rfl, hb1⟩) | (go_at_call 45; refine (hN _).mono ?_; rintro e w2 ⟨rfl, hb2⟩))
      have hB2 := (hb1.alloc hb1.size (.cells #[.slice a1 n1 c1, .slice a2 n2 c2] 79)).trans (hb2.mono (by simp; have := hb1.size; omega))
      have hrep := h.below hB2
      obtain ⟨q0, q1, q2, q3, _⟩ := cells4 hrep.head
      have hrepd := hrep.drew
      have hw1 : IntKind.i64.wrap ((usedF d.fs : Int) + nb) = (usedF d.fs : Int) + nb := IntWalk.i64_in _ (by omega)
      go_region_held3 (fun w' => w'.cell? ⟨p, 3, none⟩ = some (.int .i64 d.most)) (first | exact q3 | exact (hb3.cell (p := ⟨p, 3, none⟩) (blk_lt hrep.head)).trans q3 | go_keep) (first | (go_at_call 46; refine (Used_any _ p m g d hrepd).mono ?_; rintro e w3 ⟨rfl, hb3⟩))
      go_wp2
      go_ret
      exact ⟨rfl, DiskPost.same h (hB2.drew.trans (hb3.mono hB2.size))⟩
  refine key _ rfl ?_
  unfold findErr
  rw [hd]
  cases lk d.fs s <;> simp

set_option maxRecDepth 100000 in
set_option maxHeartbeats 2000000 in
theorem Append_many (w : World) (p m : Nat) (g : Value → Option Value) (d : ADisk) (s : ByteArray) (ab : Option Addr) (nb cb : Nat) (h : DiskRep w p m g d) (hs : s.size ≤ maxLen) (hd : d.down = false) (hn : okName s = true)
    (hnb : nb ≤ 140737488355328) (hu : ¬ d.most < usedF d.fs + nb) (hl : lk d.fs s = none) (hc : 200 ≤ d.fs.length) :
    Calls Tryz.prog 15 #[.pointer (some ⟨p, 0, none⟩), .string s, .slice ab nb cb] w fun e w' => e = .returned (.int .i64 5) ∧ DiskPost w p m g d w' := by
  have hF := find_any w p m g d s h hs
  obtain ⟨a1, n1, c1, a2, n2, c2, hv, hb⟩ := h.fileAgg s
  have hN := fun w => named_any s w hs
  rw [hn] at hN
  rw [hv, show findErr d s = 13 by simp [findErr, hd, hl]] at hF
  have hub : (usedF d.fs : Int) ≤ 16777216 := Int.le_trans h.wf.used h.wf.most1
  have hci : (200 : Int) ≤ d.fs.length := by omega
  clear hv hd hb hn hl hc
  go_enter Tryz.func15, Tryz.ntmps15
  go_wp2_with (first | (go_at_call 44; refine hF.mono ?_; rintro e w1 ⟨rfl, hb1⟩) | (go_at_call 45; refine (hN _).mono ?_; rintro e w2 ⟨rfl, hb2⟩))
  have hB2 := (hb1.alloc hb1.size (.cells #[.slice a1 n1 c1, .slice a2 n2 c2] 79)).trans (hb2.mono (by simp; have := hb1.size; omega))
  have hrep := h.below hB2
  obtain ⟨q0, q1, q2, q3, _⟩ := cells4 hrep.head
  have hrepd := hrep.drew
  have hw1 : IntKind.i64.wrap ((usedF d.fs : Int) + nb) = (usedF d.fs : Int) + nb := IntWalk.i64_in _ (by omega)
  go_region_held3 (fun w' => w'.cell? ⟨p, 3, none⟩ = some (.int .i64 d.most)) (first | exact q3 | exact (hb3.cell (p := ⟨p, 3, none⟩) (blk_lt hrep.head)).trans q3 | go_keep) (first | (go_at_call 46; refine (Used_any _ p m g d hrepd).mono ?_; rintro e w3 ⟨rfl, hb3⟩))
  have hrep3 := hrepd.below hb3
  obtain ⟨r0, r1, r2, r3, _⟩ := cells4 hrep3.head
  go_wp2_with (refine wpList_map_len rfl (.tmp 46) 61 9 79 rfl Tryz.underlying61 m _ g hrep3.map rfl ?_)
  go_ret
  exact ⟨rfl, DiskPost.same h (hB2.drew.trans (hb3.mono hB2.size))⟩

theorem ADisk.WF.put {d : ADisk} (h : d.WF) {s : ByteArray} (hn : okName s = true) (f : AFile) (hu : (usedF d.fs + f.len : Int) ≤ d.most + (afile d s).len) (hc : (lk d.fs s).isSome = true ∨ d.fs.length < 200) :
    ({ d.tick with fs := putF d.fs s f } : ADisk).WF where
  sorted := sorted_putF h.sorted s f
  names p hp := by
    rcases mem_putF hp with rfl | hp
    · exact hn
    · exact h.names p hp
  used := by
    have := used_putF h.sorted s f
    have e : ((lk d.fs s).map AFile.len).getD 0 = (afile d s).len := by unfold afile; cases lk d.fs s <;> rfl
    rw [e] at this
    show ((usedF (putF d.fs s f) : Nat) : Int) ≤ d.most
    omega
  most0 := h.most0
  most1 := h.most1
  left0 := h.tick.left0
  left1 := h.tick.left1
  count := by
    show (putF d.fs s f).length ≤ 200
    rw [length_putF h.sorted]
    have := h.count
    rcases hc with hc | hc
    · rw [if_pos hc]; exact this
    · split <;> omega
theorem afile_le {d : ADisk} (_h : d.WF) (s : ByteArray) : (afile d s).len ≤ usedF d.fs := by
  unfold afile
  cases hl : lk d.fs s with
  | none => simp [AFile.len]
  | some f => exact lk_len_le hl

set_option maxRecDepth 100000 in
set_option maxHeartbeats 4000000 in
theorem Append_ok (w : World) (p m : Nat) (g : Value → Option Value) (d : ADisk) (s : ByteArray) (vb : Value) (b : List UInt8) (h : DiskRep w p m g d) (hs : s.size ≤ maxLen) (hd : d.down = false) (hn : okName s = true)
    (hrd : Rd w vb (bcells b)) (hnb : b.length ≤ 140737488355328) (hu : ¬ d.most < usedF d.fs + b.length) (hc : (lk d.fs s).isSome = true ∨ d.fs.length < 200) :
    Calls Tryz.prog 15 #[.pointer (some ⟨p, 0, none⟩), .string s, vb] w fun e w' => e = .returned (.int .i64 d.err) ∧ DiskPost w p m g (d.put s ⟨(afile d s).firm, (afile d s).loose ++ b⟩) w' := by
  have hF := find_any w p m g d s h hs
  have hfile := h.fileOf s
  have hlen0 := afile_le h.wf s
  have hub : (usedF d.fs : Int) ≤ d.most := h.wf.used
  have hum : d.most ≤ 16777216 := h.wf.most1
  have hwf' := h.wf.put hn ⟨(afile d s).firm, (afile d s).loose ++ b⟩ (by simp [AFile.len]; omega) hc
  obtain ⟨ys, hys⟩ : ∃ ys, (afile d s).loose ++ b = ys := ⟨_, rfl⟩
  have hyl : ys.length = (afile d s).loose.length + b.length := by rw [← hys]; simp
  rw [hys] at hwf' ⊢
  have hblk0 : ∀ k, fblocks ((g (.string s)).getD zFile) k → ∃ u, g (.string s) = some u ∧ fblocks u k := by
    intro k hk
    cases hgs : g (.string s) with
    | none => rw [hgs] at hk; simp [zFile, fblocks_agg, Value.ownBlock] at hk
    | some u => rw [hgs] at hk; exact ⟨u, rfl, hk⟩
  obtain ⟨ab, cb, rfl⟩ := hrd.shape
  rw [bcells_length] at hrd ⊢
  generalize hv : (g (.string s)).getD zFile = v at hF hfile hblk0
  have hfile0 := hfile
  obtain ⟨v1, v2, rfl, hr1, hr2, hap, hfl⟩ := hfile
  obtain ⟨a1, c1, rfl, _⟩ := row_slice hr1
  obtain ⟨a2, c2, rfl, _⟩ := row_slice hr2
  have hN := fun w => named_any s w hs
  rw [hn] at hN
  have key : ∀ fe : Int, findErr d s = fe → (fe = 0 ∨ fe = 13 ∧ d.fs.length < 200) → Calls Tryz.prog 15 #[.pointer (some ⟨p, 0, none⟩), .string s, .slice ab b.length cb] w fun e w' => e = .returned (.int .i64 d.err) ∧ DiskPost w p m g (d.put s ⟨(afile d s).firm, ys⟩) w' := by
    intro fe hfe h013
    rw [hfe] at hF
    have Hv := Lib.hid hv
    have Hys := Lib.hid hys
    have Hyl := Lib.hid hyl
    clear hv hd hn hfe hys hyl hc
    rcases h013 with rfl | ⟨rfl, hc200⟩
    all_goals
      go_enter Tryz.func15, Tryz.ntmps15
      go_wp2_with (first | (go_at_call 44; refine hF.mono ?_; rintro e w1 ⟨rfl, hb1⟩) | (go_at_call 45; refine (hN _).mono ?_; rintro e w2 ⟨rfl, hb2⟩))
      have hB2 := (hb1.alloc hb1.size (.cells #[.slice a1 (afile d s).firm.length c1, .slice a2 (afile d s).loose.length c2] 79)).trans (hb2.mono (by simp; have := hb1.size; omega))
      have hrep := h.below hB2
      have hbox := (hb2.block w1.heap.size (by simp)).trans (alloc_at w1 _)
      obtain ⟨q0, q1, q2, q3, _⟩ := cells4 hrep.head
      have hrepd := hrep.drew
      have hw1 : IntKind.i64.wrap ((usedF d.fs : Int) + b.length) = (usedF d.fs : Int) + b.length := IntWalk.i64_in _ (by omega)
      go_region_held3 (fun w' => w'.cell? ⟨p, 3, none⟩ = some (.int .i64 d.most)) (first | exact q3 | exact (hb3.cell (p := ⟨p, 3, none⟩) (blk_lt hrep.head)).trans q3 | go_keep) (first | (go_at_call 46; refine (Used_any _ p m g d hrepd).mono ?_; rintro e w3 ⟨rfl, hb3⟩))
      have hrep3 := hrepd.below hb3
      have hB3 : Below w.heap.size w w3 := hB2.drew.trans (hb3.mono hB2.size)
      have hbox3 := (hb3.block w1.heap.size (blk_lt hbox)).trans hbox
      obtain ⟨r0, r1, r2, r3, _⟩ := cells4 hrep3.head
      obtain ⟨x0, x1, y0, y1⟩ := cells2 hbox3
      have hrd3 := hrd.below hB3
      have hown3 := (Upd.ofBelow (fp := noFp) hB3).row hr2 (fun _ _ h => h)
      go_wp2_with (first | (refine wpList_map_len rfl (.tmp 46) 61 9 79 rfl Tryz.underlying61 m _ g hrep3.map rfl ?_) | (refine append_u8 rfl (.tmp 51) (.tmp 52) rfl (.slice a2 (afile d s).loose.length c2) (.slice ab b.length cb) (afile d s).loose b ys Hys.out rfl hown3 rfl hrd3 (by unfold AFile.len at hlen0; omega) ?_))
      intro v' w4 hv' hg4 hb4 hold4
      obtain ⟨a', c', rfl, _⟩ := row_slice hv'
      have hlt1 : ∀ k, (Value.slice a1 (afile d s).firm.length c1).ownBlock = some k → k < w.heap.size := fun k hk => row_lt hr1 hk
      have hlt2 : ∀ k, (Value.slice a2 (afile d s).loose.length c2).ownBlock = some k → k < w.heap.size := fun k hk => row_lt hr2 hk
      have hU34 : Upd (fun k => (Value.slice a2 (afile d s).loose.length c2).ownBlock = some k) w3 w4 := (Upd.refl _ _).grown hg4 (fun k hk => Or.inl hk)
      have hs1 := hb1.size
      have hs3 := hB3.size
      have hbox4 := hU34.keep hbox3 (fun e => by have := hlt2 _ e; omega)
      have hrow14 := hU34.row ((Upd.ofBelow (fp := noFp) hB3).row hr1 (fun _ _ h => h)) (fun k hk e => hap k hk e)
      have hrep4 := hrep3.touch Hv.out hU34 (fun k _ hk => (fblocks_agg _ _ _).2 (Or.inr hk)) ⟨_, _, rfl, hrow14, hold4, hap, hfl⟩
      have hU45 : Upd (· = w1.heap.size) w4 (w4.setCell ⟨w1.heap.size, 1, none⟩ (.slice a' ys.length c')) := setCell_upd 1 _
      have hLd : ∀ k, dfp p m g k → ¬ k = w1.heap.size := fun k hk e => by have := h.lt hk; omega
      have hrep5 := hrep4.upd hU45 hLd
      have ha' : ∀ k, (Value.slice a' ys.length c').ownBlock = some k → (Value.slice a2 (afile d s).loose.length c2).ownBlock = some k ∨ w3.heap.size ≤ k := by
        intro k hk
        rcases hb4 with hb4 | ⟨g4, hb4, hg4'⟩
        · exact Or.inl (hb4 ▸ hk)
        · rw [hb4] at hk; cases hk; exact Or.inr hg4'
      have hL3 := blk_lt hbox3
      have hfile5 : FileAt (w4.setCell ⟨w1.heap.size, 1, none⟩ (.slice a' ys.length c')) (.agg #[.slice a1 (afile d s).firm.length c1, .slice a' ys.length c']) ⟨(afile d s).firm, ys⟩ := by
        refine ⟨_, _, rfl, hU45.row hrow14 (fun k hk e => by have := hlt1 k hk; omega), hU45.row hv' (fun k hk e => ?_), fun k hk e => ?_, ?_⟩
        · rcases ha' k hk with h1 | h1
          · have := hlt2 k h1; omega
          · omega
        · rcases ha' k e with h1 | h1
          · exact hap k hk h1
          · have := hlt1 k hk; omega
        · have := Hyl.out; unfold AFile.len at hlen0 ⊢; simp only; omega
      have hblk5 : ∀ k, fblocks (.agg #[.slice a1 (afile d s).firm.length c1, .slice a' ys.length c']) k → dfp p m g k → ∃ u, g (.string s) = some u ∧ fblocks u k := by
        intro k hk hd
        rw [fblocks_agg] at hk
        rcases hk with hk | hk
        · exact hblk0 k ((fblocks_agg _ _ _).2 (Or.inl hk))
        · rcases ha' k hk with h1 | h1
          · exact hblk0 k ((fblocks_agg _ _ _).2 (Or.inr h1))
          · have := h.lt hd; omega
      obtain ⟨x0', x1', y0', y1'⟩ := cells2 hbox4
      go_wp2_with (go_at_call 47; refine (put_any _ p m g d s _ ⟨(afile d s).firm, ys⟩ hrep5 hs hfile5 hblk5 hwf').mono ?_; rintro e w6 ⟨rfl, hp6⟩)
      go_ret
      refine ⟨rfl, ?_⟩
      obtain ⟨g', hrep6, hU6, hfp6⟩ := hp6
      refine ⟨g', hrep6, ?_, fun k hk => ?_⟩
      · refine (((Upd.ofBelow hB3).trans hU34 (fun k hk => ?_)).trans hU45 (fun k hk => ?_)).trans hU6 (fun k hk => ?_)
        · obtain ⟨u, hu1, hu2⟩ := hblk0 k ((fblocks_agg _ _ _).2 (Or.inr hk))
          exact Or.inl (Or.inr (Or.inr ⟨s, u, hu1, hu2⟩))
        · exact Or.inr (by omega)
        · rcases hk with hk | hk
          · exact Or.inl (Or.inl hk)
          · exact Or.inl (Or.inr (Or.inl hk))
      · rcases hfp6 k hk with hk | hk
        · exact Or.inl hk
        · rw [fblocks_agg] at hk
          rcases hk with hk | hk
          · obtain ⟨u, hu1, hu2⟩ := hblk0 k ((fblocks_agg _ _ _).2 (Or.inl hk))
            exact Or.inl (Or.inr (Or.inr ⟨s, u, hu1, hu2⟩))
          · rcases ha' k hk with h1 | h1
            · obtain ⟨u, hu1, hu2⟩ := hblk0 k ((fblocks_agg _ _ _).2 (Or.inr h1))
              exact Or.inl (Or.inr (Or.inr ⟨s, u, hu1, hu2⟩))
            · exact Or.inr (by omega)
  refine key _ rfl ?_
  unfold findErr
  rw [hd]
  cases hl : lk d.fs s with
  | none => simp; rcases hc with hc | hc; simp [hl] at hc; exact hc
  | some f => simp
end Go.Proofs.YtkacgmbinkoojaaGreatDoor

/-
  The walks of Append whole, Sync, Cut, Remove, Rename.
-/
namespace Go.Proofs.YtkacgmbinkoojaaGreatDoor
open Go.RowKit Go.Maps Go.MapKept

theorem Append_any (w : World) (p m : Nat) (g : Value → Option Value) (d : ADisk) (s : ByteArray) (vb : Value) (b : List UInt8) (h : DiskRep w p m g d) (hs : s.size ≤ maxLen)
    (hrd : Rd w vb (bcells b)) (hnb : b.length ≤ 140737488355328) :
    Calls Tryz.prog 15 #[.pointer (some ⟨p, 0, none⟩), .string s, vb] w fun e w' => e = .returned (.int .i64 (d.appendErr s b)) ∧ DiskPost w p m g (d.append s b) w' := by
  obtain ⟨ab, cb, rfl⟩ := hrd.shape
  unfold ADisk.append ADisk.appendErr
  by_cases hd : d.down = true
  · rw [if_pos hd, if_pos hd]; exact Append_down w p m g d s _ _ _ h hs hd
  rw [if_neg hd, if_neg hd]
  have hd' : d.down = false := by simpa using hd
  by_cases hn : okName s = false
  · rw [if_pos hn, if_pos hn]; exact Append_name w p m g d s _ _ _ h hs hd' hn
  rw [if_neg hn, if_neg hn]
  have hn' : okName s = true := by simpa using hn
  by_cases hu : d.most < usedF d.fs + b.length
  · rw [if_pos hu, if_pos hu]; rw [bcells_length]; exact Append_full w p m g d s _ _ _ h hs hd' hn' hnb hu
  rw [if_neg hu, if_neg hu]
  by_cases hc : (lk d.fs s).isNone ∧ 200 ≤ d.fs.length
  · rw [if_pos hc, if_pos hc]; rw [bcells_length]; exact Append_many w p m g d s _ _ _ h hs hd' hn' hnb hu (by simpa using hc.1) hc.2
  · rw [if_neg hc, if_neg hc]
    refine Append_ok w p m g d s _ b h hs hd' hn' hrd hnb hu ?_
    cases hl : lk d.fs s with
    | none => rw [hl] at hc; simp at hc; right; omega
    | some f => left; rfl

theorem first_any (w : World) (v : Value) (f : AFile) (n : Nat) (hf : FileAt w v f) (hn : n ≤ f.len) :
    Calls Tryz.prog 42 #[v, .int .i64 n] w fun e w' => ∃ v', e = .returned v' ∧ FileAt w' v' ⟨(f.firm ++ f.loose).take n, []⟩ ∧ Upd (fblocks v) w w' ∧ (∀ k, fblocks v' k → fblocks v k ∨ w.heap.size ≤ k) ∧ FileAt w' v f := by
  by_cases h : n ≤ f.firm.length
  · rw [List.take_append_of_le_length h]; exact first_less w v f n hf h
  · rw [List.take_append, List.take_of_length_le (by omega : f.firm.length ≤ n)]; exact first_more w v f n hf (by omega) hn

theorem DiskRep.blk0 {w : World} {p m : Nat} {g : Value → Option Value} {d : ADisk} (_h : DiskRep w p m g d) (s : ByteArray) : ∀ k, fblocks ((g (.string s)).getD zFile) k → ∃ u, g (.string s) = some u ∧ fblocks u k := by
  intro k hk
  cases hgs : g (.string s) with
  | none => rw [hgs] at hk; simp [zFile, fblocks_agg, Value.ownBlock] at hk
  | some u => rw [hgs] at hk; exact ⟨u, rfl, hk⟩

/-- the first n bytes, firm. -/
def ADisk.cutTo (d : ADisk) (s : ByteArray) (n : Nat) : ADisk := d.put s ⟨((afile d s).firm ++ (afile d s).loose).take n, []⟩
theorem ADisk.WF.cutTo {d : ADisk} (h : d.WF) {s : ByteArray} {f : AFile} (hl : lk d.fs s = some f) (n : Nat) :
    ({ d.tick with fs := putF d.fs s ⟨((afile d s).firm ++ (afile d s).loose).take n, []⟩ } : ADisk).WF := by
  refine h.put (s := s) (h.names _ (lk_some_mem hl)) _ ?_ (Or.inl (by rw [hl]; rfl))
  have := h.used
  have e : ((AFile.mk (((afile d s).firm ++ (afile d s).loose).take n) []).len) ≤ (afile d s).len := by simp [AFile.len]; omega
  omega

def ADisk.sync (d : ADisk) (s : ByteArray) : ADisk := if d.down then d else if (lk d.fs s).isNone then d else d.cutTo s (afile d s).len
def ADisk.syncErr (d : ADisk) (s : ByteArray) : Int := if d.down then 15 else if (lk d.fs s).isNone then 13 else d.err

set_option maxRecDepth 100000 in
set_option maxHeartbeats 1000000 in
theorem Sync_bad (w : World) (p m : Nat) (g : Value → Option Value) (d : ADisk) (s : ByteArray) (h : DiskRep w p m g d) (hs : s.size ≤ maxLen) (fe : Int) (hfe : findErr d s = fe) (h0 : fe = 13 ∨ fe = 15) :
    Calls Tryz.prog 31 #[.pointer (some ⟨p, 0, none⟩), .string s] w fun e w' => e = .returned (.int .i64 fe) ∧ DiskPost w p m g d w' := by
  have hF := find_any w p m g d s h hs
  obtain ⟨a1, n1, c1, a2, n2, c2, hv, hb⟩ := h.fileAgg s
  rw [hv, hfe] at hF
  clear hv hfe
  rcases h0 with rfl | rfl
  all_goals
    go_enter Tryz.func31, Tryz.ntmps31
    go_wp2_with (go_at_call 44; refine hF.mono ?_; rintro e w1 ⟨rfl, hb1⟩)
    go_ret
    exact ⟨rfl, DiskPost.same h (hb1.alloc hb1.size _)⟩

set_option maxRecDepth 100000 in
set_option maxHeartbeats 4000000 in
theorem Sync_ok (w : World) (p m : Nat) (g : Value → Option Value) (d : ADisk) (s : ByteArray) (f : AFile) (h : DiskRep w p m g d) (hs : s.size ≤ maxLen) (hd : d.down = false) (hl : lk d.fs s = some f) :
    Calls Tryz.prog 31 #[.pointer (some ⟨p, 0, none⟩), .string s] w fun e w' => e = .returned (.int .i64 d.err) ∧ DiskPost w p m g (d.cutTo s (afile d s).len) w' := by
  have hF := find_any w p m g d s h hs
  have hfile := h.fileOf s
  have hblk0 := h.blk0 s
  have hwf' := h.wf.cutTo hl (afile d s).len
  rw [show findErr d s = 0 by simp [findErr, hd, hl]] at hF
  generalize hv : (g (.string s)).getD zFile = v at hF hfile hblk0
  obtain ⟨v1, v2, rfl, hr1, hr2, hap, hfl⟩ := id hfile
  obtain ⟨a1, c1, rfl, _⟩ := row_slice hr1
  obtain ⟨a2, c2, rfl, _⟩ := row_slice hr2
  have Hv := Lib.hid hv
  clear hv hd hl
  go_enter Tryz.func31, Tryz.ntmps31
  go_wp2_with (go_at_call 44; refine hF.mono ?_; rintro e w1 ⟨rfl, hb1⟩)
  have hs1 := hb1.size
  have hB := hb1.alloc hb1.size (.cells #[.slice a1 (afile d s).firm.length c1, .slice a2 (afile d s).loose.length c2] 79)
  have hbox := alloc_at w1 (.cells #[.slice a1 (afile d s).firm.length c1, .slice a2 (afile d s).loose.length c2] 79)
  generalize hW : w1.alloc (.cells #[.slice a1 (afile d s).firm.length c1, .slice a2 (afile d s).loose.length c2] 79) = W at *
  have hL : W.heap.size = w1.heap.size + 1 := by rw [← hW]; simp
  clear hW
  obtain ⟨x0, x1, _, _⟩ := cells2 hbox
  have hfW := (hfile.upd (Upd.ofBelow (fp := noFp) hB) (fun _ _ h => h)).upd ((Upd.refl noFp W).drew) (fun _ _ h => h)
  have hrepW := (h.below hB).drew
  have hLd : ∀ k, dfp p m g k → k < w1.heap.size := fun k hk => by have := h.lt hk; omega
  have hLb : ∀ k, fblocks (.agg #[.slice a1 (afile d s).firm.length c1, .slice a2 (afile d s).loose.length c2]) k → k < w1.heap.size := fun k hk => by
    obtain ⟨u, hu, hku⟩ := hblk0 k hk
    exact hLd k (Or.inr (Or.inr ⟨s, u, hu, hku⟩))
  go_region_held3 (fun w' => w'.cell? ⟨w1.heap.size, 0, none⟩ = some (.slice a1 (afile d s).firm.length c1) ∧ w'.cell? ⟨w1.heap.size, 1, none⟩ = some (.slice a2 (afile d s).loose.length c2)) (first | exact ⟨x0, x1⟩ | exact S2 | exact S3 | exact S4 | go_keep)
    (first
      | (go_at_call 53; refine (fsize_any _ _ _ hfW).mono ?_; rintro e w2 ⟨rfl, hb2⟩; have S2 : w2.cell? ⟨w1.heap.size, 0, none⟩ = some (.slice a1 (afile d s).firm.length c1) ∧ w2.cell? ⟨w1.heap.size, 1, none⟩ = some (.slice a2 (afile d s).loose.length c2) := ⟨(hb2.cell (p := ⟨w1.heap.size, 0, none⟩) (by show w1.heap.size < W.heap.size; omega)).trans x0, (hb2.cell (p := ⟨w1.heap.size, 1, none⟩) (by show w1.heap.size < W.heap.size; omega)).trans x1⟩)
      | (go_at_call 42; refine (first_any _ _ _ (afile d s).len (hfW.upd (Upd.ofBelow (fp := noFp) hb2) (fun _ _ h => h)) (Nat.le_refl _)).mono ?_; rintro e w3 ⟨v', rfl, hv3, hU3, hfp3, hold3⟩; have S3 : w3.cell? ⟨w1.heap.size, 0, none⟩ = some (.slice a1 (afile d s).firm.length c1) ∧ w3.cell? ⟨w1.heap.size, 1, none⟩ = some (.slice a2 (afile d s).loose.length c2) := ⟨(hU3.cell (by have := hb2.size; change W.heap.size ≤ _ at this; omega) (fun hk => by have := hLb _ hk; omega) 0).trans S2.1, (hU3.cell (by have := hb2.size; change W.heap.size ≤ _ at this; omega) (fun hk => by have := hLb _ hk; omega) 1).trans S2.2⟩)
      | (go_at_call 47; refine (put_any _ p m g d s v' _ ((hrepW.below hb2).touch Hv.out hU3 (fun k _ hk => hk) hold3) hs hv3 (fun k hk hd => (hfp3 k hk).elim (fun h1 => hblk0 k h1) (fun h1 => by have := hLd k hd; have := hb2.size; change W.heap.size ≤ _ at this; omega)) hwf').mono ?_; rintro e w4 ⟨rfl, hp4⟩; have S4 : w4.cell? ⟨w1.heap.size, 0, none⟩ = some (.slice a1 (afile d s).firm.length c1) ∧ w4.cell? ⟨w1.heap.size, 1, none⟩ = some (.slice a2 (afile d s).loose.length c2) := ⟨(hp4.choose_spec.2.1.cell (by have := hb2.size; have := hU3.size; change W.heap.size ≤ _ at *; omega) (fun hk => by rcases hk with hk | hk; have := hLd p (Or.inl rfl); omega; have := hLd m (Or.inr (Or.inl rfl)); omega) 0).trans S3.1, (hp4.choose_spec.2.1.cell (by have := hb2.size; have := hU3.size; change W.heap.size ≤ _ at *; omega) (fun hk => by rcases hk with hk | hk; have := hLd p (Or.inl rfl); omega; have := hLd m (Or.inr (Or.inl rfl)); omega) 1).trans S3.2⟩))
  go_wp2
  go_ret
  refine ⟨rfl, ?_⟩
  obtain ⟨g', hrep4, hU4, hfp4⟩ := hp4
  have hs2 : W.heap.size ≤ w2.heap.size := hb2.size
  have hB2 : Below w.heap.size w w2 := hB.drew.trans (hb2.mono hB.size)
  have hfd : ∀ k, fblocks (.agg #[.slice a1 (afile d s).firm.length c1, .slice a2 (afile d s).loose.length c2]) k → dfp p m g k := fun k hk => by
    obtain ⟨u, hu, hku⟩ := hblk0 k hk
    exact Or.inr (Or.inr ⟨s, u, hu, hku⟩)
  refine ⟨g', hrep4, ((Upd.ofBelow hB2).trans hU3 (fun k hk => Or.inl (hfd k hk))).trans hU4 (fun k hk => ?_), fun k hk => ?_⟩
  · rcases hk with hk | hk
    · exact Or.inl (Or.inl hk)
    · exact Or.inl (Or.inr (Or.inl hk))
  · rcases hfp4 k hk with hk | hk
    · exact Or.inl hk
    · rcases hfp3 k hk with hk | hk
      · exact Or.inl (hfd k hk)
      · exact Or.inr (by have := hB2.size; omega)

theorem Sync_any (w : World) (p m : Nat) (g : Value → Option Value) (d : ADisk) (s : ByteArray) (h : DiskRep w p m g d) (hs : s.size ≤ maxLen) :
    Calls Tryz.prog 31 #[.pointer (some ⟨p, 0, none⟩), .string s] w fun e w' => e = .returned (.int .i64 (d.syncErr s)) ∧ DiskPost w p m g (d.sync s) w' := by
  unfold ADisk.sync ADisk.syncErr
  by_cases hd : d.down = true
  · rw [if_pos hd, if_pos hd]; exact Sync_bad w p m g d s h hs 15 (by simp [findErr, hd]) (Or.inr rfl)
  rw [if_neg hd, if_neg hd]
  have hd' : d.down = false := by simpa using hd
  cases hl : lk d.fs s with
  | none => exact Sync_bad w p m g d s h hs 13 (by simp [findErr, hd', hl]) (Or.inl rfl)
  | some f => exact Sync_ok w p m g d s f h hs hd' hl

def ADisk.cut (d : ADisk) (s : ByteArray) (n : Int) : ADisk := if d.down then d else if (lk d.fs s).isNone then d else if n < 0 ∨ (afile d s).len < n then d else d.cutTo s n.toNat
def ADisk.cutErr (d : ADisk) (s : ByteArray) (n : Int) : Int := if d.down then 15 else if (lk d.fs s).isNone then 13 else if n < 0 ∨ (afile d s).len < n then 2 else d.err

set_option maxRecDepth 100000 in
set_option maxHeartbeats 1000000 in
theorem Cut_bad (w : World) (p m : Nat) (g : Value → Option Value) (d : ADisk) (s : ByteArray) (n : Int) (h : DiskRep w p m g d) (hs : s.size ≤ maxLen) (fe : Int) (hfe : findErr d s = fe) (h0 : fe = 13 ∨ fe = 15) :
    Calls Tryz.prog 17 #[.pointer (some ⟨p, 0, none⟩), .string s, .int .i64 n] w fun e w' => e = .returned (.int .i64 fe) ∧ DiskPost w p m g d w' := by
  have hF := find_any w p m g d s h hs
  obtain ⟨a1, n1, c1, a2, n2, c2, hv, hb⟩ := h.fileAgg s
  rw [hv, hfe] at hF
  clear hv hfe
  rcases h0 with rfl | rfl
  all_goals
    go_enter Tryz.func17, Tryz.ntmps17
    go_wp2_with (go_at_call 44; refine hF.mono ?_; rintro e w1 ⟨rfl, hb1⟩)
    go_ret
    exact ⟨rfl, DiskPost.same h (hb1.alloc hb1.size _)⟩

set_option maxRecDepth 100000 in
set_option maxHeartbeats 4000000 in
theorem Cut_arg (w : World) (p m : Nat) (g : Value → Option Value) (d : ADisk) (s : ByteArray) (n : Int) (f : AFile) (h : DiskRep w p m g d) (hs : s.size ≤ maxLen) (hd : d.down = false) (hl : lk d.fs s = some f) (hn : n < 0 ∨ (afile d s).len < n) :
    Calls Tryz.prog 17 #[.pointer (some ⟨p, 0, none⟩), .string s, .int .i64 n] w fun e w' => e = .returned (.int .i64 2) ∧ DiskPost w p m g d w' := by
  have hF := find_any w p m g d s h hs
  have hfile := h.fileOf s
  rw [show findErr d s = 0 by simp [findErr, hd, hl]] at hF
  generalize hv : (g (.string s)).getD zFile = v at hF hfile
  obtain ⟨v1, v2, rfl, hr1, hr2, hap, hfl⟩ := id hfile
  obtain ⟨a1, c1, rfl, _⟩ := row_slice hr1
  obtain ⟨a2, c2, rfl, _⟩ := row_slice hr2
  clear hv hd hl
  by_cases h0 : n < 0
  · go_enter Tryz.func17, Tryz.ntmps17
    go_wp2_with (go_at_call 44; refine hF.mono ?_; rintro e w1 ⟨rfl, hb1⟩)
    go_ret
    exact ⟨rfl, DiskPost.same h (hb1.alloc hb1.size _)⟩
  · have hgt : ((afile d s).len : Int) < n := by omega
    clear hn
    go_enter Tryz.func17, Tryz.ntmps17
    go_wp2_with (first | (go_at_call 44; refine hF.mono ?_; rintro e w1 ⟨rfl, hb1⟩) | (go_at_call 53; refine (fsize_any _ _ _ (hfile.upd ((Upd.ofBelow (fp := noFp) hb1).alloc _) (fun _ _ h => h))).mono ?_; rintro e w2 ⟨rfl, hb2⟩))
    go_ret
    exact ⟨rfl, DiskPost.same h ((hb1.alloc hb1.size _).trans (hb2.mono (by simp; have := hb1.size; omega)))⟩

set_option maxRecDepth 100000 in
set_option maxHeartbeats 4000000 in
theorem Cut_ok (w : World) (p m : Nat) (g : Value → Option Value) (d : ADisk) (s : ByteArray) (n : Nat) (f : AFile) (h : DiskRep w p m g d) (hs : s.size ≤ maxLen) (hd : d.down = false) (hl : lk d.fs s = some f) (hn : n ≤ (afile d s).len) :
    Calls Tryz.prog 17 #[.pointer (some ⟨p, 0, none⟩), .string s, .int .i64 n] w fun e w' => e = .returned (.int .i64 d.err) ∧ DiskPost w p m g (d.cutTo s n) w' := by
  have hF := find_any w p m g d s h hs
  have hfile := h.fileOf s
  have hblk0 := h.blk0 s
  have hwf' := h.wf.cutTo hl n
  rw [show findErr d s = 0 by simp [findErr, hd, hl]] at hF
  generalize hv : (g (.string s)).getD zFile = v at hF hfile hblk0
  obtain ⟨v1, v2, rfl, hr1, hr2, hap, hfl⟩ := id hfile
  obtain ⟨a1, c1, rfl, _⟩ := row_slice hr1
  obtain ⟨a2, c2, rfl, _⟩ := row_slice hr2
  have Hv := Lib.hid hv
  have hn' : ¬ ((afile d s).len : Int) < n := by omega
  clear hv hd hl
  go_enter Tryz.func17, Tryz.ntmps17
  go_wp2_with (first
    | (go_at_call 44; refine hF.mono ?_; rintro e w1 ⟨rfl, hb1⟩)
    | (go_at_call 53; refine (fsize_any _ _ _ (hfile.upd ((Upd.ofBelow (fp := noFp) hb1).alloc _) (fun _ _ h => h))).mono ?_; rintro e w2 ⟨rfl, hb2⟩; obtain ⟨x0, x1, y0, y1⟩ := cells2 ((hb2.block w1.heap.size (by simp)).trans (alloc_at w1 _)))
    | (go_at_call 42; refine (first_any _ _ _ n ((hfile.upd ((Upd.ofBelow (fp := noFp) hb1).alloc _) (fun _ _ h => h)).upd (Upd.ofBelow (fp := noFp) hb2) (fun _ _ h => h)) hn).mono ?_; rintro e w3 ⟨v', rfl, hv3, hU3, hfp3, hold3⟩)
    | (go_at_call 47; refine (put_any _ p m g d s v' _ ((((h.below hb1).alloc _).below hb2).touch Hv.out hU3 (fun k _ hk => hk) hold3) hs hv3 (fun k hk hd => (hfp3 k hk).elim (fun h1 => hblk0 k h1) (fun h1 => by have := h.lt hd; have := hb1.size; have := hb2.size; simp at *; omega)) hwf').mono ?_; rintro e w4 ⟨rfl, hp4⟩))
  go_ret
  refine ⟨rfl, ?_⟩
  obtain ⟨g', hrep4, hU4, hfp4⟩ := hp4
  have hB2 : Below w.heap.size w w2 := (hb1.alloc hb1.size _).trans (hb2.mono (by simp; have := hb1.size; omega))
  have hfd : ∀ k, fblocks (.agg #[.slice a1 (afile d s).firm.length c1, .slice a2 (afile d s).loose.length c2]) k → dfp p m g k := fun k hk => by
    obtain ⟨u, hu, hku⟩ := hblk0 k hk
    exact Or.inr (Or.inr ⟨s, u, hu, hku⟩)
  refine ⟨g', hrep4, ((Upd.ofBelow hB2).trans hU3 (fun k hk => Or.inl (hfd k hk))).trans hU4 (fun k hk => ?_), fun k hk => ?_⟩
  · rcases hk with hk | hk
    · exact Or.inl (Or.inl hk)
    · exact Or.inl (Or.inr (Or.inl hk))
  · rcases hfp4 k hk with hk | hk
    · exact Or.inl hk
    · rcases hfp3 k hk with hk | hk
      · exact Or.inl (hfd k hk)
      · exact Or.inr (by have := hB2.size; omega)

theorem Cut_any (w : World) (p m : Nat) (g : Value → Option Value) (d : ADisk) (s : ByteArray) (n : Int) (h : DiskRep w p m g d) (hs : s.size ≤ maxLen) :
    Calls Tryz.prog 17 #[.pointer (some ⟨p, 0, none⟩), .string s, .int .i64 n] w fun e w' => e = .returned (.int .i64 (d.cutErr s n)) ∧ DiskPost w p m g (d.cut s n) w' := by
  unfold ADisk.cut ADisk.cutErr
  by_cases hd : d.down = true
  · rw [if_pos hd, if_pos hd]; exact Cut_bad w p m g d s n h hs 15 (by simp [findErr, hd]) (Or.inr rfl)
  rw [if_neg hd, if_neg hd]
  have hd' : d.down = false := by simpa using hd
  cases hl : lk d.fs s with
  | none => exact Cut_bad w p m g d s n h hs 13 (by simp [findErr, hd', hl]) (Or.inl rfl)
  | some f =>
    simp only [Option.isNone_some, Bool.false_eq_true, if_false]
    by_cases hn : n < 0 ∨ (afile d s).len < n
    · rw [if_pos hn, if_pos hn]; exact Cut_arg w p m g d s n f h hs hd' hl hn
    · rw [if_neg hn, if_neg hn]
      have e : n = ((n.toNat : Nat) : Int) := by omega
      have := Cut_ok w p m g d s n.toNat f h hs hd' hl (by omega)
      rwa [← e] at this
end Go.Proofs.YtkacgmbinkoojaaGreatDoor

/-
  The walks of Remove and Rename.
-/
namespace Go.Proofs.YtkacgmbinkoojaaGreatDoor
open Go.RowKit Go.Maps Go.MapKept

open Classical in
theorem DiskRep.deleted {w w' : World} {p m n : Nat} {g g' : Value → Option Value} {d : ADisk} (h : DiskRep w p m g d) {s : ByteArray}
    (hg' : ∀ x, g' x = if x = .string s then none else g x)
    (hm : MapIs Tryz.prog 9 w' m n g') (hg : w.grownBy w' (some m)) (hn : n = (delF d.fs s).length)
    (hw : ({ d with fs := delF d.fs s } : ADisk).WF) : DiskRep w' p m g' { d with fs := delF d.fs s } where
  head := by rw [hg.block p (blk_lt h.head) (fun e => h.p_ne_m (by cases e; rfl))]; exact h.head
  map := by subst hn; exact hm
  dom key u hk := by
    rw [hg'] at hk
    split at hk
    · cases hk
    · rename_i hne
      obtain ⟨t, f', ht, hl⟩ := h.dom key u hk
      have hts : t ≠ s := fun e => hne (by rw [ht, e])
      exact ⟨t, f', ht, by rw [lk_delF, if_neg hts]; exact hl⟩
  file t f' hl := by
    have hu : Upd (· = m) w w' := (Upd.refl _ _).grown hg (fun k hk => by cases hk; exact Or.inl rfl)
    simp only [lk_delF] at hl
    by_cases hts : t = s
    · rw [if_pos hts] at hl; cases hl
    · rw [if_neg hts] at hl
      obtain ⟨u, hgu, hfu⟩ := h.file t f' hl
      exact ⟨u, by rw [hg', if_neg (by simpa using hts)]; exact hgu, hfu.upd hu (fun k hk => (h.block_ne hfu hk).2)⟩
  apart a b va vb ha hb hab k hka hkb := by
    rw [hg'] at ha hb
    split at ha
    · cases ha
    · split at hb
      · cases hb
      · exact h.apart a b va vb ha hb hab k hka hkb
  wf := hw

theorem ADisk.WF.del {d : ADisk} (h : d.WF) (s : ByteArray) : ({ d with fs := delF d.fs s } : ADisk).WF where
  sorted := sorted_delF h.sorted s
  names p hp := h.names p ((List.mem_filter.1 hp).1)
  used := by
    have := used_delF h.sorted s
    have := h.used
    show ((usedF (delF d.fs s) : Nat) : Int) ≤ d.most
    omega
  most0 := h.most0
  most1 := h.most1
  left0 := h.left0
  left1 := h.left1
  count := by
    show (delF d.fs s).length ≤ 200
    rw [length_delF h.sorted]
    have := h.count
    split <;> omega

def ADisk.remove (d : ADisk) (s : ByteArray) : ADisk := if d.down then d else if (lk d.fs s).isNone then d else if d.left = 0 then d.fail else { d.tick with fs := delF d.fs s }
def ADisk.removeErr (d : ADisk) (s : ByteArray) : Int := if d.down then 15 else if (lk d.fs s).isNone then 13 else d.err

set_option maxRecDepth 100000 in
set_option maxHeartbeats 1000000 in
theorem Remove_bad (w : World) (p m : Nat) (g : Value → Option Value) (d : ADisk) (s : ByteArray) (h : DiskRep w p m g d) (hs : s.size ≤ maxLen) (fe : Int) (hfe : findErr d s = fe) (h0 : fe = 13 ∨ fe = 15) :
    Calls Tryz.prog 19 #[.pointer (some ⟨p, 0, none⟩), .string s] w fun e w' => e = .returned (.int .i64 fe) ∧ Below w.heap.size w w' := by
  have hF := find_any w p m g d s h hs
  obtain ⟨a1, n1, c1, a2, n2, c2, hv, hb⟩ := h.fileAgg s
  rw [hv, hfe] at hF
  clear hv hfe
  rcases h0 with rfl | rfl
  all_goals
    go_enter Tryz.func19, Tryz.ntmps19
    go_wp2_with (go_at_call 44; refine hF.mono ?_; rintro e w1 ⟨rfl, hb1⟩)
    go_ret
    exact ⟨rfl, hb1.alloc hb1.size _⟩

set_option maxRecDepth 100000 in
set_option maxHeartbeats 1000000 in
theorem Remove_fail (w : World) (p m : Nat) (g : Value → Option Value) (d : ADisk) (s : ByteArray) (h : DiskRep w p m g d) (hs : s.size ≤ maxLen) (hfe : findErr d s = 0) (hz : d.left = 0) :
    Calls Tryz.prog 19 #[.pointer (some ⟨p, 0, none⟩), .string s] w fun e w' => e = .returned (.int .i64 15) ∧ DiskRep w' p m g d.fail ∧ Upd (fun k => k = p ∨ k = m) w w' := by
  have hF := find_any w p m g d s h hs
  obtain ⟨a1, n1, c1, a2, n2, c2, hv, hb⟩ := h.fileAgg s
  rw [hv, hfe] at hF
  have hwf := h.wf
  have hl0 := hwf.left0
  have hl1 := hwf.left1
  have hzb : (!(d.left == 0)) = false := by simp [hz]
  have Hz := Lib.hid hz
  have Hzb := Lib.hid hzb
  clear hv hfe hz hzb
  go_enter Tryz.func19, Tryz.ntmps19
  go_wp2_with (first
    | (go_at_call 44; refine hF.mono ?_; rintro e w1 ⟨rfl, hb1⟩)
    | (go_at_call 54; refine (step_any p d.left d.down (.map (some m)) (.int .i64 d.most) 63 _ (((h.below hb1).alloc _).head) hl0 hl1).mono ?_; rw [Hzb.out]; rintro e w2 ⟨rfl, hb2, hu2, hs2⟩))
  go_ret
  refine ⟨rfl, ?_, ?_⟩
  · exact ((h.below hb1).alloc _).power (l := -1) (b := true) hu2 (by rw [hb2, Hz.out]; rfl) hwf.fail
  · exact ((Upd.ofBelow hb1).alloc _).trans hu2 (fun k hk => Or.inl (Or.inl hk))

open Classical in
set_option maxRecDepth 100000 in
set_option maxHeartbeats 1000000 in
theorem Remove_ok (w : World) (p m : Nat) (g : Value → Option Value) (d : ADisk) (s : ByteArray) (h : DiskRep w p m g d) (hs : s.size ≤ maxLen) (hfe : findErr d s = 0) (hz : d.left ≠ 0) :
    Calls Tryz.prog 19 #[.pointer (some ⟨p, 0, none⟩), .string s] w fun e w' => e = .returned (.int .i64 0) ∧ DiskRep w' p m (fun x => if x = .string s then none else g x) { d.tick with fs := delF d.fs s } ∧ Upd (fun k => k = p ∨ k = m) w w' := by
  have hF := find_any w p m g d s h hs
  obtain ⟨a1, n1, c1, a2, n2, c2, hv, hb⟩ := h.fileAgg s
  rw [hv, hfe] at hF
  have hwf := h.wf
  have hl0 := hwf.left0
  have hl1 := hwf.left1
  have hzb : (!(d.left == 0)) = true := by simp [hz]
  have Hz := Lib.hid hz
  have Hzb := Lib.hid hzb
  have hk := key_of hs
  have Hb := Lib.hid hb
  clear hv hfe hz hzb hb
  go_enter Tryz.func19, Tryz.ntmps19
  go_wp2_with (first
    | (go_at_call 44; refine hF.mono ?_; rintro e w1 ⟨rfl, hb1⟩)
    | (go_at_call 54; refine (step_any p d.left d.down (.map (some m)) (.int .i64 d.most) 63 _ (((h.below hb1).alloc _).head) hl0 hl1).mono ?_; rw [Hzb.out]; rintro e w2 ⟨rfl, hb2, hu2, hs2⟩; have hrep2 := ((h.below hb1).alloc _).power (l := max (d.left - 1) (-1)) (b := false) hu2 (by rw [hb2, show (d.left == 0) = false by simpa using Hz.out]) hwf.tick; obtain ⟨q0, q1, q2, q3, _⟩ := cells4 hrep2.head)
    | (refine wpList_map_delete rfl (.tmp 24) (.tmp 25) 61 9 79 rfl Tryz.underlying61 keyed m _ g hrep2.map rfl (.string s) rfl _ hk (delF d.fs s).length (by rw [length_delF hwf.sorted, Hb.out]) ?_))
  intro w3 hm3 hg3 hs3
  have hrep3 := hrep2.deleted (fun x => rfl) hm3 hg3 rfl (hwf.tick.del s)
  have hu3 : Upd (fun k => k = p ∨ k = m) w2 w3 := (Upd.refl _ _).grown hg3 (fun k hk => by cases hk; exact Or.inl (Or.inr rfl))
  have Hm3 := Lib.hid hm3
  clear hm3
  go_wp2
  go_ret
  exact ⟨rfl, hrep3, (((Upd.ofBelow hb1).alloc _).trans hu2 (fun k hk => Or.inl (Or.inl hk))).trans hu3 (fun k hk => Or.inl hk)⟩

open Classical in
theorem Remove_any (w : World) (p m : Nat) (g : Value → Option Value) (d : ADisk) (s : ByteArray) (h : DiskRep w p m g d) (hs : s.size ≤ maxLen) :
    Calls Tryz.prog 19 #[.pointer (some ⟨p, 0, none⟩), .string s] w fun e w' => e = .returned (.int .i64 (d.removeErr s)) ∧ DiskPost w p m g (d.remove s) w' := by
  unfold ADisk.remove ADisk.removeErr
  by_cases hd : d.down = true
  · rw [if_pos hd, if_pos hd]
    exact (Remove_bad w p m g d s h hs 15 (by simp [findErr, hd]) (Or.inr rfl)).mono fun e w' he => ⟨he.1, DiskPost.same h he.2⟩
  rw [if_neg hd, if_neg hd]
  have hd' : d.down = false := by simpa using hd
  cases hl : lk d.fs s with
  | none => exact (Remove_bad w p m g d s h hs 13 (by simp [findErr, hd', hl]) (Or.inl rfl)).mono fun e w' he => ⟨he.1, DiskPost.same h he.2⟩
  | some f =>
    simp only [Option.isNone_some, Bool.false_eq_true, if_false]
    have hfe : findErr d s = 0 := by simp [findErr, hd', hl]
    have hsub : ∀ k, k = p ∨ k = m → dfp p m g k ∨ w.heap.size ≤ k := fun k hk => by rcases hk with hk | hk; exact Or.inl (Or.inl hk); exact Or.inl (Or.inr (Or.inl hk))
    by_cases hz : d.left = 0
    · rw [if_pos hz, ADisk.err, if_pos hz]
      exact (Remove_fail w p m g d s h hs hfe hz).mono fun e w' he => ⟨he.1, g, he.2.1, he.2.2.mono hsub, fun k hk => Or.inl hk⟩
    · rw [if_neg hz, ADisk.err, if_neg hz]
      refine (Remove_ok w p m g d s h hs hfe hz).mono fun e w' he => ⟨he.1, _, he.2.1, he.2.2.mono hsub, fun k hk => ?_⟩
      rcases hk with hk | hk | ⟨t, u, hu, hku⟩
      · exact Or.inl (Or.inl hk)
      · exact Or.inl (Or.inr (Or.inl hk))
      · replace hu : (if Value.string t = Value.string s then none else g (.string t)) = some u := hu
        split at hu
        · cases hu
        · exact Or.inl (Or.inr (Or.inr ⟨t, u, hu, hku⟩))

def ADisk.rename (d : ADisk) (s t : ByteArray) : ADisk := if d.down then d else if (lk d.fs s).isNone then d else if okName t = false then d else if d.left = 0 then d.fail else { d.tick with fs := putF (delF d.fs s) t (afile d s) }
def ADisk.renameErr (d : ADisk) (s t : ByteArray) : Int := if d.down then 15 else if (lk d.fs s).isNone then 13 else if okName t = false then 13 else d.err

set_option maxRecDepth 100000 in
set_option maxHeartbeats 1000000 in
theorem Rename_bad (w : World) (p m : Nat) (g : Value → Option Value) (d : ADisk) (s t : ByteArray) (h : DiskRep w p m g d) (hs : s.size ≤ maxLen) (fe : Int) (hfe : findErr d s = fe) (h0 : fe = 13 ∨ fe = 15) :
    Calls Tryz.prog 33 #[.pointer (some ⟨p, 0, none⟩), .string s, .string t] w fun e w' => e = .returned (.int .i64 fe) ∧ Below w.heap.size w w' := by
  have hF := find_any w p m g d s h hs
  obtain ⟨a1, n1, c1, a2, n2, c2, hv, hb⟩ := h.fileAgg s
  rw [hv, hfe] at hF
  clear hv hfe
  rcases h0 with rfl | rfl
  all_goals
    go_enter Tryz.func33, Tryz.ntmps33
    go_wp2_with (go_at_call 44; refine hF.mono ?_; rintro e w1 ⟨rfl, hb1⟩)
    go_ret
    exact ⟨rfl, hb1.alloc hb1.size _⟩

set_option maxRecDepth 100000 in
set_option maxHeartbeats 1000000 in
theorem Rename_name (w : World) (p m : Nat) (g : Value → Option Value) (d : ADisk) (s t : ByteArray) (h : DiskRep w p m g d) (hs : s.size ≤ maxLen) (ht : t.size ≤ maxLen) (hfe : findErr d s = 0) (hn : okName t = false) :
    Calls Tryz.prog 33 #[.pointer (some ⟨p, 0, none⟩), .string s, .string t] w fun e w' => e = .returned (.int .i64 13) ∧ Below w.heap.size w w' := by
  have hF := find_any w p m g d s h hs
  obtain ⟨a1, n1, c1, a2, n2, c2, hv, hb⟩ := h.fileAgg s
  rw [hv, hfe] at hF
  have hN := fun w => named_any t w ht
  rw [hn] at hN
  clear hv hfe hn
  go_enter Tryz.func33, Tryz.ntmps33
  go_wp2_with (first | (go_at_call 44; refine hF.mono ?_; rintro e w1 ⟨rfl, hb1⟩) | (go_at_call 45; refine (hN _).mono ?_; rintro e w2 ⟨rfl, hb2⟩))
  go_ret
  exact ⟨rfl, (hb1.alloc hb1.size _).trans (hb2.mono (by simp; have := hb1.size; omega))⟩

set_option maxRecDepth 100000 in
set_option maxHeartbeats 1000000 in
theorem Rename_fail (w : World) (p m : Nat) (g : Value → Option Value) (d : ADisk) (s t : ByteArray) (h : DiskRep w p m g d) (hs : s.size ≤ maxLen) (ht : t.size ≤ maxLen) (hfe : findErr d s = 0) (hn : okName t = true) (hz : d.left = 0) :
    Calls Tryz.prog 33 #[.pointer (some ⟨p, 0, none⟩), .string s, .string t] w fun e w' => e = .returned (.int .i64 15) ∧ DiskRep w' p m g d.fail ∧ Upd (fun k => k = p ∨ k = m) w w' := by
  have hF := find_any w p m g d s h hs
  obtain ⟨a1, n1, c1, a2, n2, c2, hv, hb⟩ := h.fileAgg s
  rw [hv, hfe] at hF
  have hN := fun w => named_any t w ht
  rw [hn] at hN
  have Hfe := Lib.hid hfe
  have Hz := Lib.hid hz
  clear hv hfe hn hz
  go_enter Tryz.func33, Tryz.ntmps33
  go_wp2_with (first
    | (go_at_call 44; refine hF.mono ?_; rintro e w1 ⟨rfl, hb1⟩)
    | (go_at_call 45; refine (hN _).mono ?_; rintro e w2 ⟨rfl, hb2⟩)
    | (go_at_call 19; refine (Remove_fail _ p m g d s (((h.below hb1).alloc _).below hb2) hs Hfe.out Hz.out).mono ?_; rintro e w3 ⟨rfl, hrep3, hU3⟩))
  go_ret
  exact ⟨rfl, hrep3, (((Upd.ofBelow hb1).alloc _).trans (Upd.ofBelow (fp := noFp) hb2) (fun k hk => hk.elim)).trans hU3 (fun k hk => Or.inl hk)⟩

open Classical in
set_option maxRecDepth 100000 in
set_option maxHeartbeats 4000000 in
theorem Rename_ok (w : World) (p m : Nat) (g : Value → Option Value) (d : ADisk) (s t : ByteArray) (f : AFile) (h : DiskRep w p m g d) (hs : s.size ≤ maxLen) (ht : t.size ≤ maxLen) (hd : d.down = false) (hl : lk d.fs s = some f) (hn : okName t = true) (hz : d.left ≠ 0) :
    Calls Tryz.prog 33 #[.pointer (some ⟨p, 0, none⟩), .string s, .string t] w fun e w' => e = .returned (.int .i64 0) ∧ ∃ g', DiskRep w' p m g' { d.tick with fs := putF (delF d.fs s) t f } ∧ Upd (fun k => k = p ∨ k = m) w w' ∧ ∀ k, dfp p m g' k → dfp p m g k := by
  have hF := find_any w p m g d s h hs
  have hfe : findErr d s = 0 := by simp [findErr, hd, hl]
  obtain ⟨v, hg, hfile⟩ := h.file s f hl
  rw [hfe, hg, Option.getD_some] at hF
  have hNm := fun w => named_any t w ht
  rw [hn] at hNm
  have hwf1 := h.wf.tick.del s
  have hwf2 : ({ d.tick with fs := putF (delF d.fs s) t f } : ADisk).WF := by
    have h0 := (h.wf.tick.del s)
    have hu := used_delF h.wf.sorted s
    have hlen := length_delF h.wf.sorted s
    rw [hl] at hu hlen
    have hpos := List.length_pos_of_mem (lk_some_mem hl)
    have hc := h.wf.count
    have hus := h.wf.used
    refine { h0 with sorted := sorted_putF h0.sorted t f, names := fun q hq => ?_, used := ?_, count := ?_ }
    · rcases mem_putF hq with rfl | hq
      · exact hn
      · exact h0.names q hq
    · have := used_putF h0.sorted t f
      show ((usedF (putF (delF d.fs s) t f) : Nat) : Int) ≤ d.most
      change usedF (putF (delF d.fs s) t f) + _ = usedF (delF d.fs s) + f.len at this
      simp only [Option.map_some, Option.getD_some] at hu
      omega
    · show (putF (delF d.fs s) t f).length ≤ 200
      rw [length_putF (fs := delF d.fs s) h0.sorted t f]
      change (delF d.fs s).length = _ at hlen
      simp only [Option.isSome_some, if_true] at hlen
      split <;> omega
  obtain ⟨v1, v2, rfl, hr1, hr2, hap, hfl⟩ := id hfile
  obtain ⟨a1, c1, rfl, _⟩ := row_slice hr1
  obtain ⟨a2, c2, rfl, _⟩ := row_slice hr2
  have Hfe := Lib.hid hfe
  have Hg := Lib.hid hg
  have Hl := Lib.hid hl
  have hk := key_of ht
  clear hfe hn hd hg hl
  go_enter Tryz.func33, Tryz.ntmps33
  go_wp2_with (first
    | (go_at_call 44; refine hF.mono ?_; rintro e w1 ⟨rfl, hb1⟩)
    | (go_at_call 45; refine (hNm _).mono ?_; rintro e w2 ⟨rfl, hb2⟩; obtain ⟨x0, x1, y0, y1⟩ := cells2 ((hb2.block w1.heap.size (by simp)).trans (alloc_at w1 _)))
    | (go_at_call 19; refine (Remove_ok _ p m g d s (((h.below hb1).alloc _).below hb2) hs Hfe.out hz).mono ?_; rintro e w3 ⟨rfl, hp3⟩; have hU3 := hp3.2; have hL : w1.heap.size < w2.heap.size := by (have := hb2.size; simp at this; omega)))
  have hB2 : Below w.heap.size w w2 := (hb1.alloc hb1.size _).trans (hb2.mono (by simp; have := hb1.size; omega))
  have hrep3 := hp3.1
  have hs1 := hb1.size
  have hboxL : w3.heap[w1.heap.size]? = some (.cells #[.slice a1 f.firm.length c1, .slice a2 f.loose.length c2] 79) := hU3.keep ((hb2.block w1.heap.size (by simp)).trans (alloc_at w1 _)) (fun hk => by rcases hk with hk | hk; have := blk_lt h.head; omega; have := h.map.lt; omega)
  have hfile2 : FileAt w2 (.agg #[.slice a1 f.firm.length c1, .slice a2 f.loose.length c2]) f := hfile.upd (Upd.ofBelow (fp := noFp) hB2) (fun _ _ h => h)
  have hfile3 : FileAt w3 (.agg #[.slice a1 f.firm.length c1, .slice a2 f.loose.length c2]) f := hfile2.upd hU3 (fun k hk e => by have := (h.below hB2).block_ne hfile2 hk; omega)
  have hblk3 : ∀ k, fblocks (.agg #[.slice a1 f.firm.length c1, .slice a2 f.loose.length c2]) k → dfp p m (fun x => if x = .string s then none else g x) k → ∃ u, (if Value.string t = Value.string s then none else g (.string t)) = some u ∧ fblocks u k := by
    intro k hk hdk
    exfalso
    have hne := h.block_ne hfile hk
    rcases hdk with hdk | hdk | ⟨r, u, hu, hku⟩
    · exact hne.1 hdk
    · exact hne.2 hdk
    · replace hu : (if Value.string r = Value.string s then none else g (.string r)) = some u := hu
      split at hu
      · cases hu
      · rename_i hrs
        exact h.apart s r _ u Hg.out hu (fun e => hrs (by rw [e])) k hk hku
  obtain ⟨q0, q1, q2, q3, _⟩ := cells4 hrep3.head
  obtain ⟨x0', x1', y0', y1'⟩ := cells2 hboxL
  have hcount := h.wf.count
  refine wp_region_tail 6 (by kernel_rfl) (by kernel_rfl) ?_
  simp only [List.take_succ_cons, List.take_zero, List.drop_succ_cons, List.drop_zero]
  repeat still_step
  refine wpStill_nil ?_
  refine wpList_map_update rfl (.tmp 32) (.tmp 33) (.tmp 34) 61 9 79 rfl Tryz.underlying61 keyed m _ _ hrep3.map.drew rfl (.string t) rfl _ hk (.agg #[.slice a1 f.firm.length c1, .slice a2 f.loose.length c2]) rfl ?_ (putF (delF d.fs s) t f).length ?_ ?_
  · have hc3 : (delF d.fs s).length ≤ 200 := hrep3.wf.count
    show (delF d.fs s).length < maxLen
    simp only [maxLen]
    omega
  · rw [length_putF (fs := delF d.fs s) hwf1.sorted t f]
    obtain ⟨_, _, _, _, _, _, _, hb⟩ := hrep3.fileAgg t
    simp only [hb]
  intro w4 hm4 hg4 hs4
  have hrep4 := hrep3.stored (s := t) (f := f) hfile3 hblk3 hm4 (grown_drew hg4) rfl hwf2
  have hu4 : Upd (fun k => k = p ∨ k = m) w3 w4 := (Upd.refl _ _).drew.grown hg4 (fun k hk => by cases hk; exact Or.inl (Or.inr rfl))
  have Hm4 := Lib.hid hm4
  have Hb3 := Lib.hid hblk3
  clear hm4 hblk3
  go_wp2
  go_ret
  refine ⟨rfl, _, hrep4, ((Upd.ofBelow hB2).trans hU3 (fun k hk => Or.inl hk)).trans hu4 (fun k hk => Or.inl hk), fun k hk => ?_⟩
  rcases hk with hk | hk | ⟨r, u, hu, hku⟩
  · exact Or.inl hk
  · exact Or.inr (Or.inl hk)
  · replace hu : (if Value.string r = Value.string t then some (.agg #[.slice a1 f.firm.length c1, .slice a2 f.loose.length c2]) else if Value.string r = Value.string s then none else g (.string r)) = some u := hu
    split at hu
    · cases hu
      exact Or.inr (Or.inr ⟨s, _, Hg.out, hku⟩)
    · split at hu
      · cases hu
      · exact Or.inr (Or.inr ⟨r, u, hu, hku⟩)

theorem Rename_any (w : World) (p m : Nat) (g : Value → Option Value) (d : ADisk) (s t : ByteArray) (h : DiskRep w p m g d) (hs : s.size ≤ maxLen) (ht : t.size ≤ maxLen) :
    Calls Tryz.prog 33 #[.pointer (some ⟨p, 0, none⟩), .string s, .string t] w fun e w' => e = .returned (.int .i64 (d.renameErr s t)) ∧ DiskPost w p m g (d.rename s t) w' := by
  unfold ADisk.rename ADisk.renameErr
  by_cases hd : d.down = true
  · rw [if_pos hd, if_pos hd]
    exact (Rename_bad w p m g d s t h hs 15 (by simp [findErr, hd]) (Or.inr rfl)).mono fun e w' he => ⟨he.1, DiskPost.same h he.2⟩
  rw [if_neg hd, if_neg hd]
  have hd' : d.down = false := by simpa using hd
  cases hl : lk d.fs s with
  | none => exact (Rename_bad w p m g d s t h hs 13 (by simp [findErr, hd', hl]) (Or.inl rfl)).mono fun e w' he => ⟨he.1, DiskPost.same h he.2⟩
  | some f =>
    simp only [Option.isNone_some, Bool.false_eq_true, if_false]
    have hfe : findErr d s = 0 := by simp [findErr, hd', hl]
    by_cases hn : okName t = false
    · rw [if_pos hn, if_pos hn]
      exact (Rename_name w p m g d s t h hs ht hfe hn).mono fun e w' he => ⟨he.1, DiskPost.same h he.2⟩
    rw [if_neg hn, if_neg hn]
    have hn' : okName t = true := by simpa using hn
    have hsub : ∀ k, k = p ∨ k = m → dfp p m g k ∨ w.heap.size ≤ k := fun k hk => by rcases hk with hk | hk; exact Or.inl (Or.inl hk); exact Or.inl (Or.inr (Or.inl hk))
    by_cases hz : d.left = 0
    · rw [if_pos hz, ADisk.err, if_pos hz]
      exact (Rename_fail w p m g d s t h hs ht hfe hn' hz).mono fun e w' he => ⟨he.1, g, he.2.1, he.2.2.mono hsub, fun k hk => Or.inl hk⟩
    · rw [if_neg hz, ADisk.err, if_neg hz]
      refine (Rename_ok w p m g d s t f h hs ht hd' hl hn' hz).mono fun e w' he => ⟨he.1, ?_⟩
      obtain ⟨g', h1, h2, h3⟩ := he.2
      refine ⟨g', ?_, h2.mono hsub, fun k hk => Or.inl (h3 k hk)⟩
      simpa [afile, hl] using h1
end Go.Proofs.YtkacgmbinkoojaaGreatDoor

/-
  The walk of Crash.
-/
namespace Go.Proofs.YtkacgmbinkoojaaGreatDoor
open Go.RowKit Go.Maps Go.MapKept

def AFile.kept (f : AFile) (x : Int) : AFile := ⟨(f.firm ++ f.loose).take (f.firm.length + (min (max x 0) f.loose.length).toNat), []⟩
def crashK (fs : List (ByteArray × AFile)) (keeps : List Int) : Nat → List (ByteArray × AFile)
  | 0 => fs
  | k + 1 => match fs[k]? with
    | some q => putF (crashK fs keeps k) q.1 (q.2.kept (keeps.getD k 0))
    | none => crashK fs keeps k
def ADisk.crash (d : ADisk) (keeps : List Int) : ADisk := { d with left := -1, down := false, fs := crashK d.fs keeps d.fs.length }

theorem crashK_later {fs : List (ByteArray × AFile)} (h : SortedF fs) (keeps : List Int) (k j : Nat) (hj : k ≤ j) (hjl : j < fs.length) : lk (crashK fs keeps k) fs[j].1 = some fs[j].2 := by
  induction k with
  | zero => exact mem_lk h (List.getElem_mem hjl)
  | succ k ih =>
    have ih := ih (by omega)
    simp only [crashK]
    rw [List.getElem?_eq_getElem (by omega : k < fs.length)]
    simp only [lk_putF]
    rw [if_neg, ih]
    intro e
    have := List.pairwise_iff_getElem.1 h k j (by omega) hjl (by omega)
    exact ltS_ne this e.symm
theorem kept_len (f : AFile) (x : Int) : (f.kept x).len ≤ f.len := by
  simp only [AFile.kept, AFile.len]
  simp
  omega
theorem ADisk.WF.crashK {d : ADisk} (h : d.WF) (keeps : List Int) (k : Nat) : ({ d with fs := crashK d.fs keeps k } : ADisk).WF := by
  induction k with
  | zero => exact h
  | succ k ih =>
    simp only [Proofs.YtkacgmbinkoojaaGreatDoor.crashK]
    cases hq : d.fs[k]? with
    | none => exact ih
    | some q =>
      obtain ⟨hk, hqe⟩ := List.getElem?_eq_some_iff.1 hq
      have hl := crashK_later h.sorted keeps k k (Nat.le_refl _) hk
      rw [hqe] at hl
      have h1 := used_putF ih.sorted q.1 (q.2.kept (keeps.getD k 0))
      change usedF _ + ((lk (Proofs.YtkacgmbinkoojaaGreatDoor.crashK d.fs keeps k) q.1).map AFile.len).getD 0 = usedF (Proofs.YtkacgmbinkoojaaGreatDoor.crashK d.fs keeps k) + _ at h1
      rw [hl] at h1
      have h2 := kept_len q.2 (keeps.getD k 0)
      have h3 := ih.used
      refine { ih with sorted := sorted_putF ih.sorted _ _, names := fun r hr => ?_, used := ?_, count := ?_ }
      · rcases mem_putF hr with rfl | hr
        · exact ih.names (q.1, q.2) (lk_some_mem hl)
        · exact ih.names r hr
      · change ((usedF (putF (Proofs.YtkacgmbinkoojaaGreatDoor.crashK d.fs keeps k) q.1 (q.2.kept (keeps.getD k 0))) : Nat) : Int) ≤ d.most
        change ((usedF (Proofs.YtkacgmbinkoojaaGreatDoor.crashK d.fs keeps k) : Nat) : Int) ≤ d.most at h3
        simp only [Option.map_some, Option.getD_some] at h1
        change usedF (putF (Proofs.YtkacgmbinkoojaaGreatDoor.crashK d.fs keeps k) q.1 (q.2.kept (keeps.getD k 0))) + _ = _ at h1
        omega
      · change (putF (Proofs.YtkacgmbinkoojaaGreatDoor.crashK d.fs keeps k) q.1 (q.2.kept (keeps.getD k 0))).length ≤ 200
        rw [length_putF (fs := Proofs.YtkacgmbinkoojaaGreatDoor.crashK d.fs keeps k) ih.sorted]
        rw [hl]
        exact ih.count

theorem first_int (w : World) (v : Value) (f : AFile) (z : Int) (n : Nat) (hz : z = n) (hf : FileAt w v f) (hn : n ≤ f.len) :
    Calls Tryz.prog 42 #[v, .int .i64 z] w fun e w' => ∃ v', e = .returned v' ∧ FileAt w' v' ⟨(f.firm ++ f.loose).take n, []⟩ ∧ Upd (fblocks v) w w' ∧ (∀ k, fblocks v' k → fblocks v k ∨ w.heap.size ≤ k) ∧ FileAt w' v f := by
  subst hz; exact first_any w v f n hf hn

def iCells (l : List Int) : List Value := l.map (Value.int .i64)
def isI64 (x : Int) : Prop := -9223372036854775808 ≤ x ∧ x ≤ 9223372036854775807

open Classical in
set_option maxRecDepth 100000 in
set_option maxHeartbeats 4000000 in
theorem Crash_any0 (w : World) (p m : Nat) (g : Value → Option Value) (d : ADisk) (vk : Value) (keeps : List Int) (h : DiskRep w p m g d) (hrd : Rd w vk (iCells keeps)) (hkl : keeps.length ≤ 9223372036854775807)
    (hki : ∀ x ∈ keeps, isI64 x) (hdis : ∀ k, vk.ownBlock = some k → keeps ≠ [] → ¬ dfp p m g k) :
    Calls Tryz.prog 13 #[.pointer (some ⟨p, 0, none⟩), vk] w fun e w' => e = .returned (.tuple #[]) ∧ DiskPost w p m g (d.crash keeps) w' := by
  obtain ⟨ak, ck, rfl⟩ := hrd.shape
  have hicl : (iCells keeps).length = keeps.length := by simp [iCells]
  rw [hicl] at hrd hdis ⊢
  have hwf := h.wf
  have hcount : d.fs.length ≤ 200 := hwf.count
  have hnl : d.names.length = d.fs.length := by simp [ADisk.names]
  go_enter Tryz.func13, Tryz.ntmps13
  go_wp2_with (go_at_call 26; refine (List_any w p m g d h).mono ?_; rw [hnl]; rintro e w1 ⟨a, c, rfl, hrow, hnil, hb1⟩)
  have Hrow := Lib.hid hrow
  have hdsz : ∀ k, dfp p m g k → k < w.heap.size := fun k hk => h.lt hk
  have h1 := h.below hb1
  clear hnil hrow hnl hicl
  go_loopw [11] (fun i wr => ∃ k : Nat, k ≤ d.fs.length ∧ i = .int .i64 k ∧ DiskPost w1 p m g { d with fs := crashK d.fs keeps k } wr) (fun i _ => d.fs.length - (intOf i).toNat)
  case atStart => exact ⟨0, by omega, rfl, DiskPost.same h1 (Below.refl _ _)⟩
  case round =>
    obtain ⟨k, hk, rfl, hpost⟩ := hrel
    have Hpost := Lib.hid hpost
    clear hpost
    by_cases hlt : k < d.fs.length
    · obtain ⟨gr, hrepr, hUr, hfpr⟩ := Hpost.out
      obtain ⟨gb, c', hv, hgb, hgl, hcells⟩ := row_cell Hrow.out k hlt
      cases hv
      have hcell := hcells k hlt
      have hnk : k < d.names.length := by simpa [ADisk.names] using hlt
      rw [List.getElem?_map, List.getElem?_eq_getElem hnk, Option.map_some] at hcell
      have hnmk : d.names[k] = d.fs[k].1 := by simp [ADisk.names]
      rw [hnmk] at hcell
      have hcr : wr.cell? ⟨gb, k, none⟩ = some (.string d.fs[k].1) := (hUr.cell hgl (fun hd => by have := hdsz _ hd; omega) k).trans hcell
      have hks : d.fs[k].1.size ≤ 40 := hwf.name_size (by rw [← hnmk]; exact List.getElem_mem _)
      have hlk : lk (crashK d.fs keeps k) d.fs[k].1 = some d.fs[k].2 := crashK_later hwf.sorted keeps k k (Nat.le_refl _) hlt
      have hwfk := hwf.crashK keeps (k + 1)
      have hsucc : crashK d.fs keeps (k + 1) = putF (crashK d.fs keeps k) d.fs[k].1 (d.fs[k].2.kept (keeps.getD k 0)) := by
        simp only [crashK]
        rw [List.getElem?_eq_getElem hlt]
      rw [hsucc] at hwfk
      have Hsucc := Lib.hid hsucc
      generalize hs : d.fs[k].1 = s at hcr hks hlk hwfk
      generalize hf : d.fs[k].2 = f at hlk hwfk
      have Hs := Lib.hid hs
      have Hf := Lib.hid hf
      have Hlk := Lib.hid hlk
      have hkey := key_of (s := s) (by simp only [maxLen]; omega)
      obtain ⟨v, hgv, hfile⟩ := hrepr.file s f hlk
      obtain ⟨q0, q1, q2, q3, z0, z1, z2, z3⟩ := cells4 hrepr.head
      obtain ⟨v1, v2, rfl, hr1, hr2, hap, hfl⟩ := id hfile
      obtain ⟨a1, c1, rfl, _⟩ := row_slice hr1
      obtain ⟨a2, c2, rfl, _⟩ := row_slice hr2
      have hmapr := hrepr.map
      have hgv' : (gr (.string s)).getD zFile = .agg #[.slice a1 f.firm.length c1, .slice a2 f.loose.length c2] := by rw [hgv]; rfl
      have Hgv := Lib.hid hgv'
      have Hgvs := Lib.hid hgv
      clear hs hf hlk hsucc hcell hcells hnmk hgv hgv'
      -- the number kept
      obtain ⟨x, hx⟩ : ∃ x, keeps.getD k 0 = x := ⟨_, rfl⟩
      rw [hx] at hwfk
      obtain ⟨kv, hkv⟩ : ∃ kv, (min (max x 0) (f.loose.length : Int)).toNat = kv := ⟨_, rfl⟩
      have hkvle : kv ≤ f.loose.length := by omega
      have hkept : f.kept x = ⟨(f.firm ++ f.loose).take (f.firm.length + kv), []⟩ := by rw [AFile.kept, hkv]
      rw [hkept] at hwfk
      have Hx := Lib.hid hx
      have Hkv := Lib.hid hkv
      have Hkept := Lib.hid hkept
      have hnk' : f.firm.length + kv ≤ f.len := by unfold AFile.len; omega
      have hboxW := alloc_at wr (.cells #[.slice a1 f.firm.length c1, .slice a2 f.loose.length c2] 79)
      have hrepW := hrepr.alloc (.cells #[.slice a1 f.firm.length c1, .slice a2 f.loose.length c2] 79)
      have hfileW := hfile.upd ((Upd.refl noFp wr).alloc (.cells #[.slice a1 f.firm.length c1, .slice a2 f.loose.length c2] 79)) (fun _ _ h => h)
      obtain ⟨x0, x1, _, _⟩ := cells2 hboxW
      have hL : ∀ j, dfp p m gr j → j < wr.heap.size := fun j hj => hrepr.lt hj
      have hLf : ∀ j, fblocks (.agg #[.slice a1 f.firm.length c1, .slice a2 f.loose.length c2]) j → dfp p m gr j := fun j hj => Or.inr (Or.inr ⟨s, _, Hgvs.out, hj⟩)
      have hkn : k < keeps.length ∨ (¬ k < keeps.length ∧ x = 0) := by
        by_cases hkk : k < keeps.length
        · exact Or.inl hkk
        · refine Or.inr ⟨hkk, ?_⟩
          rw [← hx, List.getD, List.getElem?_eq_none (by omega)]
          rfl
      have hxi : isI64 x := by
        rw [← hx]
        by_cases hkk : k < keeps.length
        · rw [List.getD, List.getElem?_eq_getElem hkk]; exact hki _ (List.getElem_mem _)
        · rw [List.getD, List.getElem?_eq_none (by omega)]; simp [isI64]
      unfold isI64 at hxi
      have hxc : k < keeps.length → ∃ kb ko, ak = some ⟨kb, ko, none⟩ ∧ wr.cell? ⟨kb, ko + k, none⟩ = some (.int .i64 x) := by
        intro hkk
        rcases hrd with ⟨_, he⟩ | ⟨kb, ko, n, cc, he, hn, hc⟩
        · have := congrArg List.length he
          simp [iCells] at this
          subst this
          simp at hkk
        · cases he
          have hcx := hc k (.int .i64 x) (by simp [iCells, ← hx, List.getD, List.getElem?_eq_getElem hkk])
          exact ⟨kb, ko, rfl, ((hUr.cell (by have := cell_lt hcx; have := hb1.size; omega) (hdis kb rfl (by intro e; rw [e] at hkk; simp at hkk)) _).trans ((hb1.cell (p := ⟨kb, ko + k, none⟩) (cell_lt hcx)))).trans hcx⟩
      clear hx hkv hkept
      rcases hkn with hkk | ⟨hkk, hx0⟩
      · obtain ⟨kb, ko, rfl, hxc'⟩ := hxc hkk
        clear hxc
        have hxW : (wr.alloc (.cells #[.slice a1 f.firm.length c1, .slice a2 f.loose.length c2] 79)).cell? ⟨kb, ko + k, none⟩ = some (.int .i64 x) := (((Upd.refl noFp wr).alloc _).cell (cell_lt hxc') (fun h => h) _).trans hxc'
        have hki1 : (k : Int) < (keeps.length : Int) := by omega
        go_wp2_with (at_lookup; refine wpList_map_lookup rfl (.tmp 19) (.tmp 20) 61 9 79 rfl Tryz.underlying61 keyed m _ gr hmapr rfl _ rfl _ hkey zFile zero_file _ Hgv.out ?_)
        refine wp_region_reads (by kernel_rfl) (by kernel_rfl) ?_
        repeat still_step
        refine wpStill_nil ?_
        generalize hWd : (wr.alloc (Obj.cells #[.slice a1 f.firm.length c1, .slice a2 f.loose.length c2] 79)).drew = W
        have hUW : Upd noFp wr W := by rw [← hWd]; exact ((Upd.refl noFp wr).alloc _).drew
        have hsW : W.heap.size = wr.heap.size + 1 := by rw [← hWd]; simp
        have hrepD : DiskRep W.drew p m gr { d with fs := crashK d.fs keeps k } := (by rw [← hWd]; exact hrepW.drew.drew)
        have hfileD : FileAt W.drew (.agg #[.slice a1 f.firm.length c1, .slice a2 f.loose.length c2]) f := (hfile.upd hUW (fun _ _ h => h)).upd ((Upd.refl noFp W).drew) (fun _ _ h => h)
        have hbW : W.heap[wr.heap.size]? = some (.cells #[.slice a1 f.firm.length c1, .slice a2 f.loose.length c2] 79 (0, 0)) := by rw [← hWd]; exact alloc_at wr _
        have hLW : wr.heap.size < W.drew.heap.size := by show wr.heap.size < W.heap.size; omega
        clear hWd x0 x1 q2 hboxW hrepW hfileW hxW
        have q2W : W.cell? ⟨p, 2, none⟩ = some (.map (some m)) := (cells4 hrepD.head).2.2.1
        obtain ⟨x0, x1, _, _⟩ := cells2 hbW
        go_wp2
        have hw6 : IntKind.i64.wrap ((f.firm.length : Int) + min (max x 0) (f.loose.length : Int)) = (f.firm.length : Int) + min (max x 0) (f.loose.length : Int) := IntWalk.i64_in _ (by unfold AFile.len at hfl; omega)
        have hz6 : (f.firm.length : Int) + min (max x 0) (f.loose.length : Int) = ((f.firm.length + kv : Nat) : Int) := by have := Hkv.out; omega
        have Hz6 := Lib.hid hz6
        clear hz6
        go_region_held3 (fun w' => w'.cell? ⟨p, 2, none⟩ = some (.map (some m)) ∧ w'.cell? ⟨wr.heap.size, 0, none⟩ = some (.slice a1 f.firm.length c1) ∧ w'.cell? ⟨wr.heap.size, 1, none⟩ = some (.slice a2 f.loose.length c2)) (first | exact ⟨q2W, x0, x1⟩ | exact S3 | exact S4 | go_keep)
          (first
            | (go_at_call 42; refine (first_int _ _ f _ (f.firm.length + kv) Hz6.out hfileD hnk').mono ?_; rintro e w3 ⟨v', rfl, hv3, hU3, hfp3, hold3⟩; have hrep3 := hrepD.touch Hgv.out hU3 (fun j _ hj => hj) (by rw [show afile _ s = f from by simp [afile, Hlk.out]]; exact hold3); have S3 : w3.cell? ⟨p, 2, none⟩ = some (.map (some m)) ∧ w3.cell? ⟨wr.heap.size, 0, none⟩ = some (.slice a1 f.firm.length c1) ∧ w3.cell? ⟨wr.heap.size, 1, none⟩ = some (.slice a2 f.loose.length c2) := ⟨(cells4 hrep3.head).2.2.1, (hU3.cell hLW (fun hk => by have := hL _ (hLf _ hk); omega) 0).trans x0, (hU3.cell hLW (fun hk => by have := hL _ (hLf _ hk); omega) 1).trans x1⟩; obtain ⟨w4, hrun4, hm4, hg4, hs4⟩ := hrep3.map.run_update keyed Tryz.underlying61 hkey (val := v') (by have hc := hrep3.wf.count; simp only [maxLen]; exact Nat.lt_of_le_of_lt hc (by omega)); have hU4 : Upd (· = m) w3 w4 := (Upd.refl _ _).grown hg4 (fun j hj => by cases hj; exact Or.inl rfl); have S4 : w4.cell? ⟨p, 2, none⟩ = some (.map (some m)) ∧ w4.cell? ⟨wr.heap.size, 0, none⟩ = some (.slice a1 f.firm.length c1) ∧ w4.cell? ⟨wr.heap.size, 1, none⟩ = some (.slice a2 f.loose.length c2) := ⟨(hU4.cell (blk_lt hrep3.head) (hrep3.p_ne_m) 2).trans S3.1, (hU4.cell (by have := hU3.size; omega) (fun e => by have := hrepr.map.lt; omega) 0).trans S3.2.1, (hU4.cell (by have := hU3.size; omega) (fun e => by have := hrepr.map.lt; omega) 1).trans S3.2.2⟩; have Hm4 := Lib.hid hm4; clear hm4))
        go_wp2
        go_roundw
        case rel =>
          refine ⟨k + 1, by omega, by go_num, ?_⟩
          have hsU3 := hU3.size
          have hsUr := hUr.size
          have hblk3 : ∀ j, fblocks v' j → dfp p m gr j → ∃ u, gr (.string s) = some u ∧ fblocks u j := by
            intro j hj hdj
            rcases hfp3 j hj with h1 | h1
            · exact ⟨_, Hgvs.out, h1⟩
            · have := hL j hdj; omega
          have hrep4 := hrep3.stored (s := s) (f := ⟨(f.firm ++ f.loose).take (f.firm.length + kv), []⟩) hv3 hblk3 Hm4.out hg4 (by rw [length_putF hrep3.wf.sorted]; obtain ⟨_, _, _, _, _, _, _, hb⟩ := hrep3.fileAgg s; simp only [hb]) hwfk
          have e1 : crashK d.fs keeps (k + 1) = putF (crashK d.fs keeps k) s ⟨(f.firm ++ f.loose).take (f.firm.length + kv), []⟩ := by
            rw [Hsucc.out, Hs.out, Hf.out, Hx.out, Hkept.out]
          rw [e1]
          refine ⟨_, hrep4, ((hUr.trans hUW (fun j hj => hj.elim)).drew.trans hU3 (fun j hj => hfpr j (hLf j hj))).trans hU4 (fun j hj => Or.inl (Or.inr (Or.inl hj))), fun j hj => ?_⟩
          rcases hj with hj | hj | ⟨t, u, hu, hju⟩
          · exact Or.inl (Or.inl hj)
          · exact Or.inl (Or.inr (Or.inl hj))
          · replace hu : (if Value.string t = Value.string s then some v' else gr (.string t)) = some u := hu
            split at hu
            · cases hu
              rcases hfp3 j hju with h1 | h1
              · exact hfpr j (hLf j h1)
              · exact Or.inr (by have := hUW.size; change W.heap.size ≤ _ at h1; omega)
            · exact hfpr j (Or.inr (Or.inr ⟨t, u, hu, hju⟩))
        case measure => simp [intOf]; omega
      · clear hxc
        have hki1 : ¬ (k : Int) < (keeps.length : Int) := by omega
        go_wp2_with (at_lookup; refine wpList_map_lookup rfl (.tmp 19) (.tmp 20) 61 9 79 rfl Tryz.underlying61 keyed m _ gr hmapr rfl _ rfl _ hkey zFile zero_file _ Hgv.out ?_)
        generalize hWd : wr.alloc (Obj.cells #[.slice a1 f.firm.length c1, .slice a2 f.loose.length c2] 79) = W
        have hUW : Upd noFp wr W := by rw [← hWd]; exact (Upd.refl noFp wr).alloc _
        have hsW : W.heap.size = wr.heap.size + 1 := by rw [← hWd]; simp
        have hrepD : DiskRep W.drew p m gr { d with fs := crashK d.fs keeps k } := (by rw [← hWd]; exact hrepW.drew)
        have hfileD : FileAt W.drew (.agg #[.slice a1 f.firm.length c1, .slice a2 f.loose.length c2]) f := (hfile.upd hUW (fun _ _ h => h)).upd ((Upd.refl noFp W).drew) (fun _ _ h => h)
        have hbW : W.heap[wr.heap.size]? = some (.cells #[.slice a1 f.firm.length c1, .slice a2 f.loose.length c2] 79 (0, 0)) := by rw [← hWd]; exact alloc_at wr _
        have hLW : wr.heap.size < W.drew.heap.size := by show wr.heap.size < W.heap.size; omega
        clear hWd x0 x1 q2 hboxW hrepW hfileW
        have q2W : W.cell? ⟨p, 2, none⟩ = some (.map (some m)) := (cells4 hrepD.head).2.2.1
        obtain ⟨x0, x1, _, _⟩ := cells2 hbW
        have hw6 : IntKind.i64.wrap (f.firm.length : Int) = (f.firm.length : Int) := IntWalk.i64_in _ (by unfold AFile.len at hfl; omega)
        have hz6 : (f.firm.length : Int) = ((f.firm.length + kv : Nat) : Int) := by have := Hkv.out; omega
        have Hz6 := Lib.hid hz6
        clear hz6
        go_region_held3 (fun w' => w'.cell? ⟨p, 2, none⟩ = some (.map (some m)) ∧ w'.cell? ⟨wr.heap.size, 0, none⟩ = some (.slice a1 f.firm.length c1) ∧ w'.cell? ⟨wr.heap.size, 1, none⟩ = some (.slice a2 f.loose.length c2)) (first | exact ⟨q2W, x0, x1⟩ | exact S3 | exact S4 | go_keep)
          (first
            | (go_at_call 42; refine (first_int _ _ f _ (f.firm.length + kv) Hz6.out hfileD hnk').mono ?_; rintro e w3 ⟨v', rfl, hv3, hU3, hfp3, hold3⟩; have hrep3 := hrepD.touch Hgv.out hU3 (fun j _ hj => hj) (by rw [show afile _ s = f from by simp [afile, Hlk.out]]; exact hold3); have S3 : w3.cell? ⟨p, 2, none⟩ = some (.map (some m)) ∧ w3.cell? ⟨wr.heap.size, 0, none⟩ = some (.slice a1 f.firm.length c1) ∧ w3.cell? ⟨wr.heap.size, 1, none⟩ = some (.slice a2 f.loose.length c2) := ⟨(cells4 hrep3.head).2.2.1, (hU3.cell hLW (fun hk => by have := hL _ (hLf _ hk); omega) 0).trans x0, (hU3.cell hLW (fun hk => by have := hL _ (hLf _ hk); omega) 1).trans x1⟩; obtain ⟨w4, hrun4, hm4, hg4, hs4⟩ := hrep3.map.run_update keyed Tryz.underlying61 hkey (val := v') (by have hc := hrep3.wf.count; simp only [maxLen]; exact Nat.lt_of_le_of_lt hc (by omega)); have hU4 : Upd (· = m) w3 w4 := (Upd.refl _ _).grown hg4 (fun j hj => by cases hj; exact Or.inl rfl); have S4 : w4.cell? ⟨p, 2, none⟩ = some (.map (some m)) ∧ w4.cell? ⟨wr.heap.size, 0, none⟩ = some (.slice a1 f.firm.length c1) ∧ w4.cell? ⟨wr.heap.size, 1, none⟩ = some (.slice a2 f.loose.length c2) := ⟨(hU4.cell (blk_lt hrep3.head) (hrep3.p_ne_m) 2).trans S3.1, (hU4.cell (by have := hU3.size; omega) (fun e => by have := hrepr.map.lt; omega) 0).trans S3.2.1, (hU4.cell (by have := hU3.size; omega) (fun e => by have := hrepr.map.lt; omega) 1).trans S3.2.2⟩; have Hm4 := Lib.hid hm4; clear hm4))
        go_wp2
        go_roundw
        case rel =>
          refine ⟨k + 1, by omega, by go_num, ?_⟩
          have hsU3 := hU3.size
          have hsUr := hUr.size
          have hblk3 : ∀ j, fblocks v' j → dfp p m gr j → ∃ u, gr (.string s) = some u ∧ fblocks u j := by
            intro j hj hdj
            rcases hfp3 j hj with h1 | h1
            · exact ⟨_, Hgvs.out, h1⟩
            · have := hL j hdj; omega
          have hrep4 := hrep3.stored (s := s) (f := ⟨(f.firm ++ f.loose).take (f.firm.length + kv), []⟩) hv3 hblk3 Hm4.out hg4 (by rw [length_putF hrep3.wf.sorted]; obtain ⟨_, _, _, _, _, _, _, hb⟩ := hrep3.fileAgg s; simp only [hb]) hwfk
          have e1 : crashK d.fs keeps (k + 1) = putF (crashK d.fs keeps k) s ⟨(f.firm ++ f.loose).take (f.firm.length + kv), []⟩ := by
            rw [Hsucc.out, Hs.out, Hf.out, Hx.out, Hkept.out]
          rw [e1]
          refine ⟨_, hrep4, ((hUr.trans hUW (fun j hj => hj.elim)).drew.trans hU3 (fun j hj => hfpr j (hLf j hj))).trans hU4 (fun j hj => Or.inl (Or.inr (Or.inl hj))), fun j hj => ?_⟩
          rcases hj with hj | hj | ⟨t, u, hu, hju⟩
          · exact Or.inl (Or.inl hj)
          · exact Or.inl (Or.inr (Or.inl hj))
          · replace hu : (if Value.string t = Value.string s then some v' else gr (.string t)) = some u := hu
            split at hu
            · cases hu
              rcases hfp3 j hju with h1 | h1
              · exact hfpr j (hLf j h1)
              · exact Or.inr (by have := hUW.size; change W.heap.size ≤ _ at h1; omega)
            · exact hfpr j (Or.inr (Or.inr ⟨t, u, hu, hju⟩))
        case measure => simp [intOf]; omega
    · obtain rfl : k = d.fs.length := by omega
      obtain ⟨gr, hrepr, hUr, hfpr⟩ := Hpost.out
      obtain ⟨q0, q1, q2, q3, z0, z1, z2, z3⟩ := cells4 hrepr.head
      have hfin := hrepr.power (l := -1) (b := false) (setCell2_upd (w := wr) (b := p) (.int .i64 (-1)) (.bool false)) (by rw [setCell_at (setCell_at hrepr.head 0 _) 1 _]; rfl) { hrepr.wf with left0 := by simp, left1 := by simp }
      have hu := setCell2_upd (w := wr) (b := p) (.int .i64 (-1)) (.bool false)
      have Hfin := Lib.hid hfin
      have Hu := Lib.hid hu
      clear hfin hu
      go_wp2
      go_end0
      refine ⟨rfl, gr, Hfin.out, ((Upd.ofBelow hb1).trans hUr (fun j hj => Or.inl hj)).trans Hu.out (fun j hj => Or.inl (Or.inl hj)), fun j hj => ?_⟩
      have := hb1.size
      rcases hfpr j hj with h1 | h1
      · exact Or.inl h1
      · exact Or.inr (by omega)
end Go.Proofs.YtkacgmbinkoojaaGreatDoor

/-
  The walks of slices.Grow, slices.Concat, Disk.Read.
-/
namespace Go.Proofs.YtkacgmbinkoojaaGreatDoor
open Go.RowKit Go.Maps Go.MapKept

set_option maxRecDepth 100000 in
set_option maxHeartbeats 1000000 in
theorem Grow_nil (w : World) (n : Nat) (hn : n ≤ 140737488355328) :
    Calls Tryz.prog 86 #[.slice none 0 0, .int .i64 n] w fun e w' => ∃ a c, e = .returned (.slice a 0 c) ∧ w'.ownsRow w.heap.size 5 1 (.slice a 0 c) 0 [] ∧ Below w.heap.size w w' := by
  by_cases h0 : n = 0
  · subst h0
    go_enter Tryz.func86, Tryz.ntmps86
    go_wp2
    go_ret
    exact ⟨none, 0, rfl, World.ownsRow_nil _ _ _ _, Below.refl _ _⟩
  · have hpos : 0 < n := by omega
    obtain ⟨i0, hi, hz0, hz1, hz2⟩ := info_parts info_u8
    have hrun := Lib.run_append_nil_zeros (P := Tryz.prog) w 33 3 33 5 i0 (.int .u8 0) .i64 .i64 Tryz.underlying33 Tryz.underlying3 hi hz0 n hpos (by omega) (by omega) (by rw [hz2]; omega)
    have hge := grownCap_ge w n 0 5
    have hle := grownCap_le_maxLen w n 0 5 (by simp only [maxLen]; omega)
    have hfin : (w.drew.alloc (.cells (Builtin.zeroCells (Value.int IntKind.u8 0).cells n ++ Builtin.zeroCells (Value.int IntKind.u8 0).cells (grownCap w n 0 5 - n)) 5)).ownsRow w.heap.size 5 1 (.slice (some ⟨w.heap.size, 0, none⟩) 0 (grownCap w n 0 5)) 0 [] := by
      refine ⟨rfl, Or.inr ⟨w.heap.size, _, _, rfl, Nat.le_refl _, alloc_at w.drew _, Nat.zero_le _, hle, ?_, by simp⟩⟩
      rw [Array.size_append, size_zeroCells, size_zeroCells]
      show n * 1 + (grownCap w n 0 5 - n) * 1 = grownCap w n 0 5 * 1
      omega
    have hb : Below w.heap.size w (w.drew.alloc (.cells (Builtin.zeroCells (Value.int IntKind.u8 0).cells n ++ Builtin.zeroCells (Value.int IntKind.u8 0).cells (grownCap w n 0 5 - n)) 5)) := ((Below.refl _ _).drew).alloc (Nat.le_refl _) _
    generalize hW : w.drew.alloc (.cells (Builtin.zeroCells (Value.int IntKind.u8 0).cells n ++ Builtin.zeroCells (Value.int IntKind.u8 0).cells (grownCap w n 0 5 - n)) 5) = W at hrun hfin hb
    generalize hC : grownCap w n 0 5 = C at hrun hfin hge hle
    have hni : (0 : Int) < n := by omega
    have hcc : (0 : Int) ≤ (C : Int) := by omega
    have Hrun := Lib.hid hrun
    clear hW hC hrun
    go_enter Tryz.func86, Tryz.ntmps86
    go_wp2_with (at_builtin; refine Lib.wpList_append_run _ rfl (.tmp 20) (.tmp 21) _ _ rfl _ _ rfl rfl _ _ Hrun.out ?_)
    go_ret
    exact ⟨_, _, rfl, hfin, hb⟩

def upTo (bs : List (List UInt8)) (k : Nat) : List UInt8 := (bs.take k).flatten
theorem upTo_succ (bs : List (List UInt8)) (k : Nat) (hk : k < bs.length) : upTo bs (k + 1) = upTo bs k ++ bs[k] := by
  unfold upTo
  rw [List.take_succ_eq_append_getElem hk, List.flatten_append, List.flatten_cons, List.flatten_nil, List.append_nil]
theorem upTo_le (bs : List (List UInt8)) (k : Nat) : (upTo bs k).length ≤ bs.flatten.length := by
  unfold upTo
  have h : bs.flatten = (bs.take k).flatten ++ (bs.drop k).flatten := by rw [← List.flatten_append, List.take_append_drop]
  rw [h, List.length_append]
  omega

set_option maxRecDepth 100000 in
set_option maxHeartbeats 2000000 in
theorem Concat_any (w : World) (b off c : Nat) (vs : List Value) (bs : List (List UInt8)) (hl : vs.length = bs.length) (hvl : vs.length ≤ 1000000) (hcell : ∀ j (h : j < vs.length), w.cell? ⟨b, off + j, none⟩ = some vs[j])
    (hrd : ∀ j (h : j < vs.length) (h' : j < bs.length), Rd w vs[j] (bcells bs[j])) (htot : bs.flatten.length ≤ 70368744177664) :
    Calls Tryz.prog 69 #[.slice (some ⟨b, off, none⟩) vs.length c] w fun e w' => ∃ a cc, e = .returned (.slice a bs.flatten.length cc) ∧ w'.ownsRow w.heap.size 5 1 (.slice a bs.flatten.length cc) bs.flatten.length (bcells bs.flatten) ∧ Below w.heap.size w w' := by
  have Hcell := Lib.hid hcell
  have Hrd := Lib.hid hrd
  have Hl := Lib.hid hl
  obtain ⟨tot, ht⟩ : ∃ tot, bs.flatten.length = tot := ⟨_, rfl⟩
  obtain ⟨N, hN⟩ : ∃ N, vs.length = N := ⟨_, rfl⟩
  have Ht := Lib.hid ht
  have HN := Lib.hid hN
  rw [ht] at htot ⊢
  rw [hN] at hvl ⊢
  clear hcell hrd hl ht hN
  go_enter Tryz.func69, Tryz.ntmps69
  go_wp2
  go_loop [3, 11] (fun t i => ∃ k : Nat, k ≤ N ∧ i = .int .i64 k ∧ t = .int .i64 (upTo bs k).length) (fun _ i => N - (intOf i).toNat)
  case atStart => exact ⟨0, by omega, rfl, rfl⟩
  case round =>
    obtain ⟨k, hk, rfl, rfl⟩ := hrel
    have hle := upTo_le bs k
    rw [Ht.out] at hle
    by_cases hlt : k < N
    · have hkv : k < vs.length := by rw [HN.out]; exact hlt
      have hkb : k < bs.length := by rw [← Hl.out, HN.out]; exact hlt
      have hc := Hcell.out k hkv
      obtain ⟨a1, c1, hv⟩ := (Hrd.out k hkv hkb).shape
      rw [hv, bcells_length] at hc
      have hs := congrArg List.length (upTo_succ bs k hkb)
      rw [List.length_append] at hs
      have hle2 := upTo_le bs (k + 1)
      rw [Ht.out] at hle2
      obtain ⟨L1, hL1⟩ : ∃ L1, bs[k].length = L1 := ⟨_, rfl⟩
      rw [hL1] at hc hs
      have hle3 : (upTo bs k).length + L1 ≤ tot := by omega
      have Hs := Lib.hid hs
      clear hv hs hL1 hle2
      go_wp2
      go_round
      case rel => exact ⟨k + 1, by omega, by go_num, by rw [Hs.out]; go_num⟩
      case measure => simp [intOf]; omega
    · obtain rfl : k = N := by omega
      have hfull : upTo bs k = bs.flatten := by
        unfold upTo
        rw [List.take_of_length_le (by rw [← Hl.out, HN.out]; exact Nat.le_refl _)]
      have hfl : (upTo bs k).length = tot := by rw [hfull, Ht.out]
      rw [hfl]
      have Hfull := Lib.hid hfull
      clear hfull hfl hle
      go_wp2_with (go_at_call 86; refine (Grow_nil _ tot (by omega)).mono ?_; rintro e w1 ⟨a0, c0, rfl, hown0, hb0⟩)
      have hown0' := ownsRow_base0 hown0
      go_loopw [6, 27] (fun t i wr => ∃ (j : Nat) (a c : _), j ≤ k ∧ i = .int .i64 j ∧ t = .slice a (upTo bs j).length c ∧ wr.ownsRow w.heap.size 5 1 (.slice a (upTo bs j).length c) (upTo bs j).length (bcells (upTo bs j)) ∧ Below w.heap.size w wr) (fun _ i _ => k - (intOf i).toNat)
      case atStart => exact ⟨0, a0, c0, by omega, rfl, rfl, hown0, hb0⟩
      case round =>
        obtain ⟨j, a, cc, hj, rfl, rfl, hown, hbr⟩ := hrel
        have Hown := Lib.hid hown
        clear hown hown0 hown0'
        by_cases hjl : j < k
        · have hkv : j < vs.length := by rw [HN.out]; exact hjl
          have hkb : j < bs.length := by rw [← Hl.out, HN.out]; exact hjl
          have hc := Hcell.out j hkv
          have hrdj := Hrd.out j hkv hkb
          obtain ⟨a1, c1, hv⟩ := hrdj.shape
          rw [hv] at hc hrdj
          rw [bcells_length] at hc hrdj
          have hcr : wr.cell? ⟨b, off + j, none⟩ = some (.slice a1 bs[j].length c1) := (hbr.cell (p := ⟨b, off + j, none⟩) (cell_lt hc)).trans hc
          have hrr := hrdj.below hbr
          have hs := upTo_succ bs j hkb
          have hle2 := upTo_le bs (j + 1)
          rw [Ht.out, hs, List.length_append] at hle2
          obtain ⟨B, hB⟩ : ∃ B, bs[j] = B := ⟨_, rfl⟩
          rw [hB] at hs hle2 hcr hrr
          have Hs := Lib.hid hs
          clear hs hB hv hc hrdj
          go_wp2_with (refine append_u8 rfl (.tmp 31) (.tmp 32) rfl (.slice a (upTo bs j).length cc) (.slice a1 B.length c1) (upTo bs j) B (upTo bs (j + 1)) Hs.out.symm rfl (ownsRow_base0 Hown.out) rfl hrr (by omega) ?_)
          intro v' w4 hv' hg4 hb4 hold4
          obtain ⟨a', c', rfl, _⟩ := row_slice hv'
          have hbase : ∀ g, (Value.slice a (upTo bs j).length cc).ownBlock = some g → w.heap.size ≤ g := fun g hg => (Hown.out.lt g hg).1
          have hb4' : Below w.heap.size w w4 := hbr.grown hg4 hbr.size (fun g hg => hbase g hg)
          have hown4 : w4.ownsRow w.heap.size 5 1 (.slice a' (upTo bs (j + 1)).length c') (upTo bs (j + 1)).length (bcells (upTo bs (j + 1))) := by
            refine ownsRow_from hv' (fun g hg => ?_)
            rcases hb4 with hb4 | ⟨g4, hb4, hg4'⟩
            · exact hbase g (hb4 ▸ hg)
            · rw [hb4] at hg; cases hg; have := hbr.size; omega
          have Hown4 := Lib.hid hown4
          clear hown4 hv' hold4 hb4
          go_wp2
          go_roundw
          case rel => exact ⟨j + 1, a', c', by omega, by go_num, rfl, Hown4.out, hb4'⟩
          case measure => simp [intOf]; omega
        · obtain rfl : j = k := by omega
          have hfl : (upTo bs j).length = tot := by rw [Hfull.out, Ht.out]
          have hown := Hown.out
          rw [hfl, Hfull.out] at hown
          rw [hfl]
          have Hown2 := Lib.hid hown
          clear hfl hown
          go_wp2
          go_ret
          exact ⟨a, cc, rfl, Hown2.out, hbr⟩

def ADisk.readBytes (d : ADisk) (s : ByteArray) : List UInt8 := if findErr d s = 0 then (afile d s).firm ++ (afile d s).loose else []

set_option maxRecDepth 100000 in
set_option maxHeartbeats 2000000 in
theorem Read_any (w : World) (p m : Nat) (g : Value → Option Value) (d : ADisk) (s : ByteArray) (h : DiskRep w p m g d) (hs : s.size ≤ maxLen) :
    Calls Tryz.prog 38 #[.pointer (some ⟨p, 0, none⟩), .string s] w fun e w' => ∃ a c, e = .returned (.tuple #[.slice a (d.readBytes s).length c, .int .i64 (findErr d s)]) ∧ w'.ownsRow w.heap.size 5 1 (.slice a (d.readBytes s).length c) (d.readBytes s).length (bcells (d.readBytes s)) ∧ Below w.heap.size w w' := by
  have hF := find_any w p m g d s h hs
  have hfile := h.fileOf s
  have key : ∀ fe : Int, findErr d s = fe → (fe = 0 ∨ fe = 13 ∨ fe = 15) → Calls Tryz.prog 38 #[.pointer (some ⟨p, 0, none⟩), .string s] w fun e w' => ∃ a c, e = .returned (.tuple #[.slice a (d.readBytes s).length c, .int .i64 fe]) ∧ w'.ownsRow w.heap.size 5 1 (.slice a (d.readBytes s).length c) (d.readBytes s).length (bcells (d.readBytes s)) ∧ Below w.heap.size w w' := by
    intro fe hfe hcase
    have hbytes : d.readBytes s = if fe = 0 then (afile d s).firm ++ (afile d s).loose else [] := by rw [ADisk.readBytes, hfe]
    rw [hfe] at hF
    generalize hv : (g (.string s)).getD zFile = v at hF hfile
    obtain ⟨v1, v2, rfl, hr1, hr2, hap, hfl⟩ := id hfile
    obtain ⟨a1, c1, rfl, _⟩ := row_slice hr1
    obtain ⟨a2, c2, rfl, _⟩ := row_slice hr2
    rcases hcase with rfl | hcase
    · rw [if_pos rfl] at hbytes
      rw [hbytes]
      clear hv hfe hbytes
      obtain ⟨ys, hys⟩ : ∃ ys, [(afile d s).firm, (afile d s).loose].flatten = ys := ⟨_, rfl⟩
      have hys' : (afile d s).firm ++ (afile d s).loose = ys := by rw [← hys]; simp
      rw [hys']
      have hyl : ys.length ≤ 16777216 := by rw [← hys']; simpa [AFile.len] using hfl
      have Hys := Lib.hid hys
      clear hys hys'
      go_enter Tryz.func38, Tryz.ntmps38
      go_wp2_with (go_at_call 44; refine hF.mono ?_; rintro e w1 ⟨rfl, hb1⟩)
      have hU : Upd noFp w ((w1.alloc (.cells #[.slice a1 (afile d s).firm.length c1, .slice a2 (afile d s).loose.length c2] 79)).alloc (.cells #[.slice a1 (afile d s).firm.length c1, .slice a2 (afile d s).loose.length c2] 33)) := ((Upd.ofBelow hb1).alloc _).alloc _
      have hB : Below w.heap.size w ((w1.alloc (.cells #[.slice a1 (afile d s).firm.length c1, .slice a2 (afile d s).loose.length c2] 79)).alloc (.cells #[.slice a1 (afile d s).firm.length c1, .slice a2 (afile d s).loose.length c2] 33)) := (hb1.alloc hb1.size _).alloc (by simp; have := hb1.size; omega) _
      have hx := alloc2_at w1 (.cells #[.slice a1 (afile d s).firm.length c1, .slice a2 (afile d s).loose.length c2] 79) (.cells #[.slice a1 (afile d s).firm.length c1, .slice a2 (afile d s).loose.length c2] 33)
      have hC := Concat_any ((w1.alloc (.cells #[.slice a1 (afile d s).firm.length c1, .slice a2 (afile d s).loose.length c2] 79)).alloc (.cells #[.slice a1 (afile d s).firm.length c1, .slice a2 (afile d s).loose.length c2] 33)) (w1.heap.size + 1) 0 2 [.slice a1 (afile d s).firm.length c1, .slice a2 (afile d s).loose.length c2] [(afile d s).firm, (afile d s).loose] rfl (by simp)
        (fun j hj => by
          rw [cell_at hx]
          match j, hj with
          | 0, _ => rfl
          | 1, _ => rfl)
        (fun j hj hj' => by
          match j, hj with
          | 0, _ => exact Rd.ofOwns (hU.row hr1 (fun _ _ h => h))
          | 1, _ => exact Rd.ofOwns (hU.row hr2 (fun _ _ h => h)))
        (by rw [Hys.out]; omega)
      rw [Hys.out] at hC
      refine hC.mono ?_
      rintro e w2 ⟨a, cc, rfl, hown, hb2⟩
      go_wp2
      go_ret2
      exact ⟨a, cc, rfl, ownsRow_from hown (fun g hg => by have := (hown.lt g hg).1; have := hB.size; omega), hB.trans (hb2.mono hB.size)⟩
    · have hne : fe ≠ 0 := by omega
      rw [if_neg hne] at hbytes
      rw [hbytes]
      clear hv hfe hbytes hne
      rcases hcase with rfl | rfl
      all_goals
        go_enter Tryz.func38, Tryz.ntmps38
        go_wp2_with (go_at_call 44; refine hF.mono ?_; rintro e w1 ⟨rfl, hb1⟩)
        go_ret2
        exact ⟨none, 0, rfl, World.ownsRow_nil _ _ _ _, hb1.alloc hb1.size _⟩
  refine key _ rfl ?_
  unfold findErr
  cases d.down <;> cases lk d.fs s <;> simp
end Go.Proofs.YtkacgmbinkoojaaGreatDoor

/-
  The disk's contracts as a caller uses them: 'ex' are the blocks that the caller keeps.
-/
namespace Go.Proofs.YtkacgmbinkoojaaGreatDoor
open Go.RowKit Go.Maps Go.MapKept

/-- Of the blocks of ex none has turned. -/
structure Keep (ex : Nat → Prop) (w w' : World) : Prop where
  os : w'.os = w.os
  tape : w'.tape = w.tape
  output : w'.output = w.output
  size : w.heap.size ≤ w'.heap.size
  block : ∀ k, ex k → w'.heap[k]? = w.heap[k]?
namespace Keep
variable {ex ex' : Nat → Prop} {w w' w1 w2 : World}
theorem refl (ex : Nat → Prop) (w : World) : Keep ex w w := ⟨rfl, rfl, rfl, Nat.le_refl _, fun _ _ => rfl⟩
theorem trans (h : Keep ex w w1) (h2 : Keep ex w1 w2) : Keep ex w w2 :=
  ⟨h2.os.trans h.os, h2.tape.trans h.tape, h2.output.trans h.output, Nat.le_trans h.size h2.size, fun k hk => (h2.block k hk).trans (h.block k hk)⟩
theorem mono (h : Keep ex w w') (hm : ∀ k, ex' k → ex k) : Keep ex' w w' := ⟨h.os, h.tape, h.output, h.size, fun k hk => h.block k (hm k hk)⟩
theorem ofUpd {fp : Nat → Prop} (h : Upd fp w w') (hx : ∀ k, ex k → k < w.heap.size ∧ ¬ fp k) : Keep ex w w' := ⟨h.os, h.tape, h.output, h.size, fun k hk => h.block k (hx k hk).1 (hx k hk).2⟩
theorem ofBelow (h : Below w.heap.size w w') (hx : ∀ k, ex k → k < w.heap.size) : Keep ex w w' := ⟨h.os, h.tape, h.output, h.size, fun k hk => h.block k (hx k hk)⟩
theorem alloc (w : World) (o : Obj) (hx : ∀ k, ex k → k < w.heap.size) : Keep ex w (w.alloc o) := ofBelow ((Below.refl _ _).alloc (Nat.le_refl _) o) hx
theorem drew (h : Keep ex w w') : Keep ex w w'.drew := ⟨h.os, h.tape, h.output, h.size, h.block⟩
theorem below {N : Nat} (h : Keep ex w w') (hx : ∀ k, k < N → ex k) : Below N w w' := ⟨h.os, h.tape, h.output, h.size, fun k hk => h.block k (hx k hk)⟩
theorem cell (h : Keep ex w w') {b : Nat} (hb : ex b) (o : Nat) : w'.cell? ⟨b, o, none⟩ = w.cell? ⟨b, o, none⟩ := World.cell?_of_block (a := ⟨b, o, none⟩) (h.block b hb)
theorem rd (h : Keep ex w w') {v : Value} {xs : List Value} (hr : Rd w v xs) (hb : ∀ b, v.ownBlock = some b → ex b) : Rd w' v xs := by
  rcases hr with hr | ⟨b, off, n, c, rfl, hl, hc⟩
  · exact Or.inl hr
  · exact Or.inr ⟨b, off, n, c, rfl, hl, fun j u hj => (h.cell (hb b rfl) _).trans (hc j u hj)⟩
theorem row (h : Keep ex w w') {base : Nat} {e : TypeId} {sz n : Nat} {v : Value} {xs : List Value} (hr : w.ownsRow base e sz v n xs) (hb : ∀ b, v.ownBlock = some b → ex b) : w'.ownsRow base e sz v n xs := by
  obtain ⟨h1, h2⟩ := hr
  refine ⟨h1, ?_⟩
  rcases h2 with h2 | ⟨g, cap, cur, hv, hg, hh, r⟩
  · exact Or.inl h2
  · subst hv
    exact Or.inr ⟨g, cap, cur, rfl, hg, by rw [h.block g (hb g rfl)]; exact hh, r⟩
end Keep

/-- A disk in memory, apart from the blocks of ex. -/
def DiskAt (ex : Nat → Prop) (w : World) (p m : Nat) (d : ADisk) : Prop := ∃ g, DiskRep w p m g d ∧ ∀ k, ex k → k < w.heap.size ∧ ¬ dfp p m g k

namespace DiskAt
variable {ex ex' : Nat → Prop} {w w' : World} {p m : Nat} {d d' : ADisk}
theorem wf (h : DiskAt ex w p m d) : d.WF := let ⟨_, hr, _⟩ := h; hr.wf
theorem lt (h : DiskAt ex w p m d) {k : Nat} (hk : ex k) : k < w.heap.size := let ⟨_, _, hx⟩ := h; (hx k hk).1
theorem mono (h : DiskAt ex w p m d) (hm : ∀ k, ex' k → ex k) : DiskAt ex' w p m d := let ⟨g, hr, hx⟩ := h; ⟨g, hr, fun k hk => hx k (hm k hk)⟩
theorem below (h : DiskAt ex w p m d) (hb : Below w.heap.size w w') : DiskAt ex w' p m d := by
  obtain ⟨g, hr, hx⟩ := h
  exact ⟨g, hr.below hb, fun k hk => ⟨Nat.lt_of_lt_of_le (hx k hk).1 hb.size, (hx k hk).2⟩⟩
theorem alloc (h : DiskAt ex w p m d) (o : Obj) : DiskAt ex (w.alloc o) p m d := h.below ((Below.refl _ _).alloc (Nat.le_refl _) o)
theorem drew (h : DiskAt ex w p m d) : DiskAt ex w.drew p m d := h.below ((Below.refl _ _).drew)
/-- a block of the caller's is turned. -/
theorem setCell (h : DiskAt ex w p m d) {b : Nat} (hb : ex b) (o : Nat) (v : Value) : DiskAt ex (w.setCell ⟨b, o, none⟩ v) p m d := by
  obtain ⟨g, hr, hx⟩ := h
  refine ⟨g, hr.upd (setCell_upd o v) (fun k hk e => (hx b hb).2 (e ▸ hk)), fun k hk => ⟨?_, (hx k hk).2⟩⟩
  simpa [World.setCell] using (hx k hk).1
theorem upd {fp : Nat → Prop} (h : DiskAt ex w p m d) (hu : Upd fp w w') (hb : ∀ k, k < w.heap.size → fp k → ex k) : DiskAt ex w' p m d := by
  obtain ⟨g, hr, hx⟩ := h
  refine ⟨g, hr.upd hu (fun k hk e => (hx k (hb k (hr.lt hk) e)).2 hk), fun k hk => ⟨Nat.lt_of_lt_of_le (hx k hk).1 hu.size, (hx k hk).2⟩⟩
/-- one more block that the caller keeps: a new one. -/
theorem more (h : DiskAt ex w p m d) (hb : Below w.heap.size w w') (hx : ∀ k, ex' k → ex k ∨ w.heap.size ≤ k ∧ k < w'.heap.size) : DiskAt ex' w' p m d := by
  obtain ⟨g, hr, hx0⟩ := h
  refine ⟨g, hr.below hb, fun k hk => ?_⟩
  rcases hx k hk with hk | ⟨h1, h2⟩
  · exact ⟨Nat.lt_of_lt_of_le (hx0 k hk).1 hb.size, (hx0 k hk).2⟩
  · exact ⟨h2, fun hd => by have := hr.lt hd; omega⟩
theorem post {g : Value → Option Value} (_hr : DiskRep w p m g d) (hx : ∀ k, ex k → k < w.heap.size ∧ ¬ dfp p m g k) (hp : DiskPost w p m g d' w') : DiskAt ex w' p m d' ∧ Keep ex w w' := by
  obtain ⟨g', hr', hU, hfp⟩ := hp
  refine ⟨⟨g', hr', fun k hk => ⟨Nat.lt_of_lt_of_le (hx k hk).1 hU.size, fun hd => ?_⟩⟩, Keep.ofUpd hU hx⟩
  rcases hfp k hd with h1 | h1
  · exact (hx k hk).2 h1
  · have := (hx k hk).1; omega
end DiskAt

section
variable {ex : Nat → Prop} {w : World} {p m : Nat} {d : ADisk}

theorem Append_at (s : ByteArray) (vb : Value) (b : List UInt8) (h : DiskAt ex w p m d) (hs : s.size ≤ maxLen) (hrd : Rd w vb (bcells b)) (hnb : b.length ≤ 140737488355328) :
    Calls Tryz.prog 15 #[.pointer (some ⟨p, 0, none⟩), .string s, vb] w fun e w' => e = .returned (.int .i64 (d.appendErr s b)) ∧ DiskAt ex w' p m (d.append s b) ∧ Keep ex w w' := by
  obtain ⟨g, hr, hx⟩ := h
  exact (Append_any w p m g d s vb b hr hs hrd hnb).mono fun e w' he => ⟨he.1, DiskAt.post hr hx he.2⟩
theorem Sync_at (s : ByteArray) (h : DiskAt ex w p m d) (hs : s.size ≤ maxLen) :
    Calls Tryz.prog 31 #[.pointer (some ⟨p, 0, none⟩), .string s] w fun e w' => e = .returned (.int .i64 (d.syncErr s)) ∧ DiskAt ex w' p m (d.sync s) ∧ Keep ex w w' := by
  obtain ⟨g, hr, hx⟩ := h
  exact (Sync_any w p m g d s hr hs).mono fun e w' he => ⟨he.1, DiskAt.post hr hx he.2⟩
theorem Cut_at (s : ByteArray) (n : Int) (h : DiskAt ex w p m d) (hs : s.size ≤ maxLen) :
    Calls Tryz.prog 17 #[.pointer (some ⟨p, 0, none⟩), .string s, .int .i64 n] w fun e w' => e = .returned (.int .i64 (d.cutErr s n)) ∧ DiskAt ex w' p m (d.cut s n) ∧ Keep ex w w' := by
  obtain ⟨g, hr, hx⟩ := h
  exact (Cut_any w p m g d s n hr hs).mono fun e w' he => ⟨he.1, DiskAt.post hr hx he.2⟩
theorem Remove_at (s : ByteArray) (h : DiskAt ex w p m d) (hs : s.size ≤ maxLen) :
    Calls Tryz.prog 19 #[.pointer (some ⟨p, 0, none⟩), .string s] w fun e w' => e = .returned (.int .i64 (d.removeErr s)) ∧ DiskAt ex w' p m (d.remove s) ∧ Keep ex w w' := by
  obtain ⟨g, hr, hx⟩ := h
  exact (Remove_any w p m g d s hr hs).mono fun e w' he => ⟨he.1, DiskAt.post hr hx he.2⟩
theorem Rename_at (s t : ByteArray) (h : DiskAt ex w p m d) (hs : s.size ≤ maxLen) (ht : t.size ≤ maxLen) :
    Calls Tryz.prog 33 #[.pointer (some ⟨p, 0, none⟩), .string s, .string t] w fun e w' => e = .returned (.int .i64 (d.renameErr s t)) ∧ DiskAt ex w' p m (d.rename s t) ∧ Keep ex w w' := by
  obtain ⟨g, hr, hx⟩ := h
  exact (Rename_any w p m g d s t hr hs ht).mono fun e w' he => ⟨he.1, DiskAt.post hr hx he.2⟩
theorem Arm_at (n : Int) (h : DiskAt ex w p m d) (hn0 : -9223372036854775808 ≤ n) (hn1 : n ≤ 9223372036854775807) :
    Calls Tryz.prog 11 #[.pointer (some ⟨p, 0, none⟩), .int .i64 n] w fun e w' => e = .returned (.tuple #[]) ∧ DiskAt ex w' p m (d.arm n) ∧ Keep ex w w' := by
  obtain ⟨g, hr, hx⟩ := h
  exact (Arm_any w p m g d n hr hn0 hn1).mono fun e w' he => ⟨he.1, DiskAt.post hr hx ⟨g, he.2.1, he.2.2.1.mono (fun k hk => Or.inl (Or.inl hk)), fun k hk => Or.inl hk⟩⟩
theorem Down_at (h : DiskAt ex w p m d) :
    Calls Tryz.prog 56 #[.pointer (some ⟨p, 0, none⟩)] w fun e w' => e = .returned (.bool d.down) ∧ w = w' := by
  obtain ⟨g, hr, hx⟩ := h
  exact Down_any w p m g d hr
theorem Used_at (h : DiskAt ex w p m d) :
    Calls Tryz.prog 46 #[.pointer (some ⟨p, 0, none⟩)] w fun e w' => e = .returned (.int .i64 (usedF d.fs)) ∧ Below w.heap.size w w' := by
  obtain ⟨g, hr, hx⟩ := h
  exact Used_any w p m g d hr
theorem Size_at (s : ByteArray) (h : DiskAt ex w p m d) (hs : s.size ≤ maxLen) :
    Calls Tryz.prog 58 #[.pointer (some ⟨p, 0, none⟩), .string s] w fun e w' => e = .returned (.int .i64 (afile d s).len) ∧ Below w.heap.size w w' := by
  obtain ⟨g, hr, hx⟩ := h
  exact Size_any w p m g d s hr hs
theorem Synced_at (s : ByteArray) (h : DiskAt ex w p m d) (hs : s.size ≤ maxLen) :
    Calls Tryz.prog 57 #[.pointer (some ⟨p, 0, none⟩), .string s] w fun e w' => e = .returned (.int .i64 (afile d s).firm.length) ∧ Below w.heap.size w w' := by
  obtain ⟨g, hr, hx⟩ := h
  exact Synced_any w p m g d s hr hs
theorem List_at (h : DiskAt ex w p m d) :
    Calls Tryz.prog 26 #[.pointer (some ⟨p, 0, none⟩)] w fun e w' => ∃ a c, e = .returned (.slice a d.names.length c) ∧ w'.ownsRow w.heap.size 9 1 (.slice a d.names.length c) d.names.length (d.names.map Value.string) ∧ (a = none ↔ d.names = []) ∧ Below w.heap.size w w' := by
  obtain ⟨g, hr, hx⟩ := h
  exact List_any w p m g d hr
theorem Read_at (s : ByteArray) (h : DiskAt ex w p m d) (hs : s.size ≤ maxLen) :
    Calls Tryz.prog 38 #[.pointer (some ⟨p, 0, none⟩), .string s] w fun e w' => ∃ a c, e = .returned (.tuple #[.slice a (d.readBytes s).length c, .int .i64 (findErr d s)]) ∧ w'.ownsRow w.heap.size 5 1 (.slice a (d.readBytes s).length c) (d.readBytes s).length (bcells (d.readBytes s)) ∧ Below w.heap.size w w' := by
  obtain ⟨g, hr, hx⟩ := h
  exact Read_any w p m g d s hr hs
theorem New_at (n : Int) (hn : 0 ≤ n) (hn1 : n ≤ 16777216) (hx : ∀ k, ex k → k < w.heap.size) :
    Calls Tryz.prog 4 #[.int .i64 n] w fun e w' => e = .returned (.tuple #[.pointer (some ⟨w.heap.size + 1, 0, none⟩), .int .i64 0]) ∧ DiskAt ex w' (w.heap.size + 1) w.heap.size ⟨n, -1, false, []⟩ ∧ Keep ex w w' := by
  refine (New_good w n hn hn1).mono fun e w' he => ⟨he.1, ⟨_, he.2.1, fun k hk => ⟨?_, fun hd => ?_⟩⟩, Keep.ofBelow he.2.2 hx⟩
  · have := hx k hk; have := he.2.2.size; omega
  · have := hx k hk
    rcases hd with hd | hd | ⟨_, _, hd, _⟩
    · omega
    · omega
    · cases hd
end

/-- bytes that have just been laid. -/
theorem Rd_new (w : World) (cs : Array Value) (T : TypeId) (fr : Nat × Nat) (xs : List Value) (n c : Nat) (hx : cs.toList.take xs.length = xs) (hn : n = xs.length) : Rd (w.alloc (.cells cs T fr)) (.slice (some ⟨w.heap.size, 0, none⟩) n c) xs := by
  refine Or.inr ⟨w.heap.size, 0, n, c, rfl, hn, fun j u hj => ?_⟩
  rw [cell_at (alloc_at w _)]
  have hjl := (List.getElem?_eq_some_iff.1 hj).1
  rw [← hx, List.getElem?_take, if_pos (by rw [hx] at *; exact hjl)] at hj
  simpa using hj
end Go.Proofs.YtkacgmbinkoojaaGreatDoor
