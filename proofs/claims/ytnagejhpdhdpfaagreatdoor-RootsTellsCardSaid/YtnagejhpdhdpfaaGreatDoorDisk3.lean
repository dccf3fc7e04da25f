/-
  The walks of List (the names, sorted) and Used.
-/
import Derived.Outline
import Derived.Test.YtnagejhpdhdpfaaGreatDoorDisk2
import Derived.Test.YtnagejhpdhdpfaaGreatDoorKeys
namespace Go.Proofs.YtnagejhpdhdpfaaGreatDoor
open Go.RowKit Go.Maps Go.MapKept
open Go.WideElems (Fit rd rg pl rd_val rd_key rg_of rd_mk)

theorem map_ownsMap {P : Program} {k : TypeId} (hk : P.underlying k = some .string) {w : World} {b n : Nat} {g : Value → Option Value} (h : MapIs P k w b n g) :
    ∃ D : DataW Unit, w.ownsMap P k (fun _ => some (.nil, [])) b n D ∧ Maps.size D = n ∧ (∀ x : List UInt8, x ∈ strKeys D ↔ (g (encStr x)).isSome = true) ∧ (strKeys D).Nodup := by
  obtain ⟨es, clock, hb, hn, hm, hst, hks, hg⟩ := h
  have hrd : ∀ x ∈ es.toList, ∃ s : List UInt8, x.key = encStr s ∧ rd (H := Unit) P k (fun _ => some (.nil, [])) x = some (.string s, .nil) := by
    intro x hx
    obtain ⟨l, hl⟩ := hks x hx
    obtain ⟨s, h1, h2, _⟩ := Maps.keyOf_str hk hl
    exact ⟨s, h1, by simp [rd, hl, h2]⟩
  have F : Fit (H := Unit) P k (fun _ => some (.nil, [])) es clock := ⟨by omega, hst, fun x hx => by obtain ⟨s, _, h2⟩ := hrd x hx; exact ⟨_, h2⟩⟩
  have hown : w.ownsMap P k (fun _ => some (.nil, [])) b n (.map ((es.toList.map (rg (H := Unit) P k (fun _ => some (.nil, [])))).foldr DataW.insert [])) := ⟨es, clock, hb, F, by omega, rfl⟩
  refine ⟨_, hown, ?_, ?_, ?_⟩
  · rw [Maps.size_eq, length_sorted]
    simp [hn]
  · intro x
    simp only [strKeys, List.mem_map]
    constructor
    · rintro ⟨p, hp, rfl⟩
      obtain ⟨y, hy, rfl⟩ := List.mem_map.1 (mem_sorted.1 hp)
      obtain ⟨s, h1, h2⟩ := hrd y hy
      rw [rg_of h2]
      have := (hg (encStr s) y.val).2 ⟨y, hy, h1, rfl⟩
      simp [strOf, this]
    · intro hx
      obtain ⟨v, hv⟩ := Option.isSome_iff_exists.1 hx
      obtain ⟨y, hy, hyk, _⟩ := (hg _ _).1 hv
      obtain ⟨s, h1, h2⟩ := hrd y hy
      have hsx : s = x := encStr_inj (h1 ▸ hyk)
      exact ⟨rg P k _ y, mem_sorted.2 (List.mem_map.2 ⟨y, hy, rfl⟩), by rw [rg_of h2]; simp [strOf, hsx]⟩
  · obtain ⟨es', hD, hpw, _⟩ := hown.entries (string_keyed hk)
    obtain ⟨es'', hD', hko⟩ := hown.keysOf
    rw [hD] at hD' ⊢
    cases hD'
    refine List.pairwise_map.2 (hpw.imp_of_mem fun {p q} hp' hq' hne e => hne ?_)
    obtain ⟨vp, hvp⟩ := hko p hp'
    obtain ⟨vq, hvq⟩ := hko q hq'
    obtain ⟨a, _, ha, _⟩ := Maps.keyOf_str hk hvp
    obtain ⟨c, _, hc, _⟩ := Maps.keyOf_str hk hvq
    rw [ha, hc] at e ⊢
    exact congrArg _ e

def ADisk.names (d : ADisk) : List ByteArray := d.fs.map (·.1)

theorem sorted_bytes {l : List ByteArray} (h : l.Pairwise (fun a b => ltS a b = true)) : (l.map (·.data.toList)).mergeSort leB = l.map (·.data.toList) ∧ (l.map (·.data.toList)).Nodup := by
  constructor
  · refine List.mergeSort_of_pairwise ?_
    refine List.pairwise_map.2 (h.imp fun {a b} hab => ?_)
    simp only [ltS, decide_eq_true_eq] at hab
    simpa [leB] using List.le_of_lt hab
  · refine List.pairwise_map.2 (h.imp fun {a b} hab => ?_)
    simp only [ltS, decide_eq_true_eq] at hab
    intro e
    rw [e] at hab
    exact List.lt_irrefl _ hab

theorem keys_are {l : List ByteArray} (h : l.Pairwise (fun a b => ltS a b = true)) {ss : List (List UInt8)} (hn : ss.Nodup) (hm : ∀ x, x ∈ ss ↔ ∃ s ∈ l, s.data.toList = x) :
    (ss.mergeSort leB).map encStr = l.map Value.string ∧ ss.length = l.length := by
  obtain ⟨h1, h2⟩ := sorted_bytes h
  have hp : ss.Perm (l.map (·.data.toList)) := (List.perm_ext_iff_of_nodup hn h2).2 fun x => by rw [hm]; simp
  refine ⟨?_, by rw [hp.length_eq]; simp⟩
  rw [mergeSort_of_perm hp, h1, List.map_map]
  refine List.map_congr_left fun s _ => ?_
  simp [encStr]

theorem DiskRep.mem_names {w : World} {p m : Nat} {g : Value → Option Value} {d : ADisk} (h : DiskRep w p m g d) (s : ByteArray) : s ∈ d.names ↔ (g (.string s)).isSome = true := by
  obtain ⟨_, _, _, _, _, _, _, hb⟩ := h.fileAgg s
  rw [hb]
  constructor
  · intro hs
    obtain ⟨q, hq, rfl⟩ := List.mem_map.1 hs
    have := mem_lk h.wf.sorted (s := q.1) (f := q.2) hq
    simp [this]
  · intro hs
    obtain ⟨f, hf⟩ := Option.isSome_iff_exists.1 hs
    exact List.mem_map.2 ⟨(s, f), lk_some_mem hf, rfl⟩

set_option maxHeartbeats 1000000 in
theorem List_any (w : World) (p m : Nat) (g : Value → Option Value) (d : ADisk) (h : DiskRep w p m g d) :
    Calls Tryz.prog 34 #[.pointer (some ⟨p, 0, none⟩)] w fun e w' => ∃ a c, e = .returned (.slice a d.names.length c) ∧ w'.ownsRow w.heap.size 9 1 (.slice a d.names.length c) d.names.length (d.names.map Value.string) ∧ (a = none ↔ d.names = []) ∧ Below w.heap.size w w' := by
  obtain ⟨q0, q1, q2, q3, z0, z1, z2, z3⟩ := cells4 h.head
  obtain ⟨D, hown, hsz, hmem, hnd⟩ := map_ownsMap Tryz.underlying9 h.map
  have hcount := h.wf.count
  have hs1 : Maps.size D ≤ maxLen := by simp only [maxLen]; omega
  have hs2 : Maps.size D * 16 ≤ 140737488355328 := by omega
  have hkeys : ∀ ss : List (List UInt8), ss.Perm (strKeys D) → (ss.mergeSort leB).map encStr = d.names.map Value.string ∧ ss.length = d.names.length := by
    intro ss hp
    refine keys_are (List.pairwise_map.2 h.wf.sorted) (hp.symm.nodup hnd) fun x => ?_
    rw [hp.mem_iff, hmem]
    constructor
    · intro hx
      exact ⟨⟨x.toArray⟩, (h.mem_names _).2 hx, rfl⟩
    · rintro ⟨s, hs, rfl⟩
      have := (h.mem_names s).1 hs
      simpa [encStr] using this
  have Hk := Lib.hid hkeys
  clear hkeys hmem hnd h hsz
  refine (callsIn_wide (n := 6)).1 ?_
  have hfK : Fence.wide.fn 79 := trivial
  have hfS : Fence.wide.fn 78 := trivial
  refine callsIn_of_wp Tryz.func34 rfl trivial ?_ rfl
  simp only [Tryz.ntmps34, List.size_toArray, List.length_cons, List.length_nil, Nat.reduceAdd, Nat.reduceSub, Array.replicate_succ, Array.replicate_zero, List.push_toArray, List.append_toArray, List.nil_append, List.cons_append]
  gi_wp2_with (first
     | (gi_at_call 79; refine (Tryz.maps_Keys_79 _ _).mono ?_; rintro e w' ⟨rfl, rfl⟩)
     | (gi_at_call 78; refine (Tryz.slices_Sorted_keys_78_79 m _ D _ w hown hs1 hs2).mono ?_; rintro e w' ⟨v, ss, rfl, hS, hrow, hnil, hb⟩))
  go_ret
  obtain ⟨e1, e2⟩ := Hk.out ss hS
  rw [show (fun x y => decide (x ≤ y)) = leB from rfl, e1, e2] at hrow
  obtain ⟨a, c, rfl, _, _, hac⟩ := row_slice (ownsRow_base0 hrow)
  refine ⟨a, c, rfl, ownsRow_base_a hrow (by simp), ?_, ((Below.refl _ w).alloc (Nat.le_refl _) _).trans (hb.mono (by simp))⟩
  have e3 : (Value.slice a d.names.length c = .slice none 0 0) ↔ d.names = [] := by rw [hnil, ← List.length_eq_zero_iff, e2, List.length_eq_zero_iff]
  rw [← e3]
  constructor
  · intro ha
    subst ha
    have hc := hac rfl
    subst hc
    have : d.names.length = 0 := by
      rcases hrow.2 with ⟨_, h0⟩ | ⟨_, _, _, h0, _⟩
      · exact h0
      · cases h0
    rw [this]
  · intro ha
    injection ha

theorem used_names {fs : List (ByteArray × AFile)} (hs : SortedF fs) : ((fs.map (·.1)).map (fun s => ((lk fs s).getD ⟨[], []⟩).len)).sum = usedF fs := by
  rw [List.map_map]
  unfold usedF
  congr 1
  refine List.map_congr_left fun q hq => ?_
  simp [mem_lk hs (s := q.1) (f := q.2) hq]
def ADisk.upto (d : ADisk) (k : Nat) : Nat := ((d.names.take k).map (fun s => (afile d s).len)).sum
theorem upto_le (d : ADisk) (k : Nat) (h : SortedF d.fs) : d.upto k ≤ usedF d.fs := by
  rw [← used_names h]
  unfold ADisk.upto ADisk.names afile
  generalize hL : d.fs.map (·.1) = L
  clear hL
  induction L generalizing k with
  | nil => simp
  | cons a L ih => cases k with
    | zero => simp
    | succ k => simp only [List.take_succ_cons, List.map_cons, List.sum_cons]; have := ih k; omega
theorem upto_succ (d : ADisk) (k : Nat) (hk : k < d.names.length) : d.upto (k + 1) = d.upto k + (afile d d.names[k]).len := by
  unfold ADisk.upto
  rw [List.take_succ_eq_append_getElem hk, List.map_append, List.sum_append]
  simp
theorem upto_all (d : ADisk) (h : SortedF d.fs) : d.upto d.names.length = usedF d.fs := by
  rw [← used_names h]
  unfold ADisk.upto
  rw [List.take_length]
  rfl
theorem ADisk.WF.name_size {d : ADisk} (h : d.WF) {s : ByteArray} (hs : s ∈ d.names) : s.size ≤ 40 := by
  obtain ⟨q, hq, rfl⟩ := List.mem_map.1 hs
  have := h.names q hq
  simp only [okName, Bool.and_eq_true, decide_eq_true_eq] at this
  exact this.2

/-- a row of strings that is owned reads at k. -/
theorem row_cell {w : World} {base : Nat} {e : TypeId} {v : Value} {n : Nat} {xs : List Value} (h : w.ownsRow base e 1 v n xs) (k : Nat) (hk : k < n) : ∃ gb c, v = .slice (some ⟨gb, 0, none⟩) n c ∧ base ≤ gb ∧ gb < w.heap.size ∧ ∀ j, j < n → w.cell? ⟨gb, j, none⟩ = xs[j]? := by
  have h' := h
  obtain ⟨h1, ⟨_, h2⟩ | ⟨gb, cap, cur, rfl, hb, hg, _⟩⟩ := h
  · omega
  · exact ⟨gb, cap, rfl, hb, blk_lt hg, fun j hj => h'.cellAt j (by omega)⟩

set_option maxRecDepth 100000 in
set_option maxHeartbeats 1000000 in
theorem Used_any (w : World) (p m : Nat) (g : Value → Option Value) (d : ADisk) (h : DiskRep w p m g d) :
    Calls Tryz.prog 66 #[.pointer (some ⟨p, 0, none⟩)] w fun e w' => e = .returned (.int .i64 (usedF d.fs)) ∧ Below w.heap.size w w' := by
  have hwf := h.wf
  have hub : (usedF d.fs : Int) ≤ 16777216 := Int.le_trans hwf.used hwf.most1
  have hcount : d.names.length ≤ 200 := by rw [ADisk.names, List.length_map]; exact hwf.count
  obtain ⟨nm, hnm⟩ : ∃ nm, d.names = nm := ⟨_, rfl⟩
  go_enter Tryz.func66, Tryz.ntmps66
  go_wp2_with (go_at_call 34; refine (List_any w p m g d h).mono ?_; rw [hnm]; rintro e w1 ⟨a, c, rfl, hrow, hnil, hb1⟩)
  rw [hnm] at hcount
  have Hnm := Lib.hid hnm
  clear hnm
  have Hrow := Lib.hid hrow
  clear hnil hrow
  go_loopw [3, 9] (fun t i wr => ∃ k : Nat, k ≤ nm.length ∧ i = .int .i64 k ∧ t = .int .i64 (d.upto k) ∧ Below w1.heap.size w1 wr) (fun _ i _ => nm.length - (intOf i).toNat)
  case atStart => exact ⟨0, by omega, rfl, rfl, Below.refl _ _⟩
  case round =>
    obtain ⟨k, hk, rfl, rfl, hbr⟩ := hrel
    have hu0 := upto_le d k hwf.sorted
    by_cases hlt : k < nm.length
    · obtain ⟨gb, c', hv, hgb, hgl, hcells⟩ := row_cell Hrow.out k hlt
      cases hv
      have hcell := hcells k hlt
      rw [List.getElem?_map, List.getElem?_eq_getElem hlt, Option.map_some] at hcell
      have hcr : wr.cell? ⟨gb, k, none⟩ = some (.string nm[k]) := (hbr.cell (p := ⟨gb, k, none⟩) hgl).trans hcell
      have hks : nm[k].size ≤ 40 := hwf.name_size (by rw [Hnm.out]; exact List.getElem_mem _)
      have hsucc : d.upto (k + 1) = d.upto k + (afile d nm[k]).len := by
        have := upto_succ d k (by rw [Hnm.out]; exact hlt)
        simpa [Hnm.out] using this
      have hu1 := upto_le d (k + 1) hwf.sorted
      have hul : d.upto k + (afile d nm[k]).len ≤ usedF d.fs := by omega
      obtain ⟨s, hs⟩ : ∃ s, nm[k] = s := ⟨_, rfl⟩
      rw [hs] at hcr hks hsucc hul
      have Hsucc := Lib.hid hsucc
      clear hs hsucc hcells hcell
      have hrep : DiskRep wr p m g d := (h.below hb1).upd (Upd.ofBelow (fp := noFp) hbr) (fun _ _ h => h)
      go_wp2_with (go_at_call 77; refine (Size_any _ p m g d s hrep (by simp only [maxLen]; omega)).mono ?_; rintro e w2 ⟨rfl, hb2⟩)
      go_roundw
      case rel => exact ⟨k + 1, by omega, by go_num, by rw [Hsucc.out]; go_num, hbr.trans (hb2.mono hbr.size)⟩
      case measure => simp [intOf]; omega
    · obtain rfl : k = nm.length := by omega
      have hall := upto_all d hwf.sorted
      rw [Hnm.out] at hall
      have Hall := Lib.hid hall
      clear hall
      go_wp2
      go_ret
      exact ⟨by rw [← Hall.out]; rfl, hb1.trans (hbr.mono hb1.size)⟩
end Go.Proofs.YtnagejhpdhdpfaaGreatDoor
