/-
  The document's digits: Dec.
-/
import Derived.Outline
import Derived.Test.YtbepcjajbcecnaaGreatDoorMPmA
import Derived.Test.YtbepcjajbcecnaaGreatDoorMPgB
import Derived.Deep.AppendLies
import Derived.Test.YtbepcjajbcecnaaGreatDoorMRfB
import Derived.Test.YtbepcjajbcecnaaGreatDoorMRcA
namespace Go.Proofs.YtbepcjajbcecnaaGreatDoor
open Go.RowKit Go.Maps Go.MapKept

theorem dec_step (k : Nat) : Lib.decDigits k = (if k / 10 = 0 then [] else Lib.decDigits (k / 10)) ++ [UInt8.ofNat (48 + k % 10)] := by
  by_cases h : k < 10
  · rw [Lib.decDigits_one h, if_pos (by omega), Nat.mod_eq_of_lt h]; rfl
  · rw [if_neg (by omega)]
    conv => lhs; rw [Lib.decDigits, dif_neg h]
def DecSt (n k : Nat) (s : List UInt8) : Prop := Lib.decDigits n = (if k = 0 then [] else Lib.decDigits k) ++ s
theorem DecSt.first (n : Nat) : DecSt n (n / 10) [UInt8.ofNat (48 + n % 10)] := dec_step n
theorem DecSt.next {n k : Nat} {s : List UInt8} (h : DecSt n k s) (hk : k ≠ 0) : DecSt n (k / 10) (UInt8.ofNat (48 + k % 10) :: s) := by
  unfold DecSt at h ⊢
  rw [h, if_neg hk]
  conv => lhs; rw [dec_step k]
  simp
theorem DecSt.done {n : Nat} {s : List UInt8} (h : DecSt n 0 s) : s = Lib.decDigits n := by
  unfold DecSt at h
  rw [h, if_pos rfl]; rfl
end Go.Proofs.YtbepcjajbcecnaaGreatDoor

/-
  The document's pages: the number of a file's name, plainly. No program here.
-/
namespace Go.Proofs.YtbepcjajbcecnaaGreatDoor
open Go.Lib

/-- the number of a file whose name is that letter and digits. -/
def rNum (s : ByteArray) (c : UInt8) : Nat := match pgNum s with | some (x, n) => if x = c then n else 0 | none => 0
theorem rNum_zero {s : ByteArray} {c : UInt8} (h : ∀ n, 1 ≤ n → n ≤ 9007199254740992 → s ≠ pgName c n) : rNum s c = 0 := by
  unfold rNum
  split
  · rename_i x n hp
    obtain ⟨h1, h2, h3, h4⟩ := pgNum_some hp
    split
    · rename_i hx; subst hx; exact absurd h1 (h n h3 h4)
    · rfl
  · rfl
theorem rNum_name {c : UInt8} {n : Nat} (hc : c = 105 ∨ c = 99) (h0 : 1 ≤ n) (h1 : n ≤ 9007199254740992) : rNum (pgName c n) c = n := by
  unfold rNum; rw [pgNum_name hc h0 h1]; simp
/-- digits that have been read: n is their number. -/
structure NumSt (r : List UInt8) (i n : Nat) : Prop where
  one : i = 1 → n = 0
  dec : 1 < i → 0 < n ∧ decDigits n = r.take (i - 1)
  lt : n < 10 ^ (i - 1)
theorem NumSt.start (r : List UInt8) : NumSt r 1 0 := ⟨fun _ => rfl, fun h => by omega, by simp⟩
theorem NumSt.next {r : List UInt8} {i n : Nat} {x : UInt8} (h : NumSt r i n) (hi : 1 ≤ i) (hx : r[i - 1]? = some x) (h0 : 48 ≤ x.toNat) (h9 : x.toNat ≤ 57) (hz : ¬ (i = 1 ∧ x.toNat = 48)) : NumSt r (i + 1) (10 * n + (x.toNat - 48)) := by
  have hp : 10 ^ (i + 1 - 1) = 10 * 10 ^ (i - 1) := by rw [show i + 1 - 1 = (i - 1) + 1 by omega, Nat.pow_succ, Nat.mul_comm]
  have hxx : UInt8.ofNat (48 + (x.toNat - 48)) = x := by rw [show 48 + (x.toNat - 48) = x.toNat by omega]; simp
  refine ⟨fun e => by omega, fun _ => ?_, by have := h.lt; rw [hp]; omega⟩
  have hlt : i - 1 < r.length := by
    rcases Nat.lt_or_ge (i - 1) r.length with h | h
    · exact h
    · rw [List.getElem?_eq_none h] at hx; cases hx
  have htk : r.take (i + 1 - 1) = r.take (i - 1) ++ [x] := by
    rw [show i + 1 - 1 = (i - 1) + 1 by omega, List.take_add_one, hx]; rfl
  by_cases h1 : i = 1
  · subst h1
    have := h.one rfl
    subst this
    refine ⟨by omega, ?_⟩
    rw [htk, dec_step, if_pos (by omega), show (10 * 0 + (x.toNat - 48)) % 10 = x.toNat - 48 by omega, hxx]
    simp
  · obtain ⟨g1, g2⟩ := h.dec (by omega)
    refine ⟨by omega, ?_⟩
    rw [htk, dec_step, if_neg (by omega), show (10 * n + (x.toNat - 48)) / 10 = n by omega, show (10 * n + (x.toNat - 48)) % 10 = x.toNat - 48 by omega, hxx, g2]
theorem NumSt.fin {s : ByteArray} {c : UInt8} {n : Nat} {r : List UInt8} (hc : c = 105 ∨ c = 99) (hs : s.data.toList = c :: r) (h : NumSt r s.size n) (h2 : 2 ≤ s.size) : rNum s c = if 9007199254740992 < n then 0 else n := by
  obtain ⟨h0, hd⟩ := h.dec (by omega)
  have hl : s.size = r.length + 1 := by rw [← size_list, hs]; rfl
  rw [hl, Nat.add_sub_cancel, List.take_length] at hd
  have hn : s = pgName c n := by
    unfold pgName
    rw [hd, ← hs]
  split
  · refine rNum_zero fun m h3 h4 e => ?_
    have := (pgName_inj (hn.symm.trans e)).2
    omega
  · rw [hn]; exact rNum_name hc h0 (by omega)
end Go.Proofs.YtbepcjajbcecnaaGreatDoor

/-
  The document's pages: names of files, their numbers.
-/
namespace Go.Proofs.YtbepcjajbcecnaaGreatDoor
open Go.RowKit Go.Maps Go.MapKept

end Go.Proofs.YtbepcjajbcecnaaGreatDoor

/-
  The document's pages: rows of keys; an index's bytes.
-/
namespace Go.Proofs.YtbepcjajbcecnaaGreatDoor
open Go.RowKit Go.Maps Go.MapKept
set_option linter.unusedSimpArgs false

/-- a key of the document's, with the slice of its blob. -/
structure DKey where
  name : ByteArray
  v : Value
  b : List UInt8
  pack : Nat
  pos : Nat
def DKey.cells (x : DKey) : List Value := [.string x.name, x.v, .int .i64 (x.pack : Nat), .int .i64 (x.pos : Nat)]
def DKey.plain (x : DKey) : ByteArray × ABlob := (x.name, ⟨x.b, x.pack, x.pos⟩)
def DKey.ok (w : World) (x : DKey) : Prop := Rd w x.v (bcells x.b)
def flatD (l : List DKey) : List Value := l.flatMap DKey.cells
theorem flatD_cons (a : DKey) (l : List DKey) : flatD (a :: l) = a.cells ++ flatD l := by simp [flatD]
theorem flatD_at (l : List DKey) (k : Nat) (hk : k < l.length) (j : Nat) (hj : j < 4) : (flatD l)[k * 4 + j]? = l[k].cells[j]? := by
  induction l generalizing k with
  | nil => simp at hk
  | cons a l ih =>
    rw [flatD_cons]
    have ha : a.cells.length = 4 := rfl
    cases k with
    | zero => rw [List.getElem?_append_left (by rw [ha]; omega)]; simp
    | succ k =>
      rw [List.getElem?_append_right (by rw [ha]; omega), ha, show (k + 1) * 4 + j - 4 = k * 4 + j by omega, ih k (by simpa using hk)]
      simp
def DKeyQ (w : World) (cs : List Value) (p : ByteArray × ABlob) : Prop := ∃ vb, cs = [.string p.1, vb, .int .i64 (p.2.pack : Nat), .int .i64 (p.2.pos : Nat)] ∧ Rd w vb (bcells p.2.b)
/-- a row of keys of the document's. -/
structure DKeys (w : World) (a : Option Addr) (n c : Nat) (l : List (ByteArray × ABlob)) : Prop where
  row : SliceOf 4 (DKeyQ w) w (.slice a n c) l
  len : n = l.length
theorem DKeys.below {W w : World} {a : Option Addr} {n c : Nat} {l : List (ByteArray × ABlob)} (h : DKeys W a n c l) (hb : Below W.heap.size W w) : DKeys w a n c l := by
  refine ⟨?_, h.len⟩
  rcases h.row with h1 | ⟨b, off, n', c', e, hl, hm, hc⟩
  · exact Or.inl h1
  · refine Or.inr ⟨b, off, n', c', e, hl, hm, fun j q hj => ?_⟩
    obtain ⟨cs, h1, h2, vb, h3, h4⟩ := hc j q hj
    exact ⟨cs, h1, fun i u hu => (hb.cell (p := ⟨b, off + (j * 4 + i), none⟩) (cell_lt (h2 i u hu))).trans (h2 i u hu), vb, h3, rd_low h4 hb⟩
theorem DKeys.nil (w : World) (a : Option Addr) : DKeys w a 0 0 [] := ⟨Or.inl ⟨by cases a <;> first | exact Or.inl rfl | exact Or.inr ⟨_, _, rfl⟩, rfl⟩, rfl⟩
theorem DKeys.at {w : World} {a : Option Addr} {n c : Nat} {l : List (ByteArray × ABlob)} (h : DKeys w a n c l) (k : Nat) (hk : k < l.length) :
    ∃ b off vb, a = some ⟨b, off, none⟩ ∧ w.cell? ⟨b, off + k * 4, none⟩ = some (.string l[k].1) ∧ w.cell? ⟨b, off + k * 4 + 1, none⟩ = some vb ∧ w.cell? ⟨b, off + k * 4 + 2, none⟩ = some (.int .i64 (l[k].2.pack : Nat)) ∧ w.cell? ⟨b, off + k * 4 + 3, none⟩ = some (.int .i64 (l[k].2.pos : Nat)) ∧ Rd w vb (bcells l[k].2.b) := by
  obtain ⟨b, off, ha, cs, _, hc, vb, rfl, hr⟩ := SliceOf.at h.row k hk
  have g0 := hc 0 _ rfl
  have g1 := hc 1 _ rfl
  have g2 := hc 2 _ rfl
  have g3 := hc 3 _ rfl
  rw [Nat.add_zero] at g0
  rw [← Nat.add_assoc] at g1 g2 g3
  exact ⟨b, off, vb, ha, g0, g1, g2, g3, hr⟩
theorem DKeys.of_row {w : World} {base : Nat} {T : TypeId} {a : Option Addr} {n c : Nat} {es : List DKey} {l : List (ByteArray × ABlob)} (h : w.ownsRow base T 4 (.slice a n c) n (flatD es)) (hn : n = es.length) (hm : n ≤ maxLen) (hok : ∀ x ∈ es, x.ok w) (hd : l = es.map DKey.plain) : DKeys w a n c l := by
  refine ⟨?_, by rw [hd, List.length_map, hn]⟩
  rcases h.2 with ⟨h1, h0⟩ | ⟨g, cap, cur, hv, hb, hg, hnc, hcm, hcs, ht⟩
  · subst h0
    have : es = [] := List.eq_nil_of_length_eq_zero hn.symm
    rw [hd, this]
    exact Or.inl ⟨Or.inl h1, rfl⟩
  · refine Or.inr ⟨g, 0, n, cap, hv, by rw [hd, List.length_map, hn], hm, fun j q hj => ?_⟩
    rw [hd, List.getElem?_map] at hj
    have hjl : j < es.length := by
      rcases Nat.lt_or_ge j es.length with h | h
      · exact h
      · rw [List.getElem?_eq_none h] at hj; cases hj
    rw [List.getElem?_eq_getElem hjl] at hj
    simp only [Option.map_some, Option.some.injEq] at hj
    subst hj
    refine ⟨es[j].cells, rfl, fun i u hu => ?_, es[j].v, rfl, hok _ (List.getElem_mem hjl)⟩
    have hi : i < 4 := (List.getElem?_eq_some_iff.1 hu).1
    have h1 := flatD_at es j hjl i hi
    rw [hu, ← ht, List.getElem?_take] at h1
    split at h1
    · rw [cell_at hg, Nat.zero_add]
      simpa using h1
    · cases h1
/-- numbers and bytes behind bytes. -/
theorem uint_rd (w : World) (v : Value) (l r : List UInt8) (n : Nat) (hr : l ++ vint n = r) (hv : Rd w v (bcells l)) (hl : l.length ≤ 1099511627776) (hn : n < 18446744073709551616) :
    Calls Tryz.prog 82 #[v, .int .u64 n] w fun e w' => ∃ a c, e = .returned (.slice a r.length c) ∧ Rd w' (.slice a r.length c) (bcells r) ∧ Below w.heap.size w w' := by
  subst hr
  exact (x1Uint_any w v l n hv hl hn).mono fun e w' ⟨a, c, h1, h2, h3⟩ => ⟨a, c, h1, Rd.ofOwns h2, h3⟩
theorem blob_rd (w : World) (v vb : Value) (l b r : List UInt8) (hr : l ++ (vint b.length ++ b) = r) (hv : Rd w v (bcells l)) (hvb : Rd w vb (bcells b)) (hl : l.length ≤ 1000000000) (hb : b.length ≤ 1000000000) :
    Calls Tryz.prog 83 #[v, vb] w fun e w' => ∃ a c, e = .returned (.slice a r.length c) ∧ Rd w' (.slice a r.length c) (bcells r) ∧ Below w.heap.size w w' := by
  subst hr
  exact (x1Blob_any w v vb l b hv hvb hl hb).mono fun e w' ⟨a, c, h1, h2, h3⟩ => ⟨a, c, h1, Rd.ofOwns h2, h3⟩
end Go.Proofs.YtbepcjajbcecnaaGreatDoor

/-
  The document's pages: an index's bytes.
-/
namespace Go.Proofs.YtbepcjajbcecnaaGreatDoor
open Go.RowKit Go.Maps Go.MapKept
set_option linter.unusedSimpArgs false

theorem str_rd {w6 : World} {g cc : Nat} {s : ByteArray} (hc : ∀ j, j < s.size → w6.cell? ⟨g, j, none⟩ = some (.int .u8 (byteAt s j).toNat)) : Rd w6 (.slice (some ⟨g, 0, none⟩) s.size cc) (bcells s.data.toList) := by
  refine Or.inr ⟨g, 0, s.size, cc, rfl, by rw [bcells_length]; exact (size_list s).symm, fun j u hu => ?_⟩
  have hj : j < s.data.toList.length := by have := (List.getElem?_eq_some_iff.1 hu).1; rwa [bcells_length] at this
  rw [bcells_at hj] at hu
  cases hu
  rw [Nat.zero_add, hc j (by rwa [size_list] at hj)]
  unfold byteAt
  rw [List.getD_eq_getElem?_getD, List.getElem?_eq_getElem hj]
  rfl
end Go.Proofs.YtbepcjajbcecnaaGreatDoor

/-
  The document's pages: what commit answers, plainly; it is what the program loads. No program here.
-/
namespace Go.Proofs.YtbepcjajbcecnaaGreatDoor

instance okB_dec (d : ADisk) (x : AEnt) : Decidable (okB d x) := by unfold okB; infer_instance
/-- entries that were read: their blobs, if all of them lie there and the bytes are the one form. -/
def rKeep (d : ADisk) (k : Nat) (b : List UInt8) (q : Option (List AEnt × List UInt8)) : Option (List (ByteArray × ABlob)) :=
  match q with
  | none => none
  | some (es, _) => if (∀ x ∈ es, okB d x) ∧ indexOf k (blobsB d es) = b then some (blobsB d es) else none
/-! ### bytes that were read are the one form -/
section
variable {nm l : List UInt8} {k at_ p a m j0 j1 j2 j3 : Nat} {er : Int}
end
/-- behind some entries: n are left, from a place on. -/
structure RSo (d : ADisk) (inn b : List UInt8) (k : Nat) (o : Option (List (ByteArray × ABlob))) (n at_ : Nat) (es : List AEnt) : Prop where
  le : at_ ≤ inn.length
  ok : ∀ x ∈ es, okB d x
  bnd : ∀ x ∈ es, EntB k x
  len : es.length + n ≤ 4096
  so : o = rKeep d k b ((pEnts k n (inn.drop at_) (lastN es)).map fun r => (es ++ r.1, r.2))
section
variable {d : ADisk} {inn b : List UInt8} {k n at_ a2 : Nat} {o : Option (List (ByteArray × ABlob))} {es : List AEnt} {x : AEnt}
theorem RSo.start (hj : at_ ≤ inn.length) (hn : n ≤ 4096) (h : o = rKeep d k b (pEnts k n (inn.drop at_) none)) : RSo d inn b k o n at_ [] := by
  refine ⟨hj, by simp, by simp, by simpa using hn, ?_⟩
  rw [h]
  show _ = rKeep d k b ((pEnts k n (inn.drop at_) none).map fun r => ([] ++ r.1, r.2))
  cases pEnts k n (inn.drop at_) none <;> rfl
theorem RSo.bad (h : RSo d inn b k o (n + 1) at_ es) (hb : pEntA inn at_ k = none ∨ ∃ x a2, pEntA inn at_ k = some (x, a2) ∧ (nextOk (lastN es) x.name = false ∨ ¬ okB d x)) : o = none := by
  rw [h.so, pEnts_step]
  rcases hb with hb | ⟨x, a2, hb, h2⟩
  · rw [hb]; rfl
  · rw [hb]
    simp only
    by_cases hn : nextOk (lastN es) x.name = false
    · rw [if_pos hn]; rfl
    · rw [if_neg hn]
      cases pEnts k n (inn.drop a2) (some x.name) with
      | none => rfl
      | some r =>
        simp only [Option.map_some, rKeep]
        rw [if_neg]
        rintro ⟨h3, _⟩
        rcases h2 with h2 | h2
        · exact hn h2
        · exact h2 (h3 x (by simp))
theorem RSo.next (h : RSo d inn b k o (n + 1) at_ es) (hb : pEntA inn at_ k = some (x, a2)) (hn : nextOk (lastN es) x.name = true) (hx : okB d x) : RSo d inn b k o n a2 (es ++ [x]) := by
  have hxb : EntB k x := by
    have h1 := pEnt_abs inn at_ k
    rw [hb] at h1
    exact pEnt_bnd h1
  refine ⟨pEntA_le h.le hb, fun y hy => ?_, fun y hy => ?_, by have := h.len; rw [List.length_append]; simp only [List.length_singleton]; omega, ?_⟩
  · rcases List.mem_append.1 hy with hy | hy
    · exact h.ok y hy
    · rw [List.mem_singleton.1 hy]; exact hx
  · rcases List.mem_append.1 hy with hy | hy
    · exact h.bnd y hy
    · rw [List.mem_singleton.1 hy]; exact hxb
  · rw [h.so, pEnts_step, hb]
    simp only
    rw [if_neg (by simp [hn])]
    have hl : lastN (es ++ [x]) = some x.name := by simp [lastN]
    rw [hl]
    cases pEnts k n (inn.drop a2) (some x.name) with
    | none => rfl
    | some r => simp only [Option.map_some, List.append_assoc, List.cons_append, List.nil_append]
theorem RSo.done (h : RSo d inn b k o 0 at_ es) : o = if indexOf k (blobsB d es) = b then some (blobsB d es) else none := by
  rw [h.so]
  unfold pEnts
  simp only [Option.map_some, List.append_nil, rKeep]
  by_cases hi : indexOf k (blobsB d es) = b
  · rw [if_pos ⟨h.ok, hi⟩, if_pos hi]
  · rw [if_neg (fun e => hi e.2), if_neg hi]
end
end Go.Proofs.YtbepcjajbcecnaaGreatDoor
