/-
  Arguments opened: files by name.
-/
import Derived.Outline
import Derived.Test.YtbiadclmonakkaaGreatDoorMLoA
import Derived.Test.YtbiadclmonakkaaGreatDoorMRfC
import Derived.Deep.RegionHeld3
import Derived.Deep.RegionLaw
namespace Go.Proofs.YtbiadclmonakkaaGreatDoor
open Go.RowKit Go.ChangeShapes Go.WideShapes Go.Deep

structure AFile5 where
  name : ByteArray
  vb : Value
  b : List UInt8
def AFile5.cells (x : AFile5) : List Value := [.string x.name, x.vb]
structure FileOk5 (w : World) (x : AFile5) : Prop where
  name : x.name.size ≤ maxLen
  rd : Rd w x.vb (bcells x.b)
  len : x.b.length ≤ maxLen
def FileQ5 (w : World) (l : List Value) (x : AFile5) : Prop := l = x.cells ∧ FileOk5 w x
def FilesAt5 (w : World) (v : Value) (xs : List AFile5) : Prop := SliceOf 2 (FileQ5 w) w v xs
theorem FilesAt5.at {W w : World} {a : Option Addr} {n c : Nat} {xs : List AFile5} (h : FilesAt5 W (.slice a n c) xs) (hb : Below W.heap.size W w) (k : Nat) (hk : k < xs.length) :
    ∃ b off, a = some ⟨b, off, none⟩ ∧ b < W.heap.size ∧ FileOk5 W xs[k] ∧ w.cell? ⟨b, off + k * 2, none⟩ = some (.string xs[k].name) ∧ w.cell? ⟨b, off + k * 2 + 1, none⟩ = some xs[k].vb := by
  obtain ⟨b, off, ha, l, _, hc, rfl, hok⟩ := SliceOf.at h k hk
  have hx : ∀ i u, xs[k].cells[i]? = some u → w.cell? ⟨b, off + k * 2 + i, none⟩ = some u := fun i u hu => by
    have h1 := hc i u hu
    rw [← Nat.add_assoc] at h1
    exact (hb.cell (p := ⟨b, off + k * 2 + i, none⟩) (cell_lt h1)).trans h1
  exact ⟨b, off, ha, cell_lt (hc 0 _ rfl), hok, hx 0 _ rfl, hx 1 _ rfl⟩

section
variable {H : Type} {enc : TypeId × Value → H} {w : World} {base : Nat} {spare : Nat → Bool} {held : Bool}
end
end Go.Proofs.YtbiadclmonakkaaGreatDoor

/-
  The program's disk and the document's side by side.
-/
namespace Go.Proofs.YtbiadclmonakkaaGreatDoor
open Go.RowKit Go.Maps Go.MapKept

/-- the two disks, side by side; WB is the block in which the document's lies. -/
structure PairAt (ex0 : Nat → Prop) (w0 w : World) (p m WB : Nat) (exq : Nat → Prop) (d : ADisk) (a : Option Addr) (n c : Nat) : Prop where
  hx : ∀ k, ex0 k → exq k
  wb : exq WB
  far : ¬ ex0 WB
  disk : DiskAt exq w p m d
  ref : RefAt exq w a n c d
  cell : w.heap[WB]? = some (.cells #[.int .i64 d.most, .slice a n c, .int .i64 d.left, .bool d.down] 78)
  keep : Keep ex0 w0 w
namespace PairAt
variable {ex0 exq : Nat → Prop} {w0 w w1 w2 w3 : World} {p m WB : Nat} {d d' : ADisk} {a a' : Option Addr} {n c n' c' : Nat}
theorem wf (h : PairAt ex0 w0 w p m WB exq d a n c) : d.WF := h.disk.wf
theorem lt (h : PairAt ex0 w0 w p m WB exq d a n c) {k : Nat} (hk : exq k) : k < w.heap.size := h.disk.lt hk
theorem below (h : PairAt ex0 w0 w p m WB exq d a n c) (hb : Below w.heap.size w w1) : PairAt ex0 w0 w1 p m WB exq d a n c :=
  ⟨h.hx, h.wb, h.far, h.disk.below hb, h.ref.below hb, (hb.block _ (blk_lt h.cell)).trans h.cell, h.keep.trans (Keep.ofBelow hb (fun k hk => h.lt (h.hx k hk)))⟩
/-- behind a call upon the program's disk: the document's is where it was. -/
theorem mid (h : PairAt ex0 w0 w p m WB exq d a n c) (hK : Keep exq w w2) : RefAt (fun k => exq k ∨ w2.heap.size ≤ k) w2 a n c d ∧ w2.heap[WB]? = some (.cells #[.int .i64 d.most, .slice a n c, .int .i64 d.left, .bool d.down] 78) :=
  ⟨(h.ref.keep hK (fun _ hk _ => hk)).narrow (fun _ hk _ => Or.inl hk), (hK.block _ h.wb).trans h.cell⟩
/-- behind a call upon both. -/
theorem step (h : PairAt ex0 w0 w p m WB exq d a n c) (hD : DiskAt exq w2 p m d') (hK : Keep exq w w2) (hR : RefAt (fun k => exq k ∨ w2.heap.size ≤ k) w3 a' n' c' d') (hb : Below w2.heap.size w2 w3) :
    PairAt ex0 w0 ((((w3.setCell ⟨WB, 0, none⟩ (.int .i64 d'.most)).setCell ⟨WB, 1, none⟩ (.slice a' n' c')).setCell ⟨WB, 2, none⟩ (.int .i64 d'.left)).setCell ⟨WB, 3, none⟩ (.bool d'.down)) p m WB (fun k => exq k ∨ w2.heap.size ≤ k ∧ k < w3.heap.size) d' a' n' c' := by
  obtain ⟨_, hc2⟩ := h.mid hK
  have hc3 := (hb.block _ (blk_lt hc2)).trans hc2
  have hU : Upd (· = WB) w3 ((((w3.setCell ⟨WB, 0, none⟩ (.int .i64 d'.most)).setCell ⟨WB, 1, none⟩ (.slice a' n' c')).setCell ⟨WB, 2, none⟩ (.int .i64 d'.left)).setCell ⟨WB, 3, none⟩ (.bool d'.down)) := ((((Upd.refl (· = WB) w3).setCell (p := ⟨WB, 0, none⟩) (Or.inl rfl) _).setCell (p := ⟨WB, 1, none⟩) (Or.inl rfl) _).setCell (p := ⟨WB, 2, none⟩) (Or.inl rfl) _).setCell (p := ⟨WB, 3, none⟩) (Or.inl rfl) _
  have hc4 := setCell_at (setCell_at (setCell_at (setCell_at hc3 0 (.int .i64 d'.most)) 1 (.slice a' n' c')) 2 (.int .i64 d'.left)) 3 (.bool d'.down)
  have hD3 : DiskAt (fun k => exq k ∨ w2.heap.size ≤ k ∧ k < w3.heap.size) w3 p m d' := hD.more hb (fun k hk => hk)
  have hR3 : RefAt (fun k => exq k ∨ w2.heap.size ≤ k ∧ k < w3.heap.size) w3 a' n' c' d' := hR.narrow (fun k hk hl => hk.elim Or.inl (fun e => Or.inr ⟨e, hl⟩))
  have hlt3 : ∀ k, exq k → k < w3.heap.size := fun k hk => hD3.lt (Or.inl hk)
  refine ⟨fun k hk => Or.inl (h.hx k hk), Or.inl h.wb, h.far, hD3.upd hU (fun k _ e => by rw [e]; exact Or.inl h.wb), hR3.apart hc3 ⟨_, _, _, rfl⟩ ⟨_, rfl⟩ hU, hc4, ?_⟩
  exact ((h.keep.trans (hK.mono h.hx)).trans (Keep.ofBelow hb (fun k hk => hD.lt (h.hx k hk)))).trans (Keep.ofUpd hU (fun k hk => ⟨hlt3 k (h.hx k hk), fun e => h.far (by rw [← e]; exact hk)⟩))
end PairAt
/-- files appended, one behind the other, to a new disk. -/
def madeD (l : List AFile5) : ADisk := l.foldl (fun d x => d.append x.name x.b) ⟨4194304, -1, false, []⟩
theorem madeD_next (l : List AFile5) (i : Nat) (h : i < l.length) : madeD (l.take (i + 1)) = (madeD (l.take i)).append l[i].name l[i].b := by
  rw [List.take_succ_eq_append_getElem h]
  unfold madeD
  rw [List.foldl_append]
  rfl
end Go.Proofs.YtbiadclmonakkaaGreatDoor

/-
  made: the same files on both disks.
-/
namespace Go.Proofs.YtbiadclmonakkaaGreatDoor
open Go.RowKit Go.Maps Go.MapKept
set_option linter.unusedSimpArgs false

def MadePost (ex : Nat → Prop) (w : World) (d : ADisk) (e : Ending) (w' : World) : Prop :=
  ∃ p m a n c exq, e = .returned (.tuple #[.pointer (some ⟨p, 0, none⟩), refVal a n c d]) ∧ (∀ k, ex k → exq k) ∧ DiskAt exq w' p m d ∧ RefAt exq w' a n c d ∧ Keep ex w w'
set_option maxRecDepth 100000 in
set_option maxHeartbeats 4000000 in
theorem made4_any (w : World) (ex : Nat → Prop) (va : Value) (L : List AFile5) (hL : FilesAt5 w va L) (hx0 : ∀ k, ex k → k < w.heap.size) (hx1 : ∀ k, k < w.heap.size → ex k) (hb : ∀ x ∈ L, x.b.length ≤ 3000) :
    Calls Tryz.prog 38 #[va] w (MadePost ex w (madeD L)) := by
  have hLm := SliceOf.len_le hL
  obtain ⟨av, cv, rfl⟩ := SliceOf.shape hL
  simp only [maxLen] at hLm
  have Hx0 := Lib.hid (And.intro hx0 hx1)
  have HL := Lib.hid (And.intro hL hb)
  clear hL hb hx0 hx1
  go_enter Tryz.func38, Tryz.ntmps38
  have hR0 := alloc_at w (.cells #[.int .i64 0, .slice none 0 0, .int .i64 0, .bool false] 78)
  have hbR : Below w.heap.size w (w.alloc (.cells #[.int .i64 0, .slice none 0 0, .int .i64 0, .bool false] 78)) := (Below.refl _ _).alloc (Nat.le_refl _) _
  obtain ⟨w1, hw1⟩ : ∃ y, w.alloc (.cells #[.int .i64 0, .slice none 0 0, .int .i64 0, .bool false] 78) = y := ⟨_, rfl⟩
  rw [hw1] at hR0 hbR
  obtain ⟨B3, hB3⟩ : ∃ y, w.heap.size = y := ⟨_, rfl⟩
  rw [hB3] at hR0
  have Hw1 := Lib.hid hw1
  have HB3 := Lib.hid hB3
  clear hw1 hB3
  have hlt1 : ∀ k, (ex k ∨ k = B3) → k < w1.heap.size := fun k hk => by
    rcases hk with hk | rfl
    · have h1 := Hx0.out.1 k hk; have h2 := hbR.size; omega
    · exact blk_lt hR0
  go_upto_region 1 with fail
  rw [Hw1.out, HB3.out]
  go_upto_region 2 with (go_at_call 32; refine (New_at (ex := fun k => ex k ∨ k = B3) 4194304 (by decide) (by decide) hlt1).mono ?_; generalize hp : w1.heap.size + 1 = p; generalize hm : w1.heap.size = m; rintro e w2 ⟨rfl, hD2, hK2⟩; clear hp hm)
  have hNw := fun w => refNew_good w 4194304 (by decide) (by decide)
  unfold refVal at hNw
  go_upto_region 3 with (go_at_call 68; refine (hNw _).mono ?_; rintro e w3 ⟨rfl, hb3⟩)
  have hW4 := alloc_at w3 (.cells #[.int .i64 4194304, .slice none 0 0, .int .i64 (-1), .bool false] 78)
  have hb4 : Below w3.heap.size w3 (w3.alloc (.cells #[.int .i64 4194304, .slice none 0 0, .int .i64 (-1), .bool false] 78)) := (Below.refl _ _).alloc (Nat.le_refl _) _
  have hs4 : (w3.alloc (.cells #[.int .i64 4194304, .slice none 0 0, .int .i64 (-1), .bool false] 78)).heap.size = w3.heap.size + 1 := by simp
  obtain ⟨w4, hw4⟩ : ∃ y, w3.alloc (.cells #[.int .i64 4194304, .slice none 0 0, .int .i64 (-1), .bool false] 78) = y := ⟨_, rfl⟩
  obtain ⟨WB, hWB⟩ : ∃ y, w3.heap.size = y := ⟨_, rfl⟩
  have hb24 : Below w2.heap.size w2 w4 := by rw [← hw4]; exact hb3.trans (hb4.mono hb3.size)
  rw [hw4, hWB] at hW4
  rw [hw4] at hs4
  have hs1 := hK2.size
  have hs3 := hb3.size
  have hP : PairAt (fun k => ex k ∨ k = B3) w1 w4 p m WB (fun k => (ex k ∨ k = B3) ∨ k = WB) (madeD []) none 0 0 :=
    ⟨fun k hk => Or.inl hk, Or.inr rfl, fun hk => by have := hlt1 _ hk; omega, hD2.more hb24 (fun k hk => hk.elim Or.inl (fun e => Or.inr ⟨by omega, by omega⟩)), ⟨Or.inl ⟨Or.inl rfl, rfl⟩, rfl, fun h => absurd rfl h⟩, hW4, hK2.trans (Keep.ofBelow hb24 (fun k hk => hD2.lt hk))⟩
  have HP := Lib.hid hP
  have Hw4 := Lib.hid hw4
  have HWB := Lib.hid hWB
  have Hb1 := Lib.hid (And.intro hbR (And.intro hR0 hlt1))
  clear hP hw4 hWB hW4 hb4 hb24 hs4 hs1 hs3 hb3 hD2 hK2 hbR hR0 hlt1
  (try rw [Hw4.out, HWB.out])
  go_wp2_with fail
  go_loopw [8] (fun iv wr => ∃ (i : Nat) (a : Option Addr) (n c : Nat) (exq : Nat → Prop), i ≤ L.length ∧ iv = .int .i64 i ∧ PairAt (fun k => ex k ∨ k = B3) w1 wr p m WB exq (madeD (L.take i)) a n c) (fun iv _ => L.length - (intOf iv).toNat)
  case atStart => exact ⟨0, none, 0, 0, _, by omega, rfl, HP.out⟩
  case round =>
    obtain ⟨i, a, n, c, exq, hi, rfl, hT⟩ := hrel
    obtain ⟨wq, rfl⟩ : ∃ x, x = wr := ⟨_, rfl⟩
    have hlow : ∀ k, k < w1.heap.size → ex k ∨ k = B3 := fun k hk => by
      have h1 : w1.heap.size = B3 + 1 := by rw [← Hw1.out, ← HB3.out]; simp
      by_cases h2 : k = B3
      · exact Or.inr h2
      · exact Or.inl (Hx0.out.2 k (by rw [HB3.out]; omega))
    have hBq : Below w.heap.size w wq := Hb1.out.1.trans ((hT.keep.below hlow).mono Hb1.out.1.size)
    have HT := Lib.hid hT
    by_cases hlt : i < L.length
    · obtain ⟨b, off, rfl, hbl, hok, c0, c1⟩ := HL.out.1.at hBq i hlt
      have hbb := HL.out.2 _ (List.getElem_mem hlt)
      have hnx := madeD_next L i hlt
      obtain ⟨x, hx⟩ : ∃ x, L[i] = x := ⟨_, rfl⟩
      rw [hx] at hok c0 c1 hbb hnx
      obtain ⟨name, vb, bb⟩ := x
      simp only at c0 c1 hbb hnx
      obtain ⟨d, hd⟩ : ∃ d, madeD (L.take i) = d := ⟨_, rfl⟩
      rw [hd] at hT hnx
      have hnm := hok.name
      have hrd := hok.rd
      simp only at hnm hrd
      have HT := Lib.hid hT
      have Hnx := Lib.hid hnx
      have Hrd := Lib.hid hrd
      have HBq := Lib.hid hBq
      have hTd := hT.below ((Below.refl wq.heap.size wq).drew)
      have HTd := Lib.hid hTd
      have hAp := Append_at name vb bb hTd.disk hnm (hrd.below hBq.drew) (by omega)
      have hltI : (i : Int) < (L.length : Int) := by omega
      have hi0 : (0 : Int) ≤ (i : Int) := by omega
      have Hlow := Lib.hid hlow
      clear hx hd hT hTd hnx hrd hok hBq hlow
      have cc : wq.drew.cell? ⟨b, off + i * 2, none⟩ = some (.string name) ∧ wq.drew.cell? ⟨b, off + i * 2 + 1, none⟩ = some vb := ⟨c0, c1⟩
      go_upto_region 6 with fail
      go_region_held3 (fun w' => w'.cell? ⟨b, off + i * 2, none⟩ = some (.string name) ∧ w'.cell? ⟨b, off + i * 2 + 1, none⟩ = some vb)
        (first | exact cc | exact S5 | go_keep)
        (first
          | (go_at_call 64; (with_reducible refine hAp.mono ?_); rintro e w5 ⟨rfl, hD5, hK5⟩; have S5 : w5.cell? ⟨b, off + i * 2, none⟩ = some (.string name) ∧ w5.cell? ⟨b, off + i * 2 + 1, none⟩ = some vb := ⟨(hK5.cell (HT.out.hx _ (Or.inl (Hx0.out.2 b hbl))) _).trans c0, (hK5.cell (HT.out.hx _ (Or.inl (Hx0.out.2 b hbl))) _).trans c1⟩))
      have hD6 := hD5.below ((Below.refl w5.heap.size w5).drew)
      have hK6 : Keep exq wq.drew w5.drew := hK5.trans (Keep.ofBelow ((Below.refl w5.heap.size w5).drew) (fun k hk => hD5.lt hk))
      obtain ⟨hRm, hWm⟩ := HTd.out.mid hK6
      have hrd6 := Hrd.out.below (HBq.out.drew.trans ((hK6.below (fun k hk => (HTd.out.hx _ (Or.inl (Hx0.out.2 k (by omega)))) : ∀ k, k < w.heap.size → exq k)).mono (Nat.le_refl _)))
      have hNew : NewOk (fun k => exq k ∨ w5.drew.heap.size ≤ k) w5.drew := fun k hk => Or.inr hk
      have hRef := refAppend_any w5.drew a n c d name vb bb hRm HTd.out.wf hNew hnm hrd6 (by omega)
      unfold refVal at hRef
      have HD6 := Lib.hid (And.intro hD6 (And.intro hK6 hWm))
      have d0 : w5.drew.cell? ⟨b, off + i * 2, none⟩ = some (.string name) := S5.1
      have d1 : w5.drew.cell? ⟨b, off + i * 2 + 1, none⟩ = some vb := S5.2
      obtain ⟨m0, m1, m2, m3, _⟩ := cells4 hWm
      clear hD6 hK6 hRm hrd6 hD5 hK5 S5 cc c0 c1 hAp
      go_upto_region 7 with fail
      go_region_law (first | (go_simp; go_at_call 69; refine hRef.mono ?_; rintro e w6 ⟨a', n', c', rfl, hR6, hb6⟩; obtain ⟨r0, r1, r2, r3, r4, r5, r6, r7⟩ := cells4 ((hb6.block _ (blk_lt hWm)).trans hWm)))
      all_goals
        have hSt := HTd.out.step HD6.out.1 HD6.out.2.1 hR6 hb6
        have HSt := Lib.hid hSt
        clear hSt hR6 hb6 r0 r1 r2 r3 r4 r5 r6 r7
        go_wp2_with fail
        go_roundw
        case rel => exact ⟨i + 1, a', n', c', _, by omega, by go_num, by rw [Hnx.out]; exact HSt.out⟩
        case measure => simp [intOf]; omega
    · obtain rfl : i = L.length := by omega
      have hdl : madeD (L.take L.length) = madeD L := by rw [List.take_length]
      have hT := HT.out
      rw [hdl] at hT
      obtain ⟨d, hd⟩ : ∃ d, madeD L = d := ⟨_, rfl⟩
      rw [hd] at hT ⊢
      have HT0 := Lib.hid hT
      have hR := (hT.keep.block B3 (Or.inr rfl)).trans Hb1.out.2.1
      obtain ⟨m0, m1, m2, m3, _⟩ := cells4 hT.cell
      obtain ⟨z0, z1, z2, z3, z4, z5, z6, z7⟩ := cells4 hR
      clear hT hdl
      go_upto_region 8 with fail
      go_region_law (fail)
      (try simp only [Exit.inBlock, Exit.then])
      go_wp2_with fail
      have hU : Upd (· = B3) wq ((((wq.setCell ⟨B3, 0, none⟩ (.int .i64 d.most)).setCell ⟨B3, 1, none⟩ (.slice a n c)).setCell ⟨B3, 2, none⟩ (.int .i64 d.left)).setCell ⟨B3, 3, none⟩ (.bool d.down)).drew := (((((Upd.refl (· = B3) wq).setCell (p := ⟨B3, 0, none⟩) (Or.inl rfl) _).setCell (p := ⟨B3, 1, none⟩) (Or.inl rfl) _).setCell (p := ⟨B3, 2, none⟩) (Or.inl rfl) _).setCell (p := ⟨B3, 3, none⟩) (Or.inl rfl) _).drew
      subst hd
      have hx3 : exq B3 := HT0.out.hx _ (Or.inr rfl)
      have hk1 : Keep ex w w1 := Keep.ofBelow Hb1.out.1 (fun k hk => Hx0.out.1 k hk)
      have hk2 : Keep ex wq ((((wq.setCell ⟨B3, 0, none⟩ (.int .i64 (madeD L).most)).setCell ⟨B3, 1, none⟩ (.slice a n c)).setCell ⟨B3, 2, none⟩ (.int .i64 (madeD L).left)).setCell ⟨B3, 3, none⟩ (.bool (madeD L).down)).drew := Keep.ofUpd hU (fun k hk => ⟨HT0.out.lt (HT0.out.hx _ (Or.inl hk)), fun e => by have := Hx0.out.1 k hk; have := HB3.out; omega⟩)
      exact bodyPost_ret (v := .tuple #[.pointer (some ⟨p, 0, none⟩), .agg #[.int .i64 (madeD L).most, .slice a n c, .int .i64 (madeD L).left, .bool (madeD L).down]]) (by simp [results, Tryz.results38, go_sem, z0, z1, z2, z3, z4, z5, z6, z7]) rfl
        ⟨p, m, a, n, c, exq, rfl, fun k hk => HT0.out.hx _ (Or.inl hk), HT0.out.disk.upd hU (fun k _ e => by rw [e]; exact hx3), HT0.out.ref.apart hR ⟨_, _, _, rfl⟩ ⟨_, rfl⟩ hU, (hk1.trans (HT0.out.keep.mono (fun k hk => Or.inl hk))).trans hk2⟩
end Go.Proofs.YtbiadclmonakkaaGreatDoor
