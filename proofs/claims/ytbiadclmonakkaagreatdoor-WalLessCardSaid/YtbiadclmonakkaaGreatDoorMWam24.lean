/-
  A journal that is built, once more: which one it is.
-/
import Derived.Outline
import Derived.BigQuiet
import Derived.Deep.QuietTactic
import Derived.Deep.RegionHeld3
import Derived.Test.YtbiadclmonakkaaGreatDoorMWmD
import Derived.Test.YtbiadclmonakkaaGreatDoorMWlA
namespace Go.Proofs.YtbiadclmonakkaaGreatDoor
open Go.RowKit Go.Maps Go.MapKept
set_option linter.unusedSimpArgs false

def bGo (st : ADisk × ALog × Nat) (b : List UInt8) : ADisk × ALog × Nat := ((wAppend st.1 st.2.1 st.2.2 b).1, (wAppend st.1 st.2.1 st.2.2 b).2.1, st.2.2 + 1)
def bRun (n0 size : Nat) (L : List (List UInt8)) : ADisk × ALog × Nat := L.foldl bGo (⟨1048576, -1, false, []⟩, f0.log size, n0)
structure Built2 (n0 size : Nat) (L : List (List UInt8)) (d : ADisk) (al : ALog) (ss : List Seg) : Prop where
  base : Built n0 size L d al ss
  run : bRun n0 size L = (d, al, n0 + L.length)
theorem built2_new (n0 size : Nat) : Built2 n0 size [] ⟨1048576, -1, false, []⟩ (f0.log size) [] := ⟨built_new n0 size, rfl⟩
theorem Built2.same {n0 size : Nat} {L : List (List UInt8)} {d d' : ADisk} {al al' : ALog} {ss ss' : List Seg} (h : Built2 n0 size L d al ss) (h' : Built2 n0 size L d' al' ss') : d' = d ∧ al' = al := by
  have := h.run.symm.trans h'.run
  simp only [Prod.mk.injEq] at this
  exact ⟨this.1.symm, this.2.1.symm⟩
section
variable {ex : Nat → Prop} {w : World} {q p m : Nat} {d : ADisk} {al : ALog}
/-- what Append of a journal that is built leaves. -/
def BAppPost2 (ex : Nat → Prop) (w : World) (q p m n0 size : Nat) (L : List (List UInt8)) (e : Ending) (w' : World) : Prop :=
  e = .returned (.int .i64 0) ∧ Keep ex w w' ∧ ∃ d al ss, LogAt ex w' q p m d al ∧ Built2 n0 size L d al ss
theorem wAppend_built2 {n0 size : Nat} {L : List (List UInt8)} {ss : List Seg} (n : Int) (vb : Value) (b : List UInt8) (h : LogAt ex w q p m d al) (hB : Built2 n0 size L d al ss) (hE : WEnv w) (hG : GlIn ex) (hn : n = ((n0 + L.length : Nat) : Int)) (hv : ∀ w', Keep ex w w' → Rd w' vb (bcells b)) (hb : b.length ≤ 40) (hL : L.length ≤ 40) (hn0 : 1 ≤ n0) (hn1 : n0 ≤ 70000) (h64 : 64 ≤ size) (h1000 : size ≤ 1000) :
    Calls Tryz.prog 22 #[.pointer (some ⟨q, 0, none⟩), .int .i64 n, vb] w (BAppPost2 ex w q p m n0 size (L ++ [b])) := by
  obtain ⟨hok, hml⟩ := hB.base.alOk hn1 h1000 (by omega)
  obtain ⟨d', al', ss', he, hB'⟩ := built_more hB.base b hb hL hn0 hn1 h64
  have hA := wAppend_at n vb b h hE hG (by unfold isI64; omega) hv (by omega) hok (by omega)
  rw [hn, he] at hA
  rw [hn]
  refine hA.mono fun e w' hw => ⟨hw.1, hw.2.2, d', al', ss', hw.2.1, hB', ?_⟩
  unfold bRun
  rw [List.foldl_append]
  have hr := hB.run
  unfold bRun at hr
  rw [hr]
  simp only [List.foldl_cons, List.foldl_nil, bGo, he]
  simp only [List.length_append, List.length_cons, List.length_nil]
  rfl
end
/-- what built leaves: W is where the arguments were read. -/
structure BuiltFin2 (ex : Nat → Prop) (bs : Nat) (W w' : World) (q p m : Nat) (a : Option Addr) (c n : Nat) (XL : List XRec) (n0 size : Nat) (L : List (List UInt8)) (d : ADisk) (al : ALog) (ss : List Seg) : Prop where
  log : LogAt (fun k => ex k ∨ (Value.slice a n c).ownBlock = some k) w' q p m d al
  row : w'.ownsRow bs 47 2 (.slice a n c) n (recX XL)
  low : ∀ x ∈ XL, Rd W x.vb (bcells x.b)
  map : XL.map XRec.rec4 = numbered n0 L
  len : XL.length = n
  built : Built2 n0 size L d al ss
  new : bs ≤ q
def BuiltPost2 (ex : Nat → Prop) (W w : World) (first : Nat) (size : Int) (rows : List (List UInt8)) (e : Ending) (w' : World) : Prop :=
  ∃ q p m a c n XL d al ss, e = .returned (.tuple #[.pointer (some ⟨p, 0, none⟩), .pointer (some ⟨q, 0, none⟩), .slice a n c, .bool true]) ∧ Keep ex w w' ∧
    BuiltFin2 ex w.heap.size W w' q p m a c n XL (builtN first) (builtS size) (builtL rows) d al ss

section
variable {ex : Nat → Prop}
set_option maxRecDepth 100000 in
set_option maxHeartbeats 8000000 in
theorem built2_any {W w : World} (vr : Value) (rows : List (List UInt8)) (first : Nat) (size : Int) (hW : RowsAt W vr rows) (hB : Below W.heap.size W w) (hE : WEnv w) (hG : GlIn ex) (hlt : ∀ k, ex k → k < w.heap.size) (hlow : ∀ k, k < W.heap.size → ex k) (hf : first ≤ 65535) (_hs : isI64 size) :
    Calls Tryz.prog 11 #[.agg #[vr, .int .u16 first, .int .i64 size]] w (BuiltPost2 ex W w first size rows) := by
  obtain ⟨ar, cr, rfl⟩ := SliceOf.shape hW
  have hrl := SliceOf.len_le hW
  simp only [maxLen] at hrl
  obtain ⟨s1, s2, s3⟩ := builtS_le size
  have hbx := alloc_at w (.cells #[.slice ar rows.length cr, .int .u16 first, .int .i64 size] 25)
  obtain ⟨w1, hw1⟩ : ∃ w1, w.alloc (.cells #[.slice ar rows.length cr, .int .u16 first, .int .i64 size] 25) = w1 := ⟨_, rfl⟩
  have hB1 : Below w.heap.size w w1 := by rw [← hw1]; exact (Below.refl _ _).alloc (Nat.le_refl _) _
  rw [hw1] at hbx
  have Hw1 := Lib.hid hw1
  obtain ⟨x0, x1, x2, _⟩ := cells3 hbx
  obtain ⟨ex1, hex1⟩ : ∃ ex1 : Nat → Prop, ex1 = fun k => ex k ∨ k = w.heap.size := ⟨_, rfl⟩
  have hx1 : ∀ k, ex1 k → k < w1.heap.size := fun k hk => by
    rw [hex1] at hk
    have := blk_lt hbx
    rcases hk with hk | rfl
    · have := hlt k hk; omega
    · exact this
  have hNew := New_at (w := w1) (ex := ex1) 1048576 (by decide) (by decide) hx1
  obtain ⟨p, hp⟩ : ∃ p, w1.heap.size + 1 = p := ⟨_, rfl⟩
  obtain ⟨m, hm⟩ : ∃ m, w1.heap.size = m := ⟨_, rfl⟩
  rw [hp, hm] at hNew
  have hG1 : GlIn ex1 := hG.mono (fun k hk => by rw [hex1]; exact Or.inl hk)
  have hpk := fun wX => Pick_any wX size 200 (by unfold isI64; omega)
  obtain ⟨pk, hpke⟩ : ∃ pk, pickI size 200 = pk := ⟨_, rfl⟩
  rw [hpke] at hpk s3
  obtain ⟨sz, hsz⟩ : ∃ sz, builtS size = sz := ⟨_, rfl⟩
  rw [hsz] at s1 s2 s3
  have hO := fun wX dX (hX : DiskAt ex1 wX p m dX) (hEX : WEnv wX) => wOpen_at (64 + pk) hX hEX hG1
  rw [← s3] at hO
  have hnew0 := open_bare (d := ⟨1048576, -1, false, []⟩) ⟨List.Pairwise.nil, fun _ _ _ => rfl⟩ rfl (sz : Int) (by omega) (by omega)
  have hO0 := fun wX (hX : DiskAt ex1 wX p m ⟨1048576, -1, false, []⟩) (hEX : WEnv wX) => hO wX _ hX hEX
  rw [hnew0.1] at hO0
  unfold OpenPost at hO0
  simp only at hO0
  have HNew := Lib.hid hNew
  have Hpk := Lib.hid hpk
  have HO := Lib.hid hO0
  have Hsz := Lib.hid hsz
  have Hex1 := Lib.hid hex1
  have Hs3 := Lib.hid s3
  obtain ⟨n0, hn0⟩ : ∃ n0, builtN first = n0 := ⟨_, rfl⟩
  have hn1 : 1 ≤ n0 ∧ n0 ≤ 70000 := by rw [← hn0]; unfold builtN; omega
  have Hn0 := Lib.hid hn0
  clear hNew hpk hO hO0 hsz hex1 hp hm hpke hnew0 hw1 s3 hn0
  have hE1 : WEnv w1 := hE.below hB1
  have HE1 := Lib.hid hE1
  have hp0 : 0 ≤ pk := by have := Hs3.out; omega
  have hp1 : pk < 200 := by have := Hs3.out; omega
  go_enter Tryz.func11, Tryz.ntmps11
  go_wp2_with first
    | (rw [Hw1.out]; go_at_call 32; refine HNew.out.mono ?_; rintro e w2 ⟨rfl, hD2, hK2⟩; have hE2 := HE1.out.keep hK2 hG1; have y0 := (hK2.cell (b := w.heap.size) (by rw [Hex1.out]; exact Or.inr rfl) 0).trans x0; have y1 := (hK2.cell (b := w.heap.size) (by rw [Hex1.out]; exact Or.inr rfl) 1).trans x1; have y2 := (hK2.cell (b := w.heap.size) (by rw [Hex1.out]; exact Or.inr rfl) 2).trans x2)
    | (go_at_call 15; refine (Hpk.out _).mono ?_; rintro e w3 ⟨rfl, rfl⟩)
    | (go_at_call 17; rw [← Hs3.out]; refine (HO.out w2 hD2 hE2).mono ?_; rintro e w3 ⟨hK3, hor⟩; obtain ⟨_, q, a3, c3, XL, rfl, hF⟩ := hor.resolve_left (fun h => h.1 rfl); have z0 := (hK3.cell (b := w.heap.size) (by rw [Hex1.out]; exact Or.inr rfl) 0).trans y0; have z1 := (hK3.cell (b := w.heap.size) (by rw [Hex1.out]; exact Or.inr rfl) 1).trans y1)
  obtain rfl : XL = [] := List.map_eq_nil_iff.1 hF.map
  have hlow1 : ∀ k, k < W.heap.size → ex1 k := fun k hk => by rw [Hex1.out]; exact Or.inl (hlow k hk)
  have hexx : ∀ k, ex k → ex1 k := fun k hk => by rw [Hex1.out]; exact Or.inl hk
  have hexb : ex1 w.heap.size := by rw [Hex1.out]; exact Or.inr rfl
  have hKw : Keep ex w w3 := (Keep.ofBelow hB1 hlt).trans ((hK2.trans hK3).mono hexx)
  have hB3 : Below W.heap.size W w3 := hB.trans ((hKw.below (N := W.heap.size) hlow))
  have hE3 := HE1.out.keep (hK2.trans hK3) hG1
  have hst : ∀ d al ss, LogAt ex1 w3 q p m d al → Built2 n0 sz [] d al ss → BuiltFin2 ex1 w.heap.size W w3 q p m none 0 0 [] n0 sz [] d al ss := fun d al ss h1 h2 =>
    ⟨h1.mono (fun k hk => hk.elim id (fun e => (by cases e))), World.ownsRow_nil _ _ _ _, fun x hx => (by cases hx), rfl, rfl, h2, by have := hF.new.1; have := hK2.size; have := hB1.size; omega⟩
  have hst0 := hst _ _ _ (hF.log.mono (fun k hk => Or.inl hk)) (built2_new n0 sz)
  have Hst0 := Lib.hid hst0
  have HKw := Lib.hid hKw
  have HB3 := Lib.hid hB3
  have HE3 := Lib.hid hE3
  have Hlow1 := Lib.hid hlow1
  have Hexx := Lib.hid hexx
  have Hexb := Lib.hid hexb
  clear hst hst0 hKw hB3 hE3 hlow1 hexx hexb hF x0 x1 x2 y0 y1 y2 hD2 hE2
  go_wp2
  go_loopw [11, 12, 13] (fun va n i wr => ∃ (k cnt : Nat) (a : Option Addr) (c : Nat) (XL : List XRec) (d : ADisk) (al : ALog) (ss : List Seg), k ≤ rows.length ∧ k ≤ 40 ∧ cnt ≤ k ∧ i = .int .i64 k ∧ n = .int .i64 ((n0 + cnt : Nat) : Int) ∧ va = .slice a cnt c ∧
    BuiltFin2 ex1 w.heap.size W wr q p m a c cnt XL n0 sz ((rows.take k).filter short40) d al ss ∧ Keep ex1 w3 wr ∧ ∀ g, (Value.slice a cnt c).ownBlock = some g → w3.heap.size ≤ g) (fun _ _ i _ => rows.length - (intOf i).toNat)
  case atStart => exact ⟨0, 0, none, 0, [], _, _, _, by omega, by omega, by omega, rfl, by rw [← Hn0.out]; unfold builtN; congr 1, rfl, Hst0.out, Keep.refl _ _, fun g hg => (by cases hg)⟩
  case round =>
    obtain ⟨k, cnt, a, c, XL, d, al, ss, hk, hk40, hck, rfl, rfl, rfl, hF, hK, hnr⟩ := hrel
    have hz0 := (hK.cell Hexb.out 0).trans z0
    have hBr := HB3.out.trans ((hK.below (N := W.heap.size) Hlow1.out))
    have hEr := HE3.out.keep hK hG1
    obtain ⟨Lk, hLk⟩ : ∃ l, (rows.take k).filter short40 = l := ⟨_, rfl⟩
    rw [hLk] at hF
    have hcnt : Lk.length = cnt := by
      have := congrArg List.length hF.map
      rw [List.length_map, numbered_len, hF.len] at this
      exact this.symm
    by_cases hlk : k < rows.length ∧ k < 40
    · obtain ⟨hl1, hl2⟩ := hlk
      obtain ⟨b, off, v, rfl, hblk, hcW, hrdW, _⟩ := hW.at (Below.refl _ _) k hl1
      have hc := (hBr.cell (p := ⟨b, off + k, none⟩) (cell_lt hcW)).trans hcW
      obtain ⟨av, cv, rfl⟩ := hrdW.shape
      rw [bcells_length] at hrdW hc hcW
      have hLk1 : (rows.take (k + 1)).filter short40 = Lk ++ [rows[k]].filter short40 := by rw [List.take_succ_eq_append_getElem hl1, List.filter_append, hLk]
      obtain ⟨B, hBe⟩ : ∃ B, rows[k] = B := ⟨_, rfl⟩
      rw [hBe] at hrdW hc hcW hLk1
      by_cases hbl : B.length ≤ 40
      · have hLk2 : (rows.take (k + 1)).filter short40 = Lk ++ [B] := by rw [hLk1]; simp [short40, hbl]
        have hb40 : ¬ (40 : Int) < (B.length : Int) := by omega
        have hv : ∀ w', Keep (fun j => ex1 j ∨ (Value.slice a cnt c).ownBlock = some j) wr w' → Rd w' (.slice av B.length cv) (bcells B) := fun w' hw' => hrdW.keepLow (hBr.trans (hw'.below (N := W.heap.size) (fun j hj => Or.inl (Hlow1.out j hj))))
        have hA := wAppend_built2 ((n0 + cnt : Nat) : Int) (.slice av B.length cv) B hF.log hF.built hEr (hG1.mono (fun _ hj => Or.inl hj)) (by rw [hcnt]) hv hbl (by omega) hn1.1 hn1.2 s1 (by omega)
        have HA := Lib.hid hA
        have HF := Lib.hid hF
        have HLk2 := Lib.hid hLk2
        have HrdW := Lib.hid hrdW
        have Hcnt := Lib.hid hcnt
        have HBr := Lib.hid hBr
        have Hnr := Lib.hid hnr
        clear hA hF hLk2 hrdW hcnt hLk1 hBe hLk hv hEr hBr hnr hcW
        go_wp2_with first
          | (go_at_call 22; refine HA.out.mono ?_; rintro e w5 ⟨rfl, hK5, d5, al5, ss5, hLog5, hB5⟩; have hc5 := (hK5.cell (b := b) (Or.inl (Hlow1.out b hblk)) (off + k)).trans hc; have hz5 := (hK5.cell (b := w.heap.size) (Or.inl Hexb.out) 0).trans hz0; obtain ⟨v', w6, hrun, hro, hg6, hb6⟩ := recs_one1 w5 (.slice a cnt c) XL ⟨n0 + cnt, B, .slice av B.length cv⟩ ((n0 + cnt : Nat) : Int) rfl cnt HF.out.len.symm (ownsRow_base0 (hK5.row HF.out.row (fun g hg => Or.inr hg))) rfl (by omega); obtain ⟨a', c', rfl⟩ := row_rec hro; have Hrun := Lib.hid hrun; have Hro := Lib.hid hro; have Hg6 := Lib.hid hg6; have Hb6 := Lib.hid hb6; have HLog5 := Lib.hid hLog5; have HB5 := Lib.hid hB5; clear hrun hro hg6 hb6 hLog5 hB5)
          | (at_builtin; refine Lib.wpList_append_run _ rfl (.tmp 69) (.tmp 77) _ _ rfl _ _ rfl rfl _ _ Hrun.out ?_)
        have hU : Upd (fun g => (Value.slice a cnt c).ownBlock = some g) w5 w6 := ((Upd.refl _ w5).alloc _).grown Hg6.out (fun g hg => Or.inl hg)
        have hs5 := hK5.size
        have hsr := hK.size
        have hnew : ∀ g, (Value.slice a' (cnt + 1) c').ownBlock = some g → w3.heap.size ≤ g := by
          intro g hg
          rcases Hb6.out with e | ⟨g', e, hge⟩
          · exact Hnr.out g (e ▸ hg)
          · rw [e] at hg; cases hg; omega
        have hs3w : w.heap.size ≤ w3.heap.size := HKw.out.size
        have hexlt : ∀ j, ex1 j → j < w3.heap.size := fun j hj => by
          have := (HLog5.out.lt (Or.inl hj) : j < w5.heap.size)
          have := hx1 j hj
          have := hK2.size
          have := hK3.size
          omega
        have hF6 : BuiltFin2 ex1 w.heap.size W w6 q p m a' c' (cnt + 1) (XL ++ [⟨n0 + cnt, B, .slice av B.length cv⟩]) n0 sz (Lk ++ [B]) d5 al5 ss5 := by
          obtain ⟨vL, hvL⟩ := HLog5.out
          refine ⟨⟨vL, hvL.more_upd hU (fun j _ hj => Or.inr hj) (fun j hj => ?_)⟩, ownsRow_from Hro.out (fun g hg => by have := hnew g hg; omega), fun x hx => ?_, ?_, ?_, HB5.out, HF.out.new⟩
          · rcases hj with hj | hj
            · exact Or.inl (Or.inl hj)
            · rcases Hb6.out with e | ⟨g', e, hge⟩
              · exact Or.inl (Or.inr (e ▸ hj))
              · rw [e] at hj; cases hj; exact Or.inr ⟨hge, row_lt Hro.out e⟩
          · rcases List.mem_append.1 hx with hx | hx
            · exact HF.out.low x hx
            · simp only [List.mem_singleton] at hx; subst hx; exact HrdW.out
          · rw [List.map_append, HF.out.map, numbered_snoc, Hcnt.out]; rfl
          · rw [List.length_append, HF.out.len]; rfl
        have hK6 : Keep ex1 w3 w6 := (hK.trans (hK5.mono (fun _ hj => Or.inl hj))).trans (Keep.ofUpd hU (fun j hj => ⟨by have := hexlt j hj; omega, fun e => by have := hexlt j hj; have := Hnr.out j e; omega⟩))
        have HF6 := Lib.hid hF6
        have Hnew := Lib.hid hnew
        clear hF6 hU hexlt hnew
        go_roundw
        case rel => exact ⟨k + 1, cnt + 1, a', c', _, _, _, _, by omega, by omega, by omega, by go_num, by go_num, rfl, by rw [HLk2.out]; exact HF6.out, hK6, Hnew.out⟩
        case measure => simp [intOf]; omega
      · have hLk2 : (rows.take (k + 1)).filter short40 = Lk := by rw [hLk1]; simp [short40, hbl]
        have hb40 : (40 : Int) < (B.length : Int) := by omega
        have HF := Lib.hid hF
        have HLk2 := Lib.hid hLk2
        clear hF hLk2 hrdW hcnt hLk1 hBe hLk hEr hBr hcW
        go_wp2
        go_roundw
        case rel => exact ⟨k + 1, cnt, a, c, _, _, _, _, by omega, by omega, by omega, by go_num, rfl, rfl, by rw [HLk2.out]; exact HF.out, hK, hnr⟩
        case measure => simp [intOf]; omega
    · have hall : builtL rows = Lk := by
        rw [← hLk]
        unfold builtL
        rcases (by omega : k = rows.length ∨ k = 40) with e | e
        · rw [e, List.take_of_length_le (Nat.le_refl _), List.take_of_length_le (by omega)]
        · rw [e]
      rcases (by omega : ¬ ((k : Int) < rows.length) ∨ ((k : Int) < rows.length ∧ ¬ (k : Int) < 40)) with h1 | ⟨h1, h2⟩
      all_goals
        have HF := Lib.hid hF
        have Hall := Lib.hid hall
        clear hF hall hLk hcnt hlk hEr hBr
        go_wp2
        refine bodyPost_ret (v := .tuple #[.pointer (some ⟨p, 0, none⟩), .pointer (some ⟨q, 0, none⟩), .slice a cnt c, .bool true]) (by simp [results, Tryz.results11, go_sem]) rfl ?_
        refine ⟨q, p, m, a, c, cnt, XL, d, al, ss, rfl, HKw.out.trans (hK.mono Hexx.out), ?_⟩
        rw [Hn0.out, Hsz.out, Hall.out]
        have hF := HF.out
        exact ⟨hF.log.mono (fun j hj => hj.imp (Hexx.out j) id), hF.row, hF.low, hF.map, hF.len, hF.built, hF.new⟩
end
end Go.Proofs.YtbiadclmonakkaaGreatDoor
