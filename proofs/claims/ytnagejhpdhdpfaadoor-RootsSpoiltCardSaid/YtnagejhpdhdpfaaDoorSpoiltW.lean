/-
  RootsSpoilt: the walk.
-/
import Derived.Outline
import Derived.BigQuiet
import Derived.Deep.QuietTactic
import Derived.Deep.RegionHeld3
import Derived.Deep.CutRange
import Derived.Test.YtnagejhpdhdpfaaDoorSpo1
namespace Go.Proofs.YtnagejhpdhdpfaaDoor
open Go.RowKit Go.Maps Go.MapKept

theorem row_slice' {w : World} {base : Nat} {e : TypeId} {sz n : Nat} {v : Value} {xs : List Value} (h : w.ownsRow base e sz v n xs) : ∃ a c, v = .slice a n c := by
  rcases h.2 with ⟨rfl, rfl⟩ | ⟨g, cap, cur, rfl, _⟩
  · exact ⟨none, 0, rfl⟩
  · exact ⟨_, _, rfl⟩
set_option maxRecDepth 100000 in
set_option maxHeartbeats 32000000 in
theorem spoilt_law (w : World) {v0 : Value} (l : List XRoot) (hl : RootsAt w v0 l) (one two : Int) (hone : isI64 one) (htwo : isI64 two) (gone : Bool) :
    Calls Tryd.prog 5 #[v0, .int .i64 one, .int .i64 two, .bool gone] w fun e w' => e = .returned (.bool true) ∧ Below w.heap.size w w' := by
  obtain ⟨a, c, rfl⟩ := SliceOf.shape hl
  have hcl := SliceOf.len_le hl
  simp only [maxLen] at hcl
  have Hl := Lib.hid hl
  clear hl
  obtain ⟨wg, hwg⟩ : ∃ wg, w.alloc (.cells #[.bool gone] 4) = wg := ⟨_, rfl⟩
  have hgb : wg.heap[w.heap.size]? = some (.cells #[.bool gone] 4 (0, 0)) := by rw [← hwg]; exact alloc_at _ _
  have hBg : Below w.heap.size w wg := by rw [← hwg]; exact (Below.refl _ _).alloc (Nat.le_refl _) _
  have hgs : wg.heap.size = w.heap.size + 1 := by rw [← hwg]; simp
  have Hwg := Lib.hid hwg
  clear hwg
  obtain ⟨ex0, hex0⟩ : ∃ ex : Nat → Prop, ex = fun k => k < wg.heap.size := ⟨_, rfl⟩
  have hx0 : ∀ k, ex0 k → k < wg.heap.size := fun k hk => by rw [hex0] at hk; exact hk
  have Hex0 := Lib.hid hex0
  clear hex0
  go_enter Tryd.func5, Tryd.ntmps5
  go_wp2_with fail
  rw [Hwg.out]
  refine (New_at (ex := ex0) 1048576 (by decide) (by decide) hx0).mono ?_
  generalize hp : wg.heap.size + 1 = p
  generalize hm : wg.heap.size = m
  rw [hm] at hgs
  rintro e w0 ⟨rfl, h0, kk0⟩
  have hw0 : m ≤ w0.heap.size := by rw [← hm]; exact kk0.size
  have hB0 : Below m wg w0 := kk0.below (fun k hk => by rw [Hex0.out, hm]; exact hk)
  have hg0 := (hB0.block w.heap.size (by omega)).trans hgb
  have hn0 := alloc_at w0 (.cells #[.pointer (some ⟨p, 0, none⟩)] 35)
  have hB1 : Below w0.heap.size w0 (w0.alloc (.cells #[.pointer (some ⟨p, 0, none⟩)] 35)) := (Below.refl _ _).alloc (Nat.le_refl _) _
  go_wp2_with fail
  obtain ⟨w1, hw1⟩ : ∃ w1, w0.alloc (.cells #[.pointer (some ⟨p, 0, none⟩)] 35) = w1 := ⟨_, rfl⟩
  rw [hw1] at hn0 hB1 ⊢
  obtain ⟨ex, hex⟩ : ∃ ex : Nat → Prop, ex = fun k => ex0 k ∨ k = w0.heap.size := ⟨_, rfl⟩
  have hexx : ∀ k, k < m → ex k := fun k hk => by rw [hex, Hex0.out, hm]; exact Or.inl hk
  have hexn : ex w0.heap.size := by rw [hex]; exact Or.inr rfl
  have h1 : DiskAt ex w1 p m ⟨1048576, -1, false, []⟩ := h0.more hB1 (fun k hk => by
    rw [hex] at hk
    rcases hk with hk | rfl
    · exact Or.inl hk
    · exact Or.inr ⟨Nat.le_refl _, blk_lt hn0⟩)
  have hg1 := (hB1.block w.heap.size (by omega)).trans hg0
  have hBw1 : Below w.heap.size w w1 := hBg.trans ((hB0.mono (by omega)).trans (hB1.mono (by omega)))
  have hs1 : w0.heap.size < w1.heap.size := blk_lt hn0
  have Hn0 := Lib.hid hn0
  have Hg1 := Lib.hid hg1
  have Hexx := Lib.hid hexx
  have Hexn := Lib.hid hexn
  have Hsp := Lib.hid (sp_new 1048576 (by omega))
  have h1x : ∀ j, ex j → j < w1.heap.size := fun j hj => h1.lt hj
  have H1x := Lib.hid h1x
  clear h0 kk0 hn0 hB1 hw1 hex hexx hexn hgb hBg hB0 hg0 hg1 h1x
  go_loopw [11, 12] (fun wv i wr => ∃ (k n : Nat) (L : List XRoot) (d : ADisk) (exr : Nat → Prop), L.length = n ∧ k ≤ l.length ∧ k ≤ 10 ∧ n ≤ k ∧ i = .int .i64 k ∧ DiskAt exr wr p m d ∧ Keep ex w1 wr ∧ (∀ j, ex j → exr j) ∧ SpIs d L ∧
    wr.ownsRow w1.heap.size 24 4 wv n (xsCells L) ∧ (∀ g, wv.ownBlock = some g → exr g) ∧ (∀ x ∈ L, RootOk w x)) (fun _ i _ => l.length - (intOf i).toNat)
  case atStart => exact ⟨0, 0, [], _, ex, rfl, by omega, by omega, by omega, rfl, h1, Keep.refl _ _, fun _ h => h, Hsp.out, World.ownsRow_nil _ _ _ _, fun g hg => (by cases hg), fun x hx => (by cases hx)⟩
  case round =>
    obtain ⟨k, n, L, d, exr, hn, hk, hk10, hLk, rfl, hD, hK, hxx, hS, hrow, hxr, hok⟩ := hrel
    clear h1
    have hbr : Below w.heap.size w wr := hBw1.trans (hK.below (fun j hj => Hexx.out j (by omega)))
    have hbr1 : w1.heap.size ≤ wr.heap.size := hK.size
    obtain ⟨aw, cw, rfl⟩ := row_slice' hrow
    have HK := Lib.hid hK
    have Hxx := Lib.hid hxx
    have HS := Lib.hid hS
    have Hrow := Lib.hid hrow
    have Hxr := Lib.hid hxr
    have Hok := Lib.hid hok
    have Hn := Lib.hid hn
    clear hK hxx hS hrow hxr hok hn
    by_cases hlt : k < l.length ∧ k < 10
    · obtain ⟨hlt1, hlt2⟩ := hlt
      obtain ⟨b, off, rfl, hbW, hok, c0, c1, c2_, c3⟩ := Hl.out.at hbr k hlt1
      obtain ⟨x, hx⟩ : ∃ x, l[k] = x := ⟨_, rfl⟩
      rw [hx] at hok c0 c1 c2_ c3
      obtain ⟨xs, xt, xc, xv, xb⟩ := x
      have Hokx := Lib.hid hok
      obtain ⟨hs, ht, hc, hrx, hlx⟩ := hok
      simp only at c0 c1 c2_ c3 hs ht hc hrx hlx
      obtain ⟨ax, cx, rfl⟩ := hrx.shape
      rw [bcells_length] at hrx c3
      simp only [maxLen] at hlx
      have Hrx := Lib.hid hrx
      clear hx hrx
      by_cases hbl : xb.length ≤ 100
      · have hbl' : ¬ (100 : Int) < (xb.length : Int) := by omega
        have hbd : wr.cell? ⟨w0.heap.size, 0, none⟩ = some (.pointer (some ⟨p, 0, none⟩)) := by rw [cell_at ((HK.out.block _ Hexn.out).trans Hn0.out)]; rfl
        have hbl1 : xb.length ≤ 1000 := by omega
        have hbl2 : xb.length ≤ 120 := by omega
        have hbl3 : xb.length ≤ 140737488355328 := by omega
        have hxd : exr w0.heap.size := Hxx.out _ Hexn.out
        have hxb : exr b := Hxx.out _ (Hexx.out _ (by omega))
        have hser : (readR d).serial = n := by rw [HS.out.serial, Hn.out]
        have hz3 := alloc_at wr (.cells #[.int .i64 0, .int .i64 0, .int .i64 0, .slice none 0 0] 24)
        have hB3 : Below wr.heap.size wr (wr.alloc (.cells #[.int .i64 0, .int .i64 0, .int .i64 0, .slice none 0 0] 24)).drew := ((Below.refl _ _).alloc (Nat.le_refl _) _).drew
        obtain ⟨ex2, hex2⟩ : ∃ ex2 : Nat → Prop, ex2 = fun j => exr j ∨ j = wr.heap.size := ⟨_, rfl⟩
        have hD3 : DiskAt ex2 (wr.alloc (.cells #[.int .i64 0, .int .i64 0, .int .i64 0, .slice none 0 0] 24)).drew p m d := hD.more hB3 (fun j hj => by
          rw [hex2] at hj
          rcases hj with hj | rfl
          · exact Or.inl hj
          · exact Or.inr ⟨Nat.le_refl _, blk_lt hz3⟩)
        have hX2 : ∀ j, exr j → ex2 j := fun j hj => by rw [hex2]; exact Or.inl hj
        have hXr : ex2 wr.heap.size := by rw [hex2]; exact Or.inr rfl
        have hbr3 := hbr.trans (hB3.mono hbr.size)
        have HX2 := Lib.hid hX2
        have Hz3 := Lib.hid hz3
        clear hex2 hX2 hz3
        have hdl : w0.heap.size < wr.heap.size := Nat.lt_of_lt_of_le hs1 hbr1
        have hbl4 : b < wr.heap.size := cell_lt c0
        rcases rb_write n xt xc (b := xb) hbl1 with her | her
        · have hst := sp_step HS.out (t := xt) (c := xc) (v := .slice ax xb.length cx) (b := xb) (by rw [Hn.out]; exact her) hbl2
          obtain ⟨d', hw, hS'⟩ := hst
          have HWa := Lib.hid (write_ok xs xt xc ((n : Int) + 1) _ xb hD.drew ht hc (Hrx.out.below (hbr.trans (Below.refl _ _).drew)) hbl3 hw (by rw [hser]))
          have HWb := Lib.hid (write_ok xs xt xc ((n : Int) + 1) _ xb hD3 ht hc (Hrx.out.below hbr3) hbl3 hw (by rw [hser]))
          have HS' := Lib.hid hS'
          clear hw hS' her hser
          go_upto_region 9 with fail
          go_cut [13, 14] from 32 to 63 (fun rv ev wx => ∃ rb, rv = .pointer (some ⟨rb, 0, none⟩) ∧ ev = .int .i64 0 ∧ DiskAt exr wx p m d' ∧ Keep exr wr wx ∧ wr.heap.size ≤ rb ∧ wx.heap[rb]? = some (.cells #[.int .i64 ((n : Int) + 1), .int .i64 xt, .int .i64 xc, .slice ax xb.length cx] 24 (0, 0)))
          case first =>
            go_region_held3 (fun w' => w'.cell? ⟨w0.heap.size, 0, none⟩ = some (.pointer (some ⟨p, 0, none⟩)) ∧ w'.cell? ⟨b, off + k * 4, none⟩ = some (.int .i64 xs) ∧ w'.cell? ⟨b, off + k * 4 + 1, none⟩ = some (.int .i64 xt) ∧ w'.cell? ⟨b, off + k * 4 + 2, none⟩ = some (.int .i64 xc) ∧ w'.cell? ⟨b, off + k * 4 + 3, none⟩ = some (.slice ax xb.length cx)) (first | exact ⟨hbd, c0, c1, c2_, c3⟩ | exact S4 | exact S5 | exact S6 | go_keep)
              (first
                | (go_at_call 15; refine HWa.out.mono ?_; rintro e w4 ⟨rfl, D4, K4⟩; have S4 : w4.cell? ⟨w0.heap.size, 0, none⟩ = some (.pointer (some ⟨p, 0, none⟩)) ∧ w4.cell? ⟨b, off + k * 4, none⟩ = some (.int .i64 xs) ∧ w4.cell? ⟨b, off + k * 4 + 1, none⟩ = some (.int .i64 xt) ∧ w4.cell? ⟨b, off + k * 4 + 2, none⟩ = some (.int .i64 xc) ∧ w4.cell? ⟨b, off + k * 4 + 3, none⟩ = some (.slice ax xb.length cx) := ⟨(K4.cell hxd 0).trans hbd, (K4.cell hxb _).trans c0, (K4.cell hxb _).trans c1, (K4.cell hxb _).trans c2_, (K4.cell hxb _).trans c3⟩)
                | (go_at_call 15; refine HWb.out.mono ?_; rintro e w5 ⟨rfl, D5, K5⟩; have S5 : w5.cell? ⟨w0.heap.size, 0, none⟩ = some (.pointer (some ⟨p, 0, none⟩)) ∧ w5.cell? ⟨b, off + k * 4, none⟩ = some (.int .i64 xs) ∧ w5.cell? ⟨b, off + k * 4 + 1, none⟩ = some (.int .i64 xt) ∧ w5.cell? ⟨b, off + k * 4 + 2, none⟩ = some (.int .i64 xc) ∧ w5.cell? ⟨b, off + k * 4 + 3, none⟩ = some (.slice ax xb.length cx) := ⟨(K5.cell (HX2.out _ hxd) 0).trans ((hB3.cell (p := ⟨_, _, none⟩) (cell_lt hbd)).trans hbd), (K5.cell (HX2.out _ hxb) _).trans ((hB3.cell (p := ⟨_, _, none⟩) (cell_lt c0)).trans c0), (K5.cell (HX2.out _ hxb) _).trans ((hB3.cell (p := ⟨_, _, none⟩) (cell_lt c1)).trans c1), (K5.cell (HX2.out _ hxb) _).trans ((hB3.cell (p := ⟨_, _, none⟩) (cell_lt c2_)).trans c2_), (K5.cell (HX2.out _ hxb) _).trans ((hB3.cell (p := ⟨_, _, none⟩) (cell_lt c3)).trans c3)⟩; have hz4 := (K5.block _ hXr).trans Hz3.out; obtain ⟨z0, z1, z2, z3, f0, f1, f2, f3⟩ := cellsZ hz4; have hlz := cell_lt z0; have U5 := setCell4_upd (w := w5) (b := wr.heap.size) (.int .i64 ((n : Int) + 1)) (.int .i64 xt) (.int .i64 xc) (.slice ax xb.length cx); have cU := fun (j o : Nat) (hj : j < wr.heap.size) => World.cell?_of_block (a := ⟨j, o, none⟩) (U5.block j (Nat.lt_trans hj hlz) (Nat.ne_of_lt hj)); have S6 := And.intro ((cU _ 0 hdl).trans S5.1) (And.intro ((cU _ _ hbl4).trans S5.2.1) (And.intro ((cU _ _ hbl4).trans S5.2.2.1) (And.intro ((cU _ _ hbl4).trans S5.2.2.2.1) ((cU _ _ hbl4).trans S5.2.2.2.2))))))
            · go_wp2_with fail
              go_meet
              case rel => exact ⟨_, rfl, rfl, D4.alloc _, (((Keep.refl exr wr).drew).trans K4).trans (Keep.alloc _ _ (fun k hk => D4.lt hk)), K4.size, alloc_at _ _⟩
            · go_wp2_with fail
              go_meet
              case rel => exact ⟨_, rfl, rfl, (D5.upd U5 (fun j _ hj => (by rw [hj]; exact hXr))).mono HX2.out, ((Keep.ofBelow hB3 (fun k hk => hD.lt hk)).trans (K5.mono HX2.out)).trans (Keep.ofUpd U5 (fun j hj => ⟨D5.lt (HX2.out _ hj), Nat.ne_of_lt (hD.lt hj)⟩)), Nat.le_refl _, setCell4_at hz4 (.int .i64 ((n : Int) + 1)) (.int .i64 xt) (.int .i64 xc) (.slice ax xb.length cx)⟩
          case rest =>
            obtain ⟨rb, rfl, rfl, D6, K6, hrb, hr6⟩ := hcut
            have K6' := HK.out.trans (K6.mono Hxx.out)
            have Hrow6 := Lib.hid (K6.row (ownsRow_base0 Hrow.out) Hxr.out)
            obtain ⟨av, cv, w7, hrun, hrow7, hg7, ho7⟩ := run_append_root wc (.slice aw n cw) n (xsCells L) ((n : Int) + 1) xt xc ax xb.length cx Hrow6.out (by omega)
            obtain ⟨r0, r1, r2, r3, _⟩ := rootC_at hr6
            have hltr := cell_lt r0
            have hU7 : Upd (fun g => (Value.slice aw n cw).ownBlock = some g) wc w7 := ((Upd.refl _ wc).alloc _).grown hg7 (fun g hg => Or.inl hg)
            have Hrun := Lib.hid hrun
            have Hrow7 := Lib.hid hrow7
            have Ho7 := Lib.hid ho7
            clear hrow7 hg7 ho7 hrun
            go_wp2_with (at_builtin; refine Lib.wpList_append_run _ rfl (.tmp 60) (.tmp 62) _ _ rfl _ _ rfl rfl _ _ Hrun.out ?_)
            go_roundw
            case rel =>
              have hlast : xsCells (L ++ [⟨(n : Int) + 1, xt, xc, .slice ax xb.length cx, xb⟩]) = xsCells L ++ [.int .i64 ((n : Int) + 1), .int .i64 xt, .int .i64 xc, .slice ax xb.length cx] := by unfold xsCells; rw [List.flatMap_append]; rfl
              have hbase : ∀ g, (Value.slice av (n + 1) cv).ownBlock = some g → w1.heap.size ≤ g ∧ (exr g ∨ wc.heap.size ≤ g ∧ g < w7.heap.size) := fun g hg => by
                rcases Ho7.out with h | ⟨g', h, h'⟩
                · rw [h] at hg
                  exact ⟨(Hrow.out.lt g hg).1, Or.inl (Hxr.out g hg)⟩
                · rw [h] at hg; cases hg
                  exact ⟨Nat.le_trans hbr1 (Nat.le_trans K6.size h'), Or.inr ⟨h', (Hrow7.out.lt g h).2⟩⟩
              have hoff : ∀ j, ex j → ¬ (Value.slice aw n cw).ownBlock = some j := fun j hj hg => absurd (Hrow.out.lt j hg).1 (by have := HK.out.size; have h2 := (H1x.out j hj); omega)
              refine ⟨k + 1, n + 1, L ++ [⟨(n : Int) + 1, xt, xc, .slice ax xb.length cx, xb⟩], d', fun j => exr j ∨ wc.heap.size ≤ j ∧ j < w7.heap.size, by rw [List.length_append, Hn.out]; rfl, by omega, by omega, by omega, by go_num, D6.more_upd hU7 (fun j _ hj => Hxr.out j hj) (fun j hj => hj), K6'.trans (Keep.ofUpd hU7 (fun j hj => ⟨D6.lt (Hxx.out j hj), hoff j hj⟩)), fun j hj => Or.inl (Hxx.out j hj), ?_, ?_, fun g hg => (hbase g hg).2, ?_⟩
              · have := HS'.out; rw [Hn.out] at this; exact this
              · rw [hlast]; exact ownsRow_from Hrow7.out (fun g hg => (hbase g hg).1)
              · intro y hy
                rcases List.mem_append.1 hy with hy | hy
                · exact Hok.out y hy
                · rw [List.mem_singleton.1 hy]
                  exact ⟨by unfold isI64; simp only; omega, ht, hc, Hrx.out, by simp only [maxLen]; omega⟩
            case measure => simp [intOf]; omega
        · have hw := sp_bad HS.out (t := xt) (c := xc) (b := xb) (by rw [Hn.out]; exact her)
          have HWa := Lib.hid (write_err xs xt xc _ xb 2 hD.drew ht hc (Hrx.out.below (hbr.trans (Below.refl _ _).drew)) hbl3 hw (by decide))
          have HWb := Lib.hid (write_err xs xt xc _ xb 2 hD3 ht hc (Hrx.out.below hbr3) hbl3 hw (by decide))
          clear hw her hser
          go_upto_region 9 with fail
          go_cut [13, 14] from 32 to 63 (fun rv ev wx => ∃ rb, rv = .pointer (some ⟨rb, 0, none⟩) ∧ ev = .int .i64 2 ∧ DiskAt exr wx p m d ∧ Keep exr wr wx ∧ wr.heap.size ≤ rb ∧ wx.heap[rb]? = some (.cells #[.int .i64 0, .int .i64 0, .int .i64 0, .slice none 0 0] 24 (0, 0)))
          case first =>
            go_region_held3 (fun w' => w'.cell? ⟨w0.heap.size, 0, none⟩ = some (.pointer (some ⟨p, 0, none⟩)) ∧ w'.cell? ⟨b, off + k * 4, none⟩ = some (.int .i64 xs) ∧ w'.cell? ⟨b, off + k * 4 + 1, none⟩ = some (.int .i64 xt) ∧ w'.cell? ⟨b, off + k * 4 + 2, none⟩ = some (.int .i64 xc) ∧ w'.cell? ⟨b, off + k * 4 + 3, none⟩ = some (.slice ax xb.length cx)) (first | exact ⟨hbd, c0, c1, c2_, c3⟩ | exact S4 | exact S5 | exact S6 | go_keep)
              (first
                | (go_at_call 15; refine HWa.out.mono ?_; rintro e w4 ⟨rfl, D4, K4⟩; have S4 : w4.cell? ⟨w0.heap.size, 0, none⟩ = some (.pointer (some ⟨p, 0, none⟩)) ∧ w4.cell? ⟨b, off + k * 4, none⟩ = some (.int .i64 xs) ∧ w4.cell? ⟨b, off + k * 4 + 1, none⟩ = some (.int .i64 xt) ∧ w4.cell? ⟨b, off + k * 4 + 2, none⟩ = some (.int .i64 xc) ∧ w4.cell? ⟨b, off + k * 4 + 3, none⟩ = some (.slice ax xb.length cx) := ⟨(K4.cell hxd 0).trans hbd, (K4.cell hxb _).trans c0, (K4.cell hxb _).trans c1, (K4.cell hxb _).trans c2_, (K4.cell hxb _).trans c3⟩)
                | (go_at_call 15; refine HWb.out.mono ?_; rintro e w5 ⟨rfl, D5, K5⟩; have S5 : w5.cell? ⟨w0.heap.size, 0, none⟩ = some (.pointer (some ⟨p, 0, none⟩)) ∧ w5.cell? ⟨b, off + k * 4, none⟩ = some (.int .i64 xs) ∧ w5.cell? ⟨b, off + k * 4 + 1, none⟩ = some (.int .i64 xt) ∧ w5.cell? ⟨b, off + k * 4 + 2, none⟩ = some (.int .i64 xc) ∧ w5.cell? ⟨b, off + k * 4 + 3, none⟩ = some (.slice ax xb.length cx) := ⟨(K5.cell (HX2.out _ hxd) 0).trans ((hB3.cell (p := ⟨_, _, none⟩) (cell_lt hbd)).trans hbd), (K5.cell (HX2.out _ hxb) _).trans ((hB3.cell (p := ⟨_, _, none⟩) (cell_lt c0)).trans c0), (K5.cell (HX2.out _ hxb) _).trans ((hB3.cell (p := ⟨_, _, none⟩) (cell_lt c1)).trans c1), (K5.cell (HX2.out _ hxb) _).trans ((hB3.cell (p := ⟨_, _, none⟩) (cell_lt c2_)).trans c2_), (K5.cell (HX2.out _ hxb) _).trans ((hB3.cell (p := ⟨_, _, none⟩) (cell_lt c3)).trans c3)⟩; have hz4 := (K5.block _ hXr).trans Hz3.out; obtain ⟨z0, z1, z2, z3, f0, f1, f2, f3⟩ := cellsZ hz4; have hlz := cell_lt z0; have U5 := setCell4_upd (w := w5) (b := wr.heap.size) (.int .i64 0) (.int .i64 0) (.int .i64 0) (.slice none 0 0); have cU := fun (j o : Nat) (hj : j < wr.heap.size) => World.cell?_of_block (a := ⟨j, o, none⟩) (U5.block j (Nat.lt_trans hj hlz) (Nat.ne_of_lt hj)); have S6 := And.intro ((cU _ 0 hdl).trans S5.1) (And.intro ((cU _ _ hbl4).trans S5.2.1) (And.intro ((cU _ _ hbl4).trans S5.2.2.1) (And.intro ((cU _ _ hbl4).trans S5.2.2.2.1) ((cU _ _ hbl4).trans S5.2.2.2.2))))))
            · go_wp2_with fail
              go_meet
              case rel => exact ⟨_, rfl, rfl, D4.alloc _, (((Keep.refl exr wr).drew).trans K4).trans (Keep.alloc _ _ (fun k hk => D4.lt hk)), K4.size, alloc_at _ _⟩
            · go_wp2_with fail
              go_meet
              case rel => exact ⟨_, rfl, rfl, (D5.upd U5 (fun j _ hj => (by rw [hj]; exact hXr))).mono HX2.out, ((Keep.ofBelow hB3 (fun k hk => hD.lt hk)).trans (K5.mono HX2.out)).trans (Keep.ofUpd U5 (fun j hj => ⟨D5.lt (HX2.out _ hj), Nat.ne_of_lt (hD.lt hj)⟩)), Nat.le_refl _, setCell4_at hz4 (.int .i64 0) (.int .i64 0) (.int .i64 0) (.slice none 0 0)⟩
          case rest =>
            obtain ⟨rb, rfl, rfl, D6, K6, hrb, hr6⟩ := hcut
            have K6' := HK.out.trans (K6.mono Hxx.out)
            have Hrow6 := Lib.hid (K6.row (ownsRow_base0 Hrow.out) Hxr.out)
            go_wp2
            go_roundw
            case rel => exact ⟨k + 1, n, L, d, exr, Hn.out, by omega, by omega, by omega, by go_num, D6, K6', Hxx.out, HS.out, K6.row Hrow.out Hxr.out, Hxr.out, Hok.out⟩
            case measure => simp [intOf]; omega
      · have hbl' : (100 : Int) < (xb.length : Int) := by omega
        go_wp2
        go_roundw
        case rel => exact ⟨k + 1, n, L, d, exr, Hn.out, by omega, by omega, by omega, by go_num, hD, HK.out, Hxx.out, HS.out, Hrow.out, Hxr.out, Hok.out⟩
        case measure => simp [intOf]; omega
    · have hstop : ¬ ((k : Int) < (l.length : Int)) ∨ ((k : Int) < (l.length : Int) ∧ ¬ ((k : Int) < 10)) := by omega
      have h1lt : ∀ j, ex j → j < wr.heap.size := fun j hj => hD.lt (Hxx.out j hj)
      clear hlt
      rcases Nat.lt_or_ge n 2 with hn2 | hn2
      · have hn2i : (n : Int) < 2 := by omega
        rcases hstop with h1 | ⟨h1, h2⟩
        all_goals
          go_wp2_with fail
          refine (awake6_any wr).mono ?_
          rintro e w8 ⟨rfl, hB8⟩
          go_wp2
          go_ret
          exact ⟨rfl, hbr.trans (hB8.mono hbr.size)⟩
      · obtain ⟨q, rfl⟩ : ∃ q, n = q + 2 := ⟨n - 2, by omega⟩
        obtain ⟨gw, rfl, hcw, hat⟩ := was_at Hrow.out (by omega)
        have hq1 : q + 1 < L.length := by rw [Hn.out]; omega
        have hq0 : q < L.length := by rw [Hn.out]; omega
        obtain ⟨y, hy⟩ : ∃ y, L[q + 1] = y := ⟨_, rfl⟩
        obtain ⟨z, hz⟩ : ∃ z, L[q] = z := ⟨_, rfl⟩
        have hys := (HS.out.each (q + 1) hq1)
        have hzs := (HS.out.each q hq0)
        obtain ⟨y0, y1, y2, y3⟩ := hat (q + 1) hq1
        obtain ⟨z0, z1, z2, z3⟩ := hat q hq0
        have hyok := Hok.out _ (List.getElem_mem hq1)
        have hzok := Hok.out _ (List.getElem_mem hq0)
        have hfst := fun d1 => sp_first (d1 := d1) HS.out q Hn.out
        rw [hy] at hys y0 y1 y2 y3 hyok
        rw [hz] at hzs z0 z1 z2 z3 hzok
        have Hfst : Hid (∀ d1, Spoilt d d1 (rname (q + 2)) → readR d1 = z.ar ∧ lk d1.fs (rname (q + 1)) = some ⟨sealL sumL z.ar.bytes, []⟩) := Lib.hid (fun d1 h => by have := hfst d1 h; rw [hz] at this; exact this)
        have hlst := HS.out.last (q + 1) hq1 (by rw [Hn.out]; omega)
        rw [hy] at hlst
        have Hlst := Lib.hid hlst
        have Hye := Lib.hid hys
        have Hze := Lib.hid hzs
        have Hyok := Lib.hid hyok
        have Hzok := Lib.hid hzok
        obtain ⟨ay, ny, cy, hyv⟩ : ∃ a n c, y.vb = .slice a n c := ⟨_, _, _, hyok.rb.shape.choose_spec.choose_spec⟩
        obtain ⟨az, nz, cz, hzv⟩ : ∃ a n c, z.vb = .slice a n c := ⟨_, _, _, hzok.rb.shape.choose_spec.choose_spec⟩
        rw [hyv] at y3
        rw [hzv] at z3
        rw [Hye.out.1] at y0
        rw [Hze.out.1] at z0
        have Hyv := Lib.hid hyv
        have Hzv := Lib.hid hzv
        have hltg := cell_lt y0
        have hgg : w1.heap.size ≤ gw := (Hrow.out.lt gw rfl).1
        clear hat hys hzs hyok hzok hfst hlst hy hz hyv hzv
        rcases hstop with h1 | ⟨h1, h2⟩
        all_goals
          go_upto_region 14 with fail
          go_cut [15, 16] from 68 to 79 (fun nv av wx => ∃ bn ba, nv = .pointer (some ⟨bn, 0, none⟩) ∧ av = .pointer (some ⟨ba, 0, none⟩) ∧ Below wr.heap.size wr wx ∧ wr.heap.size ≤ bn ∧ wr.heap.size ≤ ba ∧ wx.heap[bn]? = some (.cells #[.int .i64 ((q + 1 + 1 : Nat) : Int), .int .i64 y.t, .int .i64 y.c, .slice ay ny cy] 24 (0, 0)) ∧ wx.heap[ba]? = some (.cells #[.int .i64 ((q + 1 : Nat) : Int), .int .i64 z.t, .int .i64 z.c, .slice az nz cz] 24 (0, 0)))
          case first =>
            go_region
            · go_wp2_with fail
              go_meet
              case rel => exact ⟨_, _, rfl, rfl, ((((Below.refl _ _).alloc (Nat.le_refl _) _).alloc (by rw [World.size_alloc]; omega) _).drew), Nat.le_refl _, by omega, alloc_old (alloc_at _ _) _, (by have := alloc_at (wr.alloc (.cells #[.int .i64 ((q : Int) + 1 + 1), .int .i64 y.t, .int .i64 y.c, .slice ay ny cy] 24)) (.cells #[.int .i64 ((q : Int) + 1), .int .i64 z.t, .int .i64 z.c, .slice az nz cz] 24); rw [World.size_alloc] at this; exact this)⟩
            · go_wp2_with fail
              go_meet
              case rel => exact ⟨_, _, rfl, rfl, ((((Below.refl _ _).alloc (Nat.le_refl _) _).alloc (by rw [World.size_alloc]; omega) _).drew), by omega, Nat.le_refl _, (by have := alloc_at (wr.alloc (.cells #[.int .i64 ((q : Int) + 1), .int .i64 z.t, .int .i64 z.c, .slice az nz cz] 24)) (.cells #[.int .i64 ((q : Int) + 1 + 1), .int .i64 y.t, .int .i64 y.c, .slice ay ny cy] 24); rw [World.size_alloc] at this; exact this), alloc_old (alloc_at _ _) _⟩
          case rest =>
            obtain ⟨bn, ba, rfl, rfl, hB9, hbn, hba, hrn, hra⟩ := hcut
            clear y0 y1 y2 y3 z0 z1 z2 z3
            obtain ⟨ex9, hex9⟩ : ∃ ex9 : Nat → Prop, ex9 = fun j => exr j ∨ (wr.heap.size ≤ j ∧ j < wc.heap.size) := ⟨_, rfl⟩
            have D9 : DiskAt ex9 wc p m d := hD.more hB9 (fun j hj => by rw [hex9] at hj; exact hj)
            have HX9 := Lib.hid (show ∀ j, exr j → ex9 j from fun j hj => by rw [hex9]; exact Or.inl hj)
            have Hn9 := Lib.hid (show ex9 bn by rw [hex9]; exact Or.inr ⟨hbn, blk_lt hrn⟩)
            have Ha9 := Lib.hid (show ex9 ba by rw [hex9]; exact Or.inr ⟨hba, blk_lt hra⟩)
            have hK9 := HK.out.trans (Keep.ofBelow hB9 (fun j hj => h1lt j hj))
            have Hbd9 := Lib.hid ((hK9.block _ Hexn.out).trans Hn0.out)
            have Hbg9 := Lib.hid ((hK9.block _ (Hexx.out w.heap.size (by omega))).trans Hg1.out)
            have hbr9 := hbr.trans (hB9.mono hbr.size)
            have Hra := Lib.hid hra
            obtain ⟨n0, n1, n2, n3, _⟩ := rootC_at hrn
            obtain ⟨a0, a1, a2, a3, _⟩ := rootC_at hra
            have hltn := blk_lt hrn
            have hlta := blk_lt hra
            have hqs : q + 2 ≤ 9007199254740992 := by have h1 := (readR_le d).1; rw [HS.out.serial, Hn.out] at h1; exact h1
            clear hex9 hrn hra hK9
            go_wp2_with fail
            refine (spoil_by w.heap.size w0.heap.size (q + 2) _ one gone y.ar D9 (by rw [cell_at Hbg9.out]; rfl) (by rw [cell_at Hbd9.out]; rfl) hqs hone (HX9.out _ (Hxx.out _ Hexn.out)) (by omega) HS.out.up HS.out.left (rb_ok Hye.out.2) Hlst.out).mono ?_
            rintro e w10 ⟨d10, rfl, hs10, D10, K10⟩
            obtain ⟨hR10, hf10⟩ := Hfst.out d10 hs10
            have hup10 := hs10.up
            have hl10 := hs10.left
            have Hs10 := Lib.hid hs10
            have Hf10 := Lib.hid hf10
            have hzser : z.ar.serial = q + 1 := by unfold XRoot.ar; rw [Hze.out.1]; simp [aroot]
            obtain ⟨Z, hZ⟩ : ∃ Z, z.ar = Z := ⟨_, rfl⟩
            have hk4 := back4 Hze.out.2
            have hzok2 : z.ar.Ok := rb_ok Hze.out.2
            rw [show aroot z.s z.t z.c z.b = Z from hZ, Hze.out.1] at hk4
            rw [hZ] at hR10 hzser hzok2
            have Hk4 := Lib.hid hk4
            have Hzok2 := Lib.hid hzok2
            have Hbd10 := Lib.hid ((K10.block _ (HX9.out _ (Hxx.out _ Hexn.out))).trans Hbd9.out)
            have Hbg10 := Lib.hid ((K10.block _ (HX9.out _ (Hxx.out w.heap.size (Hexx.out w.heap.size (by omega))))).trans Hbg9.out)
            have Hra10 := Lib.hid ((K10.block _ Ha9.out).trans Hra.out)
            have hbr10 := hbr9.trans (K10.below (fun j hj => HX9.out _ (Hxx.out _ (Hexx.out j (by omega)))))
            have hd10 : w10.cell? ⟨w0.heap.size, 0, none⟩ = some (.pointer (some ⟨p, 0, none⟩)) := by rw [cell_at Hbd10.out]; rfl
            have hltd := cell_lt hd10
            have hposZ : decide (0 < Z.serial) = true := by simp; omega
            clear hs10 hf10 hk4 hzok2 hzser n0 n1 n2 n3 a0 a1 a2 a3 hltn hlta D9 K10
            go_wp2_with fail
            refine (read_by Z 0 D10 hR10 (by unfold readE; rw [if_neg (by simp [hup10])])).mono ?_
            rw [hposZ]
            rintro e w11 ⟨a11, c11, rfl, hR11, hB11⟩
            have hx11 := alloc_at w11 (.cells #[.int .i64 Z.serial, .int .i64 Z.tick, .int .i64 Z.commit, .slice a11 Z.blob.length c11] 24)
            have hB12 := hB11.alloc hB11.size (.cells #[.int .i64 Z.serial, .int .i64 Z.tick, .int .i64 Z.commit, .slice a11 Z.blob.length c11] 24)
            have hB1112 : Below w11.heap.size w11 _ := (Below.refl w11.heap.size w11).alloc (Nat.le_refl _) (.cells #[.int .i64 Z.serial, .int .i64 Z.tick, .int .i64 Z.commit, .slice a11 Z.blob.length c11] 24)
            have Hra11 := Lib.hid ((hB11.block _ (blk_lt Hra10.out)).trans Hra10.out)
            obtain ⟨a0, a1, a2, a3, _⟩ := rootC_at Hra11.out
            have hlta := cell_lt a0
            have hw1011 := hB11.size
            have HR11 := Lib.hid hR11
            clear hR11
            go_wp2_with fail
            obtain ⟨w12, hw12⟩ : ∃ w12, w11.alloc (.cells #[.int .i64 Z.serial, .int .i64 Z.tick, .int .i64 Z.commit, .slice a11 Z.blob.length c11] 24) = w12 := ⟨_, rfl⟩
            rw [hw12] at hB12 hB1112 hx11 ⊢
            obtain ⟨exd, hexd⟩ : ∃ exd : Nat → Prop, exd = fun j => ex9 j ∨ (w10.heap.size ≤ j ∧ j < w12.heap.size) := ⟨_, rfl⟩
            have D12 : DiskAt exd w12 p m d10 := D10.more hB12 (fun j hj => by rw [hexd] at hj; exact hj)
            have HXd := Lib.hid (show ∀ j, ex9 j → exd j from fun j hj => by rw [hexd]; exact Or.inl hj)
            have hxX : exd w11.heap.size := by rw [hexd]; exact Or.inr ⟨hB11.size, blk_lt hx11⟩
            have Hrow12 := Lib.hid ((Upd.ofBelow (fp := noFp) hB1112).row HR11.out (fun _ _ h => h))
            have hxR : ∀ g, (Value.slice a11 Z.blob.length c11).ownBlock = some g → exd g := fun g hg => by rw [hexd]; exact Or.inr ⟨row_from Hrow12.out hg, row_lt Hrow12.out hg⟩
            have HxR := Lib.hid hxR
            have HxX := Lib.hid hxX
            have Hx12 := Lib.hid hx11
            have Hbd12 := Lib.hid ((hB12.block _ (blk_lt Hbd10.out)).trans Hbd10.out)
            have Hbg12 := Lib.hid ((hB12.block _ (blk_lt Hbg10.out)).trans Hbg10.out)
            have Hra12 := Lib.hid ((hB12.block _ (blk_lt Hra10.out)).trans Hra10.out)
            have hbr12 := hbr10.trans (hB12.mono hbr10.size)
            clear hB11 hB12 hB1112 hx11 hxX hxR hexd hw12 a0 a1 a2 a3 hlta D10 HR11 hd10 hltd
            refine (spoil_by w.heap.size w0.heap.size (q + 1) _ two gone Z D12 (by rw [cell_at Hbg12.out]; rfl) (by rw [cell_at Hbd12.out]; rfl) (by omega) htwo (HXd.out _ (HX9.out _ (Hxx.out _ Hexn.out))) (by omega) hup10 hl10 Hzok2.out (by rw [← hZ]; exact Hf10.out)).mono ?_
            rintro e w14 ⟨d14, rfl, hs14, D14, K14⟩
            have hup14 := hs14.up
            have hR14 := sp_second q Hs10.out hs14
            have Hbd14 := Lib.hid ((K14.block _ (HXd.out _ (HX9.out _ (Hxx.out _ Hexn.out)))).trans Hbd12.out)
            have Hra14 := Lib.hid ((K14.block _ (HXd.out _ Ha9.out)).trans Hra12.out)
            have Hx14 := Lib.hid ((K14.block _ HxX.out).trans Hx12.out)
            have Hrow14 := Lib.hid (K14.row Hrow12.out HxR.out)
            have hbr14 := hbr12.trans (K14.below (fun j hj => HXd.out _ (HX9.out _ (Hxx.out _ (Hexx.out j (by omega))))))
            have hd14 : w14.cell? ⟨w0.heap.size, 0, none⟩ = some (.pointer (some ⟨p, 0, none⟩)) := by rw [cell_at Hbd14.out]; rfl
            have hltd := cell_lt hd14
            clear K14 D12 hs14
            go_wp2_with fail
            refine (read_zero D14 hup14 hR14).mono ?_
            rintro e w15 ⟨a15, c15, rfl, hR15, hB15⟩
            have hB16 := hB15.alloc hB15.size (.cells #[.int .i64 0, .int .i64 0, .int .i64 0, .slice a15 0 c15] 24)
            have Hra15 := Lib.hid ((hB15.block _ (blk_lt Hra14.out)).trans Hra14.out)
            have Hx15 := Lib.hid ((hB15.block _ (blk_lt Hx14.out)).trans Hx14.out)
            obtain ⟨a0, a1, a2, a3, _⟩ := rootC_at Hra15.out
            obtain ⟨x0, x1, x2, x3, _⟩ := rootC_at Hx15.out
            have hlta := cell_lt a0
            have hltx := cell_lt x0
            have HR15 := Lib.hid hR15
            clear hR15
            go_wp2_with fail
            have hy16 := alloc_at w15 (.cells #[.int .i64 0, .int .i64 0, .int .i64 0, .slice a15 0 c15] 24)
            have hB1516 : Below w15.heap.size w15 _ := (Below.refl w15.heap.size w15).alloc (Nat.le_refl _) (.cells #[.int .i64 0, .int .i64 0, .int .i64 0, .slice a15 0 c15] 24)
            obtain ⟨w16, hw16⟩ : ∃ w16, w15.alloc (.cells #[.int .i64 0, .int .i64 0, .int .i64 0, .slice a15 0 c15] 24) = w16 := ⟨_, rfl⟩
            rw [hw16] at hy16 hB16 hB1516 ⊢
            have hbr16 := hbr14.trans (hB16.mono hbr14.size)
            have hrow16 := (Upd.ofBelow (fp := noFp) hB16).row Hrow14.out (fun _ _ h => h)
            have Hrz := Lib.hid ((HR15.out).below hB1516)
            have Hy16 := Lib.hid hy16
            have hvz : Rd w16 (.slice az nz cz) (bcells z.b) := by have := Hzok.out.rb.below hbr16; rw [Hzv.out] at this; exact this
            clear hw16 hy16 hB1516 a0 a1 a2 a3 x0 x1 x2 x3 hlta hltx hB15
            refine (sameR_any _ Z.serial Z.tick Z.commit ((q : Int) + 1) z.t z.c _ _ Z.blob z.b (Rd.ofOwns hrow16) hvz).mono ?_
            rw [show sameR Z.serial Z.tick Z.commit Z.blob ((q : Int) + 1) z.t z.c z.b = true from Hk4.out]
            rintro e w17 ⟨rfl, hB17⟩
            obtain ⟨y0, y1, y2, y3, _⟩ := rootC_at ((hB17.block _ (blk_lt Hy16.out)).trans Hy16.out)
            have hlty := cell_lt y0
            have hbr17 := hbr16.trans (hB17.mono hbr16.size)
            have Hrz17 := Lib.hid (Hrz.out.below hB17)
            clear hrow16 hvz hB17
            go_wp2_with fail
            refine (sameR_any _ 0 0 0 0 0 0 _ _ [] [] Hrz17.out (Or.inl ⟨Or.inl rfl, rfl⟩)).mono ?_
            rw [sameR_refl]
            rintro e w18 ⟨rfl, hB18⟩
            have hbr18 := hbr17.trans (hB18.mono hbr17.size)
            go_wp2_with fail
            refine (awake6_any w18).mono ?_
            rintro e w19 ⟨rfl, hB19⟩
            go_wp2
            go_ret
            exact ⟨rfl, hbr18.trans (hB19.mono hbr18.size)⟩
end Go.Proofs.YtnagejhpdhdpfaaDoor
