/-
  Open of nothing upon a disk without files; Free.
-/
import Derived.Test.YtbepcjajbcecnaaGreatDoorMPmC
import Derived.Outline
import Derived.Lib.SlBytesConst
namespace Go.Proofs.YtbepcjajbcecnaaGreatDoor
open Go.RowKit Go.Maps Go.MapKept
set_option linter.unusedSimpArgs false

section
variable {ex : Nat → Prop} {w : World} {q p m : Nat} {d : ADisk} {st : AStore}
set_option maxRecDepth 100000 in
set_option maxHeartbeats 2000000 in
theorem pgload0_at (h : DiskAt ex w p m d) (hE : WEnv w) (hd : d.down = false) (hfs : d.fs = []) :
    Calls Tryz.prog 60 #[.pointer (some ⟨p, 0, none⟩), .int .i64 0] w fun e w' => ∃ mk, e = .returned (.tuple #[.map (some mk), .int .i64 0]) ∧ (w.heap.size ≤ mk ∧ mk < w'.heap.size) ∧ MapIs Tryz.prog 9 w' mk 0 (fun _ => none) ∧ Below w.heap.size w w' := by
  have hB0 : Below w.heap.size w (w.alloc (.map #[] 0)) := (Below.refl _ _).alloc (Nat.le_refl _) _
  have hF := pgfile_any (w.alloc (.map #[] 0)) 105 0 (by decide) (hE.below hB0)
  rw [show (((0 : Nat) : Int)) = 0 from rfl] at hF
  obtain ⟨s, hs⟩ : ∃ s, pgName 105 0 = s := ⟨_, rfl⟩
  have hsz : s.size ≤ 17 := by rw [← hs]; exact pgName_size (by decide)
  rw [hs] at hF
  have hfe : findErr d s = 13 := by unfold findErr; rw [hfs]; simp [hd, lk]
  have hrb : d.readBytes s = [] := by unfold ADisk.readBytes; rw [hfe]; rfl
  have hR := fun w2 (hB : Below w.heap.size w w2) => Read_at s (h.below hB) (by simp only [maxLen]; omega)
  rw [hfe, hrb] at hR
  have hM := MapIs.made Tryz.prog 9 w
  have hmm := @run_makeMap Tryz.prog
  have HF := Lib.hid hF
  have HR := Lib.hid hR
  have HM := Lib.hid hM
  clear hF hR hM hrb hfe hs hfs
  go_enter Tryz.func60, Tryz.ntmps60
  go_wp2_with first
    | (go_at_call 52; refine HF.out.mono ?_; rintro e w2 ⟨rfl, hB2⟩)
    | (go_at_call 26; refine (HR.out w2 (hB0.trans (hB2.mono hB0.size))).mono ?_; rintro e w3 ⟨a, c, rfl, hrow, hB3⟩; have Hrow := Lib.hid hrow; clear hrow)
  go_ret2
  have hs1 : (w.alloc (.map #[] 0)).heap.size = w.heap.size + 1 := by simp
  have h12 : Below w.heap.size w w2 := hB0.trans (hB2.mono hB0.size)
  have hs2 := hB2.size
  have hs3 := hB3.size
  exact ⟨w.heap.size, rfl, ⟨Nat.le_refl _, by omega⟩, (HM.out.upd (Upd.ofBelow (fp := noFp) hB2) (fun h => h)).upd (Upd.ofBelow (fp := noFp) hB3) (fun h => h), h12.trans (hB3.mono h12.size)⟩
theorem pFree_nil {d : ADisk} (hfs : d.fs = []) (k : Nat) (held : List Nat) : pFree d k held = (d, [], 0) := by unfold pFree ADisk.names; rw [hfs]; rfl
theorem keys_nil {w : World} {mk : Nat} (S : Nat → Prop) (h : MapIs Tryz.prog 9 w mk 0 (fun _ => none)) : KeysAt w mk S (fun _ => none) [] := ⟨h, fun _ _ hg => (by cases hg), fun _ _ hx => (by cases hx)⟩
set_option maxRecDepth 100000 in
set_option maxHeartbeats 4000000 in
theorem pgOpen0_at (h : DiskAt ex w p m d) (hE : WEnv w) (hG : GlIn ex) (hd : d.down = false) (hfs : d.fs = []) :
    Calls Tryz.prog 16 #[.pointer (some ⟨p, 0, none⟩), .int .i64 0] w fun e w' => ∃ q, e = .returned (.tuple #[.pointer (some ⟨q, 0, none⟩), .int .i64 0]) ∧ StoreAt ex w' q p m d ⟨0, [], [], false⟩ ∧ Keep ex w w' ∧ w.heap.size ≤ q := by
  have hL := pgload0_at h hE hd hfs
  have hlt : ∀ k, ex k → k < w.heap.size := fun k hk => h.lt hk
  have HL := Lib.hid hL
  have H := Lib.hid h
  have HEn := Lib.hid hE
  clear hL h hE
  go_enter Tryz.func16, Tryz.ntmps16
  go_upto_region 7 with first
    | (go_at_call 60; refine HL.out.mono ?_; rintro e w1 ⟨mk, rfl, hmk, hM, hB1⟩; have HM := Lib.hid hM; clear hM)
  have hb2 := alloc_at w1 (.cells #[.pointer (some ⟨p, 0, none⟩), .int .i64 0, .map (some mk), .map none, .bool false] 59)
  have hB2 : Below w1.heap.size w1 (w1.alloc (.cells #[.pointer (some ⟨p, 0, none⟩), .int .i64 0, .map (some mk), .map none, .bool false] 59)) := (Below.refl _ _).alloc (Nat.le_refl _) _
  have hs2 : (w1.alloc (.cells #[.pointer (some ⟨p, 0, none⟩), .int .i64 0, .map (some mk), .map none, .bool false] 59)).heap.size = w1.heap.size + 1 := by simp
  obtain ⟨q, hq⟩ : ∃ q, w1.heap.size = q := ⟨_, rfl⟩
  obtain ⟨w2, hw2⟩ : ∃ x, w1.alloc (.cells #[.pointer (some ⟨p, 0, none⟩), .int .i64 0, .map (some mk), .map none, .bool false] 59) = x := ⟨_, rfl⟩
  rw [hw2] at hb2 hB2 hs2 ⊢
  rw [hq] at hb2 hs2 ⊢
  have hk2 : KeysAt w2 mk (fun _ => False) (fun _ => none) [] := keys_nil _ (HM.out.upd (Upd.ofBelow (fp := noFp) hB2) (fun h => h))
  have hP := pgpacks_any w2 q mk (fun _ => False) (fun _ => none) [] (cells5 hb2).2.2.1 hk2 List.Pairwise.nil (fun p hp => (by cases hp)) (by simp)
  obtain ⟨c0, c1, c2, c3, c4, z1, z2, z3, z4⟩ := cells5 hb2
  have hw1 := hB1.size
  have hnew : ∀ (w3 : World) (mh : Nat), w2.heap.size ≤ mh → mh < w3.heap.size → HeldAt w3 mh (packsOf []) → Below w2.heap.size w2 w3 → StoreAt ex (w3.setCell ⟨q, 3, none⟩ (.map (some mh))) q p m d ⟨0, [], [], false⟩ ∧ Keep ex w (w3.setCell ⟨q, 3, none⟩ (.map (some mh))) ∧ w3.cell? ⟨q, 3, none⟩ = some (.map none) ∧ w3.frozen? ⟨q, 3, none⟩ = false := by
    intro w3 mh h1 h2 hH hB3
    have hb3 := (hB3.block q (blk_lt hb2)).trans hb2
    have hb4 := setCell_at hb3 3 (.map (some mh))
    have hU : Upd (· = q) w3 (w3.setCell ⟨q, 3, none⟩ (.map (some mh))) := setCell_upd 3 _
    have hBw3 : Below w.heap.size w w3 := (hB1.trans (hB2.mono hw1)).trans (hB3.mono (by omega))
    have hDx : DiskAt (fun k => ex k ∨ k = q ∨ k = mk ∨ k = mh ∨ False) w3 p m d := H.out.more hBw3 (fun k hk => by
      rcases hk with hk | hk | hk | hk | hk
      · exact Or.inl hk
      · exact Or.inr ⟨by omega, by have := hB3.size; omega⟩
      · exact Or.inr ⟨by omega, by have := hB3.size; omega⟩
      · exact Or.inr ⟨by omega, by omega⟩
      · exact hk.elim)
    refine ⟨⟨mk, mh, fun _ => False, fun _ => none, ⟨hb4, (hk2.upd (Upd.ofBelow (fp := noFp) hB3) (fun h => h) (fun _ _ h => h)).upd hU (fun e => by omega) (fun _ h _ => h), hH.upd hU (fun e => by omega), hDx.upd hU (fun k _ hk => Or.inr (Or.inl hk)), ⟨fun e => by have := hlt _ e; omega, fun e => by have := hlt _ e; omega, fun e => by have := hlt _ e; omega⟩, fun _ h => h.elim, ⟨by omega, by omega, by omega⟩⟩⟩, (Keep.ofBelow hBw3 hlt).trans (Keep.ofUpd hU (fun k hk => ⟨by have := hlt k hk; have := hB3.size; omega, fun e => by have := hlt k hk; omega⟩)), (cells5 hb3).2.2.2.1, (cells5 hb3).2.2.2.2.2.2.2.1⟩
  have HP := Lib.hid hP
  have HN := Lib.hid hnew
  have hqw : w.heap.size ≤ q := by omega
  clear hP hnew hb2 hB2 hs2 hk2 hw2 hq HM
  go_wp2_with first
    | (go_at_call 48; refine HP.out.mono ?_; rintro e w3 ⟨mh, rfl, hmh1, hmh2, hH, hB3⟩; obtain ⟨n1, n2, n3, n4⟩ := HN.out w3 mh hmh1 hmh2 hH hB3; have hfr := pgfree_at n1 (HEn.out.keep n2 hG) hG; rw [pFree_nil hfs] at hfr; have Hfr := Lib.hid (And.intro hfr n2); clear hfr n1 n2 hH hB3)
    | (go_at_call 61; refine Hfr.out.1.mono ?_; rintro e w5 ⟨a, c, rfl, hrow, hS, hK⟩; have HS := Lib.hid (And.intro hS hK); clear hS hK hrow)
  go_ret2
  exact ⟨q, rfl, HS.out.1.mono (fun k hk => Or.inl hk), Hfr.out.2.trans HS.out.2, hqw⟩
def FreeCPost (ex : Nat → Prop) (w : World) (q p m : Nat) (t : ADisk × AStore × List ByteArray × Int) (e : Ending) (w' : World) : Prop :=
  ∃ a c, e = .returned (.tuple #[.slice a t.2.2.1.length c, .int .i64 t.2.2.2]) ∧ w'.ownsRow w.heap.size 9 1 (.slice a t.2.2.1.length c) t.2.2.1.length (sCells t.2.2.1) ∧ StoreAt (fun j => ex j ∨ (Value.slice a t.2.2.1.length c).ownBlock = some j) w' q p m t.1 t.2.1 ∧ Keep ex w w'
set_option maxRecDepth 100000 in
set_option maxHeartbeats 2000000 in
theorem pgFree_at (h : StoreAt ex w q p m d st) (hE : WEnv w) (hG : GlIn ex) :
    Calls Tryz.prog 19 #[.pointer (some ⟨q, 0, none⟩)] w (FreeCPost ex w q p m (pFreeC d st)) := by
  have hup := pgup_at h
  cases ho : st.over with
  | true =>
    have hP : pFreeC d st = (d, st, [], 16) := by unfold pFreeC; rw [if_pos ho]
    rw [hP]
    rw [ho] at hup
    have HU := Lib.hid hup
    have HS := Lib.hid h
    clear hup hP h ho
    go_enter Tryz.func19, Tryz.ntmps19
    go_wp2_with (go_at_call 47; refine HU.out.mono ?_; rintro e w1 ⟨rfl, rfl⟩)
    go_ret2
    exact ⟨none, 0, rfl, World.ownsRow_nil _ _ _ _, HS.out.mono (fun k hk => hk.elim id (fun e => (by cases e))), Keep.refl _ _⟩
  | false =>
    have hP : pFreeC d st = ((pFree d st.k st.held).1, st.ends (pFree d st.k st.held).2.2, (pFree d st.k st.held).2.1, (pFree d st.k st.held).2.2) := by unfold pFreeC; rw [if_neg (by simp [ho])]
    rw [hP]
    rw [ho] at hup
    have hfr := pgfree_at h hE hG
    obtain ⟨t, ht⟩ : ∃ t, pFree d st.k st.held = t := ⟨_, rfl⟩
    rw [ht] at hfr ⊢
    obtain ⟨dd, out, er⟩ := t
    have HU := Lib.hid hup
    have HF := Lib.hid hfr
    clear hup hP h ho hfr ht
    go_enter Tryz.func19, Tryz.ntmps19
    go_wp2_with first
      | (go_at_call 47; refine HU.out.mono ?_; rintro e w1 ⟨rfl, rfl⟩)
      | (go_at_call 61; refine HF.out.mono ?_; rintro e w2 ⟨a, c, rfl, hrow, hS, hK⟩; have H2 := Lib.hid (And.intro hrow (And.intro hS hK)); clear hrow hS hK)
      | (go_at_call 57; refine (pgends_at er H2.out.2.1).mono ?_; rintro e w3 ⟨rfl, hS3, hK3⟩; have H3 := Lib.hid (And.intro hS3 hK3); clear hS3 hK3)
    go_ret2
    exact ⟨a, c, rfl, H3.out.2.row H2.out.1 (fun b hb => Or.inr hb), H3.out.1, H2.out.2.2.trans (H3.out.2.mono (fun k hk => Or.inl hk))⟩
end
end Go.Proofs.YtbepcjajbcecnaaGreatDoor

/-
  The chapter's helpers: holds, commits; the walk of awake (chapter 05).
-/
namespace Go.Proofs.YtbepcjajbcecnaaGreatDoor
open Go.RowKit Go.Maps Go.MapKept
set_option linter.unusedSimpArgs false

section
variable {ex : Nat → Prop} {w : World} {q p m : Nat} {d : ADisk} {st : AStore}
set_option maxRecDepth 100000 in
set_option maxHeartbeats 2000000 in
theorem holds5_yes (s want : ByteArray) (h : StoreAt ex w q p m d st) (hs : s.size ≤ maxLen) (x : ABlob) (hx : kB st.keys s = some x) (hw : x.b = want.data.toList) (hl : x.b.length ≤ 1048576) :
    Calls Tryz.prog 42 #[.pointer (some ⟨q, 0, none⟩), .string s, .string want] w fun e w' => e = .returned (.bool true) ∧ Below w.heap.size w w' := by
  have hg : st.got s = x.b := by unfold AStore.got; rw [hx]; rfl
  have hG := pgGet_at h s hs (by rw [hg]; exact hl)
  rw [hg, hx, hw, show (some x : Option ABlob).isSome = true from rfl] at hG
  have HG := Lib.hid hG
  have he := strEq want want
  rw [decide_eq_true rfl] at he
  have hwd : (⟨want.data.toList.toArray⟩ : ByteArray) = want := name_back want
  clear hG hg hx hw h
  go_enter Tryz.func42, Tryz.ntmps42
  go_wp2_with (go_at_call 28; refine HG.out.mono ?_; rintro e w1 ⟨a, c, rfl, hrow, hB⟩; have hcv := run_bytes_str (P := Tryz.prog) (Rd.ofOwns hrow) Tryz.underlying25 Tryz.underlying5 Tryz.underlying9; rw [hwd, size_list] at hcv; have HB := Lib.hid hB; clear hrow hB)
  go_ret
  exact ⟨rfl, HB.out⟩
set_option maxRecDepth 100000 in
set_option maxHeartbeats 2000000 in
theorem commits5_yes {d' : ADisk} {st' : AStore} (n : Nat) (vf : Value) (files : List ByteArray) (h : StoreAt ex w q p m d st) (hok : st.Ok) (hE : WEnv w) (hG : GlIn ex) (hc : pCommit d st = (d', st', n, 0)) (hk : st'.k = n) (hn : d'.names = files) (hv : Rd w vf (sCells files)) (ho : ∀ g, vf.ownBlock = some g → ex g) (hl : files.length ≤ 1000) :
    Calls Tryz.prog 62 #[.pointer (some ⟨p, 0, none⟩), .pointer (some ⟨q, 0, none⟩), .int .i64 n, vf] w fun e w' => e = .returned (.bool true) ∧ StoreAt ex w' q p m d' st' ∧ Keep ex w w' := by
  have hC := pgCommit_at h hok hE hG
  rw [hc] at hC
  have HC := Lib.hid hC
  have Hv := Lib.hid hv
  have Hn := Lib.hid hn
  have Hk := Lib.hid hk
  clear hC h hc hv hn hk
  go_enter Tryz.func62, Tryz.ntmps62
  go_wp2_with first
    | (go_at_call 14; refine HC.out.mono ?_; rintro e w1 ⟨rfl, hS1, hK1⟩; have HS := Lib.hid (And.intro hS1 hK1); clear hS1 hK1)
    | (go_at_call 17; refine (pgNumber_at HS.out.1).mono ?_; rw [Hk.out]; rintro e w2 ⟨rfl, rfl⟩)
    | (go_at_call 15; refine (List_at HS.out.1.disk).mono ?_; rw [Hn.out]; rintro e w3 ⟨a, c, rfl, hrow, _, hB⟩; have HR := Lib.hid (And.intro hrow hB); clear hrow hB)
    | (go_at_call 25; refine (SameTexts_any _ _ _ files files (Rd.ofOwns HR.out.1) (((HS.out.2.rd Hv.out ho)).below HR.out.2) (by simp only [maxLen]; omega) (by simp only [maxLen]; omega)).mono ?_; rw [decide_eq_true rfl]; rintro e w4 ⟨rfl, hB4⟩; have HB4 := Lib.hid hB4; clear hB4)
  go_ret
  have hB : Below w1.heap.size w1 w4 := HR.out.2.trans (HB4.out.mono HR.out.2.size)
  exact ⟨rfl, HS.out.1.below hB, HS.out.2.trans (Keep.ofBelow hB (fun k hk => HS.out.1.lt hk))⟩
theorem put_by {st' : AStore} {s : ByteArray} {vb : Value} {b : List UInt8} (er : Int) (h : StoreAt ex w q p m d st) (hok : st.Ok) (hs : s.size ≤ maxLen) (hr : Rd w vb (bcells b)) (hb : b.length ≤ 140737488355328) (hp : pPut st s b = (st', er)) :
    Calls Tryz.prog 23 #[.pointer (some ⟨q, 0, none⟩), .string s, vb] w fun e w' => e = .returned (.int .i64 er) ∧ StoreAt ex w' q p m d st' ∧ Keep ex w w' := by
  have := pgPut_at h hok s hs vb b hr hb
  rw [hp] at this
  exact this
theorem drop_by {st' : AStore} {s : ByteArray} (er : Int) (h : StoreAt ex w q p m d st) (hok : st.Ok) (hs : s.size ≤ maxLen) (hp : pDrop st s = (st', er)) :
    Calls Tryz.prog 29 #[.pointer (some ⟨q, 0, none⟩), .string s] w fun e w' => e = .returned (.int .i64 er) ∧ StoreAt ex w' q p m d st' ∧ Keep ex w w' := by
  have := pgDrop_at h hok s hs
  rw [hp] at this
  exact this
theorem free_by {d' : ADisk} {st' : AStore} {ns : List ByteArray} (er : Int) (h : StoreAt ex w q p m d st) (hE : WEnv w) (hG : GlIn ex) (hp : pFreeC d st = (d', st', ns, er)) :
    Calls Tryz.prog 19 #[.pointer (some ⟨q, 0, none⟩)] w fun e w' => ∃ a c, e = .returned (.tuple #[.slice a ns.length c, .int .i64 er]) ∧ w'.ownsRow w.heap.size 9 1 (.slice a ns.length c) ns.length (sCells ns) ∧ StoreAt (fun j => ex j ∨ (Value.slice a ns.length c).ownBlock = some j) w' q p m d' st' ∧ Keep ex w w' := by
  have := pgFree_at h hE hG
  rw [hp] at this
  exact this
end
def s15 : AStore := ⟨0, [(kA5, ⟨[120, 121, 122], 0, 0⟩)], [], false⟩
theorem ok_st0 : st05.Ok := ⟨by decide, by decide, by unfold SortedB; decide +kernel, by decide⟩
theorem ok_s1 : s15.Ok := ⟨by decide, by decide, by unfold SortedB; decide +kernel, by decide⟩
theorem ok_s2 : s25.Ok := ⟨by decide, by decide, by unfold SortedB; decide +kernel, by decide⟩
theorem ok_s3 : s35.Ok := ⟨by decide, by decide, by unfold SortedB; decide +kernel, by decide⟩
theorem ok_s4 : s45.Ok := ⟨by decide, by decide, by unfold SortedB; decide +kernel, by decide⟩
theorem ok_s5 : s55.Ok := ⟨by decide, by decide, by unfold SortedB; decide +kernel, by decide⟩
theorem ok_s6 : s65.Ok := ⟨by decide, by decide, by unfold SortedB; decide +kernel, by decide⟩
theorem ok_s7 : s75.Ok := ⟨by decide, by decide, by unfold SortedB; decide +kernel, by decide⟩
theorem put_1 : pPut st05 kA5 [120, 121, 122] = (s15, 0) := rfl
theorem put_2 : pPut s15 kB5 [117, 118] = (s25, 0) := rfl
theorem put_4 : pPut s35 kA5 [113] = (s45, 0) := rfl
theorem drop_6 : pDrop s55 kB5 = (s65, 0) := rfl
set_option maxRecDepth 100000 in
set_option maxHeartbeats 8000000 in
theorem awake5_any (w : World) (hE : WEnv w) : Calls Tryz.prog 18 #[] w fun e w' => e = .returned (.bool true) ∧ Below w.heap.size w w' := by
  have kc := fun (w : World) (C : Array Value) (n c : Nat) => Lib.run_convert_bytes_const (P := Tryz.prog) w 25 5 C n c Tryz.underlying25 Tryz.underlying5
  obtain ⟨d1, d2, d3, d4, d5, hA⟩ := awake5_plain
  obtain ⟨ex, hex⟩ : ∃ ex : Nat → Prop, ex = fun k => k < w.heap.size := ⟨_, rfl⟩
  have hx0 : ∀ k, ex k → k < w.heap.size := fun k hk => by rw [hex] at hk; exact hk
  have hG : GlIn ex := by rw [hex]; exact hE.lt
  have Hex := Lib.hid hex
  have HE := Lib.hid hE
  have HA := Lib.hid hA
  clear hex hE hA
  go_enter Tryz.func18, Tryz.ntmps18
  go_wp2_with fail
  refine (New_at (ex := ex) 1000 (by decide) (by decide) hx0).mono ?_
  generalize hp : w.heap.size + 1 = p
  generalize hm : w.heap.size = m
  rintro e w0 ⟨rfl, h0, kk0⟩
  clear hp hm
  go_wp2_with fail
  refine (pgOpen0_at h0 (HE.out.keep kk0 hG) hG rfl rfl).mono ?_
  rintro e w1 ⟨q, rfl, h1, k1, _⟩
  have kk1 := kk0.trans k1
  replace h1 : StoreAt ex w1 q p m (newD 1000) st05 := h1
  clear h0 kk0 k1
  go_wp2_with fail
  have hBa : Below w1.heap.size w1 (w1.alloc (.cells #[.int .u8 120, .int .u8 121, .int .u8 122] 5 (3, 4))) := (Below.refl _ _).alloc (Nat.le_refl _) _
  refine (put_by (s := kA5) 0 (h1.below hBa) ok_st0 (by decide) (Rd_new w1 #[.int .u8 120, .int .u8 121, .int .u8 122] 5 (3, 4) (bcells [120, 121, 122]) 3 3 rfl rfl) (by decide) put_1).mono ?_
  rintro e w2 ⟨rfl, h2, k2⟩
  have kk2 := (kk1.trans (Keep.ofBelow hBa (fun k hk => h1.lt hk))).trans k2
  clear h1 kk1 k2 hBa
  go_wp2_with fail
  have hBa : Below w2.heap.size w2 (w2.alloc (.cells #[.int .u8 117, .int .u8 118] 5 (2, 3))) := (Below.refl _ _).alloc (Nat.le_refl _) _
  refine (put_by (s := kB5) 0 (h2.below hBa) ok_s1 (by decide) (Rd_new w2 #[.int .u8 117, .int .u8 118] 5 (2, 3) (bcells [117, 118]) 2 2 rfl rfl) (by decide) put_2).mono ?_
  rintro e w3 ⟨rfl, h3, k2⟩
  have kk3 := (kk2.trans (Keep.ofBelow hBa (fun k hk => h2.lt hk))).trans k2
  clear h2 kk2 k2 hBa
  go_wp2_with fail
  have hBf : Below w3.heap.size w3 (w3.alloc (.cells #[.string ⟨#[99, 49]⟩, .string ⟨#[105, 49]⟩] 9)) := (Below.refl _ _).alloc (Nat.le_refl _) _
  have hxf : StoreAt (fun k => ex k ∨ k = w3.heap.size) (w3.alloc (.cells #[.string ⟨#[99, 49]⟩, .string ⟨#[105, 49]⟩] 9)) q p m (newD 1000) s25 := h3.more hBf (fun k hk => hk.imp id (fun h => ⟨by omega, by simp; omega⟩))
  refine (commits5_yes (ex := fun k => ex k ∨ k = w3.heap.size) 1 _ ns1 hxf ok_s2 ((HE.out.keep kk3 hG).below hBf) (hG.mono (fun _ h => Or.inl h)) HA.out.c1 rfl HA.out.n1 (Rd_new w3 #[.string ⟨#[99, 49]⟩, .string ⟨#[105, 49]⟩] 9 _ (sCells ns1) 2 2 rfl rfl) (fun g hg => by cases hg; exact Or.inr rfl) (by decide)).mono ?_
  rintro e w4 ⟨rfl, hx, kx⟩
  have h4 := hx.mono (ex' := ex) (fun k hk => Or.inl hk)
  have kk4 := (kk3.trans (Keep.ofBelow hBf (fun k hk => h3.lt hk))).trans (kx.mono (fun k hk => Or.inl hk))
  clear hx kx hBf hxf h3 kk3
  go_wp2_with fail
  have hBa : Below w4.heap.size w4 (w4.alloc (.cells #[.int .u8 113] 5 (1, 2))) := (Below.refl _ _).alloc (Nat.le_refl _) _
  refine (put_by (s := kA5) 0 (h4.below hBa) ok_s3 (by decide) (Rd_new w4 #[.int .u8 113] 5 (1, 2) (bcells [113]) 1 1 rfl rfl) (by decide) put_4).mono ?_
  rintro e w5 ⟨rfl, h5, k2⟩
  have kk5 := (kk4.trans (Keep.ofBelow hBa (fun k hk => h4.lt hk))).trans k2
  clear h4 kk4 k2 hBa
  go_wp2_with fail
  have hBf : Below w5.heap.size w5 (w5.alloc (.cells #[.string ⟨#[99, 49]⟩, .string ⟨#[99, 50]⟩, .string ⟨#[105, 49]⟩, .string ⟨#[105, 50]⟩] 9)) := (Below.refl _ _).alloc (Nat.le_refl _) _
  have hxf : StoreAt (fun k => ex k ∨ k = w5.heap.size) (w5.alloc (.cells #[.string ⟨#[99, 49]⟩, .string ⟨#[99, 50]⟩, .string ⟨#[105, 49]⟩, .string ⟨#[105, 50]⟩] 9)) q p m d1 s45 := h5.more hBf (fun k hk => hk.imp id (fun h => ⟨by omega, by simp; omega⟩))
  refine (commits5_yes (ex := fun k => ex k ∨ k = w5.heap.size) 2 _ ns2 hxf ok_s4 ((HE.out.keep kk5 hG).below hBf) (hG.mono (fun _ h => Or.inl h)) HA.out.c2 rfl HA.out.n2 (Rd_new w5 #[.string ⟨#[99, 49]⟩, .string ⟨#[99, 50]⟩, .string ⟨#[105, 49]⟩, .string ⟨#[105, 50]⟩] 9 _ (sCells ns2) 4 4 rfl rfl) (fun g hg => by cases hg; exact Or.inr rfl) (by decide)).mono ?_
  rintro e w6 ⟨rfl, hx, kx⟩
  have h6 := hx.mono (ex' := ex) (fun k hk => Or.inl hk)
  have kk6 := (kk5.trans (Keep.ofBelow hBf (fun k hk => h5.lt hk))).trans (kx.mono (fun k hk => Or.inl hk))
  clear hx kx hBf hxf h5 kk5
  go_wp2_with fail
  refine (Read_at ⟨#[99, 49]⟩ h6.disk (by decide)).mono ?_
  rw [HA.out.r2.1, HA.out.r2.2]
  rintro e w7 ⟨a5, c5, rfl, row5, hB7⟩
  have h7 : StoreAt (fun k => ex k ∨ (Value.slice a5 [120, 121, 122, 117, 118].length c5).ownBlock = some k) w7 q p m d2 s55 := h6.more hB7 (fun k hk => hk.imp id (fun h => ⟨row_from row5 h, row_lt row5 h⟩))
  have kk7 := kk6.trans (Keep.ofBelow hB7 (fun k hk => h6.lt hk))
  have Row5 := Lib.hid row5
  clear h6 kk6 row5 hB7
  go_wp2_with fail
  refine (free_by 0 h7 (HE.out.keep kk7 hG) (hG.mono (fun _ h => Or.inl h)) HA.out.f3).mono ?_
  rintro e w8 ⟨a6, c6, rfl, row6, h8', k8⟩
  have row5 := k8.row Row5.out (fun b hb => Or.inr hb)
  have hcv := run_bytes_str (P := Tryz.prog) (Rd.ofOwns row5) Tryz.underlying25 Tryz.underlying5 Tryz.underlying9
  replace hcv : (convert 25 9 (.slice a5 5 c5)).run Tryz.prog w8 = .ok (.string ⟨#[120, 121, 122, 117, 118]⟩) w8 := hcv
  have h8 := h8'.mono (ex' := ex) (fun k hk => Or.inl (Or.inl hk))
  have kk8 := kk7.trans (k8.mono (fun k hk => Or.inl hk))
  have Row6 := Lib.hid row6
  clear h7 kk7 row5 row6 h8' k8
  go_wp2_with fail
  have hBf : Below w8.heap.size w8 (w8.alloc (.cells #[.string ⟨#[105, 49]⟩] 9)) := (Below.refl _ _).alloc (Nat.le_refl _) _
  refine (SameTexts_any _ _ _ [⟨#[105, 49]⟩] [⟨#[105, 49]⟩] ((Rd.ofOwns Row6.out).below hBf) (Rd_new w8 #[.string ⟨#[105, 49]⟩] 9 _ (sCells [⟨#[105, 49]⟩]) 1 1 rfl rfl) (by simp [maxLen]) (by simp [maxLen])).mono ?_
  rw [decide_eq_true rfl]
  rintro e w9 ⟨rfl, hBx⟩
  have hBy := hBf.trans (hBx.mono hBf.size)
  have h9 := h8.below hBy
  have kk9 := kk8.trans (Keep.ofBelow hBy (fun k hk => h8.lt hk))
  clear hBf hBx hBy h8 kk8
  go_wp2_with fail
  clear hcv
  refine (holds5_yes kA5 ⟨#[113]⟩ h9 (by decide) ⟨[113], 2, 0⟩ rfl rfl (by decide)).mono ?_
  rintro e w10 ⟨rfl, hBy⟩
  have h10 := h9.below hBy
  have kk10 := kk9.trans (Keep.ofBelow hBy (fun k hk => h9.lt hk))
  clear hBy h9 kk9
  go_wp2_with fail
  refine (holds5_yes kB5 ⟨#[117, 118]⟩ h10 (by decide) ⟨[117, 118], 1, 3⟩ rfl rfl (by decide)).mono ?_
  rintro e w11 ⟨rfl, hBy⟩
  have h11 := h10.below hBy
  have kk11 := kk10.trans (Keep.ofBelow hBy (fun k hk => h10.lt hk))
  clear hBy h10 kk10
  go_wp2_with fail
  refine (drop_by (s := kB5) 0 h11 ok_s5 (by decide) drop_6).mono ?_
  rintro e w12 ⟨rfl, h12, k12⟩
  have kk12 := kk11.trans k12
  clear h11 kk11 k12
  go_wp2_with fail
  have hBf : Below w12.heap.size w12 (w12.alloc (.cells #[.string ⟨#[99, 49]⟩, .string ⟨#[99, 50]⟩, .string ⟨#[105, 50]⟩, .string ⟨#[105, 51]⟩] 9)) := (Below.refl _ _).alloc (Nat.le_refl _) _
  have hxf : StoreAt (fun k => ex k ∨ k = w12.heap.size) (w12.alloc (.cells #[.string ⟨#[99, 49]⟩, .string ⟨#[99, 50]⟩, .string ⟨#[105, 50]⟩, .string ⟨#[105, 51]⟩] 9)) q p m d3 s65 := h12.more hBf (fun k hk => hk.imp id (fun h => ⟨by omega, by simp; omega⟩))
  refine (commits5_yes (ex := fun k => ex k ∨ k = w12.heap.size) 3 _ ns4 hxf ok_s6 ((HE.out.keep kk12 hG).below hBf) (hG.mono (fun _ h => Or.inl h)) HA.out.c4 rfl HA.out.n4 (Rd_new w12 #[.string ⟨#[99, 49]⟩, .string ⟨#[99, 50]⟩, .string ⟨#[105, 50]⟩, .string ⟨#[105, 51]⟩] 9 _ (sCells ns4) 4 4 rfl rfl) (fun g hg => by cases hg; exact Or.inr rfl) (by decide)).mono ?_
  rintro e w13 ⟨rfl, hx, kx⟩
  have h13 := hx.mono (ex' := ex) (fun k hk => Or.inl hk)
  have kk13 := (kk12.trans (Keep.ofBelow hBf (fun k hk => h12.lt hk))).trans (kx.mono (fun k hk => Or.inl hk))
  clear hx kx hBf hxf h12 kk12
  go_wp2_with fail
  refine (free_by 0 h13 (HE.out.keep kk13 hG) hG HA.out.f5).mono ?_
  rintro e w14 ⟨a7, c7, rfl, row7, h14', k14⟩
  have h14 := h14'.mono (ex' := ex) (fun k hk => Or.inl hk)
  have kk14 := kk13.trans k14
  have Row7 := Lib.hid row7
  clear h13 kk13 row7 h14' k14
  go_wp2_with fail
  have hBf : Below w14.heap.size w14 (w14.alloc (.cells #[.string ⟨#[99, 49]⟩, .string ⟨#[105, 50]⟩] 9)) := (Below.refl _ _).alloc (Nat.le_refl _) _
  refine (SameTexts_any _ _ _ [⟨#[99, 49]⟩, ⟨#[105, 50]⟩] [⟨#[99, 49]⟩, ⟨#[105, 50]⟩] ((Rd.ofOwns Row7.out).below hBf) (Rd_new w14 #[.string ⟨#[99, 49]⟩, .string ⟨#[105, 50]⟩] 9 _ (sCells [⟨#[99, 49]⟩, ⟨#[105, 50]⟩]) 2 2 rfl rfl) (by simp [maxLen]) (by simp [maxLen])).mono ?_
  rw [decide_eq_true rfl]
  rintro e w15 ⟨rfl, hBx⟩
  have hBy := hBf.trans (hBx.mono hBf.size)
  have h15 := h14.below hBy
  have kk15 := kk14.trans (Keep.ofBelow hBy (fun k hk => h14.lt hk))
  clear hBf hBx hBy h14 kk14
  go_wp2_with fail
  refine (pgKeys_at h15 ok_s7).mono ?_
  rintro e w16 ⟨a8, c8, rfl, row8, hB8⟩
  have h16 := h15.below hB8
  have kk16 := kk15.trans (Keep.ofBelow hB8 (fun k hk => h15.lt hk))
  have Row8 := Lib.hid row8
  clear h15 kk15 row8 hB8
  go_wp2_with fail
  have hBf : Below w16.heap.size w16 (w16.alloc (.cells #[.string ⟨#[97]⟩] 9)) := (Below.refl _ _).alloc (Nat.le_refl _) _
  refine (SameTexts_any _ _ _ [⟨#[97]⟩] [⟨#[97]⟩] ((Rd.ofOwns Row8.out).below hBf) (Rd_new w16 #[.string ⟨#[97]⟩] 9 _ (sCells [⟨#[97]⟩]) 1 1 rfl rfl) (by simp [maxLen]) (by simp [maxLen])).mono ?_
  rw [decide_eq_true rfl]
  rintro e w17 ⟨rfl, hBx⟩
  have hBy := hBf.trans (hBx.mono hBf.size)
  have h17 := h16.below hBy
  have kk17 := kk16.trans (Keep.ofBelow hBy (fun k hk => h16.lt hk))
  clear hBf hBx hBy h16 kk16
  go_wp2
  go_ret
  exact ⟨rfl, kk17.below (fun k hk => by rw [Hex.out]; exact hk)⟩
end Go.Proofs.YtbepcjajbcecnaaGreatDoor
